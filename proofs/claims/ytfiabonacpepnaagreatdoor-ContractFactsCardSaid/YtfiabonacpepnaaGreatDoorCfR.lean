/- What the walk wants of chapter 07's texts on facts (printed by mk14f.py). -/
import Derived.Test.YtfiabonacpepnaaGreatDoorFkU
import Derived.Deep.RegionHeld3
import Derived.Carry
import Derived.Laws.CopyRow
import Derived.Deep.Upon
namespace Go.Proofs.YtfiabonacpepnaaGreatDoor.Fb
open Go Go.RowKit Go.Lib Go.Shelf Go.Maps

def zb : Array Value := #[.slice none 0 0, .slice none 0 0, .slice none 0 0, .slice none 0 0, .slice none 0 0, .slice none 0 0, .slice none 0 0, .slice none 0 0, .slice none 0 0, .slice none 0 0]
theorem one_cells (f : FactV) : f.cells.all (·.oneCell') = true := f.cells_one
/-- what the round over the facts keeps -/
structure Of1 (w : World) (v : Value) (l : List FactV) (j : Nat) (wr : World) : Prop where
  map : MapF wr (w.heap.size + 1) j (bestL (l.take j))
  zb : RowAt wr w.heap.size 53 zb
  below : Below w.heap.size w wr
theorem Of1.facts {w wr : World} {v : Value} {l : List FactV} {j : Nat} (h : Of1 w v l j wr) (hv : FactsAt w v l) : FactsAt wr v l := by
  rcases hv with h0 | ⟨b, o, c, rfl, hlt, hc⟩
  · exact .inl h0
  · exact .inr ⟨b, o, c, rfl, Nat.lt_of_lt_of_le hlt h.below.size, fun i f hf j x hx => (h.below.cell (p := ⟨b, o + i * 18 + j, none⟩) hlt).trans (hc i f hf j x hx)⟩
/-- only new blocks came -/
theorem Of1.more {w wr W : World} {v : Value} {l : List FactV} {j : Nat} (h : Of1 w v l j wr) (hb : Below wr.heap.size wr W) : Of1 w v l j W :=
  ⟨h.map.kept (hb.block _ h.map.lt), h.zb.below hb h.zb.lt, h.below.trans (hb.mono h.below.size)⟩
theorem Of1.lt {w wr : World} {v : Value} {l : List FactV} {j : Nat} (h : Of1 w v l j wr) : w.heap.size + 1 < wr.heap.size := h.map.lt
theorem take_next {l : List FactV} {j : Nat} {f : FactV} (h : l[j]? = some f) : l.take (j + 1) = l.take j ++ [f] := by rw [List.take_add_one, h]; rfl
/-- the next fact makes no difference -/
theorem Of1.skip {w wr : World} {v : Value} {l : List FactV} {j : Nat} {f : FactV} (h : Of1 w v l j wr) (hf : l[j]? = some f) (hs : stepB (bestL (l.take j)) f = bestL (l.take j)) : Of1 w v l (j + 1) wr :=
  ⟨by rw [take_next hf, bestL_snoc, hs]; exact h.map.mono (by omega), h.zb, h.below⟩

theorem Of1.put {w wr W : World} {v : Value} {l : List FactV} {j : Nat} {f : FactV} (h : Of1 w v l j wr) (hf : l[j]? = some f) (hs : stepB (bestL (l.take j)) f = putL (bestL (l.take j)) f) (hm : MapF W (w.heap.size + 1) (j + 1) (putL (bestL (l.take j)) f)) (hg : wr.grownBy W (some (w.heap.size + 1))) : Of1 w v l (j + 1) W :=
  ⟨by rw [take_next hf, bestL_snoc, hs]; exact hm, (hg.block _ h.zb.lt (by intro e; simp at e)).trans h.zb, h.below.grown hg h.below.size (fun k hk => by cases hk; omega)⟩
theorem z18 : zf.cells.size = 18 := rfl

def lenS : Value → Nat
  | .slice _ n _ => n
  | _ => 0
theorem OwnK.len {w : World} {base : Nat} {v : Value} {ks : List (Int × Int × Int)} (h : OwnK w base v ks) : lenS v = ks.length := by
  rcases h.2 with ⟨rfl, hn⟩ | ⟨g, cap, cur, rfl, _⟩
  · exact hn.symm
  · rfl
theorem perm_keys {ks : List (Int × Int × Int)} {L : List FactV} (h : (ks.map kV).Perm (L.map keyV)) : ks.Perm (L.map kT) := by
  have e : L.map keyV = (L.map kT).map kV := by rw [List.map_map]; rfl
  rw [e] at h
  have hd : ∀ (l : List (Int × Int × Int)), (l.map kV).map (fun v => match v with | .agg ⟨[.int _ a, .int _ b, .int _ c]⟩ => (a, b, c) | _ => (0, 0, 0)) = l := by
    intro l
    rw [List.map_map]
    refine (List.map_congr_left (fun k _ => ?_)).trans (List.map_id l)
    rfl
  have := h.map (fun v => match v with | .agg ⟨[.int _ a, .int _ b, .int _ c]⟩ => (a, b, c) | _ => ((0, 0, 0) : Int × Int × Int))
  rwa [hd, hd] at this
/-- what the round over the map keeps: the keys gathered -/
structure Of2 (wr : World) (mb n : Nat) (L : List FactV) (v9 : Value) (ks : List (Int × Int × Int)) (wx : World) : Prop where
  own : OwnK wx (wr.heap.size + 1) v9 ks
  rng : RangeF wx mb wr.heap.size n L (ks.map kV)
  below : Below wr.heap.size wr wx
  size : wr.heap.size + 1 ≤ wx.heap.size

theorem base_size : (Tryz.prog.info? 53).map (·.size) = some 10 := by kernel_rfl
theorem load_base {ops : Array Oper} {rest : List Oper} {o : Oper} {a : Act} {w : World} {Q : Exit → Act → World → Prop} (x : Operand) (b : Nat) (cs : Array Value) (hc : ∀ j v, cs[j]? = some v → w.cell? ⟨b, 0 + j, none⟩ = some v) (hi : (Tryz.prog.info? 53).map (·.size) = some cs.size)
    (hgd : o.guard = none) (ho : o.op = .load 53 x) (hx : a.eval x = .pointer (some ⟨b, 0, none⟩))
    (h : wpList Tryz.prog ops Q rest (a.put o.dst (.agg cs)) w) : wpList Tryz.prog ops Q (o :: rest) a w :=
  wpList_load_at hgd _ x ho b 0 hx cs _ hc Tryz.underlying53 rfl hi h
theorem results_cell1 {P : Program} {fn : Func} {p : Tmp} {ty : TypeId} (h : fn.results = #[.cell p ty]) (tmps : Array Value) (w : World) (ad : Addr) (v : Value) (hp : tmps.getD p undef = .pointer (some ad)) (hl : (loadVar ty ad).run P w = .ok v w) :
    (results fn tmps).run P w = .ok v w := by
  have hp' : tmps[p]?.getD undef = .pointer (some ad) := by simpa using hp
  simp [results, h, hp', asAddr, hl]
theorem own_slice {w : World} {b e s n : Nat} {v : Value} {x : List Value} (h : w.ownsRow b e s v n x) : ∃ A n' c, v = .slice A n' c := by
  rcases h.2 with ⟨rfl, _⟩ | ⟨g, cap, cur, rfl, _⟩ <;> exact ⟨_, _, _, rfl⟩
theorem Lists.one {w : World} {base : Nat} {bs : Array Value} {fs : List FactV} (h : Lists w base bs fs) : bs.all (·.oneCell') = true := by
  rw [Array.all_eq_true_iff_forall_mem]
  intro v hv
  obtain ⟨q, hq⟩ := Array.getElem?_of_mem hv
  have hlt := (Array.getElem?_eq_some_iff.1 hq).1
  rw [h.size] at hlt
  obtain ⟨u, h1, h2⟩ := h.own q hlt
  rw [hq] at h1
  cases h1
  obtain ⟨A, n, c, rfl⟩ := own_slice h2
  rfl
theorem setRow_at {w : World} {g : Nat} {cs old : Array Value} {t : TypeId} (h : RowAt w g t old) : RowAt (w.setRow g cs) g t cs := by
  unfold RowAt at *
  simp [World.setRow, Array.getElem?_modify, h]
theorem setRow_far {w : World} {g k : Nat} {cs : Array Value} (h : k ≠ g) : (w.setRow g cs).heap[k]? = w.heap[k]? := by
  simp [World.setRow, Array.getElem?_modify, Ne.symm h]
theorem below_setR {B g : Nat} {a w : World} {cs : Array Value} (h : Below B a w) (hg : B ≤ g) : Below B a (w.setRow g cs) :=
  ⟨h.os, h.tape, h.output, by simpa [World.setRow] using h.size, fun k hk => by
    rw [← h.block k hk]
    exact setRow_far (by omega)⟩
theorem Lists.last {w : World} {base B : Nat} {bs : Array Value} {fs : List FactV} (h : Lists w base bs fs) (cs : Array Value) (hB : B < base) : Lists (w.setRow B cs) B bs fs :=
  ⟨h.size, fun q hq => by
    obtain ⟨v, h1, h2⟩ := h.own q hq
    have h3 := owns_other h2 (w' := w.setRow B cs) (fun j hj _ => setRow_far (by omega))
    refine ⟨v, h1, h3.1, ?_⟩
    rcases h3.2 with h0 | ⟨g, cap, cur, hv, hbg, rest⟩
    · exact .inl h0
    · exact .inr ⟨g, cap, cur, hv, by omega, rest⟩, h.apart⟩
theorem store_base {ops : Array Oper} {rest : List Oper} {o : Oper} {a : Act} {w : World} {Q : Exit → Act → World → Prop} (x y : Operand) (g : Nat) (cs old : Array Value) (hg : RowAt w g 53 old) (hi : (Tryz.prog.info? 53).map (·.size) = some cs.size)
    (hold : old.size = cs.size) (h1 : cs.all (·.oneCell') = true) (hgd : o.guard = none) (ho : o.op = .store 53 x y) (hx : a.eval x = .pointer (some ⟨g, 0, none⟩)) (hy : a.eval y = .agg cs)
    (h : wpList Tryz.prog ops Q rest (a.put o.dst undef) (w.setRow g cs)) : wpList Tryz.prog ops Q (o :: rest) a w :=
  wpList_plain hgd fun _ hK => wp_store_row _ x y ho g cs hx hy _ old hg hi hold h1 (hK _ _ h)
theorem nodup_kT {L : List FactV} (h : (L.map keyV).Nodup) : (L.map kT).Nodup := by
  have e : L.map keyV = (L.map kT).map kV := by rw [List.map_map]; rfl
  rw [e] at h
  rw [List.Nodup, List.pairwise_map] at h
  exact h.imp (fun hne e => hne (by rw [e]))
theorem perm_of_keys : ∀ (fs L : List FactV), (L.map kT).Nodup → (fs.map kT).Perm (L.map kT) → (∀ f ∈ fs, f ∈ L) → fs.Perm L
  | [], L, _, hp, _ => by
    have h := hp.length_eq
    simp at h
    rw [List.length_eq_zero_iff.1 h.symm]
  | f :: fs, L, hn, hp, hm => by
    obtain ⟨l1, l2, rfl⟩ := List.append_of_mem (hm f (by simp))
    have hpm : (l1 ++ f :: l2).Perm (f :: (l1 ++ l2)) := List.perm_middle
    have hp2 : (kT f :: fs.map kT).Perm (kT f :: (l1 ++ l2).map kT) := by
      have h := hp.trans (hpm.map kT)
      simpa using h
    have hn2 : (kT f :: fs.map kT).Nodup := by
      have h := hp.nodup_iff.2 hn
      simpa using h
    have hn3 : ((l1 ++ l2).map kT).Nodup := ((hp2.nodup_iff.1 hn2).of_cons)
    refine (List.Perm.cons f (perm_of_keys fs (l1 ++ l2) hn3 (List.Perm.cons_inv hp2) ?_)).trans hpm.symm
    intro g hg
    have h1 := hpm.mem_iff.1 (hm g (by simp [hg]))
    rcases List.mem_cons.1 h1 with rfl | h
    · exact absurd (List.mem_map_of_mem hg) (List.nodup_cons.1 hn2).1
    · exact h
theorem strict_keys {fs : List FactV} (hs : (fs.map kT).Pairwise (fun a b => ¬ kLt b a)) (hn : (fs.map kT).Nodup) : fs.Pairwise (fun a b => kLt (kT a) (kT b)) := by
  have h := List.Pairwise.and hs hn
  rw [List.pairwise_map] at h
  refine h.imp ?_
  intro a b hab
  obtain ⟨h1, h2⟩ := hab
  have h3 : ¬ (kT a = kT b) := h2
  unfold kLt at *
  have h4 : ¬ ((kT a).1 = (kT b).1 ∧ (kT a).2.1 = (kT b).2.1 ∧ (kT a).2.2 = (kT b).2.2) := fun e => h3 (Prod.ext e.1 (Prod.ext e.2.1 e.2.2))
  omega
theorem own_apart {w : World} {b1 b2 e1 e2 s1 s2 n1 n2 : Nat} {v1 v2 : Value} {x1 x2 : List Value} (h1 : w.ownsRow b1 e1 s1 v1 n1 x1) (h2 : w.ownsRow b2 e2 s2 v2 n2 x2) (he : e1 ≠ e2) : v1.ownBlock = none ∨ v1.ownBlock ≠ v2.ownBlock := by
  rcases h1.2 with ⟨rfl, _⟩ | ⟨g, cap, cur, rfl, _, hg, _⟩
  · exact .inl rfl
  · refine .inr ?_
    rcases h2.2 with ⟨rfl, _⟩ | ⟨g', cap', cur', rfl, _, hg', _⟩
    · simp [Value.ownBlock]
    · intro e
      simp only [Value.ownBlock, Option.some.injEq] at e
      subst e
      rw [hg] at hg'
      simp only [Option.some.injEq, Obj.cells.injEq] at hg'
      exact he hg'.2.1
theorem owns_far {w : World} {base : Nat} {e T : TypeId} {s n b q : Nat} {v : Value} {xs : List Value} {cs : Array Value} (h : w.ownsRow base e s v n xs) (hb : RowAt w b T cs) (he : e ≠ T) (u : Value) : (w.setCell ⟨b, q, none⟩ u).ownsRow base e s v n xs := by
  refine ⟨h.1, ?_⟩
  rcases h.2 with h0 | ⟨g, cap, cur, hv, hbg, hg, rest⟩
  · exact .inl h0
  · refine .inr ⟨g, cap, cur, hv, hbg, (Below.heap_setCell w ⟨b, q, none⟩ u g (fun e2 => ?_)).trans hg, rest⟩
    have e3 : g = b := e2
    subst e3
    have h1 : some (Obj.cells cur e (0, 0)) = some (Obj.cells cs T (0, 0)) := hg.symm.trans hb
    simp only [Option.some.injEq, Obj.cells.injEq] at h1
    exact he h1.2.1
theorem OwnK.sl {w : World} {base : Nat} {v : Value} {ks : List (Int × Int × Int)} (h : OwnK w base v ks) : ∃ A c, v = .slice A ks.length c := by
  rcases h.2 with ⟨rfl, hn⟩ | ⟨g, cap, cur, rfl, _⟩
  · rw [hn]; exact ⟨none, 0, rfl⟩
  · exact ⟨_, cap, rfl⟩
theorem OwnK.at {w : World} {base n c : Nat} {A : Option Addr} {ks : List (Int × Int × Int)} (h : OwnK w base (.slice A n c) ks) {i : Nat} {k : Int × Int × Int} (hk : ks[i]? = some k) :
    ∃ g, A = some ⟨g, 0, none⟩ ∧ w.cell? ⟨g, i * 3, none⟩ = some (.int .i64 k.1) ∧ w.cell? ⟨g, i * 3 + 1, none⟩ = some (.int .i64 k.2.1) ∧ w.cell? ⟨g, i * 3 + 2, none⟩ = some (.int .i64 k.2.2) := by
  have hi := (List.getElem?_eq_some_iff.1 hk).1
  rcases h.2 with ⟨hv, hn⟩ | ⟨g, cap, cur, hv, _, hg, _, _, hcs, ht⟩
  · omega
  · cases hv
    have hc : ∀ j x, (kCell k)[j]? = some x → w.cell? ⟨g, i * 3 + j, none⟩ = some x := by
      intro j x hx
      have hj : j < 3 := (List.getElem?_eq_some_iff.1 hx).1
      have h1 := kCells_get ks i k hk j x hx
      rw [← ht, List.getElem?_take_of_lt (by omega)] at h1
      rw [cell_of_row w g _ cur _ _ hg, ← Array.getElem?_toList]
      exact h1
    exact ⟨g, rfl, hc 0 _ rfl, hc 1 _ rfl, hc 2 _ rfl⟩
theorem yields_at {P : Program} {ops : Array Oper} {S : World → Prop} {o : Oper} {a : Act} (ty : TypeId) (x : Operand) (b off : Nat) (cs : Array Value) (d : TypeDesc) (hc : ∀ w, S w → ∀ j v, cs[j]? = some v → w.cell? ⟨b, off + j, none⟩ = some v)
    (hu : P.underlying ty = some d) (hw : Region.wanted o (yielded ops a.tmps) = true) (ho : o.op = .load ty x) (hx : a.eval x = .pointer (some ⟨b, off, none⟩)) (hd : (match d with | .struct _ | .array _ _ => true | _ => false) = true) (hi : (P.info? ty).map (·.size) = some cs.size) :
    YieldsIf P ops S o (.agg cs) a := by
  refine Or.inl ⟨hw, fun w h => ?_⟩
  simp only [execOp, ho, hx, Instr.loadAt, Instr.sureAddr, Sem.run_bind, Sem.run_pure, Result.andThen_ok, run_loadVar_at w b off ty cs d (hc w h) hu hd hi]

set_option maxRecDepth 100000 in
set_option maxHeartbeats 8000000 in
theorem of_any (l : List FactV) (v : Value) (w : World) (hn : l.length ≤ 1000000) (hok : ∀ f ∈ l, FactOk f) (hv : FactsAt w v l) :
    Calls Tryz.prog 28 #[v] w fun e w' => ∃ bs fs, e = .returned (.agg bs) ∧ Lists w' w.heap.size bs fs ∧ Below w.heap.size w w' ∧ fs.Perm (bestL l) ∧ fs.Pairwise (fun a b => kLt (kT a) (kT b)) := by
  have HV := Lib.hid hv
  have HOK := Lib.hid hok
  have hmm := @run_makeMap Tryz.prog
  obtain ⟨m, hm⟩ : ∃ z, l.length = z := ⟨_, rfl⟩
  obtain ⟨A, c, rfl⟩ := hv.sl
  rw [hm] at HV hn ⊢
  have HM := Lib.hid hm
  have H0 : Of1 w (.slice A m c) l 0 ((w.alloc (.cells #[.slice none 0 0, .slice none 0 0, .slice none 0 0, .slice none 0 0, .slice none 0 0, .slice none 0 0, .slice none 0 0, .slice none 0 0, .slice none 0 0, .slice none 0 0] 53)).alloc (.map #[] 0)) := by
    refine ⟨?_, (RowAt.new w _ _).alloc _, ((Below.refl _ _).alloc (Nat.le_refl _) _).alloc (by simp) _⟩
    have h := MapF.new (w.alloc (.cells #[.slice none 0 0, .slice none 0 0, .slice none 0 0, .slice none 0 0, .slice none 0 0, .slice none 0 0, .slice none 0 0, .slice none 0 0, .slice none 0 0, .slice none 0 0] 53))
    simpa [bestL] using h
  have H0 := Lib.hid H0
  clear hv hok hm
  go_enter Tryz.func28, Tryz.ntmps28
  go_wp2_with fail
  go_loopw [19] (fun v19 wr => ∃ j : Nat, v19 = .int .i64 j ∧ j ≤ m ∧ Hid (Of1 w (.slice A m c) l j wr)) (fun v19 _ => m - (RowKit.intOf v19).toNat)
  case atStart => exact ⟨0, rfl, by omega, H0⟩
  case round =>
    obtain ⟨j, rfl, hj, HS⟩ := hrel
    by_cases hj2 : j < m
    · have hjd : decide (j < m) = true := by simpa using hj2
      obtain ⟨f, hf⟩ : ∃ x, l[j]? = some x := ⟨_, List.getElem?_eq_getElem (by have := HM.out; omega)⟩
      have hfm := List.mem_of_getElem? hf
      have hfo := HOK.out f hfm
      obtain ⟨b, o, c', hA, hlt, hcell⟩ : ∃ b o c', A = some ⟨b, o, none⟩ ∧ b < wr.heap.size ∧ ∀ j2 x, f.cells[j2]? = some x → wr.cell? ⟨b, o + j * 18 + j2, none⟩ = some x := by
        rcases (HS.out.facts HV.out) with ⟨h0, _⟩ | ⟨b, o, c', he, hlt, hc⟩
        · rw [h0] at hf; simp at hf
        · cases he
          exact ⟨b, o, c, rfl, hlt, hc j f hf⟩
      subst hA
      obtain ⟨N, hN⟩ : ∃ z, wr.heap.size = z := ⟨_, rfl⟩
      have HN := Lib.hid hN
      have HFO := Lib.hid (And.intro hf hfo)
      have VF := Lib.hid (fun W => valid_any f W (hfo 0).1 (hfo 0).2)
      have KF := Lib.hid (fun W => key_any f W (hfo 0).1 (hfo 0).2)
      have HONE : Hid (f.cells.all (·.oneCell') = true) := Lib.hid (one_cells f)
      have HCS : Hid ((Tryz.prog.info? 47).map (·.size) = some f.cells.size) := Lib.hid fact_size
      have h18 : Hid (f.cells.size = 18) := Lib.hid rfl
      obtain ⟨cf, hcf⟩ : ∃ z, f.cells = z := ⟨_, rfl⟩
      have HCF := Lib.hid hcf
      rw [hcf] at VF KF HONE HCS h18 hcell
      have HC := Lib.hid hcell
      have h18b : Hid ((#[Value.int .i64 0, .int .i64 0, .int .i64 0, .int .i64 0, .int .i64 0, .int .i64 0, .int .i64 0, .int .i64 0, .int .i64 0, .int .i64 0, .int .i64 0, .int .i64 0, .int .i64 0, .int .i64 0, .int .i64 0, .int .i64 0, .int .i64 0, .string ⟨#[]⟩] : Array Value).size = cf.size) := Lib.hid (by rw [h18.out]; rfl)
      have HR1 : Hid (RowAt (wr.alloc (.cells cf 47)) N 47 cf) := Lib.hid (by rw [← hN]; exact RowAt.new _ _ _)
      have HB1 : Hid (Below wr.heap.size wr (wr.alloc (.cells cf 47))) := Lib.hid ((Below.refl _ _).alloc (Nat.le_refl _) _)
      have HL1 : Hid (∀ j2 x, cf[j2]? = some x → (wr.alloc (.cells cf 47)).cell? ⟨N, 0 + j2, none⟩ = some x) := Lib.hid (fun j2 x hx => by rw [Nat.zero_add, HR1.out.cell]; exact hx)
      clear hf hfm hfo hcell hcf
      go_wp2_with (first | ((with_reducible refine load_at (o := ⟨some 22, _, _, _, _, _⟩) (.tmp 21) b (o + j * 18) cf HC.out HCS.out ?_ ?_ ?_ ?_); rfl; rfl; rfl) | ((with_reducible refine store_cs (o := ⟨none, _, _, _, _, _⟩) (.tmp 5) (.tmp 22) N HN.out _ cf HCS.out HONE.out h18b.out ?_ ?_ ?_ ?_ ?_); rfl; rfl; rfl; rfl) | ((with_reducible refine load_cs (o := ⟨some 23, _, _, _, _, _⟩) (.tmp 5) N cf HL1.out HCS.out ?_ ?_ ?_ ?_); rfl; rfl; rfl))
      refine (VF.out _).mono ?_
      rintro e W2 ⟨rfl, hb2⟩
      have HB2 : Hid (Below wr.heap.size wr W2) := Lib.hid (HB1.out.trans (hb2.mono HB1.out.size))
      have HR2 : Hid (RowAt W2 N 47 cf) := Lib.hid (HR1.out.below hb2 HR1.out.lt)
      clear hb2 hN
      cases hvd : validB f
      · go_wp2_with fail
        go_roundw
        case rel =>
          exact ⟨j + 1, by go_num, by omega, Lib.hid (((HS.out.more HB2.out)).skip HFO.out.1 (by unfold stepB; rw [hvd]; rfl))⟩
        case measure => simp [RowKit.intOf]; omega
      · have HL2 : Hid (∀ j2 x, cf[j2]? = some x → W2.cell? ⟨N, 0 + j2, none⟩ = some x) := Lib.hid (fun j2 x hx => by rw [Nat.zero_add, HR2.out.cell]; exact hx)
        have HVD := Lib.hid hvd
        clear hvd
        go_wp2_with (first | ((with_reducible refine load_cs (o := ⟨some 26, _, _, _, _, _⟩) (.tmp 5) N cf HL2.out HCS.out ?_ ?_ ?_ ?_); rfl; rfl; rfl))
        refine (KF.out _).mono ?_
        rintro e W3 ⟨rfl, hb3⟩
        have HB3 : Hid (Below wr.heap.size wr W3) := Lib.hid (HB2.out.trans (hb3.mono HB2.out.size))
        have HR3 : Hid (RowAt W3 N 47 cf) := Lib.hid (HR2.out.below hb3 HR2.out.lt)
        clear hb3
        have HKV : Hid (keyV f = .agg #[.int .i64 (f.n 0), .int .i64 (key2 f).1, .int .i64 (key2 f).2]) := Lib.hid rfl
        obtain ⟨x0, hx0⟩ : ∃ z, f.n 0 = z := ⟨_, rfl⟩
        obtain ⟨x1, hx1⟩ : ∃ z, (key2 f).1 = z := ⟨_, rfl⟩
        obtain ⟨x2, hx2⟩ : ∃ z, (key2 f).2 = z := ⟨_, rfl⟩
        rw [hx0, hx1, hx2] at HKV
        obtain ⟨W4, hW4⟩ : ∃ z, W3.alloc (.cells #[.int .i64 x0, .int .i64 x1, .int .i64 x2] 91) = z := ⟨_, rfl⟩
        obtain ⟨M, hM⟩ : ∃ z, W3.heap.size = z := ⟨_, rfl⟩
        have HM4 : Hid (RowAt W4 M 91 #[.int .i64 x0, .int .i64 x1, .int .i64 x2]) := Lib.hid (by rw [← hW4, ← hM]; exact RowAt.new _ _ _)
        have HB4 : Hid (Below wr.heap.size wr W4) := Lib.hid (by rw [← hW4]; exact HB3.out.alloc HB3.out.size _)
        have HR4 : Hid (RowAt W4 N 47 cf) := Lib.hid (by rw [← hW4]; exact HR3.out.alloc _)
        have h40 : W4.cell? ⟨M, 0, none⟩ = some (.int .i64 x0) := by rw [HM4.out.cell]; rfl
        have h41 : W4.cell? ⟨M, 1, none⟩ = some (.int .i64 x1) := by rw [HM4.out.cell]; rfl
        have h42 : W4.cell? ⟨M, 2, none⟩ = some (.int .i64 x2) := by rw [HM4.out.cell]; rfl
        have HO4 := Lib.hid (HS.out.more HB4.out)
        rw [HKV.out]
        rcases HO4.out.map.look (keyV f) (keyV_ok HFO.out.2) true with ⟨hno, hlk⟩ | ⟨g, hgm, hgk, hlk⟩
        · rw [if_pos rfl, HKV.out] at hlk
          have HNO := Lib.hid hno
          clear hx0 hx1 hx2 hno
          have hzs : zf.cells.size = 18 := z18
          have hzo := one_cells zf
          have hzi : (Tryz.prog.info? 47).map (·.size) = some zf.cells.size := fact_size
          obtain ⟨zc, hzc⟩ : ∃ z, zf.cells = z := ⟨_, rfl⟩
          rw [hzc] at hlk hzs hzo hzi
          have HZI := Lib.hid hzi
          have HZO := Lib.hid hzo
          have HZS : Hid ((#[Value.int .i64 0, .int .i64 0, .int .i64 0, .int .i64 0, .int .i64 0, .int .i64 0, .int .i64 0, .int .i64 0, .int .i64 0, .int .i64 0, .int .i64 0, .int .i64 0, .int .i64 0, .int .i64 0, .int .i64 0, .int .i64 0, .int .i64 0, .string ⟨#[]⟩] : Array Value).size = zc.size) := Lib.hid (by rw [hzs]; rfl)
          obtain ⟨W5, hW5⟩ : ∃ z, W4.alloc (.cells zc 47) = z := ⟨_, rfl⟩
          have HB5 : Hid (Below W4.heap.size W4 W5) := Lib.hid (by rw [← hW5]; exact (Below.refl _ _).alloc (Nat.le_refl _) _)
          have HO5 := Lib.hid (HO4.out.more HB5.out)
          have HM5 := Lib.hid (HM4.out.below HB5.out HM4.out.lt)
          have HR5 := Lib.hid (HR4.out.below HB5.out HR4.out.lt)
          have HL5 : Hid (∀ j2 x, cf[j2]? = some x → W5.cell? ⟨N, 0 + j2, none⟩ = some x) := Lib.hid (fun j2 x hx => by rw [Nat.zero_add, HR5.out.cell]; exact hx)
          have h50 : W5.cell? ⟨M, 0, none⟩ = some (.int .i64 x0) := by rw [HM5.out.cell]; rfl
          have h51 : W5.cell? ⟨M, 1, none⟩ = some (.int .i64 x1) := by rw [HM5.out.cell]; rfl
          have h52 : W5.cell? ⟨M, 2, none⟩ = some (.int .i64 x2) := by rw [HM5.out.cell]; rfl
          obtain ⟨W7, hpu, hm7, hg7⟩ := (HO5.out.map).put f HFO.out.2
          rw [HKV.out, HCF.out] at hpu
          have HM7 := Lib.hid (And.intro hm7 hg7)
          clear hm7 hg7
          clear hzs hzo hzi hzc
          go_wp2_with (first | ((with_reducible refine store_cs (o := ⟨none, _, _, _, _, _⟩) (.tmp 7) (.tmp 32) W4.heap.size rfl _ zc HZI.out HZO.out HZS.out ?_ ?_ ?_ ?_ ?_); rfl; rfl; rfl; rfl) | ((with_reducible refine load_cs (o := ⟨some 43, _, _, _, _, _⟩) (.tmp 5) N cf HL5.out HCS.out ?_ ?_ ?_ ?_); rfl; rfl; rfl))
          go_roundw
          case rel =>
            exact ⟨j + 1, by go_num, by omega, Lib.hid (HO5.out.put HFO.out.1 (by unfold stepB; rw [HVD.out, find_none HNO.out]; rfl) HM7.out.1 HM7.out.2)⟩
          case measure => simp [RowKit.intOf]; omega
        · rw [if_pos rfl, HKV.out] at hlk
          have HGM := Lib.hid (And.intro hgm hgk)
          have HFI := Lib.hid (find_key HO4.out.map.keys_nodup hgm hgk)
          have hgo : FactOk g := by
            obtain ⟨_, _, _, _, _, _, h⟩ := HO4.out.map
            exact h g hgm
          have HGI : Hid ((Tryz.prog.info? 47).map (·.size) = some g.cells.size) := Lib.hid fact_size
          have HGO := Lib.hid (one_cells g)
          have HGS : Hid (g.cells.size = 18) := Lib.hid rfl
          have HPV := Lib.hid (fun W => prevails_any f g W HFO.out.2 hgo)
          rw [HCF.out] at HPV
          obtain ⟨gc, hgc⟩ : ∃ z, g.cells = z := ⟨_, rfl⟩
          rw [hgc] at hlk HGI HGO HGS HPV
          have HZS : Hid ((#[Value.int .i64 0, .int .i64 0, .int .i64 0, .int .i64 0, .int .i64 0, .int .i64 0, .int .i64 0, .int .i64 0, .int .i64 0, .int .i64 0, .int .i64 0, .int .i64 0, .int .i64 0, .int .i64 0, .int .i64 0, .int .i64 0, .int .i64 0, .string ⟨#[]⟩] : Array Value).size = gc.size) := Lib.hid (by rw [HGS.out]; rfl)
          obtain ⟨W5, hW5⟩ : ∃ z, W4.alloc (.cells gc 47) = z := ⟨_, rfl⟩
          obtain ⟨N4, hN4⟩ : ∃ z, W4.heap.size = z := ⟨_, rfl⟩
          have HN4 := Lib.hid hN4
          have HB5 : Hid (Below W4.heap.size W4 W5) := Lib.hid (by rw [← hW5]; exact (Below.refl _ _).alloc (Nat.le_refl _) _)
          have HG5 : Hid (RowAt W5 N4 47 gc) := Lib.hid (by rw [← hW5, ← hN4]; exact RowAt.new _ _ _)
          have HR5 := Lib.hid (HR4.out.below HB5.out HR4.out.lt)
          have HL5 : Hid (∀ j2 x, cf[j2]? = some x → W5.cell? ⟨N, 0 + j2, none⟩ = some x) := Lib.hid (fun j2 x hx => by rw [Nat.zero_add, HR5.out.cell]; exact hx)
          have HLG : Hid (∀ j2 x, gc[j2]? = some x → W5.cell? ⟨N4, 0 + j2, none⟩ = some x) := Lib.hid (fun j2 x hx => by rw [Nat.zero_add, HG5.out.cell]; exact hx)
          clear hx0 hx1 hx2 hgm hgk hgo hgc
          go_wp2_with (first | ((with_reducible refine store_cs (o := ⟨none, _, _, _, _, _⟩) (.tmp 7) (.tmp 32) N4 HN4.out _ gc HGI.out HGO.out HZS.out ?_ ?_ ?_ ?_ ?_); rfl; rfl; rfl; rfl) | ((with_reducible refine load_csg (o := ⟨some 37, _, _, _, _, _⟩) (.tmp 5) N cf HL5.out HCS.out ?_ ?_ ?_ ?_); rfl; rfl; rfl) | ((with_reducible refine load_csg (o := ⟨some 38, _, _, _, _, _⟩) (.tmp 7) N4 gc HLG.out HGI.out ?_ ?_ ?_ ?_); rfl; rfl; rfl))
          refine (HPV.out W5).mono ?_
          rintro e W6 ⟨rfl, hb6⟩
          have HO6 := Lib.hid (HO4.out.more (HB5.out.trans (hb6.mono HB5.out.size)))
          have HM6 := Lib.hid ((HM4.out.below HB5.out HM4.out.lt).below hb6 (HM4.out.below HB5.out HM4.out.lt).lt)
          have HR6 := Lib.hid (HR5.out.below hb6 HR5.out.lt)
          have HL6 : Hid (∀ j2 x, cf[j2]? = some x → W6.cell? ⟨N, 0 + j2, none⟩ = some x) := Lib.hid (fun j2 x hx => by rw [Nat.zero_add, HR6.out.cell]; exact hx)
          have h60 : W6.cell? ⟨M, 0, none⟩ = some (.int .i64 x0) := by rw [HM6.out.cell]; rfl
          have h61 : W6.cell? ⟨M, 1, none⟩ = some (.int .i64 x1) := by rw [HM6.out.cell]; rfl
          have h62 : W6.cell? ⟨M, 2, none⟩ = some (.int .i64 x2) := by rw [HM6.out.cell]; rfl
          clear hb6 hlk hN4 hW5
          cases hpv : prevB f g
          · go_wp2_with fail
            go_roundw
            case rel =>
              exact ⟨j + 1, by go_num, by omega, Lib.hid (HO6.out.skip HFO.out.1 (by unfold stepB; rw [HVD.out, HFI.out]; simp [hpv]))⟩
            case measure => simp [RowKit.intOf]; omega
          · have HPT := Lib.hid hpv
            clear hpv
            obtain ⟨W7, hpu, hm7, hg7⟩ := (HO6.out.map).put f HFO.out.2
            rw [HKV.out, HCF.out] at hpu
            have HM7 := Lib.hid (And.intro hm7 hg7)
            clear hm7 hg7
            go_wp2_with (first | ((with_reducible refine load_cs (o := ⟨some 43, _, _, _, _, _⟩) (.tmp 5) N cf HL6.out HCS.out ?_ ?_ ?_ ?_); rfl; rfl; rfl))
            go_roundw
            case rel =>
              exact ⟨j + 1, by go_num, by omega, Lib.hid (HO6.out.put HFO.out.1 (by unfold stepB; rw [HVD.out, HFI.out]; simp [HPT.out]) HM7.out.1 HM7.out.2)⟩
            case measure => simp [RowKit.intOf]; omega
    · obtain rfl : j = m := by omega
      have hjd : decide (j < j) = false := by simp
      have HL := Lib.hid (show Of1 w (.slice A j c) l j wr from HS.out)
      have HTK := Lib.hid (show l.take j = l from List.take_of_length_le (by have := HM.out; omega))
      obtain ⟨W1, hrg, hran, hb1, hs1⟩ := HL.out.map.range
      have HRG := Lib.hid (And.intro hran (And.intro hb1 hs1))
      clear hran hb1 hs1
      go_wp2_with fail
      clear hrg
      have H20 : Hid (Of2 wr (w.heap.size + 1) j (bestL l) (.slice none 0 0) [] W1) := Lib.hid ⟨OwnK.nil _ _, by have h := HRG.out.1; rw [HTK.out] at h; exact h, HRG.out.2.1, by have := HRG.out.2.2; omega⟩
      obtain ⟨R, hR⟩ : ∃ z, wr.heap.size = z := ⟨_, rfl⟩
      have HR := Lib.hid hR
      have hmr : w.heap.size + 1 < R := by rw [← hR]; exact HL.out.lt
      rw [hR]
      obtain ⟨wo, rfl⟩ : ∃ z, z = wr := ⟨_, rfl⟩
      go_loopw [9] (fun v9 wx => ∃ ks, Hid (Of2 wo (w.heap.size + 1) j (bestL l) v9 ks wx)) (fun v9 _ => (bestL l).length - lenS v9)
      case atStart => exact ⟨[], H20⟩
      case round =>
        obtain ⟨ks, HS2⟩ := hrel
        rcases HS2.out.rng.next (by rw [HR.out]; omega) 0 with ⟨hperm, hrun⟩ | ⟨f, hfm, W2, hrun, hrng, hvl, hb2, hs2, hk2, hent⟩
        rotate_left
        · rw [HR.out] at hrun hrng hb2 hk2 hent
          have hent2 := hent W2 rfl rfl
          have hsz := HS2.out.size
          rw [HR.out] at hsz
          have hown := HS2.out.own
          rw [HR.out] at hown
          have HOW := Lib.hid (show OwnK W2 (R + 1) u9 ks from owns_other hown (fun q hq _ => hk2 q (by omega)))
          have hbe := HS2.out.below
          rw [HR.out] at hbe
          have HBE := Lib.hid (hbe.trans hb2)
          have HRN := Lib.hid hrng
          have HVL := Lib.hid hvl
          have HLEN := Lib.hid hown.len
          have hlk : ks.length ≤ 1000000 := by
            have h1 : (ks.map kV).length < (bestL l).length := hvl
            have h2 : (bestL l).length ≤ j := by obtain ⟨_, _, _, _, _, h, _⟩ := HRG.out.1.map; rw [HTK.out] at h; exact h
            rw [List.length_map] at h1
            omega
          have HLK := Lib.hid hlk
          rw [keyV_kV] at hrun hent2
          obtain ⟨k, hk⟩ : ∃ z, kT f = z := ⟨_, rfl⟩
          have HK := Lib.hid hk
          rw [hk] at hrun hent2
          obtain ⟨x0, x1, x2⟩ := k
          have hkv : kV (x0, x1, x2) = .agg #[.int .i64 x0, .int .i64 x1, .int .i64 x2] := rfl
          rw [hkv] at hrun hent2
          obtain ⟨cf, hcf⟩ : ∃ z, f.cells = z := ⟨_, rfl⟩
          rw [hcf] at hrun hent2
          obtain ⟨N, hN⟩ : ∃ z, W2.heap.size = z := ⟨_, rfl⟩
          obtain ⟨W3, hW3⟩ : ∃ z, W2.alloc (.cells #[.int .i64 x0, .int .i64 x1, .int .i64 x2] 91) = z := ⟨_, rfl⟩
          have HM3 : Hid (RowAt W3 N 91 #[.int .i64 x0, .int .i64 x1, .int .i64 x2]) := Lib.hid (by rw [← hW3, ← hN]; exact RowAt.new _ _ _)
          have h30 : W3.cell? ⟨N, 0, none⟩ = some (.int .i64 x0) := by rw [HM3.out.cell]; rfl
          have h31 : W3.cell? ⟨N, 1, none⟩ = some (.int .i64 x1) := by rw [HM3.out.cell]; rfl
          have h32 : W3.cell? ⟨N, 2, none⟩ = some (.int .i64 x2) := by rw [HM3.out.cell]; rfl
          have HB3 : Hid (Below W2.heap.size W2 W3) := Lib.hid (by rw [← hW3]; exact (Below.refl _ _).alloc (Nat.le_refl _) _)
          have HO3 := Lib.hid (OwnK.below HOW.out HB3.out)
          have hs3 : R + 1 ≤ W3.heap.size := by have := HB3.out.size; omega
          have HS3 := Lib.hid hs3
          have HS2B := Lib.hid (show R + 1 ≤ W2.heap.size by omega)
          clear hs3 hk hcf hent hrng hvl hb2 hs2 hk2 hsz hown hbe hlk hfm hkv
          go_wp2_with (first | ((with_reducible refine build_key (o := ⟨some 53, _, _, _, _, _⟩) (.tmp 52) (x0, x1, x2) ?_ ?_ ?_ ?_); rfl; rfl; rfl) | ((with_reducible refine append_key (o := ⟨some 54, _, _, _, _, _⟩) (.tmp 51) (.tmp 53) (R + 1) ks (x0, x1, x2) W3.heap.size u9 (OwnK.below HO3.out ((Below.refl _ _).alloc (Nat.le_refl _) _)) HLK.out ?_ (key_new _ _ _) ?_ ?_ ?_ ?_ ?_); (have := HS3.out; simp; omega); rfl; rfl; rfl; rfl; intro v' W5 hown' hbl _))
          go_roundw
          case rel =>
            have hb5 : Below (R + 1) W2 W5 := (HB3.out.mono HS2B.out).trans (((Below.refl _ _).alloc HS3.out _).trans hbl)
            refine ⟨ks ++ [(x0, x1, x2)], Lib.hid ⟨?_, ?_, ?_, ?_⟩⟩
            · rw [HR.out]; exact hown'
            · have h := HRN.out
              rw [keyV_kV, HK.out] at h
              rw [HR.out, List.map_append]
              exact h.kept (hb5.block _ (by omega)) (hb5.block _ (by omega))
            · rw [HR.out]; exact HBE.out.trans (hb5.mono (by omega))
            · rw [HR.out]; have := hb5.size; have := HS2B.out; omega
          case measure =>
            have h1 := HLEN.out
            have h2 := OwnK.len hown'
            have h3 : (ks.map kV).length < (bestL l).length := HVL.out
            rw [List.length_map] at h3
            rw [h1, h2, List.length_append]
            simp
            omega
        · rw [HR.out] at hrun
          have hp2 : ks.Perm ((bestL l).map kT) := perm_keys hperm
          have HP := Lib.hid hp2
          clear hperm hp2
          have hown := HS2.out.own
          have hlk : ks.length ≤ 1000000 := by
            have h1 := HP.out.length_eq
            have h2 : (bestL l).length ≤ j := by obtain ⟨_, _, _, _, _, h, _⟩ := HRG.out.1.map; rw [HTK.out] at h; exact h
            rw [List.length_map] at h1
            omega
          have HSRT := Lib.hid (sort_any _ _ _ _ hown hlk)
          have HLK := Lib.hid hlk
          clear hown hlk
          go_wp2_with fail
          clear hrun
          refine HSRT.out.mono ?_
          rintro e W6 ⟨rfl, ks', hp6, hs6, hown6, hg6⟩
          have H6 : Hid (ks'.Perm ((bestL l).map kT) ∧ ks'.Pairwise (fun a b => ¬ kLt b a) ∧ OwnK W6 (R + 1) u9 ks' ∧ Of1 w (.slice A j c) l j W6 ∧ ks'.length ≤ 1000000) := Lib.hid (by
            have h1 := HS2.out.below
            rw [HR.out] at h1
            rw [HR.out] at hown6
            have h2 : Below R wr W6 := (Below.refl _ _).grown hg6 (by have := HS2.out.size; rw [HR.out] at this; omega) (fun k hk => by have := (HS2.out.own.lt k hk).1; rw [HR.out] at this; omega)
            refine ⟨hp6.trans HP.out, hs6, hown6, HL.out.more ?_, by rw [hp6.length_eq]; exact HLK.out⟩
            rw [HR.out]
            exact h1.trans h2)
          have HG6 : Hid (wr.heap.size ≤ W6.heap.size) := Lib.hid hg6.size
          clear hp6 hs6 hown6 hg6
          obtain ⟨bb, hbb⟩ : ∃ z, W6.heap.size = z := ⟨_, rfl⟩
          obtain ⟨i1, i2, i3, i4, i5, i6, i7, i8, i9, i10, q1, q2, q3, q4, q5, q6, q7, q8, q9, q10, hin, hbi⟩ := into_chain (W6.alloc (.cells #[.slice none 0 0, .slice none 0 0, .slice none 0 0, .slice none 0 0, .slice none 0 0, .slice none 0 0, .slice none 0 0, .slice none 0 0, .slice none 0 0, .slice none 0 0] 53)) (bb + 1) bb (by simp [hbb])
          have HBB := Lib.hid hbb
          have hRb : R + 1 ≤ bb := by
            have h1 := H6.out.2.2.2.1.below.size
            have h2 := HS2.out.size
            rw [HR.out] at h2
            have h3 := HG6.out
            omega
          have hsw := H6.out.2.2.2.1.lt
          have HIN0 : Hid (Of3 w wo (.slice A j c) l j R (bb + 1) bb u9 ks' 0 #[.slice none 0 0, .slice none 0 0, .slice none 0 0, .slice none 0 0, .slice none 0 0, .slice none 0 0, .slice none 0 0, .slice none 0 0, .slice none 0 0, .slice none 0 0] [] i10) := Lib.hid (by
            have b0 : Below W6.heap.size W6 (W6.alloc (.cells #[.slice none 0 0, .slice none 0 0, .slice none 0 0, .slice none 0 0, .slice none 0 0, .slice none 0 0, .slice none 0 0, .slice none 0 0, .slice none 0 0, .slice none 0 0] 53)) := (Below.refl _ _).alloc (Nat.le_refl _) _
            have hx1 : W6.heap.size + 1 = (W6.alloc (.cells #[.slice none 0 0, .slice none 0 0, .slice none 0 0, .slice none 0 0, .slice none 0 0, .slice none 0 0, .slice none 0 0, .slice none 0 0, .slice none 0 0, .slice none 0 0] 53)).heap.size := by simp
            have b1 : Below W6.heap.size W6 i10 := b0.trans (hbi.mono (by simp))
            have hrow : RowAt (W6.alloc (.cells #[.slice none 0 0, .slice none 0 0, .slice none 0 0, .slice none 0 0, .slice none 0 0, .slice none 0 0, .slice none 0 0, .slice none 0 0, .slice none 0 0, .slice none 0 0] 53)) bb 53 #[.slice none 0 0, .slice none 0 0, .slice none 0 0, .slice none 0 0, .slice none 0 0, .slice none 0 0, .slice none 0 0, .slice none 0 0, .slice none 0 0, .slice none 0 0] := by rw [← hbb]; exact RowAt.new _ _ _
            refine ⟨H6.out.2.2.1.below b1, H6.out.2.2.2.1.map.kept (b1.block _ H6.out.2.2.2.1.map.lt) |> fun h => by rw [HTK.out] at h; exact h, hin, hrow.below hbi hrow.lt, Lists.start _ _, ⟨_, H6.out.2.2.2.1.zb.below b1 H6.out.2.2.2.1.zb.lt, rfl⟩, H6.out.2.2.2.1.below.trans (b1.mono H6.out.2.2.2.1.below.size), rfl, by simp, by have := hin.lt; omega⟩)
          obtain ⟨A9, c9, rfl⟩ := H6.out.2.2.1.sl
          obtain ⟨m9, hm9⟩ : ∃ z, ks'.length = z := ⟨_, rfl⟩
          have HM9 := Lib.hid hm9
          rw [hm9] at HIN0 ⊢
          have hm9b : m9 ≤ 1000000 := by rw [← hm9]; exact H6.out.2.2.2.2
          clear hm9 hin hbi hsw
          go_wp2_with fail
          clear q1 q2 q3 q4 q5 q6 q7 q8 q9 q10 hbb
          go_loopw [71] (fun v71 wx => ∃ (i : Nat) (bs : Array Value) (fs : List FactV), v71 = .int .i64 i ∧ i ≤ m9 ∧ Hid (Of3 w wo (.slice A j c) l j R (bb + 1) bb (.slice A9 m9 c9) ks' i bs fs wx)) (fun v71 _ => m9 - (RowKit.intOf v71).toNat)
          case atStart => exact ⟨0, _, _, rfl, by omega, HIN0⟩
          case round =>
            obtain ⟨i, bs, fs, rfl, hi, HS3⟩ := hrel
            by_cases hi2 : i < m9
            · have hid : decide (i < m9) = true := by simpa using hi2
              obtain ⟨k, hk⟩ : ∃ x, ks'[i]? = some x := ⟨_, List.getElem?_eq_getElem (by have := HM9.out; omega)⟩
              obtain ⟨g, hA9, e0, e1, e2⟩ := HS3.out.keys.at hk
              subst hA9
              obtain ⟨f, hfm, hfk⟩ : ∃ f ∈ bestL l, kT f = k := by
                have h1 : k ∈ (bestL l).map kT := H6.out.1.mem_iff.1 (List.mem_of_getElem? hk)
                obtain ⟨f, h2, h3⟩ := List.mem_map.1 h1
                exact ⟨f, h2, h3⟩
              obtain ⟨q, hq, hfq⟩ := valid_kind (bestL_valid l f hfm)
              have hfo : FactOk f := by
                obtain ⟨_, _, _, _, _, _, h⟩ := HS3.out.map
                exact h f hfm
              have HF := Lib.hid (And.intro hk (And.intro hfm (And.intro hfk (And.intro hq hfq))))
              obtain ⟨x0, x1, x2⟩ := k
              dsimp only at e0 e1 e2
              obtain ⟨W1, hW1⟩ : ∃ z, wr.alloc (.cells #[.int .i64 x0, .int .i64 x1, .int .i64 x2] 91) = z := ⟨_, rfl⟩
              obtain ⟨N, hN⟩ : ∃ z, wr.heap.size = z := ⟨_, rfl⟩
              have HM1 : Hid (RowAt W1 N 91 #[.int .i64 x0, .int .i64 x1, .int .i64 x2]) := Lib.hid (by rw [← hW1, ← hN]; exact RowAt.new _ _ _)
              have h10 : W1.cell? ⟨N, 0, none⟩ = some (.int .i64 x0) := by rw [HM1.out.cell]; rfl
              have h11 : W1.cell? ⟨N, 1, none⟩ = some (.int .i64 x1) := by rw [HM1.out.cell]; rfl
              have h12 : W1.cell? ⟨N, 2, none⟩ = some (.int .i64 x2) := by rw [HM1.out.cell]; rfl
              have HB1 : Hid (Below wr.heap.size wr W1) := Lib.hid (by rw [← hW1]; exact (Below.refl _ _).alloc (Nat.le_refl _) _)
              have HO1 := Lib.hid (HS3.out.more HB1.out)
              have hkv : keyV f = .agg #[.int .i64 x0, .int .i64 x1, .int .i64 x2] := by rw [keyV_kV, hfk]; rfl
              have hlk : (Instr.lookup TM (.map (some (w.heap.size + 1))) (keyV f) false).run Tryz.prog W1 = .ok (.agg f.cells) W1 := by
                rcases HO1.out.map.look (keyV f) (keyV_ok hfo) false with ⟨hno, _⟩ | ⟨g2, hgm, hgk, hlk⟩
                · exact absurd rfl (hno f hfm)
                · have h1 := find_key HO1.out.map.keys_nodup hgm hgk
                  have h2 := find_key HO1.out.map.keys_nodup hfm rfl
                  rw [h1] at h2
                  cases h2
                  exact hlk
              rw [hkv] at hlk
              have HONE : Hid (f.cells.all (·.oneCell') = true) := Lib.hid (one_cells f)
              have HCS : Hid ((Tryz.prog.info? 47).map (·.size) = some f.cells.size) := Lib.hid fact_size
              have h18 : Hid (f.cells.size = 18) := Lib.hid rfl
              have HC0 : Hid (f.cells[0]? = some (.int .i64 (f.n 0))) := Lib.hid rfl
              obtain ⟨cf, hcf⟩ : ∃ z, f.cells = z := ⟨_, rfl⟩
              have HCF := Lib.hid hcf
              rw [hcf] at hlk HONE HCS h18 HC0
              have HZS : Hid ((#[Value.int .i64 0, .int .i64 0, .int .i64 0, .int .i64 0, .int .i64 0, .int .i64 0, .int .i64 0, .int .i64 0, .int .i64 0, .int .i64 0, .int .i64 0, .int .i64 0, .int .i64 0, .int .i64 0, .int .i64 0, .int .i64 0, .int .i64 0, .string ⟨#[]⟩] : Array Value).size = cf.size) := Lib.hid (by rw [h18.out]; rfl)
              obtain ⟨fb, hfb⟩ : ∃ z, W1.heap.size = z := ⟨_, rfl⟩
              have HFB := Lib.hid hfb
              obtain ⟨X, hX⟩ : ∃ z, W1.alloc (.cells cf 47) = z := ⟨_, rfl⟩
              have HFX : Hid (RowAt X fb 47 cf) := Lib.hid (by rw [← hX, ← hfb]; exact RowAt.new _ _ _)
              have HB1b : Hid (Below W1.heap.size W1 X) := Lib.hid (by rw [← hX]; exact (Below.refl _ _).alloc (Nat.le_refl _) _)
              have HX := Lib.hid (HO1.out.more HB1b.out)
              obtain ⟨kk, hkk⟩ : ∃ z : Nat, q + 1 = z := ⟨_, rfl⟩
              have HC0 : Hid (cf[0]? = some (.int .i64 (kk : Int))) := Lib.hid (by rw [HC0.out, hfq, ← hkk]; rfl)
              have HIL : Hid (∀ W, IntoAt W (bb + 1) bb → (Instr.lookup TI (.map (some (bb + 1))) (.int .i64 (kk : Int)) false).run Tryz.prog W = .ok (.pointer (some ⟨bb, q, none⟩)) W) := Lib.hid (fun W h => by have h1 := into_look h kk (by omega) (by omega); rw [← hkk] at h1 ⊢; exact h1)
              obtain ⟨v, hbq, how0⟩ := HS3.out.lists.own q hq
              have how : OwnF X (bb + 1 + 1) v (fs.filter (kindF q)) := how0.below (HB1.out.trans (HB1b.out.mono HB1.out.size))
              have HV0 := Lib.hid how0
              have HBQ := Lib.hid hbq
              have HOX := Lib.hid how
              have hcx : X.cell? ⟨bb, q, none⟩ = some v := by rw [HX.out.row.cell]; exact hbq
              clear hk hfm hfk hq hfq hfo hkv hcf hkk hbq how how0
              go_wp2_with (first | ((with_reducible refine store_cs (o := ⟨none, _, _, _, _, _⟩) (.tmp 15) (.tmp 77) fb HFB.out _ cf HCS.out HONE.out HZS.out ?_ ?_ ?_ ?_ ?_); rfl; rfl; rfl; rfl))
              rw [hX]
              clear hW1 hX hlk e0 e1 e2 h10 h11 h12
              refine wp_region_held_drew (S := fun W => IntoAt W (bb + 1) bb ∧ ∀ j2 x, cf[j2]? = some x → W.cell? ⟨fb, 0 + j2, none⟩ = some x) (by kernel_rfl) ⟨HX.out.into, fun j2 x hx => by rw [Nat.zero_add]; exact ((HFX.out.drew).cell j2).trans hx⟩ (fun hHeld => ?_)
              refine wpAnyH_take (i := 0) (oi := ⟨_, _, _, _, _, _⟩) (v := ?_) rfl (by kernel_rfl) (by kernel_rfl) (by kernel_rfl) (fun _ _ _ h => h) (Or.inl ⟨by rfl, ?_⟩) (by assumption) ?_
              rotate_left
              · intro w hSw
                go_simp
                all_goals with_reducible rfl
              simp only [Act.put, List.setIfInBounds_toArray, List.set_cons_zero, List.set_cons_succ]
              refine wpAnyH_take (i := 1) (oi := ⟨_, _, _, _, _, _⟩) (v := ?_) rfl (by kernel_rfl) (by kernel_rfl) (by kernel_rfl) (fun _ _ _ h => h) (Or.inl ⟨by rfl, ?_⟩) (by assumption) ?_
              rotate_left
              · intro w hSw
                go_simp
                all_goals with_reducible rfl
              simp only [Act.put, List.setIfInBounds_toArray, List.set_cons_zero, List.set_cons_succ]
              refine wpAnyH_take (i := 4) (oi := ⟨_, _, _, _, _, _⟩) (v := ?_) rfl (by kernel_rfl) (by kernel_rfl) (by kernel_rfl) (fun _ _ _ h => h) (Or.inl ⟨by rfl, ?_⟩) (by assumption) ?_
              rotate_left
              · intro w hSw
                go_simp
                all_goals with_reducible rfl
              simp only [Act.put, List.setIfInBounds_toArray, List.set_cons_zero, List.set_cons_succ]
              refine wpAnyH_take (i := 5) (oi := ⟨_, _, _, _, _, _⟩) (v := ?_) rfl (by kernel_rfl) (by kernel_rfl) (by kernel_rfl) (fun _ _ _ h => h) (Or.inl ⟨by rfl, ?_⟩) (by assumption) ?_
              rotate_left
              · intro w hSw
                go_simp
                all_goals with_reducible rfl
              simp only [Act.put, List.setIfInBounds_toArray, List.set_cons_zero, List.set_cons_succ]
              refine wpAnyH_take (i := 2) (oi := ⟨_, _, _, _, _, _⟩) (v := ?_) rfl (by kernel_rfl) (by kernel_rfl) (by kernel_rfl) (fun _ _ _ h => h) (Or.inl ⟨by rfl, ?_⟩) (by assumption) ?_
              rotate_left
              · intro w hSw
                have hc0 : w.cell? ⟨fb, 0, none⟩ = some (.int .i64 (kk : Int)) := hSw.2 0 _ HC0.out
                go_simp
                all_goals with_reducible rfl
              simp only [Act.put, List.setIfInBounds_toArray, List.set_cons_zero, List.set_cons_succ]
              refine wpAnyH_take (i := 6) (oi := ⟨_, _, _, _, _, _⟩) (v := ?_) rfl (by kernel_rfl) (by kernel_rfl) (by kernel_rfl) (fun _ _ _ h => h) (Or.inl ⟨by rfl, ?_⟩) (by assumption) ?_
              rotate_left
              · intro w hSw
                have hc0 : w.cell? ⟨fb, 0, none⟩ = some (.int .i64 (kk : Int)) := hSw.2 0 _ HC0.out
                go_simp
                all_goals with_reducible rfl
              simp only [Act.put, List.setIfInBounds_toArray, List.set_cons_zero, List.set_cons_succ]
              refine wpAnyH_take (i := 3) (oi := ⟨_, _, _, _, _, _⟩) (v := ?_) rfl (by kernel_rfl) (by kernel_rfl) (by kernel_rfl) (fun _ _ _ h => h) (Or.inl ⟨by rfl, ?_⟩) (by assumption) ?_
              rotate_left
              · intro w hSw
                have hil := HIL.out w hSw.1
                go_simp
                all_goals with_reducible rfl
              simp only [Act.put, List.setIfInBounds_toArray, List.set_cons_zero, List.set_cons_succ]
              refine wpAnyH_take (i := 7) (oi := ⟨_, _, _, _, _, _⟩) (v := ?_) rfl (by kernel_rfl) (by kernel_rfl) (by kernel_rfl) (fun _ _ _ h => h) (Or.inl ⟨by rfl, ?_⟩) (by assumption) ?_
              rotate_left
              · intro w hSw
                have hil := HIL.out w hSw.1
                go_simp
                all_goals with_reducible rfl
              simp only [Act.put, List.setIfInBounds_toArray, List.set_cons_zero, List.set_cons_succ]
              refine wpAnyH_take (i := 8) (oi := ⟨_, _, _, _, _, _⟩) (v := ?_) rfl (by kernel_rfl) (by kernel_rfl) (by kernel_rfl) (fun _ _ _ h => h) (Or.inl ⟨by rfl, ?_⟩) (by assumption) ?_
              rotate_left
              · intro w hSw
                go_simp
                all_goals with_reducible rfl
              simp only [Act.put, List.setIfInBounds_toArray, List.set_cons_zero, List.set_cons_succ]
              refine wpAnyH_take (i := 10) (oi := ⟨_, _, _, _, _, _⟩) rfl (by kernel_rfl) (by kernel_rfl) (by kernel_rfl) (fun _ _ _ h => h) (yields_at 47 (.tmp 15) fb 0 cf _ (fun w h => h.2) Tryz.underlying47 (by rfl) rfl rfl rfl HCS.out) (by assumption) ?_
              simp only [Act.put, List.setIfInBounds_toArray, List.set_cons_zero, List.set_cons_succ]

              have HX2 : Hid (Below (bb + 1 + 1) X (X.drew.alloc (.cells cf 47))) := Lib.hid ((Below.refl (bb + 1 + 1) X).drew.alloc HX.out.size _)
              have HXA : Hid (Below X.heap.size X (X.drew.alloc (.cells cf 47))) := Lib.hid ((Below.refl X.heap.size X).drew.alloc (Nat.le_refl _) _)
              have HNW : Hid (∀ (j2 : Nat) u, f.cells.toList[j2]? = some u → (X.drew.alloc (.cells cf 47)).cell? ((⟨X.drew.heap.size, 0, none⟩ : Addr).add j2) = some u) := Lib.hid (by rw [← HCF.out]; exact fact_new X.drew f _)
              have HOW : Hid (OwnF (X.drew.alloc (.cells cf 47)) (bb + 1 + 1) v (fs.filter (kindF q))) := Lib.hid (HOX.out.below HXA.out)
              have HLN : Hid ((fs.filter (kindF q)).length ≤ 1000000) := Lib.hid (by
                have h1 := List.length_filter_le (kindF q) fs
                have h2 := congrArg List.length HS3.out.done
                rw [List.length_map, List.length_take] at h2
                have h3 := H6.out.2.2.2.2
                omega)
              have HSZ2 : Hid (bb + 1 + 1 ≤ (X.drew.alloc (.cells cf 47)).heap.size) := Lib.hid (Nat.le_trans HX.out.size HXA.out.size)
              have HFR2 : Hid (RowAt (X.drew.alloc (.cells cf 47)) fb 47 cf) := Lib.hid (HFX.out.drew.alloc _)
              have HFB2 : Hid (fb < (X.drew.alloc (.cells cf 47)).heap.size) := Lib.hid HFR2.out.lt
              have HFBN : Hid (v.ownBlock ≠ some fb) := Lib.hid (fun e => by
                have h1 := (own_lt HV0.out e).2
                have h2 := HB1.out.size
                have h3 := HFB.out
                omega)
              have HFBB : Hid (bb < fb) := Lib.hid (by have := HO1.out.row.lt; have := HFB.out; omega)
              refine wpAnyH_ready (rs := [9, 11]) (by kernel_rfl) (by simp) ?_
              refine AllReadyH.cons (o := ⟨_, _, _, _, _, _⟩) rfl (fun K hK => ?_) ?_
              rotate_left
              · refine AllReadyH.cons (o := ⟨_, _, _, _, _, _⟩) rfl (fun K hK => ?_) AllReadyH.nil
                rw [if_pos (by rfl)]
                refine wp_build_fact (.tmp 88) cf f HCF.out rfl rfl ?_
                refine hK.out _ _ ⟨HX.out.into.kept (HXA.out.block _ (by have := HX.out.into.lt; omega)), fun j2 x hx => by rw [Nat.zero_add]; exact (((HFX.out.drew).alloc _).cell j2).trans hx⟩ (fun _ => ?_)
                clear hK K
                try simp only [Act.put, List.setIfInBounds_toArray, List.set_cons_zero, List.set_cons_succ]
                refine wpAnyH_ready (rs := [9]) (by kernel_rfl) (by simp) ?_
                refine AllReadyH.cons (o := ⟨_, _, _, _, _, _⟩) rfl (fun K hK => ?_) AllReadyH.nil
                have hcx2 : (X.alloc (.cells cf 47)).cell? ⟨bb, q, none⟩ = some v := by rw [(HX.out.row.alloc _).cell]; exact HBQ.out
                go_simp
                refine hK.out _ _ ⟨HX.out.into.kept (HXA.out.block _ (by have := HX.out.into.lt; omega)), fun j2 x hx => by rw [Nat.zero_add]; exact (((HFX.out.drew).alloc _).cell j2).trans hx⟩ (fun _ => ?_)
                clear hK K
                try simp only [Act.put, List.setIfInBounds_toArray, List.set_cons_zero, List.set_cons_succ]
                refine wpAnyH_ready (rs := [12]) (by kernel_rfl) (by simp) ?_
                refine AllReadyH.cons (o := ⟨_, _, _, _, _, _⟩) rfl (fun K hK => ?_) AllReadyH.nil
                rw [if_pos (by rfl)]
                refine wp_append_fact (.tmp 87) (.tmp 89) (bb + 1 + 1) (fs.filter (kindF q)) f X.drew.heap.size v HOW.out HLN.out HSZ2.out HNW.out rfl rfl rfl (fun v' w5 hown' hg5 hob => ?_)
                obtain ⟨A5, n5, c5, rfl⟩ := own_slice hown'
                have HA5 := Lib.hid (And.intro hown' (And.intro hg5 hob))
                clear hown' hg5 hob
                have HS5 : Hid (IntoAt w5 (bb + 1) bb ∧ (∀ j2 x, cf[j2]? = some x → w5.cell? ⟨fb, 0 + j2, none⟩ = some x) ∧ RowAt w5 bb 53 bs ∧ Below (bb + 1 + 1) X w5) := Lib.hid (by
                  have hbx : Below (bb + 1 + 1) X w5 := HX2.out.grown HA5.out.2.1 HSZ2.out (fun k hk => (HOW.out.lt k hk).1)
                  have hne : ∀ k, v.ownBlock = some k → k < X.heap.size := fun k hk => (HOX.out.lt k hk).2
                  refine ⟨HX.out.into.kept (hbx.block _ (by omega)), fun j2 x hx => ?_, HX.out.row.below hbx (by omega), hbx⟩
                  have h1 := HA5.out.2.1.block fb HFB2.out (fun e => HFBN.out e.symm)
                  rw [Nat.zero_add]
                  have h2 : RowAt w5 fb 47 cf := h1.trans HFR2.out
                  rw [h2.cell]
                  exact hx)
                refine hK.out _ _ ⟨HS5.out.1, HS5.out.2.1⟩ (fun _ => ?_)
                clear hK K
                try simp only [Act.put, List.setIfInBounds_toArray, List.set_cons_zero, List.set_cons_succ]
                refine wpAnyH_ready (rs := [13]) (by kernel_rfl) (by simp) ?_
                refine AllReadyH.cons (o := ⟨_, _, _, _, _, _⟩) rfl (fun K hK => ?_) AllReadyH.nil
                go_simp
                refine hK.out _ _ ⟨HS5.out.1, HS5.out.2.1⟩ (fun _ => ?_)
                clear hK K
                try simp only [Act.put, List.setIfInBounds_toArray, List.set_cons_zero, List.set_cons_succ]
                have hc5 : w5.cell? ⟨bb, q, none⟩ = some v := by rw [HS5.out.2.2.1.cell]; exact HBQ.out
                have hf5 : w5.frozen? ⟨bb, q, none⟩ = false := HS5.out.2.2.1.free q
                refine wpAnyH_ready (rs := [14]) (by kernel_rfl) (by simp) ?_
                refine AllReadyH.cons (o := ⟨_, _, _, _, _, _⟩) rfl (fun K hK => ?_) AllReadyH.nil
                go_simp
                refine hK.out _ _ ⟨HS5.out.1.kept (Below.heap_setCell w5 ⟨bb, q, none⟩ (.slice A5 n5 c5) _ (by show bb + 1 ≠ bb; omega)), fun j2 x hx => by
                  have h1 := HS5.out.2.1 j2 x hx
                  have h2 : (⟨bb, q, none⟩ : Addr) ≠ ⟨fb, 0 + j2, none⟩ := fun e => by have h3 := congrArg Addr.block e; simp at h3; have := HFBB.out; omega
                  rw [World.cell?_setCell_other _ _ _ _ h2]
                  exact h1⟩ (fun _ => ?_)
                clear hK K
                try simp only [Act.put, List.setIfInBounds_toArray, List.set_cons_zero, List.set_cons_succ]
                refine wpAnyH_done (by kernel_rfl) ?_ _
                go_wp2_with fail
                go_roundw
                case rel =>
                  have hbx := HS5.out.2.2.2
                  have hfar : ∀ k, k ≠ bb → (w5.setCell ⟨bb, q, none⟩ (.slice A5 n5 c5)).heap[k]? = w5.heap[k]? := fun k hk => Below.heap_setCell w5 ⟨bb, q, none⟩ (.slice A5 n5 c5) k hk
                  have hlt0 := HX.out.map.lt
                  obtain ⟨z, hz1, hz2⟩ := HX.out.zb
                  have hko : OwnK w5 (R + 1) (.slice (some ⟨g, 0, none⟩) m9 c9) ks' := World.ownsRow.kept (HX.out.keys.below HXA.out) HA5.out.2.1 (own_apart (HX.out.keys.below HXA.out) HOW.out (by decide))
                  refine ⟨i + 1, bs.setIfInBounds q (.slice A5 n5 c5), fs ++ [f], by go_num, by omega, Lib.hid ⟨?_, ?_, ?_, ?_, ?_, ⟨z, ?_, hz2⟩, ?_, ?_, ?_, ?_⟩⟩
                  · exact owns_far hko HS5.out.2.2.1 (by decide) (.slice A5 n5 c5)
                  · exact HX.out.map.kept ((hfar _ (by omega)).trans (hbx.block _ (by omega)))
                  · exact HS5.out.1.kept (hfar _ (by omega))
                  · exact HS5.out.2.2.1.set q (.slice A5 n5 c5)
                  · exact ((HX.out.lists.below HXA.out).put HF.out.2.2.2.1 HF.out.2.2.2.2 HBQ.out HA5.out.1 HA5.out.2.1 HA5.out.2.2).other (fun k hk _ => hfar k (by omega))
                  · exact ((hfar _ (by omega)).trans (hbx.block _ (by omega))).trans hz1
                  · exact (HX.out.below.trans (hbx.mono (by omega))).setCell (by show w.heap.size ≤ bb; omega) _
                  · rw [List.map_append, HX.out.done, List.take_add_one, HF.out.1, ← HF.out.2.2.1]; rfl
                  · intro x hx
                    rcases List.mem_append.1 hx with h | h
                    · exact HX.out.best x h
                    · rw [List.mem_singleton.1 h]; exact HF.out.2.1
                  · have h1 := HX.out.size
                    have h2 := hbx.size
                    have h3 : (w5.setCell ⟨bb, q, none⟩ (.slice A5 n5 c5)).heap.size = w5.heap.size := by simp [World.setCell]
                    omega
                case measure => simp [RowKit.intOf]; omega

              · go_simp
                refine hK.out _ _ ⟨HX.out.into, fun j2 x hx => by rw [Nat.zero_add]; exact ((HFX.out.drew).cell j2).trans hx⟩ (fun _ => ?_)
                clear hK K
                try simp only [Act.put, List.setIfInBounds_toArray, List.set_cons_zero, List.set_cons_succ]
                refine wpAnyH_ready (rs := [11]) (by kernel_rfl) (by simp) ?_
                refine AllReadyH.cons (o := ⟨_, _, _, _, _, _⟩) rfl (fun K hK => ?_) AllReadyH.nil
                rw [if_pos (by rfl)]
                refine wp_build_fact (.tmp 88) cf f HCF.out rfl rfl ?_
                refine hK.out _ _ ⟨HX.out.into.kept (HXA.out.block _ (by have := HX.out.into.lt; omega)), fun j2 x hx => by rw [Nat.zero_add]; exact (((HFX.out.drew).alloc _).cell j2).trans hx⟩ (fun _ => ?_)
                clear hK K
                try simp only [Act.put, List.setIfInBounds_toArray, List.set_cons_zero, List.set_cons_succ]
                refine wpAnyH_ready (rs := [12]) (by kernel_rfl) (by simp) ?_
                refine AllReadyH.cons (o := ⟨_, _, _, _, _, _⟩) rfl (fun K hK => ?_) AllReadyH.nil
                rw [if_pos (by rfl)]
                refine wp_append_fact (.tmp 87) (.tmp 89) (bb + 1 + 1) (fs.filter (kindF q)) f X.drew.heap.size v HOW.out HLN.out HSZ2.out HNW.out rfl rfl rfl (fun v' w5 hown' hg5 hob => ?_)
                obtain ⟨A5, n5, c5, rfl⟩ := own_slice hown'
                have HA5 := Lib.hid (And.intro hown' (And.intro hg5 hob))
                clear hown' hg5 hob
                have HS5 : Hid (IntoAt w5 (bb + 1) bb ∧ (∀ j2 x, cf[j2]? = some x → w5.cell? ⟨fb, 0 + j2, none⟩ = some x) ∧ RowAt w5 bb 53 bs ∧ Below (bb + 1 + 1) X w5) := Lib.hid (by
                  have hbx : Below (bb + 1 + 1) X w5 := HX2.out.grown HA5.out.2.1 HSZ2.out (fun k hk => (HOW.out.lt k hk).1)
                  have hne : ∀ k, v.ownBlock = some k → k < X.heap.size := fun k hk => (HOX.out.lt k hk).2
                  refine ⟨HX.out.into.kept (hbx.block _ (by omega)), fun j2 x hx => ?_, HX.out.row.below hbx (by omega), hbx⟩
                  have h1 := HA5.out.2.1.block fb HFB2.out (fun e => HFBN.out e.symm)
                  rw [Nat.zero_add]
                  have h2 : RowAt w5 fb 47 cf := h1.trans HFR2.out
                  rw [h2.cell]
                  exact hx)
                refine hK.out _ _ ⟨HS5.out.1, HS5.out.2.1⟩ (fun _ => ?_)
                clear hK K
                try simp only [Act.put, List.setIfInBounds_toArray, List.set_cons_zero, List.set_cons_succ]
                refine wpAnyH_ready (rs := [13]) (by kernel_rfl) (by simp) ?_
                refine AllReadyH.cons (o := ⟨_, _, _, _, _, _⟩) rfl (fun K hK => ?_) AllReadyH.nil
                go_simp
                refine hK.out _ _ ⟨HS5.out.1, HS5.out.2.1⟩ (fun _ => ?_)
                clear hK K
                try simp only [Act.put, List.setIfInBounds_toArray, List.set_cons_zero, List.set_cons_succ]
                have hc5 : w5.cell? ⟨bb, q, none⟩ = some v := by rw [HS5.out.2.2.1.cell]; exact HBQ.out
                have hf5 : w5.frozen? ⟨bb, q, none⟩ = false := HS5.out.2.2.1.free q
                refine wpAnyH_ready (rs := [14]) (by kernel_rfl) (by simp) ?_
                refine AllReadyH.cons (o := ⟨_, _, _, _, _, _⟩) rfl (fun K hK => ?_) AllReadyH.nil
                go_simp
                refine hK.out _ _ ⟨HS5.out.1.kept (Below.heap_setCell w5 ⟨bb, q, none⟩ (.slice A5 n5 c5) _ (by show bb + 1 ≠ bb; omega)), fun j2 x hx => by
                  have h1 := HS5.out.2.1 j2 x hx
                  have h2 : (⟨bb, q, none⟩ : Addr) ≠ ⟨fb, 0 + j2, none⟩ := fun e => by have h3 := congrArg Addr.block e; simp at h3; have := HFBB.out; omega
                  rw [World.cell?_setCell_other _ _ _ _ h2]
                  exact h1⟩ (fun _ => ?_)
                clear hK K
                try simp only [Act.put, List.setIfInBounds_toArray, List.set_cons_zero, List.set_cons_succ]
                refine wpAnyH_done (by kernel_rfl) ?_ _
                go_wp2_with fail
                go_roundw
                case rel =>
                  have hbx := HS5.out.2.2.2
                  have hfar : ∀ k, k ≠ bb → (w5.setCell ⟨bb, q, none⟩ (.slice A5 n5 c5)).heap[k]? = w5.heap[k]? := fun k hk => Below.heap_setCell w5 ⟨bb, q, none⟩ (.slice A5 n5 c5) k hk
                  have hlt0 := HX.out.map.lt
                  obtain ⟨z, hz1, hz2⟩ := HX.out.zb
                  have hko : OwnK w5 (R + 1) (.slice (some ⟨g, 0, none⟩) m9 c9) ks' := World.ownsRow.kept (HX.out.keys.below HXA.out) HA5.out.2.1 (own_apart (HX.out.keys.below HXA.out) HOW.out (by decide))
                  refine ⟨i + 1, bs.setIfInBounds q (.slice A5 n5 c5), fs ++ [f], by go_num, by omega, Lib.hid ⟨?_, ?_, ?_, ?_, ?_, ⟨z, ?_, hz2⟩, ?_, ?_, ?_, ?_⟩⟩
                  · exact owns_far hko HS5.out.2.2.1 (by decide) (.slice A5 n5 c5)
                  · exact HX.out.map.kept ((hfar _ (by omega)).trans (hbx.block _ (by omega)))
                  · exact HS5.out.1.kept (hfar _ (by omega))
                  · exact HS5.out.2.2.1.set q (.slice A5 n5 c5)
                  · exact ((HX.out.lists.below HXA.out).put HF.out.2.2.2.1 HF.out.2.2.2.2 HBQ.out HA5.out.1 HA5.out.2.1 HA5.out.2.2).other (fun k hk _ => hfar k (by omega))
                  · exact ((hfar _ (by omega)).trans (hbx.block _ (by omega))).trans hz1
                  · exact (HX.out.below.trans (hbx.mono (by omega))).setCell (by show w.heap.size ≤ bb; omega) _
                  · rw [List.map_append, HX.out.done, List.take_add_one, HF.out.1, ← HF.out.2.2.1]; rfl
                  · intro x hx
                    rcases List.mem_append.1 hx with h | h
                    · exact HX.out.best x h
                    · rw [List.mem_singleton.1 h]; exact HF.out.2.1
                  · have h1 := HX.out.size
                    have h2 := hbx.size
                    have h3 : (w5.setCell ⟨bb, q, none⟩ (.slice A5 n5 c5)).heap.size = w5.heap.size := by simp [World.setCell]
                    omega
                case measure => simp [RowKit.intOf]; omega

            · obtain rfl : i = m9 := by omega
              have hid : decide (i < i) = false := by simp
              have HDN : Hid (fs.map kT = ks') := Lib.hid (by rw [HS3.out.done]; exact List.take_of_length_le (by have := HM9.out; omega))
              obtain ⟨z, hz1, hz2⟩ := HS3.out.zb
              have HZ := Lib.hid (And.intro hz1 hz2)
              have hbs : (Tryz.prog.info? 53).map (·.size) = some bs.size := by rw [HS3.out.lists.size]; exact base_size
              have HBS := Lib.hid hbs
              have HLB : Hid (∀ j2 x, bs[j2]? = some x → wr.cell? ⟨bb, 0 + j2, none⟩ = some x) := Lib.hid (fun j2 x hx => by rw [Nat.zero_add, HS3.out.row.cell]; exact hx)
              have HOLD : Hid (z.size = bs.size) := Lib.hid (by rw [hz2, HS3.out.lists.size])
              have HONE9 := Lib.hid HS3.out.lists.one
              clear hz1 hz2 hbs
              go_wp2_with (first | ((with_reducible refine load_base (o := ⟨some 93, _, _, _, _, _⟩) (.tmp 11) bb bs HLB.out HBS.out ?_ ?_ ?_ ?_); rfl; rfl; rfl) | ((with_reducible refine store_base (o := ⟨none, _, _, _, _, _⟩) (.tmp 2) (.tmp 93) w.heap.size bs z HZ.out.1 HBS.out HOLD.out HONE9.out ?_ ?_ ?_ ?_ ?_); rfl; rfl; rfl; rfl))
              have hrow : RowAt (wr.setRow w.heap.size bs) w.heap.size 53 bs := setRow_at HZ.out.1
              refine bodyPost_ret (v := .agg bs) ?_ rfl ⟨bs, fs, rfl, ?_, ?_, ?_, ?_⟩
              · have hl := run_loadVar_at (P := Tryz.prog) _ w.heap.size 0 53 bs _ (fun j2 x hx => by rw [Nat.zero_add, hrow.cell]; exact hx) Tryz.underlying53 rfl HBS.out
                exact results_cell1 (p := 2) rfl _ _ _ _ rfl hl
              · exact HS3.out.lists.last bs (by have := HL.out.lt; have := HR.out; omega)
              · exact below_setR HS3.out.below (Nat.le_refl _)
              · exact perm_of_keys fs (bestL l) (nodup_kT HS3.out.map.keys_nodup) (by rw [HDN.out]; exact H6.out.1) HS3.out.best
              · exact strict_keys (by rw [HDN.out]; exact H6.out.2.1) (by rw [HDN.out]; exact H6.out.1.nodup_iff.2 (nodup_kT HS3.out.map.keys_nodup))
end Go.Proofs.YtfiabonacpepnaaGreatDoor.Fb
namespace Go.Proofs.YtfiabonacpepnaaGreatDoor.Fb
open Go Go.RowKit Go.Lib Go.Shelf Go.Maps

/-- a base whose lists read as facts -/
structure BaseR (w : World) (bs : Array Value) (Ls : Nat → List FactV) : Prop where
  size : bs.size = 10
  at_ : ∀ q, q < 10 → ∃ v, bs[q]? = some v ∧ FactsAt w v (Ls q)
theorem Lists.read {w : World} {base : Nat} {bs : Array Value} {fs : List FactV} (h : Lists w base bs fs) : BaseR w bs (fun q => fs.filter (kindF q)) :=
  ⟨h.size, fun q hq => by obtain ⟨v, h1, h2⟩ := h.own q hq; exact ⟨v, h1, h2.facts⟩⟩
theorem list10 {α : Type} (l : Array α) (h : l.size = 10) : ∃ a0 a1 a2 a3 a4 a5 a6 a7 a8 a9, l = #[a0, a1, a2, a3, a4, a5, a6, a7, a8, a9] := by
  obtain ⟨l⟩ := l
  match l, h with
  | [a0, a1, a2, a3, a4, a5, a6, a7, a8, a9], _ => exact ⟨a0, a1, a2, a3, a4, a5, a6, a7, a8, a9, rfl⟩
theorem BaseR.slices {w : World} {bs : Array Value} {Ls : Nat → List FactV} (h : BaseR w bs Ls) : ∃ A0 n0 c0 A1 n1 c1 A2 n2 c2 A3 n3 c3 A4 n4 c4 A5 n5 c5 A6 n6 c6 A7 n7 c7 A8 n8 c8 A9 n9 c9, bs = #[.slice A0 n0 c0, .slice A1 n1 c1, .slice A2 n2 c2, .slice A3 n3 c3, .slice A4 n4 c4, .slice A5 n5 c5, .slice A6 n6 c6, .slice A7 n7 c7, .slice A8 n8 c8, .slice A9 n9 c9] := by
  obtain ⟨a0, a1, a2, a3, a4, a5, a6, a7, a8, a9, rfl⟩ := list10 bs h.size
  have hs : ∀ q v, (#[a0, a1, a2, a3, a4, a5, a6, a7, a8, a9] : Array Value)[q]? = some v → q < 10 → ∃ A n c, v = .slice A n c := by
    intro q v hv hq
    obtain ⟨u, h1, h2⟩ := h.at_ q hq
    rw [hv] at h1
    cases h1
    obtain ⟨A, c, rfl⟩ := h2.sl
    exact ⟨A, _, c, rfl⟩
  obtain ⟨A0, n0, c0, rfl⟩ := hs 0 a0 rfl (by omega)
  obtain ⟨A1, n1, c1, rfl⟩ := hs 1 a1 rfl (by omega)
  obtain ⟨A2, n2, c2, rfl⟩ := hs 2 a2 rfl (by omega)
  obtain ⟨A3, n3, c3, rfl⟩ := hs 3 a3 rfl (by omega)
  obtain ⟨A4, n4, c4, rfl⟩ := hs 4 a4 rfl (by omega)
  obtain ⟨A5, n5, c5, rfl⟩ := hs 5 a5 rfl (by omega)
  obtain ⟨A6, n6, c6, rfl⟩ := hs 6 a6 rfl (by omega)
  obtain ⟨A7, n7, c7, rfl⟩ := hs 7 a7 rfl (by omega)
  obtain ⟨A8, n8, c8, rfl⟩ := hs 8 a8 rfl (by omega)
  obtain ⟨A9, n9, c9, rfl⟩ := hs 9 a9 rfl (by omega)
  exact ⟨A0, n0, c0, A1, n1, c1, A2, n2, c2, A3, n3, c3, A4, n4, c4, A5, n5, c5, A6, n6, c6, A7, n7, c7, A8, n8, c8, A9, n9, c9, rfl⟩
end Go.Proofs.YtfiabonacpepnaaGreatDoor.Fb
namespace Go.Proofs.YtfiabonacpepnaaGreatDoor.Fb
open Go Go.RowKit Go.Lib Go.Shelf Go.Maps
theorem FactsAt.more {w w' : World} {v : Value} {fs : List FactV} (h : FactsAt w v fs) (hb : Below w.heap.size w w') : FactsAt w' v fs := by
  rcases h with h | ⟨b, o, c, rfl, hlt, h⟩
  · exact .inl h
  · exact .inr ⟨b, o, c, rfl, Nat.lt_of_lt_of_le hlt hb.size, fun i f hf j x hx => (hb.cell (p := ⟨b, o + i * 18 + j, none⟩) hlt).trans (h i f hf j x hx)⟩
/-- a fact of a list in memory -/
theorem FactsAt.get {w : World} {A : Option Addr} {n c : Nat} {l : List FactV} (h : FactsAt w (.slice A n c) l) {j : Nat} {f : FactV} (hf : l[j]? = some f) :
    ∃ b o, A = some ⟨b, o, none⟩ ∧ b < w.heap.size ∧ ∀ j2 x, f.cells[j2]? = some x → w.cell? ⟨b, o + j * 18 + j2, none⟩ = some x := by
  rcases h with ⟨h0, _⟩ | ⟨b, o, c', he, hlt, hc⟩
  · rw [h0] at hf; simp at hf
  · cases he
    exact ⟨b, o, rfl, hlt, hc j f hf⟩
theorem BaseR.one {w : World} {bs : Array Value} {Ls : Nat → List FactV} (h : BaseR w bs Ls) : bs.all (·.oneCell') = true := by
  rw [Array.all_eq_true_iff_forall_mem]
  intro v hv
  obtain ⟨q, hq⟩ := Array.getElem?_of_mem hv
  have hlt := (Array.getElem?_eq_some_iff.1 hq).1
  rw [h.size] at hlt
  obtain ⟨u, h1, h2⟩ := h.at_ q hlt
  rw [hq] at h1
  cases h1
  obtain ⟨A, c, rfl⟩ := h2.sl
  rfl
theorem BaseR.more {w w' : World} {bs : Array Value} {Ls : Nat → List FactV} (h : BaseR w bs Ls) (hb : Below w.heap.size w w') : BaseR w' bs Ls :=
  ⟨h.size, fun q hq => by obtain ⟨v, h1, h2⟩ := h.at_ q hq; exact ⟨v, h1, h2.more hb⟩⟩

def stepE (is : FactV → Bool) (p : Int) (out : Option FactV) (f : FactV) : Option FactV :=
  if decide (f.n 11 ≤ p) && (is f && (match out with | none => true | some g => decide (g.n 11 < f.n 11))) then some f else out
def inEff (is : FactV → Bool) (p : Int) (l : List FactV) : Option FactV := l.foldl (stepE is p) none
theorem inEff_take (is : FactV → Bool) (p : Int) {l : List FactV} {j : Nat} {f : FactV} (h : l[j]? = some f) : inEff is p (l.take (j + 1)) = stepE is p (inEff is p (l.take j)) f := by
  rw [take_next h]
  simp [inEff]
theorem store_fact_row {ops : Array Oper} {rest : List Oper} {o : Oper} {a : Act} {w : World} {Q : Exit → Act → World → Prop} (x y : Operand) (g : Nat) (cs old : Array Value) (hg : RowAt w g 47 old) (hi : (Tryz.prog.info? 47).map (·.size) = some cs.size)
    (hold : old.size = cs.size) (h1 : cs.all (·.oneCell') = true) (hgd : o.guard = none) (ho : o.op = .store 47 x y) (hx : a.eval x = .pointer (some ⟨g, 0, none⟩)) (hy : a.eval y = .agg cs)
    (h : wpList Tryz.prog ops Q rest (a.put o.dst undef) (w.setRow g cs)) : wpList Tryz.prog ops Q (o :: rest) a w :=
  wpList_plain hgd fun _ hK => wp_store_row _ x y ho g cs hx hy _ old hg hi hold h1 (hK _ _ h)
theorem results_cell_tmp2 {P : Program} {fn : Func} {p q : Tmp} {ty : TypeId} (h : fn.results = #[.cell p ty, .tmp q]) (tmps : Array Value) (w : World) (ad : Addr) (v : Value) (hp : tmps.getD p undef = .pointer (some ad)) (hl : (loadVar ty ad).run P w = .ok v w) :
    (results fn tmps).run P w = .ok (.tuple #[v, tmps.getD q undef]) w := by
  have hp' : tmps[p]?.getD undef = .pointer (some ad) := by simpa using hp
  simp [results, h, hp', asAddr, hl]
theorem fact_load (W : World) (b : Nat) (f : FactV) (h : RowAt W b 47 f.cells) : (loadVar 47 ⟨b, 0, none⟩).run Tryz.prog W = .ok (.agg f.cells) W :=
  run_loadVar_at (P := Tryz.prog) W b 0 47 f.cells _ (fun j x hx => by rw [Nat.zero_add, h.cell]; exact hx) Tryz.underlying47 rfl fact_size
set_option maxRecDepth 100000 in
set_option maxHeartbeats 8000000 in
theorem inEffect_0 (g : FuncId) (is : FactV → Bool) (p : Int) (v : Value) (fs : List FactV) (w : World) (hn : fs.length ≤ 1000000) (I : World → Prop) (hI : ∀ W, Below w.heap.size w W → I W)
    (eg : ∀ args w, (callFunc g args).run Tryz.prog w = .ok (.enter g args) w) (hv : FactsAt w v fs)
    (hg : ∀ f W, I W → Calls Tryz.prog g #[.agg f.cells] W fun e w' => e = .returned (.bool (is f)) ∧ Below W.heap.size W w') :
    Calls Tryz.prog 53 #[v, .int .i64 p, .func (.func g) #[] #[]] w fun e w' => e = .returned (.tuple #[.agg ((inEff is p fs).getD zf).cells, .bool (inEff is p fs).isSome]) ∧ Below w.heap.size w w' := by
  have HV := Lib.hid hv
  have HG := Lib.hid (And.intro hI hg)
  obtain ⟨A, c, rfl⟩ := hv.sl
  obtain ⟨m, hm⟩ : ∃ z, fs.length = z := ⟨_, rfl⟩
  rw [hm] at HV hn ⊢
  have HM := Lib.hid hm
  have h0 : RowAt (((w.alloc (.cells #[.int .i64 0, .int .i64 0, .int .i64 0, .int .i64 0, .int .i64 0, .int .i64 0, .int .i64 0, .int .i64 0, .int .i64 0, .int .i64 0, .int .i64 0, .int .i64 0, .int .i64 0, .int .i64 0, .int .i64 0, .int .i64 0, .int .i64 0, .string ⟨#[]⟩] 47)).alloc (.cells #[.int .i64 0, .int .i64 0, .int .i64 0, .int .i64 0, .int .i64 0, .int .i64 0, .int .i64 0, .int .i64 0, .int .i64 0, .int .i64 0, .int .i64 0, .int .i64 0, .int .i64 0, .int .i64 0, .int .i64 0, .int .i64 0, .int .i64 0, .string ⟨#[]⟩] 47))) w.heap.size 47 #[.int .i64 0, .int .i64 0, .int .i64 0, .int .i64 0, .int .i64 0, .int .i64 0, .int .i64 0, .int .i64 0, .int .i64 0, .int .i64 0, .int .i64 0, .int .i64 0, .int .i64 0, .int .i64 0, .int .i64 0, .int .i64 0, .int .i64 0, .string ⟨#[]⟩] := (RowAt.new w _ _).alloc _
  have h1 : RowAt (((w.alloc (.cells #[.int .i64 0, .int .i64 0, .int .i64 0, .int .i64 0, .int .i64 0, .int .i64 0, .int .i64 0, .int .i64 0, .int .i64 0, .int .i64 0, .int .i64 0, .int .i64 0, .int .i64 0, .int .i64 0, .int .i64 0, .int .i64 0, .int .i64 0, .string ⟨#[]⟩] 47)).alloc (.cells #[.int .i64 0, .int .i64 0, .int .i64 0, .int .i64 0, .int .i64 0, .int .i64 0, .int .i64 0, .int .i64 0, .int .i64 0, .int .i64 0, .int .i64 0, .int .i64 0, .int .i64 0, .int .i64 0, .int .i64 0, .int .i64 0, .int .i64 0, .string ⟨#[]⟩] 47))) (w.heap.size + 1) 47 #[.int .i64 0, .int .i64 0, .int .i64 0, .int .i64 0, .int .i64 0, .int .i64 0, .int .i64 0, .int .i64 0, .int .i64 0, .int .i64 0, .int .i64 0, .int .i64 0, .int .i64 0, .int .i64 0, .int .i64 0, .int .i64 0, .int .i64 0, .string ⟨#[]⟩] := by
    have h := RowAt.new (w.alloc (.cells #[.int .i64 0, .int .i64 0, .int .i64 0, .int .i64 0, .int .i64 0, .int .i64 0, .int .i64 0, .int .i64 0, .int .i64 0, .int .i64 0, .int .i64 0, .int .i64 0, .int .i64 0, .int .i64 0, .int .i64 0, .int .i64 0, .int .i64 0, .string ⟨#[]⟩] 47)) 47 #[.int .i64 0, .int .i64 0, .int .i64 0, .int .i64 0, .int .i64 0, .int .i64 0, .int .i64 0, .int .i64 0, .int .i64 0, .int .i64 0, .int .i64 0, .int .i64 0, .int .i64 0, .int .i64 0, .int .i64 0, .int .i64 0, .int .i64 0, .string ⟨#[]⟩]
    simpa using h
  have H0 := Lib.hid (And.intro h0 (And.intro h1 (show Below w.heap.size w (((w.alloc (.cells #[.int .i64 0, .int .i64 0, .int .i64 0, .int .i64 0, .int .i64 0, .int .i64 0, .int .i64 0, .int .i64 0, .int .i64 0, .int .i64 0, .int .i64 0, .int .i64 0, .int .i64 0, .int .i64 0, .int .i64 0, .int .i64 0, .int .i64 0, .string ⟨#[]⟩] 47)).alloc (.cells #[.int .i64 0, .int .i64 0, .int .i64 0, .int .i64 0, .int .i64 0, .int .i64 0, .int .i64 0, .int .i64 0, .int .i64 0, .int .i64 0, .int .i64 0, .int .i64 0, .int .i64 0, .int .i64 0, .int .i64 0, .int .i64 0, .int .i64 0, .string ⟨#[]⟩] 47))) from ((Below.refl _ _).alloc (Nat.le_refl _) _).alloc (by simp) _)))
  clear hv hI hg hm h0 h1
  go_enter Tryz.func53, Tryz.ntmps53
  go_wp2_with fail
  go_loopw [14, 9] (fun v14 v9 wr => ∃ j : Nat, v14 = .int .i64 j ∧ j ≤ m ∧ v9 = .bool (inEff is p (fs.take j)).isSome ∧ Hid (RowAt wr w.heap.size 47 #[.int .i64 0, .int .i64 0, .int .i64 0, .int .i64 0, .int .i64 0, .int .i64 0, .int .i64 0, .int .i64 0, .int .i64 0, .int .i64 0, .int .i64 0, .int .i64 0, .int .i64 0, .int .i64 0, .int .i64 0, .int .i64 0, .int .i64 0, .string ⟨#[]⟩] ∧ RowAt wr (w.heap.size + 1) 47 ((inEff is p (fs.take j)).getD zf).cells ∧ Below w.heap.size w wr)) (fun v14 _ _ => m - (RowKit.intOf v14).toNat)
  case atStart => exact ⟨0, rfl, by omega, by simp [inEff], Lib.hid ⟨H0.out.1, by rw [List.take_zero]; exact H0.out.2.1, H0.out.2.2⟩⟩
  case round =>
    obtain ⟨j, rfl, hj, rfl, HS⟩ := hrel
    obtain ⟨o, hout⟩ : ∃ z, inEff is p (fs.take j) = z := ⟨_, rfl⟩
    rw [hout] at HS ⊢
    by_cases hj2 : j < m
    · have hjd : decide (j < m) = true := by simpa using hj2
      obtain ⟨f, hf⟩ : ∃ x, fs[j]? = some x := ⟨_, List.getElem?_eq_getElem (by have := HM.out; omega)⟩
      obtain ⟨b, ob, rfl, hlt, hcell⟩ := (HV.out.more HS.out.2.2).get hf
      have HF := Lib.hid (And.intro hf hout)
      have HST := Lib.hid (show inEff is p (fs.take (j + 1)) = stepE is p o f by rw [inEff_take is p hf, hout])
      have HCF : Hid ((Tryz.prog.info? 47).map (·.size) = some f.cells.size ∧ f.cells.all (·.oneCell') = true ∧ (#[.int .i64 0, .int .i64 0, .int .i64 0, .int .i64 0, .int .i64 0, .int .i64 0, .int .i64 0, .int .i64 0, .int .i64 0, .int .i64 0, .int .i64 0, .int .i64 0, .int .i64 0, .int .i64 0, .int .i64 0, .int .i64 0, .int .i64 0, .string ⟨#[]⟩] : Array Value).size = f.cells.size) := Lib.hid ⟨fact_size, f.cells_one, rfl⟩
      have HOS : Hid ((o.getD zf).cells.size = f.cells.size) := Lib.hid rfl
      have HF11 : Hid (f.cells[11]? = some (.int .i64 (f.n 11))) := Lib.hid rfl
      have HO11 : Hid ((o.getD zf).cells[11]? = some (.int .i64 ((o.getD zf).n 11))) := Lib.hid rfl
      have HIS := Lib.hid (fun W h => HG.out.2 f W h)
      obtain ⟨cf, hcf⟩ : ∃ z, f.cells = z := ⟨_, rfl⟩
      have HCC := Lib.hid hcf
      rw [hcf] at HCF hcell HOS HF11 HIS
      obtain ⟨x11, hx11⟩ : ∃ z, f.n 11 = z := ⟨_, rfl⟩
      obtain ⟨y11, hy11⟩ : ∃ z, (o.getD zf).n 11 = z := ⟨_, rfl⟩
      rw [hx11] at HF11
      rw [hy11] at HO11
      have HXY := Lib.hid (And.intro hx11 hy11)
      have HC1 := Lib.hid hcell
      obtain ⟨N, hN⟩ : ∃ z, wr.heap.size = z := ⟨_, rfl⟩
      have HNN := Lib.hid hN
      obtain ⟨W1, hW1⟩ : ∃ z, wr.alloc (.cells cf 47) = z := ⟨_, rfl⟩
      have H1 : Hid (RowAt W1 N 47 cf ∧ RowAt W1 w.heap.size 47 #[.int .i64 0, .int .i64 0, .int .i64 0, .int .i64 0, .int .i64 0, .int .i64 0, .int .i64 0, .int .i64 0, .int .i64 0, .int .i64 0, .int .i64 0, .int .i64 0, .int .i64 0, .int .i64 0, .int .i64 0, .int .i64 0, .int .i64 0, .string ⟨#[]⟩] ∧ RowAt W1 (w.heap.size + 1) 47 (o.getD zf).cells ∧ Below w.heap.size w W1) := Lib.hid (by
        rw [← hW1]
        exact ⟨by rw [← hN]; exact RowAt.new _ _ _, HS.out.1.alloc _, HS.out.2.1.alloc _, HS.out.2.2.alloc HS.out.2.2.size _⟩)
      have c11 : W1.cell? ⟨N, 11, none⟩ = some (.int .i64 x11) := by rw [H1.out.1.cell]; exact HF11.out
      have HL1 : Hid (∀ j2 x, cf[j2]? = some x → W1.cell? ⟨N, 0 + j2, none⟩ = some x) := Lib.hid (fun j2 x hx => by rw [Nat.zero_add, H1.out.1.cell]; exact hx)
      have HW1 := Lib.hid (HIS.out W1 (HG.out.1 W1 H1.out.2.2.2))
      clear hf hcf hcell hlt hx11 hy11 hout
      have hnn : N ≠ w.heap.size + 1 := by have h2 := HS.out.2.1.lt; omega
      have HNE := Lib.hid hnn
      clear hnn
      by_cases hp : x11 ≤ p
      · have hpd : decide (x11 ≤ p) = true := decide_eq_true hp
        go_wp2_with (first | ((with_reducible refine load_at (o := ⟨some 17, _, _, _, _, _⟩) (.tmp 16) b (ob + j * 18) cf HC1.out HCF.out.1 ?_ ?_ ?_ ?_); rfl; rfl; rfl) | ((with_reducible refine store_cs (o := ⟨none, _, _, _, _, _⟩) (.tmp 11) (.tmp 17) N HNN.out _ cf HCF.out.1 HCF.out.2.1 HCF.out.2.2 ?_ ?_ ?_ ?_ ?_); rfl; rfl; rfl; rfl) | ((with_reducible refine load_csg (o := ⟨some 24, _, _, _, _, _⟩) (.tmp 11) N cf HL1.out HCF.out.1 ?_ ?_ ?_ ?_); rfl; rfl; rfl))
        refine HW1.out.mono ?_
        rintro e W2 ⟨rfl, hb2⟩
        have H2 : Hid (RowAt W2 N 47 cf ∧ RowAt W2 w.heap.size 47 #[.int .i64 0, .int .i64 0, .int .i64 0, .int .i64 0, .int .i64 0, .int .i64 0, .int .i64 0, .int .i64 0, .int .i64 0, .int .i64 0, .int .i64 0, .int .i64 0, .int .i64 0, .int .i64 0, .int .i64 0, .int .i64 0, .int .i64 0, .string ⟨#[]⟩] ∧ RowAt W2 (w.heap.size + 1) 47 (o.getD zf).cells ∧ Below w.heap.size w W2) := Lib.hid ⟨H1.out.1.below hb2 H1.out.1.lt, H1.out.2.1.below hb2 H1.out.2.1.lt, H1.out.2.2.1.below hb2 H1.out.2.2.1.lt, H1.out.2.2.2.trans (hb2.mono H1.out.2.2.2.size)⟩
        have c12 : W2.cell? ⟨N, 11, none⟩ = some (.int .i64 x11) := by rw [H2.out.1.cell]; exact HF11.out
        have d12 : W2.cell? ⟨w.heap.size + 1, 11, none⟩ = some (.int .i64 y11) := by rw [H2.out.2.2.1.cell]; exact HO11.out
        have HL2 : Hid (∀ j2 x, cf[j2]? = some x → W2.cell? ⟨N, 0 + j2, none⟩ = some x) := Lib.hid (fun j2 x hx => by rw [Nat.zero_add, H2.out.1.cell]; exact hx)
        have HPP := Lib.hid hp
        clear hb2 hW1 hN hp c11
        cases hif : is f
        · have HSK : Hid (inEff is p (fs.take (j + 1)) = o) := Lib.hid (by rw [HST.out]; unfold stepE; rw [hif]; simp)
          clear hif
          go_wp2_with fail
          go_roundw
          case rel =>
            refine ⟨j + 1, by go_num, by omega, by rw [HSK.out], Lib.hid ?_⟩
            rw [HSK.out]
            exact ⟨H2.out.2.1, H2.out.2.2.1, H2.out.2.2.2⟩
          case measure => simp [RowKit.intOf]; omega
        · cases o with
          | none =>
            have HSK : Hid (inEff is p (fs.take (j + 1)) = some f) := Lib.hid (by rw [HST.out]; unfold stepE; rw [hif, HXY.out.1, decide_eq_true HPP.out]; rfl)
            clear hif
            simp only [Option.isSome_none]
            go_wp2_with (first | ((with_reducible refine load_at (o := ⟨some 38, _, _, _, _, _⟩) (.tmp 11) N 0 cf HL2.out HCF.out.1 ?_ ?_ ?_ ?_); rfl; rfl; rfl) | ((with_reducible refine store_fact_row (o := ⟨none, _, _, _, _, _⟩) (.tmp 8) (.tmp 38) (w.heap.size + 1) cf _ H2.out.2.2.1 HCF.out.1 HOS.out HCF.out.2.1 ?_ ?_ ?_ ?_ ?_); rfl; rfl; rfl; rfl))
            go_roundw
            case rel =>
              refine ⟨j + 1, by go_num, by omega, by rw [HSK.out]; rfl, Lib.hid ?_⟩
              rw [HSK.out]
              refine ⟨(setRow_far (by omega)).trans H2.out.2.1, ?_, below_setR H2.out.2.2.2 (by omega)⟩
              show RowAt _ _ _ f.cells
              rw [HCC.out]
              exact setRow_at H2.out.2.2.1
            case measure => simp [RowKit.intOf]; omega
          | some g0 =>
            simp only [Option.isSome_some]
            by_cases hgt : y11 < x11
            · have hgd : decide (y11 < x11) = true := decide_eq_true hgt
              have HSK : Hid (inEff is p (fs.take (j + 1)) = some f) := Lib.hid (by
                have h1 : g0.n 11 = y11 := HXY.out.2
                rw [HST.out]; unfold stepE; simp only [hif, HXY.out.1, h1, decide_eq_true HPP.out, hgd, Bool.and_self, if_true])
              clear hif
              go_wp2_with (first | ((with_reducible refine load_at (o := ⟨some 38, _, _, _, _, _⟩) (.tmp 11) N 0 cf HL2.out HCF.out.1 ?_ ?_ ?_ ?_); rfl; rfl; rfl) | ((with_reducible refine store_fact_row (o := ⟨none, _, _, _, _, _⟩) (.tmp 8) (.tmp 38) (w.heap.size + 1) cf _ H2.out.2.2.1 HCF.out.1 HOS.out HCF.out.2.1 ?_ ?_ ?_ ?_ ?_); rfl; rfl; rfl; rfl))
              go_roundw
              case rel =>
                refine ⟨j + 1, by go_num, by omega, by rw [HSK.out]; rfl, Lib.hid ?_⟩
                rw [HSK.out]
                refine ⟨(setRow_far (by omega)).trans H2.out.2.1, ?_, below_setR H2.out.2.2.2 (by omega)⟩
                show RowAt _ _ _ f.cells
                rw [HCC.out]
                exact setRow_at H2.out.2.2.1
              case measure => simp [RowKit.intOf]; omega
            · have hgd : decide (y11 < x11) = false := decide_eq_false hgt
              have HSK : Hid (inEff is p (fs.take (j + 1)) = some g0) := Lib.hid (by
                have h1 : g0.n 11 = y11 := HXY.out.2
                rw [HST.out]; unfold stepE; simp [hif, HXY.out.1, h1, hgd])
              clear hif
              go_wp2_with fail
              go_roundw
              case rel =>
                refine ⟨j + 1, by go_num, by omega, by rw [HSK.out]; rfl, Lib.hid ?_⟩
                rw [HSK.out]
                exact ⟨H2.out.2.1, H2.out.2.2.1, H2.out.2.2.2⟩
              case measure => simp [RowKit.intOf]; omega
      · have hpd : decide (x11 ≤ p) = false := decide_eq_false hp
        have HSK : Hid (inEff is p (fs.take (j + 1)) = o) := Lib.hid (by rw [HST.out]; unfold stepE; rw [HXY.out.1, hpd]; simp)
        go_wp2_with (first | ((with_reducible refine load_at (o := ⟨some 17, _, _, _, _, _⟩) (.tmp 16) b (ob + j * 18) cf HC1.out HCF.out.1 ?_ ?_ ?_ ?_); rfl; rfl; rfl) | ((with_reducible refine store_cs (o := ⟨none, _, _, _, _, _⟩) (.tmp 11) (.tmp 17) N HNN.out _ cf HCF.out.1 HCF.out.2.1 HCF.out.2.2 ?_ ?_ ?_ ?_ ?_); rfl; rfl; rfl; rfl))
        go_roundw
        case rel =>
          refine ⟨j + 1, by go_num, by omega, by rw [HSK.out], Lib.hid ?_⟩
          rw [HSK.out]
          exact ⟨H1.out.2.1, H1.out.2.2.1, H1.out.2.2.2⟩
        case measure => simp [RowKit.intOf]; omega
    · obtain rfl : j = m := by omega
      have hjd : decide (j < j) = false := by simp
      have htk : fs.take j = fs := List.take_of_length_le (by have := HM.out; omega)
      rw [htk] at hout
      have HO := Lib.hid hout
      have HOF : Hid ((Tryz.prog.info? 47).map (·.size) = some (o.getD zf).cells.size ∧ (o.getD zf).cells.all (·.oneCell') = true ∧ (#[.int .i64 0, .int .i64 0, .int .i64 0, .int .i64 0, .int .i64 0, .int .i64 0, .int .i64 0, .int .i64 0, .int .i64 0, .int .i64 0, .int .i64 0, .int .i64 0, .int .i64 0, .int .i64 0, .int .i64 0, .int .i64 0, .int .i64 0, .string ⟨#[]⟩] : Array Value).size = (o.getD zf).cells.size) := Lib.hid ⟨fact_size, (o.getD zf).cells_one, rfl⟩
      obtain ⟨oc, hoc⟩ : ∃ z, (o.getD zf).cells = z := ⟨_, rfl⟩
      rw [hoc] at HOF HS
      have HOC := Lib.hid hoc
      obtain ⟨ob, hob⟩ : ∃ z, o.isSome = z := ⟨_, rfl⟩
      rw [hob]
      have HOB := Lib.hid hob
      have HLO : Hid (∀ j2 x, oc[j2]? = some x → wr.cell? ⟨w.heap.size + 1, 0 + j2, none⟩ = some x) := Lib.hid (fun j2 x hx => by rw [Nat.zero_add, HS.out.2.1.cell]; exact hx)
      clear htk hout hoc hob
      go_wp2_with (first | ((with_reducible refine load_at (o := ⟨some 40, _, _, _, _, _⟩) (.tmp 8) (w.heap.size + 1) 0 oc HLO.out HOF.out.1 ?_ ?_ ?_ ?_); rfl; rfl; rfl) | ((with_reducible refine store_fact_row (o := ⟨none, _, _, _, _, _⟩) (.tmp 6) (.tmp 40) w.heap.size oc _ HS.out.1 HOF.out.1 HOF.out.2.2 HOF.out.2.1 ?_ ?_ ?_ ?_ ?_); rfl; rfl; rfl; rfl))
      have hrow : RowAt (wr.setRow w.heap.size oc) w.heap.size 47 (o.getD zf).cells := by rw [HOC.out]; exact setRow_at HS.out.1
      have hl := fact_load _ _ _ hrow
      rw [HOC.out] at hl
      refine bodyPost_ret (results_cell_tmp2 (p := 6) (q := 7) rfl _ _ _ _ rfl hl) rfl ⟨?_, below_setR HS.out.2.2 (Nat.le_refl _)⟩
      rw [HO.out, HOC.out, HOB.out]
      rfl
set_option maxRecDepth 100000 in
set_option maxHeartbeats 8000000 in
theorem inEffect_1 (g : FuncId) (c1 : Value) (is : FactV → Bool) (p : Int) (v : Value) (fs : List FactV) (w : World) (hn : fs.length ≤ 1000000) (I : World → Prop) (hI : ∀ W, Below w.heap.size w W → I W)
    (eg : ∀ args w, (callFunc g args).run Tryz.prog w = .ok (.enter g args) w) (hv : FactsAt w v fs)
    (hg : ∀ f W, I W → Calls Tryz.prog g #[.agg f.cells, c1] W fun e w' => e = .returned (.bool (is f)) ∧ Below W.heap.size W w') :
    Calls Tryz.prog 53 #[v, .int .i64 p, .func (.func g) #[] #[c1]] w fun e w' => e = .returned (.tuple #[.agg ((inEff is p fs).getD zf).cells, .bool (inEff is p fs).isSome]) ∧ Below w.heap.size w w' := by
  have HV := Lib.hid hv
  have HG := Lib.hid (And.intro hI hg)
  obtain ⟨A, c, rfl⟩ := hv.sl
  obtain ⟨m, hm⟩ : ∃ z, fs.length = z := ⟨_, rfl⟩
  rw [hm] at HV hn ⊢
  have HM := Lib.hid hm
  have h0 : RowAt (((w.alloc (.cells #[.int .i64 0, .int .i64 0, .int .i64 0, .int .i64 0, .int .i64 0, .int .i64 0, .int .i64 0, .int .i64 0, .int .i64 0, .int .i64 0, .int .i64 0, .int .i64 0, .int .i64 0, .int .i64 0, .int .i64 0, .int .i64 0, .int .i64 0, .string ⟨#[]⟩] 47)).alloc (.cells #[.int .i64 0, .int .i64 0, .int .i64 0, .int .i64 0, .int .i64 0, .int .i64 0, .int .i64 0, .int .i64 0, .int .i64 0, .int .i64 0, .int .i64 0, .int .i64 0, .int .i64 0, .int .i64 0, .int .i64 0, .int .i64 0, .int .i64 0, .string ⟨#[]⟩] 47))) w.heap.size 47 #[.int .i64 0, .int .i64 0, .int .i64 0, .int .i64 0, .int .i64 0, .int .i64 0, .int .i64 0, .int .i64 0, .int .i64 0, .int .i64 0, .int .i64 0, .int .i64 0, .int .i64 0, .int .i64 0, .int .i64 0, .int .i64 0, .int .i64 0, .string ⟨#[]⟩] := (RowAt.new w _ _).alloc _
  have h1 : RowAt (((w.alloc (.cells #[.int .i64 0, .int .i64 0, .int .i64 0, .int .i64 0, .int .i64 0, .int .i64 0, .int .i64 0, .int .i64 0, .int .i64 0, .int .i64 0, .int .i64 0, .int .i64 0, .int .i64 0, .int .i64 0, .int .i64 0, .int .i64 0, .int .i64 0, .string ⟨#[]⟩] 47)).alloc (.cells #[.int .i64 0, .int .i64 0, .int .i64 0, .int .i64 0, .int .i64 0, .int .i64 0, .int .i64 0, .int .i64 0, .int .i64 0, .int .i64 0, .int .i64 0, .int .i64 0, .int .i64 0, .int .i64 0, .int .i64 0, .int .i64 0, .int .i64 0, .string ⟨#[]⟩] 47))) (w.heap.size + 1) 47 #[.int .i64 0, .int .i64 0, .int .i64 0, .int .i64 0, .int .i64 0, .int .i64 0, .int .i64 0, .int .i64 0, .int .i64 0, .int .i64 0, .int .i64 0, .int .i64 0, .int .i64 0, .int .i64 0, .int .i64 0, .int .i64 0, .int .i64 0, .string ⟨#[]⟩] := by
    have h := RowAt.new (w.alloc (.cells #[.int .i64 0, .int .i64 0, .int .i64 0, .int .i64 0, .int .i64 0, .int .i64 0, .int .i64 0, .int .i64 0, .int .i64 0, .int .i64 0, .int .i64 0, .int .i64 0, .int .i64 0, .int .i64 0, .int .i64 0, .int .i64 0, .int .i64 0, .string ⟨#[]⟩] 47)) 47 #[.int .i64 0, .int .i64 0, .int .i64 0, .int .i64 0, .int .i64 0, .int .i64 0, .int .i64 0, .int .i64 0, .int .i64 0, .int .i64 0, .int .i64 0, .int .i64 0, .int .i64 0, .int .i64 0, .int .i64 0, .int .i64 0, .int .i64 0, .string ⟨#[]⟩]
    simpa using h
  have H0 := Lib.hid (And.intro h0 (And.intro h1 (show Below w.heap.size w (((w.alloc (.cells #[.int .i64 0, .int .i64 0, .int .i64 0, .int .i64 0, .int .i64 0, .int .i64 0, .int .i64 0, .int .i64 0, .int .i64 0, .int .i64 0, .int .i64 0, .int .i64 0, .int .i64 0, .int .i64 0, .int .i64 0, .int .i64 0, .int .i64 0, .string ⟨#[]⟩] 47)).alloc (.cells #[.int .i64 0, .int .i64 0, .int .i64 0, .int .i64 0, .int .i64 0, .int .i64 0, .int .i64 0, .int .i64 0, .int .i64 0, .int .i64 0, .int .i64 0, .int .i64 0, .int .i64 0, .int .i64 0, .int .i64 0, .int .i64 0, .int .i64 0, .string ⟨#[]⟩] 47))) from ((Below.refl _ _).alloc (Nat.le_refl _) _).alloc (by simp) _)))
  clear hv hI hg hm h0 h1
  go_enter Tryz.func53, Tryz.ntmps53
  go_wp2_with fail
  go_loopw [14, 9] (fun v14 v9 wr => ∃ j : Nat, v14 = .int .i64 j ∧ j ≤ m ∧ v9 = .bool (inEff is p (fs.take j)).isSome ∧ Hid (RowAt wr w.heap.size 47 #[.int .i64 0, .int .i64 0, .int .i64 0, .int .i64 0, .int .i64 0, .int .i64 0, .int .i64 0, .int .i64 0, .int .i64 0, .int .i64 0, .int .i64 0, .int .i64 0, .int .i64 0, .int .i64 0, .int .i64 0, .int .i64 0, .int .i64 0, .string ⟨#[]⟩] ∧ RowAt wr (w.heap.size + 1) 47 ((inEff is p (fs.take j)).getD zf).cells ∧ Below w.heap.size w wr)) (fun v14 _ _ => m - (RowKit.intOf v14).toNat)
  case atStart => exact ⟨0, rfl, by omega, by simp [inEff], Lib.hid ⟨H0.out.1, by rw [List.take_zero]; exact H0.out.2.1, H0.out.2.2⟩⟩
  case round =>
    obtain ⟨j, rfl, hj, rfl, HS⟩ := hrel
    obtain ⟨o, hout⟩ : ∃ z, inEff is p (fs.take j) = z := ⟨_, rfl⟩
    rw [hout] at HS ⊢
    by_cases hj2 : j < m
    · have hjd : decide (j < m) = true := by simpa using hj2
      obtain ⟨f, hf⟩ : ∃ x, fs[j]? = some x := ⟨_, List.getElem?_eq_getElem (by have := HM.out; omega)⟩
      obtain ⟨b, ob, rfl, hlt, hcell⟩ := (HV.out.more HS.out.2.2).get hf
      have HF := Lib.hid (And.intro hf hout)
      have HST := Lib.hid (show inEff is p (fs.take (j + 1)) = stepE is p o f by rw [inEff_take is p hf, hout])
      have HCF : Hid ((Tryz.prog.info? 47).map (·.size) = some f.cells.size ∧ f.cells.all (·.oneCell') = true ∧ (#[.int .i64 0, .int .i64 0, .int .i64 0, .int .i64 0, .int .i64 0, .int .i64 0, .int .i64 0, .int .i64 0, .int .i64 0, .int .i64 0, .int .i64 0, .int .i64 0, .int .i64 0, .int .i64 0, .int .i64 0, .int .i64 0, .int .i64 0, .string ⟨#[]⟩] : Array Value).size = f.cells.size) := Lib.hid ⟨fact_size, f.cells_one, rfl⟩
      have HOS : Hid ((o.getD zf).cells.size = f.cells.size) := Lib.hid rfl
      have HF11 : Hid (f.cells[11]? = some (.int .i64 (f.n 11))) := Lib.hid rfl
      have HO11 : Hid ((o.getD zf).cells[11]? = some (.int .i64 ((o.getD zf).n 11))) := Lib.hid rfl
      have HIS := Lib.hid (fun W h => HG.out.2 f W h)
      obtain ⟨cf, hcf⟩ : ∃ z, f.cells = z := ⟨_, rfl⟩
      have HCC := Lib.hid hcf
      rw [hcf] at HCF hcell HOS HF11 HIS
      obtain ⟨x11, hx11⟩ : ∃ z, f.n 11 = z := ⟨_, rfl⟩
      obtain ⟨y11, hy11⟩ : ∃ z, (o.getD zf).n 11 = z := ⟨_, rfl⟩
      rw [hx11] at HF11
      rw [hy11] at HO11
      have HXY := Lib.hid (And.intro hx11 hy11)
      have HC1 := Lib.hid hcell
      obtain ⟨N, hN⟩ : ∃ z, wr.heap.size = z := ⟨_, rfl⟩
      have HNN := Lib.hid hN
      obtain ⟨W1, hW1⟩ : ∃ z, wr.alloc (.cells cf 47) = z := ⟨_, rfl⟩
      have H1 : Hid (RowAt W1 N 47 cf ∧ RowAt W1 w.heap.size 47 #[.int .i64 0, .int .i64 0, .int .i64 0, .int .i64 0, .int .i64 0, .int .i64 0, .int .i64 0, .int .i64 0, .int .i64 0, .int .i64 0, .int .i64 0, .int .i64 0, .int .i64 0, .int .i64 0, .int .i64 0, .int .i64 0, .int .i64 0, .string ⟨#[]⟩] ∧ RowAt W1 (w.heap.size + 1) 47 (o.getD zf).cells ∧ Below w.heap.size w W1) := Lib.hid (by
        rw [← hW1]
        exact ⟨by rw [← hN]; exact RowAt.new _ _ _, HS.out.1.alloc _, HS.out.2.1.alloc _, HS.out.2.2.alloc HS.out.2.2.size _⟩)
      have c11 : W1.cell? ⟨N, 11, none⟩ = some (.int .i64 x11) := by rw [H1.out.1.cell]; exact HF11.out
      have HL1 : Hid (∀ j2 x, cf[j2]? = some x → W1.cell? ⟨N, 0 + j2, none⟩ = some x) := Lib.hid (fun j2 x hx => by rw [Nat.zero_add, H1.out.1.cell]; exact hx)
      have HW1 := Lib.hid (HIS.out W1 (HG.out.1 W1 H1.out.2.2.2))
      clear hf hcf hcell hlt hx11 hy11 hout
      have hnn : N ≠ w.heap.size + 1 := by have h2 := HS.out.2.1.lt; omega
      have HNE := Lib.hid hnn
      clear hnn
      by_cases hp : x11 ≤ p
      · have hpd : decide (x11 ≤ p) = true := decide_eq_true hp
        go_wp2_with (first | ((with_reducible refine load_at (o := ⟨some 17, _, _, _, _, _⟩) (.tmp 16) b (ob + j * 18) cf HC1.out HCF.out.1 ?_ ?_ ?_ ?_); rfl; rfl; rfl) | ((with_reducible refine store_cs (o := ⟨none, _, _, _, _, _⟩) (.tmp 11) (.tmp 17) N HNN.out _ cf HCF.out.1 HCF.out.2.1 HCF.out.2.2 ?_ ?_ ?_ ?_ ?_); rfl; rfl; rfl; rfl) | ((with_reducible refine load_csg (o := ⟨some 24, _, _, _, _, _⟩) (.tmp 11) N cf HL1.out HCF.out.1 ?_ ?_ ?_ ?_); rfl; rfl; rfl))
        refine HW1.out.mono ?_
        rintro e W2 ⟨rfl, hb2⟩
        have H2 : Hid (RowAt W2 N 47 cf ∧ RowAt W2 w.heap.size 47 #[.int .i64 0, .int .i64 0, .int .i64 0, .int .i64 0, .int .i64 0, .int .i64 0, .int .i64 0, .int .i64 0, .int .i64 0, .int .i64 0, .int .i64 0, .int .i64 0, .int .i64 0, .int .i64 0, .int .i64 0, .int .i64 0, .int .i64 0, .string ⟨#[]⟩] ∧ RowAt W2 (w.heap.size + 1) 47 (o.getD zf).cells ∧ Below w.heap.size w W2) := Lib.hid ⟨H1.out.1.below hb2 H1.out.1.lt, H1.out.2.1.below hb2 H1.out.2.1.lt, H1.out.2.2.1.below hb2 H1.out.2.2.1.lt, H1.out.2.2.2.trans (hb2.mono H1.out.2.2.2.size)⟩
        have c12 : W2.cell? ⟨N, 11, none⟩ = some (.int .i64 x11) := by rw [H2.out.1.cell]; exact HF11.out
        have d12 : W2.cell? ⟨w.heap.size + 1, 11, none⟩ = some (.int .i64 y11) := by rw [H2.out.2.2.1.cell]; exact HO11.out
        have HL2 : Hid (∀ j2 x, cf[j2]? = some x → W2.cell? ⟨N, 0 + j2, none⟩ = some x) := Lib.hid (fun j2 x hx => by rw [Nat.zero_add, H2.out.1.cell]; exact hx)
        have HPP := Lib.hid hp
        clear hb2 hW1 hN hp c11
        cases hif : is f
        · have HSK : Hid (inEff is p (fs.take (j + 1)) = o) := Lib.hid (by rw [HST.out]; unfold stepE; rw [hif]; simp)
          clear hif
          go_wp2_with fail
          go_roundw
          case rel =>
            refine ⟨j + 1, by go_num, by omega, by rw [HSK.out], Lib.hid ?_⟩
            rw [HSK.out]
            exact ⟨H2.out.2.1, H2.out.2.2.1, H2.out.2.2.2⟩
          case measure => simp [RowKit.intOf]; omega
        · cases o with
          | none =>
            have HSK : Hid (inEff is p (fs.take (j + 1)) = some f) := Lib.hid (by rw [HST.out]; unfold stepE; rw [hif, HXY.out.1, decide_eq_true HPP.out]; rfl)
            clear hif
            simp only [Option.isSome_none]
            go_wp2_with (first | ((with_reducible refine load_at (o := ⟨some 38, _, _, _, _, _⟩) (.tmp 11) N 0 cf HL2.out HCF.out.1 ?_ ?_ ?_ ?_); rfl; rfl; rfl) | ((with_reducible refine store_fact_row (o := ⟨none, _, _, _, _, _⟩) (.tmp 8) (.tmp 38) (w.heap.size + 1) cf _ H2.out.2.2.1 HCF.out.1 HOS.out HCF.out.2.1 ?_ ?_ ?_ ?_ ?_); rfl; rfl; rfl; rfl))
            go_roundw
            case rel =>
              refine ⟨j + 1, by go_num, by omega, by rw [HSK.out]; rfl, Lib.hid ?_⟩
              rw [HSK.out]
              refine ⟨(setRow_far (by omega)).trans H2.out.2.1, ?_, below_setR H2.out.2.2.2 (by omega)⟩
              show RowAt _ _ _ f.cells
              rw [HCC.out]
              exact setRow_at H2.out.2.2.1
            case measure => simp [RowKit.intOf]; omega
          | some g0 =>
            simp only [Option.isSome_some]
            by_cases hgt : y11 < x11
            · have hgd : decide (y11 < x11) = true := decide_eq_true hgt
              have HSK : Hid (inEff is p (fs.take (j + 1)) = some f) := Lib.hid (by
                have h1 : g0.n 11 = y11 := HXY.out.2
                rw [HST.out]; unfold stepE; simp only [hif, HXY.out.1, h1, decide_eq_true HPP.out, hgd, Bool.and_self, if_true])
              clear hif
              go_wp2_with (first | ((with_reducible refine load_at (o := ⟨some 38, _, _, _, _, _⟩) (.tmp 11) N 0 cf HL2.out HCF.out.1 ?_ ?_ ?_ ?_); rfl; rfl; rfl) | ((with_reducible refine store_fact_row (o := ⟨none, _, _, _, _, _⟩) (.tmp 8) (.tmp 38) (w.heap.size + 1) cf _ H2.out.2.2.1 HCF.out.1 HOS.out HCF.out.2.1 ?_ ?_ ?_ ?_ ?_); rfl; rfl; rfl; rfl))
              go_roundw
              case rel =>
                refine ⟨j + 1, by go_num, by omega, by rw [HSK.out]; rfl, Lib.hid ?_⟩
                rw [HSK.out]
                refine ⟨(setRow_far (by omega)).trans H2.out.2.1, ?_, below_setR H2.out.2.2.2 (by omega)⟩
                show RowAt _ _ _ f.cells
                rw [HCC.out]
                exact setRow_at H2.out.2.2.1
              case measure => simp [RowKit.intOf]; omega
            · have hgd : decide (y11 < x11) = false := decide_eq_false hgt
              have HSK : Hid (inEff is p (fs.take (j + 1)) = some g0) := Lib.hid (by
                have h1 : g0.n 11 = y11 := HXY.out.2
                rw [HST.out]; unfold stepE; simp [hif, HXY.out.1, h1, hgd])
              clear hif
              go_wp2_with fail
              go_roundw
              case rel =>
                refine ⟨j + 1, by go_num, by omega, by rw [HSK.out]; rfl, Lib.hid ?_⟩
                rw [HSK.out]
                exact ⟨H2.out.2.1, H2.out.2.2.1, H2.out.2.2.2⟩
              case measure => simp [RowKit.intOf]; omega
      · have hpd : decide (x11 ≤ p) = false := decide_eq_false hp
        have HSK : Hid (inEff is p (fs.take (j + 1)) = o) := Lib.hid (by rw [HST.out]; unfold stepE; rw [HXY.out.1, hpd]; simp)
        go_wp2_with (first | ((with_reducible refine load_at (o := ⟨some 17, _, _, _, _, _⟩) (.tmp 16) b (ob + j * 18) cf HC1.out HCF.out.1 ?_ ?_ ?_ ?_); rfl; rfl; rfl) | ((with_reducible refine store_cs (o := ⟨none, _, _, _, _, _⟩) (.tmp 11) (.tmp 17) N HNN.out _ cf HCF.out.1 HCF.out.2.1 HCF.out.2.2 ?_ ?_ ?_ ?_ ?_); rfl; rfl; rfl; rfl))
        go_roundw
        case rel =>
          refine ⟨j + 1, by go_num, by omega, by rw [HSK.out], Lib.hid ?_⟩
          rw [HSK.out]
          exact ⟨H1.out.2.1, H1.out.2.2.1, H1.out.2.2.2⟩
        case measure => simp [RowKit.intOf]; omega
    · obtain rfl : j = m := by omega
      have hjd : decide (j < j) = false := by simp
      have htk : fs.take j = fs := List.take_of_length_le (by have := HM.out; omega)
      rw [htk] at hout
      have HO := Lib.hid hout
      have HOF : Hid ((Tryz.prog.info? 47).map (·.size) = some (o.getD zf).cells.size ∧ (o.getD zf).cells.all (·.oneCell') = true ∧ (#[.int .i64 0, .int .i64 0, .int .i64 0, .int .i64 0, .int .i64 0, .int .i64 0, .int .i64 0, .int .i64 0, .int .i64 0, .int .i64 0, .int .i64 0, .int .i64 0, .int .i64 0, .int .i64 0, .int .i64 0, .int .i64 0, .int .i64 0, .string ⟨#[]⟩] : Array Value).size = (o.getD zf).cells.size) := Lib.hid ⟨fact_size, (o.getD zf).cells_one, rfl⟩
      obtain ⟨oc, hoc⟩ : ∃ z, (o.getD zf).cells = z := ⟨_, rfl⟩
      rw [hoc] at HOF HS
      have HOC := Lib.hid hoc
      obtain ⟨ob, hob⟩ : ∃ z, o.isSome = z := ⟨_, rfl⟩
      rw [hob]
      have HOB := Lib.hid hob
      have HLO : Hid (∀ j2 x, oc[j2]? = some x → wr.cell? ⟨w.heap.size + 1, 0 + j2, none⟩ = some x) := Lib.hid (fun j2 x hx => by rw [Nat.zero_add, HS.out.2.1.cell]; exact hx)
      clear htk hout hoc hob
      go_wp2_with (first | ((with_reducible refine load_at (o := ⟨some 40, _, _, _, _, _⟩) (.tmp 8) (w.heap.size + 1) 0 oc HLO.out HOF.out.1 ?_ ?_ ?_ ?_); rfl; rfl; rfl) | ((with_reducible refine store_fact_row (o := ⟨none, _, _, _, _, _⟩) (.tmp 6) (.tmp 40) w.heap.size oc _ HS.out.1 HOF.out.1 HOF.out.2.2 HOF.out.2.1 ?_ ?_ ?_ ?_ ?_); rfl; rfl; rfl; rfl))
      have hrow : RowAt (wr.setRow w.heap.size oc) w.heap.size 47 (o.getD zf).cells := by rw [HOC.out]; exact setRow_at HS.out.1
      have hl := fact_load _ _ _ hrow
      rw [HOC.out] at hl
      refine bodyPost_ret (results_cell_tmp2 (p := 6) (q := 7) rfl _ _ _ _ rfl hl) rfl ⟨?_, below_setR HS.out.2.2 (Nat.le_refl _)⟩
      rw [HO.out, HOC.out, HOB.out]
      rfl
end Go.Proofs.YtfiabonacpepnaaGreatDoor.Fb
namespace Go.Proofs.YtfiabonacpepnaaGreatDoor.Fb
open Go Go.RowKit Go.Lib Go.Shelf Go.Maps

theorem base_load (W : World) (b : Nat) (bs : Array Value) (q : Nat) (v : Value) (h : RowAt W b 53 bs) (hq : bs[q]? = some v) : W.cell? ⟨b, q, none⟩ = some v := by rw [h.cell]; exact hq
set_option maxRecDepth 100000 in
theorem isHolder (hb : Nat) (x : Int) (f : FactV) (W : World) (h : W.cell? ⟨hb, 0, none⟩ = some (.int .i64 x)) :
    Calls Tryz.prog 54 #[.agg f.cells, .pointer (some ⟨hb, 0, none⟩)] W fun e w' => e = .returned (.bool (f.n 9 == x)) ∧ Below W.heap.size W w' := by
  have r1 : RowAt (W.alloc (.cells f.cells 47)) W.heap.size 47 f.cells := RowAt.new W _ _
  have c1 : (W.alloc (.cells f.cells 47)).cell? ⟨W.heap.size, 9, none⟩ = some (.int .i64 (f.n 9)) := by rw [r1.cell]; rfl
  have hbl := World.block_lt_of_cell? W _ h
  have c2 : (W.alloc (.cells f.cells 47)).cell? ⟨hb, 0, none⟩ = some (.int .i64 x) := ((Below.refl W.heap.size W).alloc (Nat.le_refl _) _).cell (p := ⟨hb, 0, none⟩) hbl |>.trans h
  have HB := Lib.hid ((Below.refl W.heap.size W).alloc (Nat.le_refl _) (.cells f.cells 47))
  obtain ⟨y, hy⟩ : ∃ z, f.n 9 = z := ⟨_, rfl⟩
  rw [hy] at c1 ⊢
  obtain ⟨cf, hcf⟩ : ∃ z, f.cells = z := ⟨_, rfl⟩
  rw [hcf] at c1 c2 HB ⊢
  obtain ⟨W1, hW1⟩ : ∃ z, W.alloc (.cells cf 47) = z := ⟨_, rfl⟩
  rw [hW1] at c1 c2 HB
  clear r1 hcf hy h hbl
  go_enter Tryz.func54, Tryz.ntmps54
  go_wp2_with fail
  go_ret
  exact ⟨rfl, HB.out⟩
def contractF (LA : Nat → List FactV) (x p : Int) : Option FactV := inEff (fun f => f.n 9 == x) p (LA 3)
set_option maxRecDepth 100000 in
set_option maxHeartbeats 4000000 in
theorem contract_any (bs : Array Value) (LA : Nat → List FactV) (x p : Int) (w : World) (h : BaseR w bs LA) (hn : ∀ q, (LA q).length ≤ 1000000) :
    Calls Tryz.prog 27 #[.agg bs, .int .i64 x, .int .i64 p] w fun e w' => e = .returned (.tuple #[.agg ((contractF LA x p).getD zf).cells, .bool (contractF LA x p).isSome]) ∧ Below w.heap.size w w' := by
  obtain ⟨v, hv, hf⟩ := h.at_ 3 (by omega)
  obtain ⟨W1, hW1⟩ : ∃ z, ((w.alloc (.cells bs 53)).alloc (.cells #[.int .i64 x] 3)).alloc (.cells #[.int .i64 0, .int .i64 0, .int .i64 0, .int .i64 0, .int .i64 0, .int .i64 0, .int .i64 0, .int .i64 0, .int .i64 0, .int .i64 0, .int .i64 0, .int .i64 0, .int .i64 0, .int .i64 0, .int .i64 0, .int .i64 0, .int .i64 0, .string ⟨#[]⟩] 47) = z := ⟨_, rfl⟩
  have r1 : RowAt W1 w.heap.size 53 bs := by rw [← hW1]; exact ((RowAt.new w _ _).alloc _).alloc _
  have r2 : RowAt W1 (w.heap.size + 1) 3 #[.int .i64 x] := by
    rw [← hW1]
    have h := (RowAt.new (w.alloc (.cells bs 53)) 3 #[.int .i64 x]).alloc (.cells #[.int .i64 0, .int .i64 0, .int .i64 0, .int .i64 0, .int .i64 0, .int .i64 0, .int .i64 0, .int .i64 0, .int .i64 0, .int .i64 0, .int .i64 0, .int .i64 0, .int .i64 0, .int .i64 0, .int .i64 0, .int .i64 0, .int .i64 0, .string ⟨#[]⟩] 47)
    simpa using h
  have r3 : RowAt W1 (w.heap.size + 1 + 1) 47 #[.int .i64 0, .int .i64 0, .int .i64 0, .int .i64 0, .int .i64 0, .int .i64 0, .int .i64 0, .int .i64 0, .int .i64 0, .int .i64 0, .int .i64 0, .int .i64 0, .int .i64 0, .int .i64 0, .int .i64 0, .int .i64 0, .int .i64 0, .string ⟨#[]⟩] := by
    rw [← hW1]
    have h := RowAt.new ((w.alloc (.cells bs 53)).alloc (.cells #[.int .i64 x] 3)) 47 #[.int .i64 0, .int .i64 0, .int .i64 0, .int .i64 0, .int .i64 0, .int .i64 0, .int .i64 0, .int .i64 0, .int .i64 0, .int .i64 0, .int .i64 0, .int .i64 0, .int .i64 0, .int .i64 0, .int .i64 0, .int .i64 0, .int .i64 0, .string ⟨#[]⟩]
    simpa using h
  have hbw : Below w.heap.size w W1 := by rw [← hW1]; exact (((Below.refl _ _).alloc (Nat.le_refl _) _).alloc (by simp) _).alloc (by simp; omega) _
  have cv : W1.cell? ⟨w.heap.size, 3, none⟩ = some v := base_load _ _ _ _ _ r1 hv
  have HR := Lib.hid (And.intro r3 hbw)
  have eg : ∀ args w, (callFunc 54 args).run Tryz.prog w = .ok (.enter 54 args) w := enters_of Tryz.func54 (by kernel_rfl) rfl
  have HIE := Lib.hid (inEffect_1 54 (.pointer (some ⟨w.heap.size + 1, 0, none⟩)) (fun f => f.n 9 == x) p v (LA 3) W1 (hn 3) (fun W => W.cell? ⟨w.heap.size + 1, 0, none⟩ = some (.int .i64 x)) (fun W hb => by rw [(r2.below hb r2.lt).cell]; rfl) eg (hf.more hbw) (fun f W hW => isHolder _ x f W hW))
  obtain ⟨A, c, rfl⟩ := hf.sl
  obtain ⟨o, ho⟩ : ∃ z, contractF LA x p = z := ⟨_, rfl⟩
  have ho2 : inEff (fun f => f.n 9 == x) p (LA 3) = o := ho
  rw [ho2] at HIE
  rw [ho]
  have HOF : Hid ((Tryz.prog.info? 47).map (·.size) = some (o.getD zf).cells.size ∧ (o.getD zf).cells.all (·.oneCell') = true ∧ (#[.int .i64 0, .int .i64 0, .int .i64 0, .int .i64 0, .int .i64 0, .int .i64 0, .int .i64 0, .int .i64 0, .int .i64 0, .int .i64 0, .int .i64 0, .int .i64 0, .int .i64 0, .int .i64 0, .int .i64 0, .int .i64 0, .int .i64 0, .string ⟨#[]⟩] : Array Value).size = (o.getD zf).cells.size) := Lib.hid ⟨fact_size, (o.getD zf).cells_one, rfl⟩
  have HLD := Lib.hid (fun W h => fact_load W (w.heap.size + 1 + 1) (o.getD zf) h)
  obtain ⟨oc, hoc⟩ : ∃ z, (o.getD zf).cells = z := ⟨_, rfl⟩
  rw [hoc] at HOF HIE HLD ⊢
  obtain ⟨ob, hob⟩ : ∃ z, o.isSome = z := ⟨_, rfl⟩
  rw [hob] at HIE ⊢
  clear r1 r2 r3 hbw eg ho ho2 hoc hob hv hf h hn
  go_enter Tryz.func27, Tryz.ntmps27
  go_wp2_with fail
  refine HIE.out.mono ?_
  rintro e W2 ⟨rfl, hb2⟩
  have H2 : Hid (RowAt W2 (w.heap.size + 1 + 1) 47 #[.int .i64 0, .int .i64 0, .int .i64 0, .int .i64 0, .int .i64 0, .int .i64 0, .int .i64 0, .int .i64 0, .int .i64 0, .int .i64 0, .int .i64 0, .int .i64 0, .int .i64 0, .int .i64 0, .int .i64 0, .int .i64 0, .int .i64 0, .string ⟨#[]⟩] ∧ Below w.heap.size w W2) := Lib.hid ⟨HR.out.1.below hb2 HR.out.1.lt, HR.out.2.trans (hb2.mono HR.out.2.size)⟩
  clear hb2 hW1
  go_wp2_with (first | ((with_reducible refine store_fact_row (o := ⟨none, _, _, _, _, _⟩) (.tmp 6) (.tmp 13) (w.heap.size + 1 + 1) oc _ H2.out.1 HOF.out.1 HOF.out.2.2 HOF.out.2.1 ?_ ?_ ?_ ?_ ?_); rfl; rfl; rfl; rfl))
  refine bodyPost_ret (results_cell_tmp2 (p := 6) (q := 7) rfl _ _ _ _ rfl (HLD.out _ (setRow_at H2.out.1))) rfl ⟨rfl, below_setR H2.out.2 (by omega)⟩
end Go.Proofs.YtfiabonacpepnaaGreatDoor.Fb
namespace Go.Proofs.YtfiabonacpepnaaGreatDoor.Fb
open Go Go.RowKit Go.Lib Go.Shelf Go.Maps

theorem cmpB_swap : ∀ a b : List UInt8, Lib.compareBytes b a = -Lib.compareBytes a b
  | [], [] => rfl
  | [], _ :: _ => rfl
  | _ :: _, [] => rfl
  | x :: a, y :: b => by
    unfold Lib.compareBytes
    have ih := cmpB_swap a b
    by_cases h1 : x < y
    · have h2 : ¬ y < x := by simp only [UInt8.lt_iff_toNat_lt] at *; omega
      rw [if_pos h1, if_neg h2, if_pos h1]
      rfl
    · by_cases h2 : y < x
      · rw [if_pos h2, if_neg h1, if_pos h2]
      · rw [if_neg h2, if_neg h1, if_neg h1, if_neg h2]; exact ih
theorem cmpB_eq : ∀ a b : List UInt8, Lib.compareBytes a b = 0 → a = b
  | [], [], _ => rfl
  | [], _ :: _, h => by simp [Lib.compareBytes] at h
  | _ :: _, [], h => by simp [Lib.compareBytes] at h
  | x :: a, y :: b, h => by
    unfold Lib.compareBytes at h
    split at h
    · cases h
    · split at h
      · cases h
      · rename_i h1 h2
        rw [cmpB_eq a b h, show x = y from UInt8.toNat_inj.1 (by simp only [UInt8.lt_iff_toNat_lt] at *; omega)]
theorem cmpB_self : ∀ a : List UInt8, Lib.compareBytes a a = 0
  | [] => rfl
  | x :: a => by
    unfold Lib.compareBytes
    have h : ¬ x < x := by simp only [UInt8.lt_iff_toNat_lt] at *; omega
    rw [if_neg h, if_neg h]; exact cmpB_self a
theorem cmpB_trans : ∀ a b c : List UInt8, 0 < Lib.compareBytes a b → 0 < Lib.compareBytes b c → 0 < Lib.compareBytes a c
  | [], [], _, h, _ => by simp [Lib.compareBytes] at h
  | [], _ :: _, _, h, _ => by simp [Lib.compareBytes] at h
  | _ :: _, [], [], _, h => by simp [Lib.compareBytes] at h
  | _ :: _, [], _ :: _, _, h => by simp [Lib.compareBytes] at h
  | _ :: _, _ :: _, [], _, _ => by simp [Lib.compareBytes]
  | x :: a, y :: b, z :: c, h1, h2 => by
    unfold Lib.compareBytes at *
    simp only [UInt8.lt_iff_toNat_lt] at *
    by_cases e1 : x.toNat < y.toNat
    · rw [if_pos e1] at h1; omega
    · rw [if_neg e1] at h1
      by_cases e2 : y.toNat < z.toNat
      · rw [if_pos e2] at h2; omega
      · rw [if_neg e2] at h2
        rw [if_neg (by omega)]
        by_cases e3 : z.toNat < x.toNat
        · rw [if_pos e3]; omega
        · rw [if_neg e3]
          rw [if_neg (by omega)] at h1 h2
          exact cmpB_trans a b c h1 h2
/-- what stands ahead of an encoding is one -/
theorem enc_cancel {a b : Int} (a0 : -4611686018427387903 ≤ a) (a1 : a ≤ 4611686018427387903) (b0 : -4611686018427387903 ≤ b) (b1 : b ≤ 4611686018427387903) {r s : List UInt8} (h : WireP.enc (WireP.zz a) ++ r = WireP.enc (WireP.zz b) ++ s) : a = b ∧ r = s := by
  have h1 := WireP.dec_enc a0 a1 r
  rw [h, WireP.dec_enc b0 b1 s] at h1
  simp only [Option.some.injEq, Prod.mk.injEq] at h1
  obtain ⟨e, _⟩ := h1
  subst e
  exact ⟨rfl, List.append_cancel_left h⟩
def Bd (x : Int) : Prop := -4611686018427387903 ≤ x ∧ x ≤ 4611686018427387903
theorem put_bd {x : Int} (h : Bd x) : (putSpec x).1 = WireP.enc (WireP.zz x) := by
  unfold putSpec
  rw [if_neg (by have := h.1; have := h.2; omega)]
theorem encs_cancel (f g : FactV) : ∀ (js : List Nat) (r s : List UInt8), (∀ j ∈ js, Bd (f.n j) ∧ Bd (g.n j)) → js.flatMap (fun i => (putSpec (f.n i)).1) ++ r = js.flatMap (fun i => (putSpec (g.n i)).1) ++ s → (∀ j ∈ js, f.n j = g.n j) ∧ r = s
  | [], r, s, _, h => ⟨by simp, by simpa using h⟩
  | j :: js, r, s, hb, h => by
    rw [List.flatMap_cons, List.flatMap_cons, List.append_assoc, List.append_assoc, put_bd (hb j (by simp)).1, put_bd (hb j (by simp)).2] at h
    obtain ⟨e, h2⟩ := enc_cancel (hb j (by simp)).1.1 (hb j (by simp)).1.2 (hb j (by simp)).2.1 (hb j (by simp)).2.2 h
    obtain ⟨h3, h4⟩ := encs_cancel f g js r s (fun i hi => hb i (by simp [hi])) h2
    refine ⟨fun i hi => ?_, h4⟩
    rcases List.mem_cons.1 hi with rfl | hi
    · exact e
    · exact h3 i hi
theorem fields_bd (f : FactV) : ∀ x ∈ fieldsF f, 0 ≤ x.2.1 ∧ (x.2.2 ≤ 1000000000000 ∨ (f.n 0 = 3 ∧ x.2.2 = IntKind.i64.wrap (f.n 12 - 1))) := by
  have hc : ∀ (l : List (Nat × Int × Int)), l.all (fun x => decide (0 ≤ x.2.1) && decide (x.2.2 ≤ 1000000000000)) = true → ∀ x ∈ l, 0 ≤ x.2.1 ∧ (x.2.2 ≤ 1000000000000 ∨ (f.n 0 = 3 ∧ x.2.2 = IntKind.i64.wrap (f.n 12 - 1))) := by
    intro l h x hx
    have := List.all_eq_true.1 h x hx
    simp only [Bool.and_eq_true, decide_eq_true_eq] at this
    exact ⟨this.1, .inl this.2⟩
  intro x hx
  unfold fieldsF at hx
  split at hx
  · exact hc _ (by decide) x hx
  split at hx
  · exact hc _ (by decide) x hx
  split at hx
  · rename_i h3
    simp only [f_claim, List.mem_cons, List.not_mem_nil, or_false] at hx
    rcases hx with rfl | rfl | rfl | rfl | rfl | rfl | rfl | rfl
    all_goals first | exact ⟨by decide, .inl (by decide)⟩ | exact ⟨Int.le_refl _, .inr ⟨h3, rfl⟩⟩
  split at hx
  · exact hc _ (by decide) x hx
  split at hx
  · exact hc _ (by decide) x hx
  split at hx
  · exact hc _ (by decide) x hx
  split at hx
  · exact hc _ (by decide) x hx
  split at hx
  · exact hc _ (by decide) x hx
  split at hx
  · exact hc _ (by decide) x hx
  split at hx
  · exact hc _ (by decide) x hx
  · simp at hx
theorem valid_parts {f : FactV} (h : validB f = true) : (1 ≤ f.n 0 ∧ f.n 0 ≤ 10) ∧ (1 ≤ f.n 2 ∧ f.n 2 ≤ 1000 ∧ f.text.size ≤ 2000) ∧ (∀ x ∈ fieldsF f, x.2.1 ≤ f.n x.1 ∧ f.n x.1 ≤ x.2.2) ∧ ∀ j, j < 17 → (zeroF f ((fieldsF f).map (·.1)) (hasText f)).n j = (bareK (f.n 0) (f.n 2)).n j := by
  unfold validB at h
  simp only [Bool.and_eq_true, decide_eq_true_eq] at h
  obtain ⟨h1, h2, h3, h4⟩ := h
  refine ⟨h1, h2, fun x hx => ?_, (sameF_iff.1 h4).1⟩
  have := List.all_eq_true.1 h3 x hx
  simpa using this
theorem valid_bd {f : FactV} (h : validB f = true) (j : Nat) (hj : j < 17) : Bd (f.n j) := by
  obtain ⟨h1, h2, h3, h4⟩ := valid_parts h
  by_cases hm : j ∈ (fieldsF f).map (·.1)
  · obtain ⟨x, hx, rfl⟩ := List.mem_map.1 hm
    have hb := fields_bd f x hx
    have hl := h3 x hx
    unfold Bd
    rcases hb.2 with hu | ⟨hk, hu⟩
    · omega
    · have h12 : ((12, 1, 1200) : Nat × Int × Int) ∈ fieldsF f := by
        unfold fieldsF
        rw [if_neg (by omega), if_neg (by omega), if_pos hk]
        simp [f_claim]
      have h5 := h3 _ h12
      dsimp only at h5
      rw [IntKind.wrap_i64] at hu
      omega
  · have h5 := h4 j hj
    rw [zeroF_get _ _ _ _ hm] at h5
    rw [h5]
    unfold Bd
    show -4611686018427387903 ≤ (if j = 0 then f.n 0 else if j = 2 then f.n 2 else 0) ∧ (if j = 0 then f.n 0 else if j = 2 then f.n 2 else 0) ≤ 4611686018427387903
    repeat' split
    all_goals omega
/-- nothing behind the seventeen numbers -/
def Canon (f : FactV) : Prop := ∀ j, 17 ≤ j → f.n j = 0
theorem FactV.ext2 {f g : FactV} (h1 : ∀ j, f.n j = g.n j) (h2 : f.text = g.text) : f = g := by
  obtain ⟨a, b⟩ := f
  obtain ⟨c, d⟩ := g
  have : a = c := funext h1
  subst this
  have : b = d := h2
  subst this
  rfl
theorem enc_inj {f g : FactV} (hf : validB f = true) (hg : validB g = true) (cf : Canon f) (cg : Canon g) (h : encL f = encL g) : f = g := by
  unfold encL encN at h
  obtain ⟨h1, h2⟩ := encs_cancel f g (List.range 17) _ _ (fun j hj => ⟨valid_bd hf j (List.mem_range.1 hj), valid_bd hg j (List.mem_range.1 hj)⟩) h
  refine FactV.ext2 (fun j => ?_) ?_
  · by_cases hj : j < 17
    · exact h1 j (List.mem_range.2 hj)
    · rw [cf j (by omega), cg j (by omega)]
  · have l1 : f.text.data.toList.length ≤ 2000 := by have := (valid_parts hf).2.1.2.2; rw [Array.length_toList]; exact this
    have l2 : g.text.data.toList.length ≤ 2000 := by have := (valid_parts hg).2.1.2.2; rw [Array.length_toList]; exact this
    unfold putStrSpec at h2
    rw [if_neg (by omega), if_neg (by omega)] at h2
    obtain ⟨_, h3⟩ := enc_cancel (by omega) (by omega) (by omega) (by omega) h2
    exact ByteArray.ext (Array.toList_inj.1 h3)
theorem keyEq_symm {f g : FactV} (h : keyEq f g = true) : keyEq g f = true := keyEq_iff.2 (keyEq_iff.1 h).symm
theorem keyEq_trans {f g h : FactV} (h1 : keyEq f g = true) (h2 : keyEq g h = true) : keyEq f h = true := keyEq_iff.2 ((keyEq_iff.1 h1).trans (keyEq_iff.1 h2))
theorem keyEq_refl (f : FactV) : keyEq f f = true := keyEq_iff.2 rfl
theorem prev_iff {f g : FactV} : prevB f g = true ↔ validB f = true ∧ validB g = true ∧ keyEq f g = true ∧ (g.n 2 < f.n 2 ∨ (f.n 2 = g.n 2 ∧ 0 < Lib.compareBytes (encL f) (encL g))) := by
  unfold prevB
  simp only [Bool.and_eq_true]
  by_cases h : f.n 2 = g.n 2
  · rw [if_pos h]
    simp [h]
  · rw [if_neg h]
    simp [h]
theorem prev_irr (f : FactV) : prevB f f = false := by
  cases h : prevB f f
  · rfl
  · have h2 := (prev_iff.1 h).2.2.2
    rw [cmpB_self] at h2
    omega
theorem prev_trans {f g h : FactV} (h1 : prevB f g = true) (h2 : prevB g h = true) : prevB f h = true := by
  obtain ⟨a1, a2, a3, a4⟩ := prev_iff.1 h1
  obtain ⟨b1, b2, b3, b4⟩ := prev_iff.1 h2
  refine prev_iff.2 ⟨a1, b2, keyEq_trans a3 b3, ?_⟩
  rcases a4 with a4 | ⟨a4, a5⟩
  · rcases b4 with b4 | ⟨b4, _⟩ <;> exact .inl (by omega)
  · rcases b4 with b4 | ⟨b4, b5⟩
    · exact .inl (by omega)
    · exact .inr ⟨by omega, cmpB_trans _ _ _ a5 b5⟩
theorem prev_asym {f g : FactV} (h1 : prevB f g = true) (h2 : prevB g f = true) : False := by
  have := prev_trans h1 h2
  rw [prev_irr] at this
  cases this
theorem prev_total {f g : FactV} (hf : validB f = true) (hg : validB g = true) (cf : Canon f) (cg : Canon g) (hk : keyEq f g = true) : f = g ∨ prevB f g = true ∨ prevB g f = true := by
  rcases Int.lt_trichotomy (f.n 2) (g.n 2) with h | h | h
  · exact .inr (.inr (prev_iff.2 ⟨hg, hf, keyEq_symm hk, .inl h⟩))
  · rcases Int.lt_trichotomy (Lib.compareBytes (encL f) (encL g)) 0 with h2 | h2 | h2
    · exact .inr (.inr (prev_iff.2 ⟨hg, hf, keyEq_symm hk, .inr ⟨h.symm, by rw [cmpB_swap]; omega⟩⟩))
    · exact .inl (enc_inj hf hg cf cg (cmpB_eq _ _ h2))
    · exact .inr (.inl (prev_iff.2 ⟨hf, hg, hk, .inr ⟨h, h2⟩⟩))
  · exact .inr (.inl (prev_iff.2 ⟨hf, hg, hk, .inl h⟩))
/-- f is the fact of its key in l that prevails -/
def Best (l : List FactV) (f : FactV) : Prop := f ∈ l ∧ validB f = true ∧ ∀ g ∈ l, validB g = true → keyEq f g = true → g = f ∨ prevB f g = true
theorem Best.one {l : List FactV} {f g : FactV} (hf : Best l f) (hg : Best l g) (hk : keyEq f g = true) : f = g := by
  rcases hf.2.2 g hg.1 hg.2.1 hk with h | h
  · exact h.symm
  · rcases hg.2.2 f hf.1 hf.2.1 (keyEq_symm hk) with h2 | h2
    · exact h2
    · exact (prev_asym h h2).elim
theorem mem_putL {L : List FactV} {f x : FactV} : x ∈ putL L f ↔ (x ∈ L ∧ keyEq f x = false) ∨ x = f := by
  unfold putL
  split
  · rename_i h
    obtain ⟨g, hg, hk⟩ := List.any_eq_true.1 h
    rw [List.mem_map]
    constructor
    · rintro ⟨y, hy, he⟩
      split at he
      · exact .inr he.symm
      · rename_i hn
        exact .inl ⟨he ▸ hy, by rw [← he]; simpa using hn⟩
    · rintro (⟨hx, hn⟩ | rfl)
      · exact ⟨x, hx, by simp [hn]⟩
      · exact ⟨g, hg, by simp [hk]⟩
  · rename_i h
    rw [List.mem_append, List.mem_singleton]
    have hn : ∀ y ∈ L, keyEq f y = false := by
      intro y hy
      cases hy2 : keyEq f y
      · rfl
      · exact absurd (List.any_eq_true.2 ⟨y, hy, hy2⟩) h
    constructor
    · rintro (hx | rfl)
      · exact .inl ⟨hx, hn x hx⟩
      · exact .inr rfl
    · rintro (⟨hx, _⟩ | rfl)
      · exact .inl hx
      · exact .inr rfl
theorem snoc_ind {α : Type} {P : List α → Prop} (h0 : P []) (h1 : ∀ l x, P l → P (l ++ [x])) (l : List α) : P l := by
  rw [← List.reverse_reverse l]
  induction l.reverse with
  | nil => exact h0
  | cons x l ih => rw [List.reverse_cons]; exact h1 _ _ ih
theorem Best.ext {l : List FactV} {f x : FactV} (h : Best l f) (hx : validB x = true → keyEq f x = true → x = f ∨ prevB f x = true) : Best (l ++ [x]) f := by
  refine ⟨by simp [h.1], h.2.1, fun g hg hv hk => ?_⟩
  rcases List.mem_append.1 hg with hg | hg
  · exact h.2.2 g hg hv hk
  · rw [List.mem_singleton.1 hg] at hv hk ⊢
    exact hx hv hk
theorem Best.old {l : List FactV} {f x : FactV} (h : Best (l ++ [x]) f) (hf : f ∈ l) : Best l f := ⟨hf, h.2.1, fun g hg => h.2.2 g (by simp [hg])⟩
/-- the best facts are those that prevail; and each valid fact's key is there -/
theorem bestL_iff (l : List FactV) : (∀ f ∈ l, Canon f) → (∀ f, f ∈ bestL l ↔ Best l f) ∧ ∀ g ∈ l, validB g = true → ∃ f ∈ bestL l, keyEq f g = true := by
  refine snoc_ind (P := fun l => (∀ f ∈ l, Canon f) → (∀ f, f ∈ bestL l ↔ Best l f) ∧ ∀ g ∈ l, validB g = true → ∃ f ∈ bestL l, keyEq f g = true) ?_ ?_ l
  · intro _
    exact ⟨fun f => ⟨fun h => by simp [bestL] at h, fun h => by simp [Best] at h⟩, by simp⟩
  · intro l x ih hc
    obtain ⟨ih1, ih2⟩ := ih (fun f hf => hc f (by simp [hf]))
    have cx := hc x (by simp)
    rw [bestL_snoc]
    cases hv : validB x
    · have hs : stepB (bestL l) x = bestL l := by unfold stepB; rw [hv]; rfl
      rw [hs]
      refine ⟨fun f => ⟨fun h => ((ih1 f).1 h).ext (fun h2 => by rw [hv] at h2; cases h2), fun h => (ih1 f).2 (h.old ?_)⟩, fun g hg hg2 => ?_⟩
      · rcases List.mem_append.1 h.1 with h1 | h1
        · exact h1
        · rw [List.mem_singleton.1 h1] at h; have := h.2.1; rw [hv] at this; cases this
      · rcases List.mem_append.1 hg with h1 | h1
        · exact ih2 g h1 hg2
        · rw [List.mem_singleton.1 h1, hv] at hg2; cases hg2
    · -- what a list with x put in holds
      have put : ∀ (hb : ∀ h ∈ l, validB h = true → keyEq x h = true → prevB x h = true), (∀ f, f ∈ putL (bestL l) x ↔ Best (l ++ [x]) f) ∧ ∀ g ∈ l ++ [x], validB g = true → ∃ f ∈ putL (bestL l) x, keyEq f g = true := by
        intro hb
        have bx : Best (l ++ [x]) x := by
          refine ⟨by simp, hv, fun g hg hgv hk => ?_⟩
          rcases List.mem_append.1 hg with h1 | h1
          · exact .inr (hb g h1 hgv hk)
          · exact .inl (List.mem_singleton.1 h1)
        refine ⟨fun f => ?_, fun g hg hgv => ?_⟩
        · rw [mem_putL]
          constructor
          · rintro (⟨h1, h2⟩ | rfl)
            · refine ((ih1 f).1 h1).ext (fun _ h3 => ?_)
              rw [keyEq_symm h3] at h2
              cases h2
            · exact bx
          · intro h
            rcases List.mem_append.1 h.1 with h1 | h1
            · cases hk : keyEq x f
              · exact .inl ⟨(ih1 f).2 (h.old h1), rfl⟩
              · exact .inr (Best.one h bx (keyEq_symm hk))
            · exact .inr (List.mem_singleton.1 h1)
        · rcases List.mem_append.1 hg with h1 | h1
          · obtain ⟨f, hf, hk⟩ := ih2 g h1 hgv
            cases hx : keyEq x f
            · exact ⟨f, mem_putL.2 (.inl ⟨hf, hx⟩), hk⟩
            · exact ⟨x, mem_putL.2 (.inr rfl), keyEq_trans hx hk⟩
          · rw [List.mem_singleton.1 h1]
            exact ⟨x, mem_putL.2 (.inr rfl), keyEq_refl x⟩
      cases hfi : (bestL l).find? (keyEq x) with
      | none =>
        have hs : stepB (bestL l) x = putL (bestL l) x := by unfold stepB; rw [hv, hfi]; rfl
        rw [hs]
        refine put (fun h hh hhv hk => ?_)
        obtain ⟨f, hf, hk2⟩ := ih2 h hh hhv
        have := List.find?_eq_none.1 hfi f hf
        exact absurd (keyEq_trans hk (keyEq_symm hk2)) this
      | some g =>
        have hg := List.mem_of_find?_eq_some hfi
        have hgk : keyEq x g = true := List.find?_some hfi
        have bg := (ih1 g).1 hg
        cases hp : prevB x g
        · have hs : stepB (bestL l) x = bestL l := by unfold stepB; rw [hv, hfi]; simp [hp]
          rw [hs]
          have hxg : x = g ∨ prevB g x = true := by
            rcases prev_total hv bg.2.1 cx (hc g (by simp [bg.1])) hgk with h | h | h
            · exact .inl h
            · rw [hp] at h; cases h
            · exact .inr h
          refine ⟨fun f => ⟨fun h => ?_, fun h => ?_⟩, fun h hh hhv => ?_⟩
          · have bf := (ih1 f).1 h
            refine bf.ext (fun _ hk => ?_)
            have e := Best.one bf bg (keyEq_trans hk hgk)
            rw [e]
            exact hxg
          · rcases List.mem_append.1 h.1 with h1 | h1
            · exact (ih1 f).2 (h.old h1)
            · have e := List.mem_singleton.1 h1
              subst e
              rcases h.2.2 g (by simp [bg.1]) bg.2.1 hgk with h2 | h2
              · rw [← h2]; exact hg
              · rw [hp] at h2; cases h2
          · rcases List.mem_append.1 hh with h1 | h1
            · exact ih2 h h1 hhv
            · rw [List.mem_singleton.1 h1]
              exact ⟨g, hg, keyEq_symm hgk⟩
        · have hs : stepB (bestL l) x = putL (bestL l) x := by unfold stepB; rw [hv, hfi]; simp [hp]
          rw [hs]
          refine put (fun h hh hhv hk => ?_)
          rcases bg.2.2 h hh hhv (keyEq_trans (keyEq_symm hgk) hk) with h1 | h1
          · rw [h1]; exact hp
          · exact prev_trans hp h1
/-- the base of a list hangs on the set of its facts alone -/
theorem best_set {l m : List FactV} (hl : ∀ f ∈ l, Canon f) (hlm : ∀ f, f ∈ l ↔ f ∈ m) : ∀ f, f ∈ bestL l ↔ f ∈ bestL m := by
  intro f
  rw [(bestL_iff l hl).1 f, (bestL_iff m (fun g hg => hl g ((hlm g).2 hg))).1 f]
  unfold Best
  constructor
  · rintro ⟨h1, h2, h3⟩
    exact ⟨(hlm f).1 h1, h2, fun g hg => h3 g ((hlm g).2 hg)⟩
  · rintro ⟨h1, h2, h3⟩
    exact ⟨(hlm f).2 h1, h2, fun g hg => h3 g ((hlm g).1 hg)⟩
end Go.Proofs.YtfiabonacpepnaaGreatDoor.Fb
namespace Go.Proofs.YtfiabonacpepnaaGreatDoor.Fb
open Go Go.RowKit Go.Lib

theorem inEff_spec (is : FactV → Bool) (p : Int) (l : List FactV) : match inEff is p l with
    | none => ∀ g ∈ l, ¬ (is g = true ∧ g.n 11 ≤ p)
    | some f => f ∈ l ∧ (is f = true ∧ f.n 11 ≤ p) ∧ ∀ g ∈ l, is g = true → g.n 11 ≤ p → g.n 11 ≤ f.n 11 := by
  induction l using snoc_ind with
  | h0 => intro g hg; simp at hg
  | h1 l x ih =>
    have e : inEff is p (l ++ [x]) = stepE is p (inEff is p l) x := by simp [inEff]
    rw [e]
    cases h : inEff is p l with
    | none =>
      rw [h] at ih
      simp only at ih
      unfold stepE
      by_cases hx : is x = true ∧ x.n 11 ≤ p
      · have : (decide (x.n 11 ≤ p) && (is x && true)) = true := by simp [hx.1, hx.2]
        simp only [this, if_true]
        refine ⟨by simp, hx, fun g hg h1 h2 => ?_⟩
        rcases List.mem_append.1 hg with h3 | h3
        · exact absurd ⟨h1, h2⟩ (ih g h3)
        · rw [List.mem_singleton.1 h3]; omega
      · have : (decide (x.n 11 ≤ p) && (is x && true)) = false := by
          rw [Bool.and_true, Bool.and_eq_false_iff]
          by_cases h1 : x.n 11 ≤ p
          · exact .inr (by cases h2 : is x; rfl; exact absurd ⟨h2, h1⟩ hx)
          · exact .inl (by simpa using h1)
        simp only [this, Bool.false_eq_true, if_false]
        intro g hg
        rcases List.mem_append.1 hg with h3 | h3
        · exact ih g h3
        · rw [List.mem_singleton.1 h3]; exact hx
    | some f =>
      rw [h] at ih
      simp only at ih
      obtain ⟨i1, i2, i3⟩ := ih
      unfold stepE
      by_cases hx : (is x = true ∧ x.n 11 ≤ p) ∧ f.n 11 < x.n 11
      · have : (decide (x.n 11 ≤ p) && (is x && decide (f.n 11 < x.n 11))) = true := by simp [hx.1.1, hx.1.2, hx.2]
        simp only [this, if_true]
        refine ⟨by simp, hx.1, fun g hg h1 h2 => ?_⟩
        rcases List.mem_append.1 hg with h3 | h3
        · have := i3 g h3 h1 h2; omega
        · rw [List.mem_singleton.1 h3]; omega
      · have : (decide (x.n 11 ≤ p) && (is x && decide (f.n 11 < x.n 11))) = false := by
          cases h2 : is x
          · simp
          · by_cases h1 : x.n 11 ≤ p
            · have : ¬ f.n 11 < x.n 11 := fun h3 => hx ⟨⟨h2, h1⟩, h3⟩
              simp [this]
            · simp [h1]
        simp only [this, Bool.false_eq_true, if_false]
        refine ⟨by simp [i1], i2, fun g hg h1 h2 => ?_⟩
        rcases List.mem_append.1 hg with h3 | h3
        · exact i3 g h3 h1 h2
        · rw [List.mem_singleton.1 h3] at h1 h2 ⊢
          by_cases h4 : f.n 11 < x.n 11
          · exact absurd ⟨⟨h1, h2⟩, h4⟩ hx
          · omega
/-- the fact of a contract: its beginning, its version, its text -/
def cF (x : Int × Int × List UInt8) : FactV := ⟨fun j => if j = 0 then 4 else if j = 9 then 7 else if j = 11 then x.1 else if j = 2 then x.2.1 else 0, ⟨x.2.2.toArray⟩⟩
theorem cF_n0 (x : Int × Int × List UInt8) : (cF x).n 0 = 4 := rfl
theorem cF_n9 (x : Int × Int × List UInt8) : (cF x).n 9 = 7 := rfl
theorem cF_n11 (x : Int × Int × List UInt8) : (cF x).n 11 = x.1 := rfl
theorem cF_n2 (x : Int × Int × List UInt8) : (cF x).n 2 = x.2.1 := rfl
theorem cF_key (x : Int × Int × List UInt8) : key2 (cF x) = (7, x.1) := by
  unfold key2
  rw [cF_n0, cF_n9, cF_n11]
  simp
theorem cF_keyEq {x y : Int × Int × List UInt8} : keyEq (cF x) (cF y) = true ↔ x.1 = y.1 := by
  unfold keyEq
  rw [cF_key, cF_key, cF_n0, cF_n0]
  simp
theorem cF_canon (x : Int × Int × List UInt8) : Canon (cF x) := by
  intro j hj
  show (if j = 0 then (4 : Int) else if j = 9 then 7 else if j = 11 then x.1 else if j = 2 then x.2.1 else 0) = 0
  rw [if_neg (by omega), if_neg (by omega), if_neg (by omega), if_neg (by omega)]
/-- what is asked of a contract's fact -/
def GoodI (x : Int × Int × List UInt8) : Prop := (0 ≤ x.1 ∧ x.1 ≤ 5) ∧ (1 ≤ x.2.1 ∧ x.2.1 ≤ 5) ∧ x.2.2.length ≤ 2000
theorem cF_valid {x : Int × Int × List UInt8} (h : GoodI x) : validB (cF x) = true := by
  obtain ⟨⟨h1, h2⟩, ⟨h3, h4⟩, h5⟩ := h
  have hf : fieldsF (cF x) = f_contract := by unfold fieldsF; rw [cF_n0]; simp
  have ht : hasText (cF x) = true := by unfold hasText; rw [cF_n0]; rfl
  have hz : (cF x).text.size = x.2.2.length := rfl
  unfold validB
  rw [hf, ht, cF_n0, cF_n2]
  simp only [Bool.and_eq_true, decide_eq_true_eq]
  refine ⟨by omega, ⟨by omega, by omega, by rw [hz]; omega⟩, ?_, ?_⟩
  · unfold f_contract
    simp only [List.all_cons, List.all_nil, Bool.and_true, Bool.and_eq_true, decide_eq_true_eq]
    rw [cF_n9, cF_n11]
    refine ⟨⟨by omega, by omega⟩, by omega, by omega⟩
  · rw [sameF_iff]
    refine ⟨fun j hj => ?_, rfl⟩
    unfold zeroF bareK f_contract
    simp only [List.map_cons, List.map_nil, List.mem_cons, List.not_mem_nil, or_false]
    show (if j = 9 ∨ j = 11 then (0 : Int) else if j = 0 then (4 : Int) else if j = 9 then 7 else if j = 11 then x.1 else if j = 2 then x.2.1 else 0) = if j = 0 then 4 else if j = 2 then x.2.1 else 0
    by_cases e9 : j = 9
    · subst e9; rfl
    · by_cases e11 : j = 11
      · subst e11; rfl
      · rw [if_neg (by omega), if_neg e9, if_neg e11]
/-- the law's loop: the beginning of what it keeps, and what it keeps -/
def stepW (p : Int) (s : Int × Option (Int × Int × List UInt8)) (x : Int × Int × List UInt8) : Int × Option (Int × Int × List UInt8) := if x.1 ≤ p ∧ s.1 ≤ x.1 then (x.1, some x) else s
def runW (p : Int) (its : List (Int × Int × List UInt8)) : Int × Option (Int × Int × List UInt8) := its.foldl (stepW p) (-1, none)
theorem runW_snoc (p : Int) (its : List (Int × Int × List UInt8)) (x : Int × Int × List UInt8) : runW p (its ++ [x]) = stepW p (runW p its) x := by simp [runW]
theorem runW_spec (p : Int) (its : List (Int × Int × List UInt8)) : (∀ x ∈ its, GoodI x) → its.Pairwise (fun x y => x.2.1 < y.2.1) → match (runW p its).2 with
    | none => (runW p its).1 = -1 ∧ ∀ x ∈ its, ¬ x.1 ≤ p
    | some x => (runW p its).1 = x.1 ∧ x ∈ its ∧ x.1 ≤ p ∧ ∀ y ∈ its, y.1 ≤ p → y.1 ≤ x.1 ∧ (y.1 = x.1 → y = x ∨ y.2.1 < x.2.1) := by
  induction its using snoc_ind with
  | h0 => intro _ _; exact ⟨rfl, by simp⟩
  | h1 l z ih =>
    intro hg hp
    rw [List.pairwise_append] at hp
    have i1 := ih (fun x hx => hg x (by simp [hx])) hp.1
    have hz := hg z (by simp)
    have hlast : ∀ y ∈ l, y.2.1 < z.2.1 := fun y hy => hp.2.2 y hy z (by simp)
    rw [runW_snoc]
    cases h : (runW p l).2 with
    | none =>
      rw [h] at i1
      obtain ⟨e1, e2⟩ := i1
      unfold stepW
      by_cases hc : z.1 ≤ p
      · rw [if_pos ⟨hc, by rw [e1]; have := hz.1.1; omega⟩]
        refine ⟨rfl, by simp, hc, fun y hy hyp => ?_⟩
        rcases List.mem_append.1 hy with h2 | h2
        · exact absurd hyp (e2 y h2)
        · rw [List.mem_singleton.1 h2]; exact ⟨Int.le_refl _, fun _ => .inl rfl⟩
      · rw [if_neg (fun h => hc h.1), h]
        refine ⟨e1, fun y hy => ?_⟩
        rcases List.mem_append.1 hy with h2 | h2
        · exact e2 y h2
        · rw [List.mem_singleton.1 h2]; exact hc
    | some x =>
      rw [h] at i1
      obtain ⟨e1, e2, e3, e4⟩ := i1
      unfold stepW
      by_cases hc : z.1 ≤ p ∧ (runW p l).1 ≤ z.1
      · rw [if_pos hc]
        refine ⟨rfl, by simp, hc.1, fun y hy hyp => ?_⟩
        rcases List.mem_append.1 hy with h2 | h2
        · have h3 := (e4 y h2 hyp).1
          exact ⟨by have := hc.2; omega, fun _ => .inr (hlast y h2)⟩
        · rw [List.mem_singleton.1 h2]; exact ⟨Int.le_refl _, fun _ => .inl rfl⟩
      · rw [if_neg hc, h]
        refine ⟨e1, by simp [e2], e3, fun y hy hyp => ?_⟩
        rcases List.mem_append.1 hy with h2 | h2
        · exact e4 y h2 hyp
        · have h3 := List.mem_singleton.1 h2
          subst h3
          have : ¬ (runW p l).1 ≤ y.1 := fun h => hc ⟨hyp, h⟩
          exact ⟨by omega, fun h => by omega⟩
theorem facts_law (its : List (Int × Int × List UInt8)) (p : Int) (hg : ∀ x ∈ its, GoodI x) (hp : its.Pairwise (fun x y => x.2.1 < y.2.1)) (l : List FactV) (hl : ∀ f, f ∈ l ↔ f ∈ its.map cF) (fs : List FactV) (hfs : fs.Perm (bestL l)) :
    contractF (fun q => fs.filter (kindF q)) 7 p = (runW p its).2.map cF ∧ ((runW p its).2.isSome = decide (0 ≤ (runW p its).1)) := by
  have hlc : ∀ f ∈ l, Canon f := fun f hf => by
    obtain ⟨x, _, rfl⟩ := List.mem_map.1 ((hl f).1 hf)
    exact cF_canon x
  have hb := (bestL_iff l hlc).1
  have hin : ∀ f, f ∈ fs.filter (kindF 3) → f ∈ bestL l := fun f hf => hfs.mem_iff.1 (List.mem_filter.1 hf).1
  have hsp := runW_spec p its hg hp
  have hie := inEff_spec (fun f => f.n 9 == 7) p (fs.filter (kindF 3))
  show inEff (fun f => f.n 9 == 7) p (fs.filter (kindF 3)) = _ ∧ _
  cases h : (runW p its).2 with
  | none =>
    rw [h] at hsp
    refine ⟨?_, by rw [hsp.1]; rfl⟩
    cases e : inEff (fun f => f.n 9 == 7) p (fs.filter (kindF 3)) with
    | none => rfl
    | some f =>
      rw [e] at hie
      obtain ⟨x, hx, rfl⟩ := List.mem_map.1 ((hl f).1 ((hb f).1 (hin f hie.1)).1)
      exact absurd hie.2.1.2 (hsp.2 x hx)
  | some x =>
    rw [h] at hsp
    obtain ⟨e1, e2, e3, e4⟩ := hsp
    have hgx := hg x e2
    refine ⟨?_, by rw [e1]; simp [hgx.1.1]⟩
    have hbx : Best l (cF x) := by
      refine ⟨(hl _).2 (List.mem_map.2 ⟨x, e2, rfl⟩), cF_valid hgx, fun g hgl hgv hk => ?_⟩
      obtain ⟨y, hy, rfl⟩ := List.mem_map.1 ((hl g).1 hgl)
      have hxy := cF_keyEq.1 hk
      rcases (e4 y hy (by omega)).2 hxy.symm with e | e
      · exact .inl (by rw [e])
      · exact .inr (prev_iff.2 ⟨cF_valid hgx, hgv, hk, .inl e⟩)
    have hfx : cF x ∈ fs.filter (kindF 3) := List.mem_filter.2 ⟨hfs.mem_iff.2 ((hb _).2 hbx), by unfold kindF; rw [cF_n0]; rfl⟩
    cases e : inEff (fun f => f.n 9 == 7) p (fs.filter (kindF 3)) with
    | none =>
      rw [e] at hie
      exact absurd ⟨by rw [cF_n9]; rfl, e3⟩ (hie (cF x) hfx)
    | some f =>
      rw [e] at hie
      obtain ⟨f1, f2, f3⟩ := hie
      have hbf := (hb f).1 (hin f f1)
      obtain ⟨y, hy, rfl⟩ := List.mem_map.1 ((hl f).1 hbf.1)
      have h5 := f3 (cF x) hfx (by rw [cF_n9]; rfl) e3
      have h6 := (e4 y hy f2.2).1
      rw [cF_n11, cF_n11] at h5
      rw [Option.map_some, Best.one hbf hbx (cF_keyEq.2 (by omega))]
end Go.Proofs.YtfiabonacpepnaaGreatDoor.Fb
namespace Go.Proofs.YtfiabonacpepnaaGreatDoor.Fb
open Go Go.RowKit Go.Lib Go.Shelf Go.Maps

theorem below_setRow {B g : Nat} {a w : World} {cs : Array Value} (h : Below B a w) (hg : B ≤ g) : Below B a (w.setRow g cs) :=
  ⟨h.os, h.tape, h.output, by simpa [World.setRow] using h.size, fun k hk => by
    rw [← h.block k hk]
    have : ¬ g = k := by omega
    simp [World.setRow, Array.getElem?_modify, this]⟩
theorem setRow_same {w : World} {g : Nat} {cs old : Array Value} {t : TypeId} {fr : Nat × Nat} (h : w.heap[g]? = some (.cells old t fr)) : (w.setRow g cs).heap[g]? = some (.cells cs t fr) := by
  simp [World.setRow, Array.getElem?_modify, h]
theorem setRow_other {w : World} {g k : Nat} {cs : Array Value} (h : g ≠ k) : (w.setRow g cs).heap[k]? = w.heap[k]? := by
  simp [World.setRow, Array.getElem?_modify, h]
theorem run_storeVar_part {P : Program} (w : World) (g o : Nat) (t ty : TypeId) (old cells news : Array Value) (hg : w.heap[g]? = some (.cells old t (0, 0))) (hi : (P.info? ty).map (·.size) = some cells.size)
    (ho : o + cells.size ≤ old.size) (h1 : cells.all (·.oneCell') = true) (hn : (old.toList.take o ++ cells.toList ++ old.toList.drop (o + cells.size)).toArray = news) :
    (storeVar ty ⟨g, o, none⟩ (.agg cells)).run P w = .ok () (w.setRow g news) := by
  have := run_storeCells_at (P := P) g o t cells.toList 0 old w hg (by simp; omega) (fun v hv => (Array.all_eq_true_iff_forall_mem.1 h1) v (by simpa using hv))
  cases hq : P.info? ty with
  | none => simp [hq] at hi
  | some i =>
    have hs : cells.size = i.size := by simp [hq] at hi; omega
    rw [Nat.add_zero] at this
    simp only [Array.length_toList, hn] at this
    simp [storeVar, sizeOf, typeInfo, hq, Value.cells, hs, this]
theorem OwnF.lower {w : World} {base b2 : Nat} {v : Value} {l : List FactV} (h : OwnF w base v l) (hb : b2 ≤ base) : OwnF w b2 v l :=
  ⟨h.1, h.2.elim .inl (fun ⟨g, cap, cur, a, b, c⟩ => .inr ⟨g, cap, cur, a, Nat.le_trans hb b, c⟩)⟩
theorem ffCells_set : ∀ (l : List FactV) (i : Nat) (f : FactV), i < l.length → ffCells (l.set i f) = (ffCells l).take (i * 18) ++ f.cells.toList ++ (ffCells l).drop (i * 18 + 18)
  | [], i, f, h => by simp at h
  | x :: l, 0, f, _ => by
    have e : x.cells.toList.length = 18 := by rw [Array.length_toList, FactV.cells_size]
    show f.cells.toList ++ ffCells l = _
    simp only [Nat.zero_mul, List.take_zero, List.nil_append, Nat.zero_add]
    rw [show ffCells (x :: l) = x.cells.toList ++ ffCells l from rfl, List.drop_append_of_le_length (by omega), List.drop_of_length_le (by omega), List.nil_append]
  | x :: l, i + 1, f, h => by
    have ih := ffCells_set l i f (by simpa using h)
    have e : x.cells.toList.length = 18 := by rw [Array.length_toList, FactV.cells_size]
    show x.cells.toList ++ ffCells (l.set i f) = _
    rw [ih, show ffCells (x :: l) = x.cells.toList ++ ffCells l from rfl]
    rw [show (i + 1) * 18 = x.cells.toList.length + i * 18 by omega, List.take_length_add_append, show x.cells.toList.length + i * 18 + 18 = x.cells.toList.length + (i * 18 + 18) by omega, List.drop_length_add_append]
    simp
/-- a fact of a list of one's own is changed -/
theorem OwnF.set {w : World} {base g n c : Nat} {l : List FactV} (h : OwnF w base (.slice (some ⟨g, 0, none⟩) n c) l) {i : Nat} (f : FactV) (hi : i < l.length) :
    ∃ old, w.heap[g]? = some (.cells old 47 (0, 0)) ∧ i * 18 + f.cells.size ≤ old.size ∧ base ≤ g ∧ OwnF (w.setRow g (old.toList.take (i * 18) ++ f.cells.toList ++ old.toList.drop (i * 18 + f.cells.size)).toArray) base (.slice (some ⟨g, 0, none⟩) n c) (l.set i f) := by
  rcases h.2 with ⟨h0, _⟩ | ⟨g', cap, cur, hv, hbg, hg, hnc, hcm, hcs, ht⟩
  · cases h0
  · cases hv
    have hle : i * 18 + 18 ≤ l.length * 18 := by omega
    have hcl : l.length * 18 ≤ c * 18 := Nat.mul_le_mul_right _ hnc
    refine ⟨cur, hg, by rw [FactV.cells_size, hcs]; omega, hbg, ?_⟩
    refine ⟨by rw [ffCells_len], .inr ⟨g, c, (cur.toList.take (i * 18) ++ f.cells.toList ++ cur.toList.drop (i * 18 + f.cells.size)).toArray, by rw [List.length_set], hbg, setRow_same hg, by rw [List.length_set]; exact hnc, hcm, ?_, ?_⟩⟩
    · simp only [List.size_toArray, List.length_append, List.length_take, List.length_drop, Array.length_toList, FactV.cells_size, hcs]; omega
    · rw [List.length_set, ffCells_set l i f hi, ← ht, FactV.cells_size]
      have hlen : cur.toList.length = c * 18 := by rw [Array.length_toList, hcs]
      have hf : f.cells.toList.length = 18 := by rw [Array.length_toList, FactV.cells_size]
      refine List.ext_getElem? fun j => ?_
      simp only [List.getElem?_take, List.getElem?_append, List.length_append, List.length_take, List.getElem?_drop, hlen, hf]
      have m1 : min (i * 18) (c * 18) = i * 18 := by omega
      have m2 : min (i * 18) (min (l.length * 18) (c * 18)) = i * 18 := by omega
      simp only [m1, m2]
      by_cases c1 : j < i * 18
      · have : j < l.length * 18 := by omega
        simp [c1, this, show j < i * 18 + 18 by omega]
      · by_cases c2 : j < i * 18 + 18
        · have : j < l.length * 18 := by omega
          simp [c1, c2, this]
        · by_cases c3 : j < l.length * 18
          · simp [c2, c3, show i * 18 + 18 + (j - (i * 18 + 18)) < l.length * 18 by omega]
          · simp [c2, c3, show ¬ i * 18 + 18 + (j - (i * 18 + 18)) < l.length * 18 by omega]
theorem wp_store_in {o : Oper} {a : Act} {w : World} {K : Act → World → Prop} {Q : Exit → Act → World → Prop} (x y : Operand) (g n c base i : Nat) (l : List FactV) (f : FactV) (cs : Array Value) (hcs : f.cells = cs) (hown : OwnF w base (.slice (some ⟨g, 0, none⟩) n c) l) (hi : i < l.length) (ho : o.op = .store 47 x y)
    (hx : a.eval x = .pointer (some ⟨g, i * 18, none⟩)) (hy : a.eval y = .agg cs)
    (h : ∀ w', OwnF w' base (.slice (some ⟨g, 0, none⟩) n c) (l.set i f) → Below base w w' → K (a.put o.dst undef) w') : o.wp Tryz.prog a w K Q := by
  subst hcs
  obtain ⟨old, h1, h2, h3, h4⟩ := hown.set f hi
  unfold Oper.wp execOp
  simp only [ho, hx, hy, Instr.storeAt, Instr.sureAddr, Sem.run_bind, Sem.run_pure, Result.andThen_ok, run_storeVar_part w g (i * 18) _ _ old f.cells _ h1 fact_size h2 f.cells_one rfl]
  exact h _ h4 (below_setRow (Below.refl _ _) h3)
/-- two facts of a list change places: the same facts are in it -/
theorem swap_mem {l : List FactV} {a b : Nat} {x y : FactV} (ha : l[a]? = some x) (hb : l[b]? = some y) (f : FactV) : f ∈ (l.set a y).set b x ↔ f ∈ l := by
  have la := (List.getElem?_eq_some_iff.1 ha).1
  have lb := (List.getElem?_eq_some_iff.1 hb).1
  constructor
  · intro h
    rcases List.mem_or_eq_of_mem_set h with h | rfl
    · rcases List.mem_or_eq_of_mem_set h with h | rfl
      · exact h
      · exact List.mem_of_getElem? hb
    · exact List.mem_of_getElem? ha
  · intro h
    obtain ⟨i, hi⟩ := List.getElem?_of_mem h
    have li := (List.getElem?_eq_some_iff.1 hi).1
    by_cases e1 : i = a
    · subst e1
      rw [ha] at hi
      cases hi
      exact List.mem_set (by simpa using lb) _
    · by_cases e2 : i = b
      · subst e2
        rw [hb] at hi
        cases hi
        refine List.mem_of_getElem? (i := a) ?_
        rw [List.getElem?_set_ne (by omega), List.getElem?_set_self la]
      · refine List.mem_of_getElem? (i := i) ?_
        rw [List.getElem?_set_ne (by omega), List.getElem?_set_ne (by omega)]
        exact hi
theorem build_fact {ops : Array Oper} {rest : List Oper} {o : Oper} {a : Act} {w : World} {Q : Exit → Act → World → Prop} (x : Operand) (cs : Array Value) (f : FactV) (hcs : f.cells = cs) (hgd : o.guard = none) (ho : o.op = .buildSlice 44 1 #[(0, x)]) (hx : a.eval x = .agg cs)
    (h : wpList Tryz.prog ops Q rest (a.put o.dst (.slice (some ⟨w.heap.size, 0, none⟩) 1 1)) (w.alloc (.cells cs 47))) : wpList Tryz.prog ops Q (o :: rest) a w :=
  wpList_plain hgd fun _ hK => wp_build_fact x cs f hcs ho hx (hK _ _ h)
theorem append_fact {ops : Array Oper} {rest : List Oper} {o : Oper} {a : Act} {w : World} {Q : Exit → Act → World → Prop} (s x : Operand) (base : Nat) (L : List FactV) (f : FactV) (b : Nat) (v : Value) (hown : OwnF w base v L) (hlen : L.length ≤ 1000000) (hbase : base ≤ w.heap.size)
    (hnews : ∀ (j : Nat) u, f.cells.toList[j]? = some u → w.cell? ((⟨b, 0, none⟩ : Addr).add j) = some u)
    (hgd : o.guard = none) (ho : o.op = .call { callee := .builtin .append, args := #[s, x], argTypes := #[44, 44] })
    (hs : a.eval s = v) (hx : a.eval x = .slice (some ⟨b, 0, none⟩) 1 1)
    (h : ∀ v' w', OwnF w' base v' (L ++ [f]) → Below base w w' → wpList Tryz.prog ops Q rest (a.put o.dst v') w') : wpList Tryz.prog ops Q (o :: rest) a w :=
  wpList_plain hgd fun _ hK => wp_append_fact s x base L f b v hown hlen hbase hnews ho hs hx (fun v' w' h1 h2 _ => hK _ _ (h v' w' h1 ((Below.refl _ _).grown h2 hbase (fun j e => (hown.lt j e).1))))
theorem stepB_len (L : List FactV) (f : FactV) : (stepB L f).length ≤ L.length + 1 := by
  unfold stepB
  split
  · split
    · exact putL_len L f
    · split
      · exact putL_len L f
      · omega
  · omega
theorem bestL_len (l : List FactV) : (bestL l).length ≤ l.length := by
  have h : ∀ (l L : List FactV), (l.foldl stepB L).length ≤ L.length + l.length := by
    intro l
    induction l with
    | nil => intro L; simp
    | cons x l ih => intro L; have := ih (stepB L x); have h2 := stepB_len L x; simp only [List.foldl_cons, List.length_cons]; omega
  have := h l []
  simpa [bestL] using this
theorem perm_kind_len {fs l : List FactV} (h : fs.Perm (bestL l)) (n : Nat) (hn : l.length ≤ n) (q : Nat) : (fs.filter (kindF q)).length ≤ n := by
  have h1 := List.length_filter_le (kindF q) fs
  have h2 := h.length_eq
  have h3 := bestL_len l
  omega
theorem OwnF.block {w : World} {base n c : Nat} {A : Option Addr} {l : List FactV} (h : OwnF w base (.slice A n c) l) (h0 : 0 < l.length) : ∃ g, A = some ⟨g, 0, none⟩ := by
  rcases h.2 with ⟨h1, h2⟩ | ⟨g, cap, cur, hv, _⟩
  · omega
  · cases hv; exact ⟨g, rfl⟩
theorem OwnF.get {w : World} {base n c g : Nat} {l : List FactV} (h : OwnF w base (.slice (some ⟨g, 0, none⟩) n c) l) {i : Nat} {f : FactV} (hf : l[i]? = some f) : ∀ j x, f.cells[j]? = some x → w.cell? ⟨g, i * 18 + j, none⟩ = some x := by
  obtain ⟨b, o, e, _, hc⟩ := h.facts.get hf
  rcases h.2 with ⟨h1, h2⟩ | ⟨g', cap, cur, hv, _, hg, hnc, _, hcs, ht⟩
  · cases h1
  · cases hv
    intro j x hx
    have h1 := ffCells_get l i f hf j x hx
    have h2 := (List.getElem?_eq_some_iff.1 h1).1
    rw [ffCells_len] at h2
    rw [cell_of_row w g _ cur _ _ hg, ← Array.getElem?_toList]
    rw [← ht, List.getElem?_take_of_lt (by omega)] at h1
    exact h1
end Go.Proofs.YtfiabonacpepnaaGreatDoor.Fb
