/- Package base: Of. -/
import Derived.Test.YtgjajhopjcdflaaGreatFkU
import Derived.Deep.RegionHeld3
import Derived.Carry
namespace Go.Proofs.YtgjajhopjcdflaaGreat
open Go Go.RowKit Go.Lib Go.Shelf Go.Maps

def zb : Array Value := #[.slice none 0 0, .slice none 0 0, .slice none 0 0, .slice none 0 0, .slice none 0 0, .slice none 0 0, .slice none 0 0, .slice none 0 0, .slice none 0 0, .slice none 0 0]
theorem one_cells (f : FactV) : f.cells.all (·.oneCell') = true := f.cells_one
/-- what the round over the facts keeps -/
structure Of1 (w : World) (v : Value) (l : List FactV) (j : Nat) (wr : World) : Prop where
  map : MapF wr (w.heap.size + 1) j (bestL (l.take j))
  zb : RowAt wr w.heap.size 27 zb
  below : Below w.heap.size w wr
theorem Of1.facts {w wr : World} {v : Value} {l : List FactV} {j : Nat} (h : Of1 w v l j wr) (hv : FactsAt w v l) : FactsAt wr v l := by
  rcases hv with h0 | ⟨b, o, c, rfl, hlt, hc⟩
  · exact .inl h0
  · exact .inr ⟨b, o, c, rfl, Nat.lt_of_lt_of_le hlt h.below.size, fun i f hf j x hx => (h.below.cell (p := ⟨b, o + i * 18 + j, none⟩) hlt).trans (hc i f hf j x hx)⟩
/-- only new blocks came -/
theorem Of1.more {w wr W : World} {v : Value} {l : List FactV} {j : Nat} (h : Of1 w v l j wr) (hb : Below wr.heap.size wr W) : Of1 w v l j W :=
  ⟨h.map.kept (hb.block _ h.map.lt), h.zb.below hb h.zb.lt, h.below.trans (hb.mono h.below.size)⟩
theorem Of1.lt {w wr : World} {v : Value} {l : List FactV} {j : Nat} (h : Of1 w v l j wr) : w.heap.size + 1 < wr.heap.size := h.map.lt
theorem take_next {l : List FactV} {j : Nat} {f : FactV} (h : l[j]? = some f) : l.take (j + 1) = l.take j ++ [f] := by rw [List.take_add_one, h]; rfl
/-- the next fact makes no difference -/
theorem Of1.skip {w wr : World} {v : Value} {l : List FactV} {j : Nat} {f : FactV} (h : Of1 w v l j wr) (hf : l[j]? = some f) (hs : stepB (bestL (l.take j)) f = bestL (l.take j)) : Of1 w v l (j + 1) wr :=
  ⟨by rw [take_next hf, bestL_snoc, hs]; exact h.map.mono (by omega), h.zb, h.below⟩

theorem Of1.put {w wr W : World} {v : Value} {l : List FactV} {j : Nat} {f : FactV} (h : Of1 w v l j wr) (hf : l[j]? = some f) (hs : stepB (bestL (l.take j)) f = putL (bestL (l.take j)) f) (hm : MapF W (w.heap.size + 1) (j + 1) (putL (bestL (l.take j)) f)) (hg : wr.grownBy W (some (w.heap.size + 1))) : Of1 w v l (j + 1) W :=
  ⟨by rw [take_next hf, bestL_snoc, hs]; exact hm, (hg.block _ h.zb.lt (by intro e; simp at e)).trans h.zb, h.below.grown hg h.below.size (fun k hk => by cases hk; omega)⟩
theorem z18 : zf.cells.size = 18 := rfl

def lenS : Value → Nat
  | .slice _ n _ => n
  | _ => 0
theorem OwnK.len {w : World} {base : Nat} {v : Value} {ks : List (Int × Int × Int)} (h : OwnK w base v ks) : lenS v = ks.length := by
  rcases h.2 with ⟨rfl, hn⟩ | ⟨g, cap, cur, rfl, _⟩
  · exact hn.symm
  · rfl
theorem perm_keys {ks : List (Int × Int × Int)} {L : List FactV} (h : (ks.map kV).Perm (L.map keyV)) : ks.Perm (L.map kT) := by
  have e : L.map keyV = (L.map kT).map kV := by rw [List.map_map]; rfl
  rw [e] at h
  have hd : ∀ (l : List (Int × Int × Int)), (l.map kV).map (fun v => match v with | .agg ⟨[.int _ a, .int _ b, .int _ c]⟩ => (a, b, c) | _ => (0, 0, 0)) = l := by
    intro l
    rw [List.map_map]
    refine (List.map_congr_left (fun k _ => ?_)).trans (List.map_id l)
    rfl
  have := h.map (fun v => match v with | .agg ⟨[.int _ a, .int _ b, .int _ c]⟩ => (a, b, c) | _ => ((0, 0, 0) : Int × Int × Int))
  rwa [hd, hd] at this
/-- what the round over the map keeps: the keys gathered -/
structure Of2 (wr : World) (mb n : Nat) (L : List FactV) (v9 : Value) (ks : List (Int × Int × Int)) (wx : World) : Prop where
  own : OwnK wx (wr.heap.size + 1) v9 ks
  rng : RangeF wx mb wr.heap.size n L (ks.map kV)
  below : Below wr.heap.size wr wx
  size : wr.heap.size + 1 ≤ wx.heap.size

theorem base_size : (Tryz.prog.info? 27).map (·.size) = some 10 := by kernel_rfl
theorem load_base {ops : Array Oper} {rest : List Oper} {o : Oper} {a : Act} {w : World} {Q : Exit → Act → World → Prop} (x : Operand) (b : Nat) (cs : Array Value) (hc : ∀ j v, cs[j]? = some v → w.cell? ⟨b, 0 + j, none⟩ = some v) (hi : (Tryz.prog.info? 27).map (·.size) = some cs.size)
    (hgd : o.guard = none) (ho : o.op = .load 27 x) (hx : a.eval x = .pointer (some ⟨b, 0, none⟩))
    (h : wpList Tryz.prog ops Q rest (a.put o.dst (.agg cs)) w) : wpList Tryz.prog ops Q (o :: rest) a w :=
  wpList_load_at hgd _ x ho b 0 hx cs _ hc Tryz.underlying27 rfl hi h
theorem results_cell1 {P : Program} {fn : Func} {p : Tmp} {ty : TypeId} (h : fn.results = #[.cell p ty]) (tmps : Array Value) (w : World) (ad : Addr) (v : Value) (hp : tmps.getD p undef = .pointer (some ad)) (hl : (loadVar ty ad).run P w = .ok v w) :
    (results fn tmps).run P w = .ok v w := by
  have hp' : tmps[p]?.getD undef = .pointer (some ad) := by simpa using hp
  simp [results, h, hp', asAddr, hl]
theorem own_slice {w : World} {b e s n : Nat} {v : Value} {x : List Value} (h : w.ownsRow b e s v n x) : ∃ A n' c, v = .slice A n' c := by
  rcases h.2 with ⟨rfl, _⟩ | ⟨g, cap, cur, rfl, _⟩ <;> exact ⟨_, _, _, rfl⟩
theorem Lists.one {w : World} {base : Nat} {bs : Array Value} {fs : List FactV} (h : Lists w base bs fs) : bs.all (·.oneCell') = true := by
  rw [Array.all_eq_true_iff_forall_mem]
  intro v hv
  obtain ⟨q, hq⟩ := Array.getElem?_of_mem hv
  have hlt := (Array.getElem?_eq_some_iff.1 hq).1
  rw [h.size] at hlt
  obtain ⟨u, h1, h2⟩ := h.own q hlt
  rw [hq] at h1
  cases h1
  obtain ⟨A, n, c, rfl⟩ := own_slice h2
  rfl
theorem setRow_at {w : World} {g : Nat} {cs old : Array Value} {t : TypeId} (h : RowAt w g t old) : RowAt (w.setRow g cs) g t cs := by
  unfold RowAt at *
  simp [World.setRow, Array.getElem?_modify, h]
theorem setRow_far {w : World} {g k : Nat} {cs : Array Value} (h : k ≠ g) : (w.setRow g cs).heap[k]? = w.heap[k]? := by
  simp [World.setRow, Array.getElem?_modify, Ne.symm h]
theorem below_setR {B g : Nat} {a w : World} {cs : Array Value} (h : Below B a w) (hg : B ≤ g) : Below B a (w.setRow g cs) :=
  ⟨h.os, h.tape, h.output, by simpa [World.setRow] using h.size, fun k hk => by
    rw [← h.block k hk]
    exact setRow_far (by omega)⟩
theorem Lists.last {w : World} {base B : Nat} {bs : Array Value} {fs : List FactV} (h : Lists w base bs fs) (cs : Array Value) (hB : B < base) : Lists (w.setRow B cs) B bs fs :=
  ⟨h.size, fun q hq => by
    obtain ⟨v, h1, h2⟩ := h.own q hq
    have h3 := owns_other h2 (w' := w.setRow B cs) (fun j hj _ => setRow_far (by omega))
    refine ⟨v, h1, h3.1, ?_⟩
    rcases h3.2 with h0 | ⟨g, cap, cur, hv, hbg, rest⟩
    · exact .inl h0
    · exact .inr ⟨g, cap, cur, hv, by omega, rest⟩, h.apart⟩
theorem store_base {ops : Array Oper} {rest : List Oper} {o : Oper} {a : Act} {w : World} {Q : Exit → Act → World → Prop} (x y : Operand) (g : Nat) (cs old : Array Value) (hg : RowAt w g 27 old) (hi : (Tryz.prog.info? 27).map (·.size) = some cs.size)
    (hold : old.size = cs.size) (h1 : cs.all (·.oneCell') = true) (hgd : o.guard = none) (ho : o.op = .store 27 x y) (hx : a.eval x = .pointer (some ⟨g, 0, none⟩)) (hy : a.eval y = .agg cs)
    (h : wpList Tryz.prog ops Q rest (a.put o.dst undef) (w.setRow g cs)) : wpList Tryz.prog ops Q (o :: rest) a w :=
  wpList_plain hgd fun _ hK => wp_store_row _ x y ho g cs hx hy _ old hg hi hold h1 (hK _ _ h)
theorem nodup_kT {L : List FactV} (h : (L.map keyV).Nodup) : (L.map kT).Nodup := by
  have e : L.map keyV = (L.map kT).map kV := by rw [List.map_map]; rfl
  rw [e] at h
  rw [List.Nodup, List.pairwise_map] at h
  exact h.imp (fun hne e => hne (by rw [e]))
theorem perm_of_keys : ∀ (fs L : List FactV), (L.map kT).Nodup → (fs.map kT).Perm (L.map kT) → (∀ f ∈ fs, f ∈ L) → fs.Perm L
  | [], L, _, hp, _ => by
    have h := hp.length_eq
    simp at h
    rw [List.length_eq_zero_iff.1 h.symm]
  | f :: fs, L, hn, hp, hm => by
    obtain ⟨l1, l2, rfl⟩ := List.append_of_mem (hm f (by simp))
    have hpm : (l1 ++ f :: l2).Perm (f :: (l1 ++ l2)) := List.perm_middle
    have hp2 : (kT f :: fs.map kT).Perm (kT f :: (l1 ++ l2).map kT) := by
      have h := hp.trans (hpm.map kT)
      simpa using h
    have hn2 : (kT f :: fs.map kT).Nodup := by
      have h := hp.nodup_iff.2 hn
      simpa using h
    have hn3 : ((l1 ++ l2).map kT).Nodup := ((hp2.nodup_iff.1 hn2).of_cons)
    refine (List.Perm.cons f (perm_of_keys fs (l1 ++ l2) hn3 (List.Perm.cons_inv hp2) ?_)).trans hpm.symm
    intro g hg
    have h1 := hpm.mem_iff.1 (hm g (by simp [hg]))
    rcases List.mem_cons.1 h1 with rfl | h
    · exact absurd (List.mem_map_of_mem hg) (List.nodup_cons.1 hn2).1
    · exact h
theorem strict_keys {fs : List FactV} (hs : (fs.map kT).Pairwise (fun a b => ¬ kLt b a)) (hn : (fs.map kT).Nodup) : fs.Pairwise (fun a b => kLt (kT a) (kT b)) := by
  have h := List.Pairwise.and hs hn
  rw [List.pairwise_map] at h
  refine h.imp ?_
  intro a b hab
  obtain ⟨h1, h2⟩ := hab
  have h3 : ¬ (kT a = kT b) := h2
  unfold kLt at *
  have h4 : ¬ ((kT a).1 = (kT b).1 ∧ (kT a).2.1 = (kT b).2.1 ∧ (kT a).2.2 = (kT b).2.2) := fun e => h3 (Prod.ext e.1 (Prod.ext e.2.1 e.2.2))
  omega
theorem own_apart {w : World} {b1 b2 e1 e2 s1 s2 n1 n2 : Nat} {v1 v2 : Value} {x1 x2 : List Value} (h1 : w.ownsRow b1 e1 s1 v1 n1 x1) (h2 : w.ownsRow b2 e2 s2 v2 n2 x2) (he : e1 ≠ e2) : v1.ownBlock = none ∨ v1.ownBlock ≠ v2.ownBlock := by
  rcases h1.2 with ⟨rfl, _⟩ | ⟨g, cap, cur, rfl, _, hg, _⟩
  · exact .inl rfl
  · refine .inr ?_
    rcases h2.2 with ⟨rfl, _⟩ | ⟨g', cap', cur', rfl, _, hg', _⟩
    · simp [Value.ownBlock]
    · intro e
      simp only [Value.ownBlock, Option.some.injEq] at e
      subst e
      rw [hg] at hg'
      simp only [Option.some.injEq, Obj.cells.injEq] at hg'
      exact he hg'.2.1
theorem owns_far {w : World} {base : Nat} {e T : TypeId} {s n b q : Nat} {v : Value} {xs : List Value} {cs : Array Value} (h : w.ownsRow base e s v n xs) (hb : RowAt w b T cs) (he : e ≠ T) (u : Value) : (w.setCell ⟨b, q, none⟩ u).ownsRow base e s v n xs := by
  refine ⟨h.1, ?_⟩
  rcases h.2 with h0 | ⟨g, cap, cur, hv, hbg, hg, rest⟩
  · exact .inl h0
  · refine .inr ⟨g, cap, cur, hv, hbg, (Below.heap_setCell w ⟨b, q, none⟩ u g (fun e2 => ?_)).trans hg, rest⟩
    have e3 : g = b := e2
    subst e3
    have h1 : some (Obj.cells cur e (0, 0)) = some (Obj.cells cs T (0, 0)) := hg.symm.trans hb
    simp only [Option.some.injEq, Obj.cells.injEq] at h1
    exact he h1.2.1
theorem OwnK.sl {w : World} {base : Nat} {v : Value} {ks : List (Int × Int × Int)} (h : OwnK w base v ks) : ∃ A c, v = .slice A ks.length c := by
  rcases h.2 with ⟨rfl, hn⟩ | ⟨g, cap, cur, rfl, _⟩
  · rw [hn]; exact ⟨none, 0, rfl⟩
  · exact ⟨_, cap, rfl⟩
theorem OwnK.at {w : World} {base n c : Nat} {A : Option Addr} {ks : List (Int × Int × Int)} (h : OwnK w base (.slice A n c) ks) {i : Nat} {k : Int × Int × Int} (hk : ks[i]? = some k) :
    ∃ g, A = some ⟨g, 0, none⟩ ∧ w.cell? ⟨g, i * 3, none⟩ = some (.int .i64 k.1) ∧ w.cell? ⟨g, i * 3 + 1, none⟩ = some (.int .i64 k.2.1) ∧ w.cell? ⟨g, i * 3 + 2, none⟩ = some (.int .i64 k.2.2) := by
  have hi := (List.getElem?_eq_some_iff.1 hk).1
  rcases h.2 with ⟨hv, hn⟩ | ⟨g, cap, cur, hv, _, hg, _, _, hcs, ht⟩
  · omega
  · cases hv
    have hc : ∀ j x, (kCell k)[j]? = some x → w.cell? ⟨g, i * 3 + j, none⟩ = some x := by
      intro j x hx
      have hj : j < 3 := (List.getElem?_eq_some_iff.1 hx).1
      have h1 := kCells_get ks i k hk j x hx
      rw [← ht, List.getElem?_take_of_lt (by omega)] at h1
      rw [cell_of_row w g _ cur _ _ hg, ← Array.getElem?_toList]
      exact h1
    exact ⟨g, rfl, hc 0 _ rfl, hc 1 _ rfl, hc 2 _ rfl⟩
theorem yields_at {P : Program} {ops : Array Oper} {S : World → Prop} {o : Oper} {a : Act} (ty : TypeId) (x : Operand) (b off : Nat) (cs : Array Value) (d : TypeDesc) (hc : ∀ w, S w → ∀ j v, cs[j]? = some v → w.cell? ⟨b, off + j, none⟩ = some v)
    (hu : P.underlying ty = some d) (hw : Region.wanted o (yielded ops a.tmps) = true) (ho : o.op = .load ty x) (hx : a.eval x = .pointer (some ⟨b, off, none⟩)) (hd : (match d with | .struct _ | .array _ _ => true | _ => false) = true) (hi : (P.info? ty).map (·.size) = some cs.size) :
    YieldsIf P ops S o (.agg cs) a := by
  refine Or.inl ⟨hw, fun w h => ?_⟩
  simp only [execOp, ho, hx, Instr.loadAt, Instr.sureAddr, Sem.run_bind, Sem.run_pure, Result.andThen_ok, run_loadVar_at w b off ty cs d (hc w h) hu hd hi]

set_option maxRecDepth 100000 in
set_option maxHeartbeats 8000000 in
theorem of_any (l : List FactV) (v : Value) (w : World) (hn : l.length ≤ 1000000) (hok : ∀ f ∈ l, FactOk f) (hv : FactsAt w v l) :
    Calls Tryz.prog 7 #[v] w fun e w' => ∃ bs fs, e = .returned (.agg bs) ∧ Lists w' w.heap.size bs fs ∧ Below w.heap.size w w' ∧ fs.Perm (bestL l) ∧ fs.Pairwise (fun a b => kLt (kT a) (kT b)) := by
  have HV := Lib.hid hv
  have HOK := Lib.hid hok
  have hmm := @run_makeMap Tryz.prog
  obtain ⟨m, hm⟩ : ∃ z, l.length = z := ⟨_, rfl⟩
  obtain ⟨A, c, rfl⟩ := hv.sl
  rw [hm] at HV hn ⊢
  have HM := Lib.hid hm
  have H0 : Of1 w (.slice A m c) l 0 ((w.alloc (.cells #[.slice none 0 0, .slice none 0 0, .slice none 0 0, .slice none 0 0, .slice none 0 0, .slice none 0 0, .slice none 0 0, .slice none 0 0, .slice none 0 0, .slice none 0 0] 27)).alloc (.map #[] 0)) := by
    refine ⟨?_, (RowAt.new w _ _).alloc _, ((Below.refl _ _).alloc (Nat.le_refl _) _).alloc (by simp) _⟩
    have h := MapF.new (w.alloc (.cells #[.slice none 0 0, .slice none 0 0, .slice none 0 0, .slice none 0 0, .slice none 0 0, .slice none 0 0, .slice none 0 0, .slice none 0 0, .slice none 0 0, .slice none 0 0] 27))
    simpa [bestL] using h
  have H0 := Lib.hid H0
  clear hv hok hm
  go_enter Tryz.func7, Tryz.ntmps7
  go_wp2_with fail
  go_loopw [19] (fun v19 wr => ∃ j : Nat, v19 = .int .i64 j ∧ j ≤ m ∧ Hid (Of1 w (.slice A m c) l j wr)) (fun v19 _ => m - (RowKit.intOf v19).toNat)
  case atStart => exact ⟨0, rfl, by omega, H0⟩
  case round =>
    obtain ⟨j, rfl, hj, HS⟩ := hrel
    by_cases hj2 : j < m
    · have hjd : decide (j < m) = true := by simpa using hj2
      obtain ⟨f, hf⟩ : ∃ x, l[j]? = some x := ⟨_, List.getElem?_eq_getElem (by have := HM.out; omega)⟩
      have hfm := List.mem_of_getElem? hf
      have hfo := HOK.out f hfm
      obtain ⟨b, o, c', hA, hlt, hcell⟩ : ∃ b o c', A = some ⟨b, o, none⟩ ∧ b < wr.heap.size ∧ ∀ j2 x, f.cells[j2]? = some x → wr.cell? ⟨b, o + j * 18 + j2, none⟩ = some x := by
        rcases (HS.out.facts HV.out) with ⟨h0, _⟩ | ⟨b, o, c', he, hlt, hc⟩
        · rw [h0] at hf; simp at hf
        · cases he
          exact ⟨b, o, c, rfl, hlt, hc j f hf⟩
      subst hA
      obtain ⟨N, hN⟩ : ∃ z, wr.heap.size = z := ⟨_, rfl⟩
      have HN := Lib.hid hN
      have HFO := Lib.hid (And.intro hf hfo)
      have VF := Lib.hid (fun W => valid_any f W (hfo 0).1 (hfo 0).2)
      have KF := Lib.hid (fun W => key_any f W (hfo 0).1 (hfo 0).2)
      have HONE : Hid (f.cells.all (·.oneCell') = true) := Lib.hid (one_cells f)
      have HCS : Hid ((Tryz.prog.info? 34).map (·.size) = some f.cells.size) := Lib.hid fact_size
      have h18 : Hid (f.cells.size = 18) := Lib.hid rfl
      obtain ⟨cf, hcf⟩ : ∃ z, f.cells = z := ⟨_, rfl⟩
      have HCF := Lib.hid hcf
      rw [hcf] at VF KF HONE HCS h18 hcell
      have HC := Lib.hid hcell
      have h18b : Hid ((#[Value.int .i64 0, .int .i64 0, .int .i64 0, .int .i64 0, .int .i64 0, .int .i64 0, .int .i64 0, .int .i64 0, .int .i64 0, .int .i64 0, .int .i64 0, .int .i64 0, .int .i64 0, .int .i64 0, .int .i64 0, .int .i64 0, .int .i64 0, .string ⟨#[]⟩] : Array Value).size = cf.size) := Lib.hid (by rw [h18.out]; rfl)
      have HR1 : Hid (RowAt (wr.alloc (.cells cf 34)) N 34 cf) := Lib.hid (by rw [← hN]; exact RowAt.new _ _ _)
      have HB1 : Hid (Below wr.heap.size wr (wr.alloc (.cells cf 34))) := Lib.hid ((Below.refl _ _).alloc (Nat.le_refl _) _)
      have HL1 : Hid (∀ j2 x, cf[j2]? = some x → (wr.alloc (.cells cf 34)).cell? ⟨N, 0 + j2, none⟩ = some x) := Lib.hid (fun j2 x hx => by rw [Nat.zero_add, HR1.out.cell]; exact hx)
      clear hf hfm hfo hcell hcf
      go_wp2_with (first | ((with_reducible refine load_at (o := ⟨some 22, _, _, _, _, _⟩) (.tmp 21) b (o + j * 18) cf HC.out HCS.out ?_ ?_ ?_ ?_); rfl; rfl; rfl) | ((with_reducible refine store_cs (o := ⟨none, _, _, _, _, _⟩) (.tmp 5) (.tmp 22) N HN.out _ cf HCS.out HONE.out h18b.out ?_ ?_ ?_ ?_ ?_); rfl; rfl; rfl; rfl) | ((with_reducible refine load_cs (o := ⟨some 23, _, _, _, _, _⟩) (.tmp 5) N cf HL1.out HCS.out ?_ ?_ ?_ ?_); rfl; rfl; rfl))
      refine (VF.out _).mono ?_
      rintro e W2 ⟨rfl, hb2⟩
      have HB2 : Hid (Below wr.heap.size wr W2) := Lib.hid (HB1.out.trans (hb2.mono HB1.out.size))
      have HR2 : Hid (RowAt W2 N 34 cf) := Lib.hid (HR1.out.below hb2 HR1.out.lt)
      clear hb2 hN
      cases hvd : validB f
      · go_wp2_with fail
        go_roundw
        case rel =>
          exact ⟨j + 1, by go_num, by omega, Lib.hid (((HS.out.more HB2.out)).skip HFO.out.1 (by unfold stepB; rw [hvd]; rfl))⟩
        case measure => simp [RowKit.intOf]; omega
      · have HL2 : Hid (∀ j2 x, cf[j2]? = some x → W2.cell? ⟨N, 0 + j2, none⟩ = some x) := Lib.hid (fun j2 x hx => by rw [Nat.zero_add, HR2.out.cell]; exact hx)
        have HVD := Lib.hid hvd
        clear hvd
        go_wp2_with (first | ((with_reducible refine load_cs (o := ⟨some 26, _, _, _, _, _⟩) (.tmp 5) N cf HL2.out HCS.out ?_ ?_ ?_ ?_); rfl; rfl; rfl))
        refine (KF.out _).mono ?_
        rintro e W3 ⟨rfl, hb3⟩
        have HB3 : Hid (Below wr.heap.size wr W3) := Lib.hid (HB2.out.trans (hb3.mono HB2.out.size))
        have HR3 : Hid (RowAt W3 N 34 cf) := Lib.hid (HR2.out.below hb3 HR2.out.lt)
        clear hb3
        have HKV : Hid (keyV f = .agg #[.int .i64 (f.n 0), .int .i64 (key2 f).1, .int .i64 (key2 f).2]) := Lib.hid rfl
        obtain ⟨x0, hx0⟩ : ∃ z, f.n 0 = z := ⟨_, rfl⟩
        obtain ⟨x1, hx1⟩ : ∃ z, (key2 f).1 = z := ⟨_, rfl⟩
        obtain ⟨x2, hx2⟩ : ∃ z, (key2 f).2 = z := ⟨_, rfl⟩
        rw [hx0, hx1, hx2] at HKV
        obtain ⟨W4, hW4⟩ : ∃ z, W3.alloc (.cells #[.int .i64 x0, .int .i64 x1, .int .i64 x2] 48) = z := ⟨_, rfl⟩
        obtain ⟨M, hM⟩ : ∃ z, W3.heap.size = z := ⟨_, rfl⟩
        have HM4 : Hid (RowAt W4 M 48 #[.int .i64 x0, .int .i64 x1, .int .i64 x2]) := Lib.hid (by rw [← hW4, ← hM]; exact RowAt.new _ _ _)
        have HB4 : Hid (Below wr.heap.size wr W4) := Lib.hid (by rw [← hW4]; exact HB3.out.alloc HB3.out.size _)
        have HR4 : Hid (RowAt W4 N 34 cf) := Lib.hid (by rw [← hW4]; exact HR3.out.alloc _)
        have h40 : W4.cell? ⟨M, 0, none⟩ = some (.int .i64 x0) := by rw [HM4.out.cell]; rfl
        have h41 : W4.cell? ⟨M, 1, none⟩ = some (.int .i64 x1) := by rw [HM4.out.cell]; rfl
        have h42 : W4.cell? ⟨M, 2, none⟩ = some (.int .i64 x2) := by rw [HM4.out.cell]; rfl
        have HO4 := Lib.hid (HS.out.more HB4.out)
        rw [HKV.out]
        rcases HO4.out.map.look (keyV f) (keyV_ok HFO.out.2) true with ⟨hno, hlk⟩ | ⟨g, hgm, hgk, hlk⟩
        · rw [if_pos rfl, HKV.out] at hlk
          have HNO := Lib.hid hno
          clear hx0 hx1 hx2 hno
          have hzs : zf.cells.size = 18 := z18
          have hzo := one_cells zf
          have hzi : (Tryz.prog.info? 34).map (·.size) = some zf.cells.size := fact_size
          obtain ⟨zc, hzc⟩ : ∃ z, zf.cells = z := ⟨_, rfl⟩
          rw [hzc] at hlk hzs hzo hzi
          have HZI := Lib.hid hzi
          have HZO := Lib.hid hzo
          have HZS : Hid ((#[Value.int .i64 0, .int .i64 0, .int .i64 0, .int .i64 0, .int .i64 0, .int .i64 0, .int .i64 0, .int .i64 0, .int .i64 0, .int .i64 0, .int .i64 0, .int .i64 0, .int .i64 0, .int .i64 0, .int .i64 0, .int .i64 0, .int .i64 0, .string ⟨#[]⟩] : Array Value).size = zc.size) := Lib.hid (by rw [hzs]; rfl)
          obtain ⟨W5, hW5⟩ : ∃ z, W4.alloc (.cells zc 34) = z := ⟨_, rfl⟩
          have HB5 : Hid (Below W4.heap.size W4 W5) := Lib.hid (by rw [← hW5]; exact (Below.refl _ _).alloc (Nat.le_refl _) _)
          have HO5 := Lib.hid (HO4.out.more HB5.out)
          have HM5 := Lib.hid (HM4.out.below HB5.out HM4.out.lt)
          have HR5 := Lib.hid (HR4.out.below HB5.out HR4.out.lt)
          have HL5 : Hid (∀ j2 x, cf[j2]? = some x → W5.cell? ⟨N, 0 + j2, none⟩ = some x) := Lib.hid (fun j2 x hx => by rw [Nat.zero_add, HR5.out.cell]; exact hx)
          have h50 : W5.cell? ⟨M, 0, none⟩ = some (.int .i64 x0) := by rw [HM5.out.cell]; rfl
          have h51 : W5.cell? ⟨M, 1, none⟩ = some (.int .i64 x1) := by rw [HM5.out.cell]; rfl
          have h52 : W5.cell? ⟨M, 2, none⟩ = some (.int .i64 x2) := by rw [HM5.out.cell]; rfl
          obtain ⟨W7, hpu, hm7, hg7⟩ := (HO5.out.map).put f HFO.out.2
          rw [HKV.out, HCF.out] at hpu
          have HM7 := Lib.hid (And.intro hm7 hg7)
          clear hm7 hg7
          clear hzs hzo hzi hzc
          go_wp2_with (first | ((with_reducible refine store_cs (o := ⟨none, _, _, _, _, _⟩) (.tmp 7) (.tmp 32) W4.heap.size rfl _ zc HZI.out HZO.out HZS.out ?_ ?_ ?_ ?_ ?_); rfl; rfl; rfl; rfl) | ((with_reducible refine load_cs (o := ⟨some 43, _, _, _, _, _⟩) (.tmp 5) N cf HL5.out HCS.out ?_ ?_ ?_ ?_); rfl; rfl; rfl))
          go_roundw
          case rel =>
            exact ⟨j + 1, by go_num, by omega, Lib.hid (HO5.out.put HFO.out.1 (by unfold stepB; rw [HVD.out, find_none HNO.out]; rfl) HM7.out.1 HM7.out.2)⟩
          case measure => simp [RowKit.intOf]; omega
        · rw [if_pos rfl, HKV.out] at hlk
          have HGM := Lib.hid (And.intro hgm hgk)
          have HFI := Lib.hid (find_key HO4.out.map.keys_nodup hgm hgk)
          have hgo : FactOk g := by
            obtain ⟨_, _, _, _, _, _, h⟩ := HO4.out.map
            exact h g hgm
          have HGI : Hid ((Tryz.prog.info? 34).map (·.size) = some g.cells.size) := Lib.hid fact_size
          have HGO := Lib.hid (one_cells g)
          have HGS : Hid (g.cells.size = 18) := Lib.hid rfl
          have HPV := Lib.hid (fun W => prevails_any f g W HFO.out.2 hgo)
          rw [HCF.out] at HPV
          obtain ⟨gc, hgc⟩ : ∃ z, g.cells = z := ⟨_, rfl⟩
          rw [hgc] at hlk HGI HGO HGS HPV
          have HZS : Hid ((#[Value.int .i64 0, .int .i64 0, .int .i64 0, .int .i64 0, .int .i64 0, .int .i64 0, .int .i64 0, .int .i64 0, .int .i64 0, .int .i64 0, .int .i64 0, .int .i64 0, .int .i64 0, .int .i64 0, .int .i64 0, .int .i64 0, .int .i64 0, .string ⟨#[]⟩] : Array Value).size = gc.size) := Lib.hid (by rw [HGS.out]; rfl)
          obtain ⟨W5, hW5⟩ : ∃ z, W4.alloc (.cells gc 34) = z := ⟨_, rfl⟩
          obtain ⟨N4, hN4⟩ : ∃ z, W4.heap.size = z := ⟨_, rfl⟩
          have HN4 := Lib.hid hN4
          have HB5 : Hid (Below W4.heap.size W4 W5) := Lib.hid (by rw [← hW5]; exact (Below.refl _ _).alloc (Nat.le_refl _) _)
          have HG5 : Hid (RowAt W5 N4 34 gc) := Lib.hid (by rw [← hW5, ← hN4]; exact RowAt.new _ _ _)
          have HR5 := Lib.hid (HR4.out.below HB5.out HR4.out.lt)
          have HL5 : Hid (∀ j2 x, cf[j2]? = some x → W5.cell? ⟨N, 0 + j2, none⟩ = some x) := Lib.hid (fun j2 x hx => by rw [Nat.zero_add, HR5.out.cell]; exact hx)
          have HLG : Hid (∀ j2 x, gc[j2]? = some x → W5.cell? ⟨N4, 0 + j2, none⟩ = some x) := Lib.hid (fun j2 x hx => by rw [Nat.zero_add, HG5.out.cell]; exact hx)
          clear hx0 hx1 hx2 hgm hgk hgo hgc
          go_wp2_with (first | ((with_reducible refine store_cs (o := ⟨none, _, _, _, _, _⟩) (.tmp 7) (.tmp 32) N4 HN4.out _ gc HGI.out HGO.out HZS.out ?_ ?_ ?_ ?_ ?_); rfl; rfl; rfl; rfl) | ((with_reducible refine load_csg (o := ⟨some 37, _, _, _, _, _⟩) (.tmp 5) N cf HL5.out HCS.out ?_ ?_ ?_ ?_); rfl; rfl; rfl) | ((with_reducible refine load_csg (o := ⟨some 38, _, _, _, _, _⟩) (.tmp 7) N4 gc HLG.out HGI.out ?_ ?_ ?_ ?_); rfl; rfl; rfl))
          refine (HPV.out W5).mono ?_
          rintro e W6 ⟨rfl, hb6⟩
          have HO6 := Lib.hid (HO4.out.more (HB5.out.trans (hb6.mono HB5.out.size)))
          have HM6 := Lib.hid ((HM4.out.below HB5.out HM4.out.lt).below hb6 (HM4.out.below HB5.out HM4.out.lt).lt)
          have HR6 := Lib.hid (HR5.out.below hb6 HR5.out.lt)
          have HL6 : Hid (∀ j2 x, cf[j2]? = some x → W6.cell? ⟨N, 0 + j2, none⟩ = some x) := Lib.hid (fun j2 x hx => by rw [Nat.zero_add, HR6.out.cell]; exact hx)
          have h60 : W6.cell? ⟨M, 0, none⟩ = some (.int .i64 x0) := by rw [HM6.out.cell]; rfl
          have h61 : W6.cell? ⟨M, 1, none⟩ = some (.int .i64 x1) := by rw [HM6.out.cell]; rfl
          have h62 : W6.cell? ⟨M, 2, none⟩ = some (.int .i64 x2) := by rw [HM6.out.cell]; rfl
          clear hb6 hlk hN4 hW5
          cases hpv : prevB f g
          · go_wp2_with fail
            go_roundw
            case rel =>
              exact ⟨j + 1, by go_num, by omega, Lib.hid (HO6.out.skip HFO.out.1 (by unfold stepB; rw [HVD.out, HFI.out]; simp [hpv]))⟩
            case measure => simp [RowKit.intOf]; omega
          · have HPT := Lib.hid hpv
            clear hpv
            obtain ⟨W7, hpu, hm7, hg7⟩ := (HO6.out.map).put f HFO.out.2
            rw [HKV.out, HCF.out] at hpu
            have HM7 := Lib.hid (And.intro hm7 hg7)
            clear hm7 hg7
            go_wp2_with (first | ((with_reducible refine load_cs (o := ⟨some 43, _, _, _, _, _⟩) (.tmp 5) N cf HL6.out HCS.out ?_ ?_ ?_ ?_); rfl; rfl; rfl))
            go_roundw
            case rel =>
              exact ⟨j + 1, by go_num, by omega, Lib.hid (HO6.out.put HFO.out.1 (by unfold stepB; rw [HVD.out, HFI.out]; simp [HPT.out]) HM7.out.1 HM7.out.2)⟩
            case measure => simp [RowKit.intOf]; omega
    · obtain rfl : j = m := by omega
      have hjd : decide (j < j) = false := by simp
      have HL := Lib.hid (show Of1 w (.slice A j c) l j wr from HS.out)
      have HTK := Lib.hid (show l.take j = l from List.take_of_length_le (by have := HM.out; omega))
      obtain ⟨W1, hrg, hran, hb1, hs1⟩ := HL.out.map.range
      have HRG := Lib.hid (And.intro hran (And.intro hb1 hs1))
      clear hran hb1 hs1
      go_wp2_with fail
      clear hrg
      have H20 : Hid (Of2 wr (w.heap.size + 1) j (bestL l) (.slice none 0 0) [] W1) := Lib.hid ⟨OwnK.nil _ _, by have h := HRG.out.1; rw [HTK.out] at h; exact h, HRG.out.2.1, by have := HRG.out.2.2; omega⟩
      obtain ⟨R, hR⟩ : ∃ z, wr.heap.size = z := ⟨_, rfl⟩
      have HR := Lib.hid hR
      have hmr : w.heap.size + 1 < R := by rw [← hR]; exact HL.out.lt
      rw [hR]
      obtain ⟨wo, rfl⟩ : ∃ z, z = wr := ⟨_, rfl⟩
      go_loopw [9] (fun v9 wx => ∃ ks, Hid (Of2 wo (w.heap.size + 1) j (bestL l) v9 ks wx)) (fun v9 _ => (bestL l).length - lenS v9)
      case atStart => exact ⟨[], H20⟩
      case round =>
        obtain ⟨ks, HS2⟩ := hrel
        rcases HS2.out.rng.next (by rw [HR.out]; omega) 0 with ⟨hperm, hrun⟩ | ⟨f, hfm, W2, hrun, hrng, hvl, hb2, hs2, hk2, hent⟩
        rotate_left
        · rw [HR.out] at hrun hrng hb2 hk2 hent
          have hent2 := hent W2 rfl rfl
          have hsz := HS2.out.size
          rw [HR.out] at hsz
          have hown := HS2.out.own
          rw [HR.out] at hown
          have HOW := Lib.hid (show OwnK W2 (R + 1) u9 ks from owns_other hown (fun q hq _ => hk2 q (by omega)))
          have hbe := HS2.out.below
          rw [HR.out] at hbe
          have HBE := Lib.hid (hbe.trans hb2)
          have HRN := Lib.hid hrng
          have HVL := Lib.hid hvl
          have HLEN := Lib.hid hown.len
          have hlk : ks.length ≤ 1000000 := by
            have h1 : (ks.map kV).length < (bestL l).length := hvl
            have h2 : (bestL l).length ≤ j := by obtain ⟨_, _, _, _, _, h, _⟩ := HRG.out.1.map; rw [HTK.out] at h; exact h
            rw [List.length_map] at h1
            omega
          have HLK := Lib.hid hlk
          rw [keyV_kV] at hrun hent2
          obtain ⟨k, hk⟩ : ∃ z, kT f = z := ⟨_, rfl⟩
          have HK := Lib.hid hk
          rw [hk] at hrun hent2
          obtain ⟨x0, x1, x2⟩ := k
          have hkv : kV (x0, x1, x2) = .agg #[.int .i64 x0, .int .i64 x1, .int .i64 x2] := rfl
          rw [hkv] at hrun hent2
          obtain ⟨cf, hcf⟩ : ∃ z, f.cells = z := ⟨_, rfl⟩
          rw [hcf] at hrun hent2
          obtain ⟨N, hN⟩ : ∃ z, W2.heap.size = z := ⟨_, rfl⟩
          obtain ⟨W3, hW3⟩ : ∃ z, W2.alloc (.cells #[.int .i64 x0, .int .i64 x1, .int .i64 x2] 48) = z := ⟨_, rfl⟩
          have HM3 : Hid (RowAt W3 N 48 #[.int .i64 x0, .int .i64 x1, .int .i64 x2]) := Lib.hid (by rw [← hW3, ← hN]; exact RowAt.new _ _ _)
          have h30 : W3.cell? ⟨N, 0, none⟩ = some (.int .i64 x0) := by rw [HM3.out.cell]; rfl
          have h31 : W3.cell? ⟨N, 1, none⟩ = some (.int .i64 x1) := by rw [HM3.out.cell]; rfl
          have h32 : W3.cell? ⟨N, 2, none⟩ = some (.int .i64 x2) := by rw [HM3.out.cell]; rfl
          have HB3 : Hid (Below W2.heap.size W2 W3) := Lib.hid (by rw [← hW3]; exact (Below.refl _ _).alloc (Nat.le_refl _) _)
          have HO3 := Lib.hid (OwnK.below HOW.out HB3.out)
          have hs3 : R + 1 ≤ W3.heap.size := by have := HB3.out.size; omega
          have HS3 := Lib.hid hs3
          have HS2B := Lib.hid (show R + 1 ≤ W2.heap.size by omega)
          clear hs3 hk hcf hent hrng hvl hb2 hs2 hk2 hsz hown hbe hlk hfm hkv
          go_wp2_with (first | ((with_reducible refine build_key (o := ⟨some 53, _, _, _, _, _⟩) (.tmp 52) (x0, x1, x2) ?_ ?_ ?_ ?_); rfl; rfl; rfl) | ((with_reducible refine append_key (o := ⟨some 54, _, _, _, _, _⟩) (.tmp 51) (.tmp 53) (R + 1) ks (x0, x1, x2) W3.heap.size u9 (OwnK.below HO3.out ((Below.refl _ _).alloc (Nat.le_refl _) _)) HLK.out ?_ (key_new _ _ _) ?_ ?_ ?_ ?_ ?_); (have := HS3.out; simp; omega); rfl; rfl; rfl; rfl; intro v' W5 hown' hbl _))
          go_roundw
          case rel =>
            have hb5 : Below (R + 1) W2 W5 := (HB3.out.mono HS2B.out).trans (((Below.refl _ _).alloc HS3.out _).trans hbl)
            refine ⟨ks ++ [(x0, x1, x2)], Lib.hid ⟨?_, ?_, ?_, ?_⟩⟩
            · rw [HR.out]; exact hown'
            · have h := HRN.out
              rw [keyV_kV, HK.out] at h
              rw [HR.out, List.map_append]
              exact h.kept (hb5.block _ (by omega)) (hb5.block _ (by omega))
            · rw [HR.out]; exact HBE.out.trans (hb5.mono (by omega))
            · rw [HR.out]; have := hb5.size; have := HS2B.out; omega
          case measure =>
            have h1 := HLEN.out
            have h2 := OwnK.len hown'
            have h3 : (ks.map kV).length < (bestL l).length := HVL.out
            rw [List.length_map] at h3
            rw [h1, h2, List.length_append]
            simp
            omega
        · rw [HR.out] at hrun
          have hp2 : ks.Perm ((bestL l).map kT) := perm_keys hperm
          have HP := Lib.hid hp2
          clear hperm hp2
          have hown := HS2.out.own
          have hlk : ks.length ≤ 1000000 := by
            have h1 := HP.out.length_eq
            have h2 : (bestL l).length ≤ j := by obtain ⟨_, _, _, _, _, h, _⟩ := HRG.out.1.map; rw [HTK.out] at h; exact h
            rw [List.length_map] at h1
            omega
          have HSRT := Lib.hid (sort_any _ _ _ _ hown hlk)
          have HLK := Lib.hid hlk
          clear hown hlk
          go_wp2_with fail
          clear hrun
          refine HSRT.out.mono ?_
          rintro e W6 ⟨rfl, ks', hp6, hs6, hown6, hg6⟩
          have H6 : Hid (ks'.Perm ((bestL l).map kT) ∧ ks'.Pairwise (fun a b => ¬ kLt b a) ∧ OwnK W6 (R + 1) u9 ks' ∧ Of1 w (.slice A j c) l j W6 ∧ ks'.length ≤ 1000000) := Lib.hid (by
            have h1 := HS2.out.below
            rw [HR.out] at h1
            rw [HR.out] at hown6
            have h2 : Below R wr W6 := (Below.refl _ _).grown hg6 (by have := HS2.out.size; rw [HR.out] at this; omega) (fun k hk => by have := (HS2.out.own.lt k hk).1; rw [HR.out] at this; omega)
            refine ⟨hp6.trans HP.out, hs6, hown6, HL.out.more ?_, by rw [hp6.length_eq]; exact HLK.out⟩
            rw [HR.out]
            exact h1.trans h2)
          have HG6 : Hid (wr.heap.size ≤ W6.heap.size) := Lib.hid hg6.size
          clear hp6 hs6 hown6 hg6
          obtain ⟨bb, hbb⟩ : ∃ z, W6.heap.size = z := ⟨_, rfl⟩
          obtain ⟨i1, i2, i3, i4, i5, i6, i7, i8, i9, i10, q1, q2, q3, q4, q5, q6, q7, q8, q9, q10, hin, hbi⟩ := into_chain (W6.alloc (.cells #[.slice none 0 0, .slice none 0 0, .slice none 0 0, .slice none 0 0, .slice none 0 0, .slice none 0 0, .slice none 0 0, .slice none 0 0, .slice none 0 0, .slice none 0 0] 27)) (bb + 1) bb (by simp [hbb])
          have HBB := Lib.hid hbb
          have hRb : R + 1 ≤ bb := by
            have h1 := H6.out.2.2.2.1.below.size
            have h2 := HS2.out.size
            rw [HR.out] at h2
            have h3 := HG6.out
            omega
          have hsw := H6.out.2.2.2.1.lt
          have HIN0 : Hid (Of3 w wo (.slice A j c) l j R (bb + 1) bb u9 ks' 0 #[.slice none 0 0, .slice none 0 0, .slice none 0 0, .slice none 0 0, .slice none 0 0, .slice none 0 0, .slice none 0 0, .slice none 0 0, .slice none 0 0, .slice none 0 0] [] i10) := Lib.hid (by
            have b0 : Below W6.heap.size W6 (W6.alloc (.cells #[.slice none 0 0, .slice none 0 0, .slice none 0 0, .slice none 0 0, .slice none 0 0, .slice none 0 0, .slice none 0 0, .slice none 0 0, .slice none 0 0, .slice none 0 0] 27)) := (Below.refl _ _).alloc (Nat.le_refl _) _
            have hx1 : W6.heap.size + 1 = (W6.alloc (.cells #[.slice none 0 0, .slice none 0 0, .slice none 0 0, .slice none 0 0, .slice none 0 0, .slice none 0 0, .slice none 0 0, .slice none 0 0, .slice none 0 0, .slice none 0 0] 27)).heap.size := by simp
            have b1 : Below W6.heap.size W6 i10 := b0.trans (hbi.mono (by simp))
            have hrow : RowAt (W6.alloc (.cells #[.slice none 0 0, .slice none 0 0, .slice none 0 0, .slice none 0 0, .slice none 0 0, .slice none 0 0, .slice none 0 0, .slice none 0 0, .slice none 0 0, .slice none 0 0] 27)) bb 27 #[.slice none 0 0, .slice none 0 0, .slice none 0 0, .slice none 0 0, .slice none 0 0, .slice none 0 0, .slice none 0 0, .slice none 0 0, .slice none 0 0, .slice none 0 0] := by rw [← hbb]; exact RowAt.new _ _ _
            refine ⟨H6.out.2.2.1.below b1, H6.out.2.2.2.1.map.kept (b1.block _ H6.out.2.2.2.1.map.lt) |> fun h => by rw [HTK.out] at h; exact h, hin, hrow.below hbi hrow.lt, Lists.start _ _, ⟨_, H6.out.2.2.2.1.zb.below b1 H6.out.2.2.2.1.zb.lt, rfl⟩, H6.out.2.2.2.1.below.trans (b1.mono H6.out.2.2.2.1.below.size), rfl, by simp, by have := hin.lt; omega⟩)
          obtain ⟨A9, c9, rfl⟩ := H6.out.2.2.1.sl
          obtain ⟨m9, hm9⟩ : ∃ z, ks'.length = z := ⟨_, rfl⟩
          have HM9 := Lib.hid hm9
          rw [hm9] at HIN0 ⊢
          have hm9b : m9 ≤ 1000000 := by rw [← hm9]; exact H6.out.2.2.2.2
          clear hm9 hin hbi hsw
          go_wp2_with fail
          clear q1 q2 q3 q4 q5 q6 q7 q8 q9 q10 hbb
          go_loopw [71] (fun v71 wx => ∃ (i : Nat) (bs : Array Value) (fs : List FactV), v71 = .int .i64 i ∧ i ≤ m9 ∧ Hid (Of3 w wo (.slice A j c) l j R (bb + 1) bb (.slice A9 m9 c9) ks' i bs fs wx)) (fun v71 _ => m9 - (RowKit.intOf v71).toNat)
          case atStart => exact ⟨0, _, _, rfl, by omega, HIN0⟩
          case round =>
            obtain ⟨i, bs, fs, rfl, hi, HS3⟩ := hrel
            by_cases hi2 : i < m9
            · have hid : decide (i < m9) = true := by simpa using hi2
              obtain ⟨k, hk⟩ : ∃ x, ks'[i]? = some x := ⟨_, List.getElem?_eq_getElem (by have := HM9.out; omega)⟩
              obtain ⟨g, hA9, e0, e1, e2⟩ := HS3.out.keys.at hk
              subst hA9
              obtain ⟨f, hfm, hfk⟩ : ∃ f ∈ bestL l, kT f = k := by
                have h1 : k ∈ (bestL l).map kT := H6.out.1.mem_iff.1 (List.mem_of_getElem? hk)
                obtain ⟨f, h2, h3⟩ := List.mem_map.1 h1
                exact ⟨f, h2, h3⟩
              obtain ⟨q, hq, hfq⟩ := valid_kind (bestL_valid l f hfm)
              have hfo : FactOk f := by
                obtain ⟨_, _, _, _, _, _, h⟩ := HS3.out.map
                exact h f hfm
              have HF := Lib.hid (And.intro hk (And.intro hfm (And.intro hfk (And.intro hq hfq))))
              obtain ⟨x0, x1, x2⟩ := k
              dsimp only at e0 e1 e2
              obtain ⟨W1, hW1⟩ : ∃ z, wr.alloc (.cells #[.int .i64 x0, .int .i64 x1, .int .i64 x2] 48) = z := ⟨_, rfl⟩
              obtain ⟨N, hN⟩ : ∃ z, wr.heap.size = z := ⟨_, rfl⟩
              have HM1 : Hid (RowAt W1 N 48 #[.int .i64 x0, .int .i64 x1, .int .i64 x2]) := Lib.hid (by rw [← hW1, ← hN]; exact RowAt.new _ _ _)
              have h10 : W1.cell? ⟨N, 0, none⟩ = some (.int .i64 x0) := by rw [HM1.out.cell]; rfl
              have h11 : W1.cell? ⟨N, 1, none⟩ = some (.int .i64 x1) := by rw [HM1.out.cell]; rfl
              have h12 : W1.cell? ⟨N, 2, none⟩ = some (.int .i64 x2) := by rw [HM1.out.cell]; rfl
              have HB1 : Hid (Below wr.heap.size wr W1) := Lib.hid (by rw [← hW1]; exact (Below.refl _ _).alloc (Nat.le_refl _) _)
              have HO1 := Lib.hid (HS3.out.more HB1.out)
              have hkv : keyV f = .agg #[.int .i64 x0, .int .i64 x1, .int .i64 x2] := by rw [keyV_kV, hfk]; rfl
              have hlk : (Instr.lookup TM (.map (some (w.heap.size + 1))) (keyV f) false).run Tryz.prog W1 = .ok (.agg f.cells) W1 := by
                rcases HO1.out.map.look (keyV f) (keyV_ok hfo) false with ⟨hno, _⟩ | ⟨g2, hgm, hgk, hlk⟩
                · exact absurd rfl (hno f hfm)
                · have h1 := find_key HO1.out.map.keys_nodup hgm hgk
                  have h2 := find_key HO1.out.map.keys_nodup hfm rfl
                  rw [h1] at h2
                  cases h2
                  exact hlk
              rw [hkv] at hlk
              have HONE : Hid (f.cells.all (·.oneCell') = true) := Lib.hid (one_cells f)
              have HCS : Hid ((Tryz.prog.info? 34).map (·.size) = some f.cells.size) := Lib.hid fact_size
              have h18 : Hid (f.cells.size = 18) := Lib.hid rfl
              have HC0 : Hid (f.cells[0]? = some (.int .i64 (f.n 0))) := Lib.hid rfl
              obtain ⟨cf, hcf⟩ : ∃ z, f.cells = z := ⟨_, rfl⟩
              have HCF := Lib.hid hcf
              rw [hcf] at hlk HONE HCS h18 HC0
              have HZS : Hid ((#[Value.int .i64 0, .int .i64 0, .int .i64 0, .int .i64 0, .int .i64 0, .int .i64 0, .int .i64 0, .int .i64 0, .int .i64 0, .int .i64 0, .int .i64 0, .int .i64 0, .int .i64 0, .int .i64 0, .int .i64 0, .int .i64 0, .int .i64 0, .string ⟨#[]⟩] : Array Value).size = cf.size) := Lib.hid (by rw [h18.out]; rfl)
              obtain ⟨fb, hfb⟩ : ∃ z, W1.heap.size = z := ⟨_, rfl⟩
              have HFB := Lib.hid hfb
              obtain ⟨X, hX⟩ : ∃ z, W1.alloc (.cells cf 34) = z := ⟨_, rfl⟩
              have HFX : Hid (RowAt X fb 34 cf) := Lib.hid (by rw [← hX, ← hfb]; exact RowAt.new _ _ _)
              have HB1b : Hid (Below W1.heap.size W1 X) := Lib.hid (by rw [← hX]; exact (Below.refl _ _).alloc (Nat.le_refl _) _)
              have HX := Lib.hid (HO1.out.more HB1b.out)
              obtain ⟨kk, hkk⟩ : ∃ z : Nat, q + 1 = z := ⟨_, rfl⟩
              have HC0 : Hid (cf[0]? = some (.int .i64 (kk : Int))) := Lib.hid (by rw [HC0.out, hfq, ← hkk]; rfl)
              have HIL : Hid (∀ W, IntoAt W (bb + 1) bb → (Instr.lookup TI (.map (some (bb + 1))) (.int .i64 (kk : Int)) false).run Tryz.prog W = .ok (.pointer (some ⟨bb, q, none⟩)) W) := Lib.hid (fun W h => by have h1 := into_look h kk (by omega) (by omega); rw [← hkk] at h1 ⊢; exact h1)
              obtain ⟨v, hbq, how0⟩ := HS3.out.lists.own q hq
              have how : OwnF X (bb + 1 + 1) v (fs.filter (kindF q)) := how0.below (HB1.out.trans (HB1b.out.mono HB1.out.size))
              have HV0 := Lib.hid how0
              have HBQ := Lib.hid hbq
              have HOX := Lib.hid how
              have hcx : X.cell? ⟨bb, q, none⟩ = some v := by rw [HX.out.row.cell]; exact hbq
              clear hk hfm hfk hq hfq hfo hkv hcf hkk hbq how how0
              go_wp2_with (first | ((with_reducible refine store_cs (o := ⟨none, _, _, _, _, _⟩) (.tmp 15) (.tmp 77) fb HFB.out _ cf HCS.out HONE.out HZS.out ?_ ?_ ?_ ?_ ?_); rfl; rfl; rfl; rfl))
              rw [hX]
              clear hW1 hX hlk e0 e1 e2 h10 h11 h12
              refine wp_region_held_drew (S := fun W => IntoAt W (bb + 1) bb ∧ ∀ j2 x, cf[j2]? = some x → W.cell? ⟨fb, 0 + j2, none⟩ = some x) (by kernel_rfl) ⟨HX.out.into, fun j2 x hx => by rw [Nat.zero_add]; exact ((HFX.out.drew).cell j2).trans hx⟩ (fun hHeld => ?_)
              refine wpAnyH_take (i := 0) (oi := ⟨_, _, _, _, _, _⟩) (v := ?_) rfl (by kernel_rfl) (by kernel_rfl) (by kernel_rfl) (fun _ _ _ h => h) (Or.inl ⟨by rfl, ?_⟩) (by assumption) ?_
              rotate_left
              · intro w hSw
                go_simp
                all_goals with_reducible rfl
              simp only [Act.put, List.setIfInBounds_toArray, List.set_cons_zero, List.set_cons_succ]
              refine wpAnyH_take (i := 1) (oi := ⟨_, _, _, _, _, _⟩) (v := ?_) rfl (by kernel_rfl) (by kernel_rfl) (by kernel_rfl) (fun _ _ _ h => h) (Or.inl ⟨by rfl, ?_⟩) (by assumption) ?_
              rotate_left
              · intro w hSw
                go_simp
                all_goals with_reducible rfl
              simp only [Act.put, List.setIfInBounds_toArray, List.set_cons_zero, List.set_cons_succ]
              refine wpAnyH_take (i := 4) (oi := ⟨_, _, _, _, _, _⟩) (v := ?_) rfl (by kernel_rfl) (by kernel_rfl) (by kernel_rfl) (fun _ _ _ h => h) (Or.inl ⟨by rfl, ?_⟩) (by assumption) ?_
              rotate_left
              · intro w hSw
                go_simp
                all_goals with_reducible rfl
              simp only [Act.put, List.setIfInBounds_toArray, List.set_cons_zero, List.set_cons_succ]
              refine wpAnyH_take (i := 5) (oi := ⟨_, _, _, _, _, _⟩) (v := ?_) rfl (by kernel_rfl) (by kernel_rfl) (by kernel_rfl) (fun _ _ _ h => h) (Or.inl ⟨by rfl, ?_⟩) (by assumption) ?_
              rotate_left
              · intro w hSw
                go_simp
                all_goals with_reducible rfl
              simp only [Act.put, List.setIfInBounds_toArray, List.set_cons_zero, List.set_cons_succ]
              refine wpAnyH_take (i := 2) (oi := ⟨_, _, _, _, _, _⟩) (v := ?_) rfl (by kernel_rfl) (by kernel_rfl) (by kernel_rfl) (fun _ _ _ h => h) (Or.inl ⟨by rfl, ?_⟩) (by assumption) ?_
              rotate_left
              · intro w hSw
                have hc0 : w.cell? ⟨fb, 0, none⟩ = some (.int .i64 (kk : Int)) := hSw.2 0 _ HC0.out
                go_simp
                all_goals with_reducible rfl
              simp only [Act.put, List.setIfInBounds_toArray, List.set_cons_zero, List.set_cons_succ]
              refine wpAnyH_take (i := 6) (oi := ⟨_, _, _, _, _, _⟩) (v := ?_) rfl (by kernel_rfl) (by kernel_rfl) (by kernel_rfl) (fun _ _ _ h => h) (Or.inl ⟨by rfl, ?_⟩) (by assumption) ?_
              rotate_left
              · intro w hSw
                have hc0 : w.cell? ⟨fb, 0, none⟩ = some (.int .i64 (kk : Int)) := hSw.2 0 _ HC0.out
                go_simp
                all_goals with_reducible rfl
              simp only [Act.put, List.setIfInBounds_toArray, List.set_cons_zero, List.set_cons_succ]
              refine wpAnyH_take (i := 3) (oi := ⟨_, _, _, _, _, _⟩) (v := ?_) rfl (by kernel_rfl) (by kernel_rfl) (by kernel_rfl) (fun _ _ _ h => h) (Or.inl ⟨by rfl, ?_⟩) (by assumption) ?_
              rotate_left
              · intro w hSw
                have hil := HIL.out w hSw.1
                go_simp
                all_goals with_reducible rfl
              simp only [Act.put, List.setIfInBounds_toArray, List.set_cons_zero, List.set_cons_succ]
              refine wpAnyH_take (i := 7) (oi := ⟨_, _, _, _, _, _⟩) (v := ?_) rfl (by kernel_rfl) (by kernel_rfl) (by kernel_rfl) (fun _ _ _ h => h) (Or.inl ⟨by rfl, ?_⟩) (by assumption) ?_
              rotate_left
              · intro w hSw
                have hil := HIL.out w hSw.1
                go_simp
                all_goals with_reducible rfl
              simp only [Act.put, List.setIfInBounds_toArray, List.set_cons_zero, List.set_cons_succ]
              refine wpAnyH_take (i := 8) (oi := ⟨_, _, _, _, _, _⟩) (v := ?_) rfl (by kernel_rfl) (by kernel_rfl) (by kernel_rfl) (fun _ _ _ h => h) (Or.inl ⟨by rfl, ?_⟩) (by assumption) ?_
              rotate_left
              · intro w hSw
                go_simp
                all_goals with_reducible rfl
              simp only [Act.put, List.setIfInBounds_toArray, List.set_cons_zero, List.set_cons_succ]
              refine wpAnyH_take (i := 10) (oi := ⟨_, _, _, _, _, _⟩) rfl (by kernel_rfl) (by kernel_rfl) (by kernel_rfl) (fun _ _ _ h => h) (yields_at 34 (.tmp 15) fb 0 cf _ (fun w h => h.2) Tryz.underlying34 (by rfl) rfl rfl rfl HCS.out) (by assumption) ?_
              simp only [Act.put, List.setIfInBounds_toArray, List.set_cons_zero, List.set_cons_succ]

              have HX2 : Hid (Below (bb + 1 + 1) X (X.drew.alloc (.cells cf 34))) := Lib.hid ((Below.refl (bb + 1 + 1) X).drew.alloc HX.out.size _)
              have HXA : Hid (Below X.heap.size X (X.drew.alloc (.cells cf 34))) := Lib.hid ((Below.refl X.heap.size X).drew.alloc (Nat.le_refl _) _)
              have HNW : Hid (∀ (j2 : Nat) u, f.cells.toList[j2]? = some u → (X.drew.alloc (.cells cf 34)).cell? ((⟨X.drew.heap.size, 0, none⟩ : Addr).add j2) = some u) := Lib.hid (by rw [← HCF.out]; exact fact_new X.drew f _)
              have HOW : Hid (OwnF (X.drew.alloc (.cells cf 34)) (bb + 1 + 1) v (fs.filter (kindF q))) := Lib.hid (HOX.out.below HXA.out)
              have HLN : Hid ((fs.filter (kindF q)).length ≤ 1000000) := Lib.hid (by
                have h1 := List.length_filter_le (kindF q) fs
                have h2 := congrArg List.length HS3.out.done
                rw [List.length_map, List.length_take] at h2
                have h3 := H6.out.2.2.2.2
                omega)
              have HSZ2 : Hid (bb + 1 + 1 ≤ (X.drew.alloc (.cells cf 34)).heap.size) := Lib.hid (Nat.le_trans HX.out.size HXA.out.size)
              have HFR2 : Hid (RowAt (X.drew.alloc (.cells cf 34)) fb 34 cf) := Lib.hid (HFX.out.drew.alloc _)
              have HFB2 : Hid (fb < (X.drew.alloc (.cells cf 34)).heap.size) := Lib.hid HFR2.out.lt
              have HFBN : Hid (v.ownBlock ≠ some fb) := Lib.hid (fun e => by
                have h1 := (own_lt HV0.out e).2
                have h2 := HB1.out.size
                have h3 := HFB.out
                omega)
              have HFBB : Hid (bb < fb) := Lib.hid (by have := HO1.out.row.lt; have := HFB.out; omega)
              refine wpAnyH_ready (rs := [9, 11]) (by kernel_rfl) (by simp) ?_
              refine AllReadyH.cons (o := ⟨_, _, _, _, _, _⟩) rfl (fun K hK => ?_) ?_
              rotate_left
              · refine AllReadyH.cons (o := ⟨_, _, _, _, _, _⟩) rfl (fun K hK => ?_) AllReadyH.nil
                rw [if_pos (by rfl)]
                refine wp_build_fact (.tmp 88) cf f HCF.out rfl rfl ?_
                refine hK.out _ _ ⟨HX.out.into.kept (HXA.out.block _ (by have := HX.out.into.lt; omega)), fun j2 x hx => by rw [Nat.zero_add]; exact (((HFX.out.drew).alloc _).cell j2).trans hx⟩ (fun _ => ?_)
                clear hK K
                try simp only [Act.put, List.setIfInBounds_toArray, List.set_cons_zero, List.set_cons_succ]
                refine wpAnyH_ready (rs := [9]) (by kernel_rfl) (by simp) ?_
                refine AllReadyH.cons (o := ⟨_, _, _, _, _, _⟩) rfl (fun K hK => ?_) AllReadyH.nil
                have hcx2 : (X.alloc (.cells cf 34)).cell? ⟨bb, q, none⟩ = some v := by rw [(HX.out.row.alloc _).cell]; exact HBQ.out
                go_simp
                refine hK.out _ _ ⟨HX.out.into.kept (HXA.out.block _ (by have := HX.out.into.lt; omega)), fun j2 x hx => by rw [Nat.zero_add]; exact (((HFX.out.drew).alloc _).cell j2).trans hx⟩ (fun _ => ?_)
                clear hK K
                try simp only [Act.put, List.setIfInBounds_toArray, List.set_cons_zero, List.set_cons_succ]
                refine wpAnyH_ready (rs := [12]) (by kernel_rfl) (by simp) ?_
                refine AllReadyH.cons (o := ⟨_, _, _, _, _, _⟩) rfl (fun K hK => ?_) AllReadyH.nil
                rw [if_pos (by rfl)]
                refine wp_append_fact (.tmp 87) (.tmp 89) (bb + 1 + 1) (fs.filter (kindF q)) f X.drew.heap.size v HOW.out HLN.out HSZ2.out HNW.out rfl rfl rfl (fun v' w5 hown' hg5 hob => ?_)
                obtain ⟨A5, n5, c5, rfl⟩ := own_slice hown'
                have HA5 := Lib.hid (And.intro hown' (And.intro hg5 hob))
                clear hown' hg5 hob
                have HS5 : Hid (IntoAt w5 (bb + 1) bb ∧ (∀ j2 x, cf[j2]? = some x → w5.cell? ⟨fb, 0 + j2, none⟩ = some x) ∧ RowAt w5 bb 27 bs ∧ Below (bb + 1 + 1) X w5) := Lib.hid (by
                  have hbx : Below (bb + 1 + 1) X w5 := HX2.out.grown HA5.out.2.1 HSZ2.out (fun k hk => (HOW.out.lt k hk).1)
                  have hne : ∀ k, v.ownBlock = some k → k < X.heap.size := fun k hk => (HOX.out.lt k hk).2
                  refine ⟨HX.out.into.kept (hbx.block _ (by omega)), fun j2 x hx => ?_, HX.out.row.below hbx (by omega), hbx⟩
                  have h1 := HA5.out.2.1.block fb HFB2.out (fun e => HFBN.out e.symm)
                  rw [Nat.zero_add]
                  have h2 : RowAt w5 fb 34 cf := h1.trans HFR2.out
                  rw [h2.cell]
                  exact hx)
                refine hK.out _ _ ⟨HS5.out.1, HS5.out.2.1⟩ (fun _ => ?_)
                clear hK K
                try simp only [Act.put, List.setIfInBounds_toArray, List.set_cons_zero, List.set_cons_succ]
                refine wpAnyH_ready (rs := [13]) (by kernel_rfl) (by simp) ?_
                refine AllReadyH.cons (o := ⟨_, _, _, _, _, _⟩) rfl (fun K hK => ?_) AllReadyH.nil
                go_simp
                refine hK.out _ _ ⟨HS5.out.1, HS5.out.2.1⟩ (fun _ => ?_)
                clear hK K
                try simp only [Act.put, List.setIfInBounds_toArray, List.set_cons_zero, List.set_cons_succ]
                have hc5 : w5.cell? ⟨bb, q, none⟩ = some v := by rw [HS5.out.2.2.1.cell]; exact HBQ.out
                have hf5 : w5.frozen? ⟨bb, q, none⟩ = false := HS5.out.2.2.1.free q
                refine wpAnyH_ready (rs := [14]) (by kernel_rfl) (by simp) ?_
                refine AllReadyH.cons (o := ⟨_, _, _, _, _, _⟩) rfl (fun K hK => ?_) AllReadyH.nil
                go_simp
                refine hK.out _ _ ⟨HS5.out.1.kept (Below.heap_setCell w5 ⟨bb, q, none⟩ (.slice A5 n5 c5) _ (by show bb + 1 ≠ bb; omega)), fun j2 x hx => by
                  have h1 := HS5.out.2.1 j2 x hx
                  have h2 : (⟨bb, q, none⟩ : Addr) ≠ ⟨fb, 0 + j2, none⟩ := fun e => by have h3 := congrArg Addr.block e; simp at h3; have := HFBB.out; omega
                  rw [World.cell?_setCell_other _ _ _ _ h2]
                  exact h1⟩ (fun _ => ?_)
                clear hK K
                try simp only [Act.put, List.setIfInBounds_toArray, List.set_cons_zero, List.set_cons_succ]
                refine wpAnyH_done (by kernel_rfl) ?_ _
                go_wp2_with fail
                go_roundw
                case rel =>
                  have hbx := HS5.out.2.2.2
                  have hfar : ∀ k, k ≠ bb → (w5.setCell ⟨bb, q, none⟩ (.slice A5 n5 c5)).heap[k]? = w5.heap[k]? := fun k hk => Below.heap_setCell w5 ⟨bb, q, none⟩ (.slice A5 n5 c5) k hk
                  have hlt0 := HX.out.map.lt
                  obtain ⟨z, hz1, hz2⟩ := HX.out.zb
                  have hko : OwnK w5 (R + 1) (.slice (some ⟨g, 0, none⟩) m9 c9) ks' := World.ownsRow.kept (HX.out.keys.below HXA.out) HA5.out.2.1 (own_apart (HX.out.keys.below HXA.out) HOW.out (by decide))
                  refine ⟨i + 1, bs.setIfInBounds q (.slice A5 n5 c5), fs ++ [f], by go_num, by omega, Lib.hid ⟨?_, ?_, ?_, ?_, ?_, ⟨z, ?_, hz2⟩, ?_, ?_, ?_, ?_⟩⟩
                  · exact owns_far hko HS5.out.2.2.1 (by decide) (.slice A5 n5 c5)
                  · exact HX.out.map.kept ((hfar _ (by omega)).trans (hbx.block _ (by omega)))
                  · exact HS5.out.1.kept (hfar _ (by omega))
                  · exact HS5.out.2.2.1.set q (.slice A5 n5 c5)
                  · exact ((HX.out.lists.below HXA.out).put HF.out.2.2.2.1 HF.out.2.2.2.2 HBQ.out HA5.out.1 HA5.out.2.1 HA5.out.2.2).other (fun k hk _ => hfar k (by omega))
                  · exact ((hfar _ (by omega)).trans (hbx.block _ (by omega))).trans hz1
                  · exact (HX.out.below.trans (hbx.mono (by omega))).setCell (by show w.heap.size ≤ bb; omega) _
                  · rw [List.map_append, HX.out.done, List.take_add_one, HF.out.1, ← HF.out.2.2.1]; rfl
                  · intro x hx
                    rcases List.mem_append.1 hx with h | h
                    · exact HX.out.best x h
                    · rw [List.mem_singleton.1 h]; exact HF.out.2.1
                  · have h1 := HX.out.size
                    have h2 := hbx.size
                    have h3 : (w5.setCell ⟨bb, q, none⟩ (.slice A5 n5 c5)).heap.size = w5.heap.size := by simp [World.setCell]
                    omega
                case measure => simp [RowKit.intOf]; omega

              · go_simp
                refine hK.out _ _ ⟨HX.out.into, fun j2 x hx => by rw [Nat.zero_add]; exact ((HFX.out.drew).cell j2).trans hx⟩ (fun _ => ?_)
                clear hK K
                try simp only [Act.put, List.setIfInBounds_toArray, List.set_cons_zero, List.set_cons_succ]
                refine wpAnyH_ready (rs := [11]) (by kernel_rfl) (by simp) ?_
                refine AllReadyH.cons (o := ⟨_, _, _, _, _, _⟩) rfl (fun K hK => ?_) AllReadyH.nil
                rw [if_pos (by rfl)]
                refine wp_build_fact (.tmp 88) cf f HCF.out rfl rfl ?_
                refine hK.out _ _ ⟨HX.out.into.kept (HXA.out.block _ (by have := HX.out.into.lt; omega)), fun j2 x hx => by rw [Nat.zero_add]; exact (((HFX.out.drew).alloc _).cell j2).trans hx⟩ (fun _ => ?_)
                clear hK K
                try simp only [Act.put, List.setIfInBounds_toArray, List.set_cons_zero, List.set_cons_succ]
                refine wpAnyH_ready (rs := [12]) (by kernel_rfl) (by simp) ?_
                refine AllReadyH.cons (o := ⟨_, _, _, _, _, _⟩) rfl (fun K hK => ?_) AllReadyH.nil
                rw [if_pos (by rfl)]
                refine wp_append_fact (.tmp 87) (.tmp 89) (bb + 1 + 1) (fs.filter (kindF q)) f X.drew.heap.size v HOW.out HLN.out HSZ2.out HNW.out rfl rfl rfl (fun v' w5 hown' hg5 hob => ?_)
                obtain ⟨A5, n5, c5, rfl⟩ := own_slice hown'
                have HA5 := Lib.hid (And.intro hown' (And.intro hg5 hob))
                clear hown' hg5 hob
                have HS5 : Hid (IntoAt w5 (bb + 1) bb ∧ (∀ j2 x, cf[j2]? = some x → w5.cell? ⟨fb, 0 + j2, none⟩ = some x) ∧ RowAt w5 bb 27 bs ∧ Below (bb + 1 + 1) X w5) := Lib.hid (by
                  have hbx : Below (bb + 1 + 1) X w5 := HX2.out.grown HA5.out.2.1 HSZ2.out (fun k hk => (HOW.out.lt k hk).1)
                  have hne : ∀ k, v.ownBlock = some k → k < X.heap.size := fun k hk => (HOX.out.lt k hk).2
                  refine ⟨HX.out.into.kept (hbx.block _ (by omega)), fun j2 x hx => ?_, HX.out.row.below hbx (by omega), hbx⟩
                  have h1 := HA5.out.2.1.block fb HFB2.out (fun e => HFBN.out e.symm)
                  rw [Nat.zero_add]
                  have h2 : RowAt w5 fb 34 cf := h1.trans HFR2.out
                  rw [h2.cell]
                  exact hx)
                refine hK.out _ _ ⟨HS5.out.1, HS5.out.2.1⟩ (fun _ => ?_)
                clear hK K
                try simp only [Act.put, List.setIfInBounds_toArray, List.set_cons_zero, List.set_cons_succ]
                refine wpAnyH_ready (rs := [13]) (by kernel_rfl) (by simp) ?_
                refine AllReadyH.cons (o := ⟨_, _, _, _, _, _⟩) rfl (fun K hK => ?_) AllReadyH.nil
                go_simp
                refine hK.out _ _ ⟨HS5.out.1, HS5.out.2.1⟩ (fun _ => ?_)
                clear hK K
                try simp only [Act.put, List.setIfInBounds_toArray, List.set_cons_zero, List.set_cons_succ]
                have hc5 : w5.cell? ⟨bb, q, none⟩ = some v := by rw [HS5.out.2.2.1.cell]; exact HBQ.out
                have hf5 : w5.frozen? ⟨bb, q, none⟩ = false := HS5.out.2.2.1.free q
                refine wpAnyH_ready (rs := [14]) (by kernel_rfl) (by simp) ?_
                refine AllReadyH.cons (o := ⟨_, _, _, _, _, _⟩) rfl (fun K hK => ?_) AllReadyH.nil
                go_simp
                refine hK.out _ _ ⟨HS5.out.1.kept (Below.heap_setCell w5 ⟨bb, q, none⟩ (.slice A5 n5 c5) _ (by show bb + 1 ≠ bb; omega)), fun j2 x hx => by
                  have h1 := HS5.out.2.1 j2 x hx
                  have h2 : (⟨bb, q, none⟩ : Addr) ≠ ⟨fb, 0 + j2, none⟩ := fun e => by have h3 := congrArg Addr.block e; simp at h3; have := HFBB.out; omega
                  rw [World.cell?_setCell_other _ _ _ _ h2]
                  exact h1⟩ (fun _ => ?_)
                clear hK K
                try simp only [Act.put, List.setIfInBounds_toArray, List.set_cons_zero, List.set_cons_succ]
                refine wpAnyH_done (by kernel_rfl) ?_ _
                go_wp2_with fail
                go_roundw
                case rel =>
                  have hbx := HS5.out.2.2.2
                  have hfar : ∀ k, k ≠ bb → (w5.setCell ⟨bb, q, none⟩ (.slice A5 n5 c5)).heap[k]? = w5.heap[k]? := fun k hk => Below.heap_setCell w5 ⟨bb, q, none⟩ (.slice A5 n5 c5) k hk
                  have hlt0 := HX.out.map.lt
                  obtain ⟨z, hz1, hz2⟩ := HX.out.zb
                  have hko : OwnK w5 (R + 1) (.slice (some ⟨g, 0, none⟩) m9 c9) ks' := World.ownsRow.kept (HX.out.keys.below HXA.out) HA5.out.2.1 (own_apart (HX.out.keys.below HXA.out) HOW.out (by decide))
                  refine ⟨i + 1, bs.setIfInBounds q (.slice A5 n5 c5), fs ++ [f], by go_num, by omega, Lib.hid ⟨?_, ?_, ?_, ?_, ?_, ⟨z, ?_, hz2⟩, ?_, ?_, ?_, ?_⟩⟩
                  · exact owns_far hko HS5.out.2.2.1 (by decide) (.slice A5 n5 c5)
                  · exact HX.out.map.kept ((hfar _ (by omega)).trans (hbx.block _ (by omega)))
                  · exact HS5.out.1.kept (hfar _ (by omega))
                  · exact HS5.out.2.2.1.set q (.slice A5 n5 c5)
                  · exact ((HX.out.lists.below HXA.out).put HF.out.2.2.2.1 HF.out.2.2.2.2 HBQ.out HA5.out.1 HA5.out.2.1 HA5.out.2.2).other (fun k hk _ => hfar k (by omega))
                  · exact ((hfar _ (by omega)).trans (hbx.block _ (by omega))).trans hz1
                  · exact (HX.out.below.trans (hbx.mono (by omega))).setCell (by show w.heap.size ≤ bb; omega) _
                  · rw [List.map_append, HX.out.done, List.take_add_one, HF.out.1, ← HF.out.2.2.1]; rfl
                  · intro x hx
                    rcases List.mem_append.1 hx with h | h
                    · exact HX.out.best x h
                    · rw [List.mem_singleton.1 h]; exact HF.out.2.1
                  · have h1 := HX.out.size
                    have h2 := hbx.size
                    have h3 : (w5.setCell ⟨bb, q, none⟩ (.slice A5 n5 c5)).heap.size = w5.heap.size := by simp [World.setCell]
                    omega
                case measure => simp [RowKit.intOf]; omega

            · obtain rfl : i = m9 := by omega
              have hid : decide (i < i) = false := by simp
              have HDN : Hid (fs.map kT = ks') := Lib.hid (by rw [HS3.out.done]; exact List.take_of_length_le (by have := HM9.out; omega))
              obtain ⟨z, hz1, hz2⟩ := HS3.out.zb
              have HZ := Lib.hid (And.intro hz1 hz2)
              have hbs : (Tryz.prog.info? 27).map (·.size) = some bs.size := by rw [HS3.out.lists.size]; exact base_size
              have HBS := Lib.hid hbs
              have HLB : Hid (∀ j2 x, bs[j2]? = some x → wr.cell? ⟨bb, 0 + j2, none⟩ = some x) := Lib.hid (fun j2 x hx => by rw [Nat.zero_add, HS3.out.row.cell]; exact hx)
              have HOLD : Hid (z.size = bs.size) := Lib.hid (by rw [hz2, HS3.out.lists.size])
              have HONE9 := Lib.hid HS3.out.lists.one
              clear hz1 hz2 hbs
              go_wp2_with (first | ((with_reducible refine load_base (o := ⟨some 93, _, _, _, _, _⟩) (.tmp 11) bb bs HLB.out HBS.out ?_ ?_ ?_ ?_); rfl; rfl; rfl) | ((with_reducible refine store_base (o := ⟨none, _, _, _, _, _⟩) (.tmp 2) (.tmp 93) w.heap.size bs z HZ.out.1 HBS.out HOLD.out HONE9.out ?_ ?_ ?_ ?_ ?_); rfl; rfl; rfl; rfl))
              have hrow : RowAt (wr.setRow w.heap.size bs) w.heap.size 27 bs := setRow_at HZ.out.1
              refine bodyPost_ret (v := .agg bs) ?_ rfl ⟨bs, fs, rfl, ?_, ?_, ?_, ?_⟩
              · have hl := run_loadVar_at (P := Tryz.prog) _ w.heap.size 0 27 bs _ (fun j2 x hx => by rw [Nat.zero_add, hrow.cell]; exact hx) Tryz.underlying27 rfl HBS.out
                exact results_cell1 (p := 2) rfl _ _ _ _ rfl hl
              · exact HS3.out.lists.last bs (by have := HL.out.lt; have := HR.out; omega)
              · exact below_setR HS3.out.below (Nat.le_refl _)
              · exact perm_of_keys fs (bestL l) (nodup_kT HS3.out.map.keys_nodup) (by rw [HDN.out]; exact H6.out.1) HS3.out.best
              · exact strict_keys (by rw [HDN.out]; exact H6.out.2.1) (by rw [HDN.out]; exact H6.out.1.nodup_iff.2 (nodup_kT HS3.out.map.keys_nodup))
end Go.Proofs.YtgjajhopjcdflaaGreat
