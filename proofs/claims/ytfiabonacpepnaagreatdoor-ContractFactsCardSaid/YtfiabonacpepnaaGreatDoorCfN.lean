/- ContractFacts: the walk (printed by gen_cfn.py). -/
import Derived.Test.YtfiabonacpepnaaGreatDoorCfR
import Derived.Test.YtfiabonacpepnaaGreatDoorCtD
import Derived.Test.YtfiabonacpepnaaGreatDoorCtRt
import Derived.Test.YtfiabonacpepnaaGreatDoorCtF
import Derived.Test.YtfiabonacpepnaaGreatDoorCfD
import Derived.Test.YtfiabonacpepnaaGreatDoorCfZa
import Derived.Deep.Cut
import Derived.Deep.CutRange
import Derived.Deep.RegionHeld3
namespace Go.Proofs.YtfiabonacpepnaaGreatDoor
open Go Go.Lib

def begF (fr : List Int) (i : Nat) : Int := match fr[i]? with
  | some x => pickN x 6
  | none => 0
theorem begF_bd (fr : List Int) (i : Nat) : 0 ≤ begF fr i ∧ begF fr i ≤ 5 := by
  unfold begF
  cases fr[i]? with
  | none => simp
  | some x => have := pickN_bd x 6 (by decide); dsimp only; omega
/-- the contracts among the first lists: beginning, version, text -/
def itF (LL : Nat → List TermV) (fr : List Int) : Nat → List (Int × Int × List UInt8)
  | 0 => []
  | i + 1 => if goodL (fewT (LL i)) = true then itF LL fr i ++ [(begF fr i, 1 + (i : Int), printV (fewT (LL i)))] else itF LL fr i
/-- the terms that the law's loop wants behind the first lists -/
def wantF (LL : Nat → List TermV) (fr : List Int) (p : Int) : Nat → List TermV
  | 0 => []
  | i + 1 => if goodL (fewT (LL i)) = true ∧ begF fr i ≤ p ∧ (Fb.runW p (itF LL fr i)).1 ≤ begF fr i then fewT (LL i) else wantF LL fr p i
theorem print_len {l : List TermV} (h : goodL l = true) : (printV l).length ≤ 2000 := by
  unfold printV
  rw [if_pos h]
  have h1 := text_len ((good_iff l).1 h).2
  have h2 := ((good_iff l).1 h).1
  omega
theorem itF_bd (LL : Nat → List TermV) (fr : List Int) : ∀ k, k ≤ 5 → (∀ x ∈ itF LL fr k, Fb.GoodI x ∧ x.2.1 ≤ (k : Int)) ∧ (itF LL fr k).Pairwise (fun x y => x.2.1 < y.2.1) ∧ (itF LL fr k).length ≤ k
  | 0, _ => ⟨by simp [itF], by simp [itF], by simp [itF]⟩
  | k + 1, hk => by
    obtain ⟨h1, h2, h3⟩ := itF_bd LL fr k (by omega)
    have hb := begF_bd fr k
    unfold itF
    by_cases hg : goodL (fewT (LL k)) = true
    · rw [if_pos hg]
      refine ⟨fun x hx => ?_, ?_, by rw [List.length_append]; simp; omega⟩
      · rcases List.mem_append.1 hx with h | h
        · have := h1 x h; exact ⟨this.1, by have := this.2; omega⟩
        · rw [List.mem_singleton.1 h]
          exact ⟨⟨⟨hb.1, hb.2⟩, ⟨by dsimp only; omega, by dsimp only; omega⟩, print_len hg⟩, by dsimp only; omega⟩
      · rw [List.pairwise_append]
        refine ⟨h2, by simp, fun x hx y hy => ?_⟩
        rw [List.mem_singleton.1 hy]
        have := (h1 x hx).2
        dsimp only
        omega
    · rw [if_neg hg]
      exact ⟨fun x hx => ⟨(h1 x hx).1, by have := (h1 x hx).2; omega⟩, h2, by omega⟩
theorem wantF_law (LL : Nat → List TermV) (fr : List Int) (p : Int) : ∀ k, match (Fb.runW p (itF LL fr k)).2 with
    | none => wantF LL fr p k = []
    | some x => goodL (wantF LL fr p k) = true ∧ x.2.2 = printV (wantF LL fr p k)
  | 0 => rfl
  | k + 1 => by
    have ih := wantF_law LL fr p k
    unfold itF wantF
    by_cases hg : goodL (fewT (LL k)) = true
    · rw [if_pos hg, Fb.runW_snoc]
      unfold Fb.stepW
      by_cases hc : begF fr k ≤ p ∧ (Fb.runW p (itF LL fr k)).1 ≤ begF fr k
      · rw [if_pos hc, if_pos ⟨hg, hc.1, hc.2⟩]
        exact ⟨hg, rfl⟩
      · rw [if_neg hc, if_neg (fun h => hc ⟨h.2.1, h.2.2⟩)]
        exact ih
    · rw [if_neg hg, if_neg (fun h => hg h.1)]
      exact ih
/-- what is parsed of the contract in effect is what is wanted -/
theorem want_parse (LL : Nat → List TermV) (fr : List Int) (p : Int) (k : Nat) : parseV (((Fb.runW p (itF LL fr k)).2.map fun x => x.2.2).getD []) = (wantF LL fr p k, 0, true) := by
  have h := wantF_law LL fr p k
  cases e : (Fb.runW p (itF LL fr k)).2 with
  | none =>
    rw [e] at h
    rw [h]
    rfl
  | some x =>
    rw [e] at h
    obtain ⟨h1, h2⟩ := h
    show parseV x.2.2 = _
    rw [h2]
    exact round_trip h1
end Go.Proofs.YtfiabonacpepnaaGreatDoor
namespace Go.Proofs.YtfiabonacpepnaaGreatDoor
open Go Go.RowKit Go.Lib Go.Shelf Go.Maps

/-- the blocks that are not of facts stay -/
def FrF (w w' : World) : Prop := ∀ (k : Nat) (cur : Array Value) (t : TypeId) (fr : Nat × Nat), w.heap[k]? = some (.cells cur t fr) → t ≠ 47 → w'.heap[k]? = some (.cells cur t fr)
theorem FrF.trans {a b c : World} (h1 : FrF a b) (h2 : FrF b c) : FrF a c := fun k cur t fr h ht => h2 k cur t fr (h1 k cur t fr h ht) ht
theorem FrF.below {w w' : World} (h : Below w.heap.size w w') : FrF w w' := fun k _ _ _ hk _ => (h.block k (Array.getElem?_eq_some_iff.1 hk).1).trans hk
theorem FrF.own {w w' : World} {base : Nat} {v : Value} {l : List FactV} (h : w.grownBy w' v.ownBlock) (ho : Fb.OwnF w base v l) : FrF w w' := fun k cur t fr hk ht => by
  refine (h.block k (Array.getElem?_eq_some_iff.1 hk).1 (fun e => ?_)).trans hk
  rcases ho.2 with ⟨e0, _⟩ | ⟨g, cap, cur', e0, _, hg, _⟩
  · rw [e0] at e; cases e
  · rw [e0] at e
    simp [Value.ownBlock] at e
    subst e
    rw [hk] at hg
    injection hg with hg
    injection hg with _ h2
    exact ht h2
theorem FrF.set {w : World} {g : Nat} {old cs : Array Value} {fr : Nat × Nat} (h : w.heap[g]? = some (.cells old 47 fr)) : FrF w (w.setRow g cs) := fun k cur t f2 hk ht => by
  by_cases e : g = k
  · subst e
    rw [hk] at h
    injection h with h
    injection h with _ h2
    exact absurd h2 ht
  · rw [Fb.setRow_other e]; exact hk
/-- own terms of these values -/
def WantAt (w : World) (v : Value) (l : List TermV) : Prop := ∃ b L, L.map (·.1) = l ∧ OwnT w b v L
theorem WantAt.terms {w : World} {v : Value} {l : List TermV} (h : WantAt w v l) : TermsAt w v l := by
  obtain ⟨b, L, rfl, ho⟩ := h
  exact ho.terms
theorem WantAt.fr {w w' : World} {v : Value} {l : List TermV} (h : WantAt w v l) (hf : FrF w w') : WantAt w' v l := by
  obtain ⟨b, L, e, ho⟩ := h
  refine ⟨b, L, e, ⟨⟨ho.own.1, ?_⟩, fun p hp => ?_⟩⟩
  · rcases ho.own.2 with h0 | ⟨g, cap, cur, hv, hbg, hg, rest⟩
    · exact .inl h0
    · exact .inr ⟨g, cap, cur, hv, hbg, hf g cur _ _ hg (by decide), rest⟩
  · obtain ⟨h1, h2, h3⟩ := ho.acc p hp
    refine ⟨h1, h2, ?_⟩
    rcases h3 with h0 | ⟨g, cap, cur, hv, hbg, hg, rest⟩
    · exact .inl h0
    · exact .inr ⟨g, cap, cur, hv, hbg, hf g cur _ _ hg (by decide), rest⟩
theorem WantAt.below {w w' : World} {v : Value} {l : List TermV} (h : WantAt w v l) (hb : Below w.heap.size w w') : WantAt w' v l := h.fr (.below hb)
theorem append_factG {ops : Array Oper} {rest : List Oper} {o : Oper} {a : Act} {w : World} {Q : Exit → Act → World → Prop} (s x : Operand) (base : Nat) (L : List FactV) (f : FactV) (b : Nat) (v : Value) (hown : Fb.OwnF w base v L) (hlen : L.length ≤ 1000000) (hbase : base ≤ w.heap.size)
    (hnews : ∀ (j : Nat) u, f.cells.toList[j]? = some u → w.cell? ((⟨b, 0, none⟩ : Addr).add j) = some u)
    (hgd : o.guard = none) (ho : o.op = .call { callee := .builtin .append, args := #[s, x], argTypes := #[44, 44] })
    (hs : a.eval s = v) (hx : a.eval x = .slice (some ⟨b, 0, none⟩) 1 1)
    (h : ∀ v' w', Fb.OwnF w' base v' (L ++ [f]) → Below base w w' → FrF w w' → wpList Tryz.prog ops Q rest (a.put o.dst v') w') : wpList Tryz.prog ops Q (o :: rest) a w :=
  wpList_plain hgd fun _ hK => Fb.wp_append_fact s x base L f b v hown hlen hbase hnews ho hs hx (fun v' w' h1 h2 _ => hK _ _ (h v' w' h1 ((Below.refl _ _).grown h2 hbase (fun j e => (hown.lt j e).1)) (FrF.own h2 hown)))
theorem wp_store_inG {o : Oper} {a : Act} {w : World} {K : Act → World → Prop} {Q : Exit → Act → World → Prop} (x y : Operand) (g n c base i : Nat) (l : List FactV) (f : FactV) (cs : Array Value) (hcs : f.cells = cs) (hown : Fb.OwnF w base (.slice (some ⟨g, 0, none⟩) n c) l) (hi : i < l.length) (ho : o.op = .store 47 x y)
    (hx : a.eval x = .pointer (some ⟨g, i * 18, none⟩)) (hy : a.eval y = .agg cs)
    (h : ∀ w', Fb.OwnF w' base (.slice (some ⟨g, 0, none⟩) n c) (l.set i f) → Below base w w' → FrF w w' → K (a.put o.dst undef) w') : o.wp Tryz.prog a w K Q := by
  subst hcs
  obtain ⟨old, h1, h2, h3, h4⟩ := hown.set f hi
  unfold Oper.wp execOp
  simp only [ho, hx, hy, Instr.storeAt, Instr.sureAddr, Sem.run_bind, Sem.run_pure, Result.andThen_ok, Fb.run_storeVar_part w g (i * 18) _ _ old f.cells _ h1 Fb.fact_size h2 f.cells_one rfl]
  exact h _ h4 (Fb.below_setRow (Below.refl _ _) h3) (.set h1)
theorem app_end {W1 w6 wa X7 : World} {v1 v2 v7 : Value} {wn F : List TermV} {L : List FactV} (h1 : Below W1.heap.size W1 w6) (h2 : WantAt w6 v1 wn) (h3 : WantAt w6 v2 F) (ha : Below w6.heap.size w6 wa) (hown : Fb.OwnF X7 W1.heap.size v7 L) (hbl : Below W1.heap.size wa X7) (hfr : FrF wa X7) :
    Fb.OwnF X7 W1.heap.size v7 L ∧ Below W1.heap.size W1 X7 ∧ WantAt X7 v1 wn ∧ WantAt X7 v2 F :=
  ⟨hown, (h1.trans (ha.mono h1.size)).trans hbl, (h2.below ha).fr hfr, (h3.below ha).fr hfr⟩
end Go.Proofs.YtfiabonacpepnaaGreatDoor
namespace Go.Proofs.YtfiabonacpepnaaGreatDoor
open Go Go.RowKit Go.Lib Go.Shelf Go.Maps

abbrev z18f : Array Value := #[.int .i64 0, .int .i64 0, .int .i64 0, .int .i64 0, .int .i64 0, .int .i64 0, .int .i64 0, .int .i64 0, .int .i64 0, .int .i64 0, .int .i64 0, .int .i64 0, .int .i64 0, .int .i64 0, .int .i64 0, .int .i64 0, .int .i64 0, .string ⟨#[]⟩]
theorem few_accl (l : List TermV) : ∀ t ∈ fewT l, t.acc.length ≤ 1000000 := by
  intro t ht
  unfold fewT at ht
  obtain ⟨u, _, rfl⟩ := List.mem_map.1 ht
  unfold cutT
  dsimp only
  rw [List.length_take]
  omega
theorem want_ok (LL : Nat → List TermV) (fr : List Int) (p : Int) : ∀ k, (wantF LL fr p k).length ≤ 25 ∧ ∀ t ∈ wantF LL fr p k, t.acc.length ≤ 1000000
  | 0 => ⟨by simp [wantF], by simp [wantF]⟩
  | k + 1 => by
    unfold wantF
    split
    · exact ⟨few_len _, few_accl _⟩
    · exact want_ok LL fr p k
theorem cF_ok {x : Int × Int × List UInt8} (h : Fb.GoodI x) : Fb.FactOk (Fb.cF x) := by
  intro j
  obtain ⟨⟨h1, h2⟩, ⟨h3, h4⟩, _⟩ := h
  show -9223372036854775808 ≤ (if j = 0 then (4 : Int) else if j = 9 then 7 else if j = 11 then x.1 else if j = 2 then x.2.1 else 0) ∧ (if j = 0 then (4 : Int) else if j = 9 then 7 else if j = 11 then x.1 else if j = 2 then x.2.1 else 0) ≤ 9223372036854775807
  refine ⟨?_, ?_⟩ <;> (repeat' split) <;> omega
theorem cF_cells (b v : Int) (t : List UInt8) : (Fb.cF (b, v, t)).cells = #[.int .i64 4, .int .i64 0, .int .i64 v, .int .i64 0, .int .i64 0, .int .i64 0, .int .i64 0, .int .i64 0, .int .i64 0, .int .i64 7, .int .i64 0, .int .i64 b, .int .i64 0, .int .i64 0, .int .i64 0, .int .i64 0, .int .i64 0, .string ⟨t.toArray⟩] := by
  simp [Fb.cF, FactV.cells]
theorem text_get (o : Option (Int × Int × List UInt8)) : (((o.map Fb.cF).getD Fb.zf).cells)[17]? = some (strV ((o.map fun x => x.2.2).getD [])) := by
  cases o with
  | none => rfl
  | some x =>
    obtain ⟨b, v, t⟩ := x
    show (Fb.cF (b, v, t)).cells[17]? = _
    rw [cF_cells]
    rfl
theorem runW_next (p : Int) (its : List (Int × Int × List UInt8)) (x : Int × Int × List UInt8) : (Fb.runW p (its ++ [x])).1 = if x.1 ≤ p ∧ (Fb.runW p its).1 ≤ x.1 then x.1 else (Fb.runW p its).1 := by
  rw [Fb.runW_snoc]
  unfold Fb.stepW
  split <;> rfl
theorem begF_some {fr : List Int} {i : Nat} {y : Int} (h : fr[i]? = some y) : begF fr i = pickN y 6 := by unfold begF; rw [h]
theorem begF_none {fr : List Int} {i : Nat} (h : fr[i]? = none) : begF fr i = 0 := by unfold begF; rw [h]
set_option linter.unusedSimpArgs false in
set_option maxRecDepth 100000 in
set_option maxHeartbeats 40000000 in
theorem facts_yes (A : Option Addr) (n c : Nat) (LL : Nat → List TermV) (A2 : Option Addr) (c2 : Nat) (fr : List Int) (bk : Bool) (p : Int) (w : World) (hK : KAt w) (hL : ListsIn w (.slice A n c) n LL) (hn : n ≤ 140737488351232) (hI : IntsL w (.slice A2 fr.length c2) fr) (hfr : ∀ y ∈ fr, -9223372036854775808 ≤ y ∧ y ≤ 9223372036854775807) (hp1 : -9223372036854775808 ≤ p) (hp2 : p ≤ 9223372036854775807) :
    Calls Tryz.prog 11 #[.slice A n c, .slice A2 fr.length c2, .bool bk, .int .i64 p] w fun e w' => e = .returned (.bool true) ∧ Below w.heap.size w w' := by
  have er1 : errI true = 0 := rfl
  have er2 : errI false = 140 := rfl
  have HK := Lib.hid hK
  have HI := Lib.hid hI
  have HFR := Lib.hid hfr
  have HLS : Hid (∀ i, i < n → ∃ b o, A = some ⟨b, o, none⟩ ∧ b < w.heap.size ∧ ∃ A' c', w.cell? ⟨b, o + i, none⟩ = some (.slice A' (LL i).length c') ∧ TermsIn w (.slice A' (LL i).length c') (LL i) ∧ (LL i).length ≤ maxLen ∧ ∀ t ∈ LL i, t.acc.length ≤ maxLen ∧ ∀ x ∈ t.acc, -9223372036854775808 ≤ x ∧ x ≤ 9223372036854775807) := Lib.hid (by
    obtain ⟨A0, c0, e, h⟩ := hL
    cases e
    exact h)
  have hmax : maxLen = 9223372036854775807 := by decide
  have HMX := Lib.hid hmax
  obtain ⟨q0, hq0⟩ : ∃ z, pickN p 8 = z := ⟨_, rfl⟩
  have hqb := pickN_bd p 8 (by decide)
  rw [hq0] at hqb
  have PP := Lib.hid (fun W => pick_any p 8 W hp1 hp2 (by decide) (by decide))
  rw [hq0] at PP
  obtain ⟨P, hP⟩ : ∃ z, q0 - 1 = z := ⟨_, rfl⟩
  have HP := Lib.hid hP
  obtain ⟨n2, hn2⟩ : ∃ z, fr.length = z := ⟨_, rfl⟩
  have HN2 := Lib.hid hn2
  rw [hn2] at HI ⊢
  have hq1 := hqb.1
  have hq2 := hqb.2
  clear hK hL hI hfr hq0 hqb hP hn2 hmax
  go_enter Tryz.func11, Tryz.ntmps11
  go_wp2_with fail
  refine (sane_any w HK.out).mono ?_
  rintro e W1 ⟨rfl, hb1⟩
  have HB1 := Lib.hid hb1
  have HS1 := Lib.hid hb1.size
  clear hb1
  go_wp2_with fail
  refine (PP.out W1).mono ?_
  rintro e w' ⟨rfl, rfl⟩
  go_upto_region 3 with fail
  rw [HP.out]
  clear hq1 hq2
  go_wp2_with fail
  go_loopw [10, 11, 12, 13, 14, 15, 16, 17, 18, 19, 20, 21] (fun v10 v11 v12 v13 v14 v15 v16 v17 v18 v19 v20 v21 wr => ∃ i : Nat, v13 = .int .i64 i ∧ i ≤ n ∧ i ≤ 5 ∧ v12 = .int .i64 (Fb.runW P (itF LL fr i)).1 ∧ Hid (Fb.OwnF wr W1.heap.size v10 ((itF LL fr i).map Fb.cF) ∧ WantAt wr v11 (wantF LL fr P i) ∧ Below W1.heap.size W1 wr)) (fun _ _ _ v13 _ _ _ _ _ _ _ _ _ => 5 - (RowKit.intOf v13).toNat)
  case atStart => exact ⟨0, rfl, by omega, by omega, rfl, Lib.hid ⟨Fb.OwnF.nil _ _, ⟨0, [], rfl, OwnT.nil _ _⟩, Below.refl _ _⟩⟩
  case round =>
    obtain ⟨i, rfl, hi, hi5, rfl, HS⟩ := hrel
    have hbd := itF_bd LL fr i hi5
    have hwok := want_ok LL fr P i
    have hwp := want_parse LL fr P i
    have hit : itF LL fr (i + 1) = if goodL (fewT (LL i)) = true then itF LL fr i ++ [(begF fr i, 1 + (i : Int), printV (fewT (LL i)))] else itF LL fr i := rfl
    have hwa : wantF LL fr P (i + 1) = if goodL (fewT (LL i)) = true ∧ begF fr i ≤ P ∧ (Fb.runW P (itF LL fr i)).1 ≤ begF fr i then fewT (LL i) else wantF LL fr P i := rfl
    obtain ⟨its, hits⟩ : ∃ z, itF LL fr i = z := ⟨_, rfl⟩
    obtain ⟨wn, hwn⟩ : ∃ z, wantF LL fr P i = z := ⟨_, rfl⟩
    obtain ⟨b0, hb0⟩ : ∃ z, begF fr i = z := ⟨_, rfl⟩
    have hbb := begF_bd fr i
    rw [hits] at hbd hwp hit hwa HS ⊢
    rw [hwn] at hwok hwp hwa HS
    rw [hb0] at hit hwa hbb
    have hrn := runW_next P its
    obtain ⟨B, hB⟩ : ∃ z, (Fb.runW P its).1 = z := ⟨_, rfl⟩
    rw [hB] at hwa ⊢
    simp only [hB] at hrn
    have HBD := Lib.hid hbd
    have HWOK := Lib.hid hwok
    have HWP := Lib.hid hwp
    have HIT := Lib.hid hit
    have HWA := Lib.hid hwa
    have HB0 := Lib.hid hb0
    have HRN := Lib.hid hrn
    have HBV := Lib.hid hB
    have HOW : Hid (Fb.OwnF wr W1.heap.size u10 (its.map Fb.cF)) := Lib.hid HS.out.1
    have HTW : Hid (WantAt wr u11 wn) := Lib.hid HS.out.2.1
    have HBM : Hid (Below W1.heap.size W1 wr) := Lib.hid HS.out.2.2
    have HBW : Hid (Below w.heap.size w wr) := Lib.hid (HB1.out.trans (HS.out.2.2.mono HS1.out))
    have HLEN : Hid (its.length ≤ 5) := Lib.hid (by have := hbd.2.2; omega)
    clear HS hbd hwok hwp hit hwa hits hwn hb0 hrn hB
    by_cases h1 : i < n
    · have h1d : decide (i < n) = true := by simpa using h1
      by_cases h2 : i < 5
      · have h2d : decide ((i : Int) < 5) = true := by simp; omega
        obtain ⟨b, o, rfl, hlt, A', c', e1, e2, e3, e4⟩ := HLS.out i h1
        have hc9 : wr.cell? ⟨b, o + i, none⟩ = some (.slice A' (LL i).length c') := (HBW.out.cell (p := ⟨b, o + i, none⟩) hlt).trans e1
        obtain ⟨l, hl⟩ : ∃ z, LL i = z := ⟨_, rfl⟩
        rw [hl] at hc9 e2 e3 e4 HIT HWA
        have HF := Lib.hid (fun W (hb : Below w.heap.size w W) => few_big A' l.length c' l W (e2.below hb) rfl (by have := HMX.out; omega) (fun t ht => by have := (e4 t ht).1; have := HMX.out; omega))
        have hacc := few_acc (l := l) (fun t ht => (e4 t ht).2)
        have hlen := few_len l
        obtain ⟨ln, hln⟩ : ∃ z, l.length = z := ⟨_, rfl⟩
        have hln2 : ln ≤ 9223372036854775807 := by have := HMX.out; omega
        rw [hln] at HF hc9
        obtain ⟨F, hF⟩ : ∃ F, fewT l = F := ⟨_, rfl⟩
        rw [hF] at hacc hlen HF HIT HWA
        have HACC := Lib.hid hacc
        obtain ⟨m, hm⟩ : ∃ m, F.length = m := ⟨_, rfl⟩
        have HM := Lib.hid hm
        rw [hm] at hlen
        obtain ⟨G, hG⟩ : ∃ G, goodL F = G := ⟨_, rfl⟩
        have HPLEN : Hid (G = true → (printV F).length ≤ 2000) := Lib.hid (fun h => print_len (hG.trans h))
        obtain ⟨PF, hPF⟩ : ∃ P, printV F = P := ⟨_, rfl⟩
        have HPR := Lib.hid (fun W v (h : KAt W) (h2 : TermsAt W v F) => print_any F v W h h2 (by rw [hm]; omega) hacc)
        rw [hG, hPF] at HPR HIT
        rw [hPF] at HPLEN
        rw [hG] at HWA
        have HCW : Hid (b < w.heap.size) := Lib.hid hlt
        have H12 := Lib.hid (And.intro h1 h2)
        clear hl e1 e2 e3 e4 hacc hln hF hm hG hPF hlt
        go_wp2_with fail
        refine (HF.out wr HBW.out).mono ?_
        rintro e w2 ⟨v2, L2, rfl, hL2, ho2, hb2⟩
        have ht2 : WantAt w2 v2 F := ⟨_, L2, hL2, ho2⟩
        obtain ⟨A2', c2', rfl⟩ := ht2.terms.slice
        rw [HM.out] at ht2 ⊢
        have HT2 := Lib.hid ht2
        have HB2 := Lib.hid (HBW.out.trans (hb2.mono HBW.out.size))
        have HBM2 := Lib.hid (HBM.out.trans (hb2.mono HBM.out.size))
        have HOW2 : Hid (Fb.OwnF w2 W1.heap.size u10 (its.map Fb.cF)) := Lib.hid (HOW.out.below hb2)
        have HTW2 : Hid (WantAt w2 u11 wn) := Lib.hid (HTW.out.below hb2)
        clear hb2 ho2 hL2 ht2
        go_wp2_with fail
        refine (HPR.out w2 _ (HK.out.mono HB2.out) HT2.out.terms).mono ?_
        rintro e w3 ⟨rfl, hb3⟩
        have HT3 := Lib.hid (HT2.out.below hb3)
        have HB3 := Lib.hid (HB2.out.trans (hb3.mono HB2.out.size))
        have HBM3 := Lib.hid (HBM2.out.trans (hb3.mono HBM2.out.size))
        have HOW3 : Hid (Fb.OwnF w3 W1.heap.size u10 (its.map Fb.cF)) := Lib.hid (HOW2.out.below hb3)
        have HTW3 : Hid (WantAt w3 u11 wn) := Lib.hid (HTW2.out.below hb3)
        clear hb3
        unfold strV
        cases G
        · have hit2 : itF LL fr (i + 1) = its := by rw [HIT.out, if_neg (by decide)]
          have hwa2 : wantF LL fr P (i + 1) = wn := by rw [HWA.out, if_neg (fun h => by exact absurd h.1 (by decide))]
          have HIT2 := Lib.hid (And.intro hit2 hwa2)
          clear hit2 hwa2
          go_wp2_with fail
          go_roundw
          case rel => exact ⟨i + 1, by go_num, by have := H12.out; omega, by have := H12.out; omega, by rw [HIT2.out.1, HBV.out], Lib.hid ⟨by rw [HIT2.out.1]; exact HOW3.out, by rw [HIT2.out.2]; exact HTW3.out, HBM3.out⟩⟩
          case measure => simp [RowKit.intOf]; have := H12.out; omega
        · have hit2 : itF LL fr (i + 1) = its ++ [(b0, 1 + (i : Int), PF)] := by rw [HIT.out, if_pos rfl]
          have HIT2 := Lib.hid hit2
          clear hit2
          go_upto_if 58 with fail
          go_cut [17] from 58 to 63 (fun v17 wx => v17 = .int .i64 b0 ∧ Hid (Fb.OwnF wx W1.heap.size u10 (its.map Fb.cF) ∧ WantAt wx u11 wn ∧ Below W1.heap.size W1 wx ∧ WantAt wx (.slice A2' m c2') F))
          case first =>
            by_cases h3 : i < n2
            · have h3d : decide (i < n2) = true := by simpa using h3
              obtain ⟨y, hy⟩ : ∃ y, fr[i]? = some y := ⟨_, List.getElem?_eq_getElem (by rw [HN2.out]; exact h3)⟩
              obtain ⟨b', o', c', he, hlt', hxs⟩ := HI.out.resolve_left (fun h => by rw [h.1] at hy; simp at hy)
              have hA : A2 = some ⟨b', o', none⟩ := by injection he
              subst hA
              have hcy : w3.cell? ⟨b', o' + i, none⟩ = some (.int .i64 y) := (HB3.out.cell (p := ⟨b', o' + i, none⟩) hlt').trans (hxs i y hy)
              have hyb := HFR.out y (List.mem_of_getElem? hy)
              have hpk := begF_some hy
              rw [HB0.out] at hpk
              have P6 := Lib.hid (fun W => pick_any y 6 W hyb.1 hyb.2 (by decide) (by decide))
              rw [← hpk] at P6
              clear hy hxs hyb hpk hlt' he
              go_wp2_with fail
              refine (P6.out _).mono ?_
              rintro e w' ⟨rfl, rfl⟩
              go_wp2_with fail
              go_meet
              case rel => exact ⟨rfl, Lib.hid ⟨HOW3.out, HTW3.out, HBM3.out, HT3.out⟩⟩
            · have h3d : decide (i < n2) = false := by simp; omega
              have hz := begF_none (fr := fr) (i := i) (List.getElem?_eq_none (by rw [HN2.out]; omega))
              rw [HB0.out] at hz
              subst hz
              go_wp2_with fail
              go_meet
              case rel => exact ⟨rfl, Lib.hid ⟨HOW3.out, HTW3.out, HBM3.out, HT3.out⟩⟩
          case rest =>
            obtain ⟨rfl, HC⟩ := hcut
            have hgi : Fb.GoodI (b0, 1 + (i : Int), PF) := ⟨hbb, ⟨by dsimp only; omega, by dsimp only; omega⟩, HPLEN.out (by simp)⟩
            obtain ⟨f, hf⟩ : ∃ z, Fb.cF (b0, 1 + (i : Int), PF) = z := ⟨_, rfl⟩
            have hfo := cF_ok hgi
            have hfv := Fb.cF_valid hgi
            have hfc := cF_cells b0 (1 + (i : Int)) PF
            rw [hf] at hfo hfv hfc
            have HEN := Lib.hid (fun W => Fb.encode_good f W hfo hfv)
            have HDE := Lib.hid (fun W => Fb.decode_good f W hfo hfv)
            have HFC := Lib.hid hf
            have HCI : Hid ((Tryz.prog.info? 47).map (·.size) = some f.cells.size ∧ f.cells.all (·.oneCell') = true ∧ z18f.size = f.cells.size) := Lib.hid ⟨Fb.fact_size, f.cells_one, rfl⟩
            rw [hfc] at HEN
            obtain ⟨cs, hcs⟩ : ∃ z, f.cells = z := ⟨_, rfl⟩
            rw [hcs] at HDE HCI
            have HCS := Lib.hid hcs
            obtain ⟨E, hE⟩ : ∃ z, Fb.encL f = z := ⟨_, rfl⟩
            rw [hE] at HEN HDE
            clear hgi hf hfo hfv hfc hcs hE
            go_wp2_with fail
            refine (HEN.out wc).mono ?_
            rintro e w4 ⟨rfl, hb4⟩
            have HB4 := Lib.hid hb4
            clear hb4
            go_wp2_with fail
            refine (HDE.out w4).mono ?_
            rintro e w5 ⟨rfl, hb5⟩
            have HB5 : Hid (Below W1.heap.size W1 w5 ∧ Fb.OwnF w5 W1.heap.size u10 (its.map Fb.cF) ∧ WantAt w5 u11 wn ∧ WantAt w5 (.slice A2' m c2') F) := Lib.hid ⟨HC.out.2.2.1.trans ((HB4.out.trans (hb5.mono HB4.out.size)).mono HC.out.2.2.1.size), (HC.out.1.below HB4.out).below hb5, (HC.out.2.1.below HB4.out).below hb5, (HC.out.2.2.2.below HB4.out).below hb5⟩
            clear hb5
            obtain ⟨N5, hN5⟩ : ∃ z, w5.heap.size = z := ⟨_, rfl⟩
            obtain ⟨w6, hw6⟩ : ∃ z, w5.alloc (.cells cs 47) = z := ⟨_, rfl⟩
            have hr6 := RowAt.new w5 47 cs
            have hb6 := (Below.refl w5.heap.size w5).alloc (Nat.le_refl _) (.cells cs 47)
            rw [hw6] at hr6 hb6
            rw [hN5] at hr6
            have HR6 := Lib.hid hr6
            have H6 : Hid (Below W1.heap.size W1 w6 ∧ Fb.OwnF w6 W1.heap.size u10 (its.map Fb.cF) ∧ WantAt w6 u11 wn ∧ WantAt w6 (.slice A2' m c2') F) := Lib.hid ⟨HB5.out.1.trans (hb6.mono HB5.out.1.size), HB5.out.2.1.below hb6, HB5.out.2.2.1.below hb6, HB5.out.2.2.2.below hb6⟩
            have HW6 := Lib.hid (And.intro hw6 hN5)
            clear hr6 hb6 hw6 hN5
            go_upto_region 17 with (first | ((with_reducible refine Fb.store_cs (o := ⟨none, _, _, _, _, _⟩) (.tmp 20) (.tmp 76) w5.heap.size rfl z18f cs HCI.out.1 HCI.out.2.1 HCI.out.2.2 ?_ ?_ ?_ ?_ ?_); rfl; rfl; rfl; rfl))
            rw [HW6.out.1, HW6.out.2]
            have HL : Hid (∀ j2 x, cs[j2]? = some x → w6.cell? ⟨N5, 0 + j2, none⟩ = some x) := Lib.hid (fun j2 x hx => by rw [Nat.zero_add, HR6.out.cell]; exact hx)
            have HA : Hid (Below w6.heap.size w6 (w6.alloc (.cells cs 47))) := Lib.hid ((Below.refl _ _).alloc (Nat.le_refl _) _)
            have HO : Hid (Fb.OwnF (w6.alloc (.cells cs 47)) W1.heap.size u10 (its.map Fb.cF) ∧ (its.map Fb.cF).length ≤ 1000000 ∧ W1.heap.size ≤ (w6.alloc (.cells cs 47)).heap.size ∧ ∀ (j2 : Nat) u, f.cells.toList[j2]? = some u → (w6.alloc (.cells cs 47)).cell? ((⟨w6.heap.size, 0, none⟩ : Addr).add j2) = some u) := Lib.hid ⟨H6.out.2.1.below HA.out, by rw [List.length_map]; have := HLEN.out; omega, Nat.le_trans H6.out.1.size HA.out.size, by rw [← HCS.out]; exact Fb.fact_new w6 f _⟩
            obtain ⟨hv4, hv5⟩ : (b0 ≤ P ∧ B ≤ b0 → (Fb.runW P (itF LL fr (i + 1))).1 = b0 ∧ wantF LL fr P (i + 1) = F) ∧ (¬(b0 ≤ P ∧ B ≤ b0) → (Fb.runW P (itF LL fr (i + 1))).1 = B ∧ wantF LL fr P (i + 1) = wn) := by
              refine ⟨fun h => ⟨?_, ?_⟩, fun h => ⟨?_, ?_⟩⟩
              · rw [HIT2.out, HRN.out, if_pos h]
              · rw [HWA.out, if_pos ⟨by simp, h⟩]
              · rw [HIT2.out, HRN.out, if_neg h]
              · rw [HWA.out, if_neg (fun h2 => h h2.2)]
            have HV4 := Lib.hid hv4
            have HV5 := Lib.hid hv5
            clear hv4 hv5
            have HMAP : Hid ((itF LL fr (i + 1)).map Fb.cF = its.map Fb.cF ++ [f]) := Lib.hid (by rw [HIT2.out, List.map_append, ← HFC.out]; rfl)
            by_cases h4 : b0 ≤ P
            · have h4d : decide (b0 ≤ P) = true := by simpa using h4
              by_cases h5 : B ≤ b0
              · have h5d : decide (B ≤ b0) = true := by simpa using h5
                have HH45 := Lib.hid (And.intro h4 h5)
                clear h4 h5
                go_wp2_with (first | ((with_reducible refine Fb.load_at (o := ⟨some 85, _, _, _, _, _⟩) (.tmp 20) N5 0 cs HL.out HCI.out.1 ?_ ?_ ?_ ?_); rfl; rfl; rfl) | ((with_reducible refine Fb.build_fact (o := ⟨some 86, _, _, _, _, _⟩) (.tmp 85) cs f HCS.out ?_ ?_ ?_ ?_); rfl; rfl; rfl) | ((with_reducible refine append_factG (o := ⟨some 87, _, _, _, _, _⟩) (.tmp 84) (.tmp 86) W1.heap.size (its.map Fb.cF) f w6.heap.size u10 HO.out.1 HO.out.2.1 HO.out.2.2.1 HO.out.2.2.2 ?_ ?_ ?_ ?_ ?_); rfl; rfl; rfl; rfl; intro v7 X7 hown7 hbl7 hfr7; have HX7 : Hid (Fb.OwnF X7 W1.heap.size v7 (its.map Fb.cF ++ [f]) ∧ Below W1.heap.size W1 X7 ∧ WantAt X7 u11 wn ∧ WantAt X7 (.slice A2' m c2') F) := Lib.hid (app_end H6.out.1 H6.out.2.2.1 H6.out.2.2.2 HA.out hown7 hbl7 hfr7); clear hown7 hbl7 hfr7))
                go_roundw
                case rel =>
                  obtain ⟨e1, e2⟩ := HV4.out HH45.out
                  exact ⟨i + 1, by go_num, by have := H12.out; omega, by have := H12.out; omega, by rw [e1], Lib.hid ⟨by rw [HMAP.out]; exact HX7.out.1, by rw [e2]; exact HX7.out.2.2.2, HX7.out.2.1⟩⟩
                case measure => simp [RowKit.intOf]; have := H12.out; omega
              · have h5d : decide (B ≤ b0) = false := by simp; omega
                have HH45 : Hid (¬(b0 ≤ P ∧ B ≤ b0)) := Lib.hid (fun h => h5 h.2)
                clear h4 h5
                go_wp2_with (first | ((with_reducible refine Fb.load_at (o := ⟨some 85, _, _, _, _, _⟩) (.tmp 20) N5 0 cs HL.out HCI.out.1 ?_ ?_ ?_ ?_); rfl; rfl; rfl) | ((with_reducible refine Fb.build_fact (o := ⟨some 86, _, _, _, _, _⟩) (.tmp 85) cs f HCS.out ?_ ?_ ?_ ?_); rfl; rfl; rfl) | ((with_reducible refine append_factG (o := ⟨some 87, _, _, _, _, _⟩) (.tmp 84) (.tmp 86) W1.heap.size (its.map Fb.cF) f w6.heap.size u10 HO.out.1 HO.out.2.1 HO.out.2.2.1 HO.out.2.2.2 ?_ ?_ ?_ ?_ ?_); rfl; rfl; rfl; rfl; intro v7 X7 hown7 hbl7 hfr7; have HX7 : Hid (Fb.OwnF X7 W1.heap.size v7 (its.map Fb.cF ++ [f]) ∧ Below W1.heap.size W1 X7 ∧ WantAt X7 u11 wn ∧ WantAt X7 (.slice A2' m c2') F) := Lib.hid (app_end H6.out.1 H6.out.2.2.1 H6.out.2.2.2 HA.out hown7 hbl7 hfr7); clear hown7 hbl7 hfr7))
                go_roundw
                case rel =>
                  obtain ⟨e1, e2⟩ := HV5.out HH45.out
                  exact ⟨i + 1, by go_num, by have := H12.out; omega, by have := H12.out; omega, by rw [e1], Lib.hid ⟨by rw [HMAP.out]; exact HX7.out.1, by rw [e2]; exact HX7.out.2.2.1, HX7.out.2.1⟩⟩
                case measure => simp [RowKit.intOf]; have := H12.out; omega
            · have h4d : decide (b0 ≤ P) = false := by simp; omega
              have HH45 : Hid (¬(b0 ≤ P ∧ B ≤ b0)) := Lib.hid (fun h => h4 h.1)
              clear h4
              go_wp2_with (first | ((with_reducible refine Fb.load_at (o := ⟨some 85, _, _, _, _, _⟩) (.tmp 20) N5 0 cs HL.out HCI.out.1 ?_ ?_ ?_ ?_); rfl; rfl; rfl) | ((with_reducible refine Fb.build_fact (o := ⟨some 86, _, _, _, _, _⟩) (.tmp 85) cs f HCS.out ?_ ?_ ?_ ?_); rfl; rfl; rfl) | ((with_reducible refine append_factG (o := ⟨some 87, _, _, _, _, _⟩) (.tmp 84) (.tmp 86) W1.heap.size (its.map Fb.cF) f w6.heap.size u10 HO.out.1 HO.out.2.1 HO.out.2.2.1 HO.out.2.2.2 ?_ ?_ ?_ ?_ ?_); rfl; rfl; rfl; rfl; intro v7 X7 hown7 hbl7 hfr7; have HX7 : Hid (Fb.OwnF X7 W1.heap.size v7 (its.map Fb.cF ++ [f]) ∧ Below W1.heap.size W1 X7 ∧ WantAt X7 u11 wn ∧ WantAt X7 (.slice A2' m c2') F) := Lib.hid (app_end H6.out.1 H6.out.2.2.1 H6.out.2.2.2 HA.out hown7 hbl7 hfr7); clear hown7 hbl7 hfr7))
              go_roundw
              case rel =>
                obtain ⟨e1, e2⟩ := HV5.out HH45.out
                exact ⟨i + 1, by go_num, by have := H12.out; omega, by have := H12.out; omega, by rw [e1], Lib.hid ⟨by rw [HMAP.out]; exact HX7.out.1, by rw [e2]; exact HX7.out.2.2.1, HX7.out.2.1⟩⟩
              case measure => simp [RowKit.intOf]; have := H12.out; omega
      · have h2d : decide ((i : Int) < 5) = false := by simp; omega
        go_upto_if 98 with fail
        go_cut [22, 23] from 99 to 124 (fun v22 v23 wx => ∃ l1 : List FactV, Hid (Fb.OwnF wx W1.heap.size u10 l1 ∧ (∀ f, f ∈ l1 ↔ f ∈ its.map Fb.cF) ∧ l1.length = its.length ∧ Below W1.heap.size W1 wx ∧ WantAt wx u11 wn))
        case first =>
          cases bk
          · go_wp2_with fail
            go_meet
            case rel => exact ⟨_, Lib.hid ⟨HOW.out, fun f => Iff.rfl, by rw [List.length_map], HBM.out, HTW.out⟩⟩
          · obtain ⟨A10, m10, c10, rfl⟩ := Fb.own_slice HOW.out
            have hm10 : m10 = its.length := by
              obtain ⟨A', c', e⟩ := HOW.out.facts.sl
              cases e
              rw [List.length_map]
            have HM10 := Lib.hid hm10
            have hm5 : m10 ≤ 5 := by have := HLEN.out; omega
            clear hm10
            go_wp2_with fail
            go_loopw [22, 23] (fun v22 v23 wx => ∃ (j : Nat) (l1 : List FactV), v22 = .int .i64 j ∧ j ≤ 5 ∧ Hid (Fb.OwnF wx W1.heap.size (.slice A10 m10 c10) l1 ∧ (∀ f, f ∈ l1 ↔ f ∈ its.map Fb.cF) ∧ l1.length = its.length ∧ Below W1.heap.size W1 wx ∧ WantAt wx u11 wn)) (fun v22 _ _ => 5 - (RowKit.intOf v22).toNat)
            case atStart => exact ⟨0, _, rfl, by omega, Lib.hid ⟨HOW.out, fun f => Iff.rfl, by rw [List.length_map], HBM.out, HTW.out⟩⟩
            case round =>
              obtain ⟨j, l1, rfl, hj5, HS2⟩ := hrel
              by_cases h4 : j < m10 / 2
              · have hk1 : m10 - 1 - j < m10 := by omega
                have HH4 := Lib.hid h4
                obtain ⟨b, hb⟩ : ∃ z : Nat, m10 - 1 - j = z := ⟨_, rfl⟩
                rw [hb] at hk1
                have hbi : (m10 : Int) - 1 - (j : Int) = (b : Int) := by omega
                have HBI := Lib.hid hbi
                have hjm : j < m10 := by omega
                obtain ⟨g, rfl⟩ := HS2.out.1.block (by have := HS2.out.2.2.1; have := HM10.out; omega)
                obtain ⟨fa, hfa⟩ : ∃ x, l1[j]? = some x := ⟨_, List.getElem?_eq_getElem (by have := HS2.out.2.2.1; have := HM10.out; omega)⟩
                obtain ⟨fb, hfb⟩ : ∃ x, l1[b]? = some x := ⟨_, List.getElem?_eq_getElem (by have := HS2.out.2.2.1; have := HM10.out; omega)⟩
                have HOX : Hid (Fb.OwnF wr.drew W1.heap.size (.slice (some ⟨g, 0, none⟩) m10 c10) l1) := Lib.hid (HS2.out.1.below (Below.refl _ _).drew)
                have HLA := Lib.hid (HOX.out.get hfa)
                have HLB := Lib.hid (HOX.out.get hfb)
                have HFA := Lib.hid hfa
                have HFB := Lib.hid hfb
                have HLTA : Hid (j < l1.length) := Lib.hid (List.getElem?_eq_some_iff.1 hfa).1
                have HLTB : Hid (b < (l1.set j fb).length) := Lib.hid (by rw [List.length_set]; exact (List.getElem?_eq_some_iff.1 hfb).1)
                have h4d : decide ((j : Int) < (m10 : Int) / 2) = true := by simp; omega
                clear hb hbi hfa hfb h4
                go_upto_region 28 with fail
                rw [HBI.out]
                refine wp_region_held_drew (S := fun _ => True) (by kernel_rfl) trivial (fun hHeld => ?_)
                refine wpAnyH_take (i := 0) (oi := ⟨_, _, _, _, _, _⟩) (v := ?_) rfl (by kernel_rfl) (by kernel_rfl) (by kernel_rfl) (fun _ _ _ h => h) (Or.inl ⟨by rfl, ?_⟩) (by assumption) ?_
                rotate_left
                · intro w hSw
                  go_simp
                  all_goals with_reducible rfl
                simp only [Act.put, List.setIfInBounds_toArray, List.set_cons_zero, List.set_cons_succ]
                refine wpAnyH_take (i := 1) (oi := ⟨_, _, _, _, _, _⟩) (v := ?_) rfl (by kernel_rfl) (by kernel_rfl) (by kernel_rfl) (fun _ _ _ h => h) (Or.inl ⟨by rfl, ?_⟩) (by assumption) ?_
                rotate_left
                · intro w hSw
                  go_simp
                  all_goals with_reducible rfl
                simp only [Act.put, List.setIfInBounds_toArray, List.set_cons_zero, List.set_cons_succ]
                refine wpAnyH_take (i := 2) (oi := ⟨_, _, _, _, _, _⟩) (v := ?_) rfl (by kernel_rfl) (by kernel_rfl) (by kernel_rfl) (fun _ _ _ h => h) (Or.inl ⟨by rfl, ?_⟩) (by assumption) ?_
                rotate_left
                · intro w hSw
                  go_simp
                  all_goals with_reducible rfl
                simp only [Act.put, List.setIfInBounds_toArray, List.set_cons_zero, List.set_cons_succ]
                refine wpAnyH_take (i := 3) (oi := ⟨_, _, _, _, _, _⟩) (v := ?_) rfl (by kernel_rfl) (by kernel_rfl) (by kernel_rfl) (fun _ _ _ h => h) (Or.inl ⟨by rfl, ?_⟩) (by assumption) ?_
                rotate_left
                · intro w hSw
                  go_simp
                  all_goals with_reducible rfl
                simp only [Act.put, List.setIfInBounds_toArray, List.set_cons_zero, List.set_cons_succ]
                refine wpAnyH_take (i := 4) (oi := ⟨_, _, _, _, _, _⟩) (v := ?_) rfl (by kernel_rfl) (by kernel_rfl) (by kernel_rfl) (fun _ _ _ h => h) (Or.inl ⟨by rfl, ?_⟩) (by assumption) ?_
                rotate_left
                · intro w hSw
                  go_simp
                  all_goals with_reducible rfl
                simp only [Act.put, List.setIfInBounds_toArray, List.set_cons_zero, List.set_cons_succ]
                refine wpAnyH_take (i := 5) (oi := ⟨_, _, _, _, _, _⟩) (v := ?_) rfl (by kernel_rfl) (by kernel_rfl) (by kernel_rfl) (fun _ _ _ h => h) (Or.inl ⟨by rfl, ?_⟩) (by assumption) ?_
                rotate_left
                · intro w hSw
                  go_simp
                  all_goals with_reducible rfl
                simp only [Act.put, List.setIfInBounds_toArray, List.set_cons_zero, List.set_cons_succ]
                refine wpAnyH_take (i := 8) (oi := ⟨_, _, _, _, _, _⟩) (v := ?_) rfl (by kernel_rfl) (by kernel_rfl) (by kernel_rfl) (fun _ _ _ h => h) (Or.inl ⟨by rfl, ?_⟩) (by assumption) ?_
                rotate_left
                · intro w hSw
                  go_simp
                  all_goals with_reducible rfl
                simp only [Act.put, List.setIfInBounds_toArray, List.set_cons_zero, List.set_cons_succ]
                refine wpAnyH_take (i := 9) (oi := ⟨_, _, _, _, _, _⟩) (v := ?_) rfl (by kernel_rfl) (by kernel_rfl) (by kernel_rfl) (fun _ _ _ h => h) (Or.inl ⟨by rfl, ?_⟩) (by assumption) ?_
                rotate_left
                · intro w hSw
                  go_simp
                  all_goals with_reducible rfl
                simp only [Act.put, List.setIfInBounds_toArray, List.set_cons_zero, List.set_cons_succ]
                refine wpAnyH_take (i := 6) (oi := ⟨_, _, _, _, _, _⟩) (v := ?_) rfl (by kernel_rfl) (by kernel_rfl) (by kernel_rfl) (fun _ _ _ h => h) (Or.inl ⟨by rfl, ?_⟩) (by assumption) ?_
                rotate_left
                · intro w hSw
                  go_simp
                  all_goals with_reducible rfl
                simp only [Act.put, List.setIfInBounds_toArray, List.set_cons_zero, List.set_cons_succ]
                refine wpAnyH_take (i := 10) (oi := ⟨_, _, _, _, _, _⟩) (v := ?_) rfl (by kernel_rfl) (by kernel_rfl) (by kernel_rfl) (fun _ _ _ h => h) (Or.inl ⟨by rfl, ?_⟩) (by assumption) ?_
                rotate_left
                · intro w hSw
                  go_simp
                  all_goals with_reducible rfl
                simp only [Act.put, List.setIfInBounds_toArray, List.set_cons_zero, List.set_cons_succ]
                refine wpAnyH_ready (rs := [7, 11]) (by kernel_rfl) (by simp) ?_
                refine AllReadyH.cons (o := ⟨_, _, _, _, _, _⟩) rfl (fun K hK => ?_) ?_
                rotate_left
                · refine AllReadyH.cons (o := ⟨_, _, _, _, _, _⟩) rfl (fun K hK => ?_) AllReadyH.nil
                  refine wp_load_at 47 (.tmp 121) rfl g (j * 18) rfl fa.cells _ HLA.out Tryz.underlying47 rfl Fb.fact_size ?_
                  refine hK.out _ _ trivial (fun _ => ?_)
                  clear hK K
                  try simp only [Act.put, List.setIfInBounds_toArray, List.set_cons_zero, List.set_cons_succ]
                  refine wpAnyH_ready (rs := [7]) (by kernel_rfl) (by simp) ?_
                  refine AllReadyH.cons (o := ⟨_, _, _, _, _, _⟩) rfl (fun K hK => ?_) AllReadyH.nil
                  refine wp_load_at 47 (.tmp 117) rfl g (b * 18) rfl fb.cells _ HLB.out Tryz.underlying47 rfl Fb.fact_size ?_
                  refine hK.out _ _ trivial (fun _ => ?_)
                  clear hK K
                  try simp only [Act.put, List.setIfInBounds_toArray, List.set_cons_zero, List.set_cons_succ]
                  refine wpAnyH_ready (rs := [12]) (by kernel_rfl) (by simp) ?_
                  refine AllReadyH.cons (o := ⟨_, _, _, _, _, _⟩) rfl (fun K hK => ?_) AllReadyH.nil
                  go_simp
                  refine hK.out _ _ trivial (fun _ => ?_)
                  clear hK K
                  try simp only [Act.put, List.setIfInBounds_toArray, List.set_cons_zero, List.set_cons_succ]
                  refine wpAnyH_ready (rs := [13]) (by kernel_rfl) (by simp) ?_
                  refine AllReadyH.cons (o := ⟨_, _, _, _, _, _⟩) rfl (fun K hK => ?_) AllReadyH.nil
                  refine wp_store_inG (.tmp 123) (.tmp 118) g _ c10 _ j l1 fb fb.cells rfl HOX.out HLTA.out rfl rfl rfl (fun X1 hX1 hbX1 hfX1 => ?_)
                  have HX1 := Lib.hid (And.intro hX1 (And.intro hbX1 hfX1))
                  clear hX1 hbX1 hfX1
                  refine hK.out _ _ trivial (fun _ => ?_)
                  clear hK K
                  try simp only [Act.put, List.setIfInBounds_toArray, List.set_cons_zero, List.set_cons_succ]
                  refine wpAnyH_ready (rs := [14]) (by kernel_rfl) (by simp) ?_
                  refine AllReadyH.cons (o := ⟨_, _, _, _, _, _⟩) rfl (fun K hK => ?_) AllReadyH.nil
                  go_simp
                  refine hK.out _ _ trivial (fun _ => ?_)
                  clear hK K
                  try simp only [Act.put, List.setIfInBounds_toArray, List.set_cons_zero, List.set_cons_succ]
                  refine wpAnyH_ready (rs := [15]) (by kernel_rfl) (by simp) ?_
                  refine AllReadyH.cons (o := ⟨_, _, _, _, _, _⟩) rfl (fun K hK => ?_) AllReadyH.nil
                  refine wp_store_inG (.tmp 124) (.tmp 122) g _ c10 _ b (l1.set j fb) fa fa.cells rfl HX1.out.1 HLTB.out rfl rfl rfl (fun X2 hX2 hbX2 hfX2 => ?_)
                  have HX2 := Lib.hid (And.intro hX2 (And.intro (HX1.out.2.1.trans hbX2) (HX1.out.2.2.trans hfX2)))
                  clear hX2 hbX2 hfX2
                  refine hK.out _ _ trivial (fun _ => ?_)
                  clear hK K
                  try simp only [Act.put, List.setIfInBounds_toArray, List.set_cons_zero, List.set_cons_succ]
                  refine wpAnyH_done (by kernel_rfl) ?_ _
                  go_wp2_with fail
                  go_roundw
                  case rel => exact ⟨j + 1, _, by go_num, by have := HH4.out; omega, Lib.hid ⟨HX2.out.1, fun f => (Fb.swap_mem HFA.out HFB.out f).trans (HS2.out.2.1 f), by rw [List.length_set, List.length_set]; exact HS2.out.2.2.1, HS2.out.2.2.2.1.trans (((Below.refl W1.heap.size wr).drew).trans HX2.out.2.1), (HS2.out.2.2.2.2.below (Below.refl _ _).drew).fr HX2.out.2.2⟩⟩
                  case measure => simp [RowKit.intOf]; have := HH4.out; omega
                refine wp_load_at 47 (.tmp 117) rfl g (b * 18) rfl fb.cells _ HLB.out Tryz.underlying47 rfl Fb.fact_size ?_
                refine hK.out _ _ trivial (fun _ => ?_)
                clear hK K
                try simp only [Act.put, List.setIfInBounds_toArray, List.set_cons_zero, List.set_cons_succ]
                refine wpAnyH_ready (rs := [11]) (by kernel_rfl) (by simp) ?_
                refine AllReadyH.cons (o := ⟨_, _, _, _, _, _⟩) rfl (fun K hK => ?_) AllReadyH.nil
                refine wp_load_at 47 (.tmp 121) rfl g (j * 18) rfl fa.cells _ HLA.out Tryz.underlying47 rfl Fb.fact_size ?_
                refine hK.out _ _ trivial (fun _ => ?_)
                clear hK K
                try simp only [Act.put, List.setIfInBounds_toArray, List.set_cons_zero, List.set_cons_succ]
                refine wpAnyH_ready (rs := [12]) (by kernel_rfl) (by simp) ?_
                refine AllReadyH.cons (o := ⟨_, _, _, _, _, _⟩) rfl (fun K hK => ?_) AllReadyH.nil
                go_simp
                refine hK.out _ _ trivial (fun _ => ?_)
                clear hK K
                try simp only [Act.put, List.setIfInBounds_toArray, List.set_cons_zero, List.set_cons_succ]
                refine wpAnyH_ready (rs := [13]) (by kernel_rfl) (by simp) ?_
                refine AllReadyH.cons (o := ⟨_, _, _, _, _, _⟩) rfl (fun K hK => ?_) AllReadyH.nil
                refine wp_store_inG (.tmp 123) (.tmp 118) g _ c10 _ j l1 fb fb.cells rfl HOX.out HLTA.out rfl rfl rfl (fun X1 hX1 hbX1 hfX1 => ?_)
                have HX1 := Lib.hid (And.intro hX1 (And.intro hbX1 hfX1))
                clear hX1 hbX1 hfX1
                refine hK.out _ _ trivial (fun _ => ?_)
                clear hK K
                try simp only [Act.put, List.setIfInBounds_toArray, List.set_cons_zero, List.set_cons_succ]
                refine wpAnyH_ready (rs := [14]) (by kernel_rfl) (by simp) ?_
                refine AllReadyH.cons (o := ⟨_, _, _, _, _, _⟩) rfl (fun K hK => ?_) AllReadyH.nil
                go_simp
                refine hK.out _ _ trivial (fun _ => ?_)
                clear hK K
                try simp only [Act.put, List.setIfInBounds_toArray, List.set_cons_zero, List.set_cons_succ]
                refine wpAnyH_ready (rs := [15]) (by kernel_rfl) (by simp) ?_
                refine AllReadyH.cons (o := ⟨_, _, _, _, _, _⟩) rfl (fun K hK => ?_) AllReadyH.nil
                refine wp_store_inG (.tmp 124) (.tmp 122) g _ c10 _ b (l1.set j fb) fa fa.cells rfl HX1.out.1 HLTB.out rfl rfl rfl (fun X2 hX2 hbX2 hfX2 => ?_)
                have HX2 := Lib.hid (And.intro hX2 (And.intro (HX1.out.2.1.trans hbX2) (HX1.out.2.2.trans hfX2)))
                clear hX2 hbX2 hfX2
                refine hK.out _ _ trivial (fun _ => ?_)
                clear hK K
                try simp only [Act.put, List.setIfInBounds_toArray, List.set_cons_zero, List.set_cons_succ]
                refine wpAnyH_done (by kernel_rfl) ?_ _
                go_wp2_with fail
                go_roundw
                case rel => exact ⟨j + 1, _, by go_num, by have := HH4.out; omega, Lib.hid ⟨HX2.out.1, fun f => (Fb.swap_mem HFA.out HFB.out f).trans (HS2.out.2.1 f), by rw [List.length_set, List.length_set]; exact HS2.out.2.2.1, HS2.out.2.2.2.1.trans (((Below.refl W1.heap.size wr).drew).trans HX2.out.2.1), (HS2.out.2.2.2.2.below (Below.refl _ _).drew).fr HX2.out.2.2⟩⟩
                case measure => simp [RowKit.intOf]; have := HH4.out; omega
              · have HH4 := Lib.hid h4
                have h4d : decide ((j : Int) < (m10 : Int) / 2) = false := by simp; omega
                clear h4
                go_wp2_with fail
                go_meet
                case rel => exact ⟨l1, HS2⟩
        case rest =>
          obtain ⟨l1, HC⟩ := hcut
          have HGI : Hid (∀ f ∈ l1, Fb.FactOk f) := Lib.hid (fun f hf => by
            obtain ⟨x, hx, rfl⟩ := List.mem_map.1 ((HC.out.2.1 f).1 hf)
            exact cF_ok (HBD.out.1 x hx).1)
          have hl1 : l1.length ≤ 1000000 := by have := HLEN.out; have := HC.out.2.2.1; omega
          have HL1 := Lib.hid hl1
          clear hl1
          go_wp2_with fail
          refine (Fb.of_any l1 u10 wc HL1.out HGI.out HC.out.1.facts).mono ?_
          rintro e W5 ⟨bs1, fs1, rfl, hl1, hb5, hp1, hs1⟩
          have hlw := Fb.facts_law its P (fun x hx => (HBD.out.1 x hx).1) HBD.out.2.1 l1 HC.out.2.1 fs1 hp1
          have hct := Fb.contract_any bs1 (fun q => fs1.filter (Fb.kindF q)) 7 P W5 hl1.read (fun q => Fb.perm_kind_len hp1 1000000 HL1.out q)
          rw [hlw.1, Option.isSome_map] at hct
          obtain ⟨r, hr⟩ : ∃ z, (Fb.runW P its).2 = z := ⟨_, rfl⟩
          have htx := text_get r
          have hwp := HWP.out
          rw [hr] at hct hlw hwp
          obtain ⟨T, hT⟩ : ∃ z, (r.map fun x => x.2.2).getD [] = z := ⟨_, rfl⟩
          rw [hT] at hwp htx
          have hTl : T.length ≤ 9223372036854775807 := by
            rw [← hT]
            cases r with
            | none => simp
            | some x =>
              have := Fb.runW_spec P its (fun x hx => (HBD.out.1 x hx).1) HBD.out.2.1
              rw [hr] at this
              have := (HBD.out.1 x this.2.1).1.2.2
              simp
              omega
          have hd : decide (0 ≤ B) = r.isSome := by rw [hlw.2, HBV.out]
          obtain ⟨D, hD⟩ : ∃ z, r.isSome = z := ⟨_, rfl⟩
          rw [hD] at hct hd
          have hci : (Tryz.prog.info? 47).map (·.size) = some ((r.map Fb.cF).getD Fb.zf).cells.size ∧ ((r.map Fb.cF).getD Fb.zf).cells.all (·.oneCell') = true ∧ z18f.size = ((r.map Fb.cF).getD Fb.zf).cells.size := ⟨Fb.fact_size, ((r.map Fb.cF).getD Fb.zf).cells_one, rfl⟩
          obtain ⟨c0, hc0⟩ : ∃ z, ((r.map Fb.cF).getD Fb.zf).cells = z := ⟨_, rfl⟩
          rw [hc0] at hct htx hci
          have HCT := Lib.hid hct
          have HTX := Lib.hid htx
          have HC0 := Lib.hid hci
          have HPA : Hid (∀ W, KAt W → Calls Tryz.prog 20 #[strV T] W (ParseEnd W (wn, 0, true))) := Lib.hid (fun W h => by have := parse_any T W h hTl; rw [hwp] at this; exact this)
          have HB5 : Hid (Below W1.heap.size W1 W5 ∧ WantAt W5 u11 wn) := Lib.hid ⟨HC.out.2.2.2.1.trans (hb5.mono HC.out.2.2.2.1.size), HC.out.2.2.2.2.below hb5⟩
          clear hl1 hb5 hp1 hs1 hlw hct hr htx hwp hT hTl hD hci hc0
          go_wp2_with fail
          refine HCT.out.mono ?_
          rintro e W6 ⟨rfl, hb6⟩
          have HB6 : Hid (Below W1.heap.size W1 W6 ∧ WantAt W6 u11 wn) := Lib.hid ⟨HB5.out.1.trans (hb6.mono HB5.out.1.size), HB5.out.2.below hb6⟩
          clear hb6
          obtain ⟨N6, hN6⟩ : ∃ z, W6.heap.size = z := ⟨_, rfl⟩
          obtain ⟨W7, hW7⟩ : ∃ z, W6.alloc (.cells c0 47) = z := ⟨_, rfl⟩
          have hr7 := RowAt.new W6 47 c0
          have hb7 := (Below.refl W6.heap.size W6).alloc (Nat.le_refl _) (.cells c0 47)
          rw [hW7] at hr7 hb7
          rw [hN6] at hr7
          have HB7 : Hid (Below W1.heap.size W1 W7 ∧ WantAt W7 u11 wn) := Lib.hid ⟨HB6.out.1.trans (hb7.mono HB6.out.1.size), HB6.out.2.below hb7⟩
          have hc7 : W7.cell? ⟨N6, 17, none⟩ = some (strV T) := by rw [hr7.cell]; exact HTX.out
          have HW7 := Lib.hid (And.intro hW7 hN6)
          clear hr7 hb7 hW7 hN6
          go_upto_region 30 with (first | ((with_reducible refine Fb.store_cs (o := ⟨none, _, _, _, _, _⟩) (.tmp 24) (.tmp 130) W6.heap.size rfl z18f c0 HC0.out.1 HC0.out.2.1 HC0.out.2.2 ?_ ?_ ?_ ?_ ?_); rfl; rfl; rfl; rfl))
          rw [HW7.out.1, HW7.out.2]
          go_wp2_with fail
          refine (HPA.out W7 (HK.out.mono (HB1.out.trans (HB7.out.1.mono HS1.out)))).mono ?_
          rintro e W8 ⟨v8, L8, rfl, hL8, ho8, hb8⟩
          have HT8 : Hid (TermsAt W8 v8 wn) := Lib.hid (by have := ho8.terms; rw [hL8] at this; exact this)
          have HB8 : Hid (Below W1.heap.size W1 W8 ∧ TermsAt W8 u11 wn) := Lib.hid ⟨HB7.out.1.trans (hb8.mono HB7.out.1.size), (HB7.out.2.below hb8).terms⟩
          have hss : sameTs wn wn = true := sameTs_iff.2 rfl
          have HSM := Lib.hid (rSame_any wn wn v8 u11 W8 (by have := HWOK.out.1; omega) (by have := HWOK.out.1; omega) HT8.out HB8.out.2 HWOK.out.2 HWOK.out.2)
          rw [hss] at HSM
          clear ho8 hb8 hL8 hss hc7
          dsimp only
          cases D
          all_goals
            go_wp2_with fail
            refine HSM.out.mono ?_
            rintro e W9 ⟨rfl, hb9⟩
            have HB9 := Lib.hid (HB8.out.1.trans (hb9.mono HB8.out.1.size))
            clear hb9
            go_wp2_with fail
            go_ret
            exact ⟨rfl, HB1.out.trans (HB9.out.mono HS1.out)⟩
    · have h1d : decide (i < n) = false := by simp; omega
      go_upto_if 98 with fail
      go_cut [22, 23] from 99 to 124 (fun v22 v23 wx => ∃ l1 : List FactV, Hid (Fb.OwnF wx W1.heap.size u10 l1 ∧ (∀ f, f ∈ l1 ↔ f ∈ its.map Fb.cF) ∧ l1.length = its.length ∧ Below W1.heap.size W1 wx ∧ WantAt wx u11 wn))
      case first =>
        cases bk
        · go_wp2_with fail
          go_meet
          case rel => exact ⟨_, Lib.hid ⟨HOW.out, fun f => Iff.rfl, by rw [List.length_map], HBM.out, HTW.out⟩⟩
        · obtain ⟨A10, m10, c10, rfl⟩ := Fb.own_slice HOW.out
          have hm10 : m10 = its.length := by
            obtain ⟨A', c', e⟩ := HOW.out.facts.sl
            cases e
            rw [List.length_map]
          have HM10 := Lib.hid hm10
          have hm5 : m10 ≤ 5 := by have := HLEN.out; omega
          clear hm10
          go_wp2_with fail
          go_loopw [22, 23] (fun v22 v23 wx => ∃ (j : Nat) (l1 : List FactV), v22 = .int .i64 j ∧ j ≤ 5 ∧ Hid (Fb.OwnF wx W1.heap.size (.slice A10 m10 c10) l1 ∧ (∀ f, f ∈ l1 ↔ f ∈ its.map Fb.cF) ∧ l1.length = its.length ∧ Below W1.heap.size W1 wx ∧ WantAt wx u11 wn)) (fun v22 _ _ => 5 - (RowKit.intOf v22).toNat)
          case atStart => exact ⟨0, _, rfl, by omega, Lib.hid ⟨HOW.out, fun f => Iff.rfl, by rw [List.length_map], HBM.out, HTW.out⟩⟩
          case round =>
            obtain ⟨j, l1, rfl, hj5, HS2⟩ := hrel
            by_cases h4 : j < m10 / 2
            · have hk1 : m10 - 1 - j < m10 := by omega
              have HH4 := Lib.hid h4
              obtain ⟨b, hb⟩ : ∃ z : Nat, m10 - 1 - j = z := ⟨_, rfl⟩
              rw [hb] at hk1
              have hbi : (m10 : Int) - 1 - (j : Int) = (b : Int) := by omega
              have HBI := Lib.hid hbi
              have hjm : j < m10 := by omega
              obtain ⟨g, rfl⟩ := HS2.out.1.block (by have := HS2.out.2.2.1; have := HM10.out; omega)
              obtain ⟨fa, hfa⟩ : ∃ x, l1[j]? = some x := ⟨_, List.getElem?_eq_getElem (by have := HS2.out.2.2.1; have := HM10.out; omega)⟩
              obtain ⟨fb, hfb⟩ : ∃ x, l1[b]? = some x := ⟨_, List.getElem?_eq_getElem (by have := HS2.out.2.2.1; have := HM10.out; omega)⟩
              have HOX : Hid (Fb.OwnF wr.drew W1.heap.size (.slice (some ⟨g, 0, none⟩) m10 c10) l1) := Lib.hid (HS2.out.1.below (Below.refl _ _).drew)
              have HLA := Lib.hid (HOX.out.get hfa)
              have HLB := Lib.hid (HOX.out.get hfb)
              have HFA := Lib.hid hfa
              have HFB := Lib.hid hfb
              have HLTA : Hid (j < l1.length) := Lib.hid (List.getElem?_eq_some_iff.1 hfa).1
              have HLTB : Hid (b < (l1.set j fb).length) := Lib.hid (by rw [List.length_set]; exact (List.getElem?_eq_some_iff.1 hfb).1)
              have h4d : decide ((j : Int) < (m10 : Int) / 2) = true := by simp; omega
              clear hb hbi hfa hfb h4
              go_upto_region 28 with fail
              rw [HBI.out]
              refine wp_region_held_drew (S := fun _ => True) (by kernel_rfl) trivial (fun hHeld => ?_)
              refine wpAnyH_take (i := 0) (oi := ⟨_, _, _, _, _, _⟩) (v := ?_) rfl (by kernel_rfl) (by kernel_rfl) (by kernel_rfl) (fun _ _ _ h => h) (Or.inl ⟨by rfl, ?_⟩) (by assumption) ?_
              rotate_left
              · intro w hSw
                go_simp
                all_goals with_reducible rfl
              simp only [Act.put, List.setIfInBounds_toArray, List.set_cons_zero, List.set_cons_succ]
              refine wpAnyH_take (i := 1) (oi := ⟨_, _, _, _, _, _⟩) (v := ?_) rfl (by kernel_rfl) (by kernel_rfl) (by kernel_rfl) (fun _ _ _ h => h) (Or.inl ⟨by rfl, ?_⟩) (by assumption) ?_
              rotate_left
              · intro w hSw
                go_simp
                all_goals with_reducible rfl
              simp only [Act.put, List.setIfInBounds_toArray, List.set_cons_zero, List.set_cons_succ]
              refine wpAnyH_take (i := 2) (oi := ⟨_, _, _, _, _, _⟩) (v := ?_) rfl (by kernel_rfl) (by kernel_rfl) (by kernel_rfl) (fun _ _ _ h => h) (Or.inl ⟨by rfl, ?_⟩) (by assumption) ?_
              rotate_left
              · intro w hSw
                go_simp
                all_goals with_reducible rfl
              simp only [Act.put, List.setIfInBounds_toArray, List.set_cons_zero, List.set_cons_succ]
              refine wpAnyH_take (i := 3) (oi := ⟨_, _, _, _, _, _⟩) (v := ?_) rfl (by kernel_rfl) (by kernel_rfl) (by kernel_rfl) (fun _ _ _ h => h) (Or.inl ⟨by rfl, ?_⟩) (by assumption) ?_
              rotate_left
              · intro w hSw
                go_simp
                all_goals with_reducible rfl
              simp only [Act.put, List.setIfInBounds_toArray, List.set_cons_zero, List.set_cons_succ]
              refine wpAnyH_take (i := 4) (oi := ⟨_, _, _, _, _, _⟩) (v := ?_) rfl (by kernel_rfl) (by kernel_rfl) (by kernel_rfl) (fun _ _ _ h => h) (Or.inl ⟨by rfl, ?_⟩) (by assumption) ?_
              rotate_left
              · intro w hSw
                go_simp
                all_goals with_reducible rfl
              simp only [Act.put, List.setIfInBounds_toArray, List.set_cons_zero, List.set_cons_succ]
              refine wpAnyH_take (i := 5) (oi := ⟨_, _, _, _, _, _⟩) (v := ?_) rfl (by kernel_rfl) (by kernel_rfl) (by kernel_rfl) (fun _ _ _ h => h) (Or.inl ⟨by rfl, ?_⟩) (by assumption) ?_
              rotate_left
              · intro w hSw
                go_simp
                all_goals with_reducible rfl
              simp only [Act.put, List.setIfInBounds_toArray, List.set_cons_zero, List.set_cons_succ]
              refine wpAnyH_take (i := 8) (oi := ⟨_, _, _, _, _, _⟩) (v := ?_) rfl (by kernel_rfl) (by kernel_rfl) (by kernel_rfl) (fun _ _ _ h => h) (Or.inl ⟨by rfl, ?_⟩) (by assumption) ?_
              rotate_left
              · intro w hSw
                go_simp
                all_goals with_reducible rfl
              simp only [Act.put, List.setIfInBounds_toArray, List.set_cons_zero, List.set_cons_succ]
              refine wpAnyH_take (i := 9) (oi := ⟨_, _, _, _, _, _⟩) (v := ?_) rfl (by kernel_rfl) (by kernel_rfl) (by kernel_rfl) (fun _ _ _ h => h) (Or.inl ⟨by rfl, ?_⟩) (by assumption) ?_
              rotate_left
              · intro w hSw
                go_simp
                all_goals with_reducible rfl
              simp only [Act.put, List.setIfInBounds_toArray, List.set_cons_zero, List.set_cons_succ]
              refine wpAnyH_take (i := 6) (oi := ⟨_, _, _, _, _, _⟩) (v := ?_) rfl (by kernel_rfl) (by kernel_rfl) (by kernel_rfl) (fun _ _ _ h => h) (Or.inl ⟨by rfl, ?_⟩) (by assumption) ?_
              rotate_left
              · intro w hSw
                go_simp
                all_goals with_reducible rfl
              simp only [Act.put, List.setIfInBounds_toArray, List.set_cons_zero, List.set_cons_succ]
              refine wpAnyH_take (i := 10) (oi := ⟨_, _, _, _, _, _⟩) (v := ?_) rfl (by kernel_rfl) (by kernel_rfl) (by kernel_rfl) (fun _ _ _ h => h) (Or.inl ⟨by rfl, ?_⟩) (by assumption) ?_
              rotate_left
              · intro w hSw
                go_simp
                all_goals with_reducible rfl
              simp only [Act.put, List.setIfInBounds_toArray, List.set_cons_zero, List.set_cons_succ]
              refine wpAnyH_ready (rs := [7, 11]) (by kernel_rfl) (by simp) ?_
              refine AllReadyH.cons (o := ⟨_, _, _, _, _, _⟩) rfl (fun K hK => ?_) ?_
              rotate_left
              · refine AllReadyH.cons (o := ⟨_, _, _, _, _, _⟩) rfl (fun K hK => ?_) AllReadyH.nil
                refine wp_load_at 47 (.tmp 121) rfl g (j * 18) rfl fa.cells _ HLA.out Tryz.underlying47 rfl Fb.fact_size ?_
                refine hK.out _ _ trivial (fun _ => ?_)
                clear hK K
                try simp only [Act.put, List.setIfInBounds_toArray, List.set_cons_zero, List.set_cons_succ]
                refine wpAnyH_ready (rs := [7]) (by kernel_rfl) (by simp) ?_
                refine AllReadyH.cons (o := ⟨_, _, _, _, _, _⟩) rfl (fun K hK => ?_) AllReadyH.nil
                refine wp_load_at 47 (.tmp 117) rfl g (b * 18) rfl fb.cells _ HLB.out Tryz.underlying47 rfl Fb.fact_size ?_
                refine hK.out _ _ trivial (fun _ => ?_)
                clear hK K
                try simp only [Act.put, List.setIfInBounds_toArray, List.set_cons_zero, List.set_cons_succ]
                refine wpAnyH_ready (rs := [12]) (by kernel_rfl) (by simp) ?_
                refine AllReadyH.cons (o := ⟨_, _, _, _, _, _⟩) rfl (fun K hK => ?_) AllReadyH.nil
                go_simp
                refine hK.out _ _ trivial (fun _ => ?_)
                clear hK K
                try simp only [Act.put, List.setIfInBounds_toArray, List.set_cons_zero, List.set_cons_succ]
                refine wpAnyH_ready (rs := [13]) (by kernel_rfl) (by simp) ?_
                refine AllReadyH.cons (o := ⟨_, _, _, _, _, _⟩) rfl (fun K hK => ?_) AllReadyH.nil
                refine wp_store_inG (.tmp 123) (.tmp 118) g _ c10 _ j l1 fb fb.cells rfl HOX.out HLTA.out rfl rfl rfl (fun X1 hX1 hbX1 hfX1 => ?_)
                have HX1 := Lib.hid (And.intro hX1 (And.intro hbX1 hfX1))
                clear hX1 hbX1 hfX1
                refine hK.out _ _ trivial (fun _ => ?_)
                clear hK K
                try simp only [Act.put, List.setIfInBounds_toArray, List.set_cons_zero, List.set_cons_succ]
                refine wpAnyH_ready (rs := [14]) (by kernel_rfl) (by simp) ?_
                refine AllReadyH.cons (o := ⟨_, _, _, _, _, _⟩) rfl (fun K hK => ?_) AllReadyH.nil
                go_simp
                refine hK.out _ _ trivial (fun _ => ?_)
                clear hK K
                try simp only [Act.put, List.setIfInBounds_toArray, List.set_cons_zero, List.set_cons_succ]
                refine wpAnyH_ready (rs := [15]) (by kernel_rfl) (by simp) ?_
                refine AllReadyH.cons (o := ⟨_, _, _, _, _, _⟩) rfl (fun K hK => ?_) AllReadyH.nil
                refine wp_store_inG (.tmp 124) (.tmp 122) g _ c10 _ b (l1.set j fb) fa fa.cells rfl HX1.out.1 HLTB.out rfl rfl rfl (fun X2 hX2 hbX2 hfX2 => ?_)
                have HX2 := Lib.hid (And.intro hX2 (And.intro (HX1.out.2.1.trans hbX2) (HX1.out.2.2.trans hfX2)))
                clear hX2 hbX2 hfX2
                refine hK.out _ _ trivial (fun _ => ?_)
                clear hK K
                try simp only [Act.put, List.setIfInBounds_toArray, List.set_cons_zero, List.set_cons_succ]
                refine wpAnyH_done (by kernel_rfl) ?_ _
                go_wp2_with fail
                go_roundw
                case rel => exact ⟨j + 1, _, by go_num, by have := HH4.out; omega, Lib.hid ⟨HX2.out.1, fun f => (Fb.swap_mem HFA.out HFB.out f).trans (HS2.out.2.1 f), by rw [List.length_set, List.length_set]; exact HS2.out.2.2.1, HS2.out.2.2.2.1.trans (((Below.refl W1.heap.size wr).drew).trans HX2.out.2.1), (HS2.out.2.2.2.2.below (Below.refl _ _).drew).fr HX2.out.2.2⟩⟩
                case measure => simp [RowKit.intOf]; have := HH4.out; omega
              refine wp_load_at 47 (.tmp 117) rfl g (b * 18) rfl fb.cells _ HLB.out Tryz.underlying47 rfl Fb.fact_size ?_
              refine hK.out _ _ trivial (fun _ => ?_)
              clear hK K
              try simp only [Act.put, List.setIfInBounds_toArray, List.set_cons_zero, List.set_cons_succ]
              refine wpAnyH_ready (rs := [11]) (by kernel_rfl) (by simp) ?_
              refine AllReadyH.cons (o := ⟨_, _, _, _, _, _⟩) rfl (fun K hK => ?_) AllReadyH.nil
              refine wp_load_at 47 (.tmp 121) rfl g (j * 18) rfl fa.cells _ HLA.out Tryz.underlying47 rfl Fb.fact_size ?_
              refine hK.out _ _ trivial (fun _ => ?_)
              clear hK K
              try simp only [Act.put, List.setIfInBounds_toArray, List.set_cons_zero, List.set_cons_succ]
              refine wpAnyH_ready (rs := [12]) (by kernel_rfl) (by simp) ?_
              refine AllReadyH.cons (o := ⟨_, _, _, _, _, _⟩) rfl (fun K hK => ?_) AllReadyH.nil
              go_simp
              refine hK.out _ _ trivial (fun _ => ?_)
              clear hK K
              try simp only [Act.put, List.setIfInBounds_toArray, List.set_cons_zero, List.set_cons_succ]
              refine wpAnyH_ready (rs := [13]) (by kernel_rfl) (by simp) ?_
              refine AllReadyH.cons (o := ⟨_, _, _, _, _, _⟩) rfl (fun K hK => ?_) AllReadyH.nil
              refine wp_store_inG (.tmp 123) (.tmp 118) g _ c10 _ j l1 fb fb.cells rfl HOX.out HLTA.out rfl rfl rfl (fun X1 hX1 hbX1 hfX1 => ?_)
              have HX1 := Lib.hid (And.intro hX1 (And.intro hbX1 hfX1))
              clear hX1 hbX1 hfX1
              refine hK.out _ _ trivial (fun _ => ?_)
              clear hK K
              try simp only [Act.put, List.setIfInBounds_toArray, List.set_cons_zero, List.set_cons_succ]
              refine wpAnyH_ready (rs := [14]) (by kernel_rfl) (by simp) ?_
              refine AllReadyH.cons (o := ⟨_, _, _, _, _, _⟩) rfl (fun K hK => ?_) AllReadyH.nil
              go_simp
              refine hK.out _ _ trivial (fun _ => ?_)
              clear hK K
              try simp only [Act.put, List.setIfInBounds_toArray, List.set_cons_zero, List.set_cons_succ]
              refine wpAnyH_ready (rs := [15]) (by kernel_rfl) (by simp) ?_
              refine AllReadyH.cons (o := ⟨_, _, _, _, _, _⟩) rfl (fun K hK => ?_) AllReadyH.nil
              refine wp_store_inG (.tmp 124) (.tmp 122) g _ c10 _ b (l1.set j fb) fa fa.cells rfl HX1.out.1 HLTB.out rfl rfl rfl (fun X2 hX2 hbX2 hfX2 => ?_)
              have HX2 := Lib.hid (And.intro hX2 (And.intro (HX1.out.2.1.trans hbX2) (HX1.out.2.2.trans hfX2)))
              clear hX2 hbX2 hfX2
              refine hK.out _ _ trivial (fun _ => ?_)
              clear hK K
              try simp only [Act.put, List.setIfInBounds_toArray, List.set_cons_zero, List.set_cons_succ]
              refine wpAnyH_done (by kernel_rfl) ?_ _
              go_wp2_with fail
              go_roundw
              case rel => exact ⟨j + 1, _, by go_num, by have := HH4.out; omega, Lib.hid ⟨HX2.out.1, fun f => (Fb.swap_mem HFA.out HFB.out f).trans (HS2.out.2.1 f), by rw [List.length_set, List.length_set]; exact HS2.out.2.2.1, HS2.out.2.2.2.1.trans (((Below.refl W1.heap.size wr).drew).trans HX2.out.2.1), (HS2.out.2.2.2.2.below (Below.refl _ _).drew).fr HX2.out.2.2⟩⟩
              case measure => simp [RowKit.intOf]; have := HH4.out; omega
            · have HH4 := Lib.hid h4
              have h4d : decide ((j : Int) < (m10 : Int) / 2) = false := by simp; omega
              clear h4
              go_wp2_with fail
              go_meet
              case rel => exact ⟨l1, HS2⟩
      case rest =>
        obtain ⟨l1, HC⟩ := hcut
        have HGI : Hid (∀ f ∈ l1, Fb.FactOk f) := Lib.hid (fun f hf => by
          obtain ⟨x, hx, rfl⟩ := List.mem_map.1 ((HC.out.2.1 f).1 hf)
          exact cF_ok (HBD.out.1 x hx).1)
        have hl1 : l1.length ≤ 1000000 := by have := HLEN.out; have := HC.out.2.2.1; omega
        have HL1 := Lib.hid hl1
        clear hl1
        go_wp2_with fail
        refine (Fb.of_any l1 u10 wc HL1.out HGI.out HC.out.1.facts).mono ?_
        rintro e W5 ⟨bs1, fs1, rfl, hl1, hb5, hp1, hs1⟩
        have hlw := Fb.facts_law its P (fun x hx => (HBD.out.1 x hx).1) HBD.out.2.1 l1 HC.out.2.1 fs1 hp1
        have hct := Fb.contract_any bs1 (fun q => fs1.filter (Fb.kindF q)) 7 P W5 hl1.read (fun q => Fb.perm_kind_len hp1 1000000 HL1.out q)
        rw [hlw.1, Option.isSome_map] at hct
        obtain ⟨r, hr⟩ : ∃ z, (Fb.runW P its).2 = z := ⟨_, rfl⟩
        have htx := text_get r
        have hwp := HWP.out
        rw [hr] at hct hlw hwp
        obtain ⟨T, hT⟩ : ∃ z, (r.map fun x => x.2.2).getD [] = z := ⟨_, rfl⟩
        rw [hT] at hwp htx
        have hTl : T.length ≤ 9223372036854775807 := by
          rw [← hT]
          cases r with
          | none => simp
          | some x =>
            have := Fb.runW_spec P its (fun x hx => (HBD.out.1 x hx).1) HBD.out.2.1
            rw [hr] at this
            have := (HBD.out.1 x this.2.1).1.2.2
            simp
            omega
        have hd : decide (0 ≤ B) = r.isSome := by rw [hlw.2, HBV.out]
        obtain ⟨D, hD⟩ : ∃ z, r.isSome = z := ⟨_, rfl⟩
        rw [hD] at hct hd
        have hci : (Tryz.prog.info? 47).map (·.size) = some ((r.map Fb.cF).getD Fb.zf).cells.size ∧ ((r.map Fb.cF).getD Fb.zf).cells.all (·.oneCell') = true ∧ z18f.size = ((r.map Fb.cF).getD Fb.zf).cells.size := ⟨Fb.fact_size, ((r.map Fb.cF).getD Fb.zf).cells_one, rfl⟩
        obtain ⟨c0, hc0⟩ : ∃ z, ((r.map Fb.cF).getD Fb.zf).cells = z := ⟨_, rfl⟩
        rw [hc0] at hct htx hci
        have HCT := Lib.hid hct
        have HTX := Lib.hid htx
        have HC0 := Lib.hid hci
        have HPA : Hid (∀ W, KAt W → Calls Tryz.prog 20 #[strV T] W (ParseEnd W (wn, 0, true))) := Lib.hid (fun W h => by have := parse_any T W h hTl; rw [hwp] at this; exact this)
        have HB5 : Hid (Below W1.heap.size W1 W5 ∧ WantAt W5 u11 wn) := Lib.hid ⟨HC.out.2.2.2.1.trans (hb5.mono HC.out.2.2.2.1.size), HC.out.2.2.2.2.below hb5⟩
        clear hl1 hb5 hp1 hs1 hlw hct hr htx hwp hT hTl hD hci hc0
        go_wp2_with fail
        refine HCT.out.mono ?_
        rintro e W6 ⟨rfl, hb6⟩
        have HB6 : Hid (Below W1.heap.size W1 W6 ∧ WantAt W6 u11 wn) := Lib.hid ⟨HB5.out.1.trans (hb6.mono HB5.out.1.size), HB5.out.2.below hb6⟩
        clear hb6
        obtain ⟨N6, hN6⟩ : ∃ z, W6.heap.size = z := ⟨_, rfl⟩
        obtain ⟨W7, hW7⟩ : ∃ z, W6.alloc (.cells c0 47) = z := ⟨_, rfl⟩
        have hr7 := RowAt.new W6 47 c0
        have hb7 := (Below.refl W6.heap.size W6).alloc (Nat.le_refl _) (.cells c0 47)
        rw [hW7] at hr7 hb7
        rw [hN6] at hr7
        have HB7 : Hid (Below W1.heap.size W1 W7 ∧ WantAt W7 u11 wn) := Lib.hid ⟨HB6.out.1.trans (hb7.mono HB6.out.1.size), HB6.out.2.below hb7⟩
        have hc7 : W7.cell? ⟨N6, 17, none⟩ = some (strV T) := by rw [hr7.cell]; exact HTX.out
        have HW7 := Lib.hid (And.intro hW7 hN6)
        clear hr7 hb7 hW7 hN6
        go_upto_region 30 with (first | ((with_reducible refine Fb.store_cs (o := ⟨none, _, _, _, _, _⟩) (.tmp 24) (.tmp 130) W6.heap.size rfl z18f c0 HC0.out.1 HC0.out.2.1 HC0.out.2.2 ?_ ?_ ?_ ?_ ?_); rfl; rfl; rfl; rfl))
        rw [HW7.out.1, HW7.out.2]
        go_wp2_with fail
        refine (HPA.out W7 (HK.out.mono (HB1.out.trans (HB7.out.1.mono HS1.out)))).mono ?_
        rintro e W8 ⟨v8, L8, rfl, hL8, ho8, hb8⟩
        have HT8 : Hid (TermsAt W8 v8 wn) := Lib.hid (by have := ho8.terms; rw [hL8] at this; exact this)
        have HB8 : Hid (Below W1.heap.size W1 W8 ∧ TermsAt W8 u11 wn) := Lib.hid ⟨HB7.out.1.trans (hb8.mono HB7.out.1.size), (HB7.out.2.below hb8).terms⟩
        have hss : sameTs wn wn = true := sameTs_iff.2 rfl
        have HSM := Lib.hid (rSame_any wn wn v8 u11 W8 (by have := HWOK.out.1; omega) (by have := HWOK.out.1; omega) HT8.out HB8.out.2 HWOK.out.2 HWOK.out.2)
        rw [hss] at HSM
        clear ho8 hb8 hL8 hss hc7
        dsimp only
        cases D
        all_goals
          go_wp2_with fail
          refine HSM.out.mono ?_
          rintro e W9 ⟨rfl, hb9⟩
          have HB9 := Lib.hid (HB8.out.1.trans (hb9.mono HB8.out.1.size))
          clear hb9
          go_wp2_with fail
          go_ret
          exact ⟨rfl, HB1.out.trans (HB9.out.mono HS1.out)⟩
end Go.Proofs.YtfiabonacpepnaaGreatDoor
