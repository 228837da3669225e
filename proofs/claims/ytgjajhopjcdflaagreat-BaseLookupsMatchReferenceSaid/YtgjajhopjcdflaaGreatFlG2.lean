import Derived.Test.YtgjajhopjcdflaaGreatFlF
import Derived.Test.YtgjajhopjcdflaaGreatFlI
import Derived.Test.YtgjajhopjcdflaaGreatFpB
import Derived.Test.YtgjajhopjcdflaaGreatFlE
namespace Go.Proofs.YtgjajhopjcdflaaGreat
open Go Go.RowKit Go.Lib Go.Shelf Go.Maps

theorem mkF_canon {l : List Int} {t : ByteArray} (h : l.length ≤ 17) : Canon (mkF l t) := by
  intro j hj
  show l.getD j 0 = 0
  rw [List.getD_eq_getElem?_getD, List.getElem?_eq_none (by omega)]; rfl
theorem makeF_canon (k a b v n p : Nat) : Canon (makeF k a b v n p) := by
  unfold makeF
  repeat' split
  all_goals exact mkF_canon (by simp)
theorem makeX_good (x : Nat → Int) : FactOk (makeX x) ∧ Canon (makeX x) := by
  have b1 := pickN_bd (x 1) 4 (by omega)
  have b2 := pickN_bd (x 2) 3 (by omega)
  have b3 := pickN_bd (x 3) 4 (by omega)
  have b4 := pickN_bd (x 4) 1000 (by omega)
  have b5 := pickN_bd (x 5) 4 (by omega)
  exact ⟨makeF_ok _ _ _ _ _ _ (by omega), makeF_canon _ _ _ _ _ _⟩
theorem factsL_good (X : Nat → Nat → Int) (fs : List FactV) (h : ∀ f ∈ fs, FactOk f ∧ Canon f) : ∀ i, ∀ f ∈ factsL X fs i, FactOk f ∧ Canon f
  | 0, f, hf => by simp [factsL] at hf
  | i + 1, f, hf => by
    simp only [factsL, List.mem_append, List.mem_singleton] at hf
    rcases hf with (hf | rfl) | hf
    · exact factsL_good X fs h i f hf
    · exact makeX_good _
    · split at hf
      · cases hx : fs[i]? with
        | none => rw [hx] at hf; simp at hf
        | some y => rw [hx] at hf; simp at hf; subst hf; exact h _ (List.mem_of_getElem? hx)
      · simp at hf
theorem tdiv7 (x : Int) (h1 : -9223372036854775808 ≤ x) (h2 : x ≤ 9223372036854775807) : -9223372036854775808 ≤ x.tdiv 7 ∧ x.tdiv 7 ≤ 9223372036854775807 := by
  by_cases h : 0 ≤ x
  · rw [Int.tdiv_eq_ediv_of_nonneg h]; omega
  · have e : x.tdiv 7 = -((-x).tdiv 7) := by rw [Int.neg_tdiv, Int.neg_neg]
    rw [e, Int.tdiv_eq_ediv_of_nonneg (by omega)]; omega
/-- two bases of the same facts, their lists read -/
theorem two_bases {l m fs gs : List FactV} (hl : ∀ f ∈ l, Canon f) (hlm : ∀ f, f ∈ l ↔ f ∈ m) (h1 : fs.Perm (bestL l)) (h2 : gs.Perm (bestL m)) (s1 : fs.Pairwise (fun a b => kLt (kT a) (kT b))) (s2 : gs.Pairwise (fun a b => kLt (kT a) (kT b))) :
    sameBs (fun q => fs.filter (kindF q)) (fun q => gs.filter (kindF q)) = true := by
  rw [base_set hl hlm h1 h2 s1 s2]
  exact sameBs_refl _
theorem stepB_len (L : List FactV) (f : FactV) : (stepB L f).length ≤ L.length + 1 := by
  unfold stepB
  split
  · split
    · exact putL_len L f
    · split
      · exact putL_len L f
      · omega
  · omega
theorem bestL_len (l : List FactV) : (bestL l).length ≤ l.length := by
  have h : ∀ (l L : List FactV), (l.foldl stepB L).length ≤ L.length + l.length := by
    intro l
    induction l with
    | nil => intro L; simp
    | cons x l ih => intro L; have := ih (stepB L x); have h2 := stepB_len L x; simp only [List.foldl_cons, List.length_cons]; omega
  have := h l []
  simpa [bestL] using this
theorem perm_kind_len {fs l : List FactV} (h : fs.Perm (bestL l)) (n : Nat) (hn : l.length ≤ n) (q : Nat) : (fs.filter (kindF q)).length ≤ n := by
  have h1 := List.length_filter_le (kindF q) fs
  have h2 := h.length_eq
  have h3 := bestL_len l
  omega
theorem OwnF.block {w : World} {base n c : Nat} {A : Option Addr} {l : List FactV} (h : OwnF w base (.slice A n c) l) (h0 : 0 < l.length) : ∃ g, A = some ⟨g, 0, none⟩ := by
  rcases h.2 with ⟨h1, h2⟩ | ⟨g, cap, cur, hv, _⟩
  · omega
  · cases hv; exact ⟨g, rfl⟩
theorem OwnF.get {w : World} {base n c g : Nat} {l : List FactV} (h : OwnF w base (.slice (some ⟨g, 0, none⟩) n c) l) {i : Nat} {f : FactV} (hf : l[i]? = some f) : ∀ j x, f.cells[j]? = some x → w.cell? ⟨g, i * 18 + j, none⟩ = some x := by
  obtain ⟨b, o, e, _, hc⟩ := h.facts.get hf
  rcases h.2 with ⟨h1, h2⟩ | ⟨g', cap, cur, hv, _, hg, hnc, _, hcs, ht⟩
  · cases h1
  · cases hv
    intro j x hx
    have h1 := ffCells_get l i f hf j x hx
    have h2 := (List.getElem?_eq_some_iff.1 h1).1
    rw [ffCells_len] at h2
    rw [cell_of_row w g _ cur _ _ hg, ← Array.getElem?_toList]
    rw [← ht, List.getElem?_take_of_lt (by omega)] at h1
    exact h1
end Go.Proofs.YtgjajhopjcdflaaGreat
namespace Go.Proofs.YtgjajhopjcdflaaGreat
open Go Go.RowKit Go.Lib Go.Shelf Go.Maps

def sna : FactV := mkF [5, 5, 1, 0, 0, 0, 0, 0, 0, 0, 0, 0, 0, 10, 0, 0, 0] ⟨#[]⟩
def sb : FactV := mkF [5, 5, 2, 0, 0, 0, 0, 0, 0, 0, 0, 0, 0, 7, 0, 0, 0] ⟨#[]⟩
def sc : FactV := mkF [10, 0, 1, 0, 0, 0, 0, 0, 2, 0, 0, 3, 0, 0, 0, 0, 2] ⟨#[]⟩
def ca : FactV := mkF [0, 0, 0, 0, 0, 0, 0, 0, 0, 4, 0, 0, 0, 0, 0, 0, 0] ⟨#[]⟩
def cb : FactV := mkF [0, 0, 0, 0, 0, 0, 0, 0, 0, 4, 0, 3, 0, 0, 0, 0, 0] ⟨#[120]⟩
def cc : FactV := mkF [0, 0, 0, 0, 0, 0, 0, 0, 0, 4, 0, 6, 0, 0, 0, 0, 0] ⟨#[]⟩
def LB (q : Nat) : List FactV := [sb, sc].filter (kindF q)
def LC (q : Nat) : List FactV := if q = 3 then [ca, cb, cc] else []
theorem sane_best : bestL [sna, sb, sc] = [sb, sc] := rfl
theorem sane_fs {fs : List FactV} (h1 : fs.Perm (bestL [sna, sb, sc])) (h2 : fs.Pairwise (fun a b => kLt (kT a) (kT b))) : fs = [sb, sc] :=
  sorted_unique fs [sb, sc] h2 (by
    refine List.pairwise_cons.2 ⟨fun x hx => ?_, List.pairwise_cons.2 ⟨fun x hx => by simp at hx, .nil⟩⟩
    rw [List.mem_singleton.1 hx]
    exact .inl (by decide)) (fun f => by rw [← sane_best]; exact h1.mem_iff)
theorem sane_contract : contractF LC 4 5 = some cb := rfl
theorem sane_method2 : methV (methodF LB 2 2) = 1 := rfl
theorem sane_method3 : methV (methodF LB 2 3) = 2 := rfl
theorem sane_rate0 : rateSpec (LC 6) 0 5 = (1000000, true) := rfl
theorem sane_rate3 : (rateSpec (LC 6) 3 5).2 = false := rfl
theorem sane_same2 : sameBs LB LC = false := rfl
theorem sane_LB4 : LB 4 = [sb] := rfl
theorem sane_LB9 : LB 9 = [sc] := rfl
theorem sane_hol : holdersF LC = [4] := by
  have e : hol (LC 2) ++ hol (LC 3) = [4, 4, 4] := rfl
  unfold holdersF
  rw [e]
  have h : sortI [4, 4, 4] = [4, 4, 4] := List.mergeSort_of_pairwise (by decide)
  rw [h]
  rfl
theorem LB_len (q : Nat) : (LB q).length ≤ 1000000 := Nat.le_trans (List.length_filter_le _ _) (by simp)
theorem LC_len (q : Nat) : (LC q).length ≤ 1000000 := by unfold LC; split <;> simp
theorem sane_ok : ∀ f ∈ [sna, sb, sc], FactOk f := by
  intro f hf
  simp only [List.mem_cons, List.not_mem_nil, or_false] at hf
  rcases hf with rfl | rfl | rfl
  all_goals
    refine mkF_ok ?_
    intro x hx
    simp only [List.mem_cons, List.not_mem_nil, or_false] at hx
    omega
/-- a new block of facts reads as their list -/
theorem facts_new (w : World) (l : List FactV) (C : Array Value) (h : C = (ffCells l).toArray) : FactsAt (w.alloc (.cells C 34)) (.slice (some ⟨w.heap.size, 0, none⟩) l.length l.length) l := by
  subst h
  refine .inr ⟨_, _, _, rfl, by simp, fun i f hf j x hx => ?_⟩
  have h1 := ffCells_get l i f hf j x hx
  have hrow := (RowAt.new w 34 (ffCells l).toArray).cell (i * 18 + j)
  rw [Nat.zero_add, hrow]
  simpa using h1
end Go.Proofs.YtgjajhopjcdflaaGreat
namespace Go.Proofs.YtgjajhopjcdflaaGreat
open Go Go.RowKit Go.Lib Go.Shelf Go.Maps

theorem store_nbase {ops : Array Oper} {rest : List Oper} {o : Oper} {a : Act} {w : World} {Q : Exit → Act → World → Prop} (x y : Operand) (N : Nat) (hN : w.heap.size = N) (c cs : Array Value) (hi : (Tryz.prog.info? 27).map (·.size) = some cs.size) (hone : cs.all (·.oneCell') = true)
    (hs : c.size = cs.size) (hgd : o.guard = none) (ho : o.op = .store 27 x y) (hx : a.eval x = .pointer (some ⟨N, 0, none⟩)) (hy : a.eval y = .agg cs)
    (h : wpList Tryz.prog ops Q rest (a.put o.dst undef) (w.alloc (.cells cs 27))) : wpList Tryz.prog ops Q (o :: rest) a (w.alloc (.cells c 27)) := by
  subst hN
  exact wpList_store_new hgd _ x y ho hx c cs hy hi hs hone h
/-- a guarded load of a base that is wanted -/
theorem load_baseg {ops : Array Oper} {rest : List Oper} {o : Oper} {a : Act} {w : World} {Q : Exit → Act → World → Prop} (x : Operand) (b : Nat) (cs : Array Value) (hr : RowAt w b 27 cs) (hi : (Tryz.prog.info? 27).map (·.size) = some cs.size)
    (hw : Region.wanted o (yielded ops a.tmps) = true) (ho : o.op = .load 27 x) (hx : a.eval x = .pointer (some ⟨b, 0, none⟩))
    (h : wpList Tryz.prog ops Q rest (a.put o.dst (.agg cs)) w) : wpList Tryz.prog ops Q (o :: rest) a w := by
  refine wpList_step fun K hK => ?_
  rw [if_pos hw]
  exact wp_load_at _ x ho b 0 hx cs _ (fun j v h => by rw [Nat.zero_add, hr.cell]; exact h) Tryz.underlying27 rfl hi (hK _ _ h)
abbrev zb10 : Array Value := #[.slice none 0 0, .slice none 0 0, .slice none 0 0, .slice none 0 0, .slice none 0 0, .slice none 0 0, .slice none 0 0, .slice none 0 0, .slice none 0 0, .slice none 0 0]
structure SaneW (w : World) (B C : Nat) (bs cs : Array Value) (W : World) : Prop where
  rowB : RowAt W B 27 bs
  rowC : RowAt W C 27 cs
  rb : BaseR W bs LB
  rc : BaseR W cs LC
  below : Below w.heap.size w W
theorem SaneW.more {w W W' : World} {B C : Nat} {bs cs : Array Value} (h : SaneW w B C bs cs W) (hb : Below W.heap.size W W') : SaneW w B C bs cs W' :=
  ⟨h.rowB.below hb h.rowB.lt, h.rowC.below hb h.rowC.lt, h.rb.more hb, h.rc.more hb, h.below.trans (hb.mono h.below.size)⟩
def csA (N : Nat) : Array Value := #[.slice none 0 0, .slice none 0 0, .slice none 0 0, .slice (some ⟨N, 0, none⟩) 3 3, .slice none 0 0, .slice none 0 0, .slice none 0 0, .slice none 0 0, .slice none 0 0, .slice none 0 0]
theorem sane_start {w W1 : World} {b : Nat} {bs : Array Value} (hl : Lists W1 b bs [sb, sc]) (hb : Below w.heap.size w W1) :
    SaneW w W1.heap.size (W1.heap.size + 2) bs (csA (W1.heap.size + 1)) (((W1.alloc (.cells bs 27)).alloc (.cells (ffCells [ca, cb, cc]).toArray 34)).alloc (.cells (csA (W1.heap.size + 1)) 27)) := by
  have h2 := facts_new (W1.alloc (.cells bs 27)) [ca, cb, cc] _ rfl
  have e1 : (W1.alloc (.cells bs 27)).heap.size = W1.heap.size + 1 := by simp
  rw [e1] at h2
  have h3 := h2.more ((Below.refl _ _).alloc (Nat.le_refl _) (.cells (csA (W1.heap.size + 1)) 27))
  have hn := RowAt.new ((W1.alloc (.cells bs 27)).alloc (.cells (ffCells [ca, cb, cc]).toArray 34)) 27 (csA (W1.heap.size + 1))
  have e2 : ((W1.alloc (.cells bs 27)).alloc (.cells (ffCells [ca, cb, cc]).toArray 34)).heap.size = W1.heap.size + 2 := by simp
  rw [e2] at hn
  have hbb : Below W1.heap.size W1 (((W1.alloc (.cells bs 27)).alloc (.cells (ffCells [ca, cb, cc]).toArray 34)).alloc (.cells (csA (W1.heap.size + 1)) 27)) := (((Below.refl _ _).alloc (Nat.le_refl _) _).alloc (by simp) _).alloc (by simp; omega) _
  refine ⟨((RowAt.new W1 _ _).alloc _).alloc _, hn, (hl.read.more hbb), ⟨rfl, fun q hq => ?_⟩, hb.trans (hbb.mono hb.size)⟩
  rcases (by omega : q = 0 ∨ q = 1 ∨ q = 2 ∨ q = 3 ∨ q = 4 ∨ q = 5 ∨ q = 6 ∨ q = 7 ∨ q = 8 ∨ q = 9) with rfl | rfl | rfl | rfl | rfl | rfl | rfl | rfl | rfl | rfl
  case inr.inr.inr.inl => exact ⟨_, rfl, h3⟩
  all_goals exact ⟨_, rfl, .inl ⟨rfl, none, 0, rfl⟩⟩
theorem s_con {cs : Array Value} (W : World) (h : BaseR W cs LC) : Calls Tryz.prog 12 #[.agg cs, .int .i64 4, .int .i64 5] W fun e w' => e = .returned (.tuple #[.agg #[.int .i64 0, .int .i64 0, .int .i64 0, .int .i64 0, .int .i64 0, .int .i64 0, .int .i64 0, .int .i64 0, .int .i64 0, .int .i64 4, .int .i64 0, .int .i64 3, .int .i64 0, .int .i64 0, .int .i64 0, .int .i64 0, .int .i64 0, .string ⟨#[120]⟩], .bool true]) ∧ Below W.heap.size W w' := by
  have h := contract_any cs LC 4 5 W h LC_len
  rw [sane_contract] at h
  exact h
theorem s_rat0 {cs : Array Value} (W : World) (h : BaseR W cs LC) : Calls Tryz.prog 19 #[.agg cs, .int .i64 0, .int .i64 5] W fun e w' => e = .returned (.tuple #[.int .i64 1000000, .bool true]) ∧ Below W.heap.size W w' := rate_any cs LC 0 5 W h LC_len
theorem s_rat3 {cs : Array Value} (W : World) (h : BaseR W cs LC) : Calls Tryz.prog 19 #[.agg cs, .int .i64 3, .int .i64 5] W fun e w' => e = .returned (.tuple #[.int .i64 0, .bool false]) ∧ Below W.heap.size W w' := rate_any cs LC 3 5 W h LC_len
theorem s_sam1 {bs : Array Value} (W : World) (h : BaseR W bs LB) : Calls Tryz.prog 10 #[.agg bs, .agg bs] W fun e w' => e = .returned (.bool true) ∧ Below W.heap.size W w' := by
  have h := bsame_any bs bs LB LB W h h LB_len LB_len
  rw [sameBs_refl] at h
  exact h
theorem s_sam2 {bs cs : Array Value} (W : World) (h : BaseR W bs LB) (h2 : BaseR W cs LC) : Calls Tryz.prog 10 #[.agg bs, .agg cs] W fun e w' => e = .returned (.bool false) ∧ Below W.heap.size W w' := by
  have h := bsame_any bs cs LB LC W h h2 LB_len LC_len
  rw [sane_same2] at h
  exact h
theorem s_met2 {bs : Array Value} (W : World) (h : BaseR W bs LB) : Calls Tryz.prog 17 #[.agg bs, .int .i64 2, .int .i64 2] W fun e w' => e = .returned (.int .i64 1) ∧ Below W.heap.size W w' := by
  have h := method_any bs LB 2 2 W h LB_len
  rw [sane_method2] at h
  exact h
theorem s_met3 {bs : Array Value} (W : World) (h : BaseR W bs LB) : Calls Tryz.prog 17 #[.agg bs, .int .i64 2, .int .i64 3] W fun e w' => e = .returned (.int .i64 2) ∧ Below W.heap.size W w' := by
  have h := method_any bs LB 2 3 W h LB_len
  rw [sane_method3] at h
  exact h
theorem s_hol {cs : Array Value} (W : World) (h : BaseR W cs LC) : Calls Tryz.prog 25 #[.agg cs] W fun e w' => ∃ A c, e = .returned (.slice A 1 c) ∧ Below W.heap.size W w' := by
  refine (holders_any cs LC W h LC_len).mono ?_
  rintro e w' ⟨v, rfl, hr, hb⟩
  rw [sane_hol] at hr
  obtain ⟨A, c, rfl, _⟩ := hr
  exact ⟨A, c, rfl, hb⟩
theorem s_rev {w W : World} {B C : Nat} {bs cs : Array Value} (h : SaneW w B C bs cs W) : ∃ g o c, (∀ W', Below W.heap.size W W' → W'.cell? ⟨B, 4, none⟩ = some (.slice (some ⟨g, o, none⟩) 1 c)) ∧ ∀ W', Below W.heap.size W W' → W'.cell? ⟨g, o + 13, none⟩ = some (.int .i64 7) := by
  obtain ⟨v, hv, hf⟩ := h.rb.at_ 4 (by omega)
  rw [sane_LB4] at hf
  rcases hf with ⟨h0, _⟩ | ⟨g, o, c, rfl, hlt, hc⟩
  · cases h0
  · refine ⟨g, o, c, fun W' hb => ?_, fun W' hb => ?_⟩
    · rw [(h.rowB.below hb h.rowB.lt).cell]; exact hv
    · have := hc 0 sb rfl 13 (.int .i64 7) rfl
      rw [hb.cell (p := ⟨g, o + 13, none⟩) hlt]
      simpa using this
theorem s_met {w W : World} {B C : Nat} {bs cs : Array Value} (h : SaneW w B C bs cs W) : ∃ A c, ∀ W', Below W.heap.size W W' → W'.cell? ⟨B, 9, none⟩ = some (.slice A 1 c) := by
  obtain ⟨v, hv, hf⟩ := h.rb.at_ 9 (by omega)
  rw [sane_LB9] at hf
  obtain ⟨A, c, rfl⟩ := hf.sl
  exact ⟨A, c, fun W' hb => by rw [(h.rowB.below hb h.rowB.lt).cell]; exact hv⟩
set_option maxRecDepth 100000 in
set_option maxHeartbeats 8000000 in
theorem sane_yes (w : World) : Calls Tryz.prog 5 #[] w fun e w' => e = .returned (.bool true) ∧ Below w.heap.size w w' := by
  go_enter Tryz.func5, Tryz.ntmps5
  go_wp2_with fail
  refine (of_any [sna, sb, sc] _ _ (by decide) sane_ok (facts_new w [sna, sb, sc] _ (by rfl))).mono ?_
  rintro e W1 ⟨bs, fs, rfl, hl, hb1, hp, hs⟩
  obtain rfl := sane_fs hp hs
  have HL := Lib.hid hl
  have HB1 : Hid (Below w.heap.size w W1) := Lib.hid (((Below.refl _ _).alloc (Nat.le_refl _) _).trans (hb1.mono (by simp)))
  have HONE := Lib.hid hl.one
  have HI : Hid ((Tryz.prog.info? 27).map (·.size) = some bs.size) := Lib.hid (by rw [hl.size]; exact base_size)
  have HZ : Hid (zb10.size = bs.size) := Lib.hid (by rw [hl.size]; rfl)
  clear hl hb1 hp hs
  go_wp2_with (first | ((with_reducible refine store_nbase (o := ⟨none, _, _, _, _, _⟩) (.tmp 1) (.tmp 13) W1.heap.size rfl _ bs HI.out HONE.out HZ.out ?_ ?_ ?_ ?_ ?_); rfl; rfl; rfl; rfl))
  refine (s_con _ (sane_start HL.out HB1.out).rc).mono ?_
  rintro e W3 ⟨rfl, hb3⟩
  have HS3 : Hid (SaneW w W1.heap.size (W1.heap.size + 2) bs (csA (W1.heap.size + 1)) W3) := Lib.hid ((sane_start HL.out HB1.out).more hb3)
  have HI2 : Hid ((Tryz.prog.info? 27).map (·.size) = some (csA (W1.heap.size + 1)).size) := Lib.hid base_size
  obtain ⟨N, hN⟩ : ∃ z, W1.heap.size = z := ⟨_, rfl⟩
  rw [hN] at HS3 HI2 ⊢
  obtain ⟨cs, hcs⟩ : ∃ z, csA (N + 1) = z := ⟨_, rfl⟩
  rw [hcs] at HS3 HI2
  obtain ⟨g, o, c4, hq4, hq13⟩ := s_rev HS3.out
  obtain ⟨A9, c9, hq9⟩ := s_met HS3.out
  have HQ := Lib.hid (And.intro hq4 (And.intro hq13 hq9))
  have HS4 : Hid (SaneW w N (N + 2) bs cs (W3.alloc (.cells #[.int .i64 0, .int .i64 0, .int .i64 0, .int .i64 0, .int .i64 0, .int .i64 0, .int .i64 0, .int .i64 0, .int .i64 0, .int .i64 4, .int .i64 0, .int .i64 3, .int .i64 0, .int .i64 0, .int .i64 0, .int .i64 0, .int .i64 0, .string ⟨#[120]⟩] 34))) := Lib.hid (HS3.out.more ((Below.refl _ _).alloc (Nat.le_refl _) _))
  have hr11 := RowAt.new W3 34 #[.int .i64 0, .int .i64 0, .int .i64 0, .int .i64 0, .int .i64 0, .int .i64 0, .int .i64 0, .int .i64 0, .int .i64 0, .int .i64 4, .int .i64 0, .int .i64 3, .int .i64 0, .int .i64 0, .int .i64 0, .int .i64 0, .int .i64 0, .string ⟨#[120]⟩]
  have HR11 := Lib.hid hr11
  have HB4 := Lib.hid ((Below.refl W3.heap.size W3).alloc (Nat.le_refl _) (.cells #[.int .i64 0, .int .i64 0, .int .i64 0, .int .i64 0, .int .i64 0, .int .i64 0, .int .i64 0, .int .i64 0, .int .i64 0, .int .i64 4, .int .i64 0, .int .i64 3, .int .i64 0, .int .i64 0, .int .i64 0, .int .i64 0, .int .i64 0, .string ⟨#[120]⟩] 34))
  clear hb3 hN hcs hq4 hq13 hq9 hr11

  go_wp2_with (first | ((with_reducible refine load_base (o := ⟨some 25, _, _, _, _, _⟩) (.tmp 2) (N + 2) cs (fun j v h => by rw [Nat.zero_add, HS4.out.rowC.cell]; exact h) HI2.out ?_ ?_ ?_ ?_); rfl; rfl; rfl))
  refine (s_rat0 _ HS4.out.rc).mono ?_
  rintro e W5 ⟨rfl, hb5⟩
  have HS5 := Lib.hid (HS4.out.more hb5)
  have HB5 := Lib.hid (HB4.out.trans (hb5.mono HB4.out.size))
  have HR5 := Lib.hid (HR11.out.below hb5 HR11.out.lt)
  clear hb5
  go_wp2_with (first | ((with_reducible refine load_base (o := ⟨some 30, _, _, _, _, _⟩) (.tmp 2) (N + 2) cs (fun j v h => by rw [Nat.zero_add, HS5.out.rowC.cell]; exact h) HI2.out ?_ ?_ ?_ ?_); rfl; rfl; rfl))
  refine (s_rat3 _ HS5.out.rc).mono ?_
  rintro e W6 ⟨rfl, hb6⟩
  have HS6 := Lib.hid (HS5.out.more hb6)
  have HB6 := Lib.hid (HB5.out.trans (hb6.mono HB5.out.size))
  have HR6 := Lib.hid (HR5.out.below hb6 HR5.out.lt)
  have h64 := HQ.out.1 W6 HB6.out
  have h69 := HQ.out.2.2 W6 HB6.out
  clear hb6
  go_wp2_with (first | ((with_reducible refine load_baseg (o := ⟨some 45, _, _, _, _, _⟩) (.tmp 1) N bs HS6.out.rowB HI.out ?_ ?_ ?_ ?_); rfl; rfl; rfl) | ((with_reducible refine load_baseg (o := ⟨some 46, _, _, _, _, _⟩) (.tmp 1) N bs HS6.out.rowB HI.out ?_ ?_ ?_ ?_); rfl; rfl; rfl))
  refine (s_sam1 _ HS6.out.rb).mono ?_
  rintro e W7 ⟨rfl, hb7⟩
  have HS7 := Lib.hid (HS6.out.more hb7)
  have HB7 := Lib.hid (HB6.out.trans (hb7.mono HB6.out.size))
  have HR7 := Lib.hid (HR6.out.below hb7 HR6.out.lt)
  clear hb7 h64 h69
  go_wp2_with (first | ((with_reducible refine load_baseg (o := ⟨some 51, _, _, _, _, _⟩) (.tmp 1) N bs HS7.out.rowB HI.out ?_ ?_ ?_ ?_); rfl; rfl; rfl) | ((with_reducible refine load_baseg (o := ⟨some 52, _, _, _, _, _⟩) (.tmp 2) (N + 2) cs HS7.out.rowC HI2.out ?_ ?_ ?_ ?_); rfl; rfl; rfl))
  refine (s_sam2 _ HS7.out.rb HS7.out.rc).mono ?_
  rintro e W8 ⟨rfl, hb8⟩
  have HS8 := Lib.hid (HS7.out.more hb8)
  have HB8 := Lib.hid (HB7.out.trans (hb8.mono HB7.out.size))
  have HR8 := Lib.hid (HR7.out.below hb8 HR7.out.lt)
  have h84 := HQ.out.1 W8 HB8.out
  have h813 := HQ.out.2.1 W8 HB8.out
  clear hb8
  go_wp2_with (first | ((with_reducible refine load_baseg (o := ⟨some 62, _, _, _, _, _⟩) (.tmp 1) N bs HS8.out.rowB HI.out ?_ ?_ ?_ ?_); rfl; rfl; rfl))
  refine (s_met2 _ HS8.out.rb).mono ?_
  rintro e W9 ⟨rfl, hb9⟩
  have HS9 := Lib.hid (HS8.out.more hb9)
  have HR9 := Lib.hid (HR8.out.below hb9 HR8.out.lt)
  clear hb9 h84 h813
  go_wp2_with (first | ((with_reducible refine load_baseg (o := ⟨some 67, _, _, _, _, _⟩) (.tmp 1) N bs HS9.out.rowB HI.out ?_ ?_ ?_ ?_); rfl; rfl; rfl))
  refine (s_met3 _ HS9.out.rb).mono ?_
  rintro e W10 ⟨rfl, hb10⟩
  have HS10 := Lib.hid (HS9.out.more hb10)
  have hr10 := HR9.out.below hb10 HR9.out.lt
  have h1011 : W10.cell? ⟨W3.heap.size, 11, none⟩ = some (.int .i64 3) := by rw [hr10.cell]; rfl
  clear hb10 hr10
  go_wp2_with (first | ((with_reducible refine load_baseg (o := ⟨some 91, _, _, _, _, _⟩) (.tmp 2) (N + 2) cs HS10.out.rowC HI2.out ?_ ?_ ?_ ?_); rfl; rfl; rfl))
  refine (s_hol _ HS10.out.rc).mono ?_
  rintro e W11 ⟨A11, c11, rfl, hb11⟩
  have HB11 := Lib.hid (HS10.out.below.trans (hb11.mono HS10.out.below.size))
  clear hb11
  go_wp2_with fail
  go_ret
  exact ⟨rfl, HB11.out⟩
end Go.Proofs.YtgjajhopjcdflaaGreat
