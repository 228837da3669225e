/- BaseOrder: the walk. -/
import Derived.Test.YtgjajhopjcdflaaFlG2
import Derived.Test.YtgjajhopjcdflaaFlR
import Derived.Test.YtgjajhopjcdflaaFlF
import Derived.Test.YtgjajhopjcdflaaLawB
import Derived.Deep.CutRange
namespace Go.Proofs.Ytgjajhopjcdflaa
open Go Go.RowKit Go.Lib Go.Shelf Go.Maps

theorem mkF_canon {l : List Int} {t : ByteArray} (h : l.length ≤ 17) : Canon (mkF l t) := by
  intro j hj
  show l.getD j 0 = 0
  rw [List.getD_eq_getElem?_getD, List.getElem?_eq_none (by omega)]; rfl
theorem makeF_canon (k a b v n p : Nat) : Canon (makeF k a b v n p) := by
  unfold makeF
  repeat' split
  all_goals exact mkF_canon (by simp)
theorem makeX_good (x : Nat → Int) : FactOk (makeX x) ∧ Canon (makeX x) := by
  have b1 := pickN_bd (x 1) 4 (by omega)
  have b2 := pickN_bd (x 2) 3 (by omega)
  have b3 := pickN_bd (x 3) 4 (by omega)
  have b4 := pickN_bd (x 4) 1000 (by omega)
  have b5 := pickN_bd (x 5) 4 (by omega)
  exact ⟨makeF_ok _ _ _ _ _ _ (by omega), makeF_canon _ _ _ _ _ _⟩
theorem factsL_good (X : Nat → Nat → Int) (fs : List FactV) (h : ∀ f ∈ fs, FactOk f ∧ Canon f) : ∀ i, ∀ f ∈ factsL X fs i, FactOk f ∧ Canon f
  | 0, f, hf => by simp [factsL] at hf
  | i + 1, f, hf => by
    simp only [factsL, List.mem_append, List.mem_singleton] at hf
    rcases hf with (hf | rfl) | hf
    · exact factsL_good X fs h i f hf
    · exact makeX_good _
    · split at hf
      · cases hx : fs[i]? with
        | none => rw [hx] at hf; simp at hf
        | some y => rw [hx] at hf; simp at hf; subst hf; exact h _ (List.mem_of_getElem? hx)
      · simp at hf
theorem tdiv7 (x : Int) (h1 : -9223372036854775808 ≤ x) (h2 : x ≤ 9223372036854775807) : -9223372036854775808 ≤ x.tdiv 7 ∧ x.tdiv 7 ≤ 9223372036854775807 := by
  by_cases h : 0 ≤ x
  · rw [Int.tdiv_eq_ediv_of_nonneg h]; omega
  · have e : x.tdiv 7 = -((-x).tdiv 7) := by rw [Int.neg_tdiv, Int.neg_neg]
    rw [e, Int.tdiv_eq_ediv_of_nonneg (by omega)]; omega
/-- two bases of the same facts, their lists read -/
theorem two_bases {l m fs gs : List FactV} (hl : ∀ f ∈ l, Canon f) (hlm : ∀ f, f ∈ l ↔ f ∈ m) (h1 : fs.Perm (bestL l)) (h2 : gs.Perm (bestL m)) (s1 : fs.Pairwise (fun a b => kLt (kT a) (kT b))) (s2 : gs.Pairwise (fun a b => kLt (kT a) (kT b))) :
    sameBs (fun q => fs.filter (kindF q)) (fun q => gs.filter (kindF q)) = true := by
  rw [base_set hl hlm h1 h2 s1 s2]
  exact sameBs_refl _
theorem stepB_len (L : List FactV) (f : FactV) : (stepB L f).length ≤ L.length + 1 := by
  unfold stepB
  split
  · split
    · exact putL_len L f
    · split
      · exact putL_len L f
      · omega
  · omega
theorem bestL_len (l : List FactV) : (bestL l).length ≤ l.length := by
  have h : ∀ (l L : List FactV), (l.foldl stepB L).length ≤ L.length + l.length := by
    intro l
    induction l with
    | nil => intro L; simp
    | cons x l ih => intro L; have := ih (stepB L x); have h2 := stepB_len L x; simp only [List.foldl_cons, List.length_cons]; omega
  have := h l []
  simpa [bestL] using this
theorem perm_kind_len {fs l : List FactV} (h : fs.Perm (bestL l)) (n : Nat) (hn : l.length ≤ n) (q : Nat) : (fs.filter (kindF q)).length ≤ n := by
  have h1 := List.length_filter_le (kindF q) fs
  have h2 := h.length_eq
  have h3 := bestL_len l
  omega
theorem OwnF.block {w : World} {base n c : Nat} {A : Option Addr} {l : List FactV} (h : OwnF w base (.slice A n c) l) (h0 : 0 < l.length) : ∃ g, A = some ⟨g, 0, none⟩ := by
  rcases h.2 with ⟨h1, h2⟩ | ⟨g, cap, cur, hv, _⟩
  · omega
  · cases hv; exact ⟨g, rfl⟩
theorem OwnF.get {w : World} {base n c g : Nat} {l : List FactV} (h : OwnF w base (.slice (some ⟨g, 0, none⟩) n c) l) {i : Nat} {f : FactV} (hf : l[i]? = some f) : ∀ j x, f.cells[j]? = some x → w.cell? ⟨g, i * 18 + j, none⟩ = some x := by
  obtain ⟨b, o, e, _, hc⟩ := h.facts.get hf
  rcases h.2 with ⟨h1, h2⟩ | ⟨g', cap, cur, hv, _, hg, hnc, _, hcs, ht⟩
  · cases h1
  · cases hv
    intro j x hx
    have h1 := ffCells_get l i f hf j x hx
    have h2 := (List.getElem?_eq_some_iff.1 h1).1
    rw [ffCells_len] at h2
    rw [cell_of_row w g _ cur _ _ hg, ← Array.getElem?_toList]
    rw [← ht, List.getElem?_take_of_lt (by omega)] at h1
    exact h1
set_option linter.unusedSimpArgs false in
set_option maxRecDepth 100000 in
set_option maxHeartbeats 8000000 in
theorem order_yes (X : Nat → Nat → Int) (fs : List FactV) (m : Nat) (vx vf : Value) (A2 : Option Addr) (n2 c2 : Nat) (w : World) (hm : m ≤ 140737488351232) (hx : XsAt w vx m X) (hf : FactsAt w vf fs) (hfo : ∀ f ∈ fs, FactOk f ∧ Canon f) (hi : IntsIn w A2 n2) (hn2 : n2 ≤ 140737488351232) :
    Calls Try.prog 3 #[vx, vf, .slice A2 n2 c2] w fun e w' => e = .returned (.bool true) ∧ Below w.heap.size w w' := by
  obtain ⟨L, hL⟩ : ∃ z, factsL X fs (min m 50) = z := ⟨_, rfl⟩
  have hLl : L.length ≤ 100 := by have := factsL_len X fs (min m 50); rw [hL] at this; omega
  have hLg : ∀ f ∈ L, FactOk f ∧ Canon f := by rw [← hL]; exact factsL_good X fs hfo _
  have HLG := Lib.hid hLg
  have HLL := Lib.hid hLl
  have HI := Lib.hid hi
  have HF : Hid (∀ W, Below w.heap.size w W → Calls Try.prog 8 #[vx, vf] W fun e w' => ∃ v, e = .returned v ∧ OwnF w' W.heap.size v L ∧ Below W.heap.size W w') := Lib.hid (fun W hb => by
    have h := facts_any X fs m vx vf W hm (hx.more hb) (hf.more hb)
    rw [hL] at h
    exact h)
  clear hm hx hf hfo hi hL hLl hLg
  go_enter Try.func3, Try.ntmps3
  go_wp2_with fail
  refine (sane_yes _).mono ?_
  rintro e W1 ⟨rfl, hb1⟩
  have HB1 := Lib.hid hb1
  clear hb1
  go_wp2_with fail
  refine (HF.out W1 HB1.out).mono ?_
  rintro e W2 ⟨v8, rfl, ho8, hb2⟩
  have HB2 : Hid (Below w.heap.size w W2) := Lib.hid (HB1.out.trans (hb2.mono HB1.out.size))
  obtain ⟨A8, m8, c8, rfl⟩ := own_slice ho8
  have HO8 : Hid (FactsAt W2 (.slice A8 m8 c8) L) := Lib.hid ho8.facts
  clear ho8 hb2
  go_wp2_with (first | ((with_reducible refine build_nofacts (o := ⟨some 17, _, _, _, _, _⟩) ?_ ?_ ?_); rfl; rfl) | ((with_reducible refine append_facts (o := ⟨some 19, _, _, _, _, _⟩) (.tmp 17) (.tmp 18) W2.heap.size [] L _ (.slice A8 m8 c8) (own_zeroF W2) (HO8.out.more ((Below.refl _ _).alloc (Nat.le_refl _) _)) (by have := HLL.out; simp; omega) (by simp) ?_ ?_ ?_ ?_ ?_); rfl; rfl; rfl; rfl; intro v9 W3 hown3 hbl3; have H3 : Hid (OwnF W3 W2.heap.size v9 L ∧ Below W2.heap.size W2 W3) := Lib.hid ⟨hown3, (((Below.refl W2.heap.size W2).alloc (Nat.le_refl _) _).trans hbl3)⟩; clear hown3 hbl3))
  go_loopw [9, 10, 11, 12] (fun v9 v10 v11 v12 wr => ∃ (i : Nat) (l1 : List FactV), v10 = .int .i64 i ∧ i ≤ n2 ∧ i ≤ 100 ∧ Hid (OwnF wr W2.heap.size v9 l1 ∧ Below W2.heap.size W2 wr ∧ (∀ f, f ∈ L ↔ f ∈ l1) ∧ l1.length ≤ L.length + i)) (fun _ v10 _ _ _ => 100 - (RowKit.intOf v10).toNat)
  case atStart => exact ⟨0, L, rfl, by omega, by omega, Lib.hid ⟨H3.out.1, H3.out.2, fun _ => Iff.rfl, by omega⟩⟩
  case round =>
    obtain ⟨i, l1, rfl, hi, hi50, HS⟩ := hrel
    obtain ⟨k, hk⟩ : ∃ z, l1.length = z := ⟨_, rfl⟩
    obtain ⟨A9, m9, c9, rfl⟩ := own_slice HS.out.1
    obtain rfl : m9 = k := by
      obtain ⟨A', c', e⟩ := HS.out.1.facts.sl
      cases e
      exact hk
    have HK := Lib.hid hk
    clear hk
    have fin : ∀ W, W = wr → Hid (FactsAt W (.slice A8 m8 c8) L ∧ FactsAt W (.slice A9 m9 c9) l1) := fun W e => by
      subst e
      exact Lib.hid ⟨HO8.out.more HS.out.2.1, HS.out.1.facts⟩
    have HFIN := fin wr rfl
    clear fin
    by_cases h1 : i < n2
    · have h1d : decide (i < n2) = true := by simpa using h1
      by_cases h2 : i < 100
      · have h2d : decide ((i : Int) < 100) = true := by simp; omega
        by_cases h3 : 0 < m9
        · have h3d : decide (0 < m9) = true := by simpa using h3
          obtain ⟨b', o', xs, rfl, hlt', hxs⟩ := HI.out.resolve_left (by omega)
          obtain ⟨hx1, hx2, hx3⟩ := hxs i h1
          have HBW : Hid (Below w.heap.size w wr) := Lib.hid (HB2.out.trans (HS.out.2.1.mono HB2.out.size))
          have hcx : wr.cell? ⟨b', o' + i, none⟩ = some (.int .i64 (xs i)) := (HBW.out.cell (p := ⟨b', o' + i, none⟩) hlt').trans hx1
          obtain ⟨y, hy⟩ : ∃ z, xs i = z := ⟨_, rfl⟩
          rw [hy] at hcx hx2 hx3
          have hm9 : m9 ≤ 200 := by have := HK.out; have := HS.out.2.2.2; have := HLL.out; omega
          have hy7 := tdiv7 y hx2 hx3
          have P1 := Lib.hid (fun W => pick_any y m9 W hx2 hx3 (by omega) (by omega))
          have P2 := Lib.hid (fun W => pick_any (y.tdiv 7) m9 W hy7.1 hy7.2 (by omega) (by omega))
          have P3 := Lib.hid (fun W => pick_any y 3 W hx2 hx3 (by omega) (by omega))
          have q1 := pickN_bd y m9 (by omega)
          have q2 := pickN_bd (y.tdiv 7) m9 (by omega)
          have q3 := pickN_bd y 3 (by omega)
          obtain ⟨a, ha⟩ : ∃ z : Nat, pickN y m9 = (z : Int) := ⟨(pickN y m9).toNat, by omega⟩
          obtain ⟨b, hb⟩ : ∃ z : Nat, pickN (y.tdiv 7) m9 = (z : Int) := ⟨(pickN (y.tdiv 7) m9).toNat, by omega⟩
          obtain ⟨r, hr⟩ : ∃ z : Nat, pickN y 3 = (z : Int) := ⟨(pickN y 3).toNat, by omega⟩
          rw [ha] at P1 q1
          rw [hb] at P2 q2
          rw [hr] at P3 q3
          have ha2 : a < m9 := by omega
          have hb2 : b < m9 := by omega
          have HBO : Hid (b' < w.heap.size ∧ w.cell? ⟨b', o' + i, none⟩ = some (.int .i64 y)) := Lib.hid ⟨hlt', by rw [hx1, hy]⟩
          obtain ⟨g, rfl⟩ := HS.out.1.block (by have := HK.out; omega)
          obtain ⟨fa, hfa⟩ : ∃ x, l1[a]? = some x := ⟨_, List.getElem?_eq_getElem (by have := HK.out; omega)⟩
          obtain ⟨fb, hfb⟩ : ∃ x, l1[b]? = some x := ⟨_, List.getElem?_eq_getElem (by have := HK.out; omega)⟩
          have HOX : Hid (OwnF wr.drew W2.heap.size (.slice (some ⟨g, 0, none⟩) m9 c9) l1) := Lib.hid (HS.out.1.below (Below.refl _ _).drew)
          have HLA := Lib.hid (HOX.out.get hfa)
          have HLB := Lib.hid (HOX.out.get hfb)
          have HLTA : Hid (a < l1.length) := Lib.hid (List.getElem?_eq_some_iff.1 hfa).1
          have HLTB : Hid (b < (l1.set a fb).length) := Lib.hid (by rw [List.length_set]; exact (List.getElem?_eq_some_iff.1 hfb).1)
          have HSW : Hid (∀ f, f ∈ L ↔ f ∈ (l1.set a fb).set b fa) := Lib.hid (fun f => (HS.out.2.2.1 f).trans (swap_mem hfa hfb f).symm)
          obtain ⟨fm, hfm⟩ : ∃ x, ((l1.set a fb).set b fa)[a]? = some x := ⟨_, List.getElem?_eq_getElem (by rw [List.length_set, List.length_set]; exact HLTA.out)⟩
          have HFM := Lib.hid hfm
          have HLS : Hid (((l1.set a fb).set b fa).length = m9) := Lib.hid (by rw [List.length_set, List.length_set]; exact HK.out)
          have H12 := Lib.hid (And.intro h1 h2)
          clear ha hb hr q1 q2 hx1 hxs hy hfa hfb hfm hlt'
          go_wp2_with fail
          refine (P1.out _).mono ?_
          rintro e w' ⟨rfl, rfl⟩
          go_wp2_with fail
          refine (P2.out _).mono ?_
          rintro e w' ⟨rfl, rfl⟩
          go_wp2_with fail
          go_cut [] from 50 to 64 (fun wx => Hid (OwnF wx W2.heap.size (.slice (some ⟨g, 0, none⟩) m9 c9) ((l1.set a fb).set b fa) ∧ Below W2.heap.size wr wx))
          case first =>
            refine wp_region_held_drew (S := fun _ => True) (by kernel_rfl) trivial (fun hHeld => ?_)
            refine wpAnyH_take (i := 0) (oi := ⟨_, _, _, _, _, _⟩) (v := ?_) rfl (by kernel_rfl) (by kernel_rfl) (by kernel_rfl) (fun _ _ _ h => h) (Or.inl ⟨by rfl, ?_⟩) (by assumption) ?_
            rotate_left
            · intro w hSw
              go_simp
              all_goals with_reducible rfl
            simp only [Act.put, List.setIfInBounds_toArray, List.set_cons_zero, List.set_cons_succ]
            refine wpAnyH_take (i := 1) (oi := ⟨_, _, _, _, _, _⟩) (v := ?_) rfl (by kernel_rfl) (by kernel_rfl) (by kernel_rfl) (fun _ _ _ h => h) (Or.inl ⟨by rfl, ?_⟩) (by assumption) ?_
            rotate_left
            · intro w hSw
              go_simp
              all_goals with_reducible rfl
            simp only [Act.put, List.setIfInBounds_toArray, List.set_cons_zero, List.set_cons_succ]
            refine wpAnyH_take (i := 2) (oi := ⟨_, _, _, _, _, _⟩) (v := ?_) rfl (by kernel_rfl) (by kernel_rfl) (by kernel_rfl) (fun _ _ _ h => h) (Or.inl ⟨by rfl, ?_⟩) (by assumption) ?_
            rotate_left
            · intro w hSw
              go_simp
              all_goals with_reducible rfl
            simp only [Act.put, List.setIfInBounds_toArray, List.set_cons_zero, List.set_cons_succ]
            refine wpAnyH_take (i := 3) (oi := ⟨_, _, _, _, _, _⟩) (v := ?_) rfl (by kernel_rfl) (by kernel_rfl) (by kernel_rfl) (fun _ _ _ h => h) (Or.inl ⟨by rfl, ?_⟩) (by assumption) ?_
            rotate_left
            · intro w hSw
              go_simp
              all_goals with_reducible rfl
            simp only [Act.put, List.setIfInBounds_toArray, List.set_cons_zero, List.set_cons_succ]
            refine wpAnyH_take (i := 4) (oi := ⟨_, _, _, _, _, _⟩) (v := ?_) rfl (by kernel_rfl) (by kernel_rfl) (by kernel_rfl) (fun _ _ _ h => h) (Or.inl ⟨by rfl, ?_⟩) (by assumption) ?_
            rotate_left
            · intro w hSw
              go_simp
              all_goals with_reducible rfl
            simp only [Act.put, List.setIfInBounds_toArray, List.set_cons_zero, List.set_cons_succ]
            refine wpAnyH_take (i := 5) (oi := ⟨_, _, _, _, _, _⟩) (v := ?_) rfl (by kernel_rfl) (by kernel_rfl) (by kernel_rfl) (fun _ _ _ h => h) (Or.inl ⟨by rfl, ?_⟩) (by assumption) ?_
            rotate_left
            · intro w hSw
              go_simp
              all_goals with_reducible rfl
            simp only [Act.put, List.setIfInBounds_toArray, List.set_cons_zero, List.set_cons_succ]
            refine wpAnyH_take (i := 8) (oi := ⟨_, _, _, _, _, _⟩) (v := ?_) rfl (by kernel_rfl) (by kernel_rfl) (by kernel_rfl) (fun _ _ _ h => h) (Or.inl ⟨by rfl, ?_⟩) (by assumption) ?_
            rotate_left
            · intro w hSw
              go_simp
              all_goals with_reducible rfl
            simp only [Act.put, List.setIfInBounds_toArray, List.set_cons_zero, List.set_cons_succ]
            refine wpAnyH_take (i := 9) (oi := ⟨_, _, _, _, _, _⟩) (v := ?_) rfl (by kernel_rfl) (by kernel_rfl) (by kernel_rfl) (fun _ _ _ h => h) (Or.inl ⟨by rfl, ?_⟩) (by assumption) ?_
            rotate_left
            · intro w hSw
              go_simp
              all_goals with_reducible rfl
            simp only [Act.put, List.setIfInBounds_toArray, List.set_cons_zero, List.set_cons_succ]
            refine wpAnyH_take (i := 6) (oi := ⟨_, _, _, _, _, _⟩) (v := ?_) rfl (by kernel_rfl) (by kernel_rfl) (by kernel_rfl) (fun _ _ _ h => h) (Or.inl ⟨by rfl, ?_⟩) (by assumption) ?_
            rotate_left
            · intro w hSw
              go_simp
              all_goals with_reducible rfl
            simp only [Act.put, List.setIfInBounds_toArray, List.set_cons_zero, List.set_cons_succ]
            refine wpAnyH_take (i := 10) (oi := ⟨_, _, _, _, _, _⟩) (v := ?_) rfl (by kernel_rfl) (by kernel_rfl) (by kernel_rfl) (fun _ _ _ h => h) (Or.inl ⟨by rfl, ?_⟩) (by assumption) ?_
            rotate_left
            · intro w hSw
              go_simp
              all_goals with_reducible rfl
            simp only [Act.put, List.setIfInBounds_toArray, List.set_cons_zero, List.set_cons_succ]
            refine wpAnyH_ready (rs := [7, 11]) (by kernel_rfl) (by simp) ?_
            refine AllReadyH.cons (o := ⟨_, _, _, _, _, _⟩) rfl (fun K hK => ?_) ?_
            rotate_left
            · refine AllReadyH.cons (o := ⟨_, _, _, _, _, _⟩) rfl (fun K hK => ?_) AllReadyH.nil
              refine wp_load_at 29 (.tmp 60) rfl g (a * 18) rfl fa.cells _ HLA.out Try.underlying29 rfl fact_size ?_
              refine hK.out _ _ trivial (fun _ => ?_)
              clear hK K
              try simp only [Act.put, List.setIfInBounds_toArray, List.set_cons_zero, List.set_cons_succ]
              refine wpAnyH_ready (rs := [7]) (by kernel_rfl) (by simp) ?_
              refine AllReadyH.cons (o := ⟨_, _, _, _, _, _⟩) rfl (fun K hK => ?_) AllReadyH.nil
              refine wp_load_at 29 (.tmp 56) rfl g (b * 18) rfl fb.cells _ HLB.out Try.underlying29 rfl fact_size ?_
              refine hK.out _ _ trivial (fun _ => ?_)
              clear hK K
              try simp only [Act.put, List.setIfInBounds_toArray, List.set_cons_zero, List.set_cons_succ]
              refine wpAnyH_ready (rs := [12]) (by kernel_rfl) (by simp) ?_
              refine AllReadyH.cons (o := ⟨_, _, _, _, _, _⟩) rfl (fun K hK => ?_) AllReadyH.nil
              go_simp
              refine hK.out _ _ trivial (fun _ => ?_)
              clear hK K
              try simp only [Act.put, List.setIfInBounds_toArray, List.set_cons_zero, List.set_cons_succ]
              refine wpAnyH_ready (rs := [13]) (by kernel_rfl) (by simp) ?_
              refine AllReadyH.cons (o := ⟨_, _, _, _, _, _⟩) rfl (fun K hK => ?_) AllReadyH.nil
              refine wp_store_in (.tmp 62) (.tmp 57) g _ c9 _ a l1 fb fb.cells rfl HOX.out HLTA.out rfl rfl rfl (fun X1 hX1 hbX1 => ?_)
              have HX1 := Lib.hid (And.intro hX1 hbX1)
              clear hX1 hbX1
              refine hK.out _ _ trivial (fun _ => ?_)
              clear hK K
              try simp only [Act.put, List.setIfInBounds_toArray, List.set_cons_zero, List.set_cons_succ]
              refine wpAnyH_ready (rs := [14]) (by kernel_rfl) (by simp) ?_
              refine AllReadyH.cons (o := ⟨_, _, _, _, _, _⟩) rfl (fun K hK => ?_) AllReadyH.nil
              go_simp
              refine hK.out _ _ trivial (fun _ => ?_)
              clear hK K
              try simp only [Act.put, List.setIfInBounds_toArray, List.set_cons_zero, List.set_cons_succ]
              refine wpAnyH_ready (rs := [15]) (by kernel_rfl) (by simp) ?_
              refine AllReadyH.cons (o := ⟨_, _, _, _, _, _⟩) rfl (fun K hK => ?_) AllReadyH.nil
              refine wp_store_in (.tmp 63) (.tmp 61) g _ c9 _ b (l1.set a fb) fa fa.cells rfl HX1.out.1 HLTB.out rfl rfl rfl (fun X2 hX2 hbX2 => ?_)
              have HX2 := Lib.hid (And.intro hX2 (HX1.out.2.trans hbX2))
              clear hX2 hbX2
              refine hK.out _ _ trivial (fun _ => ?_)
              clear hK K
              try simp only [Act.put, List.setIfInBounds_toArray, List.set_cons_zero, List.set_cons_succ]
              refine wpAnyH_done (by kernel_rfl) ?_ _
              go_wp2_with fail
              go_meet
              case rel => exact Lib.hid ⟨HX2.out.1, ((Below.refl W2.heap.size wr).drew).trans HX2.out.2⟩
            refine wp_load_at 29 (.tmp 56) rfl g (b * 18) rfl fb.cells _ HLB.out Try.underlying29 rfl fact_size ?_
            refine hK.out _ _ trivial (fun _ => ?_)
            clear hK K
            try simp only [Act.put, List.setIfInBounds_toArray, List.set_cons_zero, List.set_cons_succ]
            refine wpAnyH_ready (rs := [11]) (by kernel_rfl) (by simp) ?_
            refine AllReadyH.cons (o := ⟨_, _, _, _, _, _⟩) rfl (fun K hK => ?_) AllReadyH.nil
            refine wp_load_at 29 (.tmp 60) rfl g (a * 18) rfl fa.cells _ HLA.out Try.underlying29 rfl fact_size ?_
            refine hK.out _ _ trivial (fun _ => ?_)
            clear hK K
            try simp only [Act.put, List.setIfInBounds_toArray, List.set_cons_zero, List.set_cons_succ]
            refine wpAnyH_ready (rs := [12]) (by kernel_rfl) (by simp) ?_
            refine AllReadyH.cons (o := ⟨_, _, _, _, _, _⟩) rfl (fun K hK => ?_) AllReadyH.nil
            go_simp
            refine hK.out _ _ trivial (fun _ => ?_)
            clear hK K
            try simp only [Act.put, List.setIfInBounds_toArray, List.set_cons_zero, List.set_cons_succ]
            refine wpAnyH_ready (rs := [13]) (by kernel_rfl) (by simp) ?_
            refine AllReadyH.cons (o := ⟨_, _, _, _, _, _⟩) rfl (fun K hK => ?_) AllReadyH.nil
            refine wp_store_in (.tmp 62) (.tmp 57) g _ c9 _ a l1 fb fb.cells rfl HOX.out HLTA.out rfl rfl rfl (fun X1 hX1 hbX1 => ?_)
            have HX1 := Lib.hid (And.intro hX1 hbX1)
            clear hX1 hbX1
            refine hK.out _ _ trivial (fun _ => ?_)
            clear hK K
            try simp only [Act.put, List.setIfInBounds_toArray, List.set_cons_zero, List.set_cons_succ]
            refine wpAnyH_ready (rs := [14]) (by kernel_rfl) (by simp) ?_
            refine AllReadyH.cons (o := ⟨_, _, _, _, _, _⟩) rfl (fun K hK => ?_) AllReadyH.nil
            go_simp
            refine hK.out _ _ trivial (fun _ => ?_)
            clear hK K
            try simp only [Act.put, List.setIfInBounds_toArray, List.set_cons_zero, List.set_cons_succ]
            refine wpAnyH_ready (rs := [15]) (by kernel_rfl) (by simp) ?_
            refine AllReadyH.cons (o := ⟨_, _, _, _, _, _⟩) rfl (fun K hK => ?_) AllReadyH.nil
            refine wp_store_in (.tmp 63) (.tmp 61) g _ c9 _ b (l1.set a fb) fa fa.cells rfl HX1.out.1 HLTB.out rfl rfl rfl (fun X2 hX2 hbX2 => ?_)
            have HX2 := Lib.hid (And.intro hX2 (HX1.out.2.trans hbX2))
            clear hX2 hbX2
            refine hK.out _ _ trivial (fun _ => ?_)
            clear hK K
            try simp only [Act.put, List.setIfInBounds_toArray, List.set_cons_zero, List.set_cons_succ]
            refine wpAnyH_done (by kernel_rfl) ?_ _
            go_wp2_with fail
            go_meet
            case rel => exact Lib.hid ⟨HX2.out.1, ((Below.refl W2.heap.size wr).drew).trans HX2.out.2⟩
          case rest =>
            obtain ⟨l2, hl2⟩ : ∃ z, (l1.set a fb).set b fa = z := ⟨_, rfl⟩
            rw [hl2] at hcut HSW HFM HLS
            have HBC : Hid (Below W2.heap.size W2 wc) := Lib.hid (HS.out.2.1.trans hcut.out.2)
            have hcy : wc.cell? ⟨b', o' + i, none⟩ = some (.int .i64 y) := ((HB2.out.trans (HBC.out.mono HB2.out.size)).cell (p := ⟨b', o' + i, none⟩) HBO.out.1).trans HBO.out.2
            clear hl2 hcx
            go_wp2_with fail
            refine (P3.out _).mono ?_
            rintro e w' ⟨rfl, rfl⟩
            rcases (by omega : r = 0 ∨ r = 1 ∨ r = 2) with rfl | rfl | rfl
            · have HLM := Lib.hid (hcut.out.1.get HFM.out)
              have HIM : Hid ((Try.prog.info? 29).map (·.size) = some fm.cells.size) := Lib.hid fact_size
              have HNM : Hid (∀ (j2 : Nat) u, fm.cells.toList[j2]? = some u → (wc.alloc (.cells fm.cells 29)).cell? ((⟨wc.heap.size, 0, none⟩ : Addr).add j2) = some u) := Lib.hid (fact_new wc fm _)
              have HOM : Hid (OwnF (wc.alloc (.cells fm.cells 29)) W2.heap.size (.slice (some ⟨g, 0, none⟩) m9 c9) l2) := Lib.hid (hcut.out.1.below ((Below.refl _ _).alloc (Nat.le_refl _) _))
              have HLM2 : Hid (l2.length ≤ 1000000) := Lib.hid (by rw [HLS.out]; omega)
              have HSZ : Hid (W2.heap.size ≤ (wc.alloc (.cells fm.cells 29)).heap.size) := Lib.hid (Nat.le_trans HBC.out.size (by simp))
              have HBD : Hid (Below W2.heap.size W2 (wc.alloc (.cells fm.cells 29))) := Lib.hid (HBC.out.alloc HBC.out.size _)
              go_wp2_with (first | ((with_reducible refine load_at (o := ⟨some 74, _, _, _, _, _⟩) (.tmp 73) g (a * 18) fm.cells HLM.out HIM.out ?_ ?_ ?_ ?_); rfl; rfl; rfl) | ((with_reducible refine build_fact (o := ⟨some 75, _, _, _, _, _⟩) (.tmp 74) fm.cells fm rfl ?_ ?_ ?_ ?_); rfl; rfl; rfl) | ((with_reducible refine append_fact (o := ⟨some 76, _, _, _, _, _⟩) (.tmp 70) (.tmp 75) W2.heap.size l2 fm wc.heap.size _ HOM.out HLM2.out HSZ.out HNM.out ?_ ?_ ?_ ?_ ?_); rfl; rfl; rfl; rfl; intro v4 W4 hown4 hbl4; have H4 := Lib.hid (And.intro hown4 (HBD.out.trans hbl4)); clear hown4 hbl4))
              go_roundw
              case rel =>
                refine ⟨i + 1, l2 ++ [fm], by go_num, by have := H12.out; omega, by have := H12.out; omega, Lib.hid ⟨H4.out.1, H4.out.2, fun f => (HSW.out f).trans ?_, ?_⟩⟩
                · rw [List.mem_append, List.mem_singleton]
                  exact ⟨.inl, fun h => h.elim id (fun e => e ▸ List.mem_of_getElem? HFM.out)⟩
                · have := HS.out.2.2.2
                  rw [List.length_append, HLS.out, List.length_singleton]
                  have := HK.out
                  omega
              case measure => simp [RowKit.intOf]; have := H12.out; omega
            all_goals
              go_wp2_with fail
              go_roundw
              case rel => exact ⟨i + 1, l2, by go_num, by have := H12.out; omega, by have := H12.out; omega, Lib.hid ⟨hcut.out.1, HBC.out, HSW.out, by have := HS.out.2.2.2; have := HK.out; rw [HLS.out]; omega⟩⟩
              case measure => simp [RowKit.intOf]; have := H12.out; omega
        · have h3d : decide (0 < m9) = false := by simp; omega
          go_wp2_with fail
          refine (of_any L _ wr (by have := HLL.out; omega) (fun f hf => (HLG.out f hf).1) HFIN.out.1).mono ?_
          rintro e W5 ⟨bs1, fs1, rfl, hl1, hb5, hp1, hs1⟩
          have H5 := Lib.hid (And.intro hl1.read (And.intro hp1 (And.intro hs1 hb5)))
          clear hl1 hp1 hs1 hb5
          go_wp2_with fail
          refine (of_any l1 _ W5 (by have := HLL.out; have := HS.out.2.2.2; omega) (fun f hf => (HLG.out f ((HS.out.2.2.1 f).2 hf)).1) (HFIN.out.2.more H5.out.2.2.2)).mono ?_
          rintro e W6 ⟨bs2, fs2, rfl, hl2, hb6, hp2, hs2⟩
          have HSM := bsame_any bs1 bs2 _ _ W6 (H5.out.1.more hb6) hl2.read (perm_kind_len H5.out.2.1 1000000 (by have := HLL.out; omega)) (perm_kind_len hp2 1000000 (by have := HLL.out; have := HS.out.2.2.2; omega))
          rw [two_bases (fun f hf => (HLG.out f hf).2) HS.out.2.2.1 H5.out.2.1 hp2 H5.out.2.2.1 hs2] at HSM
          have HSM := Lib.hid HSM
          have H6 := Lib.hid hb6
          clear hl2 hb6 hp2 hs2
          go_wp2_with fail
          refine HSM.out.mono ?_
          rintro e W7 ⟨rfl, hb7⟩
          have H7 := Lib.hid hb7
          clear hb7
          go_wp2_with fail
          go_ret
          have hbr := HB2.out.trans (HS.out.2.1.mono HB2.out.size)
          have hb5 := hbr.trans (H5.out.2.2.2.mono hbr.size)
          have hb6 := hb5.trans (H6.out.mono hb5.size)
          exact ⟨rfl, hb6.trans (H7.out.mono hb6.size)⟩
      · have h2d : decide ((i : Int) < 100) = false := by simp; omega
        go_wp2_with fail
        refine (of_any L _ wr (by have := HLL.out; omega) (fun f hf => (HLG.out f hf).1) HFIN.out.1).mono ?_
        rintro e W5 ⟨bs1, fs1, rfl, hl1, hb5, hp1, hs1⟩
        have H5 := Lib.hid (And.intro hl1.read (And.intro hp1 (And.intro hs1 hb5)))
        clear hl1 hp1 hs1 hb5
        go_wp2_with fail
        refine (of_any l1 _ W5 (by have := HLL.out; have := HS.out.2.2.2; omega) (fun f hf => (HLG.out f ((HS.out.2.2.1 f).2 hf)).1) (HFIN.out.2.more H5.out.2.2.2)).mono ?_
        rintro e W6 ⟨bs2, fs2, rfl, hl2, hb6, hp2, hs2⟩
        have HSM := bsame_any bs1 bs2 _ _ W6 (H5.out.1.more hb6) hl2.read (perm_kind_len H5.out.2.1 1000000 (by have := HLL.out; omega)) (perm_kind_len hp2 1000000 (by have := HLL.out; have := HS.out.2.2.2; omega))
        rw [two_bases (fun f hf => (HLG.out f hf).2) HS.out.2.2.1 H5.out.2.1 hp2 H5.out.2.2.1 hs2] at HSM
        have HSM := Lib.hid HSM
        have H6 := Lib.hid hb6
        clear hl2 hb6 hp2 hs2
        go_wp2_with fail
        refine HSM.out.mono ?_
        rintro e W7 ⟨rfl, hb7⟩
        have H7 := Lib.hid hb7
        clear hb7
        go_wp2_with fail
        go_ret
        have hbr := HB2.out.trans (HS.out.2.1.mono HB2.out.size)
        have hb5 := hbr.trans (H5.out.2.2.2.mono hbr.size)
        have hb6 := hb5.trans (H6.out.mono hb5.size)
        exact ⟨rfl, hb6.trans (H7.out.mono hb6.size)⟩
    · have h1d : decide (i < n2) = false := by simp; omega
      go_wp2_with fail
      refine (of_any L _ wr (by have := HLL.out; omega) (fun f hf => (HLG.out f hf).1) HFIN.out.1).mono ?_
      rintro e W5 ⟨bs1, fs1, rfl, hl1, hb5, hp1, hs1⟩
      have H5 := Lib.hid (And.intro hl1.read (And.intro hp1 (And.intro hs1 hb5)))
      clear hl1 hp1 hs1 hb5
      go_wp2_with fail
      refine (of_any l1 _ W5 (by have := HLL.out; have := HS.out.2.2.2; omega) (fun f hf => (HLG.out f ((HS.out.2.2.1 f).2 hf)).1) (HFIN.out.2.more H5.out.2.2.2)).mono ?_
      rintro e W6 ⟨bs2, fs2, rfl, hl2, hb6, hp2, hs2⟩
      have HSM := bsame_any bs1 bs2 _ _ W6 (H5.out.1.more hb6) hl2.read (perm_kind_len H5.out.2.1 1000000 (by have := HLL.out; omega)) (perm_kind_len hp2 1000000 (by have := HLL.out; have := HS.out.2.2.2; omega))
      rw [two_bases (fun f hf => (HLG.out f hf).2) HS.out.2.2.1 H5.out.2.1 hp2 H5.out.2.2.1 hs2] at HSM
      have HSM := Lib.hid HSM
      have H6 := Lib.hid hb6
      clear hl2 hb6 hp2 hs2
      go_wp2_with fail
      refine HSM.out.mono ?_
      rintro e W7 ⟨rfl, hb7⟩
      have H7 := Lib.hid hb7
      clear hb7
      go_wp2_with fail
      go_ret
      have hbr := HB2.out.trans (HS.out.2.1.mono HB2.out.size)
      have hb5 := hbr.trans (H5.out.2.2.2.mono hbr.size)
      have hb6 := hb5.trans (H6.out.mono hb5.size)
      exact ⟨rfl, hb6.trans (H7.out.mono hb6.size)⟩
end Go.Proofs.Ytgjajhopjcdflaa
