/- Facts of the statements: good ones; lists of facts by their block. -/
import Derived.Test.YtgjajhopjcdflaaGreatFlF
import Derived.Test.YtgjajhopjcdflaaGreatFlI
import Derived.Test.YtgjajhopjcdflaaGreatFpB
namespace Go.Proofs.YtgjajhopjcdflaaGreat
open Go Go.RowKit Go.Lib Go.Shelf Go.Maps

theorem mkF_canon {l : List Int} {t : ByteArray} (h : l.length ≤ 17) : Canon (mkF l t) := by
  intro j hj
  show l.getD j 0 = 0
  rw [List.getD_eq_getElem?_getD, List.getElem?_eq_none (by omega)]; rfl
theorem makeF_canon (k a b v n p : Nat) : Canon (makeF k a b v n p) := by
  unfold makeF
  repeat' split
  all_goals exact mkF_canon (by simp)
theorem makeX_good (x : Nat → Int) : FactOk (makeX x) ∧ Canon (makeX x) := by
  have b1 := pickN_bd (x 1) 4 (by omega)
  have b2 := pickN_bd (x 2) 3 (by omega)
  have b3 := pickN_bd (x 3) 4 (by omega)
  have b4 := pickN_bd (x 4) 1000 (by omega)
  have b5 := pickN_bd (x 5) 4 (by omega)
  exact ⟨makeF_ok _ _ _ _ _ _ (by omega), makeF_canon _ _ _ _ _ _⟩
theorem factsL_good (X : Nat → Nat → Int) (fs : List FactV) (h : ∀ f ∈ fs, FactOk f ∧ Canon f) : ∀ i, ∀ f ∈ factsL X fs i, FactOk f ∧ Canon f
  | 0, f, hf => by simp [factsL] at hf
  | i + 1, f, hf => by
    simp only [factsL, List.mem_append, List.mem_singleton] at hf
    rcases hf with (hf | rfl) | hf
    · exact factsL_good X fs h i f hf
    · exact makeX_good _
    · split at hf
      · cases hx : fs[i]? with
        | none => rw [hx] at hf; simp at hf
        | some y => rw [hx] at hf; simp at hf; subst hf; exact h _ (List.mem_of_getElem? hx)
      · simp at hf
theorem tdiv7 (x : Int) (h1 : -9223372036854775808 ≤ x) (h2 : x ≤ 9223372036854775807) : -9223372036854775808 ≤ x.tdiv 7 ∧ x.tdiv 7 ≤ 9223372036854775807 := by
  by_cases h : 0 ≤ x
  · rw [Int.tdiv_eq_ediv_of_nonneg h]; omega
  · have e : x.tdiv 7 = -((-x).tdiv 7) := by rw [Int.neg_tdiv, Int.neg_neg]
    rw [e, Int.tdiv_eq_ediv_of_nonneg (by omega)]; omega
/-- two bases of the same facts, their lists read -/
theorem two_bases {l m fs gs : List FactV} (hl : ∀ f ∈ l, Canon f) (hlm : ∀ f, f ∈ l ↔ f ∈ m) (h1 : fs.Perm (bestL l)) (h2 : gs.Perm (bestL m)) (s1 : fs.Pairwise (fun a b => kLt (kT a) (kT b))) (s2 : gs.Pairwise (fun a b => kLt (kT a) (kT b))) :
    sameBs (fun q => fs.filter (kindF q)) (fun q => gs.filter (kindF q)) = true := by
  rw [base_set hl hlm h1 h2 s1 s2]
  exact sameBs_refl _
theorem stepB_len (L : List FactV) (f : FactV) : (stepB L f).length ≤ L.length + 1 := by
  unfold stepB
  split
  · split
    · exact putL_len L f
    · split
      · exact putL_len L f
      · omega
  · omega
theorem bestL_len (l : List FactV) : (bestL l).length ≤ l.length := by
  have h : ∀ (l L : List FactV), (l.foldl stepB L).length ≤ L.length + l.length := by
    intro l
    induction l with
    | nil => intro L; simp
    | cons x l ih => intro L; have := ih (stepB L x); have h2 := stepB_len L x; simp only [List.foldl_cons, List.length_cons]; omega
  have := h l []
  simpa [bestL] using this
theorem perm_kind_len {fs l : List FactV} (h : fs.Perm (bestL l)) (n : Nat) (hn : l.length ≤ n) (q : Nat) : (fs.filter (kindF q)).length ≤ n := by
  have h1 := List.length_filter_le (kindF q) fs
  have h2 := h.length_eq
  have h3 := bestL_len l
  omega
theorem OwnF.block {w : World} {base n c : Nat} {A : Option Addr} {l : List FactV} (h : OwnF w base (.slice A n c) l) (h0 : 0 < l.length) : ∃ g, A = some ⟨g, 0, none⟩ := by
  rcases h.2 with ⟨h1, h2⟩ | ⟨g, cap, cur, hv, _⟩
  · omega
  · cases hv; exact ⟨g, rfl⟩
theorem OwnF.get {w : World} {base n c g : Nat} {l : List FactV} (h : OwnF w base (.slice (some ⟨g, 0, none⟩) n c) l) {i : Nat} {f : FactV} (hf : l[i]? = some f) : ∀ j x, f.cells[j]? = some x → w.cell? ⟨g, i * 18 + j, none⟩ = some x := by
  obtain ⟨b, o, e, _, hc⟩ := h.facts.get hf
  rcases h.2 with ⟨h1, h2⟩ | ⟨g', cap, cur, hv, _, hg, hnc, _, hcs, ht⟩
  · cases h1
  · cases hv
    intro j x hx
    have h1 := ffCells_get l i f hf j x hx
    have h2 := (List.getElem?_eq_some_iff.1 h1).1
    rw [ffCells_len] at h2
    rw [cell_of_row w g _ cur _ _ hg, ← Array.getElem?_toList]
    rw [← ht, List.getElem?_take_of_lt (by omega)] at h1
    exact h1
end Go.Proofs.YtgjajhopjcdflaaGreat
