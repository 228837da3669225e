/- Plain law of chapter 07: the facts of a base in order; what stands for a list's facts; a fact more. -/
import Derived.Test.YtgjajhopjcdflaaFlI
import Derived.Test.YtgjajhopjcdflaaFpB
namespace Go.Proofs.Ytgjajhopjcdflaa
open Go Go.RowKit Go.Lib Go.Shelf Go.Maps

theorem mem_catL {Ls : Nat → List FactV} {x : FactV} : ∀ i, x ∈ catL Ls i ↔ ∃ q, q < i ∧ x ∈ Ls q
  | 0 => by simp [catL]
  | i + 1 => by
    rw [show catL Ls (i + 1) = catL Ls i ++ Ls i from rfl, List.mem_append, mem_catL i]
    constructor
    · rintro (⟨q, h1, h2⟩ | h)
      · exact ⟨q, by omega, h2⟩
      · exact ⟨i, by omega, h⟩
    · rintro ⟨q, h1, h2⟩
      by_cases e : q = i
      · subst e; exact .inr h2
      · exact .inl ⟨q, by omega, h2⟩
theorem kind_iff {q : Nat} {f : FactV} : kindF q f = true ↔ f.n 0 = (q : Int) + 1 := by unfold kindF; simp
theorem catL_sorted {fs : List FactV} (hs : fs.Pairwise (fun a b => kLt (kT a) (kT b))) : ∀ i, (catL (fun q => fs.filter (kindF q)) i).Pairwise (fun a b => kLt (kT a) (kT b))
  | 0 => by simp [catL]
  | i + 1 => by
    rw [show catL (fun q => fs.filter (kindF q)) (i + 1) = catL (fun q => fs.filter (kindF q)) i ++ fs.filter (kindF i) from rfl, List.pairwise_append]
    refine ⟨catL_sorted hs i, hs.filter _, fun x hx y hy => ?_⟩
    obtain ⟨q, hq, h1⟩ := (mem_catL i).1 hx
    have h2 := kind_iff.1 (List.mem_filter.1 h1).2
    have h3 := kind_iff.1 (List.mem_filter.1 hy).2
    refine .inl ?_
    show x.n 0 < y.n 0
    omega
/-- the lists of a base, one behind the other, are its facts in order -/
theorem catL_all {fs : List FactV} (hs : fs.Pairwise (fun a b => kLt (kT a) (kT b))) (hv : ∀ f ∈ fs, validB f = true) : catL (fun q => fs.filter (kindF q)) 10 = fs :=
  sorted_unique _ _ (catL_sorted hs 10) hs (fun f => by
    rw [mem_catL]
    constructor
    · rintro ⟨q, _, h⟩; exact (List.mem_filter.1 h).1
    · intro h
      obtain ⟨q, hq, hk⟩ := valid_kind (hv f h)
      exact ⟨q, hq, List.mem_filter.2 ⟨h, kind_iff.2 hk⟩⟩)
/-- k stands for l: every valid fact of l is in k, or a fact of k prevails over it -/
theorem best_via {l k : List FactV} (hl : ∀ f ∈ l, Canon f) (hk : ∀ f ∈ k, f ∈ l) (hkc : ∀ g ∈ l, validB g = true → ∃ g' ∈ k, keyEq g' g = true ∧ (g = g' ∨ prevB g' g = true)) : ∀ f, f ∈ bestL l ↔ f ∈ bestL k := by
  intro f
  rw [(bestL_iff l hl).1 f, (bestL_iff k (fun f hf => hl f (hk f hf))).1 f]
  constructor
  · intro h
    obtain ⟨g', h1, h2, h3⟩ := hkc f h.1 h.2.1
    have e : f = g' := by
      rcases h3 with e | h3
      · exact e
      · rcases h.2.2 g' (hk g' h1) (prev_iff.1 h3).1 (keyEq_symm h2) with e | h4
        · exact e.symm
        · exact absurd h4 (fun h4 => prev_asym h3 h4)
    subst e
    exact ⟨h1, h.2.1, fun g hg => h.2.2 g (hk g hg)⟩
  · intro h
    refine ⟨hk f h.1, h.2.1, fun g hg hv hkey => ?_⟩
    obtain ⟨g', h1, h2, h3⟩ := hkc g hg hv
    have hv' : validB g' = true := by
      rcases h3 with e | h3
      · rw [← e]; exact hv
      · exact (prev_iff.1 h3).1
    rcases h.2.2 g' h1 hv' (keyEq_trans hkey (keyEq_symm h2)) with e | h4
    · subst e
      rcases h3 with e | h3
      · exact .inl e
      · exact .inr h3
    · rcases h3 with e | h3
      · subst e; exact .inr h4
      · exact .inr (prev_trans h4 h3)
/-- two bases of which one stands for the other -/
theorem base_via {l k fs gs : List FactV} (hl : ∀ f ∈ l, Canon f) (hk : ∀ f ∈ k, f ∈ l) (hkc : ∀ g ∈ l, validB g = true → ∃ g' ∈ k, keyEq g' g = true ∧ (g = g' ∨ prevB g' g = true)) (h1 : fs.Perm (bestL l)) (h2 : gs.Perm (bestL k)) (s1 : fs.Pairwise (fun a b => kLt (kT a) (kT b))) (s2 : gs.Pairwise (fun a b => kLt (kT a) (kT b))) : fs = gs :=
  sorted_unique fs gs s1 s2 (fun f => (h1.mem_iff.trans (best_via hl hk hkc f)).trans h2.mem_iff.symm)
theorem best_in {l : List FactV} (hl : ∀ f ∈ l, Canon f) {f : FactV} (h : f ∈ bestL l) : f ∈ l := (((bestL_iff l hl).1 f).1 h).1
theorem best_for {l : List FactV} (hl : ∀ f ∈ l, Canon f) {g : FactV} (hg : g ∈ l) (hv : validB g = true) : ∃ g' ∈ bestL l, keyEq g' g = true ∧ (g = g' ∨ prevB g' g = true) := by
  obtain ⟨g', h1, h2⟩ := (bestL_iff l hl).2 g hg hv
  exact ⟨g', h1, h2, (((bestL_iff l hl).1 g').1 h1).2.2 g hg hv h2⟩
/-- the base of two lists together, and that of what is in the bases of both -/
theorem join_law {l m fl fm fs gs : List FactV} (hl : ∀ f ∈ l, Canon f) (hm : ∀ f ∈ m, Canon f) (pl : fl.Perm (bestL l)) (pm : fm.Perm (bestL m)) (h1 : fs.Perm (bestL (l ++ m))) (h2 : gs.Perm (bestL (fl ++ fm))) (s1 : fs.Pairwise (fun a b => kLt (kT a) (kT b))) (s2 : gs.Pairwise (fun a b => kLt (kT a) (kT b))) : fs = gs := by
  refine base_via (k := fl ++ fm) (fun f hf => (List.mem_append.1 hf).elim (hl f) (hm f)) (fun f hf => ?_) (fun g hg hv => ?_) h1 h2 s1 s2
  · rcases List.mem_append.1 hf with h | h
    · exact List.mem_append.2 (.inl (best_in hl (pl.mem_iff.1 h)))
    · exact List.mem_append.2 (.inr (best_in hm (pm.mem_iff.1 h)))
  · rcases List.mem_append.1 hg with h | h
    · obtain ⟨g', h1, h2⟩ := best_for hl h hv
      exact ⟨g', List.mem_append.2 (.inl (pl.mem_iff.2 h1)), h2⟩
    · obtain ⟨g', h1, h2⟩ := best_for hm h hv
      exact ⟨g', List.mem_append.2 (.inr (pm.mem_iff.2 h1)), h2⟩
/-- the facts with another key than f -/
def otherK (f : FactV) (l : List FactV) : List FactV := l.filter (fun g => !keyEq g f)
/-- a fact more: those with another key stay as they are -/
theorem add_others {l fs gs : List FactV} {f : FactV} (hl : ∀ x ∈ l, Canon x) (hf : Canon f) (h1 : fs.Perm (bestL l)) (h2 : gs.Perm (bestL (l ++ [f]))) (s1 : fs.Pairwise (fun a b => kLt (kT a) (kT b))) (s2 : gs.Pairwise (fun a b => kLt (kT a) (kT b))) : otherK f fs = otherK f gs := by
  have hl2 : ∀ x ∈ l ++ [f], Canon x := by
    intro x hx
    rcases List.mem_append.1 hx with h | h
    · exact hl x h
    · rw [List.mem_singleton.1 h]; exact hf
  refine sorted_unique _ _ (s1.filter _) (s2.filter _) (fun x => ?_)
  unfold otherK
  rw [List.mem_filter, List.mem_filter, h1.mem_iff, h2.mem_iff, (bestL_iff l hl).1, (bestL_iff _ hl2).1]
  constructor
  · rintro ⟨h, hk⟩
    refine ⟨⟨List.mem_append.2 (.inl h.1), h.2.1, fun g hg hv hkey => ?_⟩, hk⟩
    rcases List.mem_append.1 hg with h3 | h3
    · exact h.2.2 g h3 hv hkey
    · rw [List.mem_singleton.1 h3] at hkey
      simp [hkey] at hk
  · rintro ⟨h, hk⟩
    have hx : x ∈ l := by
      rcases List.mem_append.1 h.1 with h3 | h3
      · exact h3
      · rw [List.mem_singleton.1 h3, keyEq_refl] at hk
        simp at hk
    exact ⟨⟨hx, h.2.1, fun g hg => h.2.2 g (List.mem_append.2 (.inl hg))⟩, hk⟩
end Go.Proofs.Ytgjajhopjcdflaa
