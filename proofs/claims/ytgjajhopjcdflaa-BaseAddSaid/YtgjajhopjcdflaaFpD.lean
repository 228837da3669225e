/- Plain law of chapter 07: a fact more; what is in effect. -/
import Derived.Test.YtgjajhopjcdflaaFpC
import Derived.Test.YtgjajhopjcdflaaFkY
namespace Go.Proofs.Ytgjajhopjcdflaa
open Go Go.RowKit Go.Lib Go.Shelf Go.Maps

theorem keyEq_kT {f g : FactV} : keyEq f g = true ↔ kT f = kT g := by
  unfold keyEq kT
  simp [Prod.ext_iff]
def sameK (f : FactV) (l : List FactV) : List FactV := l.filter (fun g => keyEq g f)
theorem sameK_one {l : List FactV} (f : FactV) (hs : l.Pairwise (fun a b => kLt (kT a) (kT b))) : sameK f l = [] ∨ ∃ g, sameK f l = [g] := by
  have h := hs.filter (fun g => keyEq g f)
  have hm : ∀ x ∈ sameK f l, kT x = kT f := fun x hx => keyEq_kT.1 (List.mem_filter.1 hx).2
  unfold sameK at *
  match hl : l.filter (fun g => keyEq g f), h, hm with
  | [], _, _ => exact .inl rfl
  | [g], _, _ => exact .inr ⟨g, rfl⟩
  | x :: y :: r, h, hm =>
    have h1 := (List.pairwise_cons.1 h).1 y (by simp)
    rw [hm x (by simp), hm y (by simp)] at h1
    exact absurd h1 (kLt_irr _)
theorem same_other_len (f : FactV) : ∀ l : List FactV, l.length = (otherK f l).length + (sameK f l).length
  | [] => rfl
  | x :: l => by
    have ih := same_other_len f l
    unfold otherK sameK at *
    cases h : keyEq x f <;> simp [h, ih] <;> omega
def stepW (f w g : FactV) : FactV := if keyEq g f && !prevB f g then g else w
def wantF (f : FactV) (l : List FactV) : FactV := l.foldl (stepW f) f
def stepFo (f w : FactV) (b : Bool) (g : FactV) : Bool := if keyEq g f then sameF g w else b
def foundF (f w : FactV) (l : List FactV) : Bool := l.foldl (stepFo f w) false
def knownF (f : FactV) (l : List FactV) : Bool := l.any (fun g => keyEq g f)
theorem want_take {f g : FactV} {l : List FactV} {j : Nat} (h : l[j]? = some g) : wantF f (l.take (j + 1)) = stepW f (wantF f (l.take j)) g := by
  rw [take_next h]; simp [wantF]
theorem found_take {f w g : FactV} {l : List FactV} {j : Nat} (h : l[j]? = some g) : foundF f w (l.take (j + 1)) = stepFo f w (foundF f w (l.take j)) g := by
  rw [take_next h]; simp [foundF]
theorem known_take {f g : FactV} {l : List FactV} {j : Nat} (h : l[j]? = some g) : knownF f (l.take (j + 1)) = (knownF f (l.take j) || keyEq g f) := by
  rw [take_next h]; simp [knownF]
theorem other_take {f g : FactV} {l : List FactV} {j : Nat} (h : l[j]? = some g) : otherK f (l.take (j + 1)) = otherK f (l.take j) ++ (if keyEq g f then [] else [g]) := by
  rw [take_next h]
  unfold otherK
  cases hk : keyEq g f <;> simp [hk]
theorem want_same (f : FactV) : ∀ (l : List FactV) (w : FactV), l.foldl (stepW f) w = (sameK f l).foldl (stepW f) w
  | [], _ => rfl
  | g :: l, w => by
    unfold sameK
    cases hk : keyEq g f
    · rw [List.foldl_cons, List.filter_cons, hk]
      simp only [Bool.false_eq_true, if_false]
      rw [show stepW f w g = w by unfold stepW; rw [hk]; rfl]
      exact want_same f l w
    · rw [List.foldl_cons, List.filter_cons, hk]
      simp only [if_true, List.foldl_cons]
      exact want_same f l _
theorem found_same (f x : FactV) : ∀ (l : List FactV) (b : Bool), l.foldl (stepFo f x) b = (sameK f l).foldl (stepFo f x) b
  | [], _ => rfl
  | g :: l, b => by
    unfold sameK
    cases hk : keyEq g f
    · rw [List.foldl_cons, List.filter_cons, hk]
      simp only [Bool.false_eq_true, if_false]
      rw [show stepFo f x b g = b by unfold stepFo; rw [hk]; rfl]
      exact found_same f x l b
    · rw [List.foldl_cons, List.filter_cons, hk]
      simp only [if_true, List.foldl_cons]
      exact found_same f x l _
theorem known_same (f : FactV) (l : List FactV) : knownF f l = !(sameK f l).isEmpty := by
  unfold knownF sameK
  induction l with
  | nil => rfl
  | cons g l ih => cases h : keyEq g f <;> simp [h, ih]
/-- a valid fact more: what is wanted is there, and nothing else has changed -/
theorem add_law {l fs gs : List FactV} {f : FactV} (hl : ∀ x ∈ l, Canon x) (hf : Canon f) (hv : validB f = true) (h1 : fs.Perm (bestL l)) (h2 : gs.Perm (bestL (l ++ [f]))) (s1 : fs.Pairwise (fun a b => kLt (kT a) (kT b))) (s2 : gs.Pairwise (fun a b => kLt (kT a) (kT b))) :
    foundF f (wantF f fs) gs = true ∧ gs.length = (if knownF f fs then fs.length else fs.length + 1) ∧ otherK f fs = otherK f gs := by
  have ho := add_others hl hf h1 h2 s1 s2
  have hl2 : ∀ x ∈ l ++ [f], Canon x := by
    intro x hx
    rcases List.mem_append.1 hx with h | h
    · exact hl x h
    · rw [List.mem_singleton.1 h]; exact hf
  have memF : ∀ x, x ∈ fs ↔ Best l x := fun x => h1.mem_iff.trans ((bestL_iff l hl).1 x)
  have memG : ∀ x, x ∈ gs ↔ Best (l ++ [f]) x := fun x => h2.mem_iff.trans ((bestL_iff _ hl2).1 x)
  have hw : Best (l ++ [f]) (wantF f fs) ∧ keyEq (wantF f fs) f = true := by
    unfold wantF
    rw [want_same]
    rcases sameK_one f s1 with h0 | ⟨g, hg⟩
    · rw [h0]
      refine ⟨⟨by simp, hv, fun g hg hgv hk => ?_⟩, keyEq_refl _⟩
      rcases List.mem_append.1 hg with h | h
      · obtain ⟨g', h3, h4⟩ := (bestL_iff l hl).2 g h hgv
        have : g' ∈ sameK f fs := List.mem_filter.2 ⟨h1.mem_iff.2 h3, keyEq_trans h4 (keyEq_symm hk)⟩
        rw [h0] at this
        simp at this
      · exact .inl (List.mem_singleton.1 h)
    · rw [hg]
      have hgm : g ∈ sameK f fs := by rw [hg]; simp
      obtain ⟨hgf, hgk⟩ := List.mem_filter.1 hgm
      have hB := (memF g).1 hgf
      show Best (l ++ [f]) (stepW f f g) ∧ keyEq (stepW f f g) f = true
      unfold stepW
      rw [hgk]
      cases hp : prevB f g
      · simp only [Bool.not_false, Bool.and_self, if_true]
        refine ⟨⟨List.mem_append.2 (.inl hB.1), hB.2.1, fun x hx hxv hk => ?_⟩, hgk⟩
        rcases List.mem_append.1 hx with h | h
        · exact hB.2.2 x h hxv hk
        · rw [List.mem_singleton.1 h]
          rcases prev_total hB.2.1 hv (hl g hB.1) hf hgk with e | e | e
          · exact .inl e.symm
          · exact .inr e
          · rw [hp] at e; cases e
      · simp only [Bool.not_true, Bool.and_false, Bool.false_eq_true, if_false]
        refine ⟨⟨by simp, hv, fun x hx hxv hk => ?_⟩, keyEq_refl _⟩
        rcases List.mem_append.1 hx with h | h
        · rcases hB.2.2 x h hxv (keyEq_trans hgk hk) with e | e
          · subst e; exact .inr hp
          · exact .inr (prev_trans hp e)
        · exact .inl (List.mem_singleton.1 h)
  have hsg : sameK f gs = [wantF f fs] := by
    have hin : wantF f fs ∈ sameK f gs := List.mem_filter.2 ⟨(memG _).2 hw.1, hw.2⟩
    rcases sameK_one f s2 with h0 | ⟨g, hg⟩
    · rw [h0] at hin; simp at hin
    · rw [hg] at hin ⊢
      rw [List.mem_singleton.1 hin]
  refine ⟨?_, ?_, ho⟩
  · unfold foundF
    rw [found_same, hsg]
    show stepFo f (wantF f fs) false (wantF f fs) = true
    unfold stepFo
    rw [hw.2]
    exact sameF_refl _
  · have e1 := same_other_len f fs
    have e2 := same_other_len f gs
    rw [hsg, ← ho] at e2
    rw [known_same]
    rcases sameK_one f s1 with h0 | ⟨g, hg⟩
    · rw [h0] at e1 ⊢
      simp at e1 e2 ⊢
      omega
    · rw [hg] at e1 ⊢
      simp at e1 e2 ⊢
      omega
/-- a fact that is not valid makes no difference -/
theorem add_invalid {l fs gs : List FactV} {f : FactV} (hv : validB f = false) (h1 : fs.Perm (bestL l)) (h2 : gs.Perm (bestL (l ++ [f]))) (s1 : fs.Pairwise (fun a b => kLt (kT a) (kT b))) (s2 : gs.Pairwise (fun a b => kLt (kT a) (kT b))) : fs = gs := by
  refine sorted_unique fs gs s1 s2 (fun x => ?_)
  rw [h1.mem_iff, h2.mem_iff, bestL_snoc, show stepB (bestL l) f = bestL l by unfold stepB; rw [hv]; rfl]

/-! ### in effect -/
theorem inEff_spec (is : FactV → Bool) (p : Int) (l : List FactV) : match inEff is p l with
    | none => ∀ g ∈ l, ¬ (is g = true ∧ g.n 11 ≤ p)
    | some f => f ∈ l ∧ (is f = true ∧ f.n 11 ≤ p) ∧ ∀ g ∈ l, is g = true → g.n 11 ≤ p → g.n 11 ≤ f.n 11 := by
  induction l using snoc_ind with
  | h0 => intro g hg; simp at hg
  | h1 l x ih =>
    have e : inEff is p (l ++ [x]) = stepE is p (inEff is p l) x := by simp [inEff]
    rw [e]
    cases h : inEff is p l with
    | none =>
      rw [h] at ih
      simp only at ih
      unfold stepE
      by_cases hx : is x = true ∧ x.n 11 ≤ p
      · have : (decide (x.n 11 ≤ p) && (is x && true)) = true := by simp [hx.1, hx.2]
        simp only [this, if_true]
        refine ⟨by simp, hx, fun g hg h1 h2 => ?_⟩
        rcases List.mem_append.1 hg with h3 | h3
        · exact absurd ⟨h1, h2⟩ (ih g h3)
        · rw [List.mem_singleton.1 h3]; omega
      · have : (decide (x.n 11 ≤ p) && (is x && true)) = false := by
          rw [Bool.and_true, Bool.and_eq_false_iff]
          by_cases h1 : x.n 11 ≤ p
          · exact .inr (by cases h2 : is x; rfl; exact absurd ⟨h2, h1⟩ hx)
          · exact .inl (by simpa using h1)
        simp only [this, Bool.false_eq_true, if_false]
        intro g hg
        rcases List.mem_append.1 hg with h3 | h3
        · exact ih g h3
        · rw [List.mem_singleton.1 h3]; exact hx
    | some f =>
      rw [h] at ih
      simp only at ih
      obtain ⟨i1, i2, i3⟩ := ih
      unfold stepE
      by_cases hx : (is x = true ∧ x.n 11 ≤ p) ∧ f.n 11 < x.n 11
      · have : (decide (x.n 11 ≤ p) && (is x && decide (f.n 11 < x.n 11))) = true := by simp [hx.1.1, hx.1.2, hx.2]
        simp only [this, if_true]
        refine ⟨by simp, hx.1, fun g hg h1 h2 => ?_⟩
        rcases List.mem_append.1 hg with h3 | h3
        · have := i3 g h3 h1 h2; omega
        · rw [List.mem_singleton.1 h3]; omega
      · have : (decide (x.n 11 ≤ p) && (is x && decide (f.n 11 < x.n 11))) = false := by
          cases h2 : is x
          · simp
          · by_cases h1 : x.n 11 ≤ p
            · have : ¬ f.n 11 < x.n 11 := fun h3 => hx ⟨⟨h2, h1⟩, h3⟩
              simp [this]
            · simp [h1]
        simp only [this, Bool.false_eq_true, if_false]
        refine ⟨by simp [i1], i2, fun g hg h1 h2 => ?_⟩
        rcases List.mem_append.1 hg with h3 | h3
        · exact i3 g h3 h1 h2
        · rw [List.mem_singleton.1 h3] at h1 h2 ⊢
          by_cases h4 : f.n 11 < x.n 11
          · exact absurd ⟨⟨h1, h2⟩, h4⟩ hx
          · omega
/-- two lists with the same facts of a sort T, which holds of the greatest ones -/
theorem eff_same (is : FactV → Bool) (p : Int) (l m : List FactV) (T : FactV → Prop) (hT : ∀ x, T x → (x ∈ l ↔ x ∈ m)) (up : ∀ x y, is x = true → x.n 11 ≤ p → T y → y.n 11 ≤ x.n 11 → (x ∈ l ∨ x ∈ m) → T x)
    (some_ : (∃ t, t ∈ l ∧ is t = true ∧ t.n 11 ≤ p ∧ T t) ∨ ∀ x, is x = true → x.n 11 ≤ p → (x ∈ l ∨ x ∈ m) → T x) (uniq : ∀ x y, x ∈ l → y ∈ l → is x = true → is y = true → x.n 11 = y.n 11 → x = y) : inEff is p l = inEff is p m := by
  have h1 := inEff_spec is p l
  have h2 := inEff_spec is p m
  cases e1 : inEff is p l with
  | none =>
    rw [e1] at h1
    simp only at h1
    cases e2 : inEff is p m with
    | none => rfl
    | some y =>
      rw [e2] at h2
      simp only at h2
      rcases some_ with ⟨t, t1, t2, t3, _⟩ | h
      · exact absurd ⟨t2, t3⟩ (h1 t t1)
      · exact absurd h2.2.1 (h1 y ((hT y (h y h2.2.1.1 h2.2.1.2 (.inr h2.1))).2 h2.1))
  | some x =>
    rw [e1] at h1
    simp only at h1
    have Tx : T x := by
      rcases some_ with ⟨t, t1, t2, t3, t4⟩ | h
      · exact up x t h1.2.1.1 h1.2.1.2 t4 (h1.2.2 t t1 t2 t3) (.inl h1.1)
      · exact h x h1.2.1.1 h1.2.1.2 (.inl h1.1)
    have hxm := (hT x Tx).1 h1.1
    cases e2 : inEff is p m with
    | none =>
      rw [e2] at h2
      simp only at h2
      exact absurd h1.2.1 (h2 x hxm)
    | some y =>
      rw [e2] at h2
      simp only at h2
      have hxy := h2.2.2 x hxm h1.2.1.1 h1.2.1.2
      have Ty := up y x h2.2.1.1 h2.2.1.2 Tx hxy (.inr h2.1)
      have hyl := (hT y Ty).2 h2.1
      have hyx := h1.2.2 y hyl h2.2.1.1 h2.2.1.2
      rw [uniq x y h1.1 hyl h1.2.1.1 h2.2.1.1 (by omega)]
end Go.Proofs.Ytgjajhopjcdflaa
