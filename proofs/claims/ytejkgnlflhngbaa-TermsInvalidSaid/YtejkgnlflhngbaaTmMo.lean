/- TermsMonotone in plain words: who has more to settle gets no less. -/
import Derived.Test.YtejkgnlflhngbaaTmP
namespace Go.Proofs.Ytejkgnlflhngbaa

def sumB : List (Int × Int) → Int
  | [] => 0
  | b :: l => b.2 + sumB l
theorem sumB_set : ∀ (l : List (Int × Int)) (i : Nat) (b : Int × Int) (a y : Int), l[i]? = some b → sumB (l.set i (a, y)) = sumB l - b.2 + y
  | [], i, b, a, y, h => by simp at h
  | z :: l, 0, b, a, y, h => by
    simp at h
    subst h
    show y + sumB l = z.2 + sumB l - z.2 + y
    omega
  | z :: l, i + 1, b, a, y, h => by
    show z.2 + sumB (l.set i (a, y)) = z.2 + sumB l - b.2 + y
    rw [sumB_set l i b a y (by simpa using h)]
    omega
structure Mono (S S' : StV) : Prop where
  l0 : 0 ≤ S.left
  left : S.left ≤ S'.left
  pa : S.pa ≤ S'.pa
  ta : S.ta ≤ S'.ta
  re : S.re ≤ S'.re
  ca : S.ca ≤ S'.ca
  len : S.bs.length = S'.bs.length
  acc : ∀ (i : Nat) b b', S.bs[i]? = some b → S'.bs[i]? = some b' → b.1 = b'.1 ∧ b'.2 ≤ b.2
  ro : S.ro + sumB S.bs = S'.ro + sumB S'.bs
theorem sumB_le : ∀ (l l' : List (Int × Int)), l.length = l'.length → (∀ (i : Nat) b b', l[i]? = some b → l'[i]? = some b' → b.1 = b'.1 ∧ b'.2 ≤ b.2) → sumB l' ≤ sumB l
  | [], [], _, _ => Int.le_refl _
  | [], _ :: _, h, _ => by simp at h
  | _ :: _, [], h, _ => by simp at h
  | b :: l, b' :: l', hl, h => by
    have h0 := h 0 b b' rfl rfl
    have h1 := sumB_le l l' (by simpa using hl) fun i c c' e e' => h (i + 1) c c' (by simpa using e) (by simpa using e')
    show b'.2 + sumB l' ≤ b.2 + sumB l
    omega
theorem Mono.roLe {S S' : StV} (h : Mono S S') : S.ro ≤ S'.ro := by
  have := h.ro
  have := sumB_le _ _ h.len h.acc
  omega
theorem findB_same {l l' : List (Int × Int)} (hl : l.length = l'.length) (h : ∀ (i : Nat) b b', l[i]? = some b → l'[i]? = some b' → b.1 = b'.1 ∧ b'.2 ≤ b.2) (a : Int) : findB l a = findB l' a := by
  have e : l.map (·.1) = l'.map (·.1) := by
    apply List.ext_getElem?
    intro i
    rw [List.getElem?_map, List.getElem?_map]
    cases h1 : l[i]? with
    | none =>
      have := List.getElem?_eq_none_iff.1 h1
      rw [List.getElem?_eq_none (by omega)]
    | some b =>
      obtain ⟨hi, _⟩ := List.getElem?_eq_some_iff.1 h1
      have h2 : l'[i]? = some l'[i] := List.getElem?_eq_getElem (by omega)
      rw [h2]
      have := h i b _ h1 h2
      simp [this.1]
  have f : ∀ l : List (Int × Int), findB l a = (l.map (·.1)).findIdx? (· == a) := fun l => by
    unfold findB
    rw [List.findIdx?_map]
    rfl
  rw [f, f, e]
theorem Mono.recStep {S S' : StV} (h : Mono S S') (a : Int) : Mono (recStep S a) (recStep S' a) := by
  unfold Go.Proofs.Ytejkgnlflhngbaa.recStep
  rw [← findB_same h.len h.acc]
  cases hf : findB S.bs a with
  | none => exact h
  | some i =>
    dsimp only
    cases hb : S.bs[i]? with
    | none =>
      have := List.getElem?_eq_none_iff.1 hb
      rw [List.getElem?_eq_none (by have := h.len; omega)]
      exact h
    | some b =>
      obtain ⟨hi, _⟩ := List.getElem?_eq_some_iff.1 hb
      have hb' : S'.bs[i]? = some (S'.bs[i]'(by have := h.len; omega)) := List.getElem?_eq_getElem _
      obtain ⟨b', hbb⟩ : ∃ b', S'.bs[i]? = some b' := ⟨_, hb'⟩
      rw [hbb]
      dsimp only
      have h1 := h.acc i b b' hb hbb
      have h2 := h.left
      have h3 := h.l0
      have h4 := h.ro
      refine ⟨by dsimp only; omega, by dsimp only; omega, h.pa, h.ta, h.re, h.ca, by simpa using h.len, fun j c c' e e' => ?_, ?_⟩
      · dsimp only at e e'
        rw [List.getElem?_set] at e e'
        by_cases hij : i = j
        · subst hij
          have hi' : i < S'.bs.length := by have := h.len; omega
          simp [hi] at e
          simp [hi'] at e'
          subst e e'
          exact ⟨h1.1, by dsimp only; omega⟩
        · rw [if_neg hij] at e e'
          exact h.acc j c c' e e'
      · dsimp only
        rw [sumB_set _ _ _ _ _ hb, sumB_set _ _ _ _ _ hbb]
        omega
theorem Mono.recAll : ∀ (l : List Int) {S S' : StV}, Mono S S' → Mono (l.foldl Go.Proofs.Ytejkgnlflhngbaa.recStep S) (l.foldl Go.Proofs.Ytejkgnlflhngbaa.recStep S')
  | [], _, _, h => h
  | a :: l, _, _, h => Mono.recAll l (h.recStep a)
theorem partN_mono {x y n : Int} (hxy : x ≤ y) (hn : 0 ≤ n) (hn2 : n ≤ 1000000) : partN x n ≤ partN y n ∧ partN y n - partN x n ≤ y - x := by
  unfold partN
  have h1 : x * n ≤ y * n := Int.mul_le_mul_of_nonneg_right hxy hn
  have h2 : y * n ≤ x * n + (y - x) * 1000000 := by
    have h3 : (y - x) * n ≤ (y - x) * 1000000 := Int.mul_le_mul_of_nonneg_left hn2 (by omega)
    have h4 : (y - x) * n = y * n - x * n := Int.sub_mul _ _ _
    omega
  obtain ⟨u, hu⟩ : ∃ u, x * n = u := ⟨_, rfl⟩
  obtain ⟨v, hv⟩ : ∃ v, y * n = v := ⟨_, rfl⟩
  rw [hu, hv] at h1 h2 ⊢
  omega
theorem Mono.term {S S' : StV} (h : Mono S S') (hh p : Int) (t : TermV) (hl : 0 ≤ S.left) : Mono (stepT hh p S t) (stepT hh p S' t) := by
  unfold stepT
  split
  · rename_i hv
    unfold doTerm
    have h1 := h.left
    rcases validT_kinds hv with e | e | e | e | e
    · rw [if_pos e, if_pos e]
      have hv1 := validT_1 hv e
      have hn := inR_iff.1 hv1.1
      have ha := inR_iff.1 hv1.2.2.2
      obtain ⟨m, hm⟩ : ∃ m, max (S.left - t.ab) 0 = m := ⟨_, rfl⟩
      obtain ⟨m', hm'⟩ : ∃ m, max (S'.left - t.ab) 0 = m := ⟨_, rfl⟩
      have hp := partN_mono (x := m) (y := m') (n := t.n) (by omega) (by omega) hn.2
      have hb := partN_bd (x := m) (n := t.n) (by omega) (by omega) hn.2
      have hpa := h.pa
      unfold passStep
      dsimp only
      rw [hm, hm']
      exact ⟨by dsimp only; omega, by dsimp only; omega, by dsimp only; omega, h.ta, h.re, h.ca, h.len, h.acc, h.ro⟩
    · rw [if_neg (by omega), if_pos e, if_neg (by omega), if_pos e]
      have hn := inR_iff.1 (validT_2 hv e).1
      have hp := partN_mono h1 (show 0 ≤ t.n by omega) hn.2
      have hb := partN_bd hl (show 0 ≤ t.n by omega) hn.2
      have hta := h.ta
      unfold taxStep
      exact ⟨by dsimp only; omega, by dsimp only; omega, h.pa, by dsimp only; omega, h.re, h.ca, h.len, h.acc, h.ro⟩
    · rw [if_neg (by omega), if_neg (by omega), if_pos e, if_neg (by omega), if_neg (by omega), if_pos e]
      have hn := inR_iff.1 (validT_3 hv e).1
      have hp := partN_mono h1 (show 0 ≤ t.n by omega) hn.2
      have hb := partN_bd hl (show 0 ≤ t.n by omega) hn.2
      have hre := h.re
      unfold resStep
      exact ⟨by dsimp only; omega, by dsimp only; omega, h.pa, h.ta, by dsimp only; omega, h.ca, h.len, h.acc, h.ro⟩
    · rw [if_neg (by omega), if_neg (by omega), if_neg (by omega), if_pos e, if_neg (by omega), if_neg (by omega), if_neg (by omega), if_pos e]
      have hn := inR_iff.1 (validT_4 hv e).1
      have hca := h.ca
      unfold capStep
      exact ⟨by dsimp only; omega, by dsimp only; omega, h.pa, h.ta, h.re, by dsimp only; omega, h.len, h.acc, h.ro⟩
    · rw [if_neg (by omega), if_neg (by omega), if_neg (by omega), if_neg (by omega), if_neg (by omega), if_neg (by omega), if_neg (by omega), if_neg (by omega)]
      exact Mono.recAll _ h
  · exact h
theorem Mono.run (hh p : Int) : ∀ (l : List TermV) {S S' : StV}, Mono S S' → Mono (l.foldl (stepT hh p) S) (l.foldl (stepT hh p) S')
  | [], _, _, h => h
  | t :: l, _, _, h => Mono.run hh p l (h.term hh p t h.l0)
theorem mono_start {R R' : RowV} (h0 : 0 ≤ R.sum) (h : R.sum ≤ R'.sum) (bs : List (Int × Int)) : Mono (startS R bs) (startS R' bs) :=
  ⟨h0, h, Int.le_refl _, Int.le_refl _, Int.le_refl _, Int.le_refl _, rfl, fun i b b' e e' => by
    have e2 : bs[i]? = some b := e
    have e3 : bs[i]? = some b' := e'
    rw [e2] at e3
    cases e3
    exact ⟨rfl, Int.le_refl _⟩, rfl⟩
/-- the law -/
theorem mono_law {R R' : RowV} (l : List TermV) (bs : List (Int × Int)) (ho : openR R = true) (h : R.sum ≤ R'.sum) (e1 : R'.h = R.h) (e2 : R'.p = R.p) :
    let S := runS l R bs
    let S' := runS l R' bs
    paidOf S ≤ paidOf S' ∧ S.pa ≤ S'.pa ∧ S.ta ≤ S'.ta ∧ S.re ≤ S'.re ∧ S.ro ≤ S'.ro ∧ carriedOf S - 10000 < carriedOf S' := by
  have hs : 0 ≤ R.sum := (good_start ho bs).l0
  have hm := Mono.run R.h R.p l (mono_start hs h bs)
  unfold runS
  rw [e1, e2]
  dsimp only
  have h1 := hm.left
  have h2 := hm.l0
  have h3 := hm.ca
  refine ⟨?_, hm.pa, hm.ta, hm.re, hm.roLe, ?_⟩
  · unfold paidOf; omega
  · unfold carriedOf; omega
end Go.Proofs.Ytejkgnlflhngbaa
