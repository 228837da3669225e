/- The root of a list is the Node of the roots of its parts. -/
import Derived.Test.YtgmdjbhclihflaaDoorDgP
namespace Go.Proofs.YtgmdjbhclihflaaDoor
open Go Go.RowKit Go.Lib Go.Shelf

theorem mergeS_nil : mergeS [] = [] := by rw [mergeS]; intro p q r h; simp at h
theorem mergeS_bottom (k : Nat) (p : List UInt8) : ∀ (n : Nat) (x : Nat × List UInt8) (st : List (Nat × List UInt8)), st.length ≤ n →
    mergeS (x :: st ++ [(k, p)]) = match mergeS (x :: st) with | [(s, q)] => if s = k then [(2 * k, nodeB p q)] else [(s, q), (k, p)] | st' => st' ++ [(k, p)] := by
  intro n
  induction n with
  | zero =>
    intro x st h
    rw [List.length_eq_zero_iff.1 (show st.length = 0 by omega), mergeS_one]
    obtain ⟨s, q⟩ := x
    show mergeS ((s, q) :: (k, p) :: []) = if s = k then [(2 * k, nodeB p q)] else [(s, q), (k, p)]
    rw [mergeS_eq]
    split
    · rename_i h; subst h; rw [mergeS_one]
    · rfl
  | succ n ih =>
    intro x st h
    match st, h with
    | [], _ => exact ih x [] (Nat.zero_le _)
    | y :: r, h =>
      show mergeS (x :: y :: (r ++ [(k, p)])) = _
      rw [mergeS_eq, mergeS_eq]
      split
      · exact ih _ r (by simpa using h)
      · rfl
theorem stackS_snoc (l : List (List UInt8)) (s : List UInt8) : stackS (l ++ [s]) = mergeS ((1, leafB s) :: stackS l) := by
  unfold stackS; rw [List.foldl_append]; rfl
theorem stackS_sum : ∀ (n : Nat) (l : List (List UInt8)), l.length = n → sumS (stackS l) = n := by
  intro n
  induction n with
  | zero => intro l h; rw [List.length_eq_zero_iff.1 h]; rfl
  | succ n ih =>
    intro l h
    rcases List.eq_nil_or_concat l with rfl | ⟨l', s, rfl⟩
    · simp at h
    · rw [List.concat_eq_append] at h ⊢
      have h' : l'.length = n := by simpa using h
      rw [stackS_snoc, mergeS_sum _ _ (Nat.le_refl _)]
      have := ih l' h'
      unfold sumS at this ⊢
      rw [List.map_cons, List.sum_cons, this]
      omega
theorem stackS_ne {l : List (List UInt8)} (h : l ≠ []) : stackS l ≠ [] := by
  intro e
  have := stackS_sum l.length l rfl
  rw [e] at this
  exact h (List.length_eq_zero_iff.1 this.symm)
/-- pushing onto a stack that lies on one whole part -/
theorem stackS_on {a : List (List UInt8)} {k : Nat} {p : List UInt8} (ha : stackS a = [(k, p)]) : ∀ (n : Nat) (b : List (List UInt8)), b.length = n → n < k → stackS (a ++ b) = stackS b ++ [(k, p)] := by
  intro n
  induction n with
  | zero => intro b h _; rw [List.length_eq_zero_iff.1 h, List.append_nil, ha]; rfl
  | succ n ih =>
    intro b h hk
    rcases List.eq_nil_or_concat b with rfl | ⟨b', s, rfl⟩
    · simp at h
    · rw [List.concat_eq_append] at h ⊢
      have h' : b'.length = n := by simpa using h
      have hs := stackS_sum _ _ h
      rw [← List.append_assoc, stackS_snoc, ih b' h' (by omega), stackS_snoc]
      have hm := mergeS_bottom k p _ (1, leafB s) (stackS b') (Nat.le_refl _)
      rw [List.cons_append] at hm
      rw [hm]
      rw [stackS_snoc] at hs
      split
      · rename_i s' q he
        rw [he] at hs ⊢
        have : s' = n + 1 := by simpa [sumS] using hs
        rw [if_neg (by omega)]
        rfl
      · rfl
theorem stackS_full {a b : List (List UInt8)} {k : Nat} {p q : List UInt8} (ha : stackS a = [(k, p)]) (hb : stackS b = [(k, q)]) (hl : b.length = k) (h0 : 0 < k) : stackS (a ++ b) = [(2 * k, nodeB p q)] := by
  rcases List.eq_nil_or_concat b with rfl | ⟨b', s, rfl⟩
  · simp at hl; omega
  · rw [List.concat_eq_append] at hl hb ⊢
    have h' : b'.length = k - 1 := by simp at hl; omega
    rw [← List.append_assoc, stackS_snoc, stackS_on ha _ b' h' (by omega)]
    have hm := mergeS_bottom k p _ (1, leafB s) (stackS b') (Nat.le_refl _)
    rw [List.cons_append] at hm
    rw [hm]
    rw [stackS_snoc] at hb
    rw [hb]
    simp
theorem stackS_pow : ∀ (J : Nat) (l : List (List UInt8)), l.length = 2 ^ J → stackS l = [(2 ^ J, rootB l)] := by
  intro J
  induction J with
  | zero =>
    intro l h
    match l, h with
    | [a], _ => simp [stackS, pushS, mergeS_one, rootB, joinS]
    | [], h => simp at h
    | a :: b :: r, h => simp at h
  | succ J ih =>
    intro l h
    rw [Nat.pow_succ] at h
    have hp : 0 < 2 ^ J := Nat.two_pow_pos J
    have h1 : (l.take (2 ^ J)).length = 2 ^ J := by rw [List.length_take]; omega
    have h2 : (l.drop (2 ^ J)).length = 2 ^ J := by rw [List.length_drop]; omega
    have hs := stackS_full (ih _ h1) (ih _ h2) h2 hp
    rw [List.take_append_drop] at hs
    rw [rootB, hs, Nat.pow_succ, Nat.mul_comm]
    rfl
theorem joinS_snoc {st : List (Nat × List UInt8)} (h : st ≠ []) (k : Nat) (p : List UInt8) : joinS (st ++ [(k, p)]) = nodeB p (joinS st) := by
  cases st with
  | nil => exact absurd rfl h
  | cons x r => show (r ++ [(k, p)]).foldl _ _ = _; rw [List.foldl_append]; rfl
theorem rootB_app {a b : List (List UInt8)} {J : Nat} (ha : a.length = 2 ^ J) (hb1 : 1 ≤ b.length) (hb : b.length ≤ 2 ^ J) : rootB (a ++ b) = nodeB (rootB a) (rootB b) := by
  have hsa := stackS_pow J a ha
  rcases Nat.lt_or_ge b.length (2 ^ J) with h | h
  · rw [rootB, stackS_on hsa _ b rfl h, joinS_snoc (stackS_ne (by intro e; rw [e] at hb1; simp at hb1))]
    rfl
  · have hbl : b.length = 2 ^ J := by omega
    rw [rootB, stackS_full hsa (stackS_pow J b hbl) hbl (Nat.two_pow_pos J)]
    rfl
theorem rootB_split {l : List (List UInt8)} (h : 2 ≤ l.length) (h2 : l.length ≤ 9223372036854775807) : rootB l = nodeB (rootB (l.take (leftN l.length))) (rootB (l.drop (leftN l.length))) := by
  obtain ⟨b1, b2, b3⟩ := leftN_bd h h2
  obtain ⟨J, hJ⟩ : ∃ J, leftN l.length = 2 ^ J := ⟨_, rfl⟩
  have := rootB_app (a := l.take (leftN l.length)) (b := l.drop (leftN l.length)) (J := J) (by rw [List.length_take]; omega) (by rw [List.length_drop]; omega) (by rw [List.length_drop]; omega)
  rwa [List.take_append_drop] at this
theorem rootB_nil : rootB [] = shaB [] := rfl
theorem rootB_one (a : List UInt8) : rootB [a] = leafB a := by simp [rootB, stackS, pushS, mergeS_one, joinS]
end Go.Proofs.YtgmdjbhclihflaaDoor
