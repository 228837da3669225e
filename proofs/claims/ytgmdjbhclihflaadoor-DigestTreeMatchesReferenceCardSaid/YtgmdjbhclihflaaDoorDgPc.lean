/- The lengths of the proofs that are made; a proof of another length is refused. -/
import Derived.Test.YtgmdjbhclihflaaDoorDgPb
namespace Go.Proofs.YtgmdjbhclihflaaDoor
open Go Go.RowKit Go.Lib Go.Shelf

/-- the number of strings in a proof -/
def dep : Nat → Nat → Nat → Nat
  | 0, _, _ => 0
  | f + 1, n, i => if n ≤ 1 then 0 else if i < leftN n then dep f (leftN n) i + 1 else dep f (n - leftN n) (i - leftN n) + 1
theorem verV_dep : ∀ (f n i : Nat) (s : List UInt8) (rp : List (List UInt8)) (v : List UInt8), verV f n i s rp = some v → rp.length = dep f n i := by
  intro f
  induction f with
  | zero => intro n i s rp v h; simp [verV] at h
  | succ f ih =>
    intro n i s rp v h
    by_cases h1 : n ≤ 1
    · rw [verV_one h1] at h
      split at h
      · next e => subst e; simp [dep, h1]
      · cases h
    · cases rp with
      | nil => rw [verV_nil h1] at h; cases h
      | cons x r =>
        rw [verV_cons h1] at h
        rw [dep, if_neg h1, List.length_cons]
        split at h
        · next hi =>
          obtain ⟨v', hv, _⟩ := Option.map_eq_some_iff.1 h
          rw [if_pos hi, ih _ _ _ _ _ hv]
        · next hi =>
          obtain ⟨v', hv, _⟩ := Option.map_eq_some_iff.1 h
          rw [if_neg hi, ih _ _ _ _ _ hv]
theorem descL_dep : ∀ (f : Nat) (l : List (List UInt8)) (i : Nat), l.length ≤ 1000000 → (descL f l i).length = dep f l.length i := by
  intro f
  induction f with
  | zero => intro l i _; rfl
  | succ f ih =>
    intro l i hl
    by_cases h1 : l.length ≤ 1
    · rw [stop_desc h1, dep, if_pos h1]; rfl
    · obtain ⟨b1, b2, b3⟩ := leftN_bd (show 2 ≤ l.length by omega) (by omega)
      have ht : (l.take (leftN l.length)).length = leftN l.length := by rw [List.length_take]; omega
      have hd : (l.drop (leftN l.length)).length = l.length - leftN l.length := List.length_drop
      have e1 := ih (l.take (leftN l.length)) i (by omega)
      have e2 := ih (l.drop (leftN l.length)) (i - leftN l.length) (by omega)
      rw [ht] at e1
      rw [hd] at e2
      rw [descL, dep, if_neg h1, if_neg h1]
      split
      · rw [List.length_cons, e1]
      · rw [List.length_cons, e2]
theorem pow_half {n J : Nat} (h : 2 ≤ n) (hb : n ≤ 1000000) (hJ : n ≤ 2 ^ J) : ∃ j, J = j + 1 ∧ leftN n ≤ 2 ^ j ∧ n - leftN n ≤ 2 ^ j := by
  obtain ⟨b1, b2, b3⟩ := leftN_bd h (by omega)
  obtain ⟨q, hq⟩ : ∃ q, leftN n = 2 ^ q := ⟨_, rfl⟩
  have hlt : 2 ^ q < 2 ^ J := by omega
  have hqJ : q < J := (Nat.pow_lt_pow_iff_right (by omega)).1 hlt
  refine ⟨J - 1, by omega, ?_, ?_⟩
  · rw [hq]; exact Nat.pow_le_pow_right (by omega) (by omega)
  · have : 2 ^ q ≤ 2 ^ (J - 1) := Nat.pow_le_pow_right (by omega) (by omega)
    omega
theorem dep_le : ∀ (f n i J : Nat), n ≤ 2 ^ J → n ≤ 1000000 → dep f n i ≤ J := by
  intro f
  induction f with
  | zero => intro n i J _ _; exact Nat.zero_le _
  | succ f ih =>
    intro n i J hJ hb
    rw [dep]
    split
    · omega
    · next h1 =>
      obtain ⟨b1, b2, b3⟩ := leftN_bd (show 2 ≤ n by omega) (by omega)
      obtain ⟨j, rfl, h2, h3⟩ := pow_half (show 2 ≤ n by omega) hb hJ
      split
      · have := ih (leftN n) i j h2 (by omega); omega
      · have := ih (n - leftN n) (i - leftN n) j h3 (by omega); omega
theorem partL_le : ∀ (f : Nat) (l : List (List UInt8)) (m : Nat) (wh : Bool) (J : Nat), l.length ≤ 2 ^ J → l.length ≤ 1000000 → 1 ≤ m → (partL f l m wh).length ≤ J + 1 := by
  intro f
  induction f with
  | zero => intro l m wh J _ _ _; simp [partL]
  | succ f ih =>
    intro l m wh J hJ hb hm
    rw [partL]
    split
    · split <;> simp
    · next h1 =>
      obtain ⟨b1, b2, b3⟩ := leftN_bd (show 2 ≤ l.length by omega) (by omega)
      obtain ⟨j, rfl, h2, h3⟩ := pow_half (show 2 ≤ l.length by omega) hb hJ
      have ht : (l.take (leftN l.length)).length = leftN l.length := by rw [List.length_take]; omega
      have hd : (l.drop (leftN l.length)).length = l.length - leftN l.length := List.length_drop
      split
      · have := ih (l.take (leftN l.length)) m wh j (by omega) (by omega) hm
        rw [List.length_cons]; omega
      · have := ih (l.drop (leftN l.length)) (m - leftN l.length) false j (by omega) (by omega) (by omega)
        rw [List.length_cons]; omega
theorem binL_pow : ∀ (n : Nat), n < 2 ^ binL n n := by
  intro n
  induction n using Nat.strongRecOn with
  | ind n ih =>
    by_cases h : n = 0
    · subst h; simp [binL]
    · rw [binL_step (by omega), Nat.pow_succ]
      have := ih (n / 2) (by omega)
      omega
theorem proofB_short (l : List (List UInt8)) (i : Nat) (h : l.length ≤ 1000000) : (proofB l i).length ≤ binL l.length l.length := by
  unfold proofB
  rw [List.length_reverse, descL_dep _ _ _ h]
  exact dep_le _ _ _ _ (Nat.le_of_lt (binL_pow _)) h
theorem extB_two (l : List (List UInt8)) (m : Nat) (h : l.length ≤ 1000000) (hm : m ≤ l.length) : (extB l m).length ≤ 2 * binL l.length l.length := by
  unfold extB
  split
  · simp
  · rw [List.length_reverse]
    have h1 := partL_le l.length l m true (binL l.length l.length) (Nat.le_of_lt (binL_pow _)) h (by omega)
    have h2 : 0 < binL l.length l.length := by rw [binL_step (show 0 < l.length by omega)]; omega
    omega
/-- a proof of another length is refused -/
theorem verV_other {l : List (List UInt8)} {i : Nat} {s : List UInt8} {root : List UInt8} {pr : List (List UInt8)} (hl : l.length ≤ 1000000) (h : pr.length ≠ (proofB l i).length) : (verV l.length l.length i s pr.reverse == some root) = false := by
  rw [beq_eq_false_iff_ne]
  intro e
  refine h ?_
  have h1 := verV_dep _ _ _ _ _ _ e
  rw [List.length_reverse] at h1
  unfold proofB
  rw [List.length_reverse, descL_dep _ _ _ hl, h1]
end Go.Proofs.YtgmdjbhclihflaaDoor
