/- min, and a beginning of a string. -/
import Derived.Test.YtfiabonacpepnaaGreatDoorBase
namespace Go.Proofs.YtfiabonacpepnaaGreatDoor
open Go Go.RowKit

/-- min(n, k), as the walk writes it -/
theorem min_ite (a k : Nat) : (if (k : Int) < (a : Int) then (k : Int) else (a : Int)) = ((min a k : Nat) : Int) := by
  split <;> omega
/-- s[:min(len(s), k)] -/
theorem cut_ex (s : ByteArray) (k : Nat) (K : Int) (hK : K = (k : Int)) : ∃ (m : Nat) (r : ByteArray), m ≤ k ∧ m ≤ s.size ∧ r.size = m ∧ s.extract 0 m = r ∧ r.data.toList = s.data.toList.take k ∧
    (if K < (s.size : Int) then K else (s.size : Int)) = (m : Int) := by
  subst hK
  refine ⟨min s.size k, s.extract 0 (min s.size k), Nat.min_le_right _ _, Nat.min_le_left _ _, ?_, rfl, ?_, min_ite _ _⟩
  · simp
  · have := extract_list s 0 (min s.size k)
    rw [Nat.zero_add] at this
    rw [this]
    simp only [List.drop_zero]
    by_cases h : s.size ≤ k
    · rw [Nat.min_eq_left h, List.take_of_length_le (by simp), List.take_of_length_le (by simpa using h)]
    · rw [Nat.min_eq_right (by omega)]

end Go.Proofs.YtfiabonacpepnaaGreatDoor
