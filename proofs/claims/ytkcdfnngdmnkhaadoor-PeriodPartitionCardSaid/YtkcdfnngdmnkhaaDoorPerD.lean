/- Of outside the seconds; the reference's Days. -/
import Derived.Test.YtkcdfnngdmnkhaaDoorPerC
namespace Go.Proofs.YtkcdfnngdmnkhaaDoor
open Go Go.RowKit

set_option maxHeartbeats 400000 in
theorem of_out (s : Int) (hs : s < 0 ∨ 3155760000 ≤ s) (w : World) :
    Calls Tryd.prog 10 #[.int .i64 s] w fun e w' => e = .returned (V3b (0, 0, false)) ∧ w = w' := by
  rcases hs with h | h
  · go_enter Tryd.func10, Tryd.ntmps10
    go_wp2
    go_ret3
    exact ⟨rfl, rfl⟩
  · have d1 : ¬ s < 0 := by omega
    go_enter Tryd.func10, Tryd.ntmps10
    go_wp2
    go_ret3
    exact ⟨rfl, rfl⟩

theorem tabCells (w : World) (k : Nat) (h : k < 12) :
    (w.alloc (Obj.cells #[.int .i64 31, .int .i64 28, .int .i64 31, .int .i64 30, .int .i64 31, .int .i64 30, .int .i64 31, .int .i64 31, .int .i64 30, .int .i64 31, .int .i64 30, .int .i64 31] 3)).cell? ⟨w.heap.size, k, none⟩ = some (.int .i64 ((PerP.tab.getD k 0 : Nat) : Int)) := by
  match k, h with
  | 0, _ | 1, _ | 2, _ | 3, _ | 4, _ | 5, _ | 6, _ | 7, _ | 8, _ | 9, _ | 10, _ | 11, _ => simp [PerP.tab]

set_option maxRecDepth 100000 in
set_option maxHeartbeats 1000000 in
theorem refDays_any (p : Int) (w : World) :
    Calls Tryd.prog 17 #[.int .i64 p] w fun e w' => e = .returned (.int .i64 (daysSpec p)) ∧ Below w.heap.size w w' := by
  by_cases h : 0 ≤ p ∧ p < 1200
  · obtain ⟨k, rfl⟩ : ∃ k : Nat, p = (k : Int) := ⟨p.toNat, by omega⟩
    have hk : k < 1200 := by omega
    rw [daysSpec_in hk]
    have d1 : decide ((k : Int) < 0) = false := by simp
    have d2 : decide (1200 ≤ (k : Int)) = false := by simp; omega
    clear h
    by_cases h1 : k % 48 = 1
    · have ed : PerP.days k = 29 := by unfold PerP.days; rw [if_pos h1]
      have q1 : (((k : Int) % 12) == 1) = true := by rw [beq_iff_eq]; omega
      have q2 : (((k : Int) / 12 % 4) == 0) = true := by rw [beq_iff_eq]; omega
      have HD := Lib.hid ed; clear ed h1
      go_enter Tryd.func17, Tryd.ntmps17
      go_wp2
      go_ret
      exact ⟨by rw [HD.out]; rfl, (Below.refl _ _).alloc (Nat.le_refl _) _⟩
    · have ed : PerP.days k = PerP.tab.getD (k % 12) 0 := by unfold PerP.days; rw [if_neg h1]
      have HD := Lib.hid ed; clear ed
      have e3 := tabCells w (k % 12) (Nat.mod_lt _ (by omega))
      obtain ⟨j, hj⟩ : ∃ j, k % 12 = j := ⟨_, rfl⟩
      have hj1 : j < 12 := by omega
      have hj2 : (k : Int) % 12 = (j : Int) := by omega
      rw [hj] at e3 HD
      obtain ⟨t, ht⟩ : ∃ t, PerP.tab.getD j 0 = t := ⟨_, rfl⟩
      rw [ht] at e3 HD
      clear ht
      by_cases hj3 : j = 1
      · subst hj3
        have q2 : (((k : Int) / 12 % 4) == 0) = false := by rw [beq_eq_false_iff_ne]; omega
        clear hj h1
        go_enter Tryd.func17, Tryd.ntmps17
        go_wp2
        go_ret
        exact ⟨by rw [HD.out]; rfl, (Below.refl _ _).alloc (Nat.le_refl _) _⟩
      · have q1 : (((j : Int)) == 1) = false := by rw [beq_eq_false_iff_ne]; omega
        clear hj h1
        go_enter Tryd.func17, Tryd.ntmps17
        go_wp2
        go_ret
        exact ⟨by rw [HD.out]; rfl, (Below.refl _ _).alloc (Nat.le_refl _) _⟩
  · have ed : daysSpec p = 0 := by unfold daysSpec; rw [if_neg h]
    rw [ed]
    rcases Classical.em (p < 0) with h0 | h0
    · go_enter Tryd.func17, Tryd.ntmps17
      go_wp2
      go_ret
      exact ⟨rfl, Below.refl _ _⟩
    · have h1 : 1200 ≤ p := by omega
      clear h
      go_enter Tryd.func17, Tryd.ntmps17
      go_wp2
      go_ret
      exact ⟨rfl, Below.refl _ _⟩
end Go.Proofs.YtkcdfnngdmnkhaaDoor
