/- left; lists of strings that grow. -/
import Derived.Test.YtgmdjbhclihflaaDoorDgK
namespace Go.Proofs.YtgmdjbhclihflaaDoor
open Go Go.RowKit Go.Lib Go.Shelf

theorem bla_spec : ∀ (f x : Nat), x < 2 ^ f → x < 2 ^ Lib.bitLenAux f x ∧ (x ≠ 0 → 2 ^ (Lib.bitLenAux f x - 1) ≤ x)
  | 0, x, h => by simp at h; subst h; simp [Lib.bitLenAux]
  | f + 1, x, h => by
    unfold Lib.bitLenAux
    split
    · subst_vars; simp
    · rename_i hx
      have ih := bla_spec f (x / 2) (by rw [Nat.pow_succ] at h; omega)
      refine ⟨?_, fun _ => ?_⟩
      · rw [Nat.add_comm, Nat.pow_succ]
        have := ih.1
        omega
      · rw [Nat.add_comm, Nat.add_sub_cancel]
        by_cases h2 : x / 2 = 0
        · have h3 : Lib.bitLenAux f (x / 2) = 0 := by rw [h2]; cases f <;> simp [Lib.bitLenAux]
          rw [h3]
          simp
          omega
        · have := ih.2 h2
          obtain ⟨m, hm⟩ : ∃ m, Lib.bitLenAux f (x / 2) = m + 1 := by
            cases f with
            | zero => exfalso; simp at h; omega
            | succ f => exact ⟨_, by unfold Lib.bitLenAux; rw [if_neg h2, Nat.add_comm]⟩
          rw [hm] at this ⊢
          rw [Nat.add_sub_cancel] at this
          rw [Nat.pow_succ]
          omega
theorem bl_spec (x : Nat) (h : x < 18446744073709551616) : x < 2 ^ Lib.bitLen x ∧ (x ≠ 0 → 2 ^ (Lib.bitLen x - 1) ≤ x) := bla_spec 64 x h
/-- the greatest power of two that is less than n, which is at least 2 -/
def leftN (n : Nat) : Nat := 2 ^ (Lib.bitLen (n - 1) - 1)
theorem leftN_bd {n : Nat} (h : 2 ≤ n) (h2 : n ≤ 9223372036854775807) : 1 ≤ leftN n ∧ leftN n < n ∧ n ≤ 2 * leftN n := by
  have hs := bl_spec (n - 1) (by omega)
  unfold leftN
  have h1 := hs.2 (by omega)
  have h0 : Lib.bitLen (n - 1) ≠ 0 := by intro e; rw [e] at hs; simp at hs; omega
  obtain ⟨m, hm⟩ : ∃ m, Lib.bitLen (n - 1) = m + 1 := ⟨Lib.bitLen (n - 1) - 1, by omega⟩
  rw [hm] at hs h1 ⊢
  have hp : 2 ^ (m + 1) = 2 * 2 ^ m := by rw [Nat.pow_succ]; omega
  have hpos : 1 ≤ 2 ^ m := Nat.one_le_two_pow
  simp only [Nat.add_sub_cancel] at h1 ⊢
  have h3 := hs.1
  rw [hp] at h3
  omega
set_option maxHeartbeats 1000000 in
theorem left_any (n : Nat) (w : World) (h : 2 ≤ n) (h2 : n ≤ 9223372036854775807) :
    Calls Tryd.prog 37 #[.int .i64 n] w fun e w' => e = .returned (.int .i64 (leftN n : Nat)) ∧ w = w' := by
  have BL := Lib.hid (fun W => Tryd.bits_Len ((n - 1 : Nat) : Int) W (by omega) (by omega))
  have hb := leftN_bd h h2
  obtain ⟨b, hbb⟩ : ∃ b, Lib.bitLen (n - 1) = b := ⟨_, rfl⟩
  have e : leftN n = 2 ^ (b - 1) := by unfold leftN; rw [hbb]
  have e0 : ((n - 1 : Nat) : Int).toNat = n - 1 := by omega
  rw [e0, hbb] at BL
  rw [e]
  rw [e] at hb
  obtain ⟨m, hm⟩ : ∃ m, n - 1 = m := ⟨_, rfl⟩
  have hb1 : 1 ≤ b := by
    have hs := bl_spec (n - 1) (by omega)
    rw [hbb] at hs
    rcases Nat.eq_zero_or_pos b with h0 | h0
    · rw [h0] at hs; simp at hs; omega
    · exact h0
  have hb2 : b ≤ 64 := by rw [← hbb]; exact Lib.bitLen_le (n - 1) 64 (by omega) (by omega)
  have hnm : (n : Int) - 1 = (m : Int) := by omega
  rw [hm] at BL
  have HB := Lib.hid hb
  clear hb e e0 hbb hm
  go_enter Tryd.func37, Tryd.ntmps37
  go_wp2_with fail
  refine (BL.out _).mono ?_
  rintro e w' ⟨rfl, rfl⟩
  go_wp2_with fail
  have hw : wrap64 ((2 : Int) ^ (b - 1)) = ((2 ^ (b - 1) : Nat) : Int) := by
    rw [show ((2 : Int) ^ (b - 1)) = ((2 ^ (b - 1) : Nat) : Int) by simp]
    have := HB.out
    exact IntWalk.wrap64_in _ ⟨by omega, by omega⟩
  have HW := Lib.hid hw
  clear hw
  go_ret
  exact ⟨by rw [← HW.out]; rfl, rfl⟩
end Go.Proofs.YtgmdjbhclihflaaDoor
