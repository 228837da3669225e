/- The reference's MulDiv at a million. -/
import Derived.Test.YtejkgnlflhngbaaAmtE
namespace Go.Proofs.Ytejkgnlflhngbaa
open Go Go.RowKit Go.Lib

theorem half_step (a b j : Nat) : a / 2 ^ j * b = 2 * (a / 2 ^ (j + 1) * b) + (if a / 2 ^ j % 2 = 1 then b else 0) := by
  have h : a / 2 ^ (j + 1) = a / 2 ^ j / 2 := by rw [Nat.pow_succ, Nat.div_div_eq_div_mul]
  rw [h]
  obtain ⟨s, hs⟩ : ∃ s, a / 2 ^ j = s := ⟨_, rfl⟩
  rw [hs]
  obtain ⟨t, ht⟩ : ∃ t, s / 2 = t := ⟨_, rfl⟩
  rw [ht]
  by_cases h1 : s % 2 = 1
  · rw [if_pos h1, show s = 2 * t + 1 by omega, Nat.add_mul, Nat.one_mul, Nat.mul_assoc]
  · rw [if_neg h1, show s = 2 * t by omega, Nat.mul_assoc, Nat.add_zero]

def DivAt (a b : Nat) (x q r : Int) : Prop := q * 1000000 + r = ((a / 2 ^ (x + 1).toNat * b : Nat) : Int)

set_option maxRecDepth 100000 in
set_option maxHeartbeats 2000000 in
theorem refDivide_nat (a b : Nat) (ha : a < 9223372036854775808) (hb : b < 9223372036854775808) (w : World) :
    Calls Try.prog 52 #[.int .i64 (a : Int), .int .i64 (b : Int), .int .i64 1000000] w fun e w' => (∃ r, e = .returned (.tuple #[.int .i64 (mulDivSpec a b).1, .int .i64 r, .bool (mulDivSpec a b).2])) ∧ w = w' := by
  have es : mulDivSpec a b = if 4611686018427387903 < a * b / 1000000 then ((0 : Int), false) else (((a * b / 1000000 : Nat) : Int), true) := by
    unfold mulDivSpec
    rw [if_neg (by omega), Int.toNat_natCast, Int.toNat_natCast]
  have HE := Lib.hid es; clear es
  have HA := Lib.hid ha; clear ha
  go_enter Try.func52, Try.ntmps52
  go_wp2_with fail
  go_loop [10, 11, 12] (fun qv rv iv => ∃ (x q r : Int), iv = .int .i64 x ∧ qv = .int .u64 q ∧ rv = .int .u64 r ∧ -1 ≤ x ∧ x ≤ 62 ∧ 0 ≤ q ∧ q ≤ 4611686018427387903 ∧ 0 ≤ r ∧ r < 1000000 ∧ Hid (DivAt a b x q r)) (fun _ _ i => (intOf i + 1).toNat)
  case atStart => exact ⟨62, 0, 0, rfl, rfl, rfl, by omega, by omega, by omega, by omega, by omega, by omega, Lib.hid (by
    unfold DivAt
    have h : a / 2 ^ (63 : Nat) = 0 := Nat.div_eq_of_lt HA.out
    rw [show ((62 : Int) + 1).toNat = 63 from rfl, h, Nat.zero_mul]; rfl)⟩
  case round =>
    obtain ⟨x, q, r, rfl, rfl, rfl, x1, x2, q1, q2, r1, r2, HD⟩ := hrel
    by_cases hx : 0 ≤ x
    · obtain ⟨j, rfl⟩ : ∃ j : Nat, x = (j : Int) := ⟨x.toNat, by omega⟩
      have hst := half_step a b j
      have hda := HD.out
      unfold DivAt at hda
      rw [show ((j : Int) + 1).toNat = j + 1 by omega] at hda
      obtain ⟨M, hM⟩ : ∃ M, a / 2 ^ (j + 1) * b = M := ⟨_, rfl⟩
      rw [hM] at hst hda
      clear hM HD
      by_cases hbit : a / 2 ^ j % 2 = 1
      · rw [if_pos hbit] at hst
        obtain ⟨SB, hSB⟩ : ∃ SB, a / 2 ^ j * b = SB := ⟨_, rfl⟩
        have hle : SB ≤ a * b := by rw [← hSB]; exact Nat.mul_le_mul_right _ (Nat.div_le_self _ _)
        rw [hSB] at hst
        have HSB := Lib.hid hSB; clear hSB
        obtain ⟨AB, hAB⟩ : ∃ AB, a * b = AB := ⟨_, rfl⟩
        rw [hAB] at hle
        have HLE := Lib.hid hle
        have HE3 := Lib.hid HE.out
        rw [hAB] at HE3
        clear hAB hle
        obtain ⟨s, hs⟩ : ∃ s, a / 2 ^ j = s := ⟨_, rfl⟩
        have hs' : (a : Int) / 2 ^ j = (s : Int) := by rw [← hs]; norm_cast
        rw [hs] at hbit
        have hb0 : (((s : Int) % 2) == 1) = true := by rw [beq_iff_eq]; omega
        have HST := Lib.hid hst
        have HDA := Lib.hid hda
        clear hst hda hs hbit
        go_wp2_with fail
        all_goals
          first
            | (go_ret3; refine ⟨⟨0, ?_⟩, rfl⟩; have he := HE3.out; rw [if_pos (by have g1 := HST.out; have g2 := HDA.out; have g3 := HLE.out; omega)] at he; rw [he]; rfl)
            | (go_round
               case rel => exact ⟨_, _, _, rfl, rfl, rfl, by omega, by omega, by omega, by omega, by omega, by omega, Lib.hid (by unfold DivAt; rw [show ((j : Int) - 1 + 1).toNat = j by omega, HSB.out]; have g1 := HST.out; have g2 := HDA.out; omega)⟩
               case measure => first | (simp [intOf]; omega) | simp [intOf])
      · rw [if_neg hbit] at hst
        obtain ⟨SB, hSB⟩ : ∃ SB, a / 2 ^ j * b = SB := ⟨_, rfl⟩
        have hle : SB ≤ a * b := by rw [← hSB]; exact Nat.mul_le_mul_right _ (Nat.div_le_self _ _)
        rw [hSB] at hst
        have HSB := Lib.hid hSB; clear hSB
        obtain ⟨AB, hAB⟩ : ∃ AB, a * b = AB := ⟨_, rfl⟩
        rw [hAB] at hle
        have HLE := Lib.hid hle
        have HE3 := Lib.hid HE.out
        rw [hAB] at HE3
        clear hAB hle
        obtain ⟨s, hs⟩ : ∃ s, a / 2 ^ j = s := ⟨_, rfl⟩
        have hs' : (a : Int) / 2 ^ j = (s : Int) := by rw [← hs]; norm_cast
        rw [hs] at hbit
        have hb0 : (((s : Int) % 2) == 1) = false := by rw [beq_eq_false_iff_ne]; omega
        have HST := Lib.hid hst
        have HDA := Lib.hid hda
        clear hst hda hs hbit
        go_wp2_with fail
        all_goals
          first
            | (go_ret3; refine ⟨⟨0, ?_⟩, rfl⟩; have he := HE3.out; rw [if_pos (by have g1 := HST.out; have g2 := HDA.out; have g3 := HLE.out; omega)] at he; rw [he]; rfl)
            | (go_round
               case rel => exact ⟨_, _, _, rfl, rfl, rfl, by omega, by omega, by omega, by omega, by omega, by omega, Lib.hid (by unfold DivAt; rw [show ((j : Int) - 1 + 1).toNat = j by omega, HSB.out]; have g1 := HST.out; have g2 := HDA.out; omega)⟩
               case measure => first | (simp [intOf]; omega) | simp [intOf])
    · obtain rfl : x = -1 := by omega
      have hda := HD.out
      unfold DivAt at hda
      rw [show ((-1 : Int) + 1).toNat = 0 from rfl, Nat.pow_zero, Nat.div_one] at hda
      have hq : ((a * b / 1000000 : Nat) : Int) = q := by omega
      have he := HE.out
      rw [if_neg (by omega), hq] at he
      have HE2 := Lib.hid he
      clear hda hq he HD HE
      go_wp2_with fail
      go_ret3
      exact ⟨⟨_, by rw [HE2.out]; rfl⟩, rfl⟩

theorem refMulDiv_any (a b : Int) (ha : a ≤ 9223372036854775807) (hb : b ≤ 9223372036854775807) (w : World) :
    Calls Try.prog 47 #[.int .i64 a, .int .i64 b, .int .i64 1000000] w fun e w' => e = .returned (.tuple #[.int .i64 (mulDivSpec a b).1, .bool (mulDivSpec a b).2]) ∧ w = w' := by
  by_cases h : a < 0 ∨ b < 0
  · have e : mulDivSpec a b = (0, false) := by unfold mulDivSpec; rw [if_pos h]
    rw [e]
    clear e
    rcases Classical.em (a < 0) with h1 | h1
    · clear h
      go_enter Try.func47, Try.ntmps47
      go_wp2
      go_ret2
      exact ⟨rfl, rfl⟩
    · have h2 : b < 0 := by omega
      clear h
      go_enter Try.func47, Try.ntmps47
      go_wp2
      go_ret2
      exact ⟨rfl, rfl⟩
  · obtain ⟨x, rfl⟩ : ∃ x : Nat, a = (x : Int) := ⟨a.toNat, by omega⟩
    obtain ⟨y, rfl⟩ : ∃ y : Nat, b = (y : Int) := ⟨b.toNat, by omega⟩
    have D := fun w => refDivide_nat x y (by omega) (by omega) w
    obtain ⟨⟨q, z⟩, ho⟩ : ∃ o, mulDivSpec x y = o := ⟨_, rfl⟩
    rw [ho] at D ⊢
    have HD := Lib.hid D
    clear D ho h
    go_enter Try.func47, Try.ntmps47
    go_wp2_with fail
    refine (HD.out _).mono ?_
    rintro e w' ⟨⟨r, rfl⟩, rfl⟩
    go_wp2_with fail
    go_ret2
    exact ⟨rfl, rfl⟩
end Go.Proofs.Ytejkgnlflhngbaa
