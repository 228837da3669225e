/- amount.MulDiv at a million. -/
import Derived.Test.YtejkgnlflhngbaaAmtD
namespace Go.Proofs.Ytejkgnlflhngbaa
open Go Go.RowKit Go.Lib

/-- a times b divided by a million, or nothing -/
def mulDivSpec (a b : Int) : Int × Bool := if a < 0 ∨ b < 0 then (0, false) else
  if 4611686018427387903 < a.toNat * b.toNat / 1000000 then (0, false) else (((a.toNat * b.toNat / 1000000 : Nat) : Int), true)

theorem overSpec_mul (p : Nat) : ((overSpec (p / 18446744073709551616) (p % 18446744073709551616)).1, (overSpec (p / 18446744073709551616) (p % 18446744073709551616)).2.2) =
    if 4611686018427387903 < p / 1000000 then ((0 : Int), false) else (((p / 1000000 : Nat) : Int), true) := by
  have e : p / 18446744073709551616 * 18446744073709551616 + p % 18446744073709551616 = p := by
    rw [Nat.mul_comm]; exact Nat.div_add_mod p _
  unfold overSpec
  rw [e]
  by_cases h : 1000000 ≤ p / 18446744073709551616
  · rw [if_pos h, if_pos (by
      have h2 : 1000000 * 18446744073709551616 ≤ p := Nat.mul_le_of_le_div _ _ _ h |> fun x => by rw [Nat.mul_comm] at x; rw [Nat.mul_comm]; exact x
      have h3 : 18446744073709551616 ≤ p / 1000000 := by rw [Nat.le_div_iff_mul_le (by omega), Nat.mul_comm]; exact h2
      exact Nat.lt_of_lt_of_le (by decide) h3)]
  · rw [if_neg h]
    split <;> rfl

set_option maxRecDepth 100000 in
set_option maxHeartbeats 1000000 in
theorem mulDiv_neg (a b : Int) (h : a < 0 ∨ b < 0) (w : World) :
    Calls Try.prog 53 #[.int .i64 a, .int .i64 b, .int .i64 1000000] w fun e w' => e = .returned (.tuple #[.int .i64 0, .bool false]) ∧ Below w.heap.size w w' := by
  have N := none_two a b w.heap.size (w.alloc (.cells #[.int .i64 a, .int .i64 b] 3)) (by simp) (by simp) (by simp)
  have e : (!(decide (a < 0) || decide (b < 0))) = false := by
    rcases h with h | h <;> simp [h]
  rw [e] at N
  have H := Lib.hid N
  clear N h e
  go_enter Try.func53, Try.ntmps53
  go_wp2_with fail
  refine (H.out).mono ?_
  rintro e w' ⟨rfl, hb⟩
  have HB := Lib.hid (((Below.refl w.heap.size w).alloc (Nat.le_refl _) _).trans (hb.mono (by simp))); clear hb
  go_wp2_with fail
  go_ret2
  exact ⟨rfl, HB.out⟩

set_option maxRecDepth 100000 in
set_option maxHeartbeats 1000000 in
theorem mulDiv_nat (a b : Nat) (ha : a < 9223372036854775808) (hb : b < 9223372036854775808) (w : World) :
    Calls Try.prog 53 #[.int .i64 (a : Int), .int .i64 (b : Int), .int .i64 1000000] w fun e w' => e = .returned (.tuple #[.int .i64 (mulDivSpec a b).1, .bool (mulDivSpec a b).2]) ∧ Below w.heap.size w w' := by
  have N := none_two a b w.heap.size (w.alloc (.cells #[.int .i64 a, .int .i64 b] 3)) (by simp) (by simp) (by simp)
  have e : (!(decide ((a : Int) < 0) || decide ((b : Int) < 0))) = true := by
    have h1 : decide ((a : Int) < 0) = false := by simp
    have h2 : decide ((b : Int) < 0) = false := by simp
    rw [h1, h2]; rfl
  rw [e] at N
  have P := fun w => product_any a b ha hb w
  have O := fun w => over_any (a * b / 18446744073709551616) (a * b % 18446744073709551616) (Nat.mod_lt _ (by omega)) w
  have es : mulDivSpec a b = ((overSpec (a * b / 18446744073709551616) (a * b % 18446744073709551616)).1, (overSpec (a * b / 18446744073709551616) (a * b % 18446744073709551616)).2.2) := by
    rw [overSpec_mul]
    unfold mulDivSpec
    rw [if_neg (by omega), Int.toNat_natCast, Int.toNat_natCast]
  rw [es]
  obtain ⟨⟨x, y, z⟩, ho⟩ : ∃ o, overSpec (a * b / 18446744073709551616) (a * b % 18446744073709551616) = o := ⟨_, rfl⟩
  rw [ho] at O ⊢
  obtain ⟨hh, hhh⟩ : ∃ h, a * b / 18446744073709551616 = h := ⟨_, rfl⟩
  obtain ⟨l, hl⟩ : ∃ l, a * b % 18446744073709551616 = l := ⟨_, rfl⟩
  rw [hhh, hl] at O P
  have H := Lib.hid N
  have HP := Lib.hid P
  have HO := Lib.hid O
  clear N e P O es ho hhh hl
  go_enter Try.func53, Try.ntmps53
  go_wp2_with fail
  refine (H.out).mono ?_
  rintro e w' ⟨rfl, hb⟩
  have HB := Lib.hid (((Below.refl w.heap.size w).alloc (Nat.le_refl _) _).trans (hb.mono (by simp))); clear hb
  go_wp2_with fail
  refine (HP.out _).mono ?_
  rintro e w2 ⟨rfl, hb⟩
  have HB2 := Lib.hid (HB.out.trans (hb.mono HB.out.size)); clear hb
  go_wp2_with fail
  refine (HO.out _).mono ?_
  rintro e w3 ⟨rfl, hb⟩
  have HB3 := Lib.hid (HB2.out.trans (hb.mono HB2.out.size)); clear hb
  go_wp2_with fail
  go_ret2
  exact ⟨rfl, HB3.out⟩

theorem mulDiv_any (a b : Int) (ha : a ≤ 9223372036854775807) (hb : b ≤ 9223372036854775807) (w : World) :
    Calls Try.prog 53 #[.int .i64 a, .int .i64 b, .int .i64 1000000] w fun e w' => e = .returned (.tuple #[.int .i64 (mulDivSpec a b).1, .bool (mulDivSpec a b).2]) ∧ Below w.heap.size w w' := by
  by_cases h : a < 0 ∨ b < 0
  · have e : mulDivSpec a b = (0, false) := by unfold mulDivSpec; rw [if_pos h]
    rw [e]
    exact mulDiv_neg a b h w
  · obtain ⟨x, rfl⟩ : ∃ x : Nat, a = (x : Int) := ⟨a.toNat, by omega⟩
    obtain ⟨y, rfl⟩ : ∃ y : Nat, b = (y : Int) := ⟨b.toNat, by omega⟩
    exact mulDiv_nat x y (by omega) (by omega) w
end Go.Proofs.Ytejkgnlflhngbaa
