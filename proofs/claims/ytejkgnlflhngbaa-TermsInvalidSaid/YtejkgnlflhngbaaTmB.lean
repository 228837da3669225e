/- Small functions of the chapter: ranges, parts, cents, sums. -/
import Derived.Test.YtejkgnlflhngbaaTmP
import Derived.Test.YtejkgnlflhngbaaTmA
import Derived.Test.YtejkgnlflhngbaaAmtF
namespace Go.Proofs.Ytejkgnlflhngbaa
open Go Go.RowKit Go.Lib Go.Shelf

theorem withinC_any (x a b : Int) (w : World) :
    Calls Try.prog 36 #[.int .i64 x, .int .i64 a, .int .i64 b] w fun e w' => e = .returned (.bool (inR x a b)) ∧ w = w' := by
  unfold inR
  by_cases h1 : a ≤ x
  · have d1 : decide (a ≤ x) = true := by simpa using h1
    by_cases h2 : x ≤ b
    · have d2 : decide (x ≤ b) = true := by simpa using h2
      rw [d1, d2]
      go_enter Try.func36, Try.ntmps36
      go_wp2_with fail
      go_ret
      simp
    · have d2 : decide (x ≤ b) = false := by simpa using h2
      rw [d1, d2]
      clear h2
      go_enter Try.func36, Try.ntmps36
      go_wp2_with fail
      go_ret
      simp
  · have d1 : decide (a ≤ x) = false := by simpa using h1
    rw [d1]
    clear h1
    go_enter Try.func36, Try.ntmps36
    go_wp2_with fail
    go_ret
    simp
theorem withinR_any (x a b : Int) (w : World) :
    Calls Try.prog 45 #[.int .i64 x, .int .i64 a, .int .i64 b] w fun e w' => e = .returned (.bool (inR x a b)) ∧ w = w' := by
  unfold inR
  by_cases h1 : a ≤ x
  · have d1 : decide (a ≤ x) = true := by simpa using h1
    by_cases h2 : x ≤ b
    · have d2 : decide (x ≤ b) = true := by simpa using h2
      rw [d1, d2]
      go_enter Try.func45, Try.ntmps45
      go_wp2_with fail
      go_ret
      simp
    · have d2 : decide (x ≤ b) = false := by simpa using h2
      rw [d1, d2]
      clear h2
      go_enter Try.func45, Try.ntmps45
      go_wp2_with fail
      go_ret
      simp
  · have d1 : decide (a ≤ x) = false := by simpa using h1
    rw [d1]
    clear h1
    go_enter Try.func45, Try.ntmps45
    go_wp2_with fail
    go_ret
    simp
theorem cents_any (x : Int) (hx : 0 ≤ x) (hx2 : x ≤ 9223372036854775807) (w : World) :
    Calls Try.prog 27 #[.int .i64 x] w fun e w' => e = .returned (.tuple #[.int .i64 (x - x % 10000), .int .i64 (x % 10000)]) ∧ w = w' := by
  have hn : ¬ x < 0 := by omega
  have hd : decide (x < 0) = false := by simpa using hn
  obtain ⟨r, hr⟩ : ∃ r, x % 10000 = r := ⟨_, rfl⟩
  have hr1 : 0 ≤ r ∧ r < 10000 := by omega
  have ht : x.tmod 10000 = r := by rw [Int.tmod_eq_emod_of_nonneg hx]; exact hr
  rw [hr]
  have HR := Lib.hid hr
  clear hr
  go_enter Try.func27, Try.ntmps27
  go_wp2_with fail
  go_ret2
  exact ⟨rfl, rfl⟩
theorem refCents_any (x : Int) (hx : 0 ≤ x) (hx2 : x ≤ 9223372036854775807) (w : World) :
    Calls Try.prog 33 #[.int .i64 x] w fun e w' => e = .returned (.tuple #[.int .i64 (x - x % 10000), .int .i64 (x % 10000)]) ∧ w = w' := by
  have hn : ¬ x < 0 := by omega
  obtain ⟨r, hr⟩ : ∃ r, x % 10000 = r := ⟨_, rfl⟩
  obtain ⟨q, hq⟩ : ∃ q, x / 10000 = q := ⟨_, rfl⟩
  have e1 : x - r = q * 10000 := by omega
  have ht : x.tmod 10000 = r := by rw [Int.tmod_eq_emod_of_nonneg hx]; exact hr
  have hq2 : x.tdiv 10000 = q := by rw [Int.tdiv_eq_ediv_of_nonneg hx]; exact hq
  have hb : 0 ≤ q ∧ q * 10000 ≤ 9223372036854775807 := by omega
  rw [hr, e1]
  have HR := Lib.hid hr
  have HQ := Lib.hid hq
  clear hr hq e1
  go_enter Try.func33, Try.ntmps33
  go_wp2_with fail
  go_ret2
  exact ⟨rfl, rfl⟩
theorem mulDiv_part {x n : Int} (hx : 0 ≤ x) (hx2 : x ≤ 1000000000000000000) (hn : 0 ≤ n) (hn2 : n ≤ 1000000) : mulDivSpec x n = (partN x n, true) := by
  have h1 : x * n / 1000000 ≤ x := (partN_bd hx hn hn2).2
  unfold mulDivSpec partN
  rw [if_neg (by omega)]
  obtain ⟨a, rfl⟩ := Int.eq_ofNat_of_zero_le hx
  obtain ⟨b, rfl⟩ := Int.eq_ofNat_of_zero_le hn
  have e : ((a : Int) * (b : Int)) / 1000000 = ((a * b / 1000000 : Nat) : Int) := by simp
  rw [e] at h1 ⊢
  simp only [Int.toNat_natCast]
  rw [if_neg (by omega)]
theorem part_any (x n : Int) (hx : 0 ≤ x) (hx2 : x ≤ 1000000000000000000) (hn : 0 ≤ n) (hn2 : n ≤ 1000000) (w : World) :
    Calls Try.prog 51 #[.int .i64 x, .int .i64 n] w fun e w' => e = .returned (.int .i64 (partN x n)) ∧ Below w.heap.size w w' := by
  have M := mulDiv_any x n (by omega) (by omega) w
  rw [mulDiv_part hx hx2 hn hn2] at M
  have HM := Lib.hid M
  obtain ⟨p, hp⟩ : ∃ p, partN x n = p := ⟨_, rfl⟩
  rw [hp] at HM ⊢
  clear M hp
  go_enter Try.func51, Try.ntmps51
  go_wp2_with fail
  refine HM.out.mono ?_
  rintro e w' ⟨rfl, hb⟩
  have HB := Lib.hid hb
  clear hb
  go_wp2_with fail
  go_ret
  exact ⟨rfl, HB.out⟩
theorem refPart_any (x n : Int) (hx : 0 ≤ x) (hx2 : x ≤ 1000000000000000000) (hn : 0 ≤ n) (hn2 : n ≤ 1000000) (w : World) :
    Calls Try.prog 31 #[.int .i64 x, .int .i64 n] w fun e w' => e = .returned (.int .i64 (partN x n)) ∧ w = w' := by
  have M := refMulDiv_any x n (by omega) (by omega) w
  rw [mulDiv_part hx hx2 hn hn2] at M
  have HM := Lib.hid M
  obtain ⟨p, hp⟩ : ∃ p, partN x n = p := ⟨_, rfl⟩
  rw [hp] at HM ⊢
  clear M hp
  go_enter Try.func31, Try.ntmps31
  go_wp2_with fail
  refine HM.out.mono ?_
  rintro e w' ⟨rfl, rfl⟩
  go_wp2_with fail
  go_ret
  exact ⟨rfl, rfl⟩
end Go.Proofs.Ytejkgnlflhngbaa
