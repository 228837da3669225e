/- PeriodMonotone: the walk. -/
import Derived.Test.YtkcdfnngdmnkhaaDoorPerL2
namespace Go.Proofs.YtkcdfnngdmnkhaaDoor
open Go Go.RowKit

set_option maxRecDepth 100000 in
set_option maxHeartbeats 2000000 in
theorem monotone_walk (c1 c2 : Int) (w : World) (hT : LenAt w) (h1 : -9223372036854775808 ≤ c1) (h2 : c1 ≤ 9223372036854775807) (h3 : -9223372036854775808 ≤ c2) (h4 : c2 ≤ 9223372036854775807) :
    Calls Tryd.prog 5 #[.int .i64 c1, .int .i64 c2] w fun e w' => e = .returned (.bool true) ∧ Below w.heap.size w w' := by
  have hl := len_lt hT
  obtain ⟨i, hi, -, PI⟩ := pick_nat c1 3155760000 (by omega) (by omega) h1 h2
  obtain ⟨j, hj, -, PJ⟩ := pick_nat c2 3155760000 (by omega) (by omega) h3 h4
  -- the smaller one, the greater one
  obtain ⟨a, b, hab, hb3, hij⟩ : ∃ a b : Nat, a ≤ b ∧ b < 3155760000 ∧ ((i = a ∧ j = b ∧ i < j) ∨ (j = a ∧ i = b ∧ j < i) ∨ (j = a ∧ i = a ∧ b = a)) := by
    rcases Nat.lt_trichotomy j i with h | h | h
    · exact ⟨j, i, by omega, by omega, .inr (.inl ⟨rfl, rfl, h⟩)⟩
    · exact ⟨j, j, by omega, by omega, .inr (.inr ⟨rfl, h.symm, rfl⟩)⟩
    · exact ⟨i, j, by omega, by omega, .inl ⟨rfl, rfl, h⟩⟩
  obtain ⟨p, hp, p1, p2⟩ := PerP.of_ex' (a / 86400) (by omega)
  obtain ⟨q, hq, q1, q2⟩ := PerP.of_ex' (b / 86400) (by omega)
  have OA := of_t a (a / 86400) p _ (by omega) rfl hp p1 p2 rfl
  have OB := of_t b (b / 86400) q _ (by omega) rfl hq q1 q2 rfl
  have hm := PerP.of_mono (m := a / 86400) (n := b / 86400) (by omega) p1 p2 q1 q2
  obtain ⟨d, hd⟩ : ∃ d, a / 86400 - PerP.start p + 1 = d := ⟨_, rfl⟩
  obtain ⟨e, he⟩ : ∃ e, b / 86400 - PerP.start q + 1 = e := ⟨_, rfl⟩
  rw [hd] at OA
  rw [he] at OB
  have hm2 : p < q ∨ (¬ p < q ∧ (((p : Int) == (q : Int)) = true) ∧ d ≤ e) := by
    rcases hm with h | ⟨h, h'⟩
    · exact .inl h
    · refine .inr ⟨by omega, by rw [beq_iff_eq]; omega, by omega⟩
  have HOA := Lib.hid OA
  have HOB := Lib.hid OB
  have HPI := Lib.hid PI
  have HPJ := Lib.hid PJ
  have HT := Lib.hid hT
  clear OA OB PI PJ hT hd he hm p1 p2 q1 q2 hi hj hb3
  rcases hm2 with hm2 | ⟨hm2, hm3, hm4⟩
  all_goals
    rcases hij with ⟨rfl, rfl, hij⟩ | ⟨rfl, rfl, hij⟩ | ⟨rfl, rfl, rfl⟩
    all_goals
      go_enter Tryd.func5, Tryd.ntmps5
      go_wp2_with fail
      refine (sane_any _ HT.out).mono ?_
      rintro e w1 ⟨rfl, hb⟩
      have HB := Lib.hid hb; clear hb
      have HT1 := Lib.hid (HT.out.below HB.out hl)
      go_wp2_with fail
      refine (HPI.out _).mono ?_
      rintro e w' ⟨rfl, rfl⟩
      go_wp2_with fail
      refine (HPJ.out _).mono ?_
      rintro e w' ⟨rfl, rfl⟩
      go_wp2_with fail
      refine (HOA.out _ HT1.out).mono ?_
      rintro e w' ⟨rfl, rfl⟩
      go_wp2_with fail
      refine (HOB.out _ HT1.out).mono ?_
      rintro e w' ⟨rfl, rfl⟩
      go_wp2_with fail
      go_ret
      exact ⟨rfl, HB.out⟩
end Go.Proofs.YtkcdfnngdmnkhaaDoor
