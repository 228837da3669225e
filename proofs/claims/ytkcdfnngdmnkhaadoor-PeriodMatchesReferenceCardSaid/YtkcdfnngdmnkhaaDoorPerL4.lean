/- PeriodRoundTrip: the walk. -/
import Derived.Test.YtkcdfnngdmnkhaaDoorPerL3
import Derived.WalkLawsBesides
namespace Go.Proofs.YtkcdfnngdmnkhaaDoor
open Go Go.RowKit

theorem bl_dig (a b : Nat) (x y : List UInt8) : Op.bytesLess (PerP.dig a :: x) (PerP.dig b :: y) = (decide (a % 10 < b % 10) || (decide (a % 10 = b % 10) && Op.bytesLess x y)) := by
  rw [Op.bytesLess]
  have e1 : (decide (PerP.dig a < PerP.dig b)) = decide (a % 10 < b % 10) := by
    rw [Bool.eq_iff_iff]; simp only [decide_eq_true_eq, UInt8.lt_iff_toNat_lt, PerP.dig_nat]; omega
  have e2 : (PerP.dig a == PerP.dig b) = decide (a % 10 = b % 10) := by
    rw [Bool.eq_iff_iff]; simp only [beq_iff_eq, decide_eq_true_eq]
    constructor
    · intro h
      have := congrArg UInt8.toNat h
      simp only [PerP.dig_nat] at this; omega
    · intro h
      apply UInt8.toNat_inj.1; rw [PerP.dig_nat, PerP.dig_nat, h]
  rw [e1, e2]
theorem bl_same (c : UInt8) (x y : List UInt8) : Op.bytesLess (c :: x) (c :: y) = Op.bytesLess x y := by
  rw [Op.bytesLess]
  have : ¬ c < c := UInt8.lt_irrefl c
  simp [this]
theorem fmt_less (p q : Nat) (hp : p < 1200) (hq : q < 1200) : Op.bytesLess (PerP.fmt p) (PerP.fmt q) = decide (p < q) := by
  unfold PerP.fmt
  rw [bl_dig, bl_dig, bl_dig, bl_dig, bl_same, bl_dig, bl_dig]
  rw [show Op.bytesLess [] [] = false from rfl, Bool.eq_iff_iff]
  simp only [Bool.or_eq_true, Bool.and_eq_true, decide_eq_true_eq, Bool.false_eq_true, and_false, or_false]
  obtain ⟨y, m, hm, hp1⟩ : ∃ y m, m < 12 ∧ p = y * 12 + m := ⟨p / 12, p % 12, by omega, by omega⟩
  obtain ⟨z, n, hn, hq1⟩ : ∃ y m, m < 12 ∧ q = y * 12 + m := ⟨q / 12, q % 12, by omega, by omega⟩
  have e1 : p / 12 = y := by omega
  have e2 : p % 12 = m := by omega
  have e3 : q / 12 = z := by omega
  have e4 : q % 12 = n := by omega
  rw [e1, e2, e3, e4]
  have hY : p < q ↔ y < z ∨ y = z ∧ m < n := by omega
  rw [hY]
  have y1 : y < 100 := by omega
  have z1 : z < 100 := by omega
  clear hY e1 e2 e3 e4 hp1 hq1 hp hq
  have h1 : m < n ↔ ((1 + m) / 10 % 10 < (1 + n) / 10 % 10 ∨ (1 + m) / 10 % 10 = (1 + n) / 10 % 10 ∧ (1 + m) % 10 < (1 + n) % 10) := by omega
  rw [h1]
  clear h1 hm hn
  have h2 : (2000 + y) / 1000 % 10 = 2 := by omega
  have h3 : (2000 + z) / 1000 % 10 = 2 := by omega
  have h4 : (2000 + y) / 100 % 10 = 0 := by omega
  have h5 : (2000 + z) / 100 % 10 = 0 := by omega
  rw [h2, h3, h4, h5]
  simp only [Nat.lt_irrefl, true_and, false_or]
  have h6 : y < z ↔ ((2000 + y) / 10 % 10 < (2000 + z) / 10 % 10 ∨ (2000 + y) / 10 % 10 = (2000 + z) / 10 % 10 ∧ (2000 + y) % 10 < (2000 + z) % 10) := by omega
  have h7 : y = z ↔ ((2000 + y) / 10 % 10 = (2000 + z) / 10 % 10 ∧ (2000 + y) % 10 = (2000 + z) % 10) := by omega
  rw [h6, h7]
  generalize (2000 + y) / 10 % 10 = a
  generalize (2000 + z) / 10 % 10 = b
  generalize (2000 + y) % 10 = c
  generalize (2000 + z) % 10 = d
  generalize (1 + m) / 10 % 10 = e
  generalize (1 + n) / 10 % 10 = f
  generalize (1 + m) % 10 = g
  generalize (1 + n) % 10 = h
  omega

theorem PerP.parse_cases (l : List UInt8) : (∃ k : Nat, k < 1200 ∧ PerP.parse l = ((k : Int), 0) ∧ PerP.fmt k = l) ∨ PerP.parse l = (0, 40) := by
  by_cases h : ∃ k, k < 1200 ∧ PerP.fmt k = l
  · obtain ⟨k, hk, rfl⟩ := h
    exact .inl ⟨k, hk, PerP.parse_fmt k hk, rfl⟩
  · exact .inr (PerP.parse_err fun p hp he => h ⟨p, hp, he⟩)
theorem parse_t (l : List UInt8) (n h : Int) (hp : PerP.parse l = (n, h)) (w : World) :
    Calls Tryd.prog 18 #[.string ⟨l.toArray⟩] w fun e w' => e = .returned (.tuple #[.int .i64 n, .int .i64 h]) ∧ Below w.heap.size w w' := by
  have := parse_any ⟨l.toArray⟩ w
  rw [show (ByteArray.mk l.toArray).data.toList = l from rfl, hp] at this
  exact this

set_option maxRecDepth 100000 in
set_option maxHeartbeats 2000000 in
theorem roundTrip_walk (c1 c2 : Int) (l : List UInt8) (w : World) (hT : LenAt w) (h1 : -9223372036854775808 ≤ c1) (h2 : c1 ≤ 9223372036854775807) (h3 : -9223372036854775808 ≤ c2) (h4 : c2 ≤ 9223372036854775807) :
    Calls Tryd.prog 6 #[.int .i64 c1, .int .i64 c2, .string ⟨l.toArray⟩] w fun e w' => e = .returned (.bool true) ∧ Below w.heap.size w w' := by
  have hl := len_lt hT
  obtain ⟨p, hp, -, PI⟩ := pick_nat c1 1200 (by omega) (by omega) h1 h2
  obtain ⟨q, hq, -, PJ⟩ := pick_nat c2 1200 (by omega) (by omega) h3 h4
  have FP := format_t p (by omega)
  have FQ := format_t q (by omega)
  have PP := parse_t (PerP.fmt p) p 0 (PerP.parse_fmt p (by omega))
  have HL := fmt_less p q (by omega) (by omega)
  have HFP := Lib.hid FP
  have HFQ := Lib.hid FQ
  have HPP := Lib.hid PP
  have HPI := Lib.hid PI
  have HPJ := Lib.hid PJ
  have HT := Lib.hid hT
  clear FP FQ PP PI PJ hT
  obtain ⟨b, hb⟩ : ∃ b, decide (p < q) = b := ⟨_, rfl⟩
  have hb' : b = true ∧ p < q ∨ b = false ∧ ¬ p < q := by
    cases b
    · exact .inr ⟨rfl, by simpa using hb⟩
    · exact .inl ⟨rfl, by simpa using hb⟩
  rw [hb] at HL
  clear hb
  rcases PerP.parse_cases l with ⟨k, hk, hpk, rfl⟩ | hpk
  · have PS := parse_t (PerP.fmt k) k 0 hpk
    have FK := format_t k hk
    have HPS := Lib.hid PS
    have HFK := Lib.hid FK
    clear PS FK hpk
    rcases hb' with ⟨rfl, hpq⟩ | ⟨rfl, hpq⟩
    all_goals
      go_enter Tryd.func6, Tryd.ntmps6
      go_wp2_with fail
      refine (sane_any _ HT.out).mono ?_
      rintro e w1 ⟨rfl, hb⟩
      have HB := Lib.hid hb; clear hb
      have HT1 := Lib.hid (HT.out.below HB.out hl)
      go_wp2_with fail
      refine (HPI.out _).mono ?_
      rintro e w' ⟨rfl, rfl⟩
      go_wp2_with fail
      refine (HPJ.out _).mono ?_
      rintro e w' ⟨rfl, rfl⟩
      go_wp2_with fail
      refine (HFP.out _).mono ?_
      rintro e w2 ⟨rfl, hb⟩
      have HB2 := Lib.hid (HB.out.trans (hb.mono HB.out.size)); clear hb
      go_wp2_with fail
      refine (HFQ.out _).mono ?_
      rintro e w3 ⟨rfl, hb⟩
      have HB3 := Lib.hid (HB2.out.trans (hb.mono HB2.out.size)); clear hb
      go_wp2_with fail
      refine (HPP.out _).mono ?_
      rintro e w4 ⟨rfl, hb⟩
      have HB4 := Lib.hid (HB3.out.trans (hb.mono HB3.out.size)); clear hb
      go_wp2_with fail
      refine (HPS.out _).mono ?_
      rintro e w5 ⟨rfl, hb⟩
      have HB5 := Lib.hid (HB4.out.trans (hb.mono HB4.out.size)); clear hb
      go_wp2_with fail
      refine (HFK.out _).mono ?_
      rintro e w6 ⟨rfl, hb⟩
      have HB6 := Lib.hid (HB5.out.trans (hb.mono HB5.out.size)); clear hb
      go_wp2_with fail
      go_ret
      exact ⟨rfl, HB6.out⟩
  · have PS := parse_t l 0 40 hpk
    have FK : ∀ w, Calls Tryd.prog 12 #[.int .i64 0] w fun e w' => e = .returned (.tuple #[.string ⟨(PerP.fmt 0).toArray⟩, .int .i64 0]) ∧ Below w.heap.size w w' := format_t 0 (by omega)
    have HPS := Lib.hid PS
    have HFK := Lib.hid FK
    clear PS FK hpk
    rcases hb' with ⟨rfl, hpq⟩ | ⟨rfl, hpq⟩
    all_goals
      go_enter Tryd.func6, Tryd.ntmps6
      go_wp2_with fail
      refine (sane_any _ HT.out).mono ?_
      rintro e w1 ⟨rfl, hb⟩
      have HB := Lib.hid hb; clear hb
      have HT1 := Lib.hid (HT.out.below HB.out hl)
      go_wp2_with fail
      refine (HPI.out _).mono ?_
      rintro e w' ⟨rfl, rfl⟩
      go_wp2_with fail
      refine (HPJ.out _).mono ?_
      rintro e w' ⟨rfl, rfl⟩
      go_wp2_with fail
      refine (HFP.out _).mono ?_
      rintro e w2 ⟨rfl, hb⟩
      have HB2 := Lib.hid (HB.out.trans (hb.mono HB.out.size)); clear hb
      go_wp2_with fail
      refine (HFQ.out _).mono ?_
      rintro e w3 ⟨rfl, hb⟩
      have HB3 := Lib.hid (HB2.out.trans (hb.mono HB2.out.size)); clear hb
      go_wp2_with fail
      refine (HPP.out _).mono ?_
      rintro e w4 ⟨rfl, hb⟩
      have HB4 := Lib.hid (HB3.out.trans (hb.mono HB3.out.size)); clear hb
      go_wp2_with fail
      refine (HPS.out _).mono ?_
      rintro e w5 ⟨rfl, hb⟩
      have HB5 := Lib.hid (HB4.out.trans (hb.mono HB4.out.size)); clear hb
      go_wp2_with fail
      refine (HFK.out _).mono ?_
      rintro e w6 ⟨rfl, hb⟩
      have HB6 := Lib.hid (HB5.out.trans (hb.mono HB5.out.size)); clear hb
      go_wp2_with fail
      go_ret
      exact ⟨rfl, HB6.out⟩
end Go.Proofs.YtkcdfnngdmnkhaaDoor
