/- PeriodPartition, PeriodMonotone, PeriodYears: the walks. -/
import Derived.Test.YtkcdfnngdmnkhaaDoorPerS
namespace Go.Proofs.YtkcdfnngdmnkhaaDoor
open Go Go.RowKit

theorem of_t (s n p d : Nat) (hs : s < 3155760000) (hn : s / 86400 = n) (hp : p < 1200) (h1 : PerP.start p ≤ n) (h2 : n < PerP.start (p + 1)) (hd : n - PerP.start p + 1 = d) (w : World) (hT : LenAt w) :
    Calls Tryd.prog 10 #[.int .i64 (s : Int)] w fun e w' => e = .returned (.tuple #[.int .i64 (p : Int), .int .i64 (d : Int), .bool true]) ∧ w = w' := by
  subst hd
  exact of_in s n p hs hn hp h1 h2 w hT
theorem start_t (P : Int) (p t : Nat) (hP : P = (p : Int)) (hp : p ≤ 1200) (ht : PerP.start p * 86400 = t) (w : World) (hT : LenAt w) :
    Calls Tryd.prog 14 #[.int .i64 P] w fun e w' => e = .returned (.int .i64 (t : Int)) ∧ w = w' := by
  subst hP; subst ht
  have h := start_in p hp w hT
  rw [startSpec_in hp] at h
  exact h
theorem days_t (P : Int) (p t : Nat) (hP : P = (p : Int)) (hp : p < 1200) (ht : PerP.days p = t) (w : World) (hT : LenAt w) :
    Calls Tryd.prog 16 #[.int .i64 P] w fun e w' => e = .returned (.int .i64 (t : Int)) ∧ w = w' := by
  subst hP; subst ht
  have h := days_any p w hT
  rw [daysSpec_in hp] at h
  exact h
theorem pick_nat (c : Int) (n : Int) (hn : 1 ≤ n) (hn2 : n ≤ 9223372036854775807) (h1 : -9223372036854775808 ≤ c) (h2 : c ≤ 9223372036854775807) : ∃ k : Nat, (k : Int) < n ∧ pickN c n = (k : Int) ∧
    ∀ w, Calls Tryd.prog 9 #[.int .i64 c, .int .i64 n] w fun e w' => e = .returned (.int .i64 (k : Int)) ∧ w = w' := by
  have h := pickN_bd c n hn
  refine ⟨(pickN c n).toNat, by omega, by omega, fun w => ?_⟩
  have := pick_any c n w h1 h2 hn hn2
  rwa [show ((pickN c n).toNat : Int) = pickN c n by omega]

set_option maxRecDepth 100000 in
set_option maxHeartbeats 2000000 in
theorem partition_walk (c : Int) (w : World) (hT : LenAt w) (h1 : -9223372036854775808 ≤ c) (h2 : c ≤ 9223372036854775807) :
    Calls Tryd.prog 4 #[.int .i64 c] w fun e w' => e = .returned (.bool true) ∧ Below w.heap.size w w' := by
  have hl := len_lt hT
  obtain ⟨k, hk, -, PK⟩ := pick_nat c 3155760000 (by omega) (by omega) h1 h2
  obtain ⟨p, hp, s1, s2⟩ := PerP.of_ex' (k / 86400) (by omega)
  have db := PerP.days_bd p
  rw [PerP.start_succ] at s2
  have hA := PerP.start_bd (p := p) (by omega)
  have OF := of_t k (k / 86400) p _ (by omega) rfl hp s1 (by rw [PerP.start_succ]; exact s2) rfl
  have S1 := start_t (p : Int) p _ rfl (by omega) rfl
  have S2 := start_t ((p : Int) + 1) (p + 1) _ (by omega) (by omega) rfl
  rw [PerP.start_succ] at S2
  have DD := days_t (p : Int) p _ rfl hp rfl
  obtain ⟨A, hA'⟩ : ∃ A, PerP.start p = A := ⟨_, rfl⟩
  obtain ⟨x, hx⟩ : ∃ x, PerP.days p = x := ⟨_, rfl⟩
  rw [hA'] at s1 s2 OF S1 S2 hA
  rw [hx] at s2 S2 DD db
  clear hA' hx
  obtain ⟨F, hF⟩ : ∃ F, A * 86400 = F := ⟨_, rfl⟩
  obtain ⟨T, hT'⟩ : ∃ T, (A + x) * 86400 = T := ⟨_, rfl⟩
  obtain ⟨d, hd⟩ : ∃ d, k / 86400 - A + 1 = d := ⟨_, rfl⟩
  rw [hF] at S1
  rw [hT'] at S2
  rw [hd] at OF
  have t1 : F ≤ k := by omega
  have t2 : k < T := by omega
  have t3 : (((T : Int) - (F : Int)) == 86400 * (x : Int)) = true := by rw [beq_iff_eq]; omega
  have t4 : (((d : Int)) == ((k : Int) - (F : Int)) / 86400 + 1) = true := by rw [beq_iff_eq]; omega
  have t5 : T ≤ 3200000000 := by omega
  have t6 : x ≤ 31 := by omega
  have HOF := Lib.hid OF
  have HS1 := Lib.hid S1
  have HS2 := Lib.hid S2
  have HDD := Lib.hid DD
  have HPK := Lib.hid PK
  have HT := Lib.hid hT
  clear OF S1 S2 DD PK hF hT' hd s1 s2 db hA hT hk
  go_enter Tryd.func4, Tryd.ntmps4
  go_wp2_with fail
  refine (sane_any _ HT.out).mono ?_
  rintro e w1 ⟨rfl, hb⟩
  have HB := Lib.hid hb; clear hb
  have HT1 := Lib.hid (HT.out.below HB.out hl)
  go_wp2_with fail
  refine (HPK.out _).mono ?_
  rintro e w' ⟨rfl, rfl⟩
  go_wp2_with fail
  refine (HOF.out _ HT1.out).mono ?_
  rintro e w' ⟨rfl, rfl⟩
  go_wp2_with fail
  refine (HS1.out _ HT1.out).mono ?_
  rintro e w' ⟨rfl, rfl⟩
  go_wp2_with fail
  refine (HS2.out _ HT1.out).mono ?_
  rintro e w' ⟨rfl, rfl⟩
  go_wp2_with fail
  refine (HDD.out _ HT1.out).mono ?_
  rintro e w' ⟨rfl, rfl⟩
  go_wp2_with fail
  go_ret
  exact ⟨rfl, HB.out⟩

set_option maxRecDepth 100000 in
set_option maxHeartbeats 2000000 in
theorem years_walk (c : Int) (w : World) (hT : LenAt w) (h1 : -9223372036854775808 ≤ c) (h2 : c ≤ 9223372036854775807) :
    Calls Tryd.prog 7 #[.int .i64 c] w fun e w' => e = .returned (.bool true) ∧ Below w.heap.size w w' := by
  have hl := len_lt hT
  obtain ⟨p, hk, -, PK⟩ := pick_nat c 1152 (by omega) (by omega) h1 h2
  have db := PerP.days_bd p
  have hA := PerP.start_bd (p := p) (by omega)
  have S1 := start_t (p : Int) p _ rfl (by omega) rfl
  have S2 := start_t ((p : Int) + 12) (p + 12) _ (by omega) (by omega) rfl
  have S3 := start_t ((p : Int) + 48) (p + 48) _ (by omega) (by omega) rfl
  have D1 := days_t (p : Int) p _ rfl (by omega) rfl
  have D2 := days_t ((p : Int) + 48) (p + 48) _ (by omega) (by omega) rfl
  rw [PerP.start_per] at S3
  rw [PerP.days_per] at D2
  have hy := PerP.year_days p
  obtain ⟨A, hA'⟩ : ∃ A, PerP.start p = A := ⟨_, rfl⟩
  obtain ⟨x, hx⟩ : ∃ x, PerP.days p = x := ⟨_, rfl⟩
  obtain ⟨B, hB⟩ : ∃ B, PerP.start (p + 12) = B := ⟨_, rfl⟩
  rw [hA'] at S1 S3 hA hy
  rw [hx] at D1 D2 db
  rw [hB] at S2 hy
  clear hA' hx hB
  obtain ⟨F, hF⟩ : ∃ F, A * 86400 = F := ⟨_, rfl⟩
  obtain ⟨T, hT'⟩ : ∃ T, (A + 1461) * 86400 = T := ⟨_, rfl⟩
  obtain ⟨G, hG⟩ : ∃ G, B * 86400 = G := ⟨_, rfl⟩
  rw [hF] at S1
  rw [hT'] at S3
  rw [hG] at S2
  have t1 : F ≤ G := by omega
  have t2 : F ≤ T := by omega
  have t3 : T ≤ 4000000000 := by omega
  have t4 : G ≤ 4000000000 := by omega
  have t5 : 28 ≤ x := by omega
  have t6 : x ≤ 31 := by omega
  have t7 : (((T : Int) - (F : Int)) == 126230400) = true := by rw [beq_iff_eq]; omega
  have t8 : ((((G : Int) - (F : Int)) / 86400 == 365) = true) ∨ ((((G : Int) - (F : Int)) / 86400 == 365) = false ∧ (((G : Int) - (F : Int)) / 86400 == 366) = true) := by
    rcases hy with h | h
    · left; rw [beq_iff_eq]; omega
    · right; exact ⟨by rw [beq_eq_false_iff_ne]; omega, by rw [beq_iff_eq]; omega⟩
  have HS1 := Lib.hid S1
  have HS2 := Lib.hid S2
  have HS3 := Lib.hid S3
  have HD1 := Lib.hid D1
  have HD2 := Lib.hid D2
  have HPK := Lib.hid PK
  have HT := Lib.hid hT
  clear S1 S2 S3 D1 D2 PK hF hT' hG hy db hA hT
  rcases t8 with t8 | ⟨t8, t9⟩
  all_goals
    go_enter Tryd.func7, Tryd.ntmps7
    go_wp2_with fail
    refine (sane_any _ HT.out).mono ?_
    rintro e w1 ⟨rfl, hb⟩
    have HB := Lib.hid hb; clear hb
    have HT1 := Lib.hid (HT.out.below HB.out hl)
    go_wp2_with fail
    refine (HPK.out _).mono ?_
    rintro e w' ⟨rfl, rfl⟩
    go_wp2_with fail
    refine (HS2.out _ HT1.out).mono ?_
    rintro e w' ⟨rfl, rfl⟩
    go_wp2_with fail
    refine (HS1.out _ HT1.out).mono ?_
    rintro e w' ⟨rfl, rfl⟩
    go_wp2_with fail
    refine (HD1.out _ HT1.out).mono ?_
    rintro e w' ⟨rfl, rfl⟩
    go_wp2_with fail
    refine (HD1.out _ HT1.out).mono ?_
    rintro e w' ⟨rfl, rfl⟩
    go_wp2_with fail
    refine (HD1.out _ HT1.out).mono ?_
    rintro e w' ⟨rfl, rfl⟩
    go_wp2_with fail
    refine (HD2.out _ HT1.out).mono ?_
    rintro e w' ⟨rfl, rfl⟩
    go_wp2_with fail
    refine (HS3.out _ HT1.out).mono ?_
    rintro e w' ⟨rfl, rfl⟩
    go_wp2_with fail
    refine (HS1.out _ HT1.out).mono ?_
    rintro e w' ⟨rfl, rfl⟩
    go_wp2_with fail
    go_ret
    exact ⟨rfl, HB.out⟩
end Go.Proofs.YtkcdfnngdmnkhaaDoor
