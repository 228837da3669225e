/- Contract of Start. -/
import Derived.Test.YtkcdfnngdmnkhaaDoorPerA
namespace Go.Proofs.YtkcdfnngdmnkhaaDoor
open Go Go.RowKit

def startSpec (p : Int) : Int := if 0 ≤ p ∧ p ≤ 1200 then ((PerP.start p.toNat * 86400 : Nat) : Int) else -1
theorem startSpec_in {k : Nat} (h : k ≤ 1200) : startSpec (k : Int) = ((PerP.start k * 86400 : Nat) : Int) := by
  unfold startSpec; rw [if_pos (by omega), Int.toNat_natCast]

set_option maxRecDepth 100000 in
set_option maxHeartbeats 1000000 in
theorem start_in (k : Nat) (hk : k ≤ 1200) (w : World) (hT : LenAt w) :
    Calls Tryd.prog 14 #[.int .i64 (k : Int)] w fun e w' => e = .returned (.int .i64 (startSpec (k : Int))) ∧ w = w' := by
  have HT := Lib.hid hT; clear hT
  rw [startSpec_in hk]
  have IS := is_any (k : Int)
  have hfin := PerP.start_eq k
  obtain ⟨c, hc⟩ : ∃ c, k / 48 = c := ⟨_, rfl⟩
  obtain ⟨m, hm⟩ : ∃ m, k % 48 = m := ⟨_, rfl⟩
  have hc1 : (k : Int) / 48 = (c : Int) := by omega
  have hm1 : (k : Int) % 48 = (m : Int) := by omega
  have hc2 : c ≤ 25 := by omega
  have hm2 : m < 48 := by omega
  rw [hc, hm] at hfin
  have HF := Lib.hid hfin; clear hfin hc hm
  have HM := Lib.hid hm1; clear hm1
  have hq : ∀ b, b = decide (0 ≤ (k : Int) ∧ (k : Int) < 1200) → (b = true ∨ (b = false ∧ (((k : Int) != 1200) = false))) := by
    intro b hb
    by_cases h : k < 1200
    · left; rw [hb]; simp; omega
    · right; refine ⟨by rw [hb]; simp; omega, ?_⟩
      obtain rfl : k = 1200 := by omega
      rfl
  obtain ⟨b, hb⟩ : ∃ b, decide (0 ≤ (k : Int) ∧ (k : Int) < 1200) = b := ⟨_, rfl⟩
  have hq := hq b hb.symm
  rw [hb] at IS
  clear hb
  have HIS := Lib.hid IS; clear IS
  go_enter Tryd.func14, Tryd.ntmps14
  go_wp2_with fail
  refine (HIS.out _).mono ?_
  rintro e w' ⟨rfl, rfl⟩
  rcases hq with rfl | ⟨rfl, h12⟩
  all_goals
    go_wp2_with fail
    go_loop [3, 17] (fun d i => ∃ (j D : Nat), j ≤ m ∧ i = .int .i64 j ∧ d = .int .i64 D ∧ D ≤ 40000 ∧ Hid (D = c * 1461 + PerP.start j)) (fun _ i => 48 - (intOf i).toNat)
    case atStart => exact ⟨0, c * 1461, by omega, rfl, by go_num, by omega, Lib.hid (by simp [PerP.start])⟩
    case round =>
      obtain ⟨j, D, hj, rfl, rfl, hD, HD⟩ := hrel
      by_cases hlt : j < m
      · have ht : (j : Int) < (k : Int) % 48 := by rw [HM.out]; omega
        have DA := days_any (j : Int)
        rw [daysSpec_in (by omega)] at DA
        have hnew : D + PerP.days j = c * 1461 + PerP.start (j + 1) := by rw [HD.out, PerP.start_succ]; omega
        have hbd := PerP.start_mono (show j + 1 ≤ 48 by omega)
        rw [show PerP.start 48 = 1461 from by decide] at hbd
        have hdb := (PerP.days_bd j).2
        obtain ⟨x, hx⟩ : ∃ x, PerP.days j = x := ⟨_, rfl⟩
        rw [hx] at DA hnew hdb
        have hle : D + x ≤ 40000 := by omega
        clear hx hbd
        have HDA := Lib.hid DA; clear DA
        have HN := Lib.hid hnew; clear hnew
        go_wp2_with fail
        refine (HDA.out _ HT.out).mono ?_
        rintro e w' ⟨rfl, rfl⟩
        go_wp2_with fail
        go_round
        case rel => exact ⟨j + 1, D + x, by omega, by go_num, by go_num, hle, HN⟩
        case measure => simp [intOf]; omega
      · obtain rfl : j = m := by omega
        have ht : ¬ (j : Int) < (k : Int) % 48 := by rw [HM.out]; omega
        have hv : PerP.start k = D := by rw [HF.out, HD.out]
        have HV := Lib.hid hv; clear hv
        go_wp2_with fail
        go_ret
        exact ⟨by rw [HV.out]; rfl, rfl⟩

set_option maxRecDepth 100000 in
set_option maxHeartbeats 1000000 in
theorem start_any (p : Int) (w : World) (hT : LenAt w) (_h1 : -9223372036854775808 ≤ p) (_h2 : p ≤ 9223372036854775807) :
    Calls Tryd.prog 14 #[.int .i64 p] w fun e w' => e = .returned (.int .i64 (startSpec p)) ∧ w = w' := by
  by_cases h : 0 ≤ p ∧ p ≤ 1200
  · obtain ⟨k, rfl⟩ : ∃ k : Nat, p = (k : Int) := ⟨p.toNat, by omega⟩
    exact start_in k (by omega) w hT
  · have IS := is_any p
    rw [show decide (0 ≤ p ∧ p < 1200) = false by simp; omega] at IS
    have q1 : (p != 1200) = true := by rw [bne_iff_ne]; omega
    have e : startSpec p = -1 := by unfold startSpec; rw [if_neg h]
    rw [e]
    have HIS := Lib.hid IS; clear IS h e
    go_enter Tryd.func14, Tryd.ntmps14
    go_wp2_with fail
    refine (HIS.out _).mono ?_
    rintro e w' ⟨rfl, rfl⟩
    go_wp2
    go_ret
    exact ⟨rfl, rfl⟩
end Go.Proofs.YtkcdfnngdmnkhaaDoor
