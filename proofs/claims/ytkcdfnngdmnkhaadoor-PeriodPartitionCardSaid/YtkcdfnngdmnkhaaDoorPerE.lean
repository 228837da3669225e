/- The reference's Start and Of. -/
import Derived.Test.YtkcdfnngdmnkhaaDoorPerD
namespace Go.Proofs.YtkcdfnngdmnkhaaDoor
open Go Go.RowKit

set_option maxRecDepth 100000 in
set_option maxHeartbeats 1000000 in
theorem refStart_any (p : Int) (w : World) :
    Calls Tryd.prog 15 #[.int .i64 p] w fun e w' => e = .returned (.int .i64 (startSpec p)) ∧ Below w.heap.size w w' := by
  by_cases h : 0 ≤ p ∧ p ≤ 1200
  · obtain ⟨k, rfl⟩ : ∃ k : Nat, p = (k : Int) := ⟨p.toNat, by omega⟩
    have hk : k ≤ 1200 := by omega
    rw [startSpec_in hk]
    have d1 : decide ((k : Int) < 0) = false := by simp
    have d2 : decide (1200 < (k : Int)) = false := by simp; omega
    clear h
    go_enter Tryd.func15, Tryd.ntmps15
    go_wp2_with fail
    go_loopw [3, 4] (fun d i wr => ∃ (j D : Nat), j ≤ k ∧ i = .int .i64 j ∧ d = .int .i64 D ∧ D ≤ 3155760000 ∧ Hid (D = PerP.start j * 86400 ∧ Below w.heap.size w wr)) (fun _ i _ => 1200 - (intOf i).toNat)
    case atStart => exact ⟨0, 0, by omega, rfl, rfl, by omega, Lib.hid ⟨by simp [PerP.start], Below.refl _ _⟩⟩
    case round =>
      obtain ⟨j, D, hj, rfl, rfl, hD, HD⟩ := hrel
      by_cases hlt : j < k
      · have DA := refDays_any (j : Int)
        rw [daysSpec_in (by omega)] at DA
        have hbd := PerP.start_bd (show j + 1 ≤ 1200 by omega)
        have hnew : D + 86400 * PerP.days j = PerP.start (j + 1) * 86400 := by rw [HD.out.1, PerP.start_succ]; omega
        have hdb := (PerP.days_bd j).2
        obtain ⟨x, hx⟩ : ∃ x, PerP.days j = x := ⟨_, rfl⟩
        rw [hx] at DA hnew hdb
        have hle : D + 86400 * x ≤ 3155760000 := by omega
        clear hx hbd
        have HDA := Lib.hid DA; clear DA
        have HN := Lib.hid hnew; clear hnew
        have HB := Lib.hid HD.out.2
        clear HD
        go_wp2_with fail
        refine (HDA.out _).mono ?_
        rintro e w' ⟨rfl, hb⟩
        have HB2 := Lib.hid (HB.out.trans (hb.mono HB.out.size)); clear hb
        go_wp2_with fail
        go_roundw
        case rel => exact ⟨j + 1, D + 86400 * x, by omega, by go_num, by go_num, hle, Lib.hid ⟨HN.out, HB2.out⟩⟩
        case measure => simp [intOf]; omega
      · obtain rfl : j = k := by omega
        have HV := Lib.hid HD.out.1
        have HB := Lib.hid HD.out.2
        clear HD
        go_wp2_with fail
        go_ret
        exact ⟨by rw [← HV.out]; rfl, HB.out⟩
  · have e : startSpec p = -1 := by unfold startSpec; rw [if_neg h]
    rw [e]
    rcases Classical.em (p < 0) with h0 | h0
    · go_enter Tryd.func15, Tryd.ntmps15
      go_wp2
      go_ret
      exact ⟨rfl, Below.refl _ _⟩
    · have h1 : 1200 < p := by omega
      clear h e
      go_enter Tryd.func15, Tryd.ntmps15
      go_wp2
      go_ret
      exact ⟨rfl, Below.refl _ _⟩

set_option maxRecDepth 100000 in
set_option maxHeartbeats 1000000 in
theorem refOf_in (s n p : Nat) (hs : s < 3155760000) (hn : s / 86400 = n) (hp : p < 1200) (h1 : PerP.start p ≤ n) (h2 : n < PerP.start (p + 1)) (w : World) :
    Calls Tryd.prog 11 #[.int .i64 (s : Int)] w fun e w' => e = .returned (V3b ((p : Int), ((n - PerP.start p + 1 : Nat) : Int), true)) ∧ Below w.heap.size w w' := by
  have e1 : (s : Int) / 86400 = (n : Int) := by omega
  have d1 : decide ((s : Int) < 0) = false := by simp
  have d2 : decide (3155760000 ≤ (s : Int)) = false := by simp; omega
  have hn2 : n < 40000 := by omega
  have B1 := Lib.hid h1
  have B2 := Lib.hid h2
  clear h1 h2 hn
  go_enter Tryd.func11, Tryd.ntmps11
  go_wp2_with fail
  go_loopw [5, 6] (fun nv pv wr => ∃ (k D : Nat), k ≤ p ∧ pv = .int .i64 k ∧ nv = .int .i64 D ∧ D < 40000 ∧ Hid (D = n - PerP.start k ∧ Below w.heap.size w wr)) (fun _ i _ => 1200 - (intOf i).toNat)
  case atStart => exact ⟨0, n, by omega, rfl, by go_num, by omega, Lib.hid ⟨by simp [PerP.start], Below.refl _ _⟩⟩
  case round =>
    obtain ⟨k, D, hk, rfl, rfl, hD, HD⟩ := hrel
    clear e1
    have HB := Lib.hid HD.out.2
    have DA := refDays_any (k : Int)
    rw [daysSpec_in (by omega)] at DA
    by_cases hlt : k < p
    · have hmono := PerP.start_mono (show k + 1 ≤ p from hlt)
      have hmn := B1.out
      rw [PerP.start_succ] at hmono
      have hge : PerP.days k ≤ D := by rw [HD.out.1]; omega
      have hnew : D - PerP.days k = n - PerP.start (k + 1) := by rw [HD.out.1, PerP.start_succ]; omega
      obtain ⟨x, hx⟩ : ∃ x, PerP.days k = x := ⟨_, rfl⟩
      rw [hx] at DA hge hnew
      clear hx hmono hmn HD
      have HDA := Lib.hid DA; clear DA
      have HN := Lib.hid hnew; clear hnew
      go_wp2_with fail
      refine (HDA.out _).mono ?_
      rintro e w3 ⟨rfl, hb⟩
      have HB2 := Lib.hid (HB.out.trans (hb.mono HB.out.size)); clear hb
      go_wp2_with fail
      refine (HDA.out _).mono ?_
      rintro e w4 ⟨rfl, hb⟩
      have HB3 := Lib.hid (HB2.out.trans (hb.mono HB2.out.size)); clear hb
      go_wp2_with fail
      go_roundw
      case rel => exact ⟨k + 1, D - x, by omega, by go_num, by go_num, by omega, Lib.hid ⟨HN.out, HB3.out⟩⟩
      case measure => simp [intOf]; omega
    · obtain rfl : k = p := by omega
      have hmn := B1.out
      have hmx := B2.out
      rw [PerP.start_succ] at hmx
      have hge : D < PerP.days k := by rw [HD.out.1]; omega
      have hres : n - PerP.start k + 1 = D + 1 := by rw [HD.out.1]
      obtain ⟨x, hx⟩ : ∃ x, PerP.days k = x := ⟨_, rfl⟩
      rw [hx] at DA hge
      clear hx hmn hmx HD
      have HDA := Lib.hid DA; clear DA
      have HN := Lib.hid hres; clear hres
      go_wp2_with fail
      refine (HDA.out _).mono ?_
      rintro e w3 ⟨rfl, hb⟩
      have HB2 := Lib.hid (HB.out.trans (hb.mono HB.out.size)); clear hb
      go_wp2_with fail
      go_ret3
      exact ⟨by rw [HN.out]; rfl, HB2.out⟩

set_option maxHeartbeats 400000 in
theorem refOf_out (s : Int) (hs : s < 0 ∨ 3155760000 ≤ s) (w : World) :
    Calls Tryd.prog 11 #[.int .i64 s] w fun e w' => e = .returned (V3b (0, 0, false)) ∧ Below w.heap.size w w' := by
  rcases hs with h | h
  · go_enter Tryd.func11, Tryd.ntmps11
    go_wp2
    go_ret3
    exact ⟨rfl, Below.refl _ _⟩
  · have d1 : ¬ s < 0 := by omega
    go_enter Tryd.func11, Tryd.ntmps11
    go_wp2
    go_ret3
    exact ⟨rfl, Below.refl _ _⟩
end Go.Proofs.YtkcdfnngdmnkhaaDoor
