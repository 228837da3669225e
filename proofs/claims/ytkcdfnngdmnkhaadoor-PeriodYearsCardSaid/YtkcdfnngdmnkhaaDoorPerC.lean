/- Contract of Of. -/
import Derived.Test.YtkcdfnngdmnkhaaDoorPerB
namespace Go.Proofs.YtkcdfnngdmnkhaaDoor
open Go Go.RowKit

def V3b (r : Int × Int × Bool) : Value := .tuple #[.int .i64 r.1, .int .i64 r.2.1, .bool r.2.2]

set_option maxRecDepth 100000 in
set_option maxHeartbeats 1000000 in
theorem of_in (s n p : Nat) (hs : s < 3155760000) (hn : s / 86400 = n) (hp : p < 1200) (h1 : PerP.start p ≤ n) (h2 : n < PerP.start (p + 1)) (w : World) (hT : LenAt w) :
    Calls Tryd.prog 10 #[.int .i64 (s : Int)] w fun e w' => e = .returned (V3b ((p : Int), ((n - PerP.start p + 1 : Nat) : Int), true)) ∧ w = w' := by
  have HT := Lib.hid hT; clear hT
  obtain ⟨c, hc⟩ : ∃ c, n / 1461 = c := ⟨_, rfl⟩
  obtain ⟨m, hm⟩ : ∃ m, n % 1461 = m := ⟨_, rfl⟩
  have hc2 : c < 25 := by omega
  have hm2 : m < 1461 := by omega
  have hnc : n = c * 1461 + m := by omega
  have hstart : ∀ i, PerP.start (c * 48 + i) = c * 1461 + PerP.start i := by
    clear h1 h2 hp hs hn hc hm hc2 hm2 hnc HT
    intro i
    induction c with
    | zero => simp
    | succ c ih => rw [show (c + 1) * 48 + i = (c * 48 + i) + 48 by omega, PerP.start_per, ih]; omega
  have e1 : (s : Int) / 86400 = (n : Int) := by omega
  have e2 : (n : Int) / 1461 = (c : Int) := by omega
  have e3 : (n : Int) % 1461 = (m : Int) := by omega
  have d1 : decide ((s : Int) < 0) = false := by simp
  have d2 : decide (3155760000 ≤ (s : Int)) = false := by simp; omega
  have hlo : c * 48 ≤ p := by
    rcases Nat.lt_or_ge p (c * 48) with h | h
    · have := PerP.start_mono (show p + 1 ≤ c * 48 from h)
      have h0 := hstart 0
      simp [PerP.start] at h0; omega
    · exact h
  have hhi : p < c * 48 + 48 := by
    rcases Nat.lt_or_ge p (c * 48 + 48) with h | h
    · exact h
    · have := PerP.start_mono h
      rw [hstart 48, show PerP.start 48 = 1461 from by decide] at this
      omega
  obtain ⟨j, rfl⟩ : ∃ j, p = c * 48 + j := ⟨p - c * 48, by omega⟩
  have hj : j < 48 := by omega
  rw [hstart] at h1
  rw [Nat.add_assoc, hstart] at h2
  have hres : n - PerP.start (c * 48 + j) + 1 = m - PerP.start j + 1 := by rw [hstart]; omega
  have b1 : PerP.start j ≤ m := by omega
  have b2 : m < PerP.start (j + 1) := by omega
  have HR := Lib.hid hres
  have B1 := Lib.hid b1
  have B2 := Lib.hid b2
  clear hres b1 b2 h1 h2 hstart hn hc hm hlo hhi hnc
  go_enter Tryd.func10, Tryd.ntmps10
  go_wp2_with fail
  go_loop [5, 6, 20] (fun nv pv i => ∃ (k D : Nat), k ≤ j ∧ i = .int .i64 k ∧ nv = .int .i64 D ∧ D < 1461 ∧ pv = .int .i64 ((c * 48 + k : Nat) : Int) ∧ Hid (D = m - PerP.start k)) (fun _ _ i => 48 - (intOf i).toNat)
  case atStart => exact ⟨0, m, by omega, rfl, by go_num, by omega, by go_num, Lib.hid (by simp [PerP.start])⟩
  case round =>
    obtain ⟨k, D, hk, rfl, rfl, hD, rfl, HD⟩ := hrel
    clear e1 e2 e3
    have DA := days_any ((c * 48 + k : Nat) : Int)
    rw [daysSpec_in (by omega), show PerP.days (c * 48 + k) = PerP.days k by rw [PerP.days_mod, show (c * 48 + k) % 48 = k % 48 by omega, ← PerP.days_mod]] at DA
    by_cases hlt : k < j
    · have hmono := PerP.start_mono (show k + 1 ≤ j from hlt)
      have hmn := B1.out
      rw [PerP.start_succ] at hmono
      have hge : PerP.days k ≤ D := by rw [HD.out]; omega
      have hnew : D - PerP.days k = m - PerP.start (k + 1) := by rw [HD.out, PerP.start_succ]; omega
      obtain ⟨x, hx⟩ : ∃ x, PerP.days k = x := ⟨_, rfl⟩
      rw [hx] at DA hge hnew
      clear hx hmono hmn
      have HDA := Lib.hid DA; clear DA
      have HN := Lib.hid hnew; clear hnew
      go_wp2_with fail
      refine (HDA.out _ HT.out).mono ?_
      rintro e w' ⟨rfl, rfl⟩
      go_wp2_with fail
      refine (HDA.out _ HT.out).mono ?_
      rintro e w' ⟨rfl, rfl⟩
      go_wp2_with fail
      go_round
      case rel => exact ⟨k + 1, D - x, by omega, by go_num, by go_num, by omega, by go_num, HN⟩
      case measure => simp [intOf]; omega
    · obtain rfl : k = j := by omega
      have hmn := B1.out
      have hmx := B2.out
      rw [PerP.start_succ] at hmx
      have hge : D < PerP.days k := by rw [HD.out]; omega
      have hres : n - PerP.start (c * 48 + k) + 1 = D + 1 := by rw [HR.out, HD.out]
      obtain ⟨x, hx⟩ : ∃ x, PerP.days k = x := ⟨_, rfl⟩
      rw [hx] at DA hge
      clear hx hmn hmx
      have HDA := Lib.hid DA; clear DA
      have HN := Lib.hid hres; clear hres
      go_wp2_with fail
      refine (HDA.out _ HT.out).mono ?_
      rintro e w' ⟨rfl, rfl⟩
      go_wp2_with fail
      go_ret3
      exact ⟨by rw [HN.out]; rfl, rfl⟩
end Go.Proofs.YtkcdfnngdmnkhaaDoor
