/- The reference's Parse. -/
import Derived.Test.YtkcdfnngdmnkhaaDoorPerK
namespace Go.Proofs.YtkcdfnngdmnkhaaDoor
open Go Go.RowKit

theorem refFormat_t (p : Nat) (hp : p < 1200) (w : World) :
    Calls Tryd.prog 13 #[.int .i64 (p : Int)] w fun e w' => e = .returned (.tuple #[.string ⟨(PerP.fmt p).toArray⟩, .int .i64 0]) ∧ Below w.heap.size w w' := refFormat_in p hp w
theorem format_t (p : Nat) (hp : p < 1200) (w : World) :
    Calls Tryd.prog 12 #[.int .i64 (p : Int)] w fun e w' => e = .returned (.tuple #[.string ⟨(PerP.fmt p).toArray⟩, .int .i64 0]) ∧ Below w.heap.size w w' := format_in p hp w

set_option maxRecDepth 100000 in
set_option maxHeartbeats 1000000 in
theorem refParse_any (l : List UInt8) (w : World) :
    Calls Tryd.prog 19 #[.string ⟨l.toArray⟩] w fun e w' => e = .returned (V2i (PerP.parse l)) ∧ Below w.heap.size w w' := by
  go_enter Tryd.func19, Tryd.ntmps19
  go_wp2_with fail
  go_loopw [4] (fun pv wr => ∃ (k : Nat), k ≤ 1200 ∧ pv = .int .i64 k ∧ Hid ((∀ j, j < k → PerP.fmt j ≠ l) ∧ Below w.heap.size w wr)) (fun i _ => 1300 - (intOf i).toNat)
  case atStart => exact ⟨0, by omega, rfl, Lib.hid ⟨fun j hj => by omega, Below.refl _ _⟩⟩
  case round =>
    obtain ⟨k, hk, rfl, HR⟩ := hrel
    by_cases hlt : k < 1200
    · have HF := Lib.hid (refFormat_t k hlt)
      by_cases heq : PerP.fmt k = l
      · have hv : V2i (PerP.parse l) = .tuple #[.int .i64 k, .int .i64 0] := by rw [← heq, PerP.parse_fmt k hlt]; rfl
        have HV := Lib.hid hv
        have q1 : (PerP.fmt k == l) = true := by rw [beq_iff_eq]; exact heq
        clear hv heq
        go_wp2_with fail
        refine (HF.out _).mono ?_
        rintro e w1 ⟨rfl, hb⟩
        have HB := Lib.hid (HR.out.2.trans (hb.mono HR.out.2.size)); clear hb
        go_wp2_with fail
        go_ret2
        exact ⟨by rw [HV.out]; rfl, HB.out⟩
      · have q1 : (PerP.fmt k == l) = false := by rw [beq_eq_false_iff_ne]; exact heq
        have HN := Lib.hid heq; clear heq
        go_wp2_with fail
        refine (HF.out _).mono ?_
        rintro e w1 ⟨rfl, hb⟩
        have HB := Lib.hid (HR.out.2.trans (hb.mono HR.out.2.size)); clear hb
        go_wp2_with fail
        go_roundw
        case rel => exact ⟨k + 1, by omega, by go_num, Lib.hid ⟨fun j hj => by
          rcases Nat.lt_or_ge j k with h | h
          · exact HR.out.1 j h
          · obtain rfl : j = k := by omega
            exact HN.out, HB.out⟩⟩
        case measure => simp [intOf]; omega
    · obtain rfl : k = 1200 := by omega
      have hv : PerP.parse l = (0, 40) := PerP.parse_err HR.out.1
      have HV := Lib.hid hv
      clear hv
      go_wp2_with fail
      go_ret2
      exact ⟨by rw [HV.out]; rfl, HR.out.2⟩
end Go.Proofs.YtkcdfnngdmnkhaaDoor
