/- The reference's Format. -/
import Derived.Test.YtkcdfnngdmnkhaaDoorPerF
import Derived.Test.YtkcdfnngdmnkhaaDoorBase
namespace Go.Proofs.YtkcdfnngdmnkhaaDoor
open Go Go.RowKit

def V2f (r : List UInt8 × Int) : Value := .tuple #[.string ⟨r.1.toArray⟩, .int .i64 r.2]
def fmtSpec (p : Int) : List UInt8 × Int := if 0 ≤ p ∧ p < 1200 then (PerP.fmt p.toNat, 0) else ([], 40)

theorem dig_int (k : Nat) : ((PerP.dig k).toNat : Int) = 48 + ((k % 10 : Nat) : Int) := by rw [PerP.dig_nat]; omega

set_option maxRecDepth 100000 in
set_option maxHeartbeats 1000000 in
theorem refFormat_out (p : Int) (hp : p < 0 ∨ 1200 ≤ p) (w : World) :
    Calls Tryd.prog 13 #[.int .i64 p] w fun e w' => e = .returned (V2f ([], 40)) ∧ Below w.heap.size w w' := by
  rcases hp with h | h
  · go_enter Tryd.func13, Tryd.ntmps13
    go_wp2
    go_ret2
    exact ⟨rfl, Below.refl _ _⟩
  · have d1 : ¬ p < 0 := by omega
    go_enter Tryd.func13, Tryd.ntmps13
    go_wp2
    go_ret2
    exact ⟨rfl, Below.refl _ _⟩

set_option maxRecDepth 100000 in
set_option maxHeartbeats 1000000 in
theorem format_out (p : Int) (hp : p < 0 ∨ 1200 ≤ p) (w : World) :
    Calls Tryd.prog 12 #[.int .i64 p] w fun e w' => e = .returned (V2f ([], 40)) ∧ Below w.heap.size w w' := by
  have IS := is_any p
  rw [show decide (0 ≤ p ∧ p < 1200) = false by simp; omega] at IS
  have HIS := Lib.hid IS; clear IS
  go_enter Tryd.func12, Tryd.ntmps12
  go_wp2_with fail
  refine (HIS.out _).mono ?_
  rintro e w' ⟨rfl, rfl⟩
  go_wp2
  go_ret2
  exact ⟨rfl, Below.refl _ _⟩
end Go.Proofs.YtkcdfnngdmnkhaaDoor
