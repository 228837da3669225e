/- The reference's Format inside. -/
import Derived.Test.YtkcdfnngdmnkhaaDoorPerG
namespace Go.Proofs.YtkcdfnngdmnkhaaDoor
open Go Go.RowKit

theorem fmt_cell (p : Nat) (hp : p < 1200) :
    u8s (PerP.fmt p) = [.int .u8 (48 + ((2000 + (p : Int) / 12) / 1000)), .int .u8 (48 + ((2000 + (p : Int) / 12) / 100 % 10)), .int .u8 (48 + ((2000 + (p : Int) / 12) / 10 % 10)), .int .u8 (48 + ((2000 + (p : Int) / 12) % 10)), .int .u8 45, .int .u8 (48 + ((1 + (p : Int) % 12) / 10)), .int .u8 (48 + ((1 + (p : Int) % 12) % 10))] := by
  simp only [u8s, PerP.fmt, List.map_cons, List.map_nil, dig_int]
  rw [show ((45 : UInt8).toNat : Int) = 45 from by decide]
  simp only [List.cons.injEq, Value.int.injEq, true_and, and_true]
  omega

set_option maxRecDepth 100000 in
set_option maxHeartbeats 1000000 in
theorem refFormat_in (p : Nat) (hp : p < 1200) (w : World) :
    Calls Tryd.prog 13 #[.int .i64 (p : Int)] w fun e w' => e = .returned (V2f (PerP.fmt p, 0)) ∧ Below w.heap.size w w' := by
  have d1 : decide ((p : Int) < 0) = false := by simp
  have d2 : decide (1200 ≤ (p : Int)) = false := by simp; omega
  have hcv := run_string_of_row (P := Tryd.prog) (w.alloc (Obj.cells (u8s (PerP.fmt p)).toArray 5)) 36 9 5 ⟨w.heap.size, 0, none⟩ 7 7 (PerP.fmt p) Tryd.underlying36 Tryd.underlying5 Tryd.underlying9 rfl (fun j u hj => by
    have e : (Addr.add ⟨w.heap.size, 0, none⟩ j) = ⟨w.heap.size, j, none⟩ := by cases j <;> simp [Addr.add]
    rw [e]
    simpa using hj)
  rw [fmt_cell p hp] at hcv
  go_enter Tryd.func13, Tryd.ntmps13
  go_wp2
  go_ret2
  exact ⟨rfl, (Below.refl _ _).alloc (Nat.le_refl _) _⟩
end Go.Proofs.YtkcdfnngdmnkhaaDoor
