/- Plain words of chapter 16: facts. -/
import Derived.WalkKit
namespace Go.Proofs.YtfiabonacpepnaaGreatDoor
open Go Go.RowKit

/-- an api.Fact: its numbers by place, and its text -/
structure FactV where
  n : Nat → Int
  text : ByteArray
def FactV.cells (f : FactV) : Array Value := #[.int .i64 (f.n 0), .int .i64 (f.n 1), .int .i64 (f.n 2), .int .i64 (f.n 3), .int .i64 (f.n 4), .int .i64 (f.n 5), .int .i64 (f.n 6), .int .i64 (f.n 7), .int .i64 (f.n 8), .int .i64 (f.n 9), .int .i64 (f.n 10), .int .i64 (f.n 11), .int .i64 (f.n 12), .int .i64 (f.n 13), .int .i64 (f.n 14), .int .i64 (f.n 15), .int .i64 (f.n 16), .string f.text]
theorem FactV.cells_size (f : FactV) : f.cells.size = 18 := rfl
theorem FactV.cells_one (f : FactV) : f.cells.all (·.oneCell') = true := by
  simp [FactV.cells, Value.oneCell']
end Go.Proofs.YtfiabonacpepnaaGreatDoor
