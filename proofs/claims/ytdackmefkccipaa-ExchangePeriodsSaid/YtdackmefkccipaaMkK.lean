/- Two keys compared. -/
import Derived.Test.YtdackmefkccipaaExN
import Derived.ChangeKeysEq
namespace Go.Proofs.Ytdackmefkccipaa
open Go Go.RowKit Go.Lib Go.Shelf

theorem info_int : (Try.prog.info? 3).map (fun i => (i.zero, i.size, i.bytes)) = some (some (.int .i64 0), 1, 8) := by kernel_rfl
theorem cells_int : Try.prog.cellsOf 3 = 1 := by kernel_rfl
theorem eqi (d : Nat) (a b : Int) (w : World) : (Op.equalIn (d + 1) 3 (.int .i64 a) (.int .i64 b)).run Try.prog w = .ok (a == b) w := run_equalIn_int w d _ _ _ a b Try.underlying3
set_option maxRecDepth 10000 in
theorem eq_key (a0 a1 a2 b0 b1 b2 : Int) (w : World) :
    (Op.equalIn 10000 39 (.agg #[.int .i64 a0, .int .i64 a1, .int .i64 a2]) (.agg #[.int .i64 b0, .int .i64 b1, .int .i64 b2])).run Try.prog w = .ok (a0 == b0 && (a1 == b1 && a2 == b2)) w := by
  obtain ⟨i0, hi, -, -, -⟩ := info_parts info_int
  rw [run_equalIn_array (w := w) 9999 (i := i0) _ _ Try.underlying39 hi, cells_int, show List.range 3 = [0, 1, 2] from by decide]
  have e := eqi 9998
  simp only [Op.eqItems, Sem.run_bind]
  cases h0 : (a0 == b0) <;> cases h1 : (a1 == b1) <;> cases h2 : (a2 == b2) <;> simp [part, go_sem, e, h0, h1, h2]
end Go.Proofs.Ytdackmefkccipaa
