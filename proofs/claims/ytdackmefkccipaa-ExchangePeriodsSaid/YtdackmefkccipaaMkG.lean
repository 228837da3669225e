/- Two facts compared: a fact is equal to itself. -/
import Derived.Test.YtdackmefkccipaaMkA
import Derived.ChangeKeysEq
namespace Go.Proofs.Ytdackmefkccipaa
open Go Go.RowKit Go.Lib Go.Shelf

theorem eqFields_same {P : Program} (w : World) (d : Nat) (xs : Array Value) : ∀ fs : List Field, (∀ f ∈ fs, f.name ≠ "_" ∧ ∃ a, (part f.type xs f.offset).run P w = .ok a w ∧ (Op.equalIn d f.type a a).run P w = .ok true w) → (Op.eqFields d xs xs fs).run P w = .ok true w
  | [], _ => by simp [Op.eqFields]
  | f :: fs, h => by
    obtain ⟨hn, a, h1, h2⟩ := h f (by simp)
    have ih := eqFields_same w d xs fs fun g hg => h g (by simp [hg])
    simp only [Op.eqFields, hn, ne_eq, not_false_eq_true, if_true, Sem.run_bind, h1, h2, Result.andThen_ok, Bool.not_true, Bool.false_eq_true, if_false, ih]
theorem fact_fields : (Try.prog.fieldsOf 41).toList.all (fun f => f.name != "_" && (match Try.prog.underlying f.type with
  | some (.int .i64) => decide (f.offset < 17)
  | some .string => f.offset == 17
  | _ => false)) = true := by kernel_rfl
theorem fact_under : Try.prog.underlying 41 = some (.struct (Try.prog.fieldsOf 41)) := by kernel_rfl
theorem fact_stood : Try.prog.stoodInHeld 41 = false := by kernel_rfl
theorem cells_get (f : FactV) (j : Nat) (h : j < 17) : f.cells[j]? = some (.int .i64 (f.n j)) := by
  rcases (by omega : j = 0 ∨ j = 1 ∨ j = 2 ∨ j = 3 ∨ j = 4 ∨ j = 5 ∨ j = 6 ∨ j = 7 ∨ j = 8 ∨ j = 9 ∨ j = 10 ∨ j = 11 ∨ j = 12 ∨ j = 13 ∨ j = 14 ∨ j = 15 ∨ j = 16) with rfl | rfl | rfl | rfl | rfl | rfl | rfl | rfl | rfl | rfl | rfl | rfl | rfl | rfl | rfl | rfl | rfl <;> rfl
theorem eq_fact (f : FactV) (w : World) : (Op.equalIn 10000 41 (.agg f.cells) (.agg f.cells)).run Try.prog w = .ok true w := by
  rw [run_equalIn_struct w 9999 41 f.cells f.cells fact_under fact_stood]
  refine eqFields_same w 9999 f.cells _ fun g hg => ?_
  have h := List.all_eq_true.1 fact_fields g hg
  rw [Bool.and_eq_true] at h
  obtain ⟨h1, h2⟩ := h
  refine ⟨by simpa using h1, ?_⟩
  split at h2
  · rename_i hu
    have hj : g.offset < 17 := by simpa using h2
    exact ⟨_, run_part_plain w (by unfold Program.plainKey; rw [hu]) (cells_get f g.offset hj), by rw [run_equalIn_int w 9998 _ _ _ _ _ hu]; simp⟩
  · rename_i hu
    have hj : g.offset = 17 := by simpa using h2
    exact ⟨_, run_part_plain w (by unfold Program.plainKey; rw [hu]) (by rw [hj]; rfl : f.cells[g.offset]? = some (.string f.text)), by rw [run_equalIn_string w 9998 _ _ _ hu]; simp⟩
  · cases h2
end Go.Proofs.Ytdackmefkccipaa
