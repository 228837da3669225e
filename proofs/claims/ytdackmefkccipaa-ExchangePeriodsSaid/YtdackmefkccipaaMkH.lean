/- The facts that Make makes are valid. -/
import Derived.Test.YtdackmefkccipaaMkC
namespace Go.Proofs.Ytdackmefkccipaa
open Go Go.RowKit Go.Lib Go.Shelf

/-- the fields of a made fact -/
theorem Made.fields {f : FactV} (h : Made f) (w : World) :
    Calls Try.prog 34 #[.agg f.cells] w fun e w' => e = .returned (.tuple #[.agg f.cells, .bool true]) ∧ Below w.heap.size w w' := by
  cases h with
  | k5 i p t a c i1 i2 p1 p2 t1 t2 a1 a2 c1 c2 => exact fields5 i p t a c w i1 i2 p1 (by omega) t1 (by omega) a1 a2 c1 c2
  | k6 i p t a c i1 i2 p1 p2 t1 t2 a1 a2 c1 c2 => exact fields6 i p t a c w fun w => rest6 i p t a c w i1 i2 p1 (by omega) t1 (by omega) a1 a2 c1 c2
  | k7 p a c p1 p2 a1 a2 c1 c2 => exact fields7 p a c w fun w => rest7 p a c w p1 (by omega) a1 a2 c1 c2
theorem Made.version {f : FactV} (h : Made f) : f.n 2 = 1 := by cases h <;> rfl

theorem load_factG {ops : Array Oper} {rest : List Oper} {o : Oper} {a : Act} {w : World} {Q : Exit → Act → World → Prop} (x : Operand) (b off : Nat) (f : FactV) (hc : ∀ j v, f.cells[j]? = some v → w.cell? ⟨b, off + j, none⟩ = some v)
    (hw : Region.wanted o (yielded ops a.tmps) = true) (ho : o.op = .load 41 x) (hx : a.eval x = .pointer (some ⟨b, off, none⟩))
    (h : wpList Try.prog ops Q rest (a.put o.dst (.agg f.cells)) w) : wpList Try.prog ops Q (o :: rest) a w :=
  wpList_step fun K hK => by rw [if_pos hw]; exact (wp_load_at 41 x ho b off hx f.cells _ hc Try.underlying41 rfl fact_size (hK _ _ h))
set_option maxRecDepth 100000 in
set_option maxHeartbeats 2000000 in
theorem Made.valid {f : FactV} (h : Made f) (w : World) :
    Calls Try.prog 24 #[.agg f.cells] w fun e w' => e = .returned (.bool true) ∧ Below w.heap.size w w' := by
  have HF := Lib.hid h.fields
  have g2 : f.cells[2]? = some (.int .i64 (f.n 2)) := rfl
  rw [h.version] at g2
  have HW := Lib.hid (within_yes 1 1 1000 (by omega) (by omega))
  have hek := eq_fact f
  clear h
  go_enter Try.func24, Try.ntmps24
  go_wp2_with (first | ((with_reducible refine load_fact (o := ⟨some 6, _, _, _, _, _⟩) (.tmp 1) w.heap.size 0 f (row_cells (heap_alloc_last w _)) ?_ ?_ ?_ ?_); rfl; rfl; rfl))
  refine (HF.out _).mono ?_
  rintro e w2 ⟨rfl, hb⟩
  have hr : w2.heap[w.heap.size]? = some (.cells f.cells 41 (0, 0)) := (hb.block _ (by simp)).trans (heap_alloc_last w _)
  have HR := Lib.hid hr
  have HB := Lib.hid (((Below.refl w.heap.size w).alloc (Nat.le_refl _) _).trans (hb.mono (by simp)))
  clear hb hr
  have HRR := Lib.hid ((Below.heap_alloc w2 (.cells f.cells 41) w.heap.size (Array.getElem?_eq_some_iff.1 HR.out).1).trans HR.out)
  have hc2 : w2.cell? ⟨w.heap.size, 2, none⟩ = some (.int .i64 1) := (cell_of_row _ _ 2 _ _ _ HR.out).trans g2
  have hlt := (Array.getElem?_eq_some_iff.1 HR.out).1
  go_wp2_with (first | ((with_reducible refine store_fact (o := ⟨none, .store _ _ _, _, _, _, _⟩) (.tmp 3) (.tmp 8) f _ ?_ ?_ ?_ ?_ ?_ ?_); rfl; rfl; rfl; rfl; rfl) | ((with_reducible refine load_factG (o := ⟨some 12, _, _, _, _, _⟩) (.tmp 3) w2.heap.size 0 f (row_cells (heap_alloc_last w2 _)) ?_ ?_ ?_ ?_); rfl; rfl; rfl) | ((with_reducible refine load_factG (o := ⟨some 13, _, _, _, _, _⟩) (.tmp 1) w.heap.size 0 f (row_cells HRR.out) ?_ ?_ ?_ ?_); rfl; rfl; rfl))
  refine (HW.out _).mono ?_
  rintro e w3 ⟨rfl, rfl⟩
  go_wp2_with fail
  go_ret
  exact ⟨rfl, HB.out.alloc HB.out.size _⟩
end Go.Proofs.Ytdackmefkccipaa
