/- The facts that Make makes are valid. -/
import Derived.Test.YtdackmefkccipaaMkA5
import Derived.Test.YtdackmefkccipaaMkA6
import Derived.Test.YtdackmefkccipaaMkA7
import Derived.Test.YtdackmefkccipaaMkB
import Derived.Test.YtdackmefkccipaaMkE
import Derived.Test.YtdackmefkccipaaMkG
namespace Go.Proofs.Ytdackmefkccipaa
open Go Go.RowKit Go.Lib Go.Shelf

def mk5 (i p t a c : Int) : FactV := ⟨fun j => match j with | 0 => 5 | 1 => i | 2 => 1 | 3 => p | 8 => t | 13 => a | 15 => c | _ => 0, ⟨#[]⟩⟩
def mk6 (i p t a c : Int) : FactV := ⟨fun j => match j with | 0 => 6 | 2 => 1 | 3 => p | 5 => i | 8 => t | 13 => a | 15 => c | _ => 0, ⟨#[]⟩⟩
def mk7 (p a c : Int) : FactV := ⟨fun j => match j with | 0 => 7 | 2 => 1 | 3 => p | 13 => a | 15 => c | _ => 0, ⟨#[]⟩⟩
/-- a fact that Make makes -/
inductive Made : FactV → Prop where
  | k5 (i p t a c : Int) (i1 : 1 ≤ i) (i2 : i ≤ 1000000) (p1 : 0 ≤ p) (p2 : p ≤ 2) (t1 : 0 ≤ t) (t2 : t ≤ 2) (a1 : 0 ≤ a) (a2 : a ≤ 10000000000) (c1 : 0 ≤ c) (c2 : c ≤ 20) : Made (mk5 i p t a c)
  | k6 (i p t a c : Int) (i1 : 1 ≤ i) (i2 : i ≤ 1000000) (p1 : 0 ≤ p) (p2 : p ≤ 2) (t1 : 0 ≤ t) (t2 : t ≤ 2) (a1 : 0 ≤ a) (a2 : a ≤ 1000000000) (c1 : 0 ≤ c) (c2 : c ≤ 20) : Made (mk6 i p t a c)
  | k7 (p a c : Int) (p1 : 0 ≤ p) (p2 : p ≤ 2) (a1 : 1 ≤ a) (a2 : a ≤ 10000000) (c1 : 1 ≤ c) (c2 : c ≤ 20) : Made (mk7 p a c)

/-- a fact of a kind, with its version alone -/
def bareF (k : Int) : FactV := ⟨fun j => match j with | 0 => k | 2 => 1 | _ => 0, ⟨#[]⟩⟩
theorem wpList_rename {P : Program} {ops : Array Oper} {o : Oper} {rest : List Oper} {Q : Exit → Act → World → Prop} {a : Act} {w : World} (C : World → Prop) (hC : C w) (h : ∀ W, C W → wpList P ops Q (o :: rest) a W) : wpList P ops Q (o :: rest) a w := h w hC
set_option maxRecDepth 100000 in
set_option maxHeartbeats 2000000 in
theorem fields6 (i p t a c : Int) (w : World)
    (hr : ∀ w, Calls Try.prog 47 #[.agg (mk6 i p t a c).cells, .agg (bare 6)] w fun e w' => e = .returned (.tuple #[.agg (mk6 i p t a c).cells, .bool true]) ∧ Below w.heap.size w w') :
    Calls Try.prog 34 #[.agg (cells6 i p t a c)] w fun e w' => e = .returned (.tuple #[.agg (mk6 i p t a c).cells, .bool true]) ∧ Below w.heap.size w w' := by
  have HR := Lib.hid hr
  clear hr
  have HW : Hid (∃ W, (allocs w [.cells (mk6 i p t a c).cells 41, .cells zeroF.cells 41, .cells (bareF 6).cells 41]) = W ∧ W.heap[w.heap.size]? = some (.cells (mk6 i p t a c).cells 41 (0, 0)) ∧ W.heap[w.heap.size + 1]? = some (.cells zeroF.cells 41 (0, 0)) ∧ W.heap[w.heap.size + 1 + 1]? = some (.cells (bareF 6).cells 41 (0, 0)) ∧ Below w.heap.size w W ∧ W.heap.size = w.heap.size + 3 ∧ W.cell? ⟨w.heap.size, 0, none⟩ = some (.int .i64 6)) :=
    Lib.hid ⟨_, rfl, allocs_get _ w 0 _ rfl, allocs_get _ w 1 _ rfl, allocs_get _ w 2 _ rfl, allocs_below _ w, allocs_size _ w, cell_of_row _ w.heap.size 0 (mk6 i p t a c).cells 41 (0, 0) (allocs_get _ w 0 _ rfl)⟩
  obtain ⟨W, hW, hW2⟩ := HW.out
  clear HW
  have HW := Lib.hid hW
  have HW2 := Lib.hid hW2
  clear hW hW2
  unfold cells6
  go_enter Try.func34, Try.ntmps34
  go_wp2_with (first | ((with_reducible refine wpList_rename (o := ⟨some 10, _, _, _, _, _⟩) (fun v => v = W) ?_ ?_); (first | exact HW.out); (rintro _ rfl); obtain ⟨k0, k1, k2, kb, ks, kc⟩ := HW2.out; clear HW HW2; have HK0 := Lib.hid k0; have HK1 := Lib.hid k1; have HK2 := Lib.hid k2; have HB := Lib.hid kb; have HS := Lib.hid ks; clear k0 k1 k2 kb ks) | ((with_reducible refine load_fact (o := ⟨some 241, _, _, _, _, _⟩) (.tmp 1) w.heap.size 0 (mk6 i p t a c) (row_cells HK0.out) ?_ ?_ ?_ ?_); rfl; rfl; rfl) | ((with_reducible refine load_fact (o := ⟨some 242, _, _, _, _, _⟩) (.tmp 4) (w.heap.size + 1 + 1) 0 (bareF _) (row_cells HK2.out) ?_ ?_ ?_ ?_); rfl; rfl; rfl))
  refine (HR.out _).mono ?_
  rintro e w3 ⟨rfl, hb⟩
  have hz : w3.heap[w.heap.size + 1]? = some (.cells zeroF.cells 41 (0, 0)) := (hb.block _ (by rw [HS.out]; omega)).trans HK1.out
  have HZ := Lib.hid hz
  have HB3 := Lib.hid (HB.out.trans (hb.mono HB.out.size))
  clear hb hz
  go_wp2_with (first | (refine wpList_store_row rfl 41 (.tmp 2) (.tmp 244) rfl (w.heap.size + 1) (mk6 i p t a c).cells rfl rfl 41 zeroF.cells HZ.out fact_size rfl (mk6 i p t a c).cells_one ?_))
  exact bodyPost_ret (results_cell_tmp rfl _ _ (w.heap.size + 1) _ (mk6 i p t a c).cells _ _ rfl (setRow_same HZ.out) Try.underlying41 rfl fact_size) rfl ⟨rfl, below_setRow HB3.out (by omega)⟩

set_option maxRecDepth 100000 in
set_option maxHeartbeats 2000000 in
theorem fields7 (p a c : Int) (w : World)
    (hr : ∀ w, Calls Try.prog 47 #[.agg (mk7 p a c).cells, .agg (bare 7)] w fun e w' => e = .returned (.tuple #[.agg (mk7 p a c).cells, .bool true]) ∧ Below w.heap.size w w') :
    Calls Try.prog 34 #[.agg (cells7 p a c)] w fun e w' => e = .returned (.tuple #[.agg (mk7 p a c).cells, .bool true]) ∧ Below w.heap.size w w' := by
  have HR := Lib.hid hr
  clear hr
  have HW : Hid (∃ W, (allocs w [.cells (mk7 p a c).cells 41, .cells zeroF.cells 41, .cells (bareF 7).cells 41]) = W ∧ W.heap[w.heap.size]? = some (.cells (mk7 p a c).cells 41 (0, 0)) ∧ W.heap[w.heap.size + 1]? = some (.cells zeroF.cells 41 (0, 0)) ∧ W.heap[w.heap.size + 1 + 1]? = some (.cells (bareF 7).cells 41 (0, 0)) ∧ Below w.heap.size w W ∧ W.heap.size = w.heap.size + 3 ∧ W.cell? ⟨w.heap.size, 0, none⟩ = some (.int .i64 7)) :=
    Lib.hid ⟨_, rfl, allocs_get _ w 0 _ rfl, allocs_get _ w 1 _ rfl, allocs_get _ w 2 _ rfl, allocs_below _ w, allocs_size _ w, cell_of_row _ w.heap.size 0 (mk7 p a c).cells 41 (0, 0) (allocs_get _ w 0 _ rfl)⟩
  obtain ⟨W, hW, hW2⟩ := HW.out
  clear HW
  have HW := Lib.hid hW
  have HW2 := Lib.hid hW2
  clear hW hW2
  unfold cells7
  go_enter Try.func34, Try.ntmps34
  go_wp2_with (first | ((with_reducible refine wpList_rename (o := ⟨some 10, _, _, _, _, _⟩) (fun v => v = W) ?_ ?_); (first | exact HW.out); (rintro _ rfl); obtain ⟨k0, k1, k2, kb, ks, kc⟩ := HW2.out; clear HW HW2; have HK0 := Lib.hid k0; have HK1 := Lib.hid k1; have HK2 := Lib.hid k2; have HB := Lib.hid kb; have HS := Lib.hid ks; clear k0 k1 k2 kb ks) | ((with_reducible refine load_fact (o := ⟨some 241, _, _, _, _, _⟩) (.tmp 1) w.heap.size 0 (mk7 p a c) (row_cells HK0.out) ?_ ?_ ?_ ?_); rfl; rfl; rfl) | ((with_reducible refine load_fact (o := ⟨some 242, _, _, _, _, _⟩) (.tmp 4) (w.heap.size + 1 + 1) 0 (bareF _) (row_cells HK2.out) ?_ ?_ ?_ ?_); rfl; rfl; rfl))
  refine (HR.out _).mono ?_
  rintro e w3 ⟨rfl, hb⟩
  have hz : w3.heap[w.heap.size + 1]? = some (.cells zeroF.cells 41 (0, 0)) := (hb.block _ (by rw [HS.out]; omega)).trans HK1.out
  have HZ := Lib.hid hz
  have HB3 := Lib.hid (HB.out.trans (hb.mono HB.out.size))
  clear hb hz
  go_wp2_with (first | (refine wpList_store_row rfl 41 (.tmp 2) (.tmp 244) rfl (w.heap.size + 1) (mk7 p a c).cells rfl rfl 41 zeroF.cells HZ.out fact_size rfl (mk7 p a c).cells_one ?_))
  exact bodyPost_ret (results_cell_tmp rfl _ _ (w.heap.size + 1) _ (mk7 p a c).cells _ _ rfl (setRow_same HZ.out) Try.underlying41 rfl fact_size) rfl ⟨rfl, below_setRow HB3.out (by omega)⟩

end Go.Proofs.Ytdackmefkccipaa
