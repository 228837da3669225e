/- The reference's Encode, Key and Prevails of valid facts: they return something. -/
import Derived.Test.YtdackmefkccipaaMkB
namespace Go.Proofs.Ytdackmefkccipaa
open Go Go.RowKit Go.Lib Go.Shelf

/-- a fact whose encoding is short, and which is valid -/
def Short (f : FactV) : Prop := f.text.size ≤ 65536 ∧ ∀ j, j < 17 → -4611686018427387903 ≤ f.n j ∧ f.n j ≤ 4611686018427387903
def ValidF (f : FactV) : Prop := Short f ∧ ∀ w, Calls Try.prog 24 #[.agg f.cells] w fun e w' => e = .returned (.bool true) ∧ Below w.heap.size w w'

set_option maxRecDepth 100000 in
set_option maxHeartbeats 1000000 in
theorem written_s (f : FactV) (hf : Short f) (w : World) :
    Calls Try.prog 51 #[.agg f.cells] w (SomeS1 80000 w) := by
  have g17 : f.cells[17]? = some (.string f.text) := rfl
  obtain ⟨tx, htx⟩ : ∃ t, f.text = t := ⟨_, rfl⟩
  have ht := hf.1
  rw [htx] at g17 ht
  have PS := Lib.hid (putString_s tx ht)
  have HS := Lib.hid hf.2
  clear htx ht hf
  go_enter Try.func51, Try.ntmps51
  go_wp2_with fail
  refine (PS.out _).mono ?_
  rintro e w1 ⟨s, x, hs, rfl, hb⟩
  have hrow : w1.heap[w.heap.size]? = some (.cells f.cells 41 (0, 0)) := (hb.block w.heap.size (by simp)).trans (heap_alloc_last w _)
  have HROW := Lib.hid hrow
  have HB := Lib.hid (((Below.refl w.heap.size w).alloc (Nat.le_refl _) _).trans (hb.mono (by simp)))
  have hsz1 := HB.out.size
  clear hb hrow
  go_wp2_with (first | ((with_reducible refine load_fact (o := ⟨some 11, _, _, _, _, _⟩) (.tmp 1) w.heap.size 0 f (row_cells HROW.out) ?_ ?_ ?_ ?_); rfl; rfl; rfl))
  refine (numbers_any f _).mono ?_
  rintro e w2 ⟨rfl, rfl⟩
  have NS := Numbers_s (w1.heap.size + 1) 17 17 f.n ((w1.alloc (.cells f.cells 41)).alloc (.cells #[.int .i64 (f.n 0), .int .i64 (f.n 1), .int .i64 (f.n 2), .int .i64 (f.n 3), .int .i64 (f.n 4), .int .i64 (f.n 5), .int .i64 (f.n 6), .int .i64 (f.n 7), .int .i64 (f.n 8), .int .i64 (f.n 9), .int .i64 (f.n 10), .int .i64 (f.n 11), .int .i64 (f.n 12), .int .i64 (f.n 13), .int .i64 (f.n 14), .int .i64 (f.n 15), .int .i64 (f.n 16)] 3)) (by omega) (by simp) HS.out (fun i hi => by
    have r := heap_alloc_last (w1.alloc (.cells f.cells 41)) (.cells #[.int .i64 (f.n 0), .int .i64 (f.n 1), .int .i64 (f.n 2), .int .i64 (f.n 3), .int .i64 (f.n 4), .int .i64 (f.n 5), .int .i64 (f.n 6), .int .i64 (f.n 7), .int .i64 (f.n 8), .int .i64 (f.n 9), .int .i64 (f.n 10), .int .i64 (f.n 11), .int .i64 (f.n 12), .int .i64 (f.n 13), .int .i64 (f.n 14), .int .i64 (f.n 15), .int .i64 (f.n 16)] 3)
    rw [World.size_alloc] at r
    rw [cell_of_row _ _ i _ _ _ r]
    have key : ∀ i : Fin 17, (#[Value.int .i64 (f.n 0), .int .i64 (f.n 1), .int .i64 (f.n 2), .int .i64 (f.n 3), .int .i64 (f.n 4), .int .i64 (f.n 5), .int .i64 (f.n 6), .int .i64 (f.n 7), .int .i64 (f.n 8), .int .i64 (f.n 9), .int .i64 (f.n 10), .int .i64 (f.n 11), .int .i64 (f.n 12), .int .i64 (f.n 13), .int .i64 (f.n 14), .int .i64 (f.n 15), .int .i64 (f.n 16)] : Array Value)[i.val]? = some (.int .i64 (f.n i.val)) := by
      rintro ⟨i, hi⟩
      rcases Nat.lt_or_ge i 8 with h | h
      · rcases (by omega : i = 0 ∨ i = 1 ∨ i = 2 ∨ i = 3 ∨ i = 4 ∨ i = 5 ∨ i = 6 ∨ i = 7) with rfl | rfl | rfl | rfl | rfl | rfl | rfl | rfl <;> rfl
      · rcases (by omega : i = 8 ∨ i = 9 ∨ i = 10 ∨ i = 11 ∨ i = 12 ∨ i = 13 ∨ i = 14 ∨ i = 15 ∨ i = 16) with rfl | rfl | rfl | rfl | rfl | rfl | rfl | rfl | rfl <;> rfl
    exact key ⟨i, hi⟩)
  have HNS := Lib.hid NS
  clear NS
  go_wp2_with fail
  refine (HNS.out).mono ?_
  rintro e w3 ⟨s2, hs2, rfl, hb⟩
  have HB3 := Lib.hid (((HB.out.alloc hsz1 _).alloc (by simp; omega) _).trans (hb.mono (by simp; omega)))
  clear hb
  go_wp2_with fail
  go_ret
  exact ⟨s2 ++ s, by rw [ByteArray.size_append]; omega, rfl, HB3.out⟩

set_option maxRecDepth 100000 in
set_option maxHeartbeats 1000000 in
theorem encode_s (f : FactV) (hf : ValidF f) (w : World) :
    Calls Try.prog 48 #[.agg f.cells] w fun e w' => ∃ s : ByteArray, e = .returned (.tuple #[.string s, .int .i64 0]) ∧ Below w.heap.size w w' := by
  have VF := Lib.hid hf.2
  have WR := Lib.hid (written_s f hf.1)
  clear hf
  go_enter Try.func48, Try.ntmps48
  go_wp2_with (first | ((with_reducible refine load_fact (o := ⟨some 5, _, _, _, _, _⟩) (.tmp 1) w.heap.size 0 f (row_cells (heap_alloc_last w _)) ?_ ?_ ?_ ?_); rfl; rfl; rfl))
  refine (VF.out _).mono ?_
  rintro e w1 ⟨rfl, hb⟩
  have hrow : w1.heap[w.heap.size]? = some (.cells f.cells 41 (0, 0)) := (hb.block w.heap.size (by simp)).trans (heap_alloc_last w _)
  have HROW := Lib.hid hrow
  have HB := Lib.hid (((Below.refl w.heap.size w).alloc (Nat.le_refl _) _).trans (hb.mono (by simp)))
  clear hb hrow
  go_wp2_with (first | ((with_reducible refine load_fact (o := ⟨some 9, _, _, _, _, _⟩) (.tmp 1) w.heap.size 0 f (row_cells HROW.out) ?_ ?_ ?_ ?_); rfl; rfl; rfl))
  refine (WR.out _).mono ?_
  rintro e w2 ⟨s, -, rfl, hb⟩
  have HB2 := Lib.hid (HB.out.trans (hb.mono HB.out.size)); clear hb
  go_wp2_with fail
  go_ret2
  exact ⟨s, rfl, HB2.out⟩
end Go.Proofs.Ytdackmefkccipaa
