/- Package fact: the functions of the keys, and of the fields' limits. -/
import Derived.Test.YtgjajhopjcdflaaFkA
import Derived.Test.YtgjajhopjcdflaaExM
import Derived.Deep.QuietTactic
import Derived.BigQuiet
import Derived.BigRegion
namespace Go.Proofs.Ytgjajhopjcdflaa
open Go Go.RowKit Go.Lib Go.Shelf Go.Maps

theorem boxed (w : World) (cs : Array Value) (t : TypeId) : RowAt (w.alloc (.cells cs t)) w.heap.size t cs := RowAt.new w t cs
theorem drewN_below {B : Nat} {a w : World} (h : Below B a w) (n : Nat) : Below B a (w.drewN n) := ⟨h.os, h.tape, h.output, h.size, h.block⟩
set_option maxRecDepth 100000 in
theorem byDevice_any (f : FactV) (w : World) :
    Calls Try.prog 47 #[.agg f.cells] w fun e w' => e = .returned (.tuple #[.int .i64 (f.n 6), .int .i64 (f.n 1)]) ∧ Below w.heap.size w w' := by
  have g0 : (w.alloc (.cells f.cells 29)).cell? ⟨w.heap.size, 6, none⟩ = some (.int .i64 (f.n 6)) := by rw [(boxed w f.cells 29).cell 6]; rfl
  have g1 : (w.alloc (.cells f.cells 29)).cell? ⟨w.heap.size, 1, none⟩ = some (.int .i64 (f.n 1)) := by rw [(boxed w f.cells 29).cell 1]; rfl
  have HB := Lib.hid (show Below w.heap.size w (w.alloc (.cells f.cells 29)) from (Below.refl _ _).alloc (Nat.le_refl _) _)
  obtain ⟨cs, hcs⟩ : ∃ z, f.cells = z := ⟨_, rfl⟩
  rw [hcs] at g0 HB ⊢
  rw [hcs] at g1
  clear hcs
  go_enter Try.func47, Try.ntmps47
  go_wp2_with fail
  go_quiet (fail)
  go_wp2_with fail
  go_ret2
  exact ⟨rfl, drewN_below HB.out _⟩
set_option maxRecDepth 100000 in
theorem byID_any (f : FactV) (w : World) :
    Calls Try.prog 50 #[.agg f.cells] w fun e w' => e = .returned (.tuple #[.int .i64 (f.n 1), .int .i64 0]) ∧ Below w.heap.size w w' := by
  have g0 : (w.alloc (.cells f.cells 29)).cell? ⟨w.heap.size, 1, none⟩ = some (.int .i64 (f.n 1)) := by rw [(boxed w f.cells 29).cell 1]; rfl
  have HB := Lib.hid (show Below w.heap.size w (w.alloc (.cells f.cells 29)) from (Below.refl _ _).alloc (Nat.le_refl _) _)
  obtain ⟨cs, hcs⟩ : ∃ z, f.cells = z := ⟨_, rfl⟩
  rw [hcs] at g0 HB ⊢
  clear hcs
  go_enter Try.func50, Try.ntmps50
  go_wp2_with fail
  go_ret2
  exact ⟨rfl, HB.out⟩
set_option maxRecDepth 100000 in
theorem byHolder_any (f : FactV) (w : World) :
    Calls Try.prog 52 #[.agg f.cells] w fun e w' => e = .returned (.tuple #[.int .i64 (f.n 9), .int .i64 (f.n 11)]) ∧ Below w.heap.size w w' := by
  have g0 : (w.alloc (.cells f.cells 29)).cell? ⟨w.heap.size, 9, none⟩ = some (.int .i64 (f.n 9)) := by rw [(boxed w f.cells 29).cell 9]; rfl
  have g1 : (w.alloc (.cells f.cells 29)).cell? ⟨w.heap.size, 11, none⟩ = some (.int .i64 (f.n 11)) := by rw [(boxed w f.cells 29).cell 11]; rfl
  have HB := Lib.hid (show Below w.heap.size w (w.alloc (.cells f.cells 29)) from (Below.refl _ _).alloc (Nat.le_refl _) _)
  obtain ⟨cs, hcs⟩ : ∃ z, f.cells = z := ⟨_, rfl⟩
  rw [hcs] at g0 HB ⊢
  rw [hcs] at g1
  clear hcs
  go_enter Try.func52, Try.ntmps52
  go_wp2_with fail
  go_quiet (fail)
  go_wp2_with fail
  go_ret2
  exact ⟨rfl, drewN_below HB.out _⟩
set_option maxRecDepth 100000 in
theorem byAccount_any (f : FactV) (w : World) :
    Calls Try.prog 55 #[.agg f.cells] w fun e w' => e = .returned (.tuple #[.int .i64 (f.n 5), .int .i64 (f.n 3)]) ∧ Below w.heap.size w w' := by
  have g0 : (w.alloc (.cells f.cells 29)).cell? ⟨w.heap.size, 5, none⟩ = some (.int .i64 (f.n 5)) := by rw [(boxed w f.cells 29).cell 5]; rfl
  have g1 : (w.alloc (.cells f.cells 29)).cell? ⟨w.heap.size, 3, none⟩ = some (.int .i64 (f.n 3)) := by rw [(boxed w f.cells 29).cell 3]; rfl
  have HB := Lib.hid (show Below w.heap.size w (w.alloc (.cells f.cells 29)) from (Below.refl _ _).alloc (Nat.le_refl _) _)
  obtain ⟨cs, hcs⟩ : ∃ z, f.cells = z := ⟨_, rfl⟩
  rw [hcs] at g0 HB ⊢
  rw [hcs] at g1
  clear hcs
  go_enter Try.func55, Try.ntmps55
  go_wp2_with fail
  go_quiet (fail)
  go_wp2_with fail
  go_ret2
  exact ⟨rfl, drewN_below HB.out _⟩
set_option maxRecDepth 100000 in
theorem byCurrency_any (f : FactV) (w : World) :
    Calls Try.prog 57 #[.agg f.cells] w fun e w' => e = .returned (.tuple #[.int .i64 (f.n 15), .int .i64 (f.n 3)]) ∧ Below w.heap.size w w' := by
  have g0 : (w.alloc (.cells f.cells 29)).cell? ⟨w.heap.size, 15, none⟩ = some (.int .i64 (f.n 15)) := by rw [(boxed w f.cells 29).cell 15]; rfl
  have g1 : (w.alloc (.cells f.cells 29)).cell? ⟨w.heap.size, 3, none⟩ = some (.int .i64 (f.n 3)) := by rw [(boxed w f.cells 29).cell 3]; rfl
  have HB := Lib.hid (show Below w.heap.size w (w.alloc (.cells f.cells 29)) from (Below.refl _ _).alloc (Nat.le_refl _) _)
  obtain ⟨cs, hcs⟩ : ∃ z, f.cells = z := ⟨_, rfl⟩
  rw [hcs] at g0 HB ⊢
  rw [hcs] at g1
  clear hcs
  go_enter Try.func57, Try.ntmps57
  go_wp2_with fail
  go_quiet (fail)
  go_wp2_with fail
  go_ret2
  exact ⟨rfl, drewN_below HB.out _⟩
set_option maxRecDepth 100000 in
theorem byFrom_any (f : FactV) (w : World) :
    Calls Try.prog 60 #[.agg f.cells] w fun e w' => e = .returned (.tuple #[.int .i64 (f.n 11), .int .i64 0]) ∧ Below w.heap.size w w' := by
  have g0 : (w.alloc (.cells f.cells 29)).cell? ⟨w.heap.size, 11, none⟩ = some (.int .i64 (f.n 11)) := by rw [(boxed w f.cells 29).cell 11]; rfl
  have HB := Lib.hid (show Below w.heap.size w (w.alloc (.cells f.cells 29)) from (Below.refl _ _).alloc (Nat.le_refl _) _)
  obtain ⟨cs, hcs⟩ : ∃ z, f.cells = z := ⟨_, rfl⟩
  rw [hcs] at g0 HB ⊢
  clear hcs
  go_enter Try.func60, Try.ntmps60
  go_wp2_with fail
  go_ret2
  exact ⟨rfl, HB.out⟩
set_option maxRecDepth 100000 in
theorem byTerritory_any (f : FactV) (w : World) :
    Calls Try.prog 62 #[.agg f.cells] w fun e w' => e = .returned (.tuple #[.int .i64 (f.n 8), .int .i64 (f.n 11)]) ∧ Below w.heap.size w w' := by
  have g0 : (w.alloc (.cells f.cells 29)).cell? ⟨w.heap.size, 8, none⟩ = some (.int .i64 (f.n 8)) := by rw [(boxed w f.cells 29).cell 8]; rfl
  have g1 : (w.alloc (.cells f.cells 29)).cell? ⟨w.heap.size, 11, none⟩ = some (.int .i64 (f.n 11)) := by rw [(boxed w f.cells 29).cell 11]; rfl
  have HB := Lib.hid (show Below w.heap.size w (w.alloc (.cells f.cells 29)) from (Below.refl _ _).alloc (Nat.le_refl _) _)
  obtain ⟨cs, hcs⟩ : ∃ z, f.cells = z := ⟨_, rfl⟩
  rw [hcs] at g0 HB ⊢
  rw [hcs] at g1
  clear hcs
  go_enter Try.func62, Try.ntmps62
  go_wp2_with fail
  go_quiet (fail)
  go_wp2_with fail
  go_ret2
  exact ⟨rfl, drewN_below HB.out _⟩
theorem fid_any (b o : Nat) (w : World) :
    Calls Try.prog 82 #[.pointer (some ⟨b, o, none⟩)] w fun e w' => e = .returned (.agg #[.pointer (some ⟨b, o, none⟩), .int .i64 1, .int .i64 1000000]) ∧ Below w.heap.size w w' := by
  go_enter Try.func82, Try.ntmps82
  go_wp2_with fail
  exact bodyPost_ret (v := .agg #[.pointer (some ⟨b, o, none⟩), .int .i64 1, .int .i64 1000000]) (by simp [results, Try.results82, go_sem]) rfl ⟨rfl, (Below.refl _ _).alloc (Nat.le_refl _) _⟩
theorem fperiod_any (b o : Nat) (w : World) :
    Calls Try.prog 84 #[.pointer (some ⟨b, o, none⟩)] w fun e w' => e = .returned (.agg #[.pointer (some ⟨b, o, none⟩), .int .i64 0, .int .i64 1199]) ∧ Below w.heap.size w w' := by
  go_enter Try.func84, Try.ntmps84
  go_wp2_with fail
  exact bodyPost_ret (v := .agg #[.pointer (some ⟨b, o, none⟩), .int .i64 0, .int .i64 1199]) (by simp [results, Try.results84, go_sem]) rfl ⟨rfl, (Below.refl _ _).alloc (Nat.le_refl _) _⟩
theorem fterritory_any (b o : Nat) (w : World) :
    Calls Try.prog 83 #[.pointer (some ⟨b, o, none⟩)] w fun e w' => e = .returned (.agg #[.pointer (some ⟨b, o, none⟩), .int .i64 0, .int .i64 7]) ∧ Below w.heap.size w w' := by
  go_enter Try.func83, Try.ntmps83
  go_wp2_with fail
  exact bodyPost_ret (v := .agg #[.pointer (some ⟨b, o, none⟩), .int .i64 0, .int .i64 7]) (by simp [results, Try.results83, go_sem]) rfl ⟨rfl, (Below.refl _ _).alloc (Nat.le_refl _) _⟩
set_option maxRecDepth 100000 in
theorem isWithin_any (b o : Nat) (x lo hi : Int) (w : World) (hx : w.cell? ⟨b, o, none⟩ = some (.int .i64 x)) :
    Calls Try.prog 31 #[.agg #[.pointer (some ⟨b, o, none⟩), .int .i64 lo, .int .i64 hi]] w fun e w' => e = .returned (.bool (decide (lo ≤ x) && decide (x ≤ hi))) ∧ Below w.heap.size w w' := by
  have hb := World.block_lt_of_cell? w _ hx
  have HB := Lib.hid (show Below w.heap.size w (w.alloc (.cells #[.pointer (some ⟨b, o, none⟩), .int .i64 lo, .int .i64 hi] 79)) from (Below.refl _ _).alloc (Nat.le_refl _) _)
  have hx2 := (HB.out.cell (p := ⟨b, o, none⟩) hb).trans hx
  by_cases h1 : lo ≤ x
  · have h1d : decide (lo ≤ x) = true := decide_eq_true h1
    by_cases h2 : x ≤ hi
    · have h2d : decide (x ≤ hi) = true := decide_eq_true h2
      go_enter Try.func31, Try.ntmps31
      go_wp2_with fail
      go_quiet (fail)
      go_wp2_with fail
      go_ret
      exact ⟨by rw [h1d, h2d]; rfl, drewN_below HB.out _⟩
    · have h2d : decide (x ≤ hi) = false := decide_eq_false h2
      go_enter Try.func31, Try.ntmps31
      go_wp2_with fail
      go_quiet (fail)
      go_wp2_with fail
      go_ret
      exact ⟨by rw [h1d, h2d]; rfl, drewN_below HB.out _⟩
  · have h1d : decide (lo ≤ x) = false := decide_eq_false h1
    go_enter Try.func31, Try.ntmps31
    go_wp2_with fail
    go_quiet (fail)
    go_wp2_with fail
    go_ret
    exact ⟨by rw [h1d]; rfl, drewN_below HB.out _⟩
end Go.Proofs.Ytgjajhopjcdflaa
