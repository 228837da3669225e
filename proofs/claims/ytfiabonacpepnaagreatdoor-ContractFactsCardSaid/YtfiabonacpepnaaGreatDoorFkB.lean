/- Package fact: the functions of the keys, and of the fields' limits. -/
import Derived.Test.YtfiabonacpepnaaGreatDoorFkA
import Derived.Test.YtfiabonacpepnaaGreatDoorExP
import Derived.Test.YtfiabonacpepnaaGreatDoorExL
import Derived.Deep.QuietTactic
import Derived.BigQuiet
import Derived.BigRegion
namespace Go.Proofs.YtfiabonacpepnaaGreatDoor.Fb
open Go Go.RowKit Go.Lib Go.Shelf Go.Maps

theorem boxed (w : World) (cs : Array Value) (t : TypeId) : RowAt (w.alloc (.cells cs t)) w.heap.size t cs := RowAt.new w t cs
theorem drewN_below {B : Nat} {a w : World} (h : Below B a w) (n : Nat) : Below B a (w.drewN n) := ⟨h.os, h.tape, h.output, h.size, h.block⟩
set_option maxRecDepth 100000 in
theorem byDevice_any (f : FactV) (w : World) :
    Calls Tryz.prog 99 #[.agg f.cells] w fun e w' => e = .returned (.tuple #[.int .i64 (f.n 6), .int .i64 (f.n 1)]) ∧ Below w.heap.size w w' := by
  have g0 : (w.alloc (.cells f.cells 47)).cell? ⟨w.heap.size, 6, none⟩ = some (.int .i64 (f.n 6)) := by rw [(boxed w f.cells 47).cell 6]; rfl
  have g1 : (w.alloc (.cells f.cells 47)).cell? ⟨w.heap.size, 1, none⟩ = some (.int .i64 (f.n 1)) := by rw [(boxed w f.cells 47).cell 1]; rfl
  have HB := Lib.hid (show Below w.heap.size w (w.alloc (.cells f.cells 47)) from (Below.refl _ _).alloc (Nat.le_refl _) _)
  obtain ⟨cs, hcs⟩ : ∃ z, f.cells = z := ⟨_, rfl⟩
  rw [hcs] at g0 HB ⊢
  rw [hcs] at g1
  clear hcs
  go_enter Tryz.func99, Tryz.ntmps99
  go_wp2_with fail
  go_quiet (fail)
  go_wp2_with fail
  go_ret2
  exact ⟨rfl, drewN_below HB.out _⟩
set_option maxRecDepth 100000 in
theorem byID_any (f : FactV) (w : World) :
    Calls Tryz.prog 102 #[.agg f.cells] w fun e w' => e = .returned (.tuple #[.int .i64 (f.n 1), .int .i64 0]) ∧ Below w.heap.size w w' := by
  have g0 : (w.alloc (.cells f.cells 47)).cell? ⟨w.heap.size, 1, none⟩ = some (.int .i64 (f.n 1)) := by rw [(boxed w f.cells 47).cell 1]; rfl
  have HB := Lib.hid (show Below w.heap.size w (w.alloc (.cells f.cells 47)) from (Below.refl _ _).alloc (Nat.le_refl _) _)
  obtain ⟨cs, hcs⟩ : ∃ z, f.cells = z := ⟨_, rfl⟩
  rw [hcs] at g0 HB ⊢
  clear hcs
  go_enter Tryz.func102, Tryz.ntmps102
  go_wp2_with fail
  go_ret2
  exact ⟨rfl, HB.out⟩
set_option maxRecDepth 100000 in
theorem byHolder_any (f : FactV) (w : World) :
    Calls Tryz.prog 104 #[.agg f.cells] w fun e w' => e = .returned (.tuple #[.int .i64 (f.n 9), .int .i64 (f.n 11)]) ∧ Below w.heap.size w w' := by
  have g0 : (w.alloc (.cells f.cells 47)).cell? ⟨w.heap.size, 9, none⟩ = some (.int .i64 (f.n 9)) := by rw [(boxed w f.cells 47).cell 9]; rfl
  have g1 : (w.alloc (.cells f.cells 47)).cell? ⟨w.heap.size, 11, none⟩ = some (.int .i64 (f.n 11)) := by rw [(boxed w f.cells 47).cell 11]; rfl
  have HB := Lib.hid (show Below w.heap.size w (w.alloc (.cells f.cells 47)) from (Below.refl _ _).alloc (Nat.le_refl _) _)
  obtain ⟨cs, hcs⟩ : ∃ z, f.cells = z := ⟨_, rfl⟩
  rw [hcs] at g0 HB ⊢
  rw [hcs] at g1
  clear hcs
  go_enter Tryz.func104, Tryz.ntmps104
  go_wp2_with fail
  go_quiet (fail)
  go_wp2_with fail
  go_ret2
  exact ⟨rfl, drewN_below HB.out _⟩
set_option maxRecDepth 100000 in
theorem byAccount_any (f : FactV) (w : World) :
    Calls Tryz.prog 107 #[.agg f.cells] w fun e w' => e = .returned (.tuple #[.int .i64 (f.n 5), .int .i64 (f.n 3)]) ∧ Below w.heap.size w w' := by
  have g0 : (w.alloc (.cells f.cells 47)).cell? ⟨w.heap.size, 5, none⟩ = some (.int .i64 (f.n 5)) := by rw [(boxed w f.cells 47).cell 5]; rfl
  have g1 : (w.alloc (.cells f.cells 47)).cell? ⟨w.heap.size, 3, none⟩ = some (.int .i64 (f.n 3)) := by rw [(boxed w f.cells 47).cell 3]; rfl
  have HB := Lib.hid (show Below w.heap.size w (w.alloc (.cells f.cells 47)) from (Below.refl _ _).alloc (Nat.le_refl _) _)
  obtain ⟨cs, hcs⟩ : ∃ z, f.cells = z := ⟨_, rfl⟩
  rw [hcs] at g0 HB ⊢
  rw [hcs] at g1
  clear hcs
  go_enter Tryz.func107, Tryz.ntmps107
  go_wp2_with fail
  go_quiet (fail)
  go_wp2_with fail
  go_ret2
  exact ⟨rfl, drewN_below HB.out _⟩
set_option maxRecDepth 100000 in
theorem byCurrency_any (f : FactV) (w : World) :
    Calls Tryz.prog 109 #[.agg f.cells] w fun e w' => e = .returned (.tuple #[.int .i64 (f.n 15), .int .i64 (f.n 3)]) ∧ Below w.heap.size w w' := by
  have g0 : (w.alloc (.cells f.cells 47)).cell? ⟨w.heap.size, 15, none⟩ = some (.int .i64 (f.n 15)) := by rw [(boxed w f.cells 47).cell 15]; rfl
  have g1 : (w.alloc (.cells f.cells 47)).cell? ⟨w.heap.size, 3, none⟩ = some (.int .i64 (f.n 3)) := by rw [(boxed w f.cells 47).cell 3]; rfl
  have HB := Lib.hid (show Below w.heap.size w (w.alloc (.cells f.cells 47)) from (Below.refl _ _).alloc (Nat.le_refl _) _)
  obtain ⟨cs, hcs⟩ : ∃ z, f.cells = z := ⟨_, rfl⟩
  rw [hcs] at g0 HB ⊢
  rw [hcs] at g1
  clear hcs
  go_enter Tryz.func109, Tryz.ntmps109
  go_wp2_with fail
  go_quiet (fail)
  go_wp2_with fail
  go_ret2
  exact ⟨rfl, drewN_below HB.out _⟩
set_option maxRecDepth 100000 in
theorem byFrom_any (f : FactV) (w : World) :
    Calls Tryz.prog 112 #[.agg f.cells] w fun e w' => e = .returned (.tuple #[.int .i64 (f.n 11), .int .i64 0]) ∧ Below w.heap.size w w' := by
  have g0 : (w.alloc (.cells f.cells 47)).cell? ⟨w.heap.size, 11, none⟩ = some (.int .i64 (f.n 11)) := by rw [(boxed w f.cells 47).cell 11]; rfl
  have HB := Lib.hid (show Below w.heap.size w (w.alloc (.cells f.cells 47)) from (Below.refl _ _).alloc (Nat.le_refl _) _)
  obtain ⟨cs, hcs⟩ : ∃ z, f.cells = z := ⟨_, rfl⟩
  rw [hcs] at g0 HB ⊢
  clear hcs
  go_enter Tryz.func112, Tryz.ntmps112
  go_wp2_with fail
  go_ret2
  exact ⟨rfl, HB.out⟩
set_option maxRecDepth 100000 in
theorem byTerritory_any (f : FactV) (w : World) :
    Calls Tryz.prog 114 #[.agg f.cells] w fun e w' => e = .returned (.tuple #[.int .i64 (f.n 8), .int .i64 (f.n 11)]) ∧ Below w.heap.size w w' := by
  have g0 : (w.alloc (.cells f.cells 47)).cell? ⟨w.heap.size, 8, none⟩ = some (.int .i64 (f.n 8)) := by rw [(boxed w f.cells 47).cell 8]; rfl
  have g1 : (w.alloc (.cells f.cells 47)).cell? ⟨w.heap.size, 11, none⟩ = some (.int .i64 (f.n 11)) := by rw [(boxed w f.cells 47).cell 11]; rfl
  have HB := Lib.hid (show Below w.heap.size w (w.alloc (.cells f.cells 47)) from (Below.refl _ _).alloc (Nat.le_refl _) _)
  obtain ⟨cs, hcs⟩ : ∃ z, f.cells = z := ⟨_, rfl⟩
  rw [hcs] at g0 HB ⊢
  rw [hcs] at g1
  clear hcs
  go_enter Tryz.func114, Tryz.ntmps114
  go_wp2_with fail
  go_quiet (fail)
  go_wp2_with fail
  go_ret2
  exact ⟨rfl, drewN_below HB.out _⟩
theorem fid_any (b o : Nat) (w : World) :
    Calls Tryz.prog 142 #[.pointer (some ⟨b, o, none⟩)] w fun e w' => e = .returned (.agg #[.pointer (some ⟨b, o, none⟩), .int .i64 1, .int .i64 1000000]) ∧ Below w.heap.size w w' := by
  go_enter Tryz.func142, Tryz.ntmps142
  go_wp2_with fail
  exact bodyPost_ret (v := .agg #[.pointer (some ⟨b, o, none⟩), .int .i64 1, .int .i64 1000000]) (by simp [results, Tryz.results142, go_sem]) rfl ⟨rfl, (Below.refl _ _).alloc (Nat.le_refl _) _⟩
theorem fperiod_any (b o : Nat) (w : World) :
    Calls Tryz.prog 144 #[.pointer (some ⟨b, o, none⟩)] w fun e w' => e = .returned (.agg #[.pointer (some ⟨b, o, none⟩), .int .i64 0, .int .i64 1199]) ∧ Below w.heap.size w w' := by
  go_enter Tryz.func144, Tryz.ntmps144
  go_wp2_with fail
  exact bodyPost_ret (v := .agg #[.pointer (some ⟨b, o, none⟩), .int .i64 0, .int .i64 1199]) (by simp [results, Tryz.results144, go_sem]) rfl ⟨rfl, (Below.refl _ _).alloc (Nat.le_refl _) _⟩
theorem fterritory_any (b o : Nat) (w : World) :
    Calls Tryz.prog 143 #[.pointer (some ⟨b, o, none⟩)] w fun e w' => e = .returned (.agg #[.pointer (some ⟨b, o, none⟩), .int .i64 0, .int .i64 7]) ∧ Below w.heap.size w w' := by
  go_enter Tryz.func143, Tryz.ntmps143
  go_wp2_with fail
  exact bodyPost_ret (v := .agg #[.pointer (some ⟨b, o, none⟩), .int .i64 0, .int .i64 7]) (by simp [results, Tryz.results143, go_sem]) rfl ⟨rfl, (Below.refl _ _).alloc (Nat.le_refl _) _⟩
set_option maxRecDepth 100000 in
theorem isWithin_any (b o : Nat) (x lo hi : Int) (w : World) (hx : w.cell? ⟨b, o, none⟩ = some (.int .i64 x)) :
    Calls Tryz.prog 74 #[.agg #[.pointer (some ⟨b, o, none⟩), .int .i64 lo, .int .i64 hi]] w fun e w' => e = .returned (.bool (decide (lo ≤ x) && decide (x ≤ hi))) ∧ Below w.heap.size w w' := by
  have hb := World.block_lt_of_cell? w _ hx
  have HB := Lib.hid (show Below w.heap.size w (w.alloc (.cells #[.pointer (some ⟨b, o, none⟩), .int .i64 lo, .int .i64 hi] 124)) from (Below.refl _ _).alloc (Nat.le_refl _) _)
  have hx2 := (HB.out.cell (p := ⟨b, o, none⟩) hb).trans hx
  by_cases h1 : lo ≤ x
  · have h1d : decide (lo ≤ x) = true := decide_eq_true h1
    by_cases h2 : x ≤ hi
    · have h2d : decide (x ≤ hi) = true := decide_eq_true h2
      go_enter Tryz.func74, Tryz.ntmps74
      go_wp2_with fail
      go_quiet (fail)
      go_wp2_with fail
      go_ret
      exact ⟨by rw [h1d, h2d]; rfl, drewN_below HB.out _⟩
    · have h2d : decide (x ≤ hi) = false := decide_eq_false h2
      go_enter Tryz.func74, Tryz.ntmps74
      go_wp2_with fail
      go_quiet (fail)
      go_wp2_with fail
      go_ret
      exact ⟨by rw [h1d, h2d]; rfl, drewN_below HB.out _⟩
  · have h1d : decide (lo ≤ x) = false := decide_eq_false h1
    go_enter Tryz.func74, Tryz.ntmps74
    go_wp2_with fail
    go_quiet (fail)
    go_wp2_with fail
    go_ret
    exact ⟨by rw [h1d]; rfl, drewN_below HB.out _⟩
end Go.Proofs.YtfiabonacpepnaaGreatDoor.Fb
