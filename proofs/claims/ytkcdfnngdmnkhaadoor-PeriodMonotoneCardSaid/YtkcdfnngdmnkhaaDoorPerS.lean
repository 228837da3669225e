/- sane. -/
import Derived.Test.YtkcdfnngdmnkhaaDoorPerM
namespace Go.Proofs.YtkcdfnngdmnkhaaDoor
open Go Go.RowKit

theorem sOf1 (w : World) (hT : LenAt w) : Calls Tryd.prog 10 #[.int .i64 5097600] w fun e w' => e = .returned (.tuple #[.int .i64 1, .int .i64 29, .bool true]) ∧ w = w' :=
  of_in 5097600 59 1 (by omega) (by decide) (by omega) (by decide) (by decide) w hT
theorem sOf2 (w : World) (hT : LenAt w) : Calls Tryd.prog 10 #[.int .i64 5184000] w fun e w' => e = .returned (.tuple #[.int .i64 2, .int .i64 1, .bool true]) ∧ w = w' :=
  of_in 5184000 60 2 (by omega) (by decide) (by omega) (by decide) (by decide) w hT
theorem sOf3 (w : World) : Calls Tryd.prog 10 #[.int .i64 3155760000] w fun e w' => e = .returned (.tuple #[.int .i64 0, .int .i64 0, .bool false]) ∧ w = w' :=
  of_out 3155760000 (by omega) w
theorem sFmt (w : World) : Calls Tryd.prog 12 #[.int .i64 306] w fun e w' => e = .returned (.tuple #[.string ⟨#[50, 48, 50, 53, 45, 48, 55]⟩, .int .i64 0]) ∧ Below w.heap.size w w' :=
  format_in 306 (by omega) w
theorem PerP.parse1 : PerP.parse [50, 48, 50, 53, 45, 48, 55] = (306, 0) := by
  have h := PerP.parse_fmt 306 (by omega)
  rw [show PerP.fmt 306 = [50, 48, 50, 53, 45, 48, 55] from by decide] at h
  exact h
theorem PerP.parse2 : PerP.parse [50, 48, 50, 53, 45, 55] = (0, 40) := by unfold PerP.parse; rw [if_pos (by simp)]
theorem sPar1 (w : World) : Calls Tryd.prog 18 #[.string ⟨#[50, 48, 50, 53, 45, 48, 55]⟩] w fun e w' => e = .returned (.tuple #[.int .i64 306, .int .i64 0]) ∧ Below w.heap.size w w' := by
  refine (parse_any ⟨#[50, 48, 50, 53, 45, 48, 55]⟩ w).mono ?_
  rintro e w' ⟨rfl, hb⟩
  exact ⟨by rw [show PerP.parse (ByteArray.mk #[50, 48, 50, 53, 45, 48, 55]).data.toList = (306, 0) from PerP.parse1]; rfl, hb⟩
theorem sPar2 (w : World) : Calls Tryd.prog 18 #[.string ⟨#[50, 48, 50, 53, 45, 55]⟩] w fun e w' => e = .returned (.tuple #[.int .i64 0, .int .i64 40]) ∧ Below w.heap.size w w' := by
  refine (parse_any ⟨#[50, 48, 50, 53, 45, 55]⟩ w).mono ?_
  rintro e w' ⟨rfl, hb⟩
  exact ⟨by rw [show PerP.parse (ByteArray.mk #[50, 48, 50, 53, 45, 55]).data.toList = (0, 40) from PerP.parse2]; rfl, hb⟩
theorem sSt1 (w : World) (hT : LenAt w) : Calls Tryd.prog 14 #[.int .i64 12] w fun e w' => e = .returned (.int .i64 31622400) ∧ w = w' := by
  have h := start_any 12 w hT (by omega) (by omega)
  rw [show startSpec 12 = 31622400 from by decide] at h
  exact h
theorem sSt2 (w : World) (hT : LenAt w) : Calls Tryd.prog 14 #[.int .i64 1200] w fun e w' => e = .returned (.int .i64 3155760000) ∧ w = w' := by
  have h := start_any 1200 w hT (by omega) (by omega)
  rw [show startSpec 1200 = 3155760000 by
    have e := startSpec_in (k := 1200) (by omega)
    rw [PerP.start_1200] at e; exact e] at h
  exact h
theorem sSt3 (w : World) (hT : LenAt w) : Calls Tryd.prog 14 #[.int .i64 (-1)] w fun e w' => e = .returned (.int .i64 (-1)) ∧ w = w' :=
  start_any (-1) w hT (by omega) (by omega)
theorem sDay (w : World) (hT : LenAt w) : Calls Tryd.prog 16 #[.int .i64 13] w fun e w' => e = .returned (.int .i64 28) ∧ w = w' :=
  days_any 13 w hT

theorem len_lt {w : World} (h : LenAt w) : 0 < w.heap.size := by
  have := h 0 (by omega)
  unfold World.cell? at this
  rcases Nat.lt_or_ge 0 w.heap.size with hl | hl
  · exact hl
  · simp [Array.getElem?_eq_none hl] at this

set_option maxRecDepth 100000 in
set_option maxHeartbeats 2000000 in
theorem sane_any (w : World) (hT : LenAt w) :
    Calls Tryd.prog 8 #[] w fun e w' => e = .returned (.bool true) ∧ Below w.heap.size w w' := by
  have hl := len_lt hT
  have HT := Lib.hid hT; clear hT
  go_enter Tryd.func8, Tryd.ntmps8
  go_wp2_with fail
  refine (sOf1 _ HT.out).mono ?_
  rintro e w' ⟨rfl, rfl⟩
  go_wp2_with fail
  refine (sOf2 _ HT.out).mono ?_
  rintro e w' ⟨rfl, rfl⟩
  go_wp2_with fail
  refine (sOf3 _).mono ?_
  rintro e w' ⟨rfl, rfl⟩
  go_wp2_with fail
  refine (sFmt _).mono ?_
  rintro e w1 ⟨rfl, hb1⟩
  have HB1 := Lib.hid hb1; clear hb1
  go_wp2_with fail
  refine (sPar1 _).mono ?_
  rintro e w2 ⟨rfl, hb2⟩
  have HB2 := Lib.hid (HB1.out.trans (hb2.mono HB1.out.size)); clear hb2 HB1
  go_wp2_with fail
  refine (sPar2 _).mono ?_
  rintro e w3 ⟨rfl, hb3⟩
  have HB3 := Lib.hid (HB2.out.trans (hb3.mono HB2.out.size)); clear hb3 HB2
  have HT3 := Lib.hid (HT.out.below HB3.out hl)
  go_wp2_with fail
  refine (sSt1 _ HT3.out).mono ?_
  rintro e w' ⟨rfl, rfl⟩
  go_wp2_with fail
  refine (sSt2 _ HT3.out).mono ?_
  rintro e w' ⟨rfl, rfl⟩
  go_wp2_with fail
  refine (sDay _ HT3.out).mono ?_
  rintro e w' ⟨rfl, rfl⟩
  go_wp2_with fail
  refine (sSt3 _ HT3.out).mono ?_
  rintro e w' ⟨rfl, rfl⟩
  go_wp2_with fail
  go_ret
  exact ⟨rfl, HB3.out⟩
end Go.Proofs.YtkcdfnngdmnkhaaDoor
