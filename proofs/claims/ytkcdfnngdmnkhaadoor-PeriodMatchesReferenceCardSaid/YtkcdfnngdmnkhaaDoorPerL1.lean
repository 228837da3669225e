/- PeriodMatchesReference: the walk. -/
import Derived.Test.YtkcdfnngdmnkhaaDoorPerL4
import Derived.BigRegion
namespace Go.Proofs.YtkcdfnngdmnkhaaDoor
open Go Go.RowKit

theorem of_both (s : Int) : ∃ (a b : Int) (f : Bool), (∀ w, LenAt w → Calls Tryd.prog 10 #[.int .i64 s] w fun e w' => e = .returned (.tuple #[.int .i64 a, .int .i64 b, .bool f]) ∧ w = w') ∧
    (∀ w, Calls Tryd.prog 11 #[.int .i64 s] w fun e w' => e = .returned (.tuple #[.int .i64 a, .int .i64 b, .bool f]) ∧ Below w.heap.size w w') := by
  by_cases h : s < 0 ∨ 3155760000 ≤ s
  · exact ⟨0, 0, false, fun w _ => of_out s h w, fun w => refOf_out s h w⟩
  · obtain ⟨k, rfl⟩ : ∃ k : Nat, s = (k : Int) := ⟨s.toNat, by omega⟩
    obtain ⟨p, hp, s1, s2⟩ := PerP.of_ex' (k / 86400) (by omega)
    exact ⟨p, _, true, fun w hT => of_in k (k / 86400) p (by omega) rfl hp s1 s2 w hT, fun w => refOf_in k (k / 86400) p (by omega) rfl hp s1 s2 w⟩
theorem fmt_both (p : Int) : ∃ (l : List UInt8) (h : Int), (∀ w, Calls Tryd.prog 12 #[.int .i64 p] w fun e w' => e = .returned (.tuple #[.string ⟨l.toArray⟩, .int .i64 h]) ∧ Below w.heap.size w w') ∧
    (∀ w, Calls Tryd.prog 13 #[.int .i64 p] w fun e w' => e = .returned (.tuple #[.string ⟨l.toArray⟩, .int .i64 h]) ∧ Below w.heap.size w w') := by
  by_cases h : p < 0 ∨ 1200 ≤ p
  · exact ⟨[], 40, fun w => format_out p h w, fun w => refFormat_out p h w⟩
  · obtain ⟨k, rfl⟩ : ∃ k : Nat, p = (k : Int) := ⟨p.toNat, by omega⟩
    exact ⟨PerP.fmt k, 0, fun w => format_in k (by omega) w, fun w => refFormat_in k (by omega) w⟩
theorem start_both (p : Int) (h1 : -9223372036854775808 ≤ p) (h2 : p ≤ 9223372036854775807) : ∃ (x : Int), (∀ w, LenAt w → Calls Tryd.prog 14 #[.int .i64 p] w fun e w' => e = .returned (.int .i64 x) ∧ w = w') ∧
    (∀ w, Calls Tryd.prog 15 #[.int .i64 p] w fun e w' => e = .returned (.int .i64 x) ∧ Below w.heap.size w w') :=
  ⟨_, fun w hT => start_any p w hT h1 h2, fun w => refStart_any p w⟩
theorem days_both (p : Int) : ∃ (x : Int), (∀ w, LenAt w → Calls Tryd.prog 16 #[.int .i64 p] w fun e w' => e = .returned (.int .i64 x) ∧ w = w') ∧
    (∀ w, Calls Tryd.prog 17 #[.int .i64 p] w fun e w' => e = .returned (.int .i64 x) ∧ Below w.heap.size w w') :=
  ⟨_, fun w hT => days_any p w hT, fun w => refDays_any p w⟩
theorem parse_both (l : List UInt8) : ∃ (n h : Int), (∀ w, Calls Tryd.prog 18 #[.string ⟨l.toArray⟩] w fun e w' => e = .returned (.tuple #[.int .i64 n, .int .i64 h]) ∧ Below w.heap.size w w') ∧
    (∀ w, Calls Tryd.prog 19 #[.string ⟨l.toArray⟩] w fun e w' => e = .returned (.tuple #[.int .i64 n, .int .i64 h]) ∧ Below w.heap.size w w') :=
  ⟨(PerP.parse l).1, (PerP.parse l).2, fun w => parse_t l _ _ rfl w, fun w => refParse_any l w⟩

set_option maxRecDepth 100000 in
set_option maxHeartbeats 2000000 in
theorem matches_walk (c p : Int) (l : List UInt8) (w : World) (hT : LenAt w) (h1 : -9223372036854775808 ≤ c) (h2 : c ≤ 9223372036854775807) (h3 : -9223372036854775808 ≤ p) (h4 : p ≤ 9223372036854775807) :
    Calls Tryd.prog 3 #[.int .i64 c, .int .i64 p, .string ⟨l.toArray⟩] w fun e w' => e = .returned (.bool true) ∧ Below w.heap.size w w' := by
  have hl := len_lt hT
  obtain ⟨i1, hi, -, PI⟩ := pick_nat c 3155760003 (by omega) (by omega) h1 h2
  obtain ⟨j1, hj, -, PJ⟩ := pick_nat p 1203 (by omega) (by omega) h3 h4
  obtain ⟨n, h, PA, PB⟩ := parse_both l
  have HPI := Lib.hid PI
  have HPJ := Lib.hid PJ
  have HPA := Lib.hid PA
  have HPB := Lib.hid PB
  have HT := Lib.hid hT
  have HJ := Lib.hid hj
  clear PI PJ PA PB hT hi hj
  go_enter Tryd.func3, Tryd.ntmps3
  go_wp2_with fail
  refine (sane_any _ HT.out).mono ?_
  rintro e w1 ⟨rfl, hb⟩
  have HB1 := Lib.hid hb
  have hsz1 := hb.size
  clear hb
  go_wp2_with fail
  refine (HPI.out _).mono ?_
  rintro e w' ⟨rfl, rfl⟩
  go_wp2_with fail
  obtain ⟨V0, hV0⟩ : ∃ V0, (w1.alloc (Obj.cells #[Value.int IntKind.i64 c, Value.int IntKind.i64 i1] 3)) = V0 := ⟨_, rfl⟩
  have hcell : Hid (∀ i, i < 2 → ∃ κ : Int, V0.cell? ⟨w1.heap.size, i, none⟩ = some (.int .i64 κ)) := Lib.hid (by
    intro i hi
    rw [← hV0]
    match i, hi with
    | 0, _ => exact ⟨c, by simp⟩
    | 1, _ => exact ⟨i1, by simp⟩)
  have HBv : Hid (Below w.heap.size w V0) := Lib.hid (by
    rw [← hV0]
    exact HB1.out.alloc hsz1 _)
  have hszv : w1.heap.size + 1 ≤ V0.heap.size := by rw [← hV0]; simp
  rw [hV0]
  clear hV0
  obtain ⟨sA, hA⟩ : ∃ m, w1.heap.size = m := ⟨_, rfl⟩
  rw [hA] at hcell hszv hsz1 ⊢
  clear hA HB1
  go_loopw [32] (fun i wr => ∃ n : Nat, n ≤ 2 ∧ i = .int .i64 n ∧ Hid (Below (sA + 1) V0 wr)) (fun i _ => 2 - (intOf i).toNat)
  case atStart => exact ⟨0, by omega, rfl, Lib.hid (Below.refl _ _)⟩
  case round =>
    obtain ⟨j, hj, rfl, hbv⟩ := hrel
    by_cases hlt : j < 2
    · obtain ⟨κ, hc⟩ := hcell.out j hlt
      have hc' : wr.cell? ⟨sA, j, none⟩ = some (.int .i64 κ) := (hbv.out.cell (p := ⟨sA, j, none⟩) (by simp)).trans hc
      clear hc
      obtain ⟨a, b, f, OA, OB⟩ := of_both κ
      have HOA := Lib.hid OA; clear OA
      have HOB := Lib.hid OB; clear OB
      have HTr := Lib.hid (HT.out.below (HBv.out.trans (hbv.out.mono (by omega))) hl)
      go_wp2_with fail
      refine (HOA.out _ HTr.out).mono ?_
      rintro e w' ⟨rfl, rfl⟩
      clear hc'
      go_wp2_with fail
      refine (HOB.out _).mono ?_
      rintro e w4 ⟨rfl, hb4⟩
      have HB4 := Lib.hid (hbv.out.trans (hb4.mono (Nat.le_trans hszv hbv.out.size))); clear hb4
      go_wp2_with fail
      go_roundw
      case rel => exact ⟨j + 1, by omega, by go_num, HB4⟩
      case measure => simp [intOf]; omega
    · have HBx := Lib.hid (HBv.out.trans (hbv.out.mono (by omega)))
      have hsz3 := HBx.out.size
      clear hcell
      go_wp2_with fail
      refine (HPJ.out _).mono ?_
      rintro e w' ⟨rfl, rfl⟩
      go_wp2_with fail
      obtain ⟨V1, hV1⟩ : ∃ V1, (wr.alloc (Obj.cells #[Value.int IntKind.i64 p, Value.int IntKind.i64 j1] 3)) = V1 := ⟨_, rfl⟩
      have hcell2 : Hid (∀ i, i < 2 → ∃ κ : Int, -9223372036854775808 ≤ κ ∧ κ ≤ 9223372036854775807 ∧ V1.cell? ⟨wr.heap.size, i, none⟩ = some (.int .i64 κ)) := Lib.hid (by
        have hJJ := HJ.out
        intro i hi
        rw [← hV1]
        match i, hi with
        | 0, _ => exact ⟨p, by omega, by omega, by simp⟩
        | 1, _ => exact ⟨j1, by omega, by omega, by simp⟩)
      have HBw : Hid (Below w.heap.size w V1) := Lib.hid (by
        rw [← hV1]
        exact HBx.out.alloc hsz3 _)
      have hszw : wr.heap.size + 1 ≤ V1.heap.size := by rw [← hV1]; simp
      rw [hV1]
      clear hV1
      obtain ⟨sB, hB⟩ : ∃ m, wr.heap.size = m := ⟨_, rfl⟩
      rw [hB] at hcell2 hszw hsz3 ⊢
      clear hbv hB HBx
      go_loopw [67] (fun i wr => ∃ n : Nat, n ≤ 2 ∧ i = .int .i64 n ∧ Hid (Below (sB + 1) V1 wr)) (fun i _ => 2 - (intOf i).toNat)
      case atStart => exact ⟨0, by omega, rfl, Lib.hid (Below.refl _ _)⟩
      case round =>
        obtain ⟨m, hm, rfl, hbw⟩ := hrel
        have HBy := Lib.hid (HBw.out.trans (hbw.out.mono (by omega)))
        by_cases hlt2 : m < 2
        · obtain ⟨κ, b1, b2, hc⟩ := hcell2.out m hlt2
          have hc' : wr.cell? ⟨sB, m, none⟩ = some (.int .i64 κ) := (hbw.out.cell (p := ⟨sB, m, none⟩) (by simp)).trans hc
          clear hc
          obtain ⟨fl, fh, FA, FB⟩ := fmt_both κ
          obtain ⟨sx, SA, SB⟩ := start_both κ b1 b2
          obtain ⟨dx, DA, DB⟩ := days_both κ
          have HFA := Lib.hid FA
          have HFB := Lib.hid FB
          have HSA := Lib.hid SA
          have HSB := Lib.hid SB
          have HDA := Lib.hid DA
          have HDB := Lib.hid DB
          clear FA FB SA SB DA DB
          go_wp2_with fail
          refine (HFA.out _).mono ?_
          rintro e w3 ⟨rfl, hb⟩
          have HB3 := Lib.hid (hbw.out.trans (hb.mono (Nat.le_trans hszw hbw.out.size))); clear hb
          clear hc'
          go_wp2_with fail
          refine (HFB.out _).mono ?_
          rintro e w4 ⟨rfl, hb⟩
          have HB4 := Lib.hid (HB3.out.trans (hb.mono (Nat.le_trans hszw HB3.out.size))); clear hb
          have HT4 := Lib.hid (HT.out.below (HBw.out.trans (HB4.out.mono (by omega))) hl)
          go_wp2_with fail
          refine (HSA.out _ HT4.out).mono ?_
          rintro e w' ⟨rfl, rfl⟩
          go_wp2_with fail
          refine (HSB.out _).mono ?_
          rintro e w5 ⟨rfl, hb⟩
          have HB5 := Lib.hid (HB4.out.trans (hb.mono (Nat.le_trans hszw HB4.out.size))); clear hb
          have HT5 := Lib.hid (HT.out.below (HBw.out.trans (HB5.out.mono (by omega))) hl)
          go_wp2_with fail
          refine (HDA.out _ HT5.out).mono ?_
          rintro e w' ⟨rfl, rfl⟩
          go_wp2_with fail
          refine (HDB.out _).mono ?_
          rintro e w6 ⟨rfl, hb⟩
          have HB6 := Lib.hid (HB5.out.trans (hb.mono (Nat.le_trans hszw HB5.out.size))); clear hb
          go_wp2_with fail
          go_roundw
          case rel => exact ⟨m + 1, by omega, by go_num, HB6⟩
          case measure => simp [intOf]; omega
        · clear hcell2
          go_wp2_with fail
          refine (HPA.out _).mono ?_
          rintro e w3 ⟨rfl, hb⟩
          have HB3 := Lib.hid (HBy.out.trans (hb.mono HBy.out.size)); clear hb
          go_wp2_with fail
          refine (HPB.out _).mono ?_
          rintro e w4 ⟨rfl, hb⟩
          have HB4 := Lib.hid (HB3.out.trans (hb.mono HB3.out.size)); clear hb
          go_wp2_with fail
          go_ret
          exact ⟨rfl, HB4.out⟩
end Go.Proofs.YtkcdfnngdmnkhaaDoor
