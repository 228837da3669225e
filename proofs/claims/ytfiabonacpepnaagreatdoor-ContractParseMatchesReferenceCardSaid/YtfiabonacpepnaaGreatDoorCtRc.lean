/- The reference's Line. -/
import Derived.Test.YtfiabonacpepnaaGreatDoorCtRb
import Derived.Test.YtfiabonacpepnaaGreatDoorCtPl
namespace Go.Proofs.YtfiabonacpepnaaGreatDoor
open Go Go.RowKit Go.Lib Go.Shelf Go.Maps

set_option maxRecDepth 100000 in
set_option maxHeartbeats 4000000 in
theorem rline_2 (n : Nat) (m ab : Int) (va : Value) (w : World) (h3 : n ≤ 1000000) :
    Calls Tryz.prog 37 #[.agg #[.int .i64 2, .int .i64 (n : Int), .int .i64 m, .int .i64 ab, va]] w fun e w' => e = .returned (strV (kTaxS ++ pctL n)) ∧ Below w.heap.size w w' := by
  have HPC := Lib.hid (fun W => rpercent_any n W (by omega))
  have hpl := (pct_len h3).1
  obtain ⟨P1, hP1⟩ : ∃ z, pctL n = z := ⟨_, rfl⟩
  rw [hP1] at HPC hpl ⊢
  have b0 : Below w.heap.size w (w.alloc (.cells #[.int .i64 2, .int .i64 (n : Int), .int .i64 m, .int .i64 ab, va] 28)) := (Below.refl _ _).alloc (Nat.le_refl _) _
  have HB0 := Lib.hid b0
  clear hP1 b0
  unfold strV at HPC ⊢
  go_enter Tryz.func37, Tryz.ntmps37
  go_wp2_with fail
  refine (HPC.out _).mono ?_
  rintro e w1 ⟨rfl, hb1⟩
  have HB1 := Lib.hid (HB0.out.trans (hb1.mono HB0.out.size))
  clear hb1
  go_wp2_with fail
  go_ret
  exact ⟨congrArg (fun s => Ending.returned (Value.string s)) (ba_app [116, 97, 120, 32] P1), HB1.out⟩
theorem cap_len {n : Nat} (h : n ≤ 1000000000000000) : (decDigits n).length ≤ 16 := dec_len 15 n (by omega)
set_option maxRecDepth 100000 in
set_option maxHeartbeats 4000000 in
theorem rline_4 (n : Nat) (m ab : Int) (va : Value) (w : World) (h3 : n ≤ 1000000000000000) :
    Calls Tryz.prog 37 #[.agg #[.int .i64 4, .int .i64 (n : Int), .int .i64 m, .int .i64 ab, va]] w fun e w' => e = .returned (strV ([99, 97, 112, 32] ++ decDigits n)) ∧ Below w.heap.size w w' := by
  have HPC := Lib.hid (fun W => rdigits_any n W (by omega))
  have hpl := cap_len h3
  obtain ⟨P1, hP1⟩ : ∃ z, decDigits n = z := ⟨_, rfl⟩
  rw [hP1] at HPC hpl ⊢
  have b0 : Below w.heap.size w (w.alloc (.cells #[.int .i64 4, .int .i64 (n : Int), .int .i64 m, .int .i64 ab, va] 28)) := (Below.refl _ _).alloc (Nat.le_refl _) _
  have HB0 := Lib.hid b0
  clear hP1 b0
  unfold strV at HPC ⊢
  go_enter Tryz.func37, Tryz.ntmps37
  go_wp2_with fail
  refine (HPC.out _).mono ?_
  rintro e w1 ⟨rfl, hb1⟩
  have HB1 := Lib.hid (HB0.out.trans (hb1.mono HB0.out.size))
  clear hb1
  go_wp2_with fail
  go_ret
  exact ⟨congrArg (fun s => Ending.returned (Value.string s)) (ba_app [99, 97, 112, 32] P1), HB1.out⟩
set_option maxRecDepth 100000 in
set_option maxHeartbeats 4000000 in
theorem rline_3 (n m : Nat) (ab : Int) (va : Value) (w : World) (h3 : n ≤ 1000000) (h4 : m ≤ 1000000) :
    Calls Tryz.prog 37 #[.agg #[.int .i64 3, .int .i64 (n : Int), .int .i64 (m : Int), .int .i64 ab, va]] w fun e w' => e = .returned (strV ([114, 101, 115, 101, 114, 118, 101, 32] ++ pctL n ++ [32, 102, 111, 114, 32] ++ decDigits m)) ∧ Below w.heap.size w w' := by
  have HPC := Lib.hid (fun W => rpercent_any n W (by omega))
  have HDG := Lib.hid (fun W => rdigits_any m W (by omega))
  have hpl := (pct_len h3).1
  have hdl : (decDigits m).length ≤ 16 := dec_len 15 m (by omega)
  obtain ⟨P1, hP1⟩ : ∃ z, pctL n = z := ⟨_, rfl⟩
  obtain ⟨D1, hD1⟩ : ∃ z, decDigits m = z := ⟨_, rfl⟩
  rw [hP1] at HPC hpl ⊢
  rw [hD1] at HDG hdl ⊢
  have b0 : Below w.heap.size w (w.alloc (.cells #[.int .i64 3, .int .i64 (n : Int), .int .i64 (m : Int), .int .i64 ab, va] 28)) := (Below.refl _ _).alloc (Nat.le_refl _) _
  have r0 := RowAt.new w 28 #[.int .i64 3, .int .i64 (n : Int), .int .i64 (m : Int), .int .i64 ab, va]
  have hz : w.heap.size < (w.alloc (.cells #[.int .i64 3, .int .i64 (n : Int), .int .i64 (m : Int), .int .i64 ab, va] 28)).heap.size := r0.lt
  obtain ⟨W1, hW1⟩ : ∃ z, w.alloc (.cells #[.int .i64 3, .int .i64 (n : Int), .int .i64 (m : Int), .int .i64 ab, va] 28) = z := ⟨_, rfl⟩
  obtain ⟨N, hN⟩ : ∃ z, w.heap.size = z := ⟨_, rfl⟩
  rw [hW1] at b0 r0 hz
  rw [hN] at b0 r0 hz
  have HB0 := Lib.hid b0
  have HW1 := Lib.hid hW1
  have HNN := Lib.hid hN
  have c0 : W1.cell? ⟨N, 0, none⟩ = some (.int .i64 3) := r0.cell 0
  have c1 : W1.cell? ⟨N, 1, none⟩ = some (.int .i64 (n : Int)) := r0.cell 1
  have c2 : W1.cell? ⟨N, 2, none⟩ = some (.int .i64 (m : Int)) := r0.cell 2
  obtain ⟨X1, hX1⟩ : ∃ X, [114, 101, 115, 101, 114, 118, 101, 32] ++ P1 = X := ⟨_, rfl⟩
  obtain ⟨X2, hX2⟩ : ∃ X, X1 ++ [32, 102, 111, 114, 32] = X := ⟨_, rfl⟩
  obtain ⟨X3, hX3⟩ : ∃ X, X2 ++ D1 = X := ⟨_, rfl⟩
  have l1 : X1.length ≤ 16 := by rw [← hX1]; simp; omega
  have l2 : X2.length ≤ 21 := by rw [← hX2]; simp; omega
  have a3 : ∀ W, (Op.stringOp .add ⟨#[114, 101, 115, 101, 114, 118, 101, 32]⟩ ⟨P1.toArray⟩).run Tryz.prog W = .ok (.string ⟨X1.toArray⟩) W := fun W => by rw [← hX1]; exact run_string_add_lists W [114, 101, 115, 101, 114, 118, 101, 32] P1 (by decide) (by omega)
  have a4 : ∀ W, (Op.stringOp .add ⟨X1.toArray⟩ ⟨#[32, 102, 111, 114, 32]⟩).run Tryz.prog W = .ok (.string ⟨X2.toArray⟩) W := fun W => by rw [← hX2]; exact run_string_add_lists W X1 [32, 102, 111, 114, 32] (by omega) (by decide)
  have a8 : ∀ W, (Op.stringOp .add ⟨X2.toArray⟩ ⟨D1.toArray⟩).run Tryz.prog W = .ok (.string ⟨X3.toArray⟩) W := fun W => by rw [← hX3]; exact run_string_add_lists W X2 D1 (by omega) (by omega)
  rw [hX1, hX2, hX3]
  clear hP1 hD1 b0 r0 hW1 hX1 hX2 hX3
  unfold strV at HPC HDG ⊢
  go_enter Tryz.func37, Tryz.ntmps37
  go_upto_region 1 with fail
  rw [HW1.out]
  clear hN
  go_wp2_with fail
  go_region_held3 (fun W => W.cell? ⟨N, 1, none⟩ = some (.int .i64 (n : Int)) ∧ W.cell? ⟨N, 2, none⟩ = some (.int .i64 (m : Int)) ∧ N < W.heap.size ∧ Below N w W) (first | exact ⟨c1, c2, hz, HB0.out.drew⟩ | exact ⟨by assumption, by assumption, by assumption, by assumption⟩ | exact ⟨by assumption, by assumption, by assumption, Below.drew (by assumption)⟩) (first
    | (go_at_call 65; (with_reducible refine (HPC.out _).mono ?_); rintro e Y ⟨rfl, hY⟩; have hk1 : Y.cell? ⟨N, 1, none⟩ = some (.int .i64 (n : Int)) := (hY.cell (p := ⟨N, 1, none⟩) (by first | assumption | exact hz)).trans (by first | assumption | exact c1); have hk2 : Y.cell? ⟨N, 2, none⟩ = some (.int .i64 (m : Int)) := (hY.cell (p := ⟨N, 2, none⟩) (by first | assumption | exact hz)).trans (by first | assumption | exact c2); have hk3 : N < Y.heap.size := Nat.lt_of_lt_of_le (by first | assumption | exact hz) hY.size; have hk4 : Below N w Y := Below.trans (by first | assumption | exact HB0.out.drew) (hY.mono (Nat.le_of_lt (by first | assumption | exact hz))))
    | (go_at_call 66; (with_reducible refine (HDG.out _).mono ?_); rintro e Y ⟨rfl, hY⟩; have hk1 : Y.cell? ⟨N, 1, none⟩ = some (.int .i64 (n : Int)) := (hY.cell (p := ⟨N, 1, none⟩) (by first | assumption | exact hz)).trans (by first | assumption | exact c1); have hk2 : Y.cell? ⟨N, 2, none⟩ = some (.int .i64 (m : Int)) := (hY.cell (p := ⟨N, 2, none⟩) (by first | assumption | exact hz)).trans (by first | assumption | exact c2); have hk3 : N < Y.heap.size := Nat.lt_of_lt_of_le (by first | assumption | exact hz) hY.size; have hk4 : Below N w Y := Below.trans (by first | assumption | exact HB0.out.drew) (hY.mono (Nat.le_of_lt (by first | assumption | exact hz)))))
  go_wp2_with fail
  go_ret
  exact ⟨rfl, by rw [HNN.out]; assumption⟩
set_option maxRecDepth 100000 in
set_option maxHeartbeats 4000000 in
theorem rline_1 (n m ab : Nat) (va : Value) (w : World) (h3 : n ≤ 1000000) (h4 : m ≤ 1000000) (h5 : ab ≤ 1000000000000000) :
    Calls Tryz.prog 37 #[.agg #[.int .i64 1, .int .i64 (n : Int), .int .i64 (m : Int), .int .i64 (ab : Int), va]] w fun e w' => e = .returned (strV ([112, 97, 115, 115, 32] ++ pctL n ++ [32, 116, 111, 32] ++ decDigits m ++ (if ab = 0 then [] else [32, 97, 98, 111, 118, 101, 32] ++ decDigits ab))) ∧ Below w.heap.size w w' := by
  have HPC := Lib.hid (fun W => rpercent_any n W (by omega))
  have HDG := Lib.hid (fun W => rdigits_any m W (by omega))
  have HDA := Lib.hid (fun W => rdigits_any ab W (by omega))
  have hda : (decDigits ab).length ≤ 16 := dec_len 15 ab (by omega)
  have hpl := (pct_len h3).1
  have hdl : (decDigits m).length ≤ 16 := dec_len 15 m (by omega)
  obtain ⟨P1, hP1⟩ : ∃ z, pctL n = z := ⟨_, rfl⟩
  obtain ⟨D1, hD1⟩ : ∃ z, decDigits m = z := ⟨_, rfl⟩
  rw [hP1] at HPC hpl ⊢
  rw [hD1] at HDG hdl ⊢
  have b0 : Below w.heap.size w (w.alloc (.cells #[.int .i64 1, .int .i64 (n : Int), .int .i64 (m : Int), .int .i64 (ab : Int), va] 28)) := (Below.refl _ _).alloc (Nat.le_refl _) _
  have r0 := RowAt.new w 28 #[.int .i64 1, .int .i64 (n : Int), .int .i64 (m : Int), .int .i64 (ab : Int), va]
  have hz : w.heap.size < (w.alloc (.cells #[.int .i64 1, .int .i64 (n : Int), .int .i64 (m : Int), .int .i64 (ab : Int), va] 28)).heap.size := r0.lt
  obtain ⟨W1, hW1⟩ : ∃ z, w.alloc (.cells #[.int .i64 1, .int .i64 (n : Int), .int .i64 (m : Int), .int .i64 (ab : Int), va] 28) = z := ⟨_, rfl⟩
  obtain ⟨N, hN⟩ : ∃ z, w.heap.size = z := ⟨_, rfl⟩
  rw [hW1] at b0 r0 hz
  rw [hN] at b0 r0 hz
  have HB0 := Lib.hid b0
  have HW1 := Lib.hid hW1
  have HNN := Lib.hid hN
  have c0 : W1.cell? ⟨N, 0, none⟩ = some (.int .i64 1) := r0.cell 0
  have c1 : W1.cell? ⟨N, 1, none⟩ = some (.int .i64 (n : Int)) := r0.cell 1
  have c2 : W1.cell? ⟨N, 2, none⟩ = some (.int .i64 (m : Int)) := r0.cell 2
  obtain ⟨X1, hX1⟩ : ∃ X, [112, 97, 115, 115, 32] ++ P1 = X := ⟨_, rfl⟩
  obtain ⟨X2, hX2⟩ : ∃ X, X1 ++ [32, 116, 111, 32] = X := ⟨_, rfl⟩
  obtain ⟨X3, hX3⟩ : ∃ X, X2 ++ D1 = X := ⟨_, rfl⟩
  have l1 : X1.length ≤ 16 := by rw [← hX1]; simp; omega
  have l2 : X2.length ≤ 21 := by rw [← hX2]; simp; omega
  have l3 : X3.length ≤ 37 := by rw [← hX3]; simp; omega
  obtain ⟨D2, hD2⟩ : ∃ z, decDigits ab = z := ⟨_, rfl⟩
  rw [hD2] at HDA hda ⊢
  have a3 : ∀ W, (Op.stringOp .add ⟨#[112, 97, 115, 115, 32]⟩ ⟨P1.toArray⟩).run Tryz.prog W = .ok (.string ⟨X1.toArray⟩) W := fun W => by rw [← hX1]; exact run_string_add_lists W [112, 97, 115, 115, 32] P1 (by decide) (by omega)
  have a4 : ∀ W, (Op.stringOp .add ⟨X1.toArray⟩ ⟨#[32, 116, 111, 32]⟩).run Tryz.prog W = .ok (.string ⟨X2.toArray⟩) W := fun W => by rw [← hX2]; exact run_string_add_lists W X1 [32, 116, 111, 32] (by omega) (by decide)
  have a8 : ∀ W, (Op.stringOp .add ⟨X2.toArray⟩ ⟨D1.toArray⟩).run Tryz.prog W = .ok (.string ⟨X3.toArray⟩) W := fun W => by rw [← hX3]; exact run_string_add_lists W X2 D1 (by omega) (by omega)
  rw [hX1, hX2, hX3]
  have hc3 : W1.cell? ⟨N, 3, none⟩ = some (.int .i64 (ab : Int)) := r0.cell 3
  clear hP1 hD1 b0 r0 hW1 hX1 hX2 hX3
  have c3 : W1.cell? ⟨N, 3, none⟩ = some (.int .i64 (ab : Int)) := hc3
  unfold strV at HPC HDG HDA ⊢
  go_enter Tryz.func37, Tryz.ntmps37
  go_upto_region 1 with fail
  rw [HW1.out]
  clear hN
  go_wp2_with fail
  go_region_held3 (fun W => W.cell? ⟨N, 1, none⟩ = some (.int .i64 (n : Int)) ∧ W.cell? ⟨N, 2, none⟩ = some (.int .i64 (m : Int)) ∧ W.cell? ⟨N, 3, none⟩ = some (.int .i64 (ab : Int)) ∧ N < W.heap.size ∧ Below N w W) (first | exact ⟨c1, c2, c3, hz, HB0.out.drew⟩ | exact ⟨by assumption, by assumption, by assumption, by assumption, by assumption⟩ | exact ⟨by assumption, by assumption, by assumption, by assumption, Below.drew (by assumption)⟩) (first
    | (go_at_call 65; (with_reducible refine (HPC.out _).mono ?_); rintro e Y ⟨rfl, hY⟩; have hk1 : Y.cell? ⟨N, 1, none⟩ = some (.int .i64 (n : Int)) := (hY.cell (p := ⟨N, 1, none⟩) (by first | assumption | exact hz)).trans (by first | assumption | exact c1); have hk2 : Y.cell? ⟨N, 2, none⟩ = some (.int .i64 (m : Int)) := (hY.cell (p := ⟨N, 2, none⟩) (by first | assumption | exact hz)).trans (by first | assumption | exact c2); have hk5 : Y.cell? ⟨N, 3, none⟩ = some (.int .i64 (ab : Int)) := (hY.cell (p := ⟨N, 3, none⟩) (by first | assumption | exact hz)).trans (by first | assumption | exact c3); have hk3 : N < Y.heap.size := Nat.lt_of_lt_of_le (by first | assumption | exact hz) hY.size; have hk4 : Below N w Y := Below.trans (by first | assumption | exact HB0.out.drew) (hY.mono (Nat.le_of_lt (by first | assumption | exact hz))))
    | (go_at_call 66; (with_reducible refine (HDG.out _).mono ?_); rintro e Y ⟨rfl, hY⟩; have hk1 : Y.cell? ⟨N, 1, none⟩ = some (.int .i64 (n : Int)) := (hY.cell (p := ⟨N, 1, none⟩) (by first | assumption | exact hz)).trans (by first | assumption | exact c1); have hk2 : Y.cell? ⟨N, 2, none⟩ = some (.int .i64 (m : Int)) := (hY.cell (p := ⟨N, 2, none⟩) (by first | assumption | exact hz)).trans (by first | assumption | exact c2); have hk5 : Y.cell? ⟨N, 3, none⟩ = some (.int .i64 (ab : Int)) := (hY.cell (p := ⟨N, 3, none⟩) (by first | assumption | exact hz)).trans (by first | assumption | exact c3); have hk3 : N < Y.heap.size := Nat.lt_of_lt_of_le (by first | assumption | exact hz) hY.size; have hk4 : Below N w Y := Below.trans (by first | assumption | exact HB0.out.drew) (hY.mono (Nat.le_of_lt (by first | assumption | exact hz)))))
  have HKY := Lib.hid hk4
  clear a3 a4 a8
  by_cases h0 : ab = 0
  · subst h0
    go_wp2_with fail
    go_ret
    exact ⟨by simp, by rw [HNN.out]; exact HKY.out⟩
  · have qn : ((ab : Int) != 0) = true := bne_iff_ne.2 (by omega)
    have qn2 : (ab != 0) = true := bne_iff_ne.2 h0
    have qn3 : ((ab : Int) == 0) = false := by rw [beq_eq_false_iff_ne]; omega
    have qn4 : (ab == 0) = false := by rw [beq_eq_false_iff_ne]; exact h0
    have hI : ¬ ((ab : Int) = 0) := by omega
    go_wp2_with fail
    refine (HDA.out _).mono ?_
    rintro e Z ⟨rfl, hZ⟩
    have HZ := Lib.hid (HKY.out.trans (hZ.mono (Nat.le_of_lt hk3)))
    clear hZ
    go_wp2_with fail
    go_ret
    exact ⟨congrArg (fun s => Ending.returned (Value.string s)) (by
      have e1 := ba_app X3 [32, 97, 98, 111, 118, 101, 32]
      have e2 := ba_app (X3 ++ [32, 97, 98, 111, 118, 101, 32]) D2
      rw [← e1] at e2
      exact e2.trans (by simp)), by rw [HNN.out]; exact HZ.out⟩
end Go.Proofs.YtfiabonacpepnaaGreatDoor
