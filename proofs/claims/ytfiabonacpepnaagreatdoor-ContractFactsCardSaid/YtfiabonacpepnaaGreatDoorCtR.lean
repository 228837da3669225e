/- line (printed by gen_line.py). -/
import Derived.Test.YtfiabonacpepnaaGreatDoorCtQ
namespace Go.Proofs.YtfiabonacpepnaaGreatDoor
open Go Go.RowKit Go.Lib Go.Shelf Go.Maps

set_option maxHeartbeats 1000000 in
theorem join_any (b o c : Nat) (xs : List (List UInt8)) (w : World) (hc : ∀ (j : Nat) x, xs[j]? = some x → w.cell? ⟨b, o + j, none⟩ = some (strV x)) (hb : b < w.heap.size) (hn : xs.length ≤ c) (hn2 : xs.length ≤ 100000) (hl : (join xs [32]).length ≤ 100000) :
    Calls Tryz.prog 61 #[.slice (some ⟨b, o, none⟩) xs.length c] w fun e w' => e = .returned (strV (join xs [32])) ∧ Below w.heap.size w w' := by
  have hm : (xs.map fun x => (⟨x.toArray⟩ : ByteArray)).map (·.data.toList) = xs := by rw [List.map_map]; exact (List.map_id xs)
  have h := Tryz.strings_Join b o c (xs.map fun x => (⟨x.toArray⟩ : ByteArray)) ⟨#[32]⟩ w (fun j x hx => by
    rw [List.getElem?_map] at hx
    cases hj : xs[j]? with
    | none => rw [hj] at hx; cases hx
    | some y =>
      rw [hj] at hx
      simp at hx
      subst hx
      exact hc j y hj) hb (by rw [List.length_map]; omega) (by rw [List.length_map]; exact hn) (by rw [hm]; show (join xs [32]).length ≤ _; omega)
  rw [List.length_map, hm] at h
  have H : Hid (Calls Tryz.prog 62 #[.slice (some ⟨b, o, none⟩) xs.length c, .string ⟨#[32]⟩] w fun e w' => e = .returned (strV (join xs [32])) ∧ Below w.heap.size w w') := Lib.hid h
  obtain ⟨n, hn⟩ : ∃ n, xs.length = n := ⟨_, rfl⟩
  obtain ⟨J, hJ⟩ : ∃ J, join xs [32] = J := ⟨_, rfl⟩
  rw [hn, hJ] at H
  rw [hn, hJ]
  unfold strV at H ⊢
  clear h hc hm hn hJ
  go_enter Tryz.func61, Tryz.ntmps61
  go_wp2_with fail
  refine H.out.mono ?_
  rintro e w' ⟨rfl, hb1⟩
  have HB := Lib.hid hb1
  clear hb1
  go_wp2_with fail
  go_ret
  exact ⟨rfl, HB.out⟩
set_option linter.unusedSimpArgs false in
set_option maxRecDepth 100000 in
set_option maxHeartbeats 8000000 in
theorem line_3 (n m : Int) (va : Value) (w : World) (hK : KAt w) (h2 : 1 ≤ n) (h3 : n ≤ 1000000) (h5 : 1 ≤ m) (h6 : m ≤ 1000000) :
    Calls Tryz.prog 34 #[.agg #[.int .i64 3, .int .i64 n, .int .i64 m, .int .i64 0, va]] w fun e w' => e = .returned (strV (join [kReserve, pctL n.toNat, kFor, decDigits m.toNat] [32])) ∧ Below w.heap.size w w' := by
  obtain ⟨n, rfl⟩ := Int.eq_ofNat_of_zero_le (show 0 ≤ n by omega)
  obtain ⟨m, rfl⟩ := Int.eq_ofNat_of_zero_le (show 0 ≤ m by omega)
  have HPC : Hid (∀ W, KAt W → Calls Tryz.prog 63 #[.int .i64 (n : Int)] W fun e w' => e = .returned (strV (pctL n)) ∧ Below W.heap.size W w') := Lib.hid (fun W h => percent_any n W h (by omega))
  have HIT : Hid (∀ W, KAt W → Calls Tryz.prog 64 #[.int .i64 (m : Int)] W fun e w' => e = .returned (strV (decDigits m)) ∧ Below W.heap.size W w') := Lib.hid (fun W h => itoa_any m W h (by omega))
  have hr := RowAt.new w 28 #[.int .i64 3, .int .i64 (n : Int), .int .i64 (m : Int), .int .i64 0, va]
  have hbw : Below w.heap.size w (w.alloc (.cells #[.int .i64 3, .int .i64 (n : Int), .int .i64 (m : Int), .int .i64 0, va] 28)) := (Below.refl _ _).alloc (Nat.le_refl _) _
  have HKW : Hid (KAt (w.alloc (.cells #[.int .i64 3, .int .i64 (n : Int), .int .i64 (m : Int), .int .i64 0, va] 28)).drew) := Lib.hid ((hK.alloc _).mono (Below.refl _ _).drew)
  have HJL : Hid ((join [kReserve, pctL n, kFor, decDigits m] [32]).length ≤ 100000) := Lib.hid (by
    have a := (pct_len (n := n) (by omega)).1
    have b := dec_len 6 m (by omega)
    simp only [join2, join_one, List.length_append, List.length_cons]
    have : kReserve.length = 7 := rfl
    have : kFor.length = 3 := rfl
    omega)
  simp only [Int.toNat_natCast]
  obtain ⟨P1, hP1⟩ : ∃ z, pctL n = z := ⟨_, rfl⟩
  obtain ⟨D1, hD1⟩ : ∃ z, decDigits m = z := ⟨_, rfl⟩
  rw [hP1, hD1] at HJL
  rw [hP1] at HPC
  rw [hD1] at HIT
  rw [hP1, hD1]
  obtain ⟨J1, hJ1⟩ : ∃ z, join [kReserve, P1, kFor, D1] [32] = z := ⟨_, rfl⟩
  have HJ1 := Lib.hid hJ1
  rw [hJ1]
  clear hP1 hD1 hJ1
  obtain ⟨N, hN⟩ : ∃ z, w.heap.size = z := ⟨_, rfl⟩
  have h9 : 9 ≤ N := by rw [← hN]; exact hK.lt
  have HBW2 : Hid (N ≤ (w.alloc (.cells #[.int .i64 3, .int .i64 (n : Int), .int .i64 (m : Int), .int .i64 0, va] 28)).heap.size) := Lib.hid (by simp; omega)
  rw [hN] at hr hbw
  have HR := Lib.hid hr
  have HBW := Lib.hid hbw.drew
  have HNN := Lib.hid hN
  clear hr hbw hK h2 h3 h5 h6
  unfold strV at HPC HIT
  go_enter Tryz.func34, Tryz.ntmps34
  go_wp2_with fail
  clear hN
  refine wp_region_held_drew (S := fun W' => RowAt W' N 28 #[.int .i64 3, .int .i64 (n : Int), .int .i64 (m : Int), .int .i64 0, va]) (by kernel_rfl) HR.out.drew (fun hHeld => ?_)
  refine tk 0 (v := ?_) rfl (by kernel_rfl) (fun _ _ _ h => h) (by rfl) (by assumption) ?_ ?_
  rotate_left
  · intro w hSw
    go_simp
    all_goals with_reducible rfl
  simp only [Act.put, sa, s0, s1]
  refine tk 1 (v := ?_) rfl (by kernel_rfl) (fun _ _ _ h => h) (by rfl) (by assumption) ?_ ?_
  rotate_left
  · intro w hSw
    go_simp
    all_goals with_reducible rfl
  simp only [Act.put, sa, s0, s1]
  refine tk 2 (v := ?_) rfl (by kernel_rfl) (fun _ _ _ h => h) (by rfl) (by assumption) ?_ ?_
  rotate_left
  · intro w hSw
    have hc := hSw.cell 1
    simp only [sg, g1, g0] at hc
    go_simp
    all_goals with_reducible rfl
  simp only [Act.put, sa, s0, s1]
  refine tk 4 (v := ?_) rfl (by kernel_rfl) (fun _ _ _ h => h) (by rfl) (by assumption) ?_ ?_
  rotate_left
  · intro w hSw
    go_simp
    all_goals with_reducible rfl
  simp only [Act.put, sa, s0, s1]
  refine tk 5 (v := ?_) rfl (by kernel_rfl) (fun _ _ _ h => h) (by rfl) (by assumption) ?_ ?_
  rotate_left
  · intro w hSw
    have hc := hSw.cell 2
    simp only [sg, g1, g0] at hc
    go_simp
    all_goals with_reducible rfl
  simp only [Act.put, sa, s0, s1]
  refine rd 3 (by kernel_rfl) rfl fun K hK => ?_
  go_simp
  go_at_call 63
  refine (HPC.out _ HKW.out).mono ?_
  rintro e w1 ⟨rfl, hb1⟩
  have HR1 := Lib.hid (HR.out.drew.below hb1 HR.out.lt)
  have HB1 := Lib.hid (HBW.out.trans (hb1.mono HBW2.out))
  have HK1 := Lib.hid (HKW.out.mono hb1)
  clear hb1
  go_wp2_with fail
  refine hK.out _ _ HR1.out (fun hHeld => ?_)
  clear hK K
  try simp only [Act.put, sa, s0, s1]
  refine rd 6 (by kernel_rfl) rfl fun K hK => ?_
  go_simp
  go_at_call 64
  refine (HIT.out _ HK1.out).mono ?_
  rintro e w2 ⟨rfl, hb2⟩
  have HR2 := Lib.hid (HR1.out.below hb2 HR1.out.lt)
  have HB2 := Lib.hid (HB1.out.trans (hb2.mono (by have := HR1.out.lt; omega)))
  have HK2 := Lib.hid (HK1.out.mono hb2)
  clear hb2
  go_wp2_with fail
  refine hK.out _ _ HR2.out (fun hHeld => ?_)
  clear hK K
  try simp only [Act.put, sa, s0, s1]
  refine rd 7 (by kernel_rfl) rfl fun K hK => ?_
  go_simp
  refine hK.out _ _ (HR2.out.alloc _) (fun hHeld => ?_)
  clear hK K
  try simp only [Act.put, sa, s0, s1]
  have hr3 := RowAt.new w2 9 (partsC [kReserve, P1, kFor, D1])
  have HJ : Hid (Calls Tryz.prog 61 #[.slice (some ⟨w2.heap.size, 0, none⟩) 4 4] (w2.alloc (.cells (partsC [kReserve, P1, kFor, D1]) 9)) fun e w' => e = .returned (strV (join [kReserve, P1, kFor, D1] [32])) ∧ Below (w2.alloc (.cells (partsC [kReserve, P1, kFor, D1]) 9)).heap.size (w2.alloc (.cells (partsC [kReserve, P1, kFor, D1]) 9)) w') := Lib.hid (join_any w2.heap.size 0 4 [kReserve, P1, kFor, D1] _ (fun j x hx => by rw [Nat.zero_add]; exact parts_cell hr3 j x hx) hr3.lt (by simp) (by simp) HJL.out)
  have HR3 := Lib.hid (HR2.out.alloc (.cells (partsC [kReserve, P1, kFor, D1]) 9))
  have HB3 := Lib.hid (HB2.out.alloc (by have := HR2.out.lt; omega) (.cells (partsC [kReserve, P1, kFor, D1]) 9))
  have HK3 := Lib.hid (HK2.out.alloc (.cells (partsC [kReserve, P1, kFor, D1]) 9))
  clear hr3
  rw [HJ1.out] at HJ
  unfold strV kReserve kFor partsC strV at HJ
  refine rd 8 (by kernel_rfl) rfl fun K hK => ?_
  go_simp
  go_at_call 61
  refine HJ.out.mono ?_
  rintro e w4 ⟨rfl, hb4⟩
  have HR4 := Lib.hid (HR3.out.below hb4 HR3.out.lt)
  have HB4 := Lib.hid (HB3.out.trans (hb4.mono (by have := HR3.out.lt; simp at this ⊢; omega)))
  have HK4 := Lib.hid (HK3.out.mono hb4)
  clear hb4
  go_wp2_with fail
  refine hK.out _ _ HR4.out (fun hHeld => ?_)
  clear hK K
  try simp only [Act.put, sa, s0, s1]
  refine tk 9 (v := ?_) rfl (by kernel_rfl) (fun _ _ _ h => h) (by rfl) (by assumption) ?_ ?_
  rotate_left
  · intro w hSw
    go_simp
    all_goals with_reducible rfl
  simp only [Act.put, sa, s0, s1]
  refine wpAnyH_done (by kernel_rfl) ?_ _
  go_wp2_with fail
  go_ret
  exact ⟨rfl, by rw [HNN.out]; exact HB4.out⟩
set_option linter.unusedSimpArgs false in
set_option maxRecDepth 100000 in
set_option maxHeartbeats 8000000 in
theorem line_1 (n m : Int) (ab : Nat) (va : Value) (w : World) (hK : KAt w) (h2 : 1 ≤ n) (h3 : n ≤ 1000000) (h5 : 1 ≤ m) (h6 : m ≤ 1000000) (h7 : ab ≤ 1000000000000000) :
    Calls Tryz.prog 34 #[.agg #[.int .i64 1, .int .i64 n, .int .i64 m, .int .i64 (ab : Int), va]] w fun e w' => e = .returned (strV (join ([kPass, pctL n.toNat, kTo, decDigits m.toNat] ++ if 0 < ab then [kAbove, decDigits ab] else []) [32])) ∧ Below w.heap.size w w' := by
  obtain ⟨n, rfl⟩ := Int.eq_ofNat_of_zero_le (show 0 ≤ n by omega)
  obtain ⟨m, rfl⟩ := Int.eq_ofNat_of_zero_le (show 0 ≤ m by omega)
  have HPC : Hid (∀ W, KAt W → Calls Tryz.prog 63 #[.int .i64 (n : Int)] W fun e w' => e = .returned (strV (pctL n)) ∧ Below W.heap.size W w') := Lib.hid (fun W h => percent_any n W h (by omega))
  have HIT : Hid (∀ W, KAt W → Calls Tryz.prog 64 #[.int .i64 (m : Int)] W fun e w' => e = .returned (strV (decDigits m)) ∧ Below W.heap.size W w') := Lib.hid (fun W h => itoa_any m W h (by omega))
  have hr := RowAt.new w 28 #[.int .i64 1, .int .i64 (n : Int), .int .i64 (m : Int), .int .i64 (ab : Int), va]
  have hbw : Below w.heap.size w (w.alloc (.cells #[.int .i64 1, .int .i64 (n : Int), .int .i64 (m : Int), .int .i64 (ab : Int), va] 28)) := (Below.refl _ _).alloc (Nat.le_refl _) _
  have HKW : Hid (KAt (w.alloc (.cells #[.int .i64 1, .int .i64 (n : Int), .int .i64 (m : Int), .int .i64 (ab : Int), va] 28)).drew) := Lib.hid ((hK.alloc _).mono (Below.refl _ _).drew)
  have HJL : Hid ((join [kPass, pctL n, kTo, decDigits m] [32]).length ≤ 1000) := Lib.hid (by
    have a := (pct_len (n := n) (by omega)).1
    have b := dec_len 6 m (by omega)
    simp only [join2, join_one, List.length_append, List.length_cons]
    have : kPass.length = 4 := rfl
    have : kTo.length = 2 := rfl
    omega)
  have hlab : (decDigits ab).length ≤ 16 := dec_len 15 ab (by omega)
  simp only [Int.toNat_natCast]
  have HIA : Hid (∀ W, KAt W → Calls Tryz.prog 64 #[.int .i64 (ab : Int)] W fun e w' => e = .returned (strV (decDigits ab)) ∧ Below W.heap.size W w') := Lib.hid (fun W h => itoa_any ab W h (by omega))
  have hjj : join ([kPass, pctL n, kTo, decDigits m] ++ [kAbove, decDigits ab]) [32] = join [join [kPass, pctL n, kTo, decDigits m] [32], kAbove, decDigits ab] [32] := by
    simp only [List.cons_append, List.nil_append, join2, join_one, List.append_assoc, List.cons_append]
  obtain ⟨P1, hP1⟩ : ∃ z, pctL n = z := ⟨_, rfl⟩
  obtain ⟨D1, hD1⟩ : ∃ z, decDigits m = z := ⟨_, rfl⟩
  obtain ⟨D2, hD2⟩ : ∃ z, decDigits ab = z := ⟨_, rfl⟩
  rw [hP1, hD1] at HJL
  rw [hP1] at HPC
  rw [hD1] at HIT
  rw [hD2] at HIA hlab
  rw [hP1, hD1, hD2] at hjj
  rw [hP1, hD1, hD2]
  have HJL' := Lib.hid (show (join [kPass, P1, kTo, D1] [32]).length ≤ 100000 from by have := HJL.out; omega)
  have HJL2 : Hid ((join [join [kPass, P1, kTo, D1] [32], kAbove, D2] [32]).length ≤ 100000) := Lib.hid (by
    have := HJL.out
    simp only [join2 (join [kPass, P1, kTo, D1] [32]), join2 kAbove, join_one D2, List.length_append, List.length_cons]
    have : kAbove.length = 5 := rfl
    omega)
  obtain ⟨J1, hJ1⟩ : ∃ z, join [kPass, P1, kTo, D1] [32] = z := ⟨_, rfl⟩
  have HJ1 := Lib.hid hJ1
  rw [hJ1] at HJL2 hjj
  have HJJ := Lib.hid hjj
  clear hP1 hD1 hD2 hjj hlab hJ1
  unfold strV at HIA
  by_cases hab : 0 < ab
  · rw [if_pos hab, HJJ.out]
    have dab : decide (0 < ab) = true := by simpa using hab
    clear hab
    obtain ⟨N, hN⟩ : ∃ z, w.heap.size = z := ⟨_, rfl⟩
    have h9 : 9 ≤ N := by rw [← hN]; exact hK.lt
    have HBW2 : Hid (N ≤ (w.alloc (.cells #[.int .i64 1, .int .i64 (n : Int), .int .i64 (m : Int), .int .i64 (ab : Int), va] 28)).heap.size) := Lib.hid (by simp; omega)
    rw [hN] at hr hbw
    have HR := Lib.hid hr
    have HBW := Lib.hid hbw.drew
    have HNN := Lib.hid hN
    clear hr hbw hK h2 h3 h5 h6 h7
    unfold strV at HPC HIT
    go_enter Tryz.func34, Tryz.ntmps34
    go_wp2_with fail
    clear hN
    refine wp_region_held_drew (S := fun W' => RowAt W' N 28 #[.int .i64 1, .int .i64 (n : Int), .int .i64 (m : Int), .int .i64 (ab : Int), va]) (by kernel_rfl) HR.out.drew (fun hHeld => ?_)
    refine tk 0 (v := ?_) rfl (by kernel_rfl) (fun _ _ _ h => h) (by rfl) (by assumption) ?_ ?_
    rotate_left
    · intro w hSw
      go_simp
      all_goals with_reducible rfl
    simp only [Act.put, sa, s0, s1]
    refine tk 1 (v := ?_) rfl (by kernel_rfl) (fun _ _ _ h => h) (by rfl) (by assumption) ?_ ?_
    rotate_left
    · intro w hSw
      go_simp
      all_goals with_reducible rfl
    simp only [Act.put, sa, s0, s1]
    refine tk 2 (v := ?_) rfl (by kernel_rfl) (fun _ _ _ h => h) (by rfl) (by assumption) ?_ ?_
    rotate_left
    · intro w hSw
      have hc := hSw.cell 1
      simp only [sg, g1, g0] at hc
      go_simp
      all_goals with_reducible rfl
    simp only [Act.put, sa, s0, s1]
    refine tk 4 (v := ?_) rfl (by kernel_rfl) (fun _ _ _ h => h) (by rfl) (by assumption) ?_ ?_
    rotate_left
    · intro w hSw
      go_simp
      all_goals with_reducible rfl
    simp only [Act.put, sa, s0, s1]
    refine tk 5 (v := ?_) rfl (by kernel_rfl) (fun _ _ _ h => h) (by rfl) (by assumption) ?_ ?_
    rotate_left
    · intro w hSw
      have hc := hSw.cell 2
      simp only [sg, g1, g0] at hc
      go_simp
      all_goals with_reducible rfl
    simp only [Act.put, sa, s0, s1]
    refine rd 3 (by kernel_rfl) rfl fun K hK => ?_
    go_simp
    go_at_call 63
    refine (HPC.out _ HKW.out).mono ?_
    rintro e w1 ⟨rfl, hb1⟩
    have HR1 := Lib.hid (HR.out.drew.below hb1 HR.out.lt)
    have HB1 := Lib.hid (HBW.out.trans (hb1.mono HBW2.out))
    have HK1 := Lib.hid (HKW.out.mono hb1)
    clear hb1
    go_wp2_with fail
    refine hK.out _ _ HR1.out (fun hHeld => ?_)
    clear hK K
    try simp only [Act.put, sa, s0, s1]
    refine rd 6 (by kernel_rfl) rfl fun K hK => ?_
    go_simp
    go_at_call 64
    refine (HIT.out _ HK1.out).mono ?_
    rintro e w2 ⟨rfl, hb2⟩
    have HR2 := Lib.hid (HR1.out.below hb2 HR1.out.lt)
    have HB2 := Lib.hid (HB1.out.trans (hb2.mono (by have := HR1.out.lt; omega)))
    have HK2 := Lib.hid (HK1.out.mono hb2)
    clear hb2
    go_wp2_with fail
    refine hK.out _ _ HR2.out (fun hHeld => ?_)
    clear hK K
    try simp only [Act.put, sa, s0, s1]
    refine rd 7 (by kernel_rfl) rfl fun K hK => ?_
    go_simp
    refine hK.out _ _ (HR2.out.alloc _) (fun hHeld => ?_)
    clear hK K
    try simp only [Act.put, sa, s0, s1]
    have hr3 := RowAt.new w2 9 (partsC [kPass, P1, kTo, D1])
    have HJ : Hid (Calls Tryz.prog 61 #[.slice (some ⟨w2.heap.size, 0, none⟩) 4 4] (w2.alloc (.cells (partsC [kPass, P1, kTo, D1]) 9)) fun e w' => e = .returned (strV (join [kPass, P1, kTo, D1] [32])) ∧ Below (w2.alloc (.cells (partsC [kPass, P1, kTo, D1]) 9)).heap.size (w2.alloc (.cells (partsC [kPass, P1, kTo, D1]) 9)) w') := Lib.hid (join_any w2.heap.size 0 4 [kPass, P1, kTo, D1] _ (fun j x hx => by rw [Nat.zero_add]; exact parts_cell hr3 j x hx) hr3.lt (by simp) (by simp) HJL'.out)
    have HR3 := Lib.hid (HR2.out.alloc (.cells (partsC [kPass, P1, kTo, D1]) 9))
    have HB3 := Lib.hid (HB2.out.alloc (by have := HR2.out.lt; omega) (.cells (partsC [kPass, P1, kTo, D1]) 9))
    have HK3 := Lib.hid (HK2.out.alloc (.cells (partsC [kPass, P1, kTo, D1]) 9))
    clear hr3
    rw [HJ1.out] at HJ
    unfold strV kPass kTo partsC strV at HJ
    refine rd 8 (by kernel_rfl) rfl fun K hK => ?_
    go_simp
    go_at_call 61
    refine HJ.out.mono ?_
    rintro e w4 ⟨rfl, hb4⟩
    have HR4 := Lib.hid (HR3.out.below hb4 HR3.out.lt)
    have HB4 := Lib.hid (HB3.out.trans (hb4.mono (by have := HR3.out.lt; simp at this ⊢; omega)))
    have HK4 := Lib.hid (HK3.out.mono hb4)
    clear hb4
    go_wp2_with fail
    refine hK.out _ _ HR4.out (fun hHeld => ?_)
    clear hK K
    try simp only [Act.put, sa, s0, s1]
    refine tk 9 (v := ?_) rfl (by kernel_rfl) (fun _ _ _ h => h) (by rfl) (by assumption) ?_ ?_
    rotate_left
    · intro w hSw
      go_simp
      all_goals with_reducible rfl
    simp only [Act.put, sa, s0, s1]
    refine wpAnyH_done (by kernel_rfl) ?_ _
    have c43 : w4.cell? ⟨N, 3, none⟩ = some (.int .i64 (ab : Int)) := HR4.out.cell 3
    go_wp2_with fail
    refine (HIA.out _ HK4.out).mono ?_
    rintro e w5 ⟨rfl, hb5⟩
    have HB5 := Lib.hid (HB4.out.trans (hb5.mono (by have := HR4.out.lt; omega)))
    have hN5 : N < w5.heap.size := by have := hb5.size; have := HR4.out.lt; omega
    clear hb5 c43
    have hr2 := RowAt.new w5 9 (partsC [J1, kAbove, D2])
    have HJ2 : Hid (Calls Tryz.prog 61 #[.slice (some ⟨w5.heap.size, 0, none⟩) 3 3] (w5.alloc (.cells (partsC [J1, kAbove, D2]) 9)) fun e w' => e = .returned (strV (join [J1, kAbove, D2] [32])) ∧ Below (w5.alloc (.cells (partsC [J1, kAbove, D2]) 9)).heap.size (w5.alloc (.cells (partsC [J1, kAbove, D2]) 9)) w') := Lib.hid (join_any w5.heap.size 0 3 [J1, kAbove, D2] _ (fun j x hx => by rw [Nat.zero_add]; exact parts_cell hr2 j x hx) hr2.lt (by simp) (by simp) HJL2.out)
    have HB6 := Lib.hid (HB5.out.alloc (by omega) (.cells (partsC [J1, kAbove, D2]) 9))
    clear hr2
    unfold strV partsC strV kAbove at HJ2
    go_wp2_with fail
    refine HJ2.out.mono ?_
    rintro e w7 ⟨rfl, hb7⟩
    have HB7 := Lib.hid (HB6.out.trans (hb7.mono (by simp; omega)))
    clear hb7
    go_wp2_with fail
    go_ret
    exact ⟨rfl, by rw [HNN.out]; exact HB7.out⟩
  · rw [if_neg hab, List.append_nil, HJ1.out]
    obtain rfl : ab = 0 := by omega
    clear hab
    obtain ⟨N, hN⟩ : ∃ z, w.heap.size = z := ⟨_, rfl⟩
    have h9 : 9 ≤ N := by rw [← hN]; exact hK.lt
    have HBW2 : Hid (N ≤ (w.alloc (.cells #[.int .i64 1, .int .i64 (n : Int), .int .i64 (m : Int), .int .i64 ((0 : Nat) : Int), va] 28)).heap.size) := Lib.hid (by simp; omega)
    rw [hN] at hr hbw
    have HR := Lib.hid hr
    have HBW := Lib.hid hbw.drew
    have HNN := Lib.hid hN
    clear hr hbw hK h2 h3 h5 h6 h7
    unfold strV at HPC HIT
    go_enter Tryz.func34, Tryz.ntmps34
    go_wp2_with fail
    clear hN
    refine wp_region_held_drew (S := fun W' => RowAt W' N 28 #[.int .i64 1, .int .i64 (n : Int), .int .i64 (m : Int), .int .i64 ((0 : Nat) : Int), va]) (by kernel_rfl) HR.out.drew (fun hHeld => ?_)
    refine tk 0 (v := ?_) rfl (by kernel_rfl) (fun _ _ _ h => h) (by rfl) (by assumption) ?_ ?_
    rotate_left
    · intro w hSw
      go_simp
      all_goals with_reducible rfl
    simp only [Act.put, sa, s0, s1]
    refine tk 1 (v := ?_) rfl (by kernel_rfl) (fun _ _ _ h => h) (by rfl) (by assumption) ?_ ?_
    rotate_left
    · intro w hSw
      go_simp
      all_goals with_reducible rfl
    simp only [Act.put, sa, s0, s1]
    refine tk 2 (v := ?_) rfl (by kernel_rfl) (fun _ _ _ h => h) (by rfl) (by assumption) ?_ ?_
    rotate_left
    · intro w hSw
      have hc := hSw.cell 1
      simp only [sg, g1, g0] at hc
      go_simp
      all_goals with_reducible rfl
    simp only [Act.put, sa, s0, s1]
    refine tk 4 (v := ?_) rfl (by kernel_rfl) (fun _ _ _ h => h) (by rfl) (by assumption) ?_ ?_
    rotate_left
    · intro w hSw
      go_simp
      all_goals with_reducible rfl
    simp only [Act.put, sa, s0, s1]
    refine tk 5 (v := ?_) rfl (by kernel_rfl) (fun _ _ _ h => h) (by rfl) (by assumption) ?_ ?_
    rotate_left
    · intro w hSw
      have hc := hSw.cell 2
      simp only [sg, g1, g0] at hc
      go_simp
      all_goals with_reducible rfl
    simp only [Act.put, sa, s0, s1]
    refine rd 3 (by kernel_rfl) rfl fun K hK => ?_
    go_simp
    go_at_call 63
    refine (HPC.out _ HKW.out).mono ?_
    rintro e w1 ⟨rfl, hb1⟩
    have HR1 := Lib.hid (HR.out.drew.below hb1 HR.out.lt)
    have HB1 := Lib.hid (HBW.out.trans (hb1.mono HBW2.out))
    have HK1 := Lib.hid (HKW.out.mono hb1)
    clear hb1
    go_wp2_with fail
    refine hK.out _ _ HR1.out (fun hHeld => ?_)
    clear hK K
    try simp only [Act.put, sa, s0, s1]
    refine rd 6 (by kernel_rfl) rfl fun K hK => ?_
    go_simp
    go_at_call 64
    refine (HIT.out _ HK1.out).mono ?_
    rintro e w2 ⟨rfl, hb2⟩
    have HR2 := Lib.hid (HR1.out.below hb2 HR1.out.lt)
    have HB2 := Lib.hid (HB1.out.trans (hb2.mono (by have := HR1.out.lt; omega)))
    have HK2 := Lib.hid (HK1.out.mono hb2)
    clear hb2
    go_wp2_with fail
    refine hK.out _ _ HR2.out (fun hHeld => ?_)
    clear hK K
    try simp only [Act.put, sa, s0, s1]
    refine rd 7 (by kernel_rfl) rfl fun K hK => ?_
    go_simp
    refine hK.out _ _ (HR2.out.alloc _) (fun hHeld => ?_)
    clear hK K
    try simp only [Act.put, sa, s0, s1]
    have hr3 := RowAt.new w2 9 (partsC [kPass, P1, kTo, D1])
    have HJ : Hid (Calls Tryz.prog 61 #[.slice (some ⟨w2.heap.size, 0, none⟩) 4 4] (w2.alloc (.cells (partsC [kPass, P1, kTo, D1]) 9)) fun e w' => e = .returned (strV (join [kPass, P1, kTo, D1] [32])) ∧ Below (w2.alloc (.cells (partsC [kPass, P1, kTo, D1]) 9)).heap.size (w2.alloc (.cells (partsC [kPass, P1, kTo, D1]) 9)) w') := Lib.hid (join_any w2.heap.size 0 4 [kPass, P1, kTo, D1] _ (fun j x hx => by rw [Nat.zero_add]; exact parts_cell hr3 j x hx) hr3.lt (by simp) (by simp) HJL'.out)
    have HR3 := Lib.hid (HR2.out.alloc (.cells (partsC [kPass, P1, kTo, D1]) 9))
    have HB3 := Lib.hid (HB2.out.alloc (by have := HR2.out.lt; omega) (.cells (partsC [kPass, P1, kTo, D1]) 9))
    have HK3 := Lib.hid (HK2.out.alloc (.cells (partsC [kPass, P1, kTo, D1]) 9))
    clear hr3
    rw [HJ1.out] at HJ
    unfold strV kPass kTo partsC strV at HJ
    refine rd 8 (by kernel_rfl) rfl fun K hK => ?_
    go_simp
    go_at_call 61
    refine HJ.out.mono ?_
    rintro e w4 ⟨rfl, hb4⟩
    have HR4 := Lib.hid (HR3.out.below hb4 HR3.out.lt)
    have HB4 := Lib.hid (HB3.out.trans (hb4.mono (by have := HR3.out.lt; simp at this ⊢; omega)))
    have HK4 := Lib.hid (HK3.out.mono hb4)
    clear hb4
    go_wp2_with fail
    refine hK.out _ _ HR4.out (fun hHeld => ?_)
    clear hK K
    try simp only [Act.put, sa, s0, s1]
    refine tk 9 (v := ?_) rfl (by kernel_rfl) (fun _ _ _ h => h) (by rfl) (by assumption) ?_ ?_
    rotate_left
    · intro w hSw
      go_simp
      all_goals with_reducible rfl
    simp only [Act.put, sa, s0, s1]
    refine wpAnyH_done (by kernel_rfl) ?_ _
    have c43 : w4.cell? ⟨N, 3, none⟩ = some (.int .i64 0) := HR4.out.cell 3
    go_wp2_with fail
    go_ret
    exact ⟨rfl, by rw [HNN.out]; exact HB4.out⟩
set_option linter.unusedSimpArgs false in
set_option maxRecDepth 100000 in
set_option maxHeartbeats 8000000 in
theorem line_2 (n : Nat) (va : Value) (w : World) (hK : KAt w) (h3 : n ≤ 1000000) :
    Calls Tryz.prog 34 #[.agg #[.int .i64 2, .int .i64 (n : Int), .int .i64 0, .int .i64 0, va]] w fun e w' => e = .returned (strV (join [kTax, pctL n] [32])) ∧ Below w.heap.size w w' := by
  have HPC : Hid (∀ W, KAt W → Calls Tryz.prog 63 #[.int .i64 (n : Int)] W fun e w' => e = .returned (strV (pctL n)) ∧ Below W.heap.size W w') := Lib.hid (fun W h => percent_any n W h (by omega))
  have HJL2 : Hid ((join [kTax, pctL n] [32]).length ≤ 100000) := Lib.hid (by
    have a := (pct_len (n := n) (by omega)).1
    simp only [join2, join_one, List.length_append, List.length_cons]
    have : kTax.length = 3 := rfl
    omega)
  obtain ⟨P1, hP1⟩ : ∃ z, pctL n = z := ⟨_, rfl⟩
  rw [hP1] at HJL2 HPC
  rw [hP1]
  have hr := RowAt.new w 28 #[.int .i64 2, .int .i64 (n : Int), .int .i64 0, .int .i64 0, va]
  have hbw : Below w.heap.size w (w.alloc (.cells #[.int .i64 2, .int .i64 (n : Int), .int .i64 0, .int .i64 0, va] 28)) := (Below.refl _ _).alloc (Nat.le_refl _) _
  have HKW := Lib.hid (hK.alloc (.cells #[.int .i64 2, .int .i64 (n : Int), .int .i64 0, .int .i64 0, va] 28))
  have HBW := Lib.hid hbw
  clear hP1 hr hbw hK h3
  unfold strV at HPC
  go_enter Tryz.func34, Tryz.ntmps34
  go_wp2_with fail
  refine (HPC.out _ HKW.out).mono ?_
  rintro e w1 ⟨rfl, hb1⟩
  have HB1 := Lib.hid (HBW.out.trans (hb1.mono HBW.out.size))
  have hs1 : w.heap.size ≤ w1.heap.size := by have := hb1.size; simp at this; omega
  clear hb1
  have hr2 := RowAt.new w1 9 (partsC [kTax, P1])
  have HJ2 : Hid (Calls Tryz.prog 61 #[.slice (some ⟨w1.heap.size, 0, none⟩) 2 2] (w1.alloc (.cells (partsC [kTax, P1]) 9)) fun e w' => e = .returned (strV (join [kTax, P1] [32])) ∧ Below (w1.alloc (.cells (partsC [kTax, P1]) 9)).heap.size (w1.alloc (.cells (partsC [kTax, P1]) 9)) w') := Lib.hid (join_any w1.heap.size 0 2 [kTax, P1] _ (fun j x hx => by rw [Nat.zero_add]; exact parts_cell hr2 j x hx) hr2.lt (by simp) (by simp) HJL2.out)
  have HB6 := Lib.hid (HB1.out.alloc hs1 (.cells (partsC [kTax, P1]) 9))
  clear hr2
  unfold strV partsC strV kTax at HJ2
  go_wp2_with fail
  refine HJ2.out.mono ?_
  rintro e w7 ⟨rfl, hb7⟩
  have HB7 := Lib.hid (HB6.out.trans (hb7.mono (by simp; omega)))
  clear hb7
  go_wp2_with fail
  go_ret
  exact ⟨rfl, HB7.out⟩
set_option linter.unusedSimpArgs false in
set_option maxRecDepth 100000 in
set_option maxHeartbeats 8000000 in
theorem line_4 (n : Nat) (va : Value) (w : World) (hK : KAt w) (h3 : n ≤ 1000000000000000) :
    Calls Tryz.prog 34 #[.agg #[.int .i64 4, .int .i64 (n : Int), .int .i64 0, .int .i64 0, va]] w fun e w' => e = .returned (strV (join [kCap, decDigits n] [32])) ∧ Below w.heap.size w w' := by
  have HPC : Hid (∀ W, KAt W → Calls Tryz.prog 64 #[.int .i64 (n : Int)] W fun e w' => e = .returned (strV (decDigits n)) ∧ Below W.heap.size W w') := Lib.hid (fun W h => itoa_any n W h (by omega))
  have HJL2 : Hid ((join [kCap, decDigits n] [32]).length ≤ 100000) := Lib.hid (by
    have b := dec_len 15 n (by omega)
    simp only [join2, join_one, List.length_append, List.length_cons]
    have : kCap.length = 3 := rfl
    omega)
  obtain ⟨P1, hP1⟩ : ∃ z, decDigits n = z := ⟨_, rfl⟩
  rw [hP1] at HJL2 HPC
  rw [hP1]
  have hr := RowAt.new w 28 #[.int .i64 4, .int .i64 (n : Int), .int .i64 0, .int .i64 0, va]
  have hbw : Below w.heap.size w (w.alloc (.cells #[.int .i64 4, .int .i64 (n : Int), .int .i64 0, .int .i64 0, va] 28)) := (Below.refl _ _).alloc (Nat.le_refl _) _
  have HKW := Lib.hid (hK.alloc (.cells #[.int .i64 4, .int .i64 (n : Int), .int .i64 0, .int .i64 0, va] 28))
  have HBW := Lib.hid hbw
  clear hP1 hr hbw hK h3
  unfold strV at HPC
  go_enter Tryz.func34, Tryz.ntmps34
  go_wp2_with fail
  refine (HPC.out _ HKW.out).mono ?_
  rintro e w1 ⟨rfl, hb1⟩
  have HB1 := Lib.hid (HBW.out.trans (hb1.mono HBW.out.size))
  have hs1 : w.heap.size ≤ w1.heap.size := by have := hb1.size; simp at this; omega
  clear hb1
  have hr2 := RowAt.new w1 9 (partsC [kCap, P1])
  have HJ2 : Hid (Calls Tryz.prog 61 #[.slice (some ⟨w1.heap.size, 0, none⟩) 2 2] (w1.alloc (.cells (partsC [kCap, P1]) 9)) fun e w' => e = .returned (strV (join [kCap, P1] [32])) ∧ Below (w1.alloc (.cells (partsC [kCap, P1]) 9)).heap.size (w1.alloc (.cells (partsC [kCap, P1]) 9)) w') := Lib.hid (join_any w1.heap.size 0 2 [kCap, P1] _ (fun j x hx => by rw [Nat.zero_add]; exact parts_cell hr2 j x hx) hr2.lt (by simp) (by simp) HJL2.out)
  have HB6 := Lib.hid (HB1.out.alloc hs1 (.cells (partsC [kCap, P1]) 9))
  clear hr2
  unfold strV partsC strV kCap at HJ2
  go_wp2_with fail
  refine HJ2.out.mono ?_
  rintro e w7 ⟨rfl, hb7⟩
  have HB7 := Lib.hid (HB6.out.trans (hb7.mono (by simp; omega)))
  clear hb7
  go_wp2_with fail
  go_ret
  exact ⟨rfl, HB7.out⟩
end Go.Proofs.YtfiabonacpepnaaGreatDoor
