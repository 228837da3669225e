/- royaltyref05.fields, kind by kind (printed by gen_rf.py). -/
import Derived.Test.YtgjajhopjcdflaaGreatRfA
import Derived.BigRegion
import Derived.Deep.RegionHeld3
namespace Go.Proofs.YtgjajhopjcdflaaGreat
open Go Go.RowKit Go.Lib Go.Shelf Go.Maps

set_option linter.unusedSimpArgs false in
set_option maxRecDepth 100000 in
set_option maxHeartbeats 20000000 in
theorem rfields_1_p4 (x1 x2 x3 x4 x5 x6 x7 x8 x9 x10 x11 x12 x13 x14 x15 x16 : Int) (t : ByteArray) (w : World) (e0 : inB x1 1 1000000 = true) (e1 : inB x5 1 1000000 = true) (e2 : inB x6 1 1000000 = true) (e3 : inB x7 1 1000000 = true) (e4 : inB x8 0 7 = false) :
    Calls Tryz.prog 58 #[.agg #[.int .i64 1, .int .i64 x1, .int .i64 x2, .int .i64 x3, .int .i64 x4, .int .i64 x5, .int .i64 x6, .int .i64 x7, .int .i64 x8, .int .i64 x9, .int .i64 x10, .int .i64 x11, .int .i64 x12, .int .i64 x13, .int .i64 x14, .int .i64 x15, .int .i64 x16, .string t]] w fun e w' => e = .returned (.tuple #[.agg #[.int .i64 1, .int .i64 x1, .int .i64 x2, .int .i64 0, .int .i64 x4, .int .i64 x5, .int .i64 x6, .int .i64 x7, .int .i64 x8, .int .i64 0, .int .i64 0, .int .i64 0, .int .i64 0, .int .i64 x13, .int .i64 0, .int .i64 0, .int .i64 x16, .string ⟨#[]⟩], .bool false]) ∧ Below w.heap.size w w' := by
  have C0 := Lib.hid (rid_any x1)
  simp only [e0] at C0
  clear e0
  have C1 := Lib.hid (rid_any x5)
  simp only [e1] at C1
  clear e1
  have C2 := Lib.hid (rid_any x6)
  simp only [e2] at C2
  clear e2
  have C3 := Lib.hid (rid_any x7)
  simp only [e3] at C3
  clear e3
  have C4 := Lib.hid (rterr_any x8)
  simp only [e4] at C4
  clear e4
  go_enter Tryz.func58, Tryz.ntmps58
  go_wp2_with fail
  go_region
  as_aux_lemma =>
  go_wp2_with fail
  go_region
  as_aux_lemma =>
  go_wp2_with fail
  refine start_f #[.int .i64 1, .int .i64 x1, .int .i64 x2, .int .i64 x3, .int .i64 x4, .int .i64 x5, .int .i64 x6, .int .i64 x7, .int .i64 x8, .int .i64 x9, .int .i64 x10, .int .i64 x11, .int .i64 x12, .int .i64 x13, .int .i64 x14, .int .i64 x15, .int .i64 x16, .string t] #[.int .i64 0, .int .i64 0, .int .i64 0, .int .i64 0, .int .i64 0, .int .i64 0, .int .i64 0, .int .i64 0, .int .i64 0, .int .i64 0, .int .i64 0, .int .i64 0, .int .i64 0, .int .i64 0, .int .i64 0, .int .i64 0, .int .i64 0, .string ⟨#[]⟩] #[.int .i64 1, .int .i64 x1, .int .i64 x2, .int .i64 0, .int .i64 x4, .int .i64 x5, .int .i64 x6, .int .i64 x7, .int .i64 x8, .int .i64 0, .int .i64 0, .int .i64 0, .int .i64 0, .int .i64 x13, .int .i64 0, .int .i64 0, .int .i64 x16, .string ⟨#[]⟩] w (by kernel_rfl) (by first | exact .inl rfl | exact .inr rfl) fun W HS HZ HB hHeld => ?_
  refine wpAnyH_take (i := 0) (oi := ⟨_, _, _, _, _, _⟩) rfl (by kernel_rfl) (by kernel_rfl) (by kernel_rfl) (fun _ _ _ h => h) (yields_row 34 (.tmp 4) (w.heap.size + 2) _ _ (fun w h => h.2) Tryz.underlying34 (by rfl) rfl rfl rfl fact_size) (by assumption) ?_
  simp only [Act.put, sa, s0, s1]
  refine tk_ 1 (v := ?_) rfl ?_ ?_
  rotate_left
  · intro w hSw; go_simp; all_goals with_reducible rfl
  simp only [Act.put, sa, s0, s1]
  refine tk_ 2 (v := ?_) rfl ?_ ?_
  rotate_left
  · intro w hSw
    have hc := hSw.1.cell 1
    simp only [sg, g1, g0] at hc
    go_simp
    all_goals with_reducible rfl
  simp only [Act.put, sa, s0, s1]
  refine rd 3 (by kernel_rfl) rfl fun K hK => ?_
  go_simp
  go_at_call 100
  refine (C0.out _).mono ?_
  rintro e w' ⟨rfl, rfl⟩
  go_wp2_with fail
  refine hK.out _ _ (by assumption) (fun hHeld => ?_)
  clear hK K
  try simp only [Act.put, sa, s0, s1]
  refine tk_ 4 (v := ?_) rfl ?_ ?_
  rotate_left
  · intro w hSw; go_simp; all_goals with_reducible rfl
  simp only [Act.put, sa, s0, s1]
  refine tk_ 5 (v := ?_) rfl ?_ ?_
  rotate_left
  · intro w hSw; go_simp; all_goals with_reducible rfl
  simp only [Act.put, sa, s0, s1]
  as_aux_lemma =>
  refine tk_ 6 (v := ?_) rfl ?_ ?_
  rotate_left
  · intro w hSw
    have hc := hSw.1.cell 5
    simp only [sg, g1, g0] at hc
    go_simp
    all_goals with_reducible rfl
  simp only [Act.put, sa, s0, s1]
  refine rd 7 (by kernel_rfl) rfl fun K hK => ?_
  go_simp
  go_at_call 100
  refine (C1.out _).mono ?_
  rintro e w' ⟨rfl, rfl⟩
  go_wp2_with fail
  refine hK.out _ _ (by assumption) (fun hHeld => ?_)
  clear hK K
  try simp only [Act.put, sa, s0, s1]
  refine tk_ 8 (v := ?_) rfl ?_ ?_
  rotate_left
  · intro w hSw; go_simp; all_goals with_reducible rfl
  simp only [Act.put, sa, s0, s1]
  refine tk_ 9 (v := ?_) rfl ?_ ?_
  rotate_left
  · intro w hSw; go_simp; all_goals with_reducible rfl
  simp only [Act.put, sa, s0, s1]
  refine tk_ 10 (v := ?_) rfl ?_ ?_
  rotate_left
  · intro w hSw; go_simp; all_goals with_reducible rfl
  simp only [Act.put, sa, s0, s1]
  refine tk_ 11 (v := ?_) rfl ?_ ?_
  rotate_left
  · intro w hSw
    have hc := hSw.1.cell 6
    simp only [sg, g1, g0] at hc
    go_simp
    all_goals with_reducible rfl
  simp only [Act.put, sa, s0, s1]
  as_aux_lemma =>
  refine rd 12 (by kernel_rfl) rfl fun K hK => ?_
  go_simp
  go_at_call 100
  refine (C2.out _).mono ?_
  rintro e w' ⟨rfl, rfl⟩
  go_wp2_with fail
  refine hK.out _ _ (by assumption) (fun hHeld => ?_)
  clear hK K
  try simp only [Act.put, sa, s0, s1]
  refine tk_ 13 (v := ?_) rfl ?_ ?_
  rotate_left
  · intro w hSw; go_simp; all_goals with_reducible rfl
  simp only [Act.put, sa, s0, s1]
  refine tk_ 14 (v := ?_) rfl ?_ ?_
  rotate_left
  · intro w hSw; go_simp; all_goals with_reducible rfl
  simp only [Act.put, sa, s0, s1]
  refine tk_ 15 (v := ?_) rfl ?_ ?_
  rotate_left
  · intro w hSw; go_simp; all_goals with_reducible rfl
  simp only [Act.put, sa, s0, s1]
  refine tk_ 16 (v := ?_) rfl ?_ ?_
  rotate_left
  · intro w hSw
    have hc := hSw.1.cell 7
    simp only [sg, g1, g0] at hc
    go_simp
    all_goals with_reducible rfl
  simp only [Act.put, sa, s0, s1]
  refine rd 17 (by kernel_rfl) rfl fun K hK => ?_
  go_simp
  go_at_call 100
  refine (C3.out _).mono ?_
  rintro e w' ⟨rfl, rfl⟩
  go_wp2_with fail
  refine hK.out _ _ (by assumption) (fun hHeld => ?_)
  clear hK K
  try simp only [Act.put, sa, s0, s1]
  as_aux_lemma =>
  refine tk_ 18 (v := ?_) rfl ?_ ?_
  rotate_left
  · intro w hSw; go_simp; all_goals with_reducible rfl
  simp only [Act.put, sa, s0, s1]
  refine tk_ 19 (v := ?_) rfl ?_ ?_
  rotate_left
  · intro w hSw; go_simp; all_goals with_reducible rfl
  simp only [Act.put, sa, s0, s1]
  refine tk_ 20 (v := ?_) rfl ?_ ?_
  rotate_left
  · intro w hSw; go_simp; all_goals with_reducible rfl
  simp only [Act.put, sa, s0, s1]
  refine tk_ 21 (v := ?_) rfl ?_ ?_
  rotate_left
  · intro w hSw
    have hc := hSw.1.cell 8
    simp only [sg, g1, g0] at hc
    go_simp
    all_goals with_reducible rfl
  simp only [Act.put, sa, s0, s1]
  refine rd 22 (by kernel_rfl) rfl fun K hK => ?_
  go_simp
  go_at_call 101
  refine (C4.out _).mono ?_
  rintro e w' ⟨rfl, rfl⟩
  go_wp2_with fail
  refine hK.out _ _ (by assumption) (fun hHeld => ?_)
  clear hK K
  try simp only [Act.put, sa, s0, s1]
  refine tk_ 23 (v := ?_) rfl ?_ ?_
  rotate_left
  · intro w hSw; go_simp; all_goals with_reducible rfl
  simp only [Act.put, sa, s0, s1]
  as_aux_lemma =>
  refine tk_ 24 (v := ?_) rfl ?_ ?_
  rotate_left
  · intro w hSw; go_simp; all_goals with_reducible rfl
  simp only [Act.put, sa, s0, s1]
  refine tu 25 rfl (by kernel_rfl) (fun _ _ _ h => h) (by rfl) (by assumption) ?_
  simp only [Act.put, sa, s0, s1]
  refine tu 26 rfl (by kernel_rfl) (fun _ _ _ h => h) (by rfl) (by assumption) ?_
  simp only [Act.put, sa, s0, s1]
  refine tu 27 rfl (by kernel_rfl) (fun _ _ _ h => h) (by rfl) (by assumption) ?_
  simp only [Act.put, sa, s0, s1]
  refine tk_ 28 (v := ?_) rfl ?_ ?_
  rotate_left
  · intro w hSw; go_simp; all_goals with_reducible rfl
  simp only [Act.put, sa, s0, s1]
  refine tk_ 29 (v := ?_) rfl ?_ ?_
  rotate_left
  · intro w hSw; go_simp; all_goals with_reducible rfl
  simp only [Act.put, sa, s0, s1]
  as_aux_lemma =>
  refine tu 30 rfl (by kernel_rfl) (fun _ _ _ h => h) (by rfl) (by assumption) ?_
  simp only [Act.put, sa, s0, s1]
  refine tu 31 rfl (by kernel_rfl) (fun _ _ _ h => h) (by rfl) (by assumption) ?_
  simp only [Act.put, sa, s0, s1]
  refine tu 32 rfl (by kernel_rfl) (fun _ _ _ h => h) (by rfl) (by assumption) ?_
  simp only [Act.put, sa, s0, s1]
  refine tk_ 33 (v := ?_) rfl ?_ ?_
  rotate_left
  · intro w hSw; go_simp; all_goals with_reducible rfl
  simp only [Act.put, sa, s0, s1]
  refine tk_ 34 (v := ?_) rfl ?_ ?_
  rotate_left
  · intro w hSw; go_simp; all_goals with_reducible rfl
  simp only [Act.put, sa, s0, s1]
  refine tu 35 rfl (by kernel_rfl) (fun _ _ _ h => h) (by rfl) (by assumption) ?_
  simp only [Act.put, sa, s0, s1]
  as_aux_lemma =>
  refine tu 36 rfl (by kernel_rfl) (fun _ _ _ h => h) (by rfl) (by assumption) ?_
  simp only [Act.put, sa, s0, s1]
  refine tu 37 rfl (by kernel_rfl) (fun _ _ _ h => h) (by rfl) (by assumption) ?_
  simp only [Act.put, sa, s0, s1]
  refine tk_ 38 (v := ?_) rfl ?_ ?_
  rotate_left
  · intro w hSw; go_simp; all_goals with_reducible rfl
  simp only [Act.put, sa, s0, s1]
  refine rd 39 (by kernel_rfl) rfl fun K hK => ?_
  rw [if_pos (by rfl)]
  refine wp_store_row _ _ _ rfl (w.heap.size + 1) _ rfl rfl _ _ HZ.out fact_size rfl (by simp [Value.oneCell']) ?_
  refine hK.out _ _ (keep2 HS (by omega) (by omega)) (fun hHeld => ?_)
  clear hK K
  simp only [Act.put, sa, s0, s1]
  refine tk_ 40 (v := ?_) rfl ?_ ?_
  rotate_left
  · intro w hSw; go_simp; all_goals with_reducible rfl
  simp only [Act.put, sa, s0, s1]
  refine wpAnyH_done (by kernel_rfl) ?_ _
  go_wp2_with fail
  exact bodyPost_ret (results_cell_tmp rfl _ _ _ _ _ _ _ rfl (setRow_at HZ.out) Tryz.underlying34 rfl fact_size) rfl ⟨by rfl, below_setR (B := w.heap.size) HB.out (by omega)⟩
set_option linter.unusedSimpArgs false in
set_option maxRecDepth 100000 in
set_option maxHeartbeats 20000000 in
theorem rfields_1_p5 (x1 x2 x3 x4 x5 x6 x7 x8 x9 x10 x11 x12 x13 x14 x15 x16 : Int) (t : ByteArray) (w : World) (e0 : inB x1 1 1000000 = true) (e1 : inB x5 1 1000000 = true) (e2 : inB x6 1 1000000 = true) (e3 : inB x7 1 1000000 = true) (e4 : inB x8 0 7 = true) (e5 : inB x4 0 3155759999 = false) :
    Calls Tryz.prog 58 #[.agg #[.int .i64 1, .int .i64 x1, .int .i64 x2, .int .i64 x3, .int .i64 x4, .int .i64 x5, .int .i64 x6, .int .i64 x7, .int .i64 x8, .int .i64 x9, .int .i64 x10, .int .i64 x11, .int .i64 x12, .int .i64 x13, .int .i64 x14, .int .i64 x15, .int .i64 x16, .string t]] w fun e w' => e = .returned (.tuple #[.agg #[.int .i64 1, .int .i64 x1, .int .i64 x2, .int .i64 0, .int .i64 x4, .int .i64 x5, .int .i64 x6, .int .i64 x7, .int .i64 x8, .int .i64 0, .int .i64 0, .int .i64 0, .int .i64 0, .int .i64 x13, .int .i64 0, .int .i64 0, .int .i64 x16, .string ⟨#[]⟩], .bool false]) ∧ Below w.heap.size w w' := by
  have C0 := Lib.hid (rid_any x1)
  simp only [e0] at C0
  clear e0
  have C1 := Lib.hid (rid_any x5)
  simp only [e1] at C1
  clear e1
  have C2 := Lib.hid (rid_any x6)
  simp only [e2] at C2
  clear e2
  have C3 := Lib.hid (rid_any x7)
  simp only [e3] at C3
  clear e3
  have C4 := Lib.hid (rterr_any x8)
  simp only [e4] at C4
  clear e4
  have C5 := Lib.hid (rwithin_any x4 0 3155759999)
  simp only [e5] at C5
  clear e5
  go_enter Tryz.func58, Tryz.ntmps58
  go_wp2_with fail
  go_region
  as_aux_lemma =>
  go_wp2_with fail
  go_region
  as_aux_lemma =>
  go_wp2_with fail
  refine start_f #[.int .i64 1, .int .i64 x1, .int .i64 x2, .int .i64 x3, .int .i64 x4, .int .i64 x5, .int .i64 x6, .int .i64 x7, .int .i64 x8, .int .i64 x9, .int .i64 x10, .int .i64 x11, .int .i64 x12, .int .i64 x13, .int .i64 x14, .int .i64 x15, .int .i64 x16, .string t] #[.int .i64 0, .int .i64 0, .int .i64 0, .int .i64 0, .int .i64 0, .int .i64 0, .int .i64 0, .int .i64 0, .int .i64 0, .int .i64 0, .int .i64 0, .int .i64 0, .int .i64 0, .int .i64 0, .int .i64 0, .int .i64 0, .int .i64 0, .string ⟨#[]⟩] #[.int .i64 1, .int .i64 x1, .int .i64 x2, .int .i64 0, .int .i64 x4, .int .i64 x5, .int .i64 x6, .int .i64 x7, .int .i64 x8, .int .i64 0, .int .i64 0, .int .i64 0, .int .i64 0, .int .i64 x13, .int .i64 0, .int .i64 0, .int .i64 x16, .string ⟨#[]⟩] w (by kernel_rfl) (by first | exact .inl rfl | exact .inr rfl) fun W HS HZ HB hHeld => ?_
  refine wpAnyH_take (i := 0) (oi := ⟨_, _, _, _, _, _⟩) rfl (by kernel_rfl) (by kernel_rfl) (by kernel_rfl) (fun _ _ _ h => h) (yields_row 34 (.tmp 4) (w.heap.size + 2) _ _ (fun w h => h.2) Tryz.underlying34 (by rfl) rfl rfl rfl fact_size) (by assumption) ?_
  simp only [Act.put, sa, s0, s1]
  refine tk_ 1 (v := ?_) rfl ?_ ?_
  rotate_left
  · intro w hSw; go_simp; all_goals with_reducible rfl
  simp only [Act.put, sa, s0, s1]
  refine tk_ 2 (v := ?_) rfl ?_ ?_
  rotate_left
  · intro w hSw
    have hc := hSw.1.cell 1
    simp only [sg, g1, g0] at hc
    go_simp
    all_goals with_reducible rfl
  simp only [Act.put, sa, s0, s1]
  refine rd 3 (by kernel_rfl) rfl fun K hK => ?_
  go_simp
  go_at_call 100
  refine (C0.out _).mono ?_
  rintro e w' ⟨rfl, rfl⟩
  go_wp2_with fail
  refine hK.out _ _ (by assumption) (fun hHeld => ?_)
  clear hK K
  try simp only [Act.put, sa, s0, s1]
  refine tk_ 4 (v := ?_) rfl ?_ ?_
  rotate_left
  · intro w hSw; go_simp; all_goals with_reducible rfl
  simp only [Act.put, sa, s0, s1]
  refine tk_ 5 (v := ?_) rfl ?_ ?_
  rotate_left
  · intro w hSw; go_simp; all_goals with_reducible rfl
  simp only [Act.put, sa, s0, s1]
  as_aux_lemma =>
  refine tk_ 6 (v := ?_) rfl ?_ ?_
  rotate_left
  · intro w hSw
    have hc := hSw.1.cell 5
    simp only [sg, g1, g0] at hc
    go_simp
    all_goals with_reducible rfl
  simp only [Act.put, sa, s0, s1]
  refine rd 7 (by kernel_rfl) rfl fun K hK => ?_
  go_simp
  go_at_call 100
  refine (C1.out _).mono ?_
  rintro e w' ⟨rfl, rfl⟩
  go_wp2_with fail
  refine hK.out _ _ (by assumption) (fun hHeld => ?_)
  clear hK K
  try simp only [Act.put, sa, s0, s1]
  refine tk_ 8 (v := ?_) rfl ?_ ?_
  rotate_left
  · intro w hSw; go_simp; all_goals with_reducible rfl
  simp only [Act.put, sa, s0, s1]
  refine tk_ 9 (v := ?_) rfl ?_ ?_
  rotate_left
  · intro w hSw; go_simp; all_goals with_reducible rfl
  simp only [Act.put, sa, s0, s1]
  refine tk_ 10 (v := ?_) rfl ?_ ?_
  rotate_left
  · intro w hSw; go_simp; all_goals with_reducible rfl
  simp only [Act.put, sa, s0, s1]
  refine tk_ 11 (v := ?_) rfl ?_ ?_
  rotate_left
  · intro w hSw
    have hc := hSw.1.cell 6
    simp only [sg, g1, g0] at hc
    go_simp
    all_goals with_reducible rfl
  simp only [Act.put, sa, s0, s1]
  as_aux_lemma =>
  refine rd 12 (by kernel_rfl) rfl fun K hK => ?_
  go_simp
  go_at_call 100
  refine (C2.out _).mono ?_
  rintro e w' ⟨rfl, rfl⟩
  go_wp2_with fail
  refine hK.out _ _ (by assumption) (fun hHeld => ?_)
  clear hK K
  try simp only [Act.put, sa, s0, s1]
  refine tk_ 13 (v := ?_) rfl ?_ ?_
  rotate_left
  · intro w hSw; go_simp; all_goals with_reducible rfl
  simp only [Act.put, sa, s0, s1]
  refine tk_ 14 (v := ?_) rfl ?_ ?_
  rotate_left
  · intro w hSw; go_simp; all_goals with_reducible rfl
  simp only [Act.put, sa, s0, s1]
  refine tk_ 15 (v := ?_) rfl ?_ ?_
  rotate_left
  · intro w hSw; go_simp; all_goals with_reducible rfl
  simp only [Act.put, sa, s0, s1]
  refine tk_ 16 (v := ?_) rfl ?_ ?_
  rotate_left
  · intro w hSw
    have hc := hSw.1.cell 7
    simp only [sg, g1, g0] at hc
    go_simp
    all_goals with_reducible rfl
  simp only [Act.put, sa, s0, s1]
  refine rd 17 (by kernel_rfl) rfl fun K hK => ?_
  go_simp
  go_at_call 100
  refine (C3.out _).mono ?_
  rintro e w' ⟨rfl, rfl⟩
  go_wp2_with fail
  refine hK.out _ _ (by assumption) (fun hHeld => ?_)
  clear hK K
  try simp only [Act.put, sa, s0, s1]
  as_aux_lemma =>
  refine tk_ 18 (v := ?_) rfl ?_ ?_
  rotate_left
  · intro w hSw; go_simp; all_goals with_reducible rfl
  simp only [Act.put, sa, s0, s1]
  refine tk_ 19 (v := ?_) rfl ?_ ?_
  rotate_left
  · intro w hSw; go_simp; all_goals with_reducible rfl
  simp only [Act.put, sa, s0, s1]
  refine tk_ 20 (v := ?_) rfl ?_ ?_
  rotate_left
  · intro w hSw; go_simp; all_goals with_reducible rfl
  simp only [Act.put, sa, s0, s1]
  refine tk_ 21 (v := ?_) rfl ?_ ?_
  rotate_left
  · intro w hSw
    have hc := hSw.1.cell 8
    simp only [sg, g1, g0] at hc
    go_simp
    all_goals with_reducible rfl
  simp only [Act.put, sa, s0, s1]
  refine rd 22 (by kernel_rfl) rfl fun K hK => ?_
  go_simp
  go_at_call 101
  refine (C4.out _).mono ?_
  rintro e w' ⟨rfl, rfl⟩
  go_wp2_with fail
  refine hK.out _ _ (by assumption) (fun hHeld => ?_)
  clear hK K
  try simp only [Act.put, sa, s0, s1]
  refine tk_ 23 (v := ?_) rfl ?_ ?_
  rotate_left
  · intro w hSw; go_simp; all_goals with_reducible rfl
  simp only [Act.put, sa, s0, s1]
  as_aux_lemma =>
  refine tk_ 24 (v := ?_) rfl ?_ ?_
  rotate_left
  · intro w hSw; go_simp; all_goals with_reducible rfl
  simp only [Act.put, sa, s0, s1]
  refine tk_ 25 (v := ?_) rfl ?_ ?_
  rotate_left
  · intro w hSw; go_simp; all_goals with_reducible rfl
  simp only [Act.put, sa, s0, s1]
  refine tk_ 26 (v := ?_) rfl ?_ ?_
  rotate_left
  · intro w hSw
    have hc := hSw.1.cell 4
    simp only [sg, g1, g0] at hc
    go_simp
    all_goals with_reducible rfl
  simp only [Act.put, sa, s0, s1]
  refine rd 27 (by kernel_rfl) rfl fun K hK => ?_
  go_simp
  go_at_call 59
  refine (C5.out _).mono ?_
  rintro e w' ⟨rfl, rfl⟩
  go_wp2_with fail
  refine hK.out _ _ (by assumption) (fun hHeld => ?_)
  clear hK K
  try simp only [Act.put, sa, s0, s1]
  refine tk_ 28 (v := ?_) rfl ?_ ?_
  rotate_left
  · intro w hSw; go_simp; all_goals with_reducible rfl
  simp only [Act.put, sa, s0, s1]
  refine tk_ 29 (v := ?_) rfl ?_ ?_
  rotate_left
  · intro w hSw; go_simp; all_goals with_reducible rfl
  simp only [Act.put, sa, s0, s1]
  as_aux_lemma =>
  refine tu 30 rfl (by kernel_rfl) (fun _ _ _ h => h) (by rfl) (by assumption) ?_
  simp only [Act.put, sa, s0, s1]
  refine tu 31 rfl (by kernel_rfl) (fun _ _ _ h => h) (by rfl) (by assumption) ?_
  simp only [Act.put, sa, s0, s1]
  refine tu 32 rfl (by kernel_rfl) (fun _ _ _ h => h) (by rfl) (by assumption) ?_
  simp only [Act.put, sa, s0, s1]
  refine tk_ 33 (v := ?_) rfl ?_ ?_
  rotate_left
  · intro w hSw; go_simp; all_goals with_reducible rfl
  simp only [Act.put, sa, s0, s1]
  refine tk_ 34 (v := ?_) rfl ?_ ?_
  rotate_left
  · intro w hSw; go_simp; all_goals with_reducible rfl
  simp only [Act.put, sa, s0, s1]
  refine tu 35 rfl (by kernel_rfl) (fun _ _ _ h => h) (by rfl) (by assumption) ?_
  simp only [Act.put, sa, s0, s1]
  as_aux_lemma =>
  refine tu 36 rfl (by kernel_rfl) (fun _ _ _ h => h) (by rfl) (by assumption) ?_
  simp only [Act.put, sa, s0, s1]
  refine tu 37 rfl (by kernel_rfl) (fun _ _ _ h => h) (by rfl) (by assumption) ?_
  simp only [Act.put, sa, s0, s1]
  refine tk_ 38 (v := ?_) rfl ?_ ?_
  rotate_left
  · intro w hSw; go_simp; all_goals with_reducible rfl
  simp only [Act.put, sa, s0, s1]
  refine rd 39 (by kernel_rfl) rfl fun K hK => ?_
  rw [if_pos (by rfl)]
  refine wp_store_row _ _ _ rfl (w.heap.size + 1) _ rfl rfl _ _ HZ.out fact_size rfl (by simp [Value.oneCell']) ?_
  refine hK.out _ _ (keep2 HS (by omega) (by omega)) (fun hHeld => ?_)
  clear hK K
  simp only [Act.put, sa, s0, s1]
  refine tk_ 40 (v := ?_) rfl ?_ ?_
  rotate_left
  · intro w hSw; go_simp; all_goals with_reducible rfl
  simp only [Act.put, sa, s0, s1]
  refine wpAnyH_done (by kernel_rfl) ?_ _
  go_wp2_with fail
  exact bodyPost_ret (results_cell_tmp rfl _ _ _ _ _ _ _ rfl (setRow_at HZ.out) Tryz.underlying34 rfl fact_size) rfl ⟨by rfl, below_setR (B := w.heap.size) HB.out (by omega)⟩
end Go.Proofs.YtgjajhopjcdflaaGreat
