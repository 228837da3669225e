/- pass (printed by gen_pass.py). -/
import Derived.Test.YtfiabonacpepnaaGreatDoorCtK
namespace Go.Proofs.YtfiabonacpepnaaGreatDoor
open Go Go.RowKit Go.Lib Go.Shelf

set_option maxRecDepth 100000 in
set_option maxHeartbeats 8000000 in
theorem pass_any (b : Nat) (r : Rd) (w : World) (h : RdAt w b r) (hK : KAt w) :
    Calls Tryz.prog 89 #[.pointer (some ⟨b, 0, none⟩)] w (FormEnd w b (passV r)) := by
  have HP := Lib.hid (pct_any b r (w.alloc (.cells zC 28)) (h.alloc _) (hK.alloc _))
  have hlt := h.lt
  have h9 := h.hb
  have hr := RowAt.new w 28 zC
  obtain ⟨N, hN⟩ : ∃ z, w.heap.size = z := ⟨_, rfl⟩
  have HG := Lib.hid (grown_alloc w (.cells zC 28) (some b))
  have HKA := Lib.hid (hK.alloc (.cells zC 28))
  rw [hN] at hr hlt
  have HR := Lib.hid hr
  have HN := Lib.hid hN
  unfold zC at HP HR HG HKA
  unfold passV
  obtain ⟨n, r2, hp⟩ : ∃ n r2, r.pct = (n, r2) := ⟨_, _, rfl⟩
  rw [hp]
  rw [hp] at HP
  dsimp only at HP ⊢
  obtain ⟨r4, hr4⟩ : ∃ r4, r2.word kTo = r4 := ⟨_, rfl⟩
  rw [hr4]
  obtain ⟨m, ws5, bad5, hm5⟩ : ∃ m ws y, r4.number = (m, ⟨ws, y⟩) := ⟨_, _, _, rfl⟩
  rw [hm5]
  dsimp only
  have HW : Hid (∀ W, RdAt W b r2 → Calls Tryz.prog 138 #[.pointer (some ⟨b, 0, none⟩), .string ⟨#[116, 111]⟩] W fun e w' => e = .returned (.tuple #[]) ∧ RdAt w' b r4 ∧ W.grownBy w' (some b)) := Lib.hid (fun W hW => by rw [← hr4]; exact word_any b r2 kTo W hW)
  have HNU : Hid (∀ W, RdAt W b r4 → KAt W → Calls Tryz.prog 94 #[.pointer (some ⟨b, 0, none⟩)] W fun e w' => e = .returned (.int .i64 m) ∧ RdAt w' b ⟨ws5, bad5⟩ ∧ W.grownBy w' (some b)) := Lib.hid (fun W hW hk => by have := number_any b r4 W hW hk; rw [hm5] at this; exact this)
  obtain ⟨r7, hr7⟩ : ∃ z, (Rd.mk ws5 bad5).word kAbove = z := ⟨_, rfl⟩
  rw [hr7]
  obtain ⟨ab, ws8, bad8, hm8⟩ : ∃ m ws y, r7.number = (m, ⟨ws, y⟩) := ⟨_, _, _, rfl⟩
  rw [hm8]
  dsimp only
  have HW2 : Hid (∀ W, RdAt W b ⟨ws5, bad5⟩ → Calls Tryz.prog 138 #[.pointer (some ⟨b, 0, none⟩), .string ⟨#[97, 98, 111, 118, 101]⟩] W fun e w' => e = .returned (.tuple #[]) ∧ RdAt w' b r7 ∧ W.grownBy w' (some b)) := Lib.hid (fun W hW => by rw [← hr7]; exact word_any b ⟨ws5, bad5⟩ kAbove W hW)
  have HNU2 : Hid (∀ W, RdAt W b r7 → KAt W → Calls Tryz.prog 94 #[.pointer (some ⟨b, 0, none⟩)] W fun e w' => e = .returned (.int .i64 ab) ∧ RdAt w' b ⟨ws8, bad8⟩ ∧ W.grownBy w' (some b)) := Lib.hid (fun W hW hk => by have := number_any b r7 W hW hk; rw [hm8] at this; exact this)
  clear h hK hr hp hr4 hm5 hr7 hm8
  by_cases hws : ws5 = []
  · subst hws
    rw [if_pos rfl]
    go_enter Tryz.func89, Tryz.ntmps89
    go_wp2_with fail
    refine HP.out.mono ?_
    rintro e w2 ⟨rfl, h2, hg2⟩
    have HR2 := Lib.hid (HR.out.grown hg2 (by omega))
    have HH2 := Lib.hid h2
    have HG2 := Lib.hid (grown_trans HG.out hg2)
    have HK2 := Lib.hid (HKA.out.grown hg2 h9)
    have hN2 := HR2.out.lt
    clear h2 hg2
    obtain ⟨M, hM⟩ : ∃ z, w2.heap.size = z := ⟨_, rfl⟩
    have HM := Lib.hid hM
    rw [hM] at hN2
    clear hM
    go_wp2_with ((with_reducible refine store_term (o := ⟨none, .store _ _ _, _, _, _, _⟩) (.tmp 3) (.tmp 6) ⟨1, n, 0, 0, []⟩ (.slice none 0 0) _ (term_ones _ _ _ _) ?_ ?_ ?_ ?_ ?_ ?_); rfl; rfl; rfl; rfl; rfl)
    obtain ⟨W3, hW3⟩ : ∃ z, w2.alloc (.cells #[.int .i64 1, .int .i64 n, .int .i64 0, .int .i64 0, .slice none 0 0] 28) = z := ⟨_, rfl⟩
    have r3 : RowAt W3 w2.heap.size 28 #[.int .i64 1, .int .i64 n, .int .i64 0, .int .i64 0, .slice none 0 0] := by rw [← hW3]; exact RowAt.new w2 _ _
    have b3 : Below w2.heap.size w2 W3 := by rw [← hW3]; exact (Below.refl _ _).alloc (Nat.le_refl _) _
    have g3 := grown_below b3 (some b)
    rw [hW3, HM.out]
    rw [HM.out] at r3
    have HM3 := Lib.hid r3
    have HN3 := Lib.hid (HR2.out.grown g3 (by omega))
    have HH3 := Lib.hid (HH2.out.below b3 HH2.out.lt)
    have HG3 := Lib.hid (grown_trans HG2.out g3)
    have HK3 := Lib.hid (HK2.out.mono b3)
    clear hW3 r3 b3 g3
    go_wp2_with fail
    refine (HW.out _ HH3.out).mono ?_
    rintro e w4 ⟨rfl, h4, hg4⟩
    have HM4 := Lib.hid (HM3.out.grown hg4 (by omega))
    have HN4 := Lib.hid (HN3.out.grown hg4 (by omega))
    have HH4 := Lib.hid h4
    have HG4 := Lib.hid (grown_trans HG3.out hg4)
    have HK4 := Lib.hid (HK3.out.grown hg4 h9)
    clear h4 hg4
    go_wp2_with fail
    refine (HNU.out _ HH4.out HK4.out).mono ?_
    rintro e w5 ⟨rfl, h5, hg5⟩
    have HM5 := Lib.hid (HM4.out.grown hg5 (by omega))
    have HN5 := Lib.hid (HN4.out.grown hg5 (by omega))
    have HH5 := Lib.hid h5
    have HG5 := Lib.hid (grown_trans HG4.out hg5)
    have HK5 := Lib.hid (HK4.out.grown hg5 h9)
    clear h5 hg5
    have c52 : w5.cell? ⟨M, 2, none⟩ = some (.int .i64 0) := HM5.out.cell 2
    have f52 : w5.frozen? ⟨M, 2, none⟩ = false := HM5.out.free 2
    obtain ⟨W6, hW6⟩ : ∃ z, w5.setCell ⟨M, 2, none⟩ (.int .i64 m) = z := ⟨_, rfl⟩
    have HM6 : Hid (RowAt W6 M 28 #[.int .i64 1, .int .i64 n, .int .i64 m, .int .i64 0, .slice none 0 0]) := Lib.hid (by rw [← hW6]; exact HM5.out.set 2 _)
    have HN6 := Lib.hid (show RowAt W6 N 28 _ from by rw [← hW6]; exact HN5.out.far (p := ⟨M, 2, none⟩) (by show N ≠ M; omega) _)
    have HH6 : Hid (RdAt W6 b ⟨[], bad5⟩) := Lib.hid (by rw [← hW6]; exact HH5.out.cellFar (by omega))
    have HG6 : Hid (w.grownBy W6 (some b)) := Lib.hid (by rw [← hW6]; exact grown_cell HG5.out (by have := HN.out; omega))
    have HK6 : Hid (KAt W6) := Lib.hid (by rw [← hW6]; exact HK5.out.cellFar (by omega))
    have HW6 := Lib.hid hW6
    clear hW6
    go_upto_region 4 with fail
    rw [HW6.out]
    obtain ⟨A6, c6, hc6⟩ := HH6.out.wsCell
    dsimp only at hc6
    clear HW2 HNU2
    simp only [List.length_nil] at hc6
    go_wp2_with (first | ((with_reducible refine load_trow (o := ⟨some 35, _, _, _, _, _⟩) (.tmp 3) M #[.int .i64 1, .int .i64 n, .int .i64 m, .int .i64 0, .slice none 0 0] HM6.out rfl ?_ ?_ ?_ ?_); rfl; rfl; rfl) | ((with_reducible refine store_trow (o := ⟨none, .store _ _ _, _, _, _, _⟩) (.tmp 2) (.tmp 35) N #[.int .i64 1, .int .i64 n, .int .i64 m, .int .i64 0, .slice none 0 0] _ HN6.out rfl rfl (term_ones _ _ _ _) ?_ ?_ ?_ ?_ ?_); rfl; rfl; rfl; rfl))
    refine bodyPost_ret (results_cell1 rfl _ _ N _ _ _ _ rfl (setRow_at HN6.out) Tryz.underlying28 rfl term_size) rfl ⟨.slice none 0 0, rfl, OwnI.nil _ _ _ _, HH6.out.rowFar hlt, grown_row HG6.out (by rw [HN.out]; exact Nat.le_refl _)⟩
  · rw [if_neg hws]
    obtain ⟨L6, hL6⟩ : ∃ z, ws5.length = z := ⟨_, rfl⟩
    have hL1 : 0 < L6 := by rw [← hL6]; exact List.length_pos_iff.2 hws
    have HL6 := Lib.hid hL6
    have d0 : decide (0 < L6) = true := by simp; exact hL1
    clear hws hL6 hL1
    obtain ⟨z, hz⟩ : ∃ z, (bad8 || ab == 0) = z := ⟨_, rfl⟩
    rw [hz]
    have HZ := Lib.hid hz
    clear hz
    go_enter Tryz.func89, Tryz.ntmps89
    go_wp2_with fail
    refine HP.out.mono ?_
    rintro e w2 ⟨rfl, h2, hg2⟩
    have HR2 := Lib.hid (HR.out.grown hg2 (by omega))
    have HH2 := Lib.hid h2
    have HG2 := Lib.hid (grown_trans HG.out hg2)
    have HK2 := Lib.hid (HKA.out.grown hg2 h9)
    have hN2 := HR2.out.lt
    clear h2 hg2
    obtain ⟨M, hM⟩ : ∃ z, w2.heap.size = z := ⟨_, rfl⟩
    have HM := Lib.hid hM
    rw [hM] at hN2
    clear hM
    go_wp2_with ((with_reducible refine store_term (o := ⟨none, .store _ _ _, _, _, _, _⟩) (.tmp 3) (.tmp 6) ⟨1, n, 0, 0, []⟩ (.slice none 0 0) _ (term_ones _ _ _ _) ?_ ?_ ?_ ?_ ?_ ?_); rfl; rfl; rfl; rfl; rfl)
    obtain ⟨W3, hW3⟩ : ∃ z, w2.alloc (.cells #[.int .i64 1, .int .i64 n, .int .i64 0, .int .i64 0, .slice none 0 0] 28) = z := ⟨_, rfl⟩
    have r3 : RowAt W3 w2.heap.size 28 #[.int .i64 1, .int .i64 n, .int .i64 0, .int .i64 0, .slice none 0 0] := by rw [← hW3]; exact RowAt.new w2 _ _
    have b3 : Below w2.heap.size w2 W3 := by rw [← hW3]; exact (Below.refl _ _).alloc (Nat.le_refl _) _
    have g3 := grown_below b3 (some b)
    rw [hW3, HM.out]
    rw [HM.out] at r3
    have HM3 := Lib.hid r3
    have HN3 := Lib.hid (HR2.out.grown g3 (by omega))
    have HH3 := Lib.hid (HH2.out.below b3 HH2.out.lt)
    have HG3 := Lib.hid (grown_trans HG2.out g3)
    have HK3 := Lib.hid (HK2.out.mono b3)
    clear hW3 r3 b3 g3
    go_wp2_with fail
    refine (HW.out _ HH3.out).mono ?_
    rintro e w4 ⟨rfl, h4, hg4⟩
    have HM4 := Lib.hid (HM3.out.grown hg4 (by omega))
    have HN4 := Lib.hid (HN3.out.grown hg4 (by omega))
    have HH4 := Lib.hid h4
    have HG4 := Lib.hid (grown_trans HG3.out hg4)
    have HK4 := Lib.hid (HK3.out.grown hg4 h9)
    clear h4 hg4
    go_wp2_with fail
    refine (HNU.out _ HH4.out HK4.out).mono ?_
    rintro e w5 ⟨rfl, h5, hg5⟩
    have HM5 := Lib.hid (HM4.out.grown hg5 (by omega))
    have HN5 := Lib.hid (HN4.out.grown hg5 (by omega))
    have HH5 := Lib.hid h5
    have HG5 := Lib.hid (grown_trans HG4.out hg5)
    have HK5 := Lib.hid (HK4.out.grown hg5 h9)
    clear h5 hg5
    have c52 : w5.cell? ⟨M, 2, none⟩ = some (.int .i64 0) := HM5.out.cell 2
    have f52 : w5.frozen? ⟨M, 2, none⟩ = false := HM5.out.free 2
    obtain ⟨W6, hW6⟩ : ∃ z, w5.setCell ⟨M, 2, none⟩ (.int .i64 m) = z := ⟨_, rfl⟩
    have HM6 : Hid (RowAt W6 M 28 #[.int .i64 1, .int .i64 n, .int .i64 m, .int .i64 0, .slice none 0 0]) := Lib.hid (by rw [← hW6]; exact HM5.out.set 2 _)
    have HN6 := Lib.hid (show RowAt W6 N 28 _ from by rw [← hW6]; exact HN5.out.far (p := ⟨M, 2, none⟩) (by show N ≠ M; omega) _)
    have HH6 : Hid (RdAt W6 b ⟨ws5, bad5⟩) := Lib.hid (by rw [← hW6]; exact HH5.out.cellFar (by omega))
    have HG6 : Hid (w.grownBy W6 (some b)) := Lib.hid (by rw [← hW6]; exact grown_cell HG5.out (by have := HN.out; omega))
    have HK6 : Hid (KAt W6) := Lib.hid (by rw [← hW6]; exact HK5.out.cellFar (by omega))
    have HW6 := Lib.hid hW6
    clear hW6
    go_upto_region 4 with fail
    rw [HW6.out]
    obtain ⟨A6, c6, hc6⟩ := HH6.out.wsCell
    dsimp only at hc6
    rw [HL6.out] at hc6
    go_wp2_with fail
    refine (HW2.out _ HH6.out).mono ?_
    rintro e w7 ⟨rfl, h7, hg7⟩
    have HM7 := Lib.hid (HM6.out.grown hg7 (by omega))
    have HN7 := Lib.hid (HN6.out.grown hg7 (by omega))
    have HH7 := Lib.hid h7
    have HG7 := Lib.hid (grown_trans HG6.out hg7)
    have HK7 := Lib.hid (HK6.out.grown hg7 h9)
    clear h7 hg7 hc6
    go_wp2_with fail
    refine (HNU2.out _ HH7.out HK7.out).mono ?_
    rintro e w8 ⟨rfl, h8, hg8⟩
    have HM8 := Lib.hid (HM7.out.grown hg8 (by omega))
    have HN8 := Lib.hid (HN7.out.grown hg8 (by omega))
    have HH8 := Lib.hid h8
    have HG8 := Lib.hid (grown_trans HG7.out hg8)
    clear h8 hg8
    have c83 : w8.cell? ⟨M, 3, none⟩ = some (.int .i64 0) := HM8.out.cell 3
    have f83 : w8.frozen? ⟨M, 3, none⟩ = false := HM8.out.free 3
    have HM9 : Hid (RowAt (w8.setCell ⟨M, 3, none⟩ (.int .i64 ab)) M 28 #[.int .i64 1, .int .i64 n, .int .i64 m, .int .i64 ab, .slice none 0 0]) := Lib.hid (HM8.out.set 3 _)
    have HN9 := Lib.hid (show RowAt (w8.setCell ⟨M, 3, none⟩ (.int .i64 ab)) N 28 _ from HN8.out.far (p := ⟨M, 3, none⟩) (by show N ≠ M; omega) _)
    have HH9 : Hid (RdAt (w8.setCell ⟨M, 3, none⟩ (.int .i64 ab)) b ⟨ws8, bad8⟩) := Lib.hid (HH8.out.cellFar (by omega))
    have HG9 : Hid (w.grownBy (w8.setCell ⟨M, 3, none⟩ (.int .i64 ab)) (some b)) := Lib.hid (grown_cell HG8.out (by have := HN.out; omega))
    obtain ⟨c9, f9⟩ := HH9.out.badCell
    dsimp only at c9
    have c93 : (w8.setCell ⟨M, 3, none⟩ (.int .i64 ab)).cell? ⟨M, 3, none⟩ = some (.int .i64 ab) := HM9.out.cell 3
    have HMX := Lib.hid (show RowAt ((w8.setCell ⟨M, 3, none⟩ (.int .i64 ab)).setCell ⟨b, 1, none⟩ (.bool z)) M 28 _ from HM9.out.far (p := ⟨b, 1, none⟩) (by show M ≠ b; omega) _)
    have HNX := Lib.hid (show RowAt ((w8.setCell ⟨M, 3, none⟩ (.int .i64 ab)).setCell ⟨b, 1, none⟩ (.bool z)) N 28 _ from HN9.out.far (p := ⟨b, 1, none⟩) (by show N ≠ b; omega) _)
    have HHX : Hid (RdAt ((w8.setCell ⟨M, 3, none⟩ (.int .i64 ab)).setCell ⟨b, 1, none⟩ (.bool z)) b ⟨ws8, z⟩) := Lib.hid (HH9.out.setBad _)
    have HGX : Hid (w.grownBy ((w8.setCell ⟨M, 3, none⟩ (.int .i64 ab)).setCell ⟨b, 1, none⟩ (.bool z)) (some b)) := Lib.hid (grown_trans HG9.out (grown_set _))
    have hz := HZ.out
    cases bad8
    · have hq : (ab == 0) = z := by rw [← hz]; rfl
      clear hz
      go_wp2_with (first | ((with_reducible refine load_trow (o := ⟨some 35, _, _, _, _, _⟩) (.tmp 3) M #[.int .i64 1, .int .i64 n, .int .i64 m, .int .i64 ab, .slice none 0 0] HMX.out rfl ?_ ?_ ?_ ?_); rfl; rfl; rfl) | ((with_reducible refine store_trow (o := ⟨none, .store _ _ _, _, _, _, _⟩) (.tmp 2) (.tmp 35) N #[.int .i64 1, .int .i64 n, .int .i64 m, .int .i64 ab, .slice none 0 0] _ HNX.out rfl rfl (term_ones _ _ _ _) ?_ ?_ ?_ ?_ ?_); rfl; rfl; rfl; rfl))
      refine bodyPost_ret (results_cell1 rfl _ _ N _ _ _ _ rfl (setRow_at HNX.out) Tryz.underlying28 rfl term_size) rfl ⟨.slice none 0 0, rfl, OwnI.nil _ _ _ _, HHX.out.rowFar hlt, grown_row HGX.out (by rw [HN.out]; exact Nat.le_refl _)⟩
    · have hq : true = z := by rw [← hz]; rfl
      subst hq
      clear hz
      go_wp2_with (first | ((with_reducible refine load_trow (o := ⟨some 35, _, _, _, _, _⟩) (.tmp 3) M #[.int .i64 1, .int .i64 n, .int .i64 m, .int .i64 ab, .slice none 0 0] HMX.out rfl ?_ ?_ ?_ ?_); rfl; rfl; rfl) | ((with_reducible refine store_trow (o := ⟨none, .store _ _ _, _, _, _, _⟩) (.tmp 2) (.tmp 35) N #[.int .i64 1, .int .i64 n, .int .i64 m, .int .i64 ab, .slice none 0 0] _ HNX.out rfl rfl (term_ones _ _ _ _) ?_ ?_ ?_ ?_ ?_); rfl; rfl; rfl; rfl))
      refine bodyPost_ret (results_cell1 rfl _ _ N _ _ _ _ rfl (setRow_at HNX.out) Tryz.underlying28 rfl term_size) rfl ⟨.slice none 0 0, rfl, OwnI.nil _ _ _ _, HHX.out.rowFar hlt, grown_row HGX.out (by rw [HN.out]; exact Nat.le_refl _)⟩
end Go.Proofs.YtfiabonacpepnaaGreatDoor
