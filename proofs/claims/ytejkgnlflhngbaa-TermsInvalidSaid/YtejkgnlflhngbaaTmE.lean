/- The steps of a settlement that lay a pass or a reserve. -/
import Derived.Test.YtejkgnlflhngbaaTmD
namespace Go.Proofs.Ytejkgnlflhngbaa
open Go Go.RowKit Go.Lib Go.Shelf Go.Maps

theorem pass_any {T : Int} (B nb mb : Nat) (R : RowV) (S : StV) (vp vr vb : Value) (t : TermV) (va : Value) (w : World) (hs : SetAt B w nb mb R S vp vr vb) (hg : GoodS T S) (hT : T ≤ 1000000000000000000) (hn : inR t.n 1 1000000 = true) (ha : inR t.ab 0 1000000000000000 = true) (hlen : S.ps.length ≤ 100000) :
    Calls Try.prog 40 #[.pointer (some ⟨nb, 0, none⟩), .agg (termC t va)] w fun e w' => e = .returned (.tuple #[]) ∧ (∃ vp', SetAt B w' nb mb R (passStep S t) vp' vr vb) ∧ Turn B w w' := by
  have hnb := inR_iff.1 hn
  have hab := inR_iff.1 ha
  have g1 := hg.l0
  have g2 := hg.p0
  have g3 := hg.t0
  have g4 := hg.r0
  have g5 := hg.o0
  have g6 := hg.c0
  have g7 := hg.sum
  have hst : passStep S t = { S with left := S.left - partN (max (S.left - t.ab) 0) t.n, pa := S.pa + partN (max (S.left - t.ab) 0) t.n, ps := S.ps ++ if 0 < partN (max (S.left - t.ab) 0) t.n then [(t.m, partN (max (S.left - t.ab) 0) t.n)] else [] } := rfl
  rw [hst]
  obtain ⟨mx, hmx0⟩ : ∃ x, max (S.left - t.ab) 0 = x := ⟨_, rfl⟩
  have hm1 : 0 ≤ mx ∧ mx ≤ S.left := by omega
  have hp := partN_bd hm1.1 (show 0 ≤ t.n by omega) hnb.2
  have PT := Lib.hid (fun W => part_any mx t.n hm1.1 (by omega) (by omega) hnb.2 W)
  rw [hmx0]
  obtain ⟨x, hx⟩ : ∃ x, partN mx t.n = x := ⟨_, rfl⟩
  rw [hx] at PT hp ⊢
  have TK := Lib.hid (fun (W : World) (h : SetAt B W nb mb R S vp vr vb) => take_any nb 6 x S.left S.pa (setC R S vp vr vb (.map (some mb))) W h.row rfl rfl (by omega) (by omega) (by omega) (by omega) (by omega))
  obtain ⟨xk, hxk⟩ : ∃ z, t.k = z := ⟨_, rfl⟩
  obtain ⟨xn, hxn⟩ : ∃ z, t.n = z := ⟨_, rfl⟩
  obtain ⟨xm, hxm⟩ : ∃ z, t.m = z := ⟨_, rfl⟩
  obtain ⟨xa, hxa⟩ : ∃ z, t.ab = z := ⟨_, rfl⟩
  rw [show termC t va = #[.int .i64 xk, .int .i64 xn, .int .i64 xm, .int .i64 xa, va] by unfold termC; rw [hxk, hxn, hxm, hxa]]
  obtain ⟨W, hW⟩ : ∃ x, w.alloc (.cells #[.int .i64 xk, .int .i64 xn, .int .i64 xm, .int .i64 xa, va] 52) = x := ⟨_, rfl⟩
  have hbW : Below w.heap.size w W := by rw [← hW]; exact (Below.refl _ _).alloc (Nat.le_refl _) _
  have hrow : RowAt W w.heap.size 52 #[.int .i64 xk, .int .i64 xn, .int .i64 xm, .int .i64 xa, va] := by rw [← hW]; exact RowAt.new w _ _
  obtain ⟨tb, htb⟩ : ∃ x, w.heap.size = x := ⟨_, rfl⟩
  have htlt : tb < W.heap.size := by rw [← htb]; exact hrow.lt
  have hs0 := hs.below hbW
  have hBw : B ≤ w.heap.size := Nat.le_of_lt (Nat.lt_of_le_of_lt hs.hB hs.row.lt)
  have HBW : Hid (Turn B w W) := Lib.hid (Turn.of_below hbW hBw)
  rw [htb] at hrow
  have htn : tb ≠ nb := by have := hs.row.lt; omega
  have HS0 := Lib.hid hs0
  obtain ⟨l, hl⟩ : ∃ z, S.left = z := ⟨_, rfl⟩
  have cl : W.cell? ⟨nb, 12, none⟩ = some (.int .i64 l) := by rw [← hl]; exact hs0.row.cell 12
  have cn : W.cell? ⟨tb, 1, none⟩ = some (.int .i64 xn) ∧ W.cell? ⟨tb, 3, none⟩ = some (.int .i64 xa) := ⟨hrow.cell 1, hrow.cell 3⟩
  have cm0 : W.cell? ⟨tb, 2, none⟩ = some (.int .i64 xm) := hrow.cell 2
  have CM0 := Lib.hid cm0
  have htw : tb < W.heap.size := htlt
  rw [hl, hxa] at hmx0
  rw [hxa] at hab
  rw [hxn] at PT
  rw [hxm]
  rw [hl] at g1 g7
  obtain ⟨ext, hext⟩ : ∃ z, (if 0 < x then [(xm, x)] else []) = z := ⟨_, rfl⟩
  rw [hext]
  have HEXT := Lib.hid hext
  have HROW := Lib.hid hrow
  obtain ⟨y, hy⟩ : ∃ y, l - xa = y := ⟨_, rfl⟩
  have wy : IntKind.i64.wrap (l - xa) = y := by rw [hy]; exact IntWalk.i64_in _ (by omega)
  rw [hy] at hmx0
  have hmx : (if y < 0 then 0 else y) = mx := by rw [← hmx0]; split <;> omega
  have hps : (S.ps.map p2).length ≤ 1000000 := by rw [List.length_map]; omega
  have HPS := Lib.hid hps
  have HX0 := Lib.hid hp.1
  clear hst hg hn ha hT hp hnb hab hs hs0 hbW hrow g1 g2 g3 g4 g5 g6 g7 hxk hxn hxm hxa hl hy hmx0 hm1 hx cm0 hps hlen hext
  go_enter Try.func40, Try.ntmps40
  go_wp2_with fail
  clear hW htb
  refine wp_region_held_drew (S := fun W' => W'.cell? ⟨tb, 1, none⟩ = some (.int .i64 xn) ∧ W'.cell? ⟨tb, 3, none⟩ = some (.int .i64 xa)) (by kernel_rfl) cn (fun hHeld => ?_)
  refine wpAnyH_take (i := 0) (oi := ⟨_, _, _, _, _, _⟩) (v := ?_) rfl (by kernel_rfl) (by kernel_rfl) (by kernel_rfl) (fun _ _ _ h => h) (Or.inl ⟨by rfl, ?_⟩) (by assumption) ?_
  rotate_left
  · intro w hSw
    go_simp
    all_goals with_reducible rfl
  simp only [Act.put, List.setIfInBounds_toArray, List.set_cons_zero, List.set_cons_succ]
  refine wpAnyH_take (i := 1) (oi := ⟨_, _, _, _, _, _⟩) (v := ?_) rfl (by kernel_rfl) (by kernel_rfl) (by kernel_rfl) (fun _ _ _ h => h) (Or.inl ⟨by rfl, ?_⟩) (by assumption) ?_
  rotate_left
  · intro w hSw
    go_simp
    all_goals with_reducible rfl
  simp only [Act.put, List.setIfInBounds_toArray, List.set_cons_zero, List.set_cons_succ]
  refine wpAnyH_take (i := 2) (oi := ⟨_, _, _, _, _, _⟩) (v := ?_) rfl (by kernel_rfl) (by kernel_rfl) (by kernel_rfl) (fun _ _ _ h => h) (Or.inl ⟨by rfl, ?_⟩) (by assumption) ?_
  rotate_left
  · intro w hSw
    go_simp
    all_goals with_reducible rfl
  simp only [Act.put, List.setIfInBounds_toArray, List.set_cons_zero, List.set_cons_succ]
  refine wpAnyH_take (i := 3) (oi := ⟨_, _, _, _, _, _⟩) (v := ?_) rfl (by kernel_rfl) (by kernel_rfl) (by kernel_rfl) (fun _ _ _ h => h) (Or.inl ⟨by rfl, ?_⟩) (by assumption) ?_
  rotate_left
  · intro w hSw
    go_simp
    all_goals with_reducible rfl
  simp only [Act.put, List.setIfInBounds_toArray, List.set_cons_zero, List.set_cons_succ]
  refine wpAnyH_take (i := 5) (oi := ⟨_, _, _, _, _, _⟩) (v := ?_) rfl (by kernel_rfl) (by kernel_rfl) (by kernel_rfl) (fun _ _ _ h => h) (Or.inl ⟨by rfl, ?_⟩) (by assumption) ?_
  rotate_left
  · intro w hSw
    go_simp
    all_goals with_reducible rfl
  simp only [Act.put, List.setIfInBounds_toArray, List.set_cons_zero, List.set_cons_succ]
  refine wpAnyH_take (i := 6) (oi := ⟨_, _, _, _, _, _⟩) (v := ?_) rfl (by kernel_rfl) (by kernel_rfl) (by kernel_rfl) (fun _ _ _ h => h) (Or.inl ⟨by rfl, ?_⟩) (by assumption) ?_
  rotate_left
  · intro w hSw
    obtain ⟨hc1, hc3⟩ := hSw
    go_simp
    all_goals with_reducible rfl
  simp only [Act.put, List.setIfInBounds_toArray, List.set_cons_zero, List.set_cons_succ]
  refine wpAnyH_take (i := 9) (oi := ⟨_, _, _, _, _, _⟩) (v := ?_) rfl (by kernel_rfl) (by kernel_rfl) (by kernel_rfl) (fun _ _ _ h => h) (Or.inl ⟨by rfl, ?_⟩) (by assumption) ?_
  rotate_left
  · intro w hSw
    go_simp
    all_goals with_reducible rfl
  simp only [Act.put, List.setIfInBounds_toArray, List.set_cons_zero, List.set_cons_succ]
  refine wpAnyH_take (i := 10) (oi := ⟨_, _, _, _, _, _⟩) (v := ?_) rfl (by kernel_rfl) (by kernel_rfl) (by kernel_rfl) (fun _ _ _ h => h) (Or.inl ⟨by rfl, ?_⟩) (by assumption) ?_
  rotate_left
  · intro w hSw
    obtain ⟨hc1, hc3⟩ := hSw
    go_simp
    all_goals with_reducible rfl
  simp only [Act.put, List.setIfInBounds_toArray, List.set_cons_zero, List.set_cons_succ]
  refine wpAnyH_take (i := 12) (oi := ⟨_, _, _, _, _, _⟩) (v := ?_) rfl (by kernel_rfl) (by kernel_rfl) (by kernel_rfl) (fun _ _ _ h => h) (Or.inl ⟨by rfl, ?_⟩) (by assumption) ?_
  rotate_left
  · intro w hSw
    go_simp
    all_goals with_reducible rfl
  simp only [Act.put, List.setIfInBounds_toArray, List.set_cons_zero, List.set_cons_succ]
  refine wpAnyH_take (i := 13) (oi := ⟨_, _, _, _, _, _⟩) (v := ?_) rfl (by kernel_rfl) (by kernel_rfl) (by kernel_rfl) (fun _ _ _ h => h) (Or.inl ⟨by rfl, ?_⟩) (by assumption) ?_
  rotate_left
  · intro w hSw
    go_simp
    all_goals with_reducible rfl
  simp only [Act.put, List.setIfInBounds_toArray, List.set_cons_zero, List.set_cons_succ]
  refine wpAnyH_take (i := 14) (oi := ⟨_, _, _, _, _, _⟩) (v := ?_) rfl (by kernel_rfl) (by kernel_rfl) (by kernel_rfl) (fun _ _ _ h => h) (Or.inl ⟨by rfl, ?_⟩) (by assumption) ?_
  rotate_left
  · intro w hSw
    go_simp
    all_goals with_reducible rfl
  simp only [Act.put, List.setIfInBounds_toArray, List.set_cons_zero, List.set_cons_succ]
  refine wpAnyH_take (i := 15) (oi := ⟨_, _, _, _, _, _⟩) (v := ?_) rfl (by kernel_rfl) (by kernel_rfl) (by kernel_rfl) (fun _ _ _ h => h) (Or.inl ⟨by rfl, ?_⟩) (by assumption) ?_
  rotate_left
  · intro w hSw
    go_simp
    all_goals with_reducible rfl
  simp only [Act.put, List.setIfInBounds_toArray, List.set_cons_zero, List.set_cons_succ]
  refine wpAnyH_ready (rs := [4]) (by kernel_rfl) (by simp) ?_
  refine AllReadyH.cons (o := ⟨_, _, _, _, _, _⟩) rfl (fun K hK => ?_) AllReadyH.nil
  go_simp
  go_wp2_with fail
  refine hK.out _ _ (by assumption) (fun hHeld => ?_)
  clear hK K
  try simp only [Act.put, List.setIfInBounds_toArray, List.set_cons_zero, List.set_cons_succ]
  refine wpAnyH_take (i := 7) (oi := ⟨_, _, _, _, _, _⟩) (v := ?_) rfl (by kernel_rfl) (by kernel_rfl) (by kernel_rfl) (fun _ _ _ h => h) (Or.inl ⟨by rfl, ?_⟩) (by assumption) ?_
  rotate_left
  · intro w hSw
    go_simp
    all_goals with_reducible rfl
  simp only [Act.put, List.setIfInBounds_toArray, List.set_cons_zero, List.set_cons_succ]
  refine wpAnyH_ready (rs := [8]) (by kernel_rfl) (by simp) ?_
  refine AllReadyH.cons (o := ⟨_, _, _, _, _, _⟩) rfl (fun K hK => ?_) AllReadyH.nil
  go_simp
  go_wp2_with fail
  refine hK.out _ _ (by assumption) (fun hHeld => ?_)
  clear hK K
  try simp only [Act.put, List.setIfInBounds_toArray, List.set_cons_zero, List.set_cons_succ]
  refine wpAnyH_ready (rs := [11]) (by kernel_rfl) (by simp) ?_
  refine AllReadyH.cons (o := ⟨_, _, _, _, _, _⟩) rfl (fun K hK => ?_) AllReadyH.nil
  go_simp
  go_at_call 51
  refine (PT.out _).mono ?_
  rintro e w1 ⟨rfl, hb⟩
  go_wp2_with fail
  refine hK.out _ _ (by rw [hb.cell (p := ⟨tb, 1, none⟩) htlt, hb.cell (p := ⟨tb, 3, none⟩) htlt]; exact cn) (fun hHeld => ?_)
  clear hK K
  try simp only [Act.put, List.setIfInBounds_toArray, List.set_cons_zero, List.set_cons_succ]
  have HS1 := Lib.hid (HS0.out.below ((Below.refl W.heap.size W).drew.trans hb))
  have HB1 := Lib.hid (HBW.out.trans (Turn.of_below ((Below.refl W.heap.size W).drew.trans hb) (by have := HS0.out.hB; have := HS0.out.row.lt; omega)))
  have cn1 : w1.cell? ⟨tb, 1, none⟩ = some (.int .i64 xn) ∧ w1.cell? ⟨tb, 3, none⟩ = some (.int .i64 xa) := by rw [hb.cell (p := ⟨tb, 1, none⟩) htlt, hb.cell (p := ⟨tb, 3, none⟩) htlt]; exact cn
  have cm1 : w1.cell? ⟨tb, 2, none⟩ = some (.int .i64 xm) := by rw [hb.cell (p := ⟨tb, 2, none⟩) htlt]; exact CM0.out
  have CM1 := Lib.hid cm1
  have HROW1 := Lib.hid (HROW.out.below ((Below.refl W.heap.size W).drew.trans hb) htlt)
  have HTL1 := Lib.hid (Nat.lt_of_lt_of_le htlt hb.size)
  clear hb cm1
  refine wpAnyH_ready (rs := [16]) (by kernel_rfl) (by simp) ?_
  refine AllReadyH.cons (o := ⟨_, _, _, _, _, _⟩) rfl (fun K hK => ?_) AllReadyH.nil
  go_simp
  go_at_call 50
  refine (TK.out w1 HS1.out).mono ?_
  rintro e w2 ⟨rfl, hr2, ho⟩
  go_wp2_with fail
  refine hK.out _ _ (by rw [cell_same (ho.other tb htn), cell_same (ho.other tb htn)]; exact cn1) (fun hHeld => ?_)
  clear hK K
  try simp only [Act.put, List.setIfInBounds_toArray, List.set_cons_zero, List.set_cons_succ]
  refine wpAnyH_take (i := 17) (oi := ⟨_, _, _, _, _, _⟩) (v := ?_) rfl (by kernel_rfl) (by kernel_rfl) (by kernel_rfl) (fun _ _ _ h => h) (Or.inl ⟨by rfl, ?_⟩) (by assumption) ?_
  rotate_left
  · intro w hSw
    go_simp
    all_goals with_reducible rfl
  simp only [Act.put, List.setIfInBounds_toArray, List.set_cons_zero, List.set_cons_succ]

  refine wpAnyH_done (by kernel_rfl) ?_ _
  have HE := Lib.hid (HS1.out.only ho hr2 (S' := { S with left := S.left - x, pa := S.pa + x }) rfl rfl rfl)
  have HBE := Lib.hid (HB1.out.trans (Turn.of_only ho HS1.out.row HS1.out.hB))
  have cm2 : w2.cell? ⟨tb, 2, none⟩ = some (.int .i64 xm) := by rw [cell_same (ho.other tb htn)]; exact CM1.out
  have cp2 : w2.cell? ⟨nb, 13, none⟩ = some vp := HE.out.row.cell 13
  have hnlt : nb < w2.heap.size := HE.out.row.lt
  have fp2 : w2.frozen? ⟨nb, 13, none⟩ = false := HE.out.row.free 13
  have HROW2 : Hid (RowAt w2 tb 52 #[.int .i64 xk, .int .i64 xn, .int .i64 xm, .int .i64 xa, va]) := Lib.hid ((ho.other tb htn).trans HROW1.out)
  clear HROW HROW1
  clear hr2 ho cn cn1 cl hHeld HS1 HB1 TK PT hmx wy CM0 CM1 HTL1
  by_cases hx0 : 0 < x
  · have HEX := Lib.hid (show [(xm, x)] = ext by rw [← HEXT.out, if_pos hx0])
    clear HEXT
    go_wp2_with fail
    clear hx0
    refine wp_region_held_drew (S := fun W' => W'.cell? ⟨tb, 2, none⟩ = some (.int .i64 xm)) (by kernel_rfl) cm2 (fun hHeld => ?_)
    refine wpAnyH_take (i := 0) (oi := ⟨_, _, _, _, _, _⟩) (v := ?_) rfl (by kernel_rfl) (by kernel_rfl) (by kernel_rfl) (fun _ _ _ h => h) (Or.inl ⟨by rfl, ?_⟩) (by assumption) ?_
    rotate_left
    · intro w hSw
      go_simp
      all_goals with_reducible rfl
    simp only [Act.put, List.setIfInBounds_toArray, List.set_cons_zero, List.set_cons_succ]
    refine wpAnyH_take (i := 1) (oi := ⟨_, _, _, _, _, _⟩) (v := ?_) rfl (by kernel_rfl) (by kernel_rfl) (by kernel_rfl) (fun _ _ _ h => h) (Or.inl ⟨by rfl, ?_⟩) (by assumption) ?_
    rotate_left
    · intro w hSw
      go_simp
      all_goals with_reducible rfl
    simp only [Act.put, List.setIfInBounds_toArray, List.set_cons_zero, List.set_cons_succ]
    refine wpAnyH_take (i := 2) (oi := ⟨_, _, _, _, _, _⟩) (v := ?_) rfl (by kernel_rfl) (by kernel_rfl) (by kernel_rfl) (fun _ _ _ h => h) (Or.inl ⟨by rfl, ?_⟩) (by assumption) ?_
    rotate_left
    · intro w hSw
      go_simp
      all_goals with_reducible rfl
    simp only [Act.put, List.setIfInBounds_toArray, List.set_cons_zero, List.set_cons_succ]
    refine wpAnyH_take (i := 3) (oi := ⟨_, _, _, _, _, _⟩) (v := ?_) rfl (by kernel_rfl) (by kernel_rfl) (by kernel_rfl) (fun _ _ _ h => h) (Or.inl ⟨by rfl, ?_⟩) (by assumption) ?_
    rotate_left
    · intro w hSw
      go_simp
      all_goals with_reducible rfl
    simp only [Act.put, List.setIfInBounds_toArray, List.set_cons_zero, List.set_cons_succ]
    refine wpAnyH_take (i := 5) (oi := ⟨_, _, _, _, _, _⟩) (v := ?_) rfl (by kernel_rfl) (by kernel_rfl) (by kernel_rfl) (fun _ _ _ h => h) (Or.inl ⟨by rfl, ?_⟩) (by assumption) ?_
    rotate_left
    · intro w hSw
      go_simp
      all_goals with_reducible rfl
    simp only [Act.put, List.setIfInBounds_toArray, List.set_cons_zero, List.set_cons_succ]
    refine wpAnyH_take (i := 6) (oi := ⟨_, _, _, _, _, _⟩) (v := ?_) rfl (by kernel_rfl) (by kernel_rfl) (by kernel_rfl) (fun _ _ _ h => h) (Or.inl ⟨by rfl, ?_⟩) (by assumption) ?_
    rotate_left
    · intro w hSw
      go_simp
      all_goals with_reducible rfl
    simp only [Act.put, List.setIfInBounds_toArray, List.set_cons_zero, List.set_cons_succ]
    refine wpAnyH_take (i := 7) (oi := ⟨_, _, _, _, _, _⟩) (v := ?_) rfl (by kernel_rfl) (by kernel_rfl) (by kernel_rfl) (fun _ _ _ h => h) (Or.inl ⟨by rfl, ?_⟩) (by assumption) ?_
    rotate_left
    · intro w hSw
      go_simp
      all_goals with_reducible rfl
    simp only [Act.put, List.setIfInBounds_toArray, List.set_cons_zero, List.set_cons_succ]
    refine wpAnyH_take (i := 8) (oi := ⟨_, _, _, _, _, _⟩) (v := ?_) rfl (by kernel_rfl) (by kernel_rfl) (by kernel_rfl) (fun _ _ _ h => h) (Or.inl ⟨by rfl, ?_⟩) (by assumption) ?_
    rotate_left
    · intro w hSw
      go_simp
      all_goals with_reducible rfl
    simp only [Act.put, List.setIfInBounds_toArray, List.set_cons_zero, List.set_cons_succ]
    refine wpAnyH_ready (rs := [4, 9]) (by kernel_rfl) (by simp) ?_
    refine AllReadyH.cons (o := ⟨_, _, _, _, _, _⟩) rfl (fun K hK => ?_) (AllReadyH.cons (o := ⟨_, _, _, _, _, _⟩) rfl (fun K hK => ?_) AllReadyH.nil)
    · go_simp
      go_wp2_with fail
      refine hK.out _ _ (by assumption) (fun hHeld => ?_)
      clear hK K
      try simp only [Act.put, List.setIfInBounds_toArray, List.set_cons_zero, List.set_cons_succ]
      refine wpAnyH_ready (rs := [9]) (by kernel_rfl) (by simp) ?_
      refine AllReadyH.cons (o := ⟨_, _, _, _, _, _⟩) rfl (fun K hK => ?_) AllReadyH.nil
      go_simp
      go_wp2_with fail
      refine hK.out _ _ ((Below.cell (p := ⟨tb, 2, none⟩) ((Below.refl w2.heap.size w2).alloc (Nat.le_refl _) _).drew HROW2.out.lt).trans cm2) (fun hHeld => ?_)
      clear hK K
      try simp only [Act.put, List.setIfInBounds_toArray, List.set_cons_zero, List.set_cons_succ]
      have b3 : Below w2.heap.size w2 (w2.alloc (.cells #[.int .i64 xm, .int .i64 x] 42)).drew := ((Below.refl w2.heap.size w2).alloc (Nat.le_refl _) _).drew
      refine wpAnyH_ready (rs := [10]) (by kernel_rfl) (by simp) ?_
      refine AllReadyH.cons (o := ⟨_, _, _, _, _, _⟩) rfl (fun K hK => ?_) AllReadyH.nil
      rw [if_pos (by rfl)]
      refine wp_append_irow Try.underlying32 pass_info rfl (by decide) (by decide) (.tmp 28) (.tmp 33) B (S.ps.map p2) [xm, x] rfl w2.heap.size 1 vp (HE.out.below b3).ps HPS.out (by have := HE.out.hB; have := HE.out.row.lt; have := b3.size; omega) (irow_new w2 [xm, x] 42) rfl rfl rfl (fun v' w3 hown' hg' => ?_)
      obtain ⟨A', n', c', rfl⟩ := hown'.slice3
      have hrow3 : RowAt w3 tb 52 _ := (hg'.block tb (Nat.lt_of_lt_of_le HROW2.out.lt b3.size) (fun e => HE.out.ps.ne_row (by decide) HROW2.out tb e.symm rfl)).trans (HROW2.out.below b3 HROW2.out.lt)
      have cm3 : w3.cell? ⟨tb, 2, none⟩ = some (.int .i64 xm) := hrow3.cell 2
      have hnb3 : w3.heap[nb]? = w2.heap[nb]? := (hg'.block nb (Nat.lt_of_lt_of_le HE.out.row.lt b3.size) (fun e => HE.out.ps.ne_row (by decide) HE.out.row nb e.symm rfl)).trans (b3.block nb HE.out.row.lt)
      have cp3 : w3.cell? ⟨nb, 13, none⟩ = some vp := RowAt.cell (hnb3.trans HE.out.row) 13
      have fp3 : w3.frozen? ⟨nb, 13, none⟩ = false := RowAt.free (hnb3.trans HE.out.row) 13
      have HE3 := Lib.hid (HE.out.pushP (S' := { S with left := S.left - x, pa := S.pa + x, ps := S.ps ++ ext }) b3 (by rw [← HEX.out, List.map_append]; exact hown') hg' rfl rfl rfl)
      have HB3 := Lib.hid (HBE.out.trans ((Turn.of_below b3 (Nat.le_of_lt (Nat.lt_of_le_of_lt HE.out.hB HE.out.row.lt))).trans ((Turn.of_grown hg' (HE.out.below b3).ps (by have := HE.out.hB; have := HE.out.row.lt; have := b3.size; omega)).trans (Turn.of_set (hnb3.trans HE.out.row) HE.out.hB 13 (.slice A' n' c')))))
      refine hK.out _ _ cm3 (fun hHeld => ?_)
      clear hK K
      simp only [Act.put, List.setIfInBounds_toArray, List.set_cons_zero, List.set_cons_succ]
      clear hown' hg' b3 hnb3
      refine wpAnyH_take (i := 11) (oi := ⟨_, _, _, _, _, _⟩) (v := ?_) rfl (by kernel_rfl) (by kernel_rfl) (by kernel_rfl) (fun _ _ _ h => h) (Or.inl ⟨by rfl, ?_⟩) (by assumption) ?_
      rotate_left
      · intro w hSw
        go_simp
        all_goals with_reducible rfl
      simp only [Act.put, List.setIfInBounds_toArray, List.set_cons_zero, List.set_cons_succ]
      refine wpAnyH_take (i := 12) (oi := ⟨_, _, _, _, _, _⟩) (v := ?_) rfl (by kernel_rfl) (by kernel_rfl) (by kernel_rfl) (fun _ _ _ h => h) (Or.inl ⟨by rfl, ?_⟩) (by assumption) ?_
      rotate_left
      · intro w hSw
        go_simp
        all_goals with_reducible rfl
      simp only [Act.put, List.setIfInBounds_toArray, List.set_cons_zero, List.set_cons_succ]
      refine wpAnyH_ready (rs := [13]) (by kernel_rfl) (by simp) ?_
      refine AllReadyH.cons (o := ⟨_, _, _, _, _, _⟩) rfl (fun K hK => ?_) AllReadyH.nil
      go_simp
      go_wp2_with fail
      refine hK.out _ _ ((cell_same (Below.heap_setCell w3 ⟨nb, 13, none⟩ _ tb htn)).trans cm3) (fun hHeld => ?_)
      clear hK K
      try simp only [Act.put, List.setIfInBounds_toArray, List.set_cons_zero, List.set_cons_succ]
      refine wpAnyH_done (by kernel_rfl) ?_ _
      clear hHeld
      go_wp2_with fail
      go_end0
      exact ⟨rfl, ⟨_, HE3.out⟩, HB3.out⟩
    · go_simp
      go_wp2_with fail
      refine hK.out _ _ ((Below.cell (p := ⟨tb, 2, none⟩) ((Below.refl w2.heap.size w2).alloc (Nat.le_refl _) _).drew HROW2.out.lt).trans cm2) (fun hHeld => ?_)
      clear hK K
      try simp only [Act.put, List.setIfInBounds_toArray, List.set_cons_zero, List.set_cons_succ]
      refine wpAnyH_ready (rs := [4]) (by kernel_rfl) (by simp) ?_
      refine AllReadyH.cons (o := ⟨_, _, _, _, _, _⟩) rfl (fun K hK => ?_) AllReadyH.nil
      go_simp
      go_wp2_with fail
      refine hK.out _ _ (by assumption) (fun hHeld => ?_)
      clear hK K
      try simp only [Act.put, List.setIfInBounds_toArray, List.set_cons_zero, List.set_cons_succ]
      have b3 : Below w2.heap.size w2 (w2.alloc (.cells #[.int .i64 xm, .int .i64 x] 42)).drew := ((Below.refl w2.heap.size w2).alloc (Nat.le_refl _) _).drew
      refine wpAnyH_ready (rs := [10]) (by kernel_rfl) (by simp) ?_
      refine AllReadyH.cons (o := ⟨_, _, _, _, _, _⟩) rfl (fun K hK => ?_) AllReadyH.nil
      rw [if_pos (by rfl)]
      refine wp_append_irow Try.underlying32 pass_info rfl (by decide) (by decide) (.tmp 28) (.tmp 33) B (S.ps.map p2) [xm, x] rfl w2.heap.size 1 vp (HE.out.below b3).ps HPS.out (by have := HE.out.hB; have := HE.out.row.lt; have := b3.size; omega) (irow_new w2 [xm, x] 42) rfl rfl rfl (fun v' w3 hown' hg' => ?_)
      obtain ⟨A', n', c', rfl⟩ := hown'.slice3
      have hrow3 : RowAt w3 tb 52 _ := (hg'.block tb (Nat.lt_of_lt_of_le HROW2.out.lt b3.size) (fun e => HE.out.ps.ne_row (by decide) HROW2.out tb e.symm rfl)).trans (HROW2.out.below b3 HROW2.out.lt)
      have cm3 : w3.cell? ⟨tb, 2, none⟩ = some (.int .i64 xm) := hrow3.cell 2
      have hnb3 : w3.heap[nb]? = w2.heap[nb]? := (hg'.block nb (Nat.lt_of_lt_of_le HE.out.row.lt b3.size) (fun e => HE.out.ps.ne_row (by decide) HE.out.row nb e.symm rfl)).trans (b3.block nb HE.out.row.lt)
      have cp3 : w3.cell? ⟨nb, 13, none⟩ = some vp := RowAt.cell (hnb3.trans HE.out.row) 13
      have fp3 : w3.frozen? ⟨nb, 13, none⟩ = false := RowAt.free (hnb3.trans HE.out.row) 13
      have HE3 := Lib.hid (HE.out.pushP (S' := { S with left := S.left - x, pa := S.pa + x, ps := S.ps ++ ext }) b3 (by rw [← HEX.out, List.map_append]; exact hown') hg' rfl rfl rfl)
      have HB3 := Lib.hid (HBE.out.trans ((Turn.of_below b3 (Nat.le_of_lt (Nat.lt_of_le_of_lt HE.out.hB HE.out.row.lt))).trans ((Turn.of_grown hg' (HE.out.below b3).ps (by have := HE.out.hB; have := HE.out.row.lt; have := b3.size; omega)).trans (Turn.of_set (hnb3.trans HE.out.row) HE.out.hB 13 (.slice A' n' c')))))
      refine hK.out _ _ cm3 (fun hHeld => ?_)
      clear hK K
      simp only [Act.put, List.setIfInBounds_toArray, List.set_cons_zero, List.set_cons_succ]
      clear hown' hg' b3 hnb3
      refine wpAnyH_take (i := 11) (oi := ⟨_, _, _, _, _, _⟩) (v := ?_) rfl (by kernel_rfl) (by kernel_rfl) (by kernel_rfl) (fun _ _ _ h => h) (Or.inl ⟨by rfl, ?_⟩) (by assumption) ?_
      rotate_left
      · intro w hSw
        go_simp
        all_goals with_reducible rfl
      simp only [Act.put, List.setIfInBounds_toArray, List.set_cons_zero, List.set_cons_succ]
      refine wpAnyH_take (i := 12) (oi := ⟨_, _, _, _, _, _⟩) (v := ?_) rfl (by kernel_rfl) (by kernel_rfl) (by kernel_rfl) (fun _ _ _ h => h) (Or.inl ⟨by rfl, ?_⟩) (by assumption) ?_
      rotate_left
      · intro w hSw
        go_simp
        all_goals with_reducible rfl
      simp only [Act.put, List.setIfInBounds_toArray, List.set_cons_zero, List.set_cons_succ]
      refine wpAnyH_ready (rs := [13]) (by kernel_rfl) (by simp) ?_
      refine AllReadyH.cons (o := ⟨_, _, _, _, _, _⟩) rfl (fun K hK => ?_) AllReadyH.nil
      go_simp
      go_wp2_with fail
      refine hK.out _ _ ((cell_same (Below.heap_setCell w3 ⟨nb, 13, none⟩ _ tb htn)).trans cm3) (fun hHeld => ?_)
      clear hK K
      try simp only [Act.put, List.setIfInBounds_toArray, List.set_cons_zero, List.set_cons_succ]
      refine wpAnyH_done (by kernel_rfl) ?_ _
      clear hHeld
      go_wp2_with fail
      go_end0
      exact ⟨rfl, ⟨_, HE3.out⟩, HB3.out⟩
  · have HEX := Lib.hid (show [] = ext by rw [← HEXT.out, if_neg hx0])
    clear HEXT
    go_wp2_with fail
    go_end0
    exact ⟨rfl, ⟨vp, by rw [← HEX.out, List.append_nil]; exact HE.out⟩, HBE.out⟩
theorem res_any {T : Int} (B nb mb : Nat) (R : RowV) (S : StV) (vp vr vb : Value) (t : TermV) (va : Value) (w : World) (hs : SetAt B w nb mb R S vp vr vb) (hg : GoodS T S) (hT : T ≤ 1000000000000000000) (hn : inR t.n 1 1000000 = true) (hm : inR t.m 1 24 = true) (hq : 0 ≤ R.p ∧ R.p ≤ 100000) (hlen : S.rs.length ≤ 100000) :
    Calls Try.prog 42 #[.pointer (some ⟨nb, 0, none⟩), .agg (termC t va)] w fun e w' => e = .returned (.tuple #[]) ∧ (∃ vr', SetAt B w' nb mb R (resStep R.h R.p S t) vp vr' vb) ∧ Turn B w w' := by
  have hp := hg.part hn
  have hnb := inR_iff.1 hn
  have hmb := inR_iff.1 hm
  have g1 := hg.l0
  have g2 := hg.p0
  have g3 := hg.t0
  have g4 := hg.r0
  have g5 := hg.o0
  have g6 := hg.c0
  have g7 := hg.sum
  have PT := Lib.hid (fun W => part_any S.left t.n g1 (by omega) (by omega) hnb.2 W)
  have hst : resStep R.h R.p S t = { S with left := S.left - partN S.left t.n, re := S.re + partN S.left t.n, rs := S.rs ++ if 0 < partN S.left t.n then [(R.h, R.p + t.m, partN S.left t.n)] else [] } := rfl
  rw [hst]
  obtain ⟨x, hx⟩ : ∃ x, partN S.left t.n = x := ⟨_, rfl⟩
  rw [hx] at hp PT ⊢
  have TK := Lib.hid (fun (W : World) (h : SetAt B W nb mb R S vp vr vb) => take_any nb 8 x S.left S.re (setC R S vp vr vb (.map (some mb))) W h.row rfl rfl (by omega) (by omega) (by omega) (by omega) (by omega))
  obtain ⟨xk, hxk⟩ : ∃ z, t.k = z := ⟨_, rfl⟩
  obtain ⟨xn, hxn⟩ : ∃ z, t.n = z := ⟨_, rfl⟩
  obtain ⟨xm, hxm⟩ : ∃ z, t.m = z := ⟨_, rfl⟩
  obtain ⟨xa, hxa⟩ : ∃ z, t.ab = z := ⟨_, rfl⟩
  rw [show termC t va = #[.int .i64 xk, .int .i64 xn, .int .i64 xm, .int .i64 xa, va] by unfold termC; rw [hxk, hxn, hxm, hxa]]
  obtain ⟨W, hW⟩ : ∃ x, w.alloc (.cells #[.int .i64 xk, .int .i64 xn, .int .i64 xm, .int .i64 xa, va] 52) = x := ⟨_, rfl⟩
  have hbW : Below w.heap.size w W := by rw [← hW]; exact (Below.refl _ _).alloc (Nat.le_refl _) _
  have hrow : RowAt W w.heap.size 52 #[.int .i64 xk, .int .i64 xn, .int .i64 xm, .int .i64 xa, va] := by rw [← hW]; exact RowAt.new w _ _
  obtain ⟨tb, htb⟩ : ∃ x, w.heap.size = x := ⟨_, rfl⟩
  have htlt : tb < W.heap.size := by rw [← htb]; exact hrow.lt
  have hs0 := hs.below hbW
  have hBw : B ≤ w.heap.size := Nat.le_of_lt (Nat.lt_of_le_of_lt hs.hB hs.row.lt)
  have HBW : Hid (Turn B w W) := Lib.hid (Turn.of_below hbW hBw)
  rw [htb] at hrow
  have htn : tb ≠ nb := by have := hs.row.lt; omega
  rw [hxn] at PT
  have HS0 := Lib.hid hs0
  obtain ⟨l, hl⟩ : ∃ z, S.left = z := ⟨_, rfl⟩
  obtain ⟨h0, hh0⟩ : ∃ z, R.h = z := ⟨_, rfl⟩
  obtain ⟨q0, hq0⟩ : ∃ z, R.p = z := ⟨_, rfl⟩
  have cl : W.cell? ⟨nb, 12, none⟩ = some (.int .i64 l) := by rw [← hl]; exact hs0.row.cell 12
  have cn : W.cell? ⟨tb, 1, none⟩ = some (.int .i64 xn) := hrow.cell 1
  have HH0 := Lib.hid hh0
  have HQ0 := Lib.hid hq0
  rw [hl] at PT
  rw [hxm, hh0, hq0]
  rw [hxm] at hmb
  rw [hq0] at hq
  obtain ⟨pm, hpm⟩ : ∃ z, q0 + xm = z := ⟨_, rfl⟩
  have wpm : IntKind.i64.wrap (q0 + xm) = pm := by rw [hpm]; exact IntWalk.i64_in _ (by omega)
  rw [hpm]
  obtain ⟨ext, hext⟩ : ∃ z, (if 0 < x then [(h0, pm, x)] else []) = z := ⟨_, rfl⟩
  rw [hext]
  have HEXT := Lib.hid hext
  have HROW := Lib.hid hrow
  have hps : (S.rs.map p3).length ≤ 1000000 := by rw [List.length_map]; omega
  have HPS := Lib.hid hps
  have HX0 := Lib.hid hp.1
  clear hst hx hg hn hm hq hT hp hnb hmb hs hs0 hbW hrow g1 g2 g3 g4 g5 g6 g7 hxk hxn hxm hxa hl hh0 hq0 hpm hps hlen hext
  go_enter Try.func42, Try.ntmps42
  go_wp2_with fail
  clear hW htb
  refine wp_region_held_drew (S := fun W' => W'.cell? ⟨tb, 1, none⟩ = some (.int .i64 xn)) (by kernel_rfl) cn (fun hHeld => ?_)
  refine wpAnyH_take (i := 0) (oi := ⟨_, _, _, _, _, _⟩) (v := ?_) rfl (by kernel_rfl) (by kernel_rfl) (by kernel_rfl) (fun _ _ _ h => h) (Or.inl ⟨by rfl, ?_⟩) (by assumption) ?_
  rotate_left
  · intro w hSw
    go_simp
    all_goals with_reducible rfl
  simp only [Act.put, List.setIfInBounds_toArray, List.set_cons_zero, List.set_cons_succ]
  refine wpAnyH_take (i := 1) (oi := ⟨_, _, _, _, _, _⟩) (v := ?_) rfl (by kernel_rfl) (by kernel_rfl) (by kernel_rfl) (fun _ _ _ h => h) (Or.inl ⟨by rfl, ?_⟩) (by assumption) ?_
  rotate_left
  · intro w hSw
    go_simp
    all_goals with_reducible rfl
  simp only [Act.put, List.setIfInBounds_toArray, List.set_cons_zero, List.set_cons_succ]
  refine wpAnyH_take (i := 2) (oi := ⟨_, _, _, _, _, _⟩) (v := ?_) rfl (by kernel_rfl) (by kernel_rfl) (by kernel_rfl) (fun _ _ _ h => h) (Or.inl ⟨by rfl, ?_⟩) (by assumption) ?_
  rotate_left
  · intro w hSw
    go_simp
    all_goals with_reducible rfl
  simp only [Act.put, List.setIfInBounds_toArray, List.set_cons_zero, List.set_cons_succ]
  refine wpAnyH_take (i := 3) (oi := ⟨_, _, _, _, _, _⟩) (v := ?_) rfl (by kernel_rfl) (by kernel_rfl) (by kernel_rfl) (fun _ _ _ h => h) (Or.inl ⟨by rfl, ?_⟩) (by assumption) ?_
  rotate_left
  · intro w hSw
    go_simp
    all_goals with_reducible rfl
  simp only [Act.put, List.setIfInBounds_toArray, List.set_cons_zero, List.set_cons_succ]
  refine wpAnyH_take (i := 5) (oi := ⟨_, _, _, _, _, _⟩) (v := ?_) rfl (by kernel_rfl) (by kernel_rfl) (by kernel_rfl) (fun _ _ _ h => h) (Or.inl ⟨by rfl, ?_⟩) (by assumption) ?_
  rotate_left
  · intro w hSw
    go_simp
    all_goals with_reducible rfl
  simp only [Act.put, List.setIfInBounds_toArray, List.set_cons_zero, List.set_cons_succ]
  refine wpAnyH_take (i := 6) (oi := ⟨_, _, _, _, _, _⟩) (v := ?_) rfl (by kernel_rfl) (by kernel_rfl) (by kernel_rfl) (fun _ _ _ h => h) (Or.inl ⟨by rfl, ?_⟩) (by assumption) ?_
  rotate_left
  · intro w hSw
    go_simp
    all_goals with_reducible rfl
  simp only [Act.put, List.setIfInBounds_toArray, List.set_cons_zero, List.set_cons_succ]
  refine wpAnyH_take (i := 8) (oi := ⟨_, _, _, _, _, _⟩) (v := ?_) rfl (by kernel_rfl) (by kernel_rfl) (by kernel_rfl) (fun _ _ _ h => h) (Or.inl ⟨by rfl, ?_⟩) (by assumption) ?_
  rotate_left
  · intro w hSw
    go_simp
    all_goals with_reducible rfl
  simp only [Act.put, List.setIfInBounds_toArray, List.set_cons_zero, List.set_cons_succ]
  refine wpAnyH_take (i := 9) (oi := ⟨_, _, _, _, _, _⟩) (v := ?_) rfl (by kernel_rfl) (by kernel_rfl) (by kernel_rfl) (fun _ _ _ h => h) (Or.inl ⟨by rfl, ?_⟩) (by assumption) ?_
  rotate_left
  · intro w hSw
    go_simp
    all_goals with_reducible rfl
  simp only [Act.put, List.setIfInBounds_toArray, List.set_cons_zero, List.set_cons_succ]
  refine wpAnyH_take (i := 10) (oi := ⟨_, _, _, _, _, _⟩) (v := ?_) rfl (by kernel_rfl) (by kernel_rfl) (by kernel_rfl) (fun _ _ _ h => h) (Or.inl ⟨by rfl, ?_⟩) (by assumption) ?_
  rotate_left
  · intro w hSw
    go_simp
    all_goals with_reducible rfl
  simp only [Act.put, List.setIfInBounds_toArray, List.set_cons_zero, List.set_cons_succ]
  refine wpAnyH_take (i := 11) (oi := ⟨_, _, _, _, _, _⟩) (v := ?_) rfl (by kernel_rfl) (by kernel_rfl) (by kernel_rfl) (fun _ _ _ h => h) (Or.inl ⟨by rfl, ?_⟩) (by assumption) ?_
  rotate_left
  · intro w hSw
    go_simp
    all_goals with_reducible rfl
  simp only [Act.put, List.setIfInBounds_toArray, List.set_cons_zero, List.set_cons_succ]
  refine wpAnyH_ready (rs := [4]) (by kernel_rfl) (by simp) ?_
  refine AllReadyH.cons (o := ⟨_, _, _, _, _, _⟩) rfl (fun K hK => ?_) AllReadyH.nil
  go_simp
  go_wp2_with fail
  refine hK.out _ _ (by assumption) (fun hHeld => ?_)
  clear hK K
  try simp only [Act.put, List.setIfInBounds_toArray, List.set_cons_zero, List.set_cons_succ]
  refine wpAnyH_ready (rs := [7]) (by kernel_rfl) (by simp) ?_
  refine AllReadyH.cons (o := ⟨_, _, _, _, _, _⟩) rfl (fun K hK => ?_) AllReadyH.nil
  go_simp
  go_at_call 51
  refine (PT.out _).mono ?_
  rintro e w1 ⟨rfl, hb⟩
  go_wp2_with fail
  refine hK.out _ _ (by rw [hb.cell (p := ⟨tb, 1, none⟩) htlt]; exact cn) (fun hHeld => ?_)
  clear hK K
  try simp only [Act.put, List.setIfInBounds_toArray, List.set_cons_zero, List.set_cons_succ]
  have HS1 := Lib.hid (HS0.out.below ((Below.refl W.heap.size W).drew.trans hb))
  have HB1 := Lib.hid (HBW.out.trans (Turn.of_below ((Below.refl W.heap.size W).drew.trans hb) (by have := HS0.out.hB; have := HS0.out.row.lt; omega)))
  have cn1 : w1.cell? ⟨tb, 1, none⟩ = some (.int .i64 xn) := by rw [hb.cell (p := ⟨tb, 1, none⟩) htlt]; exact cn
  have HROW1 := Lib.hid (HROW.out.below ((Below.refl W.heap.size W).drew.trans hb) htlt)
  clear hb
  refine wpAnyH_ready (rs := [12]) (by kernel_rfl) (by simp) ?_
  refine AllReadyH.cons (o := ⟨_, _, _, _, _, _⟩) rfl (fun K hK => ?_) AllReadyH.nil
  go_simp
  go_at_call 50
  refine (TK.out w1 HS1.out).mono ?_
  rintro e w2 ⟨rfl, hr2, ho⟩
  go_wp2_with fail
  refine hK.out _ _ (by rw [cell_same (ho.other tb htn)]; exact cn1) (fun hHeld => ?_)
  clear hK K
  try simp only [Act.put, List.setIfInBounds_toArray, List.set_cons_zero, List.set_cons_succ]
  refine wpAnyH_take (i := 13) (oi := ⟨_, _, _, _, _, _⟩) (v := ?_) rfl (by kernel_rfl) (by kernel_rfl) (by kernel_rfl) (fun _ _ _ h => h) (Or.inl ⟨by rfl, ?_⟩) (by assumption) ?_
  rotate_left
  · intro w hSw
    go_simp
    all_goals with_reducible rfl
  simp only [Act.put, List.setIfInBounds_toArray, List.set_cons_zero, List.set_cons_succ]

  refine wpAnyH_done (by kernel_rfl) ?_ _
  have HE := Lib.hid (HS1.out.only ho hr2 (S' := { S with left := S.left - x, re := S.re + x }) rfl rfl rfl)
  have HBE := Lib.hid (HB1.out.trans (Turn.of_only ho HS1.out.row HS1.out.hB))
  have HROW2 : Hid (RowAt w2 tb 52 #[.int .i64 xk, .int .i64 xn, .int .i64 xm, .int .i64 xa, va]) := Lib.hid ((ho.other tb htn).trans HROW1.out)
  have cm2 : w2.cell? ⟨tb, 2, none⟩ = some (.int .i64 xm) ∧ w2.cell? ⟨nb, 0, none⟩ = some (.int .i64 h0) ∧ w2.cell? ⟨nb, 1, none⟩ = some (.int .i64 q0) := ⟨HROW2.out.cell 2, by rw [← HH0.out]; exact HE.out.row.cell 0, by rw [← HQ0.out]; exact HE.out.row.cell 1⟩
  have cp2 : w2.cell? ⟨nb, 14, none⟩ = some vr := HE.out.row.cell 14
  have hnlt : nb < w2.heap.size := HE.out.row.lt
  have fp2 : w2.frozen? ⟨nb, 14, none⟩ = false := HE.out.row.free 14
  clear HROW HROW1
  clear hr2 ho cn cn1 cl hHeld HS1 HB1 TK PT
  by_cases hx0 : 0 < x
  · have HEX := Lib.hid (show [(h0, pm, x)] = ext by rw [← HEXT.out, if_pos hx0])
    clear HEXT
    go_wp2_with fail
    clear hx0
    refine wp_region_held_drew (S := fun W' => W'.cell? ⟨tb, 2, none⟩ = some (.int .i64 xm) ∧ W'.cell? ⟨nb, 0, none⟩ = some (.int .i64 h0) ∧ W'.cell? ⟨nb, 1, none⟩ = some (.int .i64 q0)) (by kernel_rfl) cm2 (fun hHeld => ?_)
    refine wpAnyH_take (i := 0) (oi := ⟨_, _, _, _, _, _⟩) (v := ?_) rfl (by kernel_rfl) (by kernel_rfl) (by kernel_rfl) (fun _ _ _ h => h) (Or.inl ⟨by rfl, ?_⟩) (by assumption) ?_
    rotate_left
    · intro w hSw
      go_simp
      all_goals with_reducible rfl
    simp only [Act.put, List.setIfInBounds_toArray, List.set_cons_zero, List.set_cons_succ]
    refine wpAnyH_take (i := 1) (oi := ⟨_, _, _, _, _, _⟩) (v := ?_) rfl (by kernel_rfl) (by kernel_rfl) (by kernel_rfl) (fun _ _ _ h => h) (Or.inl ⟨by rfl, ?_⟩) (by assumption) ?_
    rotate_left
    · intro w hSw
      go_simp
      all_goals with_reducible rfl
    simp only [Act.put, List.setIfInBounds_toArray, List.set_cons_zero, List.set_cons_succ]
    refine wpAnyH_take (i := 2) (oi := ⟨_, _, _, _, _, _⟩) (v := ?_) rfl (by kernel_rfl) (by kernel_rfl) (by kernel_rfl) (fun _ _ _ h => h) (Or.inl ⟨by rfl, ?_⟩) (by assumption) ?_
    rotate_left
    · intro w hSw
      go_simp
      all_goals with_reducible rfl
    simp only [Act.put, List.setIfInBounds_toArray, List.set_cons_zero, List.set_cons_succ]
    refine wpAnyH_take (i := 3) (oi := ⟨_, _, _, _, _, _⟩) (v := ?_) rfl (by kernel_rfl) (by kernel_rfl) (by kernel_rfl) (fun _ _ _ h => h) (Or.inl ⟨by rfl, ?_⟩) (by assumption) ?_
    rotate_left
    · intro w hSw
      go_simp
      all_goals with_reducible rfl
    simp only [Act.put, List.setIfInBounds_toArray, List.set_cons_zero, List.set_cons_succ]
    refine wpAnyH_take (i := 5) (oi := ⟨_, _, _, _, _, _⟩) (v := ?_) rfl (by kernel_rfl) (by kernel_rfl) (by kernel_rfl) (fun _ _ _ h => h) (Or.inl ⟨by rfl, ?_⟩) (by assumption) ?_
    rotate_left
    · intro w hSw
      go_simp
      all_goals with_reducible rfl
    simp only [Act.put, List.setIfInBounds_toArray, List.set_cons_zero, List.set_cons_succ]
    refine wpAnyH_take (i := 6) (oi := ⟨_, _, _, _, _, _⟩) (v := ?_) rfl (by kernel_rfl) (by kernel_rfl) (by kernel_rfl) (fun _ _ _ h => h) (Or.inl ⟨by rfl, ?_⟩) (by assumption) ?_
    rotate_left
    · intro w hSw
      go_simp
      all_goals with_reducible rfl
    simp only [Act.put, List.setIfInBounds_toArray, List.set_cons_zero, List.set_cons_succ]
    refine wpAnyH_take (i := 7) (oi := ⟨_, _, _, _, _, _⟩) (v := ?_) rfl (by kernel_rfl) (by kernel_rfl) (by kernel_rfl) (fun _ _ _ h => h) (Or.inl ⟨by rfl, ?_⟩) (by assumption) ?_
    rotate_left
    · intro w hSw
      go_simp
      all_goals with_reducible rfl
    simp only [Act.put, List.setIfInBounds_toArray, List.set_cons_zero, List.set_cons_succ]
    refine wpAnyH_take (i := 8) (oi := ⟨_, _, _, _, _, _⟩) (v := ?_) rfl (by kernel_rfl) (by kernel_rfl) (by kernel_rfl) (fun _ _ _ h => h) (Or.inl ⟨by rfl, ?_⟩) (by assumption) ?_
    rotate_left
    · intro w hSw
      go_simp
      all_goals with_reducible rfl
    simp only [Act.put, List.setIfInBounds_toArray, List.set_cons_zero, List.set_cons_succ]
    refine wpAnyH_take (i := 9) (oi := ⟨_, _, _, _, _, _⟩) (v := ?_) rfl (by kernel_rfl) (by kernel_rfl) (by kernel_rfl) (fun _ _ _ h => h) (Or.inl ⟨by rfl, ?_⟩) (by assumption) ?_
    rotate_left
    · intro w hSw
      obtain ⟨hc1, hc2, hc3⟩ := hSw
      go_simp
      all_goals with_reducible rfl
    simp only [Act.put, List.setIfInBounds_toArray, List.set_cons_zero, List.set_cons_succ]
    refine wpAnyH_take (i := 10) (oi := ⟨_, _, _, _, _, _⟩) (v := ?_) rfl (by kernel_rfl) (by kernel_rfl) (by kernel_rfl) (fun _ _ _ h => h) (Or.inl ⟨by rfl, ?_⟩) (by assumption) ?_
    rotate_left
    · intro w hSw
      go_simp
      all_goals with_reducible rfl
    simp only [Act.put, List.setIfInBounds_toArray, List.set_cons_zero, List.set_cons_succ]
    refine wpAnyH_take (i := 11) (oi := ⟨_, _, _, _, _, _⟩) (v := ?_) rfl (by kernel_rfl) (by kernel_rfl) (by kernel_rfl) (fun _ _ _ h => h) (Or.inl ⟨by rfl, ?_⟩) (by assumption) ?_
    rotate_left
    · intro w hSw
      go_simp
      all_goals with_reducible rfl
    simp only [Act.put, List.setIfInBounds_toArray, List.set_cons_zero, List.set_cons_succ]
    refine wpAnyH_take (i := 12) (oi := ⟨_, _, _, _, _, _⟩) (v := ?_) rfl (by kernel_rfl) (by kernel_rfl) (by kernel_rfl) (fun _ _ _ h => h) (Or.inl ⟨by rfl, ?_⟩) (by assumption) ?_
    rotate_left
    · intro w hSw
      go_simp
      all_goals with_reducible rfl
    simp only [Act.put, List.setIfInBounds_toArray, List.set_cons_zero, List.set_cons_succ]
    refine wpAnyH_take (i := 13) (oi := ⟨_, _, _, _, _, _⟩) (v := ?_) rfl (by kernel_rfl) (by kernel_rfl) (by kernel_rfl) (fun _ _ _ h => h) (Or.inl ⟨by rfl, ?_⟩) (by assumption) ?_
    rotate_left
    · intro w hSw
      go_simp
      all_goals with_reducible rfl
    simp only [Act.put, List.setIfInBounds_toArray, List.set_cons_zero, List.set_cons_succ]
    refine wpAnyH_take (i := 14) (oi := ⟨_, _, _, _, _, _⟩) (v := ?_) rfl (by kernel_rfl) (by kernel_rfl) (by kernel_rfl) (fun _ _ _ h => h) (Or.inl ⟨by rfl, ?_⟩) (by assumption) ?_
    rotate_left
    · intro w hSw
      obtain ⟨hc1, hc2, hc3⟩ := hSw
      go_simp
      all_goals with_reducible rfl
    simp only [Act.put, List.setIfInBounds_toArray, List.set_cons_zero, List.set_cons_succ]
    refine wpAnyH_take (i := 15) (oi := ⟨_, _, _, _, _, _⟩) (v := ?_) rfl (by kernel_rfl) (by kernel_rfl) (by kernel_rfl) (fun _ _ _ h => h) (Or.inl ⟨by rfl, ?_⟩) (by assumption) ?_
    rotate_left
    · intro w hSw
      go_simp
      all_goals with_reducible rfl
    simp only [Act.put, List.setIfInBounds_toArray, List.set_cons_zero, List.set_cons_succ]
    refine wpAnyH_take (i := 16) (oi := ⟨_, _, _, _, _, _⟩) (v := ?_) rfl (by kernel_rfl) (by kernel_rfl) (by kernel_rfl) (fun _ _ _ h => h) (Or.inl ⟨by rfl, ?_⟩) (by assumption) ?_
    rotate_left
    · intro w hSw
      obtain ⟨hc1, hc2, hc3⟩ := hSw
      go_simp
      all_goals with_reducible rfl
    simp only [Act.put, List.setIfInBounds_toArray, List.set_cons_zero, List.set_cons_succ]
    refine wpAnyH_take (i := 17) (oi := ⟨_, _, _, _, _, _⟩) (v := ?_) rfl (by kernel_rfl) (by kernel_rfl) (by kernel_rfl) (fun _ _ _ h => h) (Or.inl ⟨by rfl, ?_⟩) (by assumption) ?_
    rotate_left
    · intro w hSw
      go_simp
      all_goals with_reducible rfl
    simp only [Act.put, List.setIfInBounds_toArray, List.set_cons_zero, List.set_cons_succ]
    refine wpAnyH_take (i := 18) (oi := ⟨_, _, _, _, _, _⟩) (v := ?_) rfl (by kernel_rfl) (by kernel_rfl) (by kernel_rfl) (fun _ _ _ h => h) (Or.inl ⟨by rfl, ?_⟩) (by assumption) ?_
    rotate_left
    · intro w hSw
      go_simp
      all_goals with_reducible rfl
    simp only [Act.put, List.setIfInBounds_toArray, List.set_cons_zero, List.set_cons_succ]
    refine wpAnyH_take (i := 19) (oi := ⟨_, _, _, _, _, _⟩) (v := ?_) rfl (by kernel_rfl) (by kernel_rfl) (by kernel_rfl) (fun _ _ _ h => h) (Or.inl ⟨by rfl, ?_⟩) (by assumption) ?_
    rotate_left
    · intro w hSw
      go_simp
      all_goals with_reducible rfl
    simp only [Act.put, List.setIfInBounds_toArray, List.set_cons_zero, List.set_cons_succ]
    refine wpAnyH_ready (rs := [4, 20]) (by kernel_rfl) (by simp) ?_
    refine AllReadyH.cons (o := ⟨_, _, _, _, _, _⟩) rfl (fun K hK => ?_) (AllReadyH.cons (o := ⟨_, _, _, _, _, _⟩) rfl (fun K hK => ?_) AllReadyH.nil)
    · go_simp
      go_wp2_with fail
      refine hK.out _ _ (by assumption) (fun hHeld => ?_)
      clear hK K
      try simp only [Act.put, List.setIfInBounds_toArray, List.set_cons_zero, List.set_cons_succ]
      refine wpAnyH_ready (rs := [20]) (by kernel_rfl) (by simp) ?_
      refine AllReadyH.cons (o := ⟨_, _, _, _, _, _⟩) rfl (fun K hK => ?_) AllReadyH.nil
      go_simp
      go_wp2_with fail
      refine hK.out _ _ ⟨(Below.cell (p := ⟨tb, 2, none⟩) ((Below.refl w2.heap.size w2).alloc (Nat.le_refl _) _).drew HROW2.out.lt).trans cm2.1, (Below.cell (p := ⟨nb, 0, none⟩) ((Below.refl w2.heap.size w2).alloc (Nat.le_refl _) _).drew hnlt).trans cm2.2.1, (Below.cell (p := ⟨nb, 1, none⟩) ((Below.refl w2.heap.size w2).alloc (Nat.le_refl _) _).drew hnlt).trans cm2.2.2⟩ (fun hHeld => ?_)
      clear hK K
      try simp only [Act.put, List.setIfInBounds_toArray, List.set_cons_zero, List.set_cons_succ]
      have b3 : Below w2.heap.size w2 (w2.alloc (.cells #[.int .i64 h0, .int .i64 pm, .int .i64 x] 44)).drew := ((Below.refl w2.heap.size w2).alloc (Nat.le_refl _) _).drew
      refine wpAnyH_ready (rs := [21]) (by kernel_rfl) (by simp) ?_
      refine AllReadyH.cons (o := ⟨_, _, _, _, _, _⟩) rfl (fun K hK => ?_) AllReadyH.nil
      rw [if_pos (by rfl)]
      refine wp_append_irow Try.underlying33 reserve_info rfl (by decide) (by decide) (.tmp 24) (.tmp 40) B (S.rs.map p3) [h0, pm, x] rfl w2.heap.size 1 vr (HE.out.below b3).rs HPS.out (by have := HE.out.hB; have := HE.out.row.lt; have := b3.size; omega) (irow_new w2 [h0, pm, x] 44) rfl rfl rfl (fun v' w3 hown' hg' => ?_)
      obtain ⟨A', n', c', rfl⟩ := hown'.slice3
      have hrow3 : RowAt w3 tb 52 _ := (hg'.block tb (Nat.lt_of_lt_of_le HROW2.out.lt b3.size) (fun e => HE.out.rs.ne_row (by decide) HROW2.out tb e.symm rfl)).trans (HROW2.out.below b3 HROW2.out.lt)
      have hnb3 : w3.heap[nb]? = w2.heap[nb]? := (hg'.block nb (Nat.lt_of_lt_of_le HE.out.row.lt b3.size) (fun e => HE.out.rs.ne_row (by decide) HE.out.row nb e.symm rfl)).trans (b3.block nb HE.out.row.lt)
      have cm3 : w3.cell? ⟨tb, 2, none⟩ = some (.int .i64 xm) ∧ w3.cell? ⟨nb, 0, none⟩ = some (.int .i64 h0) ∧ w3.cell? ⟨nb, 1, none⟩ = some (.int .i64 q0) := ⟨hrow3.cell 2, by rw [cell_same hnb3]; exact cm2.2.1, by rw [cell_same hnb3]; exact cm2.2.2⟩
      have cp3 : w3.cell? ⟨nb, 14, none⟩ = some vr := RowAt.cell (hnb3.trans HE.out.row) 14
      have fp3 : w3.frozen? ⟨nb, 14, none⟩ = false := RowAt.free (hnb3.trans HE.out.row) 14
      have HE3 := Lib.hid (HE.out.pushR (S' := { S with left := S.left - x, re := S.re + x, rs := S.rs ++ ext }) b3 (by rw [← HEX.out, List.map_append]; exact hown') hg' rfl rfl rfl)
      have HB3 := Lib.hid (HBE.out.trans ((Turn.of_below b3 (Nat.le_of_lt (Nat.lt_of_le_of_lt HE.out.hB HE.out.row.lt))).trans ((Turn.of_grown hg' (HE.out.below b3).rs (by have := HE.out.hB; have := HE.out.row.lt; have := b3.size; omega)).trans (Turn.of_set (hnb3.trans HE.out.row) HE.out.hB 14 (.slice A' n' c')))))
      have HR3 := Lib.hid (show RowAt w3 nb 59 _ from hnb3.trans HE.out.row)
      refine hK.out _ _ cm3 (fun hHeld => ?_)
      clear hK K
      simp only [Act.put, List.setIfInBounds_toArray, List.set_cons_zero, List.set_cons_succ]
      clear hown' hg' b3 hnb3
      refine wpAnyH_take (i := 22) (oi := ⟨_, _, _, _, _, _⟩) (v := ?_) rfl (by kernel_rfl) (by kernel_rfl) (by kernel_rfl) (fun _ _ _ h => h) (Or.inl ⟨by rfl, ?_⟩) (by assumption) ?_
      rotate_left
      · intro w hSw
        go_simp
        all_goals with_reducible rfl
      simp only [Act.put, List.setIfInBounds_toArray, List.set_cons_zero, List.set_cons_succ]
      refine wpAnyH_take (i := 23) (oi := ⟨_, _, _, _, _, _⟩) (v := ?_) rfl (by kernel_rfl) (by kernel_rfl) (by kernel_rfl) (fun _ _ _ h => h) (Or.inl ⟨by rfl, ?_⟩) (by assumption) ?_
      rotate_left
      · intro w hSw
        go_simp
        all_goals with_reducible rfl
      simp only [Act.put, List.setIfInBounds_toArray, List.set_cons_zero, List.set_cons_succ]
      refine wpAnyH_ready (rs := [24]) (by kernel_rfl) (by simp) ?_
      refine AllReadyH.cons (o := ⟨_, _, _, _, _, _⟩) rfl (fun K hK => ?_) AllReadyH.nil
      go_simp
      go_wp2_with fail
      refine hK.out _ _ ⟨(cell_same (Below.heap_setCell w3 ⟨nb, 14, none⟩ _ tb htn)).trans cm3.1, by rw [(HR3.out.set 14 _).cell 0]; exact (HR3.out.cell 0).symm.trans cm3.2.1, by rw [(HR3.out.set 14 _).cell 1]; exact (HR3.out.cell 1).symm.trans cm3.2.2⟩ (fun hHeld => ?_)
      clear hK K
      try simp only [Act.put, List.setIfInBounds_toArray, List.set_cons_zero, List.set_cons_succ]
      refine wpAnyH_done (by kernel_rfl) ?_ _
      clear hHeld
      go_wp2_with fail
      go_end0
      exact ⟨rfl, ⟨_, HE3.out⟩, HB3.out⟩
    · go_simp
      go_wp2_with fail
      refine hK.out _ _ ⟨(Below.cell (p := ⟨tb, 2, none⟩) ((Below.refl w2.heap.size w2).alloc (Nat.le_refl _) _).drew HROW2.out.lt).trans cm2.1, (Below.cell (p := ⟨nb, 0, none⟩) ((Below.refl w2.heap.size w2).alloc (Nat.le_refl _) _).drew hnlt).trans cm2.2.1, (Below.cell (p := ⟨nb, 1, none⟩) ((Below.refl w2.heap.size w2).alloc (Nat.le_refl _) _).drew hnlt).trans cm2.2.2⟩ (fun hHeld => ?_)
      clear hK K
      try simp only [Act.put, List.setIfInBounds_toArray, List.set_cons_zero, List.set_cons_succ]
      refine wpAnyH_ready (rs := [4]) (by kernel_rfl) (by simp) ?_
      refine AllReadyH.cons (o := ⟨_, _, _, _, _, _⟩) rfl (fun K hK => ?_) AllReadyH.nil
      go_simp
      go_wp2_with fail
      refine hK.out _ _ (by assumption) (fun hHeld => ?_)
      clear hK K
      try simp only [Act.put, List.setIfInBounds_toArray, List.set_cons_zero, List.set_cons_succ]
      have b3 : Below w2.heap.size w2 (w2.alloc (.cells #[.int .i64 h0, .int .i64 pm, .int .i64 x] 44)).drew := ((Below.refl w2.heap.size w2).alloc (Nat.le_refl _) _).drew
      refine wpAnyH_ready (rs := [21]) (by kernel_rfl) (by simp) ?_
      refine AllReadyH.cons (o := ⟨_, _, _, _, _, _⟩) rfl (fun K hK => ?_) AllReadyH.nil
      rw [if_pos (by rfl)]
      refine wp_append_irow Try.underlying33 reserve_info rfl (by decide) (by decide) (.tmp 24) (.tmp 40) B (S.rs.map p3) [h0, pm, x] rfl w2.heap.size 1 vr (HE.out.below b3).rs HPS.out (by have := HE.out.hB; have := HE.out.row.lt; have := b3.size; omega) (irow_new w2 [h0, pm, x] 44) rfl rfl rfl (fun v' w3 hown' hg' => ?_)
      obtain ⟨A', n', c', rfl⟩ := hown'.slice3
      have hrow3 : RowAt w3 tb 52 _ := (hg'.block tb (Nat.lt_of_lt_of_le HROW2.out.lt b3.size) (fun e => HE.out.rs.ne_row (by decide) HROW2.out tb e.symm rfl)).trans (HROW2.out.below b3 HROW2.out.lt)
      have hnb3 : w3.heap[nb]? = w2.heap[nb]? := (hg'.block nb (Nat.lt_of_lt_of_le HE.out.row.lt b3.size) (fun e => HE.out.rs.ne_row (by decide) HE.out.row nb e.symm rfl)).trans (b3.block nb HE.out.row.lt)
      have cm3 : w3.cell? ⟨tb, 2, none⟩ = some (.int .i64 xm) ∧ w3.cell? ⟨nb, 0, none⟩ = some (.int .i64 h0) ∧ w3.cell? ⟨nb, 1, none⟩ = some (.int .i64 q0) := ⟨hrow3.cell 2, by rw [cell_same hnb3]; exact cm2.2.1, by rw [cell_same hnb3]; exact cm2.2.2⟩
      have cp3 : w3.cell? ⟨nb, 14, none⟩ = some vr := RowAt.cell (hnb3.trans HE.out.row) 14
      have fp3 : w3.frozen? ⟨nb, 14, none⟩ = false := RowAt.free (hnb3.trans HE.out.row) 14
      have HE3 := Lib.hid (HE.out.pushR (S' := { S with left := S.left - x, re := S.re + x, rs := S.rs ++ ext }) b3 (by rw [← HEX.out, List.map_append]; exact hown') hg' rfl rfl rfl)
      have HB3 := Lib.hid (HBE.out.trans ((Turn.of_below b3 (Nat.le_of_lt (Nat.lt_of_le_of_lt HE.out.hB HE.out.row.lt))).trans ((Turn.of_grown hg' (HE.out.below b3).rs (by have := HE.out.hB; have := HE.out.row.lt; have := b3.size; omega)).trans (Turn.of_set (hnb3.trans HE.out.row) HE.out.hB 14 (.slice A' n' c')))))
      have HR3 := Lib.hid (show RowAt w3 nb 59 _ from hnb3.trans HE.out.row)
      refine hK.out _ _ cm3 (fun hHeld => ?_)
      clear hK K
      simp only [Act.put, List.setIfInBounds_toArray, List.set_cons_zero, List.set_cons_succ]
      clear hown' hg' b3 hnb3
      refine wpAnyH_take (i := 22) (oi := ⟨_, _, _, _, _, _⟩) (v := ?_) rfl (by kernel_rfl) (by kernel_rfl) (by kernel_rfl) (fun _ _ _ h => h) (Or.inl ⟨by rfl, ?_⟩) (by assumption) ?_
      rotate_left
      · intro w hSw
        go_simp
        all_goals with_reducible rfl
      simp only [Act.put, List.setIfInBounds_toArray, List.set_cons_zero, List.set_cons_succ]
      refine wpAnyH_take (i := 23) (oi := ⟨_, _, _, _, _, _⟩) (v := ?_) rfl (by kernel_rfl) (by kernel_rfl) (by kernel_rfl) (fun _ _ _ h => h) (Or.inl ⟨by rfl, ?_⟩) (by assumption) ?_
      rotate_left
      · intro w hSw
        go_simp
        all_goals with_reducible rfl
      simp only [Act.put, List.setIfInBounds_toArray, List.set_cons_zero, List.set_cons_succ]
      refine wpAnyH_ready (rs := [24]) (by kernel_rfl) (by simp) ?_
      refine AllReadyH.cons (o := ⟨_, _, _, _, _, _⟩) rfl (fun K hK => ?_) AllReadyH.nil
      go_simp
      go_wp2_with fail
      refine hK.out _ _ ⟨(cell_same (Below.heap_setCell w3 ⟨nb, 14, none⟩ _ tb htn)).trans cm3.1, by rw [(HR3.out.set 14 _).cell 0]; exact (HR3.out.cell 0).symm.trans cm3.2.1, by rw [(HR3.out.set 14 _).cell 1]; exact (HR3.out.cell 1).symm.trans cm3.2.2⟩ (fun hHeld => ?_)
      clear hK K
      try simp only [Act.put, List.setIfInBounds_toArray, List.set_cons_zero, List.set_cons_succ]
      refine wpAnyH_done (by kernel_rfl) ?_ _
      clear hHeld
      go_wp2_with fail
      go_end0
      exact ⟨rfl, ⟨_, HE3.out⟩, HB3.out⟩
  · have HEX := Lib.hid (show [] = ext by rw [← HEXT.out, if_neg hx0])
    clear HEXT
    go_wp2_with fail
    go_end0
    exact ⟨rfl, ⟨vr, by rw [← HEX.out, List.append_nil]; exact HE.out⟩, HBE.out⟩
end Go.Proofs.Ytejkgnlflhngbaa
