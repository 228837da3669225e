/- TermsMonotone returns true. -/
import Derived.Test.YtejkgnlflhngbaaTmZ
import Derived.Test.YtejkgnlflhngbaaTmMo
namespace Go.Proofs.Ytejkgnlflhngbaa
open Go Go.RowKit Go.Lib Go.Shelf Go.Maps

structure Kept (T : Prop) : Prop where
  out : T
theorem merge {G T : Prop} (h : Kept T → G) (t : T) : G := h ⟨t⟩
set_option maxRecDepth 100000 in
set_option maxHeartbeats 8000000 in
theorem monotone_yes (A : Option Addr) (n c : Nat) (l : List TermV) (y0 y1 y2 y3 more : Int) (A4 : Option Addr) (n4 c4 : Nat) (bs : List (Int × Int)) (w : World)
    (ht : TermsIn w (.slice A n c) l) (hn : l.length = n) (hl : n ≤ 140737488351232) (hok : ∀ t ∈ l, (∀ x ∈ [t.k, t.n, t.m, t.ab], -9223372036854775808 ≤ x ∧ x ≤ 9223372036854775807) ∧ (∀ x ∈ t.acc, -9223372036854775808 ≤ x ∧ x ≤ 9223372036854775807)) (hal : ∀ t ∈ l, t.acc.length ≤ 9223372036854775807)
    (hb : IRows 2 w (.slice A4 n4 c4) (bs.map p2)) (hn4 : bs.length = n4) (hl4 : n4 ≤ 140737488351232) (hc4 : n4 ≤ c4) (hbb : ∀ b ∈ bs, (-9223372036854775808 ≤ b.1 ∧ b.1 ≤ 9223372036854775807) ∧ -9223372036854775808 ≤ b.2 ∧ b.2 ≤ 9223372036854775807)
    (b0 : I64 y0) (b1 : I64 y1) (b2 : I64 y2) (b3 : I64 y3) (bm : I64 more) :
    Calls Try.prog 5 #[.slice A n c, .agg #[.int .i64 y0, .int .i64 y1, .int .i64 y2, .int .i64 y3], .int .i64 more, .slice A4 n4 c4] w fun e w' => e = .returned (.bool true) ∧ Below w.heap.size w w' := by
  have HT := Lib.hid ht
  have HFEW := Lib.hid (fun W (h2 : TermsIn W (.slice A n c) l) => few_any A n c l W h2 hn hl hal)
  have HSOME := Lib.hid (fun W (h : Below w.heap.size w W) => some_any A4 n4 c4 bs W (hb.below h) hn4 hl4 hc4)
  have HTOK := Lib.hid (few_ok hok)
  have HBOK : Hid (∀ b ∈ bs.take 12, (-9223372036854775808 ≤ b.1 ∧ b.1 ≤ 9223372036854775807) ∧ -9223372036854775808 ≤ b.2 ∧ b.2 ≤ 9223372036854775807) := Lib.hid fun b h => hbb b (List.mem_of_mem_take h)
  have HLEN : Hid ((fewT l).length ≤ 1000 ∧ (bs.take 12).length ≤ 1000) := Lib.hid ⟨few_len l, by rw [List.length_take]; omega⟩
  have PM := Lib.hid (fun W => pick_any more 1000000000000000 W bm.1 bm.2 (by omega) (by omega))
  have hm := pickN_bd more 1000000000000000 (by omega)
  obtain ⟨d, hd⟩ : ∃ z, pickN more 1000000000000000 = z := ⟨_, rfl⟩
  rw [hd] at PM hm
  have OPN := Lib.hid (fun W => open_any y0 y1 y2 y3 5 3 W b0 b1 b2 b3 ⟨by omega, by omega⟩)
  have hopen := openRow_open y0 y1 y2 y3 5 3
  have hz := pickN_bd 3 1200 (by omega)
  have hz1 := pickN_bd y0 1000000000000001 (by omega)
  have hz2 := pickN_bd y1 100000001 (by omega)
  have hz3 := pickN_bd y2 100000001 (by omega)
  have hz4 := pickN_bd y3 100001 (by omega)
  unfold openRow rowC at OPN
  unfold openRow at hopen
  dsimp only at OPN
  obtain ⟨z0, ez0⟩ : ∃ z, pickN 3 1200 = z := ⟨_, rfl⟩
  obtain ⟨z1, ez1⟩ : ∃ z, pickN y0 1000000000000001 = z := ⟨_, rfl⟩
  obtain ⟨z2, ez2⟩ : ∃ z, pickN y1 100000001 = z := ⟨_, rfl⟩
  obtain ⟨z3, ez3⟩ : ∃ z, pickN y2 100000001 = z := ⟨_, rfl⟩
  obtain ⟨z4, ez4⟩ : ∃ z, pickN y3 100001 = z := ⟨_, rfl⟩
  rw [ez0, ez1, ez2, ez3, ez4] at OPN hopen
  rw [ez0] at hz
  rw [ez1] at hz1
  rw [ez2] at hz2
  rw [ez3] at hz3
  rw [ez4] at hz4
  obtain ⟨e1, he1⟩ : ∃ z, z1 + d = z := ⟨_, rfl⟩
  have we1 : IntKind.i64.wrap (z1 + d) = e1 := by rw [he1]; exact IntWalk.i64_in _ (by omega)
  have hopen2 : openR ⟨5, z0, e1, z2, z3, z4⟩ = true := by
    rw [openR_iff]
    unfold RowV.sum
    dsimp only
    omega
  have HPQ : Hid (0 ≤ z0 ∧ z0 < 1200) := Lib.hid hz
  have hlaw := mono_law (R := ⟨5, z0, z1, z2, z3, z4⟩) (R' := ⟨5, z0, e1, z2, z3, z4⟩) (fewT l) (bs.take 12) hopen (by unfold RowV.sum; dsimp only; omega) rfl rfl
  have hg := GoodS.run (5 : Int) z0 (fewT l) (good_start hopen (bs.take 12))
  have hsumb : (⟨5, z0, z1, z2, z3, z4⟩ : RowV).sum ≤ 1000000000000000000 := (openR_iff.1 hopen).2.2.2.2
  dsimp only at hlaw
  obtain ⟨S, hS⟩ : ∃ z, runS (fewT l) ⟨5, z0, z1, z2, z3, z4⟩ (bs.take 12) = z := ⟨_, rfl⟩
  obtain ⟨S2, hS2⟩ : ∃ z, runS (fewT l) ⟨5, z0, e1, z2, z3, z4⟩ (bs.take 12) = z := ⟨_, rfl⟩
  have hg2 : GoodS (⟨5, z0, z1, z2, z3, z4⟩ : RowV).sum S := by rw [← hS]; exact hg
  rw [hS, hS2] at hlaw
  have HV : Hid (settleSpec (fewT l) ⟨5, z0, z1, z2, z3, z4⟩ (bs.take 12) = ⟨S.pa, S.ta, S.re, S.ro, paidOf S, carriedOf S, S.ps, S.rs, S.bs⟩) := Lib.hid (by unfold settleSpec; rw [if_pos hopen]; dsimp only; rw [hS])
  have HV2 : Hid (settleSpec (fewT l) ⟨5, z0, e1, z2, z3, z4⟩ (bs.take 12) = ⟨S2.pa, S2.ta, S2.re, S2.ro, paidOf S2, carriedOf S2, S2.ps, S2.rs, S2.bs⟩) := Lib.hid (by unfold settleSpec; rw [if_pos hopen2]; dsimp only; rw [hS2])
  have hc1 : 0 ≤ carriedOf S ∧ carriedOf S ≤ 2000000000000000000 := by
    have h1 := hg2.l0
    have h2 := hg2.p0
    have h3 := hg2.t0
    have h4 := hg2.r0
    have h5 := hg2.o0
    have h6 := hg2.c0
    have h7 := hg2.sum
    unfold carriedOf
    omega
  obtain ⟨v0, ev0⟩ : ∃ z, S.pa = z := ⟨_, rfl⟩
  obtain ⟨v1, ev1⟩ : ∃ z, S.ta = z := ⟨_, rfl⟩
  obtain ⟨v2, ev2⟩ : ∃ z, S.re = z := ⟨_, rfl⟩
  obtain ⟨v3, ev3⟩ : ∃ z, S.ro = z := ⟨_, rfl⟩
  obtain ⟨v4, ev4⟩ : ∃ z, paidOf S = z := ⟨_, rfl⟩
  obtain ⟨v5, ev5⟩ : ∃ z, carriedOf S = z := ⟨_, rfl⟩
  obtain ⟨u0, eu0⟩ : ∃ z, S2.pa = z := ⟨_, rfl⟩
  obtain ⟨u1, eu1⟩ : ∃ z, S2.ta = z := ⟨_, rfl⟩
  obtain ⟨u2, eu2⟩ : ∃ z, S2.re = z := ⟨_, rfl⟩
  obtain ⟨u3, eu3⟩ : ∃ z, S2.ro = z := ⟨_, rfl⟩
  obtain ⟨u4, eu4⟩ : ∃ z, paidOf S2 = z := ⟨_, rfl⟩
  obtain ⟨u5, eu5⟩ : ∃ z, carriedOf S2 = z := ⟨_, rfl⟩
  rw [ev0, ev1, ev2, ev3, ev4, ev5] at HV
  rw [eu0, eu1, eu2, eu3, eu4, eu5] at HV2
  rw [ev0, ev1, ev2, ev3, ev4, ev5, eu0, eu1, eu2, eu3, eu4, eu5] at hlaw
  rw [ev5] at hc1
  obtain ⟨cw, hcw⟩ : ∃ z, v5 - 10000 = z := ⟨_, rfl⟩
  have wcw : IntKind.i64.wrap (v5 - 10000) = cw := by rw [hcw]; exact IntWalk.i64_in _ (by omega)
  have q4 : decide (v4 ≤ u4) = true := by simpa using hlaw.1
  have q0 : decide (v0 ≤ u0) = true := by simpa using hlaw.2.1
  have q1 : decide (v1 ≤ u1) = true := by simpa using hlaw.2.2.1
  have q2 : decide (v2 ≤ u2) = true := by simpa using hlaw.2.2.2.1
  have q3 : decide (v3 ≤ u3) = true := by simpa using hlaw.2.2.2.2.1
  have q5 : decide (cw < u5) = true := by rw [← hcw]; simpa using hlaw.2.2.2.2.2
  clear ht hn hl hok hal hb hn4 hl4 hc4 hbb b0 b1 b2 b3 bm hm hd hopen hopen2 hz hz1 hz2 hz3 hz4 ez0 ez1 ez2 ez3 ez4 he1 hlaw hg hg2 hsumb hS hS2 hc1 ev0 ev1 ev2 ev3 ev4 ev5 eu0 eu1 eu2 eu3 eu4 eu5 hcw
  go_enter Try.func5, Try.ntmps5
  go_wp2_with fail
  refine (sane_yes _).mono ?_
  rintro e w1 ⟨rfl, hx1⟩
  have r1 : RowAt w1 w.heap.size 25 #[.int .i64 y0, .int .i64 y1, .int .i64 y2, .int .i64 y3] := (RowAt.new w _ _).below hx1 (by simp)
  have bw1 : Below w.heap.size w w1 := ((Below.refl _ _).alloc (Nat.le_refl _) _).trans (hx1.mono (by simp))
  have HR1 := Lib.hid (And.intro r1 bw1)
  clear r1 bw1 hx1
  go_wp2_with fail
  refine (HFEW.out w1 (HT.out.below HR1.out.2)).mono ?_
  rintro e w2 ⟨vl, L, rfl, hL, howl, hx⟩
  obtain ⟨Al, nl, cl, rfl⟩ := howl.slice3
  have htl := howl.terms
  rw [hL] at htl
  have HTL2 := Lib.hid htl
  have HR2 := Lib.hid (And.intro (HR1.out.1.below hx HR1.out.1.lt) (HR1.out.2.trans (hx.mono HR1.out.2.size)))
  clear hL howl hx htl HR1
  go_wp2_with fail
  refine (HSOME.out w2 HR2.out.2).mono ?_
  rintro e w3 ⟨vb, rfl, hob, hx⟩
  obtain ⟨Ab, nb, cb, rfl⟩ := hob.slice3
  have HIB3 := Lib.hid hob.rows
  have HTL3 := Lib.hid (HTL2.out.below hx)
  have r3 := HR2.out.1.below hx HR2.out.1.lt
  have HBW3 := Lib.hid (HR2.out.2.trans (hx.mono HR2.out.2.size))
  have g0 : w3.cell? ⟨w.heap.size, 0, none⟩ = some (.int .i64 y0) := r3.cell 0
  have g1 : w3.cell? ⟨w.heap.size, 1, none⟩ = some (.int .i64 y1) := r3.cell 1
  have g2 : w3.cell? ⟨w.heap.size, 2, none⟩ = some (.int .i64 y2) := r3.cell 2
  have g3 : w3.cell? ⟨w.heap.size, 3, none⟩ = some (.int .i64 y3) := r3.cell 3
  clear hob hx HR2 HTL2 r3
  go_wp2_with fail
  refine (OPN.out w3).mono ?_
  rintro e w4 ⟨rfl, hx⟩
  have HX4 := Lib.hid hx
  clear hx g0 g1 g2 g3
  go_wp2_with (first | ((with_reducible refine wpList_store_new (o := ⟨none, .store _ _ _, _, _, _, _⟩) ?_ 24 (.tmp 10) (.tmp 25) ?_ ?_ _ #[.int .i64 5, .int .i64 z0, .int .i64 z1, .int .i64 z2, .int .i64 z3, .int .i64 z4, .int .i64 0, .int .i64 0, .int .i64 0, .int .i64 0, .int .i64 0, .int .i64 0] ?_ ?_ ?_ ?_ ?_); rfl; rfl; rfl; rfl; kernel_rfl; rfl; kernel_rfl) | ((with_reducible refine wpList_stop (o := ⟨some 28, _, _, _, _, _⟩) ?_)))
  unfold Stop
  obtain ⟨W5, hW5⟩ : ∃ z, w4.alloc (.cells #[.int .i64 5, .int .i64 z0, .int .i64 z1, .int .i64 z2, .int .i64 z3, .int .i64 z4, .int .i64 0, .int .i64 0, .int .i64 0, .int .i64 0, .int .i64 0, .int .i64 0] 24) = z := ⟨_, rfl⟩
  have b5 : Below w3.heap.size w3 W5 := by rw [← hW5]; exact HX4.out.alloc HX4.out.size _
  have r5 : RowAt W5 w4.heap.size 24 #[.int .i64 5, .int .i64 z0, .int .i64 z1, .int .i64 z2, .int .i64 z3, .int .i64 z4, .int .i64 0, .int .i64 0, .int .i64 0, .int .i64 0, .int .i64 0, .int .i64 0] := by rw [← hW5]; exact RowAt.new w4 _ _
  rw [hW5]
  clear hW5
  have h10 : w3.heap.size ≤ w4.heap.size := HX4.out.size
  obtain ⟨n10, hn10⟩ : ∃ z, w4.heap.size = z := ⟨_, rfl⟩
  rw [hn10] at r5 h10 ⊢
  clear hn10
  have HB5 := Lib.hid b5
  have HR5 := Lib.hid r5
  have HL5 := Lib.hid (row_cells (show W5.heap[n10]? = _ from r5))
  clear b5 r5 HX4
  go_wp2_with (first | ((with_reducible refine wpList_load_at (o := ⟨some 28, _, _, _, _, _⟩) ?_ 24 (.tmp 10) ?_ n10 0 ?_ _ _ HL5.out Try.underlying24 ?_ ?_ ?_); rfl; rfl; rfl; rfl; kernel_rfl))
  refine (settle_any (fewT l) ⟨5, z0, z1, z2, z3, z4⟩ (bs.take 12) (.slice Al nl cl) (.slice Ab nb cb) 0 0 0 0 0 0 W5 (HTL3.out.below HB5.out) HTOK.out HLEN.out.1 (HIB3.out.below HB5.out) HLEN.out.2 HBOK.out (by have := HPQ.out; dsimp only; omega)).mono ?_
  rintro e w6 ⟨vp, vr, vo, rfl, _, _, _, hx⟩
  rw [HV.out]
  unfold ResV.row rowC
  dsimp only
  have HB6 := Lib.hid (HB5.out.trans (hx.mono HB5.out.size))
  have HR6 := Lib.hid (HR5.out.below hx HR5.out.lt)
  clear hx HL5
  go_wp2_with (first | ((with_reducible refine wpList_store_new (o := ⟨none, .store _ _ _, _, _, _, _⟩) ?_ 24 (.tmp 11) (.tmp 31) ?_ ?_ _ #[.int .i64 5, .int .i64 z0, .int .i64 z1, .int .i64 z2, .int .i64 z3, .int .i64 z4, .int .i64 v0, .int .i64 v1, .int .i64 v2, .int .i64 v3, .int .i64 v4, .int .i64 v5] ?_ ?_ ?_ ?_ ?_); rfl; rfl; rfl; rfl; kernel_rfl; rfl; kernel_rfl))
  obtain ⟨W7, hW7⟩ : ∃ z, w6.alloc (.cells #[.int .i64 5, .int .i64 z0, .int .i64 z1, .int .i64 z2, .int .i64 z3, .int .i64 z4, .int .i64 v0, .int .i64 v1, .int .i64 v2, .int .i64 v3, .int .i64 v4, .int .i64 v5] 24) = z := ⟨_, rfl⟩
  have b67 : Below w6.heap.size w6 W7 := by rw [← hW7]; exact (Below.refl _ _).alloc (Nat.le_refl _) _
  have r7 : RowAt W7 n10 24 #[.int .i64 5, .int .i64 z0, .int .i64 z1, .int .i64 z2, .int .i64 z3, .int .i64 z4, .int .i64 0, .int .i64 0, .int .i64 0, .int .i64 0, .int .i64 0, .int .i64 0] := HR6.out.below b67 HR6.out.lt
  have r11 : RowAt W7 w6.heap.size 24 #[.int .i64 5, .int .i64 z0, .int .i64 z1, .int .i64 z2, .int .i64 z3, .int .i64 z4, .int .i64 v0, .int .i64 v1, .int .i64 v2, .int .i64 v3, .int .i64 v4, .int .i64 v5] := by rw [← hW7]; exact RowAt.new w6 _ _
  have hne : n10 < w6.heap.size := HR6.out.lt
  rw [hW7]
  clear hW7
  obtain ⟨n11, hn11⟩ : ∃ z, w6.heap.size = z := ⟨_, rfl⟩
  rw [hn11] at r11 hne ⊢
  clear hn11
  have HB7 := Lib.hid (HB6.out.trans (b67.mono HB6.out.size))
  have c10 : W7.cell? ⟨n10, 2, none⟩ = some (.int .i64 z1) := r7.cell 2
  have f10 : W7.frozen? ⟨n10, 2, none⟩ = false := r7.free 2
  have HR7 := Lib.hid r7
  have HR11 := Lib.hid r11
  clear r7 r11 b67
  apply merge
  · intro FIN
    refine wp_region_held_drew (S := fun _ => True) (by kernel_rfl) trivial (fun hHeld => ?_)
    refine wpAnyH_take (i := 0) (oi := ⟨_, _, _, _, _, _⟩) (v := ?_) rfl (by kernel_rfl) (by kernel_rfl) (by kernel_rfl) (fun _ _ _ h => h) (Or.inl ⟨by rfl, ?_⟩) (by assumption) ?_
    rotate_left
    · intro w hSw
      go_simp
      all_goals with_reducible rfl
    simp only [Act.put, List.setIfInBounds_toArray, List.set_cons_zero, List.set_cons_succ]
    refine wpAnyH_take (i := 2) (oi := ⟨_, _, _, _, _, _⟩) (v := ?_) rfl (by kernel_rfl) (by kernel_rfl) (by kernel_rfl) (fun _ _ _ h => h) (Or.inl ⟨by rfl, ?_⟩) (by assumption) ?_
    rotate_left
    · intro w hSw
      go_simp
      all_goals with_reducible rfl
    simp only [Act.put, List.setIfInBounds_toArray, List.set_cons_zero, List.set_cons_succ]
    refine wpAnyH_ready (rs := [1, 3]) (by kernel_rfl) (by simp) ?_
    refine AllReadyH.cons (o := ⟨_, _, _, _, _, _⟩) rfl (fun K hK => ?_) (AllReadyH.cons (o := ⟨_, _, _, _, _, _⟩) rfl (fun K hK => ?_) AllReadyH.nil)
    · go_simp
      go_wp2_with fail
      refine hK.out _ _ trivial (fun hHeld => ?_)
      clear hK K
      try simp only [Act.put, List.setIfInBounds_toArray, List.set_cons_zero, List.set_cons_succ]
      refine wpAnyH_ready (rs := [3]) (by kernel_rfl) (by simp) ?_
      refine AllReadyH.cons (o := ⟨_, _, _, _, _, _⟩) rfl (fun K hK => ?_) AllReadyH.nil
      go_simp
      (go_at_call 13; refine (PM.out _).mono ?_; rintro e w' ⟨rfl, rfl⟩)
      go_wp2_with fail
      refine hK.out _ _ trivial (fun hHeld => ?_)
      clear hK K
      try simp only [Act.put, List.setIfInBounds_toArray, List.set_cons_zero, List.set_cons_succ]
      refine wpAnyH_take (i := 4) (oi := ⟨_, _, _, _, _, _⟩) (v := ?_) rfl (by kernel_rfl) (by kernel_rfl) (by kernel_rfl) (fun _ _ _ h => h) (Or.inl ⟨by rfl, ?_⟩) (by assumption) ?_
      rotate_left
      · intro w hSw
        go_simp
        all_goals with_reducible rfl
      simp only [Act.put, List.setIfInBounds_toArray, List.set_cons_zero, List.set_cons_succ]
      refine wpAnyH_take (i := 5) (oi := ⟨_, _, _, _, _, _⟩) (v := ?_) rfl (by kernel_rfl) (by kernel_rfl) (by kernel_rfl) (fun _ _ _ h => h) (Or.inl ⟨by rfl, ?_⟩) (by assumption) ?_
      rotate_left
      · intro w hSw
        go_simp
        all_goals with_reducible rfl
      simp only [Act.put, List.setIfInBounds_toArray, List.set_cons_zero, List.set_cons_succ]
      refine wpAnyH_ready (rs := [6]) (by kernel_rfl) (by simp) ?_
      refine AllReadyH.cons (o := ⟨_, _, _, _, _, _⟩) rfl (fun K hK => ?_) AllReadyH.nil
      go_simp
      go_wp2_with fail
      refine hK.out _ _ trivial (fun hHeld => ?_)
      clear hK K
      refine wpAnyH_done (by kernel_rfl) ?_ _
      exact FIN.out

    · go_simp
      (go_at_call 13; refine (PM.out _).mono ?_; rintro e w' ⟨rfl, rfl⟩)
      go_wp2_with fail
      refine hK.out _ _ trivial (fun hHeld => ?_)
      clear hK K
      try simp only [Act.put, List.setIfInBounds_toArray, List.set_cons_zero, List.set_cons_succ]
      refine wpAnyH_ready (rs := [1]) (by kernel_rfl) (by simp) ?_
      refine AllReadyH.cons (o := ⟨_, _, _, _, _, _⟩) rfl (fun K hK => ?_) AllReadyH.nil
      go_simp
      go_wp2_with fail
      refine hK.out _ _ trivial (fun hHeld => ?_)
      clear hK K
      try simp only [Act.put, List.setIfInBounds_toArray, List.set_cons_zero, List.set_cons_succ]
      refine wpAnyH_take (i := 4) (oi := ⟨_, _, _, _, _, _⟩) (v := ?_) rfl (by kernel_rfl) (by kernel_rfl) (by kernel_rfl) (fun _ _ _ h => h) (Or.inl ⟨by rfl, ?_⟩) (by assumption) ?_
      rotate_left
      · intro w hSw
        go_simp
        all_goals with_reducible rfl
      simp only [Act.put, List.setIfInBounds_toArray, List.set_cons_zero, List.set_cons_succ]
      refine wpAnyH_take (i := 5) (oi := ⟨_, _, _, _, _, _⟩) (v := ?_) rfl (by kernel_rfl) (by kernel_rfl) (by kernel_rfl) (fun _ _ _ h => h) (Or.inl ⟨by rfl, ?_⟩) (by assumption) ?_
      rotate_left
      · intro w hSw
        go_simp
        all_goals with_reducible rfl
      simp only [Act.put, List.setIfInBounds_toArray, List.set_cons_zero, List.set_cons_succ]
      refine wpAnyH_ready (rs := [6]) (by kernel_rfl) (by simp) ?_
      refine AllReadyH.cons (o := ⟨_, _, _, _, _, _⟩) rfl (fun K hK => ?_) AllReadyH.nil
      go_simp
      go_wp2_with fail
      refine hK.out _ _ trivial (fun hHeld => ?_)
      clear hK K
      refine wpAnyH_done (by kernel_rfl) ?_ _
      exact FIN.out

  obtain ⟨W8, hW8⟩ : ∃ z, (W7.setCell ⟨n10, 2, none⟩ (.int .i64 e1)).drew = z := ⟨_, rfl⟩
  have b8 : Below w3.heap.size w3 W8 := by rw [← hW8]; exact (HB7.out.setCell (p := ⟨n10, 2, none⟩) h10 _).drew
  have r8 : RowAt W8 n10 24 #[.int .i64 5, .int .i64 z0, .int .i64 e1, .int .i64 z2, .int .i64 z3, .int .i64 z4, .int .i64 0, .int .i64 0, .int .i64 0, .int .i64 0, .int .i64 0, .int .i64 0] := by rw [← hW8]; exact HR7.out.set 2 _
  have r118 : RowAt W8 n11 24 #[.int .i64 5, .int .i64 z0, .int .i64 z1, .int .i64 z2, .int .i64 z3, .int .i64 z4, .int .i64 v0, .int .i64 v1, .int .i64 v2, .int .i64 v3, .int .i64 v4, .int .i64 v5] := by rw [← hW8]; exact HR11.out.far (p := ⟨n10, 2, none⟩) (by dsimp only; omega) _
  rw [hW8]
  clear hW8 c10 f10
  have HB8 := Lib.hid b8
  have HR8 := Lib.hid r118
  have HL8 := Lib.hid (row_cells (show W8.heap[n10]? = _ from r8))
  clear b8 r8 r118
  go_wp2_with (first | ((with_reducible refine wpList_load_at (o := ⟨some 43, _, _, _, _, _⟩) ?_ 24 (.tmp 10) ?_ n10 0 ?_ _ _ HL8.out Try.underlying24 ?_ ?_ ?_); rfl; rfl; rfl; rfl; kernel_rfl))
  refine (settle_any (fewT l) ⟨5, z0, e1, z2, z3, z4⟩ (bs.take 12) (.slice Al nl cl) (.slice Ab nb cb) 0 0 0 0 0 0 W8 (HTL3.out.below HB8.out) HTOK.out HLEN.out.1 (HIB3.out.below HB8.out) HLEN.out.2 HBOK.out (by have := HPQ.out; dsimp only; omega)).mono ?_
  rintro e w9 ⟨vp2, vr2, vo2, rfl, _, _, _, hx⟩
  rw [HV2.out]
  unfold ResV.row rowC
  dsimp only
  have HB9 := Lib.hid (HB8.out.trans (hx.mono HB8.out.size))
  have HR9 := Lib.hid (HR8.out.below hx HR8.out.lt)
  clear hx HL8
  go_wp2_with (first | ((with_reducible refine wpList_store_new (o := ⟨none, .store _ _ _, _, _, _, _⟩) ?_ 24 (.tmp 15) (.tmp 46) ?_ ?_ _ #[.int .i64 5, .int .i64 z0, .int .i64 e1, .int .i64 z2, .int .i64 z3, .int .i64 z4, .int .i64 u0, .int .i64 u1, .int .i64 u2, .int .i64 u3, .int .i64 u4, .int .i64 u5] ?_ ?_ ?_ ?_ ?_); rfl; rfl; rfl; rfl; kernel_rfl; rfl; kernel_rfl) | ((with_reducible refine wpList_stop (o := ⟨some 53, _, _, _, _, _⟩) ?_)))
  unfold Stop
  obtain ⟨W10, hW10⟩ : ∃ z, w9.alloc (.cells #[.int .i64 5, .int .i64 z0, .int .i64 e1, .int .i64 z2, .int .i64 z3, .int .i64 z4, .int .i64 u0, .int .i64 u1, .int .i64 u2, .int .i64 u3, .int .i64 u4, .int .i64 u5] 24) = z := ⟨_, rfl⟩
  have b910 : Below w9.heap.size w9 W10 := by rw [← hW10]; exact (Below.refl _ _).alloc (Nat.le_refl _) _
  have r15 : RowAt W10 w9.heap.size 24 #[.int .i64 5, .int .i64 z0, .int .i64 e1, .int .i64 z2, .int .i64 z3, .int .i64 z4, .int .i64 u0, .int .i64 u1, .int .i64 u2, .int .i64 u3, .int .i64 u4, .int .i64 u5] := by rw [← hW10]; exact RowAt.new w9 _ _
  have r11e := HR9.out.below b910 HR9.out.lt
  rw [hW10]
  clear hW10
  have HBE := Lib.hid (HBW3.out.trans ((HB9.out.trans (b910.mono HB9.out.size)).mono HBW3.out.size))
  have k15_6 : W10.cell? ⟨w9.heap.size, 6, none⟩ = some (.int .i64 u0) := r15.cell 6
  have k11_6 : W10.cell? ⟨n11, 6, none⟩ = some (.int .i64 v0) := r11e.cell 6
  have k15_7 : W10.cell? ⟨w9.heap.size, 7, none⟩ = some (.int .i64 u1) := r15.cell 7
  have k11_7 : W10.cell? ⟨n11, 7, none⟩ = some (.int .i64 v1) := r11e.cell 7
  have k15_8 : W10.cell? ⟨w9.heap.size, 8, none⟩ = some (.int .i64 u2) := r15.cell 8
  have k11_8 : W10.cell? ⟨n11, 8, none⟩ = some (.int .i64 v2) := r11e.cell 8
  have k15_9 : W10.cell? ⟨w9.heap.size, 9, none⟩ = some (.int .i64 u3) := r15.cell 9
  have k11_9 : W10.cell? ⟨n11, 9, none⟩ = some (.int .i64 v3) := r11e.cell 9
  have k15_10 : W10.cell? ⟨w9.heap.size, 10, none⟩ = some (.int .i64 u4) := r15.cell 10
  have k11_10 : W10.cell? ⟨n11, 10, none⟩ = some (.int .i64 v4) := r11e.cell 10
  have k15_11 : W10.cell? ⟨w9.heap.size, 11, none⟩ = some (.int .i64 u5) := r15.cell 11
  have k11_11 : W10.cell? ⟨n11, 11, none⟩ = some (.int .i64 v5) := r11e.cell 11
  clear b910 r15 r11e
  go_wp2_with fail
  go_ret
  exact ⟨rfl, HBE.out⟩
end Go.Proofs.Ytejkgnlflhngbaa
