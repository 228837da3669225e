/- TermsBalanced returns true. -/
import Derived.Test.YtejkgnlflhngbaaTmZ
import Derived.Test.YtejkgnlflhngbaaTmPp
import Derived.Test.YtejkgnlflhngbaaTmPl
import Derived.Deep.DeepCutAuto
namespace Go.Proofs.Ytejkgnlflhngbaa
open Go Go.RowKit Go.Lib Go.Shelf Go.Maps

/-- what the statement's call of Settle leaves -/
def Left15 (V : ResV) (R : RowV) (nr : Nat) (w : World) (s13 s14 s15 s16 : Value) (wx : World) : Prop :=
  ∃ g, s13 = .pointer (some ⟨g, 0, none⟩) ∧ RowAt wx g 24 (V.row R) ∧ RowAt wx nr 24 (rowC R 0 0 0 0 0 0) ∧ Below w.heap.size w wx ∧
    IRows 2 wx s14 (V.ps.map p2) ∧ IRows 3 wx s15 (V.rs.map p3) ∧ IRows 2 wx s16 (V.bs.map p2)
theorem IRows.at15 {k : Nat} {w : World} {A : Option Addr} {n c : Nat} {L : List (List Int)} (h : IRows k w (.slice A n c) L) {i : Nat} {r : List Int} (hr : L[i]? = some r) :
    ∃ b o, A = some ⟨b, o, none⟩ ∧ b < w.heap.size ∧ ∀ (j : Nat) x, r[j]? = some x → w.cell? ⟨b, o + i * k + j, none⟩ = some (.int .i64 x) := by
  rcases h.2 with ⟨h0, _⟩ | ⟨b, o, c, he, hlt, hc⟩
  · rw [h0] at hr; simp at hr
  · simp only [Value.slice.injEq] at he
    exact ⟨b, o, he.1, hlt, fun j x hx => hc i r hr j x hx⟩
set_option maxRecDepth 100000 in
set_option maxHeartbeats 8000000 in
theorem balanced_yes (A : Option Addr) (n c : Nat) (l : List TermV) (y0 y1 y2 y3 hh pp : Int) (A4 : Option Addr) (n4 c4 : Nat) (bs : List (Int × Int)) (w : World)
    (ht : TermsIn w (.slice A n c) l) (hn : l.length = n) (hl : n ≤ 140737488351232) (hok : ∀ t ∈ l, (∀ x ∈ [t.k, t.n, t.m, t.ab], -9223372036854775808 ≤ x ∧ x ≤ 9223372036854775807) ∧ (∀ x ∈ t.acc, -9223372036854775808 ≤ x ∧ x ≤ 9223372036854775807)) (hal : ∀ t ∈ l, t.acc.length ≤ 9223372036854775807)
    (hb : IRows 2 w (.slice A4 n4 c4) (bs.map p2)) (hn4 : bs.length = n4) (hl4 : n4 ≤ 140737488351232) (hc4 : n4 ≤ c4) (hbb : ∀ b ∈ bs, (-9223372036854775808 ≤ b.1 ∧ b.1 ≤ 9223372036854775807) ∧ -9223372036854775808 ≤ b.2 ∧ b.2 ≤ 9223372036854775807)
    (b0 : I64 y0) (b1 : I64 y1) (b2 : I64 y2) (b3 : I64 y3) (bp : I64 pp) :
    Calls Try.prog 4 #[.slice A n c, .agg #[.int .i64 y0, .int .i64 y1, .int .i64 y2, .int .i64 y3], .int .i64 hh, .int .i64 pp, .slice A4 n4 c4] w fun e w' => e = .returned (.bool true) ∧ Below w.heap.size w w' := by
  have HT := Lib.hid ht
  have HFEW := Lib.hid (fun W (h2 : TermsIn W (.slice A n c) l) => few_any A n c l W h2 hn hl hal)
  have HSOME := Lib.hid (fun W (h : Below w.heap.size w W) => some_any A4 n4 c4 bs W (hb.below h) hn4 hl4 hc4)
  have HTOK := Lib.hid (few_ok hok)
  have hbb2 : ∀ b ∈ bs.take 12, (-9223372036854775808 ≤ b.1 ∧ b.1 ≤ 9223372036854775807) ∧ -9223372036854775808 ≤ b.2 ∧ b.2 ≤ 9223372036854775807 := fun b h => hbb b (List.mem_of_mem_take h)
  have HBOK := Lib.hid hbb2
  have HLEN : Hid ((fewT l).length ≤ 1000 ∧ (bs.take 12).length ≤ 12) := Lib.hid ⟨few_len l, by rw [List.length_take]; omega⟩
  have OPN := Lib.hid (fun W => open_any y0 y1 y2 y3 hh pp W b0 b1 b2 b3 bp)
  have hopen := openRow_open y0 y1 y2 y3 hh pp
  have hz := pickN_bd pp 1200 (by omega)
  have hz1 := pickN_bd y0 1000000000000001 (by omega)
  have hz2 := pickN_bd y1 100000001 (by omega)
  have hz3 := pickN_bd y2 100000001 (by omega)
  have hz4 := pickN_bd y3 100001 (by omega)
  unfold openRow rowC at OPN
  unfold openRow at hopen
  dsimp only at OPN
  obtain ⟨z0, ez0⟩ : ∃ z, pickN pp 1200 = z := ⟨_, rfl⟩
  obtain ⟨z1, ez1⟩ : ∃ z, pickN y0 1000000000000001 = z := ⟨_, rfl⟩
  obtain ⟨z2, ez2⟩ : ∃ z, pickN y1 100000001 = z := ⟨_, rfl⟩
  obtain ⟨z3, ez3⟩ : ∃ z, pickN y2 100000001 = z := ⟨_, rfl⟩
  obtain ⟨z4, ez4⟩ : ∃ z, pickN y3 100001 = z := ⟨_, rfl⟩
  rw [ez0, ez1, ez2, ez3, ez4] at OPN hopen
  rw [ez0] at hz
  have HPQ : Hid (0 ≤ z0 ∧ z0 < 1200) := Lib.hid hz
  have hlaw := Books.run (fewT l) (Books.start (R := ⟨hh, z0, z1, z2, z3, z4⟩) hopen (bs.take 12))
  have hgd := GoodS.run hh z0 (fewT l) (good_start (R := ⟨hh, z0, z1, z2, z3, z4⟩) hopen (bs.take 12))
  have hbal := bal_settle (R := ⟨hh, z0, z1, z2, z3, z4⟩) hopen (fewT l) (bs.take 12)
  have hsl := settle_len (fewT l) ⟨hh, z0, z1, z2, z3, z4⟩ (bs.take 12)
  have hsumb : (⟨hh, z0, z1, z2, z3, z4⟩ : RowV).sum ≤ 1000000000000000000 := (openR_iff.1 hopen).2.2.2.2
  dsimp only at hlaw
  obtain ⟨S, hS⟩ : ∃ z, runS (fewT l) ⟨hh, z0, z1, z2, z3, z4⟩ (bs.take 12) = z := ⟨_, rfl⟩
  have hlaw2 : Books hh z0 (bs.take 12) S := by rw [← hS]; exact hlaw
  have hgd2 : GoodS (⟨hh, z0, z1, z2, z3, z4⟩ : RowV).sum S := by rw [← hS]; exact hgd
  have hV : settleSpec (fewT l) ⟨hh, z0, z1, z2, z3, z4⟩ (bs.take 12) = ⟨S.pa, S.ta, S.re, S.ro, paidOf S, carriedOf S, S.ps, S.rs, S.bs⟩ := by unfold settleSpec; rw [if_pos hopen]; dsimp only; rw [hS]
  rw [hV] at hbal hsl
  dsimp only at hbal hsl
  have hlf := few_len l
  have hfew : (fewT l).length ≤ 12 := by unfold fewT; rw [List.length_map, List.length_take]; omega
  clear hlaw hgd hS hopen ez0 ez1 ez2 ez3 ez4 hz1 hz2 hz3 hz4 hlf
  obtain ⟨sleft, v0, v1, v2, v3, sca, vps, vrs, vbs⟩ := S
  dsimp only at hV hbal hsl
  obtain ⟨v4, ev4⟩ : ∃ z, paidOf ⟨sleft, v0, v1, v2, v3, sca, vps, vrs, vbs⟩ = z := ⟨_, rfl⟩
  obtain ⟨v5, ev5⟩ : ∃ z, carriedOf ⟨sleft, v0, v1, v2, v3, sca, vps, vrs, vbs⟩ = z := ⟨_, rfl⟩
  have hp4 : 0 ≤ v4 ∧ v4 % 10000 = 0 := by
    have h1 := hgd2.l0
    have h2 : sleft - sleft % 10000 = v4 := ev4
    dsimp only at h1
    omega
  rw [ev4, ev5] at hV hbal
  clear ev4 ev5
  have q0 := hlaw2.pa
  have q2 := hlaw2.re
  have q3 := hlaw2.ro
  have HB0 : Hid ((∀ x ∈ vps, 1 ≤ x.2) ∧ (∀ x ∈ vrs, 1 ≤ x.2.2 ∧ x.1 = hh ∧ z0 < x.2.1 ∧ x.2.1 ≤ z0 + 24) ∧ (∀ (i : Nat) b b', (bs.take 12)[i]? = some b → vbs[i]? = some b' → b'.1 = b.1 ∧ b'.2 ≤ b.2 ∧ (b'.2 < b.2 → 0 ≤ b'.2))) := Lib.hid ⟨hlaw2.ps, hlaw2.rs, hlaw2.bs⟩
  dsimp only at q0 q2 q3
  have HSUM : Hid (v0 = sumB vps ∧ v2 = sumR vrs ∧ v3 + sumB vbs = sumB (bs.take 12) ∧ v0 ≤ 1000000000000000000 ∧ v2 ≤ 1000000000000000000 ∧ 0 ≤ v3 ∧ v3 ≤ 1000000000000000000) := Lib.hid ⟨q0, q2, q3, by
    have h1 := hgd2.l0
    have h2 := hgd2.p0
    have h3 := hgd2.t0
    have h4 := hgd2.r0
    have h5 := hgd2.o0
    have h6 := hgd2.c0
    have h7 := hgd2.sum
    dsimp only at h1 h2 h3 h4 h5 h6 h7
    omega⟩
  have HV := Lib.hid hV
  have BAL := Lib.hid (fun W => balanced_any ⟨hh, z0, z1, z2, z3, z4⟩ v0 v1 v2 v3 v4 v5 W)
  rw [hbal] at BAL
  unfold rowC at BAL
  dsimp only at BAL
  have hlenb : vbs.length = (bs.take 12).length := hsl.2.2
  have HLN : Hid (vps.length ≤ 12 ∧ vrs.length ≤ 12 ∧ vbs.length = (bs.take 12).length) := Lib.hid ⟨by omega, by omega, hlenb⟩
  have HP4 := Lib.hid hp4
  clear ht hn hl hok hal hb hn4 hl4 hc4 hbb hbb2 b0 b1 b2 b3 bp hz hsl hsumb hlaw2 hgd2 hV hbal hfew hp4 q0 q2 q3 hlenb
  go_enter Try.func4, Try.ntmps4
  go_wp2_with fail
  refine (sane_yes _).mono ?_
  rintro e w1 ⟨rfl, hx1⟩
  have r1 : RowAt w1 w.heap.size 25 #[.int .i64 y0, .int .i64 y1, .int .i64 y2, .int .i64 y3] := (RowAt.new w _ _).below hx1 (by simp)
  have bw1 : Below w.heap.size w w1 := ((Below.refl _ _).alloc (Nat.le_refl _) _).trans (hx1.mono (by simp))
  have HR1 := Lib.hid (And.intro r1 bw1)
  clear r1 bw1 hx1
  go_wp2_with fail
  refine (HSOME.out w1 HR1.out.2).mono ?_
  rintro e w3 ⟨vb, rfl, hob, hx⟩
  obtain ⟨Ab, nb, cb, rfl⟩ := hob.slice3
  have hnb : nb = (bs.take 12).length := by have := hob.count; rw [List.length_map] at this; exact this
  obtain ⟨bq, hbq⟩ : ∃ z, bs.take 12 = z := ⟨_, rfl⟩
  rw [hbq] at hob hnb HBOK HLEN HB0 HSUM HV HLN
  have HIB3 := Lib.hid hob.rows
  have HIB0 := HIB3
  have r3 := HR1.out.1.below hx HR1.out.1.lt
  have HBW3 := Lib.hid (HR1.out.2.trans (hx.mono HR1.out.2.size))
  have HTL3 := Lib.hid (HT.out.below HBW3.out)
  have HNB := Lib.hid hnb
  have g0 : w3.cell? ⟨w.heap.size, 0, none⟩ = some (.int .i64 y0) := r3.cell 0
  have g1 : w3.cell? ⟨w.heap.size, 1, none⟩ = some (.int .i64 y1) := r3.cell 1
  have g2 : w3.cell? ⟨w.heap.size, 2, none⟩ = some (.int .i64 y2) := r3.cell 2
  have g3 : w3.cell? ⟨w.heap.size, 3, none⟩ = some (.int .i64 y3) := r3.cell 3
  clear hob hx HR1 r3 hnb hbq
  go_wp2_with fail
  refine (OPN.out w3).mono ?_
  rintro e w4 ⟨rfl, hx⟩
  have HX4 := Lib.hid hx
  clear hx g0 g1 g2 g3
  go_upto_region 4 with (first | ((with_reducible refine wpList_store_new (o := ⟨none, .store _ _ _, _, _, _, _⟩) ?_ 24 (.tmp 12) (.tmp 32) ?_ ?_ _ #[.int .i64 hh, .int .i64 z0, .int .i64 z1, .int .i64 z2, .int .i64 z3, .int .i64 z4, .int .i64 0, .int .i64 0, .int .i64 0, .int .i64 0, .int .i64 0, .int .i64 0] ?_ ?_ ?_ ?_ ?_); rfl; rfl; rfl; rfl; kernel_rfl; rfl; kernel_rfl))
  simp only [Act.put]
  obtain ⟨W5, hW5⟩ : ∃ z, w4.alloc (.cells #[.int .i64 hh, .int .i64 z0, .int .i64 z1, .int .i64 z2, .int .i64 z3, .int .i64 z4, .int .i64 0, .int .i64 0, .int .i64 0, .int .i64 0, .int .i64 0, .int .i64 0] 24) = z := ⟨_, rfl⟩
  have b5 : Below w3.heap.size w3 W5 := by rw [← hW5]; exact HX4.out.alloc HX4.out.size _
  have r5 : RowAt W5 w4.heap.size 24 #[.int .i64 hh, .int .i64 z0, .int .i64 z1, .int .i64 z2, .int .i64 z3, .int .i64 z4, .int .i64 0, .int .i64 0, .int .i64 0, .int .i64 0, .int .i64 0, .int .i64 0] := by rw [← hW5]; exact RowAt.new w4 _ _
  rw [hW5]
  clear hW5
  obtain ⟨n12, hn12⟩ : ∃ z, w4.heap.size = z := ⟨_, rfl⟩
  rw [hn12] at r5 ⊢
  clear hn12
  have HB5 := Lib.hid b5
  have HR5 := Lib.hid r5
  clear b5 r5 HX4
  go_cut [13, 14, 15, 16] (fun s13 s14 s15 s16 wx => Hid (Left15 ⟨v0, v1, v2, v3, v4, v5, vps, vrs, vbs⟩ ⟨hh, z0, z1, z2, z3, z4⟩ n12 w3 s13 s14 s15 s16 wx))
  case first =>
    refine wp_region_held_drew (S := fun W' => RowAt W' n12 24 #[.int .i64 hh, .int .i64 z0, .int .i64 z1, .int .i64 z2, .int .i64 z3, .int .i64 z4, .int .i64 0, .int .i64 0, .int .i64 0, .int .i64 0, .int .i64 0, .int .i64 0] ∧ Below w3.heap.size w3 W') (by kernel_rfl) ⟨HR5.out.below (Below.refl _ _).drew HR5.out.lt, HB5.out.drew⟩ (fun hHeld => ?_)
    obtain ⟨W6, hW6⟩ : ∃ z, W5.drew = z := ⟨_, rfl⟩
    rw [hW6] at hHeld ⊢
    clear hW6
    refine wpAnyH_take (i := 0) (oi := ⟨_, _, _, _, _, _⟩) (v := ?_) rfl (by kernel_rfl) (by kernel_rfl) (by kernel_rfl) (fun _ _ _ h => h) (Or.inl ⟨by rfl, ?_⟩) (by assumption) ?_
    rotate_left
    · intro w hSw
      go_simp
      all_goals with_reducible rfl
    simp only [Act.put, List.setIfInBounds_toArray, List.set_cons_zero, List.set_cons_succ]
    refine wpAnyH_take (i := 3) (oi := ⟨_, _, _, _, _, _⟩) (v := ?_) rfl (by kernel_rfl) (by kernel_rfl) (by kernel_rfl) (fun _ _ _ h => h) (Or.inl ⟨by rfl, ?_⟩) (by assumption) ?_
    rotate_left
    · intro w hSw
      go_simp
      all_goals with_reducible rfl
    simp only [Act.put, List.setIfInBounds_toArray, List.set_cons_zero, List.set_cons_succ]
    refine wpAnyH_take (i := 2) (oi := ⟨_, _, _, _, _, _⟩) rfl (by kernel_rfl) (by kernel_rfl) (by kernel_rfl) (fun _ _ _ h => h) (yieldsIf_load_at 24 (.tmp 12) n12 0 #[.int .i64 hh, .int .i64 z0, .int .i64 z1, .int .i64 z2, .int .i64 z3, .int .i64 z4, .int .i64 0, .int .i64 0, .int .i64 0, .int .i64 0, .int .i64 0, .int .i64 0] _ (fun W' h => row_cells (show W'.heap[n12]? = _ from h.1)) rfl (by rfl) rfl rfl rfl rfl) (by assumption) ?_
    simp only [Act.put, List.setIfInBounds_toArray, List.set_cons_zero, List.set_cons_succ]
    refine wpAnyH_ready (rs := [1, 10]) (by kernel_rfl) (by simp) ?_
    refine AllReadyH.cons (o := ⟨_, _, _, _, _, _⟩) rfl (fun K hK => ?_) (AllReadyH.cons (o := ⟨_, _, _, _, _, _⟩) rfl (fun K hK => ?_) AllReadyH.nil)
    · go_simp
      (go_at_call 11; refine (HFEW.out _ (HT.out.below (HBW3.out.trans (hHeld.2.mono HBW3.out.size)))).mono ?_; rintro e wf ⟨vl, L, rfl, hL, howl, hx⟩)
      obtain ⟨Al, nl, cl, rfl⟩ := howl.slice3
      have htl := howl.terms
      rw [hL] at htl
      have HTL := Lib.hid htl
      have hH2 := And.intro (hHeld.1.below hx hHeld.1.lt) (hHeld.2.trans (hx.mono hHeld.2.size))
      clear hHeld hL howl hx htl
      go_wp2_with fail
      refine hK.out _ _ hH2 (fun hHeld => ?_)
      clear hK K
      try simp only [Act.put, List.setIfInBounds_toArray, List.set_cons_zero, List.set_cons_succ]
      clear hH2
      refine wpAnyH_ready (rs := [4, 10]) (by kernel_rfl) (by simp) ?_
      refine AllReadyH.cons (o := ⟨_, _, _, _, _, _⟩) rfl (fun K hK => ?_) (AllReadyH.cons (o := ⟨_, _, _, _, _, _⟩) rfl (fun K hK => ?_) AllReadyH.nil)
      · go_simp
        (go_at_call 15; refine (settle_any (fewT l) ⟨hh, z0, z1, z2, z3, z4⟩ bq (.slice Al nl cl) (.slice Ab nb cb) 0 0 0 0 0 0 _ HTL.out HTOK.out HLEN.out.1 (HIB3.out.below hHeld.2) (by have := HLEN.out.2; omega) HBOK.out (by have := HPQ.out; dsimp only; omega)).mono ?_; rintro e ws ⟨vp, vr, vo, rfl, hps, hrs, hbs, hx⟩)
        rw [HV.out] at hps hrs hbs ⊢
        unfold ResV.row rowC
        dsimp only at hps hrs hbs ⊢
        have hH2 := And.intro (hHeld.1.below hx hHeld.1.lt) (hHeld.2.trans (hx.mono hHeld.2.size))
        have HPS := Lib.hid hps
        have HRS := Lib.hid hrs
        have HBS := Lib.hid hbs
        clear hHeld hps hrs hbs hx HTL
        go_wp2_with fail
        refine hK.out _ _ hH2 (fun hHeld => ?_)
        clear hK K
        try simp only [Act.put, List.setIfInBounds_toArray, List.set_cons_zero, List.set_cons_succ]
        clear hH2
        refine wpAnyH_take (i := 5) (oi := ⟨_, _, _, _, _, _⟩) (v := ?_) rfl (by kernel_rfl) (by kernel_rfl) (by kernel_rfl) (fun _ _ _ h => h) (Or.inl ⟨by rfl, ?_⟩) (by assumption) ?_
        rotate_left
        · intro w hSw
          go_simp
          all_goals with_reducible rfl
        simp only [Act.put, List.setIfInBounds_toArray, List.set_cons_zero, List.set_cons_succ]
        refine wpAnyH_take (i := 6) (oi := ⟨_, _, _, _, _, _⟩) (v := ?_) rfl (by kernel_rfl) (by kernel_rfl) (by kernel_rfl) (fun _ _ _ h => h) (Or.inl ⟨by rfl, ?_⟩) (by assumption) ?_
        rotate_left
        · intro w hSw
          go_simp
          all_goals with_reducible rfl
        simp only [Act.put, List.setIfInBounds_toArray, List.set_cons_zero, List.set_cons_succ]
        refine wpAnyH_take (i := 7) (oi := ⟨_, _, _, _, _, _⟩) (v := ?_) rfl (by kernel_rfl) (by kernel_rfl) (by kernel_rfl) (fun _ _ _ h => h) (Or.inl ⟨by rfl, ?_⟩) (by assumption) ?_
        rotate_left
        · intro w hSw
          go_simp
          all_goals with_reducible rfl
        simp only [Act.put, List.setIfInBounds_toArray, List.set_cons_zero, List.set_cons_succ]
        refine wpAnyH_take (i := 8) (oi := ⟨_, _, _, _, _, _⟩) (v := ?_) rfl (by kernel_rfl) (by kernel_rfl) (by kernel_rfl) (fun _ _ _ h => h) (Or.inl ⟨by rfl, ?_⟩) (by assumption) ?_
        rotate_left
        · intro w hSw
          go_simp
          all_goals with_reducible rfl
        simp only [Act.put, List.setIfInBounds_toArray, List.set_cons_zero, List.set_cons_succ]
        refine wpAnyH_take (i := 9) (oi := ⟨_, _, _, _, _, _⟩) (v := ?_) rfl (by kernel_rfl) (by kernel_rfl) (by kernel_rfl) (fun _ _ _ h => h) (Or.inl ⟨by rfl, ?_⟩) (by assumption) ?_
        rotate_left
        · intro w hSw
          go_simp
          all_goals with_reducible rfl
        simp only [Act.put, List.setIfInBounds_toArray, List.set_cons_zero, List.set_cons_succ]
        refine wpAnyH_ready (rs := [10]) (by kernel_rfl) (by simp) ?_
        refine AllReadyH.cons (o := ⟨_, _, _, _, _, _⟩) rfl (fun K hK => ?_) AllReadyH.nil
        go_simp
        go_wp2_with fail
        obtain ⟨WA, hWA⟩ : ∃ z, World.alloc ws (.cells #[.int .i64 0, .int .i64 0, .int .i64 0, .int .i64 0, .int .i64 0, .int .i64 0, .int .i64 0, .int .i64 0, .int .i64 0, .int .i64 0, .int .i64 0, .int .i64 0] 24) = z := ⟨_, rfl⟩
        have bA : Below ((World.heap ws).size) ws WA := by rw [← hWA]; exact (Below.refl _ _).alloc (Nat.le_refl _) _
        have HRA : Hid (RowAt WA ((World.heap ws).size) 24 #[.int .i64 0, .int .i64 0, .int .i64 0, .int .i64 0, .int .i64 0, .int .i64 0, .int .i64 0, .int .i64 0, .int .i64 0, .int .i64 0, .int .i64 0, .int .i64 0]) := Lib.hid (by rw [← hWA]; exact RowAt.new _ _ _)
        have hH2 := And.intro (hHeld.1.below bA hHeld.1.lt) (hHeld.2.trans (bA.mono hHeld.2.size))
        rw [hWA]
        have HLE := Lib.hid (show w3.heap.size ≤ (World.heap ws).size from hHeld.2.size)
        have HNE := Lib.hid (show n12 < (World.heap ws).size from hHeld.1.lt)
        have HLT : Hid ((∀ g, vp.ownBlock = some g → g ≠ (World.heap ws).size) ∧ (∀ g, vr.ownBlock = some g → g ≠ (World.heap ws).size) ∧ (∀ g, vo.ownBlock = some g → g ≠ (World.heap ws).size)) := Lib.hid ⟨fun g h => by have := (HPS.out.lt g h).2; omega, fun g h => by have := (HRS.out.lt g h).2; omega, fun g h => by have := (HBS.out.lt g h).2; omega⟩
        have HP1 := Lib.hid (HPS.out.below bA)
        have HR1 := Lib.hid (HRS.out.below bA)
        have HO1 := Lib.hid (HBS.out.below bA)
        clear HPS HRS HBS
        obtain ⟨nG, hnG⟩ : ∃ z, (World.heap ws).size = z := ⟨_, rfl⟩
        rw [hnG] at HRA HLE HNE HLT ⊢
        clear hHeld bA hWA hnG
        refine hK.out _ _ hH2 (fun hHeld => ?_)
        clear hK K
        try simp only [Act.put]
        clear hH2
        have HPS := HP1
        have HRS := HR1
        have HBS := HO1
        clear HP1 HR1 HO1
        have HRA2 := HRA
        clear HRA
        refine wpAnyH_ready (rs := [11]) (by kernel_rfl) (by simp) ?_
        refine AllReadyH.cons (o := ⟨_, _, _, _, _, _⟩) rfl (fun K hK => ?_) AllReadyH.nil
        rw [if_pos (by rfl)]
        refine wp_store_row 24 (.tmp 13) (.tmp 39) rfl nG #[.int .i64 hh, .int .i64 z0, .int .i64 z1, .int .i64 z2, .int .i64 z3, .int .i64 z4, .int .i64 v0, .int .i64 v1, .int .i64 v2, .int .i64 v3, .int .i64 v4, .int .i64 v5] rfl rfl 24 #[.int .i64 0, .int .i64 0, .int .i64 0, .int .i64 0, .int .i64 0, .int .i64 0, .int .i64 0, .int .i64 0, .int .i64 0, .int .i64 0, .int .i64 0, .int .i64 0] HRA2.out (by kernel_rfl) rfl (by kernel_rfl) ?_
        obtain ⟨WB, hWB⟩ : ∃ z, World.setRow WA nG #[.int .i64 hh, .int .i64 z0, .int .i64 z1, .int .i64 z2, .int .i64 z3, .int .i64 z4, .int .i64 v0, .int .i64 v1, .int .i64 v2, .int .i64 v3, .int .i64 v4, .int .i64 v5] = z := ⟨_, rfl⟩
        have ho : ∀ g, g ≠ nG → WB.heap[g]? = (World.heap WA)[g]? := fun g hg => by rw [← hWB]; exact setRow_other (fun e => hg e.symm)
        have HRB : Hid (RowAt WB nG 24 #[.int .i64 hh, .int .i64 z0, .int .i64 z1, .int .i64 z2, .int .i64 z3, .int .i64 z4, .int .i64 v0, .int .i64 v1, .int .i64 v2, .int .i64 v3, .int .i64 v4, .int .i64 v5]) := Lib.hid (by rw [← hWB]; exact setRow_same HRA2.out)
        have hH2 : RowAt WB n12 24 #[.int .i64 hh, .int .i64 z0, .int .i64 z1, .int .i64 z2, .int .i64 z3, .int .i64 z4, .int .i64 0, .int .i64 0, .int .i64 0, .int .i64 0, .int .i64 0, .int .i64 0] ∧ Below w3.heap.size w3 WB := ⟨(ho _ (by have := HNE.out; omega)).trans hHeld.1, by rw [← hWB]; exact below_setRow hHeld.2 HLE.out⟩
        have HP2 := Lib.hid ((HPS.out.kept (w' := WB) fun g hg => ho g (HLT.out.1 g hg)).rows)
        have HR2 := Lib.hid ((HRS.out.kept (w' := WB) fun g hg => ho g (HLT.out.2.1 g hg)).rows)
        have HO2 := Lib.hid ((HBS.out.kept (w' := WB) fun g hg => ho g (HLT.out.2.2 g hg)).rows)
        rw [hWB]
        clear hHeld ho hWB
        refine hK.out _ _ hH2 (fun hHeld => ?_)
        clear hK K
        try simp only [Act.put]
        clear hH2
        refine wpAnyH_take (i := 12) (oi := ⟨_, _, _, _, _, _⟩) (v := ?_) rfl (by kernel_rfl) (by kernel_rfl) (by kernel_rfl) (fun _ _ _ h => h) (Or.inl ⟨by rfl, ?_⟩) (by assumption) ?_
        rotate_left
        · intro w hSw
          go_simp
          all_goals with_reducible rfl
        simp only [Act.put, List.setIfInBounds_toArray, List.set_cons_zero, List.set_cons_succ]
        refine wpAnyH_take (i := 13) (oi := ⟨_, _, _, _, _, _⟩) (v := ?_) rfl (by kernel_rfl) (by kernel_rfl) (by kernel_rfl) (fun _ _ _ h => h) (Or.inl ⟨by rfl, ?_⟩) (by assumption) ?_
        rotate_left
        · intro w hSw
          go_simp
          all_goals with_reducible rfl
        simp only [Act.put, List.setIfInBounds_toArray, List.set_cons_zero, List.set_cons_succ]
        refine wpAnyH_take (i := 14) (oi := ⟨_, _, _, _, _, _⟩) (v := ?_) rfl (by kernel_rfl) (by kernel_rfl) (by kernel_rfl) (fun _ _ _ h => h) (Or.inl ⟨by rfl, ?_⟩) (by assumption) ?_
        rotate_left
        · intro w hSw
          go_simp
          all_goals with_reducible rfl
        simp only [Act.put, List.setIfInBounds_toArray, List.set_cons_zero, List.set_cons_succ]
        refine wpAnyH_done (by kernel_rfl) ?_ _
        go_wp2_with fail
        go_meet
        exact Lib.hid ⟨nG, rfl, HRB.out, hHeld.1, hHeld.2, HP2.out, HR2.out, HO2.out⟩

      · go_simp
        go_wp2_with fail
        obtain ⟨WA, hWA⟩ : ∃ z, World.alloc wf (.cells #[.int .i64 0, .int .i64 0, .int .i64 0, .int .i64 0, .int .i64 0, .int .i64 0, .int .i64 0, .int .i64 0, .int .i64 0, .int .i64 0, .int .i64 0, .int .i64 0] 24) = z := ⟨_, rfl⟩
        have bA : Below ((World.heap wf).size) wf WA := by rw [← hWA]; exact (Below.refl _ _).alloc (Nat.le_refl _) _
        have HRA : Hid (RowAt WA ((World.heap wf).size) 24 #[.int .i64 0, .int .i64 0, .int .i64 0, .int .i64 0, .int .i64 0, .int .i64 0, .int .i64 0, .int .i64 0, .int .i64 0, .int .i64 0, .int .i64 0, .int .i64 0]) := Lib.hid (by rw [← hWA]; exact RowAt.new _ _ _)
        have hH2 := And.intro (hHeld.1.below bA hHeld.1.lt) (hHeld.2.trans (bA.mono hHeld.2.size))
        rw [hWA]
        have HLE := Lib.hid (show w3.heap.size ≤ (World.heap wf).size from hHeld.2.size)
        have HNE := Lib.hid (show n12 < (World.heap wf).size from hHeld.1.lt)
        have HTL2 := Lib.hid (HTL.out.below bA)
        clear HTL
        have HTL := HTL2
        clear HTL2
        obtain ⟨nG, hnG⟩ : ∃ z, (World.heap wf).size = z := ⟨_, rfl⟩
        rw [hnG] at HRA HLE HNE ⊢
        clear hHeld bA hWA hnG
        refine hK.out _ _ hH2 (fun hHeld => ?_)
        clear hK K
        try simp only [Act.put]
        clear hH2
        refine wpAnyH_ready (rs := [4]) (by kernel_rfl) (by simp) ?_
        refine AllReadyH.cons (o := ⟨_, _, _, _, _, _⟩) rfl (fun K hK => ?_) AllReadyH.nil
        go_simp
        (go_at_call 15; refine (settle_any (fewT l) ⟨hh, z0, z1, z2, z3, z4⟩ bq (.slice Al nl cl) (.slice Ab nb cb) 0 0 0 0 0 0 _ HTL.out HTOK.out HLEN.out.1 (HIB3.out.below hHeld.2) (by have := HLEN.out.2; omega) HBOK.out (by have := HPQ.out; dsimp only; omega)).mono ?_; rintro e ws ⟨vp, vr, vo, rfl, hps, hrs, hbs, hx⟩)
        rw [HV.out] at hps hrs hbs ⊢
        unfold ResV.row rowC
        dsimp only at hps hrs hbs ⊢
        have hH2 := And.intro (hHeld.1.below hx hHeld.1.lt) (hHeld.2.trans (hx.mono hHeld.2.size))
        have HRA2 := Lib.hid (HRA.out.below hx HRA.out.lt)
        have HLT : Hid ((∀ g, vp.ownBlock = some g → g ≠ nG) ∧ (∀ g, vr.ownBlock = some g → g ≠ nG) ∧ (∀ g, vo.ownBlock = some g → g ≠ nG)) := Lib.hid ⟨fun g h => by have := (hps.lt g h).1; have := HRA.out.lt; omega, fun g h => by have := (hrs.lt g h).1; have := HRA.out.lt; omega, fun g h => by have := (hbs.lt g h).1; have := HRA.out.lt; omega⟩
        clear HRA
        have HPS := Lib.hid hps
        have HRS := Lib.hid hrs
        have HBS := Lib.hid hbs
        clear hHeld hps hrs hbs hx HTL
        go_wp2_with fail
        refine hK.out _ _ hH2 (fun hHeld => ?_)
        clear hK K
        try simp only [Act.put, List.setIfInBounds_toArray, List.set_cons_zero, List.set_cons_succ]
        clear hH2
        refine wpAnyH_take (i := 5) (oi := ⟨_, _, _, _, _, _⟩) (v := ?_) rfl (by kernel_rfl) (by kernel_rfl) (by kernel_rfl) (fun _ _ _ h => h) (Or.inl ⟨by rfl, ?_⟩) (by assumption) ?_
        rotate_left
        · intro w hSw
          go_simp
          all_goals with_reducible rfl
        simp only [Act.put, List.setIfInBounds_toArray, List.set_cons_zero, List.set_cons_succ]
        refine wpAnyH_take (i := 6) (oi := ⟨_, _, _, _, _, _⟩) (v := ?_) rfl (by kernel_rfl) (by kernel_rfl) (by kernel_rfl) (fun _ _ _ h => h) (Or.inl ⟨by rfl, ?_⟩) (by assumption) ?_
        rotate_left
        · intro w hSw
          go_simp
          all_goals with_reducible rfl
        simp only [Act.put, List.setIfInBounds_toArray, List.set_cons_zero, List.set_cons_succ]
        refine wpAnyH_take (i := 7) (oi := ⟨_, _, _, _, _, _⟩) (v := ?_) rfl (by kernel_rfl) (by kernel_rfl) (by kernel_rfl) (fun _ _ _ h => h) (Or.inl ⟨by rfl, ?_⟩) (by assumption) ?_
        rotate_left
        · intro w hSw
          go_simp
          all_goals with_reducible rfl
        simp only [Act.put, List.setIfInBounds_toArray, List.set_cons_zero, List.set_cons_succ]
        refine wpAnyH_take (i := 8) (oi := ⟨_, _, _, _, _, _⟩) (v := ?_) rfl (by kernel_rfl) (by kernel_rfl) (by kernel_rfl) (fun _ _ _ h => h) (Or.inl ⟨by rfl, ?_⟩) (by assumption) ?_
        rotate_left
        · intro w hSw
          go_simp
          all_goals with_reducible rfl
        simp only [Act.put, List.setIfInBounds_toArray, List.set_cons_zero, List.set_cons_succ]
        refine wpAnyH_take (i := 9) (oi := ⟨_, _, _, _, _, _⟩) (v := ?_) rfl (by kernel_rfl) (by kernel_rfl) (by kernel_rfl) (fun _ _ _ h => h) (Or.inl ⟨by rfl, ?_⟩) (by assumption) ?_
        rotate_left
        · intro w hSw
          go_simp
          all_goals with_reducible rfl
        simp only [Act.put, List.setIfInBounds_toArray, List.set_cons_zero, List.set_cons_succ]
        refine wpAnyH_ready (rs := [11]) (by kernel_rfl) (by simp) ?_
        refine AllReadyH.cons (o := ⟨_, _, _, _, _, _⟩) rfl (fun K hK => ?_) AllReadyH.nil
        rw [if_pos (by rfl)]
        refine wp_store_row 24 (.tmp 13) (.tmp 39) rfl nG #[.int .i64 hh, .int .i64 z0, .int .i64 z1, .int .i64 z2, .int .i64 z3, .int .i64 z4, .int .i64 v0, .int .i64 v1, .int .i64 v2, .int .i64 v3, .int .i64 v4, .int .i64 v5] rfl rfl 24 #[.int .i64 0, .int .i64 0, .int .i64 0, .int .i64 0, .int .i64 0, .int .i64 0, .int .i64 0, .int .i64 0, .int .i64 0, .int .i64 0, .int .i64 0, .int .i64 0] HRA2.out (by kernel_rfl) rfl (by kernel_rfl) ?_
        obtain ⟨WB, hWB⟩ : ∃ z, World.setRow ws nG #[.int .i64 hh, .int .i64 z0, .int .i64 z1, .int .i64 z2, .int .i64 z3, .int .i64 z4, .int .i64 v0, .int .i64 v1, .int .i64 v2, .int .i64 v3, .int .i64 v4, .int .i64 v5] = z := ⟨_, rfl⟩
        have ho : ∀ g, g ≠ nG → WB.heap[g]? = (World.heap ws)[g]? := fun g hg => by rw [← hWB]; exact setRow_other (fun e => hg e.symm)
        have HRB : Hid (RowAt WB nG 24 #[.int .i64 hh, .int .i64 z0, .int .i64 z1, .int .i64 z2, .int .i64 z3, .int .i64 z4, .int .i64 v0, .int .i64 v1, .int .i64 v2, .int .i64 v3, .int .i64 v4, .int .i64 v5]) := Lib.hid (by rw [← hWB]; exact setRow_same HRA2.out)
        have hH2 : RowAt WB n12 24 #[.int .i64 hh, .int .i64 z0, .int .i64 z1, .int .i64 z2, .int .i64 z3, .int .i64 z4, .int .i64 0, .int .i64 0, .int .i64 0, .int .i64 0, .int .i64 0, .int .i64 0] ∧ Below w3.heap.size w3 WB := ⟨(ho _ (by have := HNE.out; omega)).trans hHeld.1, by rw [← hWB]; exact below_setRow hHeld.2 HLE.out⟩
        have HP2 := Lib.hid ((HPS.out.kept (w' := WB) fun g hg => ho g (HLT.out.1 g hg)).rows)
        have HR2 := Lib.hid ((HRS.out.kept (w' := WB) fun g hg => ho g (HLT.out.2.1 g hg)).rows)
        have HO2 := Lib.hid ((HBS.out.kept (w' := WB) fun g hg => ho g (HLT.out.2.2 g hg)).rows)
        rw [hWB]
        clear hHeld ho hWB
        refine hK.out _ _ hH2 (fun hHeld => ?_)
        clear hK K
        try simp only [Act.put]
        clear hH2
        refine wpAnyH_take (i := 12) (oi := ⟨_, _, _, _, _, _⟩) (v := ?_) rfl (by kernel_rfl) (by kernel_rfl) (by kernel_rfl) (fun _ _ _ h => h) (Or.inl ⟨by rfl, ?_⟩) (by assumption) ?_
        rotate_left
        · intro w hSw
          go_simp
          all_goals with_reducible rfl
        simp only [Act.put, List.setIfInBounds_toArray, List.set_cons_zero, List.set_cons_succ]
        refine wpAnyH_take (i := 13) (oi := ⟨_, _, _, _, _, _⟩) (v := ?_) rfl (by kernel_rfl) (by kernel_rfl) (by kernel_rfl) (fun _ _ _ h => h) (Or.inl ⟨by rfl, ?_⟩) (by assumption) ?_
        rotate_left
        · intro w hSw
          go_simp
          all_goals with_reducible rfl
        simp only [Act.put, List.setIfInBounds_toArray, List.set_cons_zero, List.set_cons_succ]
        refine wpAnyH_take (i := 14) (oi := ⟨_, _, _, _, _, _⟩) (v := ?_) rfl (by kernel_rfl) (by kernel_rfl) (by kernel_rfl) (fun _ _ _ h => h) (Or.inl ⟨by rfl, ?_⟩) (by assumption) ?_
        rotate_left
        · intro w hSw
          go_simp
          all_goals with_reducible rfl
        simp only [Act.put, List.setIfInBounds_toArray, List.set_cons_zero, List.set_cons_succ]
        refine wpAnyH_done (by kernel_rfl) ?_ _
        go_wp2_with fail
        go_meet
        exact Lib.hid ⟨nG, rfl, HRB.out, hHeld.1, hHeld.2, HP2.out, HR2.out, HO2.out⟩

    · go_simp
      go_wp2_with fail
      obtain ⟨WA, hWA⟩ : ∃ z, World.alloc W6 (.cells #[.int .i64 0, .int .i64 0, .int .i64 0, .int .i64 0, .int .i64 0, .int .i64 0, .int .i64 0, .int .i64 0, .int .i64 0, .int .i64 0, .int .i64 0, .int .i64 0] 24) = z := ⟨_, rfl⟩
      have bA : Below ((World.heap W6).size) W6 WA := by rw [← hWA]; exact (Below.refl _ _).alloc (Nat.le_refl _) _
      have HRA : Hid (RowAt WA ((World.heap W6).size) 24 #[.int .i64 0, .int .i64 0, .int .i64 0, .int .i64 0, .int .i64 0, .int .i64 0, .int .i64 0, .int .i64 0, .int .i64 0, .int .i64 0, .int .i64 0, .int .i64 0]) := Lib.hid (by rw [← hWA]; exact RowAt.new _ _ _)
      have hH2 := And.intro (hHeld.1.below bA hHeld.1.lt) (hHeld.2.trans (bA.mono hHeld.2.size))
      rw [hWA]
      have HLE := Lib.hid (show w3.heap.size ≤ (World.heap W6).size from hHeld.2.size)
      have HNE := Lib.hid (show n12 < (World.heap W6).size from hHeld.1.lt)
      obtain ⟨nG, hnG⟩ : ∃ z, (World.heap W6).size = z := ⟨_, rfl⟩
      rw [hnG] at HRA HLE HNE ⊢
      clear hHeld bA hWA hnG
      refine hK.out _ _ hH2 (fun hHeld => ?_)
      clear hK K
      try simp only [Act.put]
      clear hH2
      refine wpAnyH_ready (rs := [1]) (by kernel_rfl) (by simp) ?_
      refine AllReadyH.cons (o := ⟨_, _, _, _, _, _⟩) rfl (fun K hK => ?_) AllReadyH.nil
      go_simp
      (go_at_call 11; refine (HFEW.out _ (HT.out.below (HBW3.out.trans (hHeld.2.mono HBW3.out.size)))).mono ?_; rintro e wf ⟨vl, L, rfl, hL, howl, hx⟩)
      obtain ⟨Al, nl, cl, rfl⟩ := howl.slice3
      have htl := howl.terms
      rw [hL] at htl
      have HTL := Lib.hid htl
      have hH2 := And.intro (hHeld.1.below hx hHeld.1.lt) (hHeld.2.trans (hx.mono hHeld.2.size))
      have HRA3 := Lib.hid (HRA.out.below hx HRA.out.lt)
      clear HRA
      have HRA := HRA3
      clear HRA3
      clear hHeld hL howl hx htl
      go_wp2_with fail
      refine hK.out _ _ hH2 (fun hHeld => ?_)
      clear hK K
      try simp only [Act.put, List.setIfInBounds_toArray, List.set_cons_zero, List.set_cons_succ]
      clear hH2
      refine wpAnyH_ready (rs := [4]) (by kernel_rfl) (by simp) ?_
      refine AllReadyH.cons (o := ⟨_, _, _, _, _, _⟩) rfl (fun K hK => ?_) AllReadyH.nil
      go_simp
      (go_at_call 15; refine (settle_any (fewT l) ⟨hh, z0, z1, z2, z3, z4⟩ bq (.slice Al nl cl) (.slice Ab nb cb) 0 0 0 0 0 0 _ HTL.out HTOK.out HLEN.out.1 (HIB3.out.below hHeld.2) (by have := HLEN.out.2; omega) HBOK.out (by have := HPQ.out; dsimp only; omega)).mono ?_; rintro e ws ⟨vp, vr, vo, rfl, hps, hrs, hbs, hx⟩)
      rw [HV.out] at hps hrs hbs ⊢
      unfold ResV.row rowC
      dsimp only at hps hrs hbs ⊢
      have hH2 := And.intro (hHeld.1.below hx hHeld.1.lt) (hHeld.2.trans (hx.mono hHeld.2.size))
      have HRA2 := Lib.hid (HRA.out.below hx HRA.out.lt)
      have HLT : Hid ((∀ g, vp.ownBlock = some g → g ≠ nG) ∧ (∀ g, vr.ownBlock = some g → g ≠ nG) ∧ (∀ g, vo.ownBlock = some g → g ≠ nG)) := Lib.hid ⟨fun g h => by have := (hps.lt g h).1; have := HRA.out.lt; omega, fun g h => by have := (hrs.lt g h).1; have := HRA.out.lt; omega, fun g h => by have := (hbs.lt g h).1; have := HRA.out.lt; omega⟩
      clear HRA
      have HPS := Lib.hid hps
      have HRS := Lib.hid hrs
      have HBS := Lib.hid hbs
      clear hHeld hps hrs hbs hx HTL
      go_wp2_with fail
      refine hK.out _ _ hH2 (fun hHeld => ?_)
      clear hK K
      try simp only [Act.put, List.setIfInBounds_toArray, List.set_cons_zero, List.set_cons_succ]
      clear hH2
      refine wpAnyH_take (i := 5) (oi := ⟨_, _, _, _, _, _⟩) (v := ?_) rfl (by kernel_rfl) (by kernel_rfl) (by kernel_rfl) (fun _ _ _ h => h) (Or.inl ⟨by rfl, ?_⟩) (by assumption) ?_
      rotate_left
      · intro w hSw
        go_simp
        all_goals with_reducible rfl
      simp only [Act.put, List.setIfInBounds_toArray, List.set_cons_zero, List.set_cons_succ]
      refine wpAnyH_take (i := 6) (oi := ⟨_, _, _, _, _, _⟩) (v := ?_) rfl (by kernel_rfl) (by kernel_rfl) (by kernel_rfl) (fun _ _ _ h => h) (Or.inl ⟨by rfl, ?_⟩) (by assumption) ?_
      rotate_left
      · intro w hSw
        go_simp
        all_goals with_reducible rfl
      simp only [Act.put, List.setIfInBounds_toArray, List.set_cons_zero, List.set_cons_succ]
      refine wpAnyH_take (i := 7) (oi := ⟨_, _, _, _, _, _⟩) (v := ?_) rfl (by kernel_rfl) (by kernel_rfl) (by kernel_rfl) (fun _ _ _ h => h) (Or.inl ⟨by rfl, ?_⟩) (by assumption) ?_
      rotate_left
      · intro w hSw
        go_simp
        all_goals with_reducible rfl
      simp only [Act.put, List.setIfInBounds_toArray, List.set_cons_zero, List.set_cons_succ]
      refine wpAnyH_take (i := 8) (oi := ⟨_, _, _, _, _, _⟩) (v := ?_) rfl (by kernel_rfl) (by kernel_rfl) (by kernel_rfl) (fun _ _ _ h => h) (Or.inl ⟨by rfl, ?_⟩) (by assumption) ?_
      rotate_left
      · intro w hSw
        go_simp
        all_goals with_reducible rfl
      simp only [Act.put, List.setIfInBounds_toArray, List.set_cons_zero, List.set_cons_succ]
      refine wpAnyH_take (i := 9) (oi := ⟨_, _, _, _, _, _⟩) (v := ?_) rfl (by kernel_rfl) (by kernel_rfl) (by kernel_rfl) (fun _ _ _ h => h) (Or.inl ⟨by rfl, ?_⟩) (by assumption) ?_
      rotate_left
      · intro w hSw
        go_simp
        all_goals with_reducible rfl
      simp only [Act.put, List.setIfInBounds_toArray, List.set_cons_zero, List.set_cons_succ]
      refine wpAnyH_ready (rs := [11]) (by kernel_rfl) (by simp) ?_
      refine AllReadyH.cons (o := ⟨_, _, _, _, _, _⟩) rfl (fun K hK => ?_) AllReadyH.nil
      rw [if_pos (by rfl)]
      refine wp_store_row 24 (.tmp 13) (.tmp 39) rfl nG #[.int .i64 hh, .int .i64 z0, .int .i64 z1, .int .i64 z2, .int .i64 z3, .int .i64 z4, .int .i64 v0, .int .i64 v1, .int .i64 v2, .int .i64 v3, .int .i64 v4, .int .i64 v5] rfl rfl 24 #[.int .i64 0, .int .i64 0, .int .i64 0, .int .i64 0, .int .i64 0, .int .i64 0, .int .i64 0, .int .i64 0, .int .i64 0, .int .i64 0, .int .i64 0, .int .i64 0] HRA2.out (by kernel_rfl) rfl (by kernel_rfl) ?_
      obtain ⟨WB, hWB⟩ : ∃ z, World.setRow ws nG #[.int .i64 hh, .int .i64 z0, .int .i64 z1, .int .i64 z2, .int .i64 z3, .int .i64 z4, .int .i64 v0, .int .i64 v1, .int .i64 v2, .int .i64 v3, .int .i64 v4, .int .i64 v5] = z := ⟨_, rfl⟩
      have ho : ∀ g, g ≠ nG → WB.heap[g]? = (World.heap ws)[g]? := fun g hg => by rw [← hWB]; exact setRow_other (fun e => hg e.symm)
      have HRB : Hid (RowAt WB nG 24 #[.int .i64 hh, .int .i64 z0, .int .i64 z1, .int .i64 z2, .int .i64 z3, .int .i64 z4, .int .i64 v0, .int .i64 v1, .int .i64 v2, .int .i64 v3, .int .i64 v4, .int .i64 v5]) := Lib.hid (by rw [← hWB]; exact setRow_same HRA2.out)
      have hH2 : RowAt WB n12 24 #[.int .i64 hh, .int .i64 z0, .int .i64 z1, .int .i64 z2, .int .i64 z3, .int .i64 z4, .int .i64 0, .int .i64 0, .int .i64 0, .int .i64 0, .int .i64 0, .int .i64 0] ∧ Below w3.heap.size w3 WB := ⟨(ho _ (by have := HNE.out; omega)).trans hHeld.1, by rw [← hWB]; exact below_setRow hHeld.2 HLE.out⟩
      have HP2 := Lib.hid ((HPS.out.kept (w' := WB) fun g hg => ho g (HLT.out.1 g hg)).rows)
      have HR2 := Lib.hid ((HRS.out.kept (w' := WB) fun g hg => ho g (HLT.out.2.1 g hg)).rows)
      have HO2 := Lib.hid ((HBS.out.kept (w' := WB) fun g hg => ho g (HLT.out.2.2 g hg)).rows)
      rw [hWB]
      clear hHeld ho hWB
      refine hK.out _ _ hH2 (fun hHeld => ?_)
      clear hK K
      try simp only [Act.put]
      clear hH2
      refine wpAnyH_take (i := 12) (oi := ⟨_, _, _, _, _, _⟩) (v := ?_) rfl (by kernel_rfl) (by kernel_rfl) (by kernel_rfl) (fun _ _ _ h => h) (Or.inl ⟨by rfl, ?_⟩) (by assumption) ?_
      rotate_left
      · intro w hSw
        go_simp
        all_goals with_reducible rfl
      simp only [Act.put, List.setIfInBounds_toArray, List.set_cons_zero, List.set_cons_succ]
      refine wpAnyH_take (i := 13) (oi := ⟨_, _, _, _, _, _⟩) (v := ?_) rfl (by kernel_rfl) (by kernel_rfl) (by kernel_rfl) (fun _ _ _ h => h) (Or.inl ⟨by rfl, ?_⟩) (by assumption) ?_
      rotate_left
      · intro w hSw
        go_simp
        all_goals with_reducible rfl
      simp only [Act.put, List.setIfInBounds_toArray, List.set_cons_zero, List.set_cons_succ]
      refine wpAnyH_take (i := 14) (oi := ⟨_, _, _, _, _, _⟩) (v := ?_) rfl (by kernel_rfl) (by kernel_rfl) (by kernel_rfl) (fun _ _ _ h => h) (Or.inl ⟨by rfl, ?_⟩) (by assumption) ?_
      rotate_left
      · intro w hSw
        go_simp
        all_goals with_reducible rfl
      simp only [Act.put, List.setIfInBounds_toArray, List.set_cons_zero, List.set_cons_succ]
      refine wpAnyH_done (by kernel_rfl) ?_ _
      go_wp2_with fail
      go_meet
      exact Lib.hid ⟨nG, rfl, HRB.out, hHeld.1, hHeld.2, HP2.out, HR2.out, HO2.out⟩
  case rest =>
    obtain ⟨nG, rfl, hG, h12, hbw, hps, hrs, hbs⟩ := hcut.out
    clear hcut HR5 HB5 HIB3 HTL3
    have hG2 : RowAt wc nG 24 #[.int .i64 hh, .int .i64 z0, .int .i64 z1, .int .i64 z2, .int .i64 z3, .int .i64 z4, .int .i64 v0, .int .i64 v1, .int .i64 v2, .int .i64 v3, .int .i64 v4, .int .i64 v5] := hG
    have h122 : RowAt wc n12 24 #[.int .i64 hh, .int .i64 z0, .int .i64 z1, .int .i64 z2, .int .i64 z3, .int .i64 z4, .int .i64 0, .int .i64 0, .int .i64 0, .int .i64 0, .int .i64 0, .int .i64 0] := h12
    obtain ⟨Ap, cp, hvp⟩ := hps.slice
    obtain ⟨Ar, cr, hvr⟩ := hrs.slice
    obtain ⟨Ao, co, hvo⟩ := hbs.slice
    rw [List.length_map] at hvp hvr hvo
    obtain ⟨np, hnp⟩ : ∃ m, vps.length = m := ⟨_, rfl⟩
    obtain ⟨nr, hnr⟩ : ∃ m, vrs.length = m := ⟨_, rfl⟩
    have hno : vbs.length = nb := by rw [HLN.out.2.2, HNB.out]
    rw [hnp] at hvp
    rw [hnr] at hvr
    rw [hno] at hvo
    have hnp12 : np ≤ 12 := by rw [← hnp]; exact HLN.out.1
    have hnr12 : nr ≤ 12 := by rw [← hnr]; exact HLN.out.2.1
    have hnb12 : nb ≤ 12 := by rw [HNB.out]; exact HLEN.out.2
    subst hvp hvr hvo
    have HNP := Lib.hid hnp
    have HNR := Lib.hid hnr
    have HNO := Lib.hid hno
    have HG := Lib.hid (row_cells (show wc.heap[nG]? = _ from hG2))
    have HK5 := Lib.hid (And.intro hG2 (And.intro h122 (And.intro hbw (And.intro hps (And.intro hrs hbs)))))
    clear hG h12 hbw hps hrs hbs hG2 h122 hnp hnr hno
    have p4a := HP4.out.1
    have p4b := HP4.out.2
    have HIBC := Lib.hid (HIB0.out.below HK5.out.2.2.1)
    go_wp2_with (first | ((with_reducible refine wpList_load_at (o := ⟨some 43, _, _, _, _, _⟩) ?_ 24 (.tmp 13) ?_ nG 0 ?_ _ _ HG.out Try.underlying24 ?_ ?_ ?_); rfl; rfl; rfl; rfl; kernel_rfl))
    refine (BAL.out _).mono ?_
    rintro e w6 ⟨rfl, hx⟩
    have c104 : w6.cell? ⟨nG, 10, none⟩ = some (.int .i64 v4) := (HK5.out.1.below hx HK5.out.1.lt).cell 10
    have HK6 := Lib.hid (And.intro (HK5.out.1.below hx HK5.out.1.lt) (And.intro (HK5.out.2.1.below hx HK5.out.2.1.lt) (And.intro (HK5.out.2.2.1.trans (hx.mono HK5.out.2.2.1.size)) (And.intro (HK5.out.2.2.2.1.below hx) (And.intro (HK5.out.2.2.2.2.1.below hx) (HK5.out.2.2.2.2.2.below hx))))))
    have HIB6 := Lib.hid (HIBC.out.below hx)
    clear hx HG HK5 HIBC
    go_wp2_with fail
    clear c104 p4a p4b
    go_loop [17, 18] (fun sv iv => ∃ k : Nat, k ≤ np ∧ iv = .int .i64 k ∧ sv = .int .i64 (sumB (vps.take k))) (fun _ i => np - (intOf i).toNat)
    case atStart => exact ⟨0, by omega, rfl, rfl⟩
    case round =>
      obtain ⟨k, hk, rfl, rfl⟩ := hrel
      have hpos : ∀ x ∈ vps, 0 ≤ x.2 := fun x hx => by have := HB0.out.1 x hx; omega
      by_cases hk2 : k < np
      · obtain ⟨⟨x, y⟩, hf0⟩ : ∃ f, vps[k]? = some f := ⟨_, List.getElem?_eq_getElem (by rw [HNP.out]; exact hk2)⟩
        have hf : (vps.map p2)[k]? = some [x, y] := by rw [List.getElem?_map, hf0]; rfl
        obtain ⟨b1, o1, hA1, hlt1, h1⟩ := HK6.out.2.2.2.1.at15 hf
        subst hA1
        have c1 : w6.cell? ⟨b1, o1 + k * 2 + 1, none⟩ = some (.int .i64 y) := h1 1 y rfl
        have hy : 1 ≤ y := HB0.out.1 (x, y) (List.mem_of_getElem? hf0)
        have ht := sumB_take vps k (x, y) hf0
        have hb1 := sumB_takes hpos k
        have hb2 := sumB_takes hpos (k + 1)
        have hb3 := HSUM.out
        rw [ht] at hb2
        rw [← hb3.1] at hb1 hb2
        obtain ⟨s, hs⟩ : ∃ s, sumB (vps.take k) = s := ⟨_, rfl⟩
        rw [hs] at ht hb1 hb2 ⊢
        dsimp only at hb2
        have hb4 : s + y ≤ 1000000000000000000 := by omega
        have hb5 : 0 ≤ s := hb1.1
        have HTT := Lib.hid ht
        clear hf0 hf h1 ht hb1 hb2 hb3 hs hpos
        go_wp2_with fail
        go_round
        case rel => exact ⟨k + 1, by omega, by go_num, by rw [HTT.out]⟩
        case measure => simp [intOf]; omega
      · have hs : sumB (vps.take k) = v0 := by rw [List.take_of_length_le (by rw [HNP.out]; omega), HSUM.out.1]
        rw [hs]
        obtain rfl : k = np := by omega
        clear hs hpos
        go_wp2_with fail
        go_loopw [19, 20] (fun sv iv wr => ∃ k : Nat, k ≤ nr ∧ iv = .int .i64 k ∧ sv = .int .i64 (sumR (vrs.take k)) ∧ Hid (Below w6.heap.size w6 wr)) (fun _ i _ => nr - (intOf i).toNat)
        case atStart => exact ⟨0, by omega, rfl, rfl, Lib.hid (Below.refl _ _)⟩
        case round =>
          obtain ⟨k, hk, rfl, rfl, HBR⟩ := hrel
          have hpos : ∀ x ∈ vrs, 0 ≤ x.2.2 := fun x hx => by have := (HB0.out.2.1 x hx).1; omega
          by_cases hk2 : k < nr
          · obtain ⟨⟨x, y, z⟩, hf0⟩ : ∃ f, vrs[k]? = some f := ⟨_, List.getElem?_eq_getElem (by rw [HNR.out]; exact hk2)⟩
            have hf : (vrs.map p3)[k]? = some [x, y, z] := by rw [List.getElem?_map, hf0]; rfl
            obtain ⟨b1, o1, hA1, hlt1, h1⟩ := HK6.out.2.2.2.2.1.at15 hf
            subst hA1
            have c0 := (HBR.out.cell (p := ⟨b1, o1 + k * 3, none⟩) hlt1).trans (h1 0 x rfl)
            have c1 := (HBR.out.cell (p := ⟨b1, o1 + k * 3 + 1, none⟩) hlt1).trans (h1 1 y rfl)
            have c2 := (HBR.out.cell (p := ⟨b1, o1 + k * 3 + 2, none⟩) hlt1).trans (h1 2 z rfl)
            have hm := HB0.out.2.1 (x, y, z) (List.mem_of_getElem? hf0)
            dsimp only at hm
            obtain ⟨hz, hxh, hy1, hy2⟩ := hm
            rw [hxh] at c0
            clear hxh
            have c12 : ∀ o, (wr.alloc o).cell? ⟨n12, 1, none⟩ = some (.int .i64 z0) := fun o => by
              have h : wr.cell? ⟨n12, 1, none⟩ = some (.int .i64 z0) := (HBR.out.cell (p := ⟨n12, 1, none⟩) HK6.out.2.1.lt).trans (HK6.out.2.1.cell 1)
              rw [World.cell?_alloc_some wr _ o (by rw [h]; rfl)]
              exact h
            have ht := sumR_take vrs k (x, y, z) hf0
            have hb1 := sumR_takes hpos k
            have hb2 := sumR_takes hpos (k + 1)
            have hb3 := HSUM.out
            rw [ht] at hb2
            rw [← hb3.2.1] at hb1 hb2
            obtain ⟨s, hs⟩ : ∃ s, sumR (vrs.take k) = s := ⟨_, rfl⟩
            rw [hs] at ht hb1 hb2 ⊢
            dsimp only at hb2
            have hb4 : s + z ≤ 1000000000000000000 := by omega
            have hb5 : 0 ≤ s := hb1.1
            have hz0 := HPQ.out.1
            have hz1 := HPQ.out.2
            have HTT := Lib.hid ht
            clear hf0 hf h1 ht hb1 hb2 hb3 hs hpos
            go_wp2_with fail
            go_roundw
            case rel => exact ⟨k + 1, by omega, by go_num, by rw [HTT.out], Lib.hid (HBR.out.alloc HBR.out.size _)⟩
            case measure => simp [intOf]; omega
          · have hs : sumR (vrs.take k) = v2 := by rw [List.take_of_length_le (by rw [HNR.out]; omega), HSUM.out.2.1]
            rw [hs]
            obtain rfl : k = nr := by omega
            clear hs hpos
            obtain ⟨W7, hW7⟩ : ∃ z, wr = z := ⟨_, rfl⟩
            rw [hW7] at HBR ⊢
            clear hW7
            have HK7 := Lib.hid (And.intro (HK6.out.1.below HBR.out HK6.out.1.lt) (And.intro (HK6.out.2.1.below HBR.out HK6.out.2.1.lt) (And.intro (HK6.out.2.2.1.trans (HBR.out.mono HK6.out.2.2.1.size)) (HK6.out.2.2.2.2.2.below HBR.out))))
            have HIB7 := Lib.hid (HIB6.out.below HBR.out)
            clear HBR HK6 HIB6
            have hmono : ∀ (i : Nat) b b', bq[i]? = some b → vbs[i]? = some b' → b'.2 ≤ b.2 := fun i b b' h h' => (HB0.out.2.2 i b b' h h').2.1
            have HDM := Lib.hid (fun k => difB_bd HLN.out.2.2 hmono k)
            clear hmono
            go_wp2_with fail
            go_loopw [22, 23] (fun sv iv wr => ∃ k : Nat, k ≤ nb ∧ iv = .int .i64 k ∧ sv = .int .i64 (difB bq vbs k) ∧ Hid (Below W7.heap.size W7 wr)) (fun _ i _ => nb - (intOf i).toNat)
            case atStart => exact ⟨0, by omega, rfl, rfl, Lib.hid (Below.refl _ _)⟩
            case round =>
              obtain ⟨k, hk, rfl, rfl, HBR⟩ := hrel
              by_cases hk2 : k < nb
              · obtain ⟨⟨x, y⟩, hf0⟩ : ∃ f, bq[k]? = some f := ⟨_, List.getElem?_eq_getElem (by rw [← HNB.out]; exact hk2)⟩
                obtain ⟨⟨x', y'⟩, hf1⟩ : ∃ f, vbs[k]? = some f := ⟨_, List.getElem?_eq_getElem (by rw [HNO.out]; exact hk2)⟩
                have hq := HB0.out.2.2 k _ _ hf0 hf1
                dsimp only at hq
                obtain ⟨hxx, hq1, hq2⟩ := hq
                rw [hxx] at hf1
                obtain ⟨b1, o1, hA1, hlt1, h1⟩ := HIB7.out.at15 (show (bq.map p2)[k]? = some [x, y] by rw [List.getElem?_map, hf0]; rfl)
                obtain ⟨b2, o2, hA2, hlt2, h2⟩ := HK7.out.2.2.2.at15 (show (vbs.map p2)[k]? = some [x, y'] by rw [List.getElem?_map, hf1]; rfl)
                subst hA1 hA2
                have ca0 := (HBR.out.cell (p := ⟨b1, o1 + k * 2, none⟩) hlt1).trans (h1 0 x rfl)
                have ca1 := (HBR.out.cell (p := ⟨b1, o1 + k * 2 + 1, none⟩) hlt1).trans (h1 1 y rfl)
                have cb0 := (HBR.out.cell (p := ⟨b2, o2 + k * 2, none⟩) hlt2).trans (h2 0 x rfl)
                have cb1 := (HBR.out.cell (p := ⟨b2, o2 + k * 2 + 1, none⟩) hlt2).trans (h2 1 y' rfl)
                have ht := difB_succ hf0 hf1
                have hb1 := HDM.out k
                have hb2 := HDM.out (k + 1)
                have hb3 := HSUM.out
                rw [ht] at hb2
                obtain ⟨s, hs⟩ : ∃ s, difB bq vbs k = s := ⟨_, rfl⟩
                rw [hs] at ht hb1 hb2 ⊢
                dsimp only at hb2 ht
                obtain ⟨d, hd⟩ : ∃ d, y - y' = d := ⟨_, rfl⟩
                rw [hd] at ht hb2
                have hd0 : 0 ≤ d := by omega
                have hd1 : d ≤ 1000000000000000000 := by omega
                have hb4 : s + d ≤ 1000000000000000000 := by omega
                have hb5 : 0 ≤ s := hb1.1
                have wd : IntKind.i64.wrap (y - y') = d := by rw [hd]; exact IntWalk.i64_in _ (by omega)
                have ws : IntKind.i64.wrap (s + d) = s + d := IntWalk.i64_in _ (by omega)
                have e0 : decide (d < 0) = false := by simp; omega
                have hdy : 0 < d → decide (y' < 0) = false := fun h => by simp; omega
                have HTT := Lib.hid ht
                have HDD := Lib.hid hd
                have HDY := Lib.hid hdy
                clear hf0 hf1 h1 h2 ht hb1 hb2 hb3 hs hd hdy hxx hq1 hq2
                by_cases hp : 0 < d
                · have e1 : decide (0 < d) = true := by simpa using hp
                  have e2 := HDY.out hp
                  go_wp2_with fail
                  go_quiet (fail)
                  go_wp2_with fail
                  go_quiet (fail)
                  go_wp2_with fail
                  go_roundw
                  case rel => exact ⟨k + 1, by omega, by go_num, by rw [HTT.out], Lib.hid (below_drewN HBR.out _)⟩
                  case measure => simp [intOf]; omega
                · have e1 : decide (0 < d) = false := by simpa using hp
                  go_wp2_with fail
                  go_quiet (fail)
                  go_wp2_with fail
                  go_quiet (fail)
                  go_wp2_with fail
                  go_roundw
                  case rel => exact ⟨k + 1, by omega, by go_num, by rw [HTT.out], Lib.hid (below_drewN HBR.out _)⟩
                  case measure => simp [intOf]; omega
              · have hs : difB bq vbs k = v3 := by
                  have h1 := HSUM.out.2.2.1
                  unfold difB
                  rw [List.take_of_length_le (by rw [← HNB.out]; omega), List.take_of_length_le (by rw [HNO.out]; omega)]
                  omega
                rw [hs]
                clear hs
                have r13 := HK7.out.1.below HBR.out HK7.out.1.lt
                have r12 := HK7.out.2.1.below HBR.out HK7.out.2.1.lt
                have HBE := Lib.hid (HBW3.out.trans ((HK7.out.2.2.1.trans (HBR.out.mono HK7.out.2.2.1.size)).mono HBW3.out.size))
                have k13_0 : wr.cell? ⟨nG, 0, none⟩ = some (.int .i64 hh) := r13.cell 0
                have k13_1 : wr.cell? ⟨nG, 1, none⟩ = some (.int .i64 z0) := r13.cell 1
                have k13_2 : wr.cell? ⟨nG, 2, none⟩ = some (.int .i64 z1) := r13.cell 2
                have k13_3 : wr.cell? ⟨nG, 3, none⟩ = some (.int .i64 z2) := r13.cell 3
                have k13_4 : wr.cell? ⟨nG, 4, none⟩ = some (.int .i64 z3) := r13.cell 4
                have k13_5 : wr.cell? ⟨nG, 5, none⟩ = some (.int .i64 z4) := r13.cell 5
                have k13_6 : wr.cell? ⟨nG, 6, none⟩ = some (.int .i64 v0) := r13.cell 6
                have k13_8 : wr.cell? ⟨nG, 8, none⟩ = some (.int .i64 v2) := r13.cell 8
                have k13_9 : wr.cell? ⟨nG, 9, none⟩ = some (.int .i64 v3) := r13.cell 9
                have k12_0 : wr.cell? ⟨n12, 0, none⟩ = some (.int .i64 hh) := r12.cell 0
                have k12_1 : wr.cell? ⟨n12, 1, none⟩ = some (.int .i64 z0) := r12.cell 1
                have k12_2 : wr.cell? ⟨n12, 2, none⟩ = some (.int .i64 z1) := r12.cell 2
                have k12_3 : wr.cell? ⟨n12, 3, none⟩ = some (.int .i64 z2) := r12.cell 3
                have k12_4 : wr.cell? ⟨n12, 4, none⟩ = some (.int .i64 z3) := r12.cell 4
                have k12_5 : wr.cell? ⟨n12, 5, none⟩ = some (.int .i64 z4) := r12.cell 5
                clear r13 r12
                go_wp2_with fail
                go_ret
                exact ⟨rfl, HBE.out⟩
end Go.Proofs.Ytejkgnlflhngbaa
