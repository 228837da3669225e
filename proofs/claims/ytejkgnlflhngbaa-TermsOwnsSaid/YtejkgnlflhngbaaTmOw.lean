/- TermsOwns returns true. -/
import Derived.Test.YtejkgnlflhngbaaTmPl
namespace Go.Proofs.Ytejkgnlflhngbaa
open Go Go.RowKit Go.Lib Go.Shelf Go.Maps

theorem neg_one : (#[.int .i64 (-1), .int .i64 0] : Array Value).all (·.oneCell') = true := by simp [Value.oneCell']
set_option maxRecDepth 100000 in
set_option maxHeartbeats 8000000 in
theorem owns_yes (A : Option Addr) (n c : Nat) (l : List TermV) (h p e rc rl b x6 x7 x8 x9 x10 x11 : Int) (A4 : Option Addr) (n4 c4 : Nat) (bs : List (Int × Int)) (w : World)
    (ht : TermsIn w (.slice A n c) l) (hn : l.length = n) (hl : n ≤ 140737488351232) (hok : ∀ t ∈ l, (∀ x ∈ [t.k, t.n, t.m, t.ab], -9223372036854775808 ≤ x ∧ x ≤ 9223372036854775807) ∧ (∀ x ∈ t.acc, -9223372036854775808 ≤ x ∧ x ≤ 9223372036854775807)) (hal : ∀ t ∈ l, t.acc.length ≤ 9223372036854775807)
    (hb : IRows 2 w (.slice A4 n4 c4) (bs.map p2)) (hn4 : bs.length = n4) (hl4 : n4 ≤ 140737488351232) (hc4 : n4 ≤ c4) (hbb : ∀ b ∈ bs, (-9223372036854775808 ≤ b.1 ∧ b.1 ≤ 9223372036854775807) ∧ -9223372036854775808 ≤ b.2 ∧ b.2 ≤ 9223372036854775807)
    (hp : I64 p) :
    Calls Try.prog 9 #[.slice A n c, .agg #[.int .i64 h, .int .i64 p, .int .i64 e, .int .i64 rc, .int .i64 rl, .int .i64 b, .int .i64 x6, .int .i64 x7, .int .i64 x8, .int .i64 x9, .int .i64 x10, .int .i64 x11], .slice A4 n4 c4] w fun e w' => e = .returned (.bool true) ∧ Below w.heap.size w w' := by
  have HT := Lib.hid ht
  have HFEW := Lib.hid (fun W (h2 : TermsIn W (.slice A n c) l) => few_any A n c l W h2 hn hl hal)
  have HSOME := Lib.hid (fun W (h : Below w.heap.size w W) => some_any A4 n4 c4 bs W (hb.below h) hn4 hl4 hc4)
  have HTOK := Lib.hid (few_ok hok)
  have HBOK : Hid (∀ b ∈ bs.take 12, (-9223372036854775808 ≤ b.1 ∧ b.1 ≤ 9223372036854775807) ∧ -9223372036854775808 ≤ b.2 ∧ b.2 ≤ 9223372036854775807) := Lib.hid fun b h => hbb b (List.mem_of_mem_take h)
  have HLEN : Hid ((fewT l).length ≤ 1000 ∧ (bs.take 12).length ≤ 1000) := Lib.hid ⟨few_len l, by rw [List.length_take]; omega⟩
  have PK := Lib.hid (fun W => pick_any p 1200 W hp.1 hp.2 (by omega) (by omega))
  have hpb := pickN_bd p 1200 (by omega)
  obtain ⟨q, hq⟩ : ∃ z, pickN p 1200 = z := ⟨_, rfl⟩
  rw [hq] at PK hpb
  have HPQ : Hid (0 ≤ q ∧ q < 1200) := Lib.hid hpb
  obtain ⟨oo, hoo⟩ : ∃ z, openR ⟨h, q, e, rc, rl, b⟩ = z := ⟨_, rfl⟩
  have hV0 := fun h0 => settle_closed (R := ⟨h, q, e, rc, rl, b⟩) h0 (fewT l) (bs.take 12)
  have hV1 := fun h0 => bal_settle (R := ⟨h, q, e, rc, rl, b⟩) h0 (fewT l) (bs.take 12)
  rw [hoo] at hV0 hV1
  have HO15 := Lib.hid (fun W => open15_any ⟨h, q, e, rc, rl, b⟩ x6 x7 x8 x9 x10 x11 W)
  rw [hoo] at HO15
  unfold rowC at HO15
  dsimp only at HO15
  have hsl := (settle_len (fewT l) ⟨h, q, e, rc, rl, b⟩ (bs.take 12)).2.2
  obtain ⟨V, hV⟩ : ∃ z, settleSpec (fewT l) ⟨h, q, e, rc, rl, b⟩ (bs.take 12) = z := ⟨_, rfl⟩
  rw [hV] at hV0 hV1 hsl
  have HV := Lib.hid hV
  obtain ⟨v0, v1, v2, v3, v4, v5, vps, vrs, vbs⟩ := V
  dsimp only at hV1 hsl
  have HB15 := Lib.hid (fun W => balanced_any ⟨h, q, e, rc, rl, b⟩ v0 v1 v2 v3 v4 v5 W)
  unfold rowC at HB15
  dsimp only at HB15
  have HV0 := Lib.hid hV0
  have HV1 := Lib.hid hV1
  have HSL := Lib.hid hsl
  clear ht hn hl hok hal hb hn4 hl4 hc4 hbb hp hpb hq hoo hV0 hV1 hsl hV
  go_enter Try.func9, Try.ntmps9
  go_wp2_with fail
  refine (sane_yes _).mono ?_
  rintro e0 w1 ⟨rfl, hx1⟩
  have r1 : RowAt w1 w.heap.size 24 #[.int .i64 h, .int .i64 p, .int .i64 e, .int .i64 rc, .int .i64 rl, .int .i64 b, .int .i64 x6, .int .i64 x7, .int .i64 x8, .int .i64 x9, .int .i64 x10, .int .i64 x11] := (RowAt.new w _ _).below hx1 (by simp)
  have bw1 : Below w.heap.size w w1 := ((Below.refl _ _).alloc (Nat.le_refl _) _).trans (hx1.mono (by simp))
  have HR1 := Lib.hid (And.intro r1 bw1)
  clear r1 bw1 hx1
  go_wp2_with fail
  refine (HFEW.out w1 (HT.out.below HR1.out.2)).mono ?_
  rintro e0 w2 ⟨vl, L, rfl, hL, howl, hx⟩
  obtain ⟨Al, nl, cl, rfl⟩ := howl.slice3
  have HL := Lib.hid hL
  have HOWL2 := Lib.hid howl
  have HB1L := Lib.hid (show w.heap.size < w1.heap.size from HR1.out.1.lt)
  have HR2 := Lib.hid (And.intro (HR1.out.1.below hx HR1.out.1.lt) (HR1.out.2.trans (hx.mono HR1.out.2.size)))
  clear hL howl hx HR1
  have c1 : w2.cell? ⟨w.heap.size, 1, none⟩ = some (.int .i64 p) := HR2.out.1.cell 1
  have f1 : w2.frozen? ⟨w.heap.size, 1, none⟩ = false := HR2.out.1.free 1
  go_wp2_with fail
  refine (PK.out _).mono ?_
  rintro e0 w' ⟨rfl, rfl⟩
  go_wp2_with (first | ((with_reducible refine wpList_stop (o := ⟨some 24, _, _, _, _, _⟩) ?_)))
  unfold Stop
  obtain ⟨W4, hW4⟩ : ∃ z, w2.setCell ⟨w.heap.size, 1, none⟩ (.int .i64 q) = z := ⟨_, rfl⟩
  have ho4 : ∀ g, g ≠ w.heap.size → W4.heap[g]? = w2.heap[g]? := fun g hg => by rw [← hW4]; exact Below.heap_setCell w2 ⟨w.heap.size, 1, none⟩ _ g hg
  have r4 : RowAt W4 w.heap.size 24 #[.int .i64 h, .int .i64 q, .int .i64 e, .int .i64 rc, .int .i64 rl, .int .i64 b, .int .i64 x6, .int .i64 x7, .int .i64 x8, .int .i64 x9, .int .i64 x10, .int .i64 x11] := by rw [← hW4]; exact HR2.out.1.set 1 _
  have bw4 : Below w.heap.size w W4 := by rw [← hW4]; exact HR2.out.2.setCell (p := ⟨w.heap.size, 1, none⟩) (Nat.le_refl _) _
  have htl4 := (HOWL2.out.kept (w' := W4) fun g h1 _ => ho4 g (by have := HB1L.out; omega)).terms
  rw [HL.out] at htl4
  rw [hW4]
  have HK4 := Lib.hid (And.intro r4 (And.intro bw4 htl4))
  clear hW4 ho4 r4 bw4 htl4 c1 f1 HOWL2 HB1L HR2
  go_wp2_with fail
  refine (HSOME.out W4 HK4.out.2.1).mono ?_
  rintro e0 w5 ⟨vw, rfl, hob, hx⟩
  obtain ⟨Aw, nw, cw, rfl⟩ := hob.slice3
  have HIW5 := Lib.hid hob.rows
  have HK5 := Lib.hid (And.intro (HK4.out.1.below hx HK4.out.1.lt) (And.intro (HK4.out.2.1.trans (hx.mono HK4.out.2.1.size)) (HK4.out.2.2.below hx)))
  clear hob hx HK4
  go_wp2_with fail
  refine (HSOME.out w5 HK5.out.2.1).mono ?_
  rintro e0 w6 ⟨vn, rfl, hob, hx⟩
  obtain ⟨An, nn, cn, rfl⟩ := hob.slice3
  have HIN6 := Lib.hid hob.rows
  have HIW6 := Lib.hid (HIW5.out.below hx)
  have HK6 := Lib.hid (And.intro (HK5.out.1.below hx HK5.out.1.lt) (And.intro (HK5.out.2.1.trans (hx.mono HK5.out.2.1.size)) (HK5.out.2.2.below hx)))
  have HRW6 := Lib.hid (row_cells (show w6.heap[w.heap.size]? = some (.cells #[.int .i64 h, .int .i64 q, .int .i64 e, .int .i64 rc, .int .i64 rl, .int .i64 b, .int .i64 x6, .int .i64 x7, .int .i64 x8, .int .i64 x9, .int .i64 x10, .int .i64 x11] 24 (0, 0)) from HK6.out.1))
  clear hob hx HK5 HIW5
  go_wp2_with (first | ((with_reducible refine wpList_load_at (o := ⟨some 29, _, _, _, _, _⟩) ?_ 24 (.tmp 4) ?_ w.heap.size 0 ?_ _ _ HRW6.out Try.underlying24 ?_ ?_ ?_); rfl; rfl; rfl; rfl; kernel_rfl))
  refine (settle_any (fewT l) ⟨h, q, e, rc, rl, b⟩ (bs.take 12) (.slice Al nl cl) (.slice An nn cn) x6 x7 x8 x9 x10 x11 w6 HK6.out.2.2 HTOK.out HLEN.out.1 HIN6.out HLEN.out.2 HBOK.out (by have := HPQ.out; dsimp only; omega)).mono ?_
  rintro e0 w7 ⟨vp, vr, vo, rfl, hps, hrs, hbs, hx⟩
  rw [HV.out] at hps hrs hbs ⊢
  unfold ResV.row rowC
  dsimp only at hps hrs hbs ⊢
  obtain ⟨Ap, np, cp, rfl⟩ := hps.slice3
  obtain ⟨Ar, nr, cr, rfl⟩ := hrs.slice3
  obtain ⟨Ao, no, co, rfl⟩ := hbs.slice3
  have HPS := Lib.hid hps
  have HRS := Lib.hid hrs
  have HBS := Lib.hid hbs
  have HIN7 := Lib.hid (HIN6.out.below hx)
  have HIW7 := Lib.hid (HIW6.out.below hx)
  have HK7 := Lib.hid (And.intro (HK6.out.1.below hx HK6.out.1.lt) (HK6.out.2.1.trans (hx.mono HK6.out.2.1.size)))
  have HX7 := Lib.hid hx
  clear hps hrs hbs hx HRW6
  go_wp2_with (first | ((with_reducible refine wpList_store_new (o := ⟨none, .store _ _ _, _, _, _, _⟩) ?_ 24 (.tmp 10) (.tmp 32) ?_ ?_ _ #[.int .i64 h, .int .i64 q, .int .i64 e, .int .i64 rc, .int .i64 rl, .int .i64 b, .int .i64 v0, .int .i64 v1, .int .i64 v2, .int .i64 v3, .int .i64 v4, .int .i64 v5] ?_ ?_ ?_ ?_ ?_); rfl; rfl; rfl; rfl; kernel_rfl; rfl; kernel_rfl) | ((with_reducible refine wpList_stop (o := ⟨some 38, _, _, _, _, _⟩) ?_)))
  unfold Stop
  obtain ⟨W8, hW8⟩ : ∃ z, w7.alloc (.cells #[.int .i64 h, .int .i64 q, .int .i64 e, .int .i64 rc, .int .i64 rl, .int .i64 b, .int .i64 v0, .int .i64 v1, .int .i64 v2, .int .i64 v3, .int .i64 v4, .int .i64 v5] 24) = z := ⟨_, rfl⟩
  have b8 : Below w7.heap.size w7 W8 := by rw [← hW8]; exact (Below.refl _ _).alloc (Nat.le_refl _) _
  have r10 : RowAt W8 w7.heap.size 24 #[.int .i64 h, .int .i64 q, .int .i64 e, .int .i64 rc, .int .i64 rl, .int .i64 b, .int .i64 v0, .int .i64 v1, .int .i64 v2, .int .i64 v3, .int .i64 v4, .int .i64 v5] := by rw [← hW8]; exact RowAt.new w7 _ _
  rw [hW8]
  clear hW8
  have HIN8 := Lib.hid (HIN7.out.below b8)
  have HIW8 := Lib.hid (HIW7.out.below b8)
  have HX8 := Lib.hid (HX7.out.trans (b8.mono HX7.out.size))
  have HR10 := Lib.hid r10
  have HRM8 := Lib.hid (HBS.out.below b8)
  have HN7 := Lib.hid (show w6.heap.size ≤ w7.heap.size from HX7.out.size)
  clear r10 b8 HK7 HIN7 HIW7 HX7
  go_wp2_with fail
  refine (sameBalances_eq _ _ (bs.take 12) W8 (by have := HLEN.out.2; omega) HIW8.out HIN8.out).mono ?_
  rintro e0 w9 ⟨rfl, hx⟩
  have HX9 := Lib.hid (HX8.out.trans (hx.mono HX8.out.size))
  have HR109 := Lib.hid (HR10.out.below hx HR10.out.lt)
  have HRM9 := Lib.hid (HRM8.out.below hx)
  have HRW9 := Lib.hid (row_cells (show w9.heap[w.heap.size]? = some (.cells #[.int .i64 h, .int .i64 q, .int .i64 e, .int .i64 rc, .int .i64 rl, .int .i64 b, .int .i64 x6, .int .i64 x7, .int .i64 x8, .int .i64 x9, .int .i64 x10, .int .i64 x11] 24 (0, 0)) from HK6.out.1.below HX9.out HK6.out.1.lt))
  clear hx HIN8 HIW8 HX8 HR10 HRM8
  go_wp2_with (first | ((with_reducible refine wpList_load_at (o := ⟨some 40, _, _, _, _, _⟩) ?_ 24 (.tmp 4) ?_ w.heap.size 0 ?_ _ _ HRW9.out Try.underlying24 ?_ ?_ ?_); rfl; rfl; rfl; rfl; kernel_rfl))
  refine (HO15.out w9).mono ?_
  rintro e0 w10 ⟨rfl, hx⟩
  have HX10 := Lib.hid (HX9.out.trans (hx.mono HX9.out.size))
  have r10 := HR109.out.below hx HR109.out.lt
  have HRM10 := Lib.hid (HRM9.out.below hx)
  clear hx HR109 HRM9 HRW9 HX9
  obtain ⟨n10, hn10⟩ : ∃ z, w7.heap.size = z := ⟨_, rfl⟩
  have HN10 := Lib.hid hn10
  rw [hn10] at r10 ⊢
  clear hn10
  have r4 : RowAt w10 w.heap.size 24 #[.int .i64 h, .int .i64 q, .int .i64 e, .int .i64 rc, .int .i64 rl, .int .i64 b, .int .i64 x6, .int .i64 x7, .int .i64 x8, .int .i64 x9, .int .i64 x10, .int .i64 x11] := HK6.out.1.below HX10.out HK6.out.1.lt
  have HR10 := Lib.hid r10
  cases oo
  · have h0 := HV0.out rfl
    simp only [ResV.mk.injEq] at h0
    obtain ⟨rfl, rfl, rfl, rfl, rfl, rfl, rfl, rfl, rfl⟩ := h0
    have d0 : w10.cell? ⟨w.heap.size, 0, none⟩ = some (.int .i64 h) := r4.cell 0
    have d1 : w10.cell? ⟨w.heap.size, 1, none⟩ = some (.int .i64 q) := r4.cell 1
    have d2 : w10.cell? ⟨w.heap.size, 2, none⟩ = some (.int .i64 e) := r4.cell 2
    have d3 : w10.cell? ⟨w.heap.size, 3, none⟩ = some (.int .i64 rc) := r4.cell 3
    have d4 : w10.cell? ⟨w.heap.size, 4, none⟩ = some (.int .i64 rl) := r4.cell 4
    have d5 : w10.cell? ⟨w.heap.size, 5, none⟩ = some (.int .i64 b) := r4.cell 5
    clear r4 r10
    go_wp2_with (first | ((with_reducible refine wpList_store_new (o := ⟨none, .store _ _ _, _, _, _, _⟩) ?_ 24 (.tmp 14) (.tmp 55) ?_ ?_ _ #[.int .i64 h, .int .i64 q, .int .i64 e, .int .i64 rc, .int .i64 rl, .int .i64 b, .int .i64 0, .int .i64 0, .int .i64 0, .int .i64 0, .int .i64 0, .int .i64 0] ?_ ?_ ?_ ?_ ?_); rfl; rfl; rfl; rfl; kernel_rfl; rfl; kernel_rfl) | ((with_reducible refine wpList_stop (o := ⟨some 58, _, _, _, _, _⟩) ?_)))
    unfold Stop
    obtain ⟨W11, hW11⟩ : ∃ z, w10.alloc (.cells #[.int .i64 h, .int .i64 q, .int .i64 e, .int .i64 rc, .int .i64 rl, .int .i64 b, .int .i64 0, .int .i64 0, .int .i64 0, .int .i64 0, .int .i64 0, .int .i64 0] 24) = z := ⟨_, rfl⟩
    have b11 : Below w10.heap.size w10 W11 := by rw [← hW11]; exact (Below.refl _ _).alloc (Nat.le_refl _) _
    have r14 : RowAt W11 w10.heap.size 24 #[.int .i64 h, .int .i64 q, .int .i64 e, .int .i64 rc, .int .i64 rl, .int .i64 b, .int .i64 0, .int .i64 0, .int .i64 0, .int .i64 0, .int .i64 0, .int .i64 0] := by rw [← hW11]; exact RowAt.new w10 _ _
    rw [hW11]
    clear hW11 d0 d1 d2 d3 d4 d5
    have HX11 := Lib.hid (HX10.out.trans (b11.mono HX10.out.size))
    have HL10 := Lib.hid (row_cells (show W11.heap[n10]? = some (.cells #[.int .i64 h, .int .i64 q, .int .i64 e, .int .i64 rc, .int .i64 rl, .int .i64 b, .int .i64 0, .int .i64 0, .int .i64 0, .int .i64 0, .int .i64 0, .int .i64 0] 24 (0, 0)) from HR10.out.below b11 HR10.out.lt))
    have HRM11 := Lib.hid (HRM10.out.below b11)
    obtain ⟨n14, hn14⟩ : ∃ z, w10.heap.size = z := ⟨_, rfl⟩
    rw [hn14] at r14 ⊢
    have HL14 := Lib.hid (row_cells (show W11.heap[n14]? = some (.cells #[.int .i64 h, .int .i64 q, .int .i64 e, .int .i64 rc, .int .i64 rl, .int .i64 b, .int .i64 0, .int .i64 0, .int .i64 0, .int .i64 0, .int .i64 0, .int .i64 0] 24 (0, 0)) from r14))
    clear r14 hn14 b11 HX10 HRM10 HR10
    obtain rfl : np = 0 := HPS.out.count
    obtain rfl : nr = 0 := HRS.out.count
    have eqp := row_eq h q e rc rl b 0 0 0 0 0 0
    go_wp2_with (first | ((with_reducible refine wpList_load_want (o := ⟨some 58, _, _, _, _, _⟩) ?_ 24 (.tmp 10) ?_ n10 0 ?_ _ _ HL10.out Try.underlying24 ?_ ?_ ?_); rfl; rfl; rfl; rfl; kernel_rfl) | ((with_reducible refine wpList_load_want (o := ⟨some 59, _, _, _, _, _⟩) ?_ 24 (.tmp 14) ?_ n14 0 ?_ _ _ HL14.out Try.underlying24 ?_ ?_ ?_); rfl; rfl; rfl; rfl; kernel_rfl))
    refine (sameBalances_eq _ _ (bs.take 12) W11 (by have := HLEN.out.2; omega) HRM11.out.rows (HIW6.out.below HX11.out)).mono ?_
    rintro e0 w12 ⟨rfl, hx⟩
    have HXE := Lib.hid (HX11.out.trans (hx.mono HX11.out.size))
    clear hx eqp
    go_wp2_with fail
    go_ret
    exact ⟨rfl, HK6.out.2.1.trans (HXE.out.mono HK6.out.2.1.size)⟩
  · clear r4 r10
    have HB1 := HV1.out rfl
    rw [HB1] at HB15
    clear HB1
    have hno : no = vbs.length := by have := HRM10.out.count; rw [List.length_map] at this; exact this
    have hno12 : no ≤ 12 := by have := HSL.out; rw [List.length_take] at this; omega
    have hrm := HRM10.out.room
    rw [List.length_map, ← hno] at hrm
    have HRMC := Lib.hid hrm
    obtain ⟨nB, hnB⟩ : ∃ z, w6.heap.size = z := ⟨_, rfl⟩
    have HNB := Lib.hid hnB
    rw [hnB] at HRMC HX10
    clear hno hrm hnB
    go_wp2_with fail
    go_loopw [15] (fun iv wr => ∃ k : Nat, k ≤ no ∧ iv = .int .i64 k ∧ Hid (Room 46 2 wr nB (.slice Ao no co) no ∧ RowAt wr n10 24 #[.int .i64 h, .int .i64 q, .int .i64 e, .int .i64 rc, .int .i64 rl, .int .i64 b, .int .i64 v0, .int .i64 v1, .int .i64 v2, .int .i64 v3, .int .i64 v4, .int .i64 v5] ∧ Below nB w6 wr)) (fun i _ => no - (intOf i).toNat)
    case atStart => exact ⟨0, by omega, rfl, Lib.hid ⟨HRMC.out, HR10.out, HX10.out⟩⟩
    case round =>
      obtain ⟨k, hk, rfl, HI⟩ := hrel
      by_cases hk2 : k < no
      · obtain ⟨g, cur, c', he, hg1, hg2, hg3⟩ := HI.out.1.resolve_left (by omega)
        simp only [Value.slice.injEq, true_and] at he
        obtain ⟨rfl, rfl⟩ := he
        have HG := Lib.hid hg2
        have HSZ := Lib.hid (show k * 2 + (#[.int .i64 (-1), .int .i64 0] : Array Value).size ≤ cur.size from by simp; omega)
        have HG1 := Lib.hid hg1
        have HG3 := Lib.hid hg3
        clear hg1 hg2 hg3
        go_wp2_with (first | ((with_reducible refine wpList_store_part (o := ⟨none, .store _ _ _, _, _, _, _⟩) ?_ 46 (.tmp 86) (.tmp 85) ?_ g (k * 2) #[.int .i64 (-1), .int .i64 0] ?_ ?_ 46 _ _ HG.out ?_ HSZ.out ?_ rfl ?_); rfl; rfl; rfl; rfl; kernel_rfl; exact neg_one))
        go_roundw
        case rel =>
          refine ⟨k + 1, by omega, by go_num, Lib.hid ⟨.inr ⟨g, _, co, rfl, HG1.out, setRow_same HG.out, ?_⟩, (setRow_other ?_).trans HI.out.2.1, below_setRow HI.out.2.2 HG1.out⟩⟩
          · have := HSZ.out
            have := HG3.out
            simp at this ⊢
            omega
          · rintro rfl
            have h1 := HI.out.2.1
            unfold RowAt at h1
            rw [HG.out] at h1
            simp at h1
        case measure => simp [intOf]; omega
      · rw [← HNB.out] at HI
        have HLR := Lib.hid (row_cells (show wr.heap[n10]? = some (.cells #[.int .i64 h, .int .i64 q, .int .i64 e, .int .i64 rc, .int .i64 rl, .int .i64 b, .int .i64 v0, .int .i64 v1, .int .i64 v2, .int .i64 v3, .int .i64 v4, .int .i64 v5] 24 (0, 0)) from HI.out.2.1))
        have HXR := Lib.hid HI.out.2.2
        have HN := Lib.hid (show n10 < wr.heap.size from HI.out.2.1.lt)
        clear HI
        go_wp2_with fail
        refine (sameBalances_eq _ _ (bs.take 12) wr (by have := HLEN.out.2; omega) (HIW6.out.below HXR.out) (HIN6.out.below HXR.out)).mono ?_
        rintro e0 w12 ⟨rfl, hx⟩
        have HLR2 := Lib.hid (fun j v hv => (hx.cell (p := ⟨n10, 0 + j, none⟩) HN.out).trans (HLR.out j v hv))
        have HXE := Lib.hid (HXR.out.trans (hx.mono HXR.out.size))
        clear hx HLR
        go_wp2_with (first | ((with_reducible refine wpList_load_want (o := ⟨some 94, _, _, _, _, _⟩) ?_ 24 (.tmp 10) ?_ n10 0 ?_ _ _ HLR2.out Try.underlying24 ?_ ?_ ?_); rfl; rfl; rfl; rfl; kernel_rfl))
        refine (HB15.out w12).mono ?_
        rintro e0 w13 ⟨rfl, hx⟩
        have HXF := Lib.hid (HXE.out.trans (hx.mono HXE.out.size))
        clear hx
        go_wp2_with fail
        go_ret
        exact ⟨rfl, HK6.out.2.1.trans (HXF.out.mono HK6.out.2.1.size)⟩
end Go.Proofs.Ytejkgnlflhngbaa
