/- TermsWhole returns true. -/
import Derived.Test.YtejkgnlflhngbaaTmWg
import Derived.Deep.DeepCutAuto
namespace Go.Proofs.Ytejkgnlflhngbaa
open Go Go.RowKit Go.Lib Go.Shelf Go.Maps

set_option maxRecDepth 100000 in
set_option maxHeartbeats 8000000 in
theorem whole_yes (A : Option Addr) (n c : Nat) (l0 : List TermV) (y0 y1 y2 y3 kind : Int) (A4 : Option Addr) (n4 c4 : Nat) (bs : List (Int × Int)) (w : World)
    (ht0 : TermsIn w (.slice A n c) l0) (hn0 : l0.length = n) (hl0 : n ≤ 140737488351232) (hnc0 : n ≤ c) (hok0 : ∀ t ∈ l0, (∀ x ∈ [t.k, t.n, t.m, t.ab], -9223372036854775808 ≤ x ∧ x ≤ 9223372036854775807) ∧ (∀ x ∈ t.acc, -9223372036854775808 ≤ x ∧ x ≤ 9223372036854775807)) (hal0 : ∀ t ∈ l0, t.acc.length ≤ 9223372036854775807)
    (hb : IRows 2 w (.slice A4 n4 c4) (bs.map p2)) (hn4 : bs.length = n4) (hl4 : n4 ≤ 140737488351232) (hc4 : n4 ≤ c4) (hbb : ∀ b ∈ bs, (-9223372036854775808 ≤ b.1 ∧ b.1 ≤ 9223372036854775807) ∧ -9223372036854775808 ≤ b.2 ∧ b.2 ≤ 9223372036854775807)
    (b0 : I64 y0) (b1 : I64 y1) (b2 : I64 y2) (b3 : I64 y3) (b5 : I64 kind) :
    Calls Try.prog 8 #[.slice A n c, .agg #[.int .i64 y0, .int .i64 y1, .int .i64 y2, .int .i64 y3], .slice A4 n4 c4, .int .i64 kind] w fun e w' => e = .returned (.bool true) ∧ Below w.heap.size w w' := by
  obtain ⟨m, hm⟩ : ∃ m, min n 11 = m := ⟨_, rfl⟩
  have hmn : m ≤ n := by omega
  have hmc : m ≤ c := by omega
  have hmin : (if 11 < (n : Int) then 11 else (n : Int)) = (m : Int) := by split <;> omega
  have ht := ht0.take m hmn
  obtain ⟨l, hlq⟩ : ∃ l, l0.take m = l := ⟨_, rfl⟩
  rw [hlq] at ht
  have hn : l.length = m := by rw [← hlq, List.length_take]; omega
  have hok : ∀ t ∈ l, (∀ x ∈ [t.k, t.n, t.m, t.ab], -9223372036854775808 ≤ x ∧ x ≤ 9223372036854775807) ∧ (∀ x ∈ t.acc, -9223372036854775808 ≤ x ∧ x ≤ 9223372036854775807) := fun t h => hok0 t (List.mem_of_mem_take (by rw [hlq]; exact h))
  have hal : ∀ t ∈ l, t.acc.length ≤ 9223372036854775807 := fun t h => hal0 t (List.mem_of_mem_take (by rw [hlq]; exact h))
  have hl : m ≤ 140737488351232 := by omega
  have HT := Lib.hid ht
  have HFEW := Lib.hid (fun W (h2 : TermsIn W (.slice A m c) l) => few_any A m c l W h2 hn hl hal)
  have HSOME := Lib.hid (fun W (h : Below w.heap.size w W) => some_any A4 n4 c4 bs W (hb.below h) hn4 hl4 hc4)
  have HTOK := Lib.hid (few_ok hok)
  have hbb2 : ∀ b ∈ bs.take 12, (-9223372036854775808 ≤ b.1 ∧ b.1 ≤ 9223372036854775807) ∧ -9223372036854775808 ≤ b.2 ∧ b.2 ≤ 9223372036854775807 := fun b h => hbb b (List.mem_of_mem_take h)
  have HBOK := Lib.hid hbb2
  have HLEN : Hid ((fewT l).length ≤ 1000 ∧ (bs.take 12).length ≤ 12) := Lib.hid ⟨few_len l, by rw [List.length_take]; omega⟩
  have OPN := Lib.hid (fun W => open_any y0 y1 y2 y3 5 3 W b0 b1 b2 b3 ⟨by omega, by omega⟩)
  have hopen := openRow_open y0 y1 y2 y3 5 3
  have hz := pickN_bd 3 1200 (by omega)
  unfold openRow rowC at OPN
  unfold openRow at hopen
  dsimp only at OPN
  obtain ⟨z0, ez0⟩ : ∃ z, pickN 3 1200 = z := ⟨_, rfl⟩
  obtain ⟨z1, ez1⟩ : ∃ z, pickN y0 1000000000000001 = z := ⟨_, rfl⟩
  obtain ⟨z2, ez2⟩ : ∃ z, pickN y1 100000001 = z := ⟨_, rfl⟩
  obtain ⟨z3, ez3⟩ : ∃ z, pickN y2 100000001 = z := ⟨_, rfl⟩
  obtain ⟨z4, ez4⟩ : ∃ z, pickN y3 100001 = z := ⟨_, rfl⟩
  rw [ez0, ez1, ez2, ez3, ez4] at OPN hopen
  rw [ez0] at hz
  have HPQ : Hid (0 ≤ z0 ∧ z0 < 1200) := Lib.hid hz
  have hs0 := openR_iff.1 hopen
  obtain ⟨sm, hsm⟩ : ∃ z, (⟨5, z0, z1, z2, z3, z4⟩ : RowV).sum = z := ⟨_, rfl⟩
  have hsm2 : z1 + z2 + z3 + z4 = sm := by rw [← hsm]; rfl
  rw [hsm] at hs0
  dsimp only at hs0
  obtain ⟨hz1, hz2, hz3, hz4, hs4⟩ := hs0
  obtain ⟨kk, hkk⟩ : ∃ k : Nat, pickN kind 3 = (k : Int) := ⟨(pickN kind 3).toNat, by have := pickN_bd kind 3 (by omega); omega⟩
  have hk3 : kk < 3 := by have := pickN_bd kind 3 (by omega); omega
  have PK := Lib.hid (fun W => pick_any kind 3 W b5.1 b5.2 (by omega) (by omega))
  rw [hkk] at PK
  have hwl := whole_law (R := ⟨5, z0, z1, z2, z3, z4⟩) kk (fewT l) (bs.take 12) hopen
  have hV0 : settleSpec [] ⟨5, z0, z1, z2, z3, z4⟩ (bs.take 12) = ⟨0, 0, 0, 0, paidOf (startS ⟨5, z0, z1, z2, z3, z4⟩ (bs.take 12)), carriedOf (startS ⟨5, z0, z1, z2, z3, z4⟩ (bs.take 12)), [], [], bs.take 12⟩ := by unfold settleSpec; rw [if_pos hopen]; rfl
  have hpd : paidOf (startS ⟨5, z0, z1, z2, z3, z4⟩ (bs.take 12)) + carriedOf (startS ⟨5, z0, z1, z2, z3, z4⟩ (bs.take 12)) = sm ∧ 0 ≤ carriedOf (startS ⟨5, z0, z1, z2, z3, z4⟩ (bs.take 12)) ∧ carriedOf (startS ⟨5, z0, z1, z2, z3, z4⟩ (bs.take 12)) < 10000 ∧ 0 ≤ paidOf (startS ⟨5, z0, z1, z2, z3, z4⟩ (bs.take 12)) := by
    have e : (startS ⟨5, z0, z1, z2, z3, z4⟩ (bs.take 12)).left = sm := hsm
    have e2 : (startS ⟨5, z0, z1, z2, z3, z4⟩ (bs.take 12)).ca = 0 := rfl
    unfold paidOf carriedOf
    rw [e, e2]
    omega
  obtain ⟨pd, hpd1⟩ : ∃ z, paidOf (startS ⟨5, z0, z1, z2, z3, z4⟩ (bs.take 12)) = z := ⟨_, rfl⟩
  obtain ⟨cd, hcd1⟩ : ∃ z, carriedOf (startS ⟨5, z0, z1, z2, z3, z4⟩ (bs.take 12)) = z := ⟨_, rfl⟩
  rw [hpd1, hcd1] at hpd hV0
  have hV1 : settleSpec (wholeT kk :: fewT l) ⟨5, z0, z1, z2, z3, z4⟩ (bs.take 12) = ⟨(runS (wholeT kk :: fewT l) ⟨5, z0, z1, z2, z3, z4⟩ (bs.take 12)).pa, (runS (wholeT kk :: fewT l) ⟨5, z0, z1, z2, z3, z4⟩ (bs.take 12)).ta, (runS (wholeT kk :: fewT l) ⟨5, z0, z1, z2, z3, z4⟩ (bs.take 12)).re, (runS (wholeT kk :: fewT l) ⟨5, z0, z1, z2, z3, z4⟩ (bs.take 12)).ro, paidOf (runS (wholeT kk :: fewT l) ⟨5, z0, z1, z2, z3, z4⟩ (bs.take 12)), carriedOf (runS (wholeT kk :: fewT l) ⟨5, z0, z1, z2, z3, z4⟩ (bs.take 12)), (runS (wholeT kk :: fewT l) ⟨5, z0, z1, z2, z3, z4⟩ (bs.take 12)).ps, (runS (wholeT kk :: fewT l) ⟨5, z0, z1, z2, z3, z4⟩ (bs.take 12)).rs, (runS (wholeT kk :: fewT l) ⟨5, z0, z1, z2, z3, z4⟩ (bs.take 12)).bs⟩ := by unfold settleSpec; rw [if_pos hopen]
  obtain ⟨S, hS⟩ : ∃ z, runS (wholeT kk :: fewT l) ⟨5, z0, z1, z2, z3, z4⟩ (bs.take 12) = z := ⟨_, rfl⟩
  rw [hS] at hV1 hwl
  rw [hsm] at hwl
  dsimp only at hwl
  obtain ⟨w0, w1, w2, w3, w4, w5, w6, w7⟩ := hwl
  rw [show paidOf S = 0 by unfold paidOf; rw [w0]; rfl, show carriedOf S = 0 by unfold carriedOf; rw [w0, w6]; rfl, w5, w7] at hV1
  have htv := whole_valid kk
  have hto := whole_ok kk
  have htq : HoldT kk (wholeT kk) := rfl
  obtain ⟨fs, hfs⟩ : ∃ z, wholeT kk = z := ⟨_, rfl⟩
  rw [hfs] at hV1 htv hto htq
  have hshape : ∃ xk xn xm, fs = ⟨xk, xn, xm, 0, []⟩ := by rw [← hfs]; exact whole_shape kk
  obtain ⟨xk, xn, xm, rfl⟩ := hshape
  obtain ⟨v0, ev0⟩ : ∃ z, S.pa = z := ⟨_, rfl⟩
  obtain ⟨v1, ev1⟩ : ∃ z, S.ta = z := ⟨_, rfl⟩
  obtain ⟨v2, ev2⟩ : ∃ z, S.re = z := ⟨_, rfl⟩
  rw [ev0, ev1, ev2] at hV1
  rw [ev1, ev0, ev2] at w1
  rw [ev1] at w2
  rw [ev0] at w3
  rw [ev2] at w4
  have hTOKF : ∀ t ∈ (⟨xk, xn, xm, 0, []⟩ :: fewT l : List TermV), TermOk t := fun t h => by
    rcases List.mem_cons.1 h with h | h
    · rw [h]; exact hto
    · exact HTOK.out t h
  have HTOKF := Lib.hid hTOKF
  have HVAL := Lib.hid (fun W => validC_any ⟨xk, xn, xm, 0, []⟩ (.slice none 0 0) W (by simp) (.inl ⟨rfl, none, 0, rfl⟩) (by simp))
  rw [htv] at HVAL
  have HTQ := Lib.hid htq
  have HV0 := Lib.hid hV0
  have HV1 := Lib.hid hV1
  have HPD := Lib.hid hpd
  have HWL := Lib.hid (And.intro w1 (And.intro w2 (And.intro w3 w4)))
  have HSM := Lib.hid hsm2
  have hl12 : (fewT l).length ≤ 12 := by unfold fewT; rw [List.length_map, List.length_take]; omega
  have HL12 := Lib.hid hl12
  clear hl12
  clear ht0 hn0 hl0 hnc0 hok0 hal0 ht hn hl hok hal hb hn4 hl4 hc4 hbb hbb2 b0 b1 b2 b3 b5 hz hopen ez0 ez1 ez2 ez3 ez4 hm hlq hsm hsm2 hkk hV0 hpd hpd1 hcd1 hV1 hS w0 w1 w2 w3 w4 w5 w6 w7 htv hto htq hfs ev0 ev1 ev2 hTOKF
  go_enter Try.func8, Try.ntmps8
  go_wp2_with fail
  refine (sane_yes _).mono ?_
  rintro e w1 ⟨rfl, hx1⟩
  have r1 : RowAt w1 w.heap.size 25 #[.int .i64 y0, .int .i64 y1, .int .i64 y2, .int .i64 y3] := (RowAt.new w _ _).below hx1 (by simp)
  have bw1 : Below w.heap.size w w1 := ((Below.refl _ _).alloc (Nat.le_refl _) _).trans (hx1.mono (by simp))
  have HR1 := Lib.hid (And.intro r1 bw1)
  clear r1 bw1 hx1
  go_wp2_with fail
  refine (HFEW.out w1 (HT.out.below HR1.out.2)).mono ?_
  rintro e w2 ⟨vl, L, rfl, hL, howl, hx⟩
  obtain ⟨Al, nl, cl, rfl⟩ := howl.slice3
  have HLQ := Lib.hid hL
  have HOWL2 := Lib.hid howl
  have HB12 := Lib.hid (show w1.heap.size ≤ w2.heap.size from hx.size)
  have HBL := Lib.hid (show w.heap.size < w1.heap.size from HR1.out.1.lt)
  have HR2 := Lib.hid (And.intro (HR1.out.1.below hx HR1.out.1.lt) (HR1.out.2.trans (hx.mono HR1.out.2.size)))
  clear hL howl hx HR1
  go_wp2_with fail
  refine (HSOME.out w2 HR2.out.2).mono ?_
  rintro e w3 ⟨vb, rfl, hob, hx⟩
  obtain ⟨Ab, nb, cb, rfl⟩ := hob.slice3
  have hnb : nb = (bs.take 12).length := by have := hob.count; rw [List.length_map] at this; exact this
  obtain ⟨bq, hbq⟩ : ∃ z, bs.take 12 = z := ⟨_, rfl⟩
  rw [hbq] at hob hnb HBOK HLEN HV0 HV1
  have HIB3 := Lib.hid hob.rows
  have HOWL3 := Lib.hid (HOWL2.out.kept (w' := w3) fun g _ h => hx.block g h)
  obtain ⟨B1, hB1⟩ : ∃ z, w1.heap.size = z := ⟨_, rfl⟩
  have HB1 : Hid (B1 ≤ w3.heap.size) := Lib.hid (by rw [← hB1]; have h1 := HB12.out; have h2 := hx.size; omega)
  rw [hB1] at HOWL3
  clear hB1
  have r3 := HR2.out.1.below hx HR2.out.1.lt
  have HBW3 := Lib.hid (HR2.out.2.trans (hx.mono HR2.out.2.size))
  have HNB := Lib.hid hnb
  have g0 : w3.cell? ⟨w.heap.size, 0, none⟩ = some (.int .i64 y0) := r3.cell 0
  have g1 : w3.cell? ⟨w.heap.size, 1, none⟩ = some (.int .i64 y1) := r3.cell 1
  have g2 : w3.cell? ⟨w.heap.size, 2, none⟩ = some (.int .i64 y2) := r3.cell 2
  have g3 : w3.cell? ⟨w.heap.size, 3, none⟩ = some (.int .i64 y3) := r3.cell 3
  clear hob hx HR2 HOWL2 HBL r3 hnb hbq
  go_wp2_with fail
  refine (OPN.out w3).mono ?_
  rintro e w4 ⟨rfl, hx⟩
  have HX4 := Lib.hid hx
  clear hx g0 g1 g2 g3
  clear hmin hmn hmc
  obtain ⟨q, hq⟩ : ∃ z, fewT l = z := ⟨_, rfl⟩
  rw [hq] at HLQ HTOK HTOKF HLEN HL12 HV1
  clear hq
  have HSM0 := HSM
  have hsm3 := HSM.out
  go_wp2_with (first | ((with_reducible refine wpList_store_new (o := ⟨none, .store _ _ _, _, _, _, _⟩) ?_ 24 (.tmp 10) (.tmp 31) ?_ ?_ _ #[.int .i64 5, .int .i64 z0, .int .i64 z1, .int .i64 z2, .int .i64 z3, .int .i64 z4, .int .i64 0, .int .i64 0, .int .i64 0, .int .i64 0, .int .i64 0, .int .i64 0] ?_ ?_ ?_ ?_ ?_); rfl; rfl; rfl; rfl; kernel_rfl; rfl; kernel_rfl) | ((with_reducible refine wpList_stop (o := ⟨some 44, _, _, _, _, _⟩) ?_)))
  unfold Stop
  clear hsm3
  obtain ⟨W5, hW5⟩ : ∃ z, w4.alloc (.cells #[.int .i64 5, .int .i64 z0, .int .i64 z1, .int .i64 z2, .int .i64 z3, .int .i64 z4, .int .i64 0, .int .i64 0, .int .i64 0, .int .i64 0, .int .i64 0, .int .i64 0] 24) = z := ⟨_, rfl⟩
  have b5 : Below w3.heap.size w3 W5 := by rw [← hW5]; exact HX4.out.alloc HX4.out.size _
  have r5 : RowAt W5 w4.heap.size 24 #[.int .i64 5, .int .i64 z0, .int .i64 z1, .int .i64 z2, .int .i64 z3, .int .i64 z4, .int .i64 0, .int .i64 0, .int .i64 0, .int .i64 0, .int .i64 0, .int .i64 0] := by rw [← hW5]; exact RowAt.new w4 _ _
  rw [hW5]
  clear hW5
  obtain ⟨n10, hn10⟩ : ∃ z, w4.heap.size = z := ⟨_, rfl⟩
  rw [hn10] at r5 ⊢
  clear hn10
  have HB5 := Lib.hid b5
  have HR5 := Lib.hid r5
  have HL5 := Lib.hid (row_cells (show W5.heap[n10]? = _ from r5))
  clear b5 r5 HX4
  go_wp2_with (first | ((with_reducible refine wpList_load_at (o := ⟨some 44, _, _, _, _, _⟩) ?_ 24 (.tmp 10) ?_ n10 0 ?_ _ _ HL5.out Try.underlying24 ?_ ?_ ?_); rfl; rfl; rfl; rfl; kernel_rfl))
  refine (settle_any [] ⟨5, z0, z1, z2, z3, z4⟩ bq (.slice none 0 0) (.slice Ab nb cb) 0 0 0 0 0 0 W5 (.inl ⟨rfl, none, 0, rfl⟩) (by simp) (by simp) (HIB3.out.below HB5.out) (by have := HLEN.out.2; omega) HBOK.out (by have := HPQ.out; dsimp only; omega)).mono ?_
  rintro e w6 ⟨vp, vr, vo, rfl, hps, hrs, hbs, hx⟩
  rw [HV0.out] at hps hrs hbs ⊢
  unfold ResV.row rowC
  dsimp only at hps hrs hbs ⊢
  obtain ⟨Ap, np, cp, rfl⟩ := hps.slice3
  obtain ⟨Ar, nr, cr, rfl⟩ := hrs.slice3
  obtain ⟨Ao, no, co, rfl⟩ := hbs.slice3
  obtain rfl : np = 0 := hps.count
  obtain rfl : nr = 0 := hrs.count
  have HB6 := Lib.hid (HB5.out.trans (hx.mono HB5.out.size))
  have HR6 := Lib.hid (HR5.out.below hx HR5.out.lt)
  have HBS := Lib.hid hbs.rows
  clear hps hrs hbs hx HL5 HR5
  go_wp2_with (first | ((with_reducible refine wpList_store_new (o := ⟨none, .store _ _ _, _, _, _, _⟩) ?_ 24 (.tmp 12) (.tmp 47) ?_ ?_ _ #[.int .i64 5, .int .i64 z0, .int .i64 z1, .int .i64 z2, .int .i64 z3, .int .i64 z4, .int .i64 0, .int .i64 0, .int .i64 0, .int .i64 0, .int .i64 pd, .int .i64 cd] ?_ ?_ ?_ ?_ ?_); rfl; rfl; rfl; rfl; kernel_rfl; rfl; kernel_rfl) | ((with_reducible refine wpList_stop (o := ⟨some 52, _, _, _, _, _⟩) ?_)))
  unfold Stop
  obtain ⟨W7, hW7⟩ : ∃ z, w6.alloc (.cells #[.int .i64 5, .int .i64 z0, .int .i64 z1, .int .i64 z2, .int .i64 z3, .int .i64 z4, .int .i64 0, .int .i64 0, .int .i64 0, .int .i64 0, .int .i64 pd, .int .i64 cd] 24) = z := ⟨_, rfl⟩
  have b67 : Below w6.heap.size w6 W7 := by rw [← hW7]; exact (Below.refl _ _).alloc (Nat.le_refl _) _
  have r12 : RowAt W7 w6.heap.size 24 #[.int .i64 5, .int .i64 z0, .int .i64 z1, .int .i64 z2, .int .i64 z3, .int .i64 z4, .int .i64 0, .int .i64 0, .int .i64 0, .int .i64 0, .int .i64 pd, .int .i64 cd] := by rw [← hW7]; exact RowAt.new w6 _ _
  rw [hW7]
  clear hW7
  obtain ⟨n12, hn12⟩ : ∃ z, w6.heap.size = z := ⟨_, rfl⟩
  rw [hn12] at r12 ⊢
  clear hn12
  have hB7 := HB6.out.trans (b67.mono HB6.out.size)
  have HK7 := Lib.hid (And.intro (HR6.out.below b67 HR6.out.lt) hB7)
  have HIO := Lib.hid (HBS.out.below b67)
  have c10 : W7.cell? ⟨n12, 10, none⟩ = some (.int .i64 pd) := r12.cell 10
  have c11 : W7.cell? ⟨n12, 11, none⟩ = some (.int .i64 cd) := r12.cell 11
  have hpc := HPD.out.1
  have hcd0 := HPD.out.2.1
  have hcd1 := HPD.out.2.2.1
  have hcd2 : decide (10000 ≤ cd) = false := by simp; omega
  have hpd0 := HPD.out.2.2.2
  clear r12 b67 hB7 HB6 HR6 HBS
  go_wp2_with fail
  refine (sameBalances_eq _ _ bq W7 (by have := HLEN.out.2; omega) HIO.out (HIB3.out.below HK7.out.2)).mono ?_
  rintro e w8 ⟨rfl, hx⟩
  have HK8 := Lib.hid (And.intro (HK7.out.1.below hx HK7.out.1.lt) (HK7.out.2.trans (hx.mono HK7.out.2.size)))
  clear hx c10 c11 hpc hcd0 hcd1 hcd2 hpd0 HK7 HIO
  go_wp2_with fail
  obtain ⟨W13, hW13⟩ : ∃ z, w8.alloc (.cells #[.int .i64 2, .int .i64 1000000, .int .i64 0, .int .i64 0, .slice none 0 0, .int .i64 1, .int .i64 1000000, .int .i64 9, .int .i64 0, .slice none 0 0, .int .i64 3, .int .i64 1000000, .int .i64 1, .int .i64 0, .slice none 0 0] 52) = z := ⟨_, rfl⟩
  have b813 : Below w8.heap.size w8 W13 := by rw [← hW13]; exact (Below.refl _ _).alloc (Nat.le_refl _) _
  have r82 : RowAt W13 w8.heap.size 52 LC := by rw [← hW13]; exact RowAt.new w8 _ _
  rw [hW13]
  clear hW13
  obtain ⟨n82, hn82⟩ : ∃ z, w8.heap.size = z := ⟨_, rfl⟩
  rw [hn82] at r82 ⊢
  clear hn82
  have HK13 := Lib.hid (And.intro (HK8.out.1.below b813 HK8.out.1.lt) (HK8.out.2.trans (b813.mono HK8.out.2.size)))
  have HTC := Lib.hid (whole_cells r82 HTQ.out hk3)
  clear b813 r82 HK8
  refine (PK.out _).mono ?_
  rintro e w' ⟨rfl, rfl⟩
  go_upto_region 10 with (first | ((with_reducible refine wpList_load_want (o := ⟨some 86, _, _, _, _, _⟩) ?_ 52 (.tmp 85) ?_ n82 (kk * 5) ?_ _ _ HTC.out Try.underlying52 ?_ ?_ ?_); rfl; rfl; rfl; rfl; kernel_rfl) | ((with_reducible refine wpList_store_new (o := ⟨none, .store _ _ _, _, _, _, _⟩) ?_ 52 (.tmp 16) (.tmp 86) ?_ ?_ _ #[.int .i64 xk, .int .i64 xn, .int .i64 xm, .int .i64 0, .slice none 0 0] ?_ ?_ ?_ ?_ ?_); rfl; rfl; rfl; rfl; kernel_rfl; rfl; kernel_rfl))
  simp only [Act.put]
  obtain ⟨W15, hW15⟩ : ∃ z, W13.alloc (.cells #[.int .i64 xk, .int .i64 xn, .int .i64 xm, .int .i64 0, .slice none 0 0] 52) = z := ⟨_, rfl⟩
  have b15 : Below W13.heap.size W13 W15 := by rw [← hW15]; exact (Below.refl _ _).alloc (Nat.le_refl _) _
  have r16 : RowAt W15 W13.heap.size 52 #[.int .i64 xk, .int .i64 xn, .int .i64 xm, .int .i64 0, .slice none 0 0] := by rw [← hW15]; exact RowAt.new W13 _ _
  rw [hW15]
  clear hW15
  obtain ⟨n16, hn16⟩ : ∃ z, W13.heap.size = z := ⟨_, rfl⟩
  rw [hn16] at r16 ⊢
  clear hn16
  have hb15 := HK13.out.2.trans (b15.mono HK13.out.2.size)
  have HK16 := Lib.hid (And.intro (HK13.out.1.below b15 HK13.out.1.lt) (And.intro r16 (And.intro hb15 (HOWL3.out.kept (w' := W15) fun g _ h => hb15.block g h))))
  clear b15 r16 hb15 HK13 HTC HOWL3
  have hLL : L.length ≤ 1000 := by have h1 := HLEN.out.1; rw [← HLQ.out, List.length_map] at h1; exact h1
  have HLQ2 := Lib.hid hLL
  clear hLL
  go_cut [17, 18, 19, 20] (fun s17 s18 s19 s20 wx => Hid (LeftW #[.int .i64 5, .int .i64 z0, .int .i64 z1, .int .i64 z2, .int .i64 z3, .int .i64 z4, .int .i64 v0, .int .i64 v1, .int .i64 v2, .int .i64 0, .int .i64 0, .int .i64 0] #[.int .i64 xk, .int .i64 xn, .int .i64 xm, .int .i64 0, .slice none 0 0] w3.heap.size n16 w3 bq s17 s20 wx))
  case first =>
    refine wp_region_held_drew (S := fun W' => RowAt W' n10 24 #[.int .i64 5, .int .i64 z0, .int .i64 z1, .int .i64 z2, .int .i64 z3, .int .i64 z4, .int .i64 0, .int .i64 0, .int .i64 0, .int .i64 0, .int .i64 0, .int .i64 0] ∧ RowAt W' n16 52 #[.int .i64 xk, .int .i64 xn, .int .i64 xm, .int .i64 0, .slice none 0 0] ∧ Below w3.heap.size w3 W') (by kernel_rfl) ⟨HK16.out.1.below (Below.refl _ _).drew HK16.out.1.lt, HK16.out.2.1.below (Below.refl _ _).drew HK16.out.2.1.lt, HK16.out.2.2.1.drew⟩ (fun hHeld => ?_)
    have HOWL := Lib.hid (HK16.out.2.2.2.kept (w' := W15.drew) fun g _ _ => rfl)
    obtain ⟨W16, hW16⟩ : ∃ z, W15.drew = z := ⟨_, rfl⟩
    rw [hW16] at hHeld HOWL ⊢
    clear hW16
    refine wpAnyH_take (i := 2) (oi := ⟨_, _, _, _, _, _⟩) (v := ?_) rfl (by kernel_rfl) (by kernel_rfl) (by kernel_rfl) (fun _ _ _ h => h) (Or.inl ⟨by rfl, ?_⟩) (by assumption) ?_
    rotate_left
    · intro w hSw
      go_simp
      all_goals with_reducible rfl
    simp only [Act.put, List.setIfInBounds_toArray, List.set_cons_zero, List.set_cons_succ]
    refine wpAnyH_take (i := 5) (oi := ⟨_, _, _, _, _, _⟩) (v := ?_) rfl (by kernel_rfl) (by kernel_rfl) (by kernel_rfl) (fun _ _ _ h => h) (Or.inl ⟨by rfl, ?_⟩) (by assumption) ?_
    rotate_left
    · intro w hSw
      go_simp
      all_goals with_reducible rfl
    simp only [Act.put, List.setIfInBounds_toArray, List.set_cons_zero, List.set_cons_succ]
    refine wpAnyH_take (i := 0) (oi := ⟨_, _, _, _, _, _⟩) rfl (by kernel_rfl) (by kernel_rfl) (by kernel_rfl) (fun _ _ _ h => h) (yieldsIf_load_at 52 (.tmp 16) n16 0 #[.int .i64 xk, .int .i64 xn, .int .i64 xm, .int .i64 0, .slice none 0 0] _ (fun W' h => row_cells (show W'.heap[n16]? = _ from h.2.1)) rfl (by rfl) rfl rfl rfl rfl) (by assumption) ?_
    simp only [Act.put, List.setIfInBounds_toArray, List.set_cons_zero, List.set_cons_succ]
    refine wpAnyH_take (i := 4) (oi := ⟨_, _, _, _, _, _⟩) rfl (by kernel_rfl) (by kernel_rfl) (by kernel_rfl) (fun _ _ _ h => h) (yieldsIf_load_at 24 (.tmp 10) n10 0 #[.int .i64 5, .int .i64 z0, .int .i64 z1, .int .i64 z2, .int .i64 z3, .int .i64 z4, .int .i64 0, .int .i64 0, .int .i64 0, .int .i64 0, .int .i64 0, .int .i64 0] _ (fun W' h => row_cells (show W'.heap[n10]? = _ from h.1)) rfl (by rfl) rfl rfl rfl rfl) (by assumption) ?_
    simp only [Act.put, List.setIfInBounds_toArray, List.set_cons_zero, List.set_cons_succ]
    refine wpAnyH_ready (rs := [1, 12]) (by kernel_rfl) (by simp) ?_
    refine AllReadyH.cons (o := ⟨_, _, _, _, _, _⟩) rfl (fun K hK => ?_) (AllReadyH.cons (o := ⟨_, _, _, _, _, _⟩) rfl (fun K hK => ?_) AllReadyH.nil)
    · rw [if_pos (by rfl)]
      refine wp_build_term (.tmp 88) ⟨xk, xn, xm, 0, []⟩ (.slice none 0 0) rfl rfl ?_
      obtain ⟨WD, hWD⟩ : ∃ z, World.alloc W16 (.cells (termC ⟨xk, xn, xm, 0, []⟩ (.slice none 0 0)) 52) = z := ⟨_, rfl⟩
      have bD : Below (World.heap W16).size W16 WD := by rw [← hWD]; exact (Below.refl _ _).alloc (Nat.le_refl _) _
      have HM : Hid (OwnT WD (World.heap W16).size (.slice (some ⟨(World.heap W16).size, 0, none⟩) 1 1) [(⟨xk, xn, xm, 0, []⟩, .slice none 0 0)]) := Lib.hid (by rw [← hWD]; exact own_lit _ _ rfl)
      have HOWLD := Lib.hid (HOWL.out.kept (w' := WD) fun g _ h => bD.block g h)
      have hH2 := And.intro (hHeld.1.below bD hHeld.1.lt) (And.intro (hHeld.2.1.below bD hHeld.2.1.lt) (hHeld.2.2.trans (bD.mono hHeld.2.2.size)))
      have HBG := Lib.hid (show B1 ≤ (World.heap W16).size ∧ n10 < (World.heap W16).size ∧ n16 < (World.heap W16).size ∧ w3.heap.size ≤ (World.heap W16).size from ⟨by have := HB1.out; have := hHeld.2.2.size; omega, hHeld.1.lt, hHeld.2.1.lt, hHeld.2.2.size⟩)
      rw [hWD]
      clear HOWL
      have HOWL := HOWLD
      clear HOWLD
      obtain ⟨gB, hgB⟩ : ∃ z, (World.heap W16).size = z := ⟨_, rfl⟩
      rw [hgB] at HM HBG ⊢
      clear hHeld bD hWD hgB
      refine hK.out _ _ hH2 (fun hHeld => ?_)
      clear hK K
      try simp only [Act.put]
      clear hH2
      refine wpAnyH_ready (rs := [3, 12]) (by kernel_rfl) (by simp) ?_
      refine AllReadyH.cons (o := ⟨_, _, _, _, _, _⟩) rfl (fun K hK => ?_) (AllReadyH.cons (o := ⟨_, _, _, _, _, _⟩) rfl (fun K hK => ?_) AllReadyH.nil)
      · rw [if_pos (by rfl)]
        refine wp_append_terms (.tmp 89) (.tmp 90) B1 [(⟨xk, xn, xm, 0, []⟩, .slice none 0 0)] L _ _ (HM.out.mono HBG.out.1) HOWL.out (by have := HLQ2.out; simp; omega) (by have := ownsRow_lt2 HM.out.own; have := HBG.out.1; omega) rfl rfl rfl ?_
        intro v9 w9 hown hg
        have hH2 : RowAt w9 n10 24 #[.int .i64 5, .int .i64 z0, .int .i64 z1, .int .i64 z2, .int .i64 z3, .int .i64 z4, .int .i64 0, .int .i64 0, .int .i64 0, .int .i64 0, .int .i64 0, .int .i64 0] ∧ RowAt w9 n16 52 #[.int .i64 xk, .int .i64 xn, .int .i64 xm, .int .i64 0, .slice none 0 0] ∧ Below w3.heap.size w3 w9 := ⟨(hg.block n10 hHeld.1.lt (by simp [Value.ownBlock]; have := HBG.out.2.1; omega)).trans hHeld.1, (hg.block n16 hHeld.2.1.lt (by simp [Value.ownBlock]; have := HBG.out.2.2.1; omega)).trans hHeld.2.1, hHeld.2.2.grown hg hHeld.2.2.size (fun j e => by simp [Value.ownBlock] at e; have := HBG.out.2.2.2; omega)⟩
        have hta := hown.terms
        rw [List.map_append, HLQ.out] at hta
        have HTA : Hid (TermsAt w9 v9 (⟨xk, xn, xm, 0, []⟩ :: q)) := Lib.hid hta
        clear hHeld hown hg hta HM HOWL
        refine hK.out _ _ hH2 (fun hHeld => ?_)
        clear hK K
        try simp only [Act.put]
        clear hH2
        refine wpAnyH_ready (rs := [6, 12]) (by kernel_rfl) (by simp) ?_
        refine AllReadyH.cons (o := ⟨_, _, _, _, _, _⟩) rfl (fun K hK => ?_) (AllReadyH.cons (o := ⟨_, _, _, _, _, _⟩) rfl (fun K hK => ?_) AllReadyH.nil)
        · go_simp
          (go_at_call 15; refine (settle_any (⟨xk, xn, xm, 0, []⟩ :: q) ⟨5, z0, z1, z2, z3, z4⟩ bq v9 (.slice Ab nb cb) 0 0 0 0 0 0 _ HTA.out HTOKF.out (by have := HL12.out; simp; omega) (HIB3.out.below hHeld.2.2) (by have := HLEN.out.2; omega) HBOK.out (by have := HPQ.out; dsimp only; omega)).mono ?_; rintro e ws ⟨vp, vr, vo, rfl, hps, hrs, hbs, hx⟩)
          rw [HV1.out] at hps hrs hbs ⊢
          unfold ResV.row rowC
          dsimp only at hps hrs hbs ⊢
          have hH2 := And.intro (hHeld.1.below hx hHeld.1.lt) (And.intro (hHeld.2.1.below hx hHeld.2.1.lt) (hHeld.2.2.trans (hx.mono hHeld.2.2.size)))
          have HBS := Lib.hid hbs
          clear hHeld hps hrs hbs hx HTA
          go_wp2_with fail
          refine hK.out _ _ hH2 (fun hHeld => ?_)
          clear hK K
          try simp only [Act.put, List.setIfInBounds_toArray, List.set_cons_zero, List.set_cons_succ]
          clear hH2
          refine wpAnyH_take (i := 7) (oi := ⟨_, _, _, _, _, _⟩) (v := ?_) rfl (by kernel_rfl) (by kernel_rfl) (by kernel_rfl) (fun _ _ _ h => h) (Or.inl ⟨by rfl, ?_⟩) (by assumption) ?_
          rotate_left
          · intro w hSw
            go_simp
            all_goals with_reducible rfl
          simp only [Act.put, List.setIfInBounds_toArray, List.set_cons_zero, List.set_cons_succ]
          refine wpAnyH_take (i := 8) (oi := ⟨_, _, _, _, _, _⟩) (v := ?_) rfl (by kernel_rfl) (by kernel_rfl) (by kernel_rfl) (fun _ _ _ h => h) (Or.inl ⟨by rfl, ?_⟩) (by assumption) ?_
          rotate_left
          · intro w hSw
            go_simp
            all_goals with_reducible rfl
          simp only [Act.put, List.setIfInBounds_toArray, List.set_cons_zero, List.set_cons_succ]
          refine wpAnyH_take (i := 9) (oi := ⟨_, _, _, _, _, _⟩) (v := ?_) rfl (by kernel_rfl) (by kernel_rfl) (by kernel_rfl) (fun _ _ _ h => h) (Or.inl ⟨by rfl, ?_⟩) (by assumption) ?_
          rotate_left
          · intro w hSw
            go_simp
            all_goals with_reducible rfl
          simp only [Act.put, List.setIfInBounds_toArray, List.set_cons_zero, List.set_cons_succ]
          refine wpAnyH_take (i := 10) (oi := ⟨_, _, _, _, _, _⟩) (v := ?_) rfl (by kernel_rfl) (by kernel_rfl) (by kernel_rfl) (fun _ _ _ h => h) (Or.inl ⟨by rfl, ?_⟩) (by assumption) ?_
          rotate_left
          · intro w hSw
            go_simp
            all_goals with_reducible rfl
          simp only [Act.put, List.setIfInBounds_toArray, List.set_cons_zero, List.set_cons_succ]
          refine wpAnyH_take (i := 11) (oi := ⟨_, _, _, _, _, _⟩) (v := ?_) rfl (by kernel_rfl) (by kernel_rfl) (by kernel_rfl) (fun _ _ _ h => h) (Or.inl ⟨by rfl, ?_⟩) (by assumption) ?_
          rotate_left
          · intro w hSw
            go_simp
            all_goals with_reducible rfl
          simp only [Act.put, List.setIfInBounds_toArray, List.set_cons_zero, List.set_cons_succ]
          refine wpAnyH_ready (rs := [12]) (by kernel_rfl) (by simp) ?_
          refine AllReadyH.cons (o := ⟨_, _, _, _, _, _⟩) rfl (fun K hK => ?_) AllReadyH.nil
          go_simp
          go_wp2_with fail
          obtain ⟨WA, hWA⟩ : ∃ z, World.alloc ws (.cells #[.int .i64 0, .int .i64 0, .int .i64 0, .int .i64 0, .int .i64 0, .int .i64 0, .int .i64 0, .int .i64 0, .int .i64 0, .int .i64 0, .int .i64 0, .int .i64 0] 24) = z := ⟨_, rfl⟩
          have bA : Below (World.heap ws).size ws WA := by rw [← hWA]; exact (Below.refl _ _).alloc (Nat.le_refl _) _
          have HRA : Hid (RowAt WA (World.heap ws).size 24 #[.int .i64 0, .int .i64 0, .int .i64 0, .int .i64 0, .int .i64 0, .int .i64 0, .int .i64 0, .int .i64 0, .int .i64 0, .int .i64 0, .int .i64 0, .int .i64 0]) := Lib.hid (by rw [← hWA]; exact RowAt.new _ _ _)
          have hH2 := And.intro (hHeld.1.below bA hHeld.1.lt) (And.intro (hHeld.2.1.below bA hHeld.2.1.lt) (hHeld.2.2.trans (bA.mono hHeld.2.2.size)))
          rw [hWA]
          have HLE := Lib.hid (show w3.heap.size ≤ (World.heap ws).size from hHeld.2.2.size)
          have HNE := Lib.hid (show n10 < (World.heap ws).size ∧ n16 < (World.heap ws).size from ⟨hHeld.1.lt, hHeld.2.1.lt⟩)
          have HLT : Hid (∀ g, vo.ownBlock = some g → g ≠ (World.heap ws).size) := Lib.hid (fun g h => by have := (HBS.out.lt g h).2; omega)
          have HO1 := Lib.hid (HBS.out.below bA)
          clear HBS
          obtain ⟨nG, hnG⟩ : ∃ z, (World.heap ws).size = z := ⟨_, rfl⟩
          rw [hnG] at HRA HLE HNE HLT ⊢
          clear hHeld bA hWA hnG
          refine hK.out _ _ hH2 (fun hHeld => ?_)
          clear hK K
          try simp only [Act.put]
          clear hH2
          have HBS := HO1
          clear HO1
          have HRA2 := HRA
          clear HRA
          refine wpAnyH_ready (rs := [13]) (by kernel_rfl) (by simp) ?_
          refine AllReadyH.cons (o := ⟨_, _, _, _, _, _⟩) rfl (fun K hK => ?_) AllReadyH.nil
          rw [if_pos (by rfl)]
          refine wp_store_row 24 (.tmp 17) (.tmp 95) rfl nG #[.int .i64 5, .int .i64 z0, .int .i64 z1, .int .i64 z2, .int .i64 z3, .int .i64 z4, .int .i64 v0, .int .i64 v1, .int .i64 v2, .int .i64 0, .int .i64 0, .int .i64 0] rfl rfl 24 #[.int .i64 0, .int .i64 0, .int .i64 0, .int .i64 0, .int .i64 0, .int .i64 0, .int .i64 0, .int .i64 0, .int .i64 0, .int .i64 0, .int .i64 0, .int .i64 0] HRA2.out (by kernel_rfl) rfl (by kernel_rfl) ?_
          obtain ⟨WB, hWB⟩ : ∃ z, World.setRow WA nG #[.int .i64 5, .int .i64 z0, .int .i64 z1, .int .i64 z2, .int .i64 z3, .int .i64 z4, .int .i64 v0, .int .i64 v1, .int .i64 v2, .int .i64 0, .int .i64 0, .int .i64 0] = z := ⟨_, rfl⟩
          have ho : ∀ g, g ≠ nG → WB.heap[g]? = (World.heap WA)[g]? := fun g hg => by rw [← hWB]; exact setRow_other (fun e => hg e.symm)
          have HRB : Hid (RowAt WB nG 24 #[.int .i64 5, .int .i64 z0, .int .i64 z1, .int .i64 z2, .int .i64 z3, .int .i64 z4, .int .i64 v0, .int .i64 v1, .int .i64 v2, .int .i64 0, .int .i64 0, .int .i64 0]) := Lib.hid (by rw [← hWB]; exact setRow_same HRA2.out)
          have hH2 : RowAt WB n10 24 #[.int .i64 5, .int .i64 z0, .int .i64 z1, .int .i64 z2, .int .i64 z3, .int .i64 z4, .int .i64 0, .int .i64 0, .int .i64 0, .int .i64 0, .int .i64 0, .int .i64 0] ∧ RowAt WB n16 52 #[.int .i64 xk, .int .i64 xn, .int .i64 xm, .int .i64 0, .slice none 0 0] ∧ Below w3.heap.size w3 WB := ⟨(ho _ (by have := HNE.out.1; omega)).trans hHeld.1, (ho _ (by have := HNE.out.2; omega)).trans hHeld.2.1, by rw [← hWB]; exact below_setRow hHeld.2.2 HLE.out⟩
          have HO2 := Lib.hid ((HBS.out.kept (w' := WB) fun g hg => ho g (HLT.out g hg)).rows)
          rw [hWB]
          clear hHeld ho hWB
          refine hK.out _ _ hH2 (fun hHeld => ?_)
          clear hK K
          try simp only [Act.put]
          clear hH2
          refine wpAnyH_take (i := 14) (oi := ⟨_, _, _, _, _, _⟩) (v := ?_) rfl (by kernel_rfl) (by kernel_rfl) (by kernel_rfl) (fun _ _ _ h => h) (Or.inl ⟨by rfl, ?_⟩) (by assumption) ?_
          rotate_left
          · intro w hSw
            go_simp
            all_goals with_reducible rfl
          simp only [Act.put, List.setIfInBounds_toArray, List.set_cons_zero, List.set_cons_succ]
          refine wpAnyH_take (i := 15) (oi := ⟨_, _, _, _, _, _⟩) (v := ?_) rfl (by kernel_rfl) (by kernel_rfl) (by kernel_rfl) (fun _ _ _ h => h) (Or.inl ⟨by rfl, ?_⟩) (by assumption) ?_
          rotate_left
          · intro w hSw
            go_simp
            all_goals with_reducible rfl
          simp only [Act.put, List.setIfInBounds_toArray, List.set_cons_zero, List.set_cons_succ]
          refine wpAnyH_take (i := 16) (oi := ⟨_, _, _, _, _, _⟩) (v := ?_) rfl (by kernel_rfl) (by kernel_rfl) (by kernel_rfl) (fun _ _ _ h => h) (Or.inl ⟨by rfl, ?_⟩) (by assumption) ?_
          rotate_left
          · intro w hSw
            go_simp
            all_goals with_reducible rfl
          simp only [Act.put, List.setIfInBounds_toArray, List.set_cons_zero, List.set_cons_succ]
          refine wpAnyH_done (by kernel_rfl) ?_ _
          go_wp2_with fail
          go_meet
          exact Lib.hid ⟨nG, rfl, HRB.out, hHeld.2.1, hHeld.2.2, HO2.out⟩

        · go_simp
          go_wp2_with fail
          obtain ⟨WA, hWA⟩ : ∃ z, World.alloc w9 (.cells #[.int .i64 0, .int .i64 0, .int .i64 0, .int .i64 0, .int .i64 0, .int .i64 0, .int .i64 0, .int .i64 0, .int .i64 0, .int .i64 0, .int .i64 0, .int .i64 0] 24) = z := ⟨_, rfl⟩
          have bA : Below (World.heap w9).size w9 WA := by rw [← hWA]; exact (Below.refl _ _).alloc (Nat.le_refl _) _
          have HRA : Hid (RowAt WA (World.heap w9).size 24 #[.int .i64 0, .int .i64 0, .int .i64 0, .int .i64 0, .int .i64 0, .int .i64 0, .int .i64 0, .int .i64 0, .int .i64 0, .int .i64 0, .int .i64 0, .int .i64 0]) := Lib.hid (by rw [← hWA]; exact RowAt.new _ _ _)
          have hH2 := And.intro (hHeld.1.below bA hHeld.1.lt) (And.intro (hHeld.2.1.below bA hHeld.2.1.lt) (hHeld.2.2.trans (bA.mono hHeld.2.2.size)))
          rw [hWA]
          have HLE := Lib.hid (show w3.heap.size ≤ (World.heap w9).size from hHeld.2.2.size)
          have HNE := Lib.hid (show n10 < (World.heap w9).size ∧ n16 < (World.heap w9).size from ⟨hHeld.1.lt, hHeld.2.1.lt⟩)
          have HTA9 := Lib.hid (HTA.out.below bA)
          clear HTA
          have HTA := HTA9
          clear HTA9
          obtain ⟨nG, hnG⟩ : ∃ z, (World.heap w9).size = z := ⟨_, rfl⟩
          rw [hnG] at HRA HLE HNE ⊢
          clear hHeld bA hWA hnG
          refine hK.out _ _ hH2 (fun hHeld => ?_)
          clear hK K
          try simp only [Act.put]
          clear hH2
          refine wpAnyH_ready (rs := [6]) (by kernel_rfl) (by simp) ?_
          refine AllReadyH.cons (o := ⟨_, _, _, _, _, _⟩) rfl (fun K hK => ?_) AllReadyH.nil
          go_simp
          (go_at_call 15; refine (settle_any (⟨xk, xn, xm, 0, []⟩ :: q) ⟨5, z0, z1, z2, z3, z4⟩ bq v9 (.slice Ab nb cb) 0 0 0 0 0 0 _ HTA.out HTOKF.out (by have := HL12.out; simp; omega) (HIB3.out.below hHeld.2.2) (by have := HLEN.out.2; omega) HBOK.out (by have := HPQ.out; dsimp only; omega)).mono ?_; rintro e ws ⟨vp, vr, vo, rfl, hps, hrs, hbs, hx⟩)
          rw [HV1.out] at hps hrs hbs ⊢
          unfold ResV.row rowC
          dsimp only at hps hrs hbs ⊢
          have hH2 := And.intro (hHeld.1.below hx hHeld.1.lt) (And.intro (hHeld.2.1.below hx hHeld.2.1.lt) (hHeld.2.2.trans (hx.mono hHeld.2.2.size)))
          have HRA2 := Lib.hid (HRA.out.below hx HRA.out.lt)
          have HLT : Hid (∀ g, vo.ownBlock = some g → g ≠ nG) := Lib.hid (fun g h => by have := (hbs.lt g h).1; have := HRA.out.lt; omega)
          clear HRA
          have HBS := Lib.hid hbs
          clear hHeld hps hrs hbs hx HTA
          go_wp2_with fail
          refine hK.out _ _ hH2 (fun hHeld => ?_)
          clear hK K
          try simp only [Act.put, List.setIfInBounds_toArray, List.set_cons_zero, List.set_cons_succ]
          clear hH2
          refine wpAnyH_take (i := 7) (oi := ⟨_, _, _, _, _, _⟩) (v := ?_) rfl (by kernel_rfl) (by kernel_rfl) (by kernel_rfl) (fun _ _ _ h => h) (Or.inl ⟨by rfl, ?_⟩) (by assumption) ?_
          rotate_left
          · intro w hSw
            go_simp
            all_goals with_reducible rfl
          simp only [Act.put, List.setIfInBounds_toArray, List.set_cons_zero, List.set_cons_succ]
          refine wpAnyH_take (i := 8) (oi := ⟨_, _, _, _, _, _⟩) (v := ?_) rfl (by kernel_rfl) (by kernel_rfl) (by kernel_rfl) (fun _ _ _ h => h) (Or.inl ⟨by rfl, ?_⟩) (by assumption) ?_
          rotate_left
          · intro w hSw
            go_simp
            all_goals with_reducible rfl
          simp only [Act.put, List.setIfInBounds_toArray, List.set_cons_zero, List.set_cons_succ]
          refine wpAnyH_take (i := 9) (oi := ⟨_, _, _, _, _, _⟩) (v := ?_) rfl (by kernel_rfl) (by kernel_rfl) (by kernel_rfl) (fun _ _ _ h => h) (Or.inl ⟨by rfl, ?_⟩) (by assumption) ?_
          rotate_left
          · intro w hSw
            go_simp
            all_goals with_reducible rfl
          simp only [Act.put, List.setIfInBounds_toArray, List.set_cons_zero, List.set_cons_succ]
          refine wpAnyH_take (i := 10) (oi := ⟨_, _, _, _, _, _⟩) (v := ?_) rfl (by kernel_rfl) (by kernel_rfl) (by kernel_rfl) (fun _ _ _ h => h) (Or.inl ⟨by rfl, ?_⟩) (by assumption) ?_
          rotate_left
          · intro w hSw
            go_simp
            all_goals with_reducible rfl
          simp only [Act.put, List.setIfInBounds_toArray, List.set_cons_zero, List.set_cons_succ]
          refine wpAnyH_take (i := 11) (oi := ⟨_, _, _, _, _, _⟩) (v := ?_) rfl (by kernel_rfl) (by kernel_rfl) (by kernel_rfl) (fun _ _ _ h => h) (Or.inl ⟨by rfl, ?_⟩) (by assumption) ?_
          rotate_left
          · intro w hSw
            go_simp
            all_goals with_reducible rfl
          simp only [Act.put, List.setIfInBounds_toArray, List.set_cons_zero, List.set_cons_succ]
          refine wpAnyH_ready (rs := [13]) (by kernel_rfl) (by simp) ?_
          refine AllReadyH.cons (o := ⟨_, _, _, _, _, _⟩) rfl (fun K hK => ?_) AllReadyH.nil
          rw [if_pos (by rfl)]
          refine wp_store_row 24 (.tmp 17) (.tmp 95) rfl nG #[.int .i64 5, .int .i64 z0, .int .i64 z1, .int .i64 z2, .int .i64 z3, .int .i64 z4, .int .i64 v0, .int .i64 v1, .int .i64 v2, .int .i64 0, .int .i64 0, .int .i64 0] rfl rfl 24 #[.int .i64 0, .int .i64 0, .int .i64 0, .int .i64 0, .int .i64 0, .int .i64 0, .int .i64 0, .int .i64 0, .int .i64 0, .int .i64 0, .int .i64 0, .int .i64 0] HRA2.out (by kernel_rfl) rfl (by kernel_rfl) ?_
          obtain ⟨WB, hWB⟩ : ∃ z, World.setRow ws nG #[.int .i64 5, .int .i64 z0, .int .i64 z1, .int .i64 z2, .int .i64 z3, .int .i64 z4, .int .i64 v0, .int .i64 v1, .int .i64 v2, .int .i64 0, .int .i64 0, .int .i64 0] = z := ⟨_, rfl⟩
          have ho : ∀ g, g ≠ nG → WB.heap[g]? = (World.heap ws)[g]? := fun g hg => by rw [← hWB]; exact setRow_other (fun e => hg e.symm)
          have HRB : Hid (RowAt WB nG 24 #[.int .i64 5, .int .i64 z0, .int .i64 z1, .int .i64 z2, .int .i64 z3, .int .i64 z4, .int .i64 v0, .int .i64 v1, .int .i64 v2, .int .i64 0, .int .i64 0, .int .i64 0]) := Lib.hid (by rw [← hWB]; exact setRow_same HRA2.out)
          have hH2 : RowAt WB n10 24 #[.int .i64 5, .int .i64 z0, .int .i64 z1, .int .i64 z2, .int .i64 z3, .int .i64 z4, .int .i64 0, .int .i64 0, .int .i64 0, .int .i64 0, .int .i64 0, .int .i64 0] ∧ RowAt WB n16 52 #[.int .i64 xk, .int .i64 xn, .int .i64 xm, .int .i64 0, .slice none 0 0] ∧ Below w3.heap.size w3 WB := ⟨(ho _ (by have := HNE.out.1; omega)).trans hHeld.1, (ho _ (by have := HNE.out.2; omega)).trans hHeld.2.1, by rw [← hWB]; exact below_setRow hHeld.2.2 HLE.out⟩
          have HO2 := Lib.hid ((HBS.out.kept (w' := WB) fun g hg => ho g (HLT.out g hg)).rows)
          rw [hWB]
          clear hHeld ho hWB
          refine hK.out _ _ hH2 (fun hHeld => ?_)
          clear hK K
          try simp only [Act.put]
          clear hH2
          refine wpAnyH_take (i := 14) (oi := ⟨_, _, _, _, _, _⟩) (v := ?_) rfl (by kernel_rfl) (by kernel_rfl) (by kernel_rfl) (fun _ _ _ h => h) (Or.inl ⟨by rfl, ?_⟩) (by assumption) ?_
          rotate_left
          · intro w hSw
            go_simp
            all_goals with_reducible rfl
          simp only [Act.put, List.setIfInBounds_toArray, List.set_cons_zero, List.set_cons_succ]
          refine wpAnyH_take (i := 15) (oi := ⟨_, _, _, _, _, _⟩) (v := ?_) rfl (by kernel_rfl) (by kernel_rfl) (by kernel_rfl) (fun _ _ _ h => h) (Or.inl ⟨by rfl, ?_⟩) (by assumption) ?_
          rotate_left
          · intro w hSw
            go_simp
            all_goals with_reducible rfl
          simp only [Act.put, List.setIfInBounds_toArray, List.set_cons_zero, List.set_cons_succ]
          refine wpAnyH_take (i := 16) (oi := ⟨_, _, _, _, _, _⟩) (v := ?_) rfl (by kernel_rfl) (by kernel_rfl) (by kernel_rfl) (fun _ _ _ h => h) (Or.inl ⟨by rfl, ?_⟩) (by assumption) ?_
          rotate_left
          · intro w hSw
            go_simp
            all_goals with_reducible rfl
          simp only [Act.put, List.setIfInBounds_toArray, List.set_cons_zero, List.set_cons_succ]
          refine wpAnyH_done (by kernel_rfl) ?_ _
          go_wp2_with fail
          go_meet
          exact Lib.hid ⟨nG, rfl, HRB.out, hHeld.2.1, hHeld.2.2, HO2.out⟩


      · go_simp
        go_wp2_with fail
        obtain ⟨WA, hWA⟩ : ∃ z, World.alloc WD (.cells #[.int .i64 0, .int .i64 0, .int .i64 0, .int .i64 0, .int .i64 0, .int .i64 0, .int .i64 0, .int .i64 0, .int .i64 0, .int .i64 0, .int .i64 0, .int .i64 0] 24) = z := ⟨_, rfl⟩
        have bA : Below (World.heap WD).size WD WA := by rw [← hWA]; exact (Below.refl _ _).alloc (Nat.le_refl _) _
        have HRA : Hid (RowAt WA (World.heap WD).size 24 #[.int .i64 0, .int .i64 0, .int .i64 0, .int .i64 0, .int .i64 0, .int .i64 0, .int .i64 0, .int .i64 0, .int .i64 0, .int .i64 0, .int .i64 0, .int .i64 0]) := Lib.hid (by rw [← hWA]; exact RowAt.new _ _ _)
        have hH2 := And.intro (hHeld.1.below bA hHeld.1.lt) (And.intro (hHeld.2.1.below bA hHeld.2.1.lt) (hHeld.2.2.trans (bA.mono hHeld.2.2.size)))
        rw [hWA]
        have HLE := Lib.hid (show w3.heap.size ≤ (World.heap WD).size from hHeld.2.2.size)
        have HNE := Lib.hid (show n10 < (World.heap WD).size ∧ n16 < (World.heap WD).size from ⟨hHeld.1.lt, hHeld.2.1.lt⟩)
        have HGD := Lib.hid (show (World.heap WD).size ≠ gB from fun e => by have := (ownsRow_lt2 HM.out.own); omega)
        have HMA := Lib.hid (HM.out.kept (w' := WA) fun g _ h => bA.block g h)
        clear HM
        have HM := HMA
        clear HMA
        have HOWLA := Lib.hid (HOWL.out.kept (w' := WA) fun g _ h => bA.block g h)
        clear HOWL
        have HOWL := HOWLA
        clear HOWLA
        obtain ⟨nG, hnG⟩ : ∃ z, (World.heap WD).size = z := ⟨_, rfl⟩
        rw [hnG] at HRA HLE HNE HGD ⊢
        clear hHeld bA hWA hnG
        refine hK.out _ _ hH2 (fun hHeld => ?_)
        clear hK K
        try simp only [Act.put]
        clear hH2
        refine wpAnyH_ready (rs := [3]) (by kernel_rfl) (by simp) ?_
        refine AllReadyH.cons (o := ⟨_, _, _, _, _, _⟩) rfl (fun K hK => ?_) AllReadyH.nil
        rw [if_pos (by rfl)]
        refine wp_append_terms (.tmp 89) (.tmp 90) B1 [(⟨xk, xn, xm, 0, []⟩, .slice none 0 0)] L _ _ (HM.out.mono HBG.out.1) HOWL.out (by have := HLQ2.out; simp; omega) (by have := ownsRow_lt2 HM.out.own; have := HBG.out.1; omega) rfl rfl rfl ?_
        intro v9 w9 hown hg
        have hH2 : RowAt w9 n10 24 #[.int .i64 5, .int .i64 z0, .int .i64 z1, .int .i64 z2, .int .i64 z3, .int .i64 z4, .int .i64 0, .int .i64 0, .int .i64 0, .int .i64 0, .int .i64 0, .int .i64 0] ∧ RowAt w9 n16 52 #[.int .i64 xk, .int .i64 xn, .int .i64 xm, .int .i64 0, .slice none 0 0] ∧ Below w3.heap.size w3 w9 := ⟨(hg.block n10 hHeld.1.lt (by simp [Value.ownBlock]; have := HBG.out.2.1; omega)).trans hHeld.1, (hg.block n16 hHeld.2.1.lt (by simp [Value.ownBlock]; have := HBG.out.2.2.1; omega)).trans hHeld.2.1, hHeld.2.2.grown hg hHeld.2.2.size (fun j e => by simp [Value.ownBlock] at e; have := HBG.out.2.2.2; omega)⟩
        have HRA9 : Hid (RowAt w9 nG 24 #[.int .i64 0, .int .i64 0, .int .i64 0, .int .i64 0, .int .i64 0, .int .i64 0, .int .i64 0, .int .i64 0, .int .i64 0, .int .i64 0, .int .i64 0, .int .i64 0]) := Lib.hid ((hg.block nG HRA.out.lt (by simp [Value.ownBlock]; exact HGD.out)).trans HRA.out)
        clear HRA HGD
        have HRA := HRA9
        clear HRA9
        have hta := hown.terms
        rw [List.map_append, HLQ.out] at hta
        have HTA : Hid (TermsAt w9 v9 (⟨xk, xn, xm, 0, []⟩ :: q)) := Lib.hid hta
        clear hHeld hown hg hta HM HOWL
        refine hK.out _ _ hH2 (fun hHeld => ?_)
        clear hK K
        try simp only [Act.put]
        clear hH2
        refine wpAnyH_ready (rs := [6]) (by kernel_rfl) (by simp) ?_
        refine AllReadyH.cons (o := ⟨_, _, _, _, _, _⟩) rfl (fun K hK => ?_) AllReadyH.nil
        go_simp
        (go_at_call 15; refine (settle_any (⟨xk, xn, xm, 0, []⟩ :: q) ⟨5, z0, z1, z2, z3, z4⟩ bq v9 (.slice Ab nb cb) 0 0 0 0 0 0 _ HTA.out HTOKF.out (by have := HL12.out; simp; omega) (HIB3.out.below hHeld.2.2) (by have := HLEN.out.2; omega) HBOK.out (by have := HPQ.out; dsimp only; omega)).mono ?_; rintro e ws ⟨vp, vr, vo, rfl, hps, hrs, hbs, hx⟩)
        rw [HV1.out] at hps hrs hbs ⊢
        unfold ResV.row rowC
        dsimp only at hps hrs hbs ⊢
        have hH2 := And.intro (hHeld.1.below hx hHeld.1.lt) (And.intro (hHeld.2.1.below hx hHeld.2.1.lt) (hHeld.2.2.trans (hx.mono hHeld.2.2.size)))
        have HRA2 := Lib.hid (HRA.out.below hx HRA.out.lt)
        have HLT : Hid (∀ g, vo.ownBlock = some g → g ≠ nG) := Lib.hid (fun g h => by have := (hbs.lt g h).1; have := HRA.out.lt; omega)
        clear HRA
        have HBS := Lib.hid hbs
        clear hHeld hps hrs hbs hx HTA
        go_wp2_with fail
        refine hK.out _ _ hH2 (fun hHeld => ?_)
        clear hK K
        try simp only [Act.put, List.setIfInBounds_toArray, List.set_cons_zero, List.set_cons_succ]
        clear hH2
        refine wpAnyH_take (i := 7) (oi := ⟨_, _, _, _, _, _⟩) (v := ?_) rfl (by kernel_rfl) (by kernel_rfl) (by kernel_rfl) (fun _ _ _ h => h) (Or.inl ⟨by rfl, ?_⟩) (by assumption) ?_
        rotate_left
        · intro w hSw
          go_simp
          all_goals with_reducible rfl
        simp only [Act.put, List.setIfInBounds_toArray, List.set_cons_zero, List.set_cons_succ]
        refine wpAnyH_take (i := 8) (oi := ⟨_, _, _, _, _, _⟩) (v := ?_) rfl (by kernel_rfl) (by kernel_rfl) (by kernel_rfl) (fun _ _ _ h => h) (Or.inl ⟨by rfl, ?_⟩) (by assumption) ?_
        rotate_left
        · intro w hSw
          go_simp
          all_goals with_reducible rfl
        simp only [Act.put, List.setIfInBounds_toArray, List.set_cons_zero, List.set_cons_succ]
        refine wpAnyH_take (i := 9) (oi := ⟨_, _, _, _, _, _⟩) (v := ?_) rfl (by kernel_rfl) (by kernel_rfl) (by kernel_rfl) (fun _ _ _ h => h) (Or.inl ⟨by rfl, ?_⟩) (by assumption) ?_
        rotate_left
        · intro w hSw
          go_simp
          all_goals with_reducible rfl
        simp only [Act.put, List.setIfInBounds_toArray, List.set_cons_zero, List.set_cons_succ]
        refine wpAnyH_take (i := 10) (oi := ⟨_, _, _, _, _, _⟩) (v := ?_) rfl (by kernel_rfl) (by kernel_rfl) (by kernel_rfl) (fun _ _ _ h => h) (Or.inl ⟨by rfl, ?_⟩) (by assumption) ?_
        rotate_left
        · intro w hSw
          go_simp
          all_goals with_reducible rfl
        simp only [Act.put, List.setIfInBounds_toArray, List.set_cons_zero, List.set_cons_succ]
        refine wpAnyH_take (i := 11) (oi := ⟨_, _, _, _, _, _⟩) (v := ?_) rfl (by kernel_rfl) (by kernel_rfl) (by kernel_rfl) (fun _ _ _ h => h) (Or.inl ⟨by rfl, ?_⟩) (by assumption) ?_
        rotate_left
        · intro w hSw
          go_simp
          all_goals with_reducible rfl
        simp only [Act.put, List.setIfInBounds_toArray, List.set_cons_zero, List.set_cons_succ]
        refine wpAnyH_ready (rs := [13]) (by kernel_rfl) (by simp) ?_
        refine AllReadyH.cons (o := ⟨_, _, _, _, _, _⟩) rfl (fun K hK => ?_) AllReadyH.nil
        rw [if_pos (by rfl)]
        refine wp_store_row 24 (.tmp 17) (.tmp 95) rfl nG #[.int .i64 5, .int .i64 z0, .int .i64 z1, .int .i64 z2, .int .i64 z3, .int .i64 z4, .int .i64 v0, .int .i64 v1, .int .i64 v2, .int .i64 0, .int .i64 0, .int .i64 0] rfl rfl 24 #[.int .i64 0, .int .i64 0, .int .i64 0, .int .i64 0, .int .i64 0, .int .i64 0, .int .i64 0, .int .i64 0, .int .i64 0, .int .i64 0, .int .i64 0, .int .i64 0] HRA2.out (by kernel_rfl) rfl (by kernel_rfl) ?_
        obtain ⟨WB, hWB⟩ : ∃ z, World.setRow ws nG #[.int .i64 5, .int .i64 z0, .int .i64 z1, .int .i64 z2, .int .i64 z3, .int .i64 z4, .int .i64 v0, .int .i64 v1, .int .i64 v2, .int .i64 0, .int .i64 0, .int .i64 0] = z := ⟨_, rfl⟩
        have ho : ∀ g, g ≠ nG → WB.heap[g]? = (World.heap ws)[g]? := fun g hg => by rw [← hWB]; exact setRow_other (fun e => hg e.symm)
        have HRB : Hid (RowAt WB nG 24 #[.int .i64 5, .int .i64 z0, .int .i64 z1, .int .i64 z2, .int .i64 z3, .int .i64 z4, .int .i64 v0, .int .i64 v1, .int .i64 v2, .int .i64 0, .int .i64 0, .int .i64 0]) := Lib.hid (by rw [← hWB]; exact setRow_same HRA2.out)
        have hH2 : RowAt WB n10 24 #[.int .i64 5, .int .i64 z0, .int .i64 z1, .int .i64 z2, .int .i64 z3, .int .i64 z4, .int .i64 0, .int .i64 0, .int .i64 0, .int .i64 0, .int .i64 0, .int .i64 0] ∧ RowAt WB n16 52 #[.int .i64 xk, .int .i64 xn, .int .i64 xm, .int .i64 0, .slice none 0 0] ∧ Below w3.heap.size w3 WB := ⟨(ho _ (by have := HNE.out.1; omega)).trans hHeld.1, (ho _ (by have := HNE.out.2; omega)).trans hHeld.2.1, by rw [← hWB]; exact below_setRow hHeld.2.2 HLE.out⟩
        have HO2 := Lib.hid ((HBS.out.kept (w' := WB) fun g hg => ho g (HLT.out g hg)).rows)
        rw [hWB]
        clear hHeld ho hWB
        refine hK.out _ _ hH2 (fun hHeld => ?_)
        clear hK K
        try simp only [Act.put]
        clear hH2
        refine wpAnyH_take (i := 14) (oi := ⟨_, _, _, _, _, _⟩) (v := ?_) rfl (by kernel_rfl) (by kernel_rfl) (by kernel_rfl) (fun _ _ _ h => h) (Or.inl ⟨by rfl, ?_⟩) (by assumption) ?_
        rotate_left
        · intro w hSw
          go_simp
          all_goals with_reducible rfl
        simp only [Act.put, List.setIfInBounds_toArray, List.set_cons_zero, List.set_cons_succ]
        refine wpAnyH_take (i := 15) (oi := ⟨_, _, _, _, _, _⟩) (v := ?_) rfl (by kernel_rfl) (by kernel_rfl) (by kernel_rfl) (fun _ _ _ h => h) (Or.inl ⟨by rfl, ?_⟩) (by assumption) ?_
        rotate_left
        · intro w hSw
          go_simp
          all_goals with_reducible rfl
        simp only [Act.put, List.setIfInBounds_toArray, List.set_cons_zero, List.set_cons_succ]
        refine wpAnyH_take (i := 16) (oi := ⟨_, _, _, _, _, _⟩) (v := ?_) rfl (by kernel_rfl) (by kernel_rfl) (by kernel_rfl) (fun _ _ _ h => h) (Or.inl ⟨by rfl, ?_⟩) (by assumption) ?_
        rotate_left
        · intro w hSw
          go_simp
          all_goals with_reducible rfl
        simp only [Act.put, List.setIfInBounds_toArray, List.set_cons_zero, List.set_cons_succ]
        refine wpAnyH_done (by kernel_rfl) ?_ _
        go_wp2_with fail
        go_meet
        exact Lib.hid ⟨nG, rfl, HRB.out, hHeld.2.1, hHeld.2.2, HO2.out⟩


    · go_simp
      go_wp2_with fail
      obtain ⟨WA, hWA⟩ : ∃ z, World.alloc W16 (.cells #[.int .i64 0, .int .i64 0, .int .i64 0, .int .i64 0, .int .i64 0, .int .i64 0, .int .i64 0, .int .i64 0, .int .i64 0, .int .i64 0, .int .i64 0, .int .i64 0] 24) = z := ⟨_, rfl⟩
      have bA : Below (World.heap W16).size W16 WA := by rw [← hWA]; exact (Below.refl _ _).alloc (Nat.le_refl _) _
      have HRA : Hid (RowAt WA (World.heap W16).size 24 #[.int .i64 0, .int .i64 0, .int .i64 0, .int .i64 0, .int .i64 0, .int .i64 0, .int .i64 0, .int .i64 0, .int .i64 0, .int .i64 0, .int .i64 0, .int .i64 0]) := Lib.hid (by rw [← hWA]; exact RowAt.new _ _ _)
      have hH2 := And.intro (hHeld.1.below bA hHeld.1.lt) (And.intro (hHeld.2.1.below bA hHeld.2.1.lt) (hHeld.2.2.trans (bA.mono hHeld.2.2.size)))
      rw [hWA]
      have HLE := Lib.hid (show w3.heap.size ≤ (World.heap W16).size from hHeld.2.2.size)
      have HNE := Lib.hid (show n10 < (World.heap W16).size ∧ n16 < (World.heap W16).size from ⟨hHeld.1.lt, hHeld.2.1.lt⟩)
      have HOWLA := Lib.hid (HOWL.out.kept (w' := WA) fun g _ h => bA.block g h)
      clear HOWL
      have HOWL := HOWLA
      clear HOWLA
      obtain ⟨nG, hnG⟩ : ∃ z, (World.heap W16).size = z := ⟨_, rfl⟩
      rw [hnG] at HRA HLE HNE ⊢
      clear hHeld bA hWA hnG
      refine hK.out _ _ hH2 (fun hHeld => ?_)
      clear hK K
      try simp only [Act.put]
      clear hH2
      refine wpAnyH_ready (rs := [1]) (by kernel_rfl) (by simp) ?_
      refine AllReadyH.cons (o := ⟨_, _, _, _, _, _⟩) rfl (fun K hK => ?_) AllReadyH.nil
      rw [if_pos (by rfl)]
      refine wp_build_term (.tmp 88) ⟨xk, xn, xm, 0, []⟩ (.slice none 0 0) rfl rfl ?_
      obtain ⟨WD, hWD⟩ : ∃ z, World.alloc WA (.cells (termC ⟨xk, xn, xm, 0, []⟩ (.slice none 0 0)) 52) = z := ⟨_, rfl⟩
      have bD : Below (World.heap WA).size WA WD := by rw [← hWD]; exact (Below.refl _ _).alloc (Nat.le_refl _) _
      have HM : Hid (OwnT WD (World.heap WA).size (.slice (some ⟨(World.heap WA).size, 0, none⟩) 1 1) [(⟨xk, xn, xm, 0, []⟩, .slice none 0 0)]) := Lib.hid (by rw [← hWD]; exact own_lit _ _ rfl)
      have HOWLD := Lib.hid (HOWL.out.kept (w' := WD) fun g _ h => bD.block g h)
      have hH2 := And.intro (hHeld.1.below bD hHeld.1.lt) (And.intro (hHeld.2.1.below bD hHeld.2.1.lt) (hHeld.2.2.trans (bD.mono hHeld.2.2.size)))
      have HBG := Lib.hid (show B1 ≤ (World.heap WA).size ∧ n10 < (World.heap WA).size ∧ n16 < (World.heap WA).size ∧ w3.heap.size ≤ (World.heap WA).size from ⟨by have := HB1.out; have := hHeld.2.2.size; omega, hHeld.1.lt, hHeld.2.1.lt, hHeld.2.2.size⟩)
      have HRAD := Lib.hid (HRA.out.below bD HRA.out.lt)
      have HGD := Lib.hid (show nG ≠ (World.heap WA).size from Nat.ne_of_lt HRA.out.lt)
      clear HRA
      have HRA := HRAD
      clear HRAD
      rw [hWD]
      clear HOWL
      have HOWL := HOWLD
      clear HOWLD
      obtain ⟨gB, hgB⟩ : ∃ z, (World.heap WA).size = z := ⟨_, rfl⟩
      rw [hgB] at HM HBG HGD ⊢
      clear hHeld bD hWD hgB
      refine hK.out _ _ hH2 (fun hHeld => ?_)
      clear hK K
      try simp only [Act.put]
      clear hH2
      refine wpAnyH_ready (rs := [3]) (by kernel_rfl) (by simp) ?_
      refine AllReadyH.cons (o := ⟨_, _, _, _, _, _⟩) rfl (fun K hK => ?_) AllReadyH.nil
      rw [if_pos (by rfl)]
      refine wp_append_terms (.tmp 89) (.tmp 90) B1 [(⟨xk, xn, xm, 0, []⟩, .slice none 0 0)] L _ _ (HM.out.mono HBG.out.1) HOWL.out (by have := HLQ2.out; simp; omega) (by have := ownsRow_lt2 HM.out.own; have := HBG.out.1; omega) rfl rfl rfl ?_
      intro v9 w9 hown hg
      have hH2 : RowAt w9 n10 24 #[.int .i64 5, .int .i64 z0, .int .i64 z1, .int .i64 z2, .int .i64 z3, .int .i64 z4, .int .i64 0, .int .i64 0, .int .i64 0, .int .i64 0, .int .i64 0, .int .i64 0] ∧ RowAt w9 n16 52 #[.int .i64 xk, .int .i64 xn, .int .i64 xm, .int .i64 0, .slice none 0 0] ∧ Below w3.heap.size w3 w9 := ⟨(hg.block n10 hHeld.1.lt (by simp [Value.ownBlock]; have := HBG.out.2.1; omega)).trans hHeld.1, (hg.block n16 hHeld.2.1.lt (by simp [Value.ownBlock]; have := HBG.out.2.2.1; omega)).trans hHeld.2.1, hHeld.2.2.grown hg hHeld.2.2.size (fun j e => by simp [Value.ownBlock] at e; have := HBG.out.2.2.2; omega)⟩
      have HRA9 : Hid (RowAt w9 nG 24 #[.int .i64 0, .int .i64 0, .int .i64 0, .int .i64 0, .int .i64 0, .int .i64 0, .int .i64 0, .int .i64 0, .int .i64 0, .int .i64 0, .int .i64 0, .int .i64 0]) := Lib.hid ((hg.block nG HRA.out.lt (by simp [Value.ownBlock]; exact HGD.out)).trans HRA.out)
      clear HRA HGD
      have HRA := HRA9
      clear HRA9
      have hta := hown.terms
      rw [List.map_append, HLQ.out] at hta
      have HTA : Hid (TermsAt w9 v9 (⟨xk, xn, xm, 0, []⟩ :: q)) := Lib.hid hta
      clear hHeld hown hg hta HM HOWL
      refine hK.out _ _ hH2 (fun hHeld => ?_)
      clear hK K
      try simp only [Act.put]
      clear hH2
      refine wpAnyH_ready (rs := [6]) (by kernel_rfl) (by simp) ?_
      refine AllReadyH.cons (o := ⟨_, _, _, _, _, _⟩) rfl (fun K hK => ?_) AllReadyH.nil
      go_simp
      (go_at_call 15; refine (settle_any (⟨xk, xn, xm, 0, []⟩ :: q) ⟨5, z0, z1, z2, z3, z4⟩ bq v9 (.slice Ab nb cb) 0 0 0 0 0 0 _ HTA.out HTOKF.out (by have := HL12.out; simp; omega) (HIB3.out.below hHeld.2.2) (by have := HLEN.out.2; omega) HBOK.out (by have := HPQ.out; dsimp only; omega)).mono ?_; rintro e ws ⟨vp, vr, vo, rfl, hps, hrs, hbs, hx⟩)
      rw [HV1.out] at hps hrs hbs ⊢
      unfold ResV.row rowC
      dsimp only at hps hrs hbs ⊢
      have hH2 := And.intro (hHeld.1.below hx hHeld.1.lt) (And.intro (hHeld.2.1.below hx hHeld.2.1.lt) (hHeld.2.2.trans (hx.mono hHeld.2.2.size)))
      have HRA2 := Lib.hid (HRA.out.below hx HRA.out.lt)
      have HLT : Hid (∀ g, vo.ownBlock = some g → g ≠ nG) := Lib.hid (fun g h => by have := (hbs.lt g h).1; have := HRA.out.lt; omega)
      clear HRA
      have HBS := Lib.hid hbs
      clear hHeld hps hrs hbs hx HTA
      go_wp2_with fail
      refine hK.out _ _ hH2 (fun hHeld => ?_)
      clear hK K
      try simp only [Act.put, List.setIfInBounds_toArray, List.set_cons_zero, List.set_cons_succ]
      clear hH2
      refine wpAnyH_take (i := 7) (oi := ⟨_, _, _, _, _, _⟩) (v := ?_) rfl (by kernel_rfl) (by kernel_rfl) (by kernel_rfl) (fun _ _ _ h => h) (Or.inl ⟨by rfl, ?_⟩) (by assumption) ?_
      rotate_left
      · intro w hSw
        go_simp
        all_goals with_reducible rfl
      simp only [Act.put, List.setIfInBounds_toArray, List.set_cons_zero, List.set_cons_succ]
      refine wpAnyH_take (i := 8) (oi := ⟨_, _, _, _, _, _⟩) (v := ?_) rfl (by kernel_rfl) (by kernel_rfl) (by kernel_rfl) (fun _ _ _ h => h) (Or.inl ⟨by rfl, ?_⟩) (by assumption) ?_
      rotate_left
      · intro w hSw
        go_simp
        all_goals with_reducible rfl
      simp only [Act.put, List.setIfInBounds_toArray, List.set_cons_zero, List.set_cons_succ]
      refine wpAnyH_take (i := 9) (oi := ⟨_, _, _, _, _, _⟩) (v := ?_) rfl (by kernel_rfl) (by kernel_rfl) (by kernel_rfl) (fun _ _ _ h => h) (Or.inl ⟨by rfl, ?_⟩) (by assumption) ?_
      rotate_left
      · intro w hSw
        go_simp
        all_goals with_reducible rfl
      simp only [Act.put, List.setIfInBounds_toArray, List.set_cons_zero, List.set_cons_succ]
      refine wpAnyH_take (i := 10) (oi := ⟨_, _, _, _, _, _⟩) (v := ?_) rfl (by kernel_rfl) (by kernel_rfl) (by kernel_rfl) (fun _ _ _ h => h) (Or.inl ⟨by rfl, ?_⟩) (by assumption) ?_
      rotate_left
      · intro w hSw
        go_simp
        all_goals with_reducible rfl
      simp only [Act.put, List.setIfInBounds_toArray, List.set_cons_zero, List.set_cons_succ]
      refine wpAnyH_take (i := 11) (oi := ⟨_, _, _, _, _, _⟩) (v := ?_) rfl (by kernel_rfl) (by kernel_rfl) (by kernel_rfl) (fun _ _ _ h => h) (Or.inl ⟨by rfl, ?_⟩) (by assumption) ?_
      rotate_left
      · intro w hSw
        go_simp
        all_goals with_reducible rfl
      simp only [Act.put, List.setIfInBounds_toArray, List.set_cons_zero, List.set_cons_succ]
      refine wpAnyH_ready (rs := [13]) (by kernel_rfl) (by simp) ?_
      refine AllReadyH.cons (o := ⟨_, _, _, _, _, _⟩) rfl (fun K hK => ?_) AllReadyH.nil
      rw [if_pos (by rfl)]
      refine wp_store_row 24 (.tmp 17) (.tmp 95) rfl nG #[.int .i64 5, .int .i64 z0, .int .i64 z1, .int .i64 z2, .int .i64 z3, .int .i64 z4, .int .i64 v0, .int .i64 v1, .int .i64 v2, .int .i64 0, .int .i64 0, .int .i64 0] rfl rfl 24 #[.int .i64 0, .int .i64 0, .int .i64 0, .int .i64 0, .int .i64 0, .int .i64 0, .int .i64 0, .int .i64 0, .int .i64 0, .int .i64 0, .int .i64 0, .int .i64 0] HRA2.out (by kernel_rfl) rfl (by kernel_rfl) ?_
      obtain ⟨WB, hWB⟩ : ∃ z, World.setRow ws nG #[.int .i64 5, .int .i64 z0, .int .i64 z1, .int .i64 z2, .int .i64 z3, .int .i64 z4, .int .i64 v0, .int .i64 v1, .int .i64 v2, .int .i64 0, .int .i64 0, .int .i64 0] = z := ⟨_, rfl⟩
      have ho : ∀ g, g ≠ nG → WB.heap[g]? = (World.heap ws)[g]? := fun g hg => by rw [← hWB]; exact setRow_other (fun e => hg e.symm)
      have HRB : Hid (RowAt WB nG 24 #[.int .i64 5, .int .i64 z0, .int .i64 z1, .int .i64 z2, .int .i64 z3, .int .i64 z4, .int .i64 v0, .int .i64 v1, .int .i64 v2, .int .i64 0, .int .i64 0, .int .i64 0]) := Lib.hid (by rw [← hWB]; exact setRow_same HRA2.out)
      have hH2 : RowAt WB n10 24 #[.int .i64 5, .int .i64 z0, .int .i64 z1, .int .i64 z2, .int .i64 z3, .int .i64 z4, .int .i64 0, .int .i64 0, .int .i64 0, .int .i64 0, .int .i64 0, .int .i64 0] ∧ RowAt WB n16 52 #[.int .i64 xk, .int .i64 xn, .int .i64 xm, .int .i64 0, .slice none 0 0] ∧ Below w3.heap.size w3 WB := ⟨(ho _ (by have := HNE.out.1; omega)).trans hHeld.1, (ho _ (by have := HNE.out.2; omega)).trans hHeld.2.1, by rw [← hWB]; exact below_setRow hHeld.2.2 HLE.out⟩
      have HO2 := Lib.hid ((HBS.out.kept (w' := WB) fun g hg => ho g (HLT.out g hg)).rows)
      rw [hWB]
      clear hHeld ho hWB
      refine hK.out _ _ hH2 (fun hHeld => ?_)
      clear hK K
      try simp only [Act.put]
      clear hH2
      refine wpAnyH_take (i := 14) (oi := ⟨_, _, _, _, _, _⟩) (v := ?_) rfl (by kernel_rfl) (by kernel_rfl) (by kernel_rfl) (fun _ _ _ h => h) (Or.inl ⟨by rfl, ?_⟩) (by assumption) ?_
      rotate_left
      · intro w hSw
        go_simp
        all_goals with_reducible rfl
      simp only [Act.put, List.setIfInBounds_toArray, List.set_cons_zero, List.set_cons_succ]
      refine wpAnyH_take (i := 15) (oi := ⟨_, _, _, _, _, _⟩) (v := ?_) rfl (by kernel_rfl) (by kernel_rfl) (by kernel_rfl) (fun _ _ _ h => h) (Or.inl ⟨by rfl, ?_⟩) (by assumption) ?_
      rotate_left
      · intro w hSw
        go_simp
        all_goals with_reducible rfl
      simp only [Act.put, List.setIfInBounds_toArray, List.set_cons_zero, List.set_cons_succ]
      refine wpAnyH_take (i := 16) (oi := ⟨_, _, _, _, _, _⟩) (v := ?_) rfl (by kernel_rfl) (by kernel_rfl) (by kernel_rfl) (fun _ _ _ h => h) (Or.inl ⟨by rfl, ?_⟩) (by assumption) ?_
      rotate_left
      · intro w hSw
        go_simp
        all_goals with_reducible rfl
      simp only [Act.put, List.setIfInBounds_toArray, List.set_cons_zero, List.set_cons_succ]
      refine wpAnyH_done (by kernel_rfl) ?_ _
      go_wp2_with fail
      go_meet
      exact Lib.hid ⟨nG, rfl, HRB.out, hHeld.2.1, hHeld.2.2, HO2.out⟩
  case rest =>
    obtain ⟨nG, rfl, hG, h16, hbw, hbs⟩ := hcut.out
    have HIW := Lib.hid (HIB3.out.below hbw)
    have HL16 := Lib.hid (row_cells (show wc.heap[n16]? = _ from h16))
    have HG := Lib.hid hG
    have HBW := Lib.hid hbw
    have HBS := Lib.hid hbs
    clear hcut hG h16 hbw hbs HK16
    go_wp2_with (first | ((with_reducible refine wpList_load_want (o := ⟨some 99, _, _, _, _, _⟩) ?_ 52 (.tmp 16) ?_ n16 0 ?_ _ _ HL16.out Try.underlying52 ?_ ?_ ?_); rfl; rfl; rfl; rfl; kernel_rfl))
    refine (HVAL.out _).mono ?_
    rintro e w20 ⟨rfl, hx⟩
    have hG2 := HG.out.below hx HG.out.lt
    have d6 : w20.cell? ⟨nG, 6, none⟩ = some (.int .i64 v0) := hG2.cell 6
    have d7 : w20.cell? ⟨nG, 7, none⟩ = some (.int .i64 v1) := hG2.cell 7
    have d8 : w20.cell? ⟨nG, 8, none⟩ = some (.int .i64 v2) := hG2.cell 8
    have d9 : w20.cell? ⟨nG, 9, none⟩ = some (.int .i64 0) := hG2.cell 9
    have d10 : w20.cell? ⟨nG, 10, none⟩ = some (.int .i64 0) := hG2.cell 10
    have d11 : w20.cell? ⟨nG, 11, none⟩ = some (.int .i64 0) := hG2.cell 11
    have HB20 := Lib.hid (HBW.out.trans (hx.mono HBW.out.size))
    have HIA := Lib.hid (HBS.out.below hx)
    have HIC := Lib.hid (HIW.out.below hx)
    have e1 : v1 + v0 + v2 = sm := HWL.out.1
    have e2 := HWL.out.2.1
    have e3 := HWL.out.2.2.1
    have e4 := HWL.out.2.2.2
    have e5 : IntKind.i64.wrap (v1 + v0) = v1 + v0 := IntWalk.i64_in _ (by omega)
    have e6 : IntKind.i64.wrap (v1 + v0 + v2) = sm := by rw [e1]; exact IntWalk.i64_in _ (by omega)
    obtain ⟨A20, c20, hv20⟩ := HIA.out.slice
    rw [List.length_map, ← HNB.out] at hv20
    subst hv20
    clear hx hG2 HG HBW HBS HIW HL16
    go_wp2_with fail
    refine (sameBalances_eq _ _ bq w20 (by have := HLEN.out.2; omega) HIA.out HIC.out).mono ?_
    rintro e w21 ⟨rfl, hx⟩
    have HBE := Lib.hid (HBW3.out.trans ((HB20.out.trans (hx.mono HB20.out.size)).mono HBW3.out.size))
    clear hx e1 e2 e3 e4 e5 e6 d6 d7 d8 d9 d10 d11
    go_wp2_with fail
    go_ret
    exact ⟨rfl, HBE.out⟩
end Go.Proofs.Ytejkgnlflhngbaa
