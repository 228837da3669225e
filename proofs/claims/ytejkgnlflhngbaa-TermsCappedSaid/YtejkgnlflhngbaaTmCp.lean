/- TermsCapped returns true. -/
import Derived.Test.YtejkgnlflhngbaaTmZ
import Derived.Test.YtejkgnlflhngbaaTmPp
import Derived.Test.YtejkgnlflhngbaaTmPl
namespace Go.Proofs.Ytejkgnlflhngbaa
open Go Go.RowKit Go.Lib Go.Shelf Go.Maps

def capA (l : List TermV) (k : Nat) : Bool := (l.take k).any fun t => validT t && t.k == 4
theorem capA_succ {l : List TermV} {k : Nat} {t : TermV} (h : l[k]? = some t) : capA l (k + 1) = (capA l k || (validT t && t.k == 4)) := by
  unfold capA
  rw [List.take_add_one, h]
  simp
theorem owedN_succ {l : List (Int × Int)} {k : Nat} {b : Int × Int} (h : l[k]? = some b) : owedN (l.take (k + 1)) = min (owedN (l.take k) + max (min b.2 1152921504606846976) 0) 1152921504606846976 := by
  unfold owedN
  rw [List.take_add_one, h, List.foldl_append]
  rfl
theorem owedN_bd (l : List (Int × Int)) : 0 ≤ owedN l ∧ owedN l ≤ 1152921504606846976 := by
  rw [owedN_eq]
  have := sumPos_nonneg l
  omega
theorem IRows.get {k : Nat} {w : World} {A : Option Addr} {n c : Nat} {L : List (List Int)} (h : IRows k w (.slice A n c) L) {i : Nat} {r : List Int} (hr : L[i]? = some r) :
    ∃ b o, A = some ⟨b, o, none⟩ ∧ b < w.heap.size ∧ ∀ (j : Nat) x, r[j]? = some x → w.cell? ⟨b, o + i * k + j, none⟩ = some (.int .i64 x) := by
  rcases h.2 with ⟨h0, _⟩ | ⟨b, o, c, he, hlt, hc⟩
  · rw [h0] at hr; simp at hr
  · simp only [Value.slice.injEq] at he
    exact ⟨b, o, he.1, hlt, fun j x hx => hc i r hr j x hx⟩
theorem TermsAt.get {w : World} {A : Option Addr} {n c : Nat} {L : List TermV} (h : TermsAt w (.slice A n c) L) {i : Nat} {t : TermV} (hr : L[i]? = some t) :
    ∃ b o va, A = some ⟨b, o, none⟩ ∧ b < w.heap.size ∧ IntsL w va t.acc ∧ ∀ (j : Nat) x, (termC t va)[j]? = some x → w.cell? ⟨b, o + i * 5 + j, none⟩ = some x := by
  rcases h with ⟨h0, _⟩ | ⟨b, o, c, he, hlt, hc⟩
  · rw [h0] at hr; simp at hr
  · simp only [Value.slice.injEq] at he
    obtain ⟨va, h1, h2⟩ := hc i t hr
    exact ⟨b, o, va, he.1, hlt, h1, h2⟩
theorem TermsAt.count {w : World} {A : Option Addr} {n c : Nat} {L : List TermV} (h : TermsAt w (.slice A n c) L) : n = L.length := by
  obtain ⟨A', c', e⟩ := h.slice
  simp only [Value.slice.injEq] at e
  exact e.2.1
set_option maxRecDepth 100000 in
set_option maxHeartbeats 8000000 in
theorem capped_yes (A : Option Addr) (n c : Nat) (l : List TermV) (y0 y1 y2 y3 : Int) (A4 : Option Addr) (n4 c4 : Nat) (bs : List (Int × Int)) (w : World)
    (ht : TermsIn w (.slice A n c) l) (hn : l.length = n) (hl : n ≤ 140737488351232) (hok : ∀ t ∈ l, (∀ x ∈ [t.k, t.n, t.m, t.ab], -9223372036854775808 ≤ x ∧ x ≤ 9223372036854775807) ∧ (∀ x ∈ t.acc, -9223372036854775808 ≤ x ∧ x ≤ 9223372036854775807)) (hal : ∀ t ∈ l, t.acc.length ≤ 9223372036854775807)
    (hb : IRows 2 w (.slice A4 n4 c4) (bs.map p2)) (hn4 : bs.length = n4) (hl4 : n4 ≤ 140737488351232) (hc4 : n4 ≤ c4) (hbb : ∀ b ∈ bs, (-9223372036854775808 ≤ b.1 ∧ b.1 ≤ 9223372036854775807) ∧ -9223372036854775808 ≤ b.2 ∧ b.2 ≤ 9223372036854775807)
    (b0 : I64 y0) (b1 : I64 y1) (b2 : I64 y2) (b3 : I64 y3) :
    Calls Try.prog 7 #[.slice A n c, .agg #[.int .i64 y0, .int .i64 y1, .int .i64 y2, .int .i64 y3], .slice A4 n4 c4] w fun e w' => e = .returned (.bool true) ∧ Below w.heap.size w w' := by
  have HT := Lib.hid ht
  have HFEW := Lib.hid (fun W (h2 : TermsIn W (.slice A n c) l) => few_any A n c l W h2 hn hl hal)
  have HSOME := Lib.hid (fun W (h : Below w.heap.size w W) => some_any A4 n4 c4 bs W (hb.below h) hn4 hl4 hc4)
  have HTOK := Lib.hid (few_ok hok)
  have hbb2 : ∀ b ∈ bs.take 12, (-9223372036854775808 ≤ b.1 ∧ b.1 ≤ 9223372036854775807) ∧ -9223372036854775808 ≤ b.2 ∧ b.2 ≤ 9223372036854775807 := fun b h => hbb b (List.mem_of_mem_take h)
  have HBOK := Lib.hid hbb2
  have HLEN : Hid ((fewT l).length ≤ 1000 ∧ (bs.take 12).length ≤ 12) := Lib.hid ⟨few_len l, by rw [List.length_take]; omega⟩
  have OPN := Lib.hid (fun W => open_any y0 y1 y2 y3 5 3 W b0 b1 b2 b3 ⟨by omega, by omega⟩)
  have hopen := openRow_open y0 y1 y2 y3 5 3
  have hz := pickN_bd 3 1200 (by omega)
  unfold openRow rowC at OPN
  unfold openRow at hopen
  dsimp only at OPN
  obtain ⟨z0, ez0⟩ : ∃ z, pickN 3 1200 = z := ⟨_, rfl⟩
  obtain ⟨z1, ez1⟩ : ∃ z, pickN y0 1000000000000001 = z := ⟨_, rfl⟩
  obtain ⟨z2, ez2⟩ : ∃ z, pickN y1 100000001 = z := ⟨_, rfl⟩
  obtain ⟨z3, ez3⟩ : ∃ z, pickN y2 100000001 = z := ⟨_, rfl⟩
  obtain ⟨z4, ez4⟩ : ∃ z, pickN y3 100001 = z := ⟨_, rfl⟩
  rw [ez0, ez1, ez2, ez3, ez4] at OPN hopen
  rw [ez0] at hz
  have HPQ : Hid (0 ≤ z0 ∧ z0 < 1200) := Lib.hid hz
  have hlaw := capped_law (R := ⟨5, z0, z1, z2, z3, z4⟩) (fewT l) (bs.take 12) hopen
  obtain ⟨S, hS⟩ : ∃ z, runS (fewT l) ⟨5, z0, z1, z2, z3, z4⟩ (bs.take 12) = z := ⟨_, rfl⟩
  rw [hS] at hlaw
  dsimp only at hlaw
  have hV : settleSpec (fewT l) ⟨5, z0, z1, z2, z3, z4⟩ (bs.take 12) = ⟨S.pa, S.ta, S.re, S.ro, paidOf S, carriedOf S, S.ps, S.rs, S.bs⟩ := by unfold settleSpec; rw [if_pos hopen]; dsimp only; rw [hS]
  obtain ⟨v0, ev0⟩ : ∃ z, S.pa = z := ⟨_, rfl⟩
  obtain ⟨v1, ev1⟩ : ∃ z, S.ta = z := ⟨_, rfl⟩
  obtain ⟨v2, ev2⟩ : ∃ z, S.re = z := ⟨_, rfl⟩
  obtain ⟨v3, ev3⟩ : ∃ z, S.ro = z := ⟨_, rfl⟩
  obtain ⟨v4, ev4⟩ : ∃ z, paidOf S = z := ⟨_, rfl⟩
  obtain ⟨v5, ev5⟩ : ∃ z, carriedOf S = z := ⟨_, rfl⟩
  obtain ⟨vbs, evb⟩ : ∃ z, S.bs = z := ⟨_, rfl⟩
  rw [ev0, ev1, ev2, ev3, ev4, ev5, evb] at hV
  rw [ev3, ev4, ev5, evb] at hlaw
  have HV := Lib.hid hV
  have HLAW := Lib.hid hlaw
  clear ht hn hl hok hal hb hn4 hl4 hc4 hbb hbb2 b0 b1 b2 b3 hz hopen ez0 ez1 ez2 ez3 ez4 hlaw hS hV ev0 ev1 ev2 ev3 ev4 ev5 evb
  go_enter Try.func7, Try.ntmps7
  go_wp2_with fail
  refine (sane_yes _).mono ?_
  rintro e w1 ⟨rfl, hx1⟩
  have r1 : RowAt w1 w.heap.size 25 #[.int .i64 y0, .int .i64 y1, .int .i64 y2, .int .i64 y3] := (RowAt.new w _ _).below hx1 (by simp)
  have bw1 : Below w.heap.size w w1 := ((Below.refl _ _).alloc (Nat.le_refl _) _).trans (hx1.mono (by simp))
  have HR1 := Lib.hid (And.intro r1 bw1)
  clear r1 bw1 hx1
  go_wp2_with fail
  refine (HFEW.out w1 (HT.out.below HR1.out.2)).mono ?_
  rintro e w2 ⟨vl, L, rfl, hL, howl, hx⟩
  obtain ⟨Al, nl, cl, rfl⟩ := howl.slice3
  have htl := howl.terms
  rw [hL] at htl
  have HTL2 := Lib.hid htl
  have HR2 := Lib.hid (And.intro (HR1.out.1.below hx HR1.out.1.lt) (HR1.out.2.trans (hx.mono HR1.out.2.size)))
  clear hL howl hx htl HR1
  go_wp2_with fail
  refine (HSOME.out w2 HR2.out.2).mono ?_
  rintro e w3 ⟨vb, rfl, hob, hx⟩
  obtain ⟨Ab, nb, cb, rfl⟩ := hob.slice3
  have hnb : nb = (bs.take 12).length := by have := hob.count; rw [List.length_map] at this; exact this
  obtain ⟨bq, hbq⟩ : ∃ z, bs.take 12 = z := ⟨_, rfl⟩
  rw [hbq] at hob hnb HBOK HLEN HLAW HV
  have HIB3 := Lib.hid hob.rows
  have HTL3 := Lib.hid (HTL2.out.below hx)
  have r3 := HR2.out.1.below hx HR2.out.1.lt
  have HBW3 := Lib.hid (HR2.out.2.trans (hx.mono HR2.out.2.size))
  have HNB := Lib.hid hnb
  have g0 : w3.cell? ⟨w.heap.size, 0, none⟩ = some (.int .i64 y0) := r3.cell 0
  have g1 : w3.cell? ⟨w.heap.size, 1, none⟩ = some (.int .i64 y1) := r3.cell 1
  have g2 : w3.cell? ⟨w.heap.size, 2, none⟩ = some (.int .i64 y2) := r3.cell 2
  have g3 : w3.cell? ⟨w.heap.size, 3, none⟩ = some (.int .i64 y3) := r3.cell 3
  clear hob hx HR2 HTL2 r3 hnb hbq
  go_wp2_with fail
  refine (OPN.out w3).mono ?_
  rintro e w4 ⟨rfl, hx⟩
  have HX4 := Lib.hid hx
  clear hx g0 g1 g2 g3
  obtain ⟨q, hq⟩ : ∃ z, fewT l = z := ⟨_, rfl⟩
  rw [hq] at HTL3 HTOK HLEN HLAW HV
  clear hq
  go_wp2_with (first | ((with_reducible refine wpList_store_new (o := ⟨none, .store _ _ _, _, _, _, _⟩) ?_ 24 (.tmp 8) (.tmp 23) ?_ ?_ _ #[.int .i64 5, .int .i64 z0, .int .i64 z1, .int .i64 z2, .int .i64 z3, .int .i64 z4, .int .i64 0, .int .i64 0, .int .i64 0, .int .i64 0, .int .i64 0, .int .i64 0] ?_ ?_ ?_ ?_ ?_); rfl; rfl; rfl; rfl; kernel_rfl; rfl; kernel_rfl) | ((with_reducible refine wpList_stop (o := ⟨some 26, _, _, _, _, _⟩) ?_)))
  unfold Stop
  obtain ⟨W5, hW5⟩ : ∃ z, w4.alloc (.cells #[.int .i64 5, .int .i64 z0, .int .i64 z1, .int .i64 z2, .int .i64 z3, .int .i64 z4, .int .i64 0, .int .i64 0, .int .i64 0, .int .i64 0, .int .i64 0, .int .i64 0] 24) = z := ⟨_, rfl⟩
  have b5 : Below w3.heap.size w3 W5 := by rw [← hW5]; exact HX4.out.alloc HX4.out.size _
  have r5 : RowAt W5 w4.heap.size 24 #[.int .i64 5, .int .i64 z0, .int .i64 z1, .int .i64 z2, .int .i64 z3, .int .i64 z4, .int .i64 0, .int .i64 0, .int .i64 0, .int .i64 0, .int .i64 0, .int .i64 0] := by rw [← hW5]; exact RowAt.new w4 _ _
  rw [hW5]
  clear hW5
  obtain ⟨n12, hn12⟩ : ∃ z, w4.heap.size = z := ⟨_, rfl⟩
  rw [hn12] at r5 ⊢
  clear hn12
  have HB5 := Lib.hid b5
  have HL5 := Lib.hid (row_cells (show W5.heap[n12]? = _ from r5))
  clear b5 r5 HX4
  go_wp2_with (first | ((with_reducible refine wpList_load_at (o := ⟨some 26, _, _, _, _, _⟩) ?_ 24 (.tmp 8) ?_ n12 0 ?_ _ _ HL5.out Try.underlying24 ?_ ?_ ?_); rfl; rfl; rfl; rfl; kernel_rfl))
  refine (settle_any q ⟨5, z0, z1, z2, z3, z4⟩ bq (.slice Al nl cl) (.slice Ab nb cb) 0 0 0 0 0 0 W5 (HTL3.out.below HB5.out) HTOK.out HLEN.out.1 (HIB3.out.below HB5.out) (by have := HLEN.out.2; omega) HBOK.out (by have := HPQ.out; dsimp only; omega)).mono ?_
  rintro e w6 ⟨vp, vr, vo, rfl, hps, hrs, hbs, hx⟩
  rw [HV.out] at hbs ⊢
  unfold ResV.row rowC
  dsimp only at hbs ⊢
  obtain ⟨Ao, no, co, rfl⟩ := hbs.slice3
  have hno : no = nb := by have h1 := hbs.count; rw [List.length_map, HLAW.out.2.2.2.2, ← HNB.out] at h1; exact h1
  subst hno
  have HB6 := Lib.hid (HB5.out.trans (hx.mono HB5.out.size))
  have HBS := Lib.hid hbs.rows
  clear hps hrs hbs hx HL5
  go_wp2_with (first | ((with_reducible refine wpList_store_new (o := ⟨none, .store _ _ _, _, _, _, _⟩) ?_ 24 (.tmp 9) (.tmp 29) ?_ ?_ _ #[.int .i64 5, .int .i64 z0, .int .i64 z1, .int .i64 z2, .int .i64 z3, .int .i64 z4, .int .i64 v0, .int .i64 v1, .int .i64 v2, .int .i64 v3, .int .i64 v4, .int .i64 v5] ?_ ?_ ?_ ?_ ?_); rfl; rfl; rfl; rfl; kernel_rfl; rfl; kernel_rfl))
  obtain ⟨W7, hW7⟩ : ∃ z, w6.alloc (.cells #[.int .i64 5, .int .i64 z0, .int .i64 z1, .int .i64 z2, .int .i64 z3, .int .i64 z4, .int .i64 v0, .int .i64 v1, .int .i64 v2, .int .i64 v3, .int .i64 v4, .int .i64 v5] 24) = z := ⟨_, rfl⟩
  have b67 : Below w6.heap.size w6 W7 := by rw [← hW7]; exact (Below.refl _ _).alloc (Nat.le_refl _) _
  have r9 : RowAt W7 w6.heap.size 24 #[.int .i64 5, .int .i64 z0, .int .i64 z1, .int .i64 z2, .int .i64 z3, .int .i64 z4, .int .i64 v0, .int .i64 v1, .int .i64 v2, .int .i64 v3, .int .i64 v4, .int .i64 v5] := by rw [← hW7]; exact RowAt.new w6 _ _
  rw [hW7]
  clear hW7
  obtain ⟨nG, hnG⟩ : ∃ z, w6.heap.size = z := ⟨_, rfl⟩
  rw [hnG] at r9 ⊢
  clear hnG
  have hB7 := HB6.out.trans (b67.mono HB6.out.size)
  have HK7 := Lib.hid (And.intro r9 (And.intro hB7 (And.intro (HTL3.out.below hB7) (And.intro (HIB3.out.below hB7) (HBS.out.below b67)))))
  have hnl : nl = q.length := HTL3.out.count
  have HNL := Lib.hid hnl
  have hnl12 : nl ≤ 1000 := by rw [hnl]; exact HLEN.out.1
  have hnb12 : no ≤ 12 := by rw [HNB.out]; exact HLEN.out.2
  clear r9 b67 hB7 HB6 HBS HB5 HTL3 HIB3 hnl
  go_loopw [13, 14] (fun cv iv wr => ∃ k : Nat, k ≤ nl ∧ iv = .int .i64 k ∧ cv = .bool (capA q k) ∧ Hid (Below W7.heap.size W7 wr)) (fun _ i _ => nl - (intOf i).toNat)
  case atStart => exact ⟨0, by omega, rfl, rfl, Lib.hid (Below.refl _ _)⟩
  case round =>
    obtain ⟨k, hk, rfl, rfl, HBR⟩ := hrel
    by_cases hk2 : k < nl
    · obtain ⟨t, hf0⟩ : ∃ f, q[k]? = some f := ⟨_, List.getElem?_eq_getElem (by rw [← HNL.out]; exact hk2)⟩
      have hmem := List.mem_of_getElem? hf0
      have htok := HTOK.out t hmem
      have hcs := capA_succ hf0
      have hpay := HLAW.out.1 t hmem
      obtain ⟨b1, o1, va, hA1, hlt1, hva, h1⟩ := HK7.out.2.2.1.get hf0
      subst hA1
      have hcell : ∀ (j : Nat) x, (termC t va)[j]? = some x → wr.cell? ⟨b1, o1 + k * 5 + j, none⟩ = some x := fun j x hx => (HBR.out.cell (p := ⟨b1, o1 + k * 5 + j, none⟩) hlt1).trans (h1 j x hx)
      have HVAL := Lib.hid (validC_any t va wr htok.2.2 (hva.below HBR.out) htok.2.1)
      obtain ⟨xk, hxk⟩ : ∃ z, t.k = z := ⟨_, rfl⟩
      obtain ⟨xn, hxn⟩ : ∃ z, t.n = z := ⟨_, rfl⟩
      obtain ⟨xm, hxm⟩ : ∃ z, t.m = z := ⟨_, rfl⟩
      obtain ⟨xa, hxa⟩ : ∃ z, t.ab = z := ⟨_, rfl⟩
      obtain ⟨vt, hvt⟩ : ∃ z, validT t = z := ⟨_, rfl⟩
      rw [show termC t va = #[.int .i64 xk, .int .i64 xn, .int .i64 xm, .int .i64 xa, va] by unfold termC; rw [hxk, hxn, hxm, hxa]] at hcell HVAL
      rw [hxk, hvt] at hcs
      rw [hxk, hvt, hxn] at hpay
      rw [hvt] at HVAL
      have c0 : wr.cell? ⟨b1, o1 + k * 5, none⟩ = some (.int .i64 xk) := hcell 0 _ rfl
      have c1 : wr.cell? ⟨b1, o1 + k * 5 + 1, none⟩ = some (.int .i64 xn) := hcell 1 _ rfl
      obtain ⟨ca, hca⟩ : ∃ z, capA q k = z := ⟨_, rfl⟩
      rw [hca] at hcs ⊢
      have HCELL := Lib.hid hcell
      have HCS := Lib.hid hcs
      have HPAY := Lib.hid hpay
      have c10 : wr.cell? ⟨nG, 10, none⟩ = some (.int .i64 v4) := (HBR.out.cell (p := ⟨nG, 10, none⟩) HK7.out.1.lt).trans (HK7.out.1.cell 10)
      have HC1 := Lib.hid (And.intro c1 c10)
      clear hf0 hmem htok hcs hpay h1 hcell hva hxk hxn hxm hxa hvt hca c10
      by_cases h4 : xk = 4
      · subst h4
        go_wp2_with (first | ((with_reducible refine wpList_load_want (o := ⟨some 49, _, _, _, _, _⟩) ?_ 52 (.tmp 48) ?_ b1 (o1 + k * 5) ?_ _ _ HCELL.out Try.underlying52 ?_ ?_ ?_); rfl; rfl; rfl; rfl; kernel_rfl))
        refine HVAL.out.mono ?_
        rintro e w8 ⟨rfl, hx⟩
        have HB8 := Lib.hid (HBR.out.trans (hx.mono HBR.out.size))
        have d1 : w8.cell? ⟨b1, o1 + k * 5 + 1, none⟩ = some (.int .i64 xn) := (hx.cell (p := ⟨b1, o1 + k * 5 + 1, none⟩) (Nat.lt_of_lt_of_le hlt1 HBR.out.size)).trans HC1.out.1
        have d10 : w8.cell? ⟨nG, 10, none⟩ = some (.int .i64 v4) := (hx.cell (p := ⟨nG, 10, none⟩) (Nat.lt_of_lt_of_le HK7.out.1.lt HBR.out.size)).trans HC1.out.2
        clear hx c0 c1
        cases vt
        · go_wp2_with fail
          go_roundw
          case rel => exact ⟨k + 1, by omega, by go_num, by rw [HCS.out]; simp, Lib.hid HB8.out⟩
          case measure => simp [intOf]; omega
        · have hle := HPAY.out rfl
          have hdec : decide (xn < v4) = false := by simp; omega
          clear hle
          go_wp2_with fail
          go_quiet (fail)
          go_wp2_with fail
          go_roundw
          case rel => exact ⟨k + 1, by omega, by go_num, by rw [HCS.out]; simp, Lib.hid (below_drewN HB8.out _)⟩
          case measure => simp [intOf]; omega
      · have e4 : (xk == 4) = false := by simpa using h4
        go_wp2_with fail
        go_roundw
        case rel => exact ⟨k + 1, by omega, by go_num, by rw [HCS.out, e4]; simp, Lib.hid HBR.out⟩
        case measure => simp [intOf]; omega
    · obtain rfl : k = nl := by omega
      have hcap : capA q k = q.any fun t => validT t && t.k == 4 := by unfold capA; rw [List.take_of_length_le (by rw [← HNL.out]; omega)]
      have hcar := HLAW.out.2.1
      rw [← hcap] at hcar
      obtain ⟨ca, hca⟩ : ∃ z, capA q k = z := ⟨_, rfl⟩
      rw [hca] at hcar ⊢
      have HCAR := Lib.hid hcar
      have hB8 := HK7.out.2.1.trans (HBR.out.mono HK7.out.2.1.size)
      have HK8 := Lib.hid (And.intro (HK7.out.1.below HBR.out HK7.out.1.lt) (And.intro hB8 (And.intro (HK7.out.2.2.2.1.below HBR.out) (HK7.out.2.2.2.2.below HBR.out))))
      obtain ⟨W8, hW8⟩ : ∃ z, wr = z := ⟨_, rfl⟩
      rw [hW8] at HK8 ⊢
      clear hcap hcar hca hB8 HBR HK7 hW8
      go_wp2_with fail
      go_loopw [15, 16] (fun ov iv wr => ∃ k : Nat, k ≤ no ∧ iv = .int .i64 k ∧ ov = .int .i64 (owedN (bq.take k)) ∧ Hid (Below W8.heap.size W8 wr)) (fun _ i _ => no - (intOf i).toNat)
      case atStart => exact ⟨0, by omega, rfl, rfl, Lib.hid (Below.refl _ _)⟩
      case round =>
        obtain ⟨k, hk, rfl, rfl, HBR⟩ := hrel
        by_cases hk2 : k < no
        · obtain ⟨⟨x, y⟩, hf0⟩ : ∃ f, bq[k]? = some f := ⟨_, List.getElem?_eq_getElem (by rw [← HNB.out]; exact hk2)⟩
          obtain ⟨⟨x', y'⟩, hf1⟩ : ∃ f, vbs[k]? = some f := ⟨_, List.getElem?_eq_getElem (by rw [HLAW.out.2.2.2.2, ← HNB.out]; exact hk2)⟩
          have hsame := HLAW.out.2.2.2.1 k _ _ hf0 hf1
          dsimp only at hsame
          obtain ⟨b1, o1, hA1, hlt1, h1⟩ := HK8.out.2.2.1.get (show (bq.map p2)[k]? = some [x, y] by rw [List.getElem?_map, hf0]; rfl)
          obtain ⟨b2, o2, hA2, hlt2, h2⟩ := HK8.out.2.2.2.get (show (vbs.map p2)[k]? = some [x', y'] by rw [List.getElem?_map, hf1]; rfl)
          subst hA1 hA2
          have ca0 := (HBR.out.cell (p := ⟨b1, o1 + k * 2, none⟩) hlt1).trans (h1 0 x rfl)
          have ca1 := (HBR.out.cell (p := ⟨b1, o1 + k * 2 + 1, none⟩) hlt1).trans (h1 1 y rfl)
          have cb0 := (HBR.out.cell (p := ⟨b2, o2 + k * 2, none⟩) hlt2).trans (h2 0 x' rfl)
          have cb1 := (HBR.out.cell (p := ⟨b2, o2 + k * 2 + 1, none⟩) hlt2).trans (h2 1 y' rfl)
          have hos := owedN_succ hf0
          have hob := owedN_bd (bq.take k)
          obtain ⟨s, hs⟩ : ∃ s, owedN (bq.take k) = s := ⟨_, rfl⟩
          rw [hs] at hos hob ⊢
          dsimp only at hos
          obtain ⟨p, hp⟩ : ∃ z, min y 1152921504606846976 = z := ⟨_, rfl⟩
          obtain ⟨u, hu⟩ : ∃ z, max p 0 = z := ⟨_, rfl⟩
          rw [hp, hu] at hos
          have m1 : (if 1152921504606846976 < y then 1152921504606846976 else y) = p := by rw [← hp]; split <;> omega
          have m2 : (if p < 0 then 0 else p) = u := by rw [← hu]; split <;> omega
          have m3 : (if 1152921504606846976 < s + u then 1152921504606846976 else s + u) = min (s + u) 1152921504606846976 := by split <;> omega
          have hu0 : 0 ≤ u := by omega
          have hu1 : u ≤ 1152921504606846976 := by omega
          have hs0 := hob.1
          have hs1 := hob.2
          obtain ⟨r, hr⟩ : ∃ z, min (s + u) 1152921504606846976 = z := ⟨_, rfl⟩
          rw [hr] at m3 hos
          have HPU := Lib.hid (And.intro hp (And.intro hu hr))
          have HTT := Lib.hid hos
          have HSAME := Lib.hid hsame
          clear hf0 hf1 h1 h2 hos hob hs hp hu hr hsame
          by_cases hy : y ≤ 0
          · have hxy := HSAME.out hy
            simp only [Prod.mk.injEq] at hxy
            obtain ⟨rfl, rfl⟩ := hxy
            have e1 : decide (y' ≤ 0) = true := by simpa using hy
            have hnq := neq_sameBalances x' y'
            go_wp2_with fail
            go_quiet (fail)
            go_wp2_with fail
            go_roundw
            case rel => exact ⟨k + 1, by omega, by go_num, by rw [HTT.out]; congr 1; have := HPU.out; (repeat' split) <;> omega, Lib.hid (below_drewN HBR.out _)⟩
            case measure => simp [intOf]; omega
          · have e1 : decide (y ≤ 0) = false := by simpa using hy
            go_wp2_with fail
            go_quiet (fail)
            go_wp2_with fail
            go_roundw
            case rel => exact ⟨k + 1, by omega, by go_num, by rw [HTT.out]; congr 1; have := HPU.out; (repeat' split) <;> omega, Lib.hid (below_drewN HBR.out _)⟩
            case measure => simp [intOf]; omega
        · obtain rfl : k = no := by omega
          have how : v3 ≤ owedN (bq.take k) := by rw [List.take_of_length_le (by rw [← HNB.out]; omega)]; exact HLAW.out.2.2.1
          obtain ⟨ow, hoq⟩ : ∃ z, owedN (bq.take k) = z := ⟨_, rfl⟩
          rw [hoq] at how ⊢
          have hdow : decide (v3 ≤ ow) = true := by simpa using how
          have d9 : wr.cell? ⟨nG, 9, none⟩ = some (.int .i64 v3) := (HBR.out.cell (p := ⟨nG, 9, none⟩) HK8.out.1.lt).trans (HK8.out.1.cell 9)
          have d11 : wr.cell? ⟨nG, 11, none⟩ = some (.int .i64 v5) := (HBR.out.cell (p := ⟨nG, 11, none⟩) HK8.out.1.lt).trans (HK8.out.1.cell 11)
          have HBE := Lib.hid (HBW3.out.trans ((HK8.out.2.1.trans (HBR.out.mono HK8.out.2.1.size)).mono HBW3.out.size))
          clear hoq how
          cases ca
          · have h5 := HCAR.out rfl
            go_wp2_with fail
            go_ret
            exact ⟨rfl, HBE.out⟩
          · go_wp2_with fail
            go_ret
            exact ⟨rfl, HBE.out⟩
end Go.Proofs.Ytejkgnlflhngbaa
