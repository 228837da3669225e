/- TermsMatchesReference returns true. -/
import Derived.Test.YtejkgnlflhngbaaTmW
import Derived.Test.YtejkgnlflhngbaaTmX
namespace Go.Proofs.Ytejkgnlflhngbaa
open Go Go.RowKit Go.Lib Go.Shelf Go.Maps

theorem TermsIn.below {w w' : World} {v : Value} {l : List TermV} (h : TermsIn w v l) (hb : Below w.heap.size w w') : TermsIn w' v l := by
  rcases h with h0 | ⟨b, o, c, hv, hlt, hc⟩
  · exact .inl h0
  · refine .inr ⟨b, o, c, hv, Nat.lt_of_lt_of_le hlt hb.size, fun i t ht => ?_⟩
    obtain ⟨A, ca, h1, h2, h3⟩ := hc i t ht
    exact ⟨A, ca, h1.below hb, h2, fun j x hx => (hb.cell (p := ⟨b, o + i * 5 + j, none⟩) hlt).trans (h3 j x hx)⟩
theorem recAll_len : ∀ (l : List Int) (S : StV), (l.foldl recStep S).bs.length = S.bs.length
  | [], _ => rfl
  | a :: l, S => by
    refine (recAll_len l (recStep S a)).trans ?_
    unfold recStep
    split
    · rfl
    · split
      · rfl
      · simp
theorem step_len (h p : Int) (S : StV) (t : TermV) : (stepT h p S t).ps.length ≤ S.ps.length + 1 ∧ (stepT h p S t).rs.length ≤ S.rs.length + 1 ∧ (stepT h p S t).bs.length = S.bs.length := by
  unfold stepT
  split
  · unfold doTerm
    split
    · unfold passStep; dsimp only; rw [List.length_append]; refine ⟨?_, by omega, rfl⟩; split <;> simp
    · split
      · exact ⟨by unfold taxStep; dsimp only; omega, by unfold taxStep; dsimp only; omega, rfl⟩
      · split
        · unfold resStep; dsimp only; rw [List.length_append]; refine ⟨by omega, ?_, rfl⟩; split <;> simp
        · split
          · exact ⟨by unfold capStep; dsimp only; omega, by unfold capStep; dsimp only; omega, rfl⟩
          · have := recAll_lists t.acc S
            rw [this.1, this.2, recAll_len]
            exact ⟨by omega, by omega, rfl⟩
  · exact ⟨by omega, by omega, rfl⟩
theorem run_len (h p : Int) : ∀ (l : List TermV) (S : StV), (l.foldl (stepT h p) S).ps.length ≤ S.ps.length + l.length ∧ (l.foldl (stepT h p) S).rs.length ≤ S.rs.length + l.length ∧ (l.foldl (stepT h p) S).bs.length = S.bs.length
  | [], _ => ⟨by simp, by simp, rfl⟩
  | t :: l, S => by
    have h1 := run_len h p l (stepT h p S t)
    have h2 := step_len h p S t
    rw [List.foldl_cons, List.length_cons]
    exact ⟨by omega, by omega, by omega⟩
theorem settle_len (l : List TermV) (R : RowV) (bs : List (Int × Int)) : (settleSpec l R bs).ps.length ≤ l.length ∧ (settleSpec l R bs).rs.length ≤ l.length ∧ (settleSpec l R bs).bs.length = bs.length := by
  unfold settleSpec
  split
  · have := run_len R.h R.p l (startS R bs)
    unfold runS
    dsimp only
    simpa [startS] using this
  · simp
theorem row_eq (a0 a1 a2 a3 a4 a5 a6 a7 a8 a9 a10 a11 : Int) (w : World) : (Go.binOp .eql 24 (.agg #[.int .i64 a0, .int .i64 a1, .int .i64 a2, .int .i64 a3, .int .i64 a4, .int .i64 a5, .int .i64 a6, .int .i64 a7, .int .i64 a8, .int .i64 a9, .int .i64 a10, .int .i64 a11]) (.agg #[.int .i64 a0, .int .i64 a1, .int .i64 a2, .int .i64 a3, .int .i64 a4, .int .i64 a5, .int .i64 a6, .int .i64 a7, .int .i64 a8, .int .i64 a9, .int .i64 a10, .int .i64 a11])).run Try.prog w = .ok (.bool true) w := by
  simp [go_sem]
theorem few_len (l : List TermV) : (fewT l).length ≤ 1000 := by unfold fewT; rw [List.length_map, List.length_take]; omega
theorem few_ok {l : List TermV} (h : ∀ t ∈ l, (∀ x ∈ [t.k, t.n, t.m, t.ab], -9223372036854775808 ≤ x ∧ x ≤ 9223372036854775807) ∧ (∀ x ∈ t.acc, -9223372036854775808 ≤ x ∧ x ≤ 9223372036854775807)) : ∀ t ∈ fewT l, TermOk t := by
  intro t ht
  unfold fewT at ht
  obtain ⟨s, hs, rfl⟩ := List.mem_map.1 ht
  have h1 := h s (List.mem_of_mem_take hs)
  exact ⟨h1.1, fun x hx => h1.2 x (List.mem_of_mem_take hx), by unfold cutT; dsimp only; rw [List.length_take]; omega⟩
set_option maxRecDepth 100000 in
set_option maxHeartbeats 8000000 in
theorem matches_yes (A : Option Addr) (n c : Nat) (l : List TermV) (h p e rc rl b x6 x7 x8 x9 x10 x11 y0 y1 y2 y3 o0 o1 o2 o3 o4 o5 o6 o7 o8 o9 o10 o11 : Int) (raw : Bool) (A4 : Option Addr) (n4 c4 : Nat) (bs : List (Int × Int)) (w : World)
    (ht : TermsIn w (.slice A n c) l) (hn : l.length = n) (hl : n ≤ 140737488351232) (hok : ∀ t ∈ l, (∀ x ∈ [t.k, t.n, t.m, t.ab], -9223372036854775808 ≤ x ∧ x ≤ 9223372036854775807) ∧ (∀ x ∈ t.acc, -9223372036854775808 ≤ x ∧ x ≤ 9223372036854775807)) (hal : ∀ t ∈ l, t.acc.length ≤ 9223372036854775807)
    (hb : IRows 2 w (.slice A4 n4 c4) (bs.map p2)) (hn4 : bs.length = n4) (hl4 : n4 ≤ 140737488351232) (hc4 : n4 ≤ c4) (hbb : ∀ b ∈ bs, (-9223372036854775808 ≤ b.1 ∧ b.1 ≤ 9223372036854775807) ∧ -9223372036854775808 ≤ b.2 ∧ b.2 ≤ 9223372036854775807)
    (hp : I64 p) (b0 : I64 y0) (b1 : I64 y1) (b2 : I64 y2) (b3 : I64 y3) :
    Calls Try.prog 3 #[.slice A n c, .agg #[.int .i64 h, .int .i64 p, .int .i64 e, .int .i64 rc, .int .i64 rl, .int .i64 b, .int .i64 x6, .int .i64 x7, .int .i64 x8, .int .i64 x9, .int .i64 x10, .int .i64 x11], .agg #[.int .i64 y0, .int .i64 y1, .int .i64 y2, .int .i64 y3], .bool raw, .slice A4 n4 c4, .agg #[.int .i64 o0, .int .i64 o1, .int .i64 o2, .int .i64 o3, .int .i64 o4, .int .i64 o5, .int .i64 o6, .int .i64 o7, .int .i64 o8, .int .i64 o9, .int .i64 o10, .int .i64 o11]] w fun e w' => e = .returned (.bool true) ∧ Below w.heap.size w w' := by
  have HT := Lib.hid ht
  have HB := Lib.hid hb
  have HFEW := Lib.hid (fun W (h : Below w.heap.size w W) (h2 : TermsIn W (.slice A n c) l) => few_any A n c l W h2 hn hl hal)
  have HSOME := Lib.hid (fun W (h : Below w.heap.size w W) => some_any A4 n4 c4 bs W (hb.below h) hn4 hl4 hc4)
  have HTOK := Lib.hid (few_ok hok)
  have HBOK : Hid (∀ b ∈ bs.take 12, (-9223372036854775808 ≤ b.1 ∧ b.1 ≤ 9223372036854775807) ∧ -9223372036854775808 ≤ b.2 ∧ b.2 ≤ 9223372036854775807) := Lib.hid fun b h => hbb b (List.mem_of_mem_take h)
  have HLEN : Hid ((fewT l).length ≤ 1000 ∧ (bs.take 12).length ≤ 1000) := Lib.hid ⟨few_len l, by rw [List.length_take]; omega⟩
  have PK := Lib.hid (fun W => pick_any p 1200 W hp.1 hp.2 (by omega) (by omega))
  have hpb := pickN_bd p 1200 (by omega)
  obtain ⟨q, hq⟩ : ∃ z, pickN p 1200 = z := ⟨_, rfl⟩
  rw [hq] at PK hpb
  have HPQ0 : Hid (0 ≤ q ∧ q < 1200) := Lib.hid hpb
  have OPN := Lib.hid (fun W => open_any y0 y1 y2 y3 h q W b0 b1 b2 b3 ⟨by omega, by omega⟩)
  unfold openRow rowC at OPN
  dsimp only at OPN
  have hz := pickN_bd q 1200 (by omega)
  obtain ⟨z0, hz0⟩ : ∃ z, pickN q 1200 = z := ⟨_, rfl⟩
  obtain ⟨z1, hz1⟩ : ∃ z, pickN y0 1000000000000001 = z := ⟨_, rfl⟩
  obtain ⟨z2, hz2⟩ : ∃ z, pickN y1 100000001 = z := ⟨_, rfl⟩
  obtain ⟨z3, hz3⟩ : ∃ z, pickN y2 100000001 = z := ⟨_, rfl⟩
  obtain ⟨z4, hz4⟩ : ∃ z, pickN y3 100001 = z := ⟨_, rfl⟩
  rw [hz0, hz1, hz2, hz3, hz4] at OPN
  rw [hz0] at hz
  have HPQ1 : Hid (0 ≤ z0 ∧ z0 < 1200) := Lib.hid hz
  clear hz hz0 hz1 hz2 hz3 hz4
  clear ht hn hl hok hal hb hn4 hl4 hc4 hbb hp b0 b1 b2 b3 hpb hq
  go_enter Try.func3, Try.ntmps3
  go_wp2_with fail
  refine (sane_yes _).mono ?_
  rintro e w1 ⟨rfl, hx1⟩
  have r0 : RowAt w1 w.heap.size 24 #[.int .i64 h, .int .i64 p, .int .i64 e, .int .i64 rc, .int .i64 rl, .int .i64 b, .int .i64 x6, .int .i64 x7, .int .i64 x8, .int .i64 x9, .int .i64 x10, .int .i64 x11] := (((RowAt.new w _ _).alloc _).alloc _).below hx1 (by simp; omega)
  have r1 : RowAt w1 (w.heap.size + 1) 25 #[.int .i64 y0, .int .i64 y1, .int .i64 y2, .int .i64 y3] := RowAt.below (C := w.heap.size + 3) (by have := (RowAt.new (w.alloc (.cells #[.int .i64 h, .int .i64 p, .int .i64 e, .int .i64 rc, .int .i64 rl, .int .i64 b, .int .i64 x6, .int .i64 x7, .int .i64 x8, .int .i64 x9, .int .i64 x10, .int .i64 x11] 24)) 25 #[.int .i64 y0, .int .i64 y1, .int .i64 y2, .int .i64 y3]).alloc (.cells #[.int .i64 o0, .int .i64 o1, .int .i64 o2, .int .i64 o3, .int .i64 o4, .int .i64 o5, .int .i64 o6, .int .i64 o7, .int .i64 o8, .int .i64 o9, .int .i64 o10, .int .i64 o11] 24); simpa using this) (hx1.mono (by simp)) (by omega)
  have r2 : RowAt w1 (w.heap.size + 2) 24 #[.int .i64 o0, .int .i64 o1, .int .i64 o2, .int .i64 o3, .int .i64 o4, .int .i64 o5, .int .i64 o6, .int .i64 o7, .int .i64 o8, .int .i64 o9, .int .i64 o10, .int .i64 o11] := RowAt.below (C := w.heap.size + 3) (by have := RowAt.new ((w.alloc (.cells #[.int .i64 h, .int .i64 p, .int .i64 e, .int .i64 rc, .int .i64 rl, .int .i64 b, .int .i64 x6, .int .i64 x7, .int .i64 x8, .int .i64 x9, .int .i64 x10, .int .i64 x11] 24)).alloc (.cells #[.int .i64 y0, .int .i64 y1, .int .i64 y2, .int .i64 y3] 25)) 24 #[.int .i64 o0, .int .i64 o1, .int .i64 o2, .int .i64 o3, .int .i64 o4, .int .i64 o5, .int .i64 o6, .int .i64 o7, .int .i64 o8, .int .i64 o9, .int .i64 o10, .int .i64 o11]; simpa using this) (hx1.mono (by simp)) (by omega)
  have bw1 : Below w.heap.size w w1 := ((((Below.refl _ _).alloc (Nat.le_refl _) _).alloc (by simp) _).alloc (by simp; omega) _).trans (hx1.mono (by simp; omega))
  clear hx1
  obtain ⟨n0, hn0⟩ : ∃ z, w.heap.size = z := ⟨_, rfl⟩
  have HN0 := Lib.hid hn0
  have HR1 := Lib.hid (And.intro r0 (And.intro r1 (And.intro r2 bw1)))
  clear r0 r1 r2 bw1 hn0
  go_wp2_with fail
  refine (HFEW.out w1 HR1.out.2.2.2 (HT.out.below HR1.out.2.2.2)).mono ?_
  rintro e w2 ⟨vl, L, rfl, hL, howl, hx⟩
  obtain ⟨Al, nl, cl, rfl⟩ := howl.slice3
  have HL := Lib.hid hL
  have HB1L := Lib.hid (show w.heap.size + 3 ≤ w1.heap.size from HR1.out.2.2.1.lt)
  have HOWL2 := Lib.hid howl
  have HR2 := Lib.hid (And.intro (HR1.out.1.below hx HR1.out.1.lt) (And.intro (HR1.out.2.1.below hx HR1.out.2.1.lt) (And.intro (HR1.out.2.2.1.below hx HR1.out.2.2.1.lt) (HR1.out.2.2.2.trans (hx.mono HR1.out.2.2.2.size)))))
  clear hL howl hx HR1
  go_wp2_with fail
  refine (HSOME.out w2 HR2.out.2.2.2).mono ?_
  rintro e w3 ⟨vb, rfl, hob, hx⟩
  obtain ⟨Ab, nb, cb, rfl⟩ := hob.slice3
  have HIB3 := Lib.hid hob
  have HOWL3 := Lib.hid (HOWL2.out.kept fun g _ h2 => hx.block g h2)
  have HB2L := Lib.hid (show w.heap.size + 3 ≤ w2.heap.size from HR2.out.2.2.1.lt)
  have HR3 := Lib.hid (And.intro (HR2.out.1.below hx HR2.out.1.lt) (And.intro (HR2.out.2.1.below hx HR2.out.2.1.lt) (And.intro (HR2.out.2.2.1.below hx HR2.out.2.2.1.lt) (HR2.out.2.2.2.trans (hx.mono HR2.out.2.2.2.size)))))
  clear hob hx HR2 HOWL2
  have c1 : w3.cell? ⟨w.heap.size, 1, none⟩ = some (.int .i64 p) := HR3.out.1.cell 1
  have f1 : w3.frozen? ⟨w.heap.size, 1, none⟩ = false := HR3.out.1.free 1
  go_wp2_with fail
  refine (PK.out _).mono ?_
  rintro e w' ⟨rfl, rfl⟩
  cases raw
  · go_wp2_with (first | ((with_reducible refine wpList_stop (o := ⟨some 33, _, _, _, _, _⟩) ?_)))
    unfold Stop
    obtain ⟨W4, hW4⟩ : ∃ z, w3.setCell ⟨w.heap.size, 1, none⟩ (.int .i64 q) = z := ⟨_, rfl⟩
    have ho4 : ∀ g, g ≠ w.heap.size → W4.heap[g]? = w3.heap[g]? := fun g hg => by rw [← hW4]; exact Below.heap_setCell w3 ⟨w.heap.size, 1, none⟩ _ g hg
    have r04 : RowAt W4 w.heap.size 24 #[.int .i64 h, .int .i64 q, .int .i64 e, .int .i64 rc, .int .i64 rl, .int .i64 b, .int .i64 x6, .int .i64 x7, .int .i64 x8, .int .i64 x9, .int .i64 x10, .int .i64 x11] := by rw [← hW4]; exact HR3.out.1.set 1 _
    have r14 : RowAt W4 (w.heap.size + 1) 25 #[.int .i64 y0, .int .i64 y1, .int .i64 y2, .int .i64 y3] := (ho4 _ (by omega)).trans HR3.out.2.1
    have r24 : RowAt W4 (w.heap.size + 2) 24 #[.int .i64 o0, .int .i64 o1, .int .i64 o2, .int .i64 o3, .int .i64 o4, .int .i64 o5, .int .i64 o6, .int .i64 o7, .int .i64 o8, .int .i64 o9, .int .i64 o10, .int .i64 o11] := (ho4 _ (by omega)).trans HR3.out.2.2.1
    have bw4 : Below w.heap.size w W4 := by rw [← hW4]; exact HR3.out.2.2.2.setCell (p := ⟨w.heap.size, 1, none⟩) (Nat.le_refl _) _
    have howl4 := HOWL3.out.kept (w' := W4) fun g h1 _ => ho4 g (by have := HB1L.out; omega)
    have hib4 := HIB3.out.kept (w' := W4) fun g hg => ho4 g (by have := (HIB3.out.lt g hg).1; have := HB2L.out; omega)
    rw [hW4]
    clear hW4 ho4 c1 f1
    have d0 : W4.cell? ⟨w.heap.size, 0, none⟩ = some (.int .i64 h) := r04.cell 0
    have d1 : W4.cell? ⟨w.heap.size, 1, none⟩ = some (.int .i64 q) := r04.cell 1
    have g0 : W4.cell? ⟨w.heap.size + 1, 0, none⟩ = some (.int .i64 y0) := r14.cell 0
    have g1 : W4.cell? ⟨w.heap.size + 1, 1, none⟩ = some (.int .i64 y1) := r14.cell 1
    have g2 : W4.cell? ⟨w.heap.size + 1, 2, none⟩ = some (.int .i64 y2) := r14.cell 2
    have g3 : W4.cell? ⟨w.heap.size + 1, 3, none⟩ = some (.int .i64 y3) := r14.cell 3
    have HK4 := Lib.hid (And.intro r04 (And.intro r24 (And.intro bw4 (And.intro howl4 hib4))))
    clear r04 r14 r24 bw4 howl4 hib4
    go_wp2_with fail
    refine (OPN.out W4).mono ?_
    rintro e w5 ⟨rfl, hx⟩
    have r05 := HK4.out.1.below hx HK4.out.1.lt
    have r25 := HK4.out.2.1.below hx HK4.out.2.1.lt
    have bw5 := HK4.out.2.2.1.trans (hx.mono HK4.out.2.2.1.size)
    have howl5 := HK4.out.2.2.2.1.kept (w' := w5) fun g _ h2 => hx.block g h2
    have hib5 := HK4.out.2.2.2.2.below hx
    have HR05 := Lib.hid r05
    have HK5 := Lib.hid (And.intro r25 (And.intro bw5 (And.intro howl5 hib5)))
    clear r05 r25 bw5 howl5 hib5 hx d0 d1 g0 g1 g2 g3
    go_wp2_with (first | ((with_reducible refine wpList_stop (o := ⟨none, .store _ _ _, _, _, _, _⟩) ?_)))
    unfold Stop
    refine wpList_store_row rfl 24 (.tmp 7) (.tmp 38) rfl w.heap.size #[.int .i64 h, .int .i64 z0, .int .i64 z1, .int .i64 z2, .int .i64 z3, .int .i64 z4, .int .i64 0, .int .i64 0, .int .i64 0, .int .i64 0, .int .i64 0, .int .i64 0] rfl rfl 24 #[.int .i64 h, .int .i64 q, .int .i64 e, .int .i64 rc, .int .i64 rl, .int .i64 b, .int .i64 x6, .int .i64 x7, .int .i64 x8, .int .i64 x9, .int .i64 x10, .int .i64 x11] HR05.out (by kernel_rfl) rfl (by kernel_rfl) ?_
    obtain ⟨W6, hW6⟩ : ∃ z, w5.setRow w.heap.size #[.int .i64 h, .int .i64 z0, .int .i64 z1, .int .i64 z2, .int .i64 z3, .int .i64 z4, .int .i64 0, .int .i64 0, .int .i64 0, .int .i64 0, .int .i64 0, .int .i64 0] = z := ⟨_, rfl⟩
    have ho6 : ∀ g, g ≠ w.heap.size → W6.heap[g]? = w5.heap[g]? := fun g hg => by rw [← hW6]; exact setRow_other (fun e => hg e.symm)
    have r70 : RowAt W6 w.heap.size 24 (rowC ⟨h, z0, z1, z2, z3, z4⟩ 0 0 0 0 0 0) := by rw [← hW6]; exact setRow_same HR05.out
    have r116 : RowAt W6 (w.heap.size + 2) 24 #[.int .i64 o0, .int .i64 o1, .int .i64 o2, .int .i64 o3, .int .i64 o4, .int .i64 o5, .int .i64 o6, .int .i64 o7, .int .i64 o8, .int .i64 o9, .int .i64 o10, .int .i64 o11] := (ho6 _ (by omega)).trans HK5.out.1
    have bw6 : Below w.heap.size w W6 := by rw [← hW6]; exact below_setRow HK5.out.2.1 (Nat.le_refl _)
    have howl6 := HK5.out.2.2.1.kept (w' := W6) fun g h1 _ => ho6 g (by have := HB1L.out; omega)
    have hib := (HK5.out.2.2.2.kept (w' := W6) fun g hg => ho6 g (by have := (HK5.out.2.2.2.lt g hg).1; have := HB2L.out; omega)).rows
    have htl := howl6.terms
    rw [HL.out] at htl
    rw [hW6]
    have HR70 := Lib.hid r70
    have HR116 := Lib.hid r116
    have HBW6 := Lib.hid bw6
    clear hW6 ho6 r116 bw6 howl6
    have HRW := Lib.hid (row_cells (show W6.heap[w.heap.size]? = some (.cells (rowC ⟨h, z0, z1, z2, z3, z4⟩ 0 0 0 0 0 0) 24 (0, 0)) from r70))
    have HTL := Lib.hid htl
    have HIB := Lib.hid hib
    clear r70 htl hib
    obtain ⟨V, hV⟩ : ∃ z, settleSpec (fewT l) ⟨h, z0, z1, z2, z3, z4⟩ (bs.take 12) = z := ⟨_, rfl⟩
    go_wp2_with (first | ((with_reducible refine wpList_load_at (o := ⟨some 41, _, _, _, _, _⟩) ?_ 24 (.tmp 7) ?_ w.heap.size 0 ?_ _ _ HRW.out Try.underlying24 ?_ ?_ ?_); rfl; rfl; rfl; rfl; kernel_rfl))
    refine (settle_any (fewT l) ⟨h, z0, z1, z2, z3, z4⟩ (bs.take 12) (.slice Al nl cl) (.slice Ab nb cb) 0 0 0 0 0 0 W6 HTL.out HTOK.out HLEN.out.1 HIB.out HLEN.out.2 HBOK.out (by have := HPQ1.out; dsimp only; omega)).mono ?_
    rintro e w7 ⟨vp, vr, vo, rfl, hps, hrs, hbs, hb7⟩
    rw [hV] at hps hrs hbs ⊢
    obtain ⟨v0, v1, v2, v3, v4, v5, vps, vrs, vbs⟩ := V
    unfold ResV.row rowC
    dsimp only at hps hrs hbs ⊢
    have r71 : RowAt w7 w.heap.size 24 (rowC ⟨h, z0, z1, z2, z3, z4⟩ 0 0 0 0 0 0) := HR70.out.below hb7 HR70.out.lt
    have r117 : RowAt w7 (w.heap.size + 2) 24 #[.int .i64 o0, .int .i64 o1, .int .i64 o2, .int .i64 o3, .int .i64 o4, .int .i64 o5, .int .i64 o6, .int .i64 o7, .int .i64 o8, .int .i64 o9, .int .i64 o10, .int .i64 o11] := HR116.out.below hb7 HR116.out.lt
    have htl7 := HTL.out.below hb7
    have hib7 := HIB.out.below hb7
    have bw7 := HBW6.out.trans (hb7.mono HBW6.out.size)
    have q7 := hb7.size
    clear hb7
    go_wp2_with (first | ((with_reducible refine wpList_store_new (o := ⟨none, .store _ _ _, _, _, _, _⟩) ?_ 24 (.tmp 14) (.tmp 44) ?_ ?_ _ #[.int .i64 h, .int .i64 z0, .int .i64 z1, .int .i64 z2, .int .i64 z3, .int .i64 z4, .int .i64 v0, .int .i64 v1, .int .i64 v2, .int .i64 v3, .int .i64 v4, .int .i64 v5] ?_ ?_ ?_ ?_ ?_); rfl; rfl; rfl; rfl; kernel_rfl; rfl; kernel_rfl) | ((with_reducible refine wpList_stop (o := ⟨some 50, _, _, _, _, _⟩) ?_)))
    unfold Stop
    obtain ⟨W8, hW8⟩ : ∃ z, w7.alloc (.cells #[.int .i64 h, .int .i64 z0, .int .i64 z1, .int .i64 z2, .int .i64 z3, .int .i64 z4, .int .i64 v0, .int .i64 v1, .int .i64 v2, .int .i64 v3, .int .i64 v4, .int .i64 v5] 24) = z := ⟨_, rfl⟩
    have b8 : Below w7.heap.size w7 W8 := by rw [← hW8]; exact (Below.refl _ _).alloc (Nat.le_refl _) _
    have r148 : RowAt W8 w7.heap.size 24 #[.int .i64 h, .int .i64 z0, .int .i64 z1, .int .i64 z2, .int .i64 z3, .int .i64 z4, .int .i64 v0, .int .i64 v1, .int .i64 v2, .int .i64 v3, .int .i64 v4, .int .i64 v5] := by rw [← hW8]; exact RowAt.new w7 _ _
    rw [hW8]
    clear hW8
    have r72 : RowAt W8 w.heap.size 24 (rowC ⟨h, z0, z1, z2, z3, z4⟩ 0 0 0 0 0 0) := r71.below b8 r71.lt
    have r118 : RowAt W8 (w.heap.size + 2) 24 #[.int .i64 o0, .int .i64 o1, .int .i64 o2, .int .i64 o3, .int .i64 o4, .int .i64 o5, .int .i64 o6, .int .i64 o7, .int .i64 o8, .int .i64 o9, .int .i64 o10, .int .i64 o11] := r117.below b8 r117.lt
    have hps8 := hps.rows.below b8
    have hrs8 := hrs.rows.below b8
    have hbs8 := hbs.rows.below b8
    have htl8 := htl7.below b8
    have hib8 := hib7.below b8
    have bw8 := bw7.trans (b8.mono bw7.size)
    obtain ⟨n14, hn14⟩ : ∃ z, w7.heap.size = z := ⟨_, rfl⟩
    rw [hn14] at r148 ⊢
    clear hn14 b8 hps hrs hbs htl7 hib7 bw7 r71 r117 q7
    have HRW8 := Lib.hid (row_cells (show W8.heap[w.heap.size]? = some (.cells (rowC ⟨h, z0, z1, z2, z3, z4⟩ 0 0 0 0 0 0) 24 (0, 0)) from r72))
    have HK8 := Lib.hid (And.intro r148 (And.intro r118 (And.intro hps8 (And.intro hrs8 (And.intro hbs8 (And.intro htl8 (And.intro hib8 bw8)))))))
    clear r148 r118 hps8 hrs8 hbs8 htl8 hib8 bw8 r72
    go_wp2_with (first | ((with_reducible refine wpList_load_at (o := ⟨some 50, _, _, _, _, _⟩) ?_ 24 (.tmp 7) ?_ w.heap.size 0 ?_ _ _ HRW8.out Try.underlying24 ?_ ?_ ?_); rfl; rfl; rfl; rfl; kernel_rfl))
    refine (settle15_any (fewT l) ⟨h, z0, z1, z2, z3, z4⟩ (bs.take 12) (.slice Al nl cl) (.slice Ab nb cb) 0 0 0 0 0 0 W8 HK8.out.2.2.2.2.2.1 HTOK.out HLEN.out.1 HK8.out.2.2.2.2.2.2.1 HLEN.out.2 HBOK.out (by have := HPQ1.out; dsimp only; omega)).mono ?_
    rintro e w9 ⟨vp2, vr2, vo2, rfl, hps, hrs, hbs, hb9⟩
    rw [hV] at hps hrs hbs ⊢
    unfold ResV.row rowC
    dsimp only at hps hrs hbs ⊢
    obtain ⟨r148, r118, hps8, hrs8, hbs8, _, _, bw8⟩ := HK8.out
    have r149 : RowAt w9 n14 24 #[.int .i64 h, .int .i64 z0, .int .i64 z1, .int .i64 z2, .int .i64 z3, .int .i64 z4, .int .i64 v0, .int .i64 v1, .int .i64 v2, .int .i64 v3, .int .i64 v4, .int .i64 v5] := r148.below hb9 r148.lt
    have r119 : RowAt w9 (w.heap.size + 2) 24 #[.int .i64 o0, .int .i64 o1, .int .i64 o2, .int .i64 o3, .int .i64 o4, .int .i64 o5, .int .i64 o6, .int .i64 o7, .int .i64 o8, .int .i64 o9, .int .i64 o10, .int .i64 o11] := r118.below hb9 r118.lt
    have hps9 := hps8.below hb9
    have hrs9 := hrs8.below hb9
    have hbs9 := hbs8.below hb9
    have bw9 := bw8.trans (hb9.mono bw8.size)
    clear hb9 r148 r118 hps8 hrs8 hbs8 bw8
    go_wp2_with (first | ((with_reducible refine wpList_store_new (o := ⟨none, .store _ _ _, _, _, _, _⟩) ?_ 24 (.tmp 18) (.tmp 53) ?_ ?_ _ #[.int .i64 h, .int .i64 z0, .int .i64 z1, .int .i64 z2, .int .i64 z3, .int .i64 z4, .int .i64 v0, .int .i64 v1, .int .i64 v2, .int .i64 v3, .int .i64 v4, .int .i64 v5] ?_ ?_ ?_ ?_ ?_); rfl; rfl; rfl; rfl; kernel_rfl; rfl; kernel_rfl))
    obtain ⟨W10, hW10⟩ : ∃ z, w9.alloc (.cells #[.int .i64 h, .int .i64 z0, .int .i64 z1, .int .i64 z2, .int .i64 z3, .int .i64 z4, .int .i64 v0, .int .i64 v1, .int .i64 v2, .int .i64 v3, .int .i64 v4, .int .i64 v5] 24) = z := ⟨_, rfl⟩
    have b10 : Below w9.heap.size w9 W10 := by rw [← hW10]; exact (Below.refl _ _).alloc (Nat.le_refl _) _
    have r18 : RowAt W10 w9.heap.size 24 #[.int .i64 h, .int .i64 z0, .int .i64 z1, .int .i64 z2, .int .i64 z3, .int .i64 z4, .int .i64 v0, .int .i64 v1, .int .i64 v2, .int .i64 v3, .int .i64 v4, .int .i64 v5] := by rw [← hW10]; exact RowAt.new w9 _ _
    rw [hW10]
    clear hW10
    have r14e := r149.below b10 r149.lt
    have r11e := r119.below b10 r119.lt
    have pa1 := hps9.below b10
    have pa2 := hps.rows.below b10
    have ra1 := hrs9.below b10
    have ra2 := hrs.rows.below b10
    have ba1 := hbs9.below b10
    have ba2 := hbs.rows.below b10
    have HB10 := Lib.hid (bw9.trans (b10.mono bw9.size))
    obtain ⟨n18, hn18⟩ : ∃ z, w9.heap.size = z := ⟨_, rfl⟩
    rw [hn18] at r18 ⊢
    have hsl := settle_len (fewT l) ⟨h, z0, z1, z2, z3, z4⟩ (bs.take 12)
    rw [hV] at hsl
    dsimp only at hsl
    have hfl := few_len l
    have htl12 : (bs.take 12).length ≤ 12 := by rw [List.length_take]; omega
    have SP := Lib.hid (fun W (hb : Below W10.heap.size W10 W) => samePasses_eq vp vp2 vps W (by omega) (pa1.below hb) (pa2.below hb))
    have SR := Lib.hid (fun W (hb : Below W10.heap.size W10 W) => sameReserves_eq vr vr2 vrs W (by omega) (ra1.below hb) (ra2.below hb))
    have SB := Lib.hid (fun W (hb : Below W10.heap.size W10 W) => sameBalances_eq vo vo2 vbs W (by omega) (ba1.below hb) (ba2.below hb))
    have BM := Lib.hid (fun W => balanced_any ⟨h, z0, z1, z2, z3, z4⟩ v0 v1 v2 v3 v4 v5 W)
    have BR := Lib.hid (fun W => balanced15_any ⟨h, z0, z1, z2, z3, z4⟩ v0 v1 v2 v3 v4 v5 W)
    have OM := Lib.hid (fun W => balanced_any ⟨o0, o1, o2, o3, o4, o5⟩ o6 o7 o8 o9 o10 o11 W)
    have OR := Lib.hid (fun W => balanced15_any ⟨o0, o1, o2, o3, o4, o5⟩ o6 o7 o8 o9 o10 o11 W)
    unfold rowC at BM BR OM OR
    dsimp only at BM BR OM OR
    obtain ⟨bb, hbb⟩ : ∃ z, balB ⟨h, z0, z1, z2, z3, z4⟩ v0 v1 v2 v3 v4 v5 = z := ⟨_, rfl⟩
    obtain ⟨ob, hob⟩ : ∃ z, balB ⟨o0, o1, o2, o3, o4, o5⟩ o6 o7 o8 o9 o10 o11 = z := ⟨_, rfl⟩
    rw [hbb] at BM BR
    rw [hob] at OM OR
    have HC14 : Hid (∀ W', Below W10.heap.size W10 W' → ∀ j v, (#[.int .i64 h, .int .i64 z0, .int .i64 z1, .int .i64 z2, .int .i64 z3, .int .i64 z4, .int .i64 v0, .int .i64 v1, .int .i64 v2, .int .i64 v3, .int .i64 v4, .int .i64 v5] : Array Value)[j]? = some v → W'.cell? ⟨n14, 0 + j, none⟩ = some v) := Lib.hid fun W' hb => row_cells (show W'.heap[n14]? = _ from r14e.below hb r14e.lt)
    have HC18 : Hid (∀ W', Below W10.heap.size W10 W' → ∀ j v, (#[.int .i64 h, .int .i64 z0, .int .i64 z1, .int .i64 z2, .int .i64 z3, .int .i64 z4, .int .i64 v0, .int .i64 v1, .int .i64 v2, .int .i64 v3, .int .i64 v4, .int .i64 v5] : Array Value)[j]? = some v → W'.cell? ⟨n18, 0 + j, none⟩ = some v) := Lib.hid fun W' hb => row_cells (show W'.heap[n18]? = _ from r18.below hb r18.lt)
    have HC11 : Hid (∀ W', Below W10.heap.size W10 W' → ∀ j v, (#[.int .i64 o0, .int .i64 o1, .int .i64 o2, .int .i64 o3, .int .i64 o4, .int .i64 o5, .int .i64 o6, .int .i64 o7, .int .i64 o8, .int .i64 o9, .int .i64 o10, .int .i64 o11] : Array Value)[j]? = some v → W'.cell? ⟨w.heap.size + 2, 0 + j, none⟩ = some v) := Lib.hid fun W' hb => row_cells (show W'.heap[w.heap.size + 2]? = _ from r11e.below hb r11e.lt)
    clear b10 r14e r11e pa1 pa2 ra1 ra2 ba1 ba2 hsl hfl htl12 hbb hob r149 r119 hps9 hrs9 hbs9 hps hrs hbs bw9 hn18 r18 hV HK8 HTL HIB HRW HRW8 HR70 HR116 HBW6
    refine wp_region_held_drew (S := fun W' => Below W10.heap.size W10 W') (by kernel_rfl) (Below.refl _ _).drew (fun hHeld => ?_)
    refine wpAnyH_take (i := 0) (oi := ⟨_, _, _, _, _, _⟩) (v := ?_) rfl (by kernel_rfl) (by kernel_rfl) (by kernel_rfl) (fun _ _ _ h => h) (Or.inl ⟨by rfl, ?_⟩) (by assumption) ?_
    rotate_left
    · intro w hSw
      go_simp
      all_goals with_reducible rfl
    simp only [Act.put, List.setIfInBounds_toArray, List.set_cons_zero, List.set_cons_succ]
    refine wpAnyH_take (i := 1) (oi := ⟨_, _, _, _, _, _⟩) (v := ?_) rfl (by kernel_rfl) (by kernel_rfl) (by kernel_rfl) (fun _ _ _ h => h) (Or.inl ⟨by rfl, ?_⟩) (by assumption) ?_
    rotate_left
    · intro w hSw
      go_simp
      all_goals with_reducible rfl
    simp only [Act.put, List.setIfInBounds_toArray, List.set_cons_zero, List.set_cons_succ]
    refine wpAnyH_take (i := 2) (oi := ⟨_, _, _, _, _, _⟩) rfl (by kernel_rfl) (by kernel_rfl) (by kernel_rfl) (fun _ _ _ h => h) (yieldsIf_load_at 24 (.tmp 14) n14 0 #[.int .i64 h, .int .i64 z0, .int .i64 z1, .int .i64 z2, .int .i64 z3, .int .i64 z4, .int .i64 v0, .int .i64 v1, .int .i64 v2, .int .i64 v3, .int .i64 v4, .int .i64 v5] _ HC14.out rfl (by rfl) rfl rfl rfl rfl) (by assumption) ?_
    simp only [Act.put, List.setIfInBounds_toArray, List.set_cons_zero, List.set_cons_succ]
    refine wpAnyH_take (i := 3) (oi := ⟨_, _, _, _, _, _⟩) rfl (by kernel_rfl) (by kernel_rfl) (by kernel_rfl) (fun _ _ _ h => h) (yieldsIf_load_at 24 (.tmp 18) n18 0 #[.int .i64 h, .int .i64 z0, .int .i64 z1, .int .i64 z2, .int .i64 z3, .int .i64 z4, .int .i64 v0, .int .i64 v1, .int .i64 v2, .int .i64 v3, .int .i64 v4, .int .i64 v5] _ HC18.out rfl (by rfl) rfl rfl rfl rfl) (by assumption) ?_
    simp only [Act.put, List.setIfInBounds_toArray, List.set_cons_zero, List.set_cons_succ]
    refine wpAnyH_take (i := 4) (oi := ⟨_, _, _, _, _, _⟩) (v := ?_) rfl (by kernel_rfl) (by kernel_rfl) (by kernel_rfl) (fun _ _ _ h => h) (Or.inl ⟨by rfl, ?_⟩) (by assumption) ?_
    rotate_left
    · intro w hSw
      have hE := row_eq h z0 z1 z2 z3 z4 v0 v1 v2 v3 v4 v5 w
      go_simp
      all_goals with_reducible rfl
    simp only [Act.put, List.setIfInBounds_toArray, List.set_cons_zero, List.set_cons_succ]
    refine wpAnyH_take (i := 5) (oi := ⟨_, _, _, _, _, _⟩) (v := ?_) rfl (by kernel_rfl) (by kernel_rfl) (by kernel_rfl) (fun _ _ _ h => h) (Or.inl ⟨by rfl, ?_⟩) (by assumption) ?_
    rotate_left
    · intro w hSw
      go_simp
      all_goals with_reducible rfl
    simp only [Act.put, List.setIfInBounds_toArray, List.set_cons_zero, List.set_cons_succ]
    refine wpAnyH_take (i := 6) (oi := ⟨_, _, _, _, _, _⟩) (v := ?_) rfl (by kernel_rfl) (by kernel_rfl) (by kernel_rfl) (fun _ _ _ h => h) (Or.inl ⟨by rfl, ?_⟩) (by assumption) ?_
    rotate_left
    · intro w hSw
      go_simp
      all_goals with_reducible rfl
    simp only [Act.put, List.setIfInBounds_toArray, List.set_cons_zero, List.set_cons_succ]
    refine wpAnyH_take (i := 7) (oi := ⟨_, _, _, _, _, _⟩) (v := ?_) rfl (by kernel_rfl) (by kernel_rfl) (by kernel_rfl) (fun _ _ _ h => h) (Or.inl ⟨by rfl, ?_⟩) (by assumption) ?_
    rotate_left
    · intro w hSw
      go_simp
      all_goals with_reducible rfl
    simp only [Act.put, List.setIfInBounds_toArray, List.set_cons_zero, List.set_cons_succ]
    refine wpAnyH_take (i := 8) (oi := ⟨_, _, _, _, _, _⟩) (v := ?_) rfl (by kernel_rfl) (by kernel_rfl) (by kernel_rfl) (fun _ _ _ h => h) (Or.inl ⟨by rfl, ?_⟩) (by assumption) ?_
    rotate_left
    · intro w hSw
      go_simp
      all_goals with_reducible rfl
    simp only [Act.put, List.setIfInBounds_toArray, List.set_cons_zero, List.set_cons_succ]
    refine wpAnyH_ready (rs := [9]) (by kernel_rfl) (by simp) ?_
    refine AllReadyH.cons (o := ⟨_, _, _, _, _, _⟩) rfl (fun K hK => ?_) AllReadyH.nil
    go_simp
    (go_at_call 17; refine (SP.out _ (Below.refl W10.heap.size W10).drew).mono ?_; rintro e w19 ⟨rfl, hb⟩)
    have Sw19 : Below W10.heap.size W10 w19 := (Below.refl W10.heap.size W10).drew.trans (hb.mono (Below.refl W10.heap.size W10).drew.size)
    have Dw19 := Sw19
    clear hb
    go_wp2_with fail
    refine hK.out _ _ Sw19 (fun hHeld => ?_)
    clear hK K
    try simp only [Act.put, List.setIfInBounds_toArray, List.set_cons_zero, List.set_cons_succ]
    refine wpAnyH_take (i := 10) (oi := ⟨_, _, _, _, _, _⟩) (v := ?_) rfl (by kernel_rfl) (by kernel_rfl) (by kernel_rfl) (fun _ _ _ h => h) (Or.inl ⟨by rfl, ?_⟩) (by assumption) ?_
    rotate_left
    · intro w hSw
      go_simp
      all_goals with_reducible rfl
    simp only [Act.put, List.setIfInBounds_toArray, List.set_cons_zero, List.set_cons_succ]
    refine wpAnyH_take (i := 11) (oi := ⟨_, _, _, _, _, _⟩) (v := ?_) rfl (by kernel_rfl) (by kernel_rfl) (by kernel_rfl) (fun _ _ _ h => h) (Or.inl ⟨by rfl, ?_⟩) (by assumption) ?_
    rotate_left
    · intro w hSw
      go_simp
      all_goals with_reducible rfl
    simp only [Act.put, List.setIfInBounds_toArray, List.set_cons_zero, List.set_cons_succ]
    refine wpAnyH_take (i := 12) (oi := ⟨_, _, _, _, _, _⟩) (v := ?_) rfl (by kernel_rfl) (by kernel_rfl) (by kernel_rfl) (fun _ _ _ h => h) (Or.inl ⟨by rfl, ?_⟩) (by assumption) ?_
    rotate_left
    · intro w hSw
      go_simp
      all_goals with_reducible rfl
    simp only [Act.put, List.setIfInBounds_toArray, List.set_cons_zero, List.set_cons_succ]
    refine wpAnyH_take (i := 13) (oi := ⟨_, _, _, _, _, _⟩) (v := ?_) rfl (by kernel_rfl) (by kernel_rfl) (by kernel_rfl) (fun _ _ _ h => h) (Or.inl ⟨by rfl, ?_⟩) (by assumption) ?_
    rotate_left
    · intro w hSw
      go_simp
      all_goals with_reducible rfl
    simp only [Act.put, List.setIfInBounds_toArray, List.set_cons_zero, List.set_cons_succ]
    refine wpAnyH_ready (rs := [14]) (by kernel_rfl) (by simp) ?_
    refine AllReadyH.cons (o := ⟨_, _, _, _, _, _⟩) rfl (fun K hK => ?_) AllReadyH.nil
    go_simp
    (go_at_call 18; refine (SR.out _ Sw19).mono ?_; rintro e w24 ⟨rfl, hb⟩)
    have Sw24 : Below W10.heap.size W10 w24 := Sw19.trans (hb.mono Sw19.size)
    have Dw24 := Sw24
    clear hb
    go_wp2_with fail
    refine hK.out _ _ Sw24 (fun hHeld => ?_)
    clear hK K
    try simp only [Act.put, List.setIfInBounds_toArray, List.set_cons_zero, List.set_cons_succ]
    refine wpAnyH_take (i := 15) (oi := ⟨_, _, _, _, _, _⟩) (v := ?_) rfl (by kernel_rfl) (by kernel_rfl) (by kernel_rfl) (fun _ _ _ h => h) (Or.inl ⟨by rfl, ?_⟩) (by assumption) ?_
    rotate_left
    · intro w hSw
      go_simp
      all_goals with_reducible rfl
    simp only [Act.put, List.setIfInBounds_toArray, List.set_cons_zero, List.set_cons_succ]
    refine wpAnyH_take (i := 16) (oi := ⟨_, _, _, _, _, _⟩) (v := ?_) rfl (by kernel_rfl) (by kernel_rfl) (by kernel_rfl) (fun _ _ _ h => h) (Or.inl ⟨by rfl, ?_⟩) (by assumption) ?_
    rotate_left
    · intro w hSw
      go_simp
      all_goals with_reducible rfl
    simp only [Act.put, List.setIfInBounds_toArray, List.set_cons_zero, List.set_cons_succ]
    refine wpAnyH_take (i := 17) (oi := ⟨_, _, _, _, _, _⟩) (v := ?_) rfl (by kernel_rfl) (by kernel_rfl) (by kernel_rfl) (fun _ _ _ h => h) (Or.inl ⟨by rfl, ?_⟩) (by assumption) ?_
    rotate_left
    · intro w hSw
      go_simp
      all_goals with_reducible rfl
    simp only [Act.put, List.setIfInBounds_toArray, List.set_cons_zero, List.set_cons_succ]
    refine wpAnyH_take (i := 18) (oi := ⟨_, _, _, _, _, _⟩) (v := ?_) rfl (by kernel_rfl) (by kernel_rfl) (by kernel_rfl) (fun _ _ _ h => h) (Or.inl ⟨by rfl, ?_⟩) (by assumption) ?_
    rotate_left
    · intro w hSw
      go_simp
      all_goals with_reducible rfl
    simp only [Act.put, List.setIfInBounds_toArray, List.set_cons_zero, List.set_cons_succ]
    refine wpAnyH_ready (rs := [19]) (by kernel_rfl) (by simp) ?_
    refine AllReadyH.cons (o := ⟨_, _, _, _, _, _⟩) rfl (fun K hK => ?_) AllReadyH.nil
    go_simp
    (go_at_call 19; refine (SB.out _ Sw24).mono ?_; rintro e w29 ⟨rfl, hb⟩)
    have Sw29 : Below W10.heap.size W10 w29 := Sw24.trans (hb.mono Sw24.size)
    have Dw29 := Sw29
    clear hb
    go_wp2_with fail
    refine hK.out _ _ Sw29 (fun hHeld => ?_)
    clear hK K
    try simp only [Act.put, List.setIfInBounds_toArray, List.set_cons_zero, List.set_cons_succ]
    refine wpAnyH_take (i := 20) (oi := ⟨_, _, _, _, _, _⟩) (v := ?_) rfl (by kernel_rfl) (by kernel_rfl) (by kernel_rfl) (fun _ _ _ h => h) (Or.inl ⟨by rfl, ?_⟩) (by assumption) ?_
    rotate_left
    · intro w hSw
      go_simp
      all_goals with_reducible rfl
    simp only [Act.put, List.setIfInBounds_toArray, List.set_cons_zero, List.set_cons_succ]
    refine wpAnyH_take (i := 21) (oi := ⟨_, _, _, _, _, _⟩) (v := ?_) rfl (by kernel_rfl) (by kernel_rfl) (by kernel_rfl) (fun _ _ _ h => h) (Or.inl ⟨by rfl, ?_⟩) (by assumption) ?_
    rotate_left
    · intro w hSw
      go_simp
      all_goals with_reducible rfl
    simp only [Act.put, List.setIfInBounds_toArray, List.set_cons_zero, List.set_cons_succ]
    refine wpAnyH_take (i := 22) (oi := ⟨_, _, _, _, _, _⟩) rfl (by kernel_rfl) (by kernel_rfl) (by kernel_rfl) (fun _ _ _ h => h) (yieldsIf_load_at 24 (.tmp 14) n14 0 #[.int .i64 h, .int .i64 z0, .int .i64 z1, .int .i64 z2, .int .i64 z3, .int .i64 z4, .int .i64 v0, .int .i64 v1, .int .i64 v2, .int .i64 v3, .int .i64 v4, .int .i64 v5] _ HC14.out rfl (by rfl) rfl rfl rfl rfl) (by assumption) ?_
    simp only [Act.put, List.setIfInBounds_toArray, List.set_cons_zero, List.set_cons_succ]
    refine wpAnyH_take (i := 24) (oi := ⟨_, _, _, _, _, _⟩) rfl (by kernel_rfl) (by kernel_rfl) (by kernel_rfl) (fun _ _ _ h => h) (yieldsIf_load_at 24 (.tmp 14) n14 0 #[.int .i64 h, .int .i64 z0, .int .i64 z1, .int .i64 z2, .int .i64 z3, .int .i64 z4, .int .i64 v0, .int .i64 v1, .int .i64 v2, .int .i64 v3, .int .i64 v4, .int .i64 v5] _ HC14.out rfl (by rfl) rfl rfl rfl rfl) (by assumption) ?_
    simp only [Act.put, List.setIfInBounds_toArray, List.set_cons_zero, List.set_cons_succ]
    refine wpAnyH_ready (rs := [23]) (by kernel_rfl) (by simp) ?_
    refine AllReadyH.cons (o := ⟨_, _, _, _, _, _⟩) rfl (fun K hK => ?_) AllReadyH.nil
    go_simp
    (go_at_call 20; refine (BM.out _).mono ?_; rintro e w23 ⟨rfl, hb⟩)
    have Sw23 : Below W10.heap.size W10 w23 := Sw29.trans (hb.mono Sw29.size)
    have Dw23 := Sw23
    clear hb
    go_wp2_with fail
    refine hK.out _ _ Sw23 (fun hHeld => ?_)
    clear hK K
    try simp only [Act.put, List.setIfInBounds_toArray, List.set_cons_zero, List.set_cons_succ]
    refine wpAnyH_ready (rs := [25]) (by kernel_rfl) (by simp) ?_
    refine AllReadyH.cons (o := ⟨_, _, _, _, _, _⟩) rfl (fun K hK => ?_) AllReadyH.nil
    go_simp
    (go_at_call 21; refine (BR.out _).mono ?_; rintro e w25 ⟨rfl, hb⟩)
    have Sw25 : Below W10.heap.size W10 w25 := Sw23.trans (hb.mono Sw23.size)
    have Dw25 := Sw25
    clear hb
    go_wp2_with fail
    refine hK.out _ _ Sw25 (fun hHeld => ?_)
    clear hK K
    try simp only [Act.put, List.setIfInBounds_toArray, List.set_cons_zero, List.set_cons_succ]
    refine wpAnyH_take (i := 26) (oi := ⟨_, _, _, _, _, _⟩) (v := ?_) rfl (by kernel_rfl) (by kernel_rfl) (by kernel_rfl) (fun _ _ _ h => h) (Or.inl ⟨by rfl, ?_⟩) (by assumption) ?_
    rotate_left
    · intro w hSw
      go_simp
      all_goals with_reducible rfl
    simp only [Act.put, List.setIfInBounds_toArray, List.set_cons_zero, List.set_cons_succ]
    refine wpAnyH_take (i := 27) (oi := ⟨_, _, _, _, _, _⟩) (v := ?_) rfl (by kernel_rfl) (by kernel_rfl) (by kernel_rfl) (fun _ _ _ h => h) (Or.inl ⟨by rfl, ?_⟩) (by assumption) ?_
    rotate_left
    · intro w hSw
      go_simp
      all_goals with_reducible rfl
    simp only [Act.put, List.setIfInBounds_toArray, List.set_cons_zero, List.set_cons_succ]
    refine wpAnyH_take (i := 28) (oi := ⟨_, _, _, _, _, _⟩) (v := ?_) rfl (by kernel_rfl) (by kernel_rfl) (by kernel_rfl) (fun _ _ _ h => h) (Or.inl ⟨by rfl, ?_⟩) (by assumption) ?_
    rotate_left
    · intro w hSw
      go_simp
      all_goals with_reducible rfl
    simp only [Act.put, List.setIfInBounds_toArray, List.set_cons_zero, List.set_cons_succ]
    refine wpAnyH_take (i := 29) (oi := ⟨_, _, _, _, _, _⟩) rfl (by kernel_rfl) (by kernel_rfl) (by kernel_rfl) (fun _ _ _ h => h) (yieldsIf_load_at 24 (.tmp 11) (w.heap.size + 2) 0 #[.int .i64 o0, .int .i64 o1, .int .i64 o2, .int .i64 o3, .int .i64 o4, .int .i64 o5, .int .i64 o6, .int .i64 o7, .int .i64 o8, .int .i64 o9, .int .i64 o10, .int .i64 o11] _ HC11.out rfl (by rfl) rfl rfl rfl rfl) (by assumption) ?_
    simp only [Act.put, List.setIfInBounds_toArray, List.set_cons_zero, List.set_cons_succ]
    refine wpAnyH_take (i := 31) (oi := ⟨_, _, _, _, _, _⟩) rfl (by kernel_rfl) (by kernel_rfl) (by kernel_rfl) (fun _ _ _ h => h) (yieldsIf_load_at 24 (.tmp 11) (w.heap.size + 2) 0 #[.int .i64 o0, .int .i64 o1, .int .i64 o2, .int .i64 o3, .int .i64 o4, .int .i64 o5, .int .i64 o6, .int .i64 o7, .int .i64 o8, .int .i64 o9, .int .i64 o10, .int .i64 o11] _ HC11.out rfl (by rfl) rfl rfl rfl rfl) (by assumption) ?_
    simp only [Act.put, List.setIfInBounds_toArray, List.set_cons_zero, List.set_cons_succ]
    refine wpAnyH_ready (rs := [30]) (by kernel_rfl) (by simp) ?_
    refine AllReadyH.cons (o := ⟨_, _, _, _, _, _⟩) rfl (fun K hK => ?_) AllReadyH.nil
    go_simp
    (go_at_call 20; refine (OM.out _).mono ?_; rintro e w30 ⟨rfl, hb⟩)
    have Sw30 : Below W10.heap.size W10 w30 := Sw25.trans (hb.mono Sw25.size)
    have Dw30 := Sw30
    clear hb
    go_wp2_with fail
    refine hK.out _ _ Sw30 (fun hHeld => ?_)
    clear hK K
    try simp only [Act.put, List.setIfInBounds_toArray, List.set_cons_zero, List.set_cons_succ]
    refine wpAnyH_ready (rs := [32]) (by kernel_rfl) (by simp) ?_
    refine AllReadyH.cons (o := ⟨_, _, _, _, _, _⟩) rfl (fun K hK => ?_) AllReadyH.nil
    go_simp
    (go_at_call 21; refine (OR.out _).mono ?_; rintro e w32 ⟨rfl, hb⟩)
    have Sw32 : Below W10.heap.size W10 w32 := Sw30.trans (hb.mono Sw30.size)
    have Dw32 := Sw32
    clear hb
    go_wp2_with fail
    refine hK.out _ _ Sw32 (fun hHeld => ?_)
    clear hK K
    try simp only [Act.put, List.setIfInBounds_toArray, List.set_cons_zero, List.set_cons_succ]
    refine wpAnyH_take (i := 33) (oi := ⟨_, _, _, _, _, _⟩) (v := ?_) rfl (by kernel_rfl) (by kernel_rfl) (by kernel_rfl) (fun _ _ _ h => h) (Or.inl ⟨by rfl, ?_⟩) (by assumption) ?_
    rotate_left
    · intro w hSw
      go_simp
      all_goals with_reducible rfl
    simp only [Act.put, List.setIfInBounds_toArray, List.set_cons_zero, List.set_cons_succ]
    refine wpAnyH_take (i := 34) (oi := ⟨_, _, _, _, _, _⟩) (v := ?_) rfl (by kernel_rfl) (by kernel_rfl) (by kernel_rfl) (fun _ _ _ h => h) (Or.inl ⟨by rfl, ?_⟩) (by assumption) ?_
    rotate_left
    · intro w hSw
      go_simp
      all_goals with_reducible rfl
    simp only [Act.put, List.setIfInBounds_toArray, List.set_cons_zero, List.set_cons_succ]
    refine wpAnyH_take (i := 35) (oi := ⟨_, _, _, _, _, _⟩) (v := ?_) rfl (by kernel_rfl) (by kernel_rfl) (by kernel_rfl) (fun _ _ _ h => h) (Or.inl ⟨by rfl, ?_⟩) (by assumption) ?_
    rotate_left
    · intro w hSw
      go_simp
      all_goals with_reducible rfl
    simp only [Act.put, List.setIfInBounds_toArray, List.set_cons_zero, List.set_cons_succ]
    refine wpAnyH_done (by kernel_rfl) ?_ _
    have HBE := Lib.hid (HB10.out.trans (Sw32.mono HB10.out.size))
    clear hHeld
    go_wp2_with fail
    go_ret
    exact ⟨rfl, HBE.out⟩

  · go_wp2_with (first | ((with_reducible refine wpList_stop (o := ⟨some 41, _, _, _, _, _⟩) ?_)))
    unfold Stop
    obtain ⟨W6, hW4⟩ : ∃ z, w3.setCell ⟨w.heap.size, 1, none⟩ (.int .i64 q) = z := ⟨_, rfl⟩
    have ho4 : ∀ g, g ≠ w.heap.size → W6.heap[g]? = w3.heap[g]? := fun g hg => by rw [← hW4]; exact Below.heap_setCell w3 ⟨w.heap.size, 1, none⟩ _ g hg
    have r70 : RowAt W6 w.heap.size 24 (rowC ⟨h, q, e, rc, rl, b⟩ x6 x7 x8 x9 x10 x11) := by rw [← hW4]; exact HR3.out.1.set 1 _
    have r116 : RowAt W6 (w.heap.size + 2) 24 #[.int .i64 o0, .int .i64 o1, .int .i64 o2, .int .i64 o3, .int .i64 o4, .int .i64 o5, .int .i64 o6, .int .i64 o7, .int .i64 o8, .int .i64 o9, .int .i64 o10, .int .i64 o11] := (ho4 _ (by omega)).trans HR3.out.2.2.1
    have bw6 : Below w.heap.size w W6 := by rw [← hW4]; exact HR3.out.2.2.2.setCell (p := ⟨w.heap.size, 1, none⟩) (Nat.le_refl _) _
    have howl6 := HOWL3.out.kept (w' := W6) fun g h1 _ => ho4 g (by have := HB1L.out; omega)
    have hib := (HIB3.out.kept (w' := W6) fun g hg => ho4 g (by have := (HIB3.out.lt g hg).1; have := HB2L.out; omega)).rows
    have htl := howl6.terms
    rw [HL.out] at htl
    rw [hW4]
    have HR70 := Lib.hid r70
    have HR116 := Lib.hid r116
    have HBW6 := Lib.hid bw6
    clear hW4 ho4 c1 f1 r116 bw6 howl6
    have HRW := Lib.hid (row_cells (show W6.heap[w.heap.size]? = some (.cells (rowC ⟨h, q, e, rc, rl, b⟩ x6 x7 x8 x9 x10 x11) 24 (0, 0)) from r70))
    have HTL := Lib.hid htl
    have HIB := Lib.hid hib
    clear r70 htl hib
    obtain ⟨V, hV⟩ : ∃ z, settleSpec (fewT l) ⟨h, q, e, rc, rl, b⟩ (bs.take 12) = z := ⟨_, rfl⟩
    go_wp2_with (first | ((with_reducible refine wpList_load_at (o := ⟨some 41, _, _, _, _, _⟩) ?_ 24 (.tmp 7) ?_ w.heap.size 0 ?_ _ _ HRW.out Try.underlying24 ?_ ?_ ?_); rfl; rfl; rfl; rfl; kernel_rfl))
    refine (settle_any (fewT l) ⟨h, q, e, rc, rl, b⟩ (bs.take 12) (.slice Al nl cl) (.slice Ab nb cb) x6 x7 x8 x9 x10 x11 W6 HTL.out HTOK.out HLEN.out.1 HIB.out HLEN.out.2 HBOK.out (by have := HPQ0.out; dsimp only; omega)).mono ?_
    rintro e w7 ⟨vp, vr, vo, rfl, hps, hrs, hbs, hb7⟩
    rw [hV] at hps hrs hbs ⊢
    obtain ⟨v0, v1, v2, v3, v4, v5, vps, vrs, vbs⟩ := V
    unfold ResV.row rowC
    dsimp only at hps hrs hbs ⊢
    have r71 : RowAt w7 w.heap.size 24 (rowC ⟨h, q, e, rc, rl, b⟩ x6 x7 x8 x9 x10 x11) := HR70.out.below hb7 HR70.out.lt
    have r117 : RowAt w7 (w.heap.size + 2) 24 #[.int .i64 o0, .int .i64 o1, .int .i64 o2, .int .i64 o3, .int .i64 o4, .int .i64 o5, .int .i64 o6, .int .i64 o7, .int .i64 o8, .int .i64 o9, .int .i64 o10, .int .i64 o11] := HR116.out.below hb7 HR116.out.lt
    have htl7 := HTL.out.below hb7
    have hib7 := HIB.out.below hb7
    have bw7 := HBW6.out.trans (hb7.mono HBW6.out.size)
    have q7 := hb7.size
    clear hb7
    go_wp2_with (first | ((with_reducible refine wpList_store_new (o := ⟨none, .store _ _ _, _, _, _, _⟩) ?_ 24 (.tmp 14) (.tmp 44) ?_ ?_ _ #[.int .i64 h, .int .i64 q, .int .i64 e, .int .i64 rc, .int .i64 rl, .int .i64 b, .int .i64 v0, .int .i64 v1, .int .i64 v2, .int .i64 v3, .int .i64 v4, .int .i64 v5] ?_ ?_ ?_ ?_ ?_); rfl; rfl; rfl; rfl; kernel_rfl; rfl; kernel_rfl) | ((with_reducible refine wpList_stop (o := ⟨some 50, _, _, _, _, _⟩) ?_)))
    unfold Stop
    obtain ⟨W8, hW8⟩ : ∃ z, w7.alloc (.cells #[.int .i64 h, .int .i64 q, .int .i64 e, .int .i64 rc, .int .i64 rl, .int .i64 b, .int .i64 v0, .int .i64 v1, .int .i64 v2, .int .i64 v3, .int .i64 v4, .int .i64 v5] 24) = z := ⟨_, rfl⟩
    have b8 : Below w7.heap.size w7 W8 := by rw [← hW8]; exact (Below.refl _ _).alloc (Nat.le_refl _) _
    have r148 : RowAt W8 w7.heap.size 24 #[.int .i64 h, .int .i64 q, .int .i64 e, .int .i64 rc, .int .i64 rl, .int .i64 b, .int .i64 v0, .int .i64 v1, .int .i64 v2, .int .i64 v3, .int .i64 v4, .int .i64 v5] := by rw [← hW8]; exact RowAt.new w7 _ _
    rw [hW8]
    clear hW8
    have r72 : RowAt W8 w.heap.size 24 (rowC ⟨h, q, e, rc, rl, b⟩ x6 x7 x8 x9 x10 x11) := r71.below b8 r71.lt
    have r118 : RowAt W8 (w.heap.size + 2) 24 #[.int .i64 o0, .int .i64 o1, .int .i64 o2, .int .i64 o3, .int .i64 o4, .int .i64 o5, .int .i64 o6, .int .i64 o7, .int .i64 o8, .int .i64 o9, .int .i64 o10, .int .i64 o11] := r117.below b8 r117.lt
    have hps8 := hps.rows.below b8
    have hrs8 := hrs.rows.below b8
    have hbs8 := hbs.rows.below b8
    have htl8 := htl7.below b8
    have hib8 := hib7.below b8
    have bw8 := bw7.trans (b8.mono bw7.size)
    obtain ⟨n14, hn14⟩ : ∃ z, w7.heap.size = z := ⟨_, rfl⟩
    rw [hn14] at r148 ⊢
    clear hn14 b8 hps hrs hbs htl7 hib7 bw7 r71 r117 q7
    have HRW8 := Lib.hid (row_cells (show W8.heap[w.heap.size]? = some (.cells (rowC ⟨h, q, e, rc, rl, b⟩ x6 x7 x8 x9 x10 x11) 24 (0, 0)) from r72))
    have HK8 := Lib.hid (And.intro r148 (And.intro r118 (And.intro hps8 (And.intro hrs8 (And.intro hbs8 (And.intro htl8 (And.intro hib8 bw8)))))))
    clear r148 r118 hps8 hrs8 hbs8 htl8 hib8 bw8 r72
    go_wp2_with (first | ((with_reducible refine wpList_load_at (o := ⟨some 50, _, _, _, _, _⟩) ?_ 24 (.tmp 7) ?_ w.heap.size 0 ?_ _ _ HRW8.out Try.underlying24 ?_ ?_ ?_); rfl; rfl; rfl; rfl; kernel_rfl))
    refine (settle15_any (fewT l) ⟨h, q, e, rc, rl, b⟩ (bs.take 12) (.slice Al nl cl) (.slice Ab nb cb) x6 x7 x8 x9 x10 x11 W8 HK8.out.2.2.2.2.2.1 HTOK.out HLEN.out.1 HK8.out.2.2.2.2.2.2.1 HLEN.out.2 HBOK.out (by have := HPQ0.out; dsimp only; omega)).mono ?_
    rintro e w9 ⟨vp2, vr2, vo2, rfl, hps, hrs, hbs, hb9⟩
    rw [hV] at hps hrs hbs ⊢
    unfold ResV.row rowC
    dsimp only at hps hrs hbs ⊢
    obtain ⟨r148, r118, hps8, hrs8, hbs8, _, _, bw8⟩ := HK8.out
    have r149 : RowAt w9 n14 24 #[.int .i64 h, .int .i64 q, .int .i64 e, .int .i64 rc, .int .i64 rl, .int .i64 b, .int .i64 v0, .int .i64 v1, .int .i64 v2, .int .i64 v3, .int .i64 v4, .int .i64 v5] := r148.below hb9 r148.lt
    have r119 : RowAt w9 (w.heap.size + 2) 24 #[.int .i64 o0, .int .i64 o1, .int .i64 o2, .int .i64 o3, .int .i64 o4, .int .i64 o5, .int .i64 o6, .int .i64 o7, .int .i64 o8, .int .i64 o9, .int .i64 o10, .int .i64 o11] := r118.below hb9 r118.lt
    have hps9 := hps8.below hb9
    have hrs9 := hrs8.below hb9
    have hbs9 := hbs8.below hb9
    have bw9 := bw8.trans (hb9.mono bw8.size)
    clear hb9 r148 r118 hps8 hrs8 hbs8 bw8
    go_wp2_with (first | ((with_reducible refine wpList_store_new (o := ⟨none, .store _ _ _, _, _, _, _⟩) ?_ 24 (.tmp 18) (.tmp 53) ?_ ?_ _ #[.int .i64 h, .int .i64 q, .int .i64 e, .int .i64 rc, .int .i64 rl, .int .i64 b, .int .i64 v0, .int .i64 v1, .int .i64 v2, .int .i64 v3, .int .i64 v4, .int .i64 v5] ?_ ?_ ?_ ?_ ?_); rfl; rfl; rfl; rfl; kernel_rfl; rfl; kernel_rfl))
    obtain ⟨W10, hW10⟩ : ∃ z, w9.alloc (.cells #[.int .i64 h, .int .i64 q, .int .i64 e, .int .i64 rc, .int .i64 rl, .int .i64 b, .int .i64 v0, .int .i64 v1, .int .i64 v2, .int .i64 v3, .int .i64 v4, .int .i64 v5] 24) = z := ⟨_, rfl⟩
    have b10 : Below w9.heap.size w9 W10 := by rw [← hW10]; exact (Below.refl _ _).alloc (Nat.le_refl _) _
    have r18 : RowAt W10 w9.heap.size 24 #[.int .i64 h, .int .i64 q, .int .i64 e, .int .i64 rc, .int .i64 rl, .int .i64 b, .int .i64 v0, .int .i64 v1, .int .i64 v2, .int .i64 v3, .int .i64 v4, .int .i64 v5] := by rw [← hW10]; exact RowAt.new w9 _ _
    rw [hW10]
    clear hW10
    have r14e := r149.below b10 r149.lt
    have r11e := r119.below b10 r119.lt
    have pa1 := hps9.below b10
    have pa2 := hps.rows.below b10
    have ra1 := hrs9.below b10
    have ra2 := hrs.rows.below b10
    have ba1 := hbs9.below b10
    have ba2 := hbs.rows.below b10
    have HB10 := Lib.hid (bw9.trans (b10.mono bw9.size))
    obtain ⟨n18, hn18⟩ : ∃ z, w9.heap.size = z := ⟨_, rfl⟩
    rw [hn18] at r18 ⊢
    have hsl := settle_len (fewT l) ⟨h, q, e, rc, rl, b⟩ (bs.take 12)
    rw [hV] at hsl
    dsimp only at hsl
    have hfl := few_len l
    have htl12 : (bs.take 12).length ≤ 12 := by rw [List.length_take]; omega
    have SP := Lib.hid (fun W (hb : Below W10.heap.size W10 W) => samePasses_eq vp vp2 vps W (by omega) (pa1.below hb) (pa2.below hb))
    have SR := Lib.hid (fun W (hb : Below W10.heap.size W10 W) => sameReserves_eq vr vr2 vrs W (by omega) (ra1.below hb) (ra2.below hb))
    have SB := Lib.hid (fun W (hb : Below W10.heap.size W10 W) => sameBalances_eq vo vo2 vbs W (by omega) (ba1.below hb) (ba2.below hb))
    have BM := Lib.hid (fun W => balanced_any ⟨h, q, e, rc, rl, b⟩ v0 v1 v2 v3 v4 v5 W)
    have BR := Lib.hid (fun W => balanced15_any ⟨h, q, e, rc, rl, b⟩ v0 v1 v2 v3 v4 v5 W)
    have OM := Lib.hid (fun W => balanced_any ⟨o0, o1, o2, o3, o4, o5⟩ o6 o7 o8 o9 o10 o11 W)
    have OR := Lib.hid (fun W => balanced15_any ⟨o0, o1, o2, o3, o4, o5⟩ o6 o7 o8 o9 o10 o11 W)
    unfold rowC at BM BR OM OR
    dsimp only at BM BR OM OR
    obtain ⟨bb, hbb⟩ : ∃ z, balB ⟨h, q, e, rc, rl, b⟩ v0 v1 v2 v3 v4 v5 = z := ⟨_, rfl⟩
    obtain ⟨ob, hob⟩ : ∃ z, balB ⟨o0, o1, o2, o3, o4, o5⟩ o6 o7 o8 o9 o10 o11 = z := ⟨_, rfl⟩
    rw [hbb] at BM BR
    rw [hob] at OM OR
    have HC14 : Hid (∀ W', Below W10.heap.size W10 W' → ∀ j v, (#[.int .i64 h, .int .i64 q, .int .i64 e, .int .i64 rc, .int .i64 rl, .int .i64 b, .int .i64 v0, .int .i64 v1, .int .i64 v2, .int .i64 v3, .int .i64 v4, .int .i64 v5] : Array Value)[j]? = some v → W'.cell? ⟨n14, 0 + j, none⟩ = some v) := Lib.hid fun W' hb => row_cells (show W'.heap[n14]? = _ from r14e.below hb r14e.lt)
    have HC18 : Hid (∀ W', Below W10.heap.size W10 W' → ∀ j v, (#[.int .i64 h, .int .i64 q, .int .i64 e, .int .i64 rc, .int .i64 rl, .int .i64 b, .int .i64 v0, .int .i64 v1, .int .i64 v2, .int .i64 v3, .int .i64 v4, .int .i64 v5] : Array Value)[j]? = some v → W'.cell? ⟨n18, 0 + j, none⟩ = some v) := Lib.hid fun W' hb => row_cells (show W'.heap[n18]? = _ from r18.below hb r18.lt)
    have HC11 : Hid (∀ W', Below W10.heap.size W10 W' → ∀ j v, (#[.int .i64 o0, .int .i64 o1, .int .i64 o2, .int .i64 o3, .int .i64 o4, .int .i64 o5, .int .i64 o6, .int .i64 o7, .int .i64 o8, .int .i64 o9, .int .i64 o10, .int .i64 o11] : Array Value)[j]? = some v → W'.cell? ⟨w.heap.size + 2, 0 + j, none⟩ = some v) := Lib.hid fun W' hb => row_cells (show W'.heap[w.heap.size + 2]? = _ from r11e.below hb r11e.lt)
    clear b10 r14e r11e pa1 pa2 ra1 ra2 ba1 ba2 hsl hfl htl12 hbb hob r149 r119 hps9 hrs9 hbs9 hps hrs hbs bw9 hn18 r18 hV HK8 HTL HIB HRW HRW8 HR70 HR116 HBW6
    refine wp_region_held_drew (S := fun W' => Below W10.heap.size W10 W') (by kernel_rfl) (Below.refl _ _).drew (fun hHeld => ?_)
    refine wpAnyH_take (i := 0) (oi := ⟨_, _, _, _, _, _⟩) (v := ?_) rfl (by kernel_rfl) (by kernel_rfl) (by kernel_rfl) (fun _ _ _ h => h) (Or.inl ⟨by rfl, ?_⟩) (by assumption) ?_
    rotate_left
    · intro w hSw
      go_simp
      all_goals with_reducible rfl
    simp only [Act.put, List.setIfInBounds_toArray, List.set_cons_zero, List.set_cons_succ]
    refine wpAnyH_take (i := 1) (oi := ⟨_, _, _, _, _, _⟩) (v := ?_) rfl (by kernel_rfl) (by kernel_rfl) (by kernel_rfl) (fun _ _ _ h => h) (Or.inl ⟨by rfl, ?_⟩) (by assumption) ?_
    rotate_left
    · intro w hSw
      go_simp
      all_goals with_reducible rfl
    simp only [Act.put, List.setIfInBounds_toArray, List.set_cons_zero, List.set_cons_succ]
    refine wpAnyH_take (i := 2) (oi := ⟨_, _, _, _, _, _⟩) rfl (by kernel_rfl) (by kernel_rfl) (by kernel_rfl) (fun _ _ _ h => h) (yieldsIf_load_at 24 (.tmp 14) n14 0 #[.int .i64 h, .int .i64 q, .int .i64 e, .int .i64 rc, .int .i64 rl, .int .i64 b, .int .i64 v0, .int .i64 v1, .int .i64 v2, .int .i64 v3, .int .i64 v4, .int .i64 v5] _ HC14.out rfl (by rfl) rfl rfl rfl rfl) (by assumption) ?_
    simp only [Act.put, List.setIfInBounds_toArray, List.set_cons_zero, List.set_cons_succ]
    refine wpAnyH_take (i := 3) (oi := ⟨_, _, _, _, _, _⟩) rfl (by kernel_rfl) (by kernel_rfl) (by kernel_rfl) (fun _ _ _ h => h) (yieldsIf_load_at 24 (.tmp 18) n18 0 #[.int .i64 h, .int .i64 q, .int .i64 e, .int .i64 rc, .int .i64 rl, .int .i64 b, .int .i64 v0, .int .i64 v1, .int .i64 v2, .int .i64 v3, .int .i64 v4, .int .i64 v5] _ HC18.out rfl (by rfl) rfl rfl rfl rfl) (by assumption) ?_
    simp only [Act.put, List.setIfInBounds_toArray, List.set_cons_zero, List.set_cons_succ]
    refine wpAnyH_take (i := 4) (oi := ⟨_, _, _, _, _, _⟩) (v := ?_) rfl (by kernel_rfl) (by kernel_rfl) (by kernel_rfl) (fun _ _ _ h => h) (Or.inl ⟨by rfl, ?_⟩) (by assumption) ?_
    rotate_left
    · intro w hSw
      have hE := row_eq h q e rc rl b v0 v1 v2 v3 v4 v5 w
      go_simp
      all_goals with_reducible rfl
    simp only [Act.put, List.setIfInBounds_toArray, List.set_cons_zero, List.set_cons_succ]
    refine wpAnyH_take (i := 5) (oi := ⟨_, _, _, _, _, _⟩) (v := ?_) rfl (by kernel_rfl) (by kernel_rfl) (by kernel_rfl) (fun _ _ _ h => h) (Or.inl ⟨by rfl, ?_⟩) (by assumption) ?_
    rotate_left
    · intro w hSw
      go_simp
      all_goals with_reducible rfl
    simp only [Act.put, List.setIfInBounds_toArray, List.set_cons_zero, List.set_cons_succ]
    refine wpAnyH_take (i := 6) (oi := ⟨_, _, _, _, _, _⟩) (v := ?_) rfl (by kernel_rfl) (by kernel_rfl) (by kernel_rfl) (fun _ _ _ h => h) (Or.inl ⟨by rfl, ?_⟩) (by assumption) ?_
    rotate_left
    · intro w hSw
      go_simp
      all_goals with_reducible rfl
    simp only [Act.put, List.setIfInBounds_toArray, List.set_cons_zero, List.set_cons_succ]
    refine wpAnyH_take (i := 7) (oi := ⟨_, _, _, _, _, _⟩) (v := ?_) rfl (by kernel_rfl) (by kernel_rfl) (by kernel_rfl) (fun _ _ _ h => h) (Or.inl ⟨by rfl, ?_⟩) (by assumption) ?_
    rotate_left
    · intro w hSw
      go_simp
      all_goals with_reducible rfl
    simp only [Act.put, List.setIfInBounds_toArray, List.set_cons_zero, List.set_cons_succ]
    refine wpAnyH_take (i := 8) (oi := ⟨_, _, _, _, _, _⟩) (v := ?_) rfl (by kernel_rfl) (by kernel_rfl) (by kernel_rfl) (fun _ _ _ h => h) (Or.inl ⟨by rfl, ?_⟩) (by assumption) ?_
    rotate_left
    · intro w hSw
      go_simp
      all_goals with_reducible rfl
    simp only [Act.put, List.setIfInBounds_toArray, List.set_cons_zero, List.set_cons_succ]
    refine wpAnyH_ready (rs := [9]) (by kernel_rfl) (by simp) ?_
    refine AllReadyH.cons (o := ⟨_, _, _, _, _, _⟩) rfl (fun K hK => ?_) AllReadyH.nil
    go_simp
    (go_at_call 17; refine (SP.out _ (Below.refl W10.heap.size W10).drew).mono ?_; rintro e w19 ⟨rfl, hb⟩)
    have Sw19 : Below W10.heap.size W10 w19 := (Below.refl W10.heap.size W10).drew.trans (hb.mono (Below.refl W10.heap.size W10).drew.size)
    have Dw19 := Sw19
    clear hb
    go_wp2_with fail
    refine hK.out _ _ Sw19 (fun hHeld => ?_)
    clear hK K
    try simp only [Act.put, List.setIfInBounds_toArray, List.set_cons_zero, List.set_cons_succ]
    refine wpAnyH_take (i := 10) (oi := ⟨_, _, _, _, _, _⟩) (v := ?_) rfl (by kernel_rfl) (by kernel_rfl) (by kernel_rfl) (fun _ _ _ h => h) (Or.inl ⟨by rfl, ?_⟩) (by assumption) ?_
    rotate_left
    · intro w hSw
      go_simp
      all_goals with_reducible rfl
    simp only [Act.put, List.setIfInBounds_toArray, List.set_cons_zero, List.set_cons_succ]
    refine wpAnyH_take (i := 11) (oi := ⟨_, _, _, _, _, _⟩) (v := ?_) rfl (by kernel_rfl) (by kernel_rfl) (by kernel_rfl) (fun _ _ _ h => h) (Or.inl ⟨by rfl, ?_⟩) (by assumption) ?_
    rotate_left
    · intro w hSw
      go_simp
      all_goals with_reducible rfl
    simp only [Act.put, List.setIfInBounds_toArray, List.set_cons_zero, List.set_cons_succ]
    refine wpAnyH_take (i := 12) (oi := ⟨_, _, _, _, _, _⟩) (v := ?_) rfl (by kernel_rfl) (by kernel_rfl) (by kernel_rfl) (fun _ _ _ h => h) (Or.inl ⟨by rfl, ?_⟩) (by assumption) ?_
    rotate_left
    · intro w hSw
      go_simp
      all_goals with_reducible rfl
    simp only [Act.put, List.setIfInBounds_toArray, List.set_cons_zero, List.set_cons_succ]
    refine wpAnyH_take (i := 13) (oi := ⟨_, _, _, _, _, _⟩) (v := ?_) rfl (by kernel_rfl) (by kernel_rfl) (by kernel_rfl) (fun _ _ _ h => h) (Or.inl ⟨by rfl, ?_⟩) (by assumption) ?_
    rotate_left
    · intro w hSw
      go_simp
      all_goals with_reducible rfl
    simp only [Act.put, List.setIfInBounds_toArray, List.set_cons_zero, List.set_cons_succ]
    refine wpAnyH_ready (rs := [14]) (by kernel_rfl) (by simp) ?_
    refine AllReadyH.cons (o := ⟨_, _, _, _, _, _⟩) rfl (fun K hK => ?_) AllReadyH.nil
    go_simp
    (go_at_call 18; refine (SR.out _ Sw19).mono ?_; rintro e w24 ⟨rfl, hb⟩)
    have Sw24 : Below W10.heap.size W10 w24 := Sw19.trans (hb.mono Sw19.size)
    have Dw24 := Sw24
    clear hb
    go_wp2_with fail
    refine hK.out _ _ Sw24 (fun hHeld => ?_)
    clear hK K
    try simp only [Act.put, List.setIfInBounds_toArray, List.set_cons_zero, List.set_cons_succ]
    refine wpAnyH_take (i := 15) (oi := ⟨_, _, _, _, _, _⟩) (v := ?_) rfl (by kernel_rfl) (by kernel_rfl) (by kernel_rfl) (fun _ _ _ h => h) (Or.inl ⟨by rfl, ?_⟩) (by assumption) ?_
    rotate_left
    · intro w hSw
      go_simp
      all_goals with_reducible rfl
    simp only [Act.put, List.setIfInBounds_toArray, List.set_cons_zero, List.set_cons_succ]
    refine wpAnyH_take (i := 16) (oi := ⟨_, _, _, _, _, _⟩) (v := ?_) rfl (by kernel_rfl) (by kernel_rfl) (by kernel_rfl) (fun _ _ _ h => h) (Or.inl ⟨by rfl, ?_⟩) (by assumption) ?_
    rotate_left
    · intro w hSw
      go_simp
      all_goals with_reducible rfl
    simp only [Act.put, List.setIfInBounds_toArray, List.set_cons_zero, List.set_cons_succ]
    refine wpAnyH_take (i := 17) (oi := ⟨_, _, _, _, _, _⟩) (v := ?_) rfl (by kernel_rfl) (by kernel_rfl) (by kernel_rfl) (fun _ _ _ h => h) (Or.inl ⟨by rfl, ?_⟩) (by assumption) ?_
    rotate_left
    · intro w hSw
      go_simp
      all_goals with_reducible rfl
    simp only [Act.put, List.setIfInBounds_toArray, List.set_cons_zero, List.set_cons_succ]
    refine wpAnyH_take (i := 18) (oi := ⟨_, _, _, _, _, _⟩) (v := ?_) rfl (by kernel_rfl) (by kernel_rfl) (by kernel_rfl) (fun _ _ _ h => h) (Or.inl ⟨by rfl, ?_⟩) (by assumption) ?_
    rotate_left
    · intro w hSw
      go_simp
      all_goals with_reducible rfl
    simp only [Act.put, List.setIfInBounds_toArray, List.set_cons_zero, List.set_cons_succ]
    refine wpAnyH_ready (rs := [19]) (by kernel_rfl) (by simp) ?_
    refine AllReadyH.cons (o := ⟨_, _, _, _, _, _⟩) rfl (fun K hK => ?_) AllReadyH.nil
    go_simp
    (go_at_call 19; refine (SB.out _ Sw24).mono ?_; rintro e w29 ⟨rfl, hb⟩)
    have Sw29 : Below W10.heap.size W10 w29 := Sw24.trans (hb.mono Sw24.size)
    have Dw29 := Sw29
    clear hb
    go_wp2_with fail
    refine hK.out _ _ Sw29 (fun hHeld => ?_)
    clear hK K
    try simp only [Act.put, List.setIfInBounds_toArray, List.set_cons_zero, List.set_cons_succ]
    refine wpAnyH_take (i := 20) (oi := ⟨_, _, _, _, _, _⟩) (v := ?_) rfl (by kernel_rfl) (by kernel_rfl) (by kernel_rfl) (fun _ _ _ h => h) (Or.inl ⟨by rfl, ?_⟩) (by assumption) ?_
    rotate_left
    · intro w hSw
      go_simp
      all_goals with_reducible rfl
    simp only [Act.put, List.setIfInBounds_toArray, List.set_cons_zero, List.set_cons_succ]
    refine wpAnyH_take (i := 21) (oi := ⟨_, _, _, _, _, _⟩) (v := ?_) rfl (by kernel_rfl) (by kernel_rfl) (by kernel_rfl) (fun _ _ _ h => h) (Or.inl ⟨by rfl, ?_⟩) (by assumption) ?_
    rotate_left
    · intro w hSw
      go_simp
      all_goals with_reducible rfl
    simp only [Act.put, List.setIfInBounds_toArray, List.set_cons_zero, List.set_cons_succ]
    refine wpAnyH_take (i := 22) (oi := ⟨_, _, _, _, _, _⟩) rfl (by kernel_rfl) (by kernel_rfl) (by kernel_rfl) (fun _ _ _ h => h) (yieldsIf_load_at 24 (.tmp 14) n14 0 #[.int .i64 h, .int .i64 q, .int .i64 e, .int .i64 rc, .int .i64 rl, .int .i64 b, .int .i64 v0, .int .i64 v1, .int .i64 v2, .int .i64 v3, .int .i64 v4, .int .i64 v5] _ HC14.out rfl (by rfl) rfl rfl rfl rfl) (by assumption) ?_
    simp only [Act.put, List.setIfInBounds_toArray, List.set_cons_zero, List.set_cons_succ]
    refine wpAnyH_take (i := 24) (oi := ⟨_, _, _, _, _, _⟩) rfl (by kernel_rfl) (by kernel_rfl) (by kernel_rfl) (fun _ _ _ h => h) (yieldsIf_load_at 24 (.tmp 14) n14 0 #[.int .i64 h, .int .i64 q, .int .i64 e, .int .i64 rc, .int .i64 rl, .int .i64 b, .int .i64 v0, .int .i64 v1, .int .i64 v2, .int .i64 v3, .int .i64 v4, .int .i64 v5] _ HC14.out rfl (by rfl) rfl rfl rfl rfl) (by assumption) ?_
    simp only [Act.put, List.setIfInBounds_toArray, List.set_cons_zero, List.set_cons_succ]
    refine wpAnyH_ready (rs := [23]) (by kernel_rfl) (by simp) ?_
    refine AllReadyH.cons (o := ⟨_, _, _, _, _, _⟩) rfl (fun K hK => ?_) AllReadyH.nil
    go_simp
    (go_at_call 20; refine (BM.out _).mono ?_; rintro e w23 ⟨rfl, hb⟩)
    have Sw23 : Below W10.heap.size W10 w23 := Sw29.trans (hb.mono Sw29.size)
    have Dw23 := Sw23
    clear hb
    go_wp2_with fail
    refine hK.out _ _ Sw23 (fun hHeld => ?_)
    clear hK K
    try simp only [Act.put, List.setIfInBounds_toArray, List.set_cons_zero, List.set_cons_succ]
    refine wpAnyH_ready (rs := [25]) (by kernel_rfl) (by simp) ?_
    refine AllReadyH.cons (o := ⟨_, _, _, _, _, _⟩) rfl (fun K hK => ?_) AllReadyH.nil
    go_simp
    (go_at_call 21; refine (BR.out _).mono ?_; rintro e w25 ⟨rfl, hb⟩)
    have Sw25 : Below W10.heap.size W10 w25 := Sw23.trans (hb.mono Sw23.size)
    have Dw25 := Sw25
    clear hb
    go_wp2_with fail
    refine hK.out _ _ Sw25 (fun hHeld => ?_)
    clear hK K
    try simp only [Act.put, List.setIfInBounds_toArray, List.set_cons_zero, List.set_cons_succ]
    refine wpAnyH_take (i := 26) (oi := ⟨_, _, _, _, _, _⟩) (v := ?_) rfl (by kernel_rfl) (by kernel_rfl) (by kernel_rfl) (fun _ _ _ h => h) (Or.inl ⟨by rfl, ?_⟩) (by assumption) ?_
    rotate_left
    · intro w hSw
      go_simp
      all_goals with_reducible rfl
    simp only [Act.put, List.setIfInBounds_toArray, List.set_cons_zero, List.set_cons_succ]
    refine wpAnyH_take (i := 27) (oi := ⟨_, _, _, _, _, _⟩) (v := ?_) rfl (by kernel_rfl) (by kernel_rfl) (by kernel_rfl) (fun _ _ _ h => h) (Or.inl ⟨by rfl, ?_⟩) (by assumption) ?_
    rotate_left
    · intro w hSw
      go_simp
      all_goals with_reducible rfl
    simp only [Act.put, List.setIfInBounds_toArray, List.set_cons_zero, List.set_cons_succ]
    refine wpAnyH_take (i := 28) (oi := ⟨_, _, _, _, _, _⟩) (v := ?_) rfl (by kernel_rfl) (by kernel_rfl) (by kernel_rfl) (fun _ _ _ h => h) (Or.inl ⟨by rfl, ?_⟩) (by assumption) ?_
    rotate_left
    · intro w hSw
      go_simp
      all_goals with_reducible rfl
    simp only [Act.put, List.setIfInBounds_toArray, List.set_cons_zero, List.set_cons_succ]
    refine wpAnyH_take (i := 29) (oi := ⟨_, _, _, _, _, _⟩) rfl (by kernel_rfl) (by kernel_rfl) (by kernel_rfl) (fun _ _ _ h => h) (yieldsIf_load_at 24 (.tmp 11) (w.heap.size + 2) 0 #[.int .i64 o0, .int .i64 o1, .int .i64 o2, .int .i64 o3, .int .i64 o4, .int .i64 o5, .int .i64 o6, .int .i64 o7, .int .i64 o8, .int .i64 o9, .int .i64 o10, .int .i64 o11] _ HC11.out rfl (by rfl) rfl rfl rfl rfl) (by assumption) ?_
    simp only [Act.put, List.setIfInBounds_toArray, List.set_cons_zero, List.set_cons_succ]
    refine wpAnyH_take (i := 31) (oi := ⟨_, _, _, _, _, _⟩) rfl (by kernel_rfl) (by kernel_rfl) (by kernel_rfl) (fun _ _ _ h => h) (yieldsIf_load_at 24 (.tmp 11) (w.heap.size + 2) 0 #[.int .i64 o0, .int .i64 o1, .int .i64 o2, .int .i64 o3, .int .i64 o4, .int .i64 o5, .int .i64 o6, .int .i64 o7, .int .i64 o8, .int .i64 o9, .int .i64 o10, .int .i64 o11] _ HC11.out rfl (by rfl) rfl rfl rfl rfl) (by assumption) ?_
    simp only [Act.put, List.setIfInBounds_toArray, List.set_cons_zero, List.set_cons_succ]
    refine wpAnyH_ready (rs := [30]) (by kernel_rfl) (by simp) ?_
    refine AllReadyH.cons (o := ⟨_, _, _, _, _, _⟩) rfl (fun K hK => ?_) AllReadyH.nil
    go_simp
    (go_at_call 20; refine (OM.out _).mono ?_; rintro e w30 ⟨rfl, hb⟩)
    have Sw30 : Below W10.heap.size W10 w30 := Sw25.trans (hb.mono Sw25.size)
    have Dw30 := Sw30
    clear hb
    go_wp2_with fail
    refine hK.out _ _ Sw30 (fun hHeld => ?_)
    clear hK K
    try simp only [Act.put, List.setIfInBounds_toArray, List.set_cons_zero, List.set_cons_succ]
    refine wpAnyH_ready (rs := [32]) (by kernel_rfl) (by simp) ?_
    refine AllReadyH.cons (o := ⟨_, _, _, _, _, _⟩) rfl (fun K hK => ?_) AllReadyH.nil
    go_simp
    (go_at_call 21; refine (OR.out _).mono ?_; rintro e w32 ⟨rfl, hb⟩)
    have Sw32 : Below W10.heap.size W10 w32 := Sw30.trans (hb.mono Sw30.size)
    have Dw32 := Sw32
    clear hb
    go_wp2_with fail
    refine hK.out _ _ Sw32 (fun hHeld => ?_)
    clear hK K
    try simp only [Act.put, List.setIfInBounds_toArray, List.set_cons_zero, List.set_cons_succ]
    refine wpAnyH_take (i := 33) (oi := ⟨_, _, _, _, _, _⟩) (v := ?_) rfl (by kernel_rfl) (by kernel_rfl) (by kernel_rfl) (fun _ _ _ h => h) (Or.inl ⟨by rfl, ?_⟩) (by assumption) ?_
    rotate_left
    · intro w hSw
      go_simp
      all_goals with_reducible rfl
    simp only [Act.put, List.setIfInBounds_toArray, List.set_cons_zero, List.set_cons_succ]
    refine wpAnyH_take (i := 34) (oi := ⟨_, _, _, _, _, _⟩) (v := ?_) rfl (by kernel_rfl) (by kernel_rfl) (by kernel_rfl) (fun _ _ _ h => h) (Or.inl ⟨by rfl, ?_⟩) (by assumption) ?_
    rotate_left
    · intro w hSw
      go_simp
      all_goals with_reducible rfl
    simp only [Act.put, List.setIfInBounds_toArray, List.set_cons_zero, List.set_cons_succ]
    refine wpAnyH_take (i := 35) (oi := ⟨_, _, _, _, _, _⟩) (v := ?_) rfl (by kernel_rfl) (by kernel_rfl) (by kernel_rfl) (fun _ _ _ h => h) (Or.inl ⟨by rfl, ?_⟩) (by assumption) ?_
    rotate_left
    · intro w hSw
      go_simp
      all_goals with_reducible rfl
    simp only [Act.put, List.setIfInBounds_toArray, List.set_cons_zero, List.set_cons_succ]
    refine wpAnyH_done (by kernel_rfl) ?_ _
    have HBE := Lib.hid (HB10.out.trans (Sw32.mono HB10.out.size))
    clear hHeld
    go_wp2_with fail
    go_ret
    exact ⟨rfl, HBE.out⟩

end Go.Proofs.Ytejkgnlflhngbaa
