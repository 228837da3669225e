/- royaltylaw16.ExchangePeriods returns true. -/
import Derived.Test.YtdackmefkccipaaLpA
namespace Go.Proofs.Ytdackmefkccipaa
open Go Go.RowKit Go.Lib Go.Shelf

theorem own_single (w : World) (f : FactV) : OwnF (w.alloc (.cells f.cells 41)) w.heap.size (.slice (some ⟨w.heap.size, 0, none⟩) 1 1) [f] :=
  ⟨by rw [fCells_len], .inr ⟨w.heap.size, 1, f.cells, rfl, Nat.le_refl _, heap_alloc_last w _, Nat.le_refl _, by unfold maxLen; omega, rfl, by
    have h : f.cells.toList.length ≤ 1 * 18 := by rw [Array.length_toList, FactV.cells_size]; exact Nat.le_refl _
    show f.cells.toList.take (1 * 18) = fCells [f]
    rw [List.take_of_length_le h]; simp [fCells]⟩⟩
theorem wpList_append_facts {ops : Array Oper} {rest : List Oper} {o : Oper} {a : Act} {w : World} {Q : Exit → Act → World → Prop} (s x : Operand) (base : Nat) (L R : List FactV) (v xv : Value) (hown : OwnF w base v L) (hR : FactsAt w xv R) (hlen : L.length + R.length ≤ 1000000) (hbase : base ≤ w.heap.size)
    (hgd : o.guard = none) (ho : o.op = .call { callee := .builtin .append, args := #[s, x], argTypes := #[23, 23] })
    (hs : a.eval s = v) (hx : a.eval x = xv)
    (h : ∀ v' w', OwnF w' base v' (L ++ R) → Below base w w' → wpList Try.prog ops Q rest (a.put o.dst v') w') : wpList Try.prog ops Q (o :: rest) a w :=
  wpList_plain hgd fun _ hK => wp_append_facts s x base L R v xv hown hR hlen hbase ho hs hx fun v' w' h1 h2 => hK _ _ (h v' w' h1 h2)
structure Kept (T : Prop) : Prop where
  out : T
theorem merge {G T : Prop} (h : Kept T → G) (t : T) : G := h ⟨t⟩
/-- the further rate -/
def mkv (p a c : Int) : FactV := ⟨fun j => match j with | 0 => 7 | 2 => 2 | 3 => p | 13 => a | 15 => c | _ => 0, ⟨#[]⟩⟩
theorem FactsAt.sliceP {w : World} {v : Value} {l : List FactV} (h : FactsAt w v l) : ∃ A c, v = .slice A l.length c := by
  rcases h with ⟨rfl, A, c, rfl⟩ | ⟨b, o, c, rfl, _⟩
  · exact ⟨A, c, rfl⟩
  · exact ⟨_, c, rfl⟩

set_option maxRecDepth 100000 in
set_option maxHeartbeats 8000000 in
theorem periods_yes (X : Nat → Nat → Int) (m : Nat) (v0 : Value) (m0 m1 m2 ter pp : Int) (w : World) (hm : m ≤ 140737488351232) (hx : XsAt w v0 m X)
    (a1 : -9223372036854775808 ≤ m0) (a2 : m0 ≤ 9223372036854775807) (b1 : -9223372036854775808 ≤ m1) (b2 : m1 ≤ 9223372036854775807) (d1 : -9223372036854775808 ≤ m2) (d2 : m2 ≤ 9223372036854775807) (c1 : -9223372036854775808 ≤ ter) (c2 : ter ≤ 9223372036854775807) (p1 : -9223372036854775808 ≤ pp) (p2 : pp ≤ 9223372036854775807) :
    Calls Try.prog 5 #[v0, .agg #[.int .i64 m0, .int .i64 m1, .int .i64 m2], .int .i64 ter, .int .i64 pp] w fun e w' => e = .returned (.bool true) ∧ Below w.heap.size w w' := by
  have HX := Lib.hid hx
  have HM := Lib.hid hm
  have P0 := Lib.hid (fun W => pick_any m0 4 W a1 a2 (by omega) (by omega))
  have P1 := Lib.hid (fun W => pick_any m1 3 W b1 b2 (by omega) (by omega))
  have P2 := Lib.hid (fun W => pick_any m2 10000000 W d1 d2 (by omega) (by omega))
  have PT := Lib.hid (fun W => pick_any ter 3 W c1 c2 (by omega) (by omega))
  have PQ := Lib.hid (fun W => pick_any pp 3 W p1 p2 (by omega) (by omega))
  have r0 := pickN_range m0 4 (by omega)
  have r1 := pickN_range m1 3 (by omega)
  have r2 := pickN_range m2 10000000 (by omega)
  obtain ⟨t, ht⟩ : ∃ x, pickN ter 3 = x := ⟨_, rfl⟩
  obtain ⟨q, hq⟩ : ∃ x, pickN pp 3 = x := ⟨_, rfl⟩
  obtain ⟨y0, hy0⟩ : ∃ x, pickN m0 4 = x := ⟨_, rfl⟩
  obtain ⟨y1, hy1⟩ : ∃ x, pickN m1 3 = x := ⟨_, rfl⟩
  obtain ⟨y2, hy2⟩ : ∃ x, pickN m2 10000000 = x := ⟨_, rfl⟩
  rw [ht] at PT
  rw [hq] at PQ
  rw [hy0] at P0 r0
  rw [hy1] at P1 r1
  rw [hy2] at P2 r2
  have R0 := Lib.hid r0
  have R1 := Lib.hid r1
  have R2 := Lib.hid r2
  clear ht hq hy0 hy1 hy2 hx hm a1 a2 b1 b2 c1 c2 d1 d2 p1 p2 r0 r1 r2
  go_enter Try.func5, Try.ntmps5
  go_wp2_with fail
  refine (sane_yes _).mono ?_
  rintro e w1 ⟨rfl, hb1⟩
  have hm3 : Below w.heap.size w w1 := ((Below.refl _ _).alloc (Nat.le_refl _) _).trans (hb1.mono (by simp))
  have hrw : w1.heap[w.heap.size]? = some (.cells #[.int .i64 m0, .int .i64 m1, .int .i64 m2] 39 (0, 0)) := (hb1.block _ (by simp)).trans (heap_alloc_last w _)
  have B1 := Lib.hid hm3
  have HRW := Lib.hid hrw
  have HX1 := Lib.hid (HX.out.below hm3)
  clear hb1 hm3 hrw
  go_wp2_with fail
  refine (make_some X m v0 w1 HM.out HX1.out).mono ?_
  rintro e w2 ⟨a, b, cc, rfl, hmb, hb⟩
  obtain ⟨R5, R6, R7, hl⟩ := hmb.lists
  obtain ⟨AL, cL, rfl⟩ := hl.f7.sliceP
  obtain ⟨A5, c5, rfl⟩ := hl.f5.sliceP
  have B2 := Lib.hid (B1.out.trans (hb.mono B1.out.size))
  have HL := Lib.hid hl
  have HRW2 := Lib.hid ((hb.block _ (Array.getElem?_eq_some_iff.1 HRW.out).1).trans HRW.out)
  clear hmb hb hl
  go_wp2_with (first | ((with_reducible refine store_base (o := ⟨none, .store _ _ _, _, _, _, _⟩) (.tmp 10) (.tmp 22) (bv (.slice A5 R5.length c5) b (.slice AL R7.length cL)) _ ?_ ?_ ?_ ?_ ?_ HL.out.ones ?_); rfl; rfl; rfl; rfl; rfl))
  obtain ⟨nb, hnb⟩ : ∃ x, w2.heap.size = x := ⟨_, rfl⟩
  obtain ⟨W, hW⟩ : ∃ W, w2.alloc (.cells (bv (.slice A5 R5.length c5) b (.slice AL R7.length cL)).cells 26) = W := ⟨_, rfl⟩
  have k0 : W.heap[nb]? = some (.cells (bv (.slice A5 R5.length c5) b (.slice AL R7.length cL)).cells 26 (0, 0)) := by rw [← hW, ← hnb]; exact heap_alloc_last w2 _
  have hl : Lists W (.slice A5 R5.length c5) b (.slice AL R7.length cL) R5 R6 R7 := by rw [← hW]; exact HL.out.below ((Below.refl _ _).alloc (Nat.le_refl _) _)
  have B3 : Hid (Below w.heap.size w W) := Lib.hid (by rw [← hW]; exact B2.out.alloc B2.out.size _)
  have km : W.heap[w.heap.size]? = some (.cells #[.int .i64 m0, .int .i64 m1, .int .i64 m2] 39 (0, 0)) := by rw [← hW]; exact (Below.heap_alloc _ _ _ (Array.getElem?_eq_some_iff.1 HRW2.out).1).trans HRW2.out
  rw [hW, hnb]
  have hkey : ∀ Wc, Below W.heap.size W Wc → Wc.heap[nb]? = some (.cells (bv (.slice A5 R5.length c5) b (.slice AL R7.length cL)).cells 26 (0, 0)) ∧ Lists Wc (.slice A5 R5.length c5) b (.slice AL R7.length cL) R5 R6 R7 ∧ Wc.heap[w.heap.size]? = some (.cells #[.int .i64 m0, .int .i64 m1, .int .i64 m2] 39 (0, 0)) := fun Wc h => ⟨(h.block _ (Array.getElem?_eq_some_iff.1 k0).1).trans k0, hl.below h, (h.block _ (Array.getElem?_eq_some_iff.1 km).1).trans km⟩
  have HKEY := Lib.hid hkey
  have hltb := (Array.getElem?_eq_some_iff.1 k0).1
  clear hW hnb B2 HL HRW HRW2 HX HX1 HM B1 hkey k0 km hl
  refine (PT.out _).mono ?_
  rintro e w' ⟨rfl, rfl⟩
  go_wp2_with fail
  refine (PQ.out _).mono ?_
  rintro e w' ⟨rfl, rfl⟩
  have K1 := Lib.hid (HKEY.out W (Below.refl _ _)).1
  have HL := Lib.hid (HKEY.out W (Below.refl _ _)).2.1
  go_wp2_with (first | ((with_reducible refine wpList_stop (o := ⟨some 28, _, _, _, _, _⟩) ?_)) | ((with_reducible refine load_base (o := ⟨some 27, _, _, _, _, _⟩) (.tmp 10) nb (bv (.slice A5 R5.length c5) b (.slice AL R7.length cL)) K1.out ?_ ?_ ?_ ?_); rfl; rfl; rfl) | ((with_reducible refine store_base (o := ⟨none, .store _ _ _, _, _, _, _⟩) (.tmp 13) (.tmp 27) (bv (.slice A5 R5.length c5) b (.slice AL R7.length cL)) _ ?_ ?_ ?_ ?_ ?_ HL.out.ones ?_); rfl; rfl; rfl; rfl; rfl))
  unfold Stop
  have hw6 : (W.alloc (.cells (bv (.slice A5 R5.length c5) b (.slice AL R7.length cL)).cells 26)).cell? ⟨W.heap.size, 6, none⟩ = some (.slice AL R7.length cL) := cell_of_row _ _ 6 _ _ _ (heap_alloc_last W _)
  have hf6 : (W.alloc (.cells (bv (.slice A5 R5.length c5) b (.slice AL R7.length cL)).cells 26)).frozen? ⟨W.heap.size, 6, none⟩ = false := RowAt.free (RowAt.new W 26 _) 6
  go_wp2_with fail
  obtain ⟨V1, hV1⟩ : ∃ V, W.alloc (.cells ((bv (.slice A5 R5.length c5) b (.slice AL R7.length cL)).cells.setIfInBounds 6 (.slice none 0 0)) 26) = V := ⟨_, rfl⟩
  have hro : RowAt V1 W.heap.size 26 (bv (.slice A5 R5.length c5) b (.slice none 0 0)).cells := by rw [← hV1]; exact RowAt.new W 26 _
  have hbv : Below W.heap.size W V1 := by rw [← hV1]; exact (Below.refl _ _).alloc (Nat.le_refl _) _
  rw [hV1]
  clear hV1 hw6 hf6
  have HRV := Lib.hid hro
  have HBV := Lib.hid hbv
  have HR7 := Lib.hid (show R7.length ≤ 40 by have := HL.out.len; omega)
  clear hro hbv K1
  go_loopw [14] (fun iv wr => ∃ i : Nat, i ≤ R7.length ∧ iv = .int .i64 i ∧ Hid (∃ v6 L, RowAt wr W.heap.size 26 (bv (.slice A5 R5.length c5) b v6).cells ∧ OwnF wr (W.heap.size + 1) v6 L ∧ L = (R7.take i).filter (fun f => f.n 3 == q) ∧ Below W.heap.size W wr)) (fun i _ => R7.length - (intOf i).toNat)
  case atStart => exact ⟨0, by omega, rfl, Lib.hid ⟨_, [], HRV.out, OwnF.nil _ _, by simp, HBV.out⟩⟩
  case round =>
    obtain ⟨i, hi, rfl, HR⟩ := hrel
    obtain ⟨v6, L, hro, how, hL, hbi⟩ := HR.out
    have hr40 := HR7.out
    have HRO := Lib.hid hro
    have HOW := Lib.hid how
    have HBi := Lib.hid hbi
    have HLE := Lib.hid hL
    have hlto : W.heap.size < wr.heap.size := hro.lt
    have cb6 : wr.cell? ⟨nb, 6, none⟩ = some (.slice AL R7.length cL) := cell_of_row _ _ 6 _ _ _ (HKEY.out wr hbi).1
    have HLL := Lib.hid (show L.length ≤ 40 by rw [hL]; have h1 := List.length_filter_le (fun f : FactV => f.n 3 == q) (R7.take i); rw [List.length_take] at h1; have := HR7.out; omega)
    clear HR hL
    by_cases hi2 : i < R7.length
    · obtain ⟨f, hf⟩ : ∃ f, R7[i]? = some f := ⟨_, List.getElem?_eq_getElem hi2⟩
      obtain ⟨b5, o5, hA, hb5, hcl⟩ : ∃ b o, AL = some ⟨b, o, none⟩ ∧ b < W.heap.size ∧ ∀ j x, f.cells[j]? = some x → W.cell? ⟨b, o + i * 18 + j, none⟩ = some x := by
        rcases HL.out.f7 with ⟨hnil, _⟩ | ⟨b, o, c, he, hb, hc⟩
        · rw [hnil] at hf; simp at hf
        · simp only [Value.slice.injEq] at he
          exact ⟨b, o, he.1, hb, fun j x hx => hc i f hf j x hx⟩
      subst hA
      have hrg : ∀ W', Below W.heap.size W W' → ∀ j x, f.cells[j]? = some x → W'.cell? ⟨b5, o5 + i * 18 + j, none⟩ = some x := fun W' h j x hx => (h.cell (p := ⟨b5, o5 + i * 18 + j, none⟩) hb5).trans (hcl j x hx)
      have HRG := Lib.hid hrg
      have C6 : Hid (∀ W', Below W.heap.size W W' → W'.cell? ⟨nb, 6, none⟩ = some (.slice (some ⟨b5, o5, none⟩) R7.length cL)) := Lib.hid fun W' h => cell_of_row _ _ 6 _ _ _ (HKEY.out W' h).1
      have HFT := Lib.hid (filter_take (q := q) hf)
      obtain ⟨x3, hx3⟩ : ∃ x, f.n 3 = x := ⟨_, rfl⟩
      have cf3 : wr.cell? ⟨b5, o5 + i * 18 + 3, none⟩ = some (.int .i64 x3) := by rw [← hx3]; exact hrg wr hbi 3 _ rfl
      have HX3 := Lib.hid hx3
      clear hf hcl hrg hx3 hro how hbi
      by_cases h3 : x3 = q
      · have q3 : (x3 == q) = true := by rw [beq_iff_eq]; exact h3
        have HQT : Hid ((if f.n 3 == q then [f] else []) = [f]) := Lib.hid (by rw [HX3.out, q3]; rfl)
        have co6 : wr.cell? ⟨W.heap.size, 6, none⟩ = some v6 := HRO.out.cell 6
        rw [← HLE.out] at HFT
        clear h3 HLE
        go_wp2_with fail
        refine wp_region_held_drew (S := fun W' => Below W.heap.size W W') (by kernel_rfl) HBi.out.drew (fun hHeld => ?_)
        refine wpAnyH_take (i := 0) (oi := ⟨_, _, _, _, _, _⟩) (v := ?_) rfl (by kernel_rfl) (by kernel_rfl) (by kernel_rfl) (fun _ _ _ h => h) (Or.inl ⟨by rfl, ?_⟩) (by assumption) ?_
        rotate_left
        · intro w hSw
          go_simp
          all_goals with_reducible rfl
        simp only [Act.put, List.setIfInBounds_toArray, List.set_cons_zero, List.set_cons_succ]
        refine wpAnyH_take (i := 2) (oi := ⟨_, _, _, _, _, _⟩) (v := ?_) rfl (by kernel_rfl) (by kernel_rfl) (by kernel_rfl) (fun _ _ _ h => h) (Or.inl ⟨by rfl, ?_⟩) (by assumption) ?_
        rotate_left
        · intro w hSw
          go_simp
          all_goals with_reducible rfl
        simp only [Act.put, List.setIfInBounds_toArray, List.set_cons_zero, List.set_cons_succ]
        refine wpAnyH_take (i := 3) (oi := ⟨_, _, _, _, _, _⟩) (v := ?_) rfl (by kernel_rfl) (by kernel_rfl) (by kernel_rfl) (fun _ _ _ h => h) (Or.inl ⟨by rfl, ?_⟩) (by assumption) ?_
        rotate_left
        · intro w hSw
          have hc6 := C6.out w hSw
          go_simp
          all_goals with_reducible rfl
        simp only [Act.put, List.setIfInBounds_toArray, List.set_cons_zero, List.set_cons_succ]
        refine wpAnyH_take (i := 4) (oi := ⟨_, _, _, _, _, _⟩) (v := ?_) rfl (by kernel_rfl) (by kernel_rfl) (by kernel_rfl) (fun _ _ _ h => h) (Or.inl ⟨by rfl, ?_⟩) (by assumption) ?_
        rotate_left
        · intro w hSw
          go_simp
          all_goals with_reducible rfl
        simp only [Act.put, List.setIfInBounds_toArray, List.set_cons_zero, List.set_cons_succ]
        refine wpAnyH_take (i := 5) (oi := ⟨_, _, _, _, _, _⟩) (v := ?_) rfl (by kernel_rfl) (by kernel_rfl) (by kernel_rfl) (fun _ _ _ h => h) (Or.inl ⟨by rfl, ?_⟩) (by assumption) ?_
        rotate_left
        · intro w hSw
          go_simp
          all_goals with_reducible rfl
        simp only [Act.put, List.setIfInBounds_toArray, List.set_cons_zero, List.set_cons_succ]
        refine wpAnyH_take (i := 6) (oi := ⟨_, _, _, _, _, _⟩) rfl (by kernel_rfl) (by kernel_rfl) (by kernel_rfl) (fun _ _ _ h => h) (yieldsIf_load_at 41 (.tmp 49) b5 (o5 + i * 18) f.cells _ HRG.out rfl (by rfl) rfl rfl rfl rfl) (by assumption) ?_
        simp only [Act.put, List.setIfInBounds_toArray, List.set_cons_zero, List.set_cons_succ]
        refine wpAnyH_ready (rs := [1, 7]) (by kernel_rfl) (by simp) ?_
        refine AllReadyH.cons (o := ⟨_, _, _, _, _, _⟩) rfl (fun K hK => ?_) (AllReadyH.cons (o := ⟨_, _, _, _, _, _⟩) rfl (fun K hK => ?_) AllReadyH.nil)
        · go_simp
          go_wp2_with fail
          refine hK.out _ _ (by assumption) (fun hHeld => ?_)
          clear hK K
          try simp only [Act.put, List.setIfInBounds_toArray, List.set_cons_zero, List.set_cons_succ]
          refine wpAnyH_ready (rs := [7]) (by kernel_rfl) (by simp) ?_
          refine AllReadyH.cons (o := ⟨_, _, _, _, _, _⟩) rfl (fun K hK => ?_) AllReadyH.nil
          rw [if_pos (by rfl)]
          refine wp_build_fact (.tmp 50) f rfl rfl ?_
          refine hK.out _ _ (HBi.out.drew.alloc (by have := HBi.out.size; exact this) _) (fun hHeld => ?_)
          clear hK K
          try simp only [Act.put, List.setIfInBounds_toArray, List.set_cons_zero, List.set_cons_succ]
          refine wpAnyH_ready (rs := [8]) (by kernel_rfl) (by simp) ?_
          refine AllReadyH.cons (o := ⟨_, _, _, _, _, _⟩) rfl (fun K hK => ?_) AllReadyH.nil
          rw [if_pos (by rfl)]
          refine wp_append_fact (.tmp 45) (.tmp 51) (W.heap.size + 1) L f wr.heap.size v6 (HOW.out.below (((Below.refl wr.heap.size wr).drew).alloc (Nat.le_refl _) _)) (by have := HLL.out; omega) (by simp; omega) (fact_new wr.drew f _) rfl rfl rfl (fun v' w5 hown' hbl' => ?_)
          obtain ⟨A', n', c', rfl⟩ := hown'.slice
          have hS5 : Below W.heap.size W w5 := (HBi.out.drew.alloc (by have := HBi.out.size; exact this) _).trans (hbl'.mono (by omega))
          have hr5 : RowAt w5 W.heap.size 26 (bv (.slice A5 R5.length c5) b v6).cells := (RowAt.alloc (w := wr.drew) HRO.out _).below hbl' (by omega)
          have co5 : w5.cell? ⟨W.heap.size, 6, none⟩ = some v6 := hr5.cell 6
          have fo5 : w5.frozen? ⟨W.heap.size, 6, none⟩ = false := hr5.free 6
          refine hK.out _ _ hS5 (fun hHeld => ?_)
          clear hK K
          simp only [Act.put, List.setIfInBounds_toArray, List.set_cons_zero, List.set_cons_succ]
          refine wpAnyH_take (i := 9) (oi := ⟨_, _, _, _, _, _⟩) (v := ?_) rfl (by kernel_rfl) (by kernel_rfl) (by kernel_rfl) (fun _ _ _ h => h) (Or.inl ⟨by rfl, ?_⟩) (by assumption) ?_
          rotate_left
          · intro w hSw
            go_simp
            all_goals with_reducible rfl
          simp only [Act.put, List.setIfInBounds_toArray, List.set_cons_zero, List.set_cons_succ]
          refine wpAnyH_ready (rs := [10]) (by kernel_rfl) (by simp) ?_
          refine AllReadyH.cons (o := ⟨_, _, _, _, _, _⟩) rfl (fun K hK => ?_) AllReadyH.nil
          go_simp
          go_wp2_with fail
          refine hK.out _ _ (hS5.setCell (p := ⟨W.heap.size, 6, none⟩) (Nat.le_refl _) _) (fun hHeld => ?_)
          clear hK K
          try simp only [Act.put, List.setIfInBounds_toArray, List.set_cons_zero, List.set_cons_succ]
          refine wpAnyH_done (by kernel_rfl) ?_ _
          have HREL : Hid (∃ v6 L, RowAt (w5.setCell ⟨W.heap.size, 6, none⟩ (.slice A' n' c')) W.heap.size 26 (bv (.slice A5 R5.length c5) b v6).cells ∧ OwnF (w5.setCell ⟨W.heap.size, 6, none⟩ (.slice A' n' c')) (W.heap.size + 1) v6 L ∧ L = (R7.take (i + 1)).filter (fun f => f.n 3 == q) ∧ Below W.heap.size W (w5.setCell ⟨W.heap.size, 6, none⟩ (.slice A' n' c'))) :=
            Lib.hid ⟨.slice A' n' c', L ++ [f], hr5.set 6 (.slice A' n' c'), hown'.other (k := W.heap.size) (by omega) (fun j hj => Below.heap_setCell _ _ _ _ hj), by rw [HFT.out, HQT.out], hS5.setCell (p := ⟨W.heap.size, 6, none⟩) (Nat.le_refl _) _⟩
          clear hr5 co5 fo5 hS5 hown' hbl' hHeld
          go_wp2_with fail
          go_roundw
          case rel => exact ⟨i + 1, by omega, by go_num, HREL.out⟩
          case measure => simp [intOf]; omega
        · rw [if_pos (by rfl)]
          refine wp_build_fact (.tmp 50) f rfl rfl ?_
          refine hK.out _ _ (HBi.out.drew.alloc (by have := HBi.out.size; exact this) _) (fun hHeld => ?_)
          clear hK K
          try simp only [Act.put, List.setIfInBounds_toArray, List.set_cons_zero, List.set_cons_succ]
          refine wpAnyH_ready (rs := [1]) (by kernel_rfl) (by simp) ?_
          refine AllReadyH.cons (o := ⟨_, _, _, _, _, _⟩) rfl (fun K hK => ?_) AllReadyH.nil
          go_simp
          go_wp2_with fail
          refine hK.out _ _ (by assumption) (fun hHeld => ?_)
          clear hK K
          try simp only [Act.put, List.setIfInBounds_toArray, List.set_cons_zero, List.set_cons_succ]
          refine wpAnyH_ready (rs := [8]) (by kernel_rfl) (by simp) ?_
          refine AllReadyH.cons (o := ⟨_, _, _, _, _, _⟩) rfl (fun K hK => ?_) AllReadyH.nil
          rw [if_pos (by rfl)]
          refine wp_append_fact (.tmp 45) (.tmp 51) (W.heap.size + 1) L f wr.heap.size v6 (HOW.out.below (((Below.refl wr.heap.size wr).drew).alloc (Nat.le_refl _) _)) (by have := HLL.out; omega) (by simp; omega) (fact_new wr.drew f _) rfl rfl rfl (fun v' w5 hown' hbl' => ?_)
          obtain ⟨A', n', c', rfl⟩ := hown'.slice
          have hS5 : Below W.heap.size W w5 := (HBi.out.drew.alloc (by have := HBi.out.size; exact this) _).trans (hbl'.mono (by omega))
          have hr5 : RowAt w5 W.heap.size 26 (bv (.slice A5 R5.length c5) b v6).cells := (RowAt.alloc (w := wr.drew) HRO.out _).below hbl' (by omega)
          have co5 : w5.cell? ⟨W.heap.size, 6, none⟩ = some v6 := hr5.cell 6
          have fo5 : w5.frozen? ⟨W.heap.size, 6, none⟩ = false := hr5.free 6
          refine hK.out _ _ hS5 (fun hHeld => ?_)
          clear hK K
          simp only [Act.put, List.setIfInBounds_toArray, List.set_cons_zero, List.set_cons_succ]
          refine wpAnyH_take (i := 9) (oi := ⟨_, _, _, _, _, _⟩) (v := ?_) rfl (by kernel_rfl) (by kernel_rfl) (by kernel_rfl) (fun _ _ _ h => h) (Or.inl ⟨by rfl, ?_⟩) (by assumption) ?_
          rotate_left
          · intro w hSw
            go_simp
            all_goals with_reducible rfl
          simp only [Act.put, List.setIfInBounds_toArray, List.set_cons_zero, List.set_cons_succ]
          refine wpAnyH_ready (rs := [10]) (by kernel_rfl) (by simp) ?_
          refine AllReadyH.cons (o := ⟨_, _, _, _, _, _⟩) rfl (fun K hK => ?_) AllReadyH.nil
          go_simp
          go_wp2_with fail
          refine hK.out _ _ (hS5.setCell (p := ⟨W.heap.size, 6, none⟩) (Nat.le_refl _) _) (fun hHeld => ?_)
          clear hK K
          try simp only [Act.put, List.setIfInBounds_toArray, List.set_cons_zero, List.set_cons_succ]
          refine wpAnyH_done (by kernel_rfl) ?_ _
          have HREL : Hid (∃ v6 L, RowAt (w5.setCell ⟨W.heap.size, 6, none⟩ (.slice A' n' c')) W.heap.size 26 (bv (.slice A5 R5.length c5) b v6).cells ∧ OwnF (w5.setCell ⟨W.heap.size, 6, none⟩ (.slice A' n' c')) (W.heap.size + 1) v6 L ∧ L = (R7.take (i + 1)).filter (fun f => f.n 3 == q) ∧ Below W.heap.size W (w5.setCell ⟨W.heap.size, 6, none⟩ (.slice A' n' c'))) :=
            Lib.hid ⟨.slice A' n' c', L ++ [f], hr5.set 6 (.slice A' n' c'), hown'.other (k := W.heap.size) (by omega) (fun j hj => Below.heap_setCell _ _ _ _ hj), by rw [HFT.out, HQT.out], hS5.setCell (p := ⟨W.heap.size, 6, none⟩) (Nat.le_refl _) _⟩
          clear hr5 co5 fo5 hS5 hown' hbl' hHeld
          go_wp2_with fail
          go_roundw
          case rel => exact ⟨i + 1, by omega, by go_num, HREL.out⟩
          case measure => simp [intOf]; omega
      · have q3 : (x3 == q) = false := by rw [beq_eq_false_iff_ne]; exact h3
        have HQT : Hid ((if f.n 3 == q then [f] else []) = []) := Lib.hid (by rw [HX3.out, q3]; rfl)
        clear h3
        go_wp2_with fail
        go_roundw
        case rel => exact ⟨i + 1, by omega, by go_num, Lib.hid ⟨v6, L, HRO.out, HOW.out, by rw [HFT.out, HQT.out, HLE.out]; simp, HBi.out⟩⟩
        case measure => simp [intOf]; omega
    · have hie : i = R7.length := by omega
      have hLf : L = R7.filter (fun f => f.n 3 == q) := by rw [HLE.out, hie, List.take_length]
      clear hie
      have hbk := HKEY.out wr hbi
      have hfo := how.facts
      have hk2 : ∀ Wc, Below wr.heap.size wr Wc → Below W.heap.size W Wc ∧ RowAt Wc W.heap.size 26 (bv (.slice A5 R5.length c5) b v6).cells ∧ FactsAt Wc v6 L := fun Wc h => ⟨hbi.trans (h.mono hbi.size), hro.below h hlto, hfo.below h⟩
      have hokL : FactsOk L := by rw [hLf]; exact fun f hf => HL.out.ok7 f (List.mem_filter.1 hf).1
      have hlL : L.length ≤ 140737488351232 := by have := HLL.out; omega
      have hl40 := HL.out.len
      have C1 := Lib.hid (fun Wc (h : Below wr.heap.size wr Wc) => revenue_any (bv (.slice A5 R5.length c5) b (.slice AL R7.length cL)) t q R5 R7 Wc (by omega) (by omega) (HKEY.out Wc (hk2 Wc h).1).2.1.f5 (HKEY.out Wc (hk2 Wc h).1).2.1.f7 HL.out.ok7 HL.out.ok5)
      have C2 := Lib.hid (fun Wc (h : Below wr.heap.size wr Wc) => revenue_any (bv (.slice A5 R5.length c5) b v6) t q R5 L Wc (by omega) hlL (HKEY.out Wc (hk2 Wc h).1).2.1.f5 (hk2 Wc h).2.2 hokL HL.out.ok5)
      have C3 := Lib.hid (fun Wc (h : Below wr.heap.size wr Wc) => subs_any (bv (.slice A5 R5.length c5) b (.slice AL R7.length cL)) t q R6 R7 Wc (by omega) (by omega) (HKEY.out Wc (hk2 Wc h).1).2.1.f6 (HKEY.out Wc (hk2 Wc h).1).2.1.f7 HL.out.ok7 HL.out.ok6)
      have C4 := Lib.hid (fun Wc (h : Below wr.heap.size wr Wc) => subs_any (bv (.slice A5 R5.length c5) b v6) t q R6 L Wc (by omega) hlL (HKEY.out Wc (hk2 Wc h).1).2.1.f6 (hk2 Wc h).2.2 hokL HL.out.ok6)
      have e2 : revSpec R5 L t q = revSpec R5 R7 t q := by rw [hLf, rev_own]
      have e4 : subSpec R6 L t q = subSpec R6 R7 t q := by rw [hLf, sub_own]
      rw [e2] at C2
      rw [e4] at C4
      have hsl : (subSpec R6 R7 t q).length ≤ 1000000 := Nat.le_trans (List.length_filterMap_le _ _) (by omega)
      obtain ⟨rv, hrv⟩ : ∃ z, revSpec R5 R7 t q = z := ⟨_, rfl⟩
      obtain ⟨ll, hll⟩ : ∃ z, subSpec R6 R7 t q = z := ⟨_, rfl⟩
      rw [hrv] at C1 C2
      rw [hll] at C3 C4 hsl
      have HRV2 := Lib.hid hrv
      have HLn := Lib.hid hsl
      have HRB : Hid (∀ W', Below wr.heap.size wr W' → ∀ j v, (bv (.slice A5 R5.length c5) b (.slice AL R7.length cL)).cells[j]? = some v → W'.cell? ⟨nb, 0 + j, none⟩ = some v) := Lib.hid fun W' h => row_cells (HKEY.out W' (hk2 W' h).1).1
      have HRN : Hid (∀ W', Below wr.heap.size wr W' → ∀ j v, (bv (.slice A5 R5.length c5) b v6).cells[j]? = some v → W'.cell? ⟨W.heap.size, 0 + j, none⟩ = some v) := Lib.hid fun W' h => row_cells (show W'.heap[W.heap.size]? = _ from (hk2 W' h).2.1)
      clear hbk hfo hk2 hokL hlL hl40 e2 e4 hsl hrv hll hLf hro how hbi
      go_wp2_with fail
      refine wp_region_held_drew (S := fun W' => Below wr.heap.size wr W') (by kernel_rfl) (Below.refl _ _).drew (fun hHeld => ?_)
      refine wpAnyH_take (i := 0) (oi := ⟨_, _, _, _, _, _⟩) rfl (by kernel_rfl) (by kernel_rfl) (by kernel_rfl) (fun _ _ _ h => h) (yieldsIf_load_at 26 (.tmp 10) nb 0 (bv (.slice A5 R5.length c5) b (.slice AL R7.length cL)).cells _ HRB.out rfl (by rfl) rfl rfl rfl rfl) (by assumption) ?_
      simp only [Act.put, List.setIfInBounds_toArray, List.set_cons_zero, List.set_cons_succ]
      refine wpAnyH_take (i := 1) (oi := ⟨_, _, _, _, _, _⟩) (v := ?_) rfl (by kernel_rfl) (by kernel_rfl) (by kernel_rfl) (fun _ _ _ h => h) (Or.inl ⟨by rfl, ?_⟩) (by assumption) ?_
      rotate_left
      · intro w hSw
        go_simp
        all_goals with_reducible rfl
      simp only [Act.put, List.setIfInBounds_toArray, List.set_cons_zero, List.set_cons_succ]
      refine wpAnyH_take (i := 2) (oi := ⟨_, _, _, _, _, _⟩) (v := ?_) rfl (by kernel_rfl) (by kernel_rfl) (by kernel_rfl) (fun _ _ _ h => h) (Or.inl ⟨by rfl, ?_⟩) (by assumption) ?_
      rotate_left
      · intro w hSw
        go_simp
        all_goals with_reducible rfl
      simp only [Act.put, List.setIfInBounds_toArray, List.set_cons_zero, List.set_cons_succ]
      refine wpAnyH_take (i := 4) (oi := ⟨_, _, _, _, _, _⟩) rfl (by kernel_rfl) (by kernel_rfl) (by kernel_rfl) (fun _ _ _ h => h) (yieldsIf_load_at 26 (.tmp 13) W.heap.size 0 (bv (.slice A5 R5.length c5) b v6).cells _ HRN.out rfl (by rfl) rfl rfl rfl rfl) (by assumption) ?_
      simp only [Act.put, List.setIfInBounds_toArray, List.set_cons_zero, List.set_cons_succ]
      refine wpAnyH_take (i := 5) (oi := ⟨_, _, _, _, _, _⟩) (v := ?_) rfl (by kernel_rfl) (by kernel_rfl) (by kernel_rfl) (fun _ _ _ h => h) (Or.inl ⟨by rfl, ?_⟩) (by assumption) ?_
      rotate_left
      · intro w hSw
        go_simp
        all_goals with_reducible rfl
      simp only [Act.put, List.setIfInBounds_toArray, List.set_cons_zero, List.set_cons_succ]
      refine wpAnyH_take (i := 6) (oi := ⟨_, _, _, _, _, _⟩) (v := ?_) rfl (by kernel_rfl) (by kernel_rfl) (by kernel_rfl) (fun _ _ _ h => h) (Or.inl ⟨by rfl, ?_⟩) (by assumption) ?_
      rotate_left
      · intro w hSw
        go_simp
        all_goals with_reducible rfl
      simp only [Act.put, List.setIfInBounds_toArray, List.set_cons_zero, List.set_cons_succ]
      refine wpAnyH_ready (rs := [3]) (by kernel_rfl) (by simp) ?_
      refine AllReadyH.cons (o := ⟨_, _, _, _, _, _⟩) rfl (fun K hK => ?_) AllReadyH.nil
      go_simp
      go_at_call 12
      refine (C1.out _ (Below.refl wr.heap.size wr).drew).mono ?_
      rintro e w6 ⟨rfl, hb⟩
      have Sw6 : Below wr.heap.size wr w6 := (Below.refl wr.heap.size wr).drew.trans (hb.mono (Below.refl wr.heap.size wr).drew.size)
      have Dw6 := Sw6
      clear hb
      go_wp2_with fail
      refine hK.out _ _ Sw6 (fun hHeld => ?_)
      clear hK K
      try simp only [Act.put, List.setIfInBounds_toArray, List.set_cons_zero, List.set_cons_succ]
      refine wpAnyH_ready (rs := [7]) (by kernel_rfl) (by simp) ?_
      refine AllReadyH.cons (o := ⟨_, _, _, _, _, _⟩) rfl (fun K hK => ?_) AllReadyH.nil
      go_simp
      go_at_call 12
      refine (C2.out _ Sw6).mono ?_
      rintro e w7 ⟨rfl, hb⟩
      have Sw7 : Below wr.heap.size wr w7 := Sw6.trans (hb.mono Sw6.size)
      have Dw7 := Sw7
      clear hb
      go_wp2_with fail
      refine hK.out _ _ Sw7 (fun hHeld => ?_)
      clear hK K
      try simp only [Act.put, List.setIfInBounds_toArray, List.set_cons_zero, List.set_cons_succ]
      refine wpAnyH_take (i := 8) (oi := ⟨_, _, _, _, _, _⟩) (v := ?_) rfl (by kernel_rfl) (by kernel_rfl) (by kernel_rfl) (fun _ _ _ h => h) (Or.inl ⟨by rfl, ?_⟩) (by assumption) ?_
      rotate_left
      · intro w hSw
        go_simp
        all_goals with_reducible rfl
      simp only [Act.put, List.setIfInBounds_toArray, List.set_cons_zero, List.set_cons_succ]
      refine wpAnyH_take (i := 9) (oi := ⟨_, _, _, _, _, _⟩) (v := ?_) rfl (by kernel_rfl) (by kernel_rfl) (by kernel_rfl) (fun _ _ _ h => h) (Or.inl ⟨by rfl, ?_⟩) (by assumption) ?_
      rotate_left
      · intro w hSw
        go_simp
        all_goals with_reducible rfl
      simp only [Act.put, List.setIfInBounds_toArray, List.set_cons_zero, List.set_cons_succ]
      refine wpAnyH_take (i := 10) (oi := ⟨_, _, _, _, _, _⟩) rfl (by kernel_rfl) (by kernel_rfl) (by kernel_rfl) (fun _ _ _ h => h) (yieldsIf_load_at 26 (.tmp 10) nb 0 (bv (.slice A5 R5.length c5) b (.slice AL R7.length cL)).cells _ HRB.out rfl (by rfl) rfl rfl rfl rfl) (by assumption) ?_
      simp only [Act.put, List.setIfInBounds_toArray, List.set_cons_zero, List.set_cons_succ]
      refine wpAnyH_take (i := 11) (oi := ⟨_, _, _, _, _, _⟩) (v := ?_) rfl (by kernel_rfl) (by kernel_rfl) (by kernel_rfl) (fun _ _ _ h => h) (Or.inl ⟨by rfl, ?_⟩) (by assumption) ?_
      rotate_left
      · intro w hSw
        go_simp
        all_goals with_reducible rfl
      simp only [Act.put, List.setIfInBounds_toArray, List.set_cons_zero, List.set_cons_succ]
      refine wpAnyH_take (i := 12) (oi := ⟨_, _, _, _, _, _⟩) (v := ?_) rfl (by kernel_rfl) (by kernel_rfl) (by kernel_rfl) (fun _ _ _ h => h) (Or.inl ⟨by rfl, ?_⟩) (by assumption) ?_
      rotate_left
      · intro w hSw
        go_simp
        all_goals with_reducible rfl
      simp only [Act.put, List.setIfInBounds_toArray, List.set_cons_zero, List.set_cons_succ]
      refine wpAnyH_take (i := 14) (oi := ⟨_, _, _, _, _, _⟩) rfl (by kernel_rfl) (by kernel_rfl) (by kernel_rfl) (fun _ _ _ h => h) (yieldsIf_load_at 26 (.tmp 13) W.heap.size 0 (bv (.slice A5 R5.length c5) b v6).cells _ HRN.out rfl (by rfl) rfl rfl rfl rfl) (by assumption) ?_
      simp only [Act.put, List.setIfInBounds_toArray, List.set_cons_zero, List.set_cons_succ]
      refine wpAnyH_take (i := 15) (oi := ⟨_, _, _, _, _, _⟩) (v := ?_) rfl (by kernel_rfl) (by kernel_rfl) (by kernel_rfl) (fun _ _ _ h => h) (Or.inl ⟨by rfl, ?_⟩) (by assumption) ?_
      rotate_left
      · intro w hSw
        go_simp
        all_goals with_reducible rfl
      simp only [Act.put, List.setIfInBounds_toArray, List.set_cons_zero, List.set_cons_succ]
      refine wpAnyH_take (i := 16) (oi := ⟨_, _, _, _, _, _⟩) (v := ?_) rfl (by kernel_rfl) (by kernel_rfl) (by kernel_rfl) (fun _ _ _ h => h) (Or.inl ⟨by rfl, ?_⟩) (by assumption) ?_
      rotate_left
      · intro w hSw
        go_simp
        all_goals with_reducible rfl
      simp only [Act.put, List.setIfInBounds_toArray, List.set_cons_zero, List.set_cons_succ]
      refine wpAnyH_ready (rs := [13]) (by kernel_rfl) (by simp) ?_
      refine AllReadyH.cons (o := ⟨_, _, _, _, _, _⟩) rfl (fun K hK => ?_) AllReadyH.nil
      go_simp
      go_at_call 15
      refine (C3.out _ Sw7).mono ?_
      rintro e w8 ⟨la, rfl, howna, hb⟩
      have Sw8 : Below wr.heap.size wr w8 := Sw7.trans (hb.mono Sw7.size)
      have Dw8 := Sw8
      have ha8 := SharesAt.of_own howna
      clear howna
      clear hb
      go_wp2_with fail
      refine hK.out _ _ Sw8 (fun hHeld => ?_)
      clear hK K
      try simp only [Act.put, List.setIfInBounds_toArray, List.set_cons_zero, List.set_cons_succ]
      refine wpAnyH_ready (rs := [17]) (by kernel_rfl) (by simp) ?_
      refine AllReadyH.cons (o := ⟨_, _, _, _, _, _⟩) rfl (fun K hK => ?_) AllReadyH.nil
      go_simp
      go_at_call 15
      refine (C4.out _ Sw8).mono ?_
      rintro e w9 ⟨lb, rfl, hownb, hb⟩
      have Sw9 : Below wr.heap.size wr w9 := Sw8.trans (hb.mono Sw8.size)
      have Dw9 := Sw9
      have ha9 := ha8.below hb
      have hb9 := SharesAt.of_own hownb
      clear hownb ha8
      clear hb
      go_wp2_with fail
      refine hK.out _ _ Sw9 (fun hHeld => ?_)
      clear hK K
      try simp only [Act.put, List.setIfInBounds_toArray, List.set_cons_zero, List.set_cons_succ]
      refine wpAnyH_ready (rs := [18]) (by kernel_rfl) (by simp) ?_
      refine AllReadyH.cons (o := ⟨_, _, _, _, _, _⟩) rfl (fun K hK => ?_) AllReadyH.nil
      go_simp
      go_at_call 14
      refine (same_eq la lb ll w9 HLn.out ha9 hb9).mono ?_
      rintro e w10 ⟨rfl, hb⟩
      have Sw10 : Below wr.heap.size wr w10 := Sw9.trans (hb.mono Sw9.size)
      have Dw10 := Sw10
      clear hb
      go_wp2_with fail
      refine hK.out _ _ Sw10 (fun hHeld => ?_)
      clear hK K
      try simp only [Act.put, List.setIfInBounds_toArray, List.set_cons_zero, List.set_cons_succ]
      refine wpAnyH_take (i := 19) (oi := ⟨_, _, _, _, _, _⟩) (v := ?_) rfl (by kernel_rfl) (by kernel_rfl) (by kernel_rfl) (fun _ _ _ h => h) (Or.inl ⟨by rfl, ?_⟩) (by assumption) ?_
      rotate_left
      · intro w hSw
        go_simp
        all_goals with_reducible rfl
      simp only [Act.put, List.setIfInBounds_toArray, List.set_cons_zero, List.set_cons_succ]
      refine wpAnyH_take (i := 20) (oi := ⟨_, _, _, _, _, _⟩) (v := ?_) rfl (by kernel_rfl) (by kernel_rfl) (by kernel_rfl) (fun _ _ _ h => h) (Or.inl ⟨by rfl, ?_⟩) (by assumption) ?_
      rotate_left
      · intro w hSw
        go_simp
        all_goals with_reducible rfl
      simp only [Act.put, List.setIfInBounds_toArray, List.set_cons_zero, List.set_cons_succ]
      refine wpAnyH_done (by kernel_rfl) ?_ _
      have B9 := Lib.hid (HBi.out.trans (Sw10.mono HBi.out.size))
      clear Sw6 Sw7 Sw8 Sw9 Sw10 Dw6 Dw7 Dw8 Dw9 Dw10 hHeld ha9 hb9 HRB HRN C1 C2 C3 C4
      have CM : Hid (∀ W', Below w10.heap.size w10 W' → W'.cell? ⟨w.heap.size, 0, none⟩ = some (.int .i64 m0) ∧ W'.cell? ⟨w.heap.size, 1, none⟩ = some (.int .i64 m1) ∧ W'.cell? ⟨w.heap.size, 2, none⟩ = some (.int .i64 m2)) := Lib.hid fun W' h => by
        have hr := (HKEY.out W' (B9.out.trans (h.mono B9.out.size))).2.2
        exact ⟨cell_of_row _ _ 0 _ _ _ hr, cell_of_row _ _ 1 _ _ _ hr, cell_of_row _ _ 2 _ _ _ hr⟩
      have hw0 : IntKind.i64.wrap (1 + y0) = 1 + y0 := IntWalk.i64_in _ (by have := R0.out; omega)
      have hw2 : IntKind.i64.wrap (1 + y2) = 1 + y2 := IntWalk.i64_in _ (by have := R2.out; omega)
      go_wp2_with fail
      refine wp_region_held_drew (S := fun W' => Below w10.heap.size w10 W') (by kernel_rfl) (Below.refl _ _).drew (fun hHeld => ?_)
      apply merge
      · intro FIN
        refine wpAnyH_take (i := 0) (oi := ⟨_, _, _, _, _, _⟩) (v := ?_) rfl (by kernel_rfl) (by kernel_rfl) (by kernel_rfl) (fun _ _ _ h => h) (Or.inl ⟨by rfl, ?_⟩) (by assumption) ?_
        rotate_left
        · intro w hSw
          go_simp
          all_goals with_reducible rfl
        simp only [Act.put, List.setIfInBounds_toArray, List.set_cons_zero, List.set_cons_succ]
        refine wpAnyH_take (i := 1) (oi := ⟨_, _, _, _, _, _⟩) (v := ?_) rfl (by kernel_rfl) (by kernel_rfl) (by kernel_rfl) (fun _ _ _ h => h) (Or.inl ⟨by rfl, ?_⟩) (by assumption) ?_
        rotate_left
        · intro w hSw
          obtain ⟨hm0, hm1, hm2⟩ := CM.out w hSw
          go_simp
          all_goals with_reducible rfl
        simp only [Act.put, List.setIfInBounds_toArray, List.set_cons_zero, List.set_cons_succ]
        refine wpAnyH_take (i := 4) (oi := ⟨_, _, _, _, _, _⟩) (v := ?_) rfl (by kernel_rfl) (by kernel_rfl) (by kernel_rfl) (fun _ _ _ h => h) (Or.inl ⟨by rfl, ?_⟩) (by assumption) ?_
        rotate_left
        · intro w hSw
          go_simp
          all_goals with_reducible rfl
        simp only [Act.put, List.setIfInBounds_toArray, List.set_cons_zero, List.set_cons_succ]
        refine wpAnyH_take (i := 5) (oi := ⟨_, _, _, _, _, _⟩) (v := ?_) rfl (by kernel_rfl) (by kernel_rfl) (by kernel_rfl) (fun _ _ _ h => h) (Or.inl ⟨by rfl, ?_⟩) (by assumption) ?_
        rotate_left
        · intro w hSw
          obtain ⟨hm0, hm1, hm2⟩ := CM.out w hSw
          go_simp
          all_goals with_reducible rfl
        simp only [Act.put, List.setIfInBounds_toArray, List.set_cons_zero, List.set_cons_succ]
        refine wpAnyH_take (i := 7) (oi := ⟨_, _, _, _, _, _⟩) (v := ?_) rfl (by kernel_rfl) (by kernel_rfl) (by kernel_rfl) (fun _ _ _ h => h) (Or.inl ⟨by rfl, ?_⟩) (by assumption) ?_
        rotate_left
        · intro w hSw
          go_simp
          all_goals with_reducible rfl
        simp only [Act.put, List.setIfInBounds_toArray, List.set_cons_zero, List.set_cons_succ]
        refine wpAnyH_take (i := 8) (oi := ⟨_, _, _, _, _, _⟩) (v := ?_) rfl (by kernel_rfl) (by kernel_rfl) (by kernel_rfl) (fun _ _ _ h => h) (Or.inl ⟨by rfl, ?_⟩) (by assumption) ?_
        rotate_left
        · intro w hSw
          obtain ⟨hm0, hm1, hm2⟩ := CM.out w hSw
          go_simp
          all_goals with_reducible rfl
        simp only [Act.put, List.setIfInBounds_toArray, List.set_cons_zero, List.set_cons_succ]
        refine wpAnyH_ready (rs := [2, 12]) (by kernel_rfl) (by simp) ?_
        refine AllReadyH.cons (o := ⟨_, _, _, _, _, _⟩) rfl (fun K hK => ?_) (AllReadyH.cons (o := ⟨_, _, _, _, _, _⟩) rfl (fun K hK => ?_) AllReadyH.nil)
        · go_simp
          (go_at_call 9; refine (P0.out _).mono ?_; rintro e w' ⟨rfl, rfl⟩)
          go_wp2_with fail
          refine hK.out _ _ (by first | assumption | exact ((Below.refl w10.heap.size w10).alloc (Nat.le_refl _) _).drew | exact (Below.refl w10.heap.size w10).drew.alloc (Nat.le_refl _) _) (fun hHeld => ?_)
          clear hK K
          try simp only [Act.put, List.setIfInBounds_toArray, List.set_cons_zero, List.set_cons_succ]
          refine wpAnyH_take (i := 3) (oi := ⟨_, _, _, _, _, _⟩) (v := ?_) rfl (by kernel_rfl) (by kernel_rfl) (by kernel_rfl) (fun _ _ _ h => h) (Or.inl ⟨by rfl, ?_⟩) (by assumption) ?_
          rotate_left
          · intro w hSw
            go_simp
            all_goals with_reducible rfl
          simp only [Act.put, List.setIfInBounds_toArray, List.set_cons_zero, List.set_cons_succ]
          refine wpAnyH_ready (rs := [6, 12]) (by kernel_rfl) (by simp) ?_
          refine AllReadyH.cons (o := ⟨_, _, _, _, _, _⟩) rfl (fun K hK => ?_) (AllReadyH.cons (o := ⟨_, _, _, _, _, _⟩) rfl (fun K hK => ?_) AllReadyH.nil)
          · go_simp
            (go_at_call 9; refine (P1.out _).mono ?_; rintro e w' ⟨rfl, rfl⟩)
            go_wp2_with fail
            refine hK.out _ _ (by first | assumption | exact ((Below.refl w10.heap.size w10).alloc (Nat.le_refl _) _).drew | exact (Below.refl w10.heap.size w10).drew.alloc (Nat.le_refl _) _) (fun hHeld => ?_)
            clear hK K
            try simp only [Act.put, List.setIfInBounds_toArray, List.set_cons_zero, List.set_cons_succ]
            refine wpAnyH_ready (rs := [9, 12]) (by kernel_rfl) (by simp) ?_
            refine AllReadyH.cons (o := ⟨_, _, _, _, _, _⟩) rfl (fun K hK => ?_) (AllReadyH.cons (o := ⟨_, _, _, _, _, _⟩) rfl (fun K hK => ?_) AllReadyH.nil)
            · go_simp
              (go_at_call 9; refine (P2.out _).mono ?_; rintro e w' ⟨rfl, rfl⟩)
              go_wp2_with fail
              refine hK.out _ _ (by first | assumption | exact ((Below.refl w10.heap.size w10).alloc (Nat.le_refl _) _).drew | exact (Below.refl w10.heap.size w10).drew.alloc (Nat.le_refl _) _) (fun hHeld => ?_)
              clear hK K
              try simp only [Act.put, List.setIfInBounds_toArray, List.set_cons_zero, List.set_cons_succ]
              refine wpAnyH_take (i := 10) (oi := ⟨_, _, _, _, _, _⟩) (v := ?_) rfl (by kernel_rfl) (by kernel_rfl) (by kernel_rfl) (fun _ _ _ h => h) (Or.inl ⟨by rfl, ?_⟩) (by assumption) ?_
              rotate_left
              · intro w hSw
                go_simp
                all_goals with_reducible rfl
              simp only [Act.put, List.setIfInBounds_toArray, List.set_cons_zero, List.set_cons_succ]
              refine wpAnyH_take (i := 11) (oi := ⟨_, _, _, _, _, _⟩) (v := ?_) rfl (by kernel_rfl) (by kernel_rfl) (by kernel_rfl) (fun _ _ _ h => h) (Or.inl ⟨by rfl, ?_⟩) (by assumption) ?_
              rotate_left
              · intro w hSw
                go_simp
                all_goals with_reducible rfl
              simp only [Act.put, List.setIfInBounds_toArray, List.set_cons_zero, List.set_cons_succ]
              refine wpAnyH_ready (rs := [12]) (by kernel_rfl) (by simp) ?_
              refine AllReadyH.cons (o := ⟨_, _, _, _, _, _⟩) rfl (fun K hK => ?_) AllReadyH.nil
              go_simp
              go_wp2_with fail
              refine hK.out _ _ (by first | assumption | exact ((Below.refl w10.heap.size w10).alloc (Nat.le_refl _) _).drew | exact (Below.refl w10.heap.size w10).drew.alloc (Nat.le_refl _) _) (fun hHeld => ?_)
              clear hK K
              try simp only [Act.put, List.setIfInBounds_toArray, List.set_cons_zero, List.set_cons_succ]
              refine wpAnyH_ready (rs := [13]) (by kernel_rfl) (by simp) ?_
              refine AllReadyH.cons (o := ⟨_, _, _, _, _, _⟩) rfl (fun K hK => ?_) AllReadyH.nil
              rw [if_pos (by rfl)]
              refine wp_store_row 41 (.tmp 15) (.tmp 86) rfl w10.heap.size (mkv y1 (1 + y2) (1 + y0)).cells rfl rfl 41 zeroF.cells (heap_alloc_last w10 _) fact_size rfl (mkv y1 (1 + y2) (1 + y0)).cells_one ?_
              refine hK.out _ _ (below_setRow (g := w10.heap.size) ((Below.refl w10.heap.size w10).alloc (Nat.le_refl _) _).drew (Nat.le_refl _)) (fun hHeld => ?_)
              clear hK K
              try simp only [Act.put]
              refine wpAnyH_done (by kernel_rfl) ?_ _
              exact FIN.out
            · go_simp
              go_wp2_with fail
              refine hK.out _ _ (by first | assumption | exact ((Below.refl w10.heap.size w10).alloc (Nat.le_refl _) _).drew | exact (Below.refl w10.heap.size w10).drew.alloc (Nat.le_refl _) _) (fun hHeld => ?_)
              clear hK K
              try simp only [Act.put, List.setIfInBounds_toArray, List.set_cons_zero, List.set_cons_succ]
              refine wpAnyH_ready (rs := [9]) (by kernel_rfl) (by simp) ?_
              refine AllReadyH.cons (o := ⟨_, _, _, _, _, _⟩) rfl (fun K hK => ?_) AllReadyH.nil
              go_simp
              (go_at_call 9; refine (P2.out _).mono ?_; rintro e w' ⟨rfl, rfl⟩)
              go_wp2_with fail
              refine hK.out _ _ (by first | assumption | exact ((Below.refl w10.heap.size w10).alloc (Nat.le_refl _) _).drew | exact (Below.refl w10.heap.size w10).drew.alloc (Nat.le_refl _) _) (fun hHeld => ?_)
              clear hK K
              try simp only [Act.put, List.setIfInBounds_toArray, List.set_cons_zero, List.set_cons_succ]
              refine wpAnyH_take (i := 10) (oi := ⟨_, _, _, _, _, _⟩) (v := ?_) rfl (by kernel_rfl) (by kernel_rfl) (by kernel_rfl) (fun _ _ _ h => h) (Or.inl ⟨by rfl, ?_⟩) (by assumption) ?_
              rotate_left
              · intro w hSw
                go_simp
                all_goals with_reducible rfl
              simp only [Act.put, List.setIfInBounds_toArray, List.set_cons_zero, List.set_cons_succ]
              refine wpAnyH_take (i := 11) (oi := ⟨_, _, _, _, _, _⟩) (v := ?_) rfl (by kernel_rfl) (by kernel_rfl) (by kernel_rfl) (fun _ _ _ h => h) (Or.inl ⟨by rfl, ?_⟩) (by assumption) ?_
              rotate_left
              · intro w hSw
                go_simp
                all_goals with_reducible rfl
              simp only [Act.put, List.setIfInBounds_toArray, List.set_cons_zero, List.set_cons_succ]
              refine wpAnyH_ready (rs := [13]) (by kernel_rfl) (by simp) ?_
              refine AllReadyH.cons (o := ⟨_, _, _, _, _, _⟩) rfl (fun K hK => ?_) AllReadyH.nil
              rw [if_pos (by rfl)]
              refine wp_store_row 41 (.tmp 15) (.tmp 86) rfl w10.heap.size (mkv y1 (1 + y2) (1 + y0)).cells rfl rfl 41 zeroF.cells (heap_alloc_last w10 _) fact_size rfl (mkv y1 (1 + y2) (1 + y0)).cells_one ?_
              refine hK.out _ _ (below_setRow (g := w10.heap.size) ((Below.refl w10.heap.size w10).alloc (Nat.le_refl _) _).drew (Nat.le_refl _)) (fun hHeld => ?_)
              clear hK K
              try simp only [Act.put]
              refine wpAnyH_done (by kernel_rfl) ?_ _
              exact FIN.out
          · go_simp
            go_wp2_with fail
            refine hK.out _ _ (by first | assumption | exact ((Below.refl w10.heap.size w10).alloc (Nat.le_refl _) _).drew | exact (Below.refl w10.heap.size w10).drew.alloc (Nat.le_refl _) _) (fun hHeld => ?_)
            clear hK K
            try simp only [Act.put, List.setIfInBounds_toArray, List.set_cons_zero, List.set_cons_succ]
            refine wpAnyH_ready (rs := [6]) (by kernel_rfl) (by simp) ?_
            refine AllReadyH.cons (o := ⟨_, _, _, _, _, _⟩) rfl (fun K hK => ?_) AllReadyH.nil
            go_simp
            (go_at_call 9; refine (P1.out _).mono ?_; rintro e w' ⟨rfl, rfl⟩)
            go_wp2_with fail
            refine hK.out _ _ (by first | assumption | exact ((Below.refl w10.heap.size w10).alloc (Nat.le_refl _) _).drew | exact (Below.refl w10.heap.size w10).drew.alloc (Nat.le_refl _) _) (fun hHeld => ?_)
            clear hK K
            try simp only [Act.put, List.setIfInBounds_toArray, List.set_cons_zero, List.set_cons_succ]
            refine wpAnyH_ready (rs := [9]) (by kernel_rfl) (by simp) ?_
            refine AllReadyH.cons (o := ⟨_, _, _, _, _, _⟩) rfl (fun K hK => ?_) AllReadyH.nil
            go_simp
            (go_at_call 9; refine (P2.out _).mono ?_; rintro e w' ⟨rfl, rfl⟩)
            go_wp2_with fail
            refine hK.out _ _ (by first | assumption | exact ((Below.refl w10.heap.size w10).alloc (Nat.le_refl _) _).drew | exact (Below.refl w10.heap.size w10).drew.alloc (Nat.le_refl _) _) (fun hHeld => ?_)
            clear hK K
            try simp only [Act.put, List.setIfInBounds_toArray, List.set_cons_zero, List.set_cons_succ]
            refine wpAnyH_take (i := 10) (oi := ⟨_, _, _, _, _, _⟩) (v := ?_) rfl (by kernel_rfl) (by kernel_rfl) (by kernel_rfl) (fun _ _ _ h => h) (Or.inl ⟨by rfl, ?_⟩) (by assumption) ?_
            rotate_left
            · intro w hSw
              go_simp
              all_goals with_reducible rfl
            simp only [Act.put, List.setIfInBounds_toArray, List.set_cons_zero, List.set_cons_succ]
            refine wpAnyH_take (i := 11) (oi := ⟨_, _, _, _, _, _⟩) (v := ?_) rfl (by kernel_rfl) (by kernel_rfl) (by kernel_rfl) (fun _ _ _ h => h) (Or.inl ⟨by rfl, ?_⟩) (by assumption) ?_
            rotate_left
            · intro w hSw
              go_simp
              all_goals with_reducible rfl
            simp only [Act.put, List.setIfInBounds_toArray, List.set_cons_zero, List.set_cons_succ]
            refine wpAnyH_ready (rs := [13]) (by kernel_rfl) (by simp) ?_
            refine AllReadyH.cons (o := ⟨_, _, _, _, _, _⟩) rfl (fun K hK => ?_) AllReadyH.nil
            rw [if_pos (by rfl)]
            refine wp_store_row 41 (.tmp 15) (.tmp 86) rfl w10.heap.size (mkv y1 (1 + y2) (1 + y0)).cells rfl rfl 41 zeroF.cells (heap_alloc_last w10 _) fact_size rfl (mkv y1 (1 + y2) (1 + y0)).cells_one ?_
            refine hK.out _ _ (below_setRow (g := w10.heap.size) ((Below.refl w10.heap.size w10).alloc (Nat.le_refl _) _).drew (Nat.le_refl _)) (fun hHeld => ?_)
            clear hK K
            try simp only [Act.put]
            refine wpAnyH_done (by kernel_rfl) ?_ _
            exact FIN.out
        · go_simp
          go_wp2_with fail
          refine hK.out _ _ (by first | assumption | exact ((Below.refl w10.heap.size w10).alloc (Nat.le_refl _) _).drew | exact (Below.refl w10.heap.size w10).drew.alloc (Nat.le_refl _) _) (fun hHeld => ?_)
          clear hK K
          try simp only [Act.put, List.setIfInBounds_toArray, List.set_cons_zero, List.set_cons_succ]
          refine wpAnyH_ready (rs := [2]) (by kernel_rfl) (by simp) ?_
          refine AllReadyH.cons (o := ⟨_, _, _, _, _, _⟩) rfl (fun K hK => ?_) AllReadyH.nil
          go_simp
          (go_at_call 9; refine (P0.out _).mono ?_; rintro e w' ⟨rfl, rfl⟩)
          go_wp2_with fail
          refine hK.out _ _ (by first | assumption | exact ((Below.refl w10.heap.size w10).alloc (Nat.le_refl _) _).drew | exact (Below.refl w10.heap.size w10).drew.alloc (Nat.le_refl _) _) (fun hHeld => ?_)
          clear hK K
          try simp only [Act.put, List.setIfInBounds_toArray, List.set_cons_zero, List.set_cons_succ]
          refine wpAnyH_take (i := 3) (oi := ⟨_, _, _, _, _, _⟩) (v := ?_) rfl (by kernel_rfl) (by kernel_rfl) (by kernel_rfl) (fun _ _ _ h => h) (Or.inl ⟨by rfl, ?_⟩) (by assumption) ?_
          rotate_left
          · intro w hSw
            go_simp
            all_goals with_reducible rfl
          simp only [Act.put, List.setIfInBounds_toArray, List.set_cons_zero, List.set_cons_succ]
          refine wpAnyH_ready (rs := [6]) (by kernel_rfl) (by simp) ?_
          refine AllReadyH.cons (o := ⟨_, _, _, _, _, _⟩) rfl (fun K hK => ?_) AllReadyH.nil
          go_simp
          (go_at_call 9; refine (P1.out _).mono ?_; rintro e w' ⟨rfl, rfl⟩)
          go_wp2_with fail
          refine hK.out _ _ (by first | assumption | exact ((Below.refl w10.heap.size w10).alloc (Nat.le_refl _) _).drew | exact (Below.refl w10.heap.size w10).drew.alloc (Nat.le_refl _) _) (fun hHeld => ?_)
          clear hK K
          try simp only [Act.put, List.setIfInBounds_toArray, List.set_cons_zero, List.set_cons_succ]
          refine wpAnyH_ready (rs := [9]) (by kernel_rfl) (by simp) ?_
          refine AllReadyH.cons (o := ⟨_, _, _, _, _, _⟩) rfl (fun K hK => ?_) AllReadyH.nil
          go_simp
          (go_at_call 9; refine (P2.out _).mono ?_; rintro e w' ⟨rfl, rfl⟩)
          go_wp2_with fail
          refine hK.out _ _ (by first | assumption | exact ((Below.refl w10.heap.size w10).alloc (Nat.le_refl _) _).drew | exact (Below.refl w10.heap.size w10).drew.alloc (Nat.le_refl _) _) (fun hHeld => ?_)
          clear hK K
          try simp only [Act.put, List.setIfInBounds_toArray, List.set_cons_zero, List.set_cons_succ]
          refine wpAnyH_take (i := 10) (oi := ⟨_, _, _, _, _, _⟩) (v := ?_) rfl (by kernel_rfl) (by kernel_rfl) (by kernel_rfl) (fun _ _ _ h => h) (Or.inl ⟨by rfl, ?_⟩) (by assumption) ?_
          rotate_left
          · intro w hSw
            go_simp
            all_goals with_reducible rfl
          simp only [Act.put, List.setIfInBounds_toArray, List.set_cons_zero, List.set_cons_succ]
          refine wpAnyH_take (i := 11) (oi := ⟨_, _, _, _, _, _⟩) (v := ?_) rfl (by kernel_rfl) (by kernel_rfl) (by kernel_rfl) (fun _ _ _ h => h) (Or.inl ⟨by rfl, ?_⟩) (by assumption) ?_
          rotate_left
          · intro w hSw
            go_simp
            all_goals with_reducible rfl
          simp only [Act.put, List.setIfInBounds_toArray, List.set_cons_zero, List.set_cons_succ]
          refine wpAnyH_ready (rs := [13]) (by kernel_rfl) (by simp) ?_
          refine AllReadyH.cons (o := ⟨_, _, _, _, _, _⟩) rfl (fun K hK => ?_) AllReadyH.nil
          rw [if_pos (by rfl)]
          refine wp_store_row 41 (.tmp 15) (.tmp 86) rfl w10.heap.size (mkv y1 (1 + y2) (1 + y0)).cells rfl rfl 41 zeroF.cells (heap_alloc_last w10 _) fact_size rfl (mkv y1 (1 + y2) (1 + y0)).cells_one ?_
          refine hK.out _ _ (below_setRow (g := w10.heap.size) ((Below.refl w10.heap.size w10).alloc (Nat.le_refl _) _).drew (Nat.le_refl _)) (fun hHeld => ?_)
          clear hK K
          try simp only [Act.put]
          refine wpAnyH_done (by kernel_rfl) ?_ _
          exact FIN.out
      obtain ⟨f, hf⟩ : ∃ f, mkv y1 (1 + y2) (1 + y0) = f := ⟨_, rfl⟩
      have hf3 : f.n 3 = y1 := by rw [← hf]; rfl
      have hf15 : f.n 15 = 1 + y0 := by rw [← hf]; rfl
      have hfok : ∀ j, -9223372036854775808 ≤ f.n j ∧ f.n j ≤ 9223372036854775807 := by
        intro j
        rw [← hf]
        have h0 := R0.out
        have h1 := R1.out
        have h2 := R2.out
        simp only [mkv]
        split <;> constructor <;> omega
      obtain ⟨WF, hWF⟩ : ∃ x, ((w10.alloc (.cells zeroF.cells 41)).drew).setRow w10.heap.size (mkv y1 (1 + y2) (1 + y0)).cells = x := ⟨_, rfl⟩
      obtain ⟨nf, hnf⟩ : ∃ x, w10.heap.size = x := ⟨_, rfl⟩
      have hrf : RowAt WF nf 41 f.cells := by rw [← hWF, ← hnf, ← hf]; exact setRow_same (heap_alloc_last w10 _)
      have BF : Hid (Below W.heap.size W WF) := Lib.hid (by rw [← hWF]; exact B9.out.trans ((below_setRow (g := w10.heap.size) ((Below.refl w10.heap.size w10).alloc (Nat.le_refl _) _).drew (Nat.le_refl _)).mono B9.out.size))
      refine (fun (H : ∀ V : World, V = WF → Exit.then _ _ _ _ V) => H _ hWF) ?_
      intro V hV
      rw [hV, hnf]
      clear hV V hWF hnf CM hw0 hw2
      have HF := Lib.hid hf
      clear hf
      have KF := HKEY.out WF BF.out
      have K2 := Lib.hid KF.1
      have HL2 := Lib.hid KF.2.1
      clear KF
      go_wp2_with (first | ((with_reducible refine wpList_stop (o := ⟨some 88, _, _, _, _, _⟩) ?_)) | ((with_reducible refine load_base (o := ⟨some 87, _, _, _, _, _⟩) (.tmp 10) nb (bv (.slice A5 R5.length c5) b (.slice AL R7.length cL)) K2.out ?_ ?_ ?_ ?_); rfl; rfl; rfl) | ((with_reducible refine store_base (o := ⟨none, .store _ _ _, _, _, _, _⟩) (.tmp 16) (.tmp 87) (bv (.slice A5 R5.length c5) b (.slice AL R7.length cL)) _ ?_ ?_ ?_ ?_ ?_ HL2.out.ones ?_); rfl; rfl; rfl; rfl; rfl))
      unfold Stop
      have hrf2 : (WF.alloc (.cells (bv (.slice A5 R5.length c5) b (.slice AL R7.length cL)).cells 26)).heap[nf]? = some (.cells f.cells 41 (0, 0)) := (Below.heap_alloc _ _ _ hrf.lt).trans hrf
      obtain ⟨V, hV⟩ : ∃ x, WF.alloc (.cells (bv (.slice A5 R5.length c5) b (.slice AL R7.length cL)).cells 26) = x := ⟨_, rfl⟩
      obtain ⟨nc, hnc⟩ : ∃ x, WF.heap.size = x := ⟨_, rfl⟩
      have hrc : RowAt V nc 26 (bv (.slice A5 R5.length c5) b (.slice AL R7.length cL)).cells := by rw [← hV, ← hnc]; exact RowAt.new WF _ _
      have BV : Hid (Below W.heap.size W V) := Lib.hid (by rw [← hV]; exact BF.out.alloc BF.out.size _)
      rw [hV] at hrf2 ⊢
      have HFC : Hid (nf < nc) := Lib.hid (by rw [← hnc]; exact hrf.lt)
      have HNC : Hid (W.heap.size ≤ nc) := Lib.hid (by rw [← hnc]; exact BF.out.size)
      rw [hnc]
      clear hV hnc hrf K2 HL2
      have KV := HKEY.out V BV.out
      have cv6 : V.cell? ⟨nb, 6, none⟩ = some (.slice AL R7.length cL) := cell_of_row _ _ 6 _ _ _ KV.1
      have hltb2 : nb < V.heap.size := (Array.getElem?_eq_some_iff.1 KV.1).1
      have HRF2 := Lib.hid hrf2
      have HRC := Lib.hid hrc
      have HFV := Lib.hid (KV.2.1.f7.below ((Below.refl V.heap.size V).alloc (Nat.le_refl _) (.cells f.cells 41)))
      have hltc : nc < V.heap.size := hrc.lt
      have hr40 : 1 + R7.length ≤ 1000000 := by have := HR7.out; omega
      clear hrf2 hrc KV
      go_wp2_with (first | ((with_reducible refine load_fact (o := ⟨some 88, _, _, _, _, _⟩) (.tmp 15) nf 0 f (row_cells HRF2.out) ?_ ?_ ?_ ?_); rfl; rfl; rfl) | ((with_reducible refine build_fact (o := ⟨some 89, _, _, _, _, _⟩) (.tmp 88) f ?_ ?_ ?_ ?_); rfl; rfl; rfl) | ((with_reducible refine wpList_stop (o := ⟨some 92, _, _, _, _, _⟩) ?_)))
      unfold Stop
      refine wpList_append_facts (.tmp 89) (.tmp 91) V.heap.size [f] R7 _ _ (own_single V f) HFV.out hr40 ?_ ?_ ?_ ?_ ?_ ?_
      · simp
      · rfl
      · rfl
      · rfl
      · rfl
      intro v9 w11 hown9 hbl9
      obtain ⟨A9, n9, c9, rfl⟩ := hown9.slice
      have hrc9 : RowAt w11 nc 26 (bv (.slice A5 R5.length c5) b (.slice AL R7.length cL)).cells := (RowAt.alloc HRC.out _).below hbl9 hltc
      have cc9 : w11.cell? ⟨nc, 6, none⟩ = some (.slice AL R7.length cL) := hrc9.cell 6
      have fc9 : w11.frozen? ⟨nc, 6, none⟩ = false := hrc9.free 6
      have B11 : Hid (Below W.heap.size W w11) := Lib.hid ((BV.out.alloc BV.out.size _).trans (hbl9.mono BV.out.size))
      have hrf9 : RowAt w11 nf 41 f.cells := (RowAt.alloc (show RowAt V nf 41 f.cells from HRF2.out) _).below hbl9 (Array.getElem?_eq_some_iff.1 HRF2.out).1
      have HRF9 := Lib.hid hrf9
      have HRC9 := Lib.hid hrc9
      have HOW9 := Lib.hid hown9
      have HLT : Hid (nc < V.heap.size) := Lib.hid hltc
      clear hrf9 hrc9 hown9 hbl9 hltc
      go_wp2_with fail
      obtain ⟨W12, hW12⟩ : ∃ x, w11.setCell ⟨nc, 6, none⟩ (.slice A9 n9 c9) = x := ⟨_, rfl⟩
      have hoth : ∀ j, j ≠ nc → W12.heap[j]? = w11.heap[j]? := fun j hj => by rw [← hW12]; exact Below.heap_setCell _ _ _ _ hj
      have hrc12 : RowAt W12 nc 26 (bv (.slice A5 R5.length c5) b (.slice A9 n9 c9)).cells := by rw [← hW12]; exact HRC9.out.set 6 (.slice A9 n9 c9)
      have hrf12 : RowAt W12 nf 41 f.cells := (hoth nf (by have := HFC.out; omega)).trans HRF9.out
      have hfa12 : FactsAt W12 (.slice A9 n9 c9) ([f] ++ R7) := (HOW9.out.other (k := nc) HLT.out hoth).facts
      have hb12 : Below W.heap.size W W12 := by rw [← hW12]; exact B11.out.setCell (p := ⟨nc, 6, none⟩) HNC.out _
      have K12 := Lib.hid (fun Wc (h : Below W12.heap.size W12 Wc) => show Below W.heap.size W Wc ∧ RowAt Wc nc 26 (bv (.slice A5 R5.length c5) b (.slice A9 n9 c9)).cells ∧ RowAt Wc nf 41 f.cells ∧ FactsAt Wc (.slice A9 n9 c9) ([f] ++ R7) from ⟨hb12.trans (h.mono hb12.size), hrc12.below h hrc12.lt, hrf12.below h hrf12.lt, hfa12.below h⟩)
      have hfv : FactsOk ([f] ++ R7) := fun x hx => by
        rcases List.mem_append.1 hx with h | h
        · rw [List.mem_singleton.1 h]; exact hfok
        · exact HL.out.ok7 x h
      have HFV := Lib.hid hfv
      rw [hW12]
      have HUN := Lib.hid (fun (h : usedTo f t q R5 R5.length = false) => rev_unused (R := R7) h)
      have HR5 := Lib.hid (show R5.length ≤ 40 by have := HL.out.len; omega)
      clear hW12 hoth hrc12 hrf12 hfa12 hb12 HRC9 HRF9 HOW9 B11 HFC HNC HLT BV BF B9 hr40 hltb2 fc9 cc9 cv6 HRF2 HRC hfok hfv hf3 hf15 HF HBi
      go_loopw [17, 18] (fun uv iv wr2 => ∃ k : Nat, k ≤ R5.length ∧ uv = .bool (usedTo f t q R5 k) ∧ iv = .int .i64 k ∧ Hid (Below W12.heap.size W12 wr2)) (fun _ i _ => R5.length - (intOf i).toNat)
      case atStart => exact ⟨0, by omega, rfl, rfl, Lib.hid (Below.refl _ _)⟩
      case round =>
        obtain ⟨k, hk, rfl, rfl, HBk⟩ := hrel
        have hk12 := K12.out wr HBk.out
        have hkw := HKEY.out wr hk12.1
        obtain ⟨u, hu⟩ : ∃ u, usedTo f t q R5 k = u := ⟨_, rfl⟩
        rw [hu]
        have HU := Lib.hid hu
        clear hu
        by_cases hk2 : k < R5.length
        · obtain ⟨g, hg⟩ : ∃ g, R5[k]? = some g := ⟨_, List.getElem?_eq_getElem hk2⟩
          have hst := usedTo_succ (f := f) (t := t) (q := q) hg
          rw [HU.out] at hst
          obtain ⟨b5, o5, hA, hb5, hcl⟩ : ∃ b o, A5 = some ⟨b, o, none⟩ ∧ b < W.heap.size ∧ ∀ j x, g.cells[j]? = some x → W.cell? ⟨b, o + k * 18 + j, none⟩ = some x := by
            rcases HL.out.f5 with ⟨hnil, _⟩ | ⟨b, o, c, he, hb, hc⟩
            · rw [hnil] at hg; simp at hg
            · simp only [Value.slice.injEq] at he
              exact ⟨b, o, he.1, hb, fun j x hx => hc k g hg j x hx⟩
          subst hA
          have cb4 : wr.cell? ⟨nb, 4, none⟩ = some (.slice (some ⟨b5, o5, none⟩) R5.length c5) := cell_of_row _ _ 4 _ _ _ hkw.1
          have hld : ∀ j x, g.cells[j]? = some x → wr.cell? ⟨b5, o5 + k * 18 + j, none⟩ = some x := fun j x hx => (hk12.1.cell (p := ⟨b5, o5 + k * 18 + j, none⟩) hb5).trans (hcl j x hx)
          have HLD := Lib.hid hld
          have hfr : RowAt (wr.alloc (.cells g.cells 41)) nf 41 f.cells := hk12.2.2.1.below ((Below.refl _ _).alloc (Nat.le_refl _) _) hk12.2.2.1.lt
          obtain ⟨x15, hx15⟩ : ∃ x, f.n 15 = x := ⟨_, rfl⟩
          obtain ⟨x3, hx3⟩ : ∃ x, f.n 3 = x := ⟨_, rfl⟩
          obtain ⟨z15, hz15⟩ : ∃ x, g.n 15 = x := ⟨_, rfl⟩
          obtain ⟨z3, hz3⟩ : ∃ x, g.n 3 = x := ⟨_, rfl⟩
          obtain ⟨z8, hz8⟩ : ∃ x, g.n 8 = x := ⟨_, rfl⟩
          have cf15 : (wr.alloc (.cells g.cells 41)).cell? ⟨nf, 15, none⟩ = some (.int .i64 x15) := by rw [← hx15]; exact hfr.cell 15
          have cf3 : (wr.alloc (.cells g.cells 41)).cell? ⟨nf, 3, none⟩ = some (.int .i64 x3) := by rw [← hx3]; exact hfr.cell 3
          have g15 : g.cells[15]? = some (.int .i64 z15) := by rw [← hz15]; rfl
          have g3 : g.cells[3]? = some (.int .i64 z3) := by rw [← hz3]; rfl
          have g8 : g.cells[8]? = some (.int .i64 z8) := by rw [← hz8]; rfl
          have hub : usedBy f t q g = (z15 == x15 && z3 == x3 && x3 == q && z8 == t) := by unfold usedBy; rw [hx15, hx3, hz15, hz3, hz8]
          rw [hub] at hst
          have h40 := HR5.out
          clear hg hcl hld hfr hx15 hx3 hz15 hz3 hz8 hub hkw hk12
          cases u
          · by_cases e1 : z15 = x15
            · have q1 : (z15 == x15) = true := by rw [beq_iff_eq]; exact e1
              by_cases e2 : z3 = x3
              · have q2 : (z3 == x3) = true := by rw [beq_iff_eq]; exact e2
                by_cases e3 : x3 = q
                · have q3 : (x3 == q) = true := by rw [beq_iff_eq]; exact e3
                  by_cases e4 : z8 = t
                  · have q4 : (z8 == t) = true := by rw [beq_iff_eq]; exact e4
                    rw [q1, q2, q3, q4] at hst
                    clear e1 e2 e3 e4
                    have HST := Lib.hid hst
                    clear hst
                    go_wp2_with (first | ((with_reducible refine load_fact (o := ⟨some 105, _, _, _, _, _⟩) (.tmp 104) b5 (o5 + k * 18) g HLD.out ?_ ?_ ?_ ?_); rfl; rfl; rfl) | ((with_reducible refine store_fact (o := ⟨none, .store _ _ _, _, _, _, _⟩) (.tmp 19) (.tmp 105) g _ ?_ ?_ ?_ ?_ ?_ ?_); rfl; rfl; rfl; rfl; rfl))
                    go_roundw
                    case rel => exact ⟨k + 1, by omega, by rw [HST.out]; rfl, by go_num, Lib.hid (HBk.out.alloc HBk.out.size _)⟩
                    case measure => simp [intOf]; omega
                  · have q4 : (z8 == t) = false := by rw [beq_eq_false_iff_ne]; exact e4
                    rw [q1, q2, q3, q4] at hst
                    clear e1 e2 e3 e4
                    have HST := Lib.hid hst
                    clear hst
                    go_wp2_with (first | ((with_reducible refine load_fact (o := ⟨some 105, _, _, _, _, _⟩) (.tmp 104) b5 (o5 + k * 18) g HLD.out ?_ ?_ ?_ ?_); rfl; rfl; rfl) | ((with_reducible refine store_fact (o := ⟨none, .store _ _ _, _, _, _, _⟩) (.tmp 19) (.tmp 105) g _ ?_ ?_ ?_ ?_ ?_ ?_); rfl; rfl; rfl; rfl; rfl))
                    go_roundw
                    case rel => exact ⟨k + 1, by omega, by rw [HST.out]; rfl, by go_num, Lib.hid (HBk.out.alloc HBk.out.size _)⟩
                    case measure => simp [intOf]; omega
                · have q3 : (x3 == q) = false := by rw [beq_eq_false_iff_ne]; exact e3
                  rw [q1, q2, q3] at hst
                  clear e1 e2 e3
                  have HST := Lib.hid hst
                  clear hst
                  go_wp2_with (first | ((with_reducible refine load_fact (o := ⟨some 105, _, _, _, _, _⟩) (.tmp 104) b5 (o5 + k * 18) g HLD.out ?_ ?_ ?_ ?_); rfl; rfl; rfl) | ((with_reducible refine store_fact (o := ⟨none, .store _ _ _, _, _, _, _⟩) (.tmp 19) (.tmp 105) g _ ?_ ?_ ?_ ?_ ?_ ?_); rfl; rfl; rfl; rfl; rfl))
                  go_roundw
                  case rel => exact ⟨k + 1, by omega, by rw [HST.out]; rfl, by go_num, Lib.hid (HBk.out.alloc HBk.out.size _)⟩
                  case measure => simp [intOf]; omega
              · have q2 : (z3 == x3) = false := by rw [beq_eq_false_iff_ne]; exact e2
                rw [q1, q2] at hst
                clear e1 e2
                have HST := Lib.hid hst
                clear hst
                go_wp2_with (first | ((with_reducible refine load_fact (o := ⟨some 105, _, _, _, _, _⟩) (.tmp 104) b5 (o5 + k * 18) g HLD.out ?_ ?_ ?_ ?_); rfl; rfl; rfl) | ((with_reducible refine store_fact (o := ⟨none, .store _ _ _, _, _, _, _⟩) (.tmp 19) (.tmp 105) g _ ?_ ?_ ?_ ?_ ?_ ?_); rfl; rfl; rfl; rfl; rfl))
                go_roundw
                case rel => exact ⟨k + 1, by omega, by rw [HST.out]; rfl, by go_num, Lib.hid (HBk.out.alloc HBk.out.size _)⟩
                case measure => simp [intOf]; omega
            · have q1 : (z15 == x15) = false := by rw [beq_eq_false_iff_ne]; exact e1
              rw [q1] at hst
              clear e1
              have HST := Lib.hid hst
              clear hst
              go_wp2_with (first | ((with_reducible refine load_fact (o := ⟨some 105, _, _, _, _, _⟩) (.tmp 104) b5 (o5 + k * 18) g HLD.out ?_ ?_ ?_ ?_); rfl; rfl; rfl) | ((with_reducible refine store_fact (o := ⟨none, .store _ _ _, _, _, _, _⟩) (.tmp 19) (.tmp 105) g _ ?_ ?_ ?_ ?_ ?_ ?_); rfl; rfl; rfl; rfl; rfl))
              go_roundw
              case rel => exact ⟨k + 1, by omega, by rw [HST.out]; rfl, by go_num, Lib.hid (HBk.out.alloc HBk.out.size _)⟩
              case measure => simp [intOf]; omega
          · have HST := Lib.hid hst
            clear hst
            go_wp2_with (first | ((with_reducible refine load_fact (o := ⟨some 105, _, _, _, _, _⟩) (.tmp 104) b5 (o5 + k * 18) g HLD.out ?_ ?_ ?_ ?_); rfl; rfl; rfl) | ((with_reducible refine store_fact (o := ⟨none, .store _ _ _, _, _, _, _⟩) (.tmp 19) (.tmp 105) g _ ?_ ?_ ?_ ?_ ?_ ?_); rfl; rfl; rfl; rfl; rfl))
            go_roundw
            case rel => exact ⟨k + 1, by omega, by rw [HST.out]; rfl, by go_num, Lib.hid (HBk.out.alloc HBk.out.size _)⟩
            case measure => simp [intOf]; omega
        · have hke : k = R5.length := by omega
          rw [hke] at HU
          have cb4 : wr.cell? ⟨nb, 4, none⟩ = some (.slice A5 R5.length c5) := cell_of_row _ _ 4 _ _ _ hkw.1
          have hk40 := HR5.out
          clear hke
          cases u
          · have hk2 : ∀ Wc, Below wr.heap.size wr Wc → Below W.heap.size W Wc ∧ RowAt Wc nc 26 (bv (.slice A5 R5.length c5) b (.slice A9 n9 c9)).cells ∧ FactsAt Wc (.slice A9 n9 c9) ([f] ++ R7) := fun Wc h => by
              have h2 := K12.out Wc (HBk.out.trans (h.mono HBk.out.size))
              exact ⟨h2.1, h2.2.1, h2.2.2.2⟩
            have hl40 := HL.out.len
            have C1 := Lib.hid (fun Wc (h : Below wr.heap.size wr Wc) => revenue_any (bv (.slice A5 R5.length c5) b (.slice AL R7.length cL)) t q R5 R7 Wc (by omega) (by omega) (HKEY.out Wc (hk2 Wc h).1).2.1.f5 (HKEY.out Wc (hk2 Wc h).1).2.1.f7 HL.out.ok7 HL.out.ok5)
            have C2 := Lib.hid (fun Wc (h : Below wr.heap.size wr Wc) => revenue_any (bv (.slice A5 R5.length c5) b (.slice A9 n9 c9)) t q R5 ([f] ++ R7) Wc (by omega) (by simp; omega) (HKEY.out Wc (hk2 Wc h).1).2.1.f5 (hk2 Wc h).2.2 HFV.out HL.out.ok5)
            have e2 : revSpec R5 ([f] ++ R7) t q = revSpec R5 R7 t q := HUN.out HU.out
            rw [e2] at C2
            rw [HRV2.out] at C1 C2
            have HRB : Hid (∀ W', Below wr.heap.size wr W' → ∀ j v, (bv (.slice A5 R5.length c5) b (.slice AL R7.length cL)).cells[j]? = some v → W'.cell? ⟨nb, 0 + j, none⟩ = some v) := Lib.hid fun W' h => row_cells (HKEY.out W' (hk2 W' h).1).1
            have HRN : Hid (∀ W', Below wr.heap.size wr W' → ∀ j v, (bv (.slice A5 R5.length c5) b (.slice A9 n9 c9)).cells[j]? = some v → W'.cell? ⟨nc, 0 + j, none⟩ = some v) := Lib.hid fun W' h => row_cells (show W'.heap[nc]? = _ from (hk2 W' h).2.1)
            have HEND : Hid (∀ Wc, Below wr.heap.size wr Wc → Below w.heap.size w Wc) := Lib.hid fun Wc h => B3.out.trans ((hk2 Wc h).1.mono B3.out.size)
            clear hk2 hl40 e2 hkw hk12
            go_wp2_with fail
            refine wp_region_held_drew (S := fun W' => Below wr.heap.size wr W') (by kernel_rfl) (Below.refl _ _).drew (fun hHeld => ?_)
            refine wpAnyH_take (i := 0) (oi := ⟨_, _, _, _, _, _⟩) (v := ?_) rfl (by kernel_rfl) (by kernel_rfl) (by kernel_rfl) (fun _ _ _ h => h) (Or.inl ⟨by rfl, ?_⟩) (by assumption) ?_
            rotate_left
            · intro w hSw
              go_simp
              all_goals with_reducible rfl
            simp only [Act.put, List.setIfInBounds_toArray, List.set_cons_zero, List.set_cons_succ]
            refine wpAnyH_take (i := 1) (oi := ⟨_, _, _, _, _, _⟩) (v := ?_) rfl (by kernel_rfl) (by kernel_rfl) (by kernel_rfl) (fun _ _ _ h => h) (Or.inl ⟨by rfl, ?_⟩) (by assumption) ?_
            rotate_left
            · intro w hSw
              go_simp
              all_goals with_reducible rfl
            simp only [Act.put, List.setIfInBounds_toArray, List.set_cons_zero, List.set_cons_succ]
            refine wpAnyH_take (i := 2) (oi := ⟨_, _, _, _, _, _⟩) (v := ?_) rfl (by kernel_rfl) (by kernel_rfl) (by kernel_rfl) (fun _ _ _ h => h) (Or.inl ⟨by rfl, ?_⟩) (by assumption) ?_
            rotate_left
            · intro w hSw
              go_simp
              all_goals with_reducible rfl
            simp only [Act.put, List.setIfInBounds_toArray, List.set_cons_zero, List.set_cons_succ]
            refine wpAnyH_take (i := 3) (oi := ⟨_, _, _, _, _, _⟩) (v := ?_) rfl (by kernel_rfl) (by kernel_rfl) (by kernel_rfl) (fun _ _ _ h => h) (Or.inl ⟨by rfl, ?_⟩) (by assumption) ?_
            rotate_left
            · intro w hSw
              go_simp
              all_goals with_reducible rfl
            simp only [Act.put, List.setIfInBounds_toArray, List.set_cons_zero, List.set_cons_succ]
            refine wpAnyH_take (i := 4) (oi := ⟨_, _, _, _, _, _⟩) rfl (by kernel_rfl) (by kernel_rfl) (by kernel_rfl) (fun _ _ _ h => h) (yieldsIf_load_at 26 (.tmp 10) nb 0 (bv (.slice A5 R5.length c5) b (.slice AL R7.length cL)).cells _ HRB.out rfl (by rfl) rfl rfl rfl rfl) (by assumption) ?_
            simp only [Act.put, List.setIfInBounds_toArray, List.set_cons_zero, List.set_cons_succ]
            refine wpAnyH_take (i := 5) (oi := ⟨_, _, _, _, _, _⟩) (v := ?_) rfl (by kernel_rfl) (by kernel_rfl) (by kernel_rfl) (fun _ _ _ h => h) (Or.inl ⟨by rfl, ?_⟩) (by assumption) ?_
            rotate_left
            · intro w hSw
              go_simp
              all_goals with_reducible rfl
            simp only [Act.put, List.setIfInBounds_toArray, List.set_cons_zero, List.set_cons_succ]
            refine wpAnyH_take (i := 6) (oi := ⟨_, _, _, _, _, _⟩) (v := ?_) rfl (by kernel_rfl) (by kernel_rfl) (by kernel_rfl) (fun _ _ _ h => h) (Or.inl ⟨by rfl, ?_⟩) (by assumption) ?_
            rotate_left
            · intro w hSw
              go_simp
              all_goals with_reducible rfl
            simp only [Act.put, List.setIfInBounds_toArray, List.set_cons_zero, List.set_cons_succ]
            refine wpAnyH_take (i := 8) (oi := ⟨_, _, _, _, _, _⟩) rfl (by kernel_rfl) (by kernel_rfl) (by kernel_rfl) (fun _ _ _ h => h) (yieldsIf_load_at 26 (.tmp 16) nc 0 (bv (.slice A5 R5.length c5) b (.slice A9 n9 c9)).cells _ HRN.out rfl (by rfl) rfl rfl rfl rfl) (by assumption) ?_
            simp only [Act.put, List.setIfInBounds_toArray, List.set_cons_zero, List.set_cons_succ]
            refine wpAnyH_take (i := 9) (oi := ⟨_, _, _, _, _, _⟩) (v := ?_) rfl (by kernel_rfl) (by kernel_rfl) (by kernel_rfl) (fun _ _ _ h => h) (Or.inl ⟨by rfl, ?_⟩) (by assumption) ?_
            rotate_left
            · intro w hSw
              go_simp
              all_goals with_reducible rfl
            simp only [Act.put, List.setIfInBounds_toArray, List.set_cons_zero, List.set_cons_succ]
            refine wpAnyH_take (i := 10) (oi := ⟨_, _, _, _, _, _⟩) (v := ?_) rfl (by kernel_rfl) (by kernel_rfl) (by kernel_rfl) (fun _ _ _ h => h) (Or.inl ⟨by rfl, ?_⟩) (by assumption) ?_
            rotate_left
            · intro w hSw
              go_simp
              all_goals with_reducible rfl
            simp only [Act.put, List.setIfInBounds_toArray, List.set_cons_zero, List.set_cons_succ]
            refine wpAnyH_ready (rs := [7]) (by kernel_rfl) (by simp) ?_
            refine AllReadyH.cons (o := ⟨_, _, _, _, _, _⟩) rfl (fun K hK => ?_) AllReadyH.nil
            go_simp
            go_at_call 12
            refine (C1.out _ (Below.refl wr.heap.size wr).drew).mono ?_
            rintro e w6 ⟨rfl, hb⟩
            have Sw6 : Below wr.heap.size wr w6 := (Below.refl wr.heap.size wr).drew.trans (hb.mono (Below.refl wr.heap.size wr).drew.size)
            have Dw6 := Sw6
            clear hb
            go_wp2_with fail
            refine hK.out _ _ Sw6 (fun hHeld => ?_)
            clear hK K
            try simp only [Act.put, List.setIfInBounds_toArray, List.set_cons_zero, List.set_cons_succ]
            refine wpAnyH_ready (rs := [11]) (by kernel_rfl) (by simp) ?_
            refine AllReadyH.cons (o := ⟨_, _, _, _, _, _⟩) rfl (fun K hK => ?_) AllReadyH.nil
            go_simp
            go_at_call 12
            refine (C2.out _ Sw6).mono ?_
            rintro e w7 ⟨rfl, hb⟩
            have Sw7 : Below wr.heap.size wr w7 := Sw6.trans (hb.mono Sw6.size)
            have Dw7 := Sw7
            clear hb
            go_wp2_with fail
            refine hK.out _ _ Sw7 (fun hHeld => ?_)
            clear hK K
            try simp only [Act.put, List.setIfInBounds_toArray, List.set_cons_zero, List.set_cons_succ]
            refine wpAnyH_take (i := 12) (oi := ⟨_, _, _, _, _, _⟩) (v := ?_) rfl (by kernel_rfl) (by kernel_rfl) (by kernel_rfl) (fun _ _ _ h => h) (Or.inl ⟨by rfl, ?_⟩) (by assumption) ?_
            rotate_left
            · intro w hSw
              go_simp
              all_goals with_reducible rfl
            simp only [Act.put, List.setIfInBounds_toArray, List.set_cons_zero, List.set_cons_succ]
            refine wpAnyH_take (i := 13) (oi := ⟨_, _, _, _, _, _⟩) (v := ?_) rfl (by kernel_rfl) (by kernel_rfl) (by kernel_rfl) (fun _ _ _ h => h) (Or.inl ⟨by rfl, ?_⟩) (by assumption) ?_
            rotate_left
            · intro w hSw
              go_simp
              all_goals with_reducible rfl
            simp only [Act.put, List.setIfInBounds_toArray, List.set_cons_zero, List.set_cons_succ]
            refine wpAnyH_take (i := 14) (oi := ⟨_, _, _, _, _, _⟩) (v := ?_) rfl (by kernel_rfl) (by kernel_rfl) (by kernel_rfl) (fun _ _ _ h => h) (Or.inl ⟨by rfl, ?_⟩) (by assumption) ?_
            rotate_left
            · intro w hSw
              go_simp
              all_goals with_reducible rfl
            simp only [Act.put, List.setIfInBounds_toArray, List.set_cons_zero, List.set_cons_succ]
            refine wpAnyH_take (i := 15) (oi := ⟨_, _, _, _, _, _⟩) (v := ?_) rfl (by kernel_rfl) (by kernel_rfl) (by kernel_rfl) (fun _ _ _ h => h) (Or.inl ⟨by rfl, ?_⟩) (by assumption) ?_
            rotate_left
            · intro w hSw
              go_simp
              all_goals with_reducible rfl
            simp only [Act.put, List.setIfInBounds_toArray, List.set_cons_zero, List.set_cons_succ]
            refine wpAnyH_done (by kernel_rfl) ?_ _
            have HBE := Lib.hid (HEND.out _ Sw7)
            clear Sw6 Sw7 Dw6 Dw7 hHeld HRB HRN C1 C2
            go_wp2_with fail
            go_ret
            exact ⟨rfl, HBE.out⟩
          · have HBE := Lib.hid (B3.out.trans (hk12.1.mono B3.out.size))
            clear hkw hk12
            go_wp2_with fail
            go_quiet (fail)
            go_wp2_with fail
            go_ret
            exact ⟨rfl, HBE.out.trans ⟨rfl, rfl, rfl, Nat.le_refl _, fun _ _ => rfl⟩⟩
end Go.Proofs.Ytdackmefkccipaa
