/- exchange.Revenue. -/
import Derived.Test.YtdackmefkccipaaExG
import Derived.Laws.EntriesVeiled
namespace Go.Proofs.Ytdackmefkccipaa
open Go Go.RowKit Go.Lib Go.Shelf
attribute [local go_sem] Oper.semAt_some

set_option maxRecDepth 100000 in
set_option maxHeartbeats 4000000 in
theorem revenue_in (B : BaseV) (t p : Int) (fs rates : List FactV) (w : World) (hn1 : fs.length ≤ 140737488351232) (hn : rates.length ≤ 140737488351232) (hf : FactsAt w (B.l 4) fs) (hv : FactsAt w (B.l 6) rates) (hok : FactsOk rates) (hok1 : FactsOk fs) :
    CallsIn Fence.wide 9 Try.prog 12 #[.agg B.cells, .int .i64 t, .int .i64 p] w fun e w' => e = .returned (.int .i64 (revSpec fs rates t p)) ∧ Below w.heap.size w w' := by
  have hB4 : B.cells[4]? = some (B.l 4) := rfl
  obtain ⟨v, hv4⟩ : ∃ v, B.l 4 = v := ⟨_, rfl⟩
  rw [hv4] at hB4 hf
  have hone : v.oneCell' = true := by
    rcases hf with ⟨_, A, c, rfl⟩ | ⟨b, o, c, rfl, _⟩ <;> rfl
  have HF := Lib.hid hf
  have HV := Lib.hid hv
  have HOK := Lib.hid hok
  have HOK1 := Lib.hid hok1
  have HN1 := Lib.hid hn1
  have HN := Lib.hid hn
  clear hf hv hok hok1 hv4 hn1 hn
  refine callsIn_of_wp_marks Try.func12 rfl trivial ?_ rfl
  simp only [Try.ntmps12, List.size_toArray, List.length_cons, List.length_nil, Nat.reduceAdd, Nat.reduceSub, Array.replicate_succ, Array.replicate_zero, List.push_toArray, List.append_toArray, List.nil_append, List.cons_append]
  gi_wp2_with (refine wpListIn_load_at (o := ⟨some 12, _, _, _, _, _⟩) rfl 26 (.tmp 3) rfl w.heap.size 0 rfl B.cells _ (row_cells (heap_alloc_last w _)) Try.underlying26 rfl base_size ?_)
  refine ⟨trivial, callsIn_wide.2 ((converter_any B p _).mono ?_)⟩
  rintro e w' ⟨rfl, rfl⟩
  gi_wp2_with fail
  refine ⟨trivial, callsIn_wide.2 ((at_any v hone t p _).mono ?_)⟩
  rintro e w' ⟨rfl, rfl⟩
  gi_wp2_with fail
  obtain ⟨W0, hW0⟩ : ∃ W0, allocs w [.cells B.cells 26, .cells B.cells 26, .cells #[.int .i64 p] 3, .cells #[.int .i64 0] 3,
    .cells #[.func (.func 32) #[] #[.pointer (some ⟨w.heap.size + 1, 0, none⟩), .pointer (some ⟨w.heap.size + 1 + 1, 0, none⟩)]] 50, .cells #[v] 23, .cells #[.int .i64 t] 3, .cells #[.int .i64 p] 3] = W0 := ⟨_, rfl⟩
  refine (show _ from ?_ : Code.wpIn _ _ _ _ _ _ (allocs w [.cells B.cells 26, .cells B.cells 26, .cells #[.int .i64 p] 3, .cells #[.int .i64 0] 3,
    .cells #[.func (.func 32) #[] #[.pointer (some ⟨w.heap.size + 1, 0, none⟩), .pointer (some ⟨w.heap.size + 1 + 1, 0, none⟩)]] 50, .cells #[v] 23, .cells #[.int .i64 t] 3, .cells #[.int .i64 p] 3]))
  rw [hW0]
  obtain ⟨h, hh⟩ : ∃ h, w.heap.size = h := ⟨_, rfl⟩
  have hs0 : W0.heap.size = h + 8 := by rw [← hW0, ← hh]; exact allocs_size _ _
  have k1 : W0.heap[h + 1]? = some (.cells B.cells 26 (0, 0)) := by rw [← hW0, ← hh]; exact allocs_get _ _ 1 _ rfl
  have k2 : W0.heap[h + 2]? = some (.cells #[.int .i64 p] 3 (0, 0)) := by rw [← hW0, ← hh]; exact allocs_get _ _ 2 _ rfl
  have k3 : W0.heap[h + 3]? = some (.cells #[.int .i64 0] 3 (0, 0)) := by rw [← hW0, ← hh]; exact allocs_get _ _ 3 _ rfl
  have k4 : W0.heap[h + 4]? = some (.cells #[.func (.func 32) #[] #[.pointer (some ⟨h + 1, 0, none⟩), .pointer (some ⟨h + 2, 0, none⟩)]] 50 (0, 0)) := by rw [← hW0, ← hh]; exact allocs_get _ _ 4 _ rfl
  have k5 : W0.heap[h + 5]? = some (.cells #[v] 23 (0, 0)) := by rw [← hW0, ← hh]; exact allocs_get _ _ 5 _ rfl
  have k6 : W0.heap[h + 6]? = some (.cells #[.int .i64 t] 3 (0, 0)) := by rw [← hW0, ← hh]; exact allocs_get _ _ 6 _ rfl
  have k7 : W0.heap[h + 7]? = some (.cells #[.int .i64 p] 3 (0, 0)) := by rw [← hW0, ← hh]; exact allocs_get _ _ 7 _ rfl
  have hb0 : Below h w W0 := by rw [← hW0, ← hh]; exact allocs_below _ _
  simp only [hh, Nat.add_assoc, Nat.reduceAdd]
  have HB0 := Lib.hid hb0
  have HS0 := Lib.hid hs0
  have HK1 := Lib.hid k1
  have HK2 := Lib.hid k2
  have HK3 := Lib.hid k3
  have HK4 := Lib.hid k4
  have HK5 := Lib.hid k5
  have HK6 := Lib.hid k6
  have HK7 := Lib.hid k7
  have HH := Lib.hid hh
  have HW0 := Lib.hid hW0
  clear hb0 hs0 k1 k2 k3 k4 k5 k6 k7 hW0 hh
  -- what a world in the loop still holds
  have HL : Hid (∀ W, W0.grownBy W (some (h + 3)) → (∀ b, b < h + 8 → b ≠ h + 3 → W.heap[b]? = W0.heap[b]?) ∧ Below h w W ∧ h + 8 ≤ W.heap.size) := Lib.hid (fun W hg => by
    have hs0 := HS0.out
    refine ⟨fun b hb hne => hg.block b (by omega) (fun e => hne (by injection e)), HB0.out.grown hg (by omega) (fun r e => by cases e; omega), by have := hg.size; omega⟩)
  have HFA : Hid (∀ W, W0.grownBy W (some (h + 3)) → FactsAt W v fs ∧ FactsAt W (B.l 6) rates) := Lib.hid (fun W hg => by
    have hb := (HL.out W hg).2.1
    rw [← HH.out] at hb
    exact ⟨HF.out.below hb, HV.out.below hb⟩)
  refine range_at (v := v) (fs := fs) (t := t) (p := p) (by omega) HN1.out rfl rfl
    (fun k W => W0.grownBy W (some (h + 3)) ∧ W.heap[h + 3]? = some (.cells #[.int .i64 (revTo fs rates t p k)] 3 (0, 0))) ?calm ?mem ?skip ?start
    (fun f H => { tmps := #[.agg B.cells, .int .i64 t, .int .i64 p, .pointer (some ⟨h, 0, none⟩), undef, undef, .int .i64 0, .pointer (some ⟨h + 3, 0, none⟩), .pointer (some ⟨h + 4, 0, none⟩), .pointer (some ⟨H, 0, none⟩), undef, undef,
      .agg B.cells, .int .i64 p, .func (.func 32) #[] #[.pointer (some ⟨h + 1, 0, none⟩), .pointer (some ⟨h + 2, 0, none⟩)], .pointer (some ⟨h, 4, none⟩), v, .int .i64 t, .int .i64 p,
      .func (.func 33) #[] #[.pointer (some ⟨h + 5, 0, none⟩), .pointer (some ⟨h + 6, 0, none⟩), .pointer (some ⟨h + 7, 0, none⟩)], .agg f.cells, undef, undef, undef, undef, undef, undef, undef, undef, undef, undef, undef, undef], defers := [] }) ?assign ?body ?done
  case calm =>
    rintro k W W' row ⟨hg, hc⟩ hg2 hrow
    have hs0 := HS0.out
    refine ⟨grownBy_far hg hg2 (fun q e => .inr (hrow q e).1), ?_⟩
    rw [hg2.block (h + 3) (Array.getElem?_eq_some_iff.1 hc).1 (fun e => by have := (hrow _ e.symm).1; omega)]
    exact hc
  case mem =>
    rintro k W ⟨hg, hc⟩
    obtain ⟨hl, -, -⟩ := HL.out W hg
    exact ⟨(HFA.out W hg).1, cell_of_one ((hl (h + 5) (by omega) (by omega)).trans HK5.out), cell_of_one ((hl (h + 6) (by omega) (by omega)).trans HK6.out), cell_of_one ((hl (h + 7) (by omega) (by omega)).trans HK7.out)⟩
  case skip =>
    rintro k f W hf ht ⟨hg, hc⟩
    refine ⟨hg, ?_⟩
    rw [revTo_succ hf]
    unfold revStep
    rw [ht]
    exact hc
  case start => exact ⟨⟨rfl, rfl, rfl, Nat.le_refl _, fun _ _ _ => rfl⟩, HK3.out⟩
  case assign =>
    intro l f W K hK
    gi_wp2_with (refine wpListIn_store_new (o := ⟨none, .store _ _ _, _, _, _, _⟩) rfl 41 (.tmp 9) (.tmp 20) rfl rfl zeroF.cells f.cells rfl fact_size rfl f.cells_one ?_)
    exact hK
  case body =>
    rintro l k f H W hf ht ⟨hg, hc⟩ hH hlt
    obtain ⟨hl, hbw, hszw⟩ := HL.out W hg
    have hfm : f ∈ fs := List.mem_of_getElem? hf
    have hst := revTo_succ hf rates t p
    unfold revStep at hst
    rw [if_pos ht] at hst
    have bs : 0 ≤ revTo fs rates t p k ∧ revTo fs rates t p k ≤ 1000000000000000 := revTo_bd rates t p (fs.take k) 0 (by omega) (by omega)
    have bm := convSpec_bd rates (f.n 13) (f.n 15) p
    have C := converter1_any f B (h + 1) (h + 2) p rates W HN.out (HFA.out W hg).2 HOK.out (HOK1.out f hfm 13).2 ((hl (h + 1) (by omega) (by omega)).trans HK1.out) (cell_of_one ((hl (h + 2) (by omega) (by omega)).trans HK2.out)) (by omega)
    have c8 := cell_of_one ((hl (h + 4) (by omega) (by omega)).trans HK4.out)
    obtain ⟨⟨m, tt⟩, hcv⟩ : ∃ o, convSpec rates (f.n 13) (f.n 15) p = o := ⟨_, rfl⟩
    obtain ⟨s, hs⟩ : ∃ s, revTo fs rates t p k = s := ⟨_, rfl⟩
    obtain ⟨s', hs'⟩ : ∃ s, revTo fs rates t p (k + 1) = s := ⟨_, rfl⟩
    rw [hcv] at C bm hst
    rw [hs] at bs hst hc
    rw [hs'] at hst ⊢
    have HG := Lib.hid hg
    have HC := Lib.hid hc
    have HCC := Lib.hid C
    have HHH := Lib.hid hH
    have h1n : 1 ≤ 9 - 1 - 1 := by omega
    clear hl hbw hf hfm hcv hs hs' hg hc C hH ht
    dsimp only at bm hst
    obtain ⟨bs1, bs2⟩ := bs
    obtain ⟨bm1, bm2, bm3⟩ := bm
    have hbm3 := Lib.hid bm3; clear bm3
    cases tt
    · have hm0 := hbm3.out rfl
      have hss : s' = s := by rw [hst, hm0, if_neg (by omega)]; omega
      have HSS := Lib.hid hss
      clear hst hm0 hss
      gi_wp2_with (refine wpListIn_load_at (o := ⟨some 23, _, _, _, _, _⟩) rfl 41 (.tmp 9) rfl H 0 rfl f.cells _ (row_cells HHH.out) Try.underlying41 rfl fact_size ?_)
      refine ⟨trivial, (CallsIn.inRound l (callsIn_wide.2 HCC.out)).mono ?_⟩
      rintro e W2 ⟨rfl, hb⟩
      have HB := Lib.hid hb; clear hb
      gi_wp2_with fail
      refine ⟨keepsOthers_below HB.out, grownBy_far HG.out (grownBy_of_below HB.out none) (fun q e => by cases e), ?_⟩
      rw [HB.out.block (h + 3) (by omega), HSS.out]
      exact HC.out
    · clear hbm3
      have HST := Lib.hid hst; clear hst
      gi_wp2_with (refine wpListIn_load_at (o := ⟨some 23, _, _, _, _, _⟩) rfl 41 (.tmp 9) rfl H 0 rfl f.cells _ (row_cells HHH.out) Try.underlying41 rfl fact_size ?_)
      refine ⟨trivial, (CallsIn.inRound l (callsIn_wide.2 HCC.out)).mono ?_⟩
      rintro e W2 ⟨rfl, hb⟩
      have hc2 : W2.heap[h + 3]? = some (.cells #[.int .i64 s] 3 (0, 0)) := (hb.block (h + 3) (by omega)).trans HC.out
      have c7 := cell_of_one hc2
      have f7 := free_of_one hc2
      have HB := Lib.hid hb
      have HC2 := Lib.hid hc2
      clear hb hc2 c8
      have key : ∀ x : Int, s' = x → (KeepsOthers W (W2.setCell ⟨h + 3, 0, none⟩ (.int .i64 x)) ∧ W0.grownBy (W2.setCell ⟨h + 3, 0, none⟩ (.int .i64 x)) (some (h + 3)) ∧ (W2.setCell ⟨h + 3, 0, none⟩ (.int .i64 x)).heap[h + 3]? = some (.cells #[.int .i64 s'] 3 (0, 0))) := by
        rintro x rfl
        exact ⟨(keepsOthers_below HB.out).trans (KeepsOthers.setCell _ _ _), grownBy_far (grownBy_far HG.out (grownBy_of_below HB.out none) (fun q e => by cases e)) (grownBy_setCell' _ _ _) (fun q e => by cases e; exact .inl rfl), one_setCell HC2.out⟩
      have KEY := Lib.hid key; clear key
      have hst2 := HST.out
      by_cases hmx : 1000000000000000 < s + m
      · rw [if_pos hmx] at hst2
        have HS2 := Lib.hid hst2; clear hst2
        gi_wp2_with fail
        exact KEY.out _ HS2.out
      · rw [if_neg hmx] at hst2
        have HS2 := Lib.hid hst2; clear hst2
        gi_wp2_with fail
        exact KEY.out _ HS2.out
  case done =>
    rintro D W hD ⟨hg, hc⟩ hK
    rw [revTo_all] at hc
    obtain ⟨-, hbw, hszw⟩ := HL.out W hg
    have c7 := cell_of_one hc
    have hsz := HS0.out
    have HBW := Lib.hid hbw
    have HKK := Lib.hid hK
    obtain ⟨r, hr⟩ : ∃ r, revSpec fs rates t p = r := ⟨_, rfl⟩
    rw [hr] at c7
    have HR := Lib.hid hr
    clear hbw hg hc hK hr
    gi_wp2_with fail
    refine ⟨by simp, .inl ⟨_, _, rfl, run_takeDeferred HKK.out, ?_⟩⟩
    refine ⟨.int .i64 r, by simp [results, Try.results12, go_sem], by rw [HR.out], ?_⟩
    have hh := HH.out
    rw [hh]
    exact HBW.out.grown (grownBy_putObj' W D _) (by omega) (fun r e => by cases e; omega)
end Go.Proofs.Ytdackmefkccipaa
