/- exchange.Subscriptions. -/
import Derived.Test.YtdackmefkccipaaExI
import Derived.Laws.EntriesVeiled
namespace Go.Proofs.Ytdackmefkccipaa
open Go Go.RowKit Go.Lib Go.Shelf
attribute [local go_sem] Oper.semAt_some

/-- what the loop of Subscriptions keeps -/
def SubAt (W0 : World) (h : Nat) (L : List (Int × Int)) (W : World) : Prop :=
  W0.grownBy W (some (h + 1)) ∧ ∃ o, W.heap[h + 1]? = some (.cells #[o] 35 (0, 0)) ∧ W.ownsRow (h + 8) 44 2 o L.length (shCells L)
def SubEnd (w : World) (L : List (Int × Int)) (e : Ending) (w' : World) : Prop := ∃ o, e = .returned o ∧ w'.ownsRow w.heap.size 44 2 o L.length (shCells L) ∧ Below w.heap.size w w'

theorem subAt_appended {W0 W W2 w1 : World} {h g cap : Nat} {o : Value} {L : List (Int × Int)} {a m : Int} {tmp : Obj} (hs0 : W0.heap.size = h + 8) (hg : W0.grownBy W (some (h + 1))) (hb : Below W.heap.size W W2) (hc : W2.heap[h + 1]? = some (.cells #[o] 35 (0, 0)))
    (hr : W2.ownsRow (h + 8) 44 2 o L.length (shCells L)) (hown : w1.ownsRow (h + 8) 44 2 (.slice (some ⟨g, 0, none⟩) (L.length + 1) cap) (L.length + 1) (shCells L ++ [.int .i64 a, .int .i64 m])) (hgrow : (W2.alloc tmp).grownBy w1 o.ownBlock) :
    KeepsOthers W (w1.setCell ⟨h + 1, 0, none⟩ (.slice (some ⟨g, 0, none⟩) (L.length + 1) cap)) ∧ SubAt W0 h (L ++ [(a, m)]) (w1.setCell ⟨h + 1, 0, none⟩ (.slice (some ⟨g, 0, none⟩) (L.length + 1) cap)) := by
  have hlow : ∀ j, o.ownBlock = some j → h + 8 ≤ j := fun j e => (hr.lt j e).1
  have hsz2 : h + 8 ≤ W2.heap.size := by have := hg.size; have := hb.size; omega
  have hc1 : w1.heap[h + 1]? = some (.cells #[o] 35 (0, 0)) := by
    rw [hgrow.block (h + 1) (by simp; omega) (fun e => by have := hlow _ e.symm; omega), Below.heap_alloc _ _ _ (by omega), hc]
  refine ⟨?_, ?_, .slice (some ⟨g, 0, none⟩) (L.length + 1) cap, one_setCell hc1, ?_⟩
  · refine (((keepsOthers_below hb).trans (KeepsOthers.alloc W2 tmp)).trans (KeepsOthers.of_grownBy hgrow fun j ob ej hj => ?_)).trans (KeepsOthers.setCell _ _ _)
    rcases (hr.alloc tmp).2 with ⟨rfl, _⟩ | ⟨q, cp, cur, rfl, _, hqb, _⟩
    · simp [Value.ownBlock] at ej
    · obtain rfl : q = j := by simpa [Value.ownBlock] using ej
      rw [hqb] at hj; cases hj; rfl
  · exact grownBy_far (grownBy_far (grownBy_far (grownBy_far hg (grownBy_of_below hb none) (fun q e => by cases e)) (World.grownBy_alloc W2 tmp none) (fun q e => by cases e)) hgrow (fun q e => .inr (by have := hlow q e; omega))) (grownBy_setCell' _ _ _) (fun q e => by cases e; exact .inl rfl)
  · rw [shCells_app, List.length_append]
    exact hown.kept (grownBy_setCell' _ _ _) (.inr (fun e => by have := (hown.lt _ e).1; omega))

set_option maxRecDepth 100000 in
set_option maxHeartbeats 4000000 in
theorem subs_in (B : BaseV) (t p : Int) (fs rates : List FactV) (w : World) (hn1 : fs.length ≤ 1000000) (hn : rates.length ≤ 140737488351232) (hf : FactsAt w (B.l 5) fs) (hv : FactsAt w (B.l 6) rates) (hok : FactsOk rates) (hok1 : FactsOk fs) :
    CallsIn Fence.wide 9 Try.prog 15 #[.agg B.cells, .int .i64 t, .int .i64 p] w (SubEnd w (subSpec fs rates t p)) := by
  have hB4 : B.cells[5]? = some (B.l 5) := rfl
  obtain ⟨v, hv4⟩ : ∃ v, B.l 5 = v := ⟨_, rfl⟩
  rw [hv4] at hB4 hf
  have hone : v.oneCell' = true := by
    rcases hf with ⟨_, A, c, rfl⟩ | ⟨b, o, c, rfl, _⟩ <;> rfl
  have HF := Lib.hid hf
  have HV := Lib.hid hv
  have HOK := Lib.hid hok
  have HOK1 := Lib.hid hok1
  have HN1 := Lib.hid hn1
  have HN := Lib.hid hn
  clear hf hv hok hok1 hv4 hn1 hn
  refine callsIn_of_wp_marks Try.func15 rfl trivial ?_ rfl
  simp only [Try.ntmps15, List.size_toArray, List.length_cons, List.length_nil, Nat.reduceAdd, Nat.reduceSub, Array.replicate_succ, Array.replicate_zero, List.push_toArray, List.append_toArray, List.nil_append, List.cons_append]
  gi_wp2_with (refine wpListIn_load_at (o := ⟨some 12, _, _, _, _, _⟩) rfl 26 (.tmp 3) rfl w.heap.size 0 rfl B.cells _ (row_cells ((Below.heap_alloc (w.alloc _) _ w.heap.size (by simp)).trans (heap_alloc_last w _))) Try.underlying26 rfl base_size ?_)
  refine ⟨trivial, callsIn_wide.2 ((converter_any B p _).mono ?_)⟩
  rintro e w' ⟨rfl, rfl⟩
  gi_wp2_with fail
  refine ⟨trivial, callsIn_wide.2 ((at_any v hone t p _).mono ?_)⟩
  rintro e w' ⟨rfl, rfl⟩
  gi_wp2_with fail
  obtain ⟨W0, hW0⟩ : ∃ W0, allocs w [.cells B.cells 26, .cells #[.slice none 0 0] 35, .cells B.cells 26, .cells #[.int .i64 p] 3,
    .cells #[.func (.func 32) #[] #[.pointer (some ⟨w.heap.size + 1 + 1, 0, none⟩), .pointer (some ⟨w.heap.size + 1 + 1 + 1, 0, none⟩)]] 50, .cells #[v] 23, .cells #[.int .i64 t] 3, .cells #[.int .i64 p] 3] = W0 := ⟨_, rfl⟩
  refine (show _ from ?_ : Code.wpIn _ _ _ _ _ _ (allocs w [.cells B.cells 26, .cells #[.slice none 0 0] 35, .cells B.cells 26, .cells #[.int .i64 p] 3,
    .cells #[.func (.func 32) #[] #[.pointer (some ⟨w.heap.size + 1 + 1, 0, none⟩), .pointer (some ⟨w.heap.size + 1 + 1 + 1, 0, none⟩)]] 50, .cells #[v] 23, .cells #[.int .i64 t] 3, .cells #[.int .i64 p] 3]))
  rw [hW0]
  obtain ⟨h, hh⟩ : ∃ h, w.heap.size = h := ⟨_, rfl⟩
  have hs0 : W0.heap.size = h + 8 := by rw [← hW0, ← hh]; exact allocs_size _ _
  have k1 : W0.heap[h + 2]? = some (.cells B.cells 26 (0, 0)) := by rw [← hW0, ← hh]; exact allocs_get _ _ 2 _ rfl
  have k2 : W0.heap[h + 3]? = some (.cells #[.int .i64 p] 3 (0, 0)) := by rw [← hW0, ← hh]; exact allocs_get _ _ 3 _ rfl
  have k3 : W0.heap[h + 1]? = some (.cells #[.slice none 0 0] 35 (0, 0)) := by rw [← hW0, ← hh]; exact allocs_get _ _ 1 _ rfl
  have k4 : W0.heap[h + 4]? = some (.cells #[.func (.func 32) #[] #[.pointer (some ⟨h + 2, 0, none⟩), .pointer (some ⟨h + 3, 0, none⟩)]] 50 (0, 0)) := by rw [← hW0, ← hh]; exact allocs_get _ _ 4 _ rfl
  have k5 : W0.heap[h + 5]? = some (.cells #[v] 23 (0, 0)) := by rw [← hW0, ← hh]; exact allocs_get _ _ 5 _ rfl
  have k6 : W0.heap[h + 6]? = some (.cells #[.int .i64 t] 3 (0, 0)) := by rw [← hW0, ← hh]; exact allocs_get _ _ 6 _ rfl
  have k7 : W0.heap[h + 7]? = some (.cells #[.int .i64 p] 3 (0, 0)) := by rw [← hW0, ← hh]; exact allocs_get _ _ 7 _ rfl
  have hb0 : Below h w W0 := by rw [← hW0, ← hh]; exact allocs_below _ _
  simp only [hh, Nat.add_assoc, Nat.reduceAdd]
  have HB0 := Lib.hid hb0
  have HS0 := Lib.hid hs0
  have HK1 := Lib.hid k1
  have HK2 := Lib.hid k2
  have HK3 := Lib.hid k3
  have HK4 := Lib.hid k4
  have HK5 := Lib.hid k5
  have HK6 := Lib.hid k6
  have HK7 := Lib.hid k7
  have HH := Lib.hid hh
  have HW0 := Lib.hid hW0
  clear hb0 hs0 k1 k2 k3 k4 k5 k6 k7 hW0 hh
  -- what a world in the loop still holds
  have HL : Hid (∀ W, W0.grownBy W (some (h + 1)) → (∀ b, b < h + 8 → b ≠ h + 1 → W.heap[b]? = W0.heap[b]?) ∧ Below h w W ∧ h + 8 ≤ W.heap.size) := Lib.hid (fun W hg => by
    have hs0 := HS0.out
    refine ⟨fun b hb hne => hg.block b (by omega) (fun e => hne (by injection e)), HB0.out.grown hg (by omega) (fun r e => by cases e; omega), by have := hg.size; omega⟩)
  have HFA : Hid (∀ W, W0.grownBy W (some (h + 1)) → FactsAt W v fs ∧ FactsAt W (B.l 6) rates) := Lib.hid (fun W hg => by
    have hb := (HL.out W hg).2.1
    rw [← HH.out] at hb
    exact ⟨HF.out.below hb, HV.out.below hb⟩)
  refine range_at (v := v) (fs := fs) (t := t) (p := p) (by omega) (Nat.le_trans HN1.out (by omega)) rfl rfl
    (fun k W => SubAt W0 h (subTo fs rates t p k) W) ?calm ?mem ?skip ?start
    (fun f H => { tmps := #[.agg B.cells, .int .i64 t, .int .i64 p, .pointer (some ⟨h, 0, none⟩), undef, undef, .slice none 0 0, .pointer (some ⟨h + 1, 0, none⟩), .pointer (some ⟨h + 4, 0, none⟩), .pointer (some ⟨H, 0, none⟩), undef, undef,
      .agg B.cells, .int .i64 p, .func (.func 32) #[] #[.pointer (some ⟨h + 2, 0, none⟩), .pointer (some ⟨h + 3, 0, none⟩)], .pointer (some ⟨h, 5, none⟩), v, .int .i64 t, .int .i64 p,
      .func (.func 33) #[] #[.pointer (some ⟨h + 5, 0, none⟩), .pointer (some ⟨h + 6, 0, none⟩), .pointer (some ⟨h + 7, 0, none⟩)], .agg f.cells, undef, undef, undef, undef, undef, undef, undef, undef, undef, undef, undef, undef, undef, undef, undef], defers := [] }) ?assign ?body ?done
  case calm =>
    rintro k W W' row ⟨hg, o, hc, hr⟩ hg2 hrow
    have hs0 := HS0.out
    refine ⟨grownBy_far hg hg2 (fun q e => .inr (hrow q e).1), o, ?_, ?_⟩
    · rw [hg2.block (h + 1) (Array.getElem?_eq_some_iff.1 hc).1 (fun e => by have := (hrow _ e.symm).1; omega)]
      exact hc
    · refine hr.kept hg2 ?_
      rcases hr.2 with ⟨rfl, _⟩ | ⟨g, cap, cur, rfl, hgb, hgg, _⟩
      · exact .inl rfl
      · refine .inr fun e => ?_
        obtain ⟨-, o, ho, hnc⟩ := hrow g (by simpa [Value.ownBlock] using e.symm)
        rw [hgg] at ho; cases ho; cases hnc
  case mem =>
    rintro k W ⟨hg, -⟩
    obtain ⟨hl, -, -⟩ := HL.out W hg
    exact ⟨(HFA.out W hg).1, cell_of_one ((hl (h + 5) (by omega) (by omega)).trans HK5.out), cell_of_one ((hl (h + 6) (by omega) (by omega)).trans HK6.out), cell_of_one ((hl (h + 7) (by omega) (by omega)).trans HK7.out)⟩
  case skip =>
    rintro k f W hf ht ⟨hg, o, hc, hr⟩
    refine ⟨hg, o, hc, ?_⟩
    rw [subTo_succ hf, show subPick rates t p f = none by unfold subPick; rw [ht]; rfl]
    simpa using hr
  case start => exact ⟨⟨rfl, rfl, rfl, Nat.le_refl _, fun _ _ _ => rfl⟩, _, HK3.out, World.ownsRow_nil _ _ _ _⟩
  case assign =>
    intro l f W K hK
    gi_wp2_with (refine wpListIn_store_new (o := ⟨none, .store _ _ _, _, _, _, _⟩) rfl 41 (.tmp 9) (.tmp 20) rfl rfl zeroF.cells f.cells rfl fact_size rfl f.cells_one ?_)
    exact hK
  case body =>
    rintro l k f H W hf ht ⟨hg, o, hc, hr⟩ hH hlt
    obtain ⟨hl, hbw, hszw⟩ := HL.out W hg
    have hfm : f ∈ fs := List.mem_of_getElem? hf
    have hst := subTo_succ hf rates t p
    have hln := subTo_len fs rates t p k
    have hn1 := HN1.out
    unfold subPick at hst
    rw [ht, Bool.true_and] at hst
    have C := converter1_any f B (h + 2) (h + 3) p rates W HN.out (HFA.out W hg).2 HOK.out (HOK1.out f hfm 13).2 ((hl (h + 2) (by omega) (by omega)).trans HK1.out) (cell_of_one ((hl (h + 3) (by omega) (by omega)).trans HK2.out)) (by omega)
    have c8 := cell_of_one ((hl (h + 4) (by omega) (by omega)).trans HK4.out)
    obtain ⟨⟨m, tt⟩, hcv⟩ : ∃ o, convSpec rates (f.n 13) (f.n 15) p = o := ⟨_, rfl⟩
    obtain ⟨L, hL⟩ : ∃ s, subTo fs rates t p k = s := ⟨_, rfl⟩
    obtain ⟨L', hL'⟩ : ∃ s, subTo fs rates t p (k + 1) = s := ⟨_, rfl⟩
    rw [hcv] at C hst
    rw [hL] at hst hr hln
    rw [hL'] at hst ⊢
    have hln2 : L.length ≤ 1000000 := by omega
    have HG := Lib.hid hg
    have HC := Lib.hid hc
    have HR := Lib.hid hr
    have HCC := Lib.hid C
    have HHH := Lib.hid hH
    have h1n : 1 ≤ 9 - 1 - 1 := by omega
    have g5 : f.cells[5]? = some (.int .i64 (f.n 5)) := rfl
    obtain ⟨acct, hacct⟩ : ∃ x, f.n 5 = x := ⟨_, rfl⟩
    rw [hacct] at g5 hst
    clear hl hbw hf hfm hcv hL hL' hg hc hr C hH ht hln hn1 hacct
    dsimp only at hst
    cases tt
    · have hss : L' = L := by rw [hst]; simp
      have HSS := Lib.hid hss
      clear hst hss
      gi_wp2_with (refine wpListIn_load_at (o := ⟨some 23, _, _, _, _, _⟩) rfl 41 (.tmp 9) rfl H 0 rfl f.cells _ (row_cells HHH.out) Try.underlying41 rfl fact_size ?_)
      refine ⟨trivial, (CallsIn.inRound l (callsIn_wide.2 HCC.out)).mono ?_⟩
      rintro e W2 ⟨rfl, hb⟩
      have HB := Lib.hid hb; clear hb
      gi_wp2_with fail
      refine ⟨keepsOthers_below HB.out, grownBy_far HG.out (grownBy_of_below HB.out none) (fun q e => by cases e), o, ?_, ?_⟩
      · rw [HB.out.block (h + 1) (by omega)]
        exact HC.out
      · rw [HSS.out]
        refine HR.out.kept (grownBy_of_below HB.out none) ?_
        cases hq : o.ownBlock with
        | none => exact .inl rfl
        | some q => exact .inr (by simp)
    · have hss : L' = L ++ [(acct, m)] := by rw [hst]; simp
      have HSS := Lib.hid hss
      clear hst hss
      obtain ⟨i0, hi, hz0, hz1, hz2⟩ := info_parts share_info
      gi_wp2_with (refine wpListIn_load_at (o := ⟨some 23, _, _, _, _, _⟩) rfl 41 (.tmp 9) rfl H 0 rfl f.cells _ (row_cells HHH.out) Try.underlying41 rfl fact_size ?_)
      refine ⟨trivial, (CallsIn.inRound l (callsIn_wide.2 HCC.out)).mono ?_⟩
      rintro e W2 ⟨rfl, hb⟩
      have hc2 : W2.heap[h + 1]? = some (.cells #[o] 35 (0, 0)) := (hb.block (h + 1) (by omega)).trans HC.out
      have hr2 : W2.ownsRow (h + 8) 44 2 o L.length (shCells L) := by
        refine HR.out.kept (grownBy_of_below hb none) ?_
        cases hq : o.ownBlock with
        | none => exact .inl rfl
        | some q => exact .inr (by simp)
      have hfr : W2.heap[H]? = some (.cells f.cells 41 (0, 0)) := (hb.block H (Array.getElem?_eq_some_iff.1 HHH.out).1).trans HHH.out
      have cf5 : W2.cell? ⟨H, 5, none⟩ = some (.int .i64 acct) := (cell_of_row _ _ 5 _ _ _ hfr).trans g5
      have c7 := cell_of_one hc2
      have hsz2 := hb.size
      have HB := Lib.hid hb
      have HC2 := Lib.hid hc2
      have HR2 := Lib.hid hr2
      clear hb hc2 c8 hr2 hfr g5
      gi_wp2_with (gi_at_builtin; refine wpListIn_append_own _ rfl (.tmp 28) (.tmp 33) 35 rfl (h + 8) 44 i0 _ 2 16 Try.underlying35 hi hz0 hz1 hz2 rfl (by decide) o L.length (shCells L) rfl (HR2.out.alloc _) ⟨W2.heap.size, 0, none⟩ 1 1 [.int .i64 acct, .int .i64 m] rfl (by rfl) (cells_two_new _ _ _ _) (by simp [Value.oneCell']) (by unfold maxLen; omega) (by omega) (by simp; omega) ?_; intro v' w1 hown' hgrow _; obtain ⟨g', cap', rfl⟩ := ownsRow_succ hown'; have KEY := Lib.hid (subAt_appended HS0.out HG.out HB.out HC2.out HR2.out hown' hgrow); have hfr1 := free_of_one ((hgrow.block (h + 1) (by simp; omega) (fun e => by have := (HR2.out.lt _ e.symm).1; omega)).trans ((Below.heap_alloc _ _ _ (by omega)).trans HC2.out)); have hcl1 := cell_of_one ((hgrow.block (h + 1) (by simp; omega) (fun e => by have := (HR2.out.lt _ e.symm).1; omega)).trans ((Below.heap_alloc _ _ _ (by omega)).trans HC2.out)))
      rw [HSS.out]
      exact KEY.out
  case done =>
    rintro D W hD ⟨hg, o, hc, hr⟩ hK
    rw [subTo_all] at hr
    obtain ⟨-, hbw, hszw⟩ := HL.out W hg
    have c7 := cell_of_one hc
    have hsz := HS0.out
    have HBW := Lib.hid hbw
    have HKK := Lib.hid hK
    have HRR := Lib.hid hr
    clear hbw hg hc hK hr
    gi_wp2_with fail
    refine ⟨by simp, .inl ⟨_, _, rfl, run_takeDeferred HKK.out, ?_⟩⟩
    have hh := HH.out
    refine ⟨o, by simp [results, Try.results15, go_sem], o, rfl, ?_, ?_⟩
    · have := ownsRow_putObj HRR.out (.deferred none) HKK.out rfl
      rw [hh]
      exact ⟨this.1, by
        rcases this.2 with h1 | ⟨g, cap, cur, h1, h2, h3⟩
        · exact .inl h1
        · exact .inr ⟨g, cap, cur, h1, by omega, h3⟩⟩
    · rw [hh]
      exact HBW.out.grown (grownBy_putObj' W D _) (by omega) (fun r e => by cases e; omega)
end Go.Proofs.Ytdackmefkccipaa
