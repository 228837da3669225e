/- royaltylaw16.sane returns true. -/
import Derived.Test.YtdackmefkccipaaMkN
namespace Go.Proofs.Ytdackmefkccipaa
open Go Go.RowKit Go.Lib Go.Shelf

set_option maxRecDepth 100000 in
set_option maxHeartbeats 4000000 in
theorem sane_yes (w : World) : Calls Try.prog 7 #[] w fun e w' => e = .returned (.bool true) ∧ Below w.heap.size w w' := by
  obtain ⟨a, ha⟩ : ∃ a, Value.slice (some ⟨w.heap.size + 1 + 1, 0, none⟩) 3 3 = a := ⟨_, rfl⟩
  obtain ⟨b, hb⟩ : ∃ a, Value.slice (some ⟨w.heap.size + 1 + 1 + 1, 0, none⟩) 1 1 = a := ⟨_, rfl⟩
  obtain ⟨c, hc⟩ : ∃ a, Value.slice (some ⟨w.heap.size, 0, none⟩) 2 2 = a := ⟨_, rfl⟩
  have HW : Hid (∃ W, (allocs w [.cells (fCells saneRates).toArray 41, .cells (bv (.slice (some ⟨w.heap.size + 1 + 1, 0, none⟩) 3 3) (.slice (some ⟨w.heap.size + 1 + 1 + 1, 0, none⟩) 1 1) (.slice (some ⟨w.heap.size, 0, none⟩) 2 2)).cells 26, .cells (fCells saneRevs).toArray 41, .cells (fCells saneSubs).toArray 41]) = W ∧ W.heap[w.heap.size + 1]? = some (.cells (bv a b c).cells 26 (0, 0)) ∧ FactsAt W a saneRevs ∧ FactsAt W b saneSubs ∧ FactsAt W c saneRates ∧ Below w.heap.size w W) :=
    Lib.hid ⟨_, rfl, by rw [← ha, ← hb, ← hc]; exact allocs_get _ w 1 _ rfl, by rw [← ha]; exact FactsAt.of_row (allocs_get _ w 2 _ rfl) rfl rfl, by rw [← hb]; exact FactsAt.of_row (allocs_get _ w 3 _ rfl) rfl rfl, by rw [← hc]; exact FactsAt.of_row (allocs_get _ w 0 _ rfl) rfl rfl, allocs_below _ w⟩
  clear ha hb hc
  obtain ⟨W, hW, k1, fa, fb, fc, kb⟩ := HW.out
  clear HW
  have HW := Lib.hid hW
  clear hW
  have hkey : ∀ Wc, Below W.heap.size W Wc → Wc.heap[w.heap.size + 1]? = some (.cells (bv a b c).cells 26 (0, 0)) ∧ FactsAt Wc a saneRevs ∧ FactsAt Wc b saneSubs ∧ FactsAt Wc c saneRates := fun Wc h =>
    ⟨(h.block _ (Array.getElem?_eq_some_iff.1 k1).1).trans k1, fa.below h, fb.below h, fc.below h⟩
  have HKEY := Lib.hid hkey
  have HKB := Lib.hid kb
  clear hkey k1 fa fb fc kb
  have CV := Lib.hid (fun n c' p Wc (h : Below W.heap.size W Wc) (hn : n ≤ 9223372036854775807) => convert_any (bv a b c) n c' p saneRates Wc (by decide) (HKEY.out Wc h).2.2.2 saneRates_ok hn)
  have RV := Lib.hid (fun t p Wc (h : Below W.heap.size W Wc) => revenue_any (bv a b c) t p saneRevs saneRates Wc (by decide) (by decide) (HKEY.out Wc h).2.1 (HKEY.out Wc h).2.2.2 saneRates_ok saneRevs_ok)
  have SB := Lib.hid (fun t p Wc (h : Below W.heap.size W Wc) => subs_any (bv a b c) t p saneSubs saneRates Wc (by decide) (by decide) (HKEY.out Wc h).2.2.1 (HKEY.out Wc h).2.2.2 saneRates_ok saneSubs_ok)
  go_enter Try.func7, Try.ntmps7
  go_wp2_with (first | ((with_reducible refine wpList_stop (o := ⟨some 24, _, _, _, _, _⟩) ?_)))
  unfold Stop
  refine (fun (H : ∀ V : World, V = W → wpList _ _ _ _ _ V) => H _ HW.out) ?_
  intro V hV
  rw [hV]
  clear hV V HW
  have K0 := Lib.hid (HKEY.out W (Below.refl _ _)).1
  go_wp2_with (first | ((with_reducible refine load_base (o := ⟨some 24, _, _, _, _, _⟩) (.tmp 1) (w.heap.size + 1) (bv a b c) K0.out ?_ ?_ ?_ ?_); rfl; rfl; rfl))
  have C := CV.out 101 3 7 W (Below.refl _ _) (by omega)
  rw [sane1] at C
  refine C.mono ?_
  clear C
  rintro e w1 ⟨rfl, hb⟩
  have B1 := Lib.hid ((Below.refl W.heap.size W).trans (hb.mono (Below.refl W.heap.size W).size))
  clear hb
  have K1 := Lib.hid (HKEY.out w1 (B1.out)).1
  go_wp2_with (first | ((with_reducible refine load_base (o := ⟨some 29, _, _, _, _, _⟩) (.tmp 1) (w.heap.size + 1) (bv a b c) K1.out ?_ ?_ ?_ ?_); rfl; rfl; rfl))
  have C := CV.out 100 3 8 w1 (B1.out) (by omega)
  rw [sane2] at C
  refine C.mono ?_
  clear C
  rintro e w2 ⟨rfl, hb⟩
  have B2 := Lib.hid ((B1.out).trans (hb.mono (B1.out).size))
  clear hb
  have K2 := Lib.hid (HKEY.out w2 (B2.out)).1
  go_wp2_with (first | ((with_reducible refine load_base (o := ⟨some 34, _, _, _, _, _⟩) (.tmp 1) (w.heap.size + 1) (bv a b c) K2.out ?_ ?_ ?_ ?_); rfl; rfl; rfl))
  have C := CV.out 100 3 9 w2 (B2.out) (by omega)
  rw [sane3] at C
  refine C.mono ?_
  clear C
  rintro e w3 ⟨rfl, hb⟩
  have B3 := Lib.hid ((B2.out).trans (hb.mono (B2.out).size))
  clear hb
  have K3 := Lib.hid (HKEY.out w3 (B3.out)).1
  go_wp2_with (first | ((with_reducible refine load_base (o := ⟨some 39, _, _, _, _, _⟩) (.tmp 1) (w.heap.size + 1) (bv a b c) K3.out ?_ ?_ ?_ ?_); rfl; rfl; rfl))
  have C := CV.out 100 0 9 w3 (B3.out) (by omega)
  rw [sane4] at C
  refine C.mono ?_
  clear C
  rintro e w4 ⟨rfl, hb⟩
  have B4 := Lib.hid ((B3.out).trans (hb.mono (B3.out).size))
  clear hb
  have K4 := Lib.hid (HKEY.out w4 B4.out).1
  go_wp2_with (first | ((with_reducible refine load_base (o := ⟨some 43, _, _, _, _, _⟩) (.tmp 1) (w.heap.size + 1) (bv a b c) K4.out ?_ ?_ ?_ ?_); rfl; rfl; rfl))
  have C := SB.out 2 7 w4 B4.out
  rw [sane6] at C
  refine C.mono ?_
  clear C
  rintro e w5 ⟨l5, rfl, hown, hb⟩
  have B5 := Lib.hid (B4.out.trans (hb.mono B4.out.size))
  have K5 := Lib.hid (HKEY.out w5 B5.out).1
  have HOWN := Lib.hid hown
  clear hb hown
  go_wp2_with (first | ((with_reducible refine load_baseG (o := ⟨some 69, _, _, _, _, _⟩) (.tmp 1) (w.heap.size + 1) (bv a b c) K5.out ?_ ?_ ?_ ?_); rfl; rfl; rfl))
  have C := RV.out 2 7 w5 B5.out
  rw [sane5] at C
  refine C.mono ?_
  clear C
  rintro e w6 ⟨rfl, hb⟩
  have B6 := Lib.hid (B5.out.trans (hb.mono B5.out.size))
  have S1 : Hid (SharesAt (w6.alloc (.cells #[.int .i64 5, .int .i64 5] 44)) l5 [(5, 5)]) := Lib.hid (((SharesAt.of_own HOWN.out).below hb).below ((Below.refl _ _).alloc (Nat.le_refl _) _))
  have S2 : Hid (SharesAt (w6.alloc (.cells #[.int .i64 5, .int .i64 5] 44)) (.slice (some ⟨w6.heap.size, 0, none⟩) 1 1) [(5, 5)]) := Lib.hid (by
    refine .inr ⟨w6.heap.size, 0, 1, rfl, by simp, fun i x y hi => ?_⟩
    rcases i with _ | i
    · simp at hi
      obtain ⟨rfl, rfl⟩ := hi
      exact ⟨cell_of_row _ _ 0 _ _ _ (heap_alloc_last w6 _), cell_of_row _ _ 1 _ _ _ (heap_alloc_last w6 _)⟩
    · simp at hi)
  have B6a := Lib.hid (B6.out.alloc B6.out.size (.cells #[.int .i64 5, .int .i64 5] 44))
  clear hb
  go_wp2_with fail
  refine (same_eq l5 _ [(5, 5)] _ (by simp) S1.out S2.out).mono ?_
  rintro e w7 ⟨rfl, hb⟩
  have B7 := Lib.hid (B6a.out.trans (hb.mono B6a.out.size))
  have K7 := Lib.hid (HKEY.out w7 B7.out).1
  clear hb
  go_wp2_with (first | ((with_reducible refine load_baseG (o := ⟨some 80, _, _, _, _, _⟩) (.tmp 1) (w.heap.size + 1) (bv a b c) K7.out ?_ ?_ ?_ ?_); rfl; rfl; rfl))
  have C := RV.out 2 8 w7 B7.out
  rw [sane7] at C
  refine C.mono ?_
  clear C
  rintro e w8 ⟨rfl, hb⟩
  have B8 := Lib.hid (B7.out.trans (hb.mono B7.out.size))
  clear hb
  go_wp2_with fail
  go_ret
  exact ⟨rfl, HKB.out.trans (B8.out.mono HKB.out.size)⟩
end Go.Proofs.Ytdackmefkccipaa
