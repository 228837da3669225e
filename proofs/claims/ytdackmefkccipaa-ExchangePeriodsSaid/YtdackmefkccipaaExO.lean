/- The reference's Subscriptions. -/
import Derived.Test.YtdackmefkccipaaExN
import Derived.Test.YtdackmefkccipaaExJ
namespace Go.Proofs.Ytdackmefkccipaa
open Go Go.RowKit Go.Lib Go.Shelf

set_option maxRecDepth 100000 in
set_option maxHeartbeats 2000000 in
theorem refSubs_any (B : BaseV) (t p : Int) (fs rates : List FactV) (w : World) (hn1 : fs.length ≤ 1000000) (hn : rates.length ≤ 140737488351232) (hf : FactsAt w (B.l 5) fs) (hv : FactsAt w (B.l 6) rates) (hok : FactsOk rates) (hok1 : FactsOk fs) :
    Calls Try.prog 16 #[.agg B.cells, .int .i64 t, .int .i64 p] w (SubEnd w (subSpec fs rates t p)) := by
  have hB4 : B.cells[5]? = some (B.l 5) := rfl
  obtain ⟨v, hv4⟩ : ∃ v, B.l 5 = v := ⟨_, rfl⟩
  rw [hv4] at hB4 hf
  have HF := Lib.hid hf
  have HV := Lib.hid hv
  have HOK := Lib.hid hok
  have HOK1 := Lib.hid hok1
  have HN := Lib.hid hn
  clear hv hok hok1 hv4 hn
  obtain ⟨m, hm⟩ : ∃ m, fs.length = m := ⟨_, rfl⟩
  rw [hm] at hn1
  have HM := Lib.hid hm
  obtain ⟨A, cc, rfl⟩ : ∃ A c, v = .slice A m c := by
    rcases hf with ⟨rfl, A, c, rfl⟩ | ⟨b, o, c, rfl, _⟩
    · exact ⟨A, c, by rw [← hm]; rfl⟩
    · exact ⟨_, c, by rw [← hm]⟩
  clear hm hf
  obtain ⟨i0, hi, hz0, hz1, hz2⟩ := info_parts share_info
  go_enter Try.func16, Try.ntmps16
  go_wp2_with fail
  obtain ⟨W0, hW0⟩ : ∃ W0, w.alloc (.cells B.cells 26) = W0 := ⟨_, rfl⟩
  have hs0 : W0.heap.size = w.heap.size + 1 := by rw [← hW0]; simp
  have hbase : W0.heap[w.heap.size]? = some (.cells B.cells 26 (0, 0)) := by rw [← hW0]; exact heap_alloc_last w _
  have hb0 : Below w.heap.size w W0 := by rw [← hW0]; exact (Below.refl _ _).alloc (Nat.le_refl _) _
  rw [hW0]
  clear hW0
  have HS0 := Lib.hid hs0
  have HBS := Lib.hid hbase
  have HB0 := Lib.hid hb0
  clear hs0 hbase hb0
  go_loopw [7, 8] (fun sv iv wr => ∃ (k : Nat) (L : List (Int × Int)), k ≤ m ∧ iv = .int .i64 k ∧ L.length ≤ k ∧ Hid (L = subTo fs rates t p k ∧ wr.ownsRow W0.heap.size 44 2 sv L.length (shCells L) ∧ Below W0.heap.size W0 wr)) (fun _ i _ => m - (intOf i).toNat)
  case atStart => exact ⟨0, [], by omega, rfl, by simp, Lib.hid ⟨rfl, World.ownsRow_nil _ _ _ _, Below.refl _ _⟩⟩
  case round =>
    obtain ⟨k, L, hk, rfl, hL, HR⟩ := hrel
    have hbs : wr.heap[w.heap.size]? = some (.cells B.cells 26 (0, 0)) := (HR.out.2.2.block w.heap.size (by rw [HS0.out]; omega)).trans HBS.out
    have hlt := (Array.getElem?_eq_some_iff.1 hbs).1
    have cb4 : wr.cell? ⟨w.heap.size, 5, none⟩ = some (.slice A m cc) := (cell_of_row _ _ 5 _ _ _ hbs).trans hB4
    have hbw : Below w.heap.size w wr := HB0.out.trans (HR.out.2.2.mono (by rw [HS0.out]; omega))
    have HBW := Lib.hid hbw
    have HBS2 := Lib.hid hbs
    have HOW := Lib.hid HR.out.2.1
    clear hbw hbs
    by_cases hk2 : k < m
    · obtain ⟨f, hf⟩ : ∃ f, fs[k]? = some f := ⟨_, List.getElem?_eq_getElem (by rw [HM.out]; exact hk2)⟩
      have hfm : f ∈ fs := List.mem_of_getElem? hf
      obtain ⟨b, o, hA, hld⟩ : ∃ b o, A = some ⟨b, o, none⟩ ∧ ∀ j x, f.cells[j]? = some x → wr.cell? ⟨b, o + k * 18 + j, none⟩ = some x := by
        rcases HF.out.below HBW.out with ⟨rfl, _⟩ | ⟨b, o, c, he, _, hc⟩
        · simp at hf
        · simp only [Value.slice.injEq] at he
          exact ⟨b, o, he.1, fun j x hx => hc k f hf j x hx⟩
      subst hA
      have HLD := Lib.hid hld
      have hst := subTo_succ hf rates t p
      have C := refConvert_any B (f.n 13) (f.n 15) p rates (wr.alloc (.cells f.cells 41)) HN.out ((HV.out.below HBW.out).below ((Below.refl _ _).alloc (Nat.le_refl _) _)) HOK.out (HOK1.out f hfm 13).2
      obtain ⟨⟨mm, tt⟩, hcv⟩ : ∃ o, convSpec rates (f.n 13) (f.n 15) p = o := ⟨_, rfl⟩
      have g8 : f.cells[8]? = some (.int .i64 (f.n 8)) := rfl
      have g3 : f.cells[3]? = some (.int .i64 (f.n 3)) := rfl
      have g13 : f.cells[13]? = some (.int .i64 (f.n 13)) := rfl
      have g15 : f.cells[15]? = some (.int .i64 (f.n 15)) := rfl
      have g5 : f.cells[5]? = some (.int .i64 (f.n 5)) := rfl
      unfold subPick at hst
      rw [hcv, ← HR.out.1, show atTest t p f = (f.n 8 == t && f.n 3 == p) from rfl] at hst
      rw [hcv] at C
      obtain ⟨x8, hx8⟩ : ∃ x, f.n 8 = x := ⟨_, rfl⟩
      obtain ⟨x3, hx3⟩ : ∃ x, f.n 3 = x := ⟨_, rfl⟩
      obtain ⟨x13, hx13⟩ : ∃ x, f.n 13 = x := ⟨_, rfl⟩
      obtain ⟨x15, hx15⟩ : ∃ x, f.n 15 = x := ⟨_, rfl⟩
      obtain ⟨x5, hx5⟩ : ∃ x, f.n 5 = x := ⟨_, rfl⟩
      rw [hx8] at g8 hst
      rw [hx3] at g3 hst
      rw [hx13] at g13 C
      rw [hx15] at g15 C
      rw [hx5] at g5 hst
      have HC := Lib.hid C
      have HBR := Lib.hid HR.out.2.2
      have HNX := Lib.hid ((Below.heap_alloc wr (.cells f.cells 41) w.heap.size hlt).trans HBS2.out)
      dsimp only at hst
      clear hf hfm hld hcv hx8 hx3 hx13 hx15 hx5 C HR
      by_cases h8 : x8 = t
      · have q8 : (x8 == t) = true := by rw [beq_iff_eq]; exact h8
        have n8 : (x8 != t) = false := by rw [bne_eq_false_iff_eq]; exact h8
        by_cases h3 : x3 = p
        · have q3 : (x3 == p) = true := by rw [beq_iff_eq]; exact h3
          have n3 : (x3 != p) = false := by rw [bne_eq_false_iff_eq]; exact h3
          rw [q8, q3] at hst
          simp only [Bool.and_self, Bool.true_and] at hst
          clear h8 h3
          cases tt
          · have HST := Lib.hid (show subTo fs rates t p (k + 1) = L by rw [hst]; simp)
            clear hst q8 q3
            go_wp2_with (first | ((with_reducible refine load_fact (o := ⟨some 23, _, _, _, _, _⟩) (.tmp 22) b (o + k * 18) f HLD.out ?_ ?_ ?_ ?_); rfl; rfl; rfl) | ((with_reducible refine store_fact (o := ⟨none, .store _ _ _, _, _, _, _⟩) (.tmp 9) (.tmp 23) f _ ?_ ?_ ?_ ?_ ?_ ?_); rfl; rfl; rfl; rfl; rfl) | ((with_reducible refine load_base (o := ⟨some 35, _, _, _, _, _⟩) (.tmp 3) w.heap.size B HNX.out ?_ ?_ ?_ ?_); rfl; rfl; rfl))
            refine (HC.out).mono ?_
            rintro e w2 ⟨rfl, hb⟩
            have HB := Lib.hid ((HBR.out.alloc HBR.out.size _).trans (hb.mono (Nat.le_trans HBR.out.size (by simp))))
            have HOW2 := Lib.hid ((HOW.out.alloc _).kept (grownBy_of_below hb none) (by cases hq : u7.ownBlock with
              | none => exact .inl rfl
              | some q => exact .inr (by simp)))
            clear hb
            go_wp2_with fail
            go_roundw
            case rel => exact ⟨k + 1, L, by omega, by go_num, by omega, Lib.hid ⟨HST.out.symm, HOW2.out, HB.out⟩⟩
            case measure => simp [intOf]; omega
          · have HST := Lib.hid (show subTo fs rates t p (k + 1) = L ++ [(x5, mm)] by rw [hst]; simp)
            clear hst q8 q3
            go_wp2_with (first | ((with_reducible refine load_fact (o := ⟨some 23, _, _, _, _, _⟩) (.tmp 22) b (o + k * 18) f HLD.out ?_ ?_ ?_ ?_); rfl; rfl; rfl) | ((with_reducible refine store_fact (o := ⟨none, .store _ _ _, _, _, _, _⟩) (.tmp 9) (.tmp 23) f _ ?_ ?_ ?_ ?_ ?_ ?_); rfl; rfl; rfl; rfl; rfl) | ((with_reducible refine load_base (o := ⟨some 35, _, _, _, _, _⟩) (.tmp 3) w.heap.size B HNX.out ?_ ?_ ?_ ?_); rfl; rfl; rfl))
            refine (HC.out).mono ?_
            rintro e w2 ⟨rfl, hb⟩
            have hfr : w2.heap[wr.heap.size]? = some (.cells f.cells 41 (0, 0)) := (hb.block wr.heap.size (by simp)).trans (heap_alloc_last wr _)
            have cf5 : w2.cell? ⟨wr.heap.size, 5, none⟩ = some (.int .i64 x5) := (cell_of_row _ _ 5 _ _ _ hfr).trans g5
            have hB2 := (HBR.out.alloc HBR.out.size (.cells f.cells 41)).trans (hb.mono (Nat.le_trans HBR.out.size (by simp)))
            have hsz2 := hB2.size
            have HB := Lib.hid hB2
            have HOW2 := Lib.hid ((HOW.out.alloc _).kept (grownBy_of_below hb none) (by cases hq : u7.ownBlock with
              | none => exact .inl rfl
              | some q => exact .inr (by simp)))
            clear hb hfr hB2 g5
            go_wp2_with (first | (at_builtin; refine wpList_append_own _ rfl (.tmp 45) (.tmp 50) 35 rfl W0.heap.size 44 i0 _ 2 16 Try.underlying35 hi hz0 hz1 hz2 rfl (by decide) _ _ _ rfl (HOW2.out.alloc _) ⟨w2.heap.size, 0, none⟩ 1 1 [.int .i64 x5, .int .i64 mm] rfl (by rfl) (cells_two_new _ _ _ _) (by simp [Value.oneCell']) (by unfold maxLen; omega) (by omega) (by simp; omega) ?_; intro v' w1 hown' hgrow _))
            go_roundw
            case rel => exact ⟨k + 1, L ++ [(x5, mm)], by omega, by go_num, by simp; omega, Lib.hid ⟨HST.out.symm, by rw [shCells_app, List.length_append]; exact hown', (HB.out.alloc hsz2 _).grown hgrow (by simp; omega) (fun j e => (HOW2.out.lt j e).1)⟩⟩
            case measure => simp [intOf]; omega
        · have q3 : (x3 == p) = false := by rw [beq_eq_false_iff_ne]; exact h3
          have n3 : (x3 != p) = true := by rw [bne_iff_ne]; exact h3
          rw [q3, Bool.and_false, Bool.false_and] at hst
          have HST := Lib.hid (show subTo fs rates t p (k + 1) = L by rw [hst]; simp)
          clear h8 h3 hst HC q3 q8
          go_wp2_with (first | ((with_reducible refine load_fact (o := ⟨some 23, _, _, _, _, _⟩) (.tmp 22) b (o + k * 18) f HLD.out ?_ ?_ ?_ ?_); rfl; rfl; rfl) | ((with_reducible refine store_fact (o := ⟨none, .store _ _ _, _, _, _, _⟩) (.tmp 9) (.tmp 23) f _ ?_ ?_ ?_ ?_ ?_ ?_); rfl; rfl; rfl; rfl; rfl))
          go_roundw
          case rel => exact ⟨k + 1, L, by omega, by go_num, by omega, Lib.hid ⟨HST.out.symm, HOW.out.alloc _, HBR.out.alloc HBR.out.size _⟩⟩
          case measure => simp [intOf]; omega
      · have q8 : (x8 == t) = false := by rw [beq_eq_false_iff_ne]; exact h8
        have n8 : (x8 != t) = true := by rw [bne_iff_ne]; exact h8
        rw [q8, Bool.false_and, Bool.false_and] at hst
        have HST := Lib.hid (show subTo fs rates t p (k + 1) = L by rw [hst]; simp)
        clear h8 hst HC q8
        go_wp2_with (first | ((with_reducible refine load_fact (o := ⟨some 23, _, _, _, _, _⟩) (.tmp 22) b (o + k * 18) f HLD.out ?_ ?_ ?_ ?_); rfl; rfl; rfl) | ((with_reducible refine store_fact (o := ⟨none, .store _ _ _, _, _, _, _⟩) (.tmp 9) (.tmp 23) f _ ?_ ?_ ?_ ?_ ?_ ?_); rfl; rfl; rfl; rfl; rfl))
        go_roundw
        case rel => exact ⟨k + 1, L, by omega, by go_num, by omega, Lib.hid ⟨HST.out.symm, HOW.out.alloc _, HBR.out.alloc HBR.out.size _⟩⟩
        case measure => simp [intOf]; omega
    · obtain rfl : k = m := by omega
      have hv : subSpec fs rates t p = L := by rw [← subTo_all, HM.out, HR.out.1]
      have HVV := Lib.hid hv; clear hv
      go_wp2_with fail
      go_ret
      rw [HVV.out]
      exact ⟨_, rfl, ⟨HOW.out.1, by
        rcases HOW.out.2 with h1 | ⟨g, cap, cur, h1, h2, h3⟩
        · exact .inl h1
        · exact .inr ⟨g, cap, cur, h1, by rw [HS0.out] at h2; omega, h3⟩⟩, HBW.out⟩
end Go.Proofs.Ytdackmefkccipaa
