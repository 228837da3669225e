/- The reference's Revenue. -/
import Derived.Test.YtdackmefkccipaaExN
namespace Go.Proofs.Ytdackmefkccipaa
open Go Go.RowKit Go.Lib Go.Shelf

set_option maxRecDepth 100000 in
set_option maxHeartbeats 2000000 in
theorem refRevenue_any (B : BaseV) (t p : Int) (fs rates : List FactV) (w : World) (hn1 : fs.length ≤ 140737488351232) (hn : rates.length ≤ 140737488351232) (hf : FactsAt w (B.l 4) fs) (hv : FactsAt w (B.l 6) rates) (hok : FactsOk rates) (hok1 : FactsOk fs) :
    Calls Try.prog 13 #[.agg B.cells, .int .i64 t, .int .i64 p] w fun e w' => e = .returned (.int .i64 (revSpec fs rates t p)) ∧ Below w.heap.size w w' := by
  have hB4 : B.cells[4]? = some (B.l 4) := rfl
  obtain ⟨v, hv4⟩ : ∃ v, B.l 4 = v := ⟨_, rfl⟩
  rw [hv4] at hB4 hf
  have HF := Lib.hid hf
  have HV := Lib.hid hv
  have HOK := Lib.hid hok
  have HOK1 := Lib.hid hok1
  have HN := Lib.hid hn
  clear hv hok hok1 hv4 hn
  obtain ⟨m, hm⟩ : ∃ m, fs.length = m := ⟨_, rfl⟩
  rw [hm] at hn1
  have HM := Lib.hid hm
  obtain ⟨A, cc, rfl⟩ : ∃ A c, v = .slice A m c := by
    rcases hf with ⟨rfl, A, c, rfl⟩ | ⟨b, o, c, rfl, _⟩
    · exact ⟨A, c, by rw [← hm]; rfl⟩
    · exact ⟨_, c, by rw [← hm]⟩
  clear hm hf
  go_enter Try.func13, Try.ntmps13
  go_wp2_with fail
  obtain ⟨W0, hW0⟩ : ∃ W0, w.alloc (.cells B.cells 26) = W0 := ⟨_, rfl⟩
  have hs0 : W0.heap.size = w.heap.size + 1 := by rw [← hW0]; simp
  have hbase : W0.heap[w.heap.size]? = some (.cells B.cells 26 (0, 0)) := by rw [← hW0]; exact heap_alloc_last w _
  have hb0 : Below w.heap.size w W0 := by rw [← hW0]; exact (Below.refl _ _).alloc (Nat.le_refl _) _
  rw [hW0]
  clear hW0
  have HS0 := Lib.hid hs0
  have HBS := Lib.hid hbase
  have HB0 := Lib.hid hb0
  clear hs0 hbase hb0
  go_loopw [7, 8] (fun sv iv wr => ∃ (k : Nat) (s : Int), k ≤ m ∧ iv = .int .i64 k ∧ sv = .int .i64 s ∧ 0 ≤ s ∧ s ≤ 1000000000000000 ∧ Hid (s = revTo fs rates t p k ∧ Below W0.heap.size W0 wr)) (fun _ i _ => m - (intOf i).toNat)
  case atStart => exact ⟨0, 0, by omega, rfl, rfl, by omega, by omega, Lib.hid ⟨rfl, Below.refl _ _⟩⟩
  case round =>
    obtain ⟨k, s, hk, rfl, rfl, s1, s2, HR⟩ := hrel
    have hbs : wr.heap[w.heap.size]? = some (.cells B.cells 26 (0, 0)) := (HR.out.2.block w.heap.size (by rw [HS0.out]; omega)).trans HBS.out
    have hlt := (Array.getElem?_eq_some_iff.1 hbs).1
    have cb4 : wr.cell? ⟨w.heap.size, 4, none⟩ = some (.slice A m cc) := (cell_of_row _ _ 4 _ _ _ hbs).trans hB4
    have hbw : Below w.heap.size w wr := HB0.out.trans (HR.out.2.mono (by rw [HS0.out]; omega))
    have HBW := Lib.hid hbw
    have HBS2 := Lib.hid hbs
    clear hbw hbs
    by_cases hk2 : k < m
    · obtain ⟨f, hf⟩ : ∃ f, fs[k]? = some f := ⟨_, List.getElem?_eq_getElem (by rw [HM.out]; exact hk2)⟩
      have hfm : f ∈ fs := List.mem_of_getElem? hf
      obtain ⟨b, o, hA, hld⟩ : ∃ b o, A = some ⟨b, o, none⟩ ∧ ∀ j x, f.cells[j]? = some x → wr.cell? ⟨b, o + k * 18 + j, none⟩ = some x := by
        rcases HF.out.below HBW.out with ⟨rfl, _⟩ | ⟨b, o, c, he, _, hc⟩
        · simp at hf
        · simp only [Value.slice.injEq] at he
          exact ⟨b, o, he.1, fun j x hx => hc k f hf j x hx⟩
      subst hA
      have HLD := Lib.hid hld
      have hst := revTo_succ hf rates t p
      have bm := convSpec_bd rates (f.n 13) (f.n 15) p
      have C := refConvert_any B (f.n 13) (f.n 15) p rates (wr.alloc (.cells f.cells 41)) HN.out ((HV.out.below HBW.out).below ((Below.refl _ _).alloc (Nat.le_refl _) _)) HOK.out (HOK1.out f hfm 13).2
      obtain ⟨⟨mm, tt⟩, hcv⟩ : ∃ o, convSpec rates (f.n 13) (f.n 15) p = o := ⟨_, rfl⟩
      have g8 : f.cells[8]? = some (.int .i64 (f.n 8)) := rfl
      have g3 : f.cells[3]? = some (.int .i64 (f.n 3)) := rfl
      have g13 : f.cells[13]? = some (.int .i64 (f.n 13)) := rfl
      have g15 : f.cells[15]? = some (.int .i64 (f.n 15)) := rfl
      unfold revStep at hst
      rw [hcv, ← HR.out.1, show atTest t p f = (f.n 8 == t && f.n 3 == p) from rfl] at hst
      rw [hcv] at C bm
      obtain ⟨x8, hx8⟩ : ∃ x, f.n 8 = x := ⟨_, rfl⟩
      obtain ⟨x3, hx3⟩ : ∃ x, f.n 3 = x := ⟨_, rfl⟩
      obtain ⟨x13, hx13⟩ : ∃ x, f.n 13 = x := ⟨_, rfl⟩
      obtain ⟨x15, hx15⟩ : ∃ x, f.n 15 = x := ⟨_, rfl⟩
      rw [hx8] at g8 hst
      rw [hx3] at g3 hst
      rw [hx13] at g13 C
      rw [hx15] at g15 C
      have HC := Lib.hid C
      have HBR := Lib.hid HR.out.2
      have HNX := Lib.hid ((Below.heap_alloc wr (.cells f.cells 41) w.heap.size hlt).trans HBS2.out)
      dsimp only at hst bm
      obtain ⟨bm1, bm2, -⟩ := bm
      clear hf hfm hld hcv hx8 hx3 hx13 hx15 C HR
      have key : ∀ wr', Below W0.heap.size W0 wr' → Below W0.heap.size W0 wr' := fun _ h => h
      clear key
      by_cases h8 : x8 = t
      · have q8 : (x8 == t) = true := by rw [beq_iff_eq]; exact h8
        by_cases h3 : x3 = p
        · have q3 : (x3 == p) = true := by rw [beq_iff_eq]; exact h3
          rw [q8, q3] at hst
          simp only [Bool.and_self, if_true] at hst
          have HST := Lib.hid hst
          clear h8 h3 hst
          by_cases hmx : 1000000000000000 < s + mm
          all_goals
            have HMX := Lib.hid hmx
            go_wp2_with (first | ((with_reducible refine load_fact (o := ⟨some 23, _, _, _, _, _⟩) (.tmp 22) b (o + k * 18) f HLD.out ?_ ?_ ?_ ?_); rfl; rfl; rfl) | ((with_reducible refine store_fact (o := ⟨none, .store _ _ _, _, _, _, _⟩) (.tmp 9) (.tmp 23) f _ ?_ ?_ ?_ ?_ ?_ ?_); rfl; rfl; rfl; rfl; rfl) | ((with_reducible refine load_base (o := ⟨some 35, _, _, _, _, _⟩) (.tmp 3) w.heap.size B HNX.out ?_ ?_ ?_ ?_); rfl; rfl; rfl))
            refine (HC.out).mono ?_
            rintro e w2 ⟨rfl, hb⟩
            have HB := Lib.hid ((HBR.out.alloc HBR.out.size _).trans (hb.mono (Nat.le_trans HBR.out.size (by simp)))); clear hb
            go_wp2_with fail
            go_roundw
            case rel => exact ⟨k + 1, _, by omega, by go_num, rfl, by omega, by omega, Lib.hid ⟨by have g := HST.out; first | (rw [if_pos (by have := HMX.out; omega)] at g; exact g.symm) | (rw [if_neg (by have := HMX.out; omega)] at g; exact g.symm), HB.out⟩⟩
            case measure => simp [intOf]; omega
        · have q3 : (x3 == p) = false := by rw [beq_eq_false_iff_ne]; exact h3
          rw [q3, Bool.and_false] at hst
          have HST := Lib.hid hst
          clear h8 h3 hst HC
          go_wp2_with (first | ((with_reducible refine load_fact (o := ⟨some 23, _, _, _, _, _⟩) (.tmp 22) b (o + k * 18) f HLD.out ?_ ?_ ?_ ?_); rfl; rfl; rfl) | ((with_reducible refine store_fact (o := ⟨none, .store _ _ _, _, _, _, _⟩) (.tmp 9) (.tmp 23) f _ ?_ ?_ ?_ ?_ ?_ ?_); rfl; rfl; rfl; rfl; rfl))
          go_roundw
          case rel => exact ⟨k + 1, s, by omega, by go_num, rfl, by omega, by omega, Lib.hid ⟨by rw [HST.out]; simp, HBR.out.alloc HBR.out.size _⟩⟩
          case measure => simp [intOf]; omega
      · have q8 : (x8 == t) = false := by rw [beq_eq_false_iff_ne]; exact h8
        rw [q8, Bool.false_and] at hst
        have HST := Lib.hid hst
        clear h8 hst HC
        go_wp2_with (first | ((with_reducible refine load_fact (o := ⟨some 23, _, _, _, _, _⟩) (.tmp 22) b (o + k * 18) f HLD.out ?_ ?_ ?_ ?_); rfl; rfl; rfl) | ((with_reducible refine store_fact (o := ⟨none, .store _ _ _, _, _, _, _⟩) (.tmp 9) (.tmp 23) f _ ?_ ?_ ?_ ?_ ?_ ?_); rfl; rfl; rfl; rfl; rfl))
        go_roundw
        case rel => exact ⟨k + 1, s, by omega, by go_num, rfl, by omega, by omega, Lib.hid ⟨by rw [HST.out]; simp, HBR.out.alloc HBR.out.size _⟩⟩
        case measure => simp [intOf]; omega
    · obtain rfl : k = m := by omega
      have hv : revSpec fs rates t p = s := by rw [← revTo_all, HM.out, HR.out.1]
      have HVV := Lib.hid hv; clear hv
      go_wp2_with fail
      go_ret
      exact ⟨by rw [HVV.out]; rfl, HBW.out⟩
end Go.Proofs.Ytdackmefkccipaa
