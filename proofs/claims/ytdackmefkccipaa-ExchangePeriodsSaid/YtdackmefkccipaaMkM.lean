/- royaltylaw16.Make: a base of made facts. -/
import Derived.Test.YtdackmefkccipaaMkJ
import Derived.Test.YtdackmefkccipaaExR
namespace Go.Proofs.Ytdackmefkccipaa
open Go Go.RowKit Go.Lib Go.Shelf

theorem tdiv3 (x : Int) (h1 : -9223372036854775808 ≤ x) (h2 : x ≤ 9223372036854775807) : -9223372036854775808 ≤ x.tdiv 3 ∧ x.tdiv 3 ≤ 9223372036854775807 := by
  by_cases h : 0 ≤ x
  · rw [Int.tdiv_eq_ediv_of_nonneg h]; omega
  · have e : x.tdiv 3 = -((-x).tdiv 3) := by rw [Int.neg_tdiv, Int.neg_neg]
    rw [e, Int.tdiv_eq_ediv_of_nonneg (by omega)]; omega
theorem wp_build_fact {o : Oper} {a : Act} {w : World} {K : Act → World → Prop} {Q : Exit → Act → World → Prop} (x : Operand) (f : FactV) (ho : o.op = .buildSlice 23 1 #[(0, x)]) (hx : a.eval x = .agg f.cells)
    (h : K (a.put o.dst (.slice (some ⟨w.heap.size, 0, none⟩) 1 1)) (w.alloc (.cells f.cells 41))) : o.wp Try.prog a w K Q := by
  obtain ⟨i0, hi, hz0, hz1, hz2⟩ := info_parts fact_info
  refine wp_buildSlice 23 41 1 #[(0, x)] ho f.cells i0 _ Try.underlying23 hi hz0 (by rw [hz1]; decide) (by rw [hz1]; decide) ?_ h
  rw [hz1]
  simp only [List.map_toArray, List.map_cons, List.map_nil, hx]
  exact fill_fact f
theorem wp_append_fact {o : Oper} {a : Act} {w : World} {K : Act → World → Prop} {Q : Exit → Act → World → Prop} (s x : Operand) (base : Nat) (L : List FactV) (f : FactV) (b : Nat) (v : Value) (hown : OwnF w base v L) (hlen : L.length ≤ 1000000) (hbase : base ≤ w.heap.size)
    (hnews : ∀ (j : Nat) u, f.cells.toList[j]? = some u → w.cell? ((⟨b, 0, none⟩ : Addr).add j) = some u)
    (ho : o.op = .call { callee := .builtin .append, args := #[s, x], argTypes := #[23, 23] })
    (hs : a.eval s = v) (hx : a.eval x = .slice (some ⟨b, 0, none⟩) 1 1)
    (h : ∀ v' w', OwnF w' base v' (L ++ [f]) → Below base w w' → K (a.put o.dst v') w') : o.wp Try.prog a w K Q := by
  obtain ⟨i0, hi, hz0, hz1, hz2⟩ := info_parts fact_info
  refine wp_append_own _ s x 23 ho base 41 i0 _ 18 152 Try.underlying23 hi hz0 hz1 hz2 rfl (by decide) v L.length (fCells L) hs hown ⟨b, 0, none⟩ 1 1 f.cells.toList hx rfl hnews (fact_ones f) (by unfold maxLen; omega) (by omega) hbase fun v' w' h1 h2 _ => h v' w' ?_ ?_
  · unfold OwnF
    rw [fCells_app, List.length_append]
    exact h1
  · exact (Below.refl _ _).grown h2 hbase (fun j e => (hown.lt j e).1)
theorem pickN_range (c n : Int) (hn : 1 ≤ n) : 0 ≤ pickN c n ∧ pickN c n < n := by
  unfold pickN
  exact ⟨Int.emod_nonneg _ (by omega), Int.emod_lt_of_pos _ (by omega)⟩
/-- a slice of arrays of five integers -/
def XsAt (w : World) (v : Value) (m : Nat) (X : Nat → Nat → Int) : Prop :=
  (∀ i j, -9223372036854775808 ≤ X i j ∧ X i j ≤ 9223372036854775807) ∧
  ((m = 0 ∧ ∃ A c, v = .slice A 0 c) ∨ ∃ b o c, v = .slice (some ⟨b, o, none⟩) m c ∧ b < w.heap.size ∧ ∀ i j, i < m → j < 5 → w.cell? ⟨b, o + i * 5 + j, none⟩ = some (.int .i64 (X i j)))
theorem XsAt.below {w w' : World} {v : Value} {m : Nat} {X : Nat → Nat → Int} (h : XsAt w v m X) (hb : Below w.heap.size w w') : XsAt w' v m X := by
  refine ⟨h.1, ?_⟩
  rcases h.2 with h | ⟨b, o, c, rfl, hlt, h⟩
  · exact .inl h
  · exact .inr ⟨b, o, c, rfl, Nat.lt_of_lt_of_le hlt hb.size, fun i j hi hj => (hb.cell (p := ⟨b, o + i * 5 + j, none⟩) hlt).trans (h i j hi hj)⟩
/-- what a base of Make holds: revenues, subscriptions and rates, all made -/
def MadeBase (w : World) (n : Nat) (a b c : Value) : Prop := ∃ l, l.length ≤ 40 ∧ (∀ g ∈ l, Made g) ∧ OfAt w n l l.length a b c

set_option maxRecDepth 100000 in
set_option maxHeartbeats 8000000 in
theorem make_some (X : Nat → Nat → Int) (m : Nat) (v : Value) (w : World) (hm : m ≤ 140737488351232) (hx : XsAt w v m X) :
    Calls Try.prog 8 #[v] w fun e w' => ∃ a b c, e = .returned (.agg (bv a b c).cells) ∧ MadeBase w' w.heap.size a b c ∧ Below w.heap.size w w' := by
  have HXX := Lib.hid hx
  obtain ⟨A, cc, rfl⟩ : ∃ A c, v = .slice A m c := by
    rcases hx.2 with ⟨h0, A, c, rfl⟩ | ⟨b, o, c, rfl, _⟩
    · exact ⟨A, c, by rw [h0]⟩
    · exact ⟨_, c, rfl⟩
  clear hx
  go_enter Try.func8, Try.ntmps8
  go_wp2_with fail
  refine (fun (H : ∀ W : World, (RowAt W w.heap.size 26 (bv (.slice none 0 0) (.slice none 0 0) (.slice none 0 0)).cells ∧ Below w.heap.size w W ∧ W.heap.size = w.heap.size + 1) → Code.wp _ _ _ _ W) =>
    H (allocs w [.cells (bv (.slice none 0 0) (.slice none 0 0) (.slice none 0 0)).cells 26]) ⟨allocs_get _ w 0 _ rfl, allocs_below _ w, allocs_size _ w⟩) ?_
  rintro W0 ⟨k0, kb, ks⟩
  have HK0 := Lib.hid k0
  have HB0 := Lib.hid kb
  have HS0 := Lib.hid ks
  clear k0 kb ks
  go_loopw [3, 4] (fun sv iv wr => ∃ (k : Nat) (L : List FactV), k ≤ m ∧ k ≤ 40 ∧ iv = .int .i64 k ∧ Hid (L.length ≤ k ∧ (∀ g ∈ L, Made g) ∧ OwnF wr W0.heap.size sv L ∧ Below W0.heap.size W0 wr)) (fun _ i _ => 40 - (intOf i).toNat)
  case atStart => exact ⟨0, [], by omega, by omega, rfl, Lib.hid ⟨by simp, (fun _ h => by cases h), OwnF.nil _ _, Below.refl _ _⟩⟩
  case round =>
    obtain ⟨k, L, hk, hk40, rfl, HR⟩ := hrel
    have HOW := Lib.hid HR.out.2.2.1
    have HMD := Lib.hid HR.out.2.1
    have HLN := Lib.hid HR.out.1
    have HBR := Lib.hid HR.out.2.2.2
    have hsr := HBR.out.size
    clear HR
    by_cases hk2 : k < m ∧ k < 40
    · obtain ⟨hk2, hk3⟩ := hk2
      have hlen : L.length ≤ 1000000 := by have := HLN.out; omega
      have hbw : Below w.heap.size w wr := HB0.out.trans (HBR.out.mono (by rw [HS0.out]; omega))
      obtain ⟨b, o, hA, hbl, hld⟩ : ∃ b o, A = some ⟨b, o, none⟩ ∧ b < w.heap.size ∧ ∀ j, j < 5 → w.cell? ⟨b, o + k * 5 + j, none⟩ = some (.int .i64 (X k j)) := by
        rcases HXX.out.2 with ⟨h0, _⟩ | ⟨b, o, c, he, hb, hc⟩
        · omega
        · simp only [Value.slice.injEq] at he
          exact ⟨b, o, he.1, hb, fun j hj => hc k j hk2 hj⟩
      subst hA
      have hlw : ∀ W, Below w.heap.size w W → ∀ j, j < 5 → W.cell? ⟨b, o + k * 5 + j, none⟩ = some (.int .i64 (X k j)) := fun W hW j hj => (hW.cell (p := ⟨b, o + k * 5 + j, none⟩) hbl).trans (hld j hj)
      have HLW := Lib.hid hlw
      have hX := HXX.out.1 k
      obtain ⟨x0, hx0⟩ : ∃ x, X k 0 = x := ⟨_, rfl⟩
      obtain ⟨x1, hx1⟩ : ∃ x, X k 1 = x := ⟨_, rfl⟩
      obtain ⟨x2, hx2⟩ : ∃ x, X k 2 = x := ⟨_, rfl⟩
      obtain ⟨x3, hx3⟩ : ∃ x, X k 3 = x := ⟨_, rfl⟩
      obtain ⟨x4, hx4⟩ : ∃ x, X k 4 = x := ⟨_, rfl⟩
      have c0 : wr.cell? ⟨b, o + k * 5, none⟩ = some (.int .i64 (X k 0)) := hlw wr hbw 0 (by omega)
      have c1 := hlw wr hbw 1 (by omega)
      have c2 := hlw wr hbw 2 (by omega)
      have c3 := hlw wr hbw 3 (by omega)
      have c4 := hlw wr hbw 4 (by omega)
      have C4 : Hid (∀ W, Below w.heap.size w W → W.cell? ⟨b, o + k * 5 + 4, none⟩ = some (.int .i64 x4)) := Lib.hid fun W hW => by rw [← hx4]; exact hlw W hW 4 (by omega)
      rw [hx0] at c0
      rw [hx1] at c1
      rw [hx2] at c2
      rw [hx3] at c3
      rw [hx4] at c4
      have P1 := Lib.hid (pick_any x1 3 wr (by rw [← hx1]; exact (hX 1).1) (by rw [← hx1]; exact (hX 1).2) (by omega) (by omega))
      have P2 := Lib.hid (pick_any x2 4 wr (by rw [← hx2]; exact (hX 2).1) (by rw [← hx2]; exact (hX 2).2) (by omega) (by omega))
      have P0 := Lib.hid (pick_any x0 3 wr (by rw [← hx0]; exact (hX 0).1) (by rw [← hx0]; exact (hX 0).2) (by omega) (by omega))
      have PA := Lib.hid (fun W => pick_any x3 10000000 W (by rw [← hx3]; exact (hX 3).1) (by rw [← hx3]; exact (hX 3).2) (by omega) (by omega))
      have PB := Lib.hid (fun W => pick_any x3 10000000001 W (by rw [← hx3]; exact (hX 3).1) (by rw [← hx3]; exact (hX 3).2) (by omega) (by omega))
      have PC := Lib.hid (fun W => pick_any x3 1000000001 W (by rw [← hx3]; exact (hX 3).1) (by rw [← hx3]; exact (hX 3).2) (by omega) (by omega))
      have PT := Lib.hid (fun W => pick_any x4 3 W (by rw [← hx4]; exact (hX 4).1) (by rw [← hx4]; exact (hX 4).2) (by omega) (by omega))
      have x4r : -9223372036854775808 ≤ x4 ∧ x4 ≤ 9223372036854775807 := by rw [← hx4]; exact hX 4
      have X4R := Lib.hid x4r
      obtain ⟨y0, hy0⟩ : ∃ y, pickN x0 3 = y := ⟨_, rfl⟩
      obtain ⟨y1, hy1⟩ : ∃ y, pickN x1 3 = y := ⟨_, rfl⟩
      obtain ⟨y2, hy2⟩ : ∃ y, pickN x2 4 = y := ⟨_, rfl⟩
      obtain ⟨ya, hya⟩ : ∃ y, pickN x3 10000000 = y := ⟨_, rfl⟩
      obtain ⟨yb, hyb⟩ : ∃ y, pickN x3 10000000001 = y := ⟨_, rfl⟩
      obtain ⟨yc, hyc⟩ : ∃ y, pickN x3 1000000001 = y := ⟨_, rfl⟩
      obtain ⟨yt, hyt⟩ : ∃ y, pickN x4 3 = y := ⟨_, rfl⟩
      rw [hy0] at P0
      rw [hy1] at P1
      rw [hy2] at P2
      rw [hya] at PA
      rw [hyb] at PB
      rw [hyc] at PC
      rw [hyt] at PT
      have r0 := pickN_range x0 3 (by omega)
      have r1 := pickN_range x1 3 (by omega)
      have r2 := pickN_range x2 4 (by omega)
      have ra := pickN_range x3 10000000 (by omega)
      have rb := pickN_range x3 10000000001 (by omega)
      have rc := pickN_range x3 1000000001 (by omega)
      have rt := pickN_range x4 3 (by omega)
      rw [hy0] at r0
      rw [hy1] at r1
      rw [hy2] at r2
      rw [hya] at ra
      rw [hyb] at rb
      rw [hyc] at rc
      rw [hyt] at rt
      have RA := Lib.hid ra
      have RB := Lib.hid rb
      have RC := Lib.hid rc
      have RT := Lib.hid rt
      have R1 := Lib.hid r1
      clear hx0 hx1 hx2 hx3 hx4 hy0 hy1 hy2 hya hyb hyc hyt hlw hX hld x4r ra rb rc rt
      have HBW := Lib.hid hbw
      clear hbw
      go_wp2_with fail
      refine (P1.out).mono ?_
      rintro e w1 ⟨rfl, rfl⟩
      go_wp2_with fail
      refine (P2.out).mono ?_
      rintro e w1 ⟨rfl, rfl⟩
      go_wp2_with fail
      refine (P0.out).mono ?_
      rintro e w1 ⟨rfl, rfl⟩
      rcases (by omega : y0 = 0 ∨ y0 = 1 ∨ y0 = 2) with rfl | rfl | rfl
      · have ra := RA.out
        go_wp2_with fail
        refine (PA.out _).mono ?_
        rintro e w1 ⟨rfl, rfl⟩
        have HM := Lib.hid (Made.k7 y1 (1 + ya) (1 + y2) (by omega) (by omega) (by have := RA.out; omega) (by have := RA.out; omega) (by omega) (by omega))
        go_wp2_with (first | ((with_reducible refine append_fact (o := ⟨some 74, _, _, _, _, _⟩) (.tmp 65) (.tmp 73) W0.heap.size L (mk7 y1 (1 + ya) (1 + y2)) wr.heap.size _ (OwnF.below HOW.out ((Below.refl _ _).alloc (Nat.le_refl _) _)) hlen ?_ ?_ ?_ ?_ ?_ ?_ ?_); (simp; omega); (exact fact_new wr (mk7 y1 (1 + ya) (1 + y2)) _); rfl; rfl; rfl; rfl; intro v' w5 hown' hbl' _))
        go_roundw
        case rel =>
          refine ⟨k + 1, L ++ [(mk7 y1 (1 + ya) (1 + y2))], by omega, by omega, by go_num, Lib.hid ⟨?_, ?_, hown', (HBR.out.alloc hsr _).trans hbl'⟩⟩
          · have := HLN.out
            simp
            omega
          · intro y hy
            rcases List.mem_append.1 hy with h | h
            · exact HMD.out y h
            · rw [List.mem_singleton.1 h]
              exact HM.out
        case measure => simp [intOf]; omega
      · go_wp2_with fail
        refine (PT.out _).mono ?_
        rintro e w1 ⟨rfl, rfl⟩
        go_wp2_with fail
        refine (PB.out _).mono ?_
        rintro e w1 ⟨rfl, rfl⟩
        have HM := Lib.hid (Made.k5 ((k : Int) + 1) y1 yt yb y2 (by omega) (by omega) (by omega) (by omega) (by have := RT.out; omega) (by have := RT.out; omega) (by have := RB.out; omega) (by have := RB.out; omega) (by omega) (by omega))
        go_wp2_with (first | ((with_reducible refine append_fact (o := ⟨some 92, _, _, _, _, _⟩) (.tmp 77) (.tmp 91) W0.heap.size L (mk5 ((k : Int) + 1) y1 yt yb y2) wr.heap.size _ (OwnF.below HOW.out ((Below.refl _ _).alloc (Nat.le_refl _) _)) hlen ?_ ?_ ?_ ?_ ?_ ?_ ?_); (simp; omega); (exact fact_new wr (mk5 ((k : Int) + 1) y1 yt yb y2) _); rfl; rfl; rfl; rfl; intro v' w5 hown' hbl' _))
        go_roundw
        case rel =>
          refine ⟨k + 1, L ++ [(mk5 ((k : Int) + 1) y1 yt yb y2)], by omega, by omega, by go_num, Lib.hid ⟨?_, ?_, hown', (HBR.out.alloc hsr _).trans hbl'⟩⟩
          · have := HLN.out
            simp
            omega
          · intro y hy
            rcases List.mem_append.1 hy with h | h
            · exact HMD.out y h
            · rw [List.mem_singleton.1 h]
              exact HM.out
        case measure => simp [intOf]; omega
      · have HB := Lib.hid (HBW.out)
        have hsw : w.heap.size ≤ wr.heap.size := HBW.out.size
        have hz := tdiv3 x4 X4R.out.1 X4R.out.2
        have PZ := Lib.hid (fun W => pick_any (x4.tdiv 3) 5 W hz.1 hz.2 (by omega) (by omega))
        have rz := pickN_range (x4.tdiv 3) 5 (by omega)
        obtain ⟨yz, hyz⟩ : ∃ y, pickN (x4.tdiv 3) 5 = y := ⟨_, rfl⟩
        rw [hyz] at PZ rz
        have RZ := Lib.hid rz
        clear hyz
        have hwz : IntKind.i64.wrap (x4.tdiv 3) = x4.tdiv 3 := wrap_i64_tdiv x4 3 X4R.out.1 X4R.out.2 (by omega)
        have hwz2 : IntKind.i64.wrap (1 + yz) = 1 + yz := IntWalk.i64_in _ (by omega)
        have HM := Lib.hid (Made.k6 (1 + yz) y1 yt yc y2 (by omega) (by omega) (by omega) (by omega) (by have := RT.out; omega) (by have := RT.out; omega) (by have := RC.out; omega) (by have := RC.out; omega) (by omega) (by omega))
        clear P0 P1 P2 PA PB c0 c1 c2 c3 c4
        go_wp2_with fail
        refine wp_region_held_drew (S := fun W => Below w.heap.size w W) (by kernel_rfl) HB.out.drew (fun hHeld => ?_)
        refine wpAnyH_take (i := 0) (oi := ⟨_, _, _, _, _, _⟩) (v := ?_) rfl (by kernel_rfl) (by kernel_rfl) (by kernel_rfl) (fun _ _ _ h => h) (Or.inl ⟨by rfl, ?_⟩) (by assumption) ?_
        rotate_left
        · intro w hSw
          go_simp
          all_goals with_reducible rfl
        simp only [Act.put, List.setIfInBounds_toArray, List.set_cons_zero, List.set_cons_succ]
        refine wpAnyH_take (i := 1) (oi := ⟨_, _, _, _, _, _⟩) (v := ?_) rfl (by kernel_rfl) (by kernel_rfl) (by kernel_rfl) (fun _ _ _ h => h) (Or.inl ⟨by rfl, ?_⟩) (by assumption) ?_
        rotate_left
        · intro w hSw
          go_simp
          all_goals with_reducible rfl
        simp only [Act.put, List.setIfInBounds_toArray, List.set_cons_zero, List.set_cons_succ]
        refine wpAnyH_take (i := 2) (oi := ⟨_, _, _, _, _, _⟩) (v := ?_) rfl (by kernel_rfl) (by kernel_rfl) (by kernel_rfl) (fun _ _ _ h => h) (Or.inl ⟨by rfl, ?_⟩) (by assumption) ?_
        rotate_left
        · intro w hSw
          go_simp
          all_goals with_reducible rfl
        simp only [Act.put, List.setIfInBounds_toArray, List.set_cons_zero, List.set_cons_succ]
        refine wpAnyH_take (i := 3) (oi := ⟨_, _, _, _, _, _⟩) (v := ?_) rfl (by kernel_rfl) (by kernel_rfl) (by kernel_rfl) (fun _ _ _ h => h) (Or.inl ⟨by rfl, ?_⟩) (by assumption) ?_
        rotate_left
        · intro w hSw
          go_simp
          all_goals with_reducible rfl
        simp only [Act.put, List.setIfInBounds_toArray, List.set_cons_zero, List.set_cons_succ]
        refine wpAnyH_take (i := 4) (oi := ⟨_, _, _, _, _, _⟩) (v := ?_) rfl (by kernel_rfl) (by kernel_rfl) (by kernel_rfl) (fun _ _ _ h => h) (Or.inl ⟨by rfl, ?_⟩) (by assumption) ?_
        rotate_left
        · intro w hSw
          go_simp
          all_goals with_reducible rfl
        simp only [Act.put, List.setIfInBounds_toArray, List.set_cons_zero, List.set_cons_succ]
        refine wpAnyH_take (i := 5) (oi := ⟨_, _, _, _, _, _⟩) (v := ?_) rfl (by kernel_rfl) (by kernel_rfl) (by kernel_rfl) (fun _ _ _ h => h) (Or.inl ⟨by rfl, ?_⟩) (by assumption) ?_
        rotate_left
        · intro w hSw
          have hcell := C4.out w hSw
          go_simp
          all_goals with_reducible rfl
        simp only [Act.put, List.setIfInBounds_toArray, List.set_cons_zero, List.set_cons_succ]
        refine wpAnyH_take (i := 6) (oi := ⟨_, _, _, _, _, _⟩) (v := ?_) rfl (by kernel_rfl) (by kernel_rfl) (by kernel_rfl) (fun _ _ _ h => h) (Or.inl ⟨by rfl, ?_⟩) (by assumption) ?_
        rotate_left
        · intro w hSw
          go_simp
          all_goals with_reducible rfl
        simp only [Act.put, List.setIfInBounds_toArray, List.set_cons_zero, List.set_cons_succ]
        refine wpAnyH_take (i := 9) (oi := ⟨_, _, _, _, _, _⟩) (v := ?_) rfl (by kernel_rfl) (by kernel_rfl) (by kernel_rfl) (fun _ _ _ h => h) (Or.inl ⟨by rfl, ?_⟩) (by assumption) ?_
        rotate_left
        · intro w hSw
          go_simp
          all_goals with_reducible rfl
        simp only [Act.put, List.setIfInBounds_toArray, List.set_cons_zero, List.set_cons_succ]
        refine wpAnyH_take (i := 10) (oi := ⟨_, _, _, _, _, _⟩) (v := ?_) rfl (by kernel_rfl) (by kernel_rfl) (by kernel_rfl) (fun _ _ _ h => h) (Or.inl ⟨by rfl, ?_⟩) (by assumption) ?_
        rotate_left
        · intro w hSw
          go_simp
          all_goals with_reducible rfl
        simp only [Act.put, List.setIfInBounds_toArray, List.set_cons_zero, List.set_cons_succ]
        refine wpAnyH_take (i := 11) (oi := ⟨_, _, _, _, _, _⟩) (v := ?_) rfl (by kernel_rfl) (by kernel_rfl) (by kernel_rfl) (fun _ _ _ h => h) (Or.inl ⟨by rfl, ?_⟩) (by assumption) ?_
        rotate_left
        · intro w hSw
          go_simp
          all_goals with_reducible rfl
        simp only [Act.put, List.setIfInBounds_toArray, List.set_cons_zero, List.set_cons_succ]
        refine wpAnyH_take (i := 12) (oi := ⟨_, _, _, _, _, _⟩) (v := ?_) rfl (by kernel_rfl) (by kernel_rfl) (by kernel_rfl) (fun _ _ _ h => h) (Or.inl ⟨by rfl, ?_⟩) (by assumption) ?_
        rotate_left
        · intro w hSw
          go_simp
          all_goals with_reducible rfl
        simp only [Act.put, List.setIfInBounds_toArray, List.set_cons_zero, List.set_cons_succ]
        refine wpAnyH_take (i := 13) (oi := ⟨_, _, _, _, _, _⟩) (v := ?_) rfl (by kernel_rfl) (by kernel_rfl) (by kernel_rfl) (fun _ _ _ h => h) (Or.inl ⟨by rfl, ?_⟩) (by assumption) ?_
        rotate_left
        · intro w hSw
          go_simp
          all_goals with_reducible rfl
        simp only [Act.put, List.setIfInBounds_toArray, List.set_cons_zero, List.set_cons_succ]
        refine wpAnyH_take (i := 14) (oi := ⟨_, _, _, _, _, _⟩) (v := ?_) rfl (by kernel_rfl) (by kernel_rfl) (by kernel_rfl) (fun _ _ _ h => h) (Or.inl ⟨by rfl, ?_⟩) (by assumption) ?_
        rotate_left
        · intro w hSw
          have hcell := C4.out w hSw
          go_simp
          all_goals with_reducible rfl
        simp only [Act.put, List.setIfInBounds_toArray, List.set_cons_zero, List.set_cons_succ]
        refine wpAnyH_take (i := 16) (oi := ⟨_, _, _, _, _, _⟩) (v := ?_) rfl (by kernel_rfl) (by kernel_rfl) (by kernel_rfl) (fun _ _ _ h => h) (Or.inl ⟨by rfl, ?_⟩) (by assumption) ?_
        rotate_left
        · intro w hSw
          go_simp
          all_goals with_reducible rfl
        simp only [Act.put, List.setIfInBounds_toArray, List.set_cons_zero, List.set_cons_succ]
        refine wpAnyH_take (i := 18) (oi := ⟨_, _, _, _, _, _⟩) (v := ?_) rfl (by kernel_rfl) (by kernel_rfl) (by kernel_rfl) (fun _ _ _ h => h) (Or.inl ⟨by rfl, ?_⟩) (by assumption) ?_
        rotate_left
        · intro w hSw
          go_simp
          all_goals with_reducible rfl
        simp only [Act.put, List.setIfInBounds_toArray, List.set_cons_zero, List.set_cons_succ]
        refine wpAnyH_ready (rs := [7]) (by kernel_rfl) (by simp) ?_
        refine AllReadyH.cons (o := ⟨_, _, _, _, _, _⟩) rfl (fun K hK => ?_) AllReadyH.nil
        go_simp
        (go_at_call 9; refine (PZ.out _).mono ?_; rintro e w' ⟨rfl, rfl⟩)
        go_wp2_with fail
        refine hK.out _ _ (by assumption) (fun _ => ?_)
        clear hK K
        try simp only [Act.put, List.setIfInBounds_toArray, List.set_cons_zero, List.set_cons_succ]
        refine wpAnyH_take (i := 8) (oi := ⟨_, _, _, _, _, _⟩) (v := ?_) rfl (by kernel_rfl) (by kernel_rfl) (by kernel_rfl) (fun _ _ _ h => h) (Or.inl ⟨by rfl, ?_⟩) (by assumption) ?_
        rotate_left
        · intro w hSw
          go_simp
          all_goals with_reducible rfl
        simp only [Act.put, List.setIfInBounds_toArray, List.set_cons_zero, List.set_cons_succ]
        refine wpAnyH_ready (rs := [15]) (by kernel_rfl) (by simp) ?_
        refine AllReadyH.cons (o := ⟨_, _, _, _, _, _⟩) rfl (fun K hK => ?_) AllReadyH.nil
        go_simp
        (go_at_call 9; refine (PT.out _).mono ?_; rintro e w' ⟨rfl, rfl⟩)
        go_wp2_with fail
        refine hK.out _ _ (by assumption) (fun _ => ?_)
        clear hK K
        try simp only [Act.put, List.setIfInBounds_toArray, List.set_cons_zero, List.set_cons_succ]
        refine wpAnyH_ready (rs := [17]) (by kernel_rfl) (by simp) ?_
        refine AllReadyH.cons (o := ⟨_, _, _, _, _, _⟩) rfl (fun K hK => ?_) AllReadyH.nil
        go_simp
        (go_at_call 9; refine (PC.out _).mono ?_; rintro e w' ⟨rfl, rfl⟩)
        go_wp2_with fail
        refine hK.out _ _ (by assumption) (fun _ => ?_)
        clear hK K
        try simp only [Act.put, List.setIfInBounds_toArray, List.set_cons_zero, List.set_cons_succ]
        refine wpAnyH_take (i := 19) (oi := ⟨_, _, _, _, _, _⟩) (v := ?_) rfl (by kernel_rfl) (by kernel_rfl) (by kernel_rfl) (fun _ _ _ h => h) (Or.inl ⟨by rfl, ?_⟩) (by assumption) ?_
        rotate_left
        · intro w hSw
          go_simp
          all_goals with_reducible rfl
        simp only [Act.put, List.setIfInBounds_toArray, List.set_cons_zero, List.set_cons_succ]
        refine wpAnyH_ready (rs := [20]) (by kernel_rfl) (by simp) ?_
        refine AllReadyH.cons (o := ⟨_, _, _, _, _, _⟩) rfl (fun K hK => ?_) AllReadyH.nil
        rw [if_pos (by rfl)]
        refine wp_build_fact (.tmp 60) (mk6 (1 + yz) y1 yt yc y2) rfl rfl ?_
        refine hK.out _ _ (HB.out.drew.alloc hsw _) (fun _ => ?_)
        clear hK K
        simp only [Act.put, List.setIfInBounds_toArray, List.set_cons_zero, List.set_cons_succ]
        refine wpAnyH_ready (rs := [21]) (by kernel_rfl) (by simp) ?_
        refine AllReadyH.cons (o := ⟨_, _, _, _, _, _⟩) rfl (fun K hK => ?_) AllReadyH.nil
        rw [if_pos (by rfl)]
        refine wp_append_fact (.tmp 41) (.tmp 61) W0.heap.size L (mk6 (1 + yz) y1 yt yc y2) _ _ (HOW.out.below (((Below.refl wr.heap.size wr).drew).alloc (Nat.le_refl _) _)) hlen (by simp; exact Nat.le_succ_of_le hsr) (fact_new wr.drew (mk6 (1 + yz) y1 yt yc y2) _) rfl rfl rfl (fun v' w5 hown' hbl' => ?_)
        have hS5 : Below w.heap.size w w5 := (HB.out.drew.alloc hsw _).trans (hbl'.mono (by rw [HS0.out]; omega))
        refine hK.out _ _ hS5 (fun _ => ?_)
        clear hK K
        simp only [Act.put, List.setIfInBounds_toArray, List.set_cons_zero, List.set_cons_succ]
        refine wpAnyH_take (i := 22) (oi := ⟨_, _, _, _, _, _⟩) (v := ?_) rfl (by kernel_rfl) (by kernel_rfl) (by kernel_rfl) (fun _ _ _ h => h) (Or.inl ⟨by rfl, ?_⟩) (by assumption) ?_
        rotate_left
        · intro w hSw
          go_simp
          all_goals with_reducible rfl
        simp only [Act.put, List.setIfInBounds_toArray, List.set_cons_zero, List.set_cons_succ]
        refine wpAnyH_done (by kernel_rfl) ?_ _
        clear hHeld hS5
        go_wp2_with fail
        go_roundw
        case rel =>
          refine ⟨k + 1, L ++ [(mk6 (1 + yz) y1 yt yc y2)], by omega, by omega, by go_num, Lib.hid ⟨?_, ?_, hown', (HBR.out.drew.alloc hsr _).trans hbl'⟩⟩
          · have := HLN.out
            simp
            omega
          · intro y hy
            rcases List.mem_append.1 hy with h | h
            · exact HMD.out y h
            · rw [List.mem_singleton.1 h]
              exact HM.out
        case measure => simp [intOf]; omega
    · have HOFS := Lib.hid (of_some L u3 wr (by have := HLN.out; omega) HOW.out.facts HMD.out)
      have HK := Lib.hid (HK0.out.below HBR.out (by rw [HS0.out]; omega))
      have HBW := Lib.hid (HB0.out.trans (HBR.out.mono (by rw [HS0.out]; omega)))
      have hwr : w.heap.size < wr.heap.size := by have := HS0.out; omega
      go_wp2_with fail
      all_goals
        refine (HOFS.out).mono ?_
        rintro e w5 ⟨a, b, c, rfl, hof, hb⟩
        have HOF := Lib.hid hof
        have HB5 := Lib.hid (HBW.out.trans (hb.mono HBW.out.size))
        have HK5 := Lib.hid (HK.out.below hb hwr)
        clear hof hb
        go_wp2_with (first | (refine wpList_store_row rfl 26 (.tmp 2) (.tmp 94) rfl w.heap.size (bv a b c).cells rfl rfl 26 _ HK5.out base_size rfl (bv_ones HOF.out.ones.1 HOF.out.ones.2.1 HOF.out.ones.2.2) ?_))
        exact bodyPost_ret (results_cell1 rfl _ _ w.heap.size _ (bv a b c).cells _ _ rfl (setRow_same HK5.out) Try.underlying26 rfl base_size) rfl ⟨a, b, c, rfl, ⟨L, (by have := HLN.out; omega), HMD.out, ((HOF.out).other (k := w.heap.size) hwr (fun j hj => setRow_other (by omega))).mono (by omega) (Nat.le_refl _)⟩, below_setRow HB5.out (Nat.le_refl _)⟩
end Go.Proofs.Ytdackmefkccipaa
