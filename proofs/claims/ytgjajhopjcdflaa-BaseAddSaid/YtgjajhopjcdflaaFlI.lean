/- royaltyref07: Lists, Facts, SameFacts. -/
import Derived.Test.YtgjajhopjcdflaaFlR
namespace Go.Proofs.Ytgjajhopjcdflaa
open Go Go.RowKit Go.Lib Go.Shelf Go.Maps

set_option maxRecDepth 100000 in
set_option maxHeartbeats 4000000 in
theorem samefacts_any (la lb : List FactV) (va vb : Value) (w : World) (hn : la.length ≤ 1000000) (hm : lb.length ≤ 1000000) (ha : FactsAt w va la) (hb : FactsAt w vb lb) :
    Calls Try.prog 15 #[va, vb] w fun e w' => e = .returned (.bool (sameL la lb)) ∧ Below w.heap.size w w' := by
  have HA := Lib.hid ha
  have HB := Lib.hid hb
  obtain ⟨A, ca, rfl⟩ := ha.sl
  obtain ⟨B, cb, rfl⟩ := hb.sl
  obtain ⟨n, hna⟩ : ∃ z, la.length = z := ⟨_, rfl⟩
  obtain ⟨m, hmb⟩ : ∃ z, lb.length = z := ⟨_, rfl⟩
  rw [hna] at HA hn ⊢
  rw [hmb] at HB hm ⊢
  have HN := Lib.hid (And.intro hna hmb)
  clear ha hb hna hmb
  by_cases hnm : n = m
  · subst hnm
    have hd : ((n : Int) != (n : Int)) = false := by simp
    go_enter Try.func15, Try.ntmps15
    go_wp2_with fail
    go_loopw [5, 6] (fun v5 v6 wr => ∃ j : Nat, v5 = .int .i64 j ∧ j ≤ n ∧ Hid (sameL la lb = sameL (la.drop j) (lb.drop j) ∧ Below w.heap.size w wr)) (fun v5 _ _ => n - (RowKit.intOf v5).toNat)
    case atStart => exact ⟨0, rfl, by omega, Lib.hid ⟨by simp, Below.refl _ _⟩⟩
    case round =>
      obtain ⟨j, rfl, hj, HS⟩ := hrel
      by_cases hj2 : j < n
      · have hjd : decide (j < n) = true := by simpa using hj2
        obtain ⟨f, hf⟩ : ∃ x, la[j]? = some x := ⟨_, List.getElem?_eq_getElem (by have := HN.out.1; omega)⟩
        obtain ⟨g, hg⟩ : ∃ x, lb[j]? = some x := ⟨_, List.getElem?_eq_getElem (by have := HN.out.2; omega)⟩
        obtain ⟨b, o, rfl, hlt, hcell⟩ := (HA.out.more HS.out.2).get hf
        obtain ⟨b2, o2, rfl, hlt2, hcell2⟩ := (HB.out.more HS.out.2).get hg
        have HFG := Lib.hid (And.intro hf hg)
        have HSM := Lib.hid (fun W => rsame_any f g W)
        have HCF : Hid ((Try.prog.info? 29).map (·.size) = some f.cells.size) := Lib.hid fact_size
        have HCG : Hid ((Try.prog.info? 29).map (·.size) = some g.cells.size) := Lib.hid fact_size
        obtain ⟨cf, hcf⟩ : ∃ z, f.cells = z := ⟨_, rfl⟩
        obtain ⟨cg, hcg⟩ : ∃ z, g.cells = z := ⟨_, rfl⟩
        rw [hcf] at HSM HCF hcell
        rw [hcg] at HSM HCG hcell2
        have HC1 : Hid (∀ W, Below wr.heap.size wr W → ∀ j2 x, cf[j2]? = some x → W.cell? ⟨b, o + j * 18 + j2, none⟩ = some x) := Lib.hid (fun W hW j2 x hx => (hW.cell (p := ⟨b, o + j * 18 + j2, none⟩) hlt).trans (hcell j2 x hx))
        have HC2 : Hid (∀ W, Below wr.heap.size wr W → ∀ j2 x, cg[j2]? = some x → W.cell? ⟨b2, o2 + j * 18 + j2, none⟩ = some x) := Lib.hid (fun W hW j2 x hx => (hW.cell (p := ⟨b2, o2 + j * 18 + j2, none⟩) hlt2).trans (hcell2 j2 x hx))
        clear hf hg hcf hcg hcell hcell2 hlt hlt2
        go_wp2_with fail
        refine wp_region_held_drew (S := fun W => Below wr.heap.size wr W) (by kernel_rfl) (Below.refl _ _).drew (fun hHeld => ?_)
        refine wpAnyH_take (i := 0) (oi := ⟨_, _, _, _, _, _⟩) (v := ?_) rfl (by kernel_rfl) (by kernel_rfl) (by kernel_rfl) (fun _ _ _ h => h) (Or.inl ⟨by rfl, ?_⟩) (by assumption) ?_
        rotate_left
        · intro w hSw
          go_simp
          all_goals with_reducible rfl
        simp only [Act.put, List.setIfInBounds_toArray, List.set_cons_zero, List.set_cons_succ]
        refine wpAnyH_take (i := 1) (oi := ⟨_, _, _, _, _, _⟩) (v := ?_) rfl (by kernel_rfl) (by kernel_rfl) (by kernel_rfl) (fun _ _ _ h => h) (Or.inl ⟨by rfl, ?_⟩) (by assumption) ?_
        rotate_left
        · intro w hSw
          go_simp
          all_goals with_reducible rfl
        simp only [Act.put, List.setIfInBounds_toArray, List.set_cons_zero, List.set_cons_succ]
        refine wpAnyH_take (i := 4) (oi := ⟨_, _, _, _, _, _⟩) (v := ?_) rfl (by kernel_rfl) (by kernel_rfl) (by kernel_rfl) (fun _ _ _ h => h) (Or.inl ⟨by rfl, ?_⟩) (by assumption) ?_
        rotate_left
        · intro w hSw
          go_simp
          all_goals with_reducible rfl
        simp only [Act.put, List.setIfInBounds_toArray, List.set_cons_zero, List.set_cons_succ]
        refine wpAnyH_take (i := 5) (oi := ⟨_, _, _, _, _, _⟩) (v := ?_) rfl (by kernel_rfl) (by kernel_rfl) (by kernel_rfl) (fun _ _ _ h => h) (Or.inl ⟨by rfl, ?_⟩) (by assumption) ?_
        rotate_left
        · intro w hSw
          go_simp
          all_goals with_reducible rfl
        simp only [Act.put, List.setIfInBounds_toArray, List.set_cons_zero, List.set_cons_succ]
        refine wpAnyH_take (i := 2) (oi := ⟨_, _, _, _, _, _⟩) (v := ?_) rfl (by kernel_rfl) (by kernel_rfl) (by kernel_rfl) (fun _ _ _ h => h) (Or.inl ⟨by rfl, ?_⟩) (by assumption) ?_
        rotate_left
        · intro w hSw
          go_simp
          all_goals with_reducible rfl
        simp only [Act.put, List.setIfInBounds_toArray, List.set_cons_zero, List.set_cons_succ]
        refine wpAnyH_take (i := 6) (oi := ⟨_, _, _, _, _, _⟩) (v := ?_) rfl (by kernel_rfl) (by kernel_rfl) (by kernel_rfl) (fun _ _ _ h => h) (Or.inl ⟨by rfl, ?_⟩) (by assumption) ?_
        rotate_left
        · intro w hSw
          go_simp
          all_goals with_reducible rfl
        simp only [Act.put, List.setIfInBounds_toArray, List.set_cons_zero, List.set_cons_succ]
        refine wpAnyH_take (i := 3) (oi := ⟨_, _, _, _, _, _⟩) rfl (by kernel_rfl) (by kernel_rfl) (by kernel_rfl) (fun _ _ _ h => h) (yields_at 29 (.tmp 20) b (o + j * 18) cf _ (fun W hW j2 x hx => HC1.out W hW j2 x hx) Try.underlying29 (by rfl) rfl rfl rfl HCF.out) (by assumption) ?_
        simp only [Act.put, List.setIfInBounds_toArray, List.set_cons_zero, List.set_cons_succ]
        refine wpAnyH_take (i := 7) (oi := ⟨_, _, _, _, _, _⟩) rfl (by kernel_rfl) (by kernel_rfl) (by kernel_rfl) (fun _ _ _ h => h) (yields_at 29 (.tmp 24) b2 (o2 + j * 18) cg _ (fun W hW j2 x hx => HC2.out W hW j2 x hx) Try.underlying29 (by rfl) rfl rfl rfl HCG.out) (by assumption) ?_
        simp only [Act.put, List.setIfInBounds_toArray, List.set_cons_zero, List.set_cons_succ]
        refine wpAnyH_ready (rs := [8]) (by kernel_rfl) (by simp) ?_
        refine AllReadyH.cons (o := ⟨_, _, _, _, _, _⟩) rfl (fun K hK => ?_) AllReadyH.nil
        go_simp
        go_at_call 32
        refine (HSM.out _).mono ?_
        rintro e W5 ⟨rfl, hb5⟩
        have HB5 : Hid (Below wr.heap.size wr W5) := Lib.hid ((Below.refl wr.heap.size wr).drew.trans hb5)
        clear hb5
        go_wp2_with fail
        refine hK.out _ _ HB5.out (fun hHeld => ?_)
        clear hK K
        try simp only [Act.put, List.setIfInBounds_toArray, List.set_cons_zero, List.set_cons_succ]
        refine wpAnyH_ready (rs := [9]) (by kernel_rfl) (by simp) ?_
        refine AllReadyH.cons (o := ⟨_, _, _, _, _, _⟩) rfl (fun K hK => ?_) AllReadyH.nil
        go_simp
        refine hK.out _ _ HB5.out (fun hHeld => ?_)
        clear hK K
        try simp only [Act.put, List.setIfInBounds_toArray, List.set_cons_zero, List.set_cons_succ]
        refine wpAnyH_done (by kernel_rfl) ?_ _
        have HB6 : Hid (Below w.heap.size w W5) := Lib.hid (HS.out.2.trans (HB5.out.mono HS.out.2.size))
        cases hs : sameF f g
        · go_wp2_with fail
          go_ret
          refine ⟨?_, HB6.out⟩
          rw [HS.out.1, drop_at HFG.out.1, drop_at HFG.out.2]
          simp [sameL, hs]
        · have HSS := Lib.hid hs
          clear hs
          go_wp2_with fail
          go_roundw
          case rel =>
            refine ⟨j + 1, by go_num, by omega, Lib.hid ⟨?_, HB6.out⟩⟩
            rw [HS.out.1, drop_at HFG.out.1, drop_at HFG.out.2]
            simp [sameL, HSS.out]
          case measure => simp [RowKit.intOf]; omega
      · obtain rfl : j = n := by omega
        have hjd : decide (j < j) = false := by simp
        go_wp2_with fail
        go_ret
        refine ⟨?_, HS.out.2⟩
        rw [HS.out.1, List.drop_eq_nil_of_le (by have := HN.out.1; omega), List.drop_eq_nil_of_le (by have := HN.out.2; omega)]
        rfl
  · have hd : ((n : Int) != (m : Int)) = true := by simp; omega
    have hd2 : decide (n = m) = false := by simpa using hnm
    have HNM := Lib.hid hnm
    clear hnm
    go_enter Try.func15, Try.ntmps15
    go_wp2_with fail
    go_ret
    exact ⟨by rw [sameL_ne (by rw [HN.out.1, HN.out.2]; exact HNM.out)]; rfl, Below.refl _ _⟩
set_option maxRecDepth 100000 in
set_option maxHeartbeats 4000000 in
theorem rlists_10 (A0 A1 A2 A3 A4 A5 A6 A7 A8 A9 : Option Addr) (n0 c0 n1 c1 n2 c2 n3 c3 n4 c4 n5 c5 n6 c6 n7 c7 n8 c8 n9 c9 : Nat) (w : World) :
    Calls Try.prog 29 #[.agg #[.slice A0 n0 c0, .slice A1 n1 c1, .slice A2 n2 c2, .slice A3 n3 c3, .slice A4 n4 c4, .slice A5 n5 c5, .slice A6 n6 c6, .slice A7 n7 c7, .slice A8 n8 c8, .slice A9 n9 c9]] w fun e w' => e = .returned (.slice (some ⟨w.heap.size + 1, 0, none⟩) 10 10) ∧ RowAt w' (w.heap.size + 1) 23 #[.slice A0 n0 c0, .slice A1 n1 c1, .slice A2 n2 c2, .slice A3 n3 c3, .slice A4 n4 c4, .slice A5 n5 c5, .slice A6 n6 c6, .slice A7 n7 c7, .slice A8 n8 c8, .slice A9 n9 c9] ∧ Below w.heap.size w w' := by
  go_enter Try.func29, Try.ntmps29
  go_wp2_with fail
  go_ret
  refine ⟨rfl, ?_, ((Below.refl w.heap.size w).alloc (Nat.le_refl _) _).alloc (by simp) _⟩
  have h := RowAt.new (w.alloc (.cells #[.slice A0 n0 c0, .slice A1 n1 c1, .slice A2 n2 c2, .slice A3 n3 c3, .slice A4 n4 c4, .slice A5 n5 c5, .slice A6 n6 c6, .slice A7 n7 c7, .slice A8 n8 c8, .slice A9 n9 c9] 32)) 23 #[.slice A0 n0 c0, .slice A1 n1 c1, .slice A2 n2 c2, .slice A3 n3 c3, .slice A4 n4 c4, .slice A5 n5 c5, .slice A6 n6 c6, .slice A7 n7 c7, .slice A8 n8 c8, .slice A9 n9 c9]
  simpa using h
theorem rlists_any (bs : Array Value) (Ls : Nat → List FactV) (w : World) (h : BaseR w bs Ls) :
    Calls Try.prog 29 #[.agg bs] w fun e w' => e = .returned (.slice (some ⟨w.heap.size + 1, 0, none⟩) 10 10) ∧ RowAt w' (w.heap.size + 1) 23 bs ∧ Below w.heap.size w w' := by
  obtain ⟨A0, n0, c0, A1, n1, c1, A2, n2, c2, A3, n3, c3, A4, n4, c4, A5, n5, c5, A6, n6, c6, A7, n7, c7, A8, n8, c8, A9, n9, c9, rfl⟩ := h.slices
  exact rlists_10 A0 A1 A2 A3 A4 A5 A6 A7 A8 A9 n0 c0 n1 c1 n2 c2 n3 c3 n4 c4 n5 c5 n6 c6 n7 c7 n8 c8 n9 c9 w
/-- the first i lists, one behind the other -/
def catL (Ls : Nat → List FactV) : Nat → List FactV
  | 0 => []
  | i + 1 => catL Ls i ++ Ls i
theorem catL_len (Ls : Nat → List FactV) (n : Nat) (h : ∀ q, (Ls q).length ≤ n) : ∀ i, (catL Ls i).length ≤ i * n
  | 0 => by simp [catL]
  | i + 1 => by
    have h1 := catL_len Ls n h i
    have h2 := h i
    rw [show catL Ls (i + 1) = catL Ls i ++ Ls i from rfl, List.length_append, Nat.succ_mul]
    omega
set_option maxRecDepth 100000 in
set_option maxHeartbeats 4000000 in
theorem rfacts_any (bs : Array Value) (Ls : Nat → List FactV) (w : World) (h : BaseR w bs Ls) (hn : ∀ q, (Ls q).length ≤ 10000) :
    Calls Try.prog 12 #[.agg bs] w fun e w' => ∃ v, e = .returned v ∧ OwnF w' w.heap.size v (catL Ls 10) ∧ Below w.heap.size w w' := by
  have HH := Lib.hid h
  have HN : Hid (∀ q, (Ls q).length ≤ 10000) := Lib.hid hn
  have HI : Hid ((Try.prog.info? 32).map (·.size) = some bs.size) := Lib.hid (by rw [h.size]; exact base_size)
  have HONE := Lib.hid h.one
  have HZ : Hid (zb.size = bs.size) := Lib.hid (by rw [h.size]; rfl)
  have HL : Hid (∀ W, Below w.heap.size w W → Calls Try.prog 29 #[.agg bs] W fun e w' => e = .returned (.slice (some ⟨W.heap.size + 1, 0, none⟩) 10 10) ∧ RowAt w' (W.heap.size + 1) 23 bs ∧ Below W.heap.size W w') := Lib.hid (fun W hb => rlists_any bs Ls W (h.more hb))
  have hrow := RowAt.new w 32 bs
  have HLB : Hid (∀ j v, bs[j]? = some v → (w.alloc (.cells bs 32)).cell? ⟨w.heap.size, 0 + j, none⟩ = some v) := Lib.hid (fun j v hv => by rw [Nat.zero_add, hrow.cell]; exact hv)
  have HB0 : Hid (Below w.heap.size w (w.alloc (.cells bs 32))) := Lib.hid ((Below.refl _ _).alloc (Nat.le_refl _) _)
  clear h hn hrow
  go_enter Try.func12, Try.ntmps12
  go_wp2_with (first | ((with_reducible refine load_base (o := ⟨some 6, _, _, _, _, _⟩) (.tmp 1) w.heap.size bs HLB.out HI.out ?_ ?_ ?_ ?_); rfl; rfl; rfl))
  refine (HL.out _ HB0.out).mono ?_
  rintro e W1 ⟨rfl, hr1, hb1⟩
  obtain ⟨N, hNN⟩ : ∃ z, (w.alloc (.cells bs 32)).heap.size + 1 = z := ⟨_, rfl⟩
  rw [hNN] at hr1 ⊢
  have HR1 := Lib.hid hr1
  have HB1 : Hid (Below w.heap.size w W1) := Lib.hid (HB0.out.trans (hb1.mono HB0.out.size))
  have HS1 : Hid (w.heap.size ≤ W1.heap.size ∧ N < W1.heap.size) := Lib.hid ⟨HB1.out.size, hr1.lt⟩
  clear hb1 hr1 hNN
  go_wp2_with fail
  go_loopw [3, 5] (fun v3 v5 wr => ∃ i : Nat, v5 = .int .i64 i ∧ i ≤ 10 ∧ Hid (OwnF wr W1.heap.size v3 (catL Ls i) ∧ Below W1.heap.size W1 wr)) (fun _ v5 _ => 10 - (RowKit.intOf v5).toNat)
  case atStart => exact ⟨0, rfl, by omega, Lib.hid ⟨OwnF.nil _ _, Below.refl _ _⟩⟩
  case round =>
    obtain ⟨i, rfl, hi, HS⟩ := hrel
    by_cases hi2 : i < 10
    · have hid : decide ((i : Int) < 10) = true := by simp; omega
      obtain ⟨v, hv, hf⟩ := HH.out.at_ i hi2
      have HCV : Hid (wr.cell? ⟨N, i, none⟩ = some v) := Lib.hid (by rw [(HR1.out.below HS.out.2 HS1.out.2).cell]; exact hv)
      have HFV : Hid (FactsAt wr v (Ls i)) := Lib.hid ((hf.more HB1.out).more HS.out.2)
      obtain ⟨Av, cv, rfl⟩ := hf.sl
      have HLL : Hid ((catL Ls i).length + (Ls i).length ≤ 1000000) := Lib.hid (by
        have h1 := catL_len Ls 10000 HN.out i
        have h2 := HN.out i
        have h3 : i * 10000 ≤ 10 * 10000 := Nat.mul_le_mul_right _ hi
        omega)
      have hcv := HCV.out
      clear hv hf
      go_wp2_with (first | ((with_reducible refine append_facts (o := ⟨some 19, _, _, _, _, _⟩) (.tmp 14) (.tmp 18) W1.heap.size (catL Ls i) (Ls i) _ _ HS.out.1 HFV.out HLL.out HS.out.2.size ?_ ?_ ?_ ?_ ?_); rfl; rfl; rfl; rfl; intro v4 W4 hown4 hbl4; have H4 : Hid (OwnF W4 W1.heap.size v4 (catL Ls (i + 1)) ∧ Below W1.heap.size W1 W4) := Lib.hid ⟨hown4, HS.out.2.trans hbl4⟩; clear hown4 hbl4))
      go_roundw
      case rel => exact ⟨i + 1, by go_num, by omega, H4⟩
      case measure => simp [RowKit.intOf]; omega
    · obtain rfl : i = 10 := by omega
      have hid : decide (((10 : Nat) : Int) < 10) = false := by simp
      go_wp2_with fail
      go_ret
      exact ⟨_, rfl, OwnF.lower HS.out.1 HS1.out.1, HB1.out.trans (HS.out.2.mono HS1.out.1)⟩
end Go.Proofs.Ytgjajhopjcdflaa
