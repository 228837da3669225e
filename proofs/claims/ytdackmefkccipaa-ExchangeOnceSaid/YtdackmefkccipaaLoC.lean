/- royaltylaw16.ExchangeOnce returns true. -/
import Derived.Test.YtdackmefkccipaaLoB
namespace Go.Proofs.Ytdackmefkccipaa
open Go Go.RowKit Go.Lib Go.Shelf

theorem SharesAt.slice {w : World} {v : Value} {l : List (Int × Int)} (h : SharesAt w v l) : ∃ A c, v = .slice A l.length c := by
  rcases h with ⟨rfl, A, c, rfl⟩ | ⟨b, o, c, rfl, _⟩
  · exact ⟨A, c, rfl⟩
  · exact ⟨_, c, rfl⟩
theorem own_none (w : World) : OwnF (w.alloc (.cells #[] 41)) w.heap.size (.slice (some ⟨w.heap.size, 0, none⟩) 0 0) [] :=
  ⟨by simp [fCells], .inr ⟨w.heap.size, 0, #[], rfl, Nat.le_refl _, heap_alloc_last w _, Nat.le_refl _, by unfold maxLen; omega, rfl, rfl⟩⟩
theorem wp_build_none {o : Oper} {a : Act} {w : World} {K : Act → World → Prop} {Q : Exit → Act → World → Prop} (N : Nat) (hN : w.heap.size = N) (ho : o.op = .buildSlice 23 0 #[])
    (h : K (a.put o.dst (.slice (some ⟨N, 0, none⟩) 0 0)) (w.alloc (.cells #[] 41))) : o.wp Try.prog a w K Q := by
  subst hN
  obtain ⟨i0, hi, hz0, hz1, hz2⟩ := info_parts fact_info
  have hr : (Instr.buildSlice 23 0 #[]).run Try.prog w = .ok (.slice (some ⟨w.heap.size, 0, none⟩) 0 0) (w.alloc (.cells #[] 41)) := by
    simp [Instr.buildSlice, run_underlying Try.underlying23, sizeOf, typeInfo, hi, newRow, Instr.fill]
    rw [show Array.map (fun _ => (default : Value)) (Array.range 0) = #[] from Array.size_eq_zero_iff.1 (by simp)]
  unfold Oper.wp execOp
  simp only [ho, List.map_toArray, List.map_nil, Sem.run_bind, hr, Result.andThen_ok]
  exact h
theorem FactsAt.slice {w : World} {v : Value} {l : List FactV} (h : FactsAt w v l) : ∃ A c, v = .slice A l.length c := by
  rcases h with ⟨rfl, A, c, rfl⟩ | ⟨b, o, c, rfl, _⟩
  · exact ⟨A, c, rfl⟩
  · exact ⟨_, c, rfl⟩

set_option maxRecDepth 100000 in
set_option maxHeartbeats 8000000 in
theorem once_yes (X : Nat → Nat → Int) (m : Nat) (v : Value) (w : World) (hm : m ≤ 140737488351232) (hx : XsAt w v m X) :
    Calls Try.prog 6 #[v] w fun e w' => e = .returned (.bool true) ∧ Below w.heap.size w w' := by
  have HX := Lib.hid hx
  have HM := Lib.hid hm
  clear hx hm
  go_enter Try.func6, Try.ntmps6
  go_wp2_with fail
  refine (sane_yes _).mono ?_
  rintro e w1 ⟨rfl, hb1⟩
  have B1 := Lib.hid hb1
  have HX1 := Lib.hid (HX.out.below hb1)
  clear hb1
  go_wp2_with fail
  refine (make_some X m v w1 HM.out HX1.out).mono ?_
  rintro e w2 ⟨a, b, cc, rfl, hmb, hb⟩
  obtain ⟨R5, R6, R7, hl⟩ := hmb.lists
  have B2 := Lib.hid (B1.out.trans (hb.mono B1.out.size))
  have HL := Lib.hid hl
  clear hmb hb hl
  go_wp2_with (first | ((with_reducible refine store_base (o := ⟨none, .store _ _ _, _, _, _, _⟩) (.tmp 4) (.tmp 17) (bv a b cc) _ ?_ ?_ ?_ ?_ ?_ HL.out.ones ?_); rfl; rfl; rfl; rfl; rfl))
  obtain ⟨W, hW⟩ : ∃ W, w2.alloc (.cells (bv a b cc).cells 26) = W := ⟨_, rfl⟩
  have k0 : W.heap[w2.heap.size]? = some (.cells (bv a b cc).cells 26 (0, 0)) := by rw [← hW]; exact heap_alloc_last w2 _
  have hl : Lists W a b cc R5 R6 R7 := by rw [← hW]; exact HL.out.below ((Below.refl _ _).alloc (Nat.le_refl _) _)
  have B3 : Hid (Below w.heap.size w W) := Lib.hid (by rw [← hW]; exact B2.out.alloc B2.out.size _)
  rw [hW]
  clear hW B2 HL HX HX1 HM B1
  have hkey : ∀ Wc, Below W.heap.size W Wc → Wc.heap[w2.heap.size]? = some (.cells (bv a b cc).cells 26 (0, 0)) ∧ Lists Wc a b cc R5 R6 R7 := fun Wc h => ⟨(h.block _ (Array.getElem?_eq_some_iff.1 k0).1).trans k0, hl.below h⟩
  have HKEY := Lib.hid hkey
  have HLS := Lib.hid hl
  have HGB := Lib.hid (got_bd hl)
  have HRB := Lib.hid (rev_bd hl)
  have HLAW := Lib.hid (once_law hl)
  have CV := Lib.hid (fun (f : FactV) Wc (h : Below W.heap.size W Wc) (hf : Made f) => convert_any (bv a b cc) (f.n 13) (f.n 15) (f.n 3) R7 Wc (by have := hl.len; omega) (hkey Wc h).2.f7 hl.ok7 (hf.ok 13).2)
  have RV := Lib.hid (fun (t p : Nat) Wc (h : Below W.heap.size W Wc) => revenue_any (bv a b cc) t p R5 R7 Wc (by have := hl.len; omega) (by have := hl.len; omega) (hkey Wc h).2.f5 (hkey Wc h).2.f7 hl.ok7 hl.ok5)
  have SB := Lib.hid (fun (t p : Nat) Wc (h : Below W.heap.size W Wc) => subs_any (bv a b cc) t p R6 R7 Wc (by have := hl.len; omega) (by have := hl.len; omega) (hkey Wc h).2.f6 (hkey Wc h).2.f7 hl.ok7 hl.ok6)
  have hR6 : R6.length ≤ 40 := by have := hl.len; omega
  have HR6 := Lib.hid hR6
  clear hkey hl k0 hR6
  go_loopw [5, 6] (fun sv tv wr => ∃ t : Nat, t ≤ 3 ∧ sv = .int .i64 (gridTo (got R5 R6 R7) t) ∧ tv = .int .i64 t ∧ Hid (Below W.heap.size W wr)) (fun _ i _ => 3 - (intOf i).toNat)
  case atStart => exact ⟨0, by omega, rfl, rfl, Lib.hid (Below.refl _ _)⟩
  case round =>
    obtain ⟨t, ht, rfl, rfl, HBt⟩ := hrel
    obtain ⟨G, hG⟩ : ∃ G, gridTo (got R5 R6 R7) t = G := ⟨_, rfl⟩
    have hgb := grid_bd HGB.out t
    rw [hG] at hgb ⊢
    have HG := Lib.hid hG
    clear hG
    obtain ⟨wt, hwt⟩ : ∃ x, wr = x := ⟨_, rfl⟩
    subst hwt
    by_cases ht3 : t < 3
    · have hd3 : decide ((t : Int) < 3) = true := by simp; omega
      go_wp2_with fail
      go_loopw [5, 7] (fun sv pv wr2 => ∃ p : Nat, p ≤ 3 ∧ sv = .int .i64 (G + rowTo (got R5 R6 R7) t p) ∧ pv = .int .i64 p ∧ Hid (Below W.heap.size W wr2)) (fun _ i _ => 3 - (intOf i).toNat)
      case atStart => exact ⟨0, by omega, by simp [rowTo], rfl, HBt⟩
      case round =>
        obtain ⟨p, hp, rfl, rfl, HBp⟩ := hrel
        have hrb := row_bd HGB.out t p
        obtain ⟨S, hS⟩ : ∃ S, G + rowTo (got R5 R6 R7) t p = S := ⟨_, rfl⟩
        have hsb : 0 ≤ S ∧ S ≤ 24000000000000000 := by rw [← hS]; omega
        rw [hS]
        have HS := Lib.hid hS
        clear hS hrb
        by_cases hp3 : p < 3
        · have hdp : decide ((p : Int) < 3) = true := by simp; omega
          have K1 := Lib.hid (HKEY.out _ HBp.out).1
          go_wp2_with (first | ((with_reducible refine load_base (o := ⟨some 27, _, _, _, _, _⟩) (.tmp 4) w2.heap.size (bv a b cc) K1.out ?_ ?_ ?_ ?_); rfl; rfl; rfl))
          refine (RV.out t p _ HBp.out).mono ?_
          rintro e w4 ⟨rfl, hb⟩
          have B4 := Lib.hid (HBp.out.trans (hb.mono HBp.out.size))
          have K4 := Lib.hid (HKEY.out w4 B4.out).1
          have rvb := HRB.out t p
          obtain ⟨V, hV⟩ : ∃ V, revSpec R5 R7 t p = V := ⟨_, rfl⟩
          rw [hV] at rvb ⊢
          have HV := Lib.hid hV
          clear hb hV
          go_wp2_with (first | ((with_reducible refine load_base (o := ⟨some 32, _, _, _, _, _⟩) (.tmp 4) w2.heap.size (bv a b cc) K4.out ?_ ?_ ?_ ?_); rfl; rfl; rfl))
          refine (SB.out t p w4 B4.out).mono ?_
          rintro e w5 ⟨l5, rfl, hown, hb⟩
          have B5 := Lib.hid (B4.out.trans (hb.mono B4.out.size))
          have hsh := SharesAt.of_own hown
          obtain ⟨l, hl⟩ : ∃ l, subSpec R6 R7 t p = l := ⟨_, rfl⟩
          rw [hl] at hsh
          have hn : l.length ≤ 40 := by rw [← hl]; exact Nat.le_trans (sub_len _ _ _ _) HR6.out
          have HE : Hid (∀ z ∈ l, 0 ≤ z.2 ∧ z.2 ≤ 1000000000000000) := Lib.hid (by rw [← hl]; exact sub_each)
          obtain ⟨A5, c5, rfl⟩ := hsh.slice
          have HLL := Lib.hid hl
          have HSH := Lib.hid hsh
          clear hb hown hl hsh
          obtain ⟨nl, hnl⟩ : ∃ n, l.length = n := ⟨_, rfl⟩
          rw [hnl] at hn ⊢
          have HNL := Lib.hid hnl
          clear hnl
          go_wp2_with fail
          go_loopw [5, 9] (fun sv iv wr3 => ∃ k : Nat, k ≤ nl ∧ sv = .int .i64 (S + V + amounts (l.take k)) ∧ iv = .int .i64 k ∧ Hid (wr3 = w5)) (fun _ i _ => nl - (intOf i).toNat)
          case atStart => exact ⟨0, by omega, by simp [amounts], rfl, Lib.hid rfl⟩
          case round =>
            obtain ⟨k, hk, rfl, rfl, HWW⟩ := hrel
            have hww := HWW.out
            subst hww
            clear HWW
            have ab := amounts_bd (l.take k) (fun z hz => HE.out z (List.mem_of_mem_take hz))
            have hlt : (l.take k).length ≤ 40 := by rw [List.length_take]; omega
            by_cases hk2 : k < nl
            · obtain ⟨⟨x, y⟩, hz⟩ : ∃ z, l[k]? = some z := ⟨_, List.getElem?_eq_getElem (by rw [HNL.out]; exact hk2)⟩
              have yb := HE.out (x, y) (List.mem_of_getElem? hz)
              obtain ⟨b5, o5, hA, hcl⟩ : ∃ b o, A5 = some ⟨b, o, none⟩ ∧ wr.cell? ⟨b, o + k * 2 + 1, none⟩ = some (.int .i64 y) := by
                rcases HSH.out with ⟨rfl, _⟩ | ⟨b, o, c, he, _, hc⟩
                · simp at hz
                · simp only [Value.slice.injEq] at he
                  exact ⟨b, o, he.1, (hc k x y hz).2⟩
              subst hA
              have HST := Lib.hid (amounts_take hz)
              obtain ⟨T, hT⟩ : ∃ T, S + V + amounts (l.take k) = T := ⟨_, rfl⟩
              have hTb : 0 ≤ T ∧ T ≤ 1000000000000000000 := by rw [← hT]; omega
              dsimp only at yb
              rw [hT]
              have HT := Lib.hid hT
              clear hT hz ab hlt
              go_wp2_with fail
              go_roundw
              case rel => exact ⟨k + 1, by omega, by rw [HST.out, ← HT.out]; congr 1; omega, by go_num, Lib.hid (by first | trivial | rfl)⟩
              case measure => simp [intOf]; omega
            · obtain rfl : k = nl := by omega
              have hfin : S + V + amounts (l.take k) = G + rowTo (got R5 R6 R7) t (p + 1) := by
                rw [← HNL.out, List.take_length, ← HS.out, ← HV.out, ← HLL.out]
                simp only [rowTo, got]
                omega
              have HFIN := Lib.hid hfin
              clear hfin ab hlt
              go_wp2_with fail
              go_roundw
              case rel => exact ⟨p + 1, by omega, by rw [HFIN.out], by go_num, B5⟩
              case measure => simp [intOf]; omega
        · obtain rfl : p = 3 := by omega
          go_wp2_with fail
          go_roundw
          case rel => exact ⟨t + 1, by omega, by rw [← HS.out, ← HG.out]; rfl, by go_num, HBp⟩
          case measure => simp [intOf]; omega
    · have ht4 : t = 3 := by omega
      have hG3 : G = allSum R7 (R5 ++ R6) := by rw [← HG.out, ht4]; exact HLAW.out
      clear ht4
      have HG3 := Lib.hid hG3
      clear hG3
      have hd3 : decide ((t : Int) < 3) = false := by simp; omega
      have HKb := Lib.hid (HKEY.out _ HBt.out)
      have C45 : Hid (∀ W', Below wr.heap.size wr W' → W'.cell? ⟨w2.heap.size, 4, none⟩ = some a ∧ W'.cell? ⟨w2.heap.size, 5, none⟩ = some b) := Lib.hid fun W' h => by
        have hr : W'.heap[w2.heap.size]? = some (.cells (bv a b cc).cells 26 (0, 0)) := (h.block _ (Array.getElem?_eq_some_iff.1 HKb.out.1).1).trans HKb.out.1
        exact ⟨cell_of_row _ _ 4 _ _ _ hr, cell_of_row _ _ 5 _ _ _ hr⟩
      have hlen := HLS.out.len
      go_wp2_with fail
      refine wp_region_held_drew (S := fun W' => Below wr.heap.size wr W') (by kernel_rfl) (Below.refl _ _).drew (fun hHeld => ?_)
      refine wpAnyH_take (i := 1) (oi := ⟨_, _, _, _, _, _⟩) (v := ?_) rfl (by kernel_rfl) (by kernel_rfl) (by kernel_rfl) (fun _ _ _ h => h) (Or.inl ⟨by rfl, ?_⟩) (by assumption) ?_
      rotate_left
      · intro w hSw
        go_simp
        all_goals with_reducible rfl
      simp only [Act.put, List.setIfInBounds_toArray, List.set_cons_zero, List.set_cons_succ]
      refine wpAnyH_take (i := 2) (oi := ⟨_, _, _, _, _, _⟩) (v := ?_) rfl (by kernel_rfl) (by kernel_rfl) (by kernel_rfl) (fun _ _ _ h => h) (Or.inl ⟨by rfl, ?_⟩) (by assumption) ?_
      rotate_left
      · intro w hSw
        obtain ⟨hc4, hc5⟩ := C45.out w hSw
        go_simp
        all_goals with_reducible rfl
      simp only [Act.put, List.setIfInBounds_toArray, List.set_cons_zero, List.set_cons_succ]
      refine wpAnyH_take (i := 4) (oi := ⟨_, _, _, _, _, _⟩) (v := ?_) rfl (by kernel_rfl) (by kernel_rfl) (by kernel_rfl) (fun _ _ _ h => h) (Or.inl ⟨by rfl, ?_⟩) (by assumption) ?_
      rotate_left
      · intro w hSw
        go_simp
        all_goals with_reducible rfl
      simp only [Act.put, List.setIfInBounds_toArray, List.set_cons_zero, List.set_cons_succ]
      refine wpAnyH_take (i := 5) (oi := ⟨_, _, _, _, _, _⟩) (v := ?_) rfl (by kernel_rfl) (by kernel_rfl) (by kernel_rfl) (fun _ _ _ h => h) (Or.inl ⟨by rfl, ?_⟩) (by assumption) ?_
      rotate_left
      · intro w hSw
        obtain ⟨hc4, hc5⟩ := C45.out w hSw
        go_simp
        all_goals with_reducible rfl
      simp only [Act.put, List.setIfInBounds_toArray, List.set_cons_zero, List.set_cons_succ]
      refine wpAnyH_ready (rs := [0]) (by kernel_rfl) (by simp) ?_
      refine AllReadyH.cons (o := ⟨_, _, _, _, _, _⟩) rfl (fun K hK => ?_) AllReadyH.nil
      rw [if_pos (by rfl)]
      refine wp_build_none wr.heap.size rfl rfl ?_
      refine hK.out _ _ ((Below.refl wr.heap.size wr).drew.alloc (Nat.le_refl _) _) (fun hHeld => ?_)
      clear hK K
      try simp only [Act.put, List.setIfInBounds_toArray, List.set_cons_zero, List.set_cons_succ]
      refine wpAnyH_ready (rs := [3]) (by kernel_rfl) (by simp) ?_
      refine AllReadyH.cons (o := ⟨_, _, _, _, _, _⟩) rfl (fun K hK => ?_) AllReadyH.nil
      rw [if_pos (by rfl)]
      refine wp_append_facts (.tmp 49) (.tmp 51) wr.heap.size [] R5 _ a (own_none wr.drew) (HKb.out.2.below ((Below.refl wr.heap.size wr).drew.alloc (Nat.le_refl _) _)).f5 (by simp; omega) (by simp) rfl rfl rfl (fun v5 w5 hown5 hbl5 => ?_)
      have hS5 : Below wr.heap.size wr w5 := ((Below.refl wr.heap.size wr).drew.alloc (Nat.le_refl _) (.cells #[] 41)).trans hbl5
      refine hK.out _ _ hS5 (fun hHeld => ?_)
      clear hK K
      try simp only [Act.put, List.setIfInBounds_toArray, List.set_cons_zero, List.set_cons_succ]
      refine wpAnyH_ready (rs := [6]) (by kernel_rfl) (by simp) ?_
      refine AllReadyH.cons (o := ⟨_, _, _, _, _, _⟩) rfl (fun K hK => ?_) AllReadyH.nil
      rw [if_pos (by rfl)]
      refine wp_append_facts (.tmp 52) (.tmp 54) wr.heap.size ([] ++ R5) R6 _ b hown5 (HKb.out.2.below hS5).f6 (by simp; omega) hS5.size rfl rfl rfl (fun v6 w6 hown6 hbl6 => ?_)
      have hS6 : Below wr.heap.size wr w6 := hS5.trans hbl6
      refine hK.out _ _ hS6 (fun hHeld => ?_)
      clear hK K
      try simp only [Act.put, List.setIfInBounds_toArray, List.set_cons_zero, List.set_cons_succ]
      refine wpAnyH_take (i := 7) (oi := ⟨_, _, _, _, _, _⟩) (v := ?_) rfl (by kernel_rfl) (by kernel_rfl) (by kernel_rfl) (fun _ _ _ h => h) (Or.inl ⟨by rfl, ?_⟩) (by assumption) ?_
      rotate_left
      · intro w hSw
        go_simp
        all_goals with_reducible rfl
      simp only [Act.put, List.setIfInBounds_toArray, List.set_cons_zero, List.set_cons_succ]
      refine wpAnyH_done (by kernel_rfl) ?_ _
      have HB6 := Lib.hid (HBt.out.trans (hS6.mono HBt.out.size))
      obtain ⟨L, hL⟩ : ∃ L, [] ++ R5 ++ R6 = L := ⟨_, rfl⟩
      have hLn : L.length ≤ 40 := by rw [← hL]; simp; omega
      have hLm : ∀ f ∈ L, Made f := by
        intro f hf
        rw [← hL] at hf
        rcases List.mem_append.1 hf with h | h
        · exact (HLS.out.m5 f (by simpa using h)).1
        · exact (HLS.out.m6 f h).1
      have hLs : allSum R7 L = G := by rw [← hL, HG3.out]; rfl
      rw [hL] at hown6
      have hfa := hown6.facts
      obtain ⟨AL, cL, rfl⟩ := hfa.slice
      obtain ⟨nl, hnl⟩ : ∃ n, L.length = n := ⟨_, rfl⟩
      have HFA := Lib.hid hfa
      have HLM := Lib.hid hLm
      have HLSM := Lib.hid hLs
      have HNL := Lib.hid hnl
      rw [hnl] at hLn ⊢
      clear hHeld hS6 hS5 hown5 hown6 hL hLm hLs hfa hnl HKb C45 hlen
      go_wp2_with fail
      go_loopw [10, 12] (fun sv iv wr2 => ∃ k : Nat, k ≤ nl ∧ sv = .int .i64 (allSum R7 (L.take k)) ∧ iv = .int .i64 k ∧ Hid (Below w6.heap.size w6 wr2)) (fun _ i _ => nl - (intOf i).toNat)
      case atStart => exact ⟨0, by omega, by simp [allSum], rfl, Lib.hid (Below.refl _ _)⟩
      case round =>
        obtain ⟨k, hk, rfl, rfl, HB7⟩ := hrel
        have ab := all_bd HLS.out.m7 (L.take k) (fun f hf => HLM.out f (List.mem_of_mem_take hf))
        have hlt : (L.take k).length ≤ 40 := by rw [List.length_take]; omega
        by_cases hk2 : k < nl
        · obtain ⟨f, hf⟩ : ∃ f, L[k]? = some f := ⟨_, List.getElem?_eq_getElem (by rw [HNL.out]; exact hk2)⟩
          have hfm := HLM.out f (List.mem_of_getElem? hf)
          have HST := Lib.hid (allSum_take (rates := R7) hf)
          obtain ⟨b5, o5, hA, hb5, hcl⟩ : ∃ b o, AL = some ⟨b, o, none⟩ ∧ b < w6.heap.size ∧ ∀ j x, f.cells[j]? = some x → w6.cell? ⟨b, o + k * 18 + j, none⟩ = some x := by
            rcases HFA.out with ⟨rfl, _⟩ | ⟨b, o, c, he, hb, hc⟩
            · simp at hf
            · simp only [Value.slice.injEq] at he
              exact ⟨b, o, he.1, hb, fun j x hx => hc k f hf j x hx⟩
          subst hA
          have hs7 : w6.heap.size ≤ wr.heap.size := HB7.out.size
          have HCL : Hid (∀ W', Below wr.heap.size wr W' → W'.cell? ⟨b5, o5 + k * 18 + 13, none⟩ = some (.int .i64 (f.n 13)) ∧ W'.cell? ⟨b5, o5 + k * 18 + 15, none⟩ = some (.int .i64 (f.n 15)) ∧ W'.cell? ⟨b5, o5 + k * 18 + 3, none⟩ = some (.int .i64 (f.n 3))) := Lib.hid fun W' h => by
            have hb : Below w6.heap.size w6 W' := HB7.out.trans (h.mono hs7)
            exact ⟨(hb.cell (p := ⟨b5, o5 + k * 18 + 13, none⟩) hb5).trans (hcl 13 _ rfl), (hb.cell (p := ⟨b5, o5 + k * 18 + 15, none⟩) hb5).trans (hcl 15 _ rfl), (hb.cell (p := ⟨b5, o5 + k * 18 + 3, none⟩) hb5).trans (hcl 3 _ rfl)⟩
          have hbW : Below W.heap.size W wr := HB6.out.trans (HB7.out.mono HB6.out.size)
          have KB := (HKEY.out wr hbW).1
          have HRW : Hid (∀ W', Below wr.heap.size wr W' → ∀ j v, (bv a b cc).cells[j]? = some v → W'.cell? ⟨w2.heap.size, 0 + j, none⟩ = some v) := Lib.hid fun W' h => row_cells ((h.block _ (Array.getElem?_eq_some_iff.1 KB).1).trans KB)
          have C := CV.out f wr.drew hbW.drew hfm
          obtain ⟨⟨z1, z2⟩, hz⟩ : ∃ z, convSpec R7 (f.n 13) (f.n 15) (f.n 3) = z := ⟨_, rfl⟩
          have hzb := cv_bd R7 f
          have hzc : cv R7 f = z1 := by unfold cv; rw [hz]
          rw [hz] at C
          rw [hzc] at hzb
          have HC := Lib.hid C
          have HZC := Lib.hid hzc
          have HBW := Lib.hid hbW
          obtain ⟨T, hT⟩ : ∃ T, allSum R7 (L.take k) = T := ⟨_, rfl⟩
          rw [hT] at ab ⊢
          have HT := Lib.hid hT
          clear hT hf hfm hcl C hz hzc KB hbW
          go_wp2_with fail
          refine wp_region_held_drew (S := fun W' => Below wr.heap.size wr W') (by kernel_rfl) (Below.refl _ _).drew (fun hHeld => ?_)
          refine wpAnyH_take (i := 0) (oi := ⟨_, _, _, _, _, _⟩) rfl (by kernel_rfl) (by kernel_rfl) (by kernel_rfl) (fun _ _ _ h => h) (yieldsIf_load_at 26 (.tmp 4) w2.heap.size 0 (bv a b cc).cells _ HRW.out rfl (by rfl) rfl rfl rfl rfl) (by assumption) ?_
          simp only [Act.put, List.setIfInBounds_toArray, List.set_cons_zero, List.set_cons_succ]
          refine wpAnyH_take (i := 1) (oi := ⟨_, _, _, _, _, _⟩) (v := ?_) rfl (by kernel_rfl) (by kernel_rfl) (by kernel_rfl) (fun _ _ _ h => h) (Or.inl ⟨by rfl, ?_⟩) (by assumption) ?_
          rotate_left
          · intro w hSw
            go_simp
            all_goals with_reducible rfl
          simp only [Act.put, List.setIfInBounds_toArray, List.set_cons_zero, List.set_cons_succ]
          refine wpAnyH_take (i := 2) (oi := ⟨_, _, _, _, _, _⟩) (v := ?_) rfl (by kernel_rfl) (by kernel_rfl) (by kernel_rfl) (fun _ _ _ h => h) (Or.inl ⟨by rfl, ?_⟩) (by assumption) ?_
          rotate_left
          · intro w hSw
            go_simp
            all_goals with_reducible rfl
          simp only [Act.put, List.setIfInBounds_toArray, List.set_cons_zero, List.set_cons_succ]
          refine wpAnyH_take (i := 3) (oi := ⟨_, _, _, _, _, _⟩) (v := ?_) rfl (by kernel_rfl) (by kernel_rfl) (by kernel_rfl) (fun _ _ _ h => h) (Or.inl ⟨by rfl, ?_⟩) (by assumption) ?_
          rotate_left
          · intro w hSw
            go_simp
            all_goals with_reducible rfl
          simp only [Act.put, List.setIfInBounds_toArray, List.set_cons_zero, List.set_cons_succ]
          refine wpAnyH_take (i := 4) (oi := ⟨_, _, _, _, _, _⟩) (v := ?_) rfl (by kernel_rfl) (by kernel_rfl) (by kernel_rfl) (fun _ _ _ h => h) (Or.inl ⟨by rfl, ?_⟩) (by assumption) ?_
          rotate_left
          · intro w hSw
            go_simp
            all_goals with_reducible rfl
          simp only [Act.put, List.setIfInBounds_toArray, List.set_cons_zero, List.set_cons_succ]
          refine wpAnyH_take (i := 5) (oi := ⟨_, _, _, _, _, _⟩) (v := ?_) rfl (by kernel_rfl) (by kernel_rfl) (by kernel_rfl) (fun _ _ _ h => h) (Or.inl ⟨by rfl, ?_⟩) (by assumption) ?_
          rotate_left
          · intro w hSw
            obtain ⟨hc13, hc15, hc3⟩ := HCL.out w hSw
            go_simp
            all_goals with_reducible rfl
          simp only [Act.put, List.setIfInBounds_toArray, List.set_cons_zero, List.set_cons_succ]
          refine wpAnyH_take (i := 6) (oi := ⟨_, _, _, _, _, _⟩) (v := ?_) rfl (by kernel_rfl) (by kernel_rfl) (by kernel_rfl) (fun _ _ _ h => h) (Or.inl ⟨by rfl, ?_⟩) (by assumption) ?_
          rotate_left
          · intro w hSw
            go_simp
            all_goals with_reducible rfl
          simp only [Act.put, List.setIfInBounds_toArray, List.set_cons_zero, List.set_cons_succ]
          refine wpAnyH_take (i := 7) (oi := ⟨_, _, _, _, _, _⟩) (v := ?_) rfl (by kernel_rfl) (by kernel_rfl) (by kernel_rfl) (fun _ _ _ h => h) (Or.inl ⟨by rfl, ?_⟩) (by assumption) ?_
          rotate_left
          · intro w hSw
            go_simp
            all_goals with_reducible rfl
          simp only [Act.put, List.setIfInBounds_toArray, List.set_cons_zero, List.set_cons_succ]
          refine wpAnyH_take (i := 8) (oi := ⟨_, _, _, _, _, _⟩) (v := ?_) rfl (by kernel_rfl) (by kernel_rfl) (by kernel_rfl) (fun _ _ _ h => h) (Or.inl ⟨by rfl, ?_⟩) (by assumption) ?_
          rotate_left
          · intro w hSw
            go_simp
            all_goals with_reducible rfl
          simp only [Act.put, List.setIfInBounds_toArray, List.set_cons_zero, List.set_cons_succ]
          refine wpAnyH_take (i := 9) (oi := ⟨_, _, _, _, _, _⟩) (v := ?_) rfl (by kernel_rfl) (by kernel_rfl) (by kernel_rfl) (fun _ _ _ h => h) (Or.inl ⟨by rfl, ?_⟩) (by assumption) ?_
          rotate_left
          · intro w hSw
            go_simp
            all_goals with_reducible rfl
          simp only [Act.put, List.setIfInBounds_toArray, List.set_cons_zero, List.set_cons_succ]
          refine wpAnyH_take (i := 10) (oi := ⟨_, _, _, _, _, _⟩) (v := ?_) rfl (by kernel_rfl) (by kernel_rfl) (by kernel_rfl) (fun _ _ _ h => h) (Or.inl ⟨by rfl, ?_⟩) (by assumption) ?_
          rotate_left
          · intro w hSw
            obtain ⟨hc13, hc15, hc3⟩ := HCL.out w hSw
            go_simp
            all_goals with_reducible rfl
          simp only [Act.put, List.setIfInBounds_toArray, List.set_cons_zero, List.set_cons_succ]
          refine wpAnyH_take (i := 11) (oi := ⟨_, _, _, _, _, _⟩) (v := ?_) rfl (by kernel_rfl) (by kernel_rfl) (by kernel_rfl) (fun _ _ _ h => h) (Or.inl ⟨by rfl, ?_⟩) (by assumption) ?_
          rotate_left
          · intro w hSw
            go_simp
            all_goals with_reducible rfl
          simp only [Act.put, List.setIfInBounds_toArray, List.set_cons_zero, List.set_cons_succ]
          refine wpAnyH_take (i := 12) (oi := ⟨_, _, _, _, _, _⟩) (v := ?_) rfl (by kernel_rfl) (by kernel_rfl) (by kernel_rfl) (fun _ _ _ h => h) (Or.inl ⟨by rfl, ?_⟩) (by assumption) ?_
          rotate_left
          · intro w hSw
            go_simp
            all_goals with_reducible rfl
          simp only [Act.put, List.setIfInBounds_toArray, List.set_cons_zero, List.set_cons_succ]
          refine wpAnyH_take (i := 13) (oi := ⟨_, _, _, _, _, _⟩) (v := ?_) rfl (by kernel_rfl) (by kernel_rfl) (by kernel_rfl) (fun _ _ _ h => h) (Or.inl ⟨by rfl, ?_⟩) (by assumption) ?_
          rotate_left
          · intro w hSw
            go_simp
            all_goals with_reducible rfl
          simp only [Act.put, List.setIfInBounds_toArray, List.set_cons_zero, List.set_cons_succ]
          refine wpAnyH_take (i := 14) (oi := ⟨_, _, _, _, _, _⟩) (v := ?_) rfl (by kernel_rfl) (by kernel_rfl) (by kernel_rfl) (fun _ _ _ h => h) (Or.inl ⟨by rfl, ?_⟩) (by assumption) ?_
          rotate_left
          · intro w hSw
            go_simp
            all_goals with_reducible rfl
          simp only [Act.put, List.setIfInBounds_toArray, List.set_cons_zero, List.set_cons_succ]
          refine wpAnyH_take (i := 15) (oi := ⟨_, _, _, _, _, _⟩) (v := ?_) rfl (by kernel_rfl) (by kernel_rfl) (by kernel_rfl) (fun _ _ _ h => h) (Or.inl ⟨by rfl, ?_⟩) (by assumption) ?_
          rotate_left
          · intro w hSw
            obtain ⟨hc13, hc15, hc3⟩ := HCL.out w hSw
            go_simp
            all_goals with_reducible rfl
          simp only [Act.put, List.setIfInBounds_toArray, List.set_cons_zero, List.set_cons_succ]
          refine wpAnyH_ready (rs := [16]) (by kernel_rfl) (by simp) ?_
          refine AllReadyH.cons (o := ⟨_, _, _, _, _, _⟩) rfl (fun K hK => ?_) AllReadyH.nil
          go_simp
          go_at_call 10
          refine (HC.out).mono ?_
          rintro e w7 ⟨rfl, hb⟩
          have hS7 : Below wr.heap.size wr w7 := (Below.refl wr.heap.size wr).drew.trans hb
          clear hb
          go_wp2_with fail
          refine hK.out _ _ hS7 (fun hHeld => ?_)
          clear hK K
          try simp only [Act.put, List.setIfInBounds_toArray, List.set_cons_zero, List.set_cons_succ]
          refine wpAnyH_take (i := 17) (oi := ⟨_, _, _, _, _, _⟩) (v := ?_) rfl (by kernel_rfl) (by kernel_rfl) (by kernel_rfl) (fun _ _ _ h => h) (Or.inl ⟨by rfl, ?_⟩) (by assumption) ?_
          rotate_left
          · intro w hSw
            go_simp
            all_goals with_reducible rfl
          simp only [Act.put, List.setIfInBounds_toArray, List.set_cons_zero, List.set_cons_succ]
          refine wpAnyH_take (i := 18) (oi := ⟨_, _, _, _, _, _⟩) (v := ?_) rfl (by kernel_rfl) (by kernel_rfl) (by kernel_rfl) (fun _ _ _ h => h) (Or.inl ⟨by rfl, ?_⟩) (by assumption) ?_
          rotate_left
          · intro w hSw
            go_simp
            all_goals with_reducible rfl
          simp only [Act.put, List.setIfInBounds_toArray, List.set_cons_zero, List.set_cons_succ]
          refine wpAnyH_take (i := 19) (oi := ⟨_, _, _, _, _, _⟩) (v := ?_) rfl (by kernel_rfl) (by kernel_rfl) (by kernel_rfl) (fun _ _ _ h => h) (Or.inl ⟨by rfl, ?_⟩) (by assumption) ?_
          rotate_left
          · intro w hSw
            go_simp
            all_goals with_reducible rfl
          simp only [Act.put, List.setIfInBounds_toArray, List.set_cons_zero, List.set_cons_succ]
          refine wpAnyH_take (i := 20) (oi := ⟨_, _, _, _, _, _⟩) (v := ?_) rfl (by kernel_rfl) (by kernel_rfl) (by kernel_rfl) (fun _ _ _ h => h) (Or.inl ⟨by rfl, ?_⟩) (by assumption) ?_
          rotate_left
          · intro w hSw
            go_simp
            all_goals with_reducible rfl
          simp only [Act.put, List.setIfInBounds_toArray, List.set_cons_zero, List.set_cons_succ]
          refine wpAnyH_take (i := 21) (oi := ⟨_, _, _, _, _, _⟩) (v := ?_) rfl (by kernel_rfl) (by kernel_rfl) (by kernel_rfl) (fun _ _ _ h => h) (Or.inl ⟨by rfl, ?_⟩) (by assumption) ?_
          rotate_left
          · intro w hSw
            go_simp
            all_goals with_reducible rfl
          simp only [Act.put, List.setIfInBounds_toArray, List.set_cons_zero, List.set_cons_succ]
          refine wpAnyH_done (by kernel_rfl) ?_ _
          have HB8 := Lib.hid (HB7.out.trans (hS7.mono hs7))
          clear hHeld hS7
          go_wp2_with fail
          go_roundw
          case rel => exact ⟨k + 1, by omega, by rw [HST.out, HT.out, HZC.out], by go_num, HB8⟩
          case measure => simp [intOf]; omega
        · obtain rfl : k = nl := by omega
          have hfin : allSum R7 (L.take k) = G := by rw [← HNL.out, List.take_length]; exact HLSM.out
          rw [hfin]
          clear hfin ab hlt
          go_wp2_with fail
          go_ret
          exact ⟨rfl, B3.out.trans ((HB6.out.trans (HB7.out.mono HB6.out.size)).mono B3.out.size)⟩
end Go.Proofs.Ytdackmefkccipaa
