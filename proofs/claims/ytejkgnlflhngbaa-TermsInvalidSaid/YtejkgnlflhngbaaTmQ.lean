/- The reference's sums and ranges over a row. -/
import Derived.Test.YtejkgnlflhngbaaTmG
import Derived.Test.YtejkgnlflhngbaaExM
namespace Go.Proofs.Ytejkgnlflhngbaa
open Go Go.RowKit Go.Lib Go.Shelf Go.Maps

/-- a slice of integers in a block of its own, its start at 0 -/
def IntsAt (w : World) (b : Nat) (L : List Int) : Prop := ∀ (i : Nat) x, L[i]? = some x → w.cell? ⟨b, i, none⟩ = some (.int .i64 x)
theorem sources_any (R : RowV) (pa ta re ro pd ca : Int) (w : World) :
    Calls Try.prog 29 #[.agg (rowC R pa ta re ro pd ca)] w fun e w' => ∃ b, e = .returned (.slice (some ⟨b, 0, none⟩) 4 4) ∧ IntsAt w' b [R.e, R.rc, R.rl, R.b] ∧ Below w.heap.size w w' := by
  obtain ⟨h, p, e, rc, rl, b⟩ := R
  unfold rowC
  dsimp only
  have hcl : ∀ (W : World) (n : Nat), W.heap.size = n → IntsAt (W.alloc (.cells #[.int .i64 e, .int .i64 rc, .int .i64 rl, .int .i64 b] 3)) n [e, rc, rl, b] := by
    intro W n hn i x hx
    subst hn
    rw [new_cell]
    match i, hx with
    | 0, hx | 1, hx | 2, hx | 3, hx => simp at hx; subst hx; rfl
    | i + 4, hx => simp at hx
  have HCL := Lib.hid hcl
  clear hcl
  go_enter Try.func29, Try.ntmps29
  go_wp2_with fail
  go_ret
  exact ⟨_, rfl, HCL.out _ _ (by simp), ((Below.refl _ _).alloc (Nat.le_refl _) _).alloc (by simp) _⟩
theorem uses_any (R : RowV) (pa ta re ro pd ca : Int) (w : World) :
    Calls Try.prog 35 #[.agg (rowC R pa ta re ro pd ca)] w fun e w' => ∃ b, e = .returned (.slice (some ⟨b, 0, none⟩) 6 6) ∧ IntsAt w' b [pa, ta, re, ro, pd, ca] ∧ Below w.heap.size w w' := by
  obtain ⟨h, p, e, rc, rl, b⟩ := R
  unfold rowC
  dsimp only
  have hcl : ∀ (W : World) (n : Nat), W.heap.size = n → IntsAt (W.alloc (.cells #[.int .i64 pa, .int .i64 ta, .int .i64 re, .int .i64 ro, .int .i64 pd, .int .i64 ca] 3)) n [pa, ta, re, ro, pd, ca] := by
    intro W n hn i x hx
    subst hn
    rw [new_cell]
    match i, hx with
    | 0, hx | 1, hx | 2, hx | 3, hx | 4, hx | 5, hx => simp at hx; subst hx; rfl
    | i + 6, hx => simp at hx
  have HCL := Lib.hid hcl
  clear hcl
  go_enter Try.func35, Try.ntmps35
  go_wp2_with fail
  go_ret
  exact ⟨_, rfl, HCL.out _ _ (by simp), ((Below.refl _ _).alloc (Nat.le_refl _) _).alloc (by simp) _⟩
theorem within15_any (b c : Nat) (L : List Int) (w : World) (hn : L.length ≤ 1000000) (hc : IntsAt w b L) :
    Calls Try.prog 34 #[.slice (some ⟨b, 0, none⟩) L.length c] w fun e w' => e = .returned (.bool (L.all okN)) ∧ w = w' := by
  have HC := Lib.hid hc
  obtain ⟨n, hn'⟩ : ∃ n, L.length = n := ⟨_, rfl⟩
  rw [hn'] at hn ⊢
  have HN := Lib.hid hn'
  clear hc hn'
  go_enter Try.func34, Try.ntmps34
  go_wp2_with fail
  go_loopw [3] (fun iv wr => ∃ k : Nat, k ≤ n ∧ iv = .int .i64 k ∧ Hid ((∀ x ∈ L.take k, okN x = true) ∧ w = wr)) (fun i _ => n - (intOf i).toNat)
  case atStart => exact ⟨0, by omega, rfl, Lib.hid ⟨by simp, rfl⟩⟩
  case round =>
    obtain ⟨k, hk, rfl, HR⟩ := hrel
    obtain ⟨ha, rfl⟩ := HR.out
    clear HR
    by_cases hk2 : k < n
    · obtain ⟨x, hx⟩ : ∃ x, L[k]? = some x := ⟨_, List.getElem?_eq_getElem (by rw [HN.out]; exact hk2)⟩
      have cx := HC.out k x hx
      by_cases h1 : x < 0
      · have d1 : decide (x < 0) = true := by simpa using h1
        have HNO := Lib.hid (show L.all okN = false from by rw [List.all_eq_false]; exact ⟨x, List.mem_of_getElem? hx, by rw [okN_iff]; omega⟩)
        clear ha hx h1
        go_wp2_with fail
        go_ret
        exact ⟨by rw [HNO.out]; rfl, rfl⟩
      · have d1 : decide (x < 0) = false := by simpa using h1
        by_cases h2 : 1000000000000000000 < x
        · have d2 : decide (1000000000000000000 < x) = true := by simpa using h2
          have HNO := Lib.hid (show L.all okN = false from by rw [List.all_eq_false]; exact ⟨x, List.mem_of_getElem? hx, by rw [okN_iff]; omega⟩)
          clear ha hx h1 h2
          go_wp2_with fail
          go_ret
          exact ⟨by rw [HNO.out]; rfl, rfl⟩
        · have d2 : decide (1000000000000000000 < x) = false := by simpa using h2
          have HA := Lib.hid (show ∀ y ∈ L.take (k + 1), okN y = true from by
            rw [List.take_add_one, hx]
            intro y hy
            rcases List.mem_append.1 hy with h | h
            · exact ha y h
            · simp at h; rw [h, okN_iff]; omega)
          clear ha hx h1 h2
          go_wp2_with fail
          go_roundw
          case rel => exact ⟨k + 1, by omega, by go_num, Lib.hid ⟨HA.out, trivial⟩⟩
          case measure => simp [intOf]; omega
    · have hkn : k = n := by omega
      have HY := Lib.hid (show L.all okN = true from by
        rw [hkn, ← HN.out, List.take_length] at ha
        rw [List.all_eq_true]; exact ha)
      clear ha hkn
      go_wp2_with fail
      go_ret
      exact ⟨by rw [HY.out]; rfl, rfl⟩
def sumL (L : List Int) : Int := L.foldl (· + ·) 0
theorem sumL_take {L : List Int} {k : Nat} {x : Int} (h : L[k]? = some x) : sumL (L.take (k + 1)) = sumL (L.take k) + x := by
  unfold sumL
  rw [List.take_add_one, h, List.foldl_append]
  rfl
theorem sum15_any (b c : Nat) (L : List Int) (w : World) (hn : L.length ≤ 6) (hc : IntsAt w b L) (hok : ∀ x ∈ L, 0 ≤ x ∧ x ≤ 1000000000000000000) :
    Calls Try.prog 28 #[.slice (some ⟨b, 0, none⟩) L.length c] w fun e w' => e = .returned (.int .i64 (sumL L)) ∧ w = w' := by
  have HC := Lib.hid hc
  have HOK := Lib.hid hok
  obtain ⟨n, hn'⟩ : ∃ n, L.length = n := ⟨_, rfl⟩
  rw [hn'] at hn ⊢
  have HN := Lib.hid hn'
  clear hc hn' hok
  go_enter Try.func28, Try.ntmps28
  go_wp2_with fail
  go_loopw [3, 4] (fun sv iv wr => ∃ (k : Nat) (s : Int), k ≤ n ∧ iv = .int .i64 k ∧ sv = .int .i64 s ∧ 0 ≤ s ∧ s ≤ 1000000000000000000 * (k : Int) ∧ Hid (s = sumL (L.take k) ∧ w = wr)) (fun _ i _ => n - (intOf i).toNat)
  case atStart => exact ⟨0, 0, by omega, rfl, rfl, by omega, by omega, Lib.hid ⟨rfl, rfl⟩⟩
  case round =>
    obtain ⟨k, s, hk, rfl, rfl, hs1, hs2, HR⟩ := hrel
    obtain ⟨hse, rfl⟩ := HR.out
    clear HR
    by_cases hk2 : k < n
    · obtain ⟨x, hx⟩ : ∃ x, L[k]? = some x := ⟨_, List.getElem?_eq_getElem (by rw [HN.out]; exact hk2)⟩
      have cx := HC.out k x hx
      have hb := HOK.out x (List.mem_of_getElem? hx)
      obtain ⟨s', hs'⟩ : ∃ z, s + x = z := ⟨_, rfl⟩
      have ws : IntKind.i64.wrap (s + x) = s' := by rw [hs']; exact IntWalk.i64_in _ (by omega)
      have HS := Lib.hid (show s' = sumL (L.take (k + 1)) from by rw [sumL_take hx, ← hse, hs'])
      have h3 : 0 ≤ s' ∧ s' ≤ 1000000000000000000 * ((k + 1 : Nat) : Int) := by omega
      have H3 := Lib.hid h3
      clear hse hx hb hs1 hs2 h3 hs'
      go_wp2_with fail
      go_roundw
      case rel => exact ⟨k + 1, s', by omega, by go_num, rfl, H3.out.1, H3.out.2, Lib.hid ⟨HS.out, trivial⟩⟩
      case measure => simp [intOf]; omega
    · have hkn : k = n := by omega
      have HY := Lib.hid (show sumL L = s from by rw [hse, hkn, ← HN.out, List.take_length])
      clear hse hkn hs1 hs2
      go_wp2_with fail
      go_ret
      exact ⟨by rw [HY.out]; rfl, rfl⟩
theorem okN_all {L : List Int} (h : L.all okN = true) : ∀ x ∈ L, 0 ≤ x ∧ x ≤ 1000000000000000000 := fun x hx => okN_iff.1 (List.all_eq_true.1 h x hx)
set_option maxRecDepth 100000 in
set_option maxHeartbeats 1000000 in
theorem open15_any (R : RowV) (pa ta re ro pd ca : Int) (w : World) :
    Calls Try.prog 23 #[.agg (rowC R pa ta re ro pd ca)] w fun e w' => e = .returned (.bool (openR R)) ∧ Below w.heap.size w w' := by
  have SR := Lib.hid (fun W => sources_any R pa ta re ro pd ca W)
  obtain ⟨h, p, e, rc, rl, b⟩ := R
  unfold rowC at SR ⊢
  dsimp only at SR ⊢
  have WN := Lib.hid (fun bb W => within15_any bb 4 [e, rc, rl, b] W (by simp))
  have SM := Lib.hid (fun bb W => sum15_any bb 4 [e, rc, rl, b] W (by simp))
  have OP : Hid (openR ⟨h, p, e, rc, rl, b⟩ = (([e, rc, rl, b] : List Int).all okN && decide (sumL [e, rc, rl, b] ≤ 1000000000000000000))) := Lib.hid (by
    simp [openR, okN, RowV.sum, Bool.and_assoc, sumL]
    rfl)
  obtain ⟨s, hs⟩ : ∃ z, sumL [e, rc, rl, b] = z := ⟨_, rfl⟩
  rw [hs] at OP SM
  obtain ⟨ok, hok⟩ : ∃ z, ([e, rc, rl, b] : List Int).all okN = z := ⟨_, rfl⟩
  rw [hok] at OP WN
  have B0 := Lib.hid ((Below.refl w.heap.size w).alloc (Nat.le_refl _) (.cells #[.int .i64 h, .int .i64 p, .int .i64 e, .int .i64 rc, .int .i64 rl, .int .i64 b, .int .i64 pa, .int .i64 ta, .int .i64 re, .int .i64 ro, .int .i64 pd, .int .i64 ca] 24))
  have r0 := RowAt.new w 24 #[.int .i64 h, .int .i64 p, .int .i64 e, .int .i64 rc, .int .i64 rl, .int .i64 b, .int .i64 pa, .int .i64 ta, .int .i64 re, .int .i64 ro, .int .i64 pd, .int .i64 ca]
  have HR0 := Lib.hid r0
  clear r0 hs
  cases ok
  · have HO := Lib.hid (show openR ⟨h, p, e, rc, rl, b⟩ = false from by rw [OP.out]; rfl)
    clear hok OP SM
    go_enter Try.func23, Try.ntmps23
    go_wp2_with fail
    refine (SR.out _).mono ?_
    rintro e1 w1 ⟨b1, rfl, hi1, hb1⟩
    have HB1 := Lib.hid (B0.out.trans (hb1.mono B0.out.size))
    have HI1 := Lib.hid hi1
    clear hi1 hb1
    go_wp2_with fail
    refine (WN.out b1 _ HI1.out).mono ?_
    rintro e2 w2 ⟨rfl, rfl⟩
    go_wp2_with fail
    go_ret
    exact ⟨by rw [HO.out]; rfl, HB1.out⟩
  · have hall := okN_all hok
    have SM2 := Lib.hid (fun bb W hi => SM.out bb W hi hall)
    have HO := Lib.hid (show openR ⟨h, p, e, rc, rl, b⟩ = decide (s ≤ 1000000000000000000) from by rw [OP.out]; rfl)
    clear hok OP SM hall
    obtain ⟨d, hd⟩ : ∃ z, decide (s ≤ 1000000000000000000) = z := ⟨_, rfl⟩
    rw [hd] at HO
    go_enter Try.func23, Try.ntmps23
    go_wp2_with fail
    refine (SR.out _).mono ?_
    rintro e1 w1 ⟨b1, rfl, hi1, hb1⟩
    have HB1 := Lib.hid (B0.out.trans (hb1.mono B0.out.size))
    have HI1 := Lib.hid hi1
    have r1 : RowAt w1 w.heap.size 24 _ := HR0.out.below hb1 (by simp)
    have x0 : w1.cell? ⟨w.heap.size, 0, none⟩ = some (.int .i64 h) := r1.cell 0
    have x1 : w1.cell? ⟨w.heap.size, 1, none⟩ = some (.int .i64 p) := r1.cell 1
    have x2 : w1.cell? ⟨w.heap.size, 2, none⟩ = some (.int .i64 e) := r1.cell 2
    have x3 : w1.cell? ⟨w.heap.size, 3, none⟩ = some (.int .i64 rc) := r1.cell 3
    have x4 : w1.cell? ⟨w.heap.size, 4, none⟩ = some (.int .i64 rl) := r1.cell 4
    have x5 : w1.cell? ⟨w.heap.size, 5, none⟩ = some (.int .i64 b) := r1.cell 5
    have x6 : w1.cell? ⟨w.heap.size, 6, none⟩ = some (.int .i64 pa) := r1.cell 6
    have x7 : w1.cell? ⟨w.heap.size, 7, none⟩ = some (.int .i64 ta) := r1.cell 7
    have x8 : w1.cell? ⟨w.heap.size, 8, none⟩ = some (.int .i64 re) := r1.cell 8
    have x9 : w1.cell? ⟨w.heap.size, 9, none⟩ = some (.int .i64 ro) := r1.cell 9
    have x10 : w1.cell? ⟨w.heap.size, 10, none⟩ = some (.int .i64 pd) := r1.cell 10
    have x11 : w1.cell? ⟨w.heap.size, 11, none⟩ = some (.int .i64 ca) := r1.cell 11
    clear hi1 hb1 r1
    go_wp2_with fail
    refine (WN.out b1 _ HI1.out).mono ?_
    rintro e2 w2 ⟨rfl, rfl⟩
    go_wp2_with fail
    refine (SR.out _).mono ?_
    rintro e3 w3 ⟨b3, rfl, hi3, hb3⟩
    have HB3 := Lib.hid (HB1.out.trans (hb3.mono HB1.out.size))
    have HI3 := Lib.hid hi3
    clear hi3 hb3
    go_wp2_with fail
    refine (SM2.out b3 _ HI3.out).mono ?_
    rintro e4 w4 ⟨rfl, rfl⟩
    go_wp2_with fail
    go_ret
    exact ⟨by rw [HO.out]; rfl, HB3.out⟩
end Go.Proofs.Ytejkgnlflhngbaa
