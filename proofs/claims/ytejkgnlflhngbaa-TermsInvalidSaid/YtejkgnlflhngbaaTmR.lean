/- Balanced of the reference. -/
import Derived.Test.YtejkgnlflhngbaaTmO
import Derived.Test.YtejkgnlflhngbaaTmQ
namespace Go.Proofs.Ytejkgnlflhngbaa
open Go Go.RowKit Go.Lib Go.Shelf Go.Maps

set_option maxRecDepth 100000 in
set_option maxHeartbeats 4000000 in
theorem balanced15_any (R : RowV) (pa ta re ro pd ca : Int) (w : World) :
    Calls Try.prog 21 #[.agg (rowC R pa ta re ro pd ca)] w fun e w' => e = .returned (.bool (balB R pa ta re ro pd ca)) ∧ Below w.heap.size w w' := by
  have SR := Lib.hid (fun W => sources_any R pa ta re ro pd ca W)
  have UR := Lib.hid (fun W => uses_any R pa ta re ro pd ca W)
  obtain ⟨h, p, e, rc, rl, b⟩ := R
  unfold rowC at SR UR ⊢
  dsimp only at SR UR ⊢
  have WN := Lib.hid (fun bb W => within15_any bb 4 [e, rc, rl, b] W (by simp))
  have WU := Lib.hid (fun bb W => within15_any bb 6 [pa, ta, re, ro, pd, ca] W (by simp))
  have SM := Lib.hid (fun bb W => sum15_any bb 4 [e, rc, rl, b] W (by simp))
  have SU := Lib.hid (fun bb W => sum15_any bb 6 [pa, ta, re, ro, pd, ca] W (by simp))
  have OP : Hid (balB ⟨h, p, e, rc, rl, b⟩ pa ta re ro pd ca = (([e, rc, rl, b] : List Int).all okN && ([pa, ta, re, ro, pd, ca] : List Int).all okN && (sumL [e, rc, rl, b] == sumL [pa, ta, re, ro, pd, ca]))) := Lib.hid (by
    unfold balB sumL
    simp [Bool.and_assoc])
  obtain ⟨s, hs⟩ : ∃ z, sumL [e, rc, rl, b] = z := ⟨_, rfl⟩
  obtain ⟨u, hu⟩ : ∃ z, sumL [pa, ta, re, ro, pd, ca] = z := ⟨_, rfl⟩
  rw [hs] at OP SM
  rw [hu] at OP SU
  obtain ⟨ok4, hok4⟩ : ∃ z, ([e, rc, rl, b] : List Int).all okN = z := ⟨_, rfl⟩
  obtain ⟨ok6, hok6⟩ : ∃ z, ([pa, ta, re, ro, pd, ca] : List Int).all okN = z := ⟨_, rfl⟩
  rw [hok4] at OP WN
  rw [hok6] at OP WU
  have B0 := Lib.hid ((Below.refl w.heap.size w).alloc (Nat.le_refl _) (.cells #[.int .i64 h, .int .i64 p, .int .i64 e, .int .i64 rc, .int .i64 rl, .int .i64 b, .int .i64 pa, .int .i64 ta, .int .i64 re, .int .i64 ro, .int .i64 pd, .int .i64 ca] 24))
  have HRB : Hid (∀ W', Below (w.alloc (.cells #[.int .i64 h, .int .i64 p, .int .i64 e, .int .i64 rc, .int .i64 rl, .int .i64 b, .int .i64 pa, .int .i64 ta, .int .i64 re, .int .i64 ro, .int .i64 pd, .int .i64 ca] 24)).heap.size (w.alloc (.cells #[.int .i64 h, .int .i64 p, .int .i64 e, .int .i64 rc, .int .i64 rl, .int .i64 b, .int .i64 pa, .int .i64 ta, .int .i64 re, .int .i64 ro, .int .i64 pd, .int .i64 ca] 24)) W' → ∀ j v, (#[.int .i64 h, .int .i64 p, .int .i64 e, .int .i64 rc, .int .i64 rl, .int .i64 b, .int .i64 pa, .int .i64 ta, .int .i64 re, .int .i64 ro, .int .i64 pd, .int .i64 ca] : Array Value)[j]? = some v → W'.cell? ⟨w.heap.size, 0 + j, none⟩ = some v) := Lib.hid fun W' hb => row_cells (show W'.heap[w.heap.size]? = _ from (RowAt.new w _ _).below hb (by simp))
  clear hs hu
  cases ok4
  · have HO := Lib.hid (show balB ⟨h, p, e, rc, rl, b⟩ pa ta re ro pd ca = false from by rw [OP.out]; rfl)
    clear hok4 hok6 OP SM SU
    go_enter Try.func21, Try.ntmps21
    go_wp2_with fail
    refine wp_region_held_drew (S := fun W' => Below (w.alloc (.cells #[.int .i64 h, .int .i64 p, .int .i64 e, .int .i64 rc, .int .i64 rl, .int .i64 b, .int .i64 pa, .int .i64 ta, .int .i64 re, .int .i64 ro, .int .i64 pd, .int .i64 ca] 24)).heap.size (w.alloc (.cells #[.int .i64 h, .int .i64 p, .int .i64 e, .int .i64 rc, .int .i64 rl, .int .i64 b, .int .i64 pa, .int .i64 ta, .int .i64 re, .int .i64 ro, .int .i64 pd, .int .i64 ca] 24)) W') (by kernel_rfl) (Below.refl _ _).drew (fun hHeld => ?_)
    refine wpAnyH_take (i := 0) (oi := ⟨_, _, _, _, _, _⟩) rfl (by kernel_rfl) (by kernel_rfl) (by kernel_rfl) (fun _ _ _ h => h) (yieldsIf_load_at 24 (.tmp 1) w.heap.size 0 #[.int .i64 h, .int .i64 p, .int .i64 e, .int .i64 rc, .int .i64 rl, .int .i64 b, .int .i64 pa, .int .i64 ta, .int .i64 re, .int .i64 ro, .int .i64 pd, .int .i64 ca] _ HRB.out rfl (by rfl) rfl rfl rfl rfl) (by assumption) ?_
    simp only [Act.put, List.setIfInBounds_toArray, List.set_cons_zero, List.set_cons_succ]
    refine wpAnyH_ready (rs := [1]) (by kernel_rfl) (by simp) ?_
    refine AllReadyH.cons (o := ⟨_, _, _, _, _, _⟩) rfl (fun K hK => ?_) AllReadyH.nil
    go_simp
    (go_at_call 29; refine (SR.out _).mono ?_; rintro e w1 ⟨bw1, rfl, hiw1, hb⟩)
    have Sw1 : Below (w.alloc (.cells #[.int .i64 h, .int .i64 p, .int .i64 e, .int .i64 rc, .int .i64 rl, .int .i64 b, .int .i64 pa, .int .i64 ta, .int .i64 re, .int .i64 ro, .int .i64 pd, .int .i64 ca] 24)).heap.size (w.alloc (.cells #[.int .i64 h, .int .i64 p, .int .i64 e, .int .i64 rc, .int .i64 rl, .int .i64 b, .int .i64 pa, .int .i64 ta, .int .i64 re, .int .i64 ro, .int .i64 pd, .int .i64 ca] 24)) w1 := (Below.refl (w.alloc (.cells #[.int .i64 h, .int .i64 p, .int .i64 e, .int .i64 rc, .int .i64 rl, .int .i64 b, .int .i64 pa, .int .i64 ta, .int .i64 re, .int .i64 ro, .int .i64 pd, .int .i64 ca] 24)).heap.size (w.alloc (.cells #[.int .i64 h, .int .i64 p, .int .i64 e, .int .i64 rc, .int .i64 rl, .int .i64 b, .int .i64 pa, .int .i64 ta, .int .i64 re, .int .i64 ro, .int .i64 pd, .int .i64 ca] 24))).drew.trans (hb.mono (Below.refl (w.alloc (.cells #[.int .i64 h, .int .i64 p, .int .i64 e, .int .i64 rc, .int .i64 rl, .int .i64 b, .int .i64 pa, .int .i64 ta, .int .i64 re, .int .i64 ro, .int .i64 pd, .int .i64 ca] 24)).heap.size (w.alloc (.cells #[.int .i64 h, .int .i64 p, .int .i64 e, .int .i64 rc, .int .i64 rl, .int .i64 b, .int .i64 pa, .int .i64 ta, .int .i64 re, .int .i64 ro, .int .i64 pd, .int .i64 ca] 24))).drew.size)
    have Dw1 := Sw1
    have HIw1 := Lib.hid hiw1
    clear hb hiw1
    go_wp2_with fail
    refine hK.out _ _ Sw1 (fun hHeld => ?_)
    clear hK K
    try simp only [Act.put, List.setIfInBounds_toArray, List.set_cons_zero, List.set_cons_succ]
    refine wpAnyH_ready (rs := [2]) (by kernel_rfl) (by simp) ?_
    refine AllReadyH.cons (o := ⟨_, _, _, _, _, _⟩) rfl (fun K hK => ?_) AllReadyH.nil
    go_simp
    (go_at_call 34; refine (WN.out bw1 _ HIw1.out).mono ?_; rintro e w2 ⟨rfl, rfl⟩)
    go_wp2_with fail
    refine hK.out _ _ Dw1 (fun hHeld => ?_)
    clear hK K
    try simp only [Act.put, List.setIfInBounds_toArray, List.set_cons_zero, List.set_cons_succ]
    refine wpAnyH_take (i := 3) (oi := ⟨_, _, _, _, _, _⟩) (v := ?_) rfl (by kernel_rfl) (by kernel_rfl) (by kernel_rfl) (fun _ _ _ h => h) (Or.inl ⟨by rfl, ?_⟩) (by assumption) ?_
    rotate_left
    · intro w hSw
      go_simp
      all_goals with_reducible rfl
    simp only [Act.put, List.setIfInBounds_toArray, List.set_cons_zero, List.set_cons_succ]
    refine wpAnyH_take (i := 4) (oi := ⟨_, _, _, _, _, _⟩) (v := undef) rfl (by kernel_rfl) (by kernel_rfl) (by kernel_rfl) (fun _ _ _ h => h) (Or.inr ⟨by rfl, rfl⟩) (by assumption) ?_
    simp only [Act.put, List.setIfInBounds_toArray, List.set_cons_zero, List.set_cons_succ]
    refine wpAnyH_take (i := 5) (oi := ⟨_, _, _, _, _, _⟩) (v := undef) rfl (by kernel_rfl) (by kernel_rfl) (by kernel_rfl) (fun _ _ _ h => h) (Or.inr ⟨by rfl, rfl⟩) (by assumption) ?_
    simp only [Act.put, List.setIfInBounds_toArray, List.set_cons_zero, List.set_cons_succ]
    refine wpAnyH_take (i := 6) (oi := ⟨_, _, _, _, _, _⟩) (v := undef) rfl (by kernel_rfl) (by kernel_rfl) (by kernel_rfl) (fun _ _ _ h => h) (Or.inr ⟨by rfl, rfl⟩) (by assumption) ?_
    simp only [Act.put, List.setIfInBounds_toArray, List.set_cons_zero, List.set_cons_succ]
    refine wpAnyH_take (i := 7) (oi := ⟨_, _, _, _, _, _⟩) (v := ?_) rfl (by kernel_rfl) (by kernel_rfl) (by kernel_rfl) (fun _ _ _ h => h) (Or.inl ⟨by rfl, ?_⟩) (by assumption) ?_
    rotate_left
    · intro w hSw
      go_simp
      all_goals with_reducible rfl
    simp only [Act.put, List.setIfInBounds_toArray, List.set_cons_zero, List.set_cons_succ]
    refine wpAnyH_take (i := 8) (oi := ⟨_, _, _, _, _, _⟩) (v := ?_) rfl (by kernel_rfl) (by kernel_rfl) (by kernel_rfl) (fun _ _ _ h => h) (Or.inl ⟨by rfl, ?_⟩) (by assumption) ?_
    rotate_left
    · intro w hSw
      go_simp
      all_goals with_reducible rfl
    simp only [Act.put, List.setIfInBounds_toArray, List.set_cons_zero, List.set_cons_succ]
    refine wpAnyH_take (i := 9) (oi := ⟨_, _, _, _, _, _⟩) (v := undef) rfl (by kernel_rfl) (by kernel_rfl) (by kernel_rfl) (fun _ _ _ h => h) (Or.inr ⟨by rfl, rfl⟩) (by assumption) ?_
    simp only [Act.put, List.setIfInBounds_toArray, List.set_cons_zero, List.set_cons_succ]
    refine wpAnyH_take (i := 10) (oi := ⟨_, _, _, _, _, _⟩) (v := undef) rfl (by kernel_rfl) (by kernel_rfl) (by kernel_rfl) (fun _ _ _ h => h) (Or.inr ⟨by rfl, rfl⟩) (by assumption) ?_
    simp only [Act.put, List.setIfInBounds_toArray, List.set_cons_zero, List.set_cons_succ]
    refine wpAnyH_take (i := 11) (oi := ⟨_, _, _, _, _, _⟩) (v := undef) rfl (by kernel_rfl) (by kernel_rfl) (by kernel_rfl) (fun _ _ _ h => h) (Or.inr ⟨by rfl, rfl⟩) (by assumption) ?_
    simp only [Act.put, List.setIfInBounds_toArray, List.set_cons_zero, List.set_cons_succ]
    refine wpAnyH_take (i := 12) (oi := ⟨_, _, _, _, _, _⟩) (v := undef) rfl (by kernel_rfl) (by kernel_rfl) (by kernel_rfl) (fun _ _ _ h => h) (Or.inr ⟨by rfl, rfl⟩) (by assumption) ?_
    simp only [Act.put, List.setIfInBounds_toArray, List.set_cons_zero, List.set_cons_succ]
    refine wpAnyH_take (i := 13) (oi := ⟨_, _, _, _, _, _⟩) (v := undef) rfl (by kernel_rfl) (by kernel_rfl) (by kernel_rfl) (fun _ _ _ h => h) (Or.inr ⟨by rfl, rfl⟩) (by assumption) ?_
    simp only [Act.put, List.setIfInBounds_toArray, List.set_cons_zero, List.set_cons_succ]
    refine wpAnyH_take (i := 14) (oi := ⟨_, _, _, _, _, _⟩) (v := undef) rfl (by kernel_rfl) (by kernel_rfl) (by kernel_rfl) (fun _ _ _ h => h) (Or.inr ⟨by rfl, rfl⟩) (by assumption) ?_
    simp only [Act.put, List.setIfInBounds_toArray, List.set_cons_zero, List.set_cons_succ]
    refine wpAnyH_take (i := 15) (oi := ⟨_, _, _, _, _, _⟩) (v := undef) rfl (by kernel_rfl) (by kernel_rfl) (by kernel_rfl) (fun _ _ _ h => h) (Or.inr ⟨by rfl, rfl⟩) (by assumption) ?_
    simp only [Act.put, List.setIfInBounds_toArray, List.set_cons_zero, List.set_cons_succ]
    refine wpAnyH_take (i := 16) (oi := ⟨_, _, _, _, _, _⟩) (v := ?_) rfl (by kernel_rfl) (by kernel_rfl) (by kernel_rfl) (fun _ _ _ h => h) (Or.inl ⟨by rfl, ?_⟩) (by assumption) ?_
    rotate_left
    · intro w hSw
      go_simp
      all_goals with_reducible rfl
    simp only [Act.put, List.setIfInBounds_toArray, List.set_cons_zero, List.set_cons_succ]
    refine wpAnyH_take (i := 17) (oi := ⟨_, _, _, _, _, _⟩) (v := ?_) rfl (by kernel_rfl) (by kernel_rfl) (by kernel_rfl) (fun _ _ _ h => h) (Or.inl ⟨by rfl, ?_⟩) (by assumption) ?_
    rotate_left
    · intro w hSw
      go_simp
      all_goals with_reducible rfl
    simp only [Act.put, List.setIfInBounds_toArray, List.set_cons_zero, List.set_cons_succ]
    refine wpAnyH_done (by kernel_rfl) ?_ _
    have HBE := Lib.hid (B0.out.trans (Sw1.mono B0.out.size))
    clear hHeld
    go_wp2_with fail
    go_ret
    exact ⟨by rw [HO.out]; rfl, HBE.out⟩

  · cases ok6
    · have HO := Lib.hid (show balB ⟨h, p, e, rc, rl, b⟩ pa ta re ro pd ca = false from by rw [OP.out]; rfl)
      clear hok4 hok6 OP SM SU
      go_enter Try.func21, Try.ntmps21
      go_wp2_with fail
      refine wp_region_held_drew (S := fun W' => Below (w.alloc (.cells #[.int .i64 h, .int .i64 p, .int .i64 e, .int .i64 rc, .int .i64 rl, .int .i64 b, .int .i64 pa, .int .i64 ta, .int .i64 re, .int .i64 ro, .int .i64 pd, .int .i64 ca] 24)).heap.size (w.alloc (.cells #[.int .i64 h, .int .i64 p, .int .i64 e, .int .i64 rc, .int .i64 rl, .int .i64 b, .int .i64 pa, .int .i64 ta, .int .i64 re, .int .i64 ro, .int .i64 pd, .int .i64 ca] 24)) W') (by kernel_rfl) (Below.refl _ _).drew (fun hHeld => ?_)
      refine wpAnyH_take (i := 0) (oi := ⟨_, _, _, _, _, _⟩) rfl (by kernel_rfl) (by kernel_rfl) (by kernel_rfl) (fun _ _ _ h => h) (yieldsIf_load_at 24 (.tmp 1) w.heap.size 0 #[.int .i64 h, .int .i64 p, .int .i64 e, .int .i64 rc, .int .i64 rl, .int .i64 b, .int .i64 pa, .int .i64 ta, .int .i64 re, .int .i64 ro, .int .i64 pd, .int .i64 ca] _ HRB.out rfl (by rfl) rfl rfl rfl rfl) (by assumption) ?_
      simp only [Act.put, List.setIfInBounds_toArray, List.set_cons_zero, List.set_cons_succ]
      refine wpAnyH_ready (rs := [1]) (by kernel_rfl) (by simp) ?_
      refine AllReadyH.cons (o := ⟨_, _, _, _, _, _⟩) rfl (fun K hK => ?_) AllReadyH.nil
      go_simp
      (go_at_call 29; refine (SR.out _).mono ?_; rintro e w1 ⟨bw1, rfl, hiw1, hb⟩)
      have Sw1 : Below (w.alloc (.cells #[.int .i64 h, .int .i64 p, .int .i64 e, .int .i64 rc, .int .i64 rl, .int .i64 b, .int .i64 pa, .int .i64 ta, .int .i64 re, .int .i64 ro, .int .i64 pd, .int .i64 ca] 24)).heap.size (w.alloc (.cells #[.int .i64 h, .int .i64 p, .int .i64 e, .int .i64 rc, .int .i64 rl, .int .i64 b, .int .i64 pa, .int .i64 ta, .int .i64 re, .int .i64 ro, .int .i64 pd, .int .i64 ca] 24)) w1 := (Below.refl (w.alloc (.cells #[.int .i64 h, .int .i64 p, .int .i64 e, .int .i64 rc, .int .i64 rl, .int .i64 b, .int .i64 pa, .int .i64 ta, .int .i64 re, .int .i64 ro, .int .i64 pd, .int .i64 ca] 24)).heap.size (w.alloc (.cells #[.int .i64 h, .int .i64 p, .int .i64 e, .int .i64 rc, .int .i64 rl, .int .i64 b, .int .i64 pa, .int .i64 ta, .int .i64 re, .int .i64 ro, .int .i64 pd, .int .i64 ca] 24))).drew.trans (hb.mono (Below.refl (w.alloc (.cells #[.int .i64 h, .int .i64 p, .int .i64 e, .int .i64 rc, .int .i64 rl, .int .i64 b, .int .i64 pa, .int .i64 ta, .int .i64 re, .int .i64 ro, .int .i64 pd, .int .i64 ca] 24)).heap.size (w.alloc (.cells #[.int .i64 h, .int .i64 p, .int .i64 e, .int .i64 rc, .int .i64 rl, .int .i64 b, .int .i64 pa, .int .i64 ta, .int .i64 re, .int .i64 ro, .int .i64 pd, .int .i64 ca] 24))).drew.size)
      have Dw1 := Sw1
      have HIw1 := Lib.hid hiw1
      clear hb hiw1
      go_wp2_with fail
      refine hK.out _ _ Sw1 (fun hHeld => ?_)
      clear hK K
      try simp only [Act.put, List.setIfInBounds_toArray, List.set_cons_zero, List.set_cons_succ]
      refine wpAnyH_ready (rs := [2]) (by kernel_rfl) (by simp) ?_
      refine AllReadyH.cons (o := ⟨_, _, _, _, _, _⟩) rfl (fun K hK => ?_) AllReadyH.nil
      go_simp
      (go_at_call 34; refine (WN.out bw1 _ HIw1.out).mono ?_; rintro e w2 ⟨rfl, rfl⟩)
      go_wp2_with fail
      refine hK.out _ _ Dw1 (fun hHeld => ?_)
      clear hK K
      try simp only [Act.put, List.setIfInBounds_toArray, List.set_cons_zero, List.set_cons_succ]
      refine wpAnyH_take (i := 3) (oi := ⟨_, _, _, _, _, _⟩) (v := ?_) rfl (by kernel_rfl) (by kernel_rfl) (by kernel_rfl) (fun _ _ _ h => h) (Or.inl ⟨by rfl, ?_⟩) (by assumption) ?_
      rotate_left
      · intro w hSw
        go_simp
        all_goals with_reducible rfl
      simp only [Act.put, List.setIfInBounds_toArray, List.set_cons_zero, List.set_cons_succ]
      refine wpAnyH_take (i := 4) (oi := ⟨_, _, _, _, _, _⟩) rfl (by kernel_rfl) (by kernel_rfl) (by kernel_rfl) (fun _ _ _ h => h) (yieldsIf_load_at 24 (.tmp 1) w.heap.size 0 #[.int .i64 h, .int .i64 p, .int .i64 e, .int .i64 rc, .int .i64 rl, .int .i64 b, .int .i64 pa, .int .i64 ta, .int .i64 re, .int .i64 ro, .int .i64 pd, .int .i64 ca] _ HRB.out rfl (by rfl) rfl rfl rfl rfl) (by assumption) ?_
      simp only [Act.put, List.setIfInBounds_toArray, List.set_cons_zero, List.set_cons_succ]
      refine wpAnyH_ready (rs := [5]) (by kernel_rfl) (by simp) ?_
      refine AllReadyH.cons (o := ⟨_, _, _, _, _, _⟩) rfl (fun K hK => ?_) AllReadyH.nil
      go_simp
      (go_at_call 35; refine (UR.out _).mono ?_; rintro e w3 ⟨bw3, rfl, hiw3, hb⟩)
      have Sw3 : Below (w.alloc (.cells #[.int .i64 h, .int .i64 p, .int .i64 e, .int .i64 rc, .int .i64 rl, .int .i64 b, .int .i64 pa, .int .i64 ta, .int .i64 re, .int .i64 ro, .int .i64 pd, .int .i64 ca] 24)).heap.size (w.alloc (.cells #[.int .i64 h, .int .i64 p, .int .i64 e, .int .i64 rc, .int .i64 rl, .int .i64 b, .int .i64 pa, .int .i64 ta, .int .i64 re, .int .i64 ro, .int .i64 pd, .int .i64 ca] 24)) w3 := Sw1.trans (hb.mono Sw1.size)
      have Dw3 := Sw3
      have HIw3 := Lib.hid hiw3
      clear hb hiw3
      go_wp2_with fail
      refine hK.out _ _ Sw3 (fun hHeld => ?_)
      clear hK K
      try simp only [Act.put, List.setIfInBounds_toArray, List.set_cons_zero, List.set_cons_succ]
      refine wpAnyH_ready (rs := [6]) (by kernel_rfl) (by simp) ?_
      refine AllReadyH.cons (o := ⟨_, _, _, _, _, _⟩) rfl (fun K hK => ?_) AllReadyH.nil
      go_simp
      (go_at_call 34; refine (WU.out bw3 _ HIw3.out).mono ?_; rintro e w4 ⟨rfl, rfl⟩)
      go_wp2_with fail
      refine hK.out _ _ Dw3 (fun hHeld => ?_)
      clear hK K
      try simp only [Act.put, List.setIfInBounds_toArray, List.set_cons_zero, List.set_cons_succ]
      refine wpAnyH_take (i := 7) (oi := ⟨_, _, _, _, _, _⟩) (v := ?_) rfl (by kernel_rfl) (by kernel_rfl) (by kernel_rfl) (fun _ _ _ h => h) (Or.inl ⟨by rfl, ?_⟩) (by assumption) ?_
      rotate_left
      · intro w hSw
        go_simp
        all_goals with_reducible rfl
      simp only [Act.put, List.setIfInBounds_toArray, List.set_cons_zero, List.set_cons_succ]
      refine wpAnyH_take (i := 8) (oi := ⟨_, _, _, _, _, _⟩) (v := ?_) rfl (by kernel_rfl) (by kernel_rfl) (by kernel_rfl) (fun _ _ _ h => h) (Or.inl ⟨by rfl, ?_⟩) (by assumption) ?_
      rotate_left
      · intro w hSw
        go_simp
        all_goals with_reducible rfl
      simp only [Act.put, List.setIfInBounds_toArray, List.set_cons_zero, List.set_cons_succ]
      refine wpAnyH_take (i := 9) (oi := ⟨_, _, _, _, _, _⟩) (v := undef) rfl (by kernel_rfl) (by kernel_rfl) (by kernel_rfl) (fun _ _ _ h => h) (Or.inr ⟨by rfl, rfl⟩) (by assumption) ?_
      simp only [Act.put, List.setIfInBounds_toArray, List.set_cons_zero, List.set_cons_succ]
      refine wpAnyH_take (i := 10) (oi := ⟨_, _, _, _, _, _⟩) (v := undef) rfl (by kernel_rfl) (by kernel_rfl) (by kernel_rfl) (fun _ _ _ h => h) (Or.inr ⟨by rfl, rfl⟩) (by assumption) ?_
      simp only [Act.put, List.setIfInBounds_toArray, List.set_cons_zero, List.set_cons_succ]
      refine wpAnyH_take (i := 11) (oi := ⟨_, _, _, _, _, _⟩) (v := undef) rfl (by kernel_rfl) (by kernel_rfl) (by kernel_rfl) (fun _ _ _ h => h) (Or.inr ⟨by rfl, rfl⟩) (by assumption) ?_
      simp only [Act.put, List.setIfInBounds_toArray, List.set_cons_zero, List.set_cons_succ]
      refine wpAnyH_take (i := 12) (oi := ⟨_, _, _, _, _, _⟩) (v := undef) rfl (by kernel_rfl) (by kernel_rfl) (by kernel_rfl) (fun _ _ _ h => h) (Or.inr ⟨by rfl, rfl⟩) (by assumption) ?_
      simp only [Act.put, List.setIfInBounds_toArray, List.set_cons_zero, List.set_cons_succ]
      refine wpAnyH_take (i := 13) (oi := ⟨_, _, _, _, _, _⟩) (v := undef) rfl (by kernel_rfl) (by kernel_rfl) (by kernel_rfl) (fun _ _ _ h => h) (Or.inr ⟨by rfl, rfl⟩) (by assumption) ?_
      simp only [Act.put, List.setIfInBounds_toArray, List.set_cons_zero, List.set_cons_succ]
      refine wpAnyH_take (i := 14) (oi := ⟨_, _, _, _, _, _⟩) (v := undef) rfl (by kernel_rfl) (by kernel_rfl) (by kernel_rfl) (fun _ _ _ h => h) (Or.inr ⟨by rfl, rfl⟩) (by assumption) ?_
      simp only [Act.put, List.setIfInBounds_toArray, List.set_cons_zero, List.set_cons_succ]
      refine wpAnyH_take (i := 15) (oi := ⟨_, _, _, _, _, _⟩) (v := undef) rfl (by kernel_rfl) (by kernel_rfl) (by kernel_rfl) (fun _ _ _ h => h) (Or.inr ⟨by rfl, rfl⟩) (by assumption) ?_
      simp only [Act.put, List.setIfInBounds_toArray, List.set_cons_zero, List.set_cons_succ]
      refine wpAnyH_take (i := 16) (oi := ⟨_, _, _, _, _, _⟩) (v := ?_) rfl (by kernel_rfl) (by kernel_rfl) (by kernel_rfl) (fun _ _ _ h => h) (Or.inl ⟨by rfl, ?_⟩) (by assumption) ?_
      rotate_left
      · intro w hSw
        go_simp
        all_goals with_reducible rfl
      simp only [Act.put, List.setIfInBounds_toArray, List.set_cons_zero, List.set_cons_succ]
      refine wpAnyH_take (i := 17) (oi := ⟨_, _, _, _, _, _⟩) (v := ?_) rfl (by kernel_rfl) (by kernel_rfl) (by kernel_rfl) (fun _ _ _ h => h) (Or.inl ⟨by rfl, ?_⟩) (by assumption) ?_
      rotate_left
      · intro w hSw
        go_simp
        all_goals with_reducible rfl
      simp only [Act.put, List.setIfInBounds_toArray, List.set_cons_zero, List.set_cons_succ]
      refine wpAnyH_done (by kernel_rfl) ?_ _
      have HBE := Lib.hid (B0.out.trans (Sw3.mono B0.out.size))
      clear hHeld
      go_wp2_with fail
      go_ret
      exact ⟨by rw [HO.out]; rfl, HBE.out⟩

    · have h4 := okN_all hok4
      have h6 := okN_all hok6
      have SM2 := Lib.hid (fun bb W hi => SM.out bb W hi h4)
      have SU2 := Lib.hid (fun bb W hi => SU.out bb W hi h6)
      have HO := Lib.hid (show balB ⟨h, p, e, rc, rl, b⟩ pa ta re ro pd ca = (s == u) from by rw [OP.out]; simp)
      clear hok4 hok6 OP SM SU h4 h6
      obtain ⟨d, hd⟩ : ∃ z, (s == u) = z := ⟨_, rfl⟩
      rw [hd] at HO
      go_enter Try.func21, Try.ntmps21
      go_wp2_with fail
      refine wp_region_held_drew (S := fun W' => Below (w.alloc (.cells #[.int .i64 h, .int .i64 p, .int .i64 e, .int .i64 rc, .int .i64 rl, .int .i64 b, .int .i64 pa, .int .i64 ta, .int .i64 re, .int .i64 ro, .int .i64 pd, .int .i64 ca] 24)).heap.size (w.alloc (.cells #[.int .i64 h, .int .i64 p, .int .i64 e, .int .i64 rc, .int .i64 rl, .int .i64 b, .int .i64 pa, .int .i64 ta, .int .i64 re, .int .i64 ro, .int .i64 pd, .int .i64 ca] 24)) W') (by kernel_rfl) (Below.refl _ _).drew (fun hHeld => ?_)
      refine wpAnyH_take (i := 0) (oi := ⟨_, _, _, _, _, _⟩) rfl (by kernel_rfl) (by kernel_rfl) (by kernel_rfl) (fun _ _ _ h => h) (yieldsIf_load_at 24 (.tmp 1) w.heap.size 0 #[.int .i64 h, .int .i64 p, .int .i64 e, .int .i64 rc, .int .i64 rl, .int .i64 b, .int .i64 pa, .int .i64 ta, .int .i64 re, .int .i64 ro, .int .i64 pd, .int .i64 ca] _ HRB.out rfl (by rfl) rfl rfl rfl rfl) (by assumption) ?_
      simp only [Act.put, List.setIfInBounds_toArray, List.set_cons_zero, List.set_cons_succ]
      refine wpAnyH_ready (rs := [1]) (by kernel_rfl) (by simp) ?_
      refine AllReadyH.cons (o := ⟨_, _, _, _, _, _⟩) rfl (fun K hK => ?_) AllReadyH.nil
      go_simp
      (go_at_call 29; refine (SR.out _).mono ?_; rintro e w1 ⟨bw1, rfl, hiw1, hb⟩)
      have Sw1 : Below (w.alloc (.cells #[.int .i64 h, .int .i64 p, .int .i64 e, .int .i64 rc, .int .i64 rl, .int .i64 b, .int .i64 pa, .int .i64 ta, .int .i64 re, .int .i64 ro, .int .i64 pd, .int .i64 ca] 24)).heap.size (w.alloc (.cells #[.int .i64 h, .int .i64 p, .int .i64 e, .int .i64 rc, .int .i64 rl, .int .i64 b, .int .i64 pa, .int .i64 ta, .int .i64 re, .int .i64 ro, .int .i64 pd, .int .i64 ca] 24)) w1 := (Below.refl (w.alloc (.cells #[.int .i64 h, .int .i64 p, .int .i64 e, .int .i64 rc, .int .i64 rl, .int .i64 b, .int .i64 pa, .int .i64 ta, .int .i64 re, .int .i64 ro, .int .i64 pd, .int .i64 ca] 24)).heap.size (w.alloc (.cells #[.int .i64 h, .int .i64 p, .int .i64 e, .int .i64 rc, .int .i64 rl, .int .i64 b, .int .i64 pa, .int .i64 ta, .int .i64 re, .int .i64 ro, .int .i64 pd, .int .i64 ca] 24))).drew.trans (hb.mono (Below.refl (w.alloc (.cells #[.int .i64 h, .int .i64 p, .int .i64 e, .int .i64 rc, .int .i64 rl, .int .i64 b, .int .i64 pa, .int .i64 ta, .int .i64 re, .int .i64 ro, .int .i64 pd, .int .i64 ca] 24)).heap.size (w.alloc (.cells #[.int .i64 h, .int .i64 p, .int .i64 e, .int .i64 rc, .int .i64 rl, .int .i64 b, .int .i64 pa, .int .i64 ta, .int .i64 re, .int .i64 ro, .int .i64 pd, .int .i64 ca] 24))).drew.size)
      have Dw1 := Sw1
      have HIw1 := Lib.hid hiw1
      clear hb hiw1
      go_wp2_with fail
      refine hK.out _ _ Sw1 (fun hHeld => ?_)
      clear hK K
      try simp only [Act.put, List.setIfInBounds_toArray, List.set_cons_zero, List.set_cons_succ]
      refine wpAnyH_ready (rs := [2]) (by kernel_rfl) (by simp) ?_
      refine AllReadyH.cons (o := ⟨_, _, _, _, _, _⟩) rfl (fun K hK => ?_) AllReadyH.nil
      go_simp
      (go_at_call 34; refine (WN.out bw1 _ HIw1.out).mono ?_; rintro e w2 ⟨rfl, rfl⟩)
      go_wp2_with fail
      refine hK.out _ _ Dw1 (fun hHeld => ?_)
      clear hK K
      try simp only [Act.put, List.setIfInBounds_toArray, List.set_cons_zero, List.set_cons_succ]
      refine wpAnyH_take (i := 3) (oi := ⟨_, _, _, _, _, _⟩) (v := ?_) rfl (by kernel_rfl) (by kernel_rfl) (by kernel_rfl) (fun _ _ _ h => h) (Or.inl ⟨by rfl, ?_⟩) (by assumption) ?_
      rotate_left
      · intro w hSw
        go_simp
        all_goals with_reducible rfl
      simp only [Act.put, List.setIfInBounds_toArray, List.set_cons_zero, List.set_cons_succ]
      refine wpAnyH_take (i := 4) (oi := ⟨_, _, _, _, _, _⟩) rfl (by kernel_rfl) (by kernel_rfl) (by kernel_rfl) (fun _ _ _ h => h) (yieldsIf_load_at 24 (.tmp 1) w.heap.size 0 #[.int .i64 h, .int .i64 p, .int .i64 e, .int .i64 rc, .int .i64 rl, .int .i64 b, .int .i64 pa, .int .i64 ta, .int .i64 re, .int .i64 ro, .int .i64 pd, .int .i64 ca] _ HRB.out rfl (by rfl) rfl rfl rfl rfl) (by assumption) ?_
      simp only [Act.put, List.setIfInBounds_toArray, List.set_cons_zero, List.set_cons_succ]
      refine wpAnyH_ready (rs := [5]) (by kernel_rfl) (by simp) ?_
      refine AllReadyH.cons (o := ⟨_, _, _, _, _, _⟩) rfl (fun K hK => ?_) AllReadyH.nil
      go_simp
      (go_at_call 35; refine (UR.out _).mono ?_; rintro e w3 ⟨bw3, rfl, hiw3, hb⟩)
      have Sw3 : Below (w.alloc (.cells #[.int .i64 h, .int .i64 p, .int .i64 e, .int .i64 rc, .int .i64 rl, .int .i64 b, .int .i64 pa, .int .i64 ta, .int .i64 re, .int .i64 ro, .int .i64 pd, .int .i64 ca] 24)).heap.size (w.alloc (.cells #[.int .i64 h, .int .i64 p, .int .i64 e, .int .i64 rc, .int .i64 rl, .int .i64 b, .int .i64 pa, .int .i64 ta, .int .i64 re, .int .i64 ro, .int .i64 pd, .int .i64 ca] 24)) w3 := Sw1.trans (hb.mono Sw1.size)
      have Dw3 := Sw3
      have HIw3 := Lib.hid hiw3
      clear hb hiw3
      go_wp2_with fail
      refine hK.out _ _ Sw3 (fun hHeld => ?_)
      clear hK K
      try simp only [Act.put, List.setIfInBounds_toArray, List.set_cons_zero, List.set_cons_succ]
      refine wpAnyH_ready (rs := [6]) (by kernel_rfl) (by simp) ?_
      refine AllReadyH.cons (o := ⟨_, _, _, _, _, _⟩) rfl (fun K hK => ?_) AllReadyH.nil
      go_simp
      (go_at_call 34; refine (WU.out bw3 _ HIw3.out).mono ?_; rintro e w4 ⟨rfl, rfl⟩)
      go_wp2_with fail
      refine hK.out _ _ Dw3 (fun hHeld => ?_)
      clear hK K
      try simp only [Act.put, List.setIfInBounds_toArray, List.set_cons_zero, List.set_cons_succ]
      refine wpAnyH_take (i := 7) (oi := ⟨_, _, _, _, _, _⟩) (v := ?_) rfl (by kernel_rfl) (by kernel_rfl) (by kernel_rfl) (fun _ _ _ h => h) (Or.inl ⟨by rfl, ?_⟩) (by assumption) ?_
      rotate_left
      · intro w hSw
        go_simp
        all_goals with_reducible rfl
      simp only [Act.put, List.setIfInBounds_toArray, List.set_cons_zero, List.set_cons_succ]
      refine wpAnyH_take (i := 8) (oi := ⟨_, _, _, _, _, _⟩) (v := ?_) rfl (by kernel_rfl) (by kernel_rfl) (by kernel_rfl) (fun _ _ _ h => h) (Or.inl ⟨by rfl, ?_⟩) (by assumption) ?_
      rotate_left
      · intro w hSw
        go_simp
        all_goals with_reducible rfl
      simp only [Act.put, List.setIfInBounds_toArray, List.set_cons_zero, List.set_cons_succ]
      refine wpAnyH_take (i := 9) (oi := ⟨_, _, _, _, _, _⟩) rfl (by kernel_rfl) (by kernel_rfl) (by kernel_rfl) (fun _ _ _ h => h) (yieldsIf_load_at 24 (.tmp 1) w.heap.size 0 #[.int .i64 h, .int .i64 p, .int .i64 e, .int .i64 rc, .int .i64 rl, .int .i64 b, .int .i64 pa, .int .i64 ta, .int .i64 re, .int .i64 ro, .int .i64 pd, .int .i64 ca] _ HRB.out rfl (by rfl) rfl rfl rfl rfl) (by assumption) ?_
      simp only [Act.put, List.setIfInBounds_toArray, List.set_cons_zero, List.set_cons_succ]
      refine wpAnyH_take (i := 12) (oi := ⟨_, _, _, _, _, _⟩) rfl (by kernel_rfl) (by kernel_rfl) (by kernel_rfl) (fun _ _ _ h => h) (yieldsIf_load_at 24 (.tmp 1) w.heap.size 0 #[.int .i64 h, .int .i64 p, .int .i64 e, .int .i64 rc, .int .i64 rl, .int .i64 b, .int .i64 pa, .int .i64 ta, .int .i64 re, .int .i64 ro, .int .i64 pd, .int .i64 ca] _ HRB.out rfl (by rfl) rfl rfl rfl rfl) (by assumption) ?_
      simp only [Act.put, List.setIfInBounds_toArray, List.set_cons_zero, List.set_cons_succ]
      refine wpAnyH_ready (rs := [10]) (by kernel_rfl) (by simp) ?_
      refine AllReadyH.cons (o := ⟨_, _, _, _, _, _⟩) rfl (fun K hK => ?_) AllReadyH.nil
      go_simp
      (go_at_call 29; refine (SR.out _).mono ?_; rintro e w5 ⟨bw5, rfl, hiw5, hb⟩)
      have Sw5 : Below (w.alloc (.cells #[.int .i64 h, .int .i64 p, .int .i64 e, .int .i64 rc, .int .i64 rl, .int .i64 b, .int .i64 pa, .int .i64 ta, .int .i64 re, .int .i64 ro, .int .i64 pd, .int .i64 ca] 24)).heap.size (w.alloc (.cells #[.int .i64 h, .int .i64 p, .int .i64 e, .int .i64 rc, .int .i64 rl, .int .i64 b, .int .i64 pa, .int .i64 ta, .int .i64 re, .int .i64 ro, .int .i64 pd, .int .i64 ca] 24)) w5 := Sw3.trans (hb.mono Sw3.size)
      have Dw5 := Sw5
      have HIw5 := Lib.hid hiw5
      clear hb hiw5
      go_wp2_with fail
      refine hK.out _ _ Sw5 (fun hHeld => ?_)
      clear hK K
      try simp only [Act.put, List.setIfInBounds_toArray, List.set_cons_zero, List.set_cons_succ]
      refine wpAnyH_ready (rs := [11]) (by kernel_rfl) (by simp) ?_
      refine AllReadyH.cons (o := ⟨_, _, _, _, _, _⟩) rfl (fun K hK => ?_) AllReadyH.nil
      go_simp
      (go_at_call 28; refine (SM2.out bw5 _ HIw5.out).mono ?_; rintro e w6 ⟨rfl, rfl⟩)
      go_wp2_with fail
      refine hK.out _ _ Dw5 (fun hHeld => ?_)
      clear hK K
      try simp only [Act.put, List.setIfInBounds_toArray, List.set_cons_zero, List.set_cons_succ]
      refine wpAnyH_ready (rs := [13]) (by kernel_rfl) (by simp) ?_
      refine AllReadyH.cons (o := ⟨_, _, _, _, _, _⟩) rfl (fun K hK => ?_) AllReadyH.nil
      go_simp
      (go_at_call 35; refine (UR.out _).mono ?_; rintro e w7 ⟨bw7, rfl, hiw7, hb⟩)
      have Sw7 : Below (w.alloc (.cells #[.int .i64 h, .int .i64 p, .int .i64 e, .int .i64 rc, .int .i64 rl, .int .i64 b, .int .i64 pa, .int .i64 ta, .int .i64 re, .int .i64 ro, .int .i64 pd, .int .i64 ca] 24)).heap.size (w.alloc (.cells #[.int .i64 h, .int .i64 p, .int .i64 e, .int .i64 rc, .int .i64 rl, .int .i64 b, .int .i64 pa, .int .i64 ta, .int .i64 re, .int .i64 ro, .int .i64 pd, .int .i64 ca] 24)) w7 := Sw5.trans (hb.mono Sw5.size)
      have Dw7 := Sw7
      have HIw7 := Lib.hid hiw7
      clear hb hiw7
      go_wp2_with fail
      refine hK.out _ _ Sw7 (fun hHeld => ?_)
      clear hK K
      try simp only [Act.put, List.setIfInBounds_toArray, List.set_cons_zero, List.set_cons_succ]
      refine wpAnyH_ready (rs := [14]) (by kernel_rfl) (by simp) ?_
      refine AllReadyH.cons (o := ⟨_, _, _, _, _, _⟩) rfl (fun K hK => ?_) AllReadyH.nil
      go_simp
      (go_at_call 28; refine (SU2.out bw7 _ HIw7.out).mono ?_; rintro e w8 ⟨rfl, rfl⟩)
      go_wp2_with fail
      refine hK.out _ _ Dw7 (fun hHeld => ?_)
      clear hK K
      try simp only [Act.put, List.setIfInBounds_toArray, List.set_cons_zero, List.set_cons_succ]
      refine wpAnyH_take (i := 15) (oi := ⟨_, _, _, _, _, _⟩) (v := ?_) rfl (by kernel_rfl) (by kernel_rfl) (by kernel_rfl) (fun _ _ _ h => h) (Or.inl ⟨by rfl, ?_⟩) (by assumption) ?_
      rotate_left
      · intro w hSw
        go_simp
        all_goals with_reducible rfl
      simp only [Act.put, List.setIfInBounds_toArray, List.set_cons_zero, List.set_cons_succ]
      refine wpAnyH_take (i := 16) (oi := ⟨_, _, _, _, _, _⟩) (v := ?_) rfl (by kernel_rfl) (by kernel_rfl) (by kernel_rfl) (fun _ _ _ h => h) (Or.inl ⟨by rfl, ?_⟩) (by assumption) ?_
      rotate_left
      · intro w hSw
        go_simp
        all_goals with_reducible rfl
      simp only [Act.put, List.setIfInBounds_toArray, List.set_cons_zero, List.set_cons_succ]
      refine wpAnyH_take (i := 17) (oi := ⟨_, _, _, _, _, _⟩) (v := ?_) rfl (by kernel_rfl) (by kernel_rfl) (by kernel_rfl) (fun _ _ _ h => h) (Or.inl ⟨by rfl, ?_⟩) (by assumption) ?_
      rotate_left
      · intro w hSw
        go_simp
        all_goals with_reducible rfl
      simp only [Act.put, List.setIfInBounds_toArray, List.set_cons_zero, List.set_cons_succ]
      refine wpAnyH_done (by kernel_rfl) ?_ _
      have HBE := Lib.hid (B0.out.trans (Sw7.mono B0.out.size))
      clear hHeld
      go_wp2_with fail
      go_ret
      exact ⟨by rw [HO.out]; rfl, HBE.out⟩

end Go.Proofs.Ytejkgnlflhngbaa
