/- Package fact: Valid. -/
import Derived.Test.YtfiabonacpepnaaGreatDoorFkI
namespace Go.Proofs.YtfiabonacpepnaaGreatDoor.Fb
open Go Go.RowKit Go.Lib Go.Shelf Go.Maps
attribute [local go_sem] Oper.semAt_some

theorem build_rec (f : FactV) : Array.foldl (fun (cs : Array Value) (x : Value × Nat) => cs.setIfInBounds x.2 x.1) #[.int .i64 0, .int .i64 0, .int .i64 0, .int .i64 0, .int .i64 0, .int .i64 0, .int .i64 0, .int .i64 0, .int .i64 0, .int .i64 0, .int .i64 0, .int .i64 0, .int .i64 0, .int .i64 0, .int .i64 0, .int .i64 0, .int .i64 0, .string ⟨#[]⟩] f.cells.zipIdx 0 f.cells.size = f.cells := by kernel_rfl
theorem bare_cells (k v : Int) : (bareK k v).cells = #[.int .i64 k, .int .i64 0, .int .i64 v, .int .i64 0, .int .i64 0, .int .i64 0, .int .i64 0, .int .i64 0, .int .i64 0, .int .i64 0, .int .i64 0, .int .i64 0, .int .i64 0, .int .i64 0, .int .i64 0, .int .i64 0, .int .i64 0, .string ⟨#[]⟩] := by simp [bareK, FactV.cells]
theorem wpQuiet_load_at {P : Program} {ops : Array Oper} {C : World → Prop} {Q : Act → Prop} {a : Act} {o : Oper} {rest : List Oper} (ty : TypeId) (x : Operand) (b off : Nat) (cs : Array Value) (d : TypeDesc) (hc : ∀ w, C w → ∀ j v, cs[j]? = some v → w.cell? ⟨b, off + j, none⟩ = some v)
    (hu : P.underlying ty = some d) (hw : Region.wanted o (yielded ops a.tmps) = true) (ho : o.op = .load ty x) (hx : a.eval x = .pointer (some ⟨b, off, none⟩)) (hd : (match d with | .struct _ | .array _ _ => true | _ => false) = true) (hi : (P.info? ty).map (·.size) = some cs.size)
    (h : wpQuiet P ops C Q rest (a.put o.dst (.agg cs))) : wpQuiet P ops C Q (o :: rest) a := by
  unfold wpQuiet
  rw [if_pos hw]
  refine ⟨.agg cs, fun w hC => ?_, h⟩
  unfold Oper.quietAt
  simp only [execOp, ho, hx, Instr.loadAt, Instr.sureAddr, Sem.run_bind, Sem.run_pure, Result.andThen_ok, run_loadVar_at w b off ty cs d (hc w hC) hu hd hi]
  exact ⟨rfl, rfl⟩
theorem kn_text (f : FactV) {j a c : Nat} {b : Bool} (hm : (j, a, b, c) ∈ knList) (hj : f.n 0 = (j : Int)) : hasText f = b ∧ 1 ≤ f.n 0 ∧ f.n 0 ≤ 10 := by
  simp only [knList, List.mem_cons, List.not_mem_nil, or_false, Prod.mk.injEq] at hm
  rcases hm with ⟨rfl, _, rfl, _⟩ | ⟨rfl, _, rfl, _⟩ | ⟨rfl, _, rfl, _⟩ | ⟨rfl, _, rfl, _⟩ | ⟨rfl, _, rfl, _⟩ | ⟨rfl, _, rfl, _⟩ | ⟨rfl, _, rfl, _⟩ | ⟨rfl, _, rfl, _⟩ | ⟨rfl, _, rfl, _⟩ | ⟨rfl, _, rfl, _⟩ <;> exact ⟨by simp [hasText, hj], by omega, by omega⟩
theorem not_before : ∀ (l : List (Nat × Int × Int)) (j : Nat) (x : Nat × Int × Int), (l.map (·.1)).Nodup → l[j]? = some x → x.1 ∉ (l.take j).map (·.1)
  | [], j, x, _, h => by simp at h
  | y :: l, 0, x, _, _ => by simp
  | y :: l, j + 1, x, hn, h => by
    rw [List.map_cons, List.nodup_cons] at hn
    have ih := not_before l j x hn.2 (by simpa using h)
    rw [List.take_succ_cons, List.map_cons, List.mem_cons, not_or]
    refine ⟨fun e => hn.1 ?_, ih⟩
    rw [← e]
    exact List.mem_map_of_mem (List.mem_of_getElem? (by simpa using h))
set_option maxRecDepth 100000 in
set_option maxHeartbeats 4000000 in
theorem valid_other (f : FactV) (w : World) (h1 : -9223372036854775808 ≤ f.n 0) (h2 : f.n 0 ≤ 9223372036854775807) (hn : ¬(1 ≤ f.n 0 ∧ f.n 0 ≤ 10)) :
    Calls Tryz.prog 44 #[.agg f.cells] w fun e w' => e = .returned (.bool (validB f)) ∧ Below w.heap.size w w' := by
  have LK : Hid (∀ W eb, KnAt W eb → (Instr.lookup 120 (.map (some eb)) (.int .i64 (f.n 0)) true).run Tryz.prog W = .ok (.tuple #[.agg #[.nilFunc, .bool false, .nilFunc], .bool false]) W) := Lib.hid (fun W eb hK => kn_other hK _ h1 h2 hn)
  obtain ⟨W1, hW1⟩ : ∃ z, w.alloc (.cells f.cells 47) = z := ⟨_, rfl⟩
  have r1 : RowAt W1 w.heap.size 47 f.cells := by rw [← hW1]; exact RowAt.new w _ _
  have hbw : Below w.heap.size w W1 := by rw [← hW1]; exact (Below.refl _ _).alloc (Nat.le_refl _) _
  have HR := Lib.hid (And.intro r1 hbw)
  have HNO : Hid (decide (1 ≤ f.n 0 ∧ f.n 0 ≤ 10) = false) := Lib.hid (decide_eq_false hn)
  obtain ⟨k, hk⟩ : ∃ z, f.n 0 = z := ⟨_, rfl⟩
  obtain ⟨vn, hvn⟩ : ∃ z, f.n 2 = z := ⟨_, rfl⟩
  have g0 : f.cells[0]? = some (.int .i64 k) := by rw [← hk]; rfl
  have g2 : f.cells[2]? = some (.int .i64 vn) := by rw [← hvn]; rfl
  have g17 : f.cells[17]? = some (.string f.text) := rfl
  rw [hk] at LK
  have HKK := Lib.hid (And.intro hk hvn)
  obtain ⟨cs, hcs⟩ : ∃ z, f.cells = z := ⟨_, rfl⟩
  rw [hcs] at g0 g2 g17 hW1 HR ⊢
  have HCS := Lib.hid hcs
  have HKP : Hid (∀ W, Below W1.heap.size W1 W → Below W1.heap.size W1 W ∧ W.cell? ⟨w.heap.size, 0, none⟩ = some (.int .i64 k)) := Lib.hid (fun W hb => ⟨hb, by rw [(HR.out.1.below hb HR.out.1.lt).cell 0]; exact g0⟩)
  have HC2 : Hid (∀ W, Below W1.heap.size W1 W → W.cell? ⟨w.heap.size, 2, none⟩ = some (.int .i64 vn) ∧ W.cell? ⟨w.heap.size, 17, none⟩ = some (.string f.text)) := Lib.hid (fun W hb => ⟨by rw [(HR.out.1.below hb HR.out.1.lt).cell 2]; exact g2, by rw [(HR.out.1.below hb HR.out.1.lt).cell 17]; exact g17⟩)
  have hb1 := Below.refl W1.heap.size W1
  clear r1 hbw hk hvn hcs g2 g17 h1 h2 hn
  go_enter Tryz.func44, Tryz.ntmps44
  go_wp2_with fail
  clear hW1
  go_cut [3, 4] from 8 to 14 (fun v3 v4 wx => v4 = .bool false ∧ ∃ kb : Nat, v3 = .pointer (some ⟨kb, 0, none⟩) ∧ Hid (RowAt wx kb 118 #[.nilFunc, .bool false, .nilFunc] ∧ Below W1.heap.size W1 wx))
  case first =>
    refine wp_region_noPanic ?_
    refine wp_region_held_drew (S := fun W => Below W1.heap.size W1 W ∧ W.cell? ⟨w.heap.size, 0, none⟩ = some (.int .i64 k)) (by kernel_rfl) (HKP.out _ hb1.drew) (fun hHeld => ?_)
    refine wpAnyH_take (i := 1) (oi := ⟨_, _, _, _, _, _⟩) (v := ?_) rfl (by kernel_rfl) (by kernel_rfl) (by kernel_rfl) (fun _ _ _ h => h) (Or.inl ⟨by rfl, ?_⟩) (by assumption) ?_
    rotate_left
    · intro w hSw
      go_simp
      all_goals with_reducible rfl
    simp only [Act.put, List.setIfInBounds_toArray, List.set_cons_zero, List.set_cons_succ]
    refine wpAnyH_take (i := 2) (oi := ⟨_, _, _, _, _, _⟩) (v := ?_) rfl (by kernel_rfl) (by kernel_rfl) (by kernel_rfl) (fun _ _ _ h => h) (Or.inl ⟨by rfl, ?_⟩) (by assumption) ?_
    rotate_left
    · intro w hSw
      have hcz := hSw.2
      go_simp
      all_goals with_reducible rfl
    simp only [Act.put, List.setIfInBounds_toArray, List.set_cons_zero, List.set_cons_succ]
    refine wpAnyH_ready (rs := [0, 7]) (by kernel_rfl) (by simp) ?_
    refine AllReadyH.cons (o := ⟨_, _, _, _, _, _⟩) rfl (fun K hK => ?_) ?_
    rotate_left
    · refine AllReadyH.cons (o := ⟨_, _, _, _, _, _⟩) rfl (fun K hK => ?_) AllReadyH.nil
      go_simp
      refine hK.out _ _ (HKP.out _ (hb1.drew.alloc hb1.size _)) (fun _ => ?_)
      clear hK K
      try simp only [Act.put, List.setIfInBounds_toArray, List.set_cons_zero, List.set_cons_succ]
      refine wpAnyH_ready (rs := [0]) (by kernel_rfl) (by simp) ?_
      refine AllReadyH.cons (o := ⟨_, _, _, _, _, _⟩) rfl (fun K hK => ?_) AllReadyH.nil
      go_simp
      refine (kinds_any _).mono ?_
      rintro e Y ⟨rfl, hkn, hY⟩
      have hYB := ((hb1.drew.alloc hb1.size (.cells #[.nilFunc, .bool false, .nilFunc] 118))).trans (hY.mono (Below.size ((hb1.drew.alloc hb1.size (.cells #[.nilFunc, .bool false, .nilFunc] 118)))))
      go_wp2_with fail
      refine hK.out _ _ (HKP.out _ hYB) (fun _ => ?_)
      clear hK K
      try simp only [Act.put, List.setIfInBounds_toArray, List.set_cons_zero, List.set_cons_succ]
      have rB := (RowAt.new W1.drew 118 #[.nilFunc, .bool false, .nilFunc]).below hY (by simp)
      have hlk := LK.out Y (W1.heap.size + 1) (by have h := hkn; simpa using h)
      refine wpAnyH_ready (rs := [3]) (by kernel_rfl) (by simp) ?_
      refine AllReadyH.cons (o := ⟨_, _, _, _, _, _⟩) rfl (fun K hK => ?_) AllReadyH.nil
      go_simp
      refine hK.out _ _ (HKP.out _ hYB) (fun _ => ?_)
      clear hK K
      try simp only [Act.put, List.setIfInBounds_toArray, List.set_cons_zero, List.set_cons_succ]
      refine wpAnyH_take (i := 4) (oi := ⟨_, _, _, _, _, _⟩) (v := ?_) rfl (by kernel_rfl) (by kernel_rfl) (by kernel_rfl) (fun _ _ _ h => h) (Or.inl ⟨by rfl, ?_⟩) (by assumption) ?_
      rotate_left
      · intro w hSw
        go_simp
        all_goals with_reducible rfl
      simp only [Act.put, List.setIfInBounds_toArray, List.set_cons_zero, List.set_cons_succ]
      refine wpAnyH_take (i := 5) (oi := ⟨_, _, _, _, _, _⟩) (v := ?_) rfl (by kernel_rfl) (by kernel_rfl) (by kernel_rfl) (fun _ _ _ h => h) (Or.inl ⟨by rfl, ?_⟩) (by assumption) ?_
      rotate_left
      · intro w hSw
        go_simp
        all_goals with_reducible rfl
      simp only [Act.put, List.setIfInBounds_toArray, List.set_cons_zero, List.set_cons_succ]
      refine wpAnyH_take (i := 6) (oi := ⟨_, _, _, _, _, _⟩) (v := ?_) rfl (by kernel_rfl) (by kernel_rfl) (by kernel_rfl) (fun _ _ _ h => h) (Or.inl ⟨by rfl, ?_⟩) (by assumption) ?_
      rotate_left
      · intro w hSw
        go_simp
        all_goals with_reducible rfl
      simp only [Act.put, List.setIfInBounds_toArray, List.set_cons_zero, List.set_cons_succ]
      have q0 : Y.cell? ⟨W1.heap.size, 0, none⟩ = some .nilFunc := by have h := rB.cell 0; simpa using h
      have q1 : Y.cell? ⟨W1.heap.size, 1, none⟩ = some (.bool false) := by have h := rB.cell 1; simpa using h
      have q2 : Y.cell? ⟨W1.heap.size, 2, none⟩ = some .nilFunc := by have h := rB.cell 2; simpa using h
      have p0 : Y.frozen? ⟨W1.heap.size, 0, none⟩ = false := by have h := rB.free 0; simpa using h
      have p1 : Y.frozen? ⟨W1.heap.size, 1, none⟩ = false := by have h := rB.free 1; simpa using h
      have p2 : Y.frozen? ⟨W1.heap.size, 2, none⟩ = false := by have h := rB.free 2; simpa using h
      refine wpAnyH_ready (rs := [8]) (by kernel_rfl) (by simp) ?_
      refine AllReadyH.cons (o := ⟨_, _, _, _, _, _⟩) rfl (fun K hK => ?_) AllReadyH.nil
      go_simp
      refine hK.out _ _ (HKP.out _ (by first | exact hYB.alloc hYB.size _ | exact Below.setCell (Below.setCell (Below.setCell hYB (Nat.le_refl _) _) (Nat.le_refl _) _) (Nat.le_refl _) _)) (fun _ => ?_)
      clear hK K
      try simp only [Act.put, List.setIfInBounds_toArray, List.set_cons_zero, List.set_cons_succ]
      refine wpAnyH_take (i := 9) (oi := ⟨_, _, _, _, _, _⟩) (v := ?_) rfl (by kernel_rfl) (by kernel_rfl) (by kernel_rfl) (fun _ _ _ h => h) (Or.inl ⟨by rfl, ?_⟩) (by assumption) ?_
      rotate_left
      · intro w hSw
        go_simp
        all_goals with_reducible rfl
      simp only [Act.put, List.setIfInBounds_toArray, List.set_cons_zero, List.set_cons_succ]
      refine wpAnyH_done (by kernel_rfl) ?_ _
      refine NoPanic.normal ?_
      go_wp2_with fail
      go_meet
      case rel => exact ⟨rfl, _, rfl, Lib.hid (by first | exact ⟨RowAt.new Y _ _, hYB.alloc hYB.size _⟩ | exact ⟨((RowAt.set (show RowAt Y W1.heap.size 118 #[.nilFunc, .bool false, .nilFunc] from rB) 0 _).set 1 _).set 2 _, Below.setCell (p := ⟨W1.heap.size, 2, none⟩) (Below.setCell (p := ⟨W1.heap.size, 1, none⟩) (Below.setCell (p := ⟨W1.heap.size, 0, none⟩) hYB (Nat.le_refl _) _) (Nat.le_refl _) _) (Nat.le_refl _) _⟩)⟩
    · go_simp
      refine (kinds_any _).mono ?_
      rintro e Y ⟨rfl, hkn, hY⟩
      have hYB := (hb1.drew).trans (hY.mono (Below.size (hb1.drew)))
      go_wp2_with fail
      refine hK.out _ _ (HKP.out _ hYB) (fun _ => ?_)
      clear hK K
      try simp only [Act.put, List.setIfInBounds_toArray, List.set_cons_zero, List.set_cons_succ]
      have hlk := LK.out Y (W1.heap.size) (by have h := hkn; simpa using h)
      have hlk2 := LK.out (Y.alloc (.cells #[.nilFunc, .bool false, .nilFunc] 118)) W1.heap.size (by have h := KnAt.below hkn (Below.alloc (Below.refl Y.heap.size Y) (Nat.le_refl _) (.cells #[.nilFunc, .bool false, .nilFunc] 118)) hkn.lt; simpa using h)
      refine wpAnyH_ready (rs := [3, 7]) (by kernel_rfl) (by simp) ?_
      refine AllReadyH.cons (o := ⟨_, _, _, _, _, _⟩) rfl (fun K hK => ?_) ?_
      rotate_left
      · refine AllReadyH.cons (o := ⟨_, _, _, _, _, _⟩) rfl (fun K hK => ?_) AllReadyH.nil
        go_simp
        refine hK.out _ _ (HKP.out _ (hYB.alloc hYB.size _)) (fun _ => ?_)
        clear hK K
        try simp only [Act.put, List.setIfInBounds_toArray, List.set_cons_zero, List.set_cons_succ]
        refine wpAnyH_ready (rs := [3]) (by kernel_rfl) (by simp) ?_
        refine AllReadyH.cons (o := ⟨_, _, _, _, _, _⟩) rfl (fun K hK => ?_) AllReadyH.nil
        go_simp
        refine hK.out _ _ (HKP.out _ (hYB.alloc hYB.size _)) (fun _ => ?_)
        clear hK K
        try simp only [Act.put, List.setIfInBounds_toArray, List.set_cons_zero, List.set_cons_succ]
        refine wpAnyH_take (i := 4) (oi := ⟨_, _, _, _, _, _⟩) (v := ?_) rfl (by kernel_rfl) (by kernel_rfl) (by kernel_rfl) (fun _ _ _ h => h) (Or.inl ⟨by rfl, ?_⟩) (by assumption) ?_
        rotate_left
        · intro w hSw
          go_simp
          all_goals with_reducible rfl
        simp only [Act.put, List.setIfInBounds_toArray, List.set_cons_zero, List.set_cons_succ]
        refine wpAnyH_take (i := 5) (oi := ⟨_, _, _, _, _, _⟩) (v := ?_) rfl (by kernel_rfl) (by kernel_rfl) (by kernel_rfl) (fun _ _ _ h => h) (Or.inl ⟨by rfl, ?_⟩) (by assumption) ?_
        rotate_left
        · intro w hSw
          go_simp
          all_goals with_reducible rfl
        simp only [Act.put, List.setIfInBounds_toArray, List.set_cons_zero, List.set_cons_succ]
        refine wpAnyH_take (i := 6) (oi := ⟨_, _, _, _, _, _⟩) (v := ?_) rfl (by kernel_rfl) (by kernel_rfl) (by kernel_rfl) (fun _ _ _ h => h) (Or.inl ⟨by rfl, ?_⟩) (by assumption) ?_
        rotate_left
        · intro w hSw
          go_simp
          all_goals with_reducible rfl
        simp only [Act.put, List.setIfInBounds_toArray, List.set_cons_zero, List.set_cons_succ]
        refine wpAnyH_ready (rs := [8]) (by kernel_rfl) (by simp) ?_
        refine AllReadyH.cons (o := ⟨_, _, _, _, _, _⟩) rfl (fun K hK => ?_) AllReadyH.nil
        go_simp
        refine hK.out _ _ (HKP.out _ (by first | exact hYB.alloc hYB.size _ | exact Below.setCell (Below.setCell (Below.setCell hYB (Nat.le_refl _) _) (Nat.le_refl _) _) (Nat.le_refl _) _)) (fun _ => ?_)
        clear hK K
        try simp only [Act.put, List.setIfInBounds_toArray, List.set_cons_zero, List.set_cons_succ]
        refine wpAnyH_take (i := 9) (oi := ⟨_, _, _, _, _, _⟩) (v := ?_) rfl (by kernel_rfl) (by kernel_rfl) (by kernel_rfl) (fun _ _ _ h => h) (Or.inl ⟨by rfl, ?_⟩) (by assumption) ?_
        rotate_left
        · intro w hSw
          go_simp
          all_goals with_reducible rfl
        simp only [Act.put, List.setIfInBounds_toArray, List.set_cons_zero, List.set_cons_succ]
        refine wpAnyH_done (by kernel_rfl) ?_ _
        refine NoPanic.normal ?_
        go_wp2_with fail
        go_meet
        case rel => exact ⟨rfl, _, rfl, Lib.hid (by first | exact ⟨RowAt.new Y _ _, hYB.alloc hYB.size _⟩ | exact ⟨((RowAt.set (show RowAt Y W1.heap.size 118 #[.nilFunc, .bool false, .nilFunc] from rB) 0 _).set 1 _).set 2 _, Below.setCell (p := ⟨W1.heap.size, 2, none⟩) (Below.setCell (p := ⟨W1.heap.size, 1, none⟩) (Below.setCell (p := ⟨W1.heap.size, 0, none⟩) hYB (Nat.le_refl _) _) (Nat.le_refl _) _) (Nat.le_refl _) _⟩)⟩
      · go_simp
        refine hK.out _ _ (HKP.out _ hYB) (fun _ => ?_)
        clear hK K
        try simp only [Act.put, List.setIfInBounds_toArray, List.set_cons_zero, List.set_cons_succ]
        refine wpAnyH_take (i := 4) (oi := ⟨_, _, _, _, _, _⟩) (v := ?_) rfl (by kernel_rfl) (by kernel_rfl) (by kernel_rfl) (fun _ _ _ h => h) (Or.inl ⟨by rfl, ?_⟩) (by assumption) ?_
        rotate_left
        · intro w hSw
          go_simp
          all_goals with_reducible rfl
        simp only [Act.put, List.setIfInBounds_toArray, List.set_cons_zero, List.set_cons_succ]
        refine wpAnyH_take (i := 5) (oi := ⟨_, _, _, _, _, _⟩) (v := ?_) rfl (by kernel_rfl) (by kernel_rfl) (by kernel_rfl) (fun _ _ _ h => h) (Or.inl ⟨by rfl, ?_⟩) (by assumption) ?_
        rotate_left
        · intro w hSw
          go_simp
          all_goals with_reducible rfl
        simp only [Act.put, List.setIfInBounds_toArray, List.set_cons_zero, List.set_cons_succ]
        refine wpAnyH_take (i := 6) (oi := ⟨_, _, _, _, _, _⟩) (v := ?_) rfl (by kernel_rfl) (by kernel_rfl) (by kernel_rfl) (fun _ _ _ h => h) (Or.inl ⟨by rfl, ?_⟩) (by assumption) ?_
        rotate_left
        · intro w hSw
          go_simp
          all_goals with_reducible rfl
        simp only [Act.put, List.setIfInBounds_toArray, List.set_cons_zero, List.set_cons_succ]
        refine wpAnyH_ready (rs := [7]) (by kernel_rfl) (by simp) ?_
        refine AllReadyH.cons (o := ⟨_, _, _, _, _, _⟩) rfl (fun K hK => ?_) AllReadyH.nil
        go_simp
        refine hK.out _ _ (HKP.out _ (hYB.alloc hYB.size _)) (fun _ => ?_)
        clear hK K
        try simp only [Act.put, List.setIfInBounds_toArray, List.set_cons_zero, List.set_cons_succ]
        refine wpAnyH_ready (rs := [8]) (by kernel_rfl) (by simp) ?_
        refine AllReadyH.cons (o := ⟨_, _, _, _, _, _⟩) rfl (fun K hK => ?_) AllReadyH.nil
        go_simp
        refine hK.out _ _ (HKP.out _ (by first | exact hYB.alloc hYB.size _ | exact Below.setCell (Below.setCell (Below.setCell hYB (Nat.le_refl _) _) (Nat.le_refl _) _) (Nat.le_refl _) _)) (fun _ => ?_)
        clear hK K
        try simp only [Act.put, List.setIfInBounds_toArray, List.set_cons_zero, List.set_cons_succ]
        refine wpAnyH_take (i := 9) (oi := ⟨_, _, _, _, _, _⟩) (v := ?_) rfl (by kernel_rfl) (by kernel_rfl) (by kernel_rfl) (fun _ _ _ h => h) (Or.inl ⟨by rfl, ?_⟩) (by assumption) ?_
        rotate_left
        · intro w hSw
          go_simp
          all_goals with_reducible rfl
        simp only [Act.put, List.setIfInBounds_toArray, List.set_cons_zero, List.set_cons_succ]
        refine wpAnyH_done (by kernel_rfl) ?_ _
        refine NoPanic.normal ?_
        go_wp2_with fail
        go_meet
        case rel => exact ⟨rfl, _, rfl, Lib.hid (by first | exact ⟨RowAt.new Y _ _, hYB.alloc hYB.size _⟩ | exact ⟨((RowAt.set (show RowAt Y W1.heap.size 118 #[.nilFunc, .bool false, .nilFunc] from rB) 0 _).set 1 _).set 2 _, Below.setCell (p := ⟨W1.heap.size, 2, none⟩) (Below.setCell (p := ⟨W1.heap.size, 1, none⟩) (Below.setCell (p := ⟨W1.heap.size, 0, none⟩) hYB (Nat.le_refl _) _) (Nat.le_refl _) _) (Nat.le_refl _) _⟩)⟩

  case rest =>
    obtain ⟨rfl, kb, rfl, hz⟩ := hcut
    go_wp2_with fail
    go_ret
    exact ⟨by unfold validB; rw [HNO.out]; simp, HR.out.2.trans (hz.out.2.mono HR.out.2.size)⟩
set_option maxRecDepth 100000 in
set_option maxHeartbeats 4000000 in
theorem valid_known (f : FactV) (w : World) {j a c : Nat} {b : Bool} (hm : (j, a, b, c) ∈ knList) (hj : f.n 0 = (j : Int)) :
    Calls Tryz.prog 44 #[.agg f.cells] w fun e w' => e = .returned (.bool (validB f)) ∧ Below w.heap.size w w' := by
  have LK : Hid (∀ W eb, KnAt W eb → (Instr.lookup 120 (.map (some eb)) (.int .i64 (f.n 0)) true).run Tryz.prog W = .ok (.tuple #[.agg #[.func (.func a) #[] #[], .bool b, .func (.func c) #[] #[]], .bool true]) W) := Lib.hid (fun W eb hK => by rw [hj]; exact kn_known hK hm)
  obtain ⟨W1, hW1⟩ : ∃ z, w.alloc (.cells f.cells 47) = z := ⟨_, rfl⟩
  have r1 : RowAt W1 w.heap.size 47 f.cells := by rw [← hW1]; exact RowAt.new w _ _
  have hbw : Below w.heap.size w W1 := by rw [← hW1]; exact (Below.refl _ _).alloc (Nat.le_refl _) _
  have HR := Lib.hid (And.intro r1 hbw)
  have FK := Lib.hid (fields_kind f hm hj)
  have hcf := (kn_enter hm).2
  have HT := Lib.hid (kn_text f hm hj)
  obtain ⟨k, hk⟩ : ∃ z, f.n 0 = z := ⟨_, rfl⟩
  obtain ⟨vn, hvn⟩ : ∃ z, f.n 2 = z := ⟨_, rfl⟩
  have g0 : f.cells[0]? = some (.int .i64 k) := by rw [← hk]; rfl
  have g2 : f.cells[2]? = some (.int .i64 vn) := by rw [← hvn]; rfl
  have g17 : f.cells[17]? = some (.string f.text) := rfl
  rw [hk] at LK
  have HKK := Lib.hid (And.intro hk hvn)
  obtain ⟨cs, hcs⟩ : ∃ z, f.cells = z := ⟨_, rfl⟩
  rw [hcs] at g0 g2 g17 hW1 HR ⊢
  have HCS := Lib.hid hcs
  have HKP : Hid (∀ W, Below W1.heap.size W1 W → Below W1.heap.size W1 W ∧ W.cell? ⟨w.heap.size, 0, none⟩ = some (.int .i64 k)) := Lib.hid (fun W hb => ⟨hb, by rw [(HR.out.1.below hb HR.out.1.lt).cell 0]; exact g0⟩)
  have HC2 : Hid (∀ W, Below W1.heap.size W1 W → W.cell? ⟨w.heap.size, 2, none⟩ = some (.int .i64 vn) ∧ W.cell? ⟨w.heap.size, 17, none⟩ = some (.string f.text)) := Lib.hid (fun W hb => ⟨by rw [(HR.out.1.below hb HR.out.1.lt).cell 2]; exact g2, by rw [(HR.out.1.below hb HR.out.1.lt).cell 17]; exact g17⟩)
  have hb1 := Below.refl W1.heap.size W1
  clear r1 hbw hk hvn hcs g2 g17 hm hj
  go_enter Tryz.func44, Tryz.ntmps44
  go_wp2_with fail
  clear hW1
  go_cut [3, 4] from 8 to 14 (fun v3 v4 wx => v4 = .bool true ∧ ∃ kb : Nat, v3 = .pointer (some ⟨kb, 0, none⟩) ∧ Hid (RowAt wx kb 118 #[.func (.func a) #[] #[], .bool b, .func (.func c) #[] #[]] ∧ Below W1.heap.size W1 wx))
  case first =>
    refine wp_region_noPanic ?_
    refine wp_region_held_drew (S := fun W => Below W1.heap.size W1 W ∧ W.cell? ⟨w.heap.size, 0, none⟩ = some (.int .i64 k)) (by kernel_rfl) (HKP.out _ hb1.drew) (fun hHeld => ?_)
    refine wpAnyH_take (i := 1) (oi := ⟨_, _, _, _, _, _⟩) (v := ?_) rfl (by kernel_rfl) (by kernel_rfl) (by kernel_rfl) (fun _ _ _ h => h) (Or.inl ⟨by rfl, ?_⟩) (by assumption) ?_
    rotate_left
    · intro w hSw
      go_simp
      all_goals with_reducible rfl
    simp only [Act.put, List.setIfInBounds_toArray, List.set_cons_zero, List.set_cons_succ]
    refine wpAnyH_take (i := 2) (oi := ⟨_, _, _, _, _, _⟩) (v := ?_) rfl (by kernel_rfl) (by kernel_rfl) (by kernel_rfl) (fun _ _ _ h => h) (Or.inl ⟨by rfl, ?_⟩) (by assumption) ?_
    rotate_left
    · intro w hSw
      have hcz := hSw.2
      go_simp
      all_goals with_reducible rfl
    simp only [Act.put, List.setIfInBounds_toArray, List.set_cons_zero, List.set_cons_succ]
    refine wpAnyH_ready (rs := [0, 7]) (by kernel_rfl) (by simp) ?_
    refine AllReadyH.cons (o := ⟨_, _, _, _, _, _⟩) rfl (fun K hK => ?_) ?_
    rotate_left
    · refine AllReadyH.cons (o := ⟨_, _, _, _, _, _⟩) rfl (fun K hK => ?_) AllReadyH.nil
      go_simp
      refine hK.out _ _ (HKP.out _ (hb1.drew.alloc hb1.size _)) (fun _ => ?_)
      clear hK K
      try simp only [Act.put, List.setIfInBounds_toArray, List.set_cons_zero, List.set_cons_succ]
      refine wpAnyH_ready (rs := [0]) (by kernel_rfl) (by simp) ?_
      refine AllReadyH.cons (o := ⟨_, _, _, _, _, _⟩) rfl (fun K hK => ?_) AllReadyH.nil
      go_simp
      refine (kinds_any _).mono ?_
      rintro e Y ⟨rfl, hkn, hY⟩
      have hYB := ((hb1.drew.alloc hb1.size (.cells #[.nilFunc, .bool false, .nilFunc] 118))).trans (hY.mono (Below.size ((hb1.drew.alloc hb1.size (.cells #[.nilFunc, .bool false, .nilFunc] 118)))))
      go_wp2_with fail
      refine hK.out _ _ (HKP.out _ hYB) (fun _ => ?_)
      clear hK K
      try simp only [Act.put, List.setIfInBounds_toArray, List.set_cons_zero, List.set_cons_succ]
      have rB := (RowAt.new W1.drew 118 #[.nilFunc, .bool false, .nilFunc]).below hY (by simp)
      have hlk := LK.out Y (W1.heap.size + 1) (by have h := hkn; simpa using h)
      refine wpAnyH_ready (rs := [3]) (by kernel_rfl) (by simp) ?_
      refine AllReadyH.cons (o := ⟨_, _, _, _, _, _⟩) rfl (fun K hK => ?_) AllReadyH.nil
      go_simp
      refine hK.out _ _ (HKP.out _ hYB) (fun _ => ?_)
      clear hK K
      try simp only [Act.put, List.setIfInBounds_toArray, List.set_cons_zero, List.set_cons_succ]
      refine wpAnyH_take (i := 4) (oi := ⟨_, _, _, _, _, _⟩) (v := ?_) rfl (by kernel_rfl) (by kernel_rfl) (by kernel_rfl) (fun _ _ _ h => h) (Or.inl ⟨by rfl, ?_⟩) (by assumption) ?_
      rotate_left
      · intro w hSw
        go_simp
        all_goals with_reducible rfl
      simp only [Act.put, List.setIfInBounds_toArray, List.set_cons_zero, List.set_cons_succ]
      refine wpAnyH_take (i := 5) (oi := ⟨_, _, _, _, _, _⟩) (v := ?_) rfl (by kernel_rfl) (by kernel_rfl) (by kernel_rfl) (fun _ _ _ h => h) (Or.inl ⟨by rfl, ?_⟩) (by assumption) ?_
      rotate_left
      · intro w hSw
        go_simp
        all_goals with_reducible rfl
      simp only [Act.put, List.setIfInBounds_toArray, List.set_cons_zero, List.set_cons_succ]
      refine wpAnyH_take (i := 6) (oi := ⟨_, _, _, _, _, _⟩) (v := ?_) rfl (by kernel_rfl) (by kernel_rfl) (by kernel_rfl) (fun _ _ _ h => h) (Or.inl ⟨by rfl, ?_⟩) (by assumption) ?_
      rotate_left
      · intro w hSw
        go_simp
        all_goals with_reducible rfl
      simp only [Act.put, List.setIfInBounds_toArray, List.set_cons_zero, List.set_cons_succ]
      have q0 : Y.cell? ⟨W1.heap.size, 0, none⟩ = some .nilFunc := by have h := rB.cell 0; simpa using h
      have q1 : Y.cell? ⟨W1.heap.size, 1, none⟩ = some (.bool false) := by have h := rB.cell 1; simpa using h
      have q2 : Y.cell? ⟨W1.heap.size, 2, none⟩ = some .nilFunc := by have h := rB.cell 2; simpa using h
      have p0 : Y.frozen? ⟨W1.heap.size, 0, none⟩ = false := by have h := rB.free 0; simpa using h
      have p1 : Y.frozen? ⟨W1.heap.size, 1, none⟩ = false := by have h := rB.free 1; simpa using h
      have p2 : Y.frozen? ⟨W1.heap.size, 2, none⟩ = false := by have h := rB.free 2; simpa using h
      refine wpAnyH_ready (rs := [8]) (by kernel_rfl) (by simp) ?_
      refine AllReadyH.cons (o := ⟨_, _, _, _, _, _⟩) rfl (fun K hK => ?_) AllReadyH.nil
      go_simp
      refine hK.out _ _ (HKP.out _ (by first | exact hYB.alloc hYB.size _ | exact Below.setCell (Below.setCell (Below.setCell hYB (Nat.le_refl _) _) (Nat.le_refl _) _) (Nat.le_refl _) _)) (fun _ => ?_)
      clear hK K
      try simp only [Act.put, List.setIfInBounds_toArray, List.set_cons_zero, List.set_cons_succ]
      refine wpAnyH_take (i := 9) (oi := ⟨_, _, _, _, _, _⟩) (v := ?_) rfl (by kernel_rfl) (by kernel_rfl) (by kernel_rfl) (fun _ _ _ h => h) (Or.inl ⟨by rfl, ?_⟩) (by assumption) ?_
      rotate_left
      · intro w hSw
        go_simp
        all_goals with_reducible rfl
      simp only [Act.put, List.setIfInBounds_toArray, List.set_cons_zero, List.set_cons_succ]
      refine wpAnyH_done (by kernel_rfl) ?_ _
      refine NoPanic.normal ?_
      go_wp2_with fail
      go_meet
      case rel => exact ⟨rfl, _, rfl, Lib.hid (by first | exact ⟨RowAt.new Y _ _, hYB.alloc hYB.size _⟩ | exact ⟨((RowAt.set (show RowAt Y W1.heap.size 118 #[.nilFunc, .bool false, .nilFunc] from rB) 0 _).set 1 _).set 2 _, Below.setCell (p := ⟨W1.heap.size, 2, none⟩) (Below.setCell (p := ⟨W1.heap.size, 1, none⟩) (Below.setCell (p := ⟨W1.heap.size, 0, none⟩) hYB (Nat.le_refl _) _) (Nat.le_refl _) _) (Nat.le_refl _) _⟩)⟩
    · go_simp
      refine (kinds_any _).mono ?_
      rintro e Y ⟨rfl, hkn, hY⟩
      have hYB := (hb1.drew).trans (hY.mono (Below.size (hb1.drew)))
      go_wp2_with fail
      refine hK.out _ _ (HKP.out _ hYB) (fun _ => ?_)
      clear hK K
      try simp only [Act.put, List.setIfInBounds_toArray, List.set_cons_zero, List.set_cons_succ]
      have hlk := LK.out Y (W1.heap.size) (by have h := hkn; simpa using h)
      have hlk2 := LK.out (Y.alloc (.cells #[.nilFunc, .bool false, .nilFunc] 118)) W1.heap.size (by have h := KnAt.below hkn (Below.alloc (Below.refl Y.heap.size Y) (Nat.le_refl _) (.cells #[.nilFunc, .bool false, .nilFunc] 118)) hkn.lt; simpa using h)
      refine wpAnyH_ready (rs := [3, 7]) (by kernel_rfl) (by simp) ?_
      refine AllReadyH.cons (o := ⟨_, _, _, _, _, _⟩) rfl (fun K hK => ?_) ?_
      rotate_left
      · refine AllReadyH.cons (o := ⟨_, _, _, _, _, _⟩) rfl (fun K hK => ?_) AllReadyH.nil
        go_simp
        refine hK.out _ _ (HKP.out _ (hYB.alloc hYB.size _)) (fun _ => ?_)
        clear hK K
        try simp only [Act.put, List.setIfInBounds_toArray, List.set_cons_zero, List.set_cons_succ]
        refine wpAnyH_ready (rs := [3]) (by kernel_rfl) (by simp) ?_
        refine AllReadyH.cons (o := ⟨_, _, _, _, _, _⟩) rfl (fun K hK => ?_) AllReadyH.nil
        go_simp
        refine hK.out _ _ (HKP.out _ (hYB.alloc hYB.size _)) (fun _ => ?_)
        clear hK K
        try simp only [Act.put, List.setIfInBounds_toArray, List.set_cons_zero, List.set_cons_succ]
        refine wpAnyH_take (i := 4) (oi := ⟨_, _, _, _, _, _⟩) (v := ?_) rfl (by kernel_rfl) (by kernel_rfl) (by kernel_rfl) (fun _ _ _ h => h) (Or.inl ⟨by rfl, ?_⟩) (by assumption) ?_
        rotate_left
        · intro w hSw
          go_simp
          all_goals with_reducible rfl
        simp only [Act.put, List.setIfInBounds_toArray, List.set_cons_zero, List.set_cons_succ]
        refine wpAnyH_take (i := 5) (oi := ⟨_, _, _, _, _, _⟩) (v := ?_) rfl (by kernel_rfl) (by kernel_rfl) (by kernel_rfl) (fun _ _ _ h => h) (Or.inl ⟨by rfl, ?_⟩) (by assumption) ?_
        rotate_left
        · intro w hSw
          go_simp
          all_goals with_reducible rfl
        simp only [Act.put, List.setIfInBounds_toArray, List.set_cons_zero, List.set_cons_succ]
        refine wpAnyH_take (i := 6) (oi := ⟨_, _, _, _, _, _⟩) (v := ?_) rfl (by kernel_rfl) (by kernel_rfl) (by kernel_rfl) (fun _ _ _ h => h) (Or.inl ⟨by rfl, ?_⟩) (by assumption) ?_
        rotate_left
        · intro w hSw
          go_simp
          all_goals with_reducible rfl
        simp only [Act.put, List.setIfInBounds_toArray, List.set_cons_zero, List.set_cons_succ]
        refine wpAnyH_ready (rs := [8]) (by kernel_rfl) (by simp) ?_
        refine AllReadyH.cons (o := ⟨_, _, _, _, _, _⟩) rfl (fun K hK => ?_) AllReadyH.nil
        go_simp
        refine hK.out _ _ (HKP.out _ (by first | exact hYB.alloc hYB.size _ | exact Below.setCell (Below.setCell (Below.setCell hYB (Nat.le_refl _) _) (Nat.le_refl _) _) (Nat.le_refl _) _)) (fun _ => ?_)
        clear hK K
        try simp only [Act.put, List.setIfInBounds_toArray, List.set_cons_zero, List.set_cons_succ]
        refine wpAnyH_take (i := 9) (oi := ⟨_, _, _, _, _, _⟩) (v := ?_) rfl (by kernel_rfl) (by kernel_rfl) (by kernel_rfl) (fun _ _ _ h => h) (Or.inl ⟨by rfl, ?_⟩) (by assumption) ?_
        rotate_left
        · intro w hSw
          go_simp
          all_goals with_reducible rfl
        simp only [Act.put, List.setIfInBounds_toArray, List.set_cons_zero, List.set_cons_succ]
        refine wpAnyH_done (by kernel_rfl) ?_ _
        refine NoPanic.normal ?_
        go_wp2_with fail
        go_meet
        case rel => exact ⟨rfl, _, rfl, Lib.hid (by first | exact ⟨RowAt.new Y _ _, hYB.alloc hYB.size _⟩ | exact ⟨((RowAt.set (show RowAt Y W1.heap.size 118 #[.nilFunc, .bool false, .nilFunc] from rB) 0 _).set 1 _).set 2 _, Below.setCell (p := ⟨W1.heap.size, 2, none⟩) (Below.setCell (p := ⟨W1.heap.size, 1, none⟩) (Below.setCell (p := ⟨W1.heap.size, 0, none⟩) hYB (Nat.le_refl _) _) (Nat.le_refl _) _) (Nat.le_refl _) _⟩)⟩
      · go_simp
        refine hK.out _ _ (HKP.out _ hYB) (fun _ => ?_)
        clear hK K
        try simp only [Act.put, List.setIfInBounds_toArray, List.set_cons_zero, List.set_cons_succ]
        refine wpAnyH_take (i := 4) (oi := ⟨_, _, _, _, _, _⟩) (v := ?_) rfl (by kernel_rfl) (by kernel_rfl) (by kernel_rfl) (fun _ _ _ h => h) (Or.inl ⟨by rfl, ?_⟩) (by assumption) ?_
        rotate_left
        · intro w hSw
          go_simp
          all_goals with_reducible rfl
        simp only [Act.put, List.setIfInBounds_toArray, List.set_cons_zero, List.set_cons_succ]
        refine wpAnyH_take (i := 5) (oi := ⟨_, _, _, _, _, _⟩) (v := ?_) rfl (by kernel_rfl) (by kernel_rfl) (by kernel_rfl) (fun _ _ _ h => h) (Or.inl ⟨by rfl, ?_⟩) (by assumption) ?_
        rotate_left
        · intro w hSw
          go_simp
          all_goals with_reducible rfl
        simp only [Act.put, List.setIfInBounds_toArray, List.set_cons_zero, List.set_cons_succ]
        refine wpAnyH_take (i := 6) (oi := ⟨_, _, _, _, _, _⟩) (v := ?_) rfl (by kernel_rfl) (by kernel_rfl) (by kernel_rfl) (fun _ _ _ h => h) (Or.inl ⟨by rfl, ?_⟩) (by assumption) ?_
        rotate_left
        · intro w hSw
          go_simp
          all_goals with_reducible rfl
        simp only [Act.put, List.setIfInBounds_toArray, List.set_cons_zero, List.set_cons_succ]
        refine wpAnyH_ready (rs := [7]) (by kernel_rfl) (by simp) ?_
        refine AllReadyH.cons (o := ⟨_, _, _, _, _, _⟩) rfl (fun K hK => ?_) AllReadyH.nil
        go_simp
        refine hK.out _ _ (HKP.out _ (hYB.alloc hYB.size _)) (fun _ => ?_)
        clear hK K
        try simp only [Act.put, List.setIfInBounds_toArray, List.set_cons_zero, List.set_cons_succ]
        refine wpAnyH_ready (rs := [8]) (by kernel_rfl) (by simp) ?_
        refine AllReadyH.cons (o := ⟨_, _, _, _, _, _⟩) rfl (fun K hK => ?_) AllReadyH.nil
        go_simp
        refine hK.out _ _ (HKP.out _ (by first | exact hYB.alloc hYB.size _ | exact Below.setCell (Below.setCell (Below.setCell hYB (Nat.le_refl _) _) (Nat.le_refl _) _) (Nat.le_refl _) _)) (fun _ => ?_)
        clear hK K
        try simp only [Act.put, List.setIfInBounds_toArray, List.set_cons_zero, List.set_cons_succ]
        refine wpAnyH_take (i := 9) (oi := ⟨_, _, _, _, _, _⟩) (v := ?_) rfl (by kernel_rfl) (by kernel_rfl) (by kernel_rfl) (fun _ _ _ h => h) (Or.inl ⟨by rfl, ?_⟩) (by assumption) ?_
        rotate_left
        · intro w hSw
          go_simp
          all_goals with_reducible rfl
        simp only [Act.put, List.setIfInBounds_toArray, List.set_cons_zero, List.set_cons_succ]
        refine wpAnyH_done (by kernel_rfl) ?_ _
        refine NoPanic.normal ?_
        go_wp2_with fail
        go_meet
        case rel => exact ⟨rfl, _, rfl, Lib.hid (by first | exact ⟨RowAt.new Y _ _, hYB.alloc hYB.size _⟩ | exact ⟨((RowAt.set (show RowAt Y W1.heap.size 118 #[.nilFunc, .bool false, .nilFunc] from rB) 0 _).set 1 _).set 2 _, Below.setCell (p := ⟨W1.heap.size, 2, none⟩) (Below.setCell (p := ⟨W1.heap.size, 1, none⟩) (Below.setCell (p := ⟨W1.heap.size, 0, none⟩) hYB (Nat.le_refl _) _) (Nat.le_refl _) _) (Nat.le_refl _) _⟩)⟩

  case rest =>
    obtain ⟨rfl, kb, rfl, hz⟩ := hcut
    obtain ⟨c2, c17⟩ := HC2.out wc hz.out.2
    obtain ⟨ts, hts⟩ : ∃ z, f.text.size = z := ⟨_, rfl⟩
    have HE := Lib.hid (show Below w.heap.size w wc from HR.out.2.trans (hz.out.2.mono HR.out.2.size))
    by_cases h1 : vn < 1
    · have h1d : decide (vn < 1) = true := decide_eq_true h1
      go_wp2_with fail
      go_ret
      exact ⟨by unfold validB; rw [HKK.out.2, decide_eq_false (p := 1 ≤ vn ∧ vn ≤ 1000 ∧ f.text.size ≤ 2000) (by omega)]; simp, HE.out⟩
    · have h1d : decide (vn < 1) = false := decide_eq_false h1
      by_cases h2 : 1000 < vn
      · have h2d : decide (1000 < vn) = true := decide_eq_true h2
        go_wp2_with fail
        go_ret
        exact ⟨by unfold validB; rw [HKK.out.2, decide_eq_false (p := 1 ≤ vn ∧ vn ≤ 1000 ∧ f.text.size ≤ 2000) (by omega)]; simp, HE.out⟩
      · have h2d : decide (1000 < vn) = false := decide_eq_false h2
        by_cases h3 : 2000 < ts
        · have h3d : decide (2000 < ts) = true := decide_eq_true h3
          have h3i : decide ((2000 : Int) < (ts : Int)) = true := decide_eq_true (by omega)
          go_wp2_with fail
          go_ret
          exact ⟨by unfold validB; rw [HKK.out.2, decide_eq_false (p := 1 ≤ vn ∧ vn ≤ 1000 ∧ f.text.size ≤ 2000) (by omega)]; simp, HE.out⟩
        · have h3d : decide (2000 < ts) = false := decide_eq_false h3
          have h3i : decide ((2000 : Int) < (ts : Int)) = false := decide_eq_false (by omega)
          have HTS := Lib.hid (show 1 ≤ vn ∧ vn ≤ 1000 ∧ f.text.size ≤ 2000 by omega)
          have HF : Hid (∀ j v, cs[j]? = some v → wc.cell? ⟨w.heap.size, 0 + j, none⟩ = some v) := Lib.hid (fun j v hv => by rw [Nat.zero_add, (HR.out.1.below hz.out.2 HR.out.1.lt).cell j]; exact hv)
          have HCN : Hid ((Tryz.prog.info? 47).map (·.size) = some cs.size) := Lib.hid (by rw [← HCS.out]; exact fact_size)
          have hbd := build_rec f
          rw [HCS.out] at hbd
          have h18 : cs.size = 18 := by rw [← HCS.out]; rfl
          have hbd2 := hbd
          rw [h18] at hbd2
          have k0 : (wc.alloc (.cells cs 76)).cell? ⟨kb, 0, none⟩ = some (.func (.func a) #[] #[]) := by rw [(hz.out.1.alloc _).cell 0]; rfl
          have FKC : Hid (Calls Tryz.prog a #[.pointer (some ⟨wc.heap.size, 0, none⟩)] (wc.alloc (.cells cs 76)) fun e w' => ∃ g, e = .returned (.slice (some ⟨g, 0, none⟩) (fieldsF f).length (fieldsF f).length) ∧ (wc.alloc (.cells cs 76)).heap.size ≤ g ∧ RowAt w' g 124 (fCells wc.heap.size (fieldsF f)).toArray ∧ Below (wc.alloc (.cells cs 76)).heap.size (wc.alloc (.cells cs 76)) w') := Lib.hid (FK.out wc.heap.size (wc.alloc (.cells cs 76)) (by rw [(RowAt.new wc 76 cs).cell 12, ← HCS.out]; rfl))
          go_wp2_with (first | ((with_reducible refine load_cs (o := ⟨some 33, _, _, _, _, _⟩) (.tmp 1) w.heap.size cs HF.out HCN.out ?_ ?_ ?_ ?_); rfl; rfl; rfl))
          refine FKC.out.mono ?_
          rintro e W3 ⟨g, rfl, hge, hrow, hb3⟩
          have HW3 : Hid (RowAt W3 g 124 (fCells wc.heap.size (fieldsF f)).toArray ∧ RowAt W3 wc.heap.size 76 cs ∧ RowAt W3 kb 118 #[.func (.func a) #[] #[], .bool b, .func (.func c) #[] #[]] ∧ RowAt W3 w.heap.size 47 cs ∧ Below wc.heap.size wc W3 ∧ wc.heap.size < g) := Lib.hid (by
            have ba := (Below.refl wc.heap.size wc).alloc (Nat.le_refl _) (.cells cs 76)
            have hb4 := ba.trans (hb3.mono ba.size)
            have hra := HR.out.1.below hz.out.2 HR.out.1.lt
            refine ⟨hrow, (RowAt.new wc 76 cs).below hb3 (by simp), hz.out.1.below hb4 hz.out.1.lt, hra.below hb4 hra.lt, hb4, ?_⟩
            simp at hge
            omega)
          obtain ⟨L, hL⟩ : ∃ z, (fieldsF f).length = z := ⟨_, rfl⟩
          clear hrow hb3 hge FKC k0 hbd hbd2 h18
          obtain ⟨rb, hrb⟩ : ∃ z, wc.heap.size = z := ⟨_, rfl⟩
          rw [hrb] at HW3
          have HRB := Lib.hid hrb
          obtain ⟨FL, hFL⟩ : ∃ z, fieldsF f = z := ⟨_, rfl⟩
          rw [hFL] at HW3 hL
          have HFL := Lib.hid (And.intro hFL hL)
          have hL8 : L ≤ 8 := by rw [← hL, ← hFL]; unfold fieldsF; repeat' split
                                 all_goals first | decide | exact Nat.le_refl 8
          have H0 : Hid (RowAt W3 rb 76 (zeroF f ((FL.take 0).map (·.1)) false).cells) := Lib.hid (by rw [List.take_zero, List.map_nil, zeroF_nil, HCS.out]; exact HW3.out.2.1)
          go_wp2_with fail
          clear hFL hL hrb
          go_loopw [7, 41] (fun v7 v41 wr => ∃ j : Nat, v41 = .int .i64 j ∧ j ≤ L ∧ Hid (RowAt wr rb 76 (zeroF f ((FL.take j).map (·.1)) false).cells ∧ (FL.take j).all (fun x => decide (x.2.1 ≤ f.n x.1) && decide (f.n x.1 ≤ x.2.2)) = true ∧ RowAt wr g 124 (fCells rb FL).toArray ∧ RowAt wr kb 118 #[.func (.func a) #[] #[], .bool b, .func (.func c) #[] #[]] ∧ RowAt wr w.heap.size 47 cs ∧ Below rb wc wr)) (fun _ v41 _ => L - (RowKit.intOf v41).toNat)
          case atStart => exact ⟨0, rfl, by omega, Lib.hid ⟨H0.out, by simp, HW3.out.1, HW3.out.2.2.1, HW3.out.2.2.2.1, HW3.out.2.2.2.2.1⟩⟩
          case round =>
            obtain ⟨j, rfl, hj, HS⟩ := hrel
            by_cases hj2 : j < L
            · have hjd : decide (j < L) = true := by simpa using hj2
              obtain ⟨⟨i, lo, hi⟩, hx⟩ : ∃ x, FL[j]? = some x := ⟨_, List.getElem?_eq_getElem (by have := HFL.out.2; omega)⟩
              obtain ⟨e0, e1, e2⟩ := fCells_get rb FL j _ hx
              have hap := fields_apart f
              rw [HFL.out.1] at hap
              have hi17 : i < 17 := hap.2 _ (List.mem_of_getElem? hx)
              have hni := not_before FL j _ hap.1 hx
              have k0 : wr.cell? ⟨g, j * 3, none⟩ = some (.pointer (some ⟨rb, i, none⟩)) := by rw [HS.out.2.2.1.cell]; simpa using e0
              have k1 : wr.cell? ⟨g, j * 3 + 1, none⟩ = some (.int .i64 lo) := by rw [HS.out.2.2.1.cell]; simpa using e1
              have k2 : wr.cell? ⟨g, j * 3 + 2, none⟩ = some (.int .i64 hi) := by rw [HS.out.2.2.1.cell]; simpa using e2
              obtain ⟨xi, hxi⟩ : ∃ z, f.n i = z := ⟨_, rfl⟩
              have HC := Lib.hid (show wr.cell? ⟨rb, i, none⟩ = some (.int .i64 xi) by rw [HS.out.1.cell, cells_get _ i hi17, zeroF_get _ _ _ _ hni, hxi])
              have HXI := Lib.hid hxi
              have HX := Lib.hid (And.intro hx hi17)
              have HBn := Lib.hid ((Below.refl wr.heap.size wr).alloc (Nat.le_refl _) (.cells #[.pointer (some ⟨rb, i, none⟩), .int .i64 lo, .int .i64 hi] 124))
              have HRn := Lib.hid (RowAt.new wr 124 #[.pointer (some ⟨rb, i, none⟩), .int .i64 lo, .int .i64 hi])
              have HIW := Lib.hid (isWithin_any rb i xi lo hi (wr.alloc (.cells #[.pointer (some ⟨rb, i, none⟩), .int .i64 lo, .int .i64 hi] 124)) ((HBn.out.cell (p := ⟨rb, i, none⟩) (World.block_lt_of_cell? wr _ HC.out)).trans HC.out))
              clear e0 e1 e2 hap hni hx hxi hi17
              go_wp2_with fail
              refine HIW.out.mono ?_
              rintro e W4 ⟨rfl, hb4⟩
              have HB4 := Lib.hid (HBn.out.trans (hb4.mono HBn.out.size))
              have hR4 := HRn.out.below hb4 (by simp)
              have q0 : W4.cell? ⟨wr.heap.size, 0, none⟩ = some (.pointer (some ⟨rb, i, none⟩)) := by rw [hR4.cell]; rfl
              have q1 : W4.cell? ⟨wr.heap.size, 1, none⟩ = some (.int .i64 lo) := by rw [hR4.cell]; rfl
              have q2 : W4.cell? ⟨wr.heap.size, 2, none⟩ = some (.int .i64 hi) := by rw [hR4.cell]; rfl
              have HR4 : Hid (RowAt W4 rb 76 (zeroF f ((FL.take j).map (·.1)) false).cells) := Lib.hid (HS.out.1.below HB4.out HS.out.1.lt)
              have c0 : W4.cell? ⟨rb, i, none⟩ = some (.int .i64 xi) := (HB4.out.cell (p := ⟨rb, i, none⟩) (World.block_lt_of_cell? wr _ HC.out)).trans HC.out
              have c1 : W4.frozen? ⟨rb, i, none⟩ = false := HR4.out.free i
              clear hb4 hR4 HIW HBn HRn
              by_cases hin : lo ≤ xi ∧ xi ≤ hi
              · have hlh : (decide (lo ≤ xi) && decide (xi ≤ hi)) = true := by simpa using hin
                rw [hlh]
                go_wp2_with fail
                go_roundw
                case rel =>
                  have hne : ∀ b, b < wr.heap.size → b ≠ rb → b ≠ (⟨rb, i, none⟩ : Addr).block := fun b _ h => h
                  refine ⟨j + 1, by go_num, by omega, Lib.hid ⟨?_, ?_, ?_, ?_, ?_, ?_⟩⟩
                  · have h := HR4.out.set i (.int .i64 0)
                    rw [zeroF_set _ _ _ HX.out.2] at h
                    rw [List.take_add_one, HX.out.1]
                    simpa using h
                  · rw [List.take_add_one, HX.out.1, List.all_append, HS.out.2.1]
                    simp [HXI.out, hin]
                  · exact (HS.out.2.2.1.below HB4.out HS.out.2.2.1.lt).far (by have := HW3.out.2.2.2.2.2; show g ≠ rb; omega) _
                  · exact (HS.out.2.2.2.1.below HB4.out HS.out.2.2.2.1.lt).far (by have := hz.out.1.lt; have := HRB.out; show kb ≠ rb; omega) _
                  · exact (HS.out.2.2.2.2.1.below HB4.out HS.out.2.2.2.2.1.lt).far (by have h1 := (HR.out.1.below hz.out.2 HR.out.1.lt).lt; have := HRB.out; show w.heap.size ≠ rb; omega) _
                  · exact (HS.out.2.2.2.2.2.trans (HB4.out.mono (by have := HS.out.2.2.2.2.2.size; have := HRB.out; omega))).setCell (by exact Nat.le_refl _) _
                case measure => simp [intOf]; omega
              · have hlh : (decide (lo ≤ xi) && decide (xi ≤ hi)) = false := by
                  rw [Bool.and_eq_false_iff]
                  by_cases h : lo ≤ xi
                  · exact .inr (decide_eq_false (fun h' => hin ⟨h, h'⟩))
                  · exact .inl (decide_eq_false h)
                rw [hlh]
                go_wp2_with fail
                go_ret
                refine ⟨?_, (HE.out.trans ((HS.out.2.2.2.2.2.trans (HB4.out.mono (by have := HS.out.2.2.2.2.2.size; have := HRB.out; omega))).mono (by have h1 := HE.out.size; have := HRB.out; omega)))⟩
                unfold validB
                rw [HFL.out.1, show FL.all (fun x => decide (x.2.1 ≤ f.n x.1) && decide (f.n x.1 ≤ x.2.2)) = false from ?_]
                · simp
                · rw [List.all_eq_false]
                  exact ⟨_, List.mem_of_getElem? HX.out.1, by show ¬ (decide (lo ≤ f.n i) && decide (f.n i ≤ hi)) = true; rw [HXI.out, hlh]; simp⟩
            · have hjd : decide (j < L) = false := by simp; omega
              obtain rfl : j = L := by omega
              have k1 : wr.cell? ⟨kb, 1, none⟩ = some (.bool b) := by rw [HS.out.2.2.2.1.cell 1]; rfl
              have htk : FL.take j = FL := List.take_of_length_le (by have := HFL.out.2; omega)
              have HALL := Lib.hid HS.out.2.1
              rw [htk] at HALL
              have HZ := Lib.hid HS.out.1
              rw [htk] at HZ
              have c0 : wr.cell? ⟨rb, 17, none⟩ = some (.string f.text) := by rw [HZ.out.cell]; rfl
              have c1 : wr.frozen? ⟨rb, 17, none⟩ = false := HZ.out.free 17
              have hfa := HS.out.2.2.2.2.1
              cases b with
              | true =>
                go_wp2_with fail
                have HZ2 : Hid (RowAt (wr.setCell ⟨rb, 17, none⟩ (.string ⟨#[]⟩)) rb 76 (zeroF f (FL.map (·.1)) true).cells) := Lib.hid (by have h := HZ.out.set 17 (.string ⟨#[]⟩); rw [zeroF_text] at h; exact h)
                have HF2 : Hid (RowAt (wr.setCell ⟨rb, 17, none⟩ (.string ⟨#[]⟩)) w.heap.size 47 cs) := Lib.hid (hfa.far (by have h1 := (HR.out.1.below hz.out.2 HR.out.1.lt).lt; have := HRB.out; show w.heap.size ≠ rb; omega) _)
                have HB2 : Hid (Below rb wc (wr.setCell ⟨rb, 17, none⟩ (.string ⟨#[]⟩))) := Lib.hid (HS.out.2.2.2.2.2.setCell (by exact Nat.le_refl _) _)
                generalize wr.setCell ⟨rb, 17, none⟩ (.string ⟨#[]⟩) = Wz at HZ2 HF2 HB2 ⊢
                have f0 : Wz.cell? ⟨w.heap.size, 0, none⟩ = some (.int .i64 k) := by rw [HF2.out.cell]; exact g0
                have f2 : Wz.cell? ⟨w.heap.size, 2, none⟩ = some (.int .i64 vn) := by rw [HF2.out.cell, ← HCS.out, cells_get _ 2 (by omega), HKK.out.2]
                obtain ⟨S, hS⟩ : ∃ z, sameF (zeroF f (FL.map (·.1)) true) (bareK k vn) = z := ⟨_, rfl⟩
                have heq : ∀ W, (Op.equalIn 10000 47 (.agg (zeroF f (FL.map (·.1)) true).cells) (.agg #[.int .i64 k, .int .i64 0, .int .i64 vn, .int .i64 0, .int .i64 0, .int .i64 0, .int .i64 0, .int .i64 0, .int .i64 0, .int .i64 0, .int .i64 0, .int .i64 0, .int .i64 0, .int .i64 0, .int .i64 0, .int .i64 0, .int .i64 0, .string ⟨#[]⟩])).run Tryz.prog W = .ok S W := fun W => by
                  have h := eq_facts (zeroF f (FL.map (·.1)) true) (bareK k vn) W
                  rw [bare_cells, hS] at h
                  exact h
                have hcz : (Tryz.prog.info? 47).map (·.size) = some (zeroF f (FL.map (·.1)) true).cells.size := fact_size
                obtain ⟨cz, hcz2⟩ : ∃ z, (zeroF f (FL.map (·.1)) true).cells = z := ⟨_, rfl⟩
                rw [hcz2] at hcz
                simp only [hcz2] at heq
                have HLZ : Hid (∀ W, (∃ n, W = Wz.drewN n) → ∀ j v, cz[j]? = some v → W.cell? ⟨rb, 0 + j, none⟩ = some v) := Lib.hid (by
                  rintro W ⟨n, rfl⟩ j v hv
                  rw [Nat.zero_add, (HZ2.out.drewN n).cell, hcz2]
                  exact hv)
                have HFIN := Lib.hid (show validB f = S from by
                  unfold validB
                  rw [HFL.out.1, HT.out.1, HALL.out, HKK.out.1, HKK.out.2, hS, decide_eq_true (p := 1 ≤ k ∧ k ≤ 10) (by have := HT.out.2; rw [HKK.out.1] at this; exact this), decide_eq_true (p := 1 ≤ vn ∧ vn ≤ 1000 ∧ f.text.size ≤ 2000) (by have := HTS.out; omega)]
                  rfl)
                have HBE := Lib.hid (show Below w.heap.size w Wz from HE.out.trans (HB2.out.mono (by have h1 := HE.out.size; have := HRB.out; omega)))
                have HCZ := Lib.hid hcz
                clear hS hcz2 hcz
                refine wp_region_quiet_lit (by kernel_rfl) (by kernel_rfl) ?_
                repeat (go_big_quiet_step (fail))
                refine wpQuiet_load_at 47 (.tmp 60) rb 0 cz _ HLZ.out Tryz.underlying47 rfl rfl rfl rfl HCZ.out ?_
                simp only [Act.put, List.setIfInBounds_toArray, List.set_cons_zero, List.set_cons_succ]
                repeat (go_big_quiet_step (fail))
                refine wpQuiet_nil ?_
                rintro w4 ⟨nq, rfl⟩
                go_wp2_with fail
                go_ret
                exact ⟨by rw [HFIN.out]; rfl, drewN_below HBE.out _⟩
              | false =>
                go_wp2_with fail
                have HZ2 := HZ
                have HF2 := Lib.hid hfa
                have HB2 := Lib.hid HS.out.2.2.2.2.2
                clear HZ hfa c0 c1 k1
                have Wz' := wr
                clear Wz'
                generalize hWz : wr = Wz at HZ2 HF2 HB2 ⊢
                have f0 : Wz.cell? ⟨w.heap.size, 0, none⟩ = some (.int .i64 k) := by rw [HF2.out.cell]; exact g0
                have f2 : Wz.cell? ⟨w.heap.size, 2, none⟩ = some (.int .i64 vn) := by rw [HF2.out.cell, ← HCS.out, cells_get _ 2 (by omega), HKK.out.2]
                obtain ⟨S, hS⟩ : ∃ z, sameF (zeroF f (FL.map (·.1)) false) (bareK k vn) = z := ⟨_, rfl⟩
                have heq : ∀ W, (Op.equalIn 10000 47 (.agg (zeroF f (FL.map (·.1)) false).cells) (.agg #[.int .i64 k, .int .i64 0, .int .i64 vn, .int .i64 0, .int .i64 0, .int .i64 0, .int .i64 0, .int .i64 0, .int .i64 0, .int .i64 0, .int .i64 0, .int .i64 0, .int .i64 0, .int .i64 0, .int .i64 0, .int .i64 0, .int .i64 0, .string ⟨#[]⟩])).run Tryz.prog W = .ok S W := fun W => by
                  have h := eq_facts (zeroF f (FL.map (·.1)) false) (bareK k vn) W
                  rw [bare_cells, hS] at h
                  exact h
                have hcz : (Tryz.prog.info? 47).map (·.size) = some (zeroF f (FL.map (·.1)) false).cells.size := fact_size
                obtain ⟨cz, hcz2⟩ : ∃ z, (zeroF f (FL.map (·.1)) false).cells = z := ⟨_, rfl⟩
                rw [hcz2] at hcz
                simp only [hcz2] at heq
                have HLZ : Hid (∀ W, (∃ n, W = Wz.drewN n) → ∀ j v, cz[j]? = some v → W.cell? ⟨rb, 0 + j, none⟩ = some v) := Lib.hid (by
                  rintro W ⟨n, rfl⟩ j v hv
                  rw [Nat.zero_add, (HZ2.out.drewN n).cell, hcz2]
                  exact hv)
                have HFIN := Lib.hid (show validB f = S from by
                  unfold validB
                  rw [HFL.out.1, HT.out.1, HALL.out, HKK.out.1, HKK.out.2, hS, decide_eq_true (p := 1 ≤ k ∧ k ≤ 10) (by have := HT.out.2; rw [HKK.out.1] at this; exact this), decide_eq_true (p := 1 ≤ vn ∧ vn ≤ 1000 ∧ f.text.size ≤ 2000) (by have := HTS.out; omega)]
                  rfl)
                have HBE := Lib.hid (show Below w.heap.size w Wz from HE.out.trans (HB2.out.mono (by have h1 := HE.out.size; have := HRB.out; omega)))
                have HCZ := Lib.hid hcz
                clear hS hcz2 hcz
                refine wp_region_quiet_lit (by kernel_rfl) (by kernel_rfl) ?_
                repeat (go_big_quiet_step (fail))
                refine wpQuiet_load_at 47 (.tmp 60) rb 0 cz _ HLZ.out Tryz.underlying47 rfl rfl rfl rfl HCZ.out ?_
                simp only [Act.put, List.setIfInBounds_toArray, List.set_cons_zero, List.set_cons_succ]
                repeat (go_big_quiet_step (fail))
                refine wpQuiet_nil ?_
                rintro w4 ⟨nq, rfl⟩
                go_wp2_with fail
                go_ret
                exact ⟨by rw [HFIN.out]; rfl, drewN_below HBE.out _⟩
theorem valid_any (f : FactV) (w : World) (h1 : -9223372036854775808 ≤ f.n 0) (h2 : f.n 0 ≤ 9223372036854775807) :
    Calls Tryz.prog 44 #[.agg f.cells] w fun e w' => e = .returned (.bool (validB f)) ∧ Below w.heap.size w w' := by
  by_cases h : 1 ≤ f.n 0 ∧ f.n 0 ≤ 10
  · obtain ⟨j, hj⟩ : ∃ j : Nat, f.n 0 = (j : Int) := ⟨(f.n 0).toNat, by omega⟩
    obtain ⟨a, b, c, hm⟩ := knList_at j (by omega) (by omega)
    exact valid_known f w hm hj
  · exact valid_other f w h1 h2 h
end Go.Proofs.YtfiabonacpepnaaGreatDoor.Fb
