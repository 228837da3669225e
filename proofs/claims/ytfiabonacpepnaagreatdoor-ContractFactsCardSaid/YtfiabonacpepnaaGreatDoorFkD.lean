/- Package fact: Key. -/
import Derived.Test.YtfiabonacpepnaaGreatDoorFkB
import Derived.Deep.CutRange
import Derived.Laws.EntriesVeiled
import Derived.Deep.RegionHeld3
namespace Go.Proofs.YtfiabonacpepnaaGreatDoor.Fb
open Go Go.RowKit Go.Lib Go.Shelf Go.Maps
attribute [local go_sem] Oper.semAt_some

/-- the second and the third number of a fact's key -/
def key2 (f : FactV) : Int × Int :=
  if f.n 0 = 1 ∨ f.n 0 = 2 then (f.n 6, f.n 1) else if f.n 0 = 3 ∨ f.n 0 = 5 ∨ f.n 0 = 8 then (f.n 1, 0) else if f.n 0 = 4 then (f.n 9, f.n 11)
  else if f.n 0 = 6 then (f.n 5, f.n 3) else if f.n 0 = 7 then (f.n 15, f.n 3) else if f.n 0 = 9 then (f.n 11, 0) else if f.n 0 = 10 then (f.n 8, f.n 11) else (0, 0)
def keyV (f : FactV) : Value := .agg #[.int .i64 (f.n 0), .int .i64 (key2 f).1, .int .i64 (key2 f).2]
/-- the key's functions by kind -/
theorem by_kind (f : FactV) {j a c : Nat} {b : Bool} (hm : (j, a, b, c) ∈ knList) (hj : f.n 0 = (j : Int)) (w : World) :
    Calls Tryz.prog c #[.agg f.cells] w fun e w' => e = .returned (.tuple #[.int .i64 (key2 f).1, .int .i64 (key2 f).2]) ∧ Below w.heap.size w w' := by
  simp only [knList, List.mem_cons, List.not_mem_nil, or_false, Prod.mk.injEq] at hm
  have hk2 : key2 f = key2 f := rfl
  rcases hm with ⟨rfl, _, _, rfl⟩ | ⟨rfl, _, _, rfl⟩ | ⟨rfl, _, _, rfl⟩ | ⟨rfl, _, _, rfl⟩ | ⟨rfl, _, _, rfl⟩ | ⟨rfl, _, _, rfl⟩ | ⟨rfl, _, _, rfl⟩ | ⟨rfl, _, _, rfl⟩ | ⟨rfl, _, _, rfl⟩ | ⟨rfl, _, _, rfl⟩
  · rw [show key2 f = (f.n 6, f.n 1) by simp [key2, hj]]; exact byDevice_any f w
  · rw [show key2 f = (f.n 6, f.n 1) by simp [key2, hj]]; exact byDevice_any f w
  · rw [show key2 f = (f.n 1, 0) by simp [key2, hj]]; exact byID_any f w
  · rw [show key2 f = (f.n 9, f.n 11) by simp [key2, hj]]; exact byHolder_any f w
  · rw [show key2 f = (f.n 1, 0) by simp [key2, hj]]; exact byID_any f w
  · rw [show key2 f = (f.n 5, f.n 3) by simp [key2, hj]]; exact byAccount_any f w
  · rw [show key2 f = (f.n 15, f.n 3) by simp [key2, hj]]; exact byCurrency_any f w
  · rw [show key2 f = (f.n 1, 0) by simp [key2, hj]]; exact byID_any f w
  · rw [show key2 f = (f.n 11, 0) by simp [key2, hj]]; exact byFrom_any f w
  · rw [show key2 f = (f.n 8, f.n 11) by simp [key2, hj]]; exact byTerritory_any f w
theorem kn_enter {j a c : Nat} {b : Bool} (hm : (j, a, b, c) ∈ knList) : (∀ vals W, (callFunc c vals).run Tryz.prog W = .ok (.enter c vals) W) ∧ (∀ vals W, (callFunc a vals).run Tryz.prog W = .ok (.enter a vals) W) := by
  simp only [knList, List.mem_cons, List.not_mem_nil, or_false, Prod.mk.injEq] at hm
  rcases hm with ⟨rfl, rfl, _, rfl⟩ | ⟨rfl, rfl, _, rfl⟩ | ⟨rfl, rfl, _, rfl⟩ | ⟨rfl, rfl, _, rfl⟩ | ⟨rfl, rfl, _, rfl⟩ | ⟨rfl, rfl, _, rfl⟩ | ⟨rfl, rfl, _, rfl⟩ | ⟨rfl, rfl, _, rfl⟩ | ⟨rfl, rfl, _, rfl⟩ | ⟨rfl, rfl, _, rfl⟩ <;> exact ⟨fun vals W => by kernel_rfl, fun vals W => by kernel_rfl⟩
theorem load_cs {ops : Array Oper} {rest : List Oper} {o : Oper} {a : Act} {w : World} {Q : Exit → Act → World → Prop} (x : Operand) (b : Nat) (cs : Array Value) (hc : ∀ j v, cs[j]? = some v → w.cell? ⟨b, 0 + j, none⟩ = some v) (hi : (Tryz.prog.info? 47).map (·.size) = some cs.size)
    (hgd : o.guard = none) (ho : o.op = .load 47 x) (hx : a.eval x = .pointer (some ⟨b, 0, none⟩))
    (h : wpList Tryz.prog ops Q rest (a.put o.dst (.agg cs)) w) : wpList Tryz.prog ops Q (o :: rest) a w :=
  wpList_load_at hgd _ x ho b 0 hx cs _ hc Tryz.underlying47 rfl hi h
theorem KnAt.lt {w : World} {eb : Nat} (h : KnAt w eb) : eb < w.heap.size := by
  obtain ⟨es, clock, hh, _⟩ := h
  exact (Array.getElem?_eq_some_iff.1 hh).1
theorem knList_at (j : Nat) (h1 : 1 ≤ j) (h2 : j ≤ 10) : ∃ a b c, (j, a, b, c) ∈ knList := by
  unfold knList
  match j, h1, h2 with
  | 1, _, _ => exact ⟨_, _, _, List.Mem.head _⟩
  | 2, _, _ => exact ⟨_, _, _, List.Mem.tail _ (List.Mem.head _)⟩
  | 3, _, _ => exact ⟨_, _, _, List.Mem.tail _ (List.Mem.tail _ (List.Mem.head _))⟩
  | 4, _, _ => exact ⟨_, _, _, List.Mem.tail _ (List.Mem.tail _ (List.Mem.tail _ (List.Mem.head _)))⟩
  | 5, _, _ => exact ⟨_, _, _, List.Mem.tail _ (List.Mem.tail _ (List.Mem.tail _ (List.Mem.tail _ (List.Mem.head _))))⟩
  | 6, _, _ => exact ⟨_, _, _, List.Mem.tail _ (List.Mem.tail _ (List.Mem.tail _ (List.Mem.tail _ (List.Mem.tail _ (List.Mem.head _)))))⟩
  | 7, _, _ => exact ⟨_, _, _, List.Mem.tail _ (List.Mem.tail _ (List.Mem.tail _ (List.Mem.tail _ (List.Mem.tail _ (List.Mem.tail _ (List.Mem.head _))))))⟩
  | 8, _, _ => exact ⟨_, _, _, List.Mem.tail _ (List.Mem.tail _ (List.Mem.tail _ (List.Mem.tail _ (List.Mem.tail _ (List.Mem.tail _ (List.Mem.tail _ (List.Mem.head _)))))))⟩
  | 9, _, _ => exact ⟨_, _, _, List.Mem.tail _ (List.Mem.tail _ (List.Mem.tail _ (List.Mem.tail _ (List.Mem.tail _ (List.Mem.tail _ (List.Mem.tail _ (List.Mem.tail _ (List.Mem.head _))))))))⟩
  | 10, _, _ => exact ⟨_, _, _, List.Mem.tail _ (List.Mem.tail _ (List.Mem.tail _ (List.Mem.tail _ (List.Mem.tail _ (List.Mem.tail _ (List.Mem.tail _ (List.Mem.tail _ (List.Mem.tail _ (List.Mem.head _)))))))))⟩
set_option maxRecDepth 100000 in
set_option maxHeartbeats 4000000 in
theorem key_known (f : FactV) (w : World) {j a c : Nat} {b : Bool} (hm : (j, a, b, c) ∈ knList) (hj : f.n 0 = (j : Int)) :
    Calls Tryz.prog 55 #[.agg f.cells] w fun e w' => e = .returned (keyV f) ∧ Below w.heap.size w w' := by
  have LK : Hid (∀ W eb, KnAt W eb → (Instr.lookup 120 (.map (some eb)) (.int .i64 (f.n 0)) true).run Tryz.prog W = .ok (.tuple #[.agg #[.func (.func a) #[] #[], .bool b, .func (.func c) #[] #[]], .bool true]) W) := Lib.hid (fun W eb hK => by rw [hj]; exact kn_known hK hm)
  obtain ⟨W1, hW1⟩ : ∃ z, (w.alloc (.cells f.cells 47)).alloc (.cells #[.int .i64 0, .int .i64 0, .int .i64 0] 91) = z := ⟨_, rfl⟩
  have r1 : RowAt W1 w.heap.size 47 f.cells := by rw [← hW1]; exact (RowAt.new w _ _).alloc _
  have r2 : RowAt W1 (w.heap.size + 1) 91 #[.int .i64 0, .int .i64 0, .int .i64 0] := by
    rw [← hW1]
    have h := RowAt.new (w.alloc (.cells f.cells 47)) 91 #[.int .i64 0, .int .i64 0, .int .i64 0]
    simpa using h
  have hbw : Below w.heap.size w W1 := by rw [← hW1]; exact ((Below.refl _ _).alloc (Nat.le_refl _) _).alloc (by simp) _
  have HR := Lib.hid (And.intro r1 (And.intro r2 hbw))
  have BYK := Lib.hid (by_kind f hm hj)
  have hcf := (kn_enter hm).1
  obtain ⟨k, hk⟩ : ∃ z, f.n 0 = z := ⟨_, rfl⟩
  have g0 : f.cells[0]? = some (.int .i64 k) := by rw [← hk]; rfl
  rw [hk] at LK
  have HKK := Lib.hid hk
  obtain ⟨cs, hcs⟩ : ∃ z, f.cells = z := ⟨_, rfl⟩
  rw [hcs] at g0 hW1 HR BYK ⊢
  have HCS := Lib.hid hcs
  have HKP : Hid (∀ W, Below W1.heap.size W1 W → Below W1.heap.size W1 W ∧ W.cell? ⟨w.heap.size, 0, none⟩ = some (.int .i64 k)) := Lib.hid (fun W hb => ⟨hb, by rw [(HR.out.1.below hb HR.out.1.lt).cell 0]; exact g0⟩)
  have hb1 := Below.refl W1.heap.size W1
  clear r1 r2 hbw hk hcs hm hj
  go_enter Tryz.func55, Tryz.ntmps55
  go_wp2_with fail
  clear hW1
  go_cut [3, 4] from 7 to 13 (fun v3 v4 wx => v4 = .bool true ∧ ∃ kb : Nat, v3 = .pointer (some ⟨kb, 0, none⟩) ∧ Hid (RowAt wx kb 118 #[.func (.func a) #[] #[], .bool b, .func (.func c) #[] #[]] ∧ Below W1.heap.size W1 wx))
  case first =>
    refine wp_region_noPanic ?_
    refine wp_region_held_drew (S := fun W => Below W1.heap.size W1 W ∧ W.cell? ⟨w.heap.size, 0, none⟩ = some (.int .i64 k)) (by kernel_rfl) (HKP.out _ hb1.drew) (fun hHeld => ?_)
    refine wpAnyH_take (i := 1) (oi := ⟨_, _, _, _, _, _⟩) (v := ?_) rfl (by kernel_rfl) (by kernel_rfl) (by kernel_rfl) (fun _ _ _ h => h) (Or.inl ⟨by rfl, ?_⟩) (by assumption) ?_
    rotate_left
    · intro w hSw
      go_simp
      all_goals with_reducible rfl
    simp only [Act.put, List.setIfInBounds_toArray, List.set_cons_zero, List.set_cons_succ]
    refine wpAnyH_take (i := 2) (oi := ⟨_, _, _, _, _, _⟩) (v := ?_) rfl (by kernel_rfl) (by kernel_rfl) (by kernel_rfl) (fun _ _ _ h => h) (Or.inl ⟨by rfl, ?_⟩) (by assumption) ?_
    rotate_left
    · intro w hSw
      have hcz := hSw.2
      go_simp
      all_goals with_reducible rfl
    simp only [Act.put, List.setIfInBounds_toArray, List.set_cons_zero, List.set_cons_succ]
    refine wpAnyH_ready (rs := [0, 7]) (by kernel_rfl) (by simp) ?_
    refine AllReadyH.cons (o := ⟨_, _, _, _, _, _⟩) rfl (fun K hK => ?_) ?_
    rotate_left
    · refine AllReadyH.cons (o := ⟨_, _, _, _, _, _⟩) rfl (fun K hK => ?_) AllReadyH.nil
      go_simp
      refine hK.out _ _ (HKP.out _ (hb1.drew.alloc hb1.size _)) (fun _ => ?_)
      clear hK K
      try simp only [Act.put, List.setIfInBounds_toArray, List.set_cons_zero, List.set_cons_succ]
      refine wpAnyH_ready (rs := [0]) (by kernel_rfl) (by simp) ?_
      refine AllReadyH.cons (o := ⟨_, _, _, _, _, _⟩) rfl (fun K hK => ?_) AllReadyH.nil
      go_simp
      refine (kinds_any _).mono ?_
      rintro e Y ⟨rfl, hkn, hY⟩
      have hYB := ((hb1.drew.alloc hb1.size (.cells #[.nilFunc, .bool false, .nilFunc] 118))).trans (hY.mono (Below.size ((hb1.drew.alloc hb1.size (.cells #[.nilFunc, .bool false, .nilFunc] 118)))))
      go_wp2_with fail
      refine hK.out _ _ (HKP.out _ hYB) (fun _ => ?_)
      clear hK K
      try simp only [Act.put, List.setIfInBounds_toArray, List.set_cons_zero, List.set_cons_succ]
      have rB := (RowAt.new W1.drew 118 #[.nilFunc, .bool false, .nilFunc]).below hY (by simp)
      have hlk := LK.out Y (W1.heap.size + 1) (by have h := hkn; simpa using h)
      refine wpAnyH_ready (rs := [3]) (by kernel_rfl) (by simp) ?_
      refine AllReadyH.cons (o := ⟨_, _, _, _, _, _⟩) rfl (fun K hK => ?_) AllReadyH.nil
      go_simp
      refine hK.out _ _ (HKP.out _ hYB) (fun _ => ?_)
      clear hK K
      try simp only [Act.put, List.setIfInBounds_toArray, List.set_cons_zero, List.set_cons_succ]
      refine wpAnyH_take (i := 4) (oi := ⟨_, _, _, _, _, _⟩) (v := ?_) rfl (by kernel_rfl) (by kernel_rfl) (by kernel_rfl) (fun _ _ _ h => h) (Or.inl ⟨by rfl, ?_⟩) (by assumption) ?_
      rotate_left
      · intro w hSw
        go_simp
        all_goals with_reducible rfl
      simp only [Act.put, List.setIfInBounds_toArray, List.set_cons_zero, List.set_cons_succ]
      refine wpAnyH_take (i := 5) (oi := ⟨_, _, _, _, _, _⟩) (v := ?_) rfl (by kernel_rfl) (by kernel_rfl) (by kernel_rfl) (fun _ _ _ h => h) (Or.inl ⟨by rfl, ?_⟩) (by assumption) ?_
      rotate_left
      · intro w hSw
        go_simp
        all_goals with_reducible rfl
      simp only [Act.put, List.setIfInBounds_toArray, List.set_cons_zero, List.set_cons_succ]
      refine wpAnyH_take (i := 6) (oi := ⟨_, _, _, _, _, _⟩) (v := ?_) rfl (by kernel_rfl) (by kernel_rfl) (by kernel_rfl) (fun _ _ _ h => h) (Or.inl ⟨by rfl, ?_⟩) (by assumption) ?_
      rotate_left
      · intro w hSw
        go_simp
        all_goals with_reducible rfl
      simp only [Act.put, List.setIfInBounds_toArray, List.set_cons_zero, List.set_cons_succ]
      have q0 : Y.cell? ⟨W1.heap.size, 0, none⟩ = some .nilFunc := by have h := rB.cell 0; simpa using h
      have q1 : Y.cell? ⟨W1.heap.size, 1, none⟩ = some (.bool false) := by have h := rB.cell 1; simpa using h
      have q2 : Y.cell? ⟨W1.heap.size, 2, none⟩ = some .nilFunc := by have h := rB.cell 2; simpa using h
      have p0 : Y.frozen? ⟨W1.heap.size, 0, none⟩ = false := by have h := rB.free 0; simpa using h
      have p1 : Y.frozen? ⟨W1.heap.size, 1, none⟩ = false := by have h := rB.free 1; simpa using h
      have p2 : Y.frozen? ⟨W1.heap.size, 2, none⟩ = false := by have h := rB.free 2; simpa using h
      refine wpAnyH_ready (rs := [8]) (by kernel_rfl) (by simp) ?_
      refine AllReadyH.cons (o := ⟨_, _, _, _, _, _⟩) rfl (fun K hK => ?_) AllReadyH.nil
      go_simp
      refine hK.out _ _ (HKP.out _ (by first | exact hYB.alloc hYB.size _ | exact Below.setCell (Below.setCell (Below.setCell hYB (Nat.le_refl _) _) (Nat.le_refl _) _) (Nat.le_refl _) _)) (fun _ => ?_)
      clear hK K
      try simp only [Act.put, List.setIfInBounds_toArray, List.set_cons_zero, List.set_cons_succ]
      refine wpAnyH_take (i := 9) (oi := ⟨_, _, _, _, _, _⟩) (v := ?_) rfl (by kernel_rfl) (by kernel_rfl) (by kernel_rfl) (fun _ _ _ h => h) (Or.inl ⟨by rfl, ?_⟩) (by assumption) ?_
      rotate_left
      · intro w hSw
        go_simp
        all_goals with_reducible rfl
      simp only [Act.put, List.setIfInBounds_toArray, List.set_cons_zero, List.set_cons_succ]
      refine wpAnyH_done (by kernel_rfl) ?_ _
      refine NoPanic.normal ?_
      go_wp2_with fail
      go_meet
      case rel => exact ⟨rfl, _, rfl, Lib.hid (by first | exact ⟨RowAt.new Y _ _, hYB.alloc hYB.size _⟩ | exact ⟨((RowAt.set (show RowAt Y W1.heap.size 118 #[.nilFunc, .bool false, .nilFunc] from rB) 0 _).set 1 _).set 2 _, Below.setCell (p := ⟨W1.heap.size, 2, none⟩) (Below.setCell (p := ⟨W1.heap.size, 1, none⟩) (Below.setCell (p := ⟨W1.heap.size, 0, none⟩) hYB (Nat.le_refl _) _) (Nat.le_refl _) _) (Nat.le_refl _) _⟩)⟩
    · go_simp
      refine (kinds_any _).mono ?_
      rintro e Y ⟨rfl, hkn, hY⟩
      have hYB := (hb1.drew).trans (hY.mono (Below.size (hb1.drew)))
      go_wp2_with fail
      refine hK.out _ _ (HKP.out _ hYB) (fun _ => ?_)
      clear hK K
      try simp only [Act.put, List.setIfInBounds_toArray, List.set_cons_zero, List.set_cons_succ]
      have hlk := LK.out Y (W1.heap.size) (by have h := hkn; simpa using h)
      have hlk2 := LK.out (Y.alloc (.cells #[.nilFunc, .bool false, .nilFunc] 118)) W1.heap.size (by have h := KnAt.below hkn (Below.alloc (Below.refl Y.heap.size Y) (Nat.le_refl _) (.cells #[.nilFunc, .bool false, .nilFunc] 118)) hkn.lt; simpa using h)
      refine wpAnyH_ready (rs := [3, 7]) (by kernel_rfl) (by simp) ?_
      refine AllReadyH.cons (o := ⟨_, _, _, _, _, _⟩) rfl (fun K hK => ?_) ?_
      rotate_left
      · refine AllReadyH.cons (o := ⟨_, _, _, _, _, _⟩) rfl (fun K hK => ?_) AllReadyH.nil
        go_simp
        refine hK.out _ _ (HKP.out _ (hYB.alloc hYB.size _)) (fun _ => ?_)
        clear hK K
        try simp only [Act.put, List.setIfInBounds_toArray, List.set_cons_zero, List.set_cons_succ]
        refine wpAnyH_ready (rs := [3]) (by kernel_rfl) (by simp) ?_
        refine AllReadyH.cons (o := ⟨_, _, _, _, _, _⟩) rfl (fun K hK => ?_) AllReadyH.nil
        go_simp
        refine hK.out _ _ (HKP.out _ (hYB.alloc hYB.size _)) (fun _ => ?_)
        clear hK K
        try simp only [Act.put, List.setIfInBounds_toArray, List.set_cons_zero, List.set_cons_succ]
        refine wpAnyH_take (i := 4) (oi := ⟨_, _, _, _, _, _⟩) (v := ?_) rfl (by kernel_rfl) (by kernel_rfl) (by kernel_rfl) (fun _ _ _ h => h) (Or.inl ⟨by rfl, ?_⟩) (by assumption) ?_
        rotate_left
        · intro w hSw
          go_simp
          all_goals with_reducible rfl
        simp only [Act.put, List.setIfInBounds_toArray, List.set_cons_zero, List.set_cons_succ]
        refine wpAnyH_take (i := 5) (oi := ⟨_, _, _, _, _, _⟩) (v := ?_) rfl (by kernel_rfl) (by kernel_rfl) (by kernel_rfl) (fun _ _ _ h => h) (Or.inl ⟨by rfl, ?_⟩) (by assumption) ?_
        rotate_left
        · intro w hSw
          go_simp
          all_goals with_reducible rfl
        simp only [Act.put, List.setIfInBounds_toArray, List.set_cons_zero, List.set_cons_succ]
        refine wpAnyH_take (i := 6) (oi := ⟨_, _, _, _, _, _⟩) (v := ?_) rfl (by kernel_rfl) (by kernel_rfl) (by kernel_rfl) (fun _ _ _ h => h) (Or.inl ⟨by rfl, ?_⟩) (by assumption) ?_
        rotate_left
        · intro w hSw
          go_simp
          all_goals with_reducible rfl
        simp only [Act.put, List.setIfInBounds_toArray, List.set_cons_zero, List.set_cons_succ]
        refine wpAnyH_ready (rs := [8]) (by kernel_rfl) (by simp) ?_
        refine AllReadyH.cons (o := ⟨_, _, _, _, _, _⟩) rfl (fun K hK => ?_) AllReadyH.nil
        go_simp
        refine hK.out _ _ (HKP.out _ (by first | exact hYB.alloc hYB.size _ | exact Below.setCell (Below.setCell (Below.setCell hYB (Nat.le_refl _) _) (Nat.le_refl _) _) (Nat.le_refl _) _)) (fun _ => ?_)
        clear hK K
        try simp only [Act.put, List.setIfInBounds_toArray, List.set_cons_zero, List.set_cons_succ]
        refine wpAnyH_take (i := 9) (oi := ⟨_, _, _, _, _, _⟩) (v := ?_) rfl (by kernel_rfl) (by kernel_rfl) (by kernel_rfl) (fun _ _ _ h => h) (Or.inl ⟨by rfl, ?_⟩) (by assumption) ?_
        rotate_left
        · intro w hSw
          go_simp
          all_goals with_reducible rfl
        simp only [Act.put, List.setIfInBounds_toArray, List.set_cons_zero, List.set_cons_succ]
        refine wpAnyH_done (by kernel_rfl) ?_ _
        refine NoPanic.normal ?_
        go_wp2_with fail
        go_meet
        case rel => exact ⟨rfl, _, rfl, Lib.hid (by first | exact ⟨RowAt.new Y _ _, hYB.alloc hYB.size _⟩ | exact ⟨((RowAt.set (show RowAt Y W1.heap.size 118 #[.nilFunc, .bool false, .nilFunc] from rB) 0 _).set 1 _).set 2 _, Below.setCell (p := ⟨W1.heap.size, 2, none⟩) (Below.setCell (p := ⟨W1.heap.size, 1, none⟩) (Below.setCell (p := ⟨W1.heap.size, 0, none⟩) hYB (Nat.le_refl _) _) (Nat.le_refl _) _) (Nat.le_refl _) _⟩)⟩
      · go_simp
        refine hK.out _ _ (HKP.out _ hYB) (fun _ => ?_)
        clear hK K
        try simp only [Act.put, List.setIfInBounds_toArray, List.set_cons_zero, List.set_cons_succ]
        refine wpAnyH_take (i := 4) (oi := ⟨_, _, _, _, _, _⟩) (v := ?_) rfl (by kernel_rfl) (by kernel_rfl) (by kernel_rfl) (fun _ _ _ h => h) (Or.inl ⟨by rfl, ?_⟩) (by assumption) ?_
        rotate_left
        · intro w hSw
          go_simp
          all_goals with_reducible rfl
        simp only [Act.put, List.setIfInBounds_toArray, List.set_cons_zero, List.set_cons_succ]
        refine wpAnyH_take (i := 5) (oi := ⟨_, _, _, _, _, _⟩) (v := ?_) rfl (by kernel_rfl) (by kernel_rfl) (by kernel_rfl) (fun _ _ _ h => h) (Or.inl ⟨by rfl, ?_⟩) (by assumption) ?_
        rotate_left
        · intro w hSw
          go_simp
          all_goals with_reducible rfl
        simp only [Act.put, List.setIfInBounds_toArray, List.set_cons_zero, List.set_cons_succ]
        refine wpAnyH_take (i := 6) (oi := ⟨_, _, _, _, _, _⟩) (v := ?_) rfl (by kernel_rfl) (by kernel_rfl) (by kernel_rfl) (fun _ _ _ h => h) (Or.inl ⟨by rfl, ?_⟩) (by assumption) ?_
        rotate_left
        · intro w hSw
          go_simp
          all_goals with_reducible rfl
        simp only [Act.put, List.setIfInBounds_toArray, List.set_cons_zero, List.set_cons_succ]
        refine wpAnyH_ready (rs := [7]) (by kernel_rfl) (by simp) ?_
        refine AllReadyH.cons (o := ⟨_, _, _, _, _, _⟩) rfl (fun K hK => ?_) AllReadyH.nil
        go_simp
        refine hK.out _ _ (HKP.out _ (hYB.alloc hYB.size _)) (fun _ => ?_)
        clear hK K
        try simp only [Act.put, List.setIfInBounds_toArray, List.set_cons_zero, List.set_cons_succ]
        refine wpAnyH_ready (rs := [8]) (by kernel_rfl) (by simp) ?_
        refine AllReadyH.cons (o := ⟨_, _, _, _, _, _⟩) rfl (fun K hK => ?_) AllReadyH.nil
        go_simp
        refine hK.out _ _ (HKP.out _ (by first | exact hYB.alloc hYB.size _ | exact Below.setCell (Below.setCell (Below.setCell hYB (Nat.le_refl _) _) (Nat.le_refl _) _) (Nat.le_refl _) _)) (fun _ => ?_)
        clear hK K
        try simp only [Act.put, List.setIfInBounds_toArray, List.set_cons_zero, List.set_cons_succ]
        refine wpAnyH_take (i := 9) (oi := ⟨_, _, _, _, _, _⟩) (v := ?_) rfl (by kernel_rfl) (by kernel_rfl) (by kernel_rfl) (fun _ _ _ h => h) (Or.inl ⟨by rfl, ?_⟩) (by assumption) ?_
        rotate_left
        · intro w hSw
          go_simp
          all_goals with_reducible rfl
        simp only [Act.put, List.setIfInBounds_toArray, List.set_cons_zero, List.set_cons_succ]
        refine wpAnyH_done (by kernel_rfl) ?_ _
        refine NoPanic.normal ?_
        go_wp2_with fail
        go_meet
        case rel => exact ⟨rfl, _, rfl, Lib.hid (by first | exact ⟨RowAt.new Y _ _, hYB.alloc hYB.size _⟩ | exact ⟨((RowAt.set (show RowAt Y W1.heap.size 118 #[.nilFunc, .bool false, .nilFunc] from rB) 0 _).set 1 _).set 2 _, Below.setCell (p := ⟨W1.heap.size, 2, none⟩) (Below.setCell (p := ⟨W1.heap.size, 1, none⟩) (Below.setCell (p := ⟨W1.heap.size, 0, none⟩) hYB (Nat.le_refl _) _) (Nat.le_refl _) _) (Nat.le_refl _) _⟩)⟩

  case rest =>
    obtain ⟨rfl, kb, rfl, hz⟩ := hcut
    have k2 : wc.cell? ⟨kb, 2, none⟩ = some (.func (.func c) #[] #[]) := by rw [hz.out.1.cell 2]; rfl
    have hF : ∀ j v, cs[j]? = some v → wc.cell? ⟨w.heap.size, 0 + j, none⟩ = some v := fun j v hv => by rw [Nat.zero_add, (HR.out.1.below hz.out.2 HR.out.1.lt).cell j]; exact hv
    have hk0 : wc.cell? ⟨w.heap.size, 0, none⟩ = some (.int .i64 k) := (HKP.out wc hz.out.2).2
    have hr2 := HR.out.2.1.below hz.out.2 HR.out.2.1.lt
    have hcn : (Tryz.prog.info? 47).map (·.size) = some cs.size := by rw [← HCS.out]; kernel_rfl
    go_wp2_with (first | ((with_reducible refine load_cs (o := ⟨some 22, _, _, _, _, _⟩) (.tmp 1) w.heap.size cs hF hcn ?_ ?_ ?_ ?_); rfl; rfl; rfl))
    refine (BYK.out wc).mono ?_
    rintro e Z ⟨rfl, hZ⟩
    have hZB := hz.out.2.trans (hZ.mono (Below.size hz.out.2))
    have hk1 : Z.cell? ⟨w.heap.size, 0, none⟩ = some (.int .i64 k) := (HKP.out Z hZB).2
    have hr3 := HR.out.2.1.below hZB HR.out.2.1.lt
    have d0 : Z.cell? ⟨w.heap.size + 1, 0, none⟩ = some (.int .i64 0) := hr3.cell 0
    have d1 : Z.cell? ⟨w.heap.size + 1, 1, none⟩ = some (.int .i64 0) := hr3.cell 1
    have d2 : Z.cell? ⟨w.heap.size + 1, 2, none⟩ = some (.int .i64 0) := hr3.cell 2
    have u0 : Z.frozen? ⟨w.heap.size + 1, 0, none⟩ = false := hr3.free 0
    have u1 : Z.frozen? ⟨w.heap.size + 1, 1, none⟩ = false := hr3.free 1
    have u2 : Z.frozen? ⟨w.heap.size + 1, 2, none⟩ = false := hr3.free 2
    obtain ⟨y1, hy1⟩ : ∃ z, (key2 f).1 = z := ⟨_, rfl⟩
    obtain ⟨y2, hy2⟩ : ∃ z, (key2 f).2 = z := ⟨_, rfl⟩
    rw [hy1, hy2]
    have HY := Lib.hid (And.intro hy1 hy2)
    have HE := Lib.hid (show Below w.heap.size w Z from HR.out.2.2.trans (hZB.mono HR.out.2.2.size))
    clear hy1 hy2 hF hk0 hr2 k2 hZ hZB
    go_wp2_with fail
    have hrow := ((hr3.set 0 (.int .i64 k)).set 1 (.int .i64 y1)).set 2 (.int .i64 y2)
    refine bodyPost_ret (v := .agg #[.int .i64 k, .int .i64 y1, .int .i64 y2]) ?_ rfl ⟨?_, ?_⟩
    · have v0 := hrow.cell 0
      have v1 := hrow.cell 1
      have v2 := hrow.cell 2
      generalize ((Z.setCell ⟨w.heap.size + 1, 0, none⟩ (.int .i64 k)).setCell ⟨w.heap.size + 1, 1, none⟩ (.int .i64 y1)).setCell ⟨w.heap.size + 1, 2, none⟩ (.int .i64 y2) = W9 at v0 v1 v2
      have v0' : W9.cell? ⟨w.heap.size + 1, 0, none⟩ = some (.int .i64 k) := v0
      have v1' : W9.cell? ⟨w.heap.size + 1, 1, none⟩ = some (.int .i64 y1) := v1
      have v2' : W9.cell? ⟨w.heap.size + 1, 2, none⟩ = some (.int .i64 y2) := v2
      clear v0 v1 v2 hrow
      simp [results, Tryz.results55, go_sem, v0', v1', v2']
    · unfold keyV; rw [HKK.out, HY.out.1, HY.out.2]
    · exact ((HE.out.setCell (p := ⟨w.heap.size + 1, 0, none⟩) (by simp) _).setCell (p := ⟨w.heap.size + 1, 1, none⟩) (by simp) _).setCell (p := ⟨w.heap.size + 1, 2, none⟩) (by simp) _
set_option maxRecDepth 100000 in
set_option maxHeartbeats 4000000 in
theorem key_other (f : FactV) (w : World) (h1 : -9223372036854775808 ≤ f.n 0) (h2 : f.n 0 ≤ 9223372036854775807) (hn : ¬(1 ≤ f.n 0 ∧ f.n 0 ≤ 10)) :
    Calls Tryz.prog 55 #[.agg f.cells] w fun e w' => e = .returned (keyV f) ∧ Below w.heap.size w w' := by
  have LK : Hid (∀ W eb, KnAt W eb → (Instr.lookup 120 (.map (some eb)) (.int .i64 (f.n 0)) true).run Tryz.prog W = .ok (.tuple #[.agg #[.nilFunc, .bool false, .nilFunc], .bool false]) W) := Lib.hid (fun W eb hK => kn_other hK _ h1 h2 hn)
  obtain ⟨W1, hW1⟩ : ∃ z, (w.alloc (.cells f.cells 47)).alloc (.cells #[.int .i64 0, .int .i64 0, .int .i64 0] 91) = z := ⟨_, rfl⟩
  have r1 : RowAt W1 w.heap.size 47 f.cells := by rw [← hW1]; exact (RowAt.new w _ _).alloc _
  have r2 : RowAt W1 (w.heap.size + 1) 91 #[.int .i64 0, .int .i64 0, .int .i64 0] := by
    rw [← hW1]
    have h := RowAt.new (w.alloc (.cells f.cells 47)) 91 #[.int .i64 0, .int .i64 0, .int .i64 0]
    simpa using h
  have hbw : Below w.heap.size w W1 := by rw [← hW1]; exact ((Below.refl _ _).alloc (Nat.le_refl _) _).alloc (by simp) _
  have HR := Lib.hid (And.intro r1 (And.intro r2 hbw))
  have HK2 : Hid (key2 f = (0, 0)) := Lib.hid (by unfold key2; rw [if_neg (by omega), if_neg (by omega), if_neg (by omega), if_neg (by omega), if_neg (by omega), if_neg (by omega), if_neg (by omega)])
  obtain ⟨k, hk⟩ : ∃ z, f.n 0 = z := ⟨_, rfl⟩
  have g0 : f.cells[0]? = some (.int .i64 k) := by rw [← hk]; rfl
  rw [hk] at LK
  have HKK := Lib.hid hk
  obtain ⟨cs, hcs⟩ : ∃ z, f.cells = z := ⟨_, rfl⟩
  rw [hcs] at g0 hW1 HR ⊢
  have HCS := Lib.hid hcs
  have HKP : Hid (∀ W, Below W1.heap.size W1 W → Below W1.heap.size W1 W ∧ W.cell? ⟨w.heap.size, 0, none⟩ = some (.int .i64 k)) := Lib.hid (fun W hb => ⟨hb, by rw [(HR.out.1.below hb HR.out.1.lt).cell 0]; exact g0⟩)
  have hb1 := Below.refl W1.heap.size W1
  clear r1 r2 hbw hk hcs h1 h2 hn
  go_enter Tryz.func55, Tryz.ntmps55
  go_wp2_with fail
  clear hW1
  go_cut [3, 4] from 7 to 13 (fun v3 v4 wx => v4 = .bool false ∧ ∃ kb : Nat, v3 = .pointer (some ⟨kb, 0, none⟩) ∧ Hid (RowAt wx kb 118 #[.nilFunc, .bool false, .nilFunc] ∧ Below W1.heap.size W1 wx))
  case first =>
    refine wp_region_noPanic ?_
    refine wp_region_held_drew (S := fun W => Below W1.heap.size W1 W ∧ W.cell? ⟨w.heap.size, 0, none⟩ = some (.int .i64 k)) (by kernel_rfl) (HKP.out _ hb1.drew) (fun hHeld => ?_)
    refine wpAnyH_take (i := 1) (oi := ⟨_, _, _, _, _, _⟩) (v := ?_) rfl (by kernel_rfl) (by kernel_rfl) (by kernel_rfl) (fun _ _ _ h => h) (Or.inl ⟨by rfl, ?_⟩) (by assumption) ?_
    rotate_left
    · intro w hSw
      go_simp
      all_goals with_reducible rfl
    simp only [Act.put, List.setIfInBounds_toArray, List.set_cons_zero, List.set_cons_succ]
    refine wpAnyH_take (i := 2) (oi := ⟨_, _, _, _, _, _⟩) (v := ?_) rfl (by kernel_rfl) (by kernel_rfl) (by kernel_rfl) (fun _ _ _ h => h) (Or.inl ⟨by rfl, ?_⟩) (by assumption) ?_
    rotate_left
    · intro w hSw
      have hcz := hSw.2
      go_simp
      all_goals with_reducible rfl
    simp only [Act.put, List.setIfInBounds_toArray, List.set_cons_zero, List.set_cons_succ]
    refine wpAnyH_ready (rs := [0, 7]) (by kernel_rfl) (by simp) ?_
    refine AllReadyH.cons (o := ⟨_, _, _, _, _, _⟩) rfl (fun K hK => ?_) ?_
    rotate_left
    · refine AllReadyH.cons (o := ⟨_, _, _, _, _, _⟩) rfl (fun K hK => ?_) AllReadyH.nil
      go_simp
      refine hK.out _ _ (HKP.out _ (hb1.drew.alloc hb1.size _)) (fun _ => ?_)
      clear hK K
      try simp only [Act.put, List.setIfInBounds_toArray, List.set_cons_zero, List.set_cons_succ]
      refine wpAnyH_ready (rs := [0]) (by kernel_rfl) (by simp) ?_
      refine AllReadyH.cons (o := ⟨_, _, _, _, _, _⟩) rfl (fun K hK => ?_) AllReadyH.nil
      go_simp
      refine (kinds_any _).mono ?_
      rintro e Y ⟨rfl, hkn, hY⟩
      have hYB := ((hb1.drew.alloc hb1.size (.cells #[.nilFunc, .bool false, .nilFunc] 118))).trans (hY.mono (Below.size ((hb1.drew.alloc hb1.size (.cells #[.nilFunc, .bool false, .nilFunc] 118)))))
      go_wp2_with fail
      refine hK.out _ _ (HKP.out _ hYB) (fun _ => ?_)
      clear hK K
      try simp only [Act.put, List.setIfInBounds_toArray, List.set_cons_zero, List.set_cons_succ]
      have rB := (RowAt.new W1.drew 118 #[.nilFunc, .bool false, .nilFunc]).below hY (by simp)
      have hlk := LK.out Y (W1.heap.size + 1) (by have h := hkn; simpa using h)
      refine wpAnyH_ready (rs := [3]) (by kernel_rfl) (by simp) ?_
      refine AllReadyH.cons (o := ⟨_, _, _, _, _, _⟩) rfl (fun K hK => ?_) AllReadyH.nil
      go_simp
      refine hK.out _ _ (HKP.out _ hYB) (fun _ => ?_)
      clear hK K
      try simp only [Act.put, List.setIfInBounds_toArray, List.set_cons_zero, List.set_cons_succ]
      refine wpAnyH_take (i := 4) (oi := ⟨_, _, _, _, _, _⟩) (v := ?_) rfl (by kernel_rfl) (by kernel_rfl) (by kernel_rfl) (fun _ _ _ h => h) (Or.inl ⟨by rfl, ?_⟩) (by assumption) ?_
      rotate_left
      · intro w hSw
        go_simp
        all_goals with_reducible rfl
      simp only [Act.put, List.setIfInBounds_toArray, List.set_cons_zero, List.set_cons_succ]
      refine wpAnyH_take (i := 5) (oi := ⟨_, _, _, _, _, _⟩) (v := ?_) rfl (by kernel_rfl) (by kernel_rfl) (by kernel_rfl) (fun _ _ _ h => h) (Or.inl ⟨by rfl, ?_⟩) (by assumption) ?_
      rotate_left
      · intro w hSw
        go_simp
        all_goals with_reducible rfl
      simp only [Act.put, List.setIfInBounds_toArray, List.set_cons_zero, List.set_cons_succ]
      refine wpAnyH_take (i := 6) (oi := ⟨_, _, _, _, _, _⟩) (v := ?_) rfl (by kernel_rfl) (by kernel_rfl) (by kernel_rfl) (fun _ _ _ h => h) (Or.inl ⟨by rfl, ?_⟩) (by assumption) ?_
      rotate_left
      · intro w hSw
        go_simp
        all_goals with_reducible rfl
      simp only [Act.put, List.setIfInBounds_toArray, List.set_cons_zero, List.set_cons_succ]
      have q0 : Y.cell? ⟨W1.heap.size, 0, none⟩ = some .nilFunc := by have h := rB.cell 0; simpa using h
      have q1 : Y.cell? ⟨W1.heap.size, 1, none⟩ = some (.bool false) := by have h := rB.cell 1; simpa using h
      have q2 : Y.cell? ⟨W1.heap.size, 2, none⟩ = some .nilFunc := by have h := rB.cell 2; simpa using h
      have p0 : Y.frozen? ⟨W1.heap.size, 0, none⟩ = false := by have h := rB.free 0; simpa using h
      have p1 : Y.frozen? ⟨W1.heap.size, 1, none⟩ = false := by have h := rB.free 1; simpa using h
      have p2 : Y.frozen? ⟨W1.heap.size, 2, none⟩ = false := by have h := rB.free 2; simpa using h
      refine wpAnyH_ready (rs := [8]) (by kernel_rfl) (by simp) ?_
      refine AllReadyH.cons (o := ⟨_, _, _, _, _, _⟩) rfl (fun K hK => ?_) AllReadyH.nil
      go_simp
      refine hK.out _ _ (HKP.out _ (by first | exact hYB.alloc hYB.size _ | exact Below.setCell (Below.setCell (Below.setCell hYB (Nat.le_refl _) _) (Nat.le_refl _) _) (Nat.le_refl _) _)) (fun _ => ?_)
      clear hK K
      try simp only [Act.put, List.setIfInBounds_toArray, List.set_cons_zero, List.set_cons_succ]
      refine wpAnyH_take (i := 9) (oi := ⟨_, _, _, _, _, _⟩) (v := ?_) rfl (by kernel_rfl) (by kernel_rfl) (by kernel_rfl) (fun _ _ _ h => h) (Or.inl ⟨by rfl, ?_⟩) (by assumption) ?_
      rotate_left
      · intro w hSw
        go_simp
        all_goals with_reducible rfl
      simp only [Act.put, List.setIfInBounds_toArray, List.set_cons_zero, List.set_cons_succ]
      refine wpAnyH_done (by kernel_rfl) ?_ _
      refine NoPanic.normal ?_
      go_wp2_with fail
      go_meet
      case rel => exact ⟨rfl, _, rfl, Lib.hid (by first | exact ⟨RowAt.new Y _ _, hYB.alloc hYB.size _⟩ | exact ⟨((RowAt.set (show RowAt Y W1.heap.size 118 #[.nilFunc, .bool false, .nilFunc] from rB) 0 _).set 1 _).set 2 _, Below.setCell (p := ⟨W1.heap.size, 2, none⟩) (Below.setCell (p := ⟨W1.heap.size, 1, none⟩) (Below.setCell (p := ⟨W1.heap.size, 0, none⟩) hYB (Nat.le_refl _) _) (Nat.le_refl _) _) (Nat.le_refl _) _⟩)⟩
    · go_simp
      refine (kinds_any _).mono ?_
      rintro e Y ⟨rfl, hkn, hY⟩
      have hYB := (hb1.drew).trans (hY.mono (Below.size (hb1.drew)))
      go_wp2_with fail
      refine hK.out _ _ (HKP.out _ hYB) (fun _ => ?_)
      clear hK K
      try simp only [Act.put, List.setIfInBounds_toArray, List.set_cons_zero, List.set_cons_succ]
      have hlk := LK.out Y (W1.heap.size) (by have h := hkn; simpa using h)
      have hlk2 := LK.out (Y.alloc (.cells #[.nilFunc, .bool false, .nilFunc] 118)) W1.heap.size (by have h := KnAt.below hkn (Below.alloc (Below.refl Y.heap.size Y) (Nat.le_refl _) (.cells #[.nilFunc, .bool false, .nilFunc] 118)) hkn.lt; simpa using h)
      refine wpAnyH_ready (rs := [3, 7]) (by kernel_rfl) (by simp) ?_
      refine AllReadyH.cons (o := ⟨_, _, _, _, _, _⟩) rfl (fun K hK => ?_) ?_
      rotate_left
      · refine AllReadyH.cons (o := ⟨_, _, _, _, _, _⟩) rfl (fun K hK => ?_) AllReadyH.nil
        go_simp
        refine hK.out _ _ (HKP.out _ (hYB.alloc hYB.size _)) (fun _ => ?_)
        clear hK K
        try simp only [Act.put, List.setIfInBounds_toArray, List.set_cons_zero, List.set_cons_succ]
        refine wpAnyH_ready (rs := [3]) (by kernel_rfl) (by simp) ?_
        refine AllReadyH.cons (o := ⟨_, _, _, _, _, _⟩) rfl (fun K hK => ?_) AllReadyH.nil
        go_simp
        refine hK.out _ _ (HKP.out _ (hYB.alloc hYB.size _)) (fun _ => ?_)
        clear hK K
        try simp only [Act.put, List.setIfInBounds_toArray, List.set_cons_zero, List.set_cons_succ]
        refine wpAnyH_take (i := 4) (oi := ⟨_, _, _, _, _, _⟩) (v := ?_) rfl (by kernel_rfl) (by kernel_rfl) (by kernel_rfl) (fun _ _ _ h => h) (Or.inl ⟨by rfl, ?_⟩) (by assumption) ?_
        rotate_left
        · intro w hSw
          go_simp
          all_goals with_reducible rfl
        simp only [Act.put, List.setIfInBounds_toArray, List.set_cons_zero, List.set_cons_succ]
        refine wpAnyH_take (i := 5) (oi := ⟨_, _, _, _, _, _⟩) (v := ?_) rfl (by kernel_rfl) (by kernel_rfl) (by kernel_rfl) (fun _ _ _ h => h) (Or.inl ⟨by rfl, ?_⟩) (by assumption) ?_
        rotate_left
        · intro w hSw
          go_simp
          all_goals with_reducible rfl
        simp only [Act.put, List.setIfInBounds_toArray, List.set_cons_zero, List.set_cons_succ]
        refine wpAnyH_take (i := 6) (oi := ⟨_, _, _, _, _, _⟩) (v := ?_) rfl (by kernel_rfl) (by kernel_rfl) (by kernel_rfl) (fun _ _ _ h => h) (Or.inl ⟨by rfl, ?_⟩) (by assumption) ?_
        rotate_left
        · intro w hSw
          go_simp
          all_goals with_reducible rfl
        simp only [Act.put, List.setIfInBounds_toArray, List.set_cons_zero, List.set_cons_succ]
        refine wpAnyH_ready (rs := [8]) (by kernel_rfl) (by simp) ?_
        refine AllReadyH.cons (o := ⟨_, _, _, _, _, _⟩) rfl (fun K hK => ?_) AllReadyH.nil
        go_simp
        refine hK.out _ _ (HKP.out _ (by first | exact hYB.alloc hYB.size _ | exact Below.setCell (Below.setCell (Below.setCell hYB (Nat.le_refl _) _) (Nat.le_refl _) _) (Nat.le_refl _) _)) (fun _ => ?_)
        clear hK K
        try simp only [Act.put, List.setIfInBounds_toArray, List.set_cons_zero, List.set_cons_succ]
        refine wpAnyH_take (i := 9) (oi := ⟨_, _, _, _, _, _⟩) (v := ?_) rfl (by kernel_rfl) (by kernel_rfl) (by kernel_rfl) (fun _ _ _ h => h) (Or.inl ⟨by rfl, ?_⟩) (by assumption) ?_
        rotate_left
        · intro w hSw
          go_simp
          all_goals with_reducible rfl
        simp only [Act.put, List.setIfInBounds_toArray, List.set_cons_zero, List.set_cons_succ]
        refine wpAnyH_done (by kernel_rfl) ?_ _
        refine NoPanic.normal ?_
        go_wp2_with fail
        go_meet
        case rel => exact ⟨rfl, _, rfl, Lib.hid (by first | exact ⟨RowAt.new Y _ _, hYB.alloc hYB.size _⟩ | exact ⟨((RowAt.set (show RowAt Y W1.heap.size 118 #[.nilFunc, .bool false, .nilFunc] from rB) 0 _).set 1 _).set 2 _, Below.setCell (p := ⟨W1.heap.size, 2, none⟩) (Below.setCell (p := ⟨W1.heap.size, 1, none⟩) (Below.setCell (p := ⟨W1.heap.size, 0, none⟩) hYB (Nat.le_refl _) _) (Nat.le_refl _) _) (Nat.le_refl _) _⟩)⟩
      · go_simp
        refine hK.out _ _ (HKP.out _ hYB) (fun _ => ?_)
        clear hK K
        try simp only [Act.put, List.setIfInBounds_toArray, List.set_cons_zero, List.set_cons_succ]
        refine wpAnyH_take (i := 4) (oi := ⟨_, _, _, _, _, _⟩) (v := ?_) rfl (by kernel_rfl) (by kernel_rfl) (by kernel_rfl) (fun _ _ _ h => h) (Or.inl ⟨by rfl, ?_⟩) (by assumption) ?_
        rotate_left
        · intro w hSw
          go_simp
          all_goals with_reducible rfl
        simp only [Act.put, List.setIfInBounds_toArray, List.set_cons_zero, List.set_cons_succ]
        refine wpAnyH_take (i := 5) (oi := ⟨_, _, _, _, _, _⟩) (v := ?_) rfl (by kernel_rfl) (by kernel_rfl) (by kernel_rfl) (fun _ _ _ h => h) (Or.inl ⟨by rfl, ?_⟩) (by assumption) ?_
        rotate_left
        · intro w hSw
          go_simp
          all_goals with_reducible rfl
        simp only [Act.put, List.setIfInBounds_toArray, List.set_cons_zero, List.set_cons_succ]
        refine wpAnyH_take (i := 6) (oi := ⟨_, _, _, _, _, _⟩) (v := ?_) rfl (by kernel_rfl) (by kernel_rfl) (by kernel_rfl) (fun _ _ _ h => h) (Or.inl ⟨by rfl, ?_⟩) (by assumption) ?_
        rotate_left
        · intro w hSw
          go_simp
          all_goals with_reducible rfl
        simp only [Act.put, List.setIfInBounds_toArray, List.set_cons_zero, List.set_cons_succ]
        refine wpAnyH_ready (rs := [7]) (by kernel_rfl) (by simp) ?_
        refine AllReadyH.cons (o := ⟨_, _, _, _, _, _⟩) rfl (fun K hK => ?_) AllReadyH.nil
        go_simp
        refine hK.out _ _ (HKP.out _ (hYB.alloc hYB.size _)) (fun _ => ?_)
        clear hK K
        try simp only [Act.put, List.setIfInBounds_toArray, List.set_cons_zero, List.set_cons_succ]
        refine wpAnyH_ready (rs := [8]) (by kernel_rfl) (by simp) ?_
        refine AllReadyH.cons (o := ⟨_, _, _, _, _, _⟩) rfl (fun K hK => ?_) AllReadyH.nil
        go_simp
        refine hK.out _ _ (HKP.out _ (by first | exact hYB.alloc hYB.size _ | exact Below.setCell (Below.setCell (Below.setCell hYB (Nat.le_refl _) _) (Nat.le_refl _) _) (Nat.le_refl _) _)) (fun _ => ?_)
        clear hK K
        try simp only [Act.put, List.setIfInBounds_toArray, List.set_cons_zero, List.set_cons_succ]
        refine wpAnyH_take (i := 9) (oi := ⟨_, _, _, _, _, _⟩) (v := ?_) rfl (by kernel_rfl) (by kernel_rfl) (by kernel_rfl) (fun _ _ _ h => h) (Or.inl ⟨by rfl, ?_⟩) (by assumption) ?_
        rotate_left
        · intro w hSw
          go_simp
          all_goals with_reducible rfl
        simp only [Act.put, List.setIfInBounds_toArray, List.set_cons_zero, List.set_cons_succ]
        refine wpAnyH_done (by kernel_rfl) ?_ _
        refine NoPanic.normal ?_
        go_wp2_with fail
        go_meet
        case rel => exact ⟨rfl, _, rfl, Lib.hid (by first | exact ⟨RowAt.new Y _ _, hYB.alloc hYB.size _⟩ | exact ⟨((RowAt.set (show RowAt Y W1.heap.size 118 #[.nilFunc, .bool false, .nilFunc] from rB) 0 _).set 1 _).set 2 _, Below.setCell (p := ⟨W1.heap.size, 2, none⟩) (Below.setCell (p := ⟨W1.heap.size, 1, none⟩) (Below.setCell (p := ⟨W1.heap.size, 0, none⟩) hYB (Nat.le_refl _) _) (Nat.le_refl _) _) (Nat.le_refl _) _⟩)⟩

  case rest =>
    obtain ⟨rfl, kb, rfl, hz⟩ := hcut
    have k2 : wc.cell? ⟨kb, 2, none⟩ = some .nilFunc := by rw [hz.out.1.cell 2]; rfl
    have hF : ∀ j v, cs[j]? = some v → wc.cell? ⟨w.heap.size, 0 + j, none⟩ = some v := fun j v hv => by rw [Nat.zero_add, (HR.out.1.below hz.out.2 HR.out.1.lt).cell j]; exact hv
    have hk0 : wc.cell? ⟨w.heap.size, 0, none⟩ = some (.int .i64 k) := (HKP.out wc hz.out.2).2
    have hr2 := HR.out.2.1.below hz.out.2 HR.out.2.1.lt
    have hcn : (Tryz.prog.info? 47).map (·.size) = some cs.size := by rw [← HCS.out]; kernel_rfl
    have d0 : wc.cell? ⟨w.heap.size + 1, 0, none⟩ = some (.int .i64 0) := hr2.cell 0
    have d1 : wc.cell? ⟨w.heap.size + 1, 1, none⟩ = some (.int .i64 0) := hr2.cell 1
    have d2 : wc.cell? ⟨w.heap.size + 1, 2, none⟩ = some (.int .i64 0) := hr2.cell 2
    have u0 : wc.frozen? ⟨w.heap.size + 1, 0, none⟩ = false := hr2.free 0
    have u1 : wc.frozen? ⟨w.heap.size + 1, 1, none⟩ = false := hr2.free 1
    have u2 : wc.frozen? ⟨w.heap.size + 1, 2, none⟩ = false := hr2.free 2
    have HE := Lib.hid (show Below w.heap.size w wc from HR.out.2.2.trans (hz.out.2.mono HR.out.2.2.size))
    go_wp2_with fail
    have hrow := ((hr2.set 0 (.int .i64 k)).set 1 (.int .i64 0)).set 2 (.int .i64 0)
    refine bodyPost_ret (v := .agg #[.int .i64 k, .int .i64 0, .int .i64 0]) ?_ rfl ⟨?_, ?_⟩
    · have v0 := hrow.cell 0
      have v1 := hrow.cell 1
      have v2 := hrow.cell 2
      generalize ((wc.setCell ⟨w.heap.size + 1, 0, none⟩ (.int .i64 k)).setCell ⟨w.heap.size + 1, 1, none⟩ (.int .i64 0)).setCell ⟨w.heap.size + 1, 2, none⟩ (.int .i64 0) = W9 at v0 v1 v2
      have v0' : W9.cell? ⟨w.heap.size + 1, 0, none⟩ = some (.int .i64 k) := v0
      have v1' : W9.cell? ⟨w.heap.size + 1, 1, none⟩ = some (.int .i64 0) := v1
      have v2' : W9.cell? ⟨w.heap.size + 1, 2, none⟩ = some (.int .i64 0) := v2
      clear v0 v1 v2 hrow
      simp [results, Tryz.results55, go_sem, v0', v1', v2']
    · unfold keyV; rw [HKK.out, HK2.out]
    · exact ((HE.out.setCell (p := ⟨w.heap.size + 1, 0, none⟩) (by simp) _).setCell (p := ⟨w.heap.size + 1, 1, none⟩) (by simp) _).setCell (p := ⟨w.heap.size + 1, 2, none⟩) (by simp) _
theorem key_any (f : FactV) (w : World) (h1 : -9223372036854775808 ≤ f.n 0) (h2 : f.n 0 ≤ 9223372036854775807) :
    Calls Tryz.prog 55 #[.agg f.cells] w fun e w' => e = .returned (keyV f) ∧ Below w.heap.size w w' := by
  by_cases hk : 1 ≤ f.n 0 ∧ f.n 0 ≤ 10
  · obtain ⟨j, hj⟩ : ∃ j : Nat, f.n 0 = (j : Int) := ⟨(f.n 0).toNat, by omega⟩
    obtain ⟨a, b, c, hm⟩ := knList_at j (by omega) (by omega)
    exact key_known f w hm hj
  · exact key_other f w h1 h2 hk
end Go.Proofs.YtfiabonacpepnaaGreatDoor.Fb
