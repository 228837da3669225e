/- recoup (printed by gen_rec14.py). -/
import Derived.Test.YtfiabonacpepnaaGreatDoorCtL
import Derived.Test.YtfiabonacpepnaaGreatDoorCtF
import Derived.Deep.RegionHeld3
namespace Go.Proofs.YtfiabonacpepnaaGreatDoor
open Go Go.RowKit Go.Lib Go.Shelf

section
variable {P : Program} {ops : Array Oper} {Q : Exit → Act → World → Prop} {md : Region.Mode} {S : World → Prop} {fuel : Nat} {listed : Array Bool} {a : Act} {w : World}
/-- an operation that yields its value in every world that meets S is taken first -/
theorem tk (i : Nat) {x1 : Option Tmp} {x2 : Op} {x3 : TypeId} {x4 : String} {x5 : Array Edge} {x6 : Option (Nat × Bool)} {v : Value} (hi : ops[i]? = some ⟨x1, x2, x3, x4, x5, x6⟩)
    (hs : (Region.noSelect ops && Region.free md ops listed i && (Region.ready md ops listed).contains i) = true)
    (hQ : ∀ c a w, Q (.panic c) (a.put x1 v) w → Q (.panic c) a w) (hw : Region.wanted ⟨x1, x2, x3, x4, x5, x6⟩ (yielded ops a.tmps) = true) (hS : S w)
    (hv : ∀ w, S w → (execOp a.eval ⟨x1, x2, x3, x4, x5, x6⟩).run P w = .ok (.value v) w)
    (h : wpAnyH P md ops Q S fuel (listed.setIfInBounds i true) (a.put x1 v) w) : wpAnyH P md ops Q S (fuel + 1) listed a w := by
  rw [Bool.and_eq_true, Bool.and_eq_true] at hs
  exact wpAnyH_take (oi := ⟨x1, x2, x3, x4, x5, x6⟩) hi hs.1.1 hs.1.2 hs.2 hQ (Or.inl ⟨hw, hv⟩) hS h
/-- an operation that is not wanted is taken first -/
theorem tu (i : Nat) {x1 : Option Tmp} {x2 : Op} {x3 : TypeId} {x4 : String} {x5 : Array Edge} {x6 : Option (Nat × Bool)} (hi : ops[i]? = some ⟨x1, x2, x3, x4, x5, x6⟩)
    (hs : (Region.noSelect ops && Region.free md ops listed i && (Region.ready md ops listed).contains i) = true)
    (hQ : ∀ c a w, Q (.panic c) (a.put x1 undef) w → Q (.panic c) a w) (hw : Region.wanted ⟨x1, x2, x3, x4, x5, x6⟩ (yielded ops a.tmps) = false) (hS : S w)
    (h : wpAnyH P md ops Q S fuel (listed.setIfInBounds i true) (a.put x1 undef) w) : wpAnyH P md ops Q S (fuel + 1) listed a w := by
  rw [Bool.and_eq_true, Bool.and_eq_true] at hs
  exact wpAnyH_take (oi := ⟨x1, x2, x3, x4, x5, x6⟩) hi hs.1.1 hs.1.2 hs.2 hQ (Or.inr ⟨hw, rfl⟩) hS h
/-- one operation alone is ready -/
theorem rd (i : Nat) {x1 : Option Tmp} {x2 : Op} {x3 : TypeId} {x4 : String} {x5 : Array Edge} {x6 : Option (Nat × Bool)} (hr : Region.ready md ops listed = [i]) (hi : ops[i]? = some ⟨x1, x2, x3, x4, x5, x6⟩)
    (h : ∀ K' : Act → World → Prop, Shut (∀ a w, S w → (S w → wpAnyH P md ops Q S fuel (listed.setIfInBounds i true) a w) → K' a w) → if Region.wanted ⟨x1, x2, x3, x4, x5, x6⟩ (yielded ops a.tmps) = true then Oper.wp P ⟨x1, x2, x3, x4, x5, x6⟩ a w K' Q else K' (a.put x1 undef) w) :
    wpAnyH P md ops Q S (fuel + 1) listed a w :=
  wpAnyH_ready hr (by simp) (AllReadyH.cons (o := ⟨x1, x2, x3, x4, x5, x6⟩) hi h AllReadyH.nil)
end
theorem sa {α : Type} (l : List α) (i : Nat) (a : α) : l.toArray.setIfInBounds i a = (l.set i a).toArray := List.setIfInBounds_toArray ..
theorem s0 {α : Type} (x a : α) (l : List α) : (x :: l).set 0 a = a :: l := rfl
theorem s1 {α : Type} (x a : α) (l : List α) (n : Nat) : (x :: l).set (n + 1) a = x :: l.set n a := rfl
theorem sg {α : Type} (l : List α) (i : Nat) : l.toArray[i]? = l[i]? := List.getElem?_toArray
theorem g0 {α : Type} (x : α) (l : List α) : (x :: l)[0]? = some x := rfl
theorem g1 {α : Type} (x : α) (l : List α) (n : Nat) : (x :: l)[n + 1]? = l[n]? := rfl

theorem OwnI.ne_row {T T' : TypeId} {k : Nat} {w : World} {base nb : Nat} {v : Value} {L : List (List Int)} {cs : Array Value} (h : OwnI T k w base v L) (hT : T ≠ T') (hr : RowAt w nb T' cs) : ∀ g, v.ownBlock = some g → g ≠ nb := by
  intro g hg e
  subst e
  rcases h.2.2 with ⟨rfl, _⟩ | ⟨g', cap, cur, rfl, _, hh, _⟩
  · simp [Value.ownBlock] at hg
  · simp [Value.ownBlock] at hg
    subst hg
    unfold RowAt at hr
    rw [hr] at hh
    simp at hh
    exact hT hh.2.symm
theorem grown_trans' {w w1 w2 : World} {b N : Nat} (h : w.grownBy w1 (some b)) (h2 : Below N w1 w2) (hN : w.heap.size ≤ N) : w.grownBy w2 (some b) :=
  ⟨h2.os.trans h.os, h2.tape.trans h.tape, h2.output.trans h.output, Nat.le_trans h.size h2.size, fun k hk hne => (h2.block k (by omega)).trans (h.block k hk hne)⟩
/-- how many words the reader in block b holds -/
def lenW (b : Nat) (w : World) : Nat := match w.cell? ⟨b, 0, none⟩ with | some (.slice _ n _) => n | _ => 0
theorem lenW_of {w : World} {b : Nat} {r : Rd} (h : RdAt w b r) : lenW b w = r.ws.length := by
  obtain ⟨A, c, hc⟩ := h.wsCell
  unfold lenW
  rw [hc]
/-- where recoup stands: the accounts so far, the reader -/
def MidR (ws0 : List (List UInt8)) (acc : List Int) (r : Rd) : Prop :=
  accV ws0 = if r.bad = true then (acc, r) else (acc ++ (accV r.ws).1, (accV r.ws).2)
theorem MidR.next {ws0 t : List (List UInt8)} {acc : List Int} {x : List UInt8} (h : MidR ws0 acc ⟨x :: t, false⟩) : MidR ws0 (acc ++ [(digV x).1]) ⟨t, !(digV x).2⟩ := by
  unfold MidR at h ⊢
  rw [if_neg (by simp)] at h
  rw [h]
  dsimp only
  rw [accV]
  by_cases hd : (digV x).2 = true
  · rw [if_pos hd, hd]
    simp
  · have hd' : (digV x).2 = false := by simpa using hd
    rw [if_neg hd, hd']
    simp
theorem MidR.done {ws0 : List (List UInt8)} {acc : List Int} {r : Rd} (h : MidR ws0 acc r) (hr : r.bad = true ∨ r.ws = []) : accV ws0 = (acc, r) := by
  unfold MidR at h
  obtain ⟨ws, bad⟩ := r
  cases bad with
  | true => rw [h]; simp
  | false =>
    rcases hr with e | e
    · cases e
    · dsimp only at e
      subst e
      rw [h]
      simp [accV]

set_option maxRecDepth 100000 in
set_option maxHeartbeats 8000000 in
theorem recoup_any (b : Nat) (ws : List (List UInt8)) (w : World) (h : RdAt w b ⟨ws, false⟩) (hK : KAt w) :
    Calls Tryz.prog 95 #[.pointer (some ⟨b, 0, none⟩)] w (FormEnd w b (recoupV ws)) := by
  have hlt := h.lt
  have h9 := h.hb
  have hfew := h.few
  have hr := RowAt.new w 28 zC
  have hr2 := RowAt.new (w.alloc (.cells zC 28)) 28 #[.int .i64 5, .int .i64 0, .int .i64 0, .int .i64 0, .slice none 0 0]
  have e1 : (w.alloc (.cells zC 28)).heap.size = w.heap.size + 1 := by simp
  rw [e1] at hr2
  obtain ⟨N, hN⟩ : ∃ z, w.heap.size = z := ⟨_, rfl⟩
  obtain ⟨W2, hW2⟩ : ∃ z, (w.alloc (.cells zC 28)).alloc (.cells #[.int .i64 5, .int .i64 0, .int .i64 0, .int .i64 0, .slice none 0 0] 28) = z := ⟨_, rfl⟩
  have hr1 := hr.alloc (.cells #[.int .i64 5, .int .i64 0, .int .i64 0, .int .i64 0, .slice none 0 0] 28)
  have hbw : Below w.heap.size w W2 := by rw [← hW2]; exact ((Below.refl _ _).alloc (Nat.le_refl _) _).alloc (by simp) _
  rw [hW2] at hr2 hr1
  have HG2 := Lib.hid (grown_below hbw (some b))
  have HH2 := Lib.hid (h.below hbw hlt)
  have HK2 := Lib.hid (hK.mono hbw)
  rw [hN] at hr1 hr2 hlt
  have HM2 := Lib.hid hr2
  have HN2 := Lib.hid hr1
  have HNN := Lib.hid hN
  have HW2 := Lib.hid hW2
  unfold zC at HW2 HN2
  have HNUA : Hid (∀ x t W, RdAt W b ⟨x :: t, false⟩ → KAt W → Calls Tryz.prog 94 #[.pointer (some ⟨b, 0, none⟩)] W fun e w' => e = .returned (.int .i64 (digV x).1) ∧ RdAt w' b ⟨t, !(digV x).2⟩ ∧ W.grownBy w' (some b)) := Lib.hid (fun x t W hW hk => by
    have := number_any b ⟨x :: t, false⟩ W hW hk
    unfold Rd.number at this
    rw [next_cons] at this
    exact this)
  clear h hK hr hr1 hr2 e1 hW2 hbw
  go_enter Tryz.func95, Tryz.ntmps95
  go_upto_region 2 with fail
  rw [HW2.out]
  go_loopw [5] (fun _ wr => ∃ (acc : List Int) (va : Value) (r : Rd), Hid (MidR ws acc r ∧ acc.length + r.ws.length ≤ 3001 ∧ RowAt wr (N + 1) 28 #[.int .i64 5, .int .i64 0, .int .i64 0, .int .i64 0, va] ∧ RowAt wr N 28 zC ∧ OwnI 3 1 wr N va (acc.map fun a => [a]) ∧ RdAt wr b r ∧ KAt wr ∧ w.grownBy wr (some b))) (fun _ wr => lenW b wr)
  case atStart => exact ⟨[], .slice none 0 0, ⟨ws, false⟩, Lib.hid ⟨by unfold MidR; simp, by simpa using hfew, HM2.out, HN2.out, OwnI.nil _ _ _ _, HH2.out, HK2.out, HG2.out⟩⟩
  case round =>
    obtain ⟨acc, va, ⟨ws', bad'⟩, HR⟩ := hrel
    have HMID := Lib.hid HR.out.1
    have HLEN := Lib.hid HR.out.2.1
    have HM := Lib.hid HR.out.2.2.1
    have HN1 := Lib.hid HR.out.2.2.2.1
    have HO := Lib.hid HR.out.2.2.2.2.1
    have HH := Lib.hid HR.out.2.2.2.2.2.1
    have HK := Lib.hid HR.out.2.2.2.2.2.2.1
    have HG := Lib.hid HR.out.2.2.2.2.2.2.2
    clear HR
    obtain ⟨A0, c0, hc0⟩ := HH.out.wsCell
    have hc1 := HH.out.badCell.1
    dsimp only at hc0 hc1
    have HVA : Hid ((#[.int .i64 5, .int .i64 0, .int .i64 0, .int .i64 0, va] : Array Value).all (·.oneCell') = true) := Lib.hid (by
      obtain ⟨A, n, c, rfl⟩ := HO.out.slice3
      kernel_rfl)
    by_cases hgo : bad' = false ∧ ws' ≠ []
    · obtain ⟨rfl, hne⟩ := hgo
      obtain ⟨x, t, rfl⟩ : ∃ x t, ws' = x :: t := by
        cases ws' with
        | nil => exact absurd rfl hne
        | cons x t => exact ⟨x, t, rfl⟩
      clear hne
      have HNEXT := Lib.hid (MidR.next HMID.out)
      have HLW := Lib.hid (lenW_of HH.out)
      have HNU := Lib.hid (HNUA.out x t)
      obtain ⟨n, hn⟩ : ∃ n, (digV x).1 = n := ⟨_, rfl⟩
      obtain ⟨ok, hok⟩ : ∃ n, (digV x).2 = n := ⟨_, rfl⟩
      rw [hn, hok] at HNEXT HNU
      obtain ⟨L, hL⟩ : ∃ z, (x :: t).length = z := ⟨_, rfl⟩
      have HL := Lib.hid hL
      rw [hL] at hc0
      have d0 : decide (0 < L) = true := by rw [← hL]; simp
      clear hn hok hL
      go_upto_region 3 with fail
      clear hc0 hc1
      have HMd := Lib.hid HM.out.drew
      have HNd := Lib.hid HN1.out.drew
      have HHd : Hid (RdAt wr.drew b ⟨x :: t, false⟩) := Lib.hid (HH.out.kept fun _ _ => rfl)
      have HKd : Hid (KAt wr.drew) := Lib.hid (HK.out.of (Nat.le_refl _) fun _ _ => rfl)
      have HGd : Hid (w.grownBy wr.drew (some b)) := Lib.hid (by obtain ⟨g1, g2, g3, g4, g5⟩ := HG.out; exact ⟨g1, g2, g3, g4, g5⟩)
      have HOd : Hid (OwnI 3 1 wr.drew N va (acc.map fun a => [a])) := Lib.hid (HO.out.kept fun _ _ => rfl)
      refine wp_region_held_drew (S := fun _ => True) (by kernel_rfl) trivial (fun hHeld => ?_)
      refine tk 0 (v := ?_) rfl (by kernel_rfl) (fun _ _ _ h => h) (by rfl) (by assumption) ?_ ?_
      rotate_left
      · intro w hSw
        go_simp
        all_goals with_reducible rfl
      simp only [Act.put, sa, s0, s1]
      refine tk 2 (v := ?_) rfl (by kernel_rfl) (fun _ _ _ h => h) (by rfl) (by assumption) ?_ ?_
      rotate_left
      · intro w hSw
        go_simp
        all_goals with_reducible rfl
      simp only [Act.put, sa, s0, s1]
      refine wpAnyH_ready (rs := [1, 3]) (by kernel_rfl) (by simp) ?_
      refine AllReadyH.cons (o := ⟨_, _, _, _, _, _⟩) rfl (fun K hK => ?_) (AllReadyH.cons (o := ⟨_, _, _, _, _, _⟩) rfl (fun K hK => ?_) AllReadyH.nil)
      · go_simp
        have cM4 : wr.cell? ⟨N + 1, 4, none⟩ = some va := HM.out.cell 4
        go_simp
        refine hK.out _ _ trivial (fun _ => ?_)
        clear cM4
        clear hK K
        try simp only [Act.put, sa, s0, s1]
        refine wpAnyH_ready (rs := [3]) (by kernel_rfl) (by simp) ?_
        refine AllReadyH.cons (o := ⟨_, _, _, _, _, _⟩) rfl (fun K hK => ?_) AllReadyH.nil
        go_simp
        go_at_call 94
        refine (HNU.out _ HHd.out HKd.out).mono ?_
        rintro e w3 ⟨rfl, h3, hg3⟩
        have HM3 := Lib.hid (HMd.out.grown hg3 (by omega))
        have HN3 := Lib.hid (HNd.out.grown hg3 (by omega))
        have HO3 := Lib.hid (HOd.out.kept fun g hgb => hg3.block g (HOd.out.lt g hgb).2 (by intro e; cases e; have := (HOd.out.lt b hgb).1; omega))
        have HH3 := Lib.hid h3
        have HG3 := Lib.hid (grown_trans HGd.out hg3)
        have HK3 := Lib.hid (HKd.out.grown hg3 h9)
        clear h3 hg3
        go_wp2_with fail
        refine hK.out _ _ trivial (fun _ => ?_)
        clear hK K
        try simp only [Act.put, sa, s0, s1]
        refine wpAnyH_ready (rs := [4]) (by kernel_rfl) (by simp) ?_
        refine AllReadyH.cons (o := ⟨_, _, _, _, _, _⟩) rfl (fun K hK => ?_) AllReadyH.nil
        go_simp
        refine hK.out _ _ trivial (fun _ => ?_)
        clear hK K
        try simp only [Act.put, sa, s0, s1]
        refine wpAnyH_ready (rs := [5]) (by kernel_rfl) (by simp) ?_
        refine AllReadyH.cons (o := ⟨_, _, _, _, _, _⟩) rfl (fun K hK => ?_) AllReadyH.nil
        rw [if_pos (by rfl)]
        refine wp_append_irows Tryz.underlying26 int_info rfl (by decide) (by decide) (.tmp 19) (.tmp 22) N (acc.map fun a => [a]) [[n]] _ _ (HO3.out.below ((Below.refl _ _).alloc (Nat.le_refl _) _)) ⟨by simp, .inr ⟨w3.heap.size, 0, 1, rfl, (RowAt.new w3 3 #[.int .i64 n]).lt, ?_⟩⟩ (by rw [List.length_map]; have := HLEN.out; simp; omega) (by have := HM3.out.lt; simp; omega) rfl rfl rfl ?_
        · intro i r hr j x hx
          have hi : i = 0 := by have := (List.getElem?_eq_some_iff.1 hr).1; simpa using this
          subst hi
          simp at hr
          subst hr
          have hj : j = 0 := by have := (List.getElem?_eq_some_iff.1 hx).1; simpa using this
          subst hj
          simp at hx
          subst hx
          exact (RowAt.new w3 3 #[.int .i64 n]).cell 0
        intro v5 w5 ho5 hg5
        obtain ⟨A5, n5, c5, rfl⟩ := ho5.slice3
        have b35 : Below N w3 w5 := ((Below.refl _ _).alloc (by have := HN3.out.lt; omega) _).grown hg5 (by have := HN3.out.lt; simp; omega) (fun j e => (HO3.out.lt j e).1)
        have keep5 : ∀ g T cs, T ≠ 3 → RowAt w3 g T cs → RowAt w5 g T cs := fun g T cs hT hr => by
          have h1 := hr.alloc (.cells #[.int .i64 n] 3)
          refine (hg5.block g h1.lt fun e => ?_).trans h1
          exact HO3.out.ne_row (fun h => hT h.symm) hr g (by rw [← e]) rfl
        have HM5 := Lib.hid (keep5 _ _ _ (by decide) HM3.out)
        have HN5 := Lib.hid (keep5 _ _ _ (by decide) HN3.out)
        have HH5 := Lib.hid (HH3.out.below b35 (by omega))
        have HK5 := Lib.hid (HK3.out.below b35 (by omega))
        have HG5 := Lib.hid (show w.grownBy w5 (some b) from grown_trans' HG3.out b35 (by rw [HNN.out]; exact Nat.le_refl _))
        have HO5 := Lib.hid ho5
        clear ho5 hg5 b35 keep5
        refine hK.out _ _ trivial (fun _ => ?_)
        clear hK K
        try simp only [Act.put, sa, s0, s1]
        refine tk 6 (v := ?_) rfl (by kernel_rfl) (fun _ _ _ h => h) (by rfl) (by assumption) ?_ ?_
        rotate_left
        · intro w hSw
          go_simp
          all_goals with_reducible rfl
        simp only [Act.put, sa, s0, s1]
        refine wpAnyH_ready (rs := [7]) (by kernel_rfl) (by simp) ?_
        refine AllReadyH.cons (o := ⟨_, _, _, _, _, _⟩) rfl (fun K hK => ?_) AllReadyH.nil
        go_simp
        have fM4 : w5.frozen? ⟨N + 1, 4, none⟩ = false := HM5.out.free 4
        have cM4 : w5.cell? ⟨N + 1, 4, none⟩ = some va := HM5.out.cell 4
        go_simp
        refine hK.out _ _ trivial (fun _ => ?_)
        clear hK K
        try simp only [Act.put, sa, s0, s1]
        refine wpAnyH_done (by kernel_rfl) ?_ _
        go_wp2_with fail
        go_roundw
        case rel => exact ⟨acc ++ [n], .slice A5 n5 c5, ⟨t, !ok⟩, Lib.hid ⟨HNEXT.out, by have := HLEN.out; simp at this ⊢; omega, HM5.out.set 4 (.slice A5 n5 c5), HN5.out.far (p := ⟨N + 1, 4, none⟩) (by show N ≠ N + 1; omega) _, by rw [List.map_append]; exact HO5.out.kept fun g hgb => Below.heap_setCell w5 ⟨N + 1, 4, none⟩ _ g (HO5.out.ne_row (by decide) HM5.out g hgb), HH5.out.cellFar (by omega), HK5.out.cellFar (by omega), grown_cell HG5.out (by have := HNN.out; omega)⟩⟩
        case measure => rw [HLW.out, lenW_of (HH5.out.cellFar (N := N + 1) (i := 4) (u := .slice A5 n5 c5) (by omega))]; simp
      · go_simp
        go_at_call 94
        refine (HNU.out _ HHd.out HKd.out).mono ?_
        rintro e w3 ⟨rfl, h3, hg3⟩
        have HM3 := Lib.hid (HMd.out.grown hg3 (by omega))
        have HN3 := Lib.hid (HNd.out.grown hg3 (by omega))
        have HO3 := Lib.hid (HOd.out.kept fun g hgb => hg3.block g (HOd.out.lt g hgb).2 (by intro e; cases e; have := (HOd.out.lt b hgb).1; omega))
        have HH3 := Lib.hid h3
        have HG3 := Lib.hid (grown_trans HGd.out hg3)
        have HK3 := Lib.hid (HKd.out.grown hg3 h9)
        clear h3 hg3
        go_wp2_with fail
        refine hK.out _ _ trivial (fun _ => ?_)
        clear hK K
        try simp only [Act.put, sa, s0, s1]
        refine wpAnyH_ready (rs := [1, 4]) (by kernel_rfl) (by simp) ?_
        refine AllReadyH.cons (o := ⟨_, _, _, _, _, _⟩) rfl (fun K hK => ?_) (AllReadyH.cons (o := ⟨_, _, _, _, _, _⟩) rfl (fun K hK => ?_) AllReadyH.nil)
        · go_simp
          have cM4 : w3.cell? ⟨N + 1, 4, none⟩ = some va := HM3.out.cell 4
          go_simp
          refine hK.out _ _ trivial (fun _ => ?_)
          clear cM4
          clear hK K
          try simp only [Act.put, sa, s0, s1]
          refine wpAnyH_ready (rs := [4]) (by kernel_rfl) (by simp) ?_
          refine AllReadyH.cons (o := ⟨_, _, _, _, _, _⟩) rfl (fun K hK => ?_) AllReadyH.nil
          go_simp
          refine hK.out _ _ trivial (fun _ => ?_)
          clear hK K
          try simp only [Act.put, sa, s0, s1]
          refine wpAnyH_ready (rs := [5]) (by kernel_rfl) (by simp) ?_
          refine AllReadyH.cons (o := ⟨_, _, _, _, _, _⟩) rfl (fun K hK => ?_) AllReadyH.nil
          rw [if_pos (by rfl)]
          refine wp_append_irows Tryz.underlying26 int_info rfl (by decide) (by decide) (.tmp 19) (.tmp 22) N (acc.map fun a => [a]) [[n]] _ _ (HO3.out.below ((Below.refl _ _).alloc (Nat.le_refl _) _)) ⟨by simp, .inr ⟨w3.heap.size, 0, 1, rfl, (RowAt.new w3 3 #[.int .i64 n]).lt, ?_⟩⟩ (by rw [List.length_map]; have := HLEN.out; simp; omega) (by have := HM3.out.lt; simp; omega) rfl rfl rfl ?_
          · intro i r hr j x hx
            have hi : i = 0 := by have := (List.getElem?_eq_some_iff.1 hr).1; simpa using this
            subst hi
            simp at hr
            subst hr
            have hj : j = 0 := by have := (List.getElem?_eq_some_iff.1 hx).1; simpa using this
            subst hj
            simp at hx
            subst hx
            exact (RowAt.new w3 3 #[.int .i64 n]).cell 0
          intro v5 w5 ho5 hg5
          obtain ⟨A5, n5, c5, rfl⟩ := ho5.slice3
          have b35 : Below N w3 w5 := ((Below.refl _ _).alloc (by have := HN3.out.lt; omega) _).grown hg5 (by have := HN3.out.lt; simp; omega) (fun j e => (HO3.out.lt j e).1)
          have keep5 : ∀ g T cs, T ≠ 3 → RowAt w3 g T cs → RowAt w5 g T cs := fun g T cs hT hr => by
            have h1 := hr.alloc (.cells #[.int .i64 n] 3)
            refine (hg5.block g h1.lt fun e => ?_).trans h1
            exact HO3.out.ne_row (fun h => hT h.symm) hr g (by rw [← e]) rfl
          have HM5 := Lib.hid (keep5 _ _ _ (by decide) HM3.out)
          have HN5 := Lib.hid (keep5 _ _ _ (by decide) HN3.out)
          have HH5 := Lib.hid (HH3.out.below b35 (by omega))
          have HK5 := Lib.hid (HK3.out.below b35 (by omega))
          have HG5 := Lib.hid (show w.grownBy w5 (some b) from grown_trans' HG3.out b35 (by rw [HNN.out]; exact Nat.le_refl _))
          have HO5 := Lib.hid ho5
          clear ho5 hg5 b35 keep5
          refine hK.out _ _ trivial (fun _ => ?_)
          clear hK K
          try simp only [Act.put, sa, s0, s1]
          refine tk 6 (v := ?_) rfl (by kernel_rfl) (fun _ _ _ h => h) (by rfl) (by assumption) ?_ ?_
          rotate_left
          · intro w hSw
            go_simp
            all_goals with_reducible rfl
          simp only [Act.put, sa, s0, s1]
          refine wpAnyH_ready (rs := [7]) (by kernel_rfl) (by simp) ?_
          refine AllReadyH.cons (o := ⟨_, _, _, _, _, _⟩) rfl (fun K hK => ?_) AllReadyH.nil
          go_simp
          have fM4 : w5.frozen? ⟨N + 1, 4, none⟩ = false := HM5.out.free 4
          have cM4 : w5.cell? ⟨N + 1, 4, none⟩ = some va := HM5.out.cell 4
          go_simp
          refine hK.out _ _ trivial (fun _ => ?_)
          clear hK K
          try simp only [Act.put, sa, s0, s1]
          refine wpAnyH_done (by kernel_rfl) ?_ _
          go_wp2_with fail
          go_roundw
          case rel => exact ⟨acc ++ [n], .slice A5 n5 c5, ⟨t, !ok⟩, Lib.hid ⟨HNEXT.out, by have := HLEN.out; simp at this ⊢; omega, HM5.out.set 4 (.slice A5 n5 c5), HN5.out.far (p := ⟨N + 1, 4, none⟩) (by show N ≠ N + 1; omega) _, by rw [List.map_append]; exact HO5.out.kept fun g hgb => Below.heap_setCell w5 ⟨N + 1, 4, none⟩ _ g (HO5.out.ne_row (by decide) HM5.out g hgb), HH5.out.cellFar (by omega), HK5.out.cellFar (by omega), grown_cell HG5.out (by have := HNN.out; omega)⟩⟩
          case measure => rw [HLW.out, lenW_of (HH5.out.cellFar (N := N + 1) (i := 4) (u := .slice A5 n5 c5) (by omega))]; simp
        · go_simp
          refine hK.out _ _ trivial (fun _ => ?_)
          clear hK K
          try simp only [Act.put, sa, s0, s1]
          refine wpAnyH_ready (rs := [1]) (by kernel_rfl) (by simp) ?_
          refine AllReadyH.cons (o := ⟨_, _, _, _, _, _⟩) rfl (fun K hK => ?_) AllReadyH.nil
          go_simp
          have cM4 : (w3.alloc (.cells #[.int .i64 n] 3)).cell? ⟨N + 1, 4, none⟩ = some va := (HM3.out.alloc _).cell 4
          have cM5 : w3.cell? ⟨N + 1, 4, none⟩ = some va := HM3.out.cell 4
          have ltM : N + 1 < w3.heap.size := HM3.out.lt
          go_simp
          refine hK.out _ _ trivial (fun _ => ?_)
          clear cM4 cM5 ltM
          clear hK K
          try simp only [Act.put, sa, s0, s1]
          refine wpAnyH_ready (rs := [5]) (by kernel_rfl) (by simp) ?_
          refine AllReadyH.cons (o := ⟨_, _, _, _, _, _⟩) rfl (fun K hK => ?_) AllReadyH.nil
          rw [if_pos (by rfl)]
          refine wp_append_irows Tryz.underlying26 int_info rfl (by decide) (by decide) (.tmp 19) (.tmp 22) N (acc.map fun a => [a]) [[n]] _ _ (HO3.out.below ((Below.refl _ _).alloc (Nat.le_refl _) _)) ⟨by simp, .inr ⟨w3.heap.size, 0, 1, rfl, (RowAt.new w3 3 #[.int .i64 n]).lt, ?_⟩⟩ (by rw [List.length_map]; have := HLEN.out; simp; omega) (by have := HM3.out.lt; simp; omega) rfl rfl rfl ?_
          · intro i r hr j x hx
            have hi : i = 0 := by have := (List.getElem?_eq_some_iff.1 hr).1; simpa using this
            subst hi
            simp at hr
            subst hr
            have hj : j = 0 := by have := (List.getElem?_eq_some_iff.1 hx).1; simpa using this
            subst hj
            simp at hx
            subst hx
            exact (RowAt.new w3 3 #[.int .i64 n]).cell 0
          intro v5 w5 ho5 hg5
          obtain ⟨A5, n5, c5, rfl⟩ := ho5.slice3
          have b35 : Below N w3 w5 := ((Below.refl _ _).alloc (by have := HN3.out.lt; omega) _).grown hg5 (by have := HN3.out.lt; simp; omega) (fun j e => (HO3.out.lt j e).1)
          have keep5 : ∀ g T cs, T ≠ 3 → RowAt w3 g T cs → RowAt w5 g T cs := fun g T cs hT hr => by
            have h1 := hr.alloc (.cells #[.int .i64 n] 3)
            refine (hg5.block g h1.lt fun e => ?_).trans h1
            exact HO3.out.ne_row (fun h => hT h.symm) hr g (by rw [← e]) rfl
          have HM5 := Lib.hid (keep5 _ _ _ (by decide) HM3.out)
          have HN5 := Lib.hid (keep5 _ _ _ (by decide) HN3.out)
          have HH5 := Lib.hid (HH3.out.below b35 (by omega))
          have HK5 := Lib.hid (HK3.out.below b35 (by omega))
          have HG5 := Lib.hid (show w.grownBy w5 (some b) from grown_trans' HG3.out b35 (by rw [HNN.out]; exact Nat.le_refl _))
          have HO5 := Lib.hid ho5
          clear ho5 hg5 b35 keep5
          refine hK.out _ _ trivial (fun _ => ?_)
          clear hK K
          try simp only [Act.put, sa, s0, s1]
          refine tk 6 (v := ?_) rfl (by kernel_rfl) (fun _ _ _ h => h) (by rfl) (by assumption) ?_ ?_
          rotate_left
          · intro w hSw
            go_simp
            all_goals with_reducible rfl
          simp only [Act.put, sa, s0, s1]
          refine wpAnyH_ready (rs := [7]) (by kernel_rfl) (by simp) ?_
          refine AllReadyH.cons (o := ⟨_, _, _, _, _, _⟩) rfl (fun K hK => ?_) AllReadyH.nil
          go_simp
          have fM4 : w5.frozen? ⟨N + 1, 4, none⟩ = false := HM5.out.free 4
          have cM4 : w5.cell? ⟨N + 1, 4, none⟩ = some va := HM5.out.cell 4
          go_simp
          refine hK.out _ _ trivial (fun _ => ?_)
          clear hK K
          try simp only [Act.put, sa, s0, s1]
          refine wpAnyH_done (by kernel_rfl) ?_ _
          go_wp2_with fail
          go_roundw
          case rel => exact ⟨acc ++ [n], .slice A5 n5 c5, ⟨t, !ok⟩, Lib.hid ⟨HNEXT.out, by have := HLEN.out; simp at this ⊢; omega, HM5.out.set 4 (.slice A5 n5 c5), HN5.out.far (p := ⟨N + 1, 4, none⟩) (by show N ≠ N + 1; omega) _, by rw [List.map_append]; exact HO5.out.kept fun g hgb => Below.heap_setCell w5 ⟨N + 1, 4, none⟩ _ g (HO5.out.ne_row (by decide) HM5.out g hgb), HH5.out.cellFar (by omega), HK5.out.cellFar (by omega), grown_cell HG5.out (by have := HNN.out; omega)⟩⟩
          case measure => rw [HLW.out, lenW_of (HH5.out.cellFar (N := N + 1) (i := 4) (u := .slice A5 n5 c5) (by omega))]; simp
    · have HD : Hid (accV ws = (acc, ⟨ws', bad'⟩)) := Lib.hid (HMID.out.done (by
        by_cases hb : bad' = true
        · exact .inl hb
        · refine .inr ?_
          by_cases hw : ws' = []
          · exact hw
          · exact absurd ⟨by simpa using hb, hw⟩ hgo))
      have HFIN : Hid (FormEnd w b (recoupV ws) (.returned (.agg #[.int .i64 5, .int .i64 0, .int .i64 0, .int .i64 0, va])) (wr.setRow N #[.int .i64 5, .int .i64 0, .int .i64 0, .int .i64 0, va])) := Lib.hid (by
        unfold recoupV
        rw [HD.out]
        refine ⟨va, rfl, ?_, HH.out.rowFar hlt, grown_row HG.out (by rw [HNN.out]; exact Nat.le_refl _)⟩
        rw [HNN.out]
        exact HO.out.kept fun g hgb => setRow_far (HO.out.ne_row (by decide) HN1.out g hgb))
      cases bad'
      · obtain rfl : ws' = [] := by
          by_cases hw : ws' = []
          · exact hw
          · exact absurd ⟨rfl, hw⟩ hgo
        simp only [List.length_nil] at hc0
        clear hgo
        go_wp2_with (first | ((with_reducible refine load_trow (o := ⟨some 25, _, _, _, _, _⟩) (.tmp 3) (N + 1) #[.int .i64 5, .int .i64 0, .int .i64 0, .int .i64 0, va] HM.out rfl ?_ ?_ ?_ ?_); rfl; rfl; rfl) | ((with_reducible refine store_trow (o := ⟨none, .store _ _ _, _, _, _, _⟩) (.tmp 2) (.tmp 25) N #[.int .i64 5, .int .i64 0, .int .i64 0, .int .i64 0, va] _ HN1.out rfl rfl HVA.out ?_ ?_ ?_ ?_ ?_); rfl; rfl; rfl; rfl))
        refine bodyPost_ret (results_cell1 rfl _ _ N _ _ _ _ rfl (setRow_at HN1.out) Tryz.underlying28 rfl term_size) rfl ?_
        exact HFIN.out
      · obtain ⟨L, hL⟩ : ∃ z, ws'.length = z := ⟨_, rfl⟩
        rw [hL] at hc0
        clear hL hgo
        by_cases h0 : 0 < L
        · have d0 : decide (0 < L) = true := by simpa using h0
          go_wp2_with (first | ((with_reducible refine load_trow (o := ⟨some 25, _, _, _, _, _⟩) (.tmp 3) (N + 1) #[.int .i64 5, .int .i64 0, .int .i64 0, .int .i64 0, va] HM.out rfl ?_ ?_ ?_ ?_); rfl; rfl; rfl) | ((with_reducible refine store_trow (o := ⟨none, .store _ _ _, _, _, _, _⟩) (.tmp 2) (.tmp 25) N #[.int .i64 5, .int .i64 0, .int .i64 0, .int .i64 0, va] _ HN1.out rfl rfl HVA.out ?_ ?_ ?_ ?_ ?_); rfl; rfl; rfl; rfl))
          refine bodyPost_ret (results_cell1 rfl _ _ N _ _ _ _ rfl (setRow_at HN1.out) Tryz.underlying28 rfl term_size) rfl ?_
          exact HFIN.out
        · obtain rfl : L = 0 := by omega
          go_wp2_with (first | ((with_reducible refine load_trow (o := ⟨some 25, _, _, _, _, _⟩) (.tmp 3) (N + 1) #[.int .i64 5, .int .i64 0, .int .i64 0, .int .i64 0, va] HM.out rfl ?_ ?_ ?_ ?_); rfl; rfl; rfl) | ((with_reducible refine store_trow (o := ⟨none, .store _ _ _, _, _, _, _⟩) (.tmp 2) (.tmp 25) N #[.int .i64 5, .int .i64 0, .int .i64 0, .int .i64 0, va] _ HN1.out rfl rfl HVA.out ?_ ?_ ?_ ?_ ?_); rfl; rfl; rfl; rfl))
          refine bodyPost_ret (results_cell1 rfl _ _ N _ _ _ _ rfl (setRow_at HN1.out) Tryz.underlying28 rfl term_size) rfl ?_
          exact HFIN.out
end Go.Proofs.YtfiabonacpepnaaGreatDoor
