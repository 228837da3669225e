/- DigestChainBinding. -/
import Derived.Test.YtgmdjbhclihflaaDoorDgCh
import Derived.Test.YtgmdjbhclihflaaDoorDgPr
namespace Go.Proofs.YtgmdjbhclihflaaDoor
open Go Go.RowKit Go.Lib Go.Shelf
attribute [local go_sem] Oper.semAt_some

theorem Below.allocS {a w : World} (h : Below a.heap.size a w) (o : Obj) : Below a.heap.size a (w.alloc o) := h.alloc h.size o
/-- step_go, also under a guard -/
theorem step_go2 {P : Program} {ops : Array Oper} {o : Oper} {a : Act} {w : World} {K : Act → World → Prop} {Q : Exit → Act → World → Prop} {E : Prop} (hw : Region.wanted o (yielded ops a.tmps) = true) (f : FuncId) {fn : Func} (hf : P.funcs[f]? = some fn) (hb : fn.body.isNone = false) (hn : (fn.name == "runtime.NumGoroutine") = false) (args : Array Operand) (ts : Array TypeId)
    (ho : o.op = .call { callee := .value (.func f), args := args, argTypes := ts }) (vals : Array Value) (hv : args.map a.eval = vals) (v : Value) (S : World → Prop)
    (hc : Calls P f vals w fun e w' => e = .returned v ∧ S w') (h : ∀ w', S w' → K (a.put o.dst v) w') : if Region.wanted o (yielded ops a.tmps) = true then Oper.wp P o a w K Q else E := by
  rw [if_pos hw]
  have hr : (execOp a.eval o).run P w = .ok (.enter f vals) w := by
    unfold execOp
    have hc : (callFunc f vals).run P w = .ok (.enter f vals) w := by
      unfold callFunc
      have hb' : ¬ fn.body = none := by intro e; rw [e] at hb; simp at hb
      have hn' : ¬ fn.name = "runtime.NumGoroutine" := by simpa using hn
      simp [go_sem, hf, hb', hn']
    simp [ho, go_sem, Act.eval, hv, hc]
  unfold Oper.wp
  rw [hr]
  refine hc.mono ?_
  rintro e w' ⟨rfl, hs⟩
  exact h w' hs
set_option maxRecDepth 100000 in
set_option maxHeartbeats 4000000 in
theorem chain_yes (vp : Value) (ps : List (List UInt8)) (vq : Value) (qs : List (List UInt8)) (w : World) (hp : SlS w vp ps) (hq : SlS w vq qs) (hpn : ps.length ≤ 9223372036854775807) (hqn : qs.length ≤ 9223372036854775807) (hK : KAt w) :
    Calls Tryd.prog 10 #[vp, vq] w fun e w' => e = .returned (.bool true) ∧ Below w.heap.size w w' := by
  have HK : Hid (∀ W, Below w.heap.size w W → KAt W) := Lib.hid (fun W hb => hK.below hb)
  have SN := Lib.hid (sane_any w hK)
  have FP := Lib.hid (fun W (hb : Below w.heap.size w W) => few_any vp ps 20 W (hp.below hb) hpn (by omega))
  have FQ := Lib.hid (fun W (hb : Below w.heap.size w W) => few_any vq qs 20 W (hq.below hb) hqn (by omega))
  clear hK hp hq
  obtain ⟨a, hlp⟩ : ∃ l, (ps.take 20).map (·.take 60) = l := ⟨_, rfl⟩
  obtain ⟨b, hlq⟩ : ∃ l, (qs.take 20).map (·.take 60) = l := ⟨_, rfl⟩
  rw [hlp] at FP
  rw [hlq] at FQ
  have hl1 : a.length ≤ 20 := by rw [← hlp, List.length_map, List.length_take]; omega
  have hl2 : b.length ≤ 20 := by rw [← hlq, List.length_map, List.length_take]; omega
  have HX1 : Hid (∀ x ∈ a, x.length ≤ 60) := Lib.hid (by
    rw [← hlp]; intro x hx; obtain ⟨y, _, rfl⟩ := List.mem_map.1 hx; rw [List.length_take]; omega)
  have HX2 : Hid (∀ x ∈ b, x.length ≤ 60) := Lib.hid (by
    rw [← hlq]; intro x hx; obtain ⟨y, _, rfl⟩ := List.mem_map.1 hx; rw [List.length_take]; omega)
  clear hlp hlq
  obtain ⟨na, hna⟩ : ∃ n, a.length = n := ⟨_, rfl⟩
  obtain ⟨nb, hnb⟩ : ∃ n, b.length = n := ⟨_, rfl⟩
  rw [hna] at hl1
  rw [hnb] at hl2
  have HAB := Lib.hid (And.intro hna hnb)
  have hA := headsF_len a
  have hB := headsF_len b
  rw [hna] at hA
  rw [hnb] at hB
  have hsm : ∀ z, z ∈ (headsF a).1 ∨ z ∈ (headsF b).1 → z.length ≤ 10000 := by
    intro z hz
    rcases hz with hz | hz
    · have := headsF_small 60 a HX1.out z hz; omega
    · have := headsF_small 60 b HX2.out z hz; omega
  have hcbf := chain_binding a b
  have heq : a = b → (headsF a).2 = (headsF b).2 := fun e => by rw [e]
  have HA' : Hid (∀ W va, Below w.heap.size w W → SlS W va a → Calls Tryd.prog 35 #[va] W fun e w' => ∃ v, e = .returned (.tuple #[v, .string ⟨(headsF a).2.toArray⟩]) ∧ SlS w' v (headsF a).1 ∧ Below W.heap.size W w') := Lib.hid (fun W va hb hs => heads_any va a W hs (by omega) (fun x hx => by have := HX1.out x hx; omega) (HK.out W hb))
  have HB' : Hid (∀ W va, Below w.heap.size w W → SlS W va b → Calls Tryd.prog 35 #[va] W fun e w' => ∃ v, e = .returned (.tuple #[v, .string ⟨(headsF b).2.toArray⟩]) ∧ SlS w' v (headsF b).1 ∧ Below W.heap.size W w') := Lib.hid (fun W va hb hs => heads_any va b W hs (by omega) (fun x hx => by have := HX2.out x hx; omega) (HK.out W hb))
  obtain ⟨X, hX⟩ : ∃ u, (headsF a).1 = u := ⟨_, rfl⟩
  obtain ⟨Y, hY⟩ : ∃ u, (headsF b).1 = u := ⟨_, rfl⟩
  have HXY := Lib.hid (And.intro hX hY)
  obtain ⟨h, hh⟩ : ∃ u, (headsF a).2 = u := ⟨_, rfl⟩
  obtain ⟨k, hk⟩ : ∃ u, (headsF b).2 = u := ⟨_, rfl⟩
  rw [hX, hh] at hA HA'
  rw [hY, hk] at hB HB'
  rw [hX, hY] at hsm hcbf
  rw [hh, hk] at hcbf heq
  have HSM := Lib.hid hsm
  have HLL := Lib.hid (And.intro hA.1 hB.1)
  have hh32 : h.length = 32 := hA.2
  have hk32 := Lib.hid hB.2
  have HCF := Lib.hid hcbf
  have HEQ := Lib.hid heq
  clear hX hY hh hk hA hB hsm hcbf heq hna hnb
  go_enter Tryd.func10, Tryd.ntmps10
  go_wp2_with fail
  refine SN.out.mono ?_
  rintro e W1 ⟨rfl, hb1⟩
  have H1 := Lib.hid hb1
  clear hb1
  go_wp2_with fail
  refine (FP.out W1 H1.out).mono ?_
  rintro e W2 ⟨v2, rfl, ho2, hb2⟩
  obtain ⟨A2, c2, hv2, hc2⟩ := ho2.slice
  rw [HAB.out.1] at hv2
  subst hv2
  have H2 := Lib.hid (And.intro ho2.sls (H1.out.trans (hb2.mono H1.out.size)))
  clear ho2 hb2 hc2
  go_wp2_with fail
  refine (FQ.out W2 H2.out.2).mono ?_
  rintro e W3 ⟨v3, rfl, ho3, hb3⟩
  obtain ⟨A3, c3, hv3, hc3⟩ := ho3.slice
  rw [HAB.out.2] at hv3
  subst hv3
  have H3 : Hid (∀ W, Below W3.heap.size W3 W → SlS W (.slice A2 na c2) a ∧ SlS W (.slice A3 nb c3) b ∧ Below w.heap.size w W) := Lib.hid (fun W hb =>
    ⟨(H2.out.1.below hb3).below hb, ho3.sls.below hb, (H2.out.2.trans (hb3.mono H2.out.2.size)).trans (hb.mono (Nat.le_trans H2.out.2.size hb3.size))⟩)
  clear ho3 hb3 hc3
  have h3 := Lib.hid (H3.out W3 (Below.refl _ _))
  go_wp2_with fail
  refine (HA'.out W3 _ h3.out.2.2 h3.out.1).mono ?_
  rintro e W4 ⟨vx, rfl, hsx, hb4⟩
  have H4 := Lib.hid (And.intro hsx hb4)
  clear hsx hb4
  go_wp2_with fail
  have h4 := H3.out W4 H4.out.2
  refine (HB'.out W4 _ h4.2.2 h4.2.1).mono ?_
  rintro e W5 ⟨vy, rfl, hsy, hb5⟩
  have hb45 := H4.out.2.trans (hb5.mono H4.out.2.size)
  have H5 := Lib.hid (And.intro (H3.out W5 hb45).2.2 (And.intro (H4.out.1.below hb5) (And.intro hsy hb45)))
  clear hsy hb5 hb45 h4
  obtain ⟨AX, cx, hvx⟩ := H5.out.2.1.slice
  obtain ⟨AY, cy, hvy⟩ := H5.out.2.2.1.slice
  rw [HLL.out.1] at hvx
  rw [HLL.out.2] at hvy
  subst hvx hvy
  have SM := Lib.hid (same_any _ _ a b W5 (H3.out W5 H5.out.2.2.2).1 (H3.out W5 H5.out.2.2.2).2.1 (by rw [HAB.out.1]; omega))
  have CO : Hid (∀ W, Below W5.heap.size W5 W → Calls Tryd.prog 24 #[.slice AX na cx, .slice AY nb cy] W fun e w' => e = .returned (.bool (collB X Y)) ∧ Below W.heap.size W w') := Lib.hid (fun W hb =>
    collide_any _ _ X Y W (H5.out.2.1.below hb) (H5.out.2.2.1.below hb) (fun x hx => HSM.out x (.inl hx)) (fun x hx => HSM.out x (.inr hx)) (by rw [HLL.out.1]; omega) (by rw [HLL.out.2]; omega) (HK.out W (H5.out.1.trans (hb.mono H5.out.1.size))))
  clear HA' HB' SN FP FQ h3
  by_cases hab : a = b
  · have hhk := HEQ.out hab
    subst hab hhk
    have hsame : (a == a) = true := beq_self_eq_true a
    rw [hsame] at SM
    clear hsame
    go_wp2_with fail
    refine SM.out.mono ?_
    rintro e W6 ⟨rfl, hb6⟩
    have H6 := Lib.hid hb6
    clear hb6
    go_wp2_with fail
    go_ret
    exact ⟨rfl, H5.out.1.trans (H6.out.mono H5.out.1.size)⟩
  · have hsame : (a == b) = false := beq_eq_false_iff_ne.2 hab
    rw [hsame] at SM
    clear hsame
    go_wp2_with fail
    refine SM.out.mono ?_
    rintro e W6 ⟨rfl, hb6⟩
    have H6 := Lib.hid hb6
    clear hb6
    by_cases hhk : h = k
    · subst hhk
      have hcb := HCF.out hab rfl
      rw [HAB.out.1, HAB.out.2] at hcb
      obtain ⟨cb, hcbe⟩ : ∃ u, collB X Y = u := ⟨_, rfl⟩
      rw [hcbe] at hcb CO
      have HCB := Lib.hid hcb
      clear hcb hcbe
      by_cases hnn : na = nb
      · have hct : cb = true := by
          rcases HCB.out with h | h
          · exact h
          · exact absurd hnn h.1
        subst hct hnn
        have hlong : decide (na < na) = false := by simp
        go_wp2_with fail
        go_quiet (fail)
        go_wp2_with fail
        refine (CO.out _ (by have h := H6.out; exact ⟨h.os, h.tape, h.output, h.size, h.block⟩)).mono ?_
        rintro e W7 ⟨rfl, hb7⟩
        have H7 := Lib.hid hb7
        clear hb7
        go_wp2_with fail
        go_ret
        refine ⟨rfl, ?_⟩
        have h67 : Below W5.heap.size W5 W7 := H6.out.trans (by have h := H7.out; exact Below.mono ⟨h.os, h.tape, h.output, h.size, h.block⟩ H6.out.size)
        exact H5.out.1.trans (h67.mono H5.out.1.size)
      · by_cases hlt0 : na < nb
        · have hlt : na < nb := by omega
          have hne : ((na : Int) == (nb : Int)) = false := beq_eq_false_iff_ne.2 (by omega)
          have hne2 : (na == nb) = false := beq_eq_false_iff_ne.2 (by omega)
          have hne3 : ((na : Int) != (nb : Int)) = true := bne_iff_ne.2 (by omega)
          have hne4 : (na != nb) = true := bne_iff_ne.2 (by omega)
          have hlong : decide (na < nb) = true := by simp; omega
          have hmin : min (na : Int) (nb : Int) = (na : Int) := by omega
          obtain ⟨z, hz, hcb⟩ : ∃ z, Y[na]? = some z ∧ (cb = true ∨ shaB z = hd0) := by
            have hkl : na < Y.length := by rw [HLL.out.2]; omega
            refine ⟨_, List.getElem?_eq_getElem hkl, ?_⟩
            rcases HCB.out with h | ⟨_, z, h1, h2⟩
            · exact .inl h
            · right
              have e : longF a b = Y := by unfold longF; rw [HAB.out.1, HAB.out.2, if_pos hlt]; exact HXY.out.2
              rw [e, Nat.min_eq_left (by omega), List.getElem?_eq_getElem hkl] at h1
              rw [Option.some.inj h1]; exact h2
          obtain ⟨bz, oz, hAz, hltz, hcz⟩ := (H5.out.2.2.1).get hz
          subst hAz
          have HCZ : Hid (∀ W, Below W5.heap.size W5 W → W.cell? ⟨bz, oz + na, none⟩ = some (.string ⟨z.toArray⟩)) := Lib.hid (fun W hb => (hb.cell (p := ⟨bz, oz + na, none⟩) hltz).trans hcz)
          have hzl : z.length ≤ 10000 := HSM.out z (by
            right; exact List.mem_of_getElem? hz)
          have hki : na < nb := hlt
          obtain ⟨sz, hsz⟩ : ∃ u, shaB z = u := ⟨_, rfl⟩
          rw [hsz] at hcb
          obtain ⟨d0, hd⟩ : ∃ u, hd0 = u := ⟨_, rfl⟩
          rw [hd] at hcb
          have SZ : Hid (∀ W, Below W5.heap.size W5 W → Calls Tryd.prog 27 #[.string ⟨z.toArray⟩] W fun e w' => e = .returned (.string ⟨sz.toArray⟩) ∧ Below W.heap.size W w') := Lib.hid (fun W hb => by
            rw [← hsz]; exact sum_any z W (by omega) (HK.out W (H5.out.1.trans (hb.mono H5.out.1.size))))
          have CV : Hid (∀ (W : World) (b : Nat), RowAt W b 5 Z32 → (convert 45 9 (.slice (some ⟨b, 0, none⟩) 32 32)).run Tryd.prog W = .ok (.string ⟨d0.toArray⟩) W) := Lib.hid (fun W b h => by rw [← hd]; exact cv32 W b h)
          have HCBB := Lib.hid hcb
          clear hcz hltz hz hsz hd hcb
          have b6 := H6.out
          go_upto_region 14 with fail
          go_cut [12] from 61 to 79 (fun v12 wx => v12 = .bool (sz == d0) ∧ Hid (Below W5.heap.size W5 wx))
          case first =>
            have hmk := mk32
            have ca0 := HCZ.out W6 b6
            have hcv1 := CV.out _ _ (RowAt.new W6 5 Z32)
            have hcv1d := CV.out _ _ (RowAt.new W6 5 Z32).drew
            have HKP : Hid (∀ W, Below W5.heap.size W5 W → Below W5.heap.size W5 W ∧ W.cell? ⟨bz, oz + na, none⟩ = some (.string ⟨z.toArray⟩)) := Lib.hid (fun W hb => ⟨hb, HCZ.out W hb⟩)
            have SZ2 : Hid (∀ W, Below W5.heap.size W5 W → Calls Tryd.prog 27 #[.string ⟨z.toArray⟩] W fun e w' => e = .returned (.string ⟨sz.toArray⟩) ∧ Below W.heap.size W w' ∧ Below W5.heap.size W5 w') := Lib.hid (fun W hb => (SZ.out W hb).mono (fun e w' hh => ⟨hh.1, hh.2, hb.trans (hh.2.mono hb.size)⟩))
            have b6a := Below.allocS b6.drew (.cells Z32 5)
            refine wp_region_noPanic ?_
            refine wp_region_held_drew (S := fun W => Below W5.heap.size W5 W ∧ W.cell? ⟨bz, oz + na, none⟩ = some (.string ⟨z.toArray⟩)) (by kernel_rfl) (HKP.out _ b6.drew) (fun hHeld => ?_)
            refine wpAnyH_take (i := 0) (oi := ⟨_, _, _, _, _, _⟩) (v := ?_) rfl (by kernel_rfl) (by kernel_rfl) (by kernel_rfl) (fun _ _ _ h => h) (Or.inl ⟨by rfl, ?_⟩) (by assumption) ?_
            rotate_left
            · intro w hSw
              go_simp
              all_goals with_reducible rfl
            simp only [Act.put, List.setIfInBounds_toArray, List.set_cons_zero, List.set_cons_succ]
            refine wpAnyH_take (i := 1) (oi := ⟨_, _, _, _, _, _⟩) (v := ?_) rfl (by kernel_rfl) (by kernel_rfl) (by kernel_rfl) (fun _ _ _ h => h) (Or.inl ⟨by rfl, ?_⟩) (by assumption) ?_
            rotate_left
            · intro w hSw
              go_simp
              all_goals with_reducible rfl
            simp only [Act.put, List.setIfInBounds_toArray, List.set_cons_zero, List.set_cons_succ]
            refine wpAnyH_take (i := 2) (oi := ⟨_, _, _, _, _, _⟩) (v := ?_) rfl (by kernel_rfl) (by kernel_rfl) (by kernel_rfl) (fun _ _ _ h => h) (Or.inl ⟨by rfl, ?_⟩) (by assumption) ?_
            rotate_left
            · intro w hSw
              go_simp
              all_goals with_reducible rfl
            simp only [Act.put, List.setIfInBounds_toArray, List.set_cons_zero, List.set_cons_succ]
            refine wpAnyH_take (i := 3) (oi := ⟨_, _, _, _, _, _⟩) (v := ?_) rfl (by kernel_rfl) (by kernel_rfl) (by kernel_rfl) (fun _ _ _ h => h) (Or.inl ⟨by rfl, ?_⟩) (by assumption) ?_
            rotate_left
            · intro w hSw
              go_simp
              all_goals with_reducible rfl
            simp only [Act.put, List.setIfInBounds_toArray, List.set_cons_zero, List.set_cons_succ]
            refine wpAnyH_take (i := 4) (oi := ⟨_, _, _, _, _, _⟩) (v := ?_) rfl (by kernel_rfl) (by kernel_rfl) (by kernel_rfl) (fun _ _ _ h => h) (Or.inl ⟨by rfl, ?_⟩) (by assumption) ?_
            rotate_left
            · intro w hSw
              go_simp
              all_goals with_reducible rfl
            simp only [Act.put, List.setIfInBounds_toArray, List.set_cons_zero, List.set_cons_succ]
            refine wpAnyH_take (i := 5) (oi := ⟨_, _, _, _, _, _⟩) (v := ?_) rfl (by kernel_rfl) (by kernel_rfl) (by kernel_rfl) (fun _ _ _ h => h) (Or.inl ⟨by rfl, ?_⟩) (by assumption) ?_
            rotate_left
            · intro w hSw
              go_simp
              all_goals with_reducible rfl
            simp only [Act.put, List.setIfInBounds_toArray, List.set_cons_zero, List.set_cons_succ]
            refine wpAnyH_take (i := 6) (oi := ⟨_, _, _, _, _, _⟩) (v := ?_) rfl (by kernel_rfl) (by kernel_rfl) (by kernel_rfl) (fun _ _ _ h => h) (Or.inl ⟨by rfl, ?_⟩) (by assumption) ?_
            rotate_left
            · intro w hSw
              go_simp
              all_goals with_reducible rfl
            simp only [Act.put, List.setIfInBounds_toArray, List.set_cons_zero, List.set_cons_succ]
            refine wpAnyH_take (i := 7) (oi := ⟨_, _, _, _, _, _⟩) (v := ?_) rfl (by kernel_rfl) (by kernel_rfl) (by kernel_rfl) (fun _ _ _ h => h) (Or.inl ⟨by rfl, ?_⟩) (by assumption) ?_
            rotate_left
            · intro w hSw
              go_simp
              all_goals with_reducible rfl
            simp only [Act.put, List.setIfInBounds_toArray, List.set_cons_zero, List.set_cons_succ]
            refine wpAnyH_take (i := 8) (oi := ⟨_, _, _, _, _, _⟩) (v := ?_) rfl (by kernel_rfl) (by kernel_rfl) (by kernel_rfl) (fun _ _ _ h => h) (Or.inl ⟨by rfl, ?_⟩) (by assumption) ?_
            rotate_left
            · intro w hSw
              go_simp
              all_goals with_reducible rfl
            simp only [Act.put, List.setIfInBounds_toArray, List.set_cons_zero, List.set_cons_succ]
            refine wpAnyH_take (i := 9) (oi := ⟨_, _, _, _, _, _⟩) (v := ?_) rfl (by kernel_rfl) (by kernel_rfl) (by kernel_rfl) (fun _ _ _ h => h) (Or.inl ⟨by rfl, ?_⟩) (by assumption) ?_
            rotate_left
            · intro w hSw
              go_simp
              all_goals with_reducible rfl
            simp only [Act.put, List.setIfInBounds_toArray, List.set_cons_zero, List.set_cons_succ]
            refine wpAnyH_take (i := 10) (oi := ⟨_, _, _, _, _, _⟩) (v := ?_) rfl (by kernel_rfl) (by kernel_rfl) (by kernel_rfl) (fun _ _ _ h => h) (Or.inl ⟨by rfl, ?_⟩) (by assumption) ?_
            rotate_left
            · intro w hSw
              go_simp
              all_goals with_reducible rfl
            simp only [Act.put, List.setIfInBounds_toArray, List.set_cons_zero, List.set_cons_succ]
            refine wpAnyH_take (i := 11) (oi := ⟨_, _, _, _, _, _⟩) (v := ?_) rfl (by kernel_rfl) (by kernel_rfl) (by kernel_rfl) (fun _ _ _ h => h) (Or.inl ⟨by rfl, ?_⟩) (by assumption) ?_
            rotate_left
            · intro w hSw
              go_simp
              all_goals with_reducible rfl
            simp only [Act.put, List.setIfInBounds_toArray, List.set_cons_zero, List.set_cons_succ]
            refine wpAnyH_take (i := 12) (oi := ⟨_, _, _, _, _, _⟩) (v := ?_) rfl (by kernel_rfl) (by kernel_rfl) (by kernel_rfl) (fun _ _ _ h => h) (Or.inl ⟨by rfl, ?_⟩) (by assumption) ?_
            rotate_left
            · intro w hSw
              go_simp
              all_goals with_reducible rfl
            simp only [Act.put, List.setIfInBounds_toArray, List.set_cons_zero, List.set_cons_succ]
            refine wpAnyH_take (i := 13) (oi := ⟨_, _, _, _, _, _⟩) (v := ?_) rfl (by kernel_rfl) (by kernel_rfl) (by kernel_rfl) (fun _ _ _ h => h) (Or.inl ⟨by rfl, ?_⟩) (by assumption) ?_
            rotate_left
            · intro w hSw
              have hcz0 := hSw.2
              go_simp
              all_goals with_reducible rfl
            simp only [Act.put, List.setIfInBounds_toArray, List.set_cons_zero, List.set_cons_succ]
            refine wpAnyH_ready (rs := [14, 15]) (by kernel_rfl) (by simp) ?_
            refine AllReadyH.cons (o := ⟨_, _, _, _, _, _⟩) rfl (fun K hK => ?_) ?_
            rotate_left
            · refine AllReadyH.cons (o := ⟨_, _, _, _, _, _⟩) rfl (fun K hK => ?_) AllReadyH.nil
              go_simp
              refine hK.out _ _ (HKP.out _ b6a) (fun _ => ?_)
              clear hK K
              try simp only [Act.put, List.setIfInBounds_toArray, List.set_cons_zero, List.set_cons_succ]
              refine wpAnyH_ready (rs := [14, 16]) (by kernel_rfl) (by simp) ?_
              refine AllReadyH.cons (o := ⟨_, _, _, _, _, _⟩) rfl (fun K hK => ?_) ?_
              rotate_left
              · refine AllReadyH.cons (o := ⟨_, _, _, _, _, _⟩) rfl (fun K hK => ?_) AllReadyH.nil
                have hcv := CV.out _ _ (RowAt.new W6.drew 5 Z32)
                go_simp
                refine hK.out _ _ (HKP.out _ b6a) (fun _ => ?_)
                clear hK K
                try simp only [Act.put, List.setIfInBounds_toArray, List.set_cons_zero, List.set_cons_succ]
                refine wpAnyH_ready (rs := [14]) (by kernel_rfl) (by simp) ?_
                refine AllReadyH.cons (o := ⟨_, _, _, _, _, _⟩) rfl (fun K hK => ?_) AllReadyH.nil
                go_simp
                refine (SZ2.out _ b6a).mono ?_
                rintro e Z ⟨rfl, hZ, hZ5⟩
                go_wp2_with fail
                refine hK.out _ _ (HKP.out _ hZ5) (fun _ => ?_)
                clear hK K
                try simp only [Act.put, List.setIfInBounds_toArray, List.set_cons_zero, List.set_cons_succ]
                refine wpAnyH_take (i := 17) (oi := ⟨_, _, _, _, _, _⟩) (v := ?_) rfl (by kernel_rfl) (by kernel_rfl) (by kernel_rfl) (fun _ _ _ h => h) (Or.inl ⟨by rfl, ?_⟩) (by assumption) ?_
                rotate_left
                · intro w hSw
                  go_simp
                  all_goals with_reducible rfl
                simp only [Act.put, List.setIfInBounds_toArray, List.set_cons_zero, List.set_cons_succ]
                refine wpAnyH_take (i := 18) (oi := ⟨_, _, _, _, _, _⟩) (v := ?_) rfl (by kernel_rfl) (by kernel_rfl) (by kernel_rfl) (fun _ _ _ h => h) (Or.inl ⟨by rfl, ?_⟩) (by assumption) ?_
                rotate_left
                · intro w hSw
                  go_simp
                  all_goals with_reducible rfl
                simp only [Act.put, List.setIfInBounds_toArray, List.set_cons_zero, List.set_cons_succ]
                refine wpAnyH_take (i := 19) (oi := ⟨_, _, _, _, _, _⟩) (v := ?_) rfl (by kernel_rfl) (by kernel_rfl) (by kernel_rfl) (fun _ _ _ h => h) (Or.inl ⟨by rfl, ?_⟩) (by assumption) ?_
                rotate_left
                · intro w hSw
                  go_simp
                  all_goals with_reducible rfl
                simp only [Act.put, List.setIfInBounds_toArray, List.set_cons_zero, List.set_cons_succ]
                refine wpAnyH_done (by kernel_rfl) ?_ _
                refine NoPanic.normal ?_
                go_wp2_with fail
                go_meet
                case rel => exact ⟨rfl, Lib.hid (by first | assumption | exact hZ5)⟩
              · go_simp
                refine (SZ2.out _ b6a).mono ?_
                rintro e Z ⟨rfl, hZ, hZ5⟩
                go_wp2_with fail
                refine hK.out _ _ (HKP.out _ hZ5) (fun _ => ?_)
                clear hK K
                try simp only [Act.put, List.setIfInBounds_toArray, List.set_cons_zero, List.set_cons_succ]
                have hcv := CV.out Z W6.heap.size ((RowAt.new W6.drew 5 Z32).below hZ (by simp))
                refine wpAnyH_ready (rs := [16]) (by kernel_rfl) (by simp) ?_
                refine AllReadyH.cons (o := ⟨_, _, _, _, _, _⟩) rfl (fun K hK => ?_) AllReadyH.nil
                go_simp
                refine hK.out _ _ (HKP.out _ hZ5) (fun _ => ?_)
                clear hK K
                try simp only [Act.put, List.setIfInBounds_toArray, List.set_cons_zero, List.set_cons_succ]
                refine wpAnyH_take (i := 17) (oi := ⟨_, _, _, _, _, _⟩) (v := ?_) rfl (by kernel_rfl) (by kernel_rfl) (by kernel_rfl) (fun _ _ _ h => h) (Or.inl ⟨by rfl, ?_⟩) (by assumption) ?_
                rotate_left
                · intro w hSw
                  go_simp
                  all_goals with_reducible rfl
                simp only [Act.put, List.setIfInBounds_toArray, List.set_cons_zero, List.set_cons_succ]
                refine wpAnyH_take (i := 18) (oi := ⟨_, _, _, _, _, _⟩) (v := ?_) rfl (by kernel_rfl) (by kernel_rfl) (by kernel_rfl) (fun _ _ _ h => h) (Or.inl ⟨by rfl, ?_⟩) (by assumption) ?_
                rotate_left
                · intro w hSw
                  go_simp
                  all_goals with_reducible rfl
                simp only [Act.put, List.setIfInBounds_toArray, List.set_cons_zero, List.set_cons_succ]
                refine wpAnyH_take (i := 19) (oi := ⟨_, _, _, _, _, _⟩) (v := ?_) rfl (by kernel_rfl) (by kernel_rfl) (by kernel_rfl) (fun _ _ _ h => h) (Or.inl ⟨by rfl, ?_⟩) (by assumption) ?_
                rotate_left
                · intro w hSw
                  go_simp
                  all_goals with_reducible rfl
                simp only [Act.put, List.setIfInBounds_toArray, List.set_cons_zero, List.set_cons_succ]
                refine wpAnyH_done (by kernel_rfl) ?_ _
                refine NoPanic.normal ?_
                go_wp2_with fail
                go_meet
                case rel => exact ⟨rfl, Lib.hid (by first | assumption | exact hZ5)⟩
            · go_simp
              refine (SZ2.out _ b6.drew).mono ?_
              rintro e Z ⟨rfl, hZ, hZ5⟩
              go_wp2_with fail
              refine hK.out _ _ (HKP.out _ hZ5) (fun _ => ?_)
              clear hK K
              try simp only [Act.put, List.setIfInBounds_toArray, List.set_cons_zero, List.set_cons_succ]
              have hcv := CV.out _ _ (RowAt.new Z 5 Z32)
              have hz9 := Below.allocS hZ5 (.cells Z32 5)
              refine wpAnyH_ready (rs := [15]) (by kernel_rfl) (by simp) ?_
              refine AllReadyH.cons (o := ⟨_, _, _, _, _, _⟩) rfl (fun K hK => ?_) AllReadyH.nil
              go_simp
              refine hK.out _ _ (HKP.out _ hz9) (fun _ => ?_)
              clear hK K
              try simp only [Act.put, List.setIfInBounds_toArray, List.set_cons_zero, List.set_cons_succ]
              refine wpAnyH_ready (rs := [16]) (by kernel_rfl) (by simp) ?_
              refine AllReadyH.cons (o := ⟨_, _, _, _, _, _⟩) rfl (fun K hK => ?_) AllReadyH.nil
              go_simp
              refine hK.out _ _ (HKP.out _ hz9) (fun _ => ?_)
              clear hK K
              try simp only [Act.put, List.setIfInBounds_toArray, List.set_cons_zero, List.set_cons_succ]
              refine wpAnyH_take (i := 17) (oi := ⟨_, _, _, _, _, _⟩) (v := ?_) rfl (by kernel_rfl) (by kernel_rfl) (by kernel_rfl) (fun _ _ _ h => h) (Or.inl ⟨by rfl, ?_⟩) (by assumption) ?_
              rotate_left
              · intro w hSw
                go_simp
                all_goals with_reducible rfl
              simp only [Act.put, List.setIfInBounds_toArray, List.set_cons_zero, List.set_cons_succ]
              refine wpAnyH_take (i := 18) (oi := ⟨_, _, _, _, _, _⟩) (v := ?_) rfl (by kernel_rfl) (by kernel_rfl) (by kernel_rfl) (fun _ _ _ h => h) (Or.inl ⟨by rfl, ?_⟩) (by assumption) ?_
              rotate_left
              · intro w hSw
                go_simp
                all_goals with_reducible rfl
              simp only [Act.put, List.setIfInBounds_toArray, List.set_cons_zero, List.set_cons_succ]
              refine wpAnyH_take (i := 19) (oi := ⟨_, _, _, _, _, _⟩) (v := ?_) rfl (by kernel_rfl) (by kernel_rfl) (by kernel_rfl) (fun _ _ _ h => h) (Or.inl ⟨by rfl, ?_⟩) (by assumption) ?_
              rotate_left
              · intro w hSw
                go_simp
                all_goals with_reducible rfl
              simp only [Act.put, List.setIfInBounds_toArray, List.set_cons_zero, List.set_cons_succ]
              refine wpAnyH_done (by kernel_rfl) ?_ _
              refine NoPanic.normal ?_
              go_wp2_with fail
              go_meet
              case rel => exact ⟨rfl, Lib.hid (by first | assumption | exact hz9)⟩
          case rest =>
            obtain ⟨rfl, hz⟩ := hcut
            go_wp2_with fail
            refine (CO.out _ hz.out).mono ?_
            rintro e W7 ⟨rfl, hb7⟩
            have H7 := Lib.hid (hz.out.trans (hb7.mono hz.out.size))
            clear hb7
            cases cb with
            | true =>
              go_wp2_with fail
              go_ret
              exact ⟨rfl, H5.out.1.trans (H7.out.mono H5.out.1.size)⟩
            | false =>
              have hszd : sz = d0 := by
                rcases HCBB.out with h | h
                · cases h
                · exact h
              subst hszd
              go_wp2_with fail
              go_ret
              exact ⟨rfl, H5.out.1.trans (H7.out.mono H5.out.1.size)⟩
        · have hlt : nb < na := by omega
          have hne : ((na : Int) == (nb : Int)) = false := beq_eq_false_iff_ne.2 (by omega)
          have hne2 : (na == nb) = false := beq_eq_false_iff_ne.2 (by omega)
          have hne3 : ((na : Int) != (nb : Int)) = true := bne_iff_ne.2 (by omega)
          have hne4 : (na != nb) = true := bne_iff_ne.2 (by omega)
          have hlong : decide (na < nb) = false := by simp; omega
          have hmin : min (na : Int) (nb : Int) = (nb : Int) := by omega
          obtain ⟨z, hz, hcb⟩ : ∃ z, X[nb]? = some z ∧ (cb = true ∨ shaB z = hd0) := by
            have hkl : nb < X.length := by rw [HLL.out.1]; omega
            refine ⟨_, List.getElem?_eq_getElem hkl, ?_⟩
            rcases HCB.out with h | ⟨_, z, h1, h2⟩
            · exact .inl h
            · right
              have e : longF a b = X := by unfold longF; rw [HAB.out.1, HAB.out.2, if_neg (by omega)]; exact HXY.out.1
              rw [e, Nat.min_eq_right (by omega), List.getElem?_eq_getElem hkl] at h1
              rw [Option.some.inj h1]; exact h2
          obtain ⟨bz, oz, hAz, hltz, hcz⟩ := (H5.out.2.1).get hz
          subst hAz
          have HCZ : Hid (∀ W, Below W5.heap.size W5 W → W.cell? ⟨bz, oz + nb, none⟩ = some (.string ⟨z.toArray⟩)) := Lib.hid (fun W hb => (hb.cell (p := ⟨bz, oz + nb, none⟩) hltz).trans hcz)
          have hzl : z.length ≤ 10000 := HSM.out z (by
            left; exact List.mem_of_getElem? hz)
          have hki : nb < na := hlt
          obtain ⟨sz, hsz⟩ : ∃ u, shaB z = u := ⟨_, rfl⟩
          rw [hsz] at hcb
          obtain ⟨d0, hd⟩ : ∃ u, hd0 = u := ⟨_, rfl⟩
          rw [hd] at hcb
          have SZ : Hid (∀ W, Below W5.heap.size W5 W → Calls Tryd.prog 27 #[.string ⟨z.toArray⟩] W fun e w' => e = .returned (.string ⟨sz.toArray⟩) ∧ Below W.heap.size W w') := Lib.hid (fun W hb => by
            rw [← hsz]; exact sum_any z W (by omega) (HK.out W (H5.out.1.trans (hb.mono H5.out.1.size))))
          have CV : Hid (∀ (W : World) (b : Nat), RowAt W b 5 Z32 → (convert 45 9 (.slice (some ⟨b, 0, none⟩) 32 32)).run Tryd.prog W = .ok (.string ⟨d0.toArray⟩) W) := Lib.hid (fun W b h => by rw [← hd]; exact cv32 W b h)
          have HCBB := Lib.hid hcb
          clear hcz hltz hz hsz hd hcb
          have b6 := H6.out
          go_upto_region 14 with fail
          go_cut [12] from 61 to 79 (fun v12 wx => v12 = .bool (sz == d0) ∧ Hid (Below W5.heap.size W5 wx))
          case first =>
            have hmk := mk32
            have ca0 := HCZ.out W6 b6
            have hcv1 := CV.out _ _ (RowAt.new W6 5 Z32)
            have hcv1d := CV.out _ _ (RowAt.new W6 5 Z32).drew
            have HKP : Hid (∀ W, Below W5.heap.size W5 W → Below W5.heap.size W5 W ∧ W.cell? ⟨bz, oz + nb, none⟩ = some (.string ⟨z.toArray⟩)) := Lib.hid (fun W hb => ⟨hb, HCZ.out W hb⟩)
            have SZ2 : Hid (∀ W, Below W5.heap.size W5 W → Calls Tryd.prog 27 #[.string ⟨z.toArray⟩] W fun e w' => e = .returned (.string ⟨sz.toArray⟩) ∧ Below W.heap.size W w' ∧ Below W5.heap.size W5 w') := Lib.hid (fun W hb => (SZ.out W hb).mono (fun e w' hh => ⟨hh.1, hh.2, hb.trans (hh.2.mono hb.size)⟩))
            have b6a := Below.allocS b6.drew (.cells Z32 5)
            refine wp_region_noPanic ?_
            refine wp_region_held_drew (S := fun W => Below W5.heap.size W5 W ∧ W.cell? ⟨bz, oz + nb, none⟩ = some (.string ⟨z.toArray⟩)) (by kernel_rfl) (HKP.out _ b6.drew) (fun hHeld => ?_)
            refine wpAnyH_take (i := 0) (oi := ⟨_, _, _, _, _, _⟩) (v := ?_) rfl (by kernel_rfl) (by kernel_rfl) (by kernel_rfl) (fun _ _ _ h => h) (Or.inl ⟨by rfl, ?_⟩) (by assumption) ?_
            rotate_left
            · intro w hSw
              go_simp
              all_goals with_reducible rfl
            simp only [Act.put, List.setIfInBounds_toArray, List.set_cons_zero, List.set_cons_succ]
            refine wpAnyH_take (i := 1) (oi := ⟨_, _, _, _, _, _⟩) (v := ?_) rfl (by kernel_rfl) (by kernel_rfl) (by kernel_rfl) (fun _ _ _ h => h) (Or.inl ⟨by rfl, ?_⟩) (by assumption) ?_
            rotate_left
            · intro w hSw
              go_simp
              all_goals with_reducible rfl
            simp only [Act.put, List.setIfInBounds_toArray, List.set_cons_zero, List.set_cons_succ]
            refine wpAnyH_take (i := 2) (oi := ⟨_, _, _, _, _, _⟩) (v := ?_) rfl (by kernel_rfl) (by kernel_rfl) (by kernel_rfl) (fun _ _ _ h => h) (Or.inl ⟨by rfl, ?_⟩) (by assumption) ?_
            rotate_left
            · intro w hSw
              go_simp
              all_goals with_reducible rfl
            simp only [Act.put, List.setIfInBounds_toArray, List.set_cons_zero, List.set_cons_succ]
            refine wpAnyH_take (i := 3) (oi := ⟨_, _, _, _, _, _⟩) (v := ?_) rfl (by kernel_rfl) (by kernel_rfl) (by kernel_rfl) (fun _ _ _ h => h) (Or.inl ⟨by rfl, ?_⟩) (by assumption) ?_
            rotate_left
            · intro w hSw
              go_simp
              all_goals with_reducible rfl
            simp only [Act.put, List.setIfInBounds_toArray, List.set_cons_zero, List.set_cons_succ]
            refine wpAnyH_take (i := 4) (oi := ⟨_, _, _, _, _, _⟩) (v := ?_) rfl (by kernel_rfl) (by kernel_rfl) (by kernel_rfl) (fun _ _ _ h => h) (Or.inl ⟨by rfl, ?_⟩) (by assumption) ?_
            rotate_left
            · intro w hSw
              go_simp
              all_goals with_reducible rfl
            simp only [Act.put, List.setIfInBounds_toArray, List.set_cons_zero, List.set_cons_succ]
            refine wpAnyH_take (i := 5) (oi := ⟨_, _, _, _, _, _⟩) (v := ?_) rfl (by kernel_rfl) (by kernel_rfl) (by kernel_rfl) (fun _ _ _ h => h) (Or.inl ⟨by rfl, ?_⟩) (by assumption) ?_
            rotate_left
            · intro w hSw
              go_simp
              all_goals with_reducible rfl
            simp only [Act.put, List.setIfInBounds_toArray, List.set_cons_zero, List.set_cons_succ]
            refine wpAnyH_take (i := 6) (oi := ⟨_, _, _, _, _, _⟩) (v := ?_) rfl (by kernel_rfl) (by kernel_rfl) (by kernel_rfl) (fun _ _ _ h => h) (Or.inl ⟨by rfl, ?_⟩) (by assumption) ?_
            rotate_left
            · intro w hSw
              go_simp
              all_goals with_reducible rfl
            simp only [Act.put, List.setIfInBounds_toArray, List.set_cons_zero, List.set_cons_succ]
            refine wpAnyH_take (i := 7) (oi := ⟨_, _, _, _, _, _⟩) (v := ?_) rfl (by kernel_rfl) (by kernel_rfl) (by kernel_rfl) (fun _ _ _ h => h) (Or.inl ⟨by rfl, ?_⟩) (by assumption) ?_
            rotate_left
            · intro w hSw
              go_simp
              all_goals with_reducible rfl
            simp only [Act.put, List.setIfInBounds_toArray, List.set_cons_zero, List.set_cons_succ]
            refine wpAnyH_take (i := 8) (oi := ⟨_, _, _, _, _, _⟩) (v := ?_) rfl (by kernel_rfl) (by kernel_rfl) (by kernel_rfl) (fun _ _ _ h => h) (Or.inl ⟨by rfl, ?_⟩) (by assumption) ?_
            rotate_left
            · intro w hSw
              go_simp
              all_goals with_reducible rfl
            simp only [Act.put, List.setIfInBounds_toArray, List.set_cons_zero, List.set_cons_succ]
            refine wpAnyH_take (i := 9) (oi := ⟨_, _, _, _, _, _⟩) (v := ?_) rfl (by kernel_rfl) (by kernel_rfl) (by kernel_rfl) (fun _ _ _ h => h) (Or.inl ⟨by rfl, ?_⟩) (by assumption) ?_
            rotate_left
            · intro w hSw
              go_simp
              all_goals with_reducible rfl
            simp only [Act.put, List.setIfInBounds_toArray, List.set_cons_zero, List.set_cons_succ]
            refine wpAnyH_take (i := 10) (oi := ⟨_, _, _, _, _, _⟩) (v := ?_) rfl (by kernel_rfl) (by kernel_rfl) (by kernel_rfl) (fun _ _ _ h => h) (Or.inl ⟨by rfl, ?_⟩) (by assumption) ?_
            rotate_left
            · intro w hSw
              go_simp
              all_goals with_reducible rfl
            simp only [Act.put, List.setIfInBounds_toArray, List.set_cons_zero, List.set_cons_succ]
            refine wpAnyH_take (i := 11) (oi := ⟨_, _, _, _, _, _⟩) (v := ?_) rfl (by kernel_rfl) (by kernel_rfl) (by kernel_rfl) (fun _ _ _ h => h) (Or.inl ⟨by rfl, ?_⟩) (by assumption) ?_
            rotate_left
            · intro w hSw
              go_simp
              all_goals with_reducible rfl
            simp only [Act.put, List.setIfInBounds_toArray, List.set_cons_zero, List.set_cons_succ]
            refine wpAnyH_take (i := 12) (oi := ⟨_, _, _, _, _, _⟩) (v := ?_) rfl (by kernel_rfl) (by kernel_rfl) (by kernel_rfl) (fun _ _ _ h => h) (Or.inl ⟨by rfl, ?_⟩) (by assumption) ?_
            rotate_left
            · intro w hSw
              go_simp
              all_goals with_reducible rfl
            simp only [Act.put, List.setIfInBounds_toArray, List.set_cons_zero, List.set_cons_succ]
            refine wpAnyH_take (i := 13) (oi := ⟨_, _, _, _, _, _⟩) (v := ?_) rfl (by kernel_rfl) (by kernel_rfl) (by kernel_rfl) (fun _ _ _ h => h) (Or.inl ⟨by rfl, ?_⟩) (by assumption) ?_
            rotate_left
            · intro w hSw
              have hcz0 := hSw.2
              go_simp
              all_goals with_reducible rfl
            simp only [Act.put, List.setIfInBounds_toArray, List.set_cons_zero, List.set_cons_succ]
            refine wpAnyH_ready (rs := [14, 15]) (by kernel_rfl) (by simp) ?_
            refine AllReadyH.cons (o := ⟨_, _, _, _, _, _⟩) rfl (fun K hK => ?_) ?_
            rotate_left
            · refine AllReadyH.cons (o := ⟨_, _, _, _, _, _⟩) rfl (fun K hK => ?_) AllReadyH.nil
              go_simp
              refine hK.out _ _ (HKP.out _ b6a) (fun _ => ?_)
              clear hK K
              try simp only [Act.put, List.setIfInBounds_toArray, List.set_cons_zero, List.set_cons_succ]
              refine wpAnyH_ready (rs := [14, 16]) (by kernel_rfl) (by simp) ?_
              refine AllReadyH.cons (o := ⟨_, _, _, _, _, _⟩) rfl (fun K hK => ?_) ?_
              rotate_left
              · refine AllReadyH.cons (o := ⟨_, _, _, _, _, _⟩) rfl (fun K hK => ?_) AllReadyH.nil
                have hcv := CV.out _ _ (RowAt.new W6.drew 5 Z32)
                go_simp
                refine hK.out _ _ (HKP.out _ b6a) (fun _ => ?_)
                clear hK K
                try simp only [Act.put, List.setIfInBounds_toArray, List.set_cons_zero, List.set_cons_succ]
                refine wpAnyH_ready (rs := [14]) (by kernel_rfl) (by simp) ?_
                refine AllReadyH.cons (o := ⟨_, _, _, _, _, _⟩) rfl (fun K hK => ?_) AllReadyH.nil
                go_simp
                refine (SZ2.out _ b6a).mono ?_
                rintro e Z ⟨rfl, hZ, hZ5⟩
                go_wp2_with fail
                refine hK.out _ _ (HKP.out _ hZ5) (fun _ => ?_)
                clear hK K
                try simp only [Act.put, List.setIfInBounds_toArray, List.set_cons_zero, List.set_cons_succ]
                refine wpAnyH_take (i := 17) (oi := ⟨_, _, _, _, _, _⟩) (v := ?_) rfl (by kernel_rfl) (by kernel_rfl) (by kernel_rfl) (fun _ _ _ h => h) (Or.inl ⟨by rfl, ?_⟩) (by assumption) ?_
                rotate_left
                · intro w hSw
                  go_simp
                  all_goals with_reducible rfl
                simp only [Act.put, List.setIfInBounds_toArray, List.set_cons_zero, List.set_cons_succ]
                refine wpAnyH_take (i := 18) (oi := ⟨_, _, _, _, _, _⟩) (v := ?_) rfl (by kernel_rfl) (by kernel_rfl) (by kernel_rfl) (fun _ _ _ h => h) (Or.inl ⟨by rfl, ?_⟩) (by assumption) ?_
                rotate_left
                · intro w hSw
                  go_simp
                  all_goals with_reducible rfl
                simp only [Act.put, List.setIfInBounds_toArray, List.set_cons_zero, List.set_cons_succ]
                refine wpAnyH_take (i := 19) (oi := ⟨_, _, _, _, _, _⟩) (v := ?_) rfl (by kernel_rfl) (by kernel_rfl) (by kernel_rfl) (fun _ _ _ h => h) (Or.inl ⟨by rfl, ?_⟩) (by assumption) ?_
                rotate_left
                · intro w hSw
                  go_simp
                  all_goals with_reducible rfl
                simp only [Act.put, List.setIfInBounds_toArray, List.set_cons_zero, List.set_cons_succ]
                refine wpAnyH_done (by kernel_rfl) ?_ _
                refine NoPanic.normal ?_
                go_wp2_with fail
                go_meet
                case rel => exact ⟨rfl, Lib.hid (by first | assumption | exact hZ5)⟩
              · go_simp
                refine (SZ2.out _ b6a).mono ?_
                rintro e Z ⟨rfl, hZ, hZ5⟩
                go_wp2_with fail
                refine hK.out _ _ (HKP.out _ hZ5) (fun _ => ?_)
                clear hK K
                try simp only [Act.put, List.setIfInBounds_toArray, List.set_cons_zero, List.set_cons_succ]
                have hcv := CV.out Z W6.heap.size ((RowAt.new W6.drew 5 Z32).below hZ (by simp))
                refine wpAnyH_ready (rs := [16]) (by kernel_rfl) (by simp) ?_
                refine AllReadyH.cons (o := ⟨_, _, _, _, _, _⟩) rfl (fun K hK => ?_) AllReadyH.nil
                go_simp
                refine hK.out _ _ (HKP.out _ hZ5) (fun _ => ?_)
                clear hK K
                try simp only [Act.put, List.setIfInBounds_toArray, List.set_cons_zero, List.set_cons_succ]
                refine wpAnyH_take (i := 17) (oi := ⟨_, _, _, _, _, _⟩) (v := ?_) rfl (by kernel_rfl) (by kernel_rfl) (by kernel_rfl) (fun _ _ _ h => h) (Or.inl ⟨by rfl, ?_⟩) (by assumption) ?_
                rotate_left
                · intro w hSw
                  go_simp
                  all_goals with_reducible rfl
                simp only [Act.put, List.setIfInBounds_toArray, List.set_cons_zero, List.set_cons_succ]
                refine wpAnyH_take (i := 18) (oi := ⟨_, _, _, _, _, _⟩) (v := ?_) rfl (by kernel_rfl) (by kernel_rfl) (by kernel_rfl) (fun _ _ _ h => h) (Or.inl ⟨by rfl, ?_⟩) (by assumption) ?_
                rotate_left
                · intro w hSw
                  go_simp
                  all_goals with_reducible rfl
                simp only [Act.put, List.setIfInBounds_toArray, List.set_cons_zero, List.set_cons_succ]
                refine wpAnyH_take (i := 19) (oi := ⟨_, _, _, _, _, _⟩) (v := ?_) rfl (by kernel_rfl) (by kernel_rfl) (by kernel_rfl) (fun _ _ _ h => h) (Or.inl ⟨by rfl, ?_⟩) (by assumption) ?_
                rotate_left
                · intro w hSw
                  go_simp
                  all_goals with_reducible rfl
                simp only [Act.put, List.setIfInBounds_toArray, List.set_cons_zero, List.set_cons_succ]
                refine wpAnyH_done (by kernel_rfl) ?_ _
                refine NoPanic.normal ?_
                go_wp2_with fail
                go_meet
                case rel => exact ⟨rfl, Lib.hid (by first | assumption | exact hZ5)⟩
            · go_simp
              refine (SZ2.out _ b6.drew).mono ?_
              rintro e Z ⟨rfl, hZ, hZ5⟩
              go_wp2_with fail
              refine hK.out _ _ (HKP.out _ hZ5) (fun _ => ?_)
              clear hK K
              try simp only [Act.put, List.setIfInBounds_toArray, List.set_cons_zero, List.set_cons_succ]
              have hcv := CV.out _ _ (RowAt.new Z 5 Z32)
              have hz9 := Below.allocS hZ5 (.cells Z32 5)
              refine wpAnyH_ready (rs := [15]) (by kernel_rfl) (by simp) ?_
              refine AllReadyH.cons (o := ⟨_, _, _, _, _, _⟩) rfl (fun K hK => ?_) AllReadyH.nil
              go_simp
              refine hK.out _ _ (HKP.out _ hz9) (fun _ => ?_)
              clear hK K
              try simp only [Act.put, List.setIfInBounds_toArray, List.set_cons_zero, List.set_cons_succ]
              refine wpAnyH_ready (rs := [16]) (by kernel_rfl) (by simp) ?_
              refine AllReadyH.cons (o := ⟨_, _, _, _, _, _⟩) rfl (fun K hK => ?_) AllReadyH.nil
              go_simp
              refine hK.out _ _ (HKP.out _ hz9) (fun _ => ?_)
              clear hK K
              try simp only [Act.put, List.setIfInBounds_toArray, List.set_cons_zero, List.set_cons_succ]
              refine wpAnyH_take (i := 17) (oi := ⟨_, _, _, _, _, _⟩) (v := ?_) rfl (by kernel_rfl) (by kernel_rfl) (by kernel_rfl) (fun _ _ _ h => h) (Or.inl ⟨by rfl, ?_⟩) (by assumption) ?_
              rotate_left
              · intro w hSw
                go_simp
                all_goals with_reducible rfl
              simp only [Act.put, List.setIfInBounds_toArray, List.set_cons_zero, List.set_cons_succ]
              refine wpAnyH_take (i := 18) (oi := ⟨_, _, _, _, _, _⟩) (v := ?_) rfl (by kernel_rfl) (by kernel_rfl) (by kernel_rfl) (fun _ _ _ h => h) (Or.inl ⟨by rfl, ?_⟩) (by assumption) ?_
              rotate_left
              · intro w hSw
                go_simp
                all_goals with_reducible rfl
              simp only [Act.put, List.setIfInBounds_toArray, List.set_cons_zero, List.set_cons_succ]
              refine wpAnyH_take (i := 19) (oi := ⟨_, _, _, _, _, _⟩) (v := ?_) rfl (by kernel_rfl) (by kernel_rfl) (by kernel_rfl) (fun _ _ _ h => h) (Or.inl ⟨by rfl, ?_⟩) (by assumption) ?_
              rotate_left
              · intro w hSw
                go_simp
                all_goals with_reducible rfl
              simp only [Act.put, List.setIfInBounds_toArray, List.set_cons_zero, List.set_cons_succ]
              refine wpAnyH_done (by kernel_rfl) ?_ _
              refine NoPanic.normal ?_
              go_wp2_with fail
              go_meet
              case rel => exact ⟨rfl, Lib.hid (by first | assumption | exact hz9)⟩
          case rest =>
            obtain ⟨rfl, hz⟩ := hcut
            go_wp2_with fail
            refine (CO.out _ hz.out).mono ?_
            rintro e W7 ⟨rfl, hb7⟩
            have H7 := Lib.hid (hz.out.trans (hb7.mono hz.out.size))
            clear hb7
            cases cb with
            | true =>
              go_wp2_with fail
              go_ret
              exact ⟨rfl, H5.out.1.trans (H7.out.mono H5.out.1.size)⟩
            | false =>
              have hszd : sz = d0 := by
                rcases HCBB.out with h | h
                · cases h
                · exact h
              subst hszd
              go_wp2_with fail
              go_ret
              exact ⟨rfl, H5.out.1.trans (H7.out.mono H5.out.1.size)⟩
    · have hhkb : (h == k) = false := beq_eq_false_iff_ne.2 hhk
      go_wp2_with fail
      go_ret
      exact ⟨rfl, H5.out.1.trans (H6.out.mono H5.out.1.size)⟩
end Go.Proofs.YtgmdjbhclihflaaDoor
