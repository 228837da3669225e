/- BaseAdd: the walk. -/
import Derived.Test.YtgjajhopjcdflaaFlL
import Derived.Test.YtgjajhopjcdflaaFpD
import Derived.Deep.CutRange
namespace Go.Proofs.Ytgjajhopjcdflaa
open Go Go.RowKit Go.Lib Go.Shelf Go.Maps

theorem factsL_made (X : Nat → Nat → Int) : ∀ i, ∀ f ∈ factsL X [] i, FactOk f ∧ Canon f := factsL_good X [] (by simp)
abbrev z18a : Array Value := #[.int .i64 0, .int .i64 0, .int .i64 0, .int .i64 0, .int .i64 0, .int .i64 0, .int .i64 0, .int .i64 0, .int .i64 0, .int .i64 0, .int .i64 0, .int .i64 0, .int .i64 0, .int .i64 0, .int .i64 0, .int .i64 0, .int .i64 0, .string ⟨#[]⟩]
set_option linter.unusedSimpArgs false in
set_option maxRecDepth 100000 in
set_option maxHeartbeats 30000000 in
theorem add_yes (X0 : Nat → Nat → Int) (m : Nat) (vx : Value) (x : Nat → Int) (fr : FactV) (arb : Bool) (w : World) (hm : m ≤ 140737488351232) (hx : XsAt w vx m X0) (hx6 : ∀ j, -9223372036854775808 ≤ x j ∧ x j ≤ 9223372036854775807) (hr : FactOk fr ∧ Canon fr) :
    Calls Try.prog 5 #[vx, six x, .agg fr.cells, .bool arb] w fun e w' => e = .returned (.bool true) ∧ Below w.heap.size w w' := by
  obtain ⟨L, hL⟩ : ∃ z, factsL X0 [] (min m 50) = z := ⟨_, rfl⟩
  have HLL : Hid (L.length ≤ 100) := Lib.hid (by have := factsL_len X0 [] (min m 50); rw [hL] at this; omega)
  have HLG : Hid (∀ f ∈ L, FactOk f ∧ Canon f) := Lib.hid (by rw [← hL]; exact factsL_made X0 _)
  have HFX : Hid (∀ W, Below w.heap.size w W → Calls Try.prog 8 #[vx, .slice none 0 0] W fun e w' => ∃ v, e = .returned v ∧ OwnF w' W.heap.size v L ∧ Below W.heap.size W w') := Lib.hid (fun W hb => by
    have h := facts_any X0 [] m vx (.slice none 0 0) W hm (hx.more hb) (.inl ⟨rfl, none, 0, rfl⟩)
    rw [hL] at h
    exact h)
  have HMK := Lib.hid (fun W => make_any x W hx6)
  unfold six at HMK
  obtain ⟨f, hf⟩ : ∃ z, (if arb = true then fr else makeX x) = z := ⟨_, rfl⟩
  have HFG : Hid (FactOk f ∧ Canon f) := Lib.hid (by
    rw [← hf]
    split
    · exact hr
    · exact makeX_good x)
  obtain ⟨cf, hcf⟩ : ∃ z, f.cells = z := ⟨_, rfl⟩
  have HCF := Lib.hid hcf
  have HCI : Hid ((Try.prog.info? 29).map (·.size) = some cf.size) := Lib.hid (by rw [← hcf]; exact fact_size)
  have HCA : Hid (cf.all (·.oneCell') = true ∧ z18a.size = cf.size) := Lib.hid ⟨by rw [← hcf]; exact f.cells_one, by rw [← hcf]; rfl⟩
  obtain ⟨cg, hcg⟩ : ∃ z, (makeX x).cells = z := ⟨_, rfl⟩
  have HGI : Hid ((Try.prog.info? 29).map (·.size) = some cg.size ∧ cg.all (·.oneCell') = true ∧ z18a.size = cg.size) := Lib.hid ⟨by rw [← hcg]; exact fact_size, by rw [← hcg]; exact (makeX x).cells_one, by rw [← hcg]; rfl⟩
  obtain ⟨cr, hcr⟩ : ∃ z, fr.cells = z := ⟨_, rfl⟩
  have HRI : Hid ((Try.prog.info? 29).map (·.size) = some cr.size ∧ cr.all (·.oneCell') = true ∧ cg.size = cr.size) := Lib.hid ⟨by rw [← hcr]; exact fact_size, by rw [← hcr]; exact fr.cells_one, by rw [← hcr, ← hcg, FactV.cells_size, FactV.cells_size]⟩
  have HCC : Hid (cf = if arb = true then cr else cg) := Lib.hid (by rw [← hcf, ← hf, ← hcr, ← hcg]; split <;> rfl)
  rw [hcr]
  simp only [hcg] at HMK
  obtain ⟨y0, e0⟩ : ∃ z, x 0 = z := ⟨_, rfl⟩
  obtain ⟨y1, e1⟩ : ∃ z, x 1 = z := ⟨_, rfl⟩
  obtain ⟨y2, e2⟩ : ∃ z, x 2 = z := ⟨_, rfl⟩
  obtain ⟨y3, e3⟩ : ∃ z, x 3 = z := ⟨_, rfl⟩
  obtain ⟨y4, e4⟩ : ∃ z, x 4 = z := ⟨_, rfl⟩
  obtain ⟨y5, e5⟩ : ∃ z, x 5 = z := ⟨_, rfl⟩
  unfold six
  rw [e0, e1, e2, e3, e4, e5] at HMK ⊢
  have hr0 := (RowAt.new w 37 #[.int .i64 y0, .int .i64 y1, .int .i64 y2, .int .i64 y3, .int .i64 y4, .int .i64 y5]).alloc (.cells cr 29)
  have HR0 := Lib.hid hr0
  have hq0 := RowAt.new (w.alloc (.cells #[.int .i64 y0, .int .i64 y1, .int .i64 y2, .int .i64 y3, .int .i64 y4, .int .i64 y5] 37)) 29 cr
  have hsz : (w.alloc (.cells #[.int .i64 y0, .int .i64 y1, .int .i64 y2, .int .i64 y3, .int .i64 y4, .int .i64 y5] 37)).heap.size = w.heap.size + 1 := by simp
  rw [hsz] at hq0
  have HQ0 := Lib.hid hq0
  have HB0 : Hid (Below w.heap.size w ((w.alloc (.cells #[.int .i64 y0, .int .i64 y1, .int .i64 y2, .int .i64 y3, .int .i64 y4, .int .i64 y5] 37)).alloc (.cells cr 29))) := Lib.hid (((Below.refl _ _).alloc (Nat.le_refl _) _).alloc (by simp) _)
  clear hm hx hx6 hL hf hcf hcg hcr e0 e1 e2 e3 e4 e5 hr0 hq0 hsz hr
  go_enter Try.func5, Try.ntmps5
  go_wp2_with fail
  refine (sane_yes _).mono ?_
  rintro e W1 ⟨rfl, hb1⟩
  have H1 : Hid (Below w.heap.size w W1 ∧ RowAt W1 w.heap.size 37 #[.int .i64 y0, .int .i64 y1, .int .i64 y2, .int .i64 y3, .int .i64 y4, .int .i64 y5] ∧ RowAt W1 (w.heap.size + 1) 29 cr) := Lib.hid ⟨HB0.out.trans (hb1.mono HB0.out.size), HR0.out.below hb1 HR0.out.lt, HQ0.out.below hb1 HQ0.out.lt⟩
  clear hb1
  go_wp2_with fail
  refine (HFX.out W1 H1.out.1).mono ?_
  rintro e W2 ⟨v10, rfl, ho8, hb2⟩
  have hr2 := H1.out.2.1.below hb2 H1.out.2.1.lt
  have H2 : Hid (FactsAt W2 v10 L ∧ Below w.heap.size w W2 ∧ RowAt W2 (w.heap.size + 1) 29 cr) := Lib.hid ⟨ho8.facts, H1.out.1.trans (hb2.mono H1.out.1.size), H1.out.2.2.below hb2 H1.out.2.2.lt⟩
  obtain ⟨A10, m10, c10, rfl⟩ := own_slice ho8
  have c0 : W2.cell? ⟨w.heap.size, 0, none⟩ = some (.int .i64 y0) := by rw [hr2.cell]; rfl
  have c1 : W2.cell? ⟨w.heap.size, 1, none⟩ = some (.int .i64 y1) := by rw [hr2.cell]; rfl
  have c2 : W2.cell? ⟨w.heap.size, 2, none⟩ = some (.int .i64 y2) := by rw [hr2.cell]; rfl
  have c3 : W2.cell? ⟨w.heap.size, 3, none⟩ = some (.int .i64 y3) := by rw [hr2.cell]; rfl
  have c4 : W2.cell? ⟨w.heap.size, 4, none⟩ = some (.int .i64 y4) := by rw [hr2.cell]; rfl
  have c5 : W2.cell? ⟨w.heap.size, 5, none⟩ = some (.int .i64 y5) := by rw [hr2.cell]; rfl
  clear ho8 hb2 hr2
  go_wp2_with fail
  refine (HMK.out _).mono ?_
  rintro e W3 ⟨rfl, hb3⟩
  have H3 : Hid (FactsAt W3 (.slice A10 m10 c10) L ∧ Below w.heap.size w W3 ∧ RowAt W3 (w.heap.size + 1) 29 cr) := Lib.hid ⟨H2.out.1.more hb3, H2.out.2.1.trans (hb3.mono H2.out.2.1.size), H2.out.2.2.below hb3 H2.out.2.2.lt⟩
  clear hb3 c0 c1 c2 c3 c4 c5
  have HLR : Hid (∀ j v, cr[j]? = some v → (W3.alloc (.cells cg 29)).cell? ⟨w.heap.size + 1, 0 + j, none⟩ = some v) := Lib.hid (fun j v hv => by rw [Nat.zero_add, (H3.out.2.2.alloc _).cell]; exact hv)
  go_upto_if 27 with (first | ((with_reducible refine store_cs (o := ⟨none, _, _, _, _, _⟩) (.tmp 11) (.tmp 26) W3.heap.size rfl _ cg HGI.out.1 HGI.out.2.1 HGI.out.2.2 ?_ ?_ ?_ ?_ ?_); rfl; rfl; rfl; rfl))
  go_cut [] from 27 to 29 (fun wx => wx = W3.alloc (.cells cf 29))
  case first =>
    cases arb
    · have HC0 : Hid (cg = cf) := Lib.hid (by have h := HCC.out; simpa using h.symm)
      go_wp2_with fail
      go_meet
      case rel => rw [HC0.out]
    · have HC0 : Hid (cr = cf) := Lib.hid (by have h := HCC.out; simpa using h.symm)
      go_wp2_with (first | ((with_reducible refine load_cs (o := ⟨some 28, _, _, _, _, _⟩) (.tmp 6) (w.heap.size + 1) cr HLR.out HRI.out.1 ?_ ?_ ?_ ?_); rfl; rfl; rfl) | ((with_reducible refine store_cs (o := ⟨none, _, _, _, _, _⟩) (.tmp 11) (.tmp 28) W3.heap.size rfl _ cr HRI.out.1 HRI.out.2.1 HRI.out.2.2 ?_ ?_ ?_ ?_ ?_); rfl; rfl; rfl; rfl))
      go_meet
      case rel => rw [HC0.out]
  case rest =>
    subst hcut
    obtain ⟨N, hN⟩ : ∃ z, W3.heap.size = z := ⟨_, rfl⟩
    obtain ⟨W4, hW4⟩ : ∃ z, W3.alloc (.cells cf 29) = z := ⟨_, rfl⟩
    have hr4 := RowAt.new W3 29 cf
    have hb4 := (Below.refl W3.heap.size W3).alloc (Nat.le_refl _) (.cells cf 29)
    rw [hW4] at hr4 hb4 ⊢
    rw [hN] at hr4 ⊢
    have H4 : Hid (FactsAt W4 (.slice A10 m10 c10) L ∧ Below w.heap.size w W4 ∧ RowAt W4 N 29 cf) := Lib.hid ⟨H3.out.1.more hb4, H3.out.2.1.trans (hb4.mono H3.out.2.1.size), hr4⟩
    clear hW4 hN hr4 hb4 HLR
    go_wp2_with fail
    refine (of_any L _ W4 (by have := HLL.out; omega) (fun f hf => (HLG.out f hf).1) H4.out.1).mono ?_
    rintro e W5 ⟨bs1, fs, rfl, hl1, hb5, hp1, hs1⟩
    have H5 := Lib.hid (And.intro hl1 (And.intro hp1 (And.intro hs1 hb5)))
    clear hl1 hb5 hp1 hs1
    go_wp2_with fail
    refine (facts_of H5.out.1 H5.out.2.1 H5.out.2.2.1 (by have := HLL.out; omega)).mono ?_
    rintro e X ⟨v12, rfl, ho12, hb6⟩
    have hwX : Below W4.heap.size W4 X := H5.out.2.2.2.trans (hb6.mono H5.out.2.2.2.size)
    have HXF : Hid (RowAt X N 29 cf) := Lib.hid (H4.out.2.2.below hwX H4.out.2.2.lt)
    have HXB : Hid (Below w.heap.size w X) := Lib.hid (H4.out.2.1.trans (hwX.mono H4.out.2.1.size))
    have HFL : Hid (FactsAt X (.slice A10 m10 c10) L) := Lib.hid (H4.out.1.more hwX)
    have HF12 : Hid (FactsAt X v12 fs) := Lib.hid ho12.facts
    obtain ⟨A12, c12, rfl⟩ := ho12.facts.sl
    have HLEN : Hid (([] : List FactV).length + L.length ≤ 1000000 ∧ L.length ≤ 1000000 ∧ (L ++ [f]).length ≤ 1000000) := Lib.hid (by have := HLL.out; simp; omega)
    have HLEN3 : Hid ((L ++ [f]).length ≤ 10000) := Lib.hid (by have := HLL.out; simp; omega)
    have HOKF : Hid (∀ f' ∈ L ++ [f], FactOk f') := Lib.hid (fun f' hf => (List.mem_append.1 hf).elim (fun h => (HLG.out f' h).1) (fun h => by rw [List.mem_singleton.1 h]; exact HFG.out.1))
    clear ho12 hb6 hwX
    go_upto_region 7 with fail
    go_cut [13] from 32 to 40 (fun v13 wx => ∃ gs, Hid (FactsAt wx v13 gs ∧ gs.Perm (bestL (L ++ [f])) ∧ gs.Pairwise (fun a b => kLt (kT a) (kT b)) ∧ Below X.heap.size X wx))
    case first =>
      refine wp_region_held_drew (S := fun W => Below X.heap.size X W) (by kernel_rfl) (Below.refl _ _).drew (fun hHeld => ?_)
      refine wpAnyH_take (i := 1) (oi := ⟨_, _, _, _, _, _⟩) (v := ?_) rfl (by kernel_rfl) (by kernel_rfl) (by kernel_rfl) (fun _ _ _ h => h) (Or.inl ⟨by rfl, ?_⟩) (by assumption) ?_
      rotate_left
      · intro w hSw
        go_simp
        all_goals with_reducible rfl
      simp only [Act.put, List.setIfInBounds_toArray, List.set_cons_zero, List.set_cons_succ]
      refine wpAnyH_take (i := 3) (oi := ⟨_, _, _, _, _, _⟩) rfl (by kernel_rfl) (by kernel_rfl) (by kernel_rfl) (fun _ _ _ h => h) (yields_at 29 (.tmp 11) N (0) cf _ (fun W hW j2 x hx => by rw [Nat.zero_add, (HXF.out.below hW HXF.out.lt).cell]; exact hx) Try.underlying29 (by rfl) rfl rfl rfl HCI.out) (by assumption) ?_
      simp only [Act.put, List.setIfInBounds_toArray, List.set_cons_zero, List.set_cons_succ]
      have HB0 : Hid (Below X.heap.size X X.drew) := Lib.hid (Below.refl _ _).drew
      refine wpAnyH_ready (rs := [0, 4]) (by kernel_rfl) (by simp) ?_
      refine AllReadyH.cons (o := ⟨_, _, _, _, _, _⟩) rfl (fun K hK => ?_) (AllReadyH.cons (o := ⟨_, _, _, _, _, _⟩) rfl (fun K hK => ?_) AllReadyH.nil)
      · obtain ⟨g1, hg1⟩ : ∃ z, X.drew.heap.size = z := ⟨_, rfl⟩
        have Hg1 := Lib.hid hg1
        refine wp_build_nofacts g1 hg1 rfl ?_
        clear hg1
        have D2 := Lib.hid ((Below.refl X.drew.heap.size X.drew).alloc (Nat.le_refl _) (.cells #[] 29))
        have HB3 := Lib.hid (HB0.out.alloc HB0.out.size (.cells #[] 29))
        have F0_4 : Hid (OwnF (X.drew.alloc (.cells #[] 29)) X.heap.size (.slice (some ⟨g1, 0, none⟩) 0 0) []) := Lib.hid (by rw [← Hg1.out]; exact OwnF.lower (own_zeroF X.drew) HB0.out.size)
        refine hK.out _ _ HB3.out (fun _ => ?_)
        clear hK K
        try simp only [Act.put, List.setIfInBounds_toArray, List.set_cons_zero, List.set_cons_succ]
        refine wpAnyH_ready (rs := [2, 4]) (by kernel_rfl) (by simp) ?_
        refine AllReadyH.cons (o := ⟨_, _, _, _, _, _⟩) rfl (fun K hK => ?_) (AllReadyH.cons (o := ⟨_, _, _, _, _, _⟩) rfl (fun K hK => ?_) AllReadyH.nil)
        · have FL8 := Lib.hid (HFL.out.more HB3.out)
          refine wp_append_facts2 (.tmp 32) (.tmp 33) X.heap.size [] L (.slice (some ⟨g1, 0, none⟩) 0 0) (.slice A10 m10 c10) F0_4.out FL8.out HLEN.out.1 HB3.out.size rfl rfl rfl (fun v5 W6 h1 h2 h3 => ?_)
          have HA7 := Lib.hid (And.intro h1 (And.intro h2 h3))
          clear h1 h2 h3
          have HB9 : Hid (Below X.heap.size X W6) := Lib.hid (HB3.out.grown HA7.out.2.1 HB3.out.size (fun j e => (F0_4.out.lt j e).1))
          have F2_10 : Hid (OwnF W6 X.heap.size v5 L) := Lib.hid HA7.out.1
          obtain ⟨Aq11, mq11, cq11, rfl⟩ := own_slice F2_10.out
          refine hK.out _ _ HB9.out (fun _ => ?_)
          clear hK K
          try simp only [Act.put, List.setIfInBounds_toArray, List.set_cons_zero, List.set_cons_succ]
          refine wpAnyH_ready (rs := [4]) (by kernel_rfl) (by simp) ?_
          refine AllReadyH.cons (o := ⟨_, _, _, _, _, _⟩) rfl (fun K hK => ?_) AllReadyH.nil
          obtain ⟨b12, hb12⟩ : ∃ z, W6.heap.size = z := ⟨_, rfl⟩
          have Hb12 := Lib.hid hb12
          refine wp_build_factN (.tmp 35) f cf HCF.out b12 hb12 rfl rfl ?_
          clear hb12
          have NE13 : Hid ((.slice Aq11 mq11 cq11 : Value).ownBlock ≠ some b12) := Lib.hid (fun e => by have h1 := (own_lt F2_10.out e).2; have h2 := Hb12.out; omega)
          have D14 := Lib.hid ((Below.refl W6.heap.size W6).alloc (Nat.le_refl _) (.cells cf 29))
          have HB15 := Lib.hid (HB9.out.alloc HB9.out.size (.cells cf 29))
          have F2_16 := Lib.hid (F2_10.out.below D14.out)
          have F4_17 : Hid (RowAt (W6.alloc (.cells cf 29)) b12 29 cf) := Lib.hid (by rw [← Hb12.out]; exact RowAt.new _ _ _)
          refine hK.out _ _ HB15.out (fun _ => ?_)
          clear hK K
          try simp only [Act.put, List.setIfInBounds_toArray, List.set_cons_zero, List.set_cons_succ]
          refine wpAnyH_ready (rs := [5]) (by kernel_rfl) (by simp) ?_
          refine AllReadyH.cons (o := ⟨_, _, _, _, _, _⟩) rfl (fun K hK => ?_) AllReadyH.nil
          have NW21 := Lib.hid (row_new HCF.out F4_17.out)
          refine wp_append_fact (.tmp 34) (.tmp 36) X.heap.size L f b12 (.slice Aq11 mq11 cq11 : Value) F2_16.out HLEN.out.2.1 HB15.out.size NW21.out rfl rfl rfl (fun v18 W19 h1 h2 h3 => ?_)
          have HA20 := Lib.hid (And.intro h1 (And.intro h2 h3))
          clear h1 h2 h3
          have HB22 : Hid (Below X.heap.size X W19) := Lib.hid (HB15.out.grown HA20.out.2.1 HB15.out.size (fun j e => (F2_16.out.lt j e).1))
          have F2_23 : Hid (OwnF W19 X.heap.size v18 (L ++ [f])) := Lib.hid HA20.out.1
          obtain ⟨Aq24, mq24, cq24, rfl⟩ := own_slice F2_23.out
          refine hK.out _ _ HB22.out (fun _ => ?_)
          clear hK K
          try simp only [Act.put, List.setIfInBounds_toArray, List.set_cons_zero, List.set_cons_succ]
          refine wpAnyH_ready (rs := [6]) (by kernel_rfl) (by simp) ?_
          refine AllReadyH.cons (o := ⟨_, _, _, _, _, _⟩) rfl (fun K hK => ?_) AllReadyH.nil
          go_simp
          go_at_call 11
          refine (of_any (L ++ [f]) _ W19 HLEN.out.2.2 HOKF.out F2_23.out.facts).mono ?_
          rintro e W25 ⟨bs27, gs28, rfl, h1, h2, h3, h4⟩
          have HO26 := Lib.hid (And.intro h1 (And.intro h3 (And.intro h4 h2)))
          clear h1 h2 h3 h4
          go_wp2_with fail
          have D29 := Lib.hid HO26.out.2.2.2
          have HB30 := Lib.hid (HB22.out.trans (D29.out.mono HB22.out.size))
          have F6_31 := Lib.hid HO26.out.1
          refine hK.out _ _ HB30.out (fun _ => ?_)
          clear hK K
          try simp only [Act.put, List.setIfInBounds_toArray, List.set_cons_zero, List.set_cons_succ]
          refine wpAnyH_ready (rs := [7]) (by kernel_rfl) (by simp) ?_
          refine AllReadyH.cons (o := ⟨_, _, _, _, _, _⟩) rfl (fun K hK => ?_) AllReadyH.nil
          go_simp
          go_at_call 12
          refine (facts_of F6_31.out HO26.out.2.1 HO26.out.2.2.1 HLEN3.out).mono ?_
          rintro e W32 ⟨v34, rfl, h1, h2⟩
          have HF33 := Lib.hid (And.intro h1.facts h2)
          clear h1 h2
          go_wp2_with fail
          have D35 := Lib.hid HF33.out.2
          have HB36 := Lib.hid (HB30.out.trans (D35.out.mono HB30.out.size))
          refine hK.out _ _ HB36.out (fun _ => ?_)
          clear hK K
          try simp only [Act.put, List.setIfInBounds_toArray, List.set_cons_zero, List.set_cons_succ]
          refine wpAnyH_ready (rs := [8]) (by kernel_rfl) (by simp) ?_
          refine AllReadyH.cons (o := ⟨_, _, _, _, _, _⟩) rfl (fun K hK => ?_) AllReadyH.nil
          go_simp
          refine hK.out _ _ HB36.out (fun _ => ?_)
          clear hK K
          try simp only [Act.put, List.setIfInBounds_toArray, List.set_cons_zero, List.set_cons_succ]
          refine wpAnyH_done (by kernel_rfl) ?_ _
          go_wp2_with fail
          go_meet
          case rel => exact ⟨gs28, Lib.hid ⟨HF33.out.1, HO26.out.2.1, HO26.out.2.2.1, HB36.out⟩⟩
        · obtain ⟨b37, hb37⟩ : ∃ z, (X.drew.alloc (.cells #[] 29)).heap.size = z := ⟨_, rfl⟩
          have Hb37 := Lib.hid hb37
          refine wp_build_factN (.tmp 35) f cf HCF.out b37 hb37 rfl rfl ?_
          clear hb37
          have NE38 : Hid ((.slice (some ⟨g1, 0, none⟩) 0 0 : Value).ownBlock ≠ some b37) := Lib.hid (fun e => by have h1 := (own_lt F0_4.out e).2; have h2 := Hb37.out; omega)
          have D39 := Lib.hid ((Below.refl (X.drew.alloc (.cells #[] 29)).heap.size (X.drew.alloc (.cells #[] 29))).alloc (Nat.le_refl _) (.cells cf 29))
          have HB40 := Lib.hid (HB3.out.alloc HB3.out.size (.cells cf 29))
          have F0_41 := Lib.hid (F0_4.out.below D39.out)
          have F4_42 : Hid (RowAt ((X.drew.alloc (.cells #[] 29)).alloc (.cells cf 29)) b37 29 cf) := Lib.hid (by rw [← Hb37.out]; exact RowAt.new _ _ _)
          refine hK.out _ _ HB40.out (fun _ => ?_)
          clear hK K
          try simp only [Act.put, List.setIfInBounds_toArray, List.set_cons_zero, List.set_cons_succ]
          refine wpAnyH_ready (rs := [2]) (by kernel_rfl) (by simp) ?_
          refine AllReadyH.cons (o := ⟨_, _, _, _, _, _⟩) rfl (fun K hK => ?_) AllReadyH.nil
          have FL46 := Lib.hid (HFL.out.more HB40.out)
          refine wp_append_facts2 (.tmp 32) (.tmp 33) X.heap.size [] L (.slice (some ⟨g1, 0, none⟩) 0 0) (.slice A10 m10 c10) F0_41.out FL46.out HLEN.out.1 HB40.out.size rfl rfl rfl (fun v43 W44 h1 h2 h3 => ?_)
          have HA45 := Lib.hid (And.intro h1 (And.intro h2 h3))
          clear h1 h2 h3
          have HB47 : Hid (Below X.heap.size X W44) := Lib.hid (HB40.out.grown HA45.out.2.1 HB40.out.size (fun j e => (F0_41.out.lt j e).1))
          have F4_48 : Hid (RowAt W44 b37 29 cf) := Lib.hid ((HA45.out.2.1.block _ F4_42.out.lt (fun e => by exact NE38.out e.symm)).trans F4_42.out)
          have NE49 : Hid (v43.ownBlock ≠ some b37) := Lib.hid (fun e => ne_own HA45.out.2.2 (fun e => by exact NE38.out e) (by have h1 := F4_42.out.lt; omega) e)
          have F2_50 : Hid (OwnF W44 X.heap.size v43 L) := Lib.hid HA45.out.1
          obtain ⟨Aq51, mq51, cq51, rfl⟩ := own_slice F2_50.out
          refine hK.out _ _ HB47.out (fun _ => ?_)
          clear hK K
          try simp only [Act.put, List.setIfInBounds_toArray, List.set_cons_zero, List.set_cons_succ]
          refine wpAnyH_ready (rs := [5]) (by kernel_rfl) (by simp) ?_
          refine AllReadyH.cons (o := ⟨_, _, _, _, _, _⟩) rfl (fun K hK => ?_) AllReadyH.nil
          have NW55 := Lib.hid (row_new HCF.out F4_48.out)
          refine wp_append_fact (.tmp 34) (.tmp 36) X.heap.size L f b37 (.slice Aq51 mq51 cq51 : Value) F2_50.out HLEN.out.2.1 HB47.out.size NW55.out rfl rfl rfl (fun v52 W53 h1 h2 h3 => ?_)
          have HA54 := Lib.hid (And.intro h1 (And.intro h2 h3))
          clear h1 h2 h3
          have HB56 : Hid (Below X.heap.size X W53) := Lib.hid (HB47.out.grown HA54.out.2.1 HB47.out.size (fun j e => (F2_50.out.lt j e).1))
          have F2_57 : Hid (OwnF W53 X.heap.size v52 (L ++ [f])) := Lib.hid HA54.out.1
          obtain ⟨Aq58, mq58, cq58, rfl⟩ := own_slice F2_57.out
          refine hK.out _ _ HB56.out (fun _ => ?_)
          clear hK K
          try simp only [Act.put, List.setIfInBounds_toArray, List.set_cons_zero, List.set_cons_succ]
          refine wpAnyH_ready (rs := [6]) (by kernel_rfl) (by simp) ?_
          refine AllReadyH.cons (o := ⟨_, _, _, _, _, _⟩) rfl (fun K hK => ?_) AllReadyH.nil
          go_simp
          go_at_call 11
          refine (of_any (L ++ [f]) _ W53 HLEN.out.2.2 HOKF.out F2_57.out.facts).mono ?_
          rintro e W59 ⟨bs61, gs62, rfl, h1, h2, h3, h4⟩
          have HO60 := Lib.hid (And.intro h1 (And.intro h3 (And.intro h4 h2)))
          clear h1 h2 h3 h4
          go_wp2_with fail
          have D63 := Lib.hid HO60.out.2.2.2
          have HB64 := Lib.hid (HB56.out.trans (D63.out.mono HB56.out.size))
          have F6_65 := Lib.hid HO60.out.1
          refine hK.out _ _ HB64.out (fun _ => ?_)
          clear hK K
          try simp only [Act.put, List.setIfInBounds_toArray, List.set_cons_zero, List.set_cons_succ]
          refine wpAnyH_ready (rs := [7]) (by kernel_rfl) (by simp) ?_
          refine AllReadyH.cons (o := ⟨_, _, _, _, _, _⟩) rfl (fun K hK => ?_) AllReadyH.nil
          go_simp
          go_at_call 12
          refine (facts_of F6_65.out HO60.out.2.1 HO60.out.2.2.1 HLEN3.out).mono ?_
          rintro e W66 ⟨v68, rfl, h1, h2⟩
          have HF67 := Lib.hid (And.intro h1.facts h2)
          clear h1 h2
          go_wp2_with fail
          have D69 := Lib.hid HF67.out.2
          have HB70 := Lib.hid (HB64.out.trans (D69.out.mono HB64.out.size))
          refine hK.out _ _ HB70.out (fun _ => ?_)
          clear hK K
          try simp only [Act.put, List.setIfInBounds_toArray, List.set_cons_zero, List.set_cons_succ]
          refine wpAnyH_ready (rs := [8]) (by kernel_rfl) (by simp) ?_
          refine AllReadyH.cons (o := ⟨_, _, _, _, _, _⟩) rfl (fun K hK => ?_) AllReadyH.nil
          go_simp
          refine hK.out _ _ HB70.out (fun _ => ?_)
          clear hK K
          try simp only [Act.put, List.setIfInBounds_toArray, List.set_cons_zero, List.set_cons_succ]
          refine wpAnyH_done (by kernel_rfl) ?_ _
          go_wp2_with fail
          go_meet
          case rel => exact ⟨gs62, Lib.hid ⟨HF67.out.1, HO60.out.2.1, HO60.out.2.2.1, HB70.out⟩⟩
      · obtain ⟨b71, hb71⟩ : ∃ z, X.drew.heap.size = z := ⟨_, rfl⟩
        have Hb71 := Lib.hid hb71
        refine wp_build_factN (.tmp 35) f cf HCF.out b71 hb71 rfl rfl ?_
        clear hb71
        have D72 := Lib.hid ((Below.refl X.drew.heap.size X.drew).alloc (Nat.le_refl _) (.cells cf 29))
        have HB73 := Lib.hid (HB0.out.alloc HB0.out.size (.cells cf 29))
        have F4_74 : Hid (RowAt (X.drew.alloc (.cells cf 29)) b71 29 cf) := Lib.hid (by rw [← Hb71.out]; exact RowAt.new _ _ _)
        refine hK.out _ _ HB73.out (fun _ => ?_)
        clear hK K
        try simp only [Act.put, List.setIfInBounds_toArray, List.set_cons_zero, List.set_cons_succ]
        refine wpAnyH_ready (rs := [0]) (by kernel_rfl) (by simp) ?_
        refine AllReadyH.cons (o := ⟨_, _, _, _, _, _⟩) rfl (fun K hK => ?_) AllReadyH.nil
        obtain ⟨g75, hg75⟩ : ∃ z, (X.drew.alloc (.cells cf 29)).heap.size = z := ⟨_, rfl⟩
        have Hg75 := Lib.hid hg75
        refine wp_build_nofacts g75 hg75 rfl ?_
        clear hg75
        have D76 := Lib.hid ((Below.refl (X.drew.alloc (.cells cf 29)).heap.size (X.drew.alloc (.cells cf 29))).alloc (Nat.le_refl _) (.cells #[] 29))
        have HB77 := Lib.hid (HB73.out.alloc HB73.out.size (.cells #[] 29))
        have F4_78 := Lib.hid (F4_74.out.below D76.out F4_74.out.lt)
        have F0_79 : Hid (OwnF ((X.drew.alloc (.cells cf 29)).alloc (.cells #[] 29)) X.heap.size (.slice (some ⟨g75, 0, none⟩) 0 0) []) := Lib.hid (by rw [← Hg75.out]; exact OwnF.lower (own_zeroF (X.drew.alloc (.cells cf 29))) HB73.out.size)
        have NE80 : Hid (b71 ≠ g75) := Lib.hid (by have h1 := Hg75.out; have h2 := F4_74.out.lt; omega)
        refine hK.out _ _ HB77.out (fun _ => ?_)
        clear hK K
        try simp only [Act.put, List.setIfInBounds_toArray, List.set_cons_zero, List.set_cons_succ]
        refine wpAnyH_ready (rs := [2]) (by kernel_rfl) (by simp) ?_
        refine AllReadyH.cons (o := ⟨_, _, _, _, _, _⟩) rfl (fun K hK => ?_) AllReadyH.nil
        have FL84 := Lib.hid (HFL.out.more HB77.out)
        refine wp_append_facts2 (.tmp 32) (.tmp 33) X.heap.size [] L (.slice (some ⟨g75, 0, none⟩) 0 0) (.slice A10 m10 c10) F0_79.out FL84.out HLEN.out.1 HB77.out.size rfl rfl rfl (fun v81 W82 h1 h2 h3 => ?_)
        have HA83 := Lib.hid (And.intro h1 (And.intro h2 h3))
        clear h1 h2 h3
        have HB85 : Hid (Below X.heap.size X W82) := Lib.hid (HB77.out.grown HA83.out.2.1 HB77.out.size (fun j e => (F0_79.out.lt j e).1))
        have F4_86 : Hid (RowAt W82 b71 29 cf) := Lib.hid ((HA83.out.2.1.block _ F4_78.out.lt (fun e => by have h1 := NE80.out; simp [Value.ownBlock] at e; omega)).trans F4_78.out)
        have NE87 : Hid (v81.ownBlock ≠ some b71) := Lib.hid (fun e => ne_own HA83.out.2.2 (fun e => by have h1 := NE80.out; simp [Value.ownBlock] at e; omega) (by have h1 := F4_78.out.lt; omega) e)
        have F2_88 : Hid (OwnF W82 X.heap.size v81 L) := Lib.hid HA83.out.1
        obtain ⟨Aq89, mq89, cq89, rfl⟩ := own_slice F2_88.out
        refine hK.out _ _ HB85.out (fun _ => ?_)
        clear hK K
        try simp only [Act.put, List.setIfInBounds_toArray, List.set_cons_zero, List.set_cons_succ]
        refine wpAnyH_ready (rs := [5]) (by kernel_rfl) (by simp) ?_
        refine AllReadyH.cons (o := ⟨_, _, _, _, _, _⟩) rfl (fun K hK => ?_) AllReadyH.nil
        have NW93 := Lib.hid (row_new HCF.out F4_86.out)
        refine wp_append_fact (.tmp 34) (.tmp 36) X.heap.size L f b71 (.slice Aq89 mq89 cq89 : Value) F2_88.out HLEN.out.2.1 HB85.out.size NW93.out rfl rfl rfl (fun v90 W91 h1 h2 h3 => ?_)
        have HA92 := Lib.hid (And.intro h1 (And.intro h2 h3))
        clear h1 h2 h3
        have HB94 : Hid (Below X.heap.size X W91) := Lib.hid (HB85.out.grown HA92.out.2.1 HB85.out.size (fun j e => (F2_88.out.lt j e).1))
        have F2_95 : Hid (OwnF W91 X.heap.size v90 (L ++ [f])) := Lib.hid HA92.out.1
        obtain ⟨Aq96, mq96, cq96, rfl⟩ := own_slice F2_95.out
        refine hK.out _ _ HB94.out (fun _ => ?_)
        clear hK K
        try simp only [Act.put, List.setIfInBounds_toArray, List.set_cons_zero, List.set_cons_succ]
        refine wpAnyH_ready (rs := [6]) (by kernel_rfl) (by simp) ?_
        refine AllReadyH.cons (o := ⟨_, _, _, _, _, _⟩) rfl (fun K hK => ?_) AllReadyH.nil
        go_simp
        go_at_call 11
        refine (of_any (L ++ [f]) _ W91 HLEN.out.2.2 HOKF.out F2_95.out.facts).mono ?_
        rintro e W97 ⟨bs99, gs100, rfl, h1, h2, h3, h4⟩
        have HO98 := Lib.hid (And.intro h1 (And.intro h3 (And.intro h4 h2)))
        clear h1 h2 h3 h4
        go_wp2_with fail
        have D101 := Lib.hid HO98.out.2.2.2
        have HB102 := Lib.hid (HB94.out.trans (D101.out.mono HB94.out.size))
        have F6_103 := Lib.hid HO98.out.1
        refine hK.out _ _ HB102.out (fun _ => ?_)
        clear hK K
        try simp only [Act.put, List.setIfInBounds_toArray, List.set_cons_zero, List.set_cons_succ]
        refine wpAnyH_ready (rs := [7]) (by kernel_rfl) (by simp) ?_
        refine AllReadyH.cons (o := ⟨_, _, _, _, _, _⟩) rfl (fun K hK => ?_) AllReadyH.nil
        go_simp
        go_at_call 12
        refine (facts_of F6_103.out HO98.out.2.1 HO98.out.2.2.1 HLEN3.out).mono ?_
        rintro e W104 ⟨v106, rfl, h1, h2⟩
        have HF105 := Lib.hid (And.intro h1.facts h2)
        clear h1 h2
        go_wp2_with fail
        have D107 := Lib.hid HF105.out.2
        have HB108 := Lib.hid (HB102.out.trans (D107.out.mono HB102.out.size))
        refine hK.out _ _ HB108.out (fun _ => ?_)
        clear hK K
        try simp only [Act.put, List.setIfInBounds_toArray, List.set_cons_zero, List.set_cons_succ]
        refine wpAnyH_ready (rs := [8]) (by kernel_rfl) (by simp) ?_
        refine AllReadyH.cons (o := ⟨_, _, _, _, _, _⟩) rfl (fun K hK => ?_) AllReadyH.nil
        go_simp
        refine hK.out _ _ HB108.out (fun _ => ?_)
        clear hK K
        try simp only [Act.put, List.setIfInBounds_toArray, List.set_cons_zero, List.set_cons_succ]
        refine wpAnyH_done (by kernel_rfl) ?_ _
        go_wp2_with fail
        go_meet
        case rel => exact ⟨gs100, Lib.hid ⟨HF105.out.1, HO98.out.2.1, HO98.out.2.2.1, HB108.out⟩⟩
    case rest =>
      obtain ⟨gs, HC⟩ := hcut
      obtain ⟨A13, c13, rfl⟩ := HC.out.1.sl
      obtain ⟨n, hn⟩ : ∃ z, fs.length = z := ⟨_, rfl⟩
      obtain ⟨k, hk⟩ : ∃ z, gs.length = z := ⟨_, rfl⟩
      have hn2 : n ≤ 100 := by rw [← hn]; exact perm_len H5.out.2.1 HLL.out
      have hk2 : k ≤ 101 := by rw [← hk]; exact perm_len HC.out.2.1 (by have := HLL.out; simp; omega)
      rw [hn] at HF12
      rw [hk] at HC
      rw [hn, hk]
      have HN := Lib.hid hn
      have HK := Lib.hid hk
      have HXR0 : Hid (RowAt wc N 29 cf ∧ FactsAt wc (.slice A12 n c12) fs ∧ Below w.heap.size w wc) := Lib.hid ⟨HXF.out.below HC.out.2.2.2 HXF.out.lt, HF12.out.more HC.out.2.2.2, HXB.out.trans (HC.out.2.2.2.mono HXB.out.size)⟩
      have HLF : Hid (∀ j v, cf[j]? = some v → wc.cell? ⟨N, 0 + j, none⟩ = some v) := Lib.hid (fun j v hv => by rw [Nat.zero_add, HXR0.out.1.cell]; exact hv)
      have HVA := Lib.hid (valid_any f wc (HFG.out.1 0).1 (HFG.out.1 0).2)
      rw [HCF.out] at HVA
      clear hn hk
      go_wp2_with (first | ((with_reducible refine load_cs (o := ⟨some 40, _, _, _, _, _⟩) (.tmp 11) N cf HLF.out HCI.out ?_ ?_ ?_ ?_); rfl; rfl; rfl))
      cases hv : validB f
      · rw [hv] at HVA
        refine HVA.out.mono ?_
        rintro e W7 ⟨rfl, hb7⟩
        have heq := add_invalid hv H5.out.2.1 HC.out.2.1 H5.out.2.2.1 HC.out.2.2.1
        have hkn : k = n := by rw [← HN.out, ← HK.out, heq]
        subst hkn
        subst heq
        have HSM := Lib.hid (samefacts_any fs fs (.slice A12 k c12) (.slice A13 k c13) W7 (by rw [HN.out]; omega) (by rw [HN.out]; omega) (HXR0.out.2.1.more hb7) (HC.out.1.more hb7))
        rw [sameL_refl] at HSM
        have H7 := Lib.hid (HXR0.out.2.2.trans (hb7.mono HXR0.out.2.2.size))
        clear hb7 hv HVA
        go_wp2_with fail
        refine HSM.out.mono ?_
        rintro e W8 ⟨rfl, hb8⟩
        have H8 := Lib.hid (H7.out.trans (hb8.mono H7.out.size))
        clear hb8
        go_wp2_with fail
        go_ret
        exact ⟨rfl, H8.out⟩
      · have HV := Lib.hid hv
        rw [hv] at HVA
        refine HVA.out.mono ?_
        rintro e W7 ⟨rfl, hb7⟩
        have H7 : Hid (RowAt W7 N 29 cf ∧ FactsAt W7 (.slice A12 n c12) fs ∧ FactsAt W7 (.slice A13 k c13) gs ∧ Below w.heap.size w W7) := Lib.hid ⟨HXR0.out.1.below hb7 HXR0.out.1.lt, HXR0.out.2.1.more hb7, HC.out.1.more hb7, HXR0.out.2.2.trans (hb7.mono HXR0.out.2.2.size)⟩
        have HLF7 : Hid (∀ j v, cf[j]? = some v → W7.cell? ⟨N, 0 + j, none⟩ = some v) := Lib.hid (fun j v hv => by rw [Nat.zero_add, H7.out.1.cell]; exact hv)
        clear hb7 hv HVA
        obtain ⟨N4, hN4⟩ : ∃ z, W7.heap.size = z := ⟨_, rfl⟩
        have HN4 := Lib.hid hN4
        have HR4 : Hid (RowAt (W7.alloc (.cells cf 29)) N4 29 cf ∧ Below N4 W7 (W7.alloc (.cells cf 29))) := Lib.hid (by rw [← hN4]; exact ⟨RowAt.new _ _ _, (Below.refl _ _).alloc (Nat.le_refl _) _⟩)
        clear hN4
        go_wp2_with (first | ((with_reducible refine load_cs (o := ⟨some 49, _, _, _, _, _⟩) (.tmp 11) N cf HLF7.out HCI.out ?_ ?_ ?_ ?_); rfl; rfl; rfl) | ((with_reducible refine store_cs (o := ⟨none, _, _, _, _, _⟩) (.tmp 14) (.tmp 49) W7.heap.size rfl _ cf HCI.out HCA.out.1 HCA.out.2 ?_ ?_ ?_ ?_ ?_); rfl; rfl; rfl; rfl))
        rw [HN4.out]
        go_loopw [15, 16, 17] (fun v15 v16 v17 wr => ∃ i : Nat, v17 = .int .i64 i ∧ i ≤ n ∧ v15 = .bool (knownF f (fs.take i)) ∧ Hid (OwnF wr (N4 + 1) v16 (otherK f (fs.take i)) ∧ RowAt wr N4 29 (wantF f (fs.take i)).cells ∧ Below N4 W7 wr)) (fun _ _ v17 _ => n - (RowKit.intOf v17).toNat)
        case atStart => exact ⟨0, rfl, by omega, rfl, Lib.hid ⟨OwnF.nil _ _, by rw [show (wantF f (fs.take 0)).cells = cf from HCF.out]; exact HR4.out.1, HR4.out.2⟩⟩
        case round =>
          obtain ⟨i, rfl, hi, rfl, HS⟩ := hrel
          have HLST : Hid (FactsAt W7 (.slice A12 n c12) fs) := Lib.hid H7.out.2.1
          have HROW : Hid (RowAt W7 N 29 cf) := Lib.hid H7.out.1
          have HOKL : Hid (∀ g ∈ fs, FactOk g) := Lib.hid (fun g hg => (HLG.out g (best_in (fun x hx => (HLG.out x hx).2) (H5.out.2.1.mem_iff.1 hg))).1)
          by_cases h1 : i < n
          · have h1d : decide (i < n) = true := by simpa using h1
            obtain ⟨gg, hgg⟩ : ∃ x, fs[i]? = some x := ⟨_, List.getElem?_eq_getElem (by have := HN.out; omega)⟩
            have HKT := Lib.hid (known_take (f := f) hgg)
            have HWT := Lib.hid (want_take (f := f) hgg)
            have HOT := Lib.hid (other_take (f := f) hgg)
            have hbW : Below W7.heap.size W7 wr := by rw [HN4.out]; exact HS.out.2.2
            obtain ⟨b, o, rfl, hlt, hcell⟩ := (HLST.out.more hbW).get hgg
            have HXR : Hid (RowAt wr N 29 cf) := Lib.hid (HROW.out.below hbW HROW.out.lt)
            have HCGI : Hid ((Try.prog.info? 29).map (·.size) = some gg.cells.size ∧ gg.cells.all (·.oneCell') = true) := Lib.hid ⟨fact_size, gg.cells_one⟩
            have HGO : Hid (FactOk gg) := Lib.hid (HOKL.out gg (List.mem_of_getElem? hgg))
            have KG := Lib.hid (fun W => key_any gg W (HGO.out 0).1 (HGO.out 0).2)
            have KF := Lib.hid (fun W => key_any f W (HFG.out.1 0).1 (HFG.out.1 0).2)
            unfold keyV at KG KF
            have HEK := Lib.hid (eq_key (gg.n 0) (key2 gg).1 (key2 gg).2 (f.n 0) (key2 f).1 (key2 f).2)
            obtain ⟨kq, hkq⟩ : ∃ z, keyEq gg f = z := ⟨_, rfl⟩
            have hq2 : (gg.n 0 == f.n 0 && ((key2 gg).1 == (key2 f).1 && (key2 gg).2 == (key2 f).2)) = kq := hkq
            simp only [hq2] at HEK
            obtain ⟨x0, hx0⟩ : ∃ z, gg.n 0 = z := ⟨_, rfl⟩
            obtain ⟨x1, hx1⟩ : ∃ z, (key2 gg).1 = z := ⟨_, rfl⟩
            obtain ⟨x2, hx2⟩ : ∃ z, (key2 gg).2 = z := ⟨_, rfl⟩
            obtain ⟨z0, hz0⟩ : ∃ z, f.n 0 = z := ⟨_, rfl⟩
            obtain ⟨z1, hz1⟩ : ∃ z, (key2 f).1 = z := ⟨_, rfl⟩
            obtain ⟨z2, hz2⟩ : ∃ z, (key2 f).2 = z := ⟨_, rfl⟩
            simp only [hx0, hx1, hx2] at KG HEK
            simp only [hz0, hz1, hz2] at KF HEK
            have HKQ := Lib.hid hkq
            obtain ⟨cgg, hcgg⟩ : ∃ z, gg.cells = z := ⟨_, rfl⟩
            have HCG2 := Lib.hid hcgg
            rw [hcgg] at hcell
            simp only [hcgg] at KG HCGI
            simp only [HCF.out] at KF
            have HC1 : Hid (∀ W, Below wr.heap.size wr W → ∀ j2 x, cgg[j2]? = some x → W.cell? ⟨b, o + i * 18 + j2, none⟩ = some x) := Lib.hid (fun W hW j2 x hx => (hW.cell (p := ⟨b, o + i * 18 + j2, none⟩) hlt).trans (hcell j2 x hx))
            have HGG := Lib.hid hgg
            have HH1 := Lib.hid h1
            have HCGI : Hid ((Try.prog.info? 29).map (·.size) = some cgg.size) := Lib.hid HCGI.out.1
            have PV := Lib.hid (fun W => prevails_any f gg W HFG.out.1 HGO.out)
            simp only [hcgg, HCF.out] at PV
            obtain ⟨pv, hpv⟩ : ∃ z, prevB f gg = z := ⟨_, rfl⟩
            simp only [hpv] at PV
            have HPV := Lib.hid hpv
            obtain ⟨kn, hkn⟩ : ∃ z, knownF f (fs.take i) = z := ⟨_, rfl⟩
            rw [hkn] at HKT ⊢
            have HLO : Hid ((otherK f (fs.take i)).length ≤ 1000000) := Lib.hid (by
              have h1 : (otherK f (fs.take i)).length ≤ (fs.take i).length := List.length_filter_le _ _
              rw [List.length_take] at h1
              omega)
            have HSZ : Hid (N4 + 1 ≤ wr.heap.size) := Lib.hid HS.out.2.1.lt
            clear hgg hcell hlt hbW hkq hq2 hx0 hx1 hx2 hz0 hz1 hz2 hcgg hpv hkn
            go_wp2_with fail
            refine wp_region_held_drew (S := fun W => Below wr.heap.size wr W) (by kernel_rfl) (Below.refl _ _).drew (fun hHeld => ?_)
            refine wpAnyH_take (i := 0) (oi := ⟨_, _, _, _, _, _⟩) (v := ?_) rfl (by kernel_rfl) (by kernel_rfl) (by kernel_rfl) (fun _ _ _ h => h) (Or.inl ⟨by rfl, ?_⟩) (by assumption) ?_
            rotate_left
            · intro w hSw
              go_simp
              all_goals with_reducible rfl
            simp only [Act.put, List.setIfInBounds_toArray, List.set_cons_zero, List.set_cons_succ]
            refine wpAnyH_take (i := 1) (oi := ⟨_, _, _, _, _, _⟩) (v := ?_) rfl (by kernel_rfl) (by kernel_rfl) (by kernel_rfl) (fun _ _ _ h => h) (Or.inl ⟨by rfl, ?_⟩) (by assumption) ?_
            rotate_left
            · intro w hSw
              go_simp
              all_goals with_reducible rfl
            simp only [Act.put, List.setIfInBounds_toArray, List.set_cons_zero, List.set_cons_succ]
            refine wpAnyH_take (i := 5) (oi := ⟨_, _, _, _, _, _⟩) rfl (by kernel_rfl) (by kernel_rfl) (by kernel_rfl) (fun _ _ _ h => h) (yields_at 29 (.tmp 11) N (0) cf _ (fun W hW j2 x hx => by rw [Nat.zero_add, (HXR.out.below hW HXR.out.lt).cell]; exact hx) Try.underlying29 (by rfl) rfl rfl rfl HCI.out) (by assumption) ?_
            simp only [Act.put, List.setIfInBounds_toArray, List.set_cons_zero, List.set_cons_succ]
            refine wpAnyH_take (i := 2) (oi := ⟨_, _, _, _, _, _⟩) (v := ?_) rfl (by kernel_rfl) (by kernel_rfl) (by kernel_rfl) (fun _ _ _ h => h) (Or.inl ⟨by rfl, ?_⟩) (by assumption) ?_
            rotate_left
            · intro w hSw
              go_simp
              all_goals with_reducible rfl
            simp only [Act.put, List.setIfInBounds_toArray, List.set_cons_zero, List.set_cons_succ]
            refine wpAnyH_take (i := 3) (oi := ⟨_, _, _, _, _, _⟩) rfl (by kernel_rfl) (by kernel_rfl) (by kernel_rfl) (fun _ _ _ h => h) (yields_at 29 (.tmp 58) b (o + i * 18) cgg _ (fun W hW j2 x hx => HC1.out W hW j2 x hx) Try.underlying29 (by rfl) rfl rfl rfl HCGI.out) (by assumption) ?_
            simp only [Act.put, List.setIfInBounds_toArray, List.set_cons_zero, List.set_cons_succ]
            refine wpAnyH_ready (rs := [4]) (by kernel_rfl) (by simp) ?_
            refine AllReadyH.cons (o := ⟨_, _, _, _, _, _⟩) rfl (fun K hK => ?_) AllReadyH.nil
            go_simp
            go_at_call 16
            refine (KG.out _).mono ?_
            rintro e W25 ⟨rfl, hb25⟩
            have HB25 : Hid (Below wr.heap.size wr W25) := Lib.hid ((Below.refl wr.heap.size wr).drew.trans (hb25.mono (Below.refl wr.heap.size wr).drew.size))
            clear hb25
            go_wp2_with fail
            refine hK.out _ _ HB25.out (fun hHeld => ?_)
            clear hK K
            try simp only [Act.put, List.setIfInBounds_toArray, List.set_cons_zero, List.set_cons_succ]
            refine wpAnyH_ready (rs := [6]) (by kernel_rfl) (by simp) ?_
            refine AllReadyH.cons (o := ⟨_, _, _, _, _, _⟩) rfl (fun K hK => ?_) AllReadyH.nil
            go_simp
            go_at_call 16
            refine (KF.out _).mono ?_
            rintro e W26 ⟨rfl, hb26⟩
            have HB26 : Hid (Below wr.heap.size wr W26) := Lib.hid (HB25.out.trans (hb26.mono HB25.out.size))
            clear hb26
            go_wp2_with fail
            refine hK.out _ _ HB26.out (fun hHeld => ?_)
            clear hK K
            try simp only [Act.put, List.setIfInBounds_toArray, List.set_cons_zero, List.set_cons_succ]
            refine wpAnyH_take (i := 7) (oi := ⟨_, _, _, _, _, _⟩) (v := ?_) rfl (by kernel_rfl) (by kernel_rfl) (by kernel_rfl) (fun _ _ _ h => h) (Or.inl ⟨by rfl, ?_⟩) (by assumption) ?_
            rotate_left
            · intro w hSw
              have hek := HEK.out w
              go_simp
              all_goals with_reducible rfl
            simp only [Act.put, List.setIfInBounds_toArray, List.set_cons_zero, List.set_cons_succ]
            refine wpAnyH_done (by kernel_rfl) ?_ _
            cases kq
            · rw [HKQ.out] at HKT HOT
              have HC26 : Hid (∀ j2 x, cgg[j2]? = some x → W26.cell? ⟨b, o + i * 18 + j2, none⟩ = some x) := Lib.hid (fun j2 x hx => HC1.out W26 HB26.out j2 x hx)
              have HA26 : Hid (Below wr.heap.size wr (W26.alloc (.cells cgg 29))) := Lib.hid (HB26.out.alloc HB26.out.size _)
              have HO26 : Hid (OwnF (W26.alloc (.cells cgg 29)) (N4 + 1) u16 (otherK f (fs.take i)) ∧ (otherK f (fs.take i)).length ≤ 1000000 ∧ N4 + 1 ≤ (W26.alloc (.cells cgg 29)).heap.size ∧ ∀ (j2 : Nat) u, gg.cells.toList[j2]? = some u → (W26.alloc (.cells cgg 29)).cell? ((⟨W26.heap.size, 0, none⟩ : Addr).add j2) = some u) := Lib.hid ⟨HS.out.1.below HA26.out, HLO.out, Nat.le_trans HSZ.out HA26.out.size, by rw [← HCG2.out]; exact fact_new W26 gg _⟩
              have HR26 : Hid (RowAt (W26.alloc (.cells cgg 29)) N4 29 (wantF f (fs.take i)).cells ∧ Below N4 W7 (W26.alloc (.cells cgg 29))) := Lib.hid ⟨HS.out.2.1.below HA26.out HS.out.2.1.lt, HS.out.2.2.trans (HA26.out.mono (Nat.le_of_lt HS.out.2.1.lt))⟩
              go_wp2_with (first | ((with_reducible refine load_at (o := ⟨some 68, _, _, _, _, _⟩) (.tmp 67) b (o + i * 18) cgg HC26.out HCGI.out ?_ ?_ ?_ ?_); rfl; rfl; rfl) | ((with_reducible refine build_fact (o := ⟨some 69, _, _, _, _, _⟩) (.tmp 68) cgg gg HCG2.out ?_ ?_ ?_ ?_); rfl; rfl; rfl) | ((with_reducible refine append_fact (o := ⟨some 70, _, _, _, _, _⟩) (.tmp 64) (.tmp 69) (N4 + 1) (otherK f (fs.take i)) gg W26.heap.size u16 HO26.out.1 HO26.out.2.1 HO26.out.2.2.1 HO26.out.2.2.2 ?_ ?_ ?_ ?_ ?_); rfl; rfl; rfl; rfl; intro v28 W28 hown28 hbl28; have H28 := Lib.hid (And.intro hown28 hbl28); clear hown28 hbl28))
              go_roundw
              case rel =>
                refine ⟨i + 1, by go_num, by have := HH1.out; omega, by rw [HKT.out]; simp, Lib.hid ⟨by rw [HOT.out]; exact H28.out.1, ?_, HR26.out.2.trans (H28.out.2.mono (by omega))⟩⟩
                rw [HWT.out, show stepW f (wantF f (fs.take i)) gg = wantF f (fs.take i) by unfold stepW; rw [HKQ.out]; rfl]
                exact HR26.out.1.below H28.out.2 (by omega)
              case measure => simp [RowKit.intOf]; have := HH1.out; omega
            · rw [HKQ.out] at HKT HOT
              go_wp2_with fail
              refine wp_region_held_drew (S := fun W => Below W26.heap.size W26 W) (by kernel_rfl) (Below.refl _ _).drew (fun hHeld => ?_)
              refine wpAnyH_take (i := 0) (oi := ⟨_, _, _, _, _, _⟩) rfl (by kernel_rfl) (by kernel_rfl) (by kernel_rfl) (fun _ _ _ h => h) (yields_at 29 (.tmp 11) N (0) cf _ (fun W hW j2 x hx => by rw [Nat.zero_add, ((HXR.out.below HB26.out HXR.out.lt).below hW (Nat.lt_of_lt_of_le HXR.out.lt HB26.out.size)).cell]; exact hx) Try.underlying29 (by rfl) rfl rfl rfl HCI.out) (by assumption) ?_
              simp only [Act.put, List.setIfInBounds_toArray, List.set_cons_zero, List.set_cons_succ]
              refine wpAnyH_take (i := 1) (oi := ⟨_, _, _, _, _, _⟩) (v := ?_) rfl (by kernel_rfl) (by kernel_rfl) (by kernel_rfl) (fun _ _ _ h => h) (Or.inl ⟨by rfl, ?_⟩) (by assumption) ?_
              rotate_left
              · intro w hSw
                go_simp
                all_goals with_reducible rfl
              simp only [Act.put, List.setIfInBounds_toArray, List.set_cons_zero, List.set_cons_succ]
              refine wpAnyH_take (i := 2) (oi := ⟨_, _, _, _, _, _⟩) (v := ?_) rfl (by kernel_rfl) (by kernel_rfl) (by kernel_rfl) (fun _ _ _ h => h) (Or.inl ⟨by rfl, ?_⟩) (by assumption) ?_
              rotate_left
              · intro w hSw
                go_simp
                all_goals with_reducible rfl
              simp only [Act.put, List.setIfInBounds_toArray, List.set_cons_zero, List.set_cons_succ]
              refine wpAnyH_take (i := 3) (oi := ⟨_, _, _, _, _, _⟩) (v := ?_) rfl (by kernel_rfl) (by kernel_rfl) (by kernel_rfl) (fun _ _ _ h => h) (Or.inl ⟨by rfl, ?_⟩) (by assumption) ?_
              rotate_left
              · intro w hSw
                go_simp
                all_goals with_reducible rfl
              simp only [Act.put, List.setIfInBounds_toArray, List.set_cons_zero, List.set_cons_succ]
              refine wpAnyH_take (i := 4) (oi := ⟨_, _, _, _, _, _⟩) rfl (by kernel_rfl) (by kernel_rfl) (by kernel_rfl) (fun _ _ _ h => h) (yields_at 29 (.tmp 74) b (o + i * 18) cgg _ (fun W hW j2 x hx => HC1.out W (HB26.out.trans (hW.mono HB26.out.size)) j2 x hx) Try.underlying29 (by rfl) rfl rfl rfl HCGI.out) (by assumption) ?_
              simp only [Act.put, List.setIfInBounds_toArray, List.set_cons_zero, List.set_cons_succ]
              refine wpAnyH_ready (rs := [5]) (by kernel_rfl) (by simp) ?_
              refine AllReadyH.cons (o := ⟨_, _, _, _, _, _⟩) rfl (fun K hK => ?_) AllReadyH.nil
              go_simp
              go_at_call 17
              refine (PV.out _).mono ?_
              rintro e W27 ⟨rfl, hb27⟩
              have HB27 : Hid (Below W26.heap.size W26 W27) := Lib.hid ((Below.refl W26.heap.size W26).drew.trans (hb27.mono (Below.refl W26.heap.size W26).drew.size))
              clear hb27
              go_wp2_with fail
              refine hK.out _ _ HB27.out (fun hHeld => ?_)
              clear hK K
              try simp only [Act.put, List.setIfInBounds_toArray, List.set_cons_zero, List.set_cons_succ]
              refine wpAnyH_take (i := 6) (oi := ⟨_, _, _, _, _, _⟩) (v := ?_) rfl (by kernel_rfl) (by kernel_rfl) (by kernel_rfl) (fun _ _ _ h => h) (Or.inl ⟨by rfl, ?_⟩) (by assumption) ?_
              rotate_left
              · intro w hSw
                go_simp
                all_goals with_reducible rfl
              simp only [Act.put, List.setIfInBounds_toArray, List.set_cons_zero, List.set_cons_succ]
              refine wpAnyH_done (by kernel_rfl) ?_ _
              have HB28 : Hid (Below wr.heap.size wr W27) := Lib.hid (HB26.out.trans (HB27.out.mono HB26.out.size))
              have HC27 : Hid (∀ j2 x, cgg[j2]? = some x → W27.cell? ⟨b, o + i * 18 + j2, none⟩ = some x) := Lib.hid (fun j2 x hx => HC1.out W27 HB28.out j2 x hx)
              have HR27 : Hid (RowAt W27 N4 29 (wantF f (fs.take i)).cells ∧ Below N4 W7 W27 ∧ OwnF W27 (N4 + 1) u16 (otherK f (fs.take i))) := Lib.hid ⟨HS.out.2.1.below HB28.out HS.out.2.1.lt, HS.out.2.2.trans (HB28.out.mono (Nat.le_of_lt HS.out.2.1.lt)), HS.out.1.below HB28.out⟩
              have HSS : Hid ((wantF f (fs.take i)).cells.size = cgg.size ∧ cgg.all (·.oneCell') = true) := Lib.hid (by rw [← HCG2.out]; exact ⟨by rw [FactV.cells_size, FactV.cells_size], gg.cells_one⟩)
              cases pv
              · go_wp2_with (first | ((with_reducible refine load_at (o := ⟨some 81, _, _, _, _, _⟩) (.tmp 80) b (o + i * 18) cgg HC27.out HCGI.out ?_ ?_ ?_ ?_); rfl; rfl; rfl) | ((with_reducible refine store_fact_row (o := ⟨none, _, _, _, _, _⟩) (.tmp 14) (.tmp 81) N4 cgg _ HR27.out.1 HCGI.out HSS.out.1 HSS.out.2 ?_ ?_ ?_ ?_ ?_); rfl; rfl; rfl; rfl))
                go_roundw
                case rel =>
                  refine ⟨i + 1, by go_num, by have := HH1.out; omega, by rw [HKT.out]; simp, Lib.hid ⟨?_, ?_, below_setRow HR27.out.2.1 (Nat.le_refl _)⟩⟩
                  · rw [HOT.out]
                    simp only [if_true, List.append_nil]
                    exact owns_other HR27.out.2.2 (fun j h1 _ => setRow_other (by omega))
                  · rw [HWT.out, show stepW f (wantF f (fs.take i)) gg = gg by unfold stepW; rw [HKQ.out, HPV.out]; rfl, HCG2.out]
                    exact setRow_at HR27.out.1
                case measure => simp [RowKit.intOf]; have := HH1.out; omega
              · go_wp2_with fail
                go_roundw
                case rel =>
                  refine ⟨i + 1, by go_num, by have := HH1.out; omega, by rw [HKT.out]; simp, Lib.hid ⟨?_, ?_, HR27.out.2.1⟩⟩
                  · rw [HOT.out]
                    simp only [if_true, List.append_nil]
                    exact HR27.out.2.2
                  · rw [HWT.out, show stepW f (wantF f (fs.take i)) gg = wantF f (fs.take i) by unfold stepW; rw [HKQ.out, HPV.out]; rfl]
                    exact HR27.out.1
                case measure => simp [RowKit.intOf]; have := HH1.out; omega
          · obtain rfl : i = n := by omega
            have h1d : decide (i < i) = false := by simp
            have htk : fs.take i = fs := List.take_of_length_le (by rw [HN.out]; omega)
            rw [htk] at HS ⊢
            obtain ⟨WB, hWB⟩ : ∃ z : World, z = wr := ⟨_, rfl⟩
            subst hWB
            have HLW := add_law (fun x hx => (HLG.out x hx).2) HFG.out.2 HV.out H5.out.2.1 HC.out.2.1 H5.out.2.2.1 HC.out.2.2.1
            have hbB : Below W7.heap.size W7 WB := by rw [HN4.out]; exact HS.out.2.2
            obtain ⟨wf, hwf⟩ : ∃ z, wantF f fs = z := ⟨_, rfl⟩
            rw [hwf] at HLW HS
            obtain ⟨cw, hcw⟩ : ∃ z, wf.cells = z := ⟨_, rfl⟩
            have HCW := Lib.hid hcw
            have HCWI : Hid ((Try.prog.info? 29).map (·.size) = some cw.size) := Lib.hid (by rw [← hcw]; exact fact_size)
            have HFND := Lib.hid HLW.1
            have HKLEN : Hid (k = if knownF f fs = true then i else i + 1) := Lib.hid (by rw [← HK.out, HLW.2.1, HN.out])
            have HOTH := Lib.hid HLW.2.2
            rw [hcw] at HS
            have HB10 : Hid (RowAt WB N4 29 cw ∧ RowAt WB N 29 cf ∧ FactsAt WB (.slice A13 k c13) gs ∧ Below w.heap.size w WB ∧ FactsAt WB u16 (otherK f fs)) := Lib.hid ⟨HS.out.2.1, H7.out.1.below hbB H7.out.1.lt, H7.out.2.2.1.more hbB, H7.out.2.2.2.trans (hbB.mono H7.out.2.2.2.size), HS.out.1.facts⟩
            have HOKG : Hid (∀ g ∈ gs, FactOk g) := Lib.hid (fun g hg => HOKF.out g (best_in (fun x hx => (List.mem_append.1 hx).elim (fun h => (HLG.out x h).2) (fun h => by rw [List.mem_singleton.1 h]; exact HFG.out.2)) (HC.out.2.1.mem_iff.1 hg)))
            obtain ⟨A16, m16, c16, rfl⟩ := own_slice HS.out.1
            clear HLW hbB hwf hcw htk HLST HROW HOKL
            go_wp2_with fail
            go_loopw [18, 19, 20] (fun v18 v19 v20 wr => ∃ j : Nat, v20 = .int .i64 j ∧ j ≤ k ∧ v19 = .bool (foundF f wf (gs.take j)) ∧ Hid (OwnF wr WB.heap.size v18 (otherK f (gs.take j)) ∧ Below WB.heap.size WB wr)) (fun _ _ v20 _ => k - (RowKit.intOf v20).toNat)
            case atStart => exact ⟨0, rfl, by omega, rfl, Lib.hid ⟨OwnF.nil _ _, Below.refl _ _⟩⟩
            case round =>
              obtain ⟨j, rfl, hj, rfl, HS⟩ := hrel
              have HLST : Hid (FactsAt WB (.slice A13 k c13) gs) := Lib.hid HB10.out.2.2.1
              have HROW : Hid (RowAt WB N 29 cf) := Lib.hid HB10.out.2.1
              have HOKL := HOKG
              by_cases h1 : j < k
              · have h1d : decide (j < k) = true := by simpa using h1
                obtain ⟨gg, hgg⟩ : ∃ x, gs[j]? = some x := ⟨_, List.getElem?_eq_getElem (by have := HK.out; omega)⟩
                have HFT := Lib.hid (found_take (f := f) (w := wf) hgg)
                have HOT := Lib.hid (other_take (f := f) hgg)
                have hbW : Below WB.heap.size WB wr := HS.out.2
                obtain ⟨b, o, rfl, hlt, hcell⟩ := (HLST.out.more hbW).get hgg
                have HXR : Hid (RowAt wr N 29 cf) := Lib.hid (HROW.out.below hbW HROW.out.lt)
                have HCGI : Hid ((Try.prog.info? 29).map (·.size) = some gg.cells.size ∧ gg.cells.all (·.oneCell') = true) := Lib.hid ⟨fact_size, gg.cells_one⟩
                have HGO : Hid (FactOk gg) := Lib.hid (HOKL.out gg (List.mem_of_getElem? hgg))
                have KG := Lib.hid (fun W => key_any gg W (HGO.out 0).1 (HGO.out 0).2)
                have KF := Lib.hid (fun W => key_any f W (HFG.out.1 0).1 (HFG.out.1 0).2)
                unfold keyV at KG KF
                have HEK := Lib.hid (eq_key (gg.n 0) (key2 gg).1 (key2 gg).2 (f.n 0) (key2 f).1 (key2 f).2)
                obtain ⟨kq, hkq⟩ : ∃ z, keyEq gg f = z := ⟨_, rfl⟩
                have hq2 : (gg.n 0 == f.n 0 && ((key2 gg).1 == (key2 f).1 && (key2 gg).2 == (key2 f).2)) = kq := hkq
                simp only [hq2] at HEK
                obtain ⟨x0, hx0⟩ : ∃ z, gg.n 0 = z := ⟨_, rfl⟩
                obtain ⟨x1, hx1⟩ : ∃ z, (key2 gg).1 = z := ⟨_, rfl⟩
                obtain ⟨x2, hx2⟩ : ∃ z, (key2 gg).2 = z := ⟨_, rfl⟩
                obtain ⟨z0, hz0⟩ : ∃ z, f.n 0 = z := ⟨_, rfl⟩
                obtain ⟨z1, hz1⟩ : ∃ z, (key2 f).1 = z := ⟨_, rfl⟩
                obtain ⟨z2, hz2⟩ : ∃ z, (key2 f).2 = z := ⟨_, rfl⟩
                simp only [hx0, hx1, hx2] at KG HEK
                simp only [hz0, hz1, hz2] at KF HEK
                have HKQ := Lib.hid hkq
                obtain ⟨cgg, hcgg⟩ : ∃ z, gg.cells = z := ⟨_, rfl⟩
                have HCG2 := Lib.hid hcgg
                rw [hcgg] at hcell
                simp only [hcgg] at KG HCGI
                simp only [HCF.out] at KF
                have HC1 : Hid (∀ W, Below wr.heap.size wr W → ∀ j2 x, cgg[j2]? = some x → W.cell? ⟨b, o + j * 18 + j2, none⟩ = some x) := Lib.hid (fun W hW j2 x hx => (hW.cell (p := ⟨b, o + j * 18 + j2, none⟩) hlt).trans (hcell j2 x hx))
                have HGG := Lib.hid hgg
                have HH1 := Lib.hid h1
                have HCGI : Hid ((Try.prog.info? 29).map (·.size) = some cgg.size) := Lib.hid HCGI.out.1
                have SM := Lib.hid (fun W => fsame_any gg wf W)
                simp only [hcgg, HCW.out] at SM
                obtain ⟨sv, hsv⟩ : ∃ z, sameF gg wf = z := ⟨_, rfl⟩
                simp only [hsv] at SM
                have HSV := Lib.hid hsv
                obtain ⟨fd, hfd⟩ : ∃ z, foundF f wf (gs.take j) = z := ⟨_, rfl⟩
                rw [hfd] at HFT ⊢
                have HXN : Hid (RowAt wr N4 29 cw) := Lib.hid (HB10.out.1.below HS.out.2 HB10.out.1.lt)
                have HLO : Hid ((otherK f (gs.take j)).length ≤ 1000000) := Lib.hid (by
                  have h1 : (otherK f (gs.take j)).length ≤ (gs.take j).length := List.length_filter_le _ _
                  rw [List.length_take] at h1
                  omega)
                have HSZ : Hid (WB.heap.size ≤ wr.heap.size) := Lib.hid HS.out.2.size
                clear hgg hcell hlt hbW hkq hq2 hx0 hx1 hx2 hz0 hz1 hz2 hcgg hsv hfd
                go_wp2_with fail
                refine wp_region_held_drew (S := fun W => Below wr.heap.size wr W) (by kernel_rfl) (Below.refl _ _).drew (fun hHeld => ?_)
                refine wpAnyH_take (i := 0) (oi := ⟨_, _, _, _, _, _⟩) (v := ?_) rfl (by kernel_rfl) (by kernel_rfl) (by kernel_rfl) (fun _ _ _ h => h) (Or.inl ⟨by rfl, ?_⟩) (by assumption) ?_
                rotate_left
                · intro w hSw
                  go_simp
                  all_goals with_reducible rfl
                simp only [Act.put, List.setIfInBounds_toArray, List.set_cons_zero, List.set_cons_succ]
                refine wpAnyH_take (i := 1) (oi := ⟨_, _, _, _, _, _⟩) (v := ?_) rfl (by kernel_rfl) (by kernel_rfl) (by kernel_rfl) (fun _ _ _ h => h) (Or.inl ⟨by rfl, ?_⟩) (by assumption) ?_
                rotate_left
                · intro w hSw
                  go_simp
                  all_goals with_reducible rfl
                simp only [Act.put, List.setIfInBounds_toArray, List.set_cons_zero, List.set_cons_succ]
                refine wpAnyH_take (i := 5) (oi := ⟨_, _, _, _, _, _⟩) rfl (by kernel_rfl) (by kernel_rfl) (by kernel_rfl) (fun _ _ _ h => h) (yields_at 29 (.tmp 11) N (0) cf _ (fun W hW j2 x hx => by rw [Nat.zero_add, (HXR.out.below hW HXR.out.lt).cell]; exact hx) Try.underlying29 (by rfl) rfl rfl rfl HCI.out) (by assumption) ?_
                simp only [Act.put, List.setIfInBounds_toArray, List.set_cons_zero, List.set_cons_succ]
                refine wpAnyH_take (i := 2) (oi := ⟨_, _, _, _, _, _⟩) (v := ?_) rfl (by kernel_rfl) (by kernel_rfl) (by kernel_rfl) (fun _ _ _ h => h) (Or.inl ⟨by rfl, ?_⟩) (by assumption) ?_
                rotate_left
                · intro w hSw
                  go_simp
                  all_goals with_reducible rfl
                simp only [Act.put, List.setIfInBounds_toArray, List.set_cons_zero, List.set_cons_succ]
                refine wpAnyH_take (i := 3) (oi := ⟨_, _, _, _, _, _⟩) rfl (by kernel_rfl) (by kernel_rfl) (by kernel_rfl) (fun _ _ _ h => h) (yields_at 29 (.tmp 90) b (o + j * 18) cgg _ (fun W hW j2 x hx => HC1.out W hW j2 x hx) Try.underlying29 (by rfl) rfl rfl rfl HCGI.out) (by assumption) ?_
                simp only [Act.put, List.setIfInBounds_toArray, List.set_cons_zero, List.set_cons_succ]
                refine wpAnyH_ready (rs := [4]) (by kernel_rfl) (by simp) ?_
                refine AllReadyH.cons (o := ⟨_, _, _, _, _, _⟩) rfl (fun K hK => ?_) AllReadyH.nil
                go_simp
                go_at_call 16
                refine (KG.out _).mono ?_
                rintro e W25 ⟨rfl, hb25⟩
                have HB25 : Hid (Below wr.heap.size wr W25) := Lib.hid ((Below.refl wr.heap.size wr).drew.trans (hb25.mono (Below.refl wr.heap.size wr).drew.size))
                clear hb25
                go_wp2_with fail
                refine hK.out _ _ HB25.out (fun hHeld => ?_)
                clear hK K
                try simp only [Act.put, List.setIfInBounds_toArray, List.set_cons_zero, List.set_cons_succ]
                refine wpAnyH_ready (rs := [6]) (by kernel_rfl) (by simp) ?_
                refine AllReadyH.cons (o := ⟨_, _, _, _, _, _⟩) rfl (fun K hK => ?_) AllReadyH.nil
                go_simp
                go_at_call 16
                refine (KF.out _).mono ?_
                rintro e W26 ⟨rfl, hb26⟩
                have HB26 : Hid (Below wr.heap.size wr W26) := Lib.hid (HB25.out.trans (hb26.mono HB25.out.size))
                clear hb26
                go_wp2_with fail
                refine hK.out _ _ HB26.out (fun hHeld => ?_)
                clear hK K
                try simp only [Act.put, List.setIfInBounds_toArray, List.set_cons_zero, List.set_cons_succ]
                refine wpAnyH_take (i := 7) (oi := ⟨_, _, _, _, _, _⟩) (v := ?_) rfl (by kernel_rfl) (by kernel_rfl) (by kernel_rfl) (fun _ _ _ h => h) (Or.inl ⟨by rfl, ?_⟩) (by assumption) ?_
                rotate_left
                · intro w hSw
                  have hek := HEK.out w
                  go_simp
                  all_goals with_reducible rfl
                simp only [Act.put, List.setIfInBounds_toArray, List.set_cons_zero, List.set_cons_succ]
                refine wpAnyH_done (by kernel_rfl) ?_ _
                cases kq
                · rw [HKQ.out] at HOT
                  have HC26 : Hid (∀ j2 x, cgg[j2]? = some x → W26.cell? ⟨b, o + j * 18 + j2, none⟩ = some x) := Lib.hid (fun j2 x hx => HC1.out W26 HB26.out j2 x hx)
                  have HA26 : Hid (Below wr.heap.size wr (W26.alloc (.cells cgg 29))) := Lib.hid (HB26.out.alloc HB26.out.size _)
                  have HO26 : Hid (OwnF (W26.alloc (.cells cgg 29)) (WB.heap.size) u18 (otherK f (gs.take j)) ∧ (otherK f (gs.take j)).length ≤ 1000000 ∧ WB.heap.size ≤ (W26.alloc (.cells cgg 29)).heap.size ∧ ∀ (j2 : Nat) u, gg.cells.toList[j2]? = some u → (W26.alloc (.cells cgg 29)).cell? ((⟨W26.heap.size, 0, none⟩ : Addr).add j2) = some u) := Lib.hid ⟨HS.out.1.below HA26.out, HLO.out, Nat.le_trans HSZ.out HA26.out.size, by rw [← HCG2.out]; exact fact_new W26 gg _⟩
                  have HBB : Hid (Below WB.heap.size WB (W26.alloc (.cells cgg 29))) := Lib.hid (HS.out.2.trans (HA26.out.mono HSZ.out))
                  go_wp2_with (first | ((with_reducible refine load_at (o := ⟨some 100, _, _, _, _, _⟩) (.tmp 99) b (o + j * 18) cgg HC26.out HCGI.out ?_ ?_ ?_ ?_); rfl; rfl; rfl) | ((with_reducible refine build_fact (o := ⟨some 101, _, _, _, _, _⟩) (.tmp 100) cgg gg HCG2.out ?_ ?_ ?_ ?_); rfl; rfl; rfl) | ((with_reducible refine append_fact (o := ⟨some 102, _, _, _, _, _⟩) (.tmp 96) (.tmp 101) (WB.heap.size) (otherK f (gs.take j)) gg W26.heap.size u18 HO26.out.1 HO26.out.2.1 HO26.out.2.2.1 HO26.out.2.2.2 ?_ ?_ ?_ ?_ ?_); rfl; rfl; rfl; rfl; intro v28 W28 hown28 hbl28; have H28 := Lib.hid (And.intro hown28 hbl28); clear hown28 hbl28))
                  go_roundw
                  case rel =>
                    refine ⟨j + 1, by go_num, by have := HH1.out; omega, by rw [HFT.out]; unfold stepFo; rw [HKQ.out]; rfl, Lib.hid ⟨by rw [HOT.out]; exact H28.out.1, HBB.out.trans H28.out.2⟩⟩
                  case measure => simp [RowKit.intOf]; have := HH1.out; omega
                · rw [HKQ.out] at HOT
                  go_wp2_with fail
                  refine wp_region_held_drew (S := fun W => Below W26.heap.size W26 W) (by kernel_rfl) (Below.refl _ _).drew (fun hHeld => ?_)
                  refine wpAnyH_take (i := 0) (oi := ⟨_, _, _, _, _, _⟩) (v := ?_) rfl (by kernel_rfl) (by kernel_rfl) (by kernel_rfl) (fun _ _ _ h => h) (Or.inl ⟨by rfl, ?_⟩) (by assumption) ?_
                  rotate_left
                  · intro w hSw
                    go_simp
                    all_goals with_reducible rfl
                  simp only [Act.put, List.setIfInBounds_toArray, List.set_cons_zero, List.set_cons_succ]
                  refine wpAnyH_take (i := 1) (oi := ⟨_, _, _, _, _, _⟩) (v := ?_) rfl (by kernel_rfl) (by kernel_rfl) (by kernel_rfl) (fun _ _ _ h => h) (Or.inl ⟨by rfl, ?_⟩) (by assumption) ?_
                  rotate_left
                  · intro w hSw
                    go_simp
                    all_goals with_reducible rfl
                  simp only [Act.put, List.setIfInBounds_toArray, List.set_cons_zero, List.set_cons_succ]
                  refine wpAnyH_take (i := 4) (oi := ⟨_, _, _, _, _, _⟩) rfl (by kernel_rfl) (by kernel_rfl) (by kernel_rfl) (fun _ _ _ h => h) (yields_at 29 (.tmp 14) N4 (0) cw _ (fun W hW j2 x hx => by rw [Nat.zero_add, ((HXN.out.below HB26.out HXN.out.lt).below hW (Nat.lt_of_lt_of_le HXN.out.lt HB26.out.size)).cell]; exact hx) Try.underlying29 (by rfl) rfl rfl rfl HCWI.out) (by assumption) ?_
                  simp only [Act.put, List.setIfInBounds_toArray, List.set_cons_zero, List.set_cons_succ]
                  refine wpAnyH_take (i := 2) (oi := ⟨_, _, _, _, _, _⟩) (v := ?_) rfl (by kernel_rfl) (by kernel_rfl) (by kernel_rfl) (fun _ _ _ h => h) (Or.inl ⟨by rfl, ?_⟩) (by assumption) ?_
                  rotate_left
                  · intro w hSw
                    go_simp
                    all_goals with_reducible rfl
                  simp only [Act.put, List.setIfInBounds_toArray, List.set_cons_zero, List.set_cons_succ]
                  refine wpAnyH_take (i := 3) (oi := ⟨_, _, _, _, _, _⟩) rfl (by kernel_rfl) (by kernel_rfl) (by kernel_rfl) (fun _ _ _ h => h) (yields_at 29 (.tmp 105) b (o + j * 18) cgg _ (fun W hW j2 x hx => HC1.out W (HB26.out.trans (hW.mono HB26.out.size)) j2 x hx) Try.underlying29 (by rfl) rfl rfl rfl HCGI.out) (by assumption) ?_
                  simp only [Act.put, List.setIfInBounds_toArray, List.set_cons_zero, List.set_cons_succ]
                  refine wpAnyH_ready (rs := [5]) (by kernel_rfl) (by simp) ?_
                  refine AllReadyH.cons (o := ⟨_, _, _, _, _, _⟩) rfl (fun K hK => ?_) AllReadyH.nil
                  go_simp
                  go_at_call 18
                  refine (SM.out _).mono ?_
                  rintro e W27 ⟨rfl, hb27⟩
                  have HB27 : Hid (Below W26.heap.size W26 W27) := Lib.hid ((Below.refl W26.heap.size W26).drew.trans (hb27.mono (Below.refl W26.heap.size W26).drew.size))
                  clear hb27
                  go_wp2_with fail
                  refine hK.out _ _ HB27.out (fun hHeld => ?_)
                  clear hK K
                  try simp only [Act.put, List.setIfInBounds_toArray, List.set_cons_zero, List.set_cons_succ]
                  refine wpAnyH_ready (rs := [6]) (by kernel_rfl) (by simp) ?_
                  refine AllReadyH.cons (o := ⟨_, _, _, _, _, _⟩) rfl (fun K hK => ?_) AllReadyH.nil
                  go_simp
                  refine hK.out _ _ HB27.out (fun hHeld => ?_)
                  clear hK K
                  try simp only [Act.put, List.setIfInBounds_toArray, List.set_cons_zero, List.set_cons_succ]
                  refine wpAnyH_done (by kernel_rfl) ?_ _
                  have HB28 : Hid (Below wr.heap.size wr W27) := Lib.hid (HB26.out.trans (HB27.out.mono HB26.out.size))
                  go_wp2_with fail
                  go_roundw
                  case rel =>
                    refine ⟨j + 1, by go_num, by have := HH1.out; omega, by rw [HFT.out]; unfold stepFo; rw [HKQ.out, HSV.out]; rfl, Lib.hid ⟨?_, HS.out.2.trans (HB28.out.mono HSZ.out)⟩⟩
                    rw [HOT.out]
                    simp only [if_true, List.append_nil]
                    exact HS.out.1.below HB28.out
                  case measure => simp [RowKit.intOf]; have := HH1.out; omega
              · obtain rfl : j = k := by omega
                have h1d : decide (j < j) = false := by simp
                have htk2 : gs.take j = gs := List.take_of_length_le (by rw [HK.out]; omega)
                rw [htk2, HFND.out]
                rw [htk2] at HS
                have H11 : Hid (FactsAt wr u18 (otherK f gs) ∧ FactsAt wr (.slice A16 m16 c16) (otherK f fs) ∧ Below w.heap.size w wr) := Lib.hid ⟨HS.out.1.facts, HB10.out.2.2.2.2.more HS.out.2, HB10.out.2.2.2.1.trans (HS.out.2.mono HB10.out.2.2.2.1.size)⟩
                obtain ⟨A18, m18, c18, rfl⟩ := own_slice HS.out.1
                have HSM := Lib.hid (samefacts_any (otherK f fs) (otherK f gs) (.slice A16 m16 c16) (.slice A18 m18 c18) wr (Nat.le_trans (List.length_filter_le _ _) (by rw [HN.out]; omega)) (Nat.le_trans (List.length_filter_le _ _) (by rw [HK.out]; omega)) H11.out.2.1 H11.out.1)
                rw [HOTH.out, sameL_refl] at HSM
                cases hkn : knownF f fs
                · have hlen : ((j : Int) == (i : Int) + 1) = true := by have h := HKLEN.out; rw [hkn] at h; simp at h; simp; omega
                  clear hkn
                  go_wp2_with fail
                  refine HSM.out.mono ?_
                  rintro e W30 ⟨rfl, hb30⟩
                  have H30 := Lib.hid (H11.out.2.2.trans (hb30.mono H11.out.2.2.size))
                  clear hb30
                  go_wp2_with fail
                  go_ret
                  exact ⟨rfl, H30.out⟩
                · have hlen : j = i := by have h := HKLEN.out; rw [hkn] at h; simpa using h
                  subst hlen
                  clear hkn
                  go_wp2_with fail
                  refine HSM.out.mono ?_
                  rintro e W30 ⟨rfl, hb30⟩
                  have H30 := Lib.hid (H11.out.2.2.trans (hb30.mono H11.out.2.2.size))
                  clear hb30
                  go_wp2_with fail
                  go_ret
                  exact ⟨rfl, H30.out⟩
end Go.Proofs.Ytgjajhopjcdflaa
