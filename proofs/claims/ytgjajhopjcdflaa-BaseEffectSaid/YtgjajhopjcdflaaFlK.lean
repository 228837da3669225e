/- BaseEffect: the walk. -/
import Derived.Test.YtgjajhopjcdflaaFlL
import Derived.Test.YtgjajhopjcdflaaFpE
import Derived.Deep.CutRange
namespace Go.Proofs.Ytgjajhopjcdflaa
open Go Go.RowKit Go.Lib Go.Shelf Go.Maps

theorem factsL_ver (X : Nat → Nat → Int) : ∀ i, ∀ f ∈ factsL X [] i, f.n 2 ≤ 4
  | 0, f, hf => by simp [factsL] at hf
  | i + 1, f, hf => by
    simp only [factsL, List.mem_append, List.mem_singleton] at hf
    rcases hf with (hf | rfl) | hf
    · exact factsL_ver X i f hf
    · exact make_version _
    · split at hf <;> simp at hf
abbrev z18e : Array Value := #[.int .i64 0, .int .i64 0, .int .i64 0, .int .i64 0, .int .i64 0, .int .i64 0, .int .i64 0, .int .i64 0, .int .i64 0, .int .i64 0, .int .i64 0, .int .i64 0, .int .i64 0, .int .i64 0, .int .i64 0, .int .i64 0, .int .i64 0, .string ⟨#[]⟩]
/-- the worlds behind the two bases -/
structure EffW (w : World) (N NA NB : Nat) (cf ba bb : Array Value) (fs gs : List FactV) (W : World) : Prop where
  rowF : RowAt W N 29 cf
  rowA : RowAt W NA 32 ba
  rowB : RowAt W NB 32 bb
  ra : BaseR W ba (fun q => fs.filter (kindF q))
  rb : BaseR W bb (fun q => gs.filter (kindF q))
  below : Below w.heap.size w W
theorem EffW.more {w W W' : World} {N NA NB : Nat} {cf ba bb : Array Value} {fs gs : List FactV} (h : EffW w N NA NB cf ba bb fs gs W) (hb : Below W.heap.size W W') : EffW w N NA NB cf ba bb fs gs W' :=
  ⟨h.rowF.below hb h.rowF.lt, h.rowA.below hb h.rowA.lt, h.rowB.below hb h.rowB.lt, h.ra.more hb, h.rb.more hb, h.below.trans (hb.mono h.below.size)⟩
set_option linter.unusedSimpArgs false in
set_option maxRecDepth 100000 in
set_option maxHeartbeats 30000000 in
theorem effect_yes (X0 : Nat → Nat → Int) (m : Nat) (vx : Value) (x : Nat → Int) (p : Int) (w : World) (hm : m ≤ 140737488351232) (hx : XsAt w vx m X0) (hx6 : ∀ j, -9223372036854775808 ≤ x j ∧ x j ≤ 9223372036854775807) (hp1 : -9223372036854775808 ≤ p) (hp2 : p ≤ 9223372036854775807) :
    Calls Try.prog 6 #[vx, six x, .int .i64 p] w fun e w' => e = .returned (.bool true) ∧ Below w.heap.size w w' := by
  obtain ⟨L, hL⟩ : ∃ z, factsL X0 [] (min m 50) = z := ⟨_, rfl⟩
  have HLL : Hid (L.length ≤ 100) := Lib.hid (by have := factsL_len X0 [] (min m 50); rw [hL] at this; omega)
  have HLG : Hid (∀ f ∈ L, FactOk f ∧ Canon f) := Lib.hid (by rw [← hL]; exact factsL_good X0 [] (by simp) _)
  have HLV : Hid (∀ f ∈ L, Canon f ∧ f.n 2 ≤ 4) := Lib.hid (fun f hf => ⟨(HLG.out f hf).2, factsL_ver X0 _ f (by rw [hL]; exact hf)⟩)
  have HFX : Hid (∀ W, Below w.heap.size w W → Calls Try.prog 8 #[vx, .slice none 0 0] W fun e w' => ∃ v, e = .returned v ∧ OwnF w' W.heap.size v L ∧ Below W.heap.size W w') := Lib.hid (fun W hb => by
    have h := facts_any X0 [] m vx (.slice none 0 0) W hm (hx.more hb) (.inl ⟨rfl, none, 0, rfl⟩)
    rw [hL] at h
    exact h)
  obtain ⟨x', hx'⟩ : ∃ z : Nat → Int, (fun j => if j = 3 then (3 : Int) else x j) = z := ⟨_, rfl⟩
  have HMK : Hid (∀ W, Calls Try.prog 13 #[.agg #[.int .i64 (x 0), .int .i64 (x 1), .int .i64 (x 2), .int .i64 3, .int .i64 (x 4), .int .i64 (x 5)]] W fun e w' => e = .returned (.agg (makeX x').cells) ∧ Below W.heap.size W w') := Lib.hid (fun W => by
    have h := make_any x' W (fun j => by
      rw [← hx']
      show -9223372036854775808 ≤ (if j = 3 then (3 : Int) else x j) ∧ (if j = 3 then (3 : Int) else x j) ≤ 9223372036854775807
      split
      · omega
      · exact hx6 j)
    subst hx'
    exact h)
  have HG := Lib.hid (makeX_good x')
  have HKD : Hid (∃ k : Nat, 1 ≤ k ∧ k ≤ 10 ∧ (makeX x').n 0 = (k : Int)) := Lib.hid (by
    have b0 := pickN_bd (x' 0) 10 (by omega)
    refine ⟨1 + (pickN (x' 0) 10).toNat, by omega, by omega, ?_⟩
    unfold makeX
    exact makeF_kind _ _ _ _ _ _ (by omega) (by omega))
  have HVV := Lib.hid (ver_valid x')
  obtain ⟨g, hg⟩ : ∃ z, makeX x' = z := ⟨_, rfl⟩
  rw [hg] at HG HKD HVV
  simp only [hg] at HMK
  have HPK := Lib.hid (fun W => pick_any p 8 W hp1 hp2 (by omega) (by omega))
  have q1 := pickN_bd p 8 (by omega)
  obtain ⟨q, hq⟩ : ∃ z : Nat, pickN p 8 = (z : Int) := ⟨(pickN p 8).toNat, by omega⟩
  rw [hq] at HPK q1
  have hq8 : q < 8 := by omega
  obtain ⟨cg, hcg⟩ : ∃ z, g.cells = z := ⟨_, rfl⟩
  have HCG := Lib.hid hcg
  simp only [hcg] at HMK
  have HGI : Hid ((Try.prog.info? 29).map (·.size) = some cg.size ∧ cg.all (·.oneCell') = true ∧ z18e.size = cg.size) := Lib.hid ⟨by rw [← hcg]; exact fact_size, by rw [← hcg]; exact g.cells_one, by rw [← hcg]; rfl⟩
  obtain ⟨f, hf⟩ : ∃ z, verF g = z := ⟨_, rfl⟩
  have HFV := Lib.hid hf
  obtain ⟨cf, hcf⟩ : ∃ z, f.cells = z := ⟨_, rfl⟩
  have HCF := Lib.hid hcf
  have HCI : Hid ((Try.prog.info? 29).map (·.size) = some cf.size) := Lib.hid (by rw [← hcf]; exact fact_size)
  obtain ⟨y0, e0⟩ : ∃ z, x 0 = z := ⟨_, rfl⟩
  obtain ⟨y1, e1⟩ : ∃ z, x 1 = z := ⟨_, rfl⟩
  obtain ⟨y2, e2⟩ : ∃ z, x 2 = z := ⟨_, rfl⟩
  obtain ⟨y3, e3⟩ : ∃ z, x 3 = z := ⟨_, rfl⟩
  obtain ⟨y4, e4⟩ : ∃ z, x 4 = z := ⟨_, rfl⟩
  obtain ⟨y5, e5⟩ : ∃ z, x 5 = z := ⟨_, rfl⟩
  unfold six
  rw [e0, e1, e2, e3, e4, e5]
  rw [e0, e1, e2, e4, e5] at HMK
  have hr0 := RowAt.new w 37 #[.int .i64 y0, .int .i64 y1, .int .i64 y2, .int .i64 y3, .int .i64 y4, .int .i64 y5]
  have HR0 := Lib.hid hr0
  have HB0 : Hid (Below w.heap.size w (w.alloc (.cells #[.int .i64 y0, .int .i64 y1, .int .i64 y2, .int .i64 y3, .int .i64 y4, .int .i64 y5] 37))) := Lib.hid ((Below.refl _ _).alloc (Nat.le_refl _) _)
  clear hm hx hx6 hp1 hp2 hL hx' hg hq q1 hcg hf hcf e0 e1 e2 e3 e4 e5 hr0
  go_enter Try.func6, Try.ntmps6
  go_wp2_with fail
  refine (sane_yes _).mono ?_
  rintro e W1 ⟨rfl, hb1⟩
  have H1 : Hid (Below w.heap.size w W1 ∧ RowAt W1 w.heap.size 37 #[.int .i64 y0, .int .i64 y1, .int .i64 y2, .int .i64 y3, .int .i64 y4, .int .i64 y5]) := Lib.hid ⟨HB0.out.trans (hb1.mono HB0.out.size), HR0.out.below hb1 HR0.out.lt⟩
  clear hb1
  go_wp2_with fail
  refine (HFX.out W1 H1.out.1).mono ?_
  rintro e W2 ⟨v8, rfl, ho8, hb2⟩
  have hr2 := H1.out.2.below hb2 H1.out.2.lt
  have H2 : Hid (FactsAt W2 v8 L ∧ Below w.heap.size w W2 ∧ RowAt W2 w.heap.size 37 #[.int .i64 y0, .int .i64 y1, .int .i64 y2, .int .i64 y3, .int .i64 y4, .int .i64 y5]) := Lib.hid ⟨ho8.facts, H1.out.1.trans (hb2.mono H1.out.1.size), hr2⟩
  obtain ⟨A8, m8, c8, rfl⟩ := own_slice ho8
  have hcc : W2.cell? ⟨w.heap.size, 3, none⟩ = some (.int .i64 y3) := by rw [hr2.cell]; rfl
  have hff : W2.frozen? ⟨w.heap.size, 3, none⟩ = false := hr2.free 3
  have hr3 := hr2.set 3 (.int .i64 3)
  have c0 : (W2.setCell ⟨w.heap.size, 3, none⟩ (.int .i64 3)).cell? ⟨w.heap.size, 0, none⟩ = some (.int .i64 y0) := by rw [hr3.cell]; rfl
  have c1 : (W2.setCell ⟨w.heap.size, 3, none⟩ (.int .i64 3)).cell? ⟨w.heap.size, 1, none⟩ = some (.int .i64 y1) := by rw [hr3.cell]; rfl
  have c2 : (W2.setCell ⟨w.heap.size, 3, none⟩ (.int .i64 3)).cell? ⟨w.heap.size, 2, none⟩ = some (.int .i64 y2) := by rw [hr3.cell]; rfl
  have c3 : (W2.setCell ⟨w.heap.size, 3, none⟩ (.int .i64 3)).cell? ⟨w.heap.size, 3, none⟩ = some (.int .i64 3) := by rw [hr3.cell]; rfl
  have c4 : (W2.setCell ⟨w.heap.size, 3, none⟩ (.int .i64 3)).cell? ⟨w.heap.size, 4, none⟩ = some (.int .i64 y4) := by rw [hr3.cell]; rfl
  have c5 : (W2.setCell ⟨w.heap.size, 3, none⟩ (.int .i64 3)).cell? ⟨w.heap.size, 5, none⟩ = some (.int .i64 y5) := by rw [hr3.cell]; rfl
  have HS2 : Hid (FactsAt (W2.setCell ⟨w.heap.size, 3, none⟩ (.int .i64 3)) (.slice A8 m8 c8) L ∧ Below w.heap.size w (W2.setCell ⟨w.heap.size, 3, none⟩ (.int .i64 3))) := Lib.hid ⟨by
    have h : OwnF (W2.setCell ⟨w.heap.size, 3, none⟩ (.int .i64 3)) _ _ L := owns_far ho8 hr2 (by decide) _
    exact h.facts, H2.out.2.1.setCell (Nat.le_refl _) _⟩
  clear ho8 hb2 hr2 hr3
  go_wp2_with fail
  refine (HMK.out _).mono ?_
  rintro e W3 ⟨rfl, hb3⟩
  have H3 : Hid (FactsAt W3 (.slice A8 m8 c8) L ∧ Below w.heap.size w W3) := Lib.hid ⟨HS2.out.1.more hb3, HS2.out.2.trans (hb3.mono HS2.out.2.size)⟩
  clear hb3 c0 c1 c2 c3 c4 c5 hcc hff
  have hr4 := RowAt.new W3 29 cg
  have hcc : (W3.alloc (.cells cg 29)).cell? ⟨W3.heap.size, 2, none⟩ = some (.int .i64 (g.n 2)) := by rw [hr4.cell, ← HCG.out]; rfl
  have hff : (W3.alloc (.cells cg 29)).frozen? ⟨W3.heap.size, 2, none⟩ = false := hr4.free 2
  have HE : Hid (cg.setIfInBounds 2 (.int .i64 900) = cf) := Lib.hid (by rw [← HCG.out, ver_cells, HFV.out, HCF.out])
  have hr5 := RowAt.new W3 29 cf
  have hb5 := (Below.refl W3.heap.size W3).alloc (Nat.le_refl _) (.cells cf 29)
  obtain ⟨W4, hW4⟩ : ∃ z, W3.alloc (.cells cf 29) = z := ⟨_, rfl⟩
  rw [hW4] at hr5 hb5
  have HR5 := Lib.hid hr5
  have HB5 := Lib.hid hb5
  have HW4 := Lib.hid hW4
  clear hr4 hr5 hb5 hW4
  go_wp2_with (first | ((with_reducible refine store_cs (o := ⟨none, _, _, _, _, _⟩) (.tmp 9) (.tmp 33) W3.heap.size rfl _ cg HGI.out.1 HGI.out.2.1 HGI.out.2.2 ?_ ?_ ?_ ?_ ?_); rfl; rfl; rfl; rfl))
  rw [HE.out, HW4.out]
  clear hcc hff
  obtain ⟨N, hN⟩ : ∃ z, W3.heap.size = z := ⟨_, rfl⟩
  rw [hN] at HR5 HB5 ⊢
  have H4 : Hid (FactsAt W4 (.slice A8 m8 c8) L ∧ Below w.heap.size w W4 ∧ RowAt W4 N 29 cf) := Lib.hid ⟨H3.out.1.more (by rw [hN]; exact HB5.out), H3.out.2.trans (HB5.out.mono (by rw [← hN]; exact H3.out.2.size)), HR5.out⟩
  clear HW4 hN
  refine (HPK.out _).mono ?_
  rintro e w' ⟨rfl, rfl⟩
  obtain ⟨k, hk1, hk10, hkg⟩ := HKD.out
  have hk0 : f.n 0 = (k : Int) := by rw [← HFV.out]; exact hkg
  have HK0 := Lib.hid hk0
  have hck : W4.cell? ⟨N, 0, none⟩ = some (.int .i64 (k : Int)) := by rw [HR5.out.cell, ← HCF.out, cells_get f 0 (by omega), hk0]
  by_cases hkk : k = 4 ∨ k = 9 ∨ k = 10
  · have HKK := Lib.hid hkk
    go_upto_region 7 with fail
    go_cut [49] from 37 to 50 (fun v49 wx => v49 = .bool false ∧ wx = W4)
    case first =>
      rcases hkk with rfl | rfl | rfl
      all_goals
        go_wp2_with fail
        go_meet
        case rel => exact ⟨rfl, rfl⟩
    case rest =>
      obtain ⟨rfl, rfl⟩ := hcut
      have HVF : Hid (validB f = true) := Lib.hid (by
        rw [← HFV.out]
        refine HVV.out ?_
        rcases HKK.out with rfl | rfl | rfl
        · exact .inl (by have h := HK0.out; rw [← HFV.out] at h; exact h)
        · exact .inr (.inl (by have h := HK0.out; rw [← HFV.out] at h; exact h))
        · exact .inr (.inr (by have h := HK0.out; rw [← HFV.out] at h; exact h)))
      have HFG : Hid (FactOk f ∧ Canon f ∧ f.n 2 = 900) := Lib.hid (by rw [← HFV.out]; exact ⟨ver_ok HG.out.1, ver_canon HG.out.2, rfl⟩)
      clear hck hkk
      go_wp2_with fail
      refine (of_any L _ wc (by have := HLL.out; omega) (fun f hf => (HLG.out f hf).1) H4.out.1).mono ?_
      rintro e W5 ⟨bs1, fs, rfl, hl1, hb5, hp1, hs1⟩
      have H5 := Lib.hid (And.intro hl1 (And.intro hp1 (And.intro hs1 hb5)))
      have HI5 : Hid ((Try.prog.info? 32).map (·.size) = some bs1.size ∧ zb10.size = bs1.size ∧ bs1.all (·.oneCell') = true) := Lib.hid ⟨by rw [hl1.size]; exact base_size, by rw [hl1.size]; rfl, hl1.one⟩
      obtain ⟨NA, hNA⟩ : ∃ z, W5.heap.size = z := ⟨_, rfl⟩
      have HNA := Lib.hid hNA
      obtain ⟨X, hX⟩ : ∃ z, W5.alloc (.cells bs1 32) = z := ⟨_, rfl⟩
      have HX := Lib.hid hX
      have hbx : Below W5.heap.size W5 X := by rw [← hX]; exact (Below.refl _ _).alloc (Nat.le_refl _) _
      have HXA : Hid (RowAt X NA 32 bs1) := Lib.hid (by rw [← hX, ← hNA]; exact RowAt.new _ _ _)
      have hwX : Below wc.heap.size wc X := hb5.trans (hbx.mono hb5.size)
      have HXF : Hid (RowAt X N 29 cf) := Lib.hid (H4.out.2.2.below hwX H4.out.2.2.lt)
      have HXB : Hid (Below w.heap.size w X ∧ Below W5.heap.size W5 X) := Lib.hid ⟨H4.out.2.1.trans (hwX.mono H4.out.2.1.size), hbx⟩
      have HFL : Hid (FactsAt X (.slice A8 m8 c8) L) := Lib.hid (H4.out.1.more hwX)
      have HLEN : Hid (([] : List FactV).length + L.length ≤ 1000000 ∧ L.length ≤ 1000000 ∧ (L ++ [f]).length ≤ 1000000) := Lib.hid (by have := HLL.out; simp; omega)
      have HOKF : Hid (∀ f' ∈ L ++ [f], FactOk f') := Lib.hid (fun f' hf => (List.mem_append.1 hf).elim (fun h => (HLG.out f' h).1) (fun h => by rw [List.mem_singleton.1 h]; exact HFG.out.1))
      clear hl1 hb5 hp1 hs1 hNA hX hbx hwX
      go_wp2_with (first | ((with_reducible refine store_nbase (o := ⟨none, _, _, _, _, _⟩) (.tmp 11) (.tmp 52) W5.heap.size rfl _ bs1 HI5.out.1 HI5.out.2.2 HI5.out.2.1 ?_ ?_ ?_ ?_ ?_); rfl; rfl; rfl; rfl))
      rw [HX.out, HNA.out]
      simp only [Act.put, List.setIfInBounds_toArray, List.set_cons_zero, List.set_cons_succ]
      go_cut [12] from 53 to 60 (fun v12 wx => ∃ NB bs2 gs, v12 = .pointer (some ⟨NB, 0, none⟩) ∧ Hid (RowAt wx NB 32 bs2 ∧ (∃ b, Lists wx b bs2 gs) ∧ gs.Perm (bestL (L ++ [f])) ∧ gs.Pairwise (fun a b => kLt (kT a) (kT b)) ∧ Below X.heap.size X wx))
      case first =>
        refine wp_region_held_drew (S := fun W => Below X.heap.size X W) (by kernel_rfl) (Below.refl _ _).drew (fun hHeld => ?_)
        refine wpAnyH_take (i := 1) (oi := ⟨_, _, _, _, _, _⟩) (v := ?_) rfl (by kernel_rfl) (by kernel_rfl) (by kernel_rfl) (fun _ _ _ h => h) (Or.inl ⟨by rfl, ?_⟩) (by assumption) ?_
        rotate_left
        · intro w hSw
          go_simp
          all_goals with_reducible rfl
        simp only [Act.put, List.setIfInBounds_toArray, List.set_cons_zero, List.set_cons_succ]
        refine wpAnyH_take (i := 3) (oi := ⟨_, _, _, _, _, _⟩) rfl (by kernel_rfl) (by kernel_rfl) (by kernel_rfl) (fun _ _ _ h => h) (yields_at 29 (.tmp 9) N (0) cf _ (fun W hW j2 x hx => by rw [Nat.zero_add, (HXF.out.below hW HXF.out.lt).cell]; exact hx) Try.underlying29 (by rfl) rfl rfl rfl HCI.out) (by assumption) ?_
        simp only [Act.put, List.setIfInBounds_toArray, List.set_cons_zero, List.set_cons_succ]
        have HB0 : Hid (Below X.heap.size X X.drew) := Lib.hid (Below.refl _ _).drew
        refine wpAnyH_ready (rs := [0, 4, 7]) (by kernel_rfl) (by simp) ?_
        refine AllReadyH.cons (o := ⟨_, _, _, _, _, _⟩) rfl (fun K hK => ?_) (AllReadyH.cons (o := ⟨_, _, _, _, _, _⟩) rfl (fun K hK => ?_) (AllReadyH.cons (o := ⟨_, _, _, _, _, _⟩) rfl (fun K hK => ?_) AllReadyH.nil))
        · obtain ⟨g1, hg1⟩ : ∃ z, X.drew.heap.size = z := ⟨_, rfl⟩
          have Hg1 := Lib.hid hg1
          refine wp_build_nofacts g1 hg1 rfl ?_
          clear hg1
          have D2 := Lib.hid ((Below.refl X.drew.heap.size X.drew).alloc (Nat.le_refl _) (.cells #[] 29))
          have HB3 := Lib.hid (HB0.out.alloc HB0.out.size (.cells #[] 29))
          have F0_4 : Hid (OwnF (X.drew.alloc (.cells #[] 29)) X.heap.size (.slice (some ⟨g1, 0, none⟩) 0 0) []) := Lib.hid (by rw [← Hg1.out]; exact OwnF.lower (own_zeroF X.drew) HB0.out.size)
          refine hK.out _ _ HB3.out (fun _ => ?_)
          clear hK K
          try simp only [Act.put, List.setIfInBounds_toArray, List.set_cons_zero, List.set_cons_succ]
          refine wpAnyH_ready (rs := [2, 4, 7]) (by kernel_rfl) (by simp) ?_
          refine AllReadyH.cons (o := ⟨_, _, _, _, _, _⟩) rfl (fun K hK => ?_) (AllReadyH.cons (o := ⟨_, _, _, _, _, _⟩) rfl (fun K hK => ?_) (AllReadyH.cons (o := ⟨_, _, _, _, _, _⟩) rfl (fun K hK => ?_) AllReadyH.nil))
          · have FL8 := Lib.hid (HFL.out.more HB3.out)
            refine wp_append_facts2 (.tmp 53) (.tmp 54) X.heap.size [] L (.slice (some ⟨g1, 0, none⟩) 0 0) (.slice A8 m8 c8) F0_4.out FL8.out HLEN.out.1 HB3.out.size rfl rfl rfl (fun v5 W6 h1 h2 h3 => ?_)
            have HA7 := Lib.hid (And.intro h1 (And.intro h2 h3))
            clear h1 h2 h3
            have HB9 : Hid (Below X.heap.size X W6) := Lib.hid (HB3.out.grown HA7.out.2.1 HB3.out.size (fun j e => (F0_4.out.lt j e).1))
            have F2_10 : Hid (OwnF W6 X.heap.size v5 L) := Lib.hid HA7.out.1
            obtain ⟨Aq11, mq11, cq11, rfl⟩ := own_slice F2_10.out
            refine hK.out _ _ HB9.out (fun _ => ?_)
            clear hK K
            try simp only [Act.put, List.setIfInBounds_toArray, List.set_cons_zero, List.set_cons_succ]
            refine wpAnyH_ready (rs := [4, 7]) (by kernel_rfl) (by simp) ?_
            refine AllReadyH.cons (o := ⟨_, _, _, _, _, _⟩) rfl (fun K hK => ?_) (AllReadyH.cons (o := ⟨_, _, _, _, _, _⟩) rfl (fun K hK => ?_) AllReadyH.nil)
            · obtain ⟨b12, hb12⟩ : ∃ z, W6.heap.size = z := ⟨_, rfl⟩
              have Hb12 := Lib.hid hb12
              refine wp_build_factN (.tmp 56) f cf HCF.out b12 hb12 rfl rfl ?_
              clear hb12
              have NE13 : Hid ((.slice Aq11 mq11 cq11 : Value).ownBlock ≠ some b12) := Lib.hid (fun e => by have h1 := (own_lt F2_10.out e).2; have h2 := Hb12.out; omega)
              have D14 := Lib.hid ((Below.refl W6.heap.size W6).alloc (Nat.le_refl _) (.cells cf 29))
              have HB15 := Lib.hid (HB9.out.alloc HB9.out.size (.cells cf 29))
              have F2_16 := Lib.hid (F2_10.out.below D14.out)
              have F4_17 : Hid (RowAt (W6.alloc (.cells cf 29)) b12 29 cf) := Lib.hid (by rw [← Hb12.out]; exact RowAt.new _ _ _)
              refine hK.out _ _ HB15.out (fun _ => ?_)
              clear hK K
              try simp only [Act.put, List.setIfInBounds_toArray, List.set_cons_zero, List.set_cons_succ]
              refine wpAnyH_ready (rs := [5, 7]) (by kernel_rfl) (by simp) ?_
              refine AllReadyH.cons (o := ⟨_, _, _, _, _, _⟩) rfl (fun K hK => ?_) (AllReadyH.cons (o := ⟨_, _, _, _, _, _⟩) rfl (fun K hK => ?_) AllReadyH.nil)
              · have NW21 := Lib.hid (row_new HCF.out F4_17.out)
                refine wp_append_fact (.tmp 55) (.tmp 57) X.heap.size L f b12 (.slice Aq11 mq11 cq11 : Value) F2_16.out HLEN.out.2.1 HB15.out.size NW21.out rfl rfl rfl (fun v18 W19 h1 h2 h3 => ?_)
                have HA20 := Lib.hid (And.intro h1 (And.intro h2 h3))
                clear h1 h2 h3
                have HB22 : Hid (Below X.heap.size X W19) := Lib.hid (HB15.out.grown HA20.out.2.1 HB15.out.size (fun j e => (F2_16.out.lt j e).1))
                have F2_23 : Hid (OwnF W19 X.heap.size v18 (L ++ [f])) := Lib.hid HA20.out.1
                obtain ⟨Aq24, mq24, cq24, rfl⟩ := own_slice F2_23.out
                refine hK.out _ _ HB22.out (fun _ => ?_)
                clear hK K
                try simp only [Act.put, List.setIfInBounds_toArray, List.set_cons_zero, List.set_cons_succ]
                refine wpAnyH_ready (rs := [6, 7]) (by kernel_rfl) (by simp) ?_
                refine AllReadyH.cons (o := ⟨_, _, _, _, _, _⟩) rfl (fun K hK => ?_) (AllReadyH.cons (o := ⟨_, _, _, _, _, _⟩) rfl (fun K hK => ?_) AllReadyH.nil)
                · go_simp
                  go_at_call 11
                  refine (of_any (L ++ [f]) _ W19 HLEN.out.2.2 HOKF.out F2_23.out.facts).mono ?_
                  rintro e W25 ⟨bs27, gs28, rfl, h1, h2, h3, h4⟩
                  have HO26 := Lib.hid (And.intro h1 (And.intro h3 (And.intro h4 h2)))
                  clear h1 h2 h3 h4
                  go_wp2_with fail
                  have D29 := Lib.hid HO26.out.2.2.2
                  have HB30 := Lib.hid (HB22.out.trans (D29.out.mono HB22.out.size))
                  have F6_31 := Lib.hid HO26.out.1
                  refine hK.out _ _ HB30.out (fun _ => ?_)
                  clear hK K
                  try simp only [Act.put, List.setIfInBounds_toArray, List.set_cons_zero, List.set_cons_succ]
                  refine wpAnyH_ready (rs := [7]) (by kernel_rfl) (by simp) ?_
                  refine AllReadyH.cons (o := ⟨_, _, _, _, _, _⟩) rfl (fun K hK => ?_) AllReadyH.nil
                  obtain ⟨bb32, hbb32⟩ : ∃ z, W25.heap.size = z := ⟨_, rfl⟩
                  have Hbb32 := Lib.hid hbb32
                  refine wp_alloc_base bb32 hbb32 rfl ?_
                  clear hbb32
                  have D33 := Lib.hid ((Below.refl W25.heap.size W25).alloc (Nat.le_refl _) (.cells zb10 32))
                  have HB34 := Lib.hid (HB30.out.alloc HB30.out.size (.cells zb10 32))
                  have F6_35 := Lib.hid (F6_31.out.below D33.out)
                  have F7_36 : Hid (RowAt (W25.alloc (.cells zb10 32)) bb32 32 zb10 ∧ X.heap.size ≤ bb32) := Lib.hid ⟨by rw [← Hbb32.out]; exact RowAt.new _ _ _, by rw [← Hbb32.out]; exact HB30.out.size⟩
                  have F7_37 := Lib.hid F7_36.out.1
                  refine hK.out _ _ HB34.out (fun _ => ?_)
                  clear hK K
                  try simp only [Act.put, List.setIfInBounds_toArray, List.set_cons_zero, List.set_cons_succ]
                  refine wpAnyH_ready (rs := [8]) (by kernel_rfl) (by simp) ?_
                  refine AllReadyH.cons (o := ⟨_, _, _, _, _, _⟩) rfl (fun K hK => ?_) AllReadyH.nil
                  have HI38 : Hid ((Try.prog.info? 32).map (·.size) = some bs27.size ∧ zb10.size = bs27.size ∧ bs27.all (·.oneCell') = true) := Lib.hid ⟨by rw [F6_35.out.size]; exact base_size, by rw [F6_35.out.size]; rfl, F6_35.out.one⟩
                  refine wp_store_row _ (.tmp 12) (.tmp 59) rfl bb32 bs27 rfl rfl _ zb10 F7_37.out HI38.out.1 HI38.out.2.1 HI38.out.2.2 ?_
                  have HB39 : Hid (Below X.heap.size X ((W25.alloc (.cells zb10 32)).setRow bb32 bs27)) := Lib.hid (below_setRow HB34.out F7_36.out.2)
                  have F6_40 : Hid (Lists ((W25.alloc (.cells zb10 32)).setRow bb32 bs27) _ bs27 _) := Lib.hid (F6_35.out.far F7_37.out bs27)
                  have F7_41 : Hid (RowAt ((W25.alloc (.cells zb10 32)).setRow bb32 bs27) bb32 32 bs27) := Lib.hid (setRow_at F7_37.out)
                  refine hK.out _ _ HB39.out (fun _ => ?_)
                  clear hK K
                  try simp only [Act.put, List.setIfInBounds_toArray, List.set_cons_zero, List.set_cons_succ]
                  refine wpAnyH_done (by kernel_rfl) ?_ _
                  go_wp2_with fail
                  go_meet
                  case rel => exact ⟨bb32, bs27, gs28, rfl, Lib.hid ⟨F7_41.out, ⟨_, F6_40.out⟩, HO26.out.2.1, HO26.out.2.2.1, HB39.out⟩⟩
                · obtain ⟨bb42, hbb42⟩ : ∃ z, W19.heap.size = z := ⟨_, rfl⟩
                  have Hbb42 := Lib.hid hbb42
                  refine wp_alloc_base bb42 hbb42 rfl ?_
                  clear hbb42
                  have D43 := Lib.hid ((Below.refl W19.heap.size W19).alloc (Nat.le_refl _) (.cells zb10 32))
                  have HB44 := Lib.hid (HB22.out.alloc HB22.out.size (.cells zb10 32))
                  have F2_45 := Lib.hid (F2_23.out.below D43.out)
                  have F7_46 : Hid (RowAt (W19.alloc (.cells zb10 32)) bb42 32 zb10 ∧ X.heap.size ≤ bb42) := Lib.hid ⟨by rw [← Hbb42.out]; exact RowAt.new _ _ _, by rw [← Hbb42.out]; exact HB22.out.size⟩
                  have F7_47 := Lib.hid F7_46.out.1
                  refine hK.out _ _ HB44.out (fun _ => ?_)
                  clear hK K
                  try simp only [Act.put, List.setIfInBounds_toArray, List.set_cons_zero, List.set_cons_succ]
                  refine wpAnyH_ready (rs := [6]) (by kernel_rfl) (by simp) ?_
                  refine AllReadyH.cons (o := ⟨_, _, _, _, _, _⟩) rfl (fun K hK => ?_) AllReadyH.nil
                  go_simp
                  go_at_call 11
                  refine (of_any (L ++ [f]) _ (W19.alloc (.cells zb10 32)) HLEN.out.2.2 HOKF.out F2_45.out.facts).mono ?_
                  rintro e W48 ⟨bs50, gs51, rfl, h1, h2, h3, h4⟩
                  have HO49 := Lib.hid (And.intro h1 (And.intro h3 (And.intro h4 h2)))
                  clear h1 h2 h3 h4
                  go_wp2_with fail
                  have D52 := Lib.hid HO49.out.2.2.2
                  have HB53 := Lib.hid (HB44.out.trans (D52.out.mono HB44.out.size))
                  have F7_54 := Lib.hid (F7_47.out.below D52.out F7_47.out.lt)
                  have F6_55 := Lib.hid HO49.out.1
                  refine hK.out _ _ HB53.out (fun _ => ?_)
                  clear hK K
                  try simp only [Act.put, List.setIfInBounds_toArray, List.set_cons_zero, List.set_cons_succ]
                  refine wpAnyH_ready (rs := [8]) (by kernel_rfl) (by simp) ?_
                  refine AllReadyH.cons (o := ⟨_, _, _, _, _, _⟩) rfl (fun K hK => ?_) AllReadyH.nil
                  have HI56 : Hid ((Try.prog.info? 32).map (·.size) = some bs50.size ∧ zb10.size = bs50.size ∧ bs50.all (·.oneCell') = true) := Lib.hid ⟨by rw [F6_55.out.size]; exact base_size, by rw [F6_55.out.size]; rfl, F6_55.out.one⟩
                  refine wp_store_row _ (.tmp 12) (.tmp 59) rfl bb42 bs50 rfl rfl _ zb10 F7_54.out HI56.out.1 HI56.out.2.1 HI56.out.2.2 ?_
                  have HB57 : Hid (Below X.heap.size X (W48.setRow bb42 bs50)) := Lib.hid (below_setRow HB53.out F7_46.out.2)
                  have F6_58 : Hid (Lists (W48.setRow bb42 bs50) _ bs50 _) := Lib.hid (F6_55.out.far F7_54.out bs50)
                  have F7_59 : Hid (RowAt (W48.setRow bb42 bs50) bb42 32 bs50) := Lib.hid (setRow_at F7_54.out)
                  refine hK.out _ _ HB57.out (fun _ => ?_)
                  clear hK K
                  try simp only [Act.put, List.setIfInBounds_toArray, List.set_cons_zero, List.set_cons_succ]
                  refine wpAnyH_done (by kernel_rfl) ?_ _
                  go_wp2_with fail
                  go_meet
                  case rel => exact ⟨bb42, bs50, gs51, rfl, Lib.hid ⟨F7_59.out, ⟨_, F6_58.out⟩, HO49.out.2.1, HO49.out.2.2.1, HB57.out⟩⟩
              · obtain ⟨bb60, hbb60⟩ : ∃ z, (W6.alloc (.cells cf 29)).heap.size = z := ⟨_, rfl⟩
                have Hbb60 := Lib.hid hbb60
                refine wp_alloc_base bb60 hbb60 rfl ?_
                clear hbb60
                have D61 := Lib.hid ((Below.refl (W6.alloc (.cells cf 29)).heap.size (W6.alloc (.cells cf 29))).alloc (Nat.le_refl _) (.cells zb10 32))
                have HB62 := Lib.hid (HB15.out.alloc HB15.out.size (.cells zb10 32))
                have F2_63 := Lib.hid (F2_16.out.below D61.out)
                have F4_64 := Lib.hid (F4_17.out.below D61.out F4_17.out.lt)
                have F7_65 : Hid (RowAt ((W6.alloc (.cells cf 29)).alloc (.cells zb10 32)) bb60 32 zb10 ∧ X.heap.size ≤ bb60) := Lib.hid ⟨by rw [← Hbb60.out]; exact RowAt.new _ _ _, by rw [← Hbb60.out]; exact HB15.out.size⟩
                have F7_66 := Lib.hid F7_65.out.1
                refine hK.out _ _ HB62.out (fun _ => ?_)
                clear hK K
                try simp only [Act.put, List.setIfInBounds_toArray, List.set_cons_zero, List.set_cons_succ]
                refine wpAnyH_ready (rs := [5]) (by kernel_rfl) (by simp) ?_
                refine AllReadyH.cons (o := ⟨_, _, _, _, _, _⟩) rfl (fun K hK => ?_) AllReadyH.nil
                have NW70 := Lib.hid (row_new HCF.out F4_64.out)
                refine wp_append_fact (.tmp 55) (.tmp 57) X.heap.size L f b12 (.slice Aq11 mq11 cq11 : Value) F2_63.out HLEN.out.2.1 HB62.out.size NW70.out rfl rfl rfl (fun v67 W68 h1 h2 h3 => ?_)
                have HA69 := Lib.hid (And.intro h1 (And.intro h2 h3))
                clear h1 h2 h3
                have HB71 : Hid (Below X.heap.size X W68) := Lib.hid (HB62.out.grown HA69.out.2.1 HB62.out.size (fun j e => (F2_63.out.lt j e).1))
                have F7_72 : Hid (RowAt W68 bb60 32 zb10) := Lib.hid ((HA69.out.2.1.block _ F7_66.out.lt (fun e => own_row_ne F2_63.out F7_66.out e)).trans F7_66.out)
                have F2_73 : Hid (OwnF W68 X.heap.size v67 (L ++ [f])) := Lib.hid HA69.out.1
                obtain ⟨Aq74, mq74, cq74, rfl⟩ := own_slice F2_73.out
                refine hK.out _ _ HB71.out (fun _ => ?_)
                clear hK K
                try simp only [Act.put, List.setIfInBounds_toArray, List.set_cons_zero, List.set_cons_succ]
                refine wpAnyH_ready (rs := [6]) (by kernel_rfl) (by simp) ?_
                refine AllReadyH.cons (o := ⟨_, _, _, _, _, _⟩) rfl (fun K hK => ?_) AllReadyH.nil
                go_simp
                go_at_call 11
                refine (of_any (L ++ [f]) _ W68 HLEN.out.2.2 HOKF.out F2_73.out.facts).mono ?_
                rintro e W75 ⟨bs77, gs78, rfl, h1, h2, h3, h4⟩
                have HO76 := Lib.hid (And.intro h1 (And.intro h3 (And.intro h4 h2)))
                clear h1 h2 h3 h4
                go_wp2_with fail
                have D79 := Lib.hid HO76.out.2.2.2
                have HB80 := Lib.hid (HB71.out.trans (D79.out.mono HB71.out.size))
                have F7_81 := Lib.hid (F7_72.out.below D79.out F7_72.out.lt)
                have F6_82 := Lib.hid HO76.out.1
                refine hK.out _ _ HB80.out (fun _ => ?_)
                clear hK K
                try simp only [Act.put, List.setIfInBounds_toArray, List.set_cons_zero, List.set_cons_succ]
                refine wpAnyH_ready (rs := [8]) (by kernel_rfl) (by simp) ?_
                refine AllReadyH.cons (o := ⟨_, _, _, _, _, _⟩) rfl (fun K hK => ?_) AllReadyH.nil
                have HI83 : Hid ((Try.prog.info? 32).map (·.size) = some bs77.size ∧ zb10.size = bs77.size ∧ bs77.all (·.oneCell') = true) := Lib.hid ⟨by rw [F6_82.out.size]; exact base_size, by rw [F6_82.out.size]; rfl, F6_82.out.one⟩
                refine wp_store_row _ (.tmp 12) (.tmp 59) rfl bb60 bs77 rfl rfl _ zb10 F7_81.out HI83.out.1 HI83.out.2.1 HI83.out.2.2 ?_
                have HB84 : Hid (Below X.heap.size X (W75.setRow bb60 bs77)) := Lib.hid (below_setRow HB80.out F7_65.out.2)
                have F6_85 : Hid (Lists (W75.setRow bb60 bs77) _ bs77 _) := Lib.hid (F6_82.out.far F7_81.out bs77)
                have F7_86 : Hid (RowAt (W75.setRow bb60 bs77) bb60 32 bs77) := Lib.hid (setRow_at F7_81.out)
                refine hK.out _ _ HB84.out (fun _ => ?_)
                clear hK K
                try simp only [Act.put, List.setIfInBounds_toArray, List.set_cons_zero, List.set_cons_succ]
                refine wpAnyH_done (by kernel_rfl) ?_ _
                go_wp2_with fail
                go_meet
                case rel => exact ⟨bb60, bs77, gs78, rfl, Lib.hid ⟨F7_86.out, ⟨_, F6_85.out⟩, HO76.out.2.1, HO76.out.2.2.1, HB84.out⟩⟩
            · obtain ⟨bb87, hbb87⟩ : ∃ z, W6.heap.size = z := ⟨_, rfl⟩
              have Hbb87 := Lib.hid hbb87
              refine wp_alloc_base bb87 hbb87 rfl ?_
              clear hbb87
              have D88 := Lib.hid ((Below.refl W6.heap.size W6).alloc (Nat.le_refl _) (.cells zb10 32))
              have HB89 := Lib.hid (HB9.out.alloc HB9.out.size (.cells zb10 32))
              have F2_90 := Lib.hid (F2_10.out.below D88.out)
              have F7_91 : Hid (RowAt (W6.alloc (.cells zb10 32)) bb87 32 zb10 ∧ X.heap.size ≤ bb87) := Lib.hid ⟨by rw [← Hbb87.out]; exact RowAt.new _ _ _, by rw [← Hbb87.out]; exact HB9.out.size⟩
              have F7_92 := Lib.hid F7_91.out.1
              refine hK.out _ _ HB89.out (fun _ => ?_)
              clear hK K
              try simp only [Act.put, List.setIfInBounds_toArray, List.set_cons_zero, List.set_cons_succ]
              refine wpAnyH_ready (rs := [4]) (by kernel_rfl) (by simp) ?_
              refine AllReadyH.cons (o := ⟨_, _, _, _, _, _⟩) rfl (fun K hK => ?_) AllReadyH.nil
              obtain ⟨b93, hb93⟩ : ∃ z, (W6.alloc (.cells zb10 32)).heap.size = z := ⟨_, rfl⟩
              have Hb93 := Lib.hid hb93
              refine wp_build_factN (.tmp 56) f cf HCF.out b93 hb93 rfl rfl ?_
              clear hb93
              have NE94 : Hid ((.slice Aq11 mq11 cq11 : Value).ownBlock ≠ some b93) := Lib.hid (fun e => by have h1 := (own_lt F2_90.out e).2; have h2 := Hb93.out; omega)
              have D95 := Lib.hid ((Below.refl (W6.alloc (.cells zb10 32)).heap.size (W6.alloc (.cells zb10 32))).alloc (Nat.le_refl _) (.cells cf 29))
              have HB96 := Lib.hid (HB89.out.alloc HB89.out.size (.cells cf 29))
              have F2_97 := Lib.hid (F2_90.out.below D95.out)
              have F7_98 := Lib.hid (F7_92.out.below D95.out F7_92.out.lt)
              have F4_99 : Hid (RowAt ((W6.alloc (.cells zb10 32)).alloc (.cells cf 29)) b93 29 cf) := Lib.hid (by rw [← Hb93.out]; exact RowAt.new _ _ _)
              refine hK.out _ _ HB96.out (fun _ => ?_)
              clear hK K
              try simp only [Act.put, List.setIfInBounds_toArray, List.set_cons_zero, List.set_cons_succ]
              refine wpAnyH_ready (rs := [5]) (by kernel_rfl) (by simp) ?_
              refine AllReadyH.cons (o := ⟨_, _, _, _, _, _⟩) rfl (fun K hK => ?_) AllReadyH.nil
              have NW103 := Lib.hid (row_new HCF.out F4_99.out)
              refine wp_append_fact (.tmp 55) (.tmp 57) X.heap.size L f b93 (.slice Aq11 mq11 cq11 : Value) F2_97.out HLEN.out.2.1 HB96.out.size NW103.out rfl rfl rfl (fun v100 W101 h1 h2 h3 => ?_)
              have HA102 := Lib.hid (And.intro h1 (And.intro h2 h3))
              clear h1 h2 h3
              have HB104 : Hid (Below X.heap.size X W101) := Lib.hid (HB96.out.grown HA102.out.2.1 HB96.out.size (fun j e => (F2_97.out.lt j e).1))
              have F7_105 : Hid (RowAt W101 bb87 32 zb10) := Lib.hid ((HA102.out.2.1.block _ F7_98.out.lt (fun e => own_row_ne F2_97.out F7_98.out e)).trans F7_98.out)
              have F2_106 : Hid (OwnF W101 X.heap.size v100 (L ++ [f])) := Lib.hid HA102.out.1
              obtain ⟨Aq107, mq107, cq107, rfl⟩ := own_slice F2_106.out
              refine hK.out _ _ HB104.out (fun _ => ?_)
              clear hK K
              try simp only [Act.put, List.setIfInBounds_toArray, List.set_cons_zero, List.set_cons_succ]
              refine wpAnyH_ready (rs := [6]) (by kernel_rfl) (by simp) ?_
              refine AllReadyH.cons (o := ⟨_, _, _, _, _, _⟩) rfl (fun K hK => ?_) AllReadyH.nil
              go_simp
              go_at_call 11
              refine (of_any (L ++ [f]) _ W101 HLEN.out.2.2 HOKF.out F2_106.out.facts).mono ?_
              rintro e W108 ⟨bs110, gs111, rfl, h1, h2, h3, h4⟩
              have HO109 := Lib.hid (And.intro h1 (And.intro h3 (And.intro h4 h2)))
              clear h1 h2 h3 h4
              go_wp2_with fail
              have D112 := Lib.hid HO109.out.2.2.2
              have HB113 := Lib.hid (HB104.out.trans (D112.out.mono HB104.out.size))
              have F7_114 := Lib.hid (F7_105.out.below D112.out F7_105.out.lt)
              have F6_115 := Lib.hid HO109.out.1
              refine hK.out _ _ HB113.out (fun _ => ?_)
              clear hK K
              try simp only [Act.put, List.setIfInBounds_toArray, List.set_cons_zero, List.set_cons_succ]
              refine wpAnyH_ready (rs := [8]) (by kernel_rfl) (by simp) ?_
              refine AllReadyH.cons (o := ⟨_, _, _, _, _, _⟩) rfl (fun K hK => ?_) AllReadyH.nil
              have HI116 : Hid ((Try.prog.info? 32).map (·.size) = some bs110.size ∧ zb10.size = bs110.size ∧ bs110.all (·.oneCell') = true) := Lib.hid ⟨by rw [F6_115.out.size]; exact base_size, by rw [F6_115.out.size]; rfl, F6_115.out.one⟩
              refine wp_store_row _ (.tmp 12) (.tmp 59) rfl bb87 bs110 rfl rfl _ zb10 F7_114.out HI116.out.1 HI116.out.2.1 HI116.out.2.2 ?_
              have HB117 : Hid (Below X.heap.size X (W108.setRow bb87 bs110)) := Lib.hid (below_setRow HB113.out F7_91.out.2)
              have F6_118 : Hid (Lists (W108.setRow bb87 bs110) _ bs110 _) := Lib.hid (F6_115.out.far F7_114.out bs110)
              have F7_119 : Hid (RowAt (W108.setRow bb87 bs110) bb87 32 bs110) := Lib.hid (setRow_at F7_114.out)
              refine hK.out _ _ HB117.out (fun _ => ?_)
              clear hK K
              try simp only [Act.put, List.setIfInBounds_toArray, List.set_cons_zero, List.set_cons_succ]
              refine wpAnyH_done (by kernel_rfl) ?_ _
              go_wp2_with fail
              go_meet
              case rel => exact ⟨bb87, bs110, gs111, rfl, Lib.hid ⟨F7_119.out, ⟨_, F6_118.out⟩, HO109.out.2.1, HO109.out.2.2.1, HB117.out⟩⟩
          · obtain ⟨b120, hb120⟩ : ∃ z, (X.drew.alloc (.cells #[] 29)).heap.size = z := ⟨_, rfl⟩
            have Hb120 := Lib.hid hb120
            refine wp_build_factN (.tmp 56) f cf HCF.out b120 hb120 rfl rfl ?_
            clear hb120
            have NE121 : Hid ((.slice (some ⟨g1, 0, none⟩) 0 0 : Value).ownBlock ≠ some b120) := Lib.hid (fun e => by have h1 := (own_lt F0_4.out e).2; have h2 := Hb120.out; omega)
            have D122 := Lib.hid ((Below.refl (X.drew.alloc (.cells #[] 29)).heap.size (X.drew.alloc (.cells #[] 29))).alloc (Nat.le_refl _) (.cells cf 29))
            have HB123 := Lib.hid (HB3.out.alloc HB3.out.size (.cells cf 29))
            have F0_124 := Lib.hid (F0_4.out.below D122.out)
            have F4_125 : Hid (RowAt ((X.drew.alloc (.cells #[] 29)).alloc (.cells cf 29)) b120 29 cf) := Lib.hid (by rw [← Hb120.out]; exact RowAt.new _ _ _)
            refine hK.out _ _ HB123.out (fun _ => ?_)
            clear hK K
            try simp only [Act.put, List.setIfInBounds_toArray, List.set_cons_zero, List.set_cons_succ]
            refine wpAnyH_ready (rs := [2, 7]) (by kernel_rfl) (by simp) ?_
            refine AllReadyH.cons (o := ⟨_, _, _, _, _, _⟩) rfl (fun K hK => ?_) (AllReadyH.cons (o := ⟨_, _, _, _, _, _⟩) rfl (fun K hK => ?_) AllReadyH.nil)
            · have FL129 := Lib.hid (HFL.out.more HB123.out)
              refine wp_append_facts2 (.tmp 53) (.tmp 54) X.heap.size [] L (.slice (some ⟨g1, 0, none⟩) 0 0) (.slice A8 m8 c8) F0_124.out FL129.out HLEN.out.1 HB123.out.size rfl rfl rfl (fun v126 W127 h1 h2 h3 => ?_)
              have HA128 := Lib.hid (And.intro h1 (And.intro h2 h3))
              clear h1 h2 h3
              have HB130 : Hid (Below X.heap.size X W127) := Lib.hid (HB123.out.grown HA128.out.2.1 HB123.out.size (fun j e => (F0_124.out.lt j e).1))
              have F4_131 : Hid (RowAt W127 b120 29 cf) := Lib.hid ((HA128.out.2.1.block _ F4_125.out.lt (fun e => by exact NE121.out e.symm)).trans F4_125.out)
              have NE132 : Hid (v126.ownBlock ≠ some b120) := Lib.hid (fun e => ne_own HA128.out.2.2 (fun e => by exact NE121.out e) (by have h1 := F4_125.out.lt; omega) e)
              have F2_133 : Hid (OwnF W127 X.heap.size v126 L) := Lib.hid HA128.out.1
              obtain ⟨Aq134, mq134, cq134, rfl⟩ := own_slice F2_133.out
              refine hK.out _ _ HB130.out (fun _ => ?_)
              clear hK K
              try simp only [Act.put, List.setIfInBounds_toArray, List.set_cons_zero, List.set_cons_succ]
              refine wpAnyH_ready (rs := [5, 7]) (by kernel_rfl) (by simp) ?_
              refine AllReadyH.cons (o := ⟨_, _, _, _, _, _⟩) rfl (fun K hK => ?_) (AllReadyH.cons (o := ⟨_, _, _, _, _, _⟩) rfl (fun K hK => ?_) AllReadyH.nil)
              · have NW138 := Lib.hid (row_new HCF.out F4_131.out)
                refine wp_append_fact (.tmp 55) (.tmp 57) X.heap.size L f b120 (.slice Aq134 mq134 cq134 : Value) F2_133.out HLEN.out.2.1 HB130.out.size NW138.out rfl rfl rfl (fun v135 W136 h1 h2 h3 => ?_)
                have HA137 := Lib.hid (And.intro h1 (And.intro h2 h3))
                clear h1 h2 h3
                have HB139 : Hid (Below X.heap.size X W136) := Lib.hid (HB130.out.grown HA137.out.2.1 HB130.out.size (fun j e => (F2_133.out.lt j e).1))
                have F2_140 : Hid (OwnF W136 X.heap.size v135 (L ++ [f])) := Lib.hid HA137.out.1
                obtain ⟨Aq141, mq141, cq141, rfl⟩ := own_slice F2_140.out
                refine hK.out _ _ HB139.out (fun _ => ?_)
                clear hK K
                try simp only [Act.put, List.setIfInBounds_toArray, List.set_cons_zero, List.set_cons_succ]
                refine wpAnyH_ready (rs := [6, 7]) (by kernel_rfl) (by simp) ?_
                refine AllReadyH.cons (o := ⟨_, _, _, _, _, _⟩) rfl (fun K hK => ?_) (AllReadyH.cons (o := ⟨_, _, _, _, _, _⟩) rfl (fun K hK => ?_) AllReadyH.nil)
                · go_simp
                  go_at_call 11
                  refine (of_any (L ++ [f]) _ W136 HLEN.out.2.2 HOKF.out F2_140.out.facts).mono ?_
                  rintro e W142 ⟨bs144, gs145, rfl, h1, h2, h3, h4⟩
                  have HO143 := Lib.hid (And.intro h1 (And.intro h3 (And.intro h4 h2)))
                  clear h1 h2 h3 h4
                  go_wp2_with fail
                  have D146 := Lib.hid HO143.out.2.2.2
                  have HB147 := Lib.hid (HB139.out.trans (D146.out.mono HB139.out.size))
                  have F6_148 := Lib.hid HO143.out.1
                  refine hK.out _ _ HB147.out (fun _ => ?_)
                  clear hK K
                  try simp only [Act.put, List.setIfInBounds_toArray, List.set_cons_zero, List.set_cons_succ]
                  refine wpAnyH_ready (rs := [7]) (by kernel_rfl) (by simp) ?_
                  refine AllReadyH.cons (o := ⟨_, _, _, _, _, _⟩) rfl (fun K hK => ?_) AllReadyH.nil
                  obtain ⟨bb149, hbb149⟩ : ∃ z, W142.heap.size = z := ⟨_, rfl⟩
                  have Hbb149 := Lib.hid hbb149
                  refine wp_alloc_base bb149 hbb149 rfl ?_
                  clear hbb149
                  have D150 := Lib.hid ((Below.refl W142.heap.size W142).alloc (Nat.le_refl _) (.cells zb10 32))
                  have HB151 := Lib.hid (HB147.out.alloc HB147.out.size (.cells zb10 32))
                  have F6_152 := Lib.hid (F6_148.out.below D150.out)
                  have F7_153 : Hid (RowAt (W142.alloc (.cells zb10 32)) bb149 32 zb10 ∧ X.heap.size ≤ bb149) := Lib.hid ⟨by rw [← Hbb149.out]; exact RowAt.new _ _ _, by rw [← Hbb149.out]; exact HB147.out.size⟩
                  have F7_154 := Lib.hid F7_153.out.1
                  refine hK.out _ _ HB151.out (fun _ => ?_)
                  clear hK K
                  try simp only [Act.put, List.setIfInBounds_toArray, List.set_cons_zero, List.set_cons_succ]
                  refine wpAnyH_ready (rs := [8]) (by kernel_rfl) (by simp) ?_
                  refine AllReadyH.cons (o := ⟨_, _, _, _, _, _⟩) rfl (fun K hK => ?_) AllReadyH.nil
                  have HI155 : Hid ((Try.prog.info? 32).map (·.size) = some bs144.size ∧ zb10.size = bs144.size ∧ bs144.all (·.oneCell') = true) := Lib.hid ⟨by rw [F6_152.out.size]; exact base_size, by rw [F6_152.out.size]; rfl, F6_152.out.one⟩
                  refine wp_store_row _ (.tmp 12) (.tmp 59) rfl bb149 bs144 rfl rfl _ zb10 F7_154.out HI155.out.1 HI155.out.2.1 HI155.out.2.2 ?_
                  have HB156 : Hid (Below X.heap.size X ((W142.alloc (.cells zb10 32)).setRow bb149 bs144)) := Lib.hid (below_setRow HB151.out F7_153.out.2)
                  have F6_157 : Hid (Lists ((W142.alloc (.cells zb10 32)).setRow bb149 bs144) _ bs144 _) := Lib.hid (F6_152.out.far F7_154.out bs144)
                  have F7_158 : Hid (RowAt ((W142.alloc (.cells zb10 32)).setRow bb149 bs144) bb149 32 bs144) := Lib.hid (setRow_at F7_154.out)
                  refine hK.out _ _ HB156.out (fun _ => ?_)
                  clear hK K
                  try simp only [Act.put, List.setIfInBounds_toArray, List.set_cons_zero, List.set_cons_succ]
                  refine wpAnyH_done (by kernel_rfl) ?_ _
                  go_wp2_with fail
                  go_meet
                  case rel => exact ⟨bb149, bs144, gs145, rfl, Lib.hid ⟨F7_158.out, ⟨_, F6_157.out⟩, HO143.out.2.1, HO143.out.2.2.1, HB156.out⟩⟩
                · obtain ⟨bb159, hbb159⟩ : ∃ z, W136.heap.size = z := ⟨_, rfl⟩
                  have Hbb159 := Lib.hid hbb159
                  refine wp_alloc_base bb159 hbb159 rfl ?_
                  clear hbb159
                  have D160 := Lib.hid ((Below.refl W136.heap.size W136).alloc (Nat.le_refl _) (.cells zb10 32))
                  have HB161 := Lib.hid (HB139.out.alloc HB139.out.size (.cells zb10 32))
                  have F2_162 := Lib.hid (F2_140.out.below D160.out)
                  have F7_163 : Hid (RowAt (W136.alloc (.cells zb10 32)) bb159 32 zb10 ∧ X.heap.size ≤ bb159) := Lib.hid ⟨by rw [← Hbb159.out]; exact RowAt.new _ _ _, by rw [← Hbb159.out]; exact HB139.out.size⟩
                  have F7_164 := Lib.hid F7_163.out.1
                  refine hK.out _ _ HB161.out (fun _ => ?_)
                  clear hK K
                  try simp only [Act.put, List.setIfInBounds_toArray, List.set_cons_zero, List.set_cons_succ]
                  refine wpAnyH_ready (rs := [6]) (by kernel_rfl) (by simp) ?_
                  refine AllReadyH.cons (o := ⟨_, _, _, _, _, _⟩) rfl (fun K hK => ?_) AllReadyH.nil
                  go_simp
                  go_at_call 11
                  refine (of_any (L ++ [f]) _ (W136.alloc (.cells zb10 32)) HLEN.out.2.2 HOKF.out F2_162.out.facts).mono ?_
                  rintro e W165 ⟨bs167, gs168, rfl, h1, h2, h3, h4⟩
                  have HO166 := Lib.hid (And.intro h1 (And.intro h3 (And.intro h4 h2)))
                  clear h1 h2 h3 h4
                  go_wp2_with fail
                  have D169 := Lib.hid HO166.out.2.2.2
                  have HB170 := Lib.hid (HB161.out.trans (D169.out.mono HB161.out.size))
                  have F7_171 := Lib.hid (F7_164.out.below D169.out F7_164.out.lt)
                  have F6_172 := Lib.hid HO166.out.1
                  refine hK.out _ _ HB170.out (fun _ => ?_)
                  clear hK K
                  try simp only [Act.put, List.setIfInBounds_toArray, List.set_cons_zero, List.set_cons_succ]
                  refine wpAnyH_ready (rs := [8]) (by kernel_rfl) (by simp) ?_
                  refine AllReadyH.cons (o := ⟨_, _, _, _, _, _⟩) rfl (fun K hK => ?_) AllReadyH.nil
                  have HI173 : Hid ((Try.prog.info? 32).map (·.size) = some bs167.size ∧ zb10.size = bs167.size ∧ bs167.all (·.oneCell') = true) := Lib.hid ⟨by rw [F6_172.out.size]; exact base_size, by rw [F6_172.out.size]; rfl, F6_172.out.one⟩
                  refine wp_store_row _ (.tmp 12) (.tmp 59) rfl bb159 bs167 rfl rfl _ zb10 F7_171.out HI173.out.1 HI173.out.2.1 HI173.out.2.2 ?_
                  have HB174 : Hid (Below X.heap.size X (W165.setRow bb159 bs167)) := Lib.hid (below_setRow HB170.out F7_163.out.2)
                  have F6_175 : Hid (Lists (W165.setRow bb159 bs167) _ bs167 _) := Lib.hid (F6_172.out.far F7_171.out bs167)
                  have F7_176 : Hid (RowAt (W165.setRow bb159 bs167) bb159 32 bs167) := Lib.hid (setRow_at F7_171.out)
                  refine hK.out _ _ HB174.out (fun _ => ?_)
                  clear hK K
                  try simp only [Act.put, List.setIfInBounds_toArray, List.set_cons_zero, List.set_cons_succ]
                  refine wpAnyH_done (by kernel_rfl) ?_ _
                  go_wp2_with fail
                  go_meet
                  case rel => exact ⟨bb159, bs167, gs168, rfl, Lib.hid ⟨F7_176.out, ⟨_, F6_175.out⟩, HO166.out.2.1, HO166.out.2.2.1, HB174.out⟩⟩
              · obtain ⟨bb177, hbb177⟩ : ∃ z, W127.heap.size = z := ⟨_, rfl⟩
                have Hbb177 := Lib.hid hbb177
                refine wp_alloc_base bb177 hbb177 rfl ?_
                clear hbb177
                have D178 := Lib.hid ((Below.refl W127.heap.size W127).alloc (Nat.le_refl _) (.cells zb10 32))
                have HB179 := Lib.hid (HB130.out.alloc HB130.out.size (.cells zb10 32))
                have F2_180 := Lib.hid (F2_133.out.below D178.out)
                have F4_181 := Lib.hid (F4_131.out.below D178.out F4_131.out.lt)
                have F7_182 : Hid (RowAt (W127.alloc (.cells zb10 32)) bb177 32 zb10 ∧ X.heap.size ≤ bb177) := Lib.hid ⟨by rw [← Hbb177.out]; exact RowAt.new _ _ _, by rw [← Hbb177.out]; exact HB130.out.size⟩
                have F7_183 := Lib.hid F7_182.out.1
                refine hK.out _ _ HB179.out (fun _ => ?_)
                clear hK K
                try simp only [Act.put, List.setIfInBounds_toArray, List.set_cons_zero, List.set_cons_succ]
                refine wpAnyH_ready (rs := [5]) (by kernel_rfl) (by simp) ?_
                refine AllReadyH.cons (o := ⟨_, _, _, _, _, _⟩) rfl (fun K hK => ?_) AllReadyH.nil
                have NW187 := Lib.hid (row_new HCF.out F4_181.out)
                refine wp_append_fact (.tmp 55) (.tmp 57) X.heap.size L f b120 (.slice Aq134 mq134 cq134 : Value) F2_180.out HLEN.out.2.1 HB179.out.size NW187.out rfl rfl rfl (fun v184 W185 h1 h2 h3 => ?_)
                have HA186 := Lib.hid (And.intro h1 (And.intro h2 h3))
                clear h1 h2 h3
                have HB188 : Hid (Below X.heap.size X W185) := Lib.hid (HB179.out.grown HA186.out.2.1 HB179.out.size (fun j e => (F2_180.out.lt j e).1))
                have F7_189 : Hid (RowAt W185 bb177 32 zb10) := Lib.hid ((HA186.out.2.1.block _ F7_183.out.lt (fun e => own_row_ne F2_180.out F7_183.out e)).trans F7_183.out)
                have F2_190 : Hid (OwnF W185 X.heap.size v184 (L ++ [f])) := Lib.hid HA186.out.1
                obtain ⟨Aq191, mq191, cq191, rfl⟩ := own_slice F2_190.out
                refine hK.out _ _ HB188.out (fun _ => ?_)
                clear hK K
                try simp only [Act.put, List.setIfInBounds_toArray, List.set_cons_zero, List.set_cons_succ]
                refine wpAnyH_ready (rs := [6]) (by kernel_rfl) (by simp) ?_
                refine AllReadyH.cons (o := ⟨_, _, _, _, _, _⟩) rfl (fun K hK => ?_) AllReadyH.nil
                go_simp
                go_at_call 11
                refine (of_any (L ++ [f]) _ W185 HLEN.out.2.2 HOKF.out F2_190.out.facts).mono ?_
                rintro e W192 ⟨bs194, gs195, rfl, h1, h2, h3, h4⟩
                have HO193 := Lib.hid (And.intro h1 (And.intro h3 (And.intro h4 h2)))
                clear h1 h2 h3 h4
                go_wp2_with fail
                have D196 := Lib.hid HO193.out.2.2.2
                have HB197 := Lib.hid (HB188.out.trans (D196.out.mono HB188.out.size))
                have F7_198 := Lib.hid (F7_189.out.below D196.out F7_189.out.lt)
                have F6_199 := Lib.hid HO193.out.1
                refine hK.out _ _ HB197.out (fun _ => ?_)
                clear hK K
                try simp only [Act.put, List.setIfInBounds_toArray, List.set_cons_zero, List.set_cons_succ]
                refine wpAnyH_ready (rs := [8]) (by kernel_rfl) (by simp) ?_
                refine AllReadyH.cons (o := ⟨_, _, _, _, _, _⟩) rfl (fun K hK => ?_) AllReadyH.nil
                have HI200 : Hid ((Try.prog.info? 32).map (·.size) = some bs194.size ∧ zb10.size = bs194.size ∧ bs194.all (·.oneCell') = true) := Lib.hid ⟨by rw [F6_199.out.size]; exact base_size, by rw [F6_199.out.size]; rfl, F6_199.out.one⟩
                refine wp_store_row _ (.tmp 12) (.tmp 59) rfl bb177 bs194 rfl rfl _ zb10 F7_198.out HI200.out.1 HI200.out.2.1 HI200.out.2.2 ?_
                have HB201 : Hid (Below X.heap.size X (W192.setRow bb177 bs194)) := Lib.hid (below_setRow HB197.out F7_182.out.2)
                have F6_202 : Hid (Lists (W192.setRow bb177 bs194) _ bs194 _) := Lib.hid (F6_199.out.far F7_198.out bs194)
                have F7_203 : Hid (RowAt (W192.setRow bb177 bs194) bb177 32 bs194) := Lib.hid (setRow_at F7_198.out)
                refine hK.out _ _ HB201.out (fun _ => ?_)
                clear hK K
                try simp only [Act.put, List.setIfInBounds_toArray, List.set_cons_zero, List.set_cons_succ]
                refine wpAnyH_done (by kernel_rfl) ?_ _
                go_wp2_with fail
                go_meet
                case rel => exact ⟨bb177, bs194, gs195, rfl, Lib.hid ⟨F7_203.out, ⟨_, F6_202.out⟩, HO193.out.2.1, HO193.out.2.2.1, HB201.out⟩⟩
            · obtain ⟨bb204, hbb204⟩ : ∃ z, ((X.drew.alloc (.cells #[] 29)).alloc (.cells cf 29)).heap.size = z := ⟨_, rfl⟩
              have Hbb204 := Lib.hid hbb204
              refine wp_alloc_base bb204 hbb204 rfl ?_
              clear hbb204
              have D205 := Lib.hid ((Below.refl ((X.drew.alloc (.cells #[] 29)).alloc (.cells cf 29)).heap.size ((X.drew.alloc (.cells #[] 29)).alloc (.cells cf 29))).alloc (Nat.le_refl _) (.cells zb10 32))
              have HB206 := Lib.hid (HB123.out.alloc HB123.out.size (.cells zb10 32))
              have F0_207 := Lib.hid (F0_124.out.below D205.out)
              have F4_208 := Lib.hid (F4_125.out.below D205.out F4_125.out.lt)
              have F7_209 : Hid (RowAt (((X.drew.alloc (.cells #[] 29)).alloc (.cells cf 29)).alloc (.cells zb10 32)) bb204 32 zb10 ∧ X.heap.size ≤ bb204) := Lib.hid ⟨by rw [← Hbb204.out]; exact RowAt.new _ _ _, by rw [← Hbb204.out]; exact HB123.out.size⟩
              have F7_210 := Lib.hid F7_209.out.1
              refine hK.out _ _ HB206.out (fun _ => ?_)
              clear hK K
              try simp only [Act.put, List.setIfInBounds_toArray, List.set_cons_zero, List.set_cons_succ]
              refine wpAnyH_ready (rs := [2]) (by kernel_rfl) (by simp) ?_
              refine AllReadyH.cons (o := ⟨_, _, _, _, _, _⟩) rfl (fun K hK => ?_) AllReadyH.nil
              have FL214 := Lib.hid (HFL.out.more HB206.out)
              refine wp_append_facts2 (.tmp 53) (.tmp 54) X.heap.size [] L (.slice (some ⟨g1, 0, none⟩) 0 0) (.slice A8 m8 c8) F0_207.out FL214.out HLEN.out.1 HB206.out.size rfl rfl rfl (fun v211 W212 h1 h2 h3 => ?_)
              have HA213 := Lib.hid (And.intro h1 (And.intro h2 h3))
              clear h1 h2 h3
              have HB215 : Hid (Below X.heap.size X W212) := Lib.hid (HB206.out.grown HA213.out.2.1 HB206.out.size (fun j e => (F0_207.out.lt j e).1))
              have F4_216 : Hid (RowAt W212 b120 29 cf) := Lib.hid ((HA213.out.2.1.block _ F4_208.out.lt (fun e => by exact NE121.out e.symm)).trans F4_208.out)
              have NE217 : Hid (v211.ownBlock ≠ some b120) := Lib.hid (fun e => ne_own HA213.out.2.2 (fun e => by exact NE121.out e) (by have h1 := F4_208.out.lt; omega) e)
              have F7_218 : Hid (RowAt W212 bb204 32 zb10) := Lib.hid ((HA213.out.2.1.block _ F7_210.out.lt (fun e => own_row_ne F0_207.out F7_210.out e)).trans F7_210.out)
              have F2_219 : Hid (OwnF W212 X.heap.size v211 L) := Lib.hid HA213.out.1
              obtain ⟨Aq220, mq220, cq220, rfl⟩ := own_slice F2_219.out
              refine hK.out _ _ HB215.out (fun _ => ?_)
              clear hK K
              try simp only [Act.put, List.setIfInBounds_toArray, List.set_cons_zero, List.set_cons_succ]
              refine wpAnyH_ready (rs := [5]) (by kernel_rfl) (by simp) ?_
              refine AllReadyH.cons (o := ⟨_, _, _, _, _, _⟩) rfl (fun K hK => ?_) AllReadyH.nil
              have NW224 := Lib.hid (row_new HCF.out F4_216.out)
              refine wp_append_fact (.tmp 55) (.tmp 57) X.heap.size L f b120 (.slice Aq220 mq220 cq220 : Value) F2_219.out HLEN.out.2.1 HB215.out.size NW224.out rfl rfl rfl (fun v221 W222 h1 h2 h3 => ?_)
              have HA223 := Lib.hid (And.intro h1 (And.intro h2 h3))
              clear h1 h2 h3
              have HB225 : Hid (Below X.heap.size X W222) := Lib.hid (HB215.out.grown HA223.out.2.1 HB215.out.size (fun j e => (F2_219.out.lt j e).1))
              have F7_226 : Hid (RowAt W222 bb204 32 zb10) := Lib.hid ((HA223.out.2.1.block _ F7_218.out.lt (fun e => own_row_ne F2_219.out F7_218.out e)).trans F7_218.out)
              have F2_227 : Hid (OwnF W222 X.heap.size v221 (L ++ [f])) := Lib.hid HA223.out.1
              obtain ⟨Aq228, mq228, cq228, rfl⟩ := own_slice F2_227.out
              refine hK.out _ _ HB225.out (fun _ => ?_)
              clear hK K
              try simp only [Act.put, List.setIfInBounds_toArray, List.set_cons_zero, List.set_cons_succ]
              refine wpAnyH_ready (rs := [6]) (by kernel_rfl) (by simp) ?_
              refine AllReadyH.cons (o := ⟨_, _, _, _, _, _⟩) rfl (fun K hK => ?_) AllReadyH.nil
              go_simp
              go_at_call 11
              refine (of_any (L ++ [f]) _ W222 HLEN.out.2.2 HOKF.out F2_227.out.facts).mono ?_
              rintro e W229 ⟨bs231, gs232, rfl, h1, h2, h3, h4⟩
              have HO230 := Lib.hid (And.intro h1 (And.intro h3 (And.intro h4 h2)))
              clear h1 h2 h3 h4
              go_wp2_with fail
              have D233 := Lib.hid HO230.out.2.2.2
              have HB234 := Lib.hid (HB225.out.trans (D233.out.mono HB225.out.size))
              have F7_235 := Lib.hid (F7_226.out.below D233.out F7_226.out.lt)
              have F6_236 := Lib.hid HO230.out.1
              refine hK.out _ _ HB234.out (fun _ => ?_)
              clear hK K
              try simp only [Act.put, List.setIfInBounds_toArray, List.set_cons_zero, List.set_cons_succ]
              refine wpAnyH_ready (rs := [8]) (by kernel_rfl) (by simp) ?_
              refine AllReadyH.cons (o := ⟨_, _, _, _, _, _⟩) rfl (fun K hK => ?_) AllReadyH.nil
              have HI237 : Hid ((Try.prog.info? 32).map (·.size) = some bs231.size ∧ zb10.size = bs231.size ∧ bs231.all (·.oneCell') = true) := Lib.hid ⟨by rw [F6_236.out.size]; exact base_size, by rw [F6_236.out.size]; rfl, F6_236.out.one⟩
              refine wp_store_row _ (.tmp 12) (.tmp 59) rfl bb204 bs231 rfl rfl _ zb10 F7_235.out HI237.out.1 HI237.out.2.1 HI237.out.2.2 ?_
              have HB238 : Hid (Below X.heap.size X (W229.setRow bb204 bs231)) := Lib.hid (below_setRow HB234.out F7_209.out.2)
              have F6_239 : Hid (Lists (W229.setRow bb204 bs231) _ bs231 _) := Lib.hid (F6_236.out.far F7_235.out bs231)
              have F7_240 : Hid (RowAt (W229.setRow bb204 bs231) bb204 32 bs231) := Lib.hid (setRow_at F7_235.out)
              refine hK.out _ _ HB238.out (fun _ => ?_)
              clear hK K
              try simp only [Act.put, List.setIfInBounds_toArray, List.set_cons_zero, List.set_cons_succ]
              refine wpAnyH_done (by kernel_rfl) ?_ _
              go_wp2_with fail
              go_meet
              case rel => exact ⟨bb204, bs231, gs232, rfl, Lib.hid ⟨F7_240.out, ⟨_, F6_239.out⟩, HO230.out.2.1, HO230.out.2.2.1, HB238.out⟩⟩
          · obtain ⟨bb241, hbb241⟩ : ∃ z, (X.drew.alloc (.cells #[] 29)).heap.size = z := ⟨_, rfl⟩
            have Hbb241 := Lib.hid hbb241
            refine wp_alloc_base bb241 hbb241 rfl ?_
            clear hbb241
            have D242 := Lib.hid ((Below.refl (X.drew.alloc (.cells #[] 29)).heap.size (X.drew.alloc (.cells #[] 29))).alloc (Nat.le_refl _) (.cells zb10 32))
            have HB243 := Lib.hid (HB3.out.alloc HB3.out.size (.cells zb10 32))
            have F0_244 := Lib.hid (F0_4.out.below D242.out)
            have F7_245 : Hid (RowAt ((X.drew.alloc (.cells #[] 29)).alloc (.cells zb10 32)) bb241 32 zb10 ∧ X.heap.size ≤ bb241) := Lib.hid ⟨by rw [← Hbb241.out]; exact RowAt.new _ _ _, by rw [← Hbb241.out]; exact HB3.out.size⟩
            have F7_246 := Lib.hid F7_245.out.1
            refine hK.out _ _ HB243.out (fun _ => ?_)
            clear hK K
            try simp only [Act.put, List.setIfInBounds_toArray, List.set_cons_zero, List.set_cons_succ]
            refine wpAnyH_ready (rs := [2, 4]) (by kernel_rfl) (by simp) ?_
            refine AllReadyH.cons (o := ⟨_, _, _, _, _, _⟩) rfl (fun K hK => ?_) (AllReadyH.cons (o := ⟨_, _, _, _, _, _⟩) rfl (fun K hK => ?_) AllReadyH.nil)
            · have FL250 := Lib.hid (HFL.out.more HB243.out)
              refine wp_append_facts2 (.tmp 53) (.tmp 54) X.heap.size [] L (.slice (some ⟨g1, 0, none⟩) 0 0) (.slice A8 m8 c8) F0_244.out FL250.out HLEN.out.1 HB243.out.size rfl rfl rfl (fun v247 W248 h1 h2 h3 => ?_)
              have HA249 := Lib.hid (And.intro h1 (And.intro h2 h3))
              clear h1 h2 h3
              have HB251 : Hid (Below X.heap.size X W248) := Lib.hid (HB243.out.grown HA249.out.2.1 HB243.out.size (fun j e => (F0_244.out.lt j e).1))
              have F7_252 : Hid (RowAt W248 bb241 32 zb10) := Lib.hid ((HA249.out.2.1.block _ F7_246.out.lt (fun e => own_row_ne F0_244.out F7_246.out e)).trans F7_246.out)
              have F2_253 : Hid (OwnF W248 X.heap.size v247 L) := Lib.hid HA249.out.1
              obtain ⟨Aq254, mq254, cq254, rfl⟩ := own_slice F2_253.out
              refine hK.out _ _ HB251.out (fun _ => ?_)
              clear hK K
              try simp only [Act.put, List.setIfInBounds_toArray, List.set_cons_zero, List.set_cons_succ]
              refine wpAnyH_ready (rs := [4]) (by kernel_rfl) (by simp) ?_
              refine AllReadyH.cons (o := ⟨_, _, _, _, _, _⟩) rfl (fun K hK => ?_) AllReadyH.nil
              obtain ⟨b255, hb255⟩ : ∃ z, W248.heap.size = z := ⟨_, rfl⟩
              have Hb255 := Lib.hid hb255
              refine wp_build_factN (.tmp 56) f cf HCF.out b255 hb255 rfl rfl ?_
              clear hb255
              have NE256 : Hid ((.slice Aq254 mq254 cq254 : Value).ownBlock ≠ some b255) := Lib.hid (fun e => by have h1 := (own_lt F2_253.out e).2; have h2 := Hb255.out; omega)
              have D257 := Lib.hid ((Below.refl W248.heap.size W248).alloc (Nat.le_refl _) (.cells cf 29))
              have HB258 := Lib.hid (HB251.out.alloc HB251.out.size (.cells cf 29))
              have F2_259 := Lib.hid (F2_253.out.below D257.out)
              have F7_260 := Lib.hid (F7_252.out.below D257.out F7_252.out.lt)
              have F4_261 : Hid (RowAt (W248.alloc (.cells cf 29)) b255 29 cf) := Lib.hid (by rw [← Hb255.out]; exact RowAt.new _ _ _)
              refine hK.out _ _ HB258.out (fun _ => ?_)
              clear hK K
              try simp only [Act.put, List.setIfInBounds_toArray, List.set_cons_zero, List.set_cons_succ]
              refine wpAnyH_ready (rs := [5]) (by kernel_rfl) (by simp) ?_
              refine AllReadyH.cons (o := ⟨_, _, _, _, _, _⟩) rfl (fun K hK => ?_) AllReadyH.nil
              have NW265 := Lib.hid (row_new HCF.out F4_261.out)
              refine wp_append_fact (.tmp 55) (.tmp 57) X.heap.size L f b255 (.slice Aq254 mq254 cq254 : Value) F2_259.out HLEN.out.2.1 HB258.out.size NW265.out rfl rfl rfl (fun v262 W263 h1 h2 h3 => ?_)
              have HA264 := Lib.hid (And.intro h1 (And.intro h2 h3))
              clear h1 h2 h3
              have HB266 : Hid (Below X.heap.size X W263) := Lib.hid (HB258.out.grown HA264.out.2.1 HB258.out.size (fun j e => (F2_259.out.lt j e).1))
              have F7_267 : Hid (RowAt W263 bb241 32 zb10) := Lib.hid ((HA264.out.2.1.block _ F7_260.out.lt (fun e => own_row_ne F2_259.out F7_260.out e)).trans F7_260.out)
              have F2_268 : Hid (OwnF W263 X.heap.size v262 (L ++ [f])) := Lib.hid HA264.out.1
              obtain ⟨Aq269, mq269, cq269, rfl⟩ := own_slice F2_268.out
              refine hK.out _ _ HB266.out (fun _ => ?_)
              clear hK K
              try simp only [Act.put, List.setIfInBounds_toArray, List.set_cons_zero, List.set_cons_succ]
              refine wpAnyH_ready (rs := [6]) (by kernel_rfl) (by simp) ?_
              refine AllReadyH.cons (o := ⟨_, _, _, _, _, _⟩) rfl (fun K hK => ?_) AllReadyH.nil
              go_simp
              go_at_call 11
              refine (of_any (L ++ [f]) _ W263 HLEN.out.2.2 HOKF.out F2_268.out.facts).mono ?_
              rintro e W270 ⟨bs272, gs273, rfl, h1, h2, h3, h4⟩
              have HO271 := Lib.hid (And.intro h1 (And.intro h3 (And.intro h4 h2)))
              clear h1 h2 h3 h4
              go_wp2_with fail
              have D274 := Lib.hid HO271.out.2.2.2
              have HB275 := Lib.hid (HB266.out.trans (D274.out.mono HB266.out.size))
              have F7_276 := Lib.hid (F7_267.out.below D274.out F7_267.out.lt)
              have F6_277 := Lib.hid HO271.out.1
              refine hK.out _ _ HB275.out (fun _ => ?_)
              clear hK K
              try simp only [Act.put, List.setIfInBounds_toArray, List.set_cons_zero, List.set_cons_succ]
              refine wpAnyH_ready (rs := [8]) (by kernel_rfl) (by simp) ?_
              refine AllReadyH.cons (o := ⟨_, _, _, _, _, _⟩) rfl (fun K hK => ?_) AllReadyH.nil
              have HI278 : Hid ((Try.prog.info? 32).map (·.size) = some bs272.size ∧ zb10.size = bs272.size ∧ bs272.all (·.oneCell') = true) := Lib.hid ⟨by rw [F6_277.out.size]; exact base_size, by rw [F6_277.out.size]; rfl, F6_277.out.one⟩
              refine wp_store_row _ (.tmp 12) (.tmp 59) rfl bb241 bs272 rfl rfl _ zb10 F7_276.out HI278.out.1 HI278.out.2.1 HI278.out.2.2 ?_
              have HB279 : Hid (Below X.heap.size X (W270.setRow bb241 bs272)) := Lib.hid (below_setRow HB275.out F7_245.out.2)
              have F6_280 : Hid (Lists (W270.setRow bb241 bs272) _ bs272 _) := Lib.hid (F6_277.out.far F7_276.out bs272)
              have F7_281 : Hid (RowAt (W270.setRow bb241 bs272) bb241 32 bs272) := Lib.hid (setRow_at F7_276.out)
              refine hK.out _ _ HB279.out (fun _ => ?_)
              clear hK K
              try simp only [Act.put, List.setIfInBounds_toArray, List.set_cons_zero, List.set_cons_succ]
              refine wpAnyH_done (by kernel_rfl) ?_ _
              go_wp2_with fail
              go_meet
              case rel => exact ⟨bb241, bs272, gs273, rfl, Lib.hid ⟨F7_281.out, ⟨_, F6_280.out⟩, HO271.out.2.1, HO271.out.2.2.1, HB279.out⟩⟩
            · obtain ⟨b282, hb282⟩ : ∃ z, ((X.drew.alloc (.cells #[] 29)).alloc (.cells zb10 32)).heap.size = z := ⟨_, rfl⟩
              have Hb282 := Lib.hid hb282
              refine wp_build_factN (.tmp 56) f cf HCF.out b282 hb282 rfl rfl ?_
              clear hb282
              have NE283 : Hid ((.slice (some ⟨g1, 0, none⟩) 0 0 : Value).ownBlock ≠ some b282) := Lib.hid (fun e => by have h1 := (own_lt F0_244.out e).2; have h2 := Hb282.out; omega)
              have D284 := Lib.hid ((Below.refl ((X.drew.alloc (.cells #[] 29)).alloc (.cells zb10 32)).heap.size ((X.drew.alloc (.cells #[] 29)).alloc (.cells zb10 32))).alloc (Nat.le_refl _) (.cells cf 29))
              have HB285 := Lib.hid (HB243.out.alloc HB243.out.size (.cells cf 29))
              have F0_286 := Lib.hid (F0_244.out.below D284.out)
              have F7_287 := Lib.hid (F7_246.out.below D284.out F7_246.out.lt)
              have F4_288 : Hid (RowAt (((X.drew.alloc (.cells #[] 29)).alloc (.cells zb10 32)).alloc (.cells cf 29)) b282 29 cf) := Lib.hid (by rw [← Hb282.out]; exact RowAt.new _ _ _)
              refine hK.out _ _ HB285.out (fun _ => ?_)
              clear hK K
              try simp only [Act.put, List.setIfInBounds_toArray, List.set_cons_zero, List.set_cons_succ]
              refine wpAnyH_ready (rs := [2]) (by kernel_rfl) (by simp) ?_
              refine AllReadyH.cons (o := ⟨_, _, _, _, _, _⟩) rfl (fun K hK => ?_) AllReadyH.nil
              have FL292 := Lib.hid (HFL.out.more HB285.out)
              refine wp_append_facts2 (.tmp 53) (.tmp 54) X.heap.size [] L (.slice (some ⟨g1, 0, none⟩) 0 0) (.slice A8 m8 c8) F0_286.out FL292.out HLEN.out.1 HB285.out.size rfl rfl rfl (fun v289 W290 h1 h2 h3 => ?_)
              have HA291 := Lib.hid (And.intro h1 (And.intro h2 h3))
              clear h1 h2 h3
              have HB293 : Hid (Below X.heap.size X W290) := Lib.hid (HB285.out.grown HA291.out.2.1 HB285.out.size (fun j e => (F0_286.out.lt j e).1))
              have F4_294 : Hid (RowAt W290 b282 29 cf) := Lib.hid ((HA291.out.2.1.block _ F4_288.out.lt (fun e => by exact NE283.out e.symm)).trans F4_288.out)
              have NE295 : Hid (v289.ownBlock ≠ some b282) := Lib.hid (fun e => ne_own HA291.out.2.2 (fun e => by exact NE283.out e) (by have h1 := F4_288.out.lt; omega) e)
              have F7_296 : Hid (RowAt W290 bb241 32 zb10) := Lib.hid ((HA291.out.2.1.block _ F7_287.out.lt (fun e => own_row_ne F0_286.out F7_287.out e)).trans F7_287.out)
              have F2_297 : Hid (OwnF W290 X.heap.size v289 L) := Lib.hid HA291.out.1
              obtain ⟨Aq298, mq298, cq298, rfl⟩ := own_slice F2_297.out
              refine hK.out _ _ HB293.out (fun _ => ?_)
              clear hK K
              try simp only [Act.put, List.setIfInBounds_toArray, List.set_cons_zero, List.set_cons_succ]
              refine wpAnyH_ready (rs := [5]) (by kernel_rfl) (by simp) ?_
              refine AllReadyH.cons (o := ⟨_, _, _, _, _, _⟩) rfl (fun K hK => ?_) AllReadyH.nil
              have NW302 := Lib.hid (row_new HCF.out F4_294.out)
              refine wp_append_fact (.tmp 55) (.tmp 57) X.heap.size L f b282 (.slice Aq298 mq298 cq298 : Value) F2_297.out HLEN.out.2.1 HB293.out.size NW302.out rfl rfl rfl (fun v299 W300 h1 h2 h3 => ?_)
              have HA301 := Lib.hid (And.intro h1 (And.intro h2 h3))
              clear h1 h2 h3
              have HB303 : Hid (Below X.heap.size X W300) := Lib.hid (HB293.out.grown HA301.out.2.1 HB293.out.size (fun j e => (F2_297.out.lt j e).1))
              have F7_304 : Hid (RowAt W300 bb241 32 zb10) := Lib.hid ((HA301.out.2.1.block _ F7_296.out.lt (fun e => own_row_ne F2_297.out F7_296.out e)).trans F7_296.out)
              have F2_305 : Hid (OwnF W300 X.heap.size v299 (L ++ [f])) := Lib.hid HA301.out.1
              obtain ⟨Aq306, mq306, cq306, rfl⟩ := own_slice F2_305.out
              refine hK.out _ _ HB303.out (fun _ => ?_)
              clear hK K
              try simp only [Act.put, List.setIfInBounds_toArray, List.set_cons_zero, List.set_cons_succ]
              refine wpAnyH_ready (rs := [6]) (by kernel_rfl) (by simp) ?_
              refine AllReadyH.cons (o := ⟨_, _, _, _, _, _⟩) rfl (fun K hK => ?_) AllReadyH.nil
              go_simp
              go_at_call 11
              refine (of_any (L ++ [f]) _ W300 HLEN.out.2.2 HOKF.out F2_305.out.facts).mono ?_
              rintro e W307 ⟨bs309, gs310, rfl, h1, h2, h3, h4⟩
              have HO308 := Lib.hid (And.intro h1 (And.intro h3 (And.intro h4 h2)))
              clear h1 h2 h3 h4
              go_wp2_with fail
              have D311 := Lib.hid HO308.out.2.2.2
              have HB312 := Lib.hid (HB303.out.trans (D311.out.mono HB303.out.size))
              have F7_313 := Lib.hid (F7_304.out.below D311.out F7_304.out.lt)
              have F6_314 := Lib.hid HO308.out.1
              refine hK.out _ _ HB312.out (fun _ => ?_)
              clear hK K
              try simp only [Act.put, List.setIfInBounds_toArray, List.set_cons_zero, List.set_cons_succ]
              refine wpAnyH_ready (rs := [8]) (by kernel_rfl) (by simp) ?_
              refine AllReadyH.cons (o := ⟨_, _, _, _, _, _⟩) rfl (fun K hK => ?_) AllReadyH.nil
              have HI315 : Hid ((Try.prog.info? 32).map (·.size) = some bs309.size ∧ zb10.size = bs309.size ∧ bs309.all (·.oneCell') = true) := Lib.hid ⟨by rw [F6_314.out.size]; exact base_size, by rw [F6_314.out.size]; rfl, F6_314.out.one⟩
              refine wp_store_row _ (.tmp 12) (.tmp 59) rfl bb241 bs309 rfl rfl _ zb10 F7_313.out HI315.out.1 HI315.out.2.1 HI315.out.2.2 ?_
              have HB316 : Hid (Below X.heap.size X (W307.setRow bb241 bs309)) := Lib.hid (below_setRow HB312.out F7_245.out.2)
              have F6_317 : Hid (Lists (W307.setRow bb241 bs309) _ bs309 _) := Lib.hid (F6_314.out.far F7_313.out bs309)
              have F7_318 : Hid (RowAt (W307.setRow bb241 bs309) bb241 32 bs309) := Lib.hid (setRow_at F7_313.out)
              refine hK.out _ _ HB316.out (fun _ => ?_)
              clear hK K
              try simp only [Act.put, List.setIfInBounds_toArray, List.set_cons_zero, List.set_cons_succ]
              refine wpAnyH_done (by kernel_rfl) ?_ _
              go_wp2_with fail
              go_meet
              case rel => exact ⟨bb241, bs309, gs310, rfl, Lib.hid ⟨F7_318.out, ⟨_, F6_317.out⟩, HO308.out.2.1, HO308.out.2.2.1, HB316.out⟩⟩
        · obtain ⟨b319, hb319⟩ : ∃ z, X.drew.heap.size = z := ⟨_, rfl⟩
          have Hb319 := Lib.hid hb319
          refine wp_build_factN (.tmp 56) f cf HCF.out b319 hb319 rfl rfl ?_
          clear hb319
          have D320 := Lib.hid ((Below.refl X.drew.heap.size X.drew).alloc (Nat.le_refl _) (.cells cf 29))
          have HB321 := Lib.hid (HB0.out.alloc HB0.out.size (.cells cf 29))
          have F4_322 : Hid (RowAt (X.drew.alloc (.cells cf 29)) b319 29 cf) := Lib.hid (by rw [← Hb319.out]; exact RowAt.new _ _ _)
          refine hK.out _ _ HB321.out (fun _ => ?_)
          clear hK K
          try simp only [Act.put, List.setIfInBounds_toArray, List.set_cons_zero, List.set_cons_succ]
          refine wpAnyH_ready (rs := [0, 7]) (by kernel_rfl) (by simp) ?_
          refine AllReadyH.cons (o := ⟨_, _, _, _, _, _⟩) rfl (fun K hK => ?_) (AllReadyH.cons (o := ⟨_, _, _, _, _, _⟩) rfl (fun K hK => ?_) AllReadyH.nil)
          · obtain ⟨g323, hg323⟩ : ∃ z, (X.drew.alloc (.cells cf 29)).heap.size = z := ⟨_, rfl⟩
            have Hg323 := Lib.hid hg323
            refine wp_build_nofacts g323 hg323 rfl ?_
            clear hg323
            have D324 := Lib.hid ((Below.refl (X.drew.alloc (.cells cf 29)).heap.size (X.drew.alloc (.cells cf 29))).alloc (Nat.le_refl _) (.cells #[] 29))
            have HB325 := Lib.hid (HB321.out.alloc HB321.out.size (.cells #[] 29))
            have F4_326 := Lib.hid (F4_322.out.below D324.out F4_322.out.lt)
            have F0_327 : Hid (OwnF ((X.drew.alloc (.cells cf 29)).alloc (.cells #[] 29)) X.heap.size (.slice (some ⟨g323, 0, none⟩) 0 0) []) := Lib.hid (by rw [← Hg323.out]; exact OwnF.lower (own_zeroF (X.drew.alloc (.cells cf 29))) HB321.out.size)
            have NE328 : Hid (b319 ≠ g323) := Lib.hid (by have h1 := Hg323.out; have h2 := F4_322.out.lt; omega)
            refine hK.out _ _ HB325.out (fun _ => ?_)
            clear hK K
            try simp only [Act.put, List.setIfInBounds_toArray, List.set_cons_zero, List.set_cons_succ]
            refine wpAnyH_ready (rs := [2, 7]) (by kernel_rfl) (by simp) ?_
            refine AllReadyH.cons (o := ⟨_, _, _, _, _, _⟩) rfl (fun K hK => ?_) (AllReadyH.cons (o := ⟨_, _, _, _, _, _⟩) rfl (fun K hK => ?_) AllReadyH.nil)
            · have FL332 := Lib.hid (HFL.out.more HB325.out)
              refine wp_append_facts2 (.tmp 53) (.tmp 54) X.heap.size [] L (.slice (some ⟨g323, 0, none⟩) 0 0) (.slice A8 m8 c8) F0_327.out FL332.out HLEN.out.1 HB325.out.size rfl rfl rfl (fun v329 W330 h1 h2 h3 => ?_)
              have HA331 := Lib.hid (And.intro h1 (And.intro h2 h3))
              clear h1 h2 h3
              have HB333 : Hid (Below X.heap.size X W330) := Lib.hid (HB325.out.grown HA331.out.2.1 HB325.out.size (fun j e => (F0_327.out.lt j e).1))
              have F4_334 : Hid (RowAt W330 b319 29 cf) := Lib.hid ((HA331.out.2.1.block _ F4_326.out.lt (fun e => by have h1 := NE328.out; simp [Value.ownBlock] at e; omega)).trans F4_326.out)
              have NE335 : Hid (v329.ownBlock ≠ some b319) := Lib.hid (fun e => ne_own HA331.out.2.2 (fun e => by have h1 := NE328.out; simp [Value.ownBlock] at e; omega) (by have h1 := F4_326.out.lt; omega) e)
              have F2_336 : Hid (OwnF W330 X.heap.size v329 L) := Lib.hid HA331.out.1
              obtain ⟨Aq337, mq337, cq337, rfl⟩ := own_slice F2_336.out
              refine hK.out _ _ HB333.out (fun _ => ?_)
              clear hK K
              try simp only [Act.put, List.setIfInBounds_toArray, List.set_cons_zero, List.set_cons_succ]
              refine wpAnyH_ready (rs := [5, 7]) (by kernel_rfl) (by simp) ?_
              refine AllReadyH.cons (o := ⟨_, _, _, _, _, _⟩) rfl (fun K hK => ?_) (AllReadyH.cons (o := ⟨_, _, _, _, _, _⟩) rfl (fun K hK => ?_) AllReadyH.nil)
              · have NW341 := Lib.hid (row_new HCF.out F4_334.out)
                refine wp_append_fact (.tmp 55) (.tmp 57) X.heap.size L f b319 (.slice Aq337 mq337 cq337 : Value) F2_336.out HLEN.out.2.1 HB333.out.size NW341.out rfl rfl rfl (fun v338 W339 h1 h2 h3 => ?_)
                have HA340 := Lib.hid (And.intro h1 (And.intro h2 h3))
                clear h1 h2 h3
                have HB342 : Hid (Below X.heap.size X W339) := Lib.hid (HB333.out.grown HA340.out.2.1 HB333.out.size (fun j e => (F2_336.out.lt j e).1))
                have F2_343 : Hid (OwnF W339 X.heap.size v338 (L ++ [f])) := Lib.hid HA340.out.1
                obtain ⟨Aq344, mq344, cq344, rfl⟩ := own_slice F2_343.out
                refine hK.out _ _ HB342.out (fun _ => ?_)
                clear hK K
                try simp only [Act.put, List.setIfInBounds_toArray, List.set_cons_zero, List.set_cons_succ]
                refine wpAnyH_ready (rs := [6, 7]) (by kernel_rfl) (by simp) ?_
                refine AllReadyH.cons (o := ⟨_, _, _, _, _, _⟩) rfl (fun K hK => ?_) (AllReadyH.cons (o := ⟨_, _, _, _, _, _⟩) rfl (fun K hK => ?_) AllReadyH.nil)
                · go_simp
                  go_at_call 11
                  refine (of_any (L ++ [f]) _ W339 HLEN.out.2.2 HOKF.out F2_343.out.facts).mono ?_
                  rintro e W345 ⟨bs347, gs348, rfl, h1, h2, h3, h4⟩
                  have HO346 := Lib.hid (And.intro h1 (And.intro h3 (And.intro h4 h2)))
                  clear h1 h2 h3 h4
                  go_wp2_with fail
                  have D349 := Lib.hid HO346.out.2.2.2
                  have HB350 := Lib.hid (HB342.out.trans (D349.out.mono HB342.out.size))
                  have F6_351 := Lib.hid HO346.out.1
                  refine hK.out _ _ HB350.out (fun _ => ?_)
                  clear hK K
                  try simp only [Act.put, List.setIfInBounds_toArray, List.set_cons_zero, List.set_cons_succ]
                  refine wpAnyH_ready (rs := [7]) (by kernel_rfl) (by simp) ?_
                  refine AllReadyH.cons (o := ⟨_, _, _, _, _, _⟩) rfl (fun K hK => ?_) AllReadyH.nil
                  obtain ⟨bb352, hbb352⟩ : ∃ z, W345.heap.size = z := ⟨_, rfl⟩
                  have Hbb352 := Lib.hid hbb352
                  refine wp_alloc_base bb352 hbb352 rfl ?_
                  clear hbb352
                  have D353 := Lib.hid ((Below.refl W345.heap.size W345).alloc (Nat.le_refl _) (.cells zb10 32))
                  have HB354 := Lib.hid (HB350.out.alloc HB350.out.size (.cells zb10 32))
                  have F6_355 := Lib.hid (F6_351.out.below D353.out)
                  have F7_356 : Hid (RowAt (W345.alloc (.cells zb10 32)) bb352 32 zb10 ∧ X.heap.size ≤ bb352) := Lib.hid ⟨by rw [← Hbb352.out]; exact RowAt.new _ _ _, by rw [← Hbb352.out]; exact HB350.out.size⟩
                  have F7_357 := Lib.hid F7_356.out.1
                  refine hK.out _ _ HB354.out (fun _ => ?_)
                  clear hK K
                  try simp only [Act.put, List.setIfInBounds_toArray, List.set_cons_zero, List.set_cons_succ]
                  refine wpAnyH_ready (rs := [8]) (by kernel_rfl) (by simp) ?_
                  refine AllReadyH.cons (o := ⟨_, _, _, _, _, _⟩) rfl (fun K hK => ?_) AllReadyH.nil
                  have HI358 : Hid ((Try.prog.info? 32).map (·.size) = some bs347.size ∧ zb10.size = bs347.size ∧ bs347.all (·.oneCell') = true) := Lib.hid ⟨by rw [F6_355.out.size]; exact base_size, by rw [F6_355.out.size]; rfl, F6_355.out.one⟩
                  refine wp_store_row _ (.tmp 12) (.tmp 59) rfl bb352 bs347 rfl rfl _ zb10 F7_357.out HI358.out.1 HI358.out.2.1 HI358.out.2.2 ?_
                  have HB359 : Hid (Below X.heap.size X ((W345.alloc (.cells zb10 32)).setRow bb352 bs347)) := Lib.hid (below_setRow HB354.out F7_356.out.2)
                  have F6_360 : Hid (Lists ((W345.alloc (.cells zb10 32)).setRow bb352 bs347) _ bs347 _) := Lib.hid (F6_355.out.far F7_357.out bs347)
                  have F7_361 : Hid (RowAt ((W345.alloc (.cells zb10 32)).setRow bb352 bs347) bb352 32 bs347) := Lib.hid (setRow_at F7_357.out)
                  refine hK.out _ _ HB359.out (fun _ => ?_)
                  clear hK K
                  try simp only [Act.put, List.setIfInBounds_toArray, List.set_cons_zero, List.set_cons_succ]
                  refine wpAnyH_done (by kernel_rfl) ?_ _
                  go_wp2_with fail
                  go_meet
                  case rel => exact ⟨bb352, bs347, gs348, rfl, Lib.hid ⟨F7_361.out, ⟨_, F6_360.out⟩, HO346.out.2.1, HO346.out.2.2.1, HB359.out⟩⟩
                · obtain ⟨bb362, hbb362⟩ : ∃ z, W339.heap.size = z := ⟨_, rfl⟩
                  have Hbb362 := Lib.hid hbb362
                  refine wp_alloc_base bb362 hbb362 rfl ?_
                  clear hbb362
                  have D363 := Lib.hid ((Below.refl W339.heap.size W339).alloc (Nat.le_refl _) (.cells zb10 32))
                  have HB364 := Lib.hid (HB342.out.alloc HB342.out.size (.cells zb10 32))
                  have F2_365 := Lib.hid (F2_343.out.below D363.out)
                  have F7_366 : Hid (RowAt (W339.alloc (.cells zb10 32)) bb362 32 zb10 ∧ X.heap.size ≤ bb362) := Lib.hid ⟨by rw [← Hbb362.out]; exact RowAt.new _ _ _, by rw [← Hbb362.out]; exact HB342.out.size⟩
                  have F7_367 := Lib.hid F7_366.out.1
                  refine hK.out _ _ HB364.out (fun _ => ?_)
                  clear hK K
                  try simp only [Act.put, List.setIfInBounds_toArray, List.set_cons_zero, List.set_cons_succ]
                  refine wpAnyH_ready (rs := [6]) (by kernel_rfl) (by simp) ?_
                  refine AllReadyH.cons (o := ⟨_, _, _, _, _, _⟩) rfl (fun K hK => ?_) AllReadyH.nil
                  go_simp
                  go_at_call 11
                  refine (of_any (L ++ [f]) _ (W339.alloc (.cells zb10 32)) HLEN.out.2.2 HOKF.out F2_365.out.facts).mono ?_
                  rintro e W368 ⟨bs370, gs371, rfl, h1, h2, h3, h4⟩
                  have HO369 := Lib.hid (And.intro h1 (And.intro h3 (And.intro h4 h2)))
                  clear h1 h2 h3 h4
                  go_wp2_with fail
                  have D372 := Lib.hid HO369.out.2.2.2
                  have HB373 := Lib.hid (HB364.out.trans (D372.out.mono HB364.out.size))
                  have F7_374 := Lib.hid (F7_367.out.below D372.out F7_367.out.lt)
                  have F6_375 := Lib.hid HO369.out.1
                  refine hK.out _ _ HB373.out (fun _ => ?_)
                  clear hK K
                  try simp only [Act.put, List.setIfInBounds_toArray, List.set_cons_zero, List.set_cons_succ]
                  refine wpAnyH_ready (rs := [8]) (by kernel_rfl) (by simp) ?_
                  refine AllReadyH.cons (o := ⟨_, _, _, _, _, _⟩) rfl (fun K hK => ?_) AllReadyH.nil
                  have HI376 : Hid ((Try.prog.info? 32).map (·.size) = some bs370.size ∧ zb10.size = bs370.size ∧ bs370.all (·.oneCell') = true) := Lib.hid ⟨by rw [F6_375.out.size]; exact base_size, by rw [F6_375.out.size]; rfl, F6_375.out.one⟩
                  refine wp_store_row _ (.tmp 12) (.tmp 59) rfl bb362 bs370 rfl rfl _ zb10 F7_374.out HI376.out.1 HI376.out.2.1 HI376.out.2.2 ?_
                  have HB377 : Hid (Below X.heap.size X (W368.setRow bb362 bs370)) := Lib.hid (below_setRow HB373.out F7_366.out.2)
                  have F6_378 : Hid (Lists (W368.setRow bb362 bs370) _ bs370 _) := Lib.hid (F6_375.out.far F7_374.out bs370)
                  have F7_379 : Hid (RowAt (W368.setRow bb362 bs370) bb362 32 bs370) := Lib.hid (setRow_at F7_374.out)
                  refine hK.out _ _ HB377.out (fun _ => ?_)
                  clear hK K
                  try simp only [Act.put, List.setIfInBounds_toArray, List.set_cons_zero, List.set_cons_succ]
                  refine wpAnyH_done (by kernel_rfl) ?_ _
                  go_wp2_with fail
                  go_meet
                  case rel => exact ⟨bb362, bs370, gs371, rfl, Lib.hid ⟨F7_379.out, ⟨_, F6_378.out⟩, HO369.out.2.1, HO369.out.2.2.1, HB377.out⟩⟩
              · obtain ⟨bb380, hbb380⟩ : ∃ z, W330.heap.size = z := ⟨_, rfl⟩
                have Hbb380 := Lib.hid hbb380
                refine wp_alloc_base bb380 hbb380 rfl ?_
                clear hbb380
                have D381 := Lib.hid ((Below.refl W330.heap.size W330).alloc (Nat.le_refl _) (.cells zb10 32))
                have HB382 := Lib.hid (HB333.out.alloc HB333.out.size (.cells zb10 32))
                have F2_383 := Lib.hid (F2_336.out.below D381.out)
                have F4_384 := Lib.hid (F4_334.out.below D381.out F4_334.out.lt)
                have F7_385 : Hid (RowAt (W330.alloc (.cells zb10 32)) bb380 32 zb10 ∧ X.heap.size ≤ bb380) := Lib.hid ⟨by rw [← Hbb380.out]; exact RowAt.new _ _ _, by rw [← Hbb380.out]; exact HB333.out.size⟩
                have F7_386 := Lib.hid F7_385.out.1
                refine hK.out _ _ HB382.out (fun _ => ?_)
                clear hK K
                try simp only [Act.put, List.setIfInBounds_toArray, List.set_cons_zero, List.set_cons_succ]
                refine wpAnyH_ready (rs := [5]) (by kernel_rfl) (by simp) ?_
                refine AllReadyH.cons (o := ⟨_, _, _, _, _, _⟩) rfl (fun K hK => ?_) AllReadyH.nil
                have NW390 := Lib.hid (row_new HCF.out F4_384.out)
                refine wp_append_fact (.tmp 55) (.tmp 57) X.heap.size L f b319 (.slice Aq337 mq337 cq337 : Value) F2_383.out HLEN.out.2.1 HB382.out.size NW390.out rfl rfl rfl (fun v387 W388 h1 h2 h3 => ?_)
                have HA389 := Lib.hid (And.intro h1 (And.intro h2 h3))
                clear h1 h2 h3
                have HB391 : Hid (Below X.heap.size X W388) := Lib.hid (HB382.out.grown HA389.out.2.1 HB382.out.size (fun j e => (F2_383.out.lt j e).1))
                have F7_392 : Hid (RowAt W388 bb380 32 zb10) := Lib.hid ((HA389.out.2.1.block _ F7_386.out.lt (fun e => own_row_ne F2_383.out F7_386.out e)).trans F7_386.out)
                have F2_393 : Hid (OwnF W388 X.heap.size v387 (L ++ [f])) := Lib.hid HA389.out.1
                obtain ⟨Aq394, mq394, cq394, rfl⟩ := own_slice F2_393.out
                refine hK.out _ _ HB391.out (fun _ => ?_)
                clear hK K
                try simp only [Act.put, List.setIfInBounds_toArray, List.set_cons_zero, List.set_cons_succ]
                refine wpAnyH_ready (rs := [6]) (by kernel_rfl) (by simp) ?_
                refine AllReadyH.cons (o := ⟨_, _, _, _, _, _⟩) rfl (fun K hK => ?_) AllReadyH.nil
                go_simp
                go_at_call 11
                refine (of_any (L ++ [f]) _ W388 HLEN.out.2.2 HOKF.out F2_393.out.facts).mono ?_
                rintro e W395 ⟨bs397, gs398, rfl, h1, h2, h3, h4⟩
                have HO396 := Lib.hid (And.intro h1 (And.intro h3 (And.intro h4 h2)))
                clear h1 h2 h3 h4
                go_wp2_with fail
                have D399 := Lib.hid HO396.out.2.2.2
                have HB400 := Lib.hid (HB391.out.trans (D399.out.mono HB391.out.size))
                have F7_401 := Lib.hid (F7_392.out.below D399.out F7_392.out.lt)
                have F6_402 := Lib.hid HO396.out.1
                refine hK.out _ _ HB400.out (fun _ => ?_)
                clear hK K
                try simp only [Act.put, List.setIfInBounds_toArray, List.set_cons_zero, List.set_cons_succ]
                refine wpAnyH_ready (rs := [8]) (by kernel_rfl) (by simp) ?_
                refine AllReadyH.cons (o := ⟨_, _, _, _, _, _⟩) rfl (fun K hK => ?_) AllReadyH.nil
                have HI403 : Hid ((Try.prog.info? 32).map (·.size) = some bs397.size ∧ zb10.size = bs397.size ∧ bs397.all (·.oneCell') = true) := Lib.hid ⟨by rw [F6_402.out.size]; exact base_size, by rw [F6_402.out.size]; rfl, F6_402.out.one⟩
                refine wp_store_row _ (.tmp 12) (.tmp 59) rfl bb380 bs397 rfl rfl _ zb10 F7_401.out HI403.out.1 HI403.out.2.1 HI403.out.2.2 ?_
                have HB404 : Hid (Below X.heap.size X (W395.setRow bb380 bs397)) := Lib.hid (below_setRow HB400.out F7_385.out.2)
                have F6_405 : Hid (Lists (W395.setRow bb380 bs397) _ bs397 _) := Lib.hid (F6_402.out.far F7_401.out bs397)
                have F7_406 : Hid (RowAt (W395.setRow bb380 bs397) bb380 32 bs397) := Lib.hid (setRow_at F7_401.out)
                refine hK.out _ _ HB404.out (fun _ => ?_)
                clear hK K
                try simp only [Act.put, List.setIfInBounds_toArray, List.set_cons_zero, List.set_cons_succ]
                refine wpAnyH_done (by kernel_rfl) ?_ _
                go_wp2_with fail
                go_meet
                case rel => exact ⟨bb380, bs397, gs398, rfl, Lib.hid ⟨F7_406.out, ⟨_, F6_405.out⟩, HO396.out.2.1, HO396.out.2.2.1, HB404.out⟩⟩
            · obtain ⟨bb407, hbb407⟩ : ∃ z, ((X.drew.alloc (.cells cf 29)).alloc (.cells #[] 29)).heap.size = z := ⟨_, rfl⟩
              have Hbb407 := Lib.hid hbb407
              refine wp_alloc_base bb407 hbb407 rfl ?_
              clear hbb407
              have D408 := Lib.hid ((Below.refl ((X.drew.alloc (.cells cf 29)).alloc (.cells #[] 29)).heap.size ((X.drew.alloc (.cells cf 29)).alloc (.cells #[] 29))).alloc (Nat.le_refl _) (.cells zb10 32))
              have HB409 := Lib.hid (HB325.out.alloc HB325.out.size (.cells zb10 32))
              have F0_410 := Lib.hid (F0_327.out.below D408.out)
              have F4_411 := Lib.hid (F4_326.out.below D408.out F4_326.out.lt)
              have F7_412 : Hid (RowAt (((X.drew.alloc (.cells cf 29)).alloc (.cells #[] 29)).alloc (.cells zb10 32)) bb407 32 zb10 ∧ X.heap.size ≤ bb407) := Lib.hid ⟨by rw [← Hbb407.out]; exact RowAt.new _ _ _, by rw [← Hbb407.out]; exact HB325.out.size⟩
              have F7_413 := Lib.hid F7_412.out.1
              refine hK.out _ _ HB409.out (fun _ => ?_)
              clear hK K
              try simp only [Act.put, List.setIfInBounds_toArray, List.set_cons_zero, List.set_cons_succ]
              refine wpAnyH_ready (rs := [2]) (by kernel_rfl) (by simp) ?_
              refine AllReadyH.cons (o := ⟨_, _, _, _, _, _⟩) rfl (fun K hK => ?_) AllReadyH.nil
              have FL417 := Lib.hid (HFL.out.more HB409.out)
              refine wp_append_facts2 (.tmp 53) (.tmp 54) X.heap.size [] L (.slice (some ⟨g323, 0, none⟩) 0 0) (.slice A8 m8 c8) F0_410.out FL417.out HLEN.out.1 HB409.out.size rfl rfl rfl (fun v414 W415 h1 h2 h3 => ?_)
              have HA416 := Lib.hid (And.intro h1 (And.intro h2 h3))
              clear h1 h2 h3
              have HB418 : Hid (Below X.heap.size X W415) := Lib.hid (HB409.out.grown HA416.out.2.1 HB409.out.size (fun j e => (F0_410.out.lt j e).1))
              have F4_419 : Hid (RowAt W415 b319 29 cf) := Lib.hid ((HA416.out.2.1.block _ F4_411.out.lt (fun e => by have h1 := NE328.out; simp [Value.ownBlock] at e; omega)).trans F4_411.out)
              have NE420 : Hid (v414.ownBlock ≠ some b319) := Lib.hid (fun e => ne_own HA416.out.2.2 (fun e => by have h1 := NE328.out; simp [Value.ownBlock] at e; omega) (by have h1 := F4_411.out.lt; omega) e)
              have F7_421 : Hid (RowAt W415 bb407 32 zb10) := Lib.hid ((HA416.out.2.1.block _ F7_413.out.lt (fun e => own_row_ne F0_410.out F7_413.out e)).trans F7_413.out)
              have F2_422 : Hid (OwnF W415 X.heap.size v414 L) := Lib.hid HA416.out.1
              obtain ⟨Aq423, mq423, cq423, rfl⟩ := own_slice F2_422.out
              refine hK.out _ _ HB418.out (fun _ => ?_)
              clear hK K
              try simp only [Act.put, List.setIfInBounds_toArray, List.set_cons_zero, List.set_cons_succ]
              refine wpAnyH_ready (rs := [5]) (by kernel_rfl) (by simp) ?_
              refine AllReadyH.cons (o := ⟨_, _, _, _, _, _⟩) rfl (fun K hK => ?_) AllReadyH.nil
              have NW427 := Lib.hid (row_new HCF.out F4_419.out)
              refine wp_append_fact (.tmp 55) (.tmp 57) X.heap.size L f b319 (.slice Aq423 mq423 cq423 : Value) F2_422.out HLEN.out.2.1 HB418.out.size NW427.out rfl rfl rfl (fun v424 W425 h1 h2 h3 => ?_)
              have HA426 := Lib.hid (And.intro h1 (And.intro h2 h3))
              clear h1 h2 h3
              have HB428 : Hid (Below X.heap.size X W425) := Lib.hid (HB418.out.grown HA426.out.2.1 HB418.out.size (fun j e => (F2_422.out.lt j e).1))
              have F7_429 : Hid (RowAt W425 bb407 32 zb10) := Lib.hid ((HA426.out.2.1.block _ F7_421.out.lt (fun e => own_row_ne F2_422.out F7_421.out e)).trans F7_421.out)
              have F2_430 : Hid (OwnF W425 X.heap.size v424 (L ++ [f])) := Lib.hid HA426.out.1
              obtain ⟨Aq431, mq431, cq431, rfl⟩ := own_slice F2_430.out
              refine hK.out _ _ HB428.out (fun _ => ?_)
              clear hK K
              try simp only [Act.put, List.setIfInBounds_toArray, List.set_cons_zero, List.set_cons_succ]
              refine wpAnyH_ready (rs := [6]) (by kernel_rfl) (by simp) ?_
              refine AllReadyH.cons (o := ⟨_, _, _, _, _, _⟩) rfl (fun K hK => ?_) AllReadyH.nil
              go_simp
              go_at_call 11
              refine (of_any (L ++ [f]) _ W425 HLEN.out.2.2 HOKF.out F2_430.out.facts).mono ?_
              rintro e W432 ⟨bs434, gs435, rfl, h1, h2, h3, h4⟩
              have HO433 := Lib.hid (And.intro h1 (And.intro h3 (And.intro h4 h2)))
              clear h1 h2 h3 h4
              go_wp2_with fail
              have D436 := Lib.hid HO433.out.2.2.2
              have HB437 := Lib.hid (HB428.out.trans (D436.out.mono HB428.out.size))
              have F7_438 := Lib.hid (F7_429.out.below D436.out F7_429.out.lt)
              have F6_439 := Lib.hid HO433.out.1
              refine hK.out _ _ HB437.out (fun _ => ?_)
              clear hK K
              try simp only [Act.put, List.setIfInBounds_toArray, List.set_cons_zero, List.set_cons_succ]
              refine wpAnyH_ready (rs := [8]) (by kernel_rfl) (by simp) ?_
              refine AllReadyH.cons (o := ⟨_, _, _, _, _, _⟩) rfl (fun K hK => ?_) AllReadyH.nil
              have HI440 : Hid ((Try.prog.info? 32).map (·.size) = some bs434.size ∧ zb10.size = bs434.size ∧ bs434.all (·.oneCell') = true) := Lib.hid ⟨by rw [F6_439.out.size]; exact base_size, by rw [F6_439.out.size]; rfl, F6_439.out.one⟩
              refine wp_store_row _ (.tmp 12) (.tmp 59) rfl bb407 bs434 rfl rfl _ zb10 F7_438.out HI440.out.1 HI440.out.2.1 HI440.out.2.2 ?_
              have HB441 : Hid (Below X.heap.size X (W432.setRow bb407 bs434)) := Lib.hid (below_setRow HB437.out F7_412.out.2)
              have F6_442 : Hid (Lists (W432.setRow bb407 bs434) _ bs434 _) := Lib.hid (F6_439.out.far F7_438.out bs434)
              have F7_443 : Hid (RowAt (W432.setRow bb407 bs434) bb407 32 bs434) := Lib.hid (setRow_at F7_438.out)
              refine hK.out _ _ HB441.out (fun _ => ?_)
              clear hK K
              try simp only [Act.put, List.setIfInBounds_toArray, List.set_cons_zero, List.set_cons_succ]
              refine wpAnyH_done (by kernel_rfl) ?_ _
              go_wp2_with fail
              go_meet
              case rel => exact ⟨bb407, bs434, gs435, rfl, Lib.hid ⟨F7_443.out, ⟨_, F6_442.out⟩, HO433.out.2.1, HO433.out.2.2.1, HB441.out⟩⟩
          · obtain ⟨bb444, hbb444⟩ : ∃ z, (X.drew.alloc (.cells cf 29)).heap.size = z := ⟨_, rfl⟩
            have Hbb444 := Lib.hid hbb444
            refine wp_alloc_base bb444 hbb444 rfl ?_
            clear hbb444
            have D445 := Lib.hid ((Below.refl (X.drew.alloc (.cells cf 29)).heap.size (X.drew.alloc (.cells cf 29))).alloc (Nat.le_refl _) (.cells zb10 32))
            have HB446 := Lib.hid (HB321.out.alloc HB321.out.size (.cells zb10 32))
            have F4_447 := Lib.hid (F4_322.out.below D445.out F4_322.out.lt)
            have F7_448 : Hid (RowAt ((X.drew.alloc (.cells cf 29)).alloc (.cells zb10 32)) bb444 32 zb10 ∧ X.heap.size ≤ bb444) := Lib.hid ⟨by rw [← Hbb444.out]; exact RowAt.new _ _ _, by rw [← Hbb444.out]; exact HB321.out.size⟩
            have F7_449 := Lib.hid F7_448.out.1
            refine hK.out _ _ HB446.out (fun _ => ?_)
            clear hK K
            try simp only [Act.put, List.setIfInBounds_toArray, List.set_cons_zero, List.set_cons_succ]
            refine wpAnyH_ready (rs := [0]) (by kernel_rfl) (by simp) ?_
            refine AllReadyH.cons (o := ⟨_, _, _, _, _, _⟩) rfl (fun K hK => ?_) AllReadyH.nil
            obtain ⟨g450, hg450⟩ : ∃ z, ((X.drew.alloc (.cells cf 29)).alloc (.cells zb10 32)).heap.size = z := ⟨_, rfl⟩
            have Hg450 := Lib.hid hg450
            refine wp_build_nofacts g450 hg450 rfl ?_
            clear hg450
            have D451 := Lib.hid ((Below.refl ((X.drew.alloc (.cells cf 29)).alloc (.cells zb10 32)).heap.size ((X.drew.alloc (.cells cf 29)).alloc (.cells zb10 32))).alloc (Nat.le_refl _) (.cells #[] 29))
            have HB452 := Lib.hid (HB446.out.alloc HB446.out.size (.cells #[] 29))
            have F4_453 := Lib.hid (F4_447.out.below D451.out F4_447.out.lt)
            have F7_454 := Lib.hid (F7_449.out.below D451.out F7_449.out.lt)
            have F0_455 : Hid (OwnF (((X.drew.alloc (.cells cf 29)).alloc (.cells zb10 32)).alloc (.cells #[] 29)) X.heap.size (.slice (some ⟨g450, 0, none⟩) 0 0) []) := Lib.hid (by rw [← Hg450.out]; exact OwnF.lower (own_zeroF ((X.drew.alloc (.cells cf 29)).alloc (.cells zb10 32))) HB446.out.size)
            have NE456 : Hid (b319 ≠ g450) := Lib.hid (by have h1 := Hg450.out; have h2 := F4_447.out.lt; omega)
            refine hK.out _ _ HB452.out (fun _ => ?_)
            clear hK K
            try simp only [Act.put, List.setIfInBounds_toArray, List.set_cons_zero, List.set_cons_succ]
            refine wpAnyH_ready (rs := [2]) (by kernel_rfl) (by simp) ?_
            refine AllReadyH.cons (o := ⟨_, _, _, _, _, _⟩) rfl (fun K hK => ?_) AllReadyH.nil
            have FL460 := Lib.hid (HFL.out.more HB452.out)
            refine wp_append_facts2 (.tmp 53) (.tmp 54) X.heap.size [] L (.slice (some ⟨g450, 0, none⟩) 0 0) (.slice A8 m8 c8) F0_455.out FL460.out HLEN.out.1 HB452.out.size rfl rfl rfl (fun v457 W458 h1 h2 h3 => ?_)
            have HA459 := Lib.hid (And.intro h1 (And.intro h2 h3))
            clear h1 h2 h3
            have HB461 : Hid (Below X.heap.size X W458) := Lib.hid (HB452.out.grown HA459.out.2.1 HB452.out.size (fun j e => (F0_455.out.lt j e).1))
            have F4_462 : Hid (RowAt W458 b319 29 cf) := Lib.hid ((HA459.out.2.1.block _ F4_453.out.lt (fun e => by have h1 := NE456.out; simp [Value.ownBlock] at e; omega)).trans F4_453.out)
            have NE463 : Hid (v457.ownBlock ≠ some b319) := Lib.hid (fun e => ne_own HA459.out.2.2 (fun e => by have h1 := NE456.out; simp [Value.ownBlock] at e; omega) (by have h1 := F4_453.out.lt; omega) e)
            have F7_464 : Hid (RowAt W458 bb444 32 zb10) := Lib.hid ((HA459.out.2.1.block _ F7_454.out.lt (fun e => own_row_ne F0_455.out F7_454.out e)).trans F7_454.out)
            have F2_465 : Hid (OwnF W458 X.heap.size v457 L) := Lib.hid HA459.out.1
            obtain ⟨Aq466, mq466, cq466, rfl⟩ := own_slice F2_465.out
            refine hK.out _ _ HB461.out (fun _ => ?_)
            clear hK K
            try simp only [Act.put, List.setIfInBounds_toArray, List.set_cons_zero, List.set_cons_succ]
            refine wpAnyH_ready (rs := [5]) (by kernel_rfl) (by simp) ?_
            refine AllReadyH.cons (o := ⟨_, _, _, _, _, _⟩) rfl (fun K hK => ?_) AllReadyH.nil
            have NW470 := Lib.hid (row_new HCF.out F4_462.out)
            refine wp_append_fact (.tmp 55) (.tmp 57) X.heap.size L f b319 (.slice Aq466 mq466 cq466 : Value) F2_465.out HLEN.out.2.1 HB461.out.size NW470.out rfl rfl rfl (fun v467 W468 h1 h2 h3 => ?_)
            have HA469 := Lib.hid (And.intro h1 (And.intro h2 h3))
            clear h1 h2 h3
            have HB471 : Hid (Below X.heap.size X W468) := Lib.hid (HB461.out.grown HA469.out.2.1 HB461.out.size (fun j e => (F2_465.out.lt j e).1))
            have F7_472 : Hid (RowAt W468 bb444 32 zb10) := Lib.hid ((HA469.out.2.1.block _ F7_464.out.lt (fun e => own_row_ne F2_465.out F7_464.out e)).trans F7_464.out)
            have F2_473 : Hid (OwnF W468 X.heap.size v467 (L ++ [f])) := Lib.hid HA469.out.1
            obtain ⟨Aq474, mq474, cq474, rfl⟩ := own_slice F2_473.out
            refine hK.out _ _ HB471.out (fun _ => ?_)
            clear hK K
            try simp only [Act.put, List.setIfInBounds_toArray, List.set_cons_zero, List.set_cons_succ]
            refine wpAnyH_ready (rs := [6]) (by kernel_rfl) (by simp) ?_
            refine AllReadyH.cons (o := ⟨_, _, _, _, _, _⟩) rfl (fun K hK => ?_) AllReadyH.nil
            go_simp
            go_at_call 11
            refine (of_any (L ++ [f]) _ W468 HLEN.out.2.2 HOKF.out F2_473.out.facts).mono ?_
            rintro e W475 ⟨bs477, gs478, rfl, h1, h2, h3, h4⟩
            have HO476 := Lib.hid (And.intro h1 (And.intro h3 (And.intro h4 h2)))
            clear h1 h2 h3 h4
            go_wp2_with fail
            have D479 := Lib.hid HO476.out.2.2.2
            have HB480 := Lib.hid (HB471.out.trans (D479.out.mono HB471.out.size))
            have F7_481 := Lib.hid (F7_472.out.below D479.out F7_472.out.lt)
            have F6_482 := Lib.hid HO476.out.1
            refine hK.out _ _ HB480.out (fun _ => ?_)
            clear hK K
            try simp only [Act.put, List.setIfInBounds_toArray, List.set_cons_zero, List.set_cons_succ]
            refine wpAnyH_ready (rs := [8]) (by kernel_rfl) (by simp) ?_
            refine AllReadyH.cons (o := ⟨_, _, _, _, _, _⟩) rfl (fun K hK => ?_) AllReadyH.nil
            have HI483 : Hid ((Try.prog.info? 32).map (·.size) = some bs477.size ∧ zb10.size = bs477.size ∧ bs477.all (·.oneCell') = true) := Lib.hid ⟨by rw [F6_482.out.size]; exact base_size, by rw [F6_482.out.size]; rfl, F6_482.out.one⟩
            refine wp_store_row _ (.tmp 12) (.tmp 59) rfl bb444 bs477 rfl rfl _ zb10 F7_481.out HI483.out.1 HI483.out.2.1 HI483.out.2.2 ?_
            have HB484 : Hid (Below X.heap.size X (W475.setRow bb444 bs477)) := Lib.hid (below_setRow HB480.out F7_448.out.2)
            have F6_485 : Hid (Lists (W475.setRow bb444 bs477) _ bs477 _) := Lib.hid (F6_482.out.far F7_481.out bs477)
            have F7_486 : Hid (RowAt (W475.setRow bb444 bs477) bb444 32 bs477) := Lib.hid (setRow_at F7_481.out)
            refine hK.out _ _ HB484.out (fun _ => ?_)
            clear hK K
            try simp only [Act.put, List.setIfInBounds_toArray, List.set_cons_zero, List.set_cons_succ]
            refine wpAnyH_done (by kernel_rfl) ?_ _
            go_wp2_with fail
            go_meet
            case rel => exact ⟨bb444, bs477, gs478, rfl, Lib.hid ⟨F7_486.out, ⟨_, F6_485.out⟩, HO476.out.2.1, HO476.out.2.2.1, HB484.out⟩⟩
        · obtain ⟨bb487, hbb487⟩ : ∃ z, X.drew.heap.size = z := ⟨_, rfl⟩
          have Hbb487 := Lib.hid hbb487
          refine wp_alloc_base bb487 hbb487 rfl ?_
          clear hbb487
          have D488 := Lib.hid ((Below.refl X.drew.heap.size X.drew).alloc (Nat.le_refl _) (.cells zb10 32))
          have HB489 := Lib.hid (HB0.out.alloc HB0.out.size (.cells zb10 32))
          have F7_490 : Hid (RowAt (X.drew.alloc (.cells zb10 32)) bb487 32 zb10 ∧ X.heap.size ≤ bb487) := Lib.hid ⟨by rw [← Hbb487.out]; exact RowAt.new _ _ _, by rw [← Hbb487.out]; exact HB0.out.size⟩
          have F7_491 := Lib.hid F7_490.out.1
          refine hK.out _ _ HB489.out (fun _ => ?_)
          clear hK K
          try simp only [Act.put, List.setIfInBounds_toArray, List.set_cons_zero, List.set_cons_succ]
          refine wpAnyH_ready (rs := [0, 4]) (by kernel_rfl) (by simp) ?_
          refine AllReadyH.cons (o := ⟨_, _, _, _, _, _⟩) rfl (fun K hK => ?_) (AllReadyH.cons (o := ⟨_, _, _, _, _, _⟩) rfl (fun K hK => ?_) AllReadyH.nil)
          · obtain ⟨g492, hg492⟩ : ∃ z, (X.drew.alloc (.cells zb10 32)).heap.size = z := ⟨_, rfl⟩
            have Hg492 := Lib.hid hg492
            refine wp_build_nofacts g492 hg492 rfl ?_
            clear hg492
            have D493 := Lib.hid ((Below.refl (X.drew.alloc (.cells zb10 32)).heap.size (X.drew.alloc (.cells zb10 32))).alloc (Nat.le_refl _) (.cells #[] 29))
            have HB494 := Lib.hid (HB489.out.alloc HB489.out.size (.cells #[] 29))
            have F7_495 := Lib.hid (F7_491.out.below D493.out F7_491.out.lt)
            have F0_496 : Hid (OwnF ((X.drew.alloc (.cells zb10 32)).alloc (.cells #[] 29)) X.heap.size (.slice (some ⟨g492, 0, none⟩) 0 0) []) := Lib.hid (by rw [← Hg492.out]; exact OwnF.lower (own_zeroF (X.drew.alloc (.cells zb10 32))) HB489.out.size)
            refine hK.out _ _ HB494.out (fun _ => ?_)
            clear hK K
            try simp only [Act.put, List.setIfInBounds_toArray, List.set_cons_zero, List.set_cons_succ]
            refine wpAnyH_ready (rs := [2, 4]) (by kernel_rfl) (by simp) ?_
            refine AllReadyH.cons (o := ⟨_, _, _, _, _, _⟩) rfl (fun K hK => ?_) (AllReadyH.cons (o := ⟨_, _, _, _, _, _⟩) rfl (fun K hK => ?_) AllReadyH.nil)
            · have FL500 := Lib.hid (HFL.out.more HB494.out)
              refine wp_append_facts2 (.tmp 53) (.tmp 54) X.heap.size [] L (.slice (some ⟨g492, 0, none⟩) 0 0) (.slice A8 m8 c8) F0_496.out FL500.out HLEN.out.1 HB494.out.size rfl rfl rfl (fun v497 W498 h1 h2 h3 => ?_)
              have HA499 := Lib.hid (And.intro h1 (And.intro h2 h3))
              clear h1 h2 h3
              have HB501 : Hid (Below X.heap.size X W498) := Lib.hid (HB494.out.grown HA499.out.2.1 HB494.out.size (fun j e => (F0_496.out.lt j e).1))
              have F7_502 : Hid (RowAt W498 bb487 32 zb10) := Lib.hid ((HA499.out.2.1.block _ F7_495.out.lt (fun e => own_row_ne F0_496.out F7_495.out e)).trans F7_495.out)
              have F2_503 : Hid (OwnF W498 X.heap.size v497 L) := Lib.hid HA499.out.1
              obtain ⟨Aq504, mq504, cq504, rfl⟩ := own_slice F2_503.out
              refine hK.out _ _ HB501.out (fun _ => ?_)
              clear hK K
              try simp only [Act.put, List.setIfInBounds_toArray, List.set_cons_zero, List.set_cons_succ]
              refine wpAnyH_ready (rs := [4]) (by kernel_rfl) (by simp) ?_
              refine AllReadyH.cons (o := ⟨_, _, _, _, _, _⟩) rfl (fun K hK => ?_) AllReadyH.nil
              obtain ⟨b505, hb505⟩ : ∃ z, W498.heap.size = z := ⟨_, rfl⟩
              have Hb505 := Lib.hid hb505
              refine wp_build_factN (.tmp 56) f cf HCF.out b505 hb505 rfl rfl ?_
              clear hb505
              have NE506 : Hid ((.slice Aq504 mq504 cq504 : Value).ownBlock ≠ some b505) := Lib.hid (fun e => by have h1 := (own_lt F2_503.out e).2; have h2 := Hb505.out; omega)
              have D507 := Lib.hid ((Below.refl W498.heap.size W498).alloc (Nat.le_refl _) (.cells cf 29))
              have HB508 := Lib.hid (HB501.out.alloc HB501.out.size (.cells cf 29))
              have F2_509 := Lib.hid (F2_503.out.below D507.out)
              have F7_510 := Lib.hid (F7_502.out.below D507.out F7_502.out.lt)
              have F4_511 : Hid (RowAt (W498.alloc (.cells cf 29)) b505 29 cf) := Lib.hid (by rw [← Hb505.out]; exact RowAt.new _ _ _)
              refine hK.out _ _ HB508.out (fun _ => ?_)
              clear hK K
              try simp only [Act.put, List.setIfInBounds_toArray, List.set_cons_zero, List.set_cons_succ]
              refine wpAnyH_ready (rs := [5]) (by kernel_rfl) (by simp) ?_
              refine AllReadyH.cons (o := ⟨_, _, _, _, _, _⟩) rfl (fun K hK => ?_) AllReadyH.nil
              have NW515 := Lib.hid (row_new HCF.out F4_511.out)
              refine wp_append_fact (.tmp 55) (.tmp 57) X.heap.size L f b505 (.slice Aq504 mq504 cq504 : Value) F2_509.out HLEN.out.2.1 HB508.out.size NW515.out rfl rfl rfl (fun v512 W513 h1 h2 h3 => ?_)
              have HA514 := Lib.hid (And.intro h1 (And.intro h2 h3))
              clear h1 h2 h3
              have HB516 : Hid (Below X.heap.size X W513) := Lib.hid (HB508.out.grown HA514.out.2.1 HB508.out.size (fun j e => (F2_509.out.lt j e).1))
              have F7_517 : Hid (RowAt W513 bb487 32 zb10) := Lib.hid ((HA514.out.2.1.block _ F7_510.out.lt (fun e => own_row_ne F2_509.out F7_510.out e)).trans F7_510.out)
              have F2_518 : Hid (OwnF W513 X.heap.size v512 (L ++ [f])) := Lib.hid HA514.out.1
              obtain ⟨Aq519, mq519, cq519, rfl⟩ := own_slice F2_518.out
              refine hK.out _ _ HB516.out (fun _ => ?_)
              clear hK K
              try simp only [Act.put, List.setIfInBounds_toArray, List.set_cons_zero, List.set_cons_succ]
              refine wpAnyH_ready (rs := [6]) (by kernel_rfl) (by simp) ?_
              refine AllReadyH.cons (o := ⟨_, _, _, _, _, _⟩) rfl (fun K hK => ?_) AllReadyH.nil
              go_simp
              go_at_call 11
              refine (of_any (L ++ [f]) _ W513 HLEN.out.2.2 HOKF.out F2_518.out.facts).mono ?_
              rintro e W520 ⟨bs522, gs523, rfl, h1, h2, h3, h4⟩
              have HO521 := Lib.hid (And.intro h1 (And.intro h3 (And.intro h4 h2)))
              clear h1 h2 h3 h4
              go_wp2_with fail
              have D524 := Lib.hid HO521.out.2.2.2
              have HB525 := Lib.hid (HB516.out.trans (D524.out.mono HB516.out.size))
              have F7_526 := Lib.hid (F7_517.out.below D524.out F7_517.out.lt)
              have F6_527 := Lib.hid HO521.out.1
              refine hK.out _ _ HB525.out (fun _ => ?_)
              clear hK K
              try simp only [Act.put, List.setIfInBounds_toArray, List.set_cons_zero, List.set_cons_succ]
              refine wpAnyH_ready (rs := [8]) (by kernel_rfl) (by simp) ?_
              refine AllReadyH.cons (o := ⟨_, _, _, _, _, _⟩) rfl (fun K hK => ?_) AllReadyH.nil
              have HI528 : Hid ((Try.prog.info? 32).map (·.size) = some bs522.size ∧ zb10.size = bs522.size ∧ bs522.all (·.oneCell') = true) := Lib.hid ⟨by rw [F6_527.out.size]; exact base_size, by rw [F6_527.out.size]; rfl, F6_527.out.one⟩
              refine wp_store_row _ (.tmp 12) (.tmp 59) rfl bb487 bs522 rfl rfl _ zb10 F7_526.out HI528.out.1 HI528.out.2.1 HI528.out.2.2 ?_
              have HB529 : Hid (Below X.heap.size X (W520.setRow bb487 bs522)) := Lib.hid (below_setRow HB525.out F7_490.out.2)
              have F6_530 : Hid (Lists (W520.setRow bb487 bs522) _ bs522 _) := Lib.hid (F6_527.out.far F7_526.out bs522)
              have F7_531 : Hid (RowAt (W520.setRow bb487 bs522) bb487 32 bs522) := Lib.hid (setRow_at F7_526.out)
              refine hK.out _ _ HB529.out (fun _ => ?_)
              clear hK K
              try simp only [Act.put, List.setIfInBounds_toArray, List.set_cons_zero, List.set_cons_succ]
              refine wpAnyH_done (by kernel_rfl) ?_ _
              go_wp2_with fail
              go_meet
              case rel => exact ⟨bb487, bs522, gs523, rfl, Lib.hid ⟨F7_531.out, ⟨_, F6_530.out⟩, HO521.out.2.1, HO521.out.2.2.1, HB529.out⟩⟩
            · obtain ⟨b532, hb532⟩ : ∃ z, ((X.drew.alloc (.cells zb10 32)).alloc (.cells #[] 29)).heap.size = z := ⟨_, rfl⟩
              have Hb532 := Lib.hid hb532
              refine wp_build_factN (.tmp 56) f cf HCF.out b532 hb532 rfl rfl ?_
              clear hb532
              have NE533 : Hid ((.slice (some ⟨g492, 0, none⟩) 0 0 : Value).ownBlock ≠ some b532) := Lib.hid (fun e => by have h1 := (own_lt F0_496.out e).2; have h2 := Hb532.out; omega)
              have D534 := Lib.hid ((Below.refl ((X.drew.alloc (.cells zb10 32)).alloc (.cells #[] 29)).heap.size ((X.drew.alloc (.cells zb10 32)).alloc (.cells #[] 29))).alloc (Nat.le_refl _) (.cells cf 29))
              have HB535 := Lib.hid (HB494.out.alloc HB494.out.size (.cells cf 29))
              have F0_536 := Lib.hid (F0_496.out.below D534.out)
              have F7_537 := Lib.hid (F7_495.out.below D534.out F7_495.out.lt)
              have F4_538 : Hid (RowAt (((X.drew.alloc (.cells zb10 32)).alloc (.cells #[] 29)).alloc (.cells cf 29)) b532 29 cf) := Lib.hid (by rw [← Hb532.out]; exact RowAt.new _ _ _)
              refine hK.out _ _ HB535.out (fun _ => ?_)
              clear hK K
              try simp only [Act.put, List.setIfInBounds_toArray, List.set_cons_zero, List.set_cons_succ]
              refine wpAnyH_ready (rs := [2]) (by kernel_rfl) (by simp) ?_
              refine AllReadyH.cons (o := ⟨_, _, _, _, _, _⟩) rfl (fun K hK => ?_) AllReadyH.nil
              have FL542 := Lib.hid (HFL.out.more HB535.out)
              refine wp_append_facts2 (.tmp 53) (.tmp 54) X.heap.size [] L (.slice (some ⟨g492, 0, none⟩) 0 0) (.slice A8 m8 c8) F0_536.out FL542.out HLEN.out.1 HB535.out.size rfl rfl rfl (fun v539 W540 h1 h2 h3 => ?_)
              have HA541 := Lib.hid (And.intro h1 (And.intro h2 h3))
              clear h1 h2 h3
              have HB543 : Hid (Below X.heap.size X W540) := Lib.hid (HB535.out.grown HA541.out.2.1 HB535.out.size (fun j e => (F0_536.out.lt j e).1))
              have F4_544 : Hid (RowAt W540 b532 29 cf) := Lib.hid ((HA541.out.2.1.block _ F4_538.out.lt (fun e => by exact NE533.out e.symm)).trans F4_538.out)
              have NE545 : Hid (v539.ownBlock ≠ some b532) := Lib.hid (fun e => ne_own HA541.out.2.2 (fun e => by exact NE533.out e) (by have h1 := F4_538.out.lt; omega) e)
              have F7_546 : Hid (RowAt W540 bb487 32 zb10) := Lib.hid ((HA541.out.2.1.block _ F7_537.out.lt (fun e => own_row_ne F0_536.out F7_537.out e)).trans F7_537.out)
              have F2_547 : Hid (OwnF W540 X.heap.size v539 L) := Lib.hid HA541.out.1
              obtain ⟨Aq548, mq548, cq548, rfl⟩ := own_slice F2_547.out
              refine hK.out _ _ HB543.out (fun _ => ?_)
              clear hK K
              try simp only [Act.put, List.setIfInBounds_toArray, List.set_cons_zero, List.set_cons_succ]
              refine wpAnyH_ready (rs := [5]) (by kernel_rfl) (by simp) ?_
              refine AllReadyH.cons (o := ⟨_, _, _, _, _, _⟩) rfl (fun K hK => ?_) AllReadyH.nil
              have NW552 := Lib.hid (row_new HCF.out F4_544.out)
              refine wp_append_fact (.tmp 55) (.tmp 57) X.heap.size L f b532 (.slice Aq548 mq548 cq548 : Value) F2_547.out HLEN.out.2.1 HB543.out.size NW552.out rfl rfl rfl (fun v549 W550 h1 h2 h3 => ?_)
              have HA551 := Lib.hid (And.intro h1 (And.intro h2 h3))
              clear h1 h2 h3
              have HB553 : Hid (Below X.heap.size X W550) := Lib.hid (HB543.out.grown HA551.out.2.1 HB543.out.size (fun j e => (F2_547.out.lt j e).1))
              have F7_554 : Hid (RowAt W550 bb487 32 zb10) := Lib.hid ((HA551.out.2.1.block _ F7_546.out.lt (fun e => own_row_ne F2_547.out F7_546.out e)).trans F7_546.out)
              have F2_555 : Hid (OwnF W550 X.heap.size v549 (L ++ [f])) := Lib.hid HA551.out.1
              obtain ⟨Aq556, mq556, cq556, rfl⟩ := own_slice F2_555.out
              refine hK.out _ _ HB553.out (fun _ => ?_)
              clear hK K
              try simp only [Act.put, List.setIfInBounds_toArray, List.set_cons_zero, List.set_cons_succ]
              refine wpAnyH_ready (rs := [6]) (by kernel_rfl) (by simp) ?_
              refine AllReadyH.cons (o := ⟨_, _, _, _, _, _⟩) rfl (fun K hK => ?_) AllReadyH.nil
              go_simp
              go_at_call 11
              refine (of_any (L ++ [f]) _ W550 HLEN.out.2.2 HOKF.out F2_555.out.facts).mono ?_
              rintro e W557 ⟨bs559, gs560, rfl, h1, h2, h3, h4⟩
              have HO558 := Lib.hid (And.intro h1 (And.intro h3 (And.intro h4 h2)))
              clear h1 h2 h3 h4
              go_wp2_with fail
              have D561 := Lib.hid HO558.out.2.2.2
              have HB562 := Lib.hid (HB553.out.trans (D561.out.mono HB553.out.size))
              have F7_563 := Lib.hid (F7_554.out.below D561.out F7_554.out.lt)
              have F6_564 := Lib.hid HO558.out.1
              refine hK.out _ _ HB562.out (fun _ => ?_)
              clear hK K
              try simp only [Act.put, List.setIfInBounds_toArray, List.set_cons_zero, List.set_cons_succ]
              refine wpAnyH_ready (rs := [8]) (by kernel_rfl) (by simp) ?_
              refine AllReadyH.cons (o := ⟨_, _, _, _, _, _⟩) rfl (fun K hK => ?_) AllReadyH.nil
              have HI565 : Hid ((Try.prog.info? 32).map (·.size) = some bs559.size ∧ zb10.size = bs559.size ∧ bs559.all (·.oneCell') = true) := Lib.hid ⟨by rw [F6_564.out.size]; exact base_size, by rw [F6_564.out.size]; rfl, F6_564.out.one⟩
              refine wp_store_row _ (.tmp 12) (.tmp 59) rfl bb487 bs559 rfl rfl _ zb10 F7_563.out HI565.out.1 HI565.out.2.1 HI565.out.2.2 ?_
              have HB566 : Hid (Below X.heap.size X (W557.setRow bb487 bs559)) := Lib.hid (below_setRow HB562.out F7_490.out.2)
              have F6_567 : Hid (Lists (W557.setRow bb487 bs559) _ bs559 _) := Lib.hid (F6_564.out.far F7_563.out bs559)
              have F7_568 : Hid (RowAt (W557.setRow bb487 bs559) bb487 32 bs559) := Lib.hid (setRow_at F7_563.out)
              refine hK.out _ _ HB566.out (fun _ => ?_)
              clear hK K
              try simp only [Act.put, List.setIfInBounds_toArray, List.set_cons_zero, List.set_cons_succ]
              refine wpAnyH_done (by kernel_rfl) ?_ _
              go_wp2_with fail
              go_meet
              case rel => exact ⟨bb487, bs559, gs560, rfl, Lib.hid ⟨F7_568.out, ⟨_, F6_567.out⟩, HO558.out.2.1, HO558.out.2.2.1, HB566.out⟩⟩
          · obtain ⟨b569, hb569⟩ : ∃ z, (X.drew.alloc (.cells zb10 32)).heap.size = z := ⟨_, rfl⟩
            have Hb569 := Lib.hid hb569
            refine wp_build_factN (.tmp 56) f cf HCF.out b569 hb569 rfl rfl ?_
            clear hb569
            have D570 := Lib.hid ((Below.refl (X.drew.alloc (.cells zb10 32)).heap.size (X.drew.alloc (.cells zb10 32))).alloc (Nat.le_refl _) (.cells cf 29))
            have HB571 := Lib.hid (HB489.out.alloc HB489.out.size (.cells cf 29))
            have F7_572 := Lib.hid (F7_491.out.below D570.out F7_491.out.lt)
            have F4_573 : Hid (RowAt ((X.drew.alloc (.cells zb10 32)).alloc (.cells cf 29)) b569 29 cf) := Lib.hid (by rw [← Hb569.out]; exact RowAt.new _ _ _)
            refine hK.out _ _ HB571.out (fun _ => ?_)
            clear hK K
            try simp only [Act.put, List.setIfInBounds_toArray, List.set_cons_zero, List.set_cons_succ]
            refine wpAnyH_ready (rs := [0]) (by kernel_rfl) (by simp) ?_
            refine AllReadyH.cons (o := ⟨_, _, _, _, _, _⟩) rfl (fun K hK => ?_) AllReadyH.nil
            obtain ⟨g574, hg574⟩ : ∃ z, ((X.drew.alloc (.cells zb10 32)).alloc (.cells cf 29)).heap.size = z := ⟨_, rfl⟩
            have Hg574 := Lib.hid hg574
            refine wp_build_nofacts g574 hg574 rfl ?_
            clear hg574
            have D575 := Lib.hid ((Below.refl ((X.drew.alloc (.cells zb10 32)).alloc (.cells cf 29)).heap.size ((X.drew.alloc (.cells zb10 32)).alloc (.cells cf 29))).alloc (Nat.le_refl _) (.cells #[] 29))
            have HB576 := Lib.hid (HB571.out.alloc HB571.out.size (.cells #[] 29))
            have F4_577 := Lib.hid (F4_573.out.below D575.out F4_573.out.lt)
            have F7_578 := Lib.hid (F7_572.out.below D575.out F7_572.out.lt)
            have F0_579 : Hid (OwnF (((X.drew.alloc (.cells zb10 32)).alloc (.cells cf 29)).alloc (.cells #[] 29)) X.heap.size (.slice (some ⟨g574, 0, none⟩) 0 0) []) := Lib.hid (by rw [← Hg574.out]; exact OwnF.lower (own_zeroF ((X.drew.alloc (.cells zb10 32)).alloc (.cells cf 29))) HB571.out.size)
            have NE580 : Hid (b569 ≠ g574) := Lib.hid (by have h1 := Hg574.out; have h2 := F4_573.out.lt; omega)
            refine hK.out _ _ HB576.out (fun _ => ?_)
            clear hK K
            try simp only [Act.put, List.setIfInBounds_toArray, List.set_cons_zero, List.set_cons_succ]
            refine wpAnyH_ready (rs := [2]) (by kernel_rfl) (by simp) ?_
            refine AllReadyH.cons (o := ⟨_, _, _, _, _, _⟩) rfl (fun K hK => ?_) AllReadyH.nil
            have FL584 := Lib.hid (HFL.out.more HB576.out)
            refine wp_append_facts2 (.tmp 53) (.tmp 54) X.heap.size [] L (.slice (some ⟨g574, 0, none⟩) 0 0) (.slice A8 m8 c8) F0_579.out FL584.out HLEN.out.1 HB576.out.size rfl rfl rfl (fun v581 W582 h1 h2 h3 => ?_)
            have HA583 := Lib.hid (And.intro h1 (And.intro h2 h3))
            clear h1 h2 h3
            have HB585 : Hid (Below X.heap.size X W582) := Lib.hid (HB576.out.grown HA583.out.2.1 HB576.out.size (fun j e => (F0_579.out.lt j e).1))
            have F4_586 : Hid (RowAt W582 b569 29 cf) := Lib.hid ((HA583.out.2.1.block _ F4_577.out.lt (fun e => by have h1 := NE580.out; simp [Value.ownBlock] at e; omega)).trans F4_577.out)
            have NE587 : Hid (v581.ownBlock ≠ some b569) := Lib.hid (fun e => ne_own HA583.out.2.2 (fun e => by have h1 := NE580.out; simp [Value.ownBlock] at e; omega) (by have h1 := F4_577.out.lt; omega) e)
            have F7_588 : Hid (RowAt W582 bb487 32 zb10) := Lib.hid ((HA583.out.2.1.block _ F7_578.out.lt (fun e => own_row_ne F0_579.out F7_578.out e)).trans F7_578.out)
            have F2_589 : Hid (OwnF W582 X.heap.size v581 L) := Lib.hid HA583.out.1
            obtain ⟨Aq590, mq590, cq590, rfl⟩ := own_slice F2_589.out
            refine hK.out _ _ HB585.out (fun _ => ?_)
            clear hK K
            try simp only [Act.put, List.setIfInBounds_toArray, List.set_cons_zero, List.set_cons_succ]
            refine wpAnyH_ready (rs := [5]) (by kernel_rfl) (by simp) ?_
            refine AllReadyH.cons (o := ⟨_, _, _, _, _, _⟩) rfl (fun K hK => ?_) AllReadyH.nil
            have NW594 := Lib.hid (row_new HCF.out F4_586.out)
            refine wp_append_fact (.tmp 55) (.tmp 57) X.heap.size L f b569 (.slice Aq590 mq590 cq590 : Value) F2_589.out HLEN.out.2.1 HB585.out.size NW594.out rfl rfl rfl (fun v591 W592 h1 h2 h3 => ?_)
            have HA593 := Lib.hid (And.intro h1 (And.intro h2 h3))
            clear h1 h2 h3
            have HB595 : Hid (Below X.heap.size X W592) := Lib.hid (HB585.out.grown HA593.out.2.1 HB585.out.size (fun j e => (F2_589.out.lt j e).1))
            have F7_596 : Hid (RowAt W592 bb487 32 zb10) := Lib.hid ((HA593.out.2.1.block _ F7_588.out.lt (fun e => own_row_ne F2_589.out F7_588.out e)).trans F7_588.out)
            have F2_597 : Hid (OwnF W592 X.heap.size v591 (L ++ [f])) := Lib.hid HA593.out.1
            obtain ⟨Aq598, mq598, cq598, rfl⟩ := own_slice F2_597.out
            refine hK.out _ _ HB595.out (fun _ => ?_)
            clear hK K
            try simp only [Act.put, List.setIfInBounds_toArray, List.set_cons_zero, List.set_cons_succ]
            refine wpAnyH_ready (rs := [6]) (by kernel_rfl) (by simp) ?_
            refine AllReadyH.cons (o := ⟨_, _, _, _, _, _⟩) rfl (fun K hK => ?_) AllReadyH.nil
            go_simp
            go_at_call 11
            refine (of_any (L ++ [f]) _ W592 HLEN.out.2.2 HOKF.out F2_597.out.facts).mono ?_
            rintro e W599 ⟨bs601, gs602, rfl, h1, h2, h3, h4⟩
            have HO600 := Lib.hid (And.intro h1 (And.intro h3 (And.intro h4 h2)))
            clear h1 h2 h3 h4
            go_wp2_with fail
            have D603 := Lib.hid HO600.out.2.2.2
            have HB604 := Lib.hid (HB595.out.trans (D603.out.mono HB595.out.size))
            have F7_605 := Lib.hid (F7_596.out.below D603.out F7_596.out.lt)
            have F6_606 := Lib.hid HO600.out.1
            refine hK.out _ _ HB604.out (fun _ => ?_)
            clear hK K
            try simp only [Act.put, List.setIfInBounds_toArray, List.set_cons_zero, List.set_cons_succ]
            refine wpAnyH_ready (rs := [8]) (by kernel_rfl) (by simp) ?_
            refine AllReadyH.cons (o := ⟨_, _, _, _, _, _⟩) rfl (fun K hK => ?_) AllReadyH.nil
            have HI607 : Hid ((Try.prog.info? 32).map (·.size) = some bs601.size ∧ zb10.size = bs601.size ∧ bs601.all (·.oneCell') = true) := Lib.hid ⟨by rw [F6_606.out.size]; exact base_size, by rw [F6_606.out.size]; rfl, F6_606.out.one⟩
            refine wp_store_row _ (.tmp 12) (.tmp 59) rfl bb487 bs601 rfl rfl _ zb10 F7_605.out HI607.out.1 HI607.out.2.1 HI607.out.2.2 ?_
            have HB608 : Hid (Below X.heap.size X (W599.setRow bb487 bs601)) := Lib.hid (below_setRow HB604.out F7_490.out.2)
            have F6_609 : Hid (Lists (W599.setRow bb487 bs601) _ bs601 _) := Lib.hid (F6_606.out.far F7_605.out bs601)
            have F7_610 : Hid (RowAt (W599.setRow bb487 bs601) bb487 32 bs601) := Lib.hid (setRow_at F7_605.out)
            refine hK.out _ _ HB608.out (fun _ => ?_)
            clear hK K
            try simp only [Act.put, List.setIfInBounds_toArray, List.set_cons_zero, List.set_cons_succ]
            refine wpAnyH_done (by kernel_rfl) ?_ _
            go_wp2_with fail
            go_meet
            case rel => exact ⟨bb487, bs601, gs602, rfl, Lib.hid ⟨F7_610.out, ⟨_, F6_609.out⟩, HO600.out.2.1, HO600.out.2.2.1, HB608.out⟩⟩
      case rest =>
        obtain ⟨NB, bs2, gs, rfl, HC⟩ := hcut
        obtain ⟨b0, hl2⟩ := HC.out.2.1
        have HI6 : Hid ((Try.prog.info? 32).map (·.size) = some bs2.size) := Lib.hid (by rw [hl2.size]; exact base_size)
        have HE6 : Hid (EffW w N NA NB cf bs1 bs2 fs gs wc) := Lib.hid ⟨HXF.out.below HC.out.2.2.2.2 HXF.out.lt, HXA.out.below HC.out.2.2.2.2 HXA.out.lt, HC.out.1, (H5.out.1.read.more HXB.out.2).more HC.out.2.2.2.2, hl2.read, HXB.out.1.trans (HC.out.2.2.2.2.mono HXB.out.1.size)⟩
        have HLF := Lib.hid (facts_of hl2 HC.out.2.2.1 HC.out.2.2.2.1 (by have := HLL.out; rw [List.length_append, List.length_singleton]; omega))
        have HLB : Hid (∀ j v, bs2[j]? = some v → wc.cell? ⟨NB, 0 + j, none⟩ = some v) := Lib.hid (fun j v hv => by rw [Nat.zero_add, HC.out.1.cell]; exact hv)
        clear hl2
        go_wp2_with (first | ((with_reducible refine load_base (o := ⟨some 60, _, _, _, _, _⟩) (.tmp 12) NB bs2 HLB.out HI6.out ?_ ?_ ?_ ?_); rfl; rfl; rfl))
        refine HLF.out.mono ?_
        rintro e W6 ⟨v14, rfl, ho14, hb6⟩
        have HE7 : Hid (EffW w N NA NB cf bs1 bs2 fs gs W6) := Lib.hid (HE6.out.more hb6)
        have HF14 : Hid (FactsAt W6 v14 gs) := Lib.hid ho14.facts
        obtain ⟨A14, c14, rfl⟩ := ho14.facts.sl
        obtain ⟨n, hn⟩ : ∃ z, gs.length = z := ⟨_, rfl⟩
        rw [hn] at HF14 ⊢
        have HN := Lib.hid hn
        have hn2 : n ≤ 101 := by have h1 := perm_len HC.out.2.2.1 (n := 101) (by have := HLL.out; rw [List.length_append, List.length_singleton]; omega); omega
        clear ho14 hb6 hn
        go_wp2_with fail
        go_loopw [13, 15, 16] (fun v13 v15 v16 wr => ∃ i : Nat, v15 = .int .i64 i ∧ i ≤ n ∧ v13 = .bool (laterL f q (gs.take i)) ∧ Hid (Below W6.heap.size W6 wr)) (fun _ v15 _ _ => n - (RowKit.intOf v15).toNat)
        case atStart => exact ⟨0, rfl, by omega, rfl, Lib.hid (Below.refl _ _)⟩
        case round =>
          obtain ⟨i, rfl, hi, rfl, HS⟩ := hrel
          by_cases h1 : i < n
          · have h1d : decide (i < n) = true := by simpa using h1
            obtain ⟨gg, hgg⟩ : ∃ x, gs[i]? = some x := ⟨_, List.getElem?_eq_getElem (by have := HN.out; omega)⟩
            obtain ⟨b, o, rfl, hlt, hcell⟩ := (HF14.out.more HS.out).get hgg
            have HCE := Lib.hid hcell
            have HLT : Hid (laterL f q (gs.take (i + 1)) = (laterL f q (gs.take i) || laterB f q gg)) := Lib.hid (later_take hgg)
            have HQI : Hid ((Try.prog.info? 29).map (·.size) = some gg.cells.size ∧ gg.cells.all (·.oneCell') = true ∧ z18e.size = gg.cells.size) := Lib.hid ⟨fact_size, gg.cells_one, rfl⟩
            have hrg := RowAt.new wr 29 gg.cells
            have hrf := (HE7.out.rowF.below HS.out HE7.out.rowF.lt).alloc (.cells gg.cells 29)
            have HBW : Hid (Below W6.heap.size W6 (wr.alloc (.cells gg.cells 29))) := Lib.hid (HS.out.alloc HS.out.size _)
            have g0 : (wr.alloc (.cells gg.cells 29)).cell? ⟨wr.heap.size, 0, none⟩ = some (.int .i64 (gg.n 0)) := by rw [hrg.cell, cells_get gg 0 (by omega)]
            have g9 : (wr.alloc (.cells gg.cells 29)).cell? ⟨wr.heap.size, 9, none⟩ = some (.int .i64 (gg.n 9)) := by rw [hrg.cell, cells_get gg 9 (by omega)]
            have g8 : (wr.alloc (.cells gg.cells 29)).cell? ⟨wr.heap.size, 8, none⟩ = some (.int .i64 (gg.n 8)) := by rw [hrg.cell, cells_get gg 8 (by omega)]
            have g11 : (wr.alloc (.cells gg.cells 29)).cell? ⟨wr.heap.size, 11, none⟩ = some (.int .i64 (gg.n 11)) := by rw [hrg.cell, cells_get gg 11 (by omega)]
            have f0 : (wr.alloc (.cells gg.cells 29)).cell? ⟨N, 0, none⟩ = some (.int .i64 (f.n 0)) := by rw [hrf.cell, ← HCF.out, cells_get f 0 (by omega)]
            have f9 : (wr.alloc (.cells gg.cells 29)).cell? ⟨N, 9, none⟩ = some (.int .i64 (f.n 9)) := by rw [hrf.cell, ← HCF.out, cells_get f 9 (by omega)]
            have f8 : (wr.alloc (.cells gg.cells 29)).cell? ⟨N, 8, none⟩ = some (.int .i64 (f.n 8)) := by rw [hrf.cell, ← HCF.out, cells_get f 8 (by omega)]
            have f11 : (wr.alloc (.cells gg.cells 29)).cell? ⟨N, 11, none⟩ = some (.int .i64 (f.n 11)) := by rw [hrf.cell, ← HCF.out, cells_get f 11 (by omega)]
            have HLB2 : Hid (laterB f q gg = (gg.n 0 == f.n 0 && (gg.n 9 == f.n 9 && (gg.n 8 == f.n 8 && (decide (f.n 11 < gg.n 11) && decide (gg.n 11 ≤ (q : Int))))))) := Lib.hid rfl
            obtain ⟨lt0, hlt0⟩ : ∃ z, laterL f q (gs.take i) = z := ⟨_, rfl⟩
            rw [hlt0] at HLT ⊢
            have H1 := Lib.hid h1
            clear hgg hcell hlt hrg hrf hlt0
            go_wp2_with (first | ((with_reducible refine load_at (o := ⟨some 71, _, _, _, _, _⟩) (.tmp 70) b (o + i * 18) gg.cells HCE.out HQI.out.1 ?_ ?_ ?_ ?_); rfl; rfl; rfl) | ((with_reducible refine store_cs (o := ⟨none, _, _, _, _, _⟩) (.tmp 16) (.tmp 71) wr.heap.size rfl _ gg.cells HQI.out.1 HQI.out.2.1 HQI.out.2.2 ?_ ?_ ?_ ?_ ?_); rfl; rfl; rfl; rfl))
            all_goals
              go_roundw
              case rel =>
                refine ⟨i + 1, by go_num, by have := H1.out; omega, ?_, HBW⟩
                rw [HLT.out, HLB2.out]
                simp [*]
              case measure => simp [RowKit.intOf]; have := H1.out; omega
          · obtain rfl : i = n := by omega
            have h1d : decide (i < i) = false := by simp
            have HEE := Lib.hid (HE7.out.more HS.out)
            have hrf := HEE.out.rowF
            have f0 : wr.cell? ⟨N, 0, none⟩ = some (.int .i64 (f.n 0)) := by rw [hrf.cell, ← HCF.out, cells_get f 0 (by omega)]
            have f9 : wr.cell? ⟨N, 9, none⟩ = some (.int .i64 (f.n 9)) := by rw [hrf.cell, ← HCF.out, cells_get f 9 (by omega)]
            have f8 : wr.cell? ⟨N, 8, none⟩ = some (.int .i64 (f.n 8)) := by rw [hrf.cell, ← HCF.out, cells_get f 8 (by omega)]
            have f11 : wr.cell? ⟨N, 11, none⟩ = some (.int .i64 (f.n 11)) := by rw [hrf.cell, ← HCF.out, cells_get f 11 (by omega)]
            have htk : gs.take i = gs := List.take_of_length_le (by rw [HN.out]; omega)
            rw [htk]
            have HNA2 : Hid ((∀ q, ((fun q => fs.filter (kindF q)) q).length ≤ 1000000) ∧ ∀ q, ((fun q => gs.filter (kindF q)) q).length ≤ 1000000) := Lib.hid ⟨perm_kind_len H5.out.2.1 1000000 (by have := HLL.out; omega), perm_kind_len HC.out.2.2.1 1000000 (by have := HLL.out; rw [List.length_append, List.length_singleton]; omega)⟩
            obtain ⟨lt, hlt⟩ : ∃ z, laterL f q gs = z := ⟨_, rfl⟩
            have HLTS := Lib.hid hlt
            rw [hlt]
            clear hrf htk hlt
            rcases HKK.out with rfl | rfl | rfl
            · have f0b : wr.cell? ⟨N, 0, none⟩ = some (.int .i64 4) := by rw [f0, HK0.out]; rfl
              clear f0
              by_cases hbq : (q : Int) < f.n 11
              · have hbd : decide ((q : Int) < f.n 11) = true := by simpa using hbq
                have hlaw := effect_contract (q : Int) HLV.out HFG.out.2.1 HVF.out HFG.out.2.2 H5.out.2.1 HC.out.2.2.1 H5.out.2.2.1 HC.out.2.2.2.1 HK0.out
                have HRA : Hid (∀ W, BaseR W bs1 (fun q => fs.filter (kindF q)) → Calls Try.prog 19 #[.agg bs1, .int .i64 (f.n 9), .int .i64 (q : Int)] W fun e w' => e = .returned (.tuple #[.agg ((contractF (fun q => fs.filter (kindF q)) (f.n 9) (q : Int)).getD zf).cells, .bool (contractF (fun q => fs.filter (kindF q)) (f.n 9) (q : Int)).isSome]) ∧ Below W.heap.size W w') := Lib.hid (fun W h => contract_any bs1 (fun q => fs.filter (kindF q)) (f.n 9) (q : Int) W h HNA2.out.1)
                have HRB : Hid (∀ W, BaseR W bs2 (fun q => gs.filter (kindF q)) → Calls Try.prog 19 #[.agg bs2, .int .i64 (f.n 9), .int .i64 (q : Int)] W fun e w' => e = .returned (.tuple #[.agg ((contractF (fun q => gs.filter (kindF q)) (f.n 9) (q : Int)).getD zf).cells, .bool (contractF (fun q => gs.filter (kindF q)) (f.n 9) (q : Int)).isSome]) ∧ Below W.heap.size W w') := Lib.hid (fun W h => contract_any bs2 (fun q => gs.filter (kindF q)) (f.n 9) (q : Int) W h HNA2.out.2)
                have heq := hlaw.1 (.inl hbq)
                have HRA2 := HRA.out
                have HRB2 := HRB.out
                rw [← heq] at HRB2
                obtain ⟨R, hR⟩ : ∃ z, contractF (fun q => fs.filter (kindF q)) (f.n 9) (q : Int) = z := ⟨_, rfl⟩
                rw [hR] at HRA2 HRB2
                obtain ⟨r1, hr1⟩ : ∃ z, R.getD zf = z := ⟨_, rfl⟩
                obtain ⟨r2, hr2⟩ : ∃ z, R.getD zf = z := ⟨_, rfl⟩
                have HSR : Hid (sameF r1 r2 = true) := Lib.hid (by rw [← hr1, ← hr2]; exact sameF_refl _)
                have HA : Hid (∀ W, BaseR W bs1 (fun q => fs.filter (kindF q)) → Calls Try.prog 19 #[.agg bs1, .int .i64 (f.n 9), .int .i64 (q : Int)] W fun e w' => e = .returned (.tuple #[.agg r1.cells, .bool R.isSome]) ∧ Below W.heap.size W w') := Lib.hid (by rw [← hr1]; exact HRA2)
                have HB : Hid (∀ W, BaseR W bs2 (fun q => gs.filter (kindF q)) → Calls Try.prog 19 #[.agg bs2, .int .i64 (f.n 9), .int .i64 (q : Int)] W fun e w' => e = .returned (.tuple #[.agg r2.cells, .bool R.isSome]) ∧ Below W.heap.size W w') := Lib.hid (by rw [← hr2]; exact HRB2)
                clear hlaw heq HRA HRB HRA2 HRB2 hR hr1 hr2
                have HQ1 : Hid ((Try.prog.info? 29).map (·.size) = some r1.cells.size ∧ r1.cells.all (·.oneCell') = true ∧ z18e.size = r1.cells.size) := Lib.hid ⟨fact_size, r1.cells_one, rfl⟩
                have HQ2 : Hid ((Try.prog.info? 29).map (·.size) = some r2.cells.size ∧ r2.cells.all (·.oneCell') = true ∧ z18e.size = r2.cells.size) := Lib.hid ⟨fact_size, r2.cells_one, rfl⟩
                go_wp2_with (first | ((with_reducible refine load_base (o := ⟨some 119, _, _, _, _, _⟩) (.tmp 11) NA bs1 (fun j v h => by rw [Nat.zero_add, HEE.out.rowA.cell]; exact h) HI5.out.1 ?_ ?_ ?_ ?_); rfl; rfl; rfl))
                refine (HA.out _ HEE.out.ra).mono ?_
                rintro e W7 ⟨rfl, hb7⟩
                have HE8 := Lib.hid ((HEE.out.more hb7).more ((Below.refl _ _).alloc (Nat.le_refl _) (.cells r1.cells 29)))
                have HC8 : Hid (RowAt (W7.alloc (.cells r1.cells 29)) W7.heap.size 29 r1.cells) := Lib.hid (RowAt.new _ _ _)
                clear hb7
                have f9b : (W7.alloc (.cells r1.cells 29)).cell? ⟨N, 9, none⟩ = some (.int .i64 (f.n 9)) := by rw [HE8.out.rowF.cell, ← HCF.out, cells_get f 9 (by omega)]
                go_wp2_with (first | ((with_reducible refine store_cs (o := ⟨none, _, _, _, _, _⟩) (.tmp 18) (.tmp 124) W7.heap.size rfl _ r1.cells HQ1.out.1 HQ1.out.2.1 HQ1.out.2.2 ?_ ?_ ?_ ?_ ?_); rfl; rfl; rfl; rfl) | ((with_reducible refine load_base (o := ⟨some 127, _, _, _, _, _⟩) (.tmp 12) NB bs2 (fun j v h => by rw [Nat.zero_add, HE8.out.rowB.cell]; exact h) HI6.out ?_ ?_ ?_ ?_); rfl; rfl; rfl))
                refine (HB.out _ HE8.out.rb).mono ?_
                rintro e W8 ⟨rfl, hb8⟩
                have HE9 := Lib.hid ((HE8.out.more hb8).more ((Below.refl _ _).alloc (Nat.le_refl _) (.cells r2.cells 29)))
                have HC9 : Hid (RowAt (W8.alloc (.cells r2.cells 29)) W7.heap.size 29 r1.cells) := Lib.hid ((HC8.out.below hb8 HC8.out.lt).alloc _)
                have HD9 : Hid (RowAt (W8.alloc (.cells r2.cells 29)) W8.heap.size 29 r2.cells) := Lib.hid (RowAt.new _ _ _)
                clear hb8
                go_wp2_with (first | ((with_reducible refine store_cs (o := ⟨none, _, _, _, _, _⟩) (.tmp 20) (.tmp 132) W8.heap.size rfl _ r2.cells HQ2.out.1 HQ2.out.2.1 HQ2.out.2.2 ?_ ?_ ?_ ?_ ?_); rfl; rfl; rfl; rfl) | ((with_reducible refine load_csg (o := ⟨some 138, _, _, _, _, _⟩) (.tmp 18) W7.heap.size r1.cells (fun j v h => by rw [Nat.zero_add, HC9.out.cell]; exact h) HQ1.out.1 ?_ ?_ ?_ ?_); rfl; rfl; rfl) | ((with_reducible refine load_csg (o := ⟨some 139, _, _, _, _, _⟩) (.tmp 20) W8.heap.size r2.cells (fun j v h => by rw [Nat.zero_add, HD9.out.cell]; exact h) HQ2.out.1 ?_ ?_ ?_ ?_); rfl; rfl; rfl))
                have HSM := fsame_any r1 r2 (W8.alloc (.cells r2.cells 29))
                rw [HSR.out] at HSM
                refine HSM.mono ?_
                rintro e W9 ⟨rfl, hb9⟩
                have HB9 := Lib.hid (HE9.out.below.trans (hb9.mono HE9.out.below.size))
                clear hb9 HSM
                go_wp2_with fail
                go_ret
                exact ⟨rfl, HB9.out⟩
              · have hbd : decide ((q : Int) < f.n 11) = false := by simp; omega
                cases lt
                · have hlaw := effect_contract (q : Int) HLV.out HFG.out.2.1 HVF.out HFG.out.2.2 H5.out.2.1 HC.out.2.2.1 H5.out.2.2.1 HC.out.2.2.2.1 HK0.out
                  have HRA : Hid (∀ W, BaseR W bs1 (fun q => fs.filter (kindF q)) → Calls Try.prog 19 #[.agg bs1, .int .i64 (f.n 9), .int .i64 (q : Int)] W fun e w' => e = .returned (.tuple #[.agg ((contractF (fun q => fs.filter (kindF q)) (f.n 9) (q : Int)).getD zf).cells, .bool (contractF (fun q => fs.filter (kindF q)) (f.n 9) (q : Int)).isSome]) ∧ Below W.heap.size W w') := Lib.hid (fun W h => contract_any bs1 (fun q => fs.filter (kindF q)) (f.n 9) (q : Int) W h HNA2.out.1)
                  have HRB : Hid (∀ W, BaseR W bs2 (fun q => gs.filter (kindF q)) → Calls Try.prog 19 #[.agg bs2, .int .i64 (f.n 9), .int .i64 (q : Int)] W fun e w' => e = .returned (.tuple #[.agg ((contractF (fun q => gs.filter (kindF q)) (f.n 9) (q : Int)).getD zf).cells, .bool (contractF (fun q => gs.filter (kindF q)) (f.n 9) (q : Int)).isSome]) ∧ Below W.heap.size W w') := Lib.hid (fun W h => contract_any bs2 (fun q => gs.filter (kindF q)) (f.n 9) (q : Int) W h HNA2.out.2)
                  have heq := hlaw.2 hbq HLTS.out
                  have HRA2 := HRA.out
                  have HRB2 := HRB.out
                  rw [heq] at HRB2
                  obtain ⟨R, hR⟩ : ∃ z, contractF (fun q => fs.filter (kindF q)) (f.n 9) (q : Int) = z := ⟨_, rfl⟩
                  rw [hR] at HRA2
                  obtain ⟨r1, hr1⟩ : ∃ z, R.getD zf = z := ⟨_, rfl⟩
                  obtain ⟨r2, hr2⟩ : ∃ z, f = z := ⟨_, rfl⟩
                  have HSR : Hid (sameF r2 f = true) := Lib.hid (by rw [← hr2]; exact sameF_refl _)
                  have HA : Hid (∀ W, BaseR W bs1 (fun q => fs.filter (kindF q)) → Calls Try.prog 19 #[.agg bs1, .int .i64 (f.n 9), .int .i64 (q : Int)] W fun e w' => e = .returned (.tuple #[.agg r1.cells, .bool R.isSome]) ∧ Below W.heap.size W w') := Lib.hid (by rw [← hr1]; exact HRA2)
                  have HB : Hid (∀ W, BaseR W bs2 (fun q => gs.filter (kindF q)) → Calls Try.prog 19 #[.agg bs2, .int .i64 (f.n 9), .int .i64 (q : Int)] W fun e w' => e = .returned (.tuple #[.agg r2.cells, .bool true]) ∧ Below W.heap.size W w') := Lib.hid (by rw [← hr2]; exact HRB2)
                  clear hlaw heq HRA HRB HRA2 HRB2 hR hr1 hr2
                  have HQ1 : Hid ((Try.prog.info? 29).map (·.size) = some r1.cells.size ∧ r1.cells.all (·.oneCell') = true ∧ z18e.size = r1.cells.size) := Lib.hid ⟨fact_size, r1.cells_one, rfl⟩
                  have HQ2 : Hid ((Try.prog.info? 29).map (·.size) = some r2.cells.size ∧ r2.cells.all (·.oneCell') = true ∧ z18e.size = r2.cells.size) := Lib.hid ⟨fact_size, r2.cells_one, rfl⟩
                  go_wp2_with (first | ((with_reducible refine load_base (o := ⟨some 119, _, _, _, _, _⟩) (.tmp 11) NA bs1 (fun j v h => by rw [Nat.zero_add, HEE.out.rowA.cell]; exact h) HI5.out.1 ?_ ?_ ?_ ?_); rfl; rfl; rfl))
                  refine (HA.out _ HEE.out.ra).mono ?_
                  rintro e W7 ⟨rfl, hb7⟩
                  have HE8 := Lib.hid ((HEE.out.more hb7).more ((Below.refl _ _).alloc (Nat.le_refl _) (.cells r1.cells 29)))
                  have HC8 : Hid (RowAt (W7.alloc (.cells r1.cells 29)) W7.heap.size 29 r1.cells) := Lib.hid (RowAt.new _ _ _)
                  clear hb7
                  have f9b : (W7.alloc (.cells r1.cells 29)).cell? ⟨N, 9, none⟩ = some (.int .i64 (f.n 9)) := by rw [HE8.out.rowF.cell, ← HCF.out, cells_get f 9 (by omega)]
                  go_wp2_with (first | ((with_reducible refine store_cs (o := ⟨none, _, _, _, _, _⟩) (.tmp 18) (.tmp 124) W7.heap.size rfl _ r1.cells HQ1.out.1 HQ1.out.2.1 HQ1.out.2.2 ?_ ?_ ?_ ?_ ?_); rfl; rfl; rfl; rfl) | ((with_reducible refine load_base (o := ⟨some 127, _, _, _, _, _⟩) (.tmp 12) NB bs2 (fun j v h => by rw [Nat.zero_add, HE8.out.rowB.cell]; exact h) HI6.out ?_ ?_ ?_ ?_); rfl; rfl; rfl))
                  refine (HB.out _ HE8.out.rb).mono ?_
                  rintro e W8 ⟨rfl, hb8⟩
                  have HE9 := Lib.hid ((HE8.out.more hb8).more ((Below.refl _ _).alloc (Nat.le_refl _) (.cells r2.cells 29)))
                  have HC9 : Hid (RowAt (W8.alloc (.cells r2.cells 29)) W7.heap.size 29 r1.cells) := Lib.hid ((HC8.out.below hb8 HC8.out.lt).alloc _)
                  have HD9 : Hid (RowAt (W8.alloc (.cells r2.cells 29)) W8.heap.size 29 r2.cells) := Lib.hid (RowAt.new _ _ _)
                  clear hb8
                  go_wp2_with (first | ((with_reducible refine store_cs (o := ⟨none, _, _, _, _, _⟩) (.tmp 20) (.tmp 132) W8.heap.size rfl _ r2.cells HQ2.out.1 HQ2.out.2.1 HQ2.out.2.2 ?_ ?_ ?_ ?_ ?_); rfl; rfl; rfl; rfl) | ((with_reducible refine load_csg (o := ⟨some 146, _, _, _, _, _⟩) (.tmp 20) W8.heap.size r2.cells (fun j v h => by rw [Nat.zero_add, HD9.out.cell]; exact h) HQ2.out.1 ?_ ?_ ?_ ?_); rfl; rfl; rfl) | ((with_reducible refine load_csg (o := ⟨some 147, _, _, _, _, _⟩) (.tmp 9) N cf (fun j v h => by rw [Nat.zero_add, HE9.out.rowF.cell]; exact h) HCI.out ?_ ?_ ?_ ?_); rfl; rfl; rfl))
                  have HSM := fsame_any r2 f (W8.alloc (.cells r2.cells 29))
                  rw [HCF.out] at HSM
                  rw [HSR.out] at HSM
                  refine HSM.mono ?_
                  rintro e W9 ⟨rfl, hb9⟩
                  have HB9 := Lib.hid (HE9.out.below.trans (hb9.mono HE9.out.below.size))
                  clear hb9 HSM
                  go_wp2_with fail
                  go_ret
                  exact ⟨rfl, HB9.out⟩
                · have hlaw := effect_contract (q : Int) HLV.out HFG.out.2.1 HVF.out HFG.out.2.2 H5.out.2.1 HC.out.2.2.1 H5.out.2.2.1 HC.out.2.2.2.1 HK0.out
                  have HRA : Hid (∀ W, BaseR W bs1 (fun q => fs.filter (kindF q)) → Calls Try.prog 19 #[.agg bs1, .int .i64 (f.n 9), .int .i64 (q : Int)] W fun e w' => e = .returned (.tuple #[.agg ((contractF (fun q => fs.filter (kindF q)) (f.n 9) (q : Int)).getD zf).cells, .bool (contractF (fun q => fs.filter (kindF q)) (f.n 9) (q : Int)).isSome]) ∧ Below W.heap.size W w') := Lib.hid (fun W h => contract_any bs1 (fun q => fs.filter (kindF q)) (f.n 9) (q : Int) W h HNA2.out.1)
                  have HRB : Hid (∀ W, BaseR W bs2 (fun q => gs.filter (kindF q)) → Calls Try.prog 19 #[.agg bs2, .int .i64 (f.n 9), .int .i64 (q : Int)] W fun e w' => e = .returned (.tuple #[.agg ((contractF (fun q => gs.filter (kindF q)) (f.n 9) (q : Int)).getD zf).cells, .bool (contractF (fun q => gs.filter (kindF q)) (f.n 9) (q : Int)).isSome]) ∧ Below W.heap.size W w') := Lib.hid (fun W h => contract_any bs2 (fun q => gs.filter (kindF q)) (f.n 9) (q : Int) W h HNA2.out.2)
                  have heq := hlaw.1 (.inr HLTS.out)
                  have HRA2 := HRA.out
                  have HRB2 := HRB.out
                  rw [← heq] at HRB2
                  obtain ⟨R, hR⟩ : ∃ z, contractF (fun q => fs.filter (kindF q)) (f.n 9) (q : Int) = z := ⟨_, rfl⟩
                  rw [hR] at HRA2 HRB2
                  obtain ⟨r1, hr1⟩ : ∃ z, R.getD zf = z := ⟨_, rfl⟩
                  obtain ⟨r2, hr2⟩ : ∃ z, R.getD zf = z := ⟨_, rfl⟩
                  have HSR : Hid (sameF r1 r2 = true) := Lib.hid (by rw [← hr1, ← hr2]; exact sameF_refl _)
                  have HA : Hid (∀ W, BaseR W bs1 (fun q => fs.filter (kindF q)) → Calls Try.prog 19 #[.agg bs1, .int .i64 (f.n 9), .int .i64 (q : Int)] W fun e w' => e = .returned (.tuple #[.agg r1.cells, .bool R.isSome]) ∧ Below W.heap.size W w') := Lib.hid (by rw [← hr1]; exact HRA2)
                  have HB : Hid (∀ W, BaseR W bs2 (fun q => gs.filter (kindF q)) → Calls Try.prog 19 #[.agg bs2, .int .i64 (f.n 9), .int .i64 (q : Int)] W fun e w' => e = .returned (.tuple #[.agg r2.cells, .bool R.isSome]) ∧ Below W.heap.size W w') := Lib.hid (by rw [← hr2]; exact HRB2)
                  clear hlaw heq HRA HRB HRA2 HRB2 hR hr1 hr2
                  have HQ1 : Hid ((Try.prog.info? 29).map (·.size) = some r1.cells.size ∧ r1.cells.all (·.oneCell') = true ∧ z18e.size = r1.cells.size) := Lib.hid ⟨fact_size, r1.cells_one, rfl⟩
                  have HQ2 : Hid ((Try.prog.info? 29).map (·.size) = some r2.cells.size ∧ r2.cells.all (·.oneCell') = true ∧ z18e.size = r2.cells.size) := Lib.hid ⟨fact_size, r2.cells_one, rfl⟩
                  go_wp2_with (first | ((with_reducible refine load_base (o := ⟨some 119, _, _, _, _, _⟩) (.tmp 11) NA bs1 (fun j v h => by rw [Nat.zero_add, HEE.out.rowA.cell]; exact h) HI5.out.1 ?_ ?_ ?_ ?_); rfl; rfl; rfl))
                  refine (HA.out _ HEE.out.ra).mono ?_
                  rintro e W7 ⟨rfl, hb7⟩
                  have HE8 := Lib.hid ((HEE.out.more hb7).more ((Below.refl _ _).alloc (Nat.le_refl _) (.cells r1.cells 29)))
                  have HC8 : Hid (RowAt (W7.alloc (.cells r1.cells 29)) W7.heap.size 29 r1.cells) := Lib.hid (RowAt.new _ _ _)
                  clear hb7
                  have f9b : (W7.alloc (.cells r1.cells 29)).cell? ⟨N, 9, none⟩ = some (.int .i64 (f.n 9)) := by rw [HE8.out.rowF.cell, ← HCF.out, cells_get f 9 (by omega)]
                  go_wp2_with (first | ((with_reducible refine store_cs (o := ⟨none, _, _, _, _, _⟩) (.tmp 18) (.tmp 124) W7.heap.size rfl _ r1.cells HQ1.out.1 HQ1.out.2.1 HQ1.out.2.2 ?_ ?_ ?_ ?_ ?_); rfl; rfl; rfl; rfl) | ((with_reducible refine load_base (o := ⟨some 127, _, _, _, _, _⟩) (.tmp 12) NB bs2 (fun j v h => by rw [Nat.zero_add, HE8.out.rowB.cell]; exact h) HI6.out ?_ ?_ ?_ ?_); rfl; rfl; rfl))
                  refine (HB.out _ HE8.out.rb).mono ?_
                  rintro e W8 ⟨rfl, hb8⟩
                  have HE9 := Lib.hid ((HE8.out.more hb8).more ((Below.refl _ _).alloc (Nat.le_refl _) (.cells r2.cells 29)))
                  have HC9 : Hid (RowAt (W8.alloc (.cells r2.cells 29)) W7.heap.size 29 r1.cells) := Lib.hid ((HC8.out.below hb8 HC8.out.lt).alloc _)
                  have HD9 : Hid (RowAt (W8.alloc (.cells r2.cells 29)) W8.heap.size 29 r2.cells) := Lib.hid (RowAt.new _ _ _)
                  clear hb8
                  go_wp2_with (first | ((with_reducible refine store_cs (o := ⟨none, _, _, _, _, _⟩) (.tmp 20) (.tmp 132) W8.heap.size rfl _ r2.cells HQ2.out.1 HQ2.out.2.1 HQ2.out.2.2 ?_ ?_ ?_ ?_ ?_); rfl; rfl; rfl; rfl) | ((with_reducible refine load_csg (o := ⟨some 138, _, _, _, _, _⟩) (.tmp 18) W7.heap.size r1.cells (fun j v h => by rw [Nat.zero_add, HC9.out.cell]; exact h) HQ1.out.1 ?_ ?_ ?_ ?_); rfl; rfl; rfl) | ((with_reducible refine load_csg (o := ⟨some 139, _, _, _, _, _⟩) (.tmp 20) W8.heap.size r2.cells (fun j v h => by rw [Nat.zero_add, HD9.out.cell]; exact h) HQ2.out.1 ?_ ?_ ?_ ?_); rfl; rfl; rfl))
                  have HSM := fsame_any r1 r2 (W8.alloc (.cells r2.cells 29))
                  rw [HSR.out] at HSM
                  refine HSM.mono ?_
                  rintro e W9 ⟨rfl, hb9⟩
                  have HB9 := Lib.hid (HE9.out.below.trans (hb9.mono HE9.out.below.size))
                  clear hb9 HSM
                  go_wp2_with fail
                  go_ret
                  exact ⟨rfl, HB9.out⟩
            · have f0b : wr.cell? ⟨N, 0, none⟩ = some (.int .i64 9) := by rw [f0, HK0.out]; rfl
              clear f0
              by_cases hbq : (q : Int) < f.n 11
              · have hbd : decide ((q : Int) < f.n 11) = true := by simpa using hbq
                have hlaw := effect_rules (q : Int) HLV.out HFG.out.2.1 HVF.out HFG.out.2.2 H5.out.2.1 HC.out.2.2.1 H5.out.2.2.1 HC.out.2.2.2.1 HK0.out
                have HRA : Hid (∀ W, BaseR W bs1 (fun q => fs.filter (kindF q)) → Calls Try.prog 20 #[.agg bs1, .int .i64 (q : Int)] W fun e w' => e = .returned (.tuple #[.agg ((rulesF (fun q => fs.filter (kindF q)) (q : Int)).getD zf).cells, .bool (rulesF (fun q => fs.filter (kindF q)) (q : Int)).isSome]) ∧ Below W.heap.size W w') := Lib.hid (fun W h => rules_any bs1 (fun q => fs.filter (kindF q)) (q : Int) W h HNA2.out.1)
                have HRB : Hid (∀ W, BaseR W bs2 (fun q => gs.filter (kindF q)) → Calls Try.prog 20 #[.agg bs2, .int .i64 (q : Int)] W fun e w' => e = .returned (.tuple #[.agg ((rulesF (fun q => gs.filter (kindF q)) (q : Int)).getD zf).cells, .bool (rulesF (fun q => gs.filter (kindF q)) (q : Int)).isSome]) ∧ Below W.heap.size W w') := Lib.hid (fun W h => rules_any bs2 (fun q => gs.filter (kindF q)) (q : Int) W h HNA2.out.2)
                have heq := hlaw.1 (.inl hbq)
                have HRA2 := HRA.out
                have HRB2 := HRB.out
                rw [← heq] at HRB2
                obtain ⟨R, hR⟩ : ∃ z, rulesF (fun q => fs.filter (kindF q)) (q : Int) = z := ⟨_, rfl⟩
                rw [hR] at HRA2 HRB2
                obtain ⟨r1, hr1⟩ : ∃ z, R.getD zf = z := ⟨_, rfl⟩
                obtain ⟨r2, hr2⟩ : ∃ z, R.getD zf = z := ⟨_, rfl⟩
                have HSR : Hid (sameF r1 r2 = true) := Lib.hid (by rw [← hr1, ← hr2]; exact sameF_refl _)
                have HA : Hid (∀ W, BaseR W bs1 (fun q => fs.filter (kindF q)) → Calls Try.prog 20 #[.agg bs1, .int .i64 (q : Int)] W fun e w' => e = .returned (.tuple #[.agg r1.cells, .bool R.isSome]) ∧ Below W.heap.size W w') := Lib.hid (by rw [← hr1]; exact HRA2)
                have HB : Hid (∀ W, BaseR W bs2 (fun q => gs.filter (kindF q)) → Calls Try.prog 20 #[.agg bs2, .int .i64 (q : Int)] W fun e w' => e = .returned (.tuple #[.agg r2.cells, .bool R.isSome]) ∧ Below W.heap.size W w') := Lib.hid (by rw [← hr2]; exact HRB2)
                clear hlaw heq HRA HRB HRA2 HRB2 hR hr1 hr2
                have HQ1 : Hid ((Try.prog.info? 29).map (·.size) = some r1.cells.size ∧ r1.cells.all (·.oneCell') = true ∧ z18e.size = r1.cells.size) := Lib.hid ⟨fact_size, r1.cells_one, rfl⟩
                have HQ2 : Hid ((Try.prog.info? 29).map (·.size) = some r2.cells.size ∧ r2.cells.all (·.oneCell') = true ∧ z18e.size = r2.cells.size) := Lib.hid ⟨fact_size, r2.cells_one, rfl⟩
                go_wp2_with (first | ((with_reducible refine load_base (o := ⟨some 155, _, _, _, _, _⟩) (.tmp 11) NA bs1 (fun j v h => by rw [Nat.zero_add, HEE.out.rowA.cell]; exact h) HI5.out.1 ?_ ?_ ?_ ?_); rfl; rfl; rfl))
                refine (HA.out _ HEE.out.ra).mono ?_
                rintro e W7 ⟨rfl, hb7⟩
                have HE8 := Lib.hid ((HEE.out.more hb7).more ((Below.refl _ _).alloc (Nat.le_refl _) (.cells r1.cells 29)))
                have HC8 : Hid (RowAt (W7.alloc (.cells r1.cells 29)) W7.heap.size 29 r1.cells) := Lib.hid (RowAt.new _ _ _)
                clear hb7
                go_wp2_with (first | ((with_reducible refine store_cs (o := ⟨none, _, _, _, _, _⟩) (.tmp 22) (.tmp 158) W7.heap.size rfl _ r1.cells HQ1.out.1 HQ1.out.2.1 HQ1.out.2.2 ?_ ?_ ?_ ?_ ?_); rfl; rfl; rfl; rfl) | ((with_reducible refine load_base (o := ⟨some 161, _, _, _, _, _⟩) (.tmp 12) NB bs2 (fun j v h => by rw [Nat.zero_add, HE8.out.rowB.cell]; exact h) HI6.out ?_ ?_ ?_ ?_); rfl; rfl; rfl))
                refine (HB.out _ HE8.out.rb).mono ?_
                rintro e W8 ⟨rfl, hb8⟩
                have HE9 := Lib.hid ((HE8.out.more hb8).more ((Below.refl _ _).alloc (Nat.le_refl _) (.cells r2.cells 29)))
                have HC9 : Hid (RowAt (W8.alloc (.cells r2.cells 29)) W7.heap.size 29 r1.cells) := Lib.hid ((HC8.out.below hb8 HC8.out.lt).alloc _)
                have HD9 : Hid (RowAt (W8.alloc (.cells r2.cells 29)) W8.heap.size 29 r2.cells) := Lib.hid (RowAt.new _ _ _)
                clear hb8
                go_wp2_with (first | ((with_reducible refine store_cs (o := ⟨none, _, _, _, _, _⟩) (.tmp 24) (.tmp 164) W8.heap.size rfl _ r2.cells HQ2.out.1 HQ2.out.2.1 HQ2.out.2.2 ?_ ?_ ?_ ?_ ?_); rfl; rfl; rfl; rfl) | ((with_reducible refine load_csg (o := ⟨some 170, _, _, _, _, _⟩) (.tmp 22) W7.heap.size r1.cells (fun j v h => by rw [Nat.zero_add, HC9.out.cell]; exact h) HQ1.out.1 ?_ ?_ ?_ ?_); rfl; rfl; rfl) | ((with_reducible refine load_csg (o := ⟨some 171, _, _, _, _, _⟩) (.tmp 24) W8.heap.size r2.cells (fun j v h => by rw [Nat.zero_add, HD9.out.cell]; exact h) HQ2.out.1 ?_ ?_ ?_ ?_); rfl; rfl; rfl))
                have HSM := fsame_any r1 r2 (W8.alloc (.cells r2.cells 29))
                rw [HSR.out] at HSM
                refine HSM.mono ?_
                rintro e W9 ⟨rfl, hb9⟩
                have HB9 := Lib.hid (HE9.out.below.trans (hb9.mono HE9.out.below.size))
                clear hb9 HSM
                go_wp2_with fail
                go_ret
                exact ⟨rfl, HB9.out⟩
              · have hbd : decide ((q : Int) < f.n 11) = false := by simp; omega
                cases lt
                · have hlaw := effect_rules (q : Int) HLV.out HFG.out.2.1 HVF.out HFG.out.2.2 H5.out.2.1 HC.out.2.2.1 H5.out.2.2.1 HC.out.2.2.2.1 HK0.out
                  have HRA : Hid (∀ W, BaseR W bs1 (fun q => fs.filter (kindF q)) → Calls Try.prog 20 #[.agg bs1, .int .i64 (q : Int)] W fun e w' => e = .returned (.tuple #[.agg ((rulesF (fun q => fs.filter (kindF q)) (q : Int)).getD zf).cells, .bool (rulesF (fun q => fs.filter (kindF q)) (q : Int)).isSome]) ∧ Below W.heap.size W w') := Lib.hid (fun W h => rules_any bs1 (fun q => fs.filter (kindF q)) (q : Int) W h HNA2.out.1)
                  have HRB : Hid (∀ W, BaseR W bs2 (fun q => gs.filter (kindF q)) → Calls Try.prog 20 #[.agg bs2, .int .i64 (q : Int)] W fun e w' => e = .returned (.tuple #[.agg ((rulesF (fun q => gs.filter (kindF q)) (q : Int)).getD zf).cells, .bool (rulesF (fun q => gs.filter (kindF q)) (q : Int)).isSome]) ∧ Below W.heap.size W w') := Lib.hid (fun W h => rules_any bs2 (fun q => gs.filter (kindF q)) (q : Int) W h HNA2.out.2)
                  have heq := hlaw.2 hbq HLTS.out
                  have HRA2 := HRA.out
                  have HRB2 := HRB.out
                  rw [heq] at HRB2
                  obtain ⟨R, hR⟩ : ∃ z, rulesF (fun q => fs.filter (kindF q)) (q : Int) = z := ⟨_, rfl⟩
                  rw [hR] at HRA2
                  obtain ⟨r1, hr1⟩ : ∃ z, R.getD zf = z := ⟨_, rfl⟩
                  obtain ⟨r2, hr2⟩ : ∃ z, f = z := ⟨_, rfl⟩
                  have HSR : Hid (sameF r2 f = true) := Lib.hid (by rw [← hr2]; exact sameF_refl _)
                  have HA : Hid (∀ W, BaseR W bs1 (fun q => fs.filter (kindF q)) → Calls Try.prog 20 #[.agg bs1, .int .i64 (q : Int)] W fun e w' => e = .returned (.tuple #[.agg r1.cells, .bool R.isSome]) ∧ Below W.heap.size W w') := Lib.hid (by rw [← hr1]; exact HRA2)
                  have HB : Hid (∀ W, BaseR W bs2 (fun q => gs.filter (kindF q)) → Calls Try.prog 20 #[.agg bs2, .int .i64 (q : Int)] W fun e w' => e = .returned (.tuple #[.agg r2.cells, .bool true]) ∧ Below W.heap.size W w') := Lib.hid (by rw [← hr2]; exact HRB2)
                  clear hlaw heq HRA HRB HRA2 HRB2 hR hr1 hr2
                  have HQ1 : Hid ((Try.prog.info? 29).map (·.size) = some r1.cells.size ∧ r1.cells.all (·.oneCell') = true ∧ z18e.size = r1.cells.size) := Lib.hid ⟨fact_size, r1.cells_one, rfl⟩
                  have HQ2 : Hid ((Try.prog.info? 29).map (·.size) = some r2.cells.size ∧ r2.cells.all (·.oneCell') = true ∧ z18e.size = r2.cells.size) := Lib.hid ⟨fact_size, r2.cells_one, rfl⟩
                  go_wp2_with (first | ((with_reducible refine load_base (o := ⟨some 155, _, _, _, _, _⟩) (.tmp 11) NA bs1 (fun j v h => by rw [Nat.zero_add, HEE.out.rowA.cell]; exact h) HI5.out.1 ?_ ?_ ?_ ?_); rfl; rfl; rfl))
                  refine (HA.out _ HEE.out.ra).mono ?_
                  rintro e W7 ⟨rfl, hb7⟩
                  have HE8 := Lib.hid ((HEE.out.more hb7).more ((Below.refl _ _).alloc (Nat.le_refl _) (.cells r1.cells 29)))
                  have HC8 : Hid (RowAt (W7.alloc (.cells r1.cells 29)) W7.heap.size 29 r1.cells) := Lib.hid (RowAt.new _ _ _)
                  clear hb7
                  go_wp2_with (first | ((with_reducible refine store_cs (o := ⟨none, _, _, _, _, _⟩) (.tmp 22) (.tmp 158) W7.heap.size rfl _ r1.cells HQ1.out.1 HQ1.out.2.1 HQ1.out.2.2 ?_ ?_ ?_ ?_ ?_); rfl; rfl; rfl; rfl) | ((with_reducible refine load_base (o := ⟨some 161, _, _, _, _, _⟩) (.tmp 12) NB bs2 (fun j v h => by rw [Nat.zero_add, HE8.out.rowB.cell]; exact h) HI6.out ?_ ?_ ?_ ?_); rfl; rfl; rfl))
                  refine (HB.out _ HE8.out.rb).mono ?_
                  rintro e W8 ⟨rfl, hb8⟩
                  have HE9 := Lib.hid ((HE8.out.more hb8).more ((Below.refl _ _).alloc (Nat.le_refl _) (.cells r2.cells 29)))
                  have HC9 : Hid (RowAt (W8.alloc (.cells r2.cells 29)) W7.heap.size 29 r1.cells) := Lib.hid ((HC8.out.below hb8 HC8.out.lt).alloc _)
                  have HD9 : Hid (RowAt (W8.alloc (.cells r2.cells 29)) W8.heap.size 29 r2.cells) := Lib.hid (RowAt.new _ _ _)
                  clear hb8
                  go_wp2_with (first | ((with_reducible refine store_cs (o := ⟨none, _, _, _, _, _⟩) (.tmp 24) (.tmp 164) W8.heap.size rfl _ r2.cells HQ2.out.1 HQ2.out.2.1 HQ2.out.2.2 ?_ ?_ ?_ ?_ ?_); rfl; rfl; rfl; rfl) | ((with_reducible refine load_csg (o := ⟨some 178, _, _, _, _, _⟩) (.tmp 24) W8.heap.size r2.cells (fun j v h => by rw [Nat.zero_add, HD9.out.cell]; exact h) HQ2.out.1 ?_ ?_ ?_ ?_); rfl; rfl; rfl) | ((with_reducible refine load_csg (o := ⟨some 179, _, _, _, _, _⟩) (.tmp 9) N cf (fun j v h => by rw [Nat.zero_add, HE9.out.rowF.cell]; exact h) HCI.out ?_ ?_ ?_ ?_); rfl; rfl; rfl))
                  have HSM := fsame_any r2 f (W8.alloc (.cells r2.cells 29))
                  rw [HCF.out] at HSM
                  rw [HSR.out] at HSM
                  refine HSM.mono ?_
                  rintro e W9 ⟨rfl, hb9⟩
                  have HB9 := Lib.hid (HE9.out.below.trans (hb9.mono HE9.out.below.size))
                  clear hb9 HSM
                  go_wp2_with fail
                  go_ret
                  exact ⟨rfl, HB9.out⟩
                · have hlaw := effect_rules (q : Int) HLV.out HFG.out.2.1 HVF.out HFG.out.2.2 H5.out.2.1 HC.out.2.2.1 H5.out.2.2.1 HC.out.2.2.2.1 HK0.out
                  have HRA : Hid (∀ W, BaseR W bs1 (fun q => fs.filter (kindF q)) → Calls Try.prog 20 #[.agg bs1, .int .i64 (q : Int)] W fun e w' => e = .returned (.tuple #[.agg ((rulesF (fun q => fs.filter (kindF q)) (q : Int)).getD zf).cells, .bool (rulesF (fun q => fs.filter (kindF q)) (q : Int)).isSome]) ∧ Below W.heap.size W w') := Lib.hid (fun W h => rules_any bs1 (fun q => fs.filter (kindF q)) (q : Int) W h HNA2.out.1)
                  have HRB : Hid (∀ W, BaseR W bs2 (fun q => gs.filter (kindF q)) → Calls Try.prog 20 #[.agg bs2, .int .i64 (q : Int)] W fun e w' => e = .returned (.tuple #[.agg ((rulesF (fun q => gs.filter (kindF q)) (q : Int)).getD zf).cells, .bool (rulesF (fun q => gs.filter (kindF q)) (q : Int)).isSome]) ∧ Below W.heap.size W w') := Lib.hid (fun W h => rules_any bs2 (fun q => gs.filter (kindF q)) (q : Int) W h HNA2.out.2)
                  have heq := hlaw.1 (.inr HLTS.out)
                  have HRA2 := HRA.out
                  have HRB2 := HRB.out
                  rw [← heq] at HRB2
                  obtain ⟨R, hR⟩ : ∃ z, rulesF (fun q => fs.filter (kindF q)) (q : Int) = z := ⟨_, rfl⟩
                  rw [hR] at HRA2 HRB2
                  obtain ⟨r1, hr1⟩ : ∃ z, R.getD zf = z := ⟨_, rfl⟩
                  obtain ⟨r2, hr2⟩ : ∃ z, R.getD zf = z := ⟨_, rfl⟩
                  have HSR : Hid (sameF r1 r2 = true) := Lib.hid (by rw [← hr1, ← hr2]; exact sameF_refl _)
                  have HA : Hid (∀ W, BaseR W bs1 (fun q => fs.filter (kindF q)) → Calls Try.prog 20 #[.agg bs1, .int .i64 (q : Int)] W fun e w' => e = .returned (.tuple #[.agg r1.cells, .bool R.isSome]) ∧ Below W.heap.size W w') := Lib.hid (by rw [← hr1]; exact HRA2)
                  have HB : Hid (∀ W, BaseR W bs2 (fun q => gs.filter (kindF q)) → Calls Try.prog 20 #[.agg bs2, .int .i64 (q : Int)] W fun e w' => e = .returned (.tuple #[.agg r2.cells, .bool R.isSome]) ∧ Below W.heap.size W w') := Lib.hid (by rw [← hr2]; exact HRB2)
                  clear hlaw heq HRA HRB HRA2 HRB2 hR hr1 hr2
                  have HQ1 : Hid ((Try.prog.info? 29).map (·.size) = some r1.cells.size ∧ r1.cells.all (·.oneCell') = true ∧ z18e.size = r1.cells.size) := Lib.hid ⟨fact_size, r1.cells_one, rfl⟩
                  have HQ2 : Hid ((Try.prog.info? 29).map (·.size) = some r2.cells.size ∧ r2.cells.all (·.oneCell') = true ∧ z18e.size = r2.cells.size) := Lib.hid ⟨fact_size, r2.cells_one, rfl⟩
                  go_wp2_with (first | ((with_reducible refine load_base (o := ⟨some 155, _, _, _, _, _⟩) (.tmp 11) NA bs1 (fun j v h => by rw [Nat.zero_add, HEE.out.rowA.cell]; exact h) HI5.out.1 ?_ ?_ ?_ ?_); rfl; rfl; rfl))
                  refine (HA.out _ HEE.out.ra).mono ?_
                  rintro e W7 ⟨rfl, hb7⟩
                  have HE8 := Lib.hid ((HEE.out.more hb7).more ((Below.refl _ _).alloc (Nat.le_refl _) (.cells r1.cells 29)))
                  have HC8 : Hid (RowAt (W7.alloc (.cells r1.cells 29)) W7.heap.size 29 r1.cells) := Lib.hid (RowAt.new _ _ _)
                  clear hb7
                  go_wp2_with (first | ((with_reducible refine store_cs (o := ⟨none, _, _, _, _, _⟩) (.tmp 22) (.tmp 158) W7.heap.size rfl _ r1.cells HQ1.out.1 HQ1.out.2.1 HQ1.out.2.2 ?_ ?_ ?_ ?_ ?_); rfl; rfl; rfl; rfl) | ((with_reducible refine load_base (o := ⟨some 161, _, _, _, _, _⟩) (.tmp 12) NB bs2 (fun j v h => by rw [Nat.zero_add, HE8.out.rowB.cell]; exact h) HI6.out ?_ ?_ ?_ ?_); rfl; rfl; rfl))
                  refine (HB.out _ HE8.out.rb).mono ?_
                  rintro e W8 ⟨rfl, hb8⟩
                  have HE9 := Lib.hid ((HE8.out.more hb8).more ((Below.refl _ _).alloc (Nat.le_refl _) (.cells r2.cells 29)))
                  have HC9 : Hid (RowAt (W8.alloc (.cells r2.cells 29)) W7.heap.size 29 r1.cells) := Lib.hid ((HC8.out.below hb8 HC8.out.lt).alloc _)
                  have HD9 : Hid (RowAt (W8.alloc (.cells r2.cells 29)) W8.heap.size 29 r2.cells) := Lib.hid (RowAt.new _ _ _)
                  clear hb8
                  go_wp2_with (first | ((with_reducible refine store_cs (o := ⟨none, _, _, _, _, _⟩) (.tmp 24) (.tmp 164) W8.heap.size rfl _ r2.cells HQ2.out.1 HQ2.out.2.1 HQ2.out.2.2 ?_ ?_ ?_ ?_ ?_); rfl; rfl; rfl; rfl) | ((with_reducible refine load_csg (o := ⟨some 170, _, _, _, _, _⟩) (.tmp 22) W7.heap.size r1.cells (fun j v h => by rw [Nat.zero_add, HC9.out.cell]; exact h) HQ1.out.1 ?_ ?_ ?_ ?_); rfl; rfl; rfl) | ((with_reducible refine load_csg (o := ⟨some 171, _, _, _, _, _⟩) (.tmp 24) W8.heap.size r2.cells (fun j v h => by rw [Nat.zero_add, HD9.out.cell]; exact h) HQ2.out.1 ?_ ?_ ?_ ?_); rfl; rfl; rfl))
                  have HSM := fsame_any r1 r2 (W8.alloc (.cells r2.cells 29))
                  rw [HSR.out] at HSM
                  refine HSM.mono ?_
                  rintro e W9 ⟨rfl, hb9⟩
                  have HB9 := Lib.hid (HE9.out.below.trans (hb9.mono HE9.out.below.size))
                  clear hb9 HSM
                  go_wp2_with fail
                  go_ret
                  exact ⟨rfl, HB9.out⟩
            · have f0b : wr.cell? ⟨N, 0, none⟩ = some (.int .i64 10) := by rw [f0, HK0.out]; rfl
              clear f0
              by_cases hbq : (q : Int) < f.n 11
              · have hbd : decide ((q : Int) < f.n 11) = true := by simpa using hbq
                have hlaw := effect_method (q : Int) HLV.out HFG.out.2.1 HVF.out HFG.out.2.2 H5.out.2.1 HC.out.2.2.1 H5.out.2.2.1 HC.out.2.2.2.1 HK0.out
                have HRA2 := fun (W : World) (h : BaseR W bs1 (fun q => fs.filter (kindF q))) => method_any bs1 (fun q => fs.filter (kindF q)) (f.n 8) (q : Int) W h HNA2.out.1
                have HRB2 := fun (W : World) (h : BaseR W bs2 (fun q => gs.filter (kindF q))) => method_any bs2 (fun q => gs.filter (kindF q)) (f.n 8) (q : Int) W h HNA2.out.2
                have heq := hlaw.1 (.inl hbq)
                rw [← heq] at HRB2
                obtain ⟨r1, hr1⟩ : ∃ z, methV (methodF (fun q => fs.filter (kindF q)) (f.n 8) (q : Int)) = z := ⟨_, rfl⟩
                rw [hr1] at HRA2 HRB2
                have HA := Lib.hid HRA2
                have HB := Lib.hid HRB2
                clear hlaw heq HRA2 HRB2 hr1
                go_wp2_with (first | ((with_reducible refine load_base (o := ⟨some 184, _, _, _, _, _⟩) (.tmp 11) NA bs1 (fun j v h => by rw [Nat.zero_add, HEE.out.rowA.cell]; exact h) HI5.out.1 ?_ ?_ ?_ ?_); rfl; rfl; rfl))
                refine (HA.out _ HEE.out.ra).mono ?_
                rintro e W7 ⟨rfl, hb7⟩
                have HE8 := Lib.hid (HEE.out.more hb7)
                clear hb7
                have f8b : W7.cell? ⟨N, 8, none⟩ = some (.int .i64 (f.n 8)) := by rw [HE8.out.rowF.cell, ← HCF.out, cells_get f 8 (by omega)]
                go_wp2_with (first | ((with_reducible refine load_base (o := ⟨some 189, _, _, _, _, _⟩) (.tmp 12) NB bs2 (fun j v h => by rw [Nat.zero_add, HE8.out.rowB.cell]; exact h) HI6.out ?_ ?_ ?_ ?_); rfl; rfl; rfl))
                refine (HB.out _ HE8.out.rb).mono ?_
                rintro e W8 ⟨rfl, hb8⟩
                have HE9 := Lib.hid (HE8.out.more hb8)
                clear hb8
                have f16b : W8.cell? ⟨N, 16, none⟩ = some (.int .i64 (f.n 16)) := by rw [HE9.out.rowF.cell, ← HCF.out, cells_get f 16 (by omega)]
                go_wp2_with fail
                go_ret
                exact ⟨rfl, HE9.out.below⟩
              · have hbd : decide ((q : Int) < f.n 11) = false := by simp; omega
                cases lt
                · have hlaw := effect_method (q : Int) HLV.out HFG.out.2.1 HVF.out HFG.out.2.2 H5.out.2.1 HC.out.2.2.1 H5.out.2.2.1 HC.out.2.2.2.1 HK0.out
                  have HRA2 := fun (W : World) (h : BaseR W bs1 (fun q => fs.filter (kindF q))) => method_any bs1 (fun q => fs.filter (kindF q)) (f.n 8) (q : Int) W h HNA2.out.1
                  have HRB2 := fun (W : World) (h : BaseR W bs2 (fun q => gs.filter (kindF q))) => method_any bs2 (fun q => gs.filter (kindF q)) (f.n 8) (q : Int) W h HNA2.out.2
                  have heq := hlaw.2 hbq HLTS.out
                  rw [heq] at HRB2
                  obtain ⟨r1, hr1⟩ : ∃ z, methV (methodF (fun q => fs.filter (kindF q)) (f.n 8) (q : Int)) = z := ⟨_, rfl⟩
                  rw [hr1] at HRA2
                  have HA := Lib.hid HRA2
                  have HB : Hid (∀ W, BaseR W bs2 (fun q => gs.filter (kindF q)) → Calls Try.prog 21 #[.agg bs2, .int .i64 (f.n 8), .int .i64 (q : Int)] W fun e w' => e = .returned (.int .i64 (f.n 16)) ∧ Below W.heap.size W w') := Lib.hid HRB2
                  clear hlaw heq HRA2 HRB2 hr1
                  go_wp2_with (first | ((with_reducible refine load_base (o := ⟨some 184, _, _, _, _, _⟩) (.tmp 11) NA bs1 (fun j v h => by rw [Nat.zero_add, HEE.out.rowA.cell]; exact h) HI5.out.1 ?_ ?_ ?_ ?_); rfl; rfl; rfl))
                  refine (HA.out _ HEE.out.ra).mono ?_
                  rintro e W7 ⟨rfl, hb7⟩
                  have HE8 := Lib.hid (HEE.out.more hb7)
                  clear hb7
                  have f8b : W7.cell? ⟨N, 8, none⟩ = some (.int .i64 (f.n 8)) := by rw [HE8.out.rowF.cell, ← HCF.out, cells_get f 8 (by omega)]
                  go_wp2_with (first | ((with_reducible refine load_base (o := ⟨some 189, _, _, _, _, _⟩) (.tmp 12) NB bs2 (fun j v h => by rw [Nat.zero_add, HE8.out.rowB.cell]; exact h) HI6.out ?_ ?_ ?_ ?_); rfl; rfl; rfl))
                  refine (HB.out _ HE8.out.rb).mono ?_
                  rintro e W8 ⟨rfl, hb8⟩
                  have HE9 := Lib.hid (HE8.out.more hb8)
                  clear hb8
                  have f16b : W8.cell? ⟨N, 16, none⟩ = some (.int .i64 (f.n 16)) := by rw [HE9.out.rowF.cell, ← HCF.out, cells_get f 16 (by omega)]
                  go_wp2_with fail
                  go_ret
                  exact ⟨rfl, HE9.out.below⟩
                · have hlaw := effect_method (q : Int) HLV.out HFG.out.2.1 HVF.out HFG.out.2.2 H5.out.2.1 HC.out.2.2.1 H5.out.2.2.1 HC.out.2.2.2.1 HK0.out
                  have HRA2 := fun (W : World) (h : BaseR W bs1 (fun q => fs.filter (kindF q))) => method_any bs1 (fun q => fs.filter (kindF q)) (f.n 8) (q : Int) W h HNA2.out.1
                  have HRB2 := fun (W : World) (h : BaseR W bs2 (fun q => gs.filter (kindF q))) => method_any bs2 (fun q => gs.filter (kindF q)) (f.n 8) (q : Int) W h HNA2.out.2
                  have heq := hlaw.1 (.inr HLTS.out)
                  rw [← heq] at HRB2
                  obtain ⟨r1, hr1⟩ : ∃ z, methV (methodF (fun q => fs.filter (kindF q)) (f.n 8) (q : Int)) = z := ⟨_, rfl⟩
                  rw [hr1] at HRA2 HRB2
                  have HA := Lib.hid HRA2
                  have HB := Lib.hid HRB2
                  clear hlaw heq HRA2 HRB2 hr1
                  go_wp2_with (first | ((with_reducible refine load_base (o := ⟨some 184, _, _, _, _, _⟩) (.tmp 11) NA bs1 (fun j v h => by rw [Nat.zero_add, HEE.out.rowA.cell]; exact h) HI5.out.1 ?_ ?_ ?_ ?_); rfl; rfl; rfl))
                  refine (HA.out _ HEE.out.ra).mono ?_
                  rintro e W7 ⟨rfl, hb7⟩
                  have HE8 := Lib.hid (HEE.out.more hb7)
                  clear hb7
                  have f8b : W7.cell? ⟨N, 8, none⟩ = some (.int .i64 (f.n 8)) := by rw [HE8.out.rowF.cell, ← HCF.out, cells_get f 8 (by omega)]
                  go_wp2_with (first | ((with_reducible refine load_base (o := ⟨some 189, _, _, _, _, _⟩) (.tmp 12) NB bs2 (fun j v h => by rw [Nat.zero_add, HE8.out.rowB.cell]; exact h) HI6.out ?_ ?_ ?_ ?_); rfl; rfl; rfl))
                  refine (HB.out _ HE8.out.rb).mono ?_
                  rintro e W8 ⟨rfl, hb8⟩
                  have HE9 := Lib.hid (HE8.out.more hb8)
                  clear hb8
                  have f16b : W8.cell? ⟨N, 16, none⟩ = some (.int .i64 (f.n 16)) := by rw [HE9.out.rowF.cell, ← HCF.out, cells_get f 16 (by omega)]
                  go_wp2_with fail
                  go_ret
                  exact ⟨rfl, HE9.out.below⟩
  · have e4 : ((k : Int) != 4) = true := by simp; omega
    have e9 : ((k : Int) != 9) = true := by simp; omega
    have e10 : ((k : Int) != 10) = true := by simp; omega
    go_wp2_with fail
    go_ret
    exact ⟨rfl, H4.out.2.1⟩
end Go.Proofs.Ytgjajhopjcdflaa
