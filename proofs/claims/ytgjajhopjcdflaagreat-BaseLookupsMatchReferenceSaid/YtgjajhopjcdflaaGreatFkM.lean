/- Package fact: Prevails. -/
import Derived.Test.YtgjajhopjcdflaaGreatFkL
import Derived.ChangeKeysEq
import Derived.Lib.QuietBelow
import Derived.WalkLawsBesides
namespace Go.Proofs.YtgjajhopjcdflaaGreat
open Go Go.RowKit Go.Lib Go.Shelf Go.Maps

theorem info_int : (Tryz.prog.info? 3).map (fun i => (i.zero, i.size, i.bytes)) = some (some (.int .i64 0), 1, 8) := by kernel_rfl
theorem cells_int : Tryz.prog.cellsOf 3 = 1 := by kernel_rfl
theorem eqi (d : Nat) (a b : Int) (w : World) : (Op.equalIn (d + 1) 3 (.int .i64 a) (.int .i64 b)).run Tryz.prog w = .ok (a == b) w := run_equalIn_int w d _ _ _ a b Tryz.underlying3
set_option maxRecDepth 10000 in
theorem eq_key (a0 a1 a2 b0 b1 b2 : Int) (w : World) :
    (Op.equalIn 10000 48 (.agg #[.int .i64 a0, .int .i64 a1, .int .i64 a2]) (.agg #[.int .i64 b0, .int .i64 b1, .int .i64 b2])).run Tryz.prog w = .ok (a0 == b0 && (a1 == b1 && a2 == b2)) w := by
  obtain ⟨i0, hi, -, -, -⟩ := info_parts info_int
  rw [run_equalIn_array (w := w) 9999 (i := i0) _ _ Tryz.underlying48 hi, cells_int, show List.range 3 = [0, 1, 2] from by decide]
  have e := eqi 9998
  simp only [Op.eqItems, Sem.run_bind]
  cases h0 : (a0 == b0) <;> cases h1 : (a1 == b1) <;> cases h2 : (a2 == b2) <;> simp [part, go_sem, e, h0, h1, h2]
def keyEq (f g : FactV) : Bool := f.n 0 == g.n 0 && ((key2 f).1 == (key2 g).1 && (key2 f).2 == (key2 g).2)
/-- does f prevail over g? -/
def prevB (f g : FactV) : Bool := validB f && (validB g && (keyEq f g && (if f.n 2 = g.n 2 then decide (0 < Lib.compareBytes (encL f) (encL g)) else decide (g.n 2 < f.n 2))))
set_option maxRecDepth 100000 in
set_option maxHeartbeats 4000000 in
theorem prevails_any (f g : FactV) (w : World) (hf : FactOk f) (hg : FactOk g) :
    Calls Tryz.prog 30 #[.agg f.cells, .agg g.cells] w fun e w' => e = .returned (.bool (prevB f g)) ∧ Below w.heap.size w w' := by
  obtain ⟨W1, hW1⟩ : ∃ z, (w.alloc (.cells f.cells 34)).alloc (.cells g.cells 34) = z := ⟨_, rfl⟩
  have r1 : RowAt W1 w.heap.size 34 f.cells := by rw [← hW1]; exact (RowAt.new w _ _).alloc _
  have r2 : RowAt W1 (w.heap.size + 1) 34 g.cells := by
    rw [← hW1]
    have h := RowAt.new (w.alloc (.cells f.cells 34)) 34 g.cells
    simpa using h
  have hbw : Below w.heap.size w W1 := by rw [← hW1]; exact ((Below.refl _ _).alloc (Nat.le_refl _) _).alloc (by simp) _
  have HR := Lib.hid (And.intro r1 (And.intro r2 hbw))
  have KF := Lib.hid (fun W => key_any f W (hf 0).1 (hf 0).2)
  have KG := Lib.hid (fun W => key_any g W (hg 0).1 (hg 0).2)
  have EFB := Lib.hid (fun h W => encode_bad f W hf h)
  have EFG := Lib.hid (fun h W => encode_good f W hf h)
  have EGB := Lib.hid (fun h W => encode_bad g W hg h)
  have EGG := Lib.hid (fun h W => encode_good g W hg h)
  obtain ⟨cf, hcf⟩ : ∃ z, f.cells = z := ⟨_, rfl⟩
  obtain ⟨cg, hcg⟩ : ∃ z, g.cells = z := ⟨_, rfl⟩
  have HCF : Hid ((Tryz.prog.info? 34).map (·.size) = some cf.size) := Lib.hid (by rw [← hcf]; exact fact_size)
  have HCG : Hid ((Tryz.prog.info? 34).map (·.size) = some cg.size) := Lib.hid (by rw [← hcg]; exact fact_size)
  have HF2 : Hid (cf[2]? = some (.int .i64 (f.n 2))) := Lib.hid (by rw [← hcf]; rfl)
  have HG2 : Hid (cg[2]? = some (.int .i64 (g.n 2))) := Lib.hid (by rw [← hcg]; rfl)
  rw [hcf] at KF EFB EFG HR hW1 ⊢
  rw [hcg] at KG EGB EGG HR hW1 ⊢
  have HFL : Hid (∀ W, Below W1.heap.size W1 W → ∀ j v, cf[j]? = some v → W.cell? ⟨w.heap.size, 0 + j, none⟩ = some v) := Lib.hid (fun W hb j v hv => by rw [Nat.zero_add, (HR.out.1.below hb HR.out.1.lt).cell j]; exact hv)
  have HGL : Hid (∀ W, Below W1.heap.size W1 W → ∀ j v, cg[j]? = some v → W.cell? ⟨w.heap.size + 1, 0 + j, none⟩ = some v) := Lib.hid (fun W hb j v hv => by rw [Nat.zero_add, (HR.out.2.1.below hb HR.out.2.1.lt).cell j]; exact hv)
  have HB1 := Lib.hid (Below.refl W1.heap.size W1)
  clear r1 r2 hbw hf hg hcf hcg
  cases hvf : validB f
  · have E1 := Lib.hid (EFB.out hvf)
    cases hvg : validB g
    · have E2 := Lib.hid (EGB.out hvg)
      clear EFB EFG EGB EGG
      go_enter Tryz.func30, Tryz.ntmps30
      go_wp2_with (first | ((with_reducible refine load_cs (o := ⟨some 10, _, _, _, _, _⟩) (.tmp 2) w.heap.size cf (HFL.out _ HB1.out) HCF.out ?_ ?_ ?_ ?_); rfl; rfl; rfl))
      refine (E1.out _).mono ?_
      rintro e W2 ⟨rfl, hb2⟩
      clear hW1
      have HB2 := Lib.hid hb2
      clear hb2
      go_wp2_with (first | ((with_reducible refine load_cs (o := ⟨some 15, _, _, _, _, _⟩) (.tmp 3) (w.heap.size + 1) cg (HGL.out _ HB2.out) HCG.out ?_ ?_ ?_ ?_); rfl; rfl; rfl))
      refine (E2.out _).mono ?_
      rintro e W3 ⟨rfl, hb3⟩
      have HB3 := Lib.hid (HB2.out.trans (hb3.mono HB2.out.size))
      have HEND := Lib.hid (HR.out.2.2.trans (HB3.out.mono HR.out.2.2.size))
      clear hb3
      go_wp2_with fail
      go_ret
      exact ⟨by unfold prevB; rw [hvf]; rfl, HEND.out⟩
    · have E2 := Lib.hid (EGG.out hvg)
      clear EFB EFG EGB EGG
      go_enter Tryz.func30, Tryz.ntmps30
      go_wp2_with (first | ((with_reducible refine load_cs (o := ⟨some 10, _, _, _, _, _⟩) (.tmp 2) w.heap.size cf (HFL.out _ HB1.out) HCF.out ?_ ?_ ?_ ?_); rfl; rfl; rfl))
      refine (E1.out _).mono ?_
      rintro e W2 ⟨rfl, hb2⟩
      clear hW1
      have HB2 := Lib.hid hb2
      clear hb2
      go_wp2_with (first | ((with_reducible refine load_cs (o := ⟨some 15, _, _, _, _, _⟩) (.tmp 3) (w.heap.size + 1) cg (HGL.out _ HB2.out) HCG.out ?_ ?_ ?_ ?_); rfl; rfl; rfl))
      refine (E2.out _).mono ?_
      rintro e W3 ⟨rfl, hb3⟩
      have HB3 := Lib.hid (HB2.out.trans (hb3.mono HB2.out.size))
      have HEND := Lib.hid (HR.out.2.2.trans (HB3.out.mono HR.out.2.2.size))
      clear hb3
      go_wp2_with fail
      go_ret
      exact ⟨by unfold prevB; rw [hvf]; rfl, HEND.out⟩
  · have E1 := Lib.hid (EFG.out hvf)
    cases hvg : validB g
    · have E2 := Lib.hid (EGB.out hvg)
      clear EFB EFG EGB EGG
      go_enter Tryz.func30, Tryz.ntmps30
      go_wp2_with (first | ((with_reducible refine load_cs (o := ⟨some 10, _, _, _, _, _⟩) (.tmp 2) w.heap.size cf (HFL.out _ HB1.out) HCF.out ?_ ?_ ?_ ?_); rfl; rfl; rfl))
      refine (E1.out _).mono ?_
      rintro e W2 ⟨rfl, hb2⟩
      clear hW1
      have HB2 := Lib.hid hb2
      clear hb2
      go_wp2_with (first | ((with_reducible refine load_cs (o := ⟨some 15, _, _, _, _, _⟩) (.tmp 3) (w.heap.size + 1) cg (HGL.out _ HB2.out) HCG.out ?_ ?_ ?_ ?_); rfl; rfl; rfl))
      refine (E2.out _).mono ?_
      rintro e W3 ⟨rfl, hb3⟩
      have HB3 := Lib.hid (HB2.out.trans (hb3.mono HB2.out.size))
      have HEND := Lib.hid (HR.out.2.2.trans (HB3.out.mono HR.out.2.2.size))
      clear hb3
      go_wp2_with fail
      go_ret
      exact ⟨by unfold prevB; rw [hvg]; simp, HEND.out⟩
    · have E2 := Lib.hid (EGG.out hvg)
      clear EFB EFG EGB EGG
      go_enter Tryz.func30, Tryz.ntmps30
      go_wp2_with (first | ((with_reducible refine load_cs (o := ⟨some 10, _, _, _, _, _⟩) (.tmp 2) w.heap.size cf (HFL.out _ HB1.out) HCF.out ?_ ?_ ?_ ?_); rfl; rfl; rfl))
      refine (E1.out _).mono ?_
      rintro e W2 ⟨rfl, hb2⟩
      clear hW1
      have HB2 := Lib.hid hb2
      clear hb2
      go_wp2_with (first | ((with_reducible refine load_cs (o := ⟨some 15, _, _, _, _, _⟩) (.tmp 3) (w.heap.size + 1) cg (HGL.out _ HB2.out) HCG.out ?_ ?_ ?_ ?_); rfl; rfl; rfl))
      refine (E2.out _).mono ?_
      rintro e W3 ⟨rfl, hb3⟩
      have HB3 := Lib.hid (HB2.out.trans (hb3.mono HB2.out.size))
      have HEND := Lib.hid (HR.out.2.2.trans (HB3.out.mono HR.out.2.2.size))
      clear hb3
      have HKE := Lib.hid (show prevB f g = (keyEq f g && (if f.n 2 = g.n 2 then decide (0 < Lib.compareBytes (encL f) (encL g)) else decide (g.n 2 < f.n 2))) from by unfold prevB; rw [hvf, hvg]; rfl)
      have HCMP := Lib.hid (fun W => Tryz.strings_Compare ⟨(encL f).toArray⟩ ⟨(encL g).toArray⟩ W)
      simp only at HCMP
      obtain ⟨CB, hCB⟩ : ∃ z, Lib.compareBytes (encL f) (encL g) = z := ⟨_, rfl⟩
      rw [hCB] at HKE HCMP
      obtain ⟨q, hq⟩ : ∃ z, keyEq f g = z := ⟨_, rfl⟩
      rw [hq] at HKE
      have hek := eq_key (f.n 0) (key2 f).1 (key2 f).2 (g.n 0) (key2 g).1 (key2 g).2
      have hq2 : (f.n 0 == g.n 0 && ((key2 f).1 == (key2 g).1 && (key2 f).2 == (key2 g).2)) = q := hq
      rw [hq2] at hek
      unfold keyV at KF KG
      obtain ⟨x0, hx0⟩ : ∃ z, f.n 0 = z := ⟨_, rfl⟩
      obtain ⟨x1, hx1⟩ : ∃ z, (key2 f).1 = z := ⟨_, rfl⟩
      obtain ⟨x2, hx2⟩ : ∃ z, (key2 f).2 = z := ⟨_, rfl⟩
      obtain ⟨y0, hy0⟩ : ∃ z, g.n 0 = z := ⟨_, rfl⟩
      obtain ⟨y1, hy1⟩ : ∃ z, (key2 g).1 = z := ⟨_, rfl⟩
      obtain ⟨y2, hy2⟩ : ∃ z, (key2 g).2 = z := ⟨_, rfl⟩
      rw [hx0, hx1, hx2] at KF hek
      rw [hy0, hy1, hy2] at KG hek
      obtain ⟨vf, hvf2⟩ : ∃ z, f.n 2 = z := ⟨_, rfl⟩
      obtain ⟨vg, hvg2⟩ : ∃ z, g.n 2 = z := ⟨_, rfl⟩
      rw [hvf2, hvg2] at HKE
      rw [hvf2] at HF2
      rw [hvg2] at HG2
      have HLA : Hid (∀ W, (∃ p : Regrown, W = Go.Sort.grow (redrawn W3 p.d) p.os) → ∀ j v, cf[j]? = some v → W.cell? ⟨w.heap.size, 0 + j, none⟩ = some v) := Lib.hid (by
        rintro W ⟨p, rfl⟩
        exact HFL.out _ (HB3.out.trans ((below_regrown W3 p.d p.os).mono HB3.out.size)))
      have HLB : Hid (∀ W, (∃ p : Regrown, W = Go.Sort.grow (redrawn W3 p.d) p.os) → ∀ j v, cg[j]? = some v → W.cell? ⟨w.heap.size + 1, 0 + j, none⟩ = some v) := Lib.hid (by
        rintro W ⟨p, rfl⟩
        exact HGL.out _ (HB3.out.trans ((below_regrown W3 p.d p.os).mono HB3.out.size)))
      clear hx0 hx1 hx2 hy0 hy1 hy2 hvf2 hvg2 hq hq2 hCB hvf hvg
      go_wp2_with fail
      refine wp_region_quiet_below (by kernel_rfl) (by kernel_rfl) ?_
      repeat (quiet_step (fail))
      refine wpQuiet_load_at 34 (.tmp 2) w.heap.size 0 cf _ HLA.out Tryz.underlying34 rfl rfl rfl rfl HCF.out ?_
      quiet_step ((go_at_call 29; exact Calls.regrown_of (KF.out _)))
      refine wpQuiet_load_at 34 (.tmp 3) (w.heap.size + 1) 0 cg _ HLB.out Tryz.underlying34 rfl rfl rfl rfl HCG.out ?_
      quiet_step ((go_at_call 29; exact Calls.regrown_of (KG.out _)))
      repeat (quiet_step (fail))
      refine wpQuiet_nil ?_
      intro W4 hW4
      have hA2 : W4.cell? ⟨w.heap.size, 2, none⟩ = some (.int .i64 vf) := by have h := HLA.out W4 hW4 2 _ HF2.out; simpa using h
      have hB2 : W4.cell? ⟨w.heap.size + 1, 2, none⟩ = some (.int .i64 vg) := by have h := HLB.out W4 hW4 2 _ HG2.out; simpa using h
      have HB4 : Hid (Below w.heap.size w W4) := Lib.hid (by
        obtain ⟨p, rfl⟩ := hW4
        exact HEND.out.trans ((below_regrown W3 p.d p.os).mono HEND.out.size))
      clear HLA HLB hW4 HEND HB3 KF KG hek HF2 HG2 E1 E2
      cases q
      · go_wp2_with fail
        go_ret
        exact ⟨by rw [HKE.out]; rfl, HB4.out⟩
      · by_cases hvv : vf = vg
        · have hd : (vf == vg) = true := by simpa using hvv
          have HVV := Lib.hid hvv
          clear hvv
          go_wp2_with fail
          refine (HCMP.out _).mono ?_
          rintro e W5 ⟨rfl, rfl⟩
          go_wp2_with fail
          go_ret
          exact ⟨by rw [HKE.out, if_pos HVV.out]; rfl, HB4.out⟩
        · have hd : (vf == vg) = false := by simpa using hvv
          have HVV := Lib.hid hvv
          clear hvv
          go_wp2_with fail
          go_ret
          exact ⟨by rw [HKE.out, if_neg HVV.out]; rfl, HB4.out⟩
end Go.Proofs.YtgjajhopjcdflaaGreat
