/- The reference's Key and less; Prevails of valid facts. -/
import Derived.Test.YtdackmefkccipaaMkD
import Derived.Test.YtdackmefkccipaaMkK
import Derived.WalkLawsBesides
import Derived.Lib.QuietBelow
namespace Go.Proofs.Ytdackmefkccipaa
open Go Go.RowKit Go.Lib Go.Shelf

/-- what a fact of revenue, of a subscription or of a rate is about -/
def kA (f : FactV) : Int := if f.n 0 = 5 then f.n 1 else if f.n 0 = 6 then f.n 5 else f.n 15
def kB (f : FactV) : Int := if f.n 0 = 5 then 0 else f.n 3

theorem key_size : (Try.prog.info? 39).map (·.size) = some 3 := by kernel_rfl

set_option maxRecDepth 100000 in
set_option maxHeartbeats 2000000 in
theorem key_some (f : FactV) (hk : f.n 0 = 5 ∨ f.n 0 = 6 ∨ f.n 0 = 7) (w : World) :
    Calls Try.prog 36 #[.agg f.cells] w fun e w' => e = .returned (.agg #[.int .i64 (f.n 0), .int .i64 (kA f), .int .i64 (kB f)]) ∧ Below w.heap.size w w' := by
  have hkA : kA f = if f.n 0 = 5 then f.n 1 else if f.n 0 = 6 then f.n 5 else f.n 15 := rfl
  have hkB : kB f = if f.n 0 = 5 then 0 else f.n 3 := rfl
  have g0 : f.cells[0]? = some (.int .i64 (f.n 0)) := rfl
  have g1 : f.cells[1]? = some (.int .i64 (f.n 1)) := rfl
  have g3 : f.cells[3]? = some (.int .i64 (f.n 3)) := rfl
  have g5 : f.cells[5]? = some (.int .i64 (f.n 5)) := rfl
  have g15 : f.cells[15]? = some (.int .i64 (f.n 15)) := rfl
  obtain ⟨x0, h0⟩ : ∃ x, f.n 0 = x := ⟨_, rfl⟩
  obtain ⟨x1, h1⟩ : ∃ x, f.n 1 = x := ⟨_, rfl⟩
  obtain ⟨x3, h3⟩ : ∃ x, f.n 3 = x := ⟨_, rfl⟩
  obtain ⟨x5, h5⟩ : ∃ x, f.n 5 = x := ⟨_, rfl⟩
  obtain ⟨x15, h15⟩ : ∃ x, f.n 15 = x := ⟨_, rfl⟩
  rw [h0, h1, h5, h15] at hkA
  rw [h0, h3] at hkB
  rw [h0] at g0 hk ⊢
  rw [h1] at g1
  rw [h3] at g3
  rw [h5] at g5
  rw [h15] at g15
  have HA := Lib.hid hkA
  have HB := Lib.hid hkB
  clear h0 h1 h3 h5 h15 hkA hkB
  rcases hk with rfl | rfl | rfl
  · go_enter Try.func36, Try.ntmps36
    go_wp2_with fail
    exact bodyPost_ret (v := .agg #[.int .i64 5, .int .i64 x1, .int .i64 0]) (by simp [results, Try.results36, go_sem]) rfl ⟨by rw [HA.out, HB.out]; rfl, ((Below.refl _ _).alloc (Nat.le_refl _) _).alloc (by simp) _⟩
  · go_enter Try.func36, Try.ntmps36
    go_wp2_with fail
    go_quiet (fail)
    go_wp2_with fail
    exact bodyPost_ret (v := .agg #[.int .i64 6, .int .i64 x5, .int .i64 x3]) (by simp [results, Try.results36, go_sem]) rfl ⟨by rw [HA.out, HB.out]; rfl, (((below_drewN (((Below.refl _ _).alloc (Nat.le_refl _) _).alloc (by simp) _) _).setCell (p := ⟨w.heap.size + 1, 0, none⟩) (by simp) _).setCell (p := ⟨w.heap.size + 1, 1, none⟩) (by simp) _).setCell (p := ⟨w.heap.size + 1, 2, none⟩) (by simp) _⟩
  · go_enter Try.func36, Try.ntmps36
    go_wp2_with fail
    go_quiet (fail)
    go_wp2_with fail
    exact bodyPost_ret (v := .agg #[.int .i64 7, .int .i64 x15, .int .i64 x3]) (by simp [results, Try.results36, go_sem]) rfl ⟨by rw [HA.out, HB.out]; rfl, (((below_drewN (((Below.refl _ _).alloc (Nat.le_refl _) _).alloc (by simp) _) _).setCell (p := ⟨w.heap.size + 1, 0, none⟩) (by simp) _).setCell (p := ⟨w.heap.size + 1, 1, none⟩) (by simp) _).setCell (p := ⟨w.heap.size + 1, 2, none⟩) (by simp) _⟩

set_option maxRecDepth 100000 in
set_option maxHeartbeats 2000000 in
theorem less_some (a0 a1 a2 b0 b1 b2 : Int) (w : World) :
    Calls Try.prog 38 #[.agg #[.int .i64 a0, .int .i64 a1, .int .i64 a2], .agg #[.int .i64 b0, .int .i64 b1, .int .i64 b2]] w fun e w' => (∃ b, e = .returned (.bool b)) ∧ Below w.heap.size w w' := by
  go_enter Try.func38, Try.ntmps38
  go_wp2_with fail
  obtain ⟨W0, hW0⟩ : ∃ W0, (w.alloc (.cells #[.int .i64 a0, .int .i64 a1, .int .i64 a2] 39)).alloc (.cells #[.int .i64 b0, .int .i64 b1, .int .i64 b2] 39) = W0 := ⟨_, rfl⟩
  have hb0 : Below w.heap.size w W0 := by rw [← hW0]; exact ((Below.refl _ _).alloc (Nat.le_refl _) _).alloc (by simp) _
  have r0 : W0.heap[w.heap.size]? = some (.cells #[.int .i64 a0, .int .i64 a1, .int .i64 a2] 39 (0, 0)) := by rw [← hW0]; exact (Below.heap_alloc _ _ _ (by simp)).trans (heap_alloc_last w _)
  have r1 : W0.heap[w.heap.size + 1]? = some (.cells #[.int .i64 b0, .int .i64 b1, .int .i64 b2] 39 (0, 0)) := by rw [← hW0]; have := heap_alloc_last (w.alloc (.cells #[.int .i64 a0, .int .i64 a1, .int .i64 a2] 39)) (.cells #[.int .i64 b0, .int .i64 b1, .int .i64 b2] 39); rwa [World.size_alloc] at this
  rw [hW0]
  clear hW0
  have HB0 := Lib.hid hb0
  have R0 := Lib.hid r0
  have R1 := Lib.hid r1
  clear hb0 r0 r1
  go_loopw [5] (fun iv wr => ∃ k : Nat, k ≤ 3 ∧ iv = .int .i64 k ∧ Hid (Below W0.heap.size W0 wr)) (fun i _ => 3 - (intOf i).toNat)
  case atStart => exact ⟨0, by omega, rfl, Lib.hid (Below.refl _ _)⟩
  case round =>
    obtain ⟨k, hk, rfl, HW⟩ := hrel
    by_cases hlt : k < 3
    · obtain ⟨x, hx⟩ : ∃ x, wr.cell? ⟨w.heap.size, k, none⟩ = some (.int .i64 x) := by
        rw [cell_of_row _ _ k _ _ _ ((HW.out.block w.heap.size (Array.getElem?_eq_some_iff.1 R0.out).1).trans R0.out)]
        rcases (by omega : k = 0 ∨ k = 1 ∨ k = 2) with rfl | rfl | rfl <;> exact ⟨_, rfl⟩
      obtain ⟨y, hy⟩ : ∃ y, wr.cell? ⟨w.heap.size + 1, k, none⟩ = some (.int .i64 y) := by
        rw [cell_of_row _ _ k _ _ _ ((HW.out.block (w.heap.size + 1) (Array.getElem?_eq_some_iff.1 R1.out).1).trans R1.out)]
        rcases (by omega : k = 0 ∨ k = 1 ∨ k = 2) with rfl | rfl | rfl <;> exact ⟨_, rfl⟩
      have HBW := Lib.hid (HB0.out.trans (HW.out.mono HB0.out.size))
      by_cases hxy : x = y
      · subst hxy
        go_wp2_with fail
        go_quiet (fail)
        go_wp2_with fail
        go_roundw
        case rel => exact ⟨k + 1, by omega, by go_num, Lib.hid (below_drewN HW.out _)⟩
        case measure => simp [intOf]; omega
      · have q : (x != y) = true := by rw [bne_iff_ne]; exact hxy
        go_wp2_with fail
        go_quiet (fail)
        go_wp2_with fail
        go_quiet (fail)
        go_wp2_with fail
        go_ret
        exact ⟨⟨_, rfl⟩, below_drewN (below_drewN HBW.out _) _⟩
    · have HBW := Lib.hid (HB0.out.trans (HW.out.mono HB0.out.size))
      obtain rfl : k = 3 := by omega
      go_wp2_with fail
      go_ret
      exact ⟨⟨_, rfl⟩, HBW.out⟩

theorem wpQuiet_load_at {P : Program} {ops : Array Oper} {C : World → Prop} {Q : Act → Prop} {a : Act} {o : Oper} {rest : List Oper} (ty : TypeId) (x : Operand) (b off : Nat) (cs : Array Value) (d : TypeDesc) (hc : ∀ w, C w → ∀ j v, cs[j]? = some v → w.cell? ⟨b, off + j, none⟩ = some v)
    (hu : P.underlying ty = some d) (hw : Region.wanted o (yielded ops a.tmps) = true) (ho : o.op = .load ty x) (hx : a.eval x = .pointer (some ⟨b, off, none⟩)) (hd : (match d with | .struct _ | .array _ _ => true | _ => false) = true) (hi : (P.info? ty).map (·.size) = some cs.size)
    (h : wpQuiet P ops C Q rest (a.put o.dst (.agg cs))) : wpQuiet P ops C Q (o :: rest) a := by
  unfold wpQuiet
  rw [if_pos hw]
  refine ⟨.agg cs, fun w hC => ?_, h⟩
  unfold Oper.quietAt
  simp only [execOp, ho, hx, Instr.loadAt, Instr.sureAddr, Sem.run_bind, Sem.run_pure, Result.andThen_ok, run_loadVar_at w b off ty cs d (hc w hC) hu hd hi]
  exact ⟨rfl, rfl⟩

set_option maxRecDepth 100000 in
set_option maxHeartbeats 4000000 in
theorem prevails_some (f g : FactV) (hf : ValidF f) (hg : ValidF g) (kf : f.n 0 = 5 ∨ f.n 0 = 6 ∨ f.n 0 = 7) (kg : g.n 0 = 5 ∨ g.n 0 = 6 ∨ g.n 0 = 7) (w : World) :
    Calls Try.prog 37 #[.agg f.cells, .agg g.cells] w fun e w' => (∃ b, e = .returned (.bool b)) ∧ Below w.heap.size w w' := by
  have EF := Lib.hid (encode_s f hf)
  have EG := Lib.hid (encode_s g hg)
  have KF := Lib.hid (key_some f kf)
  have KG := Lib.hid (key_some g kg)
  clear hf hg kf kg
  go_enter Try.func37, Try.ntmps37
  go_wp2_with (first | ((with_reducible refine load_fact (o := ⟨some 10, _, _, _, _, _⟩) (.tmp 2) w.heap.size 0 f (row_cells ((Below.heap_alloc _ _ _ (by simp)).trans (heap_alloc_last w _))) ?_ ?_ ?_ ?_); rfl; rfl; rfl))
  refine (EF.out _).mono ?_
  rintro e w2 ⟨s1, rfl, hb⟩
  have r1 := heap_alloc_last (w.alloc (.cells f.cells 41)) (.cells g.cells 41)
  rw [World.size_alloc] at r1
  have r0 : ((w.alloc (.cells f.cells 41)).alloc (.cells g.cells 41)).heap[w.heap.size]? = some (.cells f.cells 41 (0, 0)) := (Below.heap_alloc _ _ _ (by simp)).trans (heap_alloc_last w _)
  have hra : w2.heap[w.heap.size]? = some (.cells f.cells 41 (0, 0)) := (hb.block _ (by simp; omega)).trans r0
  have hrb : w2.heap[w.heap.size + 1]? = some (.cells g.cells 41 (0, 0)) := (hb.block _ (by simp)).trans r1
  have HRA := Lib.hid hra
  have HRB := Lib.hid hrb
  have HB := Lib.hid ((((Below.refl w.heap.size w).alloc (Nat.le_refl _) _).alloc (by simp) _).trans (hb.mono (by simp; omega)))
  clear hb r0 r1 hra hrb
  go_wp2_with (first | ((with_reducible refine load_fact (o := ⟨some 15, _, _, _, _, _⟩) (.tmp 3) (w.heap.size + 1) 0 g (row_cells HRB.out) ?_ ?_ ?_ ?_); rfl; rfl; rfl))
  refine (EG.out _).mono ?_
  rintro e w3 ⟨s2, rfl, hb⟩
  have ra : w3.heap[w.heap.size]? = some (.cells f.cells 41 (0, 0)) := (hb.block _ (Array.getElem?_eq_some_iff.1 HRA.out).1).trans HRA.out
  have rb : w3.heap[w.heap.size + 1]? = some (.cells g.cells 41 (0, 0)) := (hb.block _ (Array.getElem?_eq_some_iff.1 HRB.out).1).trans HRB.out
  have HB3 := Lib.hid (HB.out.trans (hb.mono HB.out.size))
  have HRA3 := Lib.hid ra
  have HRB3 := Lib.hid rb
  have HLA : Hid (∀ W, (∃ p : Regrown, W = Go.Sort.grow (redrawn w3 p.d) p.os) → ∀ j v, f.cells[j]? = some v → W.cell? ⟨w.heap.size, 0 + j, none⟩ = some v) := Lib.hid (by
    rintro W ⟨p, rfl⟩
    exact row_cells (((below_regrown w3 p.d p.os).block _ (Array.getElem?_eq_some_iff.1 ra).1).trans ra))
  have HLB : Hid (∀ W, (∃ p : Regrown, W = Go.Sort.grow (redrawn w3 p.d) p.os) → ∀ j v, g.cells[j]? = some v → W.cell? ⟨w.heap.size + 1, 0 + j, none⟩ = some v) := Lib.hid (by
    rintro W ⟨p, rfl⟩
    exact row_cells (((below_regrown w3 p.d p.os).block _ (Array.getElem?_eq_some_iff.1 rb).1).trans rb))
  have hek := eq_key
  clear hb ra rb HB HRA HRB
  go_wp2_with fail
  refine wp_region_quiet_below (by kernel_rfl) (by kernel_rfl) ?_
  repeat (quiet_step (fail))
  refine wpQuiet_load_at 41 (.tmp 2) w.heap.size 0 f.cells _ HLA.out Try.underlying41 rfl rfl rfl rfl fact_size ?_
  quiet_step ((go_at_call 36; exact Calls.regrown_of (KF.out _)))
  refine wpQuiet_load_at 41 (.tmp 3) (w.heap.size + 1) 0 g.cells _ HLB.out Try.underlying41 rfl rfl rfl rfl fact_size ?_
  quiet_step ((go_at_call 36; exact Calls.regrown_of (KG.out _)))
  repeat (quiet_step (fail))
  refine wpQuiet_nil ?_
  intro w4 hw4
  have hcA := HLA.out w4 hw4
  have hcB := HLB.out w4 hw4
  have HB4 : Hid (Below w.heap.size w w4) := Lib.hid (by
    obtain ⟨p, rfl⟩ := hw4
    exact HB3.out.trans ((below_regrown w3 p.d p.os).mono HB3.out.size))
  have hA2 : w4.cell? ⟨w.heap.size, 2, none⟩ = some (.int .i64 (f.n 2)) := hcA 2 _ rfl
  have hB2 : w4.cell? ⟨w.heap.size + 1, 2, none⟩ = some (.int .i64 (g.n 2)) := hcB 2 _ rfl
  clear hcA hcB HLA HLB hw4 HRA3 HRB3 EF EG KF KG hek HB3
  go_wp2_with fail
  all_goals (go_ret; first | exact ⟨⟨_, rfl⟩, HB4.out⟩ | exact ⟨.inr rfl, HB4.out⟩ | exact ⟨.inl rfl, HB4.out⟩)
end Go.Proofs.Ytdackmefkccipaa
