/- effects, isAccounts, Valid, Clone. -/
import Derived.Test.YtejkgnlflhngbaaTmG
namespace Go.Proofs.Ytejkgnlflhngbaa
open Go Go.RowKit Go.Lib Go.Shelf Go.Maps

theorem wf_i64 {a : Int} (h1 : -9223372036854775808 ≤ a) (h2 : a ≤ 9223372036854775807) : (Lit.int .i64 a).wf = true := WalkArith.wf_i64 (by omega)
/-- how a function value reads -/
def fnElem (v : Value) : Option (DataW Unit × List MemPlace) :=
  match v with
  | .func (.func n) ⟨[]⟩ ⟨[]⟩ => some (.lit (.int .i64 (n : Int)), [])
  | _ => some (.lit (.int .i64 (-1)), [])
theorem fnElem_inv {v : Value} {n : Nat} {ps : List MemPlace} (h : fnElem v = some (.lit (.int .i64 (n : Int)), ps)) : v = .func (.func n) #[] #[] := by
  unfold fnElem at h
  split at h
  · simp only [Option.some.injEq, Prod.mk.injEq, DataW.lit.injEq, Lit.int.injEq, true_and] at h
    have : _ = n := Int.ofNat.inj h.1
    rw [this]
  · simp only [Option.some.injEq, Prod.mk.injEq, DataW.lit.injEq, Lit.int.injEq, true_and] at h
    omega
/-- the map of effects as it reads -/
def effD : DataW Unit := (((((DataW.map []).put (.int .i64 1) (.lit (.int .i64 40))).put (.int .i64 2) (.lit (.int .i64 41))).put (.int .i64 3) (.lit (.int .i64 42))).put (.int .i64 4) (.lit (.int .i64 43))).put (.int .i64 5) (.lit (.int .i64 44))
def EffAt (w : World) (eb : Nat) : Prop := w.ownsMap Try.prog 3 fnElem eb 5 effD
theorem EffAt.kept {w w' : World} {eb : Nat} (h : EffAt w eb) (hb : w'.heap[eb]? = w.heap[eb]?) : EffAt w' eb := by
  obtain ⟨es, clock, hh, F, hs, hD⟩ := h
  exact ⟨es, clock, hb.trans hh, F, hs, hD⟩
set_option maxHeartbeats 1000000 in
theorem effects_any (w : World) : Calls Try.prog 26 #[] w fun e w' => e = .returned (.map (some w.heap.size)) ∧ EffAt w' w.heap.size ∧ Below w.heap.size w w' := by
  have hm0 := World.ownsMap_made w Try.prog 3 fnElem
  obtain ⟨w1, r1, m1, g1⟩ := hm0.update (int_keyed Try.underlying3) Try.underlying62 (by decide) (keyOf_int_mk Try.underlying3 (show (Lit.int .i64 1).wf = true by decide)) (show fnElem (.func (.func 40) #[] #[]) = _ from rfl)
  obtain ⟨w2, r2, m2, g2⟩ := m1.update (int_keyed Try.underlying3) Try.underlying62 (by decide) (keyOf_int_mk Try.underlying3 (show (Lit.int .i64 2).wf = true by decide)) (show fnElem (.func (.func 41) #[] #[]) = _ from rfl)
  obtain ⟨w3, r3, m3, g3⟩ := m2.update (int_keyed Try.underlying3) Try.underlying62 (by decide) (keyOf_int_mk Try.underlying3 (show (Lit.int .i64 3).wf = true by decide)) (show fnElem (.func (.func 42) #[] #[]) = _ from rfl)
  obtain ⟨w4, r4, m4, g4⟩ := m3.update (int_keyed Try.underlying3) Try.underlying62 (by decide) (keyOf_int_mk Try.underlying3 (show (Lit.int .i64 4).wf = true by decide)) (show fnElem (.func (.func 43) #[] #[]) = _ from rfl)
  obtain ⟨w5, r5, m5, g5⟩ := m4.update (int_keyed Try.underlying3) Try.underlying62 (by decide) (keyOf_int_mk Try.underlying3 (show (Lit.int .i64 5).wf = true by decide)) (show fnElem (.func (.func 44) #[] #[]) = _ from rfl)
  have b0 : Below w.heap.size w (w.alloc (.map #[] 0)) := (Below.refl _ _).alloc (Nat.le_refl _) _
  have gb : ∀ j, some w.heap.size = some j → w.heap.size ≤ j := fun j e => by cases e; exact Nat.le_refl _
  have b5 : Below w.heap.size w w5 := ((((b0.grown g1 b0.size gb).grown g2 (b0.grown g1 b0.size gb).size gb).grown g3 ((b0.grown g1 b0.size gb).grown g2 (b0.grown g1 b0.size gb).size gb).size gb).grown g4 (((b0.grown g1 b0.size gb).grown g2 (b0.grown g1 b0.size gb).size gb).grown g3 ((b0.grown g1 b0.size gb).grown g2 (b0.grown g1 b0.size gb).size gb).size gb).size gb).grown g5 ((((b0.grown g1 b0.size gb).grown g2 (b0.grown g1 b0.size gb).size gb).grown g3 ((b0.grown g1 b0.size gb).grown g2 (b0.grown g1 b0.size gb).size gb).size gb).grown g4 (((b0.grown g1 b0.size gb).grown g2 (b0.grown g1 b0.size gb).size gb).grown g3 ((b0.grown g1 b0.size gb).grown g2 (b0.grown g1 b0.size gb).size gb).size gb).size gb).size gb
  have HM := Lib.hid (show EffAt w5 w.heap.size from m5)
  have HB := Lib.hid b5
  have hmm := @run_makeMap Try.prog
  clear m1 m2 m3 m4 m5 hm0 g1 g2 g3 g4 g5 b0 gb b5
  go_enter Try.func26, Try.ntmps26
  go_wp2_with fail
  go_ret
  exact ⟨rfl, HM.out, HB.out⟩
theorem eff_look {w : World} {eb : Nat} (h : EffAt w eb) : ∀ k f : Nat, (k, f) ∈ [(1, 40), (2, 41), (3, 42), (4, 43), (5, 44)] →
    (Instr.lookup 62 (.map (some eb)) (.int .i64 (k : Int)) false).run Try.prog w = .ok (.func (.func f) #[] #[]) w := by
  intro k f hkf
  have hz : ∃ z, (∀ w, (zeroValue 64).run Try.prog w = .ok z w) ∧ fnElem z = some (.lit (.int .i64 (-1)), []) := ⟨.nilFunc, fun w => by kernel_rfl, by rfl⟩
  obtain ⟨z, hz1, hz2⟩ := hz
  have hk : keyOf Try.prog 3 (.int .i64 (k : Int)) = some (.int .i64 (k : Int)) := by
    refine keyOf_int_mk Try.underlying3 (wf_i64 (by omega) ?_)
    simp at hkf
    omega
  obtain ⟨v, ps, hrun, hv⟩ := World.ownsMap.lookup h (int_keyed Try.underlying3) Try.underlying62 (hz1 w) hz2 hk
  rw [hrun]
  have hat : effD.atKey (.int .i64 (k : Int)) (.lit (.int .i64 (-1))) = .lit (.int .i64 (f : Int)) := by
    simp only [List.mem_cons, Prod.mk.injEq, List.not_mem_nil, or_false] at hkf
    rcases hkf with ⟨rfl, rfl⟩ | ⟨rfl, rfl⟩ | ⟨rfl, rfl⟩ | ⟨rfl, rfl⟩ | ⟨rfl, rfl⟩ <;> rfl
  rw [hat] at hv
  rw [fnElem_inv hv]
end Go.Proofs.Ytejkgnlflhngbaa
