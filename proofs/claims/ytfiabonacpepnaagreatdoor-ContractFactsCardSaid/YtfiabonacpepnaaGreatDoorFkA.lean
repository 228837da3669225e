/- Package fact: the table of kinds. -/
import Derived.Test.YtfiabonacpepnaaGreatDoorProg
import Derived.Test.YtfiabonacpepnaaGreatDoorBase
import Derived.Test.YtfiabonacpepnaaGreatDoorBaseB
import Derived.Test.YtfiabonacpepnaaGreatDoorBaseC
import Derived.Test.YtfiabonacpepnaaGreatDoorBaseD
import Derived.Test.YtfiabonacpepnaaGreatDoorExM
import Derived.Maps.OwnSet
import Derived.Shelf.Abstract
import Derived.IntWalk
namespace Go.Proofs.YtfiabonacpepnaaGreatDoor.Fb
open Go Go.RowKit Go.Lib Go.Shelf Go.Maps

/-- a kind of facts: its fields' function, whether it has a text, its key's function -/
def knV (a : Nat) (b : Bool) (c : Nat) : Value := .agg #[.func (.func a) #[] #[], .bool b, .func (.func c) #[] #[]]
def knD (a : Nat) (b : Bool) (c : Nat) : DataW Unit := .agg [.lit (.int .i64 (a : Int)), .lit (.bool b), .lit (.int .i64 (c : Int))]
/-- how a kind reads -/
def knElem (v : Value) : Option (DataW Unit × List MemPlace) :=
  match v with
  | .agg ⟨[.func (.func a) ⟨[]⟩ ⟨[]⟩, .bool b, .func (.func c) ⟨[]⟩ ⟨[]⟩]⟩ => some (knD a b c, [])
  | _ => some (.lit (.int .i64 (-1)), [])
theorem knElem_inv {v : Value} {a c : Nat} {b : Bool} {ps : List MemPlace} (h : knElem v = some (knD a b c, ps)) : v = knV a b c := by
  unfold knElem at h
  split at h
  · simp only [Option.some.injEq, Prod.mk.injEq, knD, DataW.agg.injEq, List.cons.injEq, DataW.lit.injEq, Lit.int.injEq, Lit.bool.injEq, true_and, and_true] at h
    obtain ⟨⟨h1, h2, h3⟩, _⟩ := h
    have e1 : _ = a := Int.ofNat.inj h1
    have e3 : _ = c := Int.ofNat.inj h3
    rw [e1, h2, e3]
    rfl
  · simp [knD] at h
def knAll : DataW Unit := (((((((((((DataW.map []).put (.int .i64 1) (knD 98 false 99)).put (.int .i64 2) (knD 100 false 99)).put (.int .i64 3) (knD 101 false 102)).put (.int .i64 4) (knD 103 true 104)).put (.int .i64 5) (knD 105 false 102)).put (.int .i64 6) (knD 106 false 107)).put (.int .i64 7) (knD 108 false 109)).put (.int .i64 8) (knD 110 false 102)).put (.int .i64 9) (knD 111 true 112)).put (.int .i64 10) (knD 113 false 114))
def KnAt (w : World) (eb : Nat) : Prop := w.ownsMap Tryz.prog 3 knElem eb 10 knAll
theorem KnAt.kept {w w' : World} {eb : Nat} (h : KnAt w eb) (hb : w'.heap[eb]? = w.heap[eb]?) : KnAt w' eb := by
  obtain ⟨es, clock, hh, F, hs, hD⟩ := h
  exact ⟨es, clock, hb.trans hh, F, hs, hD⟩
theorem KnAt.below {w w' : World} {eb C : Nat} (h : KnAt w eb) (hb : Below C w w') (hl : eb < C) : KnAt w' eb := h.kept (hb.block eb hl)
set_option maxHeartbeats 4000000 in
theorem kinds_any (w : World) : Calls Tryz.prog 73 #[] w fun e w' => e = .returned (.map (some w.heap.size)) ∧ KnAt w' w.heap.size ∧ Below w.heap.size w w' := by
  have m0 := World.ownsMap_made w Tryz.prog 3 knElem
  obtain ⟨w1, r1, m1, g1⟩ := m0.update (int_keyed Tryz.underlying3) Tryz.underlying120 (by decide) (keyOf_int_mk Tryz.underlying3 (show (Lit.int .i64 1).wf = true by decide)) (show knElem (knV 98 false 99) = _ from rfl)
  obtain ⟨w2, r2, m2, g2⟩ := m1.update (int_keyed Tryz.underlying3) Tryz.underlying120 (by decide) (keyOf_int_mk Tryz.underlying3 (show (Lit.int .i64 2).wf = true by decide)) (show knElem (knV 100 false 99) = _ from rfl)
  obtain ⟨w3, r3, m3, g3⟩ := m2.update (int_keyed Tryz.underlying3) Tryz.underlying120 (by decide) (keyOf_int_mk Tryz.underlying3 (show (Lit.int .i64 3).wf = true by decide)) (show knElem (knV 101 false 102) = _ from rfl)
  obtain ⟨w4, r4, m4, g4⟩ := m3.update (int_keyed Tryz.underlying3) Tryz.underlying120 (by decide) (keyOf_int_mk Tryz.underlying3 (show (Lit.int .i64 4).wf = true by decide)) (show knElem (knV 103 true 104) = _ from rfl)
  obtain ⟨w5, r5, m5, g5⟩ := m4.update (int_keyed Tryz.underlying3) Tryz.underlying120 (by decide) (keyOf_int_mk Tryz.underlying3 (show (Lit.int .i64 5).wf = true by decide)) (show knElem (knV 105 false 102) = _ from rfl)
  obtain ⟨w6, r6, m6, g6⟩ := m5.update (int_keyed Tryz.underlying3) Tryz.underlying120 (by decide) (keyOf_int_mk Tryz.underlying3 (show (Lit.int .i64 6).wf = true by decide)) (show knElem (knV 106 false 107) = _ from rfl)
  obtain ⟨w7, r7, m7, g7⟩ := m6.update (int_keyed Tryz.underlying3) Tryz.underlying120 (by decide) (keyOf_int_mk Tryz.underlying3 (show (Lit.int .i64 7).wf = true by decide)) (show knElem (knV 108 false 109) = _ from rfl)
  obtain ⟨w8, r8, m8, g8⟩ := m7.update (int_keyed Tryz.underlying3) Tryz.underlying120 (by decide) (keyOf_int_mk Tryz.underlying3 (show (Lit.int .i64 8).wf = true by decide)) (show knElem (knV 110 false 102) = _ from rfl)
  obtain ⟨w9, r9, m9, g9⟩ := m8.update (int_keyed Tryz.underlying3) Tryz.underlying120 (by decide) (keyOf_int_mk Tryz.underlying3 (show (Lit.int .i64 9).wf = true by decide)) (show knElem (knV 111 true 112) = _ from rfl)
  obtain ⟨w10, r10, m10, g10⟩ := m9.update (int_keyed Tryz.underlying3) Tryz.underlying120 (by decide) (keyOf_int_mk Tryz.underlying3 (show (Lit.int .i64 10).wf = true by decide)) (show knElem (knV 113 false 114) = _ from rfl)
  have b0 : Below w.heap.size w (w.alloc (.map #[] 0)) := (Below.refl _ _).alloc (Nat.le_refl _) _
  have gb : ∀ j, some w.heap.size = some j → w.heap.size ≤ j := fun j e => by cases e; exact Nat.le_refl _
  have b1 : Below w.heap.size w w1 := b0.grown g1 b0.size gb
  have b2 : Below w.heap.size w w2 := b1.grown g2 b1.size gb
  have b3 : Below w.heap.size w w3 := b2.grown g3 b2.size gb
  have b4 : Below w.heap.size w w4 := b3.grown g4 b3.size gb
  have b5 : Below w.heap.size w w5 := b4.grown g5 b4.size gb
  have b6 : Below w.heap.size w w6 := b5.grown g6 b5.size gb
  have b7 : Below w.heap.size w w7 := b6.grown g7 b6.size gb
  have b8 : Below w.heap.size w w8 := b7.grown g8 b7.size gb
  have b9 : Below w.heap.size w w9 := b8.grown g9 b8.size gb
  have b10 : Below w.heap.size w w10 := b9.grown g10 b9.size gb
  have HM := Lib.hid (show KnAt w10 w.heap.size from m10)
  have HB := Lib.hid b10
  have hmm := @run_makeMap Tryz.prog
  unfold knV at r1 r2 r3 r4 r5 r6 r7 r8 r9 r10
  clear m0 m1 m2 m3 m4 m5 m6 m7 m8 m9 m10 g1 g2 g3 g4 g5 g6 g7 g8 g9 g10 b0 b1 b2 b3 b4 b5 b6 b7 b8 b9 b10 gb
  go_enter Tryz.func73, Tryz.ntmps73
  go_wp2_with fail
  go_ret
  exact ⟨rfl, HM.out, HB.out⟩
def knList : List (Nat × Nat × Bool × Nat) := [(1, 98, false, 99), (2, 100, false, 99), (3, 101, false, 102), (4, 103, true, 104), (5, 105, false, 102), (6, 106, false, 107), (7, 108, false, 109), (8, 110, false, 102), (9, 111, true, 112), (10, 113, false, 114)]
theorem knAll_at : ∀ x ∈ knList, ∀ zd, knAll.atKey (.int .i64 (x.1 : Int)) zd = knD x.2.1 x.2.2.1 x.2.2.2 := by
  intro x hx zd
  simp only [knList, List.mem_cons, List.not_mem_nil, or_false] at hx
  rcases hx with rfl | rfl | rfl | rfl | rfl | rfl | rfl | rfl | rfl | rfl <;> rfl
theorem knAll_other (n : Int) (h : ¬(1 ≤ n ∧ n ≤ 10)) (zd : DataW Unit) : knAll.atKey (.int .i64 n) zd = zd := by
  have hne : ∀ j : Int, 1 ≤ j → j ≤ 10 → Lit.int .i64 n ≠ Lit.int .i64 j := fun j h1 h2 e => by
    simp only [Lit.int.injEq, true_and] at e
    omega
  unfold knAll
  rw [atKey_put_other (hne 10 (by omega) (by omega)), atKey_put_other (hne 9 (by omega) (by omega)), atKey_put_other (hne 8 (by omega) (by omega)), atKey_put_other (hne 7 (by omega) (by omega)), atKey_put_other (hne 6 (by omega) (by omega)), atKey_put_other (hne 5 (by omega) (by omega)), atKey_put_other (hne 4 (by omega) (by omega)), atKey_put_other (hne 3 (by omega) (by omega)), atKey_put_other (hne 2 (by omega) (by omega)), atKey_put_other (hne 1 (by omega) (by omega))]
  rfl
def knZero : Value := .agg #[.nilFunc, .bool false, .nilFunc]
theorem kn_zero (w : World) : (zeroValue 118).run Tryz.prog w = .ok knZero w := by kernel_rfl
theorem kn_known {w : World} {eb : Nat} (h : KnAt w eb) {j a c : Nat} {b : Bool} (hm : (j, a, b, c) ∈ knList) :
    (Instr.lookup 120 (.map (some eb)) (.int .i64 (j : Int)) true).run Tryz.prog w = .ok (.tuple #[knV a b c, .bool true]) w := by
  obtain ⟨es, clock, hb, F, _, hD⟩ := h
  have hj : 1 ≤ j ∧ j ≤ 10 := by
    simp only [knList, List.mem_cons, List.not_mem_nil, or_false, Prod.mk.injEq] at hm
    omega
  have hkey : keyOf Tryz.prog 3 (.int .i64 (j : Int)) = some (.int .i64 (j : Int)) := keyOf_int_mk Tryz.underlying3 (WalkArith.wf_i64 (by omega))
  have hat0 := knAll_at _ hm
  rcases Maps.fit_look true (int_keyed Tryz.underlying3) Tryz.underlying120 (kn_zero w) hb F hkey with ⟨_, _, hat⟩ | ⟨e0, y, _, _, hrun, hRv, hat, _⟩
  · exfalso
    have e := hat (.lit (.int .i64 (-1)))
    rw [← hD, hat0] at e
    simp [knD] at e
  · have e := hat (.lit (.int .i64 (-1)))
    rw [← hD, hat0] at e
    rw [hrun, if_pos rfl]
    have hv : e0.val = knV a b c := by
      refine knElem_inv (ps := y.2) ?_
      rw [hRv]
      exact congrArg some (Prod.ext e.symm rfl)
    rw [hv]
theorem kn_other {w : World} {eb : Nat} (h : KnAt w eb) (n : Int) (h1 : -9223372036854775808 ≤ n) (h2 : n ≤ 9223372036854775807) (hn : ¬(1 ≤ n ∧ n ≤ 10)) :
    (Instr.lookup 120 (.map (some eb)) (.int .i64 n) true).run Tryz.prog w = .ok (.tuple #[knZero, .bool false]) w := by
  obtain ⟨es, clock, hb, F, _, hD⟩ := h
  have hkey : keyOf Tryz.prog 3 (.int .i64 n) = some (.int .i64 n) := keyOf_int_mk Tryz.underlying3 (WalkArith.wf_i64 (by omega))
  rcases Maps.fit_look true (int_keyed Tryz.underlying3) Tryz.underlying120 (kn_zero w) hb F hkey with ⟨hrun, _, _⟩ | ⟨e0, y, _, _, _, _, hat, _⟩
  · rw [hrun, if_pos rfl]
  · exfalso
    have e1 := hat (.lit (.int .i64 (-1)))
    have e2 := hat (.lit (.int .i64 (-2)))
    rw [← hD, knAll_other n hn] at e1 e2
    rw [← e2] at e1
    simp at e1
end Go.Proofs.YtfiabonacpepnaaGreatDoor.Fb
