/- The iterator over the 7-bit groups. -/
import Derived.RangeFuncNested
import Derived.RangeFuncBound
import Derived.RangeFuncCalls
import Derived.RangeFuncLeaves
import Derived.Shelf.Abstract
import Derived.Shelf.RegionOpen
import Derived.OwnWalkIn
import Derived.TacticsInMore
import Derived.LoopNIn
import Derived.LoopIn
import Derived.Test.YtfiabonacpepnaaGreatDoorWireC
namespace Go.Proofs.YtfiabonacpepnaaGreatDoor.Fb
open Go Go.RowKit Go.Shelf
attribute [local go_sem] Oper.semAt_some

/-- a box that holds a number -/
def BoxU (w : World) (B z : Nat) : Prop := w.heap[B]? = some (.cells #[.int .u64 (z : Int)] 128 (0, 0))
def zOf (w : World) (B : Nat) : Nat := match w.heap[B]? with
  | some (.cells cs _ _) => (intOf (cs.getD 0 undef)).toNat
  | _ => 0
theorem BoxU.z {w : World} {B z : Nat} (h : BoxU w B z) : zOf w B = z := by unfold BoxU at h; unfold zOf; rw [h]; simp [intOf]
theorem BoxU.cell {w : World} {B z : Nat} (h : BoxU w B z) : w.cell? ⟨B, 0, none⟩ = some (.int .u64 (z : Int)) := cell_of_one h
theorem BoxU.free {w : World} {B z : Nat} (h : BoxU w B z) : w.frozen? ⟨B, 0, none⟩ = false := free_of_one h
theorem BoxU.set {w : World} {B z : Nat} (h : BoxU w B z) (z' : Nat) : BoxU (w.setCell ⟨B, 0, none⟩ (.int .u64 (z' : Int))) B z' := one_setCell h

theorem and127u (z : Nat) (h : z < 18446744073709551616) : bits BinOp.and IntKind.u64 (z : Int) 127 = ((z % 128 : Nat) : Int) := by
  have := u64_and_nat z 127 h (by omega)
  rw [nat_mask7] at this
  exact this

set_option maxRecDepth 100000 in
set_option maxHeartbeats 1000000 in
theorem groups1_in (n : Nat) (hn : 1 ≤ n) (l B : Nat) (J : Nat → World → Prop) (Jend : World → Prop)
    (hJ : ∀ z W v, J z W → J z (W.setCell ⟨B, 0, none⟩ v))
    (hY : ∀ z W, z < 18446744073709551616 → J z W → YieldAt Fence.wide (n - 1) Tryz.prog l #[.int .u8 ((z : Int) % 128), .bool (decide ((z : Int) < 128))] W fun e W' =>
      e = .returned (.bool true) ∧ (if z < 128 then Jend W' else J (z / 128) W') ∧ W'.heap[B]? = W.heap[B]?)
    (z : Nat) (hz : z < 18446744073709551616) (W : World) (hB : BoxU W B z) (h0 : J z W) :
    CallsIn Fence.wide n Tryz.prog 115 #[.func (.yield l) #[] #[], .pointer (some ⟨B, 0, none⟩)] W fun e W' => (∃ v, e = .returned v) ∧ Jend W' := by
  refine callsIn_of_wp Tryz.func115 rfl trivial ?_ rfl
  simp only [Tryz.ntmps115, List.size_toArray, List.length_cons, List.length_nil, Nat.reduceAdd, Nat.reduceSub, Array.replicate_succ, Array.replicate_zero, List.push_toArray, List.append_toArray, List.nil_append, List.cons_append]
  gi_wp2
  gi_loopw [3] (fun _ wr => ∃ z, z < 18446744073709551616 ∧ BoxU wr B z ∧ J z wr) (fun _ wr => zOf wr B)
  case atStart => exact ⟨z, hz, hB, h0⟩
  case round =>
    obtain ⟨z, hz, hb, hj⟩ := hrel
    obtain ⟨fn, tmps, assign, body, hy, hR⟩ := hY z wr hz hj
    have hc := hb.cell
    have hf := hb.free
    have hzr := hb.z
    have ha := and127u z hz
    have HR := Lib.hid hR; clear hR
    have HZ := Lib.hid hzr; clear hzr
    clear hB h0
    by_cases h128 : z < 128
    · have d1 : decide ((z : Int) < 128) = true := by simp; omega
      rw [d1] at hy
      gi_wp2
      refine HR.out.mono ?_
      rintro e W' ⟨rfl, hnext, hB'⟩
      rw [if_pos h128] at hnext
      have HN := Lib.hid hnext; clear hnext
      gi_wp2
      refine bodyPost_ret (results_none rfl _ _ _) rfl ?_
      exact ⟨⟨_, rfl⟩, HN.out⟩
    · have d1 : decide ((z : Int) < 128) = false := by simp; omega
      rw [d1] at hy
      gi_wp2
      refine HR.out.mono ?_
      rintro e W' ⟨rfl, hnext, hB'⟩
      rw [if_neg h128] at hnext
      have hb' : BoxU W' B z := hB'.trans hb
      have hc' := hb'.cell
      have hf' := hb'.free
      have HN := Lib.hid hnext; clear hnext
      clear hB'
      gi_wp2
      go_roundw
      case rel =>
        refine ⟨z / 128, by omega, ?_, hJ _ _ _ HN.out⟩
        have := hb'.set (z / 128)
        rw [show ((z / 128 : Nat) : Int) = (z : Int) / 128 by omega] at this
        exact this
      case measure =>
        rw [HZ.out]
        have := (hb'.set (z / 128)).z
        rw [show ((z / 128 : Nat) : Int) = (z : Int) / 128 by omega] at this
        rw [this]
        omega
end Go.Proofs.YtfiabonacpepnaaGreatDoor.Fb
