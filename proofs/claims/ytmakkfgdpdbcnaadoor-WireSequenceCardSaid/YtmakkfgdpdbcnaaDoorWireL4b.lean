/- WireSequence: the walk of the statement where one of the lists is empty. -/
import Derived.Test.YtmakkfgdpdbcnaaDoorWireL4
namespace Go.Proofs.YtmakkfgdpdbcnaaDoor
open Go Go.RowKit

set_option maxRecDepth 100000 in
set_option maxHeartbeats 2000000 in
theorem sequence_walk0 (A1 A2 : Option Addr) (nl cl nt ct : Nat) (w : World) (hT : NibAt w) (hw : 0 < w.heap.size) (h0 : nl = 0 ∨ nt = 0) (hnl : nl ≤ 140737488351232) (hnt : nt ≤ 140737488351232) :
    Calls Tryd.prog 6 #[.slice A1 nl cl, .slice A2 nt ct] w fun e w' => e = .returned (.bool true) ∧ Below w.heap.size w w' := by
  have HT := Lib.hid hT; clear hT
  obtain ⟨m1, em1⟩ : ∃ m : Nat, (if nt < nl then (nt : Int) else (nl : Int)) = (m : Int) := ⟨min nl nt, by split <;> omega⟩
  obtain ⟨n, en⟩ : ∃ m : Nat, (if (20 : Int) < (m1 : Int) then (20 : Int) else (m1 : Int)) = (m : Int) := ⟨min m1 20, min_ite m1 20⟩
  have n0 : n ≤ 0 := by split at em1 <;> split at en <;> omega
  have H0 := Lib.hid h0; clear h0
  go_enter Tryd.func6, Tryd.ntmps6
  go_wp2_with fail
  refine (sane_any _ HT.out hw).mono ?_
  rintro e w1 ⟨rfl, hb1⟩
  have HB1 := Lib.hid hb1; clear hb1
  go_wp2_with fail
  refine wp_loop_rounds 1 ?_; rw [rounds_succ]
  go_wp2_with fail
  refine wp_loop_rounds 1 ?_; rw [rounds_succ]
  go_wp2_with fail
  refine (int_any ⟨#[]⟩ 0 _ (by decide) (by omega) (by omega)).mono ?_
  rintro e w' ⟨rfl, rfl⟩
  rw [show intSpec (ByteArray.mk #[]).data.toList 0 = (0, 0, 10) from by decide]; unfold V3; dsimp only
  go_wp2_with fail
  go_ret
  exact ⟨rfl, HB1.out⟩
end Go.Proofs.YtmakkfgdpdbcnaaDoor
