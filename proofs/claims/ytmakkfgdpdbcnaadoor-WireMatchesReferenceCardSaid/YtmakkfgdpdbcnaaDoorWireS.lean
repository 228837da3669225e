/- sane of the wire statements. -/
import Derived.Test.YtmakkfgdpdbcnaaDoorWireJ
import Derived.Test.YtmakkfgdpdbcnaaDoorWireE
import Derived.Test.YtmakkfgdpdbcnaaDoorWireD
namespace Go.Proofs.YtmakkfgdpdbcnaaDoor
open Go Go.RowKit

theorem sn_p1 : putSpec (-64) = ([127], 0) := by decide
theorem sn_p2 : putSpec 64 = ([128, 1], 0) := by decide
theorem sn_p3 : putSpec 4611686018427387904 = ([], 10) := by decide
theorem sn_i1 : intSpec [97, 172, 2, 98] 1 = (150, 3, 0) := by decide
theorem sn_i2 : intSpec [128, 0] 0 = (0, 0, 10) := by decide
theorem sn_i3 : intSpec [] 1 = (0, 0, 2) := by decide
theorem sn_s1 : putStrSpec [97, 98] = ([4, 97, 98], 0) := by decide
theorem sn_s2 : strSpec [4, 97, 98, 99] 0 = ([97, 98], 3, 0) := by decide
theorem sn_s3 : strSpec [4, 97] 0 = ([], 0, 10) := by decide
theorem sn_c : WireP.crc [49, 50, 51, 52, 53, 54, 55, 56, 57] = 3808858755 := by decide

set_option maxRecDepth 100000 in
set_option maxHeartbeats 1000000 in
theorem sane_any (w : World) (hT : NibAt w) (hw : 0 < w.heap.size) :
    Calls Tryd.prog 10 #[] w fun e w' => e = .returned (.bool true) ∧ Below w.heap.size w w' := by
  have HT := Lib.hid hT; clear hT
  go_enter Tryd.func10, Tryd.ntmps10
  go_wp2_with fail
  refine (putInt_any (-64) _ (by omega) (by omega)).mono ?_
  rintro e w1 ⟨rfl, hb1⟩
  rw [sn_p1]; unfold V2s; dsimp only
  go_wp2_with fail
  refine (putInt_any 64 _ (by omega) (by omega)).mono ?_
  rintro e w2 ⟨rfl, hb2⟩
  rw [sn_p2]; unfold V2s; dsimp only
  go_wp2_with fail
  refine (int_any ⟨#[97, 172, 2, 98]⟩ 1 _ (by decide) (by omega) (by omega)).mono ?_
  rintro e w' ⟨rfl, rfl⟩
  rw [show intSpec (ByteArray.mk #[97, 172, 2, 98]).data.toList 1 = (150, 3, 0) from sn_i1]; unfold V3; dsimp only
  go_wp2_with fail
  refine (int_any ⟨#[128, 0]⟩ 0 _ (by decide) (by omega) (by omega)).mono ?_
  rintro e w' ⟨rfl, rfl⟩
  rw [show intSpec (ByteArray.mk #[128, 0]).data.toList 0 = (0, 0, 10) from sn_i2]; unfold V3; dsimp only
  go_wp2_with fail
  refine (putString_any ⟨#[97, 98]⟩ _ (by decide)).mono ?_
  rintro e w3 ⟨rfl, hb3⟩
  rw [show putStrSpec (ByteArray.mk #[97, 98]).data.toList = ([4, 97, 98], 0) from sn_s1]; unfold V2s; dsimp only
  go_wp2_with fail
  refine (string_any ⟨#[4, 97, 98, 99]⟩ 0 _ (by decide) (by omega) (by omega)).mono ?_
  rintro e w' ⟨rfl, rfl⟩
  rw [show strSpec (ByteArray.mk #[4, 97, 98, 99]).data.toList 0 = ([97, 98], 3, 0) from sn_s2]; unfold V3s; dsimp only
  go_wp2_with fail
  refine (string_any ⟨#[4, 97]⟩ 0 _ (by decide) (by omega) (by omega)).mono ?_
  rintro e w' ⟨rfl, rfl⟩
  rw [show strSpec (ByteArray.mk #[4, 97]).data.toList 0 = ([], 0, 10) from sn_s3]; unfold V3s; dsimp only
  go_wp2_with fail
  refine (putInt_any 4611686018427387904 _ (by omega) (by omega)).mono ?_
  rintro e w4 ⟨rfl, hb4⟩
  rw [sn_p3]; unfold V2s; dsimp only
  go_wp2_with fail
  refine (int_any ⟨#[]⟩ 1 _ (by decide) (by omega) (by omega)).mono ?_
  rintro e w' ⟨rfl, rfl⟩
  rw [show intSpec (ByteArray.mk #[]).data.toList 1 = (0, 0, 2) from sn_i3]; unfold V3; dsimp only
  have hb : Below w.heap.size w w4 := hb1.trans ((hb2.mono hb1.size).trans ((hb3.mono (Nat.le_trans hb1.size hb2.size)).trans (hb4.mono (Nat.le_trans hb1.size (Nat.le_trans hb2.size hb3.size)))))
  have hT4 := Lib.hid (HT.out.below hb hw)
  go_wp2_with fail
  refine (sum_any ⟨#[49, 50, 51, 52, 53, 54, 55, 56, 57]⟩ _ (by decide) hT4.out).mono ?_
  rintro e w' ⟨rfl, rfl⟩
  rw [show WireP.crc (ByteArray.mk #[49, 50, 51, 52, 53, 54, 55, 56, 57]).data.toList = 3808858755 from sn_c]
  go_wp2_with fail
  go_ret
  exact ⟨rfl, hb⟩
end Go.Proofs.YtmakkfgdpdbcnaaDoor
