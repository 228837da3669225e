/- NumberFrom of the wire statements. -/
import Derived.Test.YtmakkfgdpdbcnaaDoorWireA
namespace Go.Proofs.YtmakkfgdpdbcnaaDoor
open Go Go.RowKit

def numTab : List Int := [64, 128, 8192, 16384, 1073741824, 36028797018963968, 576460752303423488, 2]
def numFrom (c : Int) : Int :=
  let n := pickN (pickN c 4611686018427387904 / 8) (numTab.getD (pickN c 8).toNat 0)
  if 8 ≤ pickN c 16 then -n else n

theorem numTab_bd (k : Nat) (h : k < 8) : 1 ≤ numTab.getD k 0 ∧ numTab.getD k 0 ≤ 576460752303423488 := by
  rcases (show k = 0 ∨ k = 1 ∨ k = 2 ∨ k = 3 ∨ k = 4 ∨ k = 5 ∨ k = 6 ∨ k = 7 by omega) with rfl | rfl | rfl | rfl | rfl | rfl | rfl | rfl <;> decide
theorem numTab_cell (w : World) (k : Nat) (h : k < 8) :
    (w.alloc (.cells #[.int .i64 64, .int .i64 128, .int .i64 8192, .int .i64 16384, .int .i64 1073741824, .int .i64 36028797018963968, .int .i64 576460752303423488, .int .i64 2] 3)).cell? ⟨w.heap.size, k, none⟩ = some (.int .i64 (numTab.getD k 0)) := by
  rcases (show k = 0 ∨ k = 1 ∨ k = 2 ∨ k = 3 ∨ k = 4 ∨ k = 5 ∨ k = 6 ∨ k = 7 by omega) with rfl | rfl | rfl | rfl | rfl | rfl | rfl | rfl <;> simp [numTab]

theorem numFrom_bd (c : Int) : -576460752303423488 ≤ numFrom c ∧ numFrom c ≤ 576460752303423488 := by
  have b2 := pickN_bd c 8 (by omega)
  have ht := numTab_bd (pickN c 8).toNat (by omega)
  have b := pickN_bd (pickN c 4611686018427387904 / 8) (numTab.getD (pickN c 8).toNat 0) ht.1
  unfold numFrom
  dsimp only
  split <;> omega

set_option maxHeartbeats 400000 in
theorem number_any (c : Int) (w : World) (h1 : -9223372036854775808 ≤ c) (h2 : c ≤ 9223372036854775807) :
    Calls Tryd.prog 11 #[.int .i64 c] w fun e w' => e = .returned (.int .i64 (numFrom c)) ∧ Below w.heap.size w w' := by
  have b1 := pickN_bd c 4611686018427387904 (by omega)
  have b2 := pickN_bd c 8 (by omega)
  have b3 := pickN_bd c 16 (by omega)
  obtain ⟨k, hk⟩ : ∃ k : Nat, pickN c 8 = (k : Int) := ⟨(pickN c 8).toNat, by omega⟩
  rw [hk] at b2
  have hcell := numTab_cell w k (by omega)
  have ht := numTab_bd k (by omega)
  have e : numFrom c = if 8 ≤ pickN c 16 then -pickN (pickN c 4611686018427387904 / 8) (numTab.getD k 0) else pickN (pickN c 4611686018427387904 / 8) (numTab.getD k 0) := by
    unfold numFrom; rw [hk]; rfl
  have H := Lib.hid e; clear e
  obtain ⟨t, et⟩ : ∃ t, numTab.getD k 0 = t := ⟨_, rfl⟩
  rw [et] at hcell ht H
  clear et
  have b4 := pickN_bd (pickN c 4611686018427387904 / 8) t ht.1
  have HK := Lib.hid hk; clear hk
  go_enter Tryd.func11, Tryd.ntmps11
  go_wp2_with fail
  refine (pick_any c _ _ h1 h2 (by omega) (by omega)).mono ?_
  rintro e w' ⟨rfl, rfl⟩
  go_wp2_with fail
  refine (pick_any c _ _ h1 h2 (by omega) (by omega)).mono ?_
  rintro e w' ⟨rfl, rfl⟩
  rw [HK.out]
  go_wp2_with fail
  refine (pick_any _ _ _ (by omega) (by omega) (by omega) (by omega)).mono ?_
  rintro e w' ⟨rfl, rfl⟩
  go_wp2_with fail
  refine (pick_any c _ _ h1 h2 (by omega) (by omega)).mono ?_
  rintro e w' ⟨rfl, rfl⟩
  by_cases hb : 8 ≤ pickN c 16
  · go_wp2_with fail
    go_ret
    exact ⟨by rw [H.out, if_pos hb]; rfl, (Below.refl _ _).alloc (Nat.le_refl _) _⟩
  · go_wp2_with fail
    go_ret
    exact ⟨by rw [H.out, if_neg (by omega)]; rfl, (Below.refl _ _).alloc (Nat.le_refl _) _⟩
end Go.Proofs.YtmakkfgdpdbcnaaDoor
