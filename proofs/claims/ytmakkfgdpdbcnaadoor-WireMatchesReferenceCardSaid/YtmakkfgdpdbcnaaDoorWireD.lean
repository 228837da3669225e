/- Sum of package wire. -/
import Derived.Test.YtmakkfgdpdbcnaaDoorWireA
import Derived.Test.YtmakkfgdpdbcnaaDoorWireCrc
namespace Go.Proofs.YtmakkfgdpdbcnaaDoor
open Go Go.RowKit

/-- the table lies where the program's text lays it -/
def NibAt (w : World) : Prop := ∀ j : Nat, j < 16 → w.cell? ⟨0, j, none⟩ = some (.int .u32 ((WireP.nibs.getD j 0 : Nat) : Int))
theorem NibAt.below {w w' : World} (h : NibAt w) (hb : Below w.heap.size w w') (h0 : 0 < w.heap.size) : NibAt w' := fun j hj => (hb.cell (p := ⟨0, j, none⟩) h0).trans (h j hj)
theorem NibAt.alloc {w : World} (h : NibAt w) (h0 : 0 < w.heap.size) (o : Obj) : NibAt (w.alloc o) := h.below ((Below.refl _ _).alloc (Nat.le_refl _) _) h0

theorem nibs_lt (j : Nat) : WireP.nibs.getD j 0 < 4294967296 := by
  by_cases h : j < 16
  · exact (by decide : ∀ j : Fin 16, WireP.nibs.getD j.val 0 < 4294967296) ⟨j, h⟩
  · have : WireP.nibs[j]? = none := List.getElem?_eq_none (by simp [WireP.nibs]; omega)
    rw [List.getD_eq_getElem?_getD, this]; decide

theorem half_eq (x : Nat) (hx : x < 4294967296) : bits BinOp.xor IntKind.u32 ((x : Int) / 16) ((WireP.nibs.getD (x % 16) 0 : Nat) : Int) = ((WireP.half x : Nat) : Int) := by
  rw [show (x : Int) / 16 = ((x / 16 : Nat) : Int) by omega, u32_xor_nat _ _ (by omega) (nibs_lt _)]; rfl
theorem and15 (x : Nat) (hx : x < 4294967296) : bits BinOp.and IntKind.u32 (x : Int) 15 = ((x % 16 : Nat) : Int) := by
  have := u32_and_nat x 15 hx (by omega)
  rw [nat_mask4] at this
  exact this

set_option maxRecDepth 100000 in
set_option maxHeartbeats 1000000 in
theorem sum_any (s : ByteArray) (w : World) (hs : s.size ≤ 140737488351232) (hT : NibAt w) :
    Calls Tryd.prog 21 #[.string s] w fun e w' => e = .returned (.int .i64 (WireP.crc s.data.toList : Nat)) ∧ w = w' := by
  have HT := Lib.hid hT; clear hT
  go_enter Tryd.func21, Tryd.ntmps21
  go_wp2
  go_loop [3, 7] (fun r i => ∃ (k R : Nat), k ≤ s.size ∧ i = .int .i64 k ∧ r = .int .u32 R ∧ R < 4294967296 ∧ Hid (R = WireP.sumReg 4294967295 (s.data.toList.take k))) (fun _ i => s.size - (intOf i).toNat)
  case atStart => exact ⟨0, 4294967295, by omega, rfl, rfl, by omega, Lib.hid (by simp [WireP.sumReg])⟩
  case round =>
    obtain ⟨k, R, hk, rfl, rfl, hR, HR⟩ := hrel
    by_cases hend : k < s.size
    · obtain ⟨b, hb⟩ : ∃ b, s[k] = b := ⟨_, rfl⟩
      have hlt := b.toNat_lt
      obtain ⟨x, hx⟩ : ∃ x, R ^^^ b.toNat = x := ⟨_, rfl⟩
      have hxlt : x < 4294967296 := by rw [← hx]; exact Nat.xor_lt_two_pow (n := 32) hR (by omega)
      have e1 : bits BinOp.xor IntKind.u32 (R : Int) (b.toNat : Int) = (x : Int) := by rw [u32_xor_nat _ _ hR (by omega), hx]
      have e2 := and15 x hxlt
      have e3 := HT.out (x % 16) (Nat.mod_lt _ (by omega))
      have e4 := half_eq x hxlt
      have l1 := WireP.half_lt hxlt
      obtain ⟨y, hy⟩ : ∃ y, WireP.half x = y := ⟨_, rfl⟩
      rw [hy] at e4 l1
      have f2 := and15 y l1
      have f3 := HT.out (y % 16) (Nat.mod_lt _ (by omega))
      have f4 := half_eq y l1
      have l2 := WireP.half_lt l1
      obtain ⟨z, hz⟩ : ∃ z, WireP.half y = z := ⟨_, rfl⟩
      rw [hz] at f4 l2
      have hnew : Hid (z = WireP.sumReg 4294967295 (s.data.toList.take (k + 1))) := Lib.hid (by
        rw [List.take_succ_eq_append_getElem (by simpa using hend), WireP.sumReg_snoc, ← HR.out, show s.data.toList[k] = b from hb, WireP.byteStep, hx, hy, hz])
      obtain ⟨j1, hj1⟩ : ∃ j1, x % 16 = j1 := ⟨_, rfl⟩
      have hj1' : j1 < 16 := by rw [← hj1]; exact Nat.mod_lt _ (by omega)
      obtain ⟨j2, hj2⟩ : ∃ j2, y % 16 = j2 := ⟨_, rfl⟩
      have hj2' : j2 < 16 := by rw [← hj2]; exact Nat.mod_lt _ (by omega)
      rw [hj1] at e2 e3 e4
      rw [hj2] at f2 f3 f4
      obtain ⟨t1, ht1⟩ : ∃ t1, WireP.nibs.getD j1 0 = t1 := ⟨_, rfl⟩
      obtain ⟨t2, ht2⟩ : ∃ t2, WireP.nibs.getD j2 0 = t2 := ⟨_, rfl⟩
      rw [ht1] at e3 e4
      rw [ht2] at f3 f4
      clear hx hy hz hj1 hj2 ht1 ht2
      go_wp2
      go_round
      case rel => exact ⟨k + 1, z, by omega, by go_num, rfl, l2, hnew⟩
      case measure => simp [intOf]; omega
    · obtain rfl : k = s.size := by omega
      have hfin : WireP.crc s.data.toList = 4294967295 - R := by
        unfold WireP.crc; rw [HR.out, List.take_of_length_le (by simp)]
      have hx : wrap64 (bits BinOp.xor IntKind.u32 IntKind.u32.max (R : Int)) = ((4294967295 - R : Nat) : Int) := by
        rw [show IntKind.u32.max = ((4294967295 : Nat) : Int) from by decide, u32_xor_nat _ _ (by omega) hR, ← WireP.compl_xor hR]
        unfold wrap64; omega
      have H := Lib.hid hfin; clear hfin
      have HX := Lib.hid hx; clear hx
      go_wp2
      go_ret
      exact ⟨by rw [H.out, ← HX.out]; rfl, rfl⟩
end Go.Proofs.YtmakkfgdpdbcnaaDoor
