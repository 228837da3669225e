/- Int of package wire. -/
import Derived.Test.YtfiabonacpepnaaGreatDoorProg
import Derived.WalkKit
import Derived.WalkLawsBesides
import Derived.Lib.Hide
import Derived.Test.YtfiabonacpepnaaGreatDoorWirePlain
namespace Go.Proofs.YtfiabonacpepnaaGreatDoor.Fb
open Go Go.RowKit

theorem and127 (b : Nat) (hb : b < 256) : bits BinOp.and IntKind.u8 (b : Int) 127 = ((b % 128 : Nat) : Int) := by
  have := u8_and_nat b 127 hb (by omega)
  rw [nat_mask7] at this
  exact this
theorem u64_wrap_nat (n : Nat) (h : n < 18446744073709551616) : IntKind.u64.wrap (n : Int) = (n : Int) := by
  rw [IntKind.wrap_u64]; omega
theorem u64_or_add (a b k : Nat) (ha : a < 2 ^ k) (hs : a + b * 2 ^ k < 18446744073709551616) : bits BinOp.or IntKind.u64 (a : Int) ((b * 2 ^ k : Nat) : Int) = ((a + b * 2 ^ k : Nat) : Int) := by
  rw [u64_or_nat a _ (by omega) (by omega), Nat.or_comm, Nat.mul_comm b, ← Nat.two_pow_add_eq_or_of_lt ha, Nat.add_comm]
theorem i64_xor_m1 (a : Nat) (ha : a < 9223372036854775808) : bits BinOp.xor IntKind.i64 (a : Int) (-1) = -(a : Int) - 1 := by
  have h1 : BitVec.ofInt 64 (-1) = BitVec.allOnes 64 := by decide
  have h : (BitVec.ofInt 64 (a : Int) ^^^ BitVec.ofInt 64 (-1)).toNat = 18446744073709551615 - a := by
    rw [h1, BitVec.xor_allOnes, BitVec.toNat_not, BitVec.ofInt_natCast, BitVec.toNat_ofNat, Nat.mod_eq_of_lt (by omega)]
  show IntKind.i64.wrap ((BitVec.ofInt 64 (a : Int) ^^^ BitVec.ofInt 64 (-1)).toNat : Int) = _
  rw [h, IntKind.wrap_i64]
  omega
theorem i64_xor_0 (a : Nat) (ha : a < 9223372036854775808) : bits BinOp.xor IntKind.i64 (a : Int) 0 = (a : Int) := by
  have h1 : BitVec.ofInt 64 0 = 0#64 := by decide
  have h : (BitVec.ofInt 64 (a : Int) ^^^ BitVec.ofInt 64 0).toNat = a := by
    rw [h1, BitVec.xor_zero, BitVec.ofInt_natCast, BitVec.toNat_ofNat, Nat.mod_eq_of_lt (by omega)]
  show IntKind.i64.wrap ((BitVec.ofInt 64 (a : Int) ^^^ BitVec.ofInt 64 0).toNat : Int) = _
  rw [h, IntKind.wrap_i64]
  omega
theorem unz_eq (z : Nat) (hz : z < 9223372036854775808) : bits BinOp.xor IntKind.i64 ((z : Int) / 2) (wrap64 (-wrap64 (bits BinOp.and IntKind.u64 (z : Int) 1))) = WireP.unzz z := by
  have h1 : bits BinOp.and IntKind.u64 (z : Int) 1 = ((z % 2 : Nat) : Int) := by
    have := u64_and_nat z 1 (by omega) (by omega)
    rw [nat_mask1] at this
    exact this
  have h2 : (z : Int) / 2 = ((z / 2 : Nat) : Int) := by omega
  rw [h1, h2]
  unfold WireP.unzz
  by_cases h : z % 2 = 0
  · rw [h, if_pos rfl, show wrap64 (-wrap64 ((0 : Nat) : Int)) = 0 from by unfold wrap64; omega]
    exact i64_xor_0 _ (by omega)
  · have h' : z % 2 = 1 := by omega
    rw [h', if_neg (by omega), show wrap64 (-wrap64 ((1 : Nat) : Int)) = -1 from by unfold wrap64; omega]
    exact i64_xor_m1 _ (by omega)

theorem or_step (acc b k : Nat) (hk : k < 9) (hb : b < 256) (ha : acc < 128 ^ k) :
    bits BinOp.or IntKind.u64 (acc : Int) (IntKind.u64.wrap (IntKind.u64.wrap (bits BinOp.and IntKind.u8 (b : Int) 127) * 2 ^ (7 * k))) = ((acc + b % 128 * 128 ^ k : Nat) : Int) ∧ acc + b % 128 * 128 ^ k < 128 ^ (k + 1) := by
  have hp : (128 : Nat) ^ k = 2 ^ (7 * k) := by rw [Nat.pow_mul]
  have hm : 128 ^ k ≤ 128 ^ 8 := Nat.pow_le_pow_right (by omega) (by omega)
  have hlt : acc + b % 128 * 128 ^ k < 128 ^ (k + 1) := by
    have : b % 128 * 128 ^ k ≤ 127 * 128 ^ k := Nat.mul_le_mul_right _ (by omega)
    rw [Nat.pow_succ]; omega
  have hlt2 : acc + b % 128 * 128 ^ k < 18446744073709551616 := by
    rw [Nat.pow_succ] at hlt
    have : 128 ^ k * 128 ≤ 128 ^ 8 * 128 := Nat.mul_le_mul_right _ hm
    have e : (128 : Nat) ^ 8 * 128 = 9223372036854775808 := by decide
    omega
  refine ⟨?_, hlt⟩
  rw [and127 b hb, u64_wrap_nat _ (by omega)]
  have e : ((b % 128 : Nat) : Int) * 2 ^ (7 * k) = ((b % 128 * 2 ^ (7 * k) : Nat) : Int) := by simp
  rw [hp] at ha hlt2 ⊢
  rw [e, u64_wrap_nat _ (by omega)]
  exact u64_or_add _ _ _ ha hlt2

/-- the state of the decoder's loop -/
def DecAt (l : List UInt8) (a k acc : Nat) : Prop := WireP.decF (9 - k) k acc (l.drop (a + k)) = WireP.dec (l.drop a) ∧ acc < 128 ^ k
def intOk (l : List UInt8) (a : Nat) : Int × Int × Int := match WireP.dec (l.drop a) with
  | none => (0, 0, 10)
  | some (n, k) => (n, ((a + k : Nat) : Int), 0)
def V3 (r : Int × Int × Int) : Value := .tuple #[.int .i64 r.1, .int .i64 r.2.1, .int .i64 r.2.2]

theorem decAt_start (l : List UInt8) (a : Nat) : DecAt l a 0 0 := ⟨rfl, by simp⟩
theorem decAt_end (l : List UInt8) (a acc : Nat) (h : DecAt l a 9 acc) : intOk l a = (0, 0, 10) := by
  unfold intOk; rw [← h.1]; rfl
theorem decAt_out (l : List UInt8) (a k acc : Nat) (hk : k < 9) (hl : l.length ≤ a + k) (h : DecAt l a k acc) : intOk l a = (0, 0, 10) := by
  unfold intOk; rw [← h.1, List.drop_eq_nil_of_le hl, show 9 - k = (8 - k) + 1 by omega]; rfl
theorem decAt_byte {l : List UInt8} {a k acc : Nat} {b : UInt8} (hk : k < 9) (hl : l[a + k]? = some b) (h : DecAt l a k acc) :
    WireP.dec (l.drop a) = if 128 ≤ b.toNat then WireP.decF (9 - (k + 1)) (k + 1) (acc + b.toNat % 128 * 128 ^ k) (l.drop (a + (k + 1)))
      else if (b.toNat = 0 ∧ 0 < k) ∨ WireP.unzz (acc + b.toNat % 128 * 128 ^ k) < -4611686018427387903 then none
      else some (WireP.unzz (acc + b.toNat % 128 * 128 ^ k), k + 1) := by
  obtain ⟨hlt, hb⟩ := List.getElem?_eq_some_iff.1 hl
  rw [← h.1, List.drop_eq_getElem_cons hlt, hb, show 9 - k = (9 - (k + 1)) + 1 by omega, WireP.decF]
  rfl
theorem decAt_next {l : List UInt8} {a k acc : Nat} {b : UInt8} (hk : k < 9) (hl : l[a + k]? = some b) (h : DecAt l a k acc) (hb : 128 ≤ b.toNat) :
    DecAt l a (k + 1) (acc + b.toNat % 128 * 128 ^ k) :=
  ⟨by rw [decAt_byte hk hl h, if_pos hb], (or_step acc b.toNat k hk b.toNat_lt h.2).2⟩
theorem decAt_bad {l : List UInt8} {a k acc : Nat} {b : UInt8} (hk : k < 9) (hl : l[a + k]? = some b) (h : DecAt l a k acc) (hb : b.toNat < 128)
    (hc : (b.toNat = 0 ∧ 0 < k) ∨ WireP.unzz (acc + b.toNat % 128 * 128 ^ k) < -4611686018427387903) : intOk l a = (0, 0, 10) := by
  unfold intOk; rw [decAt_byte hk hl h, if_neg (by omega), if_pos hc]
theorem decAt_good {l : List UInt8} {a k acc : Nat} {b : UInt8} (hk : k < 9) (hl : l[a + k]? = some b) (h : DecAt l a k acc) (hb : b.toNat < 128)
    (hc : ¬((b.toNat = 0 ∧ 0 < k) ∨ WireP.unzz (acc + b.toNat % 128 * 128 ^ k) < -4611686018427387903)) :
    intOk l a = (WireP.unzz (acc + b.toNat % 128 * 128 ^ k), ((a + (k + 1) : Nat) : Int), 0) := by
  unfold intOk; rw [decAt_byte hk hl h, if_neg (by omega), if_neg hc]

theorem intOk_ret {r s : Int × Int × Int} (h : s = r) {a b c : Int} (ha : a = r.1) (hb : b = r.2.1) (hc : c = r.2.2) :
    Ending.returned (.tuple #[.int .i64 a, .int .i64 b, .int .i64 c]) = .returned (V3 s) := by subst h; subst ha; subst hb; subst hc; rfl

set_option maxRecDepth 100000 in
set_option maxHeartbeats 1000000 in
theorem int_in (s : ByteArray) (a : Nat) (w : World) (hs : s.size ≤ 140737488351232) (ha : a ≤ s.size) :
    Calls Tryz.prog 50 #[.string s, .int .i64 a] w fun e w' => e = .returned (V3 (intOk s.data.toList a)) ∧ w = w' := by
  have d1 : decide ((a : Int) < 0) = false := by simp
  have d2 : decide (s.size < a) = false := by simp; omega
  go_enter Tryz.func50, Tryz.ntmps50
  go_wp2
  go_loop [7, 19] (fun z i => ∃ (k acc : Nat), k ≤ 9 ∧ i = .int .i64 k ∧ z = .int .u64 acc ∧ DecAt s.data.toList a k acc) (fun _ i => 9 - (intOf i).toNat)
  case atStart => exact ⟨0, 0, by omega, rfl, rfl, decAt_start _ _⟩
  case round =>
    obtain ⟨k, acc, hk, rfl, rfl, hd⟩ := hrel
    by_cases h9 : k < 9
    · by_cases hend : a + k < s.size
      · obtain ⟨b, hb⟩ : ∃ b, s[a + k] = b := ⟨_, rfl⟩
        have hl : s.data.toList[a + k]? = some b := by
          rw [List.getElem?_eq_getElem (by simpa using hend)]; exact congrArg some hb
        have hlt := b.toNat_lt
        have hor := (or_step acc b.toNat k h9 hlt hd.2).1
        have hzlt := (or_step acc b.toNat k h9 hlt hd.2).2
        obtain ⟨z, hz⟩ : ∃ z, acc + b.toNat % 128 * 128 ^ k = z := ⟨_, rfl⟩
        have hz63 : z < 9223372036854775808 := by
          have : 128 ^ (k + 1) ≤ 128 ^ 9 := Nat.pow_le_pow_right (by omega) (by omega)
          have e : (128 : Nat) ^ 9 = 9223372036854775808 := by decide
          omega
        have hn := unz_eq z hz63
        have hnext := @decAt_next _ _ _ _ _ h9 hl hd
        have hbad := @decAt_bad _ _ _ _ _ h9 hl hd
        have hgood := @decAt_good _ _ _ _ _ h9 hl hd
        rw [hz] at hor hnext hbad hgood
        obtain ⟨n, hnn⟩ : ∃ n, WireP.unzz z = n := ⟨_, rfl⟩
        rw [hnn] at hn hbad hgood
        clear hz hnn hl hzlt
        have Hnext := Lib.hid hnext; clear hnext
        have Hbad := Lib.hid hbad; clear hbad
        have Hgood := Lib.hid hgood; clear hgood
        clear hd
        by_cases hb1 : 128 ≤ b.toNat
        · have hd' := Hnext.out hb1
          go_wp2
          go_round
          case rel => exact ⟨k + 1, z, by omega, by go_num, rfl, hd'⟩
          case measure => simp [intOf]; omega
        · by_cases hb2 : b.toNat = 0 ∧ 0 < k
          · have H := Lib.hid (Hbad.out (by omega) (Or.inl hb2))
            obtain ⟨hb3, hb4⟩ := hb2
            go_wp2
            go_ret3
            exact ⟨intOk_ret H.out rfl rfl rfl, rfl⟩
          · by_cases hb3 : n < -4611686018427387903
            · have H := Lib.hid (Hbad.out (by omega) (Or.inr hb3))
              go_wp2
              all_goals go_ret3
              all_goals exact ⟨intOk_ret H.out rfl rfl rfl, rfl⟩
            · have H := Lib.hid (Hgood.out (by omega) (by omega))
              go_wp2
              all_goals go_ret3
              all_goals exact ⟨intOk_ret H.out rfl (by simp; omega) rfl, rfl⟩
      · have H := Lib.hid (decAt_out _ _ _ _ h9 (by simp; omega) hd)
        clear hd
        go_wp2
        go_ret3
        exact ⟨intOk_ret H.out rfl rfl rfl, rfl⟩
    · obtain rfl : k = 9 := by omega
      have H := Lib.hid (decAt_end _ _ _ hd)
      clear hd
      go_wp2
      go_ret3
      exact ⟨intOk_ret H.out rfl rfl rfl, rfl⟩

def intSpec (l : List UInt8) (a : Int) : Int × Int × Int := if a < 0 ∨ (l.length : Int) < a then (0, 0, 2) else intOk l a.toNat

set_option maxRecDepth 100000 in
set_option maxHeartbeats 400000 in
theorem int_any (s : ByteArray) (a : Int) (w : World) (hs : s.size ≤ 140737488351232) (h1 : -9223372036854775808 ≤ a) (h2 : a ≤ 9223372036854775807) :
    Calls Tryz.prog 50 #[.string s, .int .i64 a] w fun e w' => e = .returned (V3 (intSpec s.data.toList a)) ∧ w = w' := by
  by_cases h : a < 0 ∨ (s.size : Int) < a
  · have H := Lib.hid (show intSpec s.data.toList a = (0, 0, 2) by unfold intSpec; rw [if_pos (by simpa using h)])
    rcases h with h | h
    · go_enter Tryz.func50, Tryz.ntmps50
      go_wp2
      go_ret3
      exact ⟨intOk_ret H.out rfl rfl rfl, rfl⟩
    · have d1 : ¬ a < 0 := by omega
      go_enter Tryz.func50, Tryz.ntmps50
      go_wp2
      go_ret3
      exact ⟨intOk_ret H.out rfl rfl rfl, rfl⟩
  · obtain ⟨n, rfl⟩ : ∃ n : Nat, a = (n : Int) := ⟨a.toNat, by omega⟩
    have e : intSpec s.data.toList (n : Int) = intOk s.data.toList n := by
      unfold intSpec; rw [if_neg (by simpa using h)]; rfl
    rw [e]
    exact int_in s n w hs (by omega)
end Go.Proofs.YtfiabonacpepnaaGreatDoor.Fb
