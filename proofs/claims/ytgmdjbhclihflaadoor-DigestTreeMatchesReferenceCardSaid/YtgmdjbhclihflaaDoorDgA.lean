/- Words of 32 bits; RotateLeft32. -/
import Derived.Test.YtgmdjbhclihflaaDoorProg
import Derived.Test.YtgmdjbhclihflaaDoorBaseD
import Derived.Test.YtgmdjbhclihflaaDoorDgSha
import Derived.WalkKit
import Derived.WalkLawsBesides
import Derived.Lib.Hide
namespace Go.Proofs.YtgmdjbhclihflaaDoor
open Go Go.RowKit

theorem u32_xor_nat (a b : Nat) (ha : a < 4294967296) (hb : b < 4294967296) : bits BinOp.xor IntKind.u32 (a : Int) (b : Int) = ((a ^^^ b : Nat) : Int) := by
  have hx : a ^^^ b < 2 ^ 32 := Nat.xor_lt_two_pow (by omega) (by omega)
  have h : (BitVec.ofInt 32 (a : Int) ^^^ BitVec.ofInt 32 (b : Int)).toNat = a ^^^ b := by
    rw [BitVec.toNat_xor, BitVec.ofInt_natCast, BitVec.ofInt_natCast, BitVec.toNat_ofNat, BitVec.toNat_ofNat, Nat.mod_eq_of_lt (by omega), Nat.mod_eq_of_lt (by omega)]
  show IntKind.u32.wrap ((BitVec.ofInt 32 (a : Int) ^^^ BitVec.ofInt 32 (b : Int)).toNat : Int) = _
  rw [h, IntKind.wrap_u32]
  omega
theorem u32_and_nat (a b : Nat) (ha : a < 4294967296) (hb : b < 4294967296) : bits BinOp.and IntKind.u32 (a : Int) (b : Int) = ((a &&& b : Nat) : Int) := by
  have hx : a &&& b < 2 ^ 32 := Nat.and_lt_two_pow a (by omega)
  have h : (BitVec.ofInt 32 (a : Int) &&& BitVec.ofInt 32 (b : Int)).toNat = a &&& b := by
    rw [BitVec.toNat_and, BitVec.ofInt_natCast, BitVec.ofInt_natCast, BitVec.toNat_ofNat, BitVec.toNat_ofNat, Nat.mod_eq_of_lt (by omega), Nat.mod_eq_of_lt (by omega)]
  show IntKind.u32.wrap ((BitVec.ofInt 32 (a : Int) &&& BitVec.ofInt 32 (b : Int)).toNat : Int) = _
  rw [h, IntKind.wrap_u32]
  omega
theorem u32_or_nat (a b : Nat) (ha : a < 4294967296) (hb : b < 4294967296) : bits BinOp.or IntKind.u32 (a : Int) (b : Int) = ((a ||| b : Nat) : Int) := by
  have hx : a ||| b < 2 ^ 32 := Nat.or_lt_two_pow (by omega) (by omega)
  have h : (BitVec.ofInt 32 (a : Int) ||| BitVec.ofInt 32 (b : Int)).toNat = a ||| b := by
    rw [BitVec.toNat_or, BitVec.ofInt_natCast, BitVec.ofInt_natCast, BitVec.toNat_ofNat, BitVec.toNat_ofNat, Nat.mod_eq_of_lt (by omega), Nat.mod_eq_of_lt (by omega)]
  show IntKind.u32.wrap ((BitVec.ofInt 32 (a : Int) ||| BitVec.ofInt 32 (b : Int)).toNat : Int) = _
  rw [h, IntKind.wrap_u32]
  omega
theorem rotr_lt {n x : Nat} (hx : x < 4294967296) : Sha.rotr n x < 4294967296 := by
  unfold Sha.rotr
  refine Nat.or_lt_two_pow (n := 32) ?_ (Nat.mod_lt _ (by decide))
  exact Nat.lt_of_le_of_lt (Nat.div_le_self _ _) hx
theorem rot_count (n : Nat) (h1 : 1 ≤ n) (h2 : n ≤ 31) : bits BinOp.and IntKind.u64 (IntKind.u64.wrap (-(n : Int))) 31 = ((32 - n : Nat) : Int) := by
  have e : ∀ k : Fin 32, 1 ≤ k.val → bits BinOp.and IntKind.u64 (IntKind.u64.wrap (-(k.val : Int))) 31 = ((32 - k.val : Nat) : Int) := by decide +kernel
  exact e ⟨n, by omega⟩ h1
theorem ret_u32 {a b : Int} (h : a = b) : Ending.returned (.int .u32 a) = .returned (.int .u32 b) := by rw [h]
theorem rot_eq (x s : Nat) (hx : x < 4294967296) (hs : s ≤ 31) : bits BinOp.or IntKind.u32 ((x : Int) * 2 ^ s % 4294967296) ((x : Int) / 2 ^ (32 - s)) = ((Sha.rotr (32 - s) x : Nat) : Int) := by
  have h1 : ((x : Int) * 2 ^ s % 4294967296) = ((x * 2 ^ s % 4294967296 : Nat) : Int) := by simp
  have h2 : ((x : Int) / 2 ^ (32 - s)) = ((x / 2 ^ (32 - s) : Nat) : Int) := by simp
  rw [h1, h2, u32_or_nat _ _ (Nat.mod_lt _ (by decide)) (Nat.lt_of_le_of_lt (Nat.div_le_self _ _) hx), Nat.or_comm]
  unfold Sha.rotr
  rw [show 32 - (32 - s) = s by omega]
set_option maxHeartbeats 1000000 in
theorem rotl_any (x n : Nat) (w : World) (hx : x < 4294967296) (h1 : 1 ≤ n) (h2 : n ≤ 31) :
    Calls Tryd.prog 71 #[.int .u32 x, .int .i64 (-(n : Int))] w fun e w' => e = .returned (.int .u32 (Sha.rotr n x : Nat)) ∧ w = w' := by
  have e1 := rot_count n h1 h2
  obtain ⟨s, hs⟩ : ∃ s, 32 - n = s := ⟨_, rfl⟩
  rw [hs] at e1
  have hs1 : 1 ≤ s := by omega
  have hs2 : s ≤ 31 := by omega
  have HN := Lib.hid (show n = 32 - s by omega)
  clear hs
  go_enter Tryd.func71, Tryd.ntmps71
  go_wp2_with fail
  go_ret
  exact ⟨ret_u32 (by rw [HN.out]; exact rot_eq x s hx hs2), rfl⟩
def mixF (x : Nat) (l : List Nat) : Nat := l.foldl (fun a n => a ^^^ Sha.rotr n x) 0
theorem mixF_snoc (x : Nat) (l : List Nat) (n : Nat) : mixF x (l ++ [n]) = mixF x l ^^^ Sha.rotr n x := by simp [mixF]
theorem mixF_lt {x : Nat} (hx : x < 4294967296) (l : List Nat) : mixF x l < 4294967296 := by
  have h : ∀ (l : List Nat) (a : Nat), a < 4294967296 → l.foldl (fun a n => a ^^^ Sha.rotr n x) a < 4294967296 := by
    intro l
    induction l with
    | nil => intro a h; exact h
    | cons n l ih => intro a h; exact ih _ (Nat.xor_lt_two_pow (n := 32) h (rotr_lt hx))
  exact h l 0 (by decide)
theorem mixF2 (x a b : Nat) : mixF x [a, b] = Sha.mix2 x a b := by simp [mixF, Sha.mix2]
theorem mixF3 (x a b c : Nat) : mixF x [a, b, c] = Sha.mix3 x a b c := by simp [mixF, Sha.mix3]
set_option maxHeartbeats 1000000 in
theorem mixed_any (x b n : Nat) (l : List Nat) (w : World) (hx : x < 4294967296) (hn : l.length = n) (hn2 : n ≤ 1000) (hl : ∀ k ∈ l, 1 ≤ k ∧ k ≤ 31) (hc : ∀ i, i < n → w.cell? ⟨b, i, none⟩ = some (.int .i64 (l.getD i 0 : Nat))) :
    Calls Tryd.prog 62 #[.int .u32 x, .slice (some ⟨b, 0, none⟩) n n] w fun e w' => e = .returned (.int .u32 (mixF x l : Nat)) ∧ w = w' := by
  have HC := Lib.hid hc
  have HL := Lib.hid hl
  have HN := Lib.hid hn
  clear hc hl hn
  go_enter Tryd.func62, Tryd.ntmps62
  go_wp2_with fail
  go_loop [5, 10] (fun o i => ∃ (k : Nat), k ≤ n ∧ i = .int .i64 k ∧ o = .int .u32 (mixF x (l.take k) : Nat)) (fun _ i => n - (intOf i).toNat)
  case atStart => exact ⟨0, by omega, rfl, rfl⟩
  case round =>
    obtain ⟨k, hk, rfl, rfl⟩ := hrel
    by_cases hk2 : k < n
    · have c0 := HC.out k hk2
      have hkl : k < l.length := by rw [HN.out]; exact hk2
      have hm := HL.out _ (List.getElem_mem hkl)
      rw [List.getD_eq_getElem?_getD, List.getElem?_eq_getElem hkl, Option.getD_some] at c0
      have hsn : mixF x (l.take (k + 1)) = mixF x (l.take k) ^^^ Sha.rotr l[k] x := by rw [List.take_succ_eq_append_getElem hkl, mixF_snoc]
      obtain ⟨r, hr⟩ : ∃ r, l[k] = r := ⟨_, rfl⟩
      rw [hr] at c0 hm hsn
      have hlt := mixF_lt hx (l.take k)
      obtain ⟨m, hm0⟩ : ∃ m, mixF x (l.take k) = m := ⟨_, rfl⟩
      rw [hm0] at hlt hsn ⊢
      have hrt := rotr_lt (n := r) hx
      have hxor := u32_xor_nat m (Sha.rotr r x) hlt hrt
      have HS := Lib.hid hsn
      have HR := Lib.hid (fun W => rotl_any x r W hx hm.1 hm.2)
      have hm1 := hm.1
      have hm2 := hm.2
      clear hsn hm hr hm0 hkl
      go_wp2_with fail
      refine (HR.out _).mono ?_
      rintro e w' ⟨rfl, rfl⟩
      go_wp2_with fail
      go_round
      case rel => exact ⟨k + 1, by omega, by go_num, by rw [HS.out]⟩
      case measure => simp [intOf]; omega
    · obtain rfl : k = n := by omega
      have hall : mixF x (l.take k) = mixF x l := by rw [List.take_of_length_le (by rw [HN.out]; omega)]
      have HA := Lib.hid hall
      clear hall
      go_wp2_with fail
      go_ret
      exact ⟨ret_u32 (by rw [HA.out]), rfl⟩
end Go.Proofs.YtgmdjbhclihflaaDoor
