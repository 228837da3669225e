/- The reference implementation: PutInt for every integer, PutString, Sum. -/
import Derived.Test.YtmakkfgdpdbcnaaDoorWireK
import Derived.Test.YtmakkfgdpdbcnaaDoorWireD
namespace Go.Proofs.YtmakkfgdpdbcnaaDoor
open Go Go.RowKit

set_option maxRecDepth 100000 in
set_option maxHeartbeats 400000 in
theorem refPutInt_any (k : Int) (w : World) (h1 : -9223372036854775808 ≤ k) (h2 : k ≤ 9223372036854775807) :
    Calls Tryd.prog 13 #[.int .i64 k] w fun e w' => e = .returned (V2s (putSpec k)) ∧ Below w.heap.size w w' := by
  by_cases h : k < -4611686018427387903 ∨ 4611686018427387903 < k
  · have H := Lib.hid (show putSpec k = ([], 10) by unfold putSpec; rw [if_pos h])
    rcases h with h | h
    · go_enter Tryd.func13, Tryd.ntmps13
      go_wp2
      go_ret2
      exact ⟨by rw [H.out]; rfl, Below.refl _ _⟩
    · have d1 : ¬ k < -4611686018427387903 := by omega
      go_enter Tryd.func13, Tryd.ntmps13
      go_wp2
      go_ret2
      exact ⟨by rw [H.out]; rfl, Below.refl _ _⟩
  · have e : putSpec k = (WireP.enc (WireP.zz k), 0) := by unfold putSpec; rw [if_neg h]
    rw [e]
    exact refPutInt_in k w (by omega) (by omega)

set_option maxRecDepth 100000 in
set_option maxHeartbeats 400000 in
theorem refPutString_any (s : ByteArray) (w : World) (hs : s.size ≤ 140737488351232) :
    Calls Tryd.prog 20 #[.string s] w fun e w' => e = .returned (V2s (putStrSpec s.data.toList)) ∧ Below w.heap.size w w' := by
  by_cases h : 65536 < s.size
  · have H := Lib.hid (show putStrSpec s.data.toList = ([], 10) by unfold putStrSpec; rw [if_pos (by simpa using h)])
    go_enter Tryd.func20, Tryd.ntmps20
    go_wp2
    go_ret2
    exact ⟨by rw [H.out]; rfl, Below.refl _ _⟩
  · have e1 : putStrSpec s.data.toList = ((putSpec (s.size : Int)).1 ++ s.data.toList, 0) := by
      unfold putStrSpec putSpec
      rw [if_neg (by simpa using h), if_neg (by omega)]
      simp
    have hl := putSpec_len (s.size : Int)
    have hc := refPutInt_any (s.size : Int)
    obtain ⟨p, hp⟩ : ∃ p, putSpec (s.size : Int) = p := ⟨_, rfl⟩
    obtain ⟨q, x⟩ := p
    rw [hp] at e1 hl hc
    clear hp
    have H := Lib.hid e1; clear e1
    have HC := Lib.hid hc; clear hc
    dsimp only at hl
    go_enter Tryd.func20, Tryd.ntmps20
    go_wp2_with fail
    refine (HC.out _ (by omega) (by omega)).mono ?_
    rintro e w' ⟨rfl, hb⟩
    unfold V2s
    go_wp2
    go_ret2
    refine ⟨?_, hb⟩
    rw [H.out]
    exact congrArg (fun v => Ending.returned (.tuple #[.string v, .int .i64 0])) (append_right q s)

theorem bit_odd (R : Nat) (hR : R < 4294967296) (h : R % 2 = 1) : bits BinOp.xor IntKind.u32 ((R : Int) / 2) 2197175160 = ((WireP.bit R : Nat) : Int) := by
  have := u32_xor_nat (R / 2) 2197175160 (by omega) (by omega)
  unfold WireP.bit
  rw [if_pos h, show (R : Int) / 2 = ((R / 2 : Nat) : Int) by omega]
  exact this

set_option maxRecDepth 100000 in
set_option maxHeartbeats 1000000 in
theorem refSum_any (s : ByteArray) (w : World) (hs : s.size ≤ 140737488351232) :
    Calls Tryd.prog 22 #[.string s] w fun e w' => e = .returned (.int .i64 (WireP.crc s.data.toList : Nat)) ∧ w = w' := by
  go_enter Tryd.func22, Tryd.ntmps22
  go_wp2
  go_loop [3, 4] (fun r i => ∃ (k R : Nat), k ≤ s.size ∧ i = .int .i64 k ∧ r = .int .u32 R ∧ R < 4294967296 ∧ Hid (R = WireP.sumReg 4294967295 (s.data.toList.take k))) (fun _ i => s.size - (intOf i).toNat)
  case atStart => exact ⟨0, 4294967295, by omega, rfl, rfl, by omega, Lib.hid (by simp [WireP.sumReg])⟩
  case round =>
    obtain ⟨k, R, hk, rfl, rfl, hR, HR⟩ := hrel
    by_cases hend : k < s.size
    · obtain ⟨b, hb⟩ : ∃ b, s[k] = b := ⟨_, rfl⟩
      have hlt := b.toNat_lt
      obtain ⟨x, hx⟩ : ∃ x, R ^^^ b.toNat = x := ⟨_, rfl⟩
      have hxlt : x < 4294967296 := by rw [← hx]; exact Nat.xor_lt_two_pow (n := 32) hR (by omega)
      have e1 : bits BinOp.xor IntKind.u32 (R : Int) (b.toNat : Int) = (x : Int) := by rw [u32_xor_nat _ _ hR (by omega), hx]
      have hnew : Hid (WireP.bits' 8 x = WireP.sumReg 4294967295 (s.data.toList.take (k + 1))) := Lib.hid (by
        rw [List.take_succ_eq_append_getElem (by simpa using hend), WireP.sumReg_snoc, ← HR.out, show s.data.toList[k] = b from hb, WireP.byteStep_bits, hx])
      clear hx
      go_wp2
      go_loop [3, 5] (fun r i => ∃ (j Q : Nat), j ≤ 8 ∧ i = .int .i64 j ∧ r = .int .u32 Q ∧ Q < 4294967296 ∧ Hid (WireP.bits' (8 - j) Q = WireP.bits' 8 x)) (fun _ i => 8 - (intOf i).toNat)
      case atStart => exact ⟨0, x, by omega, rfl, rfl, hxlt, Lib.hid rfl⟩
      case round =>
        obtain ⟨j, Q, hj, rfl, rfl, hQ, HQ⟩ := hrel
        by_cases h8 : j < 8
        · have hnq : WireP.bits' (8 - (j + 1)) (WireP.bit Q) = WireP.bits' 8 x := by
            rw [← HQ.out, show 8 - j = (8 - (j + 1)) + 1 by omega, WireP.bits']
          have Hnq := Lib.hid hnq; clear hnq
          have hbl := WireP.bit_lt hQ
          by_cases hodd : Q % 2 = 1
          · have q1 : (((Q : Int) % 2) == 1) = true := by rw [beq_iff_eq]; omega
            have ex := bit_odd Q hQ hodd
            clear hodd
            go_wp2
            go_round
            case rel => exact ⟨j + 1, WireP.bit Q, by omega, by go_num, rfl, hbl, Hnq⟩
            case measure => simp [intOf]; omega
          · have q1 : (((Q : Int) % 2) == 1) = false := by rw [beq_eq_false_iff_ne]; omega
            have ex : ((WireP.bit Q : Nat) : Int) = (Q : Int) / 2 := by unfold WireP.bit; rw [if_neg hodd]; omega
            have EX := Lib.hid ex; clear ex hodd
            go_wp2
            go_round
            case rel => exact ⟨j + 1, WireP.bit Q, by omega, by go_num, by rw [EX.out], hbl, Hnq⟩
            case measure => simp [intOf]; omega
        · obtain rfl : j = 8 := by omega
          go_wp2
          go_round
          case rel => exact ⟨k + 1, Q, by omega, by go_num, rfl, hQ, Lib.hid (by rw [← hnew.out, ← HQ.out]; rfl)⟩
          case measure => simp [intOf]; omega
    · obtain rfl : k = s.size := by omega
      have hfin : WireP.crc s.data.toList = 4294967295 - R := by
        unfold WireP.crc; rw [HR.out, List.take_of_length_le (by simp)]
      have hx : wrap64 (bits BinOp.xor IntKind.u32 IntKind.u32.max (R : Int)) = ((4294967295 - R : Nat) : Int) := by
        rw [show IntKind.u32.max = ((4294967295 : Nat) : Int) from by decide, u32_xor_nat _ _ (by omega) hR, ← WireP.compl_xor hR]
        unfold wrap64; omega
      have H := Lib.hid hfin; clear hfin
      have HX := Lib.hid hx; clear hx
      go_wp2
      go_ret
      exact ⟨by rw [H.out, ← HX.out]; rfl, rfl⟩
end Go.Proofs.YtmakkfgdpdbcnaaDoor
