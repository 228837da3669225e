/- The reference implementation: PutInt, PutString. -/
import Derived.Test.YtmakkfgdpdbcnaaDoorWireJ
import Derived.Test.YtmakkfgdpdbcnaaDoorBaseC
import Derived.Maps.AppendAt
namespace Go.Proofs.YtmakkfgdpdbcnaaDoor
open Go Go.RowKit

set_option maxHeartbeats 400000 in
theorem zigzag_any (k : Int) (w : World) (h0 : -4611686018427387903 ≤ k) (h1 : k ≤ 4611686018427387903) :
    Calls Tryd.prog 24 #[.int .i64 k] w fun e w' => e = .returned (.int .u64 (WireP.zz k : Nat)) ∧ w = w' := by
  by_cases hk : k < 0
  · have e : -k * 2 - 1 = ((WireP.zz k : Nat) : Int) := by
      unfold WireP.zz; rw [if_pos hk]; omega
    have H := Lib.hid e; clear e
    go_enter Tryd.func24, Tryd.ntmps24
    go_wp2
    go_ret
    exact ⟨by rw [← H.out]; rfl, rfl⟩
  · have e : k * 2 = ((WireP.zz k : Nat) : Int) := by
      unfold WireP.zz; rw [if_neg hk]; omega
    have H := Lib.hid e; clear e
    go_enter Tryd.func24, Tryd.ntmps24
    go_wp2
    go_ret
    exact ⟨by rw [← H.out]; rfl, rfl⟩

theorem WireP_pow_div {z f : Nat} (h : z < 128 ^ (f + 1 + 1)) : z / 128 < 128 ^ (f + 1) := by
  rw [Nat.div_lt_iff_lt_mul (by omega)]; rw [Nat.pow_succ] at h; exact h

set_option maxRecDepth 100000 in
set_option maxHeartbeats 1000000 in
theorem refPutInt_in (k : Int) (w : World) (h0 : -4611686018427387903 ≤ k) (h1 : k ≤ 4611686018427387903) :
    Calls Tryd.prog 13 #[.int .i64 k] w fun e w' => e = .returned (V2s (WireP.enc (WireP.zz k), 0)) ∧ Below w.heap.size w w' := by
  have d1 : decide (k < -4611686018427387903) = false := by simp; omega
  have d2 : decide (4611686018427387903 < k) = false := by simp; omega
  have hzlt := WireP.zz_lt h0 h1
  obtain ⟨i0, hi, hz0, hz1, hz2⟩ := info_parts info_u8
  go_enter Tryd.func13, Tryd.ntmps13
  go_wp2_with fail
  refine (zigzag_any k _ h0 h1).mono ?_
  rintro e w' ⟨rfl, rfl⟩
  go_wp2_with fail
  go_loopw [4, 5] (fun zv v wr => ∃ (z f : Nat) (done : List UInt8), zv = .int .u64 z ∧ z < 9223372036854775808 ∧ done.length ≤ 8 ∧
      Hid (f + done.length = 8 ∧ z < 128 ^ (f + 1) ∧ done ++ WireP.encF f z = WireP.enc (WireP.zz k) ∧ wr.ownsRow w.heap.size 5 1 v done.length (u8s done) ∧ Below w.heap.size w wr)) (fun zv _ _ => (intOf zv).toNat)
  case atStart => exact ⟨WireP.zz k, 8, [], rfl, by omega, by simp, Lib.hid ⟨rfl, by omega, rfl, World.ownsRow_nil _ _ _ _, Below.refl _ _⟩⟩
  case round =>
    obtain ⟨z, f, done, rfl, hz, hd, hr⟩ := hrel
    obtain ⟨r1, r2, r3, r4, r5⟩ := hr.out
    have hsz := r5.size
    by_cases h128 : z < 128
    · have he : WireP.encF f z = [UInt8.ofNat z] := by
        cases f with
        | zero => rfl
        | succ f => rw [WireP.encF, if_pos h128]
      have hb8 : (UInt8.ofNat z).toNat = z := WireP.ofNat_toNat (by omega)
      rw [he] at r3
      have hlen : (WireP.enc (WireP.zz k)).length = done.length + 1 := by rw [← r3]; simp
      have hus : u8s done ++ [.int .u8 (z : Int)] = u8s (WireP.enc (WireP.zz k)) := by rw [← r3]; simp [u8s, hb8]
      have HU := Lib.hid hus; clear hus
      have HL := Lib.hid hlen; clear hlen
      have H5 := Lib.hid r5
      clear r1 r2 r3 hr d1 d2 he hb8 r5
      go_wp2_with (first | (at_builtin; refine wpList_append_own _ rfl (.tmp 25) (.tmp 28) 38 rfl w.heap.size 5 i0 (.int .u8 0) 1 1 Tryd.underlying38 hi hz0 hz1 hz2 rfl (by decide) _ _ _ rfl (r4.alloc _) ⟨wr.heap.size, 0, none⟩ 1 1 _ rfl (by rfl) (cell_one_new _ _ _) (by simp [Value.oneCell']) (by unfold maxLen; omega) (by omega) (by simp; omega) ?_; intro v' w1 hown' hgrow _; obtain ⟨g', cap', rfl⟩ := ownsRow_succ hown'; have hcv := run_string_of_row (P := Tryd.prog) w1 38 9 5 ⟨g', 0, none⟩ (done.length + 1) cap' (WireP.enc (WireP.zz k)) Tryd.underlying38 Tryd.underlying5 Tryd.underlying9 HL.out (by rw [← HU.out]; exact hown'.cells rfl)))
      go_ret2
      refine ⟨rfl, ?_⟩
      exact (H5.out.alloc hsz _).grown hgrow (by simp; omega) (fun j e => (r4.lt j e).1)
    · cases f with
      | zero => omega
      | succ f =>
        rw [WireP.encF, if_neg h128] at r3
        have hb8 : (UInt8.ofNat (z % 128 + 128)).toNat = z % 128 + 128 := WireP.ofNat_toNat (by omega)
        have hus : u8s done ++ [.int .u8 ((z : Int) % 128 + 128)] = u8s (done ++ [UInt8.ofNat (z % 128 + 128)]) := by
          simp only [u8s, List.map_append, List.map_cons, List.map_nil, hb8]
          rw [show ((z % 128 + 128 : Nat) : Int) = (z : Int) % 128 + 128 by omega]
        have HU := Lib.hid hus; clear hus
        have h3 : (done ++ [UInt8.ofNat (z % 128 + 128)]) ++ WireP.encF f (z / 128) = WireP.enc (WireP.zz k) := by simpa using r3
        have H3 := Lib.hid h3; clear h3 r3
        have H5 := Lib.hid r5
        have H2 := Lib.hid (WireP_pow_div r2); clear r2
        have H1 := Lib.hid r1
        have hd7 : done.length ≤ 7 := by omega
        clear r1 hr d1 d2 hb8 r5
        go_wp2_with (first | (at_builtin; refine wpList_append_own _ rfl (.tmp 16) (.tmp 21) 38 rfl w.heap.size 5 i0 (.int .u8 0) 1 1 Tryd.underlying38 hi hz0 hz1 hz2 rfl (by decide) _ _ _ rfl (r4.alloc _) ⟨wr.heap.size, 0, none⟩ 1 1 _ rfl (by rfl) (cell_one_new _ _ _) (by simp [Value.oneCell']) (by unfold maxLen; omega) (by omega) (by simp; omega) ?_; intro v' w1 hown' hgrow _))
        go_roundw
        case rel =>
          refine ⟨z / 128, f, done ++ [UInt8.ofNat (z % 128 + 128)], by go_num, by omega, by simp; omega, Lib.hid ⟨by have := H1.out; simp; omega, H2.out, H3.out, ?_, ?_⟩⟩
          · rw [List.length_append, ← HU.out]; exact hown'
          · exact (H5.out.alloc hsz _).grown hgrow (by simp; omega) (fun j e => (r4.lt j e).1)
        case measure => simp [intOf]; omega
end Go.Proofs.YtmakkfgdpdbcnaaDoor
