import Derived.Test.YtgjajhopjcdflaaGreatWireJ
import Derived.Test.YtgjajhopjcdflaaGreatBaseD
import Derived.Maps.AppendAt
import Derived.Test.YtgjajhopjcdflaaGreatFkL
import Derived.BigQuiet
namespace Go.Proofs.YtgjajhopjcdflaaGreat
open Go Go.RowKit

set_option maxHeartbeats 400000 in
theorem zigzag_any (k : Int) (w : World) (h0 : -4611686018427387903 ≤ k) (h1 : k ≤ 4611686018427387903) :
    Calls Tryz.prog 136 #[.int .i64 k] w fun e w' => e = .returned (.int .u64 (WireP.zz k : Nat)) ∧ w = w' := by
  by_cases hk : k < 0
  · have e : -k * 2 - 1 = ((WireP.zz k : Nat) : Int) := by
      unfold WireP.zz; rw [if_pos hk]; omega
    have H := Lib.hid e; clear e
    go_enter Tryz.func136, Tryz.ntmps136
    go_wp2
    go_ret
    exact ⟨by rw [← H.out]; rfl, rfl⟩
  · have e : k * 2 = ((WireP.zz k : Nat) : Int) := by
      unfold WireP.zz; rw [if_neg hk]; omega
    have H := Lib.hid e; clear e
    go_enter Tryz.func136, Tryz.ntmps136
    go_wp2
    go_ret
    exact ⟨by rw [← H.out]; rfl, rfl⟩

theorem WireP_pow_div {z f : Nat} (h : z < 128 ^ (f + 1 + 1)) : z / 128 < 128 ^ (f + 1) := by
  rw [Nat.div_lt_iff_lt_mul (by omega)]; rw [Nat.pow_succ] at h; exact h

set_option maxRecDepth 100000 in
set_option maxHeartbeats 1000000 in
theorem refPutInt_in (k : Int) (w : World) (h0 : -4611686018427387903 ≤ k) (h1 : k ≤ 4611686018427387903) :
    Calls Tryz.prog 135 #[.int .i64 k] w fun e w' => e = .returned (V2s (WireP.enc (WireP.zz k), 0)) ∧ Below w.heap.size w w' := by
  have d1 : decide (k < -4611686018427387903) = false := by simp; omega
  have d2 : decide (4611686018427387903 < k) = false := by simp; omega
  have hzlt := WireP.zz_lt h0 h1
  obtain ⟨i0, hi, hz0, hz1, hz2⟩ := info_parts info_u8
  go_enter Tryz.func135, Tryz.ntmps135
  go_wp2_with fail
  refine (zigzag_any k _ h0 h1).mono ?_
  rintro e w' ⟨rfl, rfl⟩
  go_wp2_with fail
  go_loopw [4, 5] (fun zv v wr => ∃ (z f : Nat) (done : List UInt8), zv = .int .u64 z ∧ z < 9223372036854775808 ∧ done.length ≤ 8 ∧
      Hid (f + done.length = 8 ∧ z < 128 ^ (f + 1) ∧ done ++ WireP.encF f z = WireP.enc (WireP.zz k) ∧ wr.ownsRow w.heap.size 5 1 v done.length (u8s done) ∧ Below w.heap.size w wr)) (fun zv _ _ => (intOf zv).toNat)
  case atStart => exact ⟨WireP.zz k, 8, [], rfl, by omega, by simp, Lib.hid ⟨rfl, by omega, rfl, World.ownsRow_nil _ _ _ _, Below.refl _ _⟩⟩
  case round =>
    obtain ⟨z, f, done, rfl, hz, hd, hr⟩ := hrel
    obtain ⟨r1, r2, r3, r4, r5⟩ := hr.out
    have hsz := r5.size
    by_cases h128 : z < 128
    · have he : WireP.encF f z = [UInt8.ofNat z] := by
        cases f with
        | zero => rfl
        | succ f => rw [WireP.encF, if_pos h128]
      have hb8 : (UInt8.ofNat z).toNat = z := WireP.ofNat_toNat (by omega)
      rw [he] at r3
      have hlen : (WireP.enc (WireP.zz k)).length = done.length + 1 := by rw [← r3]; simp
      have hus : u8s done ++ [.int .u8 (z : Int)] = u8s (WireP.enc (WireP.zz k)) := by rw [← r3]; simp [u8s, hb8]
      have HU := Lib.hid hus; clear hus
      have HL := Lib.hid hlen; clear hlen
      have H5 := Lib.hid r5
      clear r1 r2 r3 hr d1 d2 he hb8 r5
      go_wp2_with (first | (at_builtin; refine wpList_append_own _ rfl (.tmp 25) (.tmp 28) 100 rfl w.heap.size 5 i0 (.int .u8 0) 1 1 Tryz.underlying100 hi hz0 hz1 hz2 rfl (by decide) _ _ _ rfl (r4.alloc _) ⟨wr.heap.size, 0, none⟩ 1 1 _ rfl (by rfl) (cell_one_new _ _ _) (by simp [Value.oneCell']) (by unfold maxLen; omega) (by omega) (by simp; omega) ?_; intro v' w1 hown' hgrow _; obtain ⟨g', cap', rfl⟩ := ownsRow_succ hown'; have hcv := run_string_of_row (P := Tryz.prog) w1 100 9 5 ⟨g', 0, none⟩ (done.length + 1) cap' (WireP.enc (WireP.zz k)) Tryz.underlying100 Tryz.underlying5 Tryz.underlying9 HL.out (by rw [← HU.out]; exact hown'.cells rfl)))
      go_ret2
      refine ⟨rfl, ?_⟩
      exact (H5.out.alloc hsz _).grown hgrow (by simp; omega) (fun j e => (r4.lt j e).1)
    · cases f with
      | zero => omega
      | succ f =>
        rw [WireP.encF, if_neg h128] at r3
        have hb8 : (UInt8.ofNat (z % 128 + 128)).toNat = z % 128 + 128 := WireP.ofNat_toNat (by omega)
        have hus : u8s done ++ [.int .u8 ((z : Int) % 128 + 128)] = u8s (done ++ [UInt8.ofNat (z % 128 + 128)]) := by
          simp only [u8s, List.map_append, List.map_cons, List.map_nil, hb8]
          rw [show ((z % 128 + 128 : Nat) : Int) = (z : Int) % 128 + 128 by omega]
        have HU := Lib.hid hus; clear hus
        have h3 : (done ++ [UInt8.ofNat (z % 128 + 128)]) ++ WireP.encF f (z / 128) = WireP.enc (WireP.zz k) := by simpa using r3
        have H3 := Lib.hid h3; clear h3 r3
        have H5 := Lib.hid r5
        have H2 := Lib.hid (WireP_pow_div r2); clear r2
        have H1 := Lib.hid r1
        have hd7 : done.length ≤ 7 := by omega
        clear r1 hr d1 d2 hb8 r5
        go_wp2_with (first | (at_builtin; refine wpList_append_own _ rfl (.tmp 16) (.tmp 21) 100 rfl w.heap.size 5 i0 (.int .u8 0) 1 1 Tryz.underlying100 hi hz0 hz1 hz2 rfl (by decide) _ _ _ rfl (r4.alloc _) ⟨wr.heap.size, 0, none⟩ 1 1 _ rfl (by rfl) (cell_one_new _ _ _) (by simp [Value.oneCell']) (by unfold maxLen; omega) (by omega) (by simp; omega) ?_; intro v' w1 hown' hgrow _))
        go_roundw
        case rel =>
          refine ⟨z / 128, f, done ++ [UInt8.ofNat (z % 128 + 128)], by go_num, by omega, by simp; omega, Lib.hid ⟨by have := H1.out; simp; omega, H2.out, H3.out, ?_, ?_⟩⟩
          · rw [List.length_append, ← HU.out]; exact hown'
          · exact (H5.out.alloc hsz _).grown hgrow (by simp; omega) (fun j e => (r4.lt j e).1)
        case measure => simp [intOf]; omega
set_option maxRecDepth 100000 in
set_option maxHeartbeats 400000 in
theorem refPutInt_any (k : Int) (w : World) (h1 : -9223372036854775808 ≤ k) (h2 : k ≤ 9223372036854775807) :
    Calls Tryz.prog 135 #[.int .i64 k] w fun e w' => e = .returned (V2s (putSpec k)) ∧ Below w.heap.size w w' := by
  by_cases h : k < -4611686018427387903 ∨ 4611686018427387903 < k
  · have H := Lib.hid (show putSpec k = ([], 10) by unfold putSpec; rw [if_pos h])
    rcases h with h | h
    · go_enter Tryz.func135, Tryz.ntmps135
      go_wp2
      go_ret2
      exact ⟨by rw [H.out]; rfl, Below.refl _ _⟩
    · have d1 : ¬ k < -4611686018427387903 := by omega
      go_enter Tryz.func135, Tryz.ntmps135
      go_wp2
      go_ret2
      exact ⟨by rw [H.out]; rfl, Below.refl _ _⟩
  · have e : putSpec k = (WireP.enc (WireP.zz k), 0) := by unfold putSpec; rw [if_neg h]
    rw [e]
    exact refPutInt_in k w (by omega) (by omega)

set_option maxRecDepth 100000 in
set_option maxHeartbeats 400000 in
theorem refPutString_any (s : ByteArray) (w : World) (hs : s.size ≤ 140737488351232) :
    Calls Tryz.prog 131 #[.string s] w fun e w' => e = .returned (V2s (putStrSpec s.data.toList)) ∧ Below w.heap.size w w' := by
  by_cases h : 65536 < s.size
  · have H := Lib.hid (show putStrSpec s.data.toList = ([], 10) by unfold putStrSpec; rw [if_pos (by simpa using h)])
    go_enter Tryz.func131, Tryz.ntmps131
    go_wp2
    go_ret2
    exact ⟨by rw [H.out]; rfl, Below.refl _ _⟩
  · have e1 : putStrSpec s.data.toList = ((putSpec (s.size : Int)).1 ++ s.data.toList, 0) := by
      unfold putStrSpec putSpec
      rw [if_neg (by simpa using h), if_neg (by omega)]
      simp
    have hl := putSpec_len (s.size : Int)
    have hc := refPutInt_any (s.size : Int)
    obtain ⟨p, hp⟩ : ∃ p, putSpec (s.size : Int) = p := ⟨_, rfl⟩
    obtain ⟨q, x⟩ := p
    rw [hp] at e1 hl hc
    clear hp
    have H := Lib.hid e1; clear e1
    have HC := Lib.hid hc; clear hc
    dsimp only at hl
    go_enter Tryz.func131, Tryz.ntmps131
    go_wp2_with fail
    refine (HC.out _ (by omega) (by omega)).mono ?_
    rintro e w' ⟨rfl, hb⟩
    unfold V2s
    go_wp2
    go_ret2
    refine ⟨?_, hb⟩
    rw [H.out]
    exact congrArg (fun v => Ending.returned (.tuple #[.string v, .int .i64 0])) (append_right q s)
end Go.Proofs.YtgjajhopjcdflaaGreat
namespace Go.Proofs.YtgjajhopjcdflaaGreat
open Go Go.RowKit Go.Lib Go.Shelf Go.Maps

set_option maxRecDepth 100000 in
set_option maxHeartbeats 2000000 in
theorem rkey_1 (x1 x2 x3 x4 x5 x6 x7 x8 x9 x10 x11 x12 x13 x14 x15 x16 : Int) (t : ByteArray) (w : World) :
    Calls Tryz.prog 60 #[.agg #[.int .i64 1, .int .i64 x1, .int .i64 x2, .int .i64 x3, .int .i64 x4, .int .i64 x5, .int .i64 x6, .int .i64 x7, .int .i64 x8, .int .i64 x9, .int .i64 x10, .int .i64 x11, .int .i64 x12, .int .i64 x13, .int .i64 x14, .int .i64 x15, .int .i64 x16, .string t]] w fun e w' => e = .returned (.agg #[.int .i64 1, .int .i64 x6, .int .i64 x1]) ∧ Below w.heap.size w w' := by
  go_enter Tryz.func60, Tryz.ntmps60
  go_wp2_with fail
  go_quiet (fail)
  go_wp2_with fail
  exact bodyPost_ret (v := .agg #[.int .i64 1, .int .i64 x6, .int .i64 x1]) (by simp [results, Tryz.results60, go_sem]) rfl ⟨rfl, (((below_drewN (((Below.refl _ _).alloc (Nat.le_refl _) _).alloc (by simp) _) _).setCell (p := ⟨w.heap.size + 1, 0, none⟩) (by simp) _).setCell (p := ⟨w.heap.size + 1, 1, none⟩) (by simp) _).setCell (p := ⟨w.heap.size + 1, 2, none⟩) (by simp) _⟩
set_option maxRecDepth 100000 in
set_option maxHeartbeats 2000000 in
theorem rkey_2 (x1 x2 x3 x4 x5 x6 x7 x8 x9 x10 x11 x12 x13 x14 x15 x16 : Int) (t : ByteArray) (w : World) :
    Calls Tryz.prog 60 #[.agg #[.int .i64 2, .int .i64 x1, .int .i64 x2, .int .i64 x3, .int .i64 x4, .int .i64 x5, .int .i64 x6, .int .i64 x7, .int .i64 x8, .int .i64 x9, .int .i64 x10, .int .i64 x11, .int .i64 x12, .int .i64 x13, .int .i64 x14, .int .i64 x15, .int .i64 x16, .string t]] w fun e w' => e = .returned (.agg #[.int .i64 2, .int .i64 x6, .int .i64 x1]) ∧ Below w.heap.size w w' := by
  go_enter Tryz.func60, Tryz.ntmps60
  go_wp2_with fail
  go_quiet (fail)
  go_wp2_with fail
  exact bodyPost_ret (v := .agg #[.int .i64 2, .int .i64 x6, .int .i64 x1]) (by simp [results, Tryz.results60, go_sem]) rfl ⟨rfl, (((below_drewN (((Below.refl _ _).alloc (Nat.le_refl _) _).alloc (by simp) _) _).setCell (p := ⟨w.heap.size + 1, 0, none⟩) (by simp) _).setCell (p := ⟨w.heap.size + 1, 1, none⟩) (by simp) _).setCell (p := ⟨w.heap.size + 1, 2, none⟩) (by simp) _⟩
set_option maxRecDepth 100000 in
set_option maxHeartbeats 2000000 in
theorem rkey_3 (x1 x2 x3 x4 x5 x6 x7 x8 x9 x10 x11 x12 x13 x14 x15 x16 : Int) (t : ByteArray) (w : World) :
    Calls Tryz.prog 60 #[.agg #[.int .i64 3, .int .i64 x1, .int .i64 x2, .int .i64 x3, .int .i64 x4, .int .i64 x5, .int .i64 x6, .int .i64 x7, .int .i64 x8, .int .i64 x9, .int .i64 x10, .int .i64 x11, .int .i64 x12, .int .i64 x13, .int .i64 x14, .int .i64 x15, .int .i64 x16, .string t]] w fun e w' => e = .returned (.agg #[.int .i64 3, .int .i64 x1, .int .i64 0]) ∧ Below w.heap.size w w' := by
  go_enter Tryz.func60, Tryz.ntmps60
  go_wp2_with fail
  exact bodyPost_ret (v := .agg #[.int .i64 3, .int .i64 x1, .int .i64 0]) (by simp [results, Tryz.results60, go_sem]) rfl ⟨rfl, ((Below.refl _ _).alloc (Nat.le_refl _) _).alloc (by simp) _⟩
set_option maxRecDepth 100000 in
set_option maxHeartbeats 2000000 in
theorem rkey_4 (x1 x2 x3 x4 x5 x6 x7 x8 x9 x10 x11 x12 x13 x14 x15 x16 : Int) (t : ByteArray) (w : World) :
    Calls Tryz.prog 60 #[.agg #[.int .i64 4, .int .i64 x1, .int .i64 x2, .int .i64 x3, .int .i64 x4, .int .i64 x5, .int .i64 x6, .int .i64 x7, .int .i64 x8, .int .i64 x9, .int .i64 x10, .int .i64 x11, .int .i64 x12, .int .i64 x13, .int .i64 x14, .int .i64 x15, .int .i64 x16, .string t]] w fun e w' => e = .returned (.agg #[.int .i64 4, .int .i64 x9, .int .i64 x11]) ∧ Below w.heap.size w w' := by
  go_enter Tryz.func60, Tryz.ntmps60
  go_wp2_with fail
  go_quiet (fail)
  go_wp2_with fail
  exact bodyPost_ret (v := .agg #[.int .i64 4, .int .i64 x9, .int .i64 x11]) (by simp [results, Tryz.results60, go_sem]) rfl ⟨rfl, (((below_drewN (((Below.refl _ _).alloc (Nat.le_refl _) _).alloc (by simp) _) _).setCell (p := ⟨w.heap.size + 1, 0, none⟩) (by simp) _).setCell (p := ⟨w.heap.size + 1, 1, none⟩) (by simp) _).setCell (p := ⟨w.heap.size + 1, 2, none⟩) (by simp) _⟩
set_option maxRecDepth 100000 in
set_option maxHeartbeats 2000000 in
theorem rkey_5 (x1 x2 x3 x4 x5 x6 x7 x8 x9 x10 x11 x12 x13 x14 x15 x16 : Int) (t : ByteArray) (w : World) :
    Calls Tryz.prog 60 #[.agg #[.int .i64 5, .int .i64 x1, .int .i64 x2, .int .i64 x3, .int .i64 x4, .int .i64 x5, .int .i64 x6, .int .i64 x7, .int .i64 x8, .int .i64 x9, .int .i64 x10, .int .i64 x11, .int .i64 x12, .int .i64 x13, .int .i64 x14, .int .i64 x15, .int .i64 x16, .string t]] w fun e w' => e = .returned (.agg #[.int .i64 5, .int .i64 x1, .int .i64 0]) ∧ Below w.heap.size w w' := by
  go_enter Tryz.func60, Tryz.ntmps60
  go_wp2_with fail
  exact bodyPost_ret (v := .agg #[.int .i64 5, .int .i64 x1, .int .i64 0]) (by simp [results, Tryz.results60, go_sem]) rfl ⟨rfl, ((Below.refl _ _).alloc (Nat.le_refl _) _).alloc (by simp) _⟩
set_option maxRecDepth 100000 in
set_option maxHeartbeats 2000000 in
theorem rkey_6 (x1 x2 x3 x4 x5 x6 x7 x8 x9 x10 x11 x12 x13 x14 x15 x16 : Int) (t : ByteArray) (w : World) :
    Calls Tryz.prog 60 #[.agg #[.int .i64 6, .int .i64 x1, .int .i64 x2, .int .i64 x3, .int .i64 x4, .int .i64 x5, .int .i64 x6, .int .i64 x7, .int .i64 x8, .int .i64 x9, .int .i64 x10, .int .i64 x11, .int .i64 x12, .int .i64 x13, .int .i64 x14, .int .i64 x15, .int .i64 x16, .string t]] w fun e w' => e = .returned (.agg #[.int .i64 6, .int .i64 x5, .int .i64 x3]) ∧ Below w.heap.size w w' := by
  go_enter Tryz.func60, Tryz.ntmps60
  go_wp2_with fail
  go_quiet (fail)
  go_wp2_with fail
  exact bodyPost_ret (v := .agg #[.int .i64 6, .int .i64 x5, .int .i64 x3]) (by simp [results, Tryz.results60, go_sem]) rfl ⟨rfl, (((below_drewN (((Below.refl _ _).alloc (Nat.le_refl _) _).alloc (by simp) _) _).setCell (p := ⟨w.heap.size + 1, 0, none⟩) (by simp) _).setCell (p := ⟨w.heap.size + 1, 1, none⟩) (by simp) _).setCell (p := ⟨w.heap.size + 1, 2, none⟩) (by simp) _⟩
set_option maxRecDepth 100000 in
set_option maxHeartbeats 2000000 in
theorem rkey_7 (x1 x2 x3 x4 x5 x6 x7 x8 x9 x10 x11 x12 x13 x14 x15 x16 : Int) (t : ByteArray) (w : World) :
    Calls Tryz.prog 60 #[.agg #[.int .i64 7, .int .i64 x1, .int .i64 x2, .int .i64 x3, .int .i64 x4, .int .i64 x5, .int .i64 x6, .int .i64 x7, .int .i64 x8, .int .i64 x9, .int .i64 x10, .int .i64 x11, .int .i64 x12, .int .i64 x13, .int .i64 x14, .int .i64 x15, .int .i64 x16, .string t]] w fun e w' => e = .returned (.agg #[.int .i64 7, .int .i64 x15, .int .i64 x3]) ∧ Below w.heap.size w w' := by
  go_enter Tryz.func60, Tryz.ntmps60
  go_wp2_with fail
  go_quiet (fail)
  go_wp2_with fail
  exact bodyPost_ret (v := .agg #[.int .i64 7, .int .i64 x15, .int .i64 x3]) (by simp [results, Tryz.results60, go_sem]) rfl ⟨rfl, (((below_drewN (((Below.refl _ _).alloc (Nat.le_refl _) _).alloc (by simp) _) _).setCell (p := ⟨w.heap.size + 1, 0, none⟩) (by simp) _).setCell (p := ⟨w.heap.size + 1, 1, none⟩) (by simp) _).setCell (p := ⟨w.heap.size + 1, 2, none⟩) (by simp) _⟩
set_option maxRecDepth 100000 in
set_option maxHeartbeats 2000000 in
theorem rkey_8 (x1 x2 x3 x4 x5 x6 x7 x8 x9 x10 x11 x12 x13 x14 x15 x16 : Int) (t : ByteArray) (w : World) :
    Calls Tryz.prog 60 #[.agg #[.int .i64 8, .int .i64 x1, .int .i64 x2, .int .i64 x3, .int .i64 x4, .int .i64 x5, .int .i64 x6, .int .i64 x7, .int .i64 x8, .int .i64 x9, .int .i64 x10, .int .i64 x11, .int .i64 x12, .int .i64 x13, .int .i64 x14, .int .i64 x15, .int .i64 x16, .string t]] w fun e w' => e = .returned (.agg #[.int .i64 8, .int .i64 x1, .int .i64 0]) ∧ Below w.heap.size w w' := by
  go_enter Tryz.func60, Tryz.ntmps60
  go_wp2_with fail
  exact bodyPost_ret (v := .agg #[.int .i64 8, .int .i64 x1, .int .i64 0]) (by simp [results, Tryz.results60, go_sem]) rfl ⟨rfl, ((Below.refl _ _).alloc (Nat.le_refl _) _).alloc (by simp) _⟩
set_option maxRecDepth 100000 in
set_option maxHeartbeats 2000000 in
theorem rkey_9 (x1 x2 x3 x4 x5 x6 x7 x8 x9 x10 x11 x12 x13 x14 x15 x16 : Int) (t : ByteArray) (w : World) :
    Calls Tryz.prog 60 #[.agg #[.int .i64 9, .int .i64 x1, .int .i64 x2, .int .i64 x3, .int .i64 x4, .int .i64 x5, .int .i64 x6, .int .i64 x7, .int .i64 x8, .int .i64 x9, .int .i64 x10, .int .i64 x11, .int .i64 x12, .int .i64 x13, .int .i64 x14, .int .i64 x15, .int .i64 x16, .string t]] w fun e w' => e = .returned (.agg #[.int .i64 9, .int .i64 x11, .int .i64 0]) ∧ Below w.heap.size w w' := by
  go_enter Tryz.func60, Tryz.ntmps60
  go_wp2_with fail
  exact bodyPost_ret (v := .agg #[.int .i64 9, .int .i64 x11, .int .i64 0]) (by simp [results, Tryz.results60, go_sem]) rfl ⟨rfl, ((Below.refl _ _).alloc (Nat.le_refl _) _).alloc (by simp) _⟩
set_option maxRecDepth 100000 in
set_option maxHeartbeats 2000000 in
theorem rkey_10 (x1 x2 x3 x4 x5 x6 x7 x8 x9 x10 x11 x12 x13 x14 x15 x16 : Int) (t : ByteArray) (w : World) :
    Calls Tryz.prog 60 #[.agg #[.int .i64 10, .int .i64 x1, .int .i64 x2, .int .i64 x3, .int .i64 x4, .int .i64 x5, .int .i64 x6, .int .i64 x7, .int .i64 x8, .int .i64 x9, .int .i64 x10, .int .i64 x11, .int .i64 x12, .int .i64 x13, .int .i64 x14, .int .i64 x15, .int .i64 x16, .string t]] w fun e w' => e = .returned (.agg #[.int .i64 10, .int .i64 x8, .int .i64 x11]) ∧ Below w.heap.size w w' := by
  go_enter Tryz.func60, Tryz.ntmps60
  go_wp2_with fail
  go_quiet (fail)
  go_wp2_with fail
  exact bodyPost_ret (v := .agg #[.int .i64 10, .int .i64 x8, .int .i64 x11]) (by simp [results, Tryz.results60, go_sem]) rfl ⟨rfl, (((below_drewN (((Below.refl _ _).alloc (Nat.le_refl _) _).alloc (by simp) _) _).setCell (p := ⟨w.heap.size + 1, 0, none⟩) (by simp) _).setCell (p := ⟨w.heap.size + 1, 1, none⟩) (by simp) _).setCell (p := ⟨w.heap.size + 1, 2, none⟩) (by simp) _⟩
set_option maxRecDepth 100000 in
set_option maxHeartbeats 2000000 in
theorem rkey_0 (x0 x1 x2 x3 x4 x5 x6 x7 x8 x9 x10 x11 x12 x13 x14 x15 x16 : Int) (t : ByteArray) (w : World) (h : x0 < 1 ∨ 10 < x0) :
    Calls Tryz.prog 60 #[.agg #[.int .i64 x0, .int .i64 x1, .int .i64 x2, .int .i64 x3, .int .i64 x4, .int .i64 x5, .int .i64 x6, .int .i64 x7, .int .i64 x8, .int .i64 x9, .int .i64 x10, .int .i64 x11, .int .i64 x12, .int .i64 x13, .int .i64 x14, .int .i64 x15, .int .i64 x16, .string t]] w fun e w' => e = .returned (.agg #[.int .i64 x0, .int .i64 0, .int .i64 0]) ∧ Below w.heap.size w w' := by
  have h1 : (x0 == 1) = false := by simp; omega
  have h2 : (x0 == 2) = false := by simp; omega
  have h3 : (x0 == 3) = false := by simp; omega
  have h4 : (x0 == 4) = false := by simp; omega
  have h5 : (x0 == 5) = false := by simp; omega
  have h6 : (x0 == 6) = false := by simp; omega
  have h7 : (x0 == 7) = false := by simp; omega
  have h8 : (x0 == 8) = false := by simp; omega
  have h9 : (x0 == 9) = false := by simp; omega
  have h10 : (x0 == 10) = false := by simp; omega
  clear h
  go_enter Tryz.func60, Tryz.ntmps60
  go_wp2_with fail
  exact bodyPost_ret (v := .agg #[.int .i64 x0, .int .i64 0, .int .i64 0]) (by simp [results, Tryz.results60, go_sem]) rfl ⟨rfl, ((Below.refl _ _).alloc (Nat.le_refl _) _).alloc (by simp) _⟩
theorem rkey_any (f : FactV) (w : World) :
    Calls Tryz.prog 60 #[.agg f.cells] w fun e w' => e = .returned (keyV f) ∧ Below w.heap.size w w' := by
  have hc : f.cells = #[.int .i64 (f.n 0), .int .i64 (f.n 1), .int .i64 (f.n 2), .int .i64 (f.n 3), .int .i64 (f.n 4), .int .i64 (f.n 5), .int .i64 (f.n 6), .int .i64 (f.n 7), .int .i64 (f.n 8), .int .i64 (f.n 9), .int .i64 (f.n 10), .int .i64 (f.n 11), .int .i64 (f.n 12), .int .i64 (f.n 13), .int .i64 (f.n 14), .int .i64 (f.n 15), .int .i64 (f.n 16), .string f.text] := rfl
  rw [hc]
  unfold keyV key2
  by_cases h : f.n 0 < 1 ∨ 10 < f.n 0
  · have e : (if f.n 0 = 1 ∨ f.n 0 = 2 then (f.n 6, f.n 1) else if f.n 0 = 3 ∨ f.n 0 = 5 ∨ f.n 0 = 8 then (f.n 1, 0) else if f.n 0 = 4 then (f.n 9, f.n 11) else if f.n 0 = 6 then (f.n 5, f.n 3) else if f.n 0 = 7 then (f.n 15, f.n 3) else if f.n 0 = 9 then (f.n 11, 0) else if f.n 0 = 10 then (f.n 8, f.n 11) else ((0 : Int), (0 : Int))) = (0, 0) := by
      rw [if_neg (by omega), if_neg (by omega), if_neg (by omega), if_neg (by omega), if_neg (by omega), if_neg (by omega), if_neg (by omega)]
    rw [e]
    exact rkey_0 (f.n 0) (f.n 1) (f.n 2) (f.n 3) (f.n 4) (f.n 5) (f.n 6) (f.n 7) (f.n 8) (f.n 9) (f.n 10) (f.n 11) (f.n 12) (f.n 13) (f.n 14) (f.n 15) (f.n 16) f.text w h
  · rcases (by omega : f.n 0 = 1 ∨ f.n 0 = 2 ∨ f.n 0 = 3 ∨ f.n 0 = 4 ∨ f.n 0 = 5 ∨ f.n 0 = 6 ∨ f.n 0 = 7 ∨ f.n 0 = 8 ∨ f.n 0 = 9 ∨ f.n 0 = 10) with h | h | h | h | h | h | h | h | h | h
    · rw [h]; exact rkey_1 (f.n 1) (f.n 2) (f.n 3) (f.n 4) (f.n 5) (f.n 6) (f.n 7) (f.n 8) (f.n 9) (f.n 10) (f.n 11) (f.n 12) (f.n 13) (f.n 14) (f.n 15) (f.n 16) f.text w
    · rw [h]; exact rkey_2 (f.n 1) (f.n 2) (f.n 3) (f.n 4) (f.n 5) (f.n 6) (f.n 7) (f.n 8) (f.n 9) (f.n 10) (f.n 11) (f.n 12) (f.n 13) (f.n 14) (f.n 15) (f.n 16) f.text w
    · rw [h]; exact rkey_3 (f.n 1) (f.n 2) (f.n 3) (f.n 4) (f.n 5) (f.n 6) (f.n 7) (f.n 8) (f.n 9) (f.n 10) (f.n 11) (f.n 12) (f.n 13) (f.n 14) (f.n 15) (f.n 16) f.text w
    · rw [h]; exact rkey_4 (f.n 1) (f.n 2) (f.n 3) (f.n 4) (f.n 5) (f.n 6) (f.n 7) (f.n 8) (f.n 9) (f.n 10) (f.n 11) (f.n 12) (f.n 13) (f.n 14) (f.n 15) (f.n 16) f.text w
    · rw [h]; exact rkey_5 (f.n 1) (f.n 2) (f.n 3) (f.n 4) (f.n 5) (f.n 6) (f.n 7) (f.n 8) (f.n 9) (f.n 10) (f.n 11) (f.n 12) (f.n 13) (f.n 14) (f.n 15) (f.n 16) f.text w
    · rw [h]; exact rkey_6 (f.n 1) (f.n 2) (f.n 3) (f.n 4) (f.n 5) (f.n 6) (f.n 7) (f.n 8) (f.n 9) (f.n 10) (f.n 11) (f.n 12) (f.n 13) (f.n 14) (f.n 15) (f.n 16) f.text w
    · rw [h]; exact rkey_7 (f.n 1) (f.n 2) (f.n 3) (f.n 4) (f.n 5) (f.n 6) (f.n 7) (f.n 8) (f.n 9) (f.n 10) (f.n 11) (f.n 12) (f.n 13) (f.n 14) (f.n 15) (f.n 16) f.text w
    · rw [h]; exact rkey_8 (f.n 1) (f.n 2) (f.n 3) (f.n 4) (f.n 5) (f.n 6) (f.n 7) (f.n 8) (f.n 9) (f.n 10) (f.n 11) (f.n 12) (f.n 13) (f.n 14) (f.n 15) (f.n 16) f.text w
    · rw [h]; exact rkey_9 (f.n 1) (f.n 2) (f.n 3) (f.n 4) (f.n 5) (f.n 6) (f.n 7) (f.n 8) (f.n 9) (f.n 10) (f.n 11) (f.n 12) (f.n 13) (f.n 14) (f.n 15) (f.n 16) f.text w
    · rw [h]; exact rkey_10 (f.n 1) (f.n 2) (f.n 3) (f.n 4) (f.n 5) (f.n 6) (f.n 7) (f.n 8) (f.n 9) (f.n 10) (f.n 11) (f.n 12) (f.n 13) (f.n 14) (f.n 15) (f.n 16) f.text w
theorem ba_app (a b : List UInt8) : (⟨a.toArray⟩ : ByteArray) ++ ⟨b.toArray⟩ = ⟨(a ++ b).toArray⟩ := by
  apply ByteArray.ext
  simp
theorem rnumbers_any (f : FactV) (w : World) :
    Calls Tryz.prog 133 #[.agg f.cells] w fun e w' => e = .returned (.slice (some ⟨w.heap.size + 1, 0, none⟩) 17 17) ∧ RowAt w' (w.heap.size + 1) 3 #[.int .i64 (f.n 0), .int .i64 (f.n 1), .int .i64 (f.n 2), .int .i64 (f.n 3), .int .i64 (f.n 4), .int .i64 (f.n 5), .int .i64 (f.n 6), .int .i64 (f.n 7), .int .i64 (f.n 8), .int .i64 (f.n 9), .int .i64 (f.n 10), .int .i64 (f.n 11), .int .i64 (f.n 12), .int .i64 (f.n 13), .int .i64 (f.n 14), .int .i64 (f.n 15), .int .i64 (f.n 16)] ∧ Below w.heap.size w w' := by
  have hc : f.cells = #[.int .i64 (f.n 0), .int .i64 (f.n 1), .int .i64 (f.n 2), .int .i64 (f.n 3), .int .i64 (f.n 4), .int .i64 (f.n 5), .int .i64 (f.n 6), .int .i64 (f.n 7), .int .i64 (f.n 8), .int .i64 (f.n 9), .int .i64 (f.n 10), .int .i64 (f.n 11), .int .i64 (f.n 12), .int .i64 (f.n 13), .int .i64 (f.n 14), .int .i64 (f.n 15), .int .i64 (f.n 16), .string f.text] := rfl
  rw [hc]
  go_enter Tryz.func133, Tryz.ntmps133
  go_wp2_with fail
  go_ret
  refine ⟨rfl, ?_, ((Below.refl _ _).alloc (Nat.le_refl _) _).alloc (by simp) _⟩
  have h := RowAt.new (w.alloc (.cells #[.int .i64 (f.n 0), .int .i64 (f.n 1), .int .i64 (f.n 2), .int .i64 (f.n 3), .int .i64 (f.n 4), .int .i64 (f.n 5), .int .i64 (f.n 6), .int .i64 (f.n 7), .int .i64 (f.n 8), .int .i64 (f.n 9), .int .i64 (f.n 10), .int .i64 (f.n 11), .int .i64 (f.n 12), .int .i64 (f.n 13), .int .i64 (f.n 14), .int .i64 (f.n 15), .int .i64 (f.n 16), .string f.text] 34)) 3 #[.int .i64 (f.n 0), .int .i64 (f.n 1), .int .i64 (f.n 2), .int .i64 (f.n 3), .int .i64 (f.n 4), .int .i64 (f.n 5), .int .i64 (f.n 6), .int .i64 (f.n 7), .int .i64 (f.n 8), .int .i64 (f.n 9), .int .i64 (f.n 10), .int .i64 (f.n 11), .int .i64 (f.n 12), .int .i64 (f.n 13), .int .i64 (f.n 14), .int .i64 (f.n 15), .int .i64 (f.n 16)]
  simpa using h
set_option maxRecDepth 100000 in
set_option maxHeartbeats 1000000 in
theorem rNumbers_any (b c : Nat) (f : FactV) (w : World) (hf : FactOk f) (hr : RowAt w b 3 #[.int .i64 (f.n 0), .int .i64 (f.n 1), .int .i64 (f.n 2), .int .i64 (f.n 3), .int .i64 (f.n 4), .int .i64 (f.n 5), .int .i64 (f.n 6), .int .i64 (f.n 7), .int .i64 (f.n 8), .int .i64 (f.n 9), .int .i64 (f.n 10), .int .i64 (f.n 11), .int .i64 (f.n 12), .int .i64 (f.n 13), .int .i64 (f.n 14), .int .i64 (f.n 15), .int .i64 (f.n 16)]) :
    Calls Tryz.prog 132 #[.slice (some ⟨b, 0, none⟩) 17 c] w fun e w' => e = .returned (.string ⟨(encN f 17).toArray⟩) ∧ Below w.heap.size w w' := by
  have HR := Lib.hid hr
  have HF := Lib.hid hf
  clear hr hf
  go_enter Tryz.func132, Tryz.ntmps132
  go_wp2_with fail
  go_loopw [3, 4, 5, 6] (fun v3 v4 v5 v6 wr => ∃ k : Nat, k ≤ 17 ∧ v4 = .int .i64 k ∧ v3 = .string ⟨(encN f k).toArray⟩ ∧ Hid (Below w.heap.size w wr)) (fun _ v4 _ _ _ => 17 - (RowKit.intOf v4).toNat)
  case atStart => exact ⟨0, by omega, rfl, rfl, Lib.hid (Below.refl _ _)⟩
  case round =>
    obtain ⟨k, hk, rfl, rfl, HB⟩ := hrel
    by_cases hk2 : k < 17
    · have ck : wr.cell? ⟨b, k, none⟩ = some (.int .i64 (f.n k)) := by
        rw [(HR.out.below HB.out HR.out.lt).cell]
        rcases Nat.lt_or_ge k 8 with h | h
        · rcases (by omega : k = 0 ∨ k = 1 ∨ k = 2 ∨ k = 3 ∨ k = 4 ∨ k = 5 ∨ k = 6 ∨ k = 7) with rfl | rfl | rfl | rfl | rfl | rfl | rfl | rfl <;> rfl
        · rcases (by omega : k = 8 ∨ k = 9 ∨ k = 10 ∨ k = 11 ∨ k = 12 ∨ k = 13 ∨ k = 14 ∨ k = 15 ∨ k = 16) with rfl | rfl | rfl | rfl | rfl | rfl | rfl | rfl | rfl <;> rfl
      have HE := Lib.hid (encN_succ f k)
      have P := Lib.hid (refPutInt_any (f.n k) wr (HF.out k).1 (HF.out k).2)
      obtain ⟨p, hp⟩ : ∃ z, putSpec (f.n k) = z := ⟨_, rfl⟩
      rw [hp] at P HE
      obtain ⟨p1, p2⟩ := p
      have hl : ¬ 9223372036854775807 < (encN f k).length + p1.length := by
        have h1 := encN_len f k
        have h2 := putSpec_len (f.n k)
        rw [hp] at h2
        simp only at h2
        omega
      obtain ⟨x, hx⟩ : ∃ z, f.n k = z := ⟨_, rfl⟩
      rw [hx] at ck P
      clear hp hx
      unfold V2s at P
      go_wp2_with fail
      refine P.out.mono ?_
      rintro e w1 ⟨rfl, hb⟩
      have HB2 := Lib.hid (HB.out.trans (hb.mono HB.out.size)); clear hb
      go_wp2_with fail
      go_roundw
      case rel => exact ⟨k + 1, by omega, by go_num, by rw [HE.out]; first | rfl | rw [← ba_app], HB2⟩
      case measure => simp [RowKit.intOf]; omega
    · obtain rfl : k = 17 := by omega
      go_wp2_with fail
      go_ret
      exact ⟨rfl, HB.out⟩
set_option maxRecDepth 100000 in
set_option maxHeartbeats 1000000 in
theorem rwritten_any (f : FactV) (w : World) (hf : FactOk f) (ht : f.text.size ≤ 140737488351232) :
    Calls Tryz.prog 124 #[.agg f.cells] w fun e w' => e = .returned (.string ⟨(encL f).toArray⟩) ∧ Below w.heap.size w w' := by
  have g17 : f.cells[17]? = some (.string f.text) := rfl
  have PS := Lib.hid (fun W => refPutString_any f.text W ht)
  have HE : Hid (encL f = encN f 17 ++ (putStrSpec f.text.data.toList).1) := Lib.hid rfl
  have NB := Lib.hid (fun W => rnumbers_any f W)
  have HCI : Hid ((Tryz.prog.info? 34).map (·.size) = some f.cells.size) := Lib.hid fact_size
  have HF := Lib.hid hf
  obtain ⟨p, hp⟩ : ∃ z, putStrSpec f.text.data.toList = z := ⟨_, rfl⟩
  rw [hp] at HE
  simp only [hp] at PS
  obtain ⟨p1, p2⟩ := p
  unfold V2s at PS
  have hl : ¬ 9223372036854775807 < (encN f 17).length + p1.length := by
    have h1 := encN_len f 17
    have h2 := putStrSpec_len f.text.data.toList
    rw [hp] at h2
    simp only at h2
    have h3 : f.text.data.toList.length = f.text.size := by simp
    omega
  obtain ⟨tx, htx⟩ : ∃ z, f.text = z := ⟨_, rfl⟩
  rw [htx] at PS g17
  obtain ⟨cf, hcf⟩ : ∃ z, f.cells = z := ⟨_, rfl⟩
  rw [hcf] at g17 HCI ⊢
  simp only [hcf] at NB
  have hrow := RowAt.new w 34 cf
  have HROW := Lib.hid hrow
  have hc17 : (w.alloc (.cells cf 34)).cell? ⟨w.heap.size, 17, none⟩ = some (.string tx) := by rw [hrow.cell]; exact g17
  clear hp htx hcf hrow ht hf g17
  go_enter Tryz.func124, Tryz.ntmps124
  go_wp2_with fail
  refine (PS.out _).mono ?_
  rintro e w1 ⟨rfl, hb⟩
  have H1 : Hid (RowAt w1 w.heap.size 34 cf ∧ Below w.heap.size w w1) := Lib.hid ⟨HROW.out.below hb HROW.out.lt, ((Below.refl w.heap.size w).alloc (Nat.le_refl _) _).trans (hb.mono (by simp))⟩
  clear hb hc17
  go_wp2_with (first | ((with_reducible refine load_cs (o := ⟨some 11, _, _, _, _, _⟩) (.tmp 1) w.heap.size cf (fun j v h => by rw [Nat.zero_add, H1.out.1.cell]; exact h) HCI.out ?_ ?_ ?_ ?_); rfl; rfl; rfl))
  refine (NB.out _).mono ?_
  rintro e w2 ⟨rfl, hr2, hb2⟩
  have NS := Lib.hid (rNumbers_any (w1.heap.size + 1) 17 f w2 HF.out hr2)
  have H2 := Lib.hid (H1.out.2.trans (hb2.mono H1.out.2.size))
  clear hr2 hb2
  go_wp2_with fail
  refine NS.out.mono ?_
  rintro e w3 ⟨rfl, hb3⟩
  have H3 := Lib.hid (H2.out.trans (hb3.mono H2.out.size))
  clear hb3
  go_wp2_with fail
  go_ret
  exact ⟨by rw [HE.out]; first | rfl | rw [← ba_app], H3.out⟩
end Go.Proofs.YtgjajhopjcdflaaGreat
