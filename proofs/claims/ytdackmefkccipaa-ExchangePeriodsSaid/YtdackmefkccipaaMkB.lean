/- The reference's encoding of a made fact comes back, whatever it is. -/
import Derived.Test.YtdackmefkccipaaExN
import Derived.Maps.AppendAt
namespace Go.Proofs.Ytdackmefkccipaa
open Go Go.RowKit Go.Lib Go.Shelf

theorem info_u8 : (Try.prog.info? 5).map (fun i => (i.zero, i.size, i.bytes)) = some (some (.int .u8 0), 1, 1) := by kernel_rfl

set_option maxHeartbeats 400000 in
theorem zigzag_some (k : Int) (w : World) (h0 : -4611686018427387903 ≤ k) (h1 : k ≤ 4611686018427387903) :
    Calls Try.prog 57 #[.int .i64 k] w fun e w' => (∃ z : Nat, z < 9223372036854775808 ∧ e = .returned (.int .u64 (z : Int))) ∧ w = w' := by
  by_cases hk : k < 0
  · obtain ⟨z, hz⟩ : ∃ z : Nat, -k * 2 - 1 = (z : Int) := ⟨(-k * 2 - 1).toNat, by omega⟩
    have hz2 : z < 9223372036854775808 := by omega
    have H := Lib.hid hz
    have HZ := Lib.hid hz2
    clear hz hz2
    go_enter Try.func57, Try.ntmps57
    go_wp2
    go_ret
    exact ⟨⟨z, HZ.out, by rw [← H.out]; rfl⟩, rfl⟩
  · obtain ⟨z, hz⟩ : ∃ z : Nat, k * 2 = (z : Int) := ⟨(k * 2).toNat, by omega⟩
    have hz2 : z < 9223372036854775808 := by omega
    have H := Lib.hid hz
    have HZ := Lib.hid hz2
    clear hz hz2
    go_enter Try.func57, Try.ntmps57
    go_wp2
    go_ret
    exact ⟨⟨z, HZ.out, by rw [← H.out]; rfl⟩, rfl⟩

/-- a string of at most so many bytes, and an error -/
def SomeStr (n : Nat) (w : World) (e : Ending) (w' : World) : Prop := ∃ (l : List UInt8) (x : Int), l.length ≤ n ∧ e = .returned (.tuple #[.string ⟨l.toArray⟩, .int .i64 x]) ∧ Below w.heap.size w w'

theorem own_bytes {w : World} {base n : Nat} {v : Value} {l : List UInt8} (h : w.ownsRow base 5 1 v n (u8s l)) (hl : l.length = n) (hn : 1 ≤ n) : ∃ g cap, v = .slice (some ⟨g, 0, none⟩) n cap ∧ ∀ j u, (u8s l)[j]? = some u → w.cell? ((⟨g, 0, none⟩ : Addr).add j) = some u := by
  obtain ⟨k, rfl⟩ : ∃ k, n = k + 1 := ⟨n - 1, by omega⟩
  obtain ⟨g, cap, rfl⟩ := ownsRow_succ h
  exact ⟨g, cap, rfl, h.cells rfl⟩

set_option maxRecDepth 100000 in
set_option maxHeartbeats 2000000 in
theorem putInt_some (k : Int) (w : World) (h0 : -4611686018427387903 ≤ k) (h1 : k ≤ 4611686018427387903) :
    Calls Try.prog 56 #[.int .i64 k] w (SomeStr 100 w) := by
  have d1 : decide (k < -4611686018427387903) = false := by simp; omega
  have d2 : decide (4611686018427387903 < k) = false := by simp; omega
  obtain ⟨i0, hi, hz0, hz1, hz2⟩ := info_parts info_u8
  go_enter Try.func56, Try.ntmps56
  go_wp2_with fail
  refine (zigzag_some k _ h0 h1).mono ?_
  rintro e w' ⟨⟨z0, hz0', rfl⟩, rfl⟩
  clear h0 h1 d1 d2
  go_wp2_with fail
  go_loopw [4, 5] (fun zv v wr => ∃ (z f : Nat) (done : List UInt8), zv = .int .u64 z ∧ z < 9223372036854775808 ∧ f + done.length ≤ 63 ∧ z < 2 ^ (f + 1) ∧
      Hid (wr.ownsRow w.heap.size 5 1 v done.length (u8s done) ∧ Below w.heap.size w wr)) (fun zv _ _ => (intOf zv).toNat)
  case atStart => exact ⟨z0, 62, [], rfl, hz0', by simp, by omega, Lib.hid ⟨World.ownsRow_nil _ _ _ _, Below.refl _ _⟩⟩
  case round =>
    obtain ⟨z, f, done, rfl, hz, hd, hzf, hr⟩ := hrel
    obtain ⟨r4, r5⟩ := hr.out
    have hsz := r5.size
    by_cases h128 : z < 128
    · have hus : u8s done ++ [.int .u8 (z : Int)] = u8s (done ++ [UInt8.ofNat z]) := by
        have hb8 : (UInt8.ofNat z).toNat = z := by simp [UInt8.toNat_ofNat']; omega
        simp [u8s, hb8]
      have HU := Lib.hid hus; clear hus
      have H5 := Lib.hid r5
      have HR4 := Lib.hid r4
      clear hr r5 r4 hzf
      go_wp2_with (first | (at_builtin; refine wpList_append_own _ rfl (.tmp 25) (.tmp 28) 93 rfl w.heap.size 5 i0 (.int .u8 0) 1 1 Try.underlying93 hi hz0 hz1 hz2 rfl (by decide) _ _ _ rfl (HR4.out.alloc _) ⟨wr.heap.size, 0, none⟩ 1 1 _ rfl (by rfl) (cell_one_new _ _ _) (by simp [Value.oneCell']) (by unfold maxLen; omega) (by omega) (by simp; omega) ?_; intro v' w1 hown' hgrow _; obtain ⟨g', cap', rfl⟩ := ownsRow_succ hown'; have hcv := run_string_of_row (P := Try.prog) w1 93 9 5 ⟨g', 0, none⟩ (done.length + 1) cap' (done ++ [UInt8.ofNat z]) Try.underlying93 Try.underlying5 Try.underlying9 (by simp) (by rw [← HU.out]; exact hown'.cells rfl)))
      go_ret2
      exact ⟨done ++ [UInt8.ofNat z], 0, by simp; omega, rfl, (H5.out.alloc hsz _).grown hgrow (by simp; omega) (fun j e => (HR4.out.lt j e).1)⟩
    · obtain ⟨f', rfl⟩ : ∃ f', f = f' + 1 := ⟨f - 1, by
        have : f ≠ 0 := by rintro rfl; simp at hzf; omega
        omega⟩
      have hus : u8s done ++ [.int .u8 ((z : Int) % 128 + 128)] = u8s (done ++ [UInt8.ofNat (z % 128 + 128)]) := by
        have hb8 : (UInt8.ofNat (z % 128 + 128)).toNat = z % 128 + 128 := by simp [UInt8.toNat_ofNat']; omega
        simp only [u8s, List.map_append, List.map_cons, List.map_nil, hb8]
        rw [show ((z % 128 + 128 : Nat) : Int) = (z : Int) % 128 + 128 by omega]
      have HU := Lib.hid hus; clear hus
      have H5 := Lib.hid r5
      have hpow : z / 128 < 2 ^ (f' + 1) := by
        rw [Nat.div_lt_iff_lt_mul (by omega)]
        have : 2 ^ (f' + 1 + 1) ≤ 2 ^ (f' + 1) * 128 := by rw [Nat.pow_succ]; omega
        omega
      have HP := Lib.hid hpow
      have HR4 := Lib.hid r4
      clear hr r5 r4 hzf hpow
      go_wp2_with (first | (at_builtin; refine wpList_append_own _ rfl (.tmp 16) (.tmp 21) 93 rfl w.heap.size 5 i0 (.int .u8 0) 1 1 Try.underlying93 hi hz0 hz1 hz2 rfl (by decide) _ _ _ rfl (HR4.out.alloc _) ⟨wr.heap.size, 0, none⟩ 1 1 _ rfl (by rfl) (cell_one_new _ _ _) (by simp [Value.oneCell']) (by unfold maxLen; omega) (by omega) (by simp; omega) ?_; intro v' w1 hown' hgrow _))
      go_roundw
      case rel =>
        refine ⟨z / 128, f', done ++ [UInt8.ofNat (z % 128 + 128)], by go_num, by omega, by simp; omega, HP.out, Lib.hid ⟨?_, ?_⟩⟩
        · rw [List.length_append, ← HU.out]; exact hown'
        · exact (H5.out.alloc hsz _).grown hgrow (by simp; omega) (fun j e => (HR4.out.lt j e).1)
      case measure => simp [intOf]; omega

def SomeS (n : Nat) (w : World) (e : Ending) (w' : World) : Prop := ∃ (s : ByteArray) (x : Int), s.size ≤ n ∧ e = .returned (.tuple #[.string s, .int .i64 x]) ∧ Below w.heap.size w w'
def SomeS1 (n : Nat) (w : World) (e : Ending) (w' : World) : Prop := ∃ (s : ByteArray), s.size ≤ n ∧ e = .returned (.string s) ∧ Below w.heap.size w w'
theorem putInt_s (k : Int) (w : World) (h0 : -4611686018427387903 ≤ k) (h1 : k ≤ 4611686018427387903) :
    Calls Try.prog 56 #[.int .i64 k] w (SomeS 100 w) :=
  (putInt_some k w h0 h1).mono fun _ _ ⟨l, x, hl, he, hb⟩ => ⟨_, x, by simpa [ByteArray.size] using hl, he, hb⟩

set_option maxRecDepth 100000 in
set_option maxHeartbeats 1000000 in
theorem putString_s (s : ByteArray) (hs : s.size ≤ 65536) (w : World) :
    Calls Try.prog 53 #[.string s] w (SomeS 70000 w) := by
  have P := Lib.hid (putInt_s (s.size : Int) w (by omega) (by omega))
  go_enter Try.func53, Try.ntmps53
  go_wp2_with fail
  refine (P.out).mono ?_
  rintro e w1 ⟨t, x, ht, rfl, hb⟩
  have HB := Lib.hid hb; clear hb
  go_wp2_with fail
  go_ret2
  exact ⟨t ++ s, 0, by rw [ByteArray.size_append]; omega, rfl, HB.out⟩

theorem numbers_any (f : FactV) (w : World) :
    Calls Try.prog 55 #[.agg f.cells] w fun e w' => e = .returned (.slice (some ⟨w.heap.size + 1, 0, none⟩) 17 17) ∧
      (w.alloc (.cells f.cells 41)).alloc (.cells #[.int .i64 (f.n 0), .int .i64 (f.n 1), .int .i64 (f.n 2), .int .i64 (f.n 3), .int .i64 (f.n 4), .int .i64 (f.n 5), .int .i64 (f.n 6), .int .i64 (f.n 7), .int .i64 (f.n 8), .int .i64 (f.n 9), .int .i64 (f.n 10), .int .i64 (f.n 11), .int .i64 (f.n 12), .int .i64 (f.n 13), .int .i64 (f.n 14), .int .i64 (f.n 15), .int .i64 (f.n 16)] 3) = w' := by
  have g0 : f.cells[0]? = some (.int .i64 (f.n 0)) := rfl
  have g1 : f.cells[1]? = some (.int .i64 (f.n 1)) := rfl
  have g2 : f.cells[2]? = some (.int .i64 (f.n 2)) := rfl
  have g3 : f.cells[3]? = some (.int .i64 (f.n 3)) := rfl
  have g4 : f.cells[4]? = some (.int .i64 (f.n 4)) := rfl
  have g5 : f.cells[5]? = some (.int .i64 (f.n 5)) := rfl
  have g6 : f.cells[6]? = some (.int .i64 (f.n 6)) := rfl
  have g7 : f.cells[7]? = some (.int .i64 (f.n 7)) := rfl
  have g8 : f.cells[8]? = some (.int .i64 (f.n 8)) := rfl
  have g9 : f.cells[9]? = some (.int .i64 (f.n 9)) := rfl
  have g10 : f.cells[10]? = some (.int .i64 (f.n 10)) := rfl
  have g11 : f.cells[11]? = some (.int .i64 (f.n 11)) := rfl
  have g12 : f.cells[12]? = some (.int .i64 (f.n 12)) := rfl
  have g13 : f.cells[13]? = some (.int .i64 (f.n 13)) := rfl
  have g14 : f.cells[14]? = some (.int .i64 (f.n 14)) := rfl
  have g15 : f.cells[15]? = some (.int .i64 (f.n 15)) := rfl
  have g16 : f.cells[16]? = some (.int .i64 (f.n 16)) := rfl
  go_enter Try.func55, Try.ntmps55
  go_wp2
  go_ret
  exact ⟨rfl, rfl⟩

set_option maxRecDepth 100000 in
set_option maxHeartbeats 1000000 in
theorem Numbers_s (b n c : Nat) (xs : Nat → Int) (w : World) (hn : n ≤ 100) (hlt : b < w.heap.size) (hx : ∀ i, i < n → -4611686018427387903 ≤ xs i ∧ xs i ≤ 4611686018427387903) (hc : ∀ i, i < n → w.cell? ⟨b, i, none⟩ = some (.int .i64 (xs i))) :
    Calls Try.prog 54 #[.slice (some ⟨b, 0, none⟩) n c] w (SomeS1 (100 * n) w) := by
  have HX := Lib.hid hx
  have HC := Lib.hid hc
  clear hx hc
  go_enter Try.func54, Try.ntmps54
  go_wp2_with fail
  go_loopw [3, 4] (fun sv iv wr => ∃ (k : Nat) (s : ByteArray), k ≤ n ∧ iv = .int .i64 k ∧ sv = .string s ∧ s.size ≤ 100 * k ∧ Hid (Below w.heap.size w wr)) (fun _ i _ => n - (intOf i).toNat)
  case atStart => exact ⟨0, ⟨#[]⟩, by omega, rfl, rfl, by simp [ByteArray.size], Lib.hid (Below.refl _ _)⟩
  case round =>
    obtain ⟨k, s, hk, rfl, rfl, hs, HB⟩ := hrel
    by_cases hk2 : k < n
    · have ck := (HB.out.cell (p := ⟨b, k, none⟩) hlt).trans (HC.out k hk2)
      obtain ⟨x1, x2⟩ := HX.out k hk2
      obtain ⟨x, hx⟩ : ∃ x, xs k = x := ⟨_, rfl⟩
      rw [hx] at ck x1 x2
      have P := Lib.hid (putInt_s x wr x1 x2)
      clear hx x1 x2
      go_wp2_with fail
      refine (P.out).mono ?_
      rintro e w1 ⟨t, y, ht, rfl, hb⟩
      have HB2 := Lib.hid (HB.out.trans (hb.mono HB.out.size)); clear hb
      go_wp2_with fail
      go_roundw
      case rel => exact ⟨k + 1, s ++ t, by omega, by go_num, rfl, by rw [ByteArray.size_append]; omega, HB2⟩
      case measure => simp [intOf]; omega
    · obtain rfl : k = n := by omega
      go_wp2_with fail
      go_ret
      exact ⟨s, hs, rfl, HB.out⟩
end Go.Proofs.Ytdackmefkccipaa
