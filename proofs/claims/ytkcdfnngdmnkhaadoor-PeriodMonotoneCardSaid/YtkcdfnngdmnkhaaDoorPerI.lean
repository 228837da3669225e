/- digits of package period. -/
import Derived.Test.YtkcdfnngdmnkhaaDoorPerH
import Derived.Test.YtkcdfnngdmnkhaaDoorBaseC
import Derived.Maps.AppendAt
namespace Go.Proofs.YtkcdfnngdmnkhaaDoor
open Go Go.RowKit

theorem info_u8 : (Tryd.prog.info? 5).map (fun i => (i.zero, i.size, i.bytes)) = some (some (.int .u8 0), 1, 1) := by kernel_rfl

/-- digit i of a number with so many digits -/
def PerP.dgs (n width : Nat) : List UInt8 := (List.range width).map fun i => PerP.dig (n / 10 ^ (width - 1 - i))
def PerP.dgsTo (n width i : Nat) : List UInt8 := (List.range i).map fun i => PerP.dig (n / 10 ^ (width - 1 - i))
theorem PerP.dgsTo_len (n width i : Nat) : (PerP.dgsTo n width i).length = i := by simp [PerP.dgsTo]
theorem PerP.dgsTo_succ (n width i : Nat) : PerP.dgsTo n width (i + 1) = PerP.dgsTo n width i ++ [PerP.dig (n / 10 ^ (width - 1 - i))] := by
  simp [PerP.dgsTo, List.range_succ]

def Owns (W0 : World) (l : List UInt8) (e : Ending) (w' : World) : Prop :=
  ∃ v, e = .returned v ∧ w'.ownsRow W0.heap.size 5 1 v l.length (u8s l) ∧ Below W0.heap.size W0 w'

set_option maxRecDepth 100000 in
set_option maxHeartbeats 1000000 in
theorem digits_any (v : Value) (l : List UInt8) (n width : Nat) (W0 w : World) (hl : l.length ≤ 8) (hn : n < 10000) (hwd : width ≤ 4)
    (hown : w.ownsRow W0.heap.size 5 1 v l.length (u8s l)) (hB : Below W0.heap.size W0 w) :
    Calls Tryd.prog 21 #[v, .int .i64 (n : Int), .int .i64 (width : Int)] w (Owns W0 (l ++ PerP.dgsTo n width width)) := by
  obtain ⟨i0, hi, hz0, hz1, hz2⟩ := info_parts info_u8
  have HO := Lib.hid hown; clear hown
  have HB := Lib.hid hB; clear hB
  go_enter Tryd.func21, Tryd.ntmps21
  go_wp2_with fail
  go_loopw [0, 10] (fun bv iv wr => ∃ (i : Nat), i ≤ width ∧ iv = .int .i64 i ∧ Hid (wr.ownsRow W0.heap.size 5 1 bv (l ++ PerP.dgsTo n width i).length (u8s (l ++ PerP.dgsTo n width i)) ∧ Below W0.heap.size W0 wr)) (fun _ i _ => 10 - (intOf i).toNat)
  case atStart => exact ⟨0, by omega, rfl, Lib.hid ⟨by simpa [PerP.dgsTo] using HO.out, HB.out⟩⟩
  case round =>
    obtain ⟨i, hiw, rfl, hr⟩ := hrel
    obtain ⟨r4, r5⟩ := hr.out
    have hsz := r5.size
    have H5 := Lib.hid r5
    by_cases hlt : i < width
    · obtain ⟨q, hq⟩ : ∃ q : Nat, q = width - 1 - i := ⟨_, rfl⟩
      have hq2 : (width : Int) - 1 - (i : Int) = (q : Int) := by omega
      have hq3 : q ≤ 3 := by omega
      have hlen : (l ++ PerP.dgsTo n width i).length = l.length + i := by rw [List.length_append, PerP.dgsTo_len]
      have hnew : u8s (l ++ PerP.dgsTo n width i) ++ [.int .u8 (48 + ((n / 10 ^ q % 10 : Nat) : Int))] = u8s (l ++ PerP.dgsTo n width (i + 1)) := by
        rw [PerP.dgsTo_succ, ← hq, ← List.append_assoc]; simp only [u8s, List.map_append, List.map_cons, List.map_nil, dig_int]
      have HN := Lib.hid hnew; clear hnew
      have HL := Lib.hid hlen; clear hlen
      have HQ := Lib.hid hq; clear hq
      have H4 := Lib.hid r4
      clear r5 hr r4
      obtain ⟨wo, rfl⟩ : ∃ wo : World, wo = wr := ⟨_, rfl⟩
      go_wp2_with fail
      go_loop [8, 18] (fun mv jv => ∃ (j m : Nat), j ≤ q ∧ jv = .int .i64 j ∧ mv = .int .i64 m ∧ m < 10000 ∧ Hid (m = n / 10 ^ j)) (fun _ j => 10 - (intOf j).toNat)
      case atStart => exact ⟨0, n, by omega, rfl, rfl, hn, Lib.hid (by simp)⟩
      case round =>
        obtain ⟨j, m, hj, rfl, rfl, hm, HM⟩ := hrel
        by_cases hjq : j < q
        · have hst : m / 10 = n / 10 ^ (j + 1) := by rw [HM.out, Nat.pow_succ, Nat.div_div_eq_div_mul]
          have HS := Lib.hid hst; clear hst
          go_wp2_with fail
          go_round
          case rel => exact ⟨j + 1, m / 10, by omega, by go_num, by go_num, by omega, HS⟩
          case measure => simp [intOf]; omega
        · obtain rfl : j = q := by omega
          have hus : u8s (l ++ PerP.dgsTo n width i) ++ [.int .u8 (48 + (m : Int) % 10)] = u8s (l ++ PerP.dgsTo n width (i + 1)) := by
            rw [← HN.out, ← HM.out]; rfl
          have HU := Lib.hid hus; clear hus
          have hln := HL.out
          have HL2 := Lib.hid hln
          have hbd : (l ++ PerP.dgsTo n width i).length ≤ 12 := by rw [HL.out]; omega
          clear HL hln HN HM
          go_wp2_with (first | (at_builtin; refine wpList_append_own _ rfl (.tmp 23) (.tmp 28) 36 rfl W0.heap.size 5 i0 (.int .u8 0) 1 1 Tryd.underlying36 hi hz0 hz1 hz2 rfl (by decide) _ _ _ rfl (H4.out.alloc _) ⟨wo.heap.size, 0, none⟩ 1 1 _ rfl (by rfl) (cell_one_new _ _ _) (by simp [Value.oneCell']) (by unfold maxLen; omega) (by omega) (by simp; omega) ?_; intro v' w1 hown' hgrow _))
          go_roundw
          case rel =>
            refine ⟨i + 1, by omega, by go_num, Lib.hid ⟨?_, ?_⟩⟩
            · rw [← HU.out, show (l ++ PerP.dgsTo n width (i + 1)).length = (l ++ PerP.dgsTo n width i).length + 1 by rw [PerP.dgsTo_succ, ← List.append_assoc, List.length_append]; rfl]; exact hown'
            · exact (H5.out.alloc hsz _).grown hgrow (by simp; omega) (fun j e => (H4.out.lt j e).1)
          case measure => simp [intOf]; omega
    · obtain rfl : i = width := by omega
      have H4 := Lib.hid r4
      clear r5 hr r4
      go_wp2_with fail
      go_ret
      exact ⟨_, rfl, H4.out, H5.out⟩
end Go.Proofs.YtkcdfnngdmnkhaaDoor
