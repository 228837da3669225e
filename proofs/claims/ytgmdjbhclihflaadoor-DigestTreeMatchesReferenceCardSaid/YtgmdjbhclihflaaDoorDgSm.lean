/- DigestSumMatchesReference. -/
import Derived.Test.YtgmdjbhclihflaaDoorDgRd
import Derived.Test.YtgmdjbhclihflaaDoorDgLd
namespace Go.Proofs.YtgmdjbhclihflaaDoor
open Go Go.RowKit Go.Lib Go.Shelf
attribute [local go_sem] Oper.semAt_some

set_option maxRecDepth 100000 in
set_option maxHeartbeats 4000000 in
theorem rleaf_any (s : List UInt8) (w : World) (hs : s.length ≤ 80000) :
    Calls Tryd.prog 31 #[.string ⟨s.toArray⟩] w fun e w' => e = .returned (.string ⟨(leafB s).toArray⟩) ∧ Below w.heap.size w w' := by
  have SM := Lib.hid (rsum_any (0 :: s) w (by simp; omega))
  rw [show shaB (0 :: s) = leafB s from rfl] at SM
  obtain ⟨R, hR⟩ : ∃ z, leafB s = z := ⟨_, rfl⟩
  rw [hR] at SM ⊢
  have happ := append_list [0] s
  have hcat : ¬ 9223372036854775807 < 1 + s.length := by omega
  clear hR
  go_enter Tryd.func31, Tryd.ntmps31
  go_wp2_with fail
  refine SM.out.mono ?_
  rintro e w' ⟨rfl, hb⟩
  have HB := Lib.hid hb
  clear hb
  go_wp2_with fail
  go_ret
  exact ⟨rfl, HB.out⟩
set_option maxRecDepth 100000 in
set_option maxHeartbeats 4000000 in
theorem rnode_any (a b : List UInt8) (w : World) (ha : a.length ≤ 40000) (hb : b.length ≤ 40000) :
    Calls Tryd.prog 32 #[.string ⟨a.toArray⟩, .string ⟨b.toArray⟩] w fun e w' => e = .returned (.string ⟨(nodeB a b).toArray⟩) ∧ Below w.heap.size w w' := by
  have SM := Lib.hid (rsum_any (1 :: (a ++ b)) w (by simp; omega))
  rw [show shaB (1 :: (a ++ b)) = nodeB a b from rfl] at SM
  obtain ⟨R, hR⟩ : ∃ z, nodeB a b = z := ⟨_, rfl⟩
  rw [hR] at SM ⊢
  have happ1 := append_list [1] a
  have happ2 := append_list (1 :: a) b
  have hcat : ¬ 9223372036854775807 < 1 + a.length := by omega
  have hcat2 : ¬ 9223372036854775807 < a.length + 1 + b.length := by omega
  clear hR
  go_enter Tryd.func32, Tryd.ntmps32
  go_wp2_with fail
  refine SM.out.mono ?_
  rintro e w' ⟨rfl, hb⟩
  have HB := Lib.hid hb
  clear hb
  go_wp2_with fail
  go_ret
  exact ⟨rfl, HB.out⟩
set_option maxRecDepth 100000 in
set_option maxHeartbeats 4000000 in
theorem rchain_any (a b : List UInt8) (w : World) (ha : a.length ≤ 40000) (hb : b.length ≤ 40000) :
    Calls Tryd.prog 34 #[.string ⟨a.toArray⟩, .string ⟨b.toArray⟩] w fun e w' => e = .returned (.string ⟨(chainB a b).toArray⟩) ∧ Below w.heap.size w w' := by
  have SM := Lib.hid (rsum_any (2 :: (a ++ b)) w (by simp; omega))
  rw [show shaB (2 :: (a ++ b)) = chainB a b from rfl] at SM
  obtain ⟨R, hR⟩ : ∃ z, chainB a b = z := ⟨_, rfl⟩
  rw [hR] at SM ⊢
  have happ1 := append_list [2] a
  have happ2 := append_list (2 :: a) b
  have hcat : ¬ 9223372036854775807 < 1 + a.length := by omega
  have hcat2 : ¬ 9223372036854775807 < a.length + 1 + b.length := by omega
  clear hR
  go_enter Tryd.func34, Tryd.ntmps34
  go_wp2_with fail
  refine SM.out.mono ?_
  rintro e w' ⟨rfl, hb⟩
  have HB := Lib.hid hb
  clear hb
  go_wp2_with fail
  go_ret
  exact ⟨rfl, HB.out⟩
set_option maxRecDepth 100000 in
set_option maxHeartbeats 4000000 in
theorem summatch_yes (s t : List UInt8) (w : World) (hK : KAt w) :
    Calls Tryd.prog 9 #[.string ⟨s.toArray⟩, .string ⟨t.toArray⟩] w fun e w' => e = .returned (.bool true) ∧ Below w.heap.size w w' := by
  have HK : Hid (∀ W, Below w.heap.size w W → KAt W) := Lib.hid (fun W hb => hK.below hb)
  have SN := Lib.hid (sane_any w hK)
  clear hK
  obtain ⟨m1, r1, hm11, hm12, hr1, hex1, hrl1, hmin1⟩ := cut_ex ⟨s.toArray⟩ 500 500 rfl
  obtain ⟨y, hy⟩ : ∃ y, s.take 500 = y := ⟨_, rfl⟩
  obtain rfl : r1 = ⟨y.toArray⟩ := by rw [← hy, ← hrl1]
  have hm13 : m1 ≤ s.length := hm12
  have hmin1' : min ((s.length : Nat) : Int) 500 = (m1 : Int) := by
    have h : (if (500 : Int) < ((s.length : Nat) : Int) then (500 : Int) else ((s.length : Nat) : Int)) = (m1 : Int) := hmin1
    rw [← h]
    split <;> omega
  obtain ⟨m2, r2, hm21, hm22, hr2, hex2, hrl2, hmin2⟩ := cut_ex ⟨t.toArray⟩ 500 500 rfl
  obtain ⟨z, hz⟩ : ∃ y, t.take 500 = y := ⟨_, rfl⟩
  obtain rfl : r2 = ⟨z.toArray⟩ := by rw [← hz, ← hrl2]
  have hm23 : m2 ≤ t.length := hm22
  have hmin2' : min ((t.length : Nat) : Int) 500 = (m2 : Int) := by
    have h : (if (500 : Int) < ((t.length : Nat) : Int) then (500 : Int) else ((t.length : Nat) : Int)) = (m2 : Int) := hmin2
    rw [← h]
    split <;> omega
  have hyl : y.length ≤ 500 := by rw [← hy, List.length_take]; omega
  have hzl : z.length ≤ 500 := by rw [← hz, List.length_take]; omega
  clear hrl1 hrl2 hr1 hr2 hy hz hm11 hm12 hm21 hm22
  obtain ⟨B, hB⟩ : ∃ B, w.heap.size = B := ⟨_, rfl⟩
  have up : ∀ {F : Nat} {args : Array Value} {x : Value} {W : World}, Below w.heap.size w W → (Calls Tryd.prog F args W fun e w' => e = .returned x ∧ Below W.heap.size W w') → Calls Tryd.prog F args W fun e w' => e = .returned x ∧ Below w.heap.size w w' := fun hb h => h.mono (fun e w' hh => ⟨hh.1, hb.trans (hh.2.mono hb.size)⟩)
  have S1 := Lib.hid (fun W (hb : Below w.heap.size w W) => up hb (sum_any y W (by omega) (HK.out W hb)))
  have S2 := Lib.hid (fun W (hb : Below w.heap.size w W) => up hb (rsum_any y W (by omega)))
  have L1 := Lib.hid (fun W (hb : Below w.heap.size w W) => up hb (leaf_any z W (by omega) (HK.out W hb)))
  have L2 := Lib.hid (fun W (hb : Below w.heap.size w W) => up hb (rleaf_any z W (by omega)))
  have N1 := Lib.hid (fun W (hb : Below w.heap.size w W) => up hb (node_any y z W (by omega) (by omega) (HK.out W hb)))
  have N2 := Lib.hid (fun W (hb : Below w.heap.size w W) => up hb (rnode_any y z W (by omega) (by omega)))
  have C1 := Lib.hid (fun W (hb : Below w.heap.size w W) => up hb (chain_any z y W (by omega) (by omega) (HK.out W hb)))
  have C2 := Lib.hid (fun W (hb : Below w.heap.size w W) => up hb (rchain_any z y W (by omega) (by omega)))
  rw [show shaB (0 :: z) = leafB z from rfl] at L1
  rw [show shaB (1 :: (y ++ z)) = nodeB y z from rfl] at N1
  rw [show shaB (2 :: (z ++ y)) = chainB z y from rfl] at C1
  generalize shaB y = q1 at *
  generalize leafB z = q2 at *
  generalize nodeB y z = q3 at *
  generalize chainB z y = q4 at *
  clear up hB
  go_enter Tryd.func9, Tryd.ntmps9
  go_wp2_with fail
  refine SN.out.mono ?_
  rintro e W1 ⟨rfl, hb⟩
  have H1 := Lib.hid hb
  clear hb
  go_wp2_with fail
  refine (S1.out W1 H1.out).mono ?_
  rintro e W2 ⟨rfl, hb⟩
  have H2 := Lib.hid hb
  clear hb
  go_wp2_with fail
  refine (S2.out W2 H2.out).mono ?_
  rintro e W3 ⟨rfl, hb⟩
  have H3 := Lib.hid hb
  clear hb
  go_wp2_with fail
  refine (L1.out W3 H3.out).mono ?_
  rintro e W4 ⟨rfl, hb⟩
  have H4 := Lib.hid hb
  clear hb
  go_wp2_with fail
  refine (L2.out W4 H4.out).mono ?_
  rintro e W5 ⟨rfl, hb⟩
  have H5 := Lib.hid hb
  clear hb
  go_wp2_with fail
  refine (N1.out W5 H5.out).mono ?_
  rintro e W6 ⟨rfl, hb⟩
  have H6 := Lib.hid hb
  clear hb
  go_wp2_with fail
  refine (N2.out W6 H6.out).mono ?_
  rintro e W7 ⟨rfl, hb⟩
  have H7 := Lib.hid hb
  clear hb
  go_wp2_with fail
  refine (C1.out W7 H7.out).mono ?_
  rintro e W8 ⟨rfl, hb⟩
  have H8 := Lib.hid hb
  clear hb
  go_wp2_with fail
  refine (C2.out W8 H8.out).mono ?_
  rintro e W9 ⟨rfl, hb⟩
  have H9 := Lib.hid hb
  clear hb
  go_wp2_with fail
  go_ret
  exact ⟨rfl, H9.out⟩
end Go.Proofs.YtgmdjbhclihflaaDoor
