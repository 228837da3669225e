/- royaltylaw16.ExchangeMonotone returns true. -/
import Derived.Test.YtdackmefkccipaaMkQ
namespace Go.Proofs.Ytdackmefkccipaa
open Go Go.RowKit Go.Lib Go.Shelf

theorem store_row_base {w : World} {g : Nat} {B : BaseV} (t : TypeId) (cs : Array Value) (hg : w.heap[g]? = some (.cells cs t (0, 0))) : (w.setRow g B.cells).heap[g]? = some (.cells B.cells t (0, 0)) := setRow_same hg

set_option maxRecDepth 100000 in
set_option maxHeartbeats 4000000 in
theorem mono_yes (X : Nat → Nat → Int) (m : Nat) (v : Value) (n n2 cur p : Int) (w : World) (hm : m ≤ 140737488351232) (hx : XsAt w v m X)
    (a1 : -9223372036854775808 ≤ n) (a2 : n ≤ 9223372036854775807) (b1 : -9223372036854775808 ≤ n2) (b2 : n2 ≤ 9223372036854775807) (c1 : -9223372036854775808 ≤ cur) (c2 : cur ≤ 9223372036854775807) (p1 : -9223372036854775808 ≤ p) (p2 : p ≤ 9223372036854775807) :
    Calls Try.prog 4 #[v, .int .i64 n, .int .i64 n2, .int .i64 cur, .int .i64 p] w fun e w' => e = .returned (.bool true) ∧ Below w.heap.size w w' := by
  have HX := Lib.hid hx
  have HM := Lib.hid hm
  have PC := Lib.hid (fun W => pick_any cur 5 W c1 c2 (by omega) (by omega))
  have PP := Lib.hid (fun W => pick_any p 3 W p1 p2 (by omega) (by omega))
  have PN := Lib.hid (fun W => pick_any n 1000000000000 W a1 a2 (by omega) (by omega))
  have PM := Lib.hid (fun W => pick_any n2 1000000000000 W b1 b2 (by omega) (by omega))
  have ri := pickN_range n 1000000000000 (by omega)
  have rj := pickN_range n2 1000000000000 (by omega)
  obtain ⟨c, hc⟩ : ∃ x, pickN cur 5 = x := ⟨_, rfl⟩
  obtain ⟨q, hq⟩ : ∃ x, pickN p 3 = x := ⟨_, rfl⟩
  obtain ⟨i, hi⟩ : ∃ x, pickN n 1000000000000 = x := ⟨_, rfl⟩
  obtain ⟨j, hj⟩ : ∃ x, pickN n2 1000000000000 = x := ⟨_, rfl⟩
  rw [hc] at PC
  rw [hq] at PP
  rw [hi] at PN ri
  rw [hj] at PM rj
  clear hc hq hi hj hx hm a1 a2 b1 b2 c1 c2 p1 p2
  go_enter Try.func4, Try.ntmps4
  go_wp2_with fail
  refine (sane_yes _).mono ?_
  rintro e w1 ⟨rfl, hb1⟩
  have B1 := Lib.hid hb1
  have HX1 := Lib.hid (HX.out.below hb1)
  clear hb1
  go_wp2_with fail
  refine (make_some X m v w1 HM.out HX1.out).mono ?_
  rintro e w2 ⟨a, b, cc, rfl, hmb, hb⟩
  obtain ⟨R5, R6, R7, hl⟩ := hmb.lists
  have B2 := Lib.hid (B1.out.trans (hb.mono B1.out.size))
  have HL := Lib.hid hl
  clear hmb hb hl
  go_wp2_with (first | ((with_reducible refine store_base (o := ⟨none, .store _ _ _, _, _, _, _⟩) (.tmp 12) (.tmp 26) (bv a b cc) _ ?_ ?_ ?_ ?_ ?_ HL.out.ones ?_); rfl; rfl; rfl; rfl; rfl))
  obtain ⟨W, hW⟩ : ∃ W, w2.alloc (.cells (bv a b cc).cells 26) = W := ⟨_, rfl⟩
  have k0 : W.heap[w2.heap.size]? = some (.cells (bv a b cc).cells 26 (0, 0)) := by rw [← hW]; exact heap_alloc_last w2 _
  have hl : Lists W a b cc R5 R6 R7 := by rw [← hW]; exact HL.out.below ((Below.refl _ _).alloc (Nat.le_refl _) _)
  have B3 : Hid (Below w.heap.size w W) := Lib.hid (by rw [← hW]; exact B2.out.alloc B2.out.size _)
  rw [hW]
  clear hW B2 HL
  have hkey : ∀ Wc, Below W.heap.size W Wc → Wc.heap[w2.heap.size]? = some (.cells (bv a b cc).cells 26 (0, 0)) ∧ Lists Wc a b cc R5 R6 R7 := fun Wc h => ⟨(h.block _ (Array.getElem?_eq_some_iff.1 k0).1).trans k0, hl.below h⟩
  have HKEY := Lib.hid hkey
  have CV := Lib.hid (fun n' Wc (h : Below W.heap.size W Wc) (hn : n' ≤ 9223372036854775807) => convert_any (bv a b cc) n' c q R7 Wc (by have := hl.len; omega) (hkey Wc h).2.f7 hl.ok7 hn)
  have LAW := mono_law hl.m7 c q i j ri.1 ri.2 rj.1 rj.2
  clear hkey hl k0
  refine (PC.out _).mono ?_
  rintro e w' ⟨rfl, rfl⟩
  go_wp2_with fail
  refine (PP.out _).mono ?_
  rintro e w' ⟨rfl, rfl⟩
  go_wp2_with fail
  refine (PN.out _).mono ?_
  rintro e w' ⟨rfl, rfl⟩
  go_wp2_with fail
  refine (PM.out _).mono ?_
  rintro e w' ⟨rfl, rfl⟩
  have K1 := Lib.hid (HKEY.out W (Below.refl _ _)).1
  rcases LAW with ⟨l1, l2, l3⟩ | ⟨u, y, d, l1, l2, l3, l4, l5, l6, u0, u1, y0, y1⟩
  · have L1 := Lib.hid l1
    have L2 := Lib.hid l2
    have L3 := Lib.hid l3
    clear l1 l2 l3
    go_wp2_with (first | ((with_reducible refine load_base (o := ⟨some 36, _, _, _, _, _⟩) (.tmp 12) w2.heap.size (bv a b cc) K1.out ?_ ?_ ?_ ?_); rfl; rfl; rfl))
    have C := CV.out i W (Below.refl W.heap.size W) (by omega)
    rw [L1.out] at C
    refine C.mono ?_
    clear C
    rintro e w4 ⟨rfl, hb⟩
    have B4 := Lib.hid ((Below.refl W.heap.size W).trans (hb.mono (Below.refl W.heap.size W).size))
    have K4 := Lib.hid (HKEY.out w4 B4.out).1
    clear hb
    go_wp2_with (first | ((with_reducible refine load_base (o := ⟨some 44, _, _, _, _, _⟩) (.tmp 12) w2.heap.size (bv a b cc) K4.out ?_ ?_ ?_ ?_); rfl; rfl; rfl))
    have C := CV.out j w4 (B4.out) (by omega)
    rw [L2.out] at C
    refine C.mono ?_
    clear C
    rintro e w5 ⟨rfl, hb⟩
    have B5 := Lib.hid ((B4.out).trans (hb.mono (B4.out).size))
    have K5 := Lib.hid (HKEY.out w5 B5.out).1
    clear hb
    go_wp2_with (first | ((with_reducible refine load_base (o := ⟨some 52, _, _, _, _, _⟩) (.tmp 12) w2.heap.size (bv a b cc) K5.out ?_ ?_ ?_ ?_); rfl; rfl; rfl))
    have C := CV.out (i + j) w5 (B5.out) (by omega)
    rw [L3.out] at C
    refine C.mono ?_
    clear C
    rintro e w6 ⟨rfl, hb⟩
    have B6 := Lib.hid ((B5.out).trans (hb.mono (B5.out).size))
    have K6 := Lib.hid (HKEY.out w6 B6.out).1
    clear hb
    go_wp2_with fail
    go_ret
    exact ⟨rfl, B3.out.trans (B6.out.mono B3.out.size)⟩
  · have L1 := Lib.hid l1
    have L2 := Lib.hid l2
    have L3 := Lib.hid l3
    clear l1 l2 l3
    have hd : u + y + d - u - y = d := by omega
    rcases l6 with rfl | rfl
    all_goals
      go_wp2_with (first | ((with_reducible refine load_base (o := ⟨some 36, _, _, _, _, _⟩) (.tmp 12) w2.heap.size (bv a b cc) K1.out ?_ ?_ ?_ ?_); rfl; rfl; rfl))
      have C := CV.out i W (Below.refl W.heap.size W) (by omega)
      rw [L1.out] at C
      refine C.mono ?_
      clear C
      rintro e w4 ⟨rfl, hb⟩
      have B4 := Lib.hid ((Below.refl W.heap.size W).trans (hb.mono (Below.refl W.heap.size W).size))
      have K4 := Lib.hid (HKEY.out w4 B4.out).1
      clear hb
      go_wp2_with (first | ((with_reducible refine load_base (o := ⟨some 44, _, _, _, _, _⟩) (.tmp 12) w2.heap.size (bv a b cc) K4.out ?_ ?_ ?_ ?_); rfl; rfl; rfl))
      have C := CV.out j w4 (B4.out) (by omega)
      rw [L2.out] at C
      refine C.mono ?_
      clear C
      rintro e w5 ⟨rfl, hb⟩
      have B5 := Lib.hid ((B4.out).trans (hb.mono (B4.out).size))
      have K5 := Lib.hid (HKEY.out w5 B5.out).1
      clear hb
      go_wp2_with (first | ((with_reducible refine load_base (o := ⟨some 52, _, _, _, _, _⟩) (.tmp 12) w2.heap.size (bv a b cc) K5.out ?_ ?_ ?_ ?_); rfl; rfl; rfl))
      have C := CV.out (i + j) w5 (B5.out) (by omega)
      rw [L3.out] at C
      refine C.mono ?_
      clear C
      rintro e w6 ⟨rfl, hb⟩
      have B6 := Lib.hid ((B5.out).trans (hb.mono (B5.out).size))
      have K6 := Lib.hid (HKEY.out w6 B6.out).1
      clear hb
      go_wp2_with fail
      all_goals
        go_ret
        exact ⟨by first | rfl | (simp; omega), B3.out.trans (B6.out.mono B3.out.size)⟩
end Go.Proofs.Ytdackmefkccipaa
