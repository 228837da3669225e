/- DigestBinding. -/
import Derived.Test.YtgmdjbhclihflaaDoorDgWy
namespace Go.Proofs.YtgmdjbhclihflaaDoor
open Go Go.RowKit Go.Lib Go.Shelf
attribute [local go_sem] Oper.semAt_some

theorem verify_all (root s : List UInt8) (n i : Int) (A : Option Addr) (q c : Nat) (pr : List (List UInt8)) (w : World) (hn : n ≤ 9223372036854775807) (hv : SlS w (.slice A q c) pr) (hq : pr.length = q) (hqc : q ≤ c) (hbig : q ≤ 5000) (hs : s.length ≤ 10000) (hK : KAt w) :
    Calls Tryd.prog 21 #[.string ⟨root.toArray⟩, .int .i64 n, .int .i64 i, .string ⟨s.toArray⟩, .slice A q c] w fun e w' => e = .returned (.bool (verifyB root n i s pr)) ∧ Below w.heap.size w w' := by
  unfold verifyB
  by_cases h : 0 ≤ i ∧ i < n
  · obtain ⟨i0, rfl⟩ : ∃ i0 : Nat, i = (i0 : Int) := ⟨i.toNat, by omega⟩
    obtain ⟨n0, rfl⟩ : ∃ n0 : Nat, n = (n0 : Int) := ⟨n.toNat, by omega⟩
    rw [decide_eq_true h.1, decide_eq_true h.2, Bool.true_and, Bool.true_and, Int.toNat_natCast, Int.toNat_natCast]
    cases ha : allD pr with
    | true =>
      rw [Bool.true_and]
      exact verify_in root s n0 i0 A q c pr w (by omega) (by omega) hv hq hqc hbig ha hs hK
    | false =>
      rw [Bool.false_and]
      refine (verify_odd root s n0 i0 (.slice A q c) pr w h.1 h.2 hv (by omega) ha).mono ?_
      rintro e w' ⟨rfl, rfl⟩
      exact ⟨rfl, Below.refl _ _⟩
  · refine (verify_out root s n i (.slice A q c) w h).mono ?_
    rintro e w' ⟨rfl, rfl⟩
    refine ⟨?_, Below.refl _ _⟩
    by_cases h1 : 0 ≤ i
    · rw [decide_eq_true h1, decide_eq_false (show ¬ i < n by omega)]; rfl
    · rw [decide_eq_false h1]; rfl
theorem verifyB_true {root s : List UInt8} {n i : Int} {pr : List (List UInt8)} (h : verifyB root n i s pr = true) : 0 ≤ i ∧ i < n ∧ (∀ x ∈ pr, x.length = 32) ∧ verV n.toNat n.toNat i.toNat s pr.reverse = some root := by
  unfold verifyB at h
  simp only [Bool.and_eq_true, decide_eq_true_eq, beq_iff_eq] at h
  exact ⟨h.1, h.2.1, allD_iff.1 h.2.2.1, h.2.2.2⟩
set_option maxRecDepth 100000 in
set_option maxHeartbeats 4000000 in
theorem binding_yes (root : List UInt8) (n i : Int) (s : List UInt8) (vp : Value) (ps : List (List UInt8)) (t : List UInt8) (vq : Value) (qs : List (List UInt8)) (w : World) (hn : n ≤ 9223372036854775807) (hp : SlS w vp ps) (hq : SlS w vq qs) (hpn : ps.length ≤ 9223372036854775807) (hqn : qs.length ≤ 9223372036854775807) (hK : KAt w) :
    Calls Tryd.prog 6 #[.string ⟨root.toArray⟩, .int .i64 n, .int .i64 i, .string ⟨s.toArray⟩, vp, .string ⟨t.toArray⟩, vq] w fun e w' => e = .returned (.bool true) ∧ Below w.heap.size w w' := by
  have HK : Hid (∀ W, Below w.heap.size w W → KAt W) := Lib.hid (fun W hb => hK.below hb)
  have SN := Lib.hid (sane_any w hK)
  have FP := Lib.hid (fun W (hb : Below w.heap.size w W) => few_any vp ps 70 W (hp.below hb) hpn (by omega))
  have FQ := Lib.hid (fun W (hb : Below w.heap.size w W) => few_any vq qs 70 W (hq.below hb) hqn (by omega))
  clear hK hp hq
  obtain ⟨lp, hlp⟩ : ∃ l, (ps.take 70).map (·.take 60) = l := ⟨_, rfl⟩
  obtain ⟨lq, hlq⟩ : ∃ l, (qs.take 70).map (·.take 60) = l := ⟨_, rfl⟩
  rw [hlp] at FP
  rw [hlq] at FQ
  have hl1 : lp.length ≤ 70 := by rw [← hlp, List.length_map, List.length_take]; omega
  have hl2 : lq.length ≤ 70 := by rw [← hlq, List.length_map, List.length_take]; omega
  have HX1 : Hid (∀ x ∈ lp, x.length ≤ 60) := Lib.hid (by
    rw [← hlp]; intro x hx; obtain ⟨y, _, rfl⟩ := List.mem_map.1 hx; rw [List.length_take]; omega)
  have HX2 : Hid (∀ x ∈ lq, x.length ≤ 60) := Lib.hid (by
    rw [← hlq]; intro x hx; obtain ⟨y, _, rfl⟩ := List.mem_map.1 hx; rw [List.length_take]; omega)
  clear hlp hlq
  obtain ⟨m1, r1, hm11, hm12, hr1, hex1, hrl1, hmin1⟩ := cut_ex ⟨s.toArray⟩ 60 60 rfl
  obtain ⟨y, hy⟩ : ∃ y, s.take 60 = y := ⟨_, rfl⟩
  obtain rfl : r1 = ⟨y.toArray⟩ := by rw [← hy, ← hrl1]
  have hm13 : m1 ≤ s.length := hm12
  have hmin1' : min ((s.length : Nat) : Int) 60 = (m1 : Int) := by
    have h : (if (60 : Int) < ((s.length : Nat) : Int) then (60 : Int) else ((s.length : Nat) : Int)) = (m1 : Int) := hmin1
    rw [← h]
    split <;> omega
  obtain ⟨m2, r2, hm21, hm22, hr2, hex2, hrl2, hmin2⟩ := cut_ex ⟨t.toArray⟩ 60 60 rfl
  obtain ⟨z, hz⟩ : ∃ y, t.take 60 = y := ⟨_, rfl⟩
  obtain rfl : r2 = ⟨z.toArray⟩ := by rw [← hz, ← hrl2]
  have hm23 : m2 ≤ t.length := hm22
  have hmin2' : min ((t.length : Nat) : Int) 60 = (m2 : Int) := by
    have h : (if (60 : Int) < ((t.length : Nat) : Int) then (60 : Int) else ((t.length : Nat) : Int)) = (m2 : Int) := hmin2
    rw [← h]
    split <;> omega
  have hyl : y.length ≤ 60 := by rw [← hy, List.length_take]; omega
  have hzl : z.length ≤ 60 := by rw [← hz, List.length_take]; omega
  clear hrl1 hrl2 hr1 hr2 hy hz hm11 hm12 hm21 hm22
  obtain ⟨n1, hn1⟩ : ∃ n, lp.length = n := ⟨_, rfl⟩
  obtain ⟨n2, hn2⟩ : ∃ n, lq.length = n := ⟨_, rfl⟩
  rw [hn1] at hl1
  rw [hn2] at hl2
  have HN := Lib.hid (And.intro hn1 hn2)
  clear hn1 hn2
  obtain ⟨b1, hb1⟩ : ∃ b, verifyB root n i y lp = b := ⟨_, rfl⟩
  obtain ⟨b2, hb2⟩ : ∃ b, verifyB root n i z lq = b := ⟨_, rfl⟩
  have HB := Lib.hid (And.intro hb1 hb2)
  have V1 : Hid (∀ W A c, Below w.heap.size w W → SlS W (.slice A n1 c) lp → n1 ≤ c → Calls Tryd.prog 21 #[.string ⟨root.toArray⟩, .int .i64 n, .int .i64 i, .string ⟨y.toArray⟩, .slice A n1 c] W fun e w' => e = .returned (.bool b1) ∧ Below W.heap.size W w') := Lib.hid (fun W A c hb hs hc => by
    rw [← hb1]; exact verify_all root y n i A n1 c lp W hn hs HN.out.1 hc (by omega) (by omega) (HK.out W hb))
  have V2 : Hid (∀ W A c, Below w.heap.size w W → SlS W (.slice A n2 c) lq → n2 ≤ c → Calls Tryd.prog 21 #[.string ⟨root.toArray⟩, .int .i64 n, .int .i64 i, .string ⟨z.toArray⟩, .slice A n2 c] W fun e w' => e = .returned (.bool b2) ∧ Below W.heap.size W w') := Lib.hid (fun W A c hb hs hc => by
    rw [← hb2]; exact verify_all root z n i A n2 c lq W hn hs HN.out.2 hc (by omega) (by omega) (HK.out W hb))
  clear hb1 hb2
  go_enter Tryd.func6, Tryd.ntmps6
  go_wp2_with fail
  refine SN.out.mono ?_
  rintro e W1 ⟨rfl, hb1⟩
  have H1 := Lib.hid hb1
  clear hb1
  go_wp2_with fail
  refine (FP.out W1 H1.out).mono ?_
  rintro e W2 ⟨v2, rfl, ho2, hb2⟩
  obtain ⟨A2, c2, hv2, hc2⟩ := ho2.slice
  rw [HN.out.1] at hv2 hc2
  subst hv2
  have H2 := Lib.hid (And.intro ho2.sls (And.intro (H1.out.trans (hb2.mono H1.out.size)) hc2))
  clear ho2 hb2 hc2
  go_wp2_with fail
  refine (FQ.out W2 H2.out.2.1).mono ?_
  rintro e W3 ⟨v3, rfl, ho3, hb3⟩
  obtain ⟨A3, c3, hv3, hc3⟩ := ho3.slice
  rw [HN.out.2] at hv3 hc3
  subst hv3
  have H3 : Hid (∀ W, Below W3.heap.size W3 W → SlS W (.slice A2 n1 c2) lp ∧ SlS W (.slice A3 n2 c3) lq ∧ Below w.heap.size w W) := Lib.hid (fun W hb =>
    ⟨(H2.out.1.below hb3).below hb, ho3.sls.below hb, (H2.out.2.1.trans (hb3.mono H2.out.2.1.size)).trans (hb.mono (Nat.le_trans H2.out.2.1.size hb3.size))⟩)
  have HC3 := Lib.hid hc3
  clear ho3 hb3 hc3
  go_wp2_with fail
  have h3 := H3.out W3 (Below.refl _ _)
  refine (V1.out W3 A2 c2 h3.2.2 h3.1 H2.out.2.2).mono ?_
  rintro e W4 ⟨rfl, hb4⟩
  have H4 := Lib.hid hb4
  clear hb4 h3
  go_wp2_with fail
  have h4 := H3.out W4 H4.out
  refine (V2.out W4 A3 c3 h4.2.2 h4.2.1 HC3.out).mono ?_
  rintro e W5 ⟨rfl, hb5⟩
  have H5 := Lib.hid (H4.out.trans (hb5.mono H4.out.size))
  clear hb5 h4
  cases b1 with
  | false =>
    go_wp2_with fail
    go_ret
    exact ⟨rfl, (H3.out _ H5.out).2.2⟩
  | true =>
    cases b2 with
    | false =>
      go_wp2_with fail
      go_ret
      exact ⟨rfl, (H3.out _ H5.out).2.2⟩
    | true =>
      by_cases hyz : y = z
      · subst hyz
        go_wp2_with fail
        go_ret
        exact ⟨rfl, (H3.out _ H5.out).2.2⟩
      · have hyzb : (y == z) = false := beq_eq_false_iff_ne.2 hyz
        obtain ⟨k1, k2, kp, k3⟩ := verifyB_true HB.out.1
        obtain ⟨_, _, kq, k4⟩ := verifyB_true HB.out.2
        obtain ⟨i0, rfl⟩ : ∃ i0 : Nat, i = (i0 : Int) := ⟨i.toNat, by omega⟩
        obtain ⟨n0, rfl⟩ : ∃ n0 : Nat, n = (n0 : Int) := ⟨n.toNat, by omega⟩
        rw [Int.toNat_natCast, Int.toNat_natCast] at k3 k4
        have hcol := binding n0 n0 i0 y z lp.reverse lq.reverse root k3 k4 hyz (fun x hx => kp x (List.mem_reverse.1 hx)) (fun x hx => kq x (List.mem_reverse.1 hx))
        have hz1 := wayL_small lp.reverse n0 i0 y 60 hyl (fun x hx => HX1.out x (List.mem_reverse.1 hx))
        have hz2 := wayL_small lq.reverse n0 i0 z 60 hzl (fun x hx => HX2.out x (List.mem_reverse.1 hx))
        have hc1 := wayL_cnt lp.reverse n0 i0 y
        have hc2 := wayL_cnt lq.reverse n0 i0 z
        rw [List.length_reverse, HN.out.1] at hc1
        rw [List.length_reverse, HN.out.2] at hc2
        have h5 := H3.out W5 H5.out
        have WA := Lib.hid (way_any n1 n0 i0 y A2 c2 lp W5 h5.1 HN.out.1 H2.out.2.2 (by omega) (by omega) (by omega) (by omega) (fun x hx => by have := HX1.out x hx; omega) (HK.out W5 h5.2.2))
        have WB : Hid (∀ W, Below W3.heap.size W3 W → Calls Tryd.prog 23 #[.int .i64 n0, .int .i64 i0, .string ⟨z.toArray⟩, .slice A3 n2 c3] W fun e w' => ∃ v, e = .returned (.tuple #[v, .string ⟨(wayL lq.reverse n0 i0 z).2.toArray⟩]) ∧ SlS w' v (wayL lq.reverse n0 i0 z).1 ∧ Below W.heap.size W w') := Lib.hid (fun W hb => by
          have h := H3.out W hb
          exact way_any n2 n0 i0 z A3 c3 lq W h.2.1 HN.out.2 HC3.out (by omega) (by omega) (by omega) (by omega) (fun x hx => by have := HX2.out x hx; omega) (HK.out W h.2.2))
        obtain ⟨La, hLa⟩ : ∃ z, (wayL lp.reverse n0 i0 y).1 = z := ⟨_, rfl⟩
        obtain ⟨Ra, hRa⟩ : ∃ z, (wayL lp.reverse n0 i0 y).2 = z := ⟨_, rfl⟩
        obtain ⟨Lb, hLb⟩ : ∃ u, (wayL lq.reverse n0 i0 z).1 = u := ⟨_, rfl⟩
        obtain ⟨Rb, hRb⟩ : ∃ u, (wayL lq.reverse n0 i0 z).2 = u := ⟨_, rfl⟩
        rw [hLa, hRa] at WA
        rw [hLb, hRb] at WB
        rw [hLa] at hz1 hc1 hcol
        rw [hLb] at hz2 hc2 hcol
        have HZ := Lib.hid (And.intro hz1 (And.intro hz2 (And.intro hc1 (And.intro hc2 hcol))))
        clear hLa hRa hLb hRb hz1 hz2 hc1 hc2 hcol h5 k3 k4 kp kq V1 V2 HB FP FQ SN
        go_wp2_with fail
        refine WA.out.mono ?_
        rintro e W6 ⟨va, rfl, hsa, hb6⟩
        have H6 := Lib.hid (And.intro hsa (H5.out.trans (hb6.mono H5.out.size)))
        clear hsa hb6
        go_wp2_with fail
        refine (WB.out W6 H6.out.2).mono ?_
        rintro e W7 ⟨vb, rfl, hsb, hb7⟩
        have H7 := Lib.hid (And.intro (H6.out.1.below hb7) (And.intro hsb (H6.out.2.trans (hb7.mono H6.out.2.size))))
        clear hsb hb7
        have CO := Lib.hid (collide_any va vb La Lb W7 H7.out.1 H7.out.2.1 (fun x hx => by have := HZ.out.1 x hx; omega) (fun x hx => by have := HZ.out.2.1 x hx; omega) (by have := HZ.out.2.2.1; omega) (by have := HZ.out.2.2.2.1; omega) (HK.out W7 (H3.out W7 H7.out.2.2).2.2))
        rw [HZ.out.2.2.2.2] at CO
        go_wp2_with fail
        refine CO.out.mono ?_
        rintro e W8 ⟨rfl, hb8⟩
        have H8 := Lib.hid (H7.out.2.2.trans (hb8.mono H7.out.2.2.size))
        clear hb8
        go_wp2_with fail
        go_ret
        exact ⟨rfl, (H3.out _ H8.out).2.2⟩
end Go.Proofs.YtgmdjbhclihflaaDoor
