/- DigestExtensionBinding. -/
import Derived.Test.YtgmdjbhclihflaaDoorDgSi
import Derived.Test.YtgmdjbhclihflaaDoorDgBi
namespace Go.Proofs.YtgmdjbhclihflaaDoor
open Go Go.RowKit Go.Lib Go.Shelf
attribute [local go_sem] Oper.semAt_some

/-- what VerifyExtension accepts -/
def extOk (old root : List UInt8) (m n : Int) (pr : List (List UInt8)) : Prop :=
  0 ≤ m ∧ m ≤ n ∧ (m = 0 → old = shaB []) ∧ (m ≠ 0 → m = n → old = root) ∧ (1 ≤ m → m < n → old.length = 32 ∧ (∀ x ∈ pr, x.length = 32) ∧ bothV n.toNat m.toNat n.toNat old pr.reverse true = some (old, root))
theorem vext_all (old root : List UInt8) (m n : Int) (pr : List (List UInt8)) (hn : n ≤ 9223372036854775807) : ∃ b : Bool, (b = true → extOk old root m n pr) ∧ ∀ (A : Option Addr) (q c : Nat) (w : World), SlS w (.slice A q c) pr → pr.length = q → q ≤ c → q ≤ 5000 → KAt w →
    Calls Tryd.prog 22 #[.string ⟨old.toArray⟩, .int .i64 m, .string ⟨root.toArray⟩, .int .i64 n, .slice A q c] w fun e w' => e = .returned (.bool b) ∧ Below w.heap.size w w' := by
  by_cases h : 0 ≤ m ∧ m ≤ n
  · obtain ⟨m0, rfl⟩ : ∃ i0 : Nat, m = (i0 : Int) := ⟨m.toNat, by omega⟩
    obtain ⟨n0, rfl⟩ : ∃ n0 : Nat, n = (n0 : Int) := ⟨n.toNat, by omega⟩
    cases ha : (allD pr && ((old.length == 32) && (root.length == 32))) with
    | false =>
      refine ⟨false, (fun e => by cases e), fun A q c w hv hq hc hb hK => ?_⟩
      refine (vext_odd old root m0 n0 (.slice A q c) pr w h.1 h.2 hv (by omega) ha).mono ?_
      rintro e w' ⟨rfl, rfl⟩
      exact ⟨rfl, Below.refl _ _⟩
    | true =>
      simp only [Bool.and_eq_true, beq_iff_eq] at ha
      obtain ⟨ha, hol, hrl⟩ := ha
      by_cases h0 : m0 = 0
      · subst h0
        refine ⟨_, ?_, fun A q c w hv hq hc hb hK => vext_zero old root n0 A q c pr w hv hq hb ha hol hrl hK⟩
        intro e
        simp only [Bool.and_eq_true, beq_iff_eq] at e
        exact ⟨by omega, by omega, fun _ => e.2, fun h => absurd rfl h, fun h => by omega⟩
      · by_cases hmn : m0 = n0
        · subst hmn
          refine ⟨decide (pr = []) && (old == root), ?_, fun A q c w hv hq hc hb hK => ?_⟩
          · intro e
            simp only [Bool.and_eq_true, beq_iff_eq] at e
            exact ⟨by omega, by omega, fun h => absurd (by omega) h0, fun _ _ => e.2, fun h1 h2 => by omega⟩
          · refine (vext_eq old root m0 (by omega) A q c pr w hv hq hb ha hol hrl).mono ?_
            rintro e w' ⟨rfl, rfl⟩
            exact ⟨rfl, Below.refl _ _⟩
        · refine ⟨_, ?_, fun A q c w hv hq hc hb hK => vext_in old root m0 n0 (by omega) (by omega) (by omega) A q c pr w hv hq hc hb ha hol hrl hK⟩
          intro e
          rw [beq_iff_eq] at e
          exact ⟨by omega, by omega, fun h => absurd (by omega) h0, fun _ h => absurd (by omega) hmn, fun _ _ => ⟨hol, allD_iff.1 ha, by rw [Int.toNat_natCast, Int.toNat_natCast]; exact e⟩⟩
  · refine ⟨false, (fun e => by cases e), fun A q c w hv hq hc hb hK => ?_⟩
    refine (vext_out old root m n (.slice A q c) w h).mono ?_
    rintro e w' ⟨rfl, rfl⟩
    exact ⟨rfl, Below.refl _ _⟩
set_option maxRecDepth 100000 in
set_option maxHeartbeats 4000000 in
theorem ebinding_yes (y : List UInt8) (vp : Value) (ps : List (List UInt8)) (z : List UInt8) (vq : Value) (qs : List (List UInt8)) (m : Int) (root : List UInt8) (n : Int) (w : World) (hn : n ≤ 9223372036854775807) (hp : SlS w vp ps) (hq : SlS w vq qs) (hpn : ps.length ≤ 9223372036854775807) (hqn : qs.length ≤ 9223372036854775807) (hK : KAt w) :
    Calls Tryd.prog 7 #[.string ⟨y.toArray⟩, vp, .string ⟨z.toArray⟩, vq, .int .i64 m, .string ⟨root.toArray⟩, .int .i64 n] w fun e w' => e = .returned (.bool true) ∧ Below w.heap.size w w' := by
  have HK : Hid (∀ W, Below w.heap.size w W → KAt W) := Lib.hid (fun W hb => hK.below hb)
  have SN := Lib.hid (sane_any w hK)
  have FP := Lib.hid (fun W (hb : Below w.heap.size w W) => few_any vp ps 70 W (hp.below hb) hpn (by omega))
  have FQ := Lib.hid (fun W (hb : Below w.heap.size w W) => few_any vq qs 70 W (hq.below hb) hqn (by omega))
  clear hK hp hq
  obtain ⟨lp, hlp⟩ : ∃ l, (ps.take 70).map (·.take 60) = l := ⟨_, rfl⟩
  obtain ⟨lq, hlq⟩ : ∃ l, (qs.take 70).map (·.take 60) = l := ⟨_, rfl⟩
  rw [hlp] at FP
  rw [hlq] at FQ
  have hl1 : lp.length ≤ 70 := by rw [← hlp, List.length_map, List.length_take]; omega
  have hl2 : lq.length ≤ 70 := by rw [← hlq, List.length_map, List.length_take]; omega
  have HX1 : Hid (∀ x ∈ lp, x.length ≤ 60) := Lib.hid (by
    rw [← hlp]; intro x hx; obtain ⟨y, _, rfl⟩ := List.mem_map.1 hx; rw [List.length_take]; omega)
  have HX2 : Hid (∀ x ∈ lq, x.length ≤ 60) := Lib.hid (by
    rw [← hlq]; intro x hx; obtain ⟨y, _, rfl⟩ := List.mem_map.1 hx; rw [List.length_take]; omega)
  clear hlp hlq
  obtain ⟨n1, hn1⟩ : ∃ n, lp.length = n := ⟨_, rfl⟩
  obtain ⟨n2, hn2⟩ : ∃ n, lq.length = n := ⟨_, rfl⟩
  rw [hn1] at hl1
  rw [hn2] at hl2
  have HN := Lib.hid (And.intro hn1 hn2)
  clear hn1 hn2
  obtain ⟨b1, hk1, hb1⟩ := vext_all y root m n lp hn
  obtain ⟨b2, hk2, hb2⟩ := vext_all z root m n lq hn
  have HB := Lib.hid (And.intro hk1 hk2)
  have V1 : Hid (∀ W A c, Below w.heap.size w W → SlS W (.slice A n1 c) lp → n1 ≤ c → Calls Tryd.prog 22 #[.string ⟨y.toArray⟩, .int .i64 m, .string ⟨root.toArray⟩, .int .i64 n, .slice A n1 c] W fun e w' => e = .returned (.bool b1) ∧ Below W.heap.size W w') := Lib.hid (fun W A c hb hs hc =>
    hb1 A n1 c W hs HN.out.1 hc (by omega) (HK.out W hb))
  have V2 : Hid (∀ W A c, Below w.heap.size w W → SlS W (.slice A n2 c) lq → n2 ≤ c → Calls Tryd.prog 22 #[.string ⟨z.toArray⟩, .int .i64 m, .string ⟨root.toArray⟩, .int .i64 n, .slice A n2 c] W fun e w' => e = .returned (.bool b2) ∧ Below W.heap.size W w') := Lib.hid (fun W A c hb hs hc =>
    hb2 A n2 c W hs HN.out.2 hc (by omega) (HK.out W hb))
  clear hb1 hb2 hk1 hk2
  go_enter Tryd.func7, Tryd.ntmps7
  go_wp2_with fail
  refine SN.out.mono ?_
  rintro e W1 ⟨rfl, hb1⟩
  have H1 := Lib.hid hb1
  clear hb1
  go_wp2_with fail
  refine (FP.out W1 H1.out).mono ?_
  rintro e W2 ⟨v2, rfl, ho2, hb2⟩
  obtain ⟨A2, c2, hv2, hc2⟩ := ho2.slice
  rw [HN.out.1] at hv2 hc2
  subst hv2
  have H2 := Lib.hid (And.intro ho2.sls (And.intro (H1.out.trans (hb2.mono H1.out.size)) hc2))
  clear ho2 hb2 hc2
  go_wp2_with fail
  refine (FQ.out W2 H2.out.2.1).mono ?_
  rintro e W3 ⟨v3, rfl, ho3, hb3⟩
  obtain ⟨A3, c3, hv3, hc3⟩ := ho3.slice
  rw [HN.out.2] at hv3 hc3
  subst hv3
  have H3 : Hid (∀ W, Below W3.heap.size W3 W → SlS W (.slice A2 n1 c2) lp ∧ SlS W (.slice A3 n2 c3) lq ∧ Below w.heap.size w W) := Lib.hid (fun W hb =>
    ⟨(H2.out.1.below hb3).below hb, ho3.sls.below hb, (H2.out.2.1.trans (hb3.mono H2.out.2.1.size)).trans (hb.mono (Nat.le_trans H2.out.2.1.size hb3.size))⟩)
  have HC3 := Lib.hid hc3
  clear ho3 hb3 hc3
  go_wp2_with fail
  have h3 := H3.out W3 (Below.refl _ _)
  refine (V1.out W3 A2 c2 h3.2.2 h3.1 H2.out.2.2).mono ?_
  rintro e W4 ⟨rfl, hb4⟩
  have H4 := Lib.hid hb4
  clear hb4 h3
  go_wp2_with fail
  have h4 := H3.out W4 H4.out
  refine (V2.out W4 A3 c3 h4.2.2 h4.2.1 HC3.out).mono ?_
  rintro e W5 ⟨rfl, hb5⟩
  have H5 := Lib.hid (H4.out.trans (hb5.mono H4.out.size))
  clear hb5 h4
  cases b1 with
  | false =>
    go_wp2_with fail
    go_ret
    exact ⟨rfl, (H3.out _ H5.out).2.2⟩
  | true =>
    cases b2 with
    | false =>
      go_wp2_with fail
      go_ret
      exact ⟨rfl, (H3.out _ H5.out).2.2⟩
    | true =>
      by_cases hyz : y = z
      · subst hyz
        go_wp2_with fail
        go_ret
        exact ⟨rfl, (H3.out _ H5.out).2.2⟩
      · have hyzb : (y == z) = false := beq_eq_false_iff_ne.2 hyz
        obtain ⟨g1, g2, g3, g4, g5⟩ := HB.out.1 rfl
        obtain ⟨_, _, f3, f4, f5⟩ := HB.out.2 rfl
        have hm0 : m ≠ 0 := fun e => hyz ((g3 e).trans (f3 e).symm)
        have hmn : m ≠ n := fun e => hyz ((g4 hm0 e).trans (f4 hm0 e).symm)
        obtain ⟨hyl, kp, k3⟩ := g5 (by omega) (by omega)
        obtain ⟨hzl, kq, k4⟩ := f5 (by omega) (by omega)
        clear g3 g4 g5 f3 f4 f5
        obtain ⟨i0, rfl⟩ : ∃ i0 : Nat, m = (i0 : Int) := ⟨m.toNat, by omega⟩
        obtain ⟨n0, rfl⟩ : ∃ n0 : Nat, n = (n0 : Int) := ⟨n.toNat, by omega⟩
        rw [Int.toNat_natCast, Int.toNat_natCast] at k3 k4
        have hcol := ext_binding n0 i0 n0 y z lp.reverse lq.reverse true y z root k3 k4 hyz (fun x hx => kp x (List.mem_reverse.1 hx)) (fun x hx => kq x (List.mem_reverse.1 hx))
        have hz1 := sidesL_small lp.reverse y i0 n0 true 60 (by omega) (by omega) (fun x hx => HX1.out x (List.mem_reverse.1 hx))
        have hz2 := sidesL_small lq.reverse z i0 n0 true 60 (by omega) (by omega) (fun x hx => HX2.out x (List.mem_reverse.1 hx))
        have hc1 := sidesL_cnt lp.reverse y i0 n0 true
        have hc2 := sidesL_cnt lq.reverse z i0 n0 true
        rw [List.length_reverse, HN.out.1] at hc1
        rw [List.length_reverse, HN.out.2] at hc2
        have h5 := H3.out W5 H5.out
        have WA := Lib.hid (sides_any n1 i0 n0 y true A2 c2 lp W5 h5.1 HN.out.1 H2.out.2.2 (by omega) (by omega) (by omega) (by omega) (by omega) (fun x hx => by have := HX1.out x hx; omega) (HK.out W5 h5.2.2))
        have WB : Hid (∀ W, Below W3.heap.size W3 W → Calls Tryd.prog 25 #[.string ⟨z.toArray⟩, .int .i64 i0, .int .i64 n0, .slice A3 n2 c3, .bool true] W fun e w' => ∃ v, e = .returned (.tuple #[v, .string ⟨(sidesL lq.reverse z i0 n0 true).2.toArray⟩]) ∧ SlS w' v (sidesL lq.reverse z i0 n0 true).1 ∧ Below W.heap.size W w') := Lib.hid (fun W hb => by
          have h := H3.out W hb
          exact sides_any n2 i0 n0 z true A3 c3 lq W h.2.1 HN.out.2 HC3.out (by omega) (by omega) (by omega) (by omega) (by omega) (fun x hx => by have := HX2.out x hx; omega) (HK.out W h.2.2))
        obtain ⟨La, hLa⟩ : ∃ z, (sidesL lp.reverse y i0 n0 true).1 = z := ⟨_, rfl⟩
        obtain ⟨Ra, hRa⟩ : ∃ z, (sidesL lp.reverse y i0 n0 true).2 = z := ⟨_, rfl⟩
        obtain ⟨Lb, hLb⟩ : ∃ u, (sidesL lq.reverse z i0 n0 true).1 = u := ⟨_, rfl⟩
        obtain ⟨Rb, hRb⟩ : ∃ u, (sidesL lq.reverse z i0 n0 true).2 = u := ⟨_, rfl⟩
        rw [hLa, hRa] at WA
        rw [hLb, hRb] at WB
        rw [hLa] at hz1 hc1 hcol
        rw [hLb] at hz2 hc2 hcol
        have HZ := Lib.hid (And.intro hz1 (And.intro hz2 (And.intro hc1 (And.intro hc2 hcol))))
        clear hLa hRa hLb hRb hz1 hz2 hc1 hc2 hcol h5 k3 k4 kp kq V1 V2 HB FP FQ SN
        go_wp2_with fail
        refine WA.out.mono ?_
        rintro e W6 ⟨va, rfl, hsa, hb6⟩
        have H6 := Lib.hid (And.intro hsa (H5.out.trans (hb6.mono H5.out.size)))
        clear hsa hb6
        go_wp2_with fail
        refine (WB.out W6 H6.out.2).mono ?_
        rintro e W7 ⟨vb, rfl, hsb, hb7⟩
        have H7 := Lib.hid (And.intro (H6.out.1.below hb7) (And.intro hsb (H6.out.2.trans (hb7.mono H6.out.2.size))))
        clear hsb hb7
        have CO := Lib.hid (collide_any va vb La Lb W7 H7.out.1 H7.out.2.1 (fun x hx => by have := HZ.out.1 x hx; omega) (fun x hx => by have := HZ.out.2.1 x hx; omega) (by have := HZ.out.2.2.1; omega) (by have := HZ.out.2.2.2.1; omega) (HK.out W7 (H3.out W7 H7.out.2.2).2.2))
        rw [HZ.out.2.2.2.2] at CO
        go_wp2_with fail
        refine CO.out.mono ?_
        rintro e W8 ⟨rfl, hb8⟩
        have H8 := Lib.hid (H7.out.2.2.trans (hb8.mono H7.out.2.2.size))
        clear hb8
        go_wp2_with fail
        go_ret
        exact ⟨rfl, (H3.out _ H8.out).2.2⟩
end Go.Proofs.YtgmdjbhclihflaaDoor
