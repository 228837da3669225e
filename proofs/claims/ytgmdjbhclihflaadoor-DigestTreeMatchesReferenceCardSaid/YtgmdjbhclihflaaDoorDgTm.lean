/- DigestTreeMatchesReference. -/
import Derived.Test.YtgmdjbhclihflaaDoorDgTp
namespace Go.Proofs.YtgmdjbhclihflaaDoor
open Go Go.RowKit Go.Lib Go.Shelf
attribute [local go_sem] Oper.semAt_some

theorem rext_out (A : Option Addr) (n c : Nat) (i : Int) (w : World) (h : ¬(0 ≤ i ∧ i ≤ n)) :
    Calls Tryd.prog 16 #[.slice A n c, .int .i64 i] w fun e w' => e = .returned (.tuple #[.slice none 0 0, .int .i64 2]) ∧ w = w' := by
  by_cases h1 : i < 0
  · have h1d : decide (i < 0) = true := decide_eq_true h1
    go_enter Tryd.func16, Tryd.ntmps16
    go_wp2_with fail
    go_ret2
    exact ⟨rfl, rfl⟩
  · have h2 : (n : Int) < i := by omega
    have h1d : decide (i < 0) = false := decide_eq_false h1
    have h2d : decide ((n : Int) < i) = true := decide_eq_true h2
    go_enter Tryd.func16, Tryd.ntmps16
    go_wp2_with fail
    go_ret2
    exact ⟨rfl, rfl⟩
theorem rext_zero (A : Option Addr) (n c : Nat) (w : World) :
    Calls Tryd.prog 16 #[.slice A n c, .int .i64 0] w fun e w' => e = .returned (.tuple #[.slice none 0 0, .int .i64 0]) ∧ w = w' := by
  have h2d : decide ((n : Int) < 0) = false := by simp
  go_enter Tryd.func16, Tryd.ntmps16
  go_wp2_with fail
  go_ret2
  exact ⟨rfl, rfl⟩
theorem rext_in (A : Option Addr) (n c m : Nat) (xs : List (List UInt8)) (w : World) (hv : SlS w (.slice A n c) xs) (hn : xs.length = n) (hc : n ≤ c) (hb : n ≤ 10000) (hm1 : 1 ≤ m) (hm : m ≤ n) (hx : ∀ x ∈ xs, x.length ≤ 10000) :
    Calls Tryd.prog 16 #[.slice A n c, .int .i64 m] w fun e w' => ∃ v, e = .returned (.tuple #[v, .int .i64 0]) ∧ OwnL 9 encS w' w.heap.size v (partB xs m true) ∧ Below w.heap.size w w' := by
  have PT := Lib.hid (rpart_any n n m true A c xs w (Nat.le_refl _) hb hv hn hc hm1 hm hx)
  obtain ⟨PL, hPL⟩ : ∃ z, partB xs m true = z := ⟨_, rfl⟩
  rw [hPL] at PT ⊢
  have hm0 : ((m : Int) == 0) = false := by rw [beq_eq_false_iff_ne]; omega
  have h1d : decide ((m : Int) < 0) = false := by simp
  have h2d : decide (n < m) = false := by simp; omega
  clear hPL hv hx
  go_enter Tryd.func16, Tryd.ntmps16
  go_wp2_with fail
  refine PT.out.mono ?_
  rintro e Y ⟨v, rfl, ho, hy⟩
  have HY := Lib.hid (And.intro ho hy)
  clear ho hy
  go_wp2_with fail
  go_ret2
  exact ⟨_, rfl, HY.out.1, HY.out.2⟩
theorem sls_nilR (w : World) : SlS w (.slice none 0 0) [] := .inl ⟨rfl, none, 0, rfl⟩
theorem proofs_both (A : Option Addr) (n c : Nat) (xs : List (List UInt8)) (i : Int) (hn : xs.length = n) (hc : n ≤ c) (hb : n ≤ 5000) (hx : ∀ x ∈ xs, x.length ≤ 10000) : ∃ (PL : List (List UInt8)) (ec : Int), PL.length ≤ 10000 ∧
    (∀ W, SlS W (.slice A n c) xs → KAt W → Calls Tryd.prog 13 #[.slice A n c, .int .i64 i] W fun e w' => ∃ v, e = .returned (.tuple #[v, .int .i64 ec]) ∧ SlS w' v PL ∧ Below W.heap.size W w') ∧
    (∀ W, SlS W (.slice A n c) xs → Calls Tryd.prog 14 #[.slice A n c, .int .i64 i] W fun e w' => ∃ v, e = .returned (.tuple #[v, .int .i64 ec]) ∧ SlS w' v PL ∧ Below W.heap.size W w') := by
  by_cases h : 0 ≤ i ∧ i < n
  · obtain ⟨j, rfl⟩ : ∃ j : Nat, i = (j : Int) := ⟨i.toNat, by omega⟩
    refine ⟨proofB xs j, 0, by have := proofB_short2 xs j (by omega); omega, fun W hv hK => ?_, fun W hv => ?_⟩
    · refine (proof_in A n c j xs W hv hn hc hb (by omega) hx hK).mono ?_
      rintro e w' ⟨A', n', c', rfl, h1, h2, h3, h4⟩
      exact ⟨_, rfl, h2, h4⟩
    · refine (rproof_any n n j A c xs W (Nat.le_refl _) (by omega) hv hn hc (by omega) hx).mono ?_
      rintro e w' ⟨v, rfl, h1, h2⟩
      exact ⟨_, rfl, h1.sls, h2⟩
  · refine ⟨[], 2, by simp, fun W hv hK => ?_, fun W hv => ?_⟩
    · refine (proof_out A n c i W h).mono ?_
      rintro e w' ⟨rfl, rfl⟩
      exact ⟨_, rfl, sls_nilR _, Below.refl _ _⟩
    · refine (rproof_out A n c i W h).mono ?_
      rintro e w' ⟨rfl, rfl⟩
      exact ⟨_, rfl, sls_nilR _, Below.refl _ _⟩
theorem exts_both (A : Option Addr) (n c : Nat) (xs : List (List UInt8)) (i : Int) (hn : xs.length = n) (hc : n ≤ c) (hb : n ≤ 5000) (hx : ∀ x ∈ xs, x.length ≤ 10000) : ∃ (PL : List (List UInt8)) (ec : Int), PL.length ≤ 10000 ∧
    (∀ W, SlS W (.slice A n c) xs → KAt W → Calls Tryd.prog 15 #[.slice A n c, .int .i64 i] W fun e w' => ∃ v, e = .returned (.tuple #[v, .int .i64 ec]) ∧ SlS w' v PL ∧ Below W.heap.size W w') ∧
    (∀ W, SlS W (.slice A n c) xs → Calls Tryd.prog 16 #[.slice A n c, .int .i64 i] W fun e w' => ∃ v, e = .returned (.tuple #[v, .int .i64 ec]) ∧ SlS w' v PL ∧ Below W.heap.size W w') := by
  by_cases h : 0 ≤ i ∧ i ≤ n
  · obtain ⟨j, rfl⟩ : ∃ j : Nat, i = (j : Int) := ⟨i.toNat, by omega⟩
    by_cases h0 : j = 0
    · subst h0
      refine ⟨[], 0, by simp, fun W hv hK => ?_, fun W hv => ?_⟩
      · refine (ext_zero A n c W).mono ?_
        rintro e w' ⟨rfl, rfl⟩
        exact ⟨_, rfl, sls_nilR _, Below.refl _ _⟩
      · refine (rext_zero A n c W).mono ?_
        rintro e w' ⟨rfl, rfl⟩
        exact ⟨_, rfl, sls_nilR _, Below.refl _ _⟩
    · have he : extB xs j = partB xs j true := by unfold extB partB; rw [if_neg h0]
      refine ⟨extB xs j, 0, by rw [he]; have := partB_short xs j true; omega, fun W hv hK => ?_, fun W hv => ?_⟩
      · refine (ext_in A n c j xs W hv hn hc hb (by omega) (by omega) hx hK).mono ?_
        rintro e w' ⟨A', n', c', rfl, h1, h2, h3, h4⟩
        exact ⟨_, rfl, h2, h4⟩
      · refine (rext_in A n c j xs W hv hn hc (by omega) (by omega) (by omega) hx).mono ?_
        rintro e w' ⟨v, rfl, h1, h2⟩
        exact ⟨_, rfl, by rw [he]; exact h1.sls, h2⟩
  · refine ⟨[], 2, by simp, fun W hv hK => ?_, fun W hv => ?_⟩
    · refine (ext_out A n c i W h).mono ?_
      rintro e w' ⟨rfl, rfl⟩
      exact ⟨_, rfl, sls_nilR _, Below.refl _ _⟩
    · refine (rext_out A n c i W h).mono ?_
      rintro e w' ⟨rfl, rfl⟩
      exact ⟨_, rfl, sls_nilR _, Below.refl _ _⟩
set_option maxRecDepth 100000 in
set_option maxHeartbeats 4000000 in
theorem tree_yes (v : Value) (xs : List (List UInt8)) (i m : Int) (w : World) (hv : SlS w v xs) (hn : xs.length ≤ 9223372036854775807) (hK : KAt w) :
    Calls Tryd.prog 3 #[v, .int .i64 i, .int .i64 m] w fun e w' => e = .returned (.bool true) ∧ Below w.heap.size w w' := by
  have HK := Lib.hid hK
  have SN := Lib.hid (sane_any w hK)
  have FW := Lib.hid (fun W (hb : Below w.heap.size w W) => few_any v xs 40 W (hv.below hb) hn (by omega))
  clear hK hv
  obtain ⟨l, hl⟩ : ∃ l, (xs.take 40).map (·.take 60) = l := ⟨_, rfl⟩
  rw [hl] at FW
  have hll : l.length ≤ 40 := by rw [← hl, List.length_map, List.length_take]; omega
  have HLX : Hid (∀ x ∈ l, x.length ≤ 10000) := Lib.hid (by
    rw [← hl]; intro x hx; obtain ⟨y, _, rfl⟩ := List.mem_map.1 hx; rw [List.length_take]; omega)
  clear hl
  go_enter Tryd.func3, Tryd.ntmps3
  go_wp2_with fail
  refine SN.out.mono ?_
  rintro e W1 ⟨rfl, hb1⟩
  have H1 := Lib.hid hb1
  have F1 := Lib.hid (FW.out W1 hb1)
  clear hb1 FW
  go_wp2_with fail
  refine F1.out.mono ?_
  rintro e W2 ⟨v2, rfl, ho2, hb2⟩
  obtain ⟨A2, c2, hv2, hc2⟩ := ho2.slice
  obtain ⟨n, hnl⟩ : ∃ n, l.length = n := ⟨_, rfl⟩
  rw [hnl] at hv2 hc2 hll
  subst hv2
  have HW : Hid (∀ W, Below W2.heap.size W2 W → SlS W (.slice A2 n c2) l ∧ KAt W ∧ Below w.heap.size w W) := Lib.hid (fun W hb => by
    have hbw := H1.out.trans (hb2.mono H1.out.size)
    exact ⟨ho2.sls.below hb, HK.out.below (hbw.trans (hb.mono hbw.size)), hbw.trans (hb.mono hbw.size)⟩)
  obtain ⟨PL, ec, hpl, hp1, hp2⟩ := proofs_both A2 n c2 l i hnl hc2 (by omega) HLX.out
  obtain ⟨XL, fc, hxl, hx1, hx2⟩ := exts_both A2 n c2 l m hnl hc2 (by omega) HLX.out
  have P1 := Lib.hid hp1
  have P2 := Lib.hid hp2
  have X1 := Lib.hid hx1
  have X2 := Lib.hid hx2
  have HPX := Lib.hid (And.intro hpl hxl)
  obtain ⟨rt, hrt⟩ : ∃ z, rootB l = z := ⟨_, rfl⟩
  have RT1 : Hid (∀ W, Below W2.heap.size W2 W → Calls Tryd.prog 18 #[.slice A2 n c2] W fun e w' => e = .returned (.string ⟨rt.toArray⟩) ∧ Below W.heap.size W w') := Lib.hid (fun W hb => by
    rw [← hrt]; exact root_any _ l W (HW.out W hb).1 (by omega) HLX.out (HW.out W hb).2.1)
  have RT2 : Hid (∀ W, Below W2.heap.size W2 W → Calls Tryd.prog 19 #[.slice A2 n c2] W fun e w' => e = .returned (.string ⟨rt.toArray⟩) ∧ Below W.heap.size W w') := Lib.hid (fun W hb => by
    rw [← hrt]; exact rroot_any n n A2 c2 l W (Nat.le_refl _) (by omega) (HW.out W hb).1 hnl hc2 HLX.out)
  clear ho2 hb2 hnl hc2 hp1 hp2 hx1 hx2 hpl hxl hrt
  have hW2 := HW.out W2 (Below.refl _ _)
  have P1a := Lib.hid (P1.out W2 hW2.1 hW2.2.1)
  clear hW2 F1 SN
  go_wp2_with fail
  refine P1a.out.mono ?_
  rintro e W3 ⟨vp, rfl, hsp, hb3⟩
  have H3 := Lib.hid (And.intro hsp hb3)
  clear hsp hb3
  have P2a := Lib.hid (P2.out W3 (HW.out W3 H3.out.2).1)
  go_wp2_with fail
  refine P2a.out.mono ?_
  rintro e W4 ⟨vq, rfl, hsq, hb4⟩
  have H4 := Lib.hid (And.intro (H3.out.1.below hb4) (And.intro hsq (H3.out.2.trans (hb4.mono H3.out.2.size))))
  clear hsq hb4
  have X1a := Lib.hid (X1.out W4 (HW.out W4 H4.out.2.2).1 (HW.out W4 H4.out.2.2).2.1)
  go_wp2_with fail
  refine X1a.out.mono ?_
  rintro e W5 ⟨vx, rfl, hsx, hb5⟩
  have H5 := Lib.hid (And.intro (H4.out.1.below hb5) (And.intro (H4.out.2.1.below hb5) (And.intro hsx (H4.out.2.2.trans (hb5.mono H4.out.2.2.size)))))
  clear hsx hb5
  have X2a := Lib.hid (X2.out W5 (HW.out W5 H5.out.2.2.2).1)
  go_wp2_with fail
  refine X2a.out.mono ?_
  rintro e W6 ⟨vy, rfl, hsy, hb6⟩
  have H6 := Lib.hid (And.intro (H5.out.1.below hb6) (And.intro (H5.out.2.1.below hb6) (And.intro (H5.out.2.2.1.below hb6) (And.intro hsy (H5.out.2.2.2.trans (hb6.mono H5.out.2.2.2.size))))))
  clear hsy hb6
  have S1 := Lib.hid (same_anyR vp vq PL PL W6 H6.out.1 H6.out.2.1 HPX.out.1)
  rw [beq_self_eq_true] at S1
  go_wp2_with fail
  refine S1.out.mono ?_
  rintro e W7 ⟨rfl, hb7⟩
  have H7 := Lib.hid (And.intro (H6.out.2.2.1.below hb7) (And.intro (H6.out.2.2.2.1.below hb7) (H6.out.2.2.2.2.trans (hb7.mono H6.out.2.2.2.2.size))))
  clear hb7
  have S2 := Lib.hid (same_anyR vx vy XL XL W7 H7.out.1 H7.out.2.1 HPX.out.2)
  rw [beq_self_eq_true] at S2
  go_wp2_with fail
  refine S2.out.mono ?_
  rintro e W8 ⟨rfl, hb8⟩
  have H8 := Lib.hid (H7.out.2.2.trans (hb8.mono H7.out.2.2.size))
  clear hb8
  go_wp2_with fail
  refine (RT1.out W8 H8.out).mono ?_
  rintro e W9 ⟨rfl, hb9⟩
  have H9 := Lib.hid (H8.out.trans (hb9.mono H8.out.size))
  clear hb9
  go_wp2_with fail
  refine (RT2.out W9 H9.out).mono ?_
  rintro e W10 ⟨rfl, hb10⟩
  have H10 := Lib.hid (H9.out.trans (hb10.mono H9.out.size))
  clear hb10
  go_wp2_with fail
  go_ret
  exact ⟨rfl, (HW.out _ H10.out).2.2⟩
end Go.Proofs.YtgmdjbhclihflaaDoor
