/- sane. -/
import Derived.Test.YtgmdjbhclihflaaDoorDgLc
namespace Go.Proofs.YtgmdjbhclihflaaDoor
open Go Go.RowKit Go.Lib Go.Shelf
attribute [local go_sem] Oper.semAt_some

theorem abc_len : ∀ x ∈ abc, x.length ≤ 10000 := by decide
/-- a list of length k is a slice of length k -/
theorem SlS.cast {w : World} {A : Option Addr} {n c m : Nat} {xs : List (List UInt8)} (h : SlS w (.slice A n c) xs) (hm : n = m) : SlS w (.slice A m c) xs := hm ▸ h
set_option maxRecDepth 100000 in
set_option maxHeartbeats 4000000 in
theorem sane_any (w : World) (hK : KAt w) :
    Calls Tryd.prog 11 #[] w fun e w' => e = .returned (.bool true) ∧ Below w.heap.size w w' := by
  have HK := Lib.hid hK
  obtain ⟨W1, hW1⟩ : ∃ z, w.alloc (.cells #[.string ⟨#[97]⟩, .string ⟨#[98]⟩, .string ⟨#[99]⟩] 9) = z := ⟨_, rfl⟩
  have b1 : Below w.heap.size w W1 := by rw [← hW1]; exact (Below.refl _ _).alloc (Nat.le_refl _) _
  have r1 : RowAt W1 w.heap.size 9 #[.string ⟨#[97]⟩, .string ⟨#[98]⟩, .string ⟨#[99]⟩] := by rw [← hW1]; exact RowAt.new w _ _
  have hl1 : SlS W1 (.slice (some ⟨w.heap.size, 0, none⟩) 3 3) abc := .inr ⟨w.heap.size, 0, 3, rfl, r1.lt, fun i x hx => by
    rw [Nat.zero_add, r1.cell i]
    match i, hx with
    | 0, hx => simp [abc] at hx; subst hx; rfl
    | 1, hx => simp [abc] at hx; subst hx; rfl
    | 2, hx => simp [abc] at hx; subst hx; rfl
    | i + 3, hx => simp [abc] at hx⟩
  have HL := Lib.hid hl1
  have HB1 := Lib.hid b1
  have HSL : Hid (∀ W, Below W1.heap.size W1 W → SlS W (.slice (some ⟨w.heap.size, 0, none⟩) 3 3) abc ∧ KAt W ∧ Below w.heap.size w W) := Lib.hid (fun W hb => ⟨HL.out.below hb, HK.out.below (HB1.out.trans (hb.mono HB1.out.size)), HB1.out.trans (hb.mono HB1.out.size)⟩)
  have P1 := Lib.hid (proof_in _ 3 3 2 abc W1 hl1 rfl (by omega) (by omega) (by omega) abc_len (HK.out.below b1))
  clear r1 hl1 b1 hK
  go_enter Tryd.func11, Tryd.ntmps11
  go_wp2_with fail
  refine P1.out.mono ?_
  rintro e W2 ⟨A2, n2, c2, rfl, hc2, hs2, hn2, hb2⟩
  rw [abc_proof] at hs2 hn2
  have hn2' : n2 = 1 := hn2.symm
  subst hn2'
  have H2 := Lib.hid (And.intro hs2 hb2)
  have E1 := Lib.hid (ext_in (some ⟨w.heap.size, 0, none⟩) 3 3 1 abc W2 (HSL.out W2 hb2).1 rfl (by omega) (by omega) (by omega) (by omega) abc_len (HSL.out W2 hb2).2.1)
  have HC2 := Lib.hid hc2
  clear hs2 hb2 hn2 hc2
  go_wp2_with fail
  refine E1.out.mono ?_
  rintro e W3 ⟨A3, n3, c3, rfl, hc3, hs3, hn3, hb3⟩
  rw [abc_ext] at hs3 hn3
  have hn3' : n3 = 2 := hn3.symm
  subst hn3'
  have hb13 := H2.out.2.trans (hb3.mono H2.out.2.size)
  have H3 := Lib.hid (And.intro (H2.out.1.below hb3) (And.intro hs3 hb13))
  have O1 := Lib.hid (proof_out (some ⟨w.heap.size, 0, none⟩) 3 3 3 W3 (by omega))
  have RT := Lib.hid (root_any (.slice (some ⟨w.heap.size, 0, none⟩) 3 3) abc W3 (HSL.out W3 hb13).1 (by decide) abc_len (HSL.out W3 hb13).2.1)
  rw [show joinS (stackS abc) = fR from abc_root] at RT
  have HC3 := Lib.hid hc3
  clear hs3 hb3 hn3 hb13 hc3
  go_wp2_with fail
  refine O1.out.mono ?_
  rintro e w' ⟨rfl, rfl⟩
  go_wp2_with fail
  refine RT.out.mono ?_
  rintro e W4 ⟨rfl, hb4⟩
  have hb14 := H3.out.2.2.trans (hb4.mono H3.out.2.2.size)
  have H4 := Lib.hid (And.intro (H3.out.1.below hb4) (And.intro (H3.out.2.1.below hb4) hb14))
  have S1 := Lib.hid (sum_any [] W4 (by simp) (HSL.out W4 hb14).2.1)
  have HX1 := fun W => hex_any (shaB []) W (by rw [shaB_len]; omega)
  rw [hex_e] at HX1
  have HX1 := Lib.hid HX1
  clear hb4 hb14
  obtain ⟨s1, hs1⟩ : ∃ z, shaB [] = z := ⟨_, rfl⟩
  rw [hs1] at S1 HX1
  clear hs1
  go_wp2_with fail
  refine S1.out.mono ?_
  rintro e W5 ⟨rfl, hb5⟩
  have H5 := Lib.hid (H4.out.2.2.trans (hb5.mono H4.out.2.2.size))
  have H45 := Lib.hid hb5
  clear hb5
  go_wp2_with fail
  refine (HX1.out W5).mono ?_
  rintro e W6 ⟨rfl, hb6⟩
  have hb46 := H45.out.trans (hb6.mono H45.out.size)
  have hb16 := H5.out.trans (hb6.mono H5.out.size)
  have H6 := Lib.hid (And.intro hb46 hb16)
  have S2 := Lib.hid (sum_any [97, 98, 99] W6 (by simp) (HSL.out W6 hb16).2.1)
  have HX2 := fun W => hex_any (shaB [97, 98, 99]) W (by rw [shaB_len]; omega)
  rw [hex_abc] at HX2
  have HX2 := Lib.hid HX2
  clear hb6 hb46 hb16
  obtain ⟨s2, hs2⟩ : ∃ z, shaB [97, 98, 99] = z := ⟨_, rfl⟩
  rw [hs2] at S2 HX2
  clear hs2
  go_wp2_with fail
  refine S2.out.mono ?_
  rintro e W7 ⟨rfl, hb7⟩
  have H7 := Lib.hid (And.intro (H6.out.1.trans (hb7.mono H6.out.1.size)) (H6.out.2.trans (hb7.mono H6.out.2.size)))
  clear hb7
  go_wp2_with fail
  refine (HX2.out W7).mono ?_
  rintro e W8 ⟨rfl, hb8⟩
  have hb48 := H7.out.1.trans (hb8.mono H7.out.1.size)
  have hb18 := H7.out.2.trans (hb8.mono H7.out.2.size)
  have H8 := Lib.hid (And.intro (H4.out.1.below hb48) (And.intro (H4.out.2.1.below hb48) hb18))
  have V1 := Lib.hid (verify_in fR [99] 3 2 A2 1 c2 [fab] W8 (by omega) (by omega) H8.out.1 rfl HC2.out (by omega) (by decide) (by decide) (HSL.out W8 hb18).2.1)
  rw [show [fab].reverse = [fab] from rfl, abc_ver] at V1
  have HR3 : Hid (fR.length = 32 ∧ fa.length = 32 ∧ fab.length = 32) := Lib.hid (by decide)
  have VX1 : Hid (∀ W, Below W4.heap.size W4 W → Calls Tryd.prog 21 #[.string ⟨fR.toArray⟩, .int .i64 3, .int .i64 2, .string ⟨#[100]⟩, .slice A2 1 c2] W fun e w' => e = .returned (.bool false) ∧ Below W.heap.size W w') := Lib.hid (fun W hb => by
    have h := verify_in fR [100] 3 2 A2 1 c2 [fab] W (by omega) (by omega) (H4.out.1.below hb) rfl HC2.out (by omega) (by decide) (by decide) (HSL.out W (H4.out.2.2.trans (hb.mono H4.out.2.2.size))).2.1
    rwa [show [fab].reverse = [fab] from rfl, abc_ver2] at h)
  have RT1 : Hid (∀ W, Below W4.heap.size W4 W → Calls Tryd.prog 18 #[.slice (some ⟨w.heap.size, 0, none⟩) 1 3] W fun e w' => e = .returned (.string ⟨fa.toArray⟩) ∧ Below W.heap.size W w') := Lib.hid (fun W hb => by
    have hh := HSL.out W (H4.out.2.2.trans (hb.mono H4.out.2.2.size))
    have h := root_any (.slice (some ⟨w.heap.size, 0, none⟩) 1 3) (abc.take 1) W (hh.1.take 1 (by omega)) (by decide) (by decide) hh.2.1
    rwa [show joinS (stackS (abc.take 1)) = fa from (by rw [show abc.take 1 = [[97]] from rfl, show joinS (stackS [[97]]) = rootB [[97]] from rfl, root1, leaf_fa])] at h)
  have RT2 : Hid (∀ W, Below W4.heap.size W4 W → Calls Tryd.prog 18 #[.slice (some ⟨w.heap.size, 0, none⟩) 2 3] W fun e w' => e = .returned (.string ⟨fab.toArray⟩) ∧ Below W.heap.size W w') := Lib.hid (fun W hb => by
    have hh := HSL.out W (H4.out.2.2.trans (hb.mono H4.out.2.2.size))
    have h := root_any (.slice (some ⟨w.heap.size, 0, none⟩) 2 3) (abc.take 2) W (hh.1.take 2 (by omega)) (by decide) (by decide) hh.2.1
    rwa [show joinS (stackS (abc.take 2)) = fab from (by rw [show abc.take 2 = [[97], [98]] from rfl, show joinS (stackS [[97], [98]]) = rootB [[97], [98]] from rfl, root2, leaf_fa, leaf_fb, node_fab])] at h)
  have VE1 : Hid (∀ W, Below W4.heap.size W4 W → Calls Tryd.prog 22 #[.string ⟨fa.toArray⟩, .int .i64 1, .string ⟨fR.toArray⟩, .int .i64 3, .slice A3 2 c3] W fun e w' => e = .returned (.bool true) ∧ Below W.heap.size W w') := Lib.hid (fun W hb => by
    have h := vext_in fa fR 1 3 (by omega) (by omega) (by omega) A3 2 c3 [fb, fc] W (H4.out.2.1.below hb) rfl HC3.out (by omega) (by decide) HR3.out.2.1 HR3.out.1 (HSL.out W (H4.out.2.2.trans (hb.mono H4.out.2.2.size))).2.1
    rwa [show [fb, fc].reverse = [fc, fb] from rfl, abc_vext] at h)
  have VE2 : Hid (∀ W, Below W4.heap.size W4 W → Calls Tryd.prog 22 #[.string ⟨fab.toArray⟩, .int .i64 1, .string ⟨fR.toArray⟩, .int .i64 3, .slice A3 2 c3] W fun e w' => e = .returned (.bool false) ∧ Below W.heap.size W w') := Lib.hid (fun W hb => by
    have h := vext_in fab fR 1 3 (by omega) (by omega) (by omega) A3 2 c3 [fb, fc] W (H4.out.2.1.below hb) rfl HC3.out (by omega) (by decide) HR3.out.2.2 HR3.out.1 (HSL.out W (H4.out.2.2.trans (hb.mono H4.out.2.2.size))).2.1
    rwa [show [fb, fc].reverse = [fc, fb] from rfl, abc_vext2] at h)
  have H48 := Lib.hid (And.intro hb48 hb18)
  clear hb8 hb48 hb18
  generalize fR = qR at *
  generalize fa = qa at *
  generalize fab = qab at *
  go_wp2_with fail
  refine V1.out.mono ?_
  rintro e X1 ⟨rfl, hx1⟩
  have HX1 := Lib.hid (And.intro (H48.out.1.trans (hx1.mono H48.out.1.size)) (H48.out.2.trans (hx1.mono H48.out.2.size)))
  clear hx1
  go_wp2_with fail
  refine (VX1.out X1 HX1.out.1).mono ?_
  rintro e X2 ⟨rfl, hx1⟩
  have HX2 := Lib.hid (And.intro (HX1.out.1.trans (hx1.mono HX1.out.1.size)) (HX1.out.2.trans (hx1.mono HX1.out.2.size)))
  clear hx1
  go_wp2_with fail
  refine (RT1.out X2 HX2.out.1).mono ?_
  rintro e X3 ⟨rfl, hx1⟩
  have HX3 := Lib.hid (And.intro (HX2.out.1.trans (hx1.mono HX2.out.1.size)) (HX2.out.2.trans (hx1.mono HX2.out.2.size)))
  clear hx1
  go_wp2_with fail
  refine (VE1.out X3 HX3.out.1).mono ?_
  rintro e X4 ⟨rfl, hx1⟩
  have HX4 := Lib.hid (And.intro (HX3.out.1.trans (hx1.mono HX3.out.1.size)) (HX3.out.2.trans (hx1.mono HX3.out.2.size)))
  clear hx1
  go_wp2_with fail
  refine (RT2.out X4 HX4.out.1).mono ?_
  rintro e X5 ⟨rfl, hx1⟩
  have HX5 := Lib.hid (And.intro (HX4.out.1.trans (hx1.mono HX4.out.1.size)) (HX4.out.2.trans (hx1.mono HX4.out.2.size)))
  clear hx1
  go_wp2_with fail
  refine (VE2.out X5 HX5.out.1).mono ?_
  rintro e X6 ⟨rfl, hx1⟩
  have HX6 := Lib.hid (HX5.out.2.trans (hx1.mono HX5.out.2.size))
  clear hx1
  go_wp2_with fail
  go_ret
  exact ⟨rfl, HB1.out.trans (HX6.out.mono HB1.out.size)⟩
end Go.Proofs.YtgmdjbhclihflaaDoor
