/- ContractDistinct: the walk. -/
import Derived.Test.YtfiabonacpepnaaGreatDoorCtVb
import Derived.Test.YtfiabonacpepnaaGreatDoorCtZb
namespace Go.Proofs.YtfiabonacpepnaaGreatDoor
open Go Go.RowKit Go.Lib Go.Shelf Go.Maps

theorem good_one (t : TermV) : goodL [t] = validT t := by unfold goodL; simp
theorem print_one {t : TermV} (h : validT t = true) : printV [t] = lineT t ++ [10] := by
  unfold printV
  rw [good_one, if_pos h]
  simp [textT]
theorem print_same {t u : TermV} (ht : validT t = true) (hu : validT u = true) : (printV [t] == printV [u]) = sameTs [t] [u] := by
  rw [print_one ht, print_one hu]
  by_cases h : t = u
  · subst h
    rw [sameTs_iff.2 rfl]; simp
  · have h1 : sameTs [t] [u] = false := by
      cases hs : sameTs [t] [u] with
      | false => rfl
      | true => have := sameTs_iff.1 hs; simp at this; exact absurd this h
    rw [h1, beq_eq_false_iff_ne]
    intro e
    exact h (line_inj ht hu (List.append_cancel_right e))
theorem cut_small {t : TermV} (h : t.acc.length ≤ 12) : cutT t = t := by
  unfold cutT
  rw [List.take_of_length_le h]
set_option maxRecDepth 100000 in
set_option maxHeartbeats 8000000 in
theorem distinct_yes (ta tb : TermV) (Aa Ab : Option Addr) (ca cb : Nat) (w : World) (hK : KAt w) (ia : IntsL w (.slice Aa ta.acc.length ca) ta.acc) (ib : IntsL w (.slice Ab tb.acc.length cb) tb.acc)
    (hca : ta.acc.length ≤ ca) (hcb : tb.acc.length ≤ cb) (hla : ta.acc.length ≤ 9223372036854775807) (hlb : tb.acc.length ≤ 9223372036854775807) (h64a : Ok64 ta) (h64b : Ok64 tb) :
    Calls Tryz.prog 9 #[.agg (termC ta (.slice Aa ta.acc.length ca)), .agg (termC tb (.slice Ab tb.acc.length cb))] w fun e w' => e = .returned (.bool true) ∧ Below w.heap.size w w' := by
  have er1 : errI true = 0 := rfl
  have er2 : errI false = 140 := rfl
  have hfa := few_acc (l := [ta, tb]) (fun t ht => by simp at ht; rcases ht with rfl | rfl <;> assumption)
  have hF : fewT [ta, tb] = [cutT ta, cutT tb] := rfl
  rw [hF] at hfa
  obtain ⟨va, hva⟩ : ∃ q, validT (cutT ta) = q := ⟨_, rfl⟩
  obtain ⟨vb, hvb⟩ : ∃ q, validT (cutT tb) = q := ⟨_, rfl⟩
  obtain ⟨PA, hPA⟩ : ∃ q, printV [cutT ta] = q := ⟨_, rfl⟩
  obtain ⟨PB, hPB⟩ : ∃ q, printV [cutT tb] = q := ⟨_, rfl⟩
  obtain ⟨sq, hsq⟩ : ∃ q, sameTs [cutT ta] [cutT tb] = q := ⟨_, rfl⟩
  have HPS : Hid (va = true → vb = true → (PA == PB) = sq) := Lib.hid (fun h1 h2 => by rw [← hPA, ← hPB, ← hsq]; exact print_same (hva.trans h1) (hvb.trans h2))
  have HPRA := Lib.hid (fun W v (h : KAt W) (h2 : TermsAt W v [cutT ta]) => print_any [cutT ta] v W h h2 (by simp) (fun t ht => hfa t (by simp at ht; simp [ht])))
  have HPRB := Lib.hid (fun W v (h : KAt W) (h2 : TermsAt W v [cutT tb]) => print_any [cutT tb] v W h h2 (by simp) (fun t ht => hfa t (by simp at ht; simp [ht])))
  rw [good_one, hva, hPA] at HPRA
  rw [good_one, hvb, hPB] at HPRB
  have HSM := Lib.hid (fun W v u (h1 : TermsAt W v [cutT ta]) (h2 : TermsAt W u [cutT tb]) => Same_any [cutT ta] [cutT tb] v u W (by simp) (by simp) h1 h2 (fun t ht => (hfa t (by simp at ht; simp [ht])).1) (fun t ht => (hfa t (by simp at ht; simp [ht])).1))
  rw [hsq] at HSM
  have HVA := Lib.hid (fun W (h : IntsL W (.slice Aa ta.acc.length ca) ta.acc) => validC_all ta (.slice Aa ta.acc.length ca) W hla h h64a)
  obtain ⟨vt, hvt⟩ : ∃ q, validT ta = q := ⟨_, rfl⟩
  have HEQ : Hid (ta.acc.length ≤ 12 → va = vt) := Lib.hid (fun h => by rw [← hva, ← hvt, cut_small h])
  rw [hvt] at HVA
  have HFW := Lib.hid (fun W A c (h : TermsIn W (.slice A 2 c) [ta, tb]) => few_any A 2 c [ta, tb] W h rfl (by decide) (fun t ht => by simp at ht; rcases ht with rfl | rfl <;> assumption))
  rw [hF] at HFW
  unfold strV at HPRA HPRB
  have HIN := Lib.hid (fun W g c (h : RowAt W g 28 (termC ta (.slice Aa ta.acc.length ca) ++ termC tb (.slice Ab tb.acc.length cb))) h1 h2 => two_in (c := c) h h1 h2 hca hcb)
  have HIA := Lib.hid ia
  have HIB := Lib.hid ib
  have HK := Lib.hid hK
  have h9 : 9 ≤ w.heap.size := hK.lt
  obtain ⟨xa, hxa⟩ : ∃ n, ta.acc.length = n := ⟨_, rfl⟩
  obtain ⟨xb, hxb⟩ : ∃ n, tb.acc.length = n := ⟨_, rfl⟩
  obtain ⟨ua, hua⟩ : ∃ a, cutT ta = a := ⟨_, rfl⟩
  obtain ⟨ub, hub⟩ : ∃ a, cutT tb = a := ⟨_, rfl⟩
  rw [hua] at HPRA HSM HFW
  rw [hub] at HPRB HSM HFW
  rw [hxa] at HVA HEQ HIN HIA hca hla ⊢
  rw [hxb] at HIN HIB hcb hlb ⊢
  obtain ⟨k1, n1, m1, a1, l1⟩ := ta
  obtain ⟨k2, n2, m2, a2, l2⟩ := tb
  unfold termC at HVA HIN ⊢
  dsimp only at HVA HIN HIA HIB ⊢
  simp only [List.append_toArray, List.cons_append, List.nil_append] at HIN
  clear hfa hF hva hvb hPA hPB hsq hvt hxa hxb hua hub ia ib hK h64a h64b
  have r1 := (RowAt.new w 28 #[.int .i64 k1, .int .i64 n1, .int .i64 m1, .int .i64 a1, .slice Aa xa ca]).alloc (.cells #[.int .i64 k2, .int .i64 n2, .int .i64 m2, .int .i64 a2, .slice Ab xb cb] 28)
  have r2 := RowAt.new (w.alloc (.cells #[.int .i64 k1, .int .i64 n1, .int .i64 m1, .int .i64 a1, .slice Aa xa ca] 28)) 28 #[.int .i64 k2, .int .i64 n2, .int .i64 m2, .int .i64 a2, .slice Ab xb cb]
  have b0 : Below w.heap.size w ((w.alloc (.cells #[.int .i64 k1, .int .i64 n1, .int .i64 m1, .int .i64 a1, .slice Aa xa ca] 28)).alloc (.cells #[.int .i64 k2, .int .i64 n2, .int .i64 m2, .int .i64 a2, .slice Ab xb cb] 28)) := ((Below.refl _ _).alloc (Nat.le_refl _) _).alloc (by simp) _
  obtain ⟨N, hN⟩ : ∃ z, w.heap.size = z := ⟨_, rfl⟩
  have e0 : (w.alloc (.cells #[.int .i64 k1, .int .i64 n1, .int .i64 m1, .int .i64 a1, .slice Aa xa ca] 28)).heap.size = N + 1 := by rw [← hN]; simp
  rw [hN] at r1 b0 h9
  rw [e0] at r2
  obtain ⟨W0, hW0⟩ : ∃ z, (w.alloc (.cells #[.int .i64 k1, .int .i64 n1, .int .i64 m1, .int .i64 a1, .slice Aa xa ca] 28)).alloc (.cells #[.int .i64 k2, .int .i64 n2, .int .i64 m2, .int .i64 a2, .slice Ab xb cb] 28) = z := ⟨_, rfl⟩
  rw [hW0] at r1 r2 b0
  have HR1 := Lib.hid r1
  have HR2 := Lib.hid r2
  have HB0 := Lib.hid b0
  have HW0 := Lib.hid hW0
  have HNN := Lib.hid hN
  have hN0 : N < W0.heap.size := r1.lt
  have hb0N : Below w.heap.size w W0 := by rw [hN]; exact b0
  have HK0 := Lib.hid (HK.out.mono hb0N)
  have HIA0 := Lib.hid (HIA.out.below hb0N)
  have HIB0 := Lib.hid (HIB.out.below hb0N)
  have HSA := Lib.hid (sane_any W0 HK0.out)
  clear r1 r2 b0 hW0 e0 hb0N
  go_enter Tryz.func9, Tryz.ntmps9
  go_upto_region 1 with fail
  rw [HW0.out]
  clear hN
  go_wp2_with fail
  refine HSA.out.mono ?_
  rintro e w1 ⟨rfl, hb1⟩
  have HR11 := Lib.hid (HR1.out.below hb1 HR1.out.lt)
  have HR21 := Lib.hid (HR2.out.below hb1 HR2.out.lt)
  have HB1 := Lib.hid (HB0.out.trans (hb1.mono (Nat.le_of_lt hN0)))
  have HK1 := Lib.hid (HK0.out.mono hb1)
  have HIA1 := Lib.hid (HIA0.out.below hb1)
  have HIB1 := Lib.hid (HIB0.out.below hb1)
  have hN1 : N < w1.heap.size := Nat.lt_of_lt_of_le hN0 hb1.size
  clear hb1
  go_wp2_with (first | ((with_reducible refine load_trow (o := ⟨some 12, _, _, _, _, _⟩) (.tmp 2) N _ HR11.out rfl ?_ ?_ ?_ ?_); rfl; rfl; rfl) | ((with_reducible refine load_trow (o := ⟨some 13, _, _, _, _, _⟩) (.tmp 3) (N + 1) _ HR21.out rfl ?_ ?_ ?_ ?_); rfl; rfl; rfl))
  have b2 : Below w1.heap.size w1 (w1.alloc (.cells #[.int .i64 k1, .int .i64 n1, .int .i64 m1, .int .i64 a1, .slice Aa xa ca, .int .i64 k2, .int .i64 n2, .int .i64 m2, .int .i64 a2, .slice Ab xb cb] 28)) := (Below.refl _ _).alloc (Nat.le_refl _) _
  have hin := HIN.out _ w1.heap.size 2 (RowAt.new w1 28 #[.int .i64 k1, .int .i64 n1, .int .i64 m1, .int .i64 a1, .slice Aa xa ca, .int .i64 k2, .int .i64 n2, .int .i64 m2, .int .i64 a2, .slice Ab xb cb]) (HIA1.out.below b2) (HIB1.out.below b2)
  have HFW2 := Lib.hid (HFW.out _ _ _ hin)
  obtain ⟨W2, hW2⟩ : ∃ z, w1.alloc (.cells #[.int .i64 k1, .int .i64 n1, .int .i64 m1, .int .i64 a1, .slice Aa xa ca, .int .i64 k2, .int .i64 n2, .int .i64 m2, .int .i64 a2, .slice Ab xb cb] 28) = z := ⟨_, rfl⟩
  rw [hW2] at HFW2 b2 ⊢
  have hN2 : N < W2.heap.size := Nat.lt_of_lt_of_le hN1 b2.size
  have HB2 := Lib.hid (HB1.out.trans (b2.mono (Nat.le_of_lt hN1)))
  have HR12 := Lib.hid (HR11.out.below b2 hN1)
  have HK2 := Lib.hid (HK1.out.mono b2)
  have HIA2 := Lib.hid (HIA1.out.below b2)
  clear hin b2 hW2
  refine HFW2.out.mono ?_
  rintro e w3 ⟨v3, L3, rfl, hL3, ho3, hb3⟩
  have ht3 := ho3.terms
  rw [hL3] at ht3
  obtain ⟨A3, n3, c3, rfl⟩ := ho3.slice3
  have hnc : n3 ≤ c3 := by
    rcases ho3.own.2 with ⟨h1, _⟩ | ⟨g, cap, cur, h1, _, _, h2, _⟩
    · cases h1; exact Nat.le_refl _
    · cases h1; exact h2
  obtain ⟨rfl, b, o, rfl, hsub⟩ := terms_two ht3
  have HT3 := Lib.hid hsub
  have hN3 : N < w3.heap.size := Nat.lt_of_lt_of_le hN2 hb3.size
  have HB3 := Lib.hid (HB2.out.trans (hb3.mono (Nat.le_of_lt hN2)))
  have HR13 := Lib.hid (HR12.out.below hb3 hN2)
  have HK3 := Lib.hid (HK2.out.mono hb3)
  have HIA3 := Lib.hid (HIA2.out.below hb3)
  have hc31 : 1 ≤ c3 := by omega
  have hc31i : (1 : Int) ≤ (c3 : Int) := by omega
  have hc32i : (2 : Int) ≤ (c3 : Int) := by omega
  clear hb3 ho3 hL3 ht3 hsub
  go_wp2_with fail
  refine Calls.mono (HPRA.out w3 _ HK3.out (HT3.out _ 0).1) ?_
  rintro e w4 ⟨rfl, hb4⟩
  have HT4 := Lib.hid (fun c1 c2 => And.intro ((HT3.out c1 c2).1.below hb4) ((HT3.out c1 c2).2.below hb4))
  have hN4 : N < w4.heap.size := Nat.lt_of_lt_of_le hN3 hb4.size
  have HB4 := Lib.hid (HB3.out.trans (hb4.mono (Nat.le_of_lt hN3)))
  have HR14 := Lib.hid (HR13.out.below hb4 hN3)
  have HK4 := Lib.hid (HK3.out.mono hb4)
  have HIA4 := Lib.hid (HIA3.out.below hb4)
  clear hb4
  go_wp2_with fail
  refine Calls.mono (HPRB.out w4 _ HK4.out (HT4.out 0 _).2) ?_
  rintro e w5 ⟨rfl, hb5⟩
  have HT5 := Lib.hid (fun c1 c2 => And.intro ((HT4.out c1 c2).1.below hb5) ((HT4.out c1 c2).2.below hb5))
  have hN5 : N < w5.heap.size := Nat.lt_of_lt_of_le hN4 hb5.size
  have HB5 := Lib.hid (HB4.out.trans (hb5.mono (Nat.le_of_lt hN4)))
  have HR15 := Lib.hid (HR14.out.below hb5 hN4)
  have HIA5 := Lib.hid (HIA4.out.below hb5)
  clear hb5
  have HV5 := Lib.hid (HVA.out w5 HIA5.out)
  have HD : Hid (va ≠ vt → decide ((xa : Int) ≤ 12) = false) := Lib.hid (fun h => by
    simp only [decide_eq_false_iff_not]
    intro h2
    exact h (HEQ.out (by omega)))
  cases va <;> cases vt <;> cases vb
  all_goals
    first | rw [er1, er2] | rw [er1] | rw [er2]
    try (have dx := HD.out (by decide))
    go_wp2_with ((with_reducible refine load_trow (o := ⟨some 30, _, _, _, _, _⟩) (.tmp 2) N _ HR15.out rfl ?_ ?_ ?_ ?_); rfl; rfl; rfl)
    refine HV5.out.mono ?_
    rintro e w6 ⟨rfl, hb6⟩
    have c64 : w6.cell? ⟨N, 4, none⟩ = some (.slice Aa xa ca) := (HR15.out.below hb6 hN5).cell 4
    have hN6 : N ≤ w6.heap.size := Nat.le_trans (Nat.le_of_lt hN5) hb6.size
    have HB6 := Lib.hid (HB5.out.trans (hb6.mono (Nat.le_of_lt hN5)))
    have HS6 : Hid (∀ W c1 c2, Below w6.heap.size w6 W → Calls Tryz.prog 18 #[.slice (some ⟨b, o, none⟩) 1 c1, .slice (some ⟨b, o + 5, none⟩) 1 c2] W fun e w' => e = .returned (.bool sq) ∧ Below w6.heap.size w6 w') := Lib.hid (fun W c1 c2 h =>
      (HSM.out W _ _ (((HT5.out c1 0).1.below hb6).below h) (((HT5.out 0 c2).2.below hb6).below h)).mono (fun e w' ⟨h1, h2⟩ => ⟨h1, h.trans (h2.mono h.size)⟩))
    have HS7 : Hid (∀ W, Below w6.heap.size w6 W → Calls Tryz.prog 18 #[.slice (some ⟨b, o, none⟩) 1 c3, .slice (if c3 = 1 then some ⟨b, o, none⟩ else some ⟨b, o + 5, none⟩) 1 (c3 - 1)] W fun e w' => e = .returned (.bool sq) ∧ Below w6.heap.size w6 w') := Lib.hid (fun W h => by
      rw [if_neg (by omega)]
      exact HS6.out W _ _ h)
    clear hb6
    go_wp2_with fail
    first
      | (have hno : (PA == PB) = sq := by first | exact HPS.out rfl rfl | exact HPS.out trivial trivial | exact HPS.out)
      | (go_quiet (fail)
         go_wp2_with fail
         go_ret
         exact ⟨rfl, by rw [HNN.out]; first | exact HB6.out | exact below_drewN HB6.out _⟩)
  all_goals
    cases sq
    · skip
      go_region_held3 (fun W => Below w6.heap.size w6 W) (first | assumption | exact Below.refl _ _ | exact Below.drew (by assumption) | exact Below.drew (Below.refl _ _)) (first | (go_at_call 18; (first | (with_reducible refine (HS7.out _ ?_).mono ?_) | (with_reducible refine (HS6.out _ _ _ ?_).mono ?_)); (first | with_reducible assumption | exact Below.refl _ _ | exact Below.drew (by assumption) | exact Below.drew (Below.refl _ _)); rintro e Z ⟨rfl, hZ⟩))
      go_wp2_with fail
      go_ret
      exact ⟨rfl, by rw [HNN.out]; exact HB6.out.trans (Below.mono (by assumption) hN6)⟩
    · obtain rfl := eq_of_beq hno
      clear hno
      go_region_held3 (fun W => Below w6.heap.size w6 W) (first | assumption | exact Below.refl _ _ | exact Below.drew (by assumption) | exact Below.drew (Below.refl _ _)) (first | (go_at_call 18; (first | (with_reducible refine (HS7.out _ ?_).mono ?_) | (with_reducible refine (HS6.out _ _ _ ?_).mono ?_)); (first | with_reducible assumption | exact Below.refl _ _ | exact Below.drew (by assumption) | exact Below.drew (Below.refl _ _)); rintro e Z ⟨rfl, hZ⟩))
      go_wp2_with fail
      go_ret
      exact ⟨rfl, by rw [HNN.out]; exact HB6.out.trans (Below.mono (by assumption) hN6)⟩
end Go.Proofs.YtfiabonacpepnaaGreatDoor
