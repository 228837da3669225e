/- WireTruncated: the walk of the statement. -/
import Derived.Test.YtmakkfgdpdbcnaaDoorWireS
import Derived.Test.YtmakkfgdpdbcnaaDoorWireB
import Derived.Test.YtmakkfgdpdbcnaaDoorBaseB
namespace Go.Proofs.YtmakkfgdpdbcnaaDoor
open Go Go.RowKit

theorem int_cut (n : Int) (m : Nat) (h : m < (WireP.enc (WireP.zz n)).length) : intSpec ((WireP.enc (WireP.zz n)).take m) 0 = (0, 0, 10) := by
  unfold intSpec
  rw [if_neg (by simp)]
  unfold intOk
  rw [show (0 : Int).toNat = 0 from rfl, List.drop_zero, WireP.dec_take_enc n m h]
theorem str_cut (t : List UInt8) (ht : t.length ≤ 65536) (m : Nat) (h : m < (WireP.enc (WireP.zz t.length) ++ t).length) : strSpec ((WireP.enc (WireP.zz t.length) ++ t).take m) 0 = ([], 0, 10) := by
  by_cases hm : m < (WireP.enc (WireP.zz t.length)).length
  · unfold strSpec
    rw [List.take_append_of_le_length (by omega), int_cut _ m hm]
    rfl
  · have e : intSpec ((WireP.enc (WireP.zz t.length) ++ t).take m) 0 = ((t.length : Int), ((WireP.enc (WireP.zz t.length)).length : Int), (0 : Int)) := by
      unfold intSpec
      rw [if_neg (by simp)]
      unfold intOk
      rw [show (0 : Int).toNat = 0 from rfl, List.drop_zero, List.take_append, List.take_of_length_le (by omega), WireP.dec_enc (by omega) (by omega)]
      simp
    unfold strSpec
    rw [e]
    dsimp only
    rw [List.length_append] at h
    rw [if_neg (by simp), if_pos (Or.inr (Or.inr (by rw [List.length_take, List.length_append]; omega)))]

theorem enc_pos (n : Int) : 0 < (WireP.enc (WireP.zz n)).length := WireP.encF_pos 8 _

set_option maxRecDepth 100000 in
set_option maxHeartbeats 2000000 in
theorem truncated_walk (c d : Int) (text : ByteArray) (k : Int) (w : World) (hT : NibAt w) (hw : 0 < w.heap.size) (h1 : -9223372036854775808 ≤ c) (h2 : c ≤ 9223372036854775807)
    (h3 : -9223372036854775808 ≤ d) (h4 : d ≤ 9223372036854775807) (h5 : -9223372036854775808 ≤ k) (h6 : k ≤ 9223372036854775807) :
    Calls Tryd.prog 7 #[.int .i64 c, .int .i64 d, .string text, .int .i64 k] w fun e w' => e = .returned (.bool true) ∧ Below w.heap.size w w' := by
  have HT := Lib.hid hT; clear hT
  have bn := numFrom_bd c
  have bm := numFrom_bd d
  have NC := number_any c
  have ND := number_any d
  obtain ⟨n, en⟩ : ∃ n, numFrom c = n := ⟨_, rfl⟩
  obtain ⟨m, em⟩ : ∃ m, numFrom d = m := ⟨_, rfl⟩
  rw [en] at bn NC
  rw [em] at bm ND
  clear en em
  obtain ⟨mt, T, lt1, lt2, zt, xt, dt, nt⟩ := cut_ex text 200 200 rfl
  have zt' : T.size ≤ 200 := by omega
  clear zt dt
  have hTl : T.data.toList.length = T.size := by simp
  have PA := putInt_any n
  have PB := putInt_any m
  have PS := putString_any T
  have e1 : putSpec n = (WireP.enc (WireP.zz n), 0) := by unfold putSpec; rw [if_neg (by omega)]
  have e2 : putSpec m = (WireP.enc (WireP.zz m), 0) := by unfold putSpec; rw [if_neg (by omega)]
  have e3 : putStrSpec T.data.toList = (WireP.enc (WireP.zz T.data.toList.length) ++ T.data.toList, 0) := by unfold putStrSpec; rw [if_neg (by omega)]
  rw [e1] at PA
  rw [e2] at PB
  rw [e3] at PS
  clear e1 e2 e3
  have lA : (WireP.enc (WireP.zz n)).length ≤ 9 := WireP.encF_len 8 _
  have lB : (WireP.enc (WireP.zz m)).length ≤ 9 := WireP.encF_len 8 _
  have lS : (WireP.enc (WireP.zz T.data.toList.length) ++ T.data.toList).length ≤ 209 := by
    have h9 : (WireP.enc (WireP.zz T.data.toList.length)).length ≤ 9 := WireP.encF_len 8 _
    rw [List.length_append]; omega
  have pA := enc_pos n
  have pS : 0 < (WireP.enc (WireP.zz T.data.toList.length) ++ T.data.toList).length := by
    have := enc_pos T.data.toList.length
    rw [List.length_append]; omega
  have cA := int_cut n
  have cS := str_cut T.data.toList (by omega)
  have hpre : n ≠ m → (WireP.enc (WireP.zz m)).take (WireP.enc (WireP.zz n)).length ≠ WireP.enc (WireP.zz n) := fun hne he => hne (WireP.enc_prefix (by omega) (by omega) (by omega) (by omega) he)
  have heq : n = m → WireP.enc (WireP.zz n) = WireP.enc (WireP.zz m) := fun h => by rw [h]
  obtain ⟨S, eS⟩ : ∃ S, WireP.enc (WireP.zz T.data.toList.length) ++ T.data.toList = S := ⟨_, rfl⟩
  obtain ⟨A, eA⟩ : ∃ A, WireP.enc (WireP.zz n) = A := ⟨_, rfl⟩
  obtain ⟨B, eB⟩ : ∃ B, WireP.enc (WireP.zz m) = B := ⟨_, rfl⟩
  rw [eS] at PS lS pS cS
  rw [eA] at PA lA pA cA hpre heq
  rw [eB] at PB lB hpre heq
  clear eS eA eB
  have bk1 := pickN_bd k A.length (by omega)
  have bk2 := pickN_bd k S.length (by omega)
  have K1 := pick_any k A.length
  have K2 := pick_any k S.length
  obtain ⟨j1, ej1⟩ : ∃ j : Nat, pickN k A.length = (j : Int) := ⟨(pickN k A.length).toNat, by omega⟩
  obtain ⟨j2, ej2⟩ : ∃ j : Nat, pickN k S.length = (j : Int) := ⟨(pickN k S.length).toNat, by omega⟩
  rw [ej1] at bk1 K1
  rw [ej2] at bk2 K2
  clear ej1 ej2
  have cA1 := cA j1 (by omega)
  have cS1 := cS j2 (by omega)
  clear cA cS hTl
  obtain ⟨X1, hX1⟩ : ∃ X : ByteArray, (ByteArray.mk A.toArray).extract 0 j1 = X := ⟨_, rfl⟩
  obtain ⟨X2, hX2⟩ : ∃ X : ByteArray, (ByteArray.mk S.toArray).extract 0 j2 = X := ⟨_, rfl⟩
  have dX1 : X1.data.toList = A.take j1 := by
    have := extract_list ⟨A.toArray⟩ 0 j1
    rw [Nat.zero_add] at this
    rw [← hX1, this]; simp
  have dX2 : X2.data.toList = S.take j2 := by
    have := extract_list ⟨S.toArray⟩ 0 j2
    rw [Nat.zero_add] at this
    rw [← hX2, this]; simp
  have I1 := int_any X1 0
  have I2 := string_any X2 0
  rw [dX1, cA1] at I1
  rw [dX2, cS1] at I2
  have z1 : X1.size ≤ 9 := by
    have := congrArg List.length dX1
    simp at this; omega
  have z2 : X2.size ≤ 209 := by
    have := congrArg List.length dX2
    simp at this; omega
  clear dX1 dX2 cA1 cS1
  have qA : ((A.length : Int) == 0) = false := by rw [beq_eq_false_iff_ne]; omega
  have qS : ((S.length : Int) == 0) = false := by rw [beq_eq_false_iff_ne]; omega
  have qA2 : ¬ A = [] := by intro h; rw [h] at pA; simp at pA
  have qS2 : ¬ S = [] := by intro h; rw [h] at pS; simp at pS
  have HI1 := Lib.hid I1; clear I1
  have HI2 := Lib.hid I2; clear I2
  have HK1 := Lib.hid K1; clear K1
  have HK2 := Lib.hid K2; clear K2
  have HPA := Lib.hid PA; clear PA
  have HPB := Lib.hid PB; clear PB
  have HPS := Lib.hid PS; clear PS
  have HNC := Lib.hid NC; clear NC
  have HND := Lib.hid ND; clear ND
  have Hpre := Lib.hid hpre; clear hpre
  have Heq := Lib.hid heq; clear heq
  go_enter Tryd.func7, Tryd.ntmps7
  go_wp2_with fail
  refine (sane_any _ HT.out hw).mono ?_
  rintro e w1 ⟨rfl, hb1⟩
  have HB1 := Lib.hid hb1; clear hb1
  go_wp2_with fail
  refine (HNC.out _ h1 h2).mono ?_
  rintro e w2 ⟨rfl, hb2⟩
  have HB2 := Lib.hid (HB1.out.trans (hb2.mono HB1.out.size)); clear hb2
  go_wp2_with fail
  refine (HPA.out _ (by omega) (by omega)).mono ?_
  rintro e w3 ⟨rfl, hb3⟩
  have HB3 := Lib.hid (HB2.out.trans (hb3.mono HB2.out.size)); clear hb3
  unfold V2s; dsimp only
  go_wp2_with fail
  refine (HND.out _ h3 h4).mono ?_
  rintro e w4 ⟨rfl, hb4⟩
  have HB4 := Lib.hid (HB3.out.trans (hb4.mono HB3.out.size)); clear hb4
  go_wp2_with fail
  refine (HPB.out _ (by omega) (by omega)).mono ?_
  rintro e w5 ⟨rfl, hb5⟩
  have HB5 := Lib.hid (HB4.out.trans (hb5.mono HB4.out.size)); clear hb5
  unfold V2s; dsimp only
  go_wp2_with fail
  refine (HPS.out _ (by omega)).mono ?_
  rintro e w6 ⟨rfl, hb6⟩
  have HB6 := Lib.hid (HB5.out.trans (hb6.mono HB5.out.size)); clear hb6
  unfold V2s; dsimp only
  go_wp2_with fail
  refine (HK1.out _ h5 h6 (by omega) (by omega)).mono ?_
  rintro e w' ⟨rfl, rfl⟩
  go_wp2_with fail
  refine (HI1.out _ (by omega) (by omega) (by omega)).mono ?_
  rintro e w' ⟨rfl, rfl⟩
  unfold V3; dsimp only
  go_wp2_with fail
  refine (HK2.out _ h5 h6 (by omega) (by omega)).mono ?_
  rintro e w' ⟨rfl, rfl⟩
  go_wp2_with fail
  refine (HI2.out _ (by omega) (by omega) (by omega)).mono ?_
  rintro e w' ⟨rfl, rfl⟩
  unfold V3s; dsimp only
  have dB : ((ByteArray.mk B.toArray).extract 0 A.length).toList = B.take A.length := by
    have := extract_list ⟨B.toArray⟩ 0 A.length
    rw [Nat.zero_add] at this
    rw [this, ByteArray.toList_eq]; simp
  have HdB := Lib.hid dB; clear dB
  by_cases hnm : n = m
  · subst hnm
    have hAB := Heq.out rfl
    have hP : (((ByteArray.mk B.toArray).extract 0 A.length).toList == A) = true := by
      rw [HdB.out, hAB, List.take_of_length_le (Nat.le_refl _), beq_self_eq_true]
    have hlen : A.length ≤ B.length := by rw [hAB]; exact Nat.le_refl _
    clear hAB
    go_wp2_with fail
    refine (HNC.out _ h1 h2).mono ?_
    rintro e w7 ⟨rfl, hb7⟩
    have HB7 := Lib.hid (HB6.out.trans (hb7.mono HB6.out.size)); clear hb7
    go_wp2_with fail
    refine (HND.out _ h3 h4).mono ?_
    rintro e w8 ⟨rfl, hb8⟩
    have HB8 := Lib.hid (HB7.out.trans (hb8.mono HB7.out.size)); clear hb8
    go_wp2_with fail
    go_ret
    exact ⟨rfl, HB8.out⟩
  · have hP : (((ByteArray.mk B.toArray).extract 0 A.length).toList == A) = false := by
      rw [HdB.out, beq_eq_false_iff_ne]; exact Hpre.out hnm
    have hq : (n == m) = false := by rw [beq_eq_false_iff_ne]; exact hnm
    have Hnm := Lib.hid hnm; clear hnm
    by_cases hlen : A.length ≤ B.length
    all_goals
      go_wp2_with fail
      refine (HNC.out _ h1 h2).mono ?_
      rintro e w7 ⟨rfl, hb7⟩
      have HB7 := Lib.hid (HB6.out.trans (hb7.mono HB6.out.size)); clear hb7
      go_wp2_with fail
      refine (HND.out _ h3 h4).mono ?_
      rintro e w8 ⟨rfl, hb8⟩
      have HB8 := Lib.hid (HB7.out.trans (hb8.mono HB7.out.size)); clear hb8
      go_wp2_with fail
      go_ret
      exact ⟨rfl, HB8.out⟩
end Go.Proofs.YtmakkfgdpdbcnaaDoor
