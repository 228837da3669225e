/- ContractMatchesReference: the walk (printed by gen_mr.py). -/
import Derived.Test.YtfiabonacpepnaaGreatDoorCtRp
namespace Go.Proofs.YtfiabonacpepnaaGreatDoor
open Go Go.RowKit Go.Lib Go.Shelf Go.Maps

set_option maxRecDepth 100000 in
set_option maxHeartbeats 8000000 in
theorem matches_yes (A : Option Addr) (n c : Nat) (la : List TermV) (B : Option Addr) (m d : Nat) (lb : List TermV) (w : World) (hK : KAt w) (hta : TermsIn w (.slice A n c) la) (hna : la.length = n) (hn : n ≤ 140737488351232) (hoa : ∀ t ∈ la, t.acc.length ≤ 9223372036854775807) (h64a : ∀ t ∈ la, Ok64 t)
    (htb : TermsIn w (.slice B m d) lb) (hmb : lb.length = m) (hm : m ≤ 140737488351232) (hob : ∀ t ∈ lb, t.acc.length ≤ 9223372036854775807) (h64b : ∀ t ∈ lb, Ok64 t) :
    Calls Tryz.prog 3 #[.slice A n c, .slice B m d] w fun e w' => e = .returned (.bool true) ∧ Below w.heap.size w w' := by
  have HFA := Lib.hid (fun W (h : TermsIn W (.slice A n c) la) => few_any A n c la W h hna hn hoa)
  have HFB := Lib.hid (fun W (h : TermsIn W (.slice B m d) lb) => few_any B m d lb W h hmb hm hob)
  have hacF := few_acc h64a
  have hacG := few_acc h64b
  have hlF := few_len la
  have hlG := few_len lb
  obtain ⟨F, hF⟩ : ∃ F, fewT la = F := ⟨_, rfl⟩
  obtain ⟨G, hG⟩ : ∃ F, fewT lb = F := ⟨_, rfl⟩
  rw [hF] at HFA hacF hlF
  rw [hG] at HFB hacG hlG
  have HTA := Lib.hid hta
  have HTB := Lib.hid htb
  have HK := Lib.hid hK
  have HAF := Lib.hid hacF
  have HAG := Lib.hid hacG
  have HPR := Lib.hid (fun W v (h : KAt W) (h2 : TermsAt W v F) => print_any F v W h h2 (by omega) hacF)
  have HRP := Lib.hid (fun W v (h2 : TermsAt W v F) => rprint_any F v W h2 (by omega) hacF)
  have HSM := Lib.hid (fun W u v (h1 : TermsAt W u F) (h2 : TermsAt W v G) => Same_any F G u v W (by omega) (by omega) h1 h2 (fun t h => (hacF t h).1) (fun t h => (hacG t h).1))
  have HRS := Lib.hid (fun W u v (h1 : TermsAt W u F) (h2 : TermsAt W v G) => rSame_any F G u v W (by omega) (by omega) h1 h2 (fun t h => (hacF t h).1) (fun t h => (hacG t h).1))
  have HSS := Lib.hid (fun W u v (h1 : TermsAt W u F) (h2 : TermsAt W v F) => Same_any F F u v W (by omega) (by omega) h1 h2 (fun t h => (hacF t h).1) (fun t h => (hacF t h).1))
  rw [sameTs_iff.2 rfl] at HSS
  obtain ⟨n1, hn1⟩ : ∃ z, F.length = z := ⟨_, rfl⟩
  have HN := Lib.hid hn1
  rw [hn1] at hlF
  obtain ⟨sg, hsg⟩ : ∃ z, sameTs F G = z := ⟨_, rfl⟩
  obtain ⟨PF, hPF⟩ : ∃ z, printV F = z := ⟨_, rfl⟩
  obtain ⟨eF, heF⟩ : ∃ z, errI (goodL F) = z := ⟨_, rfl⟩
  rw [hsg] at HSM HRS
  rw [hPF, heF] at HPR HRP
  unfold strV at HPR HRP
  clear hK hta hna hn hoa h64a htb hmb hm hob h64b hacF hacG hF hG hn1 hsg hPF heF
  go_enter Tryz.func3, Tryz.ntmps3
  go_wp2_with fail
  refine (sane_any w HK.out).mono ?_
  rintro e w1 ⟨rfl, hb1⟩
  have HB1 := Lib.hid hb1
  have hs1 := hb1.size
  have HTA1 := Lib.hid (HTA.out.below hb1)
  have HTB1 := Lib.hid (HTB.out.below hb1)
  clear hb1
  go_wp2_with fail
  refine (HFA.out w1 HTA1.out).mono ?_
  rintro e w2 ⟨v2, L2, rfl, hL2, ho2, hb2⟩
  have ht2 := ho2.terms
  rw [hL2] at ht2
  obtain ⟨A2, c2, rfl⟩ := ht2.slice
  rw [HN.out] at ht2 ⊢
  have HT2 := Lib.hid ht2
  have HB2 := Lib.hid (HB1.out.trans (hb2.mono hs1))
  have HTB2 := Lib.hid (HTB1.out.below hb2)
  have hs2 : w.heap.size ≤ w2.heap.size := HB2.out.size
  clear hb2 ho2 hL2 ht2
  go_wp2_with fail
  refine (HFB.out w2 HTB2.out).mono ?_
  rintro e w3 ⟨v3, L3, rfl, hL3, ho3, hb3⟩
  have ht3 := ho3.terms
  rw [hL3] at ht3
  obtain ⟨A3, c3, rfl⟩ := ht3.slice
  have HT3 := Lib.hid (And.intro (HT2.out.below hb3) ht3)
  have HB3 := Lib.hid (HB2.out.trans (hb3.mono hs2))
  clear hb3 ho3 hL3 ht3
  obtain ⟨m1, hm1⟩ : ∃ z, G.length = z := ⟨_, rfl⟩
  rw [hm1] at HT3 hlG ⊢
  clear hm1
  go_wp2_with fail
  go_loopw [6] (fun iv wr => ∃ j : Nat, iv = .int .i64 j ∧ j ≤ n1 ∧ Hid (Below w.heap.size w wr ∧ TermsAt wr (.slice A2 n1 c2) F ∧ TermsAt wr (.slice A3 m1 c3) G)) (fun iv _ => n1 - (RowKit.intOf iv).toNat)
  case atStart => exact ⟨0, rfl, by omega, Lib.hid ⟨HB3.out, HT3.out.1, HT3.out.2⟩⟩
  case round =>
    obtain ⟨j, rfl, hj, HS⟩ := hrel
    have hsr : w.heap.size ≤ wr.heap.size := HS.out.1.size
    by_cases hj2 : j < n1
    · have hjd : decide (j < n1) = true := by simpa using hj2
      obtain ⟨f, hf⟩ : ∃ x, F[j]? = some x := ⟨_, List.getElem?_eq_getElem (by have := HN.out; omega)⟩
      obtain ⟨b, o, v1, rfl, hlt, hi1, hcell⟩ := HS.out.2.1.get hf
      have hac := HAF.out f (List.mem_of_getElem? hf)
      have HC1 : Hid (∀ W, Below wr.heap.size wr W → ∀ (j2 : Nat) x, (termC f v1)[j2]? = some x → W.cell? ⟨b, o + j * 5 + j2, none⟩ = some x) := Lib.hid (fun W hW j2 x hx => (hW.cell (p := ⟨b, o + j * 5 + j2, none⟩) hlt).trans (hcell j2 x hx))
      have HV1 := Lib.hid (fun W (hW : Below wr.heap.size wr W) => validC_any f v1 W hac.1 (hi1.below hW) hac.2)
      have HV2 := Lib.hid (fun W (hW : Below wr.heap.size wr W) => validR_any f v1 W hac.1 (hi1.below hW) hac.2)
      obtain ⟨q, hq⟩ : ∃ q, validT f = q := ⟨_, rfl⟩
      rw [hq] at HV1 HV2
      have qq : (q != q) = false := by simp
      clear hf hcell hlt hi1 hac hq
      go_wp2_with fail
      refine wp_region_held_drew (S := fun W => Below wr.heap.size wr W) (by kernel_rfl) (Below.refl _ _).drew (fun hHeld => ?_)
      refine tk 0 (v := ?_) rfl (by kernel_rfl) (fun _ _ _ h => h) (by rfl) (by assumption) ?_ ?_
      rotate_left
      · intro w hSw
        go_simp
        all_goals with_reducible rfl
      simp only [Act.put, sa, s0, s1]
      refine tk 1 (v := ?_) rfl (by kernel_rfl) (fun _ _ _ h => h) (by rfl) (by assumption) ?_ ?_
      rotate_left
      · intro w hSw
        go_simp
        all_goals with_reducible rfl
      simp only [Act.put, sa, s0, s1]
      refine tk 2 (v := ?_) rfl (by kernel_rfl) (fun _ _ _ h => h) (by rfl) (by assumption) ?_ ?_
      rotate_left
      · intro w hSw
        go_simp
        all_goals with_reducible rfl
      simp only [Act.put, sa, s0, s1]
      refine wpAnyH_take (i := 3) (oi := ⟨_, _, _, _, _, _⟩) rfl (by kernel_rfl) (by kernel_rfl) (by kernel_rfl) (fun _ _ _ h => h) (yields_at 28 (.tmp 24) b (o + j * 5) (termC f v1) _ (fun W hW => HC1.out W hW) Tryz.underlying28 (by rfl) rfl rfl rfl term_size) (by assumption) ?_
      simp only [Act.put, sa, s0, s1]
      refine tk 5 (v := ?_) rfl (by kernel_rfl) (fun _ _ _ h => h) (by rfl) (by assumption) ?_ ?_
      rotate_left
      · intro w hSw
        go_simp
        all_goals with_reducible rfl
      simp only [Act.put, sa, s0, s1]
      refine tk 6 (v := ?_) rfl (by kernel_rfl) (fun _ _ _ h => h) (by rfl) (by assumption) ?_ ?_
      rotate_left
      · intro w hSw
        go_simp
        all_goals with_reducible rfl
      simp only [Act.put, sa, s0, s1]
      refine tk 7 (v := ?_) rfl (by kernel_rfl) (fun _ _ _ h => h) (by rfl) (by assumption) ?_ ?_
      rotate_left
      · intro w hSw
        go_simp
        all_goals with_reducible rfl
      simp only [Act.put, sa, s0, s1]
      refine wpAnyH_take (i := 8) (oi := ⟨_, _, _, _, _, _⟩) rfl (by kernel_rfl) (by kernel_rfl) (by kernel_rfl) (fun _ _ _ h => h) (yields_at 28 (.tmp 29) b (o + j * 5) (termC f v1) _ (fun W hW => HC1.out W hW) Tryz.underlying28 (by rfl) rfl rfl rfl term_size) (by assumption) ?_
      simp only [Act.put, sa, s0, s1]
      refine rd 4 (by kernel_rfl) rfl fun K hK => ?_
      go_simp
      go_at_call 14
      refine (HV1.out _ (Below.refl _ _).drew).mono ?_
      rintro e W5 ⟨rfl, hb5⟩
      have HB5 : Hid (Below wr.heap.size wr W5) := Lib.hid ((Below.refl wr.heap.size wr).drew.trans hb5)
      clear hb5
      go_wp2_with fail
      refine hK.out _ _ HB5.out (fun hHeld => ?_)
      clear hK K
      try simp only [Act.put, sa, s0, s1]
      refine rd 9 (by kernel_rfl) rfl fun K hK => ?_
      go_simp
      go_at_call 15
      refine (HV2.out _ HB5.out).mono ?_
      rintro e W6 ⟨rfl, hb6⟩
      have HB6 : Hid (Below wr.heap.size wr W6) := Lib.hid (HB5.out.trans (hb6.mono HB5.out.size))
      clear hb6
      go_wp2_with fail
      refine hK.out _ _ HB6.out (fun hHeld => ?_)
      clear hK K
      try simp only [Act.put, sa, s0, s1]
      refine tk 10 (v := ?_) rfl (by kernel_rfl) (fun _ _ _ h => h) (by rfl) (by assumption) ?_ ?_
      rotate_left
      · intro w hSw
        go_simp
        all_goals with_reducible rfl
      simp only [Act.put, sa, s0, s1]
      refine wpAnyH_done (by kernel_rfl) ?_ _
      have HEND : Hid (Below w.heap.size w W6 ∧ TermsAt W6 (.slice (some ⟨b, o, none⟩) n1 c2) F ∧ TermsAt W6 (.slice A3 m1 c3) G) := Lib.hid ⟨HS.out.1.trans (HB6.out.mono hsr), HS.out.2.1.below HB6.out, HS.out.2.2.below HB6.out⟩
      go_wp2_with fail
      go_roundw
      case rel => exact ⟨j + 1, by go_num, by omega, HEND⟩
      case measure => simp [RowKit.intOf]; omega
    · obtain rfl : j = n1 := by omega
      have hjd : decide (j < j) = false := by simp
      go_wp2_with fail
      refine (HPR.out wr _ (HK.out.mono HS.out.1) HS.out.2.1).mono ?_
      rintro e w5 ⟨rfl, hb5⟩
      have H5 := Lib.hid (And.intro (HS.out.1.trans (hb5.mono hsr)) (And.intro (HS.out.2.1.below hb5) (HS.out.2.2.below hb5)))
      clear hb5
      go_wp2_with fail
      refine (HRP.out w5 _ H5.out.2.1).mono ?_
      rintro e w6 ⟨rfl, hb6⟩
      have H6 := Lib.hid (And.intro (H5.out.1.trans (hb6.mono H5.out.1.size)) (And.intro (H5.out.2.1.below hb6) (H5.out.2.2.below hb6)))
      clear hb6
      go_wp2_with fail
      refine (HSM.out w6 _ _ H6.out.2.1 H6.out.2.2).mono ?_
      rintro e w7 ⟨rfl, hb7⟩
      have H7 := Lib.hid (And.intro (H6.out.1.trans (hb7.mono H6.out.1.size)) (And.intro (H6.out.2.1.below hb7) (H6.out.2.2.below hb7)))
      clear hb7
      go_wp2_with fail
      refine (HRS.out w7 _ _ H7.out.2.1 H7.out.2.2).mono ?_
      rintro e w8 ⟨rfl, hb8⟩
      have H8 := Lib.hid (And.intro (H7.out.1.trans (hb8.mono H7.out.1.size)) (And.intro (H7.out.2.1.below hb8) (H7.out.2.2.below hb8)))
      clear hb8
      go_wp2_with fail
      refine (HSS.out w8 _ _ H8.out.2.1 H8.out.2.1).mono ?_
      rintro e w9 ⟨rfl, hb9⟩
      have H9 := Lib.hid (H8.out.1.trans (hb9.mono H8.out.1.size))
      clear hb9
      go_wp2_with fail
      go_ret
      exact ⟨rfl, H9.out⟩
end Go.Proofs.YtfiabonacpepnaaGreatDoor
