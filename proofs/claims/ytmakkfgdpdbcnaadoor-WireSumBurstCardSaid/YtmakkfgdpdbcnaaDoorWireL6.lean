/- WireSumBurst: the walk of the statement. -/
import Derived.Test.YtmakkfgdpdbcnaaDoorWireS
import Derived.Test.YtmakkfgdpdbcnaaDoorBaseD
import Derived.Test.YtmakkfgdpdbcnaaDoorWireFlip
import Derived.BigRegion
namespace Go.Proofs.YtmakkfgdpdbcnaaDoor
open Go Go.RowKit

theorem pow8 (r : Nat) (h : r < 8) : 2 ^ r < 256 := by
  have := Nat.pow_le_pow_right (n := 2) (by omega) (show r ≤ 7 by omega)
  omega
theorem flip_eq (b : UInt8) (r : Nat) (h : r < 8) : bits BinOp.xor IntKind.u8 (b.toNat : Int) (2 ^ r % 256) = (((b ^^^ UInt8.ofNat (2 ^ r)).toNat : Nat) : Int) := by
  have hp := pow8 r h
  have e : ((2 : Int) ^ r % 256) = ((2 ^ r : Nat) : Int) := by
    have h1 : ((2 ^ r : Nat) : Int) = (2 : Int) ^ r := by simp
    rw [← h1]
    generalize 2 ^ r = p at hp
    omega
  have hb := b.toNat_lt
  rw [e, u8_xor_nat _ _ (by omega) hp, UInt8.toNat_xor]
  congr 2
  simp [UInt8.toNat_ofNat']; omega

theorem NibAt.drewN' {w : World} (h : NibAt w) (n : Nat) : NibAt (w.drewN n) := h

set_option maxRecDepth 100000 in
set_option maxHeartbeats 2000000 in
theorem burst_walk (s : ByteArray) (at_ : Int) (bs : Nat) (w : World) (hT : NibAt w) (hw : 0 < w.heap.size) (h1 : -9223372036854775808 ≤ at_) (h2 : at_ ≤ 9223372036854775807) (h3 : bs < 4294967296) :
    Calls Tryd.prog 8 #[.string s, .int .i64 at_, .int .u32 (bs : Int)] w fun e w' => e = .returned (.bool true) ∧ Below w.heap.size w w' := by
  have HT := Lib.hid hT; clear hT
  obtain ⟨mp, P, lp1, lp2, zp, xp, dp, np⟩ := cut_ex s 300 300 rfl
  have zp' : P.size ≤ 300 := by omega
  have zs : P.size ≤ s.size := by omega
  have Hdp := Lib.hid dp
  have xs : s.extract 0 P.size = P := by rw [zp]; exact xp
  clear zp dp
  have hcv := fun wx => Lib.run_convert_string_bytes (P := Tryd.prog) wx 9 38 5 P Tryd.underlying9 Tryd.underlying38 Tryd.underlying5
  by_cases hz : P.size = 0 ∨ bs = 0
  · have hbel : ∀ w1, Below w1.heap.size w1 (Lib.bytesWorld w1 5 P) := fun w1 => bytesWorld_below w1 5 P
    have Hbel := Lib.hid hbel; clear hbel
    by_cases hz1 : P.size = 0
    · have q1 : ((P.size : Int) == 0) = true := by rw [hz1]; rfl
      have Hz := Lib.hid hz1; clear hz hz1
      go_enter Tryd.func8, Tryd.ntmps8
      go_wp2_with fail
      refine (sane_any _ HT.out hw).mono ?_
      rintro e w1 ⟨rfl, hb1⟩
      have HB1 := Lib.hid hb1; clear hb1
      go_wp2_with fail
      all_goals go_ret
      all_goals exact ⟨rfl, HB1.out.trans ((Hbel.out w1).mono HB1.out.size)⟩
    · have q1 : ((P.size : Int) == 0) = false := by rw [beq_eq_false_iff_ne]; omega
      have q2 : ((bs : Int) == 0) = true := by rw [beq_iff_eq]; omega
      have Hz := Lib.hid hz; clear hz hz1
      go_enter Tryd.func8, Tryd.ntmps8
      go_wp2_with fail
      refine (sane_any _ HT.out hw).mono ?_
      rintro e w1 ⟨rfl, hb1⟩
      have HB1 := Lib.hid hb1; clear hb1
      go_wp2_with fail
      all_goals go_ret
      all_goals exact ⟨rfl, HB1.out.trans ((Hbel.out w1).mono HB1.out.size)⟩
  · have q1 : ((P.size : Int) == 0) = false := by rw [beq_eq_false_iff_ne]; omega
    have q2 : ((bs : Int) == 0) = false := by rw [beq_eq_false_iff_ne]; omega
    have hp0 : 1 ≤ P.size := by omega
    have hb0 : 1 ≤ bs := by omega
    clear hz
    have bk := pickN_bd at_ (8 * (P.size : Int)) (by omega)
    have PK := pick_any at_ (8 * (P.size : Int))
    obtain ⟨k1, ek⟩ : ∃ j : Nat, pickN at_ (8 * (P.size : Int)) = (j : Int) := ⟨(pickN at_ (8 * (P.size : Int))).toNat, by omega⟩
    rw [ek] at bk PK
    clear ek
    have HPK := Lib.hid PK; clear PK
    go_enter Tryd.func8, Tryd.ntmps8
    go_wp2_with fail
    refine (sane_any _ HT.out hw).mono ?_
    rintro e w1 ⟨rfl, hb1⟩
    have HB1 := Lib.hid hb1; clear hb1
    go_wp2_with fail
    refine (HPK.out _ h1 h2 (by omega) (by omega)).mono ?_
    rintro e w' ⟨rfl, rfl⟩
    go_wp2_with fail
    obtain ⟨cs0, N, hN, hcs0, hrow0, hpre0⟩ := bytesWorld_row w1 5 P
    have hbel0 := bytesWorld_below w1 5 P
    generalize grownCap w1 P.size 0 5 = cap
    generalize Lib.bytesWorld w1 5 P = W0 at *
    have HR0 := Lib.hid hrow0; clear hrow0
    have HP0 := Lib.hid hpre0; clear hpre0
    have HBel0 := Lib.hid hbel0; clear hbel0
    have Hcs0 := Lib.hid hcs0; clear hcs0
    clear hcv
    go_loopw [10, 11] (fun ch i wr => ∃ (k : Nat) (cs : Array Value) (l : List UInt8), k ≤ 32 ∧ k1 + k ≤ 8 * P.size ∧ i = .int .i64 k ∧ ch = .bool (!decide (bs % 2 ^ k = 0)) ∧
        Hid (RowF wr w1.heap.size 5 (N, N + 1) cs ∧ cs.size = N ∧ (∀ j, j < P.size → cs[j]? = (u8s l)[j]?) ∧ WireP.Flipped P.data.toList l bs k1 k ∧ Below w1.heap.size w1 wr)) (fun _ i _ => 32 - (intOf i).toNat)
    case atStart => exact ⟨0, cs0, P.data.toList, by omega, by omega, rfl, by simp [Nat.mod_one], Lib.hid ⟨HR0.out, Hcs0.out, HP0.out, WireP.flipped_start _ _ _, HBel0.out⟩⟩
    case round =>
      obtain ⟨k, cs, l, hk, hk2, rfl, rfl, hr⟩ := hrel
      by_cases hlt : k < 32 ∧ k1 + k < 8 * P.size
      · obtain ⟨l1, l2⟩ := hlt
        have ediv : (bs : Int) / 2 ^ k = ((bs / 2 ^ k : Nat) : Int) := by simp
        by_cases hb : bs / 2 ^ k % 2 = 1
        · have hq : (((bs : Int) / 2 ^ k).tmod 2 == 1) = true := by
            rw [ediv]; generalize bs / 2 ^ k = x at hb
            rw [beq_iff_eq, Int.tmod_eq_emod_of_nonneg (by omega)]; omega
          have Hb := Lib.hid hb; clear hb ediv
          obtain ⟨q, eq8⟩ : ∃ q : Nat, ((k1 : Int) + (k : Int)) / 8 = (q : Int) := ⟨(k1 + k) / 8, by omega⟩
          obtain ⟨r, er8⟩ : ∃ r : Nat, ((k1 : Int) + (k : Int)) % 8 = (r : Int) := ⟨(k1 + k) % 8, by omega⟩
          have hql : (q : Int) < (P.size : Int) := by omega
          have hr8 : r < 8 := by omega
          have Hq : Hid ((k1 + k) / 8 = q ∧ (k1 + k) % 8 = r) := Lib.hid ⟨by omega, by omega⟩
          obtain ⟨b, hb⟩ : ∃ b, l[q]? = some b := ⟨l[q]'(by rw [hr.out.2.2.2.1.1]; simp; omega), List.getElem?_eq_getElem _⟩
          have hc : wr.cell? ⟨w1.heap.size, q, none⟩ = some (.int .u8 (b.toNat : Int)) := by
            rw [hr.out.1.cell q, hr.out.2.2.1 q (by omega)]; unfold u8s; rw [List.getElem?_map, hb]; rfl
          have hf := hr.out.1.free q (by omega)
          have Hlb := Lib.hid hb; clear hb
          have hbl := b.toNat_lt
          have hx := flip_eq b r hr8
          have hvn : (UInt8.ofNat (2 ^ r)).toNat = 2 ^ r := by have := pow8 r hr8; simp [UInt8.toNat_ofNat']; omega
          have hfl := WireP.flipped_flip (start := k1) (v := UInt8.ofNat (2 ^ r)) hr.out.2.2.2.1 Hb.out (by rw [Hq.out.1]; exact Hlb.out) (by rw [hvn, Hq.out.2])
          rw [Hq.out.1] at hfl
          have hne := WireP.mod_ne1 bs k Hb.out
          have Hfl := Lib.hid hfl; clear hfl hvn
          have Hne := Lib.hid hne; clear hne
          generalize b ^^^ UInt8.ofNat (2 ^ r) = b2 at hx Hfl
          go_wp2_with fail
          go_region
          go_wp2_with fail
          go_roundw
          case rel =>
            refine ⟨k + 1, cs.setIfInBounds q (.int .u8 (b2.toNat : Int)), l.set q b2, by omega, by omega, by go_num, by simp [Hne.out], Lib.hid ⟨(hr.out.1.set q _).drew, by simp [hr.out.2.1], fun j hj => ?_, Hfl.out, ?_⟩⟩
            · have hll : l.length = P.size := by rw [hr.out.2.2.2.1.1]; simp
              by_cases hjk : j = q
              · subst hjk
                rw [Array.getElem?_setIfInBounds_self_of_lt (by rw [hr.out.2.1]; omega)]
                unfold u8s
                rw [List.getElem?_map, List.getElem?_set_self (by omega)]; rfl
              · rw [Array.getElem?_setIfInBounds_ne (Ne.symm hjk), hr.out.2.2.1 j hj]
                unfold u8s
                rw [List.getElem?_map, List.getElem?_map, List.getElem?_set_ne (Ne.symm hjk)]
            · exact (hr.out.2.2.2.2.setCell (p := ⟨w1.heap.size, q, none⟩) (Nat.le_refl _) _).drew
          case measure => simp [intOf]; omega
        · have hq : (((bs : Int) / 2 ^ k).tmod 2 == 1) = false := by
            rw [ediv]; generalize bs / 2 ^ k = x at hb
            rw [beq_eq_false_iff_ne, Int.tmod_eq_emod_of_nonneg (by omega)]; omega
          have hst := WireP.mod_step0 bs k hb
          have hn := WireP.flipped_skip hr.out.2.2.2.1 hb
          have Hn := Lib.hid hn; clear hn
          have Hst := Lib.hid hst; clear hst ediv hb
          go_wp2_with fail
          go_roundw
          case rel => exact ⟨k + 1, cs, l, by omega, by omega, by go_num, by rw [Hst.out], Lib.hid ⟨hr.out.1, hr.out.2.1, hr.out.2.2.1, Hn.out, hr.out.2.2.2.2⟩⟩
          case measure => simp [intOf]; omega
      · have hll : l.length = P.size := by rw [hr.out.2.2.2.1.1]; simp
        have hcv : ∀ m, (convert 38 9 (.slice (some ⟨w1.heap.size, 0, none⟩) P.size cap)).run Tryd.prog (wr.drewN m) = .ok (.string ⟨l.toArray⟩) (wr.drewN m) := fun m =>
          run_string_of_row (P := Tryd.prog) (wr.drewN m) 38 9 5 ⟨w1.heap.size, 0, none⟩ P.size cap l Tryd.underlying38 Tryd.underlying5 Tryd.underlying9 hll (fun j u hj => by
            have hlj : j < P.size := by
              have := (List.getElem?_eq_some_iff.1 hj).1
              simpa [u8s, hll] using this
            have := (hr.out.1.cell j).trans ((hr.out.2.2.1 j hlj).trans hj)
            rw [addr_add]; exact this)
        have hcv0 := hcv 0
        have sL : (ByteArray.mk l.toArray).size ≤ 140737488351232 := by
          show l.toArray.size ≤ _; rw [List.size_toArray, hll]; omega
        have key := WireP.flipped_crc hr.out.2.2.2.1 hk (by simp; omega)
        have CL := fun wx h => sum_any ⟨l.toArray⟩ wx sL h
        have CP := fun wx h => sum_any P wx (by omega) h
        rw [show (ByteArray.mk l.toArray).data.toList = l by simp] at CL
        generalize WireP.crc l = x at key CL
        generalize WireP.crc P.data.toList = y at key CP
        have hTr : NibAt wr := HT.out.below (HB1.out.trans (hr.out.2.2.2.2.mono HB1.out.size)) hw
        have HTr := Lib.hid hTr; clear hTr
        have HCL := Lib.hid CL; clear CL
        have HCP := Lib.hid CP; clear CP
        clear hll sL
        by_cases h0 : bs % 2 ^ k = 0
        · have exy := key.2 h0
          subst exy
          have hdec : decide (bs % 2 ^ k = 0) = true := by simpa using h0
          rw [hdec]
          clear h0 hdec key
          go_wp2_with fail
          all_goals
            go_quiet ((first | (go_at_call 21; with_reducible exact quiet_same (HCL.out _ (HTr.out.drewN' _))) | (go_at_call 21; with_reducible exact quiet_same (HCP.out _ (HTr.out.drewN' _)))))
            go_wp2_with fail
            go_ret
            exact ⟨rfl, below_drewN (HB1.out.trans (hr.out.2.2.2.2.mono HB1.out.size)) _⟩
        · have exy : x ≠ y := fun h => h0 (key.1 h)
          have hdec : decide (bs % 2 ^ k = 0) = false := by simpa using h0
          have hq1 : ((x : Int) == (y : Int)) = false := by rw [beq_eq_false_iff_ne]; omega
          have hq2 : ((x : Int) != (y : Int)) = true := by rw [bne_iff_ne]; omega
          rw [hdec]
          clear h0 hdec key exy
          go_wp2_with fail
          all_goals
            go_quiet ((first | (go_at_call 21; with_reducible exact quiet_same (HCL.out _ (HTr.out.drewN' _))) | (go_at_call 21; with_reducible exact quiet_same (HCP.out _ (HTr.out.drewN' _)))))
            go_wp2_with fail
            go_ret
            exact ⟨rfl, below_drewN (HB1.out.trans (hr.out.2.2.2.2.mono HB1.out.size)) _⟩
end Go.Proofs.YtmakkfgdpdbcnaaDoor
