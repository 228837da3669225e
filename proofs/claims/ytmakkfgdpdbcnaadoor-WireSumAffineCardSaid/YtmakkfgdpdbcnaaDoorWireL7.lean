/- WireSumAffine: the walk of the statement. -/
import Derived.Test.YtmakkfgdpdbcnaaDoorWireS
import Derived.Test.YtmakkfgdpdbcnaaDoorBaseC
import Derived.BigRegion
namespace Go.Proofs.YtmakkfgdpdbcnaaDoor
open Go Go.RowKit

theorem NibAt.drewN {w : World} (h : NibAt w) (n : Nat) : NibAt (w.drewN n) := h
theorem info_byte : (Tryd.prog.info? 5).map (fun i => (i.zero, i.size, i.bytes)) = some (some (.int .u8 0), 1, 1) := by kernel_rfl

set_option maxRecDepth 100000 in
set_option maxHeartbeats 2000000 in
theorem affine_walk (a b c : ByteArray) (w : World) (hT : NibAt w) (hw : 0 < w.heap.size) :
    Calls Tryd.prog 9 #[.string a, .string b, .string c] w fun e w' => e = .returned (.bool true) ∧ Below w.heap.size w w' := by
  have HT := Lib.hid hT; clear hT
  obtain ⟨i0, hi0, hz0, hz1, hz2⟩ := info_parts info_byte
  obtain ⟨n, na, nb, nc, n200, en, hmin⟩ := run_min4 Tryd.prog a.size b.size c.size 200 200 rfl
  have Hen := Lib.hid en; clear en
  have hmk := run_make_n (P := Tryd.prog) 38 5 i0 (.int .u8 0) Tryd.underlying38 hi0 hz0 hz1 n (by rw [hz2]; omega) (by omega)
  go_enter Tryd.func9, Tryd.ntmps9
  go_wp2_with fail
  refine (sane_any _ HT.out hw).mono ?_
  rintro e w1 ⟨rfl, hb1⟩
  have HB1 := Lib.hid hb1; clear hb1
  go_wp2_with fail
  obtain ⟨L, hL⟩ : ∃ L, WireP.xorL (WireP.xorL (a.data.toList.take n) (b.data.toList.take n)) (c.data.toList.take n) = L := ⟨_, rfl⟩
  have lL : L.length = n := by
    rw [← hL]; simp [WireP.xorL]; omega
  have HL := Lib.hid hL; clear hL
  have HlL := Lib.hid lL; clear lL
  go_loopw [10] (fun i wr => ∃ (k : Nat) (cs : Array Value), k ≤ n ∧ i = .int .i64 k ∧ Hid (RowAt wr w1.heap.size 5 cs ∧ cs.size = n ∧ (∀ j, j < k → cs[j]? = (u8s L)[j]?) ∧ Below w1.heap.size w1 wr)) (fun i _ => n - (intOf i).toNat)
  case atStart => exact ⟨0, madeCells #[.int .u8 0] n, by omega, rfl, Lib.hid ⟨RowAt.new _ _ _, size_madeCells _ _, fun j hj => by omega, (Below.refl _ _).alloc (Nat.le_refl _) _⟩⟩
  case round =>
    obtain ⟨k, cs, hk, rfl, hr⟩ := hrel
    by_cases hlt : k < n
    · have ka : (k : Int) < (a.size : Int) := by omega
      have kb : (k : Int) < (b.size : Int) := by omega
      have kc : (k : Int) < (c.size : Int) := by omega
      obtain ⟨va, hva⟩ : ∃ v, a[k] = v := ⟨_, rfl⟩
      obtain ⟨vb, hvb⟩ : ∃ v, b[k] = v := ⟨_, rfl⟩
      obtain ⟨vc, hvc⟩ : ∃ v, c[k] = v := ⟨_, rfl⟩
      have la := va.toNat_lt
      have lb := vb.toNat_lt
      have lc := vc.toNat_lt
      obtain ⟨t1, et1⟩ : ∃ t, va.toNat ^^^ vb.toNat = t := ⟨_, rfl⟩
      have lt1 : t1 < 256 := by rw [← et1]; exact u8_xor_lt (by omega) (by omega)
      obtain ⟨t2, et2⟩ : ∃ t, t1 ^^^ vc.toNat = t := ⟨_, rfl⟩
      have lt2 : t2 < 256 := by rw [← et2]; exact u8_xor_lt lt1 (by omega)
      have e1 : bits BinOp.xor IntKind.u8 (va.toNat : Int) (vb.toNat : Int) = (t1 : Int) := by rw [u8_xor_nat _ _ (by omega) (by omega), et1]
      have e2 : bits BinOp.xor IntKind.u8 (t1 : Int) (vc.toNat : Int) = (t2 : Int) := by rw [u8_xor_nat _ _ lt1 (by omega), et2]
      have hnew : Hid ((u8s L)[k]? = some (.int .u8 (t2 : Int))) := Lib.hid (by
        have ga : (a.data.toList.take n)[k]? = some va := by
          rw [List.getElem?_take_of_lt hlt, List.getElem?_eq_getElem (by simpa using ka)]; exact congrArg some hva
        have gb : (b.data.toList.take n)[k]? = some vb := by
          rw [List.getElem?_take_of_lt hlt, List.getElem?_eq_getElem (by simpa using kb)]; exact congrArg some hvb
        have gc : (c.data.toList.take n)[k]? = some vc := by
          rw [List.getElem?_take_of_lt hlt, List.getElem?_eq_getElem (by simpa using kc)]; exact congrArg some hvc
        have gl : L[k]? = some ((va ^^^ vb) ^^^ vc) := by
          rw [← HL.out]; unfold WireP.xorL
          rw [List.getElem?_zipWith, List.getElem?_zipWith, ga, gb, gc]
        unfold u8s
        rw [List.getElem?_map, gl, ← et2, ← et1]
        simp)
      have hc0 : wr.cell? ⟨w1.heap.size, k, none⟩ = some (cs.getD k undef) := by
        rw [hr.out.1.cell k, Array.getElem?_eq_getElem (by rw [hr.out.2.1]; exact hlt), Array.getD_eq_getD_getElem?, Array.getElem?_eq_getElem (by rw [hr.out.2.1]; exact hlt)]; rfl
      have hf0 := hr.out.1.free k
      generalize cs.getD k undef = old at hc0
      clear et1 et2
      go_wp2_with fail
      go_region
      go_wp2_with fail
      go_roundw
      case rel =>
        refine ⟨k + 1, cs.setIfInBounds k (.int .u8 (t2 : Int)), by omega, by go_num, Lib.hid ⟨(hr.out.1.set k _).drew, by simp [hr.out.2.1], fun j hj => ?_, ?_⟩⟩
        · by_cases hjk : j = k
          · subst hjk
            rw [Array.getElem?_setIfInBounds_self_of_lt (by rw [hr.out.2.1]; exact hlt)]; exact hnew.out.symm
          · rw [Array.getElem?_setIfInBounds_ne (Ne.symm hjk)]; exact hr.out.2.2.1 j (by omega)
        · exact (hr.out.2.2.2.setCell (p := ⟨w1.heap.size, k, none⟩) (Nat.le_refl _) _).drew
      case measure => simp [intOf]; omega
    · obtain rfl : k = n := by omega
      have hcv : ∀ m, (convert 38 9 (.slice (some ⟨w1.heap.size, 0, none⟩) k k)).run Tryd.prog (wr.drewN m) = .ok (.string ⟨L.toArray⟩) (wr.drewN m) := fun m =>
        run_string_of_row (P := Tryd.prog) (wr.drewN m) 38 9 5 ⟨w1.heap.size, 0, none⟩ k k L Tryd.underlying38 Tryd.underlying5 Tryd.underlying9 HlL.out (fun j u hj => by
          have hlj : j < k := by
            have := (List.getElem?_eq_some_iff.1 hj).1
            simpa [u8s, HlL.out] using this
          have := (hr.out.1.cell j).trans ((hr.out.2.2.1 j hlj).trans hj)
          rw [addr_add]; exact this)
      have hcv0 := hcv 0
      obtain ⟨PA, hPA⟩ : ∃ X : ByteArray, a.extract 0 k = X := ⟨_, rfl⟩
      obtain ⟨PB, hPB⟩ : ∃ X : ByteArray, b.extract 0 k = X := ⟨_, rfl⟩
      obtain ⟨PC, hPC⟩ : ∃ X : ByteArray, c.extract 0 k = X := ⟨_, rfl⟩
      have dA : PA.data.toList = a.data.toList.take k := by
        have := extract_list a 0 k
        rw [Nat.zero_add] at this
        rw [← hPA, this]; simp
      have dB : PB.data.toList = b.data.toList.take k := by
        have := extract_list b 0 k
        rw [Nat.zero_add] at this
        rw [← hPB, this]; simp
      have dC : PC.data.toList = c.data.toList.take k := by
        have := extract_list c 0 k
        rw [Nat.zero_add] at this
        rw [← hPC, this]; simp
      have sA : PA.size ≤ 140737488351232 := by
        have := congrArg List.length dA
        simp at this; omega
      have sB : PB.size ≤ 140737488351232 := by
        have := congrArg List.length dB
        simp at this; omega
      have sC : PC.size ≤ 140737488351232 := by
        have := congrArg List.length dC
        simp at this; omega
      have sL : (ByteArray.mk L.toArray).size ≤ 140737488351232 := by
        have := HlL.out
        simp [ByteArray.size, this]; omega
      have key : WireP.crc L = (WireP.crc PA.data.toList ^^^ WireP.crc PB.data.toList) ^^^ WireP.crc PC.data.toList := by
        rw [← HL.out, dA, dB, dC]
        exact WireP.crc_affine _ _ _ (by simp; omega) (by simp; omega)
      have l1 := WireP.crc_lt PA.data.toList
      have l2 := WireP.crc_lt PB.data.toList
      have l3 := WireP.crc_lt PC.data.toList
      have CA := fun wx h => sum_any PA wx sA h
      have CB := fun wx h => sum_any PB wx sB h
      have CC := fun wx h => sum_any PC wx sC h
      have CL := fun wx h => sum_any ⟨L.toArray⟩ wx sL h
      rw [show (ByteArray.mk L.toArray).data.toList = L by simp, key] at CL
      obtain ⟨xa, exa⟩ : ∃ x, WireP.crc PA.data.toList = x := ⟨_, rfl⟩
      obtain ⟨xb, exb⟩ : ∃ x, WireP.crc PB.data.toList = x := ⟨_, rfl⟩
      obtain ⟨xc, exc⟩ : ∃ x, WireP.crc PC.data.toList = x := ⟨_, rfl⟩
      rw [exa] at l1 CA CL
      rw [exb] at l2 CB CL
      rw [exc] at l3 CC CL
      have lab : xa ^^^ xb < 2 ^ 32 := Nat.xor_lt_two_pow (by omega) (by omega)
      have e1 : bits BinOp.xor IntKind.i64 (xa : Int) (xb : Int) = ((xa ^^^ xb : Nat) : Int) := i64_xor_nat _ _ (by omega) (by omega)
      have e2 : bits BinOp.xor IntKind.i64 ((xa ^^^ xb : Nat) : Int) (xc : Int) = (((xa ^^^ xb) ^^^ xc : Nat) : Int) := i64_xor_nat _ _ (by omega) (by omega)
      generalize (xa ^^^ xb) ^^^ xc = y at e2 CL
      generalize xa ^^^ xb = x1 at e1 e2
      clear key exa exb exc dA dB dC lab sA sB sC sL
      have hTr : NibAt wr := HT.out.below (HB1.out.trans (hr.out.2.2.2.mono HB1.out.size)) hw
      have HTr := Lib.hid hTr; clear hTr
      have HCA := Lib.hid CA; clear CA
      have HCB := Lib.hid CB; clear CB
      have HCC := Lib.hid CC; clear CC
      have HCL := Lib.hid CL; clear CL
      go_wp2_with fail
      go_quiet ((first | (go_at_call 21; with_reducible exact quiet_same (HCL.out _ (HTr.out.drewN _))) | (go_at_call 21; with_reducible exact quiet_same (HCA.out _ (HTr.out.drewN _))) | (go_at_call 21; with_reducible exact quiet_same (HCB.out _ (HTr.out.drewN _))) | (go_at_call 21; with_reducible exact quiet_same (HCC.out _ (HTr.out.drewN _)))))
      go_wp2_with fail
      go_ret
      exact ⟨rfl, below_drewN (HB1.out.trans (hr.out.2.2.2.mono HB1.out.size)) _⟩
end Go.Proofs.YtmakkfgdpdbcnaaDoor
