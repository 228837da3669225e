/- WireMatchesReference: the walk of the statement. -/
import Derived.Test.YtmakkfgdpdbcnaaDoorWireS
import Derived.Test.YtmakkfgdpdbcnaaDoorWireB
import Derived.Test.YtmakkfgdpdbcnaaDoorWireO
import Derived.Test.YtmakkfgdpdbcnaaDoorBaseB
import Derived.Test.YtmakkfgdpdbcnaaDoorBaseC
import Derived.BigRegion
namespace Go.Proofs.YtmakkfgdpdbcnaaDoor
open Go Go.RowKit

set_option maxRecDepth 100000 in
set_option maxHeartbeats 4000000 in
theorem matches_walk (n : Int) (s : ByteArray) (at_ : Int) (w : World) (hT : NibAt w) (hw : 0 < w.heap.size) (n1 : -9223372036854775808 ≤ n) (n2 : n ≤ 9223372036854775807) (h1 : -9223372036854775808 ≤ at_) (h2 : at_ ≤ 9223372036854775807) :
    Calls Tryd.prog 3 #[.int .i64 n, .string s, .int .i64 at_] w fun e w' => e = .returned (.bool true) ∧ Below w.heap.size w w' := by
  have HT := Lib.hid hT; clear hT
  obtain ⟨mp, T, lp1, lp2, zp, xp, dp, np⟩ := cut_ex s 300 300 rfl
  have zT1 : T.size ≤ 300 := by omega
  clear zp dp
  have bn := numFrom_bd n
  have NF := number_any n
  obtain ⟨nn, en⟩ : ∃ j, numFrom n = j := ⟨_, rfl⟩
  rw [en] at bn NF
  clear en
  have HNF := Lib.hid NF; clear NF
  have bk := pickN_bd at_ ((T.size : Int) + 2) (by omega)
  have PK := pick_any at_ ((T.size : Int) + 2)
  obtain ⟨k1, ek⟩ : ∃ j, pickN at_ ((T.size : Int) + 2) = j := ⟨_, rfl⟩
  rw [ek] at bk PK
  clear ek
  have HPK := Lib.hid PK; clear PK
  go_enter Tryd.func3, Tryd.ntmps3
  go_wp2_with fail
  refine (sane_any _ HT.out hw).mono ?_
  rintro e w1 ⟨rfl, hb1⟩
  have HB1 := Lib.hid hb1; clear hb1
  go_wp2_with fail
  refine (HNF.out _ n1 n2).mono ?_
  rintro e w2 ⟨rfl, hb2⟩
  have HB2 := Lib.hid (HB1.out.trans (hb2.mono HB1.out.size)); clear hb2
  have hsz1 : w.heap.size ≤ w1.heap.size := HB1.out.size
  have hsz2 : w.heap.size ≤ w2.heap.size := HB2.out.size
  go_wp2_with fail
  obtain ⟨W0, hW0⟩ : ∃ W0, (w2.alloc (Obj.cells #[Value.int IntKind.i64 n, Value.int IntKind.i64 nn] 3)) = W0 := ⟨_, rfl⟩
  have hcell : Hid (∀ i, i < 2 → ∃ κ : Int, -9223372036854775808 ≤ κ ∧ κ ≤ 9223372036854775807 ∧ W0.cell? ⟨w2.heap.size, i, none⟩ = some (.int .i64 κ)) := Lib.hid (by
    intro i hi
    rw [← hW0]
    match i, hi with
    | 0, _ => exact ⟨n, by omega, by omega, by simp⟩
    | 1, _ => exact ⟨nn, by omega, by omega, by simp⟩)
  have HBw : Hid (Below w.heap.size w W0) := Lib.hid (by
    rw [← hW0]
    exact HB2.out.alloc hsz2 _)
  have hsz0 : w2.heap.size + 1 ≤ W0.heap.size := by rw [← hW0]; simp
  rw [hW0]
  clear hW0 xp np
  go_loopw [44] (fun i wr => ∃ n : Nat, n ≤ 2 ∧ i = .int .i64 n ∧ Hid (Below (w2.heap.size + 1) W0 wr)) (fun i _ => 2 - (intOf i).toNat)
  case atStart => exact ⟨0, by omega, rfl, Lib.hid (Below.refl _ _)⟩
  case round =>
    obtain ⟨i, hi, rfl, hbr⟩ := hrel
    by_cases hlt : i < 2
    · obtain ⟨κ, b1, b2, hc⟩ := hcell.out i hlt
      have hc' : wr.cell? ⟨w2.heap.size, i, none⟩ = some (.int .i64 κ) := (hbr.out.cell (p := ⟨w2.heap.size, i, none⟩) (by simp)).trans hc
      clear hc
      have PI := putInt_any κ
      have RI := refPutInt_any κ
      obtain ⟨⟨q, x⟩, hp⟩ : ∃ p, putSpec κ = p := ⟨_, rfl⟩
      rw [hp] at PI RI
      clear hp
      have HPI := Lib.hid PI; clear PI
      have HRI := Lib.hid RI; clear RI
      go_wp2_with fail
      refine (HPI.out _ b1 b2).mono ?_
      rintro e w3 ⟨rfl, hb3⟩
      have HB3 := Lib.hid (hbr.out.trans (hb3.mono (Nat.le_trans hsz0 hbr.out.size))); clear hb3
      unfold V2s; dsimp only
      clear hc'
      go_wp2_with fail
      refine (HRI.out _ b1 b2).mono ?_
      rintro e w4 ⟨rfl, hb4⟩
      have HB4 := Lib.hid (HB3.out.trans (hb4.mono (Nat.le_trans hsz0 HB3.out.size))); clear hb4
      unfold V2s; dsimp only
      go_wp2_with fail
      go_roundw
      case rel => exact ⟨i + 1, by omega, by go_num, HB4⟩
      case measure => simp [intOf]; omega
    · have HBx := Lib.hid (HBw.out.trans (hbr.out.mono (by omega)))
      have hsz3 := HBx.out.size
      clear hcell
      go_wp2_with fail
      refine (HPK.out _ h1 h2 (by omega) (by omega)).mono ?_
      rintro e w' ⟨rfl, rfl⟩
      go_wp2_with fail
      obtain ⟨V0, hV0⟩ : ∃ V0, (wr.alloc (Obj.cells #[Value.int IntKind.i64 at_, Value.int IntKind.i64 k1] 3)) = V0 := ⟨_, rfl⟩
      have hcell2 : Hid (∀ i, i < 2 → ∃ κ : Int, -9223372036854775808 ≤ κ ∧ κ ≤ 9223372036854775807 ∧ V0.cell? ⟨wr.heap.size, i, none⟩ = some (.int .i64 κ)) := Lib.hid (by
        intro i hi
        rw [← hV0]
        match i, hi with
        | 0, _ => exact ⟨at_, by omega, by omega, by simp⟩
        | 1, _ => exact ⟨k1, by omega, by omega, by simp⟩)
      have HBv : Hid (Below w.heap.size w V0) := Lib.hid (by
        rw [← hV0]
        exact HBx.out.alloc hsz3 _)
      have hszv : wr.heap.size + 1 ≤ V0.heap.size := by rw [← hV0]; simp
      rw [hV0]
      clear hV0
      obtain ⟨sA, hA⟩ : ∃ m, wr.heap.size = m := ⟨_, rfl⟩
      rw [hA] at hcell2 hszv hsz3 ⊢
      clear hbr
      go_loopw [75] (fun i wr => ∃ n : Nat, n ≤ 2 ∧ i = .int .i64 n ∧ Hid (Below (sA + 1) V0 wr)) (fun i _ => 2 - (intOf i).toNat)
      case atStart => exact ⟨0, by omega, rfl, Lib.hid (Below.refl _ _)⟩
      case round =>
        obtain ⟨j, hj, rfl, hbv⟩ := hrel
        by_cases hlt : j < 2
        · obtain ⟨κ, b1, b2, hc⟩ := hcell2.out j hlt
          have hc' : wr.cell? ⟨sA, j, none⟩ = some (.int .i64 κ) := (hbv.out.cell (p := ⟨sA, j, none⟩) (by simp)).trans hc
          clear hc
          have II := int_any T κ
          have RI := refInt_any T κ
          have SI := string_any T κ
          have QI := refString_any T κ
          obtain ⟨⟨x, y, z⟩, hp⟩ : ∃ p, intSpec T.data.toList κ = p := ⟨_, rfl⟩
          obtain ⟨⟨sx, sy, sz⟩, hq⟩ : ∃ p, strSpec T.data.toList κ = p := ⟨_, rfl⟩
          rw [hp] at II RI
          rw [hq] at SI QI
          clear hp hq
          have HII := Lib.hid II; clear II
          have HRI := Lib.hid RI; clear RI
          have HSI := Lib.hid SI; clear SI
          have HQI := Lib.hid QI; clear QI
          go_wp2_with fail
          refine (HII.out _ (by omega) b1 b2).mono ?_
          rintro e w' ⟨rfl, rfl⟩
          unfold V3; dsimp only
          clear hc'
          go_wp2_with fail
          refine (HRI.out _ (by omega) b1 b2).mono ?_
          rintro e w3 ⟨rfl, hb3⟩
          have HB3 := Lib.hid (hbv.out.trans (hb3.mono (Nat.le_trans hszv hbv.out.size))); clear hb3
          unfold V3; dsimp only
          go_wp2_with fail
          refine (HSI.out _ (by omega) b1 b2).mono ?_
          rintro e w' ⟨rfl, rfl⟩
          unfold V3s; dsimp only
          go_wp2_with fail
          refine (HQI.out _ (by omega) b1 b2).mono ?_
          rintro e w4 ⟨rfl, hb4⟩
          have HB4 := Lib.hid (HB3.out.trans (hb4.mono (Nat.le_trans hszv HB3.out.size))); clear hb4
          unfold V3s; dsimp only
          go_wp2_with fail
          go_roundw
          case rel => exact ⟨j + 1, by omega, by go_num, HB4⟩
          case measure => simp [intOf]; omega
        · clear hcell2
          have HBy := Lib.hid (HBv.out.trans (hbv.out.mono (by omega)))
          have PS := putString_any T
          have RS := refPutString_any T
          obtain ⟨⟨q, x⟩, hp⟩ : ∃ p, putStrSpec T.data.toList = p := ⟨_, rfl⟩
          rw [hp] at PS RS
          clear hp
          have HPS := Lib.hid PS; clear PS
          have HRS := Lib.hid RS; clear RS
          go_wp2_with fail
          refine (HPS.out _ (by omega)).mono ?_
          rintro e w5 ⟨rfl, hb5⟩
          have HB5 := Lib.hid (HBy.out.trans (hb5.mono HBy.out.size)); clear hb5
          unfold V2s; dsimp only
          go_wp2_with fail
          refine (HRS.out _ (by omega)).mono ?_
          rintro e w6 ⟨rfl, hb6⟩
          have HB6 := Lib.hid (HB5.out.trans (hb6.mono HB5.out.size)); clear hb6
          unfold V2s; dsimp only
          have HT6 := Lib.hid (HT.out.below HB6.out hw)
          have CA := sum_any T
          have CB := refSum_any T
          obtain ⟨cc, hcc⟩ : ∃ c, WireP.crc T.data.toList = c := ⟨_, rfl⟩
          rw [hcc] at CA CB
          clear hcc
          have HCA := Lib.hid CA; clear CA
          have HCB := Lib.hid CB; clear CB
          go_wp2_with fail
          refine (HCA.out _ (by omega) HT6.out).mono ?_
          rintro e w' ⟨rfl, rfl⟩
          go_wp2_with fail
          refine (HCB.out _ (by omega)).mono ?_
          rintro e w' ⟨rfl, rfl⟩
          go_wp2_with fail
          go_ret
          exact ⟨rfl, HB6.out⟩
end Go.Proofs.YtmakkfgdpdbcnaaDoor
