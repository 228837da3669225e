/- WireRoundTrip: the walk of the statement. -/
import Derived.Test.YtmakkfgdpdbcnaaDoorWireS
import Derived.Test.YtmakkfgdpdbcnaaDoorWireB
import Derived.Test.YtmakkfgdpdbcnaaDoorBaseB
namespace Go.Proofs.YtmakkfgdpdbcnaaDoor
open Go Go.RowKit



/-- an encoding, wherever it is embedded -/
theorem int_embedded {n : Int} (h0 : -4611686018427387903 ≤ n) (h1 : n ≤ 4611686018427387903) (p q : List UInt8) :
    intSpec (p ++ WireP.enc (WireP.zz n) ++ q) p.length = (n, (p.length : Int) + ((WireP.enc (WireP.zz n)).length : Int), 0) := by
  unfold intSpec
  rw [if_neg (by simp; omega)]
  unfold intOk
  rw [Int.toNat_natCast, List.append_assoc, List.drop_left, WireP.dec_enc h0 h1]
  simp
theorem str_embedded (t p q : List UInt8) (ht : t.length ≤ 65536) :
    strSpec (p ++ (WireP.enc (WireP.zz t.length) ++ t) ++ q) p.length = (t, (p.length : Int) + ((WireP.enc (WireP.zz t.length) ++ t).length : Int), 0) := by
  have e : p ++ (WireP.enc (WireP.zz t.length) ++ t) ++ q = p ++ WireP.enc (WireP.zz (t.length : Int)) ++ (t ++ q) := by simp
  unfold strSpec
  rw [e, int_embedded (by omega) (by omega)]
  dsimp only
  rw [if_neg (by simp), if_neg (by simp; omega)]
  have h1 : ((p.length : Int) + ((WireP.enc (WireP.zz t.length)).length : Int)).toNat = (p ++ WireP.enc (WireP.zz (t.length : Int))).length := by
    rw [List.length_append]; omega
  rw [h1, List.drop_left, Int.toNat_natCast, List.take_left]
  simp [Int.add_assoc]

set_option maxRecDepth 100000 in
set_option maxHeartbeats 2000000 in
theorem roundTrip_walk (c : Int) (text p0 q0 : ByteArray) (w : World) (hT : NibAt w) (hw : 0 < w.heap.size) (h1 : -9223372036854775808 ≤ c) (h2 : c ≤ 9223372036854775807) :
    Calls Tryd.prog 4 #[.int .i64 c, .string text, .agg #[.string p0, .string q0]] w fun e w' => e = .returned (.bool true) ∧ Below w.heap.size w w' := by
  have HT := Lib.hid (hT.alloc hw (Obj.cells #[Value.string p0, Value.string q0] 36)); clear hT
  have hn := numFrom_bd c
  obtain ⟨n, en⟩ : ∃ n, numFrom c = n := ⟨_, rfl⟩
  have hnum := number_any c
  rw [en] at hn hnum
  clear en
  have HN := Lib.hid hnum; clear hnum
  obtain ⟨mp, P, lp1, lp2, zp, xp, dp, np⟩ := cut_ex p0 200 200 rfl
  obtain ⟨mq, Q, lq1, lq2, zq, xq, dq, nq⟩ := cut_ex q0 200 200 rfl
  obtain ⟨mt, T, lt1, lt2, zt, xt, dt, nt⟩ := cut_ex text 200 200 rfl
  have zp' : P.size ≤ 200 := by omega
  have zq' : Q.size ≤ 200 := by omega
  have zt' : T.size ≤ 200 := by omega
  clear zp zq zt dp dq dt
  -- the two encodings, and what is read of them
  have i1 := int_embedded (n := n) (by omega) (by omega) P.data.toList Q.data.toList
  have i2 := str_embedded T.data.toList P.data.toList Q.data.toList (by simp; omega)
  have pI := putInt_any n
  have pS := putString_any T
  have e1 : putSpec n = (WireP.enc (WireP.zz n), 0) := by unfold putSpec; rw [if_neg (by omega)]
  have e2 : putStrSpec T.data.toList = (WireP.enc (WireP.zz T.data.toList.length) ++ T.data.toList, 0) := by unfold putStrSpec; rw [if_neg (by simp; omega)]
  have la : (WireP.enc (WireP.zz n)).length ≤ 9 := WireP.encF_len 8 _
  have lb : (WireP.enc (WireP.zz T.data.toList.length) ++ T.data.toList).length ≤ 209 := by
    have h9 : (WireP.enc (WireP.zz T.data.toList.length)).length ≤ 9 := WireP.encF_len 8 _
    have hT : T.data.toList.length = T.size := by simp
    rw [List.length_append]; omega
  obtain ⟨A, eA⟩ : ∃ A, WireP.enc (WireP.zz n) = A := ⟨_, rfl⟩
  obtain ⟨B, eB⟩ : ∃ B, WireP.enc (WireP.zz T.data.toList.length) ++ T.data.toList = B := ⟨_, rfl⟩
  rw [eA] at i1 e1 la
  rw [eB] at i2 e2 lb
  clear eA eB
  rw [e1] at pI
  rw [e2] at pS
  clear e1 e2
  obtain ⟨SA, hA⟩ : ∃ SA : ByteArray, P ++ ⟨A.toArray⟩ ++ Q = SA := ⟨_, rfl⟩
  obtain ⟨SB, hB⟩ : ∃ SB : ByteArray, P ++ ⟨B.toArray⟩ ++ Q = SB := ⟨_, rfl⟩
  have dA : SA.data.toList = P.data.toList ++ A ++ Q.data.toList := by rw [← hA, ByteArray.data_append, ByteArray.data_append]; simp
  have dB : SB.data.toList = P.data.toList ++ B ++ Q.data.toList := by rw [← hB, ByteArray.data_append, ByteArray.data_append]; simp
  have sA : SA.size ≤ 409 := by
    have := congrArg List.length dA
    simp at this; omega
  have sB : SB.size ≤ 609 := by
    have := congrArg List.length dB
    simp at this; omega
  rw [← dA] at i1
  rw [← dB] at i2
  rw [show (P.data.toList.length : Int) = (P.size : Int) by simp] at i1 i2
  have CI := int_any SA (P.size : Int)
  have CS := string_any SB (P.size : Int)
  rw [i1] at CI
  rw [i2] at CS
  clear i1 i2 dA dB
  have HI := Lib.hid CI; clear CI
  have HS := Lib.hid CS; clear CS
  have HPI := Lib.hid pI; clear pI
  have HPS := Lib.hid pS; clear pS
  go_enter Tryd.func4, Tryd.ntmps4
  go_wp2_with fail
  refine (sane_any _ HT.out (by simp)).mono ?_
  rintro e w1 ⟨rfl, hb1⟩
  go_wp2_with fail
  refine (HN.out _ h1 h2).mono ?_
  rintro e w2 ⟨rfl, hb2⟩
  have hb : Below (w.heap.size + 1) (w.alloc (Obj.cells #[Value.string p0, Value.string q0] 36)) w2 := by
    have := hb1.trans (hb2.mono hb1.size)
    simpa using this
  have c0 : w2.cell? ⟨w.heap.size, 0, none⟩ = some (.string p0) := (hb.cell (p := ⟨w.heap.size, 0, none⟩) (by simp)).trans (by simp)
  have c1 : w2.cell? ⟨w.heap.size, 1, none⟩ = some (.string q0) := (hb.cell (p := ⟨w.heap.size, 1, none⟩) (by simp)).trans (by simp)
  have HB := Lib.hid hb; clear hb hb1 hb2
  go_wp2_with fail
  refine (HPI.out _ (by omega) (by omega)).mono ?_
  rintro e w3 ⟨rfl, hb3⟩
  unfold V2s; dsimp only
  have HB3 := Lib.hid hb3; clear hb3 c0 c1
  go_wp2_with fail
  refine (HPS.out _ (by omega)).mono ?_
  rintro e w4 ⟨rfl, hb4⟩
  unfold V2s; dsimp only
  have HB4 := Lib.hid hb4; clear hb4
  go_wp2_with fail
  refine (HI.out _ (by omega) (by omega) (by omega)).mono ?_
  rintro e w' ⟨rfl, rfl⟩
  unfold V3; dsimp only
  go_wp2_with fail
  refine (HS.out _ (by omega) (by omega) (by omega)).mono ?_
  rintro e w' ⟨rfl, rfl⟩
  unfold V3s; dsimp only
  rw [← bytes_eta T]
  go_wp2_with fail
  go_ret
  refine ⟨rfl, ?_⟩
  have b1 := (((Below.refl w.heap.size w).alloc (Nat.le_refl _) (Obj.cells #[Value.string p0, Value.string q0] 36)).trans (HB.out.mono (by omega)))
  have b2 := b1.trans (HB3.out.mono b1.size)
  exact b2.trans (HB4.out.mono b2.size)
end Go.Proofs.YtmakkfgdpdbcnaaDoor
