/- WireSequence: the walk of the statement. -/
import Derived.Test.YtmakkfgdpdbcnaaDoorWireS
import Derived.Test.YtmakkfgdpdbcnaaDoorWireB
import Derived.Test.YtmakkfgdpdbcnaaDoorWireL2
import Derived.Test.YtmakkfgdpdbcnaaDoorBaseC
import Derived.BigRegion
import Derived.Deep.RegionHeld3
namespace Go.Proofs.YtmakkfgdpdbcnaaDoor
open Go Go.RowKit

/-- the encodings of the first k pairs -/
def seqA (x : Int) : List UInt8 := WireP.enc (WireP.zz (numFrom x))
def seqB (s : ByteArray) : List UInt8 := WireP.enc (WireP.zz ((s.data.toList.take 100).length : Int)) ++ s.data.toList.take 100
def seqL (xs : Nat → Int) (ss : Nat → ByteArray) : Nat → List UInt8
  | 0 => []
  | k + 1 => seqL xs ss k ++ seqA (xs k) ++ seqB (ss k)
theorem seqA_len (x : Int) : (seqA x).length ≤ 9 := WireP.encF_len 8 _
theorem seqB_len (s : ByteArray) : (seqB s).length ≤ 109 := by
  have h9 : (WireP.enc (WireP.zz ((s.data.toList.take 100).length : Int))).length ≤ 9 := WireP.encF_len 8 _
  unfold seqB
  rw [List.length_append]
  have : (s.data.toList.take 100).length ≤ 100 := by rw [List.length_take]; omega
  omega
theorem seqL_len (xs : Nat → Int) (ss : Nat → ByteArray) (k : Nat) : (seqL xs ss k).length ≤ 118 * k := by
  induction k with
  | zero => simp [seqL]
  | succ k ih =>
    rw [seqL, List.length_append, List.length_append]
    have := seqA_len (xs k)
    have := seqB_len (ss k)
    omega
theorem seqL_split (xs : Nat → Int) (ss : Nat → ByteArray) (k : Nat) : ∀ n, k < n → ∃ r, seqL xs ss n = seqL xs ss k ++ seqA (xs k) ++ seqB (ss k) ++ r := by
  intro n hn
  induction n with
  | zero => omega
  | succ n ih =>
    by_cases h : k = n
    · subst h; exact ⟨[], by simp [seqL]⟩
    · obtain ⟨r, hr⟩ := ih (by omega)
      exact ⟨r ++ seqA (xs n) ++ seqB (ss n), by rw [seqL, hr]; simp⟩
theorem seq_int (xs : Nat → Int) (ss : Nat → ByteArray) (k n : Nat) (h : k < n) :
    intSpec (seqL xs ss n) ((seqL xs ss k).length : Int) = (numFrom (xs k), ((seqL xs ss k).length : Int) + ((seqA (xs k)).length : Int), 0) := by
  obtain ⟨r, hr⟩ := seqL_split xs ss k n h
  have hb := numFrom_bd (xs k)
  rw [hr, show seqL xs ss k ++ seqA (xs k) ++ seqB (ss k) ++ r = seqL xs ss k ++ WireP.enc (WireP.zz (numFrom (xs k))) ++ (seqB (ss k) ++ r) by simp [seqA]]
  exact int_embedded (by omega) (by omega) _ _
theorem seq_str (xs : Nat → Int) (ss : Nat → ByteArray) (k n : Nat) (h : k < n) :
    strSpec (seqL xs ss n) (((seqL xs ss k).length : Int) + ((seqA (xs k)).length : Int)) = ((ss k).data.toList.take 100, ((seqL xs ss (k + 1)).length : Int), 0) := by
  obtain ⟨r, hr⟩ := seqL_split xs ss k n h
  have := str_embedded ((ss k).data.toList.take 100) (seqL xs ss k ++ seqA (xs k)) r (by rw [List.length_take]; omega)
  rw [List.length_append, Int.natCast_add] at this
  rw [hr]
  unfold seqB
  rw [this]
  simp [seqL, seqB, Int.add_assoc]
theorem seq_end (xs : Nat → Int) (ss : Nat → ByteArray) (n : Nat) : intSpec (seqL xs ss n) ((seqL xs ss n).length : Int) = (0, 0, 10) := by
  unfold intSpec
  rw [if_neg (by omega)]
  unfold intOk
  rw [Int.toNat_natCast, List.drop_length]
  rfl

set_option maxRecDepth 100000 in
set_option maxHeartbeats 4000000 in
theorem sequence_walk (b1 o1 nl cl b2 o2 nt ct : Nat) (xs : Nat → Int) (ss : Nat → ByteArray) (w : World) (hT : NibAt w) (hw : 0 < w.heap.size)
    (hl1 : b1 < w.heap.size) (hl2 : b2 < w.heap.size) (hnl : nl ≤ 140737488351232) (hnt : nt ≤ 140737488351232)
    (hx : ∀ i, i < nl → w.cell? ⟨b1, o1 + i, none⟩ = some (.int .i64 (xs i)) ∧ -9223372036854775808 ≤ xs i ∧ xs i ≤ 9223372036854775807)
    (hs : ∀ i, i < nt → w.cell? ⟨b2, o2 + i, none⟩ = some (.string (ss i))) :
    Calls Tryd.prog 6 #[.slice (some ⟨b1, o1, none⟩) nl cl, .slice (some ⟨b2, o2, none⟩) nt ct] w fun e w' => e = .returned (.bool true) ∧ Below w.heap.size w w' := by
  have HT := Lib.hid hT; clear hT
  have HX := Lib.hid hx; clear hx
  have HS := Lib.hid hs; clear hs
  obtain ⟨m1, em1⟩ : ∃ m : Nat, (if nt < nl then (nt : Int) else (nl : Int)) = (m : Int) := ⟨min nl nt, by split <;> omega⟩
  obtain ⟨n, en⟩ : ∃ m : Nat, (if (20 : Int) < (m1 : Int) then (20 : Int) else (m1 : Int)) = (m : Int) := ⟨min m1 20, min_ite m1 20⟩
  have n1 : n ≤ nl := by split at em1 <;> split at en <;> omega
  have n2 : n ≤ nt := by split at em1 <;> split at en <;> omega
  have n3 : n ≤ 20 := by split at en <;> omega
  go_enter Tryd.func6, Tryd.ntmps6
  go_wp2_with fail
  refine (sane_any _ HT.out hw).mono ?_
  rintro e w1 ⟨rfl, hb1⟩
  have HB1 := Lib.hid hb1; clear hb1
  go_wp2_with fail
  go_loopw [7, 8] (fun sv i wr => ∃ (k : Nat) (S : ByteArray), k ≤ n ∧ i = .int .i64 k ∧ sv = .string S ∧ S.size ≤ 118 * k ∧ Hid (S = ⟨(seqL xs ss k).toArray⟩ ∧ Below w.heap.size w wr)) (fun _ i _ => n - (intOf i).toNat)
  case atStart => exact ⟨0, _, by omega, rfl, rfl, by simp [ByteArray.size], Lib.hid ⟨rfl, HB1.out⟩⟩
  case round =>
    obtain ⟨k, S, hk, rfl, rfl, hS, hr⟩ := hrel
    by_cases hlt : k < n
    · have hx := HX.out k (by omega)
      have hs := HS.out k (by omega)
      have cx : wr.cell? ⟨b1, o1 + k, none⟩ = some (.int .i64 (xs k)) := (hr.out.2.cell (p := ⟨b1, o1 + k, none⟩) hl1).trans hx.1
      have cs : wr.cell? ⟨b2, o2 + k, none⟩ = some (.string (ss k)) := (hr.out.2.cell (p := ⟨b2, o2 + k, none⟩) hl2).trans hs
      obtain ⟨hx0, hx1, hx2⟩ := hx
      have bn := numFrom_bd (xs k)
      have NC := number_any (xs k)
      have PI := putInt_any (numFrom (xs k))
      rw [show putSpec (numFrom (xs k)) = (seqA (xs k), 0) by unfold putSpec seqA; rw [if_neg (by omega)]] at PI
      obtain ⟨mt, T, lt1, lt2, zt, xt, dt, nt'⟩ := cut_ex (ss k) 100 100 rfl
      have PS := putString_any T
      rw [dt, show putStrSpec ((ss k).data.toList.take 100) = (seqB (ss k), 0) by unfold putStrSpec seqB; rw [if_neg (by rw [List.length_take]; omega)]] at PS
      have zt' : T.size ≤ 100 := by omega
      have la := seqA_len (xs k)
      have lb := seqB_len (ss k)
      obtain ⟨S2, hS2⟩ : ∃ S2 : ByteArray, S ++ ⟨(seqA (xs k)).toArray⟩ ++ ⟨(seqB (ss k)).toArray⟩ = S2 := ⟨_, rfl⟩
      have eS2 : Hid (S2 = ⟨(seqL xs ss (k + 1)).toArray⟩) := Lib.hid (by
        rw [← hS2, hr.out.1, append_list, append_list]; rfl)
      have zS2 : S2.size ≤ 118 * (k + 1) := by
        rw [eS2.out]; have := seqL_len xs ss (k + 1); simpa [ByteArray.size] using this
      obtain ⟨x, ex⟩ : ∃ x, xs k = x := ⟨_, rfl⟩
      obtain ⟨s0, es⟩ : ∃ s0, ss k = s0 := ⟨_, rfl⟩
      rw [ex] at cx hx1 hx2 NC PI bn la hS2
      rw [es] at cs PS xt nt' lb hS2 lt2
      generalize seqA x = A at PI la hS2
      generalize seqB s0 = B at PS lb hS2
      clear ex es hx0 hs dt zt
      have HNC := Lib.hid NC; clear NC
      have HPI := Lib.hid PI; clear PI
      have HPS := Lib.hid PS; clear PS
      generalize numFrom x = nf at HNC HPI bn
      go_wp2_with fail
      refine (HNC.out _ hx1 hx2).mono ?_
      rintro e w2 ⟨rfl, hb2⟩
      have cs2 : w2.cell? ⟨b2, o2 + k, none⟩ = some (.string s0) := (hb2.cell (p := ⟨b2, o2 + k, none⟩) (by have := hr.out.2.size; show b2 < wr.heap.size; omega)).trans cs
      have HB2 := Lib.hid (hr.out.2.trans (hb2.mono hr.out.2.size)); clear hb2 cs
      go_wp2_with fail
      refine (HPI.out _ (by omega) (by omega)).mono ?_
      rintro e w3 ⟨rfl, hb3⟩
      unfold V2s; dsimp only
      have cs3 : w3.cell? ⟨b2, o2 + k, none⟩ = some (.string s0) := (hb3.cell (p := ⟨b2, o2 + k, none⟩) (by have := HB2.out.size; show b2 < w2.heap.size; omega)).trans cs2
      have HB3 := Lib.hid (HB2.out.trans (hb3.mono HB2.out.size)); clear hb3 cs2
      have hsz3 : b2 < w3.heap.size := by have := HB3.out.size; omega
      have i1 : (0 : Int) ≤ (k : Int) := by omega
      have i2 : (k : Int) < (nt : Int) := by omega
      have i3 : (mt : Int) ≤ (s0.size : Int) := by omega
      have i4 : (0 : Int) ≤ (mt : Int) := by omega
      go_wp2_with fail
      go_region_held3 (fun w' => w'.cell? ⟨b2, o2 + k, none⟩ = some (.string s0)) (go_keep) (first | (go_at_call 19; refine (HPS.out _ (by omega)).mono ?_; rintro e w4 ⟨rfl, hb4⟩; have cs4 : w4.cell? ⟨b2, o2 + k, none⟩ = some (.string s0) := (hb4.cell (p := ⟨b2, o2 + k, none⟩) hsz3).trans cs3; unfold V2s; dsimp only))
      have HB4 := Lib.hid (HB3.out.drew.trans (hb4.mono (show w.heap.size ≤ w3.drew.heap.size from HB3.out.size))); clear hb4
      go_wp2_with fail
      go_roundw
      case rel => exact ⟨k + 1, S2, by omega, by go_num, rfl, zS2, Lib.hid ⟨eS2.out, HB4.out⟩⟩
      case measure => simp [intOf]; omega
    · obtain rfl : k = n := by omega
      have dS : S.data.toList = seqL xs ss k := by rw [hr.out.1]
      have HdS := Lib.hid dS; clear dS
      have sz0 : w.heap.size ≤ wr.heap.size := hr.out.2.size
      have HBr := Lib.hid hr.out.2
      clear hr hlt em1 en
      go_wp2_with fail
      obtain ⟨W0, hW0⟩ : ∃ W0, wr = W0 := ⟨_, rfl⟩
      subst hW0
      go_loopw [13, 14] (fun av i wr' => ∃ (j at_ : Nat), j ≤ k ∧ i = .int .i64 j ∧ av = .int .i64 at_ ∧ at_ ≤ S.size ∧ Hid (at_ = (seqL xs ss j).length ∧ Below w.heap.size w wr')) (fun _ i _ => k - (intOf i).toNat)
      case atStart => exact ⟨0, 0, by omega, rfl, rfl, by omega, Lib.hid ⟨rfl, HBr.out⟩⟩
      case round =>
        obtain ⟨j, at_, hj, rfl, rfl, hat, hrr⟩ := hrel
        by_cases hjk : j < k
        · have hx := HX.out j (by omega)
          have hs := HS.out j (by omega)
          have cs0 : wr.cell? ⟨b2, o2 + j, none⟩ = some (.string (ss j)) := (hrr.out.2.cell (p := ⟨b2, o2 + j, none⟩) hl2).trans hs
          have cx0 : wr.cell? ⟨b1, o1 + j, none⟩ = some (.int .i64 (xs j)) := (hrr.out.2.cell (p := ⟨b1, o1 + j, none⟩) hl1).trans hx.1
          obtain ⟨_, hx1, hx2⟩ := hx
          have I := int_any S (at_ : Int)
          have IS := string_any S ((at_ : Int) + ((seqA (xs j)).length : Int))
          rw [HdS.out, hrr.out.1, seq_int xs ss j k hjk] at I
          rw [HdS.out, hrr.out.1, seq_str xs ss j k hjk, ← hrr.out.1] at IS
          rw [← hrr.out.1] at I
          obtain ⟨mt, T, lt1, lt2, zt, xt, dt, nt'⟩ := cut_ex (ss j) 100 100 rfl
          rw [← dt] at IS
          have bn := numFrom_bd (xs j)
          have NC := number_any (xs j)
          have hat2 : (seqL xs ss (j + 1)).length ≤ S.size := by
            have h1 : (seqL xs ss (j + 1)).length ≤ (seqL xs ss k).length := by
              obtain ⟨r, hr⟩ := seqL_split xs ss j k hjk
              rw [hr, List.length_append]; exact Nat.le_add_right _ _
            have h2 : (seqL xs ss k).length = S.size := by rw [← HdS.out]; simp
            omega
          have haA : at_ + (seqA (xs j)).length ≤ S.size := by
            have h1 : (seqL xs ss (j + 1)).length = (seqL xs ss j).length + (seqA (xs j)).length + (seqB (ss j)).length := by rw [seqL, List.length_append, List.length_append]
            rw [hrr.out.1]; omega
          have HatN : Hid ((seqL xs ss (j + 1)).length = (seqL xs ss (j + 1)).length) := Lib.hid rfl
          obtain ⟨at2, eat2⟩ : ∃ a, (seqL xs ss (j + 1)).length = a := ⟨_, rfl⟩
          rw [eat2] at IS hat2
          have Hat2 := Lib.hid eat2.symm; clear eat2
          have HI := Lib.hid I; clear I
          have HIS := Lib.hid IS; clear IS
          have HNC := Lib.hid NC; clear NC
          generalize seqA (xs j) = A at HI HIS haA
          generalize numFrom (xs j) = nf at HI HNC bn
          generalize xs j = x at cx0 HNC hx1 hx2
          generalize ss j = s0 at cs0 lt2 xt nt'
          clear dt zt hs
          have hszb1 : b1 < wr.heap.size := by have := hrr.out.2.size; omega
          have hszb2 : b2 < wr.heap.size := by have := hrr.out.2.size; omega
          go_wp2_with fail
          refine (HI.out _ (by omega) (by omega) (by omega)).mono ?_
          rintro e w' ⟨rfl, rfl⟩
          unfold V3; dsimp only
          go_wp2_with fail
          refine (HIS.out _ (by omega) (by omega) (by omega)).mono ?_
          rintro e w' ⟨rfl, rfl⟩
          unfold V3s; dsimp only
          rw [← bytes_eta T]
          have i1 : (0 : Int) ≤ (j : Int) := by omega
          have i2 : (j : Int) < (nt : Int) := by omega
          have i5 : (j : Int) < (nl : Int) := by omega
          have i3 : (mt : Int) ≤ (s0.size : Int) := by omega
          have i4 : (0 : Int) ≤ (mt : Int) := by omega
          have hq : ((nf : Int) != nf) = false := by simp
          go_wp2_with fail
          go_region_held3 (fun w' => w'.cell? ⟨b2, o2 + j, none⟩ = some (.string s0) ∧ w'.cell? ⟨b1, o1 + j, none⟩ = some (.int .i64 x)) (go_keep) (first | (go_at_call 11; refine (HNC.out _ hx1 hx2).mono ?_; rintro e w4 ⟨rfl, hb4⟩; have cs4 : w4.cell? ⟨b2, o2 + j, none⟩ = some (.string s0) := (hb4.cell (p := ⟨b2, o2 + j, none⟩) hszb2).trans cs0; have cx4 : w4.cell? ⟨b1, o1 + j, none⟩ = some (.int .i64 x) := (hb4.cell (p := ⟨b1, o1 + j, none⟩) hszb1).trans cx0))
          have HB4 := Lib.hid (hrr.out.2.drew.trans (hb4.mono (show w.heap.size ≤ wr.drew.heap.size from hrr.out.2.size))); clear hb4
          go_wp2_with fail
          go_roundw
          case rel => exact ⟨j + 1, at2, by omega, by go_num, rfl, by omega, Lib.hid ⟨Hat2.out, HB4.out⟩⟩
          case measure => simp [intOf]; omega
        · obtain rfl : j = k := by omega
          have I := int_any S (at_ : Int)
          rw [HdS.out, hrr.out.1, seq_end, ← hrr.out.1] at I
          have hfin : at_ = S.size := by rw [hrr.out.1, ← HdS.out]; simp
          have HI := Lib.hid I; clear I
          have hq : ((at_ : Int) == (S.size : Int)) = true := by rw [beq_iff_eq]; omega
          have Hf := Lib.hid hfin; clear hfin hjk
          go_wp2_with fail
          refine (HI.out _ (by omega) (by omega) (by omega)).mono ?_
          rintro e w' ⟨rfl, rfl⟩
          unfold V3; dsimp only
          go_wp2_with fail
          go_ret
          exact ⟨rfl, hrr.out.2⟩
end Go.Proofs.YtmakkfgdpdbcnaaDoor
