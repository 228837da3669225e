/- Package fact: Encode. -/
import Derived.Test.YtgjajhopjcdflaaGreatFkK
namespace Go.Proofs.YtgjajhopjcdflaaGreat
open Go Go.RowKit Go.Lib Go.Shelf Go.Maps

/-- the first j numbers of a fact, encoded -/
def encN (f : FactV) (j : Nat) : List UInt8 := (List.range j).flatMap fun i => (putSpec (f.n i)).1
def encL (f : FactV) : List UInt8 := encN f 17 ++ (putStrSpec f.text.data.toList).1
theorem encN_succ (f : FactV) (j : Nat) : encN f (j + 1) = encN f j ++ (putSpec (f.n j)).1 := by
  simp [encN, List.range_succ]
theorem encN_len (f : FactV) : ∀ j, (encN f j).length ≤ 9 * j
  | 0 => by simp [encN]
  | j + 1 => by
    rw [encN_succ, List.length_append]
    have := encN_len f j
    have := putSpec_len (f.n j)
    omega
theorem putStrSpec_len (l : List UInt8) : (putStrSpec l).1.length ≤ l.length + 9 := by
  unfold putStrSpec
  split
  · simp
  · rw [List.length_append]
    have := WireP.encF_len 8 (WireP.zz l.length)
    unfold WireP.enc
    omega
theorem str_cells (l : List UInt8) : Lib.strCells ⟨l.toArray⟩ = Lib.byteCells l := by simp [Lib.strCells, Lib.byteCells]
theorem index_ptrs (rb j : Nat) (hj : j < 17) (W : World) : (Instr.index 103 (.agg (ptrs rb)) (.int .i64 (j : Int))).run Tryz.prog W = .ok (.pointer (some ⟨rb, j, none⟩)) W := by
  have h := ptrs_get rb j hj
  have hz : (sizeOf 81).run Tryz.prog W = .ok 1 W := Tryz.sizeOf81 W
  have hp : (part 81 (ptrs rb) j).run Tryz.prog W = .ok (.pointer (some ⟨rb, j, none⟩)) W := by
    have ha : (isAgg 81).run Tryz.prog W = .ok false W := Tryz.isAgg81 W
    simp [part, ha, h, Result.andThen]
  simp [Instr.index, asIntOf, run_underlying Tryz.underlying103, hz, Result.andThen, hp, show ¬ 17 ≤ j from by omega]
theorem byteCells_app (a b : List UInt8) : Lib.byteCells (a ++ b) = Lib.byteCells a ++ Lib.byteCells b := by simp [Lib.byteCells]
theorem valid_text {f : FactV} (h : validB f = true) : f.text.size ≤ 2000 := by
  unfold validB at h
  simp only [Bool.and_eq_true, decide_eq_true_eq] at h
  exact h.2.1.2.2
set_option maxRecDepth 100000 in
set_option maxHeartbeats 4000000 in
theorem encode_bad (f : FactV) (w : World) (hok : FactOk f) (hv : validB f = false) :
    Calls Tryz.prog 54 #[.agg f.cells] w fun e w' => e = .returned (.tuple #[.string ⟨#[]⟩, .int .i64 50]) ∧ Below w.heap.size w w' := by
  have VF := Lib.hid (fun W => valid_any f W (hok 0).1 (hok 0).2)
  have HVV := Lib.hid hv
  simp only [hv] at VF
  obtain ⟨W1, hW1⟩ : ∃ z, w.alloc (.cells f.cells 34) = z := ⟨_, rfl⟩
  have r1 : RowAt W1 w.heap.size 34 f.cells := by rw [← hW1]; exact RowAt.new w _ _
  have hbw : Below w.heap.size w W1 := by rw [← hW1]; exact (Below.refl _ _).alloc (Nat.le_refl _) _
  have HR := Lib.hid (And.intro r1 hbw)
  have HOK := Lib.hid hok
  have g17 : f.cells[17]? = some (.string f.text) := rfl
  obtain ⟨cs, hcs⟩ : ∃ z, f.cells = z := ⟨_, rfl⟩
  have HCN : Hid ((Tryz.prog.info? 34).map (·.size) = some cs.size) := Lib.hid (by rw [← hcs]; exact fact_size)
  rw [hcs] at VF HR hW1 g17 ⊢
  have HF : Hid (∀ j v, cs[j]? = some v → W1.cell? ⟨w.heap.size, 0 + j, none⟩ = some v) := Lib.hid (fun j v hv => by rw [Nat.zero_add, HR.out.1.cell j]; exact hv)
  have HCS := Lib.hid hcs
  have HG := Lib.hid g17
  clear r1 hbw hcs g17 hv hok
  go_enter Tryz.func54, Tryz.ntmps54
  go_wp2_with (first | ((with_reducible refine load_cs (o := ⟨some 12, _, _, _, _, _⟩) (.tmp 1) w.heap.size cs HF.out HCN.out ?_ ?_ ?_ ?_); rfl; rfl; rfl))
  refine (VF.out _).mono ?_
  rintro e W2 ⟨rfl, hb⟩
  clear hW1
  have HB2 := Lib.hid (HR.out.2.trans (hb.mono HR.out.2.size))
  have HR2 := Lib.hid (HR.out.1.below hb HR.out.1.lt)
  clear hb
  go_wp2_with fail
  go_ret2
  exact ⟨rfl, HB2.out⟩
set_option maxRecDepth 100000 in
set_option maxHeartbeats 4000000 in
theorem encode_good (f : FactV) (w : World) (hok : FactOk f) (hv : validB f = true) :
    Calls Tryz.prog 54 #[.agg f.cells] w fun e w' => e = .returned (.tuple #[.string ⟨(encL f).toArray⟩, .int .i64 0]) ∧ Below w.heap.size w w' := by
  have VF := Lib.hid (fun W => valid_any f W (hok 0).1 (hok 0).2)
  have HVV := Lib.hid hv
  simp only [hv] at VF
  obtain ⟨W1, hW1⟩ : ∃ z, w.alloc (.cells f.cells 34) = z := ⟨_, rfl⟩
  have r1 : RowAt W1 w.heap.size 34 f.cells := by rw [← hW1]; exact RowAt.new w _ _
  have hbw : Below w.heap.size w W1 := by rw [← hW1]; exact (Below.refl _ _).alloc (Nat.le_refl _) _
  have HR := Lib.hid (And.intro r1 hbw)
  have HOK := Lib.hid hok
  have g17 : f.cells[17]? = some (.string f.text) := rfl
  obtain ⟨cs, hcs⟩ : ∃ z, f.cells = z := ⟨_, rfl⟩
  have HCN : Hid ((Tryz.prog.info? 34).map (·.size) = some cs.size) := Lib.hid (by rw [← hcs]; exact fact_size)
  rw [hcs] at VF HR hW1 g17 ⊢
  have HF : Hid (∀ j v, cs[j]? = some v → W1.cell? ⟨w.heap.size, 0 + j, none⟩ = some v) := Lib.hid (fun j v hv => by rw [Nat.zero_add, HR.out.1.cell j]; exact hv)
  have HCS := Lib.hid hcs
  have HG := Lib.hid g17
  clear r1 hbw hcs g17 hv hok
  go_enter Tryz.func54, Tryz.ntmps54
  go_wp2_with (first | ((with_reducible refine load_cs (o := ⟨some 12, _, _, _, _, _⟩) (.tmp 1) w.heap.size cs HF.out HCN.out ?_ ?_ ?_ ?_); rfl; rfl; rfl))
  refine (VF.out _).mono ?_
  rintro e W2 ⟨rfl, hb⟩
  clear hW1
  have HB2 := Lib.hid (HR.out.2.trans (hb.mono HR.out.2.size))
  have HR2 := Lib.hid (HR.out.1.below hb HR.out.1.lt)
  clear hb
  obtain ⟨N, hN⟩ : ∃ z, W2.heap.size = z := ⟨_, rfl⟩
  obtain ⟨W3, hW3⟩ : ∃ z, W2.alloc (.cells #[.pointer none, .slice none 0 0] 102) = z := ⟨_, rfl⟩
  have HNN := Lib.hid hN
  have hs3 : W3.heap.size = N + 1 := by rw [← hW3, ← hN]; simp
  have HI3 : Hid (Lib.IsBuilder 102 5 N N [] W3) := Lib.hid (by rw [← hW3, ← hN]; exact Lib.fresh_isBuilder _ _ _)
  have HR3 : Hid (RowAt W3 w.heap.size 34 cs) := Lib.hid (by rw [← hW3]; exact HR2.out.alloc _)
  have HB3 : Hid (Below w.heap.size w W3) := Lib.hid (by rw [← hW3]; exact HB2.out.alloc HB2.out.size _)
  have HF3 : Hid (∀ j v, cs[j]? = some v → W3.cell? ⟨w.heap.size, 0 + j, none⟩ = some v) := Lib.hid (fun j v hv => by rw [Nat.zero_add, HR3.out.cell j]; exact hv)
  have hbd := build_rec f
  rw [HCS.out] at hbd
  have h18 : cs.size = 18 := by rw [← HCS.out]; rfl
  have hbd2 := hbd
  rw [h18] at hbd2
  go_wp2_with (first | ((with_reducible refine load_cs (o := ⟨some 15, _, _, _, _, _⟩) (.tmp 1) w.heap.size cs HF3.out HCN.out ?_ ?_ ?_ ?_); rfl; rfl; rfl))
  refine (fnumbers_any (N + 1) _).mono ?_
  rintro e W4 ⟨rfl, hb⟩
  have HW4 : Hid (RowAt W4 (N + 1) 79 cs ∧ RowAt W4 w.heap.size 34 cs ∧ Below w.heap.size w W4 ∧ Lib.IsBuilder 102 5 N N (Lib.byteCells (encN f 0)) W4 ∧ N < W4.heap.size) := Lib.hid (by
    have h0 := RowAt.new W3 79 cs
    rw [hs3] at h0
    have hba := (Below.refl W3.heap.size W3).alloc (Nat.le_refl _) (.cells cs 79)
    refine ⟨h0.below hb h0.lt, (HR3.out.alloc _).below hb (HR3.out.alloc _).lt, (HB3.out.alloc HB3.out.size _).trans (hb.mono (by have := HB3.out.size; simp; omega)), bld_below (bld_below HI3.out hba) hb, ?_⟩
    have := hb.size
    simp at this
    omega)
  clear hb hs3 hW3 hbd hbd2 h18
  obtain ⟨PS, hPS⟩ : ∃ z, ptrs (N + 1) = z := ⟨_, rfl⟩
  have HPS := Lib.hid hPS
  rw [hPS]
  clear hPS hN
  go_wp2_with fail
  go_loopw [20] (fun v20 wr => ∃ j : Nat, v20 = .int .i64 j ∧ j ≤ 17 ∧ Hid (RowAt wr (N + 1) 79 cs ∧ RowAt wr w.heap.size 34 cs ∧ Below w.heap.size w wr ∧ Lib.IsBuilder 102 5 N N (Lib.byteCells (encN f j)) wr ∧ N < wr.heap.size)) (fun v20 _ => 17 - (RowKit.intOf v20).toNat)
  case atStart => exact ⟨0, rfl, by omega, HW4⟩
  case round =>
    obtain ⟨j, rfl, hj, HS⟩ := hrel
    by_cases hj2 : j < 17
    · have hjd : decide ((j : Int) < 17) = true := by simp; omega
      have hix := index_ptrs (N + 1) j hj2
      rw [HPS.out] at hix
      obtain ⟨x, hx⟩ : ∃ z, f.n j = z := ⟨_, rfl⟩
      have hc : wr.cell? ⟨N + 1, j, none⟩ = some (.int .i64 x) := by rw [HS.out.1.cell j, ← HCS.out, cells_get f j hj2, hx]
      have HX := Lib.hid hx
      have HJ := Lib.hid hj2
      have HPI := Lib.hid (putInt_any x wr (by rw [← hx]; exact (HOK.out j).1) (by rw [← hx]; exact (HOK.out j).2))
      clear hx
      go_wp2_with fail
      refine HPI.out.mono ?_
      rintro e W5 ⟨rfl, hb5⟩
      obtain ⟨pl, hpl⟩ : ∃ z, (putSpec x).1 = z := ⟨_, rfl⟩
      obtain ⟨pe, hpe⟩ : ∃ z, (putSpec x).2 = z := ⟨_, rfl⟩
      have hv2 : V2s (putSpec x) = .tuple #[.string ⟨pl.toArray⟩, .int .i64 pe] := by unfold V2s; rw [hpl, hpe]
      rw [hv2]
      have HPL := Lib.hid hpl
      have hlen : pl.length ≤ 9 := by rw [← hpl]; exact putSpec_len x
      have hsz : (Lib.byteCells (encN f j)).length + (⟨pl.toArray⟩ : ByteArray).size ≤ 140737488355328 := by
        have h1 := encN_len f j
        have h2 : (⟨pl.toArray⟩ : ByteArray).size = pl.length := by simp [ByteArray.size]
        rw [h2, Lib.byteCells_length]
        omega
      have HWS := Lib.hid (writeString_any N N (Lib.byteCells (encN f j)) ⟨pl.toArray⟩ W5 (bld_below HS.out.2.2.2.1 hb5) hsz (by have := hb5.size; have := HS.out.2.2.2.2; omega))
      have HB5 := Lib.hid hb5
      clear hb5 hpl hpe hv2 hix hc hlen hsz
      go_wp2_with fail
      refine HWS.out.mono ?_
      rintro e W6 ⟨rfl, hbl, hb6, hk6⟩
      have HB6 := Lib.hid (And.intro hbl (And.intro hb6 hk6))
      clear hbl hb6 hk6
      go_wp2_with fail
      go_roundw
      case rel =>
        refine ⟨j + 1, by go_num, by have := HJ.out; omega, Lib.hid ⟨?_, ?_, ?_, ?_, ?_⟩⟩
        · exact HB6.out.2.2 _ _ _ _ (by omega) (by decide) (HS.out.1.below HB5.out HS.out.1.lt)
        · exact HB6.out.2.2 _ _ _ _ (by have := HR2.out.lt; have := HNN.out; omega) (by decide) (HS.out.2.1.below HB5.out HS.out.2.1.lt)
        · exact HS.out.2.2.1.trans ((HB5.out.mono HS.out.2.2.1.size).trans (HB6.out.2.1.mono (by have := HR2.out.lt; have := HNN.out; omega)))
        · rw [encN_succ, HX.out, HPL.out]
          have h := HB6.out.1
          rw [str_cells, ← byteCells_app] at h
          exact .inr h
        · have h1 := HB5.out.size
          have h2 := HB6.out.2.1.size
          have h3 := HS.out.2.2.2.2
          have h4 := HB6.out.1.lt
          omega
      case measure => simp [RowKit.intOf]; have := HJ.out; omega
    · obtain rfl : j = 17 := by omega
      have hc : wr.cell? ⟨w.heap.size, 17, none⟩ = some (.string f.text) := by rw [HS.out.2.1.cell 17]; exact HG.out
      have hst : f.text.size ≤ 2000 := valid_text (HVV.out)
      have HPT := Lib.hid (putString_any f.text wr (by omega))
      have HTX := Lib.hid hst
      clear hst
      go_wp2_with fail
      refine HPT.out.mono ?_
      rintro e W5 ⟨rfl, hb5⟩
      obtain ⟨pl, hpl⟩ : ∃ z, (putStrSpec f.text.data.toList).1 = z := ⟨_, rfl⟩
      obtain ⟨pe, hpe⟩ : ∃ z, (putStrSpec f.text.data.toList).2 = z := ⟨_, rfl⟩
      have hv2 : V2s (putStrSpec f.text.data.toList) = .tuple #[.string ⟨pl.toArray⟩, .int .i64 pe] := by unfold V2s; rw [hpl, hpe]
      rw [hv2]
      have HPL := Lib.hid hpl
      have hsz : (Lib.byteCells (encN f 17)).length + (⟨pl.toArray⟩ : ByteArray).size ≤ 140737488355328 := by
        have h1 := encN_len f 17
        have h2 : (⟨pl.toArray⟩ : ByteArray).size = pl.length := by simp [ByteArray.size]
        have h3 := putStrSpec_len f.text.data.toList
        rw [hpl] at h3
        have h4 : f.text.data.toList.length = f.text.size := by rw [Array.length_toList]; rfl
        have h5 := HTX.out
        rw [h2, Lib.byteCells_length]
        omega
      have HWS := Lib.hid (writeString_any N N (Lib.byteCells (encN f 17)) ⟨pl.toArray⟩ W5 (bld_below HS.out.2.2.2.1 hb5) hsz (by have := hb5.size; have := HS.out.2.2.2.2; omega))
      have HB5 := Lib.hid hb5
      clear hb5 hpl hpe hv2 hc hsz
      go_wp2_with fail
      refine HWS.out.mono ?_
      rintro e W6 ⟨rfl, hbl, hb6, -⟩
      have hbl2 := hbl
      rw [str_cells, ← byteCells_app] at hbl2
      have HBS := Lib.hid (Tryz.Builder_String_any N N (encN f 17 ++ pl) W6 (.inr hbl2) (by have := hbl2.lt; omega))
      have HB6 := Lib.hid hb6
      clear hbl hb6 hbl2
      go_wp2_with fail
      refine HBS.out.mono ?_
      rintro e W7 ⟨rfl, hb7⟩
      have HB7 := Lib.hid hb7
      clear hb7
      go_wp2_with fail
      go_ret2
      refine ⟨by unfold encL; rw [HPL.out]; rfl, ?_⟩
      exact HS.out.2.2.1.trans ((HB5.out.mono HS.out.2.2.1.size).trans ((HB6.out.mono (by have := HR2.out.lt; have := HNN.out; omega)).trans (HB7.out.mono (by have := HR2.out.lt; have := HNN.out; omega))))
end Go.Proofs.YtgjajhopjcdflaaGreat
