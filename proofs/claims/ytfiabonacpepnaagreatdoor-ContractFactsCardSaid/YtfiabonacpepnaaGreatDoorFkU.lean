/- Package base: the lists of a base in memory. -/
import Derived.Test.YtfiabonacpepnaaGreatDoorFkJ
import Derived.Test.YtfiabonacpepnaaGreatDoorFkShelf
import Derived.ChangeKeysEq
import Derived.Lib.QuietBelow
import Derived.WalkLawsBesides
import Derived.DeepKeys4
import Derived.Maps.Keyed
import Derived.Maps.RangeRun
import Derived.Great.BuildSlice
import Derived.Maps.AppendAt
import Derived.Shelf.SlSortCmp.NoneTotal
namespace Go.Proofs.YtfiabonacpepnaaGreatDoor.Fb
open Go Go.RowKit Go.Lib Go.Shelf Go.Maps

theorem bld_size : (Tryz.prog.info? 61).map (·.size) = some 2 := by kernel_rfl
theorem byte_info : (Tryz.prog.info? 5).map (fun i => (i.zero, i.size, i.bytes)) = some (some (.int .u8 0), 1, 1) := by kernel_rfl
theorem bld_lies : liesAt Tryz.prog Tryz.prog.depth 61 (2 / Tryz.prog.cellsOf 61) 0 61 1 = true := by kernel_rfl
set_option maxRecDepth 100000 in
set_option maxHeartbeats 1000000 in
theorem check_used (b : Nat) (w : World) (h0 : w.cell? ⟨b, 0, none⟩ = some (.pointer (some ⟨b, 0, none⟩))) :
    Calls Tryz.prog 60 #[.pointer (some ⟨b, 0, none⟩)] w fun e w' => e = .returned (.tuple #[]) ∧ w' = w := by
  obtain ⟨j, hj, _⟩ := Option.map_eq_some_iff.1 bld_size
  go_enter Tryz.func60, Tryz.ntmps60
  go_wp2
  rw [Lib.run_neq_ptr_same w _ Tryz.underlying58 hj]
  go_wp2
  go_end0
  exact ⟨rfl, rfl⟩
set_option maxRecDepth 100000 in
set_option maxHeartbeats 1000000 in
theorem check_fresh (b : Nat) (w : World) (h0 : w.cell? ⟨b, 0, none⟩ = some (.pointer none)) (hsh : w.shape? b = some (61, 2)) (hfz : w.frozen? ⟨b, 0, none⟩ = false) :
    Calls Tryz.prog 60 #[.pointer (some ⟨b, 0, none⟩)] w fun e w' => e = .returned (.tuple #[]) ∧ w' = w.setCell ⟨b, 0, none⟩ (.pointer (some ⟨b, 0, none⟩)) := by
  obtain ⟨j, hj, hjs⟩ := Option.map_eq_some_iff.1 bld_size
  go_enter Tryz.func60, Tryz.ntmps60
  go_wp2
  rw [Lib.run_to_unsafe w ⟨b, 0, none⟩ Tryz.underlying58 Tryz.underlying138 hj (by rw [hjs]; decide) hsh (Nat.zero_lt_succ 1)]
  simp only [Result.andThen]
  rw [Oper.upon_value]
  go_wp2
  rw [run_callFunc_extern Tryz.func82 (by kernel_rfl) (by kernel_rfl) (by kernel_rfl) (e := Extern.AbiNoEscape.same) (by kernel_rfl)]
  rw [Lib.run_noEscape]
  simp only [Result.andThen]
  rw [Oper.upon_value]
  go_wp2
  rw [Lib.run_from_unsafe w ⟨b, 0, none⟩ Tryz.underlying138 Tryz.underlying58 hj hsh bld_lies]
  simp only [Result.andThen]
  rw [Oper.upon_value]
  go_wp2
  go_end0
  exact ⟨rfl, rfl⟩
theorem check_any (B b : Nat) (bs : List Value) (w : World) (h : Lib.IsBuilder 61 5 B b bs w) :
    Calls Tryz.prog 60 #[.pointer (some ⟨b, 0, none⟩)] w fun e w' => e = .returned (.tuple #[]) ∧ Lib.BuilderAt 61 5 B b (.pointer (some ⟨b, 0, none⟩)) bs w' ∧ Below B w w' ∧ ∀ k, k ≠ b → w'.heap[k]? = w.heap[k]? := by
  rcases h with h | h
  · refine (check_fresh b w h.cell0 h.shape h.frozen0).mono ?_
    rintro e w' ⟨rfl, rfl⟩
    exact ⟨rfl, h.used _, (Below.refl B w).setCell (p := ⟨b, 0, none⟩) h.1 _, fun k hk => Below.heap_setCell w ⟨b, 0, none⟩ _ k hk⟩
  · refine (check_used b w h.cell0).mono ?_
    rintro e w' ⟨rfl, rfl⟩
    exact ⟨rfl, h, Below.refl B _, fun _ _ => rfl⟩
set_option maxRecDepth 100000 in
set_option maxHeartbeats 2000000 in
theorem writeString_any (B b : Nat) (bs : List Value) (s : ByteArray) (w : World) (h : Lib.IsBuilder 61 5 B b bs w) (hlen : bs.length + s.size ≤ 140737488355328) (hBw : B ≤ w.heap.size) :
    Calls Tryz.prog 33 #[.pointer (some ⟨b, 0, none⟩), .string s] w fun e w' => e = .returned (.tuple #[.int .i64 s.size, .nilIface]) ∧ Lib.BuilderAt 61 5 B b (.pointer (some ⟨b, 0, none⟩)) (bs ++ Lib.strCells s) w' ∧ Below B w w' ∧ (∀ k cs T fr, k ≠ b → T ≠ 5 → w.heap[k]? = some (.cells cs T fr) → w'.heap[k]? = some (.cells cs T fr)) := by
  obtain ⟨i0, hi, hz0, hz1, hz2⟩ := info_parts byte_info
  go_enter Tryz.func33, Tryz.ntmps33
  go_wp2_with (go_at_call 60; refine (check_any B b bs _ h).mono ?_)
  rintro e w1 ⟨rfl, h1, hb1, hk1⟩
  obtain ⟨hB, v, hbk, hown, hne⟩ := h1
  have c0 : w1.cell? ⟨b, 0, none⟩ = some (.pointer (some ⟨b, 0, none⟩)) := by rw [Lib.cell_of_heap hbk]; rfl
  have c1 : w1.cell? ⟨b, 1, none⟩ = some v := by rw [Lib.cell_of_heap hbk]; rfl
  go_wp2_with (at_builtin; refine Lib.wpList_append_own_string _ rfl _ _ 59 9 rfl B 5 i0 Tryz.underlying59 Tryz.underlying9 hi hz0 hz1 hz2 _ _ _ rfl hown s rfl ?c3 ?c4 ?c5 ?_)
  case c3 => unfold maxLen; omega
  case c4 => omega
  case c5 => have := hb1.size; omega
  intro v' w2 hown' hgrow _
  have hlt : b < w1.heap.size := (Array.getElem?_eq_some_iff.1 hbk).1
  have hb2 : w2.heap[b]? = some (.cells #[.pointer (some ⟨b, 0, none⟩), v] 61 (0, 0)) := by
    rw [hgrow.block b hlt (fun e => hne e.symm)]
    exact hbk
  have d0 : w2.cell? ⟨b, 0, none⟩ = some (.pointer (some ⟨b, 0, none⟩)) := by rw [Lib.cell_of_heap hb2]; rfl
  have d1 : w2.cell? ⟨b, 1, none⟩ = some v := by rw [Lib.cell_of_heap hb2]; rfl
  have f1 : w2.frozen? ⟨b, 1, none⟩ = false := Lib.frozen_of_heap hb2 1
  obtain ⟨ao, n', cap, rfl⟩ : ∃ ao n' cap, v' = .slice ao n' cap := by
    rcases hown'.2 with ⟨hv, _⟩ | ⟨g, cap, cur, hv, _⟩
    · exact ⟨_, _, _, hv⟩
    · exact ⟨_, _, _, hv⟩
  go_wp2
  go_ret2
  refine ⟨rfl, ?_, ?_, ?_⟩
  · exact Lib.BuilderAt.put (T := 61) (e := 5) hB hb2 (bs' := bs ++ Lib.strCells s) (by simpa [Lib.strCells_length] using hown') (by decide)
  · exact (hb1.grown hgrow (by have := hb1.size; omega) (fun k hk => (hown.lt k hk).1)).setCell (p := ⟨b, 1, none⟩) hB _
  · intro k cs T fr hkb hT hk
    have h1 := (hk1 k hkb).trans hk
    have h2 := (hgrow.block k (Array.getElem?_eq_some_iff.1 h1).1 (fun e => Lib.ownBlock_ne hown h1 hT e.symm)).trans h1
    exact (Below.heap_setCell w2 ⟨b, 1, none⟩ _ k hkb).trans h2
theorem bldAt_below {T e : TypeId} {B b : Nat} {p : Value} {bs : List Value} {w w' : World} (h : Lib.BuilderAt T e B b p bs w) (hb : Below w.heap.size w w') : Lib.BuilderAt T e B b p bs w' := by
  obtain ⟨hB, v, hbk, hown, hne⟩ := h
  refine ⟨hB, v, (hb.block b (Array.getElem?_eq_some_iff.1 hbk).1).trans hbk, ⟨hown.1, ?_⟩, hne⟩
  rcases hown.2 with h0 | ⟨g, cap, cur, hv, hbg, hg, rest⟩
  · exact .inl h0
  · exact .inr ⟨g, cap, cur, hv, hbg, (hb.block g (Array.getElem?_eq_some_iff.1 hg).1).trans hg, rest⟩
theorem bld_below {T e : TypeId} {B b : Nat} {bs : List Value} {w w' : World} (h : Lib.IsBuilder T e B b bs w) (hb : Below w.heap.size w w') : Lib.IsBuilder T e B b bs w' :=
  h.elim (fun h => .inl (bldAt_below h hb)) (fun h => .inr (bldAt_below h hb))
end Go.Proofs.YtfiabonacpepnaaGreatDoor.Fb
namespace Go.Proofs.YtfiabonacpepnaaGreatDoor.Fb
open Go Go.RowKit Go.Lib Go.Shelf Go.Maps

/-- the first j numbers of a fact, encoded -/
def encN (f : FactV) (j : Nat) : List UInt8 := (List.range j).flatMap fun i => (putSpec (f.n i)).1
def encL (f : FactV) : List UInt8 := encN f 17 ++ (putStrSpec f.text.data.toList).1
theorem encN_succ (f : FactV) (j : Nat) : encN f (j + 1) = encN f j ++ (putSpec (f.n j)).1 := by
  simp [encN, List.range_succ]
theorem encN_len (f : FactV) : ∀ j, (encN f j).length ≤ 9 * j
  | 0 => by simp [encN]
  | j + 1 => by
    rw [encN_succ, List.length_append]
    have := encN_len f j
    have := putSpec_len (f.n j)
    omega
theorem putStrSpec_len (l : List UInt8) : (putStrSpec l).1.length ≤ l.length + 9 := by
  unfold putStrSpec
  split
  · simp
  · rw [List.length_append]
    have := WireP.encF_len 8 (WireP.zz l.length)
    unfold WireP.enc
    omega
theorem str_cells (l : List UInt8) : Lib.strCells ⟨l.toArray⟩ = Lib.byteCells l := by simp [Lib.strCells, Lib.byteCells]
theorem index_ptrs (rb j : Nat) (hj : j < 17) (W : World) : (Instr.index 78 (.agg (ptrs rb)) (.int .i64 (j : Int))).run Tryz.prog W = .ok (.pointer (some ⟨rb, j, none⟩)) W := by
  have h := ptrs_get rb j hj
  have hz : (sizeOf 77).run Tryz.prog W = .ok 1 W := Tryz.sizeOf77 W
  have hp : (part 77 (ptrs rb) j).run Tryz.prog W = .ok (.pointer (some ⟨rb, j, none⟩)) W := by
    have ha : (isAgg 77).run Tryz.prog W = .ok false W := Tryz.isAgg77 W
    simp [part, ha, h, Result.andThen]
  simp [Instr.index, asIntOf, run_underlying Tryz.underlying78, hz, Result.andThen, hp, show ¬ 17 ≤ j from by omega]
theorem byteCells_app (a b : List UInt8) : Lib.byteCells (a ++ b) = Lib.byteCells a ++ Lib.byteCells b := by simp [Lib.byteCells]
theorem valid_text {f : FactV} (h : validB f = true) : f.text.size ≤ 2000 := by
  unfold validB at h
  simp only [Bool.and_eq_true, decide_eq_true_eq] at h
  exact h.2.1.2.2
set_option maxRecDepth 100000 in
set_option maxHeartbeats 4000000 in
theorem encode_bad (f : FactV) (w : World) (hok : FactOk f) (hv : validB f = false) :
    Calls Tryz.prog 25 #[.agg f.cells] w fun e w' => e = .returned (.tuple #[.string ⟨#[]⟩, .int .i64 50]) ∧ Below w.heap.size w w' := by
  have VF := Lib.hid (fun W => valid_any f W (hok 0).1 (hok 0).2)
  have HVV := Lib.hid hv
  simp only [hv] at VF
  obtain ⟨W1, hW1⟩ : ∃ z, w.alloc (.cells f.cells 47) = z := ⟨_, rfl⟩
  have r1 : RowAt W1 w.heap.size 47 f.cells := by rw [← hW1]; exact RowAt.new w _ _
  have hbw : Below w.heap.size w W1 := by rw [← hW1]; exact (Below.refl _ _).alloc (Nat.le_refl _) _
  have HR := Lib.hid (And.intro r1 hbw)
  have HOK := Lib.hid hok
  have g17 : f.cells[17]? = some (.string f.text) := rfl
  obtain ⟨cs, hcs⟩ : ∃ z, f.cells = z := ⟨_, rfl⟩
  have HCN : Hid ((Tryz.prog.info? 47).map (·.size) = some cs.size) := Lib.hid (by rw [← hcs]; exact fact_size)
  rw [hcs] at VF HR hW1 g17 ⊢
  have HF : Hid (∀ j v, cs[j]? = some v → W1.cell? ⟨w.heap.size, 0 + j, none⟩ = some v) := Lib.hid (fun j v hv => by rw [Nat.zero_add, HR.out.1.cell j]; exact hv)
  have HCS := Lib.hid hcs
  have HG := Lib.hid g17
  clear r1 hbw hcs g17 hv hok
  go_enter Tryz.func25, Tryz.ntmps25
  go_wp2_with (first | ((with_reducible refine load_cs (o := ⟨some 12, _, _, _, _, _⟩) (.tmp 1) w.heap.size cs HF.out HCN.out ?_ ?_ ?_ ?_); rfl; rfl; rfl))
  refine (VF.out _).mono ?_
  rintro e W2 ⟨rfl, hb⟩
  clear hW1
  have HB2 := Lib.hid (HR.out.2.trans (hb.mono HR.out.2.size))
  have HR2 := Lib.hid (HR.out.1.below hb HR.out.1.lt)
  clear hb
  go_wp2_with fail
  go_ret2
  exact ⟨rfl, HB2.out⟩
set_option maxRecDepth 100000 in
set_option maxHeartbeats 4000000 in
theorem encode_good (f : FactV) (w : World) (hok : FactOk f) (hv : validB f = true) :
    Calls Tryz.prog 25 #[.agg f.cells] w fun e w' => e = .returned (.tuple #[.string ⟨(encL f).toArray⟩, .int .i64 0]) ∧ Below w.heap.size w w' := by
  have VF := Lib.hid (fun W => valid_any f W (hok 0).1 (hok 0).2)
  have HVV := Lib.hid hv
  simp only [hv] at VF
  obtain ⟨W1, hW1⟩ : ∃ z, w.alloc (.cells f.cells 47) = z := ⟨_, rfl⟩
  have r1 : RowAt W1 w.heap.size 47 f.cells := by rw [← hW1]; exact RowAt.new w _ _
  have hbw : Below w.heap.size w W1 := by rw [← hW1]; exact (Below.refl _ _).alloc (Nat.le_refl _) _
  have HR := Lib.hid (And.intro r1 hbw)
  have HOK := Lib.hid hok
  have g17 : f.cells[17]? = some (.string f.text) := rfl
  obtain ⟨cs, hcs⟩ : ∃ z, f.cells = z := ⟨_, rfl⟩
  have HCN : Hid ((Tryz.prog.info? 47).map (·.size) = some cs.size) := Lib.hid (by rw [← hcs]; exact fact_size)
  rw [hcs] at VF HR hW1 g17 ⊢
  have HF : Hid (∀ j v, cs[j]? = some v → W1.cell? ⟨w.heap.size, 0 + j, none⟩ = some v) := Lib.hid (fun j v hv => by rw [Nat.zero_add, HR.out.1.cell j]; exact hv)
  have HCS := Lib.hid hcs
  have HG := Lib.hid g17
  clear r1 hbw hcs g17 hv hok
  go_enter Tryz.func25, Tryz.ntmps25
  go_wp2_with (first | ((with_reducible refine load_cs (o := ⟨some 12, _, _, _, _, _⟩) (.tmp 1) w.heap.size cs HF.out HCN.out ?_ ?_ ?_ ?_); rfl; rfl; rfl))
  refine (VF.out _).mono ?_
  rintro e W2 ⟨rfl, hb⟩
  clear hW1
  have HB2 := Lib.hid (HR.out.2.trans (hb.mono HR.out.2.size))
  have HR2 := Lib.hid (HR.out.1.below hb HR.out.1.lt)
  clear hb
  obtain ⟨N, hN⟩ : ∃ z, W2.heap.size = z := ⟨_, rfl⟩
  obtain ⟨W3, hW3⟩ : ∃ z, W2.alloc (.cells #[.pointer none, .slice none 0 0] 61) = z := ⟨_, rfl⟩
  have HNN := Lib.hid hN
  have hs3 : W3.heap.size = N + 1 := by rw [← hW3, ← hN]; simp
  have HI3 : Hid (Lib.IsBuilder 61 5 N N [] W3) := Lib.hid (by rw [← hW3, ← hN]; exact Lib.fresh_isBuilder _ _ _)
  have HR3 : Hid (RowAt W3 w.heap.size 47 cs) := Lib.hid (by rw [← hW3]; exact HR2.out.alloc _)
  have HB3 : Hid (Below w.heap.size w W3) := Lib.hid (by rw [← hW3]; exact HB2.out.alloc HB2.out.size _)
  have HF3 : Hid (∀ j v, cs[j]? = some v → W3.cell? ⟨w.heap.size, 0 + j, none⟩ = some v) := Lib.hid (fun j v hv => by rw [Nat.zero_add, HR3.out.cell j]; exact hv)
  have hbd := build_rec f
  rw [HCS.out] at hbd
  have h18 : cs.size = 18 := by rw [← HCS.out]; rfl
  have hbd2 := hbd
  rw [h18] at hbd2
  go_wp2_with (first | ((with_reducible refine load_cs (o := ⟨some 15, _, _, _, _, _⟩) (.tmp 1) w.heap.size cs HF3.out HCN.out ?_ ?_ ?_ ?_); rfl; rfl; rfl))
  refine (fnumbers_any (N + 1) _).mono ?_
  rintro e W4 ⟨rfl, hb⟩
  have HW4 : Hid (RowAt W4 (N + 1) 76 cs ∧ RowAt W4 w.heap.size 47 cs ∧ Below w.heap.size w W4 ∧ Lib.IsBuilder 61 5 N N (Lib.byteCells (encN f 0)) W4 ∧ N < W4.heap.size) := Lib.hid (by
    have h0 := RowAt.new W3 76 cs
    rw [hs3] at h0
    have hba := (Below.refl W3.heap.size W3).alloc (Nat.le_refl _) (.cells cs 76)
    refine ⟨h0.below hb h0.lt, (HR3.out.alloc _).below hb (HR3.out.alloc _).lt, (HB3.out.alloc HB3.out.size _).trans (hb.mono (by have := HB3.out.size; simp; omega)), bld_below (bld_below HI3.out hba) hb, ?_⟩
    have := hb.size
    simp at this
    omega)
  clear hb hs3 hW3 hbd hbd2 h18
  obtain ⟨PS, hPS⟩ : ∃ z, ptrs (N + 1) = z := ⟨_, rfl⟩
  have HPS := Lib.hid hPS
  rw [hPS]
  clear hPS hN
  go_wp2_with fail
  go_loopw [20] (fun v20 wr => ∃ j : Nat, v20 = .int .i64 j ∧ j ≤ 17 ∧ Hid (RowAt wr (N + 1) 76 cs ∧ RowAt wr w.heap.size 47 cs ∧ Below w.heap.size w wr ∧ Lib.IsBuilder 61 5 N N (Lib.byteCells (encN f j)) wr ∧ N < wr.heap.size)) (fun v20 _ => 17 - (RowKit.intOf v20).toNat)
  case atStart => exact ⟨0, rfl, by omega, HW4⟩
  case round =>
    obtain ⟨j, rfl, hj, HS⟩ := hrel
    by_cases hj2 : j < 17
    · have hjd : decide ((j : Int) < 17) = true := by simp; omega
      have hix := index_ptrs (N + 1) j hj2
      rw [HPS.out] at hix
      obtain ⟨x, hx⟩ : ∃ z, f.n j = z := ⟨_, rfl⟩
      have hc : wr.cell? ⟨N + 1, j, none⟩ = some (.int .i64 x) := by rw [HS.out.1.cell j, ← HCS.out, cells_get f j hj2, hx]
      have HX := Lib.hid hx
      have HJ := Lib.hid hj2
      have HPI := Lib.hid (putInt_any x wr (by rw [← hx]; exact (HOK.out j).1) (by rw [← hx]; exact (HOK.out j).2))
      clear hx
      go_wp2_with fail
      refine HPI.out.mono ?_
      rintro e W5 ⟨rfl, hb5⟩
      obtain ⟨pl, hpl⟩ : ∃ z, (putSpec x).1 = z := ⟨_, rfl⟩
      obtain ⟨pe, hpe⟩ : ∃ z, (putSpec x).2 = z := ⟨_, rfl⟩
      have hv2 : V2s (putSpec x) = .tuple #[.string ⟨pl.toArray⟩, .int .i64 pe] := by unfold V2s; rw [hpl, hpe]
      rw [hv2]
      have HPL := Lib.hid hpl
      have hlen : pl.length ≤ 9 := by rw [← hpl]; exact putSpec_len x
      have hsz : (Lib.byteCells (encN f j)).length + (⟨pl.toArray⟩ : ByteArray).size ≤ 140737488355328 := by
        have h1 := encN_len f j
        have h2 : (⟨pl.toArray⟩ : ByteArray).size = pl.length := by simp [ByteArray.size]
        rw [h2, Lib.byteCells_length]
        omega
      have HWS := Lib.hid (writeString_any N N (Lib.byteCells (encN f j)) ⟨pl.toArray⟩ W5 (bld_below HS.out.2.2.2.1 hb5) hsz (by have := hb5.size; have := HS.out.2.2.2.2; omega))
      have HB5 := Lib.hid hb5
      clear hb5 hpl hpe hv2 hix hc hlen hsz
      go_wp2_with fail
      refine HWS.out.mono ?_
      rintro e W6 ⟨rfl, hbl, hb6, hk6⟩
      have HB6 := Lib.hid (And.intro hbl (And.intro hb6 hk6))
      clear hbl hb6 hk6
      go_wp2_with fail
      go_roundw
      case rel =>
        refine ⟨j + 1, by go_num, by have := HJ.out; omega, Lib.hid ⟨?_, ?_, ?_, ?_, ?_⟩⟩
        · exact HB6.out.2.2 _ _ _ _ (by omega) (by decide) (HS.out.1.below HB5.out HS.out.1.lt)
        · exact HB6.out.2.2 _ _ _ _ (by have := HR2.out.lt; have := HNN.out; omega) (by decide) (HS.out.2.1.below HB5.out HS.out.2.1.lt)
        · exact HS.out.2.2.1.trans ((HB5.out.mono HS.out.2.2.1.size).trans (HB6.out.2.1.mono (by have := HR2.out.lt; have := HNN.out; omega)))
        · rw [encN_succ, HX.out, HPL.out]
          have h := HB6.out.1
          rw [str_cells, ← byteCells_app] at h
          exact .inr h
        · have h1 := HB5.out.size
          have h2 := HB6.out.2.1.size
          have h3 := HS.out.2.2.2.2
          have h4 := HB6.out.1.lt
          omega
      case measure => simp [RowKit.intOf]; have := HJ.out; omega
    · obtain rfl : j = 17 := by omega
      have hc : wr.cell? ⟨w.heap.size, 17, none⟩ = some (.string f.text) := by rw [HS.out.2.1.cell 17]; exact HG.out
      have hst : f.text.size ≤ 2000 := valid_text (HVV.out)
      have HPT := Lib.hid (putString_any f.text wr (by omega))
      have HTX := Lib.hid hst
      clear hst
      go_wp2_with fail
      refine HPT.out.mono ?_
      rintro e W5 ⟨rfl, hb5⟩
      obtain ⟨pl, hpl⟩ : ∃ z, (putStrSpec f.text.data.toList).1 = z := ⟨_, rfl⟩
      obtain ⟨pe, hpe⟩ : ∃ z, (putStrSpec f.text.data.toList).2 = z := ⟨_, rfl⟩
      have hv2 : V2s (putStrSpec f.text.data.toList) = .tuple #[.string ⟨pl.toArray⟩, .int .i64 pe] := by unfold V2s; rw [hpl, hpe]
      rw [hv2]
      have HPL := Lib.hid hpl
      have hsz : (Lib.byteCells (encN f 17)).length + (⟨pl.toArray⟩ : ByteArray).size ≤ 140737488355328 := by
        have h1 := encN_len f 17
        have h2 : (⟨pl.toArray⟩ : ByteArray).size = pl.length := by simp [ByteArray.size]
        have h3 := putStrSpec_len f.text.data.toList
        rw [hpl] at h3
        have h4 : f.text.data.toList.length = f.text.size := by rw [Array.length_toList]; rfl
        have h5 := HTX.out
        rw [h2, Lib.byteCells_length]
        omega
      have HWS := Lib.hid (writeString_any N N (Lib.byteCells (encN f 17)) ⟨pl.toArray⟩ W5 (bld_below HS.out.2.2.2.1 hb5) hsz (by have := hb5.size; have := HS.out.2.2.2.2; omega))
      have HB5 := Lib.hid hb5
      clear hb5 hpl hpe hv2 hc hsz
      go_wp2_with fail
      refine HWS.out.mono ?_
      rintro e W6 ⟨rfl, hbl, hb6, -⟩
      have hbl2 := hbl
      rw [str_cells, ← byteCells_app] at hbl2
      have HBS := Lib.hid (Tryz.Builder_String_any N N (encN f 17 ++ pl) W6 (.inr hbl2) (by have := hbl2.lt; omega))
      have HB6 := Lib.hid hb6
      clear hbl hb6 hbl2
      go_wp2_with fail
      refine HBS.out.mono ?_
      rintro e W7 ⟨rfl, hb7⟩
      have HB7 := Lib.hid hb7
      clear hb7
      go_wp2_with fail
      go_ret2
      refine ⟨by unfold encL; rw [HPL.out]; rfl, ?_⟩
      exact HS.out.2.2.1.trans ((HB5.out.mono HS.out.2.2.1.size).trans ((HB6.out.mono (by have := HR2.out.lt; have := HNN.out; omega)).trans (HB7.out.mono (by have := HR2.out.lt; have := HNN.out; omega))))
end Go.Proofs.YtfiabonacpepnaaGreatDoor.Fb
namespace Go.Proofs.YtfiabonacpepnaaGreatDoor.Fb
open Go Go.RowKit Go.Lib Go.Shelf Go.Maps

theorem info_int : (Tryz.prog.info? 3).map (fun i => (i.zero, i.size, i.bytes)) = some (some (.int .i64 0), 1, 8) := by kernel_rfl
theorem cells_int : Tryz.prog.cellsOf 3 = 1 := by kernel_rfl
theorem eqi (d : Nat) (a b : Int) (w : World) : (Op.equalIn (d + 1) 3 (.int .i64 a) (.int .i64 b)).run Tryz.prog w = .ok (a == b) w := run_equalIn_int w d _ _ _ a b Tryz.underlying3
set_option maxRecDepth 10000 in
theorem eq_key (a0 a1 a2 b0 b1 b2 : Int) (w : World) :
    (Op.equalIn 10000 91 (.agg #[.int .i64 a0, .int .i64 a1, .int .i64 a2]) (.agg #[.int .i64 b0, .int .i64 b1, .int .i64 b2])).run Tryz.prog w = .ok (a0 == b0 && (a1 == b1 && a2 == b2)) w := by
  obtain ⟨i0, hi, -, -, -⟩ := info_parts info_int
  rw [run_equalIn_array (w := w) 9999 (i := i0) _ _ Tryz.underlying91 hi, cells_int, show List.range 3 = [0, 1, 2] from by decide]
  have e := eqi 9998
  simp only [Op.eqItems, Sem.run_bind]
  cases h0 : (a0 == b0) <;> cases h1 : (a1 == b1) <;> cases h2 : (a2 == b2) <;> simp [part, go_sem, e, h0, h1, h2]
def keyEq (f g : FactV) : Bool := f.n 0 == g.n 0 && ((key2 f).1 == (key2 g).1 && (key2 f).2 == (key2 g).2)
/-- does f prevail over g? -/
def prevB (f g : FactV) : Bool := validB f && (validB g && (keyEq f g && (if f.n 2 = g.n 2 then decide (0 < Lib.compareBytes (encL f) (encL g)) else decide (g.n 2 < f.n 2))))
set_option maxRecDepth 100000 in
set_option maxHeartbeats 4000000 in
theorem prevails_any (f g : FactV) (w : World) (hf : FactOk f) (hg : FactOk g) :
    Calls Tryz.prog 56 #[.agg f.cells, .agg g.cells] w fun e w' => e = .returned (.bool (prevB f g)) ∧ Below w.heap.size w w' := by
  obtain ⟨W1, hW1⟩ : ∃ z, (w.alloc (.cells f.cells 47)).alloc (.cells g.cells 47) = z := ⟨_, rfl⟩
  have r1 : RowAt W1 w.heap.size 47 f.cells := by rw [← hW1]; exact (RowAt.new w _ _).alloc _
  have r2 : RowAt W1 (w.heap.size + 1) 47 g.cells := by
    rw [← hW1]
    have h := RowAt.new (w.alloc (.cells f.cells 47)) 47 g.cells
    simpa using h
  have hbw : Below w.heap.size w W1 := by rw [← hW1]; exact ((Below.refl _ _).alloc (Nat.le_refl _) _).alloc (by simp) _
  have HR := Lib.hid (And.intro r1 (And.intro r2 hbw))
  have KF := Lib.hid (fun W => key_any f W (hf 0).1 (hf 0).2)
  have KG := Lib.hid (fun W => key_any g W (hg 0).1 (hg 0).2)
  have EFB := Lib.hid (fun h W => encode_bad f W hf h)
  have EFG := Lib.hid (fun h W => encode_good f W hf h)
  have EGB := Lib.hid (fun h W => encode_bad g W hg h)
  have EGG := Lib.hid (fun h W => encode_good g W hg h)
  obtain ⟨cf, hcf⟩ : ∃ z, f.cells = z := ⟨_, rfl⟩
  obtain ⟨cg, hcg⟩ : ∃ z, g.cells = z := ⟨_, rfl⟩
  have HCF : Hid ((Tryz.prog.info? 47).map (·.size) = some cf.size) := Lib.hid (by rw [← hcf]; exact fact_size)
  have HCG : Hid ((Tryz.prog.info? 47).map (·.size) = some cg.size) := Lib.hid (by rw [← hcg]; exact fact_size)
  have HF2 : Hid (cf[2]? = some (.int .i64 (f.n 2))) := Lib.hid (by rw [← hcf]; rfl)
  have HG2 : Hid (cg[2]? = some (.int .i64 (g.n 2))) := Lib.hid (by rw [← hcg]; rfl)
  rw [hcf] at KF EFB EFG HR hW1 ⊢
  rw [hcg] at KG EGB EGG HR hW1 ⊢
  have HFL : Hid (∀ W, Below W1.heap.size W1 W → ∀ j v, cf[j]? = some v → W.cell? ⟨w.heap.size, 0 + j, none⟩ = some v) := Lib.hid (fun W hb j v hv => by rw [Nat.zero_add, (HR.out.1.below hb HR.out.1.lt).cell j]; exact hv)
  have HGL : Hid (∀ W, Below W1.heap.size W1 W → ∀ j v, cg[j]? = some v → W.cell? ⟨w.heap.size + 1, 0 + j, none⟩ = some v) := Lib.hid (fun W hb j v hv => by rw [Nat.zero_add, (HR.out.2.1.below hb HR.out.2.1.lt).cell j]; exact hv)
  have HB1 := Lib.hid (Below.refl W1.heap.size W1)
  clear r1 r2 hbw hf hg hcf hcg
  cases hvf : validB f
  · have E1 := Lib.hid (EFB.out hvf)
    cases hvg : validB g
    · have E2 := Lib.hid (EGB.out hvg)
      clear EFB EFG EGB EGG
      go_enter Tryz.func56, Tryz.ntmps56
      go_wp2_with (first | ((with_reducible refine load_cs (o := ⟨some 10, _, _, _, _, _⟩) (.tmp 2) w.heap.size cf (HFL.out _ HB1.out) HCF.out ?_ ?_ ?_ ?_); rfl; rfl; rfl))
      refine (E1.out _).mono ?_
      rintro e W2 ⟨rfl, hb2⟩
      clear hW1
      have HB2 := Lib.hid hb2
      clear hb2
      go_wp2_with (first | ((with_reducible refine load_cs (o := ⟨some 15, _, _, _, _, _⟩) (.tmp 3) (w.heap.size + 1) cg (HGL.out _ HB2.out) HCG.out ?_ ?_ ?_ ?_); rfl; rfl; rfl))
      refine (E2.out _).mono ?_
      rintro e W3 ⟨rfl, hb3⟩
      have HB3 := Lib.hid (HB2.out.trans (hb3.mono HB2.out.size))
      have HEND := Lib.hid (HR.out.2.2.trans (HB3.out.mono HR.out.2.2.size))
      clear hb3
      go_wp2_with fail
      go_ret
      exact ⟨by unfold prevB; rw [hvf]; rfl, HEND.out⟩
    · have E2 := Lib.hid (EGG.out hvg)
      clear EFB EFG EGB EGG
      go_enter Tryz.func56, Tryz.ntmps56
      go_wp2_with (first | ((with_reducible refine load_cs (o := ⟨some 10, _, _, _, _, _⟩) (.tmp 2) w.heap.size cf (HFL.out _ HB1.out) HCF.out ?_ ?_ ?_ ?_); rfl; rfl; rfl))
      refine (E1.out _).mono ?_
      rintro e W2 ⟨rfl, hb2⟩
      clear hW1
      have HB2 := Lib.hid hb2
      clear hb2
      go_wp2_with (first | ((with_reducible refine load_cs (o := ⟨some 15, _, _, _, _, _⟩) (.tmp 3) (w.heap.size + 1) cg (HGL.out _ HB2.out) HCG.out ?_ ?_ ?_ ?_); rfl; rfl; rfl))
      refine (E2.out _).mono ?_
      rintro e W3 ⟨rfl, hb3⟩
      have HB3 := Lib.hid (HB2.out.trans (hb3.mono HB2.out.size))
      have HEND := Lib.hid (HR.out.2.2.trans (HB3.out.mono HR.out.2.2.size))
      clear hb3
      go_wp2_with fail
      go_ret
      exact ⟨by unfold prevB; rw [hvf]; rfl, HEND.out⟩
  · have E1 := Lib.hid (EFG.out hvf)
    cases hvg : validB g
    · have E2 := Lib.hid (EGB.out hvg)
      clear EFB EFG EGB EGG
      go_enter Tryz.func56, Tryz.ntmps56
      go_wp2_with (first | ((with_reducible refine load_cs (o := ⟨some 10, _, _, _, _, _⟩) (.tmp 2) w.heap.size cf (HFL.out _ HB1.out) HCF.out ?_ ?_ ?_ ?_); rfl; rfl; rfl))
      refine (E1.out _).mono ?_
      rintro e W2 ⟨rfl, hb2⟩
      clear hW1
      have HB2 := Lib.hid hb2
      clear hb2
      go_wp2_with (first | ((with_reducible refine load_cs (o := ⟨some 15, _, _, _, _, _⟩) (.tmp 3) (w.heap.size + 1) cg (HGL.out _ HB2.out) HCG.out ?_ ?_ ?_ ?_); rfl; rfl; rfl))
      refine (E2.out _).mono ?_
      rintro e W3 ⟨rfl, hb3⟩
      have HB3 := Lib.hid (HB2.out.trans (hb3.mono HB2.out.size))
      have HEND := Lib.hid (HR.out.2.2.trans (HB3.out.mono HR.out.2.2.size))
      clear hb3
      go_wp2_with fail
      go_ret
      exact ⟨by unfold prevB; rw [hvg]; simp, HEND.out⟩
    · have E2 := Lib.hid (EGG.out hvg)
      clear EFB EFG EGB EGG
      go_enter Tryz.func56, Tryz.ntmps56
      go_wp2_with (first | ((with_reducible refine load_cs (o := ⟨some 10, _, _, _, _, _⟩) (.tmp 2) w.heap.size cf (HFL.out _ HB1.out) HCF.out ?_ ?_ ?_ ?_); rfl; rfl; rfl))
      refine (E1.out _).mono ?_
      rintro e W2 ⟨rfl, hb2⟩
      clear hW1
      have HB2 := Lib.hid hb2
      clear hb2
      go_wp2_with (first | ((with_reducible refine load_cs (o := ⟨some 15, _, _, _, _, _⟩) (.tmp 3) (w.heap.size + 1) cg (HGL.out _ HB2.out) HCG.out ?_ ?_ ?_ ?_); rfl; rfl; rfl))
      refine (E2.out _).mono ?_
      rintro e W3 ⟨rfl, hb3⟩
      have HB3 := Lib.hid (HB2.out.trans (hb3.mono HB2.out.size))
      have HEND := Lib.hid (HR.out.2.2.trans (HB3.out.mono HR.out.2.2.size))
      clear hb3
      have HKE := Lib.hid (show prevB f g = (keyEq f g && (if f.n 2 = g.n 2 then decide (0 < Lib.compareBytes (encL f) (encL g)) else decide (g.n 2 < f.n 2))) from by unfold prevB; rw [hvf, hvg]; rfl)
      have HCMP := Lib.hid (fun W => Tryz.strings_Compare ⟨(encL f).toArray⟩ ⟨(encL g).toArray⟩ W)
      simp only at HCMP
      obtain ⟨CB, hCB⟩ : ∃ z, Lib.compareBytes (encL f) (encL g) = z := ⟨_, rfl⟩
      rw [hCB] at HKE HCMP
      obtain ⟨q, hq⟩ : ∃ z, keyEq f g = z := ⟨_, rfl⟩
      rw [hq] at HKE
      have hek := eq_key (f.n 0) (key2 f).1 (key2 f).2 (g.n 0) (key2 g).1 (key2 g).2
      have hq2 : (f.n 0 == g.n 0 && ((key2 f).1 == (key2 g).1 && (key2 f).2 == (key2 g).2)) = q := hq
      rw [hq2] at hek
      unfold keyV at KF KG
      obtain ⟨x0, hx0⟩ : ∃ z, f.n 0 = z := ⟨_, rfl⟩
      obtain ⟨x1, hx1⟩ : ∃ z, (key2 f).1 = z := ⟨_, rfl⟩
      obtain ⟨x2, hx2⟩ : ∃ z, (key2 f).2 = z := ⟨_, rfl⟩
      obtain ⟨y0, hy0⟩ : ∃ z, g.n 0 = z := ⟨_, rfl⟩
      obtain ⟨y1, hy1⟩ : ∃ z, (key2 g).1 = z := ⟨_, rfl⟩
      obtain ⟨y2, hy2⟩ : ∃ z, (key2 g).2 = z := ⟨_, rfl⟩
      rw [hx0, hx1, hx2] at KF hek
      rw [hy0, hy1, hy2] at KG hek
      obtain ⟨vf, hvf2⟩ : ∃ z, f.n 2 = z := ⟨_, rfl⟩
      obtain ⟨vg, hvg2⟩ : ∃ z, g.n 2 = z := ⟨_, rfl⟩
      rw [hvf2, hvg2] at HKE
      rw [hvf2] at HF2
      rw [hvg2] at HG2
      have HLA : Hid (∀ W, (∃ p : Regrown, W = Go.Sort.grow (redrawn W3 p.d) p.os) → ∀ j v, cf[j]? = some v → W.cell? ⟨w.heap.size, 0 + j, none⟩ = some v) := Lib.hid (by
        rintro W ⟨p, rfl⟩
        exact HFL.out _ (HB3.out.trans ((below_regrown W3 p.d p.os).mono HB3.out.size)))
      have HLB : Hid (∀ W, (∃ p : Regrown, W = Go.Sort.grow (redrawn W3 p.d) p.os) → ∀ j v, cg[j]? = some v → W.cell? ⟨w.heap.size + 1, 0 + j, none⟩ = some v) := Lib.hid (by
        rintro W ⟨p, rfl⟩
        exact HGL.out _ (HB3.out.trans ((below_regrown W3 p.d p.os).mono HB3.out.size)))
      clear hx0 hx1 hx2 hy0 hy1 hy2 hvf2 hvg2 hq hq2 hCB hvf hvg
      go_wp2_with fail
      refine wp_region_quiet_below (by kernel_rfl) (by kernel_rfl) ?_
      repeat (quiet_step (fail))
      refine wpQuiet_load_at 47 (.tmp 2) w.heap.size 0 cf _ HLA.out Tryz.underlying47 rfl rfl rfl rfl HCF.out ?_
      quiet_step ((go_at_call 55; exact Calls.regrown_of (KF.out _)))
      refine wpQuiet_load_at 47 (.tmp 3) (w.heap.size + 1) 0 cg _ HLB.out Tryz.underlying47 rfl rfl rfl rfl HCG.out ?_
      quiet_step ((go_at_call 55; exact Calls.regrown_of (KG.out _)))
      repeat (quiet_step (fail))
      refine wpQuiet_nil ?_
      intro W4 hW4
      have hA2 : W4.cell? ⟨w.heap.size, 2, none⟩ = some (.int .i64 vf) := by have h := HLA.out W4 hW4 2 _ HF2.out; simpa using h
      have hB2 : W4.cell? ⟨w.heap.size + 1, 2, none⟩ = some (.int .i64 vg) := by have h := HLB.out W4 hW4 2 _ HG2.out; simpa using h
      have HB4 : Hid (Below w.heap.size w W4) := Lib.hid (by
        obtain ⟨p, rfl⟩ := hW4
        exact HEND.out.trans ((below_regrown W3 p.d p.os).mono HEND.out.size))
      clear HLA HLB hW4 HEND HB3 KF KG hek HF2 HG2 E1 E2
      cases q
      · go_wp2_with fail
        go_ret
        exact ⟨by rw [HKE.out]; rfl, HB4.out⟩
      · by_cases hvv : vf = vg
        · have hd : (vf == vg) = true := by simpa using hvv
          have HVV := Lib.hid hvv
          clear hvv
          go_wp2_with fail
          refine (HCMP.out _).mono ?_
          rintro e W5 ⟨rfl, rfl⟩
          go_wp2_with fail
          go_ret
          exact ⟨by rw [HKE.out, if_pos HVV.out]; rfl, HB4.out⟩
        · have hd : (vf == vg) = false := by simpa using hvv
          have HVV := Lib.hid hvv
          clear hvv
          go_wp2_with fail
          go_ret
          exact ⟨by rw [HKE.out, if_neg HVV.out]; rfl, HB4.out⟩
end Go.Proofs.YtfiabonacpepnaaGreatDoor.Fb
namespace Go.Proofs.YtfiabonacpepnaaGreatDoor.Fb
open Go Go.RowKit Go.Lib Go.Shelf Go.Maps
open Go.ChangeMaps (setBlock)
open Go.MapKept (Stamped stamped_push stamped_modify)

theorem laidOut07 : laidOutB Tryz.prog = true := by kernel_rfl
theorem rowKey : (91 : TypeId) < Tryz.prog.types.size := of_decide_eq_true (by kernel_rfl)
theorem wideKey : (match Tryz.prog.underlying 91 with | some (.array _ _) | some (.struct _) => true | _ => false) = true := by rw [Tryz.underlying91]
set_option maxRecDepth 100000 in
theorem keyed3 : Keyed Tryz.prog 91 := Keyed.of_law (deep_law_laid laidOut07 (m := 2) (by omega) rowKey (by kernel_rfl) wideKey)
theorem keyType3 : Tryz.prog.keyType 91 = true := by kernel_rfl
theorem cells3 : Tryz.prog.cellsOf 91 = 3 := by kernel_rfl
theorem types_pos : ∃ n, Tryz.prog.types.size = n + 1 := by
  have h : decide (0 < Tryz.prog.types.size) = true := by kernel_rfl
  have h2 := of_decide_eq_true h
  exact ⟨Tryz.prog.types.size - 1, by omega⟩
theorem key_ok (a b c : Int) (ha : -9223372036854775808 ≤ a ∧ a ≤ 9223372036854775807) (hb : -9223372036854775808 ≤ b ∧ b ≤ 9223372036854775807) (hc : -9223372036854775808 ≤ c ∧ c ≤ 9223372036854775807) :
    ∃ kl, keyOf Tryz.prog 91 (.agg #[.int .i64 a, .int .i64 b, .int .i64 c]) = some kl := by
  have w : ∀ x : Int, -9223372036854775808 ≤ x ∧ x ≤ 9223372036854775807 → (Lit.int .i64 x).wf = true := fun x hx => by
    have e : IntKind.i64.min = -9223372036854775808 := by decide
    simp [Lit.wf, e, hx]
  obtain ⟨n, hn⟩ := types_pos
  refine ⟨.string (keyBytes [.int .i64 a, .int .i64 b, .int .i64 c]), ?_⟩
  simp [keyOf, Tryz.underlying91, keyType3, Value.formed, cells3, hn, Program.keyLits, Value.cells, List.range_succ, Tryz.underlying3, cells_int, w a ha, w b hb, w c hc]

abbrev TM : TypeId := 90
theorem key2_ok {f : FactV} (h : FactOk f) : (-9223372036854775808 ≤ (key2 f).1 ∧ (key2 f).1 ≤ 9223372036854775807) ∧ (-9223372036854775808 ≤ (key2 f).2 ∧ (key2 f).2 ≤ 9223372036854775807) := by
  have z : (-9223372036854775808 : Int) ≤ 0 ∧ (0 : Int) ≤ 9223372036854775807 := by omega
  unfold key2
  repeat' split
  all_goals first | exact ⟨h _, h _⟩ | exact ⟨h _, z⟩ | exact ⟨z, z⟩
theorem keyV_ok {f : FactV} (h : FactOk f) : ∃ kl, keyOf Tryz.prog 91 (keyV f) = some kl := key_ok _ _ _ (h 0) (key2_ok h).1 (key2_ok h).2
theorem keyEq_iff {f g : FactV} : keyEq f g = true ↔ keyV f = keyV g := by
  unfold keyEq keyV
  simp
theorem keyEq_false {f g : FactV} : keyEq f g = false ↔ keyV f ≠ keyV g := by
  rw [← Bool.not_eq_true, keyEq_iff]
def entF (f : FactV) : Value × Value := (keyV f, .agg f.cells)
/-- block b is a map from keys to the facts L -/
def MapF (w : World) (b n : Nat) (L : List FactV) : Prop := ∃ es clock, w.heap[b]? = some (.map es clock) ∧ Stamped es clock ∧ es.toList.map (fun e => (e.key, e.val)) = L.map entF ∧ L.length ≤ n ∧ ∀ f ∈ L, FactOk f
theorem MapF.lt {w : World} {b n : Nat} {L : List FactV} (h : MapF w b n L) : b < w.heap.size := by
  obtain ⟨es, clock, hh, _⟩ := h
  exact (Array.getElem?_eq_some_iff.1 hh).1
theorem MapF.kept {w w' : World} {b n : Nat} {L : List FactV} (h : MapF w b n L) (hb : w'.heap[b]? = w.heap[b]?) : MapF w' b n L := by
  obtain ⟨es, clock, hh, r⟩ := h
  exact ⟨es, clock, hb.trans hh, r⟩
theorem MapF.mono {w : World} {b n m : Nat} {L : List FactV} (h : MapF w b n L) (hn : n ≤ m) : MapF w b m L := by
  obtain ⟨es, clock, hh, h1, h2, h3, h4⟩ := h
  exact ⟨es, clock, hh, h1, h2, by omega, h4⟩
theorem MapF.new (w : World) : MapF (w.alloc (.map #[] 0)) w.heap.size 0 [] := ⟨#[], 0, (MapKept.heap_alloc w _).1, MapKept.stamped_empty 0, rfl, Nat.le_refl _, by simp⟩
/-- the entries' keys are the facts' keys, in order -/
theorem ent_keys {es : List MapEntry} {L : List FactV} (h : es.map (fun e => (e.key, e.val)) = L.map entF) : es.map (·.key) = L.map keyV := by
  have := congrArg (List.map Prod.fst) h
  simpa [List.map_map, Function.comp_def, entF] using this
theorem ent_get {es : List MapEntry} {L : List FactV} (h : es.map (fun e => (e.key, e.val)) = L.map entF) {j : Nat} {e : MapEntry} (he : es[j]? = some e) : ∃ f, L[j]? = some f ∧ e.key = keyV f ∧ e.val = .agg f.cells := by
  have h1 := congrArg (fun l => l[j]?) h
  simp only [List.getElem?_map, he, Option.map_some] at h1
  cases hf : L[j]? with
  | none => rw [hf] at h1; simp at h1
  | some f =>
    rw [hf] at h1
    simp only [Option.map_some, Option.some.injEq, entF, Prod.mk.injEq] at h1
    exact ⟨f, rfl, h1.1, h1.2⟩
theorem ent_ok {es : List MapEntry} {L : List FactV} (h : es.map (fun e => (e.key, e.val)) = L.map entF) (hok : ∀ f ∈ L, FactOk f) : ∀ e ∈ es, ∃ l, keyOf Tryz.prog 91 e.key = some l := by
  intro e he
  obtain ⟨j, hj⟩ := List.getElem?_of_mem he
  obtain ⟨f, hf, hk, _⟩ := ent_get h hj
  rw [hk]
  exact keyV_ok (hok f (List.mem_of_getElem? hf))
/-- a fact put into a list of facts of different keys -/
def putL (L : List FactV) (f : FactV) : List FactV := if L.any (keyEq f) then L.map (fun g => if keyEq f g then f else g) else L ++ [f]
def zf : FactV := ⟨fun _ => 0, ⟨#[]⟩⟩
theorem zf_zero (W : World) : (zeroValue 47).run Tryz.prog W = .ok (.agg zf.cells) W := Tryz.zeroValue47 W
theorem MapF.look {w : World} {b n : Nat} {L : List FactV} (h : MapF w b n L) (key : Value) (hk : ∃ kl, keyOf Tryz.prog 91 key = some kl) (c : Bool) :
    ((∀ g ∈ L, keyV g ≠ key) ∧ (Instr.lookup TM (.map (some b)) key c).run Tryz.prog w = .ok (if c then .tuple #[.agg zf.cells, .bool false] else .agg zf.cells) w) ∨
    ∃ g ∈ L, keyV g = key ∧ (Instr.lookup TM (.map (some b)) key c).run Tryz.prog w = .ok (if c then .tuple #[.agg g.cells, .bool true] else .agg g.cells) w := by
  obtain ⟨es, clock, hh, hs, hm, _, hok⟩ := h
  obtain ⟨kl, hkl⟩ := hk
  rcases keyed3.find w hkl es.toList (ent_ok hm hok) with ⟨h1, h2⟩ | ⟨j, e0, h1, h2, h3⟩
  · refine .inl ⟨?_, by simp [Instr.lookup, run_underlying Tryz.underlying90, MapKept.run_getObj_map hh, keyed3.check w _ hkl, h1, Result.andThen]; cases c <;> rfl⟩
    intro g hg
    obtain ⟨e, he, hek⟩ : ∃ e ∈ es.toList, e.key = keyV g := by
      have : keyV g ∈ es.toList.map (·.key) := by rw [ent_keys hm]; exact List.mem_map_of_mem hg
      obtain ⟨e, he, hek⟩ := List.mem_map.1 this
      exact ⟨e, he, hek⟩
    rw [← hek]
    exact h2 e he
  · obtain ⟨g, hg, hkg, hvg⟩ := ent_get hm h2
    refine .inr ⟨g, List.mem_of_getElem? hg, by rw [← hkg, h3], ?_⟩
    rw [← hvg]
    simp [Instr.lookup, run_underlying Tryz.underlying90, MapKept.run_getObj_map hh, keyed3.check w _ hkl, h1, Result.andThen]
theorem MapF.keys_nodup {w : World} {b n : Nat} {L : List FactV} (h : MapF w b n L) : (L.map keyV).Nodup := by
  obtain ⟨es, clock, hh, hs, hm, _, hok⟩ := h
  rw [← ent_keys hm]
  exact hs.2.2
theorem map_set_of {L : List FactV} (hn : (L.map keyV).Nodup) (f : FactV) : ∀ (j : Nat) (g : FactV), L[j]? = some g → keyV g = keyV f → L.map (fun x => if keyEq f x then f else x) = L.set j f := by
  intro j g hg hk
  apply List.ext_getElem?
  intro i
  have hj : j < L.length := (List.getElem?_eq_some_iff.1 hg).1
  by_cases hij : j = i
  · subst hij
    rw [List.getElem?_map, hg, List.getElem?_set_self hj]
    have : keyEq f g = true := keyEq_iff.2 hk.symm
    simp [this]
  · rw [List.getElem?_set_ne hij, List.getElem?_map]
    cases hx : L[i]? with
    | none => rfl
    | some x =>
      have hne : keyEq f x = false := keyEq_false.2 (fun e => by
        have h1 : (L.map keyV)[j]? = some (keyV g) := by rw [List.getElem?_map, hg]; rfl
        have h2 : (L.map keyV)[i]? = some (keyV x) := by rw [List.getElem?_map, hx]; rfl
        exact hij ((List.getElem?_inj (List.getElem?_eq_some_iff.1 h1).1 hn).1 (by rw [h1, h2, hk, e])))
      simp [hne]
theorem MapF.put {w : World} {b n : Nat} {L : List FactV} (h : MapF w b n L) (f : FactV) (hf : FactOk f) :
    ∃ w', (Instr.mapUpdate TM (.map (some b)) (keyV f) (.agg f.cells)).run Tryz.prog w = .ok () w' ∧ MapF w' b (n + 1) (putL L f) ∧ w.grownBy w' (some b) := by
  have hnd := h.keys_nodup
  obtain ⟨es, clock, hh, hs, hm, hn, hok⟩ := h
  obtain ⟨kl, hkl⟩ := keyV_ok hf
  have gb : ∀ o, w.grownBy (setBlock w b o) (some b) := fun o => ⟨rfl, rfl, rfl, by simp [setBlock], fun i _ hi => ChangeMaps.heap_setBlock_other hh _ (fun e => hi (by rw [e]))⟩
  rcases keyed3.find w hkl es.toList (ent_ok hm hok) with ⟨h1, h2⟩ | ⟨j, e0, h1, h2, h3⟩
  · have hany : L.any (keyEq f) = false := by
      rw [List.any_eq_false]
      intro g hg
      have : keyV g ∈ es.toList.map (·.key) := by rw [ent_keys hm]; exact List.mem_map_of_mem hg
      obtain ⟨e, he, hek⟩ := List.mem_map.1 this
      rw [keyEq_iff]
      intro e1
      exact h2 e he (by rw [hek, e1])
    refine ⟨setBlock w b (.map (es.push ⟨keyV f, .agg f.cells, clock⟩) (clock + 1)), ?_, ⟨_, _, ChangeMaps.heap_setBlock_same hh _, stamped_push hs h2, ?_, ?_, ?_⟩, gb _⟩
    · simp [Instr.mapUpdate, run_underlying Tryz.underlying90, MapKept.run_getObj_map hh, keyed3.check w false hkl, h1, MapKept.run_setObj_map _ hh, Result.andThen, setBlock]
    · unfold putL
      rw [hany]
      simp [hm, entF]
    · unfold putL
      rw [hany]
      simp
      omega
    · unfold putL
      rw [hany]
      intro g hg
      rcases List.mem_append.1 hg with h | h
      · exact hok g h
      · rw [List.mem_singleton.1 h]; exact hf
  · obtain ⟨g, hg, hkg, hvg⟩ := ent_get hm h2
    have hgk : keyV g = keyV f := by rw [← hkg, h3]
    have hany : L.any (keyEq f) = true := List.any_eq_true.2 ⟨g, List.mem_of_getElem? hg, keyEq_iff.2 hgk.symm⟩
    have hput : putL L f = L.set j f := by unfold putL; rw [hany]; exact map_set_of hnd f j g hg hgk
    have hj : es[j]? = some e0 := by simpa using h2
    have hlist : (es.modify j (fun e' => { e' with key := keyV f, val := .agg f.cells })).toList = es.toList.set j { e0 with key := keyV f, val := .agg f.cells } := by rw [Array.toList_modify, ChangeMaps.modify_eq_set _ _ _ _ h2]
    refine ⟨setBlock w b (.map (es.modify j (fun e' => { e' with key := keyV f, val := .agg f.cells })) clock), ?_, ⟨_, _, ChangeMaps.heap_setBlock_same hh _, stamped_modify hs _ _ (fun _ _ => rfl) (fun e' _ he' => by rw [hj] at he'; cases he'; exact h3.symm), ?_, ?_, ?_⟩, gb _⟩
    · simp [Instr.mapUpdate, run_underlying Tryz.underlying90, MapKept.run_getObj_map hh, keyed3.check w false hkl, h1, hj, h3, keyed3.stays w hkl, MapKept.run_setObj_map _ hh, Result.andThen, setBlock]
    · rw [hlist, hput, List.map_set, List.map_set, hm]
      rfl
    · rw [hput, List.length_set]; omega
    · rw [hput]
      intro x hx
      rcases List.mem_or_eq_of_mem_set hx with h | h
      · exact hok x h
      · rw [h]; exact hf
/-- the range over the map in block b, by the iterator in block r: the keys vis were visited -/
def RangeF (w : World) (b r n : Nat) (L : List FactV) (vis : List Value) : Prop := ∃ es clock seen since c0, w.heap[b]? = some (.map es clock) ∧ Stamped es clock ∧ es.toList.map (fun e => (e.key, e.val)) = L.map entF ∧ L.length ≤ n ∧ (∀ f ∈ L, FactOk f) ∧
  w.heap[r]? = some (.mapIter (some b) since seen c0) ∧ since ≤ c0 ∧ since ≤ clock ∧ (∀ x ∈ es.toList, x.born < since) ∧ ∃ ve : List MapEntry, vis = ve.map (·.key) ∧ (ve ++ (leftOf es seen).toList).Perm es.toList
theorem RangeF.map {w : World} {b r n : Nat} {L : List FactV} {vis : List Value} (h : RangeF w b r n L vis) : MapF w b n L := by
  obtain ⟨es, clock, seen, since, c0, h1, h2, h3, h4, h5, _⟩ := h
  exact ⟨es, clock, h1, h2, h3, h4, h5⟩
theorem RangeF.lt {w : World} {b r n : Nat} {L : List FactV} {vis : List Value} (h : RangeF w b r n L vis) : r < w.heap.size := by
  obtain ⟨es, clock, seen, since, c0, h1, h2, h3, h4, h5, h6, _⟩ := h
  exact (Array.getElem?_eq_some_iff.1 h6).1
theorem RangeF.kept {w w' : World} {b r n : Nat} {L : List FactV} {vis : List Value} (h : RangeF w b r n L vis) (hb : w'.heap[b]? = w.heap[b]?) (hr : w'.heap[r]? = w.heap[r]?) : RangeF w' b r n L vis := by
  obtain ⟨es, clock, seen, since, c0, h1, h2, h3, h4, h5, h6, h7⟩ := h
  exact ⟨es, clock, seen, since, c0, hb.trans h1, h2, h3, h4, h5, hr.trans h6, h7⟩
theorem MapF.range {w : World} {b n : Nat} {L : List FactV} (h : MapF w b n L) : ∃ w', (Instr.range TM (.map (some b))).run Tryz.prog w = .ok (.pointer (some ⟨w.heap.size, 0, none⟩)) w' ∧ RangeF w' b w.heap.size n L [] ∧ Below w.heap.size w w' ∧ w'.heap.size = w.heap.size + 1 := by
  have hlt := h.lt
  obtain ⟨es, clock, h1, h2, h3, h4, h5⟩ := h
  refine ⟨_, run_range_map w TM _ _ b es clock Tryz.underlying90 h1, ⟨es, clock, #[], clock, clock, (Below.heap_alloc w _ b hlt).trans h1, h2, h3, h4, h5, World.alloc_heap_new w _, Nat.le_refl _, Nat.le_refl _, h2.1, [], rfl, ?_⟩, (Below.refl _ _).alloc (Nat.le_refl _) _, by simp⟩
  unfold leftOf
  rw [Array.toList_filter, List.nil_append, List.filter_eq_self.2 (fun x _ => by simp)]
theorem left_push {es : Array MapEntry} {seen : Array Nat} {e : MapEntry} (hn : (es.toList.map (·.born)).Nodup) (he : e ∈ (leftOf es seen).toList) : (leftOf es seen).toList.Perm (e :: (leftOf es (seen.push e.born)).toList) := by
  have e1 : (leftOf es (seen.push e.born)).toList = (leftOf es seen).toList.filter (fun x => !(x.born == e.born)) := by
    unfold leftOf
    rw [Array.toList_filter, Array.toList_filter, List.filter_filter]
    congr 1
    funext x
    rw [contains_push]
    cases seen.contains x.born <;> simp [Bool.beq_comm]
  have hn2 : ((leftOf es seen).toList.map (·.born)).Nodup := by
    unfold leftOf
    rw [Array.toList_filter]
    exact hn.sublist (List.Sublist.map _ List.filter_sublist)
  rw [e1]
  obtain ⟨l1, l2, hl⟩ := List.append_of_mem he
  rw [hl] at hn2 ⊢
  have h1 : ∀ x ∈ l1 ++ l2, (!(x.born == e.born)) = true := by
    intro x hx
    rw [List.map_append, List.map_cons] at hn2
    have h2 := (List.perm_middle.nodup_iff.1 hn2)
    rw [List.nodup_cons, ← List.map_append] at h2
    simp only [Bool.not_eq_true', beq_eq_false_iff_ne, ne_eq]
    intro h3
    exact h2.1 (by rw [← h3]; exact List.mem_map_of_mem hx)
  have h2 : (l1 ++ e :: l2).filter (fun x => !(x.born == e.born)) = l1 ++ l2 := by
    rw [List.filter_append, List.filter_cons, if_neg (by simp), ← List.filter_append]
    exact List.filter_eq_self.2 h1
  rw [h2]
  exact List.perm_middle
theorem RangeF.next {w : World} {b r n : Nat} {L : List FactV} {vis : List Value} (h : RangeF w b r n L vis) (hbr : b ≠ r) (ty : TypeId) :
    ((vis.Perm (L.map keyV)) ∧ (Instr.next (.pointer (some ⟨r, 0, none⟩)) false ty).run Tryz.prog w = .ok (.tuple #[.bool false]) w) ∨
    ∃ f ∈ L, ∃ w', (Instr.next (.pointer (some ⟨r, 0, none⟩)) false ty).run Tryz.prog w = .ok (.tuple #[.bool true, keyV f, .agg f.cells]) w' ∧ RangeF w' b r n L (vis ++ [keyV f]) ∧ vis.length < L.length ∧ Below r w w' ∧ w'.heap.size = w.heap.size ∧ (∀ k, k ≠ r → w'.heap[k]? = w.heap[k]?) ∧
      (∀ W, W.heap[b]? = w'.heap[b]? → W.heap[r]? = w'.heap[r]? → (Instr.entry (.pointer (some ⟨r, 0, none⟩))).run Tryz.prog W = .ok (.tuple #[keyV f, .agg f.cells]) W) := by
  obtain ⟨es, clock, seen, since, c0, h1, h2, h3, h4, h5, h6, h7, h7b, h8, ve, rfl, h9⟩ := h
  have hlen : es.toList.length = L.length := by have := congrArg List.length h3; simpa using this
  rcases run_next_at (P := Tryz.prog) w ty r b since c0 seen es clock h6 h1 h8 h7 with ⟨hz, hrun⟩ | ⟨e, he, w1, hw1, hrun⟩
  · refine .inl ⟨?_, hrun⟩
    have : (leftOf es seen).toList = [] := by
      have := Array.eq_empty_of_size_eq_zero hz
      rw [this]
    rw [this, List.append_nil] at h9
    rw [← ent_keys h3]
    exact h9.map _
  · have hes : e ∈ es.toList := by
      have := (List.mem_filter.1 (by unfold leftOf at he; rw [Array.toList_filter] at he; exact he)).1
      exact this
    obtain ⟨j, hj⟩ := List.getElem?_of_mem hes
    obtain ⟨f, hf, hkf, hvf⟩ := ent_get h3 hj
    have hwh : w1.heap = w.heap := by rcases hw1 with rfl | rfl <;> rfl
    have hr1 : w1.heap[r]? = some (.mapIter (some b) since seen c0) := by rw [hwh]; exact h6
    have hrl : r < w1.heap.size := (Array.getElem?_eq_some_iff.1 hr1).1
    have hsame : (setBlock w1 r (.mapIter (some b) since (seen.push e.born) clock)).heap[r]? = some (.mapIter (some b) since (seen.push e.born) clock) := by
      simp [setBlock, hrl]
    have hoth : ∀ k, k ≠ r → (setBlock w1 r (.mapIter (some b) since (seen.push e.born) clock)).heap[k]? = w.heap[k]? := by
      intro k hk
      rw [← hwh]
      simp [setBlock, Array.getElem?_setIfInBounds_ne (Ne.symm hk)]
    rw [hkf, hvf] at hrun
    refine .inr ⟨f, List.mem_of_getElem? hf, _, hrun, ⟨es, clock, seen.push e.born, since, clock, (hoth b hbr).trans h1, h2, h3, h4, h5, hsame, h7b, h7b, h8, ve ++ [e], by simp [hkf], ?_⟩, ?_, ?_, ?_, hoth, ?_⟩
    · refine List.Perm.trans ?_ h9
      rw [List.append_assoc]
      exact (List.Perm.append_left ve (left_push h2.2.1 he)).symm
    · rw [← hlen, ← h9.length_eq, List.length_append, List.length_map]
      have := List.length_pos_of_mem he
      omega
    · rcases hw1 with rfl | rfl
      · exact ⟨rfl, rfl, rfl, by simp [setBlock], fun i hi => hoth i (by omega)⟩
      · exact ⟨rfl, rfl, rfl, by simp [setBlock], fun i hi => hoth i (by omega)⟩
    · rw [← hwh]; simp [setBlock]
    · intro W hWb hWr
      have := run_entry_at (P := Tryz.prog) W r b since seen es clock e (hWr.trans hsame) (hWb.trans ((hoth b hbr).trans h1)) hes h2.2.1
      rw [hkf, hvf] at this
      exact this
end Go.Proofs.YtfiabonacpepnaaGreatDoor.Fb
namespace Go.Proofs.YtfiabonacpepnaaGreatDoor.Fb
open Go Go.RowKit Go.Lib Go.Shelf Go.Maps

/-- a slice of facts that is empty, or lies in memory -/
def FactsAt (w : World) (v : Value) (fs : List FactV) : Prop :=
  (fs = [] ∧ ∃ A c, v = .slice A 0 c) ∨ ∃ b o c, v = .slice (some ⟨b, o, none⟩) fs.length c ∧ b < w.heap.size ∧ ∀ i f, fs[i]? = some f → ∀ j x, f.cells[j]? = some x → w.cell? ⟨b, o + i * 18 + j, none⟩ = some x
theorem FactsAt.below {w w' : World} {v : Value} {fs : List FactV} {B : Nat} (h : FactsAt w v fs) (hB : ∀ b o c n, v = .slice (some ⟨b, o, none⟩) n c → fs ≠ [] → b < B) (hb : Below B w w') : FactsAt w' v fs := by
  rcases h with h | ⟨b, o, c, rfl, hlt, h⟩
  · exact .inl h
  · by_cases hn : fs = []
    · subst hn; exact .inl ⟨rfl, _, c, rfl⟩
    · have hbB := hB b o c _ rfl hn
      exact .inr ⟨b, o, c, rfl, by have := hb.block b hbB; rcases Nat.lt_or_ge b w'.heap.size with h1 | h1; exact h1; rw [Array.getElem?_eq_none h1] at this; exact absurd this.symm (by simp [hlt]), fun i f hf j x hx => (hb.cell (p := ⟨b, o + i * 18 + j, none⟩) hbB).trans (h i f hf j x hx)⟩
theorem FactsAt.sl {w : World} {v : Value} {l : List FactV} (h : FactsAt w v l) : ∃ A c, v = .slice A l.length c := by
  rcases h with ⟨rfl, A, c, rfl⟩ | ⟨b, o, c, rfl, _⟩
  · exact ⟨A, c, rfl⟩
  · exact ⟨_, c, rfl⟩
/-- one more fact comes to the best ones -/
def stepB (L : List FactV) (f : FactV) : List FactV :=
  if validB f then (match L.find? (keyEq f) with
    | none => putL L f
    | some g => if prevB f g then putL L f else L) else L
def bestL (l : List FactV) : List FactV := l.foldl stepB []
theorem bestL_snoc (l : List FactV) (f : FactV) : bestL (l ++ [f]) = stepB (bestL l) f := by simp [bestL]
theorem putL_len (L : List FactV) (f : FactV) : (putL L f).length ≤ L.length + 1 := by
  unfold putL
  split <;> simp
theorem find_key {L : List FactV} (hn : (L.map keyV).Nodup) {f g : FactV} (hg : g ∈ L) (hk : keyV g = keyV f) : L.find? (keyEq f) = some g := by
  induction L with
  | nil => simp at hg
  | cons a L ih =>
    rw [List.map_cons, List.nodup_cons] at hn
    rcases List.mem_cons.1 hg with rfl | h
    · rw [List.find?_cons, keyEq_iff.2 hk.symm]
    · have : keyEq f a = false := keyEq_false.2 (fun e => hn.1 (by rw [← e, ← hk]; exact List.mem_map_of_mem h))
      rw [List.find?_cons, this]
      exact ih hn.2 h
theorem find_none {L : List FactV} {f : FactV} (h : ∀ g ∈ L, keyV g ≠ keyV f) : L.find? (keyEq f) = none := by
  rw [List.find?_eq_none]
  intro g hg
  rw [keyEq_iff]
  exact fun e => h g hg e.symm
theorem load_at {ops : Array Oper} {rest : List Oper} {o : Oper} {a : Act} {w : World} {Q : Exit → Act → World → Prop} (x : Operand) (b off : Nat) (cs : Array Value) (hc : ∀ j v, cs[j]? = some v → w.cell? ⟨b, off + j, none⟩ = some v) (hi : (Tryz.prog.info? 47).map (·.size) = some cs.size)
    (hgd : o.guard = none) (ho : o.op = .load 47 x) (hx : a.eval x = .pointer (some ⟨b, off, none⟩))
    (h : wpList Tryz.prog ops Q rest (a.put o.dst (.agg cs)) w) : wpList Tryz.prog ops Q (o :: rest) a w :=
  wpList_load_at hgd _ x ho b off hx cs _ hc Tryz.underlying47 rfl hi h
theorem store_cs {ops : Array Oper} {rest : List Oper} {o : Oper} {a : Act} {w : World} {Q : Exit → Act → World → Prop} (x y : Operand) (N : Nat) (hN : w.heap.size = N) (c cs : Array Value) (hi : (Tryz.prog.info? 47).map (·.size) = some cs.size) (hone : cs.all (·.oneCell') = true)
    (hs : c.size = cs.size) (hgd : o.guard = none) (ho : o.op = .store 47 x y) (hx : a.eval x = .pointer (some ⟨N, 0, none⟩)) (hy : a.eval y = .agg cs)
    (h : wpList Tryz.prog ops Q rest (a.put o.dst undef) (w.alloc (.cells cs 47))) : wpList Tryz.prog ops Q (o :: rest) a (w.alloc (.cells c 47)) := by
  subst hN
  exact wpList_store_new hgd _ x y ho hx c cs hy hi hs hone h
/-- a guarded load that is wanted -/
theorem load_csg {ops : Array Oper} {rest : List Oper} {o : Oper} {a : Act} {w : World} {Q : Exit → Act → World → Prop} (x : Operand) (b : Nat) (cs : Array Value) (hc : ∀ j v, cs[j]? = some v → w.cell? ⟨b, 0 + j, none⟩ = some v) (hi : (Tryz.prog.info? 47).map (·.size) = some cs.size)
    (hw : Region.wanted o (yielded ops a.tmps) = true) (ho : o.op = .load 47 x) (hx : a.eval x = .pointer (some ⟨b, 0, none⟩))
    (h : wpList Tryz.prog ops Q rest (a.put o.dst (.agg cs)) w) : wpList Tryz.prog ops Q (o :: rest) a w := by
  refine wpList_step fun K hK => ?_
  rw [if_pos hw]
  exact wp_load_at _ x ho b 0 hx cs _ hc Tryz.underlying47 rfl hi (hK _ _ h)
end Go.Proofs.YtfiabonacpepnaaGreatDoor.Fb
namespace Go.Proofs.YtfiabonacpepnaaGreatDoor.Fb
open Go Go.RowKit Go.Lib Go.Shelf Go.Maps

def kV (k : Int × Int × Int) : Value := .agg #[.int .i64 k.1, .int .i64 k.2.1, .int .i64 k.2.2]
def kT (f : FactV) : Int × Int × Int := (f.n 0, (key2 f).1, (key2 f).2)
theorem keyV_kV (f : FactV) : keyV f = kV (kT f) := rfl
theorem kV_inj {a b : Int × Int × Int} (h : kV a = kV b) : a = b := by
  obtain ⟨a0, a1, a2⟩ := a
  obtain ⟨b0, b1, b2⟩ := b
  simpa [kV] using h
def kCell (k : Int × Int × Int) : List Value := [.int .i64 k.1, .int .i64 k.2.1, .int .i64 k.2.2]
def kCells (ks : List (Int × Int × Int)) : List Value := ks.flatMap kCell
theorem kCells_len (ks : List (Int × Int × Int)) : (kCells ks).length = ks.length * 3 := by
  unfold kCells
  induction ks with
  | nil => rfl
  | cons k ks ih => simp only [List.flatMap_cons, List.length_append, List.length_cons, ih]; simp [kCell]; omega
theorem kCells_app (ks : List (Int × Int × Int)) (k : Int × Int × Int) : kCells (ks ++ [k]) = kCells ks ++ kCell k := by simp [kCells]
theorem kCells_get : ∀ (ks : List (Int × Int × Int)) (i : Nat) (k : Int × Int × Int), ks[i]? = some k → ∀ j x, (kCell k)[j]? = some x → (kCells ks)[i * 3 + j]? = some x
  | [], i, k, h, _, _, _ => by simp at h
  | y :: ks, 0, k, h, j, x, hx => by
    simp at h
    subst h
    have hj := (List.getElem?_eq_some_iff.1 hx).1
    show (kCell y ++ kCells ks)[0 * 3 + j]? = some x
    rw [Nat.zero_mul, Nat.zero_add, List.getElem?_append_left hj]
    exact hx
  | y :: ks, i + 1, k, h, j, x, hx => by
    have ih := kCells_get ks i k (by simpa using h) j x hx
    show (kCell y ++ kCells ks)[(i + 1) * 3 + j]? = some x
    rw [List.getElem?_append_right (by simp [kCell]; omega), show (i + 1) * 3 + j - (kCell y).length = i * 3 + j by simp [kCell]; omega]
    exact ih
/-- a slice of keys in a block of its own, from the block 'base' on -/
def OwnK (w : World) (base : Nat) (v : Value) (ks : List (Int × Int × Int)) : Prop := w.ownsRow base 91 3 v ks.length (kCells ks)
theorem OwnK.nil (w : World) (base : Nat) : OwnK w base (.slice none 0 0) [] := World.ownsRow_nil _ _ _ _
theorem owns_below {w w' : World} {base : Nat} {e : TypeId} {s n : Nat} {v : Value} {xs : List Value} (h : w.ownsRow base e s v n xs) (hb : Below w.heap.size w w') : w'.ownsRow base e s v n xs := by
  refine ⟨h.1, ?_⟩
  rcases h.2 with h0 | ⟨g, cap, cur, hv, hbg, hg, rest⟩
  · exact .inl h0
  · exact .inr ⟨g, cap, cur, hv, hbg, (hb.block g (Array.getElem?_eq_some_iff.1 hg).1).trans hg, rest⟩
/-- blocks below 'base' may change -/
theorem owns_other {w w' : World} {base : Nat} {e : TypeId} {s n : Nat} {v : Value} {xs : List Value} (h : w.ownsRow base e s v n xs) (ho : ∀ j, base ≤ j → j < w.heap.size → w'.heap[j]? = w.heap[j]?) : w'.ownsRow base e s v n xs := by
  refine ⟨h.1, ?_⟩
  rcases h.2 with h0 | ⟨g, cap, cur, hv, hbg, hg, rest⟩
  · exact .inl h0
  · exact .inr ⟨g, cap, cur, hv, hbg, (ho g hbg (Array.getElem?_eq_some_iff.1 hg).1).trans hg, rest⟩
theorem OwnK.below {w w' : World} {base : Nat} {v : Value} {ks : List (Int × Int × Int)} (h : OwnK w base v ks) (hb : Below w.heap.size w w') : OwnK w' base v ks := owns_below h hb
theorem key_info : (Tryz.prog.info? 91).map (fun i => (i.zero, i.size, i.bytes)) = some (some (.agg #[.int .i64 0, .int .i64 0, .int .i64 0]), 3, 24) := by kernel_rfl
theorem fill_key (k : Int × Int × Int) : Instr.fill (fun i => some (i * 3, 3)) ((Array.range (1 * 3)).map ((#[Value.int .i64 0, .int .i64 0, .int .i64 0] : Array Value)[· % 3]!)) [(0, kV k)] = some (kCell k).toArray := by
  generalize hc : (Array.range (1 * 3)).map ((#[Value.int .i64 0, .int .i64 0, .int .i64 0] : Array Value)[· % 3]!) = c
  have hs : c.size = 3 := by rw [← hc]; simp
  obtain ⟨l⟩ := c
  obtain ⟨a, b, d, rfl⟩ : ∃ a b d, l = [a, b, d] := by
    match l, hs with
    | [a, b, d], _ => exact ⟨a, b, d, rfl⟩
  simp [Instr.fill, Value.cells, kV, kCell, List.zipIdx]
theorem build_key {ops : Array Oper} {rest : List Oper} {o : Oper} {a : Act} {w : World} {Q : Exit → Act → World → Prop} (x : Operand) (k : Int × Int × Int) (hg : o.guard = none) (ho : o.op = .buildSlice 94 1 #[(0, x)]) (hx : a.eval x = kV k)
    (h : wpList Tryz.prog ops Q rest (a.put o.dst (.slice (some ⟨w.heap.size, 0, none⟩) 1 1)) (w.alloc (.cells (kCell k).toArray 91))) : wpList Tryz.prog ops Q (o :: rest) a w := by
  obtain ⟨i0, hi, hz0, hz1, hz2⟩ := info_parts key_info
  refine wpList_buildSlice hg 94 91 1 #[(0, x)] ho (kCell k).toArray i0 _ Tryz.underlying94 hi hz0 (by rw [hz1]; decide) (by rw [hz1]; decide) ?_ h
  rw [hz1]
  simp only [List.map_toArray, List.map_cons, List.map_nil, hx]
  exact fill_key k
theorem append_key {ops : Array Oper} {rest : List Oper} {o : Oper} {a : Act} {w : World} {Q : Exit → Act → World → Prop} (s x : Operand) (base : Nat) (ks : List (Int × Int × Int)) (k : Int × Int × Int) (b : Nat) (v : Value) (hown : OwnK w base v ks) (hlen : ks.length ≤ 1000000) (hbase : base ≤ w.heap.size)
    (hnews : ∀ (j : Nat) u, (kCell k)[j]? = some u → w.cell? ((⟨b, 0, none⟩ : Addr).add j) = some u)
    (hgd : o.guard = none) (ho : o.op = .call { callee := .builtin .append, args := #[s, x], argTypes := #[94, 94] })
    (hs : a.eval s = v) (hx : a.eval x = .slice (some ⟨b, 0, none⟩) 1 1)
    (h : ∀ v' w', OwnK w' base v' (ks ++ [k]) → Below base w w' → w.grownBy w' v.ownBlock → wpList Tryz.prog ops Q rest (a.put o.dst v') w') : wpList Tryz.prog ops Q (o :: rest) a w := by
  obtain ⟨i0, hi, hz0, hz1, hz2⟩ := info_parts key_info
  refine wpList_append_own _ hgd s x 94 ho base 91 i0 _ 3 24 Tryz.underlying94 hi hz0 hz1 hz2 rfl (by decide) v ks.length (kCells ks) hs hown ⟨b, 0, none⟩ 1 1 (kCell k) hx rfl hnews (by intro u hu; simp [kCell] at hu; rcases hu with rfl | rfl | rfl <;> rfl) (by unfold maxLen; omega) (by omega) hbase fun v' w' h1 h2 _ => h v' w' ?_ ?_ h2
  · unfold OwnK
    rw [kCells_app, List.length_append]
    exact h1
  · exact (Below.refl _ _).grown h2 hbase (fun j e => (hown.lt j e).1)
theorem key_new (w : World) (k : Int × Int × Int) (t : TypeId) : ∀ (j : Nat) u, (kCell k)[j]? = some u → (w.alloc (.cells (kCell k).toArray t)).cell? ((⟨w.heap.size, 0, none⟩ : Addr).add j) = some u := by
  intro j u h
  have h1 := (RowAt.new w t (kCell k).toArray).cell j
  have e : ((⟨w.heap.size, 0, none⟩ : Addr).add j) = ⟨w.heap.size, j, none⟩ := by cases j <;> simp [Addr.add]
  rw [e, h1]
  simpa using h
/-- the cells of a list of facts -/
def ffCells (l : List FactV) : List Value := l.flatMap fun f => f.cells.toList
theorem ffCells_len (l : List FactV) : (ffCells l).length = l.length * 18 := by
  unfold ffCells
  induction l with
  | nil => rfl
  | cons f l ih => simp only [List.flatMap_cons, List.length_append, List.length_cons, ih, Array.length_toList, FactV.cells_size]; omega
theorem ffCells_app (l : List FactV) (f : FactV) : ffCells (l ++ [f]) = ffCells l ++ f.cells.toList := by simp [ffCells]
theorem ffCells_get (l : List FactV) : ∀ (i : Nat) (f : FactV), l[i]? = some f → ∀ j x, f.cells[j]? = some x → (ffCells l)[i * 18 + j]? = some x := by
  induction l with
  | nil => intro i f h; simp at h
  | cons z l ih =>
    intro i f h j x hx
    have hj : j < 18 := by
      have := (Array.getElem?_eq_some_iff.1 hx).1
      rwa [FactV.cells_size] at this
    show (z.cells.toList ++ ffCells l)[i * 18 + j]? = some x
    cases i with
    | zero =>
      simp at h
      subst h
      rw [Nat.zero_mul, Nat.zero_add, List.getElem?_append_left (by rw [Array.length_toList, FactV.cells_size]; exact hj), Array.getElem?_toList]
      exact hx
    | succ i =>
      rw [List.getElem?_append_right (by rw [Array.length_toList, FactV.cells_size]; omega), Array.length_toList, FactV.cells_size, show (i + 1) * 18 + j - 18 = i * 18 + j by omega]
      exact ih i f (by simpa using h) j x hx
def OwnF (w : World) (base : Nat) (v : Value) (l : List FactV) : Prop := w.ownsRow base 47 18 v l.length (ffCells l)
theorem OwnF.nil (w : World) (base : Nat) : OwnF w base (.slice none 0 0) [] := World.ownsRow_nil _ _ _ _
theorem OwnF.facts {w : World} {base : Nat} {v : Value} {l : List FactV} (h : OwnF w base v l) : FactsAt w v l := by
  rcases h.2 with ⟨rfl, hn⟩ | ⟨g, cap, cur, rfl, _, hg, hnc, _, hcs, ht⟩
  · exact .inl ⟨List.length_eq_zero_iff.1 hn, none, 0, by rfl⟩
  · refine .inr ⟨g, 0, cap, rfl, (Array.getElem?_eq_some_iff.1 hg).1, fun i f hi j x hx => ?_⟩
    have h1 := ffCells_get l i f hi j x hx
    have h2 := (List.getElem?_eq_some_iff.1 h1).1
    rw [ffCells_len] at h2
    rw [Nat.zero_add, cell_of_row w g _ cur _ _ hg, ← Array.getElem?_toList, ← ht] at *
    rw [← ht] at h1
    rw [List.getElem?_take_of_lt (by omega)] at h1
    exact h1
theorem OwnF.below {w w' : World} {base : Nat} {v : Value} {l : List FactV} (h : OwnF w base v l) (hb : Below w.heap.size w w') : OwnF w' base v l := owns_below h hb
theorem fact_ones (f : FactV) : ∀ u ∈ f.cells.toList, u.oneCell' = true := by
  have h := f.cells_one
  rw [← Array.all_toList, List.all_eq_true] at h
  exact h
theorem list18 {α : Type} (l : List α) (h : l.length = 18) : ∃ a0 a1 a2 a3 a4 a5 a6 a7 a8 a9 a10 a11 a12 a13 a14 a15 a16 a17, l = [a0, a1, a2, a3, a4, a5, a6, a7, a8, a9, a10, a11, a12, a13, a14, a15, a16, a17] := by
  match l, h with
  | [a0, a1, a2, a3, a4, a5, a6, a7, a8, a9, a10, a11, a12, a13, a14, a15, a16, a17], _ => exact ⟨a0, a1, a2, a3, a4, a5, a6, a7, a8, a9, a10, a11, a12, a13, a14, a15, a16, a17, rfl⟩
theorem fold18 (f : FactV) (c : Array Value) (hc : c.size = 18) : f.cells.zipIdx.foldl (fun cs (x : Value × Nat) => cs.setIfInBounds (0 * 18 + x.2) x.1) c = f.cells := by
  obtain ⟨l⟩ := c
  obtain ⟨a0, a1, a2, a3, a4, a5, a6, a7, a8, a9, a10, a11, a12, a13, a14, a15, a16, a17, rfl⟩ := list18 l hc
  unfold FactV.cells
  simp [List.zipIdx]
theorem fill_fact (f : FactV) : Instr.fill (fun i => some (i * 18, 18)) ((Array.range (1 * 18)).map (zf.cells[· % zf.cells.size]!)) [(0, .agg f.cells)] = some f.cells := by
  generalize hc : (Array.range (1 * 18)).map (zf.cells[· % zf.cells.size]!) = c
  have hs : c.size = 18 := by rw [← hc]; simp
  simp only [Instr.fill, Value.cells, FactV.cells_size, hs]
  have := fold18 f c hs
  simp at this ⊢
  exact this
theorem fact_info : (Tryz.prog.info? 47).map (fun i => (i.zero, i.size, i.bytes)) = some (some (.agg zf.cells), 18, 152) := by kernel_rfl
theorem fact_new (w : World) (f : FactV) (t : TypeId) : ∀ (j : Nat) u, f.cells.toList[j]? = some u → (w.alloc (.cells f.cells t)).cell? ((⟨w.heap.size, 0, none⟩ : Addr).add j) = some u := by
  intro j u h
  have h1 := (RowAt.new w t f.cells).cell j
  have e : ((⟨w.heap.size, 0, none⟩ : Addr).add j) = ⟨w.heap.size, j, none⟩ := by cases j <;> simp [Addr.add]
  rw [e, h1]
  simpa using h
end Go.Proofs.YtfiabonacpepnaaGreatDoor.Fb
namespace Go.Proofs.YtfiabonacpepnaaGreatDoor.Fb
open Go Go.RowKit Go.Lib Go.Shelf Go.Maps

def cmpK (a b : Int × Int × Int) : Int :=
  if Lib.compareInt a.1 b.1 = 0 then (if Lib.compareInt a.2.1 b.2.1 = 0 then Lib.compareInt a.2.2 b.2.2 else Lib.compareInt a.2.1 b.2.1) else Lib.compareInt a.1 b.1
theorem cmpInt_bd (x y : Int) : -1 ≤ Lib.compareInt x y ∧ Lib.compareInt x y ≤ 1 := by
  unfold Lib.compareInt
  repeat' split
  all_goals omega

set_option maxRecDepth 100000 in
set_option maxHeartbeats 2000000 in
theorem compare3 (p q : Nat) (a b : Int × Int × Int) (w : World) (hp : ∀ j x, (kCell a)[j]? = some x → w.cell? ⟨p, j, none⟩ = some x) (hq : ∀ j x, (kCell b)[j]? = some x → w.cell? ⟨q, j, none⟩ = some x) :
    Calls Tryz.prog 59 #[.slice (some ⟨p, 0, none⟩) 3 3, .slice (some ⟨q, 0, none⟩) 3 3] w fun e w' => e = .returned (.int .i64 (cmpK a b)) ∧ w' = w := by
  obtain ⟨a0, a1, a2⟩ := a
  obtain ⟨b0, b1, b2⟩ := b
  have p0 : w.cell? ⟨p, 0, none⟩ = some (.int .i64 a0) := hp 0 _ rfl
  have p1 : w.cell? ⟨p, 1, none⟩ = some (.int .i64 a1) := hp 1 _ rfl
  have p2 : w.cell? ⟨p, 2, none⟩ = some (.int .i64 a2) := hp 2 _ rfl
  have q0 : w.cell? ⟨q, 0, none⟩ = some (.int .i64 b0) := hq 0 _ rfl
  have q1 : w.cell? ⟨q, 1, none⟩ = some (.int .i64 b1) := hq 1 _ rfl
  have q2 : w.cell? ⟨q, 2, none⟩ = some (.int .i64 b2) := hq 2 _ rfl
  have HC0 := Lib.hid (fun W => Tryz.cmp_Compare_int a0 b0 W)
  have HC1 := Lib.hid (fun W => Tryz.cmp_Compare_int a1 b1 W)
  have HC2 := Lib.hid (fun W => Tryz.cmp_Compare_int a2 b2 W)
  have HR : Hid (cmpK (a0, a1, a2) (b0, b1, b2) = if Lib.compareInt a0 b0 = 0 then (if Lib.compareInt a1 b1 = 0 then Lib.compareInt a2 b2 else Lib.compareInt a1 b1) else Lib.compareInt a0 b0) := Lib.hid rfl
  obtain ⟨c0, h0⟩ : ∃ z, Lib.compareInt a0 b0 = z := ⟨_, rfl⟩
  obtain ⟨c1, h1⟩ : ∃ z, Lib.compareInt a1 b1 = z := ⟨_, rfl⟩
  obtain ⟨c2, h2⟩ : ∃ z, Lib.compareInt a2 b2 = z := ⟨_, rfl⟩
  rw [h0] at HC0 HR
  rw [h1] at HC1 HR
  rw [h2] at HC2 HR
  clear hp hq h0 h1 h2
  by_cases e0 : c0 = 0
  · subst e0
    by_cases e1 : c1 = 0
    · subst e1
      by_cases e2 : c2 = 0
      · subst e2
        go_enter Tryz.func59, Tryz.ntmps59
        go_wp2_with fail
        refine wp_loop_rounds 4 ?_
        rw [rounds_succ]; go_wp2_with (go_at_call 81; refine (HC0.out _).mono ?_; rintro e w' ⟨rfl, rfl⟩)
        rw [rounds_succ]; go_wp2_with (go_at_call 81; refine (HC1.out _).mono ?_; rintro e w' ⟨rfl, rfl⟩)
        rw [rounds_succ]; go_wp2_with (go_at_call 81; refine (HC2.out _).mono ?_; rintro e w' ⟨rfl, rfl⟩)
        rw [rounds_succ]; go_wp2_with fail
        go_ret
        exact ⟨by rw [HR.out]; rfl, rfl⟩
      · have d2 : (c2 == 0) = false := by simpa using e2
        have E2 := Lib.hid e2
        clear e2
        go_enter Tryz.func59, Tryz.ntmps59
        go_wp2_with fail
        refine wp_loop_rounds 4 ?_
        rw [rounds_succ]; go_wp2_with (go_at_call 81; refine (HC0.out _).mono ?_; rintro e w' ⟨rfl, rfl⟩)
        rw [rounds_succ]; go_wp2_with (go_at_call 81; refine (HC1.out _).mono ?_; rintro e w' ⟨rfl, rfl⟩)
        rw [rounds_succ]; go_wp2_with (go_at_call 81; refine (HC2.out _).mono ?_; rintro e w' ⟨rfl, rfl⟩)
        go_ret
        exact ⟨by rw [HR.out]; simp, rfl⟩
    · have d1 : (c1 == 0) = false := by simpa using e1
      have E1 := Lib.hid e1
      clear e1
      go_enter Tryz.func59, Tryz.ntmps59
      go_wp2_with fail
      refine wp_loop_rounds 4 ?_
      rw [rounds_succ]; go_wp2_with (go_at_call 81; refine (HC0.out _).mono ?_; rintro e w' ⟨rfl, rfl⟩)
      rw [rounds_succ]; go_wp2_with (go_at_call 81; refine (HC1.out _).mono ?_; rintro e w' ⟨rfl, rfl⟩)
      go_ret
      exact ⟨by rw [HR.out]; simp [E1.out], rfl⟩
  · have d0 : (c0 == 0) = false := by simpa using e0
    have E0 := Lib.hid e0
    clear e0
    go_enter Tryz.func59, Tryz.ntmps59
    go_wp2_with fail
    refine wp_loop_rounds 4 ?_
    rw [rounds_succ]; go_wp2_with (go_at_call 81; refine (HC0.out _).mono ?_; rintro e w' ⟨rfl, rfl⟩)
    go_ret
    exact ⟨by rw [HR.out, if_neg E0.out]; rfl, rfl⟩
theorem grow2 (W : World) (o1 o2 : Obj) (n : Nat) : ((W.alloc o1).alloc o2).drewN n = Go.Sort.grow (W.drewN n) #[o1, o2] := by
  have h : (W.alloc o1).alloc o2 = Go.Sort.grow W #[o1, o2] := by rw [Go.Sort.alloc_eq_grow, Go.Sort.alloc_eq_grow, Go.Sort.grow_grow]; rfl
  rw [h]
  rfl
theorem kCell_row (k : Int × Int × Int) : (kCell k).toArray = #[.int .i64 k.1, .int .i64 k.2.1, .int .i64 k.2.2] := rfl
set_option maxRecDepth 100000 in
set_option maxHeartbeats 2000000 in
theorem closure3 (a b : Int × Int × Int) (W : World) :
    Calls Tryz.prog 58 #[.agg (kCell a).toArray, .agg (kCell b).toArray] W fun e w' => e = .returned (.int .i64 (cmpK a b)) ∧ ∃ q os', w' = Go.Sort.grow (W.drewN q) os' := by
  have r1 : RowAt ((W.alloc (.cells (kCell a).toArray 91)).alloc (.cells (kCell b).toArray 91)) W.heap.size 91 (kCell a).toArray := (RowAt.new W _ _).alloc _
  have r2 : RowAt ((W.alloc (.cells (kCell a).toArray 91)).alloc (.cells (kCell b).toArray 91)) (W.heap.size + 1) 91 (kCell b).toArray := by
    have h := RowAt.new (W.alloc (.cells (kCell a).toArray 91)) 91 (kCell b).toArray
    simpa using h
  have HC := Lib.hid (fun n => compare3 W.heap.size (W.heap.size + 1) a b (((W.alloc (.cells (kCell a).toArray 91)).alloc (.cells (kCell b).toArray 91)).drewN n) (fun j x hx => by rw [(r1.drewN n).cell]; simpa using hx) (fun j x hx => by rw [(r2.drewN n).cell]; simpa using hx))
  rw [kCell_row, kCell_row] at HC ⊢
  clear r1 r2
  obtain ⟨c, hc⟩ : ∃ z, cmpK a b = z := ⟨_, rfl⟩
  rw [hc] at HC ⊢
  obtain ⟨a0, a1, a2⟩ := a
  obtain ⟨b0, b1, b2⟩ := b
  dsimp only at HC ⊢
  clear hc
  go_enter Tryz.func58, Tryz.ntmps58
  go_wp2_with fail
  go_quiet ((go_at_call 59; exact (HC.out _).mono (fun e w' h => ⟨h.1, _, h.2⟩)))
  go_wp2_with fail
  go_ret
  exact ⟨rfl, nq, _, grow2 W _ _ nq⟩
end Go.Proofs.YtfiabonacpepnaaGreatDoor.Fb
namespace Go.Proofs.YtfiabonacpepnaaGreatDoor.Fb
open Go Go.RowKit Go.Lib Go.Shelf Go.Maps
open Go.Sort hiding Below

/-- a key comes ahead of another one -/
def kLt (a b : Int × Int × Int) : Prop := a.1 < b.1 ∨ (a.1 = b.1 ∧ (a.2.1 < b.2.1 ∨ (a.2.1 = b.2.1 ∧ a.2.2 < b.2.2)))
instance (a b : Int × Int × Int) : Decidable (kLt a b) := by unfold kLt; infer_instance
theorem cmpInt_lt (x y : Int) : (Lib.compareInt x y < 0 ↔ x < y) ∧ (Lib.compareInt x y = 0 ↔ x = y) := by
  unfold Lib.compareInt
  repeat' split
  all_goals omega
theorem cmpK_lt (a b : Int × Int × Int) : cmpK a b < 0 ↔ kLt a b := by
  unfold cmpK kLt
  have h0 := cmpInt_lt a.1 b.1
  have h1 := cmpInt_lt a.2.1 b.2.1
  have h2 := cmpInt_lt a.2.2 b.2.2
  by_cases e0 : Lib.compareInt a.1 b.1 = 0
  · by_cases e1 : Lib.compareInt a.2.1 b.2.1 = 0
    · rw [if_pos e0, if_pos e1]; omega
    · rw [if_pos e0, if_neg e1]; omega
  · rw [if_neg e0]; omega
theorem ltOf_k (a b : Int × Int × Int) : ltOf cmpK a b = decide (kLt a b) := by
  unfold ltOf
  exact decide_eq_decide.2 (cmpK_lt a b)
theorem swoK : SWO (ltOf cmpK) where
  irrefl x := by rw [ltOf_k]; simp [kLt]
  trans x y z h1 h2 := by
    rw [ltOf_k, decide_eq_true_eq] at h1 h2 ⊢
    unfold kLt at *
    omega
  ntrans x y z h1 h2 := by
    rw [ltOf_k, decide_eq_false_iff_not] at h1 h2 ⊢
    unfold kLt at *
    omega
theorem flat_keys (ks : List (Int × Int × Int)) : flatK kCell 3 ks.toArray = (kCells ks).toArray := by
  apply Array.ext_getElem?
  intro t
  by_cases ht : t < ks.length * 3
  · have h1 : t / 3 < ks.length := by omega
    have h2 := kCells_get ks (t / 3) ks[t / 3] (by simp [h1]) (t % 3) ((kCell ks[t / 3])[t % 3]!) (by
      have h3 : t % 3 < (kCell ks[t / 3]).length := by simp [kCell]; omega
      rw [List.getElem?_eq_getElem h3, List.getElem!_eq_getElem?_getD, List.getElem?_eq_getElem h3]
      rfl)
    rw [show t / 3 * 3 + t % 3 = t by omega] at h2
    rw [show (kCells ks).toArray[t]? = (kCells ks)[t]? from List.getElem?_toArray, h2]
    have h4 : t < (flatK kCell 3 ks.toArray).size := by rw [Go.Sort.size_flatK]; simpa using ht
    rw [Array.getElem?_eq_getElem h4, ← getElem!_pos (flatK kCell 3 ks.toArray) t h4, Go.Sort.get_flatK _ _ _ _ (by simpa using ht)]
    simp [h1]
  · rw [Array.getElem?_eq_none (by rw [Go.Sort.size_flatK]; simp; omega), show (kCells ks).toArray[t]? = (kCells ks)[t]? from List.getElem?_toArray, List.getElem?_eq_none (by rw [kCells_len]; omega)]
theorem heap_sorted {w : World} {g n : Nat} {os : Array Obj} {cur : Array Value} {e : TypeId} {fr : Nat × Nat} (F : Array Value) (hb : w.heap[g]? = some (.cells cur e fr)) :
    (grow (putRow id (Go.Sort.ahead w n) g 0 F) os).heap[g]? = some (.cells (putCells id 0 F cur) e fr) := by
  have hg : g < w.heap.size := (Array.getElem?_eq_some_iff.1 hb).1
  rw [heap_grow_old _ _ (by simpa using hg)]
  simp [putRow, Go.Sort.mapBlock, Go.Sort.ahead, Array.getElem?_modify, hb, Go.Sort.onCells]
theorem grownBy_srt {w : World} {g n : Nat} {os : Array Obj} (F : Array Value) : w.grownBy (grow (putRow id (Go.Sort.ahead w n) g 0 F) os) (some g) := by
  refine ⟨rfl, rfl, rfl, by simp, fun k hk hne => ?_⟩
  rw [heap_grow_old _ _ (by simpa using hk)]
  have : g ≠ k := fun e => hne (by rw [e])
  simp [putRow, Go.Sort.mapBlock, Go.Sort.ahead, Array.getElem?_modify, this]
theorem take_put (cur F : Array Value) (h : F.size ≤ cur.size) : (putCells id 0 F cur).toList.take F.size = F.toList := by
  apply List.ext_getElem?
  intro j
  by_cases hj : j < F.size
  · rw [List.getElem?_take_of_lt hj, Array.getElem?_toList, Array.getElem?_toList]
    simp [putCells, hj, show j < cur.size by omega]
  · rw [List.getElem?_take_eq_none (by omega), List.getElem?_eq_none (by simp; omega)]
set_option maxHeartbeats 1000000 in
theorem sort_any (base : Nat) (v : Value) (ks : List (Int × Int × Int)) (w : World) (hown : OwnK w base v ks) (hlen : ks.length ≤ 1000000) :
    Calls Tryz.prog 57 #[v, .func (.func 58) #[] #[]] w fun e w' => e = .returned (.tuple #[]) ∧ ∃ ks' : List (Int × Int × Int), ks'.Perm ks ∧ ks'.Pairwise (fun a b => ¬ kLt b a) ∧ OwnK w' base v ks' ∧ w.grownBy w' v.ownBlock := by
  rcases hown.2 with ⟨rfl, hn⟩ | ⟨g, cap, cur, rfl, hbg, hg, hnc, hcm, hcs, ht⟩
  · obtain rfl := List.length_eq_zero_iff.1 hn
    refine (AnyF.slices_SortFunc_none Tryz.laysSlF06_f57 none 0 (.func (.func 58) #[] #[]) w).mono ?_
    rintro e w' ⟨rfl, rfl⟩
    exact ⟨rfl, [], List.Perm.refl _, List.Pairwise.nil, hown, ⟨rfl, rfl, rfl, Nat.le_refl _, fun _ _ _ => rfl⟩⟩
  · have eg : ∀ args w, (callFunc 58 args).run Tryz.prog w = .ok (.enter 58 args) w := enters_of Tryz.func58 (by kernel_rfl) rfl
    have hH : HoldsK kCell 3 w g 0 ks.toArray := by
      unfold HoldsK
      rw [flat_keys]
      intro j hj
      have hj' : j < ks.length * 3 := by have := hj; simp [kCells_len] at this; exact this
      refine ⟨?_, by simp [World.frozen?, hg]⟩
      have h1 : (cur.toList.take (ks.length * 3))[j]? = (kCells ks)[j]? := by rw [ht]
      rw [List.getElem?_take_of_lt hj'] at h1
      rw [Nat.zero_add, cell_of_row w g j cur _ _ hg, ← Array.getElem?_toList, h1, List.getElem?_eq_getElem (by rw [kCells_len]; exact hj')]
      simp [kCells_len, hj']
    have hsz : ks.toArray.size = ks.length := by simp
    have hcon := Tryz.slices_SortFunc 3 Tryz.isAgg91 Tryz.sizeOf91 kCell (fun _ => rfl) (fun x v hv => by simp [kCell] at hv; rcases hv with rfl | rfl | rfl <;> rfl) cmpK swoK 58 #[] g 0 cap ks.toArray w eg (fun m os dk _ x y => closure3 x y _) hH (Array.getElem?_eq_some_iff.1 hg).1 (by rw [hsz]; omega)
    rw [hsz] at hcon
    refine hcon.mono ?_
    rintro e w' ⟨rfl, d', n, os, hp, hs, rfl⟩
    obtain ⟨hp1, _, hp3⟩ := hp
    have hdl : d'.toList.length = ks.length := by rw [Array.length_toList, hp1, hsz]
    have hp4 : d'.toList.Perm ks := by
      have e1 : (d'.extract 0 ks.length).toList = d'.toList := by
        simp only [Array.toList_extract, List.extract_eq_take_drop, Nat.sub_zero, List.drop_zero]
        exact List.take_of_length_le (by omega)
      have e2 : (ks.toArray.extract 0 ks.length).toList = ks := by simp
      rw [e1, e2] at hp3
      exact hp3
    refine ⟨rfl, d'.toList, hp4, ?_, ?_, ?_⟩
    · rw [List.pairwise_iff_getElem]
      intro i j hi hj hij
      have h := hs i j (Nat.zero_le _) hij (by rw [← hdl]; exact hj)
      rw [ltOf_k, decide_eq_false_iff_not, getElem!_pos d' j (by simpa using hj), getElem!_pos d' i (by simpa using hi)] at h
      simpa using h
    · refine ⟨by rw [kCells_len], .inr ⟨g, cap, putCells id 0 (kCells d'.toList).toArray cur, by rw [hdl], hbg, ?_, by rw [hdl]; exact hnc, hcm, by simp [putCells, hcs], ?_⟩⟩
      · unfold sortWorldK putRowK
        rw [show d' = d'.toList.toArray by simp, flat_keys]
        exact heap_sorted _ hg
      · have h := take_put cur (kCells d'.toList).toArray (by simp [kCells_len, hp1, hcs]; omega)
        simpa [kCells_len] using h
    · unfold sortWorldK putRowK
      exact grownBy_srt _
end Go.Proofs.YtfiabonacpepnaaGreatDoor.Fb
namespace Go.Proofs.YtfiabonacpepnaaGreatDoor.Fb
open Go Go.RowKit Go.Lib Go.Shelf Go.Maps

def pV (bb k : Nat) : Value := .pointer (some ⟨bb, k, none⟩)
def inElem (v : Value) : Option (DataW Value × List MemPlace) := some (.held v, [])
def inAll (bb : Nat) : DataW Value := ((((((((((DataW.map []).put (.int .i64 1) (.held (pV bb 0))).put (.int .i64 2) (.held (pV bb 1))).put (.int .i64 3) (.held (pV bb 2))).put (.int .i64 4) (.held (pV bb 3))).put (.int .i64 5) (.held (pV bb 4))).put (.int .i64 6) (.held (pV bb 5))).put (.int .i64 7) (.held (pV bb 6))).put (.int .i64 8) (.held (pV bb 7))).put (.int .i64 9) (.held (pV bb 8))).put (.int .i64 10) (.held (pV bb 9))
def IntoAt (w : World) (ib bb : Nat) : Prop := w.ownsMap Tryz.prog 3 inElem ib 10 (inAll bb)
theorem IntoAt.kept {w w' : World} {ib bb : Nat} (h : IntoAt w ib bb) (hb : w'.heap[ib]? = w.heap[ib]?) : IntoAt w' ib bb := by
  obtain ⟨es, clock, hh, F, hs, hD⟩ := h
  exact ⟨es, clock, hb.trans hh, F, hs, hD⟩
theorem IntoAt.lt {w : World} {ib bb : Nat} (h : IntoAt w ib bb) : ib < w.heap.size := by
  obtain ⟨es, clock, hh, _⟩ := h
  exact (Array.getElem?_eq_some_iff.1 hh).1
abbrev TI : TypeId := 99
theorem into_chain (W : World) (ib bb : Nat) (hib : W.heap.size = ib) : ∃ w1 w2 w3 w4 w5 w6 w7 w8 w9 w10 : World, (Instr.mapUpdate TI (.map (some ib)) (.int .i64 1) (.pointer (some ⟨bb, 0, none⟩))).run Tryz.prog (W.alloc (.map #[] 0)) = .ok () w1 ∧ (Instr.mapUpdate TI (.map (some ib)) (.int .i64 2) (.pointer (some ⟨bb, 1, none⟩))).run Tryz.prog w1 = .ok () w2 ∧ (Instr.mapUpdate TI (.map (some ib)) (.int .i64 3) (.pointer (some ⟨bb, 2, none⟩))).run Tryz.prog w2 = .ok () w3 ∧ (Instr.mapUpdate TI (.map (some ib)) (.int .i64 4) (.pointer (some ⟨bb, 3, none⟩))).run Tryz.prog w3 = .ok () w4 ∧ (Instr.mapUpdate TI (.map (some ib)) (.int .i64 5) (.pointer (some ⟨bb, 4, none⟩))).run Tryz.prog w4 = .ok () w5 ∧ (Instr.mapUpdate TI (.map (some ib)) (.int .i64 6) (.pointer (some ⟨bb, 5, none⟩))).run Tryz.prog w5 = .ok () w6 ∧ (Instr.mapUpdate TI (.map (some ib)) (.int .i64 7) (.pointer (some ⟨bb, 6, none⟩))).run Tryz.prog w6 = .ok () w7 ∧ (Instr.mapUpdate TI (.map (some ib)) (.int .i64 8) (.pointer (some ⟨bb, 7, none⟩))).run Tryz.prog w7 = .ok () w8 ∧ (Instr.mapUpdate TI (.map (some ib)) (.int .i64 9) (.pointer (some ⟨bb, 8, none⟩))).run Tryz.prog w8 = .ok () w9 ∧ (Instr.mapUpdate TI (.map (some ib)) (.int .i64 10) (.pointer (some ⟨bb, 9, none⟩))).run Tryz.prog w9 = .ok () w10 ∧ IntoAt w10 ib bb ∧ Below W.heap.size W w10 := by
  subst hib
  have m0 := World.ownsMap_made W Tryz.prog 3 inElem
  obtain ⟨w1, r1, m1, g1⟩ := m0.update (int_keyed Tryz.underlying3) Tryz.underlying99 (by decide) (keyOf_int_mk Tryz.underlying3 (show (Lit.int .i64 1).wf = true by decide)) (show inElem (pV bb 0) = _ from rfl)
  obtain ⟨w2, r2, m2, g2⟩ := m1.update (int_keyed Tryz.underlying3) Tryz.underlying99 (by decide) (keyOf_int_mk Tryz.underlying3 (show (Lit.int .i64 2).wf = true by decide)) (show inElem (pV bb 1) = _ from rfl)
  obtain ⟨w3, r3, m3, g3⟩ := m2.update (int_keyed Tryz.underlying3) Tryz.underlying99 (by decide) (keyOf_int_mk Tryz.underlying3 (show (Lit.int .i64 3).wf = true by decide)) (show inElem (pV bb 2) = _ from rfl)
  obtain ⟨w4, r4, m4, g4⟩ := m3.update (int_keyed Tryz.underlying3) Tryz.underlying99 (by decide) (keyOf_int_mk Tryz.underlying3 (show (Lit.int .i64 4).wf = true by decide)) (show inElem (pV bb 3) = _ from rfl)
  obtain ⟨w5, r5, m5, g5⟩ := m4.update (int_keyed Tryz.underlying3) Tryz.underlying99 (by decide) (keyOf_int_mk Tryz.underlying3 (show (Lit.int .i64 5).wf = true by decide)) (show inElem (pV bb 4) = _ from rfl)
  obtain ⟨w6, r6, m6, g6⟩ := m5.update (int_keyed Tryz.underlying3) Tryz.underlying99 (by decide) (keyOf_int_mk Tryz.underlying3 (show (Lit.int .i64 6).wf = true by decide)) (show inElem (pV bb 5) = _ from rfl)
  obtain ⟨w7, r7, m7, g7⟩ := m6.update (int_keyed Tryz.underlying3) Tryz.underlying99 (by decide) (keyOf_int_mk Tryz.underlying3 (show (Lit.int .i64 7).wf = true by decide)) (show inElem (pV bb 6) = _ from rfl)
  obtain ⟨w8, r8, m8, g8⟩ := m7.update (int_keyed Tryz.underlying3) Tryz.underlying99 (by decide) (keyOf_int_mk Tryz.underlying3 (show (Lit.int .i64 8).wf = true by decide)) (show inElem (pV bb 7) = _ from rfl)
  obtain ⟨w9, r9, m9, g9⟩ := m8.update (int_keyed Tryz.underlying3) Tryz.underlying99 (by decide) (keyOf_int_mk Tryz.underlying3 (show (Lit.int .i64 9).wf = true by decide)) (show inElem (pV bb 8) = _ from rfl)
  obtain ⟨w10, r10, m10, g10⟩ := m9.update (int_keyed Tryz.underlying3) Tryz.underlying99 (by decide) (keyOf_int_mk Tryz.underlying3 (show (Lit.int .i64 10).wf = true by decide)) (show inElem (pV bb 9) = _ from rfl)
  have b0 : Below W.heap.size W (W.alloc (.map #[] 0)) := (Below.refl _ _).alloc (Nat.le_refl _) _
  have gb : ∀ j, some W.heap.size = some j → W.heap.size ≤ j := fun j e => by cases e; exact Nat.le_refl _
  have b1 : Below W.heap.size W w1 := b0.grown g1 b0.size gb
  have b2 : Below W.heap.size W w2 := b1.grown g2 b1.size gb
  have b3 : Below W.heap.size W w3 := b2.grown g3 b2.size gb
  have b4 : Below W.heap.size W w4 := b3.grown g4 b3.size gb
  have b5 : Below W.heap.size W w5 := b4.grown g5 b4.size gb
  have b6 : Below W.heap.size W w6 := b5.grown g6 b5.size gb
  have b7 : Below W.heap.size W w7 := b6.grown g7 b6.size gb
  have b8 : Below W.heap.size W w8 := b7.grown g8 b7.size gb
  have b9 : Below W.heap.size W w9 := b8.grown g9 b8.size gb
  have b10 : Below W.heap.size W w10 := b9.grown g10 b9.size gb
  exact ⟨w1, w2, w3, w4, w5, w6, w7, w8, w9, w10, r1, r2, r3, r4, r5, r6, r7, r8, r9, r10, m10, b10⟩
theorem inAll_at (bb k : Nat) (h1 : 1 ≤ k) (h2 : k ≤ 10) (zd : DataW Value) : (inAll bb).atKey (.int .i64 (k : Int)) zd = .held (pV bb (k - 1)) := by
  have o : ∀ (D : DataW Value) (a b : Int) (d : DataW Value), a ≠ b → (D.put (.int .i64 b) d).atKey (.int .i64 a) zd = D.atKey (.int .i64 a) zd := fun D a b d h => atKey_put_other (fun e => h (by simpa using e)) d zd
  have s : ∀ (D : DataW Value) (a : Int) (d : DataW Value), IsMap D → (D.put (.int .i64 a) d).atKey (.int .i64 a) zd = d := fun D a d h => atKey_put_same (k := .int .i64 a) h trivial d zd
  have m : ∀ (D : DataW Value) (k : Lit) (d : DataW Value), IsMap D → IsMap (D.put k d) := fun D k d h => h.put k d
  have m0 : IsMap (DataW.map [] : DataW Value) := ⟨[], rfl⟩
  unfold inAll
  rcases (by omega : k = 1 ∨ k = 2 ∨ k = 3 ∨ k = 4 ∨ k = 5 ∨ k = 6 ∨ k = 7 ∨ k = 8 ∨ k = 9 ∨ k = 10) with rfl | rfl | rfl | rfl | rfl | rfl | rfl | rfl | rfl | rfl
  · show DataW.atKey _ (.int .i64 1) zd = _
    rw [o _ 1 10 _ (by decide), o _ 1 9 _ (by decide), o _ 1 8 _ (by decide), o _ 1 7 _ (by decide), o _ 1 6 _ (by decide), o _ 1 5 _ (by decide), o _ 1 4 _ (by decide), o _ 1 3 _ (by decide), o _ 1 2 _ (by decide), s _ 1 _ m0]
  · show DataW.atKey _ (.int .i64 2) zd = _
    rw [o _ 2 10 _ (by decide), o _ 2 9 _ (by decide), o _ 2 8 _ (by decide), o _ 2 7 _ (by decide), o _ 2 6 _ (by decide), o _ 2 5 _ (by decide), o _ 2 4 _ (by decide), o _ 2 3 _ (by decide), s _ 2 _ (m _ _ _ m0)]
  · show DataW.atKey _ (.int .i64 3) zd = _
    rw [o _ 3 10 _ (by decide), o _ 3 9 _ (by decide), o _ 3 8 _ (by decide), o _ 3 7 _ (by decide), o _ 3 6 _ (by decide), o _ 3 5 _ (by decide), o _ 3 4 _ (by decide), s _ 3 _ (m _ _ _ (m _ _ _ m0))]
  · show DataW.atKey _ (.int .i64 4) zd = _
    rw [o _ 4 10 _ (by decide), o _ 4 9 _ (by decide), o _ 4 8 _ (by decide), o _ 4 7 _ (by decide), o _ 4 6 _ (by decide), o _ 4 5 _ (by decide), s _ 4 _ (m _ _ _ (m _ _ _ (m _ _ _ m0)))]
  · show DataW.atKey _ (.int .i64 5) zd = _
    rw [o _ 5 10 _ (by decide), o _ 5 9 _ (by decide), o _ 5 8 _ (by decide), o _ 5 7 _ (by decide), o _ 5 6 _ (by decide), s _ 5 _ (m _ _ _ (m _ _ _ (m _ _ _ (m _ _ _ m0))))]
  · show DataW.atKey _ (.int .i64 6) zd = _
    rw [o _ 6 10 _ (by decide), o _ 6 9 _ (by decide), o _ 6 8 _ (by decide), o _ 6 7 _ (by decide), s _ 6 _ (m _ _ _ (m _ _ _ (m _ _ _ (m _ _ _ (m _ _ _ m0)))))]
  · show DataW.atKey _ (.int .i64 7) zd = _
    rw [o _ 7 10 _ (by decide), o _ 7 9 _ (by decide), o _ 7 8 _ (by decide), s _ 7 _ (m _ _ _ (m _ _ _ (m _ _ _ (m _ _ _ (m _ _ _ (m _ _ _ m0))))))]
  · show DataW.atKey _ (.int .i64 8) zd = _
    rw [o _ 8 10 _ (by decide), o _ 8 9 _ (by decide), s _ 8 _ (m _ _ _ (m _ _ _ (m _ _ _ (m _ _ _ (m _ _ _ (m _ _ _ (m _ _ _ m0)))))))]
  · show DataW.atKey _ (.int .i64 9) zd = _
    rw [o _ 9 10 _ (by decide), s _ 9 _ (m _ _ _ (m _ _ _ (m _ _ _ (m _ _ _ (m _ _ _ (m _ _ _ (m _ _ _ (m _ _ _ m0))))))))]
  · show DataW.atKey _ (.int .i64 10) zd = _
    rw [s _ 10 _ (m _ _ _ (m _ _ _ (m _ _ _ (m _ _ _ (m _ _ _ (m _ _ _ (m _ _ _ (m _ _ _ (m _ _ _ m0)))))))))]
theorem nil_zero (w : World) : (zeroValue 98).run Tryz.prog w = .ok (.pointer none) w := Tryz.zeroValue98 w
theorem into_look {w : World} {ib bb : Nat} (h : IntoAt w ib bb) (k : Nat) (h1 : 1 ≤ k) (h2 : k ≤ 10) :
    (Instr.lookup TI (.map (some ib)) (.int .i64 (k : Int)) false).run Tryz.prog w = .ok (.pointer (some ⟨bb, k - 1, none⟩)) w := by
  have hkey : keyOf Tryz.prog 3 (.int .i64 (k : Int)) = some (.int .i64 (k : Int)) := keyOf_int_mk Tryz.underlying3 (WalkArith.wf_i64 (by omega))
  obtain ⟨v, ps, hrun, hv⟩ := World.ownsMap.lookup h (int_keyed Tryz.underlying3) Tryz.underlying99 (nil_zero w) (show inElem (.pointer none) = some (.held (.pointer none), []) from rfl) hkey
  rw [inAll_at bb k h1 h2] at hv
  have hv2 : v = pV bb (k - 1) := by
    unfold inElem at hv
    simp only [Option.some.injEq, Prod.mk.injEq, DataW.held.injEq] at hv
    exact hv.1
  rw [hrun, hv2]
  rfl
end Go.Proofs.YtfiabonacpepnaaGreatDoor.Fb
namespace Go.Proofs.YtfiabonacpepnaaGreatDoor.Fb
open Go Go.RowKit Go.Lib Go.Shelf Go.Maps

def kindF (q : Nat) (f : FactV) : Bool := decide (f.n 0 = (q : Int) + 1)
/-- ten slices, each of the facts of a kind, in blocks of their own -/
structure Lists (w : World) (base : Nat) (bs : Array Value) (fs : List FactV) : Prop where
  size : bs.size = 10
  own : ∀ q, q < 10 → ∃ v, bs[q]? = some v ∧ OwnF w base v (fs.filter (kindF q))
  apart : ∀ (q q' : Nat) (v v' : Value) (b : Nat), q ≠ q' → bs[q]? = some v → bs[q']? = some v' → v.ownBlock = some b → v'.ownBlock ≠ some b
theorem Lists.below {w w' : World} {base : Nat} {bs : Array Value} {fs : List FactV} (h : Lists w base bs fs) (hb : Below w.heap.size w w') : Lists w' base bs fs :=
  ⟨h.size, fun q hq => by obtain ⟨v, h1, h2⟩ := h.own q hq; exact ⟨v, h1, h2.below hb⟩, h.apart⟩
theorem Lists.other {w w' : World} {base : Nat} {bs : Array Value} {fs : List FactV} (h : Lists w base bs fs) (ho : ∀ j, base ≤ j → j < w.heap.size → w'.heap[j]? = w.heap[j]?) : Lists w' base bs fs :=
  ⟨h.size, fun q hq => by obtain ⟨v, h1, h2⟩ := h.own q hq; exact ⟨v, h1, owns_other h2 ho⟩, h.apart⟩
theorem own_lt {w : World} {base : Nat} {v : Value} {l : List FactV} (h : OwnF w base v l) {b : Nat} (hb : v.ownBlock = some b) : base ≤ b ∧ b < w.heap.size := h.lt b hb
theorem Lists.put {w w' : World} {base : Nat} {bs : Array Value} {fs : List FactV} {f : FactV} {q : Nat} {v v' : Value} (h : Lists w base bs fs) (hq : q < 10) (hk : f.n 0 = (q : Int) + 1) (hv : bs[q]? = some v)
    (hown : OwnF w' base v' (fs.filter (kindF q) ++ [f])) (hg : w.grownBy w' v.ownBlock) (hb : v'.ownBlock = v.ownBlock ∨ v'.ownBlock = some w.heap.size) : Lists w' base (bs.setIfInBounds q v') (fs ++ [f]) := by
  have hfq : kindF q f = true := by unfold kindF; simpa using hk
  refine ⟨by simp [h.size], fun p hp => ?_, ?_⟩
  · by_cases hpq : q = p
    · subst hpq
      refine ⟨v', by rw [Array.getElem?_setIfInBounds, if_pos rfl, if_pos (by rw [h.size]; exact hq)], ?_⟩
      rw [List.filter_append]
      simpa [hfq] using hown
    · obtain ⟨u, h1, h2⟩ := h.own p hp
      refine ⟨u, by rw [Array.getElem?_setIfInBounds, if_neg hpq]; exact h1, ?_⟩
      have hfp : kindF p f = false := by
        unfold kindF
        rw [hk]
        simp
        omega
      rw [List.filter_append, List.filter_cons, hfp]
      simp only [Bool.false_eq_true, if_false, List.filter_nil, List.append_nil]
      refine World.ownsRow.kept h2 hg ?_
      cases hu : u.ownBlock with
      | none => exact .inl rfl
      | some b => exact .inr (fun e => h.apart p q u v b (Ne.symm hpq) h1 hv hu e.symm)
  · intro p p' u u' b hpp hu hu' hb1 hb2
    rw [Array.getElem?_setIfInBounds] at hu hu'
    by_cases e1 : q = p
    · subst e1
      rw [if_pos rfl, if_pos (by rw [h.size]; exact hq)] at hu
      rw [if_neg (fun e => hpp e)] at hu'
      cases hu
      rcases hb with e | e
      · exact h.apart q p' v u' b hpp hv hu' (e ▸ hb1) hb2
      · rw [e] at hb1
        cases hb1
        have hp' : p' < 10 := by have := (Array.getElem?_eq_some_iff.1 hu').1; rw [h.size] at this; exact this
        obtain ⟨x, h1, h2⟩ := h.own p' hp'
        rw [h1] at hu'
        cases hu'
        exact absurd (own_lt h2 hb2).2 (Nat.lt_irrefl _)
    · rw [if_neg e1] at hu
      by_cases e2 : q = p'
      · subst e2
        rw [if_pos rfl, if_pos (by rw [h.size]; exact hq)] at hu'
        cases hu'
        rcases hb with e | e
        · exact h.apart p q u v b hpp hu hv hb1 (e ▸ hb2)
        · rw [e] at hb2
          cases hb2
          have hp' : p < 10 := by have := (Array.getElem?_eq_some_iff.1 hu).1; rw [h.size] at this; exact this
          obtain ⟨x, h1, h2⟩ := h.own p hp'
          rw [h1] at hu
          cases hu
          exact absurd (own_lt h2 hb1).2 (Nat.lt_irrefl _)
      · rw [if_neg e2] at hu'
        exact h.apart p p' u u' b hpp hu hu' hb1 hb2
theorem Lists.start (w : World) (base : Nat) : Lists w base #[.slice none 0 0, .slice none 0 0, .slice none 0 0, .slice none 0 0, .slice none 0 0, .slice none 0 0, .slice none 0 0, .slice none 0 0, .slice none 0 0, .slice none 0 0] [] := by
  have hg : ∀ q, q < 10 → (#[Value.slice none 0 0, .slice none 0 0, .slice none 0 0, .slice none 0 0, .slice none 0 0, .slice none 0 0, .slice none 0 0, .slice none 0 0, .slice none 0 0, .slice none 0 0] : Array Value)[q]? = some (.slice none 0 0) := by
    intro q hq
    rcases (by omega : q = 0 ∨ q = 1 ∨ q = 2 ∨ q = 3 ∨ q = 4 ∨ q = 5 ∨ q = 6 ∨ q = 7 ∨ q = 8 ∨ q = 9) with rfl | rfl | rfl | rfl | rfl | rfl | rfl | rfl | rfl | rfl <;> rfl
  refine ⟨rfl, fun q hq => ⟨_, hg q hq, OwnF.nil w base⟩, ?_⟩
  intro q q' v v' b _ h1 _ h3
  have hq := (Array.getElem?_eq_some_iff.1 h1).1
  rw [hg q hq] at h1
  cases h1
  cases h3
theorem wp_build_fact {o : Oper} {a : Act} {w : World} {K : Act → World → Prop} {Q : Exit → Act → World → Prop} (x : Operand) (cs : Array Value) (f : FactV) (hcs : f.cells = cs) (ho : o.op = .buildSlice 44 1 #[(0, x)]) (hx : a.eval x = .agg cs)
    (h : K (a.put o.dst (.slice (some ⟨w.heap.size, 0, none⟩) 1 1)) (w.alloc (.cells cs 47))) : o.wp Tryz.prog a w K Q := by
  subst hcs
  obtain ⟨i0, hi, hz0, hz1, hz2⟩ := info_parts fact_info
  refine wp_buildSlice 44 47 1 #[(0, x)] ho f.cells i0 _ Tryz.underlying44 hi hz0 (by rw [hz1]; decide) (by rw [hz1]; decide) ?_ h
  rw [hz1]
  simp only [List.map_toArray, List.map_cons, List.map_nil, hx]
  exact fill_fact f
theorem wp_append_fact {o : Oper} {a : Act} {w : World} {K : Act → World → Prop} {Q : Exit → Act → World → Prop} (s x : Operand) (base : Nat) (L : List FactV) (f : FactV) (b : Nat) (v : Value) (hown : OwnF w base v L) (hlen : L.length ≤ 1000000) (hbase : base ≤ w.heap.size)
    (hnews : ∀ (j : Nat) u, f.cells.toList[j]? = some u → w.cell? ((⟨b, 0, none⟩ : Addr).add j) = some u)
    (ho : o.op = .call { callee := .builtin .append, args := #[s, x], argTypes := #[44, 44] })
    (hs : a.eval s = v) (hx : a.eval x = .slice (some ⟨b, 0, none⟩) 1 1)
    (h : ∀ v' w', OwnF w' base v' (L ++ [f]) → w.grownBy w' v.ownBlock → (v'.ownBlock = v.ownBlock ∨ v'.ownBlock = some w.heap.size) → K (a.put o.dst v') w') : o.wp Tryz.prog a w K Q := by
  obtain ⟨i0, hi, hz0, hz1, hz2⟩ := info_parts fact_info
  obtain ⟨v', w', hr, h2, h3, _, h5⟩ := run_append_own_at (P := Tryz.prog) w base 44 o.type 47 i0 _ 18 152 Tryz.underlying44 hi hz0 hz1 hz2 rfl (by decide) v L.length (ffCells L) hown ⟨b, 0, none⟩ 1 1 f.cells.toList (by simp [FactV.cells_size]) hnews (fact_ones f) (by unfold maxLen; omega) (by omega) hbase
  unfold Oper.wp execOp
  simp only [ho, resolve, invoke, builtin, Sem.run_bind, Sem.run_pure, Result.andThen_ok, List.map_toArray, List.map_cons, List.map_nil, hs, hx, hr]
  refine h v' w' ?_ h3 h5
  unfold OwnF
  rw [ffCells_app, List.length_append]
  exact h2
theorem putL_mem {L : List FactV} {f x : FactV} (h : x ∈ putL L f) : x ∈ L ∨ x = f := by
  unfold putL at h
  split at h
  · obtain ⟨y, hy, he⟩ := List.mem_map.1 h
    split at he
    · exact .inr he.symm
    · exact .inl (he ▸ hy)
  · rcases List.mem_append.1 h with h | h
    · exact .inl h
    · exact .inr (List.mem_singleton.1 h)
theorem stepB_mem {L : List FactV} {f x : FactV} (h : x ∈ stepB L f) : x ∈ L ∨ (x = f ∧ validB f = true) := by
  unfold stepB at h
  split at h
  · rename_i hv
    split at h
    · exact (putL_mem h).imp id (fun e => ⟨e, hv⟩)
    · split at h
      · exact (putL_mem h).imp id (fun e => ⟨e, hv⟩)
      · exact .inl h
  · exact .inl h
theorem fold_valid : ∀ (l L : List FactV), (∀ f ∈ L, validB f = true) → ∀ f ∈ l.foldl stepB L, validB f = true
  | [], _, h => h
  | x :: l, L, h => fold_valid l (stepB L x) (fun f hf => (stepB_mem hf).elim (h f) (fun e => e.1 ▸ e.2))
theorem bestL_valid (l : List FactV) : ∀ f ∈ bestL l, validB f = true := fold_valid l [] (by simp)
theorem valid_kind {f : FactV} (h : validB f = true) : ∃ q : Nat, q < 10 ∧ f.n 0 = (q : Int) + 1 := by
  unfold validB at h
  simp only [Bool.and_eq_true, decide_eq_true_eq] at h
  exact ⟨(f.n 0 - 1).toNat, by omega, by omega⟩
/-- what the last round keeps: the lists of the facts whose keys were taken -/
structure Of3 (w wo : World) (v : Value) (l : List FactV) (j R ib bb : Nat) (v9 : Value) (ks : List (Int × Int × Int)) (i : Nat) (bs : Array Value) (fs : List FactV) (wx : World) : Prop where
  keys : OwnK wx (R + 1) v9 ks
  map : MapF wx (w.heap.size + 1) j (bestL l)
  into : IntoAt wx ib bb
  row : RowAt wx bb 53 bs
  lists : Lists wx (ib + 1) bs fs
  zb : ∃ z, RowAt wx w.heap.size 53 z ∧ z.size = 10
  below : Below w.heap.size w wx
  done : fs.map kT = ks.take i
  best : ∀ f ∈ fs, f ∈ bestL l
  size : ib + 1 ≤ wx.heap.size
theorem Of3.more {w wo wx W : World} {v v9 : Value} {l : List FactV} {j R ib bb i : Nat} {ks : List (Int × Int × Int)} {bs : Array Value} {fs : List FactV} (h : Of3 w wo v l j R ib bb v9 ks i bs fs wx) (hb : Below wx.heap.size wx W) : Of3 w wo v l j R ib bb v9 ks i bs fs W :=
  ⟨h.keys.below hb, h.map.kept (hb.block _ h.map.lt), h.into.kept (hb.block _ h.into.lt), h.row.below hb h.row.lt, h.lists.below hb, by obtain ⟨z, h1, h2⟩ := h.zb; exact ⟨z, h1.below hb h1.lt, h2⟩, h.below.trans (hb.mono h.below.size), h.done, h.best, Nat.le_trans h.size hb.size⟩
end Go.Proofs.YtfiabonacpepnaaGreatDoor.Fb
