/- Print. -/
import Derived.Test.YtfiabonacpepnaaGreatDoorCtS
namespace Go.Proofs.YtfiabonacpepnaaGreatDoor
open Go Go.RowKit Go.Lib Go.Shelf Go.Maps

/-- a guarded load that is wanted -/
theorem load_trowg {ops : Array Oper} {rest : List Oper} {o : Oper} {a : Act} {w : World} {Q : Exit → Act → World → Prop} (x : Operand) (g : Nat) (cs : Array Value) (hg : RowAt w g 28 cs) (hs : cs.size = 5)
    (hw : Region.wanted o (yielded ops a.tmps) = true) (ho : o.op = .load 28 x) (hx : a.eval x = .pointer (some ⟨g, 0, none⟩)) (h : wpList Tryz.prog ops Q rest (a.put o.dst (.agg cs)) w) : wpList Tryz.prog ops Q (o :: rest) a w := by
  refine wpList_step fun K hK => ?_
  rw [if_pos hw]
  exact wp_load_at _ x ho g 0 hx cs _ (fun j v hv => by rw [Nat.zero_add, hg.cell]; exact hv) Tryz.underlying28 rfl (by rw [hs]; exact term_size) (hK _ _ h)
theorem text_take {l : List TermV} {k : Nat} {t : TermV} (h : l[k]? = some t) : textT (l.take (k + 1)) = textT (l.take k) ++ lineT t ++ [10] := by
  rw [List.take_add_one, h]
  simp [textT]
set_option maxRecDepth 100000 in
set_option maxHeartbeats 8000000 in
theorem print_any (l : List TermV) (v : Value) (w : World) (hK : KAt w) (hv : TermsAt w v l) (hl : l.length ≤ 1000000) (hok : ∀ t ∈ l, t.acc.length ≤ 1000000 ∧ ∀ a ∈ t.acc, -9223372036854775808 ≤ a ∧ a ≤ 9223372036854775807) :
    Calls Tryz.prog 16 #[v] w fun e w' => e = .returned (.tuple #[strV (printV l), .int .i64 (errI (goodL l))]) ∧ Below w.heap.size w w' := by
  obtain ⟨A, c, rfl⟩ := hv.slice
  have HV := Lib.hid hv
  have HOK := Lib.hid hok
  obtain ⟨n, hn⟩ : ∃ n, l.length = n := ⟨_, rfl⟩
  rw [hn] at hl HV ⊢
  have HLN := Lib.hid hn
  have HBI := Lib.hid (fresh_isBuilder 61 5 w)
  have b0 : Below w.heap.size w (w.alloc (.cells #[.pointer none, .slice none 0 0] 61)) := (Below.refl _ _).alloc (Nat.le_refl _) _
  obtain ⟨N, hN⟩ : ∃ z, w.heap.size = z := ⟨_, rfl⟩
  have h9 : 9 ≤ N := by rw [← hN]; exact hK.lt
  obtain ⟨W0, hW0⟩ : ∃ z, w.alloc (.cells #[.pointer none, .slice none 0 0] 61) = z := ⟨_, rfl⟩
  have e0 : W0.heap.size = N + 1 := by rw [← hW0, ← hN]; simp
  rw [hW0, hN] at HBI b0
  have HB0 := Lib.hid b0
  have HW0 := Lib.hid hW0
  have HNN := Lib.hid hN
  have HK := Lib.hid hK
  have HE0 := Lib.hid e0
  obtain ⟨PV, hPV⟩ : ∃ z, printV l = z := ⟨_, rfl⟩
  obtain ⟨GL, hGL⟩ : ∃ z, goodL l = z := ⟨_, rfl⟩
  rw [hPV, hGL]
  have HPV := Lib.hid hPV
  have HGL := Lib.hid hGL
  have HBAD : Hid ((20 < l.length ∨ ∃ t ∈ l, validT t = false) → PV = [] ∧ GL = false) := Lib.hid (fun h => by
    have hg : goodL l = false := by
      rw [Bool.eq_false_iff]
      intro e
      obtain ⟨h1, h2⟩ := (good_iff l).1 e
      rcases h with h | ⟨t, ht, hf⟩
      · omega
      · rw [h2 t ht] at hf; cases hf
    exact ⟨by rw [← hPV]; unfold printV; rw [hg]; rfl, by rw [← hGL]; exact hg⟩)
  clear hv hok hn b0 hW0 e0 hK hPV hGL
  go_enter Tryz.func16, Tryz.ntmps16
  go_upto_region 2 with fail
  rw [HW0.out]
  clear hN
  go_wp2_with fail
  go_loopw [9] (fun iv wr => ∃ k : Nat, iv = .int .i64 k ∧ k ≤ n ∧ Hid (k ≤ 20 ∧ (∀ t ∈ l.take k, validT t = true) ∧ Lib.IsBuilder 61 5 N N (Lib.byteCells (textT (l.take k))) wr ∧ Below N w wr ∧ N < wr.heap.size)) (fun iv _ => n - (intOf iv).toNat)
  case atStart => exact ⟨0, rfl, Nat.zero_le _, Lib.hid ⟨by omega, by simp, HBI.out, HB0.out, by rw [HE0.out]; omega⟩⟩
  case round =>
    obtain ⟨k, rfl, hk, HR⟩ := hrel
    obtain ⟨hk20, hval, hbl, hbw, hNr⟩ := HR.out
    have HVAL := Lib.hid hval
    have HBL := Lib.hid hbl
    have HBW := Lib.hid hbw
    have HKr := Lib.hid (HK.out.below hbw h9)
    clear HR hval hbl hbw
    by_cases hkn : k < n
    · obtain ⟨t, htk⟩ : ∃ t, l[k]? = some t := ⟨_, List.getElem?_eq_getElem (by rw [HLN.out]; exact hkn)⟩
      obtain ⟨b, o, va, rfl, hva, hcells⟩ : ∃ b o va, A = some ⟨b, o, none⟩ ∧ IntsL wr va t.acc ∧ ∀ (j : Nat) x, (termC t va)[j]? = some x → wr.cell? ⟨b, o + k * 5 + j, none⟩ = some x := by
        have hbw0 : Below w.heap.size w wr := by rw [HNN.out]; exact HBW.out
        rcases HV.out with ⟨hnil, _⟩ | ⟨b, o, c', he, hlt, hc⟩
        · rw [hnil] at htk; simp at htk
        · simp only [Value.slice.injEq] at he
          obtain ⟨va, h1, h3⟩ := hc k t htk
          exact ⟨b, o, va, he.1, h1.below hbw0, fun j x hx => (hbw0.cell (p := ⟨b, o + k * 5 + j, none⟩) hlt).trans (h3 j x hx)⟩
      have hokt := HOK.out t (List.mem_of_getElem? htk)
      have HTT := Lib.hid (text_take htk)
      have HTK := Lib.hid htk
      have HLD := Lib.hid hcells
      have HOC := Lib.hid (termC_one t hva)
      have hr1 := RowAt.new wr 28 (termC t va)
      have b1 : Below wr.heap.size wr (wr.alloc (.cells (termC t va) 28)) := (Below.refl _ _).alloc (Nat.le_refl _) _
      have HR1 := Lib.hid hr1
      have HVC := Lib.hid (validC_any t va (wr.alloc (.cells (termC t va) 28)) hokt.1 (hva.below b1) hokt.2)
      have HI1 := Lib.hid (hva.below b1)
      have HB1 := Lib.hid b1
      have HK1 := Lib.hid (HKr.out.mono b1)
      have HBL1 := Lib.hid (bld_below HBL.out b1)
      clear htk hcells hr1 b1 hva
      by_cases hk2 : k = 20
      · subst hk2
        have hbad := HBAD.out (.inl (by rw [HLN.out]; omega))
        obtain ⟨rfl, rfl⟩ := hbad
        have HBW1 := Lib.hid (HBW.out.trans (HB1.out.mono (by omega)))
        go_wp2_with (first | ((with_reducible refine load_term (o := ⟨some 13, _, _, _, _, _⟩) (.tmp 12) b (o + 20 * 5) t va HLD.out ?_ ?_ ?_ ?_); rfl; rfl; rfl) | ((with_reducible refine store_term (o := ⟨none, .store _ _ _, _, _, _, _⟩) (.tmp 6) (.tmp 13) t va _ HOC.out ?_ ?_ ?_ ?_ ?_ ?_); rfl; rfl; rfl; rfl; rfl))
        go_ret2
        exact ⟨rfl, by rw [HNN.out]; exact HBW1.out⟩
      · have d20 : ((k : Int) == 20) = false := by rw [beq_eq_false_iff_ne]; omega
        obtain ⟨q, hq⟩ : ∃ q, validT t = q := ⟨_, rfl⟩
        rw [hq] at HVC
        have HQ := Lib.hid hq
        clear hq
        go_wp2_with (first | ((with_reducible refine load_term (o := ⟨some 13, _, _, _, _, _⟩) (.tmp 12) b (o + k * 5) t va HLD.out ?_ ?_ ?_ ?_); rfl; rfl; rfl) | ((with_reducible refine store_term (o := ⟨none, .store _ _ _, _, _, _, _⟩) (.tmp 6) (.tmp 13) t va _ HOC.out ?_ ?_ ?_ ?_ ?_ ?_); rfl; rfl; rfl; rfl; rfl) | ((with_reducible refine load_trowg (o := ⟨some 17, _, _, _, _, _⟩) (.tmp 6) wr.heap.size (termC t va) HR1.out rfl ?_ ?_ ?_ ?_); rfl; rfl; rfl))
        refine HVC.out.mono ?_
        rintro e w2 ⟨rfl, hb2⟩
        have HR2 := Lib.hid (HR1.out.below hb2 HR1.out.lt)
        have HI2 := Lib.hid (HI1.out.below hb2)
        have HK2 := Lib.hid (HK1.out.mono hb2)
        have HBL2 := Lib.hid (bld_below HBL1.out hb2)
        have HBW2 := Lib.hid ((HBW.out.trans (HB1.out.mono (by omega))).trans (hb2.mono (by simp; omega)))
        have hN2 : N < w2.heap.size := by have := HR2.out.lt; omega
        clear hb2
        cases q
        · have hbad := HBAD.out (.inr ⟨t, List.mem_of_getElem? HTK.out, HQ.out⟩)
          obtain ⟨rfl, rfl⟩ := hbad
          go_wp2_with fail
          go_ret2
          exact ⟨rfl, by rw [HNN.out]; exact HBW2.out⟩
        · have HLI := Lib.hid (line_any t va w2 HK2.out HI2.out HQ.out)
          have hln := line_len HQ.out
          obtain ⟨LT, hLT⟩ : ∃ z, lineT t = z := ⟨_, rfl⟩
          rw [hLT] at HLI hln
          have HLT := Lib.hid hLT
          clear hLT
          unfold strV at HLI
          go_wp2_with ((with_reducible refine load_trow (o := ⟨some 21, _, _, _, _, _⟩) (.tmp 6) wr.heap.size (termC t va) HR2.out rfl ?_ ?_ ?_ ?_); rfl; rfl; rfl)
          refine HLI.out.mono ?_
          rintro e w3 ⟨rfl, hb3⟩
          have HBL3 := Lib.hid (bld_below HBL2.out hb3)
          have HBW3 := Lib.hid (HBW2.out.trans (hb3.mono (by omega)))
          have hN3 : N < w3.heap.size := by have := hb3.size; omega
          have HTL : Hid ((textT (l.take k)).length ≤ 1220) := Lib.hid (by
            have h1 := text_len HVAL.out
            have h2 : (l.take k).length ≤ k := List.length_take_le _ _
            omega)
          have HWS := Lib.hid (writeString_any N N (Lib.byteCells (textT (l.take k))) ⟨LT.toArray⟩ w3 HBL3.out (by have := HTL.out; rw [Lib.byteCells, List.length_map]; show (textT (l.take k)).length + LT.length ≤ _; omega) (by omega))
          clear hb3
          go_wp2_with fail
          refine HWS.out.mono ?_
          rintro e w4 ⟨rfl, hbl4, hb4, _⟩
          have HBL4 := Lib.hid hbl4
          have HBW4 := Lib.hid (HBW3.out.trans hb4)
          have hN4 : N < w4.heap.size := by have := hb4.size; omega
          have HWB := Lib.hid (writeByte_any N N (Lib.byteCells (textT (l.take k)) ++ Lib.strCells ⟨LT.toArray⟩) 10 w4 (.inr HBL4.out) (by have := HTL.out; rw [List.length_append, Lib.byteCells, List.length_map, Lib.strCells_length]; show (textT (l.take k)).length + LT.length + 1 ≤ _; omega) (by omega))
          clear hbl4 hb4
          go_wp2_with fail
          refine HWB.out.mono ?_
          rintro e w5 ⟨rfl, hbl5, hb5, _⟩
          have HEND := Lib.hid (show k + 1 ≤ 20 ∧ (∀ u ∈ l.take (k + 1), validT u = true) ∧ Lib.IsBuilder 61 5 N N (Lib.byteCells (textT (l.take (k + 1)))) w5 ∧ Below N w w5 ∧ N < w5.heap.size from by
            refine ⟨by omega, fun u hu => ?_, .inr ?_, HBW4.out.trans hb5, by have := hb5.size; omega⟩
            · rw [List.take_add_one, HTK.out] at hu
              rcases List.mem_append.1 hu with h | h
              · exact HVAL.out u h
              · simp at h
                rw [h]
                exact HQ.out
            · rw [HTT.out, HLT.out, Lib.byteCells_append, Lib.byteCells_append]
              exact hbl5)
          clear hbl5 hb5
          go_wp2_with fail
          go_roundw
          case rel => exact ⟨k + 1, by go_num, by omega, HEND⟩
          case measure => simp [intOf]; omega
    · obtain rfl : k = n := by omega
      have htake : l.take k = l := List.take_of_length_le (by rw [HLN.out]; exact Nat.le_refl _)
      have hval := HVAL.out
      have hbl := HBL.out
      rw [htake] at hval hbl
      have hgood : goodL l = true := (good_iff l).2 ⟨by rw [HLN.out]; omega, hval⟩
      have HG1 : Hid (GL = true) := Lib.hid (by rw [← HGL.out]; exact hgood)
      have HP1 : Hid (PV = textT l) := Lib.hid (by rw [← HPV.out]; unfold printV; rw [if_pos hgood])
      have HST := Lib.hid (Tryz.Builder_String_any N N (textT l) wr hbl (by omega))
      rw [← HP1.out] at HST
      clear htake hval hbl hgood
      go_wp2_with fail
      refine HST.out.mono ?_
      rintro e w9 ⟨rfl, hb9⟩
      have HB9 := Lib.hid (HBW.out.trans hb9)
      clear hb9
      go_wp2_with fail
      go_ret2
      exact ⟨by rw [HG1.out]; rfl, by rw [HNN.out]; exact HB9.out⟩
end Go.Proofs.YtfiabonacpepnaaGreatDoor
