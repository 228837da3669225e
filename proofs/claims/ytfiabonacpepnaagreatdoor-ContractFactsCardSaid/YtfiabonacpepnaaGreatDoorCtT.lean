/- Print. -/
import Derived.Test.YtfiabonacpepnaaGreatDoorCtR
namespace Go.Proofs.YtfiabonacpepnaaGreatDoor
open Go Go.RowKit Go.Lib Go.Shelf Go.Maps

theorem string_info : (Tryz.prog.info? 9).map (fun i => (i.zero, i.size, i.bytes)) = some (some (.string ⟨#[]⟩), 1, 16) := by kernel_rfl
/-- a list of strings in a block of its own -/
def OwnS (w : World) (base : Nat) (v : Value) (ws : List (List UInt8)) : Prop := w.ownsRow base 9 1 v ws.length (ws.map strV)
theorem OwnS.kept {w w' : World} {base : Nat} {v : Value} {ws : List (List UInt8)} (h : OwnS w base v ws) (ho : ∀ g, base ≤ g → g < w.heap.size → w'.heap[g]? = w.heap[g]?) : OwnS w' base v ws := by
  refine ⟨h.1, ?_⟩
  rcases h.2 with h0 | ⟨g, cap, cur, hv, hb, hg, rest⟩
  · exact .inl h0
  · exact .inr ⟨g, cap, cur, hv, hb, (ho g hb (Array.getElem?_eq_some_iff.1 hg).1).trans hg, rest⟩
theorem words_len {l : List Int} (h : ∀ a ∈ l, 1 ≤ a ∧ a ≤ 1000) (hn : l.length ≤ 10) : (join (kRecoup :: l.map decI) [32]).length ≤ 100 := by
  have key : ∀ l : List Int, (∀ a ∈ l, 1 ≤ a ∧ a ≤ 1000) → (joinTail [32] (l.map decI)).length ≤ l.length * 5 := by
    intro l
    induction l with
    | nil => intro _; simp [joinTail]
    | cons a l ih =>
      intro hl
      have h1 := ih fun b hb => hl b (by simp [hb])
      have h2 := hl a (by simp)
      have h3 := dec_len 3 a.toNat (by omega)
      simp only [joinTail, List.map_cons, List.flatten_cons, List.length_append, List.length_cons, List.length_nil, decI] at h1 ⊢
      omega
  have h1 := key l h
  rw [join_cons, List.length_append]
  have : kRecoup.length = 6 := rfl
  omega
set_option maxRecDepth 100000 in
set_option maxHeartbeats 8000000 in
theorem line_5 (acc : List Int) (va : Value) (w : World) (hK : KAt w) (hv : IntsL w va acc) (hl : acc.length ≤ 10) (ha : ∀ a ∈ acc, 1 ≤ a ∧ a ≤ 1000) :
    Calls Tryz.prog 34 #[.agg #[.int .i64 5, .int .i64 0, .int .i64 0, .int .i64 0, va]] w fun e w' => e = .returned (strV (join (kRecoup :: acc.map decI) [32])) ∧ Below w.heap.size w w' := by
  obtain ⟨A, c, rfl⟩ := hv.slice
  have HJL := Lib.hid (words_len ha hl)
  have HV := Lib.hid hv
  have HA := Lib.hid ha
  obtain ⟨m, hm⟩ : ∃ m, acc.length = m := ⟨_, rfl⟩
  rw [hm] at hl ⊢
  have HM := Lib.hid hm
  have hr := RowAt.new w 28 #[.int .i64 5, .int .i64 0, .int .i64 0, .int .i64 0, .slice A m c]
  have b0 : Below w.heap.size w (w.alloc (.cells #[.int .i64 5, .int .i64 0, .int .i64 0, .int .i64 0, .slice A m c] 28)) := (Below.refl _ _).alloc (Nat.le_refl _) _
  obtain ⟨N, hN⟩ : ∃ z, w.heap.size = z := ⟨_, rfl⟩
  have h9 : 9 ≤ N := by rw [← hN]; exact hK.lt
  rw [hN] at hr b0
  have e0 : (w.alloc (.cells #[.int .i64 5, .int .i64 0, .int .i64 0, .int .i64 0, .slice A m c] 28)).heap.size = N + 1 := by rw [← hN]; simp
  have r1 := RowAt.new (w.alloc (.cells #[.int .i64 5, .int .i64 0, .int .i64 0, .int .i64 0, .slice A m c] 28)) 9 #[strV kRecoup]
  have b1 := b0.alloc (by omega) (.cells #[strV kRecoup] 9)
  have r0 := hr.alloc (.cells #[strV kRecoup] 9)
  rw [e0] at r1
  obtain ⟨W1, hW1⟩ : ∃ z, (w.alloc (.cells #[.int .i64 5, .int .i64 0, .int .i64 0, .int .i64 0, .slice A m c] 28)).alloc (.cells #[strV kRecoup] 9) = z := ⟨_, rfl⟩
  rw [hW1] at r1 b1 r0
  have HOW : Hid (OwnS W1 N (.slice (some ⟨N + 1, 0, none⟩) 1 1) [kRecoup]) := Lib.hid ⟨by simp, .inr ⟨N + 1, 1, #[strV kRecoup], rfl, by omega, r1, by simp, by unfold maxLen; omega, rfl, rfl⟩⟩
  have HR0 := Lib.hid r0
  have HB1 := Lib.hid b1
  have HW1 := Lib.hid hW1
  have HNN := Lib.hid hN
  have HK := Lib.hid hK
  have c4 : W1.cell? ⟨N, 4, none⟩ = some (.slice A m c) := r0.cell 4
  obtain ⟨JJ, hJJ⟩ : ∃ z, join (kRecoup :: acc.map decI) [32] = z := ⟨_, rfl⟩
  have HJJ := Lib.hid hJJ
  rw [hJJ]
  clear hr b0 e0 r1 b1 r0 hW1 hK hv ha hm hJJ
  unfold strV kRecoup at HW1
  go_enter Tryz.func34, Tryz.ntmps34
  go_upto_region 15 with fail
  rw [HW1.out]
  clear hN
  go_wp2_with fail
  go_loopw [5, 63] (fun ov iv wr => ∃ k : Nat, iv = .int .i64 k ∧ k ≤ m ∧ Hid (OwnS wr N ov (kRecoup :: (acc.take k).map decI) ∧ Below N w wr ∧ N ≤ wr.heap.size)) (fun _ iv _ => m - (intOf iv).toNat)
  case atStart => exact ⟨0, rfl, Nat.zero_le _, Lib.hid ⟨HOW.out, HB1.out, by have := HR0.out.lt; omega⟩⟩
  case round =>
    obtain ⟨k, rfl, hk, HR⟩ := hrel
    have hbw := HR.out.2.1
    have hNr := HR.out.2.2
    have HKr := Lib.hid (HK.out.below hbw h9)
    have HOWN := Lib.hid HR.out.1
    have HBW := Lib.hid hbw
    clear HR hbw
    by_cases hkm : k < m
    · obtain ⟨a, hak⟩ : ∃ a, acc[k]? = some a := ⟨_, List.getElem?_eq_getElem (by rw [HM.out]; exact hkm)⟩
      have hts : acc.take (k + 1) = acc.take k ++ [a] := by rw [List.take_add_one, hak]; rfl
      obtain ⟨b, o, rfl, hca⟩ : ∃ b o, A = some ⟨b, o, none⟩ ∧ wr.cell? ⟨b, o + k, none⟩ = some (.int .i64 a) := by
        rcases HV.out with ⟨hnil, _⟩ | ⟨b, o, c', he, hlt, hc⟩
        · rw [hnil] at hak; simp at hak
        · simp only [Value.slice.injEq] at he
          exact ⟨b, o, he.1, (HBW.out.cell (p := ⟨b, o + k, none⟩) (by rw [← HNN.out]; exact hlt)).trans (hc k a hak)⟩
      have hab := HA.out a (List.mem_of_getElem? hak)
      obtain ⟨x, rfl⟩ := Int.eq_ofNat_of_zero_le (show 0 ≤ a by omega)
      have HIT : Hid (∀ W, KAt W → Calls Tryz.prog 64 #[.int .i64 (x : Int)] W fun e w' => e = .returned (strV (decDigits x)) ∧ Below W.heap.size W w') := Lib.hid (fun W h => itoa_any x W h (by omega))
      have HTS := Lib.hid hts
      clear hak hts
      unfold strV at HIT
      obtain ⟨D, hD⟩ : ∃ D, decDigits x = D := ⟨_, rfl⟩
      rw [hD] at HIT
      have HDD := Lib.hid hD
      clear hD
      go_wp2_with fail
      refine (HIT.out _ HKr.out).mono ?_
      rintro e w2 ⟨rfl, hb2⟩
      have hN2 : N ≤ w2.heap.size := by have := hb2.size; omega
      have HOW2 := Lib.hid (HOWN.out.kept fun g _ h2 => hb2.block g h2)
      have HBW2 := Lib.hid (HBW.out.trans (hb2.mono hNr))
      clear hb2 hca
      go_wp2_with ((with_reducible refine wpList_stop (o := ⟨some 71, _, _, _, _, _⟩) ?_))
      unfold Stop
      obtain ⟨i0, hi, hz0, hz1, hz2⟩ := info_parts string_info
      have b8 : Below w2.heap.size w2 (w2.alloc (.cells #[.string ⟨D.toArray⟩] 9)) := (Below.refl _ _).alloc (Nat.le_refl _) _
      have ow8 : OwnS (w2.alloc (.cells #[.string ⟨D.toArray⟩] 9)) N u5 (kRecoup :: (acc.take k).map decI) := HOW2.out.kept fun g _ h2 => b8.block g h2
      have hlw : (kRecoup :: (acc.take k).map decI).length ≤ 11 := by simp; omega
      refine wpList_append_own _ rfl (.tmp 67) (.tmp 70) 37 rfl N 9 i0 _ 1 16 Tryz.underlying37 hi hz0 hz1 hz2 rfl (by decide) u5 _ _ rfl ow8 ⟨w2.heap.size, 0, none⟩ 1 1 [.string ⟨D.toArray⟩] rfl rfl ?_ ?_ ?_ ?_ ?_ ?_
      · intro j u hj
        rw [addr_add, (RowAt.new w2 9 #[.string ⟨D.toArray⟩]).cell j, ← hj]
        simp
      · intro u hu
        simp at hu
        subst hu
        rfl
      · unfold maxLen; omega
      · omega
      · simp; omega
      intro v9 w9 hown9 hg9 _
      have HEND := Lib.hid (show OwnS w9 N v9 (kRecoup :: (acc.take (k + 1)).map decI) ∧ Below N w w9 ∧ N ≤ w9.heap.size from by
        refine ⟨?_, ?_, ?_⟩
        · rw [HTS.out, List.map_append, ← List.cons_append]
          unfold OwnS
          rw [List.length_append, List.map_append]
          have e : [((x : Int) : Int)].map decI = [D] := by rw [← HDD.out]; rfl
          rw [e]
          exact hown9
        · exact (HBW2.out.trans (b8.mono hN2)).grown hg9 (by simp; omega) (fun j e => (World.ownsRow.lt ow8 j e).1)
        · have := hg9.size; simp at this; omega)
      clear hown9 hg9 ow8 b8 hi hz0 hz1 hz2
      go_wp2_with fail
      go_roundw
      case rel => exact ⟨k + 1, by go_num, by omega, HEND⟩
      case measure => simp [intOf]; omega
    · obtain rfl : k = m := by omega
      have how := HOWN.out
      rw [List.take_of_length_le (by rw [HM.out]; exact Nat.le_refl _)] at how
      have HLN : Hid ((kRecoup :: acc.map decI).length = k + 1) := Lib.hid (by simp; exact HM.out)
      obtain ⟨g, cap, hu5, hle, hlt, hcells⟩ : ∃ g cap, u5 = .slice (some ⟨g, 0, none⟩) (kRecoup :: acc.map decI).length cap ∧ (kRecoup :: acc.map decI).length ≤ cap ∧ g < wr.heap.size ∧ ∀ (j : Nat) x, (kRecoup :: acc.map decI)[j]? = some x → wr.cell? ⟨g, 0 + j, none⟩ = some (strV x) := by
        rcases how.2 with ⟨_, h0⟩ | ⟨g, cap, cur, h1, _, hg, hle, _⟩
        · simp at h0
        · refine ⟨g, cap, h1, hle, (Array.getElem?_eq_some_iff.1 hg).1, fun j x hx => ?_⟩
          subst h1
          have := how.cellAt j (by have := (List.getElem?_eq_some_iff.1 hx).1; omega)
          rw [Nat.zero_add, this, List.getElem?_map, hx]
          rfl
      have HJ := Lib.hid (join_any g 0 cap (kRecoup :: acc.map decI) wr hcells hlt hle (by rw [HLN.out]; omega) (by have := HJL.out; omega))
      rw [HLN.out, HJJ.out] at HJ
      rw [HLN.out] at hu5
      subst hu5
      unfold strV at HJ
      clear how hcells hle hlt
      go_wp2_with fail
      refine HJ.out.mono ?_
      rintro e w9 ⟨rfl, hb9⟩
      have HB9 := Lib.hid (HBW.out.trans (hb9.mono hNr))
      clear hb9
      go_wp2_with fail
      go_ret
      exact ⟨rfl, by rw [HNN.out]; exact HB9.out⟩
theorem line_any (t : TermV) (va : Value) (w : World) (hK : KAt w) (hv : IntsL w va t.acc) (h : validT t = true) :
    Calls Tryz.prog 34 #[.agg (termC t va)] w fun e w' => e = .returned (strV (lineT t)) ∧ Below w.heap.size w w' := by
  obtain ⟨k, n, m, ab, acc⟩ := t
  have hc := validT_cases h
  dsimp only at hc hv
  unfold termC lineT wordsT
  dsimp only
  rcases hc with ⟨rfl, h2, h3, rfl, h5, h6, h7, h8⟩ | ⟨rfl, h2, h3, rfl, rfl, rfl⟩ | ⟨rfl, h2, h3, rfl, h5, h6, rfl⟩ | ⟨rfl, h2, h3, rfl, rfl, rfl⟩ | ⟨rfl, rfl, rfl, rfl, h5, h6, h7, h8⟩
  · obtain ⟨a', rfl⟩ := Int.eq_ofNat_of_zero_le h7
    have e := line_1 n m a' va w hK h2 h3 h5 h6 (by omega)
    rw [if_pos rfl]
    have hab : (if (0 : Int) < (a' : Int) then [kAbove, decI (a' : Int)] else []) = (if 0 < a' then [kAbove, decDigits a'] else []) := by
      by_cases h0 : 0 < a'
      · rw [if_pos h0, if_pos (by omega)]; rfl
      · rw [if_neg h0, if_neg (by omega)]
    rw [hab]
    exact e
  · obtain ⟨n', rfl⟩ := Int.eq_ofNat_of_zero_le (show 0 ≤ n by omega)
    rw [if_neg (by decide), if_pos rfl]
    exact line_2 n' va w hK (by omega)
  · rw [if_neg (by decide), if_neg (by decide), if_pos rfl]
    exact line_3 n m va w hK h2 h3 h5 (by omega)
  · obtain ⟨n', rfl⟩ := Int.eq_ofNat_of_zero_le (show 0 ≤ n by omega)
    rw [if_neg (by decide), if_neg (by decide), if_neg (by decide), if_pos rfl]
    exact line_4 n' va w hK (by omega)
  · rw [if_neg (by decide), if_neg (by decide), if_neg (by decide), if_neg (by decide)]
    exact line_5 acc va w hK hv h6 h7
end Go.Proofs.YtfiabonacpepnaaGreatDoor
namespace Go.Proofs.YtfiabonacpepnaaGreatDoor
open Go Go.RowKit Go.Lib Go.Shelf Go.Maps

/-- a guarded load that is wanted -/
theorem load_trowg {ops : Array Oper} {rest : List Oper} {o : Oper} {a : Act} {w : World} {Q : Exit → Act → World → Prop} (x : Operand) (g : Nat) (cs : Array Value) (hg : RowAt w g 28 cs) (hs : cs.size = 5)
    (hw : Region.wanted o (yielded ops a.tmps) = true) (ho : o.op = .load 28 x) (hx : a.eval x = .pointer (some ⟨g, 0, none⟩)) (h : wpList Tryz.prog ops Q rest (a.put o.dst (.agg cs)) w) : wpList Tryz.prog ops Q (o :: rest) a w := by
  refine wpList_step fun K hK => ?_
  rw [if_pos hw]
  exact wp_load_at _ x ho g 0 hx cs _ (fun j v hv => by rw [Nat.zero_add, hg.cell]; exact hv) Tryz.underlying28 rfl (by rw [hs]; exact term_size) (hK _ _ h)
theorem text_take {l : List TermV} {k : Nat} {t : TermV} (h : l[k]? = some t) : textT (l.take (k + 1)) = textT (l.take k) ++ lineT t ++ [10] := by
  rw [List.take_add_one, h]
  simp [textT]
set_option maxRecDepth 100000 in
set_option maxHeartbeats 8000000 in
theorem print_any (l : List TermV) (v : Value) (w : World) (hK : KAt w) (hv : TermsAt w v l) (hl : l.length ≤ 1000000) (hok : ∀ t ∈ l, t.acc.length ≤ 1000000 ∧ ∀ a ∈ t.acc, -9223372036854775808 ≤ a ∧ a ≤ 9223372036854775807) :
    Calls Tryz.prog 16 #[v] w fun e w' => e = .returned (.tuple #[strV (printV l), .int .i64 (errI (goodL l))]) ∧ Below w.heap.size w w' := by
  obtain ⟨A, c, rfl⟩ := hv.slice
  have HV := Lib.hid hv
  have HOK := Lib.hid hok
  obtain ⟨n, hn⟩ : ∃ n, l.length = n := ⟨_, rfl⟩
  rw [hn] at hl HV ⊢
  have HLN := Lib.hid hn
  have HBI := Lib.hid (fresh_isBuilder 61 5 w)
  have b0 : Below w.heap.size w (w.alloc (.cells #[.pointer none, .slice none 0 0] 61)) := (Below.refl _ _).alloc (Nat.le_refl _) _
  obtain ⟨N, hN⟩ : ∃ z, w.heap.size = z := ⟨_, rfl⟩
  have h9 : 9 ≤ N := by rw [← hN]; exact hK.lt
  obtain ⟨W0, hW0⟩ : ∃ z, w.alloc (.cells #[.pointer none, .slice none 0 0] 61) = z := ⟨_, rfl⟩
  have e0 : W0.heap.size = N + 1 := by rw [← hW0, ← hN]; simp
  rw [hW0, hN] at HBI b0
  have HB0 := Lib.hid b0
  have HW0 := Lib.hid hW0
  have HNN := Lib.hid hN
  have HK := Lib.hid hK
  have HE0 := Lib.hid e0
  obtain ⟨PV, hPV⟩ : ∃ z, printV l = z := ⟨_, rfl⟩
  obtain ⟨GL, hGL⟩ : ∃ z, goodL l = z := ⟨_, rfl⟩
  rw [hPV, hGL]
  have HPV := Lib.hid hPV
  have HGL := Lib.hid hGL
  have HBAD : Hid ((20 < l.length ∨ ∃ t ∈ l, validT t = false) → PV = [] ∧ GL = false) := Lib.hid (fun h => by
    have hg : goodL l = false := by
      rw [Bool.eq_false_iff]
      intro e
      obtain ⟨h1, h2⟩ := (good_iff l).1 e
      rcases h with h | ⟨t, ht, hf⟩
      · omega
      · rw [h2 t ht] at hf; cases hf
    exact ⟨by rw [← hPV]; unfold printV; rw [hg]; rfl, by rw [← hGL]; exact hg⟩)
  clear hv hok hn b0 hW0 e0 hK hPV hGL
  go_enter Tryz.func16, Tryz.ntmps16
  go_upto_region 2 with fail
  rw [HW0.out]
  clear hN
  go_wp2_with fail
  go_loopw [9] (fun iv wr => ∃ k : Nat, iv = .int .i64 k ∧ k ≤ n ∧ Hid (k ≤ 20 ∧ (∀ t ∈ l.take k, validT t = true) ∧ Lib.IsBuilder 61 5 N N (Lib.byteCells (textT (l.take k))) wr ∧ Below N w wr ∧ N < wr.heap.size)) (fun iv _ => n - (intOf iv).toNat)
  case atStart => exact ⟨0, rfl, Nat.zero_le _, Lib.hid ⟨by omega, by simp, HBI.out, HB0.out, by rw [HE0.out]; omega⟩⟩
  case round =>
    obtain ⟨k, rfl, hk, HR⟩ := hrel
    obtain ⟨hk20, hval, hbl, hbw, hNr⟩ := HR.out
    have HVAL := Lib.hid hval
    have HBL := Lib.hid hbl
    have HBW := Lib.hid hbw
    have HKr := Lib.hid (HK.out.below hbw h9)
    clear HR hval hbl hbw
    by_cases hkn : k < n
    · obtain ⟨t, htk⟩ : ∃ t, l[k]? = some t := ⟨_, List.getElem?_eq_getElem (by rw [HLN.out]; exact hkn)⟩
      obtain ⟨b, o, va, rfl, hva, hcells⟩ : ∃ b o va, A = some ⟨b, o, none⟩ ∧ IntsL wr va t.acc ∧ ∀ (j : Nat) x, (termC t va)[j]? = some x → wr.cell? ⟨b, o + k * 5 + j, none⟩ = some x := by
        have hbw0 : Below w.heap.size w wr := by rw [HNN.out]; exact HBW.out
        rcases HV.out with ⟨hnil, _⟩ | ⟨b, o, c', he, hlt, hc⟩
        · rw [hnil] at htk; simp at htk
        · simp only [Value.slice.injEq] at he
          obtain ⟨va, h1, h3⟩ := hc k t htk
          exact ⟨b, o, va, he.1, h1.below hbw0, fun j x hx => (hbw0.cell (p := ⟨b, o + k * 5 + j, none⟩) hlt).trans (h3 j x hx)⟩
      have hokt := HOK.out t (List.mem_of_getElem? htk)
      have HTT := Lib.hid (text_take htk)
      have HTK := Lib.hid htk
      have HLD := Lib.hid hcells
      have HOC := Lib.hid (termC_one t hva)
      have hr1 := RowAt.new wr 28 (termC t va)
      have b1 : Below wr.heap.size wr (wr.alloc (.cells (termC t va) 28)) := (Below.refl _ _).alloc (Nat.le_refl _) _
      have HR1 := Lib.hid hr1
      have HVC := Lib.hid (validC_any t va (wr.alloc (.cells (termC t va) 28)) hokt.1 (hva.below b1) hokt.2)
      have HI1 := Lib.hid (hva.below b1)
      have HB1 := Lib.hid b1
      have HK1 := Lib.hid (HKr.out.mono b1)
      have HBL1 := Lib.hid (bld_below HBL.out b1)
      clear htk hcells hr1 b1 hva
      by_cases hk2 : k = 20
      · subst hk2
        have hbad := HBAD.out (.inl (by rw [HLN.out]; omega))
        obtain ⟨rfl, rfl⟩ := hbad
        have HBW1 := Lib.hid (HBW.out.trans (HB1.out.mono (by omega)))
        go_wp2_with (first | ((with_reducible refine load_term (o := ⟨some 13, _, _, _, _, _⟩) (.tmp 12) b (o + 20 * 5) t va HLD.out ?_ ?_ ?_ ?_); rfl; rfl; rfl) | ((with_reducible refine store_term (o := ⟨none, .store _ _ _, _, _, _, _⟩) (.tmp 6) (.tmp 13) t va _ HOC.out ?_ ?_ ?_ ?_ ?_ ?_); rfl; rfl; rfl; rfl; rfl))
        go_ret2
        exact ⟨rfl, by rw [HNN.out]; exact HBW1.out⟩
      · have d20 : ((k : Int) == 20) = false := by rw [beq_eq_false_iff_ne]; omega
        obtain ⟨q, hq⟩ : ∃ q, validT t = q := ⟨_, rfl⟩
        rw [hq] at HVC
        have HQ := Lib.hid hq
        clear hq
        go_wp2_with (first | ((with_reducible refine load_term (o := ⟨some 13, _, _, _, _, _⟩) (.tmp 12) b (o + k * 5) t va HLD.out ?_ ?_ ?_ ?_); rfl; rfl; rfl) | ((with_reducible refine store_term (o := ⟨none, .store _ _ _, _, _, _, _⟩) (.tmp 6) (.tmp 13) t va _ HOC.out ?_ ?_ ?_ ?_ ?_ ?_); rfl; rfl; rfl; rfl; rfl) | ((with_reducible refine load_trowg (o := ⟨some 17, _, _, _, _, _⟩) (.tmp 6) wr.heap.size (termC t va) HR1.out rfl ?_ ?_ ?_ ?_); rfl; rfl; rfl))
        refine HVC.out.mono ?_
        rintro e w2 ⟨rfl, hb2⟩
        have HR2 := Lib.hid (HR1.out.below hb2 HR1.out.lt)
        have HI2 := Lib.hid (HI1.out.below hb2)
        have HK2 := Lib.hid (HK1.out.mono hb2)
        have HBL2 := Lib.hid (bld_below HBL1.out hb2)
        have HBW2 := Lib.hid ((HBW.out.trans (HB1.out.mono (by omega))).trans (hb2.mono (by simp; omega)))
        have hN2 : N < w2.heap.size := by have := HR2.out.lt; omega
        clear hb2
        cases q
        · have hbad := HBAD.out (.inr ⟨t, List.mem_of_getElem? HTK.out, HQ.out⟩)
          obtain ⟨rfl, rfl⟩ := hbad
          go_wp2_with fail
          go_ret2
          exact ⟨rfl, by rw [HNN.out]; exact HBW2.out⟩
        · have HLI := Lib.hid (line_any t va w2 HK2.out HI2.out HQ.out)
          have hln := line_len HQ.out
          obtain ⟨LT, hLT⟩ : ∃ z, lineT t = z := ⟨_, rfl⟩
          rw [hLT] at HLI hln
          have HLT := Lib.hid hLT
          clear hLT
          unfold strV at HLI
          go_wp2_with ((with_reducible refine load_trow (o := ⟨some 21, _, _, _, _, _⟩) (.tmp 6) wr.heap.size (termC t va) HR2.out rfl ?_ ?_ ?_ ?_); rfl; rfl; rfl)
          refine HLI.out.mono ?_
          rintro e w3 ⟨rfl, hb3⟩
          have HBL3 := Lib.hid (bld_below HBL2.out hb3)
          have HBW3 := Lib.hid (HBW2.out.trans (hb3.mono (by omega)))
          have hN3 : N < w3.heap.size := by have := hb3.size; omega
          have HTL : Hid ((textT (l.take k)).length ≤ 1220) := Lib.hid (by
            have h1 := text_len HVAL.out
            have h2 : (l.take k).length ≤ k := List.length_take_le _ _
            omega)
          have HWS := Lib.hid (writeString_any N N (Lib.byteCells (textT (l.take k))) ⟨LT.toArray⟩ w3 HBL3.out (by have := HTL.out; rw [Lib.byteCells, List.length_map]; show (textT (l.take k)).length + LT.length ≤ _; omega) (by omega))
          clear hb3
          go_wp2_with fail
          refine HWS.out.mono ?_
          rintro e w4 ⟨rfl, hbl4, hb4, _⟩
          have HBL4 := Lib.hid hbl4
          have HBW4 := Lib.hid (HBW3.out.trans hb4)
          have hN4 : N < w4.heap.size := by have := hb4.size; omega
          have HWB := Lib.hid (writeByte_any N N (Lib.byteCells (textT (l.take k)) ++ Lib.strCells ⟨LT.toArray⟩) 10 w4 (.inr HBL4.out) (by have := HTL.out; rw [List.length_append, Lib.byteCells, List.length_map, Lib.strCells_length]; show (textT (l.take k)).length + LT.length + 1 ≤ _; omega) (by omega))
          clear hbl4 hb4
          go_wp2_with fail
          refine HWB.out.mono ?_
          rintro e w5 ⟨rfl, hbl5, hb5, _⟩
          have HEND := Lib.hid (show k + 1 ≤ 20 ∧ (∀ u ∈ l.take (k + 1), validT u = true) ∧ Lib.IsBuilder 61 5 N N (Lib.byteCells (textT (l.take (k + 1)))) w5 ∧ Below N w w5 ∧ N < w5.heap.size from by
            refine ⟨by omega, fun u hu => ?_, .inr ?_, HBW4.out.trans hb5, by have := hb5.size; omega⟩
            · rw [List.take_add_one, HTK.out] at hu
              rcases List.mem_append.1 hu with h | h
              · exact HVAL.out u h
              · simp at h
                rw [h]
                exact HQ.out
            · rw [HTT.out, HLT.out, Lib.byteCells_append, Lib.byteCells_append]
              exact hbl5)
          clear hbl5 hb5
          go_wp2_with fail
          go_roundw
          case rel => exact ⟨k + 1, by go_num, by omega, HEND⟩
          case measure => simp [intOf]; omega
    · obtain rfl : k = n := by omega
      have htake : l.take k = l := List.take_of_length_le (by rw [HLN.out]; exact Nat.le_refl _)
      have hval := HVAL.out
      have hbl := HBL.out
      rw [htake] at hval hbl
      have hgood : goodL l = true := (good_iff l).2 ⟨by rw [HLN.out]; omega, hval⟩
      have HG1 : Hid (GL = true) := Lib.hid (by rw [← HGL.out]; exact hgood)
      have HP1 : Hid (PV = textT l) := Lib.hid (by rw [← HPV.out]; unfold printV; rw [if_pos hgood])
      have HST := Lib.hid (Tryz.Builder_String_any N N (textT l) wr hbl (by omega))
      rw [← HP1.out] at HST
      clear htake hval hbl hgood
      go_wp2_with fail
      refine HST.out.mono ?_
      rintro e w9 ⟨rfl, hb9⟩
      have HB9 := Lib.hid (HBW.out.trans hb9)
      clear hb9
      go_wp2_with fail
      go_ret2
      exact ⟨by rw [HG1.out]; rfl, by rw [HNN.out]; exact HB9.out⟩
end Go.Proofs.YtfiabonacpepnaaGreatDoor
