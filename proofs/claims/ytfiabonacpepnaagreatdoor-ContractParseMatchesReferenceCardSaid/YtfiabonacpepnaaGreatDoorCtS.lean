/- line of a recoup term; line. -/
import Derived.Test.YtfiabonacpepnaaGreatDoorCtR
namespace Go.Proofs.YtfiabonacpepnaaGreatDoor
open Go Go.RowKit Go.Lib Go.Shelf Go.Maps

theorem string_info : (Tryz.prog.info? 9).map (fun i => (i.zero, i.size, i.bytes)) = some (some (.string ⟨#[]⟩), 1, 16) := by kernel_rfl
/-- a list of strings in a block of its own -/
def OwnS (w : World) (base : Nat) (v : Value) (ws : List (List UInt8)) : Prop := w.ownsRow base 9 1 v ws.length (ws.map strV)
theorem OwnS.kept {w w' : World} {base : Nat} {v : Value} {ws : List (List UInt8)} (h : OwnS w base v ws) (ho : ∀ g, base ≤ g → g < w.heap.size → w'.heap[g]? = w.heap[g]?) : OwnS w' base v ws := by
  refine ⟨h.1, ?_⟩
  rcases h.2 with h0 | ⟨g, cap, cur, hv, hb, hg, rest⟩
  · exact .inl h0
  · exact .inr ⟨g, cap, cur, hv, hb, (ho g hb (Array.getElem?_eq_some_iff.1 hg).1).trans hg, rest⟩
theorem words_len {l : List Int} (h : ∀ a ∈ l, 1 ≤ a ∧ a ≤ 1000) (hn : l.length ≤ 10) : (join (kRecoup :: l.map decI) [32]).length ≤ 100 := by
  have key : ∀ l : List Int, (∀ a ∈ l, 1 ≤ a ∧ a ≤ 1000) → (joinTail [32] (l.map decI)).length ≤ l.length * 5 := by
    intro l
    induction l with
    | nil => intro _; simp [joinTail]
    | cons a l ih =>
      intro hl
      have h1 := ih fun b hb => hl b (by simp [hb])
      have h2 := hl a (by simp)
      have h3 := dec_len 3 a.toNat (by omega)
      simp only [joinTail, List.map_cons, List.flatten_cons, List.length_append, List.length_cons, List.length_nil, decI] at h1 ⊢
      omega
  have h1 := key l h
  rw [join_cons, List.length_append]
  have : kRecoup.length = 6 := rfl
  omega
set_option maxRecDepth 100000 in
set_option maxHeartbeats 8000000 in
theorem line_5 (acc : List Int) (va : Value) (w : World) (hK : KAt w) (hv : IntsL w va acc) (hl : acc.length ≤ 10) (ha : ∀ a ∈ acc, 1 ≤ a ∧ a ≤ 1000) :
    Calls Tryz.prog 34 #[.agg #[.int .i64 5, .int .i64 0, .int .i64 0, .int .i64 0, va]] w fun e w' => e = .returned (strV (join (kRecoup :: acc.map decI) [32])) ∧ Below w.heap.size w w' := by
  obtain ⟨A, c, rfl⟩ := hv.slice
  have HJL := Lib.hid (words_len ha hl)
  have HV := Lib.hid hv
  have HA := Lib.hid ha
  obtain ⟨m, hm⟩ : ∃ m, acc.length = m := ⟨_, rfl⟩
  rw [hm] at hl ⊢
  have HM := Lib.hid hm
  have hr := RowAt.new w 28 #[.int .i64 5, .int .i64 0, .int .i64 0, .int .i64 0, .slice A m c]
  have b0 : Below w.heap.size w (w.alloc (.cells #[.int .i64 5, .int .i64 0, .int .i64 0, .int .i64 0, .slice A m c] 28)) := (Below.refl _ _).alloc (Nat.le_refl _) _
  obtain ⟨N, hN⟩ : ∃ z, w.heap.size = z := ⟨_, rfl⟩
  have h9 : 9 ≤ N := by rw [← hN]; exact hK.lt
  rw [hN] at hr b0
  have e0 : (w.alloc (.cells #[.int .i64 5, .int .i64 0, .int .i64 0, .int .i64 0, .slice A m c] 28)).heap.size = N + 1 := by rw [← hN]; simp
  have r1 := RowAt.new (w.alloc (.cells #[.int .i64 5, .int .i64 0, .int .i64 0, .int .i64 0, .slice A m c] 28)) 9 #[strV kRecoup]
  have b1 := b0.alloc (by omega) (.cells #[strV kRecoup] 9)
  have r0 := hr.alloc (.cells #[strV kRecoup] 9)
  rw [e0] at r1
  obtain ⟨W1, hW1⟩ : ∃ z, (w.alloc (.cells #[.int .i64 5, .int .i64 0, .int .i64 0, .int .i64 0, .slice A m c] 28)).alloc (.cells #[strV kRecoup] 9) = z := ⟨_, rfl⟩
  rw [hW1] at r1 b1 r0
  have HOW : Hid (OwnS W1 N (.slice (some ⟨N + 1, 0, none⟩) 1 1) [kRecoup]) := Lib.hid ⟨by simp, .inr ⟨N + 1, 1, #[strV kRecoup], rfl, by omega, r1, by simp, by unfold maxLen; omega, rfl, rfl⟩⟩
  have HR0 := Lib.hid r0
  have HB1 := Lib.hid b1
  have HW1 := Lib.hid hW1
  have HNN := Lib.hid hN
  have HK := Lib.hid hK
  have c4 : W1.cell? ⟨N, 4, none⟩ = some (.slice A m c) := r0.cell 4
  obtain ⟨JJ, hJJ⟩ : ∃ z, join (kRecoup :: acc.map decI) [32] = z := ⟨_, rfl⟩
  have HJJ := Lib.hid hJJ
  rw [hJJ]
  clear hr b0 e0 r1 b1 r0 hW1 hK hv ha hm hJJ
  unfold strV kRecoup at HW1
  go_enter Tryz.func34, Tryz.ntmps34
  go_upto_region 15 with fail
  rw [HW1.out]
  clear hN
  go_wp2_with fail
  go_loopw [5, 63] (fun ov iv wr => ∃ k : Nat, iv = .int .i64 k ∧ k ≤ m ∧ Hid (OwnS wr N ov (kRecoup :: (acc.take k).map decI) ∧ Below N w wr ∧ N ≤ wr.heap.size)) (fun _ iv _ => m - (intOf iv).toNat)
  case atStart => exact ⟨0, rfl, Nat.zero_le _, Lib.hid ⟨HOW.out, HB1.out, by have := HR0.out.lt; omega⟩⟩
  case round =>
    obtain ⟨k, rfl, hk, HR⟩ := hrel
    have hbw := HR.out.2.1
    have hNr := HR.out.2.2
    have HKr := Lib.hid (HK.out.below hbw h9)
    have HOWN := Lib.hid HR.out.1
    have HBW := Lib.hid hbw
    clear HR hbw
    by_cases hkm : k < m
    · obtain ⟨a, hak⟩ : ∃ a, acc[k]? = some a := ⟨_, List.getElem?_eq_getElem (by rw [HM.out]; exact hkm)⟩
      have hts : acc.take (k + 1) = acc.take k ++ [a] := by rw [List.take_add_one, hak]; rfl
      obtain ⟨b, o, rfl, hca⟩ : ∃ b o, A = some ⟨b, o, none⟩ ∧ wr.cell? ⟨b, o + k, none⟩ = some (.int .i64 a) := by
        rcases HV.out with ⟨hnil, _⟩ | ⟨b, o, c', he, hlt, hc⟩
        · rw [hnil] at hak; simp at hak
        · simp only [Value.slice.injEq] at he
          exact ⟨b, o, he.1, (HBW.out.cell (p := ⟨b, o + k, none⟩) (by rw [← HNN.out]; exact hlt)).trans (hc k a hak)⟩
      have hab := HA.out a (List.mem_of_getElem? hak)
      obtain ⟨x, rfl⟩ := Int.eq_ofNat_of_zero_le (show 0 ≤ a by omega)
      have HIT : Hid (∀ W, KAt W → Calls Tryz.prog 64 #[.int .i64 (x : Int)] W fun e w' => e = .returned (strV (decDigits x)) ∧ Below W.heap.size W w') := Lib.hid (fun W h => itoa_any x W h (by omega))
      have HTS := Lib.hid hts
      clear hak hts
      unfold strV at HIT
      obtain ⟨D, hD⟩ : ∃ D, decDigits x = D := ⟨_, rfl⟩
      rw [hD] at HIT
      have HDD := Lib.hid hD
      clear hD
      go_wp2_with fail
      refine (HIT.out _ HKr.out).mono ?_
      rintro e w2 ⟨rfl, hb2⟩
      have hN2 : N ≤ w2.heap.size := by have := hb2.size; omega
      have HOW2 := Lib.hid (HOWN.out.kept fun g _ h2 => hb2.block g h2)
      have HBW2 := Lib.hid (HBW.out.trans (hb2.mono hNr))
      clear hb2 hca
      go_wp2_with ((with_reducible refine wpList_stop (o := ⟨some 71, _, _, _, _, _⟩) ?_))
      unfold Stop
      obtain ⟨i0, hi, hz0, hz1, hz2⟩ := info_parts string_info
      have b8 : Below w2.heap.size w2 (w2.alloc (.cells #[.string ⟨D.toArray⟩] 9)) := (Below.refl _ _).alloc (Nat.le_refl _) _
      have ow8 : OwnS (w2.alloc (.cells #[.string ⟨D.toArray⟩] 9)) N u5 (kRecoup :: (acc.take k).map decI) := HOW2.out.kept fun g _ h2 => b8.block g h2
      have hlw : (kRecoup :: (acc.take k).map decI).length ≤ 11 := by simp; omega
      refine wpList_append_own _ rfl (.tmp 67) (.tmp 70) 37 rfl N 9 i0 _ 1 16 Tryz.underlying37 hi hz0 hz1 hz2 rfl (by decide) u5 _ _ rfl ow8 ⟨w2.heap.size, 0, none⟩ 1 1 [.string ⟨D.toArray⟩] rfl rfl ?_ ?_ ?_ ?_ ?_ ?_
      · intro j u hj
        rw [addr_add, (RowAt.new w2 9 #[.string ⟨D.toArray⟩]).cell j, ← hj]
        simp
      · intro u hu
        simp at hu
        subst hu
        rfl
      · unfold maxLen; omega
      · omega
      · simp; omega
      intro v9 w9 hown9 hg9 _
      have HEND := Lib.hid (show OwnS w9 N v9 (kRecoup :: (acc.take (k + 1)).map decI) ∧ Below N w w9 ∧ N ≤ w9.heap.size from by
        refine ⟨?_, ?_, ?_⟩
        · rw [HTS.out, List.map_append, ← List.cons_append]
          unfold OwnS
          rw [List.length_append, List.map_append]
          have e : [((x : Int) : Int)].map decI = [D] := by rw [← HDD.out]; rfl
          rw [e]
          exact hown9
        · exact (HBW2.out.trans (b8.mono hN2)).grown hg9 (by simp; omega) (fun j e => (World.ownsRow.lt ow8 j e).1)
        · have := hg9.size; simp at this; omega)
      clear hown9 hg9 ow8 b8 hi hz0 hz1 hz2
      go_wp2_with fail
      go_roundw
      case rel => exact ⟨k + 1, by go_num, by omega, HEND⟩
      case measure => simp [intOf]; omega
    · obtain rfl : k = m := by omega
      have how := HOWN.out
      rw [List.take_of_length_le (by rw [HM.out]; exact Nat.le_refl _)] at how
      have HLN : Hid ((kRecoup :: acc.map decI).length = k + 1) := Lib.hid (by simp; exact HM.out)
      obtain ⟨g, cap, hu5, hle, hlt, hcells⟩ : ∃ g cap, u5 = .slice (some ⟨g, 0, none⟩) (kRecoup :: acc.map decI).length cap ∧ (kRecoup :: acc.map decI).length ≤ cap ∧ g < wr.heap.size ∧ ∀ (j : Nat) x, (kRecoup :: acc.map decI)[j]? = some x → wr.cell? ⟨g, 0 + j, none⟩ = some (strV x) := by
        rcases how.2 with ⟨_, h0⟩ | ⟨g, cap, cur, h1, _, hg, hle, _⟩
        · simp at h0
        · refine ⟨g, cap, h1, hle, (Array.getElem?_eq_some_iff.1 hg).1, fun j x hx => ?_⟩
          subst h1
          have := how.cellAt j (by have := (List.getElem?_eq_some_iff.1 hx).1; omega)
          rw [Nat.zero_add, this, List.getElem?_map, hx]
          rfl
      have HJ := Lib.hid (join_any g 0 cap (kRecoup :: acc.map decI) wr hcells hlt hle (by rw [HLN.out]; omega) (by have := HJL.out; omega))
      rw [HLN.out, HJJ.out] at HJ
      rw [HLN.out] at hu5
      subst hu5
      unfold strV at HJ
      clear how hcells hle hlt
      go_wp2_with fail
      refine HJ.out.mono ?_
      rintro e w9 ⟨rfl, hb9⟩
      have HB9 := Lib.hid (HBW.out.trans (hb9.mono hNr))
      clear hb9
      go_wp2_with fail
      go_ret
      exact ⟨rfl, by rw [HNN.out]; exact HB9.out⟩
theorem line_any (t : TermV) (va : Value) (w : World) (hK : KAt w) (hv : IntsL w va t.acc) (h : validT t = true) :
    Calls Tryz.prog 34 #[.agg (termC t va)] w fun e w' => e = .returned (strV (lineT t)) ∧ Below w.heap.size w w' := by
  obtain ⟨k, n, m, ab, acc⟩ := t
  have hc := validT_cases h
  dsimp only at hc hv
  unfold termC lineT wordsT
  dsimp only
  rcases hc with ⟨rfl, h2, h3, rfl, h5, h6, h7, h8⟩ | ⟨rfl, h2, h3, rfl, rfl, rfl⟩ | ⟨rfl, h2, h3, rfl, h5, h6, rfl⟩ | ⟨rfl, h2, h3, rfl, rfl, rfl⟩ | ⟨rfl, rfl, rfl, rfl, h5, h6, h7, h8⟩
  · obtain ⟨a', rfl⟩ := Int.eq_ofNat_of_zero_le h7
    have e := line_1 n m a' va w hK h2 h3 h5 h6 (by omega)
    rw [if_pos rfl]
    have hab : (if (0 : Int) < (a' : Int) then [kAbove, decI (a' : Int)] else []) = (if 0 < a' then [kAbove, decDigits a'] else []) := by
      by_cases h0 : 0 < a'
      · rw [if_pos h0, if_pos (by omega)]; rfl
      · rw [if_neg h0, if_neg (by omega)]
    rw [hab]
    exact e
  · obtain ⟨n', rfl⟩ := Int.eq_ofNat_of_zero_le (show 0 ≤ n by omega)
    rw [if_neg (by decide), if_pos rfl]
    exact line_2 n' va w hK (by omega)
  · rw [if_neg (by decide), if_neg (by decide), if_pos rfl]
    exact line_3 n m va w hK h2 h3 h5 (by omega)
  · obtain ⟨n', rfl⟩ := Int.eq_ofNat_of_zero_le (show 0 ≤ n by omega)
    rw [if_neg (by decide), if_neg (by decide), if_neg (by decide), if_pos rfl]
    exact line_4 n' va w hK (by omega)
  · rw [if_neg (by decide), if_neg (by decide), if_neg (by decide), if_neg (by decide)]
    exact line_5 acc va w hK hv h6 h7
end Go.Proofs.YtfiabonacpepnaaGreatDoor
