/- few of the statements' package. -/
import Derived.Test.YtfiabonacpepnaaGreatDoorCtE
namespace Go.Proofs.YtfiabonacpepnaaGreatDoor
open Go Go.RowKit Go.Lib Go.Shelf Go.Maps

/-- as TermsAt; each accounts' slice lies within its capacity -/
def TermsIn (w : World) (v : Value) (l : List TermV) : Prop :=
  (l = [] ∧ ∃ A c, v = .slice A 0 c) ∨ ∃ b o c, v = .slice (some ⟨b, o, none⟩) l.length c ∧ b < w.heap.size ∧ ∀ (i : Nat) t, l[i]? = some t → ∃ A c, IntsL w (.slice A t.acc.length c) t.acc ∧ t.acc.length ≤ c ∧ ∀ (j : Nat) x, (termC t (.slice A t.acc.length c))[j]? = some x → w.cell? ⟨b, o + i * 5 + j, none⟩ = some x
theorem TermsIn.slice {w : World} {v : Value} {l : List TermV} (h : TermsIn w v l) : ∃ A c, v = .slice A l.length c := by
  rcases h with ⟨rfl, A, c, rfl⟩ | ⟨b, o, c, rfl, _⟩
  · exact ⟨A, c, rfl⟩
  · exact ⟨_, c, rfl⟩
def tCells (L : List (TermV × Value)) : List Value := L.flatMap fun p => (termC p.1 p.2).toList
theorem termC_size (t : TermV) (v : Value) : (termC t v).size = 5 := rfl
theorem tCells_len (L : List (TermV × Value)) : (tCells L).length = L.length * 5 := by
  unfold tCells
  induction L with
  | nil => rfl
  | cons p L ih => rw [List.flatMap_cons, List.length_append, List.length_cons, ih, Array.length_toList, termC_size]; omega
theorem tCells_app (L : List (TermV × Value)) (p : TermV × Value) : tCells (L ++ [p]) = tCells L ++ (termC p.1 p.2).toList := by simp [tCells]
theorem tCells_get (L : List (TermV × Value)) : ∀ (i : Nat) p, L[i]? = some p → ∀ j x, (termC p.1 p.2)[j]? = some x → (tCells L)[i * 5 + j]? = some x := by
  induction L with
  | nil => intro i p h; simp at h
  | cons z L ih =>
    intro i p h j x hx
    have e : tCells (z :: L) = (termC z.1 z.2).toList ++ tCells L := rfl
    have hj : j < 5 := by
      have := (Array.getElem?_eq_some_iff.1 hx).1
      rw [termC_size] at this; exact this
    cases i with
    | zero =>
      simp at h
      subst h
      rw [e, Nat.zero_mul, Nat.zero_add, List.getElem?_append_left (by rw [Array.length_toList, termC_size]; exact hj), Array.getElem?_toList]
      exact hx
    | succ i =>
      rw [e, List.getElem?_append_right (by rw [Array.length_toList, termC_size]; omega), Array.length_toList, termC_size, show (i + 1) * 5 + j - 5 = i * 5 + j by omega]
      exact ih i p (by simpa using h) j x hx
/-- a list of terms in a block of its own, the accounts in blocks of their own -/
structure OwnT (w : World) (base : Nat) (v : Value) (L : List (TermV × Value)) : Prop where
  own : w.ownsRow base 28 5 v L.length (tCells L)
  acc : ∀ p ∈ L, OwnI 3 1 w base p.2 (p.1.acc.map fun a => [a])
theorem ints_of_rows {w : World} {v : Value} {l : List Int} (h : IRows 1 w v (l.map fun a => [a])) : IntsL w v l := by
  rcases h.2 with ⟨h1, A, c, e⟩ | ⟨b, o, c, e, hlt, hc⟩
  · exact .inl ⟨by simpa using h1, A, c, e⟩
  · rw [List.length_map] at e
    refine .inr ⟨b, o, c, e, hlt, fun i x hx => ?_⟩
    have := hc i [x] (by rw [List.getElem?_map, hx]; rfl) 0 x rfl
    simpa using this
theorem rows_of_ints {w : World} {A : Option Addr} {n c : Nat} {l : List Int} (h : IntsL w (.slice A n c) l) (m : Nat) (hm : m ≤ n) : IRows 1 w (.slice A m c) ((l.take m).map fun a => [a]) := by
  refine ⟨fun r hr => by obtain ⟨a, _, rfl⟩ := List.mem_map.1 hr; rfl, ?_⟩
  rcases h with ⟨rfl, A', c', e⟩ | ⟨b, o, c', e, hlt, hc⟩
  · simp only [Value.slice.injEq] at e
    have : m = 0 := by omega
    subst this
    exact .inl ⟨rfl, A, c, rfl⟩
  · simp only [Value.slice.injEq] at e
    obtain ⟨rfl, rfl, rfl⟩ := e
    refine .inr ⟨b, o, c, by rw [List.length_map, List.length_take, Nat.min_eq_left hm], hlt, fun i r hr j x hx => ?_⟩
    rw [List.getElem?_map] at hr
    cases hl : (l.take m)[i]? with
    | none => rw [hl] at hr; cases hr
    | some a =>
      rw [hl] at hr
      simp at hr
      subst hr
      have hj : j = 0 := by
        have := (List.getElem?_eq_some_iff.1 hx).1
        simp at this; omega
      subst hj
      simp at hx
      subst hx
      rw [List.getElem?_take] at hl
      split at hl
      · have := hc i a hl
        simpa using this
      · cases hl
theorem OwnT.terms {w : World} {base : Nat} {v : Value} {L : List (TermV × Value)} (h : OwnT w base v L) : TermsAt w v (L.map (·.1)) := by
  rcases h.own.2 with ⟨rfl, hn⟩ | ⟨g, cap, cur, rfl, _, hg, hnc, _, hcs, ht⟩
  · exact .inl ⟨by rw [List.length_eq_zero_iff.1 hn]; rfl, none, 0, rfl⟩
  · refine .inr ⟨g, 0, cap, by rw [List.length_map], (Array.getElem?_eq_some_iff.1 hg).1, fun i t hi => ?_⟩
    rw [List.getElem?_map] at hi
    cases hl : L[i]? with
    | none => rw [hl] at hi; cases hi
    | some p =>
      rw [hl] at hi
      simp at hi
      subst hi
      refine ⟨p.2, ints_of_rows (h.acc p (List.mem_of_getElem? hl)).rows, fun j x hx => ?_⟩
      have h1 := tCells_get L i p hl j x hx
      rw [← ht] at h1
      rw [cell_of_row _ _ _ _ _ _ hg, Nat.zero_add, ← Array.getElem?_toList]
      rw [List.getElem?_take] at h1
      split at h1
      · exact h1
      · cases h1
/-- what few keeps of a term -/
def cutT (t : TermV) : TermV := { t with acc := t.acc.take 12 }
def fewT (l : List TermV) : List TermV := (l.take 25).map cutT
theorem int_info : (Tryz.prog.info? 3).map (fun i => (i.zero, i.size, i.bytes)) = some (some (.int .i64 0), 1, 8) := by kernel_rfl
theorem term_info : (Tryz.prog.info? 28).map (fun i => (i.zero, i.size, i.bytes)) = some (some (.agg #[.int .i64 0, .int .i64 0, .int .i64 0, .int .i64 0, .slice none 0 0]), 5, 56) := by kernel_rfl
theorem OwnT.kept {w w' : World} {base : Nat} {v : Value} {L : List (TermV × Value)} (h : OwnT w base v L) (ho : ∀ g, base ≤ g → g < w.heap.size → w'.heap[g]? = w.heap[g]?) : OwnT w' base v L := by
  refine ⟨⟨h.own.1, ?_⟩, fun p hp => (h.acc p hp).kept fun g hg => ho g ((h.acc p hp).lt g hg).1 ((h.acc p hp).lt g hg).2⟩
  rcases h.own.2 with h0 | ⟨g, cap, cur, hv, hbg, hg, rest⟩
  · exact .inl h0
  · exact .inr ⟨g, cap, cur, hv, hbg, (ho g hbg (Array.getElem?_eq_some_iff.1 hg).1).trans hg, rest⟩
theorem OwnT.slice3 {w : World} {base : Nat} {v : Value} {L : List (TermV × Value)} (h : OwnT w base v L) : ∃ A n c, v = .slice A n c := by
  rcases h.own.2 with ⟨rfl, _⟩ | ⟨g, cap, cur, rfl, _⟩
  · exact ⟨_, _, _, rfl⟩
  · exact ⟨_, _, _, rfl⟩
theorem acc_kept {w w' : World} {base base' : Nat} {v va : Value} {n : Nat} {xs : List Value} {R : List (List Int)} (h : OwnI 3 1 w base va R) (hv : w.ownsRow base' 28 5 v n xs) (hg : w.grownBy w' v.ownBlock) : OwnI 3 1 w' base va R := by
  refine h.kept fun g hgb => hg.block g (h.lt g hgb).2 fun e => ?_
  rcases h.2.2 with ⟨e0, _⟩ | ⟨g1, cap, cur, e0, _, hh, _⟩
  · rw [e0] at hgb; simp [Value.ownBlock] at hgb
  · rcases hv.2 with ⟨e1, _⟩ | ⟨g2, cap', cur', e1, _, hh', _⟩
    · rw [e1] at e; simp [Value.ownBlock] at e
    · rw [e0] at hgb
      rw [e1] at e
      simp [Value.ownBlock] at hgb e
      subst hgb e
      rw [hh] at hh'
      simp at hh'
set_option maxRecDepth 100000 in
set_option maxHeartbeats 4000000 in
theorem few_big (A : Option Addr) (n c : Nat) (l : List TermV) (w : World) (ht : TermsIn w (.slice A n c) l) (hn : l.length = n) (hl : n ≤ 9223372036854775807) (hok : ∀ t ∈ l, t.acc.length ≤ 9223372036854775807) :
    Calls Tryz.prog 13 #[.slice A n c] w fun e w' => ∃ v L, e = .returned v ∧ L.map (·.1) = fewT l ∧ OwnT w' w.heap.size v L ∧ Below w.heap.size w w' := by
  have HT := Lib.hid ht
  have HN := Lib.hid hn
  have HOK := Lib.hid hok
  clear ht hn hok
  obtain ⟨B, hB⟩ : ∃ z, w.heap.size = z := ⟨_, rfl⟩
  have HB := Lib.hid hB
  rw [hB]
  clear hB
  go_enter Tryz.func13, Tryz.ntmps13
  go_wp2_with fail
  go_loopw [3, 4] (fun ov iv wr => ∃ (k : Nat) (L : List (TermV × Value)), k ≤ n ∧ k ≤ 25 ∧ iv = .int .i64 k ∧ Hid (L.map (·.1) = (l.take k).map cutT ∧ OwnT wr B ov L ∧ Below B w wr)) (fun _ i _ => n - (intOf i).toNat)
  case atStart => exact ⟨0, [], by omega, by omega, rfl, Lib.hid ⟨rfl, ⟨World.ownsRow_nil _ _ _ _, by simp⟩, Below.refl _ _⟩⟩
  case round =>
    obtain ⟨k, L, hk, hk12, rfl, HR⟩ := hrel
    obtain ⟨hL, how, hbw⟩ := HR.out
    clear HR
    by_cases hkn : k < n
    · by_cases hk2 : k < 25
      · have d12 : decide ((k : Int) < 25) = true := by simp; omega
        obtain ⟨t, htk⟩ : ∃ t, l[k]? = some t := ⟨_, List.getElem?_eq_getElem (by rw [HN.out]; exact hkn)⟩
        have hLL : L.length = k := by
          have := congrArg List.length hL
          rw [List.length_map, List.length_map, List.length_take] at this
          have := HN.out
          omega
        have hbw0 : Below w.heap.size w wr := by rw [HB.out]; exact hbw
        obtain ⟨b, o, Aa, ca, hA, hva, hac, hcells⟩ : ∃ b o Aa ca, A = some ⟨b, o, none⟩ ∧ IntsL wr (.slice Aa t.acc.length ca) t.acc ∧ t.acc.length ≤ ca ∧ ∀ (j : Nat) x, (termC t (.slice Aa t.acc.length ca))[j]? = some x → wr.cell? ⟨b, o + k * 5 + j, none⟩ = some x := by
          rcases HT.out with ⟨hnil, _⟩ | ⟨b, o, c', he, hlt, hc⟩
          · rw [hnil] at htk; simp at htk
          · simp only [Value.slice.injEq] at he
            obtain ⟨Aa, ca, h1, h2, h3⟩ := hc k t htk
            exact ⟨b, o, Aa, ca, he.1, h1.below hbw0, h2, fun j x hx => (hbw0.cell (p := ⟨b, o + k * 5 + j, none⟩) hlt).trans (h3 j x hx)⟩
        subst hA
        have hal := HOK.out t (List.mem_of_getElem? htk)
        have hcut : (l.take (k + 1)).map cutT = (l.take k).map cutT ++ [cutT t] := by rw [List.take_add_one, htk, List.map_append]; rfl
        obtain ⟨xk, xn, xm, xa, acc⟩ := t
        dsimp only at hva hac hcells hal hcut
        obtain ⟨m, hm⟩ : ∃ m, acc.length = m := ⟨_, rfl⟩
        rw [hm] at hac hva hcells hal
        obtain ⟨m6, hm6⟩ : ∃ z, min m 12 = z := ⟨_, rfl⟩
        have h6a : m6 ≤ m := by omega
        have h6b : m6 ≤ 12 := by omega
        have h6c : m6 ≤ ca := by omega
        have hmin : (if 12 < (m : Int) then 12 else (m : Int)) = (m6 : Int) := by split <;> omega
        have htk6 : acc.take m6 = acc.take 12 := by
          rcases Nat.lt_or_ge 12 m with h | h
          · rw [show m6 = 12 by omega]
          · rw [show m6 = m by omega, ← hm, List.take_length, List.take_of_length_le (by omega)]
        have hrows := rows_of_ints hva m6 h6a
        rw [htk6] at hrows
        have HROWS := Lib.hid hrows
        have HLD := Lib.hid hcells
        have HOC := Lib.hid (show (termC ⟨xk, xn, xm, xa, acc⟩ (.slice Aa m ca)).all (·.oneCell') = true from by kernel_rfl)
        have HOW := Lib.hid how
        have HBW := Lib.hid hbw
        have HL := Lib.hid hL
        have HCUT := Lib.hid hcut
        have hBs : B ≤ wr.heap.size := by rw [← HB.out]; exact hbw.size
        clear hL how hbw htk hbw0 hva hcells hcut hm hm6 htk6 hrows
        go_wp2_with (first | ((with_reducible refine load_term (o := ⟨some 19, _, _, _, _, _⟩) (.tmp 18) b (o + k * 5) ⟨xk, xn, xm, xa, acc⟩ (.slice Aa m ca) HLD.out ?_ ?_ ?_ ?_); rfl; rfl; rfl) | ((with_reducible refine store_term (o := ⟨none, .store _ _ _, _, _, _, _⟩) (.tmp 5) (.tmp 19) ⟨xk, xn, xm, xa, acc⟩ (.slice Aa m ca) _ HOC.out ?_ ?_ ?_ ?_ ?_ ?_); rfl; rfl; rfl; rfl; rfl) | ((with_reducible refine wpList_stop (o := ⟨some 20, _, _, _, _, _⟩) ?_)))
        unfold Stop
        obtain ⟨W5, hW5⟩ : ∃ z, wr.alloc (.cells (termC ⟨xk, xn, xm, xa, acc⟩ (.slice Aa m ca)) 28) = z := ⟨_, rfl⟩
        have b5 : Below wr.heap.size wr W5 := by rw [← hW5]; exact (Below.refl _ _).alloc (Nat.le_refl _) _
        have r5 : RowAt W5 wr.heap.size 28 #[.int .i64 xk, .int .i64 xn, .int .i64 xm, .int .i64 xa, .slice Aa m ca] := by rw [← hW5]; exact RowAt.new wr _ _
        rw [hW5]
        clear hW5
        have c54 : W5.cell? ⟨wr.heap.size, 4, none⟩ = some (.slice Aa m ca) := r5.cell 4
        have h5lt : wr.heap.size < W5.heap.size := r5.lt
        have HR5 := Lib.hid r5
        have HB5 := Lib.hid b5
        clear r5 b5
        go_wp2_with (first | ((with_reducible refine wpList_build_zero (o := ⟨some 20, _, _, _, _, _⟩) Tryz.underlying26 int_info ?_ ?_ ?_); rfl; rfl) | ((with_reducible refine wpList_stop (o := ⟨some 28, _, _, _, _, _⟩) ?_)))
        unfold Stop
        have b6 : Below W5.heap.size W5 (W5.alloc (.cells #[] 3)) := (Below.refl _ _).alloc (Nat.le_refl _) _
        refine wpList_append_irows Tryz.underlying26 int_info rfl (by decide) (by decide) (.tmp 20) (.tmp 27) W5.heap.size [] ((acc.take 12).map fun a => [a]) _ _ (own_zero _ _ _) ((HROWS.out.below HB5.out).below b6) ?_ ?_ ?_ ?_ ?_ ?_ ?_
        · simp; omega
        · simp
        · rfl
        · rfl
        · rfl
        · rfl
        intro v8 w6 hown8 hg8
        obtain ⟨A8, n8, c8, rfl⟩ := hown8.slice3
        have b56 : Below W5.heap.size W5 w6 := b6.grown hg8 (by simp) (fun j e => by simp [Value.ownBlock] at e; omega)
        have hown8' : OwnI 3 1 w6 W5.heap.size (.slice A8 n8 c8) ((acc.take 12).map fun a => [a]) := hown8
        have r6 := HR5.out.below b56 HR5.out.lt
        have c64 : w6.cell? ⟨wr.heap.size, 4, none⟩ = some (.slice Aa m ca) := r6.cell 4
        have f64 : w6.frozen? ⟨wr.heap.size, 4, none⟩ = false := r6.free 4
        have HR6 := Lib.hid r6
        have HO8 := Lib.hid hown8'
        have HB56 := Lib.hid b56
        clear hown8 hg8 b6 hown8' r6 b56 c54
        go_wp2_with (first | ((with_reducible refine wpList_stop (o := ⟨some 31, _, _, _, _, _⟩) ?_)))
        unfold Stop
        obtain ⟨W7, hW7⟩ : ∃ z, w6.setCell ⟨wr.heap.size, 4, none⟩ (.slice A8 n8 c8) = z := ⟨_, rfl⟩
        have r7 : RowAt W7 wr.heap.size 28 #[.int .i64 xk, .int .i64 xn, .int .i64 xm, .int .i64 xa, .slice A8 n8 c8] := by rw [← hW7]; exact HR6.out.set 4 _
        have ho7 : ∀ g, g ≠ wr.heap.size → W7.heap[g]? = w6.heap[g]? := fun g hg => by rw [← hW7]; exact Below.heap_setCell w6 ⟨wr.heap.size, 4, none⟩ _ g hg
        have b7 : Below wr.heap.size wr W7 := by
          rw [← hW7]
          exact (HB5.out.trans (HB56.out.mono (by omega))).setCell (p := ⟨wr.heap.size, 4, none⟩) (Nat.le_refl _) _
        have o87 : OwnI 3 1 W7 B (.slice A8 n8 c8) ((acc.take 12).map fun a => [a]) := (HO8.out.kept fun g hg => ho7 g (by have := (HO8.out.lt g hg).1; omega)).mono (by omega)
        have ow7 : OwnT W7 B u3 L := HOW.out.kept fun g h1 h2 => b7.block g h2
        rw [hW7]
        clear hW7 ho7 c64 f64
        have c70 : W7.cell? ⟨wr.heap.size, 0, none⟩ = some (.int .i64 xk) := r7.cell 0
        have c71 : W7.cell? ⟨wr.heap.size, 1, none⟩ = some (.int .i64 xn) := r7.cell 1
        have c72 : W7.cell? ⟨wr.heap.size, 2, none⟩ = some (.int .i64 xm) := r7.cell 2
        have c73 : W7.cell? ⟨wr.heap.size, 3, none⟩ = some (.int .i64 xa) := r7.cell 3
        have c74 : W7.cell? ⟨wr.heap.size, 4, none⟩ = some (.slice A8 n8 c8) := r7.cell 4
        have HB7 := Lib.hid (HBW.out.trans (b7.mono hBs))
        have HOW7 := Lib.hid ow7
        have HO87 := Lib.hid o87
        have h7B : B ≤ W7.heap.size := by have := b7.size; omega
        clear b7 ow7 o87 r7 HR6 HO8 HB56 HR5 HB5
        go_wp2_with (first | ((with_reducible refine wpList_stop (o := ⟨some 33, _, _, _, _, _⟩) ?_)))
        unfold Stop
        obtain ⟨i0, hi, hz0, hz1, hz2⟩ := info_parts term_info
        have b8 : Below W7.heap.size W7 (W7.alloc (.cells #[.int .i64 xk, .int .i64 xn, .int .i64 xm, .int .i64 xa, .slice A8 n8 c8] 28)) := (Below.refl _ _).alloc (Nat.le_refl _) _
        have ow8 : OwnT (W7.alloc (.cells #[.int .i64 xk, .int .i64 xn, .int .i64 xm, .int .i64 xa, .slice A8 n8 c8] 28)) B u3 L := HOW7.out.kept fun g h1 h2 => b8.block g h2
        have o88 := HO87.out.below b8
        refine wpList_append_own _ rfl (.tmp 30) (.tmp 32) 22 rfl B 28 i0 _ 5 56 Tryz.underlying22 hi hz0 hz1 hz2 rfl (by decide) u3 L.length (tCells L) rfl ow8.own ⟨W7.heap.size, 0, none⟩ 1 1 (termC ⟨xk, xn, xm, xa, acc.take 12⟩ (.slice A8 n8 c8)).toList rfl rfl ?_ ?_ ?_ ?_ ?_ ?_
        · intro j u hj
          rw [addr_add, (RowAt.new W7 28 _).cell j, ← hj]
          simp [termC]
        · intro u hu
          have : (termC ⟨xk, xn, xm, xa, acc.take 12⟩ (.slice A8 n8 c8)).all (·.oneCell') = true := by kernel_rfl
          rw [← Array.all_toList, List.all_eq_true] at this
          exact this u hu
        · unfold maxLen; omega
        · omega
        · simp; omega
        intro v9 w9 hown9 hg9 _
        have HEND := Lib.hid (show (L ++ [((⟨xk, xn, xm, xa, acc.take 12⟩ : TermV), Value.slice A8 n8 c8)]).map (·.1) = (l.take (k + 1)).map cutT ∧ OwnT w9 B v9 (L ++ [((⟨xk, xn, xm, xa, acc.take 12⟩ : TermV), Value.slice A8 n8 c8)]) ∧ Below B w w9 from by
          refine ⟨by rw [HCUT.out, ← HL.out]; simp [cutT], ⟨?_, ?_⟩, ?_⟩
          · rw [tCells_app, List.length_append]
            exact hown9
          · intro p hp
            rcases List.mem_append.1 hp with h | h
            · exact acc_kept (ow8.acc p h) ow8.own hg9
            · rw [List.mem_singleton.1 h]
              exact acc_kept o88 ow8.own hg9
          · exact (HB7.out.trans (b8.mono h7B)).grown hg9 (by have := HB7.out.size; have := b8.size; omega) (fun j e => (World.ownsRow.lt ow8.own j e).1))
        clear hown9 hg9 ow8 o88 b8 hi hz0 hz1 hz2
        go_wp2_with fail
        go_roundw
        case rel => exact ⟨k + 1, _, by omega, by omega, by go_num, HEND⟩
        case measure => simp [intOf]; omega
      · have d12 : decide ((k : Int) < 25) = false := by simp; omega
        have HEND := Lib.hid (show L.map (·.1) = fewT l from by rw [hL]; unfold fewT; rw [show k = 25 by omega])
        have HOW := Lib.hid how
        have HBW := Lib.hid hbw
        clear hL how hbw
        go_wp2_with fail
        go_ret
        exact ⟨_, L, rfl, HEND.out, HOW.out, HBW.out⟩
    · have HEND := Lib.hid (show L.map (·.1) = fewT l from by rw [hL]; unfold fewT; rw [show k = l.length by rw [HN.out]; omega, List.take_length, List.take_of_length_le (by rw [HN.out]; omega)])
      have HOW := Lib.hid how
      have HBW := Lib.hid hbw
      clear hL how hbw
      go_wp2_with fail
      go_ret
      exact ⟨_, L, rfl, HEND.out, HOW.out, HBW.out⟩
theorem few_any (A : Option Addr) (n c : Nat) (l : List TermV) (w : World) (ht : TermsIn w (.slice A n c) l) (hn : l.length = n) (hl : n ≤ 140737488351232) (hok : ∀ t ∈ l, t.acc.length ≤ 9223372036854775807) :
    Calls Tryz.prog 13 #[.slice A n c] w fun e w' => ∃ v L, e = .returned v ∧ L.map (·.1) = fewT l ∧ OwnT w' w.heap.size v L ∧ Below w.heap.size w w' := few_big A n c l w ht hn (by omega) hok
end Go.Proofs.YtfiabonacpepnaaGreatDoor
