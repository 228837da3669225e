/- BaseJoin: the walk. -/
import Derived.Test.YtgjajhopjcdflaaFlH
import Derived.Test.YtgjajhopjcdflaaFlI
import Derived.Test.YtgjajhopjcdflaaFpC
import Derived.Test.YtgjajhopjcdflaaFlG2
namespace Go.Proofs.Ytgjajhopjcdflaa
open Go Go.RowKit Go.Lib Go.Shelf Go.Maps

theorem build_nofactsg {ops : Array Oper} {rest : List Oper} {o : Oper} {a : Act} {w : World} {Q : Exit → Act → World → Prop}
    (hw : Region.wanted o (yielded ops a.tmps) = true) (ho : o.op = .buildSlice 23 0 #[])
    (h : wpList Try.prog ops Q rest (a.put o.dst (.slice (some ⟨w.heap.size, 0, none⟩) 0 0)) (w.alloc (.cells #[] 29))) : wpList Try.prog ops Q (o :: rest) a w := by
  obtain ⟨i0, hi, hz0, hz1, hz2⟩ := info_parts fact_info
  have hr : (Instr.buildSlice 23 0 #[]).run Try.prog w = .ok (.slice (some ⟨w.heap.size, 0, none⟩) 0 0) (w.alloc (.cells #[] 29)) := by
    simp [Instr.buildSlice, run_underlying Try.underlying23, sizeOf, typeInfo, hi, newRow, Instr.fill]
    rw [show Array.map (fun _ => (default : Value)) (Array.range 0) = #[] from Array.size_eq_zero_iff.1 (by simp)]
  refine wpList_step fun K hK => ?_
  rw [if_pos hw]
  unfold Oper.wp execOp
  simp only [ho, List.map_toArray, List.map_nil, Sem.run_bind, hr, Result.andThen_ok]
  exact hK _ _ h
theorem append_factsg {ops : Array Oper} {rest : List Oper} {o : Oper} {a : Act} {w : World} {Q : Exit → Act → World → Prop} (s x : Operand) (base : Nat) (L R : List FactV) (v xv : Value) (hown : OwnF w base v L) (hR : FactsAt w xv R) (hlen : L.length + R.length ≤ 1000000) (hbase : base ≤ w.heap.size) (hw : Region.wanted o (yielded ops a.tmps) = true)
    (ho : o.op = .call { callee := .builtin .append, args := #[s, x], argTypes := #[23, 23] })
    (hs : a.eval s = v) (hx : a.eval x = xv)
    (h : ∀ v' w', OwnF w' base v' (L ++ R) → Below base w w' → wpList Try.prog ops Q rest (a.put o.dst v') w') : wpList Try.prog ops Q (o :: rest) a w := by
  refine wpList_step fun K hK => ?_
  rw [if_pos hw]
  exact wp_append_facts s x base L R v xv hown hR hlen hbase ho hs hx fun v' w' h1 h2 => hK _ _ (h v' w' h1 h2)
/-- the facts of a base that Of made -/
theorem facts_of {w : World} {b : Nat} {bs : Array Value} {l fs : List FactV} (hl : Lists w b bs fs) (hp : fs.Perm (bestL l)) (hs : fs.Pairwise (fun a b => kLt (kT a) (kT b))) (hn : l.length ≤ 10000) :
    Calls Try.prog 12 #[.agg bs] w fun e w' => ∃ v, e = .returned v ∧ OwnF w' w.heap.size v fs ∧ Below w.heap.size w w' := by
  have h := rfacts_any bs _ w hl.read (perm_kind_len hp 10000 hn)
  rw [catL_all hs (fun f hf => bestL_valid l f (hp.mem_iff.1 hf))] at h
  exact h
theorem perm_len {l fs : List FactV} (hp : fs.Perm (bestL l)) {n : Nat} (hn : l.length ≤ n) : fs.length ≤ n := by
  have h1 := hp.length_eq
  have h2 := bestL_len l
  omega
set_option maxRecDepth 100000 in
set_option maxHeartbeats 4000000 in
theorem join_yes (X Y : Nat → Nat → Int) (m n : Nat) (vx vy : Value) (w : World) (hm : m ≤ 140737488351232) (hn : n ≤ 140737488351232) (hx : XsAt w vx m X) (hy : XsAt w vy n Y) :
    Calls Try.prog 4 #[vx, vy] w fun e w' => e = .returned (.bool true) ∧ Below w.heap.size w w' := by
  obtain ⟨L, hL⟩ : ∃ z, factsL X [] (min m 50) = z := ⟨_, rfl⟩
  obtain ⟨M, hM⟩ : ∃ z, factsL Y [] (min n 50) = z := ⟨_, rfl⟩
  have HLL : Hid (L.length ≤ 100 ∧ M.length ≤ 100) := Lib.hid ⟨by have := factsL_len X [] (min m 50); rw [hL] at this; omega, by have := factsL_len Y [] (min n 50); rw [hM] at this; omega⟩
  have HLG : Hid (∀ f ∈ L, FactOk f ∧ Canon f) := Lib.hid (by rw [← hL]; exact factsL_good X [] (by simp) _)
  have HMG : Hid (∀ f ∈ M, FactOk f ∧ Canon f) := Lib.hid (by rw [← hM]; exact factsL_good Y [] (by simp) _)
  have HFX : Hid (∀ W, Below w.heap.size w W → Calls Try.prog 8 #[vx, .slice none 0 0] W fun e w' => ∃ v, e = .returned v ∧ OwnF w' W.heap.size v L ∧ Below W.heap.size W w') := Lib.hid (fun W hb => by
    have h := facts_any X [] m vx (.slice none 0 0) W hm (hx.more hb) (.inl ⟨rfl, none, 0, rfl⟩)
    rw [hL] at h
    exact h)
  have HFY : Hid (∀ W, Below w.heap.size w W → Calls Try.prog 8 #[vy, .slice none 0 0] W fun e w' => ∃ v, e = .returned v ∧ OwnF w' W.heap.size v M ∧ Below W.heap.size W w') := Lib.hid (fun W hb => by
    have h := facts_any Y [] n vy (.slice none 0 0) W hn (hy.more hb) (.inl ⟨rfl, none, 0, rfl⟩)
    rw [hM] at h
    exact h)
  clear hm hn hx hy hL hM
  go_enter Try.func4, Try.ntmps4
  go_wp2_with fail
  refine (sane_yes _).mono ?_
  rintro e W1 ⟨rfl, hb1⟩
  have HB1 := Lib.hid hb1
  clear hb1
  go_wp2_with fail
  refine (HFX.out W1 HB1.out).mono ?_
  rintro e W2 ⟨v6, rfl, ho6, hb2⟩
  have H2 : Hid (FactsAt W2 v6 L ∧ Below w.heap.size w W2) := Lib.hid ⟨ho6.facts, HB1.out.trans (hb2.mono HB1.out.size)⟩
  obtain ⟨A6, m6, c6, rfl⟩ := own_slice ho6
  clear ho6 hb2
  go_wp2_with fail
  refine (HFY.out W2 H2.out.2).mono ?_
  rintro e W3 ⟨v7, rfl, ho7, hb3⟩
  have H3 : Hid (FactsAt W3 (.slice A6 m6 c6) L ∧ FactsAt W3 v7 M ∧ Below w.heap.size w W3) := Lib.hid ⟨H2.out.1.more hb3, ho7.facts, H2.out.2.trans (hb3.mono H2.out.2.size)⟩
  obtain ⟨A7, m7, c7, rfl⟩ := own_slice ho7
  clear ho7 hb3
  go_wp2_with fail
  refine (of_any L _ W3 (by have := HLL.out.1; omega) (fun f hf => (HLG.out f hf).1) H3.out.1).mono ?_
  rintro e W4 ⟨bs1, fs1, rfl, hl1, hb4, hp1, hs1⟩
  have H4 := Lib.hid (And.intro hl1 (And.intro hp1 (And.intro hs1 hb4)))
  clear hl1 hp1 hs1 hb4
  go_wp2_with fail
  refine (facts_of H4.out.1 H4.out.2.1 H4.out.2.2.1 (by have := HLL.out.1; omega)).mono ?_
  rintro e W5 ⟨v16, rfl, ho16, hb5⟩
  have H5 : Hid (OwnF W5 W4.heap.size v16 fs1 ∧ Below W3.heap.size W3 W5 ∧ W4.heap.size ≤ W5.heap.size) := Lib.hid ⟨ho16, H4.out.2.2.2.trans (hb5.mono H4.out.2.2.2.size), hb5.size⟩
  obtain ⟨A16, m16, c16, rfl⟩ := own_slice ho16
  clear ho16 hb5
  go_wp2_with fail
  refine (of_any M _ W5 (by have := HLL.out.2; omega) (fun f hf => (HMG.out f hf).1) (H3.out.2.1.more H5.out.2.1)).mono ?_
  rintro e W6 ⟨bs2, fs2, rfl, hl2, hb6, hp2, hs2⟩
  have H6 := Lib.hid (And.intro hl2 (And.intro hp2 (And.intro hs2 hb6)))
  clear hl2 hp2 hs2 hb6
  go_wp2_with fail
  refine (facts_of H6.out.1 H6.out.2.1 H6.out.2.2.1 (by have := HLL.out.2; omega)).mono ?_
  rintro e W7 ⟨v19, rfl, ho19, hb7⟩
  have h57 : Below W5.heap.size W5 W7 := H6.out.2.2.2.trans (hb7.mono H6.out.2.2.2.size)
  have H7 : Hid (OwnF W7 W4.heap.size (.slice A16 m16 c16) fs1 ∧ FactsAt W7 v19 fs2 ∧ Below W3.heap.size W3 W7 ∧ W4.heap.size ≤ W7.heap.size ∧ fs1.length + fs2.length ≤ 1000000) := Lib.hid ⟨H5.out.1.below h57, ho19.facts, H5.out.2.1.trans (h57.mono H5.out.2.1.size), Nat.le_trans H5.out.2.2 h57.size, by
    have h1 := perm_len H4.out.2.1 HLL.out.1
    have h2 := perm_len H6.out.2.1 HLL.out.2
    omega⟩
  obtain ⟨A19, m19, c19, rfl⟩ := own_slice ho19
  clear ho19 hb7 h57
  go_wp2_with (first | ((with_reducible refine append_facts (o := ⟨some 20, _, _, _, _, _⟩) (.tmp 16) (.tmp 19) W4.heap.size fs1 fs2 _ _ H7.out.1 H7.out.2.1 H7.out.2.2.2.2 H7.out.2.2.2.1 ?_ ?_ ?_ ?_ ?_); rfl; rfl; rfl; rfl; intro v8 W8 hown8 hbl8; have H8 : Hid (FactsAt W8 v8 (fs1 ++ fs2) ∧ Below W3.heap.size W3 W8) := Lib.hid ⟨hown8.facts, H7.out.2.2.1.trans (hbl8.mono H4.out.2.2.2.size)⟩; clear hown8 hbl8; have HX8 : Hid (FactsAt (W8.alloc (.cells #[] 29)) (.slice A6 m6 c6) L ∧ ([] : List FactV).length + L.length ≤ 1000000 ∧ Below W8.heap.size W8 (W8.alloc (.cells #[] 29))) := Lib.hid ⟨(H3.out.1.more H8.out.2).more ((Below.refl _ _).alloc (Nat.le_refl _) _), (by have := HLL.out.1; simp; omega), (Below.refl _ _).alloc (Nat.le_refl _) _⟩) | ((with_reducible refine build_nofactsg (o := ⟨some 23, _, _, _, _, _⟩) ?_ ?_ ?_); rfl; rfl) | ((with_reducible refine append_factsg (o := ⟨some 25, _, _, _, _, _⟩) (.tmp 23) (.tmp 24) W8.heap.size [] L _ (.slice A6 m6 c6) (own_zeroF W8) HX8.out.1 HX8.out.2.1 HX8.out.2.2.size ?_ ?_ ?_ ?_ ?_); rfl; rfl; rfl; rfl; intro v25 W9 hown9 hbl9; have H9 : Hid (OwnF W9 W8.heap.size v25 L ∧ Below W8.heap.size W8 W9) := Lib.hid ⟨hown9, HX8.out.2.2.trans hbl9⟩; clear hown9 hbl9; have HX9 : Hid (FactsAt W9 (.slice A7 m7 c7) M ∧ L.length + M.length ≤ 1000000) := Lib.hid ⟨(H3.out.2.1.more H8.out.2).more H9.out.2, (by have := HLL.out; omega)⟩) | ((with_reducible refine append_factsg (o := ⟨some 27, _, _, _, _, _⟩) (.tmp 25) (.tmp 26) W8.heap.size L M _ (.slice A7 m7 c7) H9.out.1 HX9.out.1 HX9.out.2 H9.out.2.size ?_ ?_ ?_ ?_ ?_); rfl; rfl; rfl; rfl; intro v27 W10 hown10 hbl10; have H10 : Hid (FactsAt W10 v27 (L ++ M) ∧ Below W8.heap.size W8 W10) := Lib.hid ⟨hown10.facts, H9.out.2.trans hbl10⟩; clear hown10 hbl10))
  refine (of_any (L ++ M) _ W10 (by have := HLL.out; rw [List.length_append]; omega) (fun f hf => (List.mem_append.1 hf).elim (fun h => (HLG.out f h).1) (fun h => (HMG.out f h).1)) H10.out.1).mono ?_
  rintro e W11 ⟨bs3, fs3, rfl, hl3, hb11, hp3, hs3⟩
  have H11 := Lib.hid (And.intro hl3.read (And.intro hp3 (And.intro hs3 hb11)))
  clear hl3 hp3 hs3 hb11
  obtain ⟨A8, m8, c8, rfl⟩ : ∃ A m c, v8 = .slice A m c := by obtain ⟨A, c, h⟩ := H8.out.1.sl; exact ⟨A, _, c, h⟩
  have HPL : Hid ((fs1 ++ fs2).length ≤ 200) := Lib.hid (by have h1 := perm_len H4.out.2.1 HLL.out.1; have h2 := perm_len H6.out.2.1 HLL.out.2; rw [List.length_append]; omega)
  go_wp2_with fail
  refine (of_any (fs1 ++ fs2) _ W11 (by have := HPL.out; omega) (fun f hf => (List.mem_append.1 hf).elim (fun h => (HLG.out f (best_in (fun x hx => (HLG.out x hx).2) (H4.out.2.1.mem_iff.1 h))).1) (fun h => (HMG.out f (best_in (fun x hx => (HMG.out x hx).2) (H6.out.2.1.mem_iff.1 h))).1)) ((H8.out.1.more H10.out.2).more H11.out.2.2.2)).mono ?_
  rintro e W12 ⟨bs4, fs4, rfl, hl4, hb12, hp4, hs4⟩
  have heq := join_law (fun x hx => (HLG.out x hx).2) (fun x hx => (HMG.out x hx).2) H4.out.2.1 H6.out.2.1 H11.out.2.1 hp4 H11.out.2.2.1 hs4
  subst heq
  have HSM := bsame_any bs3 bs4 _ _ W12 (H11.out.1.more hb12) hl4.read (perm_kind_len H11.out.2.1 1000000 (by have := HLL.out; rw [List.length_append]; omega)) (perm_kind_len hp4 1000000 (by have := HPL.out; omega))
  rw [sameBs_refl] at HSM
  have HSM := Lib.hid HSM
  have H12 := Lib.hid hb12
  clear hl4 hb12 hp4 hs4
  go_wp2_with fail
  refine HSM.out.mono ?_
  rintro e W13 ⟨rfl, hb13⟩
  have H13 := Lib.hid hb13
  clear hb13
  go_wp2_with fail
  go_ret
  have h8 := H3.out.2.2.trans (H8.out.2.mono H3.out.2.2.size)
  have h10 := h8.trans (H10.out.2.mono h8.size)
  have h11 := h10.trans (H11.out.2.2.2.mono h10.size)
  have h12 := h11.trans (H12.out.mono h11.size)
  exact ⟨rfl, h12.trans (H13.out.mono h12.size)⟩
end Go.Proofs.Ytgjajhopjcdflaa
