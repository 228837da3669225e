/- ContractJoined: the walk. -/
import Derived.Test.YtfiabonacpepnaaGreatDoorCtPa
namespace Go.Proofs.YtfiabonacpepnaaGreatDoor
open Go Go.RowKit Go.Lib Go.Shelf Go.Maps

theorem tCells_app2 (L R : List (TermV × Value)) : tCells (L ++ R) = tCells L ++ tCells R := by simp [tCells]
theorem tCells_ones {L : List (TermV × Value)} (h : ∀ p ∈ L, (termC p.1 p.2).all (·.oneCell') = true) : ∀ u ∈ tCells L, u.oneCell' = true := by
  intro u hu
  obtain ⟨p, hp, hup⟩ := List.mem_flatMap.1 hu
  exact Array.all_eq_true'.1 (h p hp) u (by simpa using hup)
/-- a list of terms in a block that is owned -/
structure OwnU (w : World) (base : Nat) (v : Value) (L : List (TermV × Value)) : Prop where
  own : w.ownsRow base 28 5 v L.length (tCells L)
  acc : ∀ p ∈ L, IntsL w p.2 p.1.acc
theorem OwnT.weak {w : World} {base : Nat} {v : Value} {L : List (TermV × Value)} (h : OwnT w base v L) : OwnU w base v L := ⟨h.own, fun p hp => ints_of_rows (h.acc p hp).rows⟩
theorem OwnU.terms {w : World} {base : Nat} {v : Value} {L : List (TermV × Value)} (h : OwnU w base v L) : TermsAt w v (L.map (·.1)) := by
  rcases h.own.2 with ⟨rfl, hn⟩ | ⟨g, cap, cur, rfl, _, hg, hnc, _, hcs, ht⟩
  · exact .inl ⟨by rw [List.length_eq_zero_iff.1 hn]; rfl, none, 0, rfl⟩
  · refine .inr ⟨g, 0, cap, by rw [List.length_map], (Array.getElem?_eq_some_iff.1 hg).1, fun i t hi => ?_⟩
    rw [List.getElem?_map] at hi
    cases hl : L[i]? with
    | none => rw [hl] at hi; cases hi
    | some p =>
      rw [hl] at hi
      simp at hi
      subst hi
      refine ⟨p.2, h.acc p (List.mem_of_getElem? hl), fun j x hx => ?_⟩
      have h1 := tCells_get L i p hl j x hx
      rw [← ht] at h1
      rw [cell_of_row _ _ _ _ _ _ hg, Nat.zero_add, ← Array.getElem?_toList]
      rw [List.getElem?_take] at h1
      split at h1
      · exact h1
      · cases h1
theorem OwnU.keep {w w' : World} {base : Nat} {v : Value} {L : List (TermV × Value)} (h : OwnU w base v L) (hb : Below w.heap.size w w') : OwnU w' base v L := by
  refine ⟨⟨h.own.1, ?_⟩, fun p hp => (h.acc p hp).below hb⟩
  rcases h.own.2 with h0 | ⟨g, cap, cur, hv, hbg, hg, rest⟩
  · exact .inl h0
  · exact .inr ⟨g, cap, cur, hv, hbg, (hb.block g (Array.getElem?_eq_some_iff.1 hg).1).trans hg, rest⟩
theorem wp_append_terms {P : Program} {o : Oper} {a : Act} {w : World} {K : Act → World → Prop} {Q : Exit → Act → World → Prop} {TS bytes : Nat} {z : Value}
    (hu : P.underlying TS = some (.slice 28)) (hinfo : (P.info? 28).map (fun i => (i.zero, i.size, i.bytes)) = some (some z, 5, bytes)) (hzs : z.cells.size = 5) (hby : bytes ≤ 64)
    (s x : Operand) (base : Nat) (L R : List (TermV × Value)) (v xv : Value) (hown : w.ownsRow base 28 5 v L.length (tCells L)) (base2 : Nat) (hR : OwnU w base2 xv R) (hlen : L.length + R.length ≤ 1000000) (hbase : base ≤ w.heap.size)
    (ho : o.op = .call { callee := .builtin .append, args := #[s, x], argTypes := #[TS, TS] })
    (hs : a.eval s = v) (hx : a.eval x = xv)
    (h : ∀ v' w', w'.ownsRow base 28 5 v' (L ++ R).length (tCells (L ++ R)) → w.grownBy w' v.ownBlock → K (a.put o.dst v') w') : o.wp P a w K Q := by
  obtain ⟨i0, hi, hz0, hz1, hz2⟩ := info_parts hinfo
  have hmul : (L.length + R.length) * bytes ≤ (L.length + R.length) * 64 := Nat.mul_le_mul_left _ hby
  have hones := tCells_ones (L := R) (fun p hp => termC_one p.1 (hR.acc p hp))
  rcases hR.own.2 with ⟨he, hn⟩ | ⟨g, cap, cur, he, hb, hg, rest⟩
  · have hr0 := List.length_eq_zero_iff.1 hn
    subst hr0
    obtain ⟨A0, n0, c0, hv0, hle⟩ : ∃ A0 n0 c0, v = .slice A0 n0 c0 ∧ n0 ≤ c0 := by
      rcases hown.2 with ⟨h1, _⟩ | ⟨g, cap, cur, h1, _, _, h2, _⟩
      · exact ⟨_, _, _, h1, Nat.le_refl _⟩
      · exact ⟨_, _, _, h1, h2⟩
    subst hv0
    have hrun := run_append_nothing (P := P) w TS TS o.type 28 i0 hu hi A0 n0 c0 hle xv (by rw [he, hz1]; exact Src.ofNil _ hu 0)
    unfold Oper.wp execOp
    simp only [ho, resolve, invoke, builtin, Sem.run_bind, Sem.run_pure, Result.andThen_ok, List.map_toArray, List.map_cons, List.map_nil, hs, hx, hrun]
    exact h _ _ (by rw [List.append_nil]; exact hown) ⟨rfl, rfl, rfl, Nat.le_refl _, fun _ _ _ => rfl⟩
  · have hR1 := hR.own
    rw [he] at hR1
    refine wp_append_own _ s x TS ho base 28 i0 _ 5 bytes hu hi hz0 hz1 hz2 hzs (by decide) v L.length (tCells L) hs hown ⟨g, 0, none⟩ R.length cap (tCells R) (hx.trans he) (tCells_len R) ?_ hones (by unfold maxLen; omega) (by omega) hbase fun v' w' h1 h2 _ => h v' w' ?_ h2
    · intro j u hj
      have hjl : j < R.length * 5 := by have := (List.getElem?_eq_some_iff.1 hj).1; rw [tCells_len] at this; exact this
      rw [Go.WideShapes.add_plain, Nat.zero_add, World.ownsRow.cellAt hR1 j hjl]
      exact hj
    · rw [tCells_app2, List.length_append]
      exact h1
theorem append_terms_g {P : Program} {ops : Array Oper} {rest : List Oper} {o : Oper} {a : Act} {w : World} {Q : Exit → Act → World → Prop} {TS bytes : Nat} {z : Value}
    (hu : P.underlying TS = some (.slice 28)) (hinfo : (P.info? 28).map (fun i => (i.zero, i.size, i.bytes)) = some (some z, 5, bytes)) (hzs : z.cells.size = 5) (hby : bytes ≤ 64)
    (s x : Operand) (base : Nat) (L R : List (TermV × Value)) (v xv : Value) (hown : w.ownsRow base 28 5 v L.length (tCells L)) (base2 : Nat) (hR : OwnU w base2 xv R) (hlen : L.length + R.length ≤ 1000000) (hbase : base ≤ w.heap.size)
    (hw : Region.wanted o (yielded ops a.tmps) = true) (ho : o.op = .call { callee := .builtin .append, args := #[s, x], argTypes := #[TS, TS] })
    (hs : a.eval s = v) (hx : a.eval x = xv)
    (h : Stop (∀ v' w', w'.ownsRow base 28 5 v' (L ++ R).length (tCells (L ++ R)) → w.grownBy w' v.ownBlock → wpList P ops Q rest (a.put o.dst v') w')) : wpList P ops Q (o :: rest) a w := by
  refine wpList_step fun K hK => ?_
  rw [if_pos hw]
  exact wp_append_terms hu hinfo hzs hby s x base L R v xv hown base2 hR hlen hbase ho hs hx fun v' w' h1 h2 => hK _ _ (h v' w' h1 h2)
theorem build_zero_g {P : Program} {ops : Array Oper} {rest : List Oper} {o : Oper} {a : Act} {w : World} {Q : Exit → Act → World → Prop} {TS T : TypeId} {k bytes : Nat} {z : Value}
    (hu : P.underlying TS = some (.slice T)) (hinfo : (P.info? T).map (fun i => (i.zero, i.size, i.bytes)) = some (some z, k, bytes))
    (hw : Region.wanted o (yielded ops a.tmps) = true) (ho : o.op = .buildSlice TS 0 #[])
    (h : Stop (wpList P ops Q rest (a.put o.dst (.slice (some ⟨w.heap.size, 0, none⟩) 0 0)) (w.alloc (.cells #[] T)))) : wpList P ops Q (o :: rest) a w := by
  obtain ⟨i0, hi, hz0, hz1, hz2⟩ := info_parts hinfo
  have hr : (Instr.buildSlice TS 0 #[]).run P w = .ok (.slice (some ⟨w.heap.size, 0, none⟩) 0 0) (w.alloc (.cells #[] T)) := by
    simp [Instr.buildSlice, run_underlying hu, sizeOf, typeInfo, hi, newRow, Instr.fill]
    rw [show Array.map (fun _ => (default : Value)) (Array.range 0) = #[] from Array.size_eq_zero_iff.1 (by simp)]
  refine wpList_step fun K hK => ?_
  rw [if_pos hw]
  unfold Oper.wp execOp
  simp only [ho, List.map_toArray, List.map_nil, Sem.run_bind, hr, Result.andThen_ok]
  exact hK _ _ h
theorem own_zero_t (w : World) : (w.alloc (.cells #[] 28)).ownsRow w.heap.size 28 5 (.slice (some ⟨w.heap.size, 0, none⟩) 0 0) 0 (tCells []) :=
  ⟨by simp [tCells], .inr ⟨w.heap.size, 0, #[], rfl, Nat.le_refl _, heap_alloc_last w _, Nat.le_refl _, by unfold maxLen; omega, by simp, by simp [tCells]⟩⟩
set_option maxRecDepth 100000 in
set_option maxHeartbeats 8000000 in
theorem joined_yes (sb tb : ByteArray) (w : World) (hK : KAt w) :
    Calls Tryz.prog 7 #[.string sb, .string tb] w fun e w' => e = .returned (.bool true) ∧ Below w.heap.size w w' := by
  have er1 : errI true = 0 := rfl
  have er2 : errI false = 140 := rfl
  obtain ⟨S, hS, HRS⟩ := cut_min sb 1000 1000 rfl
  obtain ⟨T, hT, HRT⟩ := cut_min tb 900 900 rfl
  have h9 : 9 ≤ w.heap.size := hK.lt
  have HK := Lib.hid hK
  have HPS := Lib.hid (fun W (h : KAt W) => parse_any S W h (by omega))
  have HPT := Lib.hid (fun W (h : KAt W) => parse_any T W h (by omega))
  have HPJ := Lib.hid (fun W (h : KAt W) => parse_any (S ++ kAnd ++ T) W h (by have : kAnd.length = 8 := rfl; simp only [List.length_append]; omega))
  have HJ := Lib.hid (joined hS hT)
  have HGS := Lib.hid (fun h => parsed_again (s := S) (by omega) h)
  have HGT := Lib.hid (fun h => parsed_again (s := T) (by omega) h)
  have eS : (⟨(S ++ kAnd ++ T).toArray⟩ : ByteArray) = ⟨S.toArray⟩ ++ ⟨#[10, 35, 32, 97, 110, 100, 10, 10]⟩ ++ ⟨T.toArray⟩ := by rw [← ba_app, ← ba_app]; rfl
  unfold strV at HPS HPT HPJ
  rw [eS] at HPJ
  have hl20 : ∀ x : List UInt8, (parseV x).1.length ≤ 20 := by
    intro x
    unfold parseV
    split
    · exact parse_len _ _ _ (by simp)
    · simp
  have hls := hl20 S
  have hlt := hl20 T
  obtain ⟨PS, hPS⟩ : ∃ z, parseV S = z := ⟨_, rfl⟩
  obtain ⟨PT, hPT⟩ : ∃ z, parseV T = z := ⟨_, rfl⟩
  obtain ⟨PJ, hPJ⟩ : ∃ z, parseV (S ++ kAnd ++ T) = z := ⟨_, rfl⟩
  rw [hPS] at HPS HJ HGS hls
  rw [hPT] at HPT HJ HGT hlt
  rw [hPJ] at HPJ HJ
  obtain ⟨ta, la, oa⟩ := PS
  obtain ⟨tb', lb, ob⟩ := PT
  obtain ⟨tc, lc, oc⟩ := PJ
  dsimp only at HPS HPT HPJ HJ HGS HGT hls hlt
  clear hPS hPT hPJ eS hl20 hK
  go_enter Tryz.func7, Tryz.ntmps7
  go_wp2_with fail
  refine (sane_any w HK.out).mono ?_
  rintro e w1 ⟨rfl, hb1⟩
  have HB1 := Lib.hid hb1
  have HK1 := Lib.hid (HK.out.mono hb1)
  have hs1 := hb1.size
  clear hb1
  go_upto_region 3 with fail
  rw [HRS.out]
  clear HRS
  go_upto_region 4 with fail
  rw [HRT.out]
  clear HRT
  go_wp2_with fail
  refine (HPS.out w1 HK1.out).mono ?_
  rintro e w2 ⟨v2, L2, rfl, hL2, ho2, hb2⟩
  dsimp only at hL2 ⊢
  have ht2 := ho2.terms
  rw [hL2] at ht2
  obtain ⟨A2, c2, rfl⟩ := ht2.slice
  have HL2 := Lib.hid hL2
  have HO2 := Lib.hid ho2.weak
  have HB2 := Lib.hid (HB1.out.trans (hb2.mono hs1))
  have HK2 := Lib.hid (HK.out.mono HB2.out)
  have hs2 : w.heap.size ≤ w2.heap.size := HB2.out.size
  clear hb2 ho2 hL2 ht2
  go_wp2_with fail
  refine (HPT.out w2 HK2.out).mono ?_
  rintro e w3 ⟨v3, L3, rfl, hL3, ho3, hb3⟩
  dsimp only at hL3 ⊢
  have ht3 := ho3.terms
  rw [hL3] at ht3
  obtain ⟨A3, c3, rfl⟩ := ht3.slice
  have HL3 := Lib.hid hL3
  have HO3 := Lib.hid ho3.weak
  have HO2b := Lib.hid (HO2.out.keep hb3)
  have HB3 := Lib.hid (HB2.out.trans (hb3.mono hs2))
  have HK3 := Lib.hid (HK.out.mono HB3.out)
  have hs3 : w.heap.size ≤ w3.heap.size := HB3.out.size
  clear hb3 ho3 hL3 ht3
  go_wp2_with fail
  refine (HPJ.out w3 HK3.out).mono ?_
  rintro e w4 ⟨v4, L4, rfl, hL4, ho4, hb4⟩
  dsimp only at hL4 ⊢
  have ht4 := ho4.terms
  rw [hL4] at ht4
  obtain ⟨A4, c4, rfl⟩ := ht4.slice
  have HT4 := Lib.hid ht4
  have HOA := Lib.hid (HO2b.out.keep hb4)
  have HOB := Lib.hid (HO3.out.keep hb4)
  have HB4 := Lib.hid (HB3.out.trans (hb4.mono hs3))
  have hs4 : w.heap.size ≤ w4.heap.size := HB4.out.size
  clear hb4 ho4 hL4 ht4
  have bad : (oa = true ∧ ob = true ∧ ta.length + tb'.length ≤ 20 → False) → oc = false := by
    intro h
    have hj := HJ.out
    rw [if_neg h] at hj
    exact hj
  have HBAD := Lib.hid bad
  clear bad
  cases oa
  · have h := HBAD.out (by simp)
    subst h
    rw [er2]
    go_wp2_with fail
    go_ret
    exact ⟨rfl, HB4.out⟩
  · cases ob
    · have h := HBAD.out (by simp)
      subst h
      rw [er1, er2]
      go_wp2_with fail
      go_ret
      exact ⟨rfl, HB4.out⟩
    · by_cases h20 : ta.length + tb'.length ≤ 20
      · have hj := HJ.out
        rw [if_pos ⟨rfl, rfl, h20⟩] at hj
        simp only [Prod.mk.injEq] at hj
        obtain ⟨rfl, rfl, rfl⟩ := hj
        have d20 : decide ((20 : Int) < (ta.length : Int) + (tb'.length : Int)) = false := by simp; omega
        have d20n : decide (20 < ta.length + tb'.length) = false := by simp; omega
        have HG1 := Lib.hid (HGS.out rfl).1
        have HG2 := Lib.hid (HGT.out rfl).1
        rw [er1]
        go_wp2_with ((with_reducible refine build_zero_g (o := ⟨some 73, _, _, _, _, _⟩) Tryz.underlying22 term_info ?_ ?_ ?_); rfl; rfl)
        unfold Stop
        have own0 := own_zero_t w4
        have b9 : Below w4.heap.size w4 (w4.alloc (.cells #[] 28)) := (Below.refl _ _).alloc (Nat.le_refl _) _
        obtain ⟨W9, hW9⟩ : ∃ z, w4.alloc (.cells #[] 28) = z := ⟨_, rfl⟩
        rw [hW9] at own0 b9 ⊢
        clear hW9
        have HOWN0 := Lib.hid own0
        have HB9 := Lib.hid b9
        have HOA9 := Lib.hid (HOA.out.keep b9)
        have hn9 : w4.heap.size ≤ W9.heap.size := b9.size
        have hll2 : L2.length = ta.length := by rw [← HL2.out, List.length_map]
        have hll3 : L3.length = tb'.length := by rw [← HL3.out, List.length_map]
        have hla : ([] : List (TermV × Value)).length + L2.length ≤ 1000000 := by simp; omega
        clear own0 b9
        go_wp2_with ((with_reducible refine append_terms_g (o := ⟨some 75, _, _, _, _, _⟩) Tryz.underlying22 term_info rfl (by decide) (.tmp 73) (.tmp 74) w4.heap.size [] L2 _ _ HOWN0.out _ HOA9.out hla hn9 ?_ ?_ ?_ ?_ ?_); rfl; rfl; rfl; rfl)
        unfold Stop
        intro v10 w10 hown10 hg10
        replace hown10 : w10.ownsRow w4.heap.size 28 5 v10 L2.length (tCells L2) := by simpa [hll2] using hown10
        have b10 : Below w4.heap.size w4 w10 := HB9.out.grown hg10 hn9 (fun k e => by simp [Value.ownBlock] at e; omega)
        have HOWN1 := Lib.hid hown10
        have HB10 := Lib.hid b10
        have HOB10 := Lib.hid (HOB.out.keep b10)
        have hn10 : w4.heap.size ≤ w10.heap.size := b10.size
        have hlb : L2.length + L3.length ≤ 1000000 := by omega
        clear hown10 hg10 b10
        go_wp2_with ((with_reducible refine append_terms_g (o := ⟨some 77, _, _, _, _, _⟩) Tryz.underlying22 term_info rfl (by decide) (.tmp 75) (.tmp 76) w4.heap.size L2 L3 v10 _ HOWN1.out _ HOB10.out hlb hn10 ?_ ?_ ?_ ?_ ?_); rfl; rfl; rfl; rfl)
        unfold Stop
        intro v11 w11 hown11 hg11
        replace hown11 : w11.ownsRow w4.heap.size 28 5 v11 (L2 ++ L3).length (tCells (L2 ++ L3)) := by simpa [hll2, hll3] using hown11
        have b11 : Below w4.heap.size w4 w11 := HB10.out.grown hg11 hn10 (fun k e => (World.ownsRow.lt HOWN1.out k e).1)
        have hu : OwnU w11 w4.heap.size v11 (L2 ++ L3) := ⟨hown11, fun p hp => by
          rcases List.mem_append.1 hp with h | h
          · exact (HOA.out.acc p h).below b11
          · exact (HOB.out.acc p h).below b11⟩
        have htt := hu.terms
        rw [List.map_append, HL2.out, HL3.out] at htt
        have hacc : ∀ t ∈ ta ++ tb', t.acc.length ≤ 1000000 := by
          intro t ht
          rcases List.mem_append.1 ht with h | h
          · exact (good_accs HG1.out t h).1
          · exact (good_accs HG2.out t h).1
        have ht4' := HT4.out
        rw [List.length_append] at ht4'
        have HSM := Lib.hid (rSame_any (ta ++ tb') (ta ++ tb') _ _ w11 (by rw [List.length_append]; omega) (by rw [List.length_append]; omega) (ht4'.below b11) htt hacc hacc)
        rw [sameTs_iff.2 rfl] at HSM
        have HB11 := Lib.hid (HB4.out.trans (b11.mono hs4))
        have hs11 : w.heap.size ≤ w11.heap.size := HB11.out.size
        clear ht4' hown11 hg11 b11 hu htt hacc hla hlb hll2 hll3 hn9 hn10 HOWN0 HOWN1 HOA9 HOB10 HB9 HB10
        go_wp2_with fail
        refine HSM.out.mono ?_
        rintro e w12 ⟨rfl, hb12⟩
        have HB12 := Lib.hid (HB11.out.trans (hb12.mono hs11))
        clear hb12
        go_wp2_with fail
        go_ret
        exact ⟨rfl, HB12.out⟩
      · have h := HBAD.out (fun h => h20 h.2.2)
        subst h
        have d20 : decide ((20 : Int) < (ta.length : Int) + (tb'.length : Int)) = true := by simp; omega
        have d20n : decide (20 < ta.length + tb'.length) = true := by simp; omega
        rw [er1, er2]
        go_wp2_with fail
        go_ret
        exact ⟨rfl, HB4.out⟩
end Go.Proofs.YtfiabonacpepnaaGreatDoor
