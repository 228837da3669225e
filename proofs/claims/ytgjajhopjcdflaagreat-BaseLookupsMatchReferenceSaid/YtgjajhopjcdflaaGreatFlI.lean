import Derived.Test.YtgjajhopjcdflaaGreatFlB
import Derived.Laws.CopyRow
import Derived.Deep.Upon
namespace Go.Proofs.YtgjajhopjcdflaaGreat
open Go Go.RowKit Go.Lib Go.Shelf Go.Maps

theorem ffCells_join (l r : List FactV) : ffCells (l ++ r) = ffCells l ++ ffCells r := by simp [ffCells]
theorem ffCells_at {R : List FactV} (j : Nat) (u : Value) (h : (ffCells R)[j]? = some u) : ∃ (i k : Nat) (f : FactV), R[i]? = some f ∧ f.cells[k]? = some u ∧ j = i * 18 + k := by
  have hl := (List.getElem?_eq_some_iff.1 h).1
  rw [ffCells_len] at hl
  obtain ⟨f, hf⟩ : ∃ f, R[j / 18]? = some f := ⟨_, List.getElem?_eq_getElem (by omega)⟩
  have hk : j % 18 < f.cells.size := by rw [FactV.cells_size]; omega
  refine ⟨j / 18, j % 18, f, hf, ?_, by omega⟩
  have h2 := ffCells_get R (j / 18) f hf (j % 18) _ (Array.getElem?_eq_getElem hk)
  rw [show j / 18 * 18 + j % 18 = j from by omega, h] at h2
  rw [Array.getElem?_eq_getElem hk, ← h2]
theorem ffCells_ones (R : List FactV) : ∀ u ∈ ffCells R, u.oneCell' = true := by
  intro u hu
  obtain ⟨f, _, h⟩ := List.mem_flatMap.1 hu
  exact fact_ones f u h
theorem wp_append_facts {o : Oper} {a : Act} {w : World} {K : Act → World → Prop} {Q : Exit → Act → World → Prop} (s x : Operand) (base : Nat) (L R : List FactV) (v xv : Value) (hown : OwnF w base v L) (hR : FactsAt w xv R) (hlen : L.length + R.length ≤ 1000000) (hbase : base ≤ w.heap.size)
    (ho : o.op = .call { callee := .builtin .append, args := #[s, x], argTypes := #[23, 23] })
    (hs : a.eval s = v) (hx : a.eval x = xv)
    (h : ∀ v' w', OwnF w' base v' (L ++ R) → Below base w w' → K (a.put o.dst v') w') : o.wp Tryz.prog a w K Q := by
  obtain ⟨i0, hi, hz0, hz1, hz2⟩ := info_parts fact_info
  have fin : ∀ (ad : Addr) c, xv = .slice (some ad) R.length c → (∀ (j : Nat) u, (ffCells R)[j]? = some u → w.cell? (ad.add j) = some u) → o.wp Tryz.prog a w K Q := by
    intro ad c he hn
    refine wp_append_own _ s x 23 ho base 34 i0 _ 18 152 Tryz.underlying23 hi hz0 hz1 hz2 rfl (by decide) v L.length (ffCells L) hs hown ad R.length c (ffCells R) (hx.trans he) (ffCells_len R) hn (ffCells_ones R) (by unfold maxLen; omega) (by omega) hbase fun v' w' h1 h2 _ => h v' w' ?_ ?_
    · unfold OwnF
      rw [ffCells_join, List.length_append]
      exact h1
    · exact (Below.refl _ _).grown h2 hbase (fun j e => (hown.lt j e).1)
  rcases hR with ⟨rfl, A, c, he⟩ | ⟨b, off, c, he, hlt, hc⟩
  · cases A with
    | some ad => exact fin ad c he (by intro j u hj; simp [ffCells] at hj)
    | none =>
      obtain ⟨A0, n0, c0, hv0⟩ := own_slice hown
      have hle : n0 ≤ c0 := by
        rcases hown.2 with ⟨h1, _⟩ | ⟨g, cap, cur, h1, _, _, h2, _⟩
        · rw [h1] at hv0; cases hv0; exact Nat.le_refl _
        · rw [h1] at hv0; cases hv0; exact h2
      subst hv0
      have hrun := run_append_nothing (P := Tryz.prog) w 23 23 o.type 34 i0 Tryz.underlying23 hi A0 n0 c0 hle xv (by rw [he, hz1]; exact Src.ofNil _ Tryz.underlying23 c)
      unfold Oper.wp execOp
      simp only [ho, resolve, invoke, builtin, Sem.run_bind, Sem.run_pure, Result.andThen_ok, List.map_toArray, List.map_cons, List.map_nil, hs, hx, hrun]
      exact h _ _ (by rw [List.append_nil]; exact hown) (Below.refl _ _)
  · refine fin ⟨b, off, none⟩ c he fun j u hj => ?_
    obtain ⟨i, k, f, hf, hk, rfl⟩ := ffCells_at j u hj
    rw [Go.WideShapes.add_plain, ← Nat.add_assoc]
    exact hc i f hf k u hk

theorem run_storeVar_part {P : Program} (w : World) (g o : Nat) (t ty : TypeId) (old cells news : Array Value) (hg : w.heap[g]? = some (.cells old t (0, 0))) (hi : (P.info? ty).map (·.size) = some cells.size)
    (ho : o + cells.size ≤ old.size) (h1 : cells.all (·.oneCell') = true) (hn : (old.toList.take o ++ cells.toList ++ old.toList.drop (o + cells.size)).toArray = news) :
    (storeVar ty ⟨g, o, none⟩ (.agg cells)).run P w = .ok () (w.setRow g news) := by
  have := run_storeCells_at (P := P) g o t cells.toList 0 old w hg (by simp; omega) (fun v hv => (Array.all_eq_true_iff_forall_mem.1 h1) v (by simpa using hv))
  cases hq : P.info? ty with
  | none => simp [hq] at hi
  | some i =>
    have hs : cells.size = i.size := by simp [hq] at hi; omega
    rw [Nat.add_zero] at this
    simp only [Array.length_toList, hn] at this
    simp [storeVar, sizeOf, typeInfo, hq, Value.cells, hs, this]
theorem wpList_store_part {P : Program} {ops : Array Oper} {rest : List Oper} {o : Oper} {a : Act} {w : World} {Q : Exit → Act → World → Prop} (hgd : o.guard = none) (ty : TypeId) (x y : Operand) (ho : o.op = .store ty x y)
    (g off : Nat) (cells : Array Value) (hx : a.eval x = .pointer (some ⟨g, off, none⟩)) (hy : a.eval y = .agg cells)
    (t : TypeId) (old news : Array Value) (hg : w.heap[g]? = some (.cells old t (0, 0))) (hi : (P.info? ty).map (·.size) = some cells.size)
    (hold : off + cells.size ≤ old.size) (h1 : cells.all (·.oneCell') = true) (hn : (old.toList.take off ++ cells.toList ++ old.toList.drop (off + cells.size)).toArray = news)
    (h : wpList P ops Q rest (a.put o.dst undef) (w.setRow g news)) : wpList P ops Q (o :: rest) a w := by
  refine wpList_plain hgd fun K hK => ?_
  unfold Oper.wp execOp
  simp only [ho, hx, hy, Instr.storeAt, Instr.sureAddr, Sem.run_bind, Sem.run_pure, Result.andThen_ok, run_storeVar_part w g off t ty old cells news hg hi hold h1 hn]
  exact hK _ _ h
theorem wpList_build_zero {P : Program} {ops : Array Oper} {rest : List Oper} {o : Oper} {a : Act} {w : World} {Q : Exit → Act → World → Prop} {TS T : TypeId} {k bytes : Nat} {z : Value}
    (hu : P.underlying TS = some (.slice T)) (hinfo : (P.info? T).map (fun i => (i.zero, i.size, i.bytes)) = some (some z, k, bytes))
    (hgd : o.guard = none) (ho : o.op = .buildSlice TS 0 #[])
    (h : wpList P ops Q rest (a.put o.dst (.slice (some ⟨w.heap.size, 0, none⟩) 0 0)) (w.alloc (.cells #[] T))) : wpList P ops Q (o :: rest) a w := by
  obtain ⟨i0, hi, hz0, hz1, hz2⟩ := info_parts hinfo
  have hr : (Instr.buildSlice TS 0 #[]).run P w = .ok (.slice (some ⟨w.heap.size, 0, none⟩) 0 0) (w.alloc (.cells #[] T)) := by
    simp [Instr.buildSlice, run_underlying hu, sizeOf, typeInfo, hi, newRow, Instr.fill]
    rw [show Array.map (fun _ => (default : Value)) (Array.range 0) = #[] from Array.size_eq_zero_iff.1 (by simp)]
  refine wpList_plain hgd fun K hK => ?_
  unfold Oper.wp execOp
  simp only [ho, List.map_toArray, List.map_nil, Sem.run_bind, hr, Result.andThen_ok]
  exact hK _ _ h

theorem own_zeroF (w : World) : OwnF (w.alloc (.cells #[] 34)) w.heap.size (.slice (some ⟨w.heap.size, 0, none⟩) 0 0) [] :=
  ⟨by simp [ffCells], .inr ⟨w.heap.size, 0, #[], rfl, Nat.le_refl _, RowAt.new w _ _, Nat.le_refl _, by decide, by simp, by simp [ffCells]⟩⟩
theorem OwnF.lower {w : World} {base b2 : Nat} {v : Value} {l : List FactV} (h : OwnF w base v l) (hb : b2 ≤ base) : OwnF w b2 v l :=
  ⟨h.1, h.2.elim .inl (fun ⟨g, cap, cur, a, b, c⟩ => .inr ⟨g, cap, cur, a, Nat.le_trans hb b, c⟩)⟩
theorem build_nofacts {ops : Array Oper} {rest : List Oper} {o : Oper} {a : Act} {w : World} {Q : Exit → Act → World → Prop}
    (hgd : o.guard = none) (ho : o.op = .buildSlice 23 0 #[])
    (h : wpList Tryz.prog ops Q rest (a.put o.dst (.slice (some ⟨w.heap.size, 0, none⟩) 0 0)) (w.alloc (.cells #[] 34))) : wpList Tryz.prog ops Q (o :: rest) a w :=
  wpList_build_zero Tryz.underlying23 fact_info hgd ho h
theorem append_facts {ops : Array Oper} {rest : List Oper} {o : Oper} {a : Act} {w : World} {Q : Exit → Act → World → Prop} (s x : Operand) (base : Nat) (L R : List FactV) (v xv : Value) (hown : OwnF w base v L) (hR : FactsAt w xv R) (hlen : L.length + R.length ≤ 1000000) (hbase : base ≤ w.heap.size) (hgd : o.guard = none)
    (ho : o.op = .call { callee := .builtin .append, args := #[s, x], argTypes := #[23, 23] })
    (hs : a.eval s = v) (hx : a.eval x = xv)
    (h : ∀ v' w', OwnF w' base v' (L ++ R) → Below base w w' → wpList Tryz.prog ops Q rest (a.put o.dst v') w') : wpList Tryz.prog ops Q (o :: rest) a w :=
  wpList_plain hgd fun _ hK => wp_append_facts s x base L R v xv hown hR hlen hbase ho hs hx fun v' w' h1 h2 => hK _ _ (h v' w' h1 h2)
theorem ffCells_set : ∀ (l : List FactV) (i : Nat) (f : FactV), i < l.length → ffCells (l.set i f) = (ffCells l).take (i * 18) ++ f.cells.toList ++ (ffCells l).drop (i * 18 + 18)
  | [], i, f, h => by simp at h
  | x :: l, 0, f, _ => by
    have e : x.cells.toList.length = 18 := by rw [Array.length_toList, FactV.cells_size]
    show f.cells.toList ++ ffCells l = _
    simp only [Nat.zero_mul, List.take_zero, List.nil_append, Nat.zero_add]
    rw [show ffCells (x :: l) = x.cells.toList ++ ffCells l from rfl, List.drop_append_of_le_length (by omega), List.drop_of_length_le (by omega), List.nil_append]
  | x :: l, i + 1, f, h => by
    have ih := ffCells_set l i f (by simpa using h)
    have e : x.cells.toList.length = 18 := by rw [Array.length_toList, FactV.cells_size]
    show x.cells.toList ++ ffCells (l.set i f) = _
    rw [ih, show ffCells (x :: l) = x.cells.toList ++ ffCells l from rfl]
    rw [show (i + 1) * 18 = x.cells.toList.length + i * 18 by omega, List.take_length_add_append, show x.cells.toList.length + i * 18 + 18 = x.cells.toList.length + (i * 18 + 18) by omega, List.drop_length_add_append]
    simp
/-- a fact of a list of one's own is changed -/
theorem OwnF.set {w : World} {base g n c : Nat} {l : List FactV} (h : OwnF w base (.slice (some ⟨g, 0, none⟩) n c) l) {i : Nat} (f : FactV) (hi : i < l.length) :
    ∃ old, w.heap[g]? = some (.cells old 34 (0, 0)) ∧ i * 18 + f.cells.size ≤ old.size ∧ base ≤ g ∧ OwnF (w.setRow g (old.toList.take (i * 18) ++ f.cells.toList ++ old.toList.drop (i * 18 + f.cells.size)).toArray) base (.slice (some ⟨g, 0, none⟩) n c) (l.set i f) := by
  rcases h.2 with ⟨h0, _⟩ | ⟨g', cap, cur, hv, hbg, hg, hnc, hcm, hcs, ht⟩
  · cases h0
  · cases hv
    have hle : i * 18 + 18 ≤ l.length * 18 := by omega
    have hcl : l.length * 18 ≤ c * 18 := Nat.mul_le_mul_right _ hnc
    refine ⟨cur, hg, by rw [FactV.cells_size, hcs]; omega, hbg, ?_⟩
    refine ⟨by rw [ffCells_len], .inr ⟨g, c, (cur.toList.take (i * 18) ++ f.cells.toList ++ cur.toList.drop (i * 18 + f.cells.size)).toArray, by rw [List.length_set], hbg, setRow_same hg, by rw [List.length_set]; exact hnc, hcm, ?_, ?_⟩⟩
    · simp only [List.size_toArray, List.length_append, List.length_take, List.length_drop, Array.length_toList, FactV.cells_size, hcs]; omega
    · rw [List.length_set, ffCells_set l i f hi, ← ht, FactV.cells_size]
      have hlen : cur.toList.length = c * 18 := by rw [Array.length_toList, hcs]
      have hf : f.cells.toList.length = 18 := by rw [Array.length_toList, FactV.cells_size]
      refine List.ext_getElem? fun j => ?_
      simp only [List.getElem?_take, List.getElem?_append, List.length_append, List.length_take, List.getElem?_drop, hlen, hf]
      have m1 : min (i * 18) (c * 18) = i * 18 := by omega
      have m2 : min (i * 18) (min (l.length * 18) (c * 18)) = i * 18 := by omega
      simp only [m1, m2]
      by_cases c1 : j < i * 18
      · have : j < l.length * 18 := by omega
        simp [c1, this, show j < i * 18 + 18 by omega]
      · by_cases c2 : j < i * 18 + 18
        · have : j < l.length * 18 := by omega
          simp [c1, c2, this]
        · by_cases c3 : j < l.length * 18
          · simp [c2, c3, show i * 18 + 18 + (j - (i * 18 + 18)) < l.length * 18 by omega]
          · simp [c2, c3, show ¬ i * 18 + 18 + (j - (i * 18 + 18)) < l.length * 18 by omega]
theorem wp_store_in {o : Oper} {a : Act} {w : World} {K : Act → World → Prop} {Q : Exit → Act → World → Prop} (x y : Operand) (g n c base i : Nat) (l : List FactV) (f : FactV) (cs : Array Value) (hcs : f.cells = cs) (hown : OwnF w base (.slice (some ⟨g, 0, none⟩) n c) l) (hi : i < l.length) (ho : o.op = .store 34 x y)
    (hx : a.eval x = .pointer (some ⟨g, i * 18, none⟩)) (hy : a.eval y = .agg cs)
    (h : ∀ w', OwnF w' base (.slice (some ⟨g, 0, none⟩) n c) (l.set i f) → Below base w w' → K (a.put o.dst undef) w') : o.wp Tryz.prog a w K Q := by
  subst hcs
  obtain ⟨old, h1, h2, h3, h4⟩ := hown.set f hi
  unfold Oper.wp execOp
  simp only [ho, hx, hy, Instr.storeAt, Instr.sureAddr, Sem.run_bind, Sem.run_pure, Result.andThen_ok, run_storeVar_part w g (i * 18) _ _ old f.cells _ h1 fact_size h2 f.cells_one rfl]
  exact h _ h4 (below_setRow (Below.refl _ _) h3)
/-- two facts of a list change places: the same facts are in it -/
theorem swap_mem {l : List FactV} {a b : Nat} {x y : FactV} (ha : l[a]? = some x) (hb : l[b]? = some y) (f : FactV) : f ∈ (l.set a y).set b x ↔ f ∈ l := by
  have la := (List.getElem?_eq_some_iff.1 ha).1
  have lb := (List.getElem?_eq_some_iff.1 hb).1
  constructor
  · intro h
    rcases List.mem_or_eq_of_mem_set h with h | rfl
    · rcases List.mem_or_eq_of_mem_set h with h | rfl
      · exact h
      · exact List.mem_of_getElem? hb
    · exact List.mem_of_getElem? ha
  · intro h
    obtain ⟨i, hi⟩ := List.getElem?_of_mem h
    have li := (List.getElem?_eq_some_iff.1 hi).1
    by_cases e1 : i = a
    · subst e1
      rw [ha] at hi
      cases hi
      exact List.mem_set (by simpa using lb) _
    · by_cases e2 : i = b
      · subst e2
        rw [hb] at hi
        cases hi
        refine List.mem_of_getElem? (i := a) ?_
        rw [List.getElem?_set_ne (by omega), List.getElem?_set_self la]
      · refine List.mem_of_getElem? (i := i) ?_
        rw [List.getElem?_set_ne (by omega), List.getElem?_set_ne (by omega)]
        exact hi
end Go.Proofs.YtgjajhopjcdflaaGreat
namespace Go.Proofs.YtgjajhopjcdflaaGreat
open Go Go.RowKit Go.Lib Go.Shelf Go.Maps

set_option maxRecDepth 100000 in
set_option maxHeartbeats 4000000 in
theorem samefacts_any (la lb : List FactV) (va vb : Value) (w : World) (hn : la.length ≤ 1000000) (hm : lb.length ≤ 1000000) (ha : FactsAt w va la) (hb : FactsAt w vb lb) :
    Calls Tryz.prog 35 #[va, vb] w fun e w' => e = .returned (.bool (sameL la lb)) ∧ Below w.heap.size w w' := by
  have HA := Lib.hid ha
  have HB := Lib.hid hb
  obtain ⟨A, ca, rfl⟩ := ha.sl
  obtain ⟨B, cb, rfl⟩ := hb.sl
  obtain ⟨n, hna⟩ : ∃ z, la.length = z := ⟨_, rfl⟩
  obtain ⟨m, hmb⟩ : ∃ z, lb.length = z := ⟨_, rfl⟩
  rw [hna] at HA hn ⊢
  rw [hmb] at HB hm ⊢
  have HN := Lib.hid (And.intro hna hmb)
  clear ha hb hna hmb
  by_cases hnm : n = m
  · subst hnm
    have hd : ((n : Int) != (n : Int)) = false := by simp
    go_enter Tryz.func35, Tryz.ntmps35
    go_wp2_with fail
    go_loopw [5, 6] (fun v5 v6 wr => ∃ j : Nat, v5 = .int .i64 j ∧ j ≤ n ∧ Hid (sameL la lb = sameL (la.drop j) (lb.drop j) ∧ Below w.heap.size w wr)) (fun v5 _ _ => n - (RowKit.intOf v5).toNat)
    case atStart => exact ⟨0, rfl, by omega, Lib.hid ⟨by simp, Below.refl _ _⟩⟩
    case round =>
      obtain ⟨j, rfl, hj, HS⟩ := hrel
      by_cases hj2 : j < n
      · have hjd : decide (j < n) = true := by simpa using hj2
        obtain ⟨f, hf⟩ : ∃ x, la[j]? = some x := ⟨_, List.getElem?_eq_getElem (by have := HN.out.1; omega)⟩
        obtain ⟨g, hg⟩ : ∃ x, lb[j]? = some x := ⟨_, List.getElem?_eq_getElem (by have := HN.out.2; omega)⟩
        obtain ⟨b, o, rfl, hlt, hcell⟩ := (HA.out.more HS.out.2).get hf
        obtain ⟨b2, o2, rfl, hlt2, hcell2⟩ := (HB.out.more HS.out.2).get hg
        have HFG := Lib.hid (And.intro hf hg)
        have HSM := Lib.hid (fun W => rsame_any f g W)
        have HCF : Hid ((Tryz.prog.info? 34).map (·.size) = some f.cells.size) := Lib.hid fact_size
        have HCG : Hid ((Tryz.prog.info? 34).map (·.size) = some g.cells.size) := Lib.hid fact_size
        obtain ⟨cf, hcf⟩ : ∃ z, f.cells = z := ⟨_, rfl⟩
        obtain ⟨cg, hcg⟩ : ∃ z, g.cells = z := ⟨_, rfl⟩
        rw [hcf] at HSM HCF hcell
        rw [hcg] at HSM HCG hcell2
        have HC1 : Hid (∀ W, Below wr.heap.size wr W → ∀ j2 x, cf[j2]? = some x → W.cell? ⟨b, o + j * 18 + j2, none⟩ = some x) := Lib.hid (fun W hW j2 x hx => (hW.cell (p := ⟨b, o + j * 18 + j2, none⟩) hlt).trans (hcell j2 x hx))
        have HC2 : Hid (∀ W, Below wr.heap.size wr W → ∀ j2 x, cg[j2]? = some x → W.cell? ⟨b2, o2 + j * 18 + j2, none⟩ = some x) := Lib.hid (fun W hW j2 x hx => (hW.cell (p := ⟨b2, o2 + j * 18 + j2, none⟩) hlt2).trans (hcell2 j2 x hx))
        clear hf hg hcf hcg hcell hcell2 hlt hlt2
        go_wp2_with fail
        refine wp_region_held_drew (S := fun W => Below wr.heap.size wr W) (by kernel_rfl) (Below.refl _ _).drew (fun hHeld => ?_)
        refine wpAnyH_take (i := 0) (oi := ⟨_, _, _, _, _, _⟩) (v := ?_) rfl (by kernel_rfl) (by kernel_rfl) (by kernel_rfl) (fun _ _ _ h => h) (Or.inl ⟨by rfl, ?_⟩) (by assumption) ?_
        rotate_left
        · intro w hSw
          go_simp
          all_goals with_reducible rfl
        simp only [Act.put, List.setIfInBounds_toArray, List.set_cons_zero, List.set_cons_succ]
        refine wpAnyH_take (i := 1) (oi := ⟨_, _, _, _, _, _⟩) (v := ?_) rfl (by kernel_rfl) (by kernel_rfl) (by kernel_rfl) (fun _ _ _ h => h) (Or.inl ⟨by rfl, ?_⟩) (by assumption) ?_
        rotate_left
        · intro w hSw
          go_simp
          all_goals with_reducible rfl
        simp only [Act.put, List.setIfInBounds_toArray, List.set_cons_zero, List.set_cons_succ]
        refine wpAnyH_take (i := 4) (oi := ⟨_, _, _, _, _, _⟩) (v := ?_) rfl (by kernel_rfl) (by kernel_rfl) (by kernel_rfl) (fun _ _ _ h => h) (Or.inl ⟨by rfl, ?_⟩) (by assumption) ?_
        rotate_left
        · intro w hSw
          go_simp
          all_goals with_reducible rfl
        simp only [Act.put, List.setIfInBounds_toArray, List.set_cons_zero, List.set_cons_succ]
        refine wpAnyH_take (i := 5) (oi := ⟨_, _, _, _, _, _⟩) (v := ?_) rfl (by kernel_rfl) (by kernel_rfl) (by kernel_rfl) (fun _ _ _ h => h) (Or.inl ⟨by rfl, ?_⟩) (by assumption) ?_
        rotate_left
        · intro w hSw
          go_simp
          all_goals with_reducible rfl
        simp only [Act.put, List.setIfInBounds_toArray, List.set_cons_zero, List.set_cons_succ]
        refine wpAnyH_take (i := 2) (oi := ⟨_, _, _, _, _, _⟩) (v := ?_) rfl (by kernel_rfl) (by kernel_rfl) (by kernel_rfl) (fun _ _ _ h => h) (Or.inl ⟨by rfl, ?_⟩) (by assumption) ?_
        rotate_left
        · intro w hSw
          go_simp
          all_goals with_reducible rfl
        simp only [Act.put, List.setIfInBounds_toArray, List.set_cons_zero, List.set_cons_succ]
        refine wpAnyH_take (i := 6) (oi := ⟨_, _, _, _, _, _⟩) (v := ?_) rfl (by kernel_rfl) (by kernel_rfl) (by kernel_rfl) (fun _ _ _ h => h) (Or.inl ⟨by rfl, ?_⟩) (by assumption) ?_
        rotate_left
        · intro w hSw
          go_simp
          all_goals with_reducible rfl
        simp only [Act.put, List.setIfInBounds_toArray, List.set_cons_zero, List.set_cons_succ]
        refine wpAnyH_take (i := 3) (oi := ⟨_, _, _, _, _, _⟩) rfl (by kernel_rfl) (by kernel_rfl) (by kernel_rfl) (fun _ _ _ h => h) (yields_at 34 (.tmp 20) b (o + j * 18) cf _ (fun W hW j2 x hx => HC1.out W hW j2 x hx) Tryz.underlying34 (by rfl) rfl rfl rfl HCF.out) (by assumption) ?_
        simp only [Act.put, List.setIfInBounds_toArray, List.set_cons_zero, List.set_cons_succ]
        refine wpAnyH_take (i := 7) (oi := ⟨_, _, _, _, _, _⟩) rfl (by kernel_rfl) (by kernel_rfl) (by kernel_rfl) (fun _ _ _ h => h) (yields_at 34 (.tmp 24) b2 (o2 + j * 18) cg _ (fun W hW j2 x hx => HC2.out W hW j2 x hx) Tryz.underlying34 (by rfl) rfl rfl rfl HCG.out) (by assumption) ?_
        simp only [Act.put, List.setIfInBounds_toArray, List.set_cons_zero, List.set_cons_succ]
        refine wpAnyH_ready (rs := [8]) (by kernel_rfl) (by simp) ?_
        refine AllReadyH.cons (o := ⟨_, _, _, _, _, _⟩) rfl (fun K hK => ?_) AllReadyH.nil
        go_simp
        go_at_call 16
        refine (HSM.out _).mono ?_
        rintro e W5 ⟨rfl, hb5⟩
        have HB5 : Hid (Below wr.heap.size wr W5) := Lib.hid ((Below.refl wr.heap.size wr).drew.trans hb5)
        clear hb5
        go_wp2_with fail
        refine hK.out _ _ HB5.out (fun hHeld => ?_)
        clear hK K
        try simp only [Act.put, List.setIfInBounds_toArray, List.set_cons_zero, List.set_cons_succ]
        refine wpAnyH_ready (rs := [9]) (by kernel_rfl) (by simp) ?_
        refine AllReadyH.cons (o := ⟨_, _, _, _, _, _⟩) rfl (fun K hK => ?_) AllReadyH.nil
        go_simp
        refine hK.out _ _ HB5.out (fun hHeld => ?_)
        clear hK K
        try simp only [Act.put, List.setIfInBounds_toArray, List.set_cons_zero, List.set_cons_succ]
        refine wpAnyH_done (by kernel_rfl) ?_ _
        have HB6 : Hid (Below w.heap.size w W5) := Lib.hid (HS.out.2.trans (HB5.out.mono HS.out.2.size))
        cases hs : sameF f g
        · go_wp2_with fail
          go_ret
          refine ⟨?_, HB6.out⟩
          rw [HS.out.1, drop_at HFG.out.1, drop_at HFG.out.2]
          simp [sameL, hs]
        · have HSS := Lib.hid hs
          clear hs
          go_wp2_with fail
          go_roundw
          case rel =>
            refine ⟨j + 1, by go_num, by omega, Lib.hid ⟨?_, HB6.out⟩⟩
            rw [HS.out.1, drop_at HFG.out.1, drop_at HFG.out.2]
            simp [sameL, HSS.out]
          case measure => simp [RowKit.intOf]; omega
      · obtain rfl : j = n := by omega
        have hjd : decide (j < j) = false := by simp
        go_wp2_with fail
        go_ret
        refine ⟨?_, HS.out.2⟩
        rw [HS.out.1, List.drop_eq_nil_of_le (by have := HN.out.1; omega), List.drop_eq_nil_of_le (by have := HN.out.2; omega)]
        rfl
  · have hd : ((n : Int) != (m : Int)) = true := by simp; omega
    have hd2 : decide (n = m) = false := by simpa using hnm
    have HNM := Lib.hid hnm
    clear hnm
    go_enter Tryz.func35, Tryz.ntmps35
    go_wp2_with fail
    go_ret
    exact ⟨by rw [sameL_ne (by rw [HN.out.1, HN.out.2]; exact HNM.out)]; rfl, Below.refl _ _⟩
set_option maxRecDepth 100000 in
set_option maxHeartbeats 4000000 in
theorem rlists_10 (A0 A1 A2 A3 A4 A5 A6 A7 A8 A9 : Option Addr) (n0 c0 n1 c1 n2 c2 n3 c3 n4 c4 n5 c5 n6 c6 n7 c7 n8 c8 n9 c9 : Nat) (w : World) :
    Calls Tryz.prog 34 #[.agg #[.slice A0 n0 c0, .slice A1 n1 c1, .slice A2 n2 c2, .slice A3 n3 c3, .slice A4 n4 c4, .slice A5 n5 c5, .slice A6 n6 c6, .slice A7 n7 c7, .slice A8 n8 c8, .slice A9 n9 c9]] w fun e w' => e = .returned (.slice (some ⟨w.heap.size + 1, 0, none⟩) 10 10) ∧ RowAt w' (w.heap.size + 1) 23 #[.slice A0 n0 c0, .slice A1 n1 c1, .slice A2 n2 c2, .slice A3 n3 c3, .slice A4 n4 c4, .slice A5 n5 c5, .slice A6 n6 c6, .slice A7 n7 c7, .slice A8 n8 c8, .slice A9 n9 c9] ∧ Below w.heap.size w w' := by
  go_enter Tryz.func34, Tryz.ntmps34
  go_wp2_with fail
  go_ret
  refine ⟨rfl, ?_, ((Below.refl w.heap.size w).alloc (Nat.le_refl _) _).alloc (by simp) _⟩
  have h := RowAt.new (w.alloc (.cells #[.slice A0 n0 c0, .slice A1 n1 c1, .slice A2 n2 c2, .slice A3 n3 c3, .slice A4 n4 c4, .slice A5 n5 c5, .slice A6 n6 c6, .slice A7 n7 c7, .slice A8 n8 c8, .slice A9 n9 c9] 27)) 23 #[.slice A0 n0 c0, .slice A1 n1 c1, .slice A2 n2 c2, .slice A3 n3 c3, .slice A4 n4 c4, .slice A5 n5 c5, .slice A6 n6 c6, .slice A7 n7 c7, .slice A8 n8 c8, .slice A9 n9 c9]
  simpa using h
theorem rlists_any (bs : Array Value) (Ls : Nat → List FactV) (w : World) (h : BaseR w bs Ls) :
    Calls Tryz.prog 34 #[.agg bs] w fun e w' => e = .returned (.slice (some ⟨w.heap.size + 1, 0, none⟩) 10 10) ∧ RowAt w' (w.heap.size + 1) 23 bs ∧ Below w.heap.size w w' := by
  obtain ⟨A0, n0, c0, A1, n1, c1, A2, n2, c2, A3, n3, c3, A4, n4, c4, A5, n5, c5, A6, n6, c6, A7, n7, c7, A8, n8, c8, A9, n9, c9, rfl⟩ := h.slices
  exact rlists_10 A0 A1 A2 A3 A4 A5 A6 A7 A8 A9 n0 c0 n1 c1 n2 c2 n3 c3 n4 c4 n5 c5 n6 c6 n7 c7 n8 c8 n9 c9 w
end Go.Proofs.YtgjajhopjcdflaaGreat
