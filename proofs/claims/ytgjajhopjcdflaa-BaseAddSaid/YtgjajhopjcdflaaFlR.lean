/- Lists of facts: appended whole, changed in place. -/
import Derived.Test.YtgjajhopjcdflaaFlB
import Derived.Laws.CopyRow
import Derived.Deep.Upon
namespace Go.Proofs.Ytgjajhopjcdflaa
open Go Go.RowKit Go.Lib Go.Shelf Go.Maps

theorem ffCells_join (l r : List FactV) : ffCells (l ++ r) = ffCells l ++ ffCells r := by simp [ffCells]
theorem ffCells_at {R : List FactV} (j : Nat) (u : Value) (h : (ffCells R)[j]? = some u) : ∃ (i k : Nat) (f : FactV), R[i]? = some f ∧ f.cells[k]? = some u ∧ j = i * 18 + k := by
  have hl := (List.getElem?_eq_some_iff.1 h).1
  rw [ffCells_len] at hl
  obtain ⟨f, hf⟩ : ∃ f, R[j / 18]? = some f := ⟨_, List.getElem?_eq_getElem (by omega)⟩
  have hk : j % 18 < f.cells.size := by rw [FactV.cells_size]; omega
  refine ⟨j / 18, j % 18, f, hf, ?_, by omega⟩
  have h2 := ffCells_get R (j / 18) f hf (j % 18) _ (Array.getElem?_eq_getElem hk)
  rw [show j / 18 * 18 + j % 18 = j from by omega, h] at h2
  rw [Array.getElem?_eq_getElem hk, ← h2]
theorem ffCells_ones (R : List FactV) : ∀ u ∈ ffCells R, u.oneCell' = true := by
  intro u hu
  obtain ⟨f, _, h⟩ := List.mem_flatMap.1 hu
  exact fact_ones f u h
theorem wp_append_facts {o : Oper} {a : Act} {w : World} {K : Act → World → Prop} {Q : Exit → Act → World → Prop} (s x : Operand) (base : Nat) (L R : List FactV) (v xv : Value) (hown : OwnF w base v L) (hR : FactsAt w xv R) (hlen : L.length + R.length ≤ 1000000) (hbase : base ≤ w.heap.size)
    (ho : o.op = .call { callee := .builtin .append, args := #[s, x], argTypes := #[23, 23] })
    (hs : a.eval s = v) (hx : a.eval x = xv)
    (h : ∀ v' w', OwnF w' base v' (L ++ R) → Below base w w' → K (a.put o.dst v') w') : o.wp Try.prog a w K Q := by
  obtain ⟨i0, hi, hz0, hz1, hz2⟩ := info_parts fact_info
  have fin : ∀ (ad : Addr) c, xv = .slice (some ad) R.length c → (∀ (j : Nat) u, (ffCells R)[j]? = some u → w.cell? (ad.add j) = some u) → o.wp Try.prog a w K Q := by
    intro ad c he hn
    refine wp_append_own _ s x 23 ho base 29 i0 _ 18 152 Try.underlying23 hi hz0 hz1 hz2 rfl (by decide) v L.length (ffCells L) hs hown ad R.length c (ffCells R) (hx.trans he) (ffCells_len R) hn (ffCells_ones R) (by unfold maxLen; omega) (by omega) hbase fun v' w' h1 h2 _ => h v' w' ?_ ?_
    · unfold OwnF
      rw [ffCells_join, List.length_append]
      exact h1
    · exact (Below.refl _ _).grown h2 hbase (fun j e => (hown.lt j e).1)
  rcases hR with ⟨rfl, A, c, he⟩ | ⟨b, off, c, he, hlt, hc⟩
  · cases A with
    | some ad => exact fin ad c he (by intro j u hj; simp [ffCells] at hj)
    | none =>
      obtain ⟨A0, n0, c0, hv0⟩ := own_slice hown
      have hle : n0 ≤ c0 := by
        rcases hown.2 with ⟨h1, _⟩ | ⟨g, cap, cur, h1, _, _, h2, _⟩
        · rw [h1] at hv0; cases hv0; exact Nat.le_refl _
        · rw [h1] at hv0; cases hv0; exact h2
      subst hv0
      have hrun := run_append_nothing (P := Try.prog) w 23 23 o.type 29 i0 Try.underlying23 hi A0 n0 c0 hle xv (by rw [he, hz1]; exact Src.ofNil _ Try.underlying23 c)
      unfold Oper.wp execOp
      simp only [ho, resolve, invoke, builtin, Sem.run_bind, Sem.run_pure, Result.andThen_ok, List.map_toArray, List.map_cons, List.map_nil, hs, hx, hrun]
      exact h _ _ (by rw [List.append_nil]; exact hown) (Below.refl _ _)
  · refine fin ⟨b, off, none⟩ c he fun j u hj => ?_
    obtain ⟨i, k, f, hf, hk, rfl⟩ := ffCells_at j u hj
    rw [Go.WideShapes.add_plain, ← Nat.add_assoc]
    exact hc i f hf k u hk

theorem run_storeVar_part {P : Program} (w : World) (g o : Nat) (t ty : TypeId) (old cells news : Array Value) (hg : w.heap[g]? = some (.cells old t (0, 0))) (hi : (P.info? ty).map (·.size) = some cells.size)
    (ho : o + cells.size ≤ old.size) (h1 : cells.all (·.oneCell') = true) (hn : (old.toList.take o ++ cells.toList ++ old.toList.drop (o + cells.size)).toArray = news) :
    (storeVar ty ⟨g, o, none⟩ (.agg cells)).run P w = .ok () (w.setRow g news) := by
  have := run_storeCells_at (P := P) g o t cells.toList 0 old w hg (by simp; omega) (fun v hv => (Array.all_eq_true_iff_forall_mem.1 h1) v (by simpa using hv))
  cases hq : P.info? ty with
  | none => simp [hq] at hi
  | some i =>
    have hs : cells.size = i.size := by simp [hq] at hi; omega
    rw [Nat.add_zero] at this
    simp only [Array.length_toList, hn] at this
    simp [storeVar, sizeOf, typeInfo, hq, Value.cells, hs, this]
theorem wpList_store_part {P : Program} {ops : Array Oper} {rest : List Oper} {o : Oper} {a : Act} {w : World} {Q : Exit → Act → World → Prop} (hgd : o.guard = none) (ty : TypeId) (x y : Operand) (ho : o.op = .store ty x y)
    (g off : Nat) (cells : Array Value) (hx : a.eval x = .pointer (some ⟨g, off, none⟩)) (hy : a.eval y = .agg cells)
    (t : TypeId) (old news : Array Value) (hg : w.heap[g]? = some (.cells old t (0, 0))) (hi : (P.info? ty).map (·.size) = some cells.size)
    (hold : off + cells.size ≤ old.size) (h1 : cells.all (·.oneCell') = true) (hn : (old.toList.take off ++ cells.toList ++ old.toList.drop (off + cells.size)).toArray = news)
    (h : wpList P ops Q rest (a.put o.dst undef) (w.setRow g news)) : wpList P ops Q (o :: rest) a w := by
  refine wpList_plain hgd fun K hK => ?_
  unfold Oper.wp execOp
  simp only [ho, hx, hy, Instr.storeAt, Instr.sureAddr, Sem.run_bind, Sem.run_pure, Result.andThen_ok, run_storeVar_part w g off t ty old cells news hg hi hold h1 hn]
  exact hK _ _ h
theorem wpList_build_zero {P : Program} {ops : Array Oper} {rest : List Oper} {o : Oper} {a : Act} {w : World} {Q : Exit → Act → World → Prop} {TS T : TypeId} {k bytes : Nat} {z : Value}
    (hu : P.underlying TS = some (.slice T)) (hinfo : (P.info? T).map (fun i => (i.zero, i.size, i.bytes)) = some (some z, k, bytes))
    (hgd : o.guard = none) (ho : o.op = .buildSlice TS 0 #[])
    (h : wpList P ops Q rest (a.put o.dst (.slice (some ⟨w.heap.size, 0, none⟩) 0 0)) (w.alloc (.cells #[] T))) : wpList P ops Q (o :: rest) a w := by
  obtain ⟨i0, hi, hz0, hz1, hz2⟩ := info_parts hinfo
  have hr : (Instr.buildSlice TS 0 #[]).run P w = .ok (.slice (some ⟨w.heap.size, 0, none⟩) 0 0) (w.alloc (.cells #[] T)) := by
    simp [Instr.buildSlice, run_underlying hu, sizeOf, typeInfo, hi, newRow, Instr.fill]
    rw [show Array.map (fun _ => (default : Value)) (Array.range 0) = #[] from Array.size_eq_zero_iff.1 (by simp)]
  refine wpList_plain hgd fun K hK => ?_
  unfold Oper.wp execOp
  simp only [ho, List.map_toArray, List.map_nil, Sem.run_bind, hr, Result.andThen_ok]
  exact hK _ _ h

theorem own_zeroF (w : World) : OwnF (w.alloc (.cells #[] 29)) w.heap.size (.slice (some ⟨w.heap.size, 0, none⟩) 0 0) [] :=
  ⟨by simp [ffCells], .inr ⟨w.heap.size, 0, #[], rfl, Nat.le_refl _, RowAt.new w _ _, Nat.le_refl _, by decide, by simp, by simp [ffCells]⟩⟩
theorem OwnF.lower {w : World} {base b2 : Nat} {v : Value} {l : List FactV} (h : OwnF w base v l) (hb : b2 ≤ base) : OwnF w b2 v l :=
  ⟨h.1, h.2.elim .inl (fun ⟨g, cap, cur, a, b, c⟩ => .inr ⟨g, cap, cur, a, Nat.le_trans hb b, c⟩)⟩
theorem build_nofacts {ops : Array Oper} {rest : List Oper} {o : Oper} {a : Act} {w : World} {Q : Exit → Act → World → Prop}
    (hgd : o.guard = none) (ho : o.op = .buildSlice 23 0 #[])
    (h : wpList Try.prog ops Q rest (a.put o.dst (.slice (some ⟨w.heap.size, 0, none⟩) 0 0)) (w.alloc (.cells #[] 29))) : wpList Try.prog ops Q (o :: rest) a w :=
  wpList_build_zero Try.underlying23 fact_info hgd ho h
theorem append_facts {ops : Array Oper} {rest : List Oper} {o : Oper} {a : Act} {w : World} {Q : Exit → Act → World → Prop} (s x : Operand) (base : Nat) (L R : List FactV) (v xv : Value) (hown : OwnF w base v L) (hR : FactsAt w xv R) (hlen : L.length + R.length ≤ 1000000) (hbase : base ≤ w.heap.size) (hgd : o.guard = none)
    (ho : o.op = .call { callee := .builtin .append, args := #[s, x], argTypes := #[23, 23] })
    (hs : a.eval s = v) (hx : a.eval x = xv)
    (h : ∀ v' w', OwnF w' base v' (L ++ R) → Below base w w' → wpList Try.prog ops Q rest (a.put o.dst v') w') : wpList Try.prog ops Q (o :: rest) a w :=
  wpList_plain hgd fun _ hK => wp_append_facts s x base L R v xv hown hR hlen hbase ho hs hx fun v' w' h1 h2 => hK _ _ (h v' w' h1 h2)
theorem ffCells_set : ∀ (l : List FactV) (i : Nat) (f : FactV), i < l.length → ffCells (l.set i f) = (ffCells l).take (i * 18) ++ f.cells.toList ++ (ffCells l).drop (i * 18 + 18)
  | [], i, f, h => by simp at h
  | x :: l, 0, f, _ => by
    have e : x.cells.toList.length = 18 := by rw [Array.length_toList, FactV.cells_size]
    show f.cells.toList ++ ffCells l = _
    simp only [Nat.zero_mul, List.take_zero, List.nil_append, Nat.zero_add]
    rw [show ffCells (x :: l) = x.cells.toList ++ ffCells l from rfl, List.drop_append_of_le_length (by omega), List.drop_of_length_le (by omega), List.nil_append]
  | x :: l, i + 1, f, h => by
    have ih := ffCells_set l i f (by simpa using h)
    have e : x.cells.toList.length = 18 := by rw [Array.length_toList, FactV.cells_size]
    show x.cells.toList ++ ffCells (l.set i f) = _
    rw [ih, show ffCells (x :: l) = x.cells.toList ++ ffCells l from rfl]
    rw [show (i + 1) * 18 = x.cells.toList.length + i * 18 by omega, List.take_length_add_append, show x.cells.toList.length + i * 18 + 18 = x.cells.toList.length + (i * 18 + 18) by omega, List.drop_length_add_append]
    simp
/-- a fact of a list of one's own is changed -/
theorem OwnF.set {w : World} {base g n c : Nat} {l : List FactV} (h : OwnF w base (.slice (some ⟨g, 0, none⟩) n c) l) {i : Nat} (f : FactV) (hi : i < l.length) :
    ∃ old, w.heap[g]? = some (.cells old 29 (0, 0)) ∧ i * 18 + f.cells.size ≤ old.size ∧ base ≤ g ∧ OwnF (w.setRow g (old.toList.take (i * 18) ++ f.cells.toList ++ old.toList.drop (i * 18 + f.cells.size)).toArray) base (.slice (some ⟨g, 0, none⟩) n c) (l.set i f) := by
  rcases h.2 with ⟨h0, _⟩ | ⟨g', cap, cur, hv, hbg, hg, hnc, hcm, hcs, ht⟩
  · cases h0
  · cases hv
    have hle : i * 18 + 18 ≤ l.length * 18 := by omega
    have hcl : l.length * 18 ≤ c * 18 := Nat.mul_le_mul_right _ hnc
    refine ⟨cur, hg, by rw [FactV.cells_size, hcs]; omega, hbg, ?_⟩
    refine ⟨by rw [ffCells_len], .inr ⟨g, c, (cur.toList.take (i * 18) ++ f.cells.toList ++ cur.toList.drop (i * 18 + f.cells.size)).toArray, by rw [List.length_set], hbg, setRow_same hg, by rw [List.length_set]; exact hnc, hcm, ?_, ?_⟩⟩
    · simp only [List.size_toArray, List.length_append, List.length_take, List.length_drop, Array.length_toList, FactV.cells_size, hcs]; omega
    · rw [List.length_set, ffCells_set l i f hi, ← ht, FactV.cells_size]
      have hlen : cur.toList.length = c * 18 := by rw [Array.length_toList, hcs]
      have hf : f.cells.toList.length = 18 := by rw [Array.length_toList, FactV.cells_size]
      refine List.ext_getElem? fun j => ?_
      simp only [List.getElem?_take, List.getElem?_append, List.length_append, List.length_take, List.getElem?_drop, hlen, hf]
      have m1 : min (i * 18) (c * 18) = i * 18 := by omega
      have m2 : min (i * 18) (min (l.length * 18) (c * 18)) = i * 18 := by omega
      simp only [m1, m2]
      by_cases c1 : j < i * 18
      · have : j < l.length * 18 := by omega
        simp [c1, this, show j < i * 18 + 18 by omega]
      · by_cases c2 : j < i * 18 + 18
        · have : j < l.length * 18 := by omega
          simp [c1, c2, this]
        · by_cases c3 : j < l.length * 18
          · simp [c2, c3, show i * 18 + 18 + (j - (i * 18 + 18)) < l.length * 18 by omega]
          · simp [c2, c3, show ¬ i * 18 + 18 + (j - (i * 18 + 18)) < l.length * 18 by omega]
theorem wp_store_in {o : Oper} {a : Act} {w : World} {K : Act → World → Prop} {Q : Exit → Act → World → Prop} (x y : Operand) (g n c base i : Nat) (l : List FactV) (f : FactV) (cs : Array Value) (hcs : f.cells = cs) (hown : OwnF w base (.slice (some ⟨g, 0, none⟩) n c) l) (hi : i < l.length) (ho : o.op = .store 29 x y)
    (hx : a.eval x = .pointer (some ⟨g, i * 18, none⟩)) (hy : a.eval y = .agg cs)
    (h : ∀ w', OwnF w' base (.slice (some ⟨g, 0, none⟩) n c) (l.set i f) → Below base w w' → K (a.put o.dst undef) w') : o.wp Try.prog a w K Q := by
  subst hcs
  obtain ⟨old, h1, h2, h3, h4⟩ := hown.set f hi
  unfold Oper.wp execOp
  simp only [ho, hx, hy, Instr.storeAt, Instr.sureAddr, Sem.run_bind, Sem.run_pure, Result.andThen_ok, run_storeVar_part w g (i * 18) _ _ old f.cells _ h1 fact_size h2 f.cells_one rfl]
  exact h _ h4 (below_setRow (Below.refl _ _) h3)
/-- two facts of a list change places: the same facts are in it -/
theorem swap_mem {l : List FactV} {a b : Nat} {x y : FactV} (ha : l[a]? = some x) (hb : l[b]? = some y) (f : FactV) : f ∈ (l.set a y).set b x ↔ f ∈ l := by
  have la := (List.getElem?_eq_some_iff.1 ha).1
  have lb := (List.getElem?_eq_some_iff.1 hb).1
  constructor
  · intro h
    rcases List.mem_or_eq_of_mem_set h with h | rfl
    · rcases List.mem_or_eq_of_mem_set h with h | rfl
      · exact h
      · exact List.mem_of_getElem? hb
    · exact List.mem_of_getElem? ha
  · intro h
    obtain ⟨i, hi⟩ := List.getElem?_of_mem h
    have li := (List.getElem?_eq_some_iff.1 hi).1
    by_cases e1 : i = a
    · subst e1
      rw [ha] at hi
      cases hi
      exact List.mem_set (by simpa using lb) _
    · by_cases e2 : i = b
      · subst e2
        rw [hb] at hi
        cases hi
        refine List.mem_of_getElem? (i := a) ?_
        rw [List.getElem?_set_ne (by omega), List.getElem?_set_self la]
      · refine List.mem_of_getElem? (i := i) ?_
        rw [List.getElem?_set_ne (by omega), List.getElem?_set_ne (by omega)]
        exact hi
end Go.Proofs.Ytgjajhopjcdflaa
