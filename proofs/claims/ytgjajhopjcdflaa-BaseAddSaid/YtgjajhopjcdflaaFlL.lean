/- Operations of drawn regions: one by one. -/
import Derived.Test.YtgjajhopjcdflaaFlJ
namespace Go.Proofs.Ytgjajhopjcdflaa
open Go Go.RowKit Go.Lib Go.Shelf Go.Maps

theorem wp_build_nofacts {o : Oper} {a : Act} {w : World} {K : Act → World → Prop} {Q : Exit → Act → World → Prop} (N : Nat) (hN : w.heap.size = N) (ho : o.op = .buildSlice 23 0 #[])
    (h : K (a.put o.dst (.slice (some ⟨N, 0, none⟩) 0 0)) (w.alloc (.cells #[] 29))) : o.wp Try.prog a w K Q := by
  subst hN
  obtain ⟨i0, hi, hz0, hz1, hz2⟩ := info_parts fact_info
  have hr : (Instr.buildSlice 23 0 #[]).run Try.prog w = .ok (.slice (some ⟨w.heap.size, 0, none⟩) 0 0) (w.alloc (.cells #[] 29)) := by
    simp [Instr.buildSlice, run_underlying Try.underlying23, sizeOf, typeInfo, hi, newRow, Instr.fill]
    rw [show Array.map (fun _ => (default : Value)) (Array.range 0) = #[] from Array.size_eq_zero_iff.1 (by simp)]
  unfold Oper.wp execOp
  simp only [ho, List.map_toArray, List.map_nil, Sem.run_bind, hr, Result.andThen_ok]
  exact h
theorem wp_build_factN {o : Oper} {a : Act} {w : World} {K : Act → World → Prop} {Q : Exit → Act → World → Prop} (x : Operand) (f : FactV) (cs : Array Value) (hcs : f.cells = cs) (N : Nat) (hN : w.heap.size = N) (ho : o.op = .buildSlice 23 1 #[(0, x)]) (hx : a.eval x = .agg cs)
    (h : K (a.put o.dst (.slice (some ⟨N, 0, none⟩) 1 1)) (w.alloc (.cells cs 29))) : o.wp Try.prog a w K Q := by
  subst hN
  exact wp_build_fact x cs f hcs ho hx h
theorem wp_alloc_base {o : Oper} {a : Act} {w : World} {K : Act → World → Prop} {Q : Exit → Act → World → Prop} (N : Nat) (hN : w.heap.size = N) (ho : o.op = .alloc 32)
    (h : K (a.put o.dst (.pointer (some ⟨N, 0, none⟩))) (w.alloc (.cells zb10 32))) : o.wp Try.prog a w K Q := by
  subst hN
  have hz := Try.zeroValue32 w
  unfold Oper.wp execOp
  simp only [ho, Instr.alloc, Sem.run_bind, hz, Result.andThen_ok]
  exact h
theorem wp_append_facts2 {o : Oper} {a : Act} {w : World} {K : Act → World → Prop} {Q : Exit → Act → World → Prop} (s x : Operand) (base : Nat) (L R : List FactV) (v xv : Value) (hown : OwnF w base v L) (hR : FactsAt w xv R) (hlen : L.length + R.length ≤ 1000000) (hbase : base ≤ w.heap.size)
    (ho : o.op = .call { callee := .builtin .append, args := #[s, x], argTypes := #[23, 23] })
    (hs : a.eval s = v) (hx : a.eval x = xv)
    (h : ∀ v' w', OwnF w' base v' (L ++ R) → w.grownBy w' v.ownBlock → (v'.ownBlock = v.ownBlock ∨ v'.ownBlock = some w.heap.size) → K (a.put o.dst v') w') : o.wp Try.prog a w K Q := by
  obtain ⟨i0, hi, hz0, hz1, hz2⟩ := info_parts fact_info
  have fin : ∀ (ad : Addr) c, xv = .slice (some ad) R.length c → (∀ (j : Nat) u, (ffCells R)[j]? = some u → w.cell? (ad.add j) = some u) → o.wp Try.prog a w K Q := by
    intro ad c he hn
    obtain ⟨v', w', hr, h2, h3, _, h5⟩ := run_append_own_at (P := Try.prog) w base 23 o.type 29 i0 _ 18 152 Try.underlying23 hi hz0 hz1 hz2 rfl (by decide) v L.length (ffCells L) hown ad R.length c (ffCells R) (ffCells_len R) hn (ffCells_ones R) (by unfold maxLen; omega) (by omega) hbase
    rw [← he] at hr
    unfold Oper.wp execOp
    simp only [ho, resolve, invoke, builtin, Sem.run_bind, Sem.run_pure, Result.andThen_ok, List.map_toArray, List.map_cons, List.map_nil, hs, hx, hr]
    refine h v' w' ?_ h3 h5
    unfold OwnF
    rw [ffCells_join, List.length_append]
    exact h2
  rcases hR with ⟨rfl, A, c, he⟩ | ⟨b, off, c, he, hlt, hc⟩
  · cases A with
    | some ad => exact fin ad c he (by intro j u hj; simp [ffCells] at hj)
    | none =>
      obtain ⟨A0, n0, c0, hv0⟩ := own_slice hown
      have hle : n0 ≤ c0 := by
        rcases hown.2 with ⟨h1, _⟩ | ⟨g, cap, cur, h1, _, _, h2, _⟩
        · rw [h1] at hv0; cases hv0; exact Nat.le_refl _
        · rw [h1] at hv0; cases hv0; exact h2
      subst hv0
      have hrun := run_append_nothing (P := Try.prog) w 23 23 o.type 29 i0 Try.underlying23 hi A0 n0 c0 hle xv (by rw [he, hz1]; exact Src.ofNil _ Try.underlying23 c)
      unfold Oper.wp execOp
      simp only [ho, resolve, invoke, builtin, Sem.run_bind, Sem.run_pure, Result.andThen_ok, List.map_toArray, List.map_cons, List.map_nil, hs, hx, hrun]
      exact h _ _ (by rw [List.append_nil]; exact hown) ⟨rfl, rfl, rfl, Nat.le_refl _, fun _ _ _ => rfl⟩ (.inl rfl)
  · refine fin ⟨b, off, none⟩ c he fun j u hj => ?_
    obtain ⟨i, k, f, hf, hk, rfl⟩ := ffCells_at j u hj
    rw [Go.WideShapes.add_plain, ← Nat.add_assoc]
    exact hc i f hf k u hk
theorem row_new {w : World} {b : Nat} {f : FactV} {cs : Array Value} (hcs : f.cells = cs) (h : RowAt w b 29 cs) : ∀ (j : Nat) u, f.cells.toList[j]? = some u → w.cell? ((⟨b, 0, none⟩ : Addr).add j) = some u := by
  subst hcs
  intro j u hj
  have e : ((⟨b, 0, none⟩ : Addr).add j) = ⟨b, j, none⟩ := by cases j <;> simp [Addr.add]
  rw [e, h.cell]
  simpa using hj
theorem ne_own {v0 v : Value} {n b : Nat} (h : v.ownBlock = v0.ownBlock ∨ v.ownBlock = some n) (h0 : v0.ownBlock ≠ some b) (h1 : n ≠ b) (e : v.ownBlock = some b) : False := by
  rcases h with h | h
  · exact h0 (h.symm.trans e)
  · exact h1 (Option.some.inj (h.symm.trans e))
theorem own_row_ne {w : World} {base g : Nat} {v : Value} {l : List FactV} {cs : Array Value} (h : OwnF w base v l) (hr : RowAt w g 32 cs) (e : some g = v.ownBlock) : False := by
  rcases h.2 with ⟨h1, _⟩ | ⟨g', cap, cur, hv, _, hg, _⟩
  · rw [h1] at e; cases e
  · rw [hv] at e
    simp [Value.ownBlock] at e
    subst e
    have h2 := hr.symm.trans hg
    simp at h2
/-- a base's store leaves lists of facts as they are -/
theorem OwnF.far {w : World} {b g : Nat} {v : Value} {l : List FactV} {old : Array Value} (h : OwnF w b v l) (hr : RowAt w g 32 old) (cs : Array Value) : OwnF (w.setRow g cs) b v l := by
  refine ⟨h.1, ?_⟩
  rcases h.2 with h0 | ⟨g', cap, cur, hv, hbg, hg, rest⟩
  · exact .inl h0
  · refine .inr ⟨g', cap, cur, hv, hbg, ?_, rest⟩
    have hne : g ≠ g' := fun e => by
      subst e
      have h2 := hr.symm.trans hg
      simp at h2
    rw [setRow_other hne]
    exact hg
theorem Lists.far {w : World} {b g : Nat} {bs old : Array Value} {fs : List FactV} (h : Lists w b bs fs) (hr : RowAt w g 32 old) (cs : Array Value) : Lists (w.setRow g cs) b bs fs :=
  ⟨h.size, fun q hq => by obtain ⟨v, h1, h2⟩ := h.own q hq; exact ⟨v, h1, h2.far hr cs⟩, h.apart⟩
end Go.Proofs.Ytgjajhopjcdflaa
