/- Words for TermsWhole: lists of terms built and appended. -/
import Derived.Test.YtejkgnlflhngbaaTmZ
import Derived.Test.YtejkgnlflhngbaaTmPp
import Derived.Test.YtejkgnlflhngbaaTmPl
import Derived.Deep.DeepCutAuto
namespace Go.Proofs.Ytejkgnlflhngbaa
open Go Go.RowKit Go.Lib Go.Shelf Go.Maps

theorem TermsIn.take {w : World} {A : Option Addr} {n c : Nat} {l : List TermV} (h : TermsIn w (.slice A n c) l) (m : Nat) (hm : m ≤ n) : TermsIn w (.slice A m c) (l.take m) := by
  rcases h with ⟨rfl, A', c', e⟩ | ⟨b, o, c', e, hlt, hc⟩
  · simp only [Value.slice.injEq] at e
    have : m = 0 := by omega
    subst this
    exact .inl ⟨rfl, A, c, rfl⟩
  · simp only [Value.slice.injEq] at e
    obtain ⟨rfl, rfl, rfl⟩ := e
    refine .inr ⟨b, o, c, by rw [List.length_take, Nat.min_eq_left hm], hlt, fun i t ht => hc i t ?_⟩
    rw [List.getElem?_take] at ht
    split at ht
    · exact ht
    · cases ht
theorem whole_shape (k : Nat) : ∃ xk xn xm, wholeT k = ⟨xk, xn, xm, 0, []⟩ := by
  unfold wholeT
  split <;> exact ⟨_, _, _, rfl⟩
theorem whole_valid (k : Nat) : validT (wholeT k) = true := by
  unfold wholeT
  split <;> decide
theorem whole_ok (k : Nat) : TermOk (wholeT k) := by
  unfold wholeT
  split <;> exact ⟨by decide, by simp, by simp⟩
theorem ownsRow_lt2 {w : World} {base : Nat} {T : TypeId} {k : Nat} {g n c : Nat} {xs : List Value} (h : w.ownsRow base T k (.slice (some ⟨g, 0, none⟩) n c) n xs) : g < w.heap.size := (World.ownsRow.lt h g rfl).2
theorem OwnT.mono {w : World} {b c : Nat} {v : Value} {L : List (TermV × Value)} (h : OwnT w c v L) (hb : b ≤ c) : OwnT w b v L := by
  refine ⟨⟨h.own.1, ?_⟩, fun p hp => (h.acc p hp).mono hb⟩
  rcases h.own.2 with h0 | ⟨g, cap, cur, hv, hbg, rest⟩
  · exact .inl h0
  · exact .inr ⟨g, cap, cur, hv, Nat.le_trans hb hbg, rest⟩
theorem own_lit (w : World) (t : TermV) (ht : t.acc = []) : OwnT (w.alloc (.cells (termC t (.slice none 0 0)) 52)) w.heap.size (.slice (some ⟨w.heap.size, 0, none⟩) 1 1) [(t, .slice none 0 0)] := by
  refine ⟨⟨?_, .inr ⟨w.heap.size, 1, _, rfl, Nat.le_refl _, heap_alloc_last w _, Nat.le_refl _, by unfold maxLen; omega, ?_, ?_⟩⟩, fun p hp => ?_⟩
  · simp [tCells, termC]
  · simp [termC]
  · simp [tCells, termC]
  · rw [List.mem_singleton.1 hp]
    dsimp only
    rw [ht]
    exact OwnI.nil _ _ _ _
theorem fill_term (t : TermV) (va : Value) : Instr.fill (fun i => some (i * 5, 5)) ((Array.range (1 * 5)).map ((Value.agg #[.int .i64 0, .int .i64 0, .int .i64 0, .int .i64 0, .slice none 0 0]).cells[· % (Value.agg #[.int .i64 0, .int .i64 0, .int .i64 0, .int .i64 0, .slice none 0 0]).cells.size]!)) [(0, .agg (termC t va))] = some (termC t va) := by kernel_rfl
theorem wp_build_term {o : Oper} {a : Act} {w : World} {K : Act → World → Prop} {Q : Exit → Act → World → Prop} (x : Operand) (t : TermV) (va : Value) (ho : o.op = .buildSlice 22 1 #[(0, x)]) (hx : a.eval x = .agg (termC t va))
    (h : K (a.put o.dst (.slice (some ⟨w.heap.size, 0, none⟩) 1 1)) (w.alloc (.cells (termC t va) 52))) : o.wp Try.prog a w K Q := by
  obtain ⟨i0, hi, hz0, hz1, hz2⟩ := info_parts term_info
  refine wp_buildSlice 22 52 1 #[(0, x)] ho (termC t va) i0 _ Try.underlying22 hi hz0 (by rw [hz1]; decide) (by rw [hz1]; decide) ?_ h
  rw [hz1]
  simp only [List.map_toArray, List.map_cons, List.map_nil, hx]
  exact fill_term t va
theorem tCells_ones {w : World} {base : Nat} : ∀ {L : List (TermV × Value)}, (∀ p ∈ L, OwnI 3 1 w base p.2 (p.1.acc.map fun a => [a])) → ∀ u ∈ tCells L, u.oneCell' = true
  | [], _, u, hu => by simp [tCells] at hu
  | p :: L, h, u, hu => by
    rcases List.mem_append.1 (show u ∈ (termC p.1 p.2).toList ++ tCells L from hu) with h1 | h1
    · obtain ⟨A, n, c, e⟩ := (h p List.mem_cons_self).slice3
      have : (termC p.1 p.2).all (·.oneCell') = true := by rw [e]; kernel_rfl
      rw [← Array.all_toList, List.all_eq_true] at this
      exact this u h1
    · exact tCells_ones (fun q hq => h q (List.mem_cons_of_mem _ hq)) u h1
def LC : Array Value := #[.int .i64 2, .int .i64 1000000, .int .i64 0, .int .i64 0, .slice none 0 0, .int .i64 1, .int .i64 1000000, .int .i64 9, .int .i64 0, .slice none 0 0, .int .i64 3, .int .i64 1000000, .int .i64 1, .int .i64 0, .slice none 0 0]
def HoldT (k : Nat) (t : TermV) : Prop := wholeT k = t
theorem whole_cells {w : World} {b : Nat} (hr : RowAt w b 52 LC) {kk : Nat} {xk xn xm : Int} (h : HoldT kk ⟨xk, xn, xm, 0, []⟩) (hk : kk < 3) : ∀ (j : Nat) v, (#[.int .i64 xk, .int .i64 xn, .int .i64 xm, .int .i64 0, .slice none 0 0] : Array Value)[j]? = some v → w.cell? ⟨b, kk * 5 + j, none⟩ = some v := by
  intro j v hv
  rw [hr.cell (kk * 5 + j)]
  have hj : j < 5 := (Array.getElem?_eq_some_iff.1 hv).1
  match kk, hk with
  | 0, _ =>
    have h' : (⟨2, 1000000, 0, 0, []⟩ : TermV) = ⟨xk, xn, xm, 0, []⟩ := h
    simp only [TermV.mk.injEq] at h'
    obtain ⟨rfl, rfl, rfl, _⟩ := h'
    match j, hj with
    | 0, _ | 1, _ | 2, _ | 3, _ | 4, _ => exact hv
  | 1, _ =>
    have h' : (⟨1, 1000000, 9, 0, []⟩ : TermV) = ⟨xk, xn, xm, 0, []⟩ := h
    simp only [TermV.mk.injEq] at h'
    obtain ⟨rfl, rfl, rfl, _⟩ := h'
    match j, hj with
    | 0, _ | 1, _ | 2, _ | 3, _ | 4, _ => exact hv
  | 2, _ =>
    have h' : (⟨3, 1000000, 1, 0, []⟩ : TermV) = ⟨xk, xn, xm, 0, []⟩ := h
    simp only [TermV.mk.injEq] at h'
    obtain ⟨rfl, rfl, rfl, _⟩ := h'
    match j, hj with
    | 0, _ | 1, _ | 2, _ | 3, _ | 4, _ => exact hv
/-- what the statement's second call of Settle leaves -/
def LeftW (row tc : Array Value) (B n16 : Nat) (w : World) (bq : List (Int × Int)) (s17 s20 : Value) (wx : World) : Prop :=
  ∃ g, s17 = .pointer (some ⟨g, 0, none⟩) ∧ RowAt wx g 24 row ∧ RowAt wx n16 52 tc ∧ Below B w wx ∧ IRows 2 wx s20 (bq.map p2)
theorem wp_append_terms {o : Oper} {a : Act} {w : World} {K : Act → World → Prop} {Q : Exit → Act → World → Prop} (s x : Operand) (base : Nat) (M L : List (TermV × Value)) (v xv : Value) (hM : OwnT w base v M) (hL : OwnT w base xv L) (hlen : M.length + L.length ≤ 1000000) (hbase : base ≤ w.heap.size)
    (ho : o.op = .call { callee := .builtin .append, args := #[s, x], argTypes := #[22, 22] })
    (hs : a.eval s = v) (hx : a.eval x = xv)
    (h : ∀ v' w', OwnT w' base v' (M ++ L) → w.grownBy w' v.ownBlock → K (a.put o.dst v') w') : o.wp Try.prog a w K Q := by
  obtain ⟨i0, hi, hz0, hz1, hz2⟩ := info_parts term_info
  rcases hL.own.2 with ⟨he, hn⟩ | ⟨g, cap, cur, he, _, hg, hnc, _, hcs, ht⟩
  · obtain ⟨A0, n0, c0, hv0⟩ := hM.slice3
    have hle : n0 ≤ c0 := by
      rcases hM.own.2 with ⟨h1, _⟩ | ⟨g, cap, cur, h1, _, _, h2, _⟩
      · rw [h1] at hv0; cases hv0; exact Nat.le_refl _
      · rw [h1] at hv0; cases hv0; exact h2
    subst hv0
    have hrun := run_append_nothing (P := Try.prog) w 22 22 o.type 52 i0 Try.underlying22 hi A0 n0 c0 hle xv (by rw [he, hz1]; exact Src.ofNil _ Try.underlying22 0)
    unfold Oper.wp execOp
    simp only [ho, resolve, invoke, builtin, Sem.run_bind, Sem.run_pure, Result.andThen_ok, List.map_toArray, List.map_cons, List.map_nil, hs, hx, hrun]
    exact h _ _ (by rw [List.length_eq_zero_iff.1 hn, List.append_nil]; exact hM) ⟨rfl, rfl, rfl, Nat.le_refl _, fun _ _ _ => rfl⟩
  · refine wp_append_own _ s x 22 ho base 52 i0 _ 5 56 Try.underlying22 hi hz0 hz1 hz2 rfl (by decide) v M.length (tCells M) hs hM.own ⟨g, 0, none⟩ L.length cap (tCells L) (hx.trans he) (tCells_len L) (fun j u hj => ?_) (tCells_ones hL.acc) (by unfold maxLen; omega) (by omega) hbase fun v' w' h1 h2 _ => h v' w' ⟨?_, ?_⟩ h2
    · rw [← ht] at hj
      rw [Go.WideShapes.add_plain, Nat.zero_add, cell_of_row _ _ _ _ _ _ hg, ← Array.getElem?_toList]
      rw [List.getElem?_take] at hj
      split at hj
      · exact hj
      · cases hj
    · have e : tCells (M ++ L) = tCells M ++ tCells L := by simp [tCells]
      rw [e, List.length_append]
      exact h1
    · intro p hp
      rcases List.mem_append.1 hp with h0 | h0
      · exact acc_kept (hM.acc p h0) hM.own h2
      · exact acc_kept (hL.acc p h0) hM.own h2
end Go.Proofs.Ytejkgnlflhngbaa
