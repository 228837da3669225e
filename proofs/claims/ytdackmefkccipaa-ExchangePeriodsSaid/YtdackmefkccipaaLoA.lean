/- Whole slices of facts appended; sums over a base's lists in plain words. -/
import Derived.Test.YtdackmefkccipaaMkQ
import Derived.Deep.Upon
namespace Go.Proofs.Ytdackmefkccipaa
open Go Go.RowKit Go.Lib Go.Shelf

theorem fCells_join (l r : List FactV) : fCells (l ++ r) = fCells l ++ fCells r := by simp [fCells]
theorem fCells_at {R : List FactV} (j : Nat) (u : Value) (h : (fCells R)[j]? = some u) : ∃ (i k : Nat) (f : FactV), R[i]? = some f ∧ f.cells[k]? = some u ∧ j = i * 18 + k := by
  have hl := (List.getElem?_eq_some_iff.1 h).1
  rw [fCells_len] at hl
  obtain ⟨f, hf⟩ : ∃ f, R[j / 18]? = some f := ⟨_, List.getElem?_eq_getElem (by omega)⟩
  have hk : j % 18 < f.cells.size := by rw [FactV.cells_size]; omega
  refine ⟨j / 18, j % 18, f, hf, ?_, by omega⟩
  have h2 := fCells_get R (j / 18) f hf (j % 18) _ (Array.getElem?_eq_getElem hk)
  rw [show j / 18 * 18 + j % 18 = j from by omega, h] at h2
  rw [Array.getElem?_eq_getElem hk, ← h2]
theorem fCells_ones (R : List FactV) : ∀ u ∈ fCells R, u.oneCell' = true := by
  intro u hu
  obtain ⟨f, _, h⟩ := List.mem_flatMap.1 hu
  exact fact_ones f u h
theorem wp_append_facts {o : Oper} {a : Act} {w : World} {K : Act → World → Prop} {Q : Exit → Act → World → Prop} (s x : Operand) (base : Nat) (L R : List FactV) (v xv : Value) (hown : OwnF w base v L) (hR : FactsAt w xv R) (hlen : L.length + R.length ≤ 1000000) (hbase : base ≤ w.heap.size)
    (ho : o.op = .call { callee := .builtin .append, args := #[s, x], argTypes := #[23, 23] })
    (hs : a.eval s = v) (hx : a.eval x = xv)
    (h : ∀ v' w', OwnF w' base v' (L ++ R) → Below base w w' → K (a.put o.dst v') w') : o.wp Try.prog a w K Q := by
  obtain ⟨i0, hi, hz0, hz1, hz2⟩ := info_parts fact_info
  have fin : ∀ (ad : Addr) c, xv = .slice (some ad) R.length c → (∀ (j : Nat) u, (fCells R)[j]? = some u → w.cell? (ad.add j) = some u) → o.wp Try.prog a w K Q := by
    intro ad c he hn
    refine wp_append_own _ s x 23 ho base 41 i0 _ 18 152 Try.underlying23 hi hz0 hz1 hz2 rfl (by decide) v L.length (fCells L) hs hown ad R.length c (fCells R) (hx.trans he) (fCells_len R) hn (fCells_ones R) (by unfold maxLen; omega) (by omega) hbase fun v' w' h1 h2 _ => h v' w' ?_ ?_
    · unfold OwnF
      rw [fCells_join, List.length_append]
      exact h1
    · exact (Below.refl _ _).grown h2 hbase (fun j e => (hown.lt j e).1)
  rcases hR with ⟨rfl, A, c, he⟩ | ⟨b, off, c, he, hlt, hc⟩
  · cases A with
    | some ad => exact fin ad c he (by intro j u hj; simp [fCells] at hj)
    | none =>
      obtain ⟨A0, n0, c0, hv0⟩ := hown.slice
      have hle : n0 ≤ c0 := by
        rcases hown.2 with ⟨h1, _⟩ | ⟨g, cap, cur, h1, _, _, h2, _⟩
        · rw [h1] at hv0; cases hv0; exact Nat.le_refl _
        · rw [h1] at hv0; cases hv0; exact h2
      subst hv0
      have hrun := run_append_nothing (P := Try.prog) w 23 23 o.type 41 i0 Try.underlying23 hi A0 n0 c0 hle xv (by rw [he, hz1]; exact Src.ofNil _ Try.underlying23 c)
      unfold Oper.wp execOp
      simp only [ho, resolve, invoke, builtin, Sem.run_bind, Sem.run_pure, Result.andThen_ok, List.map_toArray, List.map_cons, List.map_nil, hs, hx, hrun]
      exact h _ _ (by rw [List.append_nil]; exact hown) (Below.refl _ _)
  · refine fin ⟨b, off, none⟩ c he fun j u hj => ?_
    obtain ⟨i, k, f, hf, hk, rfl⟩ := fCells_at j u hj
    rw [Go.WideShapes.add_plain, ← Nat.add_assoc]
    exact hc i f hf k u hk

/-! ### sums -/
/-- what a fact is worth in its own period -/
def cv (rates : List FactV) (f : FactV) : Int := (convSpec rates (f.n 13) (f.n 15) (f.n 3)).1
def cellSum (rates : List FactV) (t p : Int) (fs : List FactV) : Int := match fs with
  | [] => 0
  | f :: fs => (if atTest t p f then cv rates f else 0) + cellSum rates t p fs
def allSum (rates : List FactV) (fs : List FactV) : Int := match fs with
  | [] => 0
  | f :: fs => cv rates f + allSum rates fs
theorem cv_bd (rates : List FactV) (f : FactV) : 0 ≤ cv rates f ∧ cv rates f ≤ 1000000000000000 := ⟨(convSpec_bd rates _ _ _).1, (convSpec_bd rates _ _ _).2.1⟩
theorem cv_at {rates : List FactV} {t p : Int} {f : FactV} (h : atTest t p f = true) : (convSpec rates (f.n 13) (f.n 15) p).1 = cv rates f := by
  unfold atTest at h
  rw [Bool.and_eq_true, beq_iff_eq, beq_iff_eq] at h
  unfold cv
  rw [h.2]
theorem Made.amount {f : FactV} (h : Made f) : 0 ≤ f.n 13 ∧ f.n 13 ≤ 10000000000 := by
  cases h <;> (constructor <;> (simp only [mk5, mk6, mk7]; omega))
theorem Made.place {f : FactV} (h : Made f) : 0 ≤ f.n 8 ∧ f.n 8 ≤ 2 ∧ 0 ≤ f.n 3 ∧ f.n 3 ≤ 2 := by
  cases h <;> (refine ⟨?_, ?_, ?_, ?_⟩ <;> (simp only [mk5, mk6, mk7]; omega))
theorem cv_small {rates : List FactV} (hr : ∀ f ∈ rates, Made f ∧ f.n 0 = 7) {f : FactV} (hf : Made f) : cv rates f ≤ 20000000000000 := by
  unfold cv
  obtain ⟨⟨r, t⟩, h⟩ : ∃ x, rateSpec rates (f.n 15) (f.n 3) = x := ⟨_, rfl⟩
  have hs := rate_small hr (f.n 15) (f.n 3)
  rw [h] at hs
  rw [conv_small h hs.1 hs.2 hf.amount.1 (by have := hf.amount.2; omega)]
  cases t
  · simp
  · have h3 : f.n 13 * r ≤ 10000000000 * 10000000 := Int.mul_le_mul hf.amount.2 hs.2 hs.1 (by omega)
    simp only [if_true]
    omega
theorem rev_sum {rates : List FactV} (hr : ∀ f ∈ rates, Made f ∧ f.n 0 = 7) (t p : Int) : ∀ (fs : List FactV) (acc : Int), (∀ f ∈ fs, Made f) → 0 ≤ acc → acc + 20000000000000 * fs.length ≤ 1000000000000000 → fs.foldl (revStep rates t p) acc = acc + cellSum rates t p fs ∧ 0 ≤ cellSum rates t p fs
  | [], acc, _, _, _ => by simp [cellSum]
  | f :: fs, acc, hm, h0, hb => by
    have hc := cv_bd rates f
    have hs := cv_small hr (hm f (by simp))
    simp only [List.length_cons] at hb
    have hstep : revStep rates t p acc f = acc + (if atTest t p f then cv rates f else 0) := by
      unfold revStep
      cases h : atTest t p f
      · simp
      · rw [cv_at h, if_pos rfl, if_neg (by omega), if_pos rfl]
    have hx : 0 ≤ (if atTest t p f then cv rates f else 0) ∧ (if atTest t p f then cv rates f else 0) ≤ 20000000000000 := by split <;> omega
    have ih := rev_sum hr t p fs (acc + (if atTest t p f then cv rates f else 0)) (fun g hg => hm g (by simp [hg])) (by omega) (by omega)
    rw [List.foldl_cons, hstep, ih.1]
    refine ⟨?_, ?_⟩
    · simp only [cellSum]; omega
    · simp only [cellSum]; omega
def amounts (l : List (Int × Int)) : Int := match l with
  | [] => 0
  | x :: l => x.2 + amounts l
theorem sub_sum (rates : List FactV) (t p : Int) : ∀ fs : List FactV, amounts (subSpec fs rates t p) = cellSum rates t p fs
  | [] => rfl
  | f :: fs => by
    have ih := sub_sum rates t p fs
    unfold subSpec at ih ⊢
    simp only [cellSum]
    rw [← ih]
    have hz := (convSpec_bd rates (f.n 13) (f.n 15) p).2.2
    cases h : atTest t p f
    · rw [List.filterMap_cons_none (by simp [subPick, h])]; simp
    · cases h2 : (convSpec rates (f.n 13) (f.n 15) p).2
      · rw [List.filterMap_cons_none (by simp [subPick, h2]), ← cv_at h, hz h2]; simp
      · rw [List.filterMap_cons_some (b := (f.n 5, (convSpec rates (f.n 13) (f.n 15) p).1)) (by simp [subPick, h, h2]), ← cv_at h]
        simp [amounts]
theorem grid_sum {rates : List FactV} : ∀ fs : List FactV, (∀ f ∈ fs, Made f) →
    cellSum rates 0 0 fs + cellSum rates 0 1 fs + cellSum rates 0 2 fs + cellSum rates 1 0 fs + cellSum rates 1 1 fs + cellSum rates 1 2 fs + cellSum rates 2 0 fs + cellSum rates 2 1 fs + cellSum rates 2 2 fs = allSum rates fs
  | [], _ => rfl
  | f :: fs, hm => by
    have ih := grid_sum (rates := rates) fs fun g hg => hm g (by simp [hg])
    obtain ⟨h1, h2, h3, h4⟩ := (hm f (by simp)).place
    simp only [cellSum, allSum]
    rw [← ih]
    unfold atTest
    rcases (by omega : f.n 8 = 0 ∨ f.n 8 = 1 ∨ f.n 8 = 2) with h | h | h <;> rcases (by omega : f.n 3 = 0 ∨ f.n 3 = 1 ∨ f.n 3 = 2) with h' | h' | h' <;> (rw [h, h']; simp; omega)
theorem all_app (rates : List FactV) : ∀ l r : List FactV, allSum rates (l ++ r) = allSum rates l + allSum rates r
  | [], r => by simp [allSum]
  | f :: l, r => by simp only [List.cons_append, allSum, all_app rates l r]; omega
end Go.Proofs.Ytdackmefkccipaa
