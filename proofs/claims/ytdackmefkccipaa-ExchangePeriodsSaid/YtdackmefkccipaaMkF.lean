/- Lists of facts that a function makes by append. -/
import Derived.Test.YtdackmefkccipaaExJ
import Derived.Test.YtdackmefkccipaaExN
namespace Go.Proofs.Ytdackmefkccipaa
open Go Go.RowKit Go.Lib Go.Shelf

def fCells (l : List FactV) : List Value := l.flatMap fun f => f.cells.toList
theorem fCells_len (l : List FactV) : (fCells l).length = l.length * 18 := by
  unfold fCells
  induction l with
  | nil => rfl
  | cons f l ih => simp only [List.flatMap_cons, List.length_append, List.length_cons, ih, Array.length_toList, FactV.cells_size]; omega
theorem fCells_app (l : List FactV) (f : FactV) : fCells (l ++ [f]) = fCells l ++ f.cells.toList := by simp [fCells]
theorem fCells_get (l : List FactV) : ∀ (i : Nat) (f : FactV), l[i]? = some f → ∀ j x, f.cells[j]? = some x → (fCells l)[i * 18 + j]? = some x := by
  induction l with
  | nil => intro i f h; simp at h
  | cons z l ih =>
    intro i f h j x hx
    have e : fCells (z :: l) = z.cells.toList ++ fCells l := rfl
    have hj : j < 18 := by
      have := (Array.getElem?_eq_some_iff.1 hx).1
      rw [FactV.cells_size] at this; exact this
    cases i with
    | zero =>
      simp at h
      subst h
      rw [e, Nat.zero_mul, Nat.zero_add, List.getElem?_append_left (by rw [Array.length_toList, FactV.cells_size]; exact hj), Array.getElem?_toList]
      exact hx
    | succ i =>
      rw [e, List.getElem?_append_right (by rw [Array.length_toList, FactV.cells_size]; omega), Array.length_toList, FactV.cells_size, show (i + 1) * 18 + j - 18 = i * 18 + j from by omega]
      exact ih i f (by simpa using h) j x hx

/-- a slice of facts in a block of its own, from the block 'base' on -/
def OwnF (w : World) (base : Nat) (v : Value) (l : List FactV) : Prop := w.ownsRow base 41 18 v l.length (fCells l)
theorem OwnF.nil (w : World) (base : Nat) : OwnF w base (.slice none 0 0) [] := World.ownsRow_nil _ _ _ _
theorem OwnF.facts {w : World} {base : Nat} {v : Value} {l : List FactV} (h : OwnF w base v l) : FactsAt w v l := by
  rcases h.2 with ⟨rfl, hn⟩ | ⟨g, cap, cur, rfl, _, hg, hnc, _, hcs, ht⟩
  · exact .inl ⟨List.length_eq_zero_iff.1 hn, none, 0, by rfl⟩
  · refine .inr ⟨g, 0, cap, rfl, (Array.getElem?_eq_some_iff.1 hg).1, fun i f hi j x hx => ?_⟩
    have h1 := fCells_get l i f hi j x hx
    rw [← ht] at h1
    rw [cell_of_row _ _ _ _ _ _ hg, Nat.zero_add, ← Array.getElem?_toList]
    rw [List.getElem?_take] at h1
    split at h1
    · exact h1
    · cases h1
theorem OwnF.below {w w' : World} {base : Nat} {v : Value} {l : List FactV} (h : OwnF w base v l) (hb : Below w.heap.size w w') : OwnF w' base v l := by
  refine ⟨h.1, ?_⟩
  rcases h.2 with h0 | ⟨g, cap, cur, hv, hbg, hg, rest⟩
  · exact .inl h0
  · exact .inr ⟨g, cap, cur, hv, hbg, (hb.block g (Array.getElem?_eq_some_iff.1 hg).1).trans hg, rest⟩
theorem OwnF.mono {w : World} {b c : Nat} {v : Value} {l : List FactV} (h : OwnF w c v l) (hb : b ≤ c) : OwnF w b v l := by
  refine ⟨h.1, ?_⟩
  rcases h.2 with h0 | ⟨g, cap, cur, hv, hbg, rest⟩
  · exact .inl h0
  · exact .inr ⟨g, cap, cur, hv, by omega, rest⟩
/-- a block below 'base' may change -/
theorem OwnF.other {w w' : World} {base k : Nat} {v : Value} {l : List FactV} (h : OwnF w base v l) (hk : k < base) (ho : ∀ j, j ≠ k → w'.heap[j]? = w.heap[j]?) : OwnF w' base v l := by
  refine ⟨h.1, ?_⟩
  rcases h.2 with h0 | ⟨g, cap, cur, hv, hbg, hg, rest⟩
  · exact .inl h0
  · exact .inr ⟨g, cap, cur, hv, hbg, (ho g (by omega)).trans hg, rest⟩
theorem fact_info : (Try.prog.info? 41).map (fun i => (i.zero, i.size, i.bytes)) = some (some (.agg zeroF.cells), 18, 152) := by kernel_rfl
theorem fact_new (w : World) (f : FactV) (t : TypeId) : ∀ (j : Nat) u, f.cells.toList[j]? = some u → (w.alloc (.cells f.cells t)).cell? ((⟨w.heap.size, 0, none⟩ : Addr).add j) = some u := by
  intro j u h
  have := cell_of_row _ _ j _ _ _ (heap_alloc_last w (.cells f.cells t))
  have e : ((⟨w.heap.size, 0, none⟩ : Addr).add j) = ⟨w.heap.size, j, none⟩ := by cases j <;> simp [Addr.add]
  rw [e, this, ← Array.getElem?_toList]
  exact h
end Go.Proofs.Ytdackmefkccipaa
