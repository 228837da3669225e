/- Plain laws of subscriptions; lists of shares in memory. -/
import Derived.Test.YtdackmefkccipaaExG
import Derived.Maps.AppendAt
namespace Go.Proofs.Ytdackmefkccipaa
open Go Go.RowKit Go.Lib Go.Shelf

def shCells (l : List (Int × Int)) : List Value := l.flatMap fun x => [.int .i64 x.1, .int .i64 x.2]
theorem shCells_len (l : List (Int × Int)) : (shCells l).length = l.length * 2 := by
  unfold shCells
  induction l with
  | nil => rfl
  | cons x l ih => rw [List.flatMap_cons, List.length_append, ih, List.length_cons]; simp; omega
theorem shCells_app (l : List (Int × Int)) (x y : Int) : shCells (l ++ [(x, y)]) = shCells l ++ [.int .i64 x, .int .i64 y] := by simp [shCells]
theorem shCells_get (l : List (Int × Int)) : ∀ (i : Nat) (x y : Int), l[i]? = some (x, y) → (shCells l)[i * 2]? = some (.int .i64 x) ∧ (shCells l)[i * 2 + 1]? = some (.int .i64 y) := by
  induction l with
  | nil => intro i x y h; simp at h
  | cons z l ih =>
    intro i x y h
    cases i with
    | zero => simp at h; subst h; simp [shCells]
    | succ i =>
      have := ih i x y (by simpa using h)
      have e : shCells (z :: l) = .int .i64 z.1 :: .int .i64 z.2 :: shCells l := rfl
      rw [e, show (i + 1) * 2 = i * 2 + 1 + 1 by omega, List.getElem?_cons_succ, List.getElem?_cons_succ, List.getElem?_cons_succ, List.getElem?_cons_succ]
      exact this
/-- a slice of shares that is empty, or lies in memory -/
def SharesAt (w : World) (v : Value) (l : List (Int × Int)) : Prop :=
  (l = [] ∧ ∃ A c, v = .slice A 0 c) ∨ ∃ b o c, v = .slice (some ⟨b, o, none⟩) l.length c ∧ b < w.heap.size ∧ ∀ (i : Nat) x y, l[i]? = some (x, y) → w.cell? ⟨b, o + i * 2, none⟩ = some (.int .i64 x) ∧ w.cell? ⟨b, o + i * 2 + 1, none⟩ = some (.int .i64 y)
theorem SharesAt.below {w w' : World} {v : Value} {l : List (Int × Int)} (h : SharesAt w v l) (hb : Below w.heap.size w w') : SharesAt w' v l := by
  rcases h with h | ⟨b, o, c, rfl, hlt, h⟩
  · exact .inl h
  · exact .inr ⟨b, o, c, rfl, Nat.lt_of_lt_of_le hlt hb.size, fun i x y hi => ⟨(hb.cell (p := ⟨b, o + i * 2, none⟩) hlt).trans (h i x y hi).1, (hb.cell (p := ⟨b, o + i * 2 + 1, none⟩) hlt).trans (h i x y hi).2⟩⟩
theorem SharesAt.of_own {w : World} {base : Nat} {v : Value} {l : List (Int × Int)} (h : w.ownsRow base 44 2 v l.length (shCells l)) : SharesAt w v l := by
  cases l with
  | nil =>
    rcases h.2 with ⟨rfl, _⟩ | ⟨g, cap, cur, rfl, _⟩
    · exact .inl ⟨rfl, _, _, rfl⟩
    · exact .inl ⟨rfl, _, _, rfl⟩
  | cons z l =>
    obtain ⟨g, cap, rfl⟩ := ownsRow_succ (k := l.length) h
    refine .inr ⟨g, 0, cap, rfl, (h.lt g rfl).2, fun i x y hi => ?_⟩
    obtain ⟨h1, h2⟩ := shCells_get _ i x y hi
    have c1 := h.cells rfl _ _ h1
    have c2 := h.cells rfl _ _ h2
    rw [addr_add] at c1 c2
    rw [Nat.zero_add]
    exact ⟨c1, c2⟩

theorem cells_two_new (w : World) (t : TypeId) (a b : Value) : ∀ (j : Nat) u, [a, b][j]? = some u → (w.alloc (.cells #[a, b] t)).cell? ((⟨w.heap.size, 0, none⟩ : Addr).add j) = some u := by
  intro j u h
  rw [addr_add, cell_of_row _ _ j #[a, b] t (0, 0) (heap_alloc_last w _)]
  simpa using h

def subPick (rates : List FactV) (t p : Int) (f : FactV) : Option (Int × Int) := if atTest t p f && (convSpec rates (f.n 13) (f.n 15) p).2 then some (f.n 5, (convSpec rates (f.n 13) (f.n 15) p).1) else none
def subSpec (fs rates : List FactV) (t p : Int) : List (Int × Int) := fs.filterMap (subPick rates t p)
def subTo (fs rates : List FactV) (t p : Int) (k : Nat) : List (Int × Int) := (fs.take k).filterMap (subPick rates t p)
theorem subTo_succ {fs : List FactV} {k : Nat} {f : FactV} (h : fs[k]? = some f) (rates : List FactV) (t p : Int) : subTo fs rates t p (k + 1) = subTo fs rates t p k ++ (subPick rates t p f).toList := by
  unfold subTo
  obtain ⟨h1, h2⟩ := List.getElem?_eq_some_iff.1 h
  rw [List.take_succ_eq_append_getElem h1, h2, List.filterMap_append]
  cases hq : subPick rates t p f <;> simp [hq]
theorem subTo_all (fs rates : List FactV) (t p : Int) : subTo fs rates t p fs.length = subSpec fs rates t p := by
  unfold subTo subSpec; rw [List.take_length]
theorem subTo_len (fs rates : List FactV) (t p : Int) (k : Nat) : (subTo fs rates t p k).length ≤ fs.length := by
  unfold subTo
  exact Nat.le_trans (List.length_filterMap_le _ _) (by simp; omega)
theorem share_info : (Try.prog.info? 44).map (fun i => (i.zero, i.size, i.bytes)) = some (some (.agg #[.int .i64 0, .int .i64 0]), 2, 16) := by kernel_rfl
end Go.Proofs.Ytdackmefkccipaa
