/- Plain facts of Valid's loop. -/
import Derived.Test.YtfiabonacpepnaaGreatDoorFkG
namespace Go.Proofs.YtfiabonacpepnaaGreatDoor.Fb
open Go Go.RowKit Go.Lib Go.Shelf Go.Maps

theorem fCells_get (rb : Nat) : ∀ (l : List (Nat × Int × Int)) (i : Nat) (x : Nat × Int × Int), l[i]? = some x → (fCells rb l)[i * 3]? = some (.pointer (some ⟨rb, x.1, none⟩)) ∧ (fCells rb l)[i * 3 + 1]? = some (.int .i64 x.2.1) ∧ (fCells rb l)[i * 3 + 2]? = some (.int .i64 x.2.2)
  | [], i, x, h => by simp at h
  | y :: l, 0, x, h => by
    simp at h
    subst h
    exact ⟨rfl, rfl, rfl⟩
  | y :: l, i + 1, x, h => by
    have ih := fCells_get rb l i x (by simpa using h)
    have e : fCells rb (y :: l) = .pointer (some ⟨rb, y.1, none⟩) :: .int .i64 y.2.1 :: .int .i64 y.2.2 :: fCells rb l := rfl
    rw [e, show (i + 1) * 3 = i * 3 + 1 + 1 + 1 by omega, show i * 3 + 1 + 1 + 1 + 1 = (i * 3 + 1) + 1 + 1 + 1 by omega, show i * 3 + 1 + 1 + 1 + 2 = (i * 3 + 2) + 1 + 1 + 1 by omega]
    simpa using ih
theorem zeroF_nil (f : FactV) : (zeroF f [] false).cells = f.cells := by
  simp [zeroF, FactV.cells]
theorem zeroF_get (f : FactV) (l : List Nat) (t : Bool) (i : Nat) (hi : i ∉ l) : (zeroF f l t).n i = f.n i := by
  show (if i ∈ l then 0 else f.n i) = _
  rw [if_neg hi]
theorem zeroF_set (f : FactV) (l : List Nat) (i : Nat) (hi : i < 17) : (zeroF f l false).cells.setIfInBounds i (.int .i64 0) = (zeroF f (l ++ [i]) false).cells := by
  apply Array.ext_getElem?
  intro j
  rw [Array.getElem?_setIfInBounds]
  have hs : (zeroF f l false).cells.size = 18 := rfl
  by_cases hij : i = j
  · subst hij
    rw [if_pos rfl, if_pos (by omega), cells_get _ i hi]
    simp [zeroF]
  · rw [if_neg hij]
    by_cases hj : j < 17
    · rw [cells_get _ j hj, cells_get _ j hj]
      simp only [zeroF, List.mem_append, List.mem_singleton]
      have : j ≠ i := fun e => hij e.symm
      simp [this]
    · by_cases h17 : j = 17
      · subst h17; rfl
      · rw [Array.getElem?_eq_none (by show 18 ≤ j; omega), Array.getElem?_eq_none (by show 18 ≤ j; omega)]
theorem zeroF_text (f : FactV) (l : List Nat) : (zeroF f l false).cells.setIfInBounds 17 (.string ⟨#[]⟩) = (zeroF f l true).cells := by
  simp [zeroF, FactV.cells]
/-- the places of a kind's fields are apart, and below 17 -/
theorem fields_apart (f : FactV) : ((fieldsF f).map (·.1)).Nodup ∧ ∀ x ∈ fieldsF f, x.1 < 17 := by
  unfold fieldsF
  repeat' split
  all_goals first | exact ⟨by decide, by decide⟩ | (simp [f_claim]) | (simp)
end Go.Proofs.YtfiabonacpepnaaGreatDoor.Fb
