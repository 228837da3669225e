/- royaltylaw16.ExchangeOnce: partial sums over the grid of territories and periods. -/
import Derived.Test.YtdackmefkccipaaLoA
namespace Go.Proofs.Ytdackmefkccipaa
open Go Go.RowKit Go.Lib Go.Shelf

theorem cell_bd {rates : List FactV} (hr : ∀ f ∈ rates, Made f ∧ f.n 0 = 7) (t p : Int) : ∀ fs : List FactV, (∀ f ∈ fs, Made f) → 0 ≤ cellSum rates t p fs ∧ cellSum rates t p fs ≤ 20000000000000 * fs.length
  | [], _ => by simp [cellSum]
  | f :: fs, hm => by
    have ih := cell_bd hr t p fs fun g hg => hm g (by simp [hg])
    have hc := cv_bd rates f
    have hs := cv_small hr (hm f (by simp))
    have hx : 0 ≤ (if atTest t p f then cv rates f else 0) ∧ (if atTest t p f then cv rates f else 0) ≤ 20000000000000 := by split <;> omega
    simp only [cellSum, List.length_cons]
    omega
theorem all_bd {rates : List FactV} (hr : ∀ f ∈ rates, Made f ∧ f.n 0 = 7) : ∀ fs : List FactV, (∀ f ∈ fs, Made f) → 0 ≤ allSum rates fs ∧ allSum rates fs ≤ 20000000000000 * fs.length
  | [], _ => by simp [allSum]
  | f :: fs, hm => by
    have ih := all_bd hr fs fun g hg => hm g (by simp [hg])
    have hc := cv_bd rates f
    have hs := cv_small hr (hm f (by simp))
    simp only [allSum, List.length_cons]
    omega
theorem allSum_take {rates fs : List FactV} {k : Nat} {f : FactV} (h : fs[k]? = some f) : allSum rates (fs.take (k + 1)) = allSum rates (fs.take k) + cv rates f := by
  obtain ⟨h1, h2⟩ := List.getElem?_eq_some_iff.1 h
  rw [List.take_succ_eq_append_getElem h1, h2, all_app]
  simp [allSum]
theorem amounts_app : ∀ l r : List (Int × Int), amounts (l ++ r) = amounts l + amounts r
  | [], r => by simp [amounts]
  | x :: l, r => by simp only [List.cons_append, amounts, amounts_app l r]; omega
theorem amounts_take {l : List (Int × Int)} {k : Nat} {x y : Int} (h : l[k]? = some (x, y)) : amounts (l.take (k + 1)) = amounts (l.take k) + y := by
  obtain ⟨h1, h2⟩ := List.getElem?_eq_some_iff.1 h
  rw [List.take_succ_eq_append_getElem h1, h2, amounts_app]
  simp [amounts]
theorem amounts_bd : ∀ l : List (Int × Int), (∀ z ∈ l, 0 ≤ z.2 ∧ z.2 ≤ 1000000000000000) → 0 ≤ amounts l ∧ amounts l ≤ 1000000000000000 * l.length
  | [], _ => by simp [amounts]
  | x :: l, h => by
    have ih := amounts_bd l fun z hz => h z (by simp [hz])
    have := h x (by simp)
    simp only [amounts, List.length_cons]
    omega
theorem sub_each {fs rates : List FactV} {t p : Int} : ∀ z ∈ subSpec fs rates t p, 0 ≤ z.2 ∧ z.2 ≤ 1000000000000000 := by
  intro z hz
  unfold subSpec at hz
  obtain ⟨f, _, hf⟩ := List.mem_filterMap.1 hz
  unfold subPick at hf
  split at hf
  · cases hf
    exact ⟨(convSpec_bd rates _ _ _).1, (convSpec_bd rates _ _ _).2.1⟩
  · cases hf
theorem sub_len (fs rates : List FactV) (t p : Int) : (subSpec fs rates t p).length ≤ fs.length := by
  unfold subSpec
  exact List.length_filterMap_le _ _
def rowTo (g : Nat → Nat → Int) (t : Nat) : Nat → Int
  | 0 => 0
  | p + 1 => rowTo g t p + g t p
def gridTo (g : Nat → Nat → Int) : Nat → Int
  | 0 => 0
  | t + 1 => gridTo g t + rowTo g t 3
theorem row_bd {g : Nat → Nat → Int} (h : ∀ t p, 0 ≤ g t p ∧ g t p ≤ 2000000000000000) (t : Nat) : ∀ p : Nat, 0 ≤ rowTo g t p ∧ rowTo g t p ≤ 2000000000000000 * p
  | 0 => by simp [rowTo]
  | p + 1 => by
    have ih := row_bd h t p
    have := h t p
    simp only [rowTo]
    omega
theorem grid_bd {g : Nat → Nat → Int} (h : ∀ t p, 0 ≤ g t p ∧ g t p ≤ 2000000000000000) : ∀ t : Nat, 0 ≤ gridTo g t ∧ gridTo g t ≤ 6000000000000000 * t
  | 0 => by simp [gridTo]
  | t + 1 => by
    have ih := grid_bd h t
    have := row_bd h t 3
    simp only [gridTo]
    omega
/-- what a territory receives in a period, in all -/
def got (R5 R6 R7 : List FactV) (t p : Nat) : Int := revSpec R5 R7 t p + amounts (subSpec R6 R7 t p)
theorem got_eq {w : World} {a b c : Value} {R5 R6 R7 : List FactV} (h : Lists w a b c R5 R6 R7) (t p : Nat) : got R5 R6 R7 t p = cellSum R7 t p R5 + cellSum R7 t p R6 := by
  have hl := h.len
  have := (rev_sum h.m7 t p R5 0 (fun f hf => (h.m5 f hf).1) (by omega) (by omega)).1
  unfold got revSpec
  rw [this, sub_sum]; omega
theorem got_bd {w : World} {a b c : Value} {R5 R6 R7 : List FactV} (h : Lists w a b c R5 R6 R7) (t p : Nat) : 0 ≤ got R5 R6 R7 t p ∧ got R5 R6 R7 t p ≤ 2000000000000000 := by
  have hl := h.len
  have h1 := cell_bd h.m7 t p R5 fun f hf => (h.m5 f hf).1
  have h2 := cell_bd h.m7 t p R6 fun f hf => (h.m6 f hf).1
  rw [got_eq h]
  omega
/-- the stage's theorem, in plain words -/
theorem once_law {w : World} {a b c : Value} {R5 R6 R7 : List FactV} (h : Lists w a b c R5 R6 R7) : gridTo (got R5 R6 R7) 3 = allSum R7 (R5 ++ R6) := by
  have h1 := grid_sum (rates := R7) R5 fun f hf => (h.m5 f hf).1
  have h2 := grid_sum (rates := R7) R6 fun f hf => (h.m6 f hf).1
  rw [all_app, ← h1, ← h2]
  have e : ∀ g : Nat → Nat → Int, gridTo g 3 = 0 + (0 + g 0 0 + g 0 1 + g 0 2) + (0 + g 1 0 + g 1 1 + g 1 2) + (0 + g 2 0 + g 2 1 + g 2 2) := fun g => rfl
  have c0 : ((0 : Nat) : Int) = 0 := rfl
  have c1 : ((1 : Nat) : Int) = 1 := rfl
  have c2 : ((2 : Nat) : Int) = 2 := rfl
  simp only [e, got_eq h, c0, c1, c2]
  omega
theorem rev_bd {w : World} {a b c : Value} {R5 R6 R7 : List FactV} (h : Lists w a b c R5 R6 R7) (t p : Nat) : 0 ≤ revSpec R5 R7 t p ∧ revSpec R5 R7 t p ≤ 1000000000000000 := by
  have hl := h.len
  have h1 := rev_sum h.m7 t p R5 0 (fun f hf => (h.m5 f hf).1) (by omega) (by omega)
  have h2 := cell_bd h.m7 t p R5 fun f hf => (h.m5 f hf).1
  unfold revSpec
  rw [h1.1]
  omega
end Go.Proofs.Ytdackmefkccipaa
