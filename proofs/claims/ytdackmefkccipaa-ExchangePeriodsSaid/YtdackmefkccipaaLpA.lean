/- ExchangePeriods in plain words. -/
import Derived.Test.YtdackmefkccipaaLoA
namespace Go.Proofs.Ytdackmefkccipaa
open Go Go.RowKit Go.Lib Go.Shelf

theorem rate_own (R : List FactV) (c q : Int) : rateSpec (R.filter fun f => f.n 3 == q) c q = rateSpec R c q := by
  unfold rateSpec firstSpec
  rw [List.find?_filter]
  have e : (fun a : FactV => decide ((a.n 3 == q) = true ∧ rateTest c q a = true)) = rateTest c q := by
    funext a
    cases h1 : (a.n 3 == q) <;> cases h2 : rateTest c q a
    · simp
    · unfold rateTest at h2
      rw [h1] at h2
      simp at h2
    · simp
    · simp
  rw [e]
theorem conv_own (R : List FactV) (n c q : Int) : convSpec (R.filter fun f => f.n 3 == q) n c q = convSpec R n c q := by
  unfold convSpec
  rw [rate_own]
theorem rev_own (fs R : List FactV) (t q : Int) : revSpec fs (R.filter fun f => f.n 3 == q) t q = revSpec fs R t q := by
  unfold revSpec
  congr 1
  funext s f
  unfold revStep
  rw [conv_own]
theorem sub_own (fs R : List FactV) (t q : Int) : subSpec fs (R.filter fun f => f.n 3 == q) t q = subSpec fs R t q := by
  unfold subSpec
  congr 1
  funext f
  unfold subPick
  rw [conv_own]
/-- a further rate is used by a fact -/
def usedBy (f : FactV) (t q : Int) (g : FactV) : Bool := g.n 15 == f.n 15 && g.n 3 == f.n 3 && f.n 3 == q && g.n 8 == t
theorem conv_more {R : List FactV} {f g : FactV} {t q : Int} (h : usedBy f t q g = false) (ha : atTest t q g = true) (n : Int) : convSpec (f :: R) n (g.n 15) q = convSpec R n (g.n 15) q := by
  have hr : rateSpec (f :: R) (g.n 15) q = rateSpec R (g.n 15) q := by
    unfold rateSpec firstSpec
    have ht : rateTest (g.n 15) q f = false := by
      unfold atTest at ha
      rw [Bool.and_eq_true, beq_iff_eq, beq_iff_eq] at ha
      cases hb : rateTest (g.n 15) q f
      · rfl
      · exfalso
        unfold rateTest at hb
        rw [Bool.and_eq_true, beq_iff_eq, beq_iff_eq] at hb
        unfold usedBy at h
        rw [ha.1, ha.2, hb.1, hb.2] at h
        simp at h
    rw [List.find?_cons, ht]
  unfold convSpec
  rw [hr]
theorem rev_more {R : List FactV} {f : FactV} {t q : Int} : ∀ (fs : List FactV) (acc : Int), (∀ g ∈ fs, usedBy f t q g = false) → fs.foldl (revStep (f :: R) t q) acc = fs.foldl (revStep R t q) acc
  | [], _, _ => rfl
  | g :: fs, acc, h => by
    rw [List.foldl_cons, List.foldl_cons]
    have e : revStep (f :: R) t q acc g = revStep R t q acc g := by
      unfold revStep
      cases ha : atTest t q g
      · rfl
      · rw [conv_more (h g (by simp)) ha]
    rw [e]
    exact rev_more fs _ fun x hx => h x (by simp [hx])
def usedTo (f : FactV) (t q : Int) (fs : List FactV) (k : Nat) : Bool := (fs.take k).any (usedBy f t q)
theorem usedTo_succ {f : FactV} {t q : Int} {fs : List FactV} {k : Nat} {g : FactV} (h : fs[k]? = some g) : usedTo f t q fs (k + 1) = (usedTo f t q fs k || usedBy f t q g) := by
  unfold usedTo
  obtain ⟨h1, h2⟩ := List.getElem?_eq_some_iff.1 h
  rw [List.take_succ_eq_append_getElem h1, h2, List.any_append]
  simp
theorem rev_unused {fs R : List FactV} {f : FactV} {t q : Int} (h : usedTo f t q fs fs.length = false) : revSpec fs (f :: R) t q = revSpec fs R t q := by
  unfold revSpec
  refine rev_more fs 0 fun g hg => ?_
  unfold usedTo at h
  rw [List.take_length, List.any_eq_false] at h
  simpa using h g hg
theorem filter_take {R : List FactV} {q : Int} {k : Nat} {f : FactV} (h : R[k]? = some f) : (R.take (k + 1)).filter (fun f => f.n 3 == q) = (R.take k).filter (fun f => f.n 3 == q) ++ (if f.n 3 == q then [f] else []) := by
  obtain ⟨h1, h2⟩ := List.getElem?_eq_some_iff.1 h
  rw [List.take_succ_eq_append_getElem h1, h2, List.filter_append]
  cases hq : (f.n 3 == q) <;> simp [hq]
end Go.Proofs.Ytdackmefkccipaa
