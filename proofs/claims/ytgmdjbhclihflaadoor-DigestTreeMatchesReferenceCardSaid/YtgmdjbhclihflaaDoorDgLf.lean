/- A slice of strings that a caller hands in. -/
import Derived.Test.YtgmdjbhclihflaaDoorLawB
import Derived.Test.YtgmdjbhclihflaaDoorDgSp
namespace Go.Proofs.YtgmdjbhclihflaaDoor
open Go Go.RowKit Go.Lib Go.Shelf

theorem strsIn_sls {w : World} {A : Option Addr} {n c : Nat} (h : StrsIn w A n) : ∃ xs : List (List UInt8), SlS w (.slice A n c) xs ∧ xs.length = n := by
  rcases Nat.eq_zero_or_pos n with rfl | hn
  · exact ⟨[], .inl ⟨rfl, A, c, rfl⟩, rfl⟩
  · rcases h with h0 | ⟨b, o, S, hA, hlt, hc⟩
    · omega
    · subst hA
      refine ⟨(List.range n).map fun i => (S i).data.toList, .inr ⟨b, o, c, by simp, hlt, fun i x hx => ?_⟩, by simp⟩
      rw [List.getElem?_map] at hx
      by_cases hi : i < n
      · rw [List.getElem?_range hi] at hx
        simp at hx
        subst hx
        rw [hc i hi]
      · rw [List.getElem?_eq_none (by simp; omega)] at hx
        simp at hx
end Go.Proofs.YtgmdjbhclihflaaDoor
