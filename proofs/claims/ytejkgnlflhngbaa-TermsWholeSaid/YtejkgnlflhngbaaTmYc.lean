/- A slice of terms that came in is no longer than its capacity. -/
import Derived.Test.YtejkgnlflhngbaaTmY
namespace Go.Proofs.Ytejkgnlflhngbaa
open Go Go.ChangeShapes Go.WideShapes Go.ChangeAt Go.RowKit Go.Deep

theorem terms_cap {H : Type} {enc : TypeId × Value → H} {W : World} {A : Option Addr} {n c fuel : Nat} {d : DataW H} {p : List MemPlace}
    (hf : DataW.trod enc Try.prog W 0 (fun _ => true) true fuel 22 (Value.slice A n c).cells.toList = some (d, p)) : n ≤ c := by
  rcases open_slice Try.underlying22 hf with ⟨hc, _⟩ | ⟨a, len, cap, m, q, D, Pl, hc, _, hlc, hmax, hm, hx, hel⟩
  · simp [Value.cells] at hc
    omega
  · simp only [Value.cells, List.cons.injEq, Value.slice.injEq, and_true] at hc
    obtain ⟨rfl, rfl, rfl⟩ := hc
    simp only [if_true] at hm
    subst hm
    exact hlc
end Go.Proofs.Ytejkgnlflhngbaa
