/- Make, every kind (printed by gen_fle.py). -/
import Derived.Test.YtgjajhopjcdflaaFlEa
import Derived.Test.YtgjajhopjcdflaaFlEb
import Derived.Test.YtgjajhopjcdflaaFlEc
import Derived.Test.YtgjajhopjcdflaaFlEd
import Derived.Test.YtgjajhopjcdflaaFlEe
namespace Go.Proofs.Ytgjajhopjcdflaa
open Go Go.RowKit Go.Lib Go.Shelf Go.Maps
theorem make_any (x : Nat → Int) (w : World) (hx : ∀ j, -9223372036854775808 ≤ x j ∧ x j ≤ 9223372036854775807) :
    Calls Try.prog 13 #[six x] w fun e w' => e = .returned (.agg (makeX x).cells) ∧ Below w.heap.size w w' := by
  have b0 := pickN_bd (x 0) 10 (by omega)
  rcases (by omega : pickN (x 0) 10 = 0 ∨ pickN (x 0) 10 = 1 ∨ pickN (x 0) 10 = 2 ∨ pickN (x 0) 10 = 3 ∨ pickN (x 0) 10 = 4 ∨ pickN (x 0) 10 = 5 ∨ pickN (x 0) 10 = 6 ∨ pickN (x 0) 10 = 7 ∨ pickN (x 0) 10 = 8 ∨ pickN (x 0) 10 = 9) with h | h | h | h | h | h | h | h | h | h
  · exact make_k0 x w hx h
  · exact make_k1 x w hx h
  · exact make_k2 x w hx h
  · rcases (by omega : pickN (x 4) 1000 % 4 = 0 ∨ pickN (x 4) 1000 % 4 = 1 ∨ pickN (x 4) 1000 % 4 = 2 ∨ pickN (x 4) 1000 % 4 = 3) with hr | hr | hr | hr
    · exact make_k3r0 x w hx h hr
    · exact make_k3r1 x w hx h hr
    · exact make_k3r2 x w hx h hr
    · exact make_k3r3 x w hx h hr
  · exact make_k4 x w hx h
  · exact make_k5 x w hx h
  · exact make_k6 x w hx h
  · exact make_k7 x w hx h
  · rcases (by omega : pickN (x 4) 1000 % 3 = 0 ∨ pickN (x 4) 1000 % 3 = 1 ∨ pickN (x 4) 1000 % 3 = 2) with hr | hr | hr
    · exact make_k8r0 x w hx h hr
    · exact make_k8r1 x w hx h hr
    · exact make_k8r2 x w hx h hr
  · exact make_k9 x w hx h
end Go.Proofs.Ytgjajhopjcdflaa
