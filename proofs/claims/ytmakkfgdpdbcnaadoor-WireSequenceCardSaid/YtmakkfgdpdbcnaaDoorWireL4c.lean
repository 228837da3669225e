/- WireSequence: both walks as one. -/
import Derived.Test.YtmakkfgdpdbcnaaDoorWireL4b
import Derived.Test.YtmakkfgdpdbcnaaDoorLawB
namespace Go.Proofs.YtmakkfgdpdbcnaaDoor
open Go Go.RowKit
theorem sequence_case {A1 A2 : Option Addr} {nl cl nt ct : Nat} {w : World} (hT : NibAt w) (hw : 0 < w.heap.size) (hnl : nl ≤ 140737488351232) (hnt : nt ≤ 140737488351232) (h1 : IntsIn w A1 nl) (h2 : StrsIn w A2 nt) :
    Calls Tryd.prog 6 #[.slice A1 nl cl, .slice A2 nt ct] w fun e w' => e = .returned (.bool true) ∧ Below w.heap.size w w' := by
  rcases h1 with h1 | ⟨b1, o1, xs, rfl, hb1, hx⟩
  · exact sequence_walk0 _ _ _ _ _ _ w hT hw (.inl h1) hnl hnt
  · rcases h2 with h2 | ⟨b2, o2, ss, rfl, hb2, hs⟩
    · exact sequence_walk0 _ _ _ _ _ _ w hT hw (.inr h2) hnl hnt
    · exact sequence_walk b1 o1 nl cl b2 o2 nt ct xs ss w hT hw hb1 hb2 hnl hnt hx hs
end Go.Proofs.YtmakkfgdpdbcnaaDoor
