/-
  No cell of these rows narrows 'for every input' (looked for: loops, veiled, ifaces, maps, wideKeys, modest, calm, conditions, laid).
  DERIVED. THE GIVEN ROWS OF THIS SEAT. 4 by the template 'for every input the law returns true; each argument reads behind the call as it read before'; 0 by the template 'total and deterministic' (their statements: YtdackmefkccipaaTotals.lean).
  GIVEN WITH THE SEED: the statements are not yours to turn. If you find one false, say at which input.
  Laid BY PROGRAM, IN A SANDBOX (cutbox-rows.mjs): the forced cells as the released guide's own fill.sh prints them over the translation 83930eaeb6678450… (all of the seat's roots in one cut). By AI agents, Wed Nov 11 2026. No macro, syntax, notation, axiom, sorry.
-/
import Derived.Test.YtdackmefkccipaaChecked
import GoSem.Claim
import GoSem.ClaimJoined
import GoSem.ClaimMapViews
import Derived.JoinedTies
import Derived.KernelRfl
namespace Go.Proofs.Ytdackmefkccipaa
/- THE CELL 'sum', in the pinned program and in every row, IS THE sha256 OF THE DUMP (.gsa) THAT YtdackmefkccipaaProg.lean LOADS. Nothing in Lean hashes anything: it is a label: what it is worth is what the hold of that sum in a sandbox is worth. -/
noncomputable def Try.pinned : Pinned := { name := "ytdackmefkccipaa", sum := "83930eaeb66784500f2875a2ee19b0bac870e93da7ccd342d64edf0b6292d33b", checked := Try.checked }
namespace Rows
def none {H : Type} : Left H := { results := [], args := [] }

/-- 'royaltylaw16.ExchangeMatchesReference': WHATEVER THE INPUT: true; the input reads as it did. -/
def exchangeMatchesReferenceSpec : ChangeSpec := { name := "exchangeMatchesReference", fn := fun _ => fun
  | [d1, d2, d3, d4, d5, d6] => { results := [.lit (.bool true)], args := [d1, d2, d3, d4, d5, d6] }
  | _ => none }
def exchangeMatchesReferenceRow : OpenClaim := { program := "ytdackmefkccipaa", sum := "83930eaeb66784500f2875a2ee19b0bac870e93da7ccd342d64edf0b6292d33b", func := "royalty/royaltylaw16.ExchangeMatchesReference", spec := "exchangeMatchesReference", unfollowed := true, recurses := true, named := ["math/bits.divideError", "math/bits.overflowError"], apart := false }
def ExchangeMatchesReferenceSaid : Prop := exchangeMatchesReferenceRow.holds Try.pinned (OpenSpec.ofChange exchangeMatchesReferenceSpec)

/-- ITS FALSE NEIGHBOUR: 'it returns false'. Refute it at one input. -/
def exchangeMatchesReferenceWrong : ChangeSpec := { name := "exchangeMatchesReference", fn := fun _ => fun
  | [d1, d2, d3, d4, d5, d6] => { results := [.lit (.bool false)], args := [d1, d2, d3, d4, d5, d6] }
  | _ => none }
def ExchangeMatchesReferenceWrongFalsely : Prop := exchangeMatchesReferenceRow.holds Try.pinned (OpenSpec.ofChange exchangeMatchesReferenceWrong)

/-- 'royaltylaw16.ExchangeMonotone': WHATEVER THE INPUT: true; the input reads as it did. -/
def exchangeMonotoneSpec : ChangeSpec := { name := "exchangeMonotone", fn := fun _ => fun
  | [d1, d2, d3, d4, d5] => { results := [.lit (.bool true)], args := [d1, d2, d3, d4, d5] }
  | _ => none }
def exchangeMonotoneRow : OpenClaim := { program := "ytdackmefkccipaa", sum := "83930eaeb66784500f2875a2ee19b0bac870e93da7ccd342d64edf0b6292d33b", func := "royalty/royaltylaw16.ExchangeMonotone", spec := "exchangeMonotone", unfollowed := true, recurses := true, named := ["math/bits.divideError", "math/bits.overflowError"], apart := false }
def ExchangeMonotoneSaid : Prop := exchangeMonotoneRow.holds Try.pinned (OpenSpec.ofChange exchangeMonotoneSpec)

/-- ITS FALSE NEIGHBOUR: 'it returns false'. Refute it at one input. -/
def exchangeMonotoneWrong : ChangeSpec := { name := "exchangeMonotone", fn := fun _ => fun
  | [d1, d2, d3, d4, d5] => { results := [.lit (.bool false)], args := [d1, d2, d3, d4, d5] }
  | _ => none }
def ExchangeMonotoneWrongFalsely : Prop := exchangeMonotoneRow.holds Try.pinned (OpenSpec.ofChange exchangeMonotoneWrong)

/-- 'royaltylaw16.ExchangePeriods': WHATEVER THE INPUT: true; the input reads as it did. -/
def exchangePeriodsSpec : ChangeSpec := { name := "exchangePeriods", fn := fun _ => fun
  | [d1, d2, d3, d4] => { results := [.lit (.bool true)], args := [d1, d2, d3, d4] }
  | _ => none }
def exchangePeriodsRow : OpenClaim := { program := "ytdackmefkccipaa", sum := "83930eaeb66784500f2875a2ee19b0bac870e93da7ccd342d64edf0b6292d33b", func := "royalty/royaltylaw16.ExchangePeriods", spec := "exchangePeriods", unfollowed := true, recurses := true, named := ["math/bits.divideError", "math/bits.overflowError"], apart := false }
def ExchangePeriodsSaid : Prop := exchangePeriodsRow.holds Try.pinned (OpenSpec.ofChange exchangePeriodsSpec)

/-- ITS FALSE NEIGHBOUR: 'it returns false'. Refute it at one input. -/
def exchangePeriodsWrong : ChangeSpec := { name := "exchangePeriods", fn := fun _ => fun
  | [d1, d2, d3, d4] => { results := [.lit (.bool false)], args := [d1, d2, d3, d4] }
  | _ => none }
def ExchangePeriodsWrongFalsely : Prop := exchangePeriodsRow.holds Try.pinned (OpenSpec.ofChange exchangePeriodsWrong)

/-- 'royaltylaw16.ExchangeOnce': WHATEVER THE INPUT: true; the input reads as it did. -/
def exchangeOnceSpec : ChangeSpec := { name := "exchangeOnce", fn := fun _ => fun
  | [d] => { results := [.lit (.bool true)], args := [d] }
  | _ => none }
def exchangeOnceRow : OpenClaim := { program := "ytdackmefkccipaa", sum := "83930eaeb66784500f2875a2ee19b0bac870e93da7ccd342d64edf0b6292d33b", func := "royalty/royaltylaw16.ExchangeOnce", spec := "exchangeOnce", unfollowed := true, recurses := true, named := ["math/bits.divideError", "math/bits.overflowError"], apart := false }
def ExchangeOnceSaid : Prop := exchangeOnceRow.holds Try.pinned (OpenSpec.ofChange exchangeOnceSpec)

/-- ITS FALSE NEIGHBOUR: 'it returns false'. Refute it at one input. -/
def exchangeOnceWrong : ChangeSpec := { name := "exchangeOnce", fn := fun _ => fun
  | [d] => { results := [.lit (.bool false)], args := [d] }
  | _ => none }
def ExchangeOnceWrongFalsely : Prop := exchangeOnceRow.holds Try.pinned (OpenSpec.ofChange exchangeOnceWrong)

/- THE SECOND FORM. 'bulk': how many values and letters a reading holds, each counted each time it is reached (what is shared counts as often as it is met; a slice's spare places count too). A statement '..UptoSaid' is the law's where the arguments, and the package variables that the reading takes, are together of bulk at most 1048576: NARROWER than '..Said'. Prove '..Said' where nothing that the law and all that it calls make is longer than what came in: it says more and counts as full. Else prove '..UptoSaid'. A law counts once. -/
mutual
def uptoBulk {H : Type} : DataW H → Nat
  | .lit (.string bytes) => bytes.length + 1
  | .lit _ => 1
  | .nil => 1
  | .ptr d => uptoBulk d + 1
  | .slice elems spare => uptoBulkAll elems + uptoBulkAll spare + 1
  | .agg parts => uptoBulkAll parts + 1
  | .iface _ d => uptoBulk d + 1
  | .map entries => uptoBulkEntries entries + 1
  | .held _ => 1
def uptoBulkAll {H : Type} : List (DataW H) → Nat
  | [] => 0
  | d :: r => uptoBulk d + uptoBulkAll r
def uptoBulkEntries {H : Type} : List (Lit × DataW H) → Nat
  | [] => 0
  | x :: r => uptoBulkEntry x + uptoBulkEntries r
def uptoBulkEntry {H : Type} : Lit × DataW H → Nat
  | (.string bytes, d) => bytes.length + uptoBulk d + 1
  | (_, d) => uptoBulk d + 1
 end
def uptoSmall : (H : Type) → List (DataW H) → Bool := fun _ ds => decide (uptoBulkAll ds ≤ 1048576)
def OpenSpec.upto (s : _root_.Go.ChangeSpec) : _root_.Go.OpenSpec := { _root_.Go.OpenSpec.ofChange s with cond := some uptoSmall }

/-- 'royaltylaw16.ExchangeMatchesReference', WHERE WHAT IT READS IS OF BULK AT MOST 1048576: true; the input reads as it did. -/
def exchangeMatchesReferenceUptoRow : OpenClaim := { program := "ytdackmefkccipaa", sum := "83930eaeb66784500f2875a2ee19b0bac870e93da7ccd342d64edf0b6292d33b", func := "royalty/royaltylaw16.ExchangeMatchesReference", spec := "exchangeMatchesReference", unfollowed := true, recurses := true, named := ["math/bits.divideError", "math/bits.overflowError"], apart := false, narrowed := true }
def ExchangeMatchesReferenceUptoSaid : Prop := exchangeMatchesReferenceUptoRow.holds Try.pinned (OpenSpec.upto exchangeMatchesReferenceSpec)

/-- 'royaltylaw16.ExchangeMonotone', WHERE WHAT IT READS IS OF BULK AT MOST 1048576: true; the input reads as it did. -/
def exchangeMonotoneUptoRow : OpenClaim := { program := "ytdackmefkccipaa", sum := "83930eaeb66784500f2875a2ee19b0bac870e93da7ccd342d64edf0b6292d33b", func := "royalty/royaltylaw16.ExchangeMonotone", spec := "exchangeMonotone", unfollowed := true, recurses := true, named := ["math/bits.divideError", "math/bits.overflowError"], apart := false, narrowed := true }
def ExchangeMonotoneUptoSaid : Prop := exchangeMonotoneUptoRow.holds Try.pinned (OpenSpec.upto exchangeMonotoneSpec)

/-- 'royaltylaw16.ExchangePeriods', WHERE WHAT IT READS IS OF BULK AT MOST 1048576: true; the input reads as it did. -/
def exchangePeriodsUptoRow : OpenClaim := { program := "ytdackmefkccipaa", sum := "83930eaeb66784500f2875a2ee19b0bac870e93da7ccd342d64edf0b6292d33b", func := "royalty/royaltylaw16.ExchangePeriods", spec := "exchangePeriods", unfollowed := true, recurses := true, named := ["math/bits.divideError", "math/bits.overflowError"], apart := false, narrowed := true }
def ExchangePeriodsUptoSaid : Prop := exchangePeriodsUptoRow.holds Try.pinned (OpenSpec.upto exchangePeriodsSpec)

/-- 'royaltylaw16.ExchangeOnce', WHERE WHAT IT READS IS OF BULK AT MOST 1048576: true; the input reads as it did. -/
def exchangeOnceUptoRow : OpenClaim := { program := "ytdackmefkccipaa", sum := "83930eaeb66784500f2875a2ee19b0bac870e93da7ccd342d64edf0b6292d33b", func := "royalty/royaltylaw16.ExchangeOnce", spec := "exchangeOnce", unfollowed := true, recurses := true, named := ["math/bits.divideError", "math/bits.overflowError"], apart := false, narrowed := true }
def ExchangeOnceUptoSaid : Prop := exchangeOnceUptoRow.holds Try.pinned (OpenSpec.upto exchangeOnceSpec)

end Rows
end Go.Proofs.Ytdackmefkccipaa
