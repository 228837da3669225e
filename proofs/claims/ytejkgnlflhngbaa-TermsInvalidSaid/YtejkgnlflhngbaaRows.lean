/-
  No cell of these rows narrows 'for every input' (looked for: loops, veiled, ifaces, maps, wideKeys, modest, calm, conditions, laid).
  DERIVED. THE GIVEN ROWS OF THIS SEAT. 7 by the template 'for every input the law returns true; each argument reads behind the call as it read before'; 0 by the template 'total and deterministic' (their statements: YtejkgnlflhngbaaTotals.lean).
  GIVEN WITH THE SEED: the statements are not yours to turn. If you find one false, say at which input.
  Laid BY PROGRAM, IN A SANDBOX (cutbox-rows.mjs): the forced cells as the released guide's own fill.sh prints them over the translation a28a202c867e3417… (all of the seat's roots in one cut). By AI agents, Wed Nov 11 2026. No macro, syntax, notation, axiom, sorry.
-/
import Derived.Test.YtejkgnlflhngbaaChecked
import GoSem.Claim
import GoSem.ClaimJoined
import GoSem.ClaimMapViews
import Derived.JoinedTies
import Derived.KernelRfl
namespace Go.Proofs.Ytejkgnlflhngbaa
/- THE CELL 'sum', in the pinned program and in every row, IS THE sha256 OF THE DUMP (.gsa) THAT YtejkgnlflhngbaaProg.lean LOADS. Nothing in Lean hashes anything: it is a label: what it is worth is what the hold of that sum in a sandbox is worth. -/
noncomputable def Try.pinned : Pinned := { name := "ytejkgnlflhngbaa", sum := "a28a202c867e3417cbe2c4520e163f16a85c7c92d9d573ee2fcfa400025cafc9", checked := Try.checked }
namespace Rows
def none {H : Type} : Left H := { results := [], args := [] }

/-- 'royaltylaw15.TermsMatchesReference': WHATEVER THE INPUT: true; the input reads as it did. -/
def termsMatchesReferenceSpec : ChangeSpec := { name := "termsMatchesReference", fn := fun _ => fun
  | [d1, d2, d3, d4, d5, d6] => { results := [.lit (.bool true)], args := [d1, d2, d3, d4, d5, d6] }
  | _ => none }
def termsMatchesReferenceRow : OpenClaim := { program := "ytejkgnlflhngbaa", sum := "a28a202c867e3417cbe2c4520e163f16a85c7c92d9d573ee2fcfa400025cafc9", func := "royalty/royaltylaw15.TermsMatchesReference", spec := "termsMatchesReference", unfollowed := true, recurses := true, named := ["math/bits.divideError", "math/bits.overflowError"], apart := false }
def TermsMatchesReferenceSaid : Prop := termsMatchesReferenceRow.holds Try.pinned (OpenSpec.ofChange termsMatchesReferenceSpec)

/-- ITS FALSE NEIGHBOUR: 'it returns false'. Refute it at one input. -/
def termsMatchesReferenceWrong : ChangeSpec := { name := "termsMatchesReference", fn := fun _ => fun
  | [d1, d2, d3, d4, d5, d6] => { results := [.lit (.bool false)], args := [d1, d2, d3, d4, d5, d6] }
  | _ => none }
def TermsMatchesReferenceWrongFalsely : Prop := termsMatchesReferenceRow.holds Try.pinned (OpenSpec.ofChange termsMatchesReferenceWrong)

/-- 'royaltylaw15.TermsBalanced': WHATEVER THE INPUT: true; the input reads as it did. -/
def termsBalancedSpec : ChangeSpec := { name := "termsBalanced", fn := fun _ => fun
  | [d1, d2, d3, d4, d5] => { results := [.lit (.bool true)], args := [d1, d2, d3, d4, d5] }
  | _ => none }
def termsBalancedRow : OpenClaim := { program := "ytejkgnlflhngbaa", sum := "a28a202c867e3417cbe2c4520e163f16a85c7c92d9d573ee2fcfa400025cafc9", func := "royalty/royaltylaw15.TermsBalanced", spec := "termsBalanced", unfollowed := true, recurses := true, named := ["math/bits.divideError", "math/bits.overflowError"], apart := false }
def TermsBalancedSaid : Prop := termsBalancedRow.holds Try.pinned (OpenSpec.ofChange termsBalancedSpec)

/-- ITS FALSE NEIGHBOUR: 'it returns false'. Refute it at one input. -/
def termsBalancedWrong : ChangeSpec := { name := "termsBalanced", fn := fun _ => fun
  | [d1, d2, d3, d4, d5] => { results := [.lit (.bool false)], args := [d1, d2, d3, d4, d5] }
  | _ => none }
def TermsBalancedWrongFalsely : Prop := termsBalancedRow.holds Try.pinned (OpenSpec.ofChange termsBalancedWrong)

/-- 'royaltylaw15.TermsMonotone': WHATEVER THE INPUT: true; the input reads as it did. -/
def termsMonotoneSpec : ChangeSpec := { name := "termsMonotone", fn := fun _ => fun
  | [d1, d2, d3, d4] => { results := [.lit (.bool true)], args := [d1, d2, d3, d4] }
  | _ => none }
def termsMonotoneRow : OpenClaim := { program := "ytejkgnlflhngbaa", sum := "a28a202c867e3417cbe2c4520e163f16a85c7c92d9d573ee2fcfa400025cafc9", func := "royalty/royaltylaw15.TermsMonotone", spec := "termsMonotone", unfollowed := true, recurses := true, named := ["math/bits.divideError", "math/bits.overflowError"], apart := false }
def TermsMonotoneSaid : Prop := termsMonotoneRow.holds Try.pinned (OpenSpec.ofChange termsMonotoneSpec)

/-- ITS FALSE NEIGHBOUR: 'it returns false'. Refute it at one input. -/
def termsMonotoneWrong : ChangeSpec := { name := "termsMonotone", fn := fun _ => fun
  | [d1, d2, d3, d4] => { results := [.lit (.bool false)], args := [d1, d2, d3, d4] }
  | _ => none }
def TermsMonotoneWrongFalsely : Prop := termsMonotoneRow.holds Try.pinned (OpenSpec.ofChange termsMonotoneWrong)

/-- 'royaltylaw15.TermsInvalid': WHATEVER THE INPUT: true; the input reads as it did. -/
def termsInvalidSpec : ChangeSpec := { name := "termsInvalid", fn := fun _ => fun
  | [d1, d2, d3] => { results := [.lit (.bool true)], args := [d1, d2, d3] }
  | _ => none }
def termsInvalidRow : OpenClaim := { program := "ytejkgnlflhngbaa", sum := "a28a202c867e3417cbe2c4520e163f16a85c7c92d9d573ee2fcfa400025cafc9", func := "royalty/royaltylaw15.TermsInvalid", spec := "termsInvalid", unfollowed := true, recurses := true, named := ["math/bits.divideError", "math/bits.overflowError"], apart := false }
def TermsInvalidSaid : Prop := termsInvalidRow.holds Try.pinned (OpenSpec.ofChange termsInvalidSpec)

/-- ITS FALSE NEIGHBOUR: 'it returns false'. Refute it at one input. -/
def termsInvalidWrong : ChangeSpec := { name := "termsInvalid", fn := fun _ => fun
  | [d1, d2, d3] => { results := [.lit (.bool false)], args := [d1, d2, d3] }
  | _ => none }
def TermsInvalidWrongFalsely : Prop := termsInvalidRow.holds Try.pinned (OpenSpec.ofChange termsInvalidWrong)

/-- 'royaltylaw15.TermsCapped': WHATEVER THE INPUT: true; the input reads as it did. -/
def termsCappedSpec : ChangeSpec := { name := "termsCapped", fn := fun _ => fun
  | [d1, d2, d3] => { results := [.lit (.bool true)], args := [d1, d2, d3] }
  | _ => none }
def termsCappedRow : OpenClaim := { program := "ytejkgnlflhngbaa", sum := "a28a202c867e3417cbe2c4520e163f16a85c7c92d9d573ee2fcfa400025cafc9", func := "royalty/royaltylaw15.TermsCapped", spec := "termsCapped", unfollowed := true, recurses := true, named := ["math/bits.divideError", "math/bits.overflowError"], apart := false }
def TermsCappedSaid : Prop := termsCappedRow.holds Try.pinned (OpenSpec.ofChange termsCappedSpec)

/-- ITS FALSE NEIGHBOUR: 'it returns false'. Refute it at one input. -/
def termsCappedWrong : ChangeSpec := { name := "termsCapped", fn := fun _ => fun
  | [d1, d2, d3] => { results := [.lit (.bool false)], args := [d1, d2, d3] }
  | _ => none }
def TermsCappedWrongFalsely : Prop := termsCappedRow.holds Try.pinned (OpenSpec.ofChange termsCappedWrong)

/-- 'royaltylaw15.TermsWhole': WHATEVER THE INPUT: true; the input reads as it did. -/
def termsWholeSpec : ChangeSpec := { name := "termsWhole", fn := fun _ => fun
  | [d1, d2, d3, d4] => { results := [.lit (.bool true)], args := [d1, d2, d3, d4] }
  | _ => none }
def termsWholeRow : OpenClaim := { program := "ytejkgnlflhngbaa", sum := "a28a202c867e3417cbe2c4520e163f16a85c7c92d9d573ee2fcfa400025cafc9", func := "royalty/royaltylaw15.TermsWhole", spec := "termsWhole", unfollowed := true, recurses := true, named := ["math/bits.divideError", "math/bits.overflowError"], apart := false }
def TermsWholeSaid : Prop := termsWholeRow.holds Try.pinned (OpenSpec.ofChange termsWholeSpec)

/-- ITS FALSE NEIGHBOUR: 'it returns false'. Refute it at one input. -/
def termsWholeWrong : ChangeSpec := { name := "termsWhole", fn := fun _ => fun
  | [d1, d2, d3, d4] => { results := [.lit (.bool false)], args := [d1, d2, d3, d4] }
  | _ => none }
def TermsWholeWrongFalsely : Prop := termsWholeRow.holds Try.pinned (OpenSpec.ofChange termsWholeWrong)

/-- 'royaltylaw15.TermsOwns': WHATEVER THE INPUT: true; the input reads as it did. -/
def termsOwnsSpec : ChangeSpec := { name := "termsOwns", fn := fun _ => fun
  | [d1, d2, d3] => { results := [.lit (.bool true)], args := [d1, d2, d3] }
  | _ => none }
def termsOwnsRow : OpenClaim := { program := "ytejkgnlflhngbaa", sum := "a28a202c867e3417cbe2c4520e163f16a85c7c92d9d573ee2fcfa400025cafc9", func := "royalty/royaltylaw15.TermsOwns", spec := "termsOwns", unfollowed := true, recurses := true, named := ["math/bits.divideError", "math/bits.overflowError"], apart := false }
def TermsOwnsSaid : Prop := termsOwnsRow.holds Try.pinned (OpenSpec.ofChange termsOwnsSpec)

/-- ITS FALSE NEIGHBOUR: 'it returns false'. Refute it at one input. -/
def termsOwnsWrong : ChangeSpec := { name := "termsOwns", fn := fun _ => fun
  | [d1, d2, d3] => { results := [.lit (.bool false)], args := [d1, d2, d3] }
  | _ => none }
def TermsOwnsWrongFalsely : Prop := termsOwnsRow.holds Try.pinned (OpenSpec.ofChange termsOwnsWrong)

/- THE SECOND FORM. 'bulk': how many values and letters a reading holds, each counted each time it is reached (what is shared counts as often as it is met; a slice's spare places count too). A statement '..UptoSaid' is the law's where the arguments, and the package variables that the reading takes, are together of bulk at most 1048576: NARROWER than '..Said'. Prove '..Said' where nothing that the law and all that it calls make is longer than what came in: it says more and counts as full. Else prove '..UptoSaid'. A law counts once. -/
mutual
def uptoBulk {H : Type} : DataW H → Nat
  | .lit (.string bytes) => bytes.length + 1
  | .lit _ => 1
  | .nil => 1
  | .ptr d => uptoBulk d + 1
  | .slice elems spare => uptoBulkAll elems + uptoBulkAll spare + 1
  | .agg parts => uptoBulkAll parts + 1
  | .iface _ d => uptoBulk d + 1
  | .map entries => uptoBulkEntries entries + 1
  | .held _ => 1
def uptoBulkAll {H : Type} : List (DataW H) → Nat
  | [] => 0
  | d :: r => uptoBulk d + uptoBulkAll r
def uptoBulkEntries {H : Type} : List (Lit × DataW H) → Nat
  | [] => 0
  | x :: r => uptoBulkEntry x + uptoBulkEntries r
def uptoBulkEntry {H : Type} : Lit × DataW H → Nat
  | (.string bytes, d) => bytes.length + uptoBulk d + 1
  | (_, d) => uptoBulk d + 1
 end
def uptoSmall : (H : Type) → List (DataW H) → Bool := fun _ ds => decide (uptoBulkAll ds ≤ 1048576)
def OpenSpec.upto (s : _root_.Go.ChangeSpec) : _root_.Go.OpenSpec := { _root_.Go.OpenSpec.ofChange s with cond := some uptoSmall }

/-- 'royaltylaw15.TermsMatchesReference', WHERE WHAT IT READS IS OF BULK AT MOST 1048576: true; the input reads as it did. -/
def termsMatchesReferenceUptoRow : OpenClaim := { program := "ytejkgnlflhngbaa", sum := "a28a202c867e3417cbe2c4520e163f16a85c7c92d9d573ee2fcfa400025cafc9", func := "royalty/royaltylaw15.TermsMatchesReference", spec := "termsMatchesReference", unfollowed := true, recurses := true, named := ["math/bits.divideError", "math/bits.overflowError"], apart := false, narrowed := true }
def TermsMatchesReferenceUptoSaid : Prop := termsMatchesReferenceUptoRow.holds Try.pinned (OpenSpec.upto termsMatchesReferenceSpec)

/-- 'royaltylaw15.TermsBalanced', WHERE WHAT IT READS IS OF BULK AT MOST 1048576: true; the input reads as it did. -/
def termsBalancedUptoRow : OpenClaim := { program := "ytejkgnlflhngbaa", sum := "a28a202c867e3417cbe2c4520e163f16a85c7c92d9d573ee2fcfa400025cafc9", func := "royalty/royaltylaw15.TermsBalanced", spec := "termsBalanced", unfollowed := true, recurses := true, named := ["math/bits.divideError", "math/bits.overflowError"], apart := false, narrowed := true }
def TermsBalancedUptoSaid : Prop := termsBalancedUptoRow.holds Try.pinned (OpenSpec.upto termsBalancedSpec)

/-- 'royaltylaw15.TermsMonotone', WHERE WHAT IT READS IS OF BULK AT MOST 1048576: true; the input reads as it did. -/
def termsMonotoneUptoRow : OpenClaim := { program := "ytejkgnlflhngbaa", sum := "a28a202c867e3417cbe2c4520e163f16a85c7c92d9d573ee2fcfa400025cafc9", func := "royalty/royaltylaw15.TermsMonotone", spec := "termsMonotone", unfollowed := true, recurses := true, named := ["math/bits.divideError", "math/bits.overflowError"], apart := false, narrowed := true }
def TermsMonotoneUptoSaid : Prop := termsMonotoneUptoRow.holds Try.pinned (OpenSpec.upto termsMonotoneSpec)

/-- 'royaltylaw15.TermsInvalid', WHERE WHAT IT READS IS OF BULK AT MOST 1048576: true; the input reads as it did. -/
def termsInvalidUptoRow : OpenClaim := { program := "ytejkgnlflhngbaa", sum := "a28a202c867e3417cbe2c4520e163f16a85c7c92d9d573ee2fcfa400025cafc9", func := "royalty/royaltylaw15.TermsInvalid", spec := "termsInvalid", unfollowed := true, recurses := true, named := ["math/bits.divideError", "math/bits.overflowError"], apart := false, narrowed := true }
def TermsInvalidUptoSaid : Prop := termsInvalidUptoRow.holds Try.pinned (OpenSpec.upto termsInvalidSpec)

/-- 'royaltylaw15.TermsCapped', WHERE WHAT IT READS IS OF BULK AT MOST 1048576: true; the input reads as it did. -/
def termsCappedUptoRow : OpenClaim := { program := "ytejkgnlflhngbaa", sum := "a28a202c867e3417cbe2c4520e163f16a85c7c92d9d573ee2fcfa400025cafc9", func := "royalty/royaltylaw15.TermsCapped", spec := "termsCapped", unfollowed := true, recurses := true, named := ["math/bits.divideError", "math/bits.overflowError"], apart := false, narrowed := true }
def TermsCappedUptoSaid : Prop := termsCappedUptoRow.holds Try.pinned (OpenSpec.upto termsCappedSpec)

/-- 'royaltylaw15.TermsWhole', WHERE WHAT IT READS IS OF BULK AT MOST 1048576: true; the input reads as it did. -/
def termsWholeUptoRow : OpenClaim := { program := "ytejkgnlflhngbaa", sum := "a28a202c867e3417cbe2c4520e163f16a85c7c92d9d573ee2fcfa400025cafc9", func := "royalty/royaltylaw15.TermsWhole", spec := "termsWhole", unfollowed := true, recurses := true, named := ["math/bits.divideError", "math/bits.overflowError"], apart := false, narrowed := true }
def TermsWholeUptoSaid : Prop := termsWholeUptoRow.holds Try.pinned (OpenSpec.upto termsWholeSpec)

/-- 'royaltylaw15.TermsOwns', WHERE WHAT IT READS IS OF BULK AT MOST 1048576: true; the input reads as it did. -/
def termsOwnsUptoRow : OpenClaim := { program := "ytejkgnlflhngbaa", sum := "a28a202c867e3417cbe2c4520e163f16a85c7c92d9d573ee2fcfa400025cafc9", func := "royalty/royaltylaw15.TermsOwns", spec := "termsOwns", unfollowed := true, recurses := true, named := ["math/bits.divideError", "math/bits.overflowError"], apart := false, narrowed := true }
def TermsOwnsUptoSaid : Prop := termsOwnsUptoRow.holds Try.pinned (OpenSpec.upto termsOwnsSpec)

end Rows
end Go.Proofs.Ytejkgnlflhngbaa
