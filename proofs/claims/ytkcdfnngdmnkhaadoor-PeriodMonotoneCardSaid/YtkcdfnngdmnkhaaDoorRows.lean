/-
  NARROWER THAN 'FOR EVERY INPUT', by the rows' own cells (each row's printed sentence says how): PeriodMatchesReference: laid · PeriodPartition: laid · PeriodMonotone: laid · PeriodRoundTrip: laid · PeriodYears: laid.
  DERIVED. THE GIVEN ROWS OF THIS SEAT. 5 by the template 'for every input the law returns true; each argument reads behind the call as it read before'; 0 by the template 'total and deterministic' (their statements: YtkcdfnngdmnkhaaDoorTotals.lean).
  GIVEN WITH THE SEED: the statements are not yours to turn. If you find one false, say at which input.
  Laid BY PROGRAM, IN A SANDBOX (cutbox-rows.mjs): the forced cells as the released guide's own fill.sh prints them over the translation 41ec281b6f60b430… (all of the seat's roots in one cut). By AI agents, Wed Nov 11 2026. No macro, syntax, notation, axiom, sorry.
-/
import Derived.Test.YtkcdfnngdmnkhaaDoorChecked
import GoSem.Claim
import GoSem.ClaimJoined
import GoSem.ClaimMapViews
import Derived.JoinedTies
import Derived.KernelRfl
namespace Go.Proofs.YtkcdfnngdmnkhaaDoor
/- THE CELL 'sum', in the pinned program and in every row, IS THE sha256 OF THE DUMP (.gsa) THAT YtkcdfnngdmnkhaaDoorProg.lean LOADS. Nothing in Lean hashes anything: it is a label: what it is worth is what the hold of that sum in a sandbox is worth. -/
noncomputable def Tryd.pinned : Pinned := { name := "ytkcdfnngdmnkhaadoor", sum := "41ec281b6f60b430a75b8135fcf0fd8d3ed52af928a221bfa3064aac564dd933", checked := Tryd.checked }
namespace Rows
def none {H : Type} : Left H := { results := [], args := [] }

/- WHAT THE LISTED PACKAGE-LEVEL VARIABLES READ AS WHEN THE CALL BEGINS. Each datum BY PROGRAM (the guide's laid-datum.mjs) off the statement by which the dump's own 'gosem.cut.vars' lays the variable. In a bare row this is a premise. The card (YtkcdfnngdmnkhaaDoorCards.lean) ties it to the program's text. -/
def laid_royalty_period_lengths {H : Type} : DataW H := .agg [.lit (.int .i64 31), .lit (.int .i64 28), .lit (.int .i64 31), .lit (.int .i64 30), .lit (.int .i64 31), .lit (.int .i64 30), .lit (.int .i64 31), .lit (.int .i64 31), .lit (.int .i64 30), .lit (.int .i64 31), .lit (.int .i64 30), .lit (.int .i64 31)]

/-- 'royaltylaw04.PeriodMatchesReference': WHATEVER THE INPUT: true; the input reads as it did. -/
def periodMatchesReferenceSpec : ChangeSpec := { name := "periodMatchesReference", fn := fun _ => fun
  | [d1, d2, d3] => { results := [.lit (.bool true)], args := [d1, d2, d3] }
  | _ => none }
def periodMatchesReferenceRow : OpenClaim := { program := "ytkcdfnngdmnkhaadoor", sum := "41ec281b6f60b430a75b8135fcf0fd8d3ed52af928a221bfa3064aac564dd933", func := "royalty/royaltylaw04.PeriodMatchesReference", spec := "periodMatchesReference", named := ["royalty/period.lengths"], apart := false, laid := [("royalty/period.lengths", laid_royalty_period_lengths)] }
def PeriodMatchesReferenceSaid : Prop := periodMatchesReferenceRow.holds Tryd.pinned (OpenSpec.ofChange periodMatchesReferenceSpec)

/-- ITS FALSE NEIGHBOUR: 'it returns false'. Refute it at one input. -/
def periodMatchesReferenceWrong : ChangeSpec := { name := "periodMatchesReference", fn := fun _ => fun
  | [d1, d2, d3] => { results := [.lit (.bool false)], args := [d1, d2, d3] }
  | _ => none }
def PeriodMatchesReferenceWrongFalsely : Prop := periodMatchesReferenceRow.holds Tryd.pinned (OpenSpec.ofChange periodMatchesReferenceWrong)

/-- 'royaltylaw04.PeriodPartition': WHATEVER THE INPUT: true; the input reads as it did. -/
def periodPartitionSpec : ChangeSpec := { name := "periodPartition", fn := fun _ => fun
  | [d] => { results := [.lit (.bool true)], args := [d] }
  | _ => none }
def periodPartitionRow : OpenClaim := { program := "ytkcdfnngdmnkhaadoor", sum := "41ec281b6f60b430a75b8135fcf0fd8d3ed52af928a221bfa3064aac564dd933", func := "royalty/royaltylaw04.PeriodPartition", spec := "periodPartition", named := ["royalty/period.lengths"], apart := false, laid := [("royalty/period.lengths", laid_royalty_period_lengths)] }
def PeriodPartitionSaid : Prop := periodPartitionRow.holds Tryd.pinned (OpenSpec.ofChange periodPartitionSpec)

/-- ITS FALSE NEIGHBOUR: 'it returns false'. Refute it at one input. -/
def periodPartitionWrong : ChangeSpec := { name := "periodPartition", fn := fun _ => fun
  | [d] => { results := [.lit (.bool false)], args := [d] }
  | _ => none }
def PeriodPartitionWrongFalsely : Prop := periodPartitionRow.holds Tryd.pinned (OpenSpec.ofChange periodPartitionWrong)

/-- 'royaltylaw04.PeriodMonotone': WHATEVER THE INPUT: true; the input reads as it did. -/
def periodMonotoneSpec : ChangeSpec := { name := "periodMonotone", fn := fun _ => fun
  | [d1, d2] => { results := [.lit (.bool true)], args := [d1, d2] }
  | _ => none }
def periodMonotoneRow : OpenClaim := { program := "ytkcdfnngdmnkhaadoor", sum := "41ec281b6f60b430a75b8135fcf0fd8d3ed52af928a221bfa3064aac564dd933", func := "royalty/royaltylaw04.PeriodMonotone", spec := "periodMonotone", named := ["royalty/period.lengths"], apart := false, laid := [("royalty/period.lengths", laid_royalty_period_lengths)] }
def PeriodMonotoneSaid : Prop := periodMonotoneRow.holds Tryd.pinned (OpenSpec.ofChange periodMonotoneSpec)

/-- ITS FALSE NEIGHBOUR: 'it returns false'. Refute it at one input. -/
def periodMonotoneWrong : ChangeSpec := { name := "periodMonotone", fn := fun _ => fun
  | [d1, d2] => { results := [.lit (.bool false)], args := [d1, d2] }
  | _ => none }
def PeriodMonotoneWrongFalsely : Prop := periodMonotoneRow.holds Tryd.pinned (OpenSpec.ofChange periodMonotoneWrong)

/-- 'royaltylaw04.PeriodRoundTrip': WHATEVER THE INPUT: true; the input reads as it did. -/
def periodRoundTripSpec : ChangeSpec := { name := "periodRoundTrip", fn := fun _ => fun
  | [d1, d2, d3] => { results := [.lit (.bool true)], args := [d1, d2, d3] }
  | _ => none }
def periodRoundTripRow : OpenClaim := { program := "ytkcdfnngdmnkhaadoor", sum := "41ec281b6f60b430a75b8135fcf0fd8d3ed52af928a221bfa3064aac564dd933", func := "royalty/royaltylaw04.PeriodRoundTrip", spec := "periodRoundTrip", named := ["royalty/period.lengths"], apart := false, laid := [("royalty/period.lengths", laid_royalty_period_lengths)] }
def PeriodRoundTripSaid : Prop := periodRoundTripRow.holds Tryd.pinned (OpenSpec.ofChange periodRoundTripSpec)

/-- ITS FALSE NEIGHBOUR: 'it returns false'. Refute it at one input. -/
def periodRoundTripWrong : ChangeSpec := { name := "periodRoundTrip", fn := fun _ => fun
  | [d1, d2, d3] => { results := [.lit (.bool false)], args := [d1, d2, d3] }
  | _ => none }
def PeriodRoundTripWrongFalsely : Prop := periodRoundTripRow.holds Tryd.pinned (OpenSpec.ofChange periodRoundTripWrong)

/-- 'royaltylaw04.PeriodYears': WHATEVER THE INPUT: true; the input reads as it did. -/
def periodYearsSpec : ChangeSpec := { name := "periodYears", fn := fun _ => fun
  | [d] => { results := [.lit (.bool true)], args := [d] }
  | _ => none }
def periodYearsRow : OpenClaim := { program := "ytkcdfnngdmnkhaadoor", sum := "41ec281b6f60b430a75b8135fcf0fd8d3ed52af928a221bfa3064aac564dd933", func := "royalty/royaltylaw04.PeriodYears", spec := "periodYears", named := ["royalty/period.lengths"], apart := false, laid := [("royalty/period.lengths", laid_royalty_period_lengths)] }
def PeriodYearsSaid : Prop := periodYearsRow.holds Tryd.pinned (OpenSpec.ofChange periodYearsSpec)

/-- ITS FALSE NEIGHBOUR: 'it returns false'. Refute it at one input. -/
def periodYearsWrong : ChangeSpec := { name := "periodYears", fn := fun _ => fun
  | [d] => { results := [.lit (.bool false)], args := [d] }
  | _ => none }
def PeriodYearsWrongFalsely : Prop := periodYearsRow.holds Tryd.pinned (OpenSpec.ofChange periodYearsWrong)

/- THE SECOND FORM. 'bulk': how many values and letters a reading holds, each counted each time it is reached (what is shared counts as often as it is met; a slice's spare places count too). A statement '..UptoSaid' is the law's where the arguments, and the package variables that the reading takes, are together of bulk at most 1048576: NARROWER than '..Said'. Prove '..Said' where nothing that the law and all that it calls make is longer than what came in: it says more and counts as full. Else prove '..UptoSaid'. A law counts once. -/
mutual
def uptoBulk {H : Type} : DataW H → Nat
  | .lit (.string bytes) => bytes.length + 1
  | .lit _ => 1
  | .nil => 1
  | .ptr d => uptoBulk d + 1
  | .slice elems spare => uptoBulkAll elems + uptoBulkAll spare + 1
  | .agg parts => uptoBulkAll parts + 1
  | .iface _ d => uptoBulk d + 1
  | .map entries => uptoBulkEntries entries + 1
  | .held _ => 1
def uptoBulkAll {H : Type} : List (DataW H) → Nat
  | [] => 0
  | d :: r => uptoBulk d + uptoBulkAll r
def uptoBulkEntries {H : Type} : List (Lit × DataW H) → Nat
  | [] => 0
  | x :: r => uptoBulkEntry x + uptoBulkEntries r
def uptoBulkEntry {H : Type} : Lit × DataW H → Nat
  | (.string bytes, d) => bytes.length + uptoBulk d + 1
  | (_, d) => uptoBulk d + 1
 end
def uptoSmall : (H : Type) → List (DataW H) → Bool := fun _ ds => decide (uptoBulkAll ds ≤ 1048576)
def OpenSpec.upto (s : _root_.Go.ChangeSpec) : _root_.Go.OpenSpec := { _root_.Go.OpenSpec.ofChange s with cond := some uptoSmall }

/-- 'royaltylaw04.PeriodMatchesReference', WHERE WHAT IT READS IS OF BULK AT MOST 1048576: true; the input reads as it did. -/
def periodMatchesReferenceUptoRow : OpenClaim := { program := "ytkcdfnngdmnkhaadoor", sum := "41ec281b6f60b430a75b8135fcf0fd8d3ed52af928a221bfa3064aac564dd933", func := "royalty/royaltylaw04.PeriodMatchesReference", spec := "periodMatchesReference", named := ["royalty/period.lengths"], apart := false, laid := [("royalty/period.lengths", laid_royalty_period_lengths)], narrowed := true }
def PeriodMatchesReferenceUptoSaid : Prop := periodMatchesReferenceUptoRow.holds Tryd.pinned (OpenSpec.upto periodMatchesReferenceSpec)

/-- 'royaltylaw04.PeriodPartition', WHERE WHAT IT READS IS OF BULK AT MOST 1048576: true; the input reads as it did. -/
def periodPartitionUptoRow : OpenClaim := { program := "ytkcdfnngdmnkhaadoor", sum := "41ec281b6f60b430a75b8135fcf0fd8d3ed52af928a221bfa3064aac564dd933", func := "royalty/royaltylaw04.PeriodPartition", spec := "periodPartition", named := ["royalty/period.lengths"], apart := false, laid := [("royalty/period.lengths", laid_royalty_period_lengths)], narrowed := true }
def PeriodPartitionUptoSaid : Prop := periodPartitionUptoRow.holds Tryd.pinned (OpenSpec.upto periodPartitionSpec)

/-- 'royaltylaw04.PeriodMonotone', WHERE WHAT IT READS IS OF BULK AT MOST 1048576: true; the input reads as it did. -/
def periodMonotoneUptoRow : OpenClaim := { program := "ytkcdfnngdmnkhaadoor", sum := "41ec281b6f60b430a75b8135fcf0fd8d3ed52af928a221bfa3064aac564dd933", func := "royalty/royaltylaw04.PeriodMonotone", spec := "periodMonotone", named := ["royalty/period.lengths"], apart := false, laid := [("royalty/period.lengths", laid_royalty_period_lengths)], narrowed := true }
def PeriodMonotoneUptoSaid : Prop := periodMonotoneUptoRow.holds Tryd.pinned (OpenSpec.upto periodMonotoneSpec)

/-- 'royaltylaw04.PeriodRoundTrip', WHERE WHAT IT READS IS OF BULK AT MOST 1048576: true; the input reads as it did. -/
def periodRoundTripUptoRow : OpenClaim := { program := "ytkcdfnngdmnkhaadoor", sum := "41ec281b6f60b430a75b8135fcf0fd8d3ed52af928a221bfa3064aac564dd933", func := "royalty/royaltylaw04.PeriodRoundTrip", spec := "periodRoundTrip", named := ["royalty/period.lengths"], apart := false, laid := [("royalty/period.lengths", laid_royalty_period_lengths)], narrowed := true }
def PeriodRoundTripUptoSaid : Prop := periodRoundTripUptoRow.holds Tryd.pinned (OpenSpec.upto periodRoundTripSpec)

/-- 'royaltylaw04.PeriodYears', WHERE WHAT IT READS IS OF BULK AT MOST 1048576: true; the input reads as it did. -/
def periodYearsUptoRow : OpenClaim := { program := "ytkcdfnngdmnkhaadoor", sum := "41ec281b6f60b430a75b8135fcf0fd8d3ed52af928a221bfa3064aac564dd933", func := "royalty/royaltylaw04.PeriodYears", spec := "periodYears", named := ["royalty/period.lengths"], apart := false, laid := [("royalty/period.lengths", laid_royalty_period_lengths)], narrowed := true }
def PeriodYearsUptoSaid : Prop := periodYearsUptoRow.holds Tryd.pinned (OpenSpec.upto periodYearsSpec)

end Rows
end Go.Proofs.YtkcdfnngdmnkhaaDoor
