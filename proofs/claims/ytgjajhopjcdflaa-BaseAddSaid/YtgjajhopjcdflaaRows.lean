/-
  No cell of these rows narrows 'for every input' (looked for: loops, veiled, ifaces, maps, wideKeys, modest, calm, conditions, laid).
  DERIVED. THE GIVEN ROWS OF THIS SEAT. 4 by the template 'for every input the law returns true; each argument reads behind the call as it read before'; 0 by the template 'total and deterministic' (their statements: YtgjajhopjcdflaaTotals.lean).
  GIVEN WITH THE SEED: the statements are not yours to turn. If you find one false, say at which input.
  Laid BY PROGRAM, IN A SANDBOX (cutbox-rows.mjs): the forced cells as the released guide's own fill.sh prints them over the translation c11c4255283c1dbf… (all of the seat's roots in one cut). By AI agents, Wed Nov 11 2026. No macro, syntax, notation, axiom, sorry.
-/
import Derived.Test.YtgjajhopjcdflaaChecked
import GoSem.Claim
import GoSem.ClaimJoined
import GoSem.ClaimMapViews
import Derived.JoinedTies
import Derived.KernelRfl
namespace Go.Proofs.Ytgjajhopjcdflaa
/- THE CELL 'sum', in the pinned program and in every row, IS THE sha256 OF THE DUMP (.gsa) THAT YtgjajhopjcdflaaProg.lean LOADS. Nothing in Lean hashes anything: it is a label: what it is worth is what the hold of that sum in a sandbox is worth. -/
noncomputable def Try.pinned : Pinned := { name := "ytgjajhopjcdflaa", sum := "c11c4255283c1dbf5a738b753633de18b391f3c57726759dcecca26fae0b8b5d", checked := Try.checked }
namespace Rows
def none {H : Type} : Left H := { results := [], args := [] }

/-- 'royaltylaw07.BaseOrder': WHATEVER THE INPUT: true; the input reads as it did. -/
def baseOrderSpec : ChangeSpec := { name := "baseOrder", fn := fun _ => fun
  | [d1, d2, d3] => { results := [.lit (.bool true)], args := [d1, d2, d3] }
  | _ => none }
def baseOrderRow : OpenClaim := { program := "ytgjajhopjcdflaa", sum := "c11c4255283c1dbf5a738b753633de18b391f3c57726759dcecca26fae0b8b5d", func := "royalty/royaltylaw07.BaseOrder", spec := "baseOrder", inPlace := ["internal/abi.NoEscape", "internal/bytealg.abigen_runtime_cmpstring"], unfollowed := true, recurses := true, plainKeys := false, apart := false }
def BaseOrderSaid : Prop := baseOrderRow.holds Try.pinned (OpenSpec.ofChange baseOrderSpec)

/-- ITS FALSE NEIGHBOUR: 'it returns false'. Refute it at one input. -/
def baseOrderWrong : ChangeSpec := { name := "baseOrder", fn := fun _ => fun
  | [d1, d2, d3] => { results := [.lit (.bool false)], args := [d1, d2, d3] }
  | _ => none }
def BaseOrderWrongFalsely : Prop := baseOrderRow.holds Try.pinned (OpenSpec.ofChange baseOrderWrong)

/-- 'royaltylaw07.BaseJoin': WHATEVER THE INPUT: true; the input reads as it did. -/
def baseJoinSpec : ChangeSpec := { name := "baseJoin", fn := fun _ => fun
  | [d1, d2] => { results := [.lit (.bool true)], args := [d1, d2] }
  | _ => none }
def baseJoinRow : OpenClaim := { program := "ytgjajhopjcdflaa", sum := "c11c4255283c1dbf5a738b753633de18b391f3c57726759dcecca26fae0b8b5d", func := "royalty/royaltylaw07.BaseJoin", spec := "baseJoin", inPlace := ["internal/abi.NoEscape", "internal/bytealg.abigen_runtime_cmpstring"], unfollowed := true, recurses := true, plainKeys := false, apart := false }
def BaseJoinSaid : Prop := baseJoinRow.holds Try.pinned (OpenSpec.ofChange baseJoinSpec)

/-- ITS FALSE NEIGHBOUR: 'it returns false'. Refute it at one input. -/
def baseJoinWrong : ChangeSpec := { name := "baseJoin", fn := fun _ => fun
  | [d1, d2] => { results := [.lit (.bool false)], args := [d1, d2] }
  | _ => none }
def BaseJoinWrongFalsely : Prop := baseJoinRow.holds Try.pinned (OpenSpec.ofChange baseJoinWrong)

/-- 'royaltylaw07.BaseAdd': WHATEVER THE INPUT: true; the input reads as it did. -/
def baseAddSpec : ChangeSpec := { name := "baseAdd", fn := fun _ => fun
  | [d1, d2, d3, d4] => { results := [.lit (.bool true)], args := [d1, d2, d3, d4] }
  | _ => none }
def baseAddRow : OpenClaim := { program := "ytgjajhopjcdflaa", sum := "c11c4255283c1dbf5a738b753633de18b391f3c57726759dcecca26fae0b8b5d", func := "royalty/royaltylaw07.BaseAdd", spec := "baseAdd", inPlace := ["internal/abi.NoEscape", "internal/bytealg.abigen_runtime_cmpstring"], unfollowed := true, recurses := true, plainKeys := false, apart := false }
def BaseAddSaid : Prop := baseAddRow.holds Try.pinned (OpenSpec.ofChange baseAddSpec)

/-- ITS FALSE NEIGHBOUR: 'it returns false'. Refute it at one input. -/
def baseAddWrong : ChangeSpec := { name := "baseAdd", fn := fun _ => fun
  | [d1, d2, d3, d4] => { results := [.lit (.bool false)], args := [d1, d2, d3, d4] }
  | _ => none }
def BaseAddWrongFalsely : Prop := baseAddRow.holds Try.pinned (OpenSpec.ofChange baseAddWrong)

/-- 'royaltylaw07.BaseEffect': WHATEVER THE INPUT: true; the input reads as it did. -/
def baseEffectSpec : ChangeSpec := { name := "baseEffect", fn := fun _ => fun
  | [d1, d2, d3] => { results := [.lit (.bool true)], args := [d1, d2, d3] }
  | _ => none }
def baseEffectRow : OpenClaim := { program := "ytgjajhopjcdflaa", sum := "c11c4255283c1dbf5a738b753633de18b391f3c57726759dcecca26fae0b8b5d", func := "royalty/royaltylaw07.BaseEffect", spec := "baseEffect", inPlace := ["internal/abi.NoEscape", "internal/bytealg.abigen_runtime_cmpstring"], unfollowed := true, recurses := true, plainKeys := false, apart := false }
def BaseEffectSaid : Prop := baseEffectRow.holds Try.pinned (OpenSpec.ofChange baseEffectSpec)

/-- ITS FALSE NEIGHBOUR: 'it returns false'. Refute it at one input. -/
def baseEffectWrong : ChangeSpec := { name := "baseEffect", fn := fun _ => fun
  | [d1, d2, d3] => { results := [.lit (.bool false)], args := [d1, d2, d3] }
  | _ => none }
def BaseEffectWrongFalsely : Prop := baseEffectRow.holds Try.pinned (OpenSpec.ofChange baseEffectWrong)

/- THE SECOND FORM. 'bulk': how many values and letters a reading holds, each counted each time it is reached (what is shared counts as often as it is met; a slice's spare places count too). A statement '..UptoSaid' is the law's where the arguments, and the package variables that the reading takes, are together of bulk at most 1048576: NARROWER than '..Said'. Prove '..Said' where nothing that the law and all that it calls make is longer than what came in: it says more and counts as full. Else prove '..UptoSaid'. A law counts once. -/
mutual
def uptoBulk {H : Type} : DataW H → Nat
  | .lit (.string bytes) => bytes.length + 1
  | .lit _ => 1
  | .nil => 1
  | .ptr d => uptoBulk d + 1
  | .slice elems spare => uptoBulkAll elems + uptoBulkAll spare + 1
  | .agg parts => uptoBulkAll parts + 1
  | .iface _ d => uptoBulk d + 1
  | .map entries => uptoBulkEntries entries + 1
  | .held _ => 1
def uptoBulkAll {H : Type} : List (DataW H) → Nat
  | [] => 0
  | d :: r => uptoBulk d + uptoBulkAll r
def uptoBulkEntries {H : Type} : List (Lit × DataW H) → Nat
  | [] => 0
  | x :: r => uptoBulkEntry x + uptoBulkEntries r
def uptoBulkEntry {H : Type} : Lit × DataW H → Nat
  | (.string bytes, d) => bytes.length + uptoBulk d + 1
  | (_, d) => uptoBulk d + 1
 end
def uptoSmall : (H : Type) → List (DataW H) → Bool := fun _ ds => decide (uptoBulkAll ds ≤ 1048576)
def OpenSpec.upto (s : _root_.Go.ChangeSpec) : _root_.Go.OpenSpec := { _root_.Go.OpenSpec.ofChange s with cond := some uptoSmall }

/-- 'royaltylaw07.BaseOrder', WHERE WHAT IT READS IS OF BULK AT MOST 1048576: true; the input reads as it did. -/
def baseOrderUptoRow : OpenClaim := { program := "ytgjajhopjcdflaa", sum := "c11c4255283c1dbf5a738b753633de18b391f3c57726759dcecca26fae0b8b5d", func := "royalty/royaltylaw07.BaseOrder", spec := "baseOrder", inPlace := ["internal/abi.NoEscape", "internal/bytealg.abigen_runtime_cmpstring"], unfollowed := true, recurses := true, plainKeys := false, apart := false, narrowed := true }
def BaseOrderUptoSaid : Prop := baseOrderUptoRow.holds Try.pinned (OpenSpec.upto baseOrderSpec)

/-- 'royaltylaw07.BaseJoin', WHERE WHAT IT READS IS OF BULK AT MOST 1048576: true; the input reads as it did. -/
def baseJoinUptoRow : OpenClaim := { program := "ytgjajhopjcdflaa", sum := "c11c4255283c1dbf5a738b753633de18b391f3c57726759dcecca26fae0b8b5d", func := "royalty/royaltylaw07.BaseJoin", spec := "baseJoin", inPlace := ["internal/abi.NoEscape", "internal/bytealg.abigen_runtime_cmpstring"], unfollowed := true, recurses := true, plainKeys := false, apart := false, narrowed := true }
def BaseJoinUptoSaid : Prop := baseJoinUptoRow.holds Try.pinned (OpenSpec.upto baseJoinSpec)

/-- 'royaltylaw07.BaseAdd', WHERE WHAT IT READS IS OF BULK AT MOST 1048576: true; the input reads as it did. -/
def baseAddUptoRow : OpenClaim := { program := "ytgjajhopjcdflaa", sum := "c11c4255283c1dbf5a738b753633de18b391f3c57726759dcecca26fae0b8b5d", func := "royalty/royaltylaw07.BaseAdd", spec := "baseAdd", inPlace := ["internal/abi.NoEscape", "internal/bytealg.abigen_runtime_cmpstring"], unfollowed := true, recurses := true, plainKeys := false, apart := false, narrowed := true }
def BaseAddUptoSaid : Prop := baseAddUptoRow.holds Try.pinned (OpenSpec.upto baseAddSpec)

/-- 'royaltylaw07.BaseEffect', WHERE WHAT IT READS IS OF BULK AT MOST 1048576: true; the input reads as it did. -/
def baseEffectUptoRow : OpenClaim := { program := "ytgjajhopjcdflaa", sum := "c11c4255283c1dbf5a738b753633de18b391f3c57726759dcecca26fae0b8b5d", func := "royalty/royaltylaw07.BaseEffect", spec := "baseEffect", inPlace := ["internal/abi.NoEscape", "internal/bytealg.abigen_runtime_cmpstring"], unfollowed := true, recurses := true, plainKeys := false, apart := false, narrowed := true }
def BaseEffectUptoSaid : Prop := baseEffectUptoRow.holds Try.pinned (OpenSpec.upto baseEffectSpec)

end Rows
end Go.Proofs.Ytgjajhopjcdflaa
