/-
  DERIVED. GIVEN WITH THE SEED: THE CARDS: each row of YtfiabonacpepnaaGreatDoorRows.lean that lists a variable, with what it lists TIED to the program's text (the seventh form; the later family's looks); each row that meets fmt, with fmt's text TOLD by the authors' own Lean function (tested against real Go, not proved from fmt's source: count such statements apart). THE CARD IS WHAT COUNTS. Prove the row's statement (the work); the ties are given (YtfiabonacpepnaaGreatDoorTie.lean); close each card by the builder's one call (the guide's Derived/Test/ToyasCard.lean, 'card_holds'). Laid BY PROGRAM, IN A SANDBOX (cutbox-door.mjs). By AI agents, Wed Nov 11 2026. No macro, syntax, notation, axiom, sorry.
-/
import Derived.Test.YtfiabonacpepnaaGreatDoorRows
import GoSem.ClaimSeven
namespace Go.Proofs.YtfiabonacpepnaaGreatDoor
namespace Rows

/-- THE TIED CARD OF 'royaltylaw14.ContractMatchesReference'. -/
def contractMatchesReferenceCard : Claim7 := { stood := { row := contractMatchesReferenceRow, standIns := [], harness := (true, "2a9aa52325fd7bc5602dfade0510c5051363f0514bf88a70e86ccaa7789cb847"), looks := true }, kinds := [], alts := [], laidByText := true, laidKinds := [.data, .data, .data, .data, .sentinel, .sentinel, .pinned], laidTests := true, laidLooks := .later }
def ContractMatchesReferenceCardSaid : Prop := Claim7.holds Tryz.pinned (.plain (OpenSpec.ofChange contractMatchesReferenceSpec)) contractMatchesReferenceCard

/-- THE TIED CARD OF 'royaltylaw14.ContractParseMatchesReference'. -/
def contractParseMatchesReferenceCard : Claim7 := { stood := { row := contractParseMatchesReferenceRow, standIns := [], harness := (true, "2a9aa52325fd7bc5602dfade0510c5051363f0514bf88a70e86ccaa7789cb847"), looks := true }, kinds := [], alts := [], laidByText := true, laidKinds := [.data, .data, .data, .data, .sentinel, .sentinel, .pinned], laidTests := true, laidLooks := .later }
def ContractParseMatchesReferenceCardSaid : Prop := Claim7.holds Tryz.pinned (.plain (OpenSpec.ofChange contractParseMatchesReferenceSpec)) contractParseMatchesReferenceCard

/-- THE TIED CARD OF 'royaltylaw14.ContractRoundTrip'. -/
def contractRoundTripCard : Claim7 := { stood := { row := contractRoundTripRow, standIns := [], harness := (true, "2a9aa52325fd7bc5602dfade0510c5051363f0514bf88a70e86ccaa7789cb847"), looks := true }, kinds := [], alts := [], laidByText := true, laidKinds := [.data, .data, .data, .data, .sentinel, .sentinel, .pinned], laidTests := true, laidLooks := .later }
def ContractRoundTripCardSaid : Prop := Claim7.holds Tryz.pinned (.plain (OpenSpec.ofChange contractRoundTripSpec)) contractRoundTripCard

/-- THE TIED CARD OF 'royaltylaw14.ContractParsedAgain'. -/
def contractParsedAgainCard : Claim7 := { stood := { row := contractParsedAgainRow, standIns := [], harness := (true, "2a9aa52325fd7bc5602dfade0510c5051363f0514bf88a70e86ccaa7789cb847"), looks := true }, kinds := [], alts := [], laidByText := true, laidKinds := [.data, .data, .data, .data, .sentinel, .sentinel, .pinned], laidTests := true, laidLooks := .later }
def ContractParsedAgainCardSaid : Prop := Claim7.holds Tryz.pinned (.plain (OpenSpec.ofChange contractParsedAgainSpec)) contractParsedAgainCard

/-- THE TIED CARD OF 'royaltylaw14.ContractJoined'. -/
def contractJoinedCard : Claim7 := { stood := { row := contractJoinedRow, standIns := [], harness := (true, "2a9aa52325fd7bc5602dfade0510c5051363f0514bf88a70e86ccaa7789cb847"), looks := true }, kinds := [], alts := [], laidByText := true, laidKinds := [.data, .data, .data, .data, .sentinel, .sentinel, .pinned], laidTests := true, laidLooks := .later }
def ContractJoinedCardSaid : Prop := Claim7.holds Tryz.pinned (.plain (OpenSpec.ofChange contractJoinedSpec)) contractJoinedCard

/-- THE TIED CARD OF 'royaltylaw14.ContractFirstError'. -/
def contractFirstErrorCard : Claim7 := { stood := { row := contractFirstErrorRow, standIns := [], harness := (true, "2a9aa52325fd7bc5602dfade0510c5051363f0514bf88a70e86ccaa7789cb847"), looks := true }, kinds := [], alts := [], laidByText := true, laidKinds := [.data, .data, .data, .data, .sentinel, .sentinel, .pinned], laidTests := true, laidLooks := .later }
def ContractFirstErrorCardSaid : Prop := Claim7.holds Tryz.pinned (.plain (OpenSpec.ofChange contractFirstErrorSpec)) contractFirstErrorCard

/-- THE TIED CARD OF 'royaltylaw14.ContractDistinct'. -/
def contractDistinctCard : Claim7 := { stood := { row := contractDistinctRow, standIns := [], harness := (true, "2a9aa52325fd7bc5602dfade0510c5051363f0514bf88a70e86ccaa7789cb847"), looks := true }, kinds := [], alts := [], laidByText := true, laidKinds := [.data, .data, .data, .data, .sentinel, .sentinel, .pinned], laidTests := true, laidLooks := .later }
def ContractDistinctCardSaid : Prop := Claim7.holds Tryz.pinned (.plain (OpenSpec.ofChange contractDistinctSpec)) contractDistinctCard

/-- THE TIED CARD OF 'royaltylaw14.ContractPercent'. -/
def contractPercentCard : Claim7 := { stood := { row := contractPercentRow, standIns := [], harness := (true, "2a9aa52325fd7bc5602dfade0510c5051363f0514bf88a70e86ccaa7789cb847"), looks := true }, kinds := [], alts := [], laidByText := true, laidKinds := [.data, .data, .data, .data, .sentinel, .sentinel, .pinned], laidTests := true, laidLooks := .later }
def ContractPercentCardSaid : Prop := Claim7.holds Tryz.pinned (.plain (OpenSpec.ofChange contractPercentSpec)) contractPercentCard

/-- THE TIED CARD OF 'royaltylaw14.ContractFacts'. -/
def contractFactsCard : Claim7 := { stood := { row := contractFactsRow, standIns := [], harness := (true, "2a9aa52325fd7bc5602dfade0510c5051363f0514bf88a70e86ccaa7789cb847"), looks := true }, kinds := [], alts := [], laidByText := true, laidKinds := [.data, .data, .data, .data, .sentinel, .sentinel, .sentinel, .pinned], laidTests := true, laidLooks := .later }
def ContractFactsCardSaid : Prop := Claim7.holds Tryz.pinned (.plain (OpenSpec.ofChange contractFactsSpec)) contractFactsCard

/-- THE SECOND FORM's CARD OF 'royaltylaw14.ContractMatchesReference'. -/
def contractMatchesReferenceUptoCard : Claim7 := { stood := { row := contractMatchesReferenceUptoRow, standIns := [], harness := (true, "2a9aa52325fd7bc5602dfade0510c5051363f0514bf88a70e86ccaa7789cb847"), looks := true }, kinds := [], alts := [], laidByText := true, laidKinds := [.data, .data, .data, .data, .sentinel, .sentinel, .pinned], laidTests := true, laidLooks := .later }
def ContractMatchesReferenceUptoCardSaid : Prop := Claim7.holds Tryz.pinned (.plain (OpenSpec.upto contractMatchesReferenceSpec)) contractMatchesReferenceUptoCard

/-- THE SECOND FORM's CARD OF 'royaltylaw14.ContractParseMatchesReference'. -/
def contractParseMatchesReferenceUptoCard : Claim7 := { stood := { row := contractParseMatchesReferenceUptoRow, standIns := [], harness := (true, "2a9aa52325fd7bc5602dfade0510c5051363f0514bf88a70e86ccaa7789cb847"), looks := true }, kinds := [], alts := [], laidByText := true, laidKinds := [.data, .data, .data, .data, .sentinel, .sentinel, .pinned], laidTests := true, laidLooks := .later }
def ContractParseMatchesReferenceUptoCardSaid : Prop := Claim7.holds Tryz.pinned (.plain (OpenSpec.upto contractParseMatchesReferenceSpec)) contractParseMatchesReferenceUptoCard

/-- THE SECOND FORM's CARD OF 'royaltylaw14.ContractRoundTrip'. -/
def contractRoundTripUptoCard : Claim7 := { stood := { row := contractRoundTripUptoRow, standIns := [], harness := (true, "2a9aa52325fd7bc5602dfade0510c5051363f0514bf88a70e86ccaa7789cb847"), looks := true }, kinds := [], alts := [], laidByText := true, laidKinds := [.data, .data, .data, .data, .sentinel, .sentinel, .pinned], laidTests := true, laidLooks := .later }
def ContractRoundTripUptoCardSaid : Prop := Claim7.holds Tryz.pinned (.plain (OpenSpec.upto contractRoundTripSpec)) contractRoundTripUptoCard

/-- THE SECOND FORM's CARD OF 'royaltylaw14.ContractParsedAgain'. -/
def contractParsedAgainUptoCard : Claim7 := { stood := { row := contractParsedAgainUptoRow, standIns := [], harness := (true, "2a9aa52325fd7bc5602dfade0510c5051363f0514bf88a70e86ccaa7789cb847"), looks := true }, kinds := [], alts := [], laidByText := true, laidKinds := [.data, .data, .data, .data, .sentinel, .sentinel, .pinned], laidTests := true, laidLooks := .later }
def ContractParsedAgainUptoCardSaid : Prop := Claim7.holds Tryz.pinned (.plain (OpenSpec.upto contractParsedAgainSpec)) contractParsedAgainUptoCard

/-- THE SECOND FORM's CARD OF 'royaltylaw14.ContractJoined'. -/
def contractJoinedUptoCard : Claim7 := { stood := { row := contractJoinedUptoRow, standIns := [], harness := (true, "2a9aa52325fd7bc5602dfade0510c5051363f0514bf88a70e86ccaa7789cb847"), looks := true }, kinds := [], alts := [], laidByText := true, laidKinds := [.data, .data, .data, .data, .sentinel, .sentinel, .pinned], laidTests := true, laidLooks := .later }
def ContractJoinedUptoCardSaid : Prop := Claim7.holds Tryz.pinned (.plain (OpenSpec.upto contractJoinedSpec)) contractJoinedUptoCard

/-- THE SECOND FORM's CARD OF 'royaltylaw14.ContractFirstError'. -/
def contractFirstErrorUptoCard : Claim7 := { stood := { row := contractFirstErrorUptoRow, standIns := [], harness := (true, "2a9aa52325fd7bc5602dfade0510c5051363f0514bf88a70e86ccaa7789cb847"), looks := true }, kinds := [], alts := [], laidByText := true, laidKinds := [.data, .data, .data, .data, .sentinel, .sentinel, .pinned], laidTests := true, laidLooks := .later }
def ContractFirstErrorUptoCardSaid : Prop := Claim7.holds Tryz.pinned (.plain (OpenSpec.upto contractFirstErrorSpec)) contractFirstErrorUptoCard

/-- THE SECOND FORM's CARD OF 'royaltylaw14.ContractDistinct'. -/
def contractDistinctUptoCard : Claim7 := { stood := { row := contractDistinctUptoRow, standIns := [], harness := (true, "2a9aa52325fd7bc5602dfade0510c5051363f0514bf88a70e86ccaa7789cb847"), looks := true }, kinds := [], alts := [], laidByText := true, laidKinds := [.data, .data, .data, .data, .sentinel, .sentinel, .pinned], laidTests := true, laidLooks := .later }
def ContractDistinctUptoCardSaid : Prop := Claim7.holds Tryz.pinned (.plain (OpenSpec.upto contractDistinctSpec)) contractDistinctUptoCard

/-- THE SECOND FORM's CARD OF 'royaltylaw14.ContractPercent'. -/
def contractPercentUptoCard : Claim7 := { stood := { row := contractPercentUptoRow, standIns := [], harness := (true, "2a9aa52325fd7bc5602dfade0510c5051363f0514bf88a70e86ccaa7789cb847"), looks := true }, kinds := [], alts := [], laidByText := true, laidKinds := [.data, .data, .data, .data, .sentinel, .sentinel, .pinned], laidTests := true, laidLooks := .later }
def ContractPercentUptoCardSaid : Prop := Claim7.holds Tryz.pinned (.plain (OpenSpec.upto contractPercentSpec)) contractPercentUptoCard

/-- THE SECOND FORM's CARD OF 'royaltylaw14.ContractFacts'. -/
def contractFactsUptoCard : Claim7 := { stood := { row := contractFactsUptoRow, standIns := [], harness := (true, "2a9aa52325fd7bc5602dfade0510c5051363f0514bf88a70e86ccaa7789cb847"), looks := true }, kinds := [], alts := [], laidByText := true, laidKinds := [.data, .data, .data, .data, .sentinel, .sentinel, .sentinel, .pinned], laidTests := true, laidLooks := .later }
def ContractFactsUptoCardSaid : Prop := Claim7.holds Tryz.pinned (.plain (OpenSpec.upto contractFactsSpec)) contractFactsUptoCard
end Rows
end Go.Proofs.YtfiabonacpepnaaGreatDoor
