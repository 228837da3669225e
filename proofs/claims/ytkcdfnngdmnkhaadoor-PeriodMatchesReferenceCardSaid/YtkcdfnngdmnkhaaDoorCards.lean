/-
  DERIVED. GIVEN WITH THE SEED: THE CARDS: each row of YtkcdfnngdmnkhaaDoorRows.lean that lists a variable, with what it lists TIED to the program's text (the seventh form; the later family's looks); each row that meets fmt, with fmt's text TOLD by the authors' own Lean function (tested against real Go, not proved from fmt's source: count such statements apart). THE CARD IS WHAT COUNTS. Prove the row's statement (the work); the ties are given (YtkcdfnngdmnkhaaDoorTie.lean); close each card by the builder's one call (the guide's Derived/Test/ToyasCard.lean, 'card_holds'). Laid BY PROGRAM, IN A SANDBOX (cutbox-door.mjs). By AI agents, Wed Nov 11 2026. No macro, syntax, notation, axiom, sorry.
-/
import Derived.Test.YtkcdfnngdmnkhaaDoorRows
import GoSem.ClaimSeven
namespace Go.Proofs.YtkcdfnngdmnkhaaDoor
namespace Rows

/-- THE TIED CARD OF 'royaltylaw04.PeriodMatchesReference'. -/
def periodMatchesReferenceCard : Claim7 := { stood := { row := periodMatchesReferenceRow, standIns := [], harness := (true, "3f6b243bf33066023f18e5be0dfd943cf72360b49a6a4d2c5bcb009096c3c286"), looks := false }, kinds := [], alts := [], laidByText := true, laidKinds := [.data], laidTests := true, laidLooks := .later }
def PeriodMatchesReferenceCardSaid : Prop := Claim7.holds Tryd.pinned (.plain (OpenSpec.ofChange periodMatchesReferenceSpec)) periodMatchesReferenceCard

/-- THE TIED CARD OF 'royaltylaw04.PeriodPartition'. -/
def periodPartitionCard : Claim7 := { stood := { row := periodPartitionRow, standIns := [], harness := (true, "3f6b243bf33066023f18e5be0dfd943cf72360b49a6a4d2c5bcb009096c3c286"), looks := false }, kinds := [], alts := [], laidByText := true, laidKinds := [.data], laidTests := true, laidLooks := .later }
def PeriodPartitionCardSaid : Prop := Claim7.holds Tryd.pinned (.plain (OpenSpec.ofChange periodPartitionSpec)) periodPartitionCard

/-- THE TIED CARD OF 'royaltylaw04.PeriodMonotone'. -/
def periodMonotoneCard : Claim7 := { stood := { row := periodMonotoneRow, standIns := [], harness := (true, "3f6b243bf33066023f18e5be0dfd943cf72360b49a6a4d2c5bcb009096c3c286"), looks := false }, kinds := [], alts := [], laidByText := true, laidKinds := [.data], laidTests := true, laidLooks := .later }
def PeriodMonotoneCardSaid : Prop := Claim7.holds Tryd.pinned (.plain (OpenSpec.ofChange periodMonotoneSpec)) periodMonotoneCard

/-- THE TIED CARD OF 'royaltylaw04.PeriodRoundTrip'. -/
def periodRoundTripCard : Claim7 := { stood := { row := periodRoundTripRow, standIns := [], harness := (true, "3f6b243bf33066023f18e5be0dfd943cf72360b49a6a4d2c5bcb009096c3c286"), looks := false }, kinds := [], alts := [], laidByText := true, laidKinds := [.data], laidTests := true, laidLooks := .later }
def PeriodRoundTripCardSaid : Prop := Claim7.holds Tryd.pinned (.plain (OpenSpec.ofChange periodRoundTripSpec)) periodRoundTripCard

/-- THE TIED CARD OF 'royaltylaw04.PeriodYears'. -/
def periodYearsCard : Claim7 := { stood := { row := periodYearsRow, standIns := [], harness := (true, "3f6b243bf33066023f18e5be0dfd943cf72360b49a6a4d2c5bcb009096c3c286"), looks := false }, kinds := [], alts := [], laidByText := true, laidKinds := [.data], laidTests := true, laidLooks := .later }
def PeriodYearsCardSaid : Prop := Claim7.holds Tryd.pinned (.plain (OpenSpec.ofChange periodYearsSpec)) periodYearsCard

/-- THE SECOND FORM's CARD OF 'royaltylaw04.PeriodMatchesReference'. -/
def periodMatchesReferenceUptoCard : Claim7 := { stood := { row := periodMatchesReferenceUptoRow, standIns := [], harness := (true, "3f6b243bf33066023f18e5be0dfd943cf72360b49a6a4d2c5bcb009096c3c286"), looks := false }, kinds := [], alts := [], laidByText := true, laidKinds := [.data], laidTests := true, laidLooks := .later }
def PeriodMatchesReferenceUptoCardSaid : Prop := Claim7.holds Tryd.pinned (.plain (OpenSpec.upto periodMatchesReferenceSpec)) periodMatchesReferenceUptoCard

/-- THE SECOND FORM's CARD OF 'royaltylaw04.PeriodPartition'. -/
def periodPartitionUptoCard : Claim7 := { stood := { row := periodPartitionUptoRow, standIns := [], harness := (true, "3f6b243bf33066023f18e5be0dfd943cf72360b49a6a4d2c5bcb009096c3c286"), looks := false }, kinds := [], alts := [], laidByText := true, laidKinds := [.data], laidTests := true, laidLooks := .later }
def PeriodPartitionUptoCardSaid : Prop := Claim7.holds Tryd.pinned (.plain (OpenSpec.upto periodPartitionSpec)) periodPartitionUptoCard

/-- THE SECOND FORM's CARD OF 'royaltylaw04.PeriodMonotone'. -/
def periodMonotoneUptoCard : Claim7 := { stood := { row := periodMonotoneUptoRow, standIns := [], harness := (true, "3f6b243bf33066023f18e5be0dfd943cf72360b49a6a4d2c5bcb009096c3c286"), looks := false }, kinds := [], alts := [], laidByText := true, laidKinds := [.data], laidTests := true, laidLooks := .later }
def PeriodMonotoneUptoCardSaid : Prop := Claim7.holds Tryd.pinned (.plain (OpenSpec.upto periodMonotoneSpec)) periodMonotoneUptoCard

/-- THE SECOND FORM's CARD OF 'royaltylaw04.PeriodRoundTrip'. -/
def periodRoundTripUptoCard : Claim7 := { stood := { row := periodRoundTripUptoRow, standIns := [], harness := (true, "3f6b243bf33066023f18e5be0dfd943cf72360b49a6a4d2c5bcb009096c3c286"), looks := false }, kinds := [], alts := [], laidByText := true, laidKinds := [.data], laidTests := true, laidLooks := .later }
def PeriodRoundTripUptoCardSaid : Prop := Claim7.holds Tryd.pinned (.plain (OpenSpec.upto periodRoundTripSpec)) periodRoundTripUptoCard

/-- THE SECOND FORM's CARD OF 'royaltylaw04.PeriodYears'. -/
def periodYearsUptoCard : Claim7 := { stood := { row := periodYearsUptoRow, standIns := [], harness := (true, "3f6b243bf33066023f18e5be0dfd943cf72360b49a6a4d2c5bcb009096c3c286"), looks := false }, kinds := [], alts := [], laidByText := true, laidKinds := [.data], laidTests := true, laidLooks := .later }
def PeriodYearsUptoCardSaid : Prop := Claim7.holds Tryd.pinned (.plain (OpenSpec.upto periodYearsSpec)) periodYearsUptoCard
end Rows
end Go.Proofs.YtkcdfnngdmnkhaaDoor
