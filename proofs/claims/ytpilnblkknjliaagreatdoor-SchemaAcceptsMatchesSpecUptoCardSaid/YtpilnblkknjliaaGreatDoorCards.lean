/-
  DERIVED. GIVEN WITH THE SEED: THE CARDS: each row of YtpilnblkknjliaaGreatDoorRows.lean that lists a variable, with what it lists TIED to the program's text (the seventh form; the later family's looks); each row that meets fmt, with fmt's text TOLD by the authors' own Lean function (tested against real Go, not proved from fmt's source: count such statements apart). THE CARD IS WHAT COUNTS. Prove the row's statement (the work); the ties are given (YtpilnblkknjliaaGreatDoorTie.lean); close each card by the builder's one call (the guide's Derived/Test/ToyasCard.lean, 'card_holds'). Laid BY PROGRAM, IN A SANDBOX (cutbox-door.mjs). By AI agents, Wed Nov 11 2026. No macro, syntax, notation, axiom, sorry.
-/
import Derived.Test.YtpilnblkknjliaaGreatDoorRows
import GoSem.ClaimSeven
namespace Go.Proofs.YtpilnblkknjliaaGreatDoor
namespace Rows

/-- THE TIED CARD OF 'dynamometerlaw4.SchemaAcceptsMatchesSpec'. -/
def schemaAcceptsMatchesSpecCard : Claim7 := { stood := { row := schemaAcceptsMatchesSpecRow, standIns := [], harness := (true, "0a6efb721f79e0d56a9b583611c773c7586b01d03ca6b59fec9609e0fccd0362"), looks := false }, kinds := [], alts := [], laidByText := true, laidKinds := [.data, .data, .data, .data, .pinned], laidTests := true, laidLooks := .later }
def SchemaAcceptsMatchesSpecCardSaid : Prop := Claim7.holds Tryz.pinned (.plain (OpenSpec.ofChange schemaAcceptsMatchesSpecSpec)) schemaAcceptsMatchesSpecCard

/-- THE SECOND FORM's CARD OF 'dynamometerlaw4.SchemaAcceptsMatchesSpec'. -/
def schemaAcceptsMatchesSpecUptoCard : Claim7 := { stood := { row := schemaAcceptsMatchesSpecUptoRow, standIns := [], harness := (true, "0a6efb721f79e0d56a9b583611c773c7586b01d03ca6b59fec9609e0fccd0362"), looks := false }, kinds := [], alts := [], laidByText := true, laidKinds := [.data, .data, .data, .data, .pinned], laidTests := true, laidLooks := .later }
def SchemaAcceptsMatchesSpecUptoCardSaid : Prop := Claim7.holds Tryz.pinned (.plain (OpenSpec.upto schemaAcceptsMatchesSpecSpec)) schemaAcceptsMatchesSpecUptoCard
end Rows
end Go.Proofs.YtpilnblkknjliaaGreatDoor
