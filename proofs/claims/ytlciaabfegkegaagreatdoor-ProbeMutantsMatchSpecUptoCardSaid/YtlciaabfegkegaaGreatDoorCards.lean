/-
  DERIVED. GIVEN WITH THE SEED: THE CARDS: each row of YtlciaabfegkegaaGreatDoorRows.lean that lists a variable, with what it lists TIED to the program's text (the seventh form; the later family's looks); each row that meets fmt, with fmt's text TOLD by the authors' own Lean function (tested against real Go, not proved from fmt's source: count such statements apart). THE CARD IS WHAT COUNTS. Prove the row's statement (the work); the ties are given (YtlciaabfegkegaaGreatDoorTie.lean); close each card by the builder's one call (the guide's Derived/Test/ToyasCard.lean, 'card_holds'). Laid BY PROGRAM, IN A SANDBOX (cutbox-door.mjs). By AI agents, Wed Nov 11 2026. No macro, syntax, notation, axiom, sorry.
-/
import Derived.Test.YtlciaabfegkegaaGreatDoorRows
import GoSem.ClaimSeven
namespace Go.Proofs.YtlciaabfegkegaaGreatDoor
namespace Rows

/-- THE TIED CARD OF 'dynamometerlaw12.ProbeMutantsMatchSpec'. -/
def probeMutantsMatchSpecCard : Claim7 := { stood := { row := probeMutantsMatchSpecRow, standIns := [], harness := (true, "3b1a4b673166403e6a5f82fa7e9811f41e43be530bd0e75675637d4e022d58ee"), looks := false }, kinds := [], alts := [], laidByText := true, laidKinds := [.data, .data, .data, .data, .pinned, .pinned, .pinned, .pinned, .pinned, .pinned], laidTests := true, laidLooks := .later }
def ProbeMutantsMatchSpecCardSaid : Prop := Claim7.holds Tryz.pinned (.plain (OpenSpec.ofChange probeMutantsMatchSpecSpec)) probeMutantsMatchSpecCard

/-- THE SECOND FORM's CARD OF 'dynamometerlaw12.ProbeMutantsMatchSpec'. -/
def probeMutantsMatchSpecUptoCard : Claim7 := { stood := { row := probeMutantsMatchSpecUptoRow, standIns := [], harness := (true, "3b1a4b673166403e6a5f82fa7e9811f41e43be530bd0e75675637d4e022d58ee"), looks := false }, kinds := [], alts := [], laidByText := true, laidKinds := [.data, .data, .data, .data, .pinned, .pinned, .pinned, .pinned, .pinned, .pinned], laidTests := true, laidLooks := .later }
def ProbeMutantsMatchSpecUptoCardSaid : Prop := Claim7.holds Tryz.pinned (.plain (OpenSpec.upto probeMutantsMatchSpecSpec)) probeMutantsMatchSpecUptoCard
end Rows
end Go.Proofs.YtlciaabfegkegaaGreatDoor
