/-
  DERIVED. GIVEN WITH THE SEED: THE CARDS: each row of YtggknbaoaidkiaaGreatDoorRows.lean that lists a variable, with what it lists TIED to the program's text (the seventh form; the later family's looks); each row that meets fmt, with fmt's text TOLD by the authors' own Lean function (tested against real Go, not proved from fmt's source: count such statements apart). THE CARD IS WHAT COUNTS. Prove the row's statement (the work); the ties are given (YtggknbaoaidkiaaGreatDoorTie.lean); close each card by the builder's one call (the guide's Derived/Test/ToyasCard.lean, 'card_holds'). Laid BY PROGRAM, IN A SANDBOX (cutbox-door.mjs). By AI agents, Wed Nov 11 2026. No macro, syntax, notation, axiom, sorry.
-/
import Derived.Test.YtggknbaoaidkiaaGreatDoorRows
import GoSem.ClaimSeven
namespace Go.Proofs.YtggknbaoaidkiaaGreatDoor
namespace Rows

/-- THE TIED CARD OF 'dynamometerlaw4.SchemaRouteMatchesSpec'. -/
def schemaRouteMatchesSpecCard : Claim7 := { stood := { row := schemaRouteMatchesSpecRow, standIns := [], harness := (true, "400784b166f575392f7564cc582abe53c3ddd0a80d642f6bd8617b1ac7f70bb9"), looks := false }, kinds := [], alts := [], laidByText := true, laidKinds := [.data, .data, .data, .data, .pinned], laidTests := true, laidLooks := .later }
def SchemaRouteMatchesSpecCardSaid : Prop := Claim7.holds Tryz.pinned (.plain (OpenSpec.ofChange schemaRouteMatchesSpecSpec)) schemaRouteMatchesSpecCard

/-- THE SECOND FORM's CARD OF 'dynamometerlaw4.SchemaRouteMatchesSpec'. -/
def schemaRouteMatchesSpecUptoCard : Claim7 := { stood := { row := schemaRouteMatchesSpecUptoRow, standIns := [], harness := (true, "400784b166f575392f7564cc582abe53c3ddd0a80d642f6bd8617b1ac7f70bb9"), looks := false }, kinds := [], alts := [], laidByText := true, laidKinds := [.data, .data, .data, .data, .pinned], laidTests := true, laidLooks := .later }
def SchemaRouteMatchesSpecUptoCardSaid : Prop := Claim7.holds Tryz.pinned (.plain (OpenSpec.upto schemaRouteMatchesSpecSpec)) schemaRouteMatchesSpecUptoCard
end Rows
end Go.Proofs.YtggknbaoaidkiaaGreatDoor
