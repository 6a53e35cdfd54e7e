/-
  DERIVED. GIVEN WITH THE SEED: THE CARDS: each row of YtlcopddgplbdhaaGreatDoorRows.lean that lists a variable, with what it lists TIED to the program's text (the seventh form; the later family's looks); each row that meets fmt, with fmt's text TOLD by the authors' own Lean function (tested against real Go, not proved from fmt's source: count such statements apart). THE CARD IS WHAT COUNTS. Prove the row's statement (the work); the ties are given (YtlcopddgplbdhaaGreatDoorTie.lean); close each card by the builder's one call (the guide's Derived/Test/ToyasCard.lean, 'card_holds'). Laid BY PROGRAM, IN A SANDBOX (cutbox-door.mjs). By AI agents, Wed Nov 11 2026. No macro, syntax, notation, axiom, sorry.
-/
import Derived.Test.YtlcopddgplbdhaaGreatDoorRows
import GoSem.ClaimSeven
namespace Go.Proofs.YtlcopddgplbdhaaGreatDoor
namespace Rows

/-- THE TIED CARD OF 'laws.FnMovedPolygons'. -/
def fnMovedPolygonsCard : Claim7 := { stood := { row := fnMovedPolygonsRow, standIns := [], harness := (true, "74b021ef917511c37fbdd495446834e51428d31c417174be4254eb25de90aeed"), looks := true }, kinds := [], alts := [], laidByText := true, laidKinds := [.data, .data, .data, .data, .sentinel, .sentinel, .data, .pinned], laidTests := true, laidLooks := .later }
def FnMovedPolygonsCardSaid : Prop := Claim7.holds Tryz.pinned (.plain (OpenSpec.ofChange fnMovedPolygonsSpec)) fnMovedPolygonsCard

/-- THE SECOND FORM's CARD OF 'laws.FnMovedPolygons'. -/
def fnMovedPolygonsUptoCard : Claim7 := { stood := { row := fnMovedPolygonsUptoRow, standIns := [], harness := (true, "74b021ef917511c37fbdd495446834e51428d31c417174be4254eb25de90aeed"), looks := true }, kinds := [], alts := [], laidByText := true, laidKinds := [.data, .data, .data, .data, .sentinel, .sentinel, .data, .pinned], laidTests := true, laidLooks := .later }
def FnMovedPolygonsUptoCardSaid : Prop := Claim7.holds Tryz.pinned (.plain (OpenSpec.upto fnMovedPolygonsSpec)) fnMovedPolygonsUptoCard
end Rows
end Go.Proofs.YtlcopddgplbdhaaGreatDoor
