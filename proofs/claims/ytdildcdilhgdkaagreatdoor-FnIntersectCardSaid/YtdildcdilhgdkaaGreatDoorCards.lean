/-
  DERIVED. GIVEN WITH THE SEED: THE CARDS: each row of YtdildcdilhgdkaaGreatDoorRows.lean that lists a variable, with what it lists TIED to the program's text (the seventh form; the later family's looks); each row that meets fmt, with fmt's text TOLD by the authors' own Lean function (tested against real Go, not proved from fmt's source: count such statements apart). THE CARD IS WHAT COUNTS. Prove the row's statement (the work); the ties are given (YtdildcdilhgdkaaGreatDoorTie.lean); close each card by the builder's one call (the guide's Derived/Test/ToyasCard.lean, 'card_holds'). Laid BY PROGRAM, IN A SANDBOX (cutbox-door.mjs). By AI agents, Wed Nov 11 2026. No macro, syntax, notation, axiom, sorry.
-/
import Derived.Test.YtdildcdilhgdkaaGreatDoorRows
import GoSem.ClaimSeven
namespace Go.Proofs.YtdildcdilhgdkaaGreatDoor
namespace Rows

/-- THE TIED CARD OF 'laws.FnCut'. -/
def fnCutCard : Claim7 := { stood := { row := fnCutRow, standIns := [], harness := (true, "51ed81b57d5389e32e4fff1f15cadf41572abbeb4ae45c95fb38c6063286d04e"), looks := false }, kinds := [], alts := [], laidByText := true, laidKinds := [.data], laidTests := true, laidLooks := .later }
def FnCutCardSaid : Prop := Claim7.holds Tryz.pinned (.plain (OpenSpec.ofChange fnCutSpec)) fnCutCard

/-- THE TIED CARD OF 'laws.FnIntersect'. -/
def fnIntersectCard : Claim7 := { stood := { row := fnIntersectRow, standIns := [], harness := (true, "51ed81b57d5389e32e4fff1f15cadf41572abbeb4ae45c95fb38c6063286d04e"), looks := false }, kinds := [], alts := [], laidByText := true, laidKinds := [.data], laidTests := true, laidLooks := .later }
def FnIntersectCardSaid : Prop := Claim7.holds Tryz.pinned (.plain (OpenSpec.ofChange fnIntersectSpec)) fnIntersectCard

/-- THE SECOND FORM's CARD OF 'laws.FnCut'. -/
def fnCutUptoCard : Claim7 := { stood := { row := fnCutUptoRow, standIns := [], harness := (true, "51ed81b57d5389e32e4fff1f15cadf41572abbeb4ae45c95fb38c6063286d04e"), looks := false }, kinds := [], alts := [], laidByText := true, laidKinds := [.data], laidTests := true, laidLooks := .later }
def FnCutUptoCardSaid : Prop := Claim7.holds Tryz.pinned (.plain (OpenSpec.upto fnCutSpec)) fnCutUptoCard

/-- THE SECOND FORM's CARD OF 'laws.FnIntersect'. -/
def fnIntersectUptoCard : Claim7 := { stood := { row := fnIntersectUptoRow, standIns := [], harness := (true, "51ed81b57d5389e32e4fff1f15cadf41572abbeb4ae45c95fb38c6063286d04e"), looks := false }, kinds := [], alts := [], laidByText := true, laidKinds := [.data], laidTests := true, laidLooks := .later }
def FnIntersectUptoCardSaid : Prop := Claim7.holds Tryz.pinned (.plain (OpenSpec.upto fnIntersectSpec)) fnIntersectUptoCard
end Rows
end Go.Proofs.YtdildcdilhgdkaaGreatDoor
