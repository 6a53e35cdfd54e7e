/-
  DERIVED. GIVEN WITH THE SEED: THE CARDS: each row of YtmaiggbljfaadaaDoorRows.lean that lists a variable, with what it lists TIED to the program's text (the seventh form; the later family's looks); each row that meets fmt, with fmt's text TOLD by the authors' own Lean function (tested against real Go, not proved from fmt's source: count such statements apart). THE CARD IS WHAT COUNTS. Prove the row's statement (the work); the ties are given (YtmaiggbljfaadaaDoorTie.lean); close each card by the builder's one call (the guide's Derived/Test/ToyasCard.lean, 'card_holds'). Laid BY PROGRAM, IN A SANDBOX (cutbox-door.mjs). By AI agents, Wed Nov 11 2026. No macro, syntax, notation, axiom, sorry.
-/
import Derived.Test.YtmaiggbljfaadaaDoorRows
import GoSem.ClaimSeven
namespace Go.Proofs.YtmaiggbljfaadaaDoor
namespace Rows

/-- THE TIED CARD OF 'laws.FnExactReflection'. -/
def fnExactReflectionCard : Claim7 := { stood := { row := fnExactReflectionRow, standIns := [], harness := (true, "7e1077986b7dc7face7b4434fde506bb4fb6f9328886bfd66dde49edf2d868d5"), looks := false }, kinds := [], alts := [], laidByText := true, laidKinds := [.data], laidTests := true, laidLooks := .later }
def FnExactReflectionCardSaid : Prop := Claim7.holds Tryd.pinned (.plain (OpenSpec.ofChange fnExactReflectionSpec)) fnExactReflectionCard

/-- THE SECOND FORM's CARD OF 'laws.FnExactReflection'. -/
def fnExactReflectionUptoCard : Claim7 := { stood := { row := fnExactReflectionUptoRow, standIns := [], harness := (true, "7e1077986b7dc7face7b4434fde506bb4fb6f9328886bfd66dde49edf2d868d5"), looks := false }, kinds := [], alts := [], laidByText := true, laidKinds := [.data], laidTests := true, laidLooks := .later }
def FnExactReflectionUptoCardSaid : Prop := Claim7.holds Tryd.pinned (.plain (OpenSpec.upto fnExactReflectionSpec)) fnExactReflectionUptoCard
end Rows
end Go.Proofs.YtmaiggbljfaadaaDoor
