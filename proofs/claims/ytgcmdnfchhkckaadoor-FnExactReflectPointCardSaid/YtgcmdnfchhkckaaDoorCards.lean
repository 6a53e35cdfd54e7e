/-
  DERIVED. GIVEN WITH THE SEED: THE CARDS: each row of YtgcmdnfchhkckaaDoorRows.lean that lists a variable, with what it lists TIED to the program's text (the seventh form; the later family's looks); each row that meets fmt, with fmt's text TOLD by the authors' own Lean function (tested against real Go, not proved from fmt's source: count such statements apart). THE CARD IS WHAT COUNTS. Prove the row's statement (the work); the ties are given (YtgcmdnfchhkckaaDoorTie.lean); close each card by the builder's one call (the guide's Derived/Test/ToyasCard.lean, 'card_holds'). Laid BY PROGRAM, IN A SANDBOX (cutbox-door.mjs). By AI agents, Wed Nov 11 2026. No macro, syntax, notation, axiom, sorry.
-/
import Derived.Test.YtgcmdnfchhkckaaDoorRows
import GoSem.ClaimSeven
namespace Go.Proofs.YtgcmdnfchhkckaaDoor
namespace Rows

/-- THE TIED CARD OF 'laws.FnExactReflectPoint'. -/
def fnExactReflectPointCard : Claim7 := { stood := { row := fnExactReflectPointRow, standIns := [], harness := (true, "c2168b5bf6d341082ae408538921b0d0fc99ce3324c988318c7630fc237daadc"), looks := false }, kinds := [], alts := [], laidByText := true, laidKinds := [.data], laidTests := true, laidLooks := .later }
def FnExactReflectPointCardSaid : Prop := Claim7.holds Tryd.pinned (.plain (OpenSpec.ofChange fnExactReflectPointSpec)) fnExactReflectPointCard

/-- THE SECOND FORM's CARD OF 'laws.FnExactReflectPoint'. -/
def fnExactReflectPointUptoCard : Claim7 := { stood := { row := fnExactReflectPointUptoRow, standIns := [], harness := (true, "c2168b5bf6d341082ae408538921b0d0fc99ce3324c988318c7630fc237daadc"), looks := false }, kinds := [], alts := [], laidByText := true, laidKinds := [.data], laidTests := true, laidLooks := .later }
def FnExactReflectPointUptoCardSaid : Prop := Claim7.holds Tryd.pinned (.plain (OpenSpec.upto fnExactReflectPointSpec)) fnExactReflectPointUptoCard
end Rows
end Go.Proofs.YtgcmdnfchhkckaaDoor
