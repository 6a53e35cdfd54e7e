/-
  DERIVED. GIVEN WITH THE SEED: THE CARDS: each row of YtooikeeckoflpaaDoorRows.lean that lists a variable, with what it lists TIED to the program's text (the seventh form; the later family's looks); each row that meets fmt, with fmt's text TOLD by the authors' own Lean function (tested against real Go, not proved from fmt's source: count such statements apart). THE CARD IS WHAT COUNTS. Prove the row's statement (the work); the ties are given (YtooikeeckoflpaaDoorTie.lean); close each card by the builder's one call (the guide's Derived/Test/ToyasCard.lean, 'card_holds'). Laid BY PROGRAM, IN A SANDBOX (cutbox-door.mjs). By AI agents, Wed Nov 11 2026. No macro, syntax, notation, axiom, sorry.
-/
import Derived.Test.YtooikeeckoflpaaDoorRows
import GoSem.ClaimSeven
namespace Go.Proofs.YtooikeeckoflpaaDoor
namespace Rows

/-- THE TIED CARD OF 'laws.FnExactAreaOf'. -/
def fnExactAreaOfCard : Claim7 := { stood := { row := fnExactAreaOfRow, standIns := [], harness := (true, "58b5306dc5e2e3a246d8590f3e84c873bdf737871d08f670cf38a5c74d4d4d30"), looks := false }, kinds := [], alts := [], laidByText := true, laidKinds := [.data], laidTests := true, laidLooks := .later }
def FnExactAreaOfCardSaid : Prop := Claim7.holds Tryd.pinned (.plain (OpenSpec.ofChange fnExactAreaOfSpec)) fnExactAreaOfCard

/-- THE TIED CARD OF 'laws.FnExactMovePolygon'. -/
def fnExactMovePolygonCard : Claim7 := { stood := { row := fnExactMovePolygonRow, standIns := [], harness := (true, "58b5306dc5e2e3a246d8590f3e84c873bdf737871d08f670cf38a5c74d4d4d30"), looks := false }, kinds := [], alts := [], laidByText := true, laidKinds := [.data], laidTests := true, laidLooks := .later }
def FnExactMovePolygonCardSaid : Prop := Claim7.holds Tryd.pinned (.plain (OpenSpec.ofChange fnExactMovePolygonSpec)) fnExactMovePolygonCard

/-- THE TIED CARD OF 'laws.FnExactCutPolygon'. -/
def fnExactCutPolygonCard : Claim7 := { stood := { row := fnExactCutPolygonRow, standIns := [], harness := (true, "58b5306dc5e2e3a246d8590f3e84c873bdf737871d08f670cf38a5c74d4d4d30"), looks := false }, kinds := [], alts := [], laidByText := true, laidKinds := [.data], laidTests := true, laidLooks := .later }
def FnExactCutPolygonCardSaid : Prop := Claim7.holds Tryd.pinned (.plain (OpenSpec.ofChange fnExactCutPolygonSpec)) fnExactCutPolygonCard

/-- THE TIED CARD OF 'laws.FnExactIntersectPolygons'. -/
def fnExactIntersectPolygonsCard : Claim7 := { stood := { row := fnExactIntersectPolygonsRow, standIns := [], harness := (true, "58b5306dc5e2e3a246d8590f3e84c873bdf737871d08f670cf38a5c74d4d4d30"), looks := false }, kinds := [], alts := [], laidByText := true, laidKinds := [.data], laidTests := true, laidLooks := .later }
def FnExactIntersectPolygonsCardSaid : Prop := Claim7.holds Tryd.pinned (.plain (OpenSpec.ofChange fnExactIntersectPolygonsSpec)) fnExactIntersectPolygonsCard

/-- THE SECOND FORM's CARD OF 'laws.FnExactAreaOf'. -/
def fnExactAreaOfUptoCard : Claim7 := { stood := { row := fnExactAreaOfUptoRow, standIns := [], harness := (true, "58b5306dc5e2e3a246d8590f3e84c873bdf737871d08f670cf38a5c74d4d4d30"), looks := false }, kinds := [], alts := [], laidByText := true, laidKinds := [.data], laidTests := true, laidLooks := .later }
def FnExactAreaOfUptoCardSaid : Prop := Claim7.holds Tryd.pinned (.plain (OpenSpec.upto fnExactAreaOfSpec)) fnExactAreaOfUptoCard

/-- THE SECOND FORM's CARD OF 'laws.FnExactMovePolygon'. -/
def fnExactMovePolygonUptoCard : Claim7 := { stood := { row := fnExactMovePolygonUptoRow, standIns := [], harness := (true, "58b5306dc5e2e3a246d8590f3e84c873bdf737871d08f670cf38a5c74d4d4d30"), looks := false }, kinds := [], alts := [], laidByText := true, laidKinds := [.data], laidTests := true, laidLooks := .later }
def FnExactMovePolygonUptoCardSaid : Prop := Claim7.holds Tryd.pinned (.plain (OpenSpec.upto fnExactMovePolygonSpec)) fnExactMovePolygonUptoCard

/-- THE SECOND FORM's CARD OF 'laws.FnExactCutPolygon'. -/
def fnExactCutPolygonUptoCard : Claim7 := { stood := { row := fnExactCutPolygonUptoRow, standIns := [], harness := (true, "58b5306dc5e2e3a246d8590f3e84c873bdf737871d08f670cf38a5c74d4d4d30"), looks := false }, kinds := [], alts := [], laidByText := true, laidKinds := [.data], laidTests := true, laidLooks := .later }
def FnExactCutPolygonUptoCardSaid : Prop := Claim7.holds Tryd.pinned (.plain (OpenSpec.upto fnExactCutPolygonSpec)) fnExactCutPolygonUptoCard

/-- THE SECOND FORM's CARD OF 'laws.FnExactIntersectPolygons'. -/
def fnExactIntersectPolygonsUptoCard : Claim7 := { stood := { row := fnExactIntersectPolygonsUptoRow, standIns := [], harness := (true, "58b5306dc5e2e3a246d8590f3e84c873bdf737871d08f670cf38a5c74d4d4d30"), looks := false }, kinds := [], alts := [], laidByText := true, laidKinds := [.data], laidTests := true, laidLooks := .later }
def FnExactIntersectPolygonsUptoCardSaid : Prop := Claim7.holds Tryd.pinned (.plain (OpenSpec.upto fnExactIntersectPolygonsSpec)) fnExactIntersectPolygonsUptoCard
end Rows
end Go.Proofs.YtooikeeckoflpaaDoor
