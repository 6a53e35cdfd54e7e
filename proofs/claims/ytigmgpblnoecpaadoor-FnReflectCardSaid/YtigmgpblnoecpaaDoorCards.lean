/-
  DERIVED. GIVEN WITH THE SEED: THE CARDS: each row of YtigmgpblnoecpaaDoorRows.lean that lists a variable, with what it lists TIED to the program's text (the seventh form; the later family's looks); each row that meets fmt, with fmt's text TOLD by the authors' own Lean function (tested against real Go, not proved from fmt's source: count such statements apart). THE CARD IS WHAT COUNTS. Prove the row's statement (the work); the ties are given (YtigmgpblnoecpaaDoorTie.lean); close each card by the builder's one call (the guide's Derived/Test/ToyasCard.lean, 'card_holds'). Laid BY PROGRAM, IN A SANDBOX (cutbox-door.mjs). By AI agents, Wed Nov 11 2026. No macro, syntax, notation, axiom, sorry.
-/
import Derived.Test.YtigmgpblnoecpaaDoorRows
import GoSem.ClaimSeven
namespace Go.Proofs.YtigmgpblnoecpaaDoor
namespace Rows

/-- THE TIED CARD OF 'laws.FnMeet'. -/
def fnMeetCard : Claim7 := { stood := { row := fnMeetRow, standIns := [], harness := (true, "6f953bbf160e2181e65d51c7d3dc563e5769d8e195e2e82b031babb40ce62614"), looks := false }, kinds := [], alts := [], laidByText := true, laidKinds := [.data], laidTests := true, laidLooks := .later }
def FnMeetCardSaid : Prop := Claim7.holds Tryd.pinned (.plain (OpenSpec.ofChange fnMeetSpec)) fnMeetCard

/-- THE TIED CARD OF 'laws.FnReflect'. -/
def fnReflectCard : Claim7 := { stood := { row := fnReflectRow, standIns := [], harness := (true, "6f953bbf160e2181e65d51c7d3dc563e5769d8e195e2e82b031babb40ce62614"), looks := false }, kinds := [], alts := [], laidByText := true, laidKinds := [.data], laidTests := true, laidLooks := .later }
def FnReflectCardSaid : Prop := Claim7.holds Tryd.pinned (.plain (OpenSpec.ofChange fnReflectSpec)) fnReflectCard

/-- THE TIED CARD OF 'laws.FnReflections'. -/
def fnReflectionsCard : Claim7 := { stood := { row := fnReflectionsRow, standIns := [], harness := (true, "6f953bbf160e2181e65d51c7d3dc563e5769d8e195e2e82b031babb40ce62614"), looks := false }, kinds := [], alts := [], laidByText := true, laidKinds := [.data], laidTests := true, laidLooks := .later }
def FnReflectionsCardSaid : Prop := Claim7.holds Tryd.pinned (.plain (OpenSpec.ofChange fnReflectionsSpec)) fnReflectionsCard

/-- THE TIED CARD OF 'laws.FnMotionLines'. -/
def fnMotionLinesCard : Claim7 := { stood := { row := fnMotionLinesRow, standIns := [], harness := (true, "6f953bbf160e2181e65d51c7d3dc563e5769d8e195e2e82b031babb40ce62614"), looks := false }, kinds := [], alts := [], laidByText := true, laidKinds := [.data], laidTests := true, laidLooks := .later }
def FnMotionLinesCardSaid : Prop := Claim7.holds Tryd.pinned (.plain (OpenSpec.ofChange fnMotionLinesSpec)) fnMotionLinesCard

/-- THE SECOND FORM's CARD OF 'laws.FnMeet'. -/
def fnMeetUptoCard : Claim7 := { stood := { row := fnMeetUptoRow, standIns := [], harness := (true, "6f953bbf160e2181e65d51c7d3dc563e5769d8e195e2e82b031babb40ce62614"), looks := false }, kinds := [], alts := [], laidByText := true, laidKinds := [.data], laidTests := true, laidLooks := .later }
def FnMeetUptoCardSaid : Prop := Claim7.holds Tryd.pinned (.plain (OpenSpec.upto fnMeetSpec)) fnMeetUptoCard

/-- THE SECOND FORM's CARD OF 'laws.FnReflect'. -/
def fnReflectUptoCard : Claim7 := { stood := { row := fnReflectUptoRow, standIns := [], harness := (true, "6f953bbf160e2181e65d51c7d3dc563e5769d8e195e2e82b031babb40ce62614"), looks := false }, kinds := [], alts := [], laidByText := true, laidKinds := [.data], laidTests := true, laidLooks := .later }
def FnReflectUptoCardSaid : Prop := Claim7.holds Tryd.pinned (.plain (OpenSpec.upto fnReflectSpec)) fnReflectUptoCard

/-- THE SECOND FORM's CARD OF 'laws.FnReflections'. -/
def fnReflectionsUptoCard : Claim7 := { stood := { row := fnReflectionsUptoRow, standIns := [], harness := (true, "6f953bbf160e2181e65d51c7d3dc563e5769d8e195e2e82b031babb40ce62614"), looks := false }, kinds := [], alts := [], laidByText := true, laidKinds := [.data], laidTests := true, laidLooks := .later }
def FnReflectionsUptoCardSaid : Prop := Claim7.holds Tryd.pinned (.plain (OpenSpec.upto fnReflectionsSpec)) fnReflectionsUptoCard

/-- THE SECOND FORM's CARD OF 'laws.FnMotionLines'. -/
def fnMotionLinesUptoCard : Claim7 := { stood := { row := fnMotionLinesUptoRow, standIns := [], harness := (true, "6f953bbf160e2181e65d51c7d3dc563e5769d8e195e2e82b031babb40ce62614"), looks := false }, kinds := [], alts := [], laidByText := true, laidKinds := [.data], laidTests := true, laidLooks := .later }
def FnMotionLinesUptoCardSaid : Prop := Claim7.holds Tryd.pinned (.plain (OpenSpec.upto fnMotionLinesSpec)) fnMotionLinesUptoCard
end Rows
end Go.Proofs.YtigmgpblnoecpaaDoor
