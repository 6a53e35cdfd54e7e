/-
  DERIVED. GIVEN WITH THE SEED: THE CARDS: each row of YtbfdppnmojionaaDoorRows.lean that lists a variable, with what it lists TIED to the program's text (the seventh form; the later family's looks); each row that meets fmt, with fmt's text TOLD by the authors' own Lean function (tested against real Go, not proved from fmt's source: count such statements apart). THE CARD IS WHAT COUNTS. Prove the row's statement (the work); the ties are given (YtbfdppnmojionaaDoorTie.lean); close each card by the builder's one call (the guide's Derived/Test/ToyasCard.lean, 'card_holds'). Laid BY PROGRAM, IN A SANDBOX (cutbox-door.mjs). By AI agents, Wed Nov 11 2026. No macro, syntax, notation, axiom, sorry.
-/
import Derived.Test.YtbfdppnmojionaaDoorRows
import GoSem.ClaimSeven
namespace Go.Proofs.YtbfdppnmojionaaDoor
namespace Rows

/-- THE TIED CARD OF 'laws.FnExactMeetLines'. -/
def fnExactMeetLinesCard : Claim7 := { stood := { row := fnExactMeetLinesRow, standIns := [], harness := (true, "eb1476c6b64d2d85f25b1da7873841e89b6e4eb98ea2bac9b7af20b3623b90c7"), looks := false }, kinds := [], alts := [], laidByText := true, laidKinds := [.data], laidTests := true, laidLooks := .later }
def FnExactMeetLinesCardSaid : Prop := Claim7.holds Tryd.pinned (.plain (OpenSpec.ofChange fnExactMeetLinesSpec)) fnExactMeetLinesCard

/-- THE TIED CARD OF 'laws.FnExactReflection'. -/
def fnExactReflectionCard : Claim7 := { stood := { row := fnExactReflectionRow, standIns := [], harness := (true, "eb1476c6b64d2d85f25b1da7873841e89b6e4eb98ea2bac9b7af20b3623b90c7"), looks := false }, kinds := [], alts := [], laidByText := true, laidKinds := [.data], laidTests := true, laidLooks := .later }
def FnExactReflectionCardSaid : Prop := Claim7.holds Tryd.pinned (.plain (OpenSpec.ofChange fnExactReflectionSpec)) fnExactReflectionCard

/-- THE TIED CARD OF 'laws.FnMeet'. -/
def fnMeetCard : Claim7 := { stood := { row := fnMeetRow, standIns := [], harness := (true, "eb1476c6b64d2d85f25b1da7873841e89b6e4eb98ea2bac9b7af20b3623b90c7"), looks := false }, kinds := [], alts := [], laidByText := true, laidKinds := [.data], laidTests := true, laidLooks := .later }
def FnMeetCardSaid : Prop := Claim7.holds Tryd.pinned (.plain (OpenSpec.ofChange fnMeetSpec)) fnMeetCard

/-- THE TIED CARD OF 'laws.FnReflect'. -/
def fnReflectCard : Claim7 := { stood := { row := fnReflectRow, standIns := [], harness := (true, "eb1476c6b64d2d85f25b1da7873841e89b6e4eb98ea2bac9b7af20b3623b90c7"), looks := false }, kinds := [], alts := [], laidByText := true, laidKinds := [.data], laidTests := true, laidLooks := .later }
def FnReflectCardSaid : Prop := Claim7.holds Tryd.pinned (.plain (OpenSpec.ofChange fnReflectSpec)) fnReflectCard

/-- THE TIED CARD OF 'laws.FnExactAreaOf'. -/
def fnExactAreaOfCard : Claim7 := { stood := { row := fnExactAreaOfRow, standIns := [], harness := (true, "eb1476c6b64d2d85f25b1da7873841e89b6e4eb98ea2bac9b7af20b3623b90c7"), looks := false }, kinds := [], alts := [], laidByText := true, laidKinds := [.data], laidTests := true, laidLooks := .later }
def FnExactAreaOfCardSaid : Prop := Claim7.holds Tryd.pinned (.plain (OpenSpec.ofChange fnExactAreaOfSpec)) fnExactAreaOfCard

/-- THE TIED CARD OF 'laws.FnReflections'. -/
def fnReflectionsCard : Claim7 := { stood := { row := fnReflectionsRow, standIns := [], harness := (true, "eb1476c6b64d2d85f25b1da7873841e89b6e4eb98ea2bac9b7af20b3623b90c7"), looks := false }, kinds := [], alts := [], laidByText := true, laidKinds := [.data], laidTests := true, laidLooks := .later }
def FnReflectionsCardSaid : Prop := Claim7.holds Tryd.pinned (.plain (OpenSpec.ofChange fnReflectionsSpec)) fnReflectionsCard

/-- THE TIED CARD OF 'laws.FnMotionLines'. -/
def fnMotionLinesCard : Claim7 := { stood := { row := fnMotionLinesRow, standIns := [], harness := (true, "eb1476c6b64d2d85f25b1da7873841e89b6e4eb98ea2bac9b7af20b3623b90c7"), looks := false }, kinds := [], alts := [], laidByText := true, laidKinds := [.data], laidTests := true, laidLooks := .later }
def FnMotionLinesCardSaid : Prop := Claim7.holds Tryd.pinned (.plain (OpenSpec.ofChange fnMotionLinesSpec)) fnMotionLinesCard

/-- THE TIED CARD OF 'laws.FnExactCertificateText'. -/
def fnExactCertificateTextCard : Claim7 := { stood := { row := fnExactCertificateTextRow, standIns := [], harness := (true, "eb1476c6b64d2d85f25b1da7873841e89b6e4eb98ea2bac9b7af20b3623b90c7"), looks := false }, kinds := [], alts := [], laidByText := true, laidKinds := [.data, .data, .data, .widerDeep], laidTests := true, laidLooks := .later }
def FnExactCertificateTextCardSaid : Prop := Claim7.holds Tryd.pinned (.plain (OpenSpec.ofChange fnExactCertificateTextSpec)) fnExactCertificateTextCard

/-- THE TIED CARD OF 'laws.FnExactMovePolygon'. -/
def fnExactMovePolygonCard : Claim7 := { stood := { row := fnExactMovePolygonRow, standIns := [], harness := (true, "eb1476c6b64d2d85f25b1da7873841e89b6e4eb98ea2bac9b7af20b3623b90c7"), looks := false }, kinds := [], alts := [], laidByText := true, laidKinds := [.data], laidTests := true, laidLooks := .later }
def FnExactMovePolygonCardSaid : Prop := Claim7.holds Tryd.pinned (.plain (OpenSpec.ofChange fnExactMovePolygonSpec)) fnExactMovePolygonCard

/-- THE TIED CARD OF 'laws.FnExactCutPolygon'. -/
def fnExactCutPolygonCard : Claim7 := { stood := { row := fnExactCutPolygonRow, standIns := [], harness := (true, "eb1476c6b64d2d85f25b1da7873841e89b6e4eb98ea2bac9b7af20b3623b90c7"), looks := false }, kinds := [], alts := [], laidByText := true, laidKinds := [.data], laidTests := true, laidLooks := .later }
def FnExactCutPolygonCardSaid : Prop := Claim7.holds Tryd.pinned (.plain (OpenSpec.ofChange fnExactCutPolygonSpec)) fnExactCutPolygonCard

/-- THE SECOND FORM's CARD OF 'laws.FnExactMeetLines'. -/
def fnExactMeetLinesUptoCard : Claim7 := { stood := { row := fnExactMeetLinesUptoRow, standIns := [], harness := (true, "eb1476c6b64d2d85f25b1da7873841e89b6e4eb98ea2bac9b7af20b3623b90c7"), looks := false }, kinds := [], alts := [], laidByText := true, laidKinds := [.data], laidTests := true, laidLooks := .later }
def FnExactMeetLinesUptoCardSaid : Prop := Claim7.holds Tryd.pinned (.plain (OpenSpec.upto fnExactMeetLinesSpec)) fnExactMeetLinesUptoCard

/-- THE SECOND FORM's CARD OF 'laws.FnExactReflection'. -/
def fnExactReflectionUptoCard : Claim7 := { stood := { row := fnExactReflectionUptoRow, standIns := [], harness := (true, "eb1476c6b64d2d85f25b1da7873841e89b6e4eb98ea2bac9b7af20b3623b90c7"), looks := false }, kinds := [], alts := [], laidByText := true, laidKinds := [.data], laidTests := true, laidLooks := .later }
def FnExactReflectionUptoCardSaid : Prop := Claim7.holds Tryd.pinned (.plain (OpenSpec.upto fnExactReflectionSpec)) fnExactReflectionUptoCard

/-- THE SECOND FORM's CARD OF 'laws.FnMeet'. -/
def fnMeetUptoCard : Claim7 := { stood := { row := fnMeetUptoRow, standIns := [], harness := (true, "eb1476c6b64d2d85f25b1da7873841e89b6e4eb98ea2bac9b7af20b3623b90c7"), looks := false }, kinds := [], alts := [], laidByText := true, laidKinds := [.data], laidTests := true, laidLooks := .later }
def FnMeetUptoCardSaid : Prop := Claim7.holds Tryd.pinned (.plain (OpenSpec.upto fnMeetSpec)) fnMeetUptoCard

/-- THE SECOND FORM's CARD OF 'laws.FnReflect'. -/
def fnReflectUptoCard : Claim7 := { stood := { row := fnReflectUptoRow, standIns := [], harness := (true, "eb1476c6b64d2d85f25b1da7873841e89b6e4eb98ea2bac9b7af20b3623b90c7"), looks := false }, kinds := [], alts := [], laidByText := true, laidKinds := [.data], laidTests := true, laidLooks := .later }
def FnReflectUptoCardSaid : Prop := Claim7.holds Tryd.pinned (.plain (OpenSpec.upto fnReflectSpec)) fnReflectUptoCard

/-- THE SECOND FORM's CARD OF 'laws.FnExactAreaOf'. -/
def fnExactAreaOfUptoCard : Claim7 := { stood := { row := fnExactAreaOfUptoRow, standIns := [], harness := (true, "eb1476c6b64d2d85f25b1da7873841e89b6e4eb98ea2bac9b7af20b3623b90c7"), looks := false }, kinds := [], alts := [], laidByText := true, laidKinds := [.data], laidTests := true, laidLooks := .later }
def FnExactAreaOfUptoCardSaid : Prop := Claim7.holds Tryd.pinned (.plain (OpenSpec.upto fnExactAreaOfSpec)) fnExactAreaOfUptoCard

/-- THE SECOND FORM's CARD OF 'laws.FnReflections'. -/
def fnReflectionsUptoCard : Claim7 := { stood := { row := fnReflectionsUptoRow, standIns := [], harness := (true, "eb1476c6b64d2d85f25b1da7873841e89b6e4eb98ea2bac9b7af20b3623b90c7"), looks := false }, kinds := [], alts := [], laidByText := true, laidKinds := [.data], laidTests := true, laidLooks := .later }
def FnReflectionsUptoCardSaid : Prop := Claim7.holds Tryd.pinned (.plain (OpenSpec.upto fnReflectionsSpec)) fnReflectionsUptoCard

/-- THE SECOND FORM's CARD OF 'laws.FnMotionLines'. -/
def fnMotionLinesUptoCard : Claim7 := { stood := { row := fnMotionLinesUptoRow, standIns := [], harness := (true, "eb1476c6b64d2d85f25b1da7873841e89b6e4eb98ea2bac9b7af20b3623b90c7"), looks := false }, kinds := [], alts := [], laidByText := true, laidKinds := [.data], laidTests := true, laidLooks := .later }
def FnMotionLinesUptoCardSaid : Prop := Claim7.holds Tryd.pinned (.plain (OpenSpec.upto fnMotionLinesSpec)) fnMotionLinesUptoCard

/-- THE SECOND FORM's CARD OF 'laws.FnExactCertificateText'. -/
def fnExactCertificateTextUptoCard : Claim7 := { stood := { row := fnExactCertificateTextUptoRow, standIns := [], harness := (true, "eb1476c6b64d2d85f25b1da7873841e89b6e4eb98ea2bac9b7af20b3623b90c7"), looks := false }, kinds := [], alts := [], laidByText := true, laidKinds := [.data, .data, .data, .widerDeep], laidTests := true, laidLooks := .later }
def FnExactCertificateTextUptoCardSaid : Prop := Claim7.holds Tryd.pinned (.plain (OpenSpec.upto fnExactCertificateTextSpec)) fnExactCertificateTextUptoCard

/-- THE SECOND FORM's CARD OF 'laws.FnExactMovePolygon'. -/
def fnExactMovePolygonUptoCard : Claim7 := { stood := { row := fnExactMovePolygonUptoRow, standIns := [], harness := (true, "eb1476c6b64d2d85f25b1da7873841e89b6e4eb98ea2bac9b7af20b3623b90c7"), looks := false }, kinds := [], alts := [], laidByText := true, laidKinds := [.data], laidTests := true, laidLooks := .later }
def FnExactMovePolygonUptoCardSaid : Prop := Claim7.holds Tryd.pinned (.plain (OpenSpec.upto fnExactMovePolygonSpec)) fnExactMovePolygonUptoCard

/-- THE SECOND FORM's CARD OF 'laws.FnExactCutPolygon'. -/
def fnExactCutPolygonUptoCard : Claim7 := { stood := { row := fnExactCutPolygonUptoRow, standIns := [], harness := (true, "eb1476c6b64d2d85f25b1da7873841e89b6e4eb98ea2bac9b7af20b3623b90c7"), looks := false }, kinds := [], alts := [], laidByText := true, laidKinds := [.data], laidTests := true, laidLooks := .later }
def FnExactCutPolygonUptoCardSaid : Prop := Claim7.holds Tryd.pinned (.plain (OpenSpec.upto fnExactCutPolygonSpec)) fnExactCutPolygonUptoCard
end Rows
end Go.Proofs.YtbfdppnmojionaaDoor
