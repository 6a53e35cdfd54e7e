/-
  NARROWER THAN 'FOR EVERY INPUT', by the rows' own cells (each row's printed sentence says how): FnExactAreaOf: laid · FnExactMovePolygon: laid · FnExactCutPolygon: laid · FnExactIntersectPolygons: laid.
  DERIVED. THE GIVEN ROWS OF THIS SEAT. 4 by the template 'for every input the law returns true; each argument reads behind the call as it read before'; 0 by the template 'total and deterministic' (their statements: YtooikeeckoflpaaDoorTotals.lean).
  GIVEN WITH THE SEED: the statements are not yours to turn. If you find one false, say at which input.
  Laid BY PROGRAM, IN A SANDBOX (cutbox-rows.mjs): the forced cells as the released guide's own fill.sh prints them over the translation 5cf0b38785f915ef… (all of the seat's roots in one cut). By AI agents, Wed Nov 11 2026. No macro, syntax, notation, axiom, sorry.
-/
import Derived.Test.YtooikeeckoflpaaDoorChecked
import GoSem.Claim
import GoSem.ClaimJoined
import GoSem.ClaimMapViews
import Derived.JoinedTies
import Derived.KernelRfl
namespace Go.Proofs.YtooikeeckoflpaaDoor
/- THE CELL 'sum', in the pinned program and in every row, IS THE sha256 OF THE DUMP (.gsa) THAT YtooikeeckoflpaaDoorProg.lean LOADS. Nothing in Lean hashes anything: it is a label: what it is worth is what the hold of that sum in a sandbox is worth. -/
noncomputable def Tryd.pinned : Pinned := { name := "ytooikeeckoflpaadoor", sum := "5cf0b38785f915efb5849a31a02b38e53a4b523dcd9c1bd036b35fdcf2b1e3fc", checked := Tryd.checked }
namespace Rows
def none {H : Type} : Left H := { results := [], args := [] }

/- WHAT THE LISTED PACKAGE-LEVEL VARIABLES READ AS WHEN THE CALL BEGINS. Each datum BY PROGRAM (the guide's laid-datum.mjs) off the statement by which the dump's own 'gosem.cut.vars' lays the variable. In a bare row this is a premise. The card (YtooikeeckoflpaaDoorCards.lean) ties it to the program's text. -/
def laid_loop_example_g00857_impl_vectors {H : Type} : DataW H := .agg [.agg [.agg [.lit (.int .i64 1), .lit (.int .i64 0), .lit (.int .i64 0)], .agg [.lit (.int .i64 0), .lit (.int .i64 0), .lit (.int .i64 0)]], .agg [.agg [.lit (.int .i64 1), .lit (.int .i64 0), .lit (.int .i64 0)], .agg [.lit (.int .i64 (-1)), .lit (.int .i64 1), .lit (.int .i64 0)]], .agg [.agg [.lit (.int .i64 1), .lit (.int .i64 0), .lit (.int .i64 0)], .agg [.lit (.int .i64 1), .lit (.int .i64 0), .lit (.int .i64 0)]], .agg [.agg [.lit (.int .i64 (-1)), .lit (.int .i64 1), .lit (.int .i64 0)], .agg [.lit (.int .i64 1), .lit (.int .i64 0), .lit (.int .i64 0)]], .agg [.agg [.lit (.int .i64 0), .lit (.int .i64 0), .lit (.int .i64 0)], .agg [.lit (.int .i64 1), .lit (.int .i64 0), .lit (.int .i64 0)]], .agg [.agg [.lit (.int .i64 1), .lit (.int .i64 (-1)), .lit (.int .i64 0)], .agg [.lit (.int .i64 1), .lit (.int .i64 0), .lit (.int .i64 0)]], .agg [.agg [.lit (.int .i64 (-1)), .lit (.int .i64 0), .lit (.int .i64 0)], .agg [.lit (.int .i64 1), .lit (.int .i64 0), .lit (.int .i64 0)]], .agg [.agg [.lit (.int .i64 (-1)), .lit (.int .i64 0), .lit (.int .i64 0)], .agg [.lit (.int .i64 (-1)), .lit (.int .i64 1), .lit (.int .i64 0)]]]

/-- 'laws.FnExactAreaOf': WHATEVER THE INPUT: true; the input reads as it did. -/
def fnExactAreaOfSpec : ChangeSpec := { name := "fnExactAreaOf", vars := ["loop.example/g00857/impl.vectors"], fn := fun _ => fun
  | [d, g1] => { results := [.lit (.bool true)], args := [d], vars := [g1] }
  | _ => none }
def fnExactAreaOfRow : OpenClaim := { program := "ytooikeeckoflpaadoor", sum := "5cf0b38785f915efb5849a31a02b38e53a4b523dcd9c1bd036b35fdcf2b1e3fc", func := "loop.example/g00857/laws.FnExactAreaOf", spec := "fnExactAreaOf", unfollowed := true, recurses := true, named := ["loop.example/g00857/impl.vectors"], apart := false, laid := [("loop.example/g00857/impl.vectors", laid_loop_example_g00857_impl_vectors)] }
def FnExactAreaOfSaid : Prop := fnExactAreaOfRow.holds Tryd.pinned (OpenSpec.ofChange fnExactAreaOfSpec)

/-- ITS FALSE NEIGHBOUR: 'it returns false'. Refute it at one input. -/
def fnExactAreaOfWrong : ChangeSpec := { name := "fnExactAreaOf", vars := ["loop.example/g00857/impl.vectors"], fn := fun _ => fun
  | [d, g1] => { results := [.lit (.bool false)], args := [d], vars := [g1] }
  | _ => none }
def FnExactAreaOfWrongFalsely : Prop := fnExactAreaOfRow.holds Tryd.pinned (OpenSpec.ofChange fnExactAreaOfWrong)

/-- 'laws.FnExactMovePolygon': WHATEVER THE INPUT: true; the input reads as it did. -/
def fnExactMovePolygonSpec : ChangeSpec := { name := "fnExactMovePolygon", vars := ["loop.example/g00857/impl.vectors"], fn := fun _ => fun
  | [d1, d2, g1] => { results := [.lit (.bool true)], args := [d1, d2], vars := [g1] }
  | _ => none }
def fnExactMovePolygonRow : OpenClaim := { program := "ytooikeeckoflpaadoor", sum := "5cf0b38785f915efb5849a31a02b38e53a4b523dcd9c1bd036b35fdcf2b1e3fc", func := "loop.example/g00857/laws.FnExactMovePolygon", spec := "fnExactMovePolygon", unfollowed := true, recurses := true, named := ["loop.example/g00857/impl.vectors"], apart := false, laid := [("loop.example/g00857/impl.vectors", laid_loop_example_g00857_impl_vectors)] }
def FnExactMovePolygonSaid : Prop := fnExactMovePolygonRow.holds Tryd.pinned (OpenSpec.ofChange fnExactMovePolygonSpec)

/-- ITS FALSE NEIGHBOUR: 'it returns false'. Refute it at one input. -/
def fnExactMovePolygonWrong : ChangeSpec := { name := "fnExactMovePolygon", vars := ["loop.example/g00857/impl.vectors"], fn := fun _ => fun
  | [d1, d2, g1] => { results := [.lit (.bool false)], args := [d1, d2], vars := [g1] }
  | _ => none }
def FnExactMovePolygonWrongFalsely : Prop := fnExactMovePolygonRow.holds Tryd.pinned (OpenSpec.ofChange fnExactMovePolygonWrong)

/-- 'laws.FnExactCutPolygon': WHATEVER THE INPUT: true; the input reads as it did. -/
def fnExactCutPolygonSpec : ChangeSpec := { name := "fnExactCutPolygon", vars := ["loop.example/g00857/impl.vectors"], fn := fun _ => fun
  | [d1, d2, g1] => { results := [.lit (.bool true)], args := [d1, d2], vars := [g1] }
  | _ => none }
def fnExactCutPolygonRow : OpenClaim := { program := "ytooikeeckoflpaadoor", sum := "5cf0b38785f915efb5849a31a02b38e53a4b523dcd9c1bd036b35fdcf2b1e3fc", func := "loop.example/g00857/laws.FnExactCutPolygon", spec := "fnExactCutPolygon", unfollowed := true, recurses := true, named := ["loop.example/g00857/impl.vectors"], apart := false, laid := [("loop.example/g00857/impl.vectors", laid_loop_example_g00857_impl_vectors)] }
def FnExactCutPolygonSaid : Prop := fnExactCutPolygonRow.holds Tryd.pinned (OpenSpec.ofChange fnExactCutPolygonSpec)

/-- ITS FALSE NEIGHBOUR: 'it returns false'. Refute it at one input. -/
def fnExactCutPolygonWrong : ChangeSpec := { name := "fnExactCutPolygon", vars := ["loop.example/g00857/impl.vectors"], fn := fun _ => fun
  | [d1, d2, g1] => { results := [.lit (.bool false)], args := [d1, d2], vars := [g1] }
  | _ => none }
def FnExactCutPolygonWrongFalsely : Prop := fnExactCutPolygonRow.holds Tryd.pinned (OpenSpec.ofChange fnExactCutPolygonWrong)

/-- 'laws.FnExactIntersectPolygons': WHATEVER THE INPUT: true; the input reads as it did. -/
def fnExactIntersectPolygonsSpec : ChangeSpec := { name := "fnExactIntersectPolygons", vars := ["loop.example/g00857/impl.vectors"], fn := fun _ => fun
  | [d1, d2, g1] => { results := [.lit (.bool true)], args := [d1, d2], vars := [g1] }
  | _ => none }
def fnExactIntersectPolygonsRow : OpenClaim := { program := "ytooikeeckoflpaadoor", sum := "5cf0b38785f915efb5849a31a02b38e53a4b523dcd9c1bd036b35fdcf2b1e3fc", func := "loop.example/g00857/laws.FnExactIntersectPolygons", spec := "fnExactIntersectPolygons", unfollowed := true, recurses := true, named := ["loop.example/g00857/impl.vectors"], apart := false, laid := [("loop.example/g00857/impl.vectors", laid_loop_example_g00857_impl_vectors)] }
def FnExactIntersectPolygonsSaid : Prop := fnExactIntersectPolygonsRow.holds Tryd.pinned (OpenSpec.ofChange fnExactIntersectPolygonsSpec)

/-- ITS FALSE NEIGHBOUR: 'it returns false'. Refute it at one input. -/
def fnExactIntersectPolygonsWrong : ChangeSpec := { name := "fnExactIntersectPolygons", vars := ["loop.example/g00857/impl.vectors"], fn := fun _ => fun
  | [d1, d2, g1] => { results := [.lit (.bool false)], args := [d1, d2], vars := [g1] }
  | _ => none }
def FnExactIntersectPolygonsWrongFalsely : Prop := fnExactIntersectPolygonsRow.holds Tryd.pinned (OpenSpec.ofChange fnExactIntersectPolygonsWrong)

/- THE SECOND FORM. 'bulk': how many values and letters a reading holds, each counted each time it is reached (what is shared counts as often as it is met; a slice's spare places count too). A statement '..UptoSaid' is the law's where the arguments, and the package variables that the reading takes, are together of bulk at most 1048576: NARROWER than '..Said'. Prove '..Said' where nothing that the law and all that it calls make is longer than what came in: it says more and counts as full. Else prove '..UptoSaid'. A law counts once. -/
mutual
def uptoBulk {H : Type} : DataW H → Nat
  | .lit (.string bytes) => bytes.length + 1
  | .lit _ => 1
  | .nil => 1
  | .ptr d => uptoBulk d + 1
  | .slice elems spare => uptoBulkAll elems + uptoBulkAll spare + 1
  | .agg parts => uptoBulkAll parts + 1
  | .iface _ d => uptoBulk d + 1
  | .map entries => uptoBulkEntries entries + 1
  | .held _ => 1
def uptoBulkAll {H : Type} : List (DataW H) → Nat
  | [] => 0
  | d :: r => uptoBulk d + uptoBulkAll r
def uptoBulkEntries {H : Type} : List (Lit × DataW H) → Nat
  | [] => 0
  | x :: r => uptoBulkEntry x + uptoBulkEntries r
def uptoBulkEntry {H : Type} : Lit × DataW H → Nat
  | (.string bytes, d) => bytes.length + uptoBulk d + 1
  | (_, d) => uptoBulk d + 1
 end
def uptoSmall : (H : Type) → List (DataW H) → Bool := fun _ ds => decide (uptoBulkAll ds ≤ 1048576)
def OpenSpec.upto (s : _root_.Go.ChangeSpec) : _root_.Go.OpenSpec := { _root_.Go.OpenSpec.ofChange s with cond := some uptoSmall }

/-- 'laws.FnExactAreaOf', WHERE WHAT IT READS IS OF BULK AT MOST 1048576: true; the input reads as it did. -/
def fnExactAreaOfUptoRow : OpenClaim := { program := "ytooikeeckoflpaadoor", sum := "5cf0b38785f915efb5849a31a02b38e53a4b523dcd9c1bd036b35fdcf2b1e3fc", func := "loop.example/g00857/laws.FnExactAreaOf", spec := "fnExactAreaOf", unfollowed := true, recurses := true, named := ["loop.example/g00857/impl.vectors"], apart := false, laid := [("loop.example/g00857/impl.vectors", laid_loop_example_g00857_impl_vectors)], narrowed := true }
def FnExactAreaOfUptoSaid : Prop := fnExactAreaOfUptoRow.holds Tryd.pinned (OpenSpec.upto fnExactAreaOfSpec)

/-- 'laws.FnExactMovePolygon', WHERE WHAT IT READS IS OF BULK AT MOST 1048576: true; the input reads as it did. -/
def fnExactMovePolygonUptoRow : OpenClaim := { program := "ytooikeeckoflpaadoor", sum := "5cf0b38785f915efb5849a31a02b38e53a4b523dcd9c1bd036b35fdcf2b1e3fc", func := "loop.example/g00857/laws.FnExactMovePolygon", spec := "fnExactMovePolygon", unfollowed := true, recurses := true, named := ["loop.example/g00857/impl.vectors"], apart := false, laid := [("loop.example/g00857/impl.vectors", laid_loop_example_g00857_impl_vectors)], narrowed := true }
def FnExactMovePolygonUptoSaid : Prop := fnExactMovePolygonUptoRow.holds Tryd.pinned (OpenSpec.upto fnExactMovePolygonSpec)

/-- 'laws.FnExactCutPolygon', WHERE WHAT IT READS IS OF BULK AT MOST 1048576: true; the input reads as it did. -/
def fnExactCutPolygonUptoRow : OpenClaim := { program := "ytooikeeckoflpaadoor", sum := "5cf0b38785f915efb5849a31a02b38e53a4b523dcd9c1bd036b35fdcf2b1e3fc", func := "loop.example/g00857/laws.FnExactCutPolygon", spec := "fnExactCutPolygon", unfollowed := true, recurses := true, named := ["loop.example/g00857/impl.vectors"], apart := false, laid := [("loop.example/g00857/impl.vectors", laid_loop_example_g00857_impl_vectors)], narrowed := true }
def FnExactCutPolygonUptoSaid : Prop := fnExactCutPolygonUptoRow.holds Tryd.pinned (OpenSpec.upto fnExactCutPolygonSpec)

/-- 'laws.FnExactIntersectPolygons', WHERE WHAT IT READS IS OF BULK AT MOST 1048576: true; the input reads as it did. -/
def fnExactIntersectPolygonsUptoRow : OpenClaim := { program := "ytooikeeckoflpaadoor", sum := "5cf0b38785f915efb5849a31a02b38e53a4b523dcd9c1bd036b35fdcf2b1e3fc", func := "loop.example/g00857/laws.FnExactIntersectPolygons", spec := "fnExactIntersectPolygons", unfollowed := true, recurses := true, named := ["loop.example/g00857/impl.vectors"], apart := false, laid := [("loop.example/g00857/impl.vectors", laid_loop_example_g00857_impl_vectors)], narrowed := true }
def FnExactIntersectPolygonsUptoSaid : Prop := fnExactIntersectPolygonsUptoRow.holds Tryd.pinned (OpenSpec.upto fnExactIntersectPolygonsSpec)

end Rows
end Go.Proofs.YtooikeeckoflpaaDoor
