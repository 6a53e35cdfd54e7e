/-
  NARROWER THAN 'FOR EVERY INPUT', by the rows' own cells (each row's printed sentence says how): FnExactMeetLines: laid · FnExactReflection: laid · FnMeet: laid · FnReflect: laid · FnExactAreaOf: laid · FnReflections: laid · FnMotionLines: laid · FnExactCertificateText: laid · FnExactMovePolygon: laid · FnExactCutPolygon: laid.
  DERIVED. THE GIVEN ROWS OF THIS SEAT. 10 by the template 'for every input the law returns true; each argument reads behind the call as it read before'; 0 by the template 'total and deterministic' (their statements: YtbfdppnmojionaaDoorTotals.lean).
  GIVEN WITH THE SEED: the statements are not yours to turn. If you find one false, say at which input.
  Laid BY PROGRAM, IN A SANDBOX (cutbox-rows.mjs): the forced cells as the released guide's own fill.sh prints them over the translation 96811523bf216b92… (all of the seat's roots in one cut). By AI agents, Wed Nov 11 2026. No macro, syntax, notation, axiom, sorry.
-/
import Derived.Test.YtbfdppnmojionaaDoorChecked
import GoSem.Claim
import GoSem.ClaimJoined
import GoSem.ClaimMapViews
import Derived.JoinedTies
import Derived.KernelRfl
namespace Go.Proofs.YtbfdppnmojionaaDoor
/- THE CELL 'sum', in the pinned program and in every row, IS THE sha256 OF THE DUMP (.gsa) THAT YtbfdppnmojionaaDoorProg.lean LOADS. Nothing in Lean hashes anything: it is a label: what it is worth is what the hold of that sum in a sandbox is worth. -/
noncomputable def Tryd.pinned : Pinned := { name := "ytbfdppnmojionaadoor", sum := "96811523bf216b927c5b324fe11431b09b141b6a23111aa5cc55fee9cc1ac096", checked := Tryd.checked }
namespace Rows
def none {H : Type} : Left H := { results := [], args := [] }

/- WHAT THE LISTED PACKAGE-LEVEL VARIABLES READ AS WHEN THE CALL BEGINS. Each datum BY PROGRAM (the guide's laid-datum.mjs) off the statement by which the dump's own 'gosem.cut.vars' lays the variable. In a bare row this is a premise. The card (YtbfdppnmojionaaDoorCards.lean) ties it to the program's text. -/
def laid_loop_example_g00857_impl_vectors {H : Type} : DataW H := .agg [.agg [.agg [.lit (.int .i64 1), .lit (.int .i64 0), .lit (.int .i64 0)], .agg [.lit (.int .i64 0), .lit (.int .i64 0), .lit (.int .i64 0)]], .agg [.agg [.lit (.int .i64 1), .lit (.int .i64 0), .lit (.int .i64 0)], .agg [.lit (.int .i64 (-1)), .lit (.int .i64 1), .lit (.int .i64 0)]], .agg [.agg [.lit (.int .i64 1), .lit (.int .i64 0), .lit (.int .i64 0)], .agg [.lit (.int .i64 1), .lit (.int .i64 0), .lit (.int .i64 0)]], .agg [.agg [.lit (.int .i64 (-1)), .lit (.int .i64 1), .lit (.int .i64 0)], .agg [.lit (.int .i64 1), .lit (.int .i64 0), .lit (.int .i64 0)]], .agg [.agg [.lit (.int .i64 0), .lit (.int .i64 0), .lit (.int .i64 0)], .agg [.lit (.int .i64 1), .lit (.int .i64 0), .lit (.int .i64 0)]], .agg [.agg [.lit (.int .i64 1), .lit (.int .i64 (-1)), .lit (.int .i64 0)], .agg [.lit (.int .i64 1), .lit (.int .i64 0), .lit (.int .i64 0)]], .agg [.agg [.lit (.int .i64 (-1)), .lit (.int .i64 0), .lit (.int .i64 0)], .agg [.lit (.int .i64 1), .lit (.int .i64 0), .lit (.int .i64 0)]], .agg [.agg [.lit (.int .i64 (-1)), .lit (.int .i64 0), .lit (.int .i64 0)], .agg [.lit (.int .i64 (-1)), .lit (.int .i64 1), .lit (.int .i64 0)]]]
def laid_math_bits_deBruijn32tab {H : Type} : DataW H := .agg [.lit (.int .u8 0), .lit (.int .u8 1), .lit (.int .u8 28), .lit (.int .u8 2), .lit (.int .u8 29), .lit (.int .u8 14), .lit (.int .u8 24), .lit (.int .u8 3), .lit (.int .u8 30), .lit (.int .u8 22), .lit (.int .u8 20), .lit (.int .u8 15), .lit (.int .u8 25), .lit (.int .u8 17), .lit (.int .u8 4), .lit (.int .u8 8), .lit (.int .u8 31), .lit (.int .u8 27), .lit (.int .u8 13), .lit (.int .u8 23), .lit (.int .u8 21), .lit (.int .u8 19), .lit (.int .u8 16), .lit (.int .u8 7), .lit (.int .u8 26), .lit (.int .u8 12), .lit (.int .u8 18), .lit (.int .u8 6), .lit (.int .u8 11), .lit (.int .u8 5), .lit (.int .u8 10), .lit (.int .u8 9)]
def laid_math_bits_deBruijn64tab {H : Type} : DataW H := .agg [.lit (.int .u8 0), .lit (.int .u8 1), .lit (.int .u8 56), .lit (.int .u8 2), .lit (.int .u8 57), .lit (.int .u8 49), .lit (.int .u8 28), .lit (.int .u8 3), .lit (.int .u8 61), .lit (.int .u8 58), .lit (.int .u8 42), .lit (.int .u8 50), .lit (.int .u8 38), .lit (.int .u8 29), .lit (.int .u8 17), .lit (.int .u8 4), .lit (.int .u8 62), .lit (.int .u8 47), .lit (.int .u8 59), .lit (.int .u8 36), .lit (.int .u8 45), .lit (.int .u8 43), .lit (.int .u8 51), .lit (.int .u8 22), .lit (.int .u8 53), .lit (.int .u8 39), .lit (.int .u8 33), .lit (.int .u8 30), .lit (.int .u8 24), .lit (.int .u8 18), .lit (.int .u8 12), .lit (.int .u8 5), .lit (.int .u8 63), .lit (.int .u8 55), .lit (.int .u8 48), .lit (.int .u8 27), .lit (.int .u8 60), .lit (.int .u8 41), .lit (.int .u8 37), .lit (.int .u8 16), .lit (.int .u8 46), .lit (.int .u8 35), .lit (.int .u8 44), .lit (.int .u8 21), .lit (.int .u8 52), .lit (.int .u8 32), .lit (.int .u8 23), .lit (.int .u8 11), .lit (.int .u8 54), .lit (.int .u8 26), .lit (.int .u8 40), .lit (.int .u8 15), .lit (.int .u8 34), .lit (.int .u8 20), .lit (.int .u8 31), .lit (.int .u8 10), .lit (.int .u8 25), .lit (.int .u8 14), .lit (.int .u8 19), .lit (.int .u8 9), .lit (.int .u8 13), .lit (.int .u8 8), .lit (.int .u8 7), .lit (.int .u8 6)]
def laid_internal_strconv_uint64pow10 {H : Type} : DataW H := .agg [.lit (.int .u64 1), .lit (.int .u64 10), .lit (.int .u64 100), .lit (.int .u64 1000), .lit (.int .u64 10000), .lit (.int .u64 100000), .lit (.int .u64 1000000), .lit (.int .u64 10000000), .lit (.int .u64 100000000), .lit (.int .u64 1000000000), .lit (.int .u64 10000000000), .lit (.int .u64 100000000000), .lit (.int .u64 1000000000000), .lit (.int .u64 10000000000000), .lit (.int .u64 100000000000000), .lit (.int .u64 1000000000000000), .lit (.int .u64 10000000000000000), .lit (.int .u64 100000000000000000), .lit (.int .u64 1000000000000000000), .lit (.int .u64 10000000000000000000)]
def laid_loop_example_g00857_impl_conditionWords {H : Type} : DataW H := .agg [.lit (.string []), .lit (.string [107, 97, 119, 97, 115, 97, 107, 105]), .lit (.string [109, 97, 101, 107, 97, 119, 97]), .lit (.string [108, 105, 116, 116, 108, 101])]

/-- 'laws.FnExactMeetLines': WHATEVER THE INPUT: true; the input reads as it did. -/
def fnExactMeetLinesSpec : ChangeSpec := { name := "fnExactMeetLines", vars := ["loop.example/g00857/impl.vectors"], fn := fun _ => fun
  | [d1, d2, g1] => { results := [.lit (.bool true)], args := [d1, d2], vars := [g1] }
  | _ => none }
def fnExactMeetLinesRow : OpenClaim := { program := "ytbfdppnmojionaadoor", sum := "96811523bf216b927c5b324fe11431b09b141b6a23111aa5cc55fee9cc1ac096", func := "loop.example/g00857/laws.FnExactMeetLines", spec := "fnExactMeetLines", named := ["loop.example/g00857/impl.vectors"], apart := false, laid := [("loop.example/g00857/impl.vectors", laid_loop_example_g00857_impl_vectors)] }
def FnExactMeetLinesSaid : Prop := fnExactMeetLinesRow.holds Tryd.pinned (OpenSpec.ofChange fnExactMeetLinesSpec)

/-- ITS FALSE NEIGHBOUR: 'it returns false'. Refute it at one input. -/
def fnExactMeetLinesWrong : ChangeSpec := { name := "fnExactMeetLines", vars := ["loop.example/g00857/impl.vectors"], fn := fun _ => fun
  | [d1, d2, g1] => { results := [.lit (.bool false)], args := [d1, d2], vars := [g1] }
  | _ => none }
def FnExactMeetLinesWrongFalsely : Prop := fnExactMeetLinesRow.holds Tryd.pinned (OpenSpec.ofChange fnExactMeetLinesWrong)

/-- 'laws.FnExactReflection': WHATEVER THE INPUT: true; the input reads as it did. -/
def fnExactReflectionSpec : ChangeSpec := { name := "fnExactReflection", vars := ["loop.example/g00857/impl.vectors"], fn := fun _ => fun
  | [d, g1] => { results := [.lit (.bool true)], args := [d], vars := [g1] }
  | _ => none }
def fnExactReflectionRow : OpenClaim := { program := "ytbfdppnmojionaadoor", sum := "96811523bf216b927c5b324fe11431b09b141b6a23111aa5cc55fee9cc1ac096", func := "loop.example/g00857/laws.FnExactReflection", spec := "fnExactReflection", named := ["loop.example/g00857/impl.vectors"], apart := false, laid := [("loop.example/g00857/impl.vectors", laid_loop_example_g00857_impl_vectors)] }
def FnExactReflectionSaid : Prop := fnExactReflectionRow.holds Tryd.pinned (OpenSpec.ofChange fnExactReflectionSpec)

/-- ITS FALSE NEIGHBOUR: 'it returns false'. Refute it at one input. -/
def fnExactReflectionWrong : ChangeSpec := { name := "fnExactReflection", vars := ["loop.example/g00857/impl.vectors"], fn := fun _ => fun
  | [d, g1] => { results := [.lit (.bool false)], args := [d], vars := [g1] }
  | _ => none }
def FnExactReflectionWrongFalsely : Prop := fnExactReflectionRow.holds Tryd.pinned (OpenSpec.ofChange fnExactReflectionWrong)

/-- 'laws.FnMeet': WHATEVER THE INPUT: true; the input reads as it did. -/
def fnMeetSpec : ChangeSpec := { name := "fnMeet", vars := ["loop.example/g00857/impl.vectors"], fn := fun _ => fun
  | [d, g1] => { results := [.lit (.bool true)], args := [d], vars := [g1] }
  | _ => none }
def fnMeetRow : OpenClaim := { program := "ytbfdppnmojionaadoor", sum := "96811523bf216b927c5b324fe11431b09b141b6a23111aa5cc55fee9cc1ac096", func := "loop.example/g00857/laws.FnMeet", spec := "fnMeet", named := ["loop.example/g00857/impl.vectors"], apart := false, laid := [("loop.example/g00857/impl.vectors", laid_loop_example_g00857_impl_vectors)] }
def FnMeetSaid : Prop := fnMeetRow.holds Tryd.pinned (OpenSpec.ofChange fnMeetSpec)

/-- ITS FALSE NEIGHBOUR: 'it returns false'. Refute it at one input. -/
def fnMeetWrong : ChangeSpec := { name := "fnMeet", vars := ["loop.example/g00857/impl.vectors"], fn := fun _ => fun
  | [d, g1] => { results := [.lit (.bool false)], args := [d], vars := [g1] }
  | _ => none }
def FnMeetWrongFalsely : Prop := fnMeetRow.holds Tryd.pinned (OpenSpec.ofChange fnMeetWrong)

/-- 'laws.FnReflect': WHATEVER THE INPUT: true; the input reads as it did. -/
def fnReflectSpec : ChangeSpec := { name := "fnReflect", vars := ["loop.example/g00857/impl.vectors"], fn := fun _ => fun
  | [d, g1] => { results := [.lit (.bool true)], args := [d], vars := [g1] }
  | _ => none }
def fnReflectRow : OpenClaim := { program := "ytbfdppnmojionaadoor", sum := "96811523bf216b927c5b324fe11431b09b141b6a23111aa5cc55fee9cc1ac096", func := "loop.example/g00857/laws.FnReflect", spec := "fnReflect", named := ["loop.example/g00857/impl.vectors"], apart := false, laid := [("loop.example/g00857/impl.vectors", laid_loop_example_g00857_impl_vectors)] }
def FnReflectSaid : Prop := fnReflectRow.holds Tryd.pinned (OpenSpec.ofChange fnReflectSpec)

/-- ITS FALSE NEIGHBOUR: 'it returns false'. Refute it at one input. -/
def fnReflectWrong : ChangeSpec := { name := "fnReflect", vars := ["loop.example/g00857/impl.vectors"], fn := fun _ => fun
  | [d, g1] => { results := [.lit (.bool false)], args := [d], vars := [g1] }
  | _ => none }
def FnReflectWrongFalsely : Prop := fnReflectRow.holds Tryd.pinned (OpenSpec.ofChange fnReflectWrong)

/-- 'laws.FnExactAreaOf': WHATEVER THE INPUT: true; the input reads as it did. -/
def fnExactAreaOfSpec : ChangeSpec := { name := "fnExactAreaOf", vars := ["loop.example/g00857/impl.vectors"], fn := fun _ => fun
  | [d, g1] => { results := [.lit (.bool true)], args := [d], vars := [g1] }
  | _ => none }
def fnExactAreaOfRow : OpenClaim := { program := "ytbfdppnmojionaadoor", sum := "96811523bf216b927c5b324fe11431b09b141b6a23111aa5cc55fee9cc1ac096", func := "loop.example/g00857/laws.FnExactAreaOf", spec := "fnExactAreaOf", unfollowed := true, recurses := true, named := ["loop.example/g00857/impl.vectors"], apart := false, laid := [("loop.example/g00857/impl.vectors", laid_loop_example_g00857_impl_vectors)] }
def FnExactAreaOfSaid : Prop := fnExactAreaOfRow.holds Tryd.pinned (OpenSpec.ofChange fnExactAreaOfSpec)

/-- ITS FALSE NEIGHBOUR: 'it returns false'. Refute it at one input. -/
def fnExactAreaOfWrong : ChangeSpec := { name := "fnExactAreaOf", vars := ["loop.example/g00857/impl.vectors"], fn := fun _ => fun
  | [d, g1] => { results := [.lit (.bool false)], args := [d], vars := [g1] }
  | _ => none }
def FnExactAreaOfWrongFalsely : Prop := fnExactAreaOfRow.holds Tryd.pinned (OpenSpec.ofChange fnExactAreaOfWrong)

/-- 'laws.FnReflections': WHATEVER THE INPUT: true; the input reads as it did. -/
def fnReflectionsSpec : ChangeSpec := { name := "fnReflections", vars := ["loop.example/g00857/impl.vectors"], fn := fun _ => fun
  | [d1, d2, g1] => { results := [.lit (.bool true)], args := [d1, d2], vars := [g1] }
  | _ => none }
def fnReflectionsRow : OpenClaim := { program := "ytbfdppnmojionaadoor", sum := "96811523bf216b927c5b324fe11431b09b141b6a23111aa5cc55fee9cc1ac096", func := "loop.example/g00857/laws.FnReflections", spec := "fnReflections", named := ["loop.example/g00857/impl.vectors"], apart := false, laid := [("loop.example/g00857/impl.vectors", laid_loop_example_g00857_impl_vectors)] }
def FnReflectionsSaid : Prop := fnReflectionsRow.holds Tryd.pinned (OpenSpec.ofChange fnReflectionsSpec)

/-- ITS FALSE NEIGHBOUR: 'it returns false'. Refute it at one input. -/
def fnReflectionsWrong : ChangeSpec := { name := "fnReflections", vars := ["loop.example/g00857/impl.vectors"], fn := fun _ => fun
  | [d1, d2, g1] => { results := [.lit (.bool false)], args := [d1, d2], vars := [g1] }
  | _ => none }
def FnReflectionsWrongFalsely : Prop := fnReflectionsRow.holds Tryd.pinned (OpenSpec.ofChange fnReflectionsWrong)

/-- 'laws.FnMotionLines': WHATEVER THE INPUT: true; the input reads as it did. -/
def fnMotionLinesSpec : ChangeSpec := { name := "fnMotionLines", vars := ["loop.example/g00857/impl.vectors"], fn := fun _ => fun
  | [d1, d2, g1] => { results := [.lit (.bool true)], args := [d1, d2], vars := [g1] }
  | _ => none }
def fnMotionLinesRow : OpenClaim := { program := "ytbfdppnmojionaadoor", sum := "96811523bf216b927c5b324fe11431b09b141b6a23111aa5cc55fee9cc1ac096", func := "loop.example/g00857/laws.FnMotionLines", spec := "fnMotionLines", named := ["loop.example/g00857/impl.vectors"], apart := false, laid := [("loop.example/g00857/impl.vectors", laid_loop_example_g00857_impl_vectors)] }
def FnMotionLinesSaid : Prop := fnMotionLinesRow.holds Tryd.pinned (OpenSpec.ofChange fnMotionLinesSpec)

/-- ITS FALSE NEIGHBOUR: 'it returns false'. Refute it at one input. -/
def fnMotionLinesWrong : ChangeSpec := { name := "fnMotionLines", vars := ["loop.example/g00857/impl.vectors"], fn := fun _ => fun
  | [d1, d2, g1] => { results := [.lit (.bool false)], args := [d1, d2], vars := [g1] }
  | _ => none }
def FnMotionLinesWrongFalsely : Prop := fnMotionLinesRow.holds Tryd.pinned (OpenSpec.ofChange fnMotionLinesWrong)

/-- 'laws.FnExactCertificateText': WHATEVER THE INPUT: true; the input reads as it did. -/
def fnExactCertificateTextSpec : ChangeSpec := { name := "fnExactCertificateText", vars := ["loop.example/g00857/impl.conditionWords"], fn := fun _ => fun
  | [d, g1] => { results := [.lit (.bool true)], args := [d], vars := [g1] }
  | _ => none }
def fnExactCertificateTextRow : OpenClaim := { program := "ytbfdppnmojionaadoor", sum := "96811523bf216b927c5b324fe11431b09b141b6a23111aa5cc55fee9cc1ac096", func := "loop.example/g00857/laws.FnExactCertificateText", spec := "fnExactCertificateText", inPlace := ["internal/abi.NoEscape", "internal/bytealg.MakeNoZero"], unfollowed := true, recurses := true, named := ["loop.example/g00857/impl.conditionWords", "internal/strconv.uint64pow10", "math/bits.deBruijn32tab", "math/bits.deBruijn64tab"], apart := false, laid := [("math/bits.deBruijn32tab", laid_math_bits_deBruijn32tab), ("math/bits.deBruijn64tab", laid_math_bits_deBruijn64tab), ("internal/strconv.uint64pow10", laid_internal_strconv_uint64pow10), ("loop.example/g00857/impl.conditionWords", laid_loop_example_g00857_impl_conditionWords)] }
def FnExactCertificateTextSaid : Prop := fnExactCertificateTextRow.holds Tryd.pinned (OpenSpec.ofChange fnExactCertificateTextSpec)

/-- ITS FALSE NEIGHBOUR: 'it returns false'. Refute it at one input. -/
def fnExactCertificateTextWrong : ChangeSpec := { name := "fnExactCertificateText", vars := ["loop.example/g00857/impl.conditionWords"], fn := fun _ => fun
  | [d, g1] => { results := [.lit (.bool false)], args := [d], vars := [g1] }
  | _ => none }
def FnExactCertificateTextWrongFalsely : Prop := fnExactCertificateTextRow.holds Tryd.pinned (OpenSpec.ofChange fnExactCertificateTextWrong)

/-- 'laws.FnExactMovePolygon': WHATEVER THE INPUT: true; the input reads as it did. -/
def fnExactMovePolygonSpec : ChangeSpec := { name := "fnExactMovePolygon", vars := ["loop.example/g00857/impl.vectors"], fn := fun _ => fun
  | [d1, d2, g1] => { results := [.lit (.bool true)], args := [d1, d2], vars := [g1] }
  | _ => none }
def fnExactMovePolygonRow : OpenClaim := { program := "ytbfdppnmojionaadoor", sum := "96811523bf216b927c5b324fe11431b09b141b6a23111aa5cc55fee9cc1ac096", func := "loop.example/g00857/laws.FnExactMovePolygon", spec := "fnExactMovePolygon", unfollowed := true, recurses := true, named := ["loop.example/g00857/impl.vectors"], apart := false, laid := [("loop.example/g00857/impl.vectors", laid_loop_example_g00857_impl_vectors)] }
def FnExactMovePolygonSaid : Prop := fnExactMovePolygonRow.holds Tryd.pinned (OpenSpec.ofChange fnExactMovePolygonSpec)

/-- ITS FALSE NEIGHBOUR: 'it returns false'. Refute it at one input. -/
def fnExactMovePolygonWrong : ChangeSpec := { name := "fnExactMovePolygon", vars := ["loop.example/g00857/impl.vectors"], fn := fun _ => fun
  | [d1, d2, g1] => { results := [.lit (.bool false)], args := [d1, d2], vars := [g1] }
  | _ => none }
def FnExactMovePolygonWrongFalsely : Prop := fnExactMovePolygonRow.holds Tryd.pinned (OpenSpec.ofChange fnExactMovePolygonWrong)

/-- 'laws.FnExactCutPolygon': WHATEVER THE INPUT: true; the input reads as it did. -/
def fnExactCutPolygonSpec : ChangeSpec := { name := "fnExactCutPolygon", vars := ["loop.example/g00857/impl.vectors"], fn := fun _ => fun
  | [d1, d2, g1] => { results := [.lit (.bool true)], args := [d1, d2], vars := [g1] }
  | _ => none }
def fnExactCutPolygonRow : OpenClaim := { program := "ytbfdppnmojionaadoor", sum := "96811523bf216b927c5b324fe11431b09b141b6a23111aa5cc55fee9cc1ac096", func := "loop.example/g00857/laws.FnExactCutPolygon", spec := "fnExactCutPolygon", unfollowed := true, recurses := true, named := ["loop.example/g00857/impl.vectors"], apart := false, laid := [("loop.example/g00857/impl.vectors", laid_loop_example_g00857_impl_vectors)] }
def FnExactCutPolygonSaid : Prop := fnExactCutPolygonRow.holds Tryd.pinned (OpenSpec.ofChange fnExactCutPolygonSpec)

/-- ITS FALSE NEIGHBOUR: 'it returns false'. Refute it at one input. -/
def fnExactCutPolygonWrong : ChangeSpec := { name := "fnExactCutPolygon", vars := ["loop.example/g00857/impl.vectors"], fn := fun _ => fun
  | [d1, d2, g1] => { results := [.lit (.bool false)], args := [d1, d2], vars := [g1] }
  | _ => none }
def FnExactCutPolygonWrongFalsely : Prop := fnExactCutPolygonRow.holds Tryd.pinned (OpenSpec.ofChange fnExactCutPolygonWrong)

/- THE SECOND FORM. 'bulk': how many values and letters a reading holds, each counted each time it is reached (what is shared counts as often as it is met; a slice's spare places count too). A statement '..UptoSaid' is the law's where the arguments, and the package variables that the reading takes, are together of bulk at most 1048576: NARROWER than '..Said'. Prove '..Said' where nothing that the law and all that it calls make is longer than what came in: it says more and counts as full. Else prove '..UptoSaid'. A law counts once. -/
mutual
def uptoBulk {H : Type} : DataW H → Nat
  | .lit (.string bytes) => bytes.length + 1
  | .lit _ => 1
  | .nil => 1
  | .ptr d => uptoBulk d + 1
  | .slice elems spare => uptoBulkAll elems + uptoBulkAll spare + 1
  | .agg parts => uptoBulkAll parts + 1
  | .iface _ d => uptoBulk d + 1
  | .map entries => uptoBulkEntries entries + 1
  | .held _ => 1
def uptoBulkAll {H : Type} : List (DataW H) → Nat
  | [] => 0
  | d :: r => uptoBulk d + uptoBulkAll r
def uptoBulkEntries {H : Type} : List (Lit × DataW H) → Nat
  | [] => 0
  | x :: r => uptoBulkEntry x + uptoBulkEntries r
def uptoBulkEntry {H : Type} : Lit × DataW H → Nat
  | (.string bytes, d) => bytes.length + uptoBulk d + 1
  | (_, d) => uptoBulk d + 1
 end
def uptoSmall : (H : Type) → List (DataW H) → Bool := fun _ ds => decide (uptoBulkAll ds ≤ 1048576)
def OpenSpec.upto (s : _root_.Go.ChangeSpec) : _root_.Go.OpenSpec := { _root_.Go.OpenSpec.ofChange s with cond := some uptoSmall }

/-- 'laws.FnExactMeetLines', WHERE WHAT IT READS IS OF BULK AT MOST 1048576: true; the input reads as it did. -/
def fnExactMeetLinesUptoRow : OpenClaim := { program := "ytbfdppnmojionaadoor", sum := "96811523bf216b927c5b324fe11431b09b141b6a23111aa5cc55fee9cc1ac096", func := "loop.example/g00857/laws.FnExactMeetLines", spec := "fnExactMeetLines", named := ["loop.example/g00857/impl.vectors"], apart := false, laid := [("loop.example/g00857/impl.vectors", laid_loop_example_g00857_impl_vectors)], narrowed := true }
def FnExactMeetLinesUptoSaid : Prop := fnExactMeetLinesUptoRow.holds Tryd.pinned (OpenSpec.upto fnExactMeetLinesSpec)

/-- 'laws.FnExactReflection', WHERE WHAT IT READS IS OF BULK AT MOST 1048576: true; the input reads as it did. -/
def fnExactReflectionUptoRow : OpenClaim := { program := "ytbfdppnmojionaadoor", sum := "96811523bf216b927c5b324fe11431b09b141b6a23111aa5cc55fee9cc1ac096", func := "loop.example/g00857/laws.FnExactReflection", spec := "fnExactReflection", named := ["loop.example/g00857/impl.vectors"], apart := false, laid := [("loop.example/g00857/impl.vectors", laid_loop_example_g00857_impl_vectors)], narrowed := true }
def FnExactReflectionUptoSaid : Prop := fnExactReflectionUptoRow.holds Tryd.pinned (OpenSpec.upto fnExactReflectionSpec)

/-- 'laws.FnMeet', WHERE WHAT IT READS IS OF BULK AT MOST 1048576: true; the input reads as it did. -/
def fnMeetUptoRow : OpenClaim := { program := "ytbfdppnmojionaadoor", sum := "96811523bf216b927c5b324fe11431b09b141b6a23111aa5cc55fee9cc1ac096", func := "loop.example/g00857/laws.FnMeet", spec := "fnMeet", named := ["loop.example/g00857/impl.vectors"], apart := false, laid := [("loop.example/g00857/impl.vectors", laid_loop_example_g00857_impl_vectors)], narrowed := true }
def FnMeetUptoSaid : Prop := fnMeetUptoRow.holds Tryd.pinned (OpenSpec.upto fnMeetSpec)

/-- 'laws.FnReflect', WHERE WHAT IT READS IS OF BULK AT MOST 1048576: true; the input reads as it did. -/
def fnReflectUptoRow : OpenClaim := { program := "ytbfdppnmojionaadoor", sum := "96811523bf216b927c5b324fe11431b09b141b6a23111aa5cc55fee9cc1ac096", func := "loop.example/g00857/laws.FnReflect", spec := "fnReflect", named := ["loop.example/g00857/impl.vectors"], apart := false, laid := [("loop.example/g00857/impl.vectors", laid_loop_example_g00857_impl_vectors)], narrowed := true }
def FnReflectUptoSaid : Prop := fnReflectUptoRow.holds Tryd.pinned (OpenSpec.upto fnReflectSpec)

/-- 'laws.FnExactAreaOf', WHERE WHAT IT READS IS OF BULK AT MOST 1048576: true; the input reads as it did. -/
def fnExactAreaOfUptoRow : OpenClaim := { program := "ytbfdppnmojionaadoor", sum := "96811523bf216b927c5b324fe11431b09b141b6a23111aa5cc55fee9cc1ac096", func := "loop.example/g00857/laws.FnExactAreaOf", spec := "fnExactAreaOf", unfollowed := true, recurses := true, named := ["loop.example/g00857/impl.vectors"], apart := false, laid := [("loop.example/g00857/impl.vectors", laid_loop_example_g00857_impl_vectors)], narrowed := true }
def FnExactAreaOfUptoSaid : Prop := fnExactAreaOfUptoRow.holds Tryd.pinned (OpenSpec.upto fnExactAreaOfSpec)

/-- 'laws.FnReflections', WHERE WHAT IT READS IS OF BULK AT MOST 1048576: true; the input reads as it did. -/
def fnReflectionsUptoRow : OpenClaim := { program := "ytbfdppnmojionaadoor", sum := "96811523bf216b927c5b324fe11431b09b141b6a23111aa5cc55fee9cc1ac096", func := "loop.example/g00857/laws.FnReflections", spec := "fnReflections", named := ["loop.example/g00857/impl.vectors"], apart := false, laid := [("loop.example/g00857/impl.vectors", laid_loop_example_g00857_impl_vectors)], narrowed := true }
def FnReflectionsUptoSaid : Prop := fnReflectionsUptoRow.holds Tryd.pinned (OpenSpec.upto fnReflectionsSpec)

/-- 'laws.FnMotionLines', WHERE WHAT IT READS IS OF BULK AT MOST 1048576: true; the input reads as it did. -/
def fnMotionLinesUptoRow : OpenClaim := { program := "ytbfdppnmojionaadoor", sum := "96811523bf216b927c5b324fe11431b09b141b6a23111aa5cc55fee9cc1ac096", func := "loop.example/g00857/laws.FnMotionLines", spec := "fnMotionLines", named := ["loop.example/g00857/impl.vectors"], apart := false, laid := [("loop.example/g00857/impl.vectors", laid_loop_example_g00857_impl_vectors)], narrowed := true }
def FnMotionLinesUptoSaid : Prop := fnMotionLinesUptoRow.holds Tryd.pinned (OpenSpec.upto fnMotionLinesSpec)

/-- 'laws.FnExactCertificateText', WHERE WHAT IT READS IS OF BULK AT MOST 1048576: true; the input reads as it did. -/
def fnExactCertificateTextUptoRow : OpenClaim := { program := "ytbfdppnmojionaadoor", sum := "96811523bf216b927c5b324fe11431b09b141b6a23111aa5cc55fee9cc1ac096", func := "loop.example/g00857/laws.FnExactCertificateText", spec := "fnExactCertificateText", inPlace := ["internal/abi.NoEscape", "internal/bytealg.MakeNoZero"], unfollowed := true, recurses := true, named := ["loop.example/g00857/impl.conditionWords", "internal/strconv.uint64pow10", "math/bits.deBruijn32tab", "math/bits.deBruijn64tab"], apart := false, laid := [("math/bits.deBruijn32tab", laid_math_bits_deBruijn32tab), ("math/bits.deBruijn64tab", laid_math_bits_deBruijn64tab), ("internal/strconv.uint64pow10", laid_internal_strconv_uint64pow10), ("loop.example/g00857/impl.conditionWords", laid_loop_example_g00857_impl_conditionWords)], narrowed := true }
def FnExactCertificateTextUptoSaid : Prop := fnExactCertificateTextUptoRow.holds Tryd.pinned (OpenSpec.upto fnExactCertificateTextSpec)

/-- 'laws.FnExactMovePolygon', WHERE WHAT IT READS IS OF BULK AT MOST 1048576: true; the input reads as it did. -/
def fnExactMovePolygonUptoRow : OpenClaim := { program := "ytbfdppnmojionaadoor", sum := "96811523bf216b927c5b324fe11431b09b141b6a23111aa5cc55fee9cc1ac096", func := "loop.example/g00857/laws.FnExactMovePolygon", spec := "fnExactMovePolygon", unfollowed := true, recurses := true, named := ["loop.example/g00857/impl.vectors"], apart := false, laid := [("loop.example/g00857/impl.vectors", laid_loop_example_g00857_impl_vectors)], narrowed := true }
def FnExactMovePolygonUptoSaid : Prop := fnExactMovePolygonUptoRow.holds Tryd.pinned (OpenSpec.upto fnExactMovePolygonSpec)

/-- 'laws.FnExactCutPolygon', WHERE WHAT IT READS IS OF BULK AT MOST 1048576: true; the input reads as it did. -/
def fnExactCutPolygonUptoRow : OpenClaim := { program := "ytbfdppnmojionaadoor", sum := "96811523bf216b927c5b324fe11431b09b141b6a23111aa5cc55fee9cc1ac096", func := "loop.example/g00857/laws.FnExactCutPolygon", spec := "fnExactCutPolygon", unfollowed := true, recurses := true, named := ["loop.example/g00857/impl.vectors"], apart := false, laid := [("loop.example/g00857/impl.vectors", laid_loop_example_g00857_impl_vectors)], narrowed := true }
def FnExactCutPolygonUptoSaid : Prop := fnExactCutPolygonUptoRow.holds Tryd.pinned (OpenSpec.upto fnExactCutPolygonSpec)

end Rows
end Go.Proofs.YtbfdppnmojionaaDoor
