/-
  No cell of these rows narrows 'for every input' (looked for: loops, veiled, ifaces, maps, wideKeys, modest, calm, conditions, laid).
  DERIVED. THE GIVEN ROWS OF THIS SEAT. 11 by the template 'for every input the law returns true; each argument reads behind the call as it read before'; 0 by the template 'total and deterministic' (their statements: YtgcmdnfchhkckaaTotals.lean).
  GIVEN WITH THE SEED: the statements are not yours to turn. If you find one false, say at which input.
  Laid BY PROGRAM, IN A SANDBOX (cutbox-rows.mjs): the forced cells as the released guide's own fill.sh prints them over the translation bfbfd7c13bc96306… (all of the seat's roots in one cut). By AI agents, Wed Nov 11 2026. No macro, syntax, notation, axiom, sorry.
-/
import Derived.Test.YtgcmdnfchhkckaaChecked
import GoSem.Claim
import GoSem.ClaimJoined
import GoSem.ClaimMapViews
import Derived.JoinedTies
import Derived.KernelRfl
namespace Go.Proofs.Ytgcmdnfchhkckaa
/- THE CELL 'sum', in the pinned program and in every row, IS THE sha256 OF THE DUMP (.gsa) THAT YtgcmdnfchhkckaaProg.lean LOADS. Nothing in Lean hashes anything: it is a label: what it is worth is what the hold of that sum in a sandbox is worth. -/
noncomputable def Try.pinned : Pinned := { name := "ytgcmdnfchhkckaa", sum := "bfbfd7c13bc9630614dbdacc9f1e55bb64feebf6bdc92c506a21563763ad731f", checked := Try.checked }
namespace Rows
def none {H : Type} : Left H := { results := [], args := [] }

/-- 'laws.FnExactMakeNum': WHATEVER THE INPUT: true; the input reads as it did. -/
def fnExactMakeNumSpec : ChangeSpec := { name := "fnExactMakeNum", fn := fun _ => fun
  | [d1, d2, d3] => { results := [.lit (.bool true)], args := [d1, d2, d3] }
  | _ => none }
def fnExactMakeNumRow : OpenClaim := { program := "ytgcmdnfchhkckaa", sum := "bfbfd7c13bc9630614dbdacc9f1e55bb64feebf6bdc92c506a21563763ad731f", func := "loop.example/g00857/laws.FnExactMakeNum", spec := "fnExactMakeNum", apart := false }
def FnExactMakeNumSaid : Prop := fnExactMakeNumRow.holds Try.pinned (OpenSpec.ofChange fnExactMakeNumSpec)

/-- ITS FALSE NEIGHBOUR: 'it returns false'. Refute it at one input. -/
def fnExactMakeNumWrong : ChangeSpec := { name := "fnExactMakeNum", fn := fun _ => fun
  | [d1, d2, d3] => { results := [.lit (.bool false)], args := [d1, d2, d3] }
  | _ => none }
def FnExactMakeNumWrongFalsely : Prop := fnExactMakeNumRow.holds Try.pinned (OpenSpec.ofChange fnExactMakeNumWrong)

/-- 'laws.FnExactMulNum': WHATEVER THE INPUT: true; the input reads as it did. -/
def fnExactMulNumSpec : ChangeSpec := { name := "fnExactMulNum", fn := fun _ => fun
  | [d1, d2] => { results := [.lit (.bool true)], args := [d1, d2] }
  | _ => none }
def fnExactMulNumRow : OpenClaim := { program := "ytgcmdnfchhkckaa", sum := "bfbfd7c13bc9630614dbdacc9f1e55bb64feebf6bdc92c506a21563763ad731f", func := "loop.example/g00857/laws.FnExactMulNum", spec := "fnExactMulNum", apart := false }
def FnExactMulNumSaid : Prop := fnExactMulNumRow.holds Try.pinned (OpenSpec.ofChange fnExactMulNumSpec)

/-- ITS FALSE NEIGHBOUR: 'it returns false'. Refute it at one input. -/
def fnExactMulNumWrong : ChangeSpec := { name := "fnExactMulNum", fn := fun _ => fun
  | [d1, d2] => { results := [.lit (.bool false)], args := [d1, d2] }
  | _ => none }
def FnExactMulNumWrongFalsely : Prop := fnExactMulNumRow.holds Try.pinned (OpenSpec.ofChange fnExactMulNumWrong)

/-- 'laws.FnExactAddNum': WHATEVER THE INPUT: true; the input reads as it did. -/
def fnExactAddNumSpec : ChangeSpec := { name := "fnExactAddNum", fn := fun _ => fun
  | [d1, d2] => { results := [.lit (.bool true)], args := [d1, d2] }
  | _ => none }
def fnExactAddNumRow : OpenClaim := { program := "ytgcmdnfchhkckaa", sum := "bfbfd7c13bc9630614dbdacc9f1e55bb64feebf6bdc92c506a21563763ad731f", func := "loop.example/g00857/laws.FnExactAddNum", spec := "fnExactAddNum", apart := false }
def FnExactAddNumSaid : Prop := fnExactAddNumRow.holds Try.pinned (OpenSpec.ofChange fnExactAddNumSpec)

/-- ITS FALSE NEIGHBOUR: 'it returns false'. Refute it at one input. -/
def fnExactAddNumWrong : ChangeSpec := { name := "fnExactAddNum", fn := fun _ => fun
  | [d1, d2] => { results := [.lit (.bool false)], args := [d1, d2] }
  | _ => none }
def FnExactAddNumWrongFalsely : Prop := fnExactAddNumRow.holds Try.pinned (OpenSpec.ofChange fnExactAddNumWrong)

/-- 'laws.FnExactSubNum': WHATEVER THE INPUT: true; the input reads as it did. -/
def fnExactSubNumSpec : ChangeSpec := { name := "fnExactSubNum", fn := fun _ => fun
  | [d1, d2] => { results := [.lit (.bool true)], args := [d1, d2] }
  | _ => none }
def fnExactSubNumRow : OpenClaim := { program := "ytgcmdnfchhkckaa", sum := "bfbfd7c13bc9630614dbdacc9f1e55bb64feebf6bdc92c506a21563763ad731f", func := "loop.example/g00857/laws.FnExactSubNum", spec := "fnExactSubNum", apart := false }
def FnExactSubNumSaid : Prop := fnExactSubNumRow.holds Try.pinned (OpenSpec.ofChange fnExactSubNumSpec)

/-- ITS FALSE NEIGHBOUR: 'it returns false'. Refute it at one input. -/
def fnExactSubNumWrong : ChangeSpec := { name := "fnExactSubNum", fn := fun _ => fun
  | [d1, d2] => { results := [.lit (.bool false)], args := [d1, d2] }
  | _ => none }
def FnExactSubNumWrongFalsely : Prop := fnExactSubNumRow.holds Try.pinned (OpenSpec.ofChange fnExactSubNumWrong)

/-- 'laws.FnExactDivNum': WHATEVER THE INPUT: true; the input reads as it did. -/
def fnExactDivNumSpec : ChangeSpec := { name := "fnExactDivNum", fn := fun _ => fun
  | [d1, d2] => { results := [.lit (.bool true)], args := [d1, d2] }
  | _ => none }
def fnExactDivNumRow : OpenClaim := { program := "ytgcmdnfchhkckaa", sum := "bfbfd7c13bc9630614dbdacc9f1e55bb64feebf6bdc92c506a21563763ad731f", func := "loop.example/g00857/laws.FnExactDivNum", spec := "fnExactDivNum", apart := false }
def FnExactDivNumSaid : Prop := fnExactDivNumRow.holds Try.pinned (OpenSpec.ofChange fnExactDivNumSpec)

/-- ITS FALSE NEIGHBOUR: 'it returns false'. Refute it at one input. -/
def fnExactDivNumWrong : ChangeSpec := { name := "fnExactDivNum", fn := fun _ => fun
  | [d1, d2] => { results := [.lit (.bool false)], args := [d1, d2] }
  | _ => none }
def FnExactDivNumWrongFalsely : Prop := fnExactDivNumRow.holds Try.pinned (OpenSpec.ofChange fnExactDivNumWrong)

/-- 'laws.FnExactMidPoint': WHATEVER THE INPUT: true; the input reads as it did. -/
def fnExactMidPointSpec : ChangeSpec := { name := "fnExactMidPoint", fn := fun _ => fun
  | [d1, d2] => { results := [.lit (.bool true)], args := [d1, d2] }
  | _ => none }
def fnExactMidPointRow : OpenClaim := { program := "ytgcmdnfchhkckaa", sum := "bfbfd7c13bc9630614dbdacc9f1e55bb64feebf6bdc92c506a21563763ad731f", func := "loop.example/g00857/laws.FnExactMidPoint", spec := "fnExactMidPoint", apart := false }
def FnExactMidPointSaid : Prop := fnExactMidPointRow.holds Try.pinned (OpenSpec.ofChange fnExactMidPointSpec)

/-- ITS FALSE NEIGHBOUR: 'it returns false'. Refute it at one input. -/
def fnExactMidPointWrong : ChangeSpec := { name := "fnExactMidPoint", fn := fun _ => fun
  | [d1, d2] => { results := [.lit (.bool false)], args := [d1, d2] }
  | _ => none }
def FnExactMidPointWrongFalsely : Prop := fnExactMidPointRow.holds Try.pinned (OpenSpec.ofChange fnExactMidPointWrong)

/-- 'laws.FnExactMovePoint': WHATEVER THE INPUT: true; the input reads as it did. -/
def fnExactMovePointSpec : ChangeSpec := { name := "fnExactMovePoint", fn := fun _ => fun
  | [d1, d2] => { results := [.lit (.bool true)], args := [d1, d2] }
  | _ => none }
def fnExactMovePointRow : OpenClaim := { program := "ytgcmdnfchhkckaa", sum := "bfbfd7c13bc9630614dbdacc9f1e55bb64feebf6bdc92c506a21563763ad731f", func := "loop.example/g00857/laws.FnExactMovePoint", spec := "fnExactMovePoint", apart := false }
def FnExactMovePointSaid : Prop := fnExactMovePointRow.holds Try.pinned (OpenSpec.ofChange fnExactMovePointSpec)

/-- ITS FALSE NEIGHBOUR: 'it returns false'. Refute it at one input. -/
def fnExactMovePointWrong : ChangeSpec := { name := "fnExactMovePoint", fn := fun _ => fun
  | [d1, d2] => { results := [.lit (.bool false)], args := [d1, d2] }
  | _ => none }
def FnExactMovePointWrongFalsely : Prop := fnExactMovePointRow.holds Try.pinned (OpenSpec.ofChange fnExactMovePointWrong)

/-- 'laws.FnNumSigns': WHATEVER THE INPUT: true; the input reads as it did. -/
def fnNumSignsSpec : ChangeSpec := { name := "fnNumSigns", fn := fun _ => fun
  | [d] => { results := [.lit (.bool true)], args := [d] }
  | _ => none }
def fnNumSignsRow : OpenClaim := { program := "ytgcmdnfchhkckaa", sum := "bfbfd7c13bc9630614dbdacc9f1e55bb64feebf6bdc92c506a21563763ad731f", func := "loop.example/g00857/laws.FnNumSigns", spec := "fnNumSigns", apart := false }
def FnNumSignsSaid : Prop := fnNumSignsRow.holds Try.pinned (OpenSpec.ofChange fnNumSignsSpec)

/-- ITS FALSE NEIGHBOUR: 'it returns false'. Refute it at one input. -/
def fnNumSignsWrong : ChangeSpec := { name := "fnNumSigns", fn := fun _ => fun
  | [d] => { results := [.lit (.bool false)], args := [d] }
  | _ => none }
def FnNumSignsWrongFalsely : Prop := fnNumSignsRow.holds Try.pinned (OpenSpec.ofChange fnNumSignsWrong)

/-- 'laws.FnDivide': WHATEVER THE INPUT: true; the input reads as it did. -/
def fnDivideSpec : ChangeSpec := { name := "fnDivide", fn := fun _ => fun
  | [d] => { results := [.lit (.bool true)], args := [d] }
  | _ => none }
def fnDivideRow : OpenClaim := { program := "ytgcmdnfchhkckaa", sum := "bfbfd7c13bc9630614dbdacc9f1e55bb64feebf6bdc92c506a21563763ad731f", func := "loop.example/g00857/laws.FnDivide", spec := "fnDivide", apart := false }
def FnDivideSaid : Prop := fnDivideRow.holds Try.pinned (OpenSpec.ofChange fnDivideSpec)

/-- ITS FALSE NEIGHBOUR: 'it returns false'. Refute it at one input. -/
def fnDivideWrong : ChangeSpec := { name := "fnDivide", fn := fun _ => fun
  | [d] => { results := [.lit (.bool false)], args := [d] }
  | _ => none }
def FnDivideWrongFalsely : Prop := fnDivideRow.holds Try.pinned (OpenSpec.ofChange fnDivideWrong)

/-- 'laws.FnExactInvert': WHATEVER THE INPUT: true; the input reads as it did. -/
def fnExactInvertSpec : ChangeSpec := { name := "fnExactInvert", fn := fun _ => fun
  | [d] => { results := [.lit (.bool true)], args := [d] }
  | _ => none }
def fnExactInvertRow : OpenClaim := { program := "ytgcmdnfchhkckaa", sum := "bfbfd7c13bc9630614dbdacc9f1e55bb64feebf6bdc92c506a21563763ad731f", func := "loop.example/g00857/laws.FnExactInvert", spec := "fnExactInvert", apart := false }
def FnExactInvertSaid : Prop := fnExactInvertRow.holds Try.pinned (OpenSpec.ofChange fnExactInvertSpec)

/-- ITS FALSE NEIGHBOUR: 'it returns false'. Refute it at one input. -/
def fnExactInvertWrong : ChangeSpec := { name := "fnExactInvert", fn := fun _ => fun
  | [d] => { results := [.lit (.bool false)], args := [d] }
  | _ => none }
def FnExactInvertWrongFalsely : Prop := fnExactInvertRow.holds Try.pinned (OpenSpec.ofChange fnExactInvertWrong)

/-- 'laws.FnExactCompose': WHATEVER THE INPUT: true; the input reads as it did. -/
def fnExactComposeSpec : ChangeSpec := { name := "fnExactCompose", fn := fun _ => fun
  | [d1, d2] => { results := [.lit (.bool true)], args := [d1, d2] }
  | _ => none }
def fnExactComposeRow : OpenClaim := { program := "ytgcmdnfchhkckaa", sum := "bfbfd7c13bc9630614dbdacc9f1e55bb64feebf6bdc92c506a21563763ad731f", func := "loop.example/g00857/laws.FnExactCompose", spec := "fnExactCompose", apart := false }
def FnExactComposeSaid : Prop := fnExactComposeRow.holds Try.pinned (OpenSpec.ofChange fnExactComposeSpec)

/-- ITS FALSE NEIGHBOUR: 'it returns false'. Refute it at one input. -/
def fnExactComposeWrong : ChangeSpec := { name := "fnExactCompose", fn := fun _ => fun
  | [d1, d2] => { results := [.lit (.bool false)], args := [d1, d2] }
  | _ => none }
def FnExactComposeWrongFalsely : Prop := fnExactComposeRow.holds Try.pinned (OpenSpec.ofChange fnExactComposeWrong)

/- THE SECOND FORM. 'bulk': how many values and letters a reading holds, each counted each time it is reached (what is shared counts as often as it is met; a slice's spare places count too). A statement '..UptoSaid' is the law's where the arguments, and the package variables that the reading takes, are together of bulk at most 1048576: NARROWER than '..Said'. Prove '..Said' where nothing that the law and all that it calls make is longer than what came in: it says more and counts as full. Else prove '..UptoSaid'. A law counts once. -/
mutual
def uptoBulk {H : Type} : DataW H → Nat
  | .lit (.string bytes) => bytes.length + 1
  | .lit _ => 1
  | .nil => 1
  | .ptr d => uptoBulk d + 1
  | .slice elems spare => uptoBulkAll elems + uptoBulkAll spare + 1
  | .agg parts => uptoBulkAll parts + 1
  | .iface _ d => uptoBulk d + 1
  | .map entries => uptoBulkEntries entries + 1
  | .held _ => 1
def uptoBulkAll {H : Type} : List (DataW H) → Nat
  | [] => 0
  | d :: r => uptoBulk d + uptoBulkAll r
def uptoBulkEntries {H : Type} : List (Lit × DataW H) → Nat
  | [] => 0
  | x :: r => uptoBulkEntry x + uptoBulkEntries r
def uptoBulkEntry {H : Type} : Lit × DataW H → Nat
  | (.string bytes, d) => bytes.length + uptoBulk d + 1
  | (_, d) => uptoBulk d + 1
 end
def uptoSmall : (H : Type) → List (DataW H) → Bool := fun _ ds => decide (uptoBulkAll ds ≤ 1048576)
def OpenSpec.upto (s : _root_.Go.ChangeSpec) : _root_.Go.OpenSpec := { _root_.Go.OpenSpec.ofChange s with cond := some uptoSmall }

/-- 'laws.FnExactMakeNum', WHERE WHAT IT READS IS OF BULK AT MOST 1048576: true; the input reads as it did. -/
def fnExactMakeNumUptoRow : OpenClaim := { program := "ytgcmdnfchhkckaa", sum := "bfbfd7c13bc9630614dbdacc9f1e55bb64feebf6bdc92c506a21563763ad731f", func := "loop.example/g00857/laws.FnExactMakeNum", spec := "fnExactMakeNum", apart := false, narrowed := true }
def FnExactMakeNumUptoSaid : Prop := fnExactMakeNumUptoRow.holds Try.pinned (OpenSpec.upto fnExactMakeNumSpec)

/-- 'laws.FnExactMulNum', WHERE WHAT IT READS IS OF BULK AT MOST 1048576: true; the input reads as it did. -/
def fnExactMulNumUptoRow : OpenClaim := { program := "ytgcmdnfchhkckaa", sum := "bfbfd7c13bc9630614dbdacc9f1e55bb64feebf6bdc92c506a21563763ad731f", func := "loop.example/g00857/laws.FnExactMulNum", spec := "fnExactMulNum", apart := false, narrowed := true }
def FnExactMulNumUptoSaid : Prop := fnExactMulNumUptoRow.holds Try.pinned (OpenSpec.upto fnExactMulNumSpec)

/-- 'laws.FnExactAddNum', WHERE WHAT IT READS IS OF BULK AT MOST 1048576: true; the input reads as it did. -/
def fnExactAddNumUptoRow : OpenClaim := { program := "ytgcmdnfchhkckaa", sum := "bfbfd7c13bc9630614dbdacc9f1e55bb64feebf6bdc92c506a21563763ad731f", func := "loop.example/g00857/laws.FnExactAddNum", spec := "fnExactAddNum", apart := false, narrowed := true }
def FnExactAddNumUptoSaid : Prop := fnExactAddNumUptoRow.holds Try.pinned (OpenSpec.upto fnExactAddNumSpec)

/-- 'laws.FnExactSubNum', WHERE WHAT IT READS IS OF BULK AT MOST 1048576: true; the input reads as it did. -/
def fnExactSubNumUptoRow : OpenClaim := { program := "ytgcmdnfchhkckaa", sum := "bfbfd7c13bc9630614dbdacc9f1e55bb64feebf6bdc92c506a21563763ad731f", func := "loop.example/g00857/laws.FnExactSubNum", spec := "fnExactSubNum", apart := false, narrowed := true }
def FnExactSubNumUptoSaid : Prop := fnExactSubNumUptoRow.holds Try.pinned (OpenSpec.upto fnExactSubNumSpec)

/-- 'laws.FnExactDivNum', WHERE WHAT IT READS IS OF BULK AT MOST 1048576: true; the input reads as it did. -/
def fnExactDivNumUptoRow : OpenClaim := { program := "ytgcmdnfchhkckaa", sum := "bfbfd7c13bc9630614dbdacc9f1e55bb64feebf6bdc92c506a21563763ad731f", func := "loop.example/g00857/laws.FnExactDivNum", spec := "fnExactDivNum", apart := false, narrowed := true }
def FnExactDivNumUptoSaid : Prop := fnExactDivNumUptoRow.holds Try.pinned (OpenSpec.upto fnExactDivNumSpec)

/-- 'laws.FnExactMidPoint', WHERE WHAT IT READS IS OF BULK AT MOST 1048576: true; the input reads as it did. -/
def fnExactMidPointUptoRow : OpenClaim := { program := "ytgcmdnfchhkckaa", sum := "bfbfd7c13bc9630614dbdacc9f1e55bb64feebf6bdc92c506a21563763ad731f", func := "loop.example/g00857/laws.FnExactMidPoint", spec := "fnExactMidPoint", apart := false, narrowed := true }
def FnExactMidPointUptoSaid : Prop := fnExactMidPointUptoRow.holds Try.pinned (OpenSpec.upto fnExactMidPointSpec)

/-- 'laws.FnExactMovePoint', WHERE WHAT IT READS IS OF BULK AT MOST 1048576: true; the input reads as it did. -/
def fnExactMovePointUptoRow : OpenClaim := { program := "ytgcmdnfchhkckaa", sum := "bfbfd7c13bc9630614dbdacc9f1e55bb64feebf6bdc92c506a21563763ad731f", func := "loop.example/g00857/laws.FnExactMovePoint", spec := "fnExactMovePoint", apart := false, narrowed := true }
def FnExactMovePointUptoSaid : Prop := fnExactMovePointUptoRow.holds Try.pinned (OpenSpec.upto fnExactMovePointSpec)

/-- 'laws.FnNumSigns', WHERE WHAT IT READS IS OF BULK AT MOST 1048576: true; the input reads as it did. -/
def fnNumSignsUptoRow : OpenClaim := { program := "ytgcmdnfchhkckaa", sum := "bfbfd7c13bc9630614dbdacc9f1e55bb64feebf6bdc92c506a21563763ad731f", func := "loop.example/g00857/laws.FnNumSigns", spec := "fnNumSigns", apart := false, narrowed := true }
def FnNumSignsUptoSaid : Prop := fnNumSignsUptoRow.holds Try.pinned (OpenSpec.upto fnNumSignsSpec)

/-- 'laws.FnDivide', WHERE WHAT IT READS IS OF BULK AT MOST 1048576: true; the input reads as it did. -/
def fnDivideUptoRow : OpenClaim := { program := "ytgcmdnfchhkckaa", sum := "bfbfd7c13bc9630614dbdacc9f1e55bb64feebf6bdc92c506a21563763ad731f", func := "loop.example/g00857/laws.FnDivide", spec := "fnDivide", apart := false, narrowed := true }
def FnDivideUptoSaid : Prop := fnDivideUptoRow.holds Try.pinned (OpenSpec.upto fnDivideSpec)

/-- 'laws.FnExactInvert', WHERE WHAT IT READS IS OF BULK AT MOST 1048576: true; the input reads as it did. -/
def fnExactInvertUptoRow : OpenClaim := { program := "ytgcmdnfchhkckaa", sum := "bfbfd7c13bc9630614dbdacc9f1e55bb64feebf6bdc92c506a21563763ad731f", func := "loop.example/g00857/laws.FnExactInvert", spec := "fnExactInvert", apart := false, narrowed := true }
def FnExactInvertUptoSaid : Prop := fnExactInvertUptoRow.holds Try.pinned (OpenSpec.upto fnExactInvertSpec)

/-- 'laws.FnExactCompose', WHERE WHAT IT READS IS OF BULK AT MOST 1048576: true; the input reads as it did. -/
def fnExactComposeUptoRow : OpenClaim := { program := "ytgcmdnfchhkckaa", sum := "bfbfd7c13bc9630614dbdacc9f1e55bb64feebf6bdc92c506a21563763ad731f", func := "loop.example/g00857/laws.FnExactCompose", spec := "fnExactCompose", apart := false, narrowed := true }
def FnExactComposeUptoSaid : Prop := fnExactComposeUptoRow.holds Try.pinned (OpenSpec.upto fnExactComposeSpec)

end Rows
end Go.Proofs.Ytgcmdnfchhkckaa
