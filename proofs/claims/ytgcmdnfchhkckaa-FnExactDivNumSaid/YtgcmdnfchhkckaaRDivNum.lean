/- FnExactDivNum: the program's function gives what the reference gives, for all arguments; proved by the evaluator's contracts. -/
import Derived.Test.YtgcmdnfchhkckaaRows
import Derived.Test.YtgcmdnfchhkckaaC4
import Derived.WalkKit
import Derived.ProofKit
import Derived.OpenShut
import Derived.ShutString
import Derived.ChangeOld
import Derived.SizedLaws
namespace Go.Proofs.Ytgcmdnfchhkckaa.fnExactDivNum
open Go.ChangeShapes Go.WideShapes Go.ChangeAt Go.RowKit Go.Ev
set_option linter.unusedVariables false
set_option linter.unusedSimpArgs false
theorem own : ownKnob Try.prog.godebug = none := by kernel_rfl
set_option maxHeartbeats 4000000 in
set_option maxRecDepth 100000 in
theorem lifted (os : Os) (started : os.Started) (H : Type) (enc : TypeId × Value → H) :
    ReturnsInHanded {} Try.checked os 7 .any (Rows.fnExactDivNumSpec.pre6 enc Try.prog Try.f7 Rows.fnExactDivNumRow.domain false) (Rows.fnExactDivNumSpec.post enc Try.prog Try.f7 false true false false) := by
  refine returnsInHanded_of_change_sized (C := Try.checked) own started (by kernel_rfl) Try.func7
    (ChangeSpec.witness6 (enc := enc) (C := Try.checked) false ⟨#[], #[.agg #[.int .i64 0, .int .i64 0, .int .i64 0], .agg #[.int .i64 0, .int .i64 0, .int .i64 0]], []⟩ 8 (by kernel_rfl) (by kernel_rfl) (by kernel_rfl) (by kernel_rfl)) ?_
  intro W base args ds gs before hval0 hW hcnd hsz0 _
  have hval : ∀ (j : Nat) t v, Try.f7.params[j]? = some t → args[j]? = some v → Value.okWide Try.prog W .any base t v := hval0
  have hW' := hW
  obtain ⟨p, q, hA0, hV, rfl, hfz, hnd⟩ := hW
  have hA : DataW.TrodAll enc Try.prog W 0 (fun _ => true) true Try.f7.params.toList args.toList ds p := hA0
  rw [Try.params7] at hA hval
  obtain ⟨v0, vs0, d0, ds0, p0, q0, hargs, rfl, rfl, h0, r0⟩ := trodAll_cons hA
  obtain ⟨v1, vs1, d1, ds1, p1, q1, rfl, rfl, rfl, h1, r1⟩ := trodAll_cons r0
  obtain ⟨rfl, rfl, rfl⟩ := trodAll_nil r1
  obtain rfl : args = #[v0, v1] := by cases args; simp_all
  obtain ⟨rfl, rfl⟩ := trodVars_none hV
  obtain ⟨c0, rfl, g0, rfl, b0⟩ := agg_flat (n := 5) (P := Try.prog) (ks := [.int .i64, .int .i64, .int .i64]) (by kernel_rfl) Try.underlying28 (hval 0 28 v0 rfl rfl) h0
  obtain ⟨x0_0, ex0_0, rfl, wx0_0, g0_1⟩ := Fits.intc g0
  obtain ⟨x0_1, ex0_1, rfl, wx0_1, g0_2⟩ := Fits.intc g0_1
  obtain ⟨x0_2, ex0_2, rfl, wx0_2, g0_3⟩ := Fits.intc g0_2
  obtain rfl := Fits.nilc g0_3
  obtain ⟨c1, rfl, g1, rfl, b1⟩ := agg_flat (n := 5) (P := Try.prog) (ks := [.int .i64, .int .i64, .int .i64]) (by kernel_rfl) Try.underlying28 (hval 1 28 v1 rfl rfl) h1
  obtain ⟨x1_0, ex1_0, rfl, wx1_0, g1_1⟩ := Fits.intc g1
  obtain ⟨x1_1, ex1_1, rfl, wx1_1, g1_2⟩ := Fits.intc g1_1
  obtain ⟨x1_2, ex1_2, rfl, wx1_2, g1_3⟩ := Fits.intc g1_2
  obtain rfl := Fits.nilc g1_3
  have hc := (m7).2 [.agg [.val (.int .i64 x0_0), .val (.int .i64 x0_1), .val (.int .i64 x0_2)], .agg [.val (.int .i64 x1_0), .val (.int .i64 x1_1), .val (.int .i64 x1_2)]] (bv true) (by rfl) W (fun b => b < W.heap.size) _ (fun b h => h) (fun g => .non _) rfl (reps_cons (rep_vals [.int .i64 x0_0, .int .i64 x0_1, .int .i64 x0_2]) (reps_cons (rep_vals [.int .i64 x1_0, .int .i64 x1_1, .int .i64 x1_2]) reps_nil))
  refine hc.mono fun e W' ⟨v, he, bel, hrep⟩ => ?_
  obtain rfl : v = .bool true := by cases hrep; rfl
  subst he
  exact ⟨_, rfl, _, _, _, [], _, [], hW', trodAll_mk1 (shut_bool Try.underlying4 _), (trodAll_cons_mk (b0 _ _) (trodAll_cons_mk (b1 _ _) trodAll_mk0)), rfl, bel.frame _, fun h => by cases h⟩
theorem over : Rows.fnExactDivNumRow.holds Try.pinned (OpenSpec.ofChange Rows.fnExactDivNumSpec) :=
  OpenClaim.holds_of_wide 7 Try.f7 rfl rfl rfl rfl rfl rfl rfl ⟨rfl, rfl, rfl, rfl, rfl⟩ rfl rfl rfl rfl rfl (by kernel_rfl) Try.func7 (by kernel_rfl)
    (of_decide_eq_true (by kernel_rfl)) (by unfold Func.isWrapper; first | (rw [if_pos (by decide +kernel)]; kernel_rfl) | (rw [if_neg (by decide +kernel)]; exact ⟨rfl, rfl⟩))
    (fun os started H enc _ => lifted os started H enc)
end Go.Proofs.Ytgcmdnfchhkckaa.fnExactDivNum
namespace Go.Proofs.Ytgcmdnfchhkckaa
theorem fnExactDivNum_holds : Rows.FnExactDivNumSaid := fnExactDivNum.over
#print axioms fnExactDivNum_holds
end Go.Proofs.Ytgcmdnfchhkckaa
