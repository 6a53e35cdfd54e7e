/- FnExactClaimOf: the program's function gives what the reference gives, for all arguments; proved by the evaluator's contracts. -/
import Derived.Test.YtooikeeckoflpaaRows
import Derived.Test.YtooikeeckoflpaaC1
import Derived.Test.YtooikeeckoflpaaRowS
import Derived.WalkKit
import Derived.ProofKit
import Derived.OpenShut
import Derived.ShutString
import Derived.ChangeOld
import Derived.SizedLaws
namespace Go.Proofs.Ytooikeeckoflpaa.fnExactClaimOf
open Go.ChangeShapes Go.WideShapes Go.ChangeAt Go.RowKit Go.Ev
set_option linter.unusedVariables false
set_option linter.unusedSimpArgs false
theorem own : ownKnob Try.prog.godebug = none := by kernel_rfl
theorem laidOut : laidOutB Try.prog = true := by kernel_rfl
set_option maxHeartbeats 4000000 in
set_option maxRecDepth 100000 in
theorem lifted (os : Os) (started : os.Started) (H : Type) (enc : TypeId × Value → H) :
    ReturnsInHanded {} Try.checked os 3 .any (Rows.fnExactClaimOfSpec.pre6 enc Try.prog Try.f3 Rows.fnExactClaimOfRow.domain false) (Rows.fnExactClaimOfSpec.post enc Try.prog Try.f3 false true false false) := by
  refine returnsInHanded_of_change_sized (C := Try.checked) own started (by kernel_rfl) Try.func3
    (ChangeSpec.witness6 (enc := enc) (C := Try.checked) false ⟨#[], #[.agg #[.int .i64 0, .int .i64 0, .int .i64 0, .slice none 0 0, .slice none 0 0]], []⟩ 8 (by kernel_rfl) (by kernel_rfl) (by kernel_rfl) (by kernel_rfl)) ?_
  intro W base args ds gs before hval0 hW hcnd hsz0 _
  have hval : ∀ (j : Nat) t v, Try.f3.params[j]? = some t → args[j]? = some v → Value.okWide Try.prog W .any base t v := hval0
  have hW' := hW
  obtain ⟨p, q, hA0, hV, rfl, hfz, hnd⟩ := hW
  have hA : DataW.TrodAll enc Try.prog W 0 (fun _ => true) true Try.f3.params.toList args.toList ds p := hA0
  rw [Try.params3] at hA hval
  obtain ⟨v0, vs0, d0, ds0, p0, q0, hargs, rfl, rfl, h0, r0⟩ := trodAll_cons hA
  obtain ⟨rfl, rfl, rfl⟩ := trodAll_nil r0
  obtain rfl : args = #[v0] := by cases args; simp_all
  obtain ⟨rfl, rfl⟩ := trodVars_none hV
  obtain ⟨cs0, rfl, hl0, fu0, hF0⟩ := open_struct Try.underlying25 (hval 0 25 v0 rfl rfl) h0
  obtain ⟨e0_0, e0_1, e0_2, e0_3, e0_4, rfl⟩ := len5 (hl0.trans (show Try.prog.cellsOf 25 = 5 by kernel_rfl))
  obtain ⟨y0_0, hy0_0⟩ := struct_at hF0 0 2 0 1 rfl (by kernel_rfl)
  obtain ⟨x0_0, ee0_0, w0_0⟩ := open_intC (cs := [e0_0]) Try.underlying2 hy0_0
  cases ee0_0
  obtain ⟨y0_1, hy0_1⟩ := struct_at hF0 1 2 1 1 rfl (by kernel_rfl)
  obtain ⟨x0_1, ee0_1, w0_1⟩ := open_intC (cs := [e0_1]) Try.underlying2 hy0_1
  cases ee0_1
  obtain ⟨y0_2, hy0_2⟩ := struct_at hF0 2 2 2 1 rfl (by kernel_rfl)
  obtain ⟨x0_2, ee0_2, w0_2⟩ := open_intC (cs := [e0_2]) Try.underlying2 hy0_2
  cases ee0_2
  obtain ⟨y0_3, hy0_3⟩ := struct_at hF0 3 22 3 1 rfl (by kernel_rfl)
  obtain ⟨u0_3, n0_3, c0_3, ee0_3, hn0_3, rp0_3, rr0_3⟩ := open_rowsC (cs := [e0_3]) (n0 := 5) (lk := [.int .i64]) (ks := [.int .i64]) Try.underlying22 (show flatK Try.prog 5 2 = _ by kernel_rfl) (by kernel_rfl) (by kernel_rfl) (by kernel_rfl) hy0_3
  cases ee0_3
  obtain ⟨y0_4, hy0_4⟩ := struct_at hF0 4 23 4 1 rfl (by kernel_rfl)
  obtain ⟨u0_4, n0_4, c0_4, ee0_4, hn0_4, rp0_4, rr0_4⟩ := open_rowsC (cs := [e0_4]) (n0 := 5) (lk := [.int .i64, .int .i64, .int .i64, .int .i64]) (ks := [.int .i64, .int .i64, .int .i64, .int .i64]) Try.underlying23 (show flatK Try.prog 5 49 = _ by kernel_rfl) (by kernel_rfl) (by kernel_rfl) (by kernel_rfl) hy0_4
  cases ee0_4
  have rp0 : Rep W (fun b => b < W.heap.size) (.agg [.val (.int .i64 x0_0), .val (.int .i64 x0_1), .val (.int .i64 x0_2), .arr n0_3 [.int .i64] c0_3, .arr n0_4 [.int .i64, .int .i64, .int .i64, .int .i64] c0_4]) (.agg ⟨[.int .i64 x0_0, .int .i64 x0_1, .int .i64 x0_2, e0_3, e0_4]⟩) := .agg _ _ rfl (reps_cons (.val _) (reps_cons (.val _) (reps_cons (.val _) (reps_cons rp0_3 (reps_cons rp0_4 reps_nil)))))
  have hc := (m3).plain [.agg [.val (.int .i64 x0_0), .val (.int .i64 x0_1), .val (.int .i64 x0_2), .arr n0_3 [.int .i64] c0_3, .arr n0_4 [.int .i64, .int .i64, .int .i64, .int .i64] c0_4]] (bv true) ⟨rfl, rfl⟩ (by 
    refine congrArg (fun b => some (b, bv true)) (?_ : (Nat.ble n0_3 _ && (Nat.ble n0_4 _ && allF _ 0 n0_3)) = true)
    simp only [Bool.and_eq_true]
    exact ⟨Nat.ble_eq_true_of_le (Nat.le_trans hn0_3 (by decide)), Nat.ble_eq_true_of_le (Nat.le_trans hn0_4 (by decide)), allF_iff.2 fun i _ hi => wf_rng (rr0_3 i 0 .i64 (by omega) (by decide) rfl)⟩) W (fun b => b < W.heap.size) _ (fun b h => h) (fun g => .non _) rfl (reps_cons rp0 reps_nil)
  refine hc.mono fun e W' ⟨v, he, bel, hrep⟩ => ?_
  obtain rfl : v = .bool true := by cases hrep; rfl
  subst he
  exact ⟨_, rfl, _, _, _, [], _, [], hW', trodAll_mk1 (shut_bool Try.underlying4 _), (trodAll_cons_mk (Below.trod laidOut (by kernel_rfl) (of_decide_eq_true (by kernel_rfl)) h0 bel fun x hx => by simpa using hW'.lt x (by simp [hx])) trodAll_mk0), rfl, bel.frame _, fun h => by cases h⟩
theorem over : Rows.fnExactClaimOfRow.holds Try.pinned (OpenSpec.ofChange Rows.fnExactClaimOfSpec) :=
  OpenClaim.holds_of_wide 3 Try.f3 rfl rfl rfl rfl rfl rfl rfl ⟨rfl, rfl, rfl, rfl, rfl⟩ rfl rfl rfl rfl rfl (by kernel_rfl) Try.func3 (by kernel_rfl)
    (of_decide_eq_true (by kernel_rfl)) (by unfold Func.isWrapper; first | (rw [if_pos (by decide +kernel)]; kernel_rfl) | (rw [if_neg (by decide +kernel)]; exact ⟨rfl, rfl⟩))
    (fun os started H enc _ => lifted os started H enc)
end Go.Proofs.Ytooikeeckoflpaa.fnExactClaimOf
namespace Go.Proofs.Ytooikeeckoflpaa
theorem fnExactClaimOf_holds : Rows.FnExactClaimOfSaid := fnExactClaimOf.over
#print axioms fnExactClaimOf_holds
end Go.Proofs.Ytooikeeckoflpaa
