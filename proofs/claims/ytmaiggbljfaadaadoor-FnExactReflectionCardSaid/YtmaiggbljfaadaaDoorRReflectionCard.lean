/- FnExactReflection: the program's function gives what the reference gives, for all arguments; proved by the evaluator's contracts. -/
import Derived.Test.YtmaiggbljfaadaaDoorRows
import Derived.Test.YtmaiggbljfaadaaDoorTie
import Derived.Test.YtmaiggbljfaadaaDoorCards
import Derived.Test.YtmaiggbljfaadaaDoorC2
import Derived.Test.YtmaiggbljfaadaaDoorEvDoor
import Derived.WalkKit
import Derived.ProofKit
import Derived.LaidMore
import Derived.OpenShut
import Derived.ShutString
import Derived.ChangeOld
import Derived.SizedLaws
import Derived.ChangeVars
import Derived.OpenVars
import Derived.Stop.Joined
import Derived.SevenTiedAt
namespace Go.Proofs.YtmaiggbljfaadaaDoor.fnExactReflection
open Go.ChangeShapes Go.WideShapes Go.ChangeAt Go.RowKit Go.Ev
set_option linter.unusedVariables false
set_option linter.unusedSimpArgs false
theorem own : ownKnob Tryd.prog.godebug = none := by kernel_rfl
theorem gV : Tryd.prog.globalNamed "loop.example/g00857/impl.vectors" = some 0 := by kernel_rfl
theorem tV : (Tryd.prog.globals[0]?).map (·.type) = some 82 := by kernel_rfl
def vecVs : List Value := [.int .i64 (1), .int .i64 (0), .int .i64 (0), .int .i64 (0), .int .i64 (0), .int .i64 (0), .int .i64 (1), .int .i64 (0), .int .i64 (0), .int .i64 (-1), .int .i64 (1), .int .i64 (0), .int .i64 (1), .int .i64 (0), .int .i64 (0), .int .i64 (1), .int .i64 (0), .int .i64 (0), .int .i64 (-1), .int .i64 (1), .int .i64 (0), .int .i64 (1), .int .i64 (0), .int .i64 (0), .int .i64 (0), .int .i64 (0), .int .i64 (0), .int .i64 (1), .int .i64 (0), .int .i64 (0), .int .i64 (1), .int .i64 (-1), .int .i64 (0), .int .i64 (1), .int .i64 (0), .int .i64 (0), .int .i64 (-1), .int .i64 (0), .int .i64 (0), .int .i64 (1), .int .i64 (0), .int .i64 (0), .int .i64 (-1), .int .i64 (0), .int .i64 (0), .int .i64 (-1), .int .i64 (1), .int .i64 (0)]
theorem cV : cellsD Tryd.prog 8 82 (Rows.laid_loop_example_g00857_impl_vectors (H := Unit)) = some vecVs := by kernel_rfl
theorem door_met (os : Os) (args : Array Value) : laidMetH Tryd.prog [("loop.example/g00857/impl.vectors", Rows.laid_loop_example_g00857_impl_vectors)] ((World.doorLaid Tryd.prog 400 os).forCall (fun _ _ => 0) ⟨#[], args, []⟩).memory :=
  laidMetH_of_parts3 (fuel := 8) (laidMet_of_run' 8 (by kernel_rfl) (by kernel_rfl)) (by kernel_rfl) (by kernel_rfl)
theorem gl_rep {W : World} (h : laidMetH Tryd.prog [("loop.example/g00857/impl.vectors", Rows.laid_loop_example_g00857_impl_vectors)] W) : ∀ g, Rep W (fun b => b < W.heap.size) (GLv g) (.pointer (some ⟨g, 0, none⟩)) := by
  intro g
  obtain ⟨h1, h2⟩ := laid_cells h (by kernel_rfl) gV tV cV
  unfold GLv
  split
  · rename_i e
    obtain rfl := Nat.eq_of_beq_eq_true e
    change Rep W (fun b => b < W.heap.size) (.eptr (vecVs.map .val)) _
    refine .eptr _ _ 0 (fun j => vecVs.getD j undef) h1 (fun j hj => ?_) (rep_list .val (fun v => .val v) vecVs)
    rw [Nat.zero_add]
    exact h2 j (by simpa using hj)
  · exact .non _
set_option maxHeartbeats 4000000 in
set_option maxRecDepth 100000 in
theorem lifted (os : Os) (started : os.Started) (H : Type) (enc : TypeId × Value → H) :
    ReturnsInHanded {} Tryd.checked os 3 .any (fun w args => (Rows.fnExactReflectionSpec.pre enc Tryd.prog Tryd.f3 [] false w args ∧ laidMetH Tryd.prog [("loop.example/g00857/impl.vectors", Rows.laid_loop_example_g00857_impl_vectors)] w) ∧ sizedMet enc Tryd.prog Tryd.f3 (OpenSpec.ofChange Rows.fnExactReflectionSpec) false w args)
      (Rows.fnExactReflectionSpec.post enc Tryd.prog Tryd.f3 false true false false) := by
  refine returnsInHanded_of_change_and (C := Tryd.checked) (X := fun w _ => laidMetH Tryd.prog [("loop.example/g00857/impl.vectors", Rows.laid_loop_example_g00857_impl_vectors)] w) (fun _ _ _ hh h => h.of_heap hh) own started (by kernel_rfl) Tryd.func3
    (ChangeSpec.witness_shaped (enc := enc) (C := Tryd.checked) (os := os) (X := fun w _ => laidMetH Tryd.prog [("loop.example/g00857/impl.vectors", Rows.laid_loop_example_g00857_impl_vectors)] w) false (World.doorLaid Tryd.prog 400 os) #[.agg #[.int .i64 0, .int .i64 0, .int .i64 0, .int .i64 0]] 8 rfl (World.shaped_of_RefB (by kernel_rfl) (by kernel_rfl)) (by kernel_rfl) (by kernel_rfl) (by kernel_rfl) (door_met os _)) ?_
  intro W base args ds gs before hval0 hW _ _ hL _
  have hval : ∀ (j : Nat) t v, Tryd.f3.params[j]? = some t → args[j]? = some v → Value.okWide Tryd.prog W .any base t v := hval0
  have hW' := hW
  obtain ⟨p, q, hA0, hV, rfl, hfz, hnd⟩ := hW
  have hA : DataW.TrodAll enc Tryd.prog W 0 (fun _ => true) true Tryd.f3.params.toList args.toList ds p := hA0
  rw [Tryd.params3] at hA hval
  obtain ⟨v0, vs0, d0, ds0, p0, q0, hargs, rfl, rfl, h0, r0⟩ := trodAll_cons hA
  obtain ⟨rfl, rfl, rfl⟩ := trodAll_nil r0
  obtain rfl : args = #[v0] := by cases args; simp_all
  obtain ⟨g0, t0, cs0, fu0, dv, pv, rfl, _, _, _, _, _⟩ := trodVars_one hV
  obtain ⟨c0, rfl, g0, rfl, b0⟩ := agg_flat (n := 5) (P := Tryd.prog) (ks := [.int .i64, .int .i64, .int .i64, .int .i64]) (by kernel_rfl) Tryd.underlying25 (hval 0 25 v0 rfl rfl) h0
  obtain ⟨x0_0, ex0_0, rfl, wx0_0, g0_1⟩ := Fits.intc g0
  obtain ⟨x0_1, ex0_1, rfl, wx0_1, g0_2⟩ := Fits.intc g0_1
  obtain ⟨x0_2, ex0_2, rfl, wx0_2, g0_3⟩ := Fits.intc g0_2
  obtain ⟨x0_3, ex0_3, rfl, wx0_3, g0_4⟩ := Fits.intc g0_3
  obtain rfl := Fits.nilc g0_4
  have hc := (m3).2 [.agg [.val (.int .i64 x0_0), .val (.int .i64 x0_1), .val (.int .i64 x0_2), .val (.int .i64 x0_3)]] (bv true) (by rfl) W (fun b => b < W.heap.size) _ (fun b h => h) (gl_rep hL) rfl (reps_cons (rep_vals [.int .i64 x0_0, .int .i64 x0_1, .int .i64 x0_2, .int .i64 x0_3]) reps_nil)
  refine hc.mono fun e W' ⟨v, he, bel, hrep⟩ => ?_
  obtain rfl : v = .bool true := by cases hrep; rfl
  subst he
  exact ⟨_, rfl, _, _, _, [], _, _, hW', trodAll_mk1 (shut_bool Tryd.underlying4 _), (trodAll_cons_mk (b0 _ _) trodAll_mk0), Below.trodVars (by kernel_rfl) bel (by kernel_rfl) hV, bel.frame _, fun h => by cases h⟩
theorem over : Rows.fnExactReflectionRow.holds Tryd.pinned (OpenSpec.ofChange Rows.fnExactReflectionSpec) :=
  OpenClaim.holds_of_wide 3 Tryd.f3 rfl rfl rfl rfl rfl rfl rfl ⟨rfl, rfl, rfl, rfl, rfl⟩ rfl rfl rfl rfl rfl (by kernel_rfl) Tryd.func3 (by kernel_rfl)
    (of_decide_eq_true (by kernel_rfl)) (by unfold Func.isWrapper; first | (rw [if_pos (by decide +kernel)]; kernel_rfl) | (rw [if_neg (by decide +kernel)]; exact ⟨rfl, rfl⟩))
    (fun os started H enc _ => lifted os started H enc)
end Go.Proofs.YtmaiggbljfaadaaDoor.fnExactReflection
namespace Go.Proofs.YtmaiggbljfaadaaDoor
theorem fnExactReflection_holds : Rows.FnExactReflectionSaid := fnExactReflection.over
theorem fnExactReflectionCard_holds : Rows.FnExactReflectionCardSaid :=
  Claim7.holds_tied_plain_at .later [] [.data] true (true, "7e1077986b7dc7face7b4434fde506bb4fb6f9328886bfd66dde49edf2d868d5") false
    fnExactReflection_holds (fun _ h => by cases h) (by kernel_rfl) (fun _ h => by cases h) fnExactReflection_row_tie rfl ⟨rfl, rfl⟩ (by kernel_rfl) rfl
    (fun f fn hf hfn => by
      obtain rfl : f = 3 := Option.some.inj ((show Tryd.prog.funcNamed "loop.example/g00857/laws.FnExactReflection" = some 3 by kernel_rfl).symm.trans hf) |>.symm
      obtain rfl : fn = Tryd.f3 := (Option.some.inj (Tryd.func3.symm.trans hfn)).symm
      exact ⟨by kernel_rfl, fun j t ht => by
        rw [Tryd.params3] at ht
        have hm : t ∈ [25] := by simpa using Array.mem_of_getElem? ht
        have hall : ([25].all fun u => !Tryd.prog.wantsStandIn u) = true := by kernel_rfl
        exact (show Tryd.prog.wantsStandIn t = false by simpa using List.all_eq_true.1 hall t hm)⟩)
    (by kernel_rfl)
#print axioms fnExactReflectionCard_holds
end Go.Proofs.YtmaiggbljfaadaaDoor
