/- FnIntersect: the program's function gives what the reference gives, for all arguments; proved by the evaluator's contracts. -/
import Derived.Test.YtdildcdilhgdkaaGreatDoorRows
import Derived.Test.YtdildcdilhgdkaaGreatDoorTie
import Derived.Test.YtdildcdilhgdkaaGreatDoorCards
import Derived.Test.YtdildcdilhgdkaaGreatDoorI5
import Derived.Test.YtdildcdilhgdkaaGreatDoorEvDoor
import Derived.WalkKit
import Derived.ProofKit
import Derived.LaidMore
import Derived.OpenShut
import Derived.ShutString
import Derived.ChangeOld
import Derived.SizedLaws
import Derived.ChangeVars
import Derived.OpenVars
import Derived.Stop.Joined
import Derived.SevenTiedAt
namespace Go.Proofs.YtdildcdilhgdkaaGreatDoor.fnIntersect
open Go.ChangeShapes Go.WideShapes Go.ChangeAt Go.RowKit Go.Ev
set_option linter.unusedVariables false
set_option linter.unusedSimpArgs false
theorem own : ownKnob Tryz.prog.godebug = none := by kernel_rfl
theorem laidOut : laidOutB Tryz.prog = true := by kernel_rfl
theorem gV : Tryz.prog.globalNamed "loop.example/g00857/impl.vectors" = some 0 := by kernel_rfl
theorem tV : (Tryz.prog.globals[0]?).map (·.type) = some 132 := by kernel_rfl
def vecVs : List Value := [.int .i64 (1), .int .i64 (0), .int .i64 (0), .int .i64 (0), .int .i64 (0), .int .i64 (0), .int .i64 (1), .int .i64 (0), .int .i64 (0), .int .i64 (-1), .int .i64 (1), .int .i64 (0), .int .i64 (1), .int .i64 (0), .int .i64 (0), .int .i64 (1), .int .i64 (0), .int .i64 (0), .int .i64 (-1), .int .i64 (1), .int .i64 (0), .int .i64 (1), .int .i64 (0), .int .i64 (0), .int .i64 (0), .int .i64 (0), .int .i64 (0), .int .i64 (1), .int .i64 (0), .int .i64 (0), .int .i64 (1), .int .i64 (-1), .int .i64 (0), .int .i64 (1), .int .i64 (0), .int .i64 (0), .int .i64 (-1), .int .i64 (0), .int .i64 (0), .int .i64 (1), .int .i64 (0), .int .i64 (0), .int .i64 (-1), .int .i64 (0), .int .i64 (0), .int .i64 (-1), .int .i64 (1), .int .i64 (0)]
theorem cV : cellsD Tryz.prog 8 132 (Rows.laid_loop_example_g00857_impl_vectors (H := Unit)) = some vecVs := by kernel_rfl
theorem door_met (os : Os) (args : Array Value) : laidMetH Tryz.prog [("loop.example/g00857/impl.vectors", Rows.laid_loop_example_g00857_impl_vectors)] ((World.doorLaid Tryz.prog 400 os).forCall (fun _ _ => 0) ⟨#[], args, []⟩).memory :=
  laidMetH_of_parts3 (fuel := 8) (laidMet_of_run' 8 (by kernel_rfl) (by kernel_rfl)) (by kernel_rfl) (by kernel_rfl)
theorem gl_rep {W : World} (h : laidMetH Tryz.prog [("loop.example/g00857/impl.vectors", Rows.laid_loop_example_g00857_impl_vectors)] W) : ∀ g, Rep W (fun b => b < W.heap.size) (GLv g) (.pointer (some ⟨g, 0, none⟩)) := by
  intro g
  obtain ⟨h1, h2⟩ := laid_cells h (by kernel_rfl) gV tV cV
  unfold GLv
  split
  . rename_i e
    obtain rfl := Nat.eq_of_beq_eq_true e
    change Rep W (fun b => b < W.heap.size) (.eptr (vecVs.map .val)) _
    refine .eptr _ _ 0 (fun j => vecVs.getD j undef) h1 (fun j hj => ?_) (rep_list .val (fun v => .val v) vecVs)
    rw [Nat.zero_add]
    exact h2 j (by simpa using hj)
  . exact .non _
set_option maxHeartbeats 4000000 in
set_option maxRecDepth 100000 in
theorem lifted (os : Os) (started : os.Started) (H : Type) (enc : TypeId × Value -> H) :
    ReturnsInHanded {} Tryz.checked os 4 .any (fun w args => (Rows.fnIntersectSpec.pre enc Tryz.prog Tryz.f4 [] false w args /\ laidMetH Tryz.prog [("loop.example/g00857/impl.vectors", Rows.laid_loop_example_g00857_impl_vectors)] w) /\ sizedMet enc Tryz.prog Tryz.f4 (OpenSpec.ofChange Rows.fnIntersectSpec) false w args)
      (Rows.fnIntersectSpec.post enc Tryz.prog Tryz.f4 false true false false) := by
  refine returnsInHanded_of_change_and (C := Tryz.checked) (X := fun w _ => laidMetH Tryz.prog [("loop.example/g00857/impl.vectors", Rows.laid_loop_example_g00857_impl_vectors)] w) (fun _ _ _ hh h => h.of_heap hh) own started (by kernel_rfl) Tryz.func4
    (ChangeSpec.witness_shaped (enc := enc) (C := Tryz.checked) (os := os) (X := fun w _ => laidMetH Tryz.prog [("loop.example/g00857/impl.vectors", Rows.laid_loop_example_g00857_impl_vectors)] w) false (World.doorLaid Tryz.prog 400 os) #[.slice none 0 0, .slice none 0 0] 8 rfl (World.shaped_of_RefB (by kernel_rfl) (by kernel_rfl)) (by kernel_rfl) (by kernel_rfl) (by kernel_rfl) (door_met os _)) ?_
  intro W base args ds gs before hval0 hW _ _ hL _
  have hval : ∀ (j : Nat) t v, Tryz.f4.params[j]? = some t -> args[j]? = some v -> Value.okWide Tryz.prog W .any base t v := hval0
  have hW' := hW
  obtain ⟨p, q, hA0, hV, rfl, hfz, hnd⟩ := hW
  have hA : DataW.TrodAll enc Tryz.prog W 0 (fun _ => true) true Tryz.f4.params.toList args.toList ds p := hA0
  rw [Tryz.params4] at hA hval
  obtain ⟨v0, vs0, d0, ds0, p0, q0, hargs, rfl, rfl, h0, r0⟩ := trodAll_cons hA
  obtain ⟨v1, vs1, d1, ds1, p1, q1, rfl, rfl, rfl, h1, r1⟩ := trodAll_cons r0
  obtain ⟨rfl, rfl, rfl⟩ := trodAll_nil r1
  obtain rfl : args = #[v0, v1] := by cases args; simp_all
  obtain ⟨g0, t0, cs0, fu0, dv, pv, rfl, _, _, _, _, _⟩ := trodVars_one hV
  obtain ⟨n0, c0, hn0, rp0⟩ := open_arr Tryz.underlying22 Tryz.underlying5 (by kernel_rfl) (hval 0 22 v0 rfl rfl) h0
  obtain ⟨n1, c1, hn1, rp1⟩ := open_arr Tryz.underlying22 Tryz.underlying5 (by kernel_rfl) (hval 1 22 v1 rfl rfl) h1
  have hc := (m4).plain [.arr n0 [.int .u8] c0, .arr n1 [.int .u8] c1] (bv true) ⟨rfl, rfl⟩ (by rfl) W (fun b => b < W.heap.size) _ (fun b h => h) (gl_rep hL) rfl (reps_cons rp0 (reps_cons rp1 reps_nil))
  refine hc.mono fun e W' ⟨v, he, bel, hrep⟩ => ?_
  obtain rfl : v = .bool true := by cases hrep; rfl
  subst he
  exact ⟨_, rfl, _, _, _, [], _, _, hW', trodAll_mk1 (shut_bool Tryz.underlying4 _), (trodAll_cons_mk (Below.trod laidOut (by kernel_rfl) (of_decide_eq_true (by kernel_rfl)) h0 bel fun x hx => by simpa using hW'.lt x (by simp [hx])) (trodAll_cons_mk (Below.trod laidOut (by kernel_rfl) (of_decide_eq_true (by kernel_rfl)) h1 bel fun x hx => by simpa using hW'.lt x (by simp [hx])) trodAll_mk0)), Below.trodVars (by kernel_rfl) bel (by kernel_rfl) hV, bel.frame _, fun h => by cases h⟩
theorem over : Rows.fnIntersectRow.holds Tryz.pinned (OpenSpec.ofChange Rows.fnIntersectSpec) :=
  OpenClaim.holds_of_wide 4 Tryz.f4 rfl rfl rfl rfl rfl rfl rfl ⟨rfl, rfl, rfl, rfl, rfl⟩ rfl rfl rfl rfl rfl (by kernel_rfl) Tryz.func4 (by kernel_rfl)
    (of_decide_eq_true (by kernel_rfl)) (by unfold Func.isWrapper; first | (rw [if_pos (by decide +kernel)]; kernel_rfl) | (rw [if_neg (by decide +kernel)]; exact ⟨rfl, rfl⟩))
    (fun os started H enc _ => lifted os started H enc)
end Go.Proofs.YtdildcdilhgdkaaGreatDoor.fnIntersect
namespace Go.Proofs.YtdildcdilhgdkaaGreatDoor
theorem fnIntersect_holds : Rows.FnIntersectSaid := fnIntersect.over
theorem fnIntersectCard_holds : Rows.FnIntersectCardSaid :=
  Claim7.holds_tied_plain_at .later [] [.data] true (true, "51ed81b57d5389e32e4fff1f15cadf41572abbeb4ae45c95fb38c6063286d04e") false
    fnIntersect_holds (fun _ h => by cases h) (by kernel_rfl) (fun _ h => by cases h) fnIntersect_row_tie rfl ⟨rfl, rfl⟩ (by kernel_rfl) rfl
    (fun f fn hf hfn => by
      obtain rfl : f = 4 := Option.some.inj ((show Tryz.prog.funcNamed "loop.example/g00857/laws.FnIntersect" = some 4 by kernel_rfl).symm.trans hf) |>.symm
      obtain rfl : fn = Tryz.f4 := (Option.some.inj (Tryz.func4.symm.trans hfn)).symm
      exact ⟨by kernel_rfl, fun j t ht => by
        rw [Tryz.params4] at ht
        have hm : t ∈ [22, 22] := by simpa using Array.mem_of_getElem? ht
        have hall : ([22, 22].all fun u => !Tryz.prog.wantsStandIn u) = true := by kernel_rfl
        exact (show Tryz.prog.wantsStandIn t = false by simpa using List.all_eq_true.1 hall t hm)⟩)
    (by kernel_rfl)
#print axioms fnIntersectCard_holds
end Go.Proofs.YtdildcdilhgdkaaGreatDoor
