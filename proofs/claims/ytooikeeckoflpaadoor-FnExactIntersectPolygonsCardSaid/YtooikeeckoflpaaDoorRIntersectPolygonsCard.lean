/- FnExactIntersectPolygons: the program's function gives what the reference gives, for all arguments; proved by the evaluator's contracts. -/
import Derived.Test.YtooikeeckoflpaaDoorRows
import Derived.Test.YtooikeeckoflpaaDoorTie
import Derived.Test.YtooikeeckoflpaaDoorCards
import Derived.Test.YtooikeeckoflpaaDoorD7
import Derived.Test.YtooikeeckoflpaaDoorEvDoor
import Derived.WalkKit
import Derived.ProofKit
import Derived.LaidMore
import Derived.OpenShut
import Derived.ShutString
import Derived.ChangeOld
import Derived.SizedLaws
import Derived.ChangeVars
import Derived.OpenVars
import Derived.Stop.Joined
import Derived.SevenTiedAt
namespace Go.Proofs.YtooikeeckoflpaaDoor.fnExactIntersectPolygons
open Go.ChangeShapes Go.WideShapes Go.ChangeAt Go.RowKit Go.Ev
set_option linter.unusedVariables false
set_option linter.unusedSimpArgs false
theorem own : ownKnob Tryd.prog.godebug = none := by kernel_rfl
theorem laidOut : laidOutB Tryd.prog = true := by kernel_rfl
theorem gV : Tryd.prog.globalNamed "loop.example/g00857/impl.vectors" = some 0 := by kernel_rfl
theorem tV : (Tryd.prog.globals[0]?).map (·.type) = some 142 := by kernel_rfl
def vecVs : List Value := [.int .i64 (1), .int .i64 (0), .int .i64 (0), .int .i64 (0), .int .i64 (0), .int .i64 (0), .int .i64 (1), .int .i64 (0), .int .i64 (0), .int .i64 (-1), .int .i64 (1), .int .i64 (0), .int .i64 (1), .int .i64 (0), .int .i64 (0), .int .i64 (1), .int .i64 (0), .int .i64 (0), .int .i64 (-1), .int .i64 (1), .int .i64 (0), .int .i64 (1), .int .i64 (0), .int .i64 (0), .int .i64 (0), .int .i64 (0), .int .i64 (0), .int .i64 (1), .int .i64 (0), .int .i64 (0), .int .i64 (1), .int .i64 (-1), .int .i64 (0), .int .i64 (1), .int .i64 (0), .int .i64 (0), .int .i64 (-1), .int .i64 (0), .int .i64 (0), .int .i64 (1), .int .i64 (0), .int .i64 (0), .int .i64 (-1), .int .i64 (0), .int .i64 (0), .int .i64 (-1), .int .i64 (1), .int .i64 (0)]
theorem cV : cellsD Tryd.prog 8 142 (Rows.laid_loop_example_g00857_impl_vectors (H := Unit)) = some vecVs := by kernel_rfl
theorem door_met (os : Os) (args : Array Value) : laidMetH Tryd.prog [("loop.example/g00857/impl.vectors", Rows.laid_loop_example_g00857_impl_vectors)] ((World.doorLaid Tryd.prog 400 os).forCall (fun _ _ => 0) ⟨#[], args, []⟩).memory :=
  laidMetH_of_parts3 (fuel := 8) (laidMet_of_run' 8 (by kernel_rfl) (by kernel_rfl)) (by kernel_rfl) (by kernel_rfl)
theorem gl_rep {W : World} (h : laidMetH Tryd.prog [("loop.example/g00857/impl.vectors", Rows.laid_loop_example_g00857_impl_vectors)] W) : ∀ g, Rep W (fun b => b < W.heap.size) (GLv g) (.pointer (some ⟨g, 0, none⟩)) := by
  intro g
  obtain ⟨h1, h2⟩ := laid_cells h (by kernel_rfl) gV tV cV
  unfold GLv
  split
  · rename_i e
    obtain rfl := Nat.eq_of_beq_eq_true e
    change Rep W (fun b => b < W.heap.size) (.eptr (vecVs.map .val)) _
    refine .eptr _ _ 0 (fun j => vecVs.getD j undef) h1 (fun j hj => ?_) (rep_list .val (fun v => .val v) vecVs)
    rw [Nat.zero_add]
    exact h2 j (by simpa using hj)
  · exact .non _
set_option maxHeartbeats 4000000 in
set_option maxRecDepth 100000 in
theorem lifted (os : Os) (started : os.Started) (H : Type) (enc : TypeId × Value → H) :
    ReturnsInHanded {} Tryd.checked os 6 .any (fun w args => (Rows.fnExactIntersectPolygonsSpec.pre enc Tryd.prog Tryd.f6 [] false w args ∧ laidMetH Tryd.prog [("loop.example/g00857/impl.vectors", Rows.laid_loop_example_g00857_impl_vectors)] w) ∧ sizedMet enc Tryd.prog Tryd.f6 (OpenSpec.ofChange Rows.fnExactIntersectPolygonsSpec) false w args)
      (Rows.fnExactIntersectPolygonsSpec.post enc Tryd.prog Tryd.f6 false true false false) := by
  refine returnsInHanded_of_change_and (C := Tryd.checked) (X := fun w _ => laidMetH Tryd.prog [("loop.example/g00857/impl.vectors", Rows.laid_loop_example_g00857_impl_vectors)] w) (fun _ _ _ hh h => h.of_heap hh) own started (by kernel_rfl) Tryd.func6
    (ChangeSpec.witness_shaped (enc := enc) (C := Tryd.checked) (os := os) (X := fun w _ => laidMetH Tryd.prog [("loop.example/g00857/impl.vectors", Rows.laid_loop_example_g00857_impl_vectors)] w) false (World.doorLaid Tryd.prog 400 os) #[.slice none 0 0, .slice none 0 0] 8 rfl (World.shaped_of_RefB (by kernel_rfl) (by kernel_rfl)) (by kernel_rfl) (by kernel_rfl) (by kernel_rfl) (door_met os _)) ?_
  intro W base args ds gs before hval0 hW _ _ hL _
  have hval : ∀ (j : Nat) t v, Tryd.f6.params[j]? = some t → args[j]? = some v → Value.okWide Tryd.prog W .any base t v := hval0
  have hW' := hW
  obtain ⟨p, q, hA0, hV, rfl, hfz, hnd⟩ := hW
  have hA : DataW.TrodAll enc Tryd.prog W 0 (fun _ => true) true Tryd.f6.params.toList args.toList ds p := hA0
  rw [Tryd.params6] at hA hval
  obtain ⟨v0, vs0, d0, ds0, p0, q0, hargs, rfl, rfl, h0, r0⟩ := trodAll_cons hA
  obtain ⟨v1, vs1, d1, ds1, p1, q1, rfl, rfl, rfl, h1, r1⟩ := trodAll_cons r0
  obtain ⟨rfl, rfl, rfl⟩ := trodAll_nil r1
  obtain rfl : args = #[v0, v1] := by cases args; simp_all
  obtain ⟨g0, t0, cs0, fu0, dv, pv, rfl, _, _, _, _, _⟩ := trodVars_one hV
  obtain ⟨n0, c0, hn0, rp0, rr0⟩ := open_rows (n0 := 5) (lk := [.int .i64, .int .i64, .int .i64, .int .i64, .int .i64, .int .i64]) (ks := [.int .i64, .int .i64, .int .i64, .int .i64, .int .i64, .int .i64]) Tryd.underlying22 (show flatK Tryd.prog 5 65 = _ by kernel_rfl) (by kernel_rfl) (by kernel_rfl) (by kernel_rfl) (hval 0 22 v0 rfl rfl) h0
  obtain ⟨n1, c1, hn1, rp1, rr1⟩ := open_rows (n0 := 5) (lk := [.int .i64, .int .i64, .int .i64, .int .i64, .int .i64, .int .i64]) (ks := [.int .i64, .int .i64, .int .i64, .int .i64, .int .i64, .int .i64]) Tryd.underlying22 (show flatK Tryd.prog 5 65 = _ by kernel_rfl) (by kernel_rfl) (by kernel_rfl) (by kernel_rfl) (hval 1 22 v1 rfl rfl) h1
  have hc := (m6).plain [.arr n0 [.int .i64, .int .i64, .int .i64, .int .i64, .int .i64, .int .i64] c0, .arr n1 [.int .i64, .int .i64, .int .i64, .int .i64, .int .i64, .int .i64] c1] (bv true) ⟨rfl, rfl⟩ (by exact congrArg (fun b => some (b, bv true)) ((Bool.and_eq_true _ _).mpr ⟨Nat.ble_eq_true_of_le (Nat.le_trans hn0 (by decide)), Nat.ble_eq_true_of_le (Nat.le_trans hn1 (by decide))⟩)) W (fun b => b < W.heap.size) _ (fun b h => h) (gl_rep hL) rfl (reps_cons rp0 (reps_cons rp1 reps_nil))
  refine hc.mono fun e W' ⟨v, he, bel, hrep⟩ => ?_
  obtain rfl : v = .bool true := by cases hrep; rfl
  subst he
  exact ⟨_, rfl, _, _, _, [], _, _, hW', trodAll_mk1 (shut_bool Tryd.underlying4 _), (trodAll_cons_mk (Below.trod laidOut (by kernel_rfl) (of_decide_eq_true (by kernel_rfl)) h0 bel fun x hx => by simpa using hW'.lt x (by simp [hx])) (trodAll_cons_mk (Below.trod laidOut (by kernel_rfl) (of_decide_eq_true (by kernel_rfl)) h1 bel fun x hx => by simpa using hW'.lt x (by simp [hx])) trodAll_mk0)), Below.trodVars (by kernel_rfl) bel (by kernel_rfl) hV, bel.frame _, fun h => by cases h⟩
theorem over : Rows.fnExactIntersectPolygonsRow.holds Tryd.pinned (OpenSpec.ofChange Rows.fnExactIntersectPolygonsSpec) :=
  OpenClaim.holds_of_wide 6 Tryd.f6 rfl rfl rfl rfl rfl rfl rfl ⟨rfl, rfl, rfl, rfl, rfl⟩ rfl rfl rfl rfl rfl (by kernel_rfl) Tryd.func6 (by kernel_rfl)
    (of_decide_eq_true (by kernel_rfl)) (by unfold Func.isWrapper; first | (rw [if_pos (by decide +kernel)]; kernel_rfl) | (rw [if_neg (by decide +kernel)]; exact ⟨rfl, rfl⟩))
    (fun os started H enc _ => lifted os started H enc)
end Go.Proofs.YtooikeeckoflpaaDoor.fnExactIntersectPolygons
namespace Go.Proofs.YtooikeeckoflpaaDoor
theorem fnExactIntersectPolygons_holds : Rows.FnExactIntersectPolygonsSaid := fnExactIntersectPolygons.over
theorem fnExactIntersectPolygonsCard_holds : Rows.FnExactIntersectPolygonsCardSaid :=
  Claim7.holds_tied_plain_at .later [] [.data] true (true, "58b5306dc5e2e3a246d8590f3e84c873bdf737871d08f670cf38a5c74d4d4d30") false
    fnExactIntersectPolygons_holds (fun _ h => by cases h) (by kernel_rfl) (fun _ h => by cases h) fnExactIntersectPolygons_row_tie rfl ⟨rfl, rfl⟩ (by kernel_rfl) rfl
    (fun f fn hf hfn => by
      obtain rfl : f = 6 := Option.some.inj ((show Tryd.prog.funcNamed "loop.example/g00857/laws.FnExactIntersectPolygons" = some 6 by kernel_rfl).symm.trans hf) |>.symm
      obtain rfl : fn = Tryd.f6 := (Option.some.inj (Tryd.func6.symm.trans hfn)).symm
      exact ⟨by kernel_rfl, fun j t ht => by
        rw [Tryd.params6] at ht
        have hm : t ∈ [22, 22] := by simpa using Array.mem_of_getElem? ht
        have hall : ([22, 22].all fun u => !Tryd.prog.wantsStandIn u) = true := by kernel_rfl
        exact (show Tryd.prog.wantsStandIn t = false by simpa using List.all_eq_true.1 hall t hm)⟩)
    (by kernel_rfl)
#print axioms fnExactIntersectPolygonsCard_holds
end Go.Proofs.YtooikeeckoflpaaDoor
