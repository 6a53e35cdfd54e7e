/- FnMovedPolygons: the program's function gives what the reference gives, for all arguments; proved by the evaluator's contracts. -/
import Derived.Test.YtlcopddgplbdhaaGreatDoorRows
import Derived.Test.YtlcopddgplbdhaaGreatDoorTie
import Derived.Test.YtlcopddgplbdhaaGreatDoorCards
import Derived.Test.YtlcopddgplbdhaaGreatDoorV5
import Derived.Test.YtlcopddgplbdhaaGreatDoorEvDoor
import Derived.WalkKit
import Derived.ProofKit
import Derived.LaidMore
import Derived.OpenShut
import Derived.ShutString
import Derived.ChangeOld
import Derived.SizedLaws
import Derived.ChangeVars
import Derived.OpenVars
import Derived.Stop.Joined
import Derived.SevenTiedAt
import Derived.Lay
import Derived.Lib.LaidU8
import Derived.LaidOnce
namespace Go.Proofs.YtlcopddgplbdhaaGreatDoor.fnMovedPolygons
open Go.ChangeShapes Go.WideShapes Go.ChangeAt Go.RowKit Go.Ev
set_option linter.unusedVariables false
set_option linter.unusedSimpArgs false
theorem own : ownKnob Tryz.prog.godebug = none := by kernel_rfl
theorem laidOut : laidOutB Tryz.prog = true := by kernel_rfl
noncomputable def LD : List (String × DataW Unit) := [("math/bits.deBruijn32tab", Rows.laid_math_bits_deBruijn32tab), ("math/bits.deBruijn64tab", Rows.laid_math_bits_deBruijn64tab), ("internal/strconv.uint64pow10", Rows.laid_internal_strconv_uint64pow10), ("unicode/utf8.acceptRanges", Rows.laid_unicode_utf8_acceptRanges), ("strconv.ErrRange", Rows.laid_strconv_ErrRange), ("strconv.ErrSyntax", Rows.laid_strconv_ErrSyntax), ("loop.example/g00857/impl.vectors", Rows.laid_loop_example_g00857_impl_vectors), ("unicode/utf8.first", Rows.laid_unicode_utf8_first)]
theorem laid_whole {W : World} {nm : String} {d : DataW Unit} {g t : Nat} {vs : List Value} (h : laidMet Tryz.prog LD W) (hm : (nm, d) ∈ LD) (hg : Tryz.prog.globalNamed nm = some g) (ht : (Tryz.prog.globals[g]?).map (·.type) = some t) (hc : cellsD Tryz.prog 8 t d = some vs) : W.var? Tryz.prog nm = some vs.toArray := by
 obtain ⟨g0, t0, cs, fuel, p0, hg0, ht0, hv, hd⟩ := Go.Lib.laidMet.reads h hm
 obtain rfl := Option.some.inj (hg.symm.trans hg0)
 obtain rfl := Option.some.inj (ht.symm.trans ht0)
 rw [hv, <- trod_cells 8 t d vs hc fuel _ _ hd]
theorem tab_heap {W : World} {nm : String} {g : Nat} {vs : List Value} (hg : Tryz.prog.globalNamed nm = some g) (hv : W.var? Tryz.prog nm = some vs.toArray) : ∃ ty z, W.heap[g]? = some (.cells vs.toArray ty z) := by
 unfold World.var? at hv
 rw [hg] at hv
 simp only [Option.bind_some] at hv
 split at hv
 ·rename_i cs ty z e
  cases hv
  exact ⟨ty, z, e⟩
 ·cases hv
theorem tab_rep {W : World} {nm : String} {g : Nat} {vs : List Value} (hg : Tryz.prog.globalNamed nm = some g) (hv : W.var? Tryz.prog nm = some vs.toArray) : Rep W (fun b => b < W.heap.size) (.eptr (vs.map .val)) (.pointer (some ⟨g, 0, none⟩)) := by
 obtain ⟨ty, z, hh⟩ := tab_heap hg hv
 have hlt : g < W.heap.size := (Array.getElem?_eq_some_iff.1 hh).1
 refine .eptr _ _ 0 (fun j => vs.getD j undef) hlt (fun j hj => ?_) (rep_list .val (fun v => .val v) vs)
 rw [Nat.zero_add, World.var?_cell hg hv j]
 have hj' : j < vs.length := by simpa using hj
 simp [List.getD, hj']
theorem gV : Tryz.prog.globalNamed "loop.example/g00857/impl.vectors" = some 1 := by kernel_rfl
theorem tV : (Tryz.prog.globals[1]?).map (·.type) = some 172 := by kernel_rfl
def vecVs : List Value := [.int .i64 (1), .int .i64 (0), .int .i64 (0), .int .i64 (0), .int .i64 (0), .int .i64 (0), .int .i64 (1), .int .i64 (0), .int .i64 (0), .int .i64 (-1), .int .i64 (1), .int .i64 (0), .int .i64 (1), .int .i64 (0), .int .i64 (0), .int .i64 (1), .int .i64 (0), .int .i64 (0), .int .i64 (-1), .int .i64 (1), .int .i64 (0), .int .i64 (1), .int .i64 (0), .int .i64 (0), .int .i64 (0), .int .i64 (0), .int .i64 (0), .int .i64 (1), .int .i64 (0), .int .i64 (0), .int .i64 (1), .int .i64 (-1), .int .i64 (0), .int .i64 (1), .int .i64 (0), .int .i64 (0), .int .i64 (-1), .int .i64 (0), .int .i64 (0), .int .i64 (1), .int .i64 (0), .int .i64 (0), .int .i64 (-1), .int .i64 (0), .int .i64 (0), .int .i64 (-1), .int .i64 (1), .int .i64 (0)]
theorem cV : cellsD Tryz.prog 8 172 (Rows.laid_loop_example_g00857_impl_vectors (H := Unit)) = some vecVs := by kernel_rfl
theorem gW : Tryz.prog.globalNamed "internal/strconv.uint64pow10" = some 2 := by kernel_rfl
theorem tW : (Tryz.prog.globals[2]?).map (·.type) = some 185 := by kernel_rfl
def wordVs : List Value := [.int .u64 (1), .int .u64 (10), .int .u64 (100), .int .u64 (1000), .int .u64 (10000), .int .u64 (100000), .int .u64 (1000000), .int .u64 (10000000), .int .u64 (100000000), .int .u64 (1000000000), .int .u64 (10000000000), .int .u64 (100000000000), .int .u64 (1000000000000), .int .u64 (10000000000000), .int .u64 (100000000000000), .int .u64 (1000000000000000), .int .u64 (10000000000000000), .int .u64 (100000000000000000), .int .u64 (1000000000000000000), .int .u64 (10000000000000000000)]
theorem cW : cellsD Tryz.prog 8 185 (Rows.laid_internal_strconv_uint64pow10 (H := Unit)) = some wordVs := by kernel_rfl
theorem gl_ok {W : World} (h : laidMet Tryz.prog LD W) : GOk W (fun b => b < W.heap.size) GLv := by
 have hv := laid_whole h (nm := "loop.example/g00857/impl.vectors") (d := Rows.laid_loop_example_g00857_impl_vectors) (by simp [LD]) gV tV cV
 have hw := laid_whole h (nm := "internal/strconv.uint64pow10") (d := Rows.laid_internal_strconv_uint64pow10) (by simp [LD]) gW tW cW
 constructor
 ·intro g
  unfold GLv
  split
  ·rename_i e
   obtain rfl := Nat.eq_of_beq_eq_true e
   exact tab_rep gV hv
  ·split
   ·rename_i e
    obtain rfl := Nat.eq_of_beq_eq_true e
    exact tab_rep gW hw
   ·exact .non _
 ·intro g c e
  unfold GLv at e
  split at e
  ·rename_i e0
   obtain rfl := Nat.eq_of_beq_eq_true e0
   cases e
   obtain ⟨_, _, hh⟩ := tab_heap gV hv
   exact ⟨_, _, _, hh, rfl⟩
  ·split at e
   ·rename_i e0
    obtain rfl := Nat.eq_of_beq_eq_true e0
    cases e
    obtain ⟨_, _, hh⟩ := tab_heap gW hw
    exact ⟨_, _, _, hh, rfl⟩
   ·cases e
set_option maxHeartbeats 4000000 in
set_option maxRecDepth 100000 in
theorem lifted (os : Os) (started : os.Started) (H : Type) (enc : TypeId × Value -> H) :
  ReturnsInHanded {} Tryz.checked os 3 .any (fun w args => (Rows.fnMovedPolygonsSpec.pre enc Tryz.prog Tryz.f3 [] false w args /\ laidMetH Tryz.prog LD w) /\ sizedMet enc Tryz.prog Tryz.f3 (OpenSpec.ofChange Rows.fnMovedPolygonsSpec) false w args)
   (Rows.fnMovedPolygonsSpec.post enc Tryz.prog Tryz.f3 false true false false) := by
 refine returnsInHanded_of_change_and (C := Tryz.checked) (X := fun w _ => laidMetH Tryz.prog LD w) (fun _ _ _ hh h => h.of_heap hh) own started (by kernel_rfl) Tryz.func3
  (ChangeSpec.witness_shaped (enc := enc) (C := Tryz.checked) (os := os) (X := fun w _ => laidMetH Tryz.prog LD w) false (World.laidAll Tryz.prog os LD) #[.slice none 0 0, .slice none 0 0] 8 (World.laidAll_os _ _ _)
   (World.shaped_of_ZipB (by kernel_rfl) (by kernel_rfl)) (by kernel_rfl) (by kernel_rfl) (by kernel_rfl)
   (by rw [MakeChecks.laidMetH_plain _ _ _ (by kernel_rfl)]; exact laidMet_laidAll _ (by kernel_rfl) (by kernel_rfl))) ?_
 intro W base args ds gs before hval0 hW _ _ hL _
 rw [MakeChecks.laidMetH_plain _ _ _ (by kernel_rfl)] at hL
 have hval : ∀ (j : Nat) t v, Tryz.f3.params[j]? = some t -> args[j]? = some v -> Value.okWide Tryz.prog W .any base t v := hval0
 have hW' := hW
 obtain ⟨p, q, hA0, hV, rfl, hfz, hnd⟩ := hW
 have hA : DataW.TrodAll enc Tryz.prog W 0 (fun _ => true) true Tryz.f3.params.toList args.toList ds p := hA0
 rw [Tryz.params3] at hA hval
 obtain ⟨v0, vs0, d0, ds0, p0, q0, hargs, rfl, rfl, h0, r0⟩ := trodAll_cons hA
 obtain ⟨v1, vs1, d1, ds1, p1, q1, rfl, rfl, rfl, h1, r1⟩ := trodAll_cons r0
 obtain ⟨rfl, rfl, rfl⟩ := trodAll_nil r1
 obtain rfl : args = #[v0, v1] := by cases args; simp_all
 obtain ⟨g0, t0, cs0, fu0, dv, pv, rfl, _, _, _, _, _⟩ := trodVars_one hV
 obtain ⟨n0, c0, hn0, rp0⟩ := open_arr Tryz.underlying22 Tryz.underlying5 (by kernel_rfl) (hval 0 22 v0 rfl rfl) h0
 obtain ⟨n1, c1, hn1, rp1⟩ := open_arr Tryz.underlying22 Tryz.underlying5 (by kernel_rfl) (hval 1 22 v1 rfl rfl) h1
 have hc := (m3).plain [.arr n0 [.int .u8] c0, .arr n1 [.int .u8] c1] (bv true) ⟨rfl, rfl⟩ (by rfl) W (fun b => b < W.heap.size) _ (fun b h => h) (gl_ok hL) rfl (reps_cons rp0 (reps_cons rp1 reps_nil))
 refine hc.mono fun e W' ⟨v, he, bel, hrep⟩ => ?_
 obtain rfl : v = .bool true := by cases hrep; rfl
 subst he
 exact ⟨_, rfl, _, _, _, [], _, _, hW', trodAll_mk1 (shut_bool Tryz.underlying4 _), (trodAll_cons_mk (Below.trod laidOut (by kernel_rfl) (of_decide_eq_true (by kernel_rfl)) h0 bel fun x hx => by simpa using hW'.lt x (by simp [hx])) (trodAll_cons_mk (Below.trod laidOut (by kernel_rfl) (of_decide_eq_true (by kernel_rfl)) h1 bel fun x hx => by simpa using hW'.lt x (by simp [hx])) trodAll_mk0)), Below.trodVars (by kernel_rfl) bel (by kernel_rfl) hV, bel.frame _, fun h => by cases h⟩
theorem over : Rows.fnMovedPolygonsRow.holds Tryz.pinned (OpenSpec.ofChange Rows.fnMovedPolygonsSpec) :=
 OpenClaim.holds_of_wide 3 Tryz.f3 rfl rfl rfl rfl rfl rfl rfl ⟨rfl, rfl, rfl, rfl, rfl⟩ rfl rfl rfl rfl rfl (by kernel_rfl) Tryz.func3 (by kernel_rfl)
  (of_decide_eq_true (by kernel_rfl)) (by unfold Func.isWrapper; first | (rw [if_pos (by decide +kernel)]; kernel_rfl) | (rw [if_neg (by decide +kernel)]; exact ⟨rfl, rfl⟩))
  (fun os started H enc _ => lifted os started H enc)
end Go.Proofs.YtlcopddgplbdhaaGreatDoor.fnMovedPolygons
namespace Go.Proofs.YtlcopddgplbdhaaGreatDoor
theorem fnMovedPolygons_holds : Rows.FnMovedPolygonsSaid := fnMovedPolygons.over
theorem fnMovedPolygonsCard_holds : Rows.FnMovedPolygonsCardSaid :=
 Claim7.holds_tied_plain_at .later [] [.data, .data, .data, .data, .sentinel, .sentinel, .data, .pinned] true (true, "74b021ef917511c37fbdd495446834e51428d31c417174be4254eb25de90aeed") true
  fnMovedPolygons_holds (fun _ h => by cases h) (by kernel_rfl) (fun _ h => by cases h) fnMovedPolygons_row_tie rfl ⟨rfl, rfl⟩ (by kernel_rfl) rfl
  (fun f fn hf hfn => by
   obtain rfl : f = 3 := Option.some.inj ((show Tryz.prog.funcNamed "loop.example/g00857/laws.FnMovedPolygons" = some 3 by kernel_rfl).symm.trans hf) |>.symm
   obtain rfl : fn = Tryz.f3 := (Option.some.inj (Tryz.func3.symm.trans hfn)).symm
   exact ⟨by kernel_rfl, fun j t ht => by
    rw [Tryz.params3] at ht
    have hm : t ∈ [22, 22] := by simpa using Array.mem_of_getElem? ht
    have hall : ([22, 22].all fun u => !Tryz.prog.wantsStandIn u) = true := by kernel_rfl
    exact (show Tryz.prog.wantsStandIn t = false by simpa using List.all_eq_true.1 hall t hm)⟩)
  (by kernel_rfl)
#print axioms fnMovedPolygonsCard_holds
end Go.Proofs.YtlcopddgplbdhaaGreatDoor
