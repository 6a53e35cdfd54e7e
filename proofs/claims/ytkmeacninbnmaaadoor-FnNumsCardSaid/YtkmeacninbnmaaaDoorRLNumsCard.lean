/- FnNums: the law holds for all arguments, where the listed tables hold what the program's text lays; proved by the evaluator's contracts. -/
import Derived.Test.YtkmeacninbnmaaaDoorRows
import Derived.Test.YtkmeacninbnmaaaDoorTie
import Derived.Test.YtkmeacninbnmaaaDoorCards
import Derived.Test.YtkmeacninbnmaaaDoorT7
import Derived.Test.YtkmeacninbnmaaaDoorEvDoor
import Derived.WalkKit
import Derived.ProofKit
import Derived.LaidMore
import Derived.OpenShut
import Derived.ShutString
import Derived.ChangeOld
import Derived.SizedLaws
import Derived.ChangeVars
import Derived.OpenVars
import Derived.Stop.Joined
import Derived.SevenTiedAt
import Derived.Lay
import Derived.Lib.LaidU8
import Derived.LaidOnce
namespace Go.Proofs.YtkmeacninbnmaaaDoor.fnNums
open Go.ChangeShapes Go.WideShapes Go.ChangeAt Go.RowKit Go.Ev
set_option linter.unusedVariables false
set_option linter.unusedSimpArgs false
theorem own : ownKnob Tryd.prog.godebug = none := by kernel_rfl
theorem laidOut : laidOutB Tryd.prog = true := by kernel_rfl
noncomputable def LD : List (String × DataW Unit) := [("math/bits.deBruijn32tab", Rows.laid_math_bits_deBruijn32tab), ("math/bits.deBruijn64tab", Rows.laid_math_bits_deBruijn64tab), ("internal/strconv.uint64pow10", Rows.laid_internal_strconv_uint64pow10), ("unicode/utf8.acceptRanges", Rows.laid_unicode_utf8_acceptRanges), ("strconv.ErrRange", Rows.laid_strconv_ErrRange), ("strconv.ErrSyntax", Rows.laid_strconv_ErrSyntax), ("unicode/utf8.first", Rows.laid_unicode_utf8_first)]
theorem laid_whole {W : World} {nm : String} {d : DataW Unit} {g t : Nat} {vs : List Value} (h : laidMet Tryd.prog LD W) (hm : (nm, d) ∈ LD) (hg : Tryd.prog.globalNamed nm = some g) (ht : (Tryd.prog.globals[g]?).map (·.type) = some t) (hc : cellsD Tryd.prog 8 t d = some vs) : W.var? Tryd.prog nm = some vs.toArray := by
  obtain ⟨g0, t0, cs, fuel, p0, hg0, ht0, hv, hd⟩ := Go.Lib.laidMet.reads h hm
  obtain rfl := Option.some.inj (hg.symm.trans hg0)
  obtain rfl := Option.some.inj (ht.symm.trans ht0)
  rw [hv, ← trod_cells 8 t d vs hc fuel _ _ hd]
theorem gV : Tryd.prog.globalNamed "internal/strconv.uint64pow10" = some 4 := by kernel_rfl
theorem tV : (Tryd.prog.globals[4]?).map (·.type) = some 155 := by kernel_rfl
def vecVs : List Value := [.int .u64 (1), .int .u64 (10), .int .u64 (100), .int .u64 (1000), .int .u64 (10000), .int .u64 (100000), .int .u64 (1000000), .int .u64 (10000000), .int .u64 (100000000), .int .u64 (1000000000), .int .u64 (10000000000), .int .u64 (100000000000), .int .u64 (1000000000000), .int .u64 (10000000000000), .int .u64 (100000000000000), .int .u64 (1000000000000000), .int .u64 (10000000000000000), .int .u64 (100000000000000000), .int .u64 (1000000000000000000), .int .u64 (10000000000000000000)]
theorem cV : cellsD Tryd.prog 8 155 (Rows.laid_internal_strconv_uint64pow10 (H := Unit)) = some vecVs := by kernel_rfl
theorem gl_ok {W : World} (h : laidMet Tryd.prog LD W) : GOk W (fun b => b < W.heap.size) GLv := by
  have hv := laid_whole h (nm := "internal/strconv.uint64pow10") (d := Rows.laid_internal_strconv_uint64pow10) (by simp [LD]) gV tV cV
  obtain ⟨ty, z, hh⟩ : ∃ ty z, W.heap[4]? = some (.cells vecVs.toArray ty z) := by
    unfold World.var? at hv
    rw [gV] at hv
    simp only [Option.bind_some] at hv
    split at hv
    · rename_i cs ty z e
      cases hv
      exact ⟨ty, z, e⟩
    · cases hv
  have hlt : 4 < W.heap.size := (Array.getElem?_eq_some_iff.1 hh).1
  constructor
  · intro g
    unfold GLv
    split
    · rename_i e
      obtain rfl := Nat.eq_of_beq_eq_true e
      change Rep W (fun b => b < W.heap.size) (.eptr (vecVs.map .val)) _
      refine .eptr _ _ 0 (fun j => vecVs.getD j undef) hlt (fun j hj => ?_) (rep_list .val (fun v => .val v) vecVs)
      rw [Nat.zero_add, World.var?_cell gV hv j]
      have hj' : j < vecVs.length := by simpa using hj
      simp [List.getD, hj']
    · exact .non _
  · intro g c e
    unfold GLv at e
    split at e
    · rename_i e0
      obtain rfl := Nat.eq_of_beq_eq_true e0
      cases e
      exact ⟨_, _, _, hh, rfl⟩
    · cases e
set_option maxHeartbeats 4000000 in
set_option maxRecDepth 100000 in
theorem lifted (os : Os) (started : os.Started) (H : Type) (enc : TypeId × Value → H) :
    ReturnsInHanded {} Tryd.checked os 4 .any (fun w args => (Rows.fnNumsSpec.pre enc Tryd.prog Tryd.f4 [] false w args ∧ laidMetH Tryd.prog LD w) ∧ sizedMet enc Tryd.prog Tryd.f4 (OpenSpec.ofChange Rows.fnNumsSpec) false w args)
      (Rows.fnNumsSpec.post enc Tryd.prog Tryd.f4 false true false false) := by
  refine returnsInHanded_of_change_and (C := Tryd.checked) (X := fun w _ => laidMetH Tryd.prog LD w) (fun _ _ _ hh h => h.of_heap hh) own started (by kernel_rfl) Tryd.func4
    (ChangeSpec.witness_shaped (enc := enc) (C := Tryd.checked) (os := os) (X := fun w _ => laidMetH Tryd.prog LD w) false (World.laidAll Tryd.prog os LD) #[.slice none 0 0] 8 (World.laidAll_os _ _ _)
      (World.shaped_of_ZipB (by kernel_rfl) (by kernel_rfl)) (by kernel_rfl) (by kernel_rfl) (by kernel_rfl)
      (by rw [MakeChecks.laidMetH_plain _ _ _ (by kernel_rfl)]; exact laidMet_laidAll _ (by kernel_rfl) (by kernel_rfl))) ?_
  intro W base args ds gs before hval0 hW _ _ hL _
  have hval : ∀ (j : Nat) t v, Tryd.f4.params[j]? = some t → args[j]? = some v → Value.okWide Tryd.prog W .any base t v := hval0
  have hW' := hW
  obtain ⟨p, q, hA0, hV, rfl, hfz, hnd⟩ := hW
  have hA : DataW.TrodAll enc Tryd.prog W 0 (fun _ => true) true Tryd.f4.params.toList args.toList ds p := hA0
  rw [Tryd.params4] at hA hval
  obtain ⟨v0, vs0, d0, ds0, p0, q0, hargs, rfl, rfl, h0, r0⟩ := trodAll_cons hA
  obtain ⟨rfl, rfl, rfl⟩ := trodAll_nil r0
  obtain rfl : args = #[v0] := by cases args; simp_all
  obtain ⟨rfl, rfl⟩ := trodVars_none hV
  obtain ⟨n0, c0, hn0, rp0⟩ := open_arr Tryd.underlying34 Tryd.underlying5 (by kernel_rfl) (hval 0 34 v0 rfl rfl) h0
  rw [MakeChecks.laidMetH_plain _ _ _ (by kernel_rfl)] at hL
  have hc := (m4).plain [.arr n0 [.int .u8] c0] (bv true) ⟨rfl, rfl⟩ (by rfl) W (fun b => b < W.heap.size) _ (fun b h => h) (gl_ok hL) rfl (reps_cons rp0 reps_nil)
  refine hc.mono fun e W' ⟨v, he, bel, hrep⟩ => ?_
  obtain rfl : v = .bool true := by cases hrep; rfl
  subst he
  exact ⟨_, rfl, _, _, _, [], _, [], hW', trodAll_mk1 (shut_bool Tryd.underlying4 _), (trodAll_cons_mk (Below.trod laidOut (by kernel_rfl) (of_decide_eq_true (by kernel_rfl)) h0 bel fun x hx => by simpa using hW'.lt x (by simp [hx])) trodAll_mk0), rfl, bel.frame _, fun h => by cases h⟩
theorem over : Rows.fnNumsRow.holds Tryd.pinned (OpenSpec.ofChange Rows.fnNumsSpec) :=
  OpenClaim.holds_of_wide 4 Tryd.f4 rfl rfl rfl rfl rfl rfl rfl ⟨rfl, rfl, rfl, rfl, rfl⟩ rfl rfl rfl rfl rfl (by kernel_rfl) Tryd.func4 (by kernel_rfl)
    (of_decide_eq_true (by kernel_rfl)) (by unfold Func.isWrapper; first | (rw [if_pos (by decide +kernel)]; kernel_rfl) | (rw [if_neg (by decide +kernel)]; exact ⟨rfl, rfl⟩))
    (fun os started H enc _ => lifted os started H enc)
end Go.Proofs.YtkmeacninbnmaaaDoor.fnNums
namespace Go.Proofs.YtkmeacninbnmaaaDoor
theorem fnNums_holds : Rows.FnNumsSaid := fnNums.over
theorem fnNumsCard_holds : Rows.FnNumsCardSaid :=
  Claim7.holds_tied_plain_at .later [] [.data, .data, .data, .data, .sentinel, .sentinel, .pinned] true (true, "1709804f0744e0ec3f0cc494eeab88ced6e6459a49709d253b9777fb1c477b27") true
    fnNums_holds (fun _ h => by cases h) (by kernel_rfl) (fun _ h => by cases h) fnNums_row_tie rfl ⟨rfl, rfl⟩ (by kernel_rfl) rfl
    (fun f fn hf hfn => by
      obtain rfl : f = 4 := Option.some.inj ((show Tryd.prog.funcNamed "loop.example/g00857/laws.FnNums" = some 4 by kernel_rfl).symm.trans hf) |>.symm
      obtain rfl : fn = Tryd.f4 := (Option.some.inj (Tryd.func4.symm.trans hfn)).symm
      exact ⟨by kernel_rfl, fun j t ht => by
        rw [Tryd.params4] at ht
        have hm : t ∈ [34] := by simpa using Array.mem_of_getElem? ht
        have hall : ([34].all fun u => !Tryd.prog.wantsStandIn u) = true := by kernel_rfl
        exact (show Tryd.prog.wantsStandIn t = false by simpa using List.all_eq_true.1 hall t hm)⟩)
    (by kernel_rfl)
#print axioms fnNumsCard_holds
end Go.Proofs.YtkmeacninbnmaaaDoor
