/- FnExactCertificateText: the program's function gives what the reference gives, for all arguments; proved by the evaluator's contracts. -/
import Derived.Test.YtkmeacninbnmaaaDoorRows
import Derived.Test.YtkmeacninbnmaaaDoorTie
import Derived.Test.YtkmeacninbnmaaaDoorCards
import Derived.Test.YtkmeacninbnmaaaDoorU5
import Derived.Test.YtkmeacninbnmaaaDoorEvDoor
import Derived.WalkKit
import Derived.ProofKit
import Derived.LaidMore
import Derived.OpenShut
import Derived.ShutString
import Derived.ChangeOld
import Derived.SizedLaws
import Derived.ChangeVars
import Derived.OpenVars
import Derived.Stop.Joined
import Derived.SevenTiedAt
import Derived.Lay
import Derived.Lib.LaidU8
import Derived.LaidOnce
namespace Go.Proofs.YtkmeacninbnmaaaDoor.fnExactCertificateText
open Go.ChangeShapes Go.WideShapes Go.ChangeAt Go.RowKit Go.Ev
set_option linter.unusedVariables false
set_option linter.unusedSimpArgs false
theorem own : ownKnob Tryd.prog.godebug = none := by kernel_rfl
theorem laidOut : laidOutB Tryd.prog = true := by kernel_rfl
noncomputable def LD : List (String × DataW Unit) := [("math/bits.deBruijn32tab", Rows.laid_math_bits_deBruijn32tab), ("math/bits.deBruijn64tab", Rows.laid_math_bits_deBruijn64tab), ("internal/strconv.uint64pow10", Rows.laid_internal_strconv_uint64pow10), ("loop.example/g00857/impl.conditionWords", Rows.laid_loop_example_g00857_impl_conditionWords)]
theorem laid_whole {W : World} {nm : String} {d : DataW Unit} {g t : Nat} {vs : List Value} (h : laidMet Tryd.prog LD W) (hm : (nm, d) ∈ LD) (hg : Tryd.prog.globalNamed nm = some g) (ht : (Tryd.prog.globals[g]?).map (·.type) = some t) (hc : cellsD Tryd.prog 8 t d = some vs) : W.var? Tryd.prog nm = some vs.toArray := by
  obtain ⟨g0, t0, cs, fuel, p0, hg0, ht0, hv, hd⟩ := Go.Lib.laidMet.reads h hm
  obtain rfl := Option.some.inj (hg.symm.trans hg0)
  obtain rfl := Option.some.inj (ht.symm.trans ht0)
  rw [hv, ← trod_cells 8 t d vs hc fuel _ _ hd]
theorem tab_heap {W : World} {nm : String} {g : Nat} {vs : List Value} (hg : Tryd.prog.globalNamed nm = some g) (hv : W.var? Tryd.prog nm = some vs.toArray) : ∃ ty z, W.heap[g]? = some (.cells vs.toArray ty z) := by
  unfold World.var? at hv
  rw [hg] at hv
  simp only [Option.bind_some] at hv
  split at hv
  · rename_i cs ty z e
    cases hv
    exact ⟨ty, z, e⟩
  · cases hv
theorem tab_rep {W : World} {nm : String} {g : Nat} {vs : List Value} (hg : Tryd.prog.globalNamed nm = some g) (hv : W.var? Tryd.prog nm = some vs.toArray) : Rep W (fun b => b < W.heap.size) (.eptr (vs.map .val)) (.pointer (some ⟨g, 0, none⟩)) := by
  obtain ⟨ty, z, hh⟩ := tab_heap hg hv
  have hlt : g < W.heap.size := (Array.getElem?_eq_some_iff.1 hh).1
  refine .eptr _ _ 0 (fun j => vs.getD j undef) hlt (fun j hj => ?_) (rep_list .val (fun v => .val v) vs)
  rw [Nat.zero_add, World.var?_cell hg hv j]
  have hj' : j < vs.length := by simpa using hj
  simp [List.getD, hj']
theorem gV : Tryd.prog.globalNamed "internal/strconv.uint64pow10" = some 4 := by kernel_rfl
theorem tV : (Tryd.prog.globals[4]?).map (·.type) = some 155 := by kernel_rfl
def vecVs : List Value := [.int .u64 (1), .int .u64 (10), .int .u64 (100), .int .u64 (1000), .int .u64 (10000), .int .u64 (100000), .int .u64 (1000000), .int .u64 (10000000), .int .u64 (100000000), .int .u64 (1000000000), .int .u64 (10000000000), .int .u64 (100000000000), .int .u64 (1000000000000), .int .u64 (10000000000000), .int .u64 (100000000000000), .int .u64 (1000000000000000), .int .u64 (10000000000000000), .int .u64 (100000000000000000), .int .u64 (1000000000000000000), .int .u64 (10000000000000000000)]
theorem cV : cellsD Tryd.prog 8 155 (Rows.laid_internal_strconv_uint64pow10 (H := Unit)) = some vecVs := by kernel_rfl
theorem gW : Tryd.prog.globalNamed "loop.example/g00857/impl.conditionWords" = some 0 := by kernel_rfl
theorem tW : (Tryd.prog.globals[0]?).map (·.type) = some 84 := by kernel_rfl
def wordVs : List Value := [.string ⟨[].toArray⟩, .string ⟨[107, 97, 119, 97, 115, 97, 107, 105].toArray⟩, .string ⟨[109, 97, 101, 107, 97, 119, 97].toArray⟩, .string ⟨[108, 105, 116, 116, 108, 101].toArray⟩]
theorem cW : cellsD Tryd.prog 8 84 (Rows.laid_loop_example_g00857_impl_conditionWords (H := Unit)) = some wordVs := by kernel_rfl
theorem gl_ok {W : World} (h : laidMet Tryd.prog LD W) : GOk W (fun b => b < W.heap.size) GLv := by
  have hv := laid_whole h (nm := "internal/strconv.uint64pow10") (d := Rows.laid_internal_strconv_uint64pow10) (by simp [LD]) gV tV cV
  have hw := laid_whole h (nm := "loop.example/g00857/impl.conditionWords") (d := Rows.laid_loop_example_g00857_impl_conditionWords) (by simp [LD]) gW tW cW
  constructor
  · intro g
    unfold GLv
    split
    · rename_i e
      obtain rfl := Nat.eq_of_beq_eq_true e
      exact tab_rep gV hv
    · split
      · rename_i e
        obtain rfl := Nat.eq_of_beq_eq_true e
        exact tab_rep gW hw
      · exact .non _
  · intro g c e
    unfold GLv at e
    split at e
    · rename_i e0
      obtain rfl := Nat.eq_of_beq_eq_true e0
      cases e
      obtain ⟨_, _, hh⟩ := tab_heap gV hv
      exact ⟨_, _, _, hh, rfl⟩
    · split at e
      · rename_i e0
        obtain rfl := Nat.eq_of_beq_eq_true e0
        cases e
        obtain ⟨_, _, hh⟩ := tab_heap gW hw
        exact ⟨_, _, _, hh, rfl⟩
      · cases e
set_option maxHeartbeats 4000000 in
set_option maxRecDepth 100000 in
theorem lifted (os : Os) (started : os.Started) (H : Type) (enc : TypeId × Value → H) :
    ReturnsInHanded {} Tryd.checked os 3 .any (fun w args => (Rows.fnExactCertificateTextSpec.pre enc Tryd.prog Tryd.f3 [] false w args ∧ laidMetH Tryd.prog LD w) ∧ sizedMet enc Tryd.prog Tryd.f3 (OpenSpec.ofChange Rows.fnExactCertificateTextSpec) false w args)
      (Rows.fnExactCertificateTextSpec.post enc Tryd.prog Tryd.f3 false true false false) := by
  refine returnsInHanded_of_change_and (C := Tryd.checked) (X := fun w _ => laidMetH Tryd.prog LD w) (fun _ _ _ hh h => h.of_heap hh) own started (by kernel_rfl) Tryd.func3
    (ChangeSpec.witness_shaped (enc := enc) (C := Tryd.checked) (os := os) (X := fun w _ => laidMetH Tryd.prog LD w) false (World.laidAll Tryd.prog os LD) #[.agg #[.int .i64 0, .int .i64 0, .int .i64 0, .slice none 0 0, .slice none 0 0]] 8 (World.laidAll_os _ _ _)
      (World.shaped_of_ZipB (by kernel_rfl) (by kernel_rfl)) (by kernel_rfl) (by kernel_rfl) (by kernel_rfl)
      (by rw [MakeChecks.laidMetH_plain _ _ _ (by kernel_rfl)]; exact laidMet_laidAll _ (by kernel_rfl) (by kernel_rfl))) ?_
  intro W base args ds gs before hval0 hW _ _ hL _
  rw [MakeChecks.laidMetH_plain _ _ _ (by kernel_rfl)] at hL
  have hval : ∀ (j : Nat) t v, Tryd.f3.params[j]? = some t → args[j]? = some v → Value.okWide Tryd.prog W .any base t v := hval0
  have hW' := hW
  obtain ⟨p, q, hA0, hV, rfl, hfz, hnd⟩ := hW
  have hA : DataW.TrodAll enc Tryd.prog W 0 (fun _ => true) true Tryd.f3.params.toList args.toList ds p := hA0
  rw [Tryd.params3] at hA hval
  obtain ⟨v0, vs0, d0, ds0, p0, q0, hargs, rfl, rfl, h0, r0⟩ := trodAll_cons hA
  obtain ⟨rfl, rfl, rfl⟩ := trodAll_nil r0
  obtain rfl : args = #[v0] := by cases args; simp_all
  obtain ⟨g0, t0, cs0, fu0, dv, pv, rfl, _, _, _, _, _⟩ := trodVars_one hV
  obtain ⟨cs0, rfl, hl0, fu0, hF0⟩ := open_struct Tryd.underlying25 (hval 0 25 v0 rfl rfl) h0
  obtain ⟨e0_0, e0_1, e0_2, e0_3, e0_4, rfl⟩ := len5 (hl0.trans (show Tryd.prog.cellsOf 25 = 5 by kernel_rfl))
  obtain ⟨y0_0, hy0_0⟩ := struct_at hF0 0 2 0 1 rfl (by kernel_rfl)
  obtain ⟨x0_0, ee0_0, w0_0⟩ := open_intC (cs := [e0_0]) Tryd.underlying2 hy0_0
  cases ee0_0
  obtain ⟨y0_1, hy0_1⟩ := struct_at hF0 1 2 1 1 rfl (by kernel_rfl)
  obtain ⟨x0_1, ee0_1, w0_1⟩ := open_intC (cs := [e0_1]) Tryd.underlying2 hy0_1
  cases ee0_1
  obtain ⟨y0_2, hy0_2⟩ := struct_at hF0 2 2 2 1 rfl (by kernel_rfl)
  obtain ⟨x0_2, ee0_2, w0_2⟩ := open_intC (cs := [e0_2]) Tryd.underlying2 hy0_2
  cases ee0_2
  obtain ⟨y0_3, hy0_3⟩ := struct_at hF0 3 22 3 1 rfl (by kernel_rfl)
  obtain ⟨u0_3, n0_3, c0_3, ee0_3, hn0_3, rp0_3, rr0_3⟩ := open_rowsC (cs := [e0_3]) (n0 := 5) (lk := [.int .i64]) (ks := [.int .i64]) Tryd.underlying22 (show flatK Tryd.prog 5 2 = _ by kernel_rfl) (by kernel_rfl) (by kernel_rfl) (by kernel_rfl) hy0_3
  cases ee0_3
  obtain ⟨y0_4, hy0_4⟩ := struct_at hF0 4 23 4 1 rfl (by kernel_rfl)
  obtain ⟨u0_4, n0_4, c0_4, ee0_4, hn0_4, rp0_4, rr0_4⟩ := open_rowsC (cs := [e0_4]) (n0 := 5) (lk := [.int .i64, .int .i64, .int .i64, .int .i64]) (ks := [.int .i64, .int .i64, .int .i64, .int .i64]) Tryd.underlying23 (show flatK Tryd.prog 5 81 = _ by kernel_rfl) (by kernel_rfl) (by kernel_rfl) (by kernel_rfl) hy0_4
  cases ee0_4
  have rp0 : Rep W (fun b => b < W.heap.size) (.agg [.val (.int .i64 x0_0), .val (.int .i64 x0_1), .val (.int .i64 x0_2), .arr n0_3 [.int .i64] c0_3, .arr n0_4 [.int .i64, .int .i64, .int .i64, .int .i64] c0_4]) (.agg ⟨[.int .i64 x0_0, .int .i64 x0_1, .int .i64 x0_2, e0_3, e0_4]⟩) := .agg _ _ rfl (reps_cons (.val _) (reps_cons (.val _) (reps_cons (.val _) (reps_cons rp0_3 (reps_cons rp0_4 reps_nil)))))
  have hc := (m3).plain [.agg [.val (.int .i64 x0_0), .val (.int .i64 x0_1), .val (.int .i64 x0_2), .arr n0_3 [.int .i64] c0_3, .arr n0_4 [.int .i64, .int .i64, .int .i64, .int .i64] c0_4]] (bv true) ⟨rfl, rfl⟩ (by 
    refine congrArg (fun b => some (b, bv true)) (?_ : (Nat.ble n0_3 _ && (Nat.ble n0_4 _ && allF _ 0 n0_3)) = true)
    simp only [Bool.and_eq_true]
    exact ⟨Nat.ble_eq_true_of_le (Nat.le_trans hn0_3 (by decide)), Nat.ble_eq_true_of_le (Nat.le_trans hn0_4 (by decide)), allF_iff.2 fun i _ hi => wf_rng (rr0_3 i 0 .i64 (by omega) (by decide) rfl)⟩) W (fun b => b < W.heap.size) _ (fun b h => h) (gl_ok hL) rfl (reps_cons rp0 reps_nil)
  refine hc.mono fun e W' ⟨v, he, bel, hrep⟩ => ?_
  obtain rfl : v = .bool true := by cases hrep; rfl
  subst he
  exact ⟨_, rfl, _, _, _, [], _, _, hW', trodAll_mk1 (shut_bool Tryd.underlying4 _), (trodAll_cons_mk (Below.trod laidOut (by kernel_rfl) (of_decide_eq_true (by kernel_rfl)) h0 bel fun x hx => by simpa using hW'.lt x (by simp [hx])) trodAll_mk0), Below.trodVars (by kernel_rfl) bel (by kernel_rfl) hV, bel.frame _, fun h => by cases h⟩
theorem over : Rows.fnExactCertificateTextRow.holds Tryd.pinned (OpenSpec.ofChange Rows.fnExactCertificateTextSpec) :=
  OpenClaim.holds_of_wide 3 Tryd.f3 rfl rfl rfl rfl rfl rfl rfl ⟨rfl, rfl, rfl, rfl, rfl⟩ rfl rfl rfl rfl rfl (by kernel_rfl) Tryd.func3 (by kernel_rfl)
    (of_decide_eq_true (by kernel_rfl)) (by unfold Func.isWrapper; first | (rw [if_pos (by decide +kernel)]; kernel_rfl) | (rw [if_neg (by decide +kernel)]; exact ⟨rfl, rfl⟩))
    (fun os started H enc _ => lifted os started H enc)
end Go.Proofs.YtkmeacninbnmaaaDoor.fnExactCertificateText
namespace Go.Proofs.YtkmeacninbnmaaaDoor
theorem fnExactCertificateText_holds : Rows.FnExactCertificateTextSaid := fnExactCertificateText.over
theorem fnExactCertificateTextCard_holds : Rows.FnExactCertificateTextCardSaid :=
  Claim7.holds_tied_plain_at .later [] [.data, .data, .data, .widerDeep] true (true, "1709804f0744e0ec3f0cc494eeab88ced6e6459a49709d253b9777fb1c477b27") true
    fnExactCertificateText_holds (fun _ h => by cases h) (by kernel_rfl) (fun _ h => by cases h) fnExactCertificateText_row_tie rfl ⟨rfl, rfl⟩ (by kernel_rfl) rfl
    (fun f fn hf hfn => by
      obtain rfl : f = 3 := Option.some.inj ((show Tryd.prog.funcNamed "loop.example/g00857/laws.FnExactCertificateText" = some 3 by kernel_rfl).symm.trans hf) |>.symm
      obtain rfl : fn = Tryd.f3 := (Option.some.inj (Tryd.func3.symm.trans hfn)).symm
      exact ⟨by kernel_rfl, fun j t ht => by
        rw [Tryd.params3] at ht
        have hm : t ∈ [25] := by simpa using Array.mem_of_getElem? ht
        have hall : ([25].all fun u => !Tryd.prog.wantsStandIn u) = true := by kernel_rfl
        exact (show Tryd.prog.wantsStandIn t = false by simpa using List.all_eq_true.1 hall t hm)⟩)
    (by kernel_rfl)
#print axioms fnExactCertificateTextCard_holds
end Go.Proofs.YtkmeacninbnmaaaDoor
