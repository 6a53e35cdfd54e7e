/- Contracts of the program's functions, by the evaluator. -/
import Derived.Test.YtigmgpblnoecpaaDoorC3
import Derived.Test.YtigmgpblnoecpaaDoorSrcD
namespace Go.Proofs.YtigmgpblnoecpaaDoor
open Go.Ev
set_option linter.unusedVariables false
set_option linter.unusedSimpArgs false
set_option maxRecDepth 100000

-- spec.l01Bent
noncomputable def s103 : Ctr := fun
  | [.own 106 [.arr s_n [.int .u8] s_c, .val (.int .i64 s_p), .val (.int .u64 s_z)]] => some (pB 22 s_p, outS (bentV (⟨s_n, s_c, s_p, s_z⟩ : Src)).1.av (bentV (⟨s_n, s_c, s_p, s_z⟩ : Src)).2)
  | _ => none

theorem e103 (s_n : Nat) (s_c : Nat → Nat → Int) (s_p : Int) (s_z : Int) (hp : (pB 22 s_p) = true) : evN Tryd.prog GLv Γ73 (0) []  Tryd.f103 [.own 106 [.arr s_n [.int .u8] s_c, .val (.int .i64 s_p), .val (.int .u64 s_z)]] = some (outS (bentV (⟨s_n, s_c, s_p, s_z⟩ : Src)).1.av (bentV (⟨s_n, s_c, s_p, s_z⟩ : Src)).2) := by
  exact (show _ = BF (⟨s_n, s_c, s_p, s_z⟩ : Src) from by kernel_rfl).trans (bent_dr.spec z3 (s := (⟨s_n, s_c, s_p, s_z⟩ : Src)) hp).1
theorem m103 : Meets Tryd.prog GLv 103 s103 := by
  refine meetsN mix0 glv G73 Tryd.func103 (by kernel_rfl) (by kernel_rfl) s103 fun args x h => ?_
  unfold s103 at h
  split at h
  · rename_i s_n s_c s_p s_z
    simp only [Option.some.injEq, Prod.mk.injEq] at h
    obtain ⟨hp, rfl⟩ := h
    exact ⟨_, _, by kernel_rfl, e103 s_n s_c s_p s_z hp⟩
  · cases h
noncomputable abbrev Γ74 : List (Nat × Ctr) := (103, s103) :: Γ73
theorem G74 : Sound Tryd.prog GLv Γ74 := G73.cons m103

-- spec.l02DrawPoint
noncomputable def s36 : Ctr := fun
  | [.own 106 [.arr s_n [.int .u8] s_c, .val (.int .i64 s_p), .val (.int .u64 s_z)]] => some (pB 36 s_p, outS (pointV (⟨s_n, s_c, s_p, s_z⟩ : Src)).1.av (pointV (⟨s_n, s_c, s_p, s_z⟩ : Src)).2)
  | _ => none

theorem e36 (s_n : Nat) (s_c : Nat → Nat → Int) (s_p : Int) (s_z : Int) (hp : (pB 36 s_p) = true) : evN Tryd.prog GLv Γ74 (0) []  Tryd.f36 [.own 106 [.arr s_n [.int .u8] s_c, .val (.int .i64 s_p), .val (.int .u64 s_z)]] = some (outS (pointV (⟨s_n, s_c, s_p, s_z⟩ : Src)).1.av (pointV (⟨s_n, s_c, s_p, s_z⟩ : Src)).2) := by
  exact (show _ = PF (⟨s_n, s_c, s_p, s_z⟩ : Src) from by kernel_rfl).trans (point_on (s := (⟨s_n, s_c, s_p, s_z⟩ : Src)) hp (by decide)).1
theorem m36 : Meets Tryd.prog GLv 36 s36 := by
  refine meetsN mix0 glv G74 Tryd.func36 (by kernel_rfl) (by kernel_rfl) s36 fun args x h => ?_
  unfold s36 at h
  split at h
  · rename_i s_n s_c s_p s_z
    simp only [Option.some.injEq, Prod.mk.injEq] at h
    obtain ⟨hp, rfl⟩ := h
    exact ⟨_, _, by kernel_rfl, e36 s_n s_c s_p s_z hp⟩
  · cases h
noncomputable abbrev Γ75 : List (Nat × Ctr) := (36, s36) :: Γ74
theorem G75 : Sound Tryd.prog GLv Γ75 := G74.cons m36

-- spec.l02BentPoint
noncomputable def s62 : Ctr := fun
  | [.own 106 [.arr s_n [.int .u8] s_c, .val (.int .i64 s_p), .val (.int .u64 s_z)]] => some (pB 60 s_p, outS (bentPV (⟨s_n, s_c, s_p, s_z⟩ : Src)).1.av (bentPV (⟨s_n, s_c, s_p, s_z⟩ : Src)).2)
  | _ => none

theorem e62 (s_n : Nat) (s_c : Nat → Nat → Int) (s_p : Int) (s_z : Int) (hp : (pB 60 s_p) = true) : evN Tryd.prog GLv Γ75 (0) []  Tryd.f62 [.own 106 [.arr s_n [.int .u8] s_c, .val (.int .i64 s_p), .val (.int .u64 s_z)]] = some (outS (bentPV (⟨s_n, s_c, s_p, s_z⟩ : Src)).1.av (bentPV (⟨s_n, s_c, s_p, s_z⟩ : Src)).2) := by
  exact (show _ = QF (⟨s_n, s_c, s_p, s_z⟩ : Src) from by kernel_rfl).trans (bentP_dr.spec ⟨z3, z3⟩ (s := (⟨s_n, s_c, s_p, s_z⟩ : Src)) hp).1
theorem m62 : Meets Tryd.prog GLv 62 s62 := by
  refine meetsN mix0 glv G75 Tryd.func62 (by kernel_rfl) (by kernel_rfl) s62 fun args x h => ?_
  unfold s62 at h
  split at h
  · rename_i s_n s_c s_p s_z
    simp only [Option.some.injEq, Prod.mk.injEq] at h
    obtain ⟨hp, rfl⟩ := h
    exact ⟨_, _, by kernel_rfl, e62 s_n s_c s_p s_z hp⟩
  · cases h
noncomputable abbrev Γ76 : List (Nat × Ctr) := (62, s62) :: Γ75
theorem G76 : Sound Tryd.prog GLv Γ76 := G75.cons m62

-- spec.l04Draw
noncomputable def s107 : Ctr := fun
  | [.own 106 [.arr s_n [.int .u8] s_c, .val (.int .i64 s_p), .val (.int .u64 s_z)]] => some (pB 42 s_p, outS (motV (⟨s_n, s_c, s_p, s_z⟩ : Src)).1.av (motV (⟨s_n, s_c, s_p, s_z⟩ : Src)).2)
  | _ => none

theorem e107 (s_n : Nat) (s_c : Nat → Nat → Int) (s_p : Int) (s_z : Int) (hp : (pB 42 s_p) = true) : evN Tryd.prog GLv Γ76 (0) []  Tryd.f107 [.own 106 [.arr s_n [.int .u8] s_c, .val (.int .i64 s_p), .val (.int .u64 s_z)]] = some (outS (motV (⟨s_n, s_c, s_p, s_z⟩ : Src)).1.av (motV (⟨s_n, s_c, s_p, s_z⟩ : Src)).2) := by
  exact (show _ = MF (⟨s_n, s_c, s_p, s_z⟩ : Src) from by kernel_rfl).trans (mot_dr.spec m0 (s := (⟨s_n, s_c, s_p, s_z⟩ : Src)) hp).1
theorem m107 : Meets Tryd.prog GLv 107 s107 := by
  refine meetsN mix0 glv G76 Tryd.func107 (by kernel_rfl) (by kernel_rfl) s107 fun args x h => ?_
  unfold s107 at h
  split at h
  · rename_i s_n s_c s_p s_z
    simp only [Option.some.injEq, Prod.mk.injEq] at h
    obtain ⟨hp, rfl⟩ := h
    exact ⟨_, _, by kernel_rfl, e107 s_n s_c s_p s_z hp⟩
  · cases h
noncomputable abbrev Γ77 : List (Nat × Ctr) := (107, s107) :: Γ76
theorem G77 : Sound Tryd.prog GLv Γ77 := G76.cons m107

-- spec.l04Bent
noncomputable def s61 : Ctr := fun
  | [.own 106 [.arr s_n [.int .u8] s_c, .val (.int .i64 s_p), .val (.int .u64 s_z)]] => some (pB 70 s_p, outS (bentMV (⟨s_n, s_c, s_p, s_z⟩ : Src)).1.av (bentMV (⟨s_n, s_c, s_p, s_z⟩ : Src)).2)
  | _ => none

theorem e61 (s_n : Nat) (s_c : Nat → Nat → Int) (s_p : Int) (s_z : Int) (hp : (pB 70 s_p) = true) : evN Tryd.prog GLv Γ77 (0) []  Tryd.f61 [.own 106 [.arr s_n [.int .u8] s_c, .val (.int .i64 s_p), .val (.int .u64 s_z)]] = some (outS (bentMV (⟨s_n, s_c, s_p, s_z⟩ : Src)).1.av (bentMV (⟨s_n, s_c, s_p, s_z⟩ : Src)).2) := by
  exact (show _ = NF (⟨s_n, s_c, s_p, s_z⟩ : Src) from by kernel_rfl).trans (bentM_dr.spec m0 (s := (⟨s_n, s_c, s_p, s_z⟩ : Src)) hp).1
theorem m61 : Meets Tryd.prog GLv 61 s61 := by
  refine meetsN mix0 glv G77 Tryd.func61 (by kernel_rfl) (by kernel_rfl) s61 fun args x h => ?_
  unfold s61 at h
  split at h
  · rename_i s_n s_c s_p s_z
    simp only [Option.some.injEq, Prod.mk.injEq] at h
    obtain ⟨hp, rfl⟩ := h
    exact ⟨_, _, by kernel_rfl, e61 s_n s_c s_p s_z hp⟩
  · cases h
noncomputable abbrev Γ78 : List (Nat × Ctr) := (61, s61) :: Γ77
theorem G78 : Sound Tryd.prog GLv Γ78 := G77.cons m61

-- spec.DrawMovePoint
noncomputable def s22 : Ctr := fun
  | [.arr b_n [.int .u8] b_c] => some (true, .tup [(cpA (srcOf b_n b_c)).av, (mpP (srcOf b_n b_c)).av])
  | _ => none

theorem e22 (b_n : Nat) (b_c : Nat → Nat → Int) : evN Tryd.prog GLv Γ78 (0) []  Tryd.f22 [.arr b_n [.int .u8] b_c] = some (.tup [(cpA (srcOf b_n b_c)).av, (mpP (srcOf b_n b_c)).av]) := by
  refine (show _ = cond (pB 70 (srcOf b_n b_c).p) (cond (pB 60 (bentMV (srcOf b_n b_c)).2.p) (some (.tup [(cpA (srcOf b_n b_c)).av, (mpP (srcOf b_n b_c)).av])) none) none from by kernel_rfl).trans ?_
  obtain ⟨h1, h2⟩ := cp_ok (s := (srcOf b_n b_c)) rfl
  rw [h1, pB_less h2 (by decide)]
  rfl
theorem m22 : Meets Tryd.prog GLv 22 s22 := by
  refine meetsN mix0 glv G78 Tryd.func22 (by kernel_rfl) (by kernel_rfl) s22 fun args x h => ?_
  unfold s22 at h
  split at h
  · rename_i b_n b_c
    simp only [Option.some.injEq, Prod.mk.injEq] at h
    obtain ⟨hp, rfl⟩ := h
    exact ⟨_, _, by kernel_rfl, e22 b_n b_c⟩
  · cases h
noncomputable abbrev Γ79 : List (Nat × Ctr) := (22, s22) :: Γ78
theorem G79 : Sound Tryd.prog GLv Γ79 := G78.cons m22

-- spec.l02DrawLine
noncomputable def s35 : Ctr := fun
  | [.own 106 [.arr s_n [.int .u8] s_c, .val (.int .i64 s_p), .val (.int .u64 s_z)]] => some (pB 20 s_p, outS (lineV (⟨s_n, s_c, s_p, s_z⟩ : Src)).1.av (lineV (⟨s_n, s_c, s_p, s_z⟩ : Src)).2)
  | _ => none

theorem e35 (s_n : Nat) (s_c : Nat → Nat → Int) (s_p : Int) (s_z : Int) (hp : (pB 20 s_p) = true) : evN Tryd.prog GLv Γ79 (0) []  Tryd.f35 [.own 106 [.arr s_n [.int .u8] s_c, .val (.int .i64 s_p), .val (.int .u64 s_z)]] = some (outS (lineV (⟨s_n, s_c, s_p, s_z⟩ : Src)).1.av (lineV (⟨s_n, s_c, s_p, s_z⟩ : Src)).2) := by
  exact (show _ = LF (⟨s_n, s_c, s_p, s_z⟩ : Src) from by kernel_rfl).trans (line_on (s := (⟨s_n, s_c, s_p, s_z⟩ : Src)) hp (by decide)).1
theorem m35 : Meets Tryd.prog GLv 35 s35 := by
  refine meetsN mix0 glv G79 Tryd.func35 (by kernel_rfl) (by kernel_rfl) s35 fun args x h => ?_
  unfold s35 at h
  split at h
  · rename_i s_n s_c s_p s_z
    simp only [Option.some.injEq, Prod.mk.injEq] at h
    obtain ⟨hp, rfl⟩ := h
    exact ⟨_, _, by kernel_rfl, e35 s_n s_c s_p s_z hp⟩
  · cases h
noncomputable abbrev Γ80 : List (Nat × Ctr) := (35, s35) :: Γ79
theorem G80 : Sound Tryd.prog GLv Γ80 := G79.cons m35

-- spec.l02BentLine
noncomputable def s56 : Ctr := fun
  | [.own 106 [.arr s_n [.int .u8] s_c, .val (.int .i64 s_p), .val (.int .u64 s_z)]] => some (pB 44 s_p, outS (bentLV (⟨s_n, s_c, s_p, s_z⟩ : Src)).1.av (bentLV (⟨s_n, s_c, s_p, s_z⟩ : Src)).2)
  | _ => none

theorem e56 (s_n : Nat) (s_c : Nat → Nat → Int) (s_p : Int) (s_z : Int) (hp : (pB 44 s_p) = true) : evN Tryd.prog GLv Γ80 (0) []  Tryd.f56 [.own 106 [.arr s_n [.int .u8] s_c, .val (.int .i64 s_p), .val (.int .u64 s_z)]] = some (outS (bentLV (⟨s_n, s_c, s_p, s_z⟩ : Src)).1.av (bentLV (⟨s_n, s_c, s_p, s_z⟩ : Src)).2) := by
  exact (show _ = KF (⟨s_n, s_c, s_p, s_z⟩ : Src) from by kernel_rfl).trans (bentL_dr.spec ln0 (s := (⟨s_n, s_c, s_p, s_z⟩ : Src)) hp).1
theorem m56 : Meets Tryd.prog GLv 56 s56 := by
  refine meetsN mix0 glv G80 Tryd.func56 (by kernel_rfl) (by kernel_rfl) s56 fun args x h => ?_
  unfold s56 at h
  split at h
  · rename_i s_n s_c s_p s_z
    simp only [Option.some.injEq, Prod.mk.injEq] at h
    obtain ⟨hp, rfl⟩ := h
    exact ⟨_, _, by kernel_rfl, e56 s_n s_c s_p s_z hp⟩
  · cases h
noncomputable abbrev Γ81 : List (Nat × Ctr) := (56, s56) :: Γ80
theorem G81 : Sound Tryd.prog GLv Γ81 := G80.cons m56

-- spec.DrawReflection
noncomputable def s19 : Ctr := fun
  | [.arr b_n [.int .u8] b_c] => some (true, (drL (srcOf b_n b_c)).av)
  | _ => none

theorem e19 (b_n : Nat) (b_c : Nat → Nat → Int) : evN Tryd.prog GLv Γ81 (0) []  Tryd.f19 [.arr b_n [.int .u8] b_c] = some ((drL (srcOf b_n b_c)).av) := by
  exact (show _ = cond (pB 44 (srcOf b_n b_c).p) (some (drL (srcOf b_n b_c)).av) none from by kernel_rfl).trans rfl
theorem m19 : Meets Tryd.prog GLv 19 s19 := by
  refine meetsN mix0 glv G81 Tryd.func19 (by kernel_rfl) (by kernel_rfl) s19 fun args x h => ?_
  unfold s19 at h
  split at h
  · rename_i b_n b_c
    simp only [Option.some.injEq, Prod.mk.injEq] at h
    obtain ⟨hp, rfl⟩ := h
    exact ⟨_, _, by kernel_rfl, e19 b_n b_c⟩
  · cases h
noncomputable abbrev Γ82 : List (Nat × Ctr) := (19, s19) :: Γ81
theorem G82 : Sound Tryd.prog GLv Γ82 := G81.cons m19

end Go.Proofs.YtigmgpblnoecpaaDoor
