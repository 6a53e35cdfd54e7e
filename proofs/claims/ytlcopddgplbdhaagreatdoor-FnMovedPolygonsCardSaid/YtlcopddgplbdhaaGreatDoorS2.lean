/- Contracts of the program's functions, by the evaluator. -/
import Derived.Test.YtlcopddgplbdhaaGreatDoorS1
import Derived.Test.YtlcopddgplbdhaaGreatDoorPlB
namespace Go.Proofs.YtlcopddgplbdhaaGreatDoor
open Go.Ev
set_option linter.unusedVariables false
set_option linter.unusedSimpArgs false
set_option maxRecDepth 100000
-- spec.l01Bent
noncomputable def s41 : Ctr := fun
 | [.own 75 [.arr s_n [.int .u8] s_c, iv s_p, .val (.int .u64 s_z)]] => some (pB 22 s_p, outS (bentV (⟨s_n, s_c, s_p, s_z⟩ : Src)).1.av (bentV (⟨s_n, s_c, s_p, s_z⟩ : Src)).2)
 | _ => none
theorem e41 (s_n : Nat) (s_c : NNI) (s_p : Int) (s_z : Int) (hp : (pB 22 s_p) = true) : evN Tryz.prog GLv Γ71 (0) []  Tryz.f41 [.own 75 [.arr s_n [.int .u8] s_c, iv s_p, .val (.int .u64 s_z)]] = some (outS (bentV (⟨s_n, s_c, s_p, s_z⟩ : Src)).1.av (bentV (⟨s_n, s_c, s_p, s_z⟩ : Src)).2) := by
 exact (show _ = BF (⟨s_n, s_c, s_p, s_z⟩ : Src) from by kernel_rfl).trans (bent_dr.spec z3 (s := (⟨s_n, s_c, s_p, s_z⟩ : Src)) hp).1
theorem m41 : MT 41 s41 := by
 refine meetsN mix0 glv G71 Tryz.func41 (by kernel_rfl) (by kernel_rfl) s41 fun args x h => ?_
 unfold s41 at h
 split at h
 ·rename_i s_n s_c s_p s_z
  obtain ⟨hp, rfl⟩ := sm_inj h
  exact ⟨_, _, by kernel_rfl, e41 s_n s_c s_p s_z hp⟩
 ·cases h
noncomputable abbrev Γ72 : LC := (41, s41) :: Γ71
theorem G72 : SD Γ72 := G71.cons m41
-- spec.l02DrawPoint
noncomputable def s44 : Ctr := fun
 | [.own 75 [.arr s_n [.int .u8] s_c, iv s_p, .val (.int .u64 s_z)]] => some (pB 36 s_p, outS (pointV (⟨s_n, s_c, s_p, s_z⟩ : Src)).1.av (pointV (⟨s_n, s_c, s_p, s_z⟩ : Src)).2)
 | _ => none
theorem e44 (s_n : Nat) (s_c : NNI) (s_p : Int) (s_z : Int) (hp : (pB 36 s_p) = true) : evN Tryz.prog GLv Γ72 (0) []  Tryz.f44 [.own 75 [.arr s_n [.int .u8] s_c, iv s_p, .val (.int .u64 s_z)]] = some (outS (pointV (⟨s_n, s_c, s_p, s_z⟩ : Src)).1.av (pointV (⟨s_n, s_c, s_p, s_z⟩ : Src)).2) := by
 exact (show _ = PF (⟨s_n, s_c, s_p, s_z⟩ : Src) from by kernel_rfl).trans (point_on (s := (⟨s_n, s_c, s_p, s_z⟩ : Src)) hp (by decide)).1
theorem m44 : MT 44 s44 := by
 refine meetsN mix0 glv G72 Tryz.func44 (by kernel_rfl) (by kernel_rfl) s44 fun args x h => ?_
 unfold s44 at h
 split at h
 ·rename_i s_n s_c s_p s_z
  obtain ⟨hp, rfl⟩ := sm_inj h
  exact ⟨_, _, by kernel_rfl, e44 s_n s_c s_p s_z hp⟩
 ·cases h
noncomputable abbrev Γ73 : LC := (44, s44) :: Γ72
theorem G73 : SD Γ73 := G72.cons m44
-- spec.l02BentPoint
noncomputable def s25 : Ctr := fun
 | [.own 75 [.arr s_n [.int .u8] s_c, iv s_p, .val (.int .u64 s_z)]] => some (pB 60 s_p, outS (bentPV (⟨s_n, s_c, s_p, s_z⟩ : Src)).1.av (bentPV (⟨s_n, s_c, s_p, s_z⟩ : Src)).2)
 | _ => none
theorem e25 (s_n : Nat) (s_c : NNI) (s_p : Int) (s_z : Int) (hp : (pB 60 s_p) = true) : evN Tryz.prog GLv Γ73 (0) []  Tryz.f25 [.own 75 [.arr s_n [.int .u8] s_c, iv s_p, .val (.int .u64 s_z)]] = some (outS (bentPV (⟨s_n, s_c, s_p, s_z⟩ : Src)).1.av (bentPV (⟨s_n, s_c, s_p, s_z⟩ : Src)).2) := by
 exact (show _ = QF (⟨s_n, s_c, s_p, s_z⟩ : Src) from by kernel_rfl).trans (bentP_dr.spec ⟨z3, z3⟩ (s := (⟨s_n, s_c, s_p, s_z⟩ : Src)) hp).1
theorem m25 : MT 25 s25 := by
 refine meetsN mix0 glv G73 Tryz.func25 (by kernel_rfl) (by kernel_rfl) s25 fun args x h => ?_
 unfold s25 at h
 split at h
 ·rename_i s_n s_c s_p s_z
  obtain ⟨hp, rfl⟩ := sm_inj h
  exact ⟨_, _, by kernel_rfl, e25 s_n s_c s_p s_z hp⟩
 ·cases h
noncomputable abbrev Γ74 : LC := (25, s25) :: Γ73
theorem G74 : SD Γ74 := G73.cons m25
-- spec.l04Draw
noncomputable def s38 : Ctr := fun
 | [.own 75 [.arr s_n [.int .u8] s_c, iv s_p, .val (.int .u64 s_z)]] => some (pB 42 s_p, outS (motV (⟨s_n, s_c, s_p, s_z⟩ : Src)).1.av (motV (⟨s_n, s_c, s_p, s_z⟩ : Src)).2)
 | _ => none
theorem e38 (s_n : Nat) (s_c : NNI) (s_p : Int) (s_z : Int) (hp : (pB 42 s_p) = true) : evN Tryz.prog GLv Γ74 (0) []  Tryz.f38 [.own 75 [.arr s_n [.int .u8] s_c, iv s_p, .val (.int .u64 s_z)]] = some (outS (motV (⟨s_n, s_c, s_p, s_z⟩ : Src)).1.av (motV (⟨s_n, s_c, s_p, s_z⟩ : Src)).2) := by
 exact (show _ = MF (⟨s_n, s_c, s_p, s_z⟩ : Src) from by kernel_rfl).trans (mot_dr.spec m0 (s := (⟨s_n, s_c, s_p, s_z⟩ : Src)) hp).1
theorem m38 : MT 38 s38 := by
 refine meetsN mix0 glv G74 Tryz.func38 (by kernel_rfl) (by kernel_rfl) s38 fun args x h => ?_
 unfold s38 at h
 split at h
 ·rename_i s_n s_c s_p s_z
  obtain ⟨hp, rfl⟩ := sm_inj h
  exact ⟨_, _, by kernel_rfl, e38 s_n s_c s_p s_z hp⟩
 ·cases h
noncomputable abbrev Γ75 : LC := (38, s38) :: Γ74
theorem G75 : SD Γ75 := G74.cons m38
-- spec.l04Bent
noncomputable def s16 : Ctr := fun
 | [.own 75 [.arr s_n [.int .u8] s_c, iv s_p, .val (.int .u64 s_z)]] => some (pB 70 s_p, outS (bentMV (⟨s_n, s_c, s_p, s_z⟩ : Src)).1.av (bentMV (⟨s_n, s_c, s_p, s_z⟩ : Src)).2)
 | _ => none
theorem e16 (s_n : Nat) (s_c : NNI) (s_p : Int) (s_z : Int) (hp : (pB 70 s_p) = true) : evN Tryz.prog GLv Γ75 (0) []  Tryz.f16 [.own 75 [.arr s_n [.int .u8] s_c, iv s_p, .val (.int .u64 s_z)]] = some (outS (bentMV (⟨s_n, s_c, s_p, s_z⟩ : Src)).1.av (bentMV (⟨s_n, s_c, s_p, s_z⟩ : Src)).2) := by
 exact (show _ = NF (⟨s_n, s_c, s_p, s_z⟩ : Src) from by kernel_rfl).trans (bentM_dr.spec m0 (s := (⟨s_n, s_c, s_p, s_z⟩ : Src)) hp).1
theorem m16 : MT 16 s16 := by
 refine meetsN mix0 glv G75 Tryz.func16 (by kernel_rfl) (by kernel_rfl) s16 fun args x h => ?_
 unfold s16 at h
 split at h
 ·rename_i s_n s_c s_p s_z
  obtain ⟨hp, rfl⟩ := sm_inj h
  exact ⟨_, _, by kernel_rfl, e16 s_n s_c s_p s_z hp⟩
 ·cases h
noncomputable abbrev Γ76 : LC := (16, s16) :: Γ75
theorem G76 : SD Γ76 := G75.cons m16
-- spec.DrawMovePoint
noncomputable def s10 : Ctr := fun
 | [.arr b_n [.int .u8] b_c] => some (true, .tup [(cpA (srcOf b_n b_c)).av, (mpP (srcOf b_n b_c)).av])
 | _ => none
theorem e10 (b_n : Nat) (b_c : NNI) : evN Tryz.prog GLv Γ76 (0) []  Tryz.f10 [.arr b_n [.int .u8] b_c] = some (.tup [(cpA (srcOf b_n b_c)).av, (mpP (srcOf b_n b_c)).av]) := by
 refine (show _ = cond (pB 70 (srcOf b_n b_c).p) (cond (pB 60 (bentMV (srcOf b_n b_c)).2.p) (some (.tup [(cpA (srcOf b_n b_c)).av, (mpP (srcOf b_n b_c)).av])) none) none from by kernel_rfl).trans ?_
 obtain ⟨h1, h2⟩ := cp_ok (s := (srcOf b_n b_c)) rfl
 rw [h1, pB_less h2 (by decide)]
 rfl
theorem m10 : MT 10 s10 := by
 refine meetsN mix0 glv G76 Tryz.func10 (by kernel_rfl) (by kernel_rfl) s10 fun args x h => ?_
 unfold s10 at h
 split at h
 ·rename_i b_n b_c
  obtain ⟨hp, rfl⟩ := sm_inj h
  exact ⟨_, _, by kernel_rfl, e10 b_n b_c⟩
 ·cases h
noncomputable abbrev Γ77 : LC := (10, s10) :: Γ76
theorem G77 : SD Γ77 := G76.cons m10
-- spec.l02DrawLine
noncomputable def s76 : Ctr := fun
 | [.own 75 [.arr s_n [.int .u8] s_c, iv s_p, .val (.int .u64 s_z)]] => some (pB 20 s_p, outS (lineV (⟨s_n, s_c, s_p, s_z⟩ : Src)).1.av (lineV (⟨s_n, s_c, s_p, s_z⟩ : Src)).2)
 | _ => none
theorem e76 (s_n : Nat) (s_c : NNI) (s_p : Int) (s_z : Int) (hp : (pB 20 s_p) = true) : evN Tryz.prog GLv Γ77 (0) []  Tryz.f76 [.own 75 [.arr s_n [.int .u8] s_c, iv s_p, .val (.int .u64 s_z)]] = some (outS (lineV (⟨s_n, s_c, s_p, s_z⟩ : Src)).1.av (lineV (⟨s_n, s_c, s_p, s_z⟩ : Src)).2) := by
 exact (show _ = LF (⟨s_n, s_c, s_p, s_z⟩ : Src) from by kernel_rfl).trans (line_on (s := (⟨s_n, s_c, s_p, s_z⟩ : Src)) hp (by decide)).1
theorem m76 : MT 76 s76 := by
 refine meetsN mix0 glv G77 Tryz.func76 (by kernel_rfl) (by kernel_rfl) s76 fun args x h => ?_
 unfold s76 at h
 split at h
 ·rename_i s_n s_c s_p s_z
  obtain ⟨hp, rfl⟩ := sm_inj h
  exact ⟨_, _, by kernel_rfl, e76 s_n s_c s_p s_z hp⟩
 ·cases h
noncomputable abbrev Γ78 : LC := (76, s76) :: Γ77
theorem G78 : SD Γ78 := G77.cons m76
end Go.Proofs.YtlcopddgplbdhaaGreatDoor
