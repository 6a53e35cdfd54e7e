/- Contracts of the program's functions, by the evaluator. -/
import Derived.Test.YtdildcdilhgdkaaGreatDoorS1
import Derived.Test.YtdildcdilhgdkaaGreatDoorPlB
namespace Go.Proofs.YtdildcdilhgdkaaGreatDoor
open Go.Ev
set_option linter.unusedVariables false
set_option linter.unusedSimpArgs false
set_option maxRecDepth 100000
-- spec.l02DrawPoint
noncomputable def s31 : Ctr := fun
  | [.own 66 [.arr s_n [.int .u8] s_c, .val (.int .i64 s_p), .val (.int .u64 s_z)]] => some (pB 36 s_p, outS (pointV (⟨s_n, s_c, s_p, s_z⟩ : Src)).1.av (pointV (⟨s_n, s_c, s_p, s_z⟩ : Src)).2)
  | _ => none
theorem e31 (s_n : Nat) (s_c : NNI) (s_p : Int) (s_z : Int) (hp : (pB 36 s_p) = true) : evN Tryz.prog GLv Γ78 (0) []  Tryz.f31 [.own 66 [.arr s_n [.int .u8] s_c, .val (.int .i64 s_p), .val (.int .u64 s_z)]] = some (outS (pointV (⟨s_n, s_c, s_p, s_z⟩ : Src)).1.av (pointV (⟨s_n, s_c, s_p, s_z⟩ : Src)).2) := by
  exact (show _ = PF (⟨s_n, s_c, s_p, s_z⟩ : Src) from by kernel_rfl).trans (point_on (s := (⟨s_n, s_c, s_p, s_z⟩ : Src)) hp (by decide)).1
theorem m31 : Meets Tryz.prog GLv 31 s31 := by
  refine meetsN mix0 glv G78 Tryz.func31 (by kernel_rfl) (by kernel_rfl) s31 fun args x h => ?_
  unfold s31 at h
  split at h
  . rename_i s_n s_c s_p s_z
    simp only [Option.some.injEq, Prod.mk.injEq] at h
    obtain ⟨hp, rfl⟩ := h
    exact ⟨_, _, by kernel_rfl, e31 s_n s_c s_p s_z hp⟩
  . cases h
noncomputable abbrev Γ79 : List (Nat × Ctr) := (31, s31) :: Γ78
theorem G79 : Sound Tryz.prog GLv Γ79 := G78.cons m31
-- spec.l02DrawLine
noncomputable def s20 : Ctr := fun
  | [.own 66 [.arr s_n [.int .u8] s_c, .val (.int .i64 s_p), .val (.int .u64 s_z)]] => some (pB 20 s_p, outS (lineV (⟨s_n, s_c, s_p, s_z⟩ : Src)).1.av (lineV (⟨s_n, s_c, s_p, s_z⟩ : Src)).2)
  | _ => none
theorem e20 (s_n : Nat) (s_c : NNI) (s_p : Int) (s_z : Int) (hp : (pB 20 s_p) = true) : evN Tryz.prog GLv Γ79 (0) []  Tryz.f20 [.own 66 [.arr s_n [.int .u8] s_c, .val (.int .i64 s_p), .val (.int .u64 s_z)]] = some (outS (lineV (⟨s_n, s_c, s_p, s_z⟩ : Src)).1.av (lineV (⟨s_n, s_c, s_p, s_z⟩ : Src)).2) := by
  exact (show _ = LF (⟨s_n, s_c, s_p, s_z⟩ : Src) from by kernel_rfl).trans (line_on (s := (⟨s_n, s_c, s_p, s_z⟩ : Src)) hp (by decide)).1
theorem m20 : Meets Tryz.prog GLv 20 s20 := by
  refine meetsN mix0 glv G79 Tryz.func20 (by kernel_rfl) (by kernel_rfl) s20 fun args x h => ?_
  unfold s20 at h
  split at h
  . rename_i s_n s_c s_p s_z
    simp only [Option.some.injEq, Prod.mk.injEq] at h
    obtain ⟨hp, rfl⟩ := h
    exact ⟨_, _, by kernel_rfl, e20 s_n s_c s_p s_z hp⟩
  . cases h
noncomputable abbrev Γ80 : List (Nat × Ctr) := (20, s20) :: Γ79
theorem G80 : Sound Tryz.prog GLv Γ80 := G79.cons m20
end Go.Proofs.YtdildcdilhgdkaaGreatDoor
