/- Contracts of the program's functions, by the evaluator. -/
import Derived.Test.YtkmeacninbnmaaaDoorU1
import Derived.Test.YtkmeacninbnmaaaDoorPlS
import Derived.Test.YtkmeacninbnmaaaDoorShg
namespace Go.Proofs.YtkmeacninbnmaaaDoor
open Go.Ev Go.RowKit
set_option linter.unusedVariables false
set_option linter.unusedSimpArgs false
set_option maxRecDepth 100000

theorem m60 : Meets Tryd.prog GLv 60 joinS := Meets.join ⟨_, Tryd.func60, by kernel_rfl, by kernel_rfl⟩ (fun a c sep w => Any.strings_Join_none Tryd.lays156 Tryd.Builder_Extra_156 a c sep w)
  fun bk o c xs sep w h1 h2 h3 h4 h5 => Any.strings_Join Tryd.lays156 Tryd.Builder_Extra_156 bk o c xs sep w h1 h2 h3 h4 h5
abbrev Γ59 : List (Nat × Ctr) := (60, joinS) :: Γ58
theorem G59 : Sound Tryd.prog GLv Γ59 := G58.cons m60

-- spec.l19Conditions
def s49 : Ctr := fun
  | [] => some (true, sliceAV 4 1 [.string ⟨[].toArray⟩, .string ⟨[107, 97, 119, 97, 115, 97, 107, 105].toArray⟩, .string ⟨[109, 97, 101, 107, 97, 119, 97].toArray⟩, .string ⟨[108, 105, 116, 116, 108, 101].toArray⟩])
  | _ => none

theorem e49  : evN Tryd.prog GLv Γ59 (0) []  Tryd.f49 [] = some (sliceAV 4 1 [.string ⟨[].toArray⟩, .string ⟨[107, 97, 119, 97, 115, 97, 107, 105].toArray⟩, .string ⟨[109, 97, 101, 107, 97, 119, 97].toArray⟩, .string ⟨[108, 105, 116, 116, 108, 101].toArray⟩]) := by
  kernel_rfl
theorem m49 : Meets Tryd.prog GLv 49 s49 := by
  refine meetsN mix0 glv G59 Tryd.func49 (by kernel_rfl) (by kernel_rfl) s49 fun args x h => ?_
  unfold s49 at h
  split at h
  · simp only [Option.some.injEq, Prod.mk.injEq] at h
    obtain ⟨hp, rfl⟩ := h
    exact ⟨_, _, by kernel_rfl, e49 ⟩
  · cases h
abbrev Γ60 : List (Nat × Ctr) := (49, s49) :: Γ59
theorem G60 : Sound Tryd.prog GLv Γ60 := G59.cons m49

end Go.Proofs.YtkmeacninbnmaaaDoor
