/- Contracts of the program's functions, by the evaluator. -/
import Derived.Test.YtigmgpblnoecpaaC3
import Derived.Test.YtigmgpblnoecpaaSgnD
namespace Go.Proofs.Ytigmgpblnoecpaa
open Go.Ev
set_option linter.unusedVariables false
set_option linter.unusedSimpArgs false
set_option maxRecDepth 100000

-- laws.FnDivide
def s4 : Ctr := fun
  | [.arr b_n [.int .u8] b_c] => some (true, bv true)
  | _ => none

theorem r4_17 (x : N3) : fromR Try.prog GL0 Γ45 0 [] [(4, [false, false, false, true, true]), (12, [false, false, false, true, true]), (17, [false, false, false, true])] [] Try.f4 17 (stL Try.f4.ntmps [.non, .non, .non, .own 24 [iv x.a, iv x.b, iv x.k]]) = dT17 x := by kernel_rfl
theorem r4_12 (x y : N3) : fromR Try.prog GL0 Γ45 0 [] [(4, [false, false, false, true, true]), (12, [false, false, false, true, true]), (17, [false, false, false, true])] [] Try.f4 12 (stL Try.f4.ntmps [.non, .non, .non, .own 24 [iv x.a, iv x.b, iv x.k], .own 24 [iv y.a, iv y.b, iv y.k]]) = dT12 x y := by
  refine (show _ = cond (opb x y (mulF x y)) (cond (sgV y != 0) (cond (!dok (opn x y (mulF x y)) y) no (cond (!eqN (dq (opn x y (mulF x y)) y) x) no (fromR Try.prog GL0 Γ45 0 [] [(4, [false, false, false, true, true]), (12, [false, false, false, true, true]), (17, [false, false, false, true])] [] Try.f4 17 (stL Try.f4.ntmps [.non, .non, .non, .own 24 [iv x.a, iv x.b, iv x.k]])))) (fromR Try.prog GL0 Γ45 0 [] [(4, [false, false, false, true, true]), (12, [false, false, false, true, true]), (17, [false, false, false, true])] [] Try.f4 17 (stL Try.f4.ntmps [.non, .non, .non, .own 24 [iv x.a, iv x.b, iv x.k]]))) (fromR Try.prog GL0 Γ45 0 [] [(4, [false, false, false, true, true]), (12, [false, false, false, true, true]), (17, [false, false, false, true])] [] Try.f4 17 (stL Try.f4.ntmps [.non, .non, .non, .own 24 [iv x.a, iv x.b, iv x.k]])) from by kernel_rfl).trans ?_
  rw [r4_17]
  rfl
theorem r4_4 (x y : N3) : fromR Try.prog GL0 Γ45 0 [] [(4, [false, false, false, true, true]), (12, [false, false, false, true, true]), (17, [false, false, false, true])] [] Try.f4 4 (stL Try.f4.ntmps [.non, .non, .non, .own 24 [iv x.a, iv x.b, iv x.k], .own 24 [iv y.a, iv y.b, iv y.k]]) = dT4 x y := by
  refine (show _ = cond (!(dok x y == dok x y)) no (cond (dok x y) (cond (!opb (dq x y) y (mulF (dq x y) y)) no (cond (!eqN (opn (dq x y) y (mulF (dq x y) y)) x) no (cond (!validB (dq x y)) no (fromR Try.prog GL0 Γ45 0 [] [(4, [false, false, false, true, true]), (12, [false, false, false, true, true]), (17, [false, false, false, true])] [] Try.f4 12 (stL Try.f4.ntmps [.non, .non, .non, .own 24 [iv x.a, iv x.b, iv x.k], .own 24 [iv y.a, iv y.b, iv y.k]]))))) (fromR Try.prog GL0 Γ45 0 [] [(4, [false, false, false, true, true]), (12, [false, false, false, true, true]), (17, [false, false, false, true])] [] Try.f4 12 (stL Try.f4.ntmps [.non, .non, .non, .own 24 [iv x.a, iv x.b, iv x.k], .own 24 [iv y.a, iv y.b, iv y.k]]))) from by kernel_rfl).trans ?_
  rw [r4_12]
  rfl

theorem e4 (b_n : Nat) (b_c : Nat → Nat → Int) : evM Try.prog GL0 Γ45 (0) [] [(4, [false, false, false, true, true]), (12, [false, false, false, true, true]), (17, [false, false, false, true])] Try.f4 [.arr b_n [.int .u8] b_c] = some (bv true) := by
  obtain ⟨⟨hx, hy, hz⟩, _⟩ := e8_ok (s := (srcOf b_n b_c)) rfl
  refine (show _ = cond (decide ((b_n : Int) > 1048576)) (some (bv true)) (fromR Try.prog GL0 Γ45 0 [] [(4, [false, false, false, true, true]), (12, [false, false, false, true, true]), (17, [false, false, false, true])] [] Try.f4 4 (stL Try.f4.ntmps [.non, .non, .non, .own 24 [iv (e8x (srcOf b_n b_c)).a, iv (e8x (srcOf b_n b_c)).b, iv (e8x (srcOf b_n b_c)).k], .own 24 [iv (e8y (srcOf b_n b_c)).a, iv (e8y (srcOf b_n b_c)).b, iv (e8y (srcOf b_n b_c)).k]])) from by kernel_rfl).trans ?_
  rw [r4_4, div_ok hx hy]
  cases decide ((b_n : Int) > 1048576) <;> rfl
theorem m4 : Meets Try.prog GL0 4 s4 := by
  refine meetsM mix0 gl0 G45 Try.func4 (by kernel_rfl) (by kernel_rfl) s4 fun args x h => ?_
  unfold s4 at h
  split at h
  · rename_i b_n b_c
    simp only [Option.some.injEq, Prod.mk.injEq] at h
    obtain ⟨hp, rfl⟩ := h
    exact ⟨_, _, _, by kernel_rfl, e4 b_n b_c⟩
  · cases h
abbrev Γ46 : List (Nat × Ctr) := (4, s4) :: Γ45
theorem G46 : Sound Try.prog GL0 Γ46 := G45.cons m4

end Go.Proofs.Ytigmgpblnoecpaa
