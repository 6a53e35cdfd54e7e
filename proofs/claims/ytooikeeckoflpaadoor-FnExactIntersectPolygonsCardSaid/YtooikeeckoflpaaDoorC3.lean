/- Contracts of the program's functions, by the evaluator. -/
import Derived.Test.YtooikeeckoflpaaDoorC2
import Derived.Test.YtooikeeckoflpaaDoorPlB
namespace Go.Proofs.YtooikeeckoflpaaDoor
open Go.Ev
set_option linter.unusedVariables false
set_option linter.unusedSimpArgs false
set_option maxRecDepth 100000

-- spec.l01Square
def s125 : Ctr := fun
  | [.val (.int .i64 x)] => some (sB x, .tup [.val (.int .u64 0), .val (.int .u64 (x * x))])
  | _ => none

theorem e125 (x : Int) (hp : (sB x) = true) : evN Tryd.prog GLv Γ55 (0) []  Tryd.f125 [.val (.int .i64 x)] = some (.tup [.val (.int .u64 0), .val (.int .u64 (x * x))]) := by
  exact (show _ = cond (decide (x < 0)) (sqT (u64w (wr (0 - x)))) (sqT (u64w x)) from by kernel_rfl).trans (sq_ok hp)
theorem m125 : Meets Tryd.prog GLv 125 s125 := by
  refine meetsN mix0 glv G55 Tryd.func125 (by kernel_rfl) (by kernel_rfl) s125 fun args x h => ?_
  unfold s125 at h
  split at h
  · rename_i x
    simp only [Option.some.injEq, Prod.mk.injEq] at h
    obtain ⟨hp, rfl⟩ := h
    exact ⟨_, _, by kernel_rfl, e125 x hp⟩
  · cases h
abbrev Γ56 : List (Nat × Ctr) := (125, s125) :: Γ55
theorem G56 : Sound Tryd.prog GLv Γ56 := G55.cons m125

-- spec.l01Less
def s122 : Ctr := fun
  | [.val (.int .i64 x), .val (.int .i64 y)] => some (sB x && sB y, bv (decide (x * x < 2 * (y * y))))
  | _ => none

theorem e122 (x : Int) (y : Int) (hp : (sB x && sB y) = true) : evN Tryd.prog GLv Γ56 (0) []  Tryd.f122 [.val (.int .i64 x), .val (.int .i64 y)] = some (bv (decide (x * x < 2 * (y * y)))) := by
  rw [Bool.and_eq_true] at hp
  refine (show _ = cond (sB x) (cond (sB y) (cond (decide (0 < u64w (u64w (0 * 2) + (y * y).fdiv (2 ^ min (Int.toNat 63) 64)))) (some (bv true))
      (cond (0 == u64w (u64w (0 * 2) + (y * y).fdiv (2 ^ min (Int.toNat 63) 64))) (some (bv (decide (x * x < u64w (y * y * 2))))) (some (bv false)))) none) none from by kernel_rfl).trans ?_
  rw [hp.1, hp.2]
  exact less_ok hp.1 hp.2
theorem m122 : Meets Tryd.prog GLv 122 s122 := by
  refine meetsN mix0 glv G56 Tryd.func122 (by kernel_rfl) (by kernel_rfl) s122 fun args x h => ?_
  unfold s122 at h
  split at h
  · rename_i x y
    simp only [Option.some.injEq, Prod.mk.injEq] at h
    obtain ⟨hp, rfl⟩ := h
    exact ⟨_, _, by kernel_rfl, e122 x y hp⟩
  · cases h
abbrev Γ57 : List (Nat × Ctr) := (122, s122) :: Γ56
theorem G57 : Sound Tryd.prog GLv Γ57 := G56.cons m122

-- spec.l01Sign
def s110 : Ctr := fun
  | [.agg [.val (.int .i64 x_a), .val (.int .i64 x_b), .val (.int .i64 x_k)]] => some (sB x_a && sB x_b, iv (sgF (⟨x_a, x_b, x_k⟩ : N3)))
  | _ => none

theorem e110 (x_a : Int) (x_b : Int) (x_k : Int) (hp : (sB x_a && sB x_b) = true) : evN Tryd.prog GLv Γ57 (0) []  Tryd.f110 [.agg [.val (.int .i64 x_a), .val (.int .i64 x_b), .val (.int .i64 x_k)]] = some (iv (sgF (⟨x_a, x_b, x_k⟩ : N3))) := by
  refine (show _ = cond (x_a == 0) ( cond (x_b == 0) ( some (iv (0)) ) ( cond (decide (x_a ≥ 0)) ( cond (decide (x_b ≥ 0)) ( some (iv (1)) ) ( cond (decide (x_a ≤ 0)) ( cond (decide (x_b ≤ 0)) ( some (iv (-1)) ) ( cond (sB x_a && sB x_b) ( cond (decide (x_a * x_a < 2 * (x_b * x_b)) == decide (x_b > 0)) ( some (iv (1)) ) ( some (iv (-1)) ) ) ( none ) ) ) ( cond (sB x_a && sB x_b) ( cond (decide (x_a * x_a < 2 * (x_b * x_b)) == decide (x_b > 0)) ( some (iv (1)) ) ( some (iv (-1)) ) ) ( none ) ) ) ) ( cond (decide (x_a ≤ 0)) ( cond (decide (x_b ≤ 0)) ( some (iv (-1)) ) ( cond (sB x_a && sB x_b) ( cond (decide (x_a * x_a < 2 * (x_b * x_b)) == decide (x_b > 0)) ( some (iv (1)) ) ( some (iv (-1)) ) ) ( none ) ) ) ( cond (sB x_a && sB x_b) ( cond (decide (x_a * x_a < 2 * (x_b * x_b)) == decide (x_b > 0)) ( some (iv (1)) ) ( some (iv (-1)) ) ) ( none ) ) ) ) ) ( cond (decide (x_a ≥ 0)) ( cond (decide (x_b ≥ 0)) ( some (iv (1)) ) ( cond (decide (x_a ≤ 0)) ( cond (decide (x_b ≤ 0)) ( some (iv (-1)) ) ( cond (sB x_a && sB x_b) ( cond (decide (x_a * x_a < 2 * (x_b * x_b)) == decide (x_b > 0)) ( some (iv (1)) ) ( some (iv (-1)) ) ) ( none ) ) ) ( cond (sB x_a && sB x_b) ( cond (decide (x_a * x_a < 2 * (x_b * x_b)) == decide (x_b > 0)) ( some (iv (1)) ) ( some (iv (-1)) ) ) ( none ) ) ) ) ( cond (decide (x_a ≤ 0)) ( cond (decide (x_b ≤ 0)) ( some (iv (-1)) ) ( cond (sB x_a && sB x_b) ( cond (decide (x_a * x_a < 2 * (x_b * x_b)) == decide (x_b > 0)) ( some (iv (1)) ) ( some (iv (-1)) ) ) ( none ) ) ) ( cond (sB x_a && sB x_b) ( cond (decide (x_a * x_a < 2 * (x_b * x_b)) == decide (x_b > 0)) ( some (iv (1)) ) ( some (iv (-1)) ) ) ( none ) ) ) ) from by kernel_rfl).trans ?_
  rw [hp]
  show _ = some (iv (sgZ x_a x_b))
  rw [← sgS_eq]
  unfold sgS
  cases (x_a == 0) <;> cases (x_b == 0) <;> cases decide (x_a ≥ 0) <;> cases decide (x_b ≥ 0) <;> cases decide (x_a ≤ 0) <;> cases decide (x_b ≤ 0) <;> cases (decide (x_a * x_a < 2 * (x_b * x_b)) == decide (x_b > 0)) <;> rfl
theorem m110 : Meets Tryd.prog GLv 110 s110 := by
  refine meetsN mix0 glv G57 Tryd.func110 (by kernel_rfl) (by kernel_rfl) s110 fun args x h => ?_
  unfold s110 at h
  split at h
  · rename_i x_a x_b x_k
    simp only [Option.some.injEq, Prod.mk.injEq] at h
    obtain ⟨hp, rfl⟩ := h
    exact ⟨_, _, by kernel_rfl, e110 x_a x_b x_k hp⟩
  · cases h
abbrev Γ58 : List (Nat × Ctr) := (110, s110) :: Γ57
theorem G58 : Sound Tryd.prog GLv Γ58 := G57.cons m110

-- spec.l02Side
def s100 : Ctr := fun
  | [.agg [.val (.int .i64 l_d), .val (.int .i64 l_a), .val (.int .i64 l_b), .val (.int .i64 l_k)], .agg [.val (.int .i64 p_xa), .val (.int .i64 p_xb), .val (.int .i64 p_xk), .val (.int .i64 p_ya), .val (.int .i64 p_yb), .val (.int .i64 p_yk)]] => some ((inB (wr (l_d + 4)) 0 15 && pkD (nrm l_d) (⟨⟨p_xa, p_xb, p_xk⟩, ⟨p_ya, p_yb, p_yk⟩⟩ : P2)) && ((pk (dotF (nrm l_d) (⟨⟨p_xa, p_xb, p_xk⟩, ⟨p_ya, p_yb, p_yk⟩⟩ : P2)) (⟨l_a, l_b, l_k⟩ : N3)) && (sB (subF (dotF (nrm l_d) (⟨⟨p_xa, p_xb, p_xk⟩, ⟨p_ya, p_yb, p_yk⟩⟩ : P2)) (⟨l_a, l_b, l_k⟩ : N3)).a && sB (subF (dotF (nrm l_d) (⟨⟨p_xa, p_xb, p_xk⟩, ⟨p_ya, p_yb, p_yk⟩⟩ : P2)) (⟨l_a, l_b, l_k⟩ : N3)).b)), iv (sgF (subF (dotF (nrm l_d) (⟨⟨p_xa, p_xb, p_xk⟩, ⟨p_ya, p_yb, p_yk⟩⟩ : P2)) (⟨l_a, l_b, l_k⟩ : N3))))
  | _ => none

theorem e100 (l_d : Int) (l_a : Int) (l_b : Int) (l_k : Int) (p_xa : Int) (p_xb : Int) (p_xk : Int) (p_ya : Int) (p_yb : Int) (p_yk : Int) (hp : ((inB (wr (l_d + 4)) 0 15 && pkD (nrm l_d) (⟨⟨p_xa, p_xb, p_xk⟩, ⟨p_ya, p_yb, p_yk⟩⟩ : P2)) && ((pk (dotF (nrm l_d) (⟨⟨p_xa, p_xb, p_xk⟩, ⟨p_ya, p_yb, p_yk⟩⟩ : P2)) (⟨l_a, l_b, l_k⟩ : N3)) && (sB (subF (dotF (nrm l_d) (⟨⟨p_xa, p_xb, p_xk⟩, ⟨p_ya, p_yb, p_yk⟩⟩ : P2)) (⟨l_a, l_b, l_k⟩ : N3)).a && sB (subF (dotF (nrm l_d) (⟨⟨p_xa, p_xb, p_xk⟩, ⟨p_ya, p_yb, p_yk⟩⟩ : P2)) (⟨l_a, l_b, l_k⟩ : N3)).b))) = true) : evN Tryd.prog GLv Γ58 (0) []  Tryd.f100 [.agg [.val (.int .i64 l_d), .val (.int .i64 l_a), .val (.int .i64 l_b), .val (.int .i64 l_k)], .agg [.val (.int .i64 p_xa), .val (.int .i64 p_xb), .val (.int .i64 p_xk), .val (.int .i64 p_ya), .val (.int .i64 p_yb), .val (.int .i64 p_yk)]] = some (iv (sgF (subF (dotF (nrm l_d) (⟨⟨p_xa, p_xb, p_xk⟩, ⟨p_ya, p_yb, p_yk⟩⟩ : P2)) (⟨l_a, l_b, l_k⟩ : N3)))) := by
  simp only [Bool.and_eq_true] at hp
  obtain ⟨⟨h1, h2⟩, h3, h4, h5⟩ := hp
  refine (show _ = cond (inB (wr (l_d + 4)) 0 15 && pkD (nrm l_d) (⟨⟨p_xa, p_xb, p_xk⟩, ⟨p_ya, p_yb, p_yk⟩⟩ : P2)) (cond (pk (dotF (nrm l_d) (⟨⟨p_xa, p_xb, p_xk⟩, ⟨p_ya, p_yb, p_yk⟩⟩ : P2)) (⟨l_a, l_b, l_k⟩ : N3)) (cond (sB (subF (dotF (nrm l_d) (⟨⟨p_xa, p_xb, p_xk⟩, ⟨p_ya, p_yb, p_yk⟩⟩ : P2)) (⟨l_a, l_b, l_k⟩ : N3)).a && sB (subF (dotF (nrm l_d) (⟨⟨p_xa, p_xb, p_xk⟩, ⟨p_ya, p_yb, p_yk⟩⟩ : P2)) (⟨l_a, l_b, l_k⟩ : N3)).b) (some (iv (sgF (subF (dotF (nrm l_d) (⟨⟨p_xa, p_xb, p_xk⟩, ⟨p_ya, p_yb, p_yk⟩⟩ : P2)) (⟨l_a, l_b, l_k⟩ : N3))))) none) none) none from by kernel_rfl).trans ?_
  rw [h1, h2, h3, h4, h5]
  rfl
theorem m100 : Meets Tryd.prog GLv 100 s100 := by
  refine meetsN mix0 glv G58 Tryd.func100 (by kernel_rfl) (by kernel_rfl) s100 fun args x h => ?_
  unfold s100 at h
  split at h
  · rename_i l_d l_a l_b l_k p_xa p_xb p_xk p_ya p_yb p_yk
    simp only [Option.some.injEq, Prod.mk.injEq] at h
    obtain ⟨hp, rfl⟩ := h
    exact ⟨_, _, by kernel_rfl, e100 l_d l_a l_b l_k p_xa p_xb p_xk p_ya p_yb p_yk hp⟩
  · cases h
abbrev Γ59 : List (Nat × Ctr) := (100, s100) :: Γ58
theorem G59 : Sound Tryd.prog GLv Γ59 := G58.cons m100

end Go.Proofs.YtooikeeckoflpaaDoor
