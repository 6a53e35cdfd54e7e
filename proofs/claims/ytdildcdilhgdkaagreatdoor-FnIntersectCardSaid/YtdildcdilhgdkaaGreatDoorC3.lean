/- Contracts of the program's functions, by the evaluator. -/
import Derived.Test.YtdildcdilhgdkaaGreatDoorC2
import Derived.Test.YtdildcdilhgdkaaGreatDoorPlB
namespace Go.Proofs.YtdildcdilhgdkaaGreatDoor
open Go.Ev
set_option linter.unusedVariables false
set_option linter.unusedSimpArgs false
set_option maxRecDepth 100000
-- spec.l01Square
def s114 : Ctr := fun
  | [.val (.int .i64 x)] => some (sB x, .tup [.val (.int .u64 0), .val (.int .u64 (x * x))])
  | _ => none
theorem e114 (x : Int) (hp : (sB x) = true) : evN Tryz.prog GLv Γ48 (0) []  Tryz.f114 [.val (.int .i64 x)] = some (.tup [.val (.int .u64 0), .val (.int .u64 (x * x))]) := by
  exact (show _ = cond (decide (x < 0)) (sqT (u64w (wr (0 - x)))) (sqT (u64w x)) from by kernel_rfl).trans (sq_ok hp)
theorem m114 : Meets Tryz.prog GLv 114 s114 := by
  refine meetsN mix0 glv G48 Tryz.func114 (by kernel_rfl) (by kernel_rfl) s114 fun args x h => ?_
  unfold s114 at h
  split at h
  . rename_i x
    simp only [Option.some.injEq, Prod.mk.injEq] at h
    obtain ⟨hp, rfl⟩ := h
    exact ⟨_, _, by kernel_rfl, e114 x hp⟩
  . cases h
abbrev Γ49 : List (Nat × Ctr) := (114, s114) :: Γ48
theorem G49 : Sound Tryz.prog GLv Γ49 := G48.cons m114
-- spec.l01Less
def s112 : Ctr := fun
  | [.val (.int .i64 x), .val (.int .i64 y)] => some (sB x && sB y, bv (decide (x * x < 2 * (y * y))))
  | _ => none
theorem e112 (x : Int) (y : Int) (hp : (sB x && sB y) = true) : evN Tryz.prog GLv Γ49 (0) []  Tryz.f112 [.val (.int .i64 x), .val (.int .i64 y)] = some (bv (decide (x * x < 2 * (y * y)))) := by
  rw [Bool.and_eq_true] at hp
  refine (show _ = cond (sB x) (cond (sB y) (cond (decide (0 < u64w (u64w (0 * 2) + (y * y).fdiv (2 ^ min (Int.toNat 63) 64)))) (some (bv true))
      (cond (0 == u64w (u64w (0 * 2) + (y * y).fdiv (2 ^ min (Int.toNat 63) 64))) (some (bv (decide (x * x < u64w (y * y * 2))))) (some (bv false)))) none) none from by kernel_rfl).trans ?_
  rw [hp.1, hp.2]
  exact less_ok hp.1 hp.2
theorem m112 : Meets Tryz.prog GLv 112 s112 := by
  refine meetsN mix0 glv G49 Tryz.func112 (by kernel_rfl) (by kernel_rfl) s112 fun args x h => ?_
  unfold s112 at h
  split at h
  . rename_i x y
    simp only [Option.some.injEq, Prod.mk.injEq] at h
    obtain ⟨hp, rfl⟩ := h
    exact ⟨_, _, by kernel_rfl, e112 x y hp⟩
  . cases h
abbrev Γ50 : List (Nat × Ctr) := (112, s112) :: Γ49
theorem G50 : Sound Tryz.prog GLv Γ50 := G49.cons m112
-- spec.l01Sign
def s103 : Ctr := fun
  | [.agg [.val (.int .i64 x_a), .val (.int .i64 x_b), .val (.int .i64 x_k)]] => some (sB x_a && sB x_b, iv (sgF (⟨x_a, x_b, x_k⟩ : N3)))
  | _ => none
theorem e103 (x_a : Int) (x_b : Int) (x_k : Int) (hp : (sB x_a && sB x_b) = true) : evN Tryz.prog GLv Γ50 (0) []  Tryz.f103 [.agg [.val (.int .i64 x_a), .val (.int .i64 x_b), .val (.int .i64 x_k)]] = some (iv (sgF (⟨x_a, x_b, x_k⟩ : N3))) := by
  refine (show _ = cond (x_a == 0) ( cond (x_b == 0) ( some (iv (0)) ) ( cond (decide (x_a >= 0)) ( cond (decide (x_b >= 0)) ( some (iv (1)) ) ( cond (decide (x_a <= 0)) ( cond (decide (x_b <= 0)) ( some (iv (-1)) ) ( cond (sB x_a && sB x_b) ( cond (decide (x_a * x_a < 2 * (x_b * x_b)) == decide (x_b > 0)) ( some (iv (1)) ) ( some (iv (-1)) ) ) ( none ) ) ) ( cond (sB x_a && sB x_b) ( cond (decide (x_a * x_a < 2 * (x_b * x_b)) == decide (x_b > 0)) ( some (iv (1)) ) ( some (iv (-1)) ) ) ( none ) ) ) ) ( cond (decide (x_a <= 0)) ( cond (decide (x_b <= 0)) ( some (iv (-1)) ) ( cond (sB x_a && sB x_b) ( cond (decide (x_a * x_a < 2 * (x_b * x_b)) == decide (x_b > 0)) ( some (iv (1)) ) ( some (iv (-1)) ) ) ( none ) ) ) ( cond (sB x_a && sB x_b) ( cond (decide (x_a * x_a < 2 * (x_b * x_b)) == decide (x_b > 0)) ( some (iv (1)) ) ( some (iv (-1)) ) ) ( none ) ) ) ) ) ( cond (decide (x_a >= 0)) ( cond (decide (x_b >= 0)) ( some (iv (1)) ) ( cond (decide (x_a <= 0)) ( cond (decide (x_b <= 0)) ( some (iv (-1)) ) ( cond (sB x_a && sB x_b) ( cond (decide (x_a * x_a < 2 * (x_b * x_b)) == decide (x_b > 0)) ( some (iv (1)) ) ( some (iv (-1)) ) ) ( none ) ) ) ( cond (sB x_a && sB x_b) ( cond (decide (x_a * x_a < 2 * (x_b * x_b)) == decide (x_b > 0)) ( some (iv (1)) ) ( some (iv (-1)) ) ) ( none ) ) ) ) ( cond (decide (x_a <= 0)) ( cond (decide (x_b <= 0)) ( some (iv (-1)) ) ( cond (sB x_a && sB x_b) ( cond (decide (x_a * x_a < 2 * (x_b * x_b)) == decide (x_b > 0)) ( some (iv (1)) ) ( some (iv (-1)) ) ) ( none ) ) ) ( cond (sB x_a && sB x_b) ( cond (decide (x_a * x_a < 2 * (x_b * x_b)) == decide (x_b > 0)) ( some (iv (1)) ) ( some (iv (-1)) ) ) ( none ) ) ) ) from by kernel_rfl).trans ?_
  rw [hp]
  show _ = some (iv (sgZ x_a x_b))
  rw [<- sgS_eq]
  unfold sgS
  cases (x_a == 0) <;> cases (x_b == 0) <;> cases decide (x_a >= 0) <;> cases decide (x_b >= 0) <;> cases decide (x_a <= 0) <;> cases decide (x_b <= 0) <;> cases (decide (x_a * x_a < 2 * (x_b * x_b)) == decide (x_b > 0)) <;> rfl
theorem m103 : Meets Tryz.prog GLv 103 s103 := by
  refine meetsN mix0 glv G50 Tryz.func103 (by kernel_rfl) (by kernel_rfl) s103 fun args x h => ?_
  unfold s103 at h
  split at h
  . rename_i x_a x_b x_k
    simp only [Option.some.injEq, Prod.mk.injEq] at h
    obtain ⟨hp, rfl⟩ := h
    exact ⟨_, _, by kernel_rfl, e103 x_a x_b x_k hp⟩
  . cases h
abbrev Γ51 : List (Nat × Ctr) := (103, s103) :: Γ50
theorem G51 : Sound Tryz.prog GLv Γ51 := G50.cons m103
-- spec.l02Side
def s93 : Ctr := fun
  | [.agg [.val (.int .i64 l_d), .val (.int .i64 l_a), .val (.int .i64 l_b), .val (.int .i64 l_k)], .agg [.val (.int .i64 p_xa), .val (.int .i64 p_xb), .val (.int .i64 p_xk), .val (.int .i64 p_ya), .val (.int .i64 p_yb), .val (.int .i64 p_yk)]] => some ((inB (wr (l_d + 4)) 0 15 && pkD (nrm l_d) (⟨⟨p_xa, p_xb, p_xk⟩, ⟨p_ya, p_yb, p_yk⟩⟩ : P2)) && ((pk (dotF (nrm l_d) (⟨⟨p_xa, p_xb, p_xk⟩, ⟨p_ya, p_yb, p_yk⟩⟩ : P2)) (⟨l_a, l_b, l_k⟩ : N3)) && (sB (subF (dotF (nrm l_d) (⟨⟨p_xa, p_xb, p_xk⟩, ⟨p_ya, p_yb, p_yk⟩⟩ : P2)) (⟨l_a, l_b, l_k⟩ : N3)).a && sB (subF (dotF (nrm l_d) (⟨⟨p_xa, p_xb, p_xk⟩, ⟨p_ya, p_yb, p_yk⟩⟩ : P2)) (⟨l_a, l_b, l_k⟩ : N3)).b)), iv (sgF (subF (dotF (nrm l_d) (⟨⟨p_xa, p_xb, p_xk⟩, ⟨p_ya, p_yb, p_yk⟩⟩ : P2)) (⟨l_a, l_b, l_k⟩ : N3))))
  | _ => none
theorem e93 (l_d : Int) (l_a : Int) (l_b : Int) (l_k : Int) (p_xa : Int) (p_xb : Int) (p_xk : Int) (p_ya : Int) (p_yb : Int) (p_yk : Int) (hp : ((inB (wr (l_d + 4)) 0 15 && pkD (nrm l_d) (⟨⟨p_xa, p_xb, p_xk⟩, ⟨p_ya, p_yb, p_yk⟩⟩ : P2)) && ((pk (dotF (nrm l_d) (⟨⟨p_xa, p_xb, p_xk⟩, ⟨p_ya, p_yb, p_yk⟩⟩ : P2)) (⟨l_a, l_b, l_k⟩ : N3)) && (sB (subF (dotF (nrm l_d) (⟨⟨p_xa, p_xb, p_xk⟩, ⟨p_ya, p_yb, p_yk⟩⟩ : P2)) (⟨l_a, l_b, l_k⟩ : N3)).a && sB (subF (dotF (nrm l_d) (⟨⟨p_xa, p_xb, p_xk⟩, ⟨p_ya, p_yb, p_yk⟩⟩ : P2)) (⟨l_a, l_b, l_k⟩ : N3)).b))) = true) : evN Tryz.prog GLv Γ51 (0) []  Tryz.f93 [.agg [.val (.int .i64 l_d), .val (.int .i64 l_a), .val (.int .i64 l_b), .val (.int .i64 l_k)], .agg [.val (.int .i64 p_xa), .val (.int .i64 p_xb), .val (.int .i64 p_xk), .val (.int .i64 p_ya), .val (.int .i64 p_yb), .val (.int .i64 p_yk)]] = some (iv (sgF (subF (dotF (nrm l_d) (⟨⟨p_xa, p_xb, p_xk⟩, ⟨p_ya, p_yb, p_yk⟩⟩ : P2)) (⟨l_a, l_b, l_k⟩ : N3)))) := by
  simp only [Bool.and_eq_true] at hp
  obtain ⟨⟨h1, h2⟩, h3, h4, h5⟩ := hp
  refine (show _ = cond (inB (wr (l_d + 4)) 0 15 && pkD (nrm l_d) (⟨⟨p_xa, p_xb, p_xk⟩, ⟨p_ya, p_yb, p_yk⟩⟩ : P2)) (cond (pk (dotF (nrm l_d) (⟨⟨p_xa, p_xb, p_xk⟩, ⟨p_ya, p_yb, p_yk⟩⟩ : P2)) (⟨l_a, l_b, l_k⟩ : N3)) (cond (sB (subF (dotF (nrm l_d) (⟨⟨p_xa, p_xb, p_xk⟩, ⟨p_ya, p_yb, p_yk⟩⟩ : P2)) (⟨l_a, l_b, l_k⟩ : N3)).a && sB (subF (dotF (nrm l_d) (⟨⟨p_xa, p_xb, p_xk⟩, ⟨p_ya, p_yb, p_yk⟩⟩ : P2)) (⟨l_a, l_b, l_k⟩ : N3)).b) (some (iv (sgF (subF (dotF (nrm l_d) (⟨⟨p_xa, p_xb, p_xk⟩, ⟨p_ya, p_yb, p_yk⟩⟩ : P2)) (⟨l_a, l_b, l_k⟩ : N3))))) none) none) none from by kernel_rfl).trans ?_
  rw [h1, h2, h3, h4, h5]
  rfl
theorem m93 : Meets Tryz.prog GLv 93 s93 := by
  refine meetsN mix0 glv G51 Tryz.func93 (by kernel_rfl) (by kernel_rfl) s93 fun args x h => ?_
  unfold s93 at h
  split at h
  . rename_i l_d l_a l_b l_k p_xa p_xb p_xk p_ya p_yb p_yk
    simp only [Option.some.injEq, Prod.mk.injEq] at h
    obtain ⟨hp, rfl⟩ := h
    exact ⟨_, _, by kernel_rfl, e93 l_d l_a l_b l_k p_xa p_xb p_xk p_ya p_yb p_yk hp⟩
  . cases h
abbrev Γ52 : List (Nat × Ctr) := (93, s93) :: Γ51
theorem G52 : Sound Tryz.prog GLv Γ52 := G51.cons m93
end Go.Proofs.YtdildcdilhgdkaaGreatDoor
