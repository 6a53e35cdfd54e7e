/- Contracts of the program's functions, by the evaluator. -/
import Derived.Test.YtlcopddgplbdhaaGreatDoorC2
import Derived.Test.YtlcopddgplbdhaaGreatDoorPlB
namespace Go.Proofs.YtlcopddgplbdhaaGreatDoor
open Go.Ev
set_option linter.unusedVariables false
set_option linter.unusedSimpArgs false
set_option maxRecDepth 100000
-- spec.l01Square
def s134 : Ctr := fun
 | [iv x] => some (sB x, .tup [.val (.int .u64 0), .val (.int .u64 (x * x))])
 | _ => none
theorem e134 (x : Int) (hp : (sB x) = true) : evN Tryz.prog GLv Γ41 (0) []  Tryz.f134 [iv x] = some (.tup [.val (.int .u64 0), .val (.int .u64 (x * x))]) := by
 exact (show _ = cond (decide (x < 0)) (sqT (u64w (wr (0 - x)))) (sqT (u64w x)) from by kernel_rfl).trans (sq_ok hp)
theorem m134 : MT 134 s134 := by
 refine meetsN mix0 glv G41 Tryz.func134 (by kernel_rfl) (by kernel_rfl) s134 fun args x h => ?_
 unfold s134 at h
 split at h
 ·rename_i x
  obtain ⟨hp, rfl⟩ := sm_inj h
  exact ⟨_, _, by kernel_rfl, e134 x hp⟩
 ·cases h
abbrev Γ42 : LC := (134, s134) :: Γ41
theorem G42 : SD Γ42 := G41.cons m134
-- spec.l01Less
def s103 : Ctr := fun
 | [iv x, iv y] => some (sB x && sB y, bv (decide (x * x < 2 * (y * y))))
 | _ => none
theorem e103 (x : Int) (y : Int) (hp : (sB x && sB y) = true) : evN Tryz.prog GLv Γ42 (0) []  Tryz.f103 [iv x, iv y] = some (bv (decide (x * x < 2 * (y * y)))) := by
 rw [Bool.and_eq_true] at hp
 refine (show _ = cond (sB x) (cond (sB y) (cond (decide (0 < u64w (u64w (0 * 2) + (y * y).fdiv (2 ^ min (Int.toNat 63) 64)))) (some (bv true))
   (cond (0 == u64w (u64w (0 * 2) + (y * y).fdiv (2 ^ min (Int.toNat 63) 64))) (some (bv (decide (x * x < u64w (y * y * 2))))) (some (bv false)))) none) none from by kernel_rfl).trans ?_
 rw [hp.1, hp.2]
 exact less_ok hp.1 hp.2
theorem m103 : MT 103 s103 := by
 refine meetsN mix0 glv G42 Tryz.func103 (by kernel_rfl) (by kernel_rfl) s103 fun args x h => ?_
 unfold s103 at h
 split at h
 ·rename_i x y
  obtain ⟨hp, rfl⟩ := sm_inj h
  exact ⟨_, _, by kernel_rfl, e103 x y hp⟩
 ·cases h
abbrev Γ43 : LC := (103, s103) :: Γ42
theorem G43 : SD Γ43 := G42.cons m103
-- spec.l01Sign
def s69 : Ctr := fun
 | [.agg [iv x_a, iv x_b, iv x_k]] => some (sB x_a && sB x_b, iv (sgF (⟨x_a, x_b, x_k⟩ : N3)))
 | _ => none
theorem e69 (x_a : Int) (x_b : Int) (x_k : Int) (hp : (sB x_a && sB x_b) = true) : evN Tryz.prog GLv Γ43 (0) []  Tryz.f69 [.agg [iv x_a, iv x_b, iv x_k]] = some (iv (sgF (⟨x_a, x_b, x_k⟩ : N3))) := by
 refine (show _ = cond (x_a == 0) ( cond (x_b == 0) ( some (iv (0)) ) ( cond (decide (x_a >= 0)) ( cond (decide (x_b >= 0)) ( some (iv (1)) ) ( cond (decide (x_a <= 0)) ( cond (decide (x_b <= 0)) ( some (iv (-1)) ) ( cond (sB x_a && sB x_b) ( cond (decide (x_a * x_a < 2 * (x_b * x_b)) == decide (x_b > 0)) ( some (iv (1)) ) ( some (iv (-1)) ) ) ( none ) ) ) ( cond (sB x_a && sB x_b) ( cond (decide (x_a * x_a < 2 * (x_b * x_b)) == decide (x_b > 0)) ( some (iv (1)) ) ( some (iv (-1)) ) ) ( none ) ) ) ) ( cond (decide (x_a <= 0)) ( cond (decide (x_b <= 0)) ( some (iv (-1)) ) ( cond (sB x_a && sB x_b) ( cond (decide (x_a * x_a < 2 * (x_b * x_b)) == decide (x_b > 0)) ( some (iv (1)) ) ( some (iv (-1)) ) ) ( none ) ) ) ( cond (sB x_a && sB x_b) ( cond (decide (x_a * x_a < 2 * (x_b * x_b)) == decide (x_b > 0)) ( some (iv (1)) ) ( some (iv (-1)) ) ) ( none ) ) ) ) ) ( cond (decide (x_a >= 0)) ( cond (decide (x_b >= 0)) ( some (iv (1)) ) ( cond (decide (x_a <= 0)) ( cond (decide (x_b <= 0)) ( some (iv (-1)) ) ( cond (sB x_a && sB x_b) ( cond (decide (x_a * x_a < 2 * (x_b * x_b)) == decide (x_b > 0)) ( some (iv (1)) ) ( some (iv (-1)) ) ) ( none ) ) ) ( cond (sB x_a && sB x_b) ( cond (decide (x_a * x_a < 2 * (x_b * x_b)) == decide (x_b > 0)) ( some (iv (1)) ) ( some (iv (-1)) ) ) ( none ) ) ) ) ( cond (decide (x_a <= 0)) ( cond (decide (x_b <= 0)) ( some (iv (-1)) ) ( cond (sB x_a && sB x_b) ( cond (decide (x_a * x_a < 2 * (x_b * x_b)) == decide (x_b > 0)) ( some (iv (1)) ) ( some (iv (-1)) ) ) ( none ) ) ) ( cond (sB x_a && sB x_b) ( cond (decide (x_a * x_a < 2 * (x_b * x_b)) == decide (x_b > 0)) ( some (iv (1)) ) ( some (iv (-1)) ) ) ( none ) ) ) ) from by kernel_rfl).trans ?_
 rw [hp]
 show _ = some (iv (sgZ x_a x_b))
 rw [<- sgS_eq]
 unfold sgS
 cases (x_a == 0) <;> cases (x_b == 0) <;> cases decide (x_a >= 0) <;> cases decide (x_b >= 0) <;> cases decide (x_a <= 0) <;> cases decide (x_b <= 0) <;> cases (decide (x_a * x_a < 2 * (x_b * x_b)) == decide (x_b > 0)) <;> rfl
theorem m69 : MT 69 s69 := by
 refine meetsN mix0 glv G43 Tryz.func69 (by kernel_rfl) (by kernel_rfl) s69 fun args x h => ?_
 unfold s69 at h
 split at h
 ·rename_i x_a x_b x_k
  obtain ⟨hp, rfl⟩ := sm_inj h
  exact ⟨_, _, by kernel_rfl, e69 x_a x_b x_k hp⟩
 ·cases h
abbrev Γ44 : LC := (69, s69) :: Γ43
theorem G44 : SD Γ44 := G43.cons m69
-- spec.l02Side
def s138 : Ctr := fun
 | [.agg [iv l_d, iv l_a, iv l_b, iv l_k], .agg [iv p_xa, iv p_xb, iv p_xk, iv p_ya, iv p_yb, iv p_yk]] => some ((inB (wr (l_d + 4)) 0 15 && pkD (nrm l_d) (⟨⟨p_xa, p_xb, p_xk⟩, ⟨p_ya, p_yb, p_yk⟩⟩ : P2)) && ((pk (dotF (nrm l_d) (⟨⟨p_xa, p_xb, p_xk⟩, ⟨p_ya, p_yb, p_yk⟩⟩ : P2)) (⟨l_a, l_b, l_k⟩ : N3)) && (sB (subF (dotF (nrm l_d) (⟨⟨p_xa, p_xb, p_xk⟩, ⟨p_ya, p_yb, p_yk⟩⟩ : P2)) (⟨l_a, l_b, l_k⟩ : N3)).a && sB (subF (dotF (nrm l_d) (⟨⟨p_xa, p_xb, p_xk⟩, ⟨p_ya, p_yb, p_yk⟩⟩ : P2)) (⟨l_a, l_b, l_k⟩ : N3)).b)), iv (sgF (subF (dotF (nrm l_d) (⟨⟨p_xa, p_xb, p_xk⟩, ⟨p_ya, p_yb, p_yk⟩⟩ : P2)) (⟨l_a, l_b, l_k⟩ : N3))))
 | _ => none
theorem e138 (l_d : Int) (l_a : Int) (l_b : Int) (l_k : Int) (p_xa : Int) (p_xb : Int) (p_xk : Int) (p_ya : Int) (p_yb : Int) (p_yk : Int) (hp : ((inB (wr (l_d + 4)) 0 15 && pkD (nrm l_d) (⟨⟨p_xa, p_xb, p_xk⟩, ⟨p_ya, p_yb, p_yk⟩⟩ : P2)) && ((pk (dotF (nrm l_d) (⟨⟨p_xa, p_xb, p_xk⟩, ⟨p_ya, p_yb, p_yk⟩⟩ : P2)) (⟨l_a, l_b, l_k⟩ : N3)) && (sB (subF (dotF (nrm l_d) (⟨⟨p_xa, p_xb, p_xk⟩, ⟨p_ya, p_yb, p_yk⟩⟩ : P2)) (⟨l_a, l_b, l_k⟩ : N3)).a && sB (subF (dotF (nrm l_d) (⟨⟨p_xa, p_xb, p_xk⟩, ⟨p_ya, p_yb, p_yk⟩⟩ : P2)) (⟨l_a, l_b, l_k⟩ : N3)).b))) = true) : evN Tryz.prog GLv Γ44 (0) []  Tryz.f138 [.agg [iv l_d, iv l_a, iv l_b, iv l_k], .agg [iv p_xa, iv p_xb, iv p_xk, iv p_ya, iv p_yb, iv p_yk]] = some (iv (sgF (subF (dotF (nrm l_d) (⟨⟨p_xa, p_xb, p_xk⟩, ⟨p_ya, p_yb, p_yk⟩⟩ : P2)) (⟨l_a, l_b, l_k⟩ : N3)))) := by
 simp only [Bool.and_eq_true] at hp
 obtain ⟨⟨h1, h2⟩, h3, h4, h5⟩ := hp
 refine (show _ = cond (inB (wr (l_d + 4)) 0 15 && pkD (nrm l_d) (⟨⟨p_xa, p_xb, p_xk⟩, ⟨p_ya, p_yb, p_yk⟩⟩ : P2)) (cond (pk (dotF (nrm l_d) (⟨⟨p_xa, p_xb, p_xk⟩, ⟨p_ya, p_yb, p_yk⟩⟩ : P2)) (⟨l_a, l_b, l_k⟩ : N3)) (cond (sB (subF (dotF (nrm l_d) (⟨⟨p_xa, p_xb, p_xk⟩, ⟨p_ya, p_yb, p_yk⟩⟩ : P2)) (⟨l_a, l_b, l_k⟩ : N3)).a && sB (subF (dotF (nrm l_d) (⟨⟨p_xa, p_xb, p_xk⟩, ⟨p_ya, p_yb, p_yk⟩⟩ : P2)) (⟨l_a, l_b, l_k⟩ : N3)).b) (some (iv (sgF (subF (dotF (nrm l_d) (⟨⟨p_xa, p_xb, p_xk⟩, ⟨p_ya, p_yb, p_yk⟩⟩ : P2)) (⟨l_a, l_b, l_k⟩ : N3))))) none) none) none from by kernel_rfl).trans ?_
 rw [h1, h2, h3, h4, h5]
 rfl
theorem m138 : MT 138 s138 := by
 refine meetsN mix0 glv G44 Tryz.func138 (by kernel_rfl) (by kernel_rfl) s138 fun args x h => ?_
 unfold s138 at h
 split at h
 ·rename_i l_d l_a l_b l_k p_xa p_xb p_xk p_ya p_yb p_yk
  obtain ⟨hp, rfl⟩ := sm_inj h
  exact ⟨_, _, by kernel_rfl, e138 l_d l_a l_b l_k p_xa p_xb p_xk p_ya p_yb p_yk hp⟩
 ·cases h
abbrev Γ45 : LC := (138, s138) :: Γ44
theorem G45 : SD Γ45 := G44.cons m138
end Go.Proofs.YtlcopddgplbdhaaGreatDoor
