/- Contracts of the program's functions, by the evaluator. -/
import Derived.Test.YtigmgpblnoecpaaDoorC4
import Derived.Test.YtigmgpblnoecpaaDoorSrcD
namespace Go.Proofs.YtigmgpblnoecpaaDoor
open Go.Ev
set_option linter.unusedVariables false
set_option linter.unusedSimpArgs false
set_option maxRecDepth 100000

-- spec.l01Square
noncomputable def s129 : Ctr := fun
  | [.val (.int .i64 x)] => some (sB x, .tup [.val (.int .u64 0), .val (.int .u64 (x * x))])
  | _ => none

theorem e129 (x : Int) (hp : (sB x) = true) : evN Tryd.prog GLv Γ82 (0) []  Tryd.f129 [.val (.int .i64 x)] = some (.tup [.val (.int .u64 0), .val (.int .u64 (x * x))]) := by
  exact (show _ = cond (decide (x < 0)) (sqT (u64w (wr (0 - x)))) (sqT (u64w x)) from by kernel_rfl).trans (sq_ok hp)
theorem m129 : Meets Tryd.prog GLv 129 s129 := by
  refine meetsN mix0 glv G82 Tryd.func129 (by kernel_rfl) (by kernel_rfl) s129 fun args x h => ?_
  unfold s129 at h
  split at h
  · rename_i x
    simp only [Option.some.injEq, Prod.mk.injEq] at h
    obtain ⟨hp, rfl⟩ := h
    exact ⟨_, _, by kernel_rfl, e129 x hp⟩
  · cases h
noncomputable abbrev Γ83 : List (Nat × Ctr) := (129, s129) :: Γ82
theorem G83 : Sound Tryd.prog GLv Γ83 := G82.cons m129

-- spec.l01Less
noncomputable def s125 : Ctr := fun
  | [.val (.int .i64 x), .val (.int .i64 y)] => some (sB x && sB y, bv (decide (x * x < 2 * (y * y))))
  | _ => none

theorem e125 (x : Int) (y : Int) (hp : (sB x && sB y) = true) : evN Tryd.prog GLv Γ83 (0) []  Tryd.f125 [.val (.int .i64 x), .val (.int .i64 y)] = some (bv (decide (x * x < 2 * (y * y)))) := by
  rw [Bool.and_eq_true] at hp
  refine (show _ = cond (sB x) (cond (sB y) (cond (decide (0 < u64w (u64w (0 * 2) + (y * y).fdiv (2 ^ min (Int.toNat 63) 64)))) (some (bv true))
      (cond (0 == u64w (u64w (0 * 2) + (y * y).fdiv (2 ^ min (Int.toNat 63) 64))) (some (bv (decide (x * x < u64w (y * y * 2))))) (some (bv false)))) none) none from by kernel_rfl).trans ?_
  rw [hp.1, hp.2]
  exact less_ok hp.1 hp.2
theorem m125 : Meets Tryd.prog GLv 125 s125 := by
  refine meetsN mix0 glv G83 Tryd.func125 (by kernel_rfl) (by kernel_rfl) s125 fun args x h => ?_
  unfold s125 at h
  split at h
  · rename_i x y
    simp only [Option.some.injEq, Prod.mk.injEq] at h
    obtain ⟨hp, rfl⟩ := h
    exact ⟨_, _, by kernel_rfl, e125 x y hp⟩
  · cases h
noncomputable abbrev Γ84 : List (Nat × Ctr) := (125, s125) :: Γ83
theorem G84 : Sound Tryd.prog GLv Γ84 := G83.cons m125

-- spec.l01Sign
noncomputable def s110 : Ctr := fun
  | [.agg [.val (.int .i64 x_a), .val (.int .i64 x_b), .val (.int .i64 x_k)]] => some (sB x_a && sB x_b, iv (sgF (⟨x_a, x_b, x_k⟩ : N3)))
  | _ => none

theorem e110 (x_a : Int) (x_b : Int) (x_k : Int) (hp : (sB x_a && sB x_b) = true) : evN Tryd.prog GLv Γ84 (0) []  Tryd.f110 [.agg [.val (.int .i64 x_a), .val (.int .i64 x_b), .val (.int .i64 x_k)]] = some (iv (sgF (⟨x_a, x_b, x_k⟩ : N3))) := by
  refine (show _ = cond (x_a == 0) ( cond (x_b == 0) ( some (iv (0)) ) ( cond (decide (x_a ≥ 0)) ( cond (decide (x_b ≥ 0)) ( some (iv (1)) ) ( cond (decide (x_a ≤ 0)) ( cond (decide (x_b ≤ 0)) ( some (iv (-1)) ) ( cond (sB x_a && sB x_b) ( cond (decide (x_a * x_a < 2 * (x_b * x_b)) == decide (x_b > 0)) ( some (iv (1)) ) ( some (iv (-1)) ) ) ( none ) ) ) ( cond (sB x_a && sB x_b) ( cond (decide (x_a * x_a < 2 * (x_b * x_b)) == decide (x_b > 0)) ( some (iv (1)) ) ( some (iv (-1)) ) ) ( none ) ) ) ) ( cond (decide (x_a ≤ 0)) ( cond (decide (x_b ≤ 0)) ( some (iv (-1)) ) ( cond (sB x_a && sB x_b) ( cond (decide (x_a * x_a < 2 * (x_b * x_b)) == decide (x_b > 0)) ( some (iv (1)) ) ( some (iv (-1)) ) ) ( none ) ) ) ( cond (sB x_a && sB x_b) ( cond (decide (x_a * x_a < 2 * (x_b * x_b)) == decide (x_b > 0)) ( some (iv (1)) ) ( some (iv (-1)) ) ) ( none ) ) ) ) ) ( cond (decide (x_a ≥ 0)) ( cond (decide (x_b ≥ 0)) ( some (iv (1)) ) ( cond (decide (x_a ≤ 0)) ( cond (decide (x_b ≤ 0)) ( some (iv (-1)) ) ( cond (sB x_a && sB x_b) ( cond (decide (x_a * x_a < 2 * (x_b * x_b)) == decide (x_b > 0)) ( some (iv (1)) ) ( some (iv (-1)) ) ) ( none ) ) ) ( cond (sB x_a && sB x_b) ( cond (decide (x_a * x_a < 2 * (x_b * x_b)) == decide (x_b > 0)) ( some (iv (1)) ) ( some (iv (-1)) ) ) ( none ) ) ) ) ( cond (decide (x_a ≤ 0)) ( cond (decide (x_b ≤ 0)) ( some (iv (-1)) ) ( cond (sB x_a && sB x_b) ( cond (decide (x_a * x_a < 2 * (x_b * x_b)) == decide (x_b > 0)) ( some (iv (1)) ) ( some (iv (-1)) ) ) ( none ) ) ) ( cond (sB x_a && sB x_b) ( cond (decide (x_a * x_a < 2 * (x_b * x_b)) == decide (x_b > 0)) ( some (iv (1)) ) ( some (iv (-1)) ) ) ( none ) ) ) ) from by kernel_rfl).trans ?_
  rw [hp]
  show _ = some (iv (sgZ x_a x_b))
  rw [← sgS_eq]
  unfold sgS
  cases (x_a == 0) <;> cases (x_b == 0) <;> cases decide (x_a ≥ 0) <;> cases decide (x_b ≥ 0) <;> cases decide (x_a ≤ 0) <;> cases decide (x_b ≤ 0) <;> cases (decide (x_a * x_a < 2 * (x_b * x_b)) == decide (x_b > 0)) <;> rfl
theorem m110 : Meets Tryd.prog GLv 110 s110 := by
  refine meetsN mix0 glv G84 Tryd.func110 (by kernel_rfl) (by kernel_rfl) s110 fun args x h => ?_
  unfold s110 at h
  split at h
  · rename_i x_a x_b x_k
    simp only [Option.some.injEq, Prod.mk.injEq] at h
    obtain ⟨hp, rfl⟩ := h
    exact ⟨_, _, by kernel_rfl, e110 x_a x_b x_k hp⟩
  · cases h
noncomputable abbrev Γ85 : List (Nat × Ctr) := (110, s110) :: Γ84
theorem G85 : Sound Tryd.prog GLv Γ85 := G84.cons m110

-- spec.l02Side
noncomputable def s66 : Ctr := fun
  | [.agg [.val (.int .i64 l_d), .val (.int .i64 l_a), .val (.int .i64 l_b), .val (.int .i64 l_k)], .agg [.val (.int .i64 p_xa), .val (.int .i64 p_xb), .val (.int .i64 p_xk), .val (.int .i64 p_ya), .val (.int .i64 p_yb), .val (.int .i64 p_yk)]] => some ((inB (wr (l_d + 4)) 0 15 && pkD (nrm l_d) (⟨⟨p_xa, p_xb, p_xk⟩, ⟨p_ya, p_yb, p_yk⟩⟩ : P2)) && ((pk (dotF (nrm l_d) (⟨⟨p_xa, p_xb, p_xk⟩, ⟨p_ya, p_yb, p_yk⟩⟩ : P2)) (⟨l_a, l_b, l_k⟩ : N3)) && (sB (subF (dotF (nrm l_d) (⟨⟨p_xa, p_xb, p_xk⟩, ⟨p_ya, p_yb, p_yk⟩⟩ : P2)) (⟨l_a, l_b, l_k⟩ : N3)).a && sB (subF (dotF (nrm l_d) (⟨⟨p_xa, p_xb, p_xk⟩, ⟨p_ya, p_yb, p_yk⟩⟩ : P2)) (⟨l_a, l_b, l_k⟩ : N3)).b)), iv (sgF (subF (dotF (nrm l_d) (⟨⟨p_xa, p_xb, p_xk⟩, ⟨p_ya, p_yb, p_yk⟩⟩ : P2)) (⟨l_a, l_b, l_k⟩ : N3))))
  | _ => none

theorem e66 (l_d : Int) (l_a : Int) (l_b : Int) (l_k : Int) (p_xa : Int) (p_xb : Int) (p_xk : Int) (p_ya : Int) (p_yb : Int) (p_yk : Int) (hp : ((inB (wr (l_d + 4)) 0 15 && pkD (nrm l_d) (⟨⟨p_xa, p_xb, p_xk⟩, ⟨p_ya, p_yb, p_yk⟩⟩ : P2)) && ((pk (dotF (nrm l_d) (⟨⟨p_xa, p_xb, p_xk⟩, ⟨p_ya, p_yb, p_yk⟩⟩ : P2)) (⟨l_a, l_b, l_k⟩ : N3)) && (sB (subF (dotF (nrm l_d) (⟨⟨p_xa, p_xb, p_xk⟩, ⟨p_ya, p_yb, p_yk⟩⟩ : P2)) (⟨l_a, l_b, l_k⟩ : N3)).a && sB (subF (dotF (nrm l_d) (⟨⟨p_xa, p_xb, p_xk⟩, ⟨p_ya, p_yb, p_yk⟩⟩ : P2)) (⟨l_a, l_b, l_k⟩ : N3)).b))) = true) : evN Tryd.prog GLv Γ85 (0) []  Tryd.f66 [.agg [.val (.int .i64 l_d), .val (.int .i64 l_a), .val (.int .i64 l_b), .val (.int .i64 l_k)], .agg [.val (.int .i64 p_xa), .val (.int .i64 p_xb), .val (.int .i64 p_xk), .val (.int .i64 p_ya), .val (.int .i64 p_yb), .val (.int .i64 p_yk)]] = some (iv (sgF (subF (dotF (nrm l_d) (⟨⟨p_xa, p_xb, p_xk⟩, ⟨p_ya, p_yb, p_yk⟩⟩ : P2)) (⟨l_a, l_b, l_k⟩ : N3)))) := by
  simp only [Bool.and_eq_true] at hp
  obtain ⟨⟨h1, h2⟩, h3, h4, h5⟩ := hp
  refine (show _ = cond (inB (wr (l_d + 4)) 0 15 && pkD (nrm l_d) (⟨⟨p_xa, p_xb, p_xk⟩, ⟨p_ya, p_yb, p_yk⟩⟩ : P2)) (cond (pk (dotF (nrm l_d) (⟨⟨p_xa, p_xb, p_xk⟩, ⟨p_ya, p_yb, p_yk⟩⟩ : P2)) (⟨l_a, l_b, l_k⟩ : N3)) (cond (sB (subF (dotF (nrm l_d) (⟨⟨p_xa, p_xb, p_xk⟩, ⟨p_ya, p_yb, p_yk⟩⟩ : P2)) (⟨l_a, l_b, l_k⟩ : N3)).a && sB (subF (dotF (nrm l_d) (⟨⟨p_xa, p_xb, p_xk⟩, ⟨p_ya, p_yb, p_yk⟩⟩ : P2)) (⟨l_a, l_b, l_k⟩ : N3)).b) (some (iv (sgF (subF (dotF (nrm l_d) (⟨⟨p_xa, p_xb, p_xk⟩, ⟨p_ya, p_yb, p_yk⟩⟩ : P2)) (⟨l_a, l_b, l_k⟩ : N3))))) none) none) none from by kernel_rfl).trans ?_
  rw [h1, h2, h3, h4, h5]
  rfl
theorem m66 : Meets Tryd.prog GLv 66 s66 := by
  refine meetsN mix0 glv G85 Tryd.func66 (by kernel_rfl) (by kernel_rfl) s66 fun args x h => ?_
  unfold s66 at h
  split at h
  · rename_i l_d l_a l_b l_k p_xa p_xb p_xk p_ya p_yb p_yk
    simp only [Option.some.injEq, Prod.mk.injEq] at h
    obtain ⟨hp, rfl⟩ := h
    exact ⟨_, _, by kernel_rfl, e66 l_d l_a l_b l_k p_xa p_xb p_xk p_ya p_yb p_yk hp⟩
  · cases h
noncomputable abbrev Γ86 : List (Nat × Ctr) := (66, s66) :: Γ85
theorem G86 : Sound Tryd.prog GLv Γ86 := G85.cons m66

-- spec.SideOf
noncomputable def s27 : Ctr := fun
  | [.agg [.val (.int .i64 l_d), .val (.int .i64 l_a), .val (.int .i64 l_b), .val (.int .i64 l_k)], .agg [.val (.int .i64 p_xa), .val (.int .i64 p_xb), .val (.int .i64 p_xk), .val (.int .i64 p_ya), .val (.int .i64 p_yb), .val (.int .i64 p_yk)]] => some (true, iv (soV (⟨l_d, (⟨l_a, l_b, l_k⟩ : N3)⟩ : Ln) (⟨⟨p_xa, p_xb, p_xk⟩, ⟨p_ya, p_yb, p_yk⟩⟩ : P2)))
  | _ => none

theorem e27 (l_d : Int) (l_a : Int) (l_b : Int) (l_k : Int) (p_xa : Int) (p_xb : Int) (p_xk : Int) (p_ya : Int) (p_yb : Int) (p_yk : Int) : evN Tryd.prog GLv Γ86 (0) []  Tryd.f27 [.agg [.val (.int .i64 l_d), .val (.int .i64 l_a), .val (.int .i64 l_b), .val (.int .i64 l_k)], .agg [.val (.int .i64 p_xa), .val (.int .i64 p_xb), .val (.int .i64 p_xk), .val (.int .i64 p_ya), .val (.int .i64 p_yb), .val (.int .i64 p_yk)]] = some (iv (soV (⟨l_d, (⟨l_a, l_b, l_k⟩ : N3)⟩ : Ln) (⟨⟨p_xa, p_xb, p_xk⟩, ⟨p_ya, p_yb, p_yk⟩⟩ : P2))) := by
  refine (show _ = cond (!(inB l_d 0 7 && validB (⟨l_a, l_b, l_k⟩ : N3))) (some (iv 0)) (cond (!valP (⟨⟨p_xa, p_xb, p_xk⟩, ⟨p_ya, p_yb, p_yk⟩⟩ : P2)) (some (iv 0)) (cond ((inB (wr (l_d + 4)) 0 15 && pkD (nrm l_d) (⟨⟨p_xa, p_xb, p_xk⟩, ⟨p_ya, p_yb, p_yk⟩⟩ : P2)) && ((pk (dotF (nrm l_d) (⟨⟨p_xa, p_xb, p_xk⟩, ⟨p_ya, p_yb, p_yk⟩⟩ : P2)) (⟨l_a, l_b, l_k⟩ : N3)) && (sB (subF (dotF (nrm l_d) (⟨⟨p_xa, p_xb, p_xk⟩, ⟨p_ya, p_yb, p_yk⟩⟩ : P2)) (⟨l_a, l_b, l_k⟩ : N3)).a && sB (subF (dotF (nrm l_d) (⟨⟨p_xa, p_xb, p_xk⟩, ⟨p_ya, p_yb, p_yk⟩⟩ : P2)) (⟨l_a, l_b, l_k⟩ : N3)).b))) (some (iv (sgF (subF (dotF (nrm l_d) (⟨⟨p_xa, p_xb, p_xk⟩, ⟨p_ya, p_yb, p_yk⟩⟩ : P2)) (⟨l_a, l_b, l_k⟩ : N3))))) none)) from by kernel_rfl).trans ?_
  unfold soV Ln.valid
  cases h1 : inB l_d 0 7 with
  | false => rfl
  | true =>
    cases h2 : validB (⟨l_a, l_b, l_k⟩ : N3) with
    | false => rfl
    | true =>
      cases h3 : valP (⟨⟨p_xa, p_xb, p_xk⟩, ⟨p_ya, p_yb, p_yk⟩⟩ : P2) with
      | false => rfl
      | true =>
        obtain ⟨k1, k2, k3, k4⟩ := side_ok h1 h2 h3
        rw [k1, k2, k3, k4]
        rfl
theorem m27 : Meets Tryd.prog GLv 27 s27 := by
  refine meetsN mix0 glv G86 Tryd.func27 (by kernel_rfl) (by kernel_rfl) s27 fun args x h => ?_
  unfold s27 at h
  split at h
  · rename_i l_d l_a l_b l_k p_xa p_xb p_xk p_ya p_yb p_yk
    simp only [Option.some.injEq, Prod.mk.injEq] at h
    obtain ⟨hp, rfl⟩ := h
    exact ⟨_, _, by kernel_rfl, e27 l_d l_a l_b l_k p_xa p_xb p_xk p_ya p_yb p_yk⟩
  · cases h
noncomputable abbrev Γ87 : List (Nat × Ctr) := (27, s27) :: Γ86
theorem G87 : Sound Tryd.prog GLv Γ87 := G86.cons m27

end Go.Proofs.YtigmgpblnoecpaaDoor
