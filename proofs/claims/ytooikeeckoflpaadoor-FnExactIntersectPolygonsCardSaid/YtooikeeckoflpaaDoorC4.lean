/- Contracts of the program's functions, by the evaluator. -/
import Derived.Test.YtooikeeckoflpaaDoorC3
import Derived.Test.YtooikeeckoflpaaDoorPlD
namespace Go.Proofs.YtooikeeckoflpaaDoor
open Go.Ev
set_option linter.unusedVariables false
set_option linter.unusedSimpArgs false
set_option maxRecDepth 100000

-- impl.turned
def s89 : Ctr := fun
  | [.val (.int .i64 d)] => some (true, iv (d % 16))
  | _ => none

theorem e89 (d : Int) : evN Tryd.prog GLv Γ59 (0) []  Tryd.f89 [.val (.int .i64 d)] = some (iv (d % 16)) := by
  exact (show _ = some (iv (and64 d 15)) from by kernel_rfl).trans (by rw [and64_15])
theorem m89 : Meets Tryd.prog GLv 89 s89 := by
  refine meetsN mix0 glv G59 Tryd.func89 (by kernel_rfl) (by kernel_rfl) s89 fun args x h => ?_
  unfold s89 at h
  split at h
  · rename_i d
    simp only [Option.some.injEq, Prod.mk.injEq] at h
    obtain ⟨hp, rfl⟩ := h
    exact ⟨_, _, by kernel_rfl, e89 d⟩
  · cases h
abbrev Γ60 : List (Nat × Ctr) := (89, s89) :: Γ59
theorem G60 : Sound Tryd.prog GLv Γ60 := G59.cons m89

-- spec.l02Mod
def s49b : Ctr := fun
  | [.val (.int .i64 d)] => some (inB d (-100) 100, iv (d % 16))
  | _ => none

theorem e49b (d : Int) (hp : (inB d (-100) 100) = true) : evN Tryd.prog GLv Γ60 (0) []  Tryd.f49 [.val (.int .i64 d)] = some (iv (d % 16)) := by
  exact (show _ = some (iv ((wr (d.tmod 16 + 16)).tmod 16)) from by kernel_rfl).trans (by rw [mod_ok hp])
theorem m49b : Meets Tryd.prog GLv 49 s49b := by
  refine meetsN mix0 glv G60 Tryd.func49 (by kernel_rfl) (by kernel_rfl) s49b fun args x h => ?_
  unfold s49b at h
  split at h
  · rename_i d
    simp only [Option.some.injEq, Prod.mk.injEq] at h
    obtain ⟨hp, rfl⟩ := h
    exact ⟨_, _, by kernel_rfl, e49b d hp⟩
  · cases h
abbrev Γ61 : List (Nat × Ctr) := (49, s49b) :: Γ60
theorem G61 : Sound Tryd.prog GLv Γ61 := G60.cons m49b

-- spec.l02Vec
def s117b : Ctr := fun
  | [.val (.int .i64 d)] => some (inB d 0 19, (vecP (d % 16)).av)
  | _ => none

theorem e117b (d : Int) (hp : (inB d 0 19) = true) : evN Tryd.prog GLv Γ61 (0) []  Tryd.f117 [.val (.int .i64 d)] = some ((vecP (d % 16)).av) := by
  rw [inB_iff] at hp
  have hh : d = 0 ∨ d = 1 ∨ d = 2 ∨ d = 3 ∨ d = 4 ∨ d = 5 ∨ d = 6 ∨ d = 7 ∨ d = 8 ∨ d = 9 ∨ d = 10 ∨ d = 11 ∨ d = 12 ∨ d = 13 ∨ d = 14 ∨ d = 15 ∨ d = 16 ∨ d = 17 ∨ d = 18 ∨ d = 19 := by omega
  clear hp
  rcases hh with rfl | rfl | rfl | rfl | rfl | rfl | rfl | rfl | rfl | rfl | rfl | rfl | rfl | rfl | rfl | rfl | rfl | rfl | rfl | rfl
  all_goals (show _ = _; kernel_rfl)
theorem m117b : Meets Tryd.prog GLv 117 s117b := by
  refine meetsN mix0 glv G61 Tryd.func117 (by kernel_rfl) (by kernel_rfl) s117b fun args x h => ?_
  unfold s117b at h
  split at h
  · rename_i d
    simp only [Option.some.injEq, Prod.mk.injEq] at h
    obtain ⟨hp, rfl⟩ := h
    exact ⟨_, _, by kernel_rfl, e117b d hp⟩
  · cases h
abbrev Γ62 : List (Nat × Ctr) := (117, s117b) :: Γ61
theorem G62 : Sound Tryd.prog GLv Γ62 := G61.cons m117b

-- spec.l02Dot
def s109b : Ctr := fun
  | [.val (.int .i64 d), .agg [.val (.int .i64 p_xa), .val (.int .i64 p_xb), .val (.int .i64 p_xk), .val (.int .i64 p_ya), .val (.int .i64 p_yb), .val (.int .i64 p_yk)]] => some (inB d 0 19 && pkD (vecP (d % 16)) (⟨⟨p_xa, p_xb, p_xk⟩, ⟨p_ya, p_yb, p_yk⟩⟩ : P2), (dotF (vecP (d % 16)) (⟨⟨p_xa, p_xb, p_xk⟩, ⟨p_ya, p_yb, p_yk⟩⟩ : P2)).av)
  | _ => none

theorem e109b (d : Int) (p_xa : Int) (p_xb : Int) (p_xk : Int) (p_ya : Int) (p_yb : Int) (p_yk : Int) (hp : (inB d 0 19 && pkD (vecP (d % 16)) (⟨⟨p_xa, p_xb, p_xk⟩, ⟨p_ya, p_yb, p_yk⟩⟩ : P2)) = true) : evN Tryd.prog GLv Γ62 (0) []  Tryd.f109 [.val (.int .i64 d), .agg [.val (.int .i64 p_xa), .val (.int .i64 p_xb), .val (.int .i64 p_xk), .val (.int .i64 p_ya), .val (.int .i64 p_yb), .val (.int .i64 p_yk)]] = some ((dotF (vecP (d % 16)) (⟨⟨p_xa, p_xb, p_xk⟩, ⟨p_ya, p_yb, p_yk⟩⟩ : P2)).av) := by
  simp only [pkD, Bool.and_eq_true] at hp
  obtain ⟨h0, h1, h2, h3⟩ := hp
  refine (show _ = cond (inB d 0 19) (cond (pkm (vecP (d % 16)).x (⟨p_xa, p_xb, p_xk⟩ : N3)) (cond (pkm (vecP (d % 16)).y (⟨p_ya, p_yb, p_yk⟩ : N3)) (cond (pk (mulF (vecP (d % 16)).x (⟨p_xa, p_xb, p_xk⟩ : N3)) (mulF (vecP (d % 16)).y (⟨p_ya, p_yb, p_yk⟩ : N3))) (some (dotF (vecP (d % 16)) (⟨⟨p_xa, p_xb, p_xk⟩, ⟨p_ya, p_yb, p_yk⟩⟩ : P2)).av) none) none) none) none from by kernel_rfl).trans ?_
  rw [h0, h1, h2, h3]
  rfl
theorem m109b : Meets Tryd.prog GLv 109 s109b := by
  refine meetsN mix0 glv G62 Tryd.func109 (by kernel_rfl) (by kernel_rfl) s109b fun args x h => ?_
  unfold s109b at h
  split at h
  · rename_i d p_xa p_xb p_xk p_ya p_yb p_yk
    simp only [Option.some.injEq, Prod.mk.injEq] at h
    obtain ⟨hp, rfl⟩ := h
    exact ⟨_, _, by kernel_rfl, e109b d p_xa p_xb p_xk p_ya p_yb p_yk hp⟩
  · cases h
abbrev Γ63 : List (Nat × Ctr) := (109, s109b) :: Γ62
theorem G63 : Sound Tryd.prog GLv Γ63 := G62.cons m109b

-- spec.l02Zero
def s108 : Ctr := fun
  | [.agg [.val (.int .i64 x_a), .val (.int .i64 x_b), .val (.int .i64 x_k)]] => some (true, bv (zroN (⟨x_a, x_b, x_k⟩ : N3)))
  | _ => none

theorem e108 (x_a : Int) (x_b : Int) (x_k : Int) : evN Tryd.prog GLv Γ63 (0) []  Tryd.f108 [.agg [.val (.int .i64 x_a), .val (.int .i64 x_b), .val (.int .i64 x_k)]] = some (bv (zroN (⟨x_a, x_b, x_k⟩ : N3))) := by
  refine (show _ = cond (x_a == 0) (some (bv (x_b == 0))) (some (bv false)) from by kernel_rfl).trans ?_
  unfold zroN
  cases (x_a == 0) <;> rfl
theorem m108 : Meets Tryd.prog GLv 108 s108 := by
  refine meetsN mix0 glv G63 Tryd.func108 (by kernel_rfl) (by kernel_rfl) s108 fun args x h => ?_
  unfold s108 at h
  split at h
  · rename_i x_a x_b x_k
    simp only [Option.some.injEq, Prod.mk.injEq] at h
    obtain ⟨hp, rfl⟩ := h
    exact ⟨_, _, by kernel_rfl, e108 x_a x_b x_k⟩
  · cases h
abbrev Γ64 : List (Nat × Ctr) := (108, s108) :: Γ63
theorem G64 : Sound Tryd.prog GLv Γ64 := G63.cons m108

-- spec.l02Direction
def s80 : Ctr := fun
  | [.agg [.val (.int .i64 w_xa), .val (.int .i64 w_xb), .val (.int .i64 w_xk), .val (.int .i64 w_ya), .val (.int .i64 w_yb), .val (.int .i64 w_yk)]] => some (wayB (⟨⟨w_xa, w_xb, w_xk⟩, ⟨w_ya, w_yb, w_yk⟩⟩ : P2), iv (dirF 16 0 (⟨⟨w_xa, w_xb, w_xk⟩, ⟨w_ya, w_yb, w_yk⟩⟩ : P2)))
  | _ => none

theorem r80_step (K n : Nat) (d : Int) (w : P2) : runL Tryd.prog GLv Γ64 K [false, true, false, true] Tryd.f80 0 (n + 1) (stL Tryd.f80.ntmps [.non, .own 73 [iv w.x.a, iv w.x.b, iv w.x.k, iv w.y.a, iv w.y.b, iv w.y.k], .non, iv (d)]) = cond (decide (d < 16)) (cond (inB (wr (d + 4)) 0 19 && pkD (vecP (wr (d + 4) % 16)) w) (cond (zroN (dotF (vecP (wr (d + 4) % 16)) w))
    (cond (inB d 0 19 && pkD (vecP (d % 16)) w) (cond (sB (dotF (vecP (d % 16)) w).a && sB (dotF (vecP (d % 16)) w).b) (cond (decide (sgF (dotF (vecP (d % 16)) w) > 0)) (some (iv d)) (runL Tryd.prog GLv Γ64 K [false, true, false, true] Tryd.f80 0 n (stL Tryd.f80.ntmps [.non, .own 73 [iv w.x.a, iv w.x.b, iv w.x.k, iv w.y.a, iv w.y.b, iv w.y.k], .non, iv (wr (d + 1))]))) none) none) (runL Tryd.prog GLv Γ64 K [false, true, false, true] Tryd.f80 0 n (stL Tryd.f80.ntmps [.non, .own 73 [iv w.x.a, iv w.x.b, iv w.x.k, iv w.y.a, iv w.y.b, iv w.y.k], .non, iv (wr (d + 1))]))) none) (some (iv (-1))) := by kernel_rfl
theorem r80_run (K : Nat) (w : P2) (v : V4) (hw : Go.Ev.Way w v) : ∀ (n : Nat) (d : Int) (m : Nat), 0 ≤ d → d + n = 16 → n < m → runL Tryd.prog GLv Γ64 K [false, true, false, true] Tryd.f80 0 m (stL Tryd.f80.ntmps [.non, .own 73 [iv w.x.a, iv w.x.b, iv w.x.k, iv w.y.a, iv w.y.b, iv w.y.k], .non, iv (d)]) = some (iv (dirF n d w)) := by
  intro n
  induction n with
  | zero =>
    intro d m h0 h1 hm
    obtain ⟨m, rfl⟩ : ∃ m', m = m' + 1 := ⟨m - 1, by omega⟩
    rw [r80_step, show decide (d < 16) = false by simp; omega]
    rfl
  | succ n ih =>
    intro d m h0 h1 hm
    obtain ⟨m, rfl⟩ : ∃ m', m = m' + 1 := ⟨m - 1, by omega⟩
    have hd : inB d 0 15 = true := inB_iff.2 (by omega)
    have hd4 : inB ((d + 4) % 16) 0 15 = true := inB_iff.2 (by omega)
    obtain ⟨k1, k2, k3, _, _⟩ := way_ok hd hw
    obtain ⟨_, k4, _, _, _⟩ := way_ok hd4 hw
    rw [r80_step, show decide (d < 16) = true by simp; omega, wr_in (n := d + 4) (by omega) (by omega), show inB (d + 4) 0 19 = true from inB_iff.2 (by omega), show inB d 0 19 = true from inB_iff.2 (by omega), k4,
      mod_small hd, k2, k3, zro_perp hd hw, wr_in (n := d + 1) (by omega) (by omega), ih (d + 1) m (by omega) (by omega) (by omega)]
    rw [dirF_succ]
    cases eqN (crsF (vecP d) w) z3 <;> cases decide (sgF (dotF (vecP d) w) > 0) <;> rfl

theorem e80 (w_xa : Int) (w_xb : Int) (w_xk : Int) (w_ya : Int) (w_yb : Int) (w_yk : Int) (hp : (wayB (⟨⟨w_xa, w_xb, w_xk⟩, ⟨w_ya, w_yb, w_yk⟩⟩ : P2)) = true) : evN Tryd.prog GLv Γ64 (17) [false, true, false, true]  Tryd.f80 [.agg [.val (.int .i64 w_xa), .val (.int .i64 w_xb), .val (.int .i64 w_xk), .val (.int .i64 w_ya), .val (.int .i64 w_yb), .val (.int .i64 w_yk)]] = some (iv (dirF 16 0 (⟨⟨w_xa, w_xb, w_xk⟩, ⟨w_ya, w_yb, w_yk⟩⟩ : P2))) := by
  obtain ⟨v, hw⟩ := wayB_way hp
  refine (show _ = runL Tryd.prog GLv Γ64 17 [false, true, false, true] Tryd.f80 0 17 (stL Tryd.f80.ntmps [.non, .own 73 [iv (⟨⟨w_xa, w_xb, w_xk⟩, ⟨w_ya, w_yb, w_yk⟩⟩ : P2).x.a, iv (⟨⟨w_xa, w_xb, w_xk⟩, ⟨w_ya, w_yb, w_yk⟩⟩ : P2).x.b, iv (⟨⟨w_xa, w_xb, w_xk⟩, ⟨w_ya, w_yb, w_yk⟩⟩ : P2).x.k, iv (⟨⟨w_xa, w_xb, w_xk⟩, ⟨w_ya, w_yb, w_yk⟩⟩ : P2).y.a, iv (⟨⟨w_xa, w_xb, w_xk⟩, ⟨w_ya, w_yb, w_yk⟩⟩ : P2).y.b, iv (⟨⟨w_xa, w_xb, w_xk⟩, ⟨w_ya, w_yb, w_yk⟩⟩ : P2).y.k], .non, iv (0)]) from by kernel_rfl).trans ?_
  rw [r80_run 17 (⟨⟨w_xa, w_xb, w_xk⟩, ⟨w_ya, w_yb, w_yk⟩⟩ : P2) _ hw 16 0 17 (by decide) (by decide) (by decide)]
theorem m80 : Meets Tryd.prog GLv 80 s80 := by
  refine meetsN mix0 glv G64 Tryd.func80 (by kernel_rfl) (by kernel_rfl) s80 fun args x h => ?_
  unfold s80 at h
  split at h
  · rename_i w_xa w_xb w_xk w_ya w_yb w_yk
    simp only [Option.some.injEq, Prod.mk.injEq] at h
    obtain ⟨hp, rfl⟩ := h
    exact ⟨_, _, by kernel_rfl, e80 w_xa w_xb w_xk w_ya w_yb w_yk hp⟩
  · cases h
abbrev Γ65 : List (Nat × Ctr) := (80, s80) :: Γ64
theorem G65 : Sound Tryd.prog GLv Γ65 := G64.cons m80

-- spec.l01Compare
def s83 : Ctr := fun
  | [.agg [.val (.int .i64 x_a), .val (.int .i64 x_b), .val (.int .i64 x_k)], .agg [.val (.int .i64 y_a), .val (.int .i64 y_b), .val (.int .i64 y_k)]] => some (validB (⟨x_a, x_b, x_k⟩ : N3) && validB (⟨y_a, y_b, y_k⟩ : N3), iv (sgF (subF (⟨x_a, x_b, x_k⟩ : N3) (⟨y_a, y_b, y_k⟩ : N3))))
  | _ => none

theorem e83 (x_a : Int) (x_b : Int) (x_k : Int) (y_a : Int) (y_b : Int) (y_k : Int) (hp : (validB (⟨x_a, x_b, x_k⟩ : N3) && validB (⟨y_a, y_b, y_k⟩ : N3)) = true) : evN Tryd.prog GLv Γ65 (0) []  Tryd.f83 [.agg [.val (.int .i64 x_a), .val (.int .i64 x_b), .val (.int .i64 x_k)], .agg [.val (.int .i64 y_a), .val (.int .i64 y_b), .val (.int .i64 y_k)]] = some (iv (sgF (subF (⟨x_a, x_b, x_k⟩ : N3) (⟨y_a, y_b, y_k⟩ : N3)))) := by
  rw [Bool.and_eq_true] at hp
  refine (show _ = cond (pk (⟨x_a, x_b, x_k⟩ : N3) (⟨y_a, y_b, y_k⟩ : N3)) (cond (sB (subF (⟨x_a, x_b, x_k⟩ : N3) (⟨y_a, y_b, y_k⟩ : N3)).a && sB (subF (⟨x_a, x_b, x_k⟩ : N3) (⟨y_a, y_b, y_k⟩ : N3)).b) (some (iv (sgF (subF (⟨x_a, x_b, x_k⟩ : N3) (⟨y_a, y_b, y_k⟩ : N3))))) (none)) (none) from by kernel_rfl).trans ?_
  rw [(vpk hp.1 hp.2).1, cmp_ok hp.1 hp.2]
  rfl
theorem m83 : Meets Tryd.prog GLv 83 s83 := by
  refine meetsN mix0 glv G65 Tryd.func83 (by kernel_rfl) (by kernel_rfl) s83 fun args x h => ?_
  unfold s83 at h
  split at h
  · rename_i x_a x_b x_k y_a y_b y_k
    simp only [Option.some.injEq, Prod.mk.injEq] at h
    obtain ⟨hp, rfl⟩ := h
    exact ⟨_, _, by kernel_rfl, e83 x_a x_b x_k y_a y_b y_k hp⟩
  · cases h
abbrev Γ66 : List (Nat × Ctr) := (83, s83) :: Γ65
theorem G66 : Sound Tryd.prog GLv Γ66 := G65.cons m83

-- (impl.Point).compare
def s90 : Ctr := fun
  | [.agg [.val (.int .i64 p_xa), .val (.int .i64 p_xb), .val (.int .i64 p_xk), .val (.int .i64 p_ya), .val (.int .i64 p_yb), .val (.int .i64 p_yk)], .agg [.val (.int .i64 q_xa), .val (.int .i64 q_xb), .val (.int .i64 q_xk), .val (.int .i64 q_ya), .val (.int .i64 q_yb), .val (.int .i64 q_yk)]] => some (valP (⟨⟨p_xa, p_xb, p_xk⟩, ⟨p_ya, p_yb, p_yk⟩⟩ : P2) && valP (⟨⟨q_xa, q_xb, q_xk⟩, ⟨q_ya, q_yb, q_yk⟩⟩ : P2), iv (cpP (⟨⟨p_xa, p_xb, p_xk⟩, ⟨p_ya, p_yb, p_yk⟩⟩ : P2) (⟨⟨q_xa, q_xb, q_xk⟩, ⟨q_ya, q_yb, q_yk⟩⟩ : P2)))
  | _ => none

theorem e90 (p_xa : Int) (p_xb : Int) (p_xk : Int) (p_ya : Int) (p_yb : Int) (p_yk : Int) (q_xa : Int) (q_xb : Int) (q_xk : Int) (q_ya : Int) (q_yb : Int) (q_yk : Int) (hp : (valP (⟨⟨p_xa, p_xb, p_xk⟩, ⟨p_ya, p_yb, p_yk⟩⟩ : P2) && valP (⟨⟨q_xa, q_xb, q_xk⟩, ⟨q_ya, q_yb, q_yk⟩⟩ : P2)) = true) : evN Tryd.prog GLv Γ66 (0) []  Tryd.f90 [.agg [.val (.int .i64 p_xa), .val (.int .i64 p_xb), .val (.int .i64 p_xk), .val (.int .i64 p_ya), .val (.int .i64 p_yb), .val (.int .i64 p_yk)], .agg [.val (.int .i64 q_xa), .val (.int .i64 q_xb), .val (.int .i64 q_xk), .val (.int .i64 q_ya), .val (.int .i64 q_yb), .val (.int .i64 q_yk)]] = some (iv (cpP (⟨⟨p_xa, p_xb, p_xk⟩, ⟨p_ya, p_yb, p_yk⟩⟩ : P2) (⟨⟨q_xa, q_xb, q_xk⟩, ⟨q_ya, q_yb, q_yk⟩⟩ : P2))) := by
  simp only [Bool.and_eq_true, valP] at hp
  obtain ⟨⟨h1, h2⟩, h3, h4⟩ := hp
  refine (show _ = cond (pk (⟨p_xa, p_xb, p_xk⟩ : N3) (⟨q_xa, q_xb, q_xk⟩ : N3) && (sB (subF (⟨p_xa, p_xb, p_xk⟩ : N3) (⟨q_xa, q_xb, q_xk⟩ : N3)).a && sB (subF (⟨p_xa, p_xb, p_xk⟩ : N3) (⟨q_xa, q_xb, q_xk⟩ : N3)).b)) (cond (sgF (subF (⟨p_xa, p_xb, p_xk⟩ : N3) (⟨q_xa, q_xb, q_xk⟩ : N3)) != 0) (some (iv (sgF (subF (⟨p_xa, p_xb, p_xk⟩ : N3) (⟨q_xa, q_xb, q_xk⟩ : N3))))) (cond (pk (⟨p_ya, p_yb, p_yk⟩ : N3) (⟨q_ya, q_yb, q_yk⟩ : N3) && (sB (subF (⟨p_ya, p_yb, p_yk⟩ : N3) (⟨q_ya, q_yb, q_yk⟩ : N3)).a && sB (subF (⟨p_ya, p_yb, p_yk⟩ : N3) (⟨q_ya, q_yb, q_yk⟩ : N3)).b)) (some (iv (sgF (subF (⟨p_ya, p_yb, p_yk⟩ : N3) (⟨q_ya, q_yb, q_yk⟩ : N3))))) (none))) (none) from by kernel_rfl).trans ?_
  rw [(vpk h1 h3).1, cmp_ok h1 h3, (vpk h2 h4).1, cmp_ok h2 h4]
  unfold cpP
  cases (sgF (subF (⟨p_xa, p_xb, p_xk⟩ : N3) (⟨q_xa, q_xb, q_xk⟩ : N3)) != 0) <;> rfl
theorem m90 : Meets Tryd.prog GLv 90 s90 := by
  refine meetsN mix0 glv G66 Tryd.func90 (by kernel_rfl) (by kernel_rfl) s90 fun args x h => ?_
  unfold s90 at h
  split at h
  · rename_i p_xa p_xb p_xk p_ya p_yb p_yk q_xa q_xb q_xk q_ya q_yb q_yk
    simp only [Option.some.injEq, Prod.mk.injEq] at h
    obtain ⟨hp, rfl⟩ := h
    exact ⟨_, _, by kernel_rfl, e90 p_xa p_xb p_xk p_ya p_yb p_yk q_xa q_xb q_xk q_ya q_yb q_yk hp⟩
  · cases h
abbrev Γ67 : List (Nat × Ctr) := (90, s90) :: Γ66
theorem G67 : Sound Tryd.prog GLv Γ67 := G66.cons m90

-- spec.l02Before
def s47 : Ctr := fun
  | [.agg [.val (.int .i64 p_xa), .val (.int .i64 p_xb), .val (.int .i64 p_xk), .val (.int .i64 p_ya), .val (.int .i64 p_yb), .val (.int .i64 p_yk)], .agg [.val (.int .i64 q_xa), .val (.int .i64 q_xb), .val (.int .i64 q_xk), .val (.int .i64 q_ya), .val (.int .i64 q_yb), .val (.int .i64 q_yk)]] => some (valP (⟨⟨p_xa, p_xb, p_xk⟩, ⟨p_ya, p_yb, p_yk⟩⟩ : P2) && valP (⟨⟨q_xa, q_xb, q_xk⟩, ⟨q_ya, q_yb, q_yk⟩⟩ : P2), iv (cpP (⟨⟨p_xa, p_xb, p_xk⟩, ⟨p_ya, p_yb, p_yk⟩⟩ : P2) (⟨⟨q_xa, q_xb, q_xk⟩, ⟨q_ya, q_yb, q_yk⟩⟩ : P2)))
  | _ => none

theorem e47 (p_xa : Int) (p_xb : Int) (p_xk : Int) (p_ya : Int) (p_yb : Int) (p_yk : Int) (q_xa : Int) (q_xb : Int) (q_xk : Int) (q_ya : Int) (q_yb : Int) (q_yk : Int) (hp : (valP (⟨⟨p_xa, p_xb, p_xk⟩, ⟨p_ya, p_yb, p_yk⟩⟩ : P2) && valP (⟨⟨q_xa, q_xb, q_xk⟩, ⟨q_ya, q_yb, q_yk⟩⟩ : P2)) = true) : evN Tryd.prog GLv Γ67 (0) []  Tryd.f47 [.agg [.val (.int .i64 p_xa), .val (.int .i64 p_xb), .val (.int .i64 p_xk), .val (.int .i64 p_ya), .val (.int .i64 p_yb), .val (.int .i64 p_yk)], .agg [.val (.int .i64 q_xa), .val (.int .i64 q_xb), .val (.int .i64 q_xk), .val (.int .i64 q_ya), .val (.int .i64 q_yb), .val (.int .i64 q_yk)]] = some (iv (cpP (⟨⟨p_xa, p_xb, p_xk⟩, ⟨p_ya, p_yb, p_yk⟩⟩ : P2) (⟨⟨q_xa, q_xb, q_xk⟩, ⟨q_ya, q_yb, q_yk⟩⟩ : P2))) := by
  simp only [Bool.and_eq_true, valP] at hp
  obtain ⟨⟨h1, h2⟩, h3, h4⟩ := hp
  refine (show _ = cond (validB (⟨p_xa, p_xb, p_xk⟩ : N3) && validB (⟨q_xa, q_xb, q_xk⟩ : N3)) (cond (sgF (subF (⟨p_xa, p_xb, p_xk⟩ : N3) (⟨q_xa, q_xb, q_xk⟩ : N3)) != 0) (some (iv (sgF (subF (⟨p_xa, p_xb, p_xk⟩ : N3) (⟨q_xa, q_xb, q_xk⟩ : N3))))) (cond (validB (⟨p_ya, p_yb, p_yk⟩ : N3) && validB (⟨q_ya, q_yb, q_yk⟩ : N3)) (some (iv (sgF (subF (⟨p_ya, p_yb, p_yk⟩ : N3) (⟨q_ya, q_yb, q_yk⟩ : N3))))) (none))) (none) from by kernel_rfl).trans ?_
  rw [h1, h3, h2, h4]
  unfold cpP
  cases (sgF (subF (⟨p_xa, p_xb, p_xk⟩ : N3) (⟨q_xa, q_xb, q_xk⟩ : N3)) != 0) <;> rfl
theorem m47 : Meets Tryd.prog GLv 47 s47 := by
  refine meetsN mix0 glv G67 Tryd.func47 (by kernel_rfl) (by kernel_rfl) s47 fun args x h => ?_
  unfold s47 at h
  split at h
  · rename_i p_xa p_xb p_xk p_ya p_yb p_yk q_xa q_xb q_xk q_ya q_yb q_yk
    simp only [Option.some.injEq, Prod.mk.injEq] at h
    obtain ⟨hp, rfl⟩ := h
    exact ⟨_, _, by kernel_rfl, e47 p_xa p_xb p_xk p_ya p_yb p_yk q_xa q_xb q_xk q_ya q_yb q_yk hp⟩
  · cases h
abbrev Γ68 : List (Nat × Ctr) := (47, s47) :: Γ67
theorem G68 : Sound Tryd.prog GLv Γ68 := G67.cons m47

-- impl.areValid$1
def s86 : Ctr := fun
  | [.agg [.val (.int .i64 p_xa), .val (.int .i64 p_xb), .val (.int .i64 p_xk), .val (.int .i64 p_ya), .val (.int .i64 p_yb), .val (.int .i64 p_yk)]] => some (true, bv (!(valP (⟨⟨p_xa, p_xb, p_xk⟩, ⟨p_ya, p_yb, p_yk⟩⟩ : P2))))
  | _ => none

theorem e86 (p_xa : Int) (p_xb : Int) (p_xk : Int) (p_ya : Int) (p_yb : Int) (p_yk : Int) : evN Tryd.prog GLv Γ68 (0) []  Tryd.f86 [.agg [.val (.int .i64 p_xa), .val (.int .i64 p_xb), .val (.int .i64 p_xk), .val (.int .i64 p_ya), .val (.int .i64 p_yb), .val (.int .i64 p_yk)]] = some (bv (!(valP (⟨⟨p_xa, p_xb, p_xk⟩, ⟨p_ya, p_yb, p_yk⟩⟩ : P2)))) := by
  kernel_rfl
theorem m86 : Meets Tryd.prog GLv 86 s86 := by
  refine meetsN mix0 glv G68 Tryd.func86 (by kernel_rfl) (by kernel_rfl) s86 fun args x h => ?_
  unfold s86 at h
  split at h
  · rename_i p_xa p_xb p_xk p_ya p_yb p_yk
    simp only [Option.some.injEq, Prod.mk.injEq] at h
    obtain ⟨hp, rfl⟩ := h
    exact ⟨_, _, by kernel_rfl, e86 p_xa p_xb p_xk p_ya p_yb p_yk⟩
  · cases h
abbrev Γ69 : List (Nat × Ctr) := (86, s86) :: Γ68
theorem G69 : Sound Tryd.prog GLv Γ69 := G68.cons m86

-- slices.IndexFunc[[]impl.Point,impl.Point]
def s111 : Ctr := fun
  | [.arr a_n [.int .i64, .int .i64, .int .i64, .int .i64, .int .i64, .int .i64] a_c, .val (.func (.func 86) ⟨[]⟩ ⟨[]⟩)] => some (Nat.ble a_n 1048576, iv (idxF (fun j => !(valP (pAt a_c j))) 0 a_n))
  | _ => none

theorem r111_step (K n a_n : Nat) (a_c : Nat → Nat → Int) (i : Nat) : runW Tryd.prog GLv Γ69 K (cfgK [true, true, false, false, false, false, false, true, true]) [.arr a_n [.int .i64, .int .i64, .int .i64, .int .i64, .int .i64, .int .i64] a_c, .val (.func (.func 86) ⟨[]⟩ ⟨[]⟩)] Tryd.f111 0 (n + 1) (stL Tryd.f111.ntmps [.arr a_n [.int .i64, .int .i64, .int .i64, .int .i64, .int .i64, .int .i64] a_c, .val (.func (.func 86) ⟨[]⟩ ⟨[]⟩), .non, .non, .non, .non, .non, iv (a_n : Int), iv ((i : Int))]) = cond (decide ((i : Int) < (a_n : Int))) (cond ((decide (0 ≤ (i : Int)) && decide ((i : Int) < (a_n : Int)))) (cond (!(valP (pAt a_c i))) (some (iv (i : Int))) (runW Tryd.prog GLv Γ69 K (cfgK [true, true, false, false, false, false, false, true, true]) [.arr a_n [.int .i64, .int .i64, .int .i64, .int .i64, .int .i64, .int .i64] a_c, .val (.func (.func 86) ⟨[]⟩ ⟨[]⟩)] Tryd.f111 0 n (stL Tryd.f111.ntmps [.arr a_n [.int .i64, .int .i64, .int .i64, .int .i64, .int .i64, .int .i64] a_c, .val (.func (.func 86) ⟨[]⟩ ⟨[]⟩), .non, .non, .non, .non, .non, iv (a_n : Int), iv (wr ((i : Int) + 1))]))) (none)) (some (iv (-1))) := by kernel_rfl
theorem r111_run (K a_n : Nat) (a_c : Nat → Nat → Int) (hn : a_n ≤ 1048576) : ∀ (m i n : Nat), i + m = a_n → m < n → runW Tryd.prog GLv Γ69 K (cfgK [true, true, false, false, false, false, false, true, true]) [.arr a_n [.int .i64, .int .i64, .int .i64, .int .i64, .int .i64, .int .i64] a_c, .val (.func (.func 86) ⟨[]⟩ ⟨[]⟩)] Tryd.f111 0 n (stL Tryd.f111.ntmps [.arr a_n [.int .i64, .int .i64, .int .i64, .int .i64, .int .i64, .int .i64] a_c, .val (.func (.func 86) ⟨[]⟩ ⟨[]⟩), .non, .non, .non, .non, .non, iv (a_n : Int), iv ((i : Int))]) = some (iv (idxF (fun j => !(valP (pAt a_c j))) i m)) := by
  intro m
  induction m with
  | zero =>
    intro i n h1 h2
    obtain ⟨n, rfl⟩ : ∃ n', n = n' + 1 := ⟨n - 1, by omega⟩
    rw [r111_step, nat_lt i a_n, show decide (i < a_n) = false by simp; omega]
    rfl
  | succ m ih =>
    intro i n h1 h2
    obtain ⟨n, rfl⟩ : ∃ n', n = n' + 1 := ⟨n - 1, by omega⟩
    rw [r111_step, nat_nn, nat_lt i a_n, show decide (i < a_n) = true by simp; omega]
    simp only [Bool.and_self, cond_true]
    rw [wr_succ (by omega), ih (i + 1) n (by omega) (by omega)]
    simp only [idxF]
    cases (!(valP (pAt a_c i))) <;> rfl

theorem e111 (a_n : Nat) (a_c : Nat → Nat → Int) (hp : (Nat.ble a_n 1048576) = true) : evN Tryd.prog GLv Γ69 (a_n + 2) [true, true, false, false, false, false, false, true, true]  Tryd.f111 [.arr a_n [.int .i64, .int .i64, .int .i64, .int .i64, .int .i64, .int .i64] a_c, .val (.func (.func 86) ⟨[]⟩ ⟨[]⟩)] = some (iv (idxF (fun j => !(valP (pAt a_c j))) 0 a_n)) := by
  have hn := Nat.le_of_ble_eq_true hp
  refine (show _ = runW Tryd.prog GLv Γ69 (a_n + 2) (cfgK [true, true, false, false, false, false, false, true, true]) [.arr a_n [.int .i64, .int .i64, .int .i64, .int .i64, .int .i64, .int .i64] a_c, .val (.func (.func 86) ⟨[]⟩ ⟨[]⟩)] Tryd.f111 0 (a_n + 2) (stL Tryd.f111.ntmps [.arr a_n [.int .i64, .int .i64, .int .i64, .int .i64, .int .i64, .int .i64] a_c, .val (.func (.func 86) ⟨[]⟩ ⟨[]⟩), .non, .non, .non, .non, .non, iv (a_n : Int), iv (((0 : Nat) : Int))]) from by kernel_rfl).trans ?_
  exact r111_run _ a_n a_c hn a_n 0 _ (by omega) (by omega)
theorem m111 : Meets Tryd.prog GLv 111 s111 := by
  refine meetsN mix0 glv G69 Tryd.func111 (by kernel_rfl) (by kernel_rfl) s111 fun args x h => ?_
  unfold s111 at h
  split at h
  · rename_i a_n a_c
    simp only [Option.some.injEq, Prod.mk.injEq] at h
    obtain ⟨hp, rfl⟩ := h
    exact ⟨_, _, by kernel_rfl, e111 a_n a_c hp⟩
  · cases h
abbrev Γ70 : List (Nat × Ctr) := (111, s111) :: Γ69
theorem G70 : Sound Tryd.prog GLv Γ70 := G69.cons m111

-- slices.ContainsFunc[[]impl.Point,impl.Point]
def s85 : Ctr := fun
  | [.arr a_n [.int .i64, .int .i64, .int .i64, .int .i64, .int .i64, .int .i64] a_c, .val (.func (.func 86) ⟨[]⟩ ⟨[]⟩)] => some (Nat.ble a_n 1048576, bv (!(allF (fun j => !(!(valP (pAt a_c j)))) 0 a_n)))
  | _ => none

theorem e85 (a_n : Nat) (a_c : Nat → Nat → Int) (hp : (Nat.ble a_n 1048576) = true) : evN Tryd.prog GLv Γ70 (0) []  Tryd.f85 [.arr a_n [.int .i64, .int .i64, .int .i64, .int .i64, .int .i64, .int .i64] a_c, .val (.func (.func 86) ⟨[]⟩ ⟨[]⟩)] = some (bv (!(allF (fun j => !(!(valP (pAt a_c j)))) 0 a_n))) := by
  refine (show _ = cond (Nat.ble a_n 1048576) (some (bv (decide (idxF (fun j => !(valP (pAt a_c j))) 0 a_n ≥ 0)))) none from by kernel_rfl).trans ?_
  rw [hp, idxF_ge]
  rfl
theorem m85 : Meets Tryd.prog GLv 85 s85 := by
  refine meetsN mix0 glv G70 Tryd.func85 (by kernel_rfl) (by kernel_rfl) s85 fun args x h => ?_
  unfold s85 at h
  split at h
  · rename_i a_n a_c
    simp only [Option.some.injEq, Prod.mk.injEq] at h
    obtain ⟨hp, rfl⟩ := h
    exact ⟨_, _, by kernel_rfl, e85 a_n a_c hp⟩
  · cases h
abbrev Γ71 : List (Nat × Ctr) := (85, s85) :: Γ70
theorem G71 : Sound Tryd.prog GLv Γ71 := G70.cons m85

-- impl.areValid
def s59 : Ctr := fun
  | [.arr a_n [.int .i64, .int .i64, .int .i64, .int .i64, .int .i64, .int .i64] a_c] => some (Nat.ble a_n 1048576, bv (allP a_n a_c))
  | _ => none

theorem e59 (a_n : Nat) (a_c : Nat → Nat → Int) (hp : (Nat.ble a_n 1048576) = true) : evN Tryd.prog GLv Γ71 (0) []  Tryd.f59 [.arr a_n [.int .i64, .int .i64, .int .i64, .int .i64, .int .i64, .int .i64] a_c] = some (bv (allP a_n a_c)) := by
  refine (show _ = cond (Nat.ble a_n 1048576) (some (bv (!(!(allF (fun j => !(!(valP (pAt a_c j)))) 0 a_n))))) none from by kernel_rfl).trans ?_
  rw [hp]
  simp only [Bool.not_not, cond_true]
  rfl
theorem m59 : Meets Tryd.prog GLv 59 s59 := by
  refine meetsN mix0 glv G71 Tryd.func59 (by kernel_rfl) (by kernel_rfl) s59 fun args x h => ?_
  unfold s59 at h
  split at h
  · rename_i a_n a_c
    simp only [Option.some.injEq, Prod.mk.injEq] at h
    obtain ⟨hp, rfl⟩ := h
    exact ⟨_, _, by kernel_rfl, e59 a_n a_c hp⟩
  · cases h
abbrev Γ72 : List (Nat × Ctr) := (59, s59) :: Γ71
theorem G72 : Sound Tryd.prog GLv Γ72 := G71.cons m59

-- impl.length[impl.Point]
def s58 : Ctr := fun
  | [.arr a_n [.int .i64, .int .i64, .int .i64, .int .i64, .int .i64, .int .i64] a_c] => some (true, iv (a_n : Int))
  | _ => none

theorem e58 (a_n : Nat) (a_c : Nat → Nat → Int) : evN Tryd.prog GLv Γ72 (0) []  Tryd.f58 [.arr a_n [.int .i64, .int .i64, .int .i64, .int .i64, .int .i64, .int .i64] a_c] = some (iv (a_n : Int)) := by
  kernel_rfl
theorem m58 : Meets Tryd.prog GLv 58 s58 := by
  refine meetsN mix0 glv G72 Tryd.func58 (by kernel_rfl) (by kernel_rfl) s58 fun args x h => ?_
  unfold s58 at h
  split at h
  · rename_i a_n a_c
    simp only [Option.some.injEq, Prod.mk.injEq] at h
    obtain ⟨hp, rfl⟩ := h
    exact ⟨_, _, by kernel_rfl, e58 a_n a_c⟩
  · cases h
abbrev Γ73 : List (Nat × Ctr) := (58, s58) :: Γ72
theorem G73 : Sound Tryd.prog GLv Γ73 := G72.cons m58

-- impl.leastCorner
def s61 : Ctr := fun
  | [.arr a_n [.int .i64, .int .i64, .int .i64, .int .i64, .int .i64, .int .i64] a_c] => some (inB a_n 1 1048576 && allP a_n a_c, iv (lcF a_c 0 a_n 0 : Nat))
  | _ => none

theorem r61_step (K n a_n : Nat) (a_c : Nat → Nat → Int) (i l : Nat) : runW Tryd.prog GLv Γ73 K (cfgK [true, false, false, true, false, false, true, true, true]) [.arr a_n [.int .i64, .int .i64, .int .i64, .int .i64, .int .i64, .int .i64] a_c] Tryd.f61 0 (n + 1) (stL Tryd.f61.ntmps [.arr a_n [.int .i64, .int .i64, .int .i64, .int .i64, .int .i64, .int .i64] a_c, .non, .non, iv ((l : Int)), .non, .non, .arr a_n [.int .i64, .int .i64, .int .i64, .int .i64, .int .i64, .int .i64] a_c, iv (a_n : Int), iv ((i : Int))]) = cond (decide ((i : Int) < (a_n : Int))) (cond ((decide (0 ≤ (i : Int)) && decide ((i : Int) < (a_n : Int)))) (cond ((decide (0 ≤ (l : Int)) && decide ((l : Int) < (a_n : Int)))) (cond (valP (pAt a_c i) && valP (pAt a_c l)) (cond (decide (cpP (pAt a_c i) (pAt a_c l) < 0)) (runW Tryd.prog GLv Γ73 K (cfgK [true, false, false, true, false, false, true, true, true]) [.arr a_n [.int .i64, .int .i64, .int .i64, .int .i64, .int .i64, .int .i64] a_c] Tryd.f61 0 n (stL Tryd.f61.ntmps [.arr a_n [.int .i64, .int .i64, .int .i64, .int .i64, .int .i64, .int .i64] a_c, .non, .non, iv ((i : Int)), .non, .non, .arr a_n [.int .i64, .int .i64, .int .i64, .int .i64, .int .i64, .int .i64] a_c, iv (a_n : Int), iv (wr ((i : Int) + 1))])) (runW Tryd.prog GLv Γ73 K (cfgK [true, false, false, true, false, false, true, true, true]) [.arr a_n [.int .i64, .int .i64, .int .i64, .int .i64, .int .i64, .int .i64] a_c] Tryd.f61 0 n (stL Tryd.f61.ntmps [.arr a_n [.int .i64, .int .i64, .int .i64, .int .i64, .int .i64, .int .i64] a_c, .non, .non, iv ((l : Int)), .non, .non, .arr a_n [.int .i64, .int .i64, .int .i64, .int .i64, .int .i64, .int .i64] a_c, iv (a_n : Int), iv (wr ((i : Int) + 1))]))) (none)) (none)) (none)) (some (iv (l : Int))) := by kernel_rfl
theorem r61_run (K a_n : Nat) (a_c : Nat → Nat → Int) (hn : a_n ≤ 1048576) (hv : ∀ i, i < a_n → valP (pAt a_c i) = true) : ∀ (m i l n : Nat), i + m = a_n → l < a_n → m < n → runW Tryd.prog GLv Γ73 K (cfgK [true, false, false, true, false, false, true, true, true]) [.arr a_n [.int .i64, .int .i64, .int .i64, .int .i64, .int .i64, .int .i64] a_c] Tryd.f61 0 n (stL Tryd.f61.ntmps [.arr a_n [.int .i64, .int .i64, .int .i64, .int .i64, .int .i64, .int .i64] a_c, .non, .non, iv ((l : Int)), .non, .non, .arr a_n [.int .i64, .int .i64, .int .i64, .int .i64, .int .i64, .int .i64] a_c, iv (a_n : Int), iv ((i : Int))]) = some (iv (lcF a_c i m l : Nat)) := by
  intro m
  induction m with
  | zero =>
    intro i l n h1 h2 h3
    obtain ⟨n, rfl⟩ : ∃ n', n = n' + 1 := ⟨n - 1, by omega⟩
    rw [r61_step, nat_lt i a_n, show decide (i < a_n) = false by simp; omega]
    rfl
  | succ m ih =>
    intro i l n h1 h2 h3
    obtain ⟨n, rfl⟩ : ∃ n', n = n' + 1 := ⟨n - 1, by omega⟩
    rw [r61_step, nat_nn, nat_nn, nat_lt i a_n, nat_lt l a_n, show decide (i < a_n) = true by simp; omega, show decide (l < a_n) = true by simp; omega, hv i (by omega), hv l h2]
    simp only [Bool.and_self, cond_true]
    rw [wr_succ (by omega), ih (i + 1) i n (by omega) (by omega) (by omega), ih (i + 1) l n (by omega) h2 (by omega)]
    simp only [lcF]
    cases (decide (cpP (pAt a_c i) (pAt a_c l) < 0)) <;> rfl

theorem e61 (a_n : Nat) (a_c : Nat → Nat → Int) (hp : (inB a_n 1 1048576 && allP a_n a_c) = true) : evN Tryd.prog GLv Γ73 (a_n + 2) [true, false, false, true, false, false, true, true, true]  Tryd.f61 [.arr a_n [.int .i64, .int .i64, .int .i64, .int .i64, .int .i64, .int .i64] a_c] = some (iv (lcF a_c 0 a_n 0 : Nat)) := by
  simp only [Bool.and_eq_true, inB_iff] at hp
  obtain ⟨hn, hv⟩ := hp
  refine (show _ = runW Tryd.prog GLv Γ73 (a_n + 2) (cfgK [true, false, false, true, false, false, true, true, true]) [.arr a_n [.int .i64, .int .i64, .int .i64, .int .i64, .int .i64, .int .i64] a_c] Tryd.f61 0 (a_n + 2) (stL Tryd.f61.ntmps [.arr a_n [.int .i64, .int .i64, .int .i64, .int .i64, .int .i64, .int .i64] a_c, .non, .non, iv (((0 : Nat) : Int)), .non, .non, .arr a_n [.int .i64, .int .i64, .int .i64, .int .i64, .int .i64, .int .i64] a_c, iv (a_n : Int), iv (((0 : Nat) : Int))]) from by kernel_rfl).trans ?_
  exact r61_run _ a_n a_c (by omega) (allP_iff.1 hv) a_n 0 0 _ (by omega) (by omega) (by omega)
theorem m61 : Meets Tryd.prog GLv 61 s61 := by
  refine meetsN mix0 glv G73 Tryd.func61 (by kernel_rfl) (by kernel_rfl) s61 fun args x h => ?_
  unfold s61 at h
  split at h
  · rename_i a_n a_c
    simp only [Option.some.injEq, Prod.mk.injEq] at h
    obtain ⟨hp, rfl⟩ := h
    exact ⟨_, _, by kernel_rfl, e61 a_n a_c hp⟩
  · cases h
abbrev Γ74 : List (Nat × Ctr) := (61, s61) :: Γ73
theorem G74 : Sound Tryd.prog GLv Γ74 := G73.cons m61

-- impl.isConvex
def s60 : Ctr := fun
  | [.arr a_n [.int .i64, .int .i64, .int .i64, .int .i64, .int .i64, .int .i64] a_c] => some (inB a_n 3 1048576 && allP a_n a_c, bv (cvI a_n a_c))
  | _ => none

theorem r60_step (K n a_n : Nat) (a_c : Nat → Nat → Int) (i : Nat) (b s : Int) : runW Tryd.prog GLv Γ74 K (cfgK [true, false, false, true, true, true, false, false, false, false, false, false, false, false, false, false, false, false, false, false, false, false, false, true, true, true]) [.arr a_n [.int .i64, .int .i64, .int .i64, .int .i64, .int .i64, .int .i64] a_c] Tryd.f60 0 (n + 1) (stL Tryd.f60.ntmps [.arr a_n [.int .i64, .int .i64, .int .i64, .int .i64, .int .i64, .int .i64] a_c, .non, .non, iv (a_n : Int), iv (s), iv (b), .non, .non, .non, .non, .non, .non, .non, .non, .non, .non, .non, .non, .non, .non, .non, .non, .non, .arr a_n [.int .i64, .int .i64, .int .i64, .int .i64, .int .i64, .int .i64] a_c, iv (a_n : Int), iv ((i : Int))]) = cond (decide ((i : Int) < (a_n : Int))) (cond ((decide (0 ≤ (i : Int)) && decide ((i : Int) < (a_n : Int)))) (cond (!((a_n : Int) == 0)) (cond ((decide (0 ≤ (((wr ((i : Int) + 1)).tmod (a_n : Int)) : Int)) && decide ((((wr ((i : Int) + 1)).tmod (a_n : Int)) : Int) < (a_n : Int)))) (cond (valP (pAt a_c i) && valP (pAt a_c ((wr ((i : Int) + 1)).tmod (a_n : Int)).toNat)) (cond (decide ((dirV (pAt a_c i) (pAt a_c ((wr ((i : Int) + 1)).tmod (a_n : Int)).toNat)) < 0)) (some (bv false)) (cond (decide (b < 0)) (some (bv false)) (cond (!(inB (wr ((dirV (pAt a_c i) (pAt a_c ((wr ((i : Int) + 1)).tmod (a_n : Int)).toNat)) - b) % 16) 1 7)) (some (bv false)) (runW Tryd.prog GLv Γ74 K (cfgK [true, false, false, true, true, true, false, false, false, false, false, false, false, false, false, false, false, false, false, false, false, false, false, true, true, true]) [.arr a_n [.int .i64, .int .i64, .int .i64, .int .i64, .int .i64, .int .i64] a_c] Tryd.f60 0 n (stL Tryd.f60.ntmps [.arr a_n [.int .i64, .int .i64, .int .i64, .int .i64, .int .i64, .int .i64] a_c, .non, .non, iv (a_n : Int), iv (wr (s + wr ((dirV (pAt a_c i) (pAt a_c ((wr ((i : Int) + 1)).tmod (a_n : Int)).toNat)) - b) % 16)), iv ((dirV (pAt a_c i) (pAt a_c ((wr ((i : Int) + 1)).tmod (a_n : Int)).toNat))), .non, .non, .non, .non, .non, .non, .non, .non, .non, .non, .non, .non, .non, .non, .non, .non, .non, .arr a_n [.int .i64, .int .i64, .int .i64, .int .i64, .int .i64, .int .i64] a_c, iv (a_n : Int), iv (wr ((i : Int) + 1))]))))) (none)) (none)) (none)) (none)) (some (bv (s == 16))) := by kernel_rfl
theorem r60_run (K a_n : Nat) (a_c : Nat → Nat → Int) (h0 : 0 < a_n) (hn : a_n ≤ 1048576) (hv : ∀ i, i < a_n → valP (pAt a_c i) = true) : ∀ (m i n : Nat) (b s : Int), i + m = a_n → m < n → runW Tryd.prog GLv Γ74 K (cfgK [true, false, false, true, true, true, false, false, false, false, false, false, false, false, false, false, false, false, false, false, false, false, false, true, true, true]) [.arr a_n [.int .i64, .int .i64, .int .i64, .int .i64, .int .i64, .int .i64] a_c] Tryd.f60 0 n (stL Tryd.f60.ntmps [.arr a_n [.int .i64, .int .i64, .int .i64, .int .i64, .int .i64, .int .i64] a_c, .non, .non, iv (a_n : Int), iv (s), iv (b), .non, .non, .non, .non, .non, .non, .non, .non, .non, .non, .non, .non, .non, .non, .non, .non, .non, .arr a_n [.int .i64, .int .i64, .int .i64, .int .i64, .int .i64, .int .i64] a_c, iv (a_n : Int), iv ((i : Int))]) = some (bv (cvF a_n a_c i m b s)) := by
  intro m
  induction m with
  | zero =>
    intro i n b s h1 h3
    obtain ⟨n, rfl⟩ : ∃ n', n = n' + 1 := ⟨n - 1, by omega⟩
    rw [r60_step, nat_lt i a_n, show decide (i < a_n) = false by simp; omega]
    rfl
  | succ m ih =>
    intro i n b s h1 h3
    obtain ⟨n, rfl⟩ : ∃ n', n = n' + 1 := ⟨n - 1, by omega⟩
    have hm : (i + 1) % a_n < a_n := Nat.mod_lt _ h0
    rw [r60_step, wr_succ (by omega), tmod_cast, nat_nn, nat_nn, nat_lt i a_n, nat_lt _ a_n, show decide (i < a_n) = true by simp; omega, show decide ((i + 1) % a_n < a_n) = true by simpa using hm, show (!((a_n : Int) == 0)) = true by simp; omega]
    simp only [Bool.and_self, cond_true, Int.toNat_natCast]
    rw [hv i (by omega), hv _ hm]
    simp only [Bool.and_self, cond_true]
    rw [ih (i + 1) n _ _ (by omega) (by omega)]
    show cond (decide (dirA a_n a_c i < 0)) (some (bv false)) (cond (decide (b < 0)) (some (bv false)) (cond (!(inB (wr (dirA a_n a_c i - b) % 16) 1 7)) (some (bv false)) (some (bv (cvF a_n a_c (i + 1) m (dirA a_n a_c i) (wr (s + wr (dirA a_n a_c i - b) % 16))))))) = some (bv (cvF a_n a_c i (m + 1) b s))
    simp only [cvF]
    cases decide (dirA a_n a_c i < 0) <;> cases decide (b < 0) <;> cases inB (wr (dirA a_n a_c i - b) % 16) 1 7 <;> rfl

theorem e60 (a_n : Nat) (a_c : Nat → Nat → Int) (hp : (inB a_n 3 1048576 && allP a_n a_c) = true) : evN Tryd.prog GLv Γ74 (a_n + 2) [true, false, false, true, true, true, false, false, false, false, false, false, false, false, false, false, false, false, false, false, false, false, false, true, true, true]  Tryd.f60 [.arr a_n [.int .i64, .int .i64, .int .i64, .int .i64, .int .i64, .int .i64] a_c] = some (bv (cvI a_n a_c)) := by
  simp only [Bool.and_eq_true, inB_iff] at hp
  obtain ⟨hn, hv⟩ := hp
  have hv := allP_iff.1 hv
  refine (show _ = cond (decide ((a_n : Int) < 3)) (some (bv false)) (cond ((decide (0 ≤ ((wr ((a_n : Int) - 1)) : Int)) && decide (((wr ((a_n : Int) - 1)) : Int) < (a_n : Int)))) (cond ((decide (0 ≤ (((0 : Nat) : Int) : Int)) && decide ((((0 : Nat) : Int) : Int) < (a_n : Int)))) (cond (valP (pAt a_c (wr ((a_n : Int) - 1)).toNat) && valP (pAt a_c 0)) (runW Tryd.prog GLv Γ74 (a_n + 2) (cfgK [true, false, false, true, true, true, false, false, false, false, false, false, false, false, false, false, false, false, false, false, false, false, false, true, true, true]) [.arr a_n [.int .i64, .int .i64, .int .i64, .int .i64, .int .i64, .int .i64] a_c] Tryd.f60 0 (a_n + 2) (stL Tryd.f60.ntmps [.arr a_n [.int .i64, .int .i64, .int .i64, .int .i64, .int .i64, .int .i64] a_c, .non, .non, iv (a_n : Int), iv (0), iv (dirV (pAt a_c (wr ((a_n : Int) - 1)).toNat) (pAt a_c 0)), .non, .non, .non, .non, .non, .non, .non, .non, .non, .non, .non, .non, .non, .non, .non, .non, .non, .arr a_n [.int .i64, .int .i64, .int .i64, .int .i64, .int .i64, .int .i64] a_c, iv (a_n : Int), iv (((0 : Nat) : Int))])) (none)) (none)) (none)) from by kernel_rfl).trans ?_
  rw [show decide ((a_n : Int) < 3) = false by simp; omega, show (wr ((a_n : Int) - 1)) = ((a_n - 1 : Nat) : Int) by rw [wr_in (by omega) (by omega)]; omega]
  simp only [cond_false, nat_nn, nat_lt, Int.toNat_natCast]
  rw [show decide (a_n - 1 < a_n) = true by simp; omega, show decide (0 < a_n) = true by simp; omega, hv (a_n - 1) (by omega), hv 0 (by omega)]
  simp only [Bool.and_self, cond_true]
  exact r60_run _ a_n a_c (by omega) (by omega) hv a_n 0 _ _ _ (by omega) (by omega)
theorem m60 : Meets Tryd.prog GLv 60 s60 := by
  refine meetsN mix0 glv G74 Tryd.func60 (by kernel_rfl) (by kernel_rfl) s60 fun args x h => ?_
  unfold s60 at h
  split at h
  · rename_i a_n a_c
    simp only [Option.some.injEq, Prod.mk.injEq] at h
    obtain ⟨hp, rfl⟩ := h
    exact ⟨_, _, by kernel_rfl, e60 a_n a_c hp⟩
  · cases h
abbrev Γ75 : List (Nat × Ctr) := (60, s60) :: Γ74
theorem G75 : Sound Tryd.prog GLv Γ75 := G74.cons m60

-- impl.ValidPolygon
def s28 : Ctr := fun
  | [.arr a_n [.int .i64, .int .i64, .int .i64, .int .i64, .int .i64, .int .i64] a_c] => some (Nat.ble a_n 1048576, bv (vpI a_n a_c))
  | _ => none

theorem e28 (a_n : Nat) (a_c : Nat → Nat → Int) (hp : (Nat.ble a_n 1048576) = true) : evN Tryd.prog GLv Γ75 (0) []  Tryd.f28 [.arr a_n [.int .i64, .int .i64, .int .i64, .int .i64, .int .i64, .int .i64] a_c] = some (bv (vpI a_n a_c)) := by
  refine (show _ = cond (inB (a_n : Int) 3 16) (cond (Nat.ble a_n 1048576) (cond (allP a_n a_c) (cond (inB a_n 3 1048576 && allP a_n a_c) (cond (cvI a_n a_c) (cond (inB a_n 1 1048576 && allP a_n a_c) (some (bv (((lcF a_c 0 a_n 0 : Nat) : Int) == 0))) (none)) (some (bv false))) (none)) (some (bv false))) (none)) (some (bv false)) from by kernel_rfl).trans ?_
  unfold vpI
  by_cases h1 : inB (a_n : Int) 3 16 = true
  · have h1' := inB_iff.1 h1
    rw [hp, h1, show inB (a_n : Int) 3 1048576 = true from inB_iff.2 (by omega), show inB (a_n : Int) 1 1048576 = true from inB_iff.2 (by omega)]
    cases allP a_n a_c with
    | false => rfl
    | true => cases cvI a_n a_c <;> rfl
  · rw [show inB (a_n : Int) 3 16 = false by simpa using h1]
    rfl
theorem m28 : Meets Tryd.prog GLv 28 s28 := by
  refine meetsN mix0 glv G75 Tryd.func28 (by kernel_rfl) (by kernel_rfl) s28 fun args x h => ?_
  unfold s28 at h
  split at h
  · rename_i a_n a_c
    simp only [Option.some.injEq, Prod.mk.injEq] at h
    obtain ⟨hp, rfl⟩ := h
    exact ⟨_, _, by kernel_rfl, e28 a_n a_c hp⟩
  · cases h
abbrev Γ76 : List (Nat × Ctr) := (28, s28) :: Γ75
theorem G76 : Sound Tryd.prog GLv Γ76 := G75.cons m28

end Go.Proofs.YtooikeeckoflpaaDoor
