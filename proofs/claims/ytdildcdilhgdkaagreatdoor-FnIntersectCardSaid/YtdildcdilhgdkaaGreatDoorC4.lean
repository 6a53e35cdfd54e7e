/- Contracts of the program's functions, by the evaluator. -/
import Derived.Test.YtdildcdilhgdkaaGreatDoorC3
import Derived.Test.YtdildcdilhgdkaaGreatDoorPlD
namespace Go.Proofs.YtdildcdilhgdkaaGreatDoor
open Go.Ev
set_option linter.unusedVariables false
set_option linter.unusedSimpArgs false
set_option maxRecDepth 100000
-- impl.turned
def s84 : Ctr := fun
  | [.val (.int .i64 d)] => some (true, iv (d % 16))
  | _ => none
theorem e84 (d : Int) : evN Tryz.prog GLv Γ52 (0) []  Tryz.f84 [.val (.int .i64 d)] = some (iv (d % 16)) := by
  exact (show _ = some (iv (and64 d 15)) from by kernel_rfl).trans (by rw [and64_15])
theorem m84 : Meets Tryz.prog GLv 84 s84 := by
  refine meetsN mix0 glv G52 Tryz.func84 (by kernel_rfl) (by kernel_rfl) s84 fun args x h => ?_
  unfold s84 at h
  split at h
  . rename_i d
    simp only [Option.some.injEq, Prod.mk.injEq] at h
    obtain ⟨hp, rfl⟩ := h
    exact ⟨_, _, by kernel_rfl, e84 d⟩
  . cases h
abbrev Γ53 : List (Nat × Ctr) := (84, s84) :: Γ52
theorem G53 : Sound Tryz.prog GLv Γ53 := G52.cons m84
-- spec.l02Mod
def s58b : Ctr := fun
  | [.val (.int .i64 d)] => some (inB d (-100) 100, iv (d % 16))
  | _ => none
theorem e58b (d : Int) (hp : (inB d (-100) 100) = true) : evN Tryz.prog GLv Γ53 (0) []  Tryz.f58 [.val (.int .i64 d)] = some (iv (d % 16)) := by
  exact (show _ = some (iv ((wr (d.tmod 16 + 16)).tmod 16)) from by kernel_rfl).trans (by rw [mod_ok hp])
theorem m58b : Meets Tryz.prog GLv 58 s58b := by
  refine meetsN mix0 glv G53 Tryz.func58 (by kernel_rfl) (by kernel_rfl) s58b fun args x h => ?_
  unfold s58b at h
  split at h
  . rename_i d
    simp only [Option.some.injEq, Prod.mk.injEq] at h
    obtain ⟨hp, rfl⟩ := h
    exact ⟨_, _, by kernel_rfl, e58b d hp⟩
  . cases h
abbrev Γ54 : List (Nat × Ctr) := (58, s58b) :: Γ53
theorem G54 : Sound Tryz.prog GLv Γ54 := G53.cons m58b
-- spec.l02Vec
def s69b : Ctr := fun
  | [.val (.int .i64 d)] => some (inB d 0 19, (vecP (d % 16)).av)
  | _ => none
theorem e69b (d : Int) (hp : (inB d 0 19) = true) : evN Tryz.prog GLv Γ54 (0) []  Tryz.f69 [.val (.int .i64 d)] = some ((vecP (d % 16)).av) := by
  rw [inB_iff] at hp
  have hh : d = 0 \/ d = 1 \/ d = 2 \/ d = 3 \/ d = 4 \/ d = 5 \/ d = 6 \/ d = 7 \/ d = 8 \/ d = 9 \/ d = 10 \/ d = 11 \/ d = 12 \/ d = 13 \/ d = 14 \/ d = 15 \/ d = 16 \/ d = 17 \/ d = 18 \/ d = 19 := by omega
  clear hp
  rcases hh with rfl | rfl | rfl | rfl | rfl | rfl | rfl | rfl | rfl | rfl | rfl | rfl | rfl | rfl | rfl | rfl | rfl | rfl | rfl | rfl
  all_goals (show _ = _; kernel_rfl)
theorem m69b : Meets Tryz.prog GLv 69 s69b := by
  refine meetsN mix0 glv G54 Tryz.func69 (by kernel_rfl) (by kernel_rfl) s69b fun args x h => ?_
  unfold s69b at h
  split at h
  . rename_i d
    simp only [Option.some.injEq, Prod.mk.injEq] at h
    obtain ⟨hp, rfl⟩ := h
    exact ⟨_, _, by kernel_rfl, e69b d hp⟩
  . cases h
abbrev Γ55 : List (Nat × Ctr) := (69, s69b) :: Γ54
theorem G55 : Sound Tryz.prog GLv Γ55 := G54.cons m69b
-- spec.l02Dot
def s80b : Ctr := fun
  | [.val (.int .i64 d), .agg [.val (.int .i64 p_xa), .val (.int .i64 p_xb), .val (.int .i64 p_xk), .val (.int .i64 p_ya), .val (.int .i64 p_yb), .val (.int .i64 p_yk)]] => some (inB d 0 19 && pkD (vecP (d % 16)) (⟨⟨p_xa, p_xb, p_xk⟩, ⟨p_ya, p_yb, p_yk⟩⟩ : P2), (dotF (vecP (d % 16)) (⟨⟨p_xa, p_xb, p_xk⟩, ⟨p_ya, p_yb, p_yk⟩⟩ : P2)).av)
  | _ => none
theorem e80b (d : Int) (p_xa : Int) (p_xb : Int) (p_xk : Int) (p_ya : Int) (p_yb : Int) (p_yk : Int) (hp : (inB d 0 19 && pkD (vecP (d % 16)) (⟨⟨p_xa, p_xb, p_xk⟩, ⟨p_ya, p_yb, p_yk⟩⟩ : P2)) = true) : evN Tryz.prog GLv Γ55 (0) []  Tryz.f80 [.val (.int .i64 d), .agg [.val (.int .i64 p_xa), .val (.int .i64 p_xb), .val (.int .i64 p_xk), .val (.int .i64 p_ya), .val (.int .i64 p_yb), .val (.int .i64 p_yk)]] = some ((dotF (vecP (d % 16)) (⟨⟨p_xa, p_xb, p_xk⟩, ⟨p_ya, p_yb, p_yk⟩⟩ : P2)).av) := by
  simp only [pkD, Bool.and_eq_true] at hp
  obtain ⟨h0, h1, h2, h3⟩ := hp
  refine (show _ = cond (inB d 0 19) (cond (pkm (vecP (d % 16)).x (⟨p_xa, p_xb, p_xk⟩ : N3)) (cond (pkm (vecP (d % 16)).y (⟨p_ya, p_yb, p_yk⟩ : N3)) (cond (pk (mulF (vecP (d % 16)).x (⟨p_xa, p_xb, p_xk⟩ : N3)) (mulF (vecP (d % 16)).y (⟨p_ya, p_yb, p_yk⟩ : N3))) (some (dotF (vecP (d % 16)) (⟨⟨p_xa, p_xb, p_xk⟩, ⟨p_ya, p_yb, p_yk⟩⟩ : P2)).av) none) none) none) none from by kernel_rfl).trans ?_
  rw [h0, h1, h2, h3]
  rfl
theorem m80b : Meets Tryz.prog GLv 80 s80b := by
  refine meetsN mix0 glv G55 Tryz.func80 (by kernel_rfl) (by kernel_rfl) s80b fun args x h => ?_
  unfold s80b at h
  split at h
  . rename_i d p_xa p_xb p_xk p_ya p_yb p_yk
    simp only [Option.some.injEq, Prod.mk.injEq] at h
    obtain ⟨hp, rfl⟩ := h
    exact ⟨_, _, by kernel_rfl, e80b d p_xa p_xb p_xk p_ya p_yb p_yk hp⟩
  . cases h
abbrev Γ56 : List (Nat × Ctr) := (80, s80b) :: Γ55
theorem G56 : Sound Tryz.prog GLv Γ56 := G55.cons m80b
-- spec.l02Zero
def s102 : Ctr := fun
  | [.agg [.val (.int .i64 x_a), .val (.int .i64 x_b), .val (.int .i64 x_k)]] => some (true, bv (zroN (⟨x_a, x_b, x_k⟩ : N3)))
  | _ => none
theorem e102 (x_a : Int) (x_b : Int) (x_k : Int) : evN Tryz.prog GLv Γ56 (0) []  Tryz.f102 [.agg [.val (.int .i64 x_a), .val (.int .i64 x_b), .val (.int .i64 x_k)]] = some (bv (zroN (⟨x_a, x_b, x_k⟩ : N3))) := by
  refine (show _ = cond (x_a == 0) (some (bv (x_b == 0))) (some (bv false)) from by kernel_rfl).trans ?_
  unfold zroN
  cases (x_a == 0) <;> rfl
theorem m102 : Meets Tryz.prog GLv 102 s102 := by
  refine meetsN mix0 glv G56 Tryz.func102 (by kernel_rfl) (by kernel_rfl) s102 fun args x h => ?_
  unfold s102 at h
  split at h
  . rename_i x_a x_b x_k
    simp only [Option.some.injEq, Prod.mk.injEq] at h
    obtain ⟨hp, rfl⟩ := h
    exact ⟨_, _, by kernel_rfl, e102 x_a x_b x_k⟩
  . cases h
abbrev Γ57 : List (Nat × Ctr) := (102, s102) :: Γ56
theorem G57 : Sound Tryz.prog GLv Γ57 := G56.cons m102
-- spec.l02Direction
def s75 : Ctr := fun
  | [.agg [.val (.int .i64 w_xa), .val (.int .i64 w_xb), .val (.int .i64 w_xk), .val (.int .i64 w_ya), .val (.int .i64 w_yb), .val (.int .i64 w_yk)]] => some (wayB (⟨⟨w_xa, w_xb, w_xk⟩, ⟨w_ya, w_yb, w_yk⟩⟩ : P2), iv (dirF 16 0 (⟨⟨w_xa, w_xb, w_xk⟩, ⟨w_ya, w_yb, w_yk⟩⟩ : P2)))
  | _ => none
theorem r75_step (K n : Nat) (d : Int) (w : P2) : runL Tryz.prog GLv Γ57 K kx24 Tryz.f75 0 (n + 1) (stL Tryz.f75.ntmps [.non, .own 100 [iv w.x.a, iv w.x.b, iv w.x.k, iv w.y.a, iv w.y.b, iv w.y.k], .non, iv (d)]) = cond (decide (d < 16)) (cond (inB (wr (d + 4)) 0 19 && pkD (vecP (wr (d + 4) % 16)) w) (cond (zroN (dotF (vecP (wr (d + 4) % 16)) w))
    (cond (inB d 0 19 && pkD (vecP (d % 16)) w) (cond (sB (dotF (vecP (d % 16)) w).a && sB (dotF (vecP (d % 16)) w).b) (cond (decide (sgF (dotF (vecP (d % 16)) w) > 0)) (some (iv d)) (runL Tryz.prog GLv Γ57 K kx24 Tryz.f75 0 n (stL Tryz.f75.ntmps [.non, .own 100 [iv w.x.a, iv w.x.b, iv w.x.k, iv w.y.a, iv w.y.b, iv w.y.k], .non, iv (wr (d + 1))]))) none) none) (runL Tryz.prog GLv Γ57 K kx24 Tryz.f75 0 n (stL Tryz.f75.ntmps [.non, .own 100 [iv w.x.a, iv w.x.b, iv w.x.k, iv w.y.a, iv w.y.b, iv w.y.k], .non, iv (wr (d + 1))]))) none) (some (iv (-1))) := by kernel_rfl
theorem r75_run (K : Nat) (w : P2) (v : V4) (hw : Go.Ev.Way w v) : ∀ (n : Nat) (d : Int) (m : Nat), 0 <= d -> d + n = 16 -> n < m -> runL Tryz.prog GLv Γ57 K kx24 Tryz.f75 0 m (stL Tryz.f75.ntmps [.non, .own 100 [iv w.x.a, iv w.x.b, iv w.x.k, iv w.y.a, iv w.y.b, iv w.y.k], .non, iv (d)]) = some (iv (dirF n d w)) := by
  intro n
  induction n with
  | zero =>
    intro d m h0 h1 hm
    obtain ⟨m, rfl⟩ : ∃ m', m = m' + 1 := ⟨m - 1, by omega⟩
    rw [r75_step, show decide (d < 16) = false by simp; omega]
    rfl
  | succ n ih =>
    intro d m h0 h1 hm
    obtain ⟨m, rfl⟩ : ∃ m', m = m' + 1 := ⟨m - 1, by omega⟩
    have hd : inB d 0 15 = true := inB_iff.2 (by omega)
    have hd4 : inB ((d + 4) % 16) 0 15 = true := inB_iff.2 (by omega)
    obtain ⟨k1, k2, k3, _, _⟩ := way_ok hd hw
    obtain ⟨_, k4, _, _, _⟩ := way_ok hd4 hw
    rw [r75_step, show decide (d < 16) = true by simp; omega, wr_in (n := d + 4) (by omega) (by omega), show inB (d + 4) 0 19 = true from inB_iff.2 (by omega), show inB d 0 19 = true from inB_iff.2 (by omega), k4,
      mod_small hd, k2, k3, zro_perp hd hw, wr_in (n := d + 1) (by omega) (by omega), ih (d + 1) m (by omega) (by omega) (by omega)]
    rw [dirF_succ]
    cases eqN (crsF (vecP d) w) z3 <;> cases decide (sgF (dotF (vecP d) w) > 0) <;> rfl
theorem e75 (w_xa : Int) (w_xb : Int) (w_xk : Int) (w_ya : Int) (w_yb : Int) (w_yk : Int) (hp : (wayB (⟨⟨w_xa, w_xb, w_xk⟩, ⟨w_ya, w_yb, w_yk⟩⟩ : P2)) = true) : evN Tryz.prog GLv Γ57 (17) kx24  Tryz.f75 [.agg [.val (.int .i64 w_xa), .val (.int .i64 w_xb), .val (.int .i64 w_xk), .val (.int .i64 w_ya), .val (.int .i64 w_yb), .val (.int .i64 w_yk)]] = some (iv (dirF 16 0 (⟨⟨w_xa, w_xb, w_xk⟩, ⟨w_ya, w_yb, w_yk⟩⟩ : P2))) := by
  obtain ⟨v, hw⟩ := wayB_way hp
  refine (show _ = runL Tryz.prog GLv Γ57 17 kx24 Tryz.f75 0 17 (stL Tryz.f75.ntmps [.non, .own 100 [iv (⟨⟨w_xa, w_xb, w_xk⟩, ⟨w_ya, w_yb, w_yk⟩⟩ : P2).x.a, iv (⟨⟨w_xa, w_xb, w_xk⟩, ⟨w_ya, w_yb, w_yk⟩⟩ : P2).x.b, iv (⟨⟨w_xa, w_xb, w_xk⟩, ⟨w_ya, w_yb, w_yk⟩⟩ : P2).x.k, iv (⟨⟨w_xa, w_xb, w_xk⟩, ⟨w_ya, w_yb, w_yk⟩⟩ : P2).y.a, iv (⟨⟨w_xa, w_xb, w_xk⟩, ⟨w_ya, w_yb, w_yk⟩⟩ : P2).y.b, iv (⟨⟨w_xa, w_xb, w_xk⟩, ⟨w_ya, w_yb, w_yk⟩⟩ : P2).y.k], .non, iv (0)]) from by kernel_rfl).trans ?_
  rw [r75_run 17 (⟨⟨w_xa, w_xb, w_xk⟩, ⟨w_ya, w_yb, w_yk⟩⟩ : P2) _ hw 16 0 17 (by decide) (by decide) (by decide)]
theorem m75 : Meets Tryz.prog GLv 75 s75 := by
  refine meetsN mix0 glv G57 Tryz.func75 (by kernel_rfl) (by kernel_rfl) s75 fun args x h => ?_
  unfold s75 at h
  split at h
  . rename_i w_xa w_xb w_xk w_ya w_yb w_yk
    simp only [Option.some.injEq, Prod.mk.injEq] at h
    obtain ⟨hp, rfl⟩ := h
    exact ⟨_, _, by kernel_rfl, e75 w_xa w_xb w_xk w_ya w_yb w_yk hp⟩
  . cases h
abbrev Γ58 : List (Nat × Ctr) := (75, s75) :: Γ57
theorem G58 : Sound Tryz.prog GLv Γ58 := G57.cons m75
-- spec.l01Compare
def s92 : Ctr := fun
  | [.agg [.val (.int .i64 x_a), .val (.int .i64 x_b), .val (.int .i64 x_k)], .agg [.val (.int .i64 y_a), .val (.int .i64 y_b), .val (.int .i64 y_k)]] => some (validB (⟨x_a, x_b, x_k⟩ : N3) && validB (⟨y_a, y_b, y_k⟩ : N3), iv (sgF (subF (⟨x_a, x_b, x_k⟩ : N3) (⟨y_a, y_b, y_k⟩ : N3))))
  | _ => none
theorem e92 (x_a : Int) (x_b : Int) (x_k : Int) (y_a : Int) (y_b : Int) (y_k : Int) (hp : (validB (⟨x_a, x_b, x_k⟩ : N3) && validB (⟨y_a, y_b, y_k⟩ : N3)) = true) : evN Tryz.prog GLv Γ58 (0) []  Tryz.f92 [.agg [.val (.int .i64 x_a), .val (.int .i64 x_b), .val (.int .i64 x_k)], .agg [.val (.int .i64 y_a), .val (.int .i64 y_b), .val (.int .i64 y_k)]] = some (iv (sgF (subF (⟨x_a, x_b, x_k⟩ : N3) (⟨y_a, y_b, y_k⟩ : N3)))) := by
  rw [Bool.and_eq_true] at hp
  refine (show _ = cond (pk (⟨x_a, x_b, x_k⟩ : N3) (⟨y_a, y_b, y_k⟩ : N3)) (cond (sB (subF (⟨x_a, x_b, x_k⟩ : N3) (⟨y_a, y_b, y_k⟩ : N3)).a && sB (subF (⟨x_a, x_b, x_k⟩ : N3) (⟨y_a, y_b, y_k⟩ : N3)).b) (some (iv (sgF (subF (⟨x_a, x_b, x_k⟩ : N3) (⟨y_a, y_b, y_k⟩ : N3))))) (none)) (none) from by kernel_rfl).trans ?_
  rw [(vpk hp.1 hp.2).1, cmp_ok hp.1 hp.2]
  rfl
theorem m92 : Meets Tryz.prog GLv 92 s92 := by
  refine meetsN mix0 glv G58 Tryz.func92 (by kernel_rfl) (by kernel_rfl) s92 fun args x h => ?_
  unfold s92 at h
  split at h
  . rename_i x_a x_b x_k y_a y_b y_k
    simp only [Option.some.injEq, Prod.mk.injEq] at h
    obtain ⟨hp, rfl⟩ := h
    exact ⟨_, _, by kernel_rfl, e92 x_a x_b x_k y_a y_b y_k hp⟩
  . cases h
abbrev Γ59 : List (Nat × Ctr) := (92, s92) :: Γ58
theorem G59 : Sound Tryz.prog GLv Γ59 := G58.cons m92
-- (impl.Point).compare
def s85 : Ctr := fun
  | [.agg [.val (.int .i64 p_xa), .val (.int .i64 p_xb), .val (.int .i64 p_xk), .val (.int .i64 p_ya), .val (.int .i64 p_yb), .val (.int .i64 p_yk)], .agg [.val (.int .i64 q_xa), .val (.int .i64 q_xb), .val (.int .i64 q_xk), .val (.int .i64 q_ya), .val (.int .i64 q_yb), .val (.int .i64 q_yk)]] => some (valP (⟨⟨p_xa, p_xb, p_xk⟩, ⟨p_ya, p_yb, p_yk⟩⟩ : P2) && valP (⟨⟨q_xa, q_xb, q_xk⟩, ⟨q_ya, q_yb, q_yk⟩⟩ : P2), iv (cpP (⟨⟨p_xa, p_xb, p_xk⟩, ⟨p_ya, p_yb, p_yk⟩⟩ : P2) (⟨⟨q_xa, q_xb, q_xk⟩, ⟨q_ya, q_yb, q_yk⟩⟩ : P2)))
  | _ => none
theorem e85 (p_xa : Int) (p_xb : Int) (p_xk : Int) (p_ya : Int) (p_yb : Int) (p_yk : Int) (q_xa : Int) (q_xb : Int) (q_xk : Int) (q_ya : Int) (q_yb : Int) (q_yk : Int) (hp : (valP (⟨⟨p_xa, p_xb, p_xk⟩, ⟨p_ya, p_yb, p_yk⟩⟩ : P2) && valP (⟨⟨q_xa, q_xb, q_xk⟩, ⟨q_ya, q_yb, q_yk⟩⟩ : P2)) = true) : evN Tryz.prog GLv Γ59 (0) []  Tryz.f85 [.agg [.val (.int .i64 p_xa), .val (.int .i64 p_xb), .val (.int .i64 p_xk), .val (.int .i64 p_ya), .val (.int .i64 p_yb), .val (.int .i64 p_yk)], .agg [.val (.int .i64 q_xa), .val (.int .i64 q_xb), .val (.int .i64 q_xk), .val (.int .i64 q_ya), .val (.int .i64 q_yb), .val (.int .i64 q_yk)]] = some (iv (cpP (⟨⟨p_xa, p_xb, p_xk⟩, ⟨p_ya, p_yb, p_yk⟩⟩ : P2) (⟨⟨q_xa, q_xb, q_xk⟩, ⟨q_ya, q_yb, q_yk⟩⟩ : P2))) := by
  simp only [Bool.and_eq_true, valP] at hp
  obtain ⟨⟨h1, h2⟩, h3, h4⟩ := hp
  refine (show _ = cond (pk (⟨p_xa, p_xb, p_xk⟩ : N3) (⟨q_xa, q_xb, q_xk⟩ : N3) && (sB (subF (⟨p_xa, p_xb, p_xk⟩ : N3) (⟨q_xa, q_xb, q_xk⟩ : N3)).a && sB (subF (⟨p_xa, p_xb, p_xk⟩ : N3) (⟨q_xa, q_xb, q_xk⟩ : N3)).b)) (cond (sgF (subF (⟨p_xa, p_xb, p_xk⟩ : N3) (⟨q_xa, q_xb, q_xk⟩ : N3)) != 0) (some (iv (sgF (subF (⟨p_xa, p_xb, p_xk⟩ : N3) (⟨q_xa, q_xb, q_xk⟩ : N3))))) (cond (pk (⟨p_ya, p_yb, p_yk⟩ : N3) (⟨q_ya, q_yb, q_yk⟩ : N3) && (sB (subF (⟨p_ya, p_yb, p_yk⟩ : N3) (⟨q_ya, q_yb, q_yk⟩ : N3)).a && sB (subF (⟨p_ya, p_yb, p_yk⟩ : N3) (⟨q_ya, q_yb, q_yk⟩ : N3)).b)) (some (iv (sgF (subF (⟨p_ya, p_yb, p_yk⟩ : N3) (⟨q_ya, q_yb, q_yk⟩ : N3))))) (none))) (none) from by kernel_rfl).trans ?_
  rw [(vpk h1 h3).1, cmp_ok h1 h3, (vpk h2 h4).1, cmp_ok h2 h4]
  unfold cpP
  cases (sgF (subF (⟨p_xa, p_xb, p_xk⟩ : N3) (⟨q_xa, q_xb, q_xk⟩ : N3)) != 0) <;> rfl
theorem m85 : Meets Tryz.prog GLv 85 s85 := by
  refine meetsN mix0 glv G59 Tryz.func85 (by kernel_rfl) (by kernel_rfl) s85 fun args x h => ?_
  unfold s85 at h
  split at h
  . rename_i p_xa p_xb p_xk p_ya p_yb p_yk q_xa q_xb q_xk q_ya q_yb q_yk
    simp only [Option.some.injEq, Prod.mk.injEq] at h
    obtain ⟨hp, rfl⟩ := h
    exact ⟨_, _, by kernel_rfl, e85 p_xa p_xb p_xk p_ya p_yb p_yk q_xa q_xb q_xk q_ya q_yb q_yk hp⟩
  . cases h
abbrev Γ60 : List (Nat × Ctr) := (85, s85) :: Γ59
theorem G60 : Sound Tryz.prog GLv Γ60 := G59.cons m85
-- spec.l02Before
def s56 : Ctr := fun
  | [.agg [.val (.int .i64 p_xa), .val (.int .i64 p_xb), .val (.int .i64 p_xk), .val (.int .i64 p_ya), .val (.int .i64 p_yb), .val (.int .i64 p_yk)], .agg [.val (.int .i64 q_xa), .val (.int .i64 q_xb), .val (.int .i64 q_xk), .val (.int .i64 q_ya), .val (.int .i64 q_yb), .val (.int .i64 q_yk)]] => some (valP (⟨⟨p_xa, p_xb, p_xk⟩, ⟨p_ya, p_yb, p_yk⟩⟩ : P2) && valP (⟨⟨q_xa, q_xb, q_xk⟩, ⟨q_ya, q_yb, q_yk⟩⟩ : P2), iv (cpP (⟨⟨p_xa, p_xb, p_xk⟩, ⟨p_ya, p_yb, p_yk⟩⟩ : P2) (⟨⟨q_xa, q_xb, q_xk⟩, ⟨q_ya, q_yb, q_yk⟩⟩ : P2)))
  | _ => none
theorem e56 (p_xa : Int) (p_xb : Int) (p_xk : Int) (p_ya : Int) (p_yb : Int) (p_yk : Int) (q_xa : Int) (q_xb : Int) (q_xk : Int) (q_ya : Int) (q_yb : Int) (q_yk : Int) (hp : (valP (⟨⟨p_xa, p_xb, p_xk⟩, ⟨p_ya, p_yb, p_yk⟩⟩ : P2) && valP (⟨⟨q_xa, q_xb, q_xk⟩, ⟨q_ya, q_yb, q_yk⟩⟩ : P2)) = true) : evN Tryz.prog GLv Γ60 (0) []  Tryz.f56 [.agg [.val (.int .i64 p_xa), .val (.int .i64 p_xb), .val (.int .i64 p_xk), .val (.int .i64 p_ya), .val (.int .i64 p_yb), .val (.int .i64 p_yk)], .agg [.val (.int .i64 q_xa), .val (.int .i64 q_xb), .val (.int .i64 q_xk), .val (.int .i64 q_ya), .val (.int .i64 q_yb), .val (.int .i64 q_yk)]] = some (iv (cpP (⟨⟨p_xa, p_xb, p_xk⟩, ⟨p_ya, p_yb, p_yk⟩⟩ : P2) (⟨⟨q_xa, q_xb, q_xk⟩, ⟨q_ya, q_yb, q_yk⟩⟩ : P2))) := by
  simp only [Bool.and_eq_true, valP] at hp
  obtain ⟨⟨h1, h2⟩, h3, h4⟩ := hp
  refine (show _ = cond (validB (⟨p_xa, p_xb, p_xk⟩ : N3) && validB (⟨q_xa, q_xb, q_xk⟩ : N3)) (cond (sgF (subF (⟨p_xa, p_xb, p_xk⟩ : N3) (⟨q_xa, q_xb, q_xk⟩ : N3)) != 0) (some (iv (sgF (subF (⟨p_xa, p_xb, p_xk⟩ : N3) (⟨q_xa, q_xb, q_xk⟩ : N3))))) (cond (validB (⟨p_ya, p_yb, p_yk⟩ : N3) && validB (⟨q_ya, q_yb, q_yk⟩ : N3)) (some (iv (sgF (subF (⟨p_ya, p_yb, p_yk⟩ : N3) (⟨q_ya, q_yb, q_yk⟩ : N3))))) (none))) (none) from by kernel_rfl).trans ?_
  rw [h1, h3, h2, h4]
  unfold cpP
  cases (sgF (subF (⟨p_xa, p_xb, p_xk⟩ : N3) (⟨q_xa, q_xb, q_xk⟩ : N3)) != 0) <;> rfl
theorem m56 : Meets Tryz.prog GLv 56 s56 := by
  refine meetsN mix0 glv G60 Tryz.func56 (by kernel_rfl) (by kernel_rfl) s56 fun args x h => ?_
  unfold s56 at h
  split at h
  . rename_i p_xa p_xb p_xk p_ya p_yb p_yk q_xa q_xb q_xk q_ya q_yb q_yk
    simp only [Option.some.injEq, Prod.mk.injEq] at h
    obtain ⟨hp, rfl⟩ := h
    exact ⟨_, _, by kernel_rfl, e56 p_xa p_xb p_xk p_ya p_yb p_yk q_xa q_xb q_xk q_ya q_yb q_yk hp⟩
  . cases h
abbrev Γ61 : List (Nat × Ctr) := (56, s56) :: Γ60
theorem G61 : Sound Tryz.prog GLv Γ61 := G60.cons m56
-- impl.areValid$1
def s82 : Ctr := fun
  | [.agg [.val (.int .i64 p_xa), .val (.int .i64 p_xb), .val (.int .i64 p_xk), .val (.int .i64 p_ya), .val (.int .i64 p_yb), .val (.int .i64 p_yk)]] => some (true, bv (!(valP (⟨⟨p_xa, p_xb, p_xk⟩, ⟨p_ya, p_yb, p_yk⟩⟩ : P2))))
  | _ => none
theorem e82 (p_xa : Int) (p_xb : Int) (p_xk : Int) (p_ya : Int) (p_yb : Int) (p_yk : Int) : evN Tryz.prog GLv Γ61 (0) []  Tryz.f82 [.agg [.val (.int .i64 p_xa), .val (.int .i64 p_xb), .val (.int .i64 p_xk), .val (.int .i64 p_ya), .val (.int .i64 p_yb), .val (.int .i64 p_yk)]] = some (bv (!(valP (⟨⟨p_xa, p_xb, p_xk⟩, ⟨p_ya, p_yb, p_yk⟩⟩ : P2)))) := by
  kernel_rfl
theorem m82 : Meets Tryz.prog GLv 82 s82 := by
  refine meetsN mix0 glv G61 Tryz.func82 (by kernel_rfl) (by kernel_rfl) s82 fun args x h => ?_
  unfold s82 at h
  split at h
  . rename_i p_xa p_xb p_xk p_ya p_yb p_yk
    simp only [Option.some.injEq, Prod.mk.injEq] at h
    obtain ⟨hp, rfl⟩ := h
    exact ⟨_, _, by kernel_rfl, e82 p_xa p_xb p_xk p_ya p_yb p_yk⟩
  . cases h
abbrev Γ62 : List (Nat × Ctr) := (82, s82) :: Γ61
theorem G62 : Sound Tryz.prog GLv Γ62 := G61.cons m82
-- slices.IndexFunc[[]impl.Point,impl.Point]
def s105 : Ctr := fun
  | [.arr a_n [.int .i64, .int .i64, .int .i64, .int .i64, .int .i64, .int .i64] a_c, .val (.func (.func 82) ⟨[]⟩ ⟨[]⟩)] => some (Nat.ble a_n 1048576, iv (idxF (fun j => !(valP (pAt a_c j))) 0 a_n))
  | _ => none
theorem r105_step (K n a_n : Nat) (a_c : NNI) (i : Nat) : runW Tryz.prog GLv Γ62 K (cfgK kx31) [.arr a_n [.int .i64, .int .i64, .int .i64, .int .i64, .int .i64, .int .i64] a_c, .val (.func (.func 82) ⟨[]⟩ ⟨[]⟩)] Tryz.f105 0 (n + 1) (stL Tryz.f105.ntmps [.arr a_n [.int .i64, .int .i64, .int .i64, .int .i64, .int .i64, .int .i64] a_c, .val (.func (.func 82) ⟨[]⟩ ⟨[]⟩), .non, .non, .non, .non, .non, iv (a_n : Int), iv ((i : Int))]) = cond (decide ((i : Int) < (a_n : Int))) (cond ((decide (0 <= (i : Int)) && decide ((i : Int) < (a_n : Int)))) (cond (!(valP (pAt a_c i))) (some (iv (i : Int))) (runW Tryz.prog GLv Γ62 K (cfgK kx31) [.arr a_n [.int .i64, .int .i64, .int .i64, .int .i64, .int .i64, .int .i64] a_c, .val (.func (.func 82) ⟨[]⟩ ⟨[]⟩)] Tryz.f105 0 n (stL Tryz.f105.ntmps [.arr a_n [.int .i64, .int .i64, .int .i64, .int .i64, .int .i64, .int .i64] a_c, .val (.func (.func 82) ⟨[]⟩ ⟨[]⟩), .non, .non, .non, .non, .non, iv (a_n : Int), iv (wr ((i : Int) + 1))]))) (none)) (some (iv (-1))) := by kernel_rfl
theorem r105_run (K a_n : Nat) (a_c : NNI) (hn : a_n <= 1048576) : ∀ (m i n : Nat), i + m = a_n -> m < n -> runW Tryz.prog GLv Γ62 K (cfgK kx31) [.arr a_n [.int .i64, .int .i64, .int .i64, .int .i64, .int .i64, .int .i64] a_c, .val (.func (.func 82) ⟨[]⟩ ⟨[]⟩)] Tryz.f105 0 n (stL Tryz.f105.ntmps [.arr a_n [.int .i64, .int .i64, .int .i64, .int .i64, .int .i64, .int .i64] a_c, .val (.func (.func 82) ⟨[]⟩ ⟨[]⟩), .non, .non, .non, .non, .non, iv (a_n : Int), iv ((i : Int))]) = some (iv (idxF (fun j => !(valP (pAt a_c j))) i m)) := by
  intro m
  induction m with
  | zero =>
    intro i n h1 h2
    obtain ⟨n, rfl⟩ : ∃ n', n = n' + 1 := ⟨n - 1, by omega⟩
    rw [r105_step, nat_lt i a_n, show decide (i < a_n) = false by simp; omega]
    rfl
  | succ m ih =>
    intro i n h1 h2
    obtain ⟨n, rfl⟩ : ∃ n', n = n' + 1 := ⟨n - 1, by omega⟩
    rw [r105_step, nat_nn, nat_lt i a_n, show decide (i < a_n) = true by simp; omega]
    simp only [Bool.and_self, cond_true]
    rw [wr_succ (by omega), ih (i + 1) n (by omega) (by omega)]
    simp only [idxF]
    cases (!(valP (pAt a_c i))) <;> rfl
theorem e105 (a_n : Nat) (a_c : NNI) (hp : (Nat.ble a_n 1048576) = true) : evN Tryz.prog GLv Γ62 (a_n + 2) kx31  Tryz.f105 [.arr a_n [.int .i64, .int .i64, .int .i64, .int .i64, .int .i64, .int .i64] a_c, .val (.func (.func 82) ⟨[]⟩ ⟨[]⟩)] = some (iv (idxF (fun j => !(valP (pAt a_c j))) 0 a_n)) := by
  have hn := Nat.le_of_ble_eq_true hp
  refine (show _ = runW Tryz.prog GLv Γ62 (a_n + 2) (cfgK kx31) [.arr a_n [.int .i64, .int .i64, .int .i64, .int .i64, .int .i64, .int .i64] a_c, .val (.func (.func 82) ⟨[]⟩ ⟨[]⟩)] Tryz.f105 0 (a_n + 2) (stL Tryz.f105.ntmps [.arr a_n [.int .i64, .int .i64, .int .i64, .int .i64, .int .i64, .int .i64] a_c, .val (.func (.func 82) ⟨[]⟩ ⟨[]⟩), .non, .non, .non, .non, .non, iv (a_n : Int), iv (((0 : Nat) : Int))]) from by kernel_rfl).trans ?_
  exact r105_run _ a_n a_c hn a_n 0 _ (by omega) (by omega)
theorem m105 : Meets Tryz.prog GLv 105 s105 := by
  refine meetsN mix0 glv G62 Tryz.func105 (by kernel_rfl) (by kernel_rfl) s105 fun args x h => ?_
  unfold s105 at h
  split at h
  . rename_i a_n a_c
    simp only [Option.some.injEq, Prod.mk.injEq] at h
    obtain ⟨hp, rfl⟩ := h
    exact ⟨_, _, by kernel_rfl, e105 a_n a_c hp⟩
  . cases h
abbrev Γ63 : List (Nat × Ctr) := (105, s105) :: Γ62
theorem G63 : Sound Tryz.prog GLv Γ63 := G62.cons m105
-- slices.ContainsFunc[[]impl.Point,impl.Point]
def s81 : Ctr := fun
  | [.arr a_n [.int .i64, .int .i64, .int .i64, .int .i64, .int .i64, .int .i64] a_c, .val (.func (.func 82) ⟨[]⟩ ⟨[]⟩)] => some (Nat.ble a_n 1048576, bv (!(allF (fun j => !(!(valP (pAt a_c j)))) 0 a_n)))
  | _ => none
theorem e81 (a_n : Nat) (a_c : NNI) (hp : (Nat.ble a_n 1048576) = true) : evN Tryz.prog GLv Γ63 (0) []  Tryz.f81 [.arr a_n [.int .i64, .int .i64, .int .i64, .int .i64, .int .i64, .int .i64] a_c, .val (.func (.func 82) ⟨[]⟩ ⟨[]⟩)] = some (bv (!(allF (fun j => !(!(valP (pAt a_c j)))) 0 a_n))) := by
  refine (show _ = cond (Nat.ble a_n 1048576) (some (bv (decide (idxF (fun j => !(valP (pAt a_c j))) 0 a_n >= 0)))) none from by kernel_rfl).trans ?_
  rw [hp, idxF_ge]
  rfl
theorem m81 : Meets Tryz.prog GLv 81 s81 := by
  refine meetsN mix0 glv G63 Tryz.func81 (by kernel_rfl) (by kernel_rfl) s81 fun args x h => ?_
  unfold s81 at h
  split at h
  . rename_i a_n a_c
    simp only [Option.some.injEq, Prod.mk.injEq] at h
    obtain ⟨hp, rfl⟩ := h
    exact ⟨_, _, by kernel_rfl, e81 a_n a_c hp⟩
  . cases h
abbrev Γ64 : List (Nat × Ctr) := (81, s81) :: Γ63
theorem G64 : Sound Tryz.prog GLv Γ64 := G63.cons m81
-- impl.areValid
def s47 : Ctr := fun
  | [.arr a_n K6x a_c] => some (Nat.ble a_n 1048576, bv (allP a_n a_c))
  | _ => none
theorem e47 (a_n : Nat) (a_c : NNI) (hp : (Nat.ble a_n 1048576) = true) : evN Tryz.prog GLv Γ64 (0) []  Tryz.f47 [.arr a_n K6x a_c] = some (bv (allP a_n a_c)) := by
  refine (show _ = cond (Nat.ble a_n 1048576) (some (bv (!(!(allF (fun j => !(!(valP (pAt a_c j)))) 0 a_n))))) none from by kernel_rfl).trans ?_
  rw [hp]
  simp only [Bool.not_not, cond_true]
  rfl
theorem m47 : Meets Tryz.prog GLv 47 s47 := by
  refine meetsN mix0 glv G64 Tryz.func47 (by kernel_rfl) (by kernel_rfl) s47 fun args x h => ?_
  unfold s47 at h
  split at h
  . rename_i a_n a_c
    simp only [Option.some.injEq, Prod.mk.injEq] at h
    obtain ⟨hp, rfl⟩ := h
    exact ⟨_, _, by kernel_rfl, e47 a_n a_c hp⟩
  . cases h
abbrev Γ65 : List (Nat × Ctr) := (47, s47) :: Γ64
theorem G65 : Sound Tryz.prog GLv Γ65 := G64.cons m47
-- impl.length[impl.Point]
def s46 : Ctr := fun
  | [.arr a_n K6x a_c] => some (true, iv (a_n : Int))
  | _ => none
theorem e46 (a_n : Nat) (a_c : NNI) : evN Tryz.prog GLv Γ65 (0) []  Tryz.f46 [.arr a_n K6x a_c] = some (iv (a_n : Int)) := by
  kernel_rfl
theorem m46 : Meets Tryz.prog GLv 46 s46 := by
  refine meetsN mix0 glv G65 Tryz.func46 (by kernel_rfl) (by kernel_rfl) s46 fun args x h => ?_
  unfold s46 at h
  split at h
  . rename_i a_n a_c
    simp only [Option.some.injEq, Prod.mk.injEq] at h
    obtain ⟨hp, rfl⟩ := h
    exact ⟨_, _, by kernel_rfl, e46 a_n a_c⟩
  . cases h
abbrev Γ66 : List (Nat × Ctr) := (46, s46) :: Γ65
theorem G66 : Sound Tryz.prog GLv Γ66 := G65.cons m46
-- impl.leastCorner
def s49 : Ctr := fun
  | [.arr a_n K6x a_c] => some (inB a_n 1 1048576 && allP a_n a_c, iv (lcF a_c 0 a_n 0 : Nat))
  | _ => none
theorem r49_step (K n a_n : Nat) (a_c : NNI) (i l : Nat) : runW Tryz.prog GLv Γ66 K (cfgK kx25) [.arr a_n K6x a_c] Tryz.f49 0 (n + 1) (stL Tryz.f49.ntmps [.arr a_n K6x a_c, .non, .non, iv ((l : Int)), .non, .non, .arr a_n K6x a_c, iv (a_n : Int), iv ((i : Int))]) = cond (decide ((i : Int) < (a_n : Int))) (cond ((decide (0 <= (i : Int)) && decide ((i : Int) < (a_n : Int)))) (cond ((decide (0 <= (l : Int)) && decide ((l : Int) < (a_n : Int)))) (cond (valP (pAt a_c i) && valP (pAt a_c l)) (cond (decide (cpP (pAt a_c i) (pAt a_c l) < 0)) (runW Tryz.prog GLv Γ66 K (cfgK kx25) [.arr a_n K6x a_c] Tryz.f49 0 n (stL Tryz.f49.ntmps [.arr a_n K6x a_c, .non, .non, iv ((i : Int)), .non, .non, .arr a_n K6x a_c, iv (a_n : Int), iv (wr ((i : Int) + 1))])) (runW Tryz.prog GLv Γ66 K (cfgK kx25) [.arr a_n K6x a_c] Tryz.f49 0 n (stL Tryz.f49.ntmps [.arr a_n K6x a_c, .non, .non, iv ((l : Int)), .non, .non, .arr a_n K6x a_c, iv (a_n : Int), iv (wr ((i : Int) + 1))]))) (none)) (none)) (none)) (some (iv (l : Int))) := by kernel_rfl
theorem r49_run (K a_n : Nat) (a_c : NNI) (hn : a_n <= 1048576) (hv : ∀ i, i < a_n -> valP (pAt a_c i) = true) : ∀ (m i l n : Nat), i + m = a_n -> l < a_n -> m < n -> runW Tryz.prog GLv Γ66 K (cfgK kx25) [.arr a_n K6x a_c] Tryz.f49 0 n (stL Tryz.f49.ntmps [.arr a_n K6x a_c, .non, .non, iv ((l : Int)), .non, .non, .arr a_n K6x a_c, iv (a_n : Int), iv ((i : Int))]) = some (iv (lcF a_c i m l : Nat)) := by
  intro m
  induction m with
  | zero =>
    intro i l n h1 h2 h3
    obtain ⟨n, rfl⟩ : ∃ n', n = n' + 1 := ⟨n - 1, by omega⟩
    rw [r49_step, nat_lt i a_n, show decide (i < a_n) = false by simp; omega]
    rfl
  | succ m ih =>
    intro i l n h1 h2 h3
    obtain ⟨n, rfl⟩ : ∃ n', n = n' + 1 := ⟨n - 1, by omega⟩
    rw [r49_step, nat_nn, nat_nn, nat_lt i a_n, nat_lt l a_n, show decide (i < a_n) = true by simp; omega, show decide (l < a_n) = true by simp; omega, hv i (by omega), hv l h2]
    simp only [Bool.and_self, cond_true]
    rw [wr_succ (by omega), ih (i + 1) i n (by omega) (by omega) (by omega), ih (i + 1) l n (by omega) h2 (by omega)]
    simp only [lcF]
    cases (decide (cpP (pAt a_c i) (pAt a_c l) < 0)) <;> rfl
theorem e49 (a_n : Nat) (a_c : NNI) (hp : (inB a_n 1 1048576 && allP a_n a_c) = true) : evN Tryz.prog GLv Γ66 (a_n + 2) kx25  Tryz.f49 [.arr a_n K6x a_c] = some (iv (lcF a_c 0 a_n 0 : Nat)) := by
  simp only [Bool.and_eq_true, inB_iff] at hp
  obtain ⟨hn, hv⟩ := hp
  refine (show _ = runW Tryz.prog GLv Γ66 (a_n + 2) (cfgK kx25) [.arr a_n K6x a_c] Tryz.f49 0 (a_n + 2) (stL Tryz.f49.ntmps [.arr a_n K6x a_c, .non, .non, iv (((0 : Nat) : Int)), .non, .non, .arr a_n K6x a_c, iv (a_n : Int), iv (((0 : Nat) : Int))]) from by kernel_rfl).trans ?_
  exact r49_run _ a_n a_c (by omega) (allP_iff.1 hv) a_n 0 0 _ (by omega) (by omega) (by omega)
theorem m49 : Meets Tryz.prog GLv 49 s49 := by
  refine meetsN mix0 glv G66 Tryz.func49 (by kernel_rfl) (by kernel_rfl) s49 fun args x h => ?_
  unfold s49 at h
  split at h
  . rename_i a_n a_c
    simp only [Option.some.injEq, Prod.mk.injEq] at h
    obtain ⟨hp, rfl⟩ := h
    exact ⟨_, _, by kernel_rfl, e49 a_n a_c hp⟩
  . cases h
abbrev Γ67 : List (Nat × Ctr) := (49, s49) :: Γ66
theorem G67 : Sound Tryz.prog GLv Γ67 := G66.cons m49
-- impl.isConvex
def s48 : Ctr := fun
  | [.arr a_n K6x a_c] => some (inB a_n 3 1048576 && allP a_n a_c, bv (cvI a_n a_c))
  | _ => none
theorem r48_step (K n a_n : Nat) (a_c : NNI) (i : Nat) (b s : Int) : runW Tryz.prog GLv Γ67 K (cfgK kx32) [.arr a_n K6x a_c] Tryz.f48 0 (n + 1) (stL Tryz.f48.ntmps [.arr a_n K6x a_c, .non, .non, iv (a_n : Int), iv (s), iv (b), .non, .non, .non, .non, .non, .non, .non, .non, .non, .non, .non, .non, .non, .non, .non, .non, .non, .arr a_n K6x a_c, iv (a_n : Int), iv ((i : Int))]) = cond (decide ((i : Int) < (a_n : Int))) (cond ((decide (0 <= (i : Int)) && decide ((i : Int) < (a_n : Int)))) (cond (!((a_n : Int) == 0)) (cond ((decide (0 <= (((wr ((i : Int) + 1)).tmod (a_n : Int)) : Int)) && decide ((((wr ((i : Int) + 1)).tmod (a_n : Int)) : Int) < (a_n : Int)))) (cond (valP (pAt a_c i) && valP (pAt a_c ((wr ((i : Int) + 1)).tmod (a_n : Int)).toNat)) (cond (decide ((dirV (pAt a_c i) (pAt a_c ((wr ((i : Int) + 1)).tmod (a_n : Int)).toNat)) < 0)) (some (bv false)) (cond (decide (b < 0)) (some (bv false)) (cond (!(inB (wr ((dirV (pAt a_c i) (pAt a_c ((wr ((i : Int) + 1)).tmod (a_n : Int)).toNat)) - b) % 16) 1 7)) (some (bv false)) (runW Tryz.prog GLv Γ67 K (cfgK kx32) [.arr a_n K6x a_c] Tryz.f48 0 n (stL Tryz.f48.ntmps [.arr a_n K6x a_c, .non, .non, iv (a_n : Int), iv (wr (s + wr ((dirV (pAt a_c i) (pAt a_c ((wr ((i : Int) + 1)).tmod (a_n : Int)).toNat)) - b) % 16)), iv ((dirV (pAt a_c i) (pAt a_c ((wr ((i : Int) + 1)).tmod (a_n : Int)).toNat))), .non, .non, .non, .non, .non, .non, .non, .non, .non, .non, .non, .non, .non, .non, .non, .non, .non, .arr a_n K6x a_c, iv (a_n : Int), iv (wr ((i : Int) + 1))]))))) (none)) (none)) (none)) (none)) (some (bv (s == 16))) := by kernel_rfl
theorem r48_run (K a_n : Nat) (a_c : NNI) (h0 : 0 < a_n) (hn : a_n <= 1048576) (hv : ∀ i, i < a_n -> valP (pAt a_c i) = true) : ∀ (m i n : Nat) (b s : Int), i + m = a_n -> m < n -> runW Tryz.prog GLv Γ67 K (cfgK kx32) [.arr a_n K6x a_c] Tryz.f48 0 n (stL Tryz.f48.ntmps [.arr a_n K6x a_c, .non, .non, iv (a_n : Int), iv (s), iv (b), .non, .non, .non, .non, .non, .non, .non, .non, .non, .non, .non, .non, .non, .non, .non, .non, .non, .arr a_n K6x a_c, iv (a_n : Int), iv ((i : Int))]) = some (bv (cvF a_n a_c i m b s)) := by
  intro m
  induction m with
  | zero =>
    intro i n b s h1 h3
    obtain ⟨n, rfl⟩ : ∃ n', n = n' + 1 := ⟨n - 1, by omega⟩
    rw [r48_step, nat_lt i a_n, show decide (i < a_n) = false by simp; omega]
    rfl
  | succ m ih =>
    intro i n b s h1 h3
    obtain ⟨n, rfl⟩ : ∃ n', n = n' + 1 := ⟨n - 1, by omega⟩
    have hm : (i + 1) % a_n < a_n := Nat.mod_lt _ h0
    rw [r48_step, wr_succ (by omega), tmod_cast, nat_nn, nat_nn, nat_lt i a_n, nat_lt _ a_n, show decide (i < a_n) = true by simp; omega, show decide ((i + 1) % a_n < a_n) = true by simpa using hm, show (!((a_n : Int) == 0)) = true by simp; omega]
    simp only [Bool.and_self, cond_true, Int.toNat_natCast]
    rw [hv i (by omega), hv _ hm]
    simp only [Bool.and_self, cond_true]
    rw [ih (i + 1) n _ _ (by omega) (by omega)]
    show cond (decide (dirA a_n a_c i < 0)) (some (bv false)) (cond (decide (b < 0)) (some (bv false)) (cond (!(inB (wr (dirA a_n a_c i - b) % 16) 1 7)) (some (bv false)) (some (bv (cvF a_n a_c (i + 1) m (dirA a_n a_c i) (wr (s + wr (dirA a_n a_c i - b) % 16))))))) = some (bv (cvF a_n a_c i (m + 1) b s))
    simp only [cvF]
    cases decide (dirA a_n a_c i < 0) <;> cases decide (b < 0) <;> cases inB (wr (dirA a_n a_c i - b) % 16) 1 7 <;> rfl
theorem e48 (a_n : Nat) (a_c : NNI) (hp : (inB a_n 3 1048576 && allP a_n a_c) = true) : evN Tryz.prog GLv Γ67 (a_n + 2) kx32  Tryz.f48 [.arr a_n K6x a_c] = some (bv (cvI a_n a_c)) := by
  simp only [Bool.and_eq_true, inB_iff] at hp
  obtain ⟨hn, hv⟩ := hp
  have hv := allP_iff.1 hv
  refine (show _ = cond (decide ((a_n : Int) < 3)) (some (bv false)) (cond ((decide (0 <= ((wr ((a_n : Int) - 1)) : Int)) && decide (((wr ((a_n : Int) - 1)) : Int) < (a_n : Int)))) (cond ((decide (0 <= (((0 : Nat) : Int) : Int)) && decide ((((0 : Nat) : Int) : Int) < (a_n : Int)))) (cond (valP (pAt a_c (wr ((a_n : Int) - 1)).toNat) && valP (pAt a_c 0)) (runW Tryz.prog GLv Γ67 (a_n + 2) (cfgK kx32) [.arr a_n K6x a_c] Tryz.f48 0 (a_n + 2) (stL Tryz.f48.ntmps [.arr a_n K6x a_c, .non, .non, iv (a_n : Int), iv (0), iv (dirV (pAt a_c (wr ((a_n : Int) - 1)).toNat) (pAt a_c 0)), .non, .non, .non, .non, .non, .non, .non, .non, .non, .non, .non, .non, .non, .non, .non, .non, .non, .arr a_n K6x a_c, iv (a_n : Int), iv (((0 : Nat) : Int))])) (none)) (none)) (none)) from by kernel_rfl).trans ?_
  rw [show decide ((a_n : Int) < 3) = false by simp; omega, show (wr ((a_n : Int) - 1)) = ((a_n - 1 : Nat) : Int) by rw [wr_in (by omega) (by omega)]; omega]
  simp only [cond_false, nat_nn, nat_lt, Int.toNat_natCast]
  rw [show decide (a_n - 1 < a_n) = true by simp; omega, show decide (0 < a_n) = true by simp; omega, hv (a_n - 1) (by omega), hv 0 (by omega)]
  simp only [Bool.and_self, cond_true]
  exact r48_run _ a_n a_c (by omega) (by omega) hv a_n 0 _ _ _ (by omega) (by omega)
theorem m48 : Meets Tryz.prog GLv 48 s48 := by
  refine meetsN mix0 glv G67 Tryz.func48 (by kernel_rfl) (by kernel_rfl) s48 fun args x h => ?_
  unfold s48 at h
  split at h
  . rename_i a_n a_c
    simp only [Option.some.injEq, Prod.mk.injEq] at h
    obtain ⟨hp, rfl⟩ := h
    exact ⟨_, _, by kernel_rfl, e48 a_n a_c hp⟩
  . cases h
abbrev Γ68 : List (Nat × Ctr) := (48, s48) :: Γ67
theorem G68 : Sound Tryz.prog GLv Γ68 := G67.cons m48
-- impl.ValidPolygon
def s21 : Ctr := fun
  | [.arr a_n K6x a_c] => some (Nat.ble a_n 1048576, bv (vpI a_n a_c))
  | _ => none
theorem e21 (a_n : Nat) (a_c : NNI) (hp : (Nat.ble a_n 1048576) = true) : evN Tryz.prog GLv Γ68 (0) []  Tryz.f21 [.arr a_n K6x a_c] = some (bv (vpI a_n a_c)) := by
  refine (show _ = cond (inB (a_n : Int) 3 16) (cond (Nat.ble a_n 1048576) (cond (allP a_n a_c) (cond (inB a_n 3 1048576 && allP a_n a_c) (cond (cvI a_n a_c) (cond (inB a_n 1 1048576 && allP a_n a_c) (some (bv (((lcF a_c 0 a_n 0 : Nat) : Int) == 0))) (none)) (some (bv false))) (none)) (some (bv false))) (none)) (some (bv false)) from by kernel_rfl).trans ?_
  unfold vpI
  by_cases h1 : inB (a_n : Int) 3 16 = true
  . have h1' := inB_iff.1 h1
    rw [hp, h1, show inB (a_n : Int) 3 1048576 = true from inB_iff.2 (by omega), show inB (a_n : Int) 1 1048576 = true from inB_iff.2 (by omega)]
    cases allP a_n a_c with
    | false => rfl
    | true => cases cvI a_n a_c <;> rfl
  . rw [show inB (a_n : Int) 3 16 = false by simpa using h1]
    rfl
theorem m21 : Meets Tryz.prog GLv 21 s21 := by
  refine meetsN mix0 glv G68 Tryz.func21 (by kernel_rfl) (by kernel_rfl) s21 fun args x h => ?_
  unfold s21 at h
  split at h
  . rename_i a_n a_c
    simp only [Option.some.injEq, Prod.mk.injEq] at h
    obtain ⟨hp, rfl⟩ := h
    exact ⟨_, _, by kernel_rfl, e21 a_n a_c hp⟩
  . cases h
abbrev Γ69 : List (Nat × Ctr) := (21, s21) :: Γ68
theorem G69 : Sound Tryz.prog GLv Γ69 := G68.cons m21
end Go.Proofs.YtdildcdilhgdkaaGreatDoor
