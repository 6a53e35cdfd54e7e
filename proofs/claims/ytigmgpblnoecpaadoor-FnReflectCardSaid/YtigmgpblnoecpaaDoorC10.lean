/- Contracts of the program's functions, by the evaluator. -/
import Derived.Test.YtigmgpblnoecpaaDoorC9
import Derived.Test.YtigmgpblnoecpaaDoorMlnC
namespace Go.Proofs.YtigmgpblnoecpaaDoor
open Go.Ev
set_option linter.unusedVariables false
set_option linter.unusedSimpArgs false
set_option maxRecDepth 100000

-- impl.isDirection
noncomputable def s72 : Ctr := fun
  | [.val (.int .i64 d)] => some (true, bv (inB d 0 15))
  | _ => none

theorem e72 (d : Int) : evN Tryd.prog GLv Γ108 (0) []  Tryd.f72 [.val (.int .i64 d)] = some (bv (inB d 0 15)) := by
  kernel_rfl
theorem m72 : Meets Tryd.prog GLv 72 s72 := by
  refine meetsN mix0 glv G108 Tryd.func72 (by kernel_rfl) (by kernel_rfl) s72 fun args x h => ?_
  unfold s72 at h
  split at h
  · rename_i d
    simp only [Option.some.injEq, Prod.mk.injEq] at h
    obtain ⟨hp, rfl⟩ := h
    exact ⟨_, _, by kernel_rfl, e72 d⟩
  · cases h
noncomputable abbrev Γ109 : List (Nat × Ctr) := (72, s72) :: Γ108
theorem G109 : Sound Tryd.prog GLv Γ109 := G108.cons m72

-- impl.turned
noncomputable def s115 : Ctr := fun
  | [.val (.int .i64 d)] => some (true, iv (d % 16))
  | _ => none

theorem e115 (d : Int) : evN Tryd.prog GLv Γ109 (0) []  Tryd.f115 [.val (.int .i64 d)] = some (iv (d % 16)) := by
  exact (show _ = some (iv (and64 d 15)) from by kernel_rfl).trans (by rw [and64_15])
theorem m115 : Meets Tryd.prog GLv 115 s115 := by
  refine meetsN mix0 glv G109 Tryd.func115 (by kernel_rfl) (by kernel_rfl) s115 fun args x h => ?_
  unfold s115 at h
  split at h
  · rename_i d
    simp only [Option.some.injEq, Prod.mk.injEq] at h
    obtain ⟨hp, rfl⟩ := h
    exact ⟨_, _, by kernel_rfl, e115 d⟩
  · cases h
noncomputable abbrev Γ110 : List (Nat × Ctr) := (115, s115) :: Γ109
theorem G110 : Sound Tryd.prog GLv Γ110 := G109.cons m115

-- spec.l02Mod
noncomputable def s118b : Ctr := fun
  | [.val (.int .i64 d)] => some (inB d (-100) 100, iv (d % 16))
  | _ => none

theorem e118b (d : Int) (hp : (inB d (-100) 100) = true) : evN Tryd.prog GLv Γ110 (0) []  Tryd.f118 [.val (.int .i64 d)] = some (iv (d % 16)) := by
  exact (show _ = some (iv ((wr (d.tmod 16 + 16)).tmod 16)) from by kernel_rfl).trans (by rw [mod_ok hp])
theorem m118b : Meets Tryd.prog GLv 118 s118b := by
  refine meetsN mix0 glv G110 Tryd.func118 (by kernel_rfl) (by kernel_rfl) s118b fun args x h => ?_
  unfold s118b at h
  split at h
  · rename_i d
    simp only [Option.some.injEq, Prod.mk.injEq] at h
    obtain ⟨hp, rfl⟩ := h
    exact ⟨_, _, by kernel_rfl, e118b d hp⟩
  · cases h
noncomputable abbrev Γ111 : List (Nat × Ctr) := (118, s118b) :: Γ110
theorem G111 : Sound Tryd.prog GLv Γ111 := G110.cons m118b

-- spec.l02Vec
noncomputable def s78b : Ctr := fun
  | [.val (.int .i64 d)] => some (inB d 0 19, (vecP (d % 16)).av)
  | _ => none

theorem e78b (d : Int) (hp : (inB d 0 19) = true) : evN Tryd.prog GLv Γ111 (0) []  Tryd.f78 [.val (.int .i64 d)] = some ((vecP (d % 16)).av) := by
  rw [inB_iff] at hp
  have hh : d = 0 ∨ d = 1 ∨ d = 2 ∨ d = 3 ∨ d = 4 ∨ d = 5 ∨ d = 6 ∨ d = 7 ∨ d = 8 ∨ d = 9 ∨ d = 10 ∨ d = 11 ∨ d = 12 ∨ d = 13 ∨ d = 14 ∨ d = 15 ∨ d = 16 ∨ d = 17 ∨ d = 18 ∨ d = 19 := by omega
  clear hp
  rcases hh with rfl | rfl | rfl | rfl | rfl | rfl | rfl | rfl | rfl | rfl | rfl | rfl | rfl | rfl | rfl | rfl | rfl | rfl | rfl | rfl
  all_goals (show _ = _; kernel_rfl)
theorem m78b : Meets Tryd.prog GLv 78 s78b := by
  refine meetsN mix0 glv G111 Tryd.func78 (by kernel_rfl) (by kernel_rfl) s78b fun args x h => ?_
  unfold s78b at h
  split at h
  · rename_i d
    simp only [Option.some.injEq, Prod.mk.injEq] at h
    obtain ⟨hp, rfl⟩ := h
    exact ⟨_, _, by kernel_rfl, e78b d hp⟩
  · cases h
noncomputable abbrev Γ112 : List (Nat × Ctr) := (78, s78b) :: Γ111
theorem G112 : Sound Tryd.prog GLv Γ112 := G111.cons m78b

-- spec.l02Dot
noncomputable def s99b : Ctr := fun
  | [.val (.int .i64 d), .agg [.val (.int .i64 p_xa), .val (.int .i64 p_xb), .val (.int .i64 p_xk), .val (.int .i64 p_ya), .val (.int .i64 p_yb), .val (.int .i64 p_yk)]] => some (inB d 0 19 && pkD (vecP (d % 16)) (⟨⟨p_xa, p_xb, p_xk⟩, ⟨p_ya, p_yb, p_yk⟩⟩ : P2), (dotF (vecP (d % 16)) (⟨⟨p_xa, p_xb, p_xk⟩, ⟨p_ya, p_yb, p_yk⟩⟩ : P2)).av)
  | _ => none

theorem e99b (d : Int) (p_xa : Int) (p_xb : Int) (p_xk : Int) (p_ya : Int) (p_yb : Int) (p_yk : Int) (hp : (inB d 0 19 && pkD (vecP (d % 16)) (⟨⟨p_xa, p_xb, p_xk⟩, ⟨p_ya, p_yb, p_yk⟩⟩ : P2)) = true) : evN Tryd.prog GLv Γ112 (0) []  Tryd.f99 [.val (.int .i64 d), .agg [.val (.int .i64 p_xa), .val (.int .i64 p_xb), .val (.int .i64 p_xk), .val (.int .i64 p_ya), .val (.int .i64 p_yb), .val (.int .i64 p_yk)]] = some ((dotF (vecP (d % 16)) (⟨⟨p_xa, p_xb, p_xk⟩, ⟨p_ya, p_yb, p_yk⟩⟩ : P2)).av) := by
  simp only [pkD, Bool.and_eq_true] at hp
  obtain ⟨h0, h1, h2, h3⟩ := hp
  refine (show _ = cond (inB d 0 19) (cond (pkm (vecP (d % 16)).x (⟨p_xa, p_xb, p_xk⟩ : N3)) (cond (pkm (vecP (d % 16)).y (⟨p_ya, p_yb, p_yk⟩ : N3)) (cond (pk (mulF (vecP (d % 16)).x (⟨p_xa, p_xb, p_xk⟩ : N3)) (mulF (vecP (d % 16)).y (⟨p_ya, p_yb, p_yk⟩ : N3))) (some (dotF (vecP (d % 16)) (⟨⟨p_xa, p_xb, p_xk⟩, ⟨p_ya, p_yb, p_yk⟩⟩ : P2)).av) none) none) none) none from by kernel_rfl).trans ?_
  rw [h0, h1, h2, h3]
  rfl
theorem m99b : Meets Tryd.prog GLv 99 s99b := by
  refine meetsN mix0 glv G112 Tryd.func99 (by kernel_rfl) (by kernel_rfl) s99b fun args x h => ?_
  unfold s99b at h
  split at h
  · rename_i d p_xa p_xb p_xk p_ya p_yb p_yk
    simp only [Option.some.injEq, Prod.mk.injEq] at h
    obtain ⟨hp, rfl⟩ := h
    exact ⟨_, _, by kernel_rfl, e99b d p_xa p_xb p_xk p_ya p_yb p_yk hp⟩
  · cases h
noncomputable abbrev Γ113 : List (Nat × Ctr) := (99, s99b) :: Γ112
theorem G113 : Sound Tryd.prog GLv Γ113 := G112.cons m99b

-- spec.l02Zero
noncomputable def s116 : Ctr := fun
  | [.agg [.val (.int .i64 x_a), .val (.int .i64 x_b), .val (.int .i64 x_k)]] => some (true, bv (zroN (⟨x_a, x_b, x_k⟩ : N3)))
  | _ => none

theorem e116 (x_a : Int) (x_b : Int) (x_k : Int) : evN Tryd.prog GLv Γ113 (0) []  Tryd.f116 [.agg [.val (.int .i64 x_a), .val (.int .i64 x_b), .val (.int .i64 x_k)]] = some (bv (zroN (⟨x_a, x_b, x_k⟩ : N3))) := by
  refine (show _ = cond (x_a == 0) (some (bv (x_b == 0))) (some (bv false)) from by kernel_rfl).trans ?_
  unfold zroN
  cases (x_a == 0) <;> rfl
theorem m116 : Meets Tryd.prog GLv 116 s116 := by
  refine meetsN mix0 glv G113 Tryd.func116 (by kernel_rfl) (by kernel_rfl) s116 fun args x h => ?_
  unfold s116 at h
  split at h
  · rename_i x_a x_b x_k
    simp only [Option.some.injEq, Prod.mk.injEq] at h
    obtain ⟨hp, rfl⟩ := h
    exact ⟨_, _, by kernel_rfl, e116 x_a x_b x_k⟩
  · cases h
noncomputable abbrev Γ114 : List (Nat × Ctr) := (116, s116) :: Γ113
theorem G114 : Sound Tryd.prog GLv Γ114 := G113.cons m116

-- spec.l02Direction
noncomputable def s74 : Ctr := fun
  | [.agg [.val (.int .i64 w_xa), .val (.int .i64 w_xb), .val (.int .i64 w_xk), .val (.int .i64 w_ya), .val (.int .i64 w_yb), .val (.int .i64 w_yk)]] => some (wayB (⟨⟨w_xa, w_xb, w_xk⟩, ⟨w_ya, w_yb, w_yk⟩⟩ : P2), iv (dirF 16 0 (⟨⟨w_xa, w_xb, w_xk⟩, ⟨w_ya, w_yb, w_yk⟩⟩ : P2)))
  | _ => none

theorem r74_step (K n : Nat) (d : Int) (w : P2) : runL Tryd.prog GLv Γ114 K [false, true, false, true] Tryd.f74 0 (n + 1) (stL Tryd.f74.ntmps [.non, .own 78 [iv w.x.a, iv w.x.b, iv w.x.k, iv w.y.a, iv w.y.b, iv w.y.k], .non, iv (d)]) = cond (decide (d < 16)) (cond (inB (wr (d + 4)) 0 19 && pkD (vecP (wr (d + 4) % 16)) w) (cond (zroN (dotF (vecP (wr (d + 4) % 16)) w))
    (cond (inB d 0 19 && pkD (vecP (d % 16)) w) (cond (sB (dotF (vecP (d % 16)) w).a && sB (dotF (vecP (d % 16)) w).b) (cond (decide (sgF (dotF (vecP (d % 16)) w) > 0)) (some (iv d)) (runL Tryd.prog GLv Γ114 K [false, true, false, true] Tryd.f74 0 n (stL Tryd.f74.ntmps [.non, .own 78 [iv w.x.a, iv w.x.b, iv w.x.k, iv w.y.a, iv w.y.b, iv w.y.k], .non, iv (wr (d + 1))]))) none) none) (runL Tryd.prog GLv Γ114 K [false, true, false, true] Tryd.f74 0 n (stL Tryd.f74.ntmps [.non, .own 78 [iv w.x.a, iv w.x.b, iv w.x.k, iv w.y.a, iv w.y.b, iv w.y.k], .non, iv (wr (d + 1))]))) none) (some (iv (-1))) := by kernel_rfl
theorem r74_run (K : Nat) (w : P2) (v : V4) (hw : Go.Ev.Way w v) : ∀ (n : Nat) (d : Int) (m : Nat), 0 ≤ d → d + n = 16 → n < m → runL Tryd.prog GLv Γ114 K [false, true, false, true] Tryd.f74 0 m (stL Tryd.f74.ntmps [.non, .own 78 [iv w.x.a, iv w.x.b, iv w.x.k, iv w.y.a, iv w.y.b, iv w.y.k], .non, iv (d)]) = some (iv (dirF n d w)) := by
  intro n
  induction n with
  | zero =>
    intro d m h0 h1 hm
    obtain ⟨m, rfl⟩ : ∃ m', m = m' + 1 := ⟨m - 1, by omega⟩
    rw [r74_step, show decide (d < 16) = false by simp; omega]
    rfl
  | succ n ih =>
    intro d m h0 h1 hm
    obtain ⟨m, rfl⟩ : ∃ m', m = m' + 1 := ⟨m - 1, by omega⟩
    have hd : inB d 0 15 = true := inB_iff.2 (by omega)
    have hd4 : inB ((d + 4) % 16) 0 15 = true := inB_iff.2 (by omega)
    obtain ⟨k1, k2, k3, _, _⟩ := way_ok hd hw
    obtain ⟨_, k4, _, _, _⟩ := way_ok hd4 hw
    rw [r74_step, show decide (d < 16) = true by simp; omega, wr_in (n := d + 4) (by omega) (by omega), show inB (d + 4) 0 19 = true from inB_iff.2 (by omega), show inB d 0 19 = true from inB_iff.2 (by omega), k4,
      mod_small hd, k2, k3, zro_perp hd hw, wr_in (n := d + 1) (by omega) (by omega), ih (d + 1) m (by omega) (by omega) (by omega)]
    rw [dirF_succ]
    cases eqN (crsF (vecP d) w) z3 <;> cases decide (sgF (dotF (vecP d) w) > 0) <;> rfl

theorem e74 (w_xa : Int) (w_xb : Int) (w_xk : Int) (w_ya : Int) (w_yb : Int) (w_yk : Int) (hp : (wayB (⟨⟨w_xa, w_xb, w_xk⟩, ⟨w_ya, w_yb, w_yk⟩⟩ : P2)) = true) : evN Tryd.prog GLv Γ114 (17) [false, true, false, true]  Tryd.f74 [.agg [.val (.int .i64 w_xa), .val (.int .i64 w_xb), .val (.int .i64 w_xk), .val (.int .i64 w_ya), .val (.int .i64 w_yb), .val (.int .i64 w_yk)]] = some (iv (dirF 16 0 (⟨⟨w_xa, w_xb, w_xk⟩, ⟨w_ya, w_yb, w_yk⟩⟩ : P2))) := by
  obtain ⟨v, hw⟩ := wayB_way hp
  refine (show _ = runL Tryd.prog GLv Γ114 17 [false, true, false, true] Tryd.f74 0 17 (stL Tryd.f74.ntmps [.non, .own 78 [iv (⟨⟨w_xa, w_xb, w_xk⟩, ⟨w_ya, w_yb, w_yk⟩⟩ : P2).x.a, iv (⟨⟨w_xa, w_xb, w_xk⟩, ⟨w_ya, w_yb, w_yk⟩⟩ : P2).x.b, iv (⟨⟨w_xa, w_xb, w_xk⟩, ⟨w_ya, w_yb, w_yk⟩⟩ : P2).x.k, iv (⟨⟨w_xa, w_xb, w_xk⟩, ⟨w_ya, w_yb, w_yk⟩⟩ : P2).y.a, iv (⟨⟨w_xa, w_xb, w_xk⟩, ⟨w_ya, w_yb, w_yk⟩⟩ : P2).y.b, iv (⟨⟨w_xa, w_xb, w_xk⟩, ⟨w_ya, w_yb, w_yk⟩⟩ : P2).y.k], .non, iv (0)]) from by kernel_rfl).trans ?_
  rw [r74_run 17 (⟨⟨w_xa, w_xb, w_xk⟩, ⟨w_ya, w_yb, w_yk⟩⟩ : P2) _ hw 16 0 17 (by decide) (by decide) (by decide)]
theorem m74 : Meets Tryd.prog GLv 74 s74 := by
  refine meetsN mix0 glv G114 Tryd.func74 (by kernel_rfl) (by kernel_rfl) s74 fun args x h => ?_
  unfold s74 at h
  split at h
  · rename_i w_xa w_xb w_xk w_ya w_yb w_yk
    simp only [Option.some.injEq, Prod.mk.injEq] at h
    obtain ⟨hp, rfl⟩ := h
    exact ⟨_, _, by kernel_rfl, e74 w_xa w_xb w_xk w_ya w_yb w_yk hp⟩
  · cases h
noncomputable abbrev Γ115 : List (Nat × Ctr) := (74, s74) :: Γ114
theorem G115 : Sound Tryd.prog GLv Γ115 := G114.cons m74

-- spec.DirectionOf
noncomputable def s33 : Ctr := fun
  | [.agg [.val (.int .i64 p_xa), .val (.int .i64 p_xb), .val (.int .i64 p_xk), .val (.int .i64 p_ya), .val (.int .i64 p_yb), .val (.int .i64 p_yk)], .agg [.val (.int .i64 q_xa), .val (.int .i64 q_xb), .val (.int .i64 q_xk), .val (.int .i64 q_ya), .val (.int .i64 q_yb), .val (.int .i64 q_yk)]] => some (true, iv (dofV (⟨⟨p_xa, p_xb, p_xk⟩, ⟨p_ya, p_yb, p_yk⟩⟩ : P2) (⟨⟨q_xa, q_xb, q_xk⟩, ⟨q_ya, q_yb, q_yk⟩⟩ : P2)))
  | _ => none

theorem e33 (p_xa : Int) (p_xb : Int) (p_xk : Int) (p_ya : Int) (p_yb : Int) (p_yk : Int) (q_xa : Int) (q_xb : Int) (q_xk : Int) (q_ya : Int) (q_yb : Int) (q_yk : Int) : evN Tryd.prog GLv Γ115 (0) []  Tryd.f33 [.agg [.val (.int .i64 p_xa), .val (.int .i64 p_xb), .val (.int .i64 p_xk), .val (.int .i64 p_ya), .val (.int .i64 p_yb), .val (.int .i64 p_yk)], .agg [.val (.int .i64 q_xa), .val (.int .i64 q_xb), .val (.int .i64 q_xk), .val (.int .i64 q_ya), .val (.int .i64 q_yb), .val (.int .i64 q_yk)]] = some (iv (dofV (⟨⟨p_xa, p_xb, p_xk⟩, ⟨p_ya, p_yb, p_yk⟩⟩ : P2) (⟨⟨q_xa, q_xb, q_xk⟩, ⟨q_ya, q_yb, q_yk⟩⟩ : P2))) := by
  refine (show _ = cond (!valP (⟨⟨p_xa, p_xb, p_xk⟩, ⟨p_ya, p_yb, p_yk⟩⟩ : P2)) (some (iv (-1))) (cond (!valP (⟨⟨q_xa, q_xb, q_xk⟩, ⟨q_ya, q_yb, q_yk⟩⟩ : P2)) (some (iv (-1))) (cond (pkP (⟨⟨q_xa, q_xb, q_xk⟩, ⟨q_ya, q_yb, q_yk⟩⟩ : P2) (⟨⟨p_xa, p_xb, p_xk⟩, ⟨p_ya, p_yb, p_yk⟩⟩ : P2)) (cond (wayB (subP (⟨⟨q_xa, q_xb, q_xk⟩, ⟨q_ya, q_yb, q_yk⟩⟩ : P2) (⟨⟨p_xa, p_xb, p_xk⟩, ⟨p_ya, p_yb, p_yk⟩⟩ : P2))) (some (iv (dirF 16 0 (subP (⟨⟨q_xa, q_xb, q_xk⟩, ⟨q_ya, q_yb, q_yk⟩⟩ : P2) (⟨⟨p_xa, p_xb, p_xk⟩, ⟨p_ya, p_yb, p_yk⟩⟩ : P2))))) none) none)) from by kernel_rfl).trans ?_
  unfold dofV
  cases h1 : valP (⟨⟨p_xa, p_xb, p_xk⟩, ⟨p_ya, p_yb, p_yk⟩⟩ : P2) with
  | false => rfl
  | true =>
    cases h2 : valP (⟨⟨q_xa, q_xb, q_xk⟩, ⟨q_ya, q_yb, q_yk⟩⟩ : P2) with
    | false => rfl
    | true =>
      obtain ⟨v, u, _, _, hw, hk⟩ := way_of h1 h2
      rw [hk, way_wayB hw]
      rfl
theorem m33 : Meets Tryd.prog GLv 33 s33 := by
  refine meetsN mix0 glv G115 Tryd.func33 (by kernel_rfl) (by kernel_rfl) s33 fun args x h => ?_
  unfold s33 at h
  split at h
  · rename_i p_xa p_xb p_xk p_ya p_yb p_yk q_xa q_xb q_xk q_ya q_yb q_yk
    simp only [Option.some.injEq, Prod.mk.injEq] at h
    obtain ⟨hp, rfl⟩ := h
    exact ⟨_, _, by kernel_rfl, e33 p_xa p_xb p_xk p_ya p_yb p_yk q_xa q_xb q_xk q_ya q_yb q_yk⟩
  · cases h
noncomputable abbrev Γ116 : List (Nat × Ctr) := (33, s33) :: Γ115
theorem G116 : Sound Tryd.prog GLv Γ116 := G115.cons m33

-- (impl.Line).foot
noncomputable def s55 : Ctr := fun
  | [.agg [.val (.int .i64 l_d), .val (.int .i64 l_a), .val (.int .i64 l_b), .val (.int .i64 l_k)]] => some (inB l_d 0 7 && validB (⟨l_a, l_b, l_k⟩ : N3), (footF (nrm l_d) (⟨l_a, l_b, l_k⟩ : N3)).av)
  | _ => none

theorem e55 (l_d : Int) (l_a : Int) (l_b : Int) (l_k : Int) (hp : (inB l_d 0 7 && validB (⟨l_a, l_b, l_k⟩ : N3)) = true) : evN Tryd.prog GLv Γ116 (0) []  Tryd.f55 [.agg [.val (.int .i64 l_d), .val (.int .i64 l_a), .val (.int .i64 l_b), .val (.int .i64 l_k)]] = some ((footF (nrm l_d) (⟨l_a, l_b, l_k⟩ : N3)).av) := by
  rw [Bool.and_eq_true] at hp
  obtain ⟨h1, h2⟩ := hp
  obtain ⟨a1, a2, _⟩ := mirror_same h1 h2
  have w1 := nrm_in h1
  obtain ⟨E, f, O1, O2, hf⟩ := foot_ex h1 h2
  rw [← hf.i]
  refine (show _ = cond (inB (wr (l_d + 4)) 0 15) (cond (pkD (nrm l_d) (nrm l_d)) (cond (dvP (⟨l_a, l_b, l_k⟩ : N3) (dotF (nrm l_d) (nrm l_d))) (cond (pkT (nrm l_d) (dvF (⟨l_a, l_b, l_k⟩ : N3) (dotF (nrm l_d) (nrm l_d)))) (some (timesF (nrm l_d) (dvF (⟨l_a, l_b, l_k⟩ : N3) (dotF (nrm l_d) (nrm l_d)))).av) none) none) none) none from by kernel_rfl).trans ?_
  rw [w1, a2, a1, hf.t]
  rfl
theorem m55 : Meets Tryd.prog GLv 55 s55 := by
  refine meetsN mix0 glv G116 Tryd.func55 (by kernel_rfl) (by kernel_rfl) s55 fun args x h => ?_
  unfold s55 at h
  split at h
  · rename_i l_d l_a l_b l_k
    simp only [Option.some.injEq, Prod.mk.injEq] at h
    obtain ⟨hp, rfl⟩ := h
    exact ⟨_, _, by kernel_rfl, e55 l_d l_a l_b l_k hp⟩
  · cases h
noncomputable abbrev Γ117 : List (Nat × Ctr) := (55, s55) :: Γ116
theorem G117 : Sound Tryd.prog GLv Γ117 := G116.cons m55

-- (impl.Motion).direct
noncomputable def s73 : Ctr := fun
  | [.agg [.val (.int .i64 m_t), .val (.bool m_f), .val (.int .i64 m_xa), .val (.int .i64 m_xb), .val (.int .i64 m_xk), .val (.int .i64 m_ya), .val (.int .i64 m_yb), .val (.int .i64 m_yk)], .val (.int .i64 d)] => some (inB m_t 0 7 && inB d 0 15, iv (dirM (⟨m_t, m_f, (⟨⟨m_xa, m_xb, m_xk⟩, ⟨m_ya, m_yb, m_yk⟩⟩ : P2)⟩ : M8) d))
  | _ => none

theorem e73 (m_t : Int) (m_f : Bool) (m_xa : Int) (m_xb : Int) (m_xk : Int) (m_ya : Int) (m_yb : Int) (m_yk : Int) (d : Int) (hp : (inB m_t 0 7 && inB d 0 15) = true) : evN Tryd.prog GLv Γ117 (0) []  Tryd.f73 [.agg [.val (.int .i64 m_t), .val (.bool m_f), .val (.int .i64 m_xa), .val (.int .i64 m_xb), .val (.int .i64 m_xk), .val (.int .i64 m_ya), .val (.int .i64 m_yb), .val (.int .i64 m_yk)], .val (.int .i64 d)] = some (iv (dirM (⟨m_t, m_f, (⟨⟨m_xa, m_xb, m_xk⟩, ⟨m_ya, m_yb, m_yk⟩⟩ : P2)⟩ : M8) d)) := by
  rw [Bool.and_eq_true] at hp
  obtain ⟨h1, h2⟩ := hp
  obtain ⟨⟨a1, a2⟩, a3, a4⟩ := dirM_spec h1 h2
  cases m_f with
  | true =>
    refine (show _ = some (iv ((wr (wr (0 - d) + wr (2 * m_t))) % 16)) from by kernel_rfl).trans ?_
    rw [a2]
    rfl
  | false =>
    refine (show _ = some (iv ((wr (d + wr (2 * m_t))) % 16)) from by kernel_rfl).trans ?_
    rw [a4]
    rfl
theorem m73 : Meets Tryd.prog GLv 73 s73 := by
  refine meetsN mix0 glv G117 Tryd.func73 (by kernel_rfl) (by kernel_rfl) s73 fun args x h => ?_
  unfold s73 at h
  split at h
  · rename_i m_t m_f m_xa m_xb m_xk m_ya m_yb m_yk d
    simp only [Option.some.injEq, Prod.mk.injEq] at h
    obtain ⟨hp, rfl⟩ := h
    exact ⟨_, _, by kernel_rfl, e73 m_t m_f m_xa m_xb m_xk m_ya m_yb m_yk d hp⟩
  · cases h
noncomputable abbrev Γ118 : List (Nat × Ctr) := (73, s73) :: Γ117
theorem G118 : Sound Tryd.prog GLv Γ118 := G117.cons m73

-- spec.l04Dir
noncomputable def s113 : Ctr := fun
  | [.agg [.val (.int .i64 m_t), .val (.bool m_f), .val (.int .i64 m_xa), .val (.int .i64 m_xb), .val (.int .i64 m_xk), .val (.int .i64 m_ya), .val (.int .i64 m_yb), .val (.int .i64 m_yk)], .val (.int .i64 d)] => some (inB m_t 0 7 && inB d 0 15, iv (dirM (⟨m_t, m_f, (⟨⟨m_xa, m_xb, m_xk⟩, ⟨m_ya, m_yb, m_yk⟩⟩ : P2)⟩ : M8) d))
  | _ => none

theorem e113 (m_t : Int) (m_f : Bool) (m_xa : Int) (m_xb : Int) (m_xk : Int) (m_ya : Int) (m_yb : Int) (m_yk : Int) (d : Int) (hp : (inB m_t 0 7 && inB d 0 15) = true) : evN Tryd.prog GLv Γ118 (0) []  Tryd.f113 [.agg [.val (.int .i64 m_t), .val (.bool m_f), .val (.int .i64 m_xa), .val (.int .i64 m_xb), .val (.int .i64 m_xk), .val (.int .i64 m_ya), .val (.int .i64 m_yb), .val (.int .i64 m_yk)], .val (.int .i64 d)] = some (iv (dirM (⟨m_t, m_f, (⟨⟨m_xa, m_xb, m_xk⟩, ⟨m_ya, m_yb, m_yk⟩⟩ : P2)⟩ : M8) d)) := by
  rw [Bool.and_eq_true] at hp
  obtain ⟨h1, h2⟩ := hp
  obtain ⟨⟨a1, a2⟩, a3, a4⟩ := dirM_spec h1 h2
  cases m_f with
  | true =>
    refine (show _ = cond (inB (wr (wr (0 - d) + wr (2 * m_t))) (-100) 100) (some (iv ((wr (wr (0 - d) + wr (2 * m_t))) % 16))) none from by kernel_rfl).trans ?_
    rw [a1, a2]
    rfl
  | false =>
    refine (show _ = cond (inB (wr (d + wr (2 * m_t))) (-100) 100) (some (iv ((wr (d + wr (2 * m_t))) % 16))) none from by kernel_rfl).trans ?_
    rw [a3, a4]
    rfl
theorem m113 : Meets Tryd.prog GLv 113 s113 := by
  refine meetsN mix0 glv G118 Tryd.func113 (by kernel_rfl) (by kernel_rfl) s113 fun args x h => ?_
  unfold s113 at h
  split at h
  · rename_i m_t m_f m_xa m_xb m_xk m_ya m_yb m_yk d
    simp only [Option.some.injEq, Prod.mk.injEq] at h
    obtain ⟨hp, rfl⟩ := h
    exact ⟨_, _, by kernel_rfl, e113 m_t m_f m_xa m_xb m_xk m_ya m_yb m_yk d hp⟩
  · cases h
noncomputable abbrev Γ119 : List (Nat × Ctr) := (113, s113) :: Γ118
theorem G119 : Sound Tryd.prog GLv Γ119 := G118.cons m113

-- impl.MoveDirection
noncomputable def s32 : Ctr := fun
  | [.agg [.val (.int .i64 m_t), .val (.bool m_f), .val (.int .i64 m_xa), .val (.int .i64 m_xb), .val (.int .i64 m_xk), .val (.int .i64 m_ya), .val (.int .i64 m_yb), .val (.int .i64 m_yk)], .val (.int .i64 d)] => some (true, iv (mdV (⟨m_t, m_f, (⟨⟨m_xa, m_xb, m_xk⟩, ⟨m_ya, m_yb, m_yk⟩⟩ : P2)⟩ : M8) d))
  | _ => none

theorem e32 (m_t : Int) (m_f : Bool) (m_xa : Int) (m_xb : Int) (m_xk : Int) (m_ya : Int) (m_yb : Int) (m_yk : Int) (d : Int) : evN Tryd.prog GLv Γ119 (0) []  Tryd.f32 [.agg [.val (.int .i64 m_t), .val (.bool m_f), .val (.int .i64 m_xa), .val (.int .i64 m_xb), .val (.int .i64 m_xk), .val (.int .i64 m_ya), .val (.int .i64 m_yb), .val (.int .i64 m_yk)], .val (.int .i64 d)] = some (iv (mdV (⟨m_t, m_f, (⟨⟨m_xa, m_xb, m_xk⟩, ⟨m_ya, m_yb, m_yk⟩⟩ : P2)⟩ : M8) d)) := by
  refine (show _ = cond (!(inB m_t 0 7 && valP (⟨⟨m_xa, m_xb, m_xk⟩, ⟨m_ya, m_yb, m_yk⟩⟩ : P2))) (some (iv (-1))) (cond (!inB d 0 15) (some (iv (-1))) (cond (inB m_t 0 7 && inB d 0 15) (some (iv (dirM (⟨m_t, m_f, (⟨⟨m_xa, m_xb, m_xk⟩, ⟨m_ya, m_yb, m_yk⟩⟩ : P2)⟩ : M8) d))) none)) from by kernel_rfl).trans ?_
  unfold mdV M8.valid
  cases h1 : inB m_t 0 7 <;> cases h2 : valP (⟨⟨m_xa, m_xb, m_xk⟩, ⟨m_ya, m_yb, m_yk⟩⟩ : P2) <;> cases h3 : inB d 0 15 <;> rfl
theorem m32 : Meets Tryd.prog GLv 32 s32 := by
  refine meetsN mix0 glv G119 Tryd.func32 (by kernel_rfl) (by kernel_rfl) s32 fun args x h => ?_
  unfold s32 at h
  split at h
  · rename_i m_t m_f m_xa m_xb m_xk m_ya m_yb m_yk d
    simp only [Option.some.injEq, Prod.mk.injEq] at h
    obtain ⟨hp, rfl⟩ := h
    exact ⟨_, _, by kernel_rfl, e32 m_t m_f m_xa m_xb m_xk m_ya m_yb m_yk d⟩
  · cases h
noncomputable abbrev Γ120 : List (Nat × Ctr) := (32, s32) :: Γ119
theorem G120 : Sound Tryd.prog GLv Γ120 := G119.cons m32

-- spec.l02Through
noncomputable def s111 : Ctr := fun
  | [.agg [.val (.int .i64 p_xa), .val (.int .i64 p_xb), .val (.int .i64 p_xk), .val (.int .i64 p_ya), .val (.int .i64 p_yb), .val (.int .i64 p_yk)], .val (.int .i64 d)] => some (inB d (-100) 100 && pkD (nrm (d % 8)) (⟨⟨p_xa, p_xb, p_xk⟩, ⟨p_ya, p_yb, p_yk⟩⟩ : P2), (⟨d % 8, offV (d % 8) (⟨⟨p_xa, p_xb, p_xk⟩, ⟨p_ya, p_yb, p_yk⟩⟩ : P2)⟩ : Ln).av)
  | _ => none

theorem e111 (p_xa : Int) (p_xb : Int) (p_xk : Int) (p_ya : Int) (p_yb : Int) (p_yk : Int) (d : Int) (hp : (inB d (-100) 100 && pkD (nrm (d % 8)) (⟨⟨p_xa, p_xb, p_xk⟩, ⟨p_ya, p_yb, p_yk⟩⟩ : P2)) = true) : evN Tryd.prog GLv Γ120 (0) []  Tryd.f111 [.agg [.val (.int .i64 p_xa), .val (.int .i64 p_xb), .val (.int .i64 p_xk), .val (.int .i64 p_ya), .val (.int .i64 p_yb), .val (.int .i64 p_yk)], .val (.int .i64 d)] = some ((⟨d % 8, offV (d % 8) (⟨⟨p_xa, p_xb, p_xk⟩, ⟨p_ya, p_yb, p_yk⟩⟩ : P2)⟩ : Ln).av) := by
  rw [Bool.and_eq_true] at hp
  obtain ⟨h1, h2⟩ := hp
  have k := inB_iff.1 h1
  have e1 : ((d % 16).tmod 8) = d % 8 := by rw [Int.tmod_eq_emod_of_nonneg (by omega)]; omega
  refine (show _ = cond (inB d (-100) 100) (cond (inB (wr (((d % 16).tmod 8) + 4)) 0 19 && pkD (vecP (wr (((d % 16).tmod 8) + 4) % 16)) (⟨⟨p_xa, p_xb, p_xk⟩, ⟨p_ya, p_yb, p_yk⟩⟩ : P2)) (some (⟨((d % 16).tmod 8), dotF (vecP (wr (((d % 16).tmod 8) + 4) % 16)) (⟨⟨p_xa, p_xb, p_xk⟩, ⟨p_ya, p_yb, p_yk⟩⟩ : P2)⟩ : Ln).av) none) none from by kernel_rfl).trans ?_
  have e2 : wr (d % 8 + 4) % 16 = wr (d % 8 + 4) := by rw [wr_in (by omega) (by omega)]; omega
  have e3 : inB (wr (d % 8 + 4)) 0 19 = true := by rw [wr_in (by omega) (by omega)]; exact inB_iff.2 (by omega)
  rw [e1, e2, e3]
  change cond (inB d (-100) 100) (cond (true && pkD (nrm (d % 8)) (⟨⟨p_xa, p_xb, p_xk⟩, ⟨p_ya, p_yb, p_yk⟩⟩ : P2)) _ none) none = _
  rw [h1, h2]
  rfl
theorem m111 : Meets Tryd.prog GLv 111 s111 := by
  refine meetsN mix0 glv G120 Tryd.func111 (by kernel_rfl) (by kernel_rfl) s111 fun args x h => ?_
  unfold s111 at h
  split at h
  · rename_i p_xa p_xb p_xk p_ya p_yb p_yk d
    simp only [Option.some.injEq, Prod.mk.injEq] at h
    obtain ⟨hp, rfl⟩ := h
    exact ⟨_, _, by kernel_rfl, e111 p_xa p_xb p_xk p_ya p_yb p_yk d hp⟩
  · cases h
noncomputable abbrev Γ121 : List (Nat × Ctr) := (111, s111) :: Γ120
theorem G121 : Sound Tryd.prog GLv Γ121 := G120.cons m111

-- spec.l04Line
noncomputable def s69 : Ctr := fun
  | [.agg [.val (.int .i64 m_t), .val (.bool m_f), .val (.int .i64 m_xa), .val (.int .i64 m_xb), .val (.int .i64 m_xk), .val (.int .i64 m_ya), .val (.int .i64 m_yb), .val (.int .i64 m_yk)], .agg [.val (.int .i64 l_d), .val (.int .i64 l_a), .val (.int .i64 l_b), .val (.int .i64 l_k)]] => some ((inB m_t 0 7 && valP (⟨⟨m_xa, m_xb, m_xk⟩, ⟨m_ya, m_yb, m_yk⟩⟩ : P2)) && (inB l_d 0 7 && validB (⟨l_a, l_b, l_k⟩ : N3)), (⟨(dirM (⟨m_t, m_f, (⟨⟨m_xa, m_xb, m_xk⟩, ⟨m_ya, m_yb, m_yk⟩⟩ : P2)⟩ : M8) l_d) % 8, (mlX (⟨m_t, m_f, (⟨⟨m_xa, m_xb, m_xk⟩, ⟨m_ya, m_yb, m_yk⟩⟩ : P2)⟩ : M8) (⟨l_d, (⟨l_a, l_b, l_k⟩ : N3)⟩ : Ln))⟩ : Ln).av)
  | _ => none

theorem e69 (m_t : Int) (m_f : Bool) (m_xa : Int) (m_xb : Int) (m_xk : Int) (m_ya : Int) (m_yb : Int) (m_yk : Int) (l_d : Int) (l_a : Int) (l_b : Int) (l_k : Int) (hp : ((inB m_t 0 7 && valP (⟨⟨m_xa, m_xb, m_xk⟩, ⟨m_ya, m_yb, m_yk⟩⟩ : P2)) && (inB l_d 0 7 && validB (⟨l_a, l_b, l_k⟩ : N3))) = true) : evN Tryd.prog GLv Γ121 (0) []  Tryd.f69 [.agg [.val (.int .i64 m_t), .val (.bool m_f), .val (.int .i64 m_xa), .val (.int .i64 m_xb), .val (.int .i64 m_xk), .val (.int .i64 m_ya), .val (.int .i64 m_yb), .val (.int .i64 m_yk)], .agg [.val (.int .i64 l_d), .val (.int .i64 l_a), .val (.int .i64 l_b), .val (.int .i64 l_k)]] = some ((⟨(dirM (⟨m_t, m_f, (⟨⟨m_xa, m_xb, m_xk⟩, ⟨m_ya, m_yb, m_yk⟩⟩ : P2)⟩ : M8) l_d) % 8, (mlX (⟨m_t, m_f, (⟨⟨m_xa, m_xb, m_xk⟩, ⟨m_ya, m_yb, m_yk⟩⟩ : P2)⟩ : M8) (⟨l_d, (⟨l_a, l_b, l_k⟩ : N3)⟩ : Ln))⟩ : Ln).av) := by
  rw [Bool.and_eq_true] at hp
  obtain ⟨k1, k2, k3, k4, k5⟩ := ml_ok (m := (⟨m_t, m_f, (⟨⟨m_xa, m_xb, m_xk⟩, ⟨m_ya, m_yb, m_yk⟩⟩ : P2)⟩ : M8)) (l := (⟨l_d, (⟨l_a, l_b, l_k⟩ : N3)⟩ : Ln)) hp.1 hp.2
  have hm := hp.1
  rw [Bool.and_eq_true] at hm
  have hl := hp.2
  rw [Bool.and_eq_true] at hl
  change okM m_t (footF (nrm l_d) (⟨l_a, l_b, l_k⟩ : N3)) (⟨⟨m_xa, m_xb, m_xk⟩, ⟨m_ya, m_yb, m_yk⟩⟩ : P2) = true at k1
  change inB l_d 0 15 = true at k3
  have k6 : (inB (dirM (⟨m_t, m_f, (⟨⟨m_xa, m_xb, m_xk⟩, ⟨m_ya, m_yb, m_yk⟩⟩ : P2)⟩ : M8) l_d) (-100) 100 && pkD (nrm ((dirM (⟨m_t, m_f, (⟨⟨m_xa, m_xb, m_xk⟩, ⟨m_ya, m_yb, m_yk⟩⟩ : P2)⟩ : M8) l_d) % 8)) (mlP (⟨m_t, m_f, (⟨⟨m_xa, m_xb, m_xk⟩, ⟨m_ya, m_yb, m_yk⟩⟩ : P2)⟩ : M8) (⟨l_d, (⟨l_a, l_b, l_k⟩ : N3)⟩ : Ln))) = true := by
    rw [Bool.and_eq_true] at k2
    have := inB_iff.1 (dirM_in (⟨m_t, m_f, (⟨⟨m_xa, m_xb, m_xk⟩, ⟨m_ya, m_yb, m_yk⟩⟩ : P2)⟩ : M8) l_d)
    rw [show inB (dirM (⟨m_t, m_f, (⟨⟨m_xa, m_xb, m_xk⟩, ⟨m_ya, m_yb, m_yk⟩⟩ : P2)⟩ : M8) l_d) (-100) 100 = true from inB_iff.2 (by omega)]
    exact k2.2
  refine (show _ = cond (inB l_d 0 7 && validB (⟨l_a, l_b, l_k⟩ : N3)) (cond (okM m_t (footF (nrm l_d) (⟨l_a, l_b, l_k⟩ : N3)) (⟨⟨m_xa, m_xb, m_xk⟩, ⟨m_ya, m_yb, m_yk⟩⟩ : P2)) (cond (inB m_t 0 7 && inB l_d 0 15) (cond (inB (dirM (⟨m_t, m_f, (⟨⟨m_xa, m_xb, m_xk⟩, ⟨m_ya, m_yb, m_yk⟩⟩ : P2)⟩ : M8) l_d) (-100) 100 && pkD (nrm ((dirM (⟨m_t, m_f, (⟨⟨m_xa, m_xb, m_xk⟩, ⟨m_ya, m_yb, m_yk⟩⟩ : P2)⟩ : M8) l_d) % 8)) (mlP (⟨m_t, m_f, (⟨⟨m_xa, m_xb, m_xk⟩, ⟨m_ya, m_yb, m_yk⟩⟩ : P2)⟩ : M8) (⟨l_d, (⟨l_a, l_b, l_k⟩ : N3)⟩ : Ln))) (some (⟨(dirM (⟨m_t, m_f, (⟨⟨m_xa, m_xb, m_xk⟩, ⟨m_ya, m_yb, m_yk⟩⟩ : P2)⟩ : M8) l_d) % 8, (mlX (⟨m_t, m_f, (⟨⟨m_xa, m_xb, m_xk⟩, ⟨m_ya, m_yb, m_yk⟩⟩ : P2)⟩ : M8) (⟨l_d, (⟨l_a, l_b, l_k⟩ : N3)⟩ : Ln))⟩ : Ln).av) none) none) none) none from by kernel_rfl).trans ?_
  rw [k1, k6, hl.1, hl.2, hm.1, k3]
  rfl
theorem m69 : Meets Tryd.prog GLv 69 s69 := by
  refine meetsN mix0 glv G121 Tryd.func69 (by kernel_rfl) (by kernel_rfl) s69 fun args x h => ?_
  unfold s69 at h
  split at h
  · rename_i m_t m_f m_xa m_xb m_xk m_ya m_yb m_yk l_d l_a l_b l_k
    simp only [Option.some.injEq, Prod.mk.injEq] at h
    obtain ⟨hp, rfl⟩ := h
    exact ⟨_, _, by kernel_rfl, e69 m_t m_f m_xa m_xb m_xk m_ya m_yb m_yk l_d l_a l_b l_k hp⟩
  · cases h
noncomputable abbrev Γ122 : List (Nat × Ctr) := (69, s69) :: Γ121
theorem G122 : Sound Tryd.prog GLv Γ122 := G121.cons m69

-- (impl.Motion).line
noncomputable def s68 : Ctr := fun
  | [.agg [.val (.int .i64 m_t), .val (.bool m_f), .val (.int .i64 m_xa), .val (.int .i64 m_xb), .val (.int .i64 m_xk), .val (.int .i64 m_ya), .val (.int .i64 m_yb), .val (.int .i64 m_yk)], .agg [.val (.int .i64 l_d), .val (.int .i64 l_a), .val (.int .i64 l_b), .val (.int .i64 l_k)]] => some ((inB m_t 0 7 && valP (⟨⟨m_xa, m_xb, m_xk⟩, ⟨m_ya, m_yb, m_yk⟩⟩ : P2)) && (inB l_d 0 7 && validB (⟨l_a, l_b, l_k⟩ : N3)), (⟨(dirM (⟨m_t, m_f, (⟨⟨m_xa, m_xb, m_xk⟩, ⟨m_ya, m_yb, m_yk⟩⟩ : P2)⟩ : M8) l_d) % 8, (mlX (⟨m_t, m_f, (⟨⟨m_xa, m_xb, m_xk⟩, ⟨m_ya, m_yb, m_yk⟩⟩ : P2)⟩ : M8) (⟨l_d, (⟨l_a, l_b, l_k⟩ : N3)⟩ : Ln))⟩ : Ln).av)
  | _ => none

theorem e68 (m_t : Int) (m_f : Bool) (m_xa : Int) (m_xb : Int) (m_xk : Int) (m_ya : Int) (m_yb : Int) (m_yk : Int) (l_d : Int) (l_a : Int) (l_b : Int) (l_k : Int) (hp : ((inB m_t 0 7 && valP (⟨⟨m_xa, m_xb, m_xk⟩, ⟨m_ya, m_yb, m_yk⟩⟩ : P2)) && (inB l_d 0 7 && validB (⟨l_a, l_b, l_k⟩ : N3))) = true) : evN Tryd.prog GLv Γ122 (0) []  Tryd.f68 [.agg [.val (.int .i64 m_t), .val (.bool m_f), .val (.int .i64 m_xa), .val (.int .i64 m_xb), .val (.int .i64 m_xk), .val (.int .i64 m_ya), .val (.int .i64 m_yb), .val (.int .i64 m_yk)], .agg [.val (.int .i64 l_d), .val (.int .i64 l_a), .val (.int .i64 l_b), .val (.int .i64 l_k)]] = some ((⟨(dirM (⟨m_t, m_f, (⟨⟨m_xa, m_xb, m_xk⟩, ⟨m_ya, m_yb, m_yk⟩⟩ : P2)⟩ : M8) l_d) % 8, (mlX (⟨m_t, m_f, (⟨⟨m_xa, m_xb, m_xk⟩, ⟨m_ya, m_yb, m_yk⟩⟩ : P2)⟩ : M8) (⟨l_d, (⟨l_a, l_b, l_k⟩ : N3)⟩ : Ln))⟩ : Ln).av) := by
  rw [Bool.and_eq_true] at hp
  obtain ⟨k1, k2, k3, k4, k5⟩ := ml_ok (m := (⟨m_t, m_f, (⟨⟨m_xa, m_xb, m_xk⟩, ⟨m_ya, m_yb, m_yk⟩⟩ : P2)⟩ : M8)) (l := (⟨l_d, (⟨l_a, l_b, l_k⟩ : N3)⟩ : Ln)) hp.1 hp.2
  have hm := hp.1
  rw [Bool.and_eq_true] at hm
  have hl := hp.2
  rw [Bool.and_eq_true] at hl
  change okM m_t (footF (nrm l_d) (⟨l_a, l_b, l_k⟩ : N3)) (⟨⟨m_xa, m_xb, m_xk⟩, ⟨m_ya, m_yb, m_yk⟩⟩ : P2) = true at k1
  change inB l_d 0 15 = true at k3
  have e8 : ((dirM (⟨m_t, m_f, (⟨⟨m_xa, m_xb, m_xk⟩, ⟨m_ya, m_yb, m_yk⟩⟩ : P2)⟩ : M8) l_d)).tmod 8 = (dirM (⟨m_t, m_f, (⟨⟨m_xa, m_xb, m_xk⟩, ⟨m_ya, m_yb, m_yk⟩⟩ : P2)⟩ : M8) l_d) % 8 := Int.tmod_eq_emod_of_nonneg (inB_iff.1 (dirM_in (⟨m_t, m_f, (⟨⟨m_xa, m_xb, m_xk⟩, ⟨m_ya, m_yb, m_yk⟩⟩ : P2)⟩ : M8) l_d)).1
  refine (show _ = cond (inB l_d 0 7 && validB (⟨l_a, l_b, l_k⟩ : N3)) (cond (okM m_t (footF (nrm l_d) (⟨l_a, l_b, l_k⟩ : N3)) (⟨⟨m_xa, m_xb, m_xk⟩, ⟨m_ya, m_yb, m_yk⟩⟩ : P2)) (cond (inB m_t 0 7 && inB l_d 0 15) (cond (inB (wr (((dirM (⟨m_t, m_f, (⟨⟨m_xa, m_xb, m_xk⟩, ⟨m_ya, m_yb, m_yk⟩⟩ : P2)⟩ : M8) l_d)).tmod 8 + 4)) 0 15 && pkD (nrm (((dirM (⟨m_t, m_f, (⟨⟨m_xa, m_xb, m_xk⟩, ⟨m_ya, m_yb, m_yk⟩⟩ : P2)⟩ : M8) l_d)).tmod 8)) (mlP (⟨m_t, m_f, (⟨⟨m_xa, m_xb, m_xk⟩, ⟨m_ya, m_yb, m_yk⟩⟩ : P2)⟩ : M8) (⟨l_d, (⟨l_a, l_b, l_k⟩ : N3)⟩ : Ln))) (some (⟨((dirM (⟨m_t, m_f, (⟨⟨m_xa, m_xb, m_xk⟩, ⟨m_ya, m_yb, m_yk⟩⟩ : P2)⟩ : M8) l_d)).tmod 8, offV (((dirM (⟨m_t, m_f, (⟨⟨m_xa, m_xb, m_xk⟩, ⟨m_ya, m_yb, m_yk⟩⟩ : P2)⟩ : M8) l_d)).tmod 8) (mlP (⟨m_t, m_f, (⟨⟨m_xa, m_xb, m_xk⟩, ⟨m_ya, m_yb, m_yk⟩⟩ : P2)⟩ : M8) (⟨l_d, (⟨l_a, l_b, l_k⟩ : N3)⟩ : Ln))⟩ : Ln).av) none) none) none) none from by kernel_rfl).trans ?_
  rw [e8, k1, k2, hl.1, hl.2, hm.1, k3]
  rfl
theorem m68 : Meets Tryd.prog GLv 68 s68 := by
  refine meetsN mix0 glv G122 Tryd.func68 (by kernel_rfl) (by kernel_rfl) s68 fun args x h => ?_
  unfold s68 at h
  split at h
  · rename_i m_t m_f m_xa m_xb m_xk m_ya m_yb m_yk l_d l_a l_b l_k
    simp only [Option.some.injEq, Prod.mk.injEq] at h
    obtain ⟨hp, rfl⟩ := h
    exact ⟨_, _, by kernel_rfl, e68 m_t m_f m_xa m_xb m_xk m_ya m_yb m_yk l_d l_a l_b l_k hp⟩
  · cases h
noncomputable abbrev Γ123 : List (Nat × Ctr) := (68, s68) :: Γ122
theorem G123 : Sound Tryd.prog GLv Γ123 := G122.cons m68

-- impl.MoveLine
noncomputable def s30 : Ctr := fun
  | [.agg [.val (.int .i64 m_t), .val (.bool m_f), .val (.int .i64 m_xa), .val (.int .i64 m_xb), .val (.int .i64 m_xk), .val (.int .i64 m_ya), .val (.int .i64 m_yb), .val (.int .i64 m_yk)], .agg [.val (.int .i64 l_d), .val (.int .i64 l_a), .val (.int .i64 l_b), .val (.int .i64 l_k)]] => some (true, .tup [(mlL (⟨m_t, m_f, (⟨⟨m_xa, m_xb, m_xk⟩, ⟨m_ya, m_yb, m_yk⟩⟩ : P2)⟩ : M8) (⟨l_d, (⟨l_a, l_b, l_k⟩ : N3)⟩ : Ln)).av, bv (mlO (⟨m_t, m_f, (⟨⟨m_xa, m_xb, m_xk⟩, ⟨m_ya, m_yb, m_yk⟩⟩ : P2)⟩ : M8) (⟨l_d, (⟨l_a, l_b, l_k⟩ : N3)⟩ : Ln))])
  | _ => none

theorem e30 (m_t : Int) (m_f : Bool) (m_xa : Int) (m_xb : Int) (m_xk : Int) (m_ya : Int) (m_yb : Int) (m_yk : Int) (l_d : Int) (l_a : Int) (l_b : Int) (l_k : Int) : evN Tryd.prog GLv Γ123 (0) []  Tryd.f30 [.agg [.val (.int .i64 m_t), .val (.bool m_f), .val (.int .i64 m_xa), .val (.int .i64 m_xb), .val (.int .i64 m_xk), .val (.int .i64 m_ya), .val (.int .i64 m_yb), .val (.int .i64 m_yk)], .agg [.val (.int .i64 l_d), .val (.int .i64 l_a), .val (.int .i64 l_b), .val (.int .i64 l_k)]] = some (.tup [(mlL (⟨m_t, m_f, (⟨⟨m_xa, m_xb, m_xk⟩, ⟨m_ya, m_yb, m_yk⟩⟩ : P2)⟩ : M8) (⟨l_d, (⟨l_a, l_b, l_k⟩ : N3)⟩ : Ln)).av, bv (mlO (⟨m_t, m_f, (⟨⟨m_xa, m_xb, m_xk⟩, ⟨m_ya, m_yb, m_yk⟩⟩ : P2)⟩ : M8) (⟨l_d, (⟨l_a, l_b, l_k⟩ : N3)⟩ : Ln))]) := by
  refine (show _ = cond (!(inB m_t 0 7 && valP (⟨⟨m_xa, m_xb, m_xk⟩, ⟨m_ya, m_yb, m_yk⟩⟩ : P2))) (some (.tup [ln0.av, bv false])) (cond (!(inB l_d 0 7 && validB (⟨l_a, l_b, l_k⟩ : N3))) (some (.tup [ln0.av, bv false])) (cond ((inB m_t 0 7 && valP (⟨⟨m_xa, m_xb, m_xk⟩, ⟨m_ya, m_yb, m_yk⟩⟩ : P2)) && (inB l_d 0 7 && validB (⟨l_a, l_b, l_k⟩ : N3))) (cond (!validB (mlX (⟨m_t, m_f, (⟨⟨m_xa, m_xb, m_xk⟩, ⟨m_ya, m_yb, m_yk⟩⟩ : P2)⟩ : M8) (⟨l_d, (⟨l_a, l_b, l_k⟩ : N3)⟩ : Ln))) (some (.tup [ln0.av, bv false])) (some (.tup [(⟨(dirM (⟨m_t, m_f, (⟨⟨m_xa, m_xb, m_xk⟩, ⟨m_ya, m_yb, m_yk⟩⟩ : P2)⟩ : M8) l_d) % 8, (mlX (⟨m_t, m_f, (⟨⟨m_xa, m_xb, m_xk⟩, ⟨m_ya, m_yb, m_yk⟩⟩ : P2)⟩ : M8) (⟨l_d, (⟨l_a, l_b, l_k⟩ : N3)⟩ : Ln))⟩ : Ln).av, bv true]))) none)) from by kernel_rfl).trans ?_
  cases h1 : (inB m_t 0 7 && valP (⟨⟨m_xa, m_xb, m_xk⟩, ⟨m_ya, m_yb, m_yk⟩⟩ : P2)) with
  | false => unfold mlL mlO M8.valid; rw [show (inB m_t 0 7 && valP (⟨⟨m_xa, m_xb, m_xk⟩, ⟨m_ya, m_yb, m_yk⟩⟩ : P2)) = false from h1]; rfl
  | true =>
    cases h2 : (inB l_d 0 7 && validB (⟨l_a, l_b, l_k⟩ : N3)) with
    | false => unfold mlL mlO M8.valid Ln.valid; rw [show (inB m_t 0 7 && valP (⟨⟨m_xa, m_xb, m_xk⟩, ⟨m_ya, m_yb, m_yk⟩⟩ : P2)) = true from h1, show (inB l_d 0 7 && validB (⟨l_a, l_b, l_k⟩ : N3)) = false from h2]; rfl
    | true =>
      obtain ⟨_, _, _, k4, k5⟩ := ml_ok (m := (⟨m_t, m_f, (⟨⟨m_xa, m_xb, m_xk⟩, ⟨m_ya, m_yb, m_yk⟩⟩ : P2)⟩ : M8)) (l := (⟨l_d, (⟨l_a, l_b, l_k⟩ : N3)⟩ : Ln)) h1 h2
      have eo : mlO (⟨m_t, m_f, (⟨⟨m_xa, m_xb, m_xk⟩, ⟨m_ya, m_yb, m_yk⟩⟩ : P2)⟩ : M8) (⟨l_d, (⟨l_a, l_b, l_k⟩ : N3)⟩ : Ln) = validB (mlX (⟨m_t, m_f, (⟨⟨m_xa, m_xb, m_xk⟩, ⟨m_ya, m_yb, m_yk⟩⟩ : P2)⟩ : M8) (⟨l_d, (⟨l_a, l_b, l_k⟩ : N3)⟩ : Ln)) := by unfold mlO M8.valid Ln.valid; rw [show (inB m_t 0 7 && valP (⟨⟨m_xa, m_xb, m_xk⟩, ⟨m_ya, m_yb, m_yk⟩⟩ : P2)) = true from h1, show (inB l_d 0 7 && validB (⟨l_a, l_b, l_k⟩ : N3)) = true from h2]; rfl
      unfold mlL
      rw [eo]
      cases validB (mlX (⟨m_t, m_f, (⟨⟨m_xa, m_xb, m_xk⟩, ⟨m_ya, m_yb, m_yk⟩⟩ : P2)⟩ : M8) (⟨l_d, (⟨l_a, l_b, l_k⟩ : N3)⟩ : Ln)) <;> rfl
theorem m30 : Meets Tryd.prog GLv 30 s30 := by
  refine meetsN mix0 glv G123 Tryd.func30 (by kernel_rfl) (by kernel_rfl) s30 fun args x h => ?_
  unfold s30 at h
  split at h
  · rename_i m_t m_f m_xa m_xb m_xk m_ya m_yb m_yk l_d l_a l_b l_k
    simp only [Option.some.injEq, Prod.mk.injEq] at h
    obtain ⟨hp, rfl⟩ := h
    exact ⟨_, _, by kernel_rfl, e30 m_t m_f m_xa m_xb m_xk m_ya m_yb m_yk l_d l_a l_b l_k⟩
  · cases h
noncomputable abbrev Γ124 : List (Nat × Ctr) := (30, s30) :: Γ123
theorem G124 : Sound Tryd.prog GLv Γ124 := G123.cons m30

-- spec.MoveLine
noncomputable def s31 : Ctr := fun
  | [.agg [.val (.int .i64 m_t), .val (.bool m_f), .val (.int .i64 m_xa), .val (.int .i64 m_xb), .val (.int .i64 m_xk), .val (.int .i64 m_ya), .val (.int .i64 m_yb), .val (.int .i64 m_yk)], .agg [.val (.int .i64 l_d), .val (.int .i64 l_a), .val (.int .i64 l_b), .val (.int .i64 l_k)]] => some (true, .tup [(mlL (⟨m_t, m_f, (⟨⟨m_xa, m_xb, m_xk⟩, ⟨m_ya, m_yb, m_yk⟩⟩ : P2)⟩ : M8) (⟨l_d, (⟨l_a, l_b, l_k⟩ : N3)⟩ : Ln)).av, bv (mlO (⟨m_t, m_f, (⟨⟨m_xa, m_xb, m_xk⟩, ⟨m_ya, m_yb, m_yk⟩⟩ : P2)⟩ : M8) (⟨l_d, (⟨l_a, l_b, l_k⟩ : N3)⟩ : Ln))])
  | _ => none

theorem e31 (m_t : Int) (m_f : Bool) (m_xa : Int) (m_xb : Int) (m_xk : Int) (m_ya : Int) (m_yb : Int) (m_yk : Int) (l_d : Int) (l_a : Int) (l_b : Int) (l_k : Int) : evN Tryd.prog GLv Γ124 (0) []  Tryd.f31 [.agg [.val (.int .i64 m_t), .val (.bool m_f), .val (.int .i64 m_xa), .val (.int .i64 m_xb), .val (.int .i64 m_xk), .val (.int .i64 m_ya), .val (.int .i64 m_yb), .val (.int .i64 m_yk)], .agg [.val (.int .i64 l_d), .val (.int .i64 l_a), .val (.int .i64 l_b), .val (.int .i64 l_k)]] = some (.tup [(mlL (⟨m_t, m_f, (⟨⟨m_xa, m_xb, m_xk⟩, ⟨m_ya, m_yb, m_yk⟩⟩ : P2)⟩ : M8) (⟨l_d, (⟨l_a, l_b, l_k⟩ : N3)⟩ : Ln)).av, bv (mlO (⟨m_t, m_f, (⟨⟨m_xa, m_xb, m_xk⟩, ⟨m_ya, m_yb, m_yk⟩⟩ : P2)⟩ : M8) (⟨l_d, (⟨l_a, l_b, l_k⟩ : N3)⟩ : Ln))]) := by
  refine (show _ = cond (!(inB m_t 0 7 && valP (⟨⟨m_xa, m_xb, m_xk⟩, ⟨m_ya, m_yb, m_yk⟩⟩ : P2))) (some (.tup [ln0.av, bv false])) (cond (!(inB l_d 0 7 && validB (⟨l_a, l_b, l_k⟩ : N3))) (some (.tup [ln0.av, bv false])) (cond ((inB m_t 0 7 && valP (⟨⟨m_xa, m_xb, m_xk⟩, ⟨m_ya, m_yb, m_yk⟩⟩ : P2)) && (inB l_d 0 7 && validB (⟨l_a, l_b, l_k⟩ : N3))) (cond (kB (mlX (⟨m_t, m_f, (⟨⟨m_xa, m_xb, m_xk⟩, ⟨m_ya, m_yb, m_yk⟩⟩ : P2)⟩ : M8) (⟨l_d, (⟨l_a, l_b, l_k⟩ : N3)⟩ : Ln)).k) (cond (!chkB (mlX (⟨m_t, m_f, (⟨⟨m_xa, m_xb, m_xk⟩, ⟨m_ya, m_yb, m_yk⟩⟩ : P2)⟩ : M8) (⟨l_d, (⟨l_a, l_b, l_k⟩ : N3)⟩ : Ln))) (some (.tup [ln0.av, bv false])) (some (.tup [(⟨(dirM (⟨m_t, m_f, (⟨⟨m_xa, m_xb, m_xk⟩, ⟨m_ya, m_yb, m_yk⟩⟩ : P2)⟩ : M8) l_d) % 8, chk (mlX (⟨m_t, m_f, (⟨⟨m_xa, m_xb, m_xk⟩, ⟨m_ya, m_yb, m_yk⟩⟩ : P2)⟩ : M8) (⟨l_d, (⟨l_a, l_b, l_k⟩ : N3)⟩ : Ln))⟩ : Ln).av, bv true]))) none) none)) from by kernel_rfl).trans ?_
  cases h1 : (inB m_t 0 7 && valP (⟨⟨m_xa, m_xb, m_xk⟩, ⟨m_ya, m_yb, m_yk⟩⟩ : P2)) with
  | false => unfold mlL mlO M8.valid; rw [show (inB m_t 0 7 && valP (⟨⟨m_xa, m_xb, m_xk⟩, ⟨m_ya, m_yb, m_yk⟩⟩ : P2)) = false from h1]; rfl
  | true =>
    cases h2 : (inB l_d 0 7 && validB (⟨l_a, l_b, l_k⟩ : N3)) with
    | false => unfold mlL mlO M8.valid Ln.valid; rw [show (inB m_t 0 7 && valP (⟨⟨m_xa, m_xb, m_xk⟩, ⟨m_ya, m_yb, m_yk⟩⟩ : P2)) = true from h1, show (inB l_d 0 7 && validB (⟨l_a, l_b, l_k⟩ : N3)) = false from h2]; rfl
    | true =>
      obtain ⟨_, _, _, k4, k5⟩ := ml_ok (m := (⟨m_t, m_f, (⟨⟨m_xa, m_xb, m_xk⟩, ⟨m_ya, m_yb, m_yk⟩⟩ : P2)⟩ : M8)) (l := (⟨l_d, (⟨l_a, l_b, l_k⟩ : N3)⟩ : Ln)) h1 h2
      have eo : mlO (⟨m_t, m_f, (⟨⟨m_xa, m_xb, m_xk⟩, ⟨m_ya, m_yb, m_yk⟩⟩ : P2)⟩ : M8) (⟨l_d, (⟨l_a, l_b, l_k⟩ : N3)⟩ : Ln) = validB (mlX (⟨m_t, m_f, (⟨⟨m_xa, m_xb, m_xk⟩, ⟨m_ya, m_yb, m_yk⟩⟩ : P2)⟩ : M8) (⟨l_d, (⟨l_a, l_b, l_k⟩ : N3)⟩ : Ln)) := by unfold mlO M8.valid Ln.valid; rw [show (inB m_t 0 7 && valP (⟨⟨m_xa, m_xb, m_xk⟩, ⟨m_ya, m_yb, m_yk⟩⟩ : P2)) = true from h1, show (inB l_d 0 7 && validB (⟨l_a, l_b, l_k⟩ : N3)) = true from h2]; rfl
      unfold mlL
      rw [eo]
      have ec : chkB (mlX (⟨m_t, m_f, (⟨⟨m_xa, m_xb, m_xk⟩, ⟨m_ya, m_yb, m_yk⟩⟩ : P2)⟩ : M8) (⟨l_d, (⟨l_a, l_b, l_k⟩ : N3)⟩ : Ln)) = validB (mlX (⟨m_t, m_f, (⟨⟨m_xa, m_xb, m_xk⟩, ⟨m_ya, m_yb, m_yk⟩⟩ : P2)⟩ : M8) (⟨l_d, (⟨l_a, l_b, l_k⟩ : N3)⟩ : Ln)) := by unfold chkB; rw [k5]
      have ek : chk (mlX (⟨m_t, m_f, (⟨⟨m_xa, m_xb, m_xk⟩, ⟨m_ya, m_yb, m_yk⟩⟩ : P2)⟩ : M8) (⟨l_d, (⟨l_a, l_b, l_k⟩ : N3)⟩ : Ln)) = sel (validB (mlX (⟨m_t, m_f, (⟨⟨m_xa, m_xb, m_xk⟩, ⟨m_ya, m_yb, m_yk⟩⟩ : P2)⟩ : M8) (⟨l_d, (⟨l_a, l_b, l_k⟩ : N3)⟩ : Ln))) (mlX (⟨m_t, m_f, (⟨⟨m_xa, m_xb, m_xk⟩, ⟨m_ya, m_yb, m_yk⟩⟩ : P2)⟩ : M8) (⟨l_d, (⟨l_a, l_b, l_k⟩ : N3)⟩ : Ln)) := by unfold chk; rw [ec, k5]
      rw [k4, ec, ek]
      cases validB (mlX (⟨m_t, m_f, (⟨⟨m_xa, m_xb, m_xk⟩, ⟨m_ya, m_yb, m_yk⟩⟩ : P2)⟩ : M8) (⟨l_d, (⟨l_a, l_b, l_k⟩ : N3)⟩ : Ln)) <;> rfl
theorem m31 : Meets Tryd.prog GLv 31 s31 := by
  refine meetsN mix0 glv G124 Tryd.func31 (by kernel_rfl) (by kernel_rfl) s31 fun args x h => ?_
  unfold s31 at h
  split at h
  · rename_i m_t m_f m_xa m_xb m_xk m_ya m_yb m_yk l_d l_a l_b l_k
    simp only [Option.some.injEq, Prod.mk.injEq] at h
    obtain ⟨hp, rfl⟩ := h
    exact ⟨_, _, by kernel_rfl, e31 m_t m_f m_xa m_xb m_xk m_ya m_yb m_yk l_d l_a l_b l_k⟩
  · cases h
noncomputable abbrev Γ125 : List (Nat × Ctr) := (31, s31) :: Γ124
theorem G125 : Sound Tryd.prog GLv Γ125 := G124.cons m31

end Go.Proofs.YtigmgpblnoecpaaDoor
