/- Contracts of the program's functions, by the evaluator. -/
import Derived.Test.YtdildcdilhgdkaaGreatDoorC18
import Derived.Test.YtdildcdilhgdkaaGreatDoorPlE
namespace Go.Proofs.YtdildcdilhgdkaaGreatDoor
open Go.Ev
set_option linter.unusedVariables false
set_option linter.unusedSimpArgs false
set_option maxRecDepth 100000
-- impl.direction
noncomputable def s83v : Ctr := fun
  | [.agg [.val (.int .i64 p_xa), .val (.int .i64 p_xb), .val (.int .i64 p_xk), .val (.int .i64 p_ya), .val (.int .i64 p_yb), .val (.int .i64 p_yk)], .agg [.val (.int .i64 q_xa), .val (.int .i64 q_xb), .val (.int .i64 q_xk), .val (.int .i64 q_ya), .val (.int .i64 q_yb), .val (.int .i64 q_yk)]] => some (pkP (⟨⟨q_xa, q_xb, q_xk⟩, ⟨q_ya, q_yb, q_yk⟩⟩ : P2) (⟨⟨p_xa, p_xb, p_xk⟩, ⟨p_ya, p_yb, p_yk⟩⟩ : P2) && wayN (sP (⟨⟨q_xa, q_xb, q_xk⟩, ⟨q_ya, q_yb, q_yk⟩⟩ : P2) (⟨⟨p_xa, p_xb, p_xk⟩, ⟨p_ya, p_yb, p_yk⟩⟩ : P2)), iv (dirV (⟨⟨p_xa, p_xb, p_xk⟩, ⟨p_ya, p_yb, p_yk⟩⟩ : P2) (⟨⟨q_xa, q_xb, q_xk⟩, ⟨q_ya, q_yb, q_yk⟩⟩ : P2)))
  | _ => none
theorem r83v_step (K n : Nat) (d : Int) (w : P2) : runL Tryz.prog GLv Γ109 K kx23 Tryz.f83 0 (n + 1) (stL Tryz.f83.ntmps [.non, .non, .non, .non, .non, .own 35 [iv w.x.a, iv w.x.b, iv w.x.k, iv w.y.a, iv w.y.b, iv w.y.k], .non, .non, .non, .non, .non, iv (d)]) = cond (decide (d < 16)) (cond (inB d 0 15) (cond (pkC (vecP d) w) (cond (eqN (crsF (vecP d) w) z3)
    (cond (pkD (vecP d) w) (cond (sW (dotF (vecP d) w).a && sW (dotF (vecP d) w).b) (cond (decide (sgF (dotF (vecP d) w) > 0)) (some (iv d)) (runL Tryz.prog GLv Γ109 K kx23 Tryz.f83 0 n (stL Tryz.f83.ntmps [.non, .non, .non, .non, .non, .own 35 [iv w.x.a, iv w.x.b, iv w.x.k, iv w.y.a, iv w.y.b, iv w.y.k], .non, .non, .non, .non, .non, iv (wr (d + 1))]))) none) none) (runL Tryz.prog GLv Γ109 K kx23 Tryz.f83 0 n (stL Tryz.f83.ntmps [.non, .non, .non, .non, .non, .own 35 [iv w.x.a, iv w.x.b, iv w.x.k, iv w.y.a, iv w.y.b, iv w.y.k], .non, .non, .non, .non, .non, iv (wr (d + 1))]))) none) none) (some (iv (-1))) := by kernel_rfl
theorem r83v_run (K : Nat) (w : P2) (v : V4) (hw : WayN w v) : ∀ (n : Nat) (d : Int) (m : Nat), 0 <= d -> d + n = 16 -> n < m -> runL Tryz.prog GLv Γ109 K kx23 Tryz.f83 0 m (stL Tryz.f83.ntmps [.non, .non, .non, .non, .non, .own 35 [iv w.x.a, iv w.x.b, iv w.x.k, iv w.y.a, iv w.y.b, iv w.y.k], .non, .non, .non, .non, .non, iv (d)]) = some (iv (dirF n d w)) := by
  intro n
  induction n with
  | zero =>
    intro d m h0 h1 hm
    obtain ⟨m, rfl⟩ : ∃ m', m = m' + 1 := ⟨m - 1, by omega⟩
    rw [r83v_step, show decide (d < 16) = false by simp; omega]
    rfl
  | succ n ih =>
    intro d m h0 h1 hm
    obtain ⟨m, rfl⟩ : ∃ m', m = m' + 1 := ⟨m - 1, by omega⟩
    have hd : inB d 0 15 = true := inB_iff.2 (by omega)
    obtain ⟨k1, k2, k3, _, _⟩ := way_okN hd hw
    rw [r83v_step, show decide (d < 16) = true by simp; omega, hd, k1, k2, k3, wr_in (n := d + 1) (by omega) (by omega), ih (d + 1) m (by omega) (by omega) (by omega)]
    rw [dirF_succ]
    cases eqN (crsF (vecP d) w) z3 <;> cases decide (sgF (dotF (vecP d) w) > 0) <;> rfl
theorem e83v (p_xa : Int) (p_xb : Int) (p_xk : Int) (p_ya : Int) (p_yb : Int) (p_yk : Int) (q_xa : Int) (q_xb : Int) (q_xk : Int) (q_ya : Int) (q_yb : Int) (q_yk : Int) (hp : (pkP (⟨⟨q_xa, q_xb, q_xk⟩, ⟨q_ya, q_yb, q_yk⟩⟩ : P2) (⟨⟨p_xa, p_xb, p_xk⟩, ⟨p_ya, p_yb, p_yk⟩⟩ : P2) && wayN (sP (⟨⟨q_xa, q_xb, q_xk⟩, ⟨q_ya, q_yb, q_yk⟩⟩ : P2) (⟨⟨p_xa, p_xb, p_xk⟩, ⟨p_ya, p_yb, p_yk⟩⟩ : P2))) = true) : evN Tryz.prog GLv Γ109 (17) kx23  Tryz.f83 [.agg [.val (.int .i64 p_xa), .val (.int .i64 p_xb), .val (.int .i64 p_xk), .val (.int .i64 p_ya), .val (.int .i64 p_yb), .val (.int .i64 p_yk)], .agg [.val (.int .i64 q_xa), .val (.int .i64 q_xb), .val (.int .i64 q_xk), .val (.int .i64 q_ya), .val (.int .i64 q_yb), .val (.int .i64 q_yk)]] = some (iv (dirV (⟨⟨p_xa, p_xb, p_xk⟩, ⟨p_ya, p_yb, p_yk⟩⟩ : P2) (⟨⟨q_xa, q_xb, q_xk⟩, ⟨q_ya, q_yb, q_yk⟩⟩ : P2))) := by
  rw [Bool.and_eq_true, sP_eq] at hp
  obtain ⟨hk, hw⟩ := hp
  obtain ⟨v, hw⟩ := wayN_way hw
  refine (show _ = cond (pkP (⟨⟨q_xa, q_xb, q_xk⟩, ⟨q_ya, q_yb, q_yk⟩⟩ : P2) (⟨⟨p_xa, p_xb, p_xk⟩, ⟨p_ya, p_yb, p_yk⟩⟩ : P2)) (runL Tryz.prog GLv Γ109 17 kx23 Tryz.f83 0 17 (stL Tryz.f83.ntmps [.non, .non, .non, .non, .non, .own 35 [iv (subP (⟨⟨q_xa, q_xb, q_xk⟩, ⟨q_ya, q_yb, q_yk⟩⟩ : P2) (⟨⟨p_xa, p_xb, p_xk⟩, ⟨p_ya, p_yb, p_yk⟩⟩ : P2)).x.a, iv (subP (⟨⟨q_xa, q_xb, q_xk⟩, ⟨q_ya, q_yb, q_yk⟩⟩ : P2) (⟨⟨p_xa, p_xb, p_xk⟩, ⟨p_ya, p_yb, p_yk⟩⟩ : P2)).x.b, iv (subP (⟨⟨q_xa, q_xb, q_xk⟩, ⟨q_ya, q_yb, q_yk⟩⟩ : P2) (⟨⟨p_xa, p_xb, p_xk⟩, ⟨p_ya, p_yb, p_yk⟩⟩ : P2)).x.k, iv (subP (⟨⟨q_xa, q_xb, q_xk⟩, ⟨q_ya, q_yb, q_yk⟩⟩ : P2) (⟨⟨p_xa, p_xb, p_xk⟩, ⟨p_ya, p_yb, p_yk⟩⟩ : P2)).y.a, iv (subP (⟨⟨q_xa, q_xb, q_xk⟩, ⟨q_ya, q_yb, q_yk⟩⟩ : P2) (⟨⟨p_xa, p_xb, p_xk⟩, ⟨p_ya, p_yb, p_yk⟩⟩ : P2)).y.b, iv (subP (⟨⟨q_xa, q_xb, q_xk⟩, ⟨q_ya, q_yb, q_yk⟩⟩ : P2) (⟨⟨p_xa, p_xb, p_xk⟩, ⟨p_ya, p_yb, p_yk⟩⟩ : P2)).y.k], .non, .non, .non, .non, .non, iv (0)])) none from by kernel_rfl).trans ?_
  rw [hk, cond_true, r83v_run 17 (subP (⟨⟨q_xa, q_xb, q_xk⟩, ⟨q_ya, q_yb, q_yk⟩⟩ : P2) (⟨⟨p_xa, p_xb, p_xk⟩, ⟨p_ya, p_yb, p_yk⟩⟩ : P2)) _ hw 16 0 17 (by decide) (by decide) (by decide)]
  rfl
theorem m83v : Meets Tryz.prog GLv 83 s83v := by
  refine meetsN mix0 glv G109 Tryz.func83 (by kernel_rfl) (by kernel_rfl) s83v fun args x h => ?_
  unfold s83v at h
  split at h
  . rename_i p_xa p_xb p_xk p_ya p_yb p_yk q_xa q_xb q_xk q_ya q_yb q_yk
    simp only [Option.some.injEq, Prod.mk.injEq] at h
    obtain ⟨hp, rfl⟩ := h
    exact ⟨_, _, by kernel_rfl, e83v p_xa p_xb p_xk p_ya p_yb p_yk q_xa q_xb q_xk q_ya q_yb q_yk hp⟩
  . cases h
noncomputable abbrev Γ110 : List (Nat × Ctr) := (83, s83v) :: Γ109
theorem G110 : Sound Tryz.prog GLv Γ110 := G109.cons m83v
-- (impl.Line).side
noncomputable def s29v : Ctr := fun
  | [.agg [.val (.int .i64 l_d), .val (.int .i64 l_a), .val (.int .i64 l_b), .val (.int .i64 l_k)], .agg [.val (.int .i64 p_xa), .val (.int .i64 p_xb), .val (.int .i64 p_xk), .val (.int .i64 p_ya), .val (.int .i64 p_yb), .val (.int .i64 p_yk)]] => some ((inB (wr (l_d + 4)) 0 15) && ((pkD (nrm l_d) (⟨⟨p_xa, p_xb, p_xk⟩, ⟨p_ya, p_yb, p_yk⟩⟩ : P2)) && ((pk (dotF (nrm l_d) (⟨⟨p_xa, p_xb, p_xk⟩, ⟨p_ya, p_yb, p_yk⟩⟩ : P2)) (⟨l_a, l_b, l_k⟩ : N3)) && (sW (subF (dotF (nrm l_d) (⟨⟨p_xa, p_xb, p_xk⟩, ⟨p_ya, p_yb, p_yk⟩⟩ : P2)) (⟨l_a, l_b, l_k⟩ : N3)).a && sW (subF (dotF (nrm l_d) (⟨⟨p_xa, p_xb, p_xk⟩, ⟨p_ya, p_yb, p_yk⟩⟩ : P2)) (⟨l_a, l_b, l_k⟩ : N3)).b))), iv (sgF (subF (dotF (nrm l_d) (⟨⟨p_xa, p_xb, p_xk⟩, ⟨p_ya, p_yb, p_yk⟩⟩ : P2)) (⟨l_a, l_b, l_k⟩ : N3))))
  | _ => none
theorem e29v (l_d : Int) (l_a : Int) (l_b : Int) (l_k : Int) (p_xa : Int) (p_xb : Int) (p_xk : Int) (p_ya : Int) (p_yb : Int) (p_yk : Int) (hp : ((inB (wr (l_d + 4)) 0 15) && ((pkD (nrm l_d) (⟨⟨p_xa, p_xb, p_xk⟩, ⟨p_ya, p_yb, p_yk⟩⟩ : P2)) && ((pk (dotF (nrm l_d) (⟨⟨p_xa, p_xb, p_xk⟩, ⟨p_ya, p_yb, p_yk⟩⟩ : P2)) (⟨l_a, l_b, l_k⟩ : N3)) && (sW (subF (dotF (nrm l_d) (⟨⟨p_xa, p_xb, p_xk⟩, ⟨p_ya, p_yb, p_yk⟩⟩ : P2)) (⟨l_a, l_b, l_k⟩ : N3)).a && sW (subF (dotF (nrm l_d) (⟨⟨p_xa, p_xb, p_xk⟩, ⟨p_ya, p_yb, p_yk⟩⟩ : P2)) (⟨l_a, l_b, l_k⟩ : N3)).b)))) = true) : evN Tryz.prog GLv Γ110 (0) []  Tryz.f29 [.agg [.val (.int .i64 l_d), .val (.int .i64 l_a), .val (.int .i64 l_b), .val (.int .i64 l_k)], .agg [.val (.int .i64 p_xa), .val (.int .i64 p_xb), .val (.int .i64 p_xk), .val (.int .i64 p_ya), .val (.int .i64 p_yb), .val (.int .i64 p_yk)]] = some (iv (sgF (subF (dotF (nrm l_d) (⟨⟨p_xa, p_xb, p_xk⟩, ⟨p_ya, p_yb, p_yk⟩⟩ : P2)) (⟨l_a, l_b, l_k⟩ : N3)))) := by
  simp only [Bool.and_eq_true] at hp
  obtain ⟨h1, h2, h3, h4, h5⟩ := hp
  refine (show _ = cond (inB (wr (l_d + 4)) 0 15) (cond (pkD (nrm l_d) (⟨⟨p_xa, p_xb, p_xk⟩, ⟨p_ya, p_yb, p_yk⟩⟩ : P2)) (cond (pk (dotF (nrm l_d) (⟨⟨p_xa, p_xb, p_xk⟩, ⟨p_ya, p_yb, p_yk⟩⟩ : P2)) (⟨l_a, l_b, l_k⟩ : N3)) (cond (sW (subF (dotF (nrm l_d) (⟨⟨p_xa, p_xb, p_xk⟩, ⟨p_ya, p_yb, p_yk⟩⟩ : P2)) (⟨l_a, l_b, l_k⟩ : N3)).a && sW (subF (dotF (nrm l_d) (⟨⟨p_xa, p_xb, p_xk⟩, ⟨p_ya, p_yb, p_yk⟩⟩ : P2)) (⟨l_a, l_b, l_k⟩ : N3)).b) (some (iv (sgF (subF (dotF (nrm l_d) (⟨⟨p_xa, p_xb, p_xk⟩, ⟨p_ya, p_yb, p_yk⟩⟩ : P2)) (⟨l_a, l_b, l_k⟩ : N3))))) none) none) none) none from by kernel_rfl).trans ?_
  rw [h1, h2, h3, h4, h5]
  rfl
theorem m29v : Meets Tryz.prog GLv 29 s29v := by
  refine meetsN mix0 glv G110 Tryz.func29 (by kernel_rfl) (by kernel_rfl) s29v fun args x h => ?_
  unfold s29v at h
  split at h
  . rename_i l_d l_a l_b l_k p_xa p_xb p_xk p_ya p_yb p_yk
    simp only [Option.some.injEq, Prod.mk.injEq] at h
    obtain ⟨hp, rfl⟩ := h
    exact ⟨_, _, by kernel_rfl, e29v l_d l_a l_b l_k p_xa p_xb p_xk p_ya p_yb p_yk hp⟩
  . cases h
noncomputable abbrev Γ111 : List (Nat × Ctr) := (29, s29v) :: Γ110
theorem G111 : Sound Tryz.prog GLv Γ111 := G110.cons m29v
-- spec.l02Side
noncomputable def s93v : Ctr := fun
  | [.agg [.val (.int .i64 l_d), .val (.int .i64 l_a), .val (.int .i64 l_b), .val (.int .i64 l_k)], .agg [.val (.int .i64 p_xa), .val (.int .i64 p_xb), .val (.int .i64 p_xk), .val (.int .i64 p_ya), .val (.int .i64 p_yb), .val (.int .i64 p_yk)]] => some ((inB (wr (l_d + 4)) 0 15 && pkD (nrm l_d) (⟨⟨p_xa, p_xb, p_xk⟩, ⟨p_ya, p_yb, p_yk⟩⟩ : P2)) && ((pk (dotF (nrm l_d) (⟨⟨p_xa, p_xb, p_xk⟩, ⟨p_ya, p_yb, p_yk⟩⟩ : P2)) (⟨l_a, l_b, l_k⟩ : N3)) && (sW (subF (dotF (nrm l_d) (⟨⟨p_xa, p_xb, p_xk⟩, ⟨p_ya, p_yb, p_yk⟩⟩ : P2)) (⟨l_a, l_b, l_k⟩ : N3)).a && sW (subF (dotF (nrm l_d) (⟨⟨p_xa, p_xb, p_xk⟩, ⟨p_ya, p_yb, p_yk⟩⟩ : P2)) (⟨l_a, l_b, l_k⟩ : N3)).b)), iv (sgF (subF (dotF (nrm l_d) (⟨⟨p_xa, p_xb, p_xk⟩, ⟨p_ya, p_yb, p_yk⟩⟩ : P2)) (⟨l_a, l_b, l_k⟩ : N3))))
  | _ => none
theorem e93v (l_d : Int) (l_a : Int) (l_b : Int) (l_k : Int) (p_xa : Int) (p_xb : Int) (p_xk : Int) (p_ya : Int) (p_yb : Int) (p_yk : Int) (hp : ((inB (wr (l_d + 4)) 0 15 && pkD (nrm l_d) (⟨⟨p_xa, p_xb, p_xk⟩, ⟨p_ya, p_yb, p_yk⟩⟩ : P2)) && ((pk (dotF (nrm l_d) (⟨⟨p_xa, p_xb, p_xk⟩, ⟨p_ya, p_yb, p_yk⟩⟩ : P2)) (⟨l_a, l_b, l_k⟩ : N3)) && (sW (subF (dotF (nrm l_d) (⟨⟨p_xa, p_xb, p_xk⟩, ⟨p_ya, p_yb, p_yk⟩⟩ : P2)) (⟨l_a, l_b, l_k⟩ : N3)).a && sW (subF (dotF (nrm l_d) (⟨⟨p_xa, p_xb, p_xk⟩, ⟨p_ya, p_yb, p_yk⟩⟩ : P2)) (⟨l_a, l_b, l_k⟩ : N3)).b))) = true) : evN Tryz.prog GLv Γ111 (0) []  Tryz.f93 [.agg [.val (.int .i64 l_d), .val (.int .i64 l_a), .val (.int .i64 l_b), .val (.int .i64 l_k)], .agg [.val (.int .i64 p_xa), .val (.int .i64 p_xb), .val (.int .i64 p_xk), .val (.int .i64 p_ya), .val (.int .i64 p_yb), .val (.int .i64 p_yk)]] = some (iv (sgF (subF (dotF (nrm l_d) (⟨⟨p_xa, p_xb, p_xk⟩, ⟨p_ya, p_yb, p_yk⟩⟩ : P2)) (⟨l_a, l_b, l_k⟩ : N3)))) := by
  simp only [Bool.and_eq_true] at hp
  obtain ⟨⟨h1, h2⟩, h3, h4, h5⟩ := hp
  have w := inB_iff.1 h1
  have e : wr (l_d + 4) % 16 = wr (l_d + 4) := by omega
  refine (show _ = cond (inB (wr (l_d + 4)) 0 19 && pkD (vecP (wr (l_d + 4) % 16)) (⟨⟨p_xa, p_xb, p_xk⟩, ⟨p_ya, p_yb, p_yk⟩⟩ : P2)) (cond (pk (dotF (vecP (wr (l_d + 4) % 16)) (⟨⟨p_xa, p_xb, p_xk⟩, ⟨p_ya, p_yb, p_yk⟩⟩ : P2)) (⟨l_a, l_b, l_k⟩ : N3)) (cond (sW (subF (dotF (vecP (wr (l_d + 4) % 16)) (⟨⟨p_xa, p_xb, p_xk⟩, ⟨p_ya, p_yb, p_yk⟩⟩ : P2)) (⟨l_a, l_b, l_k⟩ : N3)).a && sW (subF (dotF (vecP (wr (l_d + 4) % 16)) (⟨⟨p_xa, p_xb, p_xk⟩, ⟨p_ya, p_yb, p_yk⟩⟩ : P2)) (⟨l_a, l_b, l_k⟩ : N3)).b) (some (iv (sgF (subF (dotF (vecP (wr (l_d + 4) % 16)) (⟨⟨p_xa, p_xb, p_xk⟩, ⟨p_ya, p_yb, p_yk⟩⟩ : P2)) (⟨l_a, l_b, l_k⟩ : N3))))) (none)) (none)) (none) from by kernel_rfl).trans ?_
  rw [e, show inB (wr (l_d + 4)) 0 19 = true from inB_iff.2 (by omega), show pkD (vecP (wr (l_d + 4))) (⟨⟨p_xa, p_xb, p_xk⟩, ⟨p_ya, p_yb, p_yk⟩⟩ : P2) = true from h2, show pk (dotF (vecP (wr (l_d + 4))) (⟨⟨p_xa, p_xb, p_xk⟩, ⟨p_ya, p_yb, p_yk⟩⟩ : P2)) (⟨l_a, l_b, l_k⟩ : N3) = true from h3, show sW (subF (dotF (vecP (wr (l_d + 4))) (⟨⟨p_xa, p_xb, p_xk⟩, ⟨p_ya, p_yb, p_yk⟩⟩ : P2)) (⟨l_a, l_b, l_k⟩ : N3)).a = true from h4, show sW (subF (dotF (vecP (wr (l_d + 4))) (⟨⟨p_xa, p_xb, p_xk⟩, ⟨p_ya, p_yb, p_yk⟩⟩ : P2)) (⟨l_a, l_b, l_k⟩ : N3)).b = true from h5]
  rfl
theorem m93v : Meets Tryz.prog GLv 93 s93v := by
  refine meetsN mix0 glv G111 Tryz.func93 (by kernel_rfl) (by kernel_rfl) s93v fun args x h => ?_
  unfold s93v at h
  split at h
  . rename_i l_d l_a l_b l_k p_xa p_xb p_xk p_ya p_yb p_yk
    simp only [Option.some.injEq, Prod.mk.injEq] at h
    obtain ⟨hp, rfl⟩ := h
    exact ⟨_, _, by kernel_rfl, e93v l_d l_a l_b l_k p_xa p_xb p_xk p_ya p_yb p_yk hp⟩
  . cases h
noncomputable abbrev Γ112 : List (Nat × Ctr) := (93, s93v) :: Γ111
theorem G112 : Sound Tryz.prog GLv Γ112 := G111.cons m93v
-- spec.l02Direction
noncomputable def s75v : Ctr := fun
  | [.agg [.val (.int .i64 w_xa), .val (.int .i64 w_xb), .val (.int .i64 w_xk), .val (.int .i64 w_ya), .val (.int .i64 w_yb), .val (.int .i64 w_yk)]] => some (wayN (⟨⟨w_xa, w_xb, w_xk⟩, ⟨w_ya, w_yb, w_yk⟩⟩ : P2), iv (dirF 16 0 (⟨⟨w_xa, w_xb, w_xk⟩, ⟨w_ya, w_yb, w_yk⟩⟩ : P2)))
  | _ => none
theorem r75v_step (K n : Nat) (d : Int) (w : P2) : runL Tryz.prog GLv Γ112 K kx24 Tryz.f75 0 (n + 1) (stL Tryz.f75.ntmps [.non, .own 100 [iv w.x.a, iv w.x.b, iv w.x.k, iv w.y.a, iv w.y.b, iv w.y.k], .non, iv (d)]) = cond (decide (d < 16)) (cond (inB (wr (d + 4)) 0 19 && pkD (vecP (wr (d + 4) % 16)) w) (cond (zroN (dotF (vecP (wr (d + 4) % 16)) w))
    (cond (inB d 0 19 && pkD (vecP (d % 16)) w) (cond (sW (dotF (vecP (d % 16)) w).a && sW (dotF (vecP (d % 16)) w).b) (cond (decide (sgF (dotF (vecP (d % 16)) w) > 0)) (some (iv d)) (runL Tryz.prog GLv Γ112 K kx24 Tryz.f75 0 n (stL Tryz.f75.ntmps [.non, .own 100 [iv w.x.a, iv w.x.b, iv w.x.k, iv w.y.a, iv w.y.b, iv w.y.k], .non, iv (wr (d + 1))]))) none) none) (runL Tryz.prog GLv Γ112 K kx24 Tryz.f75 0 n (stL Tryz.f75.ntmps [.non, .own 100 [iv w.x.a, iv w.x.b, iv w.x.k, iv w.y.a, iv w.y.b, iv w.y.k], .non, iv (wr (d + 1))]))) none) (some (iv (-1))) := by kernel_rfl
theorem r75v_run (K : Nat) (w : P2) (v : V4) (hw : WayN w v) : ∀ (n : Nat) (d : Int) (m : Nat), 0 <= d -> d + n = 16 -> n < m -> runL Tryz.prog GLv Γ112 K kx24 Tryz.f75 0 m (stL Tryz.f75.ntmps [.non, .own 100 [iv w.x.a, iv w.x.b, iv w.x.k, iv w.y.a, iv w.y.b, iv w.y.k], .non, iv (d)]) = some (iv (dirF n d w)) := by
  intro n
  induction n with
  | zero =>
    intro d m h0 h1 hm
    obtain ⟨m, rfl⟩ : ∃ m', m = m' + 1 := ⟨m - 1, by omega⟩
    rw [r75v_step, show decide (d < 16) = false by simp; omega]
    rfl
  | succ n ih =>
    intro d m h0 h1 hm
    obtain ⟨m, rfl⟩ : ∃ m', m = m' + 1 := ⟨m - 1, by omega⟩
    have hd : inB d 0 15 = true := inB_iff.2 (by omega)
    have hd4 : inB ((d + 4) % 16) 0 15 = true := inB_iff.2 (by omega)
    obtain ⟨k1, k2, k3, _, _⟩ := way_okN hd hw
    obtain ⟨_, k4, _, _, _⟩ := way_okN hd4 hw
    rw [r75v_step, show decide (d < 16) = true by simp; omega, wr_in (n := d + 4) (by omega) (by omega), show inB (d + 4) 0 19 = true from inB_iff.2 (by omega), show inB d 0 19 = true from inB_iff.2 (by omega), k4,
      mod_small hd, k2, k3, zro_perpN hd hw, wr_in (n := d + 1) (by omega) (by omega), ih (d + 1) m (by omega) (by omega) (by omega)]
    rw [dirF_succ]
    cases eqN (crsF (vecP d) w) z3 <;> cases decide (sgF (dotF (vecP d) w) > 0) <;> rfl
theorem e75v (w_xa : Int) (w_xb : Int) (w_xk : Int) (w_ya : Int) (w_yb : Int) (w_yk : Int) (hp : (wayN (⟨⟨w_xa, w_xb, w_xk⟩, ⟨w_ya, w_yb, w_yk⟩⟩ : P2)) = true) : evN Tryz.prog GLv Γ112 (17) kx24  Tryz.f75 [.agg [.val (.int .i64 w_xa), .val (.int .i64 w_xb), .val (.int .i64 w_xk), .val (.int .i64 w_ya), .val (.int .i64 w_yb), .val (.int .i64 w_yk)]] = some (iv (dirF 16 0 (⟨⟨w_xa, w_xb, w_xk⟩, ⟨w_ya, w_yb, w_yk⟩⟩ : P2))) := by
  obtain ⟨v, hw⟩ := wayN_way hp
  refine (show _ = runL Tryz.prog GLv Γ112 17 kx24 Tryz.f75 0 17 (stL Tryz.f75.ntmps [.non, .own 100 [iv (⟨⟨w_xa, w_xb, w_xk⟩, ⟨w_ya, w_yb, w_yk⟩⟩ : P2).x.a, iv (⟨⟨w_xa, w_xb, w_xk⟩, ⟨w_ya, w_yb, w_yk⟩⟩ : P2).x.b, iv (⟨⟨w_xa, w_xb, w_xk⟩, ⟨w_ya, w_yb, w_yk⟩⟩ : P2).x.k, iv (⟨⟨w_xa, w_xb, w_xk⟩, ⟨w_ya, w_yb, w_yk⟩⟩ : P2).y.a, iv (⟨⟨w_xa, w_xb, w_xk⟩, ⟨w_ya, w_yb, w_yk⟩⟩ : P2).y.b, iv (⟨⟨w_xa, w_xb, w_xk⟩, ⟨w_ya, w_yb, w_yk⟩⟩ : P2).y.k], .non, iv (0)]) from by kernel_rfl).trans ?_
  rw [r75v_run 17 (⟨⟨w_xa, w_xb, w_xk⟩, ⟨w_ya, w_yb, w_yk⟩⟩ : P2) _ hw 16 0 17 (by decide) (by decide) (by decide)]
theorem m75v : Meets Tryz.prog GLv 75 s75v := by
  refine meetsN mix0 glv G112 Tryz.func75 (by kernel_rfl) (by kernel_rfl) s75v fun args x h => ?_
  unfold s75v at h
  split at h
  . rename_i w_xa w_xb w_xk w_ya w_yb w_yk
    simp only [Option.some.injEq, Prod.mk.injEq] at h
    obtain ⟨hp, rfl⟩ := h
    exact ⟨_, _, by kernel_rfl, e75v w_xa w_xb w_xk w_ya w_yb w_yk hp⟩
  . cases h
noncomputable abbrev Γ113 : List (Nat × Ctr) := (75, s75v) :: Γ112
theorem G113 : Sound Tryz.prog GLv Γ113 := G112.cons m75v
-- impl.sideLine
noncomputable def s52v : Ctr := fun
  | [.agg [.val (.int .i64 p_xa), .val (.int .i64 p_xb), .val (.int .i64 p_xk), .val (.int .i64 p_ya), .val (.int .i64 p_yb), .val (.int .i64 p_yk)], .agg [.val (.int .i64 q_xa), .val (.int .i64 q_xb), .val (.int .i64 q_xk), .val (.int .i64 q_ya), .val (.int .i64 q_yb), .val (.int .i64 q_yk)]] => some ((pkP (⟨⟨q_xa, q_xb, q_xk⟩, ⟨q_ya, q_yb, q_yk⟩⟩ : P2) (⟨⟨p_xa, p_xb, p_xk⟩, ⟨p_ya, p_yb, p_yk⟩⟩ : P2) && wayN (sP (⟨⟨q_xa, q_xb, q_xk⟩, ⟨q_ya, q_yb, q_yk⟩⟩ : P2) (⟨⟨p_xa, p_xb, p_xk⟩, ⟨p_ya, p_yb, p_yk⟩⟩ : P2))) && (inB (dirV (⟨⟨p_xa, p_xb, p_xk⟩, ⟨p_ya, p_yb, p_yk⟩⟩ : P2) (⟨⟨q_xa, q_xb, q_xk⟩, ⟨q_ya, q_yb, q_yk⟩⟩ : P2)) 0 15 && pkD (nrm ((dirV (⟨⟨p_xa, p_xb, p_xk⟩, ⟨p_ya, p_yb, p_yk⟩⟩ : P2) (⟨⟨q_xa, q_xb, q_xk⟩, ⟨q_ya, q_yb, q_yk⟩⟩ : P2)) % 8)) (⟨⟨p_xa, p_xb, p_xk⟩, ⟨p_ya, p_yb, p_yk⟩⟩ : P2)), .tup [(⟨(dirV (⟨⟨p_xa, p_xb, p_xk⟩, ⟨p_ya, p_yb, p_yk⟩⟩ : P2) (⟨⟨q_xa, q_xb, q_xk⟩, ⟨q_ya, q_yb, q_yk⟩⟩ : P2)) % 8, offV ((dirV (⟨⟨p_xa, p_xb, p_xk⟩, ⟨p_ya, p_yb, p_yk⟩⟩ : P2) (⟨⟨q_xa, q_xb, q_xk⟩, ⟨q_ya, q_yb, q_yk⟩⟩ : P2)) % 8) (⟨⟨p_xa, p_xb, p_xk⟩, ⟨p_ya, p_yb, p_yk⟩⟩ : P2)⟩ : Ln).av, bv (decide ((dirV (⟨⟨p_xa, p_xb, p_xk⟩, ⟨p_ya, p_yb, p_yk⟩⟩ : P2) (⟨⟨q_xa, q_xb, q_xk⟩, ⟨q_ya, q_yb, q_yk⟩⟩ : P2)) < 8))])
  | _ => none
theorem e52v (p_xa : Int) (p_xb : Int) (p_xk : Int) (p_ya : Int) (p_yb : Int) (p_yk : Int) (q_xa : Int) (q_xb : Int) (q_xk : Int) (q_ya : Int) (q_yb : Int) (q_yk : Int) (hp : ((pkP (⟨⟨q_xa, q_xb, q_xk⟩, ⟨q_ya, q_yb, q_yk⟩⟩ : P2) (⟨⟨p_xa, p_xb, p_xk⟩, ⟨p_ya, p_yb, p_yk⟩⟩ : P2) && wayN (sP (⟨⟨q_xa, q_xb, q_xk⟩, ⟨q_ya, q_yb, q_yk⟩⟩ : P2) (⟨⟨p_xa, p_xb, p_xk⟩, ⟨p_ya, p_yb, p_yk⟩⟩ : P2))) && (inB (dirV (⟨⟨p_xa, p_xb, p_xk⟩, ⟨p_ya, p_yb, p_yk⟩⟩ : P2) (⟨⟨q_xa, q_xb, q_xk⟩, ⟨q_ya, q_yb, q_yk⟩⟩ : P2)) 0 15 && pkD (nrm ((dirV (⟨⟨p_xa, p_xb, p_xk⟩, ⟨p_ya, p_yb, p_yk⟩⟩ : P2) (⟨⟨q_xa, q_xb, q_xk⟩, ⟨q_ya, q_yb, q_yk⟩⟩ : P2)) % 8)) (⟨⟨p_xa, p_xb, p_xk⟩, ⟨p_ya, p_yb, p_yk⟩⟩ : P2))) = true) : evN Tryz.prog GLv Γ113 (0) []  Tryz.f52 [.agg [.val (.int .i64 p_xa), .val (.int .i64 p_xb), .val (.int .i64 p_xk), .val (.int .i64 p_ya), .val (.int .i64 p_yb), .val (.int .i64 p_yk)], .agg [.val (.int .i64 q_xa), .val (.int .i64 q_xb), .val (.int .i64 q_xk), .val (.int .i64 q_ya), .val (.int .i64 q_yb), .val (.int .i64 q_yk)]] = some (.tup [(⟨(dirV (⟨⟨p_xa, p_xb, p_xk⟩, ⟨p_ya, p_yb, p_yk⟩⟩ : P2) (⟨⟨q_xa, q_xb, q_xk⟩, ⟨q_ya, q_yb, q_yk⟩⟩ : P2)) % 8, offV ((dirV (⟨⟨p_xa, p_xb, p_xk⟩, ⟨p_ya, p_yb, p_yk⟩⟩ : P2) (⟨⟨q_xa, q_xb, q_xk⟩, ⟨q_ya, q_yb, q_yk⟩⟩ : P2)) % 8) (⟨⟨p_xa, p_xb, p_xk⟩, ⟨p_ya, p_yb, p_yk⟩⟩ : P2)⟩ : Ln).av, bv (decide ((dirV (⟨⟨p_xa, p_xb, p_xk⟩, ⟨p_ya, p_yb, p_yk⟩⟩ : P2) (⟨⟨q_xa, q_xb, q_xk⟩, ⟨q_ya, q_yb, q_yk⟩⟩ : P2)) < 8))]) := by
  simp only [Bool.and_eq_true] at hp
  obtain ⟨⟨h1, h2⟩, h3, h4⟩ := hp
  have k := inB_iff.1 h3
  refine (show _ = cond (pkP (⟨⟨q_xa, q_xb, q_xk⟩, ⟨q_ya, q_yb, q_yk⟩⟩ : P2) (⟨⟨p_xa, p_xb, p_xk⟩, ⟨p_ya, p_yb, p_yk⟩⟩ : P2) && wayN (sP (⟨⟨q_xa, q_xb, q_xk⟩, ⟨q_ya, q_yb, q_yk⟩⟩ : P2) (⟨⟨p_xa, p_xb, p_xk⟩, ⟨p_ya, p_yb, p_yk⟩⟩ : P2))) (cond (inB (wr (((dirV (⟨⟨p_xa, p_xb, p_xk⟩, ⟨p_ya, p_yb, p_yk⟩⟩ : P2) (⟨⟨q_xa, q_xb, q_xk⟩, ⟨q_ya, q_yb, q_yk⟩⟩ : P2)).tmod 8) + 4)) 0 15 && pkD (nrm ((dirV (⟨⟨p_xa, p_xb, p_xk⟩, ⟨p_ya, p_yb, p_yk⟩⟩ : P2) (⟨⟨q_xa, q_xb, q_xk⟩, ⟨q_ya, q_yb, q_yk⟩⟩ : P2)).tmod 8)) (⟨⟨p_xa, p_xb, p_xk⟩, ⟨p_ya, p_yb, p_yk⟩⟩ : P2)) (some (.tup [(⟨((dirV (⟨⟨p_xa, p_xb, p_xk⟩, ⟨p_ya, p_yb, p_yk⟩⟩ : P2) (⟨⟨q_xa, q_xb, q_xk⟩, ⟨q_ya, q_yb, q_yk⟩⟩ : P2)).tmod 8), offV ((dirV (⟨⟨p_xa, p_xb, p_xk⟩, ⟨p_ya, p_yb, p_yk⟩⟩ : P2) (⟨⟨q_xa, q_xb, q_xk⟩, ⟨q_ya, q_yb, q_yk⟩⟩ : P2)).tmod 8) (⟨⟨p_xa, p_xb, p_xk⟩, ⟨p_ya, p_yb, p_yk⟩⟩ : P2)⟩ : Ln).av, bv (decide ((dirV (⟨⟨p_xa, p_xb, p_xk⟩, ⟨p_ya, p_yb, p_yk⟩⟩ : P2) (⟨⟨q_xa, q_xb, q_xk⟩, ⟨q_ya, q_yb, q_yk⟩⟩ : P2)) < 8))])) (none)) (none) from by kernel_rfl).trans ?_
  rw [h1, h2, show ((dirV (⟨⟨p_xa, p_xb, p_xk⟩, ⟨p_ya, p_yb, p_yk⟩⟩ : P2) (⟨⟨q_xa, q_xb, q_xk⟩, ⟨q_ya, q_yb, q_yk⟩⟩ : P2)).tmod 8) = (dirV (⟨⟨p_xa, p_xb, p_xk⟩, ⟨p_ya, p_yb, p_yk⟩⟩ : P2) (⟨⟨q_xa, q_xb, q_xk⟩, ⟨q_ya, q_yb, q_yk⟩⟩ : P2)) % 8 from Int.tmod_eq_emod_of_nonneg (by omega), nrm_in (d := (dirV (⟨⟨p_xa, p_xb, p_xk⟩, ⟨p_ya, p_yb, p_yk⟩⟩ : P2) (⟨⟨q_xa, q_xb, q_xk⟩, ⟨q_ya, q_yb, q_yk⟩⟩ : P2)) % 8) (inB_iff.2 (by omega)), h4]
  rfl
theorem m52v : Meets Tryz.prog GLv 52 s52v := by
  refine meetsN mix0 glv G113 Tryz.func52 (by kernel_rfl) (by kernel_rfl) s52v fun args x h => ?_
  unfold s52v at h
  split at h
  . rename_i p_xa p_xb p_xk p_ya p_yb p_yk q_xa q_xb q_xk q_ya q_yb q_yk
    simp only [Option.some.injEq, Prod.mk.injEq] at h
    obtain ⟨hp, rfl⟩ := h
    exact ⟨_, _, by kernel_rfl, e52v p_xa p_xb p_xk p_ya p_yb p_yk q_xa q_xb q_xk q_ya q_yb q_yk hp⟩
  . cases h
noncomputable abbrev Γ114 : List (Nat × Ctr) := (52, s52v) :: Γ113
theorem G114 : Sound Tryz.prog GLv Γ114 := G113.cons m52v
end Go.Proofs.YtdildcdilhgdkaaGreatDoor
