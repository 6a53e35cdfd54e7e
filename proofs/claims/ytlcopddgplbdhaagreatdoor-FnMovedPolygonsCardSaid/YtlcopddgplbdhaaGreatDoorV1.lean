/- Contracts of the program's functions, by the evaluator. -/
import Derived.Test.YtlcopddgplbdhaaGreatDoorT7
import Derived.Test.YtlcopddgplbdhaaGreatDoorPlF
import Derived.Test.YtlcopddgplbdhaaGreatDoorPlS
namespace Go.Proofs.YtlcopddgplbdhaaGreatDoor
open Go.Ev
set_option linter.unusedVariables false
set_option linter.unusedSimpArgs false
set_option maxRecDepth 100000
theorem in_step (K n a_n i : Nat) (a_c e_c : NNI) (q : P2) (x : Int) : runW Tryz.prog GLv Γ143 K (cfgK kx6) [.arr a_n K6x a_c, .arr a_n [.int .i64] e_c, q.av] Tryz.f33 0 (n + 1) (stL Tryz.f33.ntmps [.arr a_n K6x a_c, .arr a_n [.int .i64] e_c, .non, .non, .non, .own 69 [iv q.x.a, iv q.x.b, iv q.x.k, iv q.y.a, iv q.y.b, iv q.y.k], .non, iv (x), iv ((i : Int))]) = cond (decide ((i : Int) < (a_n : Int))) (cond ((decide (0 <= (i : Int)) && decide ((i : Int) < (a_n : Int)))) (cond ((decide (0 <= (i : Int)) && decide ((i : Int) < (a_n : Int)))) (cond (pkP q (pAt a_c i)) (cond (inB (wr (e_c i 0 + 4)) 0 19 && pkD (vecP ((wr (e_c i 0 + 4)) % 16)) (subP q (pAt a_c i))) (cond (sW (dotF (vecP ((wr (e_c i 0 + 4)) % 16)) (subP q (pAt a_c i))).a && sW (dotF (vecP ((wr (e_c i 0 + 4)) % 16)) (subP q (pAt a_c i))).b) (cond (decide (sgF (dotF (vecP ((wr (e_c i 0 + 4)) % 16)) (subP q (pAt a_c i))) < x)) (runW Tryz.prog GLv Γ143 K (cfgK kx6) [.arr a_n K6x a_c, .arr a_n [.int .i64] e_c, q.av] Tryz.f33 0 n (stL Tryz.f33.ntmps [.arr a_n K6x a_c, .arr a_n [.int .i64] e_c, .non, .non, .non, .own 69 [iv q.x.a, iv q.x.b, iv q.x.k, iv q.y.a, iv q.y.b, iv q.y.k], .non, iv (sgF (dotF (vecP ((wr (e_c i 0 + 4)) % 16)) (subP q (pAt a_c i)))), iv (wr ((i : Int) + 1))])) (runW Tryz.prog GLv Γ143 K (cfgK kx6) [.arr a_n K6x a_c, .arr a_n [.int .i64] e_c, q.av] Tryz.f33 0 n (stL Tryz.f33.ntmps [.arr a_n K6x a_c, .arr a_n [.int .i64] e_c, .non, .non, .non, .own 69 [iv q.x.a, iv q.x.b, iv q.x.k, iv q.y.a, iv q.y.b, iv q.y.k], .non, iv (x), iv (wr ((i : Int) + 1))]))) (none)) (none)) (none)) (none)) (none)) (some (iv x)) := by kernel_rfl
theorem in_run (K a_n : Nat) (a_c e_c : NNI) (q : P2) (hn : a_n <= 1000) (hd : ∀ i, i < a_n -> e_c i 0 = dirA a_n a_c i) (hs : ∀ i, i < a_n -> InSide a_n a_c q i) : ∀ (r i n : Nat) (x : Int), i + r = a_n -> r < n -> runW Tryz.prog GLv Γ143 K (cfgK kx6) [.arr a_n K6x a_c, .arr a_n [.int .i64] e_c, q.av] Tryz.f33 0 n (stL Tryz.f33.ntmps [.arr a_n K6x a_c, .arr a_n [.int .i64] e_c, .non, .non, .non, .own 69 [iv q.x.a, iv q.x.b, iv q.x.k, iv q.y.a, iv q.y.b, iv q.y.k], .non, iv (x), iv ((i : Int))]) = some (iv (insF a_n a_c q i r x)) := by
 intro r
 induction r with
 | zero =>
  intro i n x h1 h2
  obtain ⟨n, rfl⟩ : ∃ n', n = n' + 1 := ⟨n - 1, by omega⟩
  rw [in_step, nat_lt i a_n, show decide (i < a_n) = false by simp; omega]
  rfl
 | succ r ih =>
  intro i n x h1 h2
  obtain ⟨n, rfl⟩ : ∃ n', n = n' + 1 := ⟨n - 1, by omega⟩
  have H := hs i (by omega)
  rw [in_step, nat_nn, nat_lt i a_n, show decide (i < a_n) = true by simp; omega, hd i (by omega), H.k, H.d, H.s, H.e, wr_succ (by omega)]
  simp only [Bool.and_self, cond_true]
  rw [show insF a_n a_c q i (r + 1) x = insF a_n a_c q (i + 1) r (min x (orV (pAt a_c i) (pAt a_c ((i + 1) % a_n)) q)) from rfl]
  by_cases h : orV (pAt a_c i) (pAt a_c ((i + 1) % a_n)) q < x
  ·rw [decide_eq_true h, cond_true, ih (i + 1) n _ (by omega) (by omega), show min x (orV (pAt a_c i) (pAt a_c ((i + 1) % a_n)) q) = orV (pAt a_c i) (pAt a_c ((i + 1) % a_n)) q by omega]
  ·rw [decide_eq_false h, cond_false, ih (i + 1) n _ (by omega) (by omega), show min x (orV (pAt a_c i) (pAt a_c ((i + 1) % a_n)) q) = x by omega]
-- spec.l03In
noncomputable def s33 : Ctr := fun
 | [.arr a_n K6x a_c, .arr e_n [.int .i64] e_c, .agg [iv q_xa, iv q_xb, iv q_xk, iv q_ya, iv q_yb, iv q_yk]] => some (Nat.beq e_n a_n && (inB (a_n : Int) 1 1000 && (vpS a_n a_c && (valP (⟨⟨q_xa, q_xb, q_xk⟩, ⟨q_ya, q_yb, q_yk⟩⟩ : P2) && allF (fun i => e_c i 0 == dirA a_n a_c i) 0 a_n))), iv (insV a_n a_c (⟨⟨q_xa, q_xb, q_xk⟩, ⟨q_ya, q_yb, q_yk⟩⟩ : P2)))
 | _ => none
theorem e33 (a_n : Nat) (a_c : NNI) (e_n : Nat) (e_c : NNI) (q_xa : Int) (q_xb : Int) (q_xk : Int) (q_ya : Int) (q_yb : Int) (q_yk : Int) (hp : (Nat.beq e_n a_n && (inB (a_n : Int) 1 1000 && (vpS a_n a_c && (valP (⟨⟨q_xa, q_xb, q_xk⟩, ⟨q_ya, q_yb, q_yk⟩⟩ : P2) && allF (fun i => e_c i 0 == dirA a_n a_c i) 0 a_n)))) = true) : evN Tryz.prog GLv Γ143 (a_n + 2) kx6  Tryz.f33 [.arr a_n K6x a_c, .arr e_n [.int .i64] e_c, .agg [iv q_xa, iv q_xb, iv q_xk, iv q_ya, iv q_yb, iv q_yk]] = some (iv (insV a_n a_c (⟨⟨q_xa, q_xb, q_xk⟩, ⟨q_ya, q_yb, q_yk⟩⟩ : P2))) := by
 simp only [Bool.and_eq_true] at hp
 obtain ⟨h1, h2, h3, h4, h5⟩ := hp
 obtain rfl := Nat.eq_of_beq_eq_true h1
 have h2 := inB_iff.1 h2
 refine (show _ = runW Tryz.prog GLv Γ143 (e_n + 2) (cfgK kx6) [.arr e_n K6x a_c, .arr e_n [.int .i64] e_c, .agg [iv q_xa, iv q_xb, iv q_xk, iv q_ya, iv q_yb, iv q_yk]] Tryz.f33 0 (e_n + 2) (stL Tryz.f33.ntmps [.arr e_n K6x a_c, .arr e_n [.int .i64] e_c, .non, .non, .non, .own 69 [iv (⟨⟨q_xa, q_xb, q_xk⟩, ⟨q_ya, q_yb, q_yk⟩⟩ : P2).x.a, iv (⟨⟨q_xa, q_xb, q_xk⟩, ⟨q_ya, q_yb, q_yk⟩⟩ : P2).x.b, iv (⟨⟨q_xa, q_xb, q_xk⟩, ⟨q_ya, q_yb, q_yk⟩⟩ : P2).x.k, iv (⟨⟨q_xa, q_xb, q_xk⟩, ⟨q_ya, q_yb, q_yk⟩⟩ : P2).y.a, iv (⟨⟨q_xa, q_xb, q_xk⟩, ⟨q_ya, q_yb, q_yk⟩⟩ : P2).y.b, iv (⟨⟨q_xa, q_xb, q_xk⟩, ⟨q_ya, q_yb, q_yk⟩⟩ : P2).y.k], .non, iv (1), iv (((0 : Nat) : Int))]) from by kernel_rfl).trans ?_
 exact in_run _ e_n a_c e_c (⟨⟨q_xa, q_xb, q_xk⟩, ⟨q_ya, q_yb, q_yk⟩⟩ : P2) (by omega) (fun i hi => by have := allF_iff.1 h5 i (Nat.zero_le _) (by omega); simpa using this) (fun i hi => in_side h3 h4 hi) e_n 0 _ 1 (by omega) (by omega)
theorem m33 : MT 33 s33 := by
 refine meetsN mix0 glv G143 Tryz.func33 (by kernel_rfl) (by kernel_rfl) s33 fun args x h => ?_
 unfold s33 at h
 split at h
 ·rename_i a_n a_c e_n e_c q_xa q_xb q_xk q_ya q_yb q_yk
  obtain ⟨hp, rfl⟩ := sm_inj h
  exact ⟨_, _, by kernel_rfl, e33 a_n a_c e_n e_c q_xa q_xb q_xk q_ya q_yb q_yk hp⟩
 ·cases h
noncomputable abbrev Γ144 : LC := (33, s33) :: Γ143
theorem G144 : SD Γ144 := G143.cons m33
-- spec.InPolygon
noncomputable def s12 : Ctr := fun
 | [.arr a_n K6x a_c, .agg [iv p_xa, iv p_xb, iv p_xk, iv p_ya, iv p_yb, iv p_yk]] => some (Nat.ble (a_n) 1048576, iv (ipV a_n a_c (⟨⟨p_xa, p_xb, p_xk⟩, ⟨p_ya, p_yb, p_yk⟩⟩ : P2)))
 | _ => none
theorem e12 (a_n : Nat) (a_c : NNI) (p_xa : Int) (p_xb : Int) (p_xk : Int) (p_ya : Int) (p_yb : Int) (p_yk : Int) (hp : (Nat.ble (a_n) 1048576) = true) : evN Tryz.prog GLv Γ144 (0) []  Tryz.f12 [.arr a_n K6x a_c, .agg [iv p_xa, iv p_xb, iv p_xk, iv p_ya, iv p_yb, iv p_yk]] = some (iv (ipV a_n a_c (⟨⟨p_xa, p_xb, p_xk⟩, ⟨p_ya, p_yb, p_yk⟩⟩ : P2))) := by
 refine (show _ = cond (Nat.ble (a_n) 1048576) (cond (!(vpS a_n a_c)) (some (iv (-1))) (cond (!(valP (⟨⟨p_xa, p_xb, p_xk⟩, ⟨p_ya, p_yb, p_yk⟩⟩ : P2))) (some (iv (-1))) (cond (inB (a_n : Int) 1 1048576) (cond (inB (a_n : Int) 1 1048576 && allP a_n (wideC a_n a_c)) (cond (Nat.beq (cond (okD a_n (wideC a_n a_c)) a_n 0) a_n && (inB (a_n : Int) 1 1000 && (vpS a_n (wideC a_n a_c) && (valP (⟨⟨p_xa, p_xb, p_xk⟩, ⟨p_ya, p_yb, p_yk⟩⟩ : P2) && allF (fun i => (cond (okD a_n (wideC a_n a_c)) (sidC a_n (wideC a_n a_c)) zeroC) i 0 == dirA a_n (wideC a_n a_c) i) 0 a_n)))) (some (iv (insV a_n (wideC a_n a_c) (⟨⟨p_xa, p_xb, p_xk⟩, ⟨p_ya, p_yb, p_yk⟩⟩ : P2)))) (none)) (none)) (none)))) (none) from by kernel_rfl).trans ?_
 rw [hp]
 unfold ipV
 cases hv : vpS a_n a_c with
 | false => rfl
 | true =>
  cases hq : valP (⟨⟨p_xa, p_xb, p_xk⟩, ⟨p_ya, p_yb, p_yk⟩⟩ : P2) with
  | false => rfl
  | true =>
   obtain ⟨⟨h3, h16⟩, hp', cv, _⟩ := vp_iff.1 hv
   have hw : vpS a_n (wideC a_n a_c) = true := by rw [vpS_wide]; exact hv
   have ho : (okD a_n (wideC a_n a_c)) = true := by rw [okD_wide]; exact (ok_iff (by omega) hp').2 cv.d
   rw [ho, hw, allP_wide, allP_iff.2 hp', show inB (a_n : Int) 1 1048576 = true from inB_iff.2 (by omega), show inB (a_n : Int) 1 1000 = true from inB_iff.2 (by omega)]
   simp only [cond_true, cond_false, Bool.not_true, Bool.and_self, Bool.true_and, Nat.beq_refl]
   rw [show allF (fun i => sidC a_n (wideC a_n a_c) i 0 == dirA a_n (wideC a_n a_c) i) 0 a_n = true from allF_iff.2 fun i _ hi => by rw [sidC_wide, dirA_wide (by omega), sid_at (by omega)]; exact beq_self_eq_true _, insV_congr (fun i hi => wide_at hi)]
   rfl
theorem m12 : MT 12 s12 := by
 refine meetsN mix0 glv G144 Tryz.func12 (by kernel_rfl) (by kernel_rfl) s12 fun args x h => ?_
 unfold s12 at h
 split at h
 ·rename_i a_n a_c p_xa p_xb p_xk p_ya p_yb p_yk
  obtain ⟨hp, rfl⟩ := sm_inj h
  exact ⟨_, _, by kernel_rfl, e12 a_n a_c p_xa p_xb p_xk p_ya p_yb p_yk hp⟩
 ·cases h
noncomputable abbrev Γ145 : LC := (12, s12) :: Γ144
theorem G145 : SD Γ145 := G144.cons m12
end Go.Proofs.YtlcopddgplbdhaaGreatDoor
