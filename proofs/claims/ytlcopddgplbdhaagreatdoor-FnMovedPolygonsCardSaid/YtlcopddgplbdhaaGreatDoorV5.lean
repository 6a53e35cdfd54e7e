/- Contracts of the program's functions, by the evaluator. -/
import Derived.Test.YtlcopddgplbdhaaGreatDoorV4
import Derived.Test.YtlcopddgplbdhaaGreatDoorPlF
import Derived.Test.YtlcopddgplbdhaaGreatDoorPlS
namespace Go.Proofs.YtlcopddgplbdhaaGreatDoor
open Go.Ev
set_option linter.unusedVariables false
set_option linter.unusedSimpArgs false
set_option maxRecDepth 100000
abbrev cfV51 : Cfg := ⟨[true, true, false, false, false, true], [], [], 0, []⟩
abbrev cfV50 : Cfg := ⟨[], [(4, kx12), (8, kx12), (11, [false, true, false, false, false, true, true, false, false, true]), (13, [false, false, false, false, false, true, true, false, false, true, false, false, true, true, true]), (15, [false, false, false, false, false, true, true, false, false, true]), (18, [false, false, false, false, false, false, true, false, false, true, false, false, false, false, false, true])], [], 0, []⟩
theorem sp_step (K n a_n b_n i : Nat) (a_c b_c : NNI) : runW Tryz.prog GLv Γ154 K cfV51 [.arr a_n K6x a_c, .arr b_n K6x b_c] Tryz.f37 0 (n + 1) (stL Tryz.f37.ntmps [.arr a_n K6x a_c, .arr b_n K6x b_c, .non, .non, .non, iv ((i : Int))]) = cond (decide ((i : Int) < (a_n : Int))) (cond ((decide (0 <= (i : Int)) && decide ((i : Int) < (a_n : Int)))) (cond ((decide (0 <= (i : Int)) && decide ((i : Int) < (b_n : Int)))) (cond (!(eqP2 (pAt a_c i) (pAt b_c i))) (some (bv false)) (runW Tryz.prog GLv Γ154 K cfV51 [.arr a_n K6x a_c, .arr b_n K6x b_c] Tryz.f37 0 n (stL Tryz.f37.ntmps [.arr a_n K6x a_c, .arr b_n K6x b_c, .non, .non, .non, iv (wr ((i : Int) + 1))]))) (none)) (none)) (some (bv true)) := by kernel_rfl
theorem sp_run (K a_n : Nat) (a_c b_c : NNI) (hn : a_n <= 1048576) : ∀ (r i n : Nat), i + r = a_n -> r < n -> runW Tryz.prog GLv Γ154 K cfV51 [.arr a_n K6x a_c, .arr a_n K6x b_c] Tryz.f37 0 n (stL Tryz.f37.ntmps [.arr a_n K6x a_c, .arr a_n K6x b_c, .non, .non, .non, iv ((i : Int))]) = some (bv (allF (fun i => eqP (pAt a_c i) (pAt b_c i)) i r)) := by
 intro r
 induction r with
 | zero =>
  intro i n h1 h2
  obtain ⟨n, rfl⟩ : ∃ n', n = n' + 1 := ⟨n - 1, by omega⟩
  rw [sp_step, nat_lt i a_n, show decide (i < a_n) = false by simp; omega]
  rfl
 | succ r ih =>
  intro i n h1 h2
  obtain ⟨n, rfl⟩ : ∃ n', n = n' + 1 := ⟨n - 1, by omega⟩
  rw [sp_step, nat_nn, nat_lt i a_n, show decide (i < a_n) = true by simp; omega, eqP2_P, wr_succ (by omega)]
  simp only [Bool.and_self, cond_true, allF]
  rw [ih (i + 1) n (by omega) (by omega)]
  cases eqP (pAt a_c i) (pAt b_c i) <;> rfl
-- spec.l03Same
noncomputable def s37 : Ctr := fun
 | [.arr a_n K6x a_c, .arr b_n K6x b_c] => some (Nat.ble (a_n) 1048576, bv (eqPS a_n a_c b_n b_c))
 | _ => none
theorem e37 (a_n : Nat) (a_c : NNI) (b_n : Nat) (b_c : NNI) (hp : (Nat.ble (a_n) 1048576) = true) : evW Tryz.prog GLv Γ154 (a_n + 2) (cfV51)  Tryz.f37 [.arr a_n K6x a_c, .arr b_n K6x b_c] = some (bv (eqPS a_n a_c b_n b_c)) := by
 have hn := Nat.le_of_ble_eq_true hp
 refine (show _ = cond ((a_n : Int) != (b_n : Int)) (some (bv false)) (runW Tryz.prog GLv Γ154 (a_n + 2) cfV51 [.arr a_n K6x a_c, .arr b_n K6x b_c] Tryz.f37 0 (a_n + 2) (stL Tryz.f37.ntmps [.arr a_n K6x a_c, .arr b_n K6x b_c, .non, .non, .non, iv (((0 : Nat) : Int))])) from by kernel_rfl).trans ?_
 unfold eqPS
 by_cases e : a_n = b_n
 ·subst e
  rw [bne_self_eq_false, decide_eq_true rfl, Bool.true_and]
  exact sp_run _ a_n a_c b_c hn a_n 0 _ (by omega) (by omega)
 ·rw [show ((a_n : Int) != (b_n : Int)) = true by simpa using fun h => e (Int.ofNat.inj h), decide_eq_false e]
  rfl
theorem m37 : MT 37 s37 := by
 refine meetsW mix0 G154 Tryz.func37 (by kernel_rfl) (by kernel_rfl) s37 fun args x h => ?_
 unfold s37 at h
 split at h
 ·rename_i a_n a_c b_n b_c
  obtain ⟨hp, rfl⟩ := sm_inj h
  exact ⟨_, _, by kernel_rfl, e37 a_n a_c b_n b_c hp⟩
 ·cases h
noncomputable abbrev Γ155 : LC := (37, s37) :: Γ154
theorem G155 : SD Γ155 := G154.cons m37
-- spec.SamePolygon
noncomputable def s14 : Ctr := fun
 | [.arr a_n K6x a_c, .arr b_n K6x b_c] => some (Nat.ble (a_n) 1048576, bv (eqPS a_n a_c b_n b_c))
 | _ => none
theorem e14 (a_n : Nat) (a_c : NNI) (b_n : Nat) (b_c : NNI) (hp : (Nat.ble (a_n) 1048576) = true) : evN Tryz.prog GLv Γ155 (0) []  Tryz.f14 [.arr a_n K6x a_c, .arr b_n K6x b_c] = some (bv (eqPS a_n a_c b_n b_c)) := by
 refine (show _ = cond (Nat.ble (a_n) 1048576) (some (bv (eqPS a_n a_c b_n b_c))) none from by kernel_rfl).trans ?_
 rw [hp]
 rfl
theorem m14 : MT 14 s14 := by
 refine meetsN mix0 glv G155 Tryz.func14 (by kernel_rfl) (by kernel_rfl) s14 fun args x h => ?_
 unfold s14 at h
 split at h
 ·rename_i a_n a_c b_n b_c
  obtain ⟨hp, rfl⟩ := sm_inj h
  exact ⟨_, _, by kernel_rfl, e14 a_n a_c b_n b_c hp⟩
 ·cases h
noncomputable abbrev Γ156 : LC := (14, s14) :: Γ155
theorem G156 : SD Γ156 := G155.cons m14
-- laws.b10Long
noncomputable def s4 : Ctr := fun
 | [.arr b_n [.int .u8] b_c] => some (true, bv (decide ((b_n : Int) > 1048576)))
 | _ => none
theorem e4 (b_n : Nat) (b_c : NNI) : evN Tryz.prog GLv Γ156 (0) []  Tryz.f4 [.arr b_n [.int .u8] b_c] = some (bv (decide ((b_n : Int) > 1048576))) := by
 kernel_rfl
theorem m4 : MT 4 s4 := by
 refine meetsN mix0 glv G156 Tryz.func4 (by kernel_rfl) (by kernel_rfl) s4 fun args x h => ?_
 unfold s4 at h
 split at h
 ·rename_i b_n b_c
  obtain ⟨hp, rfl⟩ := sm_inj h
  exact ⟨_, _, by kernel_rfl, e4 b_n b_c⟩
 ·cases h
noncomputable abbrev Γ157 : LC := (4, s4) :: Γ156
theorem G157 : SD Γ157 := G156.cons m4
-- spec.ValidMotion
noncomputable def s6 : Ctr := fun
 | [.agg [iv m_t, .val (.bool m_f), iv m_xa, iv m_xb, iv m_xk, iv m_ya, iv m_yb, iv m_yk]] => some (true, bv (inB m_t 0 7 && valP (⟨⟨m_xa, m_xb, m_xk⟩, ⟨m_ya, m_yb, m_yk⟩⟩ : P2)))
 | _ => none
theorem e6 (m_t : Int) (m_f : Bool) (m_xa : Int) (m_xb : Int) (m_xk : Int) (m_ya : Int) (m_yb : Int) (m_yk : Int) : evN Tryz.prog GLv Γ157 (0) []  Tryz.f6 [.agg [iv m_t, .val (.bool m_f), iv m_xa, iv m_xb, iv m_xk, iv m_ya, iv m_yb, iv m_yk]] = some (bv (inB m_t 0 7 && valP (⟨⟨m_xa, m_xb, m_xk⟩, ⟨m_ya, m_yb, m_yk⟩⟩ : P2))) := by
 kernel_rfl
theorem m6 : MT 6 s6 := by
 refine meetsN mix0 glv G157 Tryz.func6 (by kernel_rfl) (by kernel_rfl) s6 fun args x h => ?_
 unfold s6 at h
 split at h
 ·rename_i m_t m_f m_xa m_xb m_xk m_ya m_yb m_yk
  obtain ⟨hp, rfl⟩ := sm_inj h
  exact ⟨_, _, by kernel_rfl, e6 m_t m_f m_xa m_xb m_xk m_ya m_yb m_yk⟩
 ·cases h
noncomputable abbrev Γ158 : LC := (6, s6) :: Γ157
theorem G158 : SD Γ158 := G157.cons m6
theorem fn_18 (e_n : Nat) (e_c : NNI) (m_n : Nat) (m_c : NNI) (m : M8) (n : Nat) (c : NNI) (k : Nat) (b : NNI) (w : M8) : (fromW Tryz.prog GLv Γ158 0 cfV50 [.arr e_n [.int .u8] e_c, .arr m_n [.int .u8] m_c] Tryz.f3 18 (stL Tryz.f3.ntmps [.non, .non, .non, .non, .non, .non, .arr n K6x c, .non, .non, .arr k K6x b, .non, .non, .non, .non, .non, .own 27 [iv w.t, bv w.f, iv w.s.x.a, iv w.s.x.b, iv w.s.x.k, iv w.s.y.a, iv w.s.y.b, iv w.s.y.k]])) = cond (Nat.ble (k) 1048576) (cond (mpO w k b) (cond (Nat.ble ((mpN w k b)) 1048576) (some (bv (eqPS (mpN w k b) (mpI w k b) n c))) (none)) ((some (bv false)))) (none) := by kernel_rfl
theorem fn_15 (e_n : Nat) (e_c : NNI) (m_n : Nat) (m_c : NNI) (m : M8) (n : Nat) (c : NNI) (k : Nat) (b : NNI) : (fromW Tryz.prog GLv Γ158 0 cfV50 [.arr e_n [.int .u8] e_c, .arr m_n [.int .u8] m_c] Tryz.f3 15 (stL Tryz.f3.ntmps [.non, .non, .non, .non, .non, .own 27 [iv m.t, bv m.f, iv m.s.x.a, iv m.s.x.b, iv m.s.x.k, iv m.s.y.a, iv m.s.y.b, iv m.s.y.k], .arr n K6x c, .non, .non, .arr k K6x b])) = cond (!(ivO m)) ((some (bv true))) ((fromW Tryz.prog GLv Γ158 0 cfV50 [.arr e_n [.int .u8] e_c, .arr m_n [.int .u8] m_c] Tryz.f3 18 (stL Tryz.f3.ntmps [.non, .non, .non, .non, .non, .non, .arr n K6x c, .non, .non, .arr k K6x b, .non, .non, .non, .non, .non, .own 27 [iv (ivM m).t, bv (ivM m).f, iv (ivM m).s.x.a, iv (ivM m).s.x.b, iv (ivM m).s.x.k, iv (ivM m).s.y.a, iv (ivM m).s.y.b, iv (ivM m).s.y.k]]))) := by kernel_rfl
theorem fn_13 (e_n : Nat) (e_c : NNI) (m_n : Nat) (m_c : NNI) (m : M8) (n : Nat) (c : NNI) (k : Nat) (b : NNI) (p q : P2) (one : Bool) : (fromW Tryz.prog GLv Γ158 0 cfV50 [.arr e_n [.int .u8] e_c, .arr m_n [.int .u8] m_c] Tryz.f3 13 (stL Tryz.f3.ntmps [.non, .non, .non, .non, .non, .own 27 [iv m.t, bv m.f, iv m.s.x.a, iv m.s.x.b, iv m.s.x.k, iv m.s.y.a, iv m.s.y.b, iv m.s.y.k], .arr n K6x c, .non, .non, .arr k K6x b, .non, .non, .own 38 [iv p.x.a, iv p.x.b, iv p.x.k, iv p.y.a, iv p.y.b, iv p.y.k], .own 38 [iv q.x.a, iv q.x.b, iv q.x.k, iv q.y.a, iv q.y.b, iv q.y.k], bv (one)])) = cond (one) (cond (Nat.ble (n) 1048576) (cond (Nat.ble (k) 1048576) (cond (ipV n c p != ipV k b q) ((some (bv false))) ((fromW Tryz.prog GLv Γ158 0 cfV50 [.arr e_n [.int .u8] e_c, .arr m_n [.int .u8] m_c] Tryz.f3 15 (stL Tryz.f3.ntmps [.non, .non, .non, .non, .non, .own 27 [iv m.t, bv m.f, iv m.s.x.a, iv m.s.x.b, iv m.s.x.k, iv m.s.y.a, iv m.s.y.b, iv m.s.y.k], .arr n K6x c, .non, .non, .arr k K6x b])))) (none)) (none)) ((fromW Tryz.prog GLv Γ158 0 cfV50 [.arr e_n [.int .u8] e_c, .arr m_n [.int .u8] m_c] Tryz.f3 15 (stL Tryz.f3.ntmps [.non, .non, .non, .non, .non, .own 27 [iv m.t, bv m.f, iv m.s.x.a, iv m.s.x.b, iv m.s.x.k, iv m.s.y.a, iv m.s.y.b, iv m.s.y.k], .arr n K6x c, .non, .non, .arr k K6x b]))) := by kernel_rfl
theorem fn_11 (e_n : Nat) (e_c : NNI) (m_n : Nat) (m_c : NNI) (m : M8) (n : Nat) (c : NNI) (k : Nat) (b : NNI) : (fromW Tryz.prog GLv Γ158 0 cfV50 [.arr e_n [.int .u8] e_c, .arr m_n [.int .u8] m_c] Tryz.f3 11 (stL Tryz.f3.ntmps [.non, .arr m_n [.int .u8] m_c, .non, .non, .non, .own 27 [iv m.t, bv m.f, iv m.s.x.a, iv m.s.x.b, iv m.s.x.k, iv m.s.y.a, iv m.s.y.b, iv m.s.y.k], .arr n K6x c, .non, .non, .arr k K6x b])) = (fromW Tryz.prog GLv Γ158 0 cfV50 [.arr e_n [.int .u8] e_c, .arr m_n [.int .u8] m_c] Tryz.f3 13 (stL Tryz.f3.ntmps [.non, .non, .non, .non, .non, .own 27 [iv m.t, bv m.f, iv m.s.x.a, iv m.s.x.b, iv m.s.x.k, iv m.s.y.a, iv m.s.y.b, iv m.s.y.k], .arr n K6x c, .non, .non, .arr k K6x b, .non, .non, .own 38 [iv (mpP (srcOf m_n m_c)).x.a, iv (mpP (srcOf m_n m_c)).x.b, iv (mpP (srcOf m_n m_c)).x.k, iv (mpP (srcOf m_n m_c)).y.a, iv (mpP (srcOf m_n m_c)).y.b, iv (mpP (srcOf m_n m_c)).y.k], .own 38 [iv (mvP m (mpP (srcOf m_n m_c))).x.a, iv (mvP m (mpP (srcOf m_n m_c))).x.b, iv (mvP m (mpP (srcOf m_n m_c))).x.k, iv (mvP m (mpP (srcOf m_n m_c))).y.a, iv (mvP m (mpP (srcOf m_n m_c))).y.b, iv (mvP m (mpP (srcOf m_n m_c))).y.k], bv (mvO m (mpP (srcOf m_n m_c)))])) := by kernel_rfl
theorem fn_8 (e_n : Nat) (e_c : NNI) (m_n : Nat) (m_c : NNI) (m : M8) (n : Nat) (c : NNI) : (fromW Tryz.prog GLv Γ158 0 cfV50 [.arr e_n [.int .u8] e_c, .arr m_n [.int .u8] m_c] Tryz.f3 8 (stL Tryz.f3.ntmps [.non, .arr m_n [.int .u8] m_c, .non, .non, .non, .own 27 [iv m.t, bv m.f, iv m.s.x.a, iv m.s.x.b, iv m.s.x.k, iv m.s.y.a, iv m.s.y.b, iv m.s.y.k], .arr n K6x c])) = cond (Nat.ble (n) 1048576) (cond (!(mpO m n c)) ((some (bv true))) ((fromW Tryz.prog GLv Γ158 0 cfV50 [.arr e_n [.int .u8] e_c, .arr m_n [.int .u8] m_c] Tryz.f3 11 (stL Tryz.f3.ntmps [.non, .arr m_n [.int .u8] m_c, .non, .non, .non, .own 27 [iv m.t, bv m.f, iv m.s.x.a, iv m.s.x.b, iv m.s.x.k, iv m.s.y.a, iv m.s.y.b, iv m.s.y.k], .arr n K6x c, .non, .non, .arr (mpN m n c) K6x (mpI m n c)])))) (none) := by kernel_rfl
theorem fn_4 (e_n : Nat) (e_c : NNI) (m_n : Nat) (m_c : NNI) (m : M8) (n : Nat) (c : NNI) : (fromW Tryz.prog GLv Γ158 0 cfV50 [.arr e_n [.int .u8] e_c, .arr m_n [.int .u8] m_c] Tryz.f3 4 (stL Tryz.f3.ntmps [.non, .arr m_n [.int .u8] m_c, .non, .non, .non, .own 27 [iv m.t, bv m.f, iv m.s.x.a, iv m.s.x.b, iv m.s.x.k, iv m.s.y.a, iv m.s.y.b, iv m.s.y.k], .arr n K6x c])) = cond (m.valid) (cond (isMt (cond m.valid (mtL m) [])) (cond (!(eqM8 (mtOf (cond m.valid (mtL m) [])) m)) ((some (bv false))) ((fromW Tryz.prog GLv Γ158 0 cfV50 [.arr e_n [.int .u8] e_c, .arr m_n [.int .u8] m_c] Tryz.f3 8 (stL Tryz.f3.ntmps [.non, .arr m_n [.int .u8] m_c, .non, .non, .non, .own 27 [iv m.t, bv m.f, iv m.s.x.a, iv m.s.x.b, iv m.s.x.k, iv m.s.y.a, iv m.s.y.b, iv m.s.y.k], .arr n K6x c])))) (none)) ((fromW Tryz.prog GLv Γ158 0 cfV50 [.arr e_n [.int .u8] e_c, .arr m_n [.int .u8] m_c] Tryz.f3 8 (stL Tryz.f3.ntmps [.non, .arr m_n [.int .u8] m_c, .non, .non, .non, .own 27 [iv m.t, bv m.f, iv m.s.x.a, iv m.s.x.b, iv m.s.x.k, iv m.s.y.a, iv m.s.y.b, iv m.s.y.k], .arr n K6x c]))) := by kernel_rfl
theorem fn_all (e_n : Nat) (e_c : NNI) (m_n : Nat) (m_c : NNI) (m : M8) (n : Nat) (c : NNI) (hn : n <= 40) : (fromW Tryz.prog GLv Γ158 0 cfV50 [.arr e_n [.int .u8] e_c, .arr m_n [.int .u8] m_c] Tryz.f3 4 (stL Tryz.f3.ntmps [.non, .arr m_n [.int .u8] m_c, .non, .non, .non, .own 27 [iv m.t, bv m.f, iv m.s.x.a, iv m.s.x.b, iv m.s.x.k, iv m.s.y.a, iv m.s.y.b, iv m.s.y.k], .arr n K6x c])) = (some (bv true)) := by
 have hb : Nat.ble n 1048576 = true := Nat.ble_eq_true_of_le (by omega)
 have h8 : (fromW Tryz.prog GLv Γ158 0 cfV50 [.arr e_n [.int .u8] e_c, .arr m_n [.int .u8] m_c] Tryz.f3 8 (stL Tryz.f3.ntmps [.non, .arr m_n [.int .u8] m_c, .non, .non, .non, .own 27 [iv m.t, bv m.f, iv m.s.x.a, iv m.s.x.b, iv m.s.x.k, iv m.s.y.a, iv m.s.y.b, iv m.s.y.k], .arr n K6x c])) = (some (bv true)) := by
  rw [fn_8 e_n e_c m_n m_c m n c, hb, cond_true]
  cases ho : mpO m n c with
  | false => rfl
  | true =>
   have H := mp_all ho
   have hN : mpN m n c = n := by unfold mpN; rw [ho]; rfl
   rw [Bool.not_true, cond_false, hN, fn_11 e_n e_c m_n m_c m n c, fn_13 e_n e_c m_n m_c m n c]
   generalize (mpP (srcOf m_n m_c)) = p
   have h15 : (fromW Tryz.prog GLv Γ158 0 cfV50 [.arr e_n [.int .u8] e_c, .arr m_n [.int .u8] m_c] Tryz.f3 15 (stL Tryz.f3.ntmps [.non, .non, .non, .non, .non, .own 27 [iv m.t, bv m.f, iv m.s.x.a, iv m.s.x.b, iv m.s.x.k, iv m.s.y.a, iv m.s.y.b, iv m.s.y.k], .arr n K6x c, .non, .non, .arr n K6x (mpI m n c)])) = (some (bv true)) := by
    rw [fn_15 e_n e_c m_n m_c m n c]
    cases hi : ivO m with
    | false => rfl
    | true =>
     obtain ⟨o2, e2⟩ := mp_back ho hi
     have hN2 : mpN (ivM m) n (mpI m n c) = n := by unfold mpN; rw [o2]; rfl
     rw [Bool.not_true, cond_false, fn_18 e_n e_c m_n m_c m n c, hb, cond_true, o2, cond_true, hN2, hb, cond_true, eqPS_of rfl e2]
   cases h1 : mvO m p with
   | false =>
    rw [cond_false]
    exact h15
   | true =>
    have hp : valP p = true := by
     unfold mvO at h1
     rw [Bool.and_eq_true, Bool.and_eq_true] at h1
     exact h1.1.2
    obtain ⟨_, l2, l3, _⟩ := mw_low H.mv hp
    have hq : valP (mwR m p) = true := by rw [<- l2]; exact h1
    have e : ipV n (mpI m n c) (mvP m p) = ipV n c p := by rw [l3 hq, ipV_val H.w hq, ipV_val H.v hp, ins_move ho hp hq]
    rw [cond_true, hb, cond_true, cond_true, e, bne_self_eq_false, cond_false]
    exact h15
 rw [fn_4 e_n e_c m_n m_c m n c]
 cases hv : m.valid with
 | false =>
  rw [cond_false]
  exact h8
 | true =>
  obtain ⟨t1, t2⟩ := mt_of hv
  rw [cond_true, cond_true, t1, cond_true, t2, show eqM8 m m = true by simp [eqM8, eqN], Bool.not_true, cond_false]
  exact h8
-- laws.FnMovedPolygons
noncomputable def s3 : Ctr := fun
 | [.arr e_n [.int .u8] e_c, .arr m_n [.int .u8] m_c] => some (true, bv true)
 | _ => none
theorem e3 (e_n : Nat) (e_c : NNI) (m_n : Nat) (m_c : NNI) : evW Tryz.prog GLv Γ158 (0) (cfV50)  Tryz.f3 [.arr e_n [.int .u8] e_c, .arr m_n [.int .u8] m_c] = some (bv true) := by
 refine (show _ = cond (decide ((e_n : Int) > 1048576)) (some (bv true)) (cond (decide ((m_n : Int) > 1048576)) (some (bv true)) (fromW Tryz.prog GLv Γ158 0 cfV50 [.arr e_n [.int .u8] e_c, .arr m_n [.int .u8] m_c] Tryz.f3 4 (stL Tryz.f3.ntmps [.non, .arr m_n [.int .u8] m_c, .non, .non, .non, .own 27 [iv (bentMV (srcOf e_n e_c)).1.t, bv (bentMV (srcOf e_n e_c)).1.f, iv (bentMV (srcOf e_n e_c)).1.s.x.a, iv (bentMV (srcOf e_n e_c)).1.s.x.b, iv (bentMV (srcOf e_n e_c)).1.s.x.k, iv (bentMV (srcOf e_n e_c)).1.s.y.a, iv (bentMV (srcOf e_n e_c)).1.s.y.b, iv (bentMV (srcOf e_n e_c)).1.s.y.k], .arr (bnV (bentMV (srcOf e_n e_c)).2).1.n K6x (bnV (bentMV (srcOf e_n e_c)).2).1.c]))) from by kernel_rfl).trans ?_
 rw [fn_all e_n e_c m_n m_c _ _ _ (dm_le e_n e_c)]
 cases decide ((e_n : Int) > 1048576) <;> cases decide ((m_n : Int) > 1048576) <;> rfl
theorem m3 : MT 3 s3 := by
 refine meetsW mix0 G158 Tryz.func3 (by kernel_rfl) (by kernel_rfl) s3 fun args x h => ?_
 unfold s3 at h
 split at h
 ·rename_i e_n e_c m_n m_c
  obtain ⟨hp, rfl⟩ := sm_inj h
  exact ⟨_, _, by kernel_rfl, e3 e_n e_c m_n m_c⟩
 ·cases h
end Go.Proofs.YtlcopddgplbdhaaGreatDoor
