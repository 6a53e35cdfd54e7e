/- Contracts of the program's functions, by the evaluator. -/
import Derived.Test.YtdildcdilhgdkaaGreatDoorD6
import Derived.Test.YtdildcdilhgdkaaGreatDoorPlF
namespace Go.Proofs.YtdildcdilhgdkaaGreatDoor
open Go.Ev
set_option linter.unusedVariables false
set_option linter.unusedSimpArgs false
set_option maxRecDepth 100000
-- impl.orient
noncomputable def s67 : Ctr := fun
  | [.agg [.val (.int .i64 p_xa), .val (.int .i64 p_xb), .val (.int .i64 p_xk), .val (.int .i64 p_ya), .val (.int .i64 p_yb), .val (.int .i64 p_yk)], .agg [.val (.int .i64 q_xa), .val (.int .i64 q_xb), .val (.int .i64 q_xk), .val (.int .i64 q_ya), .val (.int .i64 q_yb), .val (.int .i64 q_yk)], .agg [.val (.int .i64 r_xa), .val (.int .i64 r_xb), .val (.int .i64 r_xk), .val (.int .i64 r_ya), .val (.int .i64 r_yb), .val (.int .i64 r_yk)]] => some (orB (⟨⟨p_xa, p_xb, p_xk⟩, ⟨p_ya, p_yb, p_yk⟩⟩ : P2) (⟨⟨q_xa, q_xb, q_xk⟩, ⟨q_ya, q_yb, q_yk⟩⟩ : P2) (⟨⟨r_xa, r_xb, r_xk⟩, ⟨r_ya, r_yb, r_yk⟩⟩ : P2), iv (orV (⟨⟨p_xa, p_xb, p_xk⟩, ⟨p_ya, p_yb, p_yk⟩⟩ : P2) (⟨⟨q_xa, q_xb, q_xk⟩, ⟨q_ya, q_yb, q_yk⟩⟩ : P2) (⟨⟨r_xa, r_xb, r_xk⟩, ⟨r_ya, r_yb, r_yk⟩⟩ : P2)))
  | _ => none
theorem e67 (p_xa : Int) (p_xb : Int) (p_xk : Int) (p_ya : Int) (p_yb : Int) (p_yk : Int) (q_xa : Int) (q_xb : Int) (q_xk : Int) (q_ya : Int) (q_yb : Int) (q_yk : Int) (r_xa : Int) (r_xb : Int) (r_xk : Int) (r_ya : Int) (r_yb : Int) (r_yk : Int) (hp : (orB (⟨⟨p_xa, p_xb, p_xk⟩, ⟨p_ya, p_yb, p_yk⟩⟩ : P2) (⟨⟨q_xa, q_xb, q_xk⟩, ⟨q_ya, q_yb, q_yk⟩⟩ : P2) (⟨⟨r_xa, r_xb, r_xk⟩, ⟨r_ya, r_yb, r_yk⟩⟩ : P2)) = true) : evN Tryz.prog GLv Γ120 (0) []  Tryz.f67 [.agg [.val (.int .i64 p_xa), .val (.int .i64 p_xb), .val (.int .i64 p_xk), .val (.int .i64 p_ya), .val (.int .i64 p_yb), .val (.int .i64 p_yk)], .agg [.val (.int .i64 q_xa), .val (.int .i64 q_xb), .val (.int .i64 q_xk), .val (.int .i64 q_ya), .val (.int .i64 q_yb), .val (.int .i64 q_yk)], .agg [.val (.int .i64 r_xa), .val (.int .i64 r_xb), .val (.int .i64 r_xk), .val (.int .i64 r_ya), .val (.int .i64 r_yb), .val (.int .i64 r_yk)]] = some (iv (orV (⟨⟨p_xa, p_xb, p_xk⟩, ⟨p_ya, p_yb, p_yk⟩⟩ : P2) (⟨⟨q_xa, q_xb, q_xk⟩, ⟨q_ya, q_yb, q_yk⟩⟩ : P2) (⟨⟨r_xa, r_xb, r_xk⟩, ⟨r_ya, r_yb, r_yk⟩⟩ : P2))) := by
  unfold orB at hp
  simp only [Bool.and_eq_true] at hp
  obtain ⟨h1, h2, h3, h4, h5⟩ := hp
  refine (show _ = cond (pkP (⟨⟨q_xa, q_xb, q_xk⟩, ⟨q_ya, q_yb, q_yk⟩⟩ : P2) (⟨⟨p_xa, p_xb, p_xk⟩, ⟨p_ya, p_yb, p_yk⟩⟩ : P2)) (cond (pkP (⟨⟨r_xa, r_xb, r_xk⟩, ⟨r_ya, r_yb, r_yk⟩⟩ : P2) (⟨⟨p_xa, p_xb, p_xk⟩, ⟨p_ya, p_yb, p_yk⟩⟩ : P2)) (cond (pkC (subP (⟨⟨q_xa, q_xb, q_xk⟩, ⟨q_ya, q_yb, q_yk⟩⟩ : P2) (⟨⟨p_xa, p_xb, p_xk⟩, ⟨p_ya, p_yb, p_yk⟩⟩ : P2)) (subP (⟨⟨r_xa, r_xb, r_xk⟩, ⟨r_ya, r_yb, r_yk⟩⟩ : P2) (⟨⟨p_xa, p_xb, p_xk⟩, ⟨p_ya, p_yb, p_yk⟩⟩ : P2))) (cond (sW (crsF (subP (⟨⟨q_xa, q_xb, q_xk⟩, ⟨q_ya, q_yb, q_yk⟩⟩ : P2) (⟨⟨p_xa, p_xb, p_xk⟩, ⟨p_ya, p_yb, p_yk⟩⟩ : P2)) (subP (⟨⟨r_xa, r_xb, r_xk⟩, ⟨r_ya, r_yb, r_yk⟩⟩ : P2) (⟨⟨p_xa, p_xb, p_xk⟩, ⟨p_ya, p_yb, p_yk⟩⟩ : P2))).a && sW (crsF (subP (⟨⟨q_xa, q_xb, q_xk⟩, ⟨q_ya, q_yb, q_yk⟩⟩ : P2) (⟨⟨p_xa, p_xb, p_xk⟩, ⟨p_ya, p_yb, p_yk⟩⟩ : P2)) (subP (⟨⟨r_xa, r_xb, r_xk⟩, ⟨r_ya, r_yb, r_yk⟩⟩ : P2) (⟨⟨p_xa, p_xb, p_xk⟩, ⟨p_ya, p_yb, p_yk⟩⟩ : P2))).b) (some (iv (sgF (crsF (subP (⟨⟨q_xa, q_xb, q_xk⟩, ⟨q_ya, q_yb, q_yk⟩⟩ : P2) (⟨⟨p_xa, p_xb, p_xk⟩, ⟨p_ya, p_yb, p_yk⟩⟩ : P2)) (subP (⟨⟨r_xa, r_xb, r_xk⟩, ⟨r_ya, r_yb, r_yk⟩⟩ : P2) (⟨⟨p_xa, p_xb, p_xk⟩, ⟨p_ya, p_yb, p_yk⟩⟩ : P2)))))) (none)) (none)) (none)) (none) from by kernel_rfl).trans ?_
  rw [h1, h2, h3, h4, h5]
  rfl
theorem m67 : Meets Tryz.prog GLv 67 s67 := by
  refine meetsN mix0 glv G120 Tryz.func67 (by kernel_rfl) (by kernel_rfl) s67 fun args x h => ?_
  unfold s67 at h
  split at h
  . rename_i p_xa p_xb p_xk p_ya p_yb p_yk q_xa q_xb q_xk q_ya q_yb q_yk r_xa r_xb r_xk r_ya r_yb r_yk
    simp only [Option.some.injEq, Prod.mk.injEq] at h
    obtain ⟨hp, rfl⟩ := h
    exact ⟨_, _, by kernel_rfl, e67 p_xa p_xb p_xk p_ya p_yb p_yk q_xa q_xb q_xk q_ya q_yb q_yk r_xa r_xb r_xk r_ya r_yb r_yk hp⟩
  . cases h
noncomputable abbrev Γ121 : List (Nat × Ctr) := (67, s67) :: Γ120
theorem G121 : Sound Tryz.prog GLv Γ121 := G120.cons m67
theorem in_step (K n a_n i : Nat) (x : Int) (q : P2) (a_c : NNI) : runW Tryz.prog GLv Γ121 K ⟨kx34, [], [], 0, []⟩ [.arr a_n K6x a_c, q.av] Tryz.f30 0 (n + 1) (stL Tryz.f30.ntmps [.arr a_n K6x a_c, .non, .non, .own 35 [iv q.x.a, iv q.x.b, iv q.x.k, iv q.y.a, iv q.y.b, iv q.y.k], .non, iv (x), .non, .non, .arr a_n K6x a_c, iv (a_n : Int), iv ((i : Int))]) = cond (decide ((i : Int) < (a_n : Int))) (cond ((decide (0 <= (i : Int)) && decide ((i : Int) < (a_n : Int)))) (cond (!((a_n : Int) == 0)) (cond ((decide (0 <= (((wr ((i : Int) + 1)).tmod (a_n : Int)) : Int)) && decide ((((wr ((i : Int) + 1)).tmod (a_n : Int)) : Int) < (a_n : Int)))) (cond (orB (pAt a_c i) (pAt a_c ((wr ((i : Int) + 1)).tmod (a_n : Int)).toNat) q) (runW Tryz.prog GLv Γ121 K ⟨kx34, [], [], 0, []⟩ [.arr a_n K6x a_c, q.av] Tryz.f30 0 n (stL Tryz.f30.ntmps [.arr a_n K6x a_c, .non, .non, .own 35 [iv q.x.a, iv q.x.b, iv q.x.k, iv q.y.a, iv q.y.b, iv q.y.k], .non, iv ((if orV (pAt a_c i) (pAt a_c ((wr ((i : Int) + 1)).tmod (a_n : Int)).toNat) q < x then orV (pAt a_c i) (pAt a_c ((wr ((i : Int) + 1)).tmod (a_n : Int)).toNat) q else x)), .non, .non, .arr a_n K6x a_c, iv (a_n : Int), iv (wr ((i : Int) + 1))])) (none)) (none)) (none)) (none)) (some (iv x)) := by kernel_rfl
theorem in_run (K a_n : Nat) (q : P2) (a_c : NNI) (h0 : 0 < a_n) (hn : a_n <= 1000) (ok : ∀ i, i < a_n -> orB (pAt a_c i) (pAt a_c ((i + 1) % a_n)) q = true) : ∀ (r i n : Nat) (x : Int), i + r = a_n -> r < n -> runW Tryz.prog GLv Γ121 K ⟨kx34, [], [], 0, []⟩ [.arr a_n K6x a_c, q.av] Tryz.f30 0 n (stL Tryz.f30.ntmps [.arr a_n K6x a_c, .non, .non, .own 35 [iv q.x.a, iv q.x.b, iv q.x.k, iv q.y.a, iv q.y.b, iv q.y.k], .non, iv (x), .non, .non, .arr a_n K6x a_c, iv (a_n : Int), iv ((i : Int))]) = some (iv (insF a_n a_c q i r x)) := by
  intro r
  induction r with
  | zero =>
    intro i n x h1 h2
    obtain ⟨n, rfl⟩ : ∃ n', n = n' + 1 := ⟨n - 1, by omega⟩
    rw [in_step, nat_lt i a_n, show decide (i < a_n) = false by simp; omega]
    rfl
  | succ r ih =>
    intro i n x h1 h2
    obtain ⟨n, rfl⟩ : ∃ n', n = n' + 1 := ⟨n - 1, by omega⟩
    have hm : (i + 1) % a_n < a_n := Nat.mod_lt _ h0
    rw [in_step, wr_succ (by omega), tmod_cast]
    simp only [Int.toNat_natCast]
    rw [nat_nn, nat_nn, nat_lt i a_n, nat_lt _ a_n, show decide (i < a_n) = true by simp; omega, show decide ((i + 1) % a_n < a_n) = true by simpa using hm, show (!((a_n : Int) == 0)) = true by simp; omega, ok i (by omega)]
    simp only [Bool.and_self, cond_true]
    rw [ih (i + 1) n _ (by omega) (by omega), ite_min]
    rfl
-- impl.inside
noncomputable def s30 : Ctr := fun
  | [.arr a_n K6x a_c, .agg [.val (.int .i64 q_xa), .val (.int .i64 q_xb), .val (.int .i64 q_xk), .val (.int .i64 q_ya), .val (.int .i64 q_yb), .val (.int .i64 q_yk)]] => some (inB a_n 1 1000 && allF (fun i => orB (pAt a_c i) (pAt a_c ((i + 1) % a_n)) (⟨⟨q_xa, q_xb, q_xk⟩, ⟨q_ya, q_yb, q_yk⟩⟩ : P2)) 0 a_n, iv (insV a_n a_c (⟨⟨q_xa, q_xb, q_xk⟩, ⟨q_ya, q_yb, q_yk⟩⟩ : P2)))
  | _ => none
theorem e30 (a_n : Nat) (a_c : NNI) (q_xa : Int) (q_xb : Int) (q_xk : Int) (q_ya : Int) (q_yb : Int) (q_yk : Int) (hp : (inB a_n 1 1000 && allF (fun i => orB (pAt a_c i) (pAt a_c ((i + 1) % a_n)) (⟨⟨q_xa, q_xb, q_xk⟩, ⟨q_ya, q_yb, q_yk⟩⟩ : P2)) 0 a_n) = true) : evW Tryz.prog GLv Γ121 (a_n + 2) (⟨kx34, [], [], 0, []⟩)  Tryz.f30 [.arr a_n K6x a_c, .agg [.val (.int .i64 q_xa), .val (.int .i64 q_xb), .val (.int .i64 q_xk), .val (.int .i64 q_ya), .val (.int .i64 q_yb), .val (.int .i64 q_yk)]] = some (iv (insV a_n a_c (⟨⟨q_xa, q_xb, q_xk⟩, ⟨q_ya, q_yb, q_yk⟩⟩ : P2))) := by
  rw [Bool.and_eq_true] at hp
  obtain ⟨hn, hb⟩ := hp
  have hn := inB_iff.1 hn
  refine (show _ = runW Tryz.prog GLv Γ121 (a_n + 2) ⟨kx34, [], [], 0, []⟩ [.arr a_n K6x a_c, (⟨⟨q_xa, q_xb, q_xk⟩, ⟨q_ya, q_yb, q_yk⟩⟩ : P2).av] Tryz.f30 0 (a_n + 2) (stL Tryz.f30.ntmps [.arr a_n K6x a_c, .non, .non, .own 35 [iv (⟨⟨q_xa, q_xb, q_xk⟩, ⟨q_ya, q_yb, q_yk⟩⟩ : P2).x.a, iv (⟨⟨q_xa, q_xb, q_xk⟩, ⟨q_ya, q_yb, q_yk⟩⟩ : P2).x.b, iv (⟨⟨q_xa, q_xb, q_xk⟩, ⟨q_ya, q_yb, q_yk⟩⟩ : P2).x.k, iv (⟨⟨q_xa, q_xb, q_xk⟩, ⟨q_ya, q_yb, q_yk⟩⟩ : P2).y.a, iv (⟨⟨q_xa, q_xb, q_xk⟩, ⟨q_ya, q_yb, q_yk⟩⟩ : P2).y.b, iv (⟨⟨q_xa, q_xb, q_xk⟩, ⟨q_ya, q_yb, q_yk⟩⟩ : P2).y.k], .non, iv (1), .non, .non, .arr a_n K6x a_c, iv (a_n : Int), iv (((0 : Nat) : Int))]) from by kernel_rfl).trans ?_
  rw [in_run _ a_n (⟨⟨q_xa, q_xb, q_xk⟩, ⟨q_ya, q_yb, q_yk⟩⟩ : P2) a_c (by omega) (by omega) (fun i hi => allF_iff.1 hb i (Nat.zero_le _) (by omega)) a_n 0 _ 1 (by omega) (by omega)]
  rfl
theorem m30 : Meets Tryz.prog GLv 30 s30 := by
  refine meetsW mix0 G121 Tryz.func30 (by kernel_rfl) (by kernel_rfl) s30 fun args x h => ?_
  unfold s30 at h
  split at h
  . rename_i a_n a_c q_xa q_xb q_xk q_ya q_yb q_yk
    simp only [Option.some.injEq, Prod.mk.injEq] at h
    obtain ⟨hp, rfl⟩ := h
    exact ⟨_, _, by kernel_rfl, e30 a_n a_c q_xa q_xb q_xk q_ya q_yb q_yk hp⟩
  . cases h
noncomputable abbrev Γ122 : List (Nat × Ctr) := (30, s30) :: Γ121
theorem G122 : Sound Tryz.prog GLv Γ122 := G121.cons m30
-- impl.InPolygon
noncomputable def s10 : Ctr := fun
  | [.arr a_n K6x a_c, .agg [.val (.int .i64 q_xa), .val (.int .i64 q_xb), .val (.int .i64 q_xk), .val (.int .i64 q_ya), .val (.int .i64 q_yb), .val (.int .i64 q_yk)]] => some (Nat.ble (a_n) 1048576, iv (ipV a_n a_c (⟨⟨q_xa, q_xb, q_xk⟩, ⟨q_ya, q_yb, q_yk⟩⟩ : P2)))
  | _ => none
theorem e10 (a_n : Nat) (a_c : NNI) (q_xa : Int) (q_xb : Int) (q_xk : Int) (q_ya : Int) (q_yb : Int) (q_yk : Int) (hp : (Nat.ble (a_n) 1048576) = true) : evN Tryz.prog GLv Γ122 (0) []  Tryz.f10 [.arr a_n K6x a_c, .agg [.val (.int .i64 q_xa), .val (.int .i64 q_xb), .val (.int .i64 q_xk), .val (.int .i64 q_ya), .val (.int .i64 q_yb), .val (.int .i64 q_yk)]] = some (iv (ipV a_n a_c (⟨⟨q_xa, q_xb, q_xk⟩, ⟨q_ya, q_yb, q_yk⟩⟩ : P2))) := by
  refine (show _ = cond (Nat.ble (a_n) 1048576) (cond (!(vpI a_n a_c)) (some (iv (-1))) (cond (!(valP (⟨⟨q_xa, q_xb, q_xk⟩, ⟨q_ya, q_yb, q_yk⟩⟩ : P2))) (some (iv (-1))) (cond (inB a_n 1 1000 && allF (fun i => orB (pAt a_c i) (pAt a_c ((i + 1) % a_n)) (⟨⟨q_xa, q_xb, q_xk⟩, ⟨q_ya, q_yb, q_yk⟩⟩ : P2)) 0 a_n) (some (iv (insV a_n a_c (⟨⟨q_xa, q_xb, q_xk⟩, ⟨q_ya, q_yb, q_yk⟩⟩ : P2)))) (none)))) (none) from by kernel_rfl).trans ?_
  rw [hp, vp_eq]
  unfold ipV
  cases hv : vpS a_n a_c with
  | false => rfl
  | true =>
    cases hq : valP (⟨⟨q_xa, q_xb, q_xk⟩, ⟨q_ya, q_yb, q_yk⟩⟩ : P2) with
    | false => rfl
    | true =>
      obtain ⟨h3, h16, _⟩ := vpS_in hv
      obtain ⟨P, hP⟩ := val_pt hq
      obtain ⟨_, _, ok⟩ := ins_val hv hq hP
      rw [show inB (a_n : Int) 1 1000 = true from inB_iff.2 (by omega), show allF (fun i => orB (pAt a_c i) (pAt a_c ((i + 1) % a_n)) (⟨⟨q_xa, q_xb, q_xk⟩, ⟨q_ya, q_yb, q_yk⟩⟩ : P2)) 0 a_n = true from allF_iff.2 fun i _ hi => ok i (by omega)]
      rfl
theorem m10 : Meets Tryz.prog GLv 10 s10 := by
  refine meetsN mix0 glv G122 Tryz.func10 (by kernel_rfl) (by kernel_rfl) s10 fun args x h => ?_
  unfold s10 at h
  split at h
  . rename_i a_n a_c q_xa q_xb q_xk q_ya q_yb q_yk
    simp only [Option.some.injEq, Prod.mk.injEq] at h
    obtain ⟨hp, rfl⟩ := h
    exact ⟨_, _, by kernel_rfl, e10 a_n a_c q_xa q_xb q_xk q_ya q_yb q_yk hp⟩
  . cases h
noncomputable abbrev Γ123 : List (Nat × Ctr) := (10, s10) :: Γ122
theorem G123 : Sound Tryz.prog GLv Γ123 := G122.cons m10
-- impl.overlap
noncomputable def s33 : Ctr := fun
  | [.arr a_n K6x a_c, .arr b_n K6x b_c] => some (inV a_n a_c b_n b_c, bv (decide (((inD a_n a_c b_n b_c).1 : Int) > 0)))
  | _ => none
theorem e33 (a_n : Nat) (a_c : NNI) (b_n : Nat) (b_c : NNI) (hp : (inV a_n a_c b_n b_c) = true) : evN Tryz.prog GLv Γ123 (0) []  Tryz.f33 [.arr a_n K6x a_c, .arr b_n K6x b_c] = some (bv (decide (((inD a_n a_c b_n b_c).1 : Int) > 0))) := by
  refine (show _ = cond (inV a_n a_c b_n b_c) (some (bv (decide (((inD a_n a_c b_n b_c).1 : Int) > 0)))) none from by kernel_rfl).trans ?_
  rw [hp]
  rfl
theorem m33 : Meets Tryz.prog GLv 33 s33 := by
  refine meetsN mix0 glv G123 Tryz.func33 (by kernel_rfl) (by kernel_rfl) s33 fun args x h => ?_
  unfold s33 at h
  split at h
  . rename_i a_n a_c b_n b_c
    simp only [Option.some.injEq, Prod.mk.injEq] at h
    obtain ⟨hp, rfl⟩ := h
    exact ⟨_, _, by kernel_rfl, e33 a_n a_c b_n b_c hp⟩
  . cases h
noncomputable abbrev Γ124 : List (Nat × Ctr) := (33, s33) :: Γ123
theorem G124 : Sound Tryz.prog GLv Γ124 := G123.cons m33
-- impl.OverlapPolygons
noncomputable def s12 : Ctr := fun
  | [.arr a_n K6x a_c, .arr b_n K6x b_c] => some (Nat.ble (a_n) 1048576 && Nat.ble (b_n) 1048576, bv (ovV a_n a_c b_n b_c))
  | _ => none
theorem e12 (a_n : Nat) (a_c : NNI) (b_n : Nat) (b_c : NNI) (hp : (Nat.ble (a_n) 1048576 && Nat.ble (b_n) 1048576) = true) : evN Tryz.prog GLv Γ124 (0) []  Tryz.f12 [.arr a_n K6x a_c, .arr b_n K6x b_c] = some (bv (ovV a_n a_c b_n b_c)) := by
  rw [Bool.and_eq_true] at hp
  refine (show _ = cond (Nat.ble (a_n) 1048576) (cond (vpI a_n a_c) (cond (Nat.ble (b_n) 1048576) (cond (vpI b_n b_c) (cond (inV a_n a_c b_n b_c) (some (bv (decide (((inD a_n a_c b_n b_c).1 : Int) > 0)))) (none)) (some (bv false))) (none)) (some (bv false))) (none) from by kernel_rfl).trans ?_
  rw [hp.1, hp.2, vp_eq, vp_eq]
  unfold ovV
  cases hV : inV a_n a_c b_n b_c with
  | true =>
    have hV' := hV
    unfold inV at hV'
    rw [Bool.and_eq_true] at hV'
    rw [hV'.1, hV'.2, show decide (((inD a_n a_c b_n b_c).1 : Int) > 0) = decide (0 < (inD a_n a_c b_n b_c).1) by simp]
    rfl
  | false =>
    have hV' := hV
    unfold inV at hV'
    cases ha : vpS a_n a_c with
    | false => rfl
    | true =>
      rw [ha, Bool.true_and] at hV'
      rw [hV']
      rfl
theorem m12 : Meets Tryz.prog GLv 12 s12 := by
  refine meetsN mix0 glv G124 Tryz.func12 (by kernel_rfl) (by kernel_rfl) s12 fun args x h => ?_
  unfold s12 at h
  split at h
  . rename_i a_n a_c b_n b_c
    simp only [Option.some.injEq, Prod.mk.injEq] at h
    obtain ⟨hp, rfl⟩ := h
    exact ⟨_, _, by kernel_rfl, e12 a_n a_c b_n b_c hp⟩
  . cases h
noncomputable abbrev Γ125 : List (Nat × Ctr) := (12, s12) :: Γ124
theorem G125 : Sound Tryz.prog GLv Γ125 := G124.cons m12
-- spec.ValidPolygon
noncomputable def s8 : Ctr := fun
  | [.arr a_n K6x a_c] => some (Nat.ble (a_n) 1048576, bv (vpS a_n a_c))
  | _ => none
theorem e8 (a_n : Nat) (a_c : NNI) (hp : (Nat.ble (a_n) 1048576) = true) : evN Tryz.prog GLv Γ125 (0) []  Tryz.f8 [.arr a_n K6x a_c] = some (bv (vpS a_n a_c)) := by
  refine (show _ = cond (Nat.ble (a_n) 1048576) (some (bv (vpS a_n a_c))) none from by kernel_rfl).trans ?_
  rw [hp]
  rfl
theorem m8 : Meets Tryz.prog GLv 8 s8 := by
  refine meetsN mix0 glv G125 Tryz.func8 (by kernel_rfl) (by kernel_rfl) s8 fun args x h => ?_
  unfold s8 at h
  split at h
  . rename_i a_n a_c
    simp only [Option.some.injEq, Prod.mk.injEq] at h
    obtain ⟨hp, rfl⟩ := h
    exact ⟨_, _, by kernel_rfl, e8 a_n a_c hp⟩
  . cases h
noncomputable abbrev Γ126 : List (Nat × Ctr) := (8, s8) :: Γ125
theorem G126 : Sound Tryz.prog GLv Γ126 := G125.cons m8
end Go.Proofs.YtdildcdilhgdkaaGreatDoor
