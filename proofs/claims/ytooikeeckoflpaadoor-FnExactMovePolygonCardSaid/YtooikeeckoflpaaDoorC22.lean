/- Contracts of the program's functions, by the evaluator. -/
import Derived.Test.YtooikeeckoflpaaDoorC21
import Derived.Test.YtooikeeckoflpaaDoorPlD
namespace Go.Proofs.YtooikeeckoflpaaDoor
open Go.Ev
set_option linter.unusedVariables false
set_option linter.unusedSimpArgs false
set_option maxRecDepth 100000

theorem ml_step (K n a_n i : Nat) (m : M8) (a_c d : Nat → Nat → Int) (lv : Bool) : runW Tryd.prog GLv Γ132 K ⟨[false, true, true, false, false, true, true], [], [(5, [0]), (31, [0])], 1, [some (73, [.int .i64, .int .i64, .int .i64, .int .i64, .int .i64, .int .i64])]⟩ [m.av, .arr a_n [.int .i64, .int .i64, .int .i64, .int .i64, .int .i64, .int .i64] a_c] Tryd.f34 0 (n + 1) (st2 Tryd.f34.ntmps [.non, .arr a_n [.int .i64, .int .i64, .int .i64, .int .i64, .int .i64, .int .i64] a_c, .own 75 [iv m.t, bv m.f, iv m.s.x.a, iv m.s.x.b, iv m.s.x.k, iv m.s.y.a, iv m.s.y.b, iv m.s.y.k], .non, .non, .sl Tryd.f34.ntmps (i), iv ((i : Int))] [.row (lv) 73 (i) [.int .i64, .int .i64, .int .i64, .int .i64, .int .i64, .int .i64] (d)]) = cond (decide ((i : Int) < (a_n : Int))) (cond (m.f) (cond ((decide (0 ≤ (wr (wr ((a_n : Int) - 1) - (i : Int)) : Int)) && decide ((wr (wr ((a_n : Int) - 1) - (i : Int)) : Int) < (a_n : Int)))) (cond (okM m.t (pAt a_c (wr (wr ((a_n : Int) - 1) - (i : Int))).toNat) m.s) (cond (Nat.ble ((i + 1) * 48) 140737488355328) (runW Tryd.prog GLv Γ132 K ⟨[false, true, true, false, false, true, true], [], [(5, [0]), (31, [0])], 1, [some (73, [.int .i64, .int .i64, .int .i64, .int .i64, .int .i64, .int .i64])]⟩ [m.av, .arr a_n [.int .i64, .int .i64, .int .i64, .int .i64, .int .i64, .int .i64] a_c] Tryd.f34 0 n (st2 Tryd.f34.ntmps [.non, .arr a_n [.int .i64, .int .i64, .int .i64, .int .i64, .int .i64, .int .i64] a_c, .own 75 [iv m.t, bv m.f, iv m.s.x.a, iv m.s.x.b, iv m.s.x.k, iv m.s.y.a, iv m.s.y.b, iv m.s.y.k], .non, .non, .sl Tryd.f34.ntmps (i + 1), iv (wr ((i : Int) + 1))] [.row (true) 73 (i + 1) [.int .i64, .int .i64, .int .i64, .int .i64, .int .i64, .int .i64] (catC i d (listC [cell6 (mwR m (pAt a_c (wr (wr ((a_n : Int) - 1) - (i : Int))).toNat))]))])) (none)) (none)) (none)) (cond ((decide (0 ≤ ((i : Int) : Int)) && decide (((i : Int) : Int) < (a_n : Int)))) (cond (okM m.t (pAt a_c ((i : Int)).toNat) m.s) (cond (Nat.ble ((i + 1) * 48) 140737488355328) (runW Tryd.prog GLv Γ132 K ⟨[false, true, true, false, false, true, true], [], [(5, [0]), (31, [0])], 1, [some (73, [.int .i64, .int .i64, .int .i64, .int .i64, .int .i64, .int .i64])]⟩ [m.av, .arr a_n [.int .i64, .int .i64, .int .i64, .int .i64, .int .i64, .int .i64] a_c] Tryd.f34 0 n (st2 Tryd.f34.ntmps [.non, .arr a_n [.int .i64, .int .i64, .int .i64, .int .i64, .int .i64, .int .i64] a_c, .own 75 [iv m.t, bv m.f, iv m.s.x.a, iv m.s.x.b, iv m.s.x.k, iv m.s.y.a, iv m.s.y.b, iv m.s.y.k], .non, .non, .sl Tryd.f34.ntmps (i + 1), iv (wr ((i : Int) + 1))] [.row (true) 73 (i + 1) [.int .i64, .int .i64, .int .i64, .int .i64, .int .i64, .int .i64] (catC i d (listC [cell6 (mwR m (pAt a_c ((i : Int)).toNat))]))])) (none)) (none)) (none))) (some (AV.row (lv) 73 (i) [.int .i64, .int .i64, .int .i64, .int .i64, .int .i64, .int .i64] (d))) := by kernel_rfl

theorem ml_run (K a_n : Nat) (m : M8) (a_c : Nat → Nat → Int) (hn : a_n ≤ 1000) (hm : m.valid = true) (hv : ∀ i, i < a_n → valP (pAt a_c i) = true) : ∀ (r i n : Nat) (d : Nat → Nat → Int) (lv : Bool), i + r = a_n → r < n → runW Tryd.prog GLv Γ132 K ⟨[false, true, true, false, false, true, true], [], [(5, [0]), (31, [0])], 1, [some (73, [.int .i64, .int .i64, .int .i64, .int .i64, .int .i64, .int .i64])]⟩ [m.av, .arr a_n [.int .i64, .int .i64, .int .i64, .int .i64, .int .i64, .int .i64] a_c] Tryd.f34 0 n (st2 Tryd.f34.ntmps [.non, .arr a_n [.int .i64, .int .i64, .int .i64, .int .i64, .int .i64, .int .i64] a_c, .own 75 [iv m.t, bv m.f, iv m.s.x.a, iv m.s.x.b, iv m.s.x.k, iv m.s.y.a, iv m.s.y.b, iv m.s.y.k], .non, .non, .sl Tryd.f34.ntmps (i), iv ((i : Int))] [.row (lv) 73 (i) [.int .i64, .int .i64, .int .i64, .int .i64, .int .i64, .int .i64] (d)]) = some (AV.row (lv || Nat.blt 0 r) 73 (a_n) [.int .i64, .int .i64, .int .i64, .int .i64, .int .i64, .int .i64] (appF (fun j => cell6 (mwR m (pAt a_c (flI m.f a_n j)))) i r d)) := by
  intro r
  induction r with
  | zero =>
    intro i n d lv h1 h2
    obtain ⟨n, rfl⟩ : ∃ n', n = n' + 1 := ⟨n - 1, by omega⟩
    rw [ml_step, nat_lt i a_n, show decide (i < a_n) = false by simp; omega, show i = a_n by omega]
    cases lv <;> rfl
  | succ r ih =>
    intro i n d lv h1 h2
    obtain ⟨n, rfl⟩ : ∃ n', n = n' + 1 := ⟨n - 1, by omega⟩
    have hi := flI_lt (f := m.f) (show i < a_n by omega)
    have hp := hv _ hi
    have ek : cond m.f (wr (wr ((a_n : Int) - 1) - (i : Int))) (i : Int) = ((flI m.f a_n i : Nat) : Int) := by
      unfold flI
      cases m.f with
      | true => simp only [cond_true]; rw [wr_in (n := (a_n : Int) - 1) (by omega) (by omega), wr_in (by omega) (by omega)]; omega
      | false => rfl
    have two : ∀ g : Int → Option AV, cond m.f (g (wr (wr ((a_n : Int) - 1) - (i : Int)))) (g (i : Int)) = g ((flI m.f a_n i : Nat) : Int) := fun g => by
      rw [← ek]
      cases m.f <;> rfl
    have hc : decide ((i : Int) < (a_n : Int)) = true := by simp; omega
    refine (ml_step K n a_n i m a_c d lv).trans ?_
    refine (congrArg (fun b => cond b _ _) hc).trans ?_
    refine (two (fun k => cond ((decide (0 ≤ k) && decide (k < (a_n : Int)))) (cond (okM m.t (pAt a_c (k).toNat) m.s) (cond (Nat.ble ((i + 1) * 48) 140737488355328) (runW Tryd.prog GLv Γ132 K ⟨[false, true, true, false, false, true, true], [], [(5, [0]), (31, [0])], 1, [some (73, [.int .i64, .int .i64, .int .i64, .int .i64, .int .i64, .int .i64])]⟩ [m.av, .arr a_n [.int .i64, .int .i64, .int .i64, .int .i64, .int .i64, .int .i64] a_c] Tryd.f34 0 n (st2 Tryd.f34.ntmps [.non, .arr a_n [.int .i64, .int .i64, .int .i64, .int .i64, .int .i64, .int .i64] a_c, .own 75 [iv m.t, bv m.f, iv m.s.x.a, iv m.s.x.b, iv m.s.x.k, iv m.s.y.a, iv m.s.y.b, iv m.s.y.k], .non, .non, .sl Tryd.f34.ntmps (i + 1), iv (wr ((i : Int) + 1))] [.row (true) 73 (i + 1) [.int .i64, .int .i64, .int .i64, .int .i64, .int .i64, .int .i64] (catC i d (listC [cell6 (mwR m (pAt a_c (k).toNat))]))])) (none)) (none)) (none))).trans ?_
    simp only [Int.toNat_natCast]
    rw [nat_nn, nat_lt _ a_n, show decide (flI m.f a_n i < a_n) = true by simpa using hi, mw_okM hm hp, show Nat.ble ((i + 1) * 48) 140737488355328 = true from Nat.ble_eq_true_of_le (by omega)]
    simp only [Bool.and_self, cond_true]
    rw [wr_succ (by omega), ih (i + 1) n _ true (by omega) (by omega), show (lv || Nat.blt 0 (r + 1)) = true by rw [show Nat.blt 0 (r + 1) = true from Nat.ble_eq_true_of_le (by omega), Bool.or_true]]
    rfl

-- spec.l04Polygon
def s34 : Ctr := fun
  | [.agg [.val (.int .i64 m_t), .val (.bool m_f), .val (.int .i64 m_xa), .val (.int .i64 m_xb), .val (.int .i64 m_xk), .val (.int .i64 m_ya), .val (.int .i64 m_yb), .val (.int .i64 m_yk)], .arr a_n [.int .i64, .int .i64, .int .i64, .int .i64, .int .i64, .int .i64] a_c] => some ((⟨m_t, m_f, (⟨⟨m_xa, m_xb, m_xk⟩, ⟨m_ya, m_yb, m_yk⟩⟩ : P2)⟩ : M8).valid && (Nat.ble a_n 1000 && allP a_n a_c), AV.row (Nat.blt 0 a_n) 73 a_n [.int .i64, .int .i64, .int .i64, .int .i64, .int .i64, .int .i64] (mwS (⟨m_t, m_f, (⟨⟨m_xa, m_xb, m_xk⟩, ⟨m_ya, m_yb, m_yk⟩⟩ : P2)⟩ : M8) a_n a_c))
  | _ => none

theorem e34 (m_t : Int) (m_f : Bool) (m_xa : Int) (m_xb : Int) (m_xk : Int) (m_ya : Int) (m_yb : Int) (m_yk : Int) (a_n : Nat) (a_c : Nat → Nat → Int) (hp : ((⟨m_t, m_f, (⟨⟨m_xa, m_xb, m_xk⟩, ⟨m_ya, m_yb, m_yk⟩⟩ : P2)⟩ : M8).valid && (Nat.ble a_n 1000 && allP a_n a_c)) = true) : evW Tryd.prog GLv Γ132 (a_n + 2) (⟨[false, true, true, false, false, true, true], [], [(5, [0]), (31, [0])], 1, [some (73, [.int .i64, .int .i64, .int .i64, .int .i64, .int .i64, .int .i64])]⟩)  Tryd.f34 [.agg [.val (.int .i64 m_t), .val (.bool m_f), .val (.int .i64 m_xa), .val (.int .i64 m_xb), .val (.int .i64 m_xk), .val (.int .i64 m_ya), .val (.int .i64 m_yb), .val (.int .i64 m_yk)], .arr a_n [.int .i64, .int .i64, .int .i64, .int .i64, .int .i64, .int .i64] a_c] = some (AV.row (Nat.blt 0 a_n) 73 a_n [.int .i64, .int .i64, .int .i64, .int .i64, .int .i64, .int .i64] (mwS (⟨m_t, m_f, (⟨⟨m_xa, m_xb, m_xk⟩, ⟨m_ya, m_yb, m_yk⟩⟩ : P2)⟩ : M8) a_n a_c)) := by
  rw [Bool.and_eq_true, Bool.and_eq_true] at hp
  obtain ⟨hm, hn, ha⟩ := hp
  have hn := Nat.le_of_ble_eq_true hn
  refine (show _ = runW Tryd.prog GLv Γ132 (a_n + 2) ⟨[false, true, true, false, false, true, true], [], [(5, [0]), (31, [0])], 1, [some (73, [.int .i64, .int .i64, .int .i64, .int .i64, .int .i64, .int .i64])]⟩ [(⟨m_t, m_f, (⟨⟨m_xa, m_xb, m_xk⟩, ⟨m_ya, m_yb, m_yk⟩⟩ : P2)⟩ : M8).av, .arr a_n [.int .i64, .int .i64, .int .i64, .int .i64, .int .i64, .int .i64] a_c] Tryd.f34 0 (a_n + 2) (st2 Tryd.f34.ntmps [.non, .arr a_n [.int .i64, .int .i64, .int .i64, .int .i64, .int .i64, .int .i64] a_c, .own 75 [iv (⟨m_t, m_f, (⟨⟨m_xa, m_xb, m_xk⟩, ⟨m_ya, m_yb, m_yk⟩⟩ : P2)⟩ : M8).t, bv (⟨m_t, m_f, (⟨⟨m_xa, m_xb, m_xk⟩, ⟨m_ya, m_yb, m_yk⟩⟩ : P2)⟩ : M8).f, iv (⟨m_t, m_f, (⟨⟨m_xa, m_xb, m_xk⟩, ⟨m_ya, m_yb, m_yk⟩⟩ : P2)⟩ : M8).s.x.a, iv (⟨m_t, m_f, (⟨⟨m_xa, m_xb, m_xk⟩, ⟨m_ya, m_yb, m_yk⟩⟩ : P2)⟩ : M8).s.x.b, iv (⟨m_t, m_f, (⟨⟨m_xa, m_xb, m_xk⟩, ⟨m_ya, m_yb, m_yk⟩⟩ : P2)⟩ : M8).s.x.k, iv (⟨m_t, m_f, (⟨⟨m_xa, m_xb, m_xk⟩, ⟨m_ya, m_yb, m_yk⟩⟩ : P2)⟩ : M8).s.y.a, iv (⟨m_t, m_f, (⟨⟨m_xa, m_xb, m_xk⟩, ⟨m_ya, m_yb, m_yk⟩⟩ : P2)⟩ : M8).s.y.b, iv (⟨m_t, m_f, (⟨⟨m_xa, m_xb, m_xk⟩, ⟨m_ya, m_yb, m_yk⟩⟩ : P2)⟩ : M8).s.y.k], .non, .non, .sl Tryd.f34.ntmps (0), iv (((0 : Nat) : Int))] [.row (false) 73 (0) [.int .i64, .int .i64, .int .i64, .int .i64, .int .i64, .int .i64] (zeroC)]) from by kernel_rfl).trans ?_
  rw [ml_run _ a_n (⟨m_t, m_f, (⟨⟨m_xa, m_xb, m_xk⟩, ⟨m_ya, m_yb, m_yk⟩⟩ : P2)⟩ : M8) a_c hn hm (allP_iff.1 ha) a_n 0 _ zeroC false (by omega) (by omega)]
  rfl
theorem m34 : Meets Tryd.prog GLv 34 s34 := by
  refine meetsW mix0 G132 Tryd.func34 (by kernel_rfl) (by kernel_rfl) s34 fun args x h => ?_
  unfold s34 at h
  split at h
  · rename_i m_t m_f m_xa m_xb m_xk m_ya m_yb m_yk a_n a_c
    simp only [Option.some.injEq, Prod.mk.injEq] at h
    obtain ⟨hp, rfl⟩ := h
    exact ⟨_, _, by kernel_rfl, e34 m_t m_f m_xa m_xb m_xk m_ya m_yb m_yk a_n a_c hp⟩
  · cases h
abbrev Γ133 : List (Nat × Ctr) := (34, s34) :: Γ132
theorem G133 : Sound Tryd.prog GLv Γ133 := G132.cons m34

-- spec.MovePolygon
def s13 : Ctr := fun
  | [.agg [.val (.int .i64 m_t), .val (.bool m_f), .val (.int .i64 m_xa), .val (.int .i64 m_xb), .val (.int .i64 m_xk), .val (.int .i64 m_ya), .val (.int .i64 m_yb), .val (.int .i64 m_yk)], .arr a_n [.int .i64, .int .i64, .int .i64, .int .i64, .int .i64, .int .i64] a_c] => some (Nat.ble (a_n) 1048576, AV.tup [AV.row (mpO (⟨m_t, m_f, (⟨⟨m_xa, m_xb, m_xk⟩, ⟨m_ya, m_yb, m_yk⟩⟩ : P2)⟩ : M8) a_n a_c) 62 (mpN (⟨m_t, m_f, (⟨⟨m_xa, m_xb, m_xk⟩, ⟨m_ya, m_yb, m_yk⟩⟩ : P2)⟩ : M8) a_n a_c) [.int .i64, .int .i64, .int .i64, .int .i64, .int .i64, .int .i64] (mpT (⟨m_t, m_f, (⟨⟨m_xa, m_xb, m_xk⟩, ⟨m_ya, m_yb, m_yk⟩⟩ : P2)⟩ : M8) a_n a_c), bv (mpO (⟨m_t, m_f, (⟨⟨m_xa, m_xb, m_xk⟩, ⟨m_ya, m_yb, m_yk⟩⟩ : P2)⟩ : M8) a_n a_c)])
  | _ => none

theorem e13 (m_t : Int) (m_f : Bool) (m_xa : Int) (m_xb : Int) (m_xk : Int) (m_ya : Int) (m_yb : Int) (m_yk : Int) (a_n : Nat) (a_c : Nat → Nat → Int) (hp : (Nat.ble (a_n) 1048576) = true) : evW Tryd.prog GLv Γ133 (0) (⟨[], [], [(18, [0]), (19, [1]), (20, [2])], 3, [some (62, [.int .i64, .int .i64, .int .i64, .int .i64, .int .i64, .int .i64]), none]⟩)  Tryd.f13 [.agg [.val (.int .i64 m_t), .val (.bool m_f), .val (.int .i64 m_xa), .val (.int .i64 m_xb), .val (.int .i64 m_xk), .val (.int .i64 m_ya), .val (.int .i64 m_yb), .val (.int .i64 m_yk)], .arr a_n [.int .i64, .int .i64, .int .i64, .int .i64, .int .i64, .int .i64] a_c] = some (AV.tup [AV.row (mpO (⟨m_t, m_f, (⟨⟨m_xa, m_xb, m_xk⟩, ⟨m_ya, m_yb, m_yk⟩⟩ : P2)⟩ : M8) a_n a_c) 62 (mpN (⟨m_t, m_f, (⟨⟨m_xa, m_xb, m_xk⟩, ⟨m_ya, m_yb, m_yk⟩⟩ : P2)⟩ : M8) a_n a_c) [.int .i64, .int .i64, .int .i64, .int .i64, .int .i64, .int .i64] (mpT (⟨m_t, m_f, (⟨⟨m_xa, m_xb, m_xk⟩, ⟨m_ya, m_yb, m_yk⟩⟩ : P2)⟩ : M8) a_n a_c), bv (mpO (⟨m_t, m_f, (⟨⟨m_xa, m_xb, m_xk⟩, ⟨m_ya, m_yb, m_yk⟩⟩ : P2)⟩ : M8) a_n a_c)]) := by
  refine (show _ = cond (!(inB m_t 0 7 && valP (⟨⟨m_xa, m_xb, m_xk⟩, ⟨m_ya, m_yb, m_yk⟩⟩ : P2))) (some (AV.tup [AV.row false 62 0 [.int .i64, .int .i64, .int .i64, .int .i64, .int .i64, .int .i64] fun _ _ => 0, bv false])) (cond (Nat.ble (a_n) 1048576) (cond (!(vpS a_n a_c)) (some (AV.tup [AV.row false 62 0 [.int .i64, .int .i64, .int .i64, .int .i64, .int .i64, .int .i64] fun _ _ => 0, bv false])) (cond (inB (a_n : Int) 1 1048576) (cond ((⟨m_t, m_f, (⟨⟨m_xa, m_xb, m_xk⟩, ⟨m_ya, m_yb, m_yk⟩⟩ : P2)⟩ : M8).valid && (Nat.ble a_n 1000 && allP a_n (wideC a_n a_c))) (cond (Nat.ble a_n 1000000 && allF (cqK (mwS (⟨m_t, m_f, (⟨⟨m_xa, m_xb, m_xk⟩, ⟨m_ya, m_yb, m_yk⟩⟩ : P2)⟩ : M8) a_n (wideC a_n a_c))) 0 a_n) (some (AV.tup [AV.row ((cqB a_n (mwS (⟨m_t, m_f, (⟨⟨m_xa, m_xb, m_xk⟩, ⟨m_ya, m_yb, m_yk⟩⟩ : P2)⟩ : M8) a_n (wideC a_n a_c))) && Nat.blt 0 a_n) 62 (cond (cqB a_n (mwS (⟨m_t, m_f, (⟨⟨m_xa, m_xb, m_xk⟩, ⟨m_ya, m_yb, m_yk⟩⟩ : P2)⟩ : M8) a_n (wideC a_n a_c))) a_n 0) [.int .i64, .int .i64, .int .i64, .int .i64, .int .i64, .int .i64] (cond ((cqB a_n (mwS (⟨m_t, m_f, (⟨⟨m_xa, m_xb, m_xk⟩, ⟨m_ya, m_yb, m_yk⟩⟩ : P2)⟩ : M8) a_n (wideC a_n a_c))) && Nat.blt 0 a_n) (nmR a_n (cqD a_n (mwS (⟨m_t, m_f, (⟨⟨m_xa, m_xb, m_xk⟩, ⟨m_ya, m_yb, m_yk⟩⟩ : P2)⟩ : M8) a_n (wideC a_n a_c)))) zeroC), bv (cqB a_n (mwS (⟨m_t, m_f, (⟨⟨m_xa, m_xb, m_xk⟩, ⟨m_ya, m_yb, m_yk⟩⟩ : P2)⟩ : M8) a_n (wideC a_n a_c)))])) (none)) (none)) (none))) (none)) from by kernel_rfl).trans ?_
  rw [hp, mwS_wide]
  cases hm : (inB m_t 0 7 && valP (⟨⟨m_xa, m_xb, m_xk⟩, ⟨m_ya, m_yb, m_yk⟩⟩ : P2)) with
  | false =>
    have hV : mpV (⟨m_t, m_f, (⟨⟨m_xa, m_xb, m_xk⟩, ⟨m_ya, m_yb, m_yk⟩⟩ : P2)⟩ : M8) a_n a_c = false := by unfold mpV M8.valid; rw [show (inB m_t 0 7 && valP (⟨⟨m_xa, m_xb, m_xk⟩, ⟨m_ya, m_yb, m_yk⟩⟩ : P2)) = false from hm]; rfl
    unfold mpN mpT mpO; rw [hV]; rfl
  | true =>
    cases hv : vpS a_n a_c with
    | false =>
      have hV : mpV (⟨m_t, m_f, (⟨⟨m_xa, m_xb, m_xk⟩, ⟨m_ya, m_yb, m_yk⟩⟩ : P2)⟩ : M8) a_n a_c = false := by unfold mpV; rw [hv, Bool.and_false]
      unfold mpN mpT mpO; rw [hV]; rfl
    | true =>
      have hV : mpV (⟨m_t, m_f, (⟨⟨m_xa, m_xb, m_xk⟩, ⟨m_ya, m_yb, m_yk⟩⟩ : P2)⟩ : M8) a_n a_c = true := by unfold mpV M8.valid; rw [hv, show (inB m_t 0 7 && valP (⟨⟨m_xa, m_xb, m_xk⟩, ⟨m_ya, m_yb, m_yk⟩⟩ : P2)) = true from hm]; rfl
      obtain ⟨h3, h16, ha⟩ := vpS_in hv
      have mw := mw_all (m := (⟨m_t, m_f, (⟨⟨m_xa, m_xb, m_xk⟩, ⟨m_ya, m_yb, m_yk⟩⟩ : P2)⟩ : M8)) (n := a_n) (c := a_c) hm (allP_iff.1 ha)
      unfold mpN mpT mpO
      rw [hV, mw.k2, mw.b, allP_wide, ha, show ((⟨m_t, m_f, (⟨⟨m_xa, m_xb, m_xk⟩, ⟨m_ya, m_yb, m_yk⟩⟩ : P2)⟩ : M8)).valid = true from hm, show Nat.ble a_n 1000 = true from Nat.ble_eq_true_of_le (by omega), show Nat.ble a_n 1000000 = true from Nat.ble_eq_true_of_le (by omega), show inB (a_n : Int) 1 1048576 = true from inB_iff.2 (by omega), show Nat.blt 0 a_n = true from Nat.ble_eq_true_of_le (by omega)]
      cases cqB a_n (mwD (⟨m_t, m_f, (⟨⟨m_xa, m_xb, m_xk⟩, ⟨m_ya, m_yb, m_yk⟩⟩ : P2)⟩ : M8) a_n a_c) <;> rfl
theorem m13 : Meets Tryd.prog GLv 13 s13 := by
  refine meetsW mix0 G133 Tryd.func13 (by kernel_rfl) (by kernel_rfl) s13 fun args x h => ?_
  unfold s13 at h
  split at h
  · rename_i m_t m_f m_xa m_xb m_xk m_ya m_yb m_yk a_n a_c
    simp only [Option.some.injEq, Prod.mk.injEq] at h
    obtain ⟨hp, rfl⟩ := h
    exact ⟨_, _, by kernel_rfl, e13 m_t m_f m_xa m_xb m_xk m_ya m_yb m_yk a_n a_c hp⟩
  · cases h
abbrev Γ134 : List (Nat × Ctr) := (13, s13) :: Γ133
theorem G134 : Sound Tryd.prog GLv Γ134 := G133.cons m13

end Go.Proofs.YtooikeeckoflpaaDoor
