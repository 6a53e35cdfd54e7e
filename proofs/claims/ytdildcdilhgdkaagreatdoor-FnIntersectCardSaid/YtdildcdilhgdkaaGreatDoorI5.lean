/- Contracts of the program's functions, by the evaluator. -/
import Derived.Test.YtdildcdilhgdkaaGreatDoorL4
import Derived.Test.YtdildcdilhgdkaaGreatDoorPlF
namespace Go.Proofs.YtdildcdilhgdkaaGreatDoor
open Go.Ev
set_option linter.unusedVariables false
set_option linter.unusedSimpArgs false
set_option maxRecDepth 100000
structure Iso where
  lv : Bool
  n : Nat
  c : NNI
  e : Int
theorem iso_ex (n : Nat) (a : NNI) (m : Nat) (b : NNI) : ∃ r : Iso, r = ⟨inO n a m b && Nat.blt 0 (inC n a m b).1, inN n a m b, inI n a m b, inE n a m b⟩ := ⟨_, rfl⟩
noncomputable def isoV (n : Nat) (a : NNI) (m : Nat) (b : NNI) : Iso := Classical.choose (iso_ex n a m b)
theorem isoV_eq (n : Nat) (a : NNI) (m : Nat) (b : NNI) : isoV n a m b = ⟨inO n a m b && Nat.blt 0 (inC n a m b).1, inN n a m b, inI n a m b, inE n a m b⟩ := Classical.choose_spec (iso_ex n a m b)
noncomputable def s13o : Ctr := fun
  | [.arr a_n K6x a_c, .arr b_n K6x b_c] => some (Nat.ble (a_n) 1048576 && Nat.ble (b_n) 1048576, AV.tup [AV.row (isoV a_n a_c b_n b_c).lv 35 (isoV a_n a_c b_n b_c).n K6x (isoV a_n a_c b_n b_c).c, iv (isoV a_n a_c b_n b_c).e])
  | _ => none
theorem s13o_eq : s13o = s13 := by
  funext args
  unfold s13o s13
  split <;> simp only [isoV_eq]
theorem m13o : Meets Tryz.prog GLv 13 s13o := by rw [s13o_eq]; exact m13
noncomputable abbrev Γ136 : List (Nat × Ctr) := (13, s13o) :: Γ135
theorem G136 : Sound Tryz.prog GLv Γ136 := G135.cons m13o
theorem fi_21 (K e_n : Nat) (e_c : NNI) (m_n : Nat) (m_c : NNI) (n : Nat) (c : NNI) (k : Nat) (b : NNI) (nx : Nat) (cx : NNI) (p : P2) (both : Bool) (ns : Nat) (cs : NNI) (e : Int) : (fromW Tryz.prog GLv Γ136 K ⟨kx10, [(4, kx9), (6, kx11), (8, kx12), (11, kx1), (18, kx1), (19, kx13), (21, kx14)], [], 0, []⟩ [.arr e_n [.int .u8] e_c, .arr m_n [.int .u8] m_c] Tryz.f4 21 (stL Tryz.f4.ntmps [.non, .non, .non, .non, .non, .arr n K6x c, .non, .non, .arr nx K6x cx, .non, .non, .non, .non, .non, .non, .non, .non, .own 35 [iv p.x.a, iv p.x.b, iv p.x.k, iv p.y.a, iv p.y.b, iv p.y.k], .non, bv (both), .arr ns K6x cs, iv e])) = cond (Nat.ble (nx) 1048576) (cond (both == decide ((ipV nx cx p) > 0)) (cond (e == 0) (cond (Nat.ble (ns) 1048576) (some (bv (eqPS ns cs n c))) (none)) ((some (bv false)))) ((some (bv false)))) (none) := by kernel_rfl
theorem fi_19 (K e_n : Nat) (e_c : NNI) (m_n : Nat) (m_c : NNI) (n : Nat) (c : NNI) (k : Nat) (b : NNI) (nx : Nat) (cx : NNI) (p : P2) : (fromW Tryz.prog GLv Γ136 K ⟨kx10, [(4, kx9), (6, kx11), (8, kx12), (11, kx1), (18, kx1), (19, kx13), (21, kx14)], [], 0, []⟩ [.arr e_n [.int .u8] e_c, .arr m_n [.int .u8] m_c] Tryz.f4 19 (stL Tryz.f4.ntmps [.non, .non, .non, .non, .non, .arr n K6x c, .arr k K6x b, .non, .arr nx K6x cx, .non, .non, .non, .non, .non, .non, .non, .non, .own 35 [iv p.x.a, iv p.x.b, iv p.x.k, iv p.y.a, iv p.y.b, iv p.y.k]])) = cond (Nat.ble (n) 1048576) (cond (decide ((ipV n c p) > 0)) (cond (Nat.ble (k) 1048576) (cond (Nat.ble (n) 1048576 && Nat.ble (n) 1048576) ((fromW Tryz.prog GLv Γ136 K ⟨kx10, [(4, kx9), (6, kx11), (8, kx12), (11, kx1), (18, kx1), (19, kx13), (21, kx14)], [], 0, []⟩ [.arr e_n [.int .u8] e_c, .arr m_n [.int .u8] m_c] Tryz.f4 21 (stL Tryz.f4.ntmps [.non, .non, .non, .non, .non, .arr n K6x c, .non, .non, .arr nx K6x cx, .non, .non, .non, .non, .non, .non, .non, .non, .own 35 [iv p.x.a, iv p.x.b, iv p.x.k, iv p.y.a, iv p.y.b, iv p.y.k], .non, bv (decide ((ipV k b p) > 0)), .arr (isoV n c n c).n K6x (isoV n c n c).c, iv (isoV n c n c).e]))) (none)) (none)) (cond (Nat.ble (n) 1048576 && Nat.ble (n) 1048576) ((fromW Tryz.prog GLv Γ136 K ⟨kx10, [(4, kx9), (6, kx11), (8, kx12), (11, kx1), (18, kx1), (19, kx13), (21, kx14)], [], 0, []⟩ [.arr e_n [.int .u8] e_c, .arr m_n [.int .u8] m_c] Tryz.f4 21 (stL Tryz.f4.ntmps [.non, .non, .non, .non, .non, .arr n K6x c, .non, .non, .arr nx K6x cx, .non, .non, .non, .non, .non, .non, .non, .non, .own 35 [iv p.x.a, iv p.x.b, iv p.x.k, iv p.y.a, iv p.y.b, iv p.y.k], .non, bv (false), .arr (isoV n c n c).n K6x (isoV n c n c).c, iv (isoV n c n c).e]))) (none))) (none) := by kernel_rfl
theorem fi_18 (K e_n : Nat) (e_c : NNI) (m_n : Nat) (m_c : NNI) (n : Nat) (c : NNI) (k : Nat) (b : NNI) (nx : Nat) (cx : NNI) : (fromW Tryz.prog GLv Γ136 K ⟨kx10, [(4, kx9), (6, kx11), (8, kx12), (11, kx1), (18, kx1), (19, kx13), (21, kx14)], [], 0, []⟩ [.arr e_n [.int .u8] e_c, .arr m_n [.int .u8] m_c] Tryz.f4 18 (stL Tryz.f4.ntmps [.non, .arr m_n [.int .u8] m_c, .non, .non, .non, .arr n K6x c, .arr k K6x b, .non, .arr nx K6x cx])) = (fromW Tryz.prog GLv Γ136 K ⟨kx10, [(4, kx9), (6, kx11), (8, kx12), (11, kx1), (18, kx1), (19, kx13), (21, kx14)], [], 0, []⟩ [.arr e_n [.int .u8] e_c, .arr m_n [.int .u8] m_c] Tryz.f4 19 (stL Tryz.f4.ntmps [.non, .non, .non, .non, .non, .arr n K6x c, .arr k K6x b, .non, .arr nx K6x cx, .non, .non, .non, .non, .non, .non, .non, .non, .own 35 [iv (geoV (srcOf m_n m_c)).p.x.a, iv (geoV (srcOf m_n m_c)).p.x.b, iv (geoV (srcOf m_n m_c)).p.x.k, iv (geoV (srcOf m_n m_c)).p.y.a, iv (geoV (srcOf m_n m_c)).p.y.b, iv (geoV (srcOf m_n m_c)).p.y.k]])) := by kernel_rfl
theorem fi_step (K e_n : Nat) (e_c : NNI) (m_n : Nat) (m_c : NNI) (n : Nat) (c : NNI) (k : Nat) (b : NNI) (nx : Nat) (cx : NNI) (r i : Nat) : (runW Tryz.prog GLv Γ136 K ⟨kx10, [(4, kx9), (6, kx11), (8, kx12), (11, kx1), (18, kx1), (19, kx13), (21, kx14)], [], 0, []⟩ [.arr e_n [.int .u8] e_c, .arr m_n [.int .u8] m_c] Tryz.f4 0 (r + 1) (stL Tryz.f4.ntmps [.non, .arr m_n [.int .u8] m_c, .non, .non, .non, .arr n K6x c, .arr k K6x b, .non, .arr nx K6x cx, .non, .non, .non, .non, .non, iv ((i : Int))])) = cond (decide ((i : Int) < (nx : Int))) (cond ((decide (0 <= (i : Int)) && decide ((i : Int) < (nx : Int)))) (cond (Nat.ble (n) 1048576) (cond (decide ((ipV n c (pAt cx i)) < 0)) ((some (bv false))) (cond ((decide (0 <= (i : Int)) && decide ((i : Int) < (nx : Int)))) (cond (Nat.ble (k) 1048576) (cond (decide ((ipV k b (pAt cx i)) < 0)) ((some (bv false))) ((runW Tryz.prog GLv Γ136 K ⟨kx10, [(4, kx9), (6, kx11), (8, kx12), (11, kx1), (18, kx1), (19, kx13), (21, kx14)], [], 0, []⟩ [.arr e_n [.int .u8] e_c, .arr m_n [.int .u8] m_c] Tryz.f4 0 r (stL Tryz.f4.ntmps [.non, .arr m_n [.int .u8] m_c, .non, .non, .non, .arr n K6x c, .arr k K6x b, .non, .arr nx K6x cx, .non, .non, .non, .non, .non, iv (wr ((i : Int) + 1))])))) (none)) (none))) (none)) (none)) ((fromW Tryz.prog GLv Γ136 K ⟨kx10, [(4, kx9), (6, kx11), (8, kx12), (11, kx1), (18, kx1), (19, kx13), (21, kx14)], [], 0, []⟩ [.arr e_n [.int .u8] e_c, .arr m_n [.int .u8] m_c] Tryz.f4 18 (stL Tryz.f4.ntmps [.non, .arr m_n [.int .u8] m_c, .non, .non, .non, .arr n K6x c, .arr k K6x b, .non, .arr nx K6x cx]))) := by kernel_rfl
theorem fi_11 (K e_n : Nat) (e_c : NNI) (m_n : Nat) (m_c : NNI) (n : Nat) (c : NNI) (k : Nat) (b : NNI) (nx : Nat) (cx : NNI) : (fromW Tryz.prog GLv Γ136 K ⟨kx10, [(4, kx9), (6, kx11), (8, kx12), (11, kx1), (18, kx1), (19, kx13), (21, kx14)], [], 0, []⟩ [.arr e_n [.int .u8] e_c, .arr m_n [.int .u8] m_c] Tryz.f4 11 (stL Tryz.f4.ntmps [.non, .arr m_n [.int .u8] m_c, .non, .non, .non, .arr n K6x c, .arr k K6x b, .non, .arr nx K6x cx])) = cond (Nat.ble (n) 1048576 && Nat.ble (k) 1048576) (cond (ovV n c k b != decide ((nx : Int) > 0)) ((some (bv false))) ((runW Tryz.prog GLv Γ136 K ⟨kx10, [(4, kx9), (6, kx11), (8, kx12), (11, kx1), (18, kx1), (19, kx13), (21, kx14)], [], 0, []⟩ [.arr e_n [.int .u8] e_c, .arr m_n [.int .u8] m_c] Tryz.f4 0 K (stL Tryz.f4.ntmps [.non, .arr m_n [.int .u8] m_c, .non, .non, .non, .arr n K6x c, .arr k K6x b, .non, .arr nx K6x cx, .non, .non, .non, .non, .non, iv (((0 : Nat) : Int))])))) (none) := by kernel_rfl
theorem fi_8 (K e_n : Nat) (e_c : NNI) (m_n : Nat) (m_c : NNI) (n : Nat) (c : NNI) (k : Nat) (b : NNI) (nx : Nat) (cx : NNI) (e : Int) : (fromW Tryz.prog GLv Γ136 K ⟨kx10, [(4, kx9), (6, kx11), (8, kx12), (11, kx1), (18, kx1), (19, kx13), (21, kx14)], [], 0, []⟩ [.arr e_n [.int .u8] e_c, .arr m_n [.int .u8] m_c] Tryz.f4 8 (stL Tryz.f4.ntmps [.non, .arr m_n [.int .u8] m_c, .non, .non, .non, .arr n K6x c, .arr k K6x b, .non, .arr nx K6x cx, iv e])) = cond (e != 0) (cond (Nat.ble (n) 1048576 && Nat.ble (k) 1048576) (some (bv (e == inE n c k b))) (none)) ((fromW Tryz.prog GLv Γ136 K ⟨kx10, [(4, kx9), (6, kx11), (8, kx12), (11, kx1), (18, kx1), (19, kx13), (21, kx14)], [], 0, []⟩ [.arr e_n [.int .u8] e_c, .arr m_n [.int .u8] m_c] Tryz.f4 11 (stL Tryz.f4.ntmps [.non, .arr m_n [.int .u8] m_c, .non, .non, .non, .arr n K6x c, .arr k K6x b, .non, .arr nx K6x cx]))) := by kernel_rfl
theorem fi_6 (K e_n : Nat) (e_c : NNI) (m_n : Nat) (m_c : NNI) (n : Nat) (c : NNI) (k : Nat) (b : NNI) (nx : Nat) (cx : NNI) (ny : Nat) (cy : NNI) (e d : Int) : (fromW Tryz.prog GLv Γ136 K ⟨kx10, [(4, kx9), (6, kx11), (8, kx12), (11, kx1), (18, kx1), (19, kx13), (21, kx14)], [], 0, []⟩ [.arr e_n [.int .u8] e_c, .arr m_n [.int .u8] m_c] Tryz.f4 6 (stL Tryz.f4.ntmps [.non, .arr m_n [.int .u8] m_c, .non, .non, .non, .arr n K6x c, .arr k K6x b, .non, .arr nx K6x cx, iv e, .arr ny K6x cy, iv d])) = cond (e != d) ((some (bv false))) (cond (Nat.ble (nx) 1048576) (cond (!(eqPS nx cx ny cy)) ((some (bv false))) ((fromW Tryz.prog GLv Γ136 K ⟨kx10, [(4, kx9), (6, kx11), (8, kx12), (11, kx1), (18, kx1), (19, kx13), (21, kx14)], [], 0, []⟩ [.arr e_n [.int .u8] e_c, .arr m_n [.int .u8] m_c] Tryz.f4 8 (stL Tryz.f4.ntmps [.non, .arr m_n [.int .u8] m_c, .non, .non, .non, .arr n K6x c, .arr k K6x b, .non, .arr nx K6x cx, iv e])))) (none)) := by kernel_rfl
theorem fi_4s (K e_n : Nat) (e_c : NNI) (m_n : Nat) (m_c : NNI) (n : Nat) (c : NNI) (k : Nat) (b : NNI) (Kt : Kont) : stepR Tryz.prog GLv Γ136 ⟨kx10, [(4, kx9), (6, kx11), (8, kx12), (11, kx1), (18, kx1), (19, kx13), (21, kx14)], [], 0, []⟩ [.arr e_n [.int .u8] e_c, .arr m_n [.int .u8] m_c] Tryz.f4 4 5 (stL Tryz.f4.ntmps [.non, .arr m_n [.int .u8] m_c, .non, .non, .non, .arr n K6x c, .arr k K6x b]) Kt = cond (Nat.ble (n) 1048576 && Nat.ble (k) 1048576) (Kt .norm (stL Tryz.f4.ntmps [.non, .arr m_n [.int .u8] m_c, .non, .non, .non, .arr n K6x c, .arr k K6x b, .non, .arr (isoV n c k b).n K6x (isoV n c k b).c, iv (isoV n c k b).e, .non, .non, .non, .non, .non, .non, .non, .non, .non, .non, .non, .non, .non, .non, .non, .non, .non, .non, .non, .non, .non, .non, .non, .non, .non, .non, .tup [.arr (isoV n c k b).n K6x (isoV n c k b).c, iv (isoV n c k b).e], .arr n K6x c, .arr k K6x b, .tup [.arr (isoV n c k b).n K6x (isoV n c k b).c, iv (isoV n c k b).e], .arr (isoV n c k b).n K6x (isoV n c k b).c, iv (isoV n c k b).e])) none := by kernel_rfl
theorem fi_4 (K e_n : Nat) (e_c : NNI) (m_n : Nat) (m_c : NNI) (n : Nat) (c : NNI) (k : Nat) (b : NNI) : (fromW Tryz.prog GLv Γ136 K ⟨kx10, [(4, kx9), (6, kx11), (8, kx12), (11, kx1), (18, kx1), (19, kx13), (21, kx14)], [], 0, []⟩ [.arr e_n [.int .u8] e_c, .arr m_n [.int .u8] m_c] Tryz.f4 4 (stL Tryz.f4.ntmps [.non, .arr m_n [.int .u8] m_c, .non, .non, .non, .arr n K6x c, .arr k K6x b])) = cond (Nat.ble (n) 1048576 && Nat.ble (k) 1048576) (fromW Tryz.prog GLv Γ136 K ⟨kx10, [(4, kx9), (6, kx11), (8, kx12), (11, kx1), (18, kx1), (19, kx13), (21, kx14)], [], 0, []⟩ [.arr e_n [.int .u8] e_c, .arr m_n [.int .u8] m_c] Tryz.f4 5 (stL Tryz.f4.ntmps [.non, .arr m_n [.int .u8] m_c, .non, .non, .non, .arr n K6x c, .arr k K6x b, .non, .arr (isoV n c k b).n K6x (isoV n c k b).c, iv (isoV n c k b).e, .non, .non, .non, .non, .non, .non, .non, .non, .non, .non, .non, .non, .non, .non, .non, .non, .non, .non, .non, .non, .non, .non, .non, .non, .non, .non, .tup [.arr (isoV n c k b).n K6x (isoV n c k b).c, iv (isoV n c k b).e], .arr n K6x c, .arr k K6x b, .tup [.arr (isoV n c k b).n K6x (isoV n c k b).c, iv (isoV n c k b).e], .arr (isoV n c k b).n K6x (isoV n c k b).c, iv (isoV n c k b).e])) none := two_steps (by kernel_rfl) (by kernel_rfl) (fi_4s K e_n e_c m_n m_c n c k b)
theorem fi_5 (K e_n : Nat) (e_c : NNI) (m_n : Nat) (m_c : NNI) (n : Nat) (c : NNI) (k : Nat) (b : NNI) : (fromW Tryz.prog GLv Γ136 K ⟨kx10, [(4, kx9), (6, kx11), (8, kx12), (11, kx1), (18, kx1), (19, kx13), (21, kx14)], [], 0, []⟩ [.arr e_n [.int .u8] e_c, .arr m_n [.int .u8] m_c] Tryz.f4 5 (stL Tryz.f4.ntmps [.non, .arr m_n [.int .u8] m_c, .non, .non, .non, .arr n K6x c, .arr k K6x b, .non, .arr (isoV n c k b).n K6x (isoV n c k b).c, iv (isoV n c k b).e, .non, .non, .non, .non, .non, .non, .non, .non, .non, .non, .non, .non, .non, .non, .non, .non, .non, .non, .non, .non, .non, .non, .non, .non, .non, .non, .tup [.arr (isoV n c k b).n K6x (isoV n c k b).c, iv (isoV n c k b).e], .arr n K6x c, .arr k K6x b, .tup [.arr (isoV n c k b).n K6x (isoV n c k b).c, iv (isoV n c k b).e], .arr (isoV n c k b).n K6x (isoV n c k b).c, iv (isoV n c k b).e])) = cond (Nat.ble (k) 1048576 && Nat.ble (n) 1048576) ((fromW Tryz.prog GLv Γ136 K ⟨kx10, [(4, kx9), (6, kx11), (8, kx12), (11, kx1), (18, kx1), (19, kx13), (21, kx14)], [], 0, []⟩ [.arr e_n [.int .u8] e_c, .arr m_n [.int .u8] m_c] Tryz.f4 6 (stL Tryz.f4.ntmps [.non, .arr m_n [.int .u8] m_c, .non, .non, .non, .arr n K6x c, .arr k K6x b, .non, .arr (isoV n c k b).n K6x (isoV n c k b).c, iv (isoV n c k b).e, .arr (isoV k b n c).n K6x (isoV k b n c).c, iv (isoV k b n c).e]))) (none) := by kernel_rfl
theorem fi_run (K e_n : Nat) (e_c : NNI) (m_n : Nat) (m_c : NNI) (n : Nat) (c : NNI) (k : Nat) (b : NNI) (nx : Nat) (cx : NNI) (hn : Nat.ble n 1048576 = true) (hk : Nat.ble k 1048576 = true) (h32 : nx <= 1000) (ok : ∀ i, i < nx -> 0 <= (ipV n c (pAt cx i)) /\ 0 <= (ipV k b (pAt cx i))) : ∀ (q i r : Nat), i + q = nx -> q < r -> (runW Tryz.prog GLv Γ136 K ⟨kx10, [(4, kx9), (6, kx11), (8, kx12), (11, kx1), (18, kx1), (19, kx13), (21, kx14)], [], 0, []⟩ [.arr e_n [.int .u8] e_c, .arr m_n [.int .u8] m_c] Tryz.f4 0 r (stL Tryz.f4.ntmps [.non, .arr m_n [.int .u8] m_c, .non, .non, .non, .arr n K6x c, .arr k K6x b, .non, .arr nx K6x cx, .non, .non, .non, .non, .non, iv ((i : Int))])) = (fromW Tryz.prog GLv Γ136 K ⟨kx10, [(4, kx9), (6, kx11), (8, kx12), (11, kx1), (18, kx1), (19, kx13), (21, kx14)], [], 0, []⟩ [.arr e_n [.int .u8] e_c, .arr m_n [.int .u8] m_c] Tryz.f4 18 (stL Tryz.f4.ntmps [.non, .arr m_n [.int .u8] m_c, .non, .non, .non, .arr n K6x c, .arr k K6x b, .non, .arr nx K6x cx])) := by
  intro q
  induction q with
  | zero =>
    intro i r h1 h2
    obtain ⟨r, rfl⟩ : ∃ r', r = r' + 1 := ⟨r - 1, by omega⟩
    rw [fi_step, nat_lt i nx, show decide (i < nx) = false by simp; omega]
    exact Bool.cond_false
  | succ q ih =>
    intro i r h1 h2
    obtain ⟨r, rfl⟩ : ∃ r', r = r' + 1 := ⟨r - 1, by omega⟩
    have hi : i < nx := by omega
    obtain ⟨o1, o2⟩ := ok i hi
    have z := ih (i + 1) r (by omega) (by omega)
    rw [<- wr_succ (by omega)] at z
    rw [fi_step, nat_nn, nat_lt i nx, show decide (i < nx) = true by simpa using hi]
    simp only [Bool.and_self, cond_true]
    rw [hn, hk, decide_eq_false (show ¬ ipV n c (pAt cx i) < 0 by omega), decide_eq_false (show ¬ ipV k b (pAt cx i) < 0 by omega)]
    exact z
theorem fi_all (K e_n : Nat) (e_c : NNI) (m_n : Nat) (m_c : NNI) (n : Nat) (c : NNI) (k : Nat) (b : NNI) (hv : vpS n c = true) (h16 : k <= 16) (hK : 40 <= K) : (fromW Tryz.prog GLv Γ136 K ⟨kx10, [(4, kx9), (6, kx11), (8, kx12), (11, kx1), (18, kx1), (19, kx13), (21, kx14)], [], 0, []⟩ [.arr e_n [.int .u8] e_c, .arr m_n [.int .u8] m_c] Tryz.f4 4 (stL Tryz.f4.ntmps [.non, .arr m_n [.int .u8] m_c, .non, .non, .non, .arr n K6x c, .arr k K6x b])) = (some (bv true)) := by
  obtain ⟨⟨h3, hn16⟩, _⟩ := vp_iff.1 hv
  have hn : Nat.ble n 1048576 = true := Nat.ble_eq_true_of_le (by omega)
  have hk : Nat.ble k 1048576 = true := Nat.ble_eq_true_of_le (by omega)
  have e1 := isoV_eq n c k b
  have n1 : (isoV n c k b).n <= 32 := by rw [e1]; exact (in_same n c k b).1
  have n2 : (isoV n c n c).n <= 32 := by rw [isoV_eq]; exact (in_same n c n c).1
  have hx : Nat.ble (isoV n c k b).n 1048576 = true := Nat.ble_eq_true_of_le (by omega)
  have hs : Nat.ble (isoV n c n c).n 1048576 = true := Nat.ble_eq_true_of_le (by omega)
  have s1 : (isoV n c n c).e = 0 := by rw [isoV_eq]; exact (in_own hv).1
  have s2 : eqPS (isoV n c n c).n (isoV n c n c).c n c = true := by rw [isoV_eq]; exact (in_own hv).2
  have q3 : (isoV n c k b).e = inE n c k b := by rw [e1]
  have q4 : (isoV k b n c).e = inE k b n c := by rw [isoV_eq]
  have q1 : ((isoV n c k b).e != (isoV k b n c).e) = false := by rw [q3, q4, inE_sym]; exact bne_self_eq_false _
  have q2 : eqPS (isoV n c k b).n (isoV n c k b).c (isoV k b n c).n (isoV k b n c).c = true := by rw [e1, isoV_eq]; exact in_eq n c k b
  obtain ⟨_, _, _, vp, _⟩ := geo_sp (s := srcOf m_n m_c) rfl
  rw [fi_4, hn, hk, Bool.and_self, cond_true, fi_5, hn, hk, Bool.and_self, cond_true, fi_6, q1, cond_false, hx, cond_true, q2, Bool.not_true, cond_false, fi_8, hn, hk, Bool.and_self, cond_true, q3]
  by_cases z : inE n c k b = 0
  . have L := in_law (inE_zero.1 z)
    have ov : ovV n c k b = decide (((isoV n c k b).n : Int) > 0) := by rw [e1]; exact L.ov
    have ca : ∀ i, i < (isoV n c k b).n -> 0 <= ipV n c (pAt (isoV n c k b).c i) /\ 0 <= ipV k b (pAt (isoV n c k b).c i) := by rw [e1]; exact L.ca
    have pt : ∀ p, valP p = true -> (0 < ipV (isoV n c k b).n (isoV n c k b).c p ↔ 0 < ipV n c p /\ 0 < ipV k b p) := by rw [e1]; exact L.pt
    rw [z, show ((0 : Int) != 0) = false from rfl, cond_false, fi_11, hn, hk, Bool.and_self, cond_true, ov, bne_self_eq_false, cond_false,
      fi_run K e_n e_c m_n m_c n c k b (isoV n c k b).n (isoV n c k b).c hn hk (by omega) ca (isoV n c k b).n 0 K (by omega) (by omega), fi_18, fi_19, hn, hk, Bool.and_self, cond_true, cond_true, cond_true, cond_true]
    generalize (geoV (srcOf m_n m_c)).p = p at vp ⊢
    have lp := pt p vp
    rw [fi_21 K e_n e_c m_n m_c n c k b, fi_21 K e_n e_c m_n m_c n c k b, hx, hs, s1, s2]
    by_cases x : 0 < ipV n c p
    . by_cases y : 0 < ipV k b p
      . rw [decide_eq_true (show ipV n c p > 0 from x), decide_eq_true (show ipV k b p > 0 from y), decide_eq_true (show ipV (isoV n c k b).n (isoV n c k b).c p > 0 from lp.2 ⟨x, y⟩)]
        rfl
      . rw [decide_eq_true (show ipV n c p > 0 from x), decide_eq_false (show ¬ ipV k b p > 0 from y), decide_eq_false (show ¬ ipV (isoV n c k b).n (isoV n c k b).c p > 0 from fun h => y (lp.1 h).2)]
        rfl
    . rw [decide_eq_false (show ¬ ipV n c p > 0 from x), decide_eq_false (show ¬ ipV (isoV n c k b).n (isoV n c k b).c p > 0 from fun h => x (lp.1 h).1)]
      rfl
  . rw [show (inE n c k b != 0) = true by simpa using z, cond_true, beq_self_eq_true]
theorem fi_0 (e_n : Nat) (e_c : NNI) (m_n : Nat) (m_c : NNI) (F : List AV -> Option AV) : startK Tryz.prog GLv Γ136 40 ⟨kx10, [(4, kx9), (6, kx11), (8, kx12), (11, kx1), (18, kx1), (19, kx13), (21, kx14)], [], 0, []⟩ Tryz.f4 [.arr e_n [.int .u8] e_c, .arr m_n [.int .u8] m_c] 4 (fun s => F (forget Tryz.f4.ntmps (vOf Tryz.f4 [.arr e_n [.int .u8] e_c, .arr m_n [.int .u8] m_c]) kx9 s)) = cond (decide ((e_n : Int) > 1048576)) (some (bv true)) (cond (decide ((m_n : Int) > 1048576)) (some (bv true)) (F (stL Tryz.f4.ntmps [.non, .arr m_n [.int .u8] m_c, .non, .non, .non, .arr (pgV e_n e_c).a.n K6x (pgV e_n e_c).a.c, .arr (pgV e_n e_c).b.n K6x (pgV e_n e_c).b.c]))) := by kernel_rfl
-- laws.FnIntersect
noncomputable def s4 : Ctr := fun
  | [.arr e_n [.int .u8] e_c, .arr m_n [.int .u8] m_c] => some (true, bv true)
  | _ => none
theorem e4 (e_n : Nat) (e_c : NNI) (m_n : Nat) (m_c : NNI) : evW Tryz.prog GLv Γ136 (40) (⟨kx10, [(4, kx9), (6, kx11), (8, kx12), (11, kx1), (18, kx1), (19, kx13), (21, kx14)], [], 0, []⟩)  Tryz.f4 [.arr e_n [.int .u8] e_c, .arr m_n [.int .u8] m_c] = some (bv true) := by
  obtain ⟨_, ok, h16, _⟩ := pg_sp e_n e_c
  rw [ev_start (i := 4) (kp := kx9) (by kernel_rfl) (by kernel_rfl)]
  refine (fi_0 e_n e_c m_n m_c (fromW Tryz.prog GLv Γ136 40 ⟨kx10, [(4, kx9), (6, kx11), (8, kx12), (11, kx1), (18, kx1), (19, kx13), (21, kx14)], [], 0, []⟩ [.arr e_n [.int .u8] e_c, .arr m_n [.int .u8] m_c] Tryz.f4 4)).trans ?_
  rw [fi_all 40 e_n e_c m_n m_c _ _ _ _ ok h16 (by omega)]
  cases decide ((e_n : Int) > 1048576) <;> cases decide ((m_n : Int) > 1048576) <;> rfl
theorem m4 : Meets Tryz.prog GLv 4 s4 := by
  refine meetsW mix0 G136 Tryz.func4 (by kernel_rfl) (by kernel_rfl) s4 fun args x h => ?_
  unfold s4 at h
  split at h
  . rename_i e_n e_c m_n m_c
    simp only [Option.some.injEq, Prod.mk.injEq] at h
    obtain ⟨hp, rfl⟩ := h
    exact ⟨_, _, by kernel_rfl, e4 e_n e_c m_n m_c⟩
  . cases h
end Go.Proofs.YtdildcdilhgdkaaGreatDoor
