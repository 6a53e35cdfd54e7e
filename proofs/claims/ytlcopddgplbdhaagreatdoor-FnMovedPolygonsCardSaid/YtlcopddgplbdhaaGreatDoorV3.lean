/- Contracts of the program's functions, by the evaluator. -/
import Derived.Test.YtlcopddgplbdhaaGreatDoorV2
import Derived.Test.YtlcopddgplbdhaaGreatDoorPlF
import Derived.Test.YtlcopddgplbdhaaGreatDoorPlS
namespace Go.Proofs.YtlcopddgplbdhaaGreatDoor
open Go.Ev
set_option linter.unusedVariables false
set_option linter.unusedSimpArgs false
set_option maxRecDepth 100000
abbrev cfV30 : Cfg := ⟨kx10, [(6, kx11), (7, kx11), (8, [true, false, false, true, true, true, true]), (9, [true, false, false, true, true, true, true, true]), (12, kx11), (14, [true, false, false, true, true, false, false, false, false, false, true, true]), (15, [true, false, false, true, true, false, false, false, false, false, true]), (16, [true, false, false, true, true, false, false, false, false, false, false, true])], [(16, [0]), (47, [1, 2]), (3, [0])], 3, []⟩
def pgRw (g : Pg) : AV := .row (Nat.blt 0 g.n) 38 g.n K6x g.c
-- spec.l03Square
noncomputable def s75w : Ctr := fun
 | [iv x] => some (true, .row true 38 4 K6x (sqC x))
 | _ => none
theorem e75w (x : Int) : evW Tryz.prog GLv Γ148 (0) (⟨[], [], [(14, [0])], 1, []⟩)  Tryz.f75 [iv x] = some (.row true 38 4 K6x (sqC x)) := by
 kernel_rfl
theorem m75w : MT 75 s75w := by
 refine meetsW mix0 G148 Tryz.func75 (by kernel_rfl) (by kernel_rfl) s75w fun args x h => ?_
 unfold s75w at h
 split at h
 ·rename_i x
  obtain ⟨hp, rfl⟩ := sm_inj h
  exact ⟨_, _, by kernel_rfl, e75w x⟩
 ·cases h
noncomputable abbrev Γ149 : LC := (75, s75w) :: Γ148
theorem G149 : SD Γ149 := G148.cons m75w
noncomputable def s78w : Ctr := fun
 | [.arr a_n K6x a_c, .agg [iv l_d, iv l_a, iv l_b, iv l_k]] => some (cutV (⟨l_d, (⟨l_a, l_b, l_k⟩ : N3)⟩ : Ln) a_n a_c, AV.tup [AV.row (Nat.blt 0 (pdN (⟨l_d, (⟨l_a, l_b, l_k⟩ : N3)⟩ : Ln) (1) a_n a_c)) 38 (pdN (⟨l_d, (⟨l_a, l_b, l_k⟩ : N3)⟩ : Ln) (1) a_n a_c) K6x (pdC (⟨l_d, (⟨l_a, l_b, l_k⟩ : N3)⟩ : Ln) (1) a_n a_c), AV.row (Nat.blt 0 (pdN (⟨l_d, (⟨l_a, l_b, l_k⟩ : N3)⟩ : Ln) (-1) a_n a_c)) 38 (pdN (⟨l_d, (⟨l_a, l_b, l_k⟩ : N3)⟩ : Ln) (-1) a_n a_c) K6x (pdC (⟨l_d, (⟨l_a, l_b, l_k⟩ : N3)⟩ : Ln) (-1) a_n a_c), bv (cqB (ptN (⟨l_d, (⟨l_a, l_b, l_k⟩ : N3)⟩ : Ln) (1) a_n a_c) (ptS (⟨l_d, (⟨l_a, l_b, l_k⟩ : N3)⟩ : Ln) (1) a_n a_c) && cqB (ptN (⟨l_d, (⟨l_a, l_b, l_k⟩ : N3)⟩ : Ln) (-1) a_n a_c) (ptS (⟨l_d, (⟨l_a, l_b, l_k⟩ : N3)⟩ : Ln) (-1) a_n a_c))])
 | _ => none
theorem s78w_eq : s78w = s78 := by
 funext args
 unfold s78w s78 pdN pdC
 split <;> simp only [fl_eq]
theorem m78w : MT 78 s78w := by rw [s78w_eq]; exact m78
theorem s78o_ex : ∃ f : Ctr, f = s78w := ⟨_, rfl⟩
noncomputable def s78o : Ctr := Classical.choose s78o_ex
theorem s78o_eq : s78o = s78w := Classical.choose_spec s78o_ex
noncomputable abbrev Γ150 : LC := (78, s78o) :: Γ149
noncomputable abbrev Γ150w : LC := (78, s78w) :: Γ149
theorem Γ150_eq : Γ150 = Γ150w := congrArg (fun f => (78, f) :: Γ149) s78o_eq
theorem G150 : SD Γ150 := by rw [Γ150_eq]; exact G149.cons m78w
theorem pd_16 (K n m : Nat) (c : NNI) (k : Int) (s0 s : Src) (nb : Nat) (cb : NNI) : (fromL Tryz.prog GLv Γ150 K cfV30 [.own 75 s0.cells] Tryz.f42 0 n 16 (st2 Tryz.f42.ntmps [.ref Tryz.f42.ntmps 0, .non, .non, .sl (Tryz.f42.ntmps + 1) (m), iv (k), .non, .non, .non, .non, .non, .non, .sl (Tryz.f42.ntmps + 3) (nb)] [.vown 75 s.cells, .row (Nat.blt 0 (m)) 38 (m) K6x (c), .non, .row (Nat.blt 0 (nb)) 38 (nb) K6x (cb)])) = cond (decide (((nb : Nat) : Int) > 0)) ((runW Tryz.prog GLv Γ150 K cfV30 [.own 75 s0.cells] Tryz.f42 0 n (st2 Tryz.f42.ntmps [.ref Tryz.f42.ntmps 0, .non, .non, .sl (Tryz.f42.ntmps + 1) (nb), iv (wr (k - 1))] [.vown 75 s.cells, .row (Nat.blt 0 (nb)) 38 (nb) K6x (cb), .non, .non]))) ((runW Tryz.prog GLv Γ150 K cfV30 [.own 75 s0.cells] Tryz.f42 0 n (st2 Tryz.f42.ntmps [.ref Tryz.f42.ntmps 0, .non, .non, .sl (Tryz.f42.ntmps + 1) (m), iv (wr (k - 1))] [.vown 75 s.cells, .row (Nat.blt 0 (m)) 38 (m) K6x (c), .non, .non]))) := by kernel_rfl
theorem pd_15 (K n m : Nat) (c : NNI) (k : Int) (s0 s : Src) (na : Nat) (ca : NNI) : (fromL Tryz.prog GLv Γ150 K cfV30 [.own 75 s0.cells] Tryz.f42 0 n 15 (st2 Tryz.f42.ntmps [.ref Tryz.f42.ntmps 0, .non, .non, .sl (Tryz.f42.ntmps + 1) (m), iv (k), .non, .non, .non, .non, .non, .sl (Tryz.f42.ntmps + 2) (na)] [.vown 75 s.cells, .row (Nat.blt 0 (m)) 38 (m) K6x (c), .row (Nat.blt 0 (na)) 38 (na) K6x (ca), .non])) = (runW Tryz.prog GLv Γ150 K cfV30 [.own 75 s0.cells] Tryz.f42 0 n (st2 Tryz.f42.ntmps [.ref Tryz.f42.ntmps 0, .non, .non, .sl (Tryz.f42.ntmps + 1) (na), iv (wr (k - 1))] [.vown 75 s.cells, .row (Nat.blt 0 (na)) 38 (na) K6x (ca), .non, .non])) := by kernel_rfl
noncomputable def z16 (K n m : Nat) (c : NNI) (k : Int) (s0 s : Src) (nb : Nat) (cb : NNI) : Option AV := (fromL Tryz.prog GLv Γ150 K cfV30 [.own 75 s0.cells] Tryz.f42 0 n 16 (st2 Tryz.f42.ntmps [.ref Tryz.f42.ntmps 0, .non, .non, .sl (Tryz.f42.ntmps + 1) (m), iv (k), .non, .non, .non, .non, .non, .non, .sl (Tryz.f42.ntmps + 3) (nb)] [.vown 75 s.cells, .row (Nat.blt 0 (m)) 38 (m) K6x (c), .non, .row (Nat.blt 0 (nb)) 38 (nb) K6x (cb)]))
noncomputable def z15 (K n m : Nat) (c : NNI) (k : Int) (s0 s : Src) (na : Nat) (ca : NNI) : Option AV := (fromL Tryz.prog GLv Γ150 K cfV30 [.own 75 s0.cells] Tryz.f42 0 n 15 (st2 Tryz.f42.ntmps [.ref Tryz.f42.ntmps 0, .non, .non, .sl (Tryz.f42.ntmps + 1) (m), iv (k), .non, .non, .non, .non, .non, .sl (Tryz.f42.ntmps + 2) (na)] [.vown 75 s.cells, .row (Nat.blt 0 (m)) 38 (m) K6x (c), .row (Nat.blt 0 (na)) 38 (na) K6x (ca), .non]))
noncomputable def z14 (K n m : Nat) (c : NNI) (k : Int) (s0 s : Src) (na : Nat) (ca : NNI) (nb : Nat) (cb : NNI) : Option AV := (fromL Tryz.prog GLv Γ150 K cfV30 [.own 75 s0.cells] Tryz.f42 0 n 14 (st2 Tryz.f42.ntmps [.ref Tryz.f42.ntmps 0, .non, .non, .sl (Tryz.f42.ntmps + 1) (m), iv (k), .non, .non, .non, .non, .non, .sl (Tryz.f42.ntmps + 2) (na), .sl (Tryz.f42.ntmps + 3) (nb)] [.vown 75 s.cells, .row (Nat.blt 0 (m)) 38 (m) K6x (c), .row (Nat.blt 0 (na)) 38 (na) K6x (ca), .row (Nat.blt 0 (nb)) 38 (nb) K6x (cb)]))
theorem pd14 (K n m : Nat) (c : NNI) (k : Int) (s0 s : Src) (na : Nat) (ca : NNI) (nb : Nat) (cb : NNI) (h : na <= 32) : z14 K n m c k s0 s na ca nb cb = cond (decide (((na : Nat) : Int) > 0)) (cond (pB 2 s.p) (cond (oneB 2 s) (z15 K n m c k s0 (pickV 2 s).2 na ca) (z16 K n m c k s0 (pickV 2 s).2 nb cb)) none) (z16 K n m c k s0 s nb cb) := by
 match na, h with
 | 0, _ => show _ = _; kernel_rfl
 | 1, _ => show _ = _; kernel_rfl
 | 2, _ => show _ = _; kernel_rfl
 | 3, _ => show _ = _; kernel_rfl
 | 4, _ => show _ = _; kernel_rfl
 | 5, _ => show _ = _; kernel_rfl
 | 6, _ => show _ = _; kernel_rfl
 | 7, _ => show _ = _; kernel_rfl
 | 8, _ => show _ = _; kernel_rfl
 | 9, _ => show _ = _; kernel_rfl
 | 10, _ => show _ = _; kernel_rfl
 | 11, _ => show _ = _; kernel_rfl
 | 12, _ => show _ = _; kernel_rfl
 | 13, _ => show _ = _; kernel_rfl
 | 14, _ => show _ = _; kernel_rfl
 | 15, _ => show _ = _; kernel_rfl
 | 16, _ => show _ = _; kernel_rfl
 | 17, _ => show _ = _; kernel_rfl
 | 18, _ => show _ = _; kernel_rfl
 | 19, _ => show _ = _; kernel_rfl
 | 20, _ => show _ = _; kernel_rfl
 | 21, _ => show _ = _; kernel_rfl
 | 22, _ => show _ = _; kernel_rfl
 | 23, _ => show _ = _; kernel_rfl
 | 24, _ => show _ = _; kernel_rfl
 | 25, _ => show _ = _; kernel_rfl
 | 26, _ => show _ = _; kernel_rfl
 | 27, _ => show _ = _; kernel_rfl
 | 28, _ => show _ = _; kernel_rfl
 | 29, _ => show _ = _; kernel_rfl
 | 30, _ => show _ = _; kernel_rfl
 | 31, _ => show _ = _; kernel_rfl
 | 32, _ => show _ = _; kernel_rfl
 | q + 33, h => exact absurd h (by omega)
theorem pd_14 (K n m : Nat) (c : NNI) (k : Int) (s0 s : Src) (na : Nat) (ca : NNI) (nb : Nat) (cb : NNI) (h : na <= 32) : (fromL Tryz.prog GLv Γ150 K cfV30 [.own 75 s0.cells] Tryz.f42 0 n 14 (st2 Tryz.f42.ntmps [.ref Tryz.f42.ntmps 0, .non, .non, .sl (Tryz.f42.ntmps + 1) (m), iv (k), .non, .non, .non, .non, .non, .sl (Tryz.f42.ntmps + 2) (na), .sl (Tryz.f42.ntmps + 3) (nb)] [.vown 75 s.cells, .row (Nat.blt 0 (m)) 38 (m) K6x (c), .row (Nat.blt 0 (na)) 38 (na) K6x (ca), .row (Nat.blt 0 (nb)) 38 (nb) K6x (cb)])) = cond (decide (((na : Nat) : Int) > 0)) (cond (pB 2 s.p) (cond (oneB 2 s) ((fromL Tryz.prog GLv Γ150 K cfV30 [.own 75 s0.cells] Tryz.f42 0 n 15 (st2 Tryz.f42.ntmps [.ref Tryz.f42.ntmps 0, .non, .non, .sl (Tryz.f42.ntmps + 1) (m), iv (k), .non, .non, .non, .non, .non, .sl (Tryz.f42.ntmps + 2) (na)] [.vown 75 (pickV 2 s).2.cells, .row (Nat.blt 0 (m)) 38 (m) K6x (c), .row (Nat.blt 0 (na)) 38 (na) K6x (ca), .non]))) ((fromL Tryz.prog GLv Γ150 K cfV30 [.own 75 s0.cells] Tryz.f42 0 n 16 (st2 Tryz.f42.ntmps [.ref Tryz.f42.ntmps 0, .non, .non, .sl (Tryz.f42.ntmps + 1) (m), iv (k), .non, .non, .non, .non, .non, .non, .sl (Tryz.f42.ntmps + 3) (nb)] [.vown 75 (pickV 2 s).2.cells, .row (Nat.blt 0 (m)) 38 (m) K6x (c), .non, .row (Nat.blt 0 (nb)) 38 (nb) K6x (cb)])))) (none)) ((fromL Tryz.prog GLv Γ150 K cfV30 [.own 75 s0.cells] Tryz.f42 0 n 16 (st2 Tryz.f42.ntmps [.ref Tryz.f42.ntmps 0, .non, .non, .sl (Tryz.f42.ntmps + 1) (m), iv (k), .non, .non, .non, .non, .non, .non, .sl (Tryz.f42.ntmps + 3) (nb)] [.vown 75 s.cells, .row (Nat.blt 0 (m)) 38 (m) K6x (c), .non, .row (Nat.blt 0 (nb)) 38 (nb) K6x (cb)]))) := pd14 K n m c k s0 s na ca nb cb h
theorem pd_12w (K n m : Nat) (c : NNI) (k : Int) (s0 s : Src) (l : Ln) : (fromL Tryz.prog GLv Γ150w K cfV30 [.own 75 s0.cells] Tryz.f42 0 n 12 (st2 Tryz.f42.ntmps [.ref Tryz.f42.ntmps 0, .non, .non, .sl (Tryz.f42.ntmps + 1) (m), iv (k), .own 103 [iv l.d, iv l.o.a, iv l.o.b, iv l.o.k]] [.vown 75 s.cells, .row (Nat.blt 0 (m)) 38 (m) K6x (c), .non, .non])) = cond (cutV l m c) (cond (!(cqB (ptN l 1 m c) (ptS l 1 m c) && cqB (ptN l (-1) m c) (ptS l (-1) m c))) ((runW Tryz.prog GLv Γ150w K cfV30 [.own 75 s0.cells] Tryz.f42 0 n (st2 Tryz.f42.ntmps [.ref Tryz.f42.ntmps 0, .non, .non, .sl (Tryz.f42.ntmps + 1) (m), iv (wr (k - 1))] [.vown 75 s.cells, .row (Nat.blt 0 (m)) 38 (m) K6x (c), .non, .non]))) ((fromL Tryz.prog GLv Γ150w K cfV30 [.own 75 s0.cells] Tryz.f42 0 n 14 (st2 Tryz.f42.ntmps [.ref Tryz.f42.ntmps 0, .non, .non, .sl (Tryz.f42.ntmps + 1) (m), iv (k), .non, .non, .non, .non, .non, .sl (Tryz.f42.ntmps + 2) (pdN l 1 m c), .sl (Tryz.f42.ntmps + 3) (pdN l (-1) m c)] [.vown 75 s.cells, .row (Nat.blt 0 (m)) 38 (m) K6x (c), .row (Nat.blt 0 (pdN l 1 m c)) 38 (pdN l 1 m c) K6x (pdC l 1 m c), .row (Nat.blt 0 (pdN l (-1) m c)) 38 (pdN l (-1) m c) K6x (pdC l (-1) m c)])))) (none) := by kernel_rfl
theorem pd_12 (K n m : Nat) (c : NNI) (k : Int) (s0 s : Src) (l : Ln) : (fromL Tryz.prog GLv Γ150 K cfV30 [.own 75 s0.cells] Tryz.f42 0 n 12 (st2 Tryz.f42.ntmps [.ref Tryz.f42.ntmps 0, .non, .non, .sl (Tryz.f42.ntmps + 1) (m), iv (k), .own 103 [iv l.d, iv l.o.a, iv l.o.b, iv l.o.k]] [.vown 75 s.cells, .row (Nat.blt 0 (m)) 38 (m) K6x (c), .non, .non])) = cond (cutV l m c) (cond (!(cqB (ptN l 1 m c) (ptS l 1 m c) && cqB (ptN l (-1) m c) (ptS l (-1) m c))) ((runW Tryz.prog GLv Γ150 K cfV30 [.own 75 s0.cells] Tryz.f42 0 n (st2 Tryz.f42.ntmps [.ref Tryz.f42.ntmps 0, .non, .non, .sl (Tryz.f42.ntmps + 1) (m), iv (wr (k - 1))] [.vown 75 s.cells, .row (Nat.blt 0 (m)) 38 (m) K6x (c), .non, .non]))) ((fromL Tryz.prog GLv Γ150 K cfV30 [.own 75 s0.cells] Tryz.f42 0 n 14 (st2 Tryz.f42.ntmps [.ref Tryz.f42.ntmps 0, .non, .non, .sl (Tryz.f42.ntmps + 1) (m), iv (k), .non, .non, .non, .non, .non, .sl (Tryz.f42.ntmps + 2) (pdN l 1 m c), .sl (Tryz.f42.ntmps + 3) (pdN l (-1) m c)] [.vown 75 s.cells, .row (Nat.blt 0 (m)) 38 (m) K6x (c), .row (Nat.blt 0 (pdN l 1 m c)) 38 (pdN l 1 m c) K6x (pdC l 1 m c), .row (Nat.blt 0 (pdN l (-1) m c)) 38 (pdN l (-1) m c) K6x (pdC l (-1) m c)])))) (none) := by
 rw [Γ150_eq]
 exact pd_12w K n m c k s0 s l
theorem pd_9 (K n m : Nat) (c : NNI) (k : Int) (s0 s : Src) (l : Ln) (p : P2) (d : Int) : (fromL Tryz.prog GLv Γ150 K cfV30 [.own 75 s0.cells] Tryz.f42 0 n 9 (st2 Tryz.f42.ntmps [.ref Tryz.f42.ntmps 0, .non, .non, .sl (Tryz.f42.ntmps + 1) (m), iv (k), .own 103 [iv l.d, iv l.o.a, iv l.o.b, iv l.o.k], .own 38 [iv p.x.a, iv p.x.b, iv p.x.k, iv p.y.a, iv p.y.b, iv p.y.k], iv d] [.vown 75 s.cells, .row (Nat.blt 0 (m)) 38 (m) K6x (c), .non, .non])) = cond (laO p d) ((fromL Tryz.prog GLv Γ150 K cfV30 [.own 75 s0.cells] Tryz.f42 0 n 12 (st2 Tryz.f42.ntmps [.ref Tryz.f42.ntmps 0, .non, .non, .sl (Tryz.f42.ntmps + 1) (m), iv (k), .own 103 [iv (laL p d).d, iv (laL p d).o.a, iv (laL p d).o.b, iv (laL p d).o.k]] [.vown 75 s.cells, .row (Nat.blt 0 (m)) 38 (m) K6x (c), .non, .non]))) ((fromL Tryz.prog GLv Γ150 K cfV30 [.own 75 s0.cells] Tryz.f42 0 n 12 (st2 Tryz.f42.ntmps [.ref Tryz.f42.ntmps 0, .non, .non, .sl (Tryz.f42.ntmps + 1) (m), iv (k), .own 103 [iv l.d, iv l.o.a, iv l.o.b, iv l.o.k]] [.vown 75 s.cells, .row (Nat.blt 0 (m)) 38 (m) K6x (c), .non, .non]))) := by kernel_rfl
theorem pd_8 (K n m : Nat) (c : NNI) (k : Int) (s0 s : Src) (l : Ln) (p : P2) : (fromL Tryz.prog GLv Γ150 K cfV30 [.own 75 s0.cells] Tryz.f42 0 n 8 (st2 Tryz.f42.ntmps [.ref Tryz.f42.ntmps 0, .non, .non, .sl (Tryz.f42.ntmps + 1) (m), iv (k), .own 103 [iv l.d, iv l.o.a, iv l.o.b, iv l.o.k], .own 38 [iv p.x.a, iv p.x.b, iv p.x.k, iv p.y.a, iv p.y.b, iv p.y.k]] [.vown 75 s.cells, .row (Nat.blt 0 (m)) 38 (m) K6x (c), .non, .non])) = cond (pB 2 s.p) ((fromL Tryz.prog GLv Γ150 K cfV30 [.own 75 s0.cells] Tryz.f42 0 n 9 (st2 Tryz.f42.ntmps [.ref Tryz.f42.ntmps 0, .non, .non, .sl (Tryz.f42.ntmps + 1) (m), iv (k), .own 103 [iv l.d, iv l.o.a, iv l.o.b, iv l.o.k], .own 38 [iv p.x.a, iv p.x.b, iv p.x.k, iv p.y.a, iv p.y.b, iv p.y.k], iv (pickV 8 s).1] [.vown 75 (pickV 8 s).2.cells, .row (Nat.blt 0 (m)) 38 (m) K6x (c), .non, .non]))) (none) := by kernel_rfl
theorem pd_7 (K n m : Nat) (c : NNI) (k : Int) (s0 s : Src) (l : Ln) : (fromL Tryz.prog GLv Γ150 K cfV30 [.own 75 s0.cells] Tryz.f42 0 n 7 (st2 Tryz.f42.ntmps [.ref Tryz.f42.ntmps 0, .non, .non, .sl (Tryz.f42.ntmps + 1) (m), iv (k), .own 103 [iv l.d, iv l.o.a, iv l.o.b, iv l.o.k]] [.vown 75 s.cells, .row (Nat.blt 0 (m)) 38 (m) K6x (c), .non, .non])) = cond (pB 2 s.p) (cond ((decide (0 <= ((pickV (m : Int) s).1 : Int)) && decide (((pickV (m : Int) s).1 : Int) < (m : Int)))) ((fromL Tryz.prog GLv Γ150 K cfV30 [.own 75 s0.cells] Tryz.f42 0 n 8 (st2 Tryz.f42.ntmps [.ref Tryz.f42.ntmps 0, .non, .non, .sl (Tryz.f42.ntmps + 1) (m), iv (k), .own 103 [iv l.d, iv l.o.a, iv l.o.b, iv l.o.k], .own 38 [iv (pAt c (pickV (m : Int) s).1.toNat).x.a, iv (pAt c (pickV (m : Int) s).1.toNat).x.b, iv (pAt c (pickV (m : Int) s).1.toNat).x.k, iv (pAt c (pickV (m : Int) s).1.toNat).y.a, iv (pAt c (pickV (m : Int) s).1.toNat).y.b, iv (pAt c (pickV (m : Int) s).1.toNat).y.k]] [.vown 75 (pickV (m : Int) s).2.cells, .row (Nat.blt 0 (m)) 38 (m) K6x (c), .non, .non]))) (none)) (none) := by kernel_rfl
theorem pd_6 (K n m : Nat) (c : NNI) (k : Int) (s0 s : Src) (l : Ln) : (fromL Tryz.prog GLv Γ150 K cfV30 [.own 75 s0.cells] Tryz.f42 0 n 6 (st2 Tryz.f42.ntmps [.ref Tryz.f42.ntmps 0, .non, .non, .sl (Tryz.f42.ntmps + 1) (m), iv (k), .own 103 [iv l.d, iv l.o.a, iv l.o.b, iv l.o.k]] [.vown 75 s.cells, .row (Nat.blt 0 (m)) 38 (m) K6x (c), .non, .non])) = cond (pB 2 s.p) (cond (oneB 2 s) ((fromL Tryz.prog GLv Γ150 K cfV30 [.own 75 s0.cells] Tryz.f42 0 n 7 (st2 Tryz.f42.ntmps [.ref Tryz.f42.ntmps 0, .non, .non, .sl (Tryz.f42.ntmps + 1) (m), iv (k), .own 103 [iv l.d, iv l.o.a, iv l.o.b, iv l.o.k]] [.vown 75 (pickV 2 s).2.cells, .row (Nat.blt 0 (m)) 38 (m) K6x (c), .non, .non]))) ((fromL Tryz.prog GLv Γ150 K cfV30 [.own 75 s0.cells] Tryz.f42 0 n 12 (st2 Tryz.f42.ntmps [.ref Tryz.f42.ntmps 0, .non, .non, .sl (Tryz.f42.ntmps + 1) (m), iv (k), .own 103 [iv l.d, iv l.o.a, iv l.o.b, iv l.o.k]] [.vown 75 (pickV 2 s).2.cells, .row (Nat.blt 0 (m)) 38 (m) K6x (c), .non, .non])))) (none) := by kernel_rfl
theorem pd_0 (K n m : Nat) (c : NNI) (k : Int) (s0 s : Src) : runW Tryz.prog GLv Γ150 K cfV30 [.own 75 s0.cells] Tryz.f42 0 (n + 1) (st2 Tryz.f42.ntmps [.ref Tryz.f42.ntmps 0, .non, .non, .sl (Tryz.f42.ntmps + 1) (m), iv (k)] [.vown 75 s.cells, .row (Nat.blt 0 (m)) 38 (m) K6x (c), .non, .non]) = cond (decide (k > 0)) (cond (pB 20 s.p) ((fromL Tryz.prog GLv Γ150 K cfV30 [.own 75 s0.cells] Tryz.f42 0 n 6 (st2 Tryz.f42.ntmps [.ref Tryz.f42.ntmps 0, .non, .non, .sl (Tryz.f42.ntmps + 1) (m), iv (k), .own 103 [iv (lineV s).1.d, iv (lineV s).1.o.a, iv (lineV s).1.o.b, iv (lineV s).1.o.k]] [.vown 75 (lineV s).2.cells, .row (Nat.blt 0 (m)) 38 (m) K6x (c), .non, .non]))) (none)) (some (outS (.row (Nat.blt 0 (m)) 38 (m) K6x (c)) s)) := by kernel_rfl
theorem pd_cong {a b : Bool} {x z1 z2 : Option AV} (h : a = true -> b = true -> z1 = z2) : cond a (cond (!b) x z1) none = cond a (cond (!b) x z2) none := by
 cases a with
 | false => rfl
 | true =>
  cases b with
  | false => rfl
  | true => exact h rfl rfl
theorem pdN_le {L : Ln} {m : Nat} {c : NNI} (hv : cutV L m c = true) (hk : (cqB (ptN L 1 m c) (ptS L 1 m c) && cqB (ptN L (-1) m c) (ptS L (-1) m c)) = true) : pdN L 1 m c <= 32 := by
 have ho : cutO L m c = true := by unfold cutO cutK; rw [hv, hk]; rfl
 have eN : pdN L 1 m c = cutN L 1 m c := by
  rw [Bool.and_eq_true] at hk
  unfold pdN cutN
  rw [hk.1, ho]
 rw [eN]
 exact (cut_same (.inl rfl)).1
theorem pd_T (K n m : Nat) (c : NNI) (k : Int) (s0 s : Src) (l : Ln) : (fromL Tryz.prog GLv Γ150 K cfV30 [.own 75 s0.cells] Tryz.f42 0 n 12 (st2 Tryz.f42.ntmps [.ref Tryz.f42.ntmps 0, .non, .non, .sl (Tryz.f42.ntmps + 1) (m), iv (k), .own 103 [iv l.d, iv l.o.a, iv l.o.b, iv l.o.k]] [.vown 75 s.cells, .row (Nat.blt 0 (m)) 38 (m) K6x (c), .non, .non])) = pdT (fun m c s => runW Tryz.prog GLv Γ150 K cfV30 [.own 75 s0.cells] Tryz.f42 0 n (st2 Tryz.f42.ntmps [.ref Tryz.f42.ntmps 0, .non, .non, .sl (Tryz.f42.ntmps + 1) (m), iv (wr (k - 1))] [.vown 75 s.cells, .row (Nat.blt 0 (m)) 38 (m) K6x (c), .non, .non])) l m c s := by
 rw [pd_12]
 unfold pdT
 exact pd_cong fun hV hq => by
  rw [pd_14 _ _ _ _ _ _ _ _ _ _ _ (pdN_le hV hq), pd_15, pd_16, pd_16, oneB_eq]
  rfl
theorem pd_step (K n m : Nat) (c : NNI) (k : Int) (s0 s : Src) : runW Tryz.prog GLv Γ150 K cfV30 [.own 75 s0.cells] Tryz.f42 0 (n + 1) (st2 Tryz.f42.ntmps [.ref Tryz.f42.ntmps 0, .non, .non, .sl (Tryz.f42.ntmps + 1) (m), iv (k)] [.vown 75 s.cells, .row (Nat.blt 0 (m)) 38 (m) K6x (c), .non, .non]) = cond (decide (k > 0)) (pdF (fun m c s => runW Tryz.prog GLv Γ150 K cfV30 [.own 75 s0.cells] Tryz.f42 0 n (st2 Tryz.f42.ntmps [.ref Tryz.f42.ntmps 0, .non, .non, .sl (Tryz.f42.ntmps + 1) (m), iv (wr (k - 1))] [.vown 75 s.cells, .row (Nat.blt 0 (m)) 38 (m) K6x (c), .non, .non])) m c s) (some (outS (.row (Nat.blt 0 (m)) 38 (m) K6x (c)) s)) := by
 rw [pd_0, pd_6, pd_7, pd_8, pd_9, pd_T, pd_T, pd_T, oneB_eq]
 rfl
theorem pd_run (K : Nat) (s0 : Src) : ∀ (r n m : Nat) (c : NNI) (k : Int) (s : Src), k <= r -> r < n -> r <= 100 -> -100 <= k -> vpS m c = true -> pB (28 * (r : Int)) s.p = true -> ∃ (g : Pg) (s' : Src), runW Tryz.prog GLv Γ150 K cfV30 [.own 75 s0.cells] Tryz.f42 0 n (st2 Tryz.f42.ntmps [.ref Tryz.f42.ntmps 0, .non, .non, .sl (Tryz.f42.ntmps + 1) (m), iv (k)] [.vown 75 s.cells, .row (Nat.blt 0 (m)) 38 (m) K6x (c), .non, .non]) = some (outS (pgRw g) s') /\ (0 <= s'.p /\ s'.p <= s.p + 28 * (r : Int)) /\ g.ok = true := by
 intro r
 induction r with
 | zero =>
  intro n m c k s h1 h2 h3 h4 hv hp
  obtain ⟨n, rfl⟩ : ∃ n', n = n' + 1 := ⟨n - 1, by omega⟩
  have hp' := pB_iff.1 hp
  rw [pd_step, show decide (k > 0) = false by simp; omega]
  exact ⟨⟨m, c⟩, s, rfl, by omega, hv⟩
 | succ r ih =>
  intro n m c k s h1 h2 h3 h4 hv hp
  obtain ⟨n, rfl⟩ : ∃ n', n = n' + 1 := ⟨n - 1, by omega⟩
  have hp' := pB_iff.1 hp
  rw [pd_step]
  by_cases hk : k > 0
  ·rw [show decide (k > 0) = true by simpa using hk, cond_true]
   refine pdF_ok (P := fun o => ∃ (g : Pg) (s' : Src), o = some (outS (pgRw g) s') /\ (0 <= s'.p /\ s'.p <= s.p + 28 * ((r + 1 : Nat) : Int)) /\ g.ok = true) hv (pB_less hp (by omega)) fun m' c' s' v' q1 q2 => ?_
   obtain ⟨g, s2, e, e2, e3⟩ := ih n m' c' (wr (k - 1)) s' (by rw [wr_in (by omega) (by omega)]; omega) (by omega) (by omega) (by rw [wr_in (by omega) (by omega)]; omega) v' (pB_iff.2 (by omega))
   exact ⟨g, s2, e, by omega, e3⟩
  ·rw [show decide (k > 0) = false by simpa using hk]
   exact ⟨⟨m, c⟩, s, rfl, by omega, hv⟩
theorem pl_dr : Dr 100 (fun s => evW Tryz.prog GLv Γ150 5 cfV30 Tryz.f42 [.own 75 s.cells]) pgRw (fun g => g.ok = true) := fun s h => by
 have h1 := pick_on 5 h (by decide)
 have p1 := pB_on h h1 (by decide)
 have h2 : 0 <= (pickV 4 (pickV 5 s).2).2.p /\ (pickV 4 (pickV 5 s).2).2.p <= (pickV 5 s).2.p + 2 := pick_on 4 p1 (by decide)
 have p2 : pB (100 - 2 - 2) (pickV 4 (pickV 5 s).2).2.p = true := pB_on p1 h2 (by decide)
 have hk : 0 <= (pickV 4 (pickV 5 s).2).1 /\ (pickV 4 (pickV 5 s).2).1 < 4 := pick_in (s := (pickV 5 s).2) (m := 4) (by decide)
 obtain ⟨g, s', e1, e2, e3⟩ := pd_run 5 s 3 5 4 (sqC (lQ.getD (pickV 5 s).1.toNat 0)) (pickV 4 (pickV 5 s).2).1 (pickV 4 (pickV 5 s).2).2 (by omega) (by decide) (by decide) (by omega) lQ_in (pB_less p2 (by decide))
 refine ⟨g, s', ?_, by omega, e3⟩
 refine (show _ = cond (pB 2 s.p && Nat.ble 1 5) (cond (pB 2 (pickV 5 s).2.p) (runW Tryz.prog GLv Γ150 5 cfV30 [.own 75 s.cells] Tryz.f42 0 5 (st2 Tryz.f42.ntmps [.ref Tryz.f42.ntmps 0, .non, .non, .sl (Tryz.f42.ntmps + 1) (4), iv ((pickV 4 (pickV 5 s).2).1)] [.vown 75 (pickV 4 (pickV 5 s).2).2.cells, .row (Nat.blt 0 (4)) 38 (4) K6x (sqC (lQ.getD (pickV 5 s).1.toNat 0)), .non, .non])) none) none from by kernel_rfl).trans ?_
 rw [pB_less h (show (2 : Int) <= 100 by decide), pB_less p1 (show (2 : Int) <= 100 - 2 by decide)]
 exact e1
noncomputable def plV (s : Src) : Pg × Src := pl_dr.get ⟨0, zeroC⟩ s
-- spec.l03Draw
noncomputable def s42 : Ctr := fun
 | [.own 75 [.arr s_n [.int .u8] s_c, iv s_p, .val (.int .u64 s_z)]] => some (pB 100 s_p, outS (pgRw (plV (⟨s_n, s_c, s_p, s_z⟩ : Src)).1) (plV (⟨s_n, s_c, s_p, s_z⟩ : Src)).2)
 | _ => none
theorem e42 (s_n : Nat) (s_c : NNI) (s_p : Int) (s_z : Int) (hp : (pB 100 s_p) = true) : evW Tryz.prog GLv Γ150 (5) (cfV30)  Tryz.f42 [.own 75 [.arr s_n [.int .u8] s_c, iv s_p, .val (.int .u64 s_z)]] = some (outS (pgRw (plV (⟨s_n, s_c, s_p, s_z⟩ : Src)).1) (plV (⟨s_n, s_c, s_p, s_z⟩ : Src)).2) := by
 exact (pl_dr.spec ⟨0, zeroC⟩ (s := (⟨s_n, s_c, s_p, s_z⟩ : Src)) hp).1
theorem m42 : MT 42 s42 := by
 refine meetsW mix0 G150 Tryz.func42 (by kernel_rfl) (by kernel_rfl) s42 fun args x h => ?_
 unfold s42 at h
 split at h
 ·rename_i s_n s_c s_p s_z
  obtain ⟨hp, rfl⟩ := sm_inj h
  exact ⟨_, _, by kernel_rfl, e42 s_n s_c s_p s_z hp⟩
 ·cases h
noncomputable abbrev Γ151 : LC := (42, s42) :: Γ150
theorem G151 : SD Γ151 := G150.cons m42
end Go.Proofs.YtlcopddgplbdhaaGreatDoor
