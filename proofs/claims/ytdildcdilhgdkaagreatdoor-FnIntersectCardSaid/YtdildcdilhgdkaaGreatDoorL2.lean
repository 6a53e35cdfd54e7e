/- Contracts of the program's functions, by the evaluator. -/
import Derived.Test.YtdildcdilhgdkaaGreatDoorL1
import Derived.Test.YtdildcdilhgdkaaGreatDoorPlF
namespace Go.Proofs.YtdildcdilhgdkaaGreatDoor
open Go.Ev
set_option linter.unusedVariables false
set_option linter.unusedSimpArgs false
set_option maxRecDepth 100000
theorem pd_16 (K n m : Nat) (c : NNI) (k : Int) (s0 s : Src) (nb : Nat) (cb : NNI) : (fromL Tryz.prog GLv Γ132 K ⟨kx2, [(6, kx0), (7, kx0), (8, kx3), (9, kx4), (12, kx0), (14, kx5), (15, kx6), (16, kx7)], [], 0, []⟩ [.own 66 s0.cells] Tryz.f17 0 n 16 (st2 Tryz.f17.ntmps [.ref Tryz.f17.ntmps 0, .non, .non, .arr (m) K6x (c), iv (k), .non, .non, .non, .non, .non, .non, .arr (nb) K6x (cb)] [.vown 66 s.cells])) = cond (decide (((nb : Nat) : Int) > 0)) ((runW Tryz.prog GLv Γ132 K ⟨kx2, [(6, kx0), (7, kx0), (8, kx3), (9, kx4), (12, kx0), (14, kx5), (15, kx6), (16, kx7)], [], 0, []⟩ [.own 66 s0.cells] Tryz.f17 0 n (st2 Tryz.f17.ntmps [.ref Tryz.f17.ntmps 0, .non, .non, .arr (nb) K6x (cb), iv (wr (k - 1))] [.vown 66 s.cells]))) ((runW Tryz.prog GLv Γ132 K ⟨kx2, [(6, kx0), (7, kx0), (8, kx3), (9, kx4), (12, kx0), (14, kx5), (15, kx6), (16, kx7)], [], 0, []⟩ [.own 66 s0.cells] Tryz.f17 0 n (st2 Tryz.f17.ntmps [.ref Tryz.f17.ntmps 0, .non, .non, .arr (m) K6x (c), iv (wr (k - 1))] [.vown 66 s.cells]))) := by kernel_rfl
theorem pd_15 (K n m : Nat) (c : NNI) (k : Int) (s0 s : Src) (na : Nat) (ca : NNI) : (fromL Tryz.prog GLv Γ132 K ⟨kx2, [(6, kx0), (7, kx0), (8, kx3), (9, kx4), (12, kx0), (14, kx5), (15, kx6), (16, kx7)], [], 0, []⟩ [.own 66 s0.cells] Tryz.f17 0 n 15 (st2 Tryz.f17.ntmps [.ref Tryz.f17.ntmps 0, .non, .non, .arr (m) K6x (c), iv (k), .non, .non, .non, .non, .non, .arr (na) K6x (ca)] [.vown 66 s.cells])) = (runW Tryz.prog GLv Γ132 K ⟨kx2, [(6, kx0), (7, kx0), (8, kx3), (9, kx4), (12, kx0), (14, kx5), (15, kx6), (16, kx7)], [], 0, []⟩ [.own 66 s0.cells] Tryz.f17 0 n (st2 Tryz.f17.ntmps [.ref Tryz.f17.ntmps 0, .non, .non, .arr (na) K6x (ca), iv (wr (k - 1))] [.vown 66 s.cells])) := by kernel_rfl
noncomputable def z16 (K n m : Nat) (c : NNI) (k : Int) (s0 s : Src) (nb : Nat) (cb : NNI) : Option AV := (fromL Tryz.prog GLv Γ132 K ⟨kx2, [(6, kx0), (7, kx0), (8, kx3), (9, kx4), (12, kx0), (14, kx5), (15, kx6), (16, kx7)], [], 0, []⟩ [.own 66 s0.cells] Tryz.f17 0 n 16 (st2 Tryz.f17.ntmps [.ref Tryz.f17.ntmps 0, .non, .non, .arr (m) K6x (c), iv (k), .non, .non, .non, .non, .non, .non, .arr (nb) K6x (cb)] [.vown 66 s.cells]))
noncomputable def z15 (K n m : Nat) (c : NNI) (k : Int) (s0 s : Src) (na : Nat) (ca : NNI) : Option AV := (fromL Tryz.prog GLv Γ132 K ⟨kx2, [(6, kx0), (7, kx0), (8, kx3), (9, kx4), (12, kx0), (14, kx5), (15, kx6), (16, kx7)], [], 0, []⟩ [.own 66 s0.cells] Tryz.f17 0 n 15 (st2 Tryz.f17.ntmps [.ref Tryz.f17.ntmps 0, .non, .non, .arr (m) K6x (c), iv (k), .non, .non, .non, .non, .non, .arr (na) K6x (ca)] [.vown 66 s.cells]))
noncomputable def z14 (K n m : Nat) (c : NNI) (k : Int) (s0 s : Src) (na : Nat) (ca : NNI) (nb : Nat) (cb : NNI) : Option AV := (fromL Tryz.prog GLv Γ132 K ⟨kx2, [(6, kx0), (7, kx0), (8, kx3), (9, kx4), (12, kx0), (14, kx5), (15, kx6), (16, kx7)], [], 0, []⟩ [.own 66 s0.cells] Tryz.f17 0 n 14 (st2 Tryz.f17.ntmps [.ref Tryz.f17.ntmps 0, .non, .non, .arr (m) K6x (c), iv (k), .non, .non, .non, .non, .non, .arr (na) K6x (ca), .arr (nb) K6x (cb)] [.vown 66 s.cells]))
theorem pd14_0 (K n m : Nat) (c : NNI) (k : Int) (s0 s : Src) (ca : NNI) (nb : Nat) (cb : NNI) : z14 K n m c k s0 s 0 ca nb cb = cond (decide (((0 : Nat) : Int) > 0)) (cond (pB 2 s.p) (cond (oneB 2 s) (z15 K n m c k s0 (pickV 2 s).2 0 ca) (z16 K n m c k s0 (pickV 2 s).2 nb cb)) none) (z16 K n m c k s0 s nb cb) := by kernel_rfl
theorem pd14_1 (K n m : Nat) (c : NNI) (k : Int) (s0 s : Src) (ca : NNI) (nb : Nat) (cb : NNI) : z14 K n m c k s0 s 1 ca nb cb = cond (decide (((1 : Nat) : Int) > 0)) (cond (pB 2 s.p) (cond (oneB 2 s) (z15 K n m c k s0 (pickV 2 s).2 1 ca) (z16 K n m c k s0 (pickV 2 s).2 nb cb)) none) (z16 K n m c k s0 s nb cb) := by kernel_rfl
theorem pd14_2 (K n m : Nat) (c : NNI) (k : Int) (s0 s : Src) (ca : NNI) (nb : Nat) (cb : NNI) : z14 K n m c k s0 s 2 ca nb cb = cond (decide (((2 : Nat) : Int) > 0)) (cond (pB 2 s.p) (cond (oneB 2 s) (z15 K n m c k s0 (pickV 2 s).2 2 ca) (z16 K n m c k s0 (pickV 2 s).2 nb cb)) none) (z16 K n m c k s0 s nb cb) := by kernel_rfl
theorem pd14_3 (K n m : Nat) (c : NNI) (k : Int) (s0 s : Src) (ca : NNI) (nb : Nat) (cb : NNI) : z14 K n m c k s0 s 3 ca nb cb = cond (decide (((3 : Nat) : Int) > 0)) (cond (pB 2 s.p) (cond (oneB 2 s) (z15 K n m c k s0 (pickV 2 s).2 3 ca) (z16 K n m c k s0 (pickV 2 s).2 nb cb)) none) (z16 K n m c k s0 s nb cb) := by kernel_rfl
theorem pd14_4 (K n m : Nat) (c : NNI) (k : Int) (s0 s : Src) (ca : NNI) (nb : Nat) (cb : NNI) : z14 K n m c k s0 s 4 ca nb cb = cond (decide (((4 : Nat) : Int) > 0)) (cond (pB 2 s.p) (cond (oneB 2 s) (z15 K n m c k s0 (pickV 2 s).2 4 ca) (z16 K n m c k s0 (pickV 2 s).2 nb cb)) none) (z16 K n m c k s0 s nb cb) := by kernel_rfl
theorem pd14_5 (K n m : Nat) (c : NNI) (k : Int) (s0 s : Src) (ca : NNI) (nb : Nat) (cb : NNI) : z14 K n m c k s0 s 5 ca nb cb = cond (decide (((5 : Nat) : Int) > 0)) (cond (pB 2 s.p) (cond (oneB 2 s) (z15 K n m c k s0 (pickV 2 s).2 5 ca) (z16 K n m c k s0 (pickV 2 s).2 nb cb)) none) (z16 K n m c k s0 s nb cb) := by kernel_rfl
theorem pd14_6 (K n m : Nat) (c : NNI) (k : Int) (s0 s : Src) (ca : NNI) (nb : Nat) (cb : NNI) : z14 K n m c k s0 s 6 ca nb cb = cond (decide (((6 : Nat) : Int) > 0)) (cond (pB 2 s.p) (cond (oneB 2 s) (z15 K n m c k s0 (pickV 2 s).2 6 ca) (z16 K n m c k s0 (pickV 2 s).2 nb cb)) none) (z16 K n m c k s0 s nb cb) := by kernel_rfl
theorem pd14_7 (K n m : Nat) (c : NNI) (k : Int) (s0 s : Src) (ca : NNI) (nb : Nat) (cb : NNI) : z14 K n m c k s0 s 7 ca nb cb = cond (decide (((7 : Nat) : Int) > 0)) (cond (pB 2 s.p) (cond (oneB 2 s) (z15 K n m c k s0 (pickV 2 s).2 7 ca) (z16 K n m c k s0 (pickV 2 s).2 nb cb)) none) (z16 K n m c k s0 s nb cb) := by kernel_rfl
theorem pd14_8 (K n m : Nat) (c : NNI) (k : Int) (s0 s : Src) (ca : NNI) (nb : Nat) (cb : NNI) : z14 K n m c k s0 s 8 ca nb cb = cond (decide (((8 : Nat) : Int) > 0)) (cond (pB 2 s.p) (cond (oneB 2 s) (z15 K n m c k s0 (pickV 2 s).2 8 ca) (z16 K n m c k s0 (pickV 2 s).2 nb cb)) none) (z16 K n m c k s0 s nb cb) := by kernel_rfl
theorem pd14_9 (K n m : Nat) (c : NNI) (k : Int) (s0 s : Src) (ca : NNI) (nb : Nat) (cb : NNI) : z14 K n m c k s0 s 9 ca nb cb = cond (decide (((9 : Nat) : Int) > 0)) (cond (pB 2 s.p) (cond (oneB 2 s) (z15 K n m c k s0 (pickV 2 s).2 9 ca) (z16 K n m c k s0 (pickV 2 s).2 nb cb)) none) (z16 K n m c k s0 s nb cb) := by kernel_rfl
theorem pd14_10 (K n m : Nat) (c : NNI) (k : Int) (s0 s : Src) (ca : NNI) (nb : Nat) (cb : NNI) : z14 K n m c k s0 s 10 ca nb cb = cond (decide (((10 : Nat) : Int) > 0)) (cond (pB 2 s.p) (cond (oneB 2 s) (z15 K n m c k s0 (pickV 2 s).2 10 ca) (z16 K n m c k s0 (pickV 2 s).2 nb cb)) none) (z16 K n m c k s0 s nb cb) := by kernel_rfl
theorem pd14_11 (K n m : Nat) (c : NNI) (k : Int) (s0 s : Src) (ca : NNI) (nb : Nat) (cb : NNI) : z14 K n m c k s0 s 11 ca nb cb = cond (decide (((11 : Nat) : Int) > 0)) (cond (pB 2 s.p) (cond (oneB 2 s) (z15 K n m c k s0 (pickV 2 s).2 11 ca) (z16 K n m c k s0 (pickV 2 s).2 nb cb)) none) (z16 K n m c k s0 s nb cb) := by kernel_rfl
theorem pd14_12 (K n m : Nat) (c : NNI) (k : Int) (s0 s : Src) (ca : NNI) (nb : Nat) (cb : NNI) : z14 K n m c k s0 s 12 ca nb cb = cond (decide (((12 : Nat) : Int) > 0)) (cond (pB 2 s.p) (cond (oneB 2 s) (z15 K n m c k s0 (pickV 2 s).2 12 ca) (z16 K n m c k s0 (pickV 2 s).2 nb cb)) none) (z16 K n m c k s0 s nb cb) := by kernel_rfl
theorem pd14_13 (K n m : Nat) (c : NNI) (k : Int) (s0 s : Src) (ca : NNI) (nb : Nat) (cb : NNI) : z14 K n m c k s0 s 13 ca nb cb = cond (decide (((13 : Nat) : Int) > 0)) (cond (pB 2 s.p) (cond (oneB 2 s) (z15 K n m c k s0 (pickV 2 s).2 13 ca) (z16 K n m c k s0 (pickV 2 s).2 nb cb)) none) (z16 K n m c k s0 s nb cb) := by kernel_rfl
theorem pd14_14 (K n m : Nat) (c : NNI) (k : Int) (s0 s : Src) (ca : NNI) (nb : Nat) (cb : NNI) : z14 K n m c k s0 s 14 ca nb cb = cond (decide (((14 : Nat) : Int) > 0)) (cond (pB 2 s.p) (cond (oneB 2 s) (z15 K n m c k s0 (pickV 2 s).2 14 ca) (z16 K n m c k s0 (pickV 2 s).2 nb cb)) none) (z16 K n m c k s0 s nb cb) := by kernel_rfl
theorem pd14_15 (K n m : Nat) (c : NNI) (k : Int) (s0 s : Src) (ca : NNI) (nb : Nat) (cb : NNI) : z14 K n m c k s0 s 15 ca nb cb = cond (decide (((15 : Nat) : Int) > 0)) (cond (pB 2 s.p) (cond (oneB 2 s) (z15 K n m c k s0 (pickV 2 s).2 15 ca) (z16 K n m c k s0 (pickV 2 s).2 nb cb)) none) (z16 K n m c k s0 s nb cb) := by kernel_rfl
theorem pd14_16 (K n m : Nat) (c : NNI) (k : Int) (s0 s : Src) (ca : NNI) (nb : Nat) (cb : NNI) : z14 K n m c k s0 s 16 ca nb cb = cond (decide (((16 : Nat) : Int) > 0)) (cond (pB 2 s.p) (cond (oneB 2 s) (z15 K n m c k s0 (pickV 2 s).2 16 ca) (z16 K n m c k s0 (pickV 2 s).2 nb cb)) none) (z16 K n m c k s0 s nb cb) := by kernel_rfl
theorem pd14_17 (K n m : Nat) (c : NNI) (k : Int) (s0 s : Src) (ca : NNI) (nb : Nat) (cb : NNI) : z14 K n m c k s0 s 17 ca nb cb = cond (decide (((17 : Nat) : Int) > 0)) (cond (pB 2 s.p) (cond (oneB 2 s) (z15 K n m c k s0 (pickV 2 s).2 17 ca) (z16 K n m c k s0 (pickV 2 s).2 nb cb)) none) (z16 K n m c k s0 s nb cb) := by kernel_rfl
theorem pd14_18 (K n m : Nat) (c : NNI) (k : Int) (s0 s : Src) (ca : NNI) (nb : Nat) (cb : NNI) : z14 K n m c k s0 s 18 ca nb cb = cond (decide (((18 : Nat) : Int) > 0)) (cond (pB 2 s.p) (cond (oneB 2 s) (z15 K n m c k s0 (pickV 2 s).2 18 ca) (z16 K n m c k s0 (pickV 2 s).2 nb cb)) none) (z16 K n m c k s0 s nb cb) := by kernel_rfl
theorem pd14_19 (K n m : Nat) (c : NNI) (k : Int) (s0 s : Src) (ca : NNI) (nb : Nat) (cb : NNI) : z14 K n m c k s0 s 19 ca nb cb = cond (decide (((19 : Nat) : Int) > 0)) (cond (pB 2 s.p) (cond (oneB 2 s) (z15 K n m c k s0 (pickV 2 s).2 19 ca) (z16 K n m c k s0 (pickV 2 s).2 nb cb)) none) (z16 K n m c k s0 s nb cb) := by kernel_rfl
theorem pd14_20 (K n m : Nat) (c : NNI) (k : Int) (s0 s : Src) (ca : NNI) (nb : Nat) (cb : NNI) : z14 K n m c k s0 s 20 ca nb cb = cond (decide (((20 : Nat) : Int) > 0)) (cond (pB 2 s.p) (cond (oneB 2 s) (z15 K n m c k s0 (pickV 2 s).2 20 ca) (z16 K n m c k s0 (pickV 2 s).2 nb cb)) none) (z16 K n m c k s0 s nb cb) := by kernel_rfl
theorem pd14_21 (K n m : Nat) (c : NNI) (k : Int) (s0 s : Src) (ca : NNI) (nb : Nat) (cb : NNI) : z14 K n m c k s0 s 21 ca nb cb = cond (decide (((21 : Nat) : Int) > 0)) (cond (pB 2 s.p) (cond (oneB 2 s) (z15 K n m c k s0 (pickV 2 s).2 21 ca) (z16 K n m c k s0 (pickV 2 s).2 nb cb)) none) (z16 K n m c k s0 s nb cb) := by kernel_rfl
theorem pd14_22 (K n m : Nat) (c : NNI) (k : Int) (s0 s : Src) (ca : NNI) (nb : Nat) (cb : NNI) : z14 K n m c k s0 s 22 ca nb cb = cond (decide (((22 : Nat) : Int) > 0)) (cond (pB 2 s.p) (cond (oneB 2 s) (z15 K n m c k s0 (pickV 2 s).2 22 ca) (z16 K n m c k s0 (pickV 2 s).2 nb cb)) none) (z16 K n m c k s0 s nb cb) := by kernel_rfl
theorem pd14_23 (K n m : Nat) (c : NNI) (k : Int) (s0 s : Src) (ca : NNI) (nb : Nat) (cb : NNI) : z14 K n m c k s0 s 23 ca nb cb = cond (decide (((23 : Nat) : Int) > 0)) (cond (pB 2 s.p) (cond (oneB 2 s) (z15 K n m c k s0 (pickV 2 s).2 23 ca) (z16 K n m c k s0 (pickV 2 s).2 nb cb)) none) (z16 K n m c k s0 s nb cb) := by kernel_rfl
theorem pd14_24 (K n m : Nat) (c : NNI) (k : Int) (s0 s : Src) (ca : NNI) (nb : Nat) (cb : NNI) : z14 K n m c k s0 s 24 ca nb cb = cond (decide (((24 : Nat) : Int) > 0)) (cond (pB 2 s.p) (cond (oneB 2 s) (z15 K n m c k s0 (pickV 2 s).2 24 ca) (z16 K n m c k s0 (pickV 2 s).2 nb cb)) none) (z16 K n m c k s0 s nb cb) := by kernel_rfl
theorem pd14_25 (K n m : Nat) (c : NNI) (k : Int) (s0 s : Src) (ca : NNI) (nb : Nat) (cb : NNI) : z14 K n m c k s0 s 25 ca nb cb = cond (decide (((25 : Nat) : Int) > 0)) (cond (pB 2 s.p) (cond (oneB 2 s) (z15 K n m c k s0 (pickV 2 s).2 25 ca) (z16 K n m c k s0 (pickV 2 s).2 nb cb)) none) (z16 K n m c k s0 s nb cb) := by kernel_rfl
theorem pd14_26 (K n m : Nat) (c : NNI) (k : Int) (s0 s : Src) (ca : NNI) (nb : Nat) (cb : NNI) : z14 K n m c k s0 s 26 ca nb cb = cond (decide (((26 : Nat) : Int) > 0)) (cond (pB 2 s.p) (cond (oneB 2 s) (z15 K n m c k s0 (pickV 2 s).2 26 ca) (z16 K n m c k s0 (pickV 2 s).2 nb cb)) none) (z16 K n m c k s0 s nb cb) := by kernel_rfl
theorem pd14_27 (K n m : Nat) (c : NNI) (k : Int) (s0 s : Src) (ca : NNI) (nb : Nat) (cb : NNI) : z14 K n m c k s0 s 27 ca nb cb = cond (decide (((27 : Nat) : Int) > 0)) (cond (pB 2 s.p) (cond (oneB 2 s) (z15 K n m c k s0 (pickV 2 s).2 27 ca) (z16 K n m c k s0 (pickV 2 s).2 nb cb)) none) (z16 K n m c k s0 s nb cb) := by kernel_rfl
theorem pd14_28 (K n m : Nat) (c : NNI) (k : Int) (s0 s : Src) (ca : NNI) (nb : Nat) (cb : NNI) : z14 K n m c k s0 s 28 ca nb cb = cond (decide (((28 : Nat) : Int) > 0)) (cond (pB 2 s.p) (cond (oneB 2 s) (z15 K n m c k s0 (pickV 2 s).2 28 ca) (z16 K n m c k s0 (pickV 2 s).2 nb cb)) none) (z16 K n m c k s0 s nb cb) := by kernel_rfl
theorem pd14_29 (K n m : Nat) (c : NNI) (k : Int) (s0 s : Src) (ca : NNI) (nb : Nat) (cb : NNI) : z14 K n m c k s0 s 29 ca nb cb = cond (decide (((29 : Nat) : Int) > 0)) (cond (pB 2 s.p) (cond (oneB 2 s) (z15 K n m c k s0 (pickV 2 s).2 29 ca) (z16 K n m c k s0 (pickV 2 s).2 nb cb)) none) (z16 K n m c k s0 s nb cb) := by kernel_rfl
theorem pd14_30 (K n m : Nat) (c : NNI) (k : Int) (s0 s : Src) (ca : NNI) (nb : Nat) (cb : NNI) : z14 K n m c k s0 s 30 ca nb cb = cond (decide (((30 : Nat) : Int) > 0)) (cond (pB 2 s.p) (cond (oneB 2 s) (z15 K n m c k s0 (pickV 2 s).2 30 ca) (z16 K n m c k s0 (pickV 2 s).2 nb cb)) none) (z16 K n m c k s0 s nb cb) := by kernel_rfl
theorem pd14_31 (K n m : Nat) (c : NNI) (k : Int) (s0 s : Src) (ca : NNI) (nb : Nat) (cb : NNI) : z14 K n m c k s0 s 31 ca nb cb = cond (decide (((31 : Nat) : Int) > 0)) (cond (pB 2 s.p) (cond (oneB 2 s) (z15 K n m c k s0 (pickV 2 s).2 31 ca) (z16 K n m c k s0 (pickV 2 s).2 nb cb)) none) (z16 K n m c k s0 s nb cb) := by kernel_rfl
theorem pd14_32 (K n m : Nat) (c : NNI) (k : Int) (s0 s : Src) (ca : NNI) (nb : Nat) (cb : NNI) : z14 K n m c k s0 s 32 ca nb cb = cond (decide (((32 : Nat) : Int) > 0)) (cond (pB 2 s.p) (cond (oneB 2 s) (z15 K n m c k s0 (pickV 2 s).2 32 ca) (z16 K n m c k s0 (pickV 2 s).2 nb cb)) none) (z16 K n m c k s0 s nb cb) := by kernel_rfl
theorem pd14 (K n m : Nat) (c : NNI) (k : Int) (s0 s : Src) (na : Nat) (ca : NNI) (nb : Nat) (cb : NNI) (h : na <= 32) : z14 K n m c k s0 s na ca nb cb = cond (decide (((na : Nat) : Int) > 0)) (cond (pB 2 s.p) (cond (oneB 2 s) (z15 K n m c k s0 (pickV 2 s).2 na ca) (z16 K n m c k s0 (pickV 2 s).2 nb cb)) none) (z16 K n m c k s0 s nb cb) := by
  match na, h with
  | 0, _ => exact pd14_0 K n m c k s0 s ca nb cb
  | 1, _ => exact pd14_1 K n m c k s0 s ca nb cb
  | 2, _ => exact pd14_2 K n m c k s0 s ca nb cb
  | 3, _ => exact pd14_3 K n m c k s0 s ca nb cb
  | 4, _ => exact pd14_4 K n m c k s0 s ca nb cb
  | 5, _ => exact pd14_5 K n m c k s0 s ca nb cb
  | 6, _ => exact pd14_6 K n m c k s0 s ca nb cb
  | 7, _ => exact pd14_7 K n m c k s0 s ca nb cb
  | 8, _ => exact pd14_8 K n m c k s0 s ca nb cb
  | 9, _ => exact pd14_9 K n m c k s0 s ca nb cb
  | 10, _ => exact pd14_10 K n m c k s0 s ca nb cb
  | 11, _ => exact pd14_11 K n m c k s0 s ca nb cb
  | 12, _ => exact pd14_12 K n m c k s0 s ca nb cb
  | 13, _ => exact pd14_13 K n m c k s0 s ca nb cb
  | 14, _ => exact pd14_14 K n m c k s0 s ca nb cb
  | 15, _ => exact pd14_15 K n m c k s0 s ca nb cb
  | 16, _ => exact pd14_16 K n m c k s0 s ca nb cb
  | 17, _ => exact pd14_17 K n m c k s0 s ca nb cb
  | 18, _ => exact pd14_18 K n m c k s0 s ca nb cb
  | 19, _ => exact pd14_19 K n m c k s0 s ca nb cb
  | 20, _ => exact pd14_20 K n m c k s0 s ca nb cb
  | 21, _ => exact pd14_21 K n m c k s0 s ca nb cb
  | 22, _ => exact pd14_22 K n m c k s0 s ca nb cb
  | 23, _ => exact pd14_23 K n m c k s0 s ca nb cb
  | 24, _ => exact pd14_24 K n m c k s0 s ca nb cb
  | 25, _ => exact pd14_25 K n m c k s0 s ca nb cb
  | 26, _ => exact pd14_26 K n m c k s0 s ca nb cb
  | 27, _ => exact pd14_27 K n m c k s0 s ca nb cb
  | 28, _ => exact pd14_28 K n m c k s0 s ca nb cb
  | 29, _ => exact pd14_29 K n m c k s0 s ca nb cb
  | 30, _ => exact pd14_30 K n m c k s0 s ca nb cb
  | 31, _ => exact pd14_31 K n m c k s0 s ca nb cb
  | 32, _ => exact pd14_32 K n m c k s0 s ca nb cb
  | q + 33, h => exact absurd h (by omega)
theorem pd_14 (K n m : Nat) (c : NNI) (k : Int) (s0 s : Src) (na : Nat) (ca : NNI) (nb : Nat) (cb : NNI) (h : na <= 32) : (fromL Tryz.prog GLv Γ132 K ⟨kx2, [(6, kx0), (7, kx0), (8, kx3), (9, kx4), (12, kx0), (14, kx5), (15, kx6), (16, kx7)], [], 0, []⟩ [.own 66 s0.cells] Tryz.f17 0 n 14 (st2 Tryz.f17.ntmps [.ref Tryz.f17.ntmps 0, .non, .non, .arr (m) K6x (c), iv (k), .non, .non, .non, .non, .non, .arr (na) K6x (ca), .arr (nb) K6x (cb)] [.vown 66 s.cells])) = cond (decide (((na : Nat) : Int) > 0)) (cond (pB 2 s.p) (cond (oneB 2 s) ((fromL Tryz.prog GLv Γ132 K ⟨kx2, [(6, kx0), (7, kx0), (8, kx3), (9, kx4), (12, kx0), (14, kx5), (15, kx6), (16, kx7)], [], 0, []⟩ [.own 66 s0.cells] Tryz.f17 0 n 15 (st2 Tryz.f17.ntmps [.ref Tryz.f17.ntmps 0, .non, .non, .arr (m) K6x (c), iv (k), .non, .non, .non, .non, .non, .arr (na) K6x (ca)] [.vown 66 (pickV 2 s).2.cells]))) ((fromL Tryz.prog GLv Γ132 K ⟨kx2, [(6, kx0), (7, kx0), (8, kx3), (9, kx4), (12, kx0), (14, kx5), (15, kx6), (16, kx7)], [], 0, []⟩ [.own 66 s0.cells] Tryz.f17 0 n 16 (st2 Tryz.f17.ntmps [.ref Tryz.f17.ntmps 0, .non, .non, .arr (m) K6x (c), iv (k), .non, .non, .non, .non, .non, .non, .arr (nb) K6x (cb)] [.vown 66 (pickV 2 s).2.cells])))) (none)) ((fromL Tryz.prog GLv Γ132 K ⟨kx2, [(6, kx0), (7, kx0), (8, kx3), (9, kx4), (12, kx0), (14, kx5), (15, kx6), (16, kx7)], [], 0, []⟩ [.own 66 s0.cells] Tryz.f17 0 n 16 (st2 Tryz.f17.ntmps [.ref Tryz.f17.ntmps 0, .non, .non, .arr (m) K6x (c), iv (k), .non, .non, .non, .non, .non, .non, .arr (nb) K6x (cb)] [.vown 66 s.cells]))) := pd14 K n m c k s0 s na ca nb cb h
theorem pd_12 (K n m : Nat) (c : NNI) (k : Int) (s0 s : Src) (l : Ln) : (fromL Tryz.prog GLv Γ132 K ⟨kx2, [(6, kx0), (7, kx0), (8, kx3), (9, kx4), (12, kx0), (14, kx5), (15, kx6), (16, kx7)], [], 0, []⟩ [.own 66 s0.cells] Tryz.f17 0 n 12 (st2 Tryz.f17.ntmps [.ref Tryz.f17.ntmps 0, .non, .non, .arr (m) K6x (c), iv (k), .own 27 [iv l.d, iv l.o.a, iv l.o.b, iv l.o.k]] [.vown 66 s.cells])) = cond (cutV l m c) (cond (!(cqB (ptN l 1 m c) (ptS l 1 m c) && cqB (ptN l (-1) m c) (ptS l (-1) m c))) ((runW Tryz.prog GLv Γ132 K ⟨kx2, [(6, kx0), (7, kx0), (8, kx3), (9, kx4), (12, kx0), (14, kx5), (15, kx6), (16, kx7)], [], 0, []⟩ [.own 66 s0.cells] Tryz.f17 0 n (st2 Tryz.f17.ntmps [.ref Tryz.f17.ntmps 0, .non, .non, .arr (m) K6x (c), iv (wr (k - 1))] [.vown 66 s.cells]))) ((fromL Tryz.prog GLv Γ132 K ⟨kx2, [(6, kx0), (7, kx0), (8, kx3), (9, kx4), (12, kx0), (14, kx5), (15, kx6), (16, kx7)], [], 0, []⟩ [.own 66 s0.cells] Tryz.f17 0 n 14 (st2 Tryz.f17.ntmps [.ref Tryz.f17.ntmps 0, .non, .non, .arr (m) K6x (c), iv (k), .non, .non, .non, .non, .non, .arr (pdN l 1 m c) K6x (pdC l 1 m c), .arr (pdN l (-1) m c) K6x (pdC l (-1) m c)] [.vown 66 s.cells])))) (none) := by kernel_rfl
theorem pd_9 (K n m : Nat) (c : NNI) (k : Int) (s0 s : Src) (l : Ln) (p : P2) (d : Int) : (fromL Tryz.prog GLv Γ132 K ⟨kx2, [(6, kx0), (7, kx0), (8, kx3), (9, kx4), (12, kx0), (14, kx5), (15, kx6), (16, kx7)], [], 0, []⟩ [.own 66 s0.cells] Tryz.f17 0 n 9 (st2 Tryz.f17.ntmps [.ref Tryz.f17.ntmps 0, .non, .non, .arr (m) K6x (c), iv (k), .own 27 [iv l.d, iv l.o.a, iv l.o.b, iv l.o.k], .own 35 [iv p.x.a, iv p.x.b, iv p.x.k, iv p.y.a, iv p.y.b, iv p.y.k], iv d] [.vown 66 s.cells])) = cond (laO p d) ((fromL Tryz.prog GLv Γ132 K ⟨kx2, [(6, kx0), (7, kx0), (8, kx3), (9, kx4), (12, kx0), (14, kx5), (15, kx6), (16, kx7)], [], 0, []⟩ [.own 66 s0.cells] Tryz.f17 0 n 12 (st2 Tryz.f17.ntmps [.ref Tryz.f17.ntmps 0, .non, .non, .arr (m) K6x (c), iv (k), .own 27 [iv (laL p d).d, iv (laL p d).o.a, iv (laL p d).o.b, iv (laL p d).o.k]] [.vown 66 s.cells]))) ((fromL Tryz.prog GLv Γ132 K ⟨kx2, [(6, kx0), (7, kx0), (8, kx3), (9, kx4), (12, kx0), (14, kx5), (15, kx6), (16, kx7)], [], 0, []⟩ [.own 66 s0.cells] Tryz.f17 0 n 12 (st2 Tryz.f17.ntmps [.ref Tryz.f17.ntmps 0, .non, .non, .arr (m) K6x (c), iv (k), .own 27 [iv l.d, iv l.o.a, iv l.o.b, iv l.o.k]] [.vown 66 s.cells]))) := by kernel_rfl
theorem pd_8 (K n m : Nat) (c : NNI) (k : Int) (s0 s : Src) (l : Ln) (p : P2) : (fromL Tryz.prog GLv Γ132 K ⟨kx2, [(6, kx0), (7, kx0), (8, kx3), (9, kx4), (12, kx0), (14, kx5), (15, kx6), (16, kx7)], [], 0, []⟩ [.own 66 s0.cells] Tryz.f17 0 n 8 (st2 Tryz.f17.ntmps [.ref Tryz.f17.ntmps 0, .non, .non, .arr (m) K6x (c), iv (k), .own 27 [iv l.d, iv l.o.a, iv l.o.b, iv l.o.k], .own 35 [iv p.x.a, iv p.x.b, iv p.x.k, iv p.y.a, iv p.y.b, iv p.y.k]] [.vown 66 s.cells])) = cond (pB 2 s.p) ((fromL Tryz.prog GLv Γ132 K ⟨kx2, [(6, kx0), (7, kx0), (8, kx3), (9, kx4), (12, kx0), (14, kx5), (15, kx6), (16, kx7)], [], 0, []⟩ [.own 66 s0.cells] Tryz.f17 0 n 9 (st2 Tryz.f17.ntmps [.ref Tryz.f17.ntmps 0, .non, .non, .arr (m) K6x (c), iv (k), .own 27 [iv l.d, iv l.o.a, iv l.o.b, iv l.o.k], .own 35 [iv p.x.a, iv p.x.b, iv p.x.k, iv p.y.a, iv p.y.b, iv p.y.k], iv (pickV 8 s).1] [.vown 66 (pickV 8 s).2.cells]))) (none) := by kernel_rfl
theorem pd_7 (K n m : Nat) (c : NNI) (k : Int) (s0 s : Src) (l : Ln) : (fromL Tryz.prog GLv Γ132 K ⟨kx2, [(6, kx0), (7, kx0), (8, kx3), (9, kx4), (12, kx0), (14, kx5), (15, kx6), (16, kx7)], [], 0, []⟩ [.own 66 s0.cells] Tryz.f17 0 n 7 (st2 Tryz.f17.ntmps [.ref Tryz.f17.ntmps 0, .non, .non, .arr (m) K6x (c), iv (k), .own 27 [iv l.d, iv l.o.a, iv l.o.b, iv l.o.k]] [.vown 66 s.cells])) = cond (pB 2 s.p) (cond ((decide (0 <= ((pickV (m : Int) s).1 : Int)) && decide (((pickV (m : Int) s).1 : Int) < (m : Int)))) ((fromL Tryz.prog GLv Γ132 K ⟨kx2, [(6, kx0), (7, kx0), (8, kx3), (9, kx4), (12, kx0), (14, kx5), (15, kx6), (16, kx7)], [], 0, []⟩ [.own 66 s0.cells] Tryz.f17 0 n 8 (st2 Tryz.f17.ntmps [.ref Tryz.f17.ntmps 0, .non, .non, .arr (m) K6x (c), iv (k), .own 27 [iv l.d, iv l.o.a, iv l.o.b, iv l.o.k], .own 35 [iv (pAt c (pickV (m : Int) s).1.toNat).x.a, iv (pAt c (pickV (m : Int) s).1.toNat).x.b, iv (pAt c (pickV (m : Int) s).1.toNat).x.k, iv (pAt c (pickV (m : Int) s).1.toNat).y.a, iv (pAt c (pickV (m : Int) s).1.toNat).y.b, iv (pAt c (pickV (m : Int) s).1.toNat).y.k]] [.vown 66 (pickV (m : Int) s).2.cells]))) (none)) (none) := by kernel_rfl
theorem pd_6 (K n m : Nat) (c : NNI) (k : Int) (s0 s : Src) (l : Ln) : (fromL Tryz.prog GLv Γ132 K ⟨kx2, [(6, kx0), (7, kx0), (8, kx3), (9, kx4), (12, kx0), (14, kx5), (15, kx6), (16, kx7)], [], 0, []⟩ [.own 66 s0.cells] Tryz.f17 0 n 6 (st2 Tryz.f17.ntmps [.ref Tryz.f17.ntmps 0, .non, .non, .arr (m) K6x (c), iv (k), .own 27 [iv l.d, iv l.o.a, iv l.o.b, iv l.o.k]] [.vown 66 s.cells])) = cond (pB 2 s.p) (cond (oneB 2 s) ((fromL Tryz.prog GLv Γ132 K ⟨kx2, [(6, kx0), (7, kx0), (8, kx3), (9, kx4), (12, kx0), (14, kx5), (15, kx6), (16, kx7)], [], 0, []⟩ [.own 66 s0.cells] Tryz.f17 0 n 7 (st2 Tryz.f17.ntmps [.ref Tryz.f17.ntmps 0, .non, .non, .arr (m) K6x (c), iv (k), .own 27 [iv l.d, iv l.o.a, iv l.o.b, iv l.o.k]] [.vown 66 (pickV 2 s).2.cells]))) ((fromL Tryz.prog GLv Γ132 K ⟨kx2, [(6, kx0), (7, kx0), (8, kx3), (9, kx4), (12, kx0), (14, kx5), (15, kx6), (16, kx7)], [], 0, []⟩ [.own 66 s0.cells] Tryz.f17 0 n 12 (st2 Tryz.f17.ntmps [.ref Tryz.f17.ntmps 0, .non, .non, .arr (m) K6x (c), iv (k), .own 27 [iv l.d, iv l.o.a, iv l.o.b, iv l.o.k]] [.vown 66 (pickV 2 s).2.cells])))) (none) := by kernel_rfl
theorem pd_0 (K n m : Nat) (c : NNI) (k : Int) (s0 s : Src) : runW Tryz.prog GLv Γ132 K ⟨kx2, [(6, kx0), (7, kx0), (8, kx3), (9, kx4), (12, kx0), (14, kx5), (15, kx6), (16, kx7)], [], 0, []⟩ [.own 66 s0.cells] Tryz.f17 0 (n + 1) (st2 Tryz.f17.ntmps [.ref Tryz.f17.ntmps 0, .non, .non, .arr (m) K6x (c), iv (k)] [.vown 66 s.cells]) = cond (decide (k > 0)) (cond (pB 20 s.p) ((fromL Tryz.prog GLv Γ132 K ⟨kx2, [(6, kx0), (7, kx0), (8, kx3), (9, kx4), (12, kx0), (14, kx5), (15, kx6), (16, kx7)], [], 0, []⟩ [.own 66 s0.cells] Tryz.f17 0 n 6 (st2 Tryz.f17.ntmps [.ref Tryz.f17.ntmps 0, .non, .non, .arr (m) K6x (c), iv (k), .own 27 [iv (lineV s).1.d, iv (lineV s).1.o.a, iv (lineV s).1.o.b, iv (lineV s).1.o.k]] [.vown 66 (lineV s).2.cells]))) (none)) (some (outS (.arr m K6x c) s)) := by kernel_rfl
theorem pd_cong {a b : Bool} {x z1 z2 : Option AV} (h : a = true -> b = true -> z1 = z2) : cond a (cond (!b) x z1) none = cond a (cond (!b) x z2) none := by
  cases a with
  | false => rfl
  | true =>
    cases b with
    | false => rfl
    | true => exact h rfl rfl
theorem pdN_le {L : Ln} {m : Nat} {c : NNI} (hv : cutV L m c = true) (hk : (cqB (ptN L 1 m c) (ptS L 1 m c) && cqB (ptN L (-1) m c) (ptS L (-1) m c)) = true) : pdN L 1 m c <= 32 := by
  have ho : cutO L m c = true := by unfold cutO cutK; rw [hv, hk]; rfl
  have eN : pdN L 1 m c = cutN L 1 m c := by
    rw [Bool.and_eq_true] at hk
    unfold pdN cutN
    rw [hk.1, ho]
  rw [eN]
  exact (cut_same (.inl rfl)).1
theorem pd_T (K n m : Nat) (c : NNI) (k : Int) (s0 s : Src) (l : Ln) : (fromL Tryz.prog GLv Γ132 K ⟨kx2, [(6, kx0), (7, kx0), (8, kx3), (9, kx4), (12, kx0), (14, kx5), (15, kx6), (16, kx7)], [], 0, []⟩ [.own 66 s0.cells] Tryz.f17 0 n 12 (st2 Tryz.f17.ntmps [.ref Tryz.f17.ntmps 0, .non, .non, .arr (m) K6x (c), iv (k), .own 27 [iv l.d, iv l.o.a, iv l.o.b, iv l.o.k]] [.vown 66 s.cells])) = pdT (fun m c s => runW Tryz.prog GLv Γ132 K ⟨kx2, [(6, kx0), (7, kx0), (8, kx3), (9, kx4), (12, kx0), (14, kx5), (15, kx6), (16, kx7)], [], 0, []⟩ [.own 66 s0.cells] Tryz.f17 0 n (st2 Tryz.f17.ntmps [.ref Tryz.f17.ntmps 0, .non, .non, .arr (m) K6x (c), iv (wr (k - 1))] [.vown 66 s.cells])) l m c s := by
  rw [pd_12]
  unfold pdT
  exact pd_cong fun hV hq => by
    rw [pd_14 _ _ _ _ _ _ _ _ _ _ _ (pdN_le hV hq), pd_15, pd_16, pd_16, oneB_eq]
    rfl
theorem pd_step (K n m : Nat) (c : NNI) (k : Int) (s0 s : Src) : runW Tryz.prog GLv Γ132 K ⟨kx2, [(6, kx0), (7, kx0), (8, kx3), (9, kx4), (12, kx0), (14, kx5), (15, kx6), (16, kx7)], [], 0, []⟩ [.own 66 s0.cells] Tryz.f17 0 (n + 1) (st2 Tryz.f17.ntmps [.ref Tryz.f17.ntmps 0, .non, .non, .arr (m) K6x (c), iv (k)] [.vown 66 s.cells]) = cond (decide (k > 0)) (pdF (fun m c s => runW Tryz.prog GLv Γ132 K ⟨kx2, [(6, kx0), (7, kx0), (8, kx3), (9, kx4), (12, kx0), (14, kx5), (15, kx6), (16, kx7)], [], 0, []⟩ [.own 66 s0.cells] Tryz.f17 0 n (st2 Tryz.f17.ntmps [.ref Tryz.f17.ntmps 0, .non, .non, .arr (m) K6x (c), iv (wr (k - 1))] [.vown 66 s.cells])) m c s) (some (outS (.arr m K6x c) s)) := by
  rw [pd_0, pd_6, pd_7, pd_8, pd_9, pd_T, pd_T, pd_T, oneB_eq]
  rfl
theorem pd_run (K : Nat) (s0 : Src) : ∀ (r n m : Nat) (c : NNI) (k : Int) (s : Src), k <= r -> r < n -> r <= 100 -> -100 <= k -> vpS m c = true -> pB (28 * (r : Int)) s.p = true -> ∃ (g : Pg) (s' : Src), runW Tryz.prog GLv Γ132 K ⟨kx2, [(6, kx0), (7, kx0), (8, kx3), (9, kx4), (12, kx0), (14, kx5), (15, kx6), (16, kx7)], [], 0, []⟩ [.own 66 s0.cells] Tryz.f17 0 n (st2 Tryz.f17.ntmps [.ref Tryz.f17.ntmps 0, .non, .non, .arr (m) K6x (c), iv (k)] [.vown 66 s.cells]) = some (outS g.av s') /\ (0 <= s'.p /\ s'.p <= s.p + 28 * (r : Int)) /\ g.ok = true := by
  intro r
  induction r with
  | zero =>
    intro n m c k s h1 h2 h3 h4 hv hp
    obtain ⟨n, rfl⟩ : ∃ n', n = n' + 1 := ⟨n - 1, by omega⟩
    have hp' := pB_iff.1 hp
    rw [pd_step, show decide (k > 0) = false by simp; omega]
    exact ⟨⟨m, c⟩, s, rfl, by omega, hv⟩
  | succ r ih =>
    intro n m c k s h1 h2 h3 h4 hv hp
    obtain ⟨n, rfl⟩ : ∃ n', n = n' + 1 := ⟨n - 1, by omega⟩
    have hp' := pB_iff.1 hp
    rw [pd_step]
    by_cases hk : k > 0
    . rw [show decide (k > 0) = true by simpa using hk, cond_true]
      refine pdF_ok (P := fun o => ∃ (g : Pg) (s' : Src), o = some (outS g.av s') /\ (0 <= s'.p /\ s'.p <= s.p + 28 * ((r + 1 : Nat) : Int)) /\ g.ok = true) hv (pB_less hp (by omega)) fun m' c' s' v' q1 q2 => ?_
      obtain ⟨g, s2, e, e2, e3⟩ := ih n m' c' (wr (k - 1)) s' (by rw [wr_in (by omega) (by omega)]; omega) (by omega) (by omega) (by rw [wr_in (by omega) (by omega)]; omega) v' (pB_iff.2 (by omega))
      exact ⟨g, s2, e, by omega, e3⟩
    . rw [show decide (k > 0) = false by simpa using hk]
      exact ⟨⟨m, c⟩, s, rfl, by omega, hv⟩
theorem pl_dr : Dr 100 (fun s => evW Tryz.prog GLv Γ132 5 ⟨kx2, [(6, kx0), (7, kx0), (8, kx3), (9, kx4), (12, kx0), (14, kx5), (15, kx6), (16, kx7)], [], 0, []⟩ Tryz.f17 [.own 66 s.cells]) Pg.av (fun g => g.ok = true) := fun s h => by
  have h1 := pick_on 5 h (by decide)
  have p1 := pB_on h h1 (by decide)
  have h2 : 0 <= (pickV 4 (pickV 5 s).2).2.p /\ (pickV 4 (pickV 5 s).2).2.p <= (pickV 5 s).2.p + 2 := pick_on 4 p1 (by decide)
  have p2 : pB (100 - 2 - 2) (pickV 4 (pickV 5 s).2).2.p = true := pB_on p1 h2 (by decide)
  have hk : 0 <= (pickV 4 (pickV 5 s).2).1 /\ (pickV 4 (pickV 5 s).2).1 < 4 := pick_in (s := (pickV 5 s).2) (m := 4) (by decide)
  obtain ⟨g, s', e1, e2, e3⟩ := pd_run 5 s 3 5 4 (sqC (lQ.getD (pickV 5 s).1.toNat 0)) (pickV 4 (pickV 5 s).2).1 (pickV 4 (pickV 5 s).2).2 (by omega) (by decide) (by decide) (by omega) lQ_in (pB_less p2 (by decide))
  refine ⟨g, s', ?_, by omega, e3⟩
  refine (show _ = cond (pB 2 s.p && Nat.ble 1 5) (cond (pB 2 (pickV 5 s).2.p) (runW Tryz.prog GLv Γ132 5 ⟨kx2, [(6, kx0), (7, kx0), (8, kx3), (9, kx4), (12, kx0), (14, kx5), (15, kx6), (16, kx7)], [], 0, []⟩ [.own 66 s.cells] Tryz.f17 0 5 (st2 Tryz.f17.ntmps [.ref Tryz.f17.ntmps 0, .non, .non, .arr (4) K6x (sqC (lQ.getD (pickV 5 s).1.toNat 0)), iv ((pickV 4 (pickV 5 s).2).1)] [.vown 66 (pickV 4 (pickV 5 s).2).2.cells])) none) none from by kernel_rfl).trans ?_
  rw [pB_less h (show (2 : Int) <= 100 by decide), pB_less p1 (show (2 : Int) <= 100 - 2 by decide)]
  exact e1
noncomputable def plV (s : Src) : Pg × Src := pl_dr.get ⟨0, zeroC⟩ s
-- spec.l03Draw
noncomputable def s17 : Ctr := fun
  | [.own 66 [.arr s_n [.int .u8] s_c, .val (.int .i64 s_p), .val (.int .u64 s_z)]] => some (pB 100 s_p, outS (plV (⟨s_n, s_c, s_p, s_z⟩ : Src)).1.av (plV (⟨s_n, s_c, s_p, s_z⟩ : Src)).2)
  | _ => none
theorem e17 (s_n : Nat) (s_c : NNI) (s_p : Int) (s_z : Int) (hp : (pB 100 s_p) = true) : evW Tryz.prog GLv Γ132 (5) (⟨kx2, [(6, kx0), (7, kx0), (8, kx3), (9, kx4), (12, kx0), (14, kx5), (15, kx6), (16, kx7)], [], 0, []⟩)  Tryz.f17 [.own 66 [.arr s_n [.int .u8] s_c, .val (.int .i64 s_p), .val (.int .u64 s_z)]] = some (outS (plV (⟨s_n, s_c, s_p, s_z⟩ : Src)).1.av (plV (⟨s_n, s_c, s_p, s_z⟩ : Src)).2) := by
  exact (pl_dr.spec ⟨0, zeroC⟩ (s := (⟨s_n, s_c, s_p, s_z⟩ : Src)) hp).1
theorem m17 : Meets Tryz.prog GLv 17 s17 := by
  refine meetsW mix0 G132 Tryz.func17 (by kernel_rfl) (by kernel_rfl) s17 fun args x h => ?_
  unfold s17 at h
  split at h
  . rename_i s_n s_c s_p s_z
    simp only [Option.some.injEq, Prod.mk.injEq] at h
    obtain ⟨hp, rfl⟩ := h
    exact ⟨_, _, by kernel_rfl, e17 s_n s_c s_p s_z hp⟩
  . cases h
noncomputable abbrev Γ133 : List (Nat × Ctr) := (17, s17) :: Γ132
theorem G133 : Sound Tryz.prog GLv Γ133 := G132.cons m17
end Go.Proofs.YtdildcdilhgdkaaGreatDoor
