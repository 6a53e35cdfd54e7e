/- Contracts of the program's functions, by the evaluator. -/
import Derived.Test.YtooikeeckoflpaaProg
import Derived.Test.YtooikeeckoflpaaClmA
namespace Go.Proofs.Ytooikeeckoflpaa
open Go.Ev
set_option linter.unusedVariables false
set_option linter.unusedSimpArgs false
set_option maxRecDepth 100000

theorem mix0 : Try.prog.follows .mixedOrders = true := by kernel_rfl
abbrev Γ0 : List (Nat × Ctr) := []
theorem G0 : Sound Try.prog GL0 Γ0 := Sound.nil

-- laws.toRefNode
def s20 : Ctr := fun
  | [.agg [.val (.int .i64 a_c0), .val (.int .i64 a_c1), .val (.int .i64 a_c2), .val (.int .i64 a_c3)]] => some (true, .agg [.val (.int .i64 a_c0), .val (.int .i64 a_c1), .val (.int .i64 a_c2), .val (.int .i64 a_c3)])
  | _ => none

theorem e20 (a_c0 : Int) (a_c1 : Int) (a_c2 : Int) (a_c3 : Int) : evN Try.prog GL0 Γ0 (0) []  Try.f20 [.agg [.val (.int .i64 a_c0), .val (.int .i64 a_c1), .val (.int .i64 a_c2), .val (.int .i64 a_c3)]] = some (.agg [.val (.int .i64 a_c0), .val (.int .i64 a_c1), .val (.int .i64 a_c2), .val (.int .i64 a_c3)]) := by
  kernel_rfl
theorem m20 : Meets Try.prog GL0 20 s20 := by
  refine meetsN mix0 gl0 G0 Try.func20 (by kernel_rfl) (by kernel_rfl) s20 fun args x h => ?_
  unfold s20 at h
  split at h
  · rename_i a_c0 a_c1 a_c2 a_c3
    simp only [Option.some.injEq, Prod.mk.injEq] at h
    obtain ⟨hp, rfl⟩ := h
    exact ⟨_, _, by kernel_rfl, e20 a_c0 a_c1 a_c2 a_c3⟩
  · cases h
abbrev Γ1 : List (Nat × Ctr) := (20, s20) :: Γ0
theorem G1 : Sound Try.prog GL0 Γ1 := G0.cons m20

-- laws.eqRefNode
def s27 : Ctr := fun
  | [.agg [.val (.int .i64 a_c0), .val (.int .i64 a_c1), .val (.int .i64 a_c2), .val (.int .i64 a_c3)], .agg [.val (.int .i64 b_c0), .val (.int .i64 b_c1), .val (.int .i64 b_c2), .val (.int .i64 b_c3)]] => some (true, bv (a_c0 == b_c0 && (a_c1 == b_c1 && (a_c2 == b_c2 && (a_c3 == b_c3 && true)))))
  | _ => none

theorem e27 (a_c0 : Int) (a_c1 : Int) (a_c2 : Int) (a_c3 : Int) (b_c0 : Int) (b_c1 : Int) (b_c2 : Int) (b_c3 : Int) : evN Try.prog GL0 Γ1 (0) []  Try.f27 [.agg [.val (.int .i64 a_c0), .val (.int .i64 a_c1), .val (.int .i64 a_c2), .val (.int .i64 a_c3)], .agg [.val (.int .i64 b_c0), .val (.int .i64 b_c1), .val (.int .i64 b_c2), .val (.int .i64 b_c3)]] = some (bv (a_c0 == b_c0 && (a_c1 == b_c1 && (a_c2 == b_c2 && (a_c3 == b_c3 && true))))) := by
  refine (show _ = cond (!(a_c0 == b_c0)) (some (bv false)) (cond (!(a_c1 == b_c1)) (some (bv false)) (cond (!(a_c2 == b_c2)) (some (bv false)) (cond (!(a_c3 == b_c3)) (some (bv false)) (some (bv true))))) from by kernel_rfl).trans ?_
  cases a_c0 == b_c0 <;> try rfl
  cases a_c1 == b_c1 <;> try rfl
  cases a_c2 == b_c2 <;> try rfl
  cases a_c3 == b_c3 <;> try rfl
theorem m27 : Meets Try.prog GL0 27 s27 := by
  refine meetsN mix0 gl0 G1 Try.func27 (by kernel_rfl) (by kernel_rfl) s27 fun args x h => ?_
  unfold s27 at h
  split at h
  · rename_i a_c0 a_c1 a_c2 a_c3 b_c0 b_c1 b_c2 b_c3
    simp only [Option.some.injEq, Prod.mk.injEq] at h
    obtain ⟨hp, rfl⟩ := h
    exact ⟨_, _, by kernel_rfl, e27 a_c0 a_c1 a_c2 a_c3 b_c0 b_c1 b_c2 b_c3⟩
  · cases h
abbrev Γ2 : List (Nat × Ctr) := (27, s27) :: Γ1
theorem G2 : Sound Try.prog GL0 Γ2 := G1.cons m27

-- laws.szInt64S
def s9 : Ctr := fun
  | [.arr a_n [.int .i64] a_c, .val (.int .i64 l)] => some (true, iv (szF a_n l))
  | _ => none

theorem e9 (a_n : Nat) (a_c : Nat → Nat → Int) (l : Int) : evN Try.prog GL0 Γ2 (0) []  Try.f9 [.arr a_n [.int .i64] a_c, .val (.int .i64 l)] = some (iv (szF a_n l)) := by
  refine (show _ = cond (decide (wr (l - (a_n : Int)) < 0)) (some (iv (-1))) (some (iv (wr (l - (a_n : Int))))) from by kernel_rfl).trans ?_
  unfold szF
  cases decide (wr (l - (a_n : Int)) < 0) <;> rfl
theorem m9 : Meets Try.prog GL0 9 s9 := by
  refine meetsN mix0 gl0 G2 Try.func9 (by kernel_rfl) (by kernel_rfl) s9 fun args x h => ?_
  unfold s9 at h
  split at h
  · rename_i a_n a_c l
    simp only [Option.some.injEq, Prod.mk.injEq] at h
    obtain ⟨hp, rfl⟩ := h
    exact ⟨_, _, by kernel_rfl, e9 a_n a_c l⟩
  · cases h
abbrev Γ3 : List (Nat × Ctr) := (9, s9) :: Γ2
theorem G3 : Sound Try.prog GL0 Γ3 := G2.cons m9

-- laws.szRefNodeS
def s10 : Ctr := fun
  | [.arr a_n [.int .i64, .int .i64, .int .i64, .int .i64] a_c, .val (.int .i64 l)] => some (true, iv (szF a_n l))
  | _ => none

theorem e10 (a_n : Nat) (a_c : Nat → Nat → Int) (l : Int) : evN Try.prog GL0 Γ3 (0) []  Try.f10 [.arr a_n [.int .i64, .int .i64, .int .i64, .int .i64] a_c, .val (.int .i64 l)] = some (iv (szF a_n l)) := by
  refine (show _ = cond (decide (wr (l - (a_n : Int)) < 0)) (some (iv (-1))) (some (iv (wr (l - (a_n : Int))))) from by kernel_rfl).trans ?_
  unfold szF
  cases decide (wr (l - (a_n : Int)) < 0) <;> rfl
theorem m10 : Meets Try.prog GL0 10 s10 := by
  refine meetsN mix0 gl0 G3 Try.func10 (by kernel_rfl) (by kernel_rfl) s10 fun args x h => ?_
  unfold s10 at h
  split at h
  · rename_i a_n a_c l
    simp only [Option.some.injEq, Prod.mk.injEq] at h
    obtain ⟨hp, rfl⟩ := h
    exact ⟨_, _, by kernel_rfl, e10 a_n a_c l⟩
  · cases h
abbrev Γ4 : List (Nat × Ctr) := (10, s10) :: Γ3
theorem G4 : Sound Try.prog GL0 Γ4 := G3.cons m10

-- laws.toInt64S
def s12 : Ctr := fun
  | [.arr a_n [.int .i64] a_c] => some (Nat.ble a_n 1048576, .row true 2 a_n [.int .i64] (cpC 1 a_n a_c))
  | _ => none

theorem r12_step (K n a_n : Nat) (a_c d : Nat → Nat → Int) (i : Nat) : runW Try.prog GL0 Γ4 K ⟨[true, false, false, true, true], [], [(7, [0])], 1, []⟩ [.arr a_n [.int .i64] a_c] Try.f12 0 (n + 1) (st2 Try.f12.ntmps [.arr a_n [.int .i64] a_c, .non, .non, .sl Try.f12.ntmps a_n, iv ((i : Int))] [.row true 2 a_n [.int .i64] (d)]) = cond (decide ((i : Int) < (a_n : Int))) (cond (decide (0 ≤ (i : Int)) && decide ((i : Int) < (a_n : Int))) (cond (decide (0 ≤ (i : Int)) && decide ((i : Int) < (a_n : Int))) (runW Try.prog GL0 Γ4 K ⟨[true, false, false, true, true], [], [(7, [0])], 1, []⟩ [.arr a_n [.int .i64] a_c] Try.f12 0 n (st2 Try.f12.ntmps [.arr a_n [.int .i64] a_c, .non, .non, .sl Try.f12.ntmps a_n, iv (wr ((i : Int) + 1))] [.row true 2 a_n [.int .i64] (rowSet d i 0 (rowL 1 a_c i))])) none) none) (some (.row true 2 a_n [.int .i64] (d))) := by kernel_rfl
theorem r12_run (K a_n : Nat) (a_c : Nat → Nat → Int) (hn : a_n ≤ 1048576) : ∀ (m i : Nat) (d : Nat → Nat → Int) (n : Nat), i + m = a_n → m < n → runW Try.prog GL0 Γ4 K ⟨[true, false, false, true, true], [], [(7, [0])], 1, []⟩ [.arr a_n [.int .i64] a_c] Try.f12 0 n (st2 Try.f12.ntmps [.arr a_n [.int .i64] a_c, .non, .non, .sl Try.f12.ntmps a_n, iv ((i : Int))] [.row true 2 a_n [.int .i64] (d)]) = some (.row true 2 a_n [.int .i64] (setsF (rowL 1 a_c) i m d)) := by
  intro m
  induction m with
  | zero =>
    intro i d n h1 h2
    obtain ⟨n, rfl⟩ : ∃ n', n = n' + 1 := ⟨n - 1, by omega⟩
    rw [r12_step, nat_lt, show decide (i < a_n) = false by simp; omega]
    rfl
  | succ m ih =>
    intro i d n h1 h2
    obtain ⟨n, rfl⟩ : ∃ n', n = n' + 1 := ⟨n - 1, by omega⟩
    rw [r12_step, nat_nn, nat_lt, show decide (i < a_n) = true by simp; omega]
    simp only [Bool.and_self, cond_true]
    rw [wr_succ (by omega), ih (i + 1) _ n (by omega) (by omega)]
    rfl

theorem e12 (a_n : Nat) (a_c : Nat → Nat → Int) (hp : (Nat.ble a_n 1048576) = true) : evW Try.prog GL0 Γ4 (a_n + 2) (⟨[true, false, false, true, true], [], [(7, [0])], 1, []⟩)  Try.f12 [.arr a_n [.int .i64] a_c] = some (.row true 2 a_n [.int .i64] (cpC 1 a_n a_c)) := by
  have hn := Nat.le_of_ble_eq_true hp
  refine (show _ = cond (decide (0 ≤ (a_n : Int)) && (decide ((a_n : Int) ≤ (a_n : Int)) && decide ((a_n : Int) * 8 ≤ 140737488355328))) (runW Try.prog GL0 Γ4 (a_n + 2) ⟨[true, false, false, true, true], [], [(7, [0])], 1, []⟩ [.arr a_n [.int .i64] a_c] Try.f12 0 (a_n + 2) (st2 Try.f12.ntmps [.arr a_n [.int .i64] a_c, .non, .non, .sl Try.f12.ntmps a_n, iv (((0 : Nat) : Int))] [.row true 2 a_n [.int .i64] (zeroC)])) none from by kernel_rfl).trans ?_
  rw [nat_nn, show decide ((a_n : Int) ≤ (a_n : Int)) = true by simp, show decide ((a_n : Int) * 8 ≤ 140737488355328) = true by simp; omega]
  exact r12_run _ a_n a_c hn a_n 0 _ _ (by omega) (by omega)
theorem m12 : Meets Try.prog GL0 12 s12 := by
  refine meetsW mix0 G4 Try.func12 (by kernel_rfl) (by kernel_rfl) s12 fun args x h => ?_
  unfold s12 at h
  split at h
  · rename_i a_n a_c
    simp only [Option.some.injEq, Prod.mk.injEq] at h
    obtain ⟨hp, rfl⟩ := h
    exact ⟨_, _, by kernel_rfl, e12 a_n a_c hp⟩
  · cases h
abbrev Γ5 : List (Nat × Ctr) := (12, s12) :: Γ4
theorem G5 : Sound Try.prog GL0 Γ5 := G4.cons m12

-- laws.toRefNodeS
def s13 : Ctr := fun
  | [.arr a_n [.int .i64, .int .i64, .int .i64, .int .i64] a_c] => some (Nat.ble a_n 1048576, .row true 47 a_n [.int .i64, .int .i64, .int .i64, .int .i64] (cpC 4 a_n a_c))
  | _ => none

theorem r13_step (K n a_n : Nat) (a_c d : Nat → Nat → Int) (i : Nat) : runW Try.prog GL0 Γ5 K ⟨[true, false, false, true, true], [], [(7, [0])], 1, []⟩ [.arr a_n [.int .i64, .int .i64, .int .i64, .int .i64] a_c] Try.f13 0 (n + 1) (st2 Try.f13.ntmps [.arr a_n [.int .i64, .int .i64, .int .i64, .int .i64] a_c, .non, .non, .sl Try.f13.ntmps a_n, iv ((i : Int))] [.row true 47 a_n [.int .i64, .int .i64, .int .i64, .int .i64] (d)]) = cond (decide ((i : Int) < (a_n : Int))) (cond (decide (0 ≤ (i : Int)) && decide ((i : Int) < (a_n : Int))) (cond (decide (0 ≤ (i : Int)) && decide ((i : Int) < (a_n : Int))) (runW Try.prog GL0 Γ5 K ⟨[true, false, false, true, true], [], [(7, [0])], 1, []⟩ [.arr a_n [.int .i64, .int .i64, .int .i64, .int .i64] a_c] Try.f13 0 n (st2 Try.f13.ntmps [.arr a_n [.int .i64, .int .i64, .int .i64, .int .i64] a_c, .non, .non, .sl Try.f13.ntmps a_n, iv (wr ((i : Int) + 1))] [.row true 47 a_n [.int .i64, .int .i64, .int .i64, .int .i64] (rowSet d i 0 (rowL 4 a_c i))])) none) none) (some (.row true 47 a_n [.int .i64, .int .i64, .int .i64, .int .i64] (d))) := by kernel_rfl
theorem r13_run (K a_n : Nat) (a_c : Nat → Nat → Int) (hn : a_n ≤ 1048576) : ∀ (m i : Nat) (d : Nat → Nat → Int) (n : Nat), i + m = a_n → m < n → runW Try.prog GL0 Γ5 K ⟨[true, false, false, true, true], [], [(7, [0])], 1, []⟩ [.arr a_n [.int .i64, .int .i64, .int .i64, .int .i64] a_c] Try.f13 0 n (st2 Try.f13.ntmps [.arr a_n [.int .i64, .int .i64, .int .i64, .int .i64] a_c, .non, .non, .sl Try.f13.ntmps a_n, iv ((i : Int))] [.row true 47 a_n [.int .i64, .int .i64, .int .i64, .int .i64] (d)]) = some (.row true 47 a_n [.int .i64, .int .i64, .int .i64, .int .i64] (setsF (rowL 4 a_c) i m d)) := by
  intro m
  induction m with
  | zero =>
    intro i d n h1 h2
    obtain ⟨n, rfl⟩ : ∃ n', n = n' + 1 := ⟨n - 1, by omega⟩
    rw [r13_step, nat_lt, show decide (i < a_n) = false by simp; omega]
    rfl
  | succ m ih =>
    intro i d n h1 h2
    obtain ⟨n, rfl⟩ : ∃ n', n = n' + 1 := ⟨n - 1, by omega⟩
    rw [r13_step, nat_nn, nat_lt, show decide (i < a_n) = true by simp; omega]
    simp only [Bool.and_self, cond_true]
    rw [wr_succ (by omega), ih (i + 1) _ n (by omega) (by omega)]
    rfl

theorem e13 (a_n : Nat) (a_c : Nat → Nat → Int) (hp : (Nat.ble a_n 1048576) = true) : evW Try.prog GL0 Γ5 (a_n + 2) (⟨[true, false, false, true, true], [], [(7, [0])], 1, []⟩)  Try.f13 [.arr a_n [.int .i64, .int .i64, .int .i64, .int .i64] a_c] = some (.row true 47 a_n [.int .i64, .int .i64, .int .i64, .int .i64] (cpC 4 a_n a_c)) := by
  have hn := Nat.le_of_ble_eq_true hp
  refine (show _ = cond (decide (0 ≤ (a_n : Int)) && (decide ((a_n : Int) ≤ (a_n : Int)) && decide ((a_n : Int) * 32 ≤ 140737488355328))) (runW Try.prog GL0 Γ5 (a_n + 2) ⟨[true, false, false, true, true], [], [(7, [0])], 1, []⟩ [.arr a_n [.int .i64, .int .i64, .int .i64, .int .i64] a_c] Try.f13 0 (a_n + 2) (st2 Try.f13.ntmps [.arr a_n [.int .i64, .int .i64, .int .i64, .int .i64] a_c, .non, .non, .sl Try.f13.ntmps a_n, iv (((0 : Nat) : Int))] [.row true 47 a_n [.int .i64, .int .i64, .int .i64, .int .i64] (zeroC)])) none from by kernel_rfl).trans ?_
  rw [nat_nn, show decide ((a_n : Int) ≤ (a_n : Int)) = true by simp, show decide ((a_n : Int) * 32 ≤ 140737488355328) = true by simp; omega]
  exact r13_run _ a_n a_c hn a_n 0 _ _ (by omega) (by omega)
theorem m13 : Meets Try.prog GL0 13 s13 := by
  refine meetsW mix0 G5 Try.func13 (by kernel_rfl) (by kernel_rfl) s13 fun args x h => ?_
  unfold s13 at h
  split at h
  · rename_i a_n a_c
    simp only [Option.some.injEq, Prod.mk.injEq] at h
    obtain ⟨hp, rfl⟩ := h
    exact ⟨_, _, by kernel_rfl, e13 a_n a_c hp⟩
  · cases h
abbrev Γ6 : List (Nat × Ctr) := (13, s13) :: Γ5
theorem G6 : Sound Try.prog GL0 Γ6 := G5.cons m13

-- laws.eqInt64S
def s15 : Ctr := fun
  | [.arr a_n [.int .i64] a_c, .arr b_n [.int .i64] b_c] => some (Nat.ble a_n 1048576, bv (eqC 1 a_n a_c b_n b_c))
  | _ => none

theorem r15_step (K n a_n b_n : Nat) (a_c b_c : Nat → Nat → Int) (i : Nat) : runW Try.prog GL0 Γ6 K (cfgK [true, true, false, false, false, true]) [.arr a_n [.int .i64] a_c, .arr b_n [.int .i64] b_c] Try.f15 0 (n + 1) (stL Try.f15.ntmps [.arr a_n [.int .i64] a_c, .arr b_n [.int .i64] b_c, .non, .non, .non, iv ((i : Int))]) = cond (decide ((i : Int) < (a_n : Int))) (cond (decide (0 ≤ (i : Int)) && decide ((i : Int) < (a_n : Int))) (cond (decide (0 ≤ (i : Int)) && decide ((i : Int) < (b_n : Int))) (cond (!(a_c i 0 == b_c i 0)) (some (bv false)) (runW Try.prog GL0 Γ6 K (cfgK [true, true, false, false, false, true]) [.arr a_n [.int .i64] a_c, .arr b_n [.int .i64] b_c] Try.f15 0 n (stL Try.f15.ntmps [.arr a_n [.int .i64] a_c, .arr b_n [.int .i64] b_c, .non, .non, .non, iv (wr ((i : Int) + 1))]))) none) none) (some (bv true)) := by kernel_rfl
theorem r15_run (K a_n b_n : Nat) (a_c b_c : Nat → Nat → Int) (hn : a_n ≤ 1048576) (he : a_n = b_n) : ∀ (m i : Nat) (n : Nat), i + m = a_n → m < n → runW Try.prog GL0 Γ6 K (cfgK [true, true, false, false, false, true]) [.arr a_n [.int .i64] a_c, .arr b_n [.int .i64] b_c] Try.f15 0 n (stL Try.f15.ntmps [.arr a_n [.int .i64] a_c, .arr b_n [.int .i64] b_c, .non, .non, .non, iv ((i : Int))]) = some (bv (allF (eqR 1 a_c b_c) i m)) := by
  intro m
  induction m with
  | zero =>
    intro i n h1 h2
    obtain ⟨n, rfl⟩ : ∃ n', n = n' + 1 := ⟨n - 1, by omega⟩
    rw [r15_step, nat_lt i a_n, show decide (i < a_n) = false by simp; omega]
    rfl
  | succ m ih =>
    intro i n h1 h2
    obtain ⟨n, rfl⟩ : ∃ n', n = n' + 1 := ⟨n - 1, by omega⟩
    rw [r15_step, nat_nn, nat_lt i a_n, nat_lt i b_n, show decide (i < a_n) = true by simp; omega, show decide (i < b_n) = true by simp; omega]
    simp only [Bool.and_self, cond_true]
    rw [show (a_c i 0 == b_c i 0) = eqR 1 a_c b_c i by simp [eqR, allF]]
    rw [wr_succ (by omega), ih (i + 1) n (by omega) (by omega)]
    simp only [allF]
    cases eqR 1 a_c b_c i <;> rfl

theorem e15 (a_n : Nat) (a_c : Nat → Nat → Int) (b_n : Nat) (b_c : Nat → Nat → Int) (hp : (Nat.ble a_n 1048576) = true) : evN Try.prog GL0 Γ6 (a_n + 2) [true, true, false, false, false, true]  Try.f15 [.arr a_n [.int .i64] a_c, .arr b_n [.int .i64] b_c] = some (bv (eqC 1 a_n a_c b_n b_c)) := by
  have hn := Nat.le_of_ble_eq_true hp
  refine (show _ = cond (!((a_n : Int) == (b_n : Int))) (some (bv false)) (runW Try.prog GL0 Γ6 (a_n + 2) (cfgK [true, true, false, false, false, true]) [.arr a_n [.int .i64] a_c, .arr b_n [.int .i64] b_c] Try.f15 0 (a_n + 2) (stL Try.f15.ntmps [.arr a_n [.int .i64] a_c, .arr b_n [.int .i64] b_c, .non, .non, .non, iv (((0 : Nat) : Int))])) from by kernel_rfl).trans ?_
  unfold eqC
  rw [nat_beq]
  cases h : decide (a_n = b_n) with
  | false => rfl
  | true => exact r15_run _ a_n b_n a_c b_c hn (of_decide_eq_true h) a_n 0 _ (by omega) (by omega)
theorem m15 : Meets Try.prog GL0 15 s15 := by
  refine meetsN mix0 gl0 G6 Try.func15 (by kernel_rfl) (by kernel_rfl) s15 fun args x h => ?_
  unfold s15 at h
  split at h
  · rename_i a_n a_c b_n b_c
    simp only [Option.some.injEq, Prod.mk.injEq] at h
    obtain ⟨hp, rfl⟩ := h
    exact ⟨_, _, by kernel_rfl, e15 a_n a_c b_n b_c hp⟩
  · cases h
abbrev Γ7 : List (Nat × Ctr) := (15, s15) :: Γ6
theorem G7 : Sound Try.prog GL0 Γ7 := G6.cons m15

-- laws.eqRefNodeS
def s16 : Ctr := fun
  | [.arr a_n [.int .i64, .int .i64, .int .i64, .int .i64] a_c, .arr b_n [.int .i64, .int .i64, .int .i64, .int .i64] b_c] => some (Nat.ble a_n 1048576, bv (eqC 4 a_n a_c b_n b_c))
  | _ => none

theorem r16_step (K n a_n b_n : Nat) (a_c b_c : Nat → Nat → Int) (i : Nat) : runW Try.prog GL0 Γ7 K (cfgK [true, true, false, false, false, true]) [.arr a_n [.int .i64, .int .i64, .int .i64, .int .i64] a_c, .arr b_n [.int .i64, .int .i64, .int .i64, .int .i64] b_c] Try.f16 0 (n + 1) (stL Try.f16.ntmps [.arr a_n [.int .i64, .int .i64, .int .i64, .int .i64] a_c, .arr b_n [.int .i64, .int .i64, .int .i64, .int .i64] b_c, .non, .non, .non, iv ((i : Int))]) = cond (decide ((i : Int) < (a_n : Int))) (cond (decide (0 ≤ (i : Int)) && decide ((i : Int) < (a_n : Int))) (cond (decide (0 ≤ (i : Int)) && decide ((i : Int) < (b_n : Int))) (cond (!(eqR 4 a_c b_c i)) (some (bv false)) (runW Try.prog GL0 Γ7 K (cfgK [true, true, false, false, false, true]) [.arr a_n [.int .i64, .int .i64, .int .i64, .int .i64] a_c, .arr b_n [.int .i64, .int .i64, .int .i64, .int .i64] b_c] Try.f16 0 n (stL Try.f16.ntmps [.arr a_n [.int .i64, .int .i64, .int .i64, .int .i64] a_c, .arr b_n [.int .i64, .int .i64, .int .i64, .int .i64] b_c, .non, .non, .non, iv (wr ((i : Int) + 1))]))) none) none) (some (bv true)) := by kernel_rfl
theorem r16_run (K a_n b_n : Nat) (a_c b_c : Nat → Nat → Int) (hn : a_n ≤ 1048576) (he : a_n = b_n) : ∀ (m i : Nat) (n : Nat), i + m = a_n → m < n → runW Try.prog GL0 Γ7 K (cfgK [true, true, false, false, false, true]) [.arr a_n [.int .i64, .int .i64, .int .i64, .int .i64] a_c, .arr b_n [.int .i64, .int .i64, .int .i64, .int .i64] b_c] Try.f16 0 n (stL Try.f16.ntmps [.arr a_n [.int .i64, .int .i64, .int .i64, .int .i64] a_c, .arr b_n [.int .i64, .int .i64, .int .i64, .int .i64] b_c, .non, .non, .non, iv ((i : Int))]) = some (bv (allF (eqR 4 a_c b_c) i m)) := by
  intro m
  induction m with
  | zero =>
    intro i n h1 h2
    obtain ⟨n, rfl⟩ : ∃ n', n = n' + 1 := ⟨n - 1, by omega⟩
    rw [r16_step, nat_lt i a_n, show decide (i < a_n) = false by simp; omega]
    rfl
  | succ m ih =>
    intro i n h1 h2
    obtain ⟨n, rfl⟩ : ∃ n', n = n' + 1 := ⟨n - 1, by omega⟩
    rw [r16_step, nat_nn, nat_lt i a_n, nat_lt i b_n, show decide (i < a_n) = true by simp; omega, show decide (i < b_n) = true by simp; omega]
    simp only [Bool.and_self, cond_true]
    rw [wr_succ (by omega), ih (i + 1) n (by omega) (by omega)]
    simp only [allF]
    cases eqR 4 a_c b_c i <;> rfl

theorem e16 (a_n : Nat) (a_c : Nat → Nat → Int) (b_n : Nat) (b_c : Nat → Nat → Int) (hp : (Nat.ble a_n 1048576) = true) : evN Try.prog GL0 Γ7 (a_n + 2) [true, true, false, false, false, true]  Try.f16 [.arr a_n [.int .i64, .int .i64, .int .i64, .int .i64] a_c, .arr b_n [.int .i64, .int .i64, .int .i64, .int .i64] b_c] = some (bv (eqC 4 a_n a_c b_n b_c)) := by
  have hn := Nat.le_of_ble_eq_true hp
  refine (show _ = cond (!((a_n : Int) == (b_n : Int))) (some (bv false)) (runW Try.prog GL0 Γ7 (a_n + 2) (cfgK [true, true, false, false, false, true]) [.arr a_n [.int .i64, .int .i64, .int .i64, .int .i64] a_c, .arr b_n [.int .i64, .int .i64, .int .i64, .int .i64] b_c] Try.f16 0 (a_n + 2) (stL Try.f16.ntmps [.arr a_n [.int .i64, .int .i64, .int .i64, .int .i64] a_c, .arr b_n [.int .i64, .int .i64, .int .i64, .int .i64] b_c, .non, .non, .non, iv (((0 : Nat) : Int))])) from by kernel_rfl).trans ?_
  unfold eqC
  rw [nat_beq]
  cases h : decide (a_n = b_n) with
  | false => rfl
  | true => exact r16_run _ a_n b_n a_c b_c hn (of_decide_eq_true h) a_n 0 _ (by omega) (by omega)
theorem m16 : Meets Try.prog GL0 16 s16 := by
  refine meetsN mix0 gl0 G7 Try.func16 (by kernel_rfl) (by kernel_rfl) s16 fun args x h => ?_
  unfold s16 at h
  split at h
  · rename_i a_n a_c b_n b_c
    simp only [Option.some.injEq, Prod.mk.injEq] at h
    obtain ⟨hp, rfl⟩ := h
    exact ⟨_, _, by kernel_rfl, e16 a_n a_c b_n b_c hp⟩
  · cases h
abbrev Γ8 : List (Nat × Ctr) := (16, s16) :: Γ7
theorem G8 : Sound Try.prog GL0 Γ8 := G7.cons m16

-- impl.within
def s22 : Ctr := fun
  | [.val (.int .i64 x), .val (.int .i64 lo), .val (.int .i64 hi)] => some (true, bv (inB x lo hi))
  | _ => none

theorem e22 (x : Int) (lo : Int) (hi : Int) : evN Try.prog GL0 Γ8 (0) []  Try.f22 [.val (.int .i64 x), .val (.int .i64 lo), .val (.int .i64 hi)] = some (bv (inB x lo hi)) := by
  refine (show _ = cond (decide (x ≥ lo)) (some (bv (decide (x ≤ hi)))) (some (bv false)) from by kernel_rfl).trans ?_
  unfold inB
  cases decide (x ≥ lo) <;> rfl
theorem m22 : Meets Try.prog GL0 22 s22 := by
  refine meetsN mix0 gl0 G8 Try.func22 (by kernel_rfl) (by kernel_rfl) s22 fun args x h => ?_
  unfold s22 at h
  split at h
  · rename_i x lo hi
    simp only [Option.some.injEq, Prod.mk.injEq] at h
    obtain ⟨hp, rfl⟩ := h
    exact ⟨_, _, by kernel_rfl, e22 x lo hi⟩
  · cases h
abbrev Γ9 : List (Nat × Ctr) := (22, s22) :: Γ8
theorem G9 : Sound Try.prog GL0 Γ9 := G8.cons m22

-- spec.l00In
def s18 : Ctr := fun
  | [.val (.int .i64 x), .val (.int .i64 lo), .val (.int .i64 hi)] => some (true, bv (inB x lo hi))
  | _ => none

theorem e18 (x : Int) (lo : Int) (hi : Int) : evN Try.prog GL0 Γ9 (0) []  Try.f18 [.val (.int .i64 x), .val (.int .i64 lo), .val (.int .i64 hi)] = some (bv (inB x lo hi)) := by
  refine (show _ = cond (decide (x ≥ lo)) (some (bv (decide (x ≤ hi)))) (some (bv false)) from by kernel_rfl).trans ?_
  unfold inB
  cases decide (x ≥ lo) <;> rfl
theorem m18 : Meets Try.prog GL0 18 s18 := by
  refine meetsN mix0 gl0 G9 Try.func18 (by kernel_rfl) (by kernel_rfl) s18 fun args x h => ?_
  unfold s18 at h
  split at h
  · rename_i x lo hi
    simp only [Option.some.injEq, Prod.mk.injEq] at h
    obtain ⟨hp, rfl⟩ := h
    exact ⟨_, _, by kernel_rfl, e18 x lo hi⟩
  · cases h
abbrev Γ10 : List (Nat × Ctr) := (18, s18) :: Γ9
theorem G10 : Sound Try.prog GL0 Γ10 := G9.cons m18

-- impl.isUnit
def s31 : Ctr := fun
  | [.val (.int .i64 x)] => some (true, bv (x == 1 || x == -1))
  | _ => none

theorem e31 (x : Int) : evN Try.prog GL0 Γ10 (0) []  Try.f31 [.val (.int .i64 x)] = some (bv (x == 1 || x == -1)) := by
  refine (show _ = cond (x == 1) (some (bv true)) (some (bv (x == -1))) from by kernel_rfl).trans ?_
  cases x == 1 <;> rfl
theorem m31 : Meets Try.prog GL0 31 s31 := by
  refine meetsN mix0 gl0 G10 Try.func31 (by kernel_rfl) (by kernel_rfl) s31 fun args x h => ?_
  unfold s31 at h
  split at h
  · rename_i x
    simp only [Option.some.injEq, Prod.mk.injEq] at h
    obtain ⟨hp, rfl⟩ := h
    exact ⟨_, _, by kernel_rfl, e31 x⟩
  · cases h
abbrev Γ11 : List (Nat × Ctr) := (31, s31) :: Γ10
theorem G11 : Sound Try.prog GL0 Γ11 := G10.cons m31

-- impl.length[int64]
def s32 : Ctr := fun
  | [.arr a_n [.int .i64] a_c] => some (true, iv (a_n : Int))
  | _ => none

theorem e32 (a_n : Nat) (a_c : Nat → Nat → Int) : evN Try.prog GL0 Γ11 (0) []  Try.f32 [.arr a_n [.int .i64] a_c] = some (iv (a_n : Int)) := by
  kernel_rfl
theorem m32 : Meets Try.prog GL0 32 s32 := by
  refine meetsN mix0 gl0 G11 Try.func32 (by kernel_rfl) (by kernel_rfl) s32 fun args x h => ?_
  unfold s32 at h
  split at h
  · rename_i a_n a_c
    simp only [Option.some.injEq, Prod.mk.injEq] at h
    obtain ⟨hp, rfl⟩ := h
    exact ⟨_, _, by kernel_rfl, e32 a_n a_c⟩
  · cases h
abbrev Γ12 : List (Nat × Ctr) := (32, s32) :: Γ11
theorem G12 : Sound Try.prog GL0 Γ12 := G11.cons m32

-- impl.length[impl.RefNode]
def s23 : Ctr := fun
  | [.arr a_n [.int .i64, .int .i64, .int .i64, .int .i64] a_c] => some (true, iv (a_n : Int))
  | _ => none

theorem e23 (a_n : Nat) (a_c : Nat → Nat → Int) : evN Try.prog GL0 Γ12 (0) []  Try.f23 [.arr a_n [.int .i64, .int .i64, .int .i64, .int .i64] a_c] = some (iv (a_n : Int)) := by
  kernel_rfl
theorem m23 : Meets Try.prog GL0 23 s23 := by
  refine meetsN mix0 gl0 G12 Try.func23 (by kernel_rfl) (by kernel_rfl) s23 fun args x h => ?_
  unfold s23 at h
  split at h
  · rename_i a_n a_c
    simp only [Option.some.injEq, Prod.mk.injEq] at h
    obtain ⟨hp, rfl⟩ := h
    exact ⟨_, _, by kernel_rfl, e23 a_n a_c⟩
  · cases h
abbrev Γ13 : List (Nat × Ctr) := (23, s23) :: Γ12
theorem G13 : Sound Try.prog GL0 Γ13 := G12.cons m23

-- spec.l19Node
def s19 : Ctr := fun
  | [.agg [.val (.int .i64 v), .val (.int .i64 x), .val (.int .i64 y), .val (.int .i64 z)]] => some (true, bv (nodeB v x y z))
  | _ => none

theorem e19 (v : Int) (x : Int) (y : Int) (z : Int) : evN Try.prog GL0 Γ13 (0) []  Try.f19 [.agg [.val (.int .i64 v), .val (.int .i64 x), .val (.int .i64 y), .val (.int .i64 z)]] = some (bv (nodeB v x y z)) := by
  refine (show _ = cond (v == 1) (cond (inB x 0 199) (cond (y == 0) (some (bv (z == 0))) (some (bv false))) (some (bv false))) (cond (v == 2) (cond (inB x 0 199) (cond (inB z 0 2999) (cond (y == 1) (some (bv true)) (some (bv (y == -1)))) (some (bv false))) (some (bv false))) (cond (v == 3) (cond (inB z 0 2999) (cond (x == 0) (some (bv (y == 0))) (some (bv false))) (some (bv false))) (some (bv false)))) from by kernel_rfl).trans ?_
  unfold nodeB
  cases v == 1 <;> cases v == 2 <;> cases v == 3 <;> cases inB x 0 199 <;> cases inB z 0 2999 <;> cases y == 0 <;> cases z == 0 <;> cases x == 0 <;> cases y == 1 <;> cases y == -1 <;> rfl
theorem m19 : Meets Try.prog GL0 19 s19 := by
  refine meetsN mix0 gl0 G13 Try.func19 (by kernel_rfl) (by kernel_rfl) s19 fun args x h => ?_
  unfold s19 at h
  split at h
  · rename_i v x y z
    simp only [Option.some.injEq, Prod.mk.injEq] at h
    obtain ⟨hp, rfl⟩ := h
    exact ⟨_, _, by kernel_rfl, e19 v x y z⟩
  · cases h
abbrev Γ14 : List (Nat × Ctr) := (19, s19) :: Γ13
theorem G14 : Sound Try.prog GL0 Γ14 := G13.cons m19

-- impl.isProofNode
def s26 : Ctr := fun
  | [.agg [.val (.int .i64 v), .val (.int .i64 x), .val (.int .i64 y), .val (.int .i64 z)]] => some (true, bv (nodeB v x y z))
  | _ => none

theorem e26 (v : Int) (x : Int) (y : Int) (z : Int) : evN Try.prog GL0 Γ14 (0) []  Try.f26 [.agg [.val (.int .i64 v), .val (.int .i64 x), .val (.int .i64 y), .val (.int .i64 z)]] = some (bv (nodeB v x y z)) := by
  refine (show _ = cond (!(inB x 0 199)) (some (bv false)) (cond (!(inB z 0 2999)) (some (bv false)) (cond (v == 1) (cond (y == 0) (some (bv (z == 0))) (some (bv false))) (cond (v == 2) (some (bv (y == 1 || y == -1))) (cond (v == 3) (cond (x == 0) (some (bv (y == 0))) (some (bv false))) (some (bv false)))))) from by kernel_rfl).trans ?_
  exact nodeI_eq v x y z
theorem m26 : Meets Try.prog GL0 26 s26 := by
  refine meetsN mix0 gl0 G14 Try.func26 (by kernel_rfl) (by kernel_rfl) s26 fun args x h => ?_
  unfold s26 at h
  split at h
  · rename_i v x y z
    simp only [Option.some.injEq, Prod.mk.injEq] at h
    obtain ⟨hp, rfl⟩ := h
    exact ⟨_, _, by kernel_rfl, e26 v x y z⟩
  · cases h
abbrev Γ15 : List (Nat × Ctr) := (26, s26) :: Γ14
theorem G15 : Sound Try.prog GL0 Γ15 := G14.cons m26

-- impl.ValidCertificate$1
def s25 : Ctr := fun
  | [.agg [.val (.int .i64 v), .val (.int .i64 x), .val (.int .i64 y), .val (.int .i64 z)]] => some (true, bv (!(nodeB v x y z)))
  | _ => none

theorem e25 (v : Int) (x : Int) (y : Int) (z : Int) : evN Try.prog GL0 Γ15 (0) []  Try.f25 [.agg [.val (.int .i64 v), .val (.int .i64 x), .val (.int .i64 y), .val (.int .i64 z)]] = some (bv (!(nodeB v x y z))) := by
  kernel_rfl
theorem m25 : Meets Try.prog GL0 25 s25 := by
  refine meetsN mix0 gl0 G15 Try.func25 (by kernel_rfl) (by kernel_rfl) s25 fun args x h => ?_
  unfold s25 at h
  split at h
  · rename_i v x y z
    simp only [Option.some.injEq, Prod.mk.injEq] at h
    obtain ⟨hp, rfl⟩ := h
    exact ⟨_, _, by kernel_rfl, e25 v x y z⟩
  · cases h
abbrev Γ16 : List (Nat × Ctr) := (25, s25) :: Γ15
theorem G16 : Sound Try.prog GL0 Γ16 := G15.cons m25

-- spec.l19Size
def s28 : Ctr := fun
  | [.arr a_n [.int .i64] a_c] => some (true, iv (sqF 24 1 (a_n : Int)))
  | _ => none

theorem e28 (a_n : Nat) (a_c : Nat → Nat → Int) : evN Try.prog GL0 Γ16 (30) [true, false, false, true]  Try.f28 [.arr a_n [.int .i64] a_c] = some (iv (sqF 24 1 (a_n : Int))) := by
  refine (show _ = sqO 24 1 (a_n : Int) from by kernel_rfl).trans (sqO_eq _ _ _)
theorem m28 : Meets Try.prog GL0 28 s28 := by
  refine meetsN mix0 gl0 G16 Try.func28 (by kernel_rfl) (by kernel_rfl) s28 fun args x h => ?_
  unfold s28 at h
  split at h
  · rename_i a_n a_c
    simp only [Option.some.injEq, Prod.mk.injEq] at h
    obtain ⟨hp, rfl⟩ := h
    exact ⟨_, _, by kernel_rfl, e28 a_n a_c⟩
  · cases h
abbrev Γ17 : List (Nat × Ctr) := (28, s28) :: Γ16
theorem G17 : Sound Try.prog GL0 Γ17 := G16.cons m28

-- impl.faceCount
def s29 : Ctr := fun
  | [.arr a_n [.int .i64] a_c] => some (true, iv (sqF 24 1 (a_n : Int)))
  | _ => none

theorem e29 (a_n : Nat) (a_c : Nat → Nat → Int) : evN Try.prog GL0 Γ17 (30) [true, false, false, true]  Try.f29 [.arr a_n [.int .i64] a_c] = some (iv (sqF 24 1 (a_n : Int))) := by
  refine (show _ = sqP 24 1 (a_n : Int) from by kernel_rfl).trans (sqP_eq _ _ _)
theorem m29 : Meets Try.prog GL0 29 s29 := by
  refine meetsN mix0 gl0 G17 Try.func29 (by kernel_rfl) (by kernel_rfl) s29 fun args x h => ?_
  unfold s29 at h
  split at h
  · rename_i a_n a_c
    simp only [Option.some.injEq, Prod.mk.injEq] at h
    obtain ⟨hp, rfl⟩ := h
    exact ⟨_, _, by kernel_rfl, e29 a_n a_c⟩
  · cases h
abbrev Γ18 : List (Nat × Ctr) := (29, s29) :: Γ17
theorem G18 : Sound Try.prog GL0 Γ18 := G17.cons m29

-- spec.l19Order
def s17 : Ctr := fun
  | [.arr a_n [.int .i64] a_c] => some (true, bv (ordVS a_n a_c))
  | _ => none

theorem r17_in (K m n a_n nn i k : Nat) (a_c : Nat → Nat → Int) : runV Try.prog GL0 Γ18 K (cfgK [true, false, false, true, true, true]) [.arr a_n [.int .i64] a_c] Try.f17 1 m (n + 1) (stL Try.f17.ntmps [.arr a_n [.int .i64] a_c, .non, .non, iv (nn : Int), iv ((i : Int)), iv ((k : Int))]) = cond (decide ((k : Int) ≤ (i : Int))) (cond ((decide (0 ≤ wr (wr ((i : Int) * (nn : Int)) + (k : Int))) && decide (wr (wr ((i : Int) * (nn : Int)) + (k : Int)) < (a_n : Int)))) (cond (!(inB (a_c (wr (wr ((i : Int) * (nn : Int)) + (k : Int))).toNat 0) (-1) 1)) (some (bv false)) (cond ((decide (0 ≤ wr (wr ((i : Int) * (nn : Int)) + (k : Int))) && decide (wr (wr ((i : Int) * (nn : Int)) + (k : Int)) < (a_n : Int)))) (cond ((decide (0 ≤ wr (wr ((k : Int) * (nn : Int)) + (i : Int))) && decide (wr (wr ((k : Int) * (nn : Int)) + (i : Int)) < (a_n : Int)))) (cond (!(a_c (wr (wr ((i : Int) * (nn : Int)) + (k : Int))).toNat 0 == wr (0 - a_c (wr (wr ((k : Int) * (nn : Int)) + (i : Int))).toNat 0))) (some (bv false)) (runV Try.prog GL0 Γ18 K (cfgK [true, false, false, true, true, true]) [.arr a_n [.int .i64] a_c] Try.f17 1 m n (stL Try.f17.ntmps [.arr a_n [.int .i64] a_c, .non, .non, iv (nn : Int), iv ((i : Int)), iv (wr ((k : Int) + 1))]))) (none)) (none))) (none)) (runW Try.prog GL0 Γ18 K (cfgK [true, false, false, true, true, true]) [.arr a_n [.int .i64] a_c] Try.f17 0 m (stL Try.f17.ntmps [.arr a_n [.int .i64] a_c, .non, .non, iv (nn : Int), iv (wr ((i : Int) + 1)), (iv (k : Int))])) := by kernel_rfl
theorem r17_out (K n a_n nn i : Nat) (a_c : Nat → Nat → Int) (z : Int) : runW Try.prog GL0 Γ18 K (cfgK [true, false, false, true, true, true]) [.arr a_n [.int .i64] a_c] Try.f17 0 (n + 1) (stL Try.f17.ntmps [.arr a_n [.int .i64] a_c, .non, .non, iv (nn : Int), iv ((i : Int)), iv z]) = cond (decide ((i : Int) < (nn : Int))) (runV Try.prog GL0 Γ18 K (cfgK [true, false, false, true, true, true]) [.arr a_n [.int .i64] a_c] Try.f17 1 n K (stL Try.f17.ntmps [.arr a_n [.int .i64] a_c, .non, .non, iv (nn : Int), iv ((i : Int)), iv (((0 : Nat) : Int))])) (some (bv (decide ((nn : Int) > 0)))) := by kernel_rfl
theorem r17_out0 (K n a_n nn : Nat) (a_c : Nat → Nat → Int) : runW Try.prog GL0 Γ18 K (cfgK [true, false, false, true, true, true]) [.arr a_n [.int .i64] a_c] Try.f17 0 (n + 1) (stL Try.f17.ntmps [.arr a_n [.int .i64] a_c, .non, .non, iv (nn : Int), iv (((0 : Nat) : Int)), .non]) = cond (decide (((0 : Nat) : Int) < (nn : Int))) (runV Try.prog GL0 Γ18 K (cfgK [true, false, false, true, true, true]) [.arr a_n [.int .i64] a_c] Try.f17 1 n K (stL Try.f17.ntmps [.arr a_n [.int .i64] a_c, .non, .non, iv (nn : Int), iv (((0 : Nat) : Int)), iv (((0 : Nat) : Int))])) (some (bv (decide ((nn : Int) > 0)))) := by kernel_rfl
theorem r17_inn (K m a_n nn i : Nat) (a_c : Nat → Nat → Int) (hi : i < nn) (hnn : nn ≤ 24) (hq : nn * nn = a_n) : ∀ (r k n : Nat), k + r = i + 1 → r < n → runV Try.prog GL0 Γ18 K (cfgK [true, false, false, true, true, true]) [.arr a_n [.int .i64] a_c] Try.f17 1 m n (stL Try.f17.ntmps [.arr a_n [.int .i64] a_c, .non, .non, iv (nn : Int), iv ((i : Int)), iv ((k : Int))]) = cond (allF (pS nn a_c i) k r) (runW Try.prog GL0 Γ18 K (cfgK [true, false, false, true, true, true]) [.arr a_n [.int .i64] a_c] Try.f17 0 m (stL Try.f17.ntmps [.arr a_n [.int .i64] a_c, .non, .non, iv (nn : Int), iv (((i + 1 : Nat) : Int)), (iv ((i + 1 : Nat) : Int))])) (some (bv false)) := by
  intro r
  induction r with
  | zero =>
    intro k n h1 h2
    obtain ⟨n, rfl⟩ : ∃ n', n = n' + 1 := ⟨n - 1, by omega⟩
    rw [r17_in, show decide ((k : Int) ≤ (i : Int)) = false by simp; omega, wr_succ (i := i) (by omega), show k = i + 1 by omega]
    rfl
  | succ r ih =>
    intro k n h1 h2
    obtain ⟨n, rfl⟩ : ∃ n', n = n' + 1 := ⟨n - 1, by omega⟩
    have l1 : i * nn + k < a_n := hq ▸ idx_lt hi (by omega)
    have l2 : k * nn + i < a_n := hq ▸ idx_lt (by omega) hi
    rw [r17_in, show decide ((k : Int) ≤ (i : Int)) = true by simp; omega, idx_cast (i := i) (k := k) (by omega) (by omega) (by omega), idx_cast (i := k) (k := i) (by omega) (by omega) (by omega)]
    simp only [nat_nn, nat_lt, l1, l2, decide_true, Bool.and_self, cond_true, Int.toNat_natCast]
    rw [wr_succ (i := k) (by omega), ih (k + 1) n (by omega) (by omega)]
    simp only [allF]
    rw [show pS nn a_c i k = (inB (a_c (i * nn + k) 0) (-1) 1 && (a_c (i * nn + k) 0 == wr (0 - a_c (k * nn + i) 0))) from rfl]
    cases inB (a_c (i * nn + k) 0) (-1) 1 <;> cases a_c (i * nn + k) 0 == wr (0 - a_c (k * nn + i) 0) <;> rfl
theorem r17_run (K a_n nn : Nat) (a_c : Nat → Nat → Int) (hnn : nn ≤ 24) (hq : 0 < nn → nn * nn = a_n) (hK : 30 ≤ K) : ∀ (r i n : Nat) (z : Int), i + r = nn → r < n → runW Try.prog GL0 Γ18 K (cfgK [true, false, false, true, true, true]) [.arr a_n [.int .i64] a_c] Try.f17 0 n (stL Try.f17.ntmps [.arr a_n [.int .i64] a_c, .non, .non, iv (nn : Int), iv ((i : Int)), iv z]) = some (bv (allF (fun i => allF (pS nn a_c i) 0 (i + 1)) i r && decide ((nn : Int) > 0))) := by
  intro r
  induction r with
  | zero =>
    intro i n z  h1 h2
    obtain ⟨n, rfl⟩ : ∃ n', n = n' + 1 := ⟨n - 1, by omega⟩
    rw [r17_out, nat_lt, show decide (i < nn) = false by simp; omega]
    rfl
  | succ r ih =>
    intro i n z  h1 h2
    obtain ⟨n, rfl⟩ : ∃ n', n = n' + 1 := ⟨n - 1, by omega⟩
    rw [r17_out, nat_lt, show decide (i < nn) = true by simp; omega]
    simp only [cond_true]
    rw [r17_inn K n a_n nn i a_c (by omega) hnn (hq (by omega)) (i + 1) 0 K (by omega) (by omega), ih (i + 1) n _ (by omega) (by omega)]
    rw [show allF (fun i => allF (pS nn a_c i) 0 (i + 1)) i (r + 1) = (allF (pS nn a_c i) 0 (i + 1) && allF (fun i => allF (pS nn a_c i) 0 (i + 1)) (i + 1) r) from rfl]
    cases allF (pS nn a_c i) 0 (i + 1) <;> rfl
theorem r17_run0 (K a_n nn : Nat) (a_c : Nat → Nat → Int) (hnn : nn ≤ 24) (hq : 0 < nn → nn * nn = a_n) (hK : 30 ≤ K) : runW Try.prog GL0 Γ18 K (cfgK [true, false, false, true, true, true]) [.arr a_n [.int .i64] a_c] Try.f17 0 (29 + 1) (stL Try.f17.ntmps [.arr a_n [.int .i64] a_c, .non, .non, iv (nn : Int), iv (((0 : Nat) : Int)), .non]) = some (bv (allF (fun i => allF (pS nn a_c i) 0 (i + 1)) 0 nn && decide ((nn : Int) > 0))) := by
  rw [r17_out0]
  cases nn with
  | zero => rfl
  | succ nn =>
    rw [nat_lt, show decide (0 < nn + 1) = true by simp]
    simp only [cond_true]
    rw [r17_inn K 29 a_n (nn + 1) 0 a_c (by omega) hnn (hq (by omega)) (0 + 1) 0 K (by omega) (by omega), r17_run K a_n (nn + 1) a_c hnn hq hK nn (0 + 1) 29 _ (by omega) (by omega)]
    rw [show allF (fun i => allF (pS (nn + 1) a_c i) 0 (i + 1)) 0 (nn + 1) = (allF (pS (nn + 1) a_c 0) 0 (0 + 1) && allF (fun i => allF (pS (nn + 1) a_c i) 0 (i + 1)) (0 + 1) nn) from rfl]
    cases allF (pS (nn + 1) a_c 0) 0 (0 + 1) <;> rfl

theorem e17 (a_n : Nat) (a_c : Nat → Nat → Int) : evN Try.prog GL0 Γ18 (30) [true, false, false, true, true, true]  Try.f17 [.arr a_n [.int .i64] a_c] = some (bv (ordVS a_n a_c)) := by
  refine (show _ = runW Try.prog GL0 Γ18 30 (cfgK [true, false, false, true, true, true]) [.arr a_n [.int .i64] a_c] Try.f17 0 (29 + 1) (stL Try.f17.ntmps [.arr a_n [.int .i64] a_c, .non, .non, iv (sqF 24 1 (a_n : Int)), iv (((0 : Nat) : Int)), .non]) from by kernel_rfl).trans ?_
  rw [sqN_cast]
  exact r17_run0 30 a_n (sqN a_n) a_c (sqN_le a_n) (fun h => sqN_sq h) (by omega)
theorem m17 : Meets Try.prog GL0 17 s17 := by
  refine meetsN mix0 gl0 G18 Try.func17 (by kernel_rfl) (by kernel_rfl) s17 fun args x h => ?_
  unfold s17 at h
  split at h
  · rename_i a_n a_c
    simp only [Option.some.injEq, Prod.mk.injEq] at h
    obtain ⟨hp, rfl⟩ := h
    exact ⟨_, _, by kernel_rfl, e17 a_n a_c⟩
  · cases h
abbrev Γ19 : List (Nat × Ctr) := (17, s17) :: Γ18
theorem G19 : Sound Try.prog GL0 Γ19 := G18.cons m17

-- impl.isAntisymmetric
def s21 : Ctr := fun
  | [.arr a_n [.int .i64] a_c] => some (true, bv (ordVI a_n a_c))
  | _ => none

theorem r21_in (K m n a_n nn i k : Nat) (a_c : Nat → Nat → Int) : runV Try.prog GL0 Γ19 K (cfgK [true, false, false, true, true, false, false, false, false, true, true, false, false, true, true]) [.arr a_n [.int .i64] a_c] Try.f21 1 m (n + 1) (stL Try.f21.ntmps [.arr a_n [.int .i64] a_c, .non, .non, iv (nn : Int), iv ((i : Int)), .non, .non, .non, .non, iv (nn : Int), iv ((i : Int)), .non, .non, iv (nn : Int), iv ((k : Int))]) = cond (decide ((k : Int) < (nn : Int))) (cond ((decide (0 ≤ wr (wr ((i : Int) * (nn : Int)) + (k : Int))) && decide (wr (wr ((i : Int) * (nn : Int)) + (k : Int)) < (a_n : Int)))) (cond (!(inB (a_c (wr (wr ((i : Int) * (nn : Int)) + (k : Int))).toNat 0) (-1) 1)) (some (bv false)) (cond ((decide (0 ≤ wr (wr ((k : Int) * (nn : Int)) + (i : Int))) && decide (wr (wr ((k : Int) * (nn : Int)) + (i : Int)) < (a_n : Int)))) (cond (!(a_c (wr (wr ((i : Int) * (nn : Int)) + (k : Int))).toNat 0 == wr (0 - a_c (wr (wr ((k : Int) * (nn : Int)) + (i : Int))).toNat 0))) (some (bv false)) (runV Try.prog GL0 Γ19 K (cfgK [true, false, false, true, true, false, false, false, false, true, true, false, false, true, true]) [.arr a_n [.int .i64] a_c] Try.f21 1 m n (stL Try.f21.ntmps [.arr a_n [.int .i64] a_c, .non, .non, iv (nn : Int), iv ((i : Int)), .non, .non, .non, .non, iv (nn : Int), iv ((i : Int)), .non, .non, iv (nn : Int), iv (wr ((k : Int) + 1))]))) (none))) (none)) (runW Try.prog GL0 Γ19 K (cfgK [true, false, false, true, true, false, false, false, false, true, true, false, false, true, true]) [.arr a_n [.int .i64] a_c] Try.f21 0 m (stL Try.f21.ntmps [.arr a_n [.int .i64] a_c, .non, .non, iv (nn : Int), (iv (i : Int)), .non, .non, .non, .non, iv (nn : Int), iv (wr ((i : Int) + 1)), .non, .non, (iv (nn : Int)), (iv (k : Int))])) := by kernel_rfl
theorem r21_out (K n a_n nn i : Nat) (a_c : Nat → Nat → Int) (z0 z1 z2 : Int) : runW Try.prog GL0 Γ19 K (cfgK [true, false, false, true, true, false, false, false, false, true, true, false, false, true, true]) [.arr a_n [.int .i64] a_c] Try.f21 0 (n + 1) (stL Try.f21.ntmps [.arr a_n [.int .i64] a_c, .non, .non, iv (nn : Int), iv z0, .non, .non, .non, .non, iv (nn : Int), iv ((i : Int)), .non, .non, iv z1, iv z2]) = cond (decide ((i : Int) < (nn : Int))) (runV Try.prog GL0 Γ19 K (cfgK [true, false, false, true, true, false, false, false, false, true, true, false, false, true, true]) [.arr a_n [.int .i64] a_c] Try.f21 1 n K (stL Try.f21.ntmps [.arr a_n [.int .i64] a_c, .non, .non, iv (nn : Int), iv ((i : Int)), .non, .non, .non, .non, iv (nn : Int), iv ((i : Int)), .non, .non, iv (nn : Int), iv (((0 : Nat) : Int))])) (some (bv (decide ((nn : Int) > 0)))) := by kernel_rfl
theorem r21_out0 (K n a_n nn : Nat) (a_c : Nat → Nat → Int) : runW Try.prog GL0 Γ19 K (cfgK [true, false, false, true, true, false, false, false, false, true, true, false, false, true, true]) [.arr a_n [.int .i64] a_c] Try.f21 0 (n + 1) (stL Try.f21.ntmps [.arr a_n [.int .i64] a_c, .non, .non, iv (nn : Int), .non, .non, .non, .non, .non, iv (nn : Int), iv (((0 : Nat) : Int)), .non, .non, .non, .non]) = cond (decide (((0 : Nat) : Int) < (nn : Int))) (runV Try.prog GL0 Γ19 K (cfgK [true, false, false, true, true, false, false, false, false, true, true, false, false, true, true]) [.arr a_n [.int .i64] a_c] Try.f21 1 n K (stL Try.f21.ntmps [.arr a_n [.int .i64] a_c, .non, .non, iv (nn : Int), iv (((0 : Nat) : Int)), .non, .non, .non, .non, iv (nn : Int), iv (((0 : Nat) : Int)), .non, .non, iv (nn : Int), iv (((0 : Nat) : Int))])) (some (bv (decide ((nn : Int) > 0)))) := by kernel_rfl
theorem r21_inn (K m a_n nn i : Nat) (a_c : Nat → Nat → Int) (hi : i < nn) (hnn : nn ≤ 24) (hq : nn * nn = a_n) : ∀ (r k n : Nat), k + r = nn → r < n → runV Try.prog GL0 Γ19 K (cfgK [true, false, false, true, true, false, false, false, false, true, true, false, false, true, true]) [.arr a_n [.int .i64] a_c] Try.f21 1 m n (stL Try.f21.ntmps [.arr a_n [.int .i64] a_c, .non, .non, iv (nn : Int), iv ((i : Int)), .non, .non, .non, .non, iv (nn : Int), iv ((i : Int)), .non, .non, iv (nn : Int), iv ((k : Int))]) = cond (allF (pS nn a_c i) k r) (runW Try.prog GL0 Γ19 K (cfgK [true, false, false, true, true, false, false, false, false, true, true, false, false, true, true]) [.arr a_n [.int .i64] a_c] Try.f21 0 m (stL Try.f21.ntmps [.arr a_n [.int .i64] a_c, .non, .non, iv (nn : Int), (iv (i : Int)), .non, .non, .non, .non, iv (nn : Int), iv (((i + 1 : Nat) : Int)), .non, .non, (iv (nn : Int)), (iv ((nn : Nat) : Int))])) (some (bv false)) := by
  intro r
  induction r with
  | zero =>
    intro k n h1 h2
    obtain ⟨n, rfl⟩ : ∃ n', n = n' + 1 := ⟨n - 1, by omega⟩
    rw [r21_in, show decide ((k : Int) < (nn : Int)) = false by simp; omega, wr_succ (i := i) (by omega), show k = nn by omega]
    rfl
  | succ r ih =>
    intro k n h1 h2
    obtain ⟨n, rfl⟩ : ∃ n', n = n' + 1 := ⟨n - 1, by omega⟩
    have l1 : i * nn + k < a_n := hq ▸ idx_lt hi (by omega)
    have l2 : k * nn + i < a_n := hq ▸ idx_lt (by omega) hi
    rw [r21_in, show decide ((k : Int) < (nn : Int)) = true by simp; omega, idx_cast (i := i) (k := k) (by omega) (by omega) (by omega), idx_cast (i := k) (k := i) (by omega) (by omega) (by omega)]
    simp only [nat_nn, nat_lt, l1, l2, decide_true, Bool.and_self, cond_true, Int.toNat_natCast]
    rw [wr_succ (i := k) (by omega), ih (k + 1) n (by omega) (by omega)]
    simp only [allF]
    rw [show pS nn a_c i k = (inB (a_c (i * nn + k) 0) (-1) 1 && (a_c (i * nn + k) 0 == wr (0 - a_c (k * nn + i) 0))) from rfl]
    cases inB (a_c (i * nn + k) 0) (-1) 1 <;> cases a_c (i * nn + k) 0 == wr (0 - a_c (k * nn + i) 0) <;> rfl
theorem r21_run (K a_n nn : Nat) (a_c : Nat → Nat → Int) (hnn : nn ≤ 24) (hq : 0 < nn → nn * nn = a_n) (hK : 30 ≤ K) : ∀ (r i n : Nat) (z0 z1 z2 : Int), i + r = nn → r < n → runW Try.prog GL0 Γ19 K (cfgK [true, false, false, true, true, false, false, false, false, true, true, false, false, true, true]) [.arr a_n [.int .i64] a_c] Try.f21 0 n (stL Try.f21.ntmps [.arr a_n [.int .i64] a_c, .non, .non, iv (nn : Int), iv z0, .non, .non, .non, .non, iv (nn : Int), iv ((i : Int)), .non, .non, iv z1, iv z2]) = some (bv (allF (fun i => allF (pS nn a_c i) 0 (nn)) i r && decide ((nn : Int) > 0))) := by
  intro r
  induction r with
  | zero =>
    intro i n z0 z1 z2  h1 h2
    obtain ⟨n, rfl⟩ : ∃ n', n = n' + 1 := ⟨n - 1, by omega⟩
    rw [r21_out, nat_lt, show decide (i < nn) = false by simp; omega]
    rfl
  | succ r ih =>
    intro i n z0 z1 z2  h1 h2
    obtain ⟨n, rfl⟩ : ∃ n', n = n' + 1 := ⟨n - 1, by omega⟩
    rw [r21_out, nat_lt, show decide (i < nn) = true by simp; omega]
    simp only [cond_true]
    rw [r21_inn K n a_n nn i a_c (by omega) hnn (hq (by omega)) (nn) 0 K (by omega) (by omega), ih (i + 1) n _ _ _ (by omega) (by omega)]
    rw [show allF (fun i => allF (pS nn a_c i) 0 (nn)) i (r + 1) = (allF (pS nn a_c i) 0 (nn) && allF (fun i => allF (pS nn a_c i) 0 (nn)) (i + 1) r) from rfl]
    cases allF (pS nn a_c i) 0 (nn) <;> rfl
theorem r21_run0 (K a_n nn : Nat) (a_c : Nat → Nat → Int) (hnn : nn ≤ 24) (hq : 0 < nn → nn * nn = a_n) (hK : 30 ≤ K) : runW Try.prog GL0 Γ19 K (cfgK [true, false, false, true, true, false, false, false, false, true, true, false, false, true, true]) [.arr a_n [.int .i64] a_c] Try.f21 0 (29 + 1) (stL Try.f21.ntmps [.arr a_n [.int .i64] a_c, .non, .non, iv (nn : Int), .non, .non, .non, .non, .non, iv (nn : Int), iv (((0 : Nat) : Int)), .non, .non, .non, .non]) = some (bv (allF (fun i => allF (pS nn a_c i) 0 (nn)) 0 nn && decide ((nn : Int) > 0))) := by
  rw [r21_out0]
  cases nn with
  | zero => rfl
  | succ nn =>
    rw [nat_lt, show decide (0 < nn + 1) = true by simp]
    simp only [cond_true]
    rw [r21_inn K 29 a_n (nn + 1) 0 a_c (by omega) hnn (hq (by omega)) (nn + 1) 0 K (by omega) (by omega), r21_run K a_n (nn + 1) a_c hnn hq hK nn (0 + 1) 29 _ _ _ (by omega) (by omega)]
    rw [show allF (fun i => allF (pS (nn + 1) a_c i) 0 (nn + 1)) 0 (nn + 1) = (allF (pS (nn + 1) a_c 0) 0 (nn + 1) && allF (fun i => allF (pS (nn + 1) a_c i) 0 (nn + 1)) (0 + 1) nn) from rfl]
    cases allF (pS (nn + 1) a_c 0) 0 (nn + 1) <;> rfl

theorem e21 (a_n : Nat) (a_c : Nat → Nat → Int) : evN Try.prog GL0 Γ19 (30) [true, false, false, true, true, false, false, false, false, true, true, false, false, true, true]  Try.f21 [.arr a_n [.int .i64] a_c] = some (bv (ordVI a_n a_c)) := by
  refine (show _ = runW Try.prog GL0 Γ19 30 (cfgK [true, false, false, true, true, false, false, false, false, true, true, false, false, true, true]) [.arr a_n [.int .i64] a_c] Try.f21 0 (29 + 1) (stL Try.f21.ntmps [.arr a_n [.int .i64] a_c, .non, .non, iv (sqF 24 1 (a_n : Int)), .non, .non, .non, .non, .non, iv (sqF 24 1 (a_n : Int)), iv (((0 : Nat) : Int)), .non, .non, .non, .non]) from by kernel_rfl).trans ?_
  rw [sqN_cast]
  exact r21_run0 30 a_n (sqN a_n) a_c (sqN_le a_n) (fun h => sqN_sq h) (by omega)
theorem m21 : Meets Try.prog GL0 21 s21 := by
  refine meetsN mix0 gl0 G19 Try.func21 (by kernel_rfl) (by kernel_rfl) s21 fun args x h => ?_
  unfold s21 at h
  split at h
  · rename_i a_n a_c
    simp only [Option.some.injEq, Prod.mk.injEq] at h
    obtain ⟨hp, rfl⟩ := h
    exact ⟨_, _, by kernel_rfl, e21 a_n a_c⟩
  · cases h
abbrev Γ20 : List (Nat × Ctr) := (21, s21) :: Γ19
theorem G20 : Sound Try.prog GL0 Γ20 := G19.cons m21

-- slices.IndexFunc[[]impl.RefNode,impl.RefNode]
def s30 : Ctr := fun
  | [.arr a_n [.int .i64, .int .i64, .int .i64, .int .i64] a_c, .val (.func (.func 25) ⟨[]⟩ ⟨[]⟩)] => some (Nat.ble a_n 1048576, iv (idxF (fun j => !(nodeAt a_c j)) 0 a_n))
  | _ => none

theorem r30_step (K n a_n : Nat) (a_c : Nat → Nat → Int) (i : Nat) : runW Try.prog GL0 Γ20 K (cfgK [true, true, false, false, false, false, false, true, true]) [.arr a_n [.int .i64, .int .i64, .int .i64, .int .i64] a_c, .val (.func (.func 25) ⟨[]⟩ ⟨[]⟩)] Try.f30 0 (n + 1) (stL Try.f30.ntmps [.arr a_n [.int .i64, .int .i64, .int .i64, .int .i64] a_c, .val (.func (.func 25) ⟨[]⟩ ⟨[]⟩), .non, .non, .non, .non, .non, iv (a_n : Int), iv ((i : Int))]) = cond (decide ((i : Int) < (a_n : Int))) (cond ((decide (0 ≤ (i : Int)) && decide ((i : Int) < (a_n : Int)))) (cond (!(nodeAt a_c i)) (some (iv (i : Int))) (runW Try.prog GL0 Γ20 K (cfgK [true, true, false, false, false, false, false, true, true]) [.arr a_n [.int .i64, .int .i64, .int .i64, .int .i64] a_c, .val (.func (.func 25) ⟨[]⟩ ⟨[]⟩)] Try.f30 0 n (stL Try.f30.ntmps [.arr a_n [.int .i64, .int .i64, .int .i64, .int .i64] a_c, .val (.func (.func 25) ⟨[]⟩ ⟨[]⟩), .non, .non, .non, .non, .non, iv (a_n : Int), iv (wr ((i : Int) + 1))]))) (none)) (some (iv (-1))) := by kernel_rfl
theorem r30_run (K a_n : Nat) (a_c : Nat → Nat → Int) (hn : a_n ≤ 1048576) : ∀ (m i n : Nat), i + m = a_n → m < n → runW Try.prog GL0 Γ20 K (cfgK [true, true, false, false, false, false, false, true, true]) [.arr a_n [.int .i64, .int .i64, .int .i64, .int .i64] a_c, .val (.func (.func 25) ⟨[]⟩ ⟨[]⟩)] Try.f30 0 n (stL Try.f30.ntmps [.arr a_n [.int .i64, .int .i64, .int .i64, .int .i64] a_c, .val (.func (.func 25) ⟨[]⟩ ⟨[]⟩), .non, .non, .non, .non, .non, iv (a_n : Int), iv ((i : Int))]) = some (iv (idxF (fun j => !(nodeAt a_c j)) i m)) := by
  intro m
  induction m with
  | zero =>
    intro i n h1 h2
    obtain ⟨n, rfl⟩ : ∃ n', n = n' + 1 := ⟨n - 1, by omega⟩
    rw [r30_step, nat_lt i a_n, show decide (i < a_n) = false by simp; omega]
    rfl
  | succ m ih =>
    intro i n h1 h2
    obtain ⟨n, rfl⟩ : ∃ n', n = n' + 1 := ⟨n - 1, by omega⟩
    rw [r30_step, nat_nn, nat_lt i a_n, show decide (i < a_n) = true by simp; omega]
    simp only [Bool.and_self, cond_true]
    rw [wr_succ (by omega), ih (i + 1) n (by omega) (by omega)]
    simp only [idxF]
    cases nodeAt a_c i <;> rfl

theorem e30 (a_n : Nat) (a_c : Nat → Nat → Int) (hp : (Nat.ble a_n 1048576) = true) : evN Try.prog GL0 Γ20 (a_n + 2) [true, true, false, false, false, false, false, true, true]  Try.f30 [.arr a_n [.int .i64, .int .i64, .int .i64, .int .i64] a_c, .val (.func (.func 25) ⟨[]⟩ ⟨[]⟩)] = some (iv (idxF (fun j => !(nodeAt a_c j)) 0 a_n)) := by
  have hn := Nat.le_of_ble_eq_true hp
  refine (show _ = runW Try.prog GL0 Γ20 (a_n + 2) (cfgK [true, true, false, false, false, false, false, true, true]) [.arr a_n [.int .i64, .int .i64, .int .i64, .int .i64] a_c, .val (.func (.func 25) ⟨[]⟩ ⟨[]⟩)] Try.f30 0 (a_n + 2) (stL Try.f30.ntmps [.arr a_n [.int .i64, .int .i64, .int .i64, .int .i64] a_c, .val (.func (.func 25) ⟨[]⟩ ⟨[]⟩), .non, .non, .non, .non, .non, iv (a_n : Int), iv (((0 : Nat) : Int))]) from by kernel_rfl).trans ?_
  exact r30_run _ a_n a_c hn a_n 0 _ (by omega) (by omega)
theorem m30 : Meets Try.prog GL0 30 s30 := by
  refine meetsN mix0 gl0 G20 Try.func30 (by kernel_rfl) (by kernel_rfl) s30 fun args x h => ?_
  unfold s30 at h
  split at h
  · rename_i a_n a_c
    simp only [Option.some.injEq, Prod.mk.injEq] at h
    obtain ⟨hp, rfl⟩ := h
    exact ⟨_, _, by kernel_rfl, e30 a_n a_c hp⟩
  · cases h
abbrev Γ21 : List (Nat × Ctr) := (30, s30) :: Γ20
theorem G21 : Sound Try.prog GL0 Γ21 := G20.cons m30

-- slices.ContainsFunc[[]impl.RefNode,impl.RefNode]
def s24 : Ctr := fun
  | [.arr a_n [.int .i64, .int .i64, .int .i64, .int .i64] a_c, .val (.func (.func 25) ⟨[]⟩ ⟨[]⟩)] => some (Nat.ble a_n 1048576, bv (!(allF (nodeAt a_c) 0 a_n)))
  | _ => none

theorem e24 (a_n : Nat) (a_c : Nat → Nat → Int) (hp : (Nat.ble a_n 1048576) = true) : evN Try.prog GL0 Γ21 (0) []  Try.f24 [.arr a_n [.int .i64, .int .i64, .int .i64, .int .i64] a_c, .val (.func (.func 25) ⟨[]⟩ ⟨[]⟩)] = some (bv (!(allF (nodeAt a_c) 0 a_n))) := by
  refine (show _ = cond (Nat.ble a_n 1048576) (some (bv (decide (idxF (fun j => !(nodeAt a_c j)) 0 a_n ≥ 0)))) none from by kernel_rfl).trans ?_
  rw [hp, idxF_ge]
  simp only [Bool.not_not, cond_true]
theorem m24 : Meets Try.prog GL0 24 s24 := by
  refine meetsN mix0 gl0 G21 Try.func24 (by kernel_rfl) (by kernel_rfl) s24 fun args x h => ?_
  unfold s24 at h
  split at h
  · rename_i a_n a_c
    simp only [Option.some.injEq, Prod.mk.injEq] at h
    obtain ⟨hp, rfl⟩ := h
    exact ⟨_, _, by kernel_rfl, e24 a_n a_c hp⟩
  · cases h
abbrev Γ22 : List (Nat × Ctr) := (24, s24) :: Γ21
theorem G22 : Sound Try.prog GL0 Γ22 := G21.cons m24

-- spec.l19Ok
def s11 : Ctr := fun
  | [.own 30 [.val (.int .i64 a_k), .val (.int .i64 a_a), .val (.int .i64 a_b), .arr a_n [.int .i64] a_c, .arr a_m [.int .i64, .int .i64, .int .i64, .int .i64] a_d]] => some (Nat.ble a_m 1048576, .out (bv (certB (ordVS a_n a_c) a_k a_a a_b a_n a_m a_d)) [.agg [.val (.int .i64 a_k), .val (.int .i64 a_a), .val (.int .i64 a_b), .arr a_n [.int .i64] a_c, .arr a_m [.int .i64, .int .i64, .int .i64, .int .i64] a_d]])
  | _ => none

theorem r11_step (K n a_n a_m : Nat) (a_c a_d : Nat → Nat → Int) (a_k a_a a_b : Int) (i : Nat) : runW Try.prog GL0 Γ22 K (cfgC [true, false, false, true] [(3, [true])]) [.own 30 [.val (.int .i64 a_k), .val (.int .i64 a_a), .val (.int .i64 a_b), .arr a_n [.int .i64] a_c, .arr a_m [.int .i64, .int .i64, .int .i64, .int .i64] a_d]] Try.f11 0 (n + 1) (st2 Try.f11.ntmps [.ref Try.f11.ntmps 0, .non, .non, iv ((i : Int))] [.vown 30 [.val (.int .i64 a_k), .val (.int .i64 a_a), .val (.int .i64 a_b), .arr a_n [.int .i64] a_c, .arr a_m [.int .i64, .int .i64, .int .i64, .int .i64] a_d]]) = cond (decide ((i : Int) < (a_m : Int))) (cond ((decide (0 ≤ (i : Int)) && decide ((i : Int) < (a_m : Int)))) (cond (!(nodeAt a_d i)) ((some (.out (bv (false)) [.agg [.val (.int .i64 a_k), .val (.int .i64 a_a), .val (.int .i64 a_b), .arr a_n [.int .i64] a_c, .arr a_m [.int .i64, .int .i64, .int .i64, .int .i64] a_d]]))) (runW Try.prog GL0 Γ22 K (cfgC [true, false, false, true] [(3, [true])]) [.own 30 [.val (.int .i64 a_k), .val (.int .i64 a_a), .val (.int .i64 a_b), .arr a_n [.int .i64] a_c, .arr a_m [.int .i64, .int .i64, .int .i64, .int .i64] a_d]] Try.f11 0 n (st2 Try.f11.ntmps [.ref Try.f11.ntmps 0, .non, .non, iv (wr ((i : Int) + 1))] [.vown 30 [.val (.int .i64 a_k), .val (.int .i64 a_a), .val (.int .i64 a_b), .arr a_n [.int .i64] a_c, .arr a_m [.int .i64, .int .i64, .int .i64, .int .i64] a_d]]))) (none)) (cond (a_a == 0) (cond (a_b == 0) ((some (.out (bv (inB a_m 1 500)) [.agg [.val (.int .i64 a_k), .val (.int .i64 a_a), .val (.int .i64 a_b), .arr a_n [.int .i64] a_c, .arr a_m [.int .i64, .int .i64, .int .i64, .int .i64] a_d]]))) ((some (.out (bv (false)) [.agg [.val (.int .i64 a_k), .val (.int .i64 a_a), .val (.int .i64 a_b), .arr a_n [.int .i64] a_c, .arr a_m [.int .i64, .int .i64, .int .i64, .int .i64] a_d]])))) ((some (.out (bv (false)) [.agg [.val (.int .i64 a_k), .val (.int .i64 a_a), .val (.int .i64 a_b), .arr a_n [.int .i64] a_c, .arr a_m [.int .i64, .int .i64, .int .i64, .int .i64] a_d]])))) := by kernel_rfl
theorem r11_run (K a_n a_m : Nat) (a_c a_d : Nat → Nat → Int) (a_k a_a a_b : Int) (hn : a_m ≤ 1048576) : ∀ (m i n : Nat), i + m = a_m → m < n → runW Try.prog GL0 Γ22 K (cfgC [true, false, false, true] [(3, [true])]) [.own 30 [.val (.int .i64 a_k), .val (.int .i64 a_a), .val (.int .i64 a_b), .arr a_n [.int .i64] a_c, .arr a_m [.int .i64, .int .i64, .int .i64, .int .i64] a_d]] Try.f11 0 n (st2 Try.f11.ntmps [.ref Try.f11.ntmps 0, .non, .non, iv ((i : Int))] [.vown 30 [.val (.int .i64 a_k), .val (.int .i64 a_a), .val (.int .i64 a_b), .arr a_n [.int .i64] a_c, .arr a_m [.int .i64, .int .i64, .int .i64, .int .i64] a_d]]) = cond (allF (nodeAt a_d) i m) (cond (a_a == 0) (cond (a_b == 0) ((some (.out (bv (inB a_m 1 500)) [.agg [.val (.int .i64 a_k), .val (.int .i64 a_a), .val (.int .i64 a_b), .arr a_n [.int .i64] a_c, .arr a_m [.int .i64, .int .i64, .int .i64, .int .i64] a_d]]))) ((some (.out (bv (false)) [.agg [.val (.int .i64 a_k), .val (.int .i64 a_a), .val (.int .i64 a_b), .arr a_n [.int .i64] a_c, .arr a_m [.int .i64, .int .i64, .int .i64, .int .i64] a_d]])))) ((some (.out (bv (false)) [.agg [.val (.int .i64 a_k), .val (.int .i64 a_a), .val (.int .i64 a_b), .arr a_n [.int .i64] a_c, .arr a_m [.int .i64, .int .i64, .int .i64, .int .i64] a_d]])))) (some (.out (bv (false)) [.agg [.val (.int .i64 a_k), .val (.int .i64 a_a), .val (.int .i64 a_b), .arr a_n [.int .i64] a_c, .arr a_m [.int .i64, .int .i64, .int .i64, .int .i64] a_d]])) := by
  intro m
  induction m with
  | zero =>
    intro i n h1 h2
    obtain ⟨n, rfl⟩ : ∃ n', n = n' + 1 := ⟨n - 1, by omega⟩
    rw [r11_step, nat_lt i a_m, show decide (i < a_m) = false by simp; omega]
    rfl
  | succ m ih =>
    intro i n h1 h2
    obtain ⟨n, rfl⟩ : ∃ n', n = n' + 1 := ⟨n - 1, by omega⟩
    rw [r11_step, nat_nn, nat_lt i a_m, show decide (i < a_m) = true by simp; omega]
    simp only [Bool.and_self, cond_true]
    rw [wr_succ (by omega), ih (i + 1) n (by omega) (by omega)]
    simp only [allF]
    cases nodeAt a_d i <;> rfl
theorem r11_from (a_n a_m : Nat) (a_c a_d : Nat → Nat → Int) (a_k a_a a_b : Int) (hp : Nat.ble a_m 1048576 = true) : fromW Try.prog GL0 Γ22 (a_m + 2) (cfgC [true, false, false, true] [(3, [true])]) [.own 30 [.val (.int .i64 a_k), .val (.int .i64 a_a), .val (.int .i64 a_b), .arr a_n [.int .i64] a_c, .arr a_m [.int .i64, .int .i64, .int .i64, .int .i64] a_d]] Try.f11 3 (st2 Try.f11.ntmps [.ref Try.f11.ntmps 0] [.vown 30 [.val (.int .i64 a_k), .val (.int .i64 a_a), .val (.int .i64 a_b), .arr a_n [.int .i64] a_c, .arr a_m [.int .i64, .int .i64, .int .i64, .int .i64] a_d]]) = (some (.out (bv (cond (a_k == 1) (a_a == 0 && (a_b == 0 && (ordVS a_n a_c))) (cond (a_k == 2) (inB a_a 0 39 && inB a_b 1 3) (cond (a_k == 3) (inB a_b 0 69 && inB a_a 0 (wr (a_b - 1))) (cond (a_k == 4) (a_a == 0 && (a_b == 0 && (inB a_m 1 500 && allF (nodeAt a_d) 0 a_m))) false))))) [.agg [.val (.int .i64 a_k), .val (.int .i64 a_a), .val (.int .i64 a_b), .arr a_n [.int .i64] a_c, .arr a_m [.int .i64, .int .i64, .int .i64, .int .i64] a_d]])) := by
  refine (show _ = cond (a_k == 1) (cond (a_a == 0) (cond (a_b == 0) ((some (.out (bv ((ordVS a_n a_c))) [.agg [.val (.int .i64 a_k), .val (.int .i64 a_a), .val (.int .i64 a_b), .arr a_n [.int .i64] a_c, .arr a_m [.int .i64, .int .i64, .int .i64, .int .i64] a_d]]))) ((some (.out (bv (false)) [.agg [.val (.int .i64 a_k), .val (.int .i64 a_a), .val (.int .i64 a_b), .arr a_n [.int .i64] a_c, .arr a_m [.int .i64, .int .i64, .int .i64, .int .i64] a_d]])))) ((some (.out (bv (false)) [.agg [.val (.int .i64 a_k), .val (.int .i64 a_a), .val (.int .i64 a_b), .arr a_n [.int .i64] a_c, .arr a_m [.int .i64, .int .i64, .int .i64, .int .i64] a_d]])))) (cond (a_k == 2) (cond (inB a_a 0 39) ((some (.out (bv (inB a_b 1 3)) [.agg [.val (.int .i64 a_k), .val (.int .i64 a_a), .val (.int .i64 a_b), .arr a_n [.int .i64] a_c, .arr a_m [.int .i64, .int .i64, .int .i64, .int .i64] a_d]]))) ((some (.out (bv (false)) [.agg [.val (.int .i64 a_k), .val (.int .i64 a_a), .val (.int .i64 a_b), .arr a_n [.int .i64] a_c, .arr a_m [.int .i64, .int .i64, .int .i64, .int .i64] a_d]])))) (cond (a_k == 3) (cond (inB a_b 0 69) ((some (.out (bv (inB a_a 0 (wr (a_b - 1)))) [.agg [.val (.int .i64 a_k), .val (.int .i64 a_a), .val (.int .i64 a_b), .arr a_n [.int .i64] a_c, .arr a_m [.int .i64, .int .i64, .int .i64, .int .i64] a_d]]))) ((some (.out (bv (false)) [.agg [.val (.int .i64 a_k), .val (.int .i64 a_a), .val (.int .i64 a_b), .arr a_n [.int .i64] a_c, .arr a_m [.int .i64, .int .i64, .int .i64, .int .i64] a_d]])))) (cond (a_k == 4) (runW Try.prog GL0 Γ22 (a_m + 2) (cfgC [true, false, false, true] [(3, [true])]) [.own 30 [.val (.int .i64 a_k), .val (.int .i64 a_a), .val (.int .i64 a_b), .arr a_n [.int .i64] a_c, .arr a_m [.int .i64, .int .i64, .int .i64, .int .i64] a_d]] Try.f11 0 (a_m + 2) (st2 Try.f11.ntmps [.ref Try.f11.ntmps 0, .non, .non, iv (((0 : Nat) : Int))] [.vown 30 [.val (.int .i64 a_k), .val (.int .i64 a_a), .val (.int .i64 a_b), .arr a_n [.int .i64] a_c, .arr a_m [.int .i64, .int .i64, .int .i64, .int .i64] a_d]])) ((some (.out (bv (false)) [.agg [.val (.int .i64 a_k), .val (.int .i64 a_a), .val (.int .i64 a_b), .arr a_n [.int .i64] a_c, .arr a_m [.int .i64, .int .i64, .int .i64, .int .i64] a_d]])))))) from by kernel_rfl).trans ?_
  rw [r11_run _ a_n a_m a_c a_d a_k a_a a_b (Nat.le_of_ble_eq_true hp) a_m 0 _ (by omega) (by omega)]
  generalize (ordVS a_n a_c) = o
  cases a_k == 1 <;> cases a_k == 2 <;> cases a_k == 3 <;> cases a_k == 4 <;> cases a_a == 0 <;> cases a_b == 0 <;> cases inB a_a 0 39 <;> cases inB a_b 0 69 <;> (try cases inB a_a 0 69) <;> cases inB (a_m : Int) 1 500 <;> cases allF (nodeAt a_d) 0 a_m <;> rfl

theorem e11 (a_k : Int) (a_a : Int) (a_b : Int) (a_n : Nat) (a_c : Nat → Nat → Int) (a_m : Nat) (a_d : Nat → Nat → Int) (hp : (Nat.ble a_m 1048576) = true) : evW Try.prog GL0 Γ22 (a_m + 2) (cfgC [true, false, false, true] [(3, [true])])  Try.f11 [.own 30 [.val (.int .i64 a_k), .val (.int .i64 a_a), .val (.int .i64 a_b), .arr a_n [.int .i64] a_c, .arr a_m [.int .i64, .int .i64, .int .i64, .int .i64] a_d]] = some (.out (bv (certB (ordVS a_n a_c) a_k a_a a_b a_n a_m a_d)) [.agg [.val (.int .i64 a_k), .val (.int .i64 a_a), .val (.int .i64 a_b), .arr a_n [.int .i64] a_c, .arr a_m [.int .i64, .int .i64, .int .i64, .int .i64] a_d]]) := by
  refine (show _ = cond (!(a_k == 1)) (cond (decide ((a_n : Int) > 0)) ((some (.out (bv (false)) [.agg [.val (.int .i64 a_k), .val (.int .i64 a_a), .val (.int .i64 a_b), .arr a_n [.int .i64] a_c, .arr a_m [.int .i64, .int .i64, .int .i64, .int .i64] a_d]]))) (cond (!(a_k == 4)) (cond (decide ((a_m : Int) > 0)) ((some (.out (bv (false)) [.agg [.val (.int .i64 a_k), .val (.int .i64 a_a), .val (.int .i64 a_b), .arr a_n [.int .i64] a_c, .arr a_m [.int .i64, .int .i64, .int .i64, .int .i64] a_d]]))) (fromW Try.prog GL0 Γ22 (a_m + 2) (cfgC [true, false, false, true] [(3, [true])]) [.own 30 [.val (.int .i64 a_k), .val (.int .i64 a_a), .val (.int .i64 a_b), .arr a_n [.int .i64] a_c, .arr a_m [.int .i64, .int .i64, .int .i64, .int .i64] a_d]] Try.f11 3 (st2 Try.f11.ntmps [.ref Try.f11.ntmps 0] [.vown 30 [.val (.int .i64 a_k), .val (.int .i64 a_a), .val (.int .i64 a_b), .arr a_n [.int .i64] a_c, .arr a_m [.int .i64, .int .i64, .int .i64, .int .i64] a_d]]))) (fromW Try.prog GL0 Γ22 (a_m + 2) (cfgC [true, false, false, true] [(3, [true])]) [.own 30 [.val (.int .i64 a_k), .val (.int .i64 a_a), .val (.int .i64 a_b), .arr a_n [.int .i64] a_c, .arr a_m [.int .i64, .int .i64, .int .i64, .int .i64] a_d]] Try.f11 3 (st2 Try.f11.ntmps [.ref Try.f11.ntmps 0] [.vown 30 [.val (.int .i64 a_k), .val (.int .i64 a_a), .val (.int .i64 a_b), .arr a_n [.int .i64] a_c, .arr a_m [.int .i64, .int .i64, .int .i64, .int .i64] a_d]])))) (cond (!(a_k == 4)) (cond (decide ((a_m : Int) > 0)) ((some (.out (bv (false)) [.agg [.val (.int .i64 a_k), .val (.int .i64 a_a), .val (.int .i64 a_b), .arr a_n [.int .i64] a_c, .arr a_m [.int .i64, .int .i64, .int .i64, .int .i64] a_d]]))) (fromW Try.prog GL0 Γ22 (a_m + 2) (cfgC [true, false, false, true] [(3, [true])]) [.own 30 [.val (.int .i64 a_k), .val (.int .i64 a_a), .val (.int .i64 a_b), .arr a_n [.int .i64] a_c, .arr a_m [.int .i64, .int .i64, .int .i64, .int .i64] a_d]] Try.f11 3 (st2 Try.f11.ntmps [.ref Try.f11.ntmps 0] [.vown 30 [.val (.int .i64 a_k), .val (.int .i64 a_a), .val (.int .i64 a_b), .arr a_n [.int .i64] a_c, .arr a_m [.int .i64, .int .i64, .int .i64, .int .i64] a_d]]))) (fromW Try.prog GL0 Γ22 (a_m + 2) (cfgC [true, false, false, true] [(3, [true])]) [.own 30 [.val (.int .i64 a_k), .val (.int .i64 a_a), .val (.int .i64 a_b), .arr a_n [.int .i64] a_c, .arr a_m [.int .i64, .int .i64, .int .i64, .int .i64] a_d]] Try.f11 3 (st2 Try.f11.ntmps [.ref Try.f11.ntmps 0] [.vown 30 [.val (.int .i64 a_k), .val (.int .i64 a_a), .val (.int .i64 a_b), .arr a_n [.int .i64] a_c, .arr a_m [.int .i64, .int .i64, .int .i64, .int .i64] a_d]]))) from by kernel_rfl).trans ?_
  exact guard_ok (fun b => (some (.out (bv (b)) [.agg [.val (.int .i64 a_k), .val (.int .i64 a_a), .val (.int .i64 a_b), .arr a_n [.int .i64] a_c, .arr a_m [.int .i64, .int .i64, .int .i64, .int .i64] a_d]]))) _ (r11_from a_n a_m a_c a_d a_k a_a a_b hp) true
theorem m11 : Meets Try.prog GL0 11 s11 := by
  refine meetsW mix0 G22 Try.func11 (by kernel_rfl) (by kernel_rfl) s11 fun args x h => ?_
  unfold s11 at h
  split at h
  · rename_i a_k a_a a_b a_n a_c a_m a_d
    simp only [Option.some.injEq, Prod.mk.injEq] at h
    obtain ⟨hp, rfl⟩ := h
    exact ⟨_, _, by kernel_rfl, e11 a_k a_a a_b a_n a_c a_m a_d hp⟩
  · cases h
abbrev Γ23 : List (Nat × Ctr) := (11, s11) :: Γ22
theorem G23 : Sound Try.prog GL0 Γ23 := G22.cons m11

-- impl.ValidCertificate
def s14 : Ctr := fun
  | [.agg [.val (.int .i64 a_k), .val (.int .i64 a_a), .val (.int .i64 a_b), .arr a_n [.int .i64] a_c, .arr a_m [.int .i64, .int .i64, .int .i64, .int .i64] a_d]] => some (Nat.ble a_m 1048576, bv (certB (ordVI a_n a_c) a_k a_a a_b a_n a_m a_d))
  | _ => none

theorem r14_from (a_n a_m : Nat) (a_c a_d : Nat → Nat → Int) (a_k a_a a_b : Int) (hp : Nat.ble a_m 1048576 = true) : fromW Try.prog GL0 Γ23 (a_m + 2) (cfgC [] [(3, [false, true])]) [.agg [.val (.int .i64 a_k), .val (.int .i64 a_a), .val (.int .i64 a_b), .arr a_n [.int .i64] a_c, .arr a_m [.int .i64, .int .i64, .int .i64, .int .i64] a_d]] Try.f14 3 (stL Try.f14.ntmps [.non, .own 30 [.val (.int .i64 a_k), .val (.int .i64 a_a), .val (.int .i64 a_b), .arr a_n [.int .i64] a_c, .arr a_m [.int .i64, .int .i64, .int .i64, .int .i64] a_d]]) = (some (bv (cond (a_k == 1) (a_a == 0 && (a_b == 0 && (ordVI a_n a_c))) (cond (a_k == 2) (inB a_a 0 39 && inB a_b 1 3) (cond (a_k == 3) (inB a_b 0 69 && inB a_a 0 (wr (a_b - 1))) (cond (a_k == 4) (a_a == 0 && (a_b == 0 && (inB a_m 1 500 && allF (nodeAt a_d) 0 a_m))) false)))))) := by
  refine (show _ = cond (a_k == 1) (cond (a_a == 0) (cond (a_b == 0) ((some (bv ((ordVI a_n a_c))))) ((some (bv (false))))) ((some (bv (false))))) (cond (a_k == 2) (cond (inB a_a 0 39) ((some (bv (inB a_b 1 3)))) ((some (bv (false))))) (cond (a_k == 3) (cond (inB a_a 0 69) (cond (inB a_b 0 69) ((some (bv (decide (a_a < a_b))))) ((some (bv (false))))) ((some (bv (false))))) (cond (a_k == 4) (cond (a_a == 0) (cond (a_b == 0) (cond (inB (a_m : Int) 1 500) (cond (Nat.ble a_m 1048576) ((some (bv (!(!(allF (nodeAt a_d) 0 a_m)))))) (none)) ((some (bv (false))))) ((some (bv (false))))) ((some (bv (false))))) ((some (bv (false))))))) from by kernel_rfl).trans ?_
  rw [hp]
  simp only [cond_true, Bool.not_not]
  rw [← joint_eq]
  generalize (ordVI a_n a_c) = o
  cases a_k == 1 <;> cases a_k == 2 <;> cases a_k == 3 <;> cases a_k == 4 <;> cases a_a == 0 <;> cases a_b == 0 <;> cases inB a_a 0 39 <;> cases inB a_b 0 69 <;> (try cases inB a_a 0 69) <;> cases inB (a_m : Int) 1 500 <;> cases allF (nodeAt a_d) 0 a_m <;> rfl

theorem e14 (a_k : Int) (a_a : Int) (a_b : Int) (a_n : Nat) (a_c : Nat → Nat → Int) (a_m : Nat) (a_d : Nat → Nat → Int) (hp : (Nat.ble a_m 1048576) = true) : evW Try.prog GL0 Γ23 (a_m + 2) (cfgC [] [(3, [false, true])])  Try.f14 [.agg [.val (.int .i64 a_k), .val (.int .i64 a_a), .val (.int .i64 a_b), .arr a_n [.int .i64] a_c, .arr a_m [.int .i64, .int .i64, .int .i64, .int .i64] a_d]] = some (bv (certB (ordVI a_n a_c) a_k a_a a_b a_n a_m a_d)) := by
  refine (show _ = cond (!(a_k == 1)) (cond (decide ((a_n : Int) > 0)) ((some (bv (false)))) (cond (!(a_k == 4)) (cond (decide ((a_m : Int) > 0)) ((some (bv (false)))) (fromW Try.prog GL0 Γ23 (a_m + 2) (cfgC [] [(3, [false, true])]) [.agg [.val (.int .i64 a_k), .val (.int .i64 a_a), .val (.int .i64 a_b), .arr a_n [.int .i64] a_c, .arr a_m [.int .i64, .int .i64, .int .i64, .int .i64] a_d]] Try.f14 3 (stL Try.f14.ntmps [.non, .own 30 [.val (.int .i64 a_k), .val (.int .i64 a_a), .val (.int .i64 a_b), .arr a_n [.int .i64] a_c, .arr a_m [.int .i64, .int .i64, .int .i64, .int .i64] a_d]]))) (fromW Try.prog GL0 Γ23 (a_m + 2) (cfgC [] [(3, [false, true])]) [.agg [.val (.int .i64 a_k), .val (.int .i64 a_a), .val (.int .i64 a_b), .arr a_n [.int .i64] a_c, .arr a_m [.int .i64, .int .i64, .int .i64, .int .i64] a_d]] Try.f14 3 (stL Try.f14.ntmps [.non, .own 30 [.val (.int .i64 a_k), .val (.int .i64 a_a), .val (.int .i64 a_b), .arr a_n [.int .i64] a_c, .arr a_m [.int .i64, .int .i64, .int .i64, .int .i64] a_d]])))) (cond (!(a_k == 4)) (cond (decide ((a_m : Int) > 0)) ((some (bv (false)))) (fromW Try.prog GL0 Γ23 (a_m + 2) (cfgC [] [(3, [false, true])]) [.agg [.val (.int .i64 a_k), .val (.int .i64 a_a), .val (.int .i64 a_b), .arr a_n [.int .i64] a_c, .arr a_m [.int .i64, .int .i64, .int .i64, .int .i64] a_d]] Try.f14 3 (stL Try.f14.ntmps [.non, .own 30 [.val (.int .i64 a_k), .val (.int .i64 a_a), .val (.int .i64 a_b), .arr a_n [.int .i64] a_c, .arr a_m [.int .i64, .int .i64, .int .i64, .int .i64] a_d]]))) (fromW Try.prog GL0 Γ23 (a_m + 2) (cfgC [] [(3, [false, true])]) [.agg [.val (.int .i64 a_k), .val (.int .i64 a_a), .val (.int .i64 a_b), .arr a_n [.int .i64] a_c, .arr a_m [.int .i64, .int .i64, .int .i64, .int .i64] a_d]] Try.f14 3 (stL Try.f14.ntmps [.non, .own 30 [.val (.int .i64 a_k), .val (.int .i64 a_a), .val (.int .i64 a_b), .arr a_n [.int .i64] a_c, .arr a_m [.int .i64, .int .i64, .int .i64, .int .i64] a_d]]))) from by kernel_rfl).trans ?_
  exact guard_ok (fun b => (some (bv (b)))) _ (r14_from a_n a_m a_c a_d a_k a_a a_b hp) true
theorem m14 : Meets Try.prog GL0 14 s14 := by
  refine meetsW mix0 G23 Try.func14 (by kernel_rfl) (by kernel_rfl) s14 fun args x h => ?_
  unfold s14 at h
  split at h
  · rename_i a_k a_a a_b a_n a_c a_m a_d
    simp only [Option.some.injEq, Prod.mk.injEq] at h
    obtain ⟨hp, rfl⟩ := h
    exact ⟨_, _, by kernel_rfl, e14 a_k a_a a_b a_n a_c a_m a_d hp⟩
  · cases h
abbrev Γ24 : List (Nat × Ctr) := (14, s14) :: Γ23
theorem G24 : Sound Try.prog GL0 Γ24 := G23.cons m14

-- spec.ClaimOf
def s5 : Ctr := fun
  | [.agg [.val (.int .i64 a_k), .val (.int .i64 a_a), .val (.int .i64 a_b), .arr a_n [.int .i64] a_c, .arr a_m [.int .i64, .int .i64, .int .i64, .int .i64] a_d]] => some (Nat.ble a_m 1048576, iv (clV (ordVS a_n a_c) a_k a_a a_b a_n a_m a_d))
  | _ => none

theorem e5 (a_k : Int) (a_a : Int) (a_b : Int) (a_n : Nat) (a_c : Nat → Nat → Int) (a_m : Nat) (a_d : Nat → Nat → Int) (hp : (Nat.ble a_m 1048576) = true) : evN Try.prog GL0 Γ24 (0) []  Try.f5 [.agg [.val (.int .i64 a_k), .val (.int .i64 a_a), .val (.int .i64 a_b), .arr a_n [.int .i64] a_c, .arr a_m [.int .i64, .int .i64, .int .i64, .int .i64] a_d]] = some (iv (clV (ordVS a_n a_c) a_k a_a a_b a_n a_m a_d)) := by
  refine (show _ = cond (Nat.ble a_m 1048576) (cond (!(certB (ordVS a_n a_c) a_k a_a a_b a_n a_m a_d)) (some (iv 0)) (cond (a_k == 1) (some (iv 1)) (some (iv (-1))))) (none) from by kernel_rfl).trans ?_
  rw [hp]
  unfold clV
  cases certB (ordVS a_n a_c) a_k a_a a_b a_n a_m a_d <;> cases a_k == 1 <;> rfl
theorem m5 : Meets Try.prog GL0 5 s5 := by
  refine meetsN mix0 gl0 G24 Try.func5 (by kernel_rfl) (by kernel_rfl) s5 fun args x h => ?_
  unfold s5 at h
  split at h
  · rename_i a_k a_a a_b a_n a_c a_m a_d
    simp only [Option.some.injEq, Prod.mk.injEq] at h
    obtain ⟨hp, rfl⟩ := h
    exact ⟨_, _, by kernel_rfl, e5 a_k a_a a_b a_n a_c a_m a_d hp⟩
  · cases h
abbrev Γ25 : List (Nat × Ctr) := (5, s5) :: Γ24
theorem G25 : Sound Try.prog GL0 Γ25 := G24.cons m5

-- impl.ClaimOf
def s7 : Ctr := fun
  | [.agg [.val (.int .i64 a_k), .val (.int .i64 a_a), .val (.int .i64 a_b), .arr a_n [.int .i64] a_c, .arr a_m [.int .i64, .int .i64, .int .i64, .int .i64] a_d]] => some (Nat.ble a_m 1048576, iv (clV (ordVI a_n a_c) a_k a_a a_b a_n a_m a_d))
  | _ => none

theorem e7 (a_k : Int) (a_a : Int) (a_b : Int) (a_n : Nat) (a_c : Nat → Nat → Int) (a_m : Nat) (a_d : Nat → Nat → Int) (hp : (Nat.ble a_m 1048576) = true) : evN Try.prog GL0 Γ25 (0) []  Try.f7 [.agg [.val (.int .i64 a_k), .val (.int .i64 a_a), .val (.int .i64 a_b), .arr a_n [.int .i64] a_c, .arr a_m [.int .i64, .int .i64, .int .i64, .int .i64] a_d]] = some (iv (clV (ordVI a_n a_c) a_k a_a a_b a_n a_m a_d)) := by
  refine (show _ = cond (Nat.ble a_m 1048576) (cond (!(certB (ordVI a_n a_c) a_k a_a a_b a_n a_m a_d)) (some (iv 0)) (cond (a_k == 1) (some (iv 1)) (some (iv (-1))))) (none) from by kernel_rfl).trans ?_
  rw [hp]
  unfold clV
  cases certB (ordVI a_n a_c) a_k a_a a_b a_n a_m a_d <;> cases a_k == 1 <;> rfl
theorem m7 : Meets Try.prog GL0 7 s7 := by
  refine meetsN mix0 gl0 G25 Try.func7 (by kernel_rfl) (by kernel_rfl) s7 fun args x h => ?_
  unfold s7 at h
  split at h
  · rename_i a_k a_a a_b a_n a_c a_m a_d
    simp only [Option.some.injEq, Prod.mk.injEq] at h
    obtain ⟨hp, rfl⟩ := h
    exact ⟨_, _, by kernel_rfl, e7 a_k a_a a_b a_n a_c a_m a_d hp⟩
  · cases h
abbrev Γ26 : List (Nat × Ctr) := (7, s7) :: Γ25
theorem G26 : Sound Try.prog GL0 Γ26 := G25.cons m7

-- laws.szCertificate
def s4 : Ctr := fun
  | [.agg [.val (.int .i64 a_k), .val (.int .i64 a_a), .val (.int .i64 a_b), .arr a_n [.int .i64] a_c, .arr a_m [.int .i64, .int .i64, .int .i64, .int .i64] a_d], .val (.int .i64 l)] => some (true, iv (szT a_n a_m l))
  | _ => none

theorem e4 (a_k : Int) (a_a : Int) (a_b : Int) (a_n : Nat) (a_c : Nat → Nat → Int) (a_m : Nat) (a_d : Nat → Nat → Int) (l : Int) : evN Try.prog GL0 Γ26 (0) []  Try.f4 [.agg [.val (.int .i64 a_k), .val (.int .i64 a_a), .val (.int .i64 a_b), .arr a_n [.int .i64] a_c, .arr a_m [.int .i64, .int .i64, .int .i64, .int .i64] a_d], .val (.int .i64 l)] = some (iv (szT a_n a_m l)) := by
  refine (show _ = cond (decide (szF a_n l < 0)) (some (iv (-1))) (cond (decide (szF a_m (szF a_n l) < 0)) (some (iv (-1))) (some (iv (szF a_m (szF a_n l))))) from by kernel_rfl).trans ?_
  unfold szT
  cases decide (szF a_n l < 0) <;> cases decide (szF a_m (szF a_n l) < 0) <;> rfl
theorem m4 : Meets Try.prog GL0 4 s4 := by
  refine meetsN mix0 gl0 G26 Try.func4 (by kernel_rfl) (by kernel_rfl) s4 fun args x h => ?_
  unfold s4 at h
  split at h
  · rename_i a_k a_a a_b a_n a_c a_m a_d l
    simp only [Option.some.injEq, Prod.mk.injEq] at h
    obtain ⟨hp, rfl⟩ := h
    exact ⟨_, _, by kernel_rfl, e4 a_k a_a a_b a_n a_c a_m a_d l⟩
  · cases h
abbrev Γ27 : List (Nat × Ctr) := (4, s4) :: Γ26
theorem G27 : Sound Try.prog GL0 Γ27 := G26.cons m4

-- laws.toCertificate
def s6 : Ctr := fun
  | [.agg [.val (.int .i64 a_k), .val (.int .i64 a_a), .val (.int .i64 a_b), .arr a_n [.int .i64] a_c, .arr a_m [.int .i64, .int .i64, .int .i64, .int .i64] a_d]] => some (Nat.ble a_n 1048576 && Nat.ble a_m 1048576, .agg [.val (.int .i64 a_k), .val (.int .i64 a_a), .val (.int .i64 a_b), .arr a_n [.int .i64] (cpC 1 a_n a_c), .arr a_m [.int .i64, .int .i64, .int .i64, .int .i64] (cpC 4 a_m a_d)])
  | _ => none

theorem e6 (a_k : Int) (a_a : Int) (a_b : Int) (a_n : Nat) (a_c : Nat → Nat → Int) (a_m : Nat) (a_d : Nat → Nat → Int) (hp : (Nat.ble a_n 1048576 && Nat.ble a_m 1048576) = true) : evN Try.prog GL0 Γ27 (0) []  Try.f6 [.agg [.val (.int .i64 a_k), .val (.int .i64 a_a), .val (.int .i64 a_b), .arr a_n [.int .i64] a_c, .arr a_m [.int .i64, .int .i64, .int .i64, .int .i64] a_d]] = some (.agg [.val (.int .i64 a_k), .val (.int .i64 a_a), .val (.int .i64 a_b), .arr a_n [.int .i64] (cpC 1 a_n a_c), .arr a_m [.int .i64, .int .i64, .int .i64, .int .i64] (cpC 4 a_m a_d)]) := by
  simp only [Bool.and_eq_true] at hp
  refine (show _ = cond (Nat.ble a_n 1048576) (cond (Nat.ble a_m 1048576) (some (.agg [.val (.int .i64 a_k), .val (.int .i64 a_a), .val (.int .i64 a_b), .arr a_n [.int .i64] (cpC 1 a_n a_c), .arr a_m [.int .i64, .int .i64, .int .i64, .int .i64] (cpC 4 a_m a_d)])) (none)) (none) from by kernel_rfl).trans ?_
  rw [hp.1, hp.2]
  rfl
theorem m6 : Meets Try.prog GL0 6 s6 := by
  refine meetsN mix0 gl0 G27 Try.func6 (by kernel_rfl) (by kernel_rfl) s6 fun args x h => ?_
  unfold s6 at h
  split at h
  · rename_i a_k a_a a_b a_n a_c a_m a_d
    simp only [Option.some.injEq, Prod.mk.injEq] at h
    obtain ⟨hp, rfl⟩ := h
    exact ⟨_, _, by kernel_rfl, e6 a_k a_a a_b a_n a_c a_m a_d hp⟩
  · cases h
abbrev Γ28 : List (Nat × Ctr) := (6, s6) :: Γ27
theorem G28 : Sound Try.prog GL0 Γ28 := G27.cons m6

-- laws.eqCertificate
def s8 : Ctr := fun
  | [.agg [.val (.int .i64 a_k), .val (.int .i64 a_a), .val (.int .i64 a_b), .arr a_n [.int .i64] a_c, .arr a_m [.int .i64, .int .i64, .int .i64, .int .i64] a_d], .agg [.val (.int .i64 b_k), .val (.int .i64 b_a), .val (.int .i64 b_b), .arr b_n [.int .i64] b_c, .arr b_m [.int .i64, .int .i64, .int .i64, .int .i64] b_d]] => some (Nat.ble a_n 1048576 && Nat.ble a_m 1048576, bv (a_k == b_k && (a_a == b_a && (a_b == b_b && (eqC 1 a_n a_c b_n b_c && (eqC 4 a_m a_d b_m b_d && true))))))
  | _ => none

theorem e8 (a_k : Int) (a_a : Int) (a_b : Int) (a_n : Nat) (a_c : Nat → Nat → Int) (a_m : Nat) (a_d : Nat → Nat → Int) (b_k : Int) (b_a : Int) (b_b : Int) (b_n : Nat) (b_c : Nat → Nat → Int) (b_m : Nat) (b_d : Nat → Nat → Int) (hp : (Nat.ble a_n 1048576 && Nat.ble a_m 1048576) = true) : evN Try.prog GL0 Γ28 (0) []  Try.f8 [.agg [.val (.int .i64 a_k), .val (.int .i64 a_a), .val (.int .i64 a_b), .arr a_n [.int .i64] a_c, .arr a_m [.int .i64, .int .i64, .int .i64, .int .i64] a_d], .agg [.val (.int .i64 b_k), .val (.int .i64 b_a), .val (.int .i64 b_b), .arr b_n [.int .i64] b_c, .arr b_m [.int .i64, .int .i64, .int .i64, .int .i64] b_d]] = some (bv (a_k == b_k && (a_a == b_a && (a_b == b_b && (eqC 1 a_n a_c b_n b_c && (eqC 4 a_m a_d b_m b_d && true)))))) := by
  simp only [Bool.and_eq_true] at hp
  refine (show _ = cond (!(a_k == b_k)) (some (bv false)) (cond (!(a_a == b_a)) (some (bv false)) (cond (!(a_b == b_b)) (some (bv false)) (cond (Nat.ble a_n 1048576) (cond (!(eqC 1 a_n a_c b_n b_c)) (some (bv false)) (cond (Nat.ble a_m 1048576) (cond (!(eqC 4 a_m a_d b_m b_d)) (some (bv false)) (some (bv true))) (none))) (none)))) from by kernel_rfl).trans ?_
  rw [hp.1, hp.2]
  cases a_k == b_k <;> cases a_a == b_a <;> cases a_b == b_b <;> cases eqC 1 a_n a_c b_n b_c <;> cases eqC 4 a_m a_d b_m b_d <;> rfl
theorem m8 : Meets Try.prog GL0 8 s8 := by
  refine meetsN mix0 gl0 G28 Try.func8 (by kernel_rfl) (by kernel_rfl) s8 fun args x h => ?_
  unfold s8 at h
  split at h
  · rename_i a_k a_a a_b a_n a_c a_m a_d b_k b_a b_b b_n b_c b_m b_d
    simp only [Option.some.injEq, Prod.mk.injEq] at h
    obtain ⟨hp, rfl⟩ := h
    exact ⟨_, _, by kernel_rfl, e8 a_k a_a a_b a_n a_c a_m a_d b_k b_a b_b b_n b_c b_m b_d hp⟩
  · cases h
abbrev Γ29 : List (Nat × Ctr) := (8, s8) :: Γ28
theorem G29 : Sound Try.prog GL0 Γ29 := G28.cons m8

-- laws.FnExactClaimOf
def s3 : Ctr := fun
  | [.agg [.val (.int .i64 a_k), .val (.int .i64 a_a), .val (.int .i64 a_b), .arr a_n [.int .i64] a_c, .arr a_m [.int .i64, .int .i64, .int .i64, .int .i64] a_d]] => some (Nat.ble a_n 9223372036854775807 && (Nat.ble a_m 9223372036854775807 && allF (fun i => inB (a_c i 0) (-9223372036854775808) 9223372036854775807) 0 a_n), bv true)
  | _ => none

theorem e3 (a_k : Int) (a_a : Int) (a_b : Int) (a_n : Nat) (a_c : Nat → Nat → Int) (a_m : Nat) (a_d : Nat → Nat → Int) (hp : (Nat.ble a_n 9223372036854775807 && (Nat.ble a_m 9223372036854775807 && allF (fun i => inB (a_c i 0) (-9223372036854775808) 9223372036854775807) 0 a_n)) = true) : evN Try.prog GL0 Γ29 (0) []  Try.f3 [.agg [.val (.int .i64 a_k), .val (.int .i64 a_a), .val (.int .i64 a_b), .arr a_n [.int .i64] a_c, .arr a_m [.int .i64, .int .i64, .int .i64, .int .i64] a_d]] = some (bv true) := by
  simp only [Bool.and_eq_true] at hp
  obtain ⟨h1, h2, h3⟩ := hp
  have h1 := Nat.le_of_ble_eq_true h1
  have h2 := Nat.le_of_ble_eq_true h2
  refine (show _ = cond (decide (szT a_n a_m 1048576 < 0)) (some (bv true)) (cond ((Nat.ble a_n 1048576 && Nat.ble a_m 1048576)) (cond (Nat.ble a_m 1048576) (cond ((Nat.ble a_n 1048576 && Nat.ble a_m 1048576)) (cond (Nat.ble a_m 1048576) (cond (!(clV (ordVI a_n (cpC 1 a_n a_c)) a_k a_a a_b a_n a_m (cpC 4 a_m a_d) == clV (ordVS a_n (cpC 1 a_n a_c)) a_k a_a a_b a_n a_m (cpC 4 a_m a_d))) (some (bv false)) (cond ((Nat.ble a_n 1048576 && Nat.ble a_m 1048576)) (cond ((Nat.ble a_n 1048576 && Nat.ble a_m 1048576)) (cond (!(a_k == a_k && (a_a == a_a && (a_b == a_b && (eqC 1 a_n (cpC 1 a_n a_c) a_n (cpC 1 a_n a_c) && (eqC 4 a_m (cpC 4 a_m a_d) a_m (cpC 4 a_m a_d) && true)))))) (some (bv false)) (some (bv true))) (none)) (none))) (none)) (none)) (none)) (none)) from by kernel_rfl).trans ?_
  by_cases hs : szT a_n a_m 1048576 < 0
  · rw [show decide (szT a_n a_m 1048576 < 0) = true from decide_eq_true hs]; rfl
  · obtain ⟨k1, k2⟩ := szT_ok h1 h2 (by omega)
    have q1 : Nat.ble a_n 1048576 = true := Nat.ble_eq_true_of_le k1
    have q2 : Nat.ble a_m 1048576 = true := Nat.ble_eq_true_of_le k2
    rw [show decide (szT a_n a_m 1048576 < 0) = false from decide_eq_false hs, q1, q2, ordV_eq a_n _ (cp1_rng h3)]
    simp only [cond_true, cond_false, Bool.and_self, beq_self_eq_true, eqC_self, Bool.not_true, Bool.true_and]
theorem m3 : Meets Try.prog GL0 3 s3 := by
  refine meetsN mix0 gl0 G29 Try.func3 (by kernel_rfl) (by kernel_rfl) s3 fun args x h => ?_
  unfold s3 at h
  split at h
  · rename_i a_k a_a a_b a_n a_c a_m a_d
    simp only [Option.some.injEq, Prod.mk.injEq] at h
    obtain ⟨hp, rfl⟩ := h
    exact ⟨_, _, by kernel_rfl, e3 a_k a_a a_b a_n a_c a_m a_d hp⟩
  · cases h
abbrev Γ30 : List (Nat × Ctr) := (3, s3) :: Γ29
theorem G30 : Sound Try.prog GL0 Γ30 := G29.cons m3

end Go.Proofs.Ytooikeeckoflpaa
