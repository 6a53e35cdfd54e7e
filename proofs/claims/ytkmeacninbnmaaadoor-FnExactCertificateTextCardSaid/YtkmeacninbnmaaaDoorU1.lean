/- Contracts of the program's functions, by the evaluator. -/
import Derived.Test.YtkmeacninbnmaaaDoorT9
import Derived.Test.YtkmeacninbnmaaaDoorPlS
namespace Go.Proofs.YtkmeacninbnmaaaDoor
open Go.Ev
set_option linter.unusedVariables false
set_option linter.unusedSimpArgs false
set_option maxRecDepth 100000

-- laws.toRefNode
def s51 : Ctr := fun
  | [.agg [.val (.int .i64 a_c0), .val (.int .i64 a_c1), .val (.int .i64 a_c2), .val (.int .i64 a_c3)]] => some (true, .agg [.val (.int .i64 a_c0), .val (.int .i64 a_c1), .val (.int .i64 a_c2), .val (.int .i64 a_c3)])
  | _ => none

theorem e51 (a_c0 : Int) (a_c1 : Int) (a_c2 : Int) (a_c3 : Int) : evN Tryd.prog GLv Γ36 (0) []  Tryd.f51 [.agg [.val (.int .i64 a_c0), .val (.int .i64 a_c1), .val (.int .i64 a_c2), .val (.int .i64 a_c3)]] = some (.agg [.val (.int .i64 a_c0), .val (.int .i64 a_c1), .val (.int .i64 a_c2), .val (.int .i64 a_c3)]) := by
  kernel_rfl
theorem m51 : Meets Tryd.prog GLv 51 s51 := by
  refine meetsN mix0 glv G36 Tryd.func51 (by kernel_rfl) (by kernel_rfl) s51 fun args x h => ?_
  unfold s51 at h
  split at h
  · rename_i a_c0 a_c1 a_c2 a_c3
    simp only [Option.some.injEq, Prod.mk.injEq] at h
    obtain ⟨hp, rfl⟩ := h
    exact ⟨_, _, by kernel_rfl, e51 a_c0 a_c1 a_c2 a_c3⟩
  · cases h
abbrev Γ37 : List (Nat × Ctr) := (51, s51) :: Γ36
theorem G37 : Sound Tryd.prog GLv Γ37 := G36.cons m51

-- laws.eqRefNode
def s63 : Ctr := fun
  | [.agg [.val (.int .i64 a_c0), .val (.int .i64 a_c1), .val (.int .i64 a_c2), .val (.int .i64 a_c3)], .agg [.val (.int .i64 b_c0), .val (.int .i64 b_c1), .val (.int .i64 b_c2), .val (.int .i64 b_c3)]] => some (true, bv (a_c0 == b_c0 && (a_c1 == b_c1 && (a_c2 == b_c2 && (a_c3 == b_c3 && true)))))
  | _ => none

theorem e63 (a_c0 : Int) (a_c1 : Int) (a_c2 : Int) (a_c3 : Int) (b_c0 : Int) (b_c1 : Int) (b_c2 : Int) (b_c3 : Int) : evN Tryd.prog GLv Γ37 (0) []  Tryd.f63 [.agg [.val (.int .i64 a_c0), .val (.int .i64 a_c1), .val (.int .i64 a_c2), .val (.int .i64 a_c3)], .agg [.val (.int .i64 b_c0), .val (.int .i64 b_c1), .val (.int .i64 b_c2), .val (.int .i64 b_c3)]] = some (bv (a_c0 == b_c0 && (a_c1 == b_c1 && (a_c2 == b_c2 && (a_c3 == b_c3 && true))))) := by
  refine (show _ = cond (!(a_c0 == b_c0)) (some (bv false)) (cond (!(a_c1 == b_c1)) (some (bv false)) (cond (!(a_c2 == b_c2)) (some (bv false)) (cond (!(a_c3 == b_c3)) (some (bv false)) (some (bv true))))) from by kernel_rfl).trans ?_
  cases a_c0 == b_c0 <;> try rfl
  cases a_c1 == b_c1 <;> try rfl
  cases a_c2 == b_c2 <;> try rfl
  cases a_c3 == b_c3 <;> try rfl
theorem m63 : Meets Tryd.prog GLv 63 s63 := by
  refine meetsN mix0 glv G37 Tryd.func63 (by kernel_rfl) (by kernel_rfl) s63 fun args x h => ?_
  unfold s63 at h
  split at h
  · rename_i a_c0 a_c1 a_c2 a_c3 b_c0 b_c1 b_c2 b_c3
    simp only [Option.some.injEq, Prod.mk.injEq] at h
    obtain ⟨hp, rfl⟩ := h
    exact ⟨_, _, by kernel_rfl, e63 a_c0 a_c1 a_c2 a_c3 b_c0 b_c1 b_c2 b_c3⟩
  · cases h
abbrev Γ38 : List (Nat × Ctr) := (63, s63) :: Γ37
theorem G38 : Sound Tryd.prog GLv Γ38 := G37.cons m63

-- laws.szInt64S
def s17 : Ctr := fun
  | [.arr a_n [.int .i64] a_c, .val (.int .i64 l)] => some (true, iv (szF a_n l))
  | _ => none

theorem e17 (a_n : Nat) (a_c : Nat → Nat → Int) (l : Int) : evN Tryd.prog GLv Γ38 (0) []  Tryd.f17 [.arr a_n [.int .i64] a_c, .val (.int .i64 l)] = some (iv (szF a_n l)) := by
  refine (show _ = cond (decide (wr (l - (a_n : Int)) < 0)) (some (iv (-1))) (some (iv (wr (l - (a_n : Int))))) from by kernel_rfl).trans ?_
  unfold szF
  cases decide (wr (l - (a_n : Int)) < 0) <;> rfl
theorem m17 : Meets Tryd.prog GLv 17 s17 := by
  refine meetsN mix0 glv G38 Tryd.func17 (by kernel_rfl) (by kernel_rfl) s17 fun args x h => ?_
  unfold s17 at h
  split at h
  · rename_i a_n a_c l
    simp only [Option.some.injEq, Prod.mk.injEq] at h
    obtain ⟨hp, rfl⟩ := h
    exact ⟨_, _, by kernel_rfl, e17 a_n a_c l⟩
  · cases h
abbrev Γ39 : List (Nat × Ctr) := (17, s17) :: Γ38
theorem G39 : Sound Tryd.prog GLv Γ39 := G38.cons m17

-- laws.szRefNodeS
def s18 : Ctr := fun
  | [.arr a_n [.int .i64, .int .i64, .int .i64, .int .i64] a_c, .val (.int .i64 l)] => some (true, iv (szF a_n l))
  | _ => none

theorem e18 (a_n : Nat) (a_c : Nat → Nat → Int) (l : Int) : evN Tryd.prog GLv Γ39 (0) []  Tryd.f18 [.arr a_n [.int .i64, .int .i64, .int .i64, .int .i64] a_c, .val (.int .i64 l)] = some (iv (szF a_n l)) := by
  refine (show _ = cond (decide (wr (l - (a_n : Int)) < 0)) (some (iv (-1))) (some (iv (wr (l - (a_n : Int))))) from by kernel_rfl).trans ?_
  unfold szF
  cases decide (wr (l - (a_n : Int)) < 0) <;> rfl
theorem m18 : Meets Tryd.prog GLv 18 s18 := by
  refine meetsN mix0 glv G39 Tryd.func18 (by kernel_rfl) (by kernel_rfl) s18 fun args x h => ?_
  unfold s18 at h
  split at h
  · rename_i a_n a_c l
    simp only [Option.some.injEq, Prod.mk.injEq] at h
    obtain ⟨hp, rfl⟩ := h
    exact ⟨_, _, by kernel_rfl, e18 a_n a_c l⟩
  · cases h
abbrev Γ40 : List (Nat × Ctr) := (18, s18) :: Γ39
theorem G40 : Sound Tryd.prog GLv Γ40 := G39.cons m18

-- laws.toInt64S
def s21 : Ctr := fun
  | [.arr a_n [.int .i64] a_c] => some (Nat.ble a_n 1048576, .row true 2 a_n [.int .i64] (cpC 1 a_n a_c))
  | _ => none

theorem r21_step (K n a_n : Nat) (a_c d : Nat → Nat → Int) (i : Nat) : runW Tryd.prog GLv Γ40 K ⟨[true, false, false, true, true], [], [(7, [0])], 1, []⟩ [.arr a_n [.int .i64] a_c] Tryd.f21 0 (n + 1) (st2 Tryd.f21.ntmps [.arr a_n [.int .i64] a_c, .non, .non, .sl Tryd.f21.ntmps a_n, iv ((i : Int))] [.row true 2 a_n [.int .i64] (d)]) = cond (decide ((i : Int) < (a_n : Int))) (cond (decide (0 ≤ (i : Int)) && decide ((i : Int) < (a_n : Int))) (cond (decide (0 ≤ (i : Int)) && decide ((i : Int) < (a_n : Int))) (runW Tryd.prog GLv Γ40 K ⟨[true, false, false, true, true], [], [(7, [0])], 1, []⟩ [.arr a_n [.int .i64] a_c] Tryd.f21 0 n (st2 Tryd.f21.ntmps [.arr a_n [.int .i64] a_c, .non, .non, .sl Tryd.f21.ntmps a_n, iv (wr ((i : Int) + 1))] [.row true 2 a_n [.int .i64] (rowSet d i 0 (rowL 1 a_c i))])) none) none) (some (.row true 2 a_n [.int .i64] (d))) := by kernel_rfl
theorem r21_run (K a_n : Nat) (a_c : Nat → Nat → Int) (hn : a_n ≤ 1048576) : ∀ (m i : Nat) (d : Nat → Nat → Int) (n : Nat), i + m = a_n → m < n → runW Tryd.prog GLv Γ40 K ⟨[true, false, false, true, true], [], [(7, [0])], 1, []⟩ [.arr a_n [.int .i64] a_c] Tryd.f21 0 n (st2 Tryd.f21.ntmps [.arr a_n [.int .i64] a_c, .non, .non, .sl Tryd.f21.ntmps a_n, iv ((i : Int))] [.row true 2 a_n [.int .i64] (d)]) = some (.row true 2 a_n [.int .i64] (setsF (rowL 1 a_c) i m d)) := by
  intro m
  induction m with
  | zero =>
    intro i d n h1 h2
    obtain ⟨n, rfl⟩ : ∃ n', n = n' + 1 := ⟨n - 1, by omega⟩
    rw [r21_step, nat_lt, show decide (i < a_n) = false by simp; omega]
    rfl
  | succ m ih =>
    intro i d n h1 h2
    obtain ⟨n, rfl⟩ : ∃ n', n = n' + 1 := ⟨n - 1, by omega⟩
    rw [r21_step, nat_nn, nat_lt, show decide (i < a_n) = true by simp; omega]
    simp only [Bool.and_self, cond_true]
    rw [wr_succ (by omega), ih (i + 1) _ n (by omega) (by omega)]
    rfl

theorem e21 (a_n : Nat) (a_c : Nat → Nat → Int) (hp : (Nat.ble a_n 1048576) = true) : evW Tryd.prog GLv Γ40 (a_n + 2) (⟨[true, false, false, true, true], [], [(7, [0])], 1, []⟩)  Tryd.f21 [.arr a_n [.int .i64] a_c] = some (.row true 2 a_n [.int .i64] (cpC 1 a_n a_c)) := by
  have hn := Nat.le_of_ble_eq_true hp
  refine (show _ = cond (decide (0 ≤ (a_n : Int)) && (decide ((a_n : Int) ≤ (a_n : Int)) && decide ((a_n : Int) * 8 ≤ 140737488355328))) (runW Tryd.prog GLv Γ40 (a_n + 2) ⟨[true, false, false, true, true], [], [(7, [0])], 1, []⟩ [.arr a_n [.int .i64] a_c] Tryd.f21 0 (a_n + 2) (st2 Tryd.f21.ntmps [.arr a_n [.int .i64] a_c, .non, .non, .sl Tryd.f21.ntmps a_n, iv (((0 : Nat) : Int))] [.row true 2 a_n [.int .i64] (zeroC)])) none from by kernel_rfl).trans ?_
  rw [nat_nn, show decide ((a_n : Int) ≤ (a_n : Int)) = true by simp, show decide ((a_n : Int) * 8 ≤ 140737488355328) = true by simp; omega]
  exact r21_run _ a_n a_c hn a_n 0 _ _ (by omega) (by omega)
theorem m21 : Meets Tryd.prog GLv 21 s21 := by
  refine meetsW mix0 G40 Tryd.func21 (by kernel_rfl) (by kernel_rfl) s21 fun args x h => ?_
  unfold s21 at h
  split at h
  · rename_i a_n a_c
    simp only [Option.some.injEq, Prod.mk.injEq] at h
    obtain ⟨hp, rfl⟩ := h
    exact ⟨_, _, by kernel_rfl, e21 a_n a_c hp⟩
  · cases h
abbrev Γ41 : List (Nat × Ctr) := (21, s21) :: Γ40
theorem G41 : Sound Tryd.prog GLv Γ41 := G40.cons m21

-- laws.toRefNodeS
def s22 : Ctr := fun
  | [.arr a_n [.int .i64, .int .i64, .int .i64, .int .i64] a_c] => some (Nat.ble a_n 1048576, .row true 74 a_n [.int .i64, .int .i64, .int .i64, .int .i64] (cpC 4 a_n a_c))
  | _ => none

theorem r22_step (K n a_n : Nat) (a_c d : Nat → Nat → Int) (i : Nat) : runW Tryd.prog GLv Γ41 K ⟨[true, false, false, true, true], [], [(7, [0])], 1, []⟩ [.arr a_n [.int .i64, .int .i64, .int .i64, .int .i64] a_c] Tryd.f22 0 (n + 1) (st2 Tryd.f22.ntmps [.arr a_n [.int .i64, .int .i64, .int .i64, .int .i64] a_c, .non, .non, .sl Tryd.f22.ntmps a_n, iv ((i : Int))] [.row true 74 a_n [.int .i64, .int .i64, .int .i64, .int .i64] (d)]) = cond (decide ((i : Int) < (a_n : Int))) (cond (decide (0 ≤ (i : Int)) && decide ((i : Int) < (a_n : Int))) (cond (decide (0 ≤ (i : Int)) && decide ((i : Int) < (a_n : Int))) (runW Tryd.prog GLv Γ41 K ⟨[true, false, false, true, true], [], [(7, [0])], 1, []⟩ [.arr a_n [.int .i64, .int .i64, .int .i64, .int .i64] a_c] Tryd.f22 0 n (st2 Tryd.f22.ntmps [.arr a_n [.int .i64, .int .i64, .int .i64, .int .i64] a_c, .non, .non, .sl Tryd.f22.ntmps a_n, iv (wr ((i : Int) + 1))] [.row true 74 a_n [.int .i64, .int .i64, .int .i64, .int .i64] (rowSet d i 0 (rowL 4 a_c i))])) none) none) (some (.row true 74 a_n [.int .i64, .int .i64, .int .i64, .int .i64] (d))) := by kernel_rfl
theorem r22_run (K a_n : Nat) (a_c : Nat → Nat → Int) (hn : a_n ≤ 1048576) : ∀ (m i : Nat) (d : Nat → Nat → Int) (n : Nat), i + m = a_n → m < n → runW Tryd.prog GLv Γ41 K ⟨[true, false, false, true, true], [], [(7, [0])], 1, []⟩ [.arr a_n [.int .i64, .int .i64, .int .i64, .int .i64] a_c] Tryd.f22 0 n (st2 Tryd.f22.ntmps [.arr a_n [.int .i64, .int .i64, .int .i64, .int .i64] a_c, .non, .non, .sl Tryd.f22.ntmps a_n, iv ((i : Int))] [.row true 74 a_n [.int .i64, .int .i64, .int .i64, .int .i64] (d)]) = some (.row true 74 a_n [.int .i64, .int .i64, .int .i64, .int .i64] (setsF (rowL 4 a_c) i m d)) := by
  intro m
  induction m with
  | zero =>
    intro i d n h1 h2
    obtain ⟨n, rfl⟩ : ∃ n', n = n' + 1 := ⟨n - 1, by omega⟩
    rw [r22_step, nat_lt, show decide (i < a_n) = false by simp; omega]
    rfl
  | succ m ih =>
    intro i d n h1 h2
    obtain ⟨n, rfl⟩ : ∃ n', n = n' + 1 := ⟨n - 1, by omega⟩
    rw [r22_step, nat_nn, nat_lt, show decide (i < a_n) = true by simp; omega]
    simp only [Bool.and_self, cond_true]
    rw [wr_succ (by omega), ih (i + 1) _ n (by omega) (by omega)]
    rfl

theorem e22 (a_n : Nat) (a_c : Nat → Nat → Int) (hp : (Nat.ble a_n 1048576) = true) : evW Tryd.prog GLv Γ41 (a_n + 2) (⟨[true, false, false, true, true], [], [(7, [0])], 1, []⟩)  Tryd.f22 [.arr a_n [.int .i64, .int .i64, .int .i64, .int .i64] a_c] = some (.row true 74 a_n [.int .i64, .int .i64, .int .i64, .int .i64] (cpC 4 a_n a_c)) := by
  have hn := Nat.le_of_ble_eq_true hp
  refine (show _ = cond (decide (0 ≤ (a_n : Int)) && (decide ((a_n : Int) ≤ (a_n : Int)) && decide ((a_n : Int) * 32 ≤ 140737488355328))) (runW Tryd.prog GLv Γ41 (a_n + 2) ⟨[true, false, false, true, true], [], [(7, [0])], 1, []⟩ [.arr a_n [.int .i64, .int .i64, .int .i64, .int .i64] a_c] Tryd.f22 0 (a_n + 2) (st2 Tryd.f22.ntmps [.arr a_n [.int .i64, .int .i64, .int .i64, .int .i64] a_c, .non, .non, .sl Tryd.f22.ntmps a_n, iv (((0 : Nat) : Int))] [.row true 74 a_n [.int .i64, .int .i64, .int .i64, .int .i64] (zeroC)])) none from by kernel_rfl).trans ?_
  rw [nat_nn, show decide ((a_n : Int) ≤ (a_n : Int)) = true by simp, show decide ((a_n : Int) * 32 ≤ 140737488355328) = true by simp; omega]
  exact r22_run _ a_n a_c hn a_n 0 _ _ (by omega) (by omega)
theorem m22 : Meets Tryd.prog GLv 22 s22 := by
  refine meetsW mix0 G41 Tryd.func22 (by kernel_rfl) (by kernel_rfl) s22 fun args x h => ?_
  unfold s22 at h
  split at h
  · rename_i a_n a_c
    simp only [Option.some.injEq, Prod.mk.injEq] at h
    obtain ⟨hp, rfl⟩ := h
    exact ⟨_, _, by kernel_rfl, e22 a_n a_c hp⟩
  · cases h
abbrev Γ42 : List (Nat × Ctr) := (22, s22) :: Γ41
theorem G42 : Sound Tryd.prog GLv Γ42 := G41.cons m22

-- laws.eqInt64S
def s25 : Ctr := fun
  | [.arr a_n [.int .i64] a_c, .arr b_n [.int .i64] b_c] => some (Nat.ble a_n 1048576, bv (eqC 1 a_n a_c b_n b_c))
  | _ => none

theorem r25_step (K n a_n b_n : Nat) (a_c b_c : Nat → Nat → Int) (i : Nat) : runW Tryd.prog GLv Γ42 K (cfgK [true, true, false, false, false, true]) [.arr a_n [.int .i64] a_c, .arr b_n [.int .i64] b_c] Tryd.f25 0 (n + 1) (stL Tryd.f25.ntmps [.arr a_n [.int .i64] a_c, .arr b_n [.int .i64] b_c, .non, .non, .non, iv ((i : Int))]) = cond (decide ((i : Int) < (a_n : Int))) (cond (decide (0 ≤ (i : Int)) && decide ((i : Int) < (a_n : Int))) (cond (decide (0 ≤ (i : Int)) && decide ((i : Int) < (b_n : Int))) (cond (!(a_c i 0 == b_c i 0)) (some (bv false)) (runW Tryd.prog GLv Γ42 K (cfgK [true, true, false, false, false, true]) [.arr a_n [.int .i64] a_c, .arr b_n [.int .i64] b_c] Tryd.f25 0 n (stL Tryd.f25.ntmps [.arr a_n [.int .i64] a_c, .arr b_n [.int .i64] b_c, .non, .non, .non, iv (wr ((i : Int) + 1))]))) none) none) (some (bv true)) := by kernel_rfl
theorem r25_run (K a_n b_n : Nat) (a_c b_c : Nat → Nat → Int) (hn : a_n ≤ 1048576) (he : a_n = b_n) : ∀ (m i : Nat) (n : Nat), i + m = a_n → m < n → runW Tryd.prog GLv Γ42 K (cfgK [true, true, false, false, false, true]) [.arr a_n [.int .i64] a_c, .arr b_n [.int .i64] b_c] Tryd.f25 0 n (stL Tryd.f25.ntmps [.arr a_n [.int .i64] a_c, .arr b_n [.int .i64] b_c, .non, .non, .non, iv ((i : Int))]) = some (bv (allF (eqR 1 a_c b_c) i m)) := by
  intro m
  induction m with
  | zero =>
    intro i n h1 h2
    obtain ⟨n, rfl⟩ : ∃ n', n = n' + 1 := ⟨n - 1, by omega⟩
    rw [r25_step, nat_lt i a_n, show decide (i < a_n) = false by simp; omega]
    rfl
  | succ m ih =>
    intro i n h1 h2
    obtain ⟨n, rfl⟩ : ∃ n', n = n' + 1 := ⟨n - 1, by omega⟩
    rw [r25_step, nat_nn, nat_lt i a_n, nat_lt i b_n, show decide (i < a_n) = true by simp; omega, show decide (i < b_n) = true by simp; omega]
    simp only [Bool.and_self, cond_true]
    rw [show (a_c i 0 == b_c i 0) = eqR 1 a_c b_c i by simp [eqR, allF]]
    rw [wr_succ (by omega), ih (i + 1) n (by omega) (by omega)]
    simp only [allF]
    cases (eqR 1 a_c b_c i) <;> rfl

theorem e25 (a_n : Nat) (a_c : Nat → Nat → Int) (b_n : Nat) (b_c : Nat → Nat → Int) (hp : (Nat.ble a_n 1048576) = true) : evN Tryd.prog GLv Γ42 (a_n + 2) [true, true, false, false, false, true]  Tryd.f25 [.arr a_n [.int .i64] a_c, .arr b_n [.int .i64] b_c] = some (bv (eqC 1 a_n a_c b_n b_c)) := by
  have hn := Nat.le_of_ble_eq_true hp
  refine (show _ = cond (!((a_n : Int) == (b_n : Int))) (some (bv false)) (runW Tryd.prog GLv Γ42 (a_n + 2) (cfgK [true, true, false, false, false, true]) [.arr a_n [.int .i64] a_c, .arr b_n [.int .i64] b_c] Tryd.f25 0 (a_n + 2) (stL Tryd.f25.ntmps [.arr a_n [.int .i64] a_c, .arr b_n [.int .i64] b_c, .non, .non, .non, iv (((0 : Nat) : Int))])) from by kernel_rfl).trans ?_
  unfold eqC
  rw [nat_beq]
  cases h : decide (a_n = b_n) with
  | false => rfl
  | true => exact r25_run _ a_n b_n a_c b_c hn (of_decide_eq_true h) a_n 0 _ (by omega) (by omega)
theorem m25 : Meets Tryd.prog GLv 25 s25 := by
  refine meetsN mix0 glv G42 Tryd.func25 (by kernel_rfl) (by kernel_rfl) s25 fun args x h => ?_
  unfold s25 at h
  split at h
  · rename_i a_n a_c b_n b_c
    simp only [Option.some.injEq, Prod.mk.injEq] at h
    obtain ⟨hp, rfl⟩ := h
    exact ⟨_, _, by kernel_rfl, e25 a_n a_c b_n b_c hp⟩
  · cases h
abbrev Γ43 : List (Nat × Ctr) := (25, s25) :: Γ42
theorem G43 : Sound Tryd.prog GLv Γ43 := G42.cons m25

-- laws.eqRefNodeS
def s26 : Ctr := fun
  | [.arr a_n [.int .i64, .int .i64, .int .i64, .int .i64] a_c, .arr b_n [.int .i64, .int .i64, .int .i64, .int .i64] b_c] => some (Nat.ble a_n 1048576, bv (eqC 4 a_n a_c b_n b_c))
  | _ => none

theorem r26_step (K n a_n b_n : Nat) (a_c b_c : Nat → Nat → Int) (i : Nat) : runW Tryd.prog GLv Γ43 K (cfgK [true, true, false, false, false, true]) [.arr a_n [.int .i64, .int .i64, .int .i64, .int .i64] a_c, .arr b_n [.int .i64, .int .i64, .int .i64, .int .i64] b_c] Tryd.f26 0 (n + 1) (stL Tryd.f26.ntmps [.arr a_n [.int .i64, .int .i64, .int .i64, .int .i64] a_c, .arr b_n [.int .i64, .int .i64, .int .i64, .int .i64] b_c, .non, .non, .non, iv ((i : Int))]) = cond (decide ((i : Int) < (a_n : Int))) (cond (decide (0 ≤ (i : Int)) && decide ((i : Int) < (a_n : Int))) (cond (decide (0 ≤ (i : Int)) && decide ((i : Int) < (b_n : Int))) (cond (!(eqR 4 a_c b_c i)) (some (bv false)) (runW Tryd.prog GLv Γ43 K (cfgK [true, true, false, false, false, true]) [.arr a_n [.int .i64, .int .i64, .int .i64, .int .i64] a_c, .arr b_n [.int .i64, .int .i64, .int .i64, .int .i64] b_c] Tryd.f26 0 n (stL Tryd.f26.ntmps [.arr a_n [.int .i64, .int .i64, .int .i64, .int .i64] a_c, .arr b_n [.int .i64, .int .i64, .int .i64, .int .i64] b_c, .non, .non, .non, iv (wr ((i : Int) + 1))]))) none) none) (some (bv true)) := by kernel_rfl
theorem r26_run (K a_n b_n : Nat) (a_c b_c : Nat → Nat → Int) (hn : a_n ≤ 1048576) (he : a_n = b_n) : ∀ (m i : Nat) (n : Nat), i + m = a_n → m < n → runW Tryd.prog GLv Γ43 K (cfgK [true, true, false, false, false, true]) [.arr a_n [.int .i64, .int .i64, .int .i64, .int .i64] a_c, .arr b_n [.int .i64, .int .i64, .int .i64, .int .i64] b_c] Tryd.f26 0 n (stL Tryd.f26.ntmps [.arr a_n [.int .i64, .int .i64, .int .i64, .int .i64] a_c, .arr b_n [.int .i64, .int .i64, .int .i64, .int .i64] b_c, .non, .non, .non, iv ((i : Int))]) = some (bv (allF (eqR 4 a_c b_c) i m)) := by
  intro m
  induction m with
  | zero =>
    intro i n h1 h2
    obtain ⟨n, rfl⟩ : ∃ n', n = n' + 1 := ⟨n - 1, by omega⟩
    rw [r26_step, nat_lt i a_n, show decide (i < a_n) = false by simp; omega]
    rfl
  | succ m ih =>
    intro i n h1 h2
    obtain ⟨n, rfl⟩ : ∃ n', n = n' + 1 := ⟨n - 1, by omega⟩
    rw [r26_step, nat_nn, nat_lt i a_n, nat_lt i b_n, show decide (i < a_n) = true by simp; omega, show decide (i < b_n) = true by simp; omega]
    simp only [Bool.and_self, cond_true]
    rw [wr_succ (by omega), ih (i + 1) n (by omega) (by omega)]
    simp only [allF]
    cases (eqR 4 a_c b_c i) <;> rfl

theorem e26 (a_n : Nat) (a_c : Nat → Nat → Int) (b_n : Nat) (b_c : Nat → Nat → Int) (hp : (Nat.ble a_n 1048576) = true) : evN Tryd.prog GLv Γ43 (a_n + 2) [true, true, false, false, false, true]  Tryd.f26 [.arr a_n [.int .i64, .int .i64, .int .i64, .int .i64] a_c, .arr b_n [.int .i64, .int .i64, .int .i64, .int .i64] b_c] = some (bv (eqC 4 a_n a_c b_n b_c)) := by
  have hn := Nat.le_of_ble_eq_true hp
  refine (show _ = cond (!((a_n : Int) == (b_n : Int))) (some (bv false)) (runW Tryd.prog GLv Γ43 (a_n + 2) (cfgK [true, true, false, false, false, true]) [.arr a_n [.int .i64, .int .i64, .int .i64, .int .i64] a_c, .arr b_n [.int .i64, .int .i64, .int .i64, .int .i64] b_c] Tryd.f26 0 (a_n + 2) (stL Tryd.f26.ntmps [.arr a_n [.int .i64, .int .i64, .int .i64, .int .i64] a_c, .arr b_n [.int .i64, .int .i64, .int .i64, .int .i64] b_c, .non, .non, .non, iv (((0 : Nat) : Int))])) from by kernel_rfl).trans ?_
  unfold eqC
  rw [nat_beq]
  cases h : decide (a_n = b_n) with
  | false => rfl
  | true => exact r26_run _ a_n b_n a_c b_c hn (of_decide_eq_true h) a_n 0 _ (by omega) (by omega)
theorem m26 : Meets Tryd.prog GLv 26 s26 := by
  refine meetsN mix0 glv G43 Tryd.func26 (by kernel_rfl) (by kernel_rfl) s26 fun args x h => ?_
  unfold s26 at h
  split at h
  · rename_i a_n a_c b_n b_c
    simp only [Option.some.injEq, Prod.mk.injEq] at h
    obtain ⟨hp, rfl⟩ := h
    exact ⟨_, _, by kernel_rfl, e26 a_n a_c b_n b_c hp⟩
  · cases h
abbrev Γ44 : List (Nat × Ctr) := (26, s26) :: Γ43
theorem G44 : Sound Tryd.prog GLv Γ44 := G43.cons m26

-- impl.isUnit
def s78 : Ctr := fun
  | [.val (.int .i64 x)] => some (true, bv (x == 1 || x == -1))
  | _ => none

theorem e78 (x : Int) : evN Tryd.prog GLv Γ44 (0) []  Tryd.f78 [.val (.int .i64 x)] = some (bv (x == 1 || x == -1)) := by
  refine (show _ = cond (x == 1) (some (bv true)) (some (bv (x == -1))) from by kernel_rfl).trans ?_
  cases x == 1 <;> rfl
theorem m78 : Meets Tryd.prog GLv 78 s78 := by
  refine meetsN mix0 glv G44 Tryd.func78 (by kernel_rfl) (by kernel_rfl) s78 fun args x h => ?_
  unfold s78 at h
  split at h
  · rename_i x
    simp only [Option.some.injEq, Prod.mk.injEq] at h
    obtain ⟨hp, rfl⟩ := h
    exact ⟨_, _, by kernel_rfl, e78 x⟩
  · cases h
abbrev Γ45 : List (Nat × Ctr) := (78, s78) :: Γ44
theorem G45 : Sound Tryd.prog GLv Γ45 := G44.cons m78

-- impl.length[int64]
def s83 : Ctr := fun
  | [.arr a_n [.int .i64] a_c] => some (true, iv (a_n : Int))
  | _ => none

theorem e83 (a_n : Nat) (a_c : Nat → Nat → Int) : evN Tryd.prog GLv Γ45 (0) []  Tryd.f83 [.arr a_n [.int .i64] a_c] = some (iv (a_n : Int)) := by
  kernel_rfl
theorem m83 : Meets Tryd.prog GLv 83 s83 := by
  refine meetsN mix0 glv G45 Tryd.func83 (by kernel_rfl) (by kernel_rfl) s83 fun args x h => ?_
  unfold s83 at h
  split at h
  · rename_i a_n a_c
    simp only [Option.some.injEq, Prod.mk.injEq] at h
    obtain ⟨hp, rfl⟩ := h
    exact ⟨_, _, by kernel_rfl, e83 a_n a_c⟩
  · cases h
abbrev Γ46 : List (Nat × Ctr) := (83, s83) :: Γ45
theorem G46 : Sound Tryd.prog GLv Γ46 := G45.cons m83

-- impl.length[impl.RefNode]
def s54 : Ctr := fun
  | [.arr a_n [.int .i64, .int .i64, .int .i64, .int .i64] a_c] => some (true, iv (a_n : Int))
  | _ => none

theorem e54 (a_n : Nat) (a_c : Nat → Nat → Int) : evN Tryd.prog GLv Γ46 (0) []  Tryd.f54 [.arr a_n [.int .i64, .int .i64, .int .i64, .int .i64] a_c] = some (iv (a_n : Int)) := by
  kernel_rfl
theorem m54 : Meets Tryd.prog GLv 54 s54 := by
  refine meetsN mix0 glv G46 Tryd.func54 (by kernel_rfl) (by kernel_rfl) s54 fun args x h => ?_
  unfold s54 at h
  split at h
  · rename_i a_n a_c
    simp only [Option.some.injEq, Prod.mk.injEq] at h
    obtain ⟨hp, rfl⟩ := h
    exact ⟨_, _, by kernel_rfl, e54 a_n a_c⟩
  · cases h
abbrev Γ47 : List (Nat × Ctr) := (54, s54) :: Γ46
theorem G47 : Sound Tryd.prog GLv Γ47 := G46.cons m54

-- spec.l19Node
def s45 : Ctr := fun
  | [.agg [.val (.int .i64 v), .val (.int .i64 x), .val (.int .i64 y), .val (.int .i64 z)]] => some (true, bv (nodeB v x y z))
  | _ => none

theorem e45 (v : Int) (x : Int) (y : Int) (z : Int) : evN Tryd.prog GLv Γ47 (0) []  Tryd.f45 [.agg [.val (.int .i64 v), .val (.int .i64 x), .val (.int .i64 y), .val (.int .i64 z)]] = some (bv (nodeB v x y z)) := by
  refine (show _ = cond (v == 1) (cond (inB x 0 199) (cond (y == 0) (some (bv (z == 0))) (some (bv false))) (some (bv false))) (cond (v == 2) (cond (inB x 0 199) (cond (inB z 0 2999) (cond (y == 1) (some (bv true)) (some (bv (y == -1)))) (some (bv false))) (some (bv false))) (cond (v == 3) (cond (inB z 0 2999) (cond (x == 0) (some (bv (y == 0))) (some (bv false))) (some (bv false))) (some (bv false)))) from by kernel_rfl).trans ?_
  unfold nodeB
  cases v == 1 <;> cases v == 2 <;> cases v == 3 <;> cases inB x 0 199 <;> cases inB z 0 2999 <;> cases y == 0 <;> cases z == 0 <;> cases x == 0 <;> cases y == 1 <;> cases y == -1 <;> rfl
theorem m45 : Meets Tryd.prog GLv 45 s45 := by
  refine meetsN mix0 glv G47 Tryd.func45 (by kernel_rfl) (by kernel_rfl) s45 fun args x h => ?_
  unfold s45 at h
  split at h
  · rename_i v x y z
    simp only [Option.some.injEq, Prod.mk.injEq] at h
    obtain ⟨hp, rfl⟩ := h
    exact ⟨_, _, by kernel_rfl, e45 v x y z⟩
  · cases h
abbrev Γ48 : List (Nat × Ctr) := (45, s45) :: Γ47
theorem G48 : Sound Tryd.prog GLv Γ48 := G47.cons m45

-- impl.isProofNode
def s57 : Ctr := fun
  | [.agg [.val (.int .i64 v), .val (.int .i64 x), .val (.int .i64 y), .val (.int .i64 z)]] => some (true, bv (nodeB v x y z))
  | _ => none

theorem e57 (v : Int) (x : Int) (y : Int) (z : Int) : evN Tryd.prog GLv Γ48 (0) []  Tryd.f57 [.agg [.val (.int .i64 v), .val (.int .i64 x), .val (.int .i64 y), .val (.int .i64 z)]] = some (bv (nodeB v x y z)) := by
  refine (show _ = cond (!(inB x 0 199)) (some (bv false)) (cond (!(inB z 0 2999)) (some (bv false)) (cond (v == 1) (cond (y == 0) (some (bv (z == 0))) (some (bv false))) (cond (v == 2) (some (bv (y == 1 || y == -1))) (cond (v == 3) (cond (x == 0) (some (bv (y == 0))) (some (bv false))) (some (bv false)))))) from by kernel_rfl).trans ?_
  exact nodeI_eq v x y z
theorem m57 : Meets Tryd.prog GLv 57 s57 := by
  refine meetsN mix0 glv G48 Tryd.func57 (by kernel_rfl) (by kernel_rfl) s57 fun args x h => ?_
  unfold s57 at h
  split at h
  · rename_i v x y z
    simp only [Option.some.injEq, Prod.mk.injEq] at h
    obtain ⟨hp, rfl⟩ := h
    exact ⟨_, _, by kernel_rfl, e57 v x y z⟩
  · cases h
abbrev Γ49 : List (Nat × Ctr) := (57, s57) :: Γ48
theorem G49 : Sound Tryd.prog GLv Γ49 := G48.cons m57

-- impl.ValidCertificate$1
def s56 : Ctr := fun
  | [.agg [.val (.int .i64 v), .val (.int .i64 x), .val (.int .i64 y), .val (.int .i64 z)]] => some (true, bv (!(nodeB v x y z)))
  | _ => none

theorem e56 (v : Int) (x : Int) (y : Int) (z : Int) : evN Tryd.prog GLv Γ49 (0) []  Tryd.f56 [.agg [.val (.int .i64 v), .val (.int .i64 x), .val (.int .i64 y), .val (.int .i64 z)]] = some (bv (!(nodeB v x y z))) := by
  kernel_rfl
theorem m56 : Meets Tryd.prog GLv 56 s56 := by
  refine meetsN mix0 glv G49 Tryd.func56 (by kernel_rfl) (by kernel_rfl) s56 fun args x h => ?_
  unfold s56 at h
  split at h
  · rename_i v x y z
    simp only [Option.some.injEq, Prod.mk.injEq] at h
    obtain ⟨hp, rfl⟩ := h
    exact ⟨_, _, by kernel_rfl, e56 v x y z⟩
  · cases h
abbrev Γ50 : List (Nat × Ctr) := (56, s56) :: Γ49
theorem G50 : Sound Tryd.prog GLv Γ50 := G49.cons m56

-- spec.l19Size
def s46 : Ctr := fun
  | [.arr a_n [.int .i64] a_c] => some (true, iv (sqF 24 1 (a_n : Int)))
  | _ => none

theorem e46 (a_n : Nat) (a_c : Nat → Nat → Int) : evN Tryd.prog GLv Γ50 (30) [true, false, false, true]  Tryd.f46 [.arr a_n [.int .i64] a_c] = some (iv (sqF 24 1 (a_n : Int))) := by
  refine (show _ = sqO 24 1 (a_n : Int) from by kernel_rfl).trans (sqO_eq _ _ _)
theorem m46 : Meets Tryd.prog GLv 46 s46 := by
  refine meetsN mix0 glv G50 Tryd.func46 (by kernel_rfl) (by kernel_rfl) s46 fun args x h => ?_
  unfold s46 at h
  split at h
  · rename_i a_n a_c
    simp only [Option.some.injEq, Prod.mk.injEq] at h
    obtain ⟨hp, rfl⟩ := h
    exact ⟨_, _, by kernel_rfl, e46 a_n a_c⟩
  · cases h
abbrev Γ51 : List (Nat × Ctr) := (46, s46) :: Γ50
theorem G51 : Sound Tryd.prog GLv Γ51 := G50.cons m46

-- impl.faceCount
def s61 : Ctr := fun
  | [.arr a_n [.int .i64] a_c] => some (true, iv (sqF 24 1 (a_n : Int)))
  | _ => none

theorem e61 (a_n : Nat) (a_c : Nat → Nat → Int) : evN Tryd.prog GLv Γ51 (30) [true, false, false, true]  Tryd.f61 [.arr a_n [.int .i64] a_c] = some (iv (sqF 24 1 (a_n : Int))) := by
  refine (show _ = sqP 24 1 (a_n : Int) from by kernel_rfl).trans (sqP_eq _ _ _)
theorem m61 : Meets Tryd.prog GLv 61 s61 := by
  refine meetsN mix0 glv G51 Tryd.func61 (by kernel_rfl) (by kernel_rfl) s61 fun args x h => ?_
  unfold s61 at h
  split at h
  · rename_i a_n a_c
    simp only [Option.some.injEq, Prod.mk.injEq] at h
    obtain ⟨hp, rfl⟩ := h
    exact ⟨_, _, by kernel_rfl, e61 a_n a_c⟩
  · cases h
abbrev Γ52 : List (Nat × Ctr) := (61, s61) :: Γ51
theorem G52 : Sound Tryd.prog GLv Γ52 := G51.cons m61

-- spec.l19Order
def s43 : Ctr := fun
  | [.arr a_n [.int .i64] a_c] => some (true, bv (ordVS a_n a_c))
  | _ => none

theorem r43_in (K m n a_n nn i k : Nat) (a_c : Nat → Nat → Int) : runV Tryd.prog GLv Γ52 K (cfgK [true, false, false, true, true, true]) [.arr a_n [.int .i64] a_c] Tryd.f43 1 m (n + 1) (stL Tryd.f43.ntmps [.arr a_n [.int .i64] a_c, .non, .non, iv (nn : Int), iv ((i : Int)), iv ((k : Int))]) = cond (decide ((k : Int) ≤ (i : Int))) (cond ((decide (0 ≤ wr (wr ((i : Int) * (nn : Int)) + (k : Int))) && decide (wr (wr ((i : Int) * (nn : Int)) + (k : Int)) < (a_n : Int)))) (cond (!(inB (a_c (wr (wr ((i : Int) * (nn : Int)) + (k : Int))).toNat 0) (-1) 1)) (some (bv false)) (cond ((decide (0 ≤ wr (wr ((i : Int) * (nn : Int)) + (k : Int))) && decide (wr (wr ((i : Int) * (nn : Int)) + (k : Int)) < (a_n : Int)))) (cond ((decide (0 ≤ wr (wr ((k : Int) * (nn : Int)) + (i : Int))) && decide (wr (wr ((k : Int) * (nn : Int)) + (i : Int)) < (a_n : Int)))) (cond (!(a_c (wr (wr ((i : Int) * (nn : Int)) + (k : Int))).toNat 0 == wr (0 - a_c (wr (wr ((k : Int) * (nn : Int)) + (i : Int))).toNat 0))) (some (bv false)) (runV Tryd.prog GLv Γ52 K (cfgK [true, false, false, true, true, true]) [.arr a_n [.int .i64] a_c] Tryd.f43 1 m n (stL Tryd.f43.ntmps [.arr a_n [.int .i64] a_c, .non, .non, iv (nn : Int), iv ((i : Int)), iv (wr ((k : Int) + 1))]))) (none)) (none))) (none)) (runW Tryd.prog GLv Γ52 K (cfgK [true, false, false, true, true, true]) [.arr a_n [.int .i64] a_c] Tryd.f43 0 m (stL Tryd.f43.ntmps [.arr a_n [.int .i64] a_c, .non, .non, iv (nn : Int), iv (wr ((i : Int) + 1)), (iv (k : Int))])) := by kernel_rfl
theorem r43_out (K n a_n nn i : Nat) (a_c : Nat → Nat → Int) (z : Int) : runW Tryd.prog GLv Γ52 K (cfgK [true, false, false, true, true, true]) [.arr a_n [.int .i64] a_c] Tryd.f43 0 (n + 1) (stL Tryd.f43.ntmps [.arr a_n [.int .i64] a_c, .non, .non, iv (nn : Int), iv ((i : Int)), iv z]) = cond (decide ((i : Int) < (nn : Int))) (runV Tryd.prog GLv Γ52 K (cfgK [true, false, false, true, true, true]) [.arr a_n [.int .i64] a_c] Tryd.f43 1 n K (stL Tryd.f43.ntmps [.arr a_n [.int .i64] a_c, .non, .non, iv (nn : Int), iv ((i : Int)), iv (((0 : Nat) : Int))])) (some (bv (decide ((nn : Int) > 0)))) := by kernel_rfl
theorem r43_out0 (K n a_n nn : Nat) (a_c : Nat → Nat → Int) : runW Tryd.prog GLv Γ52 K (cfgK [true, false, false, true, true, true]) [.arr a_n [.int .i64] a_c] Tryd.f43 0 (n + 1) (stL Tryd.f43.ntmps [.arr a_n [.int .i64] a_c, .non, .non, iv (nn : Int), iv (((0 : Nat) : Int)), .non]) = cond (decide (((0 : Nat) : Int) < (nn : Int))) (runV Tryd.prog GLv Γ52 K (cfgK [true, false, false, true, true, true]) [.arr a_n [.int .i64] a_c] Tryd.f43 1 n K (stL Tryd.f43.ntmps [.arr a_n [.int .i64] a_c, .non, .non, iv (nn : Int), iv (((0 : Nat) : Int)), iv (((0 : Nat) : Int))])) (some (bv (decide ((nn : Int) > 0)))) := by kernel_rfl
theorem r43_inn (K m a_n nn i : Nat) (a_c : Nat → Nat → Int) (hi : i < nn) (hnn : nn ≤ 24) (hq : nn * nn = a_n) : ∀ (r k n : Nat), k + r = i + 1 → r < n → runV Tryd.prog GLv Γ52 K (cfgK [true, false, false, true, true, true]) [.arr a_n [.int .i64] a_c] Tryd.f43 1 m n (stL Tryd.f43.ntmps [.arr a_n [.int .i64] a_c, .non, .non, iv (nn : Int), iv ((i : Int)), iv ((k : Int))]) = cond (allF (pS nn a_c i) k r) (runW Tryd.prog GLv Γ52 K (cfgK [true, false, false, true, true, true]) [.arr a_n [.int .i64] a_c] Tryd.f43 0 m (stL Tryd.f43.ntmps [.arr a_n [.int .i64] a_c, .non, .non, iv (nn : Int), iv (((i + 1 : Nat) : Int)), (iv ((i + 1 : Nat) : Int))])) (some (bv false)) := by
  intro r
  induction r with
  | zero =>
    intro k n h1 h2
    obtain ⟨n, rfl⟩ : ∃ n', n = n' + 1 := ⟨n - 1, by omega⟩
    rw [r43_in, show decide ((k : Int) ≤ (i : Int)) = false by simp; omega, wr_succ (i := i) (by omega), show k = i + 1 by omega]
    rfl
  | succ r ih =>
    intro k n h1 h2
    obtain ⟨n, rfl⟩ : ∃ n', n = n' + 1 := ⟨n - 1, by omega⟩
    have l1 : i * nn + k < a_n := hq ▸ idx_lt hi (by omega)
    have l2 : k * nn + i < a_n := hq ▸ idx_lt (by omega) hi
    rw [r43_in, show decide ((k : Int) ≤ (i : Int)) = true by simp; omega, idx_cast (i := i) (k := k) (by omega) (by omega) (by omega), idx_cast (i := k) (k := i) (by omega) (by omega) (by omega)]
    simp only [nat_nn, nat_lt, l1, l2, decide_true, Bool.and_self, cond_true, Int.toNat_natCast]
    rw [wr_succ (i := k) (by omega), ih (k + 1) n (by omega) (by omega)]
    simp only [allF]
    rw [show pS nn a_c i k = (inB (a_c (i * nn + k) 0) (-1) 1 && (a_c (i * nn + k) 0 == wr (0 - a_c (k * nn + i) 0))) from rfl]
    cases inB (a_c (i * nn + k) 0) (-1) 1 <;> cases a_c (i * nn + k) 0 == wr (0 - a_c (k * nn + i) 0) <;> rfl
theorem r43_run (K a_n nn : Nat) (a_c : Nat → Nat → Int) (hnn : nn ≤ 24) (hq : 0 < nn → nn * nn = a_n) (hK : 30 ≤ K) : ∀ (r i n : Nat) (z : Int), i + r = nn → r < n → runW Tryd.prog GLv Γ52 K (cfgK [true, false, false, true, true, true]) [.arr a_n [.int .i64] a_c] Tryd.f43 0 n (stL Tryd.f43.ntmps [.arr a_n [.int .i64] a_c, .non, .non, iv (nn : Int), iv ((i : Int)), iv z]) = some (bv (allF (fun i => allF (pS nn a_c i) 0 (i + 1)) i r && decide ((nn : Int) > 0))) := by
  intro r
  induction r with
  | zero =>
    intro i n z  h1 h2
    obtain ⟨n, rfl⟩ : ∃ n', n = n' + 1 := ⟨n - 1, by omega⟩
    rw [r43_out, nat_lt, show decide (i < nn) = false by simp; omega]
    rfl
  | succ r ih =>
    intro i n z  h1 h2
    obtain ⟨n, rfl⟩ : ∃ n', n = n' + 1 := ⟨n - 1, by omega⟩
    rw [r43_out, nat_lt, show decide (i < nn) = true by simp; omega]
    simp only [cond_true]
    rw [r43_inn K n a_n nn i a_c (by omega) hnn (hq (by omega)) (i + 1) 0 K (by omega) (by omega), ih (i + 1) n _ (by omega) (by omega)]
    rw [show allF (fun i => allF (pS nn a_c i) 0 (i + 1)) i (r + 1) = (allF (pS nn a_c i) 0 (i + 1) && allF (fun i => allF (pS nn a_c i) 0 (i + 1)) (i + 1) r) from rfl]
    cases allF (pS nn a_c i) 0 (i + 1) <;> rfl
theorem r43_run0 (K a_n nn : Nat) (a_c : Nat → Nat → Int) (hnn : nn ≤ 24) (hq : 0 < nn → nn * nn = a_n) (hK : 30 ≤ K) : runW Tryd.prog GLv Γ52 K (cfgK [true, false, false, true, true, true]) [.arr a_n [.int .i64] a_c] Tryd.f43 0 (29 + 1) (stL Tryd.f43.ntmps [.arr a_n [.int .i64] a_c, .non, .non, iv (nn : Int), iv (((0 : Nat) : Int)), .non]) = some (bv (allF (fun i => allF (pS nn a_c i) 0 (i + 1)) 0 nn && decide ((nn : Int) > 0))) := by
  rw [r43_out0]
  cases nn with
  | zero => rfl
  | succ nn =>
    rw [nat_lt, show decide (0 < nn + 1) = true by simp]
    simp only [cond_true]
    rw [r43_inn K 29 a_n (nn + 1) 0 a_c (by omega) hnn (hq (by omega)) (0 + 1) 0 K (by omega) (by omega), r43_run K a_n (nn + 1) a_c hnn hq hK nn (0 + 1) 29 _ (by omega) (by omega)]
    rw [show allF (fun i => allF (pS (nn + 1) a_c i) 0 (i + 1)) 0 (nn + 1) = (allF (pS (nn + 1) a_c 0) 0 (0 + 1) && allF (fun i => allF (pS (nn + 1) a_c i) 0 (i + 1)) (0 + 1) nn) from rfl]
    cases allF (pS (nn + 1) a_c 0) 0 (0 + 1) <;> rfl

theorem e43 (a_n : Nat) (a_c : Nat → Nat → Int) : evN Tryd.prog GLv Γ52 (30) [true, false, false, true, true, true]  Tryd.f43 [.arr a_n [.int .i64] a_c] = some (bv (ordVS a_n a_c)) := by
  refine (show _ = runW Tryd.prog GLv Γ52 30 (cfgK [true, false, false, true, true, true]) [.arr a_n [.int .i64] a_c] Tryd.f43 0 (29 + 1) (stL Tryd.f43.ntmps [.arr a_n [.int .i64] a_c, .non, .non, iv (sqF 24 1 (a_n : Int)), iv (((0 : Nat) : Int)), .non]) from by kernel_rfl).trans ?_
  rw [sqN_cast]
  exact r43_run0 30 a_n (sqN a_n) a_c (sqN_le a_n) (fun h => sqN_sq h) (by omega)
theorem m43 : Meets Tryd.prog GLv 43 s43 := by
  refine meetsN mix0 glv G52 Tryd.func43 (by kernel_rfl) (by kernel_rfl) s43 fun args x h => ?_
  unfold s43 at h
  split at h
  · rename_i a_n a_c
    simp only [Option.some.injEq, Prod.mk.injEq] at h
    obtain ⟨hp, rfl⟩ := h
    exact ⟨_, _, by kernel_rfl, e43 a_n a_c⟩
  · cases h
abbrev Γ53 : List (Nat × Ctr) := (43, s43) :: Γ52
theorem G53 : Sound Tryd.prog GLv Γ53 := G52.cons m43

-- impl.isAntisymmetric
def s52 : Ctr := fun
  | [.arr a_n [.int .i64] a_c] => some (true, bv (ordVI a_n a_c))
  | _ => none

theorem r52_in (K m n a_n nn i k : Nat) (a_c : Nat → Nat → Int) : runV Tryd.prog GLv Γ53 K (cfgK [true, false, false, true, true, false, false, false, false, true, true, false, false, true, true]) [.arr a_n [.int .i64] a_c] Tryd.f52 1 m (n + 1) (stL Tryd.f52.ntmps [.arr a_n [.int .i64] a_c, .non, .non, iv (nn : Int), iv ((i : Int)), .non, .non, .non, .non, iv (nn : Int), iv ((i : Int)), .non, .non, iv (nn : Int), iv ((k : Int))]) = cond (decide ((k : Int) < (nn : Int))) (cond ((decide (0 ≤ wr (wr ((i : Int) * (nn : Int)) + (k : Int))) && decide (wr (wr ((i : Int) * (nn : Int)) + (k : Int)) < (a_n : Int)))) (cond (!(inB (a_c (wr (wr ((i : Int) * (nn : Int)) + (k : Int))).toNat 0) (-1) 1)) (some (bv false)) (cond ((decide (0 ≤ wr (wr ((k : Int) * (nn : Int)) + (i : Int))) && decide (wr (wr ((k : Int) * (nn : Int)) + (i : Int)) < (a_n : Int)))) (cond (!(a_c (wr (wr ((i : Int) * (nn : Int)) + (k : Int))).toNat 0 == wr (0 - a_c (wr (wr ((k : Int) * (nn : Int)) + (i : Int))).toNat 0))) (some (bv false)) (runV Tryd.prog GLv Γ53 K (cfgK [true, false, false, true, true, false, false, false, false, true, true, false, false, true, true]) [.arr a_n [.int .i64] a_c] Tryd.f52 1 m n (stL Tryd.f52.ntmps [.arr a_n [.int .i64] a_c, .non, .non, iv (nn : Int), iv ((i : Int)), .non, .non, .non, .non, iv (nn : Int), iv ((i : Int)), .non, .non, iv (nn : Int), iv (wr ((k : Int) + 1))]))) (none))) (none)) (runW Tryd.prog GLv Γ53 K (cfgK [true, false, false, true, true, false, false, false, false, true, true, false, false, true, true]) [.arr a_n [.int .i64] a_c] Tryd.f52 0 m (stL Tryd.f52.ntmps [.arr a_n [.int .i64] a_c, .non, .non, iv (nn : Int), (iv (i : Int)), .non, .non, .non, .non, iv (nn : Int), iv (wr ((i : Int) + 1)), .non, .non, (iv (nn : Int)), (iv (k : Int))])) := by kernel_rfl
theorem r52_out (K n a_n nn i : Nat) (a_c : Nat → Nat → Int) (z0 z1 z2 : Int) : runW Tryd.prog GLv Γ53 K (cfgK [true, false, false, true, true, false, false, false, false, true, true, false, false, true, true]) [.arr a_n [.int .i64] a_c] Tryd.f52 0 (n + 1) (stL Tryd.f52.ntmps [.arr a_n [.int .i64] a_c, .non, .non, iv (nn : Int), iv z0, .non, .non, .non, .non, iv (nn : Int), iv ((i : Int)), .non, .non, iv z1, iv z2]) = cond (decide ((i : Int) < (nn : Int))) (runV Tryd.prog GLv Γ53 K (cfgK [true, false, false, true, true, false, false, false, false, true, true, false, false, true, true]) [.arr a_n [.int .i64] a_c] Tryd.f52 1 n K (stL Tryd.f52.ntmps [.arr a_n [.int .i64] a_c, .non, .non, iv (nn : Int), iv ((i : Int)), .non, .non, .non, .non, iv (nn : Int), iv ((i : Int)), .non, .non, iv (nn : Int), iv (((0 : Nat) : Int))])) (some (bv (decide ((nn : Int) > 0)))) := by kernel_rfl
theorem r52_out0 (K n a_n nn : Nat) (a_c : Nat → Nat → Int) : runW Tryd.prog GLv Γ53 K (cfgK [true, false, false, true, true, false, false, false, false, true, true, false, false, true, true]) [.arr a_n [.int .i64] a_c] Tryd.f52 0 (n + 1) (stL Tryd.f52.ntmps [.arr a_n [.int .i64] a_c, .non, .non, iv (nn : Int), .non, .non, .non, .non, .non, iv (nn : Int), iv (((0 : Nat) : Int)), .non, .non, .non, .non]) = cond (decide (((0 : Nat) : Int) < (nn : Int))) (runV Tryd.prog GLv Γ53 K (cfgK [true, false, false, true, true, false, false, false, false, true, true, false, false, true, true]) [.arr a_n [.int .i64] a_c] Tryd.f52 1 n K (stL Tryd.f52.ntmps [.arr a_n [.int .i64] a_c, .non, .non, iv (nn : Int), iv (((0 : Nat) : Int)), .non, .non, .non, .non, iv (nn : Int), iv (((0 : Nat) : Int)), .non, .non, iv (nn : Int), iv (((0 : Nat) : Int))])) (some (bv (decide ((nn : Int) > 0)))) := by kernel_rfl
theorem r52_inn (K m a_n nn i : Nat) (a_c : Nat → Nat → Int) (hi : i < nn) (hnn : nn ≤ 24) (hq : nn * nn = a_n) : ∀ (r k n : Nat), k + r = nn → r < n → runV Tryd.prog GLv Γ53 K (cfgK [true, false, false, true, true, false, false, false, false, true, true, false, false, true, true]) [.arr a_n [.int .i64] a_c] Tryd.f52 1 m n (stL Tryd.f52.ntmps [.arr a_n [.int .i64] a_c, .non, .non, iv (nn : Int), iv ((i : Int)), .non, .non, .non, .non, iv (nn : Int), iv ((i : Int)), .non, .non, iv (nn : Int), iv ((k : Int))]) = cond (allF (pS nn a_c i) k r) (runW Tryd.prog GLv Γ53 K (cfgK [true, false, false, true, true, false, false, false, false, true, true, false, false, true, true]) [.arr a_n [.int .i64] a_c] Tryd.f52 0 m (stL Tryd.f52.ntmps [.arr a_n [.int .i64] a_c, .non, .non, iv (nn : Int), (iv (i : Int)), .non, .non, .non, .non, iv (nn : Int), iv (((i + 1 : Nat) : Int)), .non, .non, (iv (nn : Int)), (iv ((nn : Nat) : Int))])) (some (bv false)) := by
  intro r
  induction r with
  | zero =>
    intro k n h1 h2
    obtain ⟨n, rfl⟩ : ∃ n', n = n' + 1 := ⟨n - 1, by omega⟩
    rw [r52_in, show decide ((k : Int) < (nn : Int)) = false by simp; omega, wr_succ (i := i) (by omega), show k = nn by omega]
    rfl
  | succ r ih =>
    intro k n h1 h2
    obtain ⟨n, rfl⟩ : ∃ n', n = n' + 1 := ⟨n - 1, by omega⟩
    have l1 : i * nn + k < a_n := hq ▸ idx_lt hi (by omega)
    have l2 : k * nn + i < a_n := hq ▸ idx_lt (by omega) hi
    rw [r52_in, show decide ((k : Int) < (nn : Int)) = true by simp; omega, idx_cast (i := i) (k := k) (by omega) (by omega) (by omega), idx_cast (i := k) (k := i) (by omega) (by omega) (by omega)]
    simp only [nat_nn, nat_lt, l1, l2, decide_true, Bool.and_self, cond_true, Int.toNat_natCast]
    rw [wr_succ (i := k) (by omega), ih (k + 1) n (by omega) (by omega)]
    simp only [allF]
    rw [show pS nn a_c i k = (inB (a_c (i * nn + k) 0) (-1) 1 && (a_c (i * nn + k) 0 == wr (0 - a_c (k * nn + i) 0))) from rfl]
    cases inB (a_c (i * nn + k) 0) (-1) 1 <;> cases a_c (i * nn + k) 0 == wr (0 - a_c (k * nn + i) 0) <;> rfl
theorem r52_run (K a_n nn : Nat) (a_c : Nat → Nat → Int) (hnn : nn ≤ 24) (hq : 0 < nn → nn * nn = a_n) (hK : 30 ≤ K) : ∀ (r i n : Nat) (z0 z1 z2 : Int), i + r = nn → r < n → runW Tryd.prog GLv Γ53 K (cfgK [true, false, false, true, true, false, false, false, false, true, true, false, false, true, true]) [.arr a_n [.int .i64] a_c] Tryd.f52 0 n (stL Tryd.f52.ntmps [.arr a_n [.int .i64] a_c, .non, .non, iv (nn : Int), iv z0, .non, .non, .non, .non, iv (nn : Int), iv ((i : Int)), .non, .non, iv z1, iv z2]) = some (bv (allF (fun i => allF (pS nn a_c i) 0 (nn)) i r && decide ((nn : Int) > 0))) := by
  intro r
  induction r with
  | zero =>
    intro i n z0 z1 z2  h1 h2
    obtain ⟨n, rfl⟩ : ∃ n', n = n' + 1 := ⟨n - 1, by omega⟩
    rw [r52_out, nat_lt, show decide (i < nn) = false by simp; omega]
    rfl
  | succ r ih =>
    intro i n z0 z1 z2  h1 h2
    obtain ⟨n, rfl⟩ : ∃ n', n = n' + 1 := ⟨n - 1, by omega⟩
    rw [r52_out, nat_lt, show decide (i < nn) = true by simp; omega]
    simp only [cond_true]
    rw [r52_inn K n a_n nn i a_c (by omega) hnn (hq (by omega)) (nn) 0 K (by omega) (by omega), ih (i + 1) n _ _ _ (by omega) (by omega)]
    rw [show allF (fun i => allF (pS nn a_c i) 0 (nn)) i (r + 1) = (allF (pS nn a_c i) 0 (nn) && allF (fun i => allF (pS nn a_c i) 0 (nn)) (i + 1) r) from rfl]
    cases allF (pS nn a_c i) 0 (nn) <;> rfl
theorem r52_run0 (K a_n nn : Nat) (a_c : Nat → Nat → Int) (hnn : nn ≤ 24) (hq : 0 < nn → nn * nn = a_n) (hK : 30 ≤ K) : runW Tryd.prog GLv Γ53 K (cfgK [true, false, false, true, true, false, false, false, false, true, true, false, false, true, true]) [.arr a_n [.int .i64] a_c] Tryd.f52 0 (29 + 1) (stL Tryd.f52.ntmps [.arr a_n [.int .i64] a_c, .non, .non, iv (nn : Int), .non, .non, .non, .non, .non, iv (nn : Int), iv (((0 : Nat) : Int)), .non, .non, .non, .non]) = some (bv (allF (fun i => allF (pS nn a_c i) 0 (nn)) 0 nn && decide ((nn : Int) > 0))) := by
  rw [r52_out0]
  cases nn with
  | zero => rfl
  | succ nn =>
    rw [nat_lt, show decide (0 < nn + 1) = true by simp]
    simp only [cond_true]
    rw [r52_inn K 29 a_n (nn + 1) 0 a_c (by omega) hnn (hq (by omega)) (nn + 1) 0 K (by omega) (by omega), r52_run K a_n (nn + 1) a_c hnn hq hK nn (0 + 1) 29 _ _ _ (by omega) (by omega)]
    rw [show allF (fun i => allF (pS (nn + 1) a_c i) 0 (nn + 1)) 0 (nn + 1) = (allF (pS (nn + 1) a_c 0) 0 (nn + 1) && allF (fun i => allF (pS (nn + 1) a_c i) 0 (nn + 1)) (0 + 1) nn) from rfl]
    cases allF (pS (nn + 1) a_c 0) 0 (nn + 1) <;> rfl

theorem e52 (a_n : Nat) (a_c : Nat → Nat → Int) : evN Tryd.prog GLv Γ53 (30) [true, false, false, true, true, false, false, false, false, true, true, false, false, true, true]  Tryd.f52 [.arr a_n [.int .i64] a_c] = some (bv (ordVI a_n a_c)) := by
  refine (show _ = runW Tryd.prog GLv Γ53 30 (cfgK [true, false, false, true, true, false, false, false, false, true, true, false, false, true, true]) [.arr a_n [.int .i64] a_c] Tryd.f52 0 (29 + 1) (stL Tryd.f52.ntmps [.arr a_n [.int .i64] a_c, .non, .non, iv (sqF 24 1 (a_n : Int)), .non, .non, .non, .non, .non, iv (sqF 24 1 (a_n : Int)), iv (((0 : Nat) : Int)), .non, .non, .non, .non]) from by kernel_rfl).trans ?_
  rw [sqN_cast]
  exact r52_run0 30 a_n (sqN a_n) a_c (sqN_le a_n) (fun h => sqN_sq h) (by omega)
theorem m52 : Meets Tryd.prog GLv 52 s52 := by
  refine meetsN mix0 glv G53 Tryd.func52 (by kernel_rfl) (by kernel_rfl) s52 fun args x h => ?_
  unfold s52 at h
  split at h
  · rename_i a_n a_c
    simp only [Option.some.injEq, Prod.mk.injEq] at h
    obtain ⟨hp, rfl⟩ := h
    exact ⟨_, _, by kernel_rfl, e52 a_n a_c⟩
  · cases h
abbrev Γ54 : List (Nat × Ctr) := (52, s52) :: Γ53
theorem G54 : Sound Tryd.prog GLv Γ54 := G53.cons m52

-- slices.IndexFunc[[]impl.RefNode,impl.RefNode]
def s77 : Ctr := fun
  | [.arr a_n [.int .i64, .int .i64, .int .i64, .int .i64] a_c, .val (.func (.func 56) ⟨[]⟩ ⟨[]⟩)] => some (Nat.ble a_n 1048576, iv (idxF (fun j => !(nodeAt a_c j)) 0 a_n))
  | _ => none

theorem r77_step (K n a_n : Nat) (a_c : Nat → Nat → Int) (i : Nat) : runW Tryd.prog GLv Γ54 K (cfgK [true, true, false, false, false, false, false, true, true]) [.arr a_n [.int .i64, .int .i64, .int .i64, .int .i64] a_c, .val (.func (.func 56) ⟨[]⟩ ⟨[]⟩)] Tryd.f77 0 (n + 1) (stL Tryd.f77.ntmps [.arr a_n [.int .i64, .int .i64, .int .i64, .int .i64] a_c, .val (.func (.func 56) ⟨[]⟩ ⟨[]⟩), .non, .non, .non, .non, .non, iv (a_n : Int), iv ((i : Int))]) = cond (decide ((i : Int) < (a_n : Int))) (cond ((decide (0 ≤ (i : Int)) && decide ((i : Int) < (a_n : Int)))) (cond (!(nodeAt a_c i)) (some (iv (i : Int))) (runW Tryd.prog GLv Γ54 K (cfgK [true, true, false, false, false, false, false, true, true]) [.arr a_n [.int .i64, .int .i64, .int .i64, .int .i64] a_c, .val (.func (.func 56) ⟨[]⟩ ⟨[]⟩)] Tryd.f77 0 n (stL Tryd.f77.ntmps [.arr a_n [.int .i64, .int .i64, .int .i64, .int .i64] a_c, .val (.func (.func 56) ⟨[]⟩ ⟨[]⟩), .non, .non, .non, .non, .non, iv (a_n : Int), iv (wr ((i : Int) + 1))]))) (none)) (some (iv (-1))) := by kernel_rfl
theorem r77_run (K a_n : Nat) (a_c : Nat → Nat → Int) (hn : a_n ≤ 1048576) : ∀ (m i n : Nat), i + m = a_n → m < n → runW Tryd.prog GLv Γ54 K (cfgK [true, true, false, false, false, false, false, true, true]) [.arr a_n [.int .i64, .int .i64, .int .i64, .int .i64] a_c, .val (.func (.func 56) ⟨[]⟩ ⟨[]⟩)] Tryd.f77 0 n (stL Tryd.f77.ntmps [.arr a_n [.int .i64, .int .i64, .int .i64, .int .i64] a_c, .val (.func (.func 56) ⟨[]⟩ ⟨[]⟩), .non, .non, .non, .non, .non, iv (a_n : Int), iv ((i : Int))]) = some (iv (idxF (fun j => !(nodeAt a_c j)) i m)) := by
  intro m
  induction m with
  | zero =>
    intro i n h1 h2
    obtain ⟨n, rfl⟩ : ∃ n', n = n' + 1 := ⟨n - 1, by omega⟩
    rw [r77_step, nat_lt i a_n, show decide (i < a_n) = false by simp; omega]
    rfl
  | succ m ih =>
    intro i n h1 h2
    obtain ⟨n, rfl⟩ : ∃ n', n = n' + 1 := ⟨n - 1, by omega⟩
    rw [r77_step, nat_nn, nat_lt i a_n, show decide (i < a_n) = true by simp; omega]
    simp only [Bool.and_self, cond_true]
    rw [wr_succ (by omega), ih (i + 1) n (by omega) (by omega)]
    simp only [idxF]
    cases nodeAt a_c i <;> rfl

theorem e77 (a_n : Nat) (a_c : Nat → Nat → Int) (hp : (Nat.ble a_n 1048576) = true) : evN Tryd.prog GLv Γ54 (a_n + 2) [true, true, false, false, false, false, false, true, true]  Tryd.f77 [.arr a_n [.int .i64, .int .i64, .int .i64, .int .i64] a_c, .val (.func (.func 56) ⟨[]⟩ ⟨[]⟩)] = some (iv (idxF (fun j => !(nodeAt a_c j)) 0 a_n)) := by
  have hn := Nat.le_of_ble_eq_true hp
  refine (show _ = runW Tryd.prog GLv Γ54 (a_n + 2) (cfgK [true, true, false, false, false, false, false, true, true]) [.arr a_n [.int .i64, .int .i64, .int .i64, .int .i64] a_c, .val (.func (.func 56) ⟨[]⟩ ⟨[]⟩)] Tryd.f77 0 (a_n + 2) (stL Tryd.f77.ntmps [.arr a_n [.int .i64, .int .i64, .int .i64, .int .i64] a_c, .val (.func (.func 56) ⟨[]⟩ ⟨[]⟩), .non, .non, .non, .non, .non, iv (a_n : Int), iv (((0 : Nat) : Int))]) from by kernel_rfl).trans ?_
  exact r77_run _ a_n a_c hn a_n 0 _ (by omega) (by omega)
theorem m77 : Meets Tryd.prog GLv 77 s77 := by
  refine meetsN mix0 glv G54 Tryd.func77 (by kernel_rfl) (by kernel_rfl) s77 fun args x h => ?_
  unfold s77 at h
  split at h
  · rename_i a_n a_c
    simp only [Option.some.injEq, Prod.mk.injEq] at h
    obtain ⟨hp, rfl⟩ := h
    exact ⟨_, _, by kernel_rfl, e77 a_n a_c hp⟩
  · cases h
abbrev Γ55 : List (Nat × Ctr) := (77, s77) :: Γ54
theorem G55 : Sound Tryd.prog GLv Γ55 := G54.cons m77

-- slices.ContainsFunc[[]impl.RefNode,impl.RefNode]
def s55 : Ctr := fun
  | [.arr a_n [.int .i64, .int .i64, .int .i64, .int .i64] a_c, .val (.func (.func 56) ⟨[]⟩ ⟨[]⟩)] => some (Nat.ble a_n 1048576, bv (!(allF (nodeAt a_c) 0 a_n)))
  | _ => none

theorem e55 (a_n : Nat) (a_c : Nat → Nat → Int) (hp : (Nat.ble a_n 1048576) = true) : evN Tryd.prog GLv Γ55 (0) []  Tryd.f55 [.arr a_n [.int .i64, .int .i64, .int .i64, .int .i64] a_c, .val (.func (.func 56) ⟨[]⟩ ⟨[]⟩)] = some (bv (!(allF (nodeAt a_c) 0 a_n))) := by
  refine (show _ = cond (Nat.ble a_n 1048576) (some (bv (decide (idxF (fun j => !(nodeAt a_c j)) 0 a_n ≥ 0)))) none from by kernel_rfl).trans ?_
  rw [hp, idxF_ge]
  simp only [Bool.not_not, cond_true]
theorem m55 : Meets Tryd.prog GLv 55 s55 := by
  refine meetsN mix0 glv G55 Tryd.func55 (by kernel_rfl) (by kernel_rfl) s55 fun args x h => ?_
  unfold s55 at h
  split at h
  · rename_i a_n a_c
    simp only [Option.some.injEq, Prod.mk.injEq] at h
    obtain ⟨hp, rfl⟩ := h
    exact ⟨_, _, by kernel_rfl, e55 a_n a_c hp⟩
  · cases h
abbrev Γ56 : List (Nat × Ctr) := (55, s55) :: Γ55
theorem G56 : Sound Tryd.prog GLv Γ56 := G55.cons m55

-- spec.l19Ok
def s19 : Ctr := fun
  | [.own 30 [.val (.int .i64 a_k), .val (.int .i64 a_a), .val (.int .i64 a_b), .arr a_n [.int .i64] a_c, .arr a_m [.int .i64, .int .i64, .int .i64, .int .i64] a_d]] => some (Nat.ble a_m 1048576, .out (bv (certB (ordVS a_n a_c) a_k a_a a_b a_n a_m a_d)) [.agg [.val (.int .i64 a_k), .val (.int .i64 a_a), .val (.int .i64 a_b), .arr a_n [.int .i64] a_c, .arr a_m [.int .i64, .int .i64, .int .i64, .int .i64] a_d]])
  | _ => none

theorem r19_step (K n a_n a_m : Nat) (a_c a_d : Nat → Nat → Int) (a_k a_a a_b : Int) (i : Nat) : runW Tryd.prog GLv Γ56 K (cfgC [true, false, false, true] [(3, [true])]) [.own 30 [.val (.int .i64 a_k), .val (.int .i64 a_a), .val (.int .i64 a_b), .arr a_n [.int .i64] a_c, .arr a_m [.int .i64, .int .i64, .int .i64, .int .i64] a_d]] Tryd.f19 0 (n + 1) (st2 Tryd.f19.ntmps [.ref Tryd.f19.ntmps 0, .non, .non, iv ((i : Int))] [.vown 30 [.val (.int .i64 a_k), .val (.int .i64 a_a), .val (.int .i64 a_b), .arr a_n [.int .i64] a_c, .arr a_m [.int .i64, .int .i64, .int .i64, .int .i64] a_d]]) = cond (decide ((i : Int) < (a_m : Int))) (cond ((decide (0 ≤ (i : Int)) && decide ((i : Int) < (a_m : Int)))) (cond (!(nodeAt a_d i)) ((some (.out (bv (false)) [.agg [.val (.int .i64 a_k), .val (.int .i64 a_a), .val (.int .i64 a_b), .arr a_n [.int .i64] a_c, .arr a_m [.int .i64, .int .i64, .int .i64, .int .i64] a_d]]))) (runW Tryd.prog GLv Γ56 K (cfgC [true, false, false, true] [(3, [true])]) [.own 30 [.val (.int .i64 a_k), .val (.int .i64 a_a), .val (.int .i64 a_b), .arr a_n [.int .i64] a_c, .arr a_m [.int .i64, .int .i64, .int .i64, .int .i64] a_d]] Tryd.f19 0 n (st2 Tryd.f19.ntmps [.ref Tryd.f19.ntmps 0, .non, .non, iv (wr ((i : Int) + 1))] [.vown 30 [.val (.int .i64 a_k), .val (.int .i64 a_a), .val (.int .i64 a_b), .arr a_n [.int .i64] a_c, .arr a_m [.int .i64, .int .i64, .int .i64, .int .i64] a_d]]))) (none)) (cond (a_a == 0) (cond (a_b == 0) ((some (.out (bv (inB a_m 1 500)) [.agg [.val (.int .i64 a_k), .val (.int .i64 a_a), .val (.int .i64 a_b), .arr a_n [.int .i64] a_c, .arr a_m [.int .i64, .int .i64, .int .i64, .int .i64] a_d]]))) ((some (.out (bv (false)) [.agg [.val (.int .i64 a_k), .val (.int .i64 a_a), .val (.int .i64 a_b), .arr a_n [.int .i64] a_c, .arr a_m [.int .i64, .int .i64, .int .i64, .int .i64] a_d]])))) ((some (.out (bv (false)) [.agg [.val (.int .i64 a_k), .val (.int .i64 a_a), .val (.int .i64 a_b), .arr a_n [.int .i64] a_c, .arr a_m [.int .i64, .int .i64, .int .i64, .int .i64] a_d]])))) := by kernel_rfl
theorem r19_run (K a_n a_m : Nat) (a_c a_d : Nat → Nat → Int) (a_k a_a a_b : Int) (hn : a_m ≤ 1048576) : ∀ (m i n : Nat), i + m = a_m → m < n → runW Tryd.prog GLv Γ56 K (cfgC [true, false, false, true] [(3, [true])]) [.own 30 [.val (.int .i64 a_k), .val (.int .i64 a_a), .val (.int .i64 a_b), .arr a_n [.int .i64] a_c, .arr a_m [.int .i64, .int .i64, .int .i64, .int .i64] a_d]] Tryd.f19 0 n (st2 Tryd.f19.ntmps [.ref Tryd.f19.ntmps 0, .non, .non, iv ((i : Int))] [.vown 30 [.val (.int .i64 a_k), .val (.int .i64 a_a), .val (.int .i64 a_b), .arr a_n [.int .i64] a_c, .arr a_m [.int .i64, .int .i64, .int .i64, .int .i64] a_d]]) = cond (allF (nodeAt a_d) i m) (cond (a_a == 0) (cond (a_b == 0) ((some (.out (bv (inB a_m 1 500)) [.agg [.val (.int .i64 a_k), .val (.int .i64 a_a), .val (.int .i64 a_b), .arr a_n [.int .i64] a_c, .arr a_m [.int .i64, .int .i64, .int .i64, .int .i64] a_d]]))) ((some (.out (bv (false)) [.agg [.val (.int .i64 a_k), .val (.int .i64 a_a), .val (.int .i64 a_b), .arr a_n [.int .i64] a_c, .arr a_m [.int .i64, .int .i64, .int .i64, .int .i64] a_d]])))) ((some (.out (bv (false)) [.agg [.val (.int .i64 a_k), .val (.int .i64 a_a), .val (.int .i64 a_b), .arr a_n [.int .i64] a_c, .arr a_m [.int .i64, .int .i64, .int .i64, .int .i64] a_d]])))) (some (.out (bv (false)) [.agg [.val (.int .i64 a_k), .val (.int .i64 a_a), .val (.int .i64 a_b), .arr a_n [.int .i64] a_c, .arr a_m [.int .i64, .int .i64, .int .i64, .int .i64] a_d]])) := by
  intro m
  induction m with
  | zero =>
    intro i n h1 h2
    obtain ⟨n, rfl⟩ : ∃ n', n = n' + 1 := ⟨n - 1, by omega⟩
    rw [r19_step, nat_lt i a_m, show decide (i < a_m) = false by simp; omega]
    rfl
  | succ m ih =>
    intro i n h1 h2
    obtain ⟨n, rfl⟩ : ∃ n', n = n' + 1 := ⟨n - 1, by omega⟩
    rw [r19_step, nat_nn, nat_lt i a_m, show decide (i < a_m) = true by simp; omega]
    simp only [Bool.and_self, cond_true]
    rw [wr_succ (by omega), ih (i + 1) n (by omega) (by omega)]
    simp only [allF]
    cases nodeAt a_d i <;> rfl
theorem r19_from (a_n a_m : Nat) (a_c a_d : Nat → Nat → Int) (a_k a_a a_b : Int) (hp : Nat.ble a_m 1048576 = true) : fromW Tryd.prog GLv Γ56 (a_m + 2) (cfgC [true, false, false, true] [(3, [true])]) [.own 30 [.val (.int .i64 a_k), .val (.int .i64 a_a), .val (.int .i64 a_b), .arr a_n [.int .i64] a_c, .arr a_m [.int .i64, .int .i64, .int .i64, .int .i64] a_d]] Tryd.f19 3 (st2 Tryd.f19.ntmps [.ref Tryd.f19.ntmps 0] [.vown 30 [.val (.int .i64 a_k), .val (.int .i64 a_a), .val (.int .i64 a_b), .arr a_n [.int .i64] a_c, .arr a_m [.int .i64, .int .i64, .int .i64, .int .i64] a_d]]) = (some (.out (bv (cond (a_k == 1) (a_a == 0 && (a_b == 0 && (ordVS a_n a_c))) (cond (a_k == 2) (inB a_a 0 39 && inB a_b 1 3) (cond (a_k == 3) (inB a_b 0 69 && inB a_a 0 (wr (a_b - 1))) (cond (a_k == 4) (a_a == 0 && (a_b == 0 && (inB a_m 1 500 && allF (nodeAt a_d) 0 a_m))) false))))) [.agg [.val (.int .i64 a_k), .val (.int .i64 a_a), .val (.int .i64 a_b), .arr a_n [.int .i64] a_c, .arr a_m [.int .i64, .int .i64, .int .i64, .int .i64] a_d]])) := by
  refine (show _ = cond (a_k == 1) (cond (a_a == 0) (cond (a_b == 0) ((some (.out (bv ((ordVS a_n a_c))) [.agg [.val (.int .i64 a_k), .val (.int .i64 a_a), .val (.int .i64 a_b), .arr a_n [.int .i64] a_c, .arr a_m [.int .i64, .int .i64, .int .i64, .int .i64] a_d]]))) ((some (.out (bv (false)) [.agg [.val (.int .i64 a_k), .val (.int .i64 a_a), .val (.int .i64 a_b), .arr a_n [.int .i64] a_c, .arr a_m [.int .i64, .int .i64, .int .i64, .int .i64] a_d]])))) ((some (.out (bv (false)) [.agg [.val (.int .i64 a_k), .val (.int .i64 a_a), .val (.int .i64 a_b), .arr a_n [.int .i64] a_c, .arr a_m [.int .i64, .int .i64, .int .i64, .int .i64] a_d]])))) (cond (a_k == 2) (cond (inB a_a 0 39) ((some (.out (bv (inB a_b 1 3)) [.agg [.val (.int .i64 a_k), .val (.int .i64 a_a), .val (.int .i64 a_b), .arr a_n [.int .i64] a_c, .arr a_m [.int .i64, .int .i64, .int .i64, .int .i64] a_d]]))) ((some (.out (bv (false)) [.agg [.val (.int .i64 a_k), .val (.int .i64 a_a), .val (.int .i64 a_b), .arr a_n [.int .i64] a_c, .arr a_m [.int .i64, .int .i64, .int .i64, .int .i64] a_d]])))) (cond (a_k == 3) (cond (inB a_b 0 69) ((some (.out (bv (inB a_a 0 (wr (a_b - 1)))) [.agg [.val (.int .i64 a_k), .val (.int .i64 a_a), .val (.int .i64 a_b), .arr a_n [.int .i64] a_c, .arr a_m [.int .i64, .int .i64, .int .i64, .int .i64] a_d]]))) ((some (.out (bv (false)) [.agg [.val (.int .i64 a_k), .val (.int .i64 a_a), .val (.int .i64 a_b), .arr a_n [.int .i64] a_c, .arr a_m [.int .i64, .int .i64, .int .i64, .int .i64] a_d]])))) (cond (a_k == 4) (runW Tryd.prog GLv Γ56 (a_m + 2) (cfgC [true, false, false, true] [(3, [true])]) [.own 30 [.val (.int .i64 a_k), .val (.int .i64 a_a), .val (.int .i64 a_b), .arr a_n [.int .i64] a_c, .arr a_m [.int .i64, .int .i64, .int .i64, .int .i64] a_d]] Tryd.f19 0 (a_m + 2) (st2 Tryd.f19.ntmps [.ref Tryd.f19.ntmps 0, .non, .non, iv (((0 : Nat) : Int))] [.vown 30 [.val (.int .i64 a_k), .val (.int .i64 a_a), .val (.int .i64 a_b), .arr a_n [.int .i64] a_c, .arr a_m [.int .i64, .int .i64, .int .i64, .int .i64] a_d]])) ((some (.out (bv (false)) [.agg [.val (.int .i64 a_k), .val (.int .i64 a_a), .val (.int .i64 a_b), .arr a_n [.int .i64] a_c, .arr a_m [.int .i64, .int .i64, .int .i64, .int .i64] a_d]])))))) from by kernel_rfl).trans ?_
  rw [r19_run _ a_n a_m a_c a_d a_k a_a a_b (Nat.le_of_ble_eq_true hp) a_m 0 _ (by omega) (by omega)]
  generalize (ordVS a_n a_c) = o
  cases a_k == 1 <;> cases a_k == 2 <;> cases a_k == 3 <;> cases a_k == 4 <;> cases a_a == 0 <;> cases a_b == 0 <;> cases inB a_a 0 39 <;> cases inB a_b 0 69 <;> (try cases inB a_a 0 69) <;> cases inB (a_m : Int) 1 500 <;> cases allF (nodeAt a_d) 0 a_m <;> rfl

theorem e19 (a_k : Int) (a_a : Int) (a_b : Int) (a_n : Nat) (a_c : Nat → Nat → Int) (a_m : Nat) (a_d : Nat → Nat → Int) (hp : (Nat.ble a_m 1048576) = true) : evW Tryd.prog GLv Γ56 (a_m + 2) (cfgC [true, false, false, true] [(3, [true])])  Tryd.f19 [.own 30 [.val (.int .i64 a_k), .val (.int .i64 a_a), .val (.int .i64 a_b), .arr a_n [.int .i64] a_c, .arr a_m [.int .i64, .int .i64, .int .i64, .int .i64] a_d]] = some (.out (bv (certB (ordVS a_n a_c) a_k a_a a_b a_n a_m a_d)) [.agg [.val (.int .i64 a_k), .val (.int .i64 a_a), .val (.int .i64 a_b), .arr a_n [.int .i64] a_c, .arr a_m [.int .i64, .int .i64, .int .i64, .int .i64] a_d]]) := by
  refine (show _ = cond (!(a_k == 1)) (cond (decide ((a_n : Int) > 0)) ((some (.out (bv (false)) [.agg [.val (.int .i64 a_k), .val (.int .i64 a_a), .val (.int .i64 a_b), .arr a_n [.int .i64] a_c, .arr a_m [.int .i64, .int .i64, .int .i64, .int .i64] a_d]]))) (cond (!(a_k == 4)) (cond (decide ((a_m : Int) > 0)) ((some (.out (bv (false)) [.agg [.val (.int .i64 a_k), .val (.int .i64 a_a), .val (.int .i64 a_b), .arr a_n [.int .i64] a_c, .arr a_m [.int .i64, .int .i64, .int .i64, .int .i64] a_d]]))) (fromW Tryd.prog GLv Γ56 (a_m + 2) (cfgC [true, false, false, true] [(3, [true])]) [.own 30 [.val (.int .i64 a_k), .val (.int .i64 a_a), .val (.int .i64 a_b), .arr a_n [.int .i64] a_c, .arr a_m [.int .i64, .int .i64, .int .i64, .int .i64] a_d]] Tryd.f19 3 (st2 Tryd.f19.ntmps [.ref Tryd.f19.ntmps 0] [.vown 30 [.val (.int .i64 a_k), .val (.int .i64 a_a), .val (.int .i64 a_b), .arr a_n [.int .i64] a_c, .arr a_m [.int .i64, .int .i64, .int .i64, .int .i64] a_d]]))) (fromW Tryd.prog GLv Γ56 (a_m + 2) (cfgC [true, false, false, true] [(3, [true])]) [.own 30 [.val (.int .i64 a_k), .val (.int .i64 a_a), .val (.int .i64 a_b), .arr a_n [.int .i64] a_c, .arr a_m [.int .i64, .int .i64, .int .i64, .int .i64] a_d]] Tryd.f19 3 (st2 Tryd.f19.ntmps [.ref Tryd.f19.ntmps 0] [.vown 30 [.val (.int .i64 a_k), .val (.int .i64 a_a), .val (.int .i64 a_b), .arr a_n [.int .i64] a_c, .arr a_m [.int .i64, .int .i64, .int .i64, .int .i64] a_d]])))) (cond (!(a_k == 4)) (cond (decide ((a_m : Int) > 0)) ((some (.out (bv (false)) [.agg [.val (.int .i64 a_k), .val (.int .i64 a_a), .val (.int .i64 a_b), .arr a_n [.int .i64] a_c, .arr a_m [.int .i64, .int .i64, .int .i64, .int .i64] a_d]]))) (fromW Tryd.prog GLv Γ56 (a_m + 2) (cfgC [true, false, false, true] [(3, [true])]) [.own 30 [.val (.int .i64 a_k), .val (.int .i64 a_a), .val (.int .i64 a_b), .arr a_n [.int .i64] a_c, .arr a_m [.int .i64, .int .i64, .int .i64, .int .i64] a_d]] Tryd.f19 3 (st2 Tryd.f19.ntmps [.ref Tryd.f19.ntmps 0] [.vown 30 [.val (.int .i64 a_k), .val (.int .i64 a_a), .val (.int .i64 a_b), .arr a_n [.int .i64] a_c, .arr a_m [.int .i64, .int .i64, .int .i64, .int .i64] a_d]]))) (fromW Tryd.prog GLv Γ56 (a_m + 2) (cfgC [true, false, false, true] [(3, [true])]) [.own 30 [.val (.int .i64 a_k), .val (.int .i64 a_a), .val (.int .i64 a_b), .arr a_n [.int .i64] a_c, .arr a_m [.int .i64, .int .i64, .int .i64, .int .i64] a_d]] Tryd.f19 3 (st2 Tryd.f19.ntmps [.ref Tryd.f19.ntmps 0] [.vown 30 [.val (.int .i64 a_k), .val (.int .i64 a_a), .val (.int .i64 a_b), .arr a_n [.int .i64] a_c, .arr a_m [.int .i64, .int .i64, .int .i64, .int .i64] a_d]]))) from by kernel_rfl).trans ?_
  exact guard_ok (fun b => (some (.out (bv (b)) [.agg [.val (.int .i64 a_k), .val (.int .i64 a_a), .val (.int .i64 a_b), .arr a_n [.int .i64] a_c, .arr a_m [.int .i64, .int .i64, .int .i64, .int .i64] a_d]]))) _ (r19_from a_n a_m a_c a_d a_k a_a a_b hp) true
theorem m19 : Meets Tryd.prog GLv 19 s19 := by
  refine meetsW mix0 G56 Tryd.func19 (by kernel_rfl) (by kernel_rfl) s19 fun args x h => ?_
  unfold s19 at h
  split at h
  · rename_i a_k a_a a_b a_n a_c a_m a_d
    simp only [Option.some.injEq, Prod.mk.injEq] at h
    obtain ⟨hp, rfl⟩ := h
    exact ⟨_, _, by kernel_rfl, e19 a_k a_a a_b a_n a_c a_m a_d hp⟩
  · cases h
abbrev Γ57 : List (Nat × Ctr) := (19, s19) :: Γ56
theorem G57 : Sound Tryd.prog GLv Γ57 := G56.cons m19

-- impl.ValidCertificate
def s23 : Ctr := fun
  | [.agg [.val (.int .i64 a_k), .val (.int .i64 a_a), .val (.int .i64 a_b), .arr a_n [.int .i64] a_c, .arr a_m [.int .i64, .int .i64, .int .i64, .int .i64] a_d]] => some (Nat.ble a_m 1048576, bv (certB (ordVI a_n a_c) a_k a_a a_b a_n a_m a_d))
  | _ => none

theorem r23_from (a_n a_m : Nat) (a_c a_d : Nat → Nat → Int) (a_k a_a a_b : Int) (hp : Nat.ble a_m 1048576 = true) : fromW Tryd.prog GLv Γ57 (a_m + 2) (cfgC [] [(3, [false, true])]) [.agg [.val (.int .i64 a_k), .val (.int .i64 a_a), .val (.int .i64 a_b), .arr a_n [.int .i64] a_c, .arr a_m [.int .i64, .int .i64, .int .i64, .int .i64] a_d]] Tryd.f23 3 (stL Tryd.f23.ntmps [.non, .own 30 [.val (.int .i64 a_k), .val (.int .i64 a_a), .val (.int .i64 a_b), .arr a_n [.int .i64] a_c, .arr a_m [.int .i64, .int .i64, .int .i64, .int .i64] a_d]]) = (some (bv (cond (a_k == 1) (a_a == 0 && (a_b == 0 && (ordVI a_n a_c))) (cond (a_k == 2) (inB a_a 0 39 && inB a_b 1 3) (cond (a_k == 3) (inB a_b 0 69 && inB a_a 0 (wr (a_b - 1))) (cond (a_k == 4) (a_a == 0 && (a_b == 0 && (inB a_m 1 500 && allF (nodeAt a_d) 0 a_m))) false)))))) := by
  refine (show _ = cond (a_k == 1) (cond (a_a == 0) (cond (a_b == 0) ((some (bv ((ordVI a_n a_c))))) ((some (bv (false))))) ((some (bv (false))))) (cond (a_k == 2) (cond (inB a_a 0 39) ((some (bv (inB a_b 1 3)))) ((some (bv (false))))) (cond (a_k == 3) (cond (inB a_a 0 69) (cond (inB a_b 0 69) ((some (bv (decide (a_a < a_b))))) ((some (bv (false))))) ((some (bv (false))))) (cond (a_k == 4) (cond (a_a == 0) (cond (a_b == 0) (cond (inB (a_m : Int) 1 500) (cond (Nat.ble a_m 1048576) ((some (bv (!(!(allF (nodeAt a_d) 0 a_m)))))) (none)) ((some (bv (false))))) ((some (bv (false))))) ((some (bv (false))))) ((some (bv (false))))))) from by kernel_rfl).trans ?_
  rw [hp]
  simp only [cond_true, Bool.not_not]
  rw [← joint_eq]
  generalize (ordVI a_n a_c) = o
  cases a_k == 1 <;> cases a_k == 2 <;> cases a_k == 3 <;> cases a_k == 4 <;> cases a_a == 0 <;> cases a_b == 0 <;> cases inB a_a 0 39 <;> cases inB a_b 0 69 <;> (try cases inB a_a 0 69) <;> cases inB (a_m : Int) 1 500 <;> cases allF (nodeAt a_d) 0 a_m <;> rfl

theorem e23 (a_k : Int) (a_a : Int) (a_b : Int) (a_n : Nat) (a_c : Nat → Nat → Int) (a_m : Nat) (a_d : Nat → Nat → Int) (hp : (Nat.ble a_m 1048576) = true) : evW Tryd.prog GLv Γ57 (a_m + 2) (cfgC [] [(3, [false, true])])  Tryd.f23 [.agg [.val (.int .i64 a_k), .val (.int .i64 a_a), .val (.int .i64 a_b), .arr a_n [.int .i64] a_c, .arr a_m [.int .i64, .int .i64, .int .i64, .int .i64] a_d]] = some (bv (certB (ordVI a_n a_c) a_k a_a a_b a_n a_m a_d)) := by
  refine (show _ = cond (!(a_k == 1)) (cond (decide ((a_n : Int) > 0)) ((some (bv (false)))) (cond (!(a_k == 4)) (cond (decide ((a_m : Int) > 0)) ((some (bv (false)))) (fromW Tryd.prog GLv Γ57 (a_m + 2) (cfgC [] [(3, [false, true])]) [.agg [.val (.int .i64 a_k), .val (.int .i64 a_a), .val (.int .i64 a_b), .arr a_n [.int .i64] a_c, .arr a_m [.int .i64, .int .i64, .int .i64, .int .i64] a_d]] Tryd.f23 3 (stL Tryd.f23.ntmps [.non, .own 30 [.val (.int .i64 a_k), .val (.int .i64 a_a), .val (.int .i64 a_b), .arr a_n [.int .i64] a_c, .arr a_m [.int .i64, .int .i64, .int .i64, .int .i64] a_d]]))) (fromW Tryd.prog GLv Γ57 (a_m + 2) (cfgC [] [(3, [false, true])]) [.agg [.val (.int .i64 a_k), .val (.int .i64 a_a), .val (.int .i64 a_b), .arr a_n [.int .i64] a_c, .arr a_m [.int .i64, .int .i64, .int .i64, .int .i64] a_d]] Tryd.f23 3 (stL Tryd.f23.ntmps [.non, .own 30 [.val (.int .i64 a_k), .val (.int .i64 a_a), .val (.int .i64 a_b), .arr a_n [.int .i64] a_c, .arr a_m [.int .i64, .int .i64, .int .i64, .int .i64] a_d]])))) (cond (!(a_k == 4)) (cond (decide ((a_m : Int) > 0)) ((some (bv (false)))) (fromW Tryd.prog GLv Γ57 (a_m + 2) (cfgC [] [(3, [false, true])]) [.agg [.val (.int .i64 a_k), .val (.int .i64 a_a), .val (.int .i64 a_b), .arr a_n [.int .i64] a_c, .arr a_m [.int .i64, .int .i64, .int .i64, .int .i64] a_d]] Tryd.f23 3 (stL Tryd.f23.ntmps [.non, .own 30 [.val (.int .i64 a_k), .val (.int .i64 a_a), .val (.int .i64 a_b), .arr a_n [.int .i64] a_c, .arr a_m [.int .i64, .int .i64, .int .i64, .int .i64] a_d]]))) (fromW Tryd.prog GLv Γ57 (a_m + 2) (cfgC [] [(3, [false, true])]) [.agg [.val (.int .i64 a_k), .val (.int .i64 a_a), .val (.int .i64 a_b), .arr a_n [.int .i64] a_c, .arr a_m [.int .i64, .int .i64, .int .i64, .int .i64] a_d]] Tryd.f23 3 (stL Tryd.f23.ntmps [.non, .own 30 [.val (.int .i64 a_k), .val (.int .i64 a_a), .val (.int .i64 a_b), .arr a_n [.int .i64] a_c, .arr a_m [.int .i64, .int .i64, .int .i64, .int .i64] a_d]]))) from by kernel_rfl).trans ?_
  exact guard_ok (fun b => (some (bv (b)))) _ (r23_from a_n a_m a_c a_d a_k a_a a_b hp) true
theorem m23 : Meets Tryd.prog GLv 23 s23 := by
  refine meetsW mix0 G57 Tryd.func23 (by kernel_rfl) (by kernel_rfl) s23 fun args x h => ?_
  unfold s23 at h
  split at h
  · rename_i a_k a_a a_b a_n a_c a_m a_d
    simp only [Option.some.injEq, Prod.mk.injEq] at h
    obtain ⟨hp, rfl⟩ := h
    exact ⟨_, _, by kernel_rfl, e23 a_k a_a a_b a_n a_c a_m a_d hp⟩
  · cases h
abbrev Γ58 : List (Nat × Ctr) := (23, s23) :: Γ57
theorem G58 : Sound Tryd.prog GLv Γ58 := G57.cons m23

end Go.Proofs.YtkmeacninbnmaaaDoor
