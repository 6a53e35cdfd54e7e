/- Contracts of the program's functions, by the evaluator. -/
import Derived.Test.YtooikeeckoflpaaDoorC8
import Derived.Test.YtooikeeckoflpaaDoorPlD
import Derived.Test.YtooikeeckoflpaaDoorPlA
namespace Go.Proofs.YtooikeeckoflpaaDoor
open Go.Ev
set_option linter.unusedVariables false
set_option linter.unusedSimpArgs false
set_option maxRecDepth 100000

-- laws.markPointS
def s16 : Ctr := fun
  | [.row a_l 62 a_n [.int .i64, .int .i64, .int .i64, .int .i64, .int .i64, .int .i64] a_c, .val (.int .i64 m_k)] => some (Nat.ble a_n 1048576, .out (iv (mkK 6 a_n m_k)) [.row a_l 62 a_n [.int .i64, .int .i64, .int .i64, .int .i64, .int .i64, .int .i64] (mkC 6 0 a_n a_c m_k), .non])
  | _ => none

theorem r16_step (K n a_n : Nat) (a_l : Bool) (m_k : Int) (a_c d : Nat → Nat → Int) (i : Nat) (k : Int) : runW Tryd.prog GLv Γ87 K (cfgK [true, true, false, false, false, true]) [.row a_l 62 a_n [.int .i64, .int .i64, .int .i64, .int .i64, .int .i64, .int .i64] a_c, iv m_k] Tryd.f16 0 (n + 1) (st2 Tryd.f16.ntmps [.sl Tryd.f16.ntmps a_n, iv (k), .non, .non, .non, iv ((i : Int))] [.row a_l 62 a_n [.int .i64, .int .i64, .int .i64, .int .i64, .int .i64, .int .i64] (d)]) = cond (decide ((i : Int) < (a_n : Int))) (cond (decide (0 ≤ (i : Int)) && decide ((i : Int) < (a_n : Int))) (cond (decide (0 ≤ (i : Int)) && decide ((i : Int) < (a_n : Int))) (cond (decide (0 ≤ (i : Int)) && decide ((i : Int) < (a_n : Int))) (cond (decide (0 ≤ (i : Int)) && decide ((i : Int) < (a_n : Int))) (cond (decide (0 ≤ (i : Int)) && decide ((i : Int) < (a_n : Int))) (cond (decide (0 ≤ (i : Int)) && decide ((i : Int) < (a_n : Int))) (runW Tryd.prog GLv Γ87 K (cfgK [true, true, false, false, false, true]) [.row a_l 62 a_n [.int .i64, .int .i64, .int .i64, .int .i64, .int .i64, .int .i64] a_c, iv m_k] Tryd.f16 0 n (st2 Tryd.f16.ntmps [.sl Tryd.f16.ntmps a_n, iv (stK 6 k), .non, .non, .non, iv (wr ((i : Int) + 1))] [.row a_l 62 a_n [.int .i64, .int .i64, .int .i64, .int .i64, .int .i64, .int .i64] (stD i 0 6 d k)])) none) none) none) none) none) none) (some (.out (iv (k)) [.row a_l 62 a_n [.int .i64, .int .i64, .int .i64, .int .i64, .int .i64, .int .i64] (d), .non])) := by kernel_rfl
theorem r16_run (K a_n : Nat) (a_l : Bool) (m_k : Int) (a_c : Nat → Nat → Int) (hn : a_n ≤ 1048576) : ∀ (m i n : Nat) (k : Int) (d : Nat → Nat → Int), i + m = a_n → m < n → runW Tryd.prog GLv Γ87 K (cfgK [true, true, false, false, false, true]) [.row a_l 62 a_n [.int .i64, .int .i64, .int .i64, .int .i64, .int .i64, .int .i64] a_c, iv m_k] Tryd.f16 0 n (st2 Tryd.f16.ntmps [.sl Tryd.f16.ntmps a_n, iv (k), .non, .non, .non, iv ((i : Int))] [.row a_l 62 a_n [.int .i64, .int .i64, .int .i64, .int .i64, .int .i64, .int .i64] (d)]) = some (.out (iv (mkK 6 m k)) [.row a_l 62 a_n [.int .i64, .int .i64, .int .i64, .int .i64, .int .i64, .int .i64] (mkC 6 i m d k), .non]) := by
  intro m
  induction m with
  | zero =>
    intro i n k d h1 h2
    obtain ⟨n, rfl⟩ : ∃ n', n = n' + 1 := ⟨n - 1, by omega⟩
    rw [r16_step, nat_lt i a_n, show decide (i < a_n) = false by simp; omega]
    rfl
  | succ m ih =>
    intro i n k d h1 h2
    obtain ⟨n, rfl⟩ : ∃ n', n = n' + 1 := ⟨n - 1, by omega⟩
    rw [r16_step, nat_nn, nat_lt i a_n, show decide (i < a_n) = true by simp; omega]
    simp only [Bool.and_self, cond_true]
    rw [wr_succ (by omega), ih (i + 1) n _ _ (by omega) (by omega)]
    rfl

theorem e16 (a_l : Bool) (a_n : Nat) (a_c : Nat → Nat → Int) (m_k : Int) (hp : (Nat.ble a_n 1048576) = true) : evW Tryd.prog GLv Γ87 (a_n + 2) (cfgK [true, true, false, false, false, true])  Tryd.f16 [.row a_l 62 a_n [.int .i64, .int .i64, .int .i64, .int .i64, .int .i64, .int .i64] a_c, .val (.int .i64 m_k)] = some (.out (iv (mkK 6 a_n m_k)) [.row a_l 62 a_n [.int .i64, .int .i64, .int .i64, .int .i64, .int .i64, .int .i64] (mkC 6 0 a_n a_c m_k), .non]) := by
  have hn := Nat.le_of_ble_eq_true hp
  refine (show _ = runW Tryd.prog GLv Γ87 (a_n + 2) (cfgK [true, true, false, false, false, true]) [.row a_l 62 a_n [.int .i64, .int .i64, .int .i64, .int .i64, .int .i64, .int .i64] a_c, iv m_k] Tryd.f16 0 (a_n + 2) (st2 Tryd.f16.ntmps [.sl Tryd.f16.ntmps a_n, iv (m_k), .non, .non, .non, iv (((0 : Nat) : Int))] [.row a_l 62 a_n [.int .i64, .int .i64, .int .i64, .int .i64, .int .i64, .int .i64] (a_c)]) from by kernel_rfl).trans ?_
  exact r16_run _ a_n a_l m_k a_c hn a_n 0 _ _ _ (by omega) (by omega)
theorem m16 : Meets Tryd.prog GLv 16 s16 := by
  refine meetsW mix0 G87 Tryd.func16 (by kernel_rfl) (by kernel_rfl) s16 fun args x h => ?_
  unfold s16 at h
  split at h
  · rename_i a_l a_n a_c m_k
    simp only [Option.some.injEq, Prod.mk.injEq] at h
    obtain ⟨hp, rfl⟩ := h
    exact ⟨_, _, by kernel_rfl, e16 a_l a_n a_c m_k hp⟩
  · cases h
abbrev Γ88 : List (Nat × Ctr) := (16, s16) :: Γ87
theorem G88 : Sound Tryd.prog GLv Γ88 := G87.cons m16

-- laws.heldPointS
def s17 : Ctr := fun
  | [.arr a_n [.int .i64, .int .i64, .int .i64, .int .i64, .int .i64, .int .i64] a_c, .val (.int .i64 m_k)] => some (Nat.ble a_n 1048576, iv (hdK 6 a_c 0 a_n m_k))
  | _ => none

theorem r17_step (K n a_n : Nat) (m_k : Int) (a_c : Nat → Nat → Int) (i : Nat) (k : Int) : runW Tryd.prog GLv Γ88 K (cfgK [true, true, false, false, false, true]) [.arr a_n [.int .i64, .int .i64, .int .i64, .int .i64, .int .i64, .int .i64] a_c, iv m_k] Tryd.f17 0 (n + 1) (stL Tryd.f17.ntmps [.arr a_n [.int .i64, .int .i64, .int .i64, .int .i64, .int .i64, .int .i64] a_c, iv (k), .non, .non, .non, iv ((i : Int))]) = cond (decide ((i : Int) < (a_n : Int))) (cond (decide (0 ≤ (i : Int)) && decide ((i : Int) < (a_n : Int))) (cond (!(a_c i 0 == k)) (some (iv (-1))) (cond (decide (0 ≤ (i : Int)) && decide ((i : Int) < (a_n : Int))) (cond (!(a_c i 1 == wr (k + 1))) (some (iv (-1))) (cond (decide (0 ≤ (i : Int)) && decide ((i : Int) < (a_n : Int))) (cond (!(a_c i 2 == wr (wr (k + 1) + 1))) (some (iv (-1))) (cond (decide (0 ≤ (i : Int)) && decide ((i : Int) < (a_n : Int))) (cond (!(a_c i 3 == wr (wr (wr (k + 1) + 1) + 1))) (some (iv (-1))) (cond (decide (0 ≤ (i : Int)) && decide ((i : Int) < (a_n : Int))) (cond (!(a_c i 4 == wr (wr (wr (wr (k + 1) + 1) + 1) + 1))) (some (iv (-1))) (cond (decide (0 ≤ (i : Int)) && decide ((i : Int) < (a_n : Int))) (cond (!(a_c i 5 == wr (wr (wr (wr (wr (k + 1) + 1) + 1) + 1) + 1))) (some (iv (-1))) (runW Tryd.prog GLv Γ88 K (cfgK [true, true, false, false, false, true]) [.arr a_n [.int .i64, .int .i64, .int .i64, .int .i64, .int .i64, .int .i64] a_c, iv m_k] Tryd.f17 0 n (stL Tryd.f17.ntmps [.arr a_n [.int .i64, .int .i64, .int .i64, .int .i64, .int .i64, .int .i64] a_c, iv (stK 6 k), .non, .non, .non, iv (wr ((i : Int) + 1))]))) none)) none)) none)) none)) none)) none) (some (iv k)) := by kernel_rfl
theorem r17_run (K a_n : Nat) (m_k : Int) (a_c : Nat → Nat → Int) (hn : a_n ≤ 1048576) : ∀ (m i n : Nat) (k : Int), i + m = a_n → m < n → runW Tryd.prog GLv Γ88 K (cfgK [true, true, false, false, false, true]) [.arr a_n [.int .i64, .int .i64, .int .i64, .int .i64, .int .i64, .int .i64] a_c, iv m_k] Tryd.f17 0 n (stL Tryd.f17.ntmps [.arr a_n [.int .i64, .int .i64, .int .i64, .int .i64, .int .i64, .int .i64] a_c, iv (k), .non, .non, .non, iv ((i : Int))]) = some (iv (hdK 6 a_c i m k)) := by
  intro m
  induction m with
  | zero =>
    intro i n k h1 h2
    obtain ⟨n, rfl⟩ : ∃ n', n = n' + 1 := ⟨n - 1, by omega⟩
    rw [r17_step, nat_lt i a_n, show decide (i < a_n) = false by simp; omega]
    rfl
  | succ m ih =>
    intro i n k h1 h2
    obtain ⟨n, rfl⟩ : ∃ n', n = n' + 1 := ⟨n - 1, by omega⟩
    rw [r17_step, nat_nn, nat_lt i a_n, show decide (i < a_n) = true by simp; omega]
    simp only [Bool.and_self, cond_true]
    rw [wr_succ (by omega), ih (i + 1) n _ (by omega) (by omega)]
    simp only [hdK, hdR]
    cases a_c i 0 == k <;> cases a_c i 1 == wr (k + 1) <;> cases a_c i 2 == wr (wr (k + 1) + 1) <;> cases a_c i 3 == wr (wr (wr (k + 1) + 1) + 1) <;> cases a_c i 4 == wr (wr (wr (wr (k + 1) + 1) + 1) + 1) <;> cases a_c i 5 == wr (wr (wr (wr (wr (k + 1) + 1) + 1) + 1) + 1) <;> rfl

theorem e17 (a_n : Nat) (a_c : Nat → Nat → Int) (m_k : Int) (hp : (Nat.ble a_n 1048576) = true) : evW Tryd.prog GLv Γ88 (a_n + 2) (cfgK [true, true, false, false, false, true])  Tryd.f17 [.arr a_n [.int .i64, .int .i64, .int .i64, .int .i64, .int .i64, .int .i64] a_c, .val (.int .i64 m_k)] = some (iv (hdK 6 a_c 0 a_n m_k)) := by
  have hn := Nat.le_of_ble_eq_true hp
  refine (show _ = runW Tryd.prog GLv Γ88 (a_n + 2) (cfgK [true, true, false, false, false, true]) [.arr a_n [.int .i64, .int .i64, .int .i64, .int .i64, .int .i64, .int .i64] a_c, iv m_k] Tryd.f17 0 (a_n + 2) (stL Tryd.f17.ntmps [.arr a_n [.int .i64, .int .i64, .int .i64, .int .i64, .int .i64, .int .i64] a_c, iv (m_k), .non, .non, .non, iv (((0 : Nat) : Int))]) from by kernel_rfl).trans ?_
  exact r17_run _ a_n m_k a_c hn a_n 0 _ _ (by omega) (by omega)
theorem m17 : Meets Tryd.prog GLv 17 s17 := by
  refine meetsW mix0 G88 Tryd.func17 (by kernel_rfl) (by kernel_rfl) s17 fun args x h => ?_
  unfold s17 at h
  split at h
  · rename_i a_n a_c m_k
    simp only [Option.some.injEq, Prod.mk.injEq] at h
    obtain ⟨hp, rfl⟩ := h
    exact ⟨_, _, by kernel_rfl, e17 a_n a_c m_k hp⟩
  · cases h
abbrev Γ89 : List (Nat × Ctr) := (17, s17) :: Γ88
theorem G89 : Sound Tryd.prog GLv Γ89 := G88.cons m17

-- slices.Grow[[]impl.Point,impl.Point]
def s121 : Ctr := fun
  | [.val (.slice none 0 0), .val (.int .i64 m)] => some (inB m 1 1000000, AV.row true 62 (0) [.int .i64, .int .i64, .int .i64, .int .i64, .int .i64, .int .i64] (fun _ _ => 0))
  | _ => none

theorem e121 (m : Int) (hp : (inB m 1 1000000) = true) : evW Tryd.prog GLv Γ89 (0) (⟨[], [], [(22, [0])], 1, []⟩)  Tryd.f121 [.val (.slice none 0 0), .val (.int .i64 m)] = some (AV.row true 62 (0) [.int .i64, .int .i64, .int .i64, .int .i64, .int .i64, .int .i64] (fun _ _ => 0)) := by
  have hm := inB_iff.1 hp
  refine (show _ = cond (decide (m < 0)) (none) (cond (decide (wr (m - 0) > 0)) (cond (decide (0 < wr (m - 0)) && decide (wr (m - 0) * 48 ≤ 140737488355328)) (cond (decide ((0 : Int) ≤ 0) && decide ((0 : Int) ≤ ((wr (m - 0)).toNat : Int))) (some (AV.row true 62 (0) [.int .i64, .int .i64, .int .i64, .int .i64, .int .i64, .int .i64] (fun _ _ => 0))) (none)) (none)) (some (AV.val (.slice none 0 0)))) from by kernel_rfl).trans ?_
  rw [show wr (m - 0) = m by rw [wr_in (by omega) (by omega)]; omega, show decide (m < 0) = false by simp; omega, show decide (m > 0) = true by simp; omega, show decide (m * 48 ≤ 140737488355328) = true by simp; omega, show decide ((0 : Int) ≤ (m.toNat : Int)) = true from decide_eq_true (by omega)]
  rfl
theorem m121 : Meets Tryd.prog GLv 121 s121 := by
  refine meetsW mix0 G89 Tryd.func121 (by kernel_rfl) (by kernel_rfl) s121 fun args x h => ?_
  unfold s121 at h
  split at h
  · rename_i m
    simp only [Option.some.injEq, Prod.mk.injEq] at h
    obtain ⟨hp, rfl⟩ := h
    exact ⟨_, _, by kernel_rfl, e121 m hp⟩
  · cases h
abbrev Γ90 : List (Nat × Ctr) := (121, s121) :: Γ89
theorem G90 : Sound Tryd.prog GLv Γ90 := G89.cons m121

-- slices.Clone[[]impl.Point,impl.Point]
def s98 : Ctr := fun
  | [.arr a_n [.int .i64, .int .i64, .int .i64, .int .i64, .int .i64, .int .i64] a_c] => some (inB a_n 1 1000000, AV.row true 62 (a_n) [.int .i64, .int .i64, .int .i64, .int .i64, .int .i64, .int .i64] (catC 0 zeroC a_c))
  | _ => none

theorem e98 (a_n : Nat) (a_c : Nat → Nat → Int) (hp : (inB a_n 1 1000000) = true) : evW Tryd.prog GLv Γ90 (0) (⟨[], [], [(7, [0])], 1, []⟩)  Tryd.f98 [.arr a_n [.int .i64, .int .i64, .int .i64, .int .i64, .int .i64, .int .i64] a_c] = some (AV.row true 62 (a_n) [.int .i64, .int .i64, .int .i64, .int .i64, .int .i64, .int .i64] (catC 0 zeroC a_c)) := by
  have hn := inB_iff.1 hp
  refine (show _ = cond (decide (0 < a_n)) (cond (Nat.ble ((0 + a_n) * 48) 140737488355328) (some (AV.row (Nat.blt 0 a_n || false) 62 (0 + a_n) [.int .i64, .int .i64, .int .i64, .int .i64, .int .i64, .int .i64] (catC 0 zeroC a_c))) (none)) (none) from by kernel_rfl).trans ?_
  rw [show decide (0 < a_n) = true by simp; omega, show Nat.ble ((0 + a_n) * 48) 140737488355328 = true from Nat.ble_eq_true_of_le (by omega), Nat.zero_add, show (Nat.blt 0 a_n || false) = true by rw [Bool.or_false]; exact Nat.ble_eq_true_of_le (by omega)]
  rfl
theorem m98 : Meets Tryd.prog GLv 98 s98 := by
  refine meetsW mix0 G90 Tryd.func98 (by kernel_rfl) (by kernel_rfl) s98 fun args x h => ?_
  unfold s98 at h
  split at h
  · rename_i a_n a_c
    simp only [Option.some.injEq, Prod.mk.injEq] at h
    obtain ⟨hp, rfl⟩ := h
    exact ⟨_, _, by kernel_rfl, e98 a_n a_c hp⟩
  · cases h
abbrev Γ91 : List (Nat × Ctr) := (98, s98) :: Γ90
theorem G91 : Sound Tryd.prog GLv Γ91 := G90.cons m98

-- Concat
def s107 : Ctr := fun
  | [.lst 2 1 g] => match g 0, g 1 with
    | [.arr a_n [.int .i64, .int .i64, .int .i64, .int .i64, .int .i64, .int .i64] a_c], [.arr b_n [.int .i64, .int .i64, .int .i64, .int .i64, .int .i64, .int .i64] b_c] => some (inB ((a_n + b_n : Nat) : Int) 1 1000000, AV.row true 62 (a_n + b_n) [.int .i64, .int .i64, .int .i64, .int .i64, .int .i64, .int .i64] (catC a_n (catC 0 zeroC a_c) b_c))
    | _, _ => none
  | _ => none

theorem e107 (a_n : Nat) (a_c : Nat → Nat → Int) (b_n : Nat) (b_c : Nat → Nat → Int) (hp : inB ((a_n + b_n : Nat) : Int) 1 1000000 = true) : evW Tryd.prog GLv Γ91 5 (⟨[true, false, false, true, false, false, true, false, false, true, true, true, false, false, false, false, false, false, false, false, false, false, false, false, false, true, true, true], [], [(24, [0]), (33, [0])], 1, []⟩) Tryd.f107 [.lst 2 1 fun i => [[.arr a_n [.int .i64, .int .i64, .int .i64, .int .i64, .int .i64, .int .i64] a_c], [.arr b_n [.int .i64, .int .i64, .int .i64, .int .i64, .int .i64, .int .i64] b_c]].getD i []] = some (AV.row true 62 (a_n + b_n) [.int .i64, .int .i64, .int .i64, .int .i64, .int .i64, .int .i64] (catC a_n (catC 0 zeroC a_c) b_c)) := by
  have hn := inB_iff.1 hp
  refine (show _ = cond (decide (wr (0 + (a_n : Int)) < 0)) (none) (cond (decide (wr (wr (0 + (a_n : Int)) + (b_n : Int)) < 0)) (none) (cond (inB (wr (wr (0 + (a_n : Int)) + (b_n : Int))) 1 1000000) (cond (Nat.ble ((0 + a_n) * 48) 140737488355328) (cond (Nat.ble ((0 + a_n + b_n) * 48) 140737488355328) (some (AV.row (Nat.blt 0 b_n || (Nat.blt 0 a_n || true)) 62 (0 + a_n + b_n) [.int .i64, .int .i64, .int .i64, .int .i64, .int .i64, .int .i64] (catC (0 + a_n) (catC 0 zeroC a_c) b_c))) (none)) (none)) (none))) from by kernel_rfl).trans ?_
  rw [show wr (0 + (a_n : Int)) = (a_n : Int) by rw [wr_in (by omega) (by omega)]; simp, show wr ((a_n : Int) + (b_n : Int)) = ((a_n + b_n : Nat) : Int) by rw [wr_in (by omega) (by omega)]; rfl, hp, show decide ((a_n : Int) < 0) = false from decide_eq_false (by omega), show decide (((a_n + b_n : Nat) : Int) < 0) = false from decide_eq_false (by omega),
    show Nat.ble ((0 + a_n) * 48) 140737488355328 = true from Nat.ble_eq_true_of_le (by omega), show Nat.ble ((0 + a_n + b_n) * 48) 140737488355328 = true from Nat.ble_eq_true_of_le (by omega), Bool.or_true, Bool.or_true, Nat.zero_add]
  rfl
theorem m107 : Meets Tryd.prog GLv 107 s107 := by
  refine Meets.lst2 Tryd.func107 (by kernel_rfl) (by kernel_rfl) fun args x h => ?_
  unfold s107 at h
  split at h
  · rename_i g
    split at h
    · rename_i a_n a_c b_n b_c h0 h1
      simp only [Option.some.injEq, Prod.mk.injEq] at h
      obtain ⟨hp, rfl⟩ := h
      exact ⟨g, fun i => ([[.arr a_n [.int .i64, .int .i64, .int .i64, .int .i64, .int .i64, .int .i64] a_c], [.arr b_n [.int .i64, .int .i64, .int .i64, .int .i64, .int .i64, .int .i64] b_c]] : List (List AV)).getD i [], rfl, h0, h1, meets_one mix0 G91 Tryd.func107 (by kernel_rfl) (by kernel_rfl) _ _ (by kernel_rfl) (e107 a_n a_c b_n b_c hp)⟩
    · cases h
  · cases h
abbrev Γ92 : List (Nat × Ctr) := (107, s107) :: Γ91
theorem G92 : Sound Tryd.prog GLv Γ92 := G91.cons m107

-- impl.rotated
def s79 : Ctr := fun
  | [.arr a_n [.int .i64, .int .i64, .int .i64, .int .i64, .int .i64, .int .i64] a_c] => some (inB a_n 1 1000000 && allP a_n a_c, AV.row true 62 (a_n) [.int .i64, .int .i64, .int .i64, .int .i64, .int .i64, .int .i64] (rotC a_n (lcF a_c 0 a_n 0) a_c))
  | _ => none

theorem e79 (a_n : Nat) (a_c : Nat → Nat → Int) (hp : (inB a_n 1 1000000 && allP a_n a_c) = true) : evW Tryd.prog GLv Γ92 (0) (⟨[], [], [(16, [0])], 1, []⟩)  Tryd.f79 [.arr a_n [.int .i64, .int .i64, .int .i64, .int .i64, .int .i64, .int .i64] a_c] = some (AV.row true 62 (a_n) [.int .i64, .int .i64, .int .i64, .int .i64, .int .i64, .int .i64] (rotC a_n (lcF a_c 0 a_n 0) a_c)) := by
  rw [Bool.and_eq_true] at hp
  obtain ⟨hp, hv⟩ := hp
  have hn := inB_iff.1 hp
  have hl := lc_lt a_c a_n 0 0 a_n (by omega) (by omega)
  refine (show _ = cond ((a_n : Int) == 0) (some (AV.val (.slice none 0 0))) (cond (inB (a_n : Int) 1 1048576 && allP a_n a_c) (cond (decide (0 ≤ ((lcF a_c 0 a_n 0) : Int)) && decide (((lcF a_c 0 a_n 0) : Int) ≤ (a_n : Int))) (cond (decide (0 ≤ ((lcF a_c 0 a_n 0) : Int)) && decide (((lcF a_c 0 a_n 0) : Int) ≤ (a_n : Int))) (cond (inB ((a_n - (lcF a_c 0 a_n 0) + (lcF a_c 0 a_n 0) : Nat) : Int) 1 1000000) (some (AV.row true 62 (a_n - (lcF a_c 0 a_n 0) + (lcF a_c 0 a_n 0)) [.int .i64, .int .i64, .int .i64, .int .i64, .int .i64, .int .i64] (rotC a_n (lcF a_c 0 a_n 0) a_c))) (none)) (none)) (none)) (none)) from by kernel_rfl).trans ?_
  rw [show ((a_n : Int) == 0) = false by simp; omega, show inB (a_n : Int) 1 1048576 = true from inB_iff.2 (by omega), hv, show decide (0 ≤ ((lcF a_c 0 a_n 0) : Int)) = true by simp, show decide (((lcF a_c 0 a_n 0) : Int) ≤ (a_n : Int)) = true by simp; omega, show a_n - (lcF a_c 0 a_n 0) + (lcF a_c 0 a_n 0) = a_n by omega, hp]
  rfl
theorem m79 : Meets Tryd.prog GLv 79 s79 := by
  refine meetsW mix0 G92 Tryd.func79 (by kernel_rfl) (by kernel_rfl) s79 fun args x h => ?_
  unfold s79 at h
  split at h
  · rename_i a_n a_c
    simp only [Option.some.injEq, Prod.mk.injEq] at h
    obtain ⟨hp, rfl⟩ := h
    exact ⟨_, _, by kernel_rfl, e79 a_n a_c hp⟩
  · cases h
abbrev Γ93 : List (Nat × Ctr) := (79, s79) :: Γ92
theorem G93 : Sound Tryd.prog GLv Γ93 := G92.cons m79

-- spec.l03Turned
def s68 : Ctr := fun
  | [.arr a_n [.int .i64, .int .i64, .int .i64, .int .i64, .int .i64, .int .i64] a_c] => some (inB a_n 1 1000000 && allP a_n a_c, AV.row true 62 (a_n) [.int .i64, .int .i64, .int .i64, .int .i64, .int .i64, .int .i64] (rotC a_n (lcF a_c 0 a_n 0) a_c))
  | _ => none

theorem r68_step (K n a_n : Nat) (a_c : Nat → Nat → Int) (i l : Nat) : runW Tryd.prog GLv Γ93 K ⟨[true, false, false, true, true], [], [(27, [0]), (32, [0])], 1, []⟩ [.arr a_n [.int .i64, .int .i64, .int .i64, .int .i64, .int .i64, .int .i64] a_c] Tryd.f68 0 (n + 1) (st2 Tryd.f68.ntmps [.arr a_n [.int .i64, .int .i64, .int .i64, .int .i64, .int .i64, .int .i64] a_c, .non, .non, iv ((l : Int)), iv ((i : Int))] [.non]) = cond (decide ((i : Int) < (a_n : Int))) (cond ((decide (0 ≤ (i : Int)) && decide ((i : Int) < (a_n : Int)))) (cond ((decide (0 ≤ (l : Int)) && decide ((l : Int) < (a_n : Int)))) (cond (valP (pAt a_c i) && valP (pAt a_c l)) (cond (decide (cpP (pAt a_c i) (pAt a_c l) < 0)) (runW Tryd.prog GLv Γ93 K ⟨[true, false, false, true, true], [], [(27, [0]), (32, [0])], 1, []⟩ [.arr a_n [.int .i64, .int .i64, .int .i64, .int .i64, .int .i64, .int .i64] a_c] Tryd.f68 0 n (st2 Tryd.f68.ntmps [.arr a_n [.int .i64, .int .i64, .int .i64, .int .i64, .int .i64, .int .i64] a_c, .non, .non, iv ((i : Int)), iv (wr ((i : Int) + 1))] [.non])) (runW Tryd.prog GLv Γ93 K ⟨[true, false, false, true, true], [], [(27, [0]), (32, [0])], 1, []⟩ [.arr a_n [.int .i64, .int .i64, .int .i64, .int .i64, .int .i64, .int .i64] a_c] Tryd.f68 0 n (st2 Tryd.f68.ntmps [.arr a_n [.int .i64, .int .i64, .int .i64, .int .i64, .int .i64, .int .i64] a_c, .non, .non, iv ((l : Int)), iv (wr ((i : Int) + 1))] [.non]))) (none)) (none)) (none)) (cond (decide (0 ≤ (l : Int)) && decide ((l : Int) ≤ (a_n : Int))) (cond (Nat.ble ((0 + (a_n - l)) * 48) 140737488355328) (cond (decide (0 ≤ (l : Int)) && decide ((l : Int) ≤ (a_n : Int))) (cond (Nat.ble ((0 + (a_n - l) + l) * 48) 140737488355328) (some (AV.row (Nat.blt 0 l || (Nat.blt 0 (a_n - l) || false)) 62 (0 + (a_n - l) + l) [.int .i64, .int .i64, .int .i64, .int .i64, .int .i64, .int .i64] (catC (0 + (a_n - l)) (catC 0 zeroC fun i => a_c (i + l)) a_c))) (none)) (none)) (none)) (none)) := by kernel_rfl
theorem r68_run (K a_n : Nat) (a_c : Nat → Nat → Int) (hn : a_n ≤ 1000000) (hv : ∀ i, i < a_n → valP (pAt a_c i) = true) : ∀ (m i l n : Nat), i + m = a_n → l < a_n → m < n → runW Tryd.prog GLv Γ93 K ⟨[true, false, false, true, true], [], [(27, [0]), (32, [0])], 1, []⟩ [.arr a_n [.int .i64, .int .i64, .int .i64, .int .i64, .int .i64, .int .i64] a_c] Tryd.f68 0 n (st2 Tryd.f68.ntmps [.arr a_n [.int .i64, .int .i64, .int .i64, .int .i64, .int .i64, .int .i64] a_c, .non, .non, iv ((l : Int)), iv ((i : Int))] [.non]) = some (AV.row true 62 (a_n) [.int .i64, .int .i64, .int .i64, .int .i64, .int .i64, .int .i64] (rotC a_n (lcF a_c i m l) a_c)) := by
  intro m
  induction m with
  | zero =>
    intro i l n h1 h2 h3
    obtain ⟨n, rfl⟩ : ∃ n', n = n' + 1 := ⟨n - 1, by omega⟩
    rw [r68_step, nat_lt i a_n, show decide (i < a_n) = false by simp; omega]
    rw [show decide (0 ≤ (l : Int)) = true by simp, show decide ((l : Int) ≤ (a_n : Int)) = true by simp; omega, show Nat.ble ((0 + (a_n - l)) * 48) 140737488355328 = true from Nat.ble_eq_true_of_le (by omega), show Nat.ble ((0 + (a_n - l) + l) * 48) 140737488355328 = true from Nat.ble_eq_true_of_le (by omega),
      show (Nat.blt 0 (a_n - l) || false) = true by rw [Bool.or_false]; exact Nat.ble_eq_true_of_le (by omega), Bool.or_true, Nat.zero_add, show a_n - l + l = a_n by omega]
    rfl
  | succ m ih =>
    intro i l n h1 h2 h3
    obtain ⟨n, rfl⟩ : ∃ n', n = n' + 1 := ⟨n - 1, by omega⟩
    rw [r68_step, nat_nn, nat_nn, nat_lt i a_n, nat_lt l a_n, show decide (i < a_n) = true by simp; omega, show decide (l < a_n) = true by simp; omega, hv i (by omega), hv l h2]
    simp only [Bool.and_self, cond_true]
    rw [wr_succ (by omega), ih (i + 1) i n (by omega) (by omega) (by omega), ih (i + 1) l n (by omega) h2 (by omega)]
    simp only [lcF]
    cases (decide (cpP (pAt a_c i) (pAt a_c l) < 0)) <;> rfl

theorem e68 (a_n : Nat) (a_c : Nat → Nat → Int) (hp : (inB a_n 1 1000000 && allP a_n a_c) = true) : evW Tryd.prog GLv Γ93 (a_n + 2) (⟨[true, false, false, true, true], [], [(27, [0]), (32, [0])], 1, []⟩)  Tryd.f68 [.arr a_n [.int .i64, .int .i64, .int .i64, .int .i64, .int .i64, .int .i64] a_c] = some (AV.row true 62 (a_n) [.int .i64, .int .i64, .int .i64, .int .i64, .int .i64, .int .i64] (rotC a_n (lcF a_c 0 a_n 0) a_c)) := by
  rw [Bool.and_eq_true] at hp
  obtain ⟨hp, hv⟩ := hp
  have hn := inB_iff.1 hp
  refine (show _ = runW Tryd.prog GLv Γ93 (a_n + 2) ⟨[true, false, false, true, true], [], [(27, [0]), (32, [0])], 1, []⟩ [.arr a_n [.int .i64, .int .i64, .int .i64, .int .i64, .int .i64, .int .i64] a_c] Tryd.f68 0 (a_n + 2) (st2 Tryd.f68.ntmps [.arr a_n [.int .i64, .int .i64, .int .i64, .int .i64, .int .i64, .int .i64] a_c, .non, .non, iv (((0 : Nat) : Int)), iv (((1 : Nat) : Int))] [.non]) from by kernel_rfl).trans ?_
  rw [r68_run _ a_n a_c (by omega) (allP_iff.1 hv) (a_n - 1) 1 0 _ (by omega) (by omega) (by omega), lc_one a_n a_c (by omega)]
theorem m68 : Meets Tryd.prog GLv 68 s68 := by
  refine meetsW mix0 G93 Tryd.func68 (by kernel_rfl) (by kernel_rfl) s68 fun args x h => ?_
  unfold s68 at h
  split at h
  · rename_i a_n a_c
    simp only [Option.some.injEq, Prod.mk.injEq] at h
    obtain ⟨hp, rfl⟩ := h
    exact ⟨_, _, by kernel_rfl, e68 a_n a_c hp⟩
  · cases h
abbrev Γ94 : List (Nat × Ctr) := (68, s68) :: Γ93
theorem G94 : Sound Tryd.prog GLv Γ94 := G93.cons m68

end Go.Proofs.YtooikeeckoflpaaDoor
