/- Contracts of the program's functions, by the evaluator. -/
import Derived.Test.YtdildcdilhgdkaaGreatDoorK1
import Derived.Test.YtdildcdilhgdkaaGreatDoorPlF
namespace Go.Proofs.YtdildcdilhgdkaaGreatDoor
open Go.Ev
set_option linter.unusedVariables false
set_option linter.unusedSimpArgs false
set_option maxRecDepth 100000
theorem sp_step (K n a_n b_n i : Nat) (a_c b_c : NNI) : runW Tryz.prog GLv Γ126 K ⟨kx17, [], [], 0, []⟩ [.arr a_n K6x a_c, .arr b_n K6x b_c] Tryz.f35 0 (n + 1) (stL Tryz.f35.ntmps [.arr a_n K6x a_c, .arr b_n K6x b_c, .non, .non, .non, iv ((i : Int))]) = cond (decide ((i : Int) < (a_n : Int))) (cond ((decide (0 <= (i : Int)) && decide ((i : Int) < (a_n : Int)))) (cond ((decide (0 <= (i : Int)) && decide ((i : Int) < (b_n : Int)))) (cond (!(eqP2 (pAt a_c i) (pAt b_c i))) (some (bv false)) (runW Tryz.prog GLv Γ126 K ⟨kx17, [], [], 0, []⟩ [.arr a_n K6x a_c, .arr b_n K6x b_c] Tryz.f35 0 n (stL Tryz.f35.ntmps [.arr a_n K6x a_c, .arr b_n K6x b_c, .non, .non, .non, iv (wr ((i : Int) + 1))]))) (none)) (none)) (some (bv true)) := by kernel_rfl
theorem sp_run (K a_n : Nat) (a_c b_c : NNI) (hn : a_n <= 1048576) : ∀ (r i n : Nat), i + r = a_n -> r < n -> runW Tryz.prog GLv Γ126 K ⟨kx17, [], [], 0, []⟩ [.arr a_n K6x a_c, .arr a_n K6x b_c] Tryz.f35 0 n (stL Tryz.f35.ntmps [.arr a_n K6x a_c, .arr a_n K6x b_c, .non, .non, .non, iv ((i : Int))]) = some (bv (allF (fun i => eqP (pAt a_c i) (pAt b_c i)) i r)) := by
  intro r
  induction r with
  | zero =>
    intro i n h1 h2
    obtain ⟨n, rfl⟩ : ∃ n', n = n' + 1 := ⟨n - 1, by omega⟩
    rw [sp_step, nat_lt i a_n, show decide (i < a_n) = false by simp; omega]
    rfl
  | succ r ih =>
    intro i n h1 h2
    obtain ⟨n, rfl⟩ : ∃ n', n = n' + 1 := ⟨n - 1, by omega⟩
    rw [sp_step, nat_nn, nat_lt i a_n, show decide (i < a_n) = true by simp; omega, eqP2_P, wr_succ (by omega)]
    simp only [Bool.and_self, cond_true, allF]
    rw [ih (i + 1) n (by omega) (by omega)]
    cases eqP (pAt a_c i) (pAt b_c i) <;> rfl
-- spec.l03Same
noncomputable def s35 : Ctr := fun
  | [.arr a_n K6x a_c, .arr b_n K6x b_c] => some (Nat.ble (a_n) 1048576, bv (eqPS a_n a_c b_n b_c))
  | _ => none
theorem e35 (a_n : Nat) (a_c : NNI) (b_n : Nat) (b_c : NNI) (hp : (Nat.ble (a_n) 1048576) = true) : evW Tryz.prog GLv Γ126 (a_n + 2) (⟨kx17, [], [], 0, []⟩)  Tryz.f35 [.arr a_n K6x a_c, .arr b_n K6x b_c] = some (bv (eqPS a_n a_c b_n b_c)) := by
  have hn := Nat.le_of_ble_eq_true hp
  refine (show _ = cond ((a_n : Int) != (b_n : Int)) (some (bv false)) (runW Tryz.prog GLv Γ126 (a_n + 2) ⟨kx17, [], [], 0, []⟩ [.arr a_n K6x a_c, .arr b_n K6x b_c] Tryz.f35 0 (a_n + 2) (stL Tryz.f35.ntmps [.arr a_n K6x a_c, .arr b_n K6x b_c, .non, .non, .non, iv (((0 : Nat) : Int))])) from by kernel_rfl).trans ?_
  unfold eqPS
  by_cases e : a_n = b_n
  . subst e
    rw [bne_self_eq_false, decide_eq_true rfl, Bool.true_and]
    exact sp_run _ a_n a_c b_c hn a_n 0 _ (by omega) (by omega)
  . rw [show ((a_n : Int) != (b_n : Int)) = true by simpa using fun h => e (Int.ofNat.inj h), decide_eq_false e]
    rfl
theorem m35 : Meets Tryz.prog GLv 35 s35 := by
  refine meetsW mix0 G126 Tryz.func35 (by kernel_rfl) (by kernel_rfl) s35 fun args x h => ?_
  unfold s35 at h
  split at h
  . rename_i a_n a_c b_n b_c
    simp only [Option.some.injEq, Prod.mk.injEq] at h
    obtain ⟨hp, rfl⟩ := h
    exact ⟨_, _, by kernel_rfl, e35 a_n a_c b_n b_c hp⟩
  . cases h
noncomputable abbrev Γ127 : List (Nat × Ctr) := (35, s35) :: Γ126
theorem G127 : Sound Tryz.prog GLv Γ127 := G126.cons m35
-- spec.SamePolygon
noncomputable def s14 : Ctr := fun
  | [.arr a_n K6x a_c, .arr b_n K6x b_c] => some (Nat.ble (a_n) 1048576, bv (eqPS a_n a_c b_n b_c))
  | _ => none
theorem e14 (a_n : Nat) (a_c : NNI) (b_n : Nat) (b_c : NNI) (hp : (Nat.ble (a_n) 1048576) = true) : evN Tryz.prog GLv Γ127 (0) []  Tryz.f14 [.arr a_n K6x a_c, .arr b_n K6x b_c] = some (bv (eqPS a_n a_c b_n b_c)) := by
  refine (show _ = cond (Nat.ble (a_n) 1048576) (some (bv (eqPS a_n a_c b_n b_c))) none from by kernel_rfl).trans ?_
  rw [hp]
  rfl
theorem m14 : Meets Tryz.prog GLv 14 s14 := by
  refine meetsN mix0 glv G127 Tryz.func14 (by kernel_rfl) (by kernel_rfl) s14 fun args x h => ?_
  unfold s14 at h
  split at h
  . rename_i a_n a_c b_n b_c
    simp only [Option.some.injEq, Prod.mk.injEq] at h
    obtain ⟨hp, rfl⟩ := h
    exact ⟨_, _, by kernel_rfl, e14 a_n a_c b_n b_c hp⟩
  . cases h
noncomputable abbrev Γ128 : List (Nat × Ctr) := (14, s14) :: Γ127
theorem G128 : Sound Tryz.prog GLv Γ128 := G127.cons m14
end Go.Proofs.YtdildcdilhgdkaaGreatDoor
