/- Contracts of the program's functions, by the evaluator. -/
import Derived.Test.YtdildcdilhgdkaaGreatDoorC10
import Derived.Test.YtdildcdilhgdkaaGreatDoorPlD
namespace Go.Proofs.YtdildcdilhgdkaaGreatDoor
open Go.Ev
set_option linter.unusedVariables false
set_option linter.unusedSimpArgs false
set_option maxRecDepth 100000
-- impl.leastCorner
noncomputable def s49w : Ctr := fun
  | [.arr a_n K6x a_c] => some (inB a_n 1 1048576 && cmA a_n a_c, iv (lcF a_c 0 a_n 0 : Nat))
  | _ => none
theorem r49w_step (K n a_n : Nat) (a_c : NNI) (i l : Nat) : runW Tryz.prog GLv Γ96 K (cfgK kx25) [.arr a_n K6x a_c] Tryz.f49 0 (n + 1) (stL Tryz.f49.ntmps [.arr a_n K6x a_c, .non, .non, iv ((l : Int)), .non, .non, .arr a_n K6x a_c, iv (a_n : Int), iv ((i : Int))]) = cond (decide ((i : Int) < (a_n : Int))) (cond ((decide (0 <= (i : Int)) && decide ((i : Int) < (a_n : Int)))) (cond ((decide (0 <= (l : Int)) && decide ((l : Int) < (a_n : Int)))) (cond (cmP (pAt a_c i) (pAt a_c l)) (cond (decide (cpP (pAt a_c i) (pAt a_c l) < 0)) (runW Tryz.prog GLv Γ96 K (cfgK kx25) [.arr a_n K6x a_c] Tryz.f49 0 n (stL Tryz.f49.ntmps [.arr a_n K6x a_c, .non, .non, iv ((i : Int)), .non, .non, .arr a_n K6x a_c, iv (a_n : Int), iv (wr ((i : Int) + 1))])) (runW Tryz.prog GLv Γ96 K (cfgK kx25) [.arr a_n K6x a_c] Tryz.f49 0 n (stL Tryz.f49.ntmps [.arr a_n K6x a_c, .non, .non, iv ((l : Int)), .non, .non, .arr a_n K6x a_c, iv (a_n : Int), iv (wr ((i : Int) + 1))]))) (none)) (none)) (none)) (some (iv (l : Int))) := by kernel_rfl
theorem r49w_run (K a_n : Nat) (a_c : NNI) (hn : a_n <= 1048576) (hv : ∀ i j, i < a_n -> j < a_n -> cmP (pAt a_c i) (pAt a_c j) = true) : ∀ (m i l n : Nat), i + m = a_n -> l < a_n -> m < n -> runW Tryz.prog GLv Γ96 K (cfgK kx25) [.arr a_n K6x a_c] Tryz.f49 0 n (stL Tryz.f49.ntmps [.arr a_n K6x a_c, .non, .non, iv ((l : Int)), .non, .non, .arr a_n K6x a_c, iv (a_n : Int), iv ((i : Int))]) = some (iv (lcF a_c i m l : Nat)) := by
  intro m
  induction m with
  | zero =>
    intro i l n h1 h2 h3
    obtain ⟨n, rfl⟩ : ∃ n', n = n' + 1 := ⟨n - 1, by omega⟩
    rw [r49w_step, nat_lt i a_n, show decide (i < a_n) = false by simp; omega]
    rfl
  | succ m ih =>
    intro i l n h1 h2 h3
    obtain ⟨n, rfl⟩ : ∃ n', n = n' + 1 := ⟨n - 1, by omega⟩
    rw [r49w_step, nat_nn, nat_nn, nat_lt i a_n, nat_lt l a_n, show decide (i < a_n) = true by simp; omega, show decide (l < a_n) = true by simp; omega, hv i l (by omega) h2]
    simp only [Bool.and_self, cond_true]
    rw [wr_succ (by omega), ih (i + 1) i n (by omega) (by omega) (by omega), ih (i + 1) l n (by omega) h2 (by omega)]
    simp only [lcF]
    cases (decide (cpP (pAt a_c i) (pAt a_c l) < 0)) <;> rfl
theorem e49w (a_n : Nat) (a_c : NNI) (hp : (inB a_n 1 1048576 && cmA a_n a_c) = true) : evN Tryz.prog GLv Γ96 (a_n + 2) kx25  Tryz.f49 [.arr a_n K6x a_c] = some (iv (lcF a_c 0 a_n 0 : Nat)) := by
  simp only [Bool.and_eq_true, inB_iff] at hp
  obtain ⟨hn, hv⟩ := hp
  refine (show _ = runW Tryz.prog GLv Γ96 (a_n + 2) (cfgK kx25) [.arr a_n K6x a_c] Tryz.f49 0 (a_n + 2) (stL Tryz.f49.ntmps [.arr a_n K6x a_c, .non, .non, iv (((0 : Nat) : Int)), .non, .non, .arr a_n K6x a_c, iv (a_n : Int), iv (((0 : Nat) : Int))]) from by kernel_rfl).trans ?_
  exact r49w_run _ a_n a_c (by omega) (cmA_iff.1 hv) a_n 0 0 _ (by omega) (by omega) (by omega)
theorem m49w : Meets Tryz.prog GLv 49 s49w := by
  refine meetsN mix0 glv G96 Tryz.func49 (by kernel_rfl) (by kernel_rfl) s49w fun args x h => ?_
  unfold s49w at h
  split at h
  . rename_i a_n a_c
    simp only [Option.some.injEq, Prod.mk.injEq] at h
    obtain ⟨hp, rfl⟩ := h
    exact ⟨_, _, by kernel_rfl, e49w a_n a_c hp⟩
  . cases h
noncomputable abbrev Γ97 : List (Nat × Ctr) := (49, s49w) :: Γ96
theorem G97 : Sound Tryz.prog GLv Γ97 := G96.cons m49w
-- impl.rotated
noncomputable def s54w : Ctr := fun
  | [.arr a_n K6x a_c] => some (inB a_n 1 1000000 && cmA a_n a_c, AV.row true 35 (a_n) K6x (rotC a_n (lcF a_c 0 a_n 0) a_c))
  | _ => none
theorem e54w (a_n : Nat) (a_c : NNI) (hp : (inB a_n 1 1000000 && cmA a_n a_c) = true) : evW Tryz.prog GLv Γ97 (0) (⟨[], [], [(16, [0])], 1, []⟩)  Tryz.f54 [.arr a_n K6x a_c] = some (AV.row true 35 (a_n) K6x (rotC a_n (lcF a_c 0 a_n 0) a_c)) := by
  rw [Bool.and_eq_true] at hp
  obtain ⟨hp, hv⟩ := hp
  have hn := inB_iff.1 hp
  have hl := lc_lt a_c a_n 0 0 a_n (by omega) (by omega)
  refine (show _ = cond ((a_n : Int) == 0) (some (AV.val (.slice none 0 0))) (cond (inB (a_n : Int) 1 1048576 && cmA a_n a_c) (cond (decide (0 <= ((lcF a_c 0 a_n 0) : Int)) && decide (((lcF a_c 0 a_n 0) : Int) <= (a_n : Int))) (cond (decide (0 <= ((lcF a_c 0 a_n 0) : Int)) && decide (((lcF a_c 0 a_n 0) : Int) <= (a_n : Int))) (cond (inB ((a_n - (lcF a_c 0 a_n 0) + (lcF a_c 0 a_n 0) : Nat) : Int) 1 1000000) (some (AV.row true 35 (a_n - (lcF a_c 0 a_n 0) + (lcF a_c 0 a_n 0)) K6x (rotC a_n (lcF a_c 0 a_n 0) a_c))) (none)) (none)) (none)) (none)) from by kernel_rfl).trans ?_
  rw [show ((a_n : Int) == 0) = false by simp; omega, show inB (a_n : Int) 1 1048576 = true from inB_iff.2 (by omega), hv, show decide (0 <= ((lcF a_c 0 a_n 0) : Int)) = true by simp, show decide (((lcF a_c 0 a_n 0) : Int) <= (a_n : Int)) = true by simp; omega, show a_n - (lcF a_c 0 a_n 0) + (lcF a_c 0 a_n 0) = a_n by omega, hp]
  rfl
theorem m54w : Meets Tryz.prog GLv 54 s54w := by
  refine meetsW mix0 G97 Tryz.func54 (by kernel_rfl) (by kernel_rfl) s54w fun args x h => ?_
  unfold s54w at h
  split at h
  . rename_i a_n a_c
    simp only [Option.some.injEq, Prod.mk.injEq] at h
    obtain ⟨hp, rfl⟩ := h
    exact ⟨_, _, by kernel_rfl, e54w a_n a_c hp⟩
  . cases h
noncomputable abbrev Γ98 : List (Nat × Ctr) := (54, s54w) :: Γ97
theorem G98 : Sound Tryz.prog GLv Γ98 := G97.cons m54w
end Go.Proofs.YtdildcdilhgdkaaGreatDoor
