/- Contracts of the program's functions, by the evaluator. -/
import Derived.Test.YtlcopddgplbdhaaGreatDoorC10
import Derived.Test.YtlcopddgplbdhaaGreatDoorPlD
namespace Go.Proofs.YtlcopddgplbdhaaGreatDoor
open Go.Ev
set_option linter.unusedVariables false
set_option linter.unusedSimpArgs false
set_option maxRecDepth 100000
-- impl.leastCorner
noncomputable def s59w : Ctr := fun
 | [.arr a_n K6x a_c] => some (inB a_n 1 1048576 && cmA a_n a_c, iv (lcF a_c 0 a_n 0 : Nat))
 | _ => none
theorem r59w_step (K n a_n : Nat) (a_c : NNI) (i l : Nat) : runW Tryz.prog GLv Γ93 K (cfgK kx1) [.arr a_n K6x a_c] Tryz.f59 0 (n + 1) (stL Tryz.f59.ntmps [.arr a_n K6x a_c, .non, .non, iv ((l : Int)), .non, .non, .arr a_n K6x a_c, iv (a_n : Int), iv ((i : Int))]) = cond (decide ((i : Int) < (a_n : Int))) (cond ((decide (0 <= (i : Int)) && decide ((i : Int) < (a_n : Int)))) (cond ((decide (0 <= (l : Int)) && decide ((l : Int) < (a_n : Int)))) (cond (cmP (pAt a_c i) (pAt a_c l)) (cond (decide (cpP (pAt a_c i) (pAt a_c l) < 0)) (runW Tryz.prog GLv Γ93 K (cfgK kx1) [.arr a_n K6x a_c] Tryz.f59 0 n (stL Tryz.f59.ntmps [.arr a_n K6x a_c, .non, .non, iv ((i : Int)), .non, .non, .arr a_n K6x a_c, iv (a_n : Int), iv (wr ((i : Int) + 1))])) (runW Tryz.prog GLv Γ93 K (cfgK kx1) [.arr a_n K6x a_c] Tryz.f59 0 n (stL Tryz.f59.ntmps [.arr a_n K6x a_c, .non, .non, iv ((l : Int)), .non, .non, .arr a_n K6x a_c, iv (a_n : Int), iv (wr ((i : Int) + 1))]))) (none)) (none)) (none)) (some (iv (l : Int))) := by kernel_rfl
theorem r59w_run (K a_n : Nat) (a_c : NNI) (hn : a_n <= 1048576) (hv : ∀ i j, i < a_n -> j < a_n -> cmP (pAt a_c i) (pAt a_c j) = true) : ∀ (m i l n : Nat), i + m = a_n -> l < a_n -> m < n -> runW Tryz.prog GLv Γ93 K (cfgK kx1) [.arr a_n K6x a_c] Tryz.f59 0 n (stL Tryz.f59.ntmps [.arr a_n K6x a_c, .non, .non, iv ((l : Int)), .non, .non, .arr a_n K6x a_c, iv (a_n : Int), iv ((i : Int))]) = some (iv (lcF a_c i m l : Nat)) := by
 intro m
 induction m with
 | zero =>
  intro i l n h1 h2 h3
  obtain ⟨n, rfl⟩ : ∃ n', n = n' + 1 := ⟨n - 1, by omega⟩
  rw [r59w_step, nat_lt i a_n, show decide (i < a_n) = false by simp; omega]
  rfl
 | succ m ih =>
  intro i l n h1 h2 h3
  obtain ⟨n, rfl⟩ : ∃ n', n = n' + 1 := ⟨n - 1, by omega⟩
  rw [r59w_step, nat_nn, nat_nn, nat_lt i a_n, nat_lt l a_n, show decide (i < a_n) = true by simp; omega, show decide (l < a_n) = true by simp; omega, hv i l (by omega) h2]
  simp only [Bool.and_self, cond_true]
  rw [wr_succ (by omega), ih (i + 1) i n (by omega) (by omega) (by omega), ih (i + 1) l n (by omega) h2 (by omega)]
  simp only [lcF]
  cases (decide (cpP (pAt a_c i) (pAt a_c l) < 0)) <;> rfl
theorem e59w (a_n : Nat) (a_c : NNI) (hp : (inB a_n 1 1048576 && cmA a_n a_c) = true) : evN Tryz.prog GLv Γ93 (a_n + 2) kx1  Tryz.f59 [.arr a_n K6x a_c] = some (iv (lcF a_c 0 a_n 0 : Nat)) := by
 simp only [Bool.and_eq_true, inB_iff] at hp
 obtain ⟨hn, hv⟩ := hp
 refine (show _ = runW Tryz.prog GLv Γ93 (a_n + 2) (cfgK kx1) [.arr a_n K6x a_c] Tryz.f59 0 (a_n + 2) (stL Tryz.f59.ntmps [.arr a_n K6x a_c, .non, .non, iv (((0 : Nat) : Int)), .non, .non, .arr a_n K6x a_c, iv (a_n : Int), iv (((0 : Nat) : Int))]) from by kernel_rfl).trans ?_
 exact r59w_run _ a_n a_c (by omega) (cmA_iff.1 hv) a_n 0 0 _ (by omega) (by omega) (by omega)
theorem m59w : MT 59 s59w := by
 refine meetsN mix0 glv G93 Tryz.func59 (by kernel_rfl) (by kernel_rfl) s59w fun args x h => ?_
 unfold s59w at h
 split at h
 ·rename_i a_n a_c
  obtain ⟨hp, rfl⟩ := sm_inj h
  exact ⟨_, _, by kernel_rfl, e59w a_n a_c hp⟩
 ·cases h
noncomputable abbrev Γ94 : LC := (59, s59w) :: Γ93
theorem G94 : SD Γ94 := G93.cons m59w
-- impl.rotated
noncomputable def s96w : Ctr := fun
 | [.arr a_n K6x a_c] => some (inB a_n 1 1000000 && cmA a_n a_c, AV.row true 38 (a_n) K6x (rotC a_n (lcF a_c 0 a_n 0) a_c))
 | _ => none
theorem e96w (a_n : Nat) (a_c : NNI) (hp : (inB a_n 1 1000000 && cmA a_n a_c) = true) : evW Tryz.prog GLv Γ94 (0) (⟨[], [], [(16, [0])], 1, []⟩)  Tryz.f96 [.arr a_n K6x a_c] = some (AV.row true 38 (a_n) K6x (rotC a_n (lcF a_c 0 a_n 0) a_c)) := by
 rw [Bool.and_eq_true] at hp
 obtain ⟨hp, hv⟩ := hp
 have hn := inB_iff.1 hp
 have hl := lc_lt a_c a_n 0 0 a_n (by omega) (by omega)
 refine (show _ = cond ((a_n : Int) == 0) (some (AV.val (.slice none 0 0))) (cond (inB (a_n : Int) 1 1048576 && cmA a_n a_c) (cond (decide (0 <= ((lcF a_c 0 a_n 0) : Int)) && decide (((lcF a_c 0 a_n 0) : Int) <= (a_n : Int))) (cond (decide (0 <= ((lcF a_c 0 a_n 0) : Int)) && decide (((lcF a_c 0 a_n 0) : Int) <= (a_n : Int))) (cond (inB ((a_n - (lcF a_c 0 a_n 0) + (lcF a_c 0 a_n 0) : Nat) : Int) 1 1000000) (some (AV.row true 38 (a_n - (lcF a_c 0 a_n 0) + (lcF a_c 0 a_n 0)) K6x (rotC a_n (lcF a_c 0 a_n 0) a_c))) (none)) (none)) (none)) (none)) from by kernel_rfl).trans ?_
 rw [show ((a_n : Int) == 0) = false by simp; omega, show inB (a_n : Int) 1 1048576 = true from inB_iff.2 (by omega), hv, show decide (0 <= ((lcF a_c 0 a_n 0) : Int)) = true by simp, show decide (((lcF a_c 0 a_n 0) : Int) <= (a_n : Int)) = true by simp; omega, show a_n - (lcF a_c 0 a_n 0) + (lcF a_c 0 a_n 0) = a_n by omega, hp]
 rfl
theorem m96w : MT 96 s96w := by
 refine meetsW mix0 G94 Tryz.func96 (by kernel_rfl) (by kernel_rfl) s96w fun args x h => ?_
 unfold s96w at h
 split at h
 ·rename_i a_n a_c
  obtain ⟨hp, rfl⟩ := sm_inj h
  exact ⟨_, _, by kernel_rfl, e96w a_n a_c hp⟩
 ·cases h
noncomputable abbrev Γ95 : LC := (96, s96w) :: Γ94
theorem G95 : SD Γ95 := G94.cons m96w
end Go.Proofs.YtlcopddgplbdhaaGreatDoor
