/- Contracts of the program's functions, by the evaluator. -/
import Derived.Test.YtooikeeckoflpaaDoorC10
import Derived.Test.YtooikeeckoflpaaDoorPlD
namespace Go.Proofs.YtooikeeckoflpaaDoor
open Go.Ev
set_option linter.unusedVariables false
set_option linter.unusedSimpArgs false
set_option maxRecDepth 100000

-- impl.leastCorner
def s61w : Ctr := fun
  | [.arr a_n [.int .i64, .int .i64, .int .i64, .int .i64, .int .i64, .int .i64] a_c] => some (inB a_n 1 1048576 && cmA a_n a_c, iv (lcF a_c 0 a_n 0 : Nat))
  | _ => none

theorem r61w_step (K n a_n : Nat) (a_c : Nat → Nat → Int) (i l : Nat) : runW Tryd.prog GLv Γ104 K (cfgK [true, false, false, true, false, false, true, true, true]) [.arr a_n [.int .i64, .int .i64, .int .i64, .int .i64, .int .i64, .int .i64] a_c] Tryd.f61 0 (n + 1) (stL Tryd.f61.ntmps [.arr a_n [.int .i64, .int .i64, .int .i64, .int .i64, .int .i64, .int .i64] a_c, .non, .non, iv ((l : Int)), .non, .non, .arr a_n [.int .i64, .int .i64, .int .i64, .int .i64, .int .i64, .int .i64] a_c, iv (a_n : Int), iv ((i : Int))]) = cond (decide ((i : Int) < (a_n : Int))) (cond ((decide (0 ≤ (i : Int)) && decide ((i : Int) < (a_n : Int)))) (cond ((decide (0 ≤ (l : Int)) && decide ((l : Int) < (a_n : Int)))) (cond (cmP (pAt a_c i) (pAt a_c l)) (cond (decide (cpP (pAt a_c i) (pAt a_c l) < 0)) (runW Tryd.prog GLv Γ104 K (cfgK [true, false, false, true, false, false, true, true, true]) [.arr a_n [.int .i64, .int .i64, .int .i64, .int .i64, .int .i64, .int .i64] a_c] Tryd.f61 0 n (stL Tryd.f61.ntmps [.arr a_n [.int .i64, .int .i64, .int .i64, .int .i64, .int .i64, .int .i64] a_c, .non, .non, iv ((i : Int)), .non, .non, .arr a_n [.int .i64, .int .i64, .int .i64, .int .i64, .int .i64, .int .i64] a_c, iv (a_n : Int), iv (wr ((i : Int) + 1))])) (runW Tryd.prog GLv Γ104 K (cfgK [true, false, false, true, false, false, true, true, true]) [.arr a_n [.int .i64, .int .i64, .int .i64, .int .i64, .int .i64, .int .i64] a_c] Tryd.f61 0 n (stL Tryd.f61.ntmps [.arr a_n [.int .i64, .int .i64, .int .i64, .int .i64, .int .i64, .int .i64] a_c, .non, .non, iv ((l : Int)), .non, .non, .arr a_n [.int .i64, .int .i64, .int .i64, .int .i64, .int .i64, .int .i64] a_c, iv (a_n : Int), iv (wr ((i : Int) + 1))]))) (none)) (none)) (none)) (some (iv (l : Int))) := by kernel_rfl
theorem r61w_run (K a_n : Nat) (a_c : Nat → Nat → Int) (hn : a_n ≤ 1048576) (hv : ∀ i j, i < a_n → j < a_n → cmP (pAt a_c i) (pAt a_c j) = true) : ∀ (m i l n : Nat), i + m = a_n → l < a_n → m < n → runW Tryd.prog GLv Γ104 K (cfgK [true, false, false, true, false, false, true, true, true]) [.arr a_n [.int .i64, .int .i64, .int .i64, .int .i64, .int .i64, .int .i64] a_c] Tryd.f61 0 n (stL Tryd.f61.ntmps [.arr a_n [.int .i64, .int .i64, .int .i64, .int .i64, .int .i64, .int .i64] a_c, .non, .non, iv ((l : Int)), .non, .non, .arr a_n [.int .i64, .int .i64, .int .i64, .int .i64, .int .i64, .int .i64] a_c, iv (a_n : Int), iv ((i : Int))]) = some (iv (lcF a_c i m l : Nat)) := by
  intro m
  induction m with
  | zero =>
    intro i l n h1 h2 h3
    obtain ⟨n, rfl⟩ : ∃ n', n = n' + 1 := ⟨n - 1, by omega⟩
    rw [r61w_step, nat_lt i a_n, show decide (i < a_n) = false by simp; omega]
    rfl
  | succ m ih =>
    intro i l n h1 h2 h3
    obtain ⟨n, rfl⟩ : ∃ n', n = n' + 1 := ⟨n - 1, by omega⟩
    rw [r61w_step, nat_nn, nat_nn, nat_lt i a_n, nat_lt l a_n, show decide (i < a_n) = true by simp; omega, show decide (l < a_n) = true by simp; omega, hv i l (by omega) h2]
    simp only [Bool.and_self, cond_true]
    rw [wr_succ (by omega), ih (i + 1) i n (by omega) (by omega) (by omega), ih (i + 1) l n (by omega) h2 (by omega)]
    simp only [lcF]
    cases (decide (cpP (pAt a_c i) (pAt a_c l) < 0)) <;> rfl

theorem e61w (a_n : Nat) (a_c : Nat → Nat → Int) (hp : (inB a_n 1 1048576 && cmA a_n a_c) = true) : evN Tryd.prog GLv Γ104 (a_n + 2) [true, false, false, true, false, false, true, true, true]  Tryd.f61 [.arr a_n [.int .i64, .int .i64, .int .i64, .int .i64, .int .i64, .int .i64] a_c] = some (iv (lcF a_c 0 a_n 0 : Nat)) := by
  simp only [Bool.and_eq_true, inB_iff] at hp
  obtain ⟨hn, hv⟩ := hp
  refine (show _ = runW Tryd.prog GLv Γ104 (a_n + 2) (cfgK [true, false, false, true, false, false, true, true, true]) [.arr a_n [.int .i64, .int .i64, .int .i64, .int .i64, .int .i64, .int .i64] a_c] Tryd.f61 0 (a_n + 2) (stL Tryd.f61.ntmps [.arr a_n [.int .i64, .int .i64, .int .i64, .int .i64, .int .i64, .int .i64] a_c, .non, .non, iv (((0 : Nat) : Int)), .non, .non, .arr a_n [.int .i64, .int .i64, .int .i64, .int .i64, .int .i64, .int .i64] a_c, iv (a_n : Int), iv (((0 : Nat) : Int))]) from by kernel_rfl).trans ?_
  exact r61w_run _ a_n a_c (by omega) (cmA_iff.1 hv) a_n 0 0 _ (by omega) (by omega) (by omega)
theorem m61w : Meets Tryd.prog GLv 61 s61w := by
  refine meetsN mix0 glv G104 Tryd.func61 (by kernel_rfl) (by kernel_rfl) s61w fun args x h => ?_
  unfold s61w at h
  split at h
  · rename_i a_n a_c
    simp only [Option.some.injEq, Prod.mk.injEq] at h
    obtain ⟨hp, rfl⟩ := h
    exact ⟨_, _, by kernel_rfl, e61w a_n a_c hp⟩
  · cases h
abbrev Γ105 : List (Nat × Ctr) := (61, s61w) :: Γ104
theorem G105 : Sound Tryd.prog GLv Γ105 := G104.cons m61w

-- impl.rotated
def s79w : Ctr := fun
  | [.arr a_n [.int .i64, .int .i64, .int .i64, .int .i64, .int .i64, .int .i64] a_c] => some (inB a_n 1 1000000 && cmA a_n a_c, AV.row true 62 (a_n) [.int .i64, .int .i64, .int .i64, .int .i64, .int .i64, .int .i64] (rotC a_n (lcF a_c 0 a_n 0) a_c))
  | _ => none

theorem e79w (a_n : Nat) (a_c : Nat → Nat → Int) (hp : (inB a_n 1 1000000 && cmA a_n a_c) = true) : evW Tryd.prog GLv Γ105 (0) (⟨[], [], [(16, [0])], 1, []⟩)  Tryd.f79 [.arr a_n [.int .i64, .int .i64, .int .i64, .int .i64, .int .i64, .int .i64] a_c] = some (AV.row true 62 (a_n) [.int .i64, .int .i64, .int .i64, .int .i64, .int .i64, .int .i64] (rotC a_n (lcF a_c 0 a_n 0) a_c)) := by
  rw [Bool.and_eq_true] at hp
  obtain ⟨hp, hv⟩ := hp
  have hn := inB_iff.1 hp
  have hl := lc_lt a_c a_n 0 0 a_n (by omega) (by omega)
  refine (show _ = cond ((a_n : Int) == 0) (some (AV.val (.slice none 0 0))) (cond (inB (a_n : Int) 1 1048576 && cmA a_n a_c) (cond (decide (0 ≤ ((lcF a_c 0 a_n 0) : Int)) && decide (((lcF a_c 0 a_n 0) : Int) ≤ (a_n : Int))) (cond (decide (0 ≤ ((lcF a_c 0 a_n 0) : Int)) && decide (((lcF a_c 0 a_n 0) : Int) ≤ (a_n : Int))) (cond (inB ((a_n - (lcF a_c 0 a_n 0) + (lcF a_c 0 a_n 0) : Nat) : Int) 1 1000000) (some (AV.row true 62 (a_n - (lcF a_c 0 a_n 0) + (lcF a_c 0 a_n 0)) [.int .i64, .int .i64, .int .i64, .int .i64, .int .i64, .int .i64] (rotC a_n (lcF a_c 0 a_n 0) a_c))) (none)) (none)) (none)) (none)) from by kernel_rfl).trans ?_
  rw [show ((a_n : Int) == 0) = false by simp; omega, show inB (a_n : Int) 1 1048576 = true from inB_iff.2 (by omega), hv, show decide (0 ≤ ((lcF a_c 0 a_n 0) : Int)) = true by simp, show decide (((lcF a_c 0 a_n 0) : Int) ≤ (a_n : Int)) = true by simp; omega, show a_n - (lcF a_c 0 a_n 0) + (lcF a_c 0 a_n 0) = a_n by omega, hp]
  rfl
theorem m79w : Meets Tryd.prog GLv 79 s79w := by
  refine meetsW mix0 G105 Tryd.func79 (by kernel_rfl) (by kernel_rfl) s79w fun args x h => ?_
  unfold s79w at h
  split at h
  · rename_i a_n a_c
    simp only [Option.some.injEq, Prod.mk.injEq] at h
    obtain ⟨hp, rfl⟩ := h
    exact ⟨_, _, by kernel_rfl, e79w a_n a_c hp⟩
  · cases h
abbrev Γ106 : List (Nat × Ctr) := (79, s79w) :: Γ105
theorem G106 : Sound Tryd.prog GLv Γ106 := G105.cons m79w

end Go.Proofs.YtooikeeckoflpaaDoor
