/- Contracts of the program's functions, by the evaluator. -/
import Derived.Test.YtooikeeckoflpaaDoorC19
import Derived.Test.YtooikeeckoflpaaDoorPlD
namespace Go.Proofs.YtooikeeckoflpaaDoor
open Go.Ev
set_option linter.unusedVariables false
set_option linter.unusedSimpArgs false
set_option maxRecDepth 100000

-- slices.Reverse[[]impl.Point,impl.Point]
def s99 : Ctr := fun
  | [.row a_l 62 a_n [.int .i64, .int .i64, .int .i64, .int .i64, .int .i64, .int .i64] a_c] => some (inB a_n 1 1000000, .out (.tup []) [.row a_l 62 a_n [.int .i64, .int .i64, .int .i64, .int .i64, .int .i64, .int .i64] (revC a_n a_c)])
  | _ => none

theorem r99_step (K n a_n : Nat) (a_l : Bool) (a_c d : Nat → Nat → Int) (i j : Nat) : runW Tryd.prog GLv Γ118 K (cfgK [true, false, true, true]) [.row a_l 62 a_n [.int .i64, .int .i64, .int .i64, .int .i64, .int .i64, .int .i64] a_c] Tryd.f99 0 (n + 1) (st2 Tryd.f99.ntmps [.sl Tryd.f99.ntmps a_n, .non, iv ((i : Int)), iv ((j : Int))] [.row a_l 62 a_n [.int .i64, .int .i64, .int .i64, .int .i64, .int .i64, .int .i64] (d)]) = cond (decide ((i : Int) < (j : Int))) (cond ((decide (0 ≤ (j : Int)) && decide ((j : Int) < (a_n : Int)))) (cond ((decide (0 ≤ (i : Int)) && decide ((i : Int) < (a_n : Int)))) (cond ((decide (0 ≤ (i : Int)) && decide ((i : Int) < (a_n : Int)))) (cond ((decide (0 ≤ (j : Int)) && decide ((j : Int) < (a_n : Int)))) (runW Tryd.prog GLv Γ118 K (cfgK [true, false, true, true]) [.row a_l 62 a_n [.int .i64, .int .i64, .int .i64, .int .i64, .int .i64, .int .i64] a_c] Tryd.f99 0 n (st2 Tryd.f99.ntmps [.sl Tryd.f99.ntmps a_n, .non, iv (wr ((i : Int) + 1)), iv (wr ((j : Int) - 1))] [.row a_l 62 a_n [.int .i64, .int .i64, .int .i64, .int .i64, .int .i64, .int .i64] (swC d i j)])) (none)) (none)) (none)) (none)) (some (AV.out (.tup []) [.row a_l 62 a_n [.int .i64, .int .i64, .int .i64, .int .i64, .int .i64, .int .i64] (d)])) := by kernel_rfl
theorem r99_run (K a_n : Nat) (a_l : Bool) (a_c : Nat → Nat → Int) (hn : a_n ≤ 1000000) : ∀ (m i j n : Nat) (d : Nat → Nat → Int), j ≤ i + m → j < a_n → m < n → runW Tryd.prog GLv Γ118 K (cfgK [true, false, true, true]) [.row a_l 62 a_n [.int .i64, .int .i64, .int .i64, .int .i64, .int .i64, .int .i64] a_c] Tryd.f99 0 n (st2 Tryd.f99.ntmps [.sl Tryd.f99.ntmps a_n, .non, iv ((i : Int)), iv ((j : Int))] [.row a_l 62 a_n [.int .i64, .int .i64, .int .i64, .int .i64, .int .i64, .int .i64] (d)]) = some (AV.out (.tup []) [.row a_l 62 a_n [.int .i64, .int .i64, .int .i64, .int .i64, .int .i64, .int .i64] (rvF m i j d)]) := by
  intro m
  induction m with
  | zero =>
    intro i j n d h1 h2 h3
    obtain ⟨n, rfl⟩ : ∃ n', n = n' + 1 := ⟨n - 1, by omega⟩
    rw [r99_step, nat_lt i j, decide_eq_false (by omega)]
    rfl
  | succ m ih =>
    intro i j n d h1 h2 h3
    obtain ⟨n, rfl⟩ : ∃ n', n = n' + 1 := ⟨n - 1, by omega⟩
    rw [r99_step, nat_nn, nat_nn, nat_lt i a_n, nat_lt j a_n, nat_lt i j]
    by_cases h : i < j
    · rw [decide_eq_true h, decide_eq_true h2, decide_eq_true (show i < a_n by omega)]
      simp only [Bool.and_self, cond_true]
      rw [wr_succ (by omega), show wr ((j : Int) - 1) = ((j - 1 : Nat) : Int) by rw [wr_in (by omega) (by omega)]; omega, ih (i + 1) (j - 1) n _ (by omega) (by omega) (by omega)]
      simp only [rvF]
      rw [decide_eq_true h]
      rfl
    · rw [decide_eq_false h]
      simp only [rvF]
      rw [decide_eq_false h]
      rfl

theorem e99 (a_l : Bool) (a_n : Nat) (a_c : Nat → Nat → Int) (hp : (inB a_n 1 1000000) = true) : evW Tryd.prog GLv Γ118 (a_n + 2) (cfgK [true, false, true, true])  Tryd.f99 [.row a_l 62 a_n [.int .i64, .int .i64, .int .i64, .int .i64, .int .i64, .int .i64] a_c] = some (.out (.tup []) [.row a_l 62 a_n [.int .i64, .int .i64, .int .i64, .int .i64, .int .i64, .int .i64] (revC a_n a_c)]) := by
  have hn := inB_iff.1 hp
  refine (show _ = runW Tryd.prog GLv Γ118 (a_n + 2) (cfgK [true, false, true, true]) [.row a_l 62 a_n [.int .i64, .int .i64, .int .i64, .int .i64, .int .i64, .int .i64] a_c] Tryd.f99 0 (a_n + 2) (st2 Tryd.f99.ntmps [.sl Tryd.f99.ntmps a_n, .non, iv (((0 : Nat) : Int)), iv (wr ((a_n : Int) - 1))] [.row a_l 62 a_n [.int .i64, .int .i64, .int .i64, .int .i64, .int .i64, .int .i64] (a_c)]) from by kernel_rfl).trans ?_
  rw [show wr ((a_n : Int) - 1) = ((a_n - 1 : Nat) : Int) by rw [wr_in (by omega) (by omega)]; omega]
  exact r99_run _ a_n a_l a_c (by omega) a_n 0 (a_n - 1) _ _ (by omega) (by omega) (by omega)
theorem m99 : Meets Tryd.prog GLv 99 s99 := by
  refine meetsW mix0 G118 Tryd.func99 (by kernel_rfl) (by kernel_rfl) s99 fun args x h => ?_
  unfold s99 at h
  split at h
  · rename_i a_l a_n a_c
    simp only [Option.some.injEq, Prod.mk.injEq] at h
    obtain ⟨hp, rfl⟩ := h
    exact ⟨_, _, by kernel_rfl, e99 a_l a_n a_c hp⟩
  · cases h
abbrev Γ119 : List (Nat × Ctr) := (99, s99) :: Γ118
theorem G119 : Sound Tryd.prog GLv Γ119 := G118.cons m99

end Go.Proofs.YtooikeeckoflpaaDoor
