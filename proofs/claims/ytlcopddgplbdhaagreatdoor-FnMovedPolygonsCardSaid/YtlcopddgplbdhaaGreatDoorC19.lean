/- Contracts of the program's functions, by the evaluator. -/
import Derived.Test.YtlcopddgplbdhaaGreatDoorC18
import Derived.Test.YtlcopddgplbdhaaGreatDoorPlD
namespace Go.Proofs.YtlcopddgplbdhaaGreatDoor
open Go.Ev
set_option linter.unusedVariables false
set_option linter.unusedSimpArgs false
set_option maxRecDepth 100000
-- slices.Reverse[[]impl.Point,impl.Point]
noncomputable def s95 : Ctr := fun
 | [.row a_l 38 a_n [.int .i64, .int .i64, .int .i64, .int .i64, .int .i64, .int .i64] a_c] => some (inB a_n 1 1000000, .out (.tup []) [.row a_l 38 a_n K6x (revC a_n a_c)])
 | _ => none
theorem r95_step (K n a_n : Nat) (a_l : Bool) (a_c d : NNI) (i j : Nat) : runW Tryz.prog GLv Γ100 K (cfgK kx9) [.row a_l 38 a_n [.int .i64, .int .i64, .int .i64, .int .i64, .int .i64, .int .i64] a_c] Tryz.f95 0 (n + 1) (st2 Tryz.f95.ntmps [.sl Tryz.f95.ntmps a_n, .non, iv ((i : Int)), iv ((j : Int))] [.row a_l 38 a_n K6x (d)]) = cond (decide ((i : Int) < (j : Int))) (cond ((decide (0 <= (j : Int)) && decide ((j : Int) < (a_n : Int)))) (cond ((decide (0 <= (i : Int)) && decide ((i : Int) < (a_n : Int)))) (cond ((decide (0 <= (i : Int)) && decide ((i : Int) < (a_n : Int)))) (cond ((decide (0 <= (j : Int)) && decide ((j : Int) < (a_n : Int)))) (runW Tryz.prog GLv Γ100 K (cfgK kx9) [.row a_l 38 a_n [.int .i64, .int .i64, .int .i64, .int .i64, .int .i64, .int .i64] a_c] Tryz.f95 0 n (st2 Tryz.f95.ntmps [.sl Tryz.f95.ntmps a_n, .non, iv (wr ((i : Int) + 1)), iv (wr ((j : Int) - 1))] [.row a_l 38 a_n K6x (swC d i j)])) (none)) (none)) (none)) (none)) (some (AV.out (.tup []) [.row a_l 38 a_n K6x (d)])) := by kernel_rfl
theorem r95_run (K a_n : Nat) (a_l : Bool) (a_c : NNI) (hn : a_n <= 1000000) : ∀ (m i j n : Nat) (d : NNI), j <= i + m -> j < a_n -> m < n -> runW Tryz.prog GLv Γ100 K (cfgK kx9) [.row a_l 38 a_n [.int .i64, .int .i64, .int .i64, .int .i64, .int .i64, .int .i64] a_c] Tryz.f95 0 n (st2 Tryz.f95.ntmps [.sl Tryz.f95.ntmps a_n, .non, iv ((i : Int)), iv ((j : Int))] [.row a_l 38 a_n K6x (d)]) = some (AV.out (.tup []) [.row a_l 38 a_n K6x (rvF m i j d)]) := by
 intro m
 induction m with
 | zero =>
  intro i j n d h1 h2 h3
  obtain ⟨n, rfl⟩ : ∃ n', n = n' + 1 := ⟨n - 1, by omega⟩
  rw [r95_step, nat_lt i j, decide_eq_false (by omega)]
  rfl
 | succ m ih =>
  intro i j n d h1 h2 h3
  obtain ⟨n, rfl⟩ : ∃ n', n = n' + 1 := ⟨n - 1, by omega⟩
  rw [r95_step, nat_nn, nat_nn, nat_lt i a_n, nat_lt j a_n, nat_lt i j]
  by_cases h : i < j
  ·rw [decide_eq_true h, decide_eq_true h2, decide_eq_true (show i < a_n by omega)]
   simp only [Bool.and_self, cond_true]
   rw [wr_succ (by omega), show wr ((j : Int) - 1) = ((j - 1 : Nat) : Int) by rw [wr_in (by omega) (by omega)]; omega, ih (i + 1) (j - 1) n _ (by omega) (by omega) (by omega)]
   simp only [rvF]
   rw [decide_eq_true h]
   rfl
  ·rw [decide_eq_false h]
   simp only [rvF]
   rw [decide_eq_false h]
   rfl
theorem e95 (a_l : Bool) (a_n : Nat) (a_c : NNI) (hp : (inB a_n 1 1000000) = true) : evW Tryz.prog GLv Γ100 (a_n + 2) (cfgK kx9)  Tryz.f95 [.row a_l 38 a_n [.int .i64, .int .i64, .int .i64, .int .i64, .int .i64, .int .i64] a_c] = some (.out (.tup []) [.row a_l 38 a_n K6x (revC a_n a_c)]) := by
 have hn := inB_iff.1 hp
 refine (show _ = runW Tryz.prog GLv Γ100 (a_n + 2) (cfgK kx9) [.row a_l 38 a_n [.int .i64, .int .i64, .int .i64, .int .i64, .int .i64, .int .i64] a_c] Tryz.f95 0 (a_n + 2) (st2 Tryz.f95.ntmps [.sl Tryz.f95.ntmps a_n, .non, iv (((0 : Nat) : Int)), iv (wr ((a_n : Int) - 1))] [.row a_l 38 a_n K6x (a_c)]) from by kernel_rfl).trans ?_
 rw [show wr ((a_n : Int) - 1) = ((a_n - 1 : Nat) : Int) by rw [wr_in (by omega) (by omega)]; omega]
 exact r95_run _ a_n a_l a_c (by omega) a_n 0 (a_n - 1) _ _ (by omega) (by omega) (by omega)
theorem m95 : MT 95 s95 := by
 refine meetsW mix0 G100 Tryz.func95 (by kernel_rfl) (by kernel_rfl) s95 fun args x h => ?_
 unfold s95 at h
 split at h
 ·rename_i a_l a_n a_c
  obtain ⟨hp, rfl⟩ := sm_inj h
  exact ⟨_, _, by kernel_rfl, e95 a_l a_n a_c hp⟩
 ·cases h
noncomputable abbrev Γ101 : LC := (95, s95) :: Γ100
theorem G101 : SD Γ101 := G100.cons m95
end Go.Proofs.YtlcopddgplbdhaaGreatDoor
