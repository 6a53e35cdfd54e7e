/- Contracts of the program's functions, by the evaluator. -/
import Derived.Test.YtlcopddgplbdhaaGreatDoorC15
import Derived.Test.YtlcopddgplbdhaaGreatDoorPlD
namespace Go.Proofs.YtlcopddgplbdhaaGreatDoor
open Go.Ev
set_option linter.unusedVariables false
set_option linter.unusedSimpArgs false
set_option maxRecDepth 100000
abbrev cfC170 : Cfg := ⟨[true, false, false, false, true, true], [], [(4, [0]), (28, [0]), (34, [1])], 2, [some (38, K6x), none]⟩
-- spec.l03Points
noncomputable def s108 : Ctr := fun
 | [.arr a_n K6x a_c] => some (Nat.ble a_n 1000000 && allF (cqK a_c) 0 a_n, AV.tup [AV.row ((cqB a_n a_c) && Nat.blt 0 a_n) 38 (cond (cqB a_n a_c) a_n 0) K6x (cond ((cqB a_n a_c) && Nat.blt 0 a_n) (rotC a_n (lcF (cqD a_n a_c) 0 a_n 0) (cqD a_n a_c)) zeroC), bv (cqB a_n a_c)])
 | _ => none
theorem r108_step (K n a_n i : Nat) (a_c d : NNI) (lv : Bool) : runW Tryz.prog GLv Γ98 K cfC170 [.arr a_n K6x a_c] Tryz.f108 0 (n + 1) (st2 Tryz.f108.ntmps [.arr a_n K6x a_c, .non, .non, .non, .sl Tryz.f108.ntmps (i), iv ((i : Int))] [.row (lv) 38 (i) K6x (d), .non]) = cond (decide ((i : Int) < (a_n : Int))) (cond ((decide (0 <= (i : Int)) && decide ((i : Int) < (a_n : Int)))) (cond (cqK a_c i) (cond (!(valP (redP (pAt a_c i)))) (some (AV.tup [AV.row false 38 0 K6x fun _ _ => 0, bv false])) (cond (Nat.ble ((i + 1) * 48) 140737488355328) (runW Tryz.prog GLv Γ98 K cfC170 [.arr a_n K6x a_c] Tryz.f108 0 n (st2 Tryz.f108.ntmps [.arr a_n K6x a_c, .non, .non, .non, .sl Tryz.f108.ntmps (i + 1), iv (wr ((i : Int) + 1))] [.row (true) 38 (i + 1) K6x (catC i d (listC [cqC a_c i])), .non])) (none))) (none)) (none)) (cond (((i : Nat) : Int) == 0) (some (AV.tup [AV.row (lv) 38 (i) K6x (d), bv true])) (cond (inB ((i : Nat) : Int) 1 1000000 && allP (i) (d)) (some (AV.tup [AV.row true 38 (i) K6x (rotC (i) (lcF (d) 0 (i) 0) (d)), bv true])) (none))) := by kernel_rfl
theorem r108_run (K a_n : Nat) (a_c : NNI) (hn : a_n <= 1000000) (hk : ∀ i, i < a_n -> cqK a_c i = true) : ∀ (m i n : Nat) (d : NNI) (lv : Bool), i + m = a_n -> m < n -> runW Tryz.prog GLv Γ98 K cfC170 [.arr a_n K6x a_c] Tryz.f108 0 n (st2 Tryz.f108.ntmps [.arr a_n K6x a_c, .non, .non, .non, .sl Tryz.f108.ntmps (i), iv ((i : Int))] [.row (lv) 38 (i) K6x (d), .non]) = cond (allF (fun j => valP (redP (pAt a_c j))) i m) (cond (((a_n : Nat) : Int) == 0) (some (AV.tup [AV.row (lv || Nat.blt 0 m) 38 (a_n) K6x (appF (cqC a_c) i m d), bv true])) (cond (inB ((a_n : Nat) : Int) 1 1000000 && allP (a_n) (appF (cqC a_c) i m d)) (some (AV.tup [AV.row true 38 (a_n) K6x (rotC (a_n) (lcF (appF (cqC a_c) i m d) 0 (a_n) 0) (appF (cqC a_c) i m d)), bv true])) (none))) (some (AV.tup [AV.row false 38 0 K6x fun _ _ => 0, bv false])) := by
 intro m
 induction m with
 | zero =>
  intro i n d lv h1 h2
  obtain ⟨n, rfl⟩ : ∃ n', n = n' + 1 := ⟨n - 1, by omega⟩
  rw [r108_step, nat_lt i a_n, show decide (i < a_n) = false by simp; omega, show i = a_n by omega]
  cases lv <;> rfl
 | succ m ih =>
  intro i n d lv h1 h2
  obtain ⟨n, rfl⟩ : ∃ n', n = n' + 1 := ⟨n - 1, by omega⟩
  rw [r108_step, nat_nn, nat_lt i a_n, show decide (i < a_n) = true by simp; omega, hk i (by omega), show Nat.ble ((i + 1) * 48) 140737488355328 = true from Nat.ble_eq_true_of_le (by omega)]
  simp only [Bool.and_self, cond_true]
  rw [wr_succ (by omega), ih (i + 1) n _ true (by omega) (by omega)]
  simp only [allF]
  rw [show (lv || Nat.blt 0 (m + 1)) = true by rw [show Nat.blt 0 (m + 1) = true from Nat.ble_eq_true_of_le (by omega), Bool.or_true]]
  cases valP (redP (pAt a_c i)) <;> simp only [Bool.true_and, Bool.false_and, Bool.true_or, Bool.not_true, Bool.not_false, cond_true, cond_false] <;> rfl
theorem e108 (a_n : Nat) (a_c : NNI) (hp : (Nat.ble a_n 1000000 && allF (cqK a_c) 0 a_n) = true) : evW Tryz.prog GLv Γ98 (a_n + 2) (cfC170)  Tryz.f108 [.arr a_n K6x a_c] = some (AV.tup [AV.row ((cqB a_n a_c) && Nat.blt 0 a_n) 38 (cond (cqB a_n a_c) a_n 0) K6x (cond ((cqB a_n a_c) && Nat.blt 0 a_n) (rotC a_n (lcF (cqD a_n a_c) 0 a_n 0) (cqD a_n a_c)) zeroC), bv (cqB a_n a_c)]) := by
 rw [Bool.and_eq_true] at hp
 have hn := Nat.le_of_ble_eq_true hp.1
 refine (show _ = runW Tryz.prog GLv Γ98 (a_n + 2) cfC170 [.arr a_n K6x a_c] Tryz.f108 0 (a_n + 2) (st2 Tryz.f108.ntmps [.arr a_n K6x a_c, .non, .non, .non, .sl Tryz.f108.ntmps (0), iv (((0 : Nat) : Int))] [.row (false) 38 (0) K6x (zeroC), .non]) from by kernel_rfl).trans ?_
 rw [r108_run _ a_n a_c hn (fun i hi => allF_iff.1 hp.2 i (Nat.zero_le _) (by omega)) a_n 0 _ _ _ (by omega) (by omega)]
 change cond (cqB a_n a_c) _ _ = _
 cases hc : cqB a_n a_c with
 | false => rfl
 | true =>
  rw [show appF (cqC a_c) 0 a_n zeroC = cqD a_n a_c from rfl, cqD_val hc]
  by_cases h0 : a_n = 0
  ·subst h0; rfl
  ·rw [show ((a_n : Int) == 0) = false by simp; omega, show inB (a_n : Int) 1 1000000 = true from inB_iff.2 (by omega), show Nat.blt 0 a_n = true from Nat.ble_eq_true_of_le (by omega)]
   rfl
theorem m108 : MT 108 s108 := by
 refine meetsW mix0 G98 Tryz.func108 (by kernel_rfl) (by kernel_rfl) s108 fun args x h => ?_
 unfold s108 at h
 split at h
 ·rename_i a_n a_c
  obtain ⟨hp, rfl⟩ := sm_inj h
  exact ⟨_, _, by kernel_rfl, e108 a_n a_c hp⟩
 ·cases h
noncomputable abbrev Γ99 : LC := (108, s108) :: Γ98
theorem G99 : SD Γ99 := G98.cons m108
end Go.Proofs.YtlcopddgplbdhaaGreatDoor
