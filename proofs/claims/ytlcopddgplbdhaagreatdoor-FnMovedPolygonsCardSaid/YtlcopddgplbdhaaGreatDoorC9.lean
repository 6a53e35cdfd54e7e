/- Contracts of the program's functions, by the evaluator. -/
import Derived.Test.YtlcopddgplbdhaaGreatDoorS2
import Derived.Test.YtlcopddgplbdhaaGreatDoorPlD
import Derived.Test.YtlcopddgplbdhaaGreatDoorPlA
namespace Go.Proofs.YtlcopddgplbdhaaGreatDoor
open Go.Ev
set_option linter.unusedVariables false
set_option linter.unusedSimpArgs false
set_option maxRecDepth 100000
abbrev cfC90 : Cfg := ⟨kx10, [], [(27, [0]), (32, [0])], 1, []⟩
-- slices.Grow[[]impl.Point,impl.Point]
noncomputable def s156 : Ctr := fun
 | [.val (.slice none 0 0), iv m] => some (inB m 1 1000000, AV.row true 38 (0) K6x (fun _ _ => 0))
 | _ => none
theorem e156 (m : Int) (hp : (inB m 1 1000000) = true) : evW Tryz.prog GLv Γ78 (0) (⟨[], [], [(22, [0])], 1, []⟩)  Tryz.f156 [.val (.slice none 0 0), iv m] = some (AV.row true 38 (0) K6x (fun _ _ => 0)) := by
 have hm := inB_iff.1 hp
 refine (show _ = cond (decide (m < 0)) (none) (cond (decide (wr (m - 0) > 0)) (cond (decide (0 < wr (m - 0)) && decide (wr (m - 0) * 48 <= 140737488355328)) (cond (decide ((0 : Int) <= 0) && decide ((0 : Int) <= ((wr (m - 0)).toNat : Int))) (some (AV.row true 38 (0) K6x (fun _ _ => 0))) (none)) (none)) (some (AV.val (.slice none 0 0)))) from by kernel_rfl).trans ?_
 rw [show wr (m - 0) = m by rw [wr_in (by omega) (by omega)]; omega, show decide (m < 0) = false by simp; omega, show decide (m > 0) = true by simp; omega, show decide (m * 48 <= 140737488355328) = true by simp; omega, show decide ((0 : Int) <= (m.toNat : Int)) = true from decide_eq_true (by omega)]
 rfl
theorem m156 : MT 156 s156 := by
 refine meetsW mix0 G78 Tryz.func156 (by kernel_rfl) (by kernel_rfl) s156 fun args x h => ?_
 unfold s156 at h
 split at h
 ·rename_i m
  obtain ⟨hp, rfl⟩ := sm_inj h
  exact ⟨_, _, by kernel_rfl, e156 m hp⟩
 ·cases h
noncomputable abbrev Γ79 : LC := (156, s156) :: Γ78
theorem G79 : SD Γ79 := G78.cons m156
-- slices.Clone[[]impl.Point,impl.Point]
noncomputable def s94 : Ctr := fun
 | [.arr a_n K6x a_c] => some (inB a_n 1 1000000, AV.row true 38 (a_n) K6x (catC 0 zeroC a_c))
 | _ => none
theorem e94 (a_n : Nat) (a_c : NNI) (hp : (inB a_n 1 1000000) = true) : evW Tryz.prog GLv Γ79 (0) (⟨[], [], [(7, [0])], 1, []⟩)  Tryz.f94 [.arr a_n K6x a_c] = some (AV.row true 38 (a_n) K6x (catC 0 zeroC a_c)) := by
 have hn := inB_iff.1 hp
 refine (show _ = cond (decide (0 < a_n)) (cond (Nat.ble ((0 + a_n) * 48) 140737488355328) (some (AV.row (Nat.blt 0 a_n || false) 38 (0 + a_n) K6x (catC 0 zeroC a_c))) (none)) (none) from by kernel_rfl).trans ?_
 rw [show decide (0 < a_n) = true by simp; omega, show Nat.ble ((0 + a_n) * 48) 140737488355328 = true from Nat.ble_eq_true_of_le (by omega), Nat.zero_add, show (Nat.blt 0 a_n || false) = true by rw [Bool.or_false]; exact Nat.ble_eq_true_of_le (by omega)]
 rfl
theorem m94 : MT 94 s94 := by
 refine meetsW mix0 G79 Tryz.func94 (by kernel_rfl) (by kernel_rfl) s94 fun args x h => ?_
 unfold s94 at h
 split at h
 ·rename_i a_n a_c
  obtain ⟨hp, rfl⟩ := sm_inj h
  exact ⟨_, _, by kernel_rfl, e94 a_n a_c hp⟩
 ·cases h
noncomputable abbrev Γ80 : LC := (94, s94) :: Γ79
theorem G80 : SD Γ80 := G79.cons m94
-- Concat
noncomputable def s130 : Ctr := fun
 | [.lst 2 1 g] => match g 0, g 1 with
  | [.arr a_n K6x a_c], [.arr b_n K6x b_c] => some (inB ((a_n + b_n : Nat) : Int) 1 1000000, AV.row true 38 (a_n + b_n) K6x (catC a_n (catC 0 zeroC a_c) b_c))
  | _, _ => none
 | _ => none
theorem e130 (a_n : Nat) (a_c : NNI) (b_n : Nat) (b_c : NNI) (hp : inB ((a_n + b_n : Nat) : Int) 1 1000000 = true) : evW Tryz.prog GLv Γ80 5 (⟨[true, false, false, true, false, false, true, false, false, true, true, true, false, false, false, false, false, false, false, false, false, false, false, false, false, true, true, true], [], [(24, [0]), (33, [0])], 1, []⟩) Tryz.f130 [.lst 2 1 fun i => [[.arr a_n K6x a_c], [.arr b_n K6x b_c]].getD i []] = some (AV.row true 38 (a_n + b_n) K6x (catC a_n (catC 0 zeroC a_c) b_c)) := by
 have hn := inB_iff.1 hp
 refine (show _ = cond (decide (wr (0 + (a_n : Int)) < 0)) (none) (cond (decide (wr (wr (0 + (a_n : Int)) + (b_n : Int)) < 0)) (none) (cond (inB (wr (wr (0 + (a_n : Int)) + (b_n : Int))) 1 1000000) (cond (Nat.ble ((0 + a_n) * 48) 140737488355328) (cond (Nat.ble ((0 + a_n + b_n) * 48) 140737488355328) (some (AV.row (Nat.blt 0 b_n || (Nat.blt 0 a_n || true)) 38 (0 + a_n + b_n) K6x (catC (0 + a_n) (catC 0 zeroC a_c) b_c))) (none)) (none)) (none))) from by kernel_rfl).trans ?_
 rw [show wr (0 + (a_n : Int)) = (a_n : Int) by rw [wr_in (by omega) (by omega)]; simp, show wr ((a_n : Int) + (b_n : Int)) = ((a_n + b_n : Nat) : Int) by rw [wr_in (by omega) (by omega)]; rfl, hp, show decide ((a_n : Int) < 0) = false from decide_eq_false (by omega), show decide (((a_n + b_n : Nat) : Int) < 0) = false from decide_eq_false (by omega),
  show Nat.ble ((0 + a_n) * 48) 140737488355328 = true from Nat.ble_eq_true_of_le (by omega), show Nat.ble ((0 + a_n + b_n) * 48) 140737488355328 = true from Nat.ble_eq_true_of_le (by omega), Bool.or_true, Bool.or_true, Nat.zero_add]
 rfl
theorem m130 : MT 130 s130 := by
 refine Meets.lst2 Tryz.func130 (by kernel_rfl) (by kernel_rfl) fun args x h => ?_
 unfold s130 at h
 split at h
 ·rename_i g
  split at h
  ·rename_i a_n a_c b_n b_c h0 h1
   obtain ⟨hp, rfl⟩ := sm_inj h
   exact ⟨g, fun i => ([[.arr a_n K6x a_c], [.arr b_n K6x b_c]] : List (List AV)).getD i [], rfl, h0, h1, meets_one mix0 G80 Tryz.func130 (by kernel_rfl) (by kernel_rfl) _ _ (by kernel_rfl) (e130 a_n a_c b_n b_c hp)⟩
  ·cases h
 ·cases h
noncomputable abbrev Γ81 : LC := (130, s130) :: Γ80
theorem G81 : SD Γ81 := G80.cons m130
-- impl.rotated
noncomputable def s96 : Ctr := fun
 | [.arr a_n K6x a_c] => some (inB a_n 1 1000000 && allP a_n a_c, AV.row true 38 (a_n) K6x (rotC a_n (lcF a_c 0 a_n 0) a_c))
 | _ => none
theorem e96 (a_n : Nat) (a_c : NNI) (hp : (inB a_n 1 1000000 && allP a_n a_c) = true) : evW Tryz.prog GLv Γ81 (0) (⟨[], [], [(16, [0])], 1, []⟩)  Tryz.f96 [.arr a_n K6x a_c] = some (AV.row true 38 (a_n) K6x (rotC a_n (lcF a_c 0 a_n 0) a_c)) := by
 rw [Bool.and_eq_true] at hp
 obtain ⟨hp, hv⟩ := hp
 have hn := inB_iff.1 hp
 have hl := lc_lt a_c a_n 0 0 a_n (by omega) (by omega)
 refine (show _ = cond ((a_n : Int) == 0) (some (AV.val (.slice none 0 0))) (cond (inB (a_n : Int) 1 1048576 && allP a_n a_c) (cond (decide (0 <= ((lcF a_c 0 a_n 0) : Int)) && decide (((lcF a_c 0 a_n 0) : Int) <= (a_n : Int))) (cond (decide (0 <= ((lcF a_c 0 a_n 0) : Int)) && decide (((lcF a_c 0 a_n 0) : Int) <= (a_n : Int))) (cond (inB ((a_n - (lcF a_c 0 a_n 0) + (lcF a_c 0 a_n 0) : Nat) : Int) 1 1000000) (some (AV.row true 38 (a_n - (lcF a_c 0 a_n 0) + (lcF a_c 0 a_n 0)) K6x (rotC a_n (lcF a_c 0 a_n 0) a_c))) (none)) (none)) (none)) (none)) from by kernel_rfl).trans ?_
 rw [show ((a_n : Int) == 0) = false by simp; omega, show inB (a_n : Int) 1 1048576 = true from inB_iff.2 (by omega), hv, show decide (0 <= ((lcF a_c 0 a_n 0) : Int)) = true by simp, show decide (((lcF a_c 0 a_n 0) : Int) <= (a_n : Int)) = true by simp; omega, show a_n - (lcF a_c 0 a_n 0) + (lcF a_c 0 a_n 0) = a_n by omega, hp]
 rfl
theorem m96 : MT 96 s96 := by
 refine meetsW mix0 G81 Tryz.func96 (by kernel_rfl) (by kernel_rfl) s96 fun args x h => ?_
 unfold s96 at h
 split at h
 ·rename_i a_n a_c
  obtain ⟨hp, rfl⟩ := sm_inj h
  exact ⟨_, _, by kernel_rfl, e96 a_n a_c hp⟩
 ·cases h
noncomputable abbrev Γ82 : LC := (96, s96) :: Γ81
theorem G82 : SD Γ82 := G81.cons m96
-- spec.l03Turned
noncomputable def s137 : Ctr := fun
 | [.arr a_n K6x a_c] => some (inB a_n 1 1000000 && allP a_n a_c, AV.row true 38 (a_n) K6x (rotC a_n (lcF a_c 0 a_n 0) a_c))
 | _ => none
theorem r137_step (K n a_n : Nat) (a_c : NNI) (i l : Nat) : runW Tryz.prog GLv Γ82 K cfC90 [.arr a_n K6x a_c] Tryz.f137 0 (n + 1) (st2 Tryz.f137.ntmps [.arr a_n K6x a_c, .non, .non, iv ((l : Int)), iv ((i : Int))] [.non]) = cond (decide ((i : Int) < (a_n : Int))) (cond ((decide (0 <= (i : Int)) && decide ((i : Int) < (a_n : Int)))) (cond ((decide (0 <= (l : Int)) && decide ((l : Int) < (a_n : Int)))) (cond (valP (pAt a_c i) && valP (pAt a_c l)) (cond (decide (cpP (pAt a_c i) (pAt a_c l) < 0)) (runW Tryz.prog GLv Γ82 K cfC90 [.arr a_n K6x a_c] Tryz.f137 0 n (st2 Tryz.f137.ntmps [.arr a_n K6x a_c, .non, .non, iv ((i : Int)), iv (wr ((i : Int) + 1))] [.non])) (runW Tryz.prog GLv Γ82 K cfC90 [.arr a_n K6x a_c] Tryz.f137 0 n (st2 Tryz.f137.ntmps [.arr a_n K6x a_c, .non, .non, iv ((l : Int)), iv (wr ((i : Int) + 1))] [.non]))) (none)) (none)) (none)) (cond (decide (0 <= (l : Int)) && decide ((l : Int) <= (a_n : Int))) (cond (Nat.ble ((0 + (a_n - l)) * 48) 140737488355328) (cond (decide (0 <= (l : Int)) && decide ((l : Int) <= (a_n : Int))) (cond (Nat.ble ((0 + (a_n - l) + l) * 48) 140737488355328) (some (AV.row (Nat.blt 0 l || (Nat.blt 0 (a_n - l) || false)) 38 (0 + (a_n - l) + l) K6x (catC (0 + (a_n - l)) (catC 0 zeroC fun i => a_c (i + l)) a_c))) (none)) (none)) (none)) (none)) := by kernel_rfl
theorem r137_run (K a_n : Nat) (a_c : NNI) (hn : a_n <= 1000000) (hv : ∀ i, i < a_n -> valP (pAt a_c i) = true) : ∀ (m i l n : Nat), i + m = a_n -> l < a_n -> m < n -> runW Tryz.prog GLv Γ82 K cfC90 [.arr a_n K6x a_c] Tryz.f137 0 n (st2 Tryz.f137.ntmps [.arr a_n K6x a_c, .non, .non, iv ((l : Int)), iv ((i : Int))] [.non]) = some (AV.row true 38 (a_n) K6x (rotC a_n (lcF a_c i m l) a_c)) := by
 intro m
 induction m with
 | zero =>
  intro i l n h1 h2 h3
  obtain ⟨n, rfl⟩ : ∃ n', n = n' + 1 := ⟨n - 1, by omega⟩
  rw [r137_step, nat_lt i a_n, show decide (i < a_n) = false by simp; omega]
  rw [show decide (0 <= (l : Int)) = true by simp, show decide ((l : Int) <= (a_n : Int)) = true by simp; omega, show Nat.ble ((0 + (a_n - l)) * 48) 140737488355328 = true from Nat.ble_eq_true_of_le (by omega), show Nat.ble ((0 + (a_n - l) + l) * 48) 140737488355328 = true from Nat.ble_eq_true_of_le (by omega),
   show (Nat.blt 0 (a_n - l) || false) = true by rw [Bool.or_false]; exact Nat.ble_eq_true_of_le (by omega), Bool.or_true, Nat.zero_add, show a_n - l + l = a_n by omega]
  rfl
 | succ m ih =>
  intro i l n h1 h2 h3
  obtain ⟨n, rfl⟩ : ∃ n', n = n' + 1 := ⟨n - 1, by omega⟩
  rw [r137_step, nat_nn, nat_nn, nat_lt i a_n, nat_lt l a_n, show decide (i < a_n) = true by simp; omega, show decide (l < a_n) = true by simp; omega, hv i (by omega), hv l h2]
  simp only [Bool.and_self, cond_true]
  rw [wr_succ (by omega), ih (i + 1) i n (by omega) (by omega) (by omega), ih (i + 1) l n (by omega) h2 (by omega)]
  simp only [lcF]
  cases (decide (cpP (pAt a_c i) (pAt a_c l) < 0)) <;> rfl
theorem e137 (a_n : Nat) (a_c : NNI) (hp : (inB a_n 1 1000000 && allP a_n a_c) = true) : evW Tryz.prog GLv Γ82 (a_n + 2) (cfC90)  Tryz.f137 [.arr a_n K6x a_c] = some (AV.row true 38 (a_n) K6x (rotC a_n (lcF a_c 0 a_n 0) a_c)) := by
 rw [Bool.and_eq_true] at hp
 obtain ⟨hp, hv⟩ := hp
 have hn := inB_iff.1 hp
 refine (show _ = runW Tryz.prog GLv Γ82 (a_n + 2) cfC90 [.arr a_n K6x a_c] Tryz.f137 0 (a_n + 2) (st2 Tryz.f137.ntmps [.arr a_n K6x a_c, .non, .non, iv (((0 : Nat) : Int)), iv (((1 : Nat) : Int))] [.non]) from by kernel_rfl).trans ?_
 rw [r137_run _ a_n a_c (by omega) (allP_iff.1 hv) (a_n - 1) 1 0 _ (by omega) (by omega) (by omega), lc_one a_n a_c (by omega)]
theorem m137 : MT 137 s137 := by
 refine meetsW mix0 G82 Tryz.func137 (by kernel_rfl) (by kernel_rfl) s137 fun args x h => ?_
 unfold s137 at h
 split at h
 ·rename_i a_n a_c
  obtain ⟨hp, rfl⟩ := sm_inj h
  exact ⟨_, _, by kernel_rfl, e137 a_n a_c hp⟩
 ·cases h
noncomputable abbrev Γ83 : LC := (137, s137) :: Γ82
theorem G83 : SD Γ83 := G82.cons m137
end Go.Proofs.YtlcopddgplbdhaaGreatDoor
