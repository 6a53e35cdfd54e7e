/- Contracts of the program's functions, by the evaluator. -/
import Derived.Test.YtdildcdilhgdkaaGreatDoorS3
import Derived.Test.YtdildcdilhgdkaaGreatDoorPlD
import Derived.Test.YtdildcdilhgdkaaGreatDoorPlA
namespace Go.Proofs.YtdildcdilhgdkaaGreatDoor
open Go.Ev
set_option linter.unusedVariables false
set_option linter.unusedSimpArgs false
set_option maxRecDepth 100000
-- slices.Grow[[]impl.Point,impl.Point]
noncomputable def s108 : Ctr := fun
  | [.val (.slice none 0 0), .val (.int .i64 m)] => some (inB m 1 1000000, AV.row true 35 (0) K6x (fun _ _ => 0))
  | _ => none
theorem e108 (m : Int) (hp : (inB m 1 1000000) = true) : evW Tryz.prog GLv Γ82 (0) (⟨[], [], [(22, [0])], 1, []⟩)  Tryz.f108 [.val (.slice none 0 0), .val (.int .i64 m)] = some (AV.row true 35 (0) K6x (fun _ _ => 0)) := by
  have hm := inB_iff.1 hp
  refine (show _ = cond (decide (m < 0)) (none) (cond (decide (wr (m - 0) > 0)) (cond (decide (0 < wr (m - 0)) && decide (wr (m - 0) * 48 <= 140737488355328)) (cond (decide ((0 : Int) <= 0) && decide ((0 : Int) <= ((wr (m - 0)).toNat : Int))) (some (AV.row true 35 (0) K6x (fun _ _ => 0))) (none)) (none)) (some (AV.val (.slice none 0 0)))) from by kernel_rfl).trans ?_
  rw [show wr (m - 0) = m by rw [wr_in (by omega) (by omega)]; omega, show decide (m < 0) = false by simp; omega, show decide (m > 0) = true by simp; omega, show decide (m * 48 <= 140737488355328) = true by simp; omega, show decide ((0 : Int) <= (m.toNat : Int)) = true from decide_eq_true (by omega)]
  rfl
theorem m108 : Meets Tryz.prog GLv 108 s108 := by
  refine meetsW mix0 G82 Tryz.func108 (by kernel_rfl) (by kernel_rfl) s108 fun args x h => ?_
  unfold s108 at h
  split at h
  . rename_i m
    simp only [Option.some.injEq, Prod.mk.injEq] at h
    obtain ⟨hp, rfl⟩ := h
    exact ⟨_, _, by kernel_rfl, e108 m hp⟩
  . cases h
noncomputable abbrev Γ83 : List (Nat × Ctr) := (108, s108) :: Γ82
theorem G83 : Sound Tryz.prog GLv Γ83 := G82.cons m108
-- Concat
noncomputable def s91 : Ctr := fun
  | [.lst 2 1 g] => match g 0, g 1 with
    | [.arr a_n K6x a_c], [.arr b_n K6x b_c] => some (inB ((a_n + b_n : Nat) : Int) 1 1000000, AV.row true 35 (a_n + b_n) K6x (catC a_n (catC 0 zeroC a_c) b_c))
    | _, _ => none
  | _ => none
theorem e91 (a_n : Nat) (a_c : NNI) (b_n : Nat) (b_c : NNI) (hp : inB ((a_n + b_n : Nat) : Int) 1 1000000 = true) : evW Tryz.prog GLv Γ83 5 (⟨[true, false, false, true, false, false, true, false, false, true, true, true, false, false, false, false, false, false, false, false, false, false, false, false, false, true, true, true], [], [(24, [0]), (33, [0])], 1, []⟩) Tryz.f91 [.lst 2 1 fun i => [[.arr a_n K6x a_c], [.arr b_n K6x b_c]].getD i []] = some (AV.row true 35 (a_n + b_n) K6x (catC a_n (catC 0 zeroC a_c) b_c)) := by
  have hn := inB_iff.1 hp
  refine (show _ = cond (decide (wr (0 + (a_n : Int)) < 0)) (none) (cond (decide (wr (wr (0 + (a_n : Int)) + (b_n : Int)) < 0)) (none) (cond (inB (wr (wr (0 + (a_n : Int)) + (b_n : Int))) 1 1000000) (cond (Nat.ble ((0 + a_n) * 48) 140737488355328) (cond (Nat.ble ((0 + a_n + b_n) * 48) 140737488355328) (some (AV.row (Nat.blt 0 b_n || (Nat.blt 0 a_n || true)) 35 (0 + a_n + b_n) K6x (catC (0 + a_n) (catC 0 zeroC a_c) b_c))) (none)) (none)) (none))) from by kernel_rfl).trans ?_
  rw [show wr (0 + (a_n : Int)) = (a_n : Int) by rw [wr_in (by omega) (by omega)]; simp, show wr ((a_n : Int) + (b_n : Int)) = ((a_n + b_n : Nat) : Int) by rw [wr_in (by omega) (by omega)]; rfl, hp, show decide ((a_n : Int) < 0) = false from decide_eq_false (by omega), show decide (((a_n + b_n : Nat) : Int) < 0) = false from decide_eq_false (by omega),
    show Nat.ble ((0 + a_n) * 48) 140737488355328 = true from Nat.ble_eq_true_of_le (by omega), show Nat.ble ((0 + a_n + b_n) * 48) 140737488355328 = true from Nat.ble_eq_true_of_le (by omega), Bool.or_true, Bool.or_true, Nat.zero_add]
  rfl
theorem m91 : Meets Tryz.prog GLv 91 s91 := by
  refine Meets.lst2 Tryz.func91 (by kernel_rfl) (by kernel_rfl) fun args x h => ?_
  unfold s91 at h
  split at h
  . rename_i g
    split at h
    . rename_i a_n a_c b_n b_c h0 h1
      simp only [Option.some.injEq, Prod.mk.injEq] at h
      obtain ⟨hp, rfl⟩ := h
      exact ⟨g, fun i => ([[.arr a_n K6x a_c], [.arr b_n K6x b_c]] : List (List AV)).getD i [], rfl, h0, h1, meets_one mix0 G83 Tryz.func91 (by kernel_rfl) (by kernel_rfl) _ _ (by kernel_rfl) (e91 a_n a_c b_n b_c hp)⟩
    . cases h
  . cases h
noncomputable abbrev Γ84 : List (Nat × Ctr) := (91, s91) :: Γ83
theorem G84 : Sound Tryz.prog GLv Γ84 := G83.cons m91
-- impl.rotated
noncomputable def s54 : Ctr := fun
  | [.arr a_n K6x a_c] => some (inB a_n 1 1000000 && allP a_n a_c, AV.row true 35 (a_n) K6x (rotC a_n (lcF a_c 0 a_n 0) a_c))
  | _ => none
theorem e54 (a_n : Nat) (a_c : NNI) (hp : (inB a_n 1 1000000 && allP a_n a_c) = true) : evW Tryz.prog GLv Γ84 (0) (⟨[], [], [(16, [0])], 1, []⟩)  Tryz.f54 [.arr a_n K6x a_c] = some (AV.row true 35 (a_n) K6x (rotC a_n (lcF a_c 0 a_n 0) a_c)) := by
  rw [Bool.and_eq_true] at hp
  obtain ⟨hp, hv⟩ := hp
  have hn := inB_iff.1 hp
  have hl := lc_lt a_c a_n 0 0 a_n (by omega) (by omega)
  refine (show _ = cond ((a_n : Int) == 0) (some (AV.val (.slice none 0 0))) (cond (inB (a_n : Int) 1 1048576 && allP a_n a_c) (cond (decide (0 <= ((lcF a_c 0 a_n 0) : Int)) && decide (((lcF a_c 0 a_n 0) : Int) <= (a_n : Int))) (cond (decide (0 <= ((lcF a_c 0 a_n 0) : Int)) && decide (((lcF a_c 0 a_n 0) : Int) <= (a_n : Int))) (cond (inB ((a_n - (lcF a_c 0 a_n 0) + (lcF a_c 0 a_n 0) : Nat) : Int) 1 1000000) (some (AV.row true 35 (a_n - (lcF a_c 0 a_n 0) + (lcF a_c 0 a_n 0)) K6x (rotC a_n (lcF a_c 0 a_n 0) a_c))) (none)) (none)) (none)) (none)) from by kernel_rfl).trans ?_
  rw [show ((a_n : Int) == 0) = false by simp; omega, show inB (a_n : Int) 1 1048576 = true from inB_iff.2 (by omega), hv, show decide (0 <= ((lcF a_c 0 a_n 0) : Int)) = true by simp, show decide (((lcF a_c 0 a_n 0) : Int) <= (a_n : Int)) = true by simp; omega, show a_n - (lcF a_c 0 a_n 0) + (lcF a_c 0 a_n 0) = a_n by omega, hp]
  rfl
theorem m54 : Meets Tryz.prog GLv 54 s54 := by
  refine meetsW mix0 G84 Tryz.func54 (by kernel_rfl) (by kernel_rfl) s54 fun args x h => ?_
  unfold s54 at h
  split at h
  . rename_i a_n a_c
    simp only [Option.some.injEq, Prod.mk.injEq] at h
    obtain ⟨hp, rfl⟩ := h
    exact ⟨_, _, by kernel_rfl, e54 a_n a_c hp⟩
  . cases h
noncomputable abbrev Γ85 : List (Nat × Ctr) := (54, s54) :: Γ84
theorem G85 : Sound Tryz.prog GLv Γ85 := G84.cons m54
-- spec.l03Turned
noncomputable def s74 : Ctr := fun
  | [.arr a_n K6x a_c] => some (inB a_n 1 1000000 && allP a_n a_c, AV.row true 35 (a_n) K6x (rotC a_n (lcF a_c 0 a_n 0) a_c))
  | _ => none
theorem r74_step (K n a_n : Nat) (a_c : NNI) (i l : Nat) : runW Tryz.prog GLv Γ85 K ⟨kx2, [], [(27, [0]), (32, [0])], 1, []⟩ [.arr a_n K6x a_c] Tryz.f74 0 (n + 1) (st2 Tryz.f74.ntmps [.arr a_n K6x a_c, .non, .non, iv ((l : Int)), iv ((i : Int))] [.non]) = cond (decide ((i : Int) < (a_n : Int))) (cond ((decide (0 <= (i : Int)) && decide ((i : Int) < (a_n : Int)))) (cond ((decide (0 <= (l : Int)) && decide ((l : Int) < (a_n : Int)))) (cond (valP (pAt a_c i) && valP (pAt a_c l)) (cond (decide (cpP (pAt a_c i) (pAt a_c l) < 0)) (runW Tryz.prog GLv Γ85 K ⟨kx2, [], [(27, [0]), (32, [0])], 1, []⟩ [.arr a_n K6x a_c] Tryz.f74 0 n (st2 Tryz.f74.ntmps [.arr a_n K6x a_c, .non, .non, iv ((i : Int)), iv (wr ((i : Int) + 1))] [.non])) (runW Tryz.prog GLv Γ85 K ⟨kx2, [], [(27, [0]), (32, [0])], 1, []⟩ [.arr a_n K6x a_c] Tryz.f74 0 n (st2 Tryz.f74.ntmps [.arr a_n K6x a_c, .non, .non, iv ((l : Int)), iv (wr ((i : Int) + 1))] [.non]))) (none)) (none)) (none)) (cond (decide (0 <= (l : Int)) && decide ((l : Int) <= (a_n : Int))) (cond (Nat.ble ((0 + (a_n - l)) * 48) 140737488355328) (cond (decide (0 <= (l : Int)) && decide ((l : Int) <= (a_n : Int))) (cond (Nat.ble ((0 + (a_n - l) + l) * 48) 140737488355328) (some (AV.row (Nat.blt 0 l || (Nat.blt 0 (a_n - l) || false)) 35 (0 + (a_n - l) + l) K6x (catC (0 + (a_n - l)) (catC 0 zeroC fun i => a_c (i + l)) a_c))) (none)) (none)) (none)) (none)) := by kernel_rfl
theorem r74_run (K a_n : Nat) (a_c : NNI) (hn : a_n <= 1000000) (hv : ∀ i, i < a_n -> valP (pAt a_c i) = true) : ∀ (m i l n : Nat), i + m = a_n -> l < a_n -> m < n -> runW Tryz.prog GLv Γ85 K ⟨kx2, [], [(27, [0]), (32, [0])], 1, []⟩ [.arr a_n K6x a_c] Tryz.f74 0 n (st2 Tryz.f74.ntmps [.arr a_n K6x a_c, .non, .non, iv ((l : Int)), iv ((i : Int))] [.non]) = some (AV.row true 35 (a_n) K6x (rotC a_n (lcF a_c i m l) a_c)) := by
  intro m
  induction m with
  | zero =>
    intro i l n h1 h2 h3
    obtain ⟨n, rfl⟩ : ∃ n', n = n' + 1 := ⟨n - 1, by omega⟩
    rw [r74_step, nat_lt i a_n, show decide (i < a_n) = false by simp; omega]
    rw [show decide (0 <= (l : Int)) = true by simp, show decide ((l : Int) <= (a_n : Int)) = true by simp; omega, show Nat.ble ((0 + (a_n - l)) * 48) 140737488355328 = true from Nat.ble_eq_true_of_le (by omega), show Nat.ble ((0 + (a_n - l) + l) * 48) 140737488355328 = true from Nat.ble_eq_true_of_le (by omega),
      show (Nat.blt 0 (a_n - l) || false) = true by rw [Bool.or_false]; exact Nat.ble_eq_true_of_le (by omega), Bool.or_true, Nat.zero_add, show a_n - l + l = a_n by omega]
    rfl
  | succ m ih =>
    intro i l n h1 h2 h3
    obtain ⟨n, rfl⟩ : ∃ n', n = n' + 1 := ⟨n - 1, by omega⟩
    rw [r74_step, nat_nn, nat_nn, nat_lt i a_n, nat_lt l a_n, show decide (i < a_n) = true by simp; omega, show decide (l < a_n) = true by simp; omega, hv i (by omega), hv l h2]
    simp only [Bool.and_self, cond_true]
    rw [wr_succ (by omega), ih (i + 1) i n (by omega) (by omega) (by omega), ih (i + 1) l n (by omega) h2 (by omega)]
    simp only [lcF]
    cases (decide (cpP (pAt a_c i) (pAt a_c l) < 0)) <;> rfl
theorem e74 (a_n : Nat) (a_c : NNI) (hp : (inB a_n 1 1000000 && allP a_n a_c) = true) : evW Tryz.prog GLv Γ85 (a_n + 2) (⟨kx2, [], [(27, [0]), (32, [0])], 1, []⟩)  Tryz.f74 [.arr a_n K6x a_c] = some (AV.row true 35 (a_n) K6x (rotC a_n (lcF a_c 0 a_n 0) a_c)) := by
  rw [Bool.and_eq_true] at hp
  obtain ⟨hp, hv⟩ := hp
  have hn := inB_iff.1 hp
  refine (show _ = runW Tryz.prog GLv Γ85 (a_n + 2) ⟨kx2, [], [(27, [0]), (32, [0])], 1, []⟩ [.arr a_n K6x a_c] Tryz.f74 0 (a_n + 2) (st2 Tryz.f74.ntmps [.arr a_n K6x a_c, .non, .non, iv (((0 : Nat) : Int)), iv (((1 : Nat) : Int))] [.non]) from by kernel_rfl).trans ?_
  rw [r74_run _ a_n a_c (by omega) (allP_iff.1 hv) (a_n - 1) 1 0 _ (by omega) (by omega) (by omega), lc_one a_n a_c (by omega)]
theorem m74 : Meets Tryz.prog GLv 74 s74 := by
  refine meetsW mix0 G85 Tryz.func74 (by kernel_rfl) (by kernel_rfl) s74 fun args x h => ?_
  unfold s74 at h
  split at h
  . rename_i a_n a_c
    simp only [Option.some.injEq, Prod.mk.injEq] at h
    obtain ⟨hp, rfl⟩ := h
    exact ⟨_, _, by kernel_rfl, e74 a_n a_c hp⟩
  . cases h
noncomputable abbrev Γ86 : List (Nat × Ctr) := (74, s74) :: Γ85
theorem G86 : Sound Tryz.prog GLv Γ86 := G85.cons m74
end Go.Proofs.YtdildcdilhgdkaaGreatDoor
