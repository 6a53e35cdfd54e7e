/- Contracts of the program's functions, by the evaluator. -/
import Derived.Test.YtdildcdilhgdkaaGreatDoorC4
import Derived.Test.YtdildcdilhgdkaaGreatDoorPlD
namespace Go.Proofs.YtdildcdilhgdkaaGreatDoor
open Go.Ev
set_option linter.unusedVariables false
set_option linter.unusedSimpArgs false
set_option maxRecDepth 100000
-- spec.l03Wide
def s38 : Ctr := fun
  | [.arr a_n K6x a_c] => some (inB a_n 1 1048576, .row true 100 a_n K6x (wideC a_n a_c))
  | _ => none
theorem r38_step (K n a_n : Nat) (a_c d : NNI) (i : Nat) : runW Tryz.prog GLv Γ69 K ⟨kx2, [], [(19, [0])], 1, []⟩ [.arr a_n K6x a_c] Tryz.f38 0 (n + 1) (st2 Tryz.f38.ntmps [.arr a_n K6x a_c, .non, .non, .sl Tryz.f38.ntmps i, iv ((i : Int))] [.row true 100 i K6x (d)]) = cond (decide ((i : Int) < (a_n : Int))) (cond ((decide (0 <= (i : Int)) && decide ((i : Int) < (a_n : Int)))) (cond (Nat.ble ((i + 1) * 48) 140737488355328) (runW Tryz.prog GLv Γ69 K ⟨kx2, [], [(19, [0])], 1, []⟩ [.arr a_n K6x a_c] Tryz.f38 0 n (st2 Tryz.f38.ntmps [.arr a_n K6x a_c, .non, .non, .sl Tryz.f38.ntmps (i + 1), iv (wr ((i : Int) + 1))] [.row true 100 (i + 1) K6x (catC i d (listC [rowL 6 a_c i]))])) (none)) (none)) (some (.row true 100 i K6x (d))) := by kernel_rfl
theorem r38_step0 (K n a_n : Nat) (a_c : NNI) : runW Tryz.prog GLv Γ69 K ⟨kx2, [], [(19, [0])], 1, []⟩ [.arr a_n K6x a_c] Tryz.f38 0 (n + 1) (st2 Tryz.f38.ntmps [.arr a_n K6x a_c, .non, .non, .nils, iv (((0 : Nat) : Int))] [.non]) = cond (decide (((0 : Nat) : Int) < (a_n : Int))) (cond ((decide (0 <= (((0 : Nat) : Int) : Int)) && decide ((((0 : Nat) : Int) : Int) < (a_n : Int)))) (runW Tryz.prog GLv Γ69 K ⟨kx2, [], [(19, [0])], 1, []⟩ [.arr a_n K6x a_c] Tryz.f38 0 n (st2 Tryz.f38.ntmps [.arr a_n K6x a_c, .non, .non, .sl Tryz.f38.ntmps (0 + 1), iv (wr (((0 : Nat) : Int) + 1))] [.row true 100 (0 + 1) K6x (catC 0 zeroC (listC [rowL 6 a_c 0]))])) (none)) (some .nils) := by kernel_rfl
theorem r38_run (K a_n : Nat) (a_c : NNI) (hn : a_n <= 1048576) : ∀ (m i n : Nat) (d : NNI), i + m = a_n -> m < n -> runW Tryz.prog GLv Γ69 K ⟨kx2, [], [(19, [0])], 1, []⟩ [.arr a_n K6x a_c] Tryz.f38 0 n (st2 Tryz.f38.ntmps [.arr a_n K6x a_c, .non, .non, .sl Tryz.f38.ntmps i, iv ((i : Int))] [.row true 100 i K6x (d)]) = some (.row true 100 a_n K6x (appF (rowL 6 a_c) i m d)) := by
  intro m
  induction m with
  | zero =>
    intro i n d h1 h2
    obtain ⟨n, rfl⟩ : ∃ n', n = n' + 1 := ⟨n - 1, by omega⟩
    rw [r38_step, nat_lt i a_n, show decide (i < a_n) = false by simp; omega, show i = a_n by omega]
    rfl
  | succ m ih =>
    intro i n d h1 h2
    obtain ⟨n, rfl⟩ : ∃ n', n = n' + 1 := ⟨n - 1, by omega⟩
    rw [r38_step, nat_nn, nat_lt i a_n, show decide (i < a_n) = true by simp; omega, show Nat.ble ((i + 1) * 48) 140737488355328 = true from Nat.ble_eq_true_of_le (by omega)]
    simp only [Bool.and_self, cond_true]
    rw [wr_succ (by omega), ih (i + 1) n _ (by omega) (by omega)]
    rfl
theorem e38 (a_n : Nat) (a_c : NNI) (hp : (inB a_n 1 1048576) = true) : evW Tryz.prog GLv Γ69 (a_n + 2) (⟨kx2, [], [(19, [0])], 1, []⟩)  Tryz.f38 [.arr a_n K6x a_c] = some (.row true 100 a_n K6x (wideC a_n a_c)) := by
  have hn := inB_iff.1 hp
  obtain ⟨k, rfl⟩ : ∃ k, a_n = k + 1 := ⟨a_n - 1, by omega⟩
  refine (show _ = runW Tryz.prog GLv Γ69 (k + 1 + 2) ⟨kx2, [], [(19, [0])], 1, []⟩ [.arr (k + 1) K6x a_c] Tryz.f38 0 (k + 1 + 1 + 1) (st2 Tryz.f38.ntmps [.arr (k + 1) K6x a_c, .non, .non, .nils, iv (((0 : Nat) : Int))] [.non]) from by kernel_rfl).trans ?_
  rw [r38_step0, nat_lt, show decide (0 < k + 1) = true by simp, nat_nn]
  simp only [Bool.and_self, cond_true]
  rw [wr_succ (by omega), r38_run _ (k + 1) a_c (by omega) k (0 + 1) _ _ (by omega) (by omega)]
  rfl
theorem m38 : Meets Tryz.prog GLv 38 s38 := by
  refine meetsW mix0 G69 Tryz.func38 (by kernel_rfl) (by kernel_rfl) s38 fun args x h => ?_
  unfold s38 at h
  split at h
  . rename_i a_n a_c
    simp only [Option.some.injEq, Prod.mk.injEq] at h
    obtain ⟨hp, rfl⟩ := h
    exact ⟨_, _, by kernel_rfl, e38 a_n a_c hp⟩
  . cases h
abbrev Γ70 : List (Nat × Ctr) := (38, s38) :: Γ69
theorem G70 : Sound Tryz.prog GLv Γ70 := G69.cons m38
-- spec.l03Sides
def s57 : Ctr := fun
  | [.arr a_n K6x a_c] => some (inB a_n 1 1048576 && allP a_n a_c, .tup [.row (okD a_n a_c) 2 (cond (okD a_n a_c) a_n 0) [.int .i64] (cond (okD a_n a_c) (sidC a_n a_c) zeroC), bv (okD a_n a_c)])
  | _ => none
theorem r57_step (K n a_n : Nat) (a_c d : NNI) (i : Nat) : runW Tryz.prog GLv Γ70 K ⟨kx20, [], [(33, [0])], 1, [some (2, [.int .i64]), none]⟩ [.arr a_n K6x a_c] Tryz.f57 0 (n + 1) (st2 Tryz.f57.ntmps [.arr a_n K6x a_c, .non, .non, .non, .sl Tryz.f57.ntmps i, iv ((i : Int))] [.row true 2 i [.int .i64] (d)]) = cond (decide ((i : Int) < (a_n : Int))) (cond (!((a_n : Int) == 0)) (cond ((decide (0 <= (((wr ((i : Int) + 1)).tmod (a_n : Int)) : Int)) && decide ((((wr ((i : Int) + 1)).tmod (a_n : Int)) : Int) < (a_n : Int)))) (cond ((decide (0 <= (i : Int)) && decide ((i : Int) < (a_n : Int)))) (cond (pkP (pAt a_c ((wr ((i : Int) + 1)).tmod (a_n : Int)).toNat) (pAt a_c i)) (cond (wayB (sP (pAt a_c ((wr ((i : Int) + 1)).tmod (a_n : Int)).toNat) (pAt a_c i))) (cond (ltz (dirF 16 0 (sP (pAt a_c ((wr ((i : Int) + 1)).tmod (a_n : Int)).toNat) (pAt a_c i)))) (some (AV.tup [.row false 2 0 [.int .i64] (fun _ _ => 0), bv false])) (cond (Nat.ble ((i + 1) * 8) 140737488355328) (runW Tryz.prog GLv Γ70 K ⟨kx20, [], [(33, [0])], 1, [some (2, [.int .i64]), none]⟩ [.arr a_n K6x a_c] Tryz.f57 0 n (st2 Tryz.f57.ntmps [.arr a_n K6x a_c, .non, .non, .non, .sl Tryz.f57.ntmps (i + 1), iv (wr ((i : Int) + 1))] [.row true 2 (i + 1) [.int .i64] (catC i d (oneC (dirF 16 0 (sP (pAt a_c ((wr ((i : Int) + 1)).tmod (a_n : Int)).toNat) (pAt a_c i)))))])) (none))) (none)) (none)) (none)) (none)) (none)) (some (AV.tup [.row true 2 i [.int .i64] (d), bv true])) := by kernel_rfl
theorem r57_step0 (K n a_n : Nat) (a_c : NNI) : runW Tryz.prog GLv Γ70 K ⟨kx20, [], [(33, [0])], 1, [some (2, [.int .i64]), none]⟩ [.arr a_n K6x a_c] Tryz.f57 0 (n + 1) (st2 Tryz.f57.ntmps [.arr a_n K6x a_c, .non, .non, .non, .nils, iv (((0 : Nat) : Int))] [.non]) = cond (decide (((0 : Nat) : Int) < (a_n : Int))) (cond (!((a_n : Int) == 0)) (cond ((decide (0 <= (((wr (((0 : Nat) : Int) + 1)).tmod (a_n : Int)) : Int)) && decide ((((wr (((0 : Nat) : Int) + 1)).tmod (a_n : Int)) : Int) < (a_n : Int)))) (cond ((decide (0 <= ((0 : Nat) : Int)) && decide (((0 : Nat) : Int) < (a_n : Int)))) (cond (pkP (pAt a_c ((wr (((0 : Nat) : Int) + 1)).tmod (a_n : Int)).toNat) (pAt a_c (0 : Nat))) (cond (wayB (sP (pAt a_c ((wr (((0 : Nat) : Int) + 1)).tmod (a_n : Int)).toNat) (pAt a_c (0 : Nat)))) (cond (ltz (dirF 16 0 (sP (pAt a_c ((wr (((0 : Nat) : Int) + 1)).tmod (a_n : Int)).toNat) (pAt a_c (0 : Nat))))) (some (AV.tup [.row false 2 0 [.int .i64] (fun _ _ => 0), bv false])) (runW Tryz.prog GLv Γ70 K ⟨kx20, [], [(33, [0])], 1, [some (2, [.int .i64]), none]⟩ [.arr a_n K6x a_c] Tryz.f57 0 n (st2 Tryz.f57.ntmps [.arr a_n K6x a_c, .non, .non, .non, .sl Tryz.f57.ntmps (0 + 1), iv (wr (((0 : Nat) : Int) + 1))] [.row true 2 (0 + 1) [.int .i64] (catC 0 zeroC (oneC (dirF 16 0 (sP (pAt a_c ((wr (((0 : Nat) : Int) + 1)).tmod (a_n : Int)).toNat) (pAt a_c (0 : Nat))))))]))) (none)) (none)) (none)) (none)) (none)) (some (AV.tup [.row false 2 0 [.int .i64] (fun _ _ => 0), bv true])) := by kernel_rfl
theorem r57_run (K a_n : Nat) (a_c : NNI) (h0 : 0 < a_n) (hn : a_n <= 1048576) (hv : ∀ i, i < a_n -> valP (pAt a_c i) = true) : ∀ (m i n : Nat) (d : NNI), i + m = a_n -> m < n -> runW Tryz.prog GLv Γ70 K ⟨kx20, [], [(33, [0])], 1, [some (2, [.int .i64]), none]⟩ [.arr a_n K6x a_c] Tryz.f57 0 n (st2 Tryz.f57.ntmps [.arr a_n K6x a_c, .non, .non, .non, .sl Tryz.f57.ntmps i, iv ((i : Int))] [.row true 2 i [.int .i64] (d)]) = cond (allF (fun j => !(ltz (dirA a_n a_c j))) i m) (some (AV.tup [.row true 2 a_n [.int .i64] (appO (dirA a_n a_c) i m d), bv true])) (some (AV.tup [.row false 2 0 [.int .i64] (fun _ _ => 0), bv false])) := by
  intro m
  induction m with
  | zero =>
    intro i n d h1 h2
    obtain ⟨n, rfl⟩ : ∃ n', n = n' + 1 := ⟨n - 1, by omega⟩
    rw [r57_step, nat_lt i a_n, show decide (i < a_n) = false by simp; omega, show i = a_n by omega]
    rfl
  | succ m ih =>
    intro i n d h1 h2
    obtain ⟨n, rfl⟩ : ∃ n', n = n' + 1 := ⟨n - 1, by omega⟩
    have hm : (i + 1) % a_n < a_n := Nat.mod_lt _ h0
    obtain ⟨v, u, _, _, hw, hk⟩ := way_of (hv i (by omega)) (hv _ hm)
    rw [r57_step, wr_succ (by omega), tmod_cast]
    simp only [Int.toNat_natCast, sP_eq]
    rw [nat_nn, nat_nn, nat_lt i a_n, nat_lt _ a_n, show decide (i < a_n) = true by simp; omega, show decide ((i + 1) % a_n < a_n) = true by simpa using hm, show (!((a_n : Int) == 0)) = true by simp; omega, hk, way_wayB hw]
    simp only [Bool.and_self, cond_true]
    rw [show dirF 16 0 (subP (pAt a_c ((i + 1) % a_n)) (pAt a_c i)) = dirA a_n a_c i from rfl]
    rw [show Nat.ble ((i + 1) * 8) 140737488355328 = true from Nat.ble_eq_true_of_le (by omega), cond_true, ih (i + 1) n _ (by omega) (by omega)]
    show cond (ltz (dirA a_n a_c i)) (some (AV.tup [.row false 2 0 [.int .i64] (fun _ _ => 0), bv false])) (cond (allF (fun j => !(ltz (dirA a_n a_c j))) (i + 1) m) (some (AV.tup [.row true 2 a_n [.int .i64] (appO (dirA a_n a_c) (i + 1) m (catC i d (oneC (dirA a_n a_c i)))), bv true])) (some (AV.tup [.row false 2 0 [.int .i64] (fun _ _ => 0), bv false]))) = cond (!(ltz (dirA a_n a_c i)) && allF (fun j => !(ltz (dirA a_n a_c j))) (i + 1) m) (some (AV.tup [.row true 2 a_n [.int .i64] (appO (dirA a_n a_c) (i + 1) m (catC i d (oneC (dirA a_n a_c i)))), bv true])) (some (AV.tup [.row false 2 0 [.int .i64] (fun _ _ => 0), bv false]))
    cases ltz (dirA a_n a_c i) <;> rfl
theorem e57 (a_n : Nat) (a_c : NNI) (hp : (inB a_n 1 1048576 && allP a_n a_c) = true) : evW Tryz.prog GLv Γ70 (a_n + 2) (⟨kx20, [], [(33, [0])], 1, [some (2, [.int .i64]), none]⟩)  Tryz.f57 [.arr a_n K6x a_c] = some (.tup [.row (okD a_n a_c) 2 (cond (okD a_n a_c) a_n 0) [.int .i64] (cond (okD a_n a_c) (sidC a_n a_c) zeroC), bv (okD a_n a_c)]) := by
  simp only [Bool.and_eq_true, inB_iff] at hp
  obtain ⟨hn, hv⟩ := hp
  have hv := allP_iff.1 hv
  have h0 : 0 < a_n := by omega
  have hn : a_n <= 1048576 := by omega
  obtain ⟨k, hk'⟩ : ∃ k, a_n = k + 1 := ⟨a_n - 1, by omega⟩
  have key : runW Tryz.prog GLv Γ70 (a_n + 2) ⟨kx20, [], [(33, [0])], 1, [some (2, [.int .i64]), none]⟩ [.arr a_n K6x a_c] Tryz.f57 0 (a_n + 1 + 1) (st2 Tryz.f57.ntmps [.arr a_n K6x a_c, .non, .non, .non, .nils, iv (((0 : Nat) : Int))] [.non]) = cond (okD a_n a_c) (some (AV.tup [.row true 2 a_n [.int .i64] (sidC a_n a_c), bv true])) (some (AV.tup [.row false 2 0 [.int .i64] (fun _ _ => 0), bv false])) := by
      have hm : (0 + 1) % a_n < a_n := Nat.mod_lt _ h0
      obtain ⟨v, u, _, _, hw, hk⟩ := way_of (hv 0 (by omega)) (hv _ hm)
      rw [r57_step0, wr_succ (by omega), tmod_cast]
      simp only [Int.toNat_natCast, sP_eq]
      rw [nat_nn, nat_nn, nat_lt 0 a_n, nat_lt _ a_n, show decide (0 < a_n) = true by simp; omega, show decide ((0 + 1) % a_n < a_n) = true by simpa using hm, show (!((a_n : Int) == 0)) = true by simp; omega, hk, way_wayB hw]
      simp only [Bool.and_self, cond_true]
      rw [show dirF 16 0 (subP (pAt a_c ((0 + 1) % a_n)) (pAt a_c 0)) = dirA a_n a_c 0 from rfl]
      rw [r57_run _ a_n a_c h0 hn hv k (0 + 1) _ _ (by omega) (by omega)]
      unfold okD sidC
      rw [hk']
      show cond (ltz (dirA (k + 1) a_c 0)) (some (AV.tup [.row false 2 0 [.int .i64] (fun _ _ => 0), bv false])) (cond (allF (fun j => !(ltz (dirA (k + 1) a_c j))) (0 + 1) k) (some (AV.tup [.row true 2 (k + 1) [.int .i64] (appO (dirA (k + 1) a_c) (0 + 1) k (catC 0 zeroC (oneC (dirA (k + 1) a_c 0)))), bv true])) (some (AV.tup [.row false 2 0 [.int .i64] (fun _ _ => 0), bv false]))) = cond (!(ltz (dirA (k + 1) a_c 0)) && allF (fun j => !(ltz (dirA (k + 1) a_c j))) (0 + 1) k) (some (AV.tup [.row true 2 (k + 1) [.int .i64] (appO (dirA (k + 1) a_c) (0 + 1) k (catC 0 zeroC (oneC (dirA (k + 1) a_c 0)))), bv true])) (some (AV.tup [.row false 2 0 [.int .i64] (fun _ _ => 0), bv false]))
      cases ltz (dirA (k + 1) a_c 0) <;> rfl
  refine (show _ = runW Tryz.prog GLv Γ70 (a_n + 2) ⟨kx20, [], [(33, [0])], 1, [some (2, [.int .i64]), none]⟩ [.arr a_n K6x a_c] Tryz.f57 0 (a_n + 1 + 1) (st2 Tryz.f57.ntmps [.arr a_n K6x a_c, .non, .non, .non, .nils, iv (((0 : Nat) : Int))] [.non]) from by kernel_rfl).trans (key.trans ?_)
  cases okD a_n a_c <;> rfl
theorem m57 : Meets Tryz.prog GLv 57 s57 := by
  refine meetsW mix0 G70 Tryz.func57 (by kernel_rfl) (by kernel_rfl) s57 fun args x h => ?_
  unfold s57 at h
  split at h
  . rename_i a_n a_c
    simp only [Option.some.injEq, Prod.mk.injEq] at h
    obtain ⟨hp, rfl⟩ := h
    exact ⟨_, _, by kernel_rfl, e57 a_n a_c hp⟩
  . cases h
abbrev Γ71 : List (Nat × Ctr) := (57, s57) :: Γ70
theorem G71 : Sound Tryz.prog GLv Γ71 := G70.cons m57
end Go.Proofs.YtdildcdilhgdkaaGreatDoor
