/- Contracts of the program's functions, by the evaluator. -/
import Derived.Test.YtlcopddgplbdhaaGreatDoorC4
import Derived.Test.YtlcopddgplbdhaaGreatDoorPlD
namespace Go.Proofs.YtlcopddgplbdhaaGreatDoor
open Go.Ev
set_option linter.unusedVariables false
set_option linter.unusedSimpArgs false
set_option maxRecDepth 100000
abbrev cfC51 : Cfg := ⟨kx10, [], [(19, [0])], 1, []⟩
abbrev cfC50 : Cfg := ⟨[true, false, false, false, true, true], [], [(33, [0])], 1, [some (2, [.int .i64]), none]⟩
-- spec.l03Wide
def s31 : Ctr := fun
 | [.arr a_n K6x a_c] => some (inB a_n 1 1048576, .row true 69 a_n K6x (wideC a_n a_c))
 | _ => none
theorem r31_step (K n a_n : Nat) (a_c d : NNI) (i : Nat) : runW Tryz.prog GLv Γ62 K cfC51 [.arr a_n K6x a_c] Tryz.f31 0 (n + 1) (st2 Tryz.f31.ntmps [.arr a_n K6x a_c, .non, .non, .sl Tryz.f31.ntmps i, iv ((i : Int))] [.row true 69 i K6x (d)]) = cond (decide ((i : Int) < (a_n : Int))) (cond ((decide (0 <= (i : Int)) && decide ((i : Int) < (a_n : Int)))) (cond (Nat.ble ((i + 1) * 48) 140737488355328) (runW Tryz.prog GLv Γ62 K cfC51 [.arr a_n K6x a_c] Tryz.f31 0 n (st2 Tryz.f31.ntmps [.arr a_n K6x a_c, .non, .non, .sl Tryz.f31.ntmps (i + 1), iv (wr ((i : Int) + 1))] [.row true 69 (i + 1) K6x (catC i d (listC [rowL 6 a_c i]))])) (none)) (none)) (some (.row true 69 i K6x (d))) := by kernel_rfl
theorem r31_step0 (K n a_n : Nat) (a_c : NNI) : runW Tryz.prog GLv Γ62 K cfC51 [.arr a_n K6x a_c] Tryz.f31 0 (n + 1) (st2 Tryz.f31.ntmps [.arr a_n K6x a_c, .non, .non, .nils, iv (((0 : Nat) : Int))] [.non]) = cond (decide (((0 : Nat) : Int) < (a_n : Int))) (cond ((decide (0 <= (((0 : Nat) : Int) : Int)) && decide ((((0 : Nat) : Int) : Int) < (a_n : Int)))) (runW Tryz.prog GLv Γ62 K cfC51 [.arr a_n K6x a_c] Tryz.f31 0 n (st2 Tryz.f31.ntmps [.arr a_n K6x a_c, .non, .non, .sl Tryz.f31.ntmps (0 + 1), iv (wr (((0 : Nat) : Int) + 1))] [.row true 69 (0 + 1) K6x (catC 0 zeroC (listC [rowL 6 a_c 0]))])) (none)) (some .nils) := by kernel_rfl
theorem r31_run (K a_n : Nat) (a_c : NNI) (hn : a_n <= 1048576) : ∀ (m i n : Nat) (d : NNI), i + m = a_n -> m < n -> runW Tryz.prog GLv Γ62 K cfC51 [.arr a_n K6x a_c] Tryz.f31 0 n (st2 Tryz.f31.ntmps [.arr a_n K6x a_c, .non, .non, .sl Tryz.f31.ntmps i, iv ((i : Int))] [.row true 69 i K6x (d)]) = some (.row true 69 a_n K6x (appF (rowL 6 a_c) i m d)) := by
 intro m
 induction m with
 | zero =>
  intro i n d h1 h2
  obtain ⟨n, rfl⟩ : ∃ n', n = n' + 1 := ⟨n - 1, by omega⟩
  rw [r31_step, nat_lt i a_n, show decide (i < a_n) = false by simp; omega, show i = a_n by omega]
  rfl
 | succ m ih =>
  intro i n d h1 h2
  obtain ⟨n, rfl⟩ : ∃ n', n = n' + 1 := ⟨n - 1, by omega⟩
  rw [r31_step, nat_nn, nat_lt i a_n, show decide (i < a_n) = true by simp; omega, show Nat.ble ((i + 1) * 48) 140737488355328 = true from Nat.ble_eq_true_of_le (by omega)]
  simp only [Bool.and_self, cond_true]
  rw [wr_succ (by omega), ih (i + 1) n _ (by omega) (by omega)]
  rfl
theorem e31 (a_n : Nat) (a_c : NNI) (hp : (inB a_n 1 1048576) = true) : evW Tryz.prog GLv Γ62 (a_n + 2) (cfC51)  Tryz.f31 [.arr a_n K6x a_c] = some (.row true 69 a_n K6x (wideC a_n a_c)) := by
 have hn := inB_iff.1 hp
 obtain ⟨k, rfl⟩ : ∃ k, a_n = k + 1 := ⟨a_n - 1, by omega⟩
 refine (show _ = runW Tryz.prog GLv Γ62 (k + 1 + 2) cfC51 [.arr (k + 1) K6x a_c] Tryz.f31 0 (k + 1 + 1 + 1) (st2 Tryz.f31.ntmps [.arr (k + 1) K6x a_c, .non, .non, .nils, iv (((0 : Nat) : Int))] [.non]) from by kernel_rfl).trans ?_
 rw [r31_step0, nat_lt, show decide (0 < k + 1) = true by simp, nat_nn]
 simp only [Bool.and_self, cond_true]
 rw [wr_succ (by omega), r31_run _ (k + 1) a_c (by omega) k (0 + 1) _ _ (by omega) (by omega)]
 rfl
theorem m31 : MT 31 s31 := by
 refine meetsW mix0 G62 Tryz.func31 (by kernel_rfl) (by kernel_rfl) s31 fun args x h => ?_
 unfold s31 at h
 split at h
 ·rename_i a_n a_c
  obtain ⟨hp, rfl⟩ := sm_inj h
  exact ⟨_, _, by kernel_rfl, e31 a_n a_c hp⟩
 ·cases h
abbrev Γ63 : LC := (31, s31) :: Γ62
theorem G63 : SD Γ63 := G62.cons m31
-- spec.l03Sides
def s32 : Ctr := fun
 | [.arr a_n K6x a_c] => some (inB a_n 1 1048576 && allP a_n a_c, .tup [.row (okD a_n a_c) 2 (cond (okD a_n a_c) a_n 0) [.int .i64] (cond (okD a_n a_c) (sidC a_n a_c) zeroC), bv (okD a_n a_c)])
 | _ => none
theorem r32_step (K n a_n : Nat) (a_c d : NNI) (i : Nat) : runW Tryz.prog GLv Γ63 K cfC50 [.arr a_n K6x a_c] Tryz.f32 0 (n + 1) (st2 Tryz.f32.ntmps [.arr a_n K6x a_c, .non, .non, .non, .sl Tryz.f32.ntmps i, iv ((i : Int))] [.row true 2 i [.int .i64] (d)]) = cond (decide ((i : Int) < (a_n : Int))) (cond (!((a_n : Int) == 0)) (cond ((decide (0 <= (((wr ((i : Int) + 1)).tmod (a_n : Int)) : Int)) && decide ((((wr ((i : Int) + 1)).tmod (a_n : Int)) : Int) < (a_n : Int)))) (cond ((decide (0 <= (i : Int)) && decide ((i : Int) < (a_n : Int)))) (cond (pkP (pAt a_c ((wr ((i : Int) + 1)).tmod (a_n : Int)).toNat) (pAt a_c i)) (cond (wayB (sP (pAt a_c ((wr ((i : Int) + 1)).tmod (a_n : Int)).toNat) (pAt a_c i))) (cond (ltz (dirF 16 0 (sP (pAt a_c ((wr ((i : Int) + 1)).tmod (a_n : Int)).toNat) (pAt a_c i)))) (some (AV.tup [.row false 2 0 [.int .i64] (fun _ _ => 0), bv false])) (cond (Nat.ble ((i + 1) * 8) 140737488355328) (runW Tryz.prog GLv Γ63 K cfC50 [.arr a_n K6x a_c] Tryz.f32 0 n (st2 Tryz.f32.ntmps [.arr a_n K6x a_c, .non, .non, .non, .sl Tryz.f32.ntmps (i + 1), iv (wr ((i : Int) + 1))] [.row true 2 (i + 1) [.int .i64] (catC i d (oneC (dirF 16 0 (sP (pAt a_c ((wr ((i : Int) + 1)).tmod (a_n : Int)).toNat) (pAt a_c i)))))])) (none))) (none)) (none)) (none)) (none)) (none)) (some (AV.tup [.row true 2 i [.int .i64] (d), bv true])) := by kernel_rfl
theorem r32_step0 (K n a_n : Nat) (a_c : NNI) : runW Tryz.prog GLv Γ63 K cfC50 [.arr a_n K6x a_c] Tryz.f32 0 (n + 1) (st2 Tryz.f32.ntmps [.arr a_n K6x a_c, .non, .non, .non, .nils, iv (((0 : Nat) : Int))] [.non]) = cond (decide (((0 : Nat) : Int) < (a_n : Int))) (cond (!((a_n : Int) == 0)) (cond ((decide (0 <= (((wr (((0 : Nat) : Int) + 1)).tmod (a_n : Int)) : Int)) && decide ((((wr (((0 : Nat) : Int) + 1)).tmod (a_n : Int)) : Int) < (a_n : Int)))) (cond ((decide (0 <= ((0 : Nat) : Int)) && decide (((0 : Nat) : Int) < (a_n : Int)))) (cond (pkP (pAt a_c ((wr (((0 : Nat) : Int) + 1)).tmod (a_n : Int)).toNat) (pAt a_c (0 : Nat))) (cond (wayB (sP (pAt a_c ((wr (((0 : Nat) : Int) + 1)).tmod (a_n : Int)).toNat) (pAt a_c (0 : Nat)))) (cond (ltz (dirF 16 0 (sP (pAt a_c ((wr (((0 : Nat) : Int) + 1)).tmod (a_n : Int)).toNat) (pAt a_c (0 : Nat))))) (some (AV.tup [.row false 2 0 [.int .i64] (fun _ _ => 0), bv false])) (runW Tryz.prog GLv Γ63 K cfC50 [.arr a_n K6x a_c] Tryz.f32 0 n (st2 Tryz.f32.ntmps [.arr a_n K6x a_c, .non, .non, .non, .sl Tryz.f32.ntmps (0 + 1), iv (wr (((0 : Nat) : Int) + 1))] [.row true 2 (0 + 1) [.int .i64] (catC 0 zeroC (oneC (dirF 16 0 (sP (pAt a_c ((wr (((0 : Nat) : Int) + 1)).tmod (a_n : Int)).toNat) (pAt a_c (0 : Nat))))))]))) (none)) (none)) (none)) (none)) (none)) (some (AV.tup [.row false 2 0 [.int .i64] (fun _ _ => 0), bv true])) := by kernel_rfl
theorem r32_run (K a_n : Nat) (a_c : NNI) (h0 : 0 < a_n) (hn : a_n <= 1048576) (hv : ∀ i, i < a_n -> valP (pAt a_c i) = true) : ∀ (m i n : Nat) (d : NNI), i + m = a_n -> m < n -> runW Tryz.prog GLv Γ63 K cfC50 [.arr a_n K6x a_c] Tryz.f32 0 n (st2 Tryz.f32.ntmps [.arr a_n K6x a_c, .non, .non, .non, .sl Tryz.f32.ntmps i, iv ((i : Int))] [.row true 2 i [.int .i64] (d)]) = cond (allF (fun j => !(ltz (dirA a_n a_c j))) i m) (some (AV.tup [.row true 2 a_n [.int .i64] (appO (dirA a_n a_c) i m d), bv true])) (some (AV.tup [.row false 2 0 [.int .i64] (fun _ _ => 0), bv false])) := by
 intro m
 induction m with
 | zero =>
  intro i n d h1 h2
  obtain ⟨n, rfl⟩ : ∃ n', n = n' + 1 := ⟨n - 1, by omega⟩
  rw [r32_step, nat_lt i a_n, show decide (i < a_n) = false by simp; omega, show i = a_n by omega]
  rfl
 | succ m ih =>
  intro i n d h1 h2
  obtain ⟨n, rfl⟩ : ∃ n', n = n' + 1 := ⟨n - 1, by omega⟩
  have hm : (i + 1) % a_n < a_n := Nat.mod_lt _ h0
  obtain ⟨v, u, _, _, hw, hk⟩ := way_of (hv i (by omega)) (hv _ hm)
  rw [r32_step, wr_succ (by omega), tmod_cast]
  simp only [Int.toNat_natCast, sP_eq]
  rw [nat_nn, nat_nn, nat_lt i a_n, nat_lt _ a_n, show decide (i < a_n) = true by simp; omega, show decide ((i + 1) % a_n < a_n) = true by simpa using hm, show (!((a_n : Int) == 0)) = true by simp; omega, hk, way_wayB hw]
  simp only [Bool.and_self, cond_true]
  rw [show dirF 16 0 (subP (pAt a_c ((i + 1) % a_n)) (pAt a_c i)) = dirA a_n a_c i from rfl]
  rw [show Nat.ble ((i + 1) * 8) 140737488355328 = true from Nat.ble_eq_true_of_le (by omega), cond_true, ih (i + 1) n _ (by omega) (by omega)]
  show cond (ltz (dirA a_n a_c i)) (some (AV.tup [.row false 2 0 [.int .i64] (fun _ _ => 0), bv false])) (cond (allF (fun j => !(ltz (dirA a_n a_c j))) (i + 1) m) (some (AV.tup [.row true 2 a_n [.int .i64] (appO (dirA a_n a_c) (i + 1) m (catC i d (oneC (dirA a_n a_c i)))), bv true])) (some (AV.tup [.row false 2 0 [.int .i64] (fun _ _ => 0), bv false]))) = cond (!(ltz (dirA a_n a_c i)) && allF (fun j => !(ltz (dirA a_n a_c j))) (i + 1) m) (some (AV.tup [.row true 2 a_n [.int .i64] (appO (dirA a_n a_c) (i + 1) m (catC i d (oneC (dirA a_n a_c i)))), bv true])) (some (AV.tup [.row false 2 0 [.int .i64] (fun _ _ => 0), bv false]))
  cases ltz (dirA a_n a_c i) <;> rfl
theorem e32 (a_n : Nat) (a_c : NNI) (hp : (inB a_n 1 1048576 && allP a_n a_c) = true) : evW Tryz.prog GLv Γ63 (a_n + 2) (cfC50)  Tryz.f32 [.arr a_n K6x a_c] = some (.tup [.row (okD a_n a_c) 2 (cond (okD a_n a_c) a_n 0) [.int .i64] (cond (okD a_n a_c) (sidC a_n a_c) zeroC), bv (okD a_n a_c)]) := by
 simp only [Bool.and_eq_true, inB_iff] at hp
 obtain ⟨hn, hv⟩ := hp
 have hv := allP_iff.1 hv
 have h0 : 0 < a_n := by omega
 have hn : a_n <= 1048576 := by omega
 obtain ⟨k, hk'⟩ : ∃ k, a_n = k + 1 := ⟨a_n - 1, by omega⟩
 have key : runW Tryz.prog GLv Γ63 (a_n + 2) cfC50 [.arr a_n K6x a_c] Tryz.f32 0 (a_n + 1 + 1) (st2 Tryz.f32.ntmps [.arr a_n K6x a_c, .non, .non, .non, .nils, iv (((0 : Nat) : Int))] [.non]) = cond (okD a_n a_c) (some (AV.tup [.row true 2 a_n [.int .i64] (sidC a_n a_c), bv true])) (some (AV.tup [.row false 2 0 [.int .i64] (fun _ _ => 0), bv false])) := by
   have hm : (0 + 1) % a_n < a_n := Nat.mod_lt _ h0
   obtain ⟨v, u, _, _, hw, hk⟩ := way_of (hv 0 (by omega)) (hv _ hm)
   rw [r32_step0, wr_succ (by omega), tmod_cast]
   simp only [Int.toNat_natCast, sP_eq]
   rw [nat_nn, nat_nn, nat_lt 0 a_n, nat_lt _ a_n, show decide (0 < a_n) = true by simp; omega, show decide ((0 + 1) % a_n < a_n) = true by simpa using hm, show (!((a_n : Int) == 0)) = true by simp; omega, hk, way_wayB hw]
   simp only [Bool.and_self, cond_true]
   rw [show dirF 16 0 (subP (pAt a_c ((0 + 1) % a_n)) (pAt a_c 0)) = dirA a_n a_c 0 from rfl]
   rw [r32_run _ a_n a_c h0 hn hv k (0 + 1) _ _ (by omega) (by omega)]
   unfold okD sidC
   rw [hk']
   show cond (ltz (dirA (k + 1) a_c 0)) (some (AV.tup [.row false 2 0 [.int .i64] (fun _ _ => 0), bv false])) (cond (allF (fun j => !(ltz (dirA (k + 1) a_c j))) (0 + 1) k) (some (AV.tup [.row true 2 (k + 1) [.int .i64] (appO (dirA (k + 1) a_c) (0 + 1) k (catC 0 zeroC (oneC (dirA (k + 1) a_c 0)))), bv true])) (some (AV.tup [.row false 2 0 [.int .i64] (fun _ _ => 0), bv false]))) = cond (!(ltz (dirA (k + 1) a_c 0)) && allF (fun j => !(ltz (dirA (k + 1) a_c j))) (0 + 1) k) (some (AV.tup [.row true 2 (k + 1) [.int .i64] (appO (dirA (k + 1) a_c) (0 + 1) k (catC 0 zeroC (oneC (dirA (k + 1) a_c 0)))), bv true])) (some (AV.tup [.row false 2 0 [.int .i64] (fun _ _ => 0), bv false]))
   cases ltz (dirA (k + 1) a_c 0) <;> rfl
 refine (show _ = runW Tryz.prog GLv Γ63 (a_n + 2) cfC50 [.arr a_n K6x a_c] Tryz.f32 0 (a_n + 1 + 1) (st2 Tryz.f32.ntmps [.arr a_n K6x a_c, .non, .non, .non, .nils, iv (((0 : Nat) : Int))] [.non]) from by kernel_rfl).trans (key.trans ?_)
 cases okD a_n a_c <;> rfl
theorem m32 : MT 32 s32 := by
 refine meetsW mix0 G63 Tryz.func32 (by kernel_rfl) (by kernel_rfl) s32 fun args x h => ?_
 unfold s32 at h
 split at h
 ·rename_i a_n a_c
  obtain ⟨hp, rfl⟩ := sm_inj h
  exact ⟨_, _, by kernel_rfl, e32 a_n a_c hp⟩
 ·cases h
abbrev Γ64 : LC := (32, s32) :: Γ63
theorem G64 : SD Γ64 := G63.cons m32
end Go.Proofs.YtlcopddgplbdhaaGreatDoor
