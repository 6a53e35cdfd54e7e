/- Contracts of the program's functions, by the evaluator. -/
import Derived.Test.YtlcopddgplbdhaaGreatDoorProg
import Derived.Test.YtlcopddgplbdhaaGreatDoorPlA
namespace Go.Proofs.YtlcopddgplbdhaaGreatDoor
open Go.Ev
set_option linter.unusedVariables false
set_option linter.unusedSimpArgs false
set_option maxRecDepth 100000
def GLv : Nat -> AV := fun g => match Nat.beq g 1 with
 | true => .eptr [iv (1), iv (0), iv (0), iv (0), iv (0), iv (0), iv (1), iv (0), iv (0), iv (-1), iv (1), iv (0), iv (1), iv (0), iv (0), iv (1), iv (0), iv (0), iv (-1), iv (1), iv (0), iv (1), iv (0), iv (0), iv (0), iv (0), iv (0), iv (1), iv (0), iv (0), iv (1), iv (-1), iv (0), iv (1), iv (0), iv (0), iv (-1), iv (0), iv (0), iv (1), iv (0), iv (0), iv (-1), iv (0), iv (0), iv (-1), iv (1), iv (0)]
 | false => match Nat.beq g 2 with
  | true => .eptr [.val (.int .u64 (1)), .val (.int .u64 (10)), .val (.int .u64 (100)), .val (.int .u64 (1000)), .val (.int .u64 (10000)), .val (.int .u64 (100000)), .val (.int .u64 (1000000)), .val (.int .u64 (10000000)), .val (.int .u64 (100000000)), .val (.int .u64 (1000000000)), .val (.int .u64 (10000000000)), .val (.int .u64 (100000000000)), .val (.int .u64 (1000000000000)), .val (.int .u64 (10000000000000)), .val (.int .u64 (100000000000000)), .val (.int .u64 (1000000000000000)), .val (.int .u64 (10000000000000000)), .val (.int .u64 (100000000000000000)), .val (.int .u64 (1000000000000000000)), .val (.int .u64 (10000000000000000000))]
  | false => .non
theorem glv : ∀ g' g k, GLv g' ≠ .ref g k := fun g' g k => by
 unfold GLv
 split <;> (try split) <;> (intro h; cases h)
abbrev LC := List (Nat × Ctr)
abbrev SD := Sound Tryz.prog GLv
abbrev MT := Meets Tryz.prog GLv
theorem mix0 : Tryz.prog.follows .mixedOrders = true := by kernel_rfl
abbrev Γ0 : LC := []
theorem G0 : SD Γ0 := Sound.nil
-- impl.within
def s51 : Ctr := fun
 | [iv x, iv lo, iv hi] => some (true, bv (inB x lo hi))
 | _ => none
theorem e51 (x : Int) (lo : Int) (hi : Int) : evN Tryz.prog GLv Γ0 (0) []  Tryz.f51 [iv x, iv lo, iv hi] = some (bv (inB x lo hi)) := by
 refine (show _ = cond (decide (x >= lo)) ( some (bv (decide (x <= hi))) ) ( some (bv (false)) ) from by kernel_rfl).trans ?_
 simp only [inB]
 cases decide (x >= lo) <;> rfl
theorem m51 : MT 51 s51 := by
 refine meetsN mix0 glv G0 Tryz.func51 (by kernel_rfl) (by kernel_rfl) s51 fun args x h => ?_
 unfold s51 at h
 split at h
 ·rename_i x lo hi
  obtain ⟨hp, rfl⟩ := sm_inj h
  exact ⟨_, _, by kernel_rfl, e51 x lo hi⟩
 ·cases h
abbrev Γ1 : LC := (51, s51) :: Γ0
theorem G1 : SD Γ1 := G0.cons m51
-- spec.l00In
def s45 : Ctr := fun
 | [iv x, iv lo, iv hi] => some (true, bv (inB x lo hi))
 | _ => none
theorem e45 (x : Int) (lo : Int) (hi : Int) : evN Tryz.prog GLv Γ1 (0) []  Tryz.f45 [iv x, iv lo, iv hi] = some (bv (inB x lo hi)) := by
 refine (show _ = cond (decide (x >= lo)) ( some (bv (decide (x <= hi))) ) ( some (bv (false)) ) from by kernel_rfl).trans ?_
 simp only [inB]
 cases decide (x >= lo) <;> rfl
theorem m45 : MT 45 s45 := by
 refine meetsN mix0 glv G1 Tryz.func45 (by kernel_rfl) (by kernel_rfl) s45 fun args x h => ?_
 unfold s45 at h
 split at h
 ·rename_i x lo hi
  obtain ⟨hp, rfl⟩ := sm_inj h
  exact ⟨_, _, by kernel_rfl, e45 x lo hi⟩
 ·cases h
abbrev Γ2 : LC := (45, s45) :: Γ1
theorem G2 : SD Γ2 := G1.cons m45
-- (impl.Num).reduced
def s99 : Ctr := fun
 | [.agg [iv x_a, iv x_b, iv x_k]] => some (kB x_k, (red (⟨x_a, x_b, x_k⟩ : N3)).av)
 | _ => none
theorem r99_step (K n : Nat) (a b k : Int) : runL Tryz.prog GLv Γ2 K kx0 Tryz.f99 0 (n + 1) (stL Tryz.f99.ntmps [.non, .own 25 [iv (a), iv (b), iv (k)], .own 25 [iv 0, iv 0, iv 0]]) = cond (decide (k > 0)) (cond (and64 a 1 == 0) (cond (and64 b 1 == 0) (cond (wr (a.tdiv 2) == 0) (cond (wr (b.tdiv 2) == 0) (runL Tryz.prog GLv Γ2 K kx0 Tryz.f99 0 n (stL Tryz.f99.ntmps [.non, .own 25 [iv (wr (a.tdiv 2)), iv (wr (b.tdiv 2)), iv (0)], .own 25 [iv 0, iv 0, iv 0]])) (runL Tryz.prog GLv Γ2 K kx0 Tryz.f99 0 n (stL Tryz.f99.ntmps [.non, .own 25 [iv (wr (a.tdiv 2)), iv (wr (b.tdiv 2)), iv (wr (k - 1))], .own 25 [iv 0, iv 0, iv 0]]))) (runL Tryz.prog GLv Γ2 K kx0 Tryz.f99 0 n (stL Tryz.f99.ntmps [.non, .own 25 [iv (wr (a.tdiv 2)), iv (wr (b.tdiv 2)), iv (wr (k - 1))], .own 25 [iv 0, iv 0, iv 0]]))) (some (⟨a, b, k⟩ : N3).av)) (some (⟨a, b, k⟩ : N3).av)) (some (⟨a, b, k⟩ : N3).av) := by kernel_rfl
theorem r99_run (K : Nat) : ∀ (m : Nat) (a b k : Int) (n : Nat), 0 <= k -> k <= 1152921504606846976 -> k.toNat <= m -> m < n -> runL Tryz.prog GLv Γ2 K kx0 Tryz.f99 0 n (stL Tryz.f99.ntmps [.non, .own 25 [iv (a), iv (b), iv (k)], .own 25 [iv 0, iv 0, iv 0]]) = some (redF (m + 1) a b k).av := by
 intro m
 induction m with
 | zero =>
  intro a b k n h0 h1 h2 h3
  obtain ⟨n, rfl⟩ : ∃ n', n = n' + 1 := ⟨n - 1, by omega⟩
  have hk : ¬ k > 0 := by omega
  rw [r99_step, redF_succ, if_neg (fun h => hk h.1)]
  simp only [hk, decide_false, cond_false]
 | succ m ih =>
  intro a b k n h0 h1 h2 h3
  obtain ⟨n, rfl⟩ : ∃ n', n = n' + 1 := ⟨n - 1, by omega⟩
  rw [r99_step, redF_succ]
  rw [and64_one, and64_one]
  have ea : ((a % 2 == 0) = !odd a) := odd_zero a
  have eb : ((b % 2 == 0) = !odd b) := odd_zero b
  rw [ea, eb]
  by_cases hk : k > 0
  ·have hw : wr (k - 1) = k - 1 := wr_in (by omega) (by omega)
   cases ha : odd a with
   | true => rw [if_neg (fun h => by cases h.2.1)]; simp [hk]
   | false =>
    cases hb : odd b with
    | true => rw [if_neg (fun h => by cases h.2.2)]; simp [hk]
    | false =>
     rw [if_pos ⟨hk, rfl, rfl⟩]
     simp only [hk, decide_true, cond_true, Bool.not_false]
     rw [hw, ih _ _ _ _ (by omega) (by omega) (by omega) (by omega), ih _ _ _ _ (by omega) (by omega) (by omega) (by omega)]
     by_cases hz1 : wr (a.tdiv 2) = 0
     ·by_cases hz2 : wr (b.tdiv 2) = 0
      ·simp [hz1, hz2]
      ·have e2 : (wr (b.tdiv 2) == 0) = false := by simpa using hz2
       simp [hz1, hz2, e2]
     ·have e1 : (wr (a.tdiv 2) == 0) = false := by simpa using hz1
      simp [hz1, e1]
  ·rw [if_neg (fun h => hk h.1)]; simp [hk]
theorem e99 (x_a : Int) (x_b : Int) (x_k : Int) (hp : (kB x_k) = true) : evN Tryz.prog GLv Γ2 (x_k.toNat + 1) kx0  Tryz.f99 [.agg [iv x_a, iv x_b, iv x_k]] = some ((red (⟨x_a, x_b, x_k⟩ : N3)).av) := by
 exact (show _ = _ from by kernel_rfl).trans (r99_run (x_k.toNat + 1) x_k.toNat x_a x_b x_k (x_k.toNat + 1) (kB_iff.1 hp).1 (kB_iff.1 hp).2 (Nat.le_refl _) (Nat.lt_succ_self _))
theorem m99 : MT 99 s99 := by
 refine meetsN mix0 glv G2 Tryz.func99 (by kernel_rfl) (by kernel_rfl) s99 fun args x h => ?_
 unfold s99 at h
 split at h
 ·rename_i x_a x_b x_k
  obtain ⟨hp, rfl⟩ := sm_inj h
  exact ⟨_, _, by kernel_rfl, e99 x_a x_b x_k hp⟩
 ·cases h
abbrev Γ3 : LC := (99, s99) :: Γ2
theorem G3 : SD Γ3 := G2.cons m99
-- spec.l01Low
def s135 : Ctr := fun
 | [.agg [iv x_a, iv x_b, iv x_k]] => some (kB x_k, (red (⟨x_a, x_b, x_k⟩ : N3)).av)
 | _ => none
theorem r135_step (K n : Nat) (a b k : Int) : runL Tryz.prog GLv Γ3 K kx0 Tryz.f135 0 (n + 1) (stL Tryz.f135.ntmps [.non, .own 67 [iv (a), iv (b), iv (k)], .own 67 [iv 0, iv 0, iv 0]]) = cond (decide (k > 0)) (cond (a.tmod 2 == 0) (cond (b.tmod 2 == 0) (runL Tryz.prog GLv Γ3 K kx0 Tryz.f135 0 n (stL Tryz.f135.ntmps [.non, .own 67 [iv (wr (a.tdiv 2)), iv (wr (b.tdiv 2)), iv (wr (k - 1))], .own 67 [iv 0, iv 0, iv 0]])) (some (⟨a, b, k⟩ : N3).av)) (some (⟨a, b, k⟩ : N3).av)) (some (⟨a, b, k⟩ : N3).av) := by kernel_rfl
theorem r135_run (K : Nat) : ∀ (m : Nat) (a b k : Int) (n : Nat), 0 <= k -> k <= 1152921504606846976 -> k.toNat <= m -> m < n -> runL Tryz.prog GLv Γ3 K kx0 Tryz.f135 0 n (stL Tryz.f135.ntmps [.non, .own 67 [iv (a), iv (b), iv (k)], .own 67 [iv 0, iv 0, iv 0]]) = some (redF (m + 1) a b k).av := by
 intro m
 induction m with
 | zero =>
  intro a b k n h0 h1 h2 h3
  obtain ⟨n, rfl⟩ : ∃ n', n = n' + 1 := ⟨n - 1, by omega⟩
  have hk : ¬ k > 0 := by omega
  rw [r135_step, redF_succ, if_neg (fun h => hk h.1)]
  simp only [hk, decide_false, cond_false]
 | succ m ih =>
  intro a b k n h0 h1 h2 h3
  obtain ⟨n, rfl⟩ : ∃ n', n = n' + 1 := ⟨n - 1, by omega⟩
  rw [r135_step, redF_succ]
  rw [tmod_zero, tmod_zero]
  by_cases hk : k > 0
  ·have hw : wr (k - 1) = k - 1 := wr_in (by omega) (by omega)
   cases ha : odd a with
   | true => rw [if_neg (fun h => by cases h.2.1)]; simp [hk]
   | false =>
    cases hb : odd b with
    | true => rw [if_neg (fun h => by cases h.2.2)]; simp [hk]
    | false =>
     rw [if_pos ⟨hk, rfl, rfl⟩]
     simp only [hk, decide_true, cond_true, Bool.not_false]
     rw [hw, ih _ _ _ _ (by omega) (by omega) (by omega) (by omega)]
     by_cases hz : wr (a.tdiv 2) = 0 /\ wr (b.tdiv 2) = 0
     ·rw [if_pos hz, hz.1, hz.2, redF_zero m _ (by omega), redF_zero m _ (by omega)]
      have e : (if k - 1 > 0 then (0 : Int) else k - 1) = 0 := by split <;> omega
      rw [e]
      rfl
     ·rw [if_neg hz]
  ·rw [if_neg (fun h => hk h.1)]; simp [hk]
theorem e135 (x_a : Int) (x_b : Int) (x_k : Int) (hp : (kB x_k) = true) : evN Tryz.prog GLv Γ3 (x_k.toNat + 1) kx0  Tryz.f135 [.agg [iv x_a, iv x_b, iv x_k]] = some ((red (⟨x_a, x_b, x_k⟩ : N3)).av) := by
 refine (show _ = cond (x_a == 0) (cond (x_b == 0) (some z3.av) (runL Tryz.prog GLv Γ3 (x_k.toNat + 1) kx0 Tryz.f135 0 (x_k.toNat + 1) (stL Tryz.f135.ntmps [.non, .own 67 [iv (x_a), iv (x_b), iv (x_k)], .own 67 [iv 0, iv 0, iv 0]]))) (runL Tryz.prog GLv Γ3 (x_k.toNat + 1) kx0 Tryz.f135 0 (x_k.toNat + 1) (stL Tryz.f135.ntmps [.non, .own 67 [iv (x_a), iv (x_b), iv (x_k)], .own 67 [iv 0, iv 0, iv 0]])) from by kernel_rfl).trans ?_
 rw [r135_run (x_k.toNat + 1) x_k.toNat x_a x_b x_k (x_k.toNat + 1) (kB_iff.1 hp).1 (kB_iff.1 hp).2 (Nat.le_refl _) (Nat.lt_succ_self _)]
 by_cases ha : x_a = 0
 ·by_cases hb : x_b = 0
  ·subst ha hb
   have := redF_zero x_k.toNat x_k (Nat.le_refl _)
   have hk := (kB_iff.1 hp).1
   have e : (if x_k > 0 then 0 else x_k) = 0 := by split <;> omega
   rw [e] at this
   simp only [red, this]
   rfl
  ·have e2 : (x_b == 0) = false := by simpa using hb
   simp only [e2, cond_false, red]
   cases (x_a == 0) <;> rfl
 ·have e1 : (x_a == 0) = false := by simpa using ha
  simp only [e1, cond_false, red]
theorem m135 : MT 135 s135 := by
 refine meetsN mix0 glv G3 Tryz.func135 (by kernel_rfl) (by kernel_rfl) s135 fun args x h => ?_
 unfold s135 at h
 split at h
 ·rename_i x_a x_b x_k
  obtain ⟨hp, rfl⟩ := sm_inj h
  exact ⟨_, _, by kernel_rfl, e135 x_a x_b x_k hp⟩
 ·cases h
abbrev Γ4 : LC := (135, s135) :: Γ3
theorem G4 : SD Γ4 := G3.cons m135
-- (impl.Num).neg
def s72 : Ctr := fun
 | [.agg [iv x_a, iv x_b, iv x_k]] => some (true, (negF (⟨x_a, x_b, x_k⟩ : N3)).av)
 | _ => none
theorem e72 (x_a : Int) (x_b : Int) (x_k : Int) : evN Tryz.prog GLv Γ4 (0) []  Tryz.f72 [.agg [iv x_a, iv x_b, iv x_k]] = some ((negF (⟨x_a, x_b, x_k⟩ : N3)).av) := by
 kernel_rfl
theorem m72 : MT 72 s72 := by
 refine meetsN mix0 glv G4 Tryz.func72 (by kernel_rfl) (by kernel_rfl) s72 fun args x h => ?_
 unfold s72 at h
 split at h
 ·rename_i x_a x_b x_k
  obtain ⟨hp, rfl⟩ := sm_inj h
  exact ⟨_, _, by kernel_rfl, e72 x_a x_b x_k⟩
 ·cases h
abbrev Γ5 : LC := (72, s72) :: Γ4
theorem G5 : SD Γ5 := G4.cons m72
-- spec.l01Neg
def s133 : Ctr := fun
 | [.agg [iv x_a, iv x_b, iv x_k]] => some (true, (negF (⟨x_a, x_b, x_k⟩ : N3)).av)
 | _ => none
theorem e133 (x_a : Int) (x_b : Int) (x_k : Int) : evN Tryz.prog GLv Γ5 (0) []  Tryz.f133 [.agg [iv x_a, iv x_b, iv x_k]] = some ((negF (⟨x_a, x_b, x_k⟩ : N3)).av) := by
 kernel_rfl
theorem m133 : MT 133 s133 := by
 refine meetsN mix0 glv G5 Tryz.func133 (by kernel_rfl) (by kernel_rfl) s133 fun args x h => ?_
 unfold s133 at h
 split at h
 ·rename_i x_a x_b x_k
  obtain ⟨hp, rfl⟩ := sm_inj h
  exact ⟨_, _, by kernel_rfl, e133 x_a x_b x_k⟩
 ·cases h
abbrev Γ6 : LC := (133, s133) :: Γ5
theorem G6 : SD Γ6 := G5.cons m133
-- (impl.Num).times
def s132 : Ctr := fun
 | [.agg [iv x_a, iv x_b, iv x_k], .agg [iv y_a, iv y_b, iv y_k]] => some (pkm (⟨x_a, x_b, x_k⟩ : N3) (⟨y_a, y_b, y_k⟩ : N3), (mulF (⟨x_a, x_b, x_k⟩ : N3) (⟨y_a, y_b, y_k⟩ : N3)).av)
 | _ => none
theorem e132 (x_a : Int) (x_b : Int) (x_k : Int) (y_a : Int) (y_b : Int) (y_k : Int) (hp : (pkm (⟨x_a, x_b, x_k⟩ : N3) (⟨y_a, y_b, y_k⟩ : N3)) = true) : evN Tryz.prog GLv Γ6 (0) []  Tryz.f132 [.agg [iv x_a, iv x_b, iv x_k], .agg [iv y_a, iv y_b, iv y_k]] = some ((mulF (⟨x_a, x_b, x_k⟩ : N3) (⟨y_a, y_b, y_k⟩ : N3)).av) := by
 refine (show _ = cond (kB (wr (x_k + y_k))) (some (mulF (⟨x_a, x_b, x_k⟩ : N3) (⟨y_a, y_b, y_k⟩ : N3)).av) none from by kernel_rfl).trans ?_
 have := pkm_kB hp
 simp only at this
 rw [this]
 rfl
theorem m132 : MT 132 s132 := by
 refine meetsN mix0 glv G6 Tryz.func132 (by kernel_rfl) (by kernel_rfl) s132 fun args x h => ?_
 unfold s132 at h
 split at h
 ·rename_i x_a x_b x_k y_a y_b y_k
  obtain ⟨hp, rfl⟩ := sm_inj h
  exact ⟨_, _, by kernel_rfl, e132 x_a x_b x_k y_a y_b y_k hp⟩
 ·cases h
abbrev Γ7 : LC := (132, s132) :: Γ6
theorem G7 : SD Γ7 := G6.cons m132
-- spec.l01Mul
def s106 : Ctr := fun
 | [.agg [iv x_a, iv x_b, iv x_k], .agg [iv y_a, iv y_b, iv y_k]] => some (pkm (⟨x_a, x_b, x_k⟩ : N3) (⟨y_a, y_b, y_k⟩ : N3), (mulF (⟨x_a, x_b, x_k⟩ : N3) (⟨y_a, y_b, y_k⟩ : N3)).av)
 | _ => none
theorem e106 (x_a : Int) (x_b : Int) (x_k : Int) (y_a : Int) (y_b : Int) (y_k : Int) (hp : (pkm (⟨x_a, x_b, x_k⟩ : N3) (⟨y_a, y_b, y_k⟩ : N3)) = true) : evN Tryz.prog GLv Γ7 (0) []  Tryz.f106 [.agg [iv x_a, iv x_b, iv x_k], .agg [iv y_a, iv y_b, iv y_k]] = some ((mulF (⟨x_a, x_b, x_k⟩ : N3) (⟨y_a, y_b, y_k⟩ : N3)).av) := by
 refine (show _ = cond (kB (wr (x_k + y_k))) (some (mulF (⟨x_a, x_b, x_k⟩ : N3) (⟨y_a, y_b, y_k⟩ : N3)).av) none from by kernel_rfl).trans ?_
 have := pkm_kB hp
 simp only at this
 rw [this]
 rfl
theorem m106 : MT 106 s106 := by
 refine meetsN mix0 glv G7 Tryz.func106 (by kernel_rfl) (by kernel_rfl) s106 fun args x h => ?_
 unfold s106 at h
 split at h
 ·rename_i x_a x_b x_k y_a y_b y_k
  obtain ⟨hp, rfl⟩ := sm_inj h
  exact ⟨_, _, by kernel_rfl, e106 x_a x_b x_k y_a y_b y_k hp⟩
 ·cases h
abbrev Γ8 : LC := (106, s106) :: Γ7
theorem G8 : SD Γ8 := G7.cons m106
-- (impl.Num).plus
def s98 : Ctr := fun
 | [.agg [iv x_a, iv x_b, iv x_k], .agg [iv y_a, iv y_b, iv y_k]] => some (pk (⟨x_a, x_b, x_k⟩ : N3) (⟨y_a, y_b, y_k⟩ : N3), (addF (⟨x_a, x_b, x_k⟩ : N3) (⟨y_a, y_b, y_k⟩ : N3)).av)
 | _ => none
theorem e98 (x_a : Int) (x_b : Int) (x_k : Int) (y_a : Int) (y_b : Int) (y_k : Int) (hp : (pk (⟨x_a, x_b, x_k⟩ : N3) (⟨y_a, y_b, y_k⟩ : N3)) = true) : evN Tryz.prog GLv Γ8 (0) []  Tryz.f98 [.agg [iv x_a, iv x_b, iv x_k], .agg [iv y_a, iv y_b, iv y_k]] = some ((addF (⟨x_a, x_b, x_k⟩ : N3) (⟨y_a, y_b, y_k⟩ : N3)).av) := by
 obtain ⟨h1, h2, h3⟩ := pk_sh hp
 refine (show _ = cond (decide (0 <= wr (gmax x_k y_k - x_k))) (cond (decide (0 <= wr (gmax x_k y_k - y_k))) (cond (decide (0 <= wr (gmax x_k y_k - x_k))) (cond (decide (0 <= wr (gmax x_k y_k - y_k))) (cond (kB (gmax x_k y_k)) (some (addF (⟨x_a, x_b, x_k⟩ : N3) (⟨y_a, y_b, y_k⟩ : N3)).av) none) none) none) none) none from by kernel_rfl).trans ?_
 simp only at h1 h2 h3
 rw [h1, h2, h3]
 rfl
theorem m98 : MT 98 s98 := by
 refine meetsN mix0 glv G8 Tryz.func98 (by kernel_rfl) (by kernel_rfl) s98 fun args x h => ?_
 unfold s98 at h
 split at h
 ·rename_i x_a x_b x_k y_a y_b y_k
  obtain ⟨hp, rfl⟩ := sm_inj h
  exact ⟨_, _, by kernel_rfl, e98 x_a x_b x_k y_a y_b y_k hp⟩
 ·cases h
abbrev Γ9 : LC := (98, s98) :: Γ8
theorem G9 : SD Γ9 := G8.cons m98
-- spec.l01Add
def s105 : Ctr := fun
 | [.agg [iv x_a, iv x_b, iv x_k], .agg [iv y_a, iv y_b, iv y_k]] => some (pk (⟨x_a, x_b, x_k⟩ : N3) (⟨y_a, y_b, y_k⟩ : N3), (addF (⟨x_a, x_b, x_k⟩ : N3) (⟨y_a, y_b, y_k⟩ : N3)).av)
 | _ => none
theorem r105_step0 (K n : Nat) (a b k c d l : Int) : runL Tryz.prog GLv Γ9 K kx3 Tryz.f105 0 (n + 1) (stL Tryz.f105.ntmps [.non, .non, .own 67 [iv (a), iv (b), iv (k)], .own 67 [iv (c), iv (d), iv (l)], .own 67 [iv 0, iv 0, iv 0]]) = cond (decide (k < l)) (runL Tryz.prog GLv Γ9 K kx3 Tryz.f105 0 n (stL Tryz.f105.ntmps [.non, .non, .own 67 [iv (wr (a * 2)), iv (wr (b * 2)), iv (wr (k + 1))], .own 67 [iv (c), iv (d), iv (l)], .own 67 [iv 0, iv 0, iv 0]])) (runL Tryz.prog GLv Γ9 K kx3 Tryz.f105 1 K (stL Tryz.f105.ntmps [.non, .non, .own 67 [iv (a), iv (b), iv (k)], .own 67 [iv (c), iv (d), iv (l)], .own 67 [iv 0, iv 0, iv 0]])) := by kernel_rfl
theorem r105_step1 (K n : Nat) (a b k c d l : Int) : runL Tryz.prog GLv Γ9 K kx3 Tryz.f105 1 (n + 1) (stL Tryz.f105.ntmps [.non, .non, .own 67 [iv (a), iv (b), iv (k)], .own 67 [iv (c), iv (d), iv (l)], .own 67 [iv 0, iv 0, iv 0]]) = cond (decide (l < k)) (runL Tryz.prog GLv Γ9 K kx3 Tryz.f105 1 n (stL Tryz.f105.ntmps [.non, .non, .own 67 [iv (a), iv (b), iv (k)], .own 67 [iv (wr (c * 2)), iv (wr (d * 2)), iv (wr (l + 1))], .own 67 [iv 0, iv 0, iv 0]])) (cond (kB k) (some (red ⟨wr (a + c), wr (b + d), k⟩).av) none) := by kernel_rfl
theorem r105_run1 (K : Nat) : ∀ (m : Nat) (a b k c d l : Int) (n : Nat), kB k = true -> 0 <= l -> (k - l).toNat = m -> m < n ->
  runL Tryz.prog GLv Γ9 K kx3 Tryz.f105 1 n (stL Tryz.f105.ntmps [.non, .non, .own 67 [iv (a), iv (b), iv (k)], .own 67 [iv (c), iv (d), iv (l)], .own 67 [iv 0, iv 0, iv 0]]) = some (red ⟨wr (a + dblI m c), wr (b + dblI m d), k⟩).av := by
 intro m
 induction m with
 | zero =>
  intro a b k c d l n hk hl h0 hn
  obtain ⟨n, rfl⟩ : ∃ n', n = n' + 1 := ⟨n - 1, by omega⟩
  have : decide (l < k) = false := by simp; omega
  rw [r105_step1, this, hk]
  rfl
 | succ m ih =>
  intro a b k c d l n hk hl h0 hn
  obtain ⟨n, rfl⟩ : ∃ n', n = n' + 1 := ⟨n - 1, by omega⟩
  have : decide (l < k) = true := by simp; omega
  have hk' := kB_iff.1 hk
  have hw : wr (l + 1) = l + 1 := wr_in (by omega) (by omega)
  rw [r105_step1, this, cond_true, hw, ih _ _ _ _ _ _ _ hk (by omega) (by omega) (by omega)]
  rfl
theorem r105_run0 (K : Nat) : ∀ (m : Nat) (a b k c d l : Int) (n : Nat), 0 <= k -> kB l = true -> (l - k).toNat = m -> m < n ->
  runL Tryz.prog GLv Γ9 K kx3 Tryz.f105 0 n (stL Tryz.f105.ntmps [.non, .non, .own 67 [iv (a), iv (b), iv (k)], .own 67 [iv (c), iv (d), iv (l)], .own 67 [iv 0, iv 0, iv 0]]) = runL Tryz.prog GLv Γ9 K kx3 Tryz.f105 1 K (stL Tryz.f105.ntmps [.non, .non, .own 67 [iv (dblI m a), iv (dblI m b), iv (k + (m : Int))], .own 67 [iv (c), iv (d), iv (l)], .own 67 [iv 0, iv 0, iv 0]]) := by
 intro m
 induction m with
 | zero =>
  intro a b k c d l n hk hl h0 hn
  obtain ⟨n, rfl⟩ : ∃ n', n = n' + 1 := ⟨n - 1, by omega⟩
  have : decide (k < l) = false := by simp; omega
  rw [r105_step0, this, cond_false]
  simp only [dblI, Int.ofNat_zero, Int.natCast_zero, Int.add_zero]
 | succ m ih =>
  intro a b k c d l n hk hl h0 hn
  obtain ⟨n, rfl⟩ : ∃ n', n = n' + 1 := ⟨n - 1, by omega⟩
  have : decide (k < l) = true := by simp; omega
  have hl' := kB_iff.1 hl
  have hw : wr (k + 1) = k + 1 := wr_in (by omega) (by omega)
  rw [r105_step0, this, cond_true, hw, ih _ _ _ _ _ _ _ (by omega) hl (by omega) (by omega)]
  have e : k + 1 + (m : Int) = k + ((m + 1 : Nat) : Int) := by omega
  rw [e]
  rfl
theorem e105 (x_a : Int) (x_b : Int) (x_k : Int) (y_a : Int) (y_b : Int) (y_k : Int) (hp : (pk (⟨x_a, x_b, x_k⟩ : N3) (⟨y_a, y_b, y_k⟩ : N3)) = true) : evN Tryz.prog GLv Γ9 (x_k.toNat + y_k.toNat + 1) kx3  Tryz.f105 [.agg [iv x_a, iv x_b, iv x_k], .agg [iv y_a, iv y_b, iv y_k]] = some ((addF (⟨x_a, x_b, x_k⟩ : N3) (⟨y_a, y_b, y_k⟩ : N3)).av) := by
 obtain ⟨h1, h2⟩ := pk_iff.1 hp
 simp only at h1 h2
 refine (show _ = runL Tryz.prog GLv Γ9 (x_k.toNat + y_k.toNat + 1) kx3 Tryz.f105 0 (x_k.toNat + y_k.toNat + 1) (stL Tryz.f105.ntmps [.non, .non, .own 67 [iv (x_a), iv (x_b), iv (x_k)], .own 67 [iv (y_a), iv (y_b), iv (y_k)], .own 67 [iv 0, iv 0, iv 0]]) from by kernel_rfl).trans ?_
 rw [r105_run0 _ (y_k - x_k).toNat _ _ _ _ _ _ _ h1.1 (kB_iff.2 h2) rfl (by omega)]
 rw [r105_run1 _ (x_k - y_k).toNat _ _ _ _ _ _ _ (kB_iff.2 (by omega)) h2.1 (by omega) (by omega)]
 have := addR_dbl hp
 simp only at this
 rw [this]
 rfl
theorem m105 : MT 105 s105 := by
 refine meetsN mix0 glv G9 Tryz.func105 (by kernel_rfl) (by kernel_rfl) s105 fun args x h => ?_
 unfold s105 at h
 split at h
 ·rename_i x_a x_b x_k y_a y_b y_k
  obtain ⟨hp, rfl⟩ := sm_inj h
  exact ⟨_, _, by kernel_rfl, e105 x_a x_b x_k y_a y_b y_k hp⟩
 ·cases h
abbrev Γ10 : LC := (105, s105) :: Γ9
theorem G10 : SD Γ10 := G9.cons m105
-- (impl.Num).minus
def s131 : Ctr := fun
 | [.agg [iv x_a, iv x_b, iv x_k], .agg [iv y_a, iv y_b, iv y_k]] => some (pk (⟨x_a, x_b, x_k⟩ : N3) (⟨y_a, y_b, y_k⟩ : N3), (subF (⟨x_a, x_b, x_k⟩ : N3) (⟨y_a, y_b, y_k⟩ : N3)).av)
 | _ => none
theorem e131 (x_a : Int) (x_b : Int) (x_k : Int) (y_a : Int) (y_b : Int) (y_k : Int) (hp : (pk (⟨x_a, x_b, x_k⟩ : N3) (⟨y_a, y_b, y_k⟩ : N3)) = true) : evN Tryz.prog GLv Γ10 (0) []  Tryz.f131 [.agg [iv x_a, iv x_b, iv x_k], .agg [iv y_a, iv y_b, iv y_k]] = some ((subF (⟨x_a, x_b, x_k⟩ : N3) (⟨y_a, y_b, y_k⟩ : N3)).av) := by
 refine (show _ = cond (pk (⟨x_a, x_b, x_k⟩ : N3) (⟨y_a, y_b, y_k⟩ : N3)) (some (subF (⟨x_a, x_b, x_k⟩ : N3) (⟨y_a, y_b, y_k⟩ : N3)).av) none from by kernel_rfl).trans ?_
 rw [hp]
 rfl
theorem m131 : MT 131 s131 := by
 refine meetsN mix0 glv G10 Tryz.func131 (by kernel_rfl) (by kernel_rfl) s131 fun args x h => ?_
 unfold s131 at h
 split at h
 ·rename_i x_a x_b x_k y_a y_b y_k
  obtain ⟨hp, rfl⟩ := sm_inj h
  exact ⟨_, _, by kernel_rfl, e131 x_a x_b x_k y_a y_b y_k hp⟩
 ·cases h
abbrev Γ11 : LC := (131, s131) :: Γ10
theorem G11 : SD Γ11 := G10.cons m131
-- spec.l01Sub
def s102 : Ctr := fun
 | [.agg [iv x_a, iv x_b, iv x_k], .agg [iv y_a, iv y_b, iv y_k]] => some (pk (⟨x_a, x_b, x_k⟩ : N3) (⟨y_a, y_b, y_k⟩ : N3), (subF (⟨x_a, x_b, x_k⟩ : N3) (⟨y_a, y_b, y_k⟩ : N3)).av)
 | _ => none
theorem e102 (x_a : Int) (x_b : Int) (x_k : Int) (y_a : Int) (y_b : Int) (y_k : Int) (hp : (pk (⟨x_a, x_b, x_k⟩ : N3) (⟨y_a, y_b, y_k⟩ : N3)) = true) : evN Tryz.prog GLv Γ11 (0) []  Tryz.f102 [.agg [iv x_a, iv x_b, iv x_k], .agg [iv y_a, iv y_b, iv y_k]] = some ((subF (⟨x_a, x_b, x_k⟩ : N3) (⟨y_a, y_b, y_k⟩ : N3)).av) := by
 refine (show _ = cond (pk (⟨x_a, x_b, x_k⟩ : N3) (⟨y_a, y_b, y_k⟩ : N3)) (some (subF (⟨x_a, x_b, x_k⟩ : N3) (⟨y_a, y_b, y_k⟩ : N3)).av) none from by kernel_rfl).trans ?_
 rw [hp]
 rfl
theorem m102 : MT 102 s102 := by
 refine meetsN mix0 glv G11 Tryz.func102 (by kernel_rfl) (by kernel_rfl) s102 fun args x h => ?_
 unfold s102 at h
 split at h
 ·rename_i x_a x_b x_k y_a y_b y_k
  obtain ⟨hp, rfl⟩ := sm_inj h
  exact ⟨_, _, by kernel_rfl, e102 x_a x_b x_k y_a y_b y_k hp⟩
 ·cases h
abbrev Γ12 : LC := (102, s102) :: Γ11
theorem G12 : SD Γ12 := G11.cons m102
-- impl.ValidNum
def s52 : Ctr := fun
 | [.agg [iv x_a, iv x_b, iv x_k]] => some (true, bv (validB (⟨x_a, x_b, x_k⟩ : N3)))
 | _ => none
theorem e52 (x_a : Int) (x_b : Int) (x_k : Int) : evN Tryz.prog GLv Γ12 (0) []  Tryz.f52 [.agg [iv x_a, iv x_b, iv x_k]] = some (bv (validB (⟨x_a, x_b, x_k⟩ : N3))) := by
 refine (show _ = cond (inB x_a (-131072) 131072) ( cond (inB x_b (-131072) 131072) ( cond (inB x_k 0 10) ( cond (x_k == 0) ( some (bv (true)) ) ( cond (IntKind.i64.wrap ↑(BitVec.ofInt 64 x_a &&& BitVec.ofInt 64 1).toNat == 1) ( some (bv (true)) ) ( some (bv (IntKind.i64.wrap ↑(BitVec.ofInt 64 x_b &&& BitVec.ofInt 64 1).toNat == 1)) ) ) ) ( some (bv (false)) ) ) ( some (bv (false)) ) ) ( some (bv (false)) ) from by kernel_rfl).trans ?_
 simp only [validB]
 cases inB x_a (-131072) 131072 <;> cases inB x_b (-131072) 131072 <;> cases inB x_k 0 10 <;> cases (x_k == 0) <;> simp only [cond_true, cond_false, Bool.true_and, Bool.false_and, Bool.true_or, Bool.false_or, and_eq, tmod_ne, odd] <;> (first | rfl | (cases decide (x_a % 2 = 1) <;> rfl))
theorem m52 : MT 52 s52 := by
 refine meetsN mix0 glv G12 Tryz.func52 (by kernel_rfl) (by kernel_rfl) s52 fun args x h => ?_
 unfold s52 at h
 split at h
 ·rename_i x_a x_b x_k
  obtain ⟨hp, rfl⟩ := sm_inj h
  exact ⟨_, _, by kernel_rfl, e52 x_a x_b x_k⟩
 ·cases h
abbrev Γ13 : LC := (52, s52) :: Γ12
theorem G13 : SD Γ13 := G12.cons m52
-- spec.l01Ok
def s46 : Ctr := fun
 | [.agg [iv x_a, iv x_b, iv x_k]] => some (true, bv (validB (⟨x_a, x_b, x_k⟩ : N3)))
 | _ => none
theorem e46 (x_a : Int) (x_b : Int) (x_k : Int) : evN Tryz.prog GLv Γ13 (0) []  Tryz.f46 [.agg [iv x_a, iv x_b, iv x_k]] = some (bv (validB (⟨x_a, x_b, x_k⟩ : N3))) := by
 refine (show _ = cond (!inB x_a (-131072) 131072) ( some (bv (false)) ) ( cond (!inB x_b (-131072) 131072) ( some (bv (false)) ) ( cond (!inB x_k 0 10) ( some (bv (false)) ) ( cond (x_k == 0) ( some (bv (true)) ) ( cond (x_a.tmod 2 != 0) ( some (bv (true)) ) ( some (bv (x_b.tmod 2 != 0)) ) ) ) ) ) from by kernel_rfl).trans ?_
 simp only [validB]
 cases inB x_a (-131072) 131072 <;> cases inB x_b (-131072) 131072 <;> cases inB x_k 0 10 <;> cases (x_k == 0) <;> simp only [cond_true, cond_false, Bool.true_and, Bool.false_and, Bool.true_or, Bool.false_or, and_eq, tmod_ne, odd] <;> (first | rfl | (cases decide (x_a % 2 = 1) <;> rfl))
theorem m46 : MT 46 s46 := by
 refine meetsN mix0 glv G13 Tryz.func46 (by kernel_rfl) (by kernel_rfl) s46 fun args x h => ?_
 unfold s46 at h
 split at h
 ·rename_i x_a x_b x_k
  obtain ⟨hp, rfl⟩ := sm_inj h
  exact ⟨_, _, by kernel_rfl, e46 x_a x_b x_k⟩
 ·cases h
abbrev Γ14 : LC := (46, s46) :: Γ13
theorem G14 : SD Γ14 := G13.cons m46
-- (impl.Num).checked
def s64 : Ctr := fun
 | [.agg [iv x_a, iv x_b, iv x_k]] => some (kB x_k, .tup [(chk (⟨x_a, x_b, x_k⟩ : N3)).av, bv (chkB (⟨x_a, x_b, x_k⟩ : N3))])
 | _ => none
theorem e64 (x_a : Int) (x_b : Int) (x_k : Int) (hp : (kB x_k) = true) : evN Tryz.prog GLv Γ14 (0) []  Tryz.f64 [.agg [iv x_a, iv x_b, iv x_k]] = some (.tup [(chk (⟨x_a, x_b, x_k⟩ : N3)).av, bv (chkB (⟨x_a, x_b, x_k⟩ : N3))]) := by
 refine (show _ = cond (kB x_k) ( cond (!validB (N3.mk (red (N3.mk x_a x_b x_k)).1 (red (N3.mk x_a x_b x_k)).2 (red (N3.mk x_a x_b x_k)).3)) ( some ((.tup [(.agg [iv (0), iv (0), iv (0)]), bv (false)])) ) ( some ((.tup [(.agg [iv ((red (N3.mk x_a x_b x_k)).1), iv ((red (N3.mk x_a x_b x_k)).2), iv ((red (N3.mk x_a x_b x_k)).3)]), bv (true)])) ) ) ( none ) from by kernel_rfl).trans ?_
 rw [hp]
 simp only [chk, chkB, cond_true]
 cases validB (red (⟨x_a, x_b, x_k⟩ : N3)) <;> rfl
theorem m64 : MT 64 s64 := by
 refine meetsN mix0 glv G14 Tryz.func64 (by kernel_rfl) (by kernel_rfl) s64 fun args x h => ?_
 unfold s64 at h
 split at h
 ·rename_i x_a x_b x_k
  obtain ⟨hp, rfl⟩ := sm_inj h
  exact ⟨_, _, by kernel_rfl, e64 x_a x_b x_k hp⟩
 ·cases h
abbrev Γ15 : LC := (64, s64) :: Γ14
theorem G15 : SD Γ15 := G14.cons m64
-- spec.l01Num
def s107 : Ctr := fun
 | [.agg [iv x_a, iv x_b, iv x_k]] => some (kB x_k, .tup [(chk (⟨x_a, x_b, x_k⟩ : N3)).av, bv (chkB (⟨x_a, x_b, x_k⟩ : N3))])
 | _ => none
theorem e107 (x_a : Int) (x_b : Int) (x_k : Int) (hp : (kB x_k) = true) : evN Tryz.prog GLv Γ15 (0) []  Tryz.f107 [.agg [iv x_a, iv x_b, iv x_k]] = some (.tup [(chk (⟨x_a, x_b, x_k⟩ : N3)).av, bv (chkB (⟨x_a, x_b, x_k⟩ : N3))]) := by
 refine (show _ = cond (kB x_k) ( cond (!validB (N3.mk (red (N3.mk x_a x_b x_k)).1 (red (N3.mk x_a x_b x_k)).2 (red (N3.mk x_a x_b x_k)).3)) ( some ((.tup [(.agg [iv (0), iv (0), iv (0)]), bv (false)])) ) ( some ((.tup [(.agg [iv ((red (N3.mk x_a x_b x_k)).1), iv ((red (N3.mk x_a x_b x_k)).2), iv ((red (N3.mk x_a x_b x_k)).3)]), bv (true)])) ) ) ( none ) from by kernel_rfl).trans ?_
 rw [hp]
 simp only [chk, chkB, cond_true]
 cases validB (red (⟨x_a, x_b, x_k⟩ : N3)) <;> rfl
theorem m107 : MT 107 s107 := by
 refine meetsN mix0 glv G15 Tryz.func107 (by kernel_rfl) (by kernel_rfl) s107 fun args x h => ?_
 unfold s107 at h
 split at h
 ·rename_i x_a x_b x_k
  obtain ⟨hp, rfl⟩ := sm_inj h
  exact ⟨_, _, by kernel_rfl, e107 x_a x_b x_k hp⟩
 ·cases h
abbrev Γ16 : LC := (107, s107) :: Γ15
theorem G16 : SD Γ16 := G15.cons m107
-- spec.l01Of
def s71 : Ctr := fun
 | [.agg [iv x_a, iv x_b, iv x_k]] => some (true, (⟨x_a, x_b, x_k⟩ : N3).av)
 | _ => none
theorem e71 (x_a : Int) (x_b : Int) (x_k : Int) : evN Tryz.prog GLv Γ16 (0) []  Tryz.f71 [.agg [iv x_a, iv x_b, iv x_k]] = some ((⟨x_a, x_b, x_k⟩ : N3).av) := by
 kernel_rfl
theorem m71 : MT 71 s71 := by
 refine meetsN mix0 glv G16 Tryz.func71 (by kernel_rfl) (by kernel_rfl) s71 fun args x h => ?_
 unfold s71 at h
 split at h
 ·rename_i x_a x_b x_k
  obtain ⟨hp, rfl⟩ := sm_inj h
  exact ⟨_, _, by kernel_rfl, e71 x_a x_b x_k⟩
 ·cases h
abbrev Γ17 : LC := (71, s71) :: Γ16
theorem G17 : SD Γ17 := G16.cons m71
-- spec.l02Of
def s34 : Ctr := fun
 | [.agg [iv p_xa, iv p_xb, iv p_xk, iv p_ya, iv p_yb, iv p_yk]] => some (true, (⟨(⟨p_xa, p_xb, p_xk⟩ : N3), (⟨p_ya, p_yb, p_yk⟩ : N3)⟩ : P2).av)
 | _ => none
theorem e34 (p_xa : Int) (p_xb : Int) (p_xk : Int) (p_ya : Int) (p_yb : Int) (p_yk : Int) : evN Tryz.prog GLv Γ17 (0) []  Tryz.f34 [.agg [iv p_xa, iv p_xb, iv p_xk, iv p_ya, iv p_yb, iv p_yk]] = some ((⟨(⟨p_xa, p_xb, p_xk⟩ : N3), (⟨p_ya, p_yb, p_yk⟩ : N3)⟩ : P2).av) := by
 kernel_rfl
theorem m34 : MT 34 s34 := by
 refine meetsN mix0 glv G17 Tryz.func34 (by kernel_rfl) (by kernel_rfl) s34 fun args x h => ?_
 unfold s34 at h
 split at h
 ·rename_i p_xa p_xb p_xk p_ya p_yb p_yk
  obtain ⟨hp, rfl⟩ := sm_inj h
  exact ⟨_, _, by kernel_rfl, e34 p_xa p_xb p_xk p_ya p_yb p_yk⟩
 ·cases h
abbrev Γ18 : LC := (34, s34) :: Γ17
theorem G18 : SD Γ18 := G17.cons m34
-- impl.ValidPoint
def s26 : Ctr := fun
 | [.agg [iv p_xa, iv p_xb, iv p_xk, iv p_ya, iv p_yb, iv p_yk]] => some (true, bv (valP (⟨(⟨p_xa, p_xb, p_xk⟩ : N3), (⟨p_ya, p_yb, p_yk⟩ : N3)⟩ : P2)))
 | _ => none
theorem e26 (p_xa : Int) (p_xb : Int) (p_xk : Int) (p_ya : Int) (p_yb : Int) (p_yk : Int) : evN Tryz.prog GLv Γ18 (0) []  Tryz.f26 [.agg [iv p_xa, iv p_xb, iv p_xk, iv p_ya, iv p_yb, iv p_yk]] = some (bv (valP (⟨(⟨p_xa, p_xb, p_xk⟩ : N3), (⟨p_ya, p_yb, p_yk⟩ : N3)⟩ : P2))) := by
 refine (show _ = cond (validB (N3.mk p_xa p_xb p_xk)) ( some (bv (validB (N3.mk p_ya p_yb p_yk))) ) ( some (bv (false)) ) from by kernel_rfl).trans ?_
 simp only [valP]
 cases validB (⟨p_xa, p_xb, p_xk⟩ : N3) <;> rfl
theorem m26 : MT 26 s26 := by
 refine meetsN mix0 glv G18 Tryz.func26 (by kernel_rfl) (by kernel_rfl) s26 fun args x h => ?_
 unfold s26 at h
 split at h
 ·rename_i p_xa p_xb p_xk p_ya p_yb p_yk
  obtain ⟨hp, rfl⟩ := sm_inj h
  exact ⟨_, _, by kernel_rfl, e26 p_xa p_xb p_xk p_ya p_yb p_yk⟩
 ·cases h
abbrev Γ19 : LC := (26, s26) :: Γ18
theorem G19 : SD Γ19 := G18.cons m26
-- spec.l02Point
def s30 : Ctr := fun
 | [.agg [iv p_xa, iv p_xb, iv p_xk, iv p_ya, iv p_yb, iv p_yk]] => some (true, bv (valP (⟨(⟨p_xa, p_xb, p_xk⟩ : N3), (⟨p_ya, p_yb, p_yk⟩ : N3)⟩ : P2)))
 | _ => none
theorem e30 (p_xa : Int) (p_xb : Int) (p_xk : Int) (p_ya : Int) (p_yb : Int) (p_yk : Int) : evN Tryz.prog GLv Γ19 (0) []  Tryz.f30 [.agg [iv p_xa, iv p_xb, iv p_xk, iv p_ya, iv p_yb, iv p_yk]] = some (bv (valP (⟨(⟨p_xa, p_xb, p_xk⟩ : N3), (⟨p_ya, p_yb, p_yk⟩ : N3)⟩ : P2))) := by
 refine (show _ = cond (validB (N3.mk p_xa p_xb p_xk)) ( some (bv (validB (N3.mk p_ya p_yb p_yk))) ) ( some (bv (false)) ) from by kernel_rfl).trans ?_
 simp only [valP]
 cases validB (⟨p_xa, p_xb, p_xk⟩ : N3) <;> rfl
theorem m30 : MT 30 s30 := by
 refine meetsN mix0 glv G19 Tryz.func30 (by kernel_rfl) (by kernel_rfl) s30 fun args x h => ?_
 unfold s30 at h
 split at h
 ·rename_i p_xa p_xb p_xk p_ya p_yb p_yk
  obtain ⟨hp, rfl⟩ := sm_inj h
  exact ⟨_, _, by kernel_rfl, e30 p_xa p_xb p_xk p_ya p_yb p_yk⟩
 ·cases h
abbrev Γ20 : LC := (30, s30) :: Γ19
theorem G20 : SD Γ20 := G19.cons m30
-- (impl.Point).checked
def s28 : Ctr := fun
 | [.agg [iv p_xa, iv p_xb, iv p_xk, iv p_ya, iv p_yb, iv p_yk]] => some (kB p_xk && kB p_yk, rP (valP (redP (⟨(⟨p_xa, p_xb, p_xk⟩ : N3), (⟨p_ya, p_yb, p_yk⟩ : N3)⟩ : P2))) (redP (⟨(⟨p_xa, p_xb, p_xk⟩ : N3), (⟨p_ya, p_yb, p_yk⟩ : N3)⟩ : P2)))
 | _ => none
theorem e28 (p_xa : Int) (p_xb : Int) (p_xk : Int) (p_ya : Int) (p_yb : Int) (p_yk : Int) (hp : (kB p_xk && kB p_yk) = true) : evN Tryz.prog GLv Γ20 (0) []  Tryz.f28 [.agg [iv p_xa, iv p_xb, iv p_xk, iv p_ya, iv p_yb, iv p_yk]] = some (rP (valP (redP (⟨(⟨p_xa, p_xb, p_xk⟩ : N3), (⟨p_ya, p_yb, p_yk⟩ : N3)⟩ : P2))) (redP (⟨(⟨p_xa, p_xb, p_xk⟩ : N3), (⟨p_ya, p_yb, p_yk⟩ : N3)⟩ : P2))) := by
 refine (show _ = cond (kB p_xk) ( cond (kB p_yk) ( cond (!chkB (N3.mk p_xa p_xb p_xk)) ( some ((.tup [(.agg [iv (0), iv (0), iv (0), iv (0), iv (0), iv (0)]), bv (false)])) ) ( cond (!chkB (N3.mk p_ya p_yb p_yk)) ( some ((.tup [(.agg [iv (0), iv (0), iv (0), iv (0), iv (0), iv (0)]), bv (false)])) ) ( some ((.tup [(.agg [iv (bif chkB (N3.mk p_xa p_xb p_xk) then (red (N3.mk p_xa p_xb p_xk)).1 else 0), iv (bif chkB (N3.mk p_xa p_xb p_xk) then (red (N3.mk p_xa p_xb p_xk)).2 else 0), iv (bif chkB (N3.mk p_xa p_xb p_xk) then (red (N3.mk p_xa p_xb p_xk)).3 else 0), iv (bif chkB (N3.mk p_ya p_yb p_yk) then (red (N3.mk p_ya p_yb p_yk)).1 else 0), iv (bif chkB (N3.mk p_ya p_yb p_yk) then (red (N3.mk p_ya p_yb p_yk)).2 else 0), iv (bif chkB (N3.mk p_ya p_yb p_yk) then (red (N3.mk p_ya p_yb p_yk)).3 else 0)]), bv (true)])) ) ) ) ( none ) ) ( none ) from by kernel_rfl).trans ?_
 rw [Bool.and_eq_true] at hp
 rw [hp.1, hp.2]
 simp only [valP, redP, rP, chkB, cond_true]
 cases validB (red (⟨p_xa, p_xb, p_xk⟩ : N3)) <;> cases validB (red (⟨p_ya, p_yb, p_yk⟩ : N3)) <;> rfl
theorem m28 : MT 28 s28 := by
 refine meetsN mix0 glv G20 Tryz.func28 (by kernel_rfl) (by kernel_rfl) s28 fun args x h => ?_
 unfold s28 at h
 split at h
 ·rename_i p_xa p_xb p_xk p_ya p_yb p_yk
  obtain ⟨hp, rfl⟩ := sm_inj h
  exact ⟨_, _, by kernel_rfl, e28 p_xa p_xb p_xk p_ya p_yb p_yk hp⟩
 ·cases h
abbrev Γ21 : LC := (28, s28) :: Γ20
theorem G21 : SD Γ21 := G20.cons m28
-- spec.l02Num
def s136 : Ctr := fun
 | [.agg [iv p_xa, iv p_xb, iv p_xk, iv p_ya, iv p_yb, iv p_yk]] => some (kB p_xk && kB p_yk, rP (valP (redP (⟨(⟨p_xa, p_xb, p_xk⟩ : N3), (⟨p_ya, p_yb, p_yk⟩ : N3)⟩ : P2))) (redP (⟨(⟨p_xa, p_xb, p_xk⟩ : N3), (⟨p_ya, p_yb, p_yk⟩ : N3)⟩ : P2)))
 | _ => none
theorem e136 (p_xa : Int) (p_xb : Int) (p_xk : Int) (p_ya : Int) (p_yb : Int) (p_yk : Int) (hp : (kB p_xk && kB p_yk) = true) : evN Tryz.prog GLv Γ21 (0) []  Tryz.f136 [.agg [iv p_xa, iv p_xb, iv p_xk, iv p_ya, iv p_yb, iv p_yk]] = some (rP (valP (redP (⟨(⟨p_xa, p_xb, p_xk⟩ : N3), (⟨p_ya, p_yb, p_yk⟩ : N3)⟩ : P2))) (redP (⟨(⟨p_xa, p_xb, p_xk⟩ : N3), (⟨p_ya, p_yb, p_yk⟩ : N3)⟩ : P2))) := by
 refine (show _ = cond (kB p_xk) ( cond (kB p_yk) ( cond (!chkB (N3.mk p_xa p_xb p_xk)) ( some ((.tup [(.agg [iv (0), iv (0), iv (0), iv (0), iv (0), iv (0)]), bv (false)])) ) ( cond (!chkB (N3.mk p_ya p_yb p_yk)) ( some ((.tup [(.agg [iv (0), iv (0), iv (0), iv (0), iv (0), iv (0)]), bv (false)])) ) ( some ((.tup [(.agg [iv (bif chkB (N3.mk p_xa p_xb p_xk) then (red (N3.mk p_xa p_xb p_xk)).1 else 0), iv (bif chkB (N3.mk p_xa p_xb p_xk) then (red (N3.mk p_xa p_xb p_xk)).2 else 0), iv (bif chkB (N3.mk p_xa p_xb p_xk) then (red (N3.mk p_xa p_xb p_xk)).3 else 0), iv (bif chkB (N3.mk p_ya p_yb p_yk) then (red (N3.mk p_ya p_yb p_yk)).1 else 0), iv (bif chkB (N3.mk p_ya p_yb p_yk) then (red (N3.mk p_ya p_yb p_yk)).2 else 0), iv (bif chkB (N3.mk p_ya p_yb p_yk) then (red (N3.mk p_ya p_yb p_yk)).3 else 0)]), bv (true)])) ) ) ) ( none ) ) ( none ) from by kernel_rfl).trans ?_
 rw [Bool.and_eq_true] at hp
 rw [hp.1, hp.2]
 simp only [valP, redP, rP, chkB, cond_true]
 cases validB (red (⟨p_xa, p_xb, p_xk⟩ : N3)) <;> cases validB (red (⟨p_ya, p_yb, p_yk⟩ : N3)) <;> rfl
theorem m136 : MT 136 s136 := by
 refine meetsN mix0 glv G21 Tryz.func136 (by kernel_rfl) (by kernel_rfl) s136 fun args x h => ?_
 unfold s136 at h
 split at h
 ·rename_i p_xa p_xb p_xk p_ya p_yb p_yk
  obtain ⟨hp, rfl⟩ := sm_inj h
  exact ⟨_, _, by kernel_rfl, e136 p_xa p_xb p_xk p_ya p_yb p_yk hp⟩
 ·cases h
abbrev Γ22 : LC := (136, s136) :: Γ21
theorem G22 : SD Γ22 := G21.cons m136
-- (impl.Point).plus
def s63 : Ctr := fun
 | [.agg [iv p_xa, iv p_xb, iv p_xk, iv p_ya, iv p_yb, iv p_yk], .agg [iv q_xa, iv q_xb, iv q_xk, iv q_ya, iv q_yb, iv q_yk]] => some (pkP (⟨(⟨p_xa, p_xb, p_xk⟩ : N3), (⟨p_ya, p_yb, p_yk⟩ : N3)⟩ : P2) (⟨(⟨q_xa, q_xb, q_xk⟩ : N3), (⟨q_ya, q_yb, q_yk⟩ : N3)⟩ : P2), (addP (⟨(⟨p_xa, p_xb, p_xk⟩ : N3), (⟨p_ya, p_yb, p_yk⟩ : N3)⟩ : P2) (⟨(⟨q_xa, q_xb, q_xk⟩ : N3), (⟨q_ya, q_yb, q_yk⟩ : N3)⟩ : P2)).av)
 | _ => none
theorem e63 (p_xa : Int) (p_xb : Int) (p_xk : Int) (p_ya : Int) (p_yb : Int) (p_yk : Int) (q_xa : Int) (q_xb : Int) (q_xk : Int) (q_ya : Int) (q_yb : Int) (q_yk : Int) (hp : (pkP (⟨(⟨p_xa, p_xb, p_xk⟩ : N3), (⟨p_ya, p_yb, p_yk⟩ : N3)⟩ : P2) (⟨(⟨q_xa, q_xb, q_xk⟩ : N3), (⟨q_ya, q_yb, q_yk⟩ : N3)⟩ : P2)) = true) : evN Tryz.prog GLv Γ22 (0) []  Tryz.f63 [.agg [iv p_xa, iv p_xb, iv p_xk, iv p_ya, iv p_yb, iv p_yk], .agg [iv q_xa, iv q_xb, iv q_xk, iv q_ya, iv q_yb, iv q_yk]] = some ((addP (⟨(⟨p_xa, p_xb, p_xk⟩ : N3), (⟨p_ya, p_yb, p_yk⟩ : N3)⟩ : P2) (⟨(⟨q_xa, q_xb, q_xk⟩ : N3), (⟨q_ya, q_yb, q_yk⟩ : N3)⟩ : P2)).av) := by
 unfold pkP at hp
 rw [Bool.and_eq_true] at hp
 refine (show _ = cond (pk (⟨p_xa, p_xb, p_xk⟩ : N3) (⟨q_xa, q_xb, q_xk⟩ : N3)) (cond (pk (⟨p_ya, p_yb, p_yk⟩ : N3) (⟨q_ya, q_yb, q_yk⟩ : N3)) (some (addP (⟨(⟨p_xa, p_xb, p_xk⟩ : N3), (⟨p_ya, p_yb, p_yk⟩ : N3)⟩ : P2) (⟨(⟨q_xa, q_xb, q_xk⟩ : N3), (⟨q_ya, q_yb, q_yk⟩ : N3)⟩ : P2)).av) none) none from by kernel_rfl).trans ?_
 rw [hp.1, hp.2]
 rfl
theorem m63 : MT 63 s63 := by
 refine meetsN mix0 glv G22 Tryz.func63 (by kernel_rfl) (by kernel_rfl) s63 fun args x h => ?_
 unfold s63 at h
 split at h
 ·rename_i p_xa p_xb p_xk p_ya p_yb p_yk q_xa q_xb q_xk q_ya q_yb q_yk
  obtain ⟨hp, rfl⟩ := sm_inj h
  exact ⟨_, _, by kernel_rfl, e63 p_xa p_xb p_xk p_ya p_yb p_yk q_xa q_xb q_xk q_ya q_yb q_yk hp⟩
 ·cases h
abbrev Γ23 : LC := (63, s63) :: Γ22
theorem G23 : SD Γ23 := G22.cons m63
-- spec.l01Div
def s157 : Ctr := fun
 | [.agg [iv x_a, iv x_b, iv x_k], .agg [iv y_a, iv y_b, iv y_k]] => some (dvP (⟨x_a, x_b, x_k⟩ : N3) (⟨y_a, y_b, y_k⟩ : N3), dvR (⟨x_a, x_b, x_k⟩ : N3) (⟨y_a, y_b, y_k⟩ : N3))
 | _ => none
theorem r157_step1 (K m : Nat) (n a b k c ya yb yk : Int) : runL Tryz.prog GLv Γ23 K kx2 Tryz.f157 1 (m + 1) (stL Tryz.f157.ntmps [.non, .non, .non, .own 67 [iv ya, iv yb, iv yk], .own 67 [iv 0, iv 0, iv 0], bv false, iv (n), .own 67 [iv (a), iv (b), iv (k)], iv (c)]) = cond (decide (c > 0)) (cond (decide (k > 0)) (runL Tryz.prog GLv Γ23 K kx2 Tryz.f157 1 m (stL Tryz.f157.ntmps [.non, .non, .non, .own 67 [iv ya, iv yb, iv yk], .own 67 [iv 0, iv 0, iv 0], bv false, iv (n), .own 67 [iv (a), iv (b), iv (wr (k - 1))], iv (wr (c - 1))])) (runL Tryz.prog GLv Γ23 K kx2 Tryz.f157 1 m (stL Tryz.f157.ntmps [.non, .non, .non, .own 67 [iv ya, iv yb, iv yk], .own 67 [iv 0, iv 0, iv 0], bv false, iv (n), .own 67 [iv (wr (a * 2)), iv (wr (b * 2)), iv (k)], iv (wr (c - 1))]))) (cond (kB k) (some (dvYes (red ⟨a, b, k⟩))) none) := by kernel_rfl
theorem r157_run1 (K : Nat) (ya yb yk n : Int) : ∀ (c : Nat) (a b k : Int) (m : Nat), 0 <= k -> k <= 1000000 -> c <= 1000000 -> c < m -> runL Tryz.prog GLv Γ23 K kx2 Tryz.f157 1 m (stL Tryz.f157.ntmps [.non, .non, .non, .own 67 [iv ya, iv yb, iv yk], .own 67 [iv 0, iv 0, iv 0], bv false, iv (n), .own 67 [iv (a), iv (b), iv (k)], iv ((c : Int))]) = some (dvYes (red (decF c a b k))) := by
 intro c
 induction c with
 | zero =>
  intro a b k m h0 h1 h2 h3
  obtain ⟨m, rfl⟩ : ∃ m', m = m' + 1 := ⟨m - 1, by omega⟩
  rw [r157_step1, show decide (((0 : Nat) : Int) > 0) = false from rfl, kB_iff.2 ⟨h0, by omega⟩]
  rfl
 | succ c ih =>
  intro a b k m h0 h1 h2 h3
  obtain ⟨m, rfl⟩ : ∃ m', m = m' + 1 := ⟨m - 1, by omega⟩
  have hc : decide (((c + 1 : Nat) : Int) > 0) = true := by rw [decide_eq_true_eq]; omega
  have hw : wr (((c + 1 : Nat) : Int) - 1) = (c : Int) := by rw [wr_in (by omega) (by omega)]; omega
  rw [r157_step1, hc, cond_true, hw]
  unfold decF
  by_cases hk : k > 0
  ·rw [wr_in (n := k - 1) (by omega) (by omega), ih _ _ (k - 1) _ (by omega) (by omega) (by omega) (by omega)]
   simp only [hk, decide_true, cond_true, if_true]
  ·rw [ih _ _ k _ (by omega) (by omega) (by omega) (by omega)]
   simp only [hk, decide_false, cond_false, if_false]
theorem r157_step (K m : Nat) (n a b k ya yb yk : Int) : runL Tryz.prog GLv Γ23 K kx2 Tryz.f157 0 (m + 1) (stL Tryz.f157.ntmps [.non, .non, .non, .own 67 [iv ya, iv yb, iv yk], .own 67 [iv 0, iv 0, iv 0], bv false, iv (n), .own 67 [iv (a), iv (b), iv (k)]]) = cond (n.tmod 2 == 0) (runL Tryz.prog GLv Γ23 K kx2 Tryz.f157 0 m (stL Tryz.f157.ntmps [.non, .non, .non, .own 67 [iv ya, iv yb, iv yk], .own 67 [iv 0, iv 0, iv 0], bv false, iv (wr (n.tdiv 2)), .own 67 [iv (a), iv (b), iv (wr (k + 1))]])) (specEnd (fun a b => runL Tryz.prog GLv Γ23 K kx2 Tryz.f157 1 K (stL Tryz.f157.ntmps [.non, .non, .non, .own 67 [iv ya, iv yb, iv yk], .own 67 [iv 0, iv 0, iv 0], bv false, iv (n), .own 67 [iv (a), iv (b), iv (k)], iv (yk)])) n a b) := by kernel_rfl
theorem r157_run (K : Nat) (ya yb yk : Int) : ∀ (f : Nat) (n a b k : Int) (m : Nat), n ≠ 0 -> n.natAbs < 2 ^ f -> f <= 60 -> -1000000 <= k -> k + f <= 1000000 -> f < m ->
  runL Tryz.prog GLv Γ23 K kx2 Tryz.f157 0 m (stL Tryz.f157.ntmps [.non, .non, .non, .own 67 [iv ya, iv yb, iv yk], .own 67 [iv 0, iv 0, iv 0], bv false, iv (n), .own 67 [iv (a), iv (b), iv (k)]]) = specEnd (fun a b => runL Tryz.prog GLv Γ23 K kx2 Tryz.f157 1 K (stL Tryz.f157.ntmps [.non, .non, .non, .own 67 [iv ya, iv yb, iv yk], .own 67 [iv 0, iv 0, iv 0], bv false, iv ((oddL f n k).1), .own 67 [iv (a), iv (b), iv ((oddL f n k).2)], iv (yk)])) (oddL f n k).1 a b := by
 intro f
 induction f with
 | zero => intro n a b k m hn hf; simp at hf; omega
 | succ f ih =>
  intro n a b k m hn hf hf60 hk hk' hm
  obtain ⟨m, rfl⟩ : ∃ m', m = m' + 1 := ⟨m - 1, by omega⟩
  have h60 : (2 : Nat) ^ (f + 1) <= 2 ^ 60 := Nat.pow_le_pow_right (by decide) hf60
  have e60 : (2 : Nat) ^ 60 = 1152921504606846976 := by decide
  rw [r157_step]
  rw [tmod_zero]
  cases ho : odd n with
  | true =>
   have e : oddL (f + 1) n k = (n, k) := by unfold oddL; rw [ho]; rfl
   rw [e]
   rfl
  | false =>
   obtain ⟨h1, h2⟩ := tdiv_two ho
   have e : oddL (f + 1) n k = oddL f (n.tdiv 2) (k + 1) := by conv => lhs; unfold oddL
                                                               rw [ho]; rfl
   rw [e, Bool.not_false, cond_true, wr_in (n := n.tdiv 2) (by omega) (by omega), wr_in (n := k + 1) (by omega) (by omega)]
   exact ih _ _ _ _ _ (by omega) (by rw [Nat.pow_succ] at hf; omega) (by omega) (by omega) (by omega) (by omega)
theorem e157 (x_a : Int) (x_b : Int) (x_k : Int) (y_a : Int) (y_b : Int) (y_k : Int) (hp : (dvP (⟨x_a, x_b, x_k⟩ : N3) (⟨y_a, y_b, y_k⟩ : N3)) = true) : evN Tryz.prog GLv Γ23 (70) kx2  Tryz.f157 [.agg [iv x_a, iv x_b, iv x_k], .agg [iv y_a, iv y_b, iv y_k]] = some (dvR (⟨x_a, x_b, x_k⟩ : N3) (⟨y_a, y_b, y_k⟩ : N3)) := by
 refine (show _ = cond (divN (⟨y_a, y_b, y_k⟩ : N3) == 0) (some dvNo) (runL Tryz.prog GLv Γ23 70 kx2 Tryz.f157 0 70 (stL Tryz.f157.ntmps [.non, .non, .non, .own 67 [iv y_a, iv y_b, iv y_k], .own 67 [iv 0, iv 0, iv 0], bv false, iv (divN (⟨y_a, y_b, y_k⟩ : N3)), .own 67 [iv (wr (wr (x_a * y_a) - wr (wr (2 * x_b) * y_b))), iv (wr (wr (x_b * y_a) - wr (x_a * y_b))), iv (x_k)]])) from by kernel_rfl).trans ?_
 obtain ⟨ra, rb, rA, rB, rM, _, rN⟩ := raw_bd hp
 obtain ⟨⟨_, _, xk, xk'⟩, _, _, yk, yk'⟩ := dvP_iff.1 hp
 simp only at xk xk' yk yk'
 by_cases hz : divN (⟨y_a, y_b, y_k⟩ : N3) = 0
 ·have hz' : (divN (⟨y_a, y_b, y_k⟩ : N3) == 0) = true := by simpa using hz
  rw [hz', cond_true]
  unfold dvR dvOk
  rw [hz']
  rfl
 have hz' : (divN (⟨y_a, y_b, y_k⟩ : N3) == 0) = false := by simpa using hz
 rw [hz', cond_false]
 obtain ⟨o1, o2, o3, _, _, _⟩ := dv_same hp hz
 have hb : (divN (⟨y_a, y_b, y_k⟩ : N3)).natAbs < 2 ^ 60 := by
  have : (2 : Nat) ^ 60 = 1152921504606846976 := by decide
  omega
 simp only at rA rB
 rw [rA, rB, r157_run 70 y_a y_b y_k 60 _ _ _ _ 70 hz hb (by decide) (by omega) (by omega) (by decide), oddL_shift]
 refine specEnd_eq hp hz _ fun a b => ?_
 have hy : y_k = ((y_k.toNat : Nat) : Int) := by omega
 conv => lhs; rw [hy]
 exact r157_run1 70 y_a y_b _ _ y_k.toNat a b _ 70 (by show 0 <= x_k + dvE (⟨y_a, y_b, y_k⟩ : N3); omega) (by show x_k + dvE (⟨y_a, y_b, y_k⟩ : N3) <= _; omega) (by omega) (by omega)
theorem m157 : MT 157 s157 := by
 refine meetsN mix0 glv G23 Tryz.func157 (by kernel_rfl) (by kernel_rfl) s157 fun args x h => ?_
 unfold s157 at h
 split at h
 ·rename_i x_a x_b x_k y_a y_b y_k
  obtain ⟨hp, rfl⟩ := sm_inj h
  exact ⟨_, _, by kernel_rfl, e157 x_a x_b x_k y_a y_b y_k hp⟩
 ·cases h
abbrev Γ24 : LC := (157, s157) :: Γ23
theorem G24 : SD Γ24 := G23.cons m157
-- impl.vector
def s125 : Ctr := fun
 | [iv d] => some (inB d 0 15, (vecP d).av)
 | _ => none
theorem e125 (d : Int) (hp : (inB d 0 15) = true) : evN Tryz.prog GLv Γ24 (0) []  Tryz.f125 [iv d] = some ((vecP d).av) := by
 rw [inB_iff] at hp
 have hh : d = 0 \/ d = 1 \/ d = 2 \/ d = 3 \/ d = 4 \/ d = 5 \/ d = 6 \/ d = 7 \/ d = 8 \/ d = 9 \/ d = 10 \/ d = 11 \/ d = 12 \/ d = 13 \/ d = 14 \/ d = 15 := by omega
 clear hp
 rcases hh with rfl | rfl | rfl | rfl | rfl | rfl | rfl | rfl | rfl | rfl | rfl | rfl | rfl | rfl | rfl | rfl
 all_goals (show _ = _; kernel_rfl)
theorem m125 : MT 125 s125 := by
 refine meetsN mix0 glv G24 Tryz.func125 (by kernel_rfl) (by kernel_rfl) s125 fun args x h => ?_
 unfold s125 at h
 split at h
 ·rename_i d
  obtain ⟨hp, rfl⟩ := sm_inj h
  exact ⟨_, _, by kernel_rfl, e125 d hp⟩
 ·cases h
abbrev Γ25 : LC := (125, s125) :: Γ24
theorem G25 : SD Γ25 := G24.cons m125
-- spec.l02Mod
def s66 : Ctr := fun
 | [iv d] => some (inB d 0 15, iv d)
 | _ => none
theorem e66 (d : Int) (hp : (inB d 0 15) = true) : evN Tryz.prog GLv Γ25 (0) []  Tryz.f66 [iv d] = some (iv d) := by
 rw [inB_iff] at hp
 have hh : d = 0 \/ d = 1 \/ d = 2 \/ d = 3 \/ d = 4 \/ d = 5 \/ d = 6 \/ d = 7 \/ d = 8 \/ d = 9 \/ d = 10 \/ d = 11 \/ d = 12 \/ d = 13 \/ d = 14 \/ d = 15 := by omega
 clear hp
 rcases hh with rfl | rfl | rfl | rfl | rfl | rfl | rfl | rfl | rfl | rfl | rfl | rfl | rfl | rfl | rfl | rfl
 all_goals (show _ = _; kernel_rfl)
theorem m66 : MT 66 s66 := by
 refine meetsN mix0 glv G25 Tryz.func66 (by kernel_rfl) (by kernel_rfl) s66 fun args x h => ?_
 unfold s66 at h
 split at h
 ·rename_i d
  obtain ⟨hp, rfl⟩ := sm_inj h
  exact ⟨_, _, by kernel_rfl, e66 d hp⟩
 ·cases h
abbrev Γ26 : LC := (66, s66) :: Γ25
theorem G26 : SD Γ26 := G25.cons m66
-- spec.l02Vec
def s104 : Ctr := fun
 | [iv d] => some (inB d 0 15, (vecP d).av)
 | _ => none
theorem e104 (d : Int) (hp : (inB d 0 15) = true) : evN Tryz.prog GLv Γ26 (0) []  Tryz.f104 [iv d] = some ((vecP d).av) := by
 rw [inB_iff] at hp
 have hh : d = 0 \/ d = 1 \/ d = 2 \/ d = 3 \/ d = 4 \/ d = 5 \/ d = 6 \/ d = 7 \/ d = 8 \/ d = 9 \/ d = 10 \/ d = 11 \/ d = 12 \/ d = 13 \/ d = 14 \/ d = 15 := by omega
 clear hp
 rcases hh with rfl | rfl | rfl | rfl | rfl | rfl | rfl | rfl | rfl | rfl | rfl | rfl | rfl | rfl | rfl | rfl
 all_goals (show _ = _; kernel_rfl)
theorem m104 : MT 104 s104 := by
 refine meetsN mix0 glv G26 Tryz.func104 (by kernel_rfl) (by kernel_rfl) s104 fun args x h => ?_
 unfold s104 at h
 split at h
 ·rename_i d
  obtain ⟨hp, rfl⟩ := sm_inj h
  exact ⟨_, _, by kernel_rfl, e104 d hp⟩
 ·cases h
abbrev Γ27 : LC := (104, s104) :: Γ26
theorem G27 : SD Γ27 := G26.cons m104
-- spec.l02LineOf
def s110 : Ctr := fun
 | [.agg [iv l_d, iv l_a, iv l_b, iv l_k]] => some (true, .agg [iv l_d, iv l_a, iv l_b, iv l_k])
 | _ => none
theorem e110 (l_d : Int) (l_a : Int) (l_b : Int) (l_k : Int) : evN Tryz.prog GLv Γ27 (0) []  Tryz.f110 [.agg [iv l_d, iv l_a, iv l_b, iv l_k]] = some (.agg [iv l_d, iv l_a, iv l_b, iv l_k]) := by
 kernel_rfl
theorem m110 : MT 110 s110 := by
 refine meetsN mix0 glv G27 Tryz.func110 (by kernel_rfl) (by kernel_rfl) s110 fun args x h => ?_
 unfold s110 at h
 split at h
 ·rename_i l_d l_a l_b l_k
  obtain ⟨hp, rfl⟩ := sm_inj h
  exact ⟨_, _, by kernel_rfl, e110 l_d l_a l_b l_k⟩
 ·cases h
abbrev Γ28 : LC := (110, s110) :: Γ27
theorem G28 : SD Γ28 := G27.cons m110
-- (impl.Point).dot
def s127 : Ctr := fun
 | [.agg [iv p_xa, iv p_xb, iv p_xk, iv p_ya, iv p_yb, iv p_yk], .agg [iv q_xa, iv q_xb, iv q_xk, iv q_ya, iv q_yb, iv q_yk]] => some (pkD (⟨(⟨p_xa, p_xb, p_xk⟩ : N3), (⟨p_ya, p_yb, p_yk⟩ : N3)⟩ : P2) (⟨(⟨q_xa, q_xb, q_xk⟩ : N3), (⟨q_ya, q_yb, q_yk⟩ : N3)⟩ : P2), (dotF (⟨(⟨p_xa, p_xb, p_xk⟩ : N3), (⟨p_ya, p_yb, p_yk⟩ : N3)⟩ : P2) (⟨(⟨q_xa, q_xb, q_xk⟩ : N3), (⟨q_ya, q_yb, q_yk⟩ : N3)⟩ : P2)).av)
 | _ => none
theorem e127 (p_xa : Int) (p_xb : Int) (p_xk : Int) (p_ya : Int) (p_yb : Int) (p_yk : Int) (q_xa : Int) (q_xb : Int) (q_xk : Int) (q_ya : Int) (q_yb : Int) (q_yk : Int) (hp : (pkD (⟨(⟨p_xa, p_xb, p_xk⟩ : N3), (⟨p_ya, p_yb, p_yk⟩ : N3)⟩ : P2) (⟨(⟨q_xa, q_xb, q_xk⟩ : N3), (⟨q_ya, q_yb, q_yk⟩ : N3)⟩ : P2)) = true) : evN Tryz.prog GLv Γ28 (0) []  Tryz.f127 [.agg [iv p_xa, iv p_xb, iv p_xk, iv p_ya, iv p_yb, iv p_yk], .agg [iv q_xa, iv q_xb, iv q_xk, iv q_ya, iv q_yb, iv q_yk]] = some ((dotF (⟨(⟨p_xa, p_xb, p_xk⟩ : N3), (⟨p_ya, p_yb, p_yk⟩ : N3)⟩ : P2) (⟨(⟨q_xa, q_xb, q_xk⟩ : N3), (⟨q_ya, q_yb, q_yk⟩ : N3)⟩ : P2)).av) := by
 simp only [pkD, Bool.and_eq_true] at hp
 obtain ⟨h1, h2, h3⟩ := hp
 refine (show _ = cond (pkm (⟨p_xa, p_xb, p_xk⟩ : N3) (⟨q_xa, q_xb, q_xk⟩ : N3)) (cond (pkm (⟨p_ya, p_yb, p_yk⟩ : N3) (⟨q_ya, q_yb, q_yk⟩ : N3)) (cond (pk (mulF (⟨p_xa, p_xb, p_xk⟩ : N3) (⟨q_xa, q_xb, q_xk⟩ : N3)) (mulF (⟨p_ya, p_yb, p_yk⟩ : N3) (⟨q_ya, q_yb, q_yk⟩ : N3))) (some (dotF (⟨(⟨p_xa, p_xb, p_xk⟩ : N3), (⟨p_ya, p_yb, p_yk⟩ : N3)⟩ : P2) (⟨(⟨q_xa, q_xb, q_xk⟩ : N3), (⟨q_ya, q_yb, q_yk⟩ : N3)⟩ : P2)).av) none) none) none from by kernel_rfl).trans ?_
 rw [h1, h2, h3]
 rfl
theorem m127 : MT 127 s127 := by
 refine meetsN mix0 glv G28 Tryz.func127 (by kernel_rfl) (by kernel_rfl) s127 fun args x h => ?_
 unfold s127 at h
 split at h
 ·rename_i p_xa p_xb p_xk p_ya p_yb p_yk q_xa q_xb q_xk q_ya q_yb q_yk
  obtain ⟨hp, rfl⟩ := sm_inj h
  exact ⟨_, _, by kernel_rfl, e127 p_xa p_xb p_xk p_ya p_yb p_yk q_xa q_xb q_xk q_ya q_yb q_yk hp⟩
 ·cases h
abbrev Γ29 : LC := (127, s127) :: Γ28
theorem G29 : SD Γ29 := G28.cons m127
-- (impl.Point).cross
def s126 : Ctr := fun
 | [.agg [iv p_xa, iv p_xb, iv p_xk, iv p_ya, iv p_yb, iv p_yk], .agg [iv q_xa, iv q_xb, iv q_xk, iv q_ya, iv q_yb, iv q_yk]] => some (pkC (⟨(⟨p_xa, p_xb, p_xk⟩ : N3), (⟨p_ya, p_yb, p_yk⟩ : N3)⟩ : P2) (⟨(⟨q_xa, q_xb, q_xk⟩ : N3), (⟨q_ya, q_yb, q_yk⟩ : N3)⟩ : P2), (crsF (⟨(⟨p_xa, p_xb, p_xk⟩ : N3), (⟨p_ya, p_yb, p_yk⟩ : N3)⟩ : P2) (⟨(⟨q_xa, q_xb, q_xk⟩ : N3), (⟨q_ya, q_yb, q_yk⟩ : N3)⟩ : P2)).av)
 | _ => none
theorem e126 (p_xa : Int) (p_xb : Int) (p_xk : Int) (p_ya : Int) (p_yb : Int) (p_yk : Int) (q_xa : Int) (q_xb : Int) (q_xk : Int) (q_ya : Int) (q_yb : Int) (q_yk : Int) (hp : (pkC (⟨(⟨p_xa, p_xb, p_xk⟩ : N3), (⟨p_ya, p_yb, p_yk⟩ : N3)⟩ : P2) (⟨(⟨q_xa, q_xb, q_xk⟩ : N3), (⟨q_ya, q_yb, q_yk⟩ : N3)⟩ : P2)) = true) : evN Tryz.prog GLv Γ29 (0) []  Tryz.f126 [.agg [iv p_xa, iv p_xb, iv p_xk, iv p_ya, iv p_yb, iv p_yk], .agg [iv q_xa, iv q_xb, iv q_xk, iv q_ya, iv q_yb, iv q_yk]] = some ((crsF (⟨(⟨p_xa, p_xb, p_xk⟩ : N3), (⟨p_ya, p_yb, p_yk⟩ : N3)⟩ : P2) (⟨(⟨q_xa, q_xb, q_xk⟩ : N3), (⟨q_ya, q_yb, q_yk⟩ : N3)⟩ : P2)).av) := by
 simp only [pkC, Bool.and_eq_true] at hp
 obtain ⟨h1, h2, h3⟩ := hp
 refine (show _ = cond (pkm (⟨p_xa, p_xb, p_xk⟩ : N3) (⟨q_ya, q_yb, q_yk⟩ : N3)) (cond (pkm (⟨p_ya, p_yb, p_yk⟩ : N3) (⟨q_xa, q_xb, q_xk⟩ : N3)) (cond (pk (mulF (⟨p_xa, p_xb, p_xk⟩ : N3) (⟨q_ya, q_yb, q_yk⟩ : N3)) (mulF (⟨p_ya, p_yb, p_yk⟩ : N3) (⟨q_xa, q_xb, q_xk⟩ : N3))) (some (crsF (⟨(⟨p_xa, p_xb, p_xk⟩ : N3), (⟨p_ya, p_yb, p_yk⟩ : N3)⟩ : P2) (⟨(⟨q_xa, q_xb, q_xk⟩ : N3), (⟨q_ya, q_yb, q_yk⟩ : N3)⟩ : P2)).av) none) none) none from by kernel_rfl).trans ?_
 rw [h1, h2, h3]
 rfl
theorem m126 : MT 126 s126 := by
 refine meetsN mix0 glv G29 Tryz.func126 (by kernel_rfl) (by kernel_rfl) s126 fun args x h => ?_
 unfold s126 at h
 split at h
 ·rename_i p_xa p_xb p_xk p_ya p_yb p_yk q_xa q_xb q_xk q_ya q_yb q_yk
  obtain ⟨hp, rfl⟩ := sm_inj h
  exact ⟨_, _, by kernel_rfl, e126 p_xa p_xb p_xk p_ya p_yb p_yk q_xa q_xb q_xk q_ya q_yb q_yk hp⟩
 ·cases h
abbrev Γ30 : LC := (126, s126) :: Γ29
theorem G30 : SD Γ30 := G29.cons m126
-- (impl.Point).minus
def s124 : Ctr := fun
 | [.agg [iv p_xa, iv p_xb, iv p_xk, iv p_ya, iv p_yb, iv p_yk], .agg [iv q_xa, iv q_xb, iv q_xk, iv q_ya, iv q_yb, iv q_yk]] => some (pkP (⟨(⟨p_xa, p_xb, p_xk⟩ : N3), (⟨p_ya, p_yb, p_yk⟩ : N3)⟩ : P2) (⟨(⟨q_xa, q_xb, q_xk⟩ : N3), (⟨q_ya, q_yb, q_yk⟩ : N3)⟩ : P2), (subP (⟨(⟨p_xa, p_xb, p_xk⟩ : N3), (⟨p_ya, p_yb, p_yk⟩ : N3)⟩ : P2) (⟨(⟨q_xa, q_xb, q_xk⟩ : N3), (⟨q_ya, q_yb, q_yk⟩ : N3)⟩ : P2)).av)
 | _ => none
theorem e124 (p_xa : Int) (p_xb : Int) (p_xk : Int) (p_ya : Int) (p_yb : Int) (p_yk : Int) (q_xa : Int) (q_xb : Int) (q_xk : Int) (q_ya : Int) (q_yb : Int) (q_yk : Int) (hp : (pkP (⟨(⟨p_xa, p_xb, p_xk⟩ : N3), (⟨p_ya, p_yb, p_yk⟩ : N3)⟩ : P2) (⟨(⟨q_xa, q_xb, q_xk⟩ : N3), (⟨q_ya, q_yb, q_yk⟩ : N3)⟩ : P2)) = true) : evN Tryz.prog GLv Γ30 (0) []  Tryz.f124 [.agg [iv p_xa, iv p_xb, iv p_xk, iv p_ya, iv p_yb, iv p_yk], .agg [iv q_xa, iv q_xb, iv q_xk, iv q_ya, iv q_yb, iv q_yk]] = some ((subP (⟨(⟨p_xa, p_xb, p_xk⟩ : N3), (⟨p_ya, p_yb, p_yk⟩ : N3)⟩ : P2) (⟨(⟨q_xa, q_xb, q_xk⟩ : N3), (⟨q_ya, q_yb, q_yk⟩ : N3)⟩ : P2)).av) := by
 simp only [pkP, Bool.and_eq_true] at hp
 obtain ⟨h1, h2⟩ := hp
 refine (show _ = cond (pk (⟨p_xa, p_xb, p_xk⟩ : N3) (⟨q_xa, q_xb, q_xk⟩ : N3)) (cond (pk (⟨p_ya, p_yb, p_yk⟩ : N3) (⟨q_ya, q_yb, q_yk⟩ : N3)) (some (subP (⟨(⟨p_xa, p_xb, p_xk⟩ : N3), (⟨p_ya, p_yb, p_yk⟩ : N3)⟩ : P2) (⟨(⟨q_xa, q_xb, q_xk⟩ : N3), (⟨q_ya, q_yb, q_yk⟩ : N3)⟩ : P2)).av) none) none from by kernel_rfl).trans ?_
 rw [h1, h2]
 rfl
theorem m124 : MT 124 s124 := by
 refine meetsN mix0 glv G30 Tryz.func124 (by kernel_rfl) (by kernel_rfl) s124 fun args x h => ?_
 unfold s124 at h
 split at h
 ·rename_i p_xa p_xb p_xk p_ya p_yb p_yk q_xa q_xb q_xk q_ya q_yb q_yk
  obtain ⟨hp, rfl⟩ := sm_inj h
  exact ⟨_, _, by kernel_rfl, e124 p_xa p_xb p_xk p_ya p_yb p_yk q_xa q_xb q_xk q_ya q_yb q_yk hp⟩
 ·cases h
abbrev Γ31 : LC := (124, s124) :: Γ30
theorem G31 : SD Γ31 := G30.cons m124
-- spec.l02Minus
def s68 : Ctr := fun
 | [.agg [iv p_xa, iv p_xb, iv p_xk, iv p_ya, iv p_yb, iv p_yk], .agg [iv q_xa, iv q_xb, iv q_xk, iv q_ya, iv q_yb, iv q_yk]] => some (pkP (⟨(⟨p_xa, p_xb, p_xk⟩ : N3), (⟨p_ya, p_yb, p_yk⟩ : N3)⟩ : P2) (⟨(⟨q_xa, q_xb, q_xk⟩ : N3), (⟨q_ya, q_yb, q_yk⟩ : N3)⟩ : P2), (subP (⟨(⟨p_xa, p_xb, p_xk⟩ : N3), (⟨p_ya, p_yb, p_yk⟩ : N3)⟩ : P2) (⟨(⟨q_xa, q_xb, q_xk⟩ : N3), (⟨q_ya, q_yb, q_yk⟩ : N3)⟩ : P2)).av)
 | _ => none
theorem e68 (p_xa : Int) (p_xb : Int) (p_xk : Int) (p_ya : Int) (p_yb : Int) (p_yk : Int) (q_xa : Int) (q_xb : Int) (q_xk : Int) (q_ya : Int) (q_yb : Int) (q_yk : Int) (hp : (pkP (⟨(⟨p_xa, p_xb, p_xk⟩ : N3), (⟨p_ya, p_yb, p_yk⟩ : N3)⟩ : P2) (⟨(⟨q_xa, q_xb, q_xk⟩ : N3), (⟨q_ya, q_yb, q_yk⟩ : N3)⟩ : P2)) = true) : evN Tryz.prog GLv Γ31 (0) []  Tryz.f68 [.agg [iv p_xa, iv p_xb, iv p_xk, iv p_ya, iv p_yb, iv p_yk], .agg [iv q_xa, iv q_xb, iv q_xk, iv q_ya, iv q_yb, iv q_yk]] = some ((subP (⟨(⟨p_xa, p_xb, p_xk⟩ : N3), (⟨p_ya, p_yb, p_yk⟩ : N3)⟩ : P2) (⟨(⟨q_xa, q_xb, q_xk⟩ : N3), (⟨q_ya, q_yb, q_yk⟩ : N3)⟩ : P2)).av) := by
 simp only [pkP, Bool.and_eq_true] at hp
 obtain ⟨h1, h2⟩ := hp
 refine (show _ = cond (pk (⟨p_xa, p_xb, p_xk⟩ : N3) (⟨q_xa, q_xb, q_xk⟩ : N3)) (cond (pk (⟨p_ya, p_yb, p_yk⟩ : N3) (⟨q_ya, q_yb, q_yk⟩ : N3)) (some (subP (⟨(⟨p_xa, p_xb, p_xk⟩ : N3), (⟨p_ya, p_yb, p_yk⟩ : N3)⟩ : P2) (⟨(⟨q_xa, q_xb, q_xk⟩ : N3), (⟨q_ya, q_yb, q_yk⟩ : N3)⟩ : P2)).av) none) none from by kernel_rfl).trans ?_
 rw [h1, h2]
 rfl
theorem m68 : MT 68 s68 := by
 refine meetsN mix0 glv G31 Tryz.func68 (by kernel_rfl) (by kernel_rfl) s68 fun args x h => ?_
 unfold s68 at h
 split at h
 ·rename_i p_xa p_xb p_xk p_ya p_yb p_yk q_xa q_xb q_xk q_ya q_yb q_yk
  obtain ⟨hp, rfl⟩ := sm_inj h
  exact ⟨_, _, by kernel_rfl, e68 p_xa p_xb p_xk p_ya p_yb p_yk q_xa q_xb q_xk q_ya q_yb q_yk hp⟩
 ·cases h
abbrev Γ32 : LC := (68, s68) :: Γ31
theorem G32 : SD Γ32 := G31.cons m68
-- spec.l02Dot
def s70 : Ctr := fun
 | [iv d, .agg [iv p_xa, iv p_xb, iv p_xk, iv p_ya, iv p_yb, iv p_yk]] => some (inB d 0 15 && pkD (vecP d) (⟨(⟨p_xa, p_xb, p_xk⟩ : N3), (⟨p_ya, p_yb, p_yk⟩ : N3)⟩ : P2), (dotF (vecP d) (⟨(⟨p_xa, p_xb, p_xk⟩ : N3), (⟨p_ya, p_yb, p_yk⟩ : N3)⟩ : P2)).av)
 | _ => none
theorem e70 (d : Int) (p_xa : Int) (p_xb : Int) (p_xk : Int) (p_ya : Int) (p_yb : Int) (p_yk : Int) (hp : (inB d 0 15 && pkD (vecP d) (⟨(⟨p_xa, p_xb, p_xk⟩ : N3), (⟨p_ya, p_yb, p_yk⟩ : N3)⟩ : P2)) = true) : evN Tryz.prog GLv Γ32 (0) []  Tryz.f70 [iv d, .agg [iv p_xa, iv p_xb, iv p_xk, iv p_ya, iv p_yb, iv p_yk]] = some ((dotF (vecP d) (⟨(⟨p_xa, p_xb, p_xk⟩ : N3), (⟨p_ya, p_yb, p_yk⟩ : N3)⟩ : P2)).av) := by
 simp only [pkD, Bool.and_eq_true] at hp
 obtain ⟨h0, h1, h2, h3⟩ := hp
 refine (show _ = cond (inB d 0 15) (cond (pkm (vecP d).x (⟨p_xa, p_xb, p_xk⟩ : N3)) (cond (pkm (vecP d).y (⟨p_ya, p_yb, p_yk⟩ : N3)) (cond (pk (mulF (vecP d).x (⟨p_xa, p_xb, p_xk⟩ : N3)) (mulF (vecP d).y (⟨p_ya, p_yb, p_yk⟩ : N3))) (some (dotF (vecP d) (⟨(⟨p_xa, p_xb, p_xk⟩ : N3), (⟨p_ya, p_yb, p_yk⟩ : N3)⟩ : P2)).av) none) none) none) none from by kernel_rfl).trans ?_
 rw [h0, h1, h2, h3]
 rfl
theorem m70 : MT 70 s70 := by
 refine meetsN mix0 glv G32 Tryz.func70 (by kernel_rfl) (by kernel_rfl) s70 fun args x h => ?_
 unfold s70 at h
 split at h
 ·rename_i d p_xa p_xb p_xk p_ya p_yb p_yk
  obtain ⟨hp, rfl⟩ := sm_inj h
  exact ⟨_, _, by kernel_rfl, e70 d p_xa p_xb p_xk p_ya p_yb p_yk hp⟩
 ·cases h
abbrev Γ33 : LC := (70, s70) :: Γ32
theorem G33 : SD Γ33 := G32.cons m70
-- spec.l02Meet
def s139 : Ctr := fun
 | [.agg [iv l_d, iv l_a, iv l_b, iv l_k], .agg [iv m_d, iv m_a, iv m_b, iv m_k]] => some ((inB l_d 0 7 && inB m_d 0 7) && ((!(l_d == m_d)) && (validB (⟨l_a, l_b, l_k⟩ : N3) && validB (⟨m_a, m_b, m_k⟩ : N3))), (mtP l_d m_d (⟨l_a, l_b, l_k⟩ : N3) (⟨m_a, m_b, m_k⟩ : N3)).av)
 | _ => none
theorem e139 (l_d : Int) (l_a : Int) (l_b : Int) (l_k : Int) (m_d : Int) (m_a : Int) (m_b : Int) (m_k : Int) (hp : ((inB l_d 0 7 && inB m_d 0 7) && ((!(l_d == m_d)) && (validB (⟨l_a, l_b, l_k⟩ : N3) && validB (⟨m_a, m_b, m_k⟩ : N3)))) = true) : evN Tryz.prog GLv Γ33 (0) []  Tryz.f139 [.agg [iv l_d, iv l_a, iv l_b, iv l_k], .agg [iv m_d, iv m_a, iv m_b, iv m_k]] = some ((mtP l_d m_d (⟨l_a, l_b, l_k⟩ : N3) (⟨m_a, m_b, m_k⟩ : N3)).av) := by
 simp only [Bool.and_eq_true, Bool.not_eq_true'] at hp
 obtain ⟨⟨h1, h2⟩, h3, h4, h5⟩ := hp
 obtain ⟨c0, ⟨c1, c2, c3, c4, c5⟩, ⟨c6, c7, c8, c9, c10⟩, _⟩ := meet_ok h1 h2 h3 h4 h5
 have w1 := nrm_in h1
 have w2 := nrm_in h2
 have hc := c0
 unfold pkC at hc
 simp only [Bool.and_eq_true] at hc
 obtain ⟨k1, k2, k3⟩ := hc
 refine (show _ = cond (inB (wr (l_d + 4)) 0 15) (cond (inB (wr (m_d + 4)) 0 15) (cond (pkm (nrm l_d).x (nrm m_d).y) (cond (pkm (nrm l_d).y (nrm m_d).x) (cond (pk (mulF (nrm l_d).x (nrm m_d).y) (mulF (nrm l_d).y (nrm m_d).x)) (cond (pkm (⟨l_a, l_b, l_k⟩ : N3) (nrm m_d).y) (cond (pkm (⟨m_a, m_b, m_k⟩ : N3) (nrm l_d).y) (cond (pk (mulF (⟨l_a, l_b, l_k⟩ : N3) (nrm m_d).y) (mulF (⟨m_a, m_b, m_k⟩ : N3) (nrm l_d).y)) (cond (dvP (mtX l_d m_d (⟨l_a, l_b, l_k⟩ : N3) (⟨m_a, m_b, m_k⟩ : N3)) (crsF (nrm l_d) (nrm m_d))) (cond (pkm (⟨m_a, m_b, m_k⟩ : N3) (nrm l_d).x) (cond (pkm (⟨l_a, l_b, l_k⟩ : N3) (nrm m_d).x) (cond (pk (mulF (⟨m_a, m_b, m_k⟩ : N3) (nrm l_d).x) (mulF (⟨l_a, l_b, l_k⟩ : N3) (nrm m_d).x)) (cond (dvP (mtY l_d m_d (⟨l_a, l_b, l_k⟩ : N3) (⟨m_a, m_b, m_k⟩ : N3)) (crsF (nrm l_d) (nrm m_d))) (some (mtP l_d m_d (⟨l_a, l_b, l_k⟩ : N3) (⟨m_a, m_b, m_k⟩ : N3)).av) none) none) none) none) none) none) none) none) none) none) none) none) none from by kernel_rfl).trans ?_
 rw [w1, w2, k1, k2, k3, c1, c2, c3, c4, c6, c7, c8, c9]
 rfl
theorem m139 : MT 139 s139 := by
 refine meetsN mix0 glv G33 Tryz.func139 (by kernel_rfl) (by kernel_rfl) s139 fun args x h => ?_
 unfold s139 at h
 split at h
 ·rename_i l_d l_a l_b l_k m_d m_a m_b m_k
  obtain ⟨hp, rfl⟩ := sm_inj h
  exact ⟨_, _, by kernel_rfl, e139 l_d l_a l_b l_k m_d m_a m_b m_k hp⟩
 ·cases h
abbrev Γ34 : LC := (139, s139) :: Γ33
theorem G34 : SD Γ34 := G33.cons m139
end Go.Proofs.YtlcopddgplbdhaaGreatDoor
