/- Contracts of the program's functions, by the evaluator. -/
import Derived.Test.YtgcmdnfchhkckaaDoorProg
import Derived.Test.YtgcmdnfchhkckaaDoorNumF
namespace Go.Proofs.YtgcmdnfchhkckaaDoor
open Go.Ev
set_option linter.unusedVariables false
set_option linter.unusedSimpArgs false
set_option maxRecDepth 100000

def GLv : Nat → AV := fun g => match Nat.beq g 0 with
  | true => .eptr [iv (1), iv (0), iv (0), iv (0), iv (0), iv (0), iv (1), iv (0), iv (0), iv (-1), iv (1), iv (0), iv (1), iv (0), iv (0), iv (1), iv (0), iv (0), iv (-1), iv (1), iv (0), iv (1), iv (0), iv (0), iv (0), iv (0), iv (0), iv (1), iv (0), iv (0), iv (1), iv (-1), iv (0), iv (1), iv (0), iv (0), iv (-1), iv (0), iv (0), iv (1), iv (0), iv (0), iv (-1), iv (0), iv (0), iv (-1), iv (1), iv (0)]
  | false => .non
theorem glv : ∀ g' g k, GLv g' ≠ .ref g k := fun g' g k => by
  unfold GLv
  split <;> (intro h; cases h)

theorem mix0 : Tryd.prog.follows .mixedOrders = true := by kernel_rfl
abbrev Γ0 : List (Nat × Ctr) := []
theorem G0 : Sound Tryd.prog GLv Γ0 := Sound.nil

-- impl.within
def s33 : Ctr := fun
  | [.val (.int .i64 x), .val (.int .i64 lo), .val (.int .i64 hi)] => some (true, bv (inB x lo hi))
  | _ => none

theorem e33 (x : Int) (lo : Int) (hi : Int) : evN Tryd.prog GLv Γ0 (0) [] Tryd.f33 [.val (.int .i64 x), .val (.int .i64 lo), .val (.int .i64 hi)] = some (bv (inB x lo hi)) := by
  refine (show _ = cond (decide (x ≥ lo)) ( some (bv (decide (x ≤ hi))) ) ( some (bv (false)) ) from by kernel_rfl).trans ?_
  simp only [inB]
  cases decide (x ≥ lo) <;> rfl
theorem m33 : Meets Tryd.prog GLv 33 s33 := by
  refine meetsN mix0 glv G0 Tryd.func33 (by kernel_rfl) (by kernel_rfl) s33 fun args x h => ?_
  unfold s33 at h
  split at h
  · rename_i x lo hi
    simp only [Option.some.injEq, Prod.mk.injEq] at h
    obtain ⟨hp, rfl⟩ := h
    exact ⟨_, _, by kernel_rfl, e33 x lo hi⟩
  · cases h
abbrev Γ1 : List (Nat × Ctr) := (33, s33) :: Γ0
theorem G1 : Sound Tryd.prog GLv Γ1 := G0.cons m33

-- spec.l00In
def s21 : Ctr := fun
  | [.val (.int .i64 x), .val (.int .i64 lo), .val (.int .i64 hi)] => some (true, bv (inB x lo hi))
  | _ => none

theorem e21 (x : Int) (lo : Int) (hi : Int) : evN Tryd.prog GLv Γ1 (0) [] Tryd.f21 [.val (.int .i64 x), .val (.int .i64 lo), .val (.int .i64 hi)] = some (bv (inB x lo hi)) := by
  refine (show _ = cond (decide (x ≥ lo)) ( some (bv (decide (x ≤ hi))) ) ( some (bv (false)) ) from by kernel_rfl).trans ?_
  simp only [inB]
  cases decide (x ≥ lo) <;> rfl
theorem m21 : Meets Tryd.prog GLv 21 s21 := by
  refine meetsN mix0 glv G1 Tryd.func21 (by kernel_rfl) (by kernel_rfl) s21 fun args x h => ?_
  unfold s21 at h
  split at h
  · rename_i x lo hi
    simp only [Option.some.injEq, Prod.mk.injEq] at h
    obtain ⟨hp, rfl⟩ := h
    exact ⟨_, _, by kernel_rfl, e21 x lo hi⟩
  · cases h
abbrev Γ2 : List (Nat × Ctr) := (21, s21) :: Γ1
theorem G2 : Sound Tryd.prog GLv Γ2 := G1.cons m21

-- (impl.Num).reduced
def s49 : Ctr := fun
  | [.agg [.val (.int .i64 x_a), .val (.int .i64 x_b), .val (.int .i64 x_k)]] => some (kB x_k, (red (⟨x_a, x_b, x_k⟩ : N3)).av)
  | _ => none

theorem r49_step (K n : Nat) (a b k : Int) : runL Tryd.prog GLv Γ2 K [false, true, true] Tryd.f49 0 (n + 1) (stL Tryd.f49.ntmps [.non, .own 28 [iv (a), iv (b), iv (k)], .own 28 [iv 0, iv 0, iv 0]]) = cond (decide (k > 0)) (cond (and64 a 1 == 0) (cond (and64 b 1 == 0) (cond (wr (a.tdiv 2) == 0) (cond (wr (b.tdiv 2) == 0) (runL Tryd.prog GLv Γ2 K [false, true, true] Tryd.f49 0 n (stL Tryd.f49.ntmps [.non, .own 28 [iv (wr (a.tdiv 2)), iv (wr (b.tdiv 2)), iv (0)], .own 28 [iv 0, iv 0, iv 0]])) (runL Tryd.prog GLv Γ2 K [false, true, true] Tryd.f49 0 n (stL Tryd.f49.ntmps [.non, .own 28 [iv (wr (a.tdiv 2)), iv (wr (b.tdiv 2)), iv (wr (k - 1))], .own 28 [iv 0, iv 0, iv 0]]))) (runL Tryd.prog GLv Γ2 K [false, true, true] Tryd.f49 0 n (stL Tryd.f49.ntmps [.non, .own 28 [iv (wr (a.tdiv 2)), iv (wr (b.tdiv 2)), iv (wr (k - 1))], .own 28 [iv 0, iv 0, iv 0]]))) (some (⟨a, b, k⟩ : N3).av)) (some (⟨a, b, k⟩ : N3).av)) (some (⟨a, b, k⟩ : N3).av) := by kernel_rfl
theorem r49_run (K : Nat) : ∀ (m : Nat) (a b k : Int) (n : Nat), 0 ≤ k → k ≤ 1152921504606846976 → k.toNat ≤ m → m < n → runL Tryd.prog GLv Γ2 K [false, true, true] Tryd.f49 0 n (stL Tryd.f49.ntmps [.non, .own 28 [iv (a), iv (b), iv (k)], .own 28 [iv 0, iv 0, iv 0]]) = some (redF (m + 1) a b k).av := by
  intro m
  induction m with
  | zero =>
    intro a b k n h0 h1 h2 h3
    obtain ⟨n, rfl⟩ : ∃ n', n = n' + 1 := ⟨n - 1, by omega⟩
    have hk : ¬ k > 0 := by omega
    rw [r49_step, redF_succ, if_neg (fun h => hk h.1)]
    simp only [hk, decide_false, cond_false]
  | succ m ih =>
    intro a b k n h0 h1 h2 h3
    obtain ⟨n, rfl⟩ : ∃ n', n = n' + 1 := ⟨n - 1, by omega⟩
    rw [r49_step, redF_succ]
    rw [and64_one, and64_one]
    have ea : ((a % 2 == 0) = !odd a) := odd_zero a
    have eb : ((b % 2 == 0) = !odd b) := odd_zero b
    rw [ea, eb]
    by_cases hk : k > 0
    · have hw : wr (k - 1) = k - 1 := wr_in (by omega) (by omega)
      cases ha : odd a with
      | true => rw [if_neg (fun h => by cases h.2.1)]; simp [hk]
      | false =>
        cases hb : odd b with
        | true => rw [if_neg (fun h => by cases h.2.2)]; simp [hk]
        | false =>
          rw [if_pos ⟨hk, rfl, rfl⟩]
          simp only [hk, decide_true, cond_true, Bool.not_false]
          rw [hw, ih _ _ _ _ (by omega) (by omega) (by omega) (by omega), ih _ _ _ _ (by omega) (by omega) (by omega) (by omega)]
          by_cases hz1 : wr (a.tdiv 2) = 0
          · by_cases hz2 : wr (b.tdiv 2) = 0
            · simp [hz1, hz2]
            · have e2 : (wr (b.tdiv 2) == 0) = false := by simpa using hz2
              simp [hz1, hz2, e2]
          · have e1 : (wr (a.tdiv 2) == 0) = false := by simpa using hz1
            simp [hz1, e1]
    · rw [if_neg (fun h => hk h.1)]; simp [hk]
theorem e49 (x_a : Int) (x_b : Int) (x_k : Int) (hp : (kB x_k) = true) : evN Tryd.prog GLv Γ2 (x_k.toNat + 1) [false, true, true] Tryd.f49 [.agg [.val (.int .i64 x_a), .val (.int .i64 x_b), .val (.int .i64 x_k)]] = some ((red (⟨x_a, x_b, x_k⟩ : N3)).av) := by
  exact (show _ = _ from by kernel_rfl).trans (r49_run (x_k.toNat + 1) x_k.toNat x_a x_b x_k (x_k.toNat + 1) (kB_iff.1 hp).1 (kB_iff.1 hp).2 (Nat.le_refl _) (Nat.lt_succ_self _))
theorem m49 : Meets Tryd.prog GLv 49 s49 := by
  refine meetsN mix0 glv G2 Tryd.func49 (by kernel_rfl) (by kernel_rfl) s49 fun args x h => ?_
  unfold s49 at h
  split at h
  · rename_i x_a x_b x_k
    simp only [Option.some.injEq, Prod.mk.injEq] at h
    obtain ⟨hp, rfl⟩ := h
    exact ⟨_, _, by kernel_rfl, e49 x_a x_b x_k hp⟩
  · cases h
abbrev Γ3 : List (Nat × Ctr) := (49, s49) :: Γ2
theorem G3 : Sound Tryd.prog GLv Γ3 := G2.cons m49

-- spec.l01Low
def s43 : Ctr := fun
  | [.agg [.val (.int .i64 x_a), .val (.int .i64 x_b), .val (.int .i64 x_k)]] => some (kB x_k, (red (⟨x_a, x_b, x_k⟩ : N3)).av)
  | _ => none

theorem r43_step (K n : Nat) (a b k : Int) : runL Tryd.prog GLv Γ3 K [false, true, true] Tryd.f43 0 (n + 1) (stL Tryd.f43.ntmps [.non, .own 43 [iv (a), iv (b), iv (k)], .own 43 [iv 0, iv 0, iv 0]]) = cond (decide (k > 0)) (cond (a.tmod 2 == 0) (cond (b.tmod 2 == 0) (runL Tryd.prog GLv Γ3 K [false, true, true] Tryd.f43 0 n (stL Tryd.f43.ntmps [.non, .own 43 [iv (wr (a.tdiv 2)), iv (wr (b.tdiv 2)), iv (wr (k - 1))], .own 43 [iv 0, iv 0, iv 0]])) (some (⟨a, b, k⟩ : N3).av)) (some (⟨a, b, k⟩ : N3).av)) (some (⟨a, b, k⟩ : N3).av) := by kernel_rfl
theorem r43_run (K : Nat) : ∀ (m : Nat) (a b k : Int) (n : Nat), 0 ≤ k → k ≤ 1152921504606846976 → k.toNat ≤ m → m < n → runL Tryd.prog GLv Γ3 K [false, true, true] Tryd.f43 0 n (stL Tryd.f43.ntmps [.non, .own 43 [iv (a), iv (b), iv (k)], .own 43 [iv 0, iv 0, iv 0]]) = some (redF (m + 1) a b k).av := by
  intro m
  induction m with
  | zero =>
    intro a b k n h0 h1 h2 h3
    obtain ⟨n, rfl⟩ : ∃ n', n = n' + 1 := ⟨n - 1, by omega⟩
    have hk : ¬ k > 0 := by omega
    rw [r43_step, redF_succ, if_neg (fun h => hk h.1)]
    simp only [hk, decide_false, cond_false]
  | succ m ih =>
    intro a b k n h0 h1 h2 h3
    obtain ⟨n, rfl⟩ : ∃ n', n = n' + 1 := ⟨n - 1, by omega⟩
    rw [r43_step, redF_succ]
    rw [tmod_zero, tmod_zero]
    by_cases hk : k > 0
    · have hw : wr (k - 1) = k - 1 := wr_in (by omega) (by omega)
      cases ha : odd a with
      | true => rw [if_neg (fun h => by cases h.2.1)]; simp [hk]
      | false =>
        cases hb : odd b with
        | true => rw [if_neg (fun h => by cases h.2.2)]; simp [hk]
        | false =>
          rw [if_pos ⟨hk, rfl, rfl⟩]
          simp only [hk, decide_true, cond_true, Bool.not_false]
          rw [hw, ih _ _ _ _ (by omega) (by omega) (by omega) (by omega)]
          by_cases hz : wr (a.tdiv 2) = 0 ∧ wr (b.tdiv 2) = 0
          · rw [if_pos hz, hz.1, hz.2, redF_zero m _ (by omega), redF_zero m _ (by omega)]
            have e : (if k - 1 > 0 then (0 : Int) else k - 1) = 0 := by split <;> omega
            rw [e]
            rfl
          · rw [if_neg hz]
    · rw [if_neg (fun h => hk h.1)]; simp [hk]
theorem e43 (x_a : Int) (x_b : Int) (x_k : Int) (hp : (kB x_k) = true) : evN Tryd.prog GLv Γ3 (x_k.toNat + 1) [false, true, true] Tryd.f43 [.agg [.val (.int .i64 x_a), .val (.int .i64 x_b), .val (.int .i64 x_k)]] = some ((red (⟨x_a, x_b, x_k⟩ : N3)).av) := by
  refine (show _ = cond (x_a == 0) (cond (x_b == 0) (some z3.av) (runL Tryd.prog GLv Γ3 (x_k.toNat + 1) [false, true, true] Tryd.f43 0 (x_k.toNat + 1) (stL Tryd.f43.ntmps [.non, .own 43 [iv (x_a), iv (x_b), iv (x_k)], .own 43 [iv 0, iv 0, iv 0]]))) (runL Tryd.prog GLv Γ3 (x_k.toNat + 1) [false, true, true] Tryd.f43 0 (x_k.toNat + 1) (stL Tryd.f43.ntmps [.non, .own 43 [iv (x_a), iv (x_b), iv (x_k)], .own 43 [iv 0, iv 0, iv 0]])) from by kernel_rfl).trans ?_
  rw [r43_run (x_k.toNat + 1) x_k.toNat x_a x_b x_k (x_k.toNat + 1) (kB_iff.1 hp).1 (kB_iff.1 hp).2 (Nat.le_refl _) (Nat.lt_succ_self _)]
  by_cases ha : x_a = 0
  · by_cases hb : x_b = 0
    · subst ha hb
      have := redF_zero x_k.toNat x_k (Nat.le_refl _)
      have hk := (kB_iff.1 hp).1
      have e : (if x_k > 0 then 0 else x_k) = 0 := by split <;> omega
      rw [e] at this
      simp only [red, this]
      rfl
    · have e2 : (x_b == 0) = false := by simpa using hb
      simp only [e2, cond_false, red]
      cases (x_a == 0) <;> rfl
  · have e1 : (x_a == 0) = false := by simpa using ha
    simp only [e1, cond_false, red]
theorem m43 : Meets Tryd.prog GLv 43 s43 := by
  refine meetsN mix0 glv G3 Tryd.func43 (by kernel_rfl) (by kernel_rfl) s43 fun args x h => ?_
  unfold s43 at h
  split at h
  · rename_i x_a x_b x_k
    simp only [Option.some.injEq, Prod.mk.injEq] at h
    obtain ⟨hp, rfl⟩ := h
    exact ⟨_, _, by kernel_rfl, e43 x_a x_b x_k hp⟩
  · cases h
abbrev Γ4 : List (Nat × Ctr) := (43, s43) :: Γ3
theorem G4 : Sound Tryd.prog GLv Γ4 := G3.cons m43

-- (impl.Num).neg
def s47 : Ctr := fun
  | [.agg [.val (.int .i64 x_a), .val (.int .i64 x_b), .val (.int .i64 x_k)]] => some (true, (negF (⟨x_a, x_b, x_k⟩ : N3)).av)
  | _ => none

theorem e47 (x_a : Int) (x_b : Int) (x_k : Int) : evN Tryd.prog GLv Γ4 (0) [] Tryd.f47 [.agg [.val (.int .i64 x_a), .val (.int .i64 x_b), .val (.int .i64 x_k)]] = some ((negF (⟨x_a, x_b, x_k⟩ : N3)).av) := by
  kernel_rfl
theorem m47 : Meets Tryd.prog GLv 47 s47 := by
  refine meetsN mix0 glv G4 Tryd.func47 (by kernel_rfl) (by kernel_rfl) s47 fun args x h => ?_
  unfold s47 at h
  split at h
  · rename_i x_a x_b x_k
    simp only [Option.some.injEq, Prod.mk.injEq] at h
    obtain ⟨hp, rfl⟩ := h
    exact ⟨_, _, by kernel_rfl, e47 x_a x_b x_k⟩
  · cases h
abbrev Γ5 : List (Nat × Ctr) := (47, s47) :: Γ4
theorem G5 : Sound Tryd.prog GLv Γ5 := G4.cons m47

-- spec.l01Neg
def s45 : Ctr := fun
  | [.agg [.val (.int .i64 x_a), .val (.int .i64 x_b), .val (.int .i64 x_k)]] => some (true, (negF (⟨x_a, x_b, x_k⟩ : N3)).av)
  | _ => none

theorem e45 (x_a : Int) (x_b : Int) (x_k : Int) : evN Tryd.prog GLv Γ5 (0) [] Tryd.f45 [.agg [.val (.int .i64 x_a), .val (.int .i64 x_b), .val (.int .i64 x_k)]] = some ((negF (⟨x_a, x_b, x_k⟩ : N3)).av) := by
  kernel_rfl
theorem m45 : Meets Tryd.prog GLv 45 s45 := by
  refine meetsN mix0 glv G5 Tryd.func45 (by kernel_rfl) (by kernel_rfl) s45 fun args x h => ?_
  unfold s45 at h
  split at h
  · rename_i x_a x_b x_k
    simp only [Option.some.injEq, Prod.mk.injEq] at h
    obtain ⟨hp, rfl⟩ := h
    exact ⟨_, _, by kernel_rfl, e45 x_a x_b x_k⟩
  · cases h
abbrev Γ6 : List (Nat × Ctr) := (45, s45) :: Γ5
theorem G6 : Sound Tryd.prog GLv Γ6 := G5.cons m45

-- (impl.Num).times
def s48 : Ctr := fun
  | [.agg [.val (.int .i64 x_a), .val (.int .i64 x_b), .val (.int .i64 x_k)], .agg [.val (.int .i64 y_a), .val (.int .i64 y_b), .val (.int .i64 y_k)]] => some (pkm (⟨x_a, x_b, x_k⟩ : N3) (⟨y_a, y_b, y_k⟩ : N3), (mulF (⟨x_a, x_b, x_k⟩ : N3) (⟨y_a, y_b, y_k⟩ : N3)).av)
  | _ => none

theorem e48 (x_a : Int) (x_b : Int) (x_k : Int) (y_a : Int) (y_b : Int) (y_k : Int) (hp : (pkm (⟨x_a, x_b, x_k⟩ : N3) (⟨y_a, y_b, y_k⟩ : N3)) = true) : evN Tryd.prog GLv Γ6 (0) [] Tryd.f48 [.agg [.val (.int .i64 x_a), .val (.int .i64 x_b), .val (.int .i64 x_k)], .agg [.val (.int .i64 y_a), .val (.int .i64 y_b), .val (.int .i64 y_k)]] = some ((mulF (⟨x_a, x_b, x_k⟩ : N3) (⟨y_a, y_b, y_k⟩ : N3)).av) := by
  refine (show _ = cond (kB (wr (x_k + y_k))) (some (mulF (⟨x_a, x_b, x_k⟩ : N3) (⟨y_a, y_b, y_k⟩ : N3)).av) none from by kernel_rfl).trans ?_
  have := pkm_kB hp
  simp only at this
  rw [this]
  rfl
theorem m48 : Meets Tryd.prog GLv 48 s48 := by
  refine meetsN mix0 glv G6 Tryd.func48 (by kernel_rfl) (by kernel_rfl) s48 fun args x h => ?_
  unfold s48 at h
  split at h
  · rename_i x_a x_b x_k y_a y_b y_k
    simp only [Option.some.injEq, Prod.mk.injEq] at h
    obtain ⟨hp, rfl⟩ := h
    exact ⟨_, _, by kernel_rfl, e48 x_a x_b x_k y_a y_b y_k hp⟩
  · cases h
abbrev Γ7 : List (Nat × Ctr) := (48, s48) :: Γ6
theorem G7 : Sound Tryd.prog GLv Γ7 := G6.cons m48

-- spec.l01Mul
def s31 : Ctr := fun
  | [.agg [.val (.int .i64 x_a), .val (.int .i64 x_b), .val (.int .i64 x_k)], .agg [.val (.int .i64 y_a), .val (.int .i64 y_b), .val (.int .i64 y_k)]] => some (pkm (⟨x_a, x_b, x_k⟩ : N3) (⟨y_a, y_b, y_k⟩ : N3), (mulF (⟨x_a, x_b, x_k⟩ : N3) (⟨y_a, y_b, y_k⟩ : N3)).av)
  | _ => none

theorem e31 (x_a : Int) (x_b : Int) (x_k : Int) (y_a : Int) (y_b : Int) (y_k : Int) (hp : (pkm (⟨x_a, x_b, x_k⟩ : N3) (⟨y_a, y_b, y_k⟩ : N3)) = true) : evN Tryd.prog GLv Γ7 (0) [] Tryd.f31 [.agg [.val (.int .i64 x_a), .val (.int .i64 x_b), .val (.int .i64 x_k)], .agg [.val (.int .i64 y_a), .val (.int .i64 y_b), .val (.int .i64 y_k)]] = some ((mulF (⟨x_a, x_b, x_k⟩ : N3) (⟨y_a, y_b, y_k⟩ : N3)).av) := by
  refine (show _ = cond (kB (wr (x_k + y_k))) (some (mulF (⟨x_a, x_b, x_k⟩ : N3) (⟨y_a, y_b, y_k⟩ : N3)).av) none from by kernel_rfl).trans ?_
  have := pkm_kB hp
  simp only at this
  rw [this]
  rfl
theorem m31 : Meets Tryd.prog GLv 31 s31 := by
  refine meetsN mix0 glv G7 Tryd.func31 (by kernel_rfl) (by kernel_rfl) s31 fun args x h => ?_
  unfold s31 at h
  split at h
  · rename_i x_a x_b x_k y_a y_b y_k
    simp only [Option.some.injEq, Prod.mk.injEq] at h
    obtain ⟨hp, rfl⟩ := h
    exact ⟨_, _, by kernel_rfl, e31 x_a x_b x_k y_a y_b y_k hp⟩
  · cases h
abbrev Γ8 : List (Nat × Ctr) := (31, s31) :: Γ7
theorem G8 : Sound Tryd.prog GLv Γ8 := G7.cons m31

-- (impl.Num).plus
def s41 : Ctr := fun
  | [.agg [.val (.int .i64 x_a), .val (.int .i64 x_b), .val (.int .i64 x_k)], .agg [.val (.int .i64 y_a), .val (.int .i64 y_b), .val (.int .i64 y_k)]] => some (pk (⟨x_a, x_b, x_k⟩ : N3) (⟨y_a, y_b, y_k⟩ : N3), (addF (⟨x_a, x_b, x_k⟩ : N3) (⟨y_a, y_b, y_k⟩ : N3)).av)
  | _ => none

theorem e41 (x_a : Int) (x_b : Int) (x_k : Int) (y_a : Int) (y_b : Int) (y_k : Int) (hp : (pk (⟨x_a, x_b, x_k⟩ : N3) (⟨y_a, y_b, y_k⟩ : N3)) = true) : evN Tryd.prog GLv Γ8 (0) [] Tryd.f41 [.agg [.val (.int .i64 x_a), .val (.int .i64 x_b), .val (.int .i64 x_k)], .agg [.val (.int .i64 y_a), .val (.int .i64 y_b), .val (.int .i64 y_k)]] = some ((addF (⟨x_a, x_b, x_k⟩ : N3) (⟨y_a, y_b, y_k⟩ : N3)).av) := by
  obtain ⟨h1, h2, h3⟩ := pk_sh hp
  refine (show _ = cond (decide (0 ≤ wr (gmax x_k y_k - x_k))) (cond (decide (0 ≤ wr (gmax x_k y_k - y_k))) (cond (decide (0 ≤ wr (gmax x_k y_k - x_k))) (cond (decide (0 ≤ wr (gmax x_k y_k - y_k))) (cond (kB (gmax x_k y_k)) (some (addF (⟨x_a, x_b, x_k⟩ : N3) (⟨y_a, y_b, y_k⟩ : N3)).av) none) none) none) none) none from by kernel_rfl).trans ?_
  simp only at h1 h2 h3
  rw [h1, h2, h3]
  rfl
theorem m41 : Meets Tryd.prog GLv 41 s41 := by
  refine meetsN mix0 glv G8 Tryd.func41 (by kernel_rfl) (by kernel_rfl) s41 fun args x h => ?_
  unfold s41 at h
  split at h
  · rename_i x_a x_b x_k y_a y_b y_k
    simp only [Option.some.injEq, Prod.mk.injEq] at h
    obtain ⟨hp, rfl⟩ := h
    exact ⟨_, _, by kernel_rfl, e41 x_a x_b x_k y_a y_b y_k hp⟩
  · cases h
abbrev Γ9 : List (Nat × Ctr) := (41, s41) :: Γ8
theorem G9 : Sound Tryd.prog GLv Γ9 := G8.cons m41

-- spec.l01Add
def s29 : Ctr := fun
  | [.agg [.val (.int .i64 x_a), .val (.int .i64 x_b), .val (.int .i64 x_k)], .agg [.val (.int .i64 y_a), .val (.int .i64 y_b), .val (.int .i64 y_k)]] => some (pk (⟨x_a, x_b, x_k⟩ : N3) (⟨y_a, y_b, y_k⟩ : N3), (addF (⟨x_a, x_b, x_k⟩ : N3) (⟨y_a, y_b, y_k⟩ : N3)).av)
  | _ => none

theorem r29_step0 (K n : Nat) (a b k c d l : Int) : runL Tryd.prog GLv Γ9 K [false, false, true, true, true] Tryd.f29 0 (n + 1) (stL Tryd.f29.ntmps [.non, .non, .own 43 [iv (a), iv (b), iv (k)], .own 43 [iv (c), iv (d), iv (l)], .own 43 [iv 0, iv 0, iv 0]]) = cond (decide (k < l)) (runL Tryd.prog GLv Γ9 K [false, false, true, true, true] Tryd.f29 0 n (stL Tryd.f29.ntmps [.non, .non, .own 43 [iv (wr (a * 2)), iv (wr (b * 2)), iv (wr (k + 1))], .own 43 [iv (c), iv (d), iv (l)], .own 43 [iv 0, iv 0, iv 0]])) (runL Tryd.prog GLv Γ9 K [false, false, true, true, true] Tryd.f29 1 K (stL Tryd.f29.ntmps [.non, .non, .own 43 [iv (a), iv (b), iv (k)], .own 43 [iv (c), iv (d), iv (l)], .own 43 [iv 0, iv 0, iv 0]])) := by kernel_rfl
theorem r29_step1 (K n : Nat) (a b k c d l : Int) : runL Tryd.prog GLv Γ9 K [false, false, true, true, true] Tryd.f29 1 (n + 1) (stL Tryd.f29.ntmps [.non, .non, .own 43 [iv (a), iv (b), iv (k)], .own 43 [iv (c), iv (d), iv (l)], .own 43 [iv 0, iv 0, iv 0]]) = cond (decide (l < k)) (runL Tryd.prog GLv Γ9 K [false, false, true, true, true] Tryd.f29 1 n (stL Tryd.f29.ntmps [.non, .non, .own 43 [iv (a), iv (b), iv (k)], .own 43 [iv (wr (c * 2)), iv (wr (d * 2)), iv (wr (l + 1))], .own 43 [iv 0, iv 0, iv 0]])) (cond (kB k) (some (red ⟨wr (a + c), wr (b + d), k⟩).av) none) := by kernel_rfl
theorem r29_run1 (K : Nat) : ∀ (m : Nat) (a b k c d l : Int) (n : Nat), kB k = true → 0 ≤ l → (k - l).toNat = m → m < n →
    runL Tryd.prog GLv Γ9 K [false, false, true, true, true] Tryd.f29 1 n (stL Tryd.f29.ntmps [.non, .non, .own 43 [iv (a), iv (b), iv (k)], .own 43 [iv (c), iv (d), iv (l)], .own 43 [iv 0, iv 0, iv 0]]) = some (red ⟨wr (a + dblI m c), wr (b + dblI m d), k⟩).av := by
  intro m
  induction m with
  | zero =>
    intro a b k c d l n hk hl h0 hn
    obtain ⟨n, rfl⟩ : ∃ n', n = n' + 1 := ⟨n - 1, by omega⟩
    have : decide (l < k) = false := by simp; omega
    rw [r29_step1, this, hk]
    rfl
  | succ m ih =>
    intro a b k c d l n hk hl h0 hn
    obtain ⟨n, rfl⟩ : ∃ n', n = n' + 1 := ⟨n - 1, by omega⟩
    have : decide (l < k) = true := by simp; omega
    have hk' := kB_iff.1 hk
    have hw : wr (l + 1) = l + 1 := wr_in (by omega) (by omega)
    rw [r29_step1, this, cond_true, hw, ih _ _ _ _ _ _ _ hk (by omega) (by omega) (by omega)]
    rfl
theorem r29_run0 (K : Nat) : ∀ (m : Nat) (a b k c d l : Int) (n : Nat), 0 ≤ k → kB l = true → (l - k).toNat = m → m < n →
    runL Tryd.prog GLv Γ9 K [false, false, true, true, true] Tryd.f29 0 n (stL Tryd.f29.ntmps [.non, .non, .own 43 [iv (a), iv (b), iv (k)], .own 43 [iv (c), iv (d), iv (l)], .own 43 [iv 0, iv 0, iv 0]]) = runL Tryd.prog GLv Γ9 K [false, false, true, true, true] Tryd.f29 1 K (stL Tryd.f29.ntmps [.non, .non, .own 43 [iv (dblI m a), iv (dblI m b), iv (k + (m : Int))], .own 43 [iv (c), iv (d), iv (l)], .own 43 [iv 0, iv 0, iv 0]]) := by
  intro m
  induction m with
  | zero =>
    intro a b k c d l n hk hl h0 hn
    obtain ⟨n, rfl⟩ : ∃ n', n = n' + 1 := ⟨n - 1, by omega⟩
    have : decide (k < l) = false := by simp; omega
    rw [r29_step0, this, cond_false]
    simp only [dblI, Int.ofNat_zero, Int.natCast_zero, Int.add_zero]
  | succ m ih =>
    intro a b k c d l n hk hl h0 hn
    obtain ⟨n, rfl⟩ : ∃ n', n = n' + 1 := ⟨n - 1, by omega⟩
    have : decide (k < l) = true := by simp; omega
    have hl' := kB_iff.1 hl
    have hw : wr (k + 1) = k + 1 := wr_in (by omega) (by omega)
    rw [r29_step0, this, cond_true, hw, ih _ _ _ _ _ _ _ (by omega) hl (by omega) (by omega)]
    have e : k + 1 + (m : Int) = k + ((m + 1 : Nat) : Int) := by omega
    rw [e]
    rfl
theorem e29 (x_a : Int) (x_b : Int) (x_k : Int) (y_a : Int) (y_b : Int) (y_k : Int) (hp : (pk (⟨x_a, x_b, x_k⟩ : N3) (⟨y_a, y_b, y_k⟩ : N3)) = true) : evN Tryd.prog GLv Γ9 (x_k.toNat + y_k.toNat + 1) [false, false, true, true, true] Tryd.f29 [.agg [.val (.int .i64 x_a), .val (.int .i64 x_b), .val (.int .i64 x_k)], .agg [.val (.int .i64 y_a), .val (.int .i64 y_b), .val (.int .i64 y_k)]] = some ((addF (⟨x_a, x_b, x_k⟩ : N3) (⟨y_a, y_b, y_k⟩ : N3)).av) := by
  obtain ⟨h1, h2⟩ := pk_iff.1 hp
  simp only at h1 h2
  refine (show _ = runL Tryd.prog GLv Γ9 (x_k.toNat + y_k.toNat + 1) [false, false, true, true, true] Tryd.f29 0 (x_k.toNat + y_k.toNat + 1) (stL Tryd.f29.ntmps [.non, .non, .own 43 [iv (x_a), iv (x_b), iv (x_k)], .own 43 [iv (y_a), iv (y_b), iv (y_k)], .own 43 [iv 0, iv 0, iv 0]]) from by kernel_rfl).trans ?_
  rw [r29_run0 _ (y_k - x_k).toNat _ _ _ _ _ _ _ h1.1 (kB_iff.2 h2) rfl (by omega)]
  rw [r29_run1 _ (x_k - y_k).toNat _ _ _ _ _ _ _ (kB_iff.2 (by omega)) h2.1 (by omega) (by omega)]
  have := addR_dbl hp
  simp only at this
  rw [this]
  rfl
theorem m29 : Meets Tryd.prog GLv 29 s29 := by
  refine meetsN mix0 glv G9 Tryd.func29 (by kernel_rfl) (by kernel_rfl) s29 fun args x h => ?_
  unfold s29 at h
  split at h
  · rename_i x_a x_b x_k y_a y_b y_k
    simp only [Option.some.injEq, Prod.mk.injEq] at h
    obtain ⟨hp, rfl⟩ := h
    exact ⟨_, _, by kernel_rfl, e29 x_a x_b x_k y_a y_b y_k hp⟩
  · cases h
abbrev Γ10 : List (Nat × Ctr) := (29, s29) :: Γ9
theorem G10 : Sound Tryd.prog GLv Γ10 := G9.cons m29

-- (impl.Num).minus
def s36 : Ctr := fun
  | [.agg [.val (.int .i64 x_a), .val (.int .i64 x_b), .val (.int .i64 x_k)], .agg [.val (.int .i64 y_a), .val (.int .i64 y_b), .val (.int .i64 y_k)]] => some (pk (⟨x_a, x_b, x_k⟩ : N3) (⟨y_a, y_b, y_k⟩ : N3), (subF (⟨x_a, x_b, x_k⟩ : N3) (⟨y_a, y_b, y_k⟩ : N3)).av)
  | _ => none

theorem e36 (x_a : Int) (x_b : Int) (x_k : Int) (y_a : Int) (y_b : Int) (y_k : Int) (hp : (pk (⟨x_a, x_b, x_k⟩ : N3) (⟨y_a, y_b, y_k⟩ : N3)) = true) : evN Tryd.prog GLv Γ10 (0) [] Tryd.f36 [.agg [.val (.int .i64 x_a), .val (.int .i64 x_b), .val (.int .i64 x_k)], .agg [.val (.int .i64 y_a), .val (.int .i64 y_b), .val (.int .i64 y_k)]] = some ((subF (⟨x_a, x_b, x_k⟩ : N3) (⟨y_a, y_b, y_k⟩ : N3)).av) := by
  refine (show _ = cond (pk (⟨x_a, x_b, x_k⟩ : N3) (⟨y_a, y_b, y_k⟩ : N3)) (some (subF (⟨x_a, x_b, x_k⟩ : N3) (⟨y_a, y_b, y_k⟩ : N3)).av) none from by kernel_rfl).trans ?_
  rw [hp]
  rfl
theorem m36 : Meets Tryd.prog GLv 36 s36 := by
  refine meetsN mix0 glv G10 Tryd.func36 (by kernel_rfl) (by kernel_rfl) s36 fun args x h => ?_
  unfold s36 at h
  split at h
  · rename_i x_a x_b x_k y_a y_b y_k
    simp only [Option.some.injEq, Prod.mk.injEq] at h
    obtain ⟨hp, rfl⟩ := h
    exact ⟨_, _, by kernel_rfl, e36 x_a x_b x_k y_a y_b y_k hp⟩
  · cases h
abbrev Γ11 : List (Nat × Ctr) := (36, s36) :: Γ10
theorem G11 : Sound Tryd.prog GLv Γ11 := G10.cons m36

-- spec.l01Sub
def s26 : Ctr := fun
  | [.agg [.val (.int .i64 x_a), .val (.int .i64 x_b), .val (.int .i64 x_k)], .agg [.val (.int .i64 y_a), .val (.int .i64 y_b), .val (.int .i64 y_k)]] => some (pk (⟨x_a, x_b, x_k⟩ : N3) (⟨y_a, y_b, y_k⟩ : N3), (subF (⟨x_a, x_b, x_k⟩ : N3) (⟨y_a, y_b, y_k⟩ : N3)).av)
  | _ => none

theorem e26 (x_a : Int) (x_b : Int) (x_k : Int) (y_a : Int) (y_b : Int) (y_k : Int) (hp : (pk (⟨x_a, x_b, x_k⟩ : N3) (⟨y_a, y_b, y_k⟩ : N3)) = true) : evN Tryd.prog GLv Γ11 (0) [] Tryd.f26 [.agg [.val (.int .i64 x_a), .val (.int .i64 x_b), .val (.int .i64 x_k)], .agg [.val (.int .i64 y_a), .val (.int .i64 y_b), .val (.int .i64 y_k)]] = some ((subF (⟨x_a, x_b, x_k⟩ : N3) (⟨y_a, y_b, y_k⟩ : N3)).av) := by
  refine (show _ = cond (pk (⟨x_a, x_b, x_k⟩ : N3) (⟨y_a, y_b, y_k⟩ : N3)) (some (subF (⟨x_a, x_b, x_k⟩ : N3) (⟨y_a, y_b, y_k⟩ : N3)).av) none from by kernel_rfl).trans ?_
  rw [hp]
  rfl
theorem m26 : Meets Tryd.prog GLv 26 s26 := by
  refine meetsN mix0 glv G11 Tryd.func26 (by kernel_rfl) (by kernel_rfl) s26 fun args x h => ?_
  unfold s26 at h
  split at h
  · rename_i x_a x_b x_k y_a y_b y_k
    simp only [Option.some.injEq, Prod.mk.injEq] at h
    obtain ⟨hp, rfl⟩ := h
    exact ⟨_, _, by kernel_rfl, e26 x_a x_b x_k y_a y_b y_k hp⟩
  · cases h
abbrev Γ12 : List (Nat × Ctr) := (26, s26) :: Γ11
theorem G12 : Sound Tryd.prog GLv Γ12 := G11.cons m26

-- impl.ValidNum
def s34 : Ctr := fun
  | [.agg [.val (.int .i64 x_a), .val (.int .i64 x_b), .val (.int .i64 x_k)]] => some (true, bv (validB (⟨x_a, x_b, x_k⟩ : N3)))
  | _ => none

theorem e34 (x_a : Int) (x_b : Int) (x_k : Int) : evN Tryd.prog GLv Γ12 (0) [] Tryd.f34 [.agg [.val (.int .i64 x_a), .val (.int .i64 x_b), .val (.int .i64 x_k)]] = some (bv (validB (⟨x_a, x_b, x_k⟩ : N3))) := by
  refine (show _ = cond (inB x_a (-131072) 131072) ( cond (inB x_b (-131072) 131072) ( cond (inB x_k 0 10) ( cond (x_k == 0) ( some (bv (true)) ) ( cond (IntKind.i64.wrap ↑(BitVec.ofInt 64 x_a &&& BitVec.ofInt 64 1).toNat == 1) ( some (bv (true)) ) ( some (bv (IntKind.i64.wrap ↑(BitVec.ofInt 64 x_b &&& BitVec.ofInt 64 1).toNat == 1)) ) ) ) ( some (bv (false)) ) ) ( some (bv (false)) ) ) ( some (bv (false)) ) from by kernel_rfl).trans ?_
  simp only [validB]
  cases inB x_a (-131072) 131072 <;> cases inB x_b (-131072) 131072 <;> cases inB x_k 0 10 <;> cases (x_k == 0) <;> simp only [cond_true, cond_false, Bool.true_and, Bool.false_and, Bool.true_or, Bool.false_or, and_eq, tmod_ne, odd] <;> (first | rfl | (cases decide (x_a % 2 = 1) <;> rfl))
theorem m34 : Meets Tryd.prog GLv 34 s34 := by
  refine meetsN mix0 glv G12 Tryd.func34 (by kernel_rfl) (by kernel_rfl) s34 fun args x h => ?_
  unfold s34 at h
  split at h
  · rename_i x_a x_b x_k
    simp only [Option.some.injEq, Prod.mk.injEq] at h
    obtain ⟨hp, rfl⟩ := h
    exact ⟨_, _, by kernel_rfl, e34 x_a x_b x_k⟩
  · cases h
abbrev Γ13 : List (Nat × Ctr) := (34, s34) :: Γ12
theorem G13 : Sound Tryd.prog GLv Γ13 := G12.cons m34

-- spec.l01Ok
def s22 : Ctr := fun
  | [.agg [.val (.int .i64 x_a), .val (.int .i64 x_b), .val (.int .i64 x_k)]] => some (true, bv (validB (⟨x_a, x_b, x_k⟩ : N3)))
  | _ => none

theorem e22 (x_a : Int) (x_b : Int) (x_k : Int) : evN Tryd.prog GLv Γ13 (0) [] Tryd.f22 [.agg [.val (.int .i64 x_a), .val (.int .i64 x_b), .val (.int .i64 x_k)]] = some (bv (validB (⟨x_a, x_b, x_k⟩ : N3))) := by
  refine (show _ = cond (!inB x_a (-131072) 131072) ( some (bv (false)) ) ( cond (!inB x_b (-131072) 131072) ( some (bv (false)) ) ( cond (!inB x_k 0 10) ( some (bv (false)) ) ( cond (x_k == 0) ( some (bv (true)) ) ( cond (x_a.tmod 2 != 0) ( some (bv (true)) ) ( some (bv (x_b.tmod 2 != 0)) ) ) ) ) ) from by kernel_rfl).trans ?_
  simp only [validB]
  cases inB x_a (-131072) 131072 <;> cases inB x_b (-131072) 131072 <;> cases inB x_k 0 10 <;> cases (x_k == 0) <;> simp only [cond_true, cond_false, Bool.true_and, Bool.false_and, Bool.true_or, Bool.false_or, and_eq, tmod_ne, odd] <;> (first | rfl | (cases decide (x_a % 2 = 1) <;> rfl))
theorem m22 : Meets Tryd.prog GLv 22 s22 := by
  refine meetsN mix0 glv G13 Tryd.func22 (by kernel_rfl) (by kernel_rfl) s22 fun args x h => ?_
  unfold s22 at h
  split at h
  · rename_i x_a x_b x_k
    simp only [Option.some.injEq, Prod.mk.injEq] at h
    obtain ⟨hp, rfl⟩ := h
    exact ⟨_, _, by kernel_rfl, e22 x_a x_b x_k⟩
  · cases h
abbrev Γ14 : List (Nat × Ctr) := (22, s22) :: Γ13
theorem G14 : Sound Tryd.prog GLv Γ14 := G13.cons m22

-- (impl.Num).checked
def s42 : Ctr := fun
  | [.agg [.val (.int .i64 x_a), .val (.int .i64 x_b), .val (.int .i64 x_k)]] => some (kB x_k, .tup [(chk (⟨x_a, x_b, x_k⟩ : N3)).av, bv (chkB (⟨x_a, x_b, x_k⟩ : N3))])
  | _ => none

theorem e42 (x_a : Int) (x_b : Int) (x_k : Int) (hp : (kB x_k) = true) : evN Tryd.prog GLv Γ14 (0) [] Tryd.f42 [.agg [.val (.int .i64 x_a), .val (.int .i64 x_b), .val (.int .i64 x_k)]] = some (.tup [(chk (⟨x_a, x_b, x_k⟩ : N3)).av, bv (chkB (⟨x_a, x_b, x_k⟩ : N3))]) := by
  refine (show _ = cond (kB x_k) ( cond (!validB (N3.mk (red (N3.mk x_a x_b x_k)).1 (red (N3.mk x_a x_b x_k)).2 (red (N3.mk x_a x_b x_k)).3)) ( some ((.tup [(.agg [iv (0), iv (0), iv (0)]), bv (false)])) ) ( some ((.tup [(.agg [iv ((red (N3.mk x_a x_b x_k)).1), iv ((red (N3.mk x_a x_b x_k)).2), iv ((red (N3.mk x_a x_b x_k)).3)]), bv (true)])) ) ) ( none ) from by kernel_rfl).trans ?_
  rw [hp]
  simp only [chk, chkB, cond_true]
  cases validB (red (⟨x_a, x_b, x_k⟩ : N3)) <;> rfl
theorem m42 : Meets Tryd.prog GLv 42 s42 := by
  refine meetsN mix0 glv G14 Tryd.func42 (by kernel_rfl) (by kernel_rfl) s42 fun args x h => ?_
  unfold s42 at h
  split at h
  · rename_i x_a x_b x_k
    simp only [Option.some.injEq, Prod.mk.injEq] at h
    obtain ⟨hp, rfl⟩ := h
    exact ⟨_, _, by kernel_rfl, e42 x_a x_b x_k hp⟩
  · cases h
abbrev Γ15 : List (Nat × Ctr) := (42, s42) :: Γ14
theorem G15 : Sound Tryd.prog GLv Γ15 := G14.cons m42

-- spec.l01Num
def s23 : Ctr := fun
  | [.agg [.val (.int .i64 x_a), .val (.int .i64 x_b), .val (.int .i64 x_k)]] => some (kB x_k, .tup [(chk (⟨x_a, x_b, x_k⟩ : N3)).av, bv (chkB (⟨x_a, x_b, x_k⟩ : N3))])
  | _ => none

theorem e23 (x_a : Int) (x_b : Int) (x_k : Int) (hp : (kB x_k) = true) : evN Tryd.prog GLv Γ15 (0) [] Tryd.f23 [.agg [.val (.int .i64 x_a), .val (.int .i64 x_b), .val (.int .i64 x_k)]] = some (.tup [(chk (⟨x_a, x_b, x_k⟩ : N3)).av, bv (chkB (⟨x_a, x_b, x_k⟩ : N3))]) := by
  refine (show _ = cond (kB x_k) ( cond (!validB (N3.mk (red (N3.mk x_a x_b x_k)).1 (red (N3.mk x_a x_b x_k)).2 (red (N3.mk x_a x_b x_k)).3)) ( some ((.tup [(.agg [iv (0), iv (0), iv (0)]), bv (false)])) ) ( some ((.tup [(.agg [iv ((red (N3.mk x_a x_b x_k)).1), iv ((red (N3.mk x_a x_b x_k)).2), iv ((red (N3.mk x_a x_b x_k)).3)]), bv (true)])) ) ) ( none ) from by kernel_rfl).trans ?_
  rw [hp]
  simp only [chk, chkB, cond_true]
  cases validB (red (⟨x_a, x_b, x_k⟩ : N3)) <;> rfl
theorem m23 : Meets Tryd.prog GLv 23 s23 := by
  refine meetsN mix0 glv G15 Tryd.func23 (by kernel_rfl) (by kernel_rfl) s23 fun args x h => ?_
  unfold s23 at h
  split at h
  · rename_i x_a x_b x_k
    simp only [Option.some.injEq, Prod.mk.injEq] at h
    obtain ⟨hp, rfl⟩ := h
    exact ⟨_, _, by kernel_rfl, e23 x_a x_b x_k hp⟩
  · cases h
abbrev Γ16 : List (Nat × Ctr) := (23, s23) :: Γ15
theorem G16 : Sound Tryd.prog GLv Γ16 := G15.cons m23

-- spec.l01Of
def s32 : Ctr := fun
  | [.agg [.val (.int .i64 x_a), .val (.int .i64 x_b), .val (.int .i64 x_k)]] => some (true, (⟨x_a, x_b, x_k⟩ : N3).av)
  | _ => none

theorem e32 (x_a : Int) (x_b : Int) (x_k : Int) : evN Tryd.prog GLv Γ16 (0) [] Tryd.f32 [.agg [.val (.int .i64 x_a), .val (.int .i64 x_b), .val (.int .i64 x_k)]] = some ((⟨x_a, x_b, x_k⟩ : N3).av) := by
  kernel_rfl
theorem m32 : Meets Tryd.prog GLv 32 s32 := by
  refine meetsN mix0 glv G16 Tryd.func32 (by kernel_rfl) (by kernel_rfl) s32 fun args x h => ?_
  unfold s32 at h
  split at h
  · rename_i x_a x_b x_k
    simp only [Option.some.injEq, Prod.mk.injEq] at h
    obtain ⟨hp, rfl⟩ := h
    exact ⟨_, _, by kernel_rfl, e32 x_a x_b x_k⟩
  · cases h
abbrev Γ17 : List (Nat × Ctr) := (32, s32) :: Γ16
theorem G17 : Sound Tryd.prog GLv Γ17 := G16.cons m32

-- laws.toNum
def s15 : Ctr := fun
  | [.agg [.val (.int .i64 x_a), .val (.int .i64 x_b), .val (.int .i64 x_k)]] => some (true, (⟨x_a, x_b, x_k⟩ : N3).av)
  | _ => none

theorem e15 (x_a : Int) (x_b : Int) (x_k : Int) : evN Tryd.prog GLv Γ17 (0) [] Tryd.f15 [.agg [.val (.int .i64 x_a), .val (.int .i64 x_b), .val (.int .i64 x_k)]] = some ((⟨x_a, x_b, x_k⟩ : N3).av) := by
  kernel_rfl
theorem m15 : Meets Tryd.prog GLv 15 s15 := by
  refine meetsN mix0 glv G17 Tryd.func15 (by kernel_rfl) (by kernel_rfl) s15 fun args x h => ?_
  unfold s15 at h
  split at h
  · rename_i x_a x_b x_k
    simp only [Option.some.injEq, Prod.mk.injEq] at h
    obtain ⟨hp, rfl⟩ := h
    exact ⟨_, _, by kernel_rfl, e15 x_a x_b x_k⟩
  · cases h
abbrev Γ18 : List (Nat × Ctr) := (15, s15) :: Γ17
theorem G18 : Sound Tryd.prog GLv Γ18 := G17.cons m15

-- laws.eqNum
def s20 : Ctr := fun
  | [.agg [.val (.int .i64 x_a), .val (.int .i64 x_b), .val (.int .i64 x_k)], .agg [.val (.int .i64 y_a), .val (.int .i64 y_b), .val (.int .i64 y_k)]] => some (true, bv (eq3 (⟨x_a, x_b, x_k⟩ : N3) (⟨y_a, y_b, y_k⟩ : N3)))
  | _ => none

theorem e20 (x_a : Int) (x_b : Int) (x_k : Int) (y_a : Int) (y_b : Int) (y_k : Int) : evN Tryd.prog GLv Γ18 (0) [] Tryd.f20 [.agg [.val (.int .i64 x_a), .val (.int .i64 x_b), .val (.int .i64 x_k)], .agg [.val (.int .i64 y_a), .val (.int .i64 y_b), .val (.int .i64 y_k)]] = some (bv (eq3 (⟨x_a, x_b, x_k⟩ : N3) (⟨y_a, y_b, y_k⟩ : N3))) := by
  refine (show _ = cond (x_a != y_a) ( some (bv (false)) ) ( cond (x_b != y_b) ( some (bv (false)) ) ( cond (x_k != y_k) ( some (bv (false)) ) ( some (bv (true)) ) ) ) from by kernel_rfl).trans ?_
  simp only [eq3]
  cases (x_a != y_a) <;> cases (x_b != y_b) <;> cases (x_k != y_k) <;> rfl
theorem m20 : Meets Tryd.prog GLv 20 s20 := by
  refine meetsN mix0 glv G18 Tryd.func20 (by kernel_rfl) (by kernel_rfl) s20 fun args x h => ?_
  unfold s20 at h
  split at h
  · rename_i x_a x_b x_k y_a y_b y_k
    simp only [Option.some.injEq, Prod.mk.injEq] at h
    obtain ⟨hp, rfl⟩ := h
    exact ⟨_, _, by kernel_rfl, e20 x_a x_b x_k y_a y_b y_k⟩
  · cases h
abbrev Γ19 : List (Nat × Ctr) := (20, s20) :: Γ18
theorem G19 : Sound Tryd.prog GLv Γ19 := G18.cons m20

-- spec.l02Of
def s14 : Ctr := fun
  | [.agg [.val (.int .i64 p_xa), .val (.int .i64 p_xb), .val (.int .i64 p_xk), .val (.int .i64 p_ya), .val (.int .i64 p_yb), .val (.int .i64 p_yk)]] => some (true, (⟨(⟨p_xa, p_xb, p_xk⟩ : N3), (⟨p_ya, p_yb, p_yk⟩ : N3)⟩ : P2).av)
  | _ => none

theorem e14 (p_xa : Int) (p_xb : Int) (p_xk : Int) (p_ya : Int) (p_yb : Int) (p_yk : Int) : evN Tryd.prog GLv Γ19 (0) [] Tryd.f14 [.agg [.val (.int .i64 p_xa), .val (.int .i64 p_xb), .val (.int .i64 p_xk), .val (.int .i64 p_ya), .val (.int .i64 p_yb), .val (.int .i64 p_yk)]] = some ((⟨(⟨p_xa, p_xb, p_xk⟩ : N3), (⟨p_ya, p_yb, p_yk⟩ : N3)⟩ : P2).av) := by
  kernel_rfl
theorem m14 : Meets Tryd.prog GLv 14 s14 := by
  refine meetsN mix0 glv G19 Tryd.func14 (by kernel_rfl) (by kernel_rfl) s14 fun args x h => ?_
  unfold s14 at h
  split at h
  · rename_i p_xa p_xb p_xk p_ya p_yb p_yk
    simp only [Option.some.injEq, Prod.mk.injEq] at h
    obtain ⟨hp, rfl⟩ := h
    exact ⟨_, _, by kernel_rfl, e14 p_xa p_xb p_xk p_ya p_yb p_yk⟩
  · cases h
abbrev Γ20 : List (Nat × Ctr) := (14, s14) :: Γ19
theorem G20 : Sound Tryd.prog GLv Γ20 := G19.cons m14

-- laws.toPoint
def s6 : Ctr := fun
  | [.agg [.val (.int .i64 p_xa), .val (.int .i64 p_xb), .val (.int .i64 p_xk), .val (.int .i64 p_ya), .val (.int .i64 p_yb), .val (.int .i64 p_yk)]] => some (true, (⟨(⟨p_xa, p_xb, p_xk⟩ : N3), (⟨p_ya, p_yb, p_yk⟩ : N3)⟩ : P2).av)
  | _ => none

theorem e6 (p_xa : Int) (p_xb : Int) (p_xk : Int) (p_ya : Int) (p_yb : Int) (p_yk : Int) : evN Tryd.prog GLv Γ20 (0) [] Tryd.f6 [.agg [.val (.int .i64 p_xa), .val (.int .i64 p_xb), .val (.int .i64 p_xk), .val (.int .i64 p_ya), .val (.int .i64 p_yb), .val (.int .i64 p_yk)]] = some ((⟨(⟨p_xa, p_xb, p_xk⟩ : N3), (⟨p_ya, p_yb, p_yk⟩ : N3)⟩ : P2).av) := by
  kernel_rfl
theorem m6 : Meets Tryd.prog GLv 6 s6 := by
  refine meetsN mix0 glv G20 Tryd.func6 (by kernel_rfl) (by kernel_rfl) s6 fun args x h => ?_
  unfold s6 at h
  split at h
  · rename_i p_xa p_xb p_xk p_ya p_yb p_yk
    simp only [Option.some.injEq, Prod.mk.injEq] at h
    obtain ⟨hp, rfl⟩ := h
    exact ⟨_, _, by kernel_rfl, e6 p_xa p_xb p_xk p_ya p_yb p_yk⟩
  · cases h
abbrev Γ21 : List (Nat × Ctr) := (6, s6) :: Γ20
theorem G21 : Sound Tryd.prog GLv Γ21 := G20.cons m6

-- laws.eqPoint
def s8 : Ctr := fun
  | [.agg [.val (.int .i64 p_xa), .val (.int .i64 p_xb), .val (.int .i64 p_xk), .val (.int .i64 p_ya), .val (.int .i64 p_yb), .val (.int .i64 p_yk)], .agg [.val (.int .i64 q_xa), .val (.int .i64 q_xb), .val (.int .i64 q_xk), .val (.int .i64 q_ya), .val (.int .i64 q_yb), .val (.int .i64 q_yk)]] => some (true, bv (eqP (⟨(⟨p_xa, p_xb, p_xk⟩ : N3), (⟨p_ya, p_yb, p_yk⟩ : N3)⟩ : P2) (⟨(⟨q_xa, q_xb, q_xk⟩ : N3), (⟨q_ya, q_yb, q_yk⟩ : N3)⟩ : P2)))
  | _ => none

theorem e8 (p_xa : Int) (p_xb : Int) (p_xk : Int) (p_ya : Int) (p_yb : Int) (p_yk : Int) (q_xa : Int) (q_xb : Int) (q_xk : Int) (q_ya : Int) (q_yb : Int) (q_yk : Int) : evN Tryd.prog GLv Γ21 (0) [] Tryd.f8 [.agg [.val (.int .i64 p_xa), .val (.int .i64 p_xb), .val (.int .i64 p_xk), .val (.int .i64 p_ya), .val (.int .i64 p_yb), .val (.int .i64 p_yk)], .agg [.val (.int .i64 q_xa), .val (.int .i64 q_xb), .val (.int .i64 q_xk), .val (.int .i64 q_ya), .val (.int .i64 q_yb), .val (.int .i64 q_yk)]] = some (bv (eqP (⟨(⟨p_xa, p_xb, p_xk⟩ : N3), (⟨p_ya, p_yb, p_yk⟩ : N3)⟩ : P2) (⟨(⟨q_xa, q_xb, q_xk⟩ : N3), (⟨q_ya, q_yb, q_yk⟩ : N3)⟩ : P2))) := by
  refine (show _ = cond (!eq3 (N3.mk p_xa p_xb p_xk) (N3.mk q_xa q_xb q_xk)) ( some (bv (false)) ) ( cond (!eq3 (N3.mk p_ya p_yb p_yk) (N3.mk q_ya q_yb q_yk)) ( some (bv (false)) ) ( some (bv (true)) ) ) from by kernel_rfl).trans ?_
  simp only [eqP]
  cases eq3 (⟨p_xa, p_xb, p_xk⟩ : N3) (⟨q_xa, q_xb, q_xk⟩ : N3) <;> cases eq3 (⟨p_ya, p_yb, p_yk⟩ : N3) (⟨q_ya, q_yb, q_yk⟩ : N3) <;> rfl
theorem m8 : Meets Tryd.prog GLv 8 s8 := by
  refine meetsN mix0 glv G21 Tryd.func8 (by kernel_rfl) (by kernel_rfl) s8 fun args x h => ?_
  unfold s8 at h
  split at h
  · rename_i p_xa p_xb p_xk p_ya p_yb p_yk q_xa q_xb q_xk q_ya q_yb q_yk
    simp only [Option.some.injEq, Prod.mk.injEq] at h
    obtain ⟨hp, rfl⟩ := h
    exact ⟨_, _, by kernel_rfl, e8 p_xa p_xb p_xk p_ya p_yb p_yk q_xa q_xb q_xk q_ya q_yb q_yk⟩
  · cases h
abbrev Γ22 : List (Nat × Ctr) := (8, s8) :: Γ21
theorem G22 : Sound Tryd.prog GLv Γ22 := G21.cons m8

-- impl.ValidPoint
def s17 : Ctr := fun
  | [.agg [.val (.int .i64 p_xa), .val (.int .i64 p_xb), .val (.int .i64 p_xk), .val (.int .i64 p_ya), .val (.int .i64 p_yb), .val (.int .i64 p_yk)]] => some (true, bv (valP (⟨(⟨p_xa, p_xb, p_xk⟩ : N3), (⟨p_ya, p_yb, p_yk⟩ : N3)⟩ : P2)))
  | _ => none

theorem e17 (p_xa : Int) (p_xb : Int) (p_xk : Int) (p_ya : Int) (p_yb : Int) (p_yk : Int) : evN Tryd.prog GLv Γ22 (0) [] Tryd.f17 [.agg [.val (.int .i64 p_xa), .val (.int .i64 p_xb), .val (.int .i64 p_xk), .val (.int .i64 p_ya), .val (.int .i64 p_yb), .val (.int .i64 p_yk)]] = some (bv (valP (⟨(⟨p_xa, p_xb, p_xk⟩ : N3), (⟨p_ya, p_yb, p_yk⟩ : N3)⟩ : P2))) := by
  refine (show _ = cond (validB (N3.mk p_xa p_xb p_xk)) ( some (bv (validB (N3.mk p_ya p_yb p_yk))) ) ( some (bv (false)) ) from by kernel_rfl).trans ?_
  simp only [valP]
  cases validB (⟨p_xa, p_xb, p_xk⟩ : N3) <;> rfl
theorem m17 : Meets Tryd.prog GLv 17 s17 := by
  refine meetsN mix0 glv G22 Tryd.func17 (by kernel_rfl) (by kernel_rfl) s17 fun args x h => ?_
  unfold s17 at h
  split at h
  · rename_i p_xa p_xb p_xk p_ya p_yb p_yk
    simp only [Option.some.injEq, Prod.mk.injEq] at h
    obtain ⟨hp, rfl⟩ := h
    exact ⟨_, _, by kernel_rfl, e17 p_xa p_xb p_xk p_ya p_yb p_yk⟩
  · cases h
abbrev Γ23 : List (Nat × Ctr) := (17, s17) :: Γ22
theorem G23 : Sound Tryd.prog GLv Γ23 := G22.cons m17

-- spec.l02Point
def s10 : Ctr := fun
  | [.agg [.val (.int .i64 p_xa), .val (.int .i64 p_xb), .val (.int .i64 p_xk), .val (.int .i64 p_ya), .val (.int .i64 p_yb), .val (.int .i64 p_yk)]] => some (true, bv (valP (⟨(⟨p_xa, p_xb, p_xk⟩ : N3), (⟨p_ya, p_yb, p_yk⟩ : N3)⟩ : P2)))
  | _ => none

theorem e10 (p_xa : Int) (p_xb : Int) (p_xk : Int) (p_ya : Int) (p_yb : Int) (p_yk : Int) : evN Tryd.prog GLv Γ23 (0) [] Tryd.f10 [.agg [.val (.int .i64 p_xa), .val (.int .i64 p_xb), .val (.int .i64 p_xk), .val (.int .i64 p_ya), .val (.int .i64 p_yb), .val (.int .i64 p_yk)]] = some (bv (valP (⟨(⟨p_xa, p_xb, p_xk⟩ : N3), (⟨p_ya, p_yb, p_yk⟩ : N3)⟩ : P2))) := by
  refine (show _ = cond (validB (N3.mk p_xa p_xb p_xk)) ( some (bv (validB (N3.mk p_ya p_yb p_yk))) ) ( some (bv (false)) ) from by kernel_rfl).trans ?_
  simp only [valP]
  cases validB (⟨p_xa, p_xb, p_xk⟩ : N3) <;> rfl
theorem m10 : Meets Tryd.prog GLv 10 s10 := by
  refine meetsN mix0 glv G23 Tryd.func10 (by kernel_rfl) (by kernel_rfl) s10 fun args x h => ?_
  unfold s10 at h
  split at h
  · rename_i p_xa p_xb p_xk p_ya p_yb p_yk
    simp only [Option.some.injEq, Prod.mk.injEq] at h
    obtain ⟨hp, rfl⟩ := h
    exact ⟨_, _, by kernel_rfl, e10 p_xa p_xb p_xk p_ya p_yb p_yk⟩
  · cases h
abbrev Γ24 : List (Nat × Ctr) := (10, s10) :: Γ23
theorem G24 : Sound Tryd.prog GLv Γ24 := G23.cons m10

-- (impl.Point).checked
def s19 : Ctr := fun
  | [.agg [.val (.int .i64 p_xa), .val (.int .i64 p_xb), .val (.int .i64 p_xk), .val (.int .i64 p_ya), .val (.int .i64 p_yb), .val (.int .i64 p_yk)]] => some (kB p_xk && kB p_yk, rP (valP (redP (⟨(⟨p_xa, p_xb, p_xk⟩ : N3), (⟨p_ya, p_yb, p_yk⟩ : N3)⟩ : P2))) (redP (⟨(⟨p_xa, p_xb, p_xk⟩ : N3), (⟨p_ya, p_yb, p_yk⟩ : N3)⟩ : P2)))
  | _ => none

theorem e19 (p_xa : Int) (p_xb : Int) (p_xk : Int) (p_ya : Int) (p_yb : Int) (p_yk : Int) (hp : (kB p_xk && kB p_yk) = true) : evN Tryd.prog GLv Γ24 (0) [] Tryd.f19 [.agg [.val (.int .i64 p_xa), .val (.int .i64 p_xb), .val (.int .i64 p_xk), .val (.int .i64 p_ya), .val (.int .i64 p_yb), .val (.int .i64 p_yk)]] = some (rP (valP (redP (⟨(⟨p_xa, p_xb, p_xk⟩ : N3), (⟨p_ya, p_yb, p_yk⟩ : N3)⟩ : P2))) (redP (⟨(⟨p_xa, p_xb, p_xk⟩ : N3), (⟨p_ya, p_yb, p_yk⟩ : N3)⟩ : P2))) := by
  refine (show _ = cond (kB p_xk) ( cond (kB p_yk) ( cond (!chkB (N3.mk p_xa p_xb p_xk)) ( some ((.tup [(.agg [iv (0), iv (0), iv (0), iv (0), iv (0), iv (0)]), bv (false)])) ) ( cond (!chkB (N3.mk p_ya p_yb p_yk)) ( some ((.tup [(.agg [iv (0), iv (0), iv (0), iv (0), iv (0), iv (0)]), bv (false)])) ) ( some ((.tup [(.agg [iv (bif chkB (N3.mk p_xa p_xb p_xk) then (red (N3.mk p_xa p_xb p_xk)).1 else 0), iv (bif chkB (N3.mk p_xa p_xb p_xk) then (red (N3.mk p_xa p_xb p_xk)).2 else 0), iv (bif chkB (N3.mk p_xa p_xb p_xk) then (red (N3.mk p_xa p_xb p_xk)).3 else 0), iv (bif chkB (N3.mk p_ya p_yb p_yk) then (red (N3.mk p_ya p_yb p_yk)).1 else 0), iv (bif chkB (N3.mk p_ya p_yb p_yk) then (red (N3.mk p_ya p_yb p_yk)).2 else 0), iv (bif chkB (N3.mk p_ya p_yb p_yk) then (red (N3.mk p_ya p_yb p_yk)).3 else 0)]), bv (true)])) ) ) ) ( none ) ) ( none ) from by kernel_rfl).trans ?_
  rw [Bool.and_eq_true] at hp
  rw [hp.1, hp.2]
  simp only [valP, redP, rP, chkB, cond_true]
  cases validB (red (⟨p_xa, p_xb, p_xk⟩ : N3)) <;> cases validB (red (⟨p_ya, p_yb, p_yk⟩ : N3)) <;> rfl
theorem m19 : Meets Tryd.prog GLv 19 s19 := by
  refine meetsN mix0 glv G24 Tryd.func19 (by kernel_rfl) (by kernel_rfl) s19 fun args x h => ?_
  unfold s19 at h
  split at h
  · rename_i p_xa p_xb p_xk p_ya p_yb p_yk
    simp only [Option.some.injEq, Prod.mk.injEq] at h
    obtain ⟨hp, rfl⟩ := h
    exact ⟨_, _, by kernel_rfl, e19 p_xa p_xb p_xk p_ya p_yb p_yk hp⟩
  · cases h
abbrev Γ25 : List (Nat × Ctr) := (19, s19) :: Γ24
theorem G25 : Sound Tryd.prog GLv Γ25 := G24.cons m19

-- spec.l02Num
def s11 : Ctr := fun
  | [.agg [.val (.int .i64 p_xa), .val (.int .i64 p_xb), .val (.int .i64 p_xk), .val (.int .i64 p_ya), .val (.int .i64 p_yb), .val (.int .i64 p_yk)]] => some (kB p_xk && kB p_yk, rP (valP (redP (⟨(⟨p_xa, p_xb, p_xk⟩ : N3), (⟨p_ya, p_yb, p_yk⟩ : N3)⟩ : P2))) (redP (⟨(⟨p_xa, p_xb, p_xk⟩ : N3), (⟨p_ya, p_yb, p_yk⟩ : N3)⟩ : P2)))
  | _ => none

theorem e11 (p_xa : Int) (p_xb : Int) (p_xk : Int) (p_ya : Int) (p_yb : Int) (p_yk : Int) (hp : (kB p_xk && kB p_yk) = true) : evN Tryd.prog GLv Γ25 (0) [] Tryd.f11 [.agg [.val (.int .i64 p_xa), .val (.int .i64 p_xb), .val (.int .i64 p_xk), .val (.int .i64 p_ya), .val (.int .i64 p_yb), .val (.int .i64 p_yk)]] = some (rP (valP (redP (⟨(⟨p_xa, p_xb, p_xk⟩ : N3), (⟨p_ya, p_yb, p_yk⟩ : N3)⟩ : P2))) (redP (⟨(⟨p_xa, p_xb, p_xk⟩ : N3), (⟨p_ya, p_yb, p_yk⟩ : N3)⟩ : P2))) := by
  refine (show _ = cond (kB p_xk) ( cond (kB p_yk) ( cond (!chkB (N3.mk p_xa p_xb p_xk)) ( some ((.tup [(.agg [iv (0), iv (0), iv (0), iv (0), iv (0), iv (0)]), bv (false)])) ) ( cond (!chkB (N3.mk p_ya p_yb p_yk)) ( some ((.tup [(.agg [iv (0), iv (0), iv (0), iv (0), iv (0), iv (0)]), bv (false)])) ) ( some ((.tup [(.agg [iv (bif chkB (N3.mk p_xa p_xb p_xk) then (red (N3.mk p_xa p_xb p_xk)).1 else 0), iv (bif chkB (N3.mk p_xa p_xb p_xk) then (red (N3.mk p_xa p_xb p_xk)).2 else 0), iv (bif chkB (N3.mk p_xa p_xb p_xk) then (red (N3.mk p_xa p_xb p_xk)).3 else 0), iv (bif chkB (N3.mk p_ya p_yb p_yk) then (red (N3.mk p_ya p_yb p_yk)).1 else 0), iv (bif chkB (N3.mk p_ya p_yb p_yk) then (red (N3.mk p_ya p_yb p_yk)).2 else 0), iv (bif chkB (N3.mk p_ya p_yb p_yk) then (red (N3.mk p_ya p_yb p_yk)).3 else 0)]), bv (true)])) ) ) ) ( none ) ) ( none ) from by kernel_rfl).trans ?_
  rw [Bool.and_eq_true] at hp
  rw [hp.1, hp.2]
  simp only [valP, redP, rP, chkB, cond_true]
  cases validB (red (⟨p_xa, p_xb, p_xk⟩ : N3)) <;> cases validB (red (⟨p_ya, p_yb, p_yk⟩ : N3)) <;> rfl
theorem m11 : Meets Tryd.prog GLv 11 s11 := by
  refine meetsN mix0 glv G25 Tryd.func11 (by kernel_rfl) (by kernel_rfl) s11 fun args x h => ?_
  unfold s11 at h
  split at h
  · rename_i p_xa p_xb p_xk p_ya p_yb p_yk
    simp only [Option.some.injEq, Prod.mk.injEq] at h
    obtain ⟨hp, rfl⟩ := h
    exact ⟨_, _, by kernel_rfl, e11 p_xa p_xb p_xk p_ya p_yb p_yk hp⟩
  · cases h
abbrev Γ26 : List (Nat × Ctr) := (11, s11) :: Γ25
theorem G26 : Sound Tryd.prog GLv Γ26 := G25.cons m11

-- (impl.Point).plus
def s39 : Ctr := fun
  | [.agg [.val (.int .i64 p_xa), .val (.int .i64 p_xb), .val (.int .i64 p_xk), .val (.int .i64 p_ya), .val (.int .i64 p_yb), .val (.int .i64 p_yk)], .agg [.val (.int .i64 q_xa), .val (.int .i64 q_xb), .val (.int .i64 q_xk), .val (.int .i64 q_ya), .val (.int .i64 q_yb), .val (.int .i64 q_yk)]] => some (pkP (⟨(⟨p_xa, p_xb, p_xk⟩ : N3), (⟨p_ya, p_yb, p_yk⟩ : N3)⟩ : P2) (⟨(⟨q_xa, q_xb, q_xk⟩ : N3), (⟨q_ya, q_yb, q_yk⟩ : N3)⟩ : P2), (addP (⟨(⟨p_xa, p_xb, p_xk⟩ : N3), (⟨p_ya, p_yb, p_yk⟩ : N3)⟩ : P2) (⟨(⟨q_xa, q_xb, q_xk⟩ : N3), (⟨q_ya, q_yb, q_yk⟩ : N3)⟩ : P2)).av)
  | _ => none

theorem e39 (p_xa : Int) (p_xb : Int) (p_xk : Int) (p_ya : Int) (p_yb : Int) (p_yk : Int) (q_xa : Int) (q_xb : Int) (q_xk : Int) (q_ya : Int) (q_yb : Int) (q_yk : Int) (hp : (pkP (⟨(⟨p_xa, p_xb, p_xk⟩ : N3), (⟨p_ya, p_yb, p_yk⟩ : N3)⟩ : P2) (⟨(⟨q_xa, q_xb, q_xk⟩ : N3), (⟨q_ya, q_yb, q_yk⟩ : N3)⟩ : P2)) = true) : evN Tryd.prog GLv Γ26 (0) [] Tryd.f39 [.agg [.val (.int .i64 p_xa), .val (.int .i64 p_xb), .val (.int .i64 p_xk), .val (.int .i64 p_ya), .val (.int .i64 p_yb), .val (.int .i64 p_yk)], .agg [.val (.int .i64 q_xa), .val (.int .i64 q_xb), .val (.int .i64 q_xk), .val (.int .i64 q_ya), .val (.int .i64 q_yb), .val (.int .i64 q_yk)]] = some ((addP (⟨(⟨p_xa, p_xb, p_xk⟩ : N3), (⟨p_ya, p_yb, p_yk⟩ : N3)⟩ : P2) (⟨(⟨q_xa, q_xb, q_xk⟩ : N3), (⟨q_ya, q_yb, q_yk⟩ : N3)⟩ : P2)).av) := by
  unfold pkP at hp
  rw [Bool.and_eq_true] at hp
  refine (show _ = cond (pk (⟨p_xa, p_xb, p_xk⟩ : N3) (⟨q_xa, q_xb, q_xk⟩ : N3)) (cond (pk (⟨p_ya, p_yb, p_yk⟩ : N3) (⟨q_ya, q_yb, q_yk⟩ : N3)) (some (addP (⟨(⟨p_xa, p_xb, p_xk⟩ : N3), (⟨p_ya, p_yb, p_yk⟩ : N3)⟩ : P2) (⟨(⟨q_xa, q_xb, q_xk⟩ : N3), (⟨q_ya, q_yb, q_yk⟩ : N3)⟩ : P2)).av) none) none from by kernel_rfl).trans ?_
  rw [hp.1, hp.2]
  rfl
theorem m39 : Meets Tryd.prog GLv 39 s39 := by
  refine meetsN mix0 glv G26 Tryd.func39 (by kernel_rfl) (by kernel_rfl) s39 fun args x h => ?_
  unfold s39 at h
  split at h
  · rename_i p_xa p_xb p_xk p_ya p_yb p_yk q_xa q_xb q_xk q_ya q_yb q_yk
    simp only [Option.some.injEq, Prod.mk.injEq] at h
    obtain ⟨hp, rfl⟩ := h
    exact ⟨_, _, by kernel_rfl, e39 p_xa p_xb p_xk p_ya p_yb p_yk q_xa q_xb q_xk q_ya q_yb q_yk hp⟩
  · cases h
abbrev Γ27 : List (Nat × Ctr) := (39, s39) :: Γ26
theorem G27 : Sound Tryd.prog GLv Γ27 := G26.cons m39

-- (impl.Num).over
def s38 : Ctr := fun
  | [.agg [.val (.int .i64 x_a), .val (.int .i64 x_b), .val (.int .i64 x_k)], .agg [.val (.int .i64 y_a), .val (.int .i64 y_b), .val (.int .i64 y_k)]] => some (dvP (⟨x_a, x_b, x_k⟩ : N3) (⟨y_a, y_b, y_k⟩ : N3), dvR (⟨x_a, x_b, x_k⟩ : N3) (⟨y_a, y_b, y_k⟩ : N3))
  | _ => none

theorem r38_step (K m : Nat) (n a b k : Int) : runL Tryd.prog GLv Γ27 K [false, false, false, false, true, true, true, true] Tryd.f38 0 (m + 1) (stL Tryd.f38.ntmps [.non, .non, .non, .non, .own 28 [iv 0, iv 0, iv 0], bv false, iv (n), .own 28 [iv (a), iv (b), iv (k)]]) = cond (and64 n 1 == 0) (runL Tryd.prog GLv Γ27 K [false, false, false, false, true, true, true, true] Tryd.f38 0 m (stL Tryd.f38.ntmps [.non, .non, .non, .non, .own 28 [iv 0, iv 0, iv 0], bv false, iv (wr (n.tdiv 2)), .own 28 [iv (a), iv (b), iv (wr (k + 1))]])) (implEnd n a b k) := by kernel_rfl
theorem r38_run (K : Nat) : ∀ (f : Nat) (n a b k : Int) (m : Nat), n ≠ 0 → n.natAbs < 2 ^ f → f ≤ 60 → -1000000 ≤ k → k + f ≤ 1000000 → f < m →
    runL Tryd.prog GLv Γ27 K [false, false, false, false, true, true, true, true] Tryd.f38 0 m (stL Tryd.f38.ntmps [.non, .non, .non, .non, .own 28 [iv 0, iv 0, iv 0], bv false, iv (n), .own 28 [iv (a), iv (b), iv (k)]]) = implEnd (oddL f n k).1 a b (oddL f n k).2 := by
  intro f
  induction f with
  | zero => intro n a b k m hn hf; simp at hf; omega
  | succ f ih =>
    intro n a b k m hn hf hf60 hk hk' hm
    obtain ⟨m, rfl⟩ : ∃ m', m = m' + 1 := ⟨m - 1, by omega⟩
    have h60 : (2 : Nat) ^ (f + 1) ≤ 2 ^ 60 := Nat.pow_le_pow_right (by decide) hf60
    have e60 : (2 : Nat) ^ 60 = 1152921504606846976 := by decide
    rw [r38_step]
    rw [and64_one, show ((n % 2 == 0) = !odd n) from odd_zero n]
    cases ho : odd n with
    | true =>
      have e : oddL (f + 1) n k = (n, k) := by unfold oddL; rw [ho]; rfl
      rw [e]
      rfl
    | false =>
      obtain ⟨h1, h2⟩ := tdiv_two ho
      have e : oddL (f + 1) n k = oddL f (n.tdiv 2) (k + 1) := by conv => lhs; unfold oddL
                                                                  rw [ho]; rfl
      rw [e, Bool.not_false, cond_true, wr_in (n := n.tdiv 2) (by omega) (by omega), wr_in (n := k + 1) (by omega) (by omega)]
      exact ih _ _ _ _ _ (by omega) (by rw [Nat.pow_succ] at hf; omega) (by omega) (by omega) (by omega) (by omega)
theorem e38 (x_a : Int) (x_b : Int) (x_k : Int) (y_a : Int) (y_b : Int) (y_k : Int) (hp : (dvP (⟨x_a, x_b, x_k⟩ : N3) (⟨y_a, y_b, y_k⟩ : N3)) = true) : evN Tryd.prog GLv Γ27 (70) [false, false, false, false, true, true, true, true] Tryd.f38 [.agg [.val (.int .i64 x_a), .val (.int .i64 x_b), .val (.int .i64 x_k)], .agg [.val (.int .i64 y_a), .val (.int .i64 y_b), .val (.int .i64 y_k)]] = some (dvR (⟨x_a, x_b, x_k⟩ : N3) (⟨y_a, y_b, y_k⟩ : N3)) := by
  refine (show _ = cond (divN (⟨y_a, y_b, y_k⟩ : N3) == 0) (some dvNo) (cond (pkm (⟨x_a, x_b, x_k⟩ : N3) (divC (⟨y_a, y_b, y_k⟩ : N3))) (runL Tryd.prog GLv Γ27 70 [false, false, false, false, true, true, true, true] Tryd.f38 0 70 (stL Tryd.f38.ntmps [.non, .non, .non, .non, .own 28 [iv 0, iv 0, iv 0], bv false, iv (divN (⟨y_a, y_b, y_k⟩ : N3)), .own 28 [iv ((divT (⟨x_a, x_b, x_k⟩ : N3) (⟨y_a, y_b, y_k⟩ : N3)).a), iv ((divT (⟨x_a, x_b, x_k⟩ : N3) (⟨y_a, y_b, y_k⟩ : N3)).b), iv (wr ((divT (⟨x_a, x_b, x_k⟩ : N3) (⟨y_a, y_b, y_k⟩ : N3)).k - y_k))]])) none) from by kernel_rfl).trans ?_
  obtain ⟨ra, rb, rA, rB, rM, _, rN⟩ := raw_bd hp
  obtain ⟨⟨_, _, xk, xk'⟩, _, _, yk, yk'⟩ := dvP_iff.1 hp
  simp only at xk xk' yk yk'
  by_cases hz : divN (⟨y_a, y_b, y_k⟩ : N3) = 0
  · have hz' : (divN (⟨y_a, y_b, y_k⟩ : N3) == 0) = true := by simpa using hz
    rw [hz', cond_true]
    unfold dvR dvOk
    rw [hz']
    rfl
  have hz' : (divN (⟨y_a, y_b, y_k⟩ : N3) == 0) = false := by simpa using hz
  rw [hz', cond_false]
  obtain ⟨o1, o2, o3, _, _, _⟩ := dv_same hp hz
  have hb : (divN (⟨y_a, y_b, y_k⟩ : N3)).natAbs < 2 ^ 60 := by
    have : (2 : Nat) ^ 60 = 1152921504606846976 := by decide
    omega
  rw [pkm_div hp, cond_true, wr_in (n := (divT (⟨x_a, x_b, x_k⟩ : N3) (⟨y_a, y_b, y_k⟩ : N3)).k - y_k) (by omega) (by omega), r38_run 70 60 _ _ _ _ 70 hz hb (by decide) (by omega) (by omega) (by decide), oddL_shift]
  exact implEnd_eq hp hz
theorem m38 : Meets Tryd.prog GLv 38 s38 := by
  refine meetsN mix0 glv G27 Tryd.func38 (by kernel_rfl) (by kernel_rfl) s38 fun args x h => ?_
  unfold s38 at h
  split at h
  · rename_i x_a x_b x_k y_a y_b y_k
    simp only [Option.some.injEq, Prod.mk.injEq] at h
    obtain ⟨hp, rfl⟩ := h
    exact ⟨_, _, by kernel_rfl, e38 x_a x_b x_k y_a y_b y_k hp⟩
  · cases h
abbrev Γ28 : List (Nat × Ctr) := (38, s38) :: Γ27
theorem G28 : Sound Tryd.prog GLv Γ28 := G27.cons m38

-- spec.l01Div
def s25 : Ctr := fun
  | [.agg [.val (.int .i64 x_a), .val (.int .i64 x_b), .val (.int .i64 x_k)], .agg [.val (.int .i64 y_a), .val (.int .i64 y_b), .val (.int .i64 y_k)]] => some (dvP (⟨x_a, x_b, x_k⟩ : N3) (⟨y_a, y_b, y_k⟩ : N3), dvR (⟨x_a, x_b, x_k⟩ : N3) (⟨y_a, y_b, y_k⟩ : N3))
  | _ => none

theorem r25_step1 (K m : Nat) (n a b k c ya yb yk : Int) : runL Tryd.prog GLv Γ28 K [false, false, false, true, true, true, true, true, true] Tryd.f25 1 (m + 1) (stL Tryd.f25.ntmps [.non, .non, .non, .own 43 [iv ya, iv yb, iv yk], .own 43 [iv 0, iv 0, iv 0], bv false, iv (n), .own 43 [iv (a), iv (b), iv (k)], iv (c)]) = cond (decide (c > 0)) (cond (decide (k > 0)) (runL Tryd.prog GLv Γ28 K [false, false, false, true, true, true, true, true, true] Tryd.f25 1 m (stL Tryd.f25.ntmps [.non, .non, .non, .own 43 [iv ya, iv yb, iv yk], .own 43 [iv 0, iv 0, iv 0], bv false, iv (n), .own 43 [iv (a), iv (b), iv (wr (k - 1))], iv (wr (c - 1))])) (runL Tryd.prog GLv Γ28 K [false, false, false, true, true, true, true, true, true] Tryd.f25 1 m (stL Tryd.f25.ntmps [.non, .non, .non, .own 43 [iv ya, iv yb, iv yk], .own 43 [iv 0, iv 0, iv 0], bv false, iv (n), .own 43 [iv (wr (a * 2)), iv (wr (b * 2)), iv (k)], iv (wr (c - 1))]))) (cond (kB k) (some (dvYes (red ⟨a, b, k⟩))) none) := by kernel_rfl
theorem r25_run1 (K : Nat) (ya yb yk n : Int) : ∀ (c : Nat) (a b k : Int) (m : Nat), 0 ≤ k → k ≤ 1000000 → c ≤ 1000000 → c < m → runL Tryd.prog GLv Γ28 K [false, false, false, true, true, true, true, true, true] Tryd.f25 1 m (stL Tryd.f25.ntmps [.non, .non, .non, .own 43 [iv ya, iv yb, iv yk], .own 43 [iv 0, iv 0, iv 0], bv false, iv (n), .own 43 [iv (a), iv (b), iv (k)], iv ((c : Int))]) = some (dvYes (red (decF c a b k))) := by
  intro c
  induction c with
  | zero =>
    intro a b k m h0 h1 h2 h3
    obtain ⟨m, rfl⟩ : ∃ m', m = m' + 1 := ⟨m - 1, by omega⟩
    rw [r25_step1, show decide (((0 : Nat) : Int) > 0) = false from rfl, kB_iff.2 ⟨h0, by omega⟩]
    rfl
  | succ c ih =>
    intro a b k m h0 h1 h2 h3
    obtain ⟨m, rfl⟩ : ∃ m', m = m' + 1 := ⟨m - 1, by omega⟩
    have hc : decide (((c + 1 : Nat) : Int) > 0) = true := by rw [decide_eq_true_eq]; omega
    have hw : wr (((c + 1 : Nat) : Int) - 1) = (c : Int) := by rw [wr_in (by omega) (by omega)]; omega
    rw [r25_step1, hc, cond_true, hw]
    unfold decF
    by_cases hk : k > 0
    · rw [wr_in (n := k - 1) (by omega) (by omega), ih _ _ (k - 1) _ (by omega) (by omega) (by omega) (by omega)]
      simp only [hk, decide_true, cond_true, if_true]
    · rw [ih _ _ k _ (by omega) (by omega) (by omega) (by omega)]
      simp only [hk, decide_false, cond_false, if_false]
theorem r25_step (K m : Nat) (n a b k ya yb yk : Int) : runL Tryd.prog GLv Γ28 K [false, false, false, true, true, true, true, true, true] Tryd.f25 0 (m + 1) (stL Tryd.f25.ntmps [.non, .non, .non, .own 43 [iv ya, iv yb, iv yk], .own 43 [iv 0, iv 0, iv 0], bv false, iv (n), .own 43 [iv (a), iv (b), iv (k)]]) = cond (n.tmod 2 == 0) (runL Tryd.prog GLv Γ28 K [false, false, false, true, true, true, true, true, true] Tryd.f25 0 m (stL Tryd.f25.ntmps [.non, .non, .non, .own 43 [iv ya, iv yb, iv yk], .own 43 [iv 0, iv 0, iv 0], bv false, iv (wr (n.tdiv 2)), .own 43 [iv (a), iv (b), iv (wr (k + 1))]])) (specEnd (fun a b => runL Tryd.prog GLv Γ28 K [false, false, false, true, true, true, true, true, true] Tryd.f25 1 K (stL Tryd.f25.ntmps [.non, .non, .non, .own 43 [iv ya, iv yb, iv yk], .own 43 [iv 0, iv 0, iv 0], bv false, iv (n), .own 43 [iv (a), iv (b), iv (k)], iv (yk)])) n a b) := by kernel_rfl
theorem r25_run (K : Nat) (ya yb yk : Int) : ∀ (f : Nat) (n a b k : Int) (m : Nat), n ≠ 0 → n.natAbs < 2 ^ f → f ≤ 60 → -1000000 ≤ k → k + f ≤ 1000000 → f < m →
    runL Tryd.prog GLv Γ28 K [false, false, false, true, true, true, true, true, true] Tryd.f25 0 m (stL Tryd.f25.ntmps [.non, .non, .non, .own 43 [iv ya, iv yb, iv yk], .own 43 [iv 0, iv 0, iv 0], bv false, iv (n), .own 43 [iv (a), iv (b), iv (k)]]) = specEnd (fun a b => runL Tryd.prog GLv Γ28 K [false, false, false, true, true, true, true, true, true] Tryd.f25 1 K (stL Tryd.f25.ntmps [.non, .non, .non, .own 43 [iv ya, iv yb, iv yk], .own 43 [iv 0, iv 0, iv 0], bv false, iv ((oddL f n k).1), .own 43 [iv (a), iv (b), iv ((oddL f n k).2)], iv (yk)])) (oddL f n k).1 a b := by
  intro f
  induction f with
  | zero => intro n a b k m hn hf; simp at hf; omega
  | succ f ih =>
    intro n a b k m hn hf hf60 hk hk' hm
    obtain ⟨m, rfl⟩ : ∃ m', m = m' + 1 := ⟨m - 1, by omega⟩
    have h60 : (2 : Nat) ^ (f + 1) ≤ 2 ^ 60 := Nat.pow_le_pow_right (by decide) hf60
    have e60 : (2 : Nat) ^ 60 = 1152921504606846976 := by decide
    rw [r25_step]
    rw [tmod_zero]
    cases ho : odd n with
    | true =>
      have e : oddL (f + 1) n k = (n, k) := by unfold oddL; rw [ho]; rfl
      rw [e]
      rfl
    | false =>
      obtain ⟨h1, h2⟩ := tdiv_two ho
      have e : oddL (f + 1) n k = oddL f (n.tdiv 2) (k + 1) := by conv => lhs; unfold oddL
                                                                  rw [ho]; rfl
      rw [e, Bool.not_false, cond_true, wr_in (n := n.tdiv 2) (by omega) (by omega), wr_in (n := k + 1) (by omega) (by omega)]
      exact ih _ _ _ _ _ (by omega) (by rw [Nat.pow_succ] at hf; omega) (by omega) (by omega) (by omega) (by omega)
theorem e25 (x_a : Int) (x_b : Int) (x_k : Int) (y_a : Int) (y_b : Int) (y_k : Int) (hp : (dvP (⟨x_a, x_b, x_k⟩ : N3) (⟨y_a, y_b, y_k⟩ : N3)) = true) : evN Tryd.prog GLv Γ28 (70) [false, false, false, true, true, true, true, true, true] Tryd.f25 [.agg [.val (.int .i64 x_a), .val (.int .i64 x_b), .val (.int .i64 x_k)], .agg [.val (.int .i64 y_a), .val (.int .i64 y_b), .val (.int .i64 y_k)]] = some (dvR (⟨x_a, x_b, x_k⟩ : N3) (⟨y_a, y_b, y_k⟩ : N3)) := by
  refine (show _ = cond (divN (⟨y_a, y_b, y_k⟩ : N3) == 0) (some dvNo) (runL Tryd.prog GLv Γ28 70 [false, false, false, true, true, true, true, true, true] Tryd.f25 0 70 (stL Tryd.f25.ntmps [.non, .non, .non, .own 43 [iv y_a, iv y_b, iv y_k], .own 43 [iv 0, iv 0, iv 0], bv false, iv (divN (⟨y_a, y_b, y_k⟩ : N3)), .own 43 [iv (wr (wr (x_a * y_a) - wr (wr (2 * x_b) * y_b))), iv (wr (wr (x_b * y_a) - wr (x_a * y_b))), iv (x_k)]])) from by kernel_rfl).trans ?_
  obtain ⟨ra, rb, rA, rB, rM, _, rN⟩ := raw_bd hp
  obtain ⟨⟨_, _, xk, xk'⟩, _, _, yk, yk'⟩ := dvP_iff.1 hp
  simp only at xk xk' yk yk'
  by_cases hz : divN (⟨y_a, y_b, y_k⟩ : N3) = 0
  · have hz' : (divN (⟨y_a, y_b, y_k⟩ : N3) == 0) = true := by simpa using hz
    rw [hz', cond_true]
    unfold dvR dvOk
    rw [hz']
    rfl
  have hz' : (divN (⟨y_a, y_b, y_k⟩ : N3) == 0) = false := by simpa using hz
  rw [hz', cond_false]
  obtain ⟨o1, o2, o3, _, _, _⟩ := dv_same hp hz
  have hb : (divN (⟨y_a, y_b, y_k⟩ : N3)).natAbs < 2 ^ 60 := by
    have : (2 : Nat) ^ 60 = 1152921504606846976 := by decide
    omega
  simp only at rA rB
  rw [rA, rB, r25_run 70 y_a y_b y_k 60 _ _ _ _ 70 hz hb (by decide) (by omega) (by omega) (by decide), oddL_shift]
  refine specEnd_eq hp hz _ fun a b => ?_
  have hy : y_k = ((y_k.toNat : Nat) : Int) := by omega
  conv => lhs; rw [hy]
  exact r25_run1 70 y_a y_b _ _ y_k.toNat a b _ 70 (by show 0 ≤ x_k + dvE (⟨y_a, y_b, y_k⟩ : N3); omega) (by show x_k + dvE (⟨y_a, y_b, y_k⟩ : N3) ≤ _; omega) (by omega) (by omega)
theorem m25 : Meets Tryd.prog GLv 25 s25 := by
  refine meetsN mix0 glv G28 Tryd.func25 (by kernel_rfl) (by kernel_rfl) s25 fun args x h => ?_
  unfold s25 at h
  split at h
  · rename_i x_a x_b x_k y_a y_b y_k
    simp only [Option.some.injEq, Prod.mk.injEq] at h
    obtain ⟨hp, rfl⟩ := h
    exact ⟨_, _, by kernel_rfl, e25 x_a x_b x_k y_a y_b y_k hp⟩
  · cases h
abbrev Γ29 : List (Nat × Ctr) := (25, s25) :: Γ28
theorem G29 : Sound Tryd.prog GLv Γ29 := G28.cons m25

-- impl.vector
def s46 : Ctr := fun
  | [.val (.int .i64 d)] => some (inB d 0 15, (vecP d).av)
  | _ => none

theorem e46 (d : Int) (hp : (inB d 0 15) = true) : evN Tryd.prog GLv Γ29 (0) [] Tryd.f46 [.val (.int .i64 d)] = some ((vecP d).av) := by
  rw [inB_iff] at hp
  have hh : d = 0 ∨ d = 1 ∨ d = 2 ∨ d = 3 ∨ d = 4 ∨ d = 5 ∨ d = 6 ∨ d = 7 ∨ d = 8 ∨ d = 9 ∨ d = 10 ∨ d = 11 ∨ d = 12 ∨ d = 13 ∨ d = 14 ∨ d = 15 := by omega
  clear hp
  rcases hh with rfl | rfl | rfl | rfl | rfl | rfl | rfl | rfl | rfl | rfl | rfl | rfl | rfl | rfl | rfl | rfl
  all_goals (show _ = _; kernel_rfl)
theorem m46 : Meets Tryd.prog GLv 46 s46 := by
  refine meetsN mix0 glv G29 Tryd.func46 (by kernel_rfl) (by kernel_rfl) s46 fun args x h => ?_
  unfold s46 at h
  split at h
  · rename_i d
    simp only [Option.some.injEq, Prod.mk.injEq] at h
    obtain ⟨hp, rfl⟩ := h
    exact ⟨_, _, by kernel_rfl, e46 d hp⟩
  · cases h
abbrev Γ30 : List (Nat × Ctr) := (46, s46) :: Γ29
theorem G30 : Sound Tryd.prog GLv Γ30 := G29.cons m46

-- spec.l02Mod
def s44 : Ctr := fun
  | [.val (.int .i64 d)] => some (inB d 0 15, .val (.int .i64 d))
  | _ => none

theorem e44 (d : Int) (hp : (inB d 0 15) = true) : evN Tryd.prog GLv Γ30 (0) [] Tryd.f44 [.val (.int .i64 d)] = some (.val (.int .i64 d)) := by
  rw [inB_iff] at hp
  have hh : d = 0 ∨ d = 1 ∨ d = 2 ∨ d = 3 ∨ d = 4 ∨ d = 5 ∨ d = 6 ∨ d = 7 ∨ d = 8 ∨ d = 9 ∨ d = 10 ∨ d = 11 ∨ d = 12 ∨ d = 13 ∨ d = 14 ∨ d = 15 := by omega
  clear hp
  rcases hh with rfl | rfl | rfl | rfl | rfl | rfl | rfl | rfl | rfl | rfl | rfl | rfl | rfl | rfl | rfl | rfl
  all_goals (show _ = _; kernel_rfl)
theorem m44 : Meets Tryd.prog GLv 44 s44 := by
  refine meetsN mix0 glv G30 Tryd.func44 (by kernel_rfl) (by kernel_rfl) s44 fun args x h => ?_
  unfold s44 at h
  split at h
  · rename_i d
    simp only [Option.some.injEq, Prod.mk.injEq] at h
    obtain ⟨hp, rfl⟩ := h
    exact ⟨_, _, by kernel_rfl, e44 d hp⟩
  · cases h
abbrev Γ31 : List (Nat × Ctr) := (44, s44) :: Γ30
theorem G31 : Sound Tryd.prog GLv Γ31 := G30.cons m44

-- spec.l02Vec
def s24 : Ctr := fun
  | [.val (.int .i64 d)] => some (inB d 0 15, (vecP d).av)
  | _ => none

theorem e24 (d : Int) (hp : (inB d 0 15) = true) : evN Tryd.prog GLv Γ31 (0) [] Tryd.f24 [.val (.int .i64 d)] = some ((vecP d).av) := by
  rw [inB_iff] at hp
  have hh : d = 0 ∨ d = 1 ∨ d = 2 ∨ d = 3 ∨ d = 4 ∨ d = 5 ∨ d = 6 ∨ d = 7 ∨ d = 8 ∨ d = 9 ∨ d = 10 ∨ d = 11 ∨ d = 12 ∨ d = 13 ∨ d = 14 ∨ d = 15 := by omega
  clear hp
  rcases hh with rfl | rfl | rfl | rfl | rfl | rfl | rfl | rfl | rfl | rfl | rfl | rfl | rfl | rfl | rfl | rfl
  all_goals (show _ = _; kernel_rfl)
theorem m24 : Meets Tryd.prog GLv 24 s24 := by
  refine meetsN mix0 glv G31 Tryd.func24 (by kernel_rfl) (by kernel_rfl) s24 fun args x h => ?_
  unfold s24 at h
  split at h
  · rename_i d
    simp only [Option.some.injEq, Prod.mk.injEq] at h
    obtain ⟨hp, rfl⟩ := h
    exact ⟨_, _, by kernel_rfl, e24 d hp⟩
  · cases h
abbrev Γ32 : List (Nat × Ctr) := (24, s24) :: Γ31
theorem G32 : Sound Tryd.prog GLv Γ32 := G31.cons m24

-- (impl.Line).normal
def s35 : Ctr := fun
  | [.agg [.val (.int .i64 l_d), .val (.int .i64 l_a), .val (.int .i64 l_b), .val (.int .i64 l_k)]] => some (inB (wr (l_d + 4)) 0 15, (nrm l_d).av)
  | _ => none

theorem e35 (l_d : Int) (l_a : Int) (l_b : Int) (l_k : Int) (hp : (inB (wr (l_d + 4)) 0 15) = true) : evN Tryd.prog GLv Γ32 (0) [] Tryd.f35 [.agg [.val (.int .i64 l_d), .val (.int .i64 l_a), .val (.int .i64 l_b), .val (.int .i64 l_k)]] = some ((nrm l_d).av) := by
  refine (show _ = cond (inB (wr (l_d + 4)) 0 15) (some (nrm l_d).av) none from by kernel_rfl).trans ?_
  rw [hp]
  rfl
theorem m35 : Meets Tryd.prog GLv 35 s35 := by
  refine meetsN mix0 glv G32 Tryd.func35 (by kernel_rfl) (by kernel_rfl) s35 fun args x h => ?_
  unfold s35 at h
  split at h
  · rename_i l_d l_a l_b l_k
    simp only [Option.some.injEq, Prod.mk.injEq] at h
    obtain ⟨hp, rfl⟩ := h
    exact ⟨_, _, by kernel_rfl, e35 l_d l_a l_b l_k hp⟩
  · cases h
abbrev Γ33 : List (Nat × Ctr) := (35, s35) :: Γ32
theorem G33 : Sound Tryd.prog GLv Γ33 := G32.cons m35

-- spec.l02LineOf
def s13 : Ctr := fun
  | [.agg [.val (.int .i64 l_d), .val (.int .i64 l_a), .val (.int .i64 l_b), .val (.int .i64 l_k)]] => some (true, .agg [.val (.int .i64 l_d), .val (.int .i64 l_a), .val (.int .i64 l_b), .val (.int .i64 l_k)])
  | _ => none

theorem e13 (l_d : Int) (l_a : Int) (l_b : Int) (l_k : Int) : evN Tryd.prog GLv Γ33 (0) [] Tryd.f13 [.agg [.val (.int .i64 l_d), .val (.int .i64 l_a), .val (.int .i64 l_b), .val (.int .i64 l_k)]] = some (.agg [.val (.int .i64 l_d), .val (.int .i64 l_a), .val (.int .i64 l_b), .val (.int .i64 l_k)]) := by
  kernel_rfl
theorem m13 : Meets Tryd.prog GLv 13 s13 := by
  refine meetsN mix0 glv G33 Tryd.func13 (by kernel_rfl) (by kernel_rfl) s13 fun args x h => ?_
  unfold s13 at h
  split at h
  · rename_i l_d l_a l_b l_k
    simp only [Option.some.injEq, Prod.mk.injEq] at h
    obtain ⟨hp, rfl⟩ := h
    exact ⟨_, _, by kernel_rfl, e13 l_d l_a l_b l_k⟩
  · cases h
abbrev Γ34 : List (Nat × Ctr) := (13, s13) :: Γ33
theorem G34 : Sound Tryd.prog GLv Γ34 := G33.cons m13

-- laws.toLine
def s5 : Ctr := fun
  | [.agg [.val (.int .i64 l_d), .val (.int .i64 l_a), .val (.int .i64 l_b), .val (.int .i64 l_k)]] => some (true, .agg [.val (.int .i64 l_d), .val (.int .i64 l_a), .val (.int .i64 l_b), .val (.int .i64 l_k)])
  | _ => none

theorem e5 (l_d : Int) (l_a : Int) (l_b : Int) (l_k : Int) : evN Tryd.prog GLv Γ34 (0) [] Tryd.f5 [.agg [.val (.int .i64 l_d), .val (.int .i64 l_a), .val (.int .i64 l_b), .val (.int .i64 l_k)]] = some (.agg [.val (.int .i64 l_d), .val (.int .i64 l_a), .val (.int .i64 l_b), .val (.int .i64 l_k)]) := by
  kernel_rfl
theorem m5 : Meets Tryd.prog GLv 5 s5 := by
  refine meetsN mix0 glv G34 Tryd.func5 (by kernel_rfl) (by kernel_rfl) s5 fun args x h => ?_
  unfold s5 at h
  split at h
  · rename_i l_d l_a l_b l_k
    simp only [Option.some.injEq, Prod.mk.injEq] at h
    obtain ⟨hp, rfl⟩ := h
    exact ⟨_, _, by kernel_rfl, e5 l_d l_a l_b l_k⟩
  · cases h
abbrev Γ35 : List (Nat × Ctr) := (5, s5) :: Γ34
theorem G35 : Sound Tryd.prog GLv Γ35 := G34.cons m5

-- impl.ValidLine
def s16 : Ctr := fun
  | [.agg [.val (.int .i64 l_d), .val (.int .i64 l_a), .val (.int .i64 l_b), .val (.int .i64 l_k)]] => some (true, bv (inB l_d 0 7 && validB (⟨l_a, l_b, l_k⟩ : N3)))
  | _ => none

theorem e16 (l_d : Int) (l_a : Int) (l_b : Int) (l_k : Int) : evN Tryd.prog GLv Γ35 (0) [] Tryd.f16 [.agg [.val (.int .i64 l_d), .val (.int .i64 l_a), .val (.int .i64 l_b), .val (.int .i64 l_k)]] = some (bv (inB l_d 0 7 && validB (⟨l_a, l_b, l_k⟩ : N3))) := by
  refine (show _ = cond (inB l_d 0 7) ( some (bv (validB (N3.mk l_a l_b l_k))) ) ( some (bv (false)) ) from by kernel_rfl).trans ?_
  cases inB l_d 0 7 <;> rfl
theorem m16 : Meets Tryd.prog GLv 16 s16 := by
  refine meetsN mix0 glv G35 Tryd.func16 (by kernel_rfl) (by kernel_rfl) s16 fun args x h => ?_
  unfold s16 at h
  split at h
  · rename_i l_d l_a l_b l_k
    simp only [Option.some.injEq, Prod.mk.injEq] at h
    obtain ⟨hp, rfl⟩ := h
    exact ⟨_, _, by kernel_rfl, e16 l_d l_a l_b l_k⟩
  · cases h
abbrev Γ36 : List (Nat × Ctr) := (16, s16) :: Γ35
theorem G36 : Sound Tryd.prog GLv Γ36 := G35.cons m16

-- spec.l02Line
def s9 : Ctr := fun
  | [.agg [.val (.int .i64 l_d), .val (.int .i64 l_a), .val (.int .i64 l_b), .val (.int .i64 l_k)]] => some (true, bv (inB l_d 0 7 && validB (⟨l_a, l_b, l_k⟩ : N3)))
  | _ => none

theorem e9 (l_d : Int) (l_a : Int) (l_b : Int) (l_k : Int) : evN Tryd.prog GLv Γ36 (0) [] Tryd.f9 [.agg [.val (.int .i64 l_d), .val (.int .i64 l_a), .val (.int .i64 l_b), .val (.int .i64 l_k)]] = some (bv (inB l_d 0 7 && validB (⟨l_a, l_b, l_k⟩ : N3))) := by
  refine (show _ = cond (inB l_d 0 7) ( some (bv (validB (N3.mk l_a l_b l_k))) ) ( some (bv (false)) ) from by kernel_rfl).trans ?_
  cases inB l_d 0 7 <;> rfl
theorem m9 : Meets Tryd.prog GLv 9 s9 := by
  refine meetsN mix0 glv G36 Tryd.func9 (by kernel_rfl) (by kernel_rfl) s9 fun args x h => ?_
  unfold s9 at h
  split at h
  · rename_i l_d l_a l_b l_k
    simp only [Option.some.injEq, Prod.mk.injEq] at h
    obtain ⟨hp, rfl⟩ := h
    exact ⟨_, _, by kernel_rfl, e9 l_d l_a l_b l_k⟩
  · cases h
abbrev Γ37 : List (Nat × Ctr) := (9, s9) :: Γ36
theorem G37 : Sound Tryd.prog GLv Γ37 := G36.cons m9

-- (impl.Point).dot
def s37 : Ctr := fun
  | [.agg [.val (.int .i64 p_xa), .val (.int .i64 p_xb), .val (.int .i64 p_xk), .val (.int .i64 p_ya), .val (.int .i64 p_yb), .val (.int .i64 p_yk)], .agg [.val (.int .i64 q_xa), .val (.int .i64 q_xb), .val (.int .i64 q_xk), .val (.int .i64 q_ya), .val (.int .i64 q_yb), .val (.int .i64 q_yk)]] => some (pkD (⟨(⟨p_xa, p_xb, p_xk⟩ : N3), (⟨p_ya, p_yb, p_yk⟩ : N3)⟩ : P2) (⟨(⟨q_xa, q_xb, q_xk⟩ : N3), (⟨q_ya, q_yb, q_yk⟩ : N3)⟩ : P2), (dotF (⟨(⟨p_xa, p_xb, p_xk⟩ : N3), (⟨p_ya, p_yb, p_yk⟩ : N3)⟩ : P2) (⟨(⟨q_xa, q_xb, q_xk⟩ : N3), (⟨q_ya, q_yb, q_yk⟩ : N3)⟩ : P2)).av)
  | _ => none

theorem e37 (p_xa : Int) (p_xb : Int) (p_xk : Int) (p_ya : Int) (p_yb : Int) (p_yk : Int) (q_xa : Int) (q_xb : Int) (q_xk : Int) (q_ya : Int) (q_yb : Int) (q_yk : Int) (hp : (pkD (⟨(⟨p_xa, p_xb, p_xk⟩ : N3), (⟨p_ya, p_yb, p_yk⟩ : N3)⟩ : P2) (⟨(⟨q_xa, q_xb, q_xk⟩ : N3), (⟨q_ya, q_yb, q_yk⟩ : N3)⟩ : P2)) = true) : evN Tryd.prog GLv Γ37 (0) [] Tryd.f37 [.agg [.val (.int .i64 p_xa), .val (.int .i64 p_xb), .val (.int .i64 p_xk), .val (.int .i64 p_ya), .val (.int .i64 p_yb), .val (.int .i64 p_yk)], .agg [.val (.int .i64 q_xa), .val (.int .i64 q_xb), .val (.int .i64 q_xk), .val (.int .i64 q_ya), .val (.int .i64 q_yb), .val (.int .i64 q_yk)]] = some ((dotF (⟨(⟨p_xa, p_xb, p_xk⟩ : N3), (⟨p_ya, p_yb, p_yk⟩ : N3)⟩ : P2) (⟨(⟨q_xa, q_xb, q_xk⟩ : N3), (⟨q_ya, q_yb, q_yk⟩ : N3)⟩ : P2)).av) := by
  simp only [pkD, Bool.and_eq_true] at hp
  obtain ⟨h1, h2, h3⟩ := hp
  refine (show _ = cond (pkm (⟨p_xa, p_xb, p_xk⟩ : N3) (⟨q_xa, q_xb, q_xk⟩ : N3)) (cond (pkm (⟨p_ya, p_yb, p_yk⟩ : N3) (⟨q_ya, q_yb, q_yk⟩ : N3)) (cond (pk (mulF (⟨p_xa, p_xb, p_xk⟩ : N3) (⟨q_xa, q_xb, q_xk⟩ : N3)) (mulF (⟨p_ya, p_yb, p_yk⟩ : N3) (⟨q_ya, q_yb, q_yk⟩ : N3))) (some (dotF (⟨(⟨p_xa, p_xb, p_xk⟩ : N3), (⟨p_ya, p_yb, p_yk⟩ : N3)⟩ : P2) (⟨(⟨q_xa, q_xb, q_xk⟩ : N3), (⟨q_ya, q_yb, q_yk⟩ : N3)⟩ : P2)).av) none) none) none from by kernel_rfl).trans ?_
  rw [h1, h2, h3]
  rfl
theorem m37 : Meets Tryd.prog GLv 37 s37 := by
  refine meetsN mix0 glv G37 Tryd.func37 (by kernel_rfl) (by kernel_rfl) s37 fun args x h => ?_
  unfold s37 at h
  split at h
  · rename_i p_xa p_xb p_xk p_ya p_yb p_yk q_xa q_xb q_xk q_ya q_yb q_yk
    simp only [Option.some.injEq, Prod.mk.injEq] at h
    obtain ⟨hp, rfl⟩ := h
    exact ⟨_, _, by kernel_rfl, e37 p_xa p_xb p_xk p_ya p_yb p_yk q_xa q_xb q_xk q_ya q_yb q_yk hp⟩
  · cases h
abbrev Γ38 : List (Nat × Ctr) := (37, s37) :: Γ37
theorem G38 : Sound Tryd.prog GLv Γ38 := G37.cons m37

-- (impl.Point).times
def s40 : Ctr := fun
  | [.agg [.val (.int .i64 p_xa), .val (.int .i64 p_xb), .val (.int .i64 p_xk), .val (.int .i64 p_ya), .val (.int .i64 p_yb), .val (.int .i64 p_yk)], .agg [.val (.int .i64 n_a), .val (.int .i64 n_b), .val (.int .i64 n_k)]] => some (pkT (⟨(⟨p_xa, p_xb, p_xk⟩ : N3), (⟨p_ya, p_yb, p_yk⟩ : N3)⟩ : P2) (⟨n_a, n_b, n_k⟩ : N3), (timesF (⟨(⟨p_xa, p_xb, p_xk⟩ : N3), (⟨p_ya, p_yb, p_yk⟩ : N3)⟩ : P2) (⟨n_a, n_b, n_k⟩ : N3)).av)
  | _ => none

theorem e40 (p_xa : Int) (p_xb : Int) (p_xk : Int) (p_ya : Int) (p_yb : Int) (p_yk : Int) (n_a : Int) (n_b : Int) (n_k : Int) (hp : (pkT (⟨(⟨p_xa, p_xb, p_xk⟩ : N3), (⟨p_ya, p_yb, p_yk⟩ : N3)⟩ : P2) (⟨n_a, n_b, n_k⟩ : N3)) = true) : evN Tryd.prog GLv Γ38 (0) [] Tryd.f40 [.agg [.val (.int .i64 p_xa), .val (.int .i64 p_xb), .val (.int .i64 p_xk), .val (.int .i64 p_ya), .val (.int .i64 p_yb), .val (.int .i64 p_yk)], .agg [.val (.int .i64 n_a), .val (.int .i64 n_b), .val (.int .i64 n_k)]] = some ((timesF (⟨(⟨p_xa, p_xb, p_xk⟩ : N3), (⟨p_ya, p_yb, p_yk⟩ : N3)⟩ : P2) (⟨n_a, n_b, n_k⟩ : N3)).av) := by
  simp only [pkT, Bool.and_eq_true] at hp
  obtain ⟨h1, h2⟩ := hp
  refine (show _ = cond (pkm (⟨p_xa, p_xb, p_xk⟩ : N3) (⟨n_a, n_b, n_k⟩ : N3)) (cond (pkm (⟨p_ya, p_yb, p_yk⟩ : N3) (⟨n_a, n_b, n_k⟩ : N3)) (some (timesF (⟨(⟨p_xa, p_xb, p_xk⟩ : N3), (⟨p_ya, p_yb, p_yk⟩ : N3)⟩ : P2) (⟨n_a, n_b, n_k⟩ : N3)).av) none) none from by kernel_rfl).trans ?_
  rw [h1, h2]
  rfl
theorem m40 : Meets Tryd.prog GLv 40 s40 := by
  refine meetsN mix0 glv G38 Tryd.func40 (by kernel_rfl) (by kernel_rfl) s40 fun args x h => ?_
  unfold s40 at h
  split at h
  · rename_i p_xa p_xb p_xk p_ya p_yb p_yk n_a n_b n_k
    simp only [Option.some.injEq, Prod.mk.injEq] at h
    obtain ⟨hp, rfl⟩ := h
    exact ⟨_, _, by kernel_rfl, e40 p_xa p_xb p_xk p_ya p_yb p_yk n_a n_b n_k hp⟩
  · cases h
abbrev Γ39 : List (Nat × Ctr) := (40, s40) :: Γ38
theorem G39 : Sound Tryd.prog GLv Γ39 := G38.cons m40

-- spec.l02Minus
def s30 : Ctr := fun
  | [.agg [.val (.int .i64 p_xa), .val (.int .i64 p_xb), .val (.int .i64 p_xk), .val (.int .i64 p_ya), .val (.int .i64 p_yb), .val (.int .i64 p_yk)], .agg [.val (.int .i64 q_xa), .val (.int .i64 q_xb), .val (.int .i64 q_xk), .val (.int .i64 q_ya), .val (.int .i64 q_yb), .val (.int .i64 q_yk)]] => some (pkP (⟨(⟨p_xa, p_xb, p_xk⟩ : N3), (⟨p_ya, p_yb, p_yk⟩ : N3)⟩ : P2) (⟨(⟨q_xa, q_xb, q_xk⟩ : N3), (⟨q_ya, q_yb, q_yk⟩ : N3)⟩ : P2), (subP (⟨(⟨p_xa, p_xb, p_xk⟩ : N3), (⟨p_ya, p_yb, p_yk⟩ : N3)⟩ : P2) (⟨(⟨q_xa, q_xb, q_xk⟩ : N3), (⟨q_ya, q_yb, q_yk⟩ : N3)⟩ : P2)).av)
  | _ => none

theorem e30 (p_xa : Int) (p_xb : Int) (p_xk : Int) (p_ya : Int) (p_yb : Int) (p_yk : Int) (q_xa : Int) (q_xb : Int) (q_xk : Int) (q_ya : Int) (q_yb : Int) (q_yk : Int) (hp : (pkP (⟨(⟨p_xa, p_xb, p_xk⟩ : N3), (⟨p_ya, p_yb, p_yk⟩ : N3)⟩ : P2) (⟨(⟨q_xa, q_xb, q_xk⟩ : N3), (⟨q_ya, q_yb, q_yk⟩ : N3)⟩ : P2)) = true) : evN Tryd.prog GLv Γ39 (0) [] Tryd.f30 [.agg [.val (.int .i64 p_xa), .val (.int .i64 p_xb), .val (.int .i64 p_xk), .val (.int .i64 p_ya), .val (.int .i64 p_yb), .val (.int .i64 p_yk)], .agg [.val (.int .i64 q_xa), .val (.int .i64 q_xb), .val (.int .i64 q_xk), .val (.int .i64 q_ya), .val (.int .i64 q_yb), .val (.int .i64 q_yk)]] = some ((subP (⟨(⟨p_xa, p_xb, p_xk⟩ : N3), (⟨p_ya, p_yb, p_yk⟩ : N3)⟩ : P2) (⟨(⟨q_xa, q_xb, q_xk⟩ : N3), (⟨q_ya, q_yb, q_yk⟩ : N3)⟩ : P2)).av) := by
  simp only [pkP, Bool.and_eq_true] at hp
  obtain ⟨h1, h2⟩ := hp
  refine (show _ = cond (pk (⟨p_xa, p_xb, p_xk⟩ : N3) (⟨q_xa, q_xb, q_xk⟩ : N3)) (cond (pk (⟨p_ya, p_yb, p_yk⟩ : N3) (⟨q_ya, q_yb, q_yk⟩ : N3)) (some (subP (⟨(⟨p_xa, p_xb, p_xk⟩ : N3), (⟨p_ya, p_yb, p_yk⟩ : N3)⟩ : P2) (⟨(⟨q_xa, q_xb, q_xk⟩ : N3), (⟨q_ya, q_yb, q_yk⟩ : N3)⟩ : P2)).av) none) none from by kernel_rfl).trans ?_
  rw [h1, h2]
  rfl
theorem m30 : Meets Tryd.prog GLv 30 s30 := by
  refine meetsN mix0 glv G39 Tryd.func30 (by kernel_rfl) (by kernel_rfl) s30 fun args x h => ?_
  unfold s30 at h
  split at h
  · rename_i p_xa p_xb p_xk p_ya p_yb p_yk q_xa q_xb q_xk q_ya q_yb q_yk
    simp only [Option.some.injEq, Prod.mk.injEq] at h
    obtain ⟨hp, rfl⟩ := h
    exact ⟨_, _, by kernel_rfl, e30 p_xa p_xb p_xk p_ya p_yb p_yk q_xa q_xb q_xk q_ya q_yb q_yk hp⟩
  · cases h
abbrev Γ40 : List (Nat × Ctr) := (30, s30) :: Γ39
theorem G40 : Sound Tryd.prog GLv Γ40 := G39.cons m30

-- spec.l02Dot
def s27 : Ctr := fun
  | [.val (.int .i64 d), .agg [.val (.int .i64 p_xa), .val (.int .i64 p_xb), .val (.int .i64 p_xk), .val (.int .i64 p_ya), .val (.int .i64 p_yb), .val (.int .i64 p_yk)]] => some (inB d 0 15 && pkD (vecP d) (⟨(⟨p_xa, p_xb, p_xk⟩ : N3), (⟨p_ya, p_yb, p_yk⟩ : N3)⟩ : P2), (dotF (vecP d) (⟨(⟨p_xa, p_xb, p_xk⟩ : N3), (⟨p_ya, p_yb, p_yk⟩ : N3)⟩ : P2)).av)
  | _ => none

theorem e27 (d : Int) (p_xa : Int) (p_xb : Int) (p_xk : Int) (p_ya : Int) (p_yb : Int) (p_yk : Int) (hp : (inB d 0 15 && pkD (vecP d) (⟨(⟨p_xa, p_xb, p_xk⟩ : N3), (⟨p_ya, p_yb, p_yk⟩ : N3)⟩ : P2)) = true) : evN Tryd.prog GLv Γ40 (0) [] Tryd.f27 [.val (.int .i64 d), .agg [.val (.int .i64 p_xa), .val (.int .i64 p_xb), .val (.int .i64 p_xk), .val (.int .i64 p_ya), .val (.int .i64 p_yb), .val (.int .i64 p_yk)]] = some ((dotF (vecP d) (⟨(⟨p_xa, p_xb, p_xk⟩ : N3), (⟨p_ya, p_yb, p_yk⟩ : N3)⟩ : P2)).av) := by
  simp only [pkD, Bool.and_eq_true] at hp
  obtain ⟨h0, h1, h2, h3⟩ := hp
  refine (show _ = cond (inB d 0 15) (cond (pkm (vecP d).x (⟨p_xa, p_xb, p_xk⟩ : N3)) (cond (pkm (vecP d).y (⟨p_ya, p_yb, p_yk⟩ : N3)) (cond (pk (mulF (vecP d).x (⟨p_xa, p_xb, p_xk⟩ : N3)) (mulF (vecP d).y (⟨p_ya, p_yb, p_yk⟩ : N3))) (some (dotF (vecP d) (⟨(⟨p_xa, p_xb, p_xk⟩ : N3), (⟨p_ya, p_yb, p_yk⟩ : N3)⟩ : P2)).av) none) none) none) none from by kernel_rfl).trans ?_
  rw [h0, h1, h2, h3]
  rfl
theorem m27 : Meets Tryd.prog GLv 27 s27 := by
  refine meetsN mix0 glv G40 Tryd.func27 (by kernel_rfl) (by kernel_rfl) s27 fun args x h => ?_
  unfold s27 at h
  split at h
  · rename_i d p_xa p_xb p_xk p_ya p_yb p_yk
    simp only [Option.some.injEq, Prod.mk.injEq] at h
    obtain ⟨hp, rfl⟩ := h
    exact ⟨_, _, by kernel_rfl, e27 d p_xa p_xb p_xk p_ya p_yb p_yk hp⟩
  · cases h
abbrev Γ41 : List (Nat × Ctr) := (27, s27) :: Γ40
theorem G41 : Sound Tryd.prog GLv Γ41 := G40.cons m27

-- spec.l02Square
def s28 : Ctr := fun
  | [.val (.int .i64 d)] => some (inB d 0 15 && pkD (vecP d) (vecP d), (dotF (vecP d) (vecP d)).av)
  | _ => none

theorem e28 (d : Int) (hp : (inB d 0 15 && pkD (vecP d) (vecP d)) = true) : evN Tryd.prog GLv Γ41 (0) [] Tryd.f28 [.val (.int .i64 d)] = some ((dotF (vecP d) (vecP d)).av) := by
  simp only [pkD, Bool.and_eq_true] at hp
  obtain ⟨h0, h1, h2, h3⟩ := hp
  refine (show _ = cond (inB d 0 15) (cond (pkm (vecP d).x (vecP d).x) (cond (pkm (vecP d).y (vecP d).y) (cond (pk (mulF (vecP d).x (vecP d).x) (mulF (vecP d).y (vecP d).y)) (some (dotF (vecP d) (vecP d)).av) none) none) none) none from by kernel_rfl).trans ?_
  rw [h0, h1, h2, h3]
  rfl
theorem m28 : Meets Tryd.prog GLv 28 s28 := by
  refine meetsN mix0 glv G41 Tryd.func28 (by kernel_rfl) (by kernel_rfl) s28 fun args x h => ?_
  unfold s28 at h
  split at h
  · rename_i d
    simp only [Option.some.injEq, Prod.mk.injEq] at h
    obtain ⟨hp, rfl⟩ := h
    exact ⟨_, _, by kernel_rfl, e28 d hp⟩
  · cases h
abbrev Γ42 : List (Nat × Ctr) := (28, s28) :: Γ41
theorem G42 : Sound Tryd.prog GLv Γ42 := G41.cons m28

-- (impl.Line).reflect
def s18 : Ctr := fun
  | [.agg [.val (.int .i64 l_d), .val (.int .i64 l_a), .val (.int .i64 l_b), .val (.int .i64 l_k)], .agg [.val (.int .i64 p_xa), .val (.int .i64 p_xb), .val (.int .i64 p_xk), .val (.int .i64 p_ya), .val (.int .i64 p_yb), .val (.int .i64 p_yk)]] => some (inB l_d 0 7 && (validB (⟨l_a, l_b, l_k⟩ : N3) && valP (⟨(⟨p_xa, p_xb, p_xk⟩ : N3), (⟨p_ya, p_yb, p_yk⟩ : N3)⟩ : P2)), (rflI (nrm l_d) (⟨l_a, l_b, l_k⟩ : N3) (⟨(⟨p_xa, p_xb, p_xk⟩ : N3), (⟨p_ya, p_yb, p_yk⟩ : N3)⟩ : P2)).av)
  | _ => none

theorem e18 (l_d : Int) (l_a : Int) (l_b : Int) (l_k : Int) (p_xa : Int) (p_xb : Int) (p_xk : Int) (p_ya : Int) (p_yb : Int) (p_yk : Int) (hp : (inB l_d 0 7 && (validB (⟨l_a, l_b, l_k⟩ : N3) && valP (⟨(⟨p_xa, p_xb, p_xk⟩ : N3), (⟨p_ya, p_yb, p_yk⟩ : N3)⟩ : P2))) = true) : evN Tryd.prog GLv Γ42 (0) [] Tryd.f18 [.agg [.val (.int .i64 l_d), .val (.int .i64 l_a), .val (.int .i64 l_b), .val (.int .i64 l_k)], .agg [.val (.int .i64 p_xa), .val (.int .i64 p_xb), .val (.int .i64 p_xk), .val (.int .i64 p_ya), .val (.int .i64 p_yb), .val (.int .i64 p_yk)]] = some ((rflI (nrm l_d) (⟨l_a, l_b, l_k⟩ : N3) (⟨(⟨p_xa, p_xb, p_xk⟩ : N3), (⟨p_ya, p_yb, p_yk⟩ : N3)⟩ : P2)).av) := by
  simp only [Bool.and_eq_true] at hp
  obtain ⟨h1, h2, h3⟩ := hp
  obtain ⟨E, hn⟩ := nrm_all l_d h1
  obtain ⟨a1, a2, a3, a4, a5, a6, a7, a8, a9, _⟩ := refl_same hn h2 h3
  have h15 := nrm_in h1
  obtain ⟨b1, b2, b3⟩ := a7 _ rfl
  refine (show _ = cond (inB (wr (l_d + 4)) 0 15) (cond (pkD (nrm l_d) (⟨(⟨p_xa, p_xb, p_xk⟩ : N3), (⟨p_ya, p_yb, p_yk⟩ : N3)⟩ : P2)) (cond (pk (⟨l_a, l_b, l_k⟩ : N3) (dotF (nrm l_d) (⟨(⟨p_xa, p_xb, p_xk⟩ : N3), (⟨p_ya, p_yb, p_yk⟩ : N3)⟩ : P2))) (cond (pkD (nrm l_d) (nrm l_d)) (cond (dvP (subF (⟨l_a, l_b, l_k⟩ : N3) (dotF (nrm l_d) (⟨(⟨p_xa, p_xb, p_xk⟩ : N3), (⟨p_ya, p_yb, p_yk⟩ : N3)⟩ : P2))) (dotF (nrm l_d) (nrm l_d))) (cond (pk (dvF (subF (⟨l_a, l_b, l_k⟩ : N3) (dotF (nrm l_d) (⟨(⟨p_xa, p_xb, p_xk⟩ : N3), (⟨p_ya, p_yb, p_yk⟩ : N3)⟩ : P2))) (dotF (nrm l_d) (nrm l_d))) (dvF (subF (⟨l_a, l_b, l_k⟩ : N3) (dotF (nrm l_d) (⟨(⟨p_xa, p_xb, p_xk⟩ : N3), (⟨p_ya, p_yb, p_yk⟩ : N3)⟩ : P2))) (dotF (nrm l_d) (nrm l_d)))) (cond (pkT (nrm l_d) (addF (dvF (subF (⟨l_a, l_b, l_k⟩ : N3) (dotF (nrm l_d) (⟨(⟨p_xa, p_xb, p_xk⟩ : N3), (⟨p_ya, p_yb, p_yk⟩ : N3)⟩ : P2))) (dotF (nrm l_d) (nrm l_d))) (dvF (subF (⟨l_a, l_b, l_k⟩ : N3) (dotF (nrm l_d) (⟨(⟨p_xa, p_xb, p_xk⟩ : N3), (⟨p_ya, p_yb, p_yk⟩ : N3)⟩ : P2))) (dotF (nrm l_d) (nrm l_d))))) (cond (pkP (⟨(⟨p_xa, p_xb, p_xk⟩ : N3), (⟨p_ya, p_yb, p_yk⟩ : N3)⟩ : P2) (timesF (nrm l_d) (addF (dvF (subF (⟨l_a, l_b, l_k⟩ : N3) (dotF (nrm l_d) (⟨(⟨p_xa, p_xb, p_xk⟩ : N3), (⟨p_ya, p_yb, p_yk⟩ : N3)⟩ : P2))) (dotF (nrm l_d) (nrm l_d))) (dvF (subF (⟨l_a, l_b, l_k⟩ : N3) (dotF (nrm l_d) (⟨(⟨p_xa, p_xb, p_xk⟩ : N3), (⟨p_ya, p_yb, p_yk⟩ : N3)⟩ : P2))) (dotF (nrm l_d) (nrm l_d)))))) (some (rflI (nrm l_d) (⟨l_a, l_b, l_k⟩ : N3) (⟨(⟨p_xa, p_xb, p_xk⟩ : N3), (⟨p_ya, p_yb, p_yk⟩ : N3)⟩ : P2)).av) none) none) none) none) none) none) none) none from by kernel_rfl).trans ?_
  rw [h15, a1, a3, a2, a5, b1, b2, b3]
  rfl
theorem m18 : Meets Tryd.prog GLv 18 s18 := by
  refine meetsN mix0 glv G42 Tryd.func18 (by kernel_rfl) (by kernel_rfl) s18 fun args x h => ?_
  unfold s18 at h
  split at h
  · rename_i l_d l_a l_b l_k p_xa p_xb p_xk p_ya p_yb p_yk
    simp only [Option.some.injEq, Prod.mk.injEq] at h
    obtain ⟨hp, rfl⟩ := h
    exact ⟨_, _, by kernel_rfl, e18 l_d l_a l_b l_k p_xa p_xb p_xk p_ya p_yb p_yk hp⟩
  · cases h
abbrev Γ43 : List (Nat × Ctr) := (18, s18) :: Γ42
theorem G43 : Sound Tryd.prog GLv Γ43 := G42.cons m18

-- spec.l02Reflect
def s12 : Ctr := fun
  | [.agg [.val (.int .i64 l_d), .val (.int .i64 l_a), .val (.int .i64 l_b), .val (.int .i64 l_k)], .agg [.val (.int .i64 p_xa), .val (.int .i64 p_xb), .val (.int .i64 p_xk), .val (.int .i64 p_ya), .val (.int .i64 p_yb), .val (.int .i64 p_yk)]] => some (inB l_d 0 7 && (validB (⟨l_a, l_b, l_k⟩ : N3) && valP (⟨(⟨p_xa, p_xb, p_xk⟩ : N3), (⟨p_ya, p_yb, p_yk⟩ : N3)⟩ : P2)), (rflI (nrm l_d) (⟨l_a, l_b, l_k⟩ : N3) (⟨(⟨p_xa, p_xb, p_xk⟩ : N3), (⟨p_ya, p_yb, p_yk⟩ : N3)⟩ : P2)).av)
  | _ => none

theorem e12 (l_d : Int) (l_a : Int) (l_b : Int) (l_k : Int) (p_xa : Int) (p_xb : Int) (p_xk : Int) (p_ya : Int) (p_yb : Int) (p_yk : Int) (hp : (inB l_d 0 7 && (validB (⟨l_a, l_b, l_k⟩ : N3) && valP (⟨(⟨p_xa, p_xb, p_xk⟩ : N3), (⟨p_ya, p_yb, p_yk⟩ : N3)⟩ : P2))) = true) : evN Tryd.prog GLv Γ43 (0) [] Tryd.f12 [.agg [.val (.int .i64 l_d), .val (.int .i64 l_a), .val (.int .i64 l_b), .val (.int .i64 l_k)], .agg [.val (.int .i64 p_xa), .val (.int .i64 p_xb), .val (.int .i64 p_xk), .val (.int .i64 p_ya), .val (.int .i64 p_yb), .val (.int .i64 p_yk)]] = some ((rflI (nrm l_d) (⟨l_a, l_b, l_k⟩ : N3) (⟨(⟨p_xa, p_xb, p_xk⟩ : N3), (⟨p_ya, p_yb, p_yk⟩ : N3)⟩ : P2)).av) := by
  simp only [Bool.and_eq_true] at hp
  obtain ⟨h1, h2, h3⟩ := hp
  obtain ⟨E, hn⟩ := nrm_all l_d h1
  obtain ⟨a1, a2, a3, a4, a5, a6, a7, a8, a9, _⟩ := refl_same hn h2 h3
  have h15 := nrm_in h1
  obtain ⟨b1, b2, b3, b4, b5⟩ := a8 _ rfl
  rw [a9]
  refine (show _ = cond (inB (wr (l_d + 4)) 0 15) (cond (inB (wr (l_d + 4)) 0 15 && pkD (nrm l_d) (⟨(⟨p_xa, p_xb, p_xk⟩ : N3), (⟨p_ya, p_yb, p_yk⟩ : N3)⟩ : P2)) (cond (pk (dotF (nrm l_d) (⟨(⟨p_xa, p_xb, p_xk⟩ : N3), (⟨p_ya, p_yb, p_yk⟩ : N3)⟩ : P2)) (⟨l_a, l_b, l_k⟩ : N3)) (cond (inB (wr (l_d + 4)) 0 15 && pkD (nrm l_d) (nrm l_d)) (cond (dvP (subF (dotF (nrm l_d) (⟨(⟨p_xa, p_xb, p_xk⟩ : N3), (⟨p_ya, p_yb, p_yk⟩ : N3)⟩ : P2)) (⟨l_a, l_b, l_k⟩ : N3)) (dotF (nrm l_d) (nrm l_d))) (cond (pk (dvF (subF (dotF (nrm l_d) (⟨(⟨p_xa, p_xb, p_xk⟩ : N3), (⟨p_ya, p_yb, p_yk⟩ : N3)⟩ : P2)) (⟨l_a, l_b, l_k⟩ : N3)) (dotF (nrm l_d) (nrm l_d))) (dvF (subF (dotF (nrm l_d) (⟨(⟨p_xa, p_xb, p_xk⟩ : N3), (⟨p_ya, p_yb, p_yk⟩ : N3)⟩ : P2)) (⟨l_a, l_b, l_k⟩ : N3)) (dotF (nrm l_d) (nrm l_d)))) (cond (pkm (addF (dvF (subF (dotF (nrm l_d) (⟨(⟨p_xa, p_xb, p_xk⟩ : N3), (⟨p_ya, p_yb, p_yk⟩ : N3)⟩ : P2)) (⟨l_a, l_b, l_k⟩ : N3)) (dotF (nrm l_d) (nrm l_d))) (dvF (subF (dotF (nrm l_d) (⟨(⟨p_xa, p_xb, p_xk⟩ : N3), (⟨p_ya, p_yb, p_yk⟩ : N3)⟩ : P2)) (⟨l_a, l_b, l_k⟩ : N3)) (dotF (nrm l_d) (nrm l_d)))) (nrm l_d).x) (cond (pkm (addF (dvF (subF (dotF (nrm l_d) (⟨(⟨p_xa, p_xb, p_xk⟩ : N3), (⟨p_ya, p_yb, p_yk⟩ : N3)⟩ : P2)) (⟨l_a, l_b, l_k⟩ : N3)) (dotF (nrm l_d) (nrm l_d))) (dvF (subF (dotF (nrm l_d) (⟨(⟨p_xa, p_xb, p_xk⟩ : N3), (⟨p_ya, p_yb, p_yk⟩ : N3)⟩ : P2)) (⟨l_a, l_b, l_k⟩ : N3)) (dotF (nrm l_d) (nrm l_d)))) (nrm l_d).y) (cond (pk (⟨(⟨p_xa, p_xb, p_xk⟩ : N3), (⟨p_ya, p_yb, p_yk⟩ : N3)⟩ : P2).x (mulF (addF (dvF (subF (dotF (nrm l_d) (⟨(⟨p_xa, p_xb, p_xk⟩ : N3), (⟨p_ya, p_yb, p_yk⟩ : N3)⟩ : P2)) (⟨l_a, l_b, l_k⟩ : N3)) (dotF (nrm l_d) (nrm l_d))) (dvF (subF (dotF (nrm l_d) (⟨(⟨p_xa, p_xb, p_xk⟩ : N3), (⟨p_ya, p_yb, p_yk⟩ : N3)⟩ : P2)) (⟨l_a, l_b, l_k⟩ : N3)) (dotF (nrm l_d) (nrm l_d)))) (nrm l_d).x) && pk (⟨(⟨p_xa, p_xb, p_xk⟩ : N3), (⟨p_ya, p_yb, p_yk⟩ : N3)⟩ : P2).y (mulF (addF (dvF (subF (dotF (nrm l_d) (⟨(⟨p_xa, p_xb, p_xk⟩ : N3), (⟨p_ya, p_yb, p_yk⟩ : N3)⟩ : P2)) (⟨l_a, l_b, l_k⟩ : N3)) (dotF (nrm l_d) (nrm l_d))) (dvF (subF (dotF (nrm l_d) (⟨(⟨p_xa, p_xb, p_xk⟩ : N3), (⟨p_ya, p_yb, p_yk⟩ : N3)⟩ : P2)) (⟨l_a, l_b, l_k⟩ : N3)) (dotF (nrm l_d) (nrm l_d)))) (nrm l_d).y)) (some (rflS (nrm l_d) (⟨l_a, l_b, l_k⟩ : N3) (⟨(⟨p_xa, p_xb, p_xk⟩ : N3), (⟨p_ya, p_yb, p_yk⟩ : N3)⟩ : P2)).av) none) none) none) none) none) none) none) none) none from by kernel_rfl).trans ?_
  rw [h15, a1, a4, a2, a6, b1, b2, b3, b4, b5]
  rfl
theorem m12 : Meets Tryd.prog GLv 12 s12 := by
  refine meetsN mix0 glv G43 Tryd.func12 (by kernel_rfl) (by kernel_rfl) s12 fun args x h => ?_
  unfold s12 at h
  split at h
  · rename_i l_d l_a l_b l_k p_xa p_xb p_xk p_ya p_yb p_yk
    simp only [Option.some.injEq, Prod.mk.injEq] at h
    obtain ⟨hp, rfl⟩ := h
    exact ⟨_, _, by kernel_rfl, e12 l_d l_a l_b l_k p_xa p_xb p_xk p_ya p_yb p_yk hp⟩
  · cases h
abbrev Γ44 : List (Nat × Ctr) := (12, s12) :: Γ43
theorem G44 : Sound Tryd.prog GLv Γ44 := G43.cons m12

-- impl.ReflectPoint
def s7 : Ctr := fun
  | [.agg [.val (.int .i64 l_d), .val (.int .i64 l_a), .val (.int .i64 l_b), .val (.int .i64 l_k)], .agg [.val (.int .i64 p_xa), .val (.int .i64 p_xb), .val (.int .i64 p_xk), .val (.int .i64 p_ya), .val (.int .i64 p_yb), .val (.int .i64 p_yk)]] => some (true, rP (((inB l_d 0 7 && validB (⟨l_a, l_b, l_k⟩ : N3)) && valP (⟨(⟨p_xa, p_xb, p_xk⟩ : N3), (⟨p_ya, p_yb, p_yk⟩ : N3)⟩ : P2)) && valP (redP (rflI (nrm l_d) (⟨l_a, l_b, l_k⟩ : N3) (⟨(⟨p_xa, p_xb, p_xk⟩ : N3), (⟨p_ya, p_yb, p_yk⟩ : N3)⟩ : P2)))) (redP (rflI (nrm l_d) (⟨l_a, l_b, l_k⟩ : N3) (⟨(⟨p_xa, p_xb, p_xk⟩ : N3), (⟨p_ya, p_yb, p_yk⟩ : N3)⟩ : P2))))
  | _ => none

theorem e7 (l_d : Int) (l_a : Int) (l_b : Int) (l_k : Int) (p_xa : Int) (p_xb : Int) (p_xk : Int) (p_ya : Int) (p_yb : Int) (p_yk : Int) : evN Tryd.prog GLv Γ44 (0) [] Tryd.f7 [.agg [.val (.int .i64 l_d), .val (.int .i64 l_a), .val (.int .i64 l_b), .val (.int .i64 l_k)], .agg [.val (.int .i64 p_xa), .val (.int .i64 p_xb), .val (.int .i64 p_xk), .val (.int .i64 p_ya), .val (.int .i64 p_yb), .val (.int .i64 p_yk)]] = some (rP (((inB l_d 0 7 && validB (⟨l_a, l_b, l_k⟩ : N3)) && valP (⟨(⟨p_xa, p_xb, p_xk⟩ : N3), (⟨p_ya, p_yb, p_yk⟩ : N3)⟩ : P2)) && valP (redP (rflI (nrm l_d) (⟨l_a, l_b, l_k⟩ : N3) (⟨(⟨p_xa, p_xb, p_xk⟩ : N3), (⟨p_ya, p_yb, p_yk⟩ : N3)⟩ : P2)))) (redP (rflI (nrm l_d) (⟨l_a, l_b, l_k⟩ : N3) (⟨(⟨p_xa, p_xb, p_xk⟩ : N3), (⟨p_ya, p_yb, p_yk⟩ : N3)⟩ : P2)))) := by
  refine (show _ = cond (!(inB l_d 0 7 && validB (⟨l_a, l_b, l_k⟩ : N3))) (some (rP false (⟨(⟨p_xa, p_xb, p_xk⟩ : N3), (⟨p_ya, p_yb, p_yk⟩ : N3)⟩ : P2))) (cond (!valP (⟨(⟨p_xa, p_xb, p_xk⟩ : N3), (⟨p_ya, p_yb, p_yk⟩ : N3)⟩ : P2)) (some (rP false (⟨(⟨p_xa, p_xb, p_xk⟩ : N3), (⟨p_ya, p_yb, p_yk⟩ : N3)⟩ : P2))) (cond (inB l_d 0 7 && (validB (⟨l_a, l_b, l_k⟩ : N3) && valP (⟨(⟨p_xa, p_xb, p_xk⟩ : N3), (⟨p_ya, p_yb, p_yk⟩ : N3)⟩ : P2))) (cond (kB (rflI (nrm l_d) (⟨l_a, l_b, l_k⟩ : N3) (⟨(⟨p_xa, p_xb, p_xk⟩ : N3), (⟨p_ya, p_yb, p_yk⟩ : N3)⟩ : P2)).x.k && kB (rflI (nrm l_d) (⟨l_a, l_b, l_k⟩ : N3) (⟨(⟨p_xa, p_xb, p_xk⟩ : N3), (⟨p_ya, p_yb, p_yk⟩ : N3)⟩ : P2)).y.k) (some (rP (valP (redP (rflI (nrm l_d) (⟨l_a, l_b, l_k⟩ : N3) (⟨(⟨p_xa, p_xb, p_xk⟩ : N3), (⟨p_ya, p_yb, p_yk⟩ : N3)⟩ : P2)))) (redP (rflI (nrm l_d) (⟨l_a, l_b, l_k⟩ : N3) (⟨(⟨p_xa, p_xb, p_xk⟩ : N3), (⟨p_ya, p_yb, p_yk⟩ : N3)⟩ : P2))))) none) none)) from by kernel_rfl).trans ?_
  cases h1 : inB l_d 0 7 with
  | false => rfl
  | true =>
    cases h2 : validB (⟨l_a, l_b, l_k⟩ : N3) with
    | false => rfl
    | true =>
      cases h3 : valP (⟨(⟨p_xa, p_xb, p_xk⟩ : N3), (⟨p_ya, p_yb, p_yk⟩ : N3)⟩ : P2) with
      | false => rfl
      | true =>
        obtain ⟨E, hn⟩ := nrm_all l_d h1
        obtain ⟨_, _, _, _, _, _, _, _, _, k1, k2⟩ := refl_same hn h2 h3
        rw [k1, k2]
        rfl
theorem m7 : Meets Tryd.prog GLv 7 s7 := by
  refine meetsN mix0 glv G44 Tryd.func7 (by kernel_rfl) (by kernel_rfl) s7 fun args x h => ?_
  unfold s7 at h
  split at h
  · rename_i l_d l_a l_b l_k p_xa p_xb p_xk p_ya p_yb p_yk
    simp only [Option.some.injEq, Prod.mk.injEq] at h
    obtain ⟨hp, rfl⟩ := h
    exact ⟨_, _, by kernel_rfl, e7 l_d l_a l_b l_k p_xa p_xb p_xk p_ya p_yb p_yk⟩
  · cases h
abbrev Γ45 : List (Nat × Ctr) := (7, s7) :: Γ44
theorem G45 : Sound Tryd.prog GLv Γ45 := G44.cons m7

-- spec.ReflectPoint
def s4 : Ctr := fun
  | [.agg [.val (.int .i64 l_d), .val (.int .i64 l_a), .val (.int .i64 l_b), .val (.int .i64 l_k)], .agg [.val (.int .i64 p_xa), .val (.int .i64 p_xb), .val (.int .i64 p_xk), .val (.int .i64 p_ya), .val (.int .i64 p_yb), .val (.int .i64 p_yk)]] => some (true, rP (((inB l_d 0 7 && validB (⟨l_a, l_b, l_k⟩ : N3)) && valP (⟨(⟨p_xa, p_xb, p_xk⟩ : N3), (⟨p_ya, p_yb, p_yk⟩ : N3)⟩ : P2)) && valP (redP (rflI (nrm l_d) (⟨l_a, l_b, l_k⟩ : N3) (⟨(⟨p_xa, p_xb, p_xk⟩ : N3), (⟨p_ya, p_yb, p_yk⟩ : N3)⟩ : P2)))) (redP (rflI (nrm l_d) (⟨l_a, l_b, l_k⟩ : N3) (⟨(⟨p_xa, p_xb, p_xk⟩ : N3), (⟨p_ya, p_yb, p_yk⟩ : N3)⟩ : P2))))
  | _ => none

theorem e4 (l_d : Int) (l_a : Int) (l_b : Int) (l_k : Int) (p_xa : Int) (p_xb : Int) (p_xk : Int) (p_ya : Int) (p_yb : Int) (p_yk : Int) : evN Tryd.prog GLv Γ45 (0) [] Tryd.f4 [.agg [.val (.int .i64 l_d), .val (.int .i64 l_a), .val (.int .i64 l_b), .val (.int .i64 l_k)], .agg [.val (.int .i64 p_xa), .val (.int .i64 p_xb), .val (.int .i64 p_xk), .val (.int .i64 p_ya), .val (.int .i64 p_yb), .val (.int .i64 p_yk)]] = some (rP (((inB l_d 0 7 && validB (⟨l_a, l_b, l_k⟩ : N3)) && valP (⟨(⟨p_xa, p_xb, p_xk⟩ : N3), (⟨p_ya, p_yb, p_yk⟩ : N3)⟩ : P2)) && valP (redP (rflI (nrm l_d) (⟨l_a, l_b, l_k⟩ : N3) (⟨(⟨p_xa, p_xb, p_xk⟩ : N3), (⟨p_ya, p_yb, p_yk⟩ : N3)⟩ : P2)))) (redP (rflI (nrm l_d) (⟨l_a, l_b, l_k⟩ : N3) (⟨(⟨p_xa, p_xb, p_xk⟩ : N3), (⟨p_ya, p_yb, p_yk⟩ : N3)⟩ : P2)))) := by
  refine (show _ = cond (!(inB l_d 0 7 && validB (⟨l_a, l_b, l_k⟩ : N3))) (some (rP false (⟨(⟨p_xa, p_xb, p_xk⟩ : N3), (⟨p_ya, p_yb, p_yk⟩ : N3)⟩ : P2))) (cond (!valP (⟨(⟨p_xa, p_xb, p_xk⟩ : N3), (⟨p_ya, p_yb, p_yk⟩ : N3)⟩ : P2)) (some (rP false (⟨(⟨p_xa, p_xb, p_xk⟩ : N3), (⟨p_ya, p_yb, p_yk⟩ : N3)⟩ : P2))) (cond (inB l_d 0 7 && (validB (⟨l_a, l_b, l_k⟩ : N3) && valP (⟨(⟨p_xa, p_xb, p_xk⟩ : N3), (⟨p_ya, p_yb, p_yk⟩ : N3)⟩ : P2))) (cond (kB (rflI (nrm l_d) (⟨l_a, l_b, l_k⟩ : N3) (⟨(⟨p_xa, p_xb, p_xk⟩ : N3), (⟨p_ya, p_yb, p_yk⟩ : N3)⟩ : P2)).x.k && kB (rflI (nrm l_d) (⟨l_a, l_b, l_k⟩ : N3) (⟨(⟨p_xa, p_xb, p_xk⟩ : N3), (⟨p_ya, p_yb, p_yk⟩ : N3)⟩ : P2)).y.k) (some (rP (valP (redP (rflI (nrm l_d) (⟨l_a, l_b, l_k⟩ : N3) (⟨(⟨p_xa, p_xb, p_xk⟩ : N3), (⟨p_ya, p_yb, p_yk⟩ : N3)⟩ : P2)))) (redP (rflI (nrm l_d) (⟨l_a, l_b, l_k⟩ : N3) (⟨(⟨p_xa, p_xb, p_xk⟩ : N3), (⟨p_ya, p_yb, p_yk⟩ : N3)⟩ : P2))))) none) none)) from by kernel_rfl).trans ?_
  cases h1 : inB l_d 0 7 with
  | false => rfl
  | true =>
    cases h2 : validB (⟨l_a, l_b, l_k⟩ : N3) with
    | false => rfl
    | true =>
      cases h3 : valP (⟨(⟨p_xa, p_xb, p_xk⟩ : N3), (⟨p_ya, p_yb, p_yk⟩ : N3)⟩ : P2) with
      | false => rfl
      | true =>
        obtain ⟨E, hn⟩ := nrm_all l_d h1
        obtain ⟨_, _, _, _, _, _, _, _, _, k1, k2⟩ := refl_same hn h2 h3
        rw [k1, k2]
        rfl
theorem m4 : Meets Tryd.prog GLv 4 s4 := by
  refine meetsN mix0 glv G45 Tryd.func4 (by kernel_rfl) (by kernel_rfl) s4 fun args x h => ?_
  unfold s4 at h
  split at h
  · rename_i l_d l_a l_b l_k p_xa p_xb p_xk p_ya p_yb p_yk
    simp only [Option.some.injEq, Prod.mk.injEq] at h
    obtain ⟨hp, rfl⟩ := h
    exact ⟨_, _, by kernel_rfl, e4 l_d l_a l_b l_k p_xa p_xb p_xk p_ya p_yb p_yk⟩
  · cases h
abbrev Γ46 : List (Nat × Ctr) := (4, s4) :: Γ45
theorem G46 : Sound Tryd.prog GLv Γ46 := G45.cons m4

-- laws.FnExactReflectPoint
def s3 : Ctr := fun
  | [.agg [.val (.int .i64 l_d), .val (.int .i64 l_a), .val (.int .i64 l_b), .val (.int .i64 l_k)], .agg [.val (.int .i64 p_xa), .val (.int .i64 p_xb), .val (.int .i64 p_xk), .val (.int .i64 p_ya), .val (.int .i64 p_yb), .val (.int .i64 p_yk)]] => some (true, bv true)
  | _ => none

theorem e3 (l_d : Int) (l_a : Int) (l_b : Int) (l_k : Int) (p_xa : Int) (p_xb : Int) (p_xk : Int) (p_ya : Int) (p_yb : Int) (p_yk : Int) : evN Tryd.prog GLv Γ46 (0) [] Tryd.f3 [.agg [.val (.int .i64 l_d), .val (.int .i64 l_a), .val (.int .i64 l_b), .val (.int .i64 l_k)], .agg [.val (.int .i64 p_xa), .val (.int .i64 p_xb), .val (.int .i64 p_xk), .val (.int .i64 p_ya), .val (.int .i64 p_yb), .val (.int .i64 p_yk)]] = some (bv true) := by
  refine (show _ = cond (!eqP (P2.mk (N3.mk (bif inB l_d 0 7 && validB (N3.mk l_a l_b l_k) && valP (P2.mk (N3.mk p_xa p_xb p_xk) (N3.mk p_ya p_yb p_yk)) && valP (redP (rflI (nrm l_d) (N3.mk l_a l_b l_k) (P2.mk (N3.mk p_xa p_xb p_xk) (N3.mk p_ya p_yb p_yk)))) then (red (addF (N3.mk p_xa p_xb p_xk) (mulF (nrm l_d).1 (addF (dvF (subF (N3.mk l_a l_b l_k) (dotF (nrm l_d) (P2.mk (N3.mk p_xa p_xb p_xk) (N3.mk p_ya p_yb p_yk)))) (dotF (nrm l_d) (nrm l_d))) (dvF (subF (N3.mk l_a l_b l_k) (dotF (nrm l_d) (P2.mk (N3.mk p_xa p_xb p_xk) (N3.mk p_ya p_yb p_yk)))) (dotF (nrm l_d) (nrm l_d))))))).1 else 0) (bif inB l_d 0 7 && validB (N3.mk l_a l_b l_k) && valP (P2.mk (N3.mk p_xa p_xb p_xk) (N3.mk p_ya p_yb p_yk)) && valP (redP (rflI (nrm l_d) (N3.mk l_a l_b l_k) (P2.mk (N3.mk p_xa p_xb p_xk) (N3.mk p_ya p_yb p_yk)))) then (red (addF (N3.mk p_xa p_xb p_xk) (mulF (nrm l_d).1 (addF (dvF (subF (N3.mk l_a l_b l_k) (dotF (nrm l_d) (P2.mk (N3.mk p_xa p_xb p_xk) (N3.mk p_ya p_yb p_yk)))) (dotF (nrm l_d) (nrm l_d))) (dvF (subF (N3.mk l_a l_b l_k) (dotF (nrm l_d) (P2.mk (N3.mk p_xa p_xb p_xk) (N3.mk p_ya p_yb p_yk)))) (dotF (nrm l_d) (nrm l_d))))))).2 else 0) (bif inB l_d 0 7 && validB (N3.mk l_a l_b l_k) && valP (P2.mk (N3.mk p_xa p_xb p_xk) (N3.mk p_ya p_yb p_yk)) && valP (redP (rflI (nrm l_d) (N3.mk l_a l_b l_k) (P2.mk (N3.mk p_xa p_xb p_xk) (N3.mk p_ya p_yb p_yk)))) then (red (addF (N3.mk p_xa p_xb p_xk) (mulF (nrm l_d).1 (addF (dvF (subF (N3.mk l_a l_b l_k) (dotF (nrm l_d) (P2.mk (N3.mk p_xa p_xb p_xk) (N3.mk p_ya p_yb p_yk)))) (dotF (nrm l_d) (nrm l_d))) (dvF (subF (N3.mk l_a l_b l_k) (dotF (nrm l_d) (P2.mk (N3.mk p_xa p_xb p_xk) (N3.mk p_ya p_yb p_yk)))) (dotF (nrm l_d) (nrm l_d))))))).3 else 0)) (N3.mk (bif inB l_d 0 7 && validB (N3.mk l_a l_b l_k) && valP (P2.mk (N3.mk p_xa p_xb p_xk) (N3.mk p_ya p_yb p_yk)) && valP (redP (rflI (nrm l_d) (N3.mk l_a l_b l_k) (P2.mk (N3.mk p_xa p_xb p_xk) (N3.mk p_ya p_yb p_yk)))) then (red (addF (N3.mk p_ya p_yb p_yk) (mulF (nrm l_d).2 (addF (dvF (subF (N3.mk l_a l_b l_k) (dotF (nrm l_d) (P2.mk (N3.mk p_xa p_xb p_xk) (N3.mk p_ya p_yb p_yk)))) (dotF (nrm l_d) (nrm l_d))) (dvF (subF (N3.mk l_a l_b l_k) (dotF (nrm l_d) (P2.mk (N3.mk p_xa p_xb p_xk) (N3.mk p_ya p_yb p_yk)))) (dotF (nrm l_d) (nrm l_d))))))).1 else 0) (bif inB l_d 0 7 && validB (N3.mk l_a l_b l_k) && valP (P2.mk (N3.mk p_xa p_xb p_xk) (N3.mk p_ya p_yb p_yk)) && valP (redP (rflI (nrm l_d) (N3.mk l_a l_b l_k) (P2.mk (N3.mk p_xa p_xb p_xk) (N3.mk p_ya p_yb p_yk)))) then (red (addF (N3.mk p_ya p_yb p_yk) (mulF (nrm l_d).2 (addF (dvF (subF (N3.mk l_a l_b l_k) (dotF (nrm l_d) (P2.mk (N3.mk p_xa p_xb p_xk) (N3.mk p_ya p_yb p_yk)))) (dotF (nrm l_d) (nrm l_d))) (dvF (subF (N3.mk l_a l_b l_k) (dotF (nrm l_d) (P2.mk (N3.mk p_xa p_xb p_xk) (N3.mk p_ya p_yb p_yk)))) (dotF (nrm l_d) (nrm l_d))))))).2 else 0) (bif inB l_d 0 7 && validB (N3.mk l_a l_b l_k) && valP (P2.mk (N3.mk p_xa p_xb p_xk) (N3.mk p_ya p_yb p_yk)) && valP (redP (rflI (nrm l_d) (N3.mk l_a l_b l_k) (P2.mk (N3.mk p_xa p_xb p_xk) (N3.mk p_ya p_yb p_yk)))) then (red (addF (N3.mk p_ya p_yb p_yk) (mulF (nrm l_d).2 (addF (dvF (subF (N3.mk l_a l_b l_k) (dotF (nrm l_d) (P2.mk (N3.mk p_xa p_xb p_xk) (N3.mk p_ya p_yb p_yk)))) (dotF (nrm l_d) (nrm l_d))) (dvF (subF (N3.mk l_a l_b l_k) (dotF (nrm l_d) (P2.mk (N3.mk p_xa p_xb p_xk) (N3.mk p_ya p_yb p_yk)))) (dotF (nrm l_d) (nrm l_d))))))).3 else 0))) (P2.mk (N3.mk (bif inB l_d 0 7 && validB (N3.mk l_a l_b l_k) && valP (P2.mk (N3.mk p_xa p_xb p_xk) (N3.mk p_ya p_yb p_yk)) && valP (redP (rflI (nrm l_d) (N3.mk l_a l_b l_k) (P2.mk (N3.mk p_xa p_xb p_xk) (N3.mk p_ya p_yb p_yk)))) then (red (addF (N3.mk p_xa p_xb p_xk) (mulF (nrm l_d).1 (addF (dvF (subF (N3.mk l_a l_b l_k) (dotF (nrm l_d) (P2.mk (N3.mk p_xa p_xb p_xk) (N3.mk p_ya p_yb p_yk)))) (dotF (nrm l_d) (nrm l_d))) (dvF (subF (N3.mk l_a l_b l_k) (dotF (nrm l_d) (P2.mk (N3.mk p_xa p_xb p_xk) (N3.mk p_ya p_yb p_yk)))) (dotF (nrm l_d) (nrm l_d))))))).1 else 0) (bif inB l_d 0 7 && validB (N3.mk l_a l_b l_k) && valP (P2.mk (N3.mk p_xa p_xb p_xk) (N3.mk p_ya p_yb p_yk)) && valP (redP (rflI (nrm l_d) (N3.mk l_a l_b l_k) (P2.mk (N3.mk p_xa p_xb p_xk) (N3.mk p_ya p_yb p_yk)))) then (red (addF (N3.mk p_xa p_xb p_xk) (mulF (nrm l_d).1 (addF (dvF (subF (N3.mk l_a l_b l_k) (dotF (nrm l_d) (P2.mk (N3.mk p_xa p_xb p_xk) (N3.mk p_ya p_yb p_yk)))) (dotF (nrm l_d) (nrm l_d))) (dvF (subF (N3.mk l_a l_b l_k) (dotF (nrm l_d) (P2.mk (N3.mk p_xa p_xb p_xk) (N3.mk p_ya p_yb p_yk)))) (dotF (nrm l_d) (nrm l_d))))))).2 else 0) (bif inB l_d 0 7 && validB (N3.mk l_a l_b l_k) && valP (P2.mk (N3.mk p_xa p_xb p_xk) (N3.mk p_ya p_yb p_yk)) && valP (redP (rflI (nrm l_d) (N3.mk l_a l_b l_k) (P2.mk (N3.mk p_xa p_xb p_xk) (N3.mk p_ya p_yb p_yk)))) then (red (addF (N3.mk p_xa p_xb p_xk) (mulF (nrm l_d).1 (addF (dvF (subF (N3.mk l_a l_b l_k) (dotF (nrm l_d) (P2.mk (N3.mk p_xa p_xb p_xk) (N3.mk p_ya p_yb p_yk)))) (dotF (nrm l_d) (nrm l_d))) (dvF (subF (N3.mk l_a l_b l_k) (dotF (nrm l_d) (P2.mk (N3.mk p_xa p_xb p_xk) (N3.mk p_ya p_yb p_yk)))) (dotF (nrm l_d) (nrm l_d))))))).3 else 0)) (N3.mk (bif inB l_d 0 7 && validB (N3.mk l_a l_b l_k) && valP (P2.mk (N3.mk p_xa p_xb p_xk) (N3.mk p_ya p_yb p_yk)) && valP (redP (rflI (nrm l_d) (N3.mk l_a l_b l_k) (P2.mk (N3.mk p_xa p_xb p_xk) (N3.mk p_ya p_yb p_yk)))) then (red (addF (N3.mk p_ya p_yb p_yk) (mulF (nrm l_d).2 (addF (dvF (subF (N3.mk l_a l_b l_k) (dotF (nrm l_d) (P2.mk (N3.mk p_xa p_xb p_xk) (N3.mk p_ya p_yb p_yk)))) (dotF (nrm l_d) (nrm l_d))) (dvF (subF (N3.mk l_a l_b l_k) (dotF (nrm l_d) (P2.mk (N3.mk p_xa p_xb p_xk) (N3.mk p_ya p_yb p_yk)))) (dotF (nrm l_d) (nrm l_d))))))).1 else 0) (bif inB l_d 0 7 && validB (N3.mk l_a l_b l_k) && valP (P2.mk (N3.mk p_xa p_xb p_xk) (N3.mk p_ya p_yb p_yk)) && valP (redP (rflI (nrm l_d) (N3.mk l_a l_b l_k) (P2.mk (N3.mk p_xa p_xb p_xk) (N3.mk p_ya p_yb p_yk)))) then (red (addF (N3.mk p_ya p_yb p_yk) (mulF (nrm l_d).2 (addF (dvF (subF (N3.mk l_a l_b l_k) (dotF (nrm l_d) (P2.mk (N3.mk p_xa p_xb p_xk) (N3.mk p_ya p_yb p_yk)))) (dotF (nrm l_d) (nrm l_d))) (dvF (subF (N3.mk l_a l_b l_k) (dotF (nrm l_d) (P2.mk (N3.mk p_xa p_xb p_xk) (N3.mk p_ya p_yb p_yk)))) (dotF (nrm l_d) (nrm l_d))))))).2 else 0) (bif inB l_d 0 7 && validB (N3.mk l_a l_b l_k) && valP (P2.mk (N3.mk p_xa p_xb p_xk) (N3.mk p_ya p_yb p_yk)) && valP (redP (rflI (nrm l_d) (N3.mk l_a l_b l_k) (P2.mk (N3.mk p_xa p_xb p_xk) (N3.mk p_ya p_yb p_yk)))) then (red (addF (N3.mk p_ya p_yb p_yk) (mulF (nrm l_d).2 (addF (dvF (subF (N3.mk l_a l_b l_k) (dotF (nrm l_d) (P2.mk (N3.mk p_xa p_xb p_xk) (N3.mk p_ya p_yb p_yk)))) (dotF (nrm l_d) (nrm l_d))) (dvF (subF (N3.mk l_a l_b l_k) (dotF (nrm l_d) (P2.mk (N3.mk p_xa p_xb p_xk) (N3.mk p_ya p_yb p_yk)))) (dotF (nrm l_d) (nrm l_d))))))).3 else 0)))) ( some (bv (false)) ) ( cond (!(inB l_d 0 7 && validB (N3.mk l_a l_b l_k) && valP (P2.mk (N3.mk p_xa p_xb p_xk) (N3.mk p_ya p_yb p_yk)) && valP (redP (rflI (nrm l_d) (N3.mk l_a l_b l_k) (P2.mk (N3.mk p_xa p_xb p_xk) (N3.mk p_ya p_yb p_yk))))) == (inB l_d 0 7 && validB (N3.mk l_a l_b l_k) && valP (P2.mk (N3.mk p_xa p_xb p_xk) (N3.mk p_ya p_yb p_yk)) && valP (redP (rflI (nrm l_d) (N3.mk l_a l_b l_k) (P2.mk (N3.mk p_xa p_xb p_xk) (N3.mk p_ya p_yb p_yk)))))) ( some (bv (false)) ) ( some (bv (true)) ) ) from by kernel_rfl).trans ?_
  simp only [eqP_self, bne_self_eq_false, beq_self_eq_true, cond_true, cond_false, Bool.not_true]
theorem m3 : Meets Tryd.prog GLv 3 s3 := by
  refine meetsN mix0 glv G46 Tryd.func3 (by kernel_rfl) (by kernel_rfl) s3 fun args x h => ?_
  unfold s3 at h
  split at h
  · rename_i l_d l_a l_b l_k p_xa p_xb p_xk p_ya p_yb p_yk
    simp only [Option.some.injEq, Prod.mk.injEq] at h
    obtain ⟨hp, rfl⟩ := h
    exact ⟨_, _, by kernel_rfl, e3 l_d l_a l_b l_k p_xa p_xb p_xk p_ya p_yb p_yk⟩
  · cases h
abbrev Γ47 : List (Nat × Ctr) := (3, s3) :: Γ46
theorem G47 : Sound Tryd.prog GLv Γ47 := G46.cons m3

end Go.Proofs.YtgcmdnfchhkckaaDoor
