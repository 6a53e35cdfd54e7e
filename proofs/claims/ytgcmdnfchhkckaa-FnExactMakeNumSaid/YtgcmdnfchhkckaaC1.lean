/- Contracts of the program's functions, by the evaluator. -/
import Derived.Test.YtgcmdnfchhkckaaProg
import Derived.Test.YtgcmdnfchhkckaaNumA
namespace Go.Proofs.Ytgcmdnfchhkckaa
open Go.Ev
set_option linter.unusedVariables false
set_option linter.unusedSimpArgs false
set_option maxRecDepth 100000

theorem mix0 : Try.prog.follows .mixedOrders = true := by kernel_rfl
abbrev Γ0 : List (Nat × Ctr) := []
theorem G0 : Sound Try.prog GL0 Γ0 := Sound.nil

-- impl.within
def s45 : Ctr := fun
  | [.val (.int .i64 x), .val (.int .i64 lo), .val (.int .i64 hi)] => some (true, bv (inB x lo hi))
  | _ => none

theorem e45 (x : Int) (lo : Int) (hi : Int) : evN Try.prog GL0 Γ0 (0) [] Try.f45 [.val (.int .i64 x), .val (.int .i64 lo), .val (.int .i64 hi)] = some (bv (inB x lo hi)) := by
  refine (show _ = cond (decide (x ≥ lo)) ( some (bv (decide (x ≤ hi))) ) ( some (bv (false)) ) from by kernel_rfl).trans ?_
  simp only [inB]
  cases decide (x ≥ lo) <;> rfl
theorem m45 : Meets Try.prog GL0 45 s45 := by
  refine meetsN mix0 gl0 G0 Try.func45 (by kernel_rfl) (by kernel_rfl) s45 fun args x h => ?_
  unfold s45 at h
  split at h
  · rename_i x lo hi
    simp only [Option.some.injEq, Prod.mk.injEq] at h
    obtain ⟨hp, rfl⟩ := h
    exact ⟨_, _, by kernel_rfl, e45 x lo hi⟩
  · cases h
abbrev Γ1 : List (Nat × Ctr) := (45, s45) :: Γ0
theorem G1 : Sound Try.prog GL0 Γ1 := G0.cons m45

-- spec.l00In
def s43 : Ctr := fun
  | [.val (.int .i64 x), .val (.int .i64 lo), .val (.int .i64 hi)] => some (true, bv (inB x lo hi))
  | _ => none

theorem e43 (x : Int) (lo : Int) (hi : Int) : evN Try.prog GL0 Γ1 (0) [] Try.f43 [.val (.int .i64 x), .val (.int .i64 lo), .val (.int .i64 hi)] = some (bv (inB x lo hi)) := by
  refine (show _ = cond (decide (x ≥ lo)) ( some (bv (decide (x ≤ hi))) ) ( some (bv (false)) ) from by kernel_rfl).trans ?_
  simp only [inB]
  cases decide (x ≥ lo) <;> rfl
theorem m43 : Meets Try.prog GL0 43 s43 := by
  refine meetsN mix0 gl0 G1 Try.func43 (by kernel_rfl) (by kernel_rfl) s43 fun args x h => ?_
  unfold s43 at h
  split at h
  · rename_i x lo hi
    simp only [Option.some.injEq, Prod.mk.injEq] at h
    obtain ⟨hp, rfl⟩ := h
    exact ⟨_, _, by kernel_rfl, e43 x lo hi⟩
  · cases h
abbrev Γ2 : List (Nat × Ctr) := (43, s43) :: Γ1
theorem G2 : Sound Try.prog GL0 Γ2 := G1.cons m43

-- (impl.Num).reduced
def s82 : Ctr := fun
  | [.agg [.val (.int .i64 x_a), .val (.int .i64 x_b), .val (.int .i64 x_k)]] => some (kB x_k, (red (⟨x_a, x_b, x_k⟩ : N3)).av)
  | _ => none

theorem r82_step (K n : Nat) (a b k : Int) : runL Try.prog GL0 Γ2 K [false, true, true] Try.f82 0 (n + 1) (stL Try.f82.ntmps [.non, .own 23 [iv (a), iv (b), iv (k)], .own 23 [iv 0, iv 0, iv 0]]) = cond (decide (k > 0)) (cond (and64 a 1 == 0) (cond (and64 b 1 == 0) (cond (wr (a.tdiv 2) == 0) (cond (wr (b.tdiv 2) == 0) (runL Try.prog GL0 Γ2 K [false, true, true] Try.f82 0 n (stL Try.f82.ntmps [.non, .own 23 [iv (wr (a.tdiv 2)), iv (wr (b.tdiv 2)), iv (0)], .own 23 [iv 0, iv 0, iv 0]])) (runL Try.prog GL0 Γ2 K [false, true, true] Try.f82 0 n (stL Try.f82.ntmps [.non, .own 23 [iv (wr (a.tdiv 2)), iv (wr (b.tdiv 2)), iv (wr (k - 1))], .own 23 [iv 0, iv 0, iv 0]]))) (runL Try.prog GL0 Γ2 K [false, true, true] Try.f82 0 n (stL Try.f82.ntmps [.non, .own 23 [iv (wr (a.tdiv 2)), iv (wr (b.tdiv 2)), iv (wr (k - 1))], .own 23 [iv 0, iv 0, iv 0]]))) (some (⟨a, b, k⟩ : N3).av)) (some (⟨a, b, k⟩ : N3).av)) (some (⟨a, b, k⟩ : N3).av) := by kernel_rfl
theorem r82_run (K : Nat) : ∀ (m : Nat) (a b k : Int) (n : Nat), 0 ≤ k → k ≤ 1152921504606846976 → k.toNat ≤ m → m < n → runL Try.prog GL0 Γ2 K [false, true, true] Try.f82 0 n (stL Try.f82.ntmps [.non, .own 23 [iv (a), iv (b), iv (k)], .own 23 [iv 0, iv 0, iv 0]]) = some (redF (m + 1) a b k).av := by
  intro m
  induction m with
  | zero =>
    intro a b k n h0 h1 h2 h3
    obtain ⟨n, rfl⟩ : ∃ n', n = n' + 1 := ⟨n - 1, by omega⟩
    have hk : ¬ k > 0 := by omega
    rw [r82_step, redF_succ, if_neg (fun h => hk h.1)]
    simp only [hk, decide_false, cond_false]
  | succ m ih =>
    intro a b k n h0 h1 h2 h3
    obtain ⟨n, rfl⟩ : ∃ n', n = n' + 1 := ⟨n - 1, by omega⟩
    rw [r82_step, redF_succ]
    rw [and64_one, and64_one]
    have ea : ((a % 2 == 0) = !odd a) := odd_zero a
    have eb : ((b % 2 == 0) = !odd b) := odd_zero b
    rw [ea, eb]
    by_cases hk : k > 0
    · have hw : wr (k - 1) = k - 1 := wr_in (by omega) (by omega)
      cases ha : odd a with
      | true => rw [if_neg (fun h => by cases h.2.1)]; simp [hk]
      | false =>
        cases hb : odd b with
        | true => rw [if_neg (fun h => by cases h.2.2)]; simp [hk]
        | false =>
          rw [if_pos ⟨hk, rfl, rfl⟩]
          simp only [hk, decide_true, cond_true, Bool.not_false]
          rw [hw, ih _ _ _ _ (by omega) (by omega) (by omega) (by omega), ih _ _ _ _ (by omega) (by omega) (by omega) (by omega)]
          by_cases hz1 : wr (a.tdiv 2) = 0
          · by_cases hz2 : wr (b.tdiv 2) = 0
            · simp [hz1, hz2]
            · have e2 : (wr (b.tdiv 2) == 0) = false := by simpa using hz2
              simp [hz1, hz2, e2]
          · have e1 : (wr (a.tdiv 2) == 0) = false := by simpa using hz1
            simp [hz1, e1]
    · rw [if_neg (fun h => hk h.1)]; simp [hk]
theorem e82 (x_a : Int) (x_b : Int) (x_k : Int) (hp : kB x_k = true) : evN Try.prog GL0 Γ2 (x_k.toNat + 1) [false, true, true] Try.f82 [.agg [.val (.int .i64 x_a), .val (.int .i64 x_b), .val (.int .i64 x_k)]] = some ((red (⟨x_a, x_b, x_k⟩ : N3)).av) := by
  exact (show _ = _ from by kernel_rfl).trans (r82_run (x_k.toNat + 1) x_k.toNat x_a x_b x_k (x_k.toNat + 1) (kB_iff.1 hp).1 (kB_iff.1 hp).2 (Nat.le_refl _) (Nat.lt_succ_self _))
theorem m82 : Meets Try.prog GL0 82 s82 := by
  refine meetsN mix0 gl0 G2 Try.func82 (by kernel_rfl) (by kernel_rfl) s82 fun args x h => ?_
  unfold s82 at h
  split at h
  · rename_i x_a x_b x_k
    simp only [Option.some.injEq, Prod.mk.injEq] at h
    obtain ⟨hp, rfl⟩ := h
    exact ⟨_, _, by kernel_rfl, e82 x_a x_b x_k hp⟩
  · cases h
abbrev Γ3 : List (Nat × Ctr) := (82, s82) :: Γ2
theorem G3 : Sound Try.prog GL0 Γ3 := G2.cons m82

-- spec.l01Low
def s81 : Ctr := fun
  | [.agg [.val (.int .i64 x_a), .val (.int .i64 x_b), .val (.int .i64 x_k)]] => some (kB x_k, (red (⟨x_a, x_b, x_k⟩ : N3)).av)
  | _ => none

theorem r81_step (K n : Nat) (a b k : Int) : runL Try.prog GL0 Γ3 K [false, true, true] Try.f81 0 (n + 1) (stL Try.f81.ntmps [.non, .own 63 [iv (a), iv (b), iv (k)], .own 63 [iv 0, iv 0, iv 0]]) = cond (decide (k > 0)) (cond (a.tmod 2 == 0) (cond (b.tmod 2 == 0) (runL Try.prog GL0 Γ3 K [false, true, true] Try.f81 0 n (stL Try.f81.ntmps [.non, .own 63 [iv (wr (a.tdiv 2)), iv (wr (b.tdiv 2)), iv (wr (k - 1))], .own 63 [iv 0, iv 0, iv 0]])) (some (⟨a, b, k⟩ : N3).av)) (some (⟨a, b, k⟩ : N3).av)) (some (⟨a, b, k⟩ : N3).av) := by kernel_rfl
theorem r81_run (K : Nat) : ∀ (m : Nat) (a b k : Int) (n : Nat), 0 ≤ k → k ≤ 1152921504606846976 → k.toNat ≤ m → m < n → runL Try.prog GL0 Γ3 K [false, true, true] Try.f81 0 n (stL Try.f81.ntmps [.non, .own 63 [iv (a), iv (b), iv (k)], .own 63 [iv 0, iv 0, iv 0]]) = some (redF (m + 1) a b k).av := by
  intro m
  induction m with
  | zero =>
    intro a b k n h0 h1 h2 h3
    obtain ⟨n, rfl⟩ : ∃ n', n = n' + 1 := ⟨n - 1, by omega⟩
    have hk : ¬ k > 0 := by omega
    rw [r81_step, redF_succ, if_neg (fun h => hk h.1)]
    simp only [hk, decide_false, cond_false]
  | succ m ih =>
    intro a b k n h0 h1 h2 h3
    obtain ⟨n, rfl⟩ : ∃ n', n = n' + 1 := ⟨n - 1, by omega⟩
    rw [r81_step, redF_succ]
    rw [tmod_zero, tmod_zero]
    by_cases hk : k > 0
    · have hw : wr (k - 1) = k - 1 := wr_in (by omega) (by omega)
      cases ha : odd a with
      | true => rw [if_neg (fun h => by cases h.2.1)]; simp [hk]
      | false =>
        cases hb : odd b with
        | true => rw [if_neg (fun h => by cases h.2.2)]; simp [hk]
        | false =>
          rw [if_pos ⟨hk, rfl, rfl⟩]
          simp only [hk, decide_true, cond_true, Bool.not_false]
          rw [hw, ih _ _ _ _ (by omega) (by omega) (by omega) (by omega)]
          by_cases hz : wr (a.tdiv 2) = 0 ∧ wr (b.tdiv 2) = 0
          · rw [if_pos hz, hz.1, hz.2, redF_zero m _ (by omega), redF_zero m _ (by omega)]
            have e : (if k - 1 > 0 then (0 : Int) else k - 1) = 0 := by split <;> omega
            rw [e]
            rfl
          · rw [if_neg hz]
    · rw [if_neg (fun h => hk h.1)]; simp [hk]
theorem e81 (x_a : Int) (x_b : Int) (x_k : Int) (hp : kB x_k = true) : evN Try.prog GL0 Γ3 (x_k.toNat + 1) [false, true, true] Try.f81 [.agg [.val (.int .i64 x_a), .val (.int .i64 x_b), .val (.int .i64 x_k)]] = some ((red (⟨x_a, x_b, x_k⟩ : N3)).av) := by
  refine (show _ = cond (x_a == 0) (cond (x_b == 0) (some z3.av) (runL Try.prog GL0 Γ3 (x_k.toNat + 1) [false, true, true] Try.f81 0 (x_k.toNat + 1) (stL Try.f81.ntmps [.non, .own 63 [iv (x_a), iv (x_b), iv (x_k)], .own 63 [iv 0, iv 0, iv 0]]))) (runL Try.prog GL0 Γ3 (x_k.toNat + 1) [false, true, true] Try.f81 0 (x_k.toNat + 1) (stL Try.f81.ntmps [.non, .own 63 [iv (x_a), iv (x_b), iv (x_k)], .own 63 [iv 0, iv 0, iv 0]])) from by kernel_rfl).trans ?_
  rw [r81_run (x_k.toNat + 1) x_k.toNat x_a x_b x_k (x_k.toNat + 1) (kB_iff.1 hp).1 (kB_iff.1 hp).2 (Nat.le_refl _) (Nat.lt_succ_self _)]
  by_cases ha : x_a = 0
  · by_cases hb : x_b = 0
    · subst ha hb
      have := redF_zero x_k.toNat x_k (Nat.le_refl _)
      have hk := (kB_iff.1 hp).1
      have e : (if x_k > 0 then 0 else x_k) = 0 := by split <;> omega
      rw [e] at this
      simp only [red, this]
      rfl
    · have e2 : (x_b == 0) = false := by simpa using hb
      simp only [e2, cond_false, red]
      cases (x_a == 0) <;> rfl
  · have e1 : (x_a == 0) = false := by simpa using ha
    simp only [e1, cond_false, red]
theorem m81 : Meets Try.prog GL0 81 s81 := by
  refine meetsN mix0 gl0 G3 Try.func81 (by kernel_rfl) (by kernel_rfl) s81 fun args x h => ?_
  unfold s81 at h
  split at h
  · rename_i x_a x_b x_k
    simp only [Option.some.injEq, Prod.mk.injEq] at h
    obtain ⟨hp, rfl⟩ := h
    exact ⟨_, _, by kernel_rfl, e81 x_a x_b x_k hp⟩
  · cases h
abbrev Γ4 : List (Nat × Ctr) := (81, s81) :: Γ3
theorem G4 : Sound Try.prog GL0 Γ4 := G3.cons m81

-- (impl.Num).neg
def s84 : Ctr := fun
  | [.agg [.val (.int .i64 x_a), .val (.int .i64 x_b), .val (.int .i64 x_k)]] => some (true, (negF (⟨x_a, x_b, x_k⟩ : N3)).av)
  | _ => none

theorem e84 (x_a : Int) (x_b : Int) (x_k : Int) : evN Try.prog GL0 Γ4 (0) [] Try.f84 [.agg [.val (.int .i64 x_a), .val (.int .i64 x_b), .val (.int .i64 x_k)]] = some ((negF (⟨x_a, x_b, x_k⟩ : N3)).av) := by
  kernel_rfl
theorem m84 : Meets Try.prog GL0 84 s84 := by
  refine meetsN mix0 gl0 G4 Try.func84 (by kernel_rfl) (by kernel_rfl) s84 fun args x h => ?_
  unfold s84 at h
  split at h
  · rename_i x_a x_b x_k
    simp only [Option.some.injEq, Prod.mk.injEq] at h
    obtain ⟨hp, rfl⟩ := h
    exact ⟨_, _, by kernel_rfl, e84 x_a x_b x_k⟩
  · cases h
abbrev Γ5 : List (Nat × Ctr) := (84, s84) :: Γ4
theorem G5 : Sound Try.prog GL0 Γ5 := G4.cons m84

-- spec.l01Neg
def s83 : Ctr := fun
  | [.agg [.val (.int .i64 x_a), .val (.int .i64 x_b), .val (.int .i64 x_k)]] => some (true, (negF (⟨x_a, x_b, x_k⟩ : N3)).av)
  | _ => none

theorem e83 (x_a : Int) (x_b : Int) (x_k : Int) : evN Try.prog GL0 Γ5 (0) [] Try.f83 [.agg [.val (.int .i64 x_a), .val (.int .i64 x_b), .val (.int .i64 x_k)]] = some ((negF (⟨x_a, x_b, x_k⟩ : N3)).av) := by
  kernel_rfl
theorem m83 : Meets Try.prog GL0 83 s83 := by
  refine meetsN mix0 gl0 G5 Try.func83 (by kernel_rfl) (by kernel_rfl) s83 fun args x h => ?_
  unfold s83 at h
  split at h
  · rename_i x_a x_b x_k
    simp only [Option.some.injEq, Prod.mk.injEq] at h
    obtain ⟨hp, rfl⟩ := h
    exact ⟨_, _, by kernel_rfl, e83 x_a x_b x_k⟩
  · cases h
abbrev Γ6 : List (Nat × Ctr) := (83, s83) :: Γ5
theorem G6 : Sound Try.prog GL0 Γ6 := G5.cons m83

-- (impl.Num).times
def s51 : Ctr := fun
  | [.agg [.val (.int .i64 x_a), .val (.int .i64 x_b), .val (.int .i64 x_k)], .agg [.val (.int .i64 y_a), .val (.int .i64 y_b), .val (.int .i64 y_k)]] => some (pkm (⟨x_a, x_b, x_k⟩ : N3) (⟨y_a, y_b, y_k⟩ : N3), (mulF (⟨x_a, x_b, x_k⟩ : N3) (⟨y_a, y_b, y_k⟩ : N3)).av)
  | _ => none

theorem e51 (x_a : Int) (x_b : Int) (x_k : Int) (y_a : Int) (y_b : Int) (y_k : Int) (hp : pkm (⟨x_a, x_b, x_k⟩ : N3) (⟨y_a, y_b, y_k⟩ : N3) = true) : evN Try.prog GL0 Γ6 (0) [] Try.f51 [.agg [.val (.int .i64 x_a), .val (.int .i64 x_b), .val (.int .i64 x_k)], .agg [.val (.int .i64 y_a), .val (.int .i64 y_b), .val (.int .i64 y_k)]] = some ((mulF (⟨x_a, x_b, x_k⟩ : N3) (⟨y_a, y_b, y_k⟩ : N3)).av) := by
  refine (show _ = cond (kB (wr (x_k + y_k))) (some (mulF (⟨x_a, x_b, x_k⟩ : N3) (⟨y_a, y_b, y_k⟩ : N3)).av) none from by kernel_rfl).trans ?_
  have := pkm_kB hp
  simp only at this
  rw [this]
  rfl
theorem m51 : Meets Try.prog GL0 51 s51 := by
  refine meetsN mix0 gl0 G6 Try.func51 (by kernel_rfl) (by kernel_rfl) s51 fun args x h => ?_
  unfold s51 at h
  split at h
  · rename_i x_a x_b x_k y_a y_b y_k
    simp only [Option.some.injEq, Prod.mk.injEq] at h
    obtain ⟨hp, rfl⟩ := h
    exact ⟨_, _, by kernel_rfl, e51 x_a x_b x_k y_a y_b y_k hp⟩
  · cases h
abbrev Γ7 : List (Nat × Ctr) := (51, s51) :: Γ6
theorem G7 : Sound Try.prog GL0 Γ7 := G6.cons m51

-- spec.l01Mul
def s48 : Ctr := fun
  | [.agg [.val (.int .i64 x_a), .val (.int .i64 x_b), .val (.int .i64 x_k)], .agg [.val (.int .i64 y_a), .val (.int .i64 y_b), .val (.int .i64 y_k)]] => some (pkm (⟨x_a, x_b, x_k⟩ : N3) (⟨y_a, y_b, y_k⟩ : N3), (mulF (⟨x_a, x_b, x_k⟩ : N3) (⟨y_a, y_b, y_k⟩ : N3)).av)
  | _ => none

theorem e48 (x_a : Int) (x_b : Int) (x_k : Int) (y_a : Int) (y_b : Int) (y_k : Int) (hp : pkm (⟨x_a, x_b, x_k⟩ : N3) (⟨y_a, y_b, y_k⟩ : N3) = true) : evN Try.prog GL0 Γ7 (0) [] Try.f48 [.agg [.val (.int .i64 x_a), .val (.int .i64 x_b), .val (.int .i64 x_k)], .agg [.val (.int .i64 y_a), .val (.int .i64 y_b), .val (.int .i64 y_k)]] = some ((mulF (⟨x_a, x_b, x_k⟩ : N3) (⟨y_a, y_b, y_k⟩ : N3)).av) := by
  refine (show _ = cond (kB (wr (x_k + y_k))) (some (mulF (⟨x_a, x_b, x_k⟩ : N3) (⟨y_a, y_b, y_k⟩ : N3)).av) none from by kernel_rfl).trans ?_
  have := pkm_kB hp
  simp only at this
  rw [this]
  rfl
theorem m48 : Meets Try.prog GL0 48 s48 := by
  refine meetsN mix0 gl0 G7 Try.func48 (by kernel_rfl) (by kernel_rfl) s48 fun args x h => ?_
  unfold s48 at h
  split at h
  · rename_i x_a x_b x_k y_a y_b y_k
    simp only [Option.some.injEq, Prod.mk.injEq] at h
    obtain ⟨hp, rfl⟩ := h
    exact ⟨_, _, by kernel_rfl, e48 x_a x_b x_k y_a y_b y_k hp⟩
  · cases h
abbrev Γ8 : List (Nat × Ctr) := (48, s48) :: Γ7
theorem G8 : Sound Try.prog GL0 Γ8 := G7.cons m48

-- (impl.Num).plus
def s53 : Ctr := fun
  | [.agg [.val (.int .i64 x_a), .val (.int .i64 x_b), .val (.int .i64 x_k)], .agg [.val (.int .i64 y_a), .val (.int .i64 y_b), .val (.int .i64 y_k)]] => some (pk (⟨x_a, x_b, x_k⟩ : N3) (⟨y_a, y_b, y_k⟩ : N3), (addF (⟨x_a, x_b, x_k⟩ : N3) (⟨y_a, y_b, y_k⟩ : N3)).av)
  | _ => none

theorem e53 (x_a : Int) (x_b : Int) (x_k : Int) (y_a : Int) (y_b : Int) (y_k : Int) (hp : pk (⟨x_a, x_b, x_k⟩ : N3) (⟨y_a, y_b, y_k⟩ : N3) = true) : evN Try.prog GL0 Γ8 (0) [] Try.f53 [.agg [.val (.int .i64 x_a), .val (.int .i64 x_b), .val (.int .i64 x_k)], .agg [.val (.int .i64 y_a), .val (.int .i64 y_b), .val (.int .i64 y_k)]] = some ((addF (⟨x_a, x_b, x_k⟩ : N3) (⟨y_a, y_b, y_k⟩ : N3)).av) := by
  obtain ⟨h1, h2, h3⟩ := pk_sh hp
  refine (show _ = cond (decide (0 ≤ wr (gmax x_k y_k - x_k))) (cond (decide (0 ≤ wr (gmax x_k y_k - y_k))) (cond (decide (0 ≤ wr (gmax x_k y_k - x_k))) (cond (decide (0 ≤ wr (gmax x_k y_k - y_k))) (cond (kB (gmax x_k y_k)) (some (addF (⟨x_a, x_b, x_k⟩ : N3) (⟨y_a, y_b, y_k⟩ : N3)).av) none) none) none) none) none from by kernel_rfl).trans ?_
  simp only at h1 h2 h3
  rw [h1, h2, h3]
  rfl
theorem m53 : Meets Try.prog GL0 53 s53 := by
  refine meetsN mix0 gl0 G8 Try.func53 (by kernel_rfl) (by kernel_rfl) s53 fun args x h => ?_
  unfold s53 at h
  split at h
  · rename_i x_a x_b x_k y_a y_b y_k
    simp only [Option.some.injEq, Prod.mk.injEq] at h
    obtain ⟨hp, rfl⟩ := h
    exact ⟨_, _, by kernel_rfl, e53 x_a x_b x_k y_a y_b y_k hp⟩
  · cases h
abbrev Γ9 : List (Nat × Ctr) := (53, s53) :: Γ8
theorem G9 : Sound Try.prog GL0 Γ9 := G8.cons m53

-- spec.l01Add
def s52 : Ctr := fun
  | [.agg [.val (.int .i64 x_a), .val (.int .i64 x_b), .val (.int .i64 x_k)], .agg [.val (.int .i64 y_a), .val (.int .i64 y_b), .val (.int .i64 y_k)]] => some (pk (⟨x_a, x_b, x_k⟩ : N3) (⟨y_a, y_b, y_k⟩ : N3), (addF (⟨x_a, x_b, x_k⟩ : N3) (⟨y_a, y_b, y_k⟩ : N3)).av)
  | _ => none

theorem r52_step0 (K n : Nat) (a b k c d l : Int) : runL Try.prog GL0 Γ9 K [false, false, true, true, true] Try.f52 0 (n + 1) (stL Try.f52.ntmps [.non, .non, .own 63 [iv (a), iv (b), iv (k)], .own 63 [iv (c), iv (d), iv (l)], .own 63 [iv 0, iv 0, iv 0]]) = cond (decide (k < l)) (runL Try.prog GL0 Γ9 K [false, false, true, true, true] Try.f52 0 n (stL Try.f52.ntmps [.non, .non, .own 63 [iv (wr (a * 2)), iv (wr (b * 2)), iv (wr (k + 1))], .own 63 [iv (c), iv (d), iv (l)], .own 63 [iv 0, iv 0, iv 0]])) (runL Try.prog GL0 Γ9 K [false, false, true, true, true] Try.f52 1 K (stL Try.f52.ntmps [.non, .non, .own 63 [iv (a), iv (b), iv (k)], .own 63 [iv (c), iv (d), iv (l)], .own 63 [iv 0, iv 0, iv 0]])) := by kernel_rfl
theorem r52_step1 (K n : Nat) (a b k c d l : Int) : runL Try.prog GL0 Γ9 K [false, false, true, true, true] Try.f52 1 (n + 1) (stL Try.f52.ntmps [.non, .non, .own 63 [iv (a), iv (b), iv (k)], .own 63 [iv (c), iv (d), iv (l)], .own 63 [iv 0, iv 0, iv 0]]) = cond (decide (l < k)) (runL Try.prog GL0 Γ9 K [false, false, true, true, true] Try.f52 1 n (stL Try.f52.ntmps [.non, .non, .own 63 [iv (a), iv (b), iv (k)], .own 63 [iv (wr (c * 2)), iv (wr (d * 2)), iv (wr (l + 1))], .own 63 [iv 0, iv 0, iv 0]])) (cond (kB k) (some (red ⟨wr (a + c), wr (b + d), k⟩).av) none) := by kernel_rfl
theorem r52_run1 (K : Nat) : ∀ (m : Nat) (a b k c d l : Int) (n : Nat), kB k = true → 0 ≤ l → (k - l).toNat = m → m < n →
    runL Try.prog GL0 Γ9 K [false, false, true, true, true] Try.f52 1 n (stL Try.f52.ntmps [.non, .non, .own 63 [iv (a), iv (b), iv (k)], .own 63 [iv (c), iv (d), iv (l)], .own 63 [iv 0, iv 0, iv 0]]) = some (red ⟨wr (a + dblI m c), wr (b + dblI m d), k⟩).av := by
  intro m
  induction m with
  | zero =>
    intro a b k c d l n hk hl h0 hn
    obtain ⟨n, rfl⟩ : ∃ n', n = n' + 1 := ⟨n - 1, by omega⟩
    have : decide (l < k) = false := by simp; omega
    rw [r52_step1, this, hk]
    rfl
  | succ m ih =>
    intro a b k c d l n hk hl h0 hn
    obtain ⟨n, rfl⟩ : ∃ n', n = n' + 1 := ⟨n - 1, by omega⟩
    have : decide (l < k) = true := by simp; omega
    have hk' := kB_iff.1 hk
    have hw : wr (l + 1) = l + 1 := wr_in (by omega) (by omega)
    rw [r52_step1, this, cond_true, hw, ih _ _ _ _ _ _ _ hk (by omega) (by omega) (by omega)]
    rfl
theorem r52_run0 (K : Nat) : ∀ (m : Nat) (a b k c d l : Int) (n : Nat), 0 ≤ k → kB l = true → (l - k).toNat = m → m < n →
    runL Try.prog GL0 Γ9 K [false, false, true, true, true] Try.f52 0 n (stL Try.f52.ntmps [.non, .non, .own 63 [iv (a), iv (b), iv (k)], .own 63 [iv (c), iv (d), iv (l)], .own 63 [iv 0, iv 0, iv 0]]) = runL Try.prog GL0 Γ9 K [false, false, true, true, true] Try.f52 1 K (stL Try.f52.ntmps [.non, .non, .own 63 [iv (dblI m a), iv (dblI m b), iv (k + (m : Int))], .own 63 [iv (c), iv (d), iv (l)], .own 63 [iv 0, iv 0, iv 0]]) := by
  intro m
  induction m with
  | zero =>
    intro a b k c d l n hk hl h0 hn
    obtain ⟨n, rfl⟩ : ∃ n', n = n' + 1 := ⟨n - 1, by omega⟩
    have : decide (k < l) = false := by simp; omega
    rw [r52_step0, this, cond_false]
    simp only [dblI, Int.ofNat_zero, Int.natCast_zero, Int.add_zero]
  | succ m ih =>
    intro a b k c d l n hk hl h0 hn
    obtain ⟨n, rfl⟩ : ∃ n', n = n' + 1 := ⟨n - 1, by omega⟩
    have : decide (k < l) = true := by simp; omega
    have hl' := kB_iff.1 hl
    have hw : wr (k + 1) = k + 1 := wr_in (by omega) (by omega)
    rw [r52_step0, this, cond_true, hw, ih _ _ _ _ _ _ _ (by omega) hl (by omega) (by omega)]
    have e : k + 1 + (m : Int) = k + ((m + 1 : Nat) : Int) := by omega
    rw [e]
    rfl
theorem e52 (x_a : Int) (x_b : Int) (x_k : Int) (y_a : Int) (y_b : Int) (y_k : Int) (hp : pk (⟨x_a, x_b, x_k⟩ : N3) (⟨y_a, y_b, y_k⟩ : N3) = true) : evN Try.prog GL0 Γ9 (x_k.toNat + y_k.toNat + 1) [false, false, true, true, true] Try.f52 [.agg [.val (.int .i64 x_a), .val (.int .i64 x_b), .val (.int .i64 x_k)], .agg [.val (.int .i64 y_a), .val (.int .i64 y_b), .val (.int .i64 y_k)]] = some ((addF (⟨x_a, x_b, x_k⟩ : N3) (⟨y_a, y_b, y_k⟩ : N3)).av) := by
  obtain ⟨h1, h2⟩ := pk_iff.1 hp
  simp only at h1 h2
  refine (show _ = runL Try.prog GL0 Γ9 (x_k.toNat + y_k.toNat + 1) [false, false, true, true, true] Try.f52 0 (x_k.toNat + y_k.toNat + 1) (stL Try.f52.ntmps [.non, .non, .own 63 [iv (x_a), iv (x_b), iv (x_k)], .own 63 [iv (y_a), iv (y_b), iv (y_k)], .own 63 [iv 0, iv 0, iv 0]]) from by kernel_rfl).trans ?_
  rw [r52_run0 _ (y_k - x_k).toNat _ _ _ _ _ _ _ h1.1 (kB_iff.2 h2) rfl (by omega)]
  rw [r52_run1 _ (x_k - y_k).toNat _ _ _ _ _ _ _ (kB_iff.2 (by omega)) h2.1 (by omega) (by omega)]
  have := addR_dbl hp
  simp only at this
  rw [this]
  rfl
theorem m52 : Meets Try.prog GL0 52 s52 := by
  refine meetsN mix0 gl0 G9 Try.func52 (by kernel_rfl) (by kernel_rfl) s52 fun args x h => ?_
  unfold s52 at h
  split at h
  · rename_i x_a x_b x_k y_a y_b y_k
    simp only [Option.some.injEq, Prod.mk.injEq] at h
    obtain ⟨hp, rfl⟩ := h
    exact ⟨_, _, by kernel_rfl, e52 x_a x_b x_k y_a y_b y_k hp⟩
  · cases h
abbrev Γ10 : List (Nat × Ctr) := (52, s52) :: Γ9
theorem G10 : Sound Try.prog GL0 Γ10 := G9.cons m52

-- (impl.Num).minus
def s55 : Ctr := fun
  | [.agg [.val (.int .i64 x_a), .val (.int .i64 x_b), .val (.int .i64 x_k)], .agg [.val (.int .i64 y_a), .val (.int .i64 y_b), .val (.int .i64 y_k)]] => some (pk (⟨x_a, x_b, x_k⟩ : N3) (⟨y_a, y_b, y_k⟩ : N3), (subF (⟨x_a, x_b, x_k⟩ : N3) (⟨y_a, y_b, y_k⟩ : N3)).av)
  | _ => none

theorem e55 (x_a : Int) (x_b : Int) (x_k : Int) (y_a : Int) (y_b : Int) (y_k : Int) (hp : pk (⟨x_a, x_b, x_k⟩ : N3) (⟨y_a, y_b, y_k⟩ : N3) = true) : evN Try.prog GL0 Γ10 (0) [] Try.f55 [.agg [.val (.int .i64 x_a), .val (.int .i64 x_b), .val (.int .i64 x_k)], .agg [.val (.int .i64 y_a), .val (.int .i64 y_b), .val (.int .i64 y_k)]] = some ((subF (⟨x_a, x_b, x_k⟩ : N3) (⟨y_a, y_b, y_k⟩ : N3)).av) := by
  refine (show _ = cond (pk (⟨x_a, x_b, x_k⟩ : N3) (⟨y_a, y_b, y_k⟩ : N3)) (some (subF (⟨x_a, x_b, x_k⟩ : N3) (⟨y_a, y_b, y_k⟩ : N3)).av) none from by kernel_rfl).trans ?_
  rw [hp]
  rfl
theorem m55 : Meets Try.prog GL0 55 s55 := by
  refine meetsN mix0 gl0 G10 Try.func55 (by kernel_rfl) (by kernel_rfl) s55 fun args x h => ?_
  unfold s55 at h
  split at h
  · rename_i x_a x_b x_k y_a y_b y_k
    simp only [Option.some.injEq, Prod.mk.injEq] at h
    obtain ⟨hp, rfl⟩ := h
    exact ⟨_, _, by kernel_rfl, e55 x_a x_b x_k y_a y_b y_k hp⟩
  · cases h
abbrev Γ11 : List (Nat × Ctr) := (55, s55) :: Γ10
theorem G11 : Sound Try.prog GL0 Γ11 := G10.cons m55

-- spec.l01Sub
def s54 : Ctr := fun
  | [.agg [.val (.int .i64 x_a), .val (.int .i64 x_b), .val (.int .i64 x_k)], .agg [.val (.int .i64 y_a), .val (.int .i64 y_b), .val (.int .i64 y_k)]] => some (pk (⟨x_a, x_b, x_k⟩ : N3) (⟨y_a, y_b, y_k⟩ : N3), (subF (⟨x_a, x_b, x_k⟩ : N3) (⟨y_a, y_b, y_k⟩ : N3)).av)
  | _ => none

theorem e54 (x_a : Int) (x_b : Int) (x_k : Int) (y_a : Int) (y_b : Int) (y_k : Int) (hp : pk (⟨x_a, x_b, x_k⟩ : N3) (⟨y_a, y_b, y_k⟩ : N3) = true) : evN Try.prog GL0 Γ11 (0) [] Try.f54 [.agg [.val (.int .i64 x_a), .val (.int .i64 x_b), .val (.int .i64 x_k)], .agg [.val (.int .i64 y_a), .val (.int .i64 y_b), .val (.int .i64 y_k)]] = some ((subF (⟨x_a, x_b, x_k⟩ : N3) (⟨y_a, y_b, y_k⟩ : N3)).av) := by
  refine (show _ = cond (pk (⟨x_a, x_b, x_k⟩ : N3) (⟨y_a, y_b, y_k⟩ : N3)) (some (subF (⟨x_a, x_b, x_k⟩ : N3) (⟨y_a, y_b, y_k⟩ : N3)).av) none from by kernel_rfl).trans ?_
  rw [hp]
  rfl
theorem m54 : Meets Try.prog GL0 54 s54 := by
  refine meetsN mix0 gl0 G11 Try.func54 (by kernel_rfl) (by kernel_rfl) s54 fun args x h => ?_
  unfold s54 at h
  split at h
  · rename_i x_a x_b x_k y_a y_b y_k
    simp only [Option.some.injEq, Prod.mk.injEq] at h
    obtain ⟨hp, rfl⟩ := h
    exact ⟨_, _, by kernel_rfl, e54 x_a x_b x_k y_a y_b y_k hp⟩
  · cases h
abbrev Γ12 : List (Nat × Ctr) := (54, s54) :: Γ11
theorem G12 : Sound Try.prog GL0 Γ12 := G11.cons m54

-- (impl.Num).half
def s86 : Ctr := fun
  | [.agg [.val (.int .i64 x_a), .val (.int .i64 x_b), .val (.int .i64 x_k)]] => some (kB (wr (x_k + 1)), (halfF (⟨x_a, x_b, x_k⟩ : N3)).av)
  | _ => none

theorem e86 (x_a : Int) (x_b : Int) (x_k : Int) (hp : kB (wr (x_k + 1)) = true) : evN Try.prog GL0 Γ12 (0) [] Try.f86 [.agg [.val (.int .i64 x_a), .val (.int .i64 x_b), .val (.int .i64 x_k)]] = some ((halfF (⟨x_a, x_b, x_k⟩ : N3)).av) := by
  refine (show _ = cond (kB (wr (x_k + 1))) (some (halfF (⟨x_a, x_b, x_k⟩ : N3)).av) none from by kernel_rfl).trans ?_
  rw [hp]
  rfl
theorem m86 : Meets Try.prog GL0 86 s86 := by
  refine meetsN mix0 gl0 G12 Try.func86 (by kernel_rfl) (by kernel_rfl) s86 fun args x h => ?_
  unfold s86 at h
  split at h
  · rename_i x_a x_b x_k
    simp only [Option.some.injEq, Prod.mk.injEq] at h
    obtain ⟨hp, rfl⟩ := h
    exact ⟨_, _, by kernel_rfl, e86 x_a x_b x_k hp⟩
  · cases h
abbrev Γ13 : List (Nat × Ctr) := (86, s86) :: Γ12
theorem G13 : Sound Try.prog GL0 Γ13 := G12.cons m86

-- impl.ValidNum
def s71 : Ctr := fun
  | [.agg [.val (.int .i64 x_a), .val (.int .i64 x_b), .val (.int .i64 x_k)]] => some (true, bv (validB (⟨x_a, x_b, x_k⟩ : N3)))
  | _ => none

theorem e71 (x_a : Int) (x_b : Int) (x_k : Int) : evN Try.prog GL0 Γ13 (0) [] Try.f71 [.agg [.val (.int .i64 x_a), .val (.int .i64 x_b), .val (.int .i64 x_k)]] = some (bv (validB (⟨x_a, x_b, x_k⟩ : N3))) := by
  refine (show _ = cond (inB x_a (-131072) 131072) ( cond (inB x_b (-131072) 131072) ( cond (inB x_k 0 10) ( cond (x_k == 0) ( some (bv (true)) ) ( cond (IntKind.i64.wrap ↑(BitVec.ofInt 64 x_a &&& BitVec.ofInt 64 1).toNat == 1) ( some (bv (true)) ) ( some (bv (IntKind.i64.wrap ↑(BitVec.ofInt 64 x_b &&& BitVec.ofInt 64 1).toNat == 1)) ) ) ) ( some (bv (false)) ) ) ( some (bv (false)) ) ) ( some (bv (false)) ) from by kernel_rfl).trans ?_
  simp only [validB]
  cases inB x_a (-131072) 131072 <;> cases inB x_b (-131072) 131072 <;> cases inB x_k 0 10 <;> cases (x_k == 0) <;> simp only [cond_true, cond_false, Bool.true_and, Bool.false_and, Bool.true_or, Bool.false_or, and_eq, tmod_ne, odd] <;> (first | rfl | (cases decide (x_a % 2 = 1) <;> rfl))
theorem m71 : Meets Try.prog GL0 71 s71 := by
  refine meetsN mix0 gl0 G13 Try.func71 (by kernel_rfl) (by kernel_rfl) s71 fun args x h => ?_
  unfold s71 at h
  split at h
  · rename_i x_a x_b x_k
    simp only [Option.some.injEq, Prod.mk.injEq] at h
    obtain ⟨hp, rfl⟩ := h
    exact ⟨_, _, by kernel_rfl, e71 x_a x_b x_k⟩
  · cases h
abbrev Γ14 : List (Nat × Ctr) := (71, s71) :: Γ13
theorem G14 : Sound Try.prog GL0 Γ14 := G13.cons m71

-- spec.l01Ok
def s47 : Ctr := fun
  | [.agg [.val (.int .i64 x_a), .val (.int .i64 x_b), .val (.int .i64 x_k)]] => some (true, bv (validB (⟨x_a, x_b, x_k⟩ : N3)))
  | _ => none

theorem e47 (x_a : Int) (x_b : Int) (x_k : Int) : evN Try.prog GL0 Γ14 (0) [] Try.f47 [.agg [.val (.int .i64 x_a), .val (.int .i64 x_b), .val (.int .i64 x_k)]] = some (bv (validB (⟨x_a, x_b, x_k⟩ : N3))) := by
  refine (show _ = cond (!inB x_a (-131072) 131072) ( some (bv (false)) ) ( cond (!inB x_b (-131072) 131072) ( some (bv (false)) ) ( cond (!inB x_k 0 10) ( some (bv (false)) ) ( cond (x_k == 0) ( some (bv (true)) ) ( cond (x_a.tmod 2 != 0) ( some (bv (true)) ) ( some (bv (x_b.tmod 2 != 0)) ) ) ) ) ) from by kernel_rfl).trans ?_
  simp only [validB]
  cases inB x_a (-131072) 131072 <;> cases inB x_b (-131072) 131072 <;> cases inB x_k 0 10 <;> cases (x_k == 0) <;> simp only [cond_true, cond_false, Bool.true_and, Bool.false_and, Bool.true_or, Bool.false_or, and_eq, tmod_ne, odd] <;> (first | rfl | (cases decide (x_a % 2 = 1) <;> rfl))
theorem m47 : Meets Try.prog GL0 47 s47 := by
  refine meetsN mix0 gl0 G14 Try.func47 (by kernel_rfl) (by kernel_rfl) s47 fun args x h => ?_
  unfold s47 at h
  split at h
  · rename_i x_a x_b x_k
    simp only [Option.some.injEq, Prod.mk.injEq] at h
    obtain ⟨hp, rfl⟩ := h
    exact ⟨_, _, by kernel_rfl, e47 x_a x_b x_k⟩
  · cases h
abbrev Γ15 : List (Nat × Ctr) := (47, s47) :: Γ14
theorem G15 : Sound Try.prog GL0 Γ15 := G14.cons m47

-- spec.ValidNum
def s37 : Ctr := fun
  | [.agg [.val (.int .i64 x_a), .val (.int .i64 x_b), .val (.int .i64 x_k)]] => some (true, bv (validB (⟨x_a, x_b, x_k⟩ : N3)))
  | _ => none

theorem e37 (x_a : Int) (x_b : Int) (x_k : Int) : evN Try.prog GL0 Γ15 (0) [] Try.f37 [.agg [.val (.int .i64 x_a), .val (.int .i64 x_b), .val (.int .i64 x_k)]] = some (bv (validB (⟨x_a, x_b, x_k⟩ : N3))) := by
  kernel_rfl
theorem m37 : Meets Try.prog GL0 37 s37 := by
  refine meetsN mix0 gl0 G15 Try.func37 (by kernel_rfl) (by kernel_rfl) s37 fun args x h => ?_
  unfold s37 at h
  split at h
  · rename_i x_a x_b x_k
    simp only [Option.some.injEq, Prod.mk.injEq] at h
    obtain ⟨hp, rfl⟩ := h
    exact ⟨_, _, by kernel_rfl, e37 x_a x_b x_k⟩
  · cases h
abbrev Γ16 : List (Nat × Ctr) := (37, s37) :: Γ15
theorem G16 : Sound Try.prog GL0 Γ16 := G15.cons m37

-- (impl.Num).checked
def s46 : Ctr := fun
  | [.agg [.val (.int .i64 x_a), .val (.int .i64 x_b), .val (.int .i64 x_k)]] => some (kB x_k, .tup [(chk (⟨x_a, x_b, x_k⟩ : N3)).av, bv (chkB (⟨x_a, x_b, x_k⟩ : N3))])
  | _ => none

theorem e46 (x_a : Int) (x_b : Int) (x_k : Int) (hp : kB x_k = true) : evN Try.prog GL0 Γ16 (0) [] Try.f46 [.agg [.val (.int .i64 x_a), .val (.int .i64 x_b), .val (.int .i64 x_k)]] = some (.tup [(chk (⟨x_a, x_b, x_k⟩ : N3)).av, bv (chkB (⟨x_a, x_b, x_k⟩ : N3))]) := by
  refine (show _ = cond (kB x_k) ( cond (!validB (N3.mk (red (N3.mk x_a x_b x_k)).1 (red (N3.mk x_a x_b x_k)).2 (red (N3.mk x_a x_b x_k)).3)) ( some ((.tup [(.agg [iv (0), iv (0), iv (0)]), bv (false)])) ) ( some ((.tup [(.agg [iv ((red (N3.mk x_a x_b x_k)).1), iv ((red (N3.mk x_a x_b x_k)).2), iv ((red (N3.mk x_a x_b x_k)).3)]), bv (true)])) ) ) ( none ) from by kernel_rfl).trans ?_
  rw [hp]
  simp only [chk, chkB, cond_true]
  cases validB (red (⟨x_a, x_b, x_k⟩ : N3)) <;> rfl
theorem m46 : Meets Try.prog GL0 46 s46 := by
  refine meetsN mix0 gl0 G16 Try.func46 (by kernel_rfl) (by kernel_rfl) s46 fun args x h => ?_
  unfold s46 at h
  split at h
  · rename_i x_a x_b x_k
    simp only [Option.some.injEq, Prod.mk.injEq] at h
    obtain ⟨hp, rfl⟩ := h
    exact ⟨_, _, by kernel_rfl, e46 x_a x_b x_k hp⟩
  · cases h
abbrev Γ17 : List (Nat × Ctr) := (46, s46) :: Γ16
theorem G17 : Sound Try.prog GL0 Γ17 := G16.cons m46

-- spec.l01Num
def s44 : Ctr := fun
  | [.agg [.val (.int .i64 x_a), .val (.int .i64 x_b), .val (.int .i64 x_k)]] => some (kB x_k, .tup [(chk (⟨x_a, x_b, x_k⟩ : N3)).av, bv (chkB (⟨x_a, x_b, x_k⟩ : N3))])
  | _ => none

theorem e44 (x_a : Int) (x_b : Int) (x_k : Int) (hp : kB x_k = true) : evN Try.prog GL0 Γ17 (0) [] Try.f44 [.agg [.val (.int .i64 x_a), .val (.int .i64 x_b), .val (.int .i64 x_k)]] = some (.tup [(chk (⟨x_a, x_b, x_k⟩ : N3)).av, bv (chkB (⟨x_a, x_b, x_k⟩ : N3))]) := by
  refine (show _ = cond (kB x_k) ( cond (!validB (N3.mk (red (N3.mk x_a x_b x_k)).1 (red (N3.mk x_a x_b x_k)).2 (red (N3.mk x_a x_b x_k)).3)) ( some ((.tup [(.agg [iv (0), iv (0), iv (0)]), bv (false)])) ) ( some ((.tup [(.agg [iv ((red (N3.mk x_a x_b x_k)).1), iv ((red (N3.mk x_a x_b x_k)).2), iv ((red (N3.mk x_a x_b x_k)).3)]), bv (true)])) ) ) ( none ) from by kernel_rfl).trans ?_
  rw [hp]
  simp only [chk, chkB, cond_true]
  cases validB (red (⟨x_a, x_b, x_k⟩ : N3)) <;> rfl
theorem m44 : Meets Try.prog GL0 44 s44 := by
  refine meetsN mix0 gl0 G17 Try.func44 (by kernel_rfl) (by kernel_rfl) s44 fun args x h => ?_
  unfold s44 at h
  split at h
  · rename_i x_a x_b x_k
    simp only [Option.some.injEq, Prod.mk.injEq] at h
    obtain ⟨hp, rfl⟩ := h
    exact ⟨_, _, by kernel_rfl, e44 x_a x_b x_k hp⟩
  · cases h
abbrev Γ18 : List (Nat × Ctr) := (44, s44) :: Γ17
theorem G18 : Sound Try.prog GL0 Γ18 := G17.cons m44

-- impl.areNums
def s50 : Ctr := fun
  | [.agg [.val (.int .i64 x_a), .val (.int .i64 x_b), .val (.int .i64 x_k)], .agg [.val (.int .i64 y_a), .val (.int .i64 y_b), .val (.int .i64 y_k)]] => some (true, bv (validB (⟨x_a, x_b, x_k⟩ : N3) && validB (⟨y_a, y_b, y_k⟩ : N3)))
  | _ => none

theorem e50 (x_a : Int) (x_b : Int) (x_k : Int) (y_a : Int) (y_b : Int) (y_k : Int) : evN Try.prog GL0 Γ18 (0) [] Try.f50 [.agg [.val (.int .i64 x_a), .val (.int .i64 x_b), .val (.int .i64 x_k)], .agg [.val (.int .i64 y_a), .val (.int .i64 y_b), .val (.int .i64 y_k)]] = some (bv (validB (⟨x_a, x_b, x_k⟩ : N3) && validB (⟨y_a, y_b, y_k⟩ : N3))) := by
  refine (show _ = cond (validB (N3.mk x_a x_b x_k)) ( some (bv (validB (N3.mk y_a y_b y_k))) ) ( some (bv (false)) ) from by kernel_rfl).trans ?_
  cases validB (⟨x_a, x_b, x_k⟩ : N3) <;> rfl
theorem m50 : Meets Try.prog GL0 50 s50 := by
  refine meetsN mix0 gl0 G18 Try.func50 (by kernel_rfl) (by kernel_rfl) s50 fun args x h => ?_
  unfold s50 at h
  split at h
  · rename_i x_a x_b x_k y_a y_b y_k
    simp only [Option.some.injEq, Prod.mk.injEq] at h
    obtain ⟨hp, rfl⟩ := h
    exact ⟨_, _, by kernel_rfl, e50 x_a x_b x_k y_a y_b y_k⟩
  · cases h
abbrev Γ19 : List (Nat × Ctr) := (50, s50) :: Γ18
theorem G19 : Sound Try.prog GL0 Γ19 := G18.cons m50

-- spec.l01Of
def s49 : Ctr := fun
  | [.agg [.val (.int .i64 x_a), .val (.int .i64 x_b), .val (.int .i64 x_k)]] => some (true, (⟨x_a, x_b, x_k⟩ : N3).av)
  | _ => none

theorem e49 (x_a : Int) (x_b : Int) (x_k : Int) : evN Try.prog GL0 Γ19 (0) [] Try.f49 [.agg [.val (.int .i64 x_a), .val (.int .i64 x_b), .val (.int .i64 x_k)]] = some ((⟨x_a, x_b, x_k⟩ : N3).av) := by
  kernel_rfl
theorem m49 : Meets Try.prog GL0 49 s49 := by
  refine meetsN mix0 gl0 G19 Try.func49 (by kernel_rfl) (by kernel_rfl) s49 fun args x h => ?_
  unfold s49 at h
  split at h
  · rename_i x_a x_b x_k
    simp only [Option.some.injEq, Prod.mk.injEq] at h
    obtain ⟨hp, rfl⟩ := h
    exact ⟨_, _, by kernel_rfl, e49 x_a x_b x_k⟩
  · cases h
abbrev Γ20 : List (Nat × Ctr) := (49, s49) :: Γ19
theorem G20 : Sound Try.prog GL0 Γ20 := G19.cons m49

-- laws.toNum
def s18 : Ctr := fun
  | [.agg [.val (.int .i64 x_a), .val (.int .i64 x_b), .val (.int .i64 x_k)]] => some (true, (⟨x_a, x_b, x_k⟩ : N3).av)
  | _ => none

theorem e18 (x_a : Int) (x_b : Int) (x_k : Int) : evN Try.prog GL0 Γ20 (0) [] Try.f18 [.agg [.val (.int .i64 x_a), .val (.int .i64 x_b), .val (.int .i64 x_k)]] = some ((⟨x_a, x_b, x_k⟩ : N3).av) := by
  kernel_rfl
theorem m18 : Meets Try.prog GL0 18 s18 := by
  refine meetsN mix0 gl0 G20 Try.func18 (by kernel_rfl) (by kernel_rfl) s18 fun args x h => ?_
  unfold s18 at h
  split at h
  · rename_i x_a x_b x_k
    simp only [Option.some.injEq, Prod.mk.injEq] at h
    obtain ⟨hp, rfl⟩ := h
    exact ⟨_, _, by kernel_rfl, e18 x_a x_b x_k⟩
  · cases h
abbrev Γ21 : List (Nat × Ctr) := (18, s18) :: Γ20
theorem G21 : Sound Try.prog GL0 Γ21 := G20.cons m18

-- laws.eqNum
def s16 : Ctr := fun
  | [.agg [.val (.int .i64 x_a), .val (.int .i64 x_b), .val (.int .i64 x_k)], .agg [.val (.int .i64 y_a), .val (.int .i64 y_b), .val (.int .i64 y_k)]] => some (true, bv (eq3 (⟨x_a, x_b, x_k⟩ : N3) (⟨y_a, y_b, y_k⟩ : N3)))
  | _ => none

theorem e16 (x_a : Int) (x_b : Int) (x_k : Int) (y_a : Int) (y_b : Int) (y_k : Int) : evN Try.prog GL0 Γ21 (0) [] Try.f16 [.agg [.val (.int .i64 x_a), .val (.int .i64 x_b), .val (.int .i64 x_k)], .agg [.val (.int .i64 y_a), .val (.int .i64 y_b), .val (.int .i64 y_k)]] = some (bv (eq3 (⟨x_a, x_b, x_k⟩ : N3) (⟨y_a, y_b, y_k⟩ : N3))) := by
  refine (show _ = cond (x_a != y_a) ( some (bv (false)) ) ( cond (x_b != y_b) ( some (bv (false)) ) ( cond (x_k != y_k) ( some (bv (false)) ) ( some (bv (true)) ) ) ) from by kernel_rfl).trans ?_
  simp only [eq3]
  cases (x_a != y_a) <;> cases (x_b != y_b) <;> cases (x_k != y_k) <;> rfl
theorem m16 : Meets Try.prog GL0 16 s16 := by
  refine meetsN mix0 gl0 G21 Try.func16 (by kernel_rfl) (by kernel_rfl) s16 fun args x h => ?_
  unfold s16 at h
  split at h
  · rename_i x_a x_b x_k y_a y_b y_k
    simp only [Option.some.injEq, Prod.mk.injEq] at h
    obtain ⟨hp, rfl⟩ := h
    exact ⟨_, _, by kernel_rfl, e16 x_a x_b x_k y_a y_b y_k⟩
  · cases h
abbrev Γ22 : List (Nat × Ctr) := (16, s16) :: Γ21
theorem G22 : Sound Try.prog GL0 Γ22 := G21.cons m16

-- impl.MakeNum
def s15 : Ctr := fun
  | [.val (.int .i64 a), .val (.int .i64 b), .val (.int .i64 k)] => some (true, opV (inB k 0 62) (⟨a, b, k⟩ : N3))
  | _ => none

theorem e15 (a : Int) (b : Int) (k : Int) : evN Try.prog GL0 Γ22 (0) [] Try.f15 [.val (.int .i64 a), .val (.int .i64 b), .val (.int .i64 k)] = some (opV (inB k 0 62) (⟨a, b, k⟩ : N3)) := by
  refine (show _ = cond (!inB k 0 62) ( some ((.tup [(.agg [iv (0), iv (0), iv (0)]), bv (false)])) ) ( cond (kB k) ( some ((.tup [(.agg [iv (bif chkB (N3.mk a b k) then (red (N3.mk a b k)).1 else 0), iv (bif chkB (N3.mk a b k) then (red (N3.mk a b k)).2 else 0), iv (bif chkB (N3.mk a b k) then (red (N3.mk a b k)).3 else 0)]), bv (chkB (N3.mk a b k))])) ) ( none ) ) from by kernel_rfl).trans ?_
  cases h : inB k 0 62 with
  | true => simp only [h, kB_in h, opV, cond_true, cond_false, Bool.not_true, Bool.true_and]; first | rfl | (cases chkB (⟨a, b, k⟩ : N3) <;> rfl)
  | false => simp only [h, cond_true, cond_false, Bool.not_false]; rfl
theorem m15 : Meets Try.prog GL0 15 s15 := by
  refine meetsN mix0 gl0 G22 Try.func15 (by kernel_rfl) (by kernel_rfl) s15 fun args x h => ?_
  unfold s15 at h
  split at h
  · rename_i a b k
    simp only [Option.some.injEq, Prod.mk.injEq] at h
    obtain ⟨hp, rfl⟩ := h
    exact ⟨_, _, by kernel_rfl, e15 a b k⟩
  · cases h
abbrev Γ23 : List (Nat × Ctr) := (15, s15) :: Γ22
theorem G23 : Sound Try.prog GL0 Γ23 := G22.cons m15

-- spec.MakeNum
def s14 : Ctr := fun
  | [.val (.int .i64 a), .val (.int .i64 b), .val (.int .i64 k)] => some (true, opV (inB k 0 62) (⟨a, b, k⟩ : N3))
  | _ => none

theorem e14 (a : Int) (b : Int) (k : Int) : evN Try.prog GL0 Γ23 (0) [] Try.f14 [.val (.int .i64 a), .val (.int .i64 b), .val (.int .i64 k)] = some (opV (inB k 0 62) (⟨a, b, k⟩ : N3)) := by
  refine (show _ = cond (!inB k 0 62) ( some ((.tup [(.agg [iv (0), iv (0), iv (0)]), bv (false)])) ) ( cond (kB k) ( some ((.tup [(.agg [iv (bif chkB (N3.mk a b k) then (red (N3.mk a b k)).1 else 0), iv (bif chkB (N3.mk a b k) then (red (N3.mk a b k)).2 else 0), iv (bif chkB (N3.mk a b k) then (red (N3.mk a b k)).3 else 0)]), bv (chkB (N3.mk a b k))])) ) ( none ) ) from by kernel_rfl).trans ?_
  cases h : inB k 0 62 with
  | true => simp only [h, kB_in h, opV, cond_true, cond_false, Bool.not_true, Bool.true_and]; first | rfl | (cases chkB (⟨a, b, k⟩ : N3) <;> rfl)
  | false => simp only [h, cond_true, cond_false, Bool.not_false]; rfl
theorem m14 : Meets Try.prog GL0 14 s14 := by
  refine meetsN mix0 gl0 G23 Try.func14 (by kernel_rfl) (by kernel_rfl) s14 fun args x h => ?_
  unfold s14 at h
  split at h
  · rename_i a b k
    simp only [Option.some.injEq, Prod.mk.injEq] at h
    obtain ⟨hp, rfl⟩ := h
    exact ⟨_, _, by kernel_rfl, e14 a b k⟩
  · cases h
abbrev Γ24 : List (Nat × Ctr) := (14, s14) :: Γ23
theorem G24 : Sound Try.prog GL0 Γ24 := G23.cons m14

-- impl.MulNum
def s19 : Ctr := fun
  | [.agg [.val (.int .i64 x_a), .val (.int .i64 x_b), .val (.int .i64 x_k)], .agg [.val (.int .i64 y_a), .val (.int .i64 y_b), .val (.int .i64 y_k)]] => some (true, opV (validB (⟨x_a, x_b, x_k⟩ : N3) && validB (⟨y_a, y_b, y_k⟩ : N3)) (mulF (⟨x_a, x_b, x_k⟩ : N3) (⟨y_a, y_b, y_k⟩ : N3)))
  | _ => none

theorem e19 (x_a : Int) (x_b : Int) (x_k : Int) (y_a : Int) (y_b : Int) (y_k : Int) : evN Try.prog GL0 Γ24 (0) [] Try.f19 [.agg [.val (.int .i64 x_a), .val (.int .i64 x_b), .val (.int .i64 x_k)], .agg [.val (.int .i64 y_a), .val (.int .i64 y_b), .val (.int .i64 y_k)]] = some (opV (validB (⟨x_a, x_b, x_k⟩ : N3) && validB (⟨y_a, y_b, y_k⟩ : N3)) (mulF (⟨x_a, x_b, x_k⟩ : N3) (⟨y_a, y_b, y_k⟩ : N3))) := by
  refine (show _ = cond (!(validB (N3.mk x_a x_b x_k) && validB (N3.mk y_a y_b y_k))) ( some ((.tup [(.agg [iv (0), iv (0), iv (0)]), bv (false)])) ) ( cond (pkm (N3.mk x_a x_b x_k) (N3.mk y_a y_b y_k)) ( cond (kB (mulF (N3.mk x_a x_b x_k) (N3.mk y_a y_b y_k)).3) ( some ((.tup [(.agg [iv (bif chkB (N3.mk (mulF (N3.mk x_a x_b x_k) (N3.mk y_a y_b y_k)).1 (mulF (N3.mk x_a x_b x_k) (N3.mk y_a y_b y_k)).2 (mulF (N3.mk x_a x_b x_k) (N3.mk y_a y_b y_k)).3) then (red (N3.mk (mulF (N3.mk x_a x_b x_k) (N3.mk y_a y_b y_k)).1 (mulF (N3.mk x_a x_b x_k) (N3.mk y_a y_b y_k)).2 (mulF (N3.mk x_a x_b x_k) (N3.mk y_a y_b y_k)).3)).1 else 0), iv (bif chkB (N3.mk (mulF (N3.mk x_a x_b x_k) (N3.mk y_a y_b y_k)).1 (mulF (N3.mk x_a x_b x_k) (N3.mk y_a y_b y_k)).2 (mulF (N3.mk x_a x_b x_k) (N3.mk y_a y_b y_k)).3) then (red (N3.mk (mulF (N3.mk x_a x_b x_k) (N3.mk y_a y_b y_k)).1 (mulF (N3.mk x_a x_b x_k) (N3.mk y_a y_b y_k)).2 (mulF (N3.mk x_a x_b x_k) (N3.mk y_a y_b y_k)).3)).2 else 0), iv (bif chkB (N3.mk (mulF (N3.mk x_a x_b x_k) (N3.mk y_a y_b y_k)).1 (mulF (N3.mk x_a x_b x_k) (N3.mk y_a y_b y_k)).2 (mulF (N3.mk x_a x_b x_k) (N3.mk y_a y_b y_k)).3) then (red (N3.mk (mulF (N3.mk x_a x_b x_k) (N3.mk y_a y_b y_k)).1 (mulF (N3.mk x_a x_b x_k) (N3.mk y_a y_b y_k)).2 (mulF (N3.mk x_a x_b x_k) (N3.mk y_a y_b y_k)).3)).3 else 0)]), bv (chkB (N3.mk (mulF (N3.mk x_a x_b x_k) (N3.mk y_a y_b y_k)).1 (mulF (N3.mk x_a x_b x_k) (N3.mk y_a y_b y_k)).2 (mulF (N3.mk x_a x_b x_k) (N3.mk y_a y_b y_k)).3))])) ) ( none ) ) ( none ) ) from by kernel_rfl).trans ?_
  cases hx : validB (⟨x_a, x_b, x_k⟩ : N3) with
  | false => simp only [hx, cond_true, cond_false, Bool.false_and, Bool.not_false]; rfl
  | true =>
    cases hy : validB (⟨y_a, y_b, y_k⟩ : N3) with
    | false => simp only [hx, hy, cond_true, cond_false, Bool.true_and, Bool.not_true, Bool.not_false]; rfl
    | true =>
      obtain ⟨h1, h2, h3, h4, h5⟩ := vpk hx hy
      simp only [hx, hy, h1, h2, h3, h4, h5, cond_true, cond_false, Bool.true_and, Bool.not_true]
      rfl
theorem m19 : Meets Try.prog GL0 19 s19 := by
  refine meetsN mix0 gl0 G24 Try.func19 (by kernel_rfl) (by kernel_rfl) s19 fun args x h => ?_
  unfold s19 at h
  split at h
  · rename_i x_a x_b x_k y_a y_b y_k
    simp only [Option.some.injEq, Prod.mk.injEq] at h
    obtain ⟨hp, rfl⟩ := h
    exact ⟨_, _, by kernel_rfl, e19 x_a x_b x_k y_a y_b y_k⟩
  · cases h
abbrev Γ25 : List (Nat × Ctr) := (19, s19) :: Γ24
theorem G25 : Sound Try.prog GL0 Γ25 := G24.cons m19

-- spec.MulNum
def s17 : Ctr := fun
  | [.agg [.val (.int .i64 x_a), .val (.int .i64 x_b), .val (.int .i64 x_k)], .agg [.val (.int .i64 y_a), .val (.int .i64 y_b), .val (.int .i64 y_k)]] => some (true, opV (validB (⟨x_a, x_b, x_k⟩ : N3) && validB (⟨y_a, y_b, y_k⟩ : N3)) (mulF (⟨x_a, x_b, x_k⟩ : N3) (⟨y_a, y_b, y_k⟩ : N3)))
  | _ => none

theorem e17 (x_a : Int) (x_b : Int) (x_k : Int) (y_a : Int) (y_b : Int) (y_k : Int) : evN Try.prog GL0 Γ25 (0) [] Try.f17 [.agg [.val (.int .i64 x_a), .val (.int .i64 x_b), .val (.int .i64 x_k)], .agg [.val (.int .i64 y_a), .val (.int .i64 y_b), .val (.int .i64 y_k)]] = some (opV (validB (⟨x_a, x_b, x_k⟩ : N3) && validB (⟨y_a, y_b, y_k⟩ : N3)) (mulF (⟨x_a, x_b, x_k⟩ : N3) (⟨y_a, y_b, y_k⟩ : N3))) := by
  refine (show _ = cond (!validB (N3.mk x_a x_b x_k)) ( some ((.tup [(.agg [iv (0), iv (0), iv (0)]), bv (false)])) ) ( cond (!validB (N3.mk y_a y_b y_k)) ( some ((.tup [(.agg [iv (0), iv (0), iv (0)]), bv (false)])) ) ( cond (pkm (N3.mk x_a x_b x_k) (N3.mk y_a y_b y_k)) ( cond (kB (mulF (N3.mk x_a x_b x_k) (N3.mk y_a y_b y_k)).3) ( some ((.tup [(.agg [iv (bif chkB (N3.mk (mulF (N3.mk x_a x_b x_k) (N3.mk y_a y_b y_k)).1 (mulF (N3.mk x_a x_b x_k) (N3.mk y_a y_b y_k)).2 (mulF (N3.mk x_a x_b x_k) (N3.mk y_a y_b y_k)).3) then (red (N3.mk (mulF (N3.mk x_a x_b x_k) (N3.mk y_a y_b y_k)).1 (mulF (N3.mk x_a x_b x_k) (N3.mk y_a y_b y_k)).2 (mulF (N3.mk x_a x_b x_k) (N3.mk y_a y_b y_k)).3)).1 else 0), iv (bif chkB (N3.mk (mulF (N3.mk x_a x_b x_k) (N3.mk y_a y_b y_k)).1 (mulF (N3.mk x_a x_b x_k) (N3.mk y_a y_b y_k)).2 (mulF (N3.mk x_a x_b x_k) (N3.mk y_a y_b y_k)).3) then (red (N3.mk (mulF (N3.mk x_a x_b x_k) (N3.mk y_a y_b y_k)).1 (mulF (N3.mk x_a x_b x_k) (N3.mk y_a y_b y_k)).2 (mulF (N3.mk x_a x_b x_k) (N3.mk y_a y_b y_k)).3)).2 else 0), iv (bif chkB (N3.mk (mulF (N3.mk x_a x_b x_k) (N3.mk y_a y_b y_k)).1 (mulF (N3.mk x_a x_b x_k) (N3.mk y_a y_b y_k)).2 (mulF (N3.mk x_a x_b x_k) (N3.mk y_a y_b y_k)).3) then (red (N3.mk (mulF (N3.mk x_a x_b x_k) (N3.mk y_a y_b y_k)).1 (mulF (N3.mk x_a x_b x_k) (N3.mk y_a y_b y_k)).2 (mulF (N3.mk x_a x_b x_k) (N3.mk y_a y_b y_k)).3)).3 else 0)]), bv (chkB (N3.mk (mulF (N3.mk x_a x_b x_k) (N3.mk y_a y_b y_k)).1 (mulF (N3.mk x_a x_b x_k) (N3.mk y_a y_b y_k)).2 (mulF (N3.mk x_a x_b x_k) (N3.mk y_a y_b y_k)).3))])) ) ( none ) ) ( none ) ) ) from by kernel_rfl).trans ?_
  cases hx : validB (⟨x_a, x_b, x_k⟩ : N3) with
  | false => simp only [hx, cond_true, cond_false, Bool.false_and, Bool.not_false]; rfl
  | true =>
    cases hy : validB (⟨y_a, y_b, y_k⟩ : N3) with
    | false => simp only [hx, hy, cond_true, cond_false, Bool.true_and, Bool.not_true, Bool.not_false]; rfl
    | true =>
      obtain ⟨h1, h2, h3, h4, h5⟩ := vpk hx hy
      simp only [hx, hy, h1, h2, h3, h4, h5, cond_true, cond_false, Bool.true_and, Bool.not_true]
      rfl
theorem m17 : Meets Try.prog GL0 17 s17 := by
  refine meetsN mix0 gl0 G25 Try.func17 (by kernel_rfl) (by kernel_rfl) s17 fun args x h => ?_
  unfold s17 at h
  split at h
  · rename_i x_a x_b x_k y_a y_b y_k
    simp only [Option.some.injEq, Prod.mk.injEq] at h
    obtain ⟨hp, rfl⟩ := h
    exact ⟨_, _, by kernel_rfl, e17 x_a x_b x_k y_a y_b y_k⟩
  · cases h
abbrev Γ26 : List (Nat × Ctr) := (17, s17) :: Γ25
theorem G26 : Sound Try.prog GL0 Γ26 := G25.cons m17

-- impl.AddNum
def s21 : Ctr := fun
  | [.agg [.val (.int .i64 x_a), .val (.int .i64 x_b), .val (.int .i64 x_k)], .agg [.val (.int .i64 y_a), .val (.int .i64 y_b), .val (.int .i64 y_k)]] => some (true, opV (validB (⟨x_a, x_b, x_k⟩ : N3) && validB (⟨y_a, y_b, y_k⟩ : N3)) (addF (⟨x_a, x_b, x_k⟩ : N3) (⟨y_a, y_b, y_k⟩ : N3)))
  | _ => none

theorem e21 (x_a : Int) (x_b : Int) (x_k : Int) (y_a : Int) (y_b : Int) (y_k : Int) : evN Try.prog GL0 Γ26 (0) [] Try.f21 [.agg [.val (.int .i64 x_a), .val (.int .i64 x_b), .val (.int .i64 x_k)], .agg [.val (.int .i64 y_a), .val (.int .i64 y_b), .val (.int .i64 y_k)]] = some (opV (validB (⟨x_a, x_b, x_k⟩ : N3) && validB (⟨y_a, y_b, y_k⟩ : N3)) (addF (⟨x_a, x_b, x_k⟩ : N3) (⟨y_a, y_b, y_k⟩ : N3))) := by
  refine (show _ = cond (!(validB (N3.mk x_a x_b x_k) && validB (N3.mk y_a y_b y_k))) ( some ((.tup [(.agg [iv (0), iv (0), iv (0)]), bv (false)])) ) ( cond (pk (N3.mk x_a x_b x_k) (N3.mk y_a y_b y_k)) ( cond (kB (addF (N3.mk x_a x_b x_k) (N3.mk y_a y_b y_k)).3) ( some ((.tup [(.agg [iv (bif chkB (N3.mk (addF (N3.mk x_a x_b x_k) (N3.mk y_a y_b y_k)).1 (addF (N3.mk x_a x_b x_k) (N3.mk y_a y_b y_k)).2 (addF (N3.mk x_a x_b x_k) (N3.mk y_a y_b y_k)).3) then (red (N3.mk (addF (N3.mk x_a x_b x_k) (N3.mk y_a y_b y_k)).1 (addF (N3.mk x_a x_b x_k) (N3.mk y_a y_b y_k)).2 (addF (N3.mk x_a x_b x_k) (N3.mk y_a y_b y_k)).3)).1 else 0), iv (bif chkB (N3.mk (addF (N3.mk x_a x_b x_k) (N3.mk y_a y_b y_k)).1 (addF (N3.mk x_a x_b x_k) (N3.mk y_a y_b y_k)).2 (addF (N3.mk x_a x_b x_k) (N3.mk y_a y_b y_k)).3) then (red (N3.mk (addF (N3.mk x_a x_b x_k) (N3.mk y_a y_b y_k)).1 (addF (N3.mk x_a x_b x_k) (N3.mk y_a y_b y_k)).2 (addF (N3.mk x_a x_b x_k) (N3.mk y_a y_b y_k)).3)).2 else 0), iv (bif chkB (N3.mk (addF (N3.mk x_a x_b x_k) (N3.mk y_a y_b y_k)).1 (addF (N3.mk x_a x_b x_k) (N3.mk y_a y_b y_k)).2 (addF (N3.mk x_a x_b x_k) (N3.mk y_a y_b y_k)).3) then (red (N3.mk (addF (N3.mk x_a x_b x_k) (N3.mk y_a y_b y_k)).1 (addF (N3.mk x_a x_b x_k) (N3.mk y_a y_b y_k)).2 (addF (N3.mk x_a x_b x_k) (N3.mk y_a y_b y_k)).3)).3 else 0)]), bv (chkB (N3.mk (addF (N3.mk x_a x_b x_k) (N3.mk y_a y_b y_k)).1 (addF (N3.mk x_a x_b x_k) (N3.mk y_a y_b y_k)).2 (addF (N3.mk x_a x_b x_k) (N3.mk y_a y_b y_k)).3))])) ) ( none ) ) ( none ) ) from by kernel_rfl).trans ?_
  cases hx : validB (⟨x_a, x_b, x_k⟩ : N3) with
  | false => simp only [hx, cond_true, cond_false, Bool.false_and, Bool.not_false]; rfl
  | true =>
    cases hy : validB (⟨y_a, y_b, y_k⟩ : N3) with
    | false => simp only [hx, hy, cond_true, cond_false, Bool.true_and, Bool.not_true, Bool.not_false]; rfl
    | true =>
      obtain ⟨h1, h2, h3, h4, h5⟩ := vpk hx hy
      simp only [hx, hy, h1, h2, h3, h4, h5, cond_true, cond_false, Bool.true_and, Bool.not_true]
      rfl
theorem m21 : Meets Try.prog GL0 21 s21 := by
  refine meetsN mix0 gl0 G26 Try.func21 (by kernel_rfl) (by kernel_rfl) s21 fun args x h => ?_
  unfold s21 at h
  split at h
  · rename_i x_a x_b x_k y_a y_b y_k
    simp only [Option.some.injEq, Prod.mk.injEq] at h
    obtain ⟨hp, rfl⟩ := h
    exact ⟨_, _, by kernel_rfl, e21 x_a x_b x_k y_a y_b y_k⟩
  · cases h
abbrev Γ27 : List (Nat × Ctr) := (21, s21) :: Γ26
theorem G27 : Sound Try.prog GL0 Γ27 := G26.cons m21

-- spec.AddNum
def s20 : Ctr := fun
  | [.agg [.val (.int .i64 x_a), .val (.int .i64 x_b), .val (.int .i64 x_k)], .agg [.val (.int .i64 y_a), .val (.int .i64 y_b), .val (.int .i64 y_k)]] => some (true, opV (validB (⟨x_a, x_b, x_k⟩ : N3) && validB (⟨y_a, y_b, y_k⟩ : N3)) (addF (⟨x_a, x_b, x_k⟩ : N3) (⟨y_a, y_b, y_k⟩ : N3)))
  | _ => none

theorem e20 (x_a : Int) (x_b : Int) (x_k : Int) (y_a : Int) (y_b : Int) (y_k : Int) : evN Try.prog GL0 Γ27 (0) [] Try.f20 [.agg [.val (.int .i64 x_a), .val (.int .i64 x_b), .val (.int .i64 x_k)], .agg [.val (.int .i64 y_a), .val (.int .i64 y_b), .val (.int .i64 y_k)]] = some (opV (validB (⟨x_a, x_b, x_k⟩ : N3) && validB (⟨y_a, y_b, y_k⟩ : N3)) (addF (⟨x_a, x_b, x_k⟩ : N3) (⟨y_a, y_b, y_k⟩ : N3))) := by
  refine (show _ = cond (!validB (N3.mk x_a x_b x_k)) ( some ((.tup [(.agg [iv (0), iv (0), iv (0)]), bv (false)])) ) ( cond (!validB (N3.mk y_a y_b y_k)) ( some ((.tup [(.agg [iv (0), iv (0), iv (0)]), bv (false)])) ) ( cond (pk (N3.mk x_a x_b x_k) (N3.mk y_a y_b y_k)) ( cond (kB (addF (N3.mk x_a x_b x_k) (N3.mk y_a y_b y_k)).3) ( some ((.tup [(.agg [iv (bif chkB (N3.mk (addF (N3.mk x_a x_b x_k) (N3.mk y_a y_b y_k)).1 (addF (N3.mk x_a x_b x_k) (N3.mk y_a y_b y_k)).2 (addF (N3.mk x_a x_b x_k) (N3.mk y_a y_b y_k)).3) then (red (N3.mk (addF (N3.mk x_a x_b x_k) (N3.mk y_a y_b y_k)).1 (addF (N3.mk x_a x_b x_k) (N3.mk y_a y_b y_k)).2 (addF (N3.mk x_a x_b x_k) (N3.mk y_a y_b y_k)).3)).1 else 0), iv (bif chkB (N3.mk (addF (N3.mk x_a x_b x_k) (N3.mk y_a y_b y_k)).1 (addF (N3.mk x_a x_b x_k) (N3.mk y_a y_b y_k)).2 (addF (N3.mk x_a x_b x_k) (N3.mk y_a y_b y_k)).3) then (red (N3.mk (addF (N3.mk x_a x_b x_k) (N3.mk y_a y_b y_k)).1 (addF (N3.mk x_a x_b x_k) (N3.mk y_a y_b y_k)).2 (addF (N3.mk x_a x_b x_k) (N3.mk y_a y_b y_k)).3)).2 else 0), iv (bif chkB (N3.mk (addF (N3.mk x_a x_b x_k) (N3.mk y_a y_b y_k)).1 (addF (N3.mk x_a x_b x_k) (N3.mk y_a y_b y_k)).2 (addF (N3.mk x_a x_b x_k) (N3.mk y_a y_b y_k)).3) then (red (N3.mk (addF (N3.mk x_a x_b x_k) (N3.mk y_a y_b y_k)).1 (addF (N3.mk x_a x_b x_k) (N3.mk y_a y_b y_k)).2 (addF (N3.mk x_a x_b x_k) (N3.mk y_a y_b y_k)).3)).3 else 0)]), bv (chkB (N3.mk (addF (N3.mk x_a x_b x_k) (N3.mk y_a y_b y_k)).1 (addF (N3.mk x_a x_b x_k) (N3.mk y_a y_b y_k)).2 (addF (N3.mk x_a x_b x_k) (N3.mk y_a y_b y_k)).3))])) ) ( none ) ) ( none ) ) ) from by kernel_rfl).trans ?_
  cases hx : validB (⟨x_a, x_b, x_k⟩ : N3) with
  | false => simp only [hx, cond_true, cond_false, Bool.false_and, Bool.not_false]; rfl
  | true =>
    cases hy : validB (⟨y_a, y_b, y_k⟩ : N3) with
    | false => simp only [hx, hy, cond_true, cond_false, Bool.true_and, Bool.not_true, Bool.not_false]; rfl
    | true =>
      obtain ⟨h1, h2, h3, h4, h5⟩ := vpk hx hy
      simp only [hx, hy, h1, h2, h3, h4, h5, cond_true, cond_false, Bool.true_and, Bool.not_true]
      rfl
theorem m20 : Meets Try.prog GL0 20 s20 := by
  refine meetsN mix0 gl0 G27 Try.func20 (by kernel_rfl) (by kernel_rfl) s20 fun args x h => ?_
  unfold s20 at h
  split at h
  · rename_i x_a x_b x_k y_a y_b y_k
    simp only [Option.some.injEq, Prod.mk.injEq] at h
    obtain ⟨hp, rfl⟩ := h
    exact ⟨_, _, by kernel_rfl, e20 x_a x_b x_k y_a y_b y_k⟩
  · cases h
abbrev Γ28 : List (Nat × Ctr) := (20, s20) :: Γ27
theorem G28 : Sound Try.prog GL0 Γ28 := G27.cons m20

-- impl.SubNum
def s23 : Ctr := fun
  | [.agg [.val (.int .i64 x_a), .val (.int .i64 x_b), .val (.int .i64 x_k)], .agg [.val (.int .i64 y_a), .val (.int .i64 y_b), .val (.int .i64 y_k)]] => some (true, opV (validB (⟨x_a, x_b, x_k⟩ : N3) && validB (⟨y_a, y_b, y_k⟩ : N3)) (subF (⟨x_a, x_b, x_k⟩ : N3) (⟨y_a, y_b, y_k⟩ : N3)))
  | _ => none

theorem e23 (x_a : Int) (x_b : Int) (x_k : Int) (y_a : Int) (y_b : Int) (y_k : Int) : evN Try.prog GL0 Γ28 (0) [] Try.f23 [.agg [.val (.int .i64 x_a), .val (.int .i64 x_b), .val (.int .i64 x_k)], .agg [.val (.int .i64 y_a), .val (.int .i64 y_b), .val (.int .i64 y_k)]] = some (opV (validB (⟨x_a, x_b, x_k⟩ : N3) && validB (⟨y_a, y_b, y_k⟩ : N3)) (subF (⟨x_a, x_b, x_k⟩ : N3) (⟨y_a, y_b, y_k⟩ : N3))) := by
  refine (show _ = cond (!(validB (N3.mk x_a x_b x_k) && validB (N3.mk y_a y_b y_k))) ( some ((.tup [(.agg [iv (0), iv (0), iv (0)]), bv (false)])) ) ( cond (pk (N3.mk x_a x_b x_k) (N3.mk y_a y_b y_k)) ( cond (kB (subF (N3.mk x_a x_b x_k) (N3.mk y_a y_b y_k)).3) ( some ((.tup [(.agg [iv (bif chkB (N3.mk (subF (N3.mk x_a x_b x_k) (N3.mk y_a y_b y_k)).1 (subF (N3.mk x_a x_b x_k) (N3.mk y_a y_b y_k)).2 (subF (N3.mk x_a x_b x_k) (N3.mk y_a y_b y_k)).3) then (red (N3.mk (subF (N3.mk x_a x_b x_k) (N3.mk y_a y_b y_k)).1 (subF (N3.mk x_a x_b x_k) (N3.mk y_a y_b y_k)).2 (subF (N3.mk x_a x_b x_k) (N3.mk y_a y_b y_k)).3)).1 else 0), iv (bif chkB (N3.mk (subF (N3.mk x_a x_b x_k) (N3.mk y_a y_b y_k)).1 (subF (N3.mk x_a x_b x_k) (N3.mk y_a y_b y_k)).2 (subF (N3.mk x_a x_b x_k) (N3.mk y_a y_b y_k)).3) then (red (N3.mk (subF (N3.mk x_a x_b x_k) (N3.mk y_a y_b y_k)).1 (subF (N3.mk x_a x_b x_k) (N3.mk y_a y_b y_k)).2 (subF (N3.mk x_a x_b x_k) (N3.mk y_a y_b y_k)).3)).2 else 0), iv (bif chkB (N3.mk (subF (N3.mk x_a x_b x_k) (N3.mk y_a y_b y_k)).1 (subF (N3.mk x_a x_b x_k) (N3.mk y_a y_b y_k)).2 (subF (N3.mk x_a x_b x_k) (N3.mk y_a y_b y_k)).3) then (red (N3.mk (subF (N3.mk x_a x_b x_k) (N3.mk y_a y_b y_k)).1 (subF (N3.mk x_a x_b x_k) (N3.mk y_a y_b y_k)).2 (subF (N3.mk x_a x_b x_k) (N3.mk y_a y_b y_k)).3)).3 else 0)]), bv (chkB (N3.mk (subF (N3.mk x_a x_b x_k) (N3.mk y_a y_b y_k)).1 (subF (N3.mk x_a x_b x_k) (N3.mk y_a y_b y_k)).2 (subF (N3.mk x_a x_b x_k) (N3.mk y_a y_b y_k)).3))])) ) ( none ) ) ( none ) ) from by kernel_rfl).trans ?_
  cases hx : validB (⟨x_a, x_b, x_k⟩ : N3) with
  | false => simp only [hx, cond_true, cond_false, Bool.false_and, Bool.not_false]; rfl
  | true =>
    cases hy : validB (⟨y_a, y_b, y_k⟩ : N3) with
    | false => simp only [hx, hy, cond_true, cond_false, Bool.true_and, Bool.not_true, Bool.not_false]; rfl
    | true =>
      obtain ⟨h1, h2, h3, h4, h5⟩ := vpk hx hy
      simp only [hx, hy, h1, h2, h3, h4, h5, cond_true, cond_false, Bool.true_and, Bool.not_true]
      rfl
theorem m23 : Meets Try.prog GL0 23 s23 := by
  refine meetsN mix0 gl0 G28 Try.func23 (by kernel_rfl) (by kernel_rfl) s23 fun args x h => ?_
  unfold s23 at h
  split at h
  · rename_i x_a x_b x_k y_a y_b y_k
    simp only [Option.some.injEq, Prod.mk.injEq] at h
    obtain ⟨hp, rfl⟩ := h
    exact ⟨_, _, by kernel_rfl, e23 x_a x_b x_k y_a y_b y_k⟩
  · cases h
abbrev Γ29 : List (Nat × Ctr) := (23, s23) :: Γ28
theorem G29 : Sound Try.prog GL0 Γ29 := G28.cons m23

-- spec.SubNum
def s22 : Ctr := fun
  | [.agg [.val (.int .i64 x_a), .val (.int .i64 x_b), .val (.int .i64 x_k)], .agg [.val (.int .i64 y_a), .val (.int .i64 y_b), .val (.int .i64 y_k)]] => some (true, opV (validB (⟨x_a, x_b, x_k⟩ : N3) && validB (⟨y_a, y_b, y_k⟩ : N3)) (subF (⟨x_a, x_b, x_k⟩ : N3) (⟨y_a, y_b, y_k⟩ : N3)))
  | _ => none

theorem e22 (x_a : Int) (x_b : Int) (x_k : Int) (y_a : Int) (y_b : Int) (y_k : Int) : evN Try.prog GL0 Γ29 (0) [] Try.f22 [.agg [.val (.int .i64 x_a), .val (.int .i64 x_b), .val (.int .i64 x_k)], .agg [.val (.int .i64 y_a), .val (.int .i64 y_b), .val (.int .i64 y_k)]] = some (opV (validB (⟨x_a, x_b, x_k⟩ : N3) && validB (⟨y_a, y_b, y_k⟩ : N3)) (subF (⟨x_a, x_b, x_k⟩ : N3) (⟨y_a, y_b, y_k⟩ : N3))) := by
  refine (show _ = cond (!validB (N3.mk x_a x_b x_k)) ( some ((.tup [(.agg [iv (0), iv (0), iv (0)]), bv (false)])) ) ( cond (!validB (N3.mk y_a y_b y_k)) ( some ((.tup [(.agg [iv (0), iv (0), iv (0)]), bv (false)])) ) ( cond (pk (N3.mk x_a x_b x_k) (N3.mk y_a y_b y_k)) ( cond (kB (subF (N3.mk x_a x_b x_k) (N3.mk y_a y_b y_k)).3) ( some ((.tup [(.agg [iv (bif chkB (N3.mk (subF (N3.mk x_a x_b x_k) (N3.mk y_a y_b y_k)).1 (subF (N3.mk x_a x_b x_k) (N3.mk y_a y_b y_k)).2 (subF (N3.mk x_a x_b x_k) (N3.mk y_a y_b y_k)).3) then (red (N3.mk (subF (N3.mk x_a x_b x_k) (N3.mk y_a y_b y_k)).1 (subF (N3.mk x_a x_b x_k) (N3.mk y_a y_b y_k)).2 (subF (N3.mk x_a x_b x_k) (N3.mk y_a y_b y_k)).3)).1 else 0), iv (bif chkB (N3.mk (subF (N3.mk x_a x_b x_k) (N3.mk y_a y_b y_k)).1 (subF (N3.mk x_a x_b x_k) (N3.mk y_a y_b y_k)).2 (subF (N3.mk x_a x_b x_k) (N3.mk y_a y_b y_k)).3) then (red (N3.mk (subF (N3.mk x_a x_b x_k) (N3.mk y_a y_b y_k)).1 (subF (N3.mk x_a x_b x_k) (N3.mk y_a y_b y_k)).2 (subF (N3.mk x_a x_b x_k) (N3.mk y_a y_b y_k)).3)).2 else 0), iv (bif chkB (N3.mk (subF (N3.mk x_a x_b x_k) (N3.mk y_a y_b y_k)).1 (subF (N3.mk x_a x_b x_k) (N3.mk y_a y_b y_k)).2 (subF (N3.mk x_a x_b x_k) (N3.mk y_a y_b y_k)).3) then (red (N3.mk (subF (N3.mk x_a x_b x_k) (N3.mk y_a y_b y_k)).1 (subF (N3.mk x_a x_b x_k) (N3.mk y_a y_b y_k)).2 (subF (N3.mk x_a x_b x_k) (N3.mk y_a y_b y_k)).3)).3 else 0)]), bv (chkB (N3.mk (subF (N3.mk x_a x_b x_k) (N3.mk y_a y_b y_k)).1 (subF (N3.mk x_a x_b x_k) (N3.mk y_a y_b y_k)).2 (subF (N3.mk x_a x_b x_k) (N3.mk y_a y_b y_k)).3))])) ) ( none ) ) ( none ) ) ) from by kernel_rfl).trans ?_
  cases hx : validB (⟨x_a, x_b, x_k⟩ : N3) with
  | false => simp only [hx, cond_true, cond_false, Bool.false_and, Bool.not_false]; rfl
  | true =>
    cases hy : validB (⟨y_a, y_b, y_k⟩ : N3) with
    | false => simp only [hx, hy, cond_true, cond_false, Bool.true_and, Bool.not_true, Bool.not_false]; rfl
    | true =>
      obtain ⟨h1, h2, h3, h4, h5⟩ := vpk hx hy
      simp only [hx, hy, h1, h2, h3, h4, h5, cond_true, cond_false, Bool.true_and, Bool.not_true]
      rfl
theorem m22 : Meets Try.prog GL0 22 s22 := by
  refine meetsN mix0 gl0 G29 Try.func22 (by kernel_rfl) (by kernel_rfl) s22 fun args x h => ?_
  unfold s22 at h
  split at h
  · rename_i x_a x_b x_k y_a y_b y_k
    simp only [Option.some.injEq, Prod.mk.injEq] at h
    obtain ⟨hp, rfl⟩ := h
    exact ⟨_, _, by kernel_rfl, e22 x_a x_b x_k y_a y_b y_k⟩
  · cases h
abbrev Γ30 : List (Nat × Ctr) := (22, s22) :: Γ29
theorem G30 : Sound Try.prog GL0 Γ30 := G29.cons m22

-- laws.FnExactMakeNum
def s3 : Ctr := fun
  | [.val (.int .i64 a), .val (.int .i64 b), .val (.int .i64 k)] => some (true, bv true)
  | _ => none

theorem e3 (a : Int) (b : Int) (k : Int) : evN Try.prog GL0 Γ30 (0) [] Try.f3 [.val (.int .i64 a), .val (.int .i64 b), .val (.int .i64 k)] = some (bv true) := by
  refine (show _ = cond (!eq3 (N3.mk (bif inB k 0 62 then bif chkB (N3.mk a b k) then (red (N3.mk a b k)).1 else 0 else 0) (bif inB k 0 62 then bif chkB (N3.mk a b k) then (red (N3.mk a b k)).2 else 0 else 0) (bif inB k 0 62 then bif chkB (N3.mk a b k) then (red (N3.mk a b k)).3 else 0 else 0)) (N3.mk (bif inB k 0 62 then bif chkB (N3.mk a b k) then (red (N3.mk a b k)).1 else 0 else 0) (bif inB k 0 62 then bif chkB (N3.mk a b k) then (red (N3.mk a b k)).2 else 0 else 0) (bif inB k 0 62 then bif chkB (N3.mk a b k) then (red (N3.mk a b k)).3 else 0 else 0))) ( some (bv (false)) ) ( cond (!(inB k 0 62 && chkB (N3.mk a b k)) == (inB k 0 62 && chkB (N3.mk a b k))) ( some (bv (false)) ) ( some (bv (true)) ) ) from by kernel_rfl).trans ?_
  simp only [eq3_self, bne_self_eq_false, beq_self_eq_true, cond_true, cond_false, Bool.not_true]
theorem m3 : Meets Try.prog GL0 3 s3 := by
  refine meetsN mix0 gl0 G30 Try.func3 (by kernel_rfl) (by kernel_rfl) s3 fun args x h => ?_
  unfold s3 at h
  split at h
  · rename_i a b k
    simp only [Option.some.injEq, Prod.mk.injEq] at h
    obtain ⟨hp, rfl⟩ := h
    exact ⟨_, _, by kernel_rfl, e3 a b k⟩
  · cases h
abbrev Γ31 : List (Nat × Ctr) := (3, s3) :: Γ30
theorem G31 : Sound Try.prog GL0 Γ31 := G30.cons m3

-- laws.FnExactMulNum
def s4 : Ctr := fun
  | [.agg [.val (.int .i64 x_a), .val (.int .i64 x_b), .val (.int .i64 x_k)], .agg [.val (.int .i64 y_a), .val (.int .i64 y_b), .val (.int .i64 y_k)]] => some (true, bv true)
  | _ => none

theorem e4 (x_a : Int) (x_b : Int) (x_k : Int) (y_a : Int) (y_b : Int) (y_k : Int) : evN Try.prog GL0 Γ31 (0) [] Try.f4 [.agg [.val (.int .i64 x_a), .val (.int .i64 x_b), .val (.int .i64 x_k)], .agg [.val (.int .i64 y_a), .val (.int .i64 y_b), .val (.int .i64 y_k)]] = some (bv true) := by
  refine (show _ = cond (!eq3 (N3.mk (bif validB (N3.mk x_a x_b x_k) && validB (N3.mk y_a y_b y_k) then bif chkB (mulF (N3.mk x_a x_b x_k) (N3.mk y_a y_b y_k)) then (red (mulF (N3.mk x_a x_b x_k) (N3.mk y_a y_b y_k))).1 else 0 else 0) (bif validB (N3.mk x_a x_b x_k) && validB (N3.mk y_a y_b y_k) then bif chkB (mulF (N3.mk x_a x_b x_k) (N3.mk y_a y_b y_k)) then (red (mulF (N3.mk x_a x_b x_k) (N3.mk y_a y_b y_k))).2 else 0 else 0) (bif validB (N3.mk x_a x_b x_k) && validB (N3.mk y_a y_b y_k) then bif chkB (mulF (N3.mk x_a x_b x_k) (N3.mk y_a y_b y_k)) then (red (mulF (N3.mk x_a x_b x_k) (N3.mk y_a y_b y_k))).3 else 0 else 0)) (N3.mk (bif validB (N3.mk x_a x_b x_k) && validB (N3.mk y_a y_b y_k) then bif chkB (mulF (N3.mk x_a x_b x_k) (N3.mk y_a y_b y_k)) then (red (mulF (N3.mk x_a x_b x_k) (N3.mk y_a y_b y_k))).1 else 0 else 0) (bif validB (N3.mk x_a x_b x_k) && validB (N3.mk y_a y_b y_k) then bif chkB (mulF (N3.mk x_a x_b x_k) (N3.mk y_a y_b y_k)) then (red (mulF (N3.mk x_a x_b x_k) (N3.mk y_a y_b y_k))).2 else 0 else 0) (bif validB (N3.mk x_a x_b x_k) && validB (N3.mk y_a y_b y_k) then bif chkB (mulF (N3.mk x_a x_b x_k) (N3.mk y_a y_b y_k)) then (red (mulF (N3.mk x_a x_b x_k) (N3.mk y_a y_b y_k))).3 else 0 else 0))) ( some (bv (false)) ) ( cond (!(validB (N3.mk x_a x_b x_k) && validB (N3.mk y_a y_b y_k) && chkB (mulF (N3.mk x_a x_b x_k) (N3.mk y_a y_b y_k))) == (validB (N3.mk x_a x_b x_k) && validB (N3.mk y_a y_b y_k) && chkB (mulF (N3.mk x_a x_b x_k) (N3.mk y_a y_b y_k)))) ( some (bv (false)) ) ( some (bv (true)) ) ) from by kernel_rfl).trans ?_
  simp only [eq3_self, bne_self_eq_false, beq_self_eq_true, cond_true, cond_false, Bool.not_true]
theorem m4 : Meets Try.prog GL0 4 s4 := by
  refine meetsN mix0 gl0 G31 Try.func4 (by kernel_rfl) (by kernel_rfl) s4 fun args x h => ?_
  unfold s4 at h
  split at h
  · rename_i x_a x_b x_k y_a y_b y_k
    simp only [Option.some.injEq, Prod.mk.injEq] at h
    obtain ⟨hp, rfl⟩ := h
    exact ⟨_, _, by kernel_rfl, e4 x_a x_b x_k y_a y_b y_k⟩
  · cases h
abbrev Γ32 : List (Nat × Ctr) := (4, s4) :: Γ31
theorem G32 : Sound Try.prog GL0 Γ32 := G31.cons m4

-- laws.FnExactAddNum
def s5 : Ctr := fun
  | [.agg [.val (.int .i64 x_a), .val (.int .i64 x_b), .val (.int .i64 x_k)], .agg [.val (.int .i64 y_a), .val (.int .i64 y_b), .val (.int .i64 y_k)]] => some (true, bv true)
  | _ => none

theorem e5 (x_a : Int) (x_b : Int) (x_k : Int) (y_a : Int) (y_b : Int) (y_k : Int) : evN Try.prog GL0 Γ32 (0) [] Try.f5 [.agg [.val (.int .i64 x_a), .val (.int .i64 x_b), .val (.int .i64 x_k)], .agg [.val (.int .i64 y_a), .val (.int .i64 y_b), .val (.int .i64 y_k)]] = some (bv true) := by
  refine (show _ = cond (!eq3 (N3.mk (bif validB (N3.mk x_a x_b x_k) && validB (N3.mk y_a y_b y_k) then bif chkB (addF (N3.mk x_a x_b x_k) (N3.mk y_a y_b y_k)) then (red (addF (N3.mk x_a x_b x_k) (N3.mk y_a y_b y_k))).1 else 0 else 0) (bif validB (N3.mk x_a x_b x_k) && validB (N3.mk y_a y_b y_k) then bif chkB (addF (N3.mk x_a x_b x_k) (N3.mk y_a y_b y_k)) then (red (addF (N3.mk x_a x_b x_k) (N3.mk y_a y_b y_k))).2 else 0 else 0) (bif validB (N3.mk x_a x_b x_k) && validB (N3.mk y_a y_b y_k) then bif chkB (addF (N3.mk x_a x_b x_k) (N3.mk y_a y_b y_k)) then (red (addF (N3.mk x_a x_b x_k) (N3.mk y_a y_b y_k))).3 else 0 else 0)) (N3.mk (bif validB (N3.mk x_a x_b x_k) && validB (N3.mk y_a y_b y_k) then bif chkB (addF (N3.mk x_a x_b x_k) (N3.mk y_a y_b y_k)) then (red (addF (N3.mk x_a x_b x_k) (N3.mk y_a y_b y_k))).1 else 0 else 0) (bif validB (N3.mk x_a x_b x_k) && validB (N3.mk y_a y_b y_k) then bif chkB (addF (N3.mk x_a x_b x_k) (N3.mk y_a y_b y_k)) then (red (addF (N3.mk x_a x_b x_k) (N3.mk y_a y_b y_k))).2 else 0 else 0) (bif validB (N3.mk x_a x_b x_k) && validB (N3.mk y_a y_b y_k) then bif chkB (addF (N3.mk x_a x_b x_k) (N3.mk y_a y_b y_k)) then (red (addF (N3.mk x_a x_b x_k) (N3.mk y_a y_b y_k))).3 else 0 else 0))) ( some (bv (false)) ) ( cond (!(validB (N3.mk x_a x_b x_k) && validB (N3.mk y_a y_b y_k) && chkB (addF (N3.mk x_a x_b x_k) (N3.mk y_a y_b y_k))) == (validB (N3.mk x_a x_b x_k) && validB (N3.mk y_a y_b y_k) && chkB (addF (N3.mk x_a x_b x_k) (N3.mk y_a y_b y_k)))) ( some (bv (false)) ) ( some (bv (true)) ) ) from by kernel_rfl).trans ?_
  simp only [eq3_self, bne_self_eq_false, beq_self_eq_true, cond_true, cond_false, Bool.not_true]
theorem m5 : Meets Try.prog GL0 5 s5 := by
  refine meetsN mix0 gl0 G32 Try.func5 (by kernel_rfl) (by kernel_rfl) s5 fun args x h => ?_
  unfold s5 at h
  split at h
  · rename_i x_a x_b x_k y_a y_b y_k
    simp only [Option.some.injEq, Prod.mk.injEq] at h
    obtain ⟨hp, rfl⟩ := h
    exact ⟨_, _, by kernel_rfl, e5 x_a x_b x_k y_a y_b y_k⟩
  · cases h
abbrev Γ33 : List (Nat × Ctr) := (5, s5) :: Γ32
theorem G33 : Sound Try.prog GL0 Γ33 := G32.cons m5

-- laws.FnExactSubNum
def s6 : Ctr := fun
  | [.agg [.val (.int .i64 x_a), .val (.int .i64 x_b), .val (.int .i64 x_k)], .agg [.val (.int .i64 y_a), .val (.int .i64 y_b), .val (.int .i64 y_k)]] => some (true, bv true)
  | _ => none

theorem e6 (x_a : Int) (x_b : Int) (x_k : Int) (y_a : Int) (y_b : Int) (y_k : Int) : evN Try.prog GL0 Γ33 (0) [] Try.f6 [.agg [.val (.int .i64 x_a), .val (.int .i64 x_b), .val (.int .i64 x_k)], .agg [.val (.int .i64 y_a), .val (.int .i64 y_b), .val (.int .i64 y_k)]] = some (bv true) := by
  refine (show _ = cond (!eq3 (N3.mk (bif validB (N3.mk x_a x_b x_k) && validB (N3.mk y_a y_b y_k) then bif chkB (subF (N3.mk x_a x_b x_k) (N3.mk y_a y_b y_k)) then (red (subF (N3.mk x_a x_b x_k) (N3.mk y_a y_b y_k))).1 else 0 else 0) (bif validB (N3.mk x_a x_b x_k) && validB (N3.mk y_a y_b y_k) then bif chkB (subF (N3.mk x_a x_b x_k) (N3.mk y_a y_b y_k)) then (red (subF (N3.mk x_a x_b x_k) (N3.mk y_a y_b y_k))).2 else 0 else 0) (bif validB (N3.mk x_a x_b x_k) && validB (N3.mk y_a y_b y_k) then bif chkB (subF (N3.mk x_a x_b x_k) (N3.mk y_a y_b y_k)) then (red (subF (N3.mk x_a x_b x_k) (N3.mk y_a y_b y_k))).3 else 0 else 0)) (N3.mk (bif validB (N3.mk x_a x_b x_k) && validB (N3.mk y_a y_b y_k) then bif chkB (subF (N3.mk x_a x_b x_k) (N3.mk y_a y_b y_k)) then (red (subF (N3.mk x_a x_b x_k) (N3.mk y_a y_b y_k))).1 else 0 else 0) (bif validB (N3.mk x_a x_b x_k) && validB (N3.mk y_a y_b y_k) then bif chkB (subF (N3.mk x_a x_b x_k) (N3.mk y_a y_b y_k)) then (red (subF (N3.mk x_a x_b x_k) (N3.mk y_a y_b y_k))).2 else 0 else 0) (bif validB (N3.mk x_a x_b x_k) && validB (N3.mk y_a y_b y_k) then bif chkB (subF (N3.mk x_a x_b x_k) (N3.mk y_a y_b y_k)) then (red (subF (N3.mk x_a x_b x_k) (N3.mk y_a y_b y_k))).3 else 0 else 0))) ( some (bv (false)) ) ( cond (!(validB (N3.mk x_a x_b x_k) && validB (N3.mk y_a y_b y_k) && chkB (subF (N3.mk x_a x_b x_k) (N3.mk y_a y_b y_k))) == (validB (N3.mk x_a x_b x_k) && validB (N3.mk y_a y_b y_k) && chkB (subF (N3.mk x_a x_b x_k) (N3.mk y_a y_b y_k)))) ( some (bv (false)) ) ( some (bv (true)) ) ) from by kernel_rfl).trans ?_
  simp only [eq3_self, bne_self_eq_false, beq_self_eq_true, cond_true, cond_false, Bool.not_true]
theorem m6 : Meets Try.prog GL0 6 s6 := by
  refine meetsN mix0 gl0 G33 Try.func6 (by kernel_rfl) (by kernel_rfl) s6 fun args x h => ?_
  unfold s6 at h
  split at h
  · rename_i x_a x_b x_k y_a y_b y_k
    simp only [Option.some.injEq, Prod.mk.injEq] at h
    obtain ⟨hp, rfl⟩ := h
    exact ⟨_, _, by kernel_rfl, e6 x_a x_b x_k y_a y_b y_k⟩
  · cases h
abbrev Γ34 : List (Nat × Ctr) := (6, s6) :: Γ33
theorem G34 : Sound Try.prog GL0 Γ34 := G33.cons m6

end Go.Proofs.Ytgcmdnfchhkckaa
