/- Contracts of the program's functions, by the evaluator. -/
import Derived.Test.YtgcmdnfchhkckaaProg
import Derived.Test.YtgcmdnfchhkckaaNumB
namespace Go.Proofs.Ytgcmdnfchhkckaa
open Go.Ev
set_option linter.unusedVariables false
set_option linter.unusedSimpArgs false
set_option maxRecDepth 100000

theorem mix0 : Try.prog.follows .mixedOrders = true := by kernel_rfl
abbrev Γ0 : List (Nat × Ctr) := []
theorem G0 : Sound Try.prog GL0 Γ0 := Sound.nil

-- impl.within
def s45 : Ctr := fun
  | [.val (.int .i64 x), .val (.int .i64 lo), .val (.int .i64 hi)] => some (true, bv (inB x lo hi))
  | _ => none

theorem e45 (x : Int) (lo : Int) (hi : Int) : evN Try.prog GL0 Γ0 (0) [] Try.f45 [.val (.int .i64 x), .val (.int .i64 lo), .val (.int .i64 hi)] = some (bv (inB x lo hi)) := by
  refine (show _ = cond (decide (x ≥ lo)) ( some (bv (decide (x ≤ hi))) ) ( some (bv (false)) ) from by kernel_rfl).trans ?_
  simp only [inB]
  cases decide (x ≥ lo) <;> rfl
theorem m45 : Meets Try.prog GL0 45 s45 := by
  refine meetsN mix0 gl0 G0 Try.func45 (by kernel_rfl) (by kernel_rfl) s45 fun args x h => ?_
  unfold s45 at h
  split at h
  · rename_i x lo hi
    simp only [Option.some.injEq, Prod.mk.injEq] at h
    obtain ⟨hp, rfl⟩ := h
    exact ⟨_, _, by kernel_rfl, e45 x lo hi⟩
  · cases h
abbrev Γ1 : List (Nat × Ctr) := (45, s45) :: Γ0
theorem G1 : Sound Try.prog GL0 Γ1 := G0.cons m45

-- spec.l00In
def s43 : Ctr := fun
  | [.val (.int .i64 x), .val (.int .i64 lo), .val (.int .i64 hi)] => some (true, bv (inB x lo hi))
  | _ => none

theorem e43 (x : Int) (lo : Int) (hi : Int) : evN Try.prog GL0 Γ1 (0) [] Try.f43 [.val (.int .i64 x), .val (.int .i64 lo), .val (.int .i64 hi)] = some (bv (inB x lo hi)) := by
  refine (show _ = cond (decide (x ≥ lo)) ( some (bv (decide (x ≤ hi))) ) ( some (bv (false)) ) from by kernel_rfl).trans ?_
  simp only [inB]
  cases decide (x ≥ lo) <;> rfl
theorem m43 : Meets Try.prog GL0 43 s43 := by
  refine meetsN mix0 gl0 G1 Try.func43 (by kernel_rfl) (by kernel_rfl) s43 fun args x h => ?_
  unfold s43 at h
  split at h
  · rename_i x lo hi
    simp only [Option.some.injEq, Prod.mk.injEq] at h
    obtain ⟨hp, rfl⟩ := h
    exact ⟨_, _, by kernel_rfl, e43 x lo hi⟩
  · cases h
abbrev Γ2 : List (Nat × Ctr) := (43, s43) :: Γ1
theorem G2 : Sound Try.prog GL0 Γ2 := G1.cons m43

-- (impl.Num).reduced
def s82 : Ctr := fun
  | [.agg [.val (.int .i64 x_a), .val (.int .i64 x_b), .val (.int .i64 x_k)]] => some (kB x_k, (red (⟨x_a, x_b, x_k⟩ : N3)).av)
  | _ => none

theorem r82_step (K n : Nat) (a b k : Int) : runL Try.prog GL0 Γ2 K [false, true, true] Try.f82 0 (n + 1) (stL Try.f82.ntmps [.non, .own 23 [iv (a), iv (b), iv (k)], .own 23 [iv 0, iv 0, iv 0]]) = cond (decide (k > 0)) (cond (and64 a 1 == 0) (cond (and64 b 1 == 0) (cond (wr (a.tdiv 2) == 0) (cond (wr (b.tdiv 2) == 0) (runL Try.prog GL0 Γ2 K [false, true, true] Try.f82 0 n (stL Try.f82.ntmps [.non, .own 23 [iv (wr (a.tdiv 2)), iv (wr (b.tdiv 2)), iv (0)], .own 23 [iv 0, iv 0, iv 0]])) (runL Try.prog GL0 Γ2 K [false, true, true] Try.f82 0 n (stL Try.f82.ntmps [.non, .own 23 [iv (wr (a.tdiv 2)), iv (wr (b.tdiv 2)), iv (wr (k - 1))], .own 23 [iv 0, iv 0, iv 0]]))) (runL Try.prog GL0 Γ2 K [false, true, true] Try.f82 0 n (stL Try.f82.ntmps [.non, .own 23 [iv (wr (a.tdiv 2)), iv (wr (b.tdiv 2)), iv (wr (k - 1))], .own 23 [iv 0, iv 0, iv 0]]))) (some (⟨a, b, k⟩ : N3).av)) (some (⟨a, b, k⟩ : N3).av)) (some (⟨a, b, k⟩ : N3).av) := by kernel_rfl
theorem r82_run (K : Nat) : ∀ (m : Nat) (a b k : Int) (n : Nat), 0 ≤ k → k ≤ 1152921504606846976 → k.toNat ≤ m → m < n → runL Try.prog GL0 Γ2 K [false, true, true] Try.f82 0 n (stL Try.f82.ntmps [.non, .own 23 [iv (a), iv (b), iv (k)], .own 23 [iv 0, iv 0, iv 0]]) = some (redF (m + 1) a b k).av := by
  intro m
  induction m with
  | zero =>
    intro a b k n h0 h1 h2 h3
    obtain ⟨n, rfl⟩ : ∃ n', n = n' + 1 := ⟨n - 1, by omega⟩
    have hk : ¬ k > 0 := by omega
    rw [r82_step, redF_succ, if_neg (fun h => hk h.1)]
    simp only [hk, decide_false, cond_false]
  | succ m ih =>
    intro a b k n h0 h1 h2 h3
    obtain ⟨n, rfl⟩ : ∃ n', n = n' + 1 := ⟨n - 1, by omega⟩
    rw [r82_step, redF_succ]
    rw [and64_one, and64_one]
    have ea : ((a % 2 == 0) = !odd a) := odd_zero a
    have eb : ((b % 2 == 0) = !odd b) := odd_zero b
    rw [ea, eb]
    by_cases hk : k > 0
    · have hw : wr (k - 1) = k - 1 := wr_in (by omega) (by omega)
      cases ha : odd a with
      | true => rw [if_neg (fun h => by cases h.2.1)]; simp [hk]
      | false =>
        cases hb : odd b with
        | true => rw [if_neg (fun h => by cases h.2.2)]; simp [hk]
        | false =>
          rw [if_pos ⟨hk, rfl, rfl⟩]
          simp only [hk, decide_true, cond_true, Bool.not_false]
          rw [hw, ih _ _ _ _ (by omega) (by omega) (by omega) (by omega), ih _ _ _ _ (by omega) (by omega) (by omega) (by omega)]
          by_cases hz1 : wr (a.tdiv 2) = 0
          · by_cases hz2 : wr (b.tdiv 2) = 0
            · simp [hz1, hz2]
            · have e2 : (wr (b.tdiv 2) == 0) = false := by simpa using hz2
              simp [hz1, hz2, e2]
          · have e1 : (wr (a.tdiv 2) == 0) = false := by simpa using hz1
            simp [hz1, e1]
    · rw [if_neg (fun h => hk h.1)]; simp [hk]
theorem e82 (x_a : Int) (x_b : Int) (x_k : Int) (hp : (kB x_k) = true) : evN Try.prog GL0 Γ2 (x_k.toNat + 1) [false, true, true] Try.f82 [.agg [.val (.int .i64 x_a), .val (.int .i64 x_b), .val (.int .i64 x_k)]] = some ((red (⟨x_a, x_b, x_k⟩ : N3)).av) := by
  exact (show _ = _ from by kernel_rfl).trans (r82_run (x_k.toNat + 1) x_k.toNat x_a x_b x_k (x_k.toNat + 1) (kB_iff.1 hp).1 (kB_iff.1 hp).2 (Nat.le_refl _) (Nat.lt_succ_self _))
theorem m82 : Meets Try.prog GL0 82 s82 := by
  refine meetsN mix0 gl0 G2 Try.func82 (by kernel_rfl) (by kernel_rfl) s82 fun args x h => ?_
  unfold s82 at h
  split at h
  · rename_i x_a x_b x_k
    simp only [Option.some.injEq, Prod.mk.injEq] at h
    obtain ⟨hp, rfl⟩ := h
    exact ⟨_, _, by kernel_rfl, e82 x_a x_b x_k hp⟩
  · cases h
abbrev Γ3 : List (Nat × Ctr) := (82, s82) :: Γ2
theorem G3 : Sound Try.prog GL0 Γ3 := G2.cons m82

-- spec.l01Low
def s81 : Ctr := fun
  | [.agg [.val (.int .i64 x_a), .val (.int .i64 x_b), .val (.int .i64 x_k)]] => some (kB x_k, (red (⟨x_a, x_b, x_k⟩ : N3)).av)
  | _ => none

theorem r81_step (K n : Nat) (a b k : Int) : runL Try.prog GL0 Γ3 K [false, true, true] Try.f81 0 (n + 1) (stL Try.f81.ntmps [.non, .own 63 [iv (a), iv (b), iv (k)], .own 63 [iv 0, iv 0, iv 0]]) = cond (decide (k > 0)) (cond (a.tmod 2 == 0) (cond (b.tmod 2 == 0) (runL Try.prog GL0 Γ3 K [false, true, true] Try.f81 0 n (stL Try.f81.ntmps [.non, .own 63 [iv (wr (a.tdiv 2)), iv (wr (b.tdiv 2)), iv (wr (k - 1))], .own 63 [iv 0, iv 0, iv 0]])) (some (⟨a, b, k⟩ : N3).av)) (some (⟨a, b, k⟩ : N3).av)) (some (⟨a, b, k⟩ : N3).av) := by kernel_rfl
theorem r81_run (K : Nat) : ∀ (m : Nat) (a b k : Int) (n : Nat), 0 ≤ k → k ≤ 1152921504606846976 → k.toNat ≤ m → m < n → runL Try.prog GL0 Γ3 K [false, true, true] Try.f81 0 n (stL Try.f81.ntmps [.non, .own 63 [iv (a), iv (b), iv (k)], .own 63 [iv 0, iv 0, iv 0]]) = some (redF (m + 1) a b k).av := by
  intro m
  induction m with
  | zero =>
    intro a b k n h0 h1 h2 h3
    obtain ⟨n, rfl⟩ : ∃ n', n = n' + 1 := ⟨n - 1, by omega⟩
    have hk : ¬ k > 0 := by omega
    rw [r81_step, redF_succ, if_neg (fun h => hk h.1)]
    simp only [hk, decide_false, cond_false]
  | succ m ih =>
    intro a b k n h0 h1 h2 h3
    obtain ⟨n, rfl⟩ : ∃ n', n = n' + 1 := ⟨n - 1, by omega⟩
    rw [r81_step, redF_succ]
    rw [tmod_zero, tmod_zero]
    by_cases hk : k > 0
    · have hw : wr (k - 1) = k - 1 := wr_in (by omega) (by omega)
      cases ha : odd a with
      | true => rw [if_neg (fun h => by cases h.2.1)]; simp [hk]
      | false =>
        cases hb : odd b with
        | true => rw [if_neg (fun h => by cases h.2.2)]; simp [hk]
        | false =>
          rw [if_pos ⟨hk, rfl, rfl⟩]
          simp only [hk, decide_true, cond_true, Bool.not_false]
          rw [hw, ih _ _ _ _ (by omega) (by omega) (by omega) (by omega)]
          by_cases hz : wr (a.tdiv 2) = 0 ∧ wr (b.tdiv 2) = 0
          · rw [if_pos hz, hz.1, hz.2, redF_zero m _ (by omega), redF_zero m _ (by omega)]
            have e : (if k - 1 > 0 then (0 : Int) else k - 1) = 0 := by split <;> omega
            rw [e]
            rfl
          · rw [if_neg hz]
    · rw [if_neg (fun h => hk h.1)]; simp [hk]
theorem e81 (x_a : Int) (x_b : Int) (x_k : Int) (hp : (kB x_k) = true) : evN Try.prog GL0 Γ3 (x_k.toNat + 1) [false, true, true] Try.f81 [.agg [.val (.int .i64 x_a), .val (.int .i64 x_b), .val (.int .i64 x_k)]] = some ((red (⟨x_a, x_b, x_k⟩ : N3)).av) := by
  refine (show _ = cond (x_a == 0) (cond (x_b == 0) (some z3.av) (runL Try.prog GL0 Γ3 (x_k.toNat + 1) [false, true, true] Try.f81 0 (x_k.toNat + 1) (stL Try.f81.ntmps [.non, .own 63 [iv (x_a), iv (x_b), iv (x_k)], .own 63 [iv 0, iv 0, iv 0]]))) (runL Try.prog GL0 Γ3 (x_k.toNat + 1) [false, true, true] Try.f81 0 (x_k.toNat + 1) (stL Try.f81.ntmps [.non, .own 63 [iv (x_a), iv (x_b), iv (x_k)], .own 63 [iv 0, iv 0, iv 0]])) from by kernel_rfl).trans ?_
  rw [r81_run (x_k.toNat + 1) x_k.toNat x_a x_b x_k (x_k.toNat + 1) (kB_iff.1 hp).1 (kB_iff.1 hp).2 (Nat.le_refl _) (Nat.lt_succ_self _)]
  by_cases ha : x_a = 0
  · by_cases hb : x_b = 0
    · subst ha hb
      have := redF_zero x_k.toNat x_k (Nat.le_refl _)
      have hk := (kB_iff.1 hp).1
      have e : (if x_k > 0 then 0 else x_k) = 0 := by split <;> omega
      rw [e] at this
      simp only [red, this]
      rfl
    · have e2 : (x_b == 0) = false := by simpa using hb
      simp only [e2, cond_false, red]
      cases (x_a == 0) <;> rfl
  · have e1 : (x_a == 0) = false := by simpa using ha
    simp only [e1, cond_false, red]
theorem m81 : Meets Try.prog GL0 81 s81 := by
  refine meetsN mix0 gl0 G3 Try.func81 (by kernel_rfl) (by kernel_rfl) s81 fun args x h => ?_
  unfold s81 at h
  split at h
  · rename_i x_a x_b x_k
    simp only [Option.some.injEq, Prod.mk.injEq] at h
    obtain ⟨hp, rfl⟩ := h
    exact ⟨_, _, by kernel_rfl, e81 x_a x_b x_k hp⟩
  · cases h
abbrev Γ4 : List (Nat × Ctr) := (81, s81) :: Γ3
theorem G4 : Sound Try.prog GL0 Γ4 := G3.cons m81

-- (impl.Num).neg
def s84 : Ctr := fun
  | [.agg [.val (.int .i64 x_a), .val (.int .i64 x_b), .val (.int .i64 x_k)]] => some (true, (negF (⟨x_a, x_b, x_k⟩ : N3)).av)
  | _ => none

theorem e84 (x_a : Int) (x_b : Int) (x_k : Int) : evN Try.prog GL0 Γ4 (0) [] Try.f84 [.agg [.val (.int .i64 x_a), .val (.int .i64 x_b), .val (.int .i64 x_k)]] = some ((negF (⟨x_a, x_b, x_k⟩ : N3)).av) := by
  kernel_rfl
theorem m84 : Meets Try.prog GL0 84 s84 := by
  refine meetsN mix0 gl0 G4 Try.func84 (by kernel_rfl) (by kernel_rfl) s84 fun args x h => ?_
  unfold s84 at h
  split at h
  · rename_i x_a x_b x_k
    simp only [Option.some.injEq, Prod.mk.injEq] at h
    obtain ⟨hp, rfl⟩ := h
    exact ⟨_, _, by kernel_rfl, e84 x_a x_b x_k⟩
  · cases h
abbrev Γ5 : List (Nat × Ctr) := (84, s84) :: Γ4
theorem G5 : Sound Try.prog GL0 Γ5 := G4.cons m84

-- spec.l01Neg
def s83 : Ctr := fun
  | [.agg [.val (.int .i64 x_a), .val (.int .i64 x_b), .val (.int .i64 x_k)]] => some (true, (negF (⟨x_a, x_b, x_k⟩ : N3)).av)
  | _ => none

theorem e83 (x_a : Int) (x_b : Int) (x_k : Int) : evN Try.prog GL0 Γ5 (0) [] Try.f83 [.agg [.val (.int .i64 x_a), .val (.int .i64 x_b), .val (.int .i64 x_k)]] = some ((negF (⟨x_a, x_b, x_k⟩ : N3)).av) := by
  kernel_rfl
theorem m83 : Meets Try.prog GL0 83 s83 := by
  refine meetsN mix0 gl0 G5 Try.func83 (by kernel_rfl) (by kernel_rfl) s83 fun args x h => ?_
  unfold s83 at h
  split at h
  · rename_i x_a x_b x_k
    simp only [Option.some.injEq, Prod.mk.injEq] at h
    obtain ⟨hp, rfl⟩ := h
    exact ⟨_, _, by kernel_rfl, e83 x_a x_b x_k⟩
  · cases h
abbrev Γ6 : List (Nat × Ctr) := (83, s83) :: Γ5
theorem G6 : Sound Try.prog GL0 Γ6 := G5.cons m83

-- (impl.Num).times
def s51 : Ctr := fun
  | [.agg [.val (.int .i64 x_a), .val (.int .i64 x_b), .val (.int .i64 x_k)], .agg [.val (.int .i64 y_a), .val (.int .i64 y_b), .val (.int .i64 y_k)]] => some (pkm (⟨x_a, x_b, x_k⟩ : N3) (⟨y_a, y_b, y_k⟩ : N3), (mulF (⟨x_a, x_b, x_k⟩ : N3) (⟨y_a, y_b, y_k⟩ : N3)).av)
  | _ => none

theorem e51 (x_a : Int) (x_b : Int) (x_k : Int) (y_a : Int) (y_b : Int) (y_k : Int) (hp : (pkm (⟨x_a, x_b, x_k⟩ : N3) (⟨y_a, y_b, y_k⟩ : N3)) = true) : evN Try.prog GL0 Γ6 (0) [] Try.f51 [.agg [.val (.int .i64 x_a), .val (.int .i64 x_b), .val (.int .i64 x_k)], .agg [.val (.int .i64 y_a), .val (.int .i64 y_b), .val (.int .i64 y_k)]] = some ((mulF (⟨x_a, x_b, x_k⟩ : N3) (⟨y_a, y_b, y_k⟩ : N3)).av) := by
  refine (show _ = cond (kB (wr (x_k + y_k))) (some (mulF (⟨x_a, x_b, x_k⟩ : N3) (⟨y_a, y_b, y_k⟩ : N3)).av) none from by kernel_rfl).trans ?_
  have := pkm_kB hp
  simp only at this
  rw [this]
  rfl
theorem m51 : Meets Try.prog GL0 51 s51 := by
  refine meetsN mix0 gl0 G6 Try.func51 (by kernel_rfl) (by kernel_rfl) s51 fun args x h => ?_
  unfold s51 at h
  split at h
  · rename_i x_a x_b x_k y_a y_b y_k
    simp only [Option.some.injEq, Prod.mk.injEq] at h
    obtain ⟨hp, rfl⟩ := h
    exact ⟨_, _, by kernel_rfl, e51 x_a x_b x_k y_a y_b y_k hp⟩
  · cases h
abbrev Γ7 : List (Nat × Ctr) := (51, s51) :: Γ6
theorem G7 : Sound Try.prog GL0 Γ7 := G6.cons m51

-- spec.l01Mul
def s48 : Ctr := fun
  | [.agg [.val (.int .i64 x_a), .val (.int .i64 x_b), .val (.int .i64 x_k)], .agg [.val (.int .i64 y_a), .val (.int .i64 y_b), .val (.int .i64 y_k)]] => some (pkm (⟨x_a, x_b, x_k⟩ : N3) (⟨y_a, y_b, y_k⟩ : N3), (mulF (⟨x_a, x_b, x_k⟩ : N3) (⟨y_a, y_b, y_k⟩ : N3)).av)
  | _ => none

theorem e48 (x_a : Int) (x_b : Int) (x_k : Int) (y_a : Int) (y_b : Int) (y_k : Int) (hp : (pkm (⟨x_a, x_b, x_k⟩ : N3) (⟨y_a, y_b, y_k⟩ : N3)) = true) : evN Try.prog GL0 Γ7 (0) [] Try.f48 [.agg [.val (.int .i64 x_a), .val (.int .i64 x_b), .val (.int .i64 x_k)], .agg [.val (.int .i64 y_a), .val (.int .i64 y_b), .val (.int .i64 y_k)]] = some ((mulF (⟨x_a, x_b, x_k⟩ : N3) (⟨y_a, y_b, y_k⟩ : N3)).av) := by
  refine (show _ = cond (kB (wr (x_k + y_k))) (some (mulF (⟨x_a, x_b, x_k⟩ : N3) (⟨y_a, y_b, y_k⟩ : N3)).av) none from by kernel_rfl).trans ?_
  have := pkm_kB hp
  simp only at this
  rw [this]
  rfl
theorem m48 : Meets Try.prog GL0 48 s48 := by
  refine meetsN mix0 gl0 G7 Try.func48 (by kernel_rfl) (by kernel_rfl) s48 fun args x h => ?_
  unfold s48 at h
  split at h
  · rename_i x_a x_b x_k y_a y_b y_k
    simp only [Option.some.injEq, Prod.mk.injEq] at h
    obtain ⟨hp, rfl⟩ := h
    exact ⟨_, _, by kernel_rfl, e48 x_a x_b x_k y_a y_b y_k hp⟩
  · cases h
abbrev Γ8 : List (Nat × Ctr) := (48, s48) :: Γ7
theorem G8 : Sound Try.prog GL0 Γ8 := G7.cons m48

-- (impl.Num).plus
def s53 : Ctr := fun
  | [.agg [.val (.int .i64 x_a), .val (.int .i64 x_b), .val (.int .i64 x_k)], .agg [.val (.int .i64 y_a), .val (.int .i64 y_b), .val (.int .i64 y_k)]] => some (pk (⟨x_a, x_b, x_k⟩ : N3) (⟨y_a, y_b, y_k⟩ : N3), (addF (⟨x_a, x_b, x_k⟩ : N3) (⟨y_a, y_b, y_k⟩ : N3)).av)
  | _ => none

theorem e53 (x_a : Int) (x_b : Int) (x_k : Int) (y_a : Int) (y_b : Int) (y_k : Int) (hp : (pk (⟨x_a, x_b, x_k⟩ : N3) (⟨y_a, y_b, y_k⟩ : N3)) = true) : evN Try.prog GL0 Γ8 (0) [] Try.f53 [.agg [.val (.int .i64 x_a), .val (.int .i64 x_b), .val (.int .i64 x_k)], .agg [.val (.int .i64 y_a), .val (.int .i64 y_b), .val (.int .i64 y_k)]] = some ((addF (⟨x_a, x_b, x_k⟩ : N3) (⟨y_a, y_b, y_k⟩ : N3)).av) := by
  obtain ⟨h1, h2, h3⟩ := pk_sh hp
  refine (show _ = cond (decide (0 ≤ wr (gmax x_k y_k - x_k))) (cond (decide (0 ≤ wr (gmax x_k y_k - y_k))) (cond (decide (0 ≤ wr (gmax x_k y_k - x_k))) (cond (decide (0 ≤ wr (gmax x_k y_k - y_k))) (cond (kB (gmax x_k y_k)) (some (addF (⟨x_a, x_b, x_k⟩ : N3) (⟨y_a, y_b, y_k⟩ : N3)).av) none) none) none) none) none from by kernel_rfl).trans ?_
  simp only at h1 h2 h3
  rw [h1, h2, h3]
  rfl
theorem m53 : Meets Try.prog GL0 53 s53 := by
  refine meetsN mix0 gl0 G8 Try.func53 (by kernel_rfl) (by kernel_rfl) s53 fun args x h => ?_
  unfold s53 at h
  split at h
  · rename_i x_a x_b x_k y_a y_b y_k
    simp only [Option.some.injEq, Prod.mk.injEq] at h
    obtain ⟨hp, rfl⟩ := h
    exact ⟨_, _, by kernel_rfl, e53 x_a x_b x_k y_a y_b y_k hp⟩
  · cases h
abbrev Γ9 : List (Nat × Ctr) := (53, s53) :: Γ8
theorem G9 : Sound Try.prog GL0 Γ9 := G8.cons m53

-- spec.l01Add
def s52 : Ctr := fun
  | [.agg [.val (.int .i64 x_a), .val (.int .i64 x_b), .val (.int .i64 x_k)], .agg [.val (.int .i64 y_a), .val (.int .i64 y_b), .val (.int .i64 y_k)]] => some (pk (⟨x_a, x_b, x_k⟩ : N3) (⟨y_a, y_b, y_k⟩ : N3), (addF (⟨x_a, x_b, x_k⟩ : N3) (⟨y_a, y_b, y_k⟩ : N3)).av)
  | _ => none

theorem r52_step0 (K n : Nat) (a b k c d l : Int) : runL Try.prog GL0 Γ9 K [false, false, true, true, true] Try.f52 0 (n + 1) (stL Try.f52.ntmps [.non, .non, .own 63 [iv (a), iv (b), iv (k)], .own 63 [iv (c), iv (d), iv (l)], .own 63 [iv 0, iv 0, iv 0]]) = cond (decide (k < l)) (runL Try.prog GL0 Γ9 K [false, false, true, true, true] Try.f52 0 n (stL Try.f52.ntmps [.non, .non, .own 63 [iv (wr (a * 2)), iv (wr (b * 2)), iv (wr (k + 1))], .own 63 [iv (c), iv (d), iv (l)], .own 63 [iv 0, iv 0, iv 0]])) (runL Try.prog GL0 Γ9 K [false, false, true, true, true] Try.f52 1 K (stL Try.f52.ntmps [.non, .non, .own 63 [iv (a), iv (b), iv (k)], .own 63 [iv (c), iv (d), iv (l)], .own 63 [iv 0, iv 0, iv 0]])) := by kernel_rfl
theorem r52_step1 (K n : Nat) (a b k c d l : Int) : runL Try.prog GL0 Γ9 K [false, false, true, true, true] Try.f52 1 (n + 1) (stL Try.f52.ntmps [.non, .non, .own 63 [iv (a), iv (b), iv (k)], .own 63 [iv (c), iv (d), iv (l)], .own 63 [iv 0, iv 0, iv 0]]) = cond (decide (l < k)) (runL Try.prog GL0 Γ9 K [false, false, true, true, true] Try.f52 1 n (stL Try.f52.ntmps [.non, .non, .own 63 [iv (a), iv (b), iv (k)], .own 63 [iv (wr (c * 2)), iv (wr (d * 2)), iv (wr (l + 1))], .own 63 [iv 0, iv 0, iv 0]])) (cond (kB k) (some (red ⟨wr (a + c), wr (b + d), k⟩).av) none) := by kernel_rfl
theorem r52_run1 (K : Nat) : ∀ (m : Nat) (a b k c d l : Int) (n : Nat), kB k = true → 0 ≤ l → (k - l).toNat = m → m < n →
    runL Try.prog GL0 Γ9 K [false, false, true, true, true] Try.f52 1 n (stL Try.f52.ntmps [.non, .non, .own 63 [iv (a), iv (b), iv (k)], .own 63 [iv (c), iv (d), iv (l)], .own 63 [iv 0, iv 0, iv 0]]) = some (red ⟨wr (a + dblI m c), wr (b + dblI m d), k⟩).av := by
  intro m
  induction m with
  | zero =>
    intro a b k c d l n hk hl h0 hn
    obtain ⟨n, rfl⟩ : ∃ n', n = n' + 1 := ⟨n - 1, by omega⟩
    have : decide (l < k) = false := by simp; omega
    rw [r52_step1, this, hk]
    rfl
  | succ m ih =>
    intro a b k c d l n hk hl h0 hn
    obtain ⟨n, rfl⟩ : ∃ n', n = n' + 1 := ⟨n - 1, by omega⟩
    have : decide (l < k) = true := by simp; omega
    have hk' := kB_iff.1 hk
    have hw : wr (l + 1) = l + 1 := wr_in (by omega) (by omega)
    rw [r52_step1, this, cond_true, hw, ih _ _ _ _ _ _ _ hk (by omega) (by omega) (by omega)]
    rfl
theorem r52_run0 (K : Nat) : ∀ (m : Nat) (a b k c d l : Int) (n : Nat), 0 ≤ k → kB l = true → (l - k).toNat = m → m < n →
    runL Try.prog GL0 Γ9 K [false, false, true, true, true] Try.f52 0 n (stL Try.f52.ntmps [.non, .non, .own 63 [iv (a), iv (b), iv (k)], .own 63 [iv (c), iv (d), iv (l)], .own 63 [iv 0, iv 0, iv 0]]) = runL Try.prog GL0 Γ9 K [false, false, true, true, true] Try.f52 1 K (stL Try.f52.ntmps [.non, .non, .own 63 [iv (dblI m a), iv (dblI m b), iv (k + (m : Int))], .own 63 [iv (c), iv (d), iv (l)], .own 63 [iv 0, iv 0, iv 0]]) := by
  intro m
  induction m with
  | zero =>
    intro a b k c d l n hk hl h0 hn
    obtain ⟨n, rfl⟩ : ∃ n', n = n' + 1 := ⟨n - 1, by omega⟩
    have : decide (k < l) = false := by simp; omega
    rw [r52_step0, this, cond_false]
    simp only [dblI, Int.ofNat_zero, Int.natCast_zero, Int.add_zero]
  | succ m ih =>
    intro a b k c d l n hk hl h0 hn
    obtain ⟨n, rfl⟩ : ∃ n', n = n' + 1 := ⟨n - 1, by omega⟩
    have : decide (k < l) = true := by simp; omega
    have hl' := kB_iff.1 hl
    have hw : wr (k + 1) = k + 1 := wr_in (by omega) (by omega)
    rw [r52_step0, this, cond_true, hw, ih _ _ _ _ _ _ _ (by omega) hl (by omega) (by omega)]
    have e : k + 1 + (m : Int) = k + ((m + 1 : Nat) : Int) := by omega
    rw [e]
    rfl
theorem e52 (x_a : Int) (x_b : Int) (x_k : Int) (y_a : Int) (y_b : Int) (y_k : Int) (hp : (pk (⟨x_a, x_b, x_k⟩ : N3) (⟨y_a, y_b, y_k⟩ : N3)) = true) : evN Try.prog GL0 Γ9 (x_k.toNat + y_k.toNat + 1) [false, false, true, true, true] Try.f52 [.agg [.val (.int .i64 x_a), .val (.int .i64 x_b), .val (.int .i64 x_k)], .agg [.val (.int .i64 y_a), .val (.int .i64 y_b), .val (.int .i64 y_k)]] = some ((addF (⟨x_a, x_b, x_k⟩ : N3) (⟨y_a, y_b, y_k⟩ : N3)).av) := by
  obtain ⟨h1, h2⟩ := pk_iff.1 hp
  simp only at h1 h2
  refine (show _ = runL Try.prog GL0 Γ9 (x_k.toNat + y_k.toNat + 1) [false, false, true, true, true] Try.f52 0 (x_k.toNat + y_k.toNat + 1) (stL Try.f52.ntmps [.non, .non, .own 63 [iv (x_a), iv (x_b), iv (x_k)], .own 63 [iv (y_a), iv (y_b), iv (y_k)], .own 63 [iv 0, iv 0, iv 0]]) from by kernel_rfl).trans ?_
  rw [r52_run0 _ (y_k - x_k).toNat _ _ _ _ _ _ _ h1.1 (kB_iff.2 h2) rfl (by omega)]
  rw [r52_run1 _ (x_k - y_k).toNat _ _ _ _ _ _ _ (kB_iff.2 (by omega)) h2.1 (by omega) (by omega)]
  have := addR_dbl hp
  simp only at this
  rw [this]
  rfl
theorem m52 : Meets Try.prog GL0 52 s52 := by
  refine meetsN mix0 gl0 G9 Try.func52 (by kernel_rfl) (by kernel_rfl) s52 fun args x h => ?_
  unfold s52 at h
  split at h
  · rename_i x_a x_b x_k y_a y_b y_k
    simp only [Option.some.injEq, Prod.mk.injEq] at h
    obtain ⟨hp, rfl⟩ := h
    exact ⟨_, _, by kernel_rfl, e52 x_a x_b x_k y_a y_b y_k hp⟩
  · cases h
abbrev Γ10 : List (Nat × Ctr) := (52, s52) :: Γ9
theorem G10 : Sound Try.prog GL0 Γ10 := G9.cons m52

-- (impl.Num).minus
def s55 : Ctr := fun
  | [.agg [.val (.int .i64 x_a), .val (.int .i64 x_b), .val (.int .i64 x_k)], .agg [.val (.int .i64 y_a), .val (.int .i64 y_b), .val (.int .i64 y_k)]] => some (pk (⟨x_a, x_b, x_k⟩ : N3) (⟨y_a, y_b, y_k⟩ : N3), (subF (⟨x_a, x_b, x_k⟩ : N3) (⟨y_a, y_b, y_k⟩ : N3)).av)
  | _ => none

theorem e55 (x_a : Int) (x_b : Int) (x_k : Int) (y_a : Int) (y_b : Int) (y_k : Int) (hp : (pk (⟨x_a, x_b, x_k⟩ : N3) (⟨y_a, y_b, y_k⟩ : N3)) = true) : evN Try.prog GL0 Γ10 (0) [] Try.f55 [.agg [.val (.int .i64 x_a), .val (.int .i64 x_b), .val (.int .i64 x_k)], .agg [.val (.int .i64 y_a), .val (.int .i64 y_b), .val (.int .i64 y_k)]] = some ((subF (⟨x_a, x_b, x_k⟩ : N3) (⟨y_a, y_b, y_k⟩ : N3)).av) := by
  refine (show _ = cond (pk (⟨x_a, x_b, x_k⟩ : N3) (⟨y_a, y_b, y_k⟩ : N3)) (some (subF (⟨x_a, x_b, x_k⟩ : N3) (⟨y_a, y_b, y_k⟩ : N3)).av) none from by kernel_rfl).trans ?_
  rw [hp]
  rfl
theorem m55 : Meets Try.prog GL0 55 s55 := by
  refine meetsN mix0 gl0 G10 Try.func55 (by kernel_rfl) (by kernel_rfl) s55 fun args x h => ?_
  unfold s55 at h
  split at h
  · rename_i x_a x_b x_k y_a y_b y_k
    simp only [Option.some.injEq, Prod.mk.injEq] at h
    obtain ⟨hp, rfl⟩ := h
    exact ⟨_, _, by kernel_rfl, e55 x_a x_b x_k y_a y_b y_k hp⟩
  · cases h
abbrev Γ11 : List (Nat × Ctr) := (55, s55) :: Γ10
theorem G11 : Sound Try.prog GL0 Γ11 := G10.cons m55

-- spec.l01Sub
def s54 : Ctr := fun
  | [.agg [.val (.int .i64 x_a), .val (.int .i64 x_b), .val (.int .i64 x_k)], .agg [.val (.int .i64 y_a), .val (.int .i64 y_b), .val (.int .i64 y_k)]] => some (pk (⟨x_a, x_b, x_k⟩ : N3) (⟨y_a, y_b, y_k⟩ : N3), (subF (⟨x_a, x_b, x_k⟩ : N3) (⟨y_a, y_b, y_k⟩ : N3)).av)
  | _ => none

theorem e54 (x_a : Int) (x_b : Int) (x_k : Int) (y_a : Int) (y_b : Int) (y_k : Int) (hp : (pk (⟨x_a, x_b, x_k⟩ : N3) (⟨y_a, y_b, y_k⟩ : N3)) = true) : evN Try.prog GL0 Γ11 (0) [] Try.f54 [.agg [.val (.int .i64 x_a), .val (.int .i64 x_b), .val (.int .i64 x_k)], .agg [.val (.int .i64 y_a), .val (.int .i64 y_b), .val (.int .i64 y_k)]] = some ((subF (⟨x_a, x_b, x_k⟩ : N3) (⟨y_a, y_b, y_k⟩ : N3)).av) := by
  refine (show _ = cond (pk (⟨x_a, x_b, x_k⟩ : N3) (⟨y_a, y_b, y_k⟩ : N3)) (some (subF (⟨x_a, x_b, x_k⟩ : N3) (⟨y_a, y_b, y_k⟩ : N3)).av) none from by kernel_rfl).trans ?_
  rw [hp]
  rfl
theorem m54 : Meets Try.prog GL0 54 s54 := by
  refine meetsN mix0 gl0 G11 Try.func54 (by kernel_rfl) (by kernel_rfl) s54 fun args x h => ?_
  unfold s54 at h
  split at h
  · rename_i x_a x_b x_k y_a y_b y_k
    simp only [Option.some.injEq, Prod.mk.injEq] at h
    obtain ⟨hp, rfl⟩ := h
    exact ⟨_, _, by kernel_rfl, e54 x_a x_b x_k y_a y_b y_k hp⟩
  · cases h
abbrev Γ12 : List (Nat × Ctr) := (54, s54) :: Γ11
theorem G12 : Sound Try.prog GL0 Γ12 := G11.cons m54

-- (impl.Num).half
def s86 : Ctr := fun
  | [.agg [.val (.int .i64 x_a), .val (.int .i64 x_b), .val (.int .i64 x_k)]] => some (kB (wr (x_k + 1)), (halfF (⟨x_a, x_b, x_k⟩ : N3)).av)
  | _ => none

theorem e86 (x_a : Int) (x_b : Int) (x_k : Int) (hp : (kB (wr (x_k + 1))) = true) : evN Try.prog GL0 Γ12 (0) [] Try.f86 [.agg [.val (.int .i64 x_a), .val (.int .i64 x_b), .val (.int .i64 x_k)]] = some ((halfF (⟨x_a, x_b, x_k⟩ : N3)).av) := by
  refine (show _ = cond (kB (wr (x_k + 1))) (some (halfF (⟨x_a, x_b, x_k⟩ : N3)).av) none from by kernel_rfl).trans ?_
  rw [hp]
  rfl
theorem m86 : Meets Try.prog GL0 86 s86 := by
  refine meetsN mix0 gl0 G12 Try.func86 (by kernel_rfl) (by kernel_rfl) s86 fun args x h => ?_
  unfold s86 at h
  split at h
  · rename_i x_a x_b x_k
    simp only [Option.some.injEq, Prod.mk.injEq] at h
    obtain ⟨hp, rfl⟩ := h
    exact ⟨_, _, by kernel_rfl, e86 x_a x_b x_k hp⟩
  · cases h
abbrev Γ13 : List (Nat × Ctr) := (86, s86) :: Γ12
theorem G13 : Sound Try.prog GL0 Γ13 := G12.cons m86

-- impl.ValidNum
def s71 : Ctr := fun
  | [.agg [.val (.int .i64 x_a), .val (.int .i64 x_b), .val (.int .i64 x_k)]] => some (true, bv (validB (⟨x_a, x_b, x_k⟩ : N3)))
  | _ => none

theorem e71 (x_a : Int) (x_b : Int) (x_k : Int) : evN Try.prog GL0 Γ13 (0) [] Try.f71 [.agg [.val (.int .i64 x_a), .val (.int .i64 x_b), .val (.int .i64 x_k)]] = some (bv (validB (⟨x_a, x_b, x_k⟩ : N3))) := by
  refine (show _ = cond (inB x_a (-131072) 131072) ( cond (inB x_b (-131072) 131072) ( cond (inB x_k 0 10) ( cond (x_k == 0) ( some (bv (true)) ) ( cond (IntKind.i64.wrap ↑(BitVec.ofInt 64 x_a &&& BitVec.ofInt 64 1).toNat == 1) ( some (bv (true)) ) ( some (bv (IntKind.i64.wrap ↑(BitVec.ofInt 64 x_b &&& BitVec.ofInt 64 1).toNat == 1)) ) ) ) ( some (bv (false)) ) ) ( some (bv (false)) ) ) ( some (bv (false)) ) from by kernel_rfl).trans ?_
  simp only [validB]
  cases inB x_a (-131072) 131072 <;> cases inB x_b (-131072) 131072 <;> cases inB x_k 0 10 <;> cases (x_k == 0) <;> simp only [cond_true, cond_false, Bool.true_and, Bool.false_and, Bool.true_or, Bool.false_or, and_eq, tmod_ne, odd] <;> (first | rfl | (cases decide (x_a % 2 = 1) <;> rfl))
theorem m71 : Meets Try.prog GL0 71 s71 := by
  refine meetsN mix0 gl0 G13 Try.func71 (by kernel_rfl) (by kernel_rfl) s71 fun args x h => ?_
  unfold s71 at h
  split at h
  · rename_i x_a x_b x_k
    simp only [Option.some.injEq, Prod.mk.injEq] at h
    obtain ⟨hp, rfl⟩ := h
    exact ⟨_, _, by kernel_rfl, e71 x_a x_b x_k⟩
  · cases h
abbrev Γ14 : List (Nat × Ctr) := (71, s71) :: Γ13
theorem G14 : Sound Try.prog GL0 Γ14 := G13.cons m71

-- spec.l01Ok
def s47 : Ctr := fun
  | [.agg [.val (.int .i64 x_a), .val (.int .i64 x_b), .val (.int .i64 x_k)]] => some (true, bv (validB (⟨x_a, x_b, x_k⟩ : N3)))
  | _ => none

theorem e47 (x_a : Int) (x_b : Int) (x_k : Int) : evN Try.prog GL0 Γ14 (0) [] Try.f47 [.agg [.val (.int .i64 x_a), .val (.int .i64 x_b), .val (.int .i64 x_k)]] = some (bv (validB (⟨x_a, x_b, x_k⟩ : N3))) := by
  refine (show _ = cond (!inB x_a (-131072) 131072) ( some (bv (false)) ) ( cond (!inB x_b (-131072) 131072) ( some (bv (false)) ) ( cond (!inB x_k 0 10) ( some (bv (false)) ) ( cond (x_k == 0) ( some (bv (true)) ) ( cond (x_a.tmod 2 != 0) ( some (bv (true)) ) ( some (bv (x_b.tmod 2 != 0)) ) ) ) ) ) from by kernel_rfl).trans ?_
  simp only [validB]
  cases inB x_a (-131072) 131072 <;> cases inB x_b (-131072) 131072 <;> cases inB x_k 0 10 <;> cases (x_k == 0) <;> simp only [cond_true, cond_false, Bool.true_and, Bool.false_and, Bool.true_or, Bool.false_or, and_eq, tmod_ne, odd] <;> (first | rfl | (cases decide (x_a % 2 = 1) <;> rfl))
theorem m47 : Meets Try.prog GL0 47 s47 := by
  refine meetsN mix0 gl0 G14 Try.func47 (by kernel_rfl) (by kernel_rfl) s47 fun args x h => ?_
  unfold s47 at h
  split at h
  · rename_i x_a x_b x_k
    simp only [Option.some.injEq, Prod.mk.injEq] at h
    obtain ⟨hp, rfl⟩ := h
    exact ⟨_, _, by kernel_rfl, e47 x_a x_b x_k⟩
  · cases h
abbrev Γ15 : List (Nat × Ctr) := (47, s47) :: Γ14
theorem G15 : Sound Try.prog GL0 Γ15 := G14.cons m47

-- spec.ValidNum
def s37 : Ctr := fun
  | [.agg [.val (.int .i64 x_a), .val (.int .i64 x_b), .val (.int .i64 x_k)]] => some (true, bv (validB (⟨x_a, x_b, x_k⟩ : N3)))
  | _ => none

theorem e37 (x_a : Int) (x_b : Int) (x_k : Int) : evN Try.prog GL0 Γ15 (0) [] Try.f37 [.agg [.val (.int .i64 x_a), .val (.int .i64 x_b), .val (.int .i64 x_k)]] = some (bv (validB (⟨x_a, x_b, x_k⟩ : N3))) := by
  kernel_rfl
theorem m37 : Meets Try.prog GL0 37 s37 := by
  refine meetsN mix0 gl0 G15 Try.func37 (by kernel_rfl) (by kernel_rfl) s37 fun args x h => ?_
  unfold s37 at h
  split at h
  · rename_i x_a x_b x_k
    simp only [Option.some.injEq, Prod.mk.injEq] at h
    obtain ⟨hp, rfl⟩ := h
    exact ⟨_, _, by kernel_rfl, e37 x_a x_b x_k⟩
  · cases h
abbrev Γ16 : List (Nat × Ctr) := (37, s37) :: Γ15
theorem G16 : Sound Try.prog GL0 Γ16 := G15.cons m37

-- (impl.Num).checked
def s46 : Ctr := fun
  | [.agg [.val (.int .i64 x_a), .val (.int .i64 x_b), .val (.int .i64 x_k)]] => some (kB x_k, .tup [(chk (⟨x_a, x_b, x_k⟩ : N3)).av, bv (chkB (⟨x_a, x_b, x_k⟩ : N3))])
  | _ => none

theorem e46 (x_a : Int) (x_b : Int) (x_k : Int) (hp : (kB x_k) = true) : evN Try.prog GL0 Γ16 (0) [] Try.f46 [.agg [.val (.int .i64 x_a), .val (.int .i64 x_b), .val (.int .i64 x_k)]] = some (.tup [(chk (⟨x_a, x_b, x_k⟩ : N3)).av, bv (chkB (⟨x_a, x_b, x_k⟩ : N3))]) := by
  refine (show _ = cond (kB x_k) ( cond (!validB (N3.mk (red (N3.mk x_a x_b x_k)).1 (red (N3.mk x_a x_b x_k)).2 (red (N3.mk x_a x_b x_k)).3)) ( some ((.tup [(.agg [iv (0), iv (0), iv (0)]), bv (false)])) ) ( some ((.tup [(.agg [iv ((red (N3.mk x_a x_b x_k)).1), iv ((red (N3.mk x_a x_b x_k)).2), iv ((red (N3.mk x_a x_b x_k)).3)]), bv (true)])) ) ) ( none ) from by kernel_rfl).trans ?_
  rw [hp]
  simp only [chk, chkB, cond_true]
  cases validB (red (⟨x_a, x_b, x_k⟩ : N3)) <;> rfl
theorem m46 : Meets Try.prog GL0 46 s46 := by
  refine meetsN mix0 gl0 G16 Try.func46 (by kernel_rfl) (by kernel_rfl) s46 fun args x h => ?_
  unfold s46 at h
  split at h
  · rename_i x_a x_b x_k
    simp only [Option.some.injEq, Prod.mk.injEq] at h
    obtain ⟨hp, rfl⟩ := h
    exact ⟨_, _, by kernel_rfl, e46 x_a x_b x_k hp⟩
  · cases h
abbrev Γ17 : List (Nat × Ctr) := (46, s46) :: Γ16
theorem G17 : Sound Try.prog GL0 Γ17 := G16.cons m46

-- spec.l01Num
def s44 : Ctr := fun
  | [.agg [.val (.int .i64 x_a), .val (.int .i64 x_b), .val (.int .i64 x_k)]] => some (kB x_k, .tup [(chk (⟨x_a, x_b, x_k⟩ : N3)).av, bv (chkB (⟨x_a, x_b, x_k⟩ : N3))])
  | _ => none

theorem e44 (x_a : Int) (x_b : Int) (x_k : Int) (hp : (kB x_k) = true) : evN Try.prog GL0 Γ17 (0) [] Try.f44 [.agg [.val (.int .i64 x_a), .val (.int .i64 x_b), .val (.int .i64 x_k)]] = some (.tup [(chk (⟨x_a, x_b, x_k⟩ : N3)).av, bv (chkB (⟨x_a, x_b, x_k⟩ : N3))]) := by
  refine (show _ = cond (kB x_k) ( cond (!validB (N3.mk (red (N3.mk x_a x_b x_k)).1 (red (N3.mk x_a x_b x_k)).2 (red (N3.mk x_a x_b x_k)).3)) ( some ((.tup [(.agg [iv (0), iv (0), iv (0)]), bv (false)])) ) ( some ((.tup [(.agg [iv ((red (N3.mk x_a x_b x_k)).1), iv ((red (N3.mk x_a x_b x_k)).2), iv ((red (N3.mk x_a x_b x_k)).3)]), bv (true)])) ) ) ( none ) from by kernel_rfl).trans ?_
  rw [hp]
  simp only [chk, chkB, cond_true]
  cases validB (red (⟨x_a, x_b, x_k⟩ : N3)) <;> rfl
theorem m44 : Meets Try.prog GL0 44 s44 := by
  refine meetsN mix0 gl0 G17 Try.func44 (by kernel_rfl) (by kernel_rfl) s44 fun args x h => ?_
  unfold s44 at h
  split at h
  · rename_i x_a x_b x_k
    simp only [Option.some.injEq, Prod.mk.injEq] at h
    obtain ⟨hp, rfl⟩ := h
    exact ⟨_, _, by kernel_rfl, e44 x_a x_b x_k hp⟩
  · cases h
abbrev Γ18 : List (Nat × Ctr) := (44, s44) :: Γ17
theorem G18 : Sound Try.prog GL0 Γ18 := G17.cons m44

-- impl.areNums
def s50 : Ctr := fun
  | [.agg [.val (.int .i64 x_a), .val (.int .i64 x_b), .val (.int .i64 x_k)], .agg [.val (.int .i64 y_a), .val (.int .i64 y_b), .val (.int .i64 y_k)]] => some (true, bv (validB (⟨x_a, x_b, x_k⟩ : N3) && validB (⟨y_a, y_b, y_k⟩ : N3)))
  | _ => none

theorem e50 (x_a : Int) (x_b : Int) (x_k : Int) (y_a : Int) (y_b : Int) (y_k : Int) : evN Try.prog GL0 Γ18 (0) [] Try.f50 [.agg [.val (.int .i64 x_a), .val (.int .i64 x_b), .val (.int .i64 x_k)], .agg [.val (.int .i64 y_a), .val (.int .i64 y_b), .val (.int .i64 y_k)]] = some (bv (validB (⟨x_a, x_b, x_k⟩ : N3) && validB (⟨y_a, y_b, y_k⟩ : N3))) := by
  refine (show _ = cond (validB (N3.mk x_a x_b x_k)) ( some (bv (validB (N3.mk y_a y_b y_k))) ) ( some (bv (false)) ) from by kernel_rfl).trans ?_
  cases validB (⟨x_a, x_b, x_k⟩ : N3) <;> rfl
theorem m50 : Meets Try.prog GL0 50 s50 := by
  refine meetsN mix0 gl0 G18 Try.func50 (by kernel_rfl) (by kernel_rfl) s50 fun args x h => ?_
  unfold s50 at h
  split at h
  · rename_i x_a x_b x_k y_a y_b y_k
    simp only [Option.some.injEq, Prod.mk.injEq] at h
    obtain ⟨hp, rfl⟩ := h
    exact ⟨_, _, by kernel_rfl, e50 x_a x_b x_k y_a y_b y_k⟩
  · cases h
abbrev Γ19 : List (Nat × Ctr) := (50, s50) :: Γ18
theorem G19 : Sound Try.prog GL0 Γ19 := G18.cons m50

-- spec.l01Of
def s49 : Ctr := fun
  | [.agg [.val (.int .i64 x_a), .val (.int .i64 x_b), .val (.int .i64 x_k)]] => some (true, (⟨x_a, x_b, x_k⟩ : N3).av)
  | _ => none

theorem e49 (x_a : Int) (x_b : Int) (x_k : Int) : evN Try.prog GL0 Γ19 (0) [] Try.f49 [.agg [.val (.int .i64 x_a), .val (.int .i64 x_b), .val (.int .i64 x_k)]] = some ((⟨x_a, x_b, x_k⟩ : N3).av) := by
  kernel_rfl
theorem m49 : Meets Try.prog GL0 49 s49 := by
  refine meetsN mix0 gl0 G19 Try.func49 (by kernel_rfl) (by kernel_rfl) s49 fun args x h => ?_
  unfold s49 at h
  split at h
  · rename_i x_a x_b x_k
    simp only [Option.some.injEq, Prod.mk.injEq] at h
    obtain ⟨hp, rfl⟩ := h
    exact ⟨_, _, by kernel_rfl, e49 x_a x_b x_k⟩
  · cases h
abbrev Γ20 : List (Nat × Ctr) := (49, s49) :: Γ19
theorem G20 : Sound Try.prog GL0 Γ20 := G19.cons m49

-- laws.toNum
def s18 : Ctr := fun
  | [.agg [.val (.int .i64 x_a), .val (.int .i64 x_b), .val (.int .i64 x_k)]] => some (true, (⟨x_a, x_b, x_k⟩ : N3).av)
  | _ => none

theorem e18 (x_a : Int) (x_b : Int) (x_k : Int) : evN Try.prog GL0 Γ20 (0) [] Try.f18 [.agg [.val (.int .i64 x_a), .val (.int .i64 x_b), .val (.int .i64 x_k)]] = some ((⟨x_a, x_b, x_k⟩ : N3).av) := by
  kernel_rfl
theorem m18 : Meets Try.prog GL0 18 s18 := by
  refine meetsN mix0 gl0 G20 Try.func18 (by kernel_rfl) (by kernel_rfl) s18 fun args x h => ?_
  unfold s18 at h
  split at h
  · rename_i x_a x_b x_k
    simp only [Option.some.injEq, Prod.mk.injEq] at h
    obtain ⟨hp, rfl⟩ := h
    exact ⟨_, _, by kernel_rfl, e18 x_a x_b x_k⟩
  · cases h
abbrev Γ21 : List (Nat × Ctr) := (18, s18) :: Γ20
theorem G21 : Sound Try.prog GL0 Γ21 := G20.cons m18

-- laws.eqNum
def s16 : Ctr := fun
  | [.agg [.val (.int .i64 x_a), .val (.int .i64 x_b), .val (.int .i64 x_k)], .agg [.val (.int .i64 y_a), .val (.int .i64 y_b), .val (.int .i64 y_k)]] => some (true, bv (eq3 (⟨x_a, x_b, x_k⟩ : N3) (⟨y_a, y_b, y_k⟩ : N3)))
  | _ => none

theorem e16 (x_a : Int) (x_b : Int) (x_k : Int) (y_a : Int) (y_b : Int) (y_k : Int) : evN Try.prog GL0 Γ21 (0) [] Try.f16 [.agg [.val (.int .i64 x_a), .val (.int .i64 x_b), .val (.int .i64 x_k)], .agg [.val (.int .i64 y_a), .val (.int .i64 y_b), .val (.int .i64 y_k)]] = some (bv (eq3 (⟨x_a, x_b, x_k⟩ : N3) (⟨y_a, y_b, y_k⟩ : N3))) := by
  refine (show _ = cond (x_a != y_a) ( some (bv (false)) ) ( cond (x_b != y_b) ( some (bv (false)) ) ( cond (x_k != y_k) ( some (bv (false)) ) ( some (bv (true)) ) ) ) from by kernel_rfl).trans ?_
  simp only [eq3]
  cases (x_a != y_a) <;> cases (x_b != y_b) <;> cases (x_k != y_k) <;> rfl
theorem m16 : Meets Try.prog GL0 16 s16 := by
  refine meetsN mix0 gl0 G21 Try.func16 (by kernel_rfl) (by kernel_rfl) s16 fun args x h => ?_
  unfold s16 at h
  split at h
  · rename_i x_a x_b x_k y_a y_b y_k
    simp only [Option.some.injEq, Prod.mk.injEq] at h
    obtain ⟨hp, rfl⟩ := h
    exact ⟨_, _, by kernel_rfl, e16 x_a x_b x_k y_a y_b y_k⟩
  · cases h
abbrev Γ22 : List (Nat × Ctr) := (16, s16) :: Γ21
theorem G22 : Sound Try.prog GL0 Γ22 := G21.cons m16

-- impl.MakeNum
def s15 : Ctr := fun
  | [.val (.int .i64 a), .val (.int .i64 b), .val (.int .i64 k)] => some (true, opV (inB k 0 62) (⟨a, b, k⟩ : N3))
  | _ => none

theorem e15 (a : Int) (b : Int) (k : Int) : evN Try.prog GL0 Γ22 (0) [] Try.f15 [.val (.int .i64 a), .val (.int .i64 b), .val (.int .i64 k)] = some (opV (inB k 0 62) (⟨a, b, k⟩ : N3)) := by
  refine (show _ = cond (!inB k 0 62) ( some ((.tup [(.agg [iv (0), iv (0), iv (0)]), bv (false)])) ) ( cond (kB k) ( some ((.tup [(.agg [iv (bif chkB (N3.mk a b k) then (red (N3.mk a b k)).1 else 0), iv (bif chkB (N3.mk a b k) then (red (N3.mk a b k)).2 else 0), iv (bif chkB (N3.mk a b k) then (red (N3.mk a b k)).3 else 0)]), bv (chkB (N3.mk a b k))])) ) ( none ) ) from by kernel_rfl).trans ?_
  cases h : inB k 0 62 with
  | true => simp only [h, kB_in h, opV, cond_true, cond_false, Bool.not_true, Bool.true_and]; first | rfl | (cases chkB (⟨a, b, k⟩ : N3) <;> rfl)
  | false => simp only [h, cond_true, cond_false, Bool.not_false]; rfl
theorem m15 : Meets Try.prog GL0 15 s15 := by
  refine meetsN mix0 gl0 G22 Try.func15 (by kernel_rfl) (by kernel_rfl) s15 fun args x h => ?_
  unfold s15 at h
  split at h
  · rename_i a b k
    simp only [Option.some.injEq, Prod.mk.injEq] at h
    obtain ⟨hp, rfl⟩ := h
    exact ⟨_, _, by kernel_rfl, e15 a b k⟩
  · cases h
abbrev Γ23 : List (Nat × Ctr) := (15, s15) :: Γ22
theorem G23 : Sound Try.prog GL0 Γ23 := G22.cons m15

-- spec.MakeNum
def s14 : Ctr := fun
  | [.val (.int .i64 a), .val (.int .i64 b), .val (.int .i64 k)] => some (true, opV (inB k 0 62) (⟨a, b, k⟩ : N3))
  | _ => none

theorem e14 (a : Int) (b : Int) (k : Int) : evN Try.prog GL0 Γ23 (0) [] Try.f14 [.val (.int .i64 a), .val (.int .i64 b), .val (.int .i64 k)] = some (opV (inB k 0 62) (⟨a, b, k⟩ : N3)) := by
  refine (show _ = cond (!inB k 0 62) ( some ((.tup [(.agg [iv (0), iv (0), iv (0)]), bv (false)])) ) ( cond (kB k) ( some ((.tup [(.agg [iv (bif chkB (N3.mk a b k) then (red (N3.mk a b k)).1 else 0), iv (bif chkB (N3.mk a b k) then (red (N3.mk a b k)).2 else 0), iv (bif chkB (N3.mk a b k) then (red (N3.mk a b k)).3 else 0)]), bv (chkB (N3.mk a b k))])) ) ( none ) ) from by kernel_rfl).trans ?_
  cases h : inB k 0 62 with
  | true => simp only [h, kB_in h, opV, cond_true, cond_false, Bool.not_true, Bool.true_and]; first | rfl | (cases chkB (⟨a, b, k⟩ : N3) <;> rfl)
  | false => simp only [h, cond_true, cond_false, Bool.not_false]; rfl
theorem m14 : Meets Try.prog GL0 14 s14 := by
  refine meetsN mix0 gl0 G23 Try.func14 (by kernel_rfl) (by kernel_rfl) s14 fun args x h => ?_
  unfold s14 at h
  split at h
  · rename_i a b k
    simp only [Option.some.injEq, Prod.mk.injEq] at h
    obtain ⟨hp, rfl⟩ := h
    exact ⟨_, _, by kernel_rfl, e14 a b k⟩
  · cases h
abbrev Γ24 : List (Nat × Ctr) := (14, s14) :: Γ23
theorem G24 : Sound Try.prog GL0 Γ24 := G23.cons m14

-- impl.MulNum
def s19 : Ctr := fun
  | [.agg [.val (.int .i64 x_a), .val (.int .i64 x_b), .val (.int .i64 x_k)], .agg [.val (.int .i64 y_a), .val (.int .i64 y_b), .val (.int .i64 y_k)]] => some (true, opV (validB (⟨x_a, x_b, x_k⟩ : N3) && validB (⟨y_a, y_b, y_k⟩ : N3)) (mulF (⟨x_a, x_b, x_k⟩ : N3) (⟨y_a, y_b, y_k⟩ : N3)))
  | _ => none

theorem e19 (x_a : Int) (x_b : Int) (x_k : Int) (y_a : Int) (y_b : Int) (y_k : Int) : evN Try.prog GL0 Γ24 (0) [] Try.f19 [.agg [.val (.int .i64 x_a), .val (.int .i64 x_b), .val (.int .i64 x_k)], .agg [.val (.int .i64 y_a), .val (.int .i64 y_b), .val (.int .i64 y_k)]] = some (opV (validB (⟨x_a, x_b, x_k⟩ : N3) && validB (⟨y_a, y_b, y_k⟩ : N3)) (mulF (⟨x_a, x_b, x_k⟩ : N3) (⟨y_a, y_b, y_k⟩ : N3))) := by
  refine (show _ = cond (!(validB (N3.mk x_a x_b x_k) && validB (N3.mk y_a y_b y_k))) ( some ((.tup [(.agg [iv (0), iv (0), iv (0)]), bv (false)])) ) ( cond (pkm (N3.mk x_a x_b x_k) (N3.mk y_a y_b y_k)) ( cond (kB (mulF (N3.mk x_a x_b x_k) (N3.mk y_a y_b y_k)).3) ( some ((.tup [(.agg [iv (bif chkB (N3.mk (mulF (N3.mk x_a x_b x_k) (N3.mk y_a y_b y_k)).1 (mulF (N3.mk x_a x_b x_k) (N3.mk y_a y_b y_k)).2 (mulF (N3.mk x_a x_b x_k) (N3.mk y_a y_b y_k)).3) then (red (N3.mk (mulF (N3.mk x_a x_b x_k) (N3.mk y_a y_b y_k)).1 (mulF (N3.mk x_a x_b x_k) (N3.mk y_a y_b y_k)).2 (mulF (N3.mk x_a x_b x_k) (N3.mk y_a y_b y_k)).3)).1 else 0), iv (bif chkB (N3.mk (mulF (N3.mk x_a x_b x_k) (N3.mk y_a y_b y_k)).1 (mulF (N3.mk x_a x_b x_k) (N3.mk y_a y_b y_k)).2 (mulF (N3.mk x_a x_b x_k) (N3.mk y_a y_b y_k)).3) then (red (N3.mk (mulF (N3.mk x_a x_b x_k) (N3.mk y_a y_b y_k)).1 (mulF (N3.mk x_a x_b x_k) (N3.mk y_a y_b y_k)).2 (mulF (N3.mk x_a x_b x_k) (N3.mk y_a y_b y_k)).3)).2 else 0), iv (bif chkB (N3.mk (mulF (N3.mk x_a x_b x_k) (N3.mk y_a y_b y_k)).1 (mulF (N3.mk x_a x_b x_k) (N3.mk y_a y_b y_k)).2 (mulF (N3.mk x_a x_b x_k) (N3.mk y_a y_b y_k)).3) then (red (N3.mk (mulF (N3.mk x_a x_b x_k) (N3.mk y_a y_b y_k)).1 (mulF (N3.mk x_a x_b x_k) (N3.mk y_a y_b y_k)).2 (mulF (N3.mk x_a x_b x_k) (N3.mk y_a y_b y_k)).3)).3 else 0)]), bv (chkB (N3.mk (mulF (N3.mk x_a x_b x_k) (N3.mk y_a y_b y_k)).1 (mulF (N3.mk x_a x_b x_k) (N3.mk y_a y_b y_k)).2 (mulF (N3.mk x_a x_b x_k) (N3.mk y_a y_b y_k)).3))])) ) ( none ) ) ( none ) ) from by kernel_rfl).trans ?_
  cases hx : validB (⟨x_a, x_b, x_k⟩ : N3) with
  | false => simp only [hx, cond_true, cond_false, Bool.false_and, Bool.not_false]; rfl
  | true =>
    cases hy : validB (⟨y_a, y_b, y_k⟩ : N3) with
    | false => simp only [hx, hy, cond_true, cond_false, Bool.true_and, Bool.not_true, Bool.not_false]; rfl
    | true =>
      obtain ⟨h1, h2, h3, h4, h5⟩ := vpk hx hy
      simp only [hx, hy, h1, h2, h3, h4, h5, cond_true, cond_false, Bool.true_and, Bool.not_true]
      rfl
theorem m19 : Meets Try.prog GL0 19 s19 := by
  refine meetsN mix0 gl0 G24 Try.func19 (by kernel_rfl) (by kernel_rfl) s19 fun args x h => ?_
  unfold s19 at h
  split at h
  · rename_i x_a x_b x_k y_a y_b y_k
    simp only [Option.some.injEq, Prod.mk.injEq] at h
    obtain ⟨hp, rfl⟩ := h
    exact ⟨_, _, by kernel_rfl, e19 x_a x_b x_k y_a y_b y_k⟩
  · cases h
abbrev Γ25 : List (Nat × Ctr) := (19, s19) :: Γ24
theorem G25 : Sound Try.prog GL0 Γ25 := G24.cons m19

-- spec.MulNum
def s17 : Ctr := fun
  | [.agg [.val (.int .i64 x_a), .val (.int .i64 x_b), .val (.int .i64 x_k)], .agg [.val (.int .i64 y_a), .val (.int .i64 y_b), .val (.int .i64 y_k)]] => some (true, opV (validB (⟨x_a, x_b, x_k⟩ : N3) && validB (⟨y_a, y_b, y_k⟩ : N3)) (mulF (⟨x_a, x_b, x_k⟩ : N3) (⟨y_a, y_b, y_k⟩ : N3)))
  | _ => none

theorem e17 (x_a : Int) (x_b : Int) (x_k : Int) (y_a : Int) (y_b : Int) (y_k : Int) : evN Try.prog GL0 Γ25 (0) [] Try.f17 [.agg [.val (.int .i64 x_a), .val (.int .i64 x_b), .val (.int .i64 x_k)], .agg [.val (.int .i64 y_a), .val (.int .i64 y_b), .val (.int .i64 y_k)]] = some (opV (validB (⟨x_a, x_b, x_k⟩ : N3) && validB (⟨y_a, y_b, y_k⟩ : N3)) (mulF (⟨x_a, x_b, x_k⟩ : N3) (⟨y_a, y_b, y_k⟩ : N3))) := by
  refine (show _ = cond (!validB (N3.mk x_a x_b x_k)) ( some ((.tup [(.agg [iv (0), iv (0), iv (0)]), bv (false)])) ) ( cond (!validB (N3.mk y_a y_b y_k)) ( some ((.tup [(.agg [iv (0), iv (0), iv (0)]), bv (false)])) ) ( cond (pkm (N3.mk x_a x_b x_k) (N3.mk y_a y_b y_k)) ( cond (kB (mulF (N3.mk x_a x_b x_k) (N3.mk y_a y_b y_k)).3) ( some ((.tup [(.agg [iv (bif chkB (N3.mk (mulF (N3.mk x_a x_b x_k) (N3.mk y_a y_b y_k)).1 (mulF (N3.mk x_a x_b x_k) (N3.mk y_a y_b y_k)).2 (mulF (N3.mk x_a x_b x_k) (N3.mk y_a y_b y_k)).3) then (red (N3.mk (mulF (N3.mk x_a x_b x_k) (N3.mk y_a y_b y_k)).1 (mulF (N3.mk x_a x_b x_k) (N3.mk y_a y_b y_k)).2 (mulF (N3.mk x_a x_b x_k) (N3.mk y_a y_b y_k)).3)).1 else 0), iv (bif chkB (N3.mk (mulF (N3.mk x_a x_b x_k) (N3.mk y_a y_b y_k)).1 (mulF (N3.mk x_a x_b x_k) (N3.mk y_a y_b y_k)).2 (mulF (N3.mk x_a x_b x_k) (N3.mk y_a y_b y_k)).3) then (red (N3.mk (mulF (N3.mk x_a x_b x_k) (N3.mk y_a y_b y_k)).1 (mulF (N3.mk x_a x_b x_k) (N3.mk y_a y_b y_k)).2 (mulF (N3.mk x_a x_b x_k) (N3.mk y_a y_b y_k)).3)).2 else 0), iv (bif chkB (N3.mk (mulF (N3.mk x_a x_b x_k) (N3.mk y_a y_b y_k)).1 (mulF (N3.mk x_a x_b x_k) (N3.mk y_a y_b y_k)).2 (mulF (N3.mk x_a x_b x_k) (N3.mk y_a y_b y_k)).3) then (red (N3.mk (mulF (N3.mk x_a x_b x_k) (N3.mk y_a y_b y_k)).1 (mulF (N3.mk x_a x_b x_k) (N3.mk y_a y_b y_k)).2 (mulF (N3.mk x_a x_b x_k) (N3.mk y_a y_b y_k)).3)).3 else 0)]), bv (chkB (N3.mk (mulF (N3.mk x_a x_b x_k) (N3.mk y_a y_b y_k)).1 (mulF (N3.mk x_a x_b x_k) (N3.mk y_a y_b y_k)).2 (mulF (N3.mk x_a x_b x_k) (N3.mk y_a y_b y_k)).3))])) ) ( none ) ) ( none ) ) ) from by kernel_rfl).trans ?_
  cases hx : validB (⟨x_a, x_b, x_k⟩ : N3) with
  | false => simp only [hx, cond_true, cond_false, Bool.false_and, Bool.not_false]; rfl
  | true =>
    cases hy : validB (⟨y_a, y_b, y_k⟩ : N3) with
    | false => simp only [hx, hy, cond_true, cond_false, Bool.true_and, Bool.not_true, Bool.not_false]; rfl
    | true =>
      obtain ⟨h1, h2, h3, h4, h5⟩ := vpk hx hy
      simp only [hx, hy, h1, h2, h3, h4, h5, cond_true, cond_false, Bool.true_and, Bool.not_true]
      rfl
theorem m17 : Meets Try.prog GL0 17 s17 := by
  refine meetsN mix0 gl0 G25 Try.func17 (by kernel_rfl) (by kernel_rfl) s17 fun args x h => ?_
  unfold s17 at h
  split at h
  · rename_i x_a x_b x_k y_a y_b y_k
    simp only [Option.some.injEq, Prod.mk.injEq] at h
    obtain ⟨hp, rfl⟩ := h
    exact ⟨_, _, by kernel_rfl, e17 x_a x_b x_k y_a y_b y_k⟩
  · cases h
abbrev Γ26 : List (Nat × Ctr) := (17, s17) :: Γ25
theorem G26 : Sound Try.prog GL0 Γ26 := G25.cons m17

-- impl.AddNum
def s21 : Ctr := fun
  | [.agg [.val (.int .i64 x_a), .val (.int .i64 x_b), .val (.int .i64 x_k)], .agg [.val (.int .i64 y_a), .val (.int .i64 y_b), .val (.int .i64 y_k)]] => some (true, opV (validB (⟨x_a, x_b, x_k⟩ : N3) && validB (⟨y_a, y_b, y_k⟩ : N3)) (addF (⟨x_a, x_b, x_k⟩ : N3) (⟨y_a, y_b, y_k⟩ : N3)))
  | _ => none

theorem e21 (x_a : Int) (x_b : Int) (x_k : Int) (y_a : Int) (y_b : Int) (y_k : Int) : evN Try.prog GL0 Γ26 (0) [] Try.f21 [.agg [.val (.int .i64 x_a), .val (.int .i64 x_b), .val (.int .i64 x_k)], .agg [.val (.int .i64 y_a), .val (.int .i64 y_b), .val (.int .i64 y_k)]] = some (opV (validB (⟨x_a, x_b, x_k⟩ : N3) && validB (⟨y_a, y_b, y_k⟩ : N3)) (addF (⟨x_a, x_b, x_k⟩ : N3) (⟨y_a, y_b, y_k⟩ : N3))) := by
  refine (show _ = cond (!(validB (N3.mk x_a x_b x_k) && validB (N3.mk y_a y_b y_k))) ( some ((.tup [(.agg [iv (0), iv (0), iv (0)]), bv (false)])) ) ( cond (pk (N3.mk x_a x_b x_k) (N3.mk y_a y_b y_k)) ( cond (kB (addF (N3.mk x_a x_b x_k) (N3.mk y_a y_b y_k)).3) ( some ((.tup [(.agg [iv (bif chkB (N3.mk (addF (N3.mk x_a x_b x_k) (N3.mk y_a y_b y_k)).1 (addF (N3.mk x_a x_b x_k) (N3.mk y_a y_b y_k)).2 (addF (N3.mk x_a x_b x_k) (N3.mk y_a y_b y_k)).3) then (red (N3.mk (addF (N3.mk x_a x_b x_k) (N3.mk y_a y_b y_k)).1 (addF (N3.mk x_a x_b x_k) (N3.mk y_a y_b y_k)).2 (addF (N3.mk x_a x_b x_k) (N3.mk y_a y_b y_k)).3)).1 else 0), iv (bif chkB (N3.mk (addF (N3.mk x_a x_b x_k) (N3.mk y_a y_b y_k)).1 (addF (N3.mk x_a x_b x_k) (N3.mk y_a y_b y_k)).2 (addF (N3.mk x_a x_b x_k) (N3.mk y_a y_b y_k)).3) then (red (N3.mk (addF (N3.mk x_a x_b x_k) (N3.mk y_a y_b y_k)).1 (addF (N3.mk x_a x_b x_k) (N3.mk y_a y_b y_k)).2 (addF (N3.mk x_a x_b x_k) (N3.mk y_a y_b y_k)).3)).2 else 0), iv (bif chkB (N3.mk (addF (N3.mk x_a x_b x_k) (N3.mk y_a y_b y_k)).1 (addF (N3.mk x_a x_b x_k) (N3.mk y_a y_b y_k)).2 (addF (N3.mk x_a x_b x_k) (N3.mk y_a y_b y_k)).3) then (red (N3.mk (addF (N3.mk x_a x_b x_k) (N3.mk y_a y_b y_k)).1 (addF (N3.mk x_a x_b x_k) (N3.mk y_a y_b y_k)).2 (addF (N3.mk x_a x_b x_k) (N3.mk y_a y_b y_k)).3)).3 else 0)]), bv (chkB (N3.mk (addF (N3.mk x_a x_b x_k) (N3.mk y_a y_b y_k)).1 (addF (N3.mk x_a x_b x_k) (N3.mk y_a y_b y_k)).2 (addF (N3.mk x_a x_b x_k) (N3.mk y_a y_b y_k)).3))])) ) ( none ) ) ( none ) ) from by kernel_rfl).trans ?_
  cases hx : validB (⟨x_a, x_b, x_k⟩ : N3) with
  | false => simp only [hx, cond_true, cond_false, Bool.false_and, Bool.not_false]; rfl
  | true =>
    cases hy : validB (⟨y_a, y_b, y_k⟩ : N3) with
    | false => simp only [hx, hy, cond_true, cond_false, Bool.true_and, Bool.not_true, Bool.not_false]; rfl
    | true =>
      obtain ⟨h1, h2, h3, h4, h5⟩ := vpk hx hy
      simp only [hx, hy, h1, h2, h3, h4, h5, cond_true, cond_false, Bool.true_and, Bool.not_true]
      rfl
theorem m21 : Meets Try.prog GL0 21 s21 := by
  refine meetsN mix0 gl0 G26 Try.func21 (by kernel_rfl) (by kernel_rfl) s21 fun args x h => ?_
  unfold s21 at h
  split at h
  · rename_i x_a x_b x_k y_a y_b y_k
    simp only [Option.some.injEq, Prod.mk.injEq] at h
    obtain ⟨hp, rfl⟩ := h
    exact ⟨_, _, by kernel_rfl, e21 x_a x_b x_k y_a y_b y_k⟩
  · cases h
abbrev Γ27 : List (Nat × Ctr) := (21, s21) :: Γ26
theorem G27 : Sound Try.prog GL0 Γ27 := G26.cons m21

-- spec.AddNum
def s20 : Ctr := fun
  | [.agg [.val (.int .i64 x_a), .val (.int .i64 x_b), .val (.int .i64 x_k)], .agg [.val (.int .i64 y_a), .val (.int .i64 y_b), .val (.int .i64 y_k)]] => some (true, opV (validB (⟨x_a, x_b, x_k⟩ : N3) && validB (⟨y_a, y_b, y_k⟩ : N3)) (addF (⟨x_a, x_b, x_k⟩ : N3) (⟨y_a, y_b, y_k⟩ : N3)))
  | _ => none

theorem e20 (x_a : Int) (x_b : Int) (x_k : Int) (y_a : Int) (y_b : Int) (y_k : Int) : evN Try.prog GL0 Γ27 (0) [] Try.f20 [.agg [.val (.int .i64 x_a), .val (.int .i64 x_b), .val (.int .i64 x_k)], .agg [.val (.int .i64 y_a), .val (.int .i64 y_b), .val (.int .i64 y_k)]] = some (opV (validB (⟨x_a, x_b, x_k⟩ : N3) && validB (⟨y_a, y_b, y_k⟩ : N3)) (addF (⟨x_a, x_b, x_k⟩ : N3) (⟨y_a, y_b, y_k⟩ : N3))) := by
  refine (show _ = cond (!validB (N3.mk x_a x_b x_k)) ( some ((.tup [(.agg [iv (0), iv (0), iv (0)]), bv (false)])) ) ( cond (!validB (N3.mk y_a y_b y_k)) ( some ((.tup [(.agg [iv (0), iv (0), iv (0)]), bv (false)])) ) ( cond (pk (N3.mk x_a x_b x_k) (N3.mk y_a y_b y_k)) ( cond (kB (addF (N3.mk x_a x_b x_k) (N3.mk y_a y_b y_k)).3) ( some ((.tup [(.agg [iv (bif chkB (N3.mk (addF (N3.mk x_a x_b x_k) (N3.mk y_a y_b y_k)).1 (addF (N3.mk x_a x_b x_k) (N3.mk y_a y_b y_k)).2 (addF (N3.mk x_a x_b x_k) (N3.mk y_a y_b y_k)).3) then (red (N3.mk (addF (N3.mk x_a x_b x_k) (N3.mk y_a y_b y_k)).1 (addF (N3.mk x_a x_b x_k) (N3.mk y_a y_b y_k)).2 (addF (N3.mk x_a x_b x_k) (N3.mk y_a y_b y_k)).3)).1 else 0), iv (bif chkB (N3.mk (addF (N3.mk x_a x_b x_k) (N3.mk y_a y_b y_k)).1 (addF (N3.mk x_a x_b x_k) (N3.mk y_a y_b y_k)).2 (addF (N3.mk x_a x_b x_k) (N3.mk y_a y_b y_k)).3) then (red (N3.mk (addF (N3.mk x_a x_b x_k) (N3.mk y_a y_b y_k)).1 (addF (N3.mk x_a x_b x_k) (N3.mk y_a y_b y_k)).2 (addF (N3.mk x_a x_b x_k) (N3.mk y_a y_b y_k)).3)).2 else 0), iv (bif chkB (N3.mk (addF (N3.mk x_a x_b x_k) (N3.mk y_a y_b y_k)).1 (addF (N3.mk x_a x_b x_k) (N3.mk y_a y_b y_k)).2 (addF (N3.mk x_a x_b x_k) (N3.mk y_a y_b y_k)).3) then (red (N3.mk (addF (N3.mk x_a x_b x_k) (N3.mk y_a y_b y_k)).1 (addF (N3.mk x_a x_b x_k) (N3.mk y_a y_b y_k)).2 (addF (N3.mk x_a x_b x_k) (N3.mk y_a y_b y_k)).3)).3 else 0)]), bv (chkB (N3.mk (addF (N3.mk x_a x_b x_k) (N3.mk y_a y_b y_k)).1 (addF (N3.mk x_a x_b x_k) (N3.mk y_a y_b y_k)).2 (addF (N3.mk x_a x_b x_k) (N3.mk y_a y_b y_k)).3))])) ) ( none ) ) ( none ) ) ) from by kernel_rfl).trans ?_
  cases hx : validB (⟨x_a, x_b, x_k⟩ : N3) with
  | false => simp only [hx, cond_true, cond_false, Bool.false_and, Bool.not_false]; rfl
  | true =>
    cases hy : validB (⟨y_a, y_b, y_k⟩ : N3) with
    | false => simp only [hx, hy, cond_true, cond_false, Bool.true_and, Bool.not_true, Bool.not_false]; rfl
    | true =>
      obtain ⟨h1, h2, h3, h4, h5⟩ := vpk hx hy
      simp only [hx, hy, h1, h2, h3, h4, h5, cond_true, cond_false, Bool.true_and, Bool.not_true]
      rfl
theorem m20 : Meets Try.prog GL0 20 s20 := by
  refine meetsN mix0 gl0 G27 Try.func20 (by kernel_rfl) (by kernel_rfl) s20 fun args x h => ?_
  unfold s20 at h
  split at h
  · rename_i x_a x_b x_k y_a y_b y_k
    simp only [Option.some.injEq, Prod.mk.injEq] at h
    obtain ⟨hp, rfl⟩ := h
    exact ⟨_, _, by kernel_rfl, e20 x_a x_b x_k y_a y_b y_k⟩
  · cases h
abbrev Γ28 : List (Nat × Ctr) := (20, s20) :: Γ27
theorem G28 : Sound Try.prog GL0 Γ28 := G27.cons m20

-- impl.SubNum
def s23 : Ctr := fun
  | [.agg [.val (.int .i64 x_a), .val (.int .i64 x_b), .val (.int .i64 x_k)], .agg [.val (.int .i64 y_a), .val (.int .i64 y_b), .val (.int .i64 y_k)]] => some (true, opV (validB (⟨x_a, x_b, x_k⟩ : N3) && validB (⟨y_a, y_b, y_k⟩ : N3)) (subF (⟨x_a, x_b, x_k⟩ : N3) (⟨y_a, y_b, y_k⟩ : N3)))
  | _ => none

theorem e23 (x_a : Int) (x_b : Int) (x_k : Int) (y_a : Int) (y_b : Int) (y_k : Int) : evN Try.prog GL0 Γ28 (0) [] Try.f23 [.agg [.val (.int .i64 x_a), .val (.int .i64 x_b), .val (.int .i64 x_k)], .agg [.val (.int .i64 y_a), .val (.int .i64 y_b), .val (.int .i64 y_k)]] = some (opV (validB (⟨x_a, x_b, x_k⟩ : N3) && validB (⟨y_a, y_b, y_k⟩ : N3)) (subF (⟨x_a, x_b, x_k⟩ : N3) (⟨y_a, y_b, y_k⟩ : N3))) := by
  refine (show _ = cond (!(validB (N3.mk x_a x_b x_k) && validB (N3.mk y_a y_b y_k))) ( some ((.tup [(.agg [iv (0), iv (0), iv (0)]), bv (false)])) ) ( cond (pk (N3.mk x_a x_b x_k) (N3.mk y_a y_b y_k)) ( cond (kB (subF (N3.mk x_a x_b x_k) (N3.mk y_a y_b y_k)).3) ( some ((.tup [(.agg [iv (bif chkB (N3.mk (subF (N3.mk x_a x_b x_k) (N3.mk y_a y_b y_k)).1 (subF (N3.mk x_a x_b x_k) (N3.mk y_a y_b y_k)).2 (subF (N3.mk x_a x_b x_k) (N3.mk y_a y_b y_k)).3) then (red (N3.mk (subF (N3.mk x_a x_b x_k) (N3.mk y_a y_b y_k)).1 (subF (N3.mk x_a x_b x_k) (N3.mk y_a y_b y_k)).2 (subF (N3.mk x_a x_b x_k) (N3.mk y_a y_b y_k)).3)).1 else 0), iv (bif chkB (N3.mk (subF (N3.mk x_a x_b x_k) (N3.mk y_a y_b y_k)).1 (subF (N3.mk x_a x_b x_k) (N3.mk y_a y_b y_k)).2 (subF (N3.mk x_a x_b x_k) (N3.mk y_a y_b y_k)).3) then (red (N3.mk (subF (N3.mk x_a x_b x_k) (N3.mk y_a y_b y_k)).1 (subF (N3.mk x_a x_b x_k) (N3.mk y_a y_b y_k)).2 (subF (N3.mk x_a x_b x_k) (N3.mk y_a y_b y_k)).3)).2 else 0), iv (bif chkB (N3.mk (subF (N3.mk x_a x_b x_k) (N3.mk y_a y_b y_k)).1 (subF (N3.mk x_a x_b x_k) (N3.mk y_a y_b y_k)).2 (subF (N3.mk x_a x_b x_k) (N3.mk y_a y_b y_k)).3) then (red (N3.mk (subF (N3.mk x_a x_b x_k) (N3.mk y_a y_b y_k)).1 (subF (N3.mk x_a x_b x_k) (N3.mk y_a y_b y_k)).2 (subF (N3.mk x_a x_b x_k) (N3.mk y_a y_b y_k)).3)).3 else 0)]), bv (chkB (N3.mk (subF (N3.mk x_a x_b x_k) (N3.mk y_a y_b y_k)).1 (subF (N3.mk x_a x_b x_k) (N3.mk y_a y_b y_k)).2 (subF (N3.mk x_a x_b x_k) (N3.mk y_a y_b y_k)).3))])) ) ( none ) ) ( none ) ) from by kernel_rfl).trans ?_
  cases hx : validB (⟨x_a, x_b, x_k⟩ : N3) with
  | false => simp only [hx, cond_true, cond_false, Bool.false_and, Bool.not_false]; rfl
  | true =>
    cases hy : validB (⟨y_a, y_b, y_k⟩ : N3) with
    | false => simp only [hx, hy, cond_true, cond_false, Bool.true_and, Bool.not_true, Bool.not_false]; rfl
    | true =>
      obtain ⟨h1, h2, h3, h4, h5⟩ := vpk hx hy
      simp only [hx, hy, h1, h2, h3, h4, h5, cond_true, cond_false, Bool.true_and, Bool.not_true]
      rfl
theorem m23 : Meets Try.prog GL0 23 s23 := by
  refine meetsN mix0 gl0 G28 Try.func23 (by kernel_rfl) (by kernel_rfl) s23 fun args x h => ?_
  unfold s23 at h
  split at h
  · rename_i x_a x_b x_k y_a y_b y_k
    simp only [Option.some.injEq, Prod.mk.injEq] at h
    obtain ⟨hp, rfl⟩ := h
    exact ⟨_, _, by kernel_rfl, e23 x_a x_b x_k y_a y_b y_k⟩
  · cases h
abbrev Γ29 : List (Nat × Ctr) := (23, s23) :: Γ28
theorem G29 : Sound Try.prog GL0 Γ29 := G28.cons m23

-- spec.SubNum
def s22 : Ctr := fun
  | [.agg [.val (.int .i64 x_a), .val (.int .i64 x_b), .val (.int .i64 x_k)], .agg [.val (.int .i64 y_a), .val (.int .i64 y_b), .val (.int .i64 y_k)]] => some (true, opV (validB (⟨x_a, x_b, x_k⟩ : N3) && validB (⟨y_a, y_b, y_k⟩ : N3)) (subF (⟨x_a, x_b, x_k⟩ : N3) (⟨y_a, y_b, y_k⟩ : N3)))
  | _ => none

theorem e22 (x_a : Int) (x_b : Int) (x_k : Int) (y_a : Int) (y_b : Int) (y_k : Int) : evN Try.prog GL0 Γ29 (0) [] Try.f22 [.agg [.val (.int .i64 x_a), .val (.int .i64 x_b), .val (.int .i64 x_k)], .agg [.val (.int .i64 y_a), .val (.int .i64 y_b), .val (.int .i64 y_k)]] = some (opV (validB (⟨x_a, x_b, x_k⟩ : N3) && validB (⟨y_a, y_b, y_k⟩ : N3)) (subF (⟨x_a, x_b, x_k⟩ : N3) (⟨y_a, y_b, y_k⟩ : N3))) := by
  refine (show _ = cond (!validB (N3.mk x_a x_b x_k)) ( some ((.tup [(.agg [iv (0), iv (0), iv (0)]), bv (false)])) ) ( cond (!validB (N3.mk y_a y_b y_k)) ( some ((.tup [(.agg [iv (0), iv (0), iv (0)]), bv (false)])) ) ( cond (pk (N3.mk x_a x_b x_k) (N3.mk y_a y_b y_k)) ( cond (kB (subF (N3.mk x_a x_b x_k) (N3.mk y_a y_b y_k)).3) ( some ((.tup [(.agg [iv (bif chkB (N3.mk (subF (N3.mk x_a x_b x_k) (N3.mk y_a y_b y_k)).1 (subF (N3.mk x_a x_b x_k) (N3.mk y_a y_b y_k)).2 (subF (N3.mk x_a x_b x_k) (N3.mk y_a y_b y_k)).3) then (red (N3.mk (subF (N3.mk x_a x_b x_k) (N3.mk y_a y_b y_k)).1 (subF (N3.mk x_a x_b x_k) (N3.mk y_a y_b y_k)).2 (subF (N3.mk x_a x_b x_k) (N3.mk y_a y_b y_k)).3)).1 else 0), iv (bif chkB (N3.mk (subF (N3.mk x_a x_b x_k) (N3.mk y_a y_b y_k)).1 (subF (N3.mk x_a x_b x_k) (N3.mk y_a y_b y_k)).2 (subF (N3.mk x_a x_b x_k) (N3.mk y_a y_b y_k)).3) then (red (N3.mk (subF (N3.mk x_a x_b x_k) (N3.mk y_a y_b y_k)).1 (subF (N3.mk x_a x_b x_k) (N3.mk y_a y_b y_k)).2 (subF (N3.mk x_a x_b x_k) (N3.mk y_a y_b y_k)).3)).2 else 0), iv (bif chkB (N3.mk (subF (N3.mk x_a x_b x_k) (N3.mk y_a y_b y_k)).1 (subF (N3.mk x_a x_b x_k) (N3.mk y_a y_b y_k)).2 (subF (N3.mk x_a x_b x_k) (N3.mk y_a y_b y_k)).3) then (red (N3.mk (subF (N3.mk x_a x_b x_k) (N3.mk y_a y_b y_k)).1 (subF (N3.mk x_a x_b x_k) (N3.mk y_a y_b y_k)).2 (subF (N3.mk x_a x_b x_k) (N3.mk y_a y_b y_k)).3)).3 else 0)]), bv (chkB (N3.mk (subF (N3.mk x_a x_b x_k) (N3.mk y_a y_b y_k)).1 (subF (N3.mk x_a x_b x_k) (N3.mk y_a y_b y_k)).2 (subF (N3.mk x_a x_b x_k) (N3.mk y_a y_b y_k)).3))])) ) ( none ) ) ( none ) ) ) from by kernel_rfl).trans ?_
  cases hx : validB (⟨x_a, x_b, x_k⟩ : N3) with
  | false => simp only [hx, cond_true, cond_false, Bool.false_and, Bool.not_false]; rfl
  | true =>
    cases hy : validB (⟨y_a, y_b, y_k⟩ : N3) with
    | false => simp only [hx, hy, cond_true, cond_false, Bool.true_and, Bool.not_true, Bool.not_false]; rfl
    | true =>
      obtain ⟨h1, h2, h3, h4, h5⟩ := vpk hx hy
      simp only [hx, hy, h1, h2, h3, h4, h5, cond_true, cond_false, Bool.true_and, Bool.not_true]
      rfl
theorem m22 : Meets Try.prog GL0 22 s22 := by
  refine meetsN mix0 gl0 G29 Try.func22 (by kernel_rfl) (by kernel_rfl) s22 fun args x h => ?_
  unfold s22 at h
  split at h
  · rename_i x_a x_b x_k y_a y_b y_k
    simp only [Option.some.injEq, Prod.mk.injEq] at h
    obtain ⟨hp, rfl⟩ := h
    exact ⟨_, _, by kernel_rfl, e22 x_a x_b x_k y_a y_b y_k⟩
  · cases h
abbrev Γ30 : List (Nat × Ctr) := (22, s22) :: Γ29
theorem G30 : Sound Try.prog GL0 Γ30 := G29.cons m22

-- laws.FnExactMakeNum
def s3 : Ctr := fun
  | [.val (.int .i64 a), .val (.int .i64 b), .val (.int .i64 k)] => some (true, bv true)
  | _ => none

theorem e3 (a : Int) (b : Int) (k : Int) : evN Try.prog GL0 Γ30 (0) [] Try.f3 [.val (.int .i64 a), .val (.int .i64 b), .val (.int .i64 k)] = some (bv true) := by
  refine (show _ = cond (!eq3 (N3.mk (bif inB k 0 62 then bif chkB (N3.mk a b k) then (red (N3.mk a b k)).1 else 0 else 0) (bif inB k 0 62 then bif chkB (N3.mk a b k) then (red (N3.mk a b k)).2 else 0 else 0) (bif inB k 0 62 then bif chkB (N3.mk a b k) then (red (N3.mk a b k)).3 else 0 else 0)) (N3.mk (bif inB k 0 62 then bif chkB (N3.mk a b k) then (red (N3.mk a b k)).1 else 0 else 0) (bif inB k 0 62 then bif chkB (N3.mk a b k) then (red (N3.mk a b k)).2 else 0 else 0) (bif inB k 0 62 then bif chkB (N3.mk a b k) then (red (N3.mk a b k)).3 else 0 else 0))) ( some (bv (false)) ) ( cond (!(inB k 0 62 && chkB (N3.mk a b k)) == (inB k 0 62 && chkB (N3.mk a b k))) ( some (bv (false)) ) ( some (bv (true)) ) ) from by kernel_rfl).trans ?_
  simp only [eq3_self, bne_self_eq_false, beq_self_eq_true, cond_true, cond_false, Bool.not_true]
theorem m3 : Meets Try.prog GL0 3 s3 := by
  refine meetsN mix0 gl0 G30 Try.func3 (by kernel_rfl) (by kernel_rfl) s3 fun args x h => ?_
  unfold s3 at h
  split at h
  · rename_i a b k
    simp only [Option.some.injEq, Prod.mk.injEq] at h
    obtain ⟨hp, rfl⟩ := h
    exact ⟨_, _, by kernel_rfl, e3 a b k⟩
  · cases h
abbrev Γ31 : List (Nat × Ctr) := (3, s3) :: Γ30
theorem G31 : Sound Try.prog GL0 Γ31 := G30.cons m3

-- laws.FnExactMulNum
def s4 : Ctr := fun
  | [.agg [.val (.int .i64 x_a), .val (.int .i64 x_b), .val (.int .i64 x_k)], .agg [.val (.int .i64 y_a), .val (.int .i64 y_b), .val (.int .i64 y_k)]] => some (true, bv true)
  | _ => none

theorem e4 (x_a : Int) (x_b : Int) (x_k : Int) (y_a : Int) (y_b : Int) (y_k : Int) : evN Try.prog GL0 Γ31 (0) [] Try.f4 [.agg [.val (.int .i64 x_a), .val (.int .i64 x_b), .val (.int .i64 x_k)], .agg [.val (.int .i64 y_a), .val (.int .i64 y_b), .val (.int .i64 y_k)]] = some (bv true) := by
  refine (show _ = cond (!eq3 (N3.mk (bif validB (N3.mk x_a x_b x_k) && validB (N3.mk y_a y_b y_k) then bif chkB (mulF (N3.mk x_a x_b x_k) (N3.mk y_a y_b y_k)) then (red (mulF (N3.mk x_a x_b x_k) (N3.mk y_a y_b y_k))).1 else 0 else 0) (bif validB (N3.mk x_a x_b x_k) && validB (N3.mk y_a y_b y_k) then bif chkB (mulF (N3.mk x_a x_b x_k) (N3.mk y_a y_b y_k)) then (red (mulF (N3.mk x_a x_b x_k) (N3.mk y_a y_b y_k))).2 else 0 else 0) (bif validB (N3.mk x_a x_b x_k) && validB (N3.mk y_a y_b y_k) then bif chkB (mulF (N3.mk x_a x_b x_k) (N3.mk y_a y_b y_k)) then (red (mulF (N3.mk x_a x_b x_k) (N3.mk y_a y_b y_k))).3 else 0 else 0)) (N3.mk (bif validB (N3.mk x_a x_b x_k) && validB (N3.mk y_a y_b y_k) then bif chkB (mulF (N3.mk x_a x_b x_k) (N3.mk y_a y_b y_k)) then (red (mulF (N3.mk x_a x_b x_k) (N3.mk y_a y_b y_k))).1 else 0 else 0) (bif validB (N3.mk x_a x_b x_k) && validB (N3.mk y_a y_b y_k) then bif chkB (mulF (N3.mk x_a x_b x_k) (N3.mk y_a y_b y_k)) then (red (mulF (N3.mk x_a x_b x_k) (N3.mk y_a y_b y_k))).2 else 0 else 0) (bif validB (N3.mk x_a x_b x_k) && validB (N3.mk y_a y_b y_k) then bif chkB (mulF (N3.mk x_a x_b x_k) (N3.mk y_a y_b y_k)) then (red (mulF (N3.mk x_a x_b x_k) (N3.mk y_a y_b y_k))).3 else 0 else 0))) ( some (bv (false)) ) ( cond (!(validB (N3.mk x_a x_b x_k) && validB (N3.mk y_a y_b y_k) && chkB (mulF (N3.mk x_a x_b x_k) (N3.mk y_a y_b y_k))) == (validB (N3.mk x_a x_b x_k) && validB (N3.mk y_a y_b y_k) && chkB (mulF (N3.mk x_a x_b x_k) (N3.mk y_a y_b y_k)))) ( some (bv (false)) ) ( some (bv (true)) ) ) from by kernel_rfl).trans ?_
  simp only [eq3_self, bne_self_eq_false, beq_self_eq_true, cond_true, cond_false, Bool.not_true]
theorem m4 : Meets Try.prog GL0 4 s4 := by
  refine meetsN mix0 gl0 G31 Try.func4 (by kernel_rfl) (by kernel_rfl) s4 fun args x h => ?_
  unfold s4 at h
  split at h
  · rename_i x_a x_b x_k y_a y_b y_k
    simp only [Option.some.injEq, Prod.mk.injEq] at h
    obtain ⟨hp, rfl⟩ := h
    exact ⟨_, _, by kernel_rfl, e4 x_a x_b x_k y_a y_b y_k⟩
  · cases h
abbrev Γ32 : List (Nat × Ctr) := (4, s4) :: Γ31
theorem G32 : Sound Try.prog GL0 Γ32 := G31.cons m4

-- laws.FnExactAddNum
def s5 : Ctr := fun
  | [.agg [.val (.int .i64 x_a), .val (.int .i64 x_b), .val (.int .i64 x_k)], .agg [.val (.int .i64 y_a), .val (.int .i64 y_b), .val (.int .i64 y_k)]] => some (true, bv true)
  | _ => none

theorem e5 (x_a : Int) (x_b : Int) (x_k : Int) (y_a : Int) (y_b : Int) (y_k : Int) : evN Try.prog GL0 Γ32 (0) [] Try.f5 [.agg [.val (.int .i64 x_a), .val (.int .i64 x_b), .val (.int .i64 x_k)], .agg [.val (.int .i64 y_a), .val (.int .i64 y_b), .val (.int .i64 y_k)]] = some (bv true) := by
  refine (show _ = cond (!eq3 (N3.mk (bif validB (N3.mk x_a x_b x_k) && validB (N3.mk y_a y_b y_k) then bif chkB (addF (N3.mk x_a x_b x_k) (N3.mk y_a y_b y_k)) then (red (addF (N3.mk x_a x_b x_k) (N3.mk y_a y_b y_k))).1 else 0 else 0) (bif validB (N3.mk x_a x_b x_k) && validB (N3.mk y_a y_b y_k) then bif chkB (addF (N3.mk x_a x_b x_k) (N3.mk y_a y_b y_k)) then (red (addF (N3.mk x_a x_b x_k) (N3.mk y_a y_b y_k))).2 else 0 else 0) (bif validB (N3.mk x_a x_b x_k) && validB (N3.mk y_a y_b y_k) then bif chkB (addF (N3.mk x_a x_b x_k) (N3.mk y_a y_b y_k)) then (red (addF (N3.mk x_a x_b x_k) (N3.mk y_a y_b y_k))).3 else 0 else 0)) (N3.mk (bif validB (N3.mk x_a x_b x_k) && validB (N3.mk y_a y_b y_k) then bif chkB (addF (N3.mk x_a x_b x_k) (N3.mk y_a y_b y_k)) then (red (addF (N3.mk x_a x_b x_k) (N3.mk y_a y_b y_k))).1 else 0 else 0) (bif validB (N3.mk x_a x_b x_k) && validB (N3.mk y_a y_b y_k) then bif chkB (addF (N3.mk x_a x_b x_k) (N3.mk y_a y_b y_k)) then (red (addF (N3.mk x_a x_b x_k) (N3.mk y_a y_b y_k))).2 else 0 else 0) (bif validB (N3.mk x_a x_b x_k) && validB (N3.mk y_a y_b y_k) then bif chkB (addF (N3.mk x_a x_b x_k) (N3.mk y_a y_b y_k)) then (red (addF (N3.mk x_a x_b x_k) (N3.mk y_a y_b y_k))).3 else 0 else 0))) ( some (bv (false)) ) ( cond (!(validB (N3.mk x_a x_b x_k) && validB (N3.mk y_a y_b y_k) && chkB (addF (N3.mk x_a x_b x_k) (N3.mk y_a y_b y_k))) == (validB (N3.mk x_a x_b x_k) && validB (N3.mk y_a y_b y_k) && chkB (addF (N3.mk x_a x_b x_k) (N3.mk y_a y_b y_k)))) ( some (bv (false)) ) ( some (bv (true)) ) ) from by kernel_rfl).trans ?_
  simp only [eq3_self, bne_self_eq_false, beq_self_eq_true, cond_true, cond_false, Bool.not_true]
theorem m5 : Meets Try.prog GL0 5 s5 := by
  refine meetsN mix0 gl0 G32 Try.func5 (by kernel_rfl) (by kernel_rfl) s5 fun args x h => ?_
  unfold s5 at h
  split at h
  · rename_i x_a x_b x_k y_a y_b y_k
    simp only [Option.some.injEq, Prod.mk.injEq] at h
    obtain ⟨hp, rfl⟩ := h
    exact ⟨_, _, by kernel_rfl, e5 x_a x_b x_k y_a y_b y_k⟩
  · cases h
abbrev Γ33 : List (Nat × Ctr) := (5, s5) :: Γ32
theorem G33 : Sound Try.prog GL0 Γ33 := G32.cons m5

-- laws.FnExactSubNum
def s6 : Ctr := fun
  | [.agg [.val (.int .i64 x_a), .val (.int .i64 x_b), .val (.int .i64 x_k)], .agg [.val (.int .i64 y_a), .val (.int .i64 y_b), .val (.int .i64 y_k)]] => some (true, bv true)
  | _ => none

theorem e6 (x_a : Int) (x_b : Int) (x_k : Int) (y_a : Int) (y_b : Int) (y_k : Int) : evN Try.prog GL0 Γ33 (0) [] Try.f6 [.agg [.val (.int .i64 x_a), .val (.int .i64 x_b), .val (.int .i64 x_k)], .agg [.val (.int .i64 y_a), .val (.int .i64 y_b), .val (.int .i64 y_k)]] = some (bv true) := by
  refine (show _ = cond (!eq3 (N3.mk (bif validB (N3.mk x_a x_b x_k) && validB (N3.mk y_a y_b y_k) then bif chkB (subF (N3.mk x_a x_b x_k) (N3.mk y_a y_b y_k)) then (red (subF (N3.mk x_a x_b x_k) (N3.mk y_a y_b y_k))).1 else 0 else 0) (bif validB (N3.mk x_a x_b x_k) && validB (N3.mk y_a y_b y_k) then bif chkB (subF (N3.mk x_a x_b x_k) (N3.mk y_a y_b y_k)) then (red (subF (N3.mk x_a x_b x_k) (N3.mk y_a y_b y_k))).2 else 0 else 0) (bif validB (N3.mk x_a x_b x_k) && validB (N3.mk y_a y_b y_k) then bif chkB (subF (N3.mk x_a x_b x_k) (N3.mk y_a y_b y_k)) then (red (subF (N3.mk x_a x_b x_k) (N3.mk y_a y_b y_k))).3 else 0 else 0)) (N3.mk (bif validB (N3.mk x_a x_b x_k) && validB (N3.mk y_a y_b y_k) then bif chkB (subF (N3.mk x_a x_b x_k) (N3.mk y_a y_b y_k)) then (red (subF (N3.mk x_a x_b x_k) (N3.mk y_a y_b y_k))).1 else 0 else 0) (bif validB (N3.mk x_a x_b x_k) && validB (N3.mk y_a y_b y_k) then bif chkB (subF (N3.mk x_a x_b x_k) (N3.mk y_a y_b y_k)) then (red (subF (N3.mk x_a x_b x_k) (N3.mk y_a y_b y_k))).2 else 0 else 0) (bif validB (N3.mk x_a x_b x_k) && validB (N3.mk y_a y_b y_k) then bif chkB (subF (N3.mk x_a x_b x_k) (N3.mk y_a y_b y_k)) then (red (subF (N3.mk x_a x_b x_k) (N3.mk y_a y_b y_k))).3 else 0 else 0))) ( some (bv (false)) ) ( cond (!(validB (N3.mk x_a x_b x_k) && validB (N3.mk y_a y_b y_k) && chkB (subF (N3.mk x_a x_b x_k) (N3.mk y_a y_b y_k))) == (validB (N3.mk x_a x_b x_k) && validB (N3.mk y_a y_b y_k) && chkB (subF (N3.mk x_a x_b x_k) (N3.mk y_a y_b y_k)))) ( some (bv (false)) ) ( some (bv (true)) ) ) from by kernel_rfl).trans ?_
  simp only [eq3_self, bne_self_eq_false, beq_self_eq_true, cond_true, cond_false, Bool.not_true]
theorem m6 : Meets Try.prog GL0 6 s6 := by
  refine meetsN mix0 gl0 G33 Try.func6 (by kernel_rfl) (by kernel_rfl) s6 fun args x h => ?_
  unfold s6 at h
  split at h
  · rename_i x_a x_b x_k y_a y_b y_k
    simp only [Option.some.injEq, Prod.mk.injEq] at h
    obtain ⟨hp, rfl⟩ := h
    exact ⟨_, _, by kernel_rfl, e6 x_a x_b x_k y_a y_b y_k⟩
  · cases h
abbrev Γ34 : List (Nat × Ctr) := (6, s6) :: Γ33
theorem G34 : Sound Try.prog GL0 Γ34 := G33.cons m6

-- spec.l02Of
def s66 : Ctr := fun
  | [.agg [.val (.int .i64 p_xa), .val (.int .i64 p_xb), .val (.int .i64 p_xk), .val (.int .i64 p_ya), .val (.int .i64 p_yb), .val (.int .i64 p_yk)]] => some (true, (⟨(⟨p_xa, p_xb, p_xk⟩ : N3), (⟨p_ya, p_yb, p_yk⟩ : N3)⟩ : P2).av)
  | _ => none

theorem e66 (p_xa : Int) (p_xb : Int) (p_xk : Int) (p_ya : Int) (p_yb : Int) (p_yk : Int) : evN Try.prog GL0 Γ34 (0) [] Try.f66 [.agg [.val (.int .i64 p_xa), .val (.int .i64 p_xb), .val (.int .i64 p_xk), .val (.int .i64 p_ya), .val (.int .i64 p_yb), .val (.int .i64 p_yk)]] = some ((⟨(⟨p_xa, p_xb, p_xk⟩ : N3), (⟨p_ya, p_yb, p_yk⟩ : N3)⟩ : P2).av) := by
  kernel_rfl
theorem m66 : Meets Try.prog GL0 66 s66 := by
  refine meetsN mix0 gl0 G34 Try.func66 (by kernel_rfl) (by kernel_rfl) s66 fun args x h => ?_
  unfold s66 at h
  split at h
  · rename_i p_xa p_xb p_xk p_ya p_yb p_yk
    simp only [Option.some.injEq, Prod.mk.injEq] at h
    obtain ⟨hp, rfl⟩ := h
    exact ⟨_, _, by kernel_rfl, e66 p_xa p_xb p_xk p_ya p_yb p_yk⟩
  · cases h
abbrev Γ35 : List (Nat × Ctr) := (66, s66) :: Γ34
theorem G35 : Sound Try.prog GL0 Γ35 := G34.cons m66

-- laws.toPoint
def s27 : Ctr := fun
  | [.agg [.val (.int .i64 p_xa), .val (.int .i64 p_xb), .val (.int .i64 p_xk), .val (.int .i64 p_ya), .val (.int .i64 p_yb), .val (.int .i64 p_yk)]] => some (true, (⟨(⟨p_xa, p_xb, p_xk⟩ : N3), (⟨p_ya, p_yb, p_yk⟩ : N3)⟩ : P2).av)
  | _ => none

theorem e27 (p_xa : Int) (p_xb : Int) (p_xk : Int) (p_ya : Int) (p_yb : Int) (p_yk : Int) : evN Try.prog GL0 Γ35 (0) [] Try.f27 [.agg [.val (.int .i64 p_xa), .val (.int .i64 p_xb), .val (.int .i64 p_xk), .val (.int .i64 p_ya), .val (.int .i64 p_yb), .val (.int .i64 p_yk)]] = some ((⟨(⟨p_xa, p_xb, p_xk⟩ : N3), (⟨p_ya, p_yb, p_yk⟩ : N3)⟩ : P2).av) := by
  kernel_rfl
theorem m27 : Meets Try.prog GL0 27 s27 := by
  refine meetsN mix0 gl0 G35 Try.func27 (by kernel_rfl) (by kernel_rfl) s27 fun args x h => ?_
  unfold s27 at h
  split at h
  · rename_i p_xa p_xb p_xk p_ya p_yb p_yk
    simp only [Option.some.injEq, Prod.mk.injEq] at h
    obtain ⟨hp, rfl⟩ := h
    exact ⟨_, _, by kernel_rfl, e27 p_xa p_xb p_xk p_ya p_yb p_yk⟩
  · cases h
abbrev Γ36 : List (Nat × Ctr) := (27, s27) :: Γ35
theorem G36 : Sound Try.prog GL0 Γ36 := G35.cons m27

-- laws.eqPoint
def s29 : Ctr := fun
  | [.agg [.val (.int .i64 p_xa), .val (.int .i64 p_xb), .val (.int .i64 p_xk), .val (.int .i64 p_ya), .val (.int .i64 p_yb), .val (.int .i64 p_yk)], .agg [.val (.int .i64 q_xa), .val (.int .i64 q_xb), .val (.int .i64 q_xk), .val (.int .i64 q_ya), .val (.int .i64 q_yb), .val (.int .i64 q_yk)]] => some (true, bv (eqP (⟨(⟨p_xa, p_xb, p_xk⟩ : N3), (⟨p_ya, p_yb, p_yk⟩ : N3)⟩ : P2) (⟨(⟨q_xa, q_xb, q_xk⟩ : N3), (⟨q_ya, q_yb, q_yk⟩ : N3)⟩ : P2)))
  | _ => none

theorem e29 (p_xa : Int) (p_xb : Int) (p_xk : Int) (p_ya : Int) (p_yb : Int) (p_yk : Int) (q_xa : Int) (q_xb : Int) (q_xk : Int) (q_ya : Int) (q_yb : Int) (q_yk : Int) : evN Try.prog GL0 Γ36 (0) [] Try.f29 [.agg [.val (.int .i64 p_xa), .val (.int .i64 p_xb), .val (.int .i64 p_xk), .val (.int .i64 p_ya), .val (.int .i64 p_yb), .val (.int .i64 p_yk)], .agg [.val (.int .i64 q_xa), .val (.int .i64 q_xb), .val (.int .i64 q_xk), .val (.int .i64 q_ya), .val (.int .i64 q_yb), .val (.int .i64 q_yk)]] = some (bv (eqP (⟨(⟨p_xa, p_xb, p_xk⟩ : N3), (⟨p_ya, p_yb, p_yk⟩ : N3)⟩ : P2) (⟨(⟨q_xa, q_xb, q_xk⟩ : N3), (⟨q_ya, q_yb, q_yk⟩ : N3)⟩ : P2))) := by
  refine (show _ = cond (!eq3 (N3.mk p_xa p_xb p_xk) (N3.mk q_xa q_xb q_xk)) ( some (bv (false)) ) ( cond (!eq3 (N3.mk p_ya p_yb p_yk) (N3.mk q_ya q_yb q_yk)) ( some (bv (false)) ) ( some (bv (true)) ) ) from by kernel_rfl).trans ?_
  simp only [eqP]
  cases eq3 (⟨p_xa, p_xb, p_xk⟩ : N3) (⟨q_xa, q_xb, q_xk⟩ : N3) <;> cases eq3 (⟨p_ya, p_yb, p_yk⟩ : N3) (⟨q_ya, q_yb, q_yk⟩ : N3) <;> rfl
theorem m29 : Meets Try.prog GL0 29 s29 := by
  refine meetsN mix0 gl0 G36 Try.func29 (by kernel_rfl) (by kernel_rfl) s29 fun args x h => ?_
  unfold s29 at h
  split at h
  · rename_i p_xa p_xb p_xk p_ya p_yb p_yk q_xa q_xb q_xk q_ya q_yb q_yk
    simp only [Option.some.injEq, Prod.mk.injEq] at h
    obtain ⟨hp, rfl⟩ := h
    exact ⟨_, _, by kernel_rfl, e29 p_xa p_xb p_xk p_ya p_yb p_yk q_xa q_xb q_xk q_ya q_yb q_yk⟩
  · cases h
abbrev Γ37 : List (Nat × Ctr) := (29, s29) :: Γ36
theorem G37 : Sound Try.prog GL0 Γ37 := G36.cons m29

-- impl.ValidPoint
def s60 : Ctr := fun
  | [.agg [.val (.int .i64 p_xa), .val (.int .i64 p_xb), .val (.int .i64 p_xk), .val (.int .i64 p_ya), .val (.int .i64 p_yb), .val (.int .i64 p_yk)]] => some (true, bv (valP (⟨(⟨p_xa, p_xb, p_xk⟩ : N3), (⟨p_ya, p_yb, p_yk⟩ : N3)⟩ : P2)))
  | _ => none

theorem e60 (p_xa : Int) (p_xb : Int) (p_xk : Int) (p_ya : Int) (p_yb : Int) (p_yk : Int) : evN Try.prog GL0 Γ37 (0) [] Try.f60 [.agg [.val (.int .i64 p_xa), .val (.int .i64 p_xb), .val (.int .i64 p_xk), .val (.int .i64 p_ya), .val (.int .i64 p_yb), .val (.int .i64 p_yk)]] = some (bv (valP (⟨(⟨p_xa, p_xb, p_xk⟩ : N3), (⟨p_ya, p_yb, p_yk⟩ : N3)⟩ : P2))) := by
  refine (show _ = cond (validB (N3.mk p_xa p_xb p_xk)) ( some (bv (validB (N3.mk p_ya p_yb p_yk))) ) ( some (bv (false)) ) from by kernel_rfl).trans ?_
  simp only [valP]
  cases validB (⟨p_xa, p_xb, p_xk⟩ : N3) <;> rfl
theorem m60 : Meets Try.prog GL0 60 s60 := by
  refine meetsN mix0 gl0 G37 Try.func60 (by kernel_rfl) (by kernel_rfl) s60 fun args x h => ?_
  unfold s60 at h
  split at h
  · rename_i p_xa p_xb p_xk p_ya p_yb p_yk
    simp only [Option.some.injEq, Prod.mk.injEq] at h
    obtain ⟨hp, rfl⟩ := h
    exact ⟨_, _, by kernel_rfl, e60 p_xa p_xb p_xk p_ya p_yb p_yk⟩
  · cases h
abbrev Γ38 : List (Nat × Ctr) := (60, s60) :: Γ37
theorem G38 : Sound Try.prog GL0 Γ38 := G37.cons m60

-- spec.l02Point
def s58 : Ctr := fun
  | [.agg [.val (.int .i64 p_xa), .val (.int .i64 p_xb), .val (.int .i64 p_xk), .val (.int .i64 p_ya), .val (.int .i64 p_yb), .val (.int .i64 p_yk)]] => some (true, bv (valP (⟨(⟨p_xa, p_xb, p_xk⟩ : N3), (⟨p_ya, p_yb, p_yk⟩ : N3)⟩ : P2)))
  | _ => none

theorem e58 (p_xa : Int) (p_xb : Int) (p_xk : Int) (p_ya : Int) (p_yb : Int) (p_yk : Int) : evN Try.prog GL0 Γ38 (0) [] Try.f58 [.agg [.val (.int .i64 p_xa), .val (.int .i64 p_xb), .val (.int .i64 p_xk), .val (.int .i64 p_ya), .val (.int .i64 p_yb), .val (.int .i64 p_yk)]] = some (bv (valP (⟨(⟨p_xa, p_xb, p_xk⟩ : N3), (⟨p_ya, p_yb, p_yk⟩ : N3)⟩ : P2))) := by
  refine (show _ = cond (validB (N3.mk p_xa p_xb p_xk)) ( some (bv (validB (N3.mk p_ya p_yb p_yk))) ) ( some (bv (false)) ) from by kernel_rfl).trans ?_
  simp only [valP]
  cases validB (⟨p_xa, p_xb, p_xk⟩ : N3) <;> rfl
theorem m58 : Meets Try.prog GL0 58 s58 := by
  refine meetsN mix0 gl0 G38 Try.func58 (by kernel_rfl) (by kernel_rfl) s58 fun args x h => ?_
  unfold s58 at h
  split at h
  · rename_i p_xa p_xb p_xk p_ya p_yb p_yk
    simp only [Option.some.injEq, Prod.mk.injEq] at h
    obtain ⟨hp, rfl⟩ := h
    exact ⟨_, _, by kernel_rfl, e58 p_xa p_xb p_xk p_ya p_yb p_yk⟩
  · cases h
abbrev Γ39 : List (Nat × Ctr) := (58, s58) :: Γ38
theorem G39 : Sound Try.prog GL0 Γ39 := G38.cons m58

-- (impl.Point).checked
def s62 : Ctr := fun
  | [.agg [.val (.int .i64 p_xa), .val (.int .i64 p_xb), .val (.int .i64 p_xk), .val (.int .i64 p_ya), .val (.int .i64 p_yb), .val (.int .i64 p_yk)]] => some (kB p_xk && kB p_yk, rP (valP (redP (⟨(⟨p_xa, p_xb, p_xk⟩ : N3), (⟨p_ya, p_yb, p_yk⟩ : N3)⟩ : P2))) (redP (⟨(⟨p_xa, p_xb, p_xk⟩ : N3), (⟨p_ya, p_yb, p_yk⟩ : N3)⟩ : P2)))
  | _ => none

theorem e62 (p_xa : Int) (p_xb : Int) (p_xk : Int) (p_ya : Int) (p_yb : Int) (p_yk : Int) (hp : (kB p_xk && kB p_yk) = true) : evN Try.prog GL0 Γ39 (0) [] Try.f62 [.agg [.val (.int .i64 p_xa), .val (.int .i64 p_xb), .val (.int .i64 p_xk), .val (.int .i64 p_ya), .val (.int .i64 p_yb), .val (.int .i64 p_yk)]] = some (rP (valP (redP (⟨(⟨p_xa, p_xb, p_xk⟩ : N3), (⟨p_ya, p_yb, p_yk⟩ : N3)⟩ : P2))) (redP (⟨(⟨p_xa, p_xb, p_xk⟩ : N3), (⟨p_ya, p_yb, p_yk⟩ : N3)⟩ : P2))) := by
  refine (show _ = cond (kB p_xk) ( cond (kB p_yk) ( cond (!chkB (N3.mk p_xa p_xb p_xk)) ( some ((.tup [(.agg [iv (0), iv (0), iv (0), iv (0), iv (0), iv (0)]), bv (false)])) ) ( cond (!chkB (N3.mk p_ya p_yb p_yk)) ( some ((.tup [(.agg [iv (0), iv (0), iv (0), iv (0), iv (0), iv (0)]), bv (false)])) ) ( some ((.tup [(.agg [iv (bif chkB (N3.mk p_xa p_xb p_xk) then (red (N3.mk p_xa p_xb p_xk)).1 else 0), iv (bif chkB (N3.mk p_xa p_xb p_xk) then (red (N3.mk p_xa p_xb p_xk)).2 else 0), iv (bif chkB (N3.mk p_xa p_xb p_xk) then (red (N3.mk p_xa p_xb p_xk)).3 else 0), iv (bif chkB (N3.mk p_ya p_yb p_yk) then (red (N3.mk p_ya p_yb p_yk)).1 else 0), iv (bif chkB (N3.mk p_ya p_yb p_yk) then (red (N3.mk p_ya p_yb p_yk)).2 else 0), iv (bif chkB (N3.mk p_ya p_yb p_yk) then (red (N3.mk p_ya p_yb p_yk)).3 else 0)]), bv (true)])) ) ) ) ( none ) ) ( none ) from by kernel_rfl).trans ?_
  rw [Bool.and_eq_true] at hp
  rw [hp.1, hp.2]
  simp only [valP, redP, rP, chkB, cond_true]
  cases validB (red (⟨p_xa, p_xb, p_xk⟩ : N3)) <;> cases validB (red (⟨p_ya, p_yb, p_yk⟩ : N3)) <;> rfl
theorem m62 : Meets Try.prog GL0 62 s62 := by
  refine meetsN mix0 gl0 G39 Try.func62 (by kernel_rfl) (by kernel_rfl) s62 fun args x h => ?_
  unfold s62 at h
  split at h
  · rename_i p_xa p_xb p_xk p_ya p_yb p_yk
    simp only [Option.some.injEq, Prod.mk.injEq] at h
    obtain ⟨hp, rfl⟩ := h
    exact ⟨_, _, by kernel_rfl, e62 p_xa p_xb p_xk p_ya p_yb p_yk hp⟩
  · cases h
abbrev Γ40 : List (Nat × Ctr) := (62, s62) :: Γ39
theorem G40 : Sound Try.prog GL0 Γ40 := G39.cons m62

-- spec.l02Num
def s59 : Ctr := fun
  | [.agg [.val (.int .i64 p_xa), .val (.int .i64 p_xb), .val (.int .i64 p_xk), .val (.int .i64 p_ya), .val (.int .i64 p_yb), .val (.int .i64 p_yk)]] => some (kB p_xk && kB p_yk, rP (valP (redP (⟨(⟨p_xa, p_xb, p_xk⟩ : N3), (⟨p_ya, p_yb, p_yk⟩ : N3)⟩ : P2))) (redP (⟨(⟨p_xa, p_xb, p_xk⟩ : N3), (⟨p_ya, p_yb, p_yk⟩ : N3)⟩ : P2)))
  | _ => none

theorem e59 (p_xa : Int) (p_xb : Int) (p_xk : Int) (p_ya : Int) (p_yb : Int) (p_yk : Int) (hp : (kB p_xk && kB p_yk) = true) : evN Try.prog GL0 Γ40 (0) [] Try.f59 [.agg [.val (.int .i64 p_xa), .val (.int .i64 p_xb), .val (.int .i64 p_xk), .val (.int .i64 p_ya), .val (.int .i64 p_yb), .val (.int .i64 p_yk)]] = some (rP (valP (redP (⟨(⟨p_xa, p_xb, p_xk⟩ : N3), (⟨p_ya, p_yb, p_yk⟩ : N3)⟩ : P2))) (redP (⟨(⟨p_xa, p_xb, p_xk⟩ : N3), (⟨p_ya, p_yb, p_yk⟩ : N3)⟩ : P2))) := by
  refine (show _ = cond (kB p_xk) ( cond (kB p_yk) ( cond (!chkB (N3.mk p_xa p_xb p_xk)) ( some ((.tup [(.agg [iv (0), iv (0), iv (0), iv (0), iv (0), iv (0)]), bv (false)])) ) ( cond (!chkB (N3.mk p_ya p_yb p_yk)) ( some ((.tup [(.agg [iv (0), iv (0), iv (0), iv (0), iv (0), iv (0)]), bv (false)])) ) ( some ((.tup [(.agg [iv (bif chkB (N3.mk p_xa p_xb p_xk) then (red (N3.mk p_xa p_xb p_xk)).1 else 0), iv (bif chkB (N3.mk p_xa p_xb p_xk) then (red (N3.mk p_xa p_xb p_xk)).2 else 0), iv (bif chkB (N3.mk p_xa p_xb p_xk) then (red (N3.mk p_xa p_xb p_xk)).3 else 0), iv (bif chkB (N3.mk p_ya p_yb p_yk) then (red (N3.mk p_ya p_yb p_yk)).1 else 0), iv (bif chkB (N3.mk p_ya p_yb p_yk) then (red (N3.mk p_ya p_yb p_yk)).2 else 0), iv (bif chkB (N3.mk p_ya p_yb p_yk) then (red (N3.mk p_ya p_yb p_yk)).3 else 0)]), bv (true)])) ) ) ) ( none ) ) ( none ) from by kernel_rfl).trans ?_
  rw [Bool.and_eq_true] at hp
  rw [hp.1, hp.2]
  simp only [valP, redP, rP, chkB, cond_true]
  cases validB (red (⟨p_xa, p_xb, p_xk⟩ : N3)) <;> cases validB (red (⟨p_ya, p_yb, p_yk⟩ : N3)) <;> rfl
theorem m59 : Meets Try.prog GL0 59 s59 := by
  refine meetsN mix0 gl0 G40 Try.func59 (by kernel_rfl) (by kernel_rfl) s59 fun args x h => ?_
  unfold s59 at h
  split at h
  · rename_i p_xa p_xb p_xk p_ya p_yb p_yk
    simp only [Option.some.injEq, Prod.mk.injEq] at h
    obtain ⟨hp, rfl⟩ := h
    exact ⟨_, _, by kernel_rfl, e59 p_xa p_xb p_xk p_ya p_yb p_yk hp⟩
  · cases h
abbrev Γ41 : List (Nat × Ctr) := (59, s59) :: Γ40
theorem G41 : Sound Try.prog GL0 Γ41 := G40.cons m59

-- (impl.Point).plus
def s85 : Ctr := fun
  | [.agg [.val (.int .i64 p_xa), .val (.int .i64 p_xb), .val (.int .i64 p_xk), .val (.int .i64 p_ya), .val (.int .i64 p_yb), .val (.int .i64 p_yk)], .agg [.val (.int .i64 q_xa), .val (.int .i64 q_xb), .val (.int .i64 q_xk), .val (.int .i64 q_ya), .val (.int .i64 q_yb), .val (.int .i64 q_yk)]] => some (pkP (⟨(⟨p_xa, p_xb, p_xk⟩ : N3), (⟨p_ya, p_yb, p_yk⟩ : N3)⟩ : P2) (⟨(⟨q_xa, q_xb, q_xk⟩ : N3), (⟨q_ya, q_yb, q_yk⟩ : N3)⟩ : P2), (addP (⟨(⟨p_xa, p_xb, p_xk⟩ : N3), (⟨p_ya, p_yb, p_yk⟩ : N3)⟩ : P2) (⟨(⟨q_xa, q_xb, q_xk⟩ : N3), (⟨q_ya, q_yb, q_yk⟩ : N3)⟩ : P2)).av)
  | _ => none

theorem e85 (p_xa : Int) (p_xb : Int) (p_xk : Int) (p_ya : Int) (p_yb : Int) (p_yk : Int) (q_xa : Int) (q_xb : Int) (q_xk : Int) (q_ya : Int) (q_yb : Int) (q_yk : Int) (hp : (pkP (⟨(⟨p_xa, p_xb, p_xk⟩ : N3), (⟨p_ya, p_yb, p_yk⟩ : N3)⟩ : P2) (⟨(⟨q_xa, q_xb, q_xk⟩ : N3), (⟨q_ya, q_yb, q_yk⟩ : N3)⟩ : P2)) = true) : evN Try.prog GL0 Γ41 (0) [] Try.f85 [.agg [.val (.int .i64 p_xa), .val (.int .i64 p_xb), .val (.int .i64 p_xk), .val (.int .i64 p_ya), .val (.int .i64 p_yb), .val (.int .i64 p_yk)], .agg [.val (.int .i64 q_xa), .val (.int .i64 q_xb), .val (.int .i64 q_xk), .val (.int .i64 q_ya), .val (.int .i64 q_yb), .val (.int .i64 q_yk)]] = some ((addP (⟨(⟨p_xa, p_xb, p_xk⟩ : N3), (⟨p_ya, p_yb, p_yk⟩ : N3)⟩ : P2) (⟨(⟨q_xa, q_xb, q_xk⟩ : N3), (⟨q_ya, q_yb, q_yk⟩ : N3)⟩ : P2)).av) := by
  unfold pkP at hp
  rw [Bool.and_eq_true] at hp
  refine (show _ = cond (pk (⟨p_xa, p_xb, p_xk⟩ : N3) (⟨q_xa, q_xb, q_xk⟩ : N3)) (cond (pk (⟨p_ya, p_yb, p_yk⟩ : N3) (⟨q_ya, q_yb, q_yk⟩ : N3)) (some (addP (⟨(⟨p_xa, p_xb, p_xk⟩ : N3), (⟨p_ya, p_yb, p_yk⟩ : N3)⟩ : P2) (⟨(⟨q_xa, q_xb, q_xk⟩ : N3), (⟨q_ya, q_yb, q_yk⟩ : N3)⟩ : P2)).av) none) none from by kernel_rfl).trans ?_
  rw [hp.1, hp.2]
  rfl
theorem m85 : Meets Try.prog GL0 85 s85 := by
  refine meetsN mix0 gl0 G41 Try.func85 (by kernel_rfl) (by kernel_rfl) s85 fun args x h => ?_
  unfold s85 at h
  split at h
  · rename_i p_xa p_xb p_xk p_ya p_yb p_yk q_xa q_xb q_xk q_ya q_yb q_yk
    simp only [Option.some.injEq, Prod.mk.injEq] at h
    obtain ⟨hp, rfl⟩ := h
    exact ⟨_, _, by kernel_rfl, e85 p_xa p_xb p_xk p_ya p_yb p_yk q_xa q_xb q_xk q_ya q_yb q_yk hp⟩
  · cases h
abbrev Γ42 : List (Nat × Ctr) := (85, s85) :: Γ41
theorem G42 : Sound Try.prog GL0 Γ42 := G41.cons m85

-- spec.l04Plus
def s87 : Ctr := fun
  | [.agg [.val (.int .i64 p_xa), .val (.int .i64 p_xb), .val (.int .i64 p_xk), .val (.int .i64 p_ya), .val (.int .i64 p_yb), .val (.int .i64 p_yk)], .agg [.val (.int .i64 q_xa), .val (.int .i64 q_xb), .val (.int .i64 q_xk), .val (.int .i64 q_ya), .val (.int .i64 q_yb), .val (.int .i64 q_yk)]] => some (pkP (⟨(⟨p_xa, p_xb, p_xk⟩ : N3), (⟨p_ya, p_yb, p_yk⟩ : N3)⟩ : P2) (⟨(⟨q_xa, q_xb, q_xk⟩ : N3), (⟨q_ya, q_yb, q_yk⟩ : N3)⟩ : P2), (addP (⟨(⟨p_xa, p_xb, p_xk⟩ : N3), (⟨p_ya, p_yb, p_yk⟩ : N3)⟩ : P2) (⟨(⟨q_xa, q_xb, q_xk⟩ : N3), (⟨q_ya, q_yb, q_yk⟩ : N3)⟩ : P2)).av)
  | _ => none

theorem e87 (p_xa : Int) (p_xb : Int) (p_xk : Int) (p_ya : Int) (p_yb : Int) (p_yk : Int) (q_xa : Int) (q_xb : Int) (q_xk : Int) (q_ya : Int) (q_yb : Int) (q_yk : Int) (hp : (pkP (⟨(⟨p_xa, p_xb, p_xk⟩ : N3), (⟨p_ya, p_yb, p_yk⟩ : N3)⟩ : P2) (⟨(⟨q_xa, q_xb, q_xk⟩ : N3), (⟨q_ya, q_yb, q_yk⟩ : N3)⟩ : P2)) = true) : evN Try.prog GL0 Γ42 (0) [] Try.f87 [.agg [.val (.int .i64 p_xa), .val (.int .i64 p_xb), .val (.int .i64 p_xk), .val (.int .i64 p_ya), .val (.int .i64 p_yb), .val (.int .i64 p_yk)], .agg [.val (.int .i64 q_xa), .val (.int .i64 q_xb), .val (.int .i64 q_xk), .val (.int .i64 q_ya), .val (.int .i64 q_yb), .val (.int .i64 q_yk)]] = some ((addP (⟨(⟨p_xa, p_xb, p_xk⟩ : N3), (⟨p_ya, p_yb, p_yk⟩ : N3)⟩ : P2) (⟨(⟨q_xa, q_xb, q_xk⟩ : N3), (⟨q_ya, q_yb, q_yk⟩ : N3)⟩ : P2)).av) := by
  unfold pkP at hp
  rw [Bool.and_eq_true] at hp
  refine (show _ = cond (pk (⟨p_xa, p_xb, p_xk⟩ : N3) (⟨q_xa, q_xb, q_xk⟩ : N3)) (cond (pk (⟨p_ya, p_yb, p_yk⟩ : N3) (⟨q_ya, q_yb, q_yk⟩ : N3)) (some (addP (⟨(⟨p_xa, p_xb, p_xk⟩ : N3), (⟨p_ya, p_yb, p_yk⟩ : N3)⟩ : P2) (⟨(⟨q_xa, q_xb, q_xk⟩ : N3), (⟨q_ya, q_yb, q_yk⟩ : N3)⟩ : P2)).av) none) none from by kernel_rfl).trans ?_
  rw [hp.1, hp.2]
  rfl
theorem m87 : Meets Try.prog GL0 87 s87 := by
  refine meetsN mix0 gl0 G42 Try.func87 (by kernel_rfl) (by kernel_rfl) s87 fun args x h => ?_
  unfold s87 at h
  split at h
  · rename_i p_xa p_xb p_xk p_ya p_yb p_yk q_xa q_xb q_xk q_ya q_yb q_yk
    simp only [Option.some.injEq, Prod.mk.injEq] at h
    obtain ⟨hp, rfl⟩ := h
    exact ⟨_, _, by kernel_rfl, e87 p_xa p_xb p_xk p_ya p_yb p_yk q_xa q_xb q_xk q_ya q_yb q_yk hp⟩
  · cases h
abbrev Γ43 : List (Nat × Ctr) := (87, s87) :: Γ42
theorem G43 : Sound Try.prog GL0 Γ43 := G42.cons m87

-- impl.middle
def s61 : Ctr := fun
  | [.agg [.val (.int .i64 p_xa), .val (.int .i64 p_xb), .val (.int .i64 p_xk), .val (.int .i64 p_ya), .val (.int .i64 p_yb), .val (.int .i64 p_yk)], .agg [.val (.int .i64 q_xa), .val (.int .i64 q_xb), .val (.int .i64 q_xk), .val (.int .i64 q_ya), .val (.int .i64 q_yb), .val (.int .i64 q_yk)]] => some (pkP (⟨(⟨p_xa, p_xb, p_xk⟩ : N3), (⟨p_ya, p_yb, p_yk⟩ : N3)⟩ : P2) (⟨(⟨q_xa, q_xb, q_xk⟩ : N3), (⟨q_ya, q_yb, q_yk⟩ : N3)⟩ : P2) && (kB (wr ((addF (⟨p_xa, p_xb, p_xk⟩ : N3) (⟨q_xa, q_xb, q_xk⟩ : N3)).k + 1)) && kB (wr ((addF (⟨p_ya, p_yb, p_yk⟩ : N3) (⟨q_ya, q_yb, q_yk⟩ : N3)).k + 1))), (midF (⟨(⟨p_xa, p_xb, p_xk⟩ : N3), (⟨p_ya, p_yb, p_yk⟩ : N3)⟩ : P2) (⟨(⟨q_xa, q_xb, q_xk⟩ : N3), (⟨q_ya, q_yb, q_yk⟩ : N3)⟩ : P2)).av)
  | _ => none

theorem e61 (p_xa : Int) (p_xb : Int) (p_xk : Int) (p_ya : Int) (p_yb : Int) (p_yk : Int) (q_xa : Int) (q_xb : Int) (q_xk : Int) (q_ya : Int) (q_yb : Int) (q_yk : Int) (hp : (pkP (⟨(⟨p_xa, p_xb, p_xk⟩ : N3), (⟨p_ya, p_yb, p_yk⟩ : N3)⟩ : P2) (⟨(⟨q_xa, q_xb, q_xk⟩ : N3), (⟨q_ya, q_yb, q_yk⟩ : N3)⟩ : P2) && (kB (wr ((addF (⟨p_xa, p_xb, p_xk⟩ : N3) (⟨q_xa, q_xb, q_xk⟩ : N3)).k + 1)) && kB (wr ((addF (⟨p_ya, p_yb, p_yk⟩ : N3) (⟨q_ya, q_yb, q_yk⟩ : N3)).k + 1)))) = true) : evN Try.prog GL0 Γ43 (0) [] Try.f61 [.agg [.val (.int .i64 p_xa), .val (.int .i64 p_xb), .val (.int .i64 p_xk), .val (.int .i64 p_ya), .val (.int .i64 p_yb), .val (.int .i64 p_yk)], .agg [.val (.int .i64 q_xa), .val (.int .i64 q_xb), .val (.int .i64 q_xk), .val (.int .i64 q_ya), .val (.int .i64 q_yb), .val (.int .i64 q_yk)]] = some ((midF (⟨(⟨p_xa, p_xb, p_xk⟩ : N3), (⟨p_ya, p_yb, p_yk⟩ : N3)⟩ : P2) (⟨(⟨q_xa, q_xb, q_xk⟩ : N3), (⟨q_ya, q_yb, q_yk⟩ : N3)⟩ : P2)).av) := by
  simp only [Bool.and_eq_true] at hp
  obtain ⟨h1, h2, h3⟩ := hp
  refine (show _ = cond (pkP (⟨(⟨p_xa, p_xb, p_xk⟩ : N3), (⟨p_ya, p_yb, p_yk⟩ : N3)⟩ : P2) (⟨(⟨q_xa, q_xb, q_xk⟩ : N3), (⟨q_ya, q_yb, q_yk⟩ : N3)⟩ : P2)) (cond (kB (wr ((addF (⟨p_xa, p_xb, p_xk⟩ : N3) (⟨q_xa, q_xb, q_xk⟩ : N3)).k + 1))) (cond (kB (wr ((addF (⟨p_ya, p_yb, p_yk⟩ : N3) (⟨q_ya, q_yb, q_yk⟩ : N3)).k + 1))) (some (midF (⟨(⟨p_xa, p_xb, p_xk⟩ : N3), (⟨p_ya, p_yb, p_yk⟩ : N3)⟩ : P2) (⟨(⟨q_xa, q_xb, q_xk⟩ : N3), (⟨q_ya, q_yb, q_yk⟩ : N3)⟩ : P2)).av) none) none) none from by kernel_rfl).trans ?_
  rw [h1, h2, h3]
  rfl
theorem m61 : Meets Try.prog GL0 61 s61 := by
  refine meetsN mix0 gl0 G43 Try.func61 (by kernel_rfl) (by kernel_rfl) s61 fun args x h => ?_
  unfold s61 at h
  split at h
  · rename_i p_xa p_xb p_xk p_ya p_yb p_yk q_xa q_xb q_xk q_ya q_yb q_yk
    simp only [Option.some.injEq, Prod.mk.injEq] at h
    obtain ⟨hp, rfl⟩ := h
    exact ⟨_, _, by kernel_rfl, e61 p_xa p_xb p_xk p_ya p_yb p_yk q_xa q_xb q_xk q_ya q_yb q_yk hp⟩
  · cases h
abbrev Γ44 : List (Nat × Ctr) := (61, s61) :: Γ43
theorem G44 : Sound Try.prog GL0 Γ44 := G43.cons m61

-- impl.MidPoint
def s28 : Ctr := fun
  | [.agg [.val (.int .i64 p_xa), .val (.int .i64 p_xb), .val (.int .i64 p_xk), .val (.int .i64 p_ya), .val (.int .i64 p_yb), .val (.int .i64 p_yk)], .agg [.val (.int .i64 q_xa), .val (.int .i64 q_xb), .val (.int .i64 q_xk), .val (.int .i64 q_ya), .val (.int .i64 q_yb), .val (.int .i64 q_yk)]] => some (true, rP ((valP (⟨(⟨p_xa, p_xb, p_xk⟩ : N3), (⟨p_ya, p_yb, p_yk⟩ : N3)⟩ : P2) && valP (⟨(⟨q_xa, q_xb, q_xk⟩ : N3), (⟨q_ya, q_yb, q_yk⟩ : N3)⟩ : P2)) && valP (midF (⟨(⟨p_xa, p_xb, p_xk⟩ : N3), (⟨p_ya, p_yb, p_yk⟩ : N3)⟩ : P2) (⟨(⟨q_xa, q_xb, q_xk⟩ : N3), (⟨q_ya, q_yb, q_yk⟩ : N3)⟩ : P2))) (midF (⟨(⟨p_xa, p_xb, p_xk⟩ : N3), (⟨p_ya, p_yb, p_yk⟩ : N3)⟩ : P2) (⟨(⟨q_xa, q_xb, q_xk⟩ : N3), (⟨q_ya, q_yb, q_yk⟩ : N3)⟩ : P2)))
  | _ => none

theorem e28 (p_xa : Int) (p_xb : Int) (p_xk : Int) (p_ya : Int) (p_yb : Int) (p_yk : Int) (q_xa : Int) (q_xb : Int) (q_xk : Int) (q_ya : Int) (q_yb : Int) (q_yk : Int) : evN Try.prog GL0 Γ44 (0) [] Try.f28 [.agg [.val (.int .i64 p_xa), .val (.int .i64 p_xb), .val (.int .i64 p_xk), .val (.int .i64 p_ya), .val (.int .i64 p_yb), .val (.int .i64 p_yk)], .agg [.val (.int .i64 q_xa), .val (.int .i64 q_xb), .val (.int .i64 q_xk), .val (.int .i64 q_ya), .val (.int .i64 q_yb), .val (.int .i64 q_yk)]] = some (rP ((valP (⟨(⟨p_xa, p_xb, p_xk⟩ : N3), (⟨p_ya, p_yb, p_yk⟩ : N3)⟩ : P2) && valP (⟨(⟨q_xa, q_xb, q_xk⟩ : N3), (⟨q_ya, q_yb, q_yk⟩ : N3)⟩ : P2)) && valP (midF (⟨(⟨p_xa, p_xb, p_xk⟩ : N3), (⟨p_ya, p_yb, p_yk⟩ : N3)⟩ : P2) (⟨(⟨q_xa, q_xb, q_xk⟩ : N3), (⟨q_ya, q_yb, q_yk⟩ : N3)⟩ : P2))) (midF (⟨(⟨p_xa, p_xb, p_xk⟩ : N3), (⟨p_ya, p_yb, p_yk⟩ : N3)⟩ : P2) (⟨(⟨q_xa, q_xb, q_xk⟩ : N3), (⟨q_ya, q_yb, q_yk⟩ : N3)⟩ : P2))) := by
  refine (show _ = cond (!valP (⟨(⟨p_xa, p_xb, p_xk⟩ : N3), (⟨p_ya, p_yb, p_yk⟩ : N3)⟩ : P2)) (some (rP false (⟨(⟨p_xa, p_xb, p_xk⟩ : N3), (⟨p_ya, p_yb, p_yk⟩ : N3)⟩ : P2))) (cond (!valP (⟨(⟨q_xa, q_xb, q_xk⟩ : N3), (⟨q_ya, q_yb, q_yk⟩ : N3)⟩ : P2)) (some (rP false (⟨(⟨p_xa, p_xb, p_xk⟩ : N3), (⟨p_ya, p_yb, p_yk⟩ : N3)⟩ : P2))) (cond (pkP (⟨(⟨p_xa, p_xb, p_xk⟩ : N3), (⟨p_ya, p_yb, p_yk⟩ : N3)⟩ : P2) (⟨(⟨q_xa, q_xb, q_xk⟩ : N3), (⟨q_ya, q_yb, q_yk⟩ : N3)⟩ : P2) && (kB (wr ((addF (⟨p_xa, p_xb, p_xk⟩ : N3) (⟨q_xa, q_xb, q_xk⟩ : N3)).k + 1)) && kB (wr ((addF (⟨p_ya, p_yb, p_yk⟩ : N3) (⟨q_ya, q_yb, q_yk⟩ : N3)).k + 1)))) (cond (kB (midF (⟨(⟨p_xa, p_xb, p_xk⟩ : N3), (⟨p_ya, p_yb, p_yk⟩ : N3)⟩ : P2) (⟨(⟨q_xa, q_xb, q_xk⟩ : N3), (⟨q_ya, q_yb, q_yk⟩ : N3)⟩ : P2)).x.k && kB (midF (⟨(⟨p_xa, p_xb, p_xk⟩ : N3), (⟨p_ya, p_yb, p_yk⟩ : N3)⟩ : P2) (⟨(⟨q_xa, q_xb, q_xk⟩ : N3), (⟨q_ya, q_yb, q_yk⟩ : N3)⟩ : P2)).y.k) (some (rP (valP (redP (midF (⟨(⟨p_xa, p_xb, p_xk⟩ : N3), (⟨p_ya, p_yb, p_yk⟩ : N3)⟩ : P2) (⟨(⟨q_xa, q_xb, q_xk⟩ : N3), (⟨q_ya, q_yb, q_yk⟩ : N3)⟩ : P2)))) (redP (midF (⟨(⟨p_xa, p_xb, p_xk⟩ : N3), (⟨p_ya, p_yb, p_yk⟩ : N3)⟩ : P2) (⟨(⟨q_xa, q_xb, q_xk⟩ : N3), (⟨q_ya, q_yb, q_yk⟩ : N3)⟩ : P2))))) none) none)) from by kernel_rfl).trans ?_
  cases h1 : valP (⟨(⟨p_xa, p_xb, p_xk⟩ : N3), (⟨p_ya, p_yb, p_yk⟩ : N3)⟩ : P2) with
  | false => rfl
  | true =>
    cases h2 : valP (⟨(⟨q_xa, q_xb, q_xk⟩ : N3), (⟨q_ya, q_yb, q_yk⟩ : N3)⟩ : P2) with
    | false => rfl
    | true =>
      obtain ⟨a1, a2, a3, a4, a5, a6, a7, a8⟩ := mid_pre h1 h2
      simp only at a2 a3 a4 a5
      simp only [a1, a2, a3, a4, a5, a6, a7, a8, Bool.not_true, Bool.true_and, Bool.and_true, cond_true, cond_false]
theorem m28 : Meets Try.prog GL0 28 s28 := by
  refine meetsN mix0 gl0 G44 Try.func28 (by kernel_rfl) (by kernel_rfl) s28 fun args x h => ?_
  unfold s28 at h
  split at h
  · rename_i p_xa p_xb p_xk p_ya p_yb p_yk q_xa q_xb q_xk q_ya q_yb q_yk
    simp only [Option.some.injEq, Prod.mk.injEq] at h
    obtain ⟨hp, rfl⟩ := h
    exact ⟨_, _, by kernel_rfl, e28 p_xa p_xb p_xk p_ya p_yb p_yk q_xa q_xb q_xk q_ya q_yb q_yk⟩
  · cases h
abbrev Γ45 : List (Nat × Ctr) := (28, s28) :: Γ44
theorem G45 : Sound Try.prog GL0 Γ45 := G44.cons m28

-- spec.MidPoint
def s26 : Ctr := fun
  | [.agg [.val (.int .i64 p_xa), .val (.int .i64 p_xb), .val (.int .i64 p_xk), .val (.int .i64 p_ya), .val (.int .i64 p_yb), .val (.int .i64 p_yk)], .agg [.val (.int .i64 q_xa), .val (.int .i64 q_xb), .val (.int .i64 q_xk), .val (.int .i64 q_ya), .val (.int .i64 q_yb), .val (.int .i64 q_yk)]] => some (true, rP ((valP (⟨(⟨p_xa, p_xb, p_xk⟩ : N3), (⟨p_ya, p_yb, p_yk⟩ : N3)⟩ : P2) && valP (⟨(⟨q_xa, q_xb, q_xk⟩ : N3), (⟨q_ya, q_yb, q_yk⟩ : N3)⟩ : P2)) && valP (midF (⟨(⟨p_xa, p_xb, p_xk⟩ : N3), (⟨p_ya, p_yb, p_yk⟩ : N3)⟩ : P2) (⟨(⟨q_xa, q_xb, q_xk⟩ : N3), (⟨q_ya, q_yb, q_yk⟩ : N3)⟩ : P2))) (midF (⟨(⟨p_xa, p_xb, p_xk⟩ : N3), (⟨p_ya, p_yb, p_yk⟩ : N3)⟩ : P2) (⟨(⟨q_xa, q_xb, q_xk⟩ : N3), (⟨q_ya, q_yb, q_yk⟩ : N3)⟩ : P2)))
  | _ => none

theorem e26 (p_xa : Int) (p_xb : Int) (p_xk : Int) (p_ya : Int) (p_yb : Int) (p_yk : Int) (q_xa : Int) (q_xb : Int) (q_xk : Int) (q_ya : Int) (q_yb : Int) (q_yk : Int) : evN Try.prog GL0 Γ45 (0) [] Try.f26 [.agg [.val (.int .i64 p_xa), .val (.int .i64 p_xb), .val (.int .i64 p_xk), .val (.int .i64 p_ya), .val (.int .i64 p_yb), .val (.int .i64 p_yk)], .agg [.val (.int .i64 q_xa), .val (.int .i64 q_xb), .val (.int .i64 q_xk), .val (.int .i64 q_ya), .val (.int .i64 q_yb), .val (.int .i64 q_yk)]] = some (rP ((valP (⟨(⟨p_xa, p_xb, p_xk⟩ : N3), (⟨p_ya, p_yb, p_yk⟩ : N3)⟩ : P2) && valP (⟨(⟨q_xa, q_xb, q_xk⟩ : N3), (⟨q_ya, q_yb, q_yk⟩ : N3)⟩ : P2)) && valP (midF (⟨(⟨p_xa, p_xb, p_xk⟩ : N3), (⟨p_ya, p_yb, p_yk⟩ : N3)⟩ : P2) (⟨(⟨q_xa, q_xb, q_xk⟩ : N3), (⟨q_ya, q_yb, q_yk⟩ : N3)⟩ : P2))) (midF (⟨(⟨p_xa, p_xb, p_xk⟩ : N3), (⟨p_ya, p_yb, p_yk⟩ : N3)⟩ : P2) (⟨(⟨q_xa, q_xb, q_xk⟩ : N3), (⟨q_ya, q_yb, q_yk⟩ : N3)⟩ : P2))) := by
  refine (show _ = cond (!valP (⟨(⟨p_xa, p_xb, p_xk⟩ : N3), (⟨p_ya, p_yb, p_yk⟩ : N3)⟩ : P2)) (some (rP false (⟨(⟨p_xa, p_xb, p_xk⟩ : N3), (⟨p_ya, p_yb, p_yk⟩ : N3)⟩ : P2))) (cond (!valP (⟨(⟨q_xa, q_xb, q_xk⟩ : N3), (⟨q_ya, q_yb, q_yk⟩ : N3)⟩ : P2)) (some (rP false (⟨(⟨p_xa, p_xb, p_xk⟩ : N3), (⟨p_ya, p_yb, p_yk⟩ : N3)⟩ : P2))) (cond (pk (⟨p_xa, p_xb, p_xk⟩ : N3) (⟨q_xa, q_xb, q_xk⟩ : N3)) (cond (pk (⟨p_ya, p_yb, p_yk⟩ : N3) (⟨q_ya, q_yb, q_yk⟩ : N3)) (cond (kB (wr ((addF (⟨p_xa, p_xb, p_xk⟩ : N3) (⟨q_xa, q_xb, q_xk⟩ : N3)).k + 1)) && kB (wr ((addF (⟨p_ya, p_yb, p_yk⟩ : N3) (⟨q_ya, q_yb, q_yk⟩ : N3)).k + 1))) (some (rP (valP (midF (⟨(⟨p_xa, p_xb, p_xk⟩ : N3), (⟨p_ya, p_yb, p_yk⟩ : N3)⟩ : P2) (⟨(⟨q_xa, q_xb, q_xk⟩ : N3), (⟨q_ya, q_yb, q_yk⟩ : N3)⟩ : P2))) (midF (⟨(⟨p_xa, p_xb, p_xk⟩ : N3), (⟨p_ya, p_yb, p_yk⟩ : N3)⟩ : P2) (⟨(⟨q_xa, q_xb, q_xk⟩ : N3), (⟨q_ya, q_yb, q_yk⟩ : N3)⟩ : P2)))) none) none) none)) from by kernel_rfl).trans ?_
  cases h1 : valP (⟨(⟨p_xa, p_xb, p_xk⟩ : N3), (⟨p_ya, p_yb, p_yk⟩ : N3)⟩ : P2) with
  | false => rfl
  | true =>
    cases h2 : valP (⟨(⟨q_xa, q_xb, q_xk⟩ : N3), (⟨q_ya, q_yb, q_yk⟩ : N3)⟩ : P2) with
    | false => rfl
    | true =>
      obtain ⟨a1, a2, a3, a4, a5, a6, a7, a8⟩ := mid_pre h1 h2
      simp only at a2 a3 a4 a5
      simp only [a1, a2, a3, a4, a5, a6, a7, a8, Bool.not_true, Bool.true_and, Bool.and_true, cond_true, cond_false]
theorem m26 : Meets Try.prog GL0 26 s26 := by
  refine meetsN mix0 gl0 G45 Try.func26 (by kernel_rfl) (by kernel_rfl) s26 fun args x h => ?_
  unfold s26 at h
  split at h
  · rename_i p_xa p_xb p_xk p_ya p_yb p_yk q_xa q_xb q_xk q_ya q_yb q_yk
    simp only [Option.some.injEq, Prod.mk.injEq] at h
    obtain ⟨hp, rfl⟩ := h
    exact ⟨_, _, by kernel_rfl, e26 p_xa p_xb p_xk p_ya p_yb p_yk q_xa q_xb q_xk q_ya q_yb q_yk⟩
  · cases h
abbrev Γ46 : List (Nat × Ctr) := (26, s26) :: Γ45
theorem G46 : Sound Try.prog GL0 Γ46 := G45.cons m26

-- laws.FnExactMidPoint
def s8 : Ctr := fun
  | [.agg [.val (.int .i64 p_xa), .val (.int .i64 p_xb), .val (.int .i64 p_xk), .val (.int .i64 p_ya), .val (.int .i64 p_yb), .val (.int .i64 p_yk)], .agg [.val (.int .i64 q_xa), .val (.int .i64 q_xb), .val (.int .i64 q_xk), .val (.int .i64 q_ya), .val (.int .i64 q_yb), .val (.int .i64 q_yk)]] => some (true, bv true)
  | _ => none

theorem e8 (p_xa : Int) (p_xb : Int) (p_xk : Int) (p_ya : Int) (p_yb : Int) (p_yk : Int) (q_xa : Int) (q_xb : Int) (q_xk : Int) (q_ya : Int) (q_yb : Int) (q_yk : Int) : evN Try.prog GL0 Γ46 (0) [] Try.f8 [.agg [.val (.int .i64 p_xa), .val (.int .i64 p_xb), .val (.int .i64 p_xk), .val (.int .i64 p_ya), .val (.int .i64 p_yb), .val (.int .i64 p_yk)], .agg [.val (.int .i64 q_xa), .val (.int .i64 q_xb), .val (.int .i64 q_xk), .val (.int .i64 q_ya), .val (.int .i64 q_yb), .val (.int .i64 q_yk)]] = some (bv true) := by
  refine (show _ = cond (!eqP (P2.mk (N3.mk (bif valP (P2.mk (N3.mk p_xa p_xb p_xk) (N3.mk p_ya p_yb p_yk)) && valP (P2.mk (N3.mk q_xa q_xb q_xk) (N3.mk q_ya q_yb q_yk)) && valP (P2.mk (halfF (addF (N3.mk p_xa p_xb p_xk) (N3.mk q_xa q_xb q_xk))) (halfF (addF (N3.mk p_ya p_yb p_yk) (N3.mk q_ya q_yb q_yk)))) then (halfF (addF (N3.mk p_xa p_xb p_xk) (N3.mk q_xa q_xb q_xk))).1 else 0) (bif valP (P2.mk (N3.mk p_xa p_xb p_xk) (N3.mk p_ya p_yb p_yk)) && valP (P2.mk (N3.mk q_xa q_xb q_xk) (N3.mk q_ya q_yb q_yk)) && valP (P2.mk (halfF (addF (N3.mk p_xa p_xb p_xk) (N3.mk q_xa q_xb q_xk))) (halfF (addF (N3.mk p_ya p_yb p_yk) (N3.mk q_ya q_yb q_yk)))) then (halfF (addF (N3.mk p_xa p_xb p_xk) (N3.mk q_xa q_xb q_xk))).2 else 0) (bif valP (P2.mk (N3.mk p_xa p_xb p_xk) (N3.mk p_ya p_yb p_yk)) && valP (P2.mk (N3.mk q_xa q_xb q_xk) (N3.mk q_ya q_yb q_yk)) && valP (P2.mk (halfF (addF (N3.mk p_xa p_xb p_xk) (N3.mk q_xa q_xb q_xk))) (halfF (addF (N3.mk p_ya p_yb p_yk) (N3.mk q_ya q_yb q_yk)))) then (halfF (addF (N3.mk p_xa p_xb p_xk) (N3.mk q_xa q_xb q_xk))).3 else 0)) (N3.mk (bif valP (P2.mk (N3.mk p_xa p_xb p_xk) (N3.mk p_ya p_yb p_yk)) && valP (P2.mk (N3.mk q_xa q_xb q_xk) (N3.mk q_ya q_yb q_yk)) && valP (P2.mk (halfF (addF (N3.mk p_xa p_xb p_xk) (N3.mk q_xa q_xb q_xk))) (halfF (addF (N3.mk p_ya p_yb p_yk) (N3.mk q_ya q_yb q_yk)))) then (halfF (addF (N3.mk p_ya p_yb p_yk) (N3.mk q_ya q_yb q_yk))).1 else 0) (bif valP (P2.mk (N3.mk p_xa p_xb p_xk) (N3.mk p_ya p_yb p_yk)) && valP (P2.mk (N3.mk q_xa q_xb q_xk) (N3.mk q_ya q_yb q_yk)) && valP (P2.mk (halfF (addF (N3.mk p_xa p_xb p_xk) (N3.mk q_xa q_xb q_xk))) (halfF (addF (N3.mk p_ya p_yb p_yk) (N3.mk q_ya q_yb q_yk)))) then (halfF (addF (N3.mk p_ya p_yb p_yk) (N3.mk q_ya q_yb q_yk))).2 else 0) (bif valP (P2.mk (N3.mk p_xa p_xb p_xk) (N3.mk p_ya p_yb p_yk)) && valP (P2.mk (N3.mk q_xa q_xb q_xk) (N3.mk q_ya q_yb q_yk)) && valP (P2.mk (halfF (addF (N3.mk p_xa p_xb p_xk) (N3.mk q_xa q_xb q_xk))) (halfF (addF (N3.mk p_ya p_yb p_yk) (N3.mk q_ya q_yb q_yk)))) then (halfF (addF (N3.mk p_ya p_yb p_yk) (N3.mk q_ya q_yb q_yk))).3 else 0))) (P2.mk (N3.mk (bif valP (P2.mk (N3.mk p_xa p_xb p_xk) (N3.mk p_ya p_yb p_yk)) && valP (P2.mk (N3.mk q_xa q_xb q_xk) (N3.mk q_ya q_yb q_yk)) && valP (P2.mk (halfF (addF (N3.mk p_xa p_xb p_xk) (N3.mk q_xa q_xb q_xk))) (halfF (addF (N3.mk p_ya p_yb p_yk) (N3.mk q_ya q_yb q_yk)))) then (halfF (addF (N3.mk p_xa p_xb p_xk) (N3.mk q_xa q_xb q_xk))).1 else 0) (bif valP (P2.mk (N3.mk p_xa p_xb p_xk) (N3.mk p_ya p_yb p_yk)) && valP (P2.mk (N3.mk q_xa q_xb q_xk) (N3.mk q_ya q_yb q_yk)) && valP (P2.mk (halfF (addF (N3.mk p_xa p_xb p_xk) (N3.mk q_xa q_xb q_xk))) (halfF (addF (N3.mk p_ya p_yb p_yk) (N3.mk q_ya q_yb q_yk)))) then (halfF (addF (N3.mk p_xa p_xb p_xk) (N3.mk q_xa q_xb q_xk))).2 else 0) (bif valP (P2.mk (N3.mk p_xa p_xb p_xk) (N3.mk p_ya p_yb p_yk)) && valP (P2.mk (N3.mk q_xa q_xb q_xk) (N3.mk q_ya q_yb q_yk)) && valP (P2.mk (halfF (addF (N3.mk p_xa p_xb p_xk) (N3.mk q_xa q_xb q_xk))) (halfF (addF (N3.mk p_ya p_yb p_yk) (N3.mk q_ya q_yb q_yk)))) then (halfF (addF (N3.mk p_xa p_xb p_xk) (N3.mk q_xa q_xb q_xk))).3 else 0)) (N3.mk (bif valP (P2.mk (N3.mk p_xa p_xb p_xk) (N3.mk p_ya p_yb p_yk)) && valP (P2.mk (N3.mk q_xa q_xb q_xk) (N3.mk q_ya q_yb q_yk)) && valP (P2.mk (halfF (addF (N3.mk p_xa p_xb p_xk) (N3.mk q_xa q_xb q_xk))) (halfF (addF (N3.mk p_ya p_yb p_yk) (N3.mk q_ya q_yb q_yk)))) then (halfF (addF (N3.mk p_ya p_yb p_yk) (N3.mk q_ya q_yb q_yk))).1 else 0) (bif valP (P2.mk (N3.mk p_xa p_xb p_xk) (N3.mk p_ya p_yb p_yk)) && valP (P2.mk (N3.mk q_xa q_xb q_xk) (N3.mk q_ya q_yb q_yk)) && valP (P2.mk (halfF (addF (N3.mk p_xa p_xb p_xk) (N3.mk q_xa q_xb q_xk))) (halfF (addF (N3.mk p_ya p_yb p_yk) (N3.mk q_ya q_yb q_yk)))) then (halfF (addF (N3.mk p_ya p_yb p_yk) (N3.mk q_ya q_yb q_yk))).2 else 0) (bif valP (P2.mk (N3.mk p_xa p_xb p_xk) (N3.mk p_ya p_yb p_yk)) && valP (P2.mk (N3.mk q_xa q_xb q_xk) (N3.mk q_ya q_yb q_yk)) && valP (P2.mk (halfF (addF (N3.mk p_xa p_xb p_xk) (N3.mk q_xa q_xb q_xk))) (halfF (addF (N3.mk p_ya p_yb p_yk) (N3.mk q_ya q_yb q_yk)))) then (halfF (addF (N3.mk p_ya p_yb p_yk) (N3.mk q_ya q_yb q_yk))).3 else 0)))) ( some (bv (false)) ) ( cond (!(valP (P2.mk (N3.mk p_xa p_xb p_xk) (N3.mk p_ya p_yb p_yk)) && valP (P2.mk (N3.mk q_xa q_xb q_xk) (N3.mk q_ya q_yb q_yk)) && valP (P2.mk (halfF (addF (N3.mk p_xa p_xb p_xk) (N3.mk q_xa q_xb q_xk))) (halfF (addF (N3.mk p_ya p_yb p_yk) (N3.mk q_ya q_yb q_yk))))) == (valP (P2.mk (N3.mk p_xa p_xb p_xk) (N3.mk p_ya p_yb p_yk)) && valP (P2.mk (N3.mk q_xa q_xb q_xk) (N3.mk q_ya q_yb q_yk)) && valP (P2.mk (halfF (addF (N3.mk p_xa p_xb p_xk) (N3.mk q_xa q_xb q_xk))) (halfF (addF (N3.mk p_ya p_yb p_yk) (N3.mk q_ya q_yb q_yk)))))) ( some (bv (false)) ) ( some (bv (true)) ) ) from by kernel_rfl).trans ?_
  simp only [eqP_self, bne_self_eq_false, beq_self_eq_true, cond_true, cond_false, Bool.not_true]
theorem m8 : Meets Try.prog GL0 8 s8 := by
  refine meetsN mix0 gl0 G46 Try.func8 (by kernel_rfl) (by kernel_rfl) s8 fun args x h => ?_
  unfold s8 at h
  split at h
  · rename_i p_xa p_xb p_xk p_ya p_yb p_yk q_xa q_xb q_xk q_ya q_yb q_yk
    simp only [Option.some.injEq, Prod.mk.injEq] at h
    obtain ⟨hp, rfl⟩ := h
    exact ⟨_, _, by kernel_rfl, e8 p_xa p_xb p_xk p_ya p_yb p_yk q_xa q_xb q_xk q_ya q_yb q_yk⟩
  · cases h
abbrev Γ47 : List (Nat × Ctr) := (8, s8) :: Γ46
theorem G47 : Sound Try.prog GL0 Γ47 := G46.cons m8

-- impl.rotate
def s96 : Ctr := fun
  | [.agg [.val (.int .i64 p_xa), .val (.int .i64 p_xb), .val (.int .i64 p_xk), .val (.int .i64 p_ya), .val (.int .i64 p_yb), .val (.int .i64 p_yk)], .val (.int .i64 t)] => some (inB t 0 7 && okP (⟨(⟨p_xa, p_xb, p_xk⟩ : N3), (⟨p_ya, p_yb, p_yk⟩ : N3)⟩ : P2), (turnF t (⟨(⟨p_xa, p_xb, p_xk⟩ : N3), (⟨p_ya, p_yb, p_yk⟩ : N3)⟩ : P2)).av)
  | _ => none

theorem e96 (p_xa : Int) (p_xb : Int) (p_xk : Int) (p_ya : Int) (p_yb : Int) (p_yk : Int) (t : Int) (hp : (inB t 0 7 && okP (⟨(⟨p_xa, p_xb, p_xk⟩ : N3), (⟨p_ya, p_yb, p_yk⟩ : N3)⟩ : P2)) = true) : evN Try.prog GL0 Γ47 (0) [] Try.f96 [.agg [.val (.int .i64 p_xa), .val (.int .i64 p_xb), .val (.int .i64 p_xk), .val (.int .i64 p_ya), .val (.int .i64 p_yb), .val (.int .i64 p_yk)], .val (.int .i64 t)] = some ((turnF t (⟨(⟨p_xa, p_xb, p_xk⟩ : N3), (⟨p_ya, p_yb, p_yk⟩ : N3)⟩ : P2)).av) := by
  simp only [Bool.and_eq_true, inB_iff] at hp
  obtain ⟨⟨h0, h7⟩, hq⟩ := hp
  have ho := okP_iff.1 hq
  obtain ⟨a1, a2, a3, _⟩ := turn_pre ho.1 ho.2
  simp only at a1 a2 a3
  have ht : t = 0 ∨ t = 1 ∨ t = 2 ∨ t = 3 ∨ t = 4 ∨ t = 5 ∨ t = 6 ∨ t = 7 := by omega
  clear h0 h7
  rcases ht with rfl | rfl | rfl | rfl | rfl | rfl | rfl | rfl
  · refine (show _ = some (quartI 0 (⟨(⟨p_xa, p_xb, p_xk⟩ : N3), (⟨p_ya, p_yb, p_yk⟩ : N3)⟩ : P2)).av from by kernel_rfl).trans ?_
    exact congrArg (fun z : P2 => some z.av) ((turnI hq 0 0 (by decide)).1 rfl)
  · refine (show _ = cond (pk (⟨p_xa, p_xb, p_xk⟩ : N3) (⟨p_ya, p_yb, p_yk⟩ : N3)) (cond (pkm (subF (⟨p_xa, p_xb, p_xk⟩ : N3) (⟨p_ya, p_yb, p_yk⟩ : N3)) hN) (cond (pk (⟨p_xa, p_xb, p_xk⟩ : N3) (⟨p_ya, p_yb, p_yk⟩ : N3)) (cond (pkm (addF (⟨p_xa, p_xb, p_xk⟩ : N3) (⟨p_ya, p_yb, p_yk⟩ : N3)) hN) (some (quartI 0 (rot45 (⟨(⟨p_xa, p_xb, p_xk⟩ : N3), (⟨p_ya, p_yb, p_yk⟩ : N3)⟩ : P2))).av) none) none) none) none from by kernel_rfl).trans ?_
    rw [a1, a2, a3]
    exact congrArg (fun z : P2 => some z.av) ((turnI hq 1 0 (by decide)).2 rfl)
  · refine (show _ = some (quartI 1 (⟨(⟨p_xa, p_xb, p_xk⟩ : N3), (⟨p_ya, p_yb, p_yk⟩ : N3)⟩ : P2)).av from by kernel_rfl).trans ?_
    exact congrArg (fun z : P2 => some z.av) ((turnI hq 2 1 (by decide)).1 rfl)
  · refine (show _ = cond (pk (⟨p_xa, p_xb, p_xk⟩ : N3) (⟨p_ya, p_yb, p_yk⟩ : N3)) (cond (pkm (subF (⟨p_xa, p_xb, p_xk⟩ : N3) (⟨p_ya, p_yb, p_yk⟩ : N3)) hN) (cond (pk (⟨p_xa, p_xb, p_xk⟩ : N3) (⟨p_ya, p_yb, p_yk⟩ : N3)) (cond (pkm (addF (⟨p_xa, p_xb, p_xk⟩ : N3) (⟨p_ya, p_yb, p_yk⟩ : N3)) hN) (some (quartI 1 (rot45 (⟨(⟨p_xa, p_xb, p_xk⟩ : N3), (⟨p_ya, p_yb, p_yk⟩ : N3)⟩ : P2))).av) none) none) none) none from by kernel_rfl).trans ?_
    rw [a1, a2, a3]
    exact congrArg (fun z : P2 => some z.av) ((turnI hq 3 1 (by decide)).2 rfl)
  · refine (show _ = some (quartI 2 (⟨(⟨p_xa, p_xb, p_xk⟩ : N3), (⟨p_ya, p_yb, p_yk⟩ : N3)⟩ : P2)).av from by kernel_rfl).trans ?_
    exact congrArg (fun z : P2 => some z.av) ((turnI hq 4 2 (by decide)).1 rfl)
  · refine (show _ = cond (pk (⟨p_xa, p_xb, p_xk⟩ : N3) (⟨p_ya, p_yb, p_yk⟩ : N3)) (cond (pkm (subF (⟨p_xa, p_xb, p_xk⟩ : N3) (⟨p_ya, p_yb, p_yk⟩ : N3)) hN) (cond (pk (⟨p_xa, p_xb, p_xk⟩ : N3) (⟨p_ya, p_yb, p_yk⟩ : N3)) (cond (pkm (addF (⟨p_xa, p_xb, p_xk⟩ : N3) (⟨p_ya, p_yb, p_yk⟩ : N3)) hN) (some (quartI 2 (rot45 (⟨(⟨p_xa, p_xb, p_xk⟩ : N3), (⟨p_ya, p_yb, p_yk⟩ : N3)⟩ : P2))).av) none) none) none) none from by kernel_rfl).trans ?_
    rw [a1, a2, a3]
    exact congrArg (fun z : P2 => some z.av) ((turnI hq 5 2 (by decide)).2 rfl)
  · refine (show _ = some (quartI 3 (⟨(⟨p_xa, p_xb, p_xk⟩ : N3), (⟨p_ya, p_yb, p_yk⟩ : N3)⟩ : P2)).av from by kernel_rfl).trans ?_
    exact congrArg (fun z : P2 => some z.av) ((turnI hq 6 3 (by decide)).1 rfl)
  · refine (show _ = cond (pk (⟨p_xa, p_xb, p_xk⟩ : N3) (⟨p_ya, p_yb, p_yk⟩ : N3)) (cond (pkm (subF (⟨p_xa, p_xb, p_xk⟩ : N3) (⟨p_ya, p_yb, p_yk⟩ : N3)) hN) (cond (pk (⟨p_xa, p_xb, p_xk⟩ : N3) (⟨p_ya, p_yb, p_yk⟩ : N3)) (cond (pkm (addF (⟨p_xa, p_xb, p_xk⟩ : N3) (⟨p_ya, p_yb, p_yk⟩ : N3)) hN) (some (quartI 3 (rot45 (⟨(⟨p_xa, p_xb, p_xk⟩ : N3), (⟨p_ya, p_yb, p_yk⟩ : N3)⟩ : P2))).av) none) none) none) none from by kernel_rfl).trans ?_
    rw [a1, a2, a3]
    exact congrArg (fun z : P2 => some z.av) ((turnI hq 7 3 (by decide)).2 rfl)
theorem m96 : Meets Try.prog GL0 96 s96 := by
  refine meetsN mix0 gl0 G47 Try.func96 (by kernel_rfl) (by kernel_rfl) s96 fun args x h => ?_
  unfold s96 at h
  split at h
  · rename_i p_xa p_xb p_xk p_ya p_yb p_yk t
    simp only [Option.some.injEq, Prod.mk.injEq] at h
    obtain ⟨hp, rfl⟩ := h
    exact ⟨_, _, by kernel_rfl, e96 p_xa p_xb p_xk p_ya p_yb p_yk t hp⟩
  · cases h
abbrev Γ48 : List (Nat × Ctr) := (96, s96) :: Γ47
theorem G48 : Sound Try.prog GL0 Γ48 := G47.cons m96

-- spec.l04Turned
def s88 : Ctr := fun
  | [.val (.int .i64 t), .val (.bool f), .agg [.val (.int .i64 p_xa), .val (.int .i64 p_xb), .val (.int .i64 p_xk), .val (.int .i64 p_ya), .val (.int .i64 p_yb), .val (.int .i64 p_yk)]] => some (inB t 0 7 && okP (⟨(⟨p_xa, p_xb, p_xk⟩ : N3), (⟨p_ya, p_yb, p_yk⟩ : N3)⟩ : P2), (turnF t (flipP f (⟨(⟨p_xa, p_xb, p_xk⟩ : N3), (⟨p_ya, p_yb, p_yk⟩ : N3)⟩ : P2))).av)
  | _ => none

theorem e88 (t : Int) (f : Bool) (p_xa : Int) (p_xb : Int) (p_xk : Int) (p_ya : Int) (p_yb : Int) (p_yk : Int) (hp : (inB t 0 7 && okP (⟨(⟨p_xa, p_xb, p_xk⟩ : N3), (⟨p_ya, p_yb, p_yk⟩ : N3)⟩ : P2)) = true) : evN Try.prog GL0 Γ48 (5) [true, true, false, false, false, true, true, true] Try.f88 [.val (.int .i64 t), .val (.bool f), .agg [.val (.int .i64 p_xa), .val (.int .i64 p_xb), .val (.int .i64 p_xk), .val (.int .i64 p_ya), .val (.int .i64 p_yb), .val (.int .i64 p_yk)]] = some ((turnF t (flipP f (⟨(⟨p_xa, p_xb, p_xk⟩ : N3), (⟨p_ya, p_yb, p_yk⟩ : N3)⟩ : P2))).av) := by
  cases f with
  | true =>
    simp only [Bool.and_eq_true, inB_iff] at hp
    obtain ⟨⟨h0, h7⟩, hq⟩ := hp
    have ho := okP_iff.1 hq
    obtain ⟨a1, a2, a3, _⟩ := turn_pre ho.1 ho.2
    simp only at a1 a2 a3
    have ht : t = 0 ∨ t = 1 ∨ t = 2 ∨ t = 3 ∨ t = 4 ∨ t = 5 ∨ t = 6 ∨ t = 7 := by omega
    clear h0 h7
    rcases ht with rfl | rfl | rfl | rfl | rfl | rfl | rfl | rfl
    · refine (show _ = some ((quartS 0 (flipP true (⟨(⟨p_xa, p_xb, p_xk⟩ : N3), (⟨p_ya, p_yb, p_yk⟩ : N3)⟩ : P2)))).av from by kernel_rfl).trans ?_
      exact congrArg (fun z : P2 => some z.av) ((turnS (flip_ok hq true) 0 0).1 rfl)
    · refine (show _ = cond (pk (quartS 0 (flipP true (⟨(⟨p_xa, p_xb, p_xk⟩ : N3), (⟨p_ya, p_yb, p_yk⟩ : N3)⟩ : P2))).x (quartS 0 (flipP true (⟨(⟨p_xa, p_xb, p_xk⟩ : N3), (⟨p_ya, p_yb, p_yk⟩ : N3)⟩ : P2))).y) (cond (pkm (subF (quartS 0 (flipP true (⟨(⟨p_xa, p_xb, p_xk⟩ : N3), (⟨p_ya, p_yb, p_yk⟩ : N3)⟩ : P2))).x (quartS 0 (flipP true (⟨(⟨p_xa, p_xb, p_xk⟩ : N3), (⟨p_ya, p_yb, p_yk⟩ : N3)⟩ : P2))).y) hN) (cond (pk (quartS 0 (flipP true (⟨(⟨p_xa, p_xb, p_xk⟩ : N3), (⟨p_ya, p_yb, p_yk⟩ : N3)⟩ : P2))).x (quartS 0 (flipP true (⟨(⟨p_xa, p_xb, p_xk⟩ : N3), (⟨p_ya, p_yb, p_yk⟩ : N3)⟩ : P2))).y) (cond (pkm (addF (quartS 0 (flipP true (⟨(⟨p_xa, p_xb, p_xk⟩ : N3), (⟨p_ya, p_yb, p_yk⟩ : N3)⟩ : P2))).x (quartS 0 (flipP true (⟨(⟨p_xa, p_xb, p_xk⟩ : N3), (⟨p_ya, p_yb, p_yk⟩ : N3)⟩ : P2))).y) hN) (some (rot45 (quartS 0 (flipP true (⟨(⟨p_xa, p_xb, p_xk⟩ : N3), (⟨p_ya, p_yb, p_yk⟩ : N3)⟩ : P2)))).av) none) none) none) none from by kernel_rfl).trans ?_
      obtain ⟨c1, c2, c3⟩ := quartS_ok (flip_ok hq true) 0
      rw [c1, c2, c3]
      exact congrArg (fun z : P2 => some z.av) ((turnS (flip_ok hq true) 1 0).2 rfl)
    · refine (show _ = some ((quartS 1 (flipP true (⟨(⟨p_xa, p_xb, p_xk⟩ : N3), (⟨p_ya, p_yb, p_yk⟩ : N3)⟩ : P2)))).av from by kernel_rfl).trans ?_
      exact congrArg (fun z : P2 => some z.av) ((turnS (flip_ok hq true) 2 1).1 rfl)
    · refine (show _ = cond (pk (quartS 1 (flipP true (⟨(⟨p_xa, p_xb, p_xk⟩ : N3), (⟨p_ya, p_yb, p_yk⟩ : N3)⟩ : P2))).x (quartS 1 (flipP true (⟨(⟨p_xa, p_xb, p_xk⟩ : N3), (⟨p_ya, p_yb, p_yk⟩ : N3)⟩ : P2))).y) (cond (pkm (subF (quartS 1 (flipP true (⟨(⟨p_xa, p_xb, p_xk⟩ : N3), (⟨p_ya, p_yb, p_yk⟩ : N3)⟩ : P2))).x (quartS 1 (flipP true (⟨(⟨p_xa, p_xb, p_xk⟩ : N3), (⟨p_ya, p_yb, p_yk⟩ : N3)⟩ : P2))).y) hN) (cond (pk (quartS 1 (flipP true (⟨(⟨p_xa, p_xb, p_xk⟩ : N3), (⟨p_ya, p_yb, p_yk⟩ : N3)⟩ : P2))).x (quartS 1 (flipP true (⟨(⟨p_xa, p_xb, p_xk⟩ : N3), (⟨p_ya, p_yb, p_yk⟩ : N3)⟩ : P2))).y) (cond (pkm (addF (quartS 1 (flipP true (⟨(⟨p_xa, p_xb, p_xk⟩ : N3), (⟨p_ya, p_yb, p_yk⟩ : N3)⟩ : P2))).x (quartS 1 (flipP true (⟨(⟨p_xa, p_xb, p_xk⟩ : N3), (⟨p_ya, p_yb, p_yk⟩ : N3)⟩ : P2))).y) hN) (some (rot45 (quartS 1 (flipP true (⟨(⟨p_xa, p_xb, p_xk⟩ : N3), (⟨p_ya, p_yb, p_yk⟩ : N3)⟩ : P2)))).av) none) none) none) none from by kernel_rfl).trans ?_
      obtain ⟨c1, c2, c3⟩ := quartS_ok (flip_ok hq true) 1
      rw [c1, c2, c3]
      exact congrArg (fun z : P2 => some z.av) ((turnS (flip_ok hq true) 3 1).2 rfl)
    · refine (show _ = some ((quartS 2 (flipP true (⟨(⟨p_xa, p_xb, p_xk⟩ : N3), (⟨p_ya, p_yb, p_yk⟩ : N3)⟩ : P2)))).av from by kernel_rfl).trans ?_
      exact congrArg (fun z : P2 => some z.av) ((turnS (flip_ok hq true) 4 2).1 rfl)
    · refine (show _ = cond (pk (quartS 2 (flipP true (⟨(⟨p_xa, p_xb, p_xk⟩ : N3), (⟨p_ya, p_yb, p_yk⟩ : N3)⟩ : P2))).x (quartS 2 (flipP true (⟨(⟨p_xa, p_xb, p_xk⟩ : N3), (⟨p_ya, p_yb, p_yk⟩ : N3)⟩ : P2))).y) (cond (pkm (subF (quartS 2 (flipP true (⟨(⟨p_xa, p_xb, p_xk⟩ : N3), (⟨p_ya, p_yb, p_yk⟩ : N3)⟩ : P2))).x (quartS 2 (flipP true (⟨(⟨p_xa, p_xb, p_xk⟩ : N3), (⟨p_ya, p_yb, p_yk⟩ : N3)⟩ : P2))).y) hN) (cond (pk (quartS 2 (flipP true (⟨(⟨p_xa, p_xb, p_xk⟩ : N3), (⟨p_ya, p_yb, p_yk⟩ : N3)⟩ : P2))).x (quartS 2 (flipP true (⟨(⟨p_xa, p_xb, p_xk⟩ : N3), (⟨p_ya, p_yb, p_yk⟩ : N3)⟩ : P2))).y) (cond (pkm (addF (quartS 2 (flipP true (⟨(⟨p_xa, p_xb, p_xk⟩ : N3), (⟨p_ya, p_yb, p_yk⟩ : N3)⟩ : P2))).x (quartS 2 (flipP true (⟨(⟨p_xa, p_xb, p_xk⟩ : N3), (⟨p_ya, p_yb, p_yk⟩ : N3)⟩ : P2))).y) hN) (some (rot45 (quartS 2 (flipP true (⟨(⟨p_xa, p_xb, p_xk⟩ : N3), (⟨p_ya, p_yb, p_yk⟩ : N3)⟩ : P2)))).av) none) none) none) none from by kernel_rfl).trans ?_
      obtain ⟨c1, c2, c3⟩ := quartS_ok (flip_ok hq true) 2
      rw [c1, c2, c3]
      exact congrArg (fun z : P2 => some z.av) ((turnS (flip_ok hq true) 5 2).2 rfl)
    · refine (show _ = some ((quartS 3 (flipP true (⟨(⟨p_xa, p_xb, p_xk⟩ : N3), (⟨p_ya, p_yb, p_yk⟩ : N3)⟩ : P2)))).av from by kernel_rfl).trans ?_
      exact congrArg (fun z : P2 => some z.av) ((turnS (flip_ok hq true) 6 3).1 rfl)
    · refine (show _ = cond (pk (quartS 3 (flipP true (⟨(⟨p_xa, p_xb, p_xk⟩ : N3), (⟨p_ya, p_yb, p_yk⟩ : N3)⟩ : P2))).x (quartS 3 (flipP true (⟨(⟨p_xa, p_xb, p_xk⟩ : N3), (⟨p_ya, p_yb, p_yk⟩ : N3)⟩ : P2))).y) (cond (pkm (subF (quartS 3 (flipP true (⟨(⟨p_xa, p_xb, p_xk⟩ : N3), (⟨p_ya, p_yb, p_yk⟩ : N3)⟩ : P2))).x (quartS 3 (flipP true (⟨(⟨p_xa, p_xb, p_xk⟩ : N3), (⟨p_ya, p_yb, p_yk⟩ : N3)⟩ : P2))).y) hN) (cond (pk (quartS 3 (flipP true (⟨(⟨p_xa, p_xb, p_xk⟩ : N3), (⟨p_ya, p_yb, p_yk⟩ : N3)⟩ : P2))).x (quartS 3 (flipP true (⟨(⟨p_xa, p_xb, p_xk⟩ : N3), (⟨p_ya, p_yb, p_yk⟩ : N3)⟩ : P2))).y) (cond (pkm (addF (quartS 3 (flipP true (⟨(⟨p_xa, p_xb, p_xk⟩ : N3), (⟨p_ya, p_yb, p_yk⟩ : N3)⟩ : P2))).x (quartS 3 (flipP true (⟨(⟨p_xa, p_xb, p_xk⟩ : N3), (⟨p_ya, p_yb, p_yk⟩ : N3)⟩ : P2))).y) hN) (some (rot45 (quartS 3 (flipP true (⟨(⟨p_xa, p_xb, p_xk⟩ : N3), (⟨p_ya, p_yb, p_yk⟩ : N3)⟩ : P2)))).av) none) none) none) none from by kernel_rfl).trans ?_
      obtain ⟨c1, c2, c3⟩ := quartS_ok (flip_ok hq true) 3
      rw [c1, c2, c3]
      exact congrArg (fun z : P2 => some z.av) ((turnS (flip_ok hq true) 7 3).2 rfl)
  | false =>
    simp only [Bool.and_eq_true, inB_iff] at hp
    obtain ⟨⟨h0, h7⟩, hq⟩ := hp
    have ho := okP_iff.1 hq
    obtain ⟨a1, a2, a3, _⟩ := turn_pre ho.1 ho.2
    simp only at a1 a2 a3
    have ht : t = 0 ∨ t = 1 ∨ t = 2 ∨ t = 3 ∨ t = 4 ∨ t = 5 ∨ t = 6 ∨ t = 7 := by omega
    clear h0 h7
    rcases ht with rfl | rfl | rfl | rfl | rfl | rfl | rfl | rfl
    · refine (show _ = some ((quartS 0 (flipP false (⟨(⟨p_xa, p_xb, p_xk⟩ : N3), (⟨p_ya, p_yb, p_yk⟩ : N3)⟩ : P2)))).av from by kernel_rfl).trans ?_
      exact congrArg (fun z : P2 => some z.av) ((turnS (flip_ok hq false) 0 0).1 rfl)
    · refine (show _ = cond (pk (quartS 0 (flipP false (⟨(⟨p_xa, p_xb, p_xk⟩ : N3), (⟨p_ya, p_yb, p_yk⟩ : N3)⟩ : P2))).x (quartS 0 (flipP false (⟨(⟨p_xa, p_xb, p_xk⟩ : N3), (⟨p_ya, p_yb, p_yk⟩ : N3)⟩ : P2))).y) (cond (pkm (subF (quartS 0 (flipP false (⟨(⟨p_xa, p_xb, p_xk⟩ : N3), (⟨p_ya, p_yb, p_yk⟩ : N3)⟩ : P2))).x (quartS 0 (flipP false (⟨(⟨p_xa, p_xb, p_xk⟩ : N3), (⟨p_ya, p_yb, p_yk⟩ : N3)⟩ : P2))).y) hN) (cond (pk (quartS 0 (flipP false (⟨(⟨p_xa, p_xb, p_xk⟩ : N3), (⟨p_ya, p_yb, p_yk⟩ : N3)⟩ : P2))).x (quartS 0 (flipP false (⟨(⟨p_xa, p_xb, p_xk⟩ : N3), (⟨p_ya, p_yb, p_yk⟩ : N3)⟩ : P2))).y) (cond (pkm (addF (quartS 0 (flipP false (⟨(⟨p_xa, p_xb, p_xk⟩ : N3), (⟨p_ya, p_yb, p_yk⟩ : N3)⟩ : P2))).x (quartS 0 (flipP false (⟨(⟨p_xa, p_xb, p_xk⟩ : N3), (⟨p_ya, p_yb, p_yk⟩ : N3)⟩ : P2))).y) hN) (some (rot45 (quartS 0 (flipP false (⟨(⟨p_xa, p_xb, p_xk⟩ : N3), (⟨p_ya, p_yb, p_yk⟩ : N3)⟩ : P2)))).av) none) none) none) none from by kernel_rfl).trans ?_
      obtain ⟨c1, c2, c3⟩ := quartS_ok (flip_ok hq false) 0
      rw [c1, c2, c3]
      exact congrArg (fun z : P2 => some z.av) ((turnS (flip_ok hq false) 1 0).2 rfl)
    · refine (show _ = some ((quartS 1 (flipP false (⟨(⟨p_xa, p_xb, p_xk⟩ : N3), (⟨p_ya, p_yb, p_yk⟩ : N3)⟩ : P2)))).av from by kernel_rfl).trans ?_
      exact congrArg (fun z : P2 => some z.av) ((turnS (flip_ok hq false) 2 1).1 rfl)
    · refine (show _ = cond (pk (quartS 1 (flipP false (⟨(⟨p_xa, p_xb, p_xk⟩ : N3), (⟨p_ya, p_yb, p_yk⟩ : N3)⟩ : P2))).x (quartS 1 (flipP false (⟨(⟨p_xa, p_xb, p_xk⟩ : N3), (⟨p_ya, p_yb, p_yk⟩ : N3)⟩ : P2))).y) (cond (pkm (subF (quartS 1 (flipP false (⟨(⟨p_xa, p_xb, p_xk⟩ : N3), (⟨p_ya, p_yb, p_yk⟩ : N3)⟩ : P2))).x (quartS 1 (flipP false (⟨(⟨p_xa, p_xb, p_xk⟩ : N3), (⟨p_ya, p_yb, p_yk⟩ : N3)⟩ : P2))).y) hN) (cond (pk (quartS 1 (flipP false (⟨(⟨p_xa, p_xb, p_xk⟩ : N3), (⟨p_ya, p_yb, p_yk⟩ : N3)⟩ : P2))).x (quartS 1 (flipP false (⟨(⟨p_xa, p_xb, p_xk⟩ : N3), (⟨p_ya, p_yb, p_yk⟩ : N3)⟩ : P2))).y) (cond (pkm (addF (quartS 1 (flipP false (⟨(⟨p_xa, p_xb, p_xk⟩ : N3), (⟨p_ya, p_yb, p_yk⟩ : N3)⟩ : P2))).x (quartS 1 (flipP false (⟨(⟨p_xa, p_xb, p_xk⟩ : N3), (⟨p_ya, p_yb, p_yk⟩ : N3)⟩ : P2))).y) hN) (some (rot45 (quartS 1 (flipP false (⟨(⟨p_xa, p_xb, p_xk⟩ : N3), (⟨p_ya, p_yb, p_yk⟩ : N3)⟩ : P2)))).av) none) none) none) none from by kernel_rfl).trans ?_
      obtain ⟨c1, c2, c3⟩ := quartS_ok (flip_ok hq false) 1
      rw [c1, c2, c3]
      exact congrArg (fun z : P2 => some z.av) ((turnS (flip_ok hq false) 3 1).2 rfl)
    · refine (show _ = some ((quartS 2 (flipP false (⟨(⟨p_xa, p_xb, p_xk⟩ : N3), (⟨p_ya, p_yb, p_yk⟩ : N3)⟩ : P2)))).av from by kernel_rfl).trans ?_
      exact congrArg (fun z : P2 => some z.av) ((turnS (flip_ok hq false) 4 2).1 rfl)
    · refine (show _ = cond (pk (quartS 2 (flipP false (⟨(⟨p_xa, p_xb, p_xk⟩ : N3), (⟨p_ya, p_yb, p_yk⟩ : N3)⟩ : P2))).x (quartS 2 (flipP false (⟨(⟨p_xa, p_xb, p_xk⟩ : N3), (⟨p_ya, p_yb, p_yk⟩ : N3)⟩ : P2))).y) (cond (pkm (subF (quartS 2 (flipP false (⟨(⟨p_xa, p_xb, p_xk⟩ : N3), (⟨p_ya, p_yb, p_yk⟩ : N3)⟩ : P2))).x (quartS 2 (flipP false (⟨(⟨p_xa, p_xb, p_xk⟩ : N3), (⟨p_ya, p_yb, p_yk⟩ : N3)⟩ : P2))).y) hN) (cond (pk (quartS 2 (flipP false (⟨(⟨p_xa, p_xb, p_xk⟩ : N3), (⟨p_ya, p_yb, p_yk⟩ : N3)⟩ : P2))).x (quartS 2 (flipP false (⟨(⟨p_xa, p_xb, p_xk⟩ : N3), (⟨p_ya, p_yb, p_yk⟩ : N3)⟩ : P2))).y) (cond (pkm (addF (quartS 2 (flipP false (⟨(⟨p_xa, p_xb, p_xk⟩ : N3), (⟨p_ya, p_yb, p_yk⟩ : N3)⟩ : P2))).x (quartS 2 (flipP false (⟨(⟨p_xa, p_xb, p_xk⟩ : N3), (⟨p_ya, p_yb, p_yk⟩ : N3)⟩ : P2))).y) hN) (some (rot45 (quartS 2 (flipP false (⟨(⟨p_xa, p_xb, p_xk⟩ : N3), (⟨p_ya, p_yb, p_yk⟩ : N3)⟩ : P2)))).av) none) none) none) none from by kernel_rfl).trans ?_
      obtain ⟨c1, c2, c3⟩ := quartS_ok (flip_ok hq false) 2
      rw [c1, c2, c3]
      exact congrArg (fun z : P2 => some z.av) ((turnS (flip_ok hq false) 5 2).2 rfl)
    · refine (show _ = some ((quartS 3 (flipP false (⟨(⟨p_xa, p_xb, p_xk⟩ : N3), (⟨p_ya, p_yb, p_yk⟩ : N3)⟩ : P2)))).av from by kernel_rfl).trans ?_
      exact congrArg (fun z : P2 => some z.av) ((turnS (flip_ok hq false) 6 3).1 rfl)
    · refine (show _ = cond (pk (quartS 3 (flipP false (⟨(⟨p_xa, p_xb, p_xk⟩ : N3), (⟨p_ya, p_yb, p_yk⟩ : N3)⟩ : P2))).x (quartS 3 (flipP false (⟨(⟨p_xa, p_xb, p_xk⟩ : N3), (⟨p_ya, p_yb, p_yk⟩ : N3)⟩ : P2))).y) (cond (pkm (subF (quartS 3 (flipP false (⟨(⟨p_xa, p_xb, p_xk⟩ : N3), (⟨p_ya, p_yb, p_yk⟩ : N3)⟩ : P2))).x (quartS 3 (flipP false (⟨(⟨p_xa, p_xb, p_xk⟩ : N3), (⟨p_ya, p_yb, p_yk⟩ : N3)⟩ : P2))).y) hN) (cond (pk (quartS 3 (flipP false (⟨(⟨p_xa, p_xb, p_xk⟩ : N3), (⟨p_ya, p_yb, p_yk⟩ : N3)⟩ : P2))).x (quartS 3 (flipP false (⟨(⟨p_xa, p_xb, p_xk⟩ : N3), (⟨p_ya, p_yb, p_yk⟩ : N3)⟩ : P2))).y) (cond (pkm (addF (quartS 3 (flipP false (⟨(⟨p_xa, p_xb, p_xk⟩ : N3), (⟨p_ya, p_yb, p_yk⟩ : N3)⟩ : P2))).x (quartS 3 (flipP false (⟨(⟨p_xa, p_xb, p_xk⟩ : N3), (⟨p_ya, p_yb, p_yk⟩ : N3)⟩ : P2))).y) hN) (some (rot45 (quartS 3 (flipP false (⟨(⟨p_xa, p_xb, p_xk⟩ : N3), (⟨p_ya, p_yb, p_yk⟩ : N3)⟩ : P2)))).av) none) none) none) none from by kernel_rfl).trans ?_
      obtain ⟨c1, c2, c3⟩ := quartS_ok (flip_ok hq false) 3
      rw [c1, c2, c3]
      exact congrArg (fun z : P2 => some z.av) ((turnS (flip_ok hq false) 7 3).2 rfl)
theorem m88 : Meets Try.prog GL0 88 s88 := by
  refine meetsN mix0 gl0 G48 Try.func88 (by kernel_rfl) (by kernel_rfl) s88 fun args x h => ?_
  unfold s88 at h
  split at h
  · rename_i t f p_xa p_xb p_xk p_ya p_yb p_yk
    simp only [Option.some.injEq, Prod.mk.injEq] at h
    obtain ⟨hp, rfl⟩ := h
    exact ⟨_, _, by kernel_rfl, e88 t f p_xa p_xb p_xk p_ya p_yb p_yk hp⟩
  · cases h
abbrev Γ49 : List (Nat × Ctr) := (88, s88) :: Γ48
theorem G49 : Sound Try.prog GL0 Γ49 := G48.cons m88

-- (impl.Motion).linear
def s89 : Ctr := fun
  | [.agg [.val (.int .i64 m_t), .val (.bool m_f), .val (.int .i64 m_xa), .val (.int .i64 m_xb), .val (.int .i64 m_xk), .val (.int .i64 m_ya), .val (.int .i64 m_yb), .val (.int .i64 m_yk)], .agg [.val (.int .i64 p_xa), .val (.int .i64 p_xb), .val (.int .i64 p_xk), .val (.int .i64 p_ya), .val (.int .i64 p_yb), .val (.int .i64 p_yk)]] => some (inB m_t 0 7 && okP (⟨(⟨p_xa, p_xb, p_xk⟩ : N3), (⟨p_ya, p_yb, p_yk⟩ : N3)⟩ : P2), (turnF m_t (flipP m_f (⟨(⟨p_xa, p_xb, p_xk⟩ : N3), (⟨p_ya, p_yb, p_yk⟩ : N3)⟩ : P2))).av)
  | _ => none

theorem e89 (m_t : Int) (m_f : Bool) (m_xa : Int) (m_xb : Int) (m_xk : Int) (m_ya : Int) (m_yb : Int) (m_yk : Int) (p_xa : Int) (p_xb : Int) (p_xk : Int) (p_ya : Int) (p_yb : Int) (p_yk : Int) (hp : (inB m_t 0 7 && okP (⟨(⟨p_xa, p_xb, p_xk⟩ : N3), (⟨p_ya, p_yb, p_yk⟩ : N3)⟩ : P2)) = true) : evN Try.prog GL0 Γ49 (0) [] Try.f89 [.agg [.val (.int .i64 m_t), .val (.bool m_f), .val (.int .i64 m_xa), .val (.int .i64 m_xb), .val (.int .i64 m_xk), .val (.int .i64 m_ya), .val (.int .i64 m_yb), .val (.int .i64 m_yk)], .agg [.val (.int .i64 p_xa), .val (.int .i64 p_xb), .val (.int .i64 p_xk), .val (.int .i64 p_ya), .val (.int .i64 p_yb), .val (.int .i64 p_yk)]] = some ((turnF m_t (flipP m_f (⟨(⟨p_xa, p_xb, p_xk⟩ : N3), (⟨p_ya, p_yb, p_yk⟩ : N3)⟩ : P2))).av) := by
  have hq := (Bool.and_eq_true _ _ ▸ hp)
  have h1 : (inB m_t 0 7 && okP (flipP m_f (⟨(⟨p_xa, p_xb, p_xk⟩ : N3), (⟨p_ya, p_yb, p_yk⟩ : N3)⟩ : P2))) = true := by rw [hq.1, flip_ok hq.2 m_f]; rfl
  cases m_f with
  | true =>
    refine (show _ = cond (inB m_t 0 7 && okP (flipP true (⟨(⟨p_xa, p_xb, p_xk⟩ : N3), (⟨p_ya, p_yb, p_yk⟩ : N3)⟩ : P2))) (some (turnF m_t (flipP true (⟨(⟨p_xa, p_xb, p_xk⟩ : N3), (⟨p_ya, p_yb, p_yk⟩ : N3)⟩ : P2))).av) none from by kernel_rfl).trans ?_
    rw [h1]
    rfl
  | false =>
    refine (show _ = cond (inB m_t 0 7 && okP (flipP false (⟨(⟨p_xa, p_xb, p_xk⟩ : N3), (⟨p_ya, p_yb, p_yk⟩ : N3)⟩ : P2))) (some (turnF m_t (flipP false (⟨(⟨p_xa, p_xb, p_xk⟩ : N3), (⟨p_ya, p_yb, p_yk⟩ : N3)⟩ : P2))).av) none from by kernel_rfl).trans ?_
    rw [h1]
    rfl
theorem m89 : Meets Try.prog GL0 89 s89 := by
  refine meetsN mix0 gl0 G49 Try.func89 (by kernel_rfl) (by kernel_rfl) s89 fun args x h => ?_
  unfold s89 at h
  split at h
  · rename_i m_t m_f m_xa m_xb m_xk m_ya m_yb m_yk p_xa p_xb p_xk p_ya p_yb p_yk
    simp only [Option.some.injEq, Prod.mk.injEq] at h
    obtain ⟨hp, rfl⟩ := h
    exact ⟨_, _, by kernel_rfl, e89 m_t m_f m_xa m_xb m_xk m_ya m_yb m_yk p_xa p_xb p_xk p_ya p_yb p_yk hp⟩
  · cases h
abbrev Γ50 : List (Nat × Ctr) := (89, s89) :: Γ49
theorem G50 : Sound Try.prog GL0 Γ50 := G49.cons m89

-- (impl.Motion).shift
def s90 : Ctr := fun
  | [.agg [.val (.int .i64 m_t), .val (.bool m_f), .val (.int .i64 m_xa), .val (.int .i64 m_xb), .val (.int .i64 m_xk), .val (.int .i64 m_ya), .val (.int .i64 m_yb), .val (.int .i64 m_yk)]] => some (true, (⟨⟨m_xa, m_xb, m_xk⟩, ⟨m_ya, m_yb, m_yk⟩⟩ : P2).av)
  | _ => none

theorem e90 (m_t : Int) (m_f : Bool) (m_xa : Int) (m_xb : Int) (m_xk : Int) (m_ya : Int) (m_yb : Int) (m_yk : Int) : evN Try.prog GL0 Γ50 (0) [] Try.f90 [.agg [.val (.int .i64 m_t), .val (.bool m_f), .val (.int .i64 m_xa), .val (.int .i64 m_xb), .val (.int .i64 m_xk), .val (.int .i64 m_ya), .val (.int .i64 m_yb), .val (.int .i64 m_yk)]] = some ((⟨⟨m_xa, m_xb, m_xk⟩, ⟨m_ya, m_yb, m_yk⟩⟩ : P2).av) := by
  kernel_rfl
theorem m90 : Meets Try.prog GL0 90 s90 := by
  refine meetsN mix0 gl0 G50 Try.func90 (by kernel_rfl) (by kernel_rfl) s90 fun args x h => ?_
  unfold s90 at h
  split at h
  · rename_i m_t m_f m_xa m_xb m_xk m_ya m_yb m_yk
    simp only [Option.some.injEq, Prod.mk.injEq] at h
    obtain ⟨hp, rfl⟩ := h
    exact ⟨_, _, by kernel_rfl, e90 m_t m_f m_xa m_xb m_xk m_ya m_yb m_yk⟩
  · cases h
abbrev Γ51 : List (Nat × Ctr) := (90, s90) :: Γ50
theorem G51 : Sound Try.prog GL0 Γ51 := G50.cons m90

-- spec.l04Of
def s65 : Ctr := fun
  | [.agg [.val (.int .i64 m_t), .val (.bool m_f), .val (.int .i64 m_xa), .val (.int .i64 m_xb), .val (.int .i64 m_xk), .val (.int .i64 m_ya), .val (.int .i64 m_yb), .val (.int .i64 m_yk)]] => some (true, .agg [.val (.int .i64 m_t), .val (.bool m_f), .val (.int .i64 m_xa), .val (.int .i64 m_xb), .val (.int .i64 m_xk), .val (.int .i64 m_ya), .val (.int .i64 m_yb), .val (.int .i64 m_yk)])
  | _ => none

theorem e65 (m_t : Int) (m_f : Bool) (m_xa : Int) (m_xb : Int) (m_xk : Int) (m_ya : Int) (m_yb : Int) (m_yk : Int) : evN Try.prog GL0 Γ51 (0) [] Try.f65 [.agg [.val (.int .i64 m_t), .val (.bool m_f), .val (.int .i64 m_xa), .val (.int .i64 m_xb), .val (.int .i64 m_xk), .val (.int .i64 m_ya), .val (.int .i64 m_yb), .val (.int .i64 m_yk)]] = some (.agg [.val (.int .i64 m_t), .val (.bool m_f), .val (.int .i64 m_xa), .val (.int .i64 m_xb), .val (.int .i64 m_xk), .val (.int .i64 m_ya), .val (.int .i64 m_yb), .val (.int .i64 m_yk)]) := by
  kernel_rfl
theorem m65 : Meets Try.prog GL0 65 s65 := by
  refine meetsN mix0 gl0 G51 Try.func65 (by kernel_rfl) (by kernel_rfl) s65 fun args x h => ?_
  unfold s65 at h
  split at h
  · rename_i m_t m_f m_xa m_xb m_xk m_ya m_yb m_yk
    simp only [Option.some.injEq, Prod.mk.injEq] at h
    obtain ⟨hp, rfl⟩ := h
    exact ⟨_, _, by kernel_rfl, e65 m_t m_f m_xa m_xb m_xk m_ya m_yb m_yk⟩
  · cases h
abbrev Γ52 : List (Nat × Ctr) := (65, s65) :: Γ51
theorem G52 : Sound Try.prog GL0 Γ52 := G51.cons m65

-- laws.toMotion
def s31 : Ctr := fun
  | [.agg [.val (.int .i64 m_t), .val (.bool m_f), .val (.int .i64 m_xa), .val (.int .i64 m_xb), .val (.int .i64 m_xk), .val (.int .i64 m_ya), .val (.int .i64 m_yb), .val (.int .i64 m_yk)]] => some (true, .agg [.val (.int .i64 m_t), .val (.bool m_f), .val (.int .i64 m_xa), .val (.int .i64 m_xb), .val (.int .i64 m_xk), .val (.int .i64 m_ya), .val (.int .i64 m_yb), .val (.int .i64 m_yk)])
  | _ => none

theorem e31 (m_t : Int) (m_f : Bool) (m_xa : Int) (m_xb : Int) (m_xk : Int) (m_ya : Int) (m_yb : Int) (m_yk : Int) : evN Try.prog GL0 Γ52 (0) [] Try.f31 [.agg [.val (.int .i64 m_t), .val (.bool m_f), .val (.int .i64 m_xa), .val (.int .i64 m_xb), .val (.int .i64 m_xk), .val (.int .i64 m_ya), .val (.int .i64 m_yb), .val (.int .i64 m_yk)]] = some (.agg [.val (.int .i64 m_t), .val (.bool m_f), .val (.int .i64 m_xa), .val (.int .i64 m_xb), .val (.int .i64 m_xk), .val (.int .i64 m_ya), .val (.int .i64 m_yb), .val (.int .i64 m_yk)]) := by
  kernel_rfl
theorem m31 : Meets Try.prog GL0 31 s31 := by
  refine meetsN mix0 gl0 G52 Try.func31 (by kernel_rfl) (by kernel_rfl) s31 fun args x h => ?_
  unfold s31 at h
  split at h
  · rename_i m_t m_f m_xa m_xb m_xk m_ya m_yb m_yk
    simp only [Option.some.injEq, Prod.mk.injEq] at h
    obtain ⟨hp, rfl⟩ := h
    exact ⟨_, _, by kernel_rfl, e31 m_t m_f m_xa m_xb m_xk m_ya m_yb m_yk⟩
  · cases h
abbrev Γ53 : List (Nat × Ctr) := (31, s31) :: Γ52
theorem G53 : Sound Try.prog GL0 Γ53 := G52.cons m31

-- (impl.Motion).move
def s68 : Ctr := fun
  | [.agg [.val (.int .i64 m_t), .val (.bool m_f), .val (.int .i64 m_xa), .val (.int .i64 m_xb), .val (.int .i64 m_xk), .val (.int .i64 m_ya), .val (.int .i64 m_yb), .val (.int .i64 m_yk)], .agg [.val (.int .i64 p_xa), .val (.int .i64 p_xb), .val (.int .i64 p_xk), .val (.int .i64 p_ya), .val (.int .i64 p_yb), .val (.int .i64 p_yk)]] => some (okM m_t (⟨(⟨p_xa, p_xb, p_xk⟩ : N3), (⟨p_ya, p_yb, p_yk⟩ : N3)⟩ : P2) (⟨⟨m_xa, m_xb, m_xk⟩, ⟨m_ya, m_yb, m_yk⟩⟩ : P2), (moveF m_t m_f (⟨⟨m_xa, m_xb, m_xk⟩, ⟨m_ya, m_yb, m_yk⟩⟩ : P2) (⟨(⟨p_xa, p_xb, p_xk⟩ : N3), (⟨p_ya, p_yb, p_yk⟩ : N3)⟩ : P2)).av)
  | _ => none

theorem e68 (m_t : Int) (m_f : Bool) (m_xa : Int) (m_xb : Int) (m_xk : Int) (m_ya : Int) (m_yb : Int) (m_yk : Int) (p_xa : Int) (p_xb : Int) (p_xk : Int) (p_ya : Int) (p_yb : Int) (p_yk : Int) (hp : (okM m_t (⟨(⟨p_xa, p_xb, p_xk⟩ : N3), (⟨p_ya, p_yb, p_yk⟩ : N3)⟩ : P2) (⟨⟨m_xa, m_xb, m_xk⟩, ⟨m_ya, m_yb, m_yk⟩⟩ : P2)) = true) : evN Try.prog GL0 Γ53 (0) [] Try.f68 [.agg [.val (.int .i64 m_t), .val (.bool m_f), .val (.int .i64 m_xa), .val (.int .i64 m_xb), .val (.int .i64 m_xk), .val (.int .i64 m_ya), .val (.int .i64 m_yb), .val (.int .i64 m_yk)], .agg [.val (.int .i64 p_xa), .val (.int .i64 p_xb), .val (.int .i64 p_xk), .val (.int .i64 p_ya), .val (.int .i64 p_yb), .val (.int .i64 p_yk)]] = some ((moveF m_t m_f (⟨⟨m_xa, m_xb, m_xk⟩, ⟨m_ya, m_yb, m_yk⟩⟩ : P2) (⟨(⟨p_xa, p_xb, p_xk⟩ : N3), (⟨p_ya, p_yb, p_yk⟩ : N3)⟩ : P2)).av) := by
  unfold okM at hp
  simp only [Bool.and_eq_true] at hp
  obtain ⟨h1, h2, h3⟩ := hp
  obtain ⟨k1, k2, k3, _⟩ := turn_pk (flip_ok h2 m_f) h3 m_t
  refine (show _ = cond (inB m_t 0 7 && okP (⟨(⟨p_xa, p_xb, p_xk⟩ : N3), (⟨p_ya, p_yb, p_yk⟩ : N3)⟩ : P2)) (cond (pkP (turnF m_t (flipP m_f (⟨(⟨p_xa, p_xb, p_xk⟩ : N3), (⟨p_ya, p_yb, p_yk⟩ : N3)⟩ : P2))) (⟨⟨m_xa, m_xb, m_xk⟩, ⟨m_ya, m_yb, m_yk⟩⟩ : P2)) (some (moveF m_t m_f (⟨⟨m_xa, m_xb, m_xk⟩, ⟨m_ya, m_yb, m_yk⟩⟩ : P2) (⟨(⟨p_xa, p_xb, p_xk⟩ : N3), (⟨p_ya, p_yb, p_yk⟩ : N3)⟩ : P2)).av) none) none from by kernel_rfl).trans ?_
  rw [h1, h2, k3]
  rfl
theorem m68 : Meets Try.prog GL0 68 s68 := by
  refine meetsN mix0 gl0 G53 Try.func68 (by kernel_rfl) (by kernel_rfl) s68 fun args x h => ?_
  unfold s68 at h
  split at h
  · rename_i m_t m_f m_xa m_xb m_xk m_ya m_yb m_yk p_xa p_xb p_xk p_ya p_yb p_yk
    simp only [Option.some.injEq, Prod.mk.injEq] at h
    obtain ⟨hp, rfl⟩ := h
    exact ⟨_, _, by kernel_rfl, e68 m_t m_f m_xa m_xb m_xk m_ya m_yb m_yk p_xa p_xb p_xk p_ya p_yb p_yk hp⟩
  · cases h
abbrev Γ54 : List (Nat × Ctr) := (68, s68) :: Γ53
theorem G54 : Sound Try.prog GL0 Γ54 := G53.cons m68

-- spec.l04Move
def s64 : Ctr := fun
  | [.agg [.val (.int .i64 m_t), .val (.bool m_f), .val (.int .i64 m_xa), .val (.int .i64 m_xb), .val (.int .i64 m_xk), .val (.int .i64 m_ya), .val (.int .i64 m_yb), .val (.int .i64 m_yk)], .agg [.val (.int .i64 p_xa), .val (.int .i64 p_xb), .val (.int .i64 p_xk), .val (.int .i64 p_ya), .val (.int .i64 p_yb), .val (.int .i64 p_yk)]] => some (okM m_t (⟨(⟨p_xa, p_xb, p_xk⟩ : N3), (⟨p_ya, p_yb, p_yk⟩ : N3)⟩ : P2) (⟨⟨m_xa, m_xb, m_xk⟩, ⟨m_ya, m_yb, m_yk⟩⟩ : P2), (moveF m_t m_f (⟨⟨m_xa, m_xb, m_xk⟩, ⟨m_ya, m_yb, m_yk⟩⟩ : P2) (⟨(⟨p_xa, p_xb, p_xk⟩ : N3), (⟨p_ya, p_yb, p_yk⟩ : N3)⟩ : P2)).av)
  | _ => none

theorem e64 (m_t : Int) (m_f : Bool) (m_xa : Int) (m_xb : Int) (m_xk : Int) (m_ya : Int) (m_yb : Int) (m_yk : Int) (p_xa : Int) (p_xb : Int) (p_xk : Int) (p_ya : Int) (p_yb : Int) (p_yk : Int) (hp : (okM m_t (⟨(⟨p_xa, p_xb, p_xk⟩ : N3), (⟨p_ya, p_yb, p_yk⟩ : N3)⟩ : P2) (⟨⟨m_xa, m_xb, m_xk⟩, ⟨m_ya, m_yb, m_yk⟩⟩ : P2)) = true) : evN Try.prog GL0 Γ54 (0) [] Try.f64 [.agg [.val (.int .i64 m_t), .val (.bool m_f), .val (.int .i64 m_xa), .val (.int .i64 m_xb), .val (.int .i64 m_xk), .val (.int .i64 m_ya), .val (.int .i64 m_yb), .val (.int .i64 m_yk)], .agg [.val (.int .i64 p_xa), .val (.int .i64 p_xb), .val (.int .i64 p_xk), .val (.int .i64 p_ya), .val (.int .i64 p_yb), .val (.int .i64 p_yk)]] = some ((moveF m_t m_f (⟨⟨m_xa, m_xb, m_xk⟩, ⟨m_ya, m_yb, m_yk⟩⟩ : P2) (⟨(⟨p_xa, p_xb, p_xk⟩ : N3), (⟨p_ya, p_yb, p_yk⟩ : N3)⟩ : P2)).av) := by
  unfold okM at hp
  simp only [Bool.and_eq_true] at hp
  obtain ⟨h1, h2, h3⟩ := hp
  obtain ⟨k1, k2, k3, _⟩ := turn_pk (flip_ok h2 m_f) h3 m_t
  refine (show _ = cond (inB m_t 0 7 && okP (⟨(⟨p_xa, p_xb, p_xk⟩ : N3), (⟨p_ya, p_yb, p_yk⟩ : N3)⟩ : P2)) (cond (pkP (turnF m_t (flipP m_f (⟨(⟨p_xa, p_xb, p_xk⟩ : N3), (⟨p_ya, p_yb, p_yk⟩ : N3)⟩ : P2))) (⟨⟨m_xa, m_xb, m_xk⟩, ⟨m_ya, m_yb, m_yk⟩⟩ : P2)) (some (moveF m_t m_f (⟨⟨m_xa, m_xb, m_xk⟩, ⟨m_ya, m_yb, m_yk⟩⟩ : P2) (⟨(⟨p_xa, p_xb, p_xk⟩ : N3), (⟨p_ya, p_yb, p_yk⟩ : N3)⟩ : P2)).av) none) none from by kernel_rfl).trans ?_
  rw [h1, h2, k3]
  rfl
theorem m64 : Meets Try.prog GL0 64 s64 := by
  refine meetsN mix0 gl0 G54 Try.func64 (by kernel_rfl) (by kernel_rfl) s64 fun args x h => ?_
  unfold s64 at h
  split at h
  · rename_i m_t m_f m_xa m_xb m_xk m_ya m_yb m_yk p_xa p_xb p_xk p_ya p_yb p_yk
    simp only [Option.some.injEq, Prod.mk.injEq] at h
    obtain ⟨hp, rfl⟩ := h
    exact ⟨_, _, by kernel_rfl, e64 m_t m_f m_xa m_xb m_xk m_ya m_yb m_yk p_xa p_xb p_xk p_ya p_yb p_yk hp⟩
  · cases h
abbrev Γ55 : List (Nat × Ctr) := (64, s64) :: Γ54
theorem G55 : Sound Try.prog GL0 Γ55 := G54.cons m64

-- impl.ValidMotion
def s67 : Ctr := fun
  | [.agg [.val (.int .i64 m_t), .val (.bool m_f), .val (.int .i64 m_xa), .val (.int .i64 m_xb), .val (.int .i64 m_xk), .val (.int .i64 m_ya), .val (.int .i64 m_yb), .val (.int .i64 m_yk)]] => some (true, bv (inB m_t 0 7 && valP (⟨⟨m_xa, m_xb, m_xk⟩, ⟨m_ya, m_yb, m_yk⟩⟩ : P2)))
  | _ => none

theorem e67 (m_t : Int) (m_f : Bool) (m_xa : Int) (m_xb : Int) (m_xk : Int) (m_ya : Int) (m_yb : Int) (m_yk : Int) : evN Try.prog GL0 Γ55 (0) [] Try.f67 [.agg [.val (.int .i64 m_t), .val (.bool m_f), .val (.int .i64 m_xa), .val (.int .i64 m_xb), .val (.int .i64 m_xk), .val (.int .i64 m_ya), .val (.int .i64 m_yb), .val (.int .i64 m_yk)]] = some (bv (inB m_t 0 7 && valP (⟨⟨m_xa, m_xb, m_xk⟩, ⟨m_ya, m_yb, m_yk⟩⟩ : P2))) := by
  refine (show _ = cond (inB m_t 0 7) ( cond (validB (N3.mk m_xa m_xb m_xk)) ( some (bv (validB (N3.mk m_ya m_yb m_yk))) ) ( some (bv (false)) ) ) ( some (bv (false)) ) from by kernel_rfl).trans ?_
  simp only [valP]
  cases inB m_t 0 7 <;> cases validB (⟨⟨m_xa, m_xb, m_xk⟩, ⟨m_ya, m_yb, m_yk⟩⟩ : P2).x <;> rfl
theorem m67 : Meets Try.prog GL0 67 s67 := by
  refine meetsN mix0 gl0 G55 Try.func67 (by kernel_rfl) (by kernel_rfl) s67 fun args x h => ?_
  unfold s67 at h
  split at h
  · rename_i m_t m_f m_xa m_xb m_xk m_ya m_yb m_yk
    simp only [Option.some.injEq, Prod.mk.injEq] at h
    obtain ⟨hp, rfl⟩ := h
    exact ⟨_, _, by kernel_rfl, e67 m_t m_f m_xa m_xb m_xk m_ya m_yb m_yk⟩
  · cases h
abbrev Γ56 : List (Nat × Ctr) := (67, s67) :: Γ55
theorem G56 : Sound Try.prog GL0 Γ56 := G55.cons m67

-- spec.l04Ok
def s63 : Ctr := fun
  | [.agg [.val (.int .i64 m_t), .val (.bool m_f), .val (.int .i64 m_xa), .val (.int .i64 m_xb), .val (.int .i64 m_xk), .val (.int .i64 m_ya), .val (.int .i64 m_yb), .val (.int .i64 m_yk)]] => some (true, bv (inB m_t 0 7 && valP (⟨⟨m_xa, m_xb, m_xk⟩, ⟨m_ya, m_yb, m_yk⟩⟩ : P2)))
  | _ => none

theorem e63 (m_t : Int) (m_f : Bool) (m_xa : Int) (m_xb : Int) (m_xk : Int) (m_ya : Int) (m_yb : Int) (m_yk : Int) : evN Try.prog GL0 Γ56 (0) [] Try.f63 [.agg [.val (.int .i64 m_t), .val (.bool m_f), .val (.int .i64 m_xa), .val (.int .i64 m_xb), .val (.int .i64 m_xk), .val (.int .i64 m_ya), .val (.int .i64 m_yb), .val (.int .i64 m_yk)]] = some (bv (inB m_t 0 7 && valP (⟨⟨m_xa, m_xb, m_xk⟩, ⟨m_ya, m_yb, m_yk⟩⟩ : P2))) := by
  refine (show _ = cond (inB m_t 0 7) ( cond (validB (N3.mk m_xa m_xb m_xk)) ( some (bv (validB (N3.mk m_ya m_yb m_yk))) ) ( some (bv (false)) ) ) ( some (bv (false)) ) from by kernel_rfl).trans ?_
  simp only [valP]
  cases inB m_t 0 7 <;> cases validB (⟨⟨m_xa, m_xb, m_xk⟩, ⟨m_ya, m_yb, m_yk⟩⟩ : P2).x <;> rfl
theorem m63 : Meets Try.prog GL0 63 s63 := by
  refine meetsN mix0 gl0 G56 Try.func63 (by kernel_rfl) (by kernel_rfl) s63 fun args x h => ?_
  unfold s63 at h
  split at h
  · rename_i m_t m_f m_xa m_xb m_xk m_ya m_yb m_yk
    simp only [Option.some.injEq, Prod.mk.injEq] at h
    obtain ⟨hp, rfl⟩ := h
    exact ⟨_, _, by kernel_rfl, e63 m_t m_f m_xa m_xb m_xk m_ya m_yb m_yk⟩
  · cases h
abbrev Γ57 : List (Nat × Ctr) := (63, s63) :: Γ56
theorem G57 : Sound Try.prog GL0 Γ57 := G56.cons m63

-- impl.MovePoint
def s32 : Ctr := fun
  | [.agg [.val (.int .i64 m_t), .val (.bool m_f), .val (.int .i64 m_xa), .val (.int .i64 m_xb), .val (.int .i64 m_xk), .val (.int .i64 m_ya), .val (.int .i64 m_yb), .val (.int .i64 m_yk)], .agg [.val (.int .i64 p_xa), .val (.int .i64 p_xb), .val (.int .i64 p_xk), .val (.int .i64 p_ya), .val (.int .i64 p_yb), .val (.int .i64 p_yk)]] => some (true, rP (((inB m_t 0 7 && valP (⟨⟨m_xa, m_xb, m_xk⟩, ⟨m_ya, m_yb, m_yk⟩⟩ : P2)) && valP (⟨(⟨p_xa, p_xb, p_xk⟩ : N3), (⟨p_ya, p_yb, p_yk⟩ : N3)⟩ : P2)) && valP (redP (moveF m_t m_f (⟨⟨m_xa, m_xb, m_xk⟩, ⟨m_ya, m_yb, m_yk⟩⟩ : P2) (⟨(⟨p_xa, p_xb, p_xk⟩ : N3), (⟨p_ya, p_yb, p_yk⟩ : N3)⟩ : P2)))) (redP (moveF m_t m_f (⟨⟨m_xa, m_xb, m_xk⟩, ⟨m_ya, m_yb, m_yk⟩⟩ : P2) (⟨(⟨p_xa, p_xb, p_xk⟩ : N3), (⟨p_ya, p_yb, p_yk⟩ : N3)⟩ : P2))))
  | _ => none

theorem e32 (m_t : Int) (m_f : Bool) (m_xa : Int) (m_xb : Int) (m_xk : Int) (m_ya : Int) (m_yb : Int) (m_yk : Int) (p_xa : Int) (p_xb : Int) (p_xk : Int) (p_ya : Int) (p_yb : Int) (p_yk : Int) : evN Try.prog GL0 Γ57 (0) [] Try.f32 [.agg [.val (.int .i64 m_t), .val (.bool m_f), .val (.int .i64 m_xa), .val (.int .i64 m_xb), .val (.int .i64 m_xk), .val (.int .i64 m_ya), .val (.int .i64 m_yb), .val (.int .i64 m_yk)], .agg [.val (.int .i64 p_xa), .val (.int .i64 p_xb), .val (.int .i64 p_xk), .val (.int .i64 p_ya), .val (.int .i64 p_yb), .val (.int .i64 p_yk)]] = some (rP (((inB m_t 0 7 && valP (⟨⟨m_xa, m_xb, m_xk⟩, ⟨m_ya, m_yb, m_yk⟩⟩ : P2)) && valP (⟨(⟨p_xa, p_xb, p_xk⟩ : N3), (⟨p_ya, p_yb, p_yk⟩ : N3)⟩ : P2)) && valP (redP (moveF m_t m_f (⟨⟨m_xa, m_xb, m_xk⟩, ⟨m_ya, m_yb, m_yk⟩⟩ : P2) (⟨(⟨p_xa, p_xb, p_xk⟩ : N3), (⟨p_ya, p_yb, p_yk⟩ : N3)⟩ : P2)))) (redP (moveF m_t m_f (⟨⟨m_xa, m_xb, m_xk⟩, ⟨m_ya, m_yb, m_yk⟩⟩ : P2) (⟨(⟨p_xa, p_xb, p_xk⟩ : N3), (⟨p_ya, p_yb, p_yk⟩ : N3)⟩ : P2)))) := by
  refine (show _ = cond (!(inB m_t 0 7 && valP (⟨⟨m_xa, m_xb, m_xk⟩, ⟨m_ya, m_yb, m_yk⟩⟩ : P2))) (some (rP false (⟨(⟨p_xa, p_xb, p_xk⟩ : N3), (⟨p_ya, p_yb, p_yk⟩ : N3)⟩ : P2))) (cond (!valP (⟨(⟨p_xa, p_xb, p_xk⟩ : N3), (⟨p_ya, p_yb, p_yk⟩ : N3)⟩ : P2)) (some (rP false (⟨(⟨p_xa, p_xb, p_xk⟩ : N3), (⟨p_ya, p_yb, p_yk⟩ : N3)⟩ : P2))) (cond (okM m_t (⟨(⟨p_xa, p_xb, p_xk⟩ : N3), (⟨p_ya, p_yb, p_yk⟩ : N3)⟩ : P2) (⟨⟨m_xa, m_xb, m_xk⟩, ⟨m_ya, m_yb, m_yk⟩⟩ : P2)) (cond (kB (moveF m_t m_f (⟨⟨m_xa, m_xb, m_xk⟩, ⟨m_ya, m_yb, m_yk⟩⟩ : P2) (⟨(⟨p_xa, p_xb, p_xk⟩ : N3), (⟨p_ya, p_yb, p_yk⟩ : N3)⟩ : P2)).x.k && kB (moveF m_t m_f (⟨⟨m_xa, m_xb, m_xk⟩, ⟨m_ya, m_yb, m_yk⟩⟩ : P2) (⟨(⟨p_xa, p_xb, p_xk⟩ : N3), (⟨p_ya, p_yb, p_yk⟩ : N3)⟩ : P2)).y.k) (some (rP (valP (redP (moveF m_t m_f (⟨⟨m_xa, m_xb, m_xk⟩, ⟨m_ya, m_yb, m_yk⟩⟩ : P2) (⟨(⟨p_xa, p_xb, p_xk⟩ : N3), (⟨p_ya, p_yb, p_yk⟩ : N3)⟩ : P2)))) (redP (moveF m_t m_f (⟨⟨m_xa, m_xb, m_xk⟩, ⟨m_ya, m_yb, m_yk⟩⟩ : P2) (⟨(⟨p_xa, p_xb, p_xk⟩ : N3), (⟨p_ya, p_yb, p_yk⟩ : N3)⟩ : P2))))) none) none)) from by kernel_rfl).trans ?_
  cases h1 : inB m_t 0 7 with
  | false => rfl
  | true =>
    cases h2 : valP (⟨⟨m_xa, m_xb, m_xk⟩, ⟨m_ya, m_yb, m_yk⟩⟩ : P2) with
    | false => rfl
    | true =>
      cases h3 : valP (⟨(⟨p_xa, p_xb, p_xk⟩ : N3), (⟨p_ya, p_yb, p_yk⟩ : N3)⟩ : P2) with
      | false => rfl
      | true =>
        obtain ⟨_, _, _, k4, k5⟩ := turn_pk (flip_ok (val_ok h3) m_f) (val_ok h2) m_t
        have k6 : okM m_t (⟨(⟨p_xa, p_xb, p_xk⟩ : N3), (⟨p_ya, p_yb, p_yk⟩ : N3)⟩ : P2) (⟨⟨m_xa, m_xb, m_xk⟩, ⟨m_ya, m_yb, m_yk⟩⟩ : P2) = true := by unfold okM; rw [h1, val_ok h2, val_ok h3]; rfl
        have k7 : (kB (moveF m_t m_f (⟨⟨m_xa, m_xb, m_xk⟩, ⟨m_ya, m_yb, m_yk⟩⟩ : P2) (⟨(⟨p_xa, p_xb, p_xk⟩ : N3), (⟨p_ya, p_yb, p_yk⟩ : N3)⟩ : P2)).x.k && kB (moveF m_t m_f (⟨⟨m_xa, m_xb, m_xk⟩, ⟨m_ya, m_yb, m_yk⟩⟩ : P2) (⟨(⟨p_xa, p_xb, p_xk⟩ : N3), (⟨p_ya, p_yb, p_yk⟩ : N3)⟩ : P2)).y.k) = true := by unfold moveF; rw [k4, k5]; rfl
        rw [k6, k7]
        rfl
theorem m32 : Meets Try.prog GL0 32 s32 := by
  refine meetsN mix0 gl0 G57 Try.func32 (by kernel_rfl) (by kernel_rfl) s32 fun args x h => ?_
  unfold s32 at h
  split at h
  · rename_i m_t m_f m_xa m_xb m_xk m_ya m_yb m_yk p_xa p_xb p_xk p_ya p_yb p_yk
    simp only [Option.some.injEq, Prod.mk.injEq] at h
    obtain ⟨hp, rfl⟩ := h
    exact ⟨_, _, by kernel_rfl, e32 m_t m_f m_xa m_xb m_xk m_ya m_yb m_yk p_xa p_xb p_xk p_ya p_yb p_yk⟩
  · cases h
abbrev Γ58 : List (Nat × Ctr) := (32, s32) :: Γ57
theorem G58 : Sound Try.prog GL0 Γ58 := G57.cons m32

-- spec.MovePoint
def s30 : Ctr := fun
  | [.agg [.val (.int .i64 m_t), .val (.bool m_f), .val (.int .i64 m_xa), .val (.int .i64 m_xb), .val (.int .i64 m_xk), .val (.int .i64 m_ya), .val (.int .i64 m_yb), .val (.int .i64 m_yk)], .agg [.val (.int .i64 p_xa), .val (.int .i64 p_xb), .val (.int .i64 p_xk), .val (.int .i64 p_ya), .val (.int .i64 p_yb), .val (.int .i64 p_yk)]] => some (true, rP (((inB m_t 0 7 && valP (⟨⟨m_xa, m_xb, m_xk⟩, ⟨m_ya, m_yb, m_yk⟩⟩ : P2)) && valP (⟨(⟨p_xa, p_xb, p_xk⟩ : N3), (⟨p_ya, p_yb, p_yk⟩ : N3)⟩ : P2)) && valP (redP (moveF m_t m_f (⟨⟨m_xa, m_xb, m_xk⟩, ⟨m_ya, m_yb, m_yk⟩⟩ : P2) (⟨(⟨p_xa, p_xb, p_xk⟩ : N3), (⟨p_ya, p_yb, p_yk⟩ : N3)⟩ : P2)))) (redP (moveF m_t m_f (⟨⟨m_xa, m_xb, m_xk⟩, ⟨m_ya, m_yb, m_yk⟩⟩ : P2) (⟨(⟨p_xa, p_xb, p_xk⟩ : N3), (⟨p_ya, p_yb, p_yk⟩ : N3)⟩ : P2))))
  | _ => none

theorem e30 (m_t : Int) (m_f : Bool) (m_xa : Int) (m_xb : Int) (m_xk : Int) (m_ya : Int) (m_yb : Int) (m_yk : Int) (p_xa : Int) (p_xb : Int) (p_xk : Int) (p_ya : Int) (p_yb : Int) (p_yk : Int) : evN Try.prog GL0 Γ58 (0) [] Try.f30 [.agg [.val (.int .i64 m_t), .val (.bool m_f), .val (.int .i64 m_xa), .val (.int .i64 m_xb), .val (.int .i64 m_xk), .val (.int .i64 m_ya), .val (.int .i64 m_yb), .val (.int .i64 m_yk)], .agg [.val (.int .i64 p_xa), .val (.int .i64 p_xb), .val (.int .i64 p_xk), .val (.int .i64 p_ya), .val (.int .i64 p_yb), .val (.int .i64 p_yk)]] = some (rP (((inB m_t 0 7 && valP (⟨⟨m_xa, m_xb, m_xk⟩, ⟨m_ya, m_yb, m_yk⟩⟩ : P2)) && valP (⟨(⟨p_xa, p_xb, p_xk⟩ : N3), (⟨p_ya, p_yb, p_yk⟩ : N3)⟩ : P2)) && valP (redP (moveF m_t m_f (⟨⟨m_xa, m_xb, m_xk⟩, ⟨m_ya, m_yb, m_yk⟩⟩ : P2) (⟨(⟨p_xa, p_xb, p_xk⟩ : N3), (⟨p_ya, p_yb, p_yk⟩ : N3)⟩ : P2)))) (redP (moveF m_t m_f (⟨⟨m_xa, m_xb, m_xk⟩, ⟨m_ya, m_yb, m_yk⟩⟩ : P2) (⟨(⟨p_xa, p_xb, p_xk⟩ : N3), (⟨p_ya, p_yb, p_yk⟩ : N3)⟩ : P2)))) := by
  refine (show _ = cond (!(inB m_t 0 7 && valP (⟨⟨m_xa, m_xb, m_xk⟩, ⟨m_ya, m_yb, m_yk⟩⟩ : P2))) (some (rP false (⟨(⟨p_xa, p_xb, p_xk⟩ : N3), (⟨p_ya, p_yb, p_yk⟩ : N3)⟩ : P2))) (cond (!valP (⟨(⟨p_xa, p_xb, p_xk⟩ : N3), (⟨p_ya, p_yb, p_yk⟩ : N3)⟩ : P2)) (some (rP false (⟨(⟨p_xa, p_xb, p_xk⟩ : N3), (⟨p_ya, p_yb, p_yk⟩ : N3)⟩ : P2))) (cond (okM m_t (⟨(⟨p_xa, p_xb, p_xk⟩ : N3), (⟨p_ya, p_yb, p_yk⟩ : N3)⟩ : P2) (⟨⟨m_xa, m_xb, m_xk⟩, ⟨m_ya, m_yb, m_yk⟩⟩ : P2)) (cond (kB (moveF m_t m_f (⟨⟨m_xa, m_xb, m_xk⟩, ⟨m_ya, m_yb, m_yk⟩⟩ : P2) (⟨(⟨p_xa, p_xb, p_xk⟩ : N3), (⟨p_ya, p_yb, p_yk⟩ : N3)⟩ : P2)).x.k && kB (moveF m_t m_f (⟨⟨m_xa, m_xb, m_xk⟩, ⟨m_ya, m_yb, m_yk⟩⟩ : P2) (⟨(⟨p_xa, p_xb, p_xk⟩ : N3), (⟨p_ya, p_yb, p_yk⟩ : N3)⟩ : P2)).y.k) (some (rP (valP (redP (moveF m_t m_f (⟨⟨m_xa, m_xb, m_xk⟩, ⟨m_ya, m_yb, m_yk⟩⟩ : P2) (⟨(⟨p_xa, p_xb, p_xk⟩ : N3), (⟨p_ya, p_yb, p_yk⟩ : N3)⟩ : P2)))) (redP (moveF m_t m_f (⟨⟨m_xa, m_xb, m_xk⟩, ⟨m_ya, m_yb, m_yk⟩⟩ : P2) (⟨(⟨p_xa, p_xb, p_xk⟩ : N3), (⟨p_ya, p_yb, p_yk⟩ : N3)⟩ : P2))))) none) none)) from by kernel_rfl).trans ?_
  cases h1 : inB m_t 0 7 with
  | false => rfl
  | true =>
    cases h2 : valP (⟨⟨m_xa, m_xb, m_xk⟩, ⟨m_ya, m_yb, m_yk⟩⟩ : P2) with
    | false => rfl
    | true =>
      cases h3 : valP (⟨(⟨p_xa, p_xb, p_xk⟩ : N3), (⟨p_ya, p_yb, p_yk⟩ : N3)⟩ : P2) with
      | false => rfl
      | true =>
        obtain ⟨_, _, _, k4, k5⟩ := turn_pk (flip_ok (val_ok h3) m_f) (val_ok h2) m_t
        have k6 : okM m_t (⟨(⟨p_xa, p_xb, p_xk⟩ : N3), (⟨p_ya, p_yb, p_yk⟩ : N3)⟩ : P2) (⟨⟨m_xa, m_xb, m_xk⟩, ⟨m_ya, m_yb, m_yk⟩⟩ : P2) = true := by unfold okM; rw [h1, val_ok h2, val_ok h3]; rfl
        have k7 : (kB (moveF m_t m_f (⟨⟨m_xa, m_xb, m_xk⟩, ⟨m_ya, m_yb, m_yk⟩⟩ : P2) (⟨(⟨p_xa, p_xb, p_xk⟩ : N3), (⟨p_ya, p_yb, p_yk⟩ : N3)⟩ : P2)).x.k && kB (moveF m_t m_f (⟨⟨m_xa, m_xb, m_xk⟩, ⟨m_ya, m_yb, m_yk⟩⟩ : P2) (⟨(⟨p_xa, p_xb, p_xk⟩ : N3), (⟨p_ya, p_yb, p_yk⟩ : N3)⟩ : P2)).y.k) = true := by unfold moveF; rw [k4, k5]; rfl
        rw [k6, k7]
        rfl
theorem m30 : Meets Try.prog GL0 30 s30 := by
  refine meetsN mix0 gl0 G58 Try.func30 (by kernel_rfl) (by kernel_rfl) s30 fun args x h => ?_
  unfold s30 at h
  split at h
  · rename_i m_t m_f m_xa m_xb m_xk m_ya m_yb m_yk p_xa p_xb p_xk p_ya p_yb p_yk
    simp only [Option.some.injEq, Prod.mk.injEq] at h
    obtain ⟨hp, rfl⟩ := h
    exact ⟨_, _, by kernel_rfl, e30 m_t m_f m_xa m_xb m_xk m_ya m_yb m_yk p_xa p_xb p_xk p_ya p_yb p_yk⟩
  · cases h
abbrev Γ59 : List (Nat × Ctr) := (30, s30) :: Γ58
theorem G59 : Sound Try.prog GL0 Γ59 := G58.cons m30

-- laws.FnExactMovePoint
def s9 : Ctr := fun
  | [.agg [.val (.int .i64 m_t), .val (.bool m_f), .val (.int .i64 m_xa), .val (.int .i64 m_xb), .val (.int .i64 m_xk), .val (.int .i64 m_ya), .val (.int .i64 m_yb), .val (.int .i64 m_yk)], .agg [.val (.int .i64 p_xa), .val (.int .i64 p_xb), .val (.int .i64 p_xk), .val (.int .i64 p_ya), .val (.int .i64 p_yb), .val (.int .i64 p_yk)]] => some (true, bv true)
  | _ => none

theorem e9 (m_t : Int) (m_f : Bool) (m_xa : Int) (m_xb : Int) (m_xk : Int) (m_ya : Int) (m_yb : Int) (m_yk : Int) (p_xa : Int) (p_xb : Int) (p_xk : Int) (p_ya : Int) (p_yb : Int) (p_yk : Int) : evN Try.prog GL0 Γ59 (0) [] Try.f9 [.agg [.val (.int .i64 m_t), .val (.bool m_f), .val (.int .i64 m_xa), .val (.int .i64 m_xb), .val (.int .i64 m_xk), .val (.int .i64 m_ya), .val (.int .i64 m_yb), .val (.int .i64 m_yk)], .agg [.val (.int .i64 p_xa), .val (.int .i64 p_xb), .val (.int .i64 p_xk), .val (.int .i64 p_ya), .val (.int .i64 p_yb), .val (.int .i64 p_yk)]] = some (bv true) := by
  refine (show _ = cond (!eqP (P2.mk (N3.mk (bif inB m_t 0 7 && valP (P2.mk (N3.mk m_xa m_xb m_xk) (N3.mk m_ya m_yb m_yk)) && valP (P2.mk (N3.mk p_xa p_xb p_xk) (N3.mk p_ya p_yb p_yk)) && valP (redP (moveF m_t m_f (P2.mk (N3.mk m_xa m_xb m_xk) (N3.mk m_ya m_yb m_yk)) (P2.mk (N3.mk p_xa p_xb p_xk) (N3.mk p_ya p_yb p_yk)))) then (red (addF (turnF m_t (flipP m_f (P2.mk (N3.mk p_xa p_xb p_xk) (N3.mk p_ya p_yb p_yk)))).1 (N3.mk m_xa m_xb m_xk))).1 else 0) (bif inB m_t 0 7 && valP (P2.mk (N3.mk m_xa m_xb m_xk) (N3.mk m_ya m_yb m_yk)) && valP (P2.mk (N3.mk p_xa p_xb p_xk) (N3.mk p_ya p_yb p_yk)) && valP (redP (moveF m_t m_f (P2.mk (N3.mk m_xa m_xb m_xk) (N3.mk m_ya m_yb m_yk)) (P2.mk (N3.mk p_xa p_xb p_xk) (N3.mk p_ya p_yb p_yk)))) then (red (addF (turnF m_t (flipP m_f (P2.mk (N3.mk p_xa p_xb p_xk) (N3.mk p_ya p_yb p_yk)))).1 (N3.mk m_xa m_xb m_xk))).2 else 0) (bif inB m_t 0 7 && valP (P2.mk (N3.mk m_xa m_xb m_xk) (N3.mk m_ya m_yb m_yk)) && valP (P2.mk (N3.mk p_xa p_xb p_xk) (N3.mk p_ya p_yb p_yk)) && valP (redP (moveF m_t m_f (P2.mk (N3.mk m_xa m_xb m_xk) (N3.mk m_ya m_yb m_yk)) (P2.mk (N3.mk p_xa p_xb p_xk) (N3.mk p_ya p_yb p_yk)))) then (red (addF (turnF m_t (flipP m_f (P2.mk (N3.mk p_xa p_xb p_xk) (N3.mk p_ya p_yb p_yk)))).1 (N3.mk m_xa m_xb m_xk))).3 else 0)) (N3.mk (bif inB m_t 0 7 && valP (P2.mk (N3.mk m_xa m_xb m_xk) (N3.mk m_ya m_yb m_yk)) && valP (P2.mk (N3.mk p_xa p_xb p_xk) (N3.mk p_ya p_yb p_yk)) && valP (redP (moveF m_t m_f (P2.mk (N3.mk m_xa m_xb m_xk) (N3.mk m_ya m_yb m_yk)) (P2.mk (N3.mk p_xa p_xb p_xk) (N3.mk p_ya p_yb p_yk)))) then (red (addF (turnF m_t (flipP m_f (P2.mk (N3.mk p_xa p_xb p_xk) (N3.mk p_ya p_yb p_yk)))).2 (N3.mk m_ya m_yb m_yk))).1 else 0) (bif inB m_t 0 7 && valP (P2.mk (N3.mk m_xa m_xb m_xk) (N3.mk m_ya m_yb m_yk)) && valP (P2.mk (N3.mk p_xa p_xb p_xk) (N3.mk p_ya p_yb p_yk)) && valP (redP (moveF m_t m_f (P2.mk (N3.mk m_xa m_xb m_xk) (N3.mk m_ya m_yb m_yk)) (P2.mk (N3.mk p_xa p_xb p_xk) (N3.mk p_ya p_yb p_yk)))) then (red (addF (turnF m_t (flipP m_f (P2.mk (N3.mk p_xa p_xb p_xk) (N3.mk p_ya p_yb p_yk)))).2 (N3.mk m_ya m_yb m_yk))).2 else 0) (bif inB m_t 0 7 && valP (P2.mk (N3.mk m_xa m_xb m_xk) (N3.mk m_ya m_yb m_yk)) && valP (P2.mk (N3.mk p_xa p_xb p_xk) (N3.mk p_ya p_yb p_yk)) && valP (redP (moveF m_t m_f (P2.mk (N3.mk m_xa m_xb m_xk) (N3.mk m_ya m_yb m_yk)) (P2.mk (N3.mk p_xa p_xb p_xk) (N3.mk p_ya p_yb p_yk)))) then (red (addF (turnF m_t (flipP m_f (P2.mk (N3.mk p_xa p_xb p_xk) (N3.mk p_ya p_yb p_yk)))).2 (N3.mk m_ya m_yb m_yk))).3 else 0))) (P2.mk (N3.mk (bif inB m_t 0 7 && valP (P2.mk (N3.mk m_xa m_xb m_xk) (N3.mk m_ya m_yb m_yk)) && valP (P2.mk (N3.mk p_xa p_xb p_xk) (N3.mk p_ya p_yb p_yk)) && valP (redP (moveF m_t m_f (P2.mk (N3.mk m_xa m_xb m_xk) (N3.mk m_ya m_yb m_yk)) (P2.mk (N3.mk p_xa p_xb p_xk) (N3.mk p_ya p_yb p_yk)))) then (red (addF (turnF m_t (flipP m_f (P2.mk (N3.mk p_xa p_xb p_xk) (N3.mk p_ya p_yb p_yk)))).1 (N3.mk m_xa m_xb m_xk))).1 else 0) (bif inB m_t 0 7 && valP (P2.mk (N3.mk m_xa m_xb m_xk) (N3.mk m_ya m_yb m_yk)) && valP (P2.mk (N3.mk p_xa p_xb p_xk) (N3.mk p_ya p_yb p_yk)) && valP (redP (moveF m_t m_f (P2.mk (N3.mk m_xa m_xb m_xk) (N3.mk m_ya m_yb m_yk)) (P2.mk (N3.mk p_xa p_xb p_xk) (N3.mk p_ya p_yb p_yk)))) then (red (addF (turnF m_t (flipP m_f (P2.mk (N3.mk p_xa p_xb p_xk) (N3.mk p_ya p_yb p_yk)))).1 (N3.mk m_xa m_xb m_xk))).2 else 0) (bif inB m_t 0 7 && valP (P2.mk (N3.mk m_xa m_xb m_xk) (N3.mk m_ya m_yb m_yk)) && valP (P2.mk (N3.mk p_xa p_xb p_xk) (N3.mk p_ya p_yb p_yk)) && valP (redP (moveF m_t m_f (P2.mk (N3.mk m_xa m_xb m_xk) (N3.mk m_ya m_yb m_yk)) (P2.mk (N3.mk p_xa p_xb p_xk) (N3.mk p_ya p_yb p_yk)))) then (red (addF (turnF m_t (flipP m_f (P2.mk (N3.mk p_xa p_xb p_xk) (N3.mk p_ya p_yb p_yk)))).1 (N3.mk m_xa m_xb m_xk))).3 else 0)) (N3.mk (bif inB m_t 0 7 && valP (P2.mk (N3.mk m_xa m_xb m_xk) (N3.mk m_ya m_yb m_yk)) && valP (P2.mk (N3.mk p_xa p_xb p_xk) (N3.mk p_ya p_yb p_yk)) && valP (redP (moveF m_t m_f (P2.mk (N3.mk m_xa m_xb m_xk) (N3.mk m_ya m_yb m_yk)) (P2.mk (N3.mk p_xa p_xb p_xk) (N3.mk p_ya p_yb p_yk)))) then (red (addF (turnF m_t (flipP m_f (P2.mk (N3.mk p_xa p_xb p_xk) (N3.mk p_ya p_yb p_yk)))).2 (N3.mk m_ya m_yb m_yk))).1 else 0) (bif inB m_t 0 7 && valP (P2.mk (N3.mk m_xa m_xb m_xk) (N3.mk m_ya m_yb m_yk)) && valP (P2.mk (N3.mk p_xa p_xb p_xk) (N3.mk p_ya p_yb p_yk)) && valP (redP (moveF m_t m_f (P2.mk (N3.mk m_xa m_xb m_xk) (N3.mk m_ya m_yb m_yk)) (P2.mk (N3.mk p_xa p_xb p_xk) (N3.mk p_ya p_yb p_yk)))) then (red (addF (turnF m_t (flipP m_f (P2.mk (N3.mk p_xa p_xb p_xk) (N3.mk p_ya p_yb p_yk)))).2 (N3.mk m_ya m_yb m_yk))).2 else 0) (bif inB m_t 0 7 && valP (P2.mk (N3.mk m_xa m_xb m_xk) (N3.mk m_ya m_yb m_yk)) && valP (P2.mk (N3.mk p_xa p_xb p_xk) (N3.mk p_ya p_yb p_yk)) && valP (redP (moveF m_t m_f (P2.mk (N3.mk m_xa m_xb m_xk) (N3.mk m_ya m_yb m_yk)) (P2.mk (N3.mk p_xa p_xb p_xk) (N3.mk p_ya p_yb p_yk)))) then (red (addF (turnF m_t (flipP m_f (P2.mk (N3.mk p_xa p_xb p_xk) (N3.mk p_ya p_yb p_yk)))).2 (N3.mk m_ya m_yb m_yk))).3 else 0)))) ( some (bv (false)) ) ( cond (!(inB m_t 0 7 && valP (P2.mk (N3.mk m_xa m_xb m_xk) (N3.mk m_ya m_yb m_yk)) && valP (P2.mk (N3.mk p_xa p_xb p_xk) (N3.mk p_ya p_yb p_yk)) && valP (redP (moveF m_t m_f (P2.mk (N3.mk m_xa m_xb m_xk) (N3.mk m_ya m_yb m_yk)) (P2.mk (N3.mk p_xa p_xb p_xk) (N3.mk p_ya p_yb p_yk))))) == (inB m_t 0 7 && valP (P2.mk (N3.mk m_xa m_xb m_xk) (N3.mk m_ya m_yb m_yk)) && valP (P2.mk (N3.mk p_xa p_xb p_xk) (N3.mk p_ya p_yb p_yk)) && valP (redP (moveF m_t m_f (P2.mk (N3.mk m_xa m_xb m_xk) (N3.mk m_ya m_yb m_yk)) (P2.mk (N3.mk p_xa p_xb p_xk) (N3.mk p_ya p_yb p_yk)))))) ( some (bv (false)) ) ( some (bv (true)) ) ) from by kernel_rfl).trans ?_
  simp only [eqP_self, bne_self_eq_false, beq_self_eq_true, cond_true, cond_false, Bool.not_true]
theorem m9 : Meets Try.prog GL0 9 s9 := by
  refine meetsN mix0 gl0 G59 Try.func9 (by kernel_rfl) (by kernel_rfl) s9 fun args x h => ?_
  unfold s9 at h
  split at h
  · rename_i m_t m_f m_xa m_xb m_xk m_ya m_yb m_yk p_xa p_xb p_xk p_ya p_yb p_yk
    simp only [Option.some.injEq, Prod.mk.injEq] at h
    obtain ⟨hp, rfl⟩ := h
    exact ⟨_, _, by kernel_rfl, e9 m_t m_f m_xa m_xb m_xk m_ya m_yb m_yk p_xa p_xb p_xk p_ya p_yb p_yk⟩
  · cases h
abbrev Γ60 : List (Nat × Ctr) := (9, s9) :: Γ59
theorem G60 : Sound Try.prog GL0 Γ60 := G59.cons m9

end Go.Proofs.Ytgcmdnfchhkckaa
