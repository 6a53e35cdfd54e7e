/- Contracts of the program's functions, by the evaluator. -/
import Derived.Test.YtigmgpblnoecpaaProg
import Derived.Test.YtigmgpblnoecpaaNumD
namespace Go.Proofs.Ytigmgpblnoecpaa
open Go.Ev
set_option linter.unusedVariables false
set_option linter.unusedSimpArgs false
set_option maxRecDepth 100000

theorem mix0 : Try.prog.follows .mixedOrders = true := by kernel_rfl
abbrev Γ0 : List (Nat × Ctr) := []
theorem G0 : Sound Try.prog GL0 Γ0 := Sound.nil

-- impl.within
def s63 : Ctr := fun
  | [.val (.int .i64 x), .val (.int .i64 lo), .val (.int .i64 hi)] => some (true, bv (inB x lo hi))
  | _ => none

theorem e63 (x : Int) (lo : Int) (hi : Int) : evN Try.prog GL0 Γ0 (0) [] Try.f63 [.val (.int .i64 x), .val (.int .i64 lo), .val (.int .i64 hi)] = some (bv (inB x lo hi)) := by
  refine (show _ = cond (decide (x ≥ lo)) ( some (bv (decide (x ≤ hi))) ) ( some (bv (false)) ) from by kernel_rfl).trans ?_
  simp only [inB]
  cases decide (x ≥ lo) <;> rfl
theorem m63 : Meets Try.prog GL0 63 s63 := by
  refine meetsN mix0 gl0 G0 Try.func63 (by kernel_rfl) (by kernel_rfl) s63 fun args x h => ?_
  unfold s63 at h
  split at h
  · rename_i x lo hi
    simp only [Option.some.injEq, Prod.mk.injEq] at h
    obtain ⟨hp, rfl⟩ := h
    exact ⟨_, _, by kernel_rfl, e63 x lo hi⟩
  · cases h
abbrev Γ1 : List (Nat × Ctr) := (63, s63) :: Γ0
theorem G1 : Sound Try.prog GL0 Γ1 := G0.cons m63

-- spec.l00In
def s38 : Ctr := fun
  | [.val (.int .i64 x), .val (.int .i64 lo), .val (.int .i64 hi)] => some (true, bv (inB x lo hi))
  | _ => none

theorem e38 (x : Int) (lo : Int) (hi : Int) : evN Try.prog GL0 Γ1 (0) [] Try.f38 [.val (.int .i64 x), .val (.int .i64 lo), .val (.int .i64 hi)] = some (bv (inB x lo hi)) := by
  refine (show _ = cond (decide (x ≥ lo)) ( some (bv (decide (x ≤ hi))) ) ( some (bv (false)) ) from by kernel_rfl).trans ?_
  simp only [inB]
  cases decide (x ≥ lo) <;> rfl
theorem m38 : Meets Try.prog GL0 38 s38 := by
  refine meetsN mix0 gl0 G1 Try.func38 (by kernel_rfl) (by kernel_rfl) s38 fun args x h => ?_
  unfold s38 at h
  split at h
  · rename_i x lo hi
    simp only [Option.some.injEq, Prod.mk.injEq] at h
    obtain ⟨hp, rfl⟩ := h
    exact ⟨_, _, by kernel_rfl, e38 x lo hi⟩
  · cases h
abbrev Γ2 : List (Nat × Ctr) := (38, s38) :: Γ1
theorem G2 : Sound Try.prog GL0 Γ2 := G1.cons m38

-- (impl.Num).reduced
def s62 : Ctr := fun
  | [.agg [.val (.int .i64 x_a), .val (.int .i64 x_b), .val (.int .i64 x_k)]] => some (kB x_k, (red (⟨x_a, x_b, x_k⟩ : N3)).av)
  | _ => none

theorem r62_step (K n : Nat) (a b k : Int) : runL Try.prog GL0 Γ2 K [false, true, true] Try.f62 0 (n + 1) (stL Try.f62.ntmps [.non, .own 24 [iv (a), iv (b), iv (k)], .own 24 [iv 0, iv 0, iv 0]]) = cond (decide (k > 0)) (cond (and64 a 1 == 0) (cond (and64 b 1 == 0) (cond (wr (a.tdiv 2) == 0) (cond (wr (b.tdiv 2) == 0) (runL Try.prog GL0 Γ2 K [false, true, true] Try.f62 0 n (stL Try.f62.ntmps [.non, .own 24 [iv (wr (a.tdiv 2)), iv (wr (b.tdiv 2)), iv (0)], .own 24 [iv 0, iv 0, iv 0]])) (runL Try.prog GL0 Γ2 K [false, true, true] Try.f62 0 n (stL Try.f62.ntmps [.non, .own 24 [iv (wr (a.tdiv 2)), iv (wr (b.tdiv 2)), iv (wr (k - 1))], .own 24 [iv 0, iv 0, iv 0]]))) (runL Try.prog GL0 Γ2 K [false, true, true] Try.f62 0 n (stL Try.f62.ntmps [.non, .own 24 [iv (wr (a.tdiv 2)), iv (wr (b.tdiv 2)), iv (wr (k - 1))], .own 24 [iv 0, iv 0, iv 0]]))) (some (⟨a, b, k⟩ : N3).av)) (some (⟨a, b, k⟩ : N3).av)) (some (⟨a, b, k⟩ : N3).av) := by kernel_rfl
theorem r62_run (K : Nat) : ∀ (m : Nat) (a b k : Int) (n : Nat), 0 ≤ k → k ≤ 1152921504606846976 → k.toNat ≤ m → m < n → runL Try.prog GL0 Γ2 K [false, true, true] Try.f62 0 n (stL Try.f62.ntmps [.non, .own 24 [iv (a), iv (b), iv (k)], .own 24 [iv 0, iv 0, iv 0]]) = some (redF (m + 1) a b k).av := by
  intro m
  induction m with
  | zero =>
    intro a b k n h0 h1 h2 h3
    obtain ⟨n, rfl⟩ : ∃ n', n = n' + 1 := ⟨n - 1, by omega⟩
    have hk : ¬ k > 0 := by omega
    rw [r62_step, redF_succ, if_neg (fun h => hk h.1)]
    simp only [hk, decide_false, cond_false]
  | succ m ih =>
    intro a b k n h0 h1 h2 h3
    obtain ⟨n, rfl⟩ : ∃ n', n = n' + 1 := ⟨n - 1, by omega⟩
    rw [r62_step, redF_succ]
    rw [and64_one, and64_one]
    have ea : ((a % 2 == 0) = !odd a) := odd_zero a
    have eb : ((b % 2 == 0) = !odd b) := odd_zero b
    rw [ea, eb]
    by_cases hk : k > 0
    · have hw : wr (k - 1) = k - 1 := wr_in (by omega) (by omega)
      cases ha : odd a with
      | true => rw [if_neg (fun h => by cases h.2.1)]; simp [hk]
      | false =>
        cases hb : odd b with
        | true => rw [if_neg (fun h => by cases h.2.2)]; simp [hk]
        | false =>
          rw [if_pos ⟨hk, rfl, rfl⟩]
          simp only [hk, decide_true, cond_true, Bool.not_false]
          rw [hw, ih _ _ _ _ (by omega) (by omega) (by omega) (by omega), ih _ _ _ _ (by omega) (by omega) (by omega) (by omega)]
          by_cases hz1 : wr (a.tdiv 2) = 0
          · by_cases hz2 : wr (b.tdiv 2) = 0
            · simp [hz1, hz2]
            · have e2 : (wr (b.tdiv 2) == 0) = false := by simpa using hz2
              simp [hz1, hz2, e2]
          · have e1 : (wr (a.tdiv 2) == 0) = false := by simpa using hz1
            simp [hz1, e1]
    · rw [if_neg (fun h => hk h.1)]; simp [hk]
theorem e62 (x_a : Int) (x_b : Int) (x_k : Int) (hp : (kB x_k) = true) : evN Try.prog GL0 Γ2 (x_k.toNat + 1) [false, true, true] Try.f62 [.agg [.val (.int .i64 x_a), .val (.int .i64 x_b), .val (.int .i64 x_k)]] = some ((red (⟨x_a, x_b, x_k⟩ : N3)).av) := by
  exact (show _ = _ from by kernel_rfl).trans (r62_run (x_k.toNat + 1) x_k.toNat x_a x_b x_k (x_k.toNat + 1) (kB_iff.1 hp).1 (kB_iff.1 hp).2 (Nat.le_refl _) (Nat.lt_succ_self _))
theorem m62 : Meets Try.prog GL0 62 s62 := by
  refine meetsN mix0 gl0 G2 Try.func62 (by kernel_rfl) (by kernel_rfl) s62 fun args x h => ?_
  unfold s62 at h
  split at h
  · rename_i x_a x_b x_k
    simp only [Option.some.injEq, Prod.mk.injEq] at h
    obtain ⟨hp, rfl⟩ := h
    exact ⟨_, _, by kernel_rfl, e62 x_a x_b x_k hp⟩
  · cases h
abbrev Γ3 : List (Nat × Ctr) := (62, s62) :: Γ2
theorem G3 : Sound Try.prog GL0 Γ3 := G2.cons m62

-- spec.l01Low
def s67 : Ctr := fun
  | [.agg [.val (.int .i64 x_a), .val (.int .i64 x_b), .val (.int .i64 x_k)]] => some (kB x_k, (red (⟨x_a, x_b, x_k⟩ : N3)).av)
  | _ => none

theorem r67_step (K n : Nat) (a b k : Int) : runL Try.prog GL0 Γ3 K [false, true, true] Try.f67 0 (n + 1) (stL Try.f67.ntmps [.non, .own 62 [iv (a), iv (b), iv (k)], .own 62 [iv 0, iv 0, iv 0]]) = cond (decide (k > 0)) (cond (a.tmod 2 == 0) (cond (b.tmod 2 == 0) (runL Try.prog GL0 Γ3 K [false, true, true] Try.f67 0 n (stL Try.f67.ntmps [.non, .own 62 [iv (wr (a.tdiv 2)), iv (wr (b.tdiv 2)), iv (wr (k - 1))], .own 62 [iv 0, iv 0, iv 0]])) (some (⟨a, b, k⟩ : N3).av)) (some (⟨a, b, k⟩ : N3).av)) (some (⟨a, b, k⟩ : N3).av) := by kernel_rfl
theorem r67_run (K : Nat) : ∀ (m : Nat) (a b k : Int) (n : Nat), 0 ≤ k → k ≤ 1152921504606846976 → k.toNat ≤ m → m < n → runL Try.prog GL0 Γ3 K [false, true, true] Try.f67 0 n (stL Try.f67.ntmps [.non, .own 62 [iv (a), iv (b), iv (k)], .own 62 [iv 0, iv 0, iv 0]]) = some (redF (m + 1) a b k).av := by
  intro m
  induction m with
  | zero =>
    intro a b k n h0 h1 h2 h3
    obtain ⟨n, rfl⟩ : ∃ n', n = n' + 1 := ⟨n - 1, by omega⟩
    have hk : ¬ k > 0 := by omega
    rw [r67_step, redF_succ, if_neg (fun h => hk h.1)]
    simp only [hk, decide_false, cond_false]
  | succ m ih =>
    intro a b k n h0 h1 h2 h3
    obtain ⟨n, rfl⟩ : ∃ n', n = n' + 1 := ⟨n - 1, by omega⟩
    rw [r67_step, redF_succ]
    rw [tmod_zero, tmod_zero]
    by_cases hk : k > 0
    · have hw : wr (k - 1) = k - 1 := wr_in (by omega) (by omega)
      cases ha : odd a with
      | true => rw [if_neg (fun h => by cases h.2.1)]; simp [hk]
      | false =>
        cases hb : odd b with
        | true => rw [if_neg (fun h => by cases h.2.2)]; simp [hk]
        | false =>
          rw [if_pos ⟨hk, rfl, rfl⟩]
          simp only [hk, decide_true, cond_true, Bool.not_false]
          rw [hw, ih _ _ _ _ (by omega) (by omega) (by omega) (by omega)]
          by_cases hz : wr (a.tdiv 2) = 0 ∧ wr (b.tdiv 2) = 0
          · rw [if_pos hz, hz.1, hz.2, redF_zero m _ (by omega), redF_zero m _ (by omega)]
            have e : (if k - 1 > 0 then (0 : Int) else k - 1) = 0 := by split <;> omega
            rw [e]
            rfl
          · rw [if_neg hz]
    · rw [if_neg (fun h => hk h.1)]; simp [hk]
theorem e67 (x_a : Int) (x_b : Int) (x_k : Int) (hp : (kB x_k) = true) : evN Try.prog GL0 Γ3 (x_k.toNat + 1) [false, true, true] Try.f67 [.agg [.val (.int .i64 x_a), .val (.int .i64 x_b), .val (.int .i64 x_k)]] = some ((red (⟨x_a, x_b, x_k⟩ : N3)).av) := by
  refine (show _ = cond (x_a == 0) (cond (x_b == 0) (some z3.av) (runL Try.prog GL0 Γ3 (x_k.toNat + 1) [false, true, true] Try.f67 0 (x_k.toNat + 1) (stL Try.f67.ntmps [.non, .own 62 [iv (x_a), iv (x_b), iv (x_k)], .own 62 [iv 0, iv 0, iv 0]]))) (runL Try.prog GL0 Γ3 (x_k.toNat + 1) [false, true, true] Try.f67 0 (x_k.toNat + 1) (stL Try.f67.ntmps [.non, .own 62 [iv (x_a), iv (x_b), iv (x_k)], .own 62 [iv 0, iv 0, iv 0]])) from by kernel_rfl).trans ?_
  rw [r67_run (x_k.toNat + 1) x_k.toNat x_a x_b x_k (x_k.toNat + 1) (kB_iff.1 hp).1 (kB_iff.1 hp).2 (Nat.le_refl _) (Nat.lt_succ_self _)]
  by_cases ha : x_a = 0
  · by_cases hb : x_b = 0
    · subst ha hb
      have := redF_zero x_k.toNat x_k (Nat.le_refl _)
      have hk := (kB_iff.1 hp).1
      have e : (if x_k > 0 then 0 else x_k) = 0 := by split <;> omega
      rw [e] at this
      simp only [red, this]
      rfl
    · have e2 : (x_b == 0) = false := by simpa using hb
      simp only [e2, cond_false, red]
      cases (x_a == 0) <;> rfl
  · have e1 : (x_a == 0) = false := by simpa using ha
    simp only [e1, cond_false, red]
theorem m67 : Meets Try.prog GL0 67 s67 := by
  refine meetsN mix0 gl0 G3 Try.func67 (by kernel_rfl) (by kernel_rfl) s67 fun args x h => ?_
  unfold s67 at h
  split at h
  · rename_i x_a x_b x_k
    simp only [Option.some.injEq, Prod.mk.injEq] at h
    obtain ⟨hp, rfl⟩ := h
    exact ⟨_, _, by kernel_rfl, e67 x_a x_b x_k hp⟩
  · cases h
abbrev Γ4 : List (Nat × Ctr) := (67, s67) :: Γ3
theorem G4 : Sound Try.prog GL0 Γ4 := G3.cons m67

-- (impl.Num).neg
def s66 : Ctr := fun
  | [.agg [.val (.int .i64 x_a), .val (.int .i64 x_b), .val (.int .i64 x_k)]] => some (true, (negF (⟨x_a, x_b, x_k⟩ : N3)).av)
  | _ => none

theorem e66 (x_a : Int) (x_b : Int) (x_k : Int) : evN Try.prog GL0 Γ4 (0) [] Try.f66 [.agg [.val (.int .i64 x_a), .val (.int .i64 x_b), .val (.int .i64 x_k)]] = some ((negF (⟨x_a, x_b, x_k⟩ : N3)).av) := by
  kernel_rfl
theorem m66 : Meets Try.prog GL0 66 s66 := by
  refine meetsN mix0 gl0 G4 Try.func66 (by kernel_rfl) (by kernel_rfl) s66 fun args x h => ?_
  unfold s66 at h
  split at h
  · rename_i x_a x_b x_k
    simp only [Option.some.injEq, Prod.mk.injEq] at h
    obtain ⟨hp, rfl⟩ := h
    exact ⟨_, _, by kernel_rfl, e66 x_a x_b x_k⟩
  · cases h
abbrev Γ5 : List (Nat × Ctr) := (66, s66) :: Γ4
theorem G5 : Sound Try.prog GL0 Γ5 := G4.cons m66

-- spec.l01Neg
def s81 : Ctr := fun
  | [.agg [.val (.int .i64 x_a), .val (.int .i64 x_b), .val (.int .i64 x_k)]] => some (true, (negF (⟨x_a, x_b, x_k⟩ : N3)).av)
  | _ => none

theorem e81 (x_a : Int) (x_b : Int) (x_k : Int) : evN Try.prog GL0 Γ5 (0) [] Try.f81 [.agg [.val (.int .i64 x_a), .val (.int .i64 x_b), .val (.int .i64 x_k)]] = some ((negF (⟨x_a, x_b, x_k⟩ : N3)).av) := by
  kernel_rfl
theorem m81 : Meets Try.prog GL0 81 s81 := by
  refine meetsN mix0 gl0 G5 Try.func81 (by kernel_rfl) (by kernel_rfl) s81 fun args x h => ?_
  unfold s81 at h
  split at h
  · rename_i x_a x_b x_k
    simp only [Option.some.injEq, Prod.mk.injEq] at h
    obtain ⟨hp, rfl⟩ := h
    exact ⟨_, _, by kernel_rfl, e81 x_a x_b x_k⟩
  · cases h
abbrev Γ6 : List (Nat × Ctr) := (81, s81) :: Γ5
theorem G6 : Sound Try.prog GL0 Γ6 := G5.cons m81

-- (impl.Num).times
def s30 : Ctr := fun
  | [.agg [.val (.int .i64 x_a), .val (.int .i64 x_b), .val (.int .i64 x_k)], .agg [.val (.int .i64 y_a), .val (.int .i64 y_b), .val (.int .i64 y_k)]] => some (pkm (⟨x_a, x_b, x_k⟩ : N3) (⟨y_a, y_b, y_k⟩ : N3), (mulF (⟨x_a, x_b, x_k⟩ : N3) (⟨y_a, y_b, y_k⟩ : N3)).av)
  | _ => none

theorem e30 (x_a : Int) (x_b : Int) (x_k : Int) (y_a : Int) (y_b : Int) (y_k : Int) (hp : (pkm (⟨x_a, x_b, x_k⟩ : N3) (⟨y_a, y_b, y_k⟩ : N3)) = true) : evN Try.prog GL0 Γ6 (0) [] Try.f30 [.agg [.val (.int .i64 x_a), .val (.int .i64 x_b), .val (.int .i64 x_k)], .agg [.val (.int .i64 y_a), .val (.int .i64 y_b), .val (.int .i64 y_k)]] = some ((mulF (⟨x_a, x_b, x_k⟩ : N3) (⟨y_a, y_b, y_k⟩ : N3)).av) := by
  refine (show _ = cond (kB (wr (x_k + y_k))) (some (mulF (⟨x_a, x_b, x_k⟩ : N3) (⟨y_a, y_b, y_k⟩ : N3)).av) none from by kernel_rfl).trans ?_
  have := pkm_kB hp
  simp only at this
  rw [this]
  rfl
theorem m30 : Meets Try.prog GL0 30 s30 := by
  refine meetsN mix0 gl0 G6 Try.func30 (by kernel_rfl) (by kernel_rfl) s30 fun args x h => ?_
  unfold s30 at h
  split at h
  · rename_i x_a x_b x_k y_a y_b y_k
    simp only [Option.some.injEq, Prod.mk.injEq] at h
    obtain ⟨hp, rfl⟩ := h
    exact ⟨_, _, by kernel_rfl, e30 x_a x_b x_k y_a y_b y_k hp⟩
  · cases h
abbrev Γ7 : List (Nat × Ctr) := (30, s30) :: Γ6
theorem G7 : Sound Try.prog GL0 Γ7 := G6.cons m30

-- spec.l01Mul
def s82 : Ctr := fun
  | [.agg [.val (.int .i64 x_a), .val (.int .i64 x_b), .val (.int .i64 x_k)], .agg [.val (.int .i64 y_a), .val (.int .i64 y_b), .val (.int .i64 y_k)]] => some (pkm (⟨x_a, x_b, x_k⟩ : N3) (⟨y_a, y_b, y_k⟩ : N3), (mulF (⟨x_a, x_b, x_k⟩ : N3) (⟨y_a, y_b, y_k⟩ : N3)).av)
  | _ => none

theorem e82 (x_a : Int) (x_b : Int) (x_k : Int) (y_a : Int) (y_b : Int) (y_k : Int) (hp : (pkm (⟨x_a, x_b, x_k⟩ : N3) (⟨y_a, y_b, y_k⟩ : N3)) = true) : evN Try.prog GL0 Γ7 (0) [] Try.f82 [.agg [.val (.int .i64 x_a), .val (.int .i64 x_b), .val (.int .i64 x_k)], .agg [.val (.int .i64 y_a), .val (.int .i64 y_b), .val (.int .i64 y_k)]] = some ((mulF (⟨x_a, x_b, x_k⟩ : N3) (⟨y_a, y_b, y_k⟩ : N3)).av) := by
  refine (show _ = cond (kB (wr (x_k + y_k))) (some (mulF (⟨x_a, x_b, x_k⟩ : N3) (⟨y_a, y_b, y_k⟩ : N3)).av) none from by kernel_rfl).trans ?_
  have := pkm_kB hp
  simp only at this
  rw [this]
  rfl
theorem m82 : Meets Try.prog GL0 82 s82 := by
  refine meetsN mix0 gl0 G7 Try.func82 (by kernel_rfl) (by kernel_rfl) s82 fun args x h => ?_
  unfold s82 at h
  split at h
  · rename_i x_a x_b x_k y_a y_b y_k
    simp only [Option.some.injEq, Prod.mk.injEq] at h
    obtain ⟨hp, rfl⟩ := h
    exact ⟨_, _, by kernel_rfl, e82 x_a x_b x_k y_a y_b y_k hp⟩
  · cases h
abbrev Γ8 : List (Nat × Ctr) := (82, s82) :: Γ7
theorem G8 : Sound Try.prog GL0 Γ8 := G7.cons m82

-- (impl.Num).plus
def s36 : Ctr := fun
  | [.agg [.val (.int .i64 x_a), .val (.int .i64 x_b), .val (.int .i64 x_k)], .agg [.val (.int .i64 y_a), .val (.int .i64 y_b), .val (.int .i64 y_k)]] => some (pk (⟨x_a, x_b, x_k⟩ : N3) (⟨y_a, y_b, y_k⟩ : N3), (addF (⟨x_a, x_b, x_k⟩ : N3) (⟨y_a, y_b, y_k⟩ : N3)).av)
  | _ => none

theorem e36 (x_a : Int) (x_b : Int) (x_k : Int) (y_a : Int) (y_b : Int) (y_k : Int) (hp : (pk (⟨x_a, x_b, x_k⟩ : N3) (⟨y_a, y_b, y_k⟩ : N3)) = true) : evN Try.prog GL0 Γ8 (0) [] Try.f36 [.agg [.val (.int .i64 x_a), .val (.int .i64 x_b), .val (.int .i64 x_k)], .agg [.val (.int .i64 y_a), .val (.int .i64 y_b), .val (.int .i64 y_k)]] = some ((addF (⟨x_a, x_b, x_k⟩ : N3) (⟨y_a, y_b, y_k⟩ : N3)).av) := by
  obtain ⟨h1, h2, h3⟩ := pk_sh hp
  refine (show _ = cond (decide (0 ≤ wr (gmax x_k y_k - x_k))) (cond (decide (0 ≤ wr (gmax x_k y_k - y_k))) (cond (decide (0 ≤ wr (gmax x_k y_k - x_k))) (cond (decide (0 ≤ wr (gmax x_k y_k - y_k))) (cond (kB (gmax x_k y_k)) (some (addF (⟨x_a, x_b, x_k⟩ : N3) (⟨y_a, y_b, y_k⟩ : N3)).av) none) none) none) none) none from by kernel_rfl).trans ?_
  simp only at h1 h2 h3
  rw [h1, h2, h3]
  rfl
theorem m36 : Meets Try.prog GL0 36 s36 := by
  refine meetsN mix0 gl0 G8 Try.func36 (by kernel_rfl) (by kernel_rfl) s36 fun args x h => ?_
  unfold s36 at h
  split at h
  · rename_i x_a x_b x_k y_a y_b y_k
    simp only [Option.some.injEq, Prod.mk.injEq] at h
    obtain ⟨hp, rfl⟩ := h
    exact ⟨_, _, by kernel_rfl, e36 x_a x_b x_k y_a y_b y_k hp⟩
  · cases h
abbrev Γ9 : List (Nat × Ctr) := (36, s36) :: Γ8
theorem G9 : Sound Try.prog GL0 Γ9 := G8.cons m36

-- spec.l01Add
def s80 : Ctr := fun
  | [.agg [.val (.int .i64 x_a), .val (.int .i64 x_b), .val (.int .i64 x_k)], .agg [.val (.int .i64 y_a), .val (.int .i64 y_b), .val (.int .i64 y_k)]] => some (pk (⟨x_a, x_b, x_k⟩ : N3) (⟨y_a, y_b, y_k⟩ : N3), (addF (⟨x_a, x_b, x_k⟩ : N3) (⟨y_a, y_b, y_k⟩ : N3)).av)
  | _ => none

theorem r80_step0 (K n : Nat) (a b k c d l : Int) : runL Try.prog GL0 Γ9 K [false, false, true, true, true] Try.f80 0 (n + 1) (stL Try.f80.ntmps [.non, .non, .own 62 [iv (a), iv (b), iv (k)], .own 62 [iv (c), iv (d), iv (l)], .own 62 [iv 0, iv 0, iv 0]]) = cond (decide (k < l)) (runL Try.prog GL0 Γ9 K [false, false, true, true, true] Try.f80 0 n (stL Try.f80.ntmps [.non, .non, .own 62 [iv (wr (a * 2)), iv (wr (b * 2)), iv (wr (k + 1))], .own 62 [iv (c), iv (d), iv (l)], .own 62 [iv 0, iv 0, iv 0]])) (runL Try.prog GL0 Γ9 K [false, false, true, true, true] Try.f80 1 K (stL Try.f80.ntmps [.non, .non, .own 62 [iv (a), iv (b), iv (k)], .own 62 [iv (c), iv (d), iv (l)], .own 62 [iv 0, iv 0, iv 0]])) := by kernel_rfl
theorem r80_step1 (K n : Nat) (a b k c d l : Int) : runL Try.prog GL0 Γ9 K [false, false, true, true, true] Try.f80 1 (n + 1) (stL Try.f80.ntmps [.non, .non, .own 62 [iv (a), iv (b), iv (k)], .own 62 [iv (c), iv (d), iv (l)], .own 62 [iv 0, iv 0, iv 0]]) = cond (decide (l < k)) (runL Try.prog GL0 Γ9 K [false, false, true, true, true] Try.f80 1 n (stL Try.f80.ntmps [.non, .non, .own 62 [iv (a), iv (b), iv (k)], .own 62 [iv (wr (c * 2)), iv (wr (d * 2)), iv (wr (l + 1))], .own 62 [iv 0, iv 0, iv 0]])) (cond (kB k) (some (red ⟨wr (a + c), wr (b + d), k⟩).av) none) := by kernel_rfl
theorem r80_run1 (K : Nat) : ∀ (m : Nat) (a b k c d l : Int) (n : Nat), kB k = true → 0 ≤ l → (k - l).toNat = m → m < n →
    runL Try.prog GL0 Γ9 K [false, false, true, true, true] Try.f80 1 n (stL Try.f80.ntmps [.non, .non, .own 62 [iv (a), iv (b), iv (k)], .own 62 [iv (c), iv (d), iv (l)], .own 62 [iv 0, iv 0, iv 0]]) = some (red ⟨wr (a + dblI m c), wr (b + dblI m d), k⟩).av := by
  intro m
  induction m with
  | zero =>
    intro a b k c d l n hk hl h0 hn
    obtain ⟨n, rfl⟩ : ∃ n', n = n' + 1 := ⟨n - 1, by omega⟩
    have : decide (l < k) = false := by simp; omega
    rw [r80_step1, this, hk]
    rfl
  | succ m ih =>
    intro a b k c d l n hk hl h0 hn
    obtain ⟨n, rfl⟩ : ∃ n', n = n' + 1 := ⟨n - 1, by omega⟩
    have : decide (l < k) = true := by simp; omega
    have hk' := kB_iff.1 hk
    have hw : wr (l + 1) = l + 1 := wr_in (by omega) (by omega)
    rw [r80_step1, this, cond_true, hw, ih _ _ _ _ _ _ _ hk (by omega) (by omega) (by omega)]
    rfl
theorem r80_run0 (K : Nat) : ∀ (m : Nat) (a b k c d l : Int) (n : Nat), 0 ≤ k → kB l = true → (l - k).toNat = m → m < n →
    runL Try.prog GL0 Γ9 K [false, false, true, true, true] Try.f80 0 n (stL Try.f80.ntmps [.non, .non, .own 62 [iv (a), iv (b), iv (k)], .own 62 [iv (c), iv (d), iv (l)], .own 62 [iv 0, iv 0, iv 0]]) = runL Try.prog GL0 Γ9 K [false, false, true, true, true] Try.f80 1 K (stL Try.f80.ntmps [.non, .non, .own 62 [iv (dblI m a), iv (dblI m b), iv (k + (m : Int))], .own 62 [iv (c), iv (d), iv (l)], .own 62 [iv 0, iv 0, iv 0]]) := by
  intro m
  induction m with
  | zero =>
    intro a b k c d l n hk hl h0 hn
    obtain ⟨n, rfl⟩ : ∃ n', n = n' + 1 := ⟨n - 1, by omega⟩
    have : decide (k < l) = false := by simp; omega
    rw [r80_step0, this, cond_false]
    simp only [dblI, Int.ofNat_zero, Int.natCast_zero, Int.add_zero]
  | succ m ih =>
    intro a b k c d l n hk hl h0 hn
    obtain ⟨n, rfl⟩ : ∃ n', n = n' + 1 := ⟨n - 1, by omega⟩
    have : decide (k < l) = true := by simp; omega
    have hl' := kB_iff.1 hl
    have hw : wr (k + 1) = k + 1 := wr_in (by omega) (by omega)
    rw [r80_step0, this, cond_true, hw, ih _ _ _ _ _ _ _ (by omega) hl (by omega) (by omega)]
    have e : k + 1 + (m : Int) = k + ((m + 1 : Nat) : Int) := by omega
    rw [e]
    rfl
theorem e80 (x_a : Int) (x_b : Int) (x_k : Int) (y_a : Int) (y_b : Int) (y_k : Int) (hp : (pk (⟨x_a, x_b, x_k⟩ : N3) (⟨y_a, y_b, y_k⟩ : N3)) = true) : evN Try.prog GL0 Γ9 (x_k.toNat + y_k.toNat + 1) [false, false, true, true, true] Try.f80 [.agg [.val (.int .i64 x_a), .val (.int .i64 x_b), .val (.int .i64 x_k)], .agg [.val (.int .i64 y_a), .val (.int .i64 y_b), .val (.int .i64 y_k)]] = some ((addF (⟨x_a, x_b, x_k⟩ : N3) (⟨y_a, y_b, y_k⟩ : N3)).av) := by
  obtain ⟨h1, h2⟩ := pk_iff.1 hp
  simp only at h1 h2
  refine (show _ = runL Try.prog GL0 Γ9 (x_k.toNat + y_k.toNat + 1) [false, false, true, true, true] Try.f80 0 (x_k.toNat + y_k.toNat + 1) (stL Try.f80.ntmps [.non, .non, .own 62 [iv (x_a), iv (x_b), iv (x_k)], .own 62 [iv (y_a), iv (y_b), iv (y_k)], .own 62 [iv 0, iv 0, iv 0]]) from by kernel_rfl).trans ?_
  rw [r80_run0 _ (y_k - x_k).toNat _ _ _ _ _ _ _ h1.1 (kB_iff.2 h2) rfl (by omega)]
  rw [r80_run1 _ (x_k - y_k).toNat _ _ _ _ _ _ _ (kB_iff.2 (by omega)) h2.1 (by omega) (by omega)]
  have := addR_dbl hp
  simp only at this
  rw [this]
  rfl
theorem m80 : Meets Try.prog GL0 80 s80 := by
  refine meetsN mix0 gl0 G9 Try.func80 (by kernel_rfl) (by kernel_rfl) s80 fun args x h => ?_
  unfold s80 at h
  split at h
  · rename_i x_a x_b x_k y_a y_b y_k
    simp only [Option.some.injEq, Prod.mk.injEq] at h
    obtain ⟨hp, rfl⟩ := h
    exact ⟨_, _, by kernel_rfl, e80 x_a x_b x_k y_a y_b y_k hp⟩
  · cases h
abbrev Γ10 : List (Nat × Ctr) := (80, s80) :: Γ9
theorem G10 : Sound Try.prog GL0 Γ10 := G9.cons m80

-- (impl.Num).minus
def s35 : Ctr := fun
  | [.agg [.val (.int .i64 x_a), .val (.int .i64 x_b), .val (.int .i64 x_k)], .agg [.val (.int .i64 y_a), .val (.int .i64 y_b), .val (.int .i64 y_k)]] => some (pk (⟨x_a, x_b, x_k⟩ : N3) (⟨y_a, y_b, y_k⟩ : N3), (subF (⟨x_a, x_b, x_k⟩ : N3) (⟨y_a, y_b, y_k⟩ : N3)).av)
  | _ => none

theorem e35 (x_a : Int) (x_b : Int) (x_k : Int) (y_a : Int) (y_b : Int) (y_k : Int) (hp : (pk (⟨x_a, x_b, x_k⟩ : N3) (⟨y_a, y_b, y_k⟩ : N3)) = true) : evN Try.prog GL0 Γ10 (0) [] Try.f35 [.agg [.val (.int .i64 x_a), .val (.int .i64 x_b), .val (.int .i64 x_k)], .agg [.val (.int .i64 y_a), .val (.int .i64 y_b), .val (.int .i64 y_k)]] = some ((subF (⟨x_a, x_b, x_k⟩ : N3) (⟨y_a, y_b, y_k⟩ : N3)).av) := by
  refine (show _ = cond (pk (⟨x_a, x_b, x_k⟩ : N3) (⟨y_a, y_b, y_k⟩ : N3)) (some (subF (⟨x_a, x_b, x_k⟩ : N3) (⟨y_a, y_b, y_k⟩ : N3)).av) none from by kernel_rfl).trans ?_
  rw [hp]
  rfl
theorem m35 : Meets Try.prog GL0 35 s35 := by
  refine meetsN mix0 gl0 G10 Try.func35 (by kernel_rfl) (by kernel_rfl) s35 fun args x h => ?_
  unfold s35 at h
  split at h
  · rename_i x_a x_b x_k y_a y_b y_k
    simp only [Option.some.injEq, Prod.mk.injEq] at h
    obtain ⟨hp, rfl⟩ := h
    exact ⟨_, _, by kernel_rfl, e35 x_a x_b x_k y_a y_b y_k hp⟩
  · cases h
abbrev Γ11 : List (Nat × Ctr) := (35, s35) :: Γ10
theorem G11 : Sound Try.prog GL0 Γ11 := G10.cons m35

-- spec.l01Sub
def s83 : Ctr := fun
  | [.agg [.val (.int .i64 x_a), .val (.int .i64 x_b), .val (.int .i64 x_k)], .agg [.val (.int .i64 y_a), .val (.int .i64 y_b), .val (.int .i64 y_k)]] => some (pk (⟨x_a, x_b, x_k⟩ : N3) (⟨y_a, y_b, y_k⟩ : N3), (subF (⟨x_a, x_b, x_k⟩ : N3) (⟨y_a, y_b, y_k⟩ : N3)).av)
  | _ => none

theorem e83 (x_a : Int) (x_b : Int) (x_k : Int) (y_a : Int) (y_b : Int) (y_k : Int) (hp : (pk (⟨x_a, x_b, x_k⟩ : N3) (⟨y_a, y_b, y_k⟩ : N3)) = true) : evN Try.prog GL0 Γ11 (0) [] Try.f83 [.agg [.val (.int .i64 x_a), .val (.int .i64 x_b), .val (.int .i64 x_k)], .agg [.val (.int .i64 y_a), .val (.int .i64 y_b), .val (.int .i64 y_k)]] = some ((subF (⟨x_a, x_b, x_k⟩ : N3) (⟨y_a, y_b, y_k⟩ : N3)).av) := by
  refine (show _ = cond (pk (⟨x_a, x_b, x_k⟩ : N3) (⟨y_a, y_b, y_k⟩ : N3)) (some (subF (⟨x_a, x_b, x_k⟩ : N3) (⟨y_a, y_b, y_k⟩ : N3)).av) none from by kernel_rfl).trans ?_
  rw [hp]
  rfl
theorem m83 : Meets Try.prog GL0 83 s83 := by
  refine meetsN mix0 gl0 G11 Try.func83 (by kernel_rfl) (by kernel_rfl) s83 fun args x h => ?_
  unfold s83 at h
  split at h
  · rename_i x_a x_b x_k y_a y_b y_k
    simp only [Option.some.injEq, Prod.mk.injEq] at h
    obtain ⟨hp, rfl⟩ := h
    exact ⟨_, _, by kernel_rfl, e83 x_a x_b x_k y_a y_b y_k hp⟩
  · cases h
abbrev Γ12 : List (Nat × Ctr) := (83, s83) :: Γ11
theorem G12 : Sound Try.prog GL0 Γ12 := G11.cons m83

-- impl.ValidNum
def s32 : Ctr := fun
  | [.agg [.val (.int .i64 x_a), .val (.int .i64 x_b), .val (.int .i64 x_k)]] => some (true, bv (validB (⟨x_a, x_b, x_k⟩ : N3)))
  | _ => none

theorem e32 (x_a : Int) (x_b : Int) (x_k : Int) : evN Try.prog GL0 Γ12 (0) [] Try.f32 [.agg [.val (.int .i64 x_a), .val (.int .i64 x_b), .val (.int .i64 x_k)]] = some (bv (validB (⟨x_a, x_b, x_k⟩ : N3))) := by
  refine (show _ = cond (inB x_a (-131072) 131072) ( cond (inB x_b (-131072) 131072) ( cond (inB x_k 0 10) ( cond (x_k == 0) ( some (bv (true)) ) ( cond (IntKind.i64.wrap ↑(BitVec.ofInt 64 x_a &&& BitVec.ofInt 64 1).toNat == 1) ( some (bv (true)) ) ( some (bv (IntKind.i64.wrap ↑(BitVec.ofInt 64 x_b &&& BitVec.ofInt 64 1).toNat == 1)) ) ) ) ( some (bv (false)) ) ) ( some (bv (false)) ) ) ( some (bv (false)) ) from by kernel_rfl).trans ?_
  simp only [validB]
  cases inB x_a (-131072) 131072 <;> cases inB x_b (-131072) 131072 <;> cases inB x_k 0 10 <;> cases (x_k == 0) <;> simp only [cond_true, cond_false, Bool.true_and, Bool.false_and, Bool.true_or, Bool.false_or, and_eq, tmod_ne, odd] <;> (first | rfl | (cases decide (x_a % 2 = 1) <;> rfl))
theorem m32 : Meets Try.prog GL0 32 s32 := by
  refine meetsN mix0 gl0 G12 Try.func32 (by kernel_rfl) (by kernel_rfl) s32 fun args x h => ?_
  unfold s32 at h
  split at h
  · rename_i x_a x_b x_k
    simp only [Option.some.injEq, Prod.mk.injEq] at h
    obtain ⟨hp, rfl⟩ := h
    exact ⟨_, _, by kernel_rfl, e32 x_a x_b x_k⟩
  · cases h
abbrev Γ13 : List (Nat × Ctr) := (32, s32) :: Γ12
theorem G13 : Sound Try.prog GL0 Γ13 := G12.cons m32

-- spec.l01Ok
def s41 : Ctr := fun
  | [.agg [.val (.int .i64 x_a), .val (.int .i64 x_b), .val (.int .i64 x_k)]] => some (true, bv (validB (⟨x_a, x_b, x_k⟩ : N3)))
  | _ => none

theorem e41 (x_a : Int) (x_b : Int) (x_k : Int) : evN Try.prog GL0 Γ13 (0) [] Try.f41 [.agg [.val (.int .i64 x_a), .val (.int .i64 x_b), .val (.int .i64 x_k)]] = some (bv (validB (⟨x_a, x_b, x_k⟩ : N3))) := by
  refine (show _ = cond (!inB x_a (-131072) 131072) ( some (bv (false)) ) ( cond (!inB x_b (-131072) 131072) ( some (bv (false)) ) ( cond (!inB x_k 0 10) ( some (bv (false)) ) ( cond (x_k == 0) ( some (bv (true)) ) ( cond (x_a.tmod 2 != 0) ( some (bv (true)) ) ( some (bv (x_b.tmod 2 != 0)) ) ) ) ) ) from by kernel_rfl).trans ?_
  simp only [validB]
  cases inB x_a (-131072) 131072 <;> cases inB x_b (-131072) 131072 <;> cases inB x_k 0 10 <;> cases (x_k == 0) <;> simp only [cond_true, cond_false, Bool.true_and, Bool.false_and, Bool.true_or, Bool.false_or, and_eq, tmod_ne, odd] <;> (first | rfl | (cases decide (x_a % 2 = 1) <;> rfl))
theorem m41 : Meets Try.prog GL0 41 s41 := by
  refine meetsN mix0 gl0 G13 Try.func41 (by kernel_rfl) (by kernel_rfl) s41 fun args x h => ?_
  unfold s41 at h
  split at h
  · rename_i x_a x_b x_k
    simp only [Option.some.injEq, Prod.mk.injEq] at h
    obtain ⟨hp, rfl⟩ := h
    exact ⟨_, _, by kernel_rfl, e41 x_a x_b x_k⟩
  · cases h
abbrev Γ14 : List (Nat × Ctr) := (41, s41) :: Γ13
theorem G14 : Sound Try.prog GL0 Γ14 := G13.cons m41

-- spec.ValidNum
def s16 : Ctr := fun
  | [.agg [.val (.int .i64 x_a), .val (.int .i64 x_b), .val (.int .i64 x_k)]] => some (true, bv (validB (⟨x_a, x_b, x_k⟩ : N3)))
  | _ => none

theorem e16 (x_a : Int) (x_b : Int) (x_k : Int) : evN Try.prog GL0 Γ14 (0) [] Try.f16 [.agg [.val (.int .i64 x_a), .val (.int .i64 x_b), .val (.int .i64 x_k)]] = some (bv (validB (⟨x_a, x_b, x_k⟩ : N3))) := by
  kernel_rfl
theorem m16 : Meets Try.prog GL0 16 s16 := by
  refine meetsN mix0 gl0 G14 Try.func16 (by kernel_rfl) (by kernel_rfl) s16 fun args x h => ?_
  unfold s16 at h
  split at h
  · rename_i x_a x_b x_k
    simp only [Option.some.injEq, Prod.mk.injEq] at h
    obtain ⟨hp, rfl⟩ := h
    exact ⟨_, _, by kernel_rfl, e16 x_a x_b x_k⟩
  · cases h
abbrev Γ15 : List (Nat × Ctr) := (16, s16) :: Γ14
theorem G15 : Sound Try.prog GL0 Γ15 := G14.cons m16

-- (impl.Num).checked
def s31 : Ctr := fun
  | [.agg [.val (.int .i64 x_a), .val (.int .i64 x_b), .val (.int .i64 x_k)]] => some (kB x_k, .tup [(chk (⟨x_a, x_b, x_k⟩ : N3)).av, bv (chkB (⟨x_a, x_b, x_k⟩ : N3))])
  | _ => none

theorem e31 (x_a : Int) (x_b : Int) (x_k : Int) (hp : (kB x_k) = true) : evN Try.prog GL0 Γ15 (0) [] Try.f31 [.agg [.val (.int .i64 x_a), .val (.int .i64 x_b), .val (.int .i64 x_k)]] = some (.tup [(chk (⟨x_a, x_b, x_k⟩ : N3)).av, bv (chkB (⟨x_a, x_b, x_k⟩ : N3))]) := by
  refine (show _ = cond (kB x_k) ( cond (!validB (N3.mk (red (N3.mk x_a x_b x_k)).1 (red (N3.mk x_a x_b x_k)).2 (red (N3.mk x_a x_b x_k)).3)) ( some ((.tup [(.agg [iv (0), iv (0), iv (0)]), bv (false)])) ) ( some ((.tup [(.agg [iv ((red (N3.mk x_a x_b x_k)).1), iv ((red (N3.mk x_a x_b x_k)).2), iv ((red (N3.mk x_a x_b x_k)).3)]), bv (true)])) ) ) ( none ) from by kernel_rfl).trans ?_
  rw [hp]
  simp only [chk, chkB, cond_true]
  cases validB (red (⟨x_a, x_b, x_k⟩ : N3)) <;> rfl
theorem m31 : Meets Try.prog GL0 31 s31 := by
  refine meetsN mix0 gl0 G15 Try.func31 (by kernel_rfl) (by kernel_rfl) s31 fun args x h => ?_
  unfold s31 at h
  split at h
  · rename_i x_a x_b x_k
    simp only [Option.some.injEq, Prod.mk.injEq] at h
    obtain ⟨hp, rfl⟩ := h
    exact ⟨_, _, by kernel_rfl, e31 x_a x_b x_k hp⟩
  · cases h
abbrev Γ16 : List (Nat × Ctr) := (31, s31) :: Γ15
theorem G16 : Sound Try.prog GL0 Γ16 := G15.cons m31

-- spec.l01Num
def s39 : Ctr := fun
  | [.agg [.val (.int .i64 x_a), .val (.int .i64 x_b), .val (.int .i64 x_k)]] => some (kB x_k, .tup [(chk (⟨x_a, x_b, x_k⟩ : N3)).av, bv (chkB (⟨x_a, x_b, x_k⟩ : N3))])
  | _ => none

theorem e39 (x_a : Int) (x_b : Int) (x_k : Int) (hp : (kB x_k) = true) : evN Try.prog GL0 Γ16 (0) [] Try.f39 [.agg [.val (.int .i64 x_a), .val (.int .i64 x_b), .val (.int .i64 x_k)]] = some (.tup [(chk (⟨x_a, x_b, x_k⟩ : N3)).av, bv (chkB (⟨x_a, x_b, x_k⟩ : N3))]) := by
  refine (show _ = cond (kB x_k) ( cond (!validB (N3.mk (red (N3.mk x_a x_b x_k)).1 (red (N3.mk x_a x_b x_k)).2 (red (N3.mk x_a x_b x_k)).3)) ( some ((.tup [(.agg [iv (0), iv (0), iv (0)]), bv (false)])) ) ( some ((.tup [(.agg [iv ((red (N3.mk x_a x_b x_k)).1), iv ((red (N3.mk x_a x_b x_k)).2), iv ((red (N3.mk x_a x_b x_k)).3)]), bv (true)])) ) ) ( none ) from by kernel_rfl).trans ?_
  rw [hp]
  simp only [chk, chkB, cond_true]
  cases validB (red (⟨x_a, x_b, x_k⟩ : N3)) <;> rfl
theorem m39 : Meets Try.prog GL0 39 s39 := by
  refine meetsN mix0 gl0 G16 Try.func39 (by kernel_rfl) (by kernel_rfl) s39 fun args x h => ?_
  unfold s39 at h
  split at h
  · rename_i x_a x_b x_k
    simp only [Option.some.injEq, Prod.mk.injEq] at h
    obtain ⟨hp, rfl⟩ := h
    exact ⟨_, _, by kernel_rfl, e39 x_a x_b x_k hp⟩
  · cases h
abbrev Γ17 : List (Nat × Ctr) := (39, s39) :: Γ16
theorem G17 : Sound Try.prog GL0 Γ17 := G16.cons m39

-- impl.areNums
def s29 : Ctr := fun
  | [.agg [.val (.int .i64 x_a), .val (.int .i64 x_b), .val (.int .i64 x_k)], .agg [.val (.int .i64 y_a), .val (.int .i64 y_b), .val (.int .i64 y_k)]] => some (true, bv (validB (⟨x_a, x_b, x_k⟩ : N3) && validB (⟨y_a, y_b, y_k⟩ : N3)))
  | _ => none

theorem e29 (x_a : Int) (x_b : Int) (x_k : Int) (y_a : Int) (y_b : Int) (y_k : Int) : evN Try.prog GL0 Γ17 (0) [] Try.f29 [.agg [.val (.int .i64 x_a), .val (.int .i64 x_b), .val (.int .i64 x_k)], .agg [.val (.int .i64 y_a), .val (.int .i64 y_b), .val (.int .i64 y_k)]] = some (bv (validB (⟨x_a, x_b, x_k⟩ : N3) && validB (⟨y_a, y_b, y_k⟩ : N3))) := by
  refine (show _ = cond (validB (N3.mk x_a x_b x_k)) ( some (bv (validB (N3.mk y_a y_b y_k))) ) ( some (bv (false)) ) from by kernel_rfl).trans ?_
  cases validB (⟨x_a, x_b, x_k⟩ : N3) <;> rfl
theorem m29 : Meets Try.prog GL0 29 s29 := by
  refine meetsN mix0 gl0 G17 Try.func29 (by kernel_rfl) (by kernel_rfl) s29 fun args x h => ?_
  unfold s29 at h
  split at h
  · rename_i x_a x_b x_k y_a y_b y_k
    simp only [Option.some.injEq, Prod.mk.injEq] at h
    obtain ⟨hp, rfl⟩ := h
    exact ⟨_, _, by kernel_rfl, e29 x_a x_b x_k y_a y_b y_k⟩
  · cases h
abbrev Γ18 : List (Nat × Ctr) := (29, s29) :: Γ17
theorem G18 : Sound Try.prog GL0 Γ18 := G17.cons m29

-- spec.l01Of
def s43 : Ctr := fun
  | [.agg [.val (.int .i64 x_a), .val (.int .i64 x_b), .val (.int .i64 x_k)]] => some (true, (⟨x_a, x_b, x_k⟩ : N3).av)
  | _ => none

theorem e43 (x_a : Int) (x_b : Int) (x_k : Int) : evN Try.prog GL0 Γ18 (0) [] Try.f43 [.agg [.val (.int .i64 x_a), .val (.int .i64 x_b), .val (.int .i64 x_k)]] = some ((⟨x_a, x_b, x_k⟩ : N3).av) := by
  kernel_rfl
theorem m43 : Meets Try.prog GL0 43 s43 := by
  refine meetsN mix0 gl0 G18 Try.func43 (by kernel_rfl) (by kernel_rfl) s43 fun args x h => ?_
  unfold s43 at h
  split at h
  · rename_i x_a x_b x_k
    simp only [Option.some.injEq, Prod.mk.injEq] at h
    obtain ⟨hp, rfl⟩ := h
    exact ⟨_, _, by kernel_rfl, e43 x_a x_b x_k⟩
  · cases h
abbrev Γ19 : List (Nat × Ctr) := (43, s43) :: Γ18
theorem G19 : Sound Try.prog GL0 Γ19 := G18.cons m43

-- spec.MakeNum
def s13 : Ctr := fun
  | [.val (.int .i64 a), .val (.int .i64 b), .val (.int .i64 k)] => some (true, opV (inB k 0 62) (⟨a, b, k⟩ : N3))
  | _ => none

theorem e13 (a : Int) (b : Int) (k : Int) : evN Try.prog GL0 Γ19 (0) [] Try.f13 [.val (.int .i64 a), .val (.int .i64 b), .val (.int .i64 k)] = some (opV (inB k 0 62) (⟨a, b, k⟩ : N3)) := by
  refine (show _ = cond (!inB k 0 62) ( some ((.tup [(.agg [iv (0), iv (0), iv (0)]), bv (false)])) ) ( cond (kB k) ( some ((.tup [(.agg [iv (bif chkB (N3.mk a b k) then (red (N3.mk a b k)).1 else 0), iv (bif chkB (N3.mk a b k) then (red (N3.mk a b k)).2 else 0), iv (bif chkB (N3.mk a b k) then (red (N3.mk a b k)).3 else 0)]), bv (chkB (N3.mk a b k))])) ) ( none ) ) from by kernel_rfl).trans ?_
  cases h : inB k 0 62 with
  | true => simp only [h, kB_in h, opV, cond_true, cond_false, Bool.not_true, Bool.true_and]; first | rfl | (cases chkB (⟨a, b, k⟩ : N3) <;> rfl)
  | false => simp only [h, cond_true, cond_false, Bool.not_false]; rfl
theorem m13 : Meets Try.prog GL0 13 s13 := by
  refine meetsN mix0 gl0 G19 Try.func13 (by kernel_rfl) (by kernel_rfl) s13 fun args x h => ?_
  unfold s13 at h
  split at h
  · rename_i a b k
    simp only [Option.some.injEq, Prod.mk.injEq] at h
    obtain ⟨hp, rfl⟩ := h
    exact ⟨_, _, by kernel_rfl, e13 a b k⟩
  · cases h
abbrev Γ20 : List (Nat × Ctr) := (13, s13) :: Γ19
theorem G20 : Sound Try.prog GL0 Γ20 := G19.cons m13

-- impl.MulNum
def s7 : Ctr := fun
  | [.agg [.val (.int .i64 x_a), .val (.int .i64 x_b), .val (.int .i64 x_k)], .agg [.val (.int .i64 y_a), .val (.int .i64 y_b), .val (.int .i64 y_k)]] => some (true, opV (validB (⟨x_a, x_b, x_k⟩ : N3) && validB (⟨y_a, y_b, y_k⟩ : N3)) (mulF (⟨x_a, x_b, x_k⟩ : N3) (⟨y_a, y_b, y_k⟩ : N3)))
  | _ => none

theorem e7 (x_a : Int) (x_b : Int) (x_k : Int) (y_a : Int) (y_b : Int) (y_k : Int) : evN Try.prog GL0 Γ20 (0) [] Try.f7 [.agg [.val (.int .i64 x_a), .val (.int .i64 x_b), .val (.int .i64 x_k)], .agg [.val (.int .i64 y_a), .val (.int .i64 y_b), .val (.int .i64 y_k)]] = some (opV (validB (⟨x_a, x_b, x_k⟩ : N3) && validB (⟨y_a, y_b, y_k⟩ : N3)) (mulF (⟨x_a, x_b, x_k⟩ : N3) (⟨y_a, y_b, y_k⟩ : N3))) := by
  refine (show _ = cond (!(validB (N3.mk x_a x_b x_k) && validB (N3.mk y_a y_b y_k))) ( some ((.tup [(.agg [iv (0), iv (0), iv (0)]), bv (false)])) ) ( cond (pkm (N3.mk x_a x_b x_k) (N3.mk y_a y_b y_k)) ( cond (kB (mulF (N3.mk x_a x_b x_k) (N3.mk y_a y_b y_k)).3) ( some ((.tup [(.agg [iv (bif chkB (N3.mk (mulF (N3.mk x_a x_b x_k) (N3.mk y_a y_b y_k)).1 (mulF (N3.mk x_a x_b x_k) (N3.mk y_a y_b y_k)).2 (mulF (N3.mk x_a x_b x_k) (N3.mk y_a y_b y_k)).3) then (red (N3.mk (mulF (N3.mk x_a x_b x_k) (N3.mk y_a y_b y_k)).1 (mulF (N3.mk x_a x_b x_k) (N3.mk y_a y_b y_k)).2 (mulF (N3.mk x_a x_b x_k) (N3.mk y_a y_b y_k)).3)).1 else 0), iv (bif chkB (N3.mk (mulF (N3.mk x_a x_b x_k) (N3.mk y_a y_b y_k)).1 (mulF (N3.mk x_a x_b x_k) (N3.mk y_a y_b y_k)).2 (mulF (N3.mk x_a x_b x_k) (N3.mk y_a y_b y_k)).3) then (red (N3.mk (mulF (N3.mk x_a x_b x_k) (N3.mk y_a y_b y_k)).1 (mulF (N3.mk x_a x_b x_k) (N3.mk y_a y_b y_k)).2 (mulF (N3.mk x_a x_b x_k) (N3.mk y_a y_b y_k)).3)).2 else 0), iv (bif chkB (N3.mk (mulF (N3.mk x_a x_b x_k) (N3.mk y_a y_b y_k)).1 (mulF (N3.mk x_a x_b x_k) (N3.mk y_a y_b y_k)).2 (mulF (N3.mk x_a x_b x_k) (N3.mk y_a y_b y_k)).3) then (red (N3.mk (mulF (N3.mk x_a x_b x_k) (N3.mk y_a y_b y_k)).1 (mulF (N3.mk x_a x_b x_k) (N3.mk y_a y_b y_k)).2 (mulF (N3.mk x_a x_b x_k) (N3.mk y_a y_b y_k)).3)).3 else 0)]), bv (chkB (N3.mk (mulF (N3.mk x_a x_b x_k) (N3.mk y_a y_b y_k)).1 (mulF (N3.mk x_a x_b x_k) (N3.mk y_a y_b y_k)).2 (mulF (N3.mk x_a x_b x_k) (N3.mk y_a y_b y_k)).3))])) ) ( none ) ) ( none ) ) from by kernel_rfl).trans ?_
  cases hx : validB (⟨x_a, x_b, x_k⟩ : N3) with
  | false => simp only [hx, cond_true, cond_false, Bool.false_and, Bool.not_false]; rfl
  | true =>
    cases hy : validB (⟨y_a, y_b, y_k⟩ : N3) with
    | false => simp only [hx, hy, cond_true, cond_false, Bool.true_and, Bool.not_true, Bool.not_false]; rfl
    | true =>
      obtain ⟨h1, h2, h3, h4, h5⟩ := vpk hx hy
      simp only [hx, hy, h1, h2, h3, h4, h5, cond_true, cond_false, Bool.true_and, Bool.not_true]
      rfl
theorem m7 : Meets Try.prog GL0 7 s7 := by
  refine meetsN mix0 gl0 G20 Try.func7 (by kernel_rfl) (by kernel_rfl) s7 fun args x h => ?_
  unfold s7 at h
  split at h
  · rename_i x_a x_b x_k y_a y_b y_k
    simp only [Option.some.injEq, Prod.mk.injEq] at h
    obtain ⟨hp, rfl⟩ := h
    exact ⟨_, _, by kernel_rfl, e7 x_a x_b x_k y_a y_b y_k⟩
  · cases h
abbrev Γ21 : List (Nat × Ctr) := (7, s7) :: Γ20
theorem G21 : Sound Try.prog GL0 Γ21 := G20.cons m7

-- impl.AddNum
def s11 : Ctr := fun
  | [.agg [.val (.int .i64 x_a), .val (.int .i64 x_b), .val (.int .i64 x_k)], .agg [.val (.int .i64 y_a), .val (.int .i64 y_b), .val (.int .i64 y_k)]] => some (true, opV (validB (⟨x_a, x_b, x_k⟩ : N3) && validB (⟨y_a, y_b, y_k⟩ : N3)) (addF (⟨x_a, x_b, x_k⟩ : N3) (⟨y_a, y_b, y_k⟩ : N3)))
  | _ => none

theorem e11 (x_a : Int) (x_b : Int) (x_k : Int) (y_a : Int) (y_b : Int) (y_k : Int) : evN Try.prog GL0 Γ21 (0) [] Try.f11 [.agg [.val (.int .i64 x_a), .val (.int .i64 x_b), .val (.int .i64 x_k)], .agg [.val (.int .i64 y_a), .val (.int .i64 y_b), .val (.int .i64 y_k)]] = some (opV (validB (⟨x_a, x_b, x_k⟩ : N3) && validB (⟨y_a, y_b, y_k⟩ : N3)) (addF (⟨x_a, x_b, x_k⟩ : N3) (⟨y_a, y_b, y_k⟩ : N3))) := by
  refine (show _ = cond (!(validB (N3.mk x_a x_b x_k) && validB (N3.mk y_a y_b y_k))) ( some ((.tup [(.agg [iv (0), iv (0), iv (0)]), bv (false)])) ) ( cond (pk (N3.mk x_a x_b x_k) (N3.mk y_a y_b y_k)) ( cond (kB (addF (N3.mk x_a x_b x_k) (N3.mk y_a y_b y_k)).3) ( some ((.tup [(.agg [iv (bif chkB (N3.mk (addF (N3.mk x_a x_b x_k) (N3.mk y_a y_b y_k)).1 (addF (N3.mk x_a x_b x_k) (N3.mk y_a y_b y_k)).2 (addF (N3.mk x_a x_b x_k) (N3.mk y_a y_b y_k)).3) then (red (N3.mk (addF (N3.mk x_a x_b x_k) (N3.mk y_a y_b y_k)).1 (addF (N3.mk x_a x_b x_k) (N3.mk y_a y_b y_k)).2 (addF (N3.mk x_a x_b x_k) (N3.mk y_a y_b y_k)).3)).1 else 0), iv (bif chkB (N3.mk (addF (N3.mk x_a x_b x_k) (N3.mk y_a y_b y_k)).1 (addF (N3.mk x_a x_b x_k) (N3.mk y_a y_b y_k)).2 (addF (N3.mk x_a x_b x_k) (N3.mk y_a y_b y_k)).3) then (red (N3.mk (addF (N3.mk x_a x_b x_k) (N3.mk y_a y_b y_k)).1 (addF (N3.mk x_a x_b x_k) (N3.mk y_a y_b y_k)).2 (addF (N3.mk x_a x_b x_k) (N3.mk y_a y_b y_k)).3)).2 else 0), iv (bif chkB (N3.mk (addF (N3.mk x_a x_b x_k) (N3.mk y_a y_b y_k)).1 (addF (N3.mk x_a x_b x_k) (N3.mk y_a y_b y_k)).2 (addF (N3.mk x_a x_b x_k) (N3.mk y_a y_b y_k)).3) then (red (N3.mk (addF (N3.mk x_a x_b x_k) (N3.mk y_a y_b y_k)).1 (addF (N3.mk x_a x_b x_k) (N3.mk y_a y_b y_k)).2 (addF (N3.mk x_a x_b x_k) (N3.mk y_a y_b y_k)).3)).3 else 0)]), bv (chkB (N3.mk (addF (N3.mk x_a x_b x_k) (N3.mk y_a y_b y_k)).1 (addF (N3.mk x_a x_b x_k) (N3.mk y_a y_b y_k)).2 (addF (N3.mk x_a x_b x_k) (N3.mk y_a y_b y_k)).3))])) ) ( none ) ) ( none ) ) from by kernel_rfl).trans ?_
  cases hx : validB (⟨x_a, x_b, x_k⟩ : N3) with
  | false => simp only [hx, cond_true, cond_false, Bool.false_and, Bool.not_false]; rfl
  | true =>
    cases hy : validB (⟨y_a, y_b, y_k⟩ : N3) with
    | false => simp only [hx, hy, cond_true, cond_false, Bool.true_and, Bool.not_true, Bool.not_false]; rfl
    | true =>
      obtain ⟨h1, h2, h3, h4, h5⟩ := vpk hx hy
      simp only [hx, hy, h1, h2, h3, h4, h5, cond_true, cond_false, Bool.true_and, Bool.not_true]
      rfl
theorem m11 : Meets Try.prog GL0 11 s11 := by
  refine meetsN mix0 gl0 G21 Try.func11 (by kernel_rfl) (by kernel_rfl) s11 fun args x h => ?_
  unfold s11 at h
  split at h
  · rename_i x_a x_b x_k y_a y_b y_k
    simp only [Option.some.injEq, Prod.mk.injEq] at h
    obtain ⟨hp, rfl⟩ := h
    exact ⟨_, _, by kernel_rfl, e11 x_a x_b x_k y_a y_b y_k⟩
  · cases h
abbrev Γ22 : List (Nat × Ctr) := (11, s11) :: Γ21
theorem G22 : Sound Try.prog GL0 Γ22 := G21.cons m11

-- impl.SubNum
def s10 : Ctr := fun
  | [.agg [.val (.int .i64 x_a), .val (.int .i64 x_b), .val (.int .i64 x_k)], .agg [.val (.int .i64 y_a), .val (.int .i64 y_b), .val (.int .i64 y_k)]] => some (true, opV (validB (⟨x_a, x_b, x_k⟩ : N3) && validB (⟨y_a, y_b, y_k⟩ : N3)) (subF (⟨x_a, x_b, x_k⟩ : N3) (⟨y_a, y_b, y_k⟩ : N3)))
  | _ => none

theorem e10 (x_a : Int) (x_b : Int) (x_k : Int) (y_a : Int) (y_b : Int) (y_k : Int) : evN Try.prog GL0 Γ22 (0) [] Try.f10 [.agg [.val (.int .i64 x_a), .val (.int .i64 x_b), .val (.int .i64 x_k)], .agg [.val (.int .i64 y_a), .val (.int .i64 y_b), .val (.int .i64 y_k)]] = some (opV (validB (⟨x_a, x_b, x_k⟩ : N3) && validB (⟨y_a, y_b, y_k⟩ : N3)) (subF (⟨x_a, x_b, x_k⟩ : N3) (⟨y_a, y_b, y_k⟩ : N3))) := by
  refine (show _ = cond (!(validB (N3.mk x_a x_b x_k) && validB (N3.mk y_a y_b y_k))) ( some ((.tup [(.agg [iv (0), iv (0), iv (0)]), bv (false)])) ) ( cond (pk (N3.mk x_a x_b x_k) (N3.mk y_a y_b y_k)) ( cond (kB (subF (N3.mk x_a x_b x_k) (N3.mk y_a y_b y_k)).3) ( some ((.tup [(.agg [iv (bif chkB (N3.mk (subF (N3.mk x_a x_b x_k) (N3.mk y_a y_b y_k)).1 (subF (N3.mk x_a x_b x_k) (N3.mk y_a y_b y_k)).2 (subF (N3.mk x_a x_b x_k) (N3.mk y_a y_b y_k)).3) then (red (N3.mk (subF (N3.mk x_a x_b x_k) (N3.mk y_a y_b y_k)).1 (subF (N3.mk x_a x_b x_k) (N3.mk y_a y_b y_k)).2 (subF (N3.mk x_a x_b x_k) (N3.mk y_a y_b y_k)).3)).1 else 0), iv (bif chkB (N3.mk (subF (N3.mk x_a x_b x_k) (N3.mk y_a y_b y_k)).1 (subF (N3.mk x_a x_b x_k) (N3.mk y_a y_b y_k)).2 (subF (N3.mk x_a x_b x_k) (N3.mk y_a y_b y_k)).3) then (red (N3.mk (subF (N3.mk x_a x_b x_k) (N3.mk y_a y_b y_k)).1 (subF (N3.mk x_a x_b x_k) (N3.mk y_a y_b y_k)).2 (subF (N3.mk x_a x_b x_k) (N3.mk y_a y_b y_k)).3)).2 else 0), iv (bif chkB (N3.mk (subF (N3.mk x_a x_b x_k) (N3.mk y_a y_b y_k)).1 (subF (N3.mk x_a x_b x_k) (N3.mk y_a y_b y_k)).2 (subF (N3.mk x_a x_b x_k) (N3.mk y_a y_b y_k)).3) then (red (N3.mk (subF (N3.mk x_a x_b x_k) (N3.mk y_a y_b y_k)).1 (subF (N3.mk x_a x_b x_k) (N3.mk y_a y_b y_k)).2 (subF (N3.mk x_a x_b x_k) (N3.mk y_a y_b y_k)).3)).3 else 0)]), bv (chkB (N3.mk (subF (N3.mk x_a x_b x_k) (N3.mk y_a y_b y_k)).1 (subF (N3.mk x_a x_b x_k) (N3.mk y_a y_b y_k)).2 (subF (N3.mk x_a x_b x_k) (N3.mk y_a y_b y_k)).3))])) ) ( none ) ) ( none ) ) from by kernel_rfl).trans ?_
  cases hx : validB (⟨x_a, x_b, x_k⟩ : N3) with
  | false => simp only [hx, cond_true, cond_false, Bool.false_and, Bool.not_false]; rfl
  | true =>
    cases hy : validB (⟨y_a, y_b, y_k⟩ : N3) with
    | false => simp only [hx, hy, cond_true, cond_false, Bool.true_and, Bool.not_true, Bool.not_false]; rfl
    | true =>
      obtain ⟨h1, h2, h3, h4, h5⟩ := vpk hx hy
      simp only [hx, hy, h1, h2, h3, h4, h5, cond_true, cond_false, Bool.true_and, Bool.not_true]
      rfl
theorem m10 : Meets Try.prog GL0 10 s10 := by
  refine meetsN mix0 gl0 G22 Try.func10 (by kernel_rfl) (by kernel_rfl) s10 fun args x h => ?_
  unfold s10 at h
  split at h
  · rename_i x_a x_b x_k y_a y_b y_k
    simp only [Option.some.injEq, Prod.mk.injEq] at h
    obtain ⟨hp, rfl⟩ := h
    exact ⟨_, _, by kernel_rfl, e10 x_a x_b x_k y_a y_b y_k⟩
  · cases h
abbrev Γ23 : List (Nat × Ctr) := (10, s10) :: Γ22
theorem G23 : Sound Try.prog GL0 Γ23 := G22.cons m10

-- (impl.Num).over
def s40 : Ctr := fun
  | [.agg [.val (.int .i64 x_a), .val (.int .i64 x_b), .val (.int .i64 x_k)], .agg [.val (.int .i64 y_a), .val (.int .i64 y_b), .val (.int .i64 y_k)]] => some (dvP (⟨x_a, x_b, x_k⟩ : N3) (⟨y_a, y_b, y_k⟩ : N3), dvR (⟨x_a, x_b, x_k⟩ : N3) (⟨y_a, y_b, y_k⟩ : N3))
  | _ => none

theorem r40_step (K m : Nat) (n a b k : Int) : runL Try.prog GL0 Γ23 K [false, false, false, false, true, true, true, true] Try.f40 0 (m + 1) (stL Try.f40.ntmps [.non, .non, .non, .non, .own 24 [iv 0, iv 0, iv 0], bv false, iv (n), .own 24 [iv (a), iv (b), iv (k)]]) = cond (and64 n 1 == 0) (runL Try.prog GL0 Γ23 K [false, false, false, false, true, true, true, true] Try.f40 0 m (stL Try.f40.ntmps [.non, .non, .non, .non, .own 24 [iv 0, iv 0, iv 0], bv false, iv (wr (n.tdiv 2)), .own 24 [iv (a), iv (b), iv (wr (k + 1))]])) (implEnd n a b k) := by kernel_rfl
theorem r40_run (K : Nat) : ∀ (f : Nat) (n a b k : Int) (m : Nat), n ≠ 0 → n.natAbs < 2 ^ f → f ≤ 60 → -1000000 ≤ k → k + f ≤ 1000000 → f < m →
    runL Try.prog GL0 Γ23 K [false, false, false, false, true, true, true, true] Try.f40 0 m (stL Try.f40.ntmps [.non, .non, .non, .non, .own 24 [iv 0, iv 0, iv 0], bv false, iv (n), .own 24 [iv (a), iv (b), iv (k)]]) = implEnd (oddL f n k).1 a b (oddL f n k).2 := by
  intro f
  induction f with
  | zero => intro n a b k m hn hf; simp at hf; omega
  | succ f ih =>
    intro n a b k m hn hf hf60 hk hk' hm
    obtain ⟨m, rfl⟩ : ∃ m', m = m' + 1 := ⟨m - 1, by omega⟩
    have h60 : (2 : Nat) ^ (f + 1) ≤ 2 ^ 60 := Nat.pow_le_pow_right (by decide) hf60
    have e60 : (2 : Nat) ^ 60 = 1152921504606846976 := by decide
    rw [r40_step]
    rw [and64_one, show ((n % 2 == 0) = !odd n) from odd_zero n]
    cases ho : odd n with
    | true =>
      have e : oddL (f + 1) n k = (n, k) := by unfold oddL; rw [ho]; rfl
      rw [e]
      rfl
    | false =>
      obtain ⟨h1, h2⟩ := tdiv_two ho
      have e : oddL (f + 1) n k = oddL f (n.tdiv 2) (k + 1) := by conv => lhs; unfold oddL
                                                                  rw [ho]; rfl
      rw [e, Bool.not_false, cond_true, wr_in (n := n.tdiv 2) (by omega) (by omega), wr_in (n := k + 1) (by omega) (by omega)]
      exact ih _ _ _ _ _ (by omega) (by rw [Nat.pow_succ] at hf; omega) (by omega) (by omega) (by omega) (by omega)
theorem e40 (x_a : Int) (x_b : Int) (x_k : Int) (y_a : Int) (y_b : Int) (y_k : Int) (hp : (dvP (⟨x_a, x_b, x_k⟩ : N3) (⟨y_a, y_b, y_k⟩ : N3)) = true) : evN Try.prog GL0 Γ23 (70) [false, false, false, false, true, true, true, true] Try.f40 [.agg [.val (.int .i64 x_a), .val (.int .i64 x_b), .val (.int .i64 x_k)], .agg [.val (.int .i64 y_a), .val (.int .i64 y_b), .val (.int .i64 y_k)]] = some (dvR (⟨x_a, x_b, x_k⟩ : N3) (⟨y_a, y_b, y_k⟩ : N3)) := by
  refine (show _ = cond (divN (⟨y_a, y_b, y_k⟩ : N3) == 0) (some dvNo) (cond (pkm (⟨x_a, x_b, x_k⟩ : N3) (divC (⟨y_a, y_b, y_k⟩ : N3))) (runL Try.prog GL0 Γ23 70 [false, false, false, false, true, true, true, true] Try.f40 0 70 (stL Try.f40.ntmps [.non, .non, .non, .non, .own 24 [iv 0, iv 0, iv 0], bv false, iv (divN (⟨y_a, y_b, y_k⟩ : N3)), .own 24 [iv ((divT (⟨x_a, x_b, x_k⟩ : N3) (⟨y_a, y_b, y_k⟩ : N3)).a), iv ((divT (⟨x_a, x_b, x_k⟩ : N3) (⟨y_a, y_b, y_k⟩ : N3)).b), iv (wr ((divT (⟨x_a, x_b, x_k⟩ : N3) (⟨y_a, y_b, y_k⟩ : N3)).k - y_k))]])) none) from by kernel_rfl).trans ?_
  obtain ⟨ra, rb, rA, rB, rM, _, rN⟩ := raw_bd hp
  obtain ⟨⟨_, _, xk, xk'⟩, _, _, yk, yk'⟩ := dvP_iff.1 hp
  simp only at xk xk' yk yk'
  by_cases hz : divN (⟨y_a, y_b, y_k⟩ : N3) = 0
  · have hz' : (divN (⟨y_a, y_b, y_k⟩ : N3) == 0) = true := by simpa using hz
    rw [hz', cond_true]
    unfold dvR dvOk
    rw [hz']
    rfl
  have hz' : (divN (⟨y_a, y_b, y_k⟩ : N3) == 0) = false := by simpa using hz
  rw [hz', cond_false]
  obtain ⟨o1, o2, o3, _, _, _⟩ := dv_same hp hz
  have hb : (divN (⟨y_a, y_b, y_k⟩ : N3)).natAbs < 2 ^ 60 := by
    have : (2 : Nat) ^ 60 = 1152921504606846976 := by decide
    omega
  rw [pkm_div hp, cond_true, wr_in (n := (divT (⟨x_a, x_b, x_k⟩ : N3) (⟨y_a, y_b, y_k⟩ : N3)).k - y_k) (by omega) (by omega), r40_run 70 60 _ _ _ _ 70 hz hb (by decide) (by omega) (by omega) (by decide), oddL_shift]
  exact implEnd_eq hp hz
theorem m40 : Meets Try.prog GL0 40 s40 := by
  refine meetsN mix0 gl0 G23 Try.func40 (by kernel_rfl) (by kernel_rfl) s40 fun args x h => ?_
  unfold s40 at h
  split at h
  · rename_i x_a x_b x_k y_a y_b y_k
    simp only [Option.some.injEq, Prod.mk.injEq] at h
    obtain ⟨hp, rfl⟩ := h
    exact ⟨_, _, by kernel_rfl, e40 x_a x_b x_k y_a y_b y_k hp⟩
  · cases h
abbrev Γ24 : List (Nat × Ctr) := (40, s40) :: Γ23
theorem G24 : Sound Try.prog GL0 Γ24 := G23.cons m40

-- spec.l01Div
def s42 : Ctr := fun
  | [.agg [.val (.int .i64 x_a), .val (.int .i64 x_b), .val (.int .i64 x_k)], .agg [.val (.int .i64 y_a), .val (.int .i64 y_b), .val (.int .i64 y_k)]] => some (dvP (⟨x_a, x_b, x_k⟩ : N3) (⟨y_a, y_b, y_k⟩ : N3), dvR (⟨x_a, x_b, x_k⟩ : N3) (⟨y_a, y_b, y_k⟩ : N3))
  | _ => none

theorem r42_step1 (K m : Nat) (n a b k c ya yb yk : Int) : runL Try.prog GL0 Γ24 K [false, false, false, true, true, true, true, true, true] Try.f42 1 (m + 1) (stL Try.f42.ntmps [.non, .non, .non, .own 62 [iv ya, iv yb, iv yk], .own 62 [iv 0, iv 0, iv 0], bv false, iv (n), .own 62 [iv (a), iv (b), iv (k)], iv (c)]) = cond (decide (c > 0)) (cond (decide (k > 0)) (runL Try.prog GL0 Γ24 K [false, false, false, true, true, true, true, true, true] Try.f42 1 m (stL Try.f42.ntmps [.non, .non, .non, .own 62 [iv ya, iv yb, iv yk], .own 62 [iv 0, iv 0, iv 0], bv false, iv (n), .own 62 [iv (a), iv (b), iv (wr (k - 1))], iv (wr (c - 1))])) (runL Try.prog GL0 Γ24 K [false, false, false, true, true, true, true, true, true] Try.f42 1 m (stL Try.f42.ntmps [.non, .non, .non, .own 62 [iv ya, iv yb, iv yk], .own 62 [iv 0, iv 0, iv 0], bv false, iv (n), .own 62 [iv (wr (a * 2)), iv (wr (b * 2)), iv (k)], iv (wr (c - 1))]))) (cond (kB k) (some (dvYes (red ⟨a, b, k⟩))) none) := by kernel_rfl
theorem r42_run1 (K : Nat) (ya yb yk n : Int) : ∀ (c : Nat) (a b k : Int) (m : Nat), 0 ≤ k → k ≤ 1000000 → c ≤ 1000000 → c < m → runL Try.prog GL0 Γ24 K [false, false, false, true, true, true, true, true, true] Try.f42 1 m (stL Try.f42.ntmps [.non, .non, .non, .own 62 [iv ya, iv yb, iv yk], .own 62 [iv 0, iv 0, iv 0], bv false, iv (n), .own 62 [iv (a), iv (b), iv (k)], iv ((c : Int))]) = some (dvYes (red (decF c a b k))) := by
  intro c
  induction c with
  | zero =>
    intro a b k m h0 h1 h2 h3
    obtain ⟨m, rfl⟩ : ∃ m', m = m' + 1 := ⟨m - 1, by omega⟩
    rw [r42_step1, show decide (((0 : Nat) : Int) > 0) = false from rfl, kB_iff.2 ⟨h0, by omega⟩]
    rfl
  | succ c ih =>
    intro a b k m h0 h1 h2 h3
    obtain ⟨m, rfl⟩ : ∃ m', m = m' + 1 := ⟨m - 1, by omega⟩
    have hc : decide (((c + 1 : Nat) : Int) > 0) = true := by rw [decide_eq_true_eq]; omega
    have hw : wr (((c + 1 : Nat) : Int) - 1) = (c : Int) := by rw [wr_in (by omega) (by omega)]; omega
    rw [r42_step1, hc, cond_true, hw]
    unfold decF
    by_cases hk : k > 0
    · rw [wr_in (n := k - 1) (by omega) (by omega), ih _ _ (k - 1) _ (by omega) (by omega) (by omega) (by omega)]
      simp only [hk, decide_true, cond_true, if_true]
    · rw [ih _ _ k _ (by omega) (by omega) (by omega) (by omega)]
      simp only [hk, decide_false, cond_false, if_false]
theorem r42_step (K m : Nat) (n a b k ya yb yk : Int) : runL Try.prog GL0 Γ24 K [false, false, false, true, true, true, true, true, true] Try.f42 0 (m + 1) (stL Try.f42.ntmps [.non, .non, .non, .own 62 [iv ya, iv yb, iv yk], .own 62 [iv 0, iv 0, iv 0], bv false, iv (n), .own 62 [iv (a), iv (b), iv (k)]]) = cond (n.tmod 2 == 0) (runL Try.prog GL0 Γ24 K [false, false, false, true, true, true, true, true, true] Try.f42 0 m (stL Try.f42.ntmps [.non, .non, .non, .own 62 [iv ya, iv yb, iv yk], .own 62 [iv 0, iv 0, iv 0], bv false, iv (wr (n.tdiv 2)), .own 62 [iv (a), iv (b), iv (wr (k + 1))]])) (specEnd (fun a b => runL Try.prog GL0 Γ24 K [false, false, false, true, true, true, true, true, true] Try.f42 1 K (stL Try.f42.ntmps [.non, .non, .non, .own 62 [iv ya, iv yb, iv yk], .own 62 [iv 0, iv 0, iv 0], bv false, iv (n), .own 62 [iv (a), iv (b), iv (k)], iv (yk)])) n a b) := by kernel_rfl
theorem r42_run (K : Nat) (ya yb yk : Int) : ∀ (f : Nat) (n a b k : Int) (m : Nat), n ≠ 0 → n.natAbs < 2 ^ f → f ≤ 60 → -1000000 ≤ k → k + f ≤ 1000000 → f < m →
    runL Try.prog GL0 Γ24 K [false, false, false, true, true, true, true, true, true] Try.f42 0 m (stL Try.f42.ntmps [.non, .non, .non, .own 62 [iv ya, iv yb, iv yk], .own 62 [iv 0, iv 0, iv 0], bv false, iv (n), .own 62 [iv (a), iv (b), iv (k)]]) = specEnd (fun a b => runL Try.prog GL0 Γ24 K [false, false, false, true, true, true, true, true, true] Try.f42 1 K (stL Try.f42.ntmps [.non, .non, .non, .own 62 [iv ya, iv yb, iv yk], .own 62 [iv 0, iv 0, iv 0], bv false, iv ((oddL f n k).1), .own 62 [iv (a), iv (b), iv ((oddL f n k).2)], iv (yk)])) (oddL f n k).1 a b := by
  intro f
  induction f with
  | zero => intro n a b k m hn hf; simp at hf; omega
  | succ f ih =>
    intro n a b k m hn hf hf60 hk hk' hm
    obtain ⟨m, rfl⟩ : ∃ m', m = m' + 1 := ⟨m - 1, by omega⟩
    have h60 : (2 : Nat) ^ (f + 1) ≤ 2 ^ 60 := Nat.pow_le_pow_right (by decide) hf60
    have e60 : (2 : Nat) ^ 60 = 1152921504606846976 := by decide
    rw [r42_step]
    rw [tmod_zero]
    cases ho : odd n with
    | true =>
      have e : oddL (f + 1) n k = (n, k) := by unfold oddL; rw [ho]; rfl
      rw [e]
      rfl
    | false =>
      obtain ⟨h1, h2⟩ := tdiv_two ho
      have e : oddL (f + 1) n k = oddL f (n.tdiv 2) (k + 1) := by conv => lhs; unfold oddL
                                                                  rw [ho]; rfl
      rw [e, Bool.not_false, cond_true, wr_in (n := n.tdiv 2) (by omega) (by omega), wr_in (n := k + 1) (by omega) (by omega)]
      exact ih _ _ _ _ _ (by omega) (by rw [Nat.pow_succ] at hf; omega) (by omega) (by omega) (by omega) (by omega)
theorem e42 (x_a : Int) (x_b : Int) (x_k : Int) (y_a : Int) (y_b : Int) (y_k : Int) (hp : (dvP (⟨x_a, x_b, x_k⟩ : N3) (⟨y_a, y_b, y_k⟩ : N3)) = true) : evN Try.prog GL0 Γ24 (70) [false, false, false, true, true, true, true, true, true] Try.f42 [.agg [.val (.int .i64 x_a), .val (.int .i64 x_b), .val (.int .i64 x_k)], .agg [.val (.int .i64 y_a), .val (.int .i64 y_b), .val (.int .i64 y_k)]] = some (dvR (⟨x_a, x_b, x_k⟩ : N3) (⟨y_a, y_b, y_k⟩ : N3)) := by
  refine (show _ = cond (divN (⟨y_a, y_b, y_k⟩ : N3) == 0) (some dvNo) (runL Try.prog GL0 Γ24 70 [false, false, false, true, true, true, true, true, true] Try.f42 0 70 (stL Try.f42.ntmps [.non, .non, .non, .own 62 [iv y_a, iv y_b, iv y_k], .own 62 [iv 0, iv 0, iv 0], bv false, iv (divN (⟨y_a, y_b, y_k⟩ : N3)), .own 62 [iv (wr (wr (x_a * y_a) - wr (wr (2 * x_b) * y_b))), iv (wr (wr (x_b * y_a) - wr (x_a * y_b))), iv (x_k)]])) from by kernel_rfl).trans ?_
  obtain ⟨ra, rb, rA, rB, rM, _, rN⟩ := raw_bd hp
  obtain ⟨⟨_, _, xk, xk'⟩, _, _, yk, yk'⟩ := dvP_iff.1 hp
  simp only at xk xk' yk yk'
  by_cases hz : divN (⟨y_a, y_b, y_k⟩ : N3) = 0
  · have hz' : (divN (⟨y_a, y_b, y_k⟩ : N3) == 0) = true := by simpa using hz
    rw [hz', cond_true]
    unfold dvR dvOk
    rw [hz']
    rfl
  have hz' : (divN (⟨y_a, y_b, y_k⟩ : N3) == 0) = false := by simpa using hz
  rw [hz', cond_false]
  obtain ⟨o1, o2, o3, _, _, _⟩ := dv_same hp hz
  have hb : (divN (⟨y_a, y_b, y_k⟩ : N3)).natAbs < 2 ^ 60 := by
    have : (2 : Nat) ^ 60 = 1152921504606846976 := by decide
    omega
  simp only at rA rB
  rw [rA, rB, r42_run 70 y_a y_b y_k 60 _ _ _ _ 70 hz hb (by decide) (by omega) (by omega) (by decide), oddL_shift]
  refine specEnd_eq hp hz _ fun a b => ?_
  have hy : y_k = ((y_k.toNat : Nat) : Int) := by omega
  conv => lhs; rw [hy]
  exact r42_run1 70 y_a y_b _ _ y_k.toNat a b _ 70 (by show 0 ≤ x_k + dvE (⟨y_a, y_b, y_k⟩ : N3); omega) (by show x_k + dvE (⟨y_a, y_b, y_k⟩ : N3) ≤ _; omega) (by omega) (by omega)
theorem m42 : Meets Try.prog GL0 42 s42 := by
  refine meetsN mix0 gl0 G24 Try.func42 (by kernel_rfl) (by kernel_rfl) s42 fun args x h => ?_
  unfold s42 at h
  split at h
  · rename_i x_a x_b x_k y_a y_b y_k
    simp only [Option.some.injEq, Prod.mk.injEq] at h
    obtain ⟨hp, rfl⟩ := h
    exact ⟨_, _, by kernel_rfl, e42 x_a x_b x_k y_a y_b y_k hp⟩
  · cases h
abbrev Γ25 : List (Nat × Ctr) := (42, s42) :: Γ24
theorem G25 : Sound Try.prog GL0 Γ25 := G24.cons m42

-- impl.DivNum
def s14 : Ctr := fun
  | [.agg [.val (.int .i64 x_a), .val (.int .i64 x_b), .val (.int .i64 x_k)], .agg [.val (.int .i64 y_a), .val (.int .i64 y_b), .val (.int .i64 y_k)]] => some (true, opV ((validB (⟨x_a, x_b, x_k⟩ : N3) && validB (⟨y_a, y_b, y_k⟩ : N3)) && dvOk (⟨x_a, x_b, x_k⟩ : N3) (⟨y_a, y_b, y_k⟩ : N3)) (dvV (⟨x_a, x_b, x_k⟩ : N3) (⟨y_a, y_b, y_k⟩ : N3)))
  | _ => none

theorem e14 (x_a : Int) (x_b : Int) (x_k : Int) (y_a : Int) (y_b : Int) (y_k : Int) : evN Try.prog GL0 Γ25 (0) [] Try.f14 [.agg [.val (.int .i64 x_a), .val (.int .i64 x_b), .val (.int .i64 x_k)], .agg [.val (.int .i64 y_a), .val (.int .i64 y_b), .val (.int .i64 y_k)]] = some (opV ((validB (⟨x_a, x_b, x_k⟩ : N3) && validB (⟨y_a, y_b, y_k⟩ : N3)) && dvOk (⟨x_a, x_b, x_k⟩ : N3) (⟨y_a, y_b, y_k⟩ : N3)) (dvV (⟨x_a, x_b, x_k⟩ : N3) (⟨y_a, y_b, y_k⟩ : N3))) := by
  refine (show _ = cond (!(validB (⟨x_a, x_b, x_k⟩ : N3) && validB (⟨y_a, y_b, y_k⟩ : N3))) (some (.tup [z3.av, bv false])) (cond (dvP (⟨x_a, x_b, x_k⟩ : N3) (⟨y_a, y_b, y_k⟩ : N3)) (cond (!dvOk (⟨x_a, x_b, x_k⟩ : N3) (⟨y_a, y_b, y_k⟩ : N3)) (some (.tup [z3.av, bv false])) (cond (kB (sel (dvOk (⟨x_a, x_b, x_k⟩ : N3) (⟨y_a, y_b, y_k⟩ : N3)) (dvV (⟨x_a, x_b, x_k⟩ : N3) (⟨y_a, y_b, y_k⟩ : N3))).k) (some (.tup [(chk (sel (dvOk (⟨x_a, x_b, x_k⟩ : N3) (⟨y_a, y_b, y_k⟩ : N3)) (dvV (⟨x_a, x_b, x_k⟩ : N3) (⟨y_a, y_b, y_k⟩ : N3)))).av, bv (chkB (sel (dvOk (⟨x_a, x_b, x_k⟩ : N3) (⟨y_a, y_b, y_k⟩ : N3)) (dvV (⟨x_a, x_b, x_k⟩ : N3) (⟨y_a, y_b, y_k⟩ : N3))))])) none)) none) from by kernel_rfl).trans ?_
  cases hx : validB (⟨x_a, x_b, x_k⟩ : N3) with
  | false => rfl
  | true =>
    cases hy : validB (⟨y_a, y_b, y_k⟩ : N3) with
    | false => rfl
    | true =>
      have hp := valid_dvP hx hy
      rw [hp]
      cases hd : dvOk (⟨x_a, x_b, x_k⟩ : N3) (⟨y_a, y_b, y_k⟩ : N3) with
      | false => rfl
      | true =>
        have hn : divN (⟨y_a, y_b, y_k⟩ : N3) ≠ 0 := fun e => by
          have e' : (divN (⟨y_a, y_b, y_k⟩ : N3) == 0) = true := by simpa using e
          unfold dvOk at hd
          rw [e'] at hd
          cases hd
        have hk := dvV_k hp hn
        simp only [Bool.not_true, Bool.true_and, cond_true, cond_false, sel_true]
        rw [hk]
        simp only [cond_true, opV, chk, Bool.true_and, sel_true]
        try (cases chkB (dvV (⟨x_a, x_b, x_k⟩ : N3) (⟨y_a, y_b, y_k⟩ : N3)) <;> rfl)
theorem m14 : Meets Try.prog GL0 14 s14 := by
  refine meetsN mix0 gl0 G25 Try.func14 (by kernel_rfl) (by kernel_rfl) s14 fun args x h => ?_
  unfold s14 at h
  split at h
  · rename_i x_a x_b x_k y_a y_b y_k
    simp only [Option.some.injEq, Prod.mk.injEq] at h
    obtain ⟨hp, rfl⟩ := h
    exact ⟨_, _, by kernel_rfl, e14 x_a x_b x_k y_a y_b y_k⟩
  · cases h
abbrev Γ26 : List (Nat × Ctr) := (14, s14) :: Γ25
theorem G26 : Sound Try.prog GL0 Γ26 := G25.cons m14

-- spec.DivNum
def s15 : Ctr := fun
  | [.agg [.val (.int .i64 x_a), .val (.int .i64 x_b), .val (.int .i64 x_k)], .agg [.val (.int .i64 y_a), .val (.int .i64 y_b), .val (.int .i64 y_k)]] => some (true, opV ((validB (⟨x_a, x_b, x_k⟩ : N3) && validB (⟨y_a, y_b, y_k⟩ : N3)) && dvOk (⟨x_a, x_b, x_k⟩ : N3) (⟨y_a, y_b, y_k⟩ : N3)) (dvV (⟨x_a, x_b, x_k⟩ : N3) (⟨y_a, y_b, y_k⟩ : N3)))
  | _ => none

theorem e15 (x_a : Int) (x_b : Int) (x_k : Int) (y_a : Int) (y_b : Int) (y_k : Int) : evN Try.prog GL0 Γ26 (0) [] Try.f15 [.agg [.val (.int .i64 x_a), .val (.int .i64 x_b), .val (.int .i64 x_k)], .agg [.val (.int .i64 y_a), .val (.int .i64 y_b), .val (.int .i64 y_k)]] = some (opV ((validB (⟨x_a, x_b, x_k⟩ : N3) && validB (⟨y_a, y_b, y_k⟩ : N3)) && dvOk (⟨x_a, x_b, x_k⟩ : N3) (⟨y_a, y_b, y_k⟩ : N3)) (dvV (⟨x_a, x_b, x_k⟩ : N3) (⟨y_a, y_b, y_k⟩ : N3))) := by
  refine (show _ = cond (!validB (⟨x_a, x_b, x_k⟩ : N3)) (some (.tup [z3.av, bv false])) (cond (!validB (⟨y_a, y_b, y_k⟩ : N3)) (some (.tup [z3.av, bv false])) (cond (dvP (⟨x_a, x_b, x_k⟩ : N3) (⟨y_a, y_b, y_k⟩ : N3)) (cond (!dvOk (⟨x_a, x_b, x_k⟩ : N3) (⟨y_a, y_b, y_k⟩ : N3)) (some (.tup [z3.av, bv false])) (cond (kB (sel (dvOk (⟨x_a, x_b, x_k⟩ : N3) (⟨y_a, y_b, y_k⟩ : N3)) (dvV (⟨x_a, x_b, x_k⟩ : N3) (⟨y_a, y_b, y_k⟩ : N3))).k) (some (.tup [(chk (sel (dvOk (⟨x_a, x_b, x_k⟩ : N3) (⟨y_a, y_b, y_k⟩ : N3)) (dvV (⟨x_a, x_b, x_k⟩ : N3) (⟨y_a, y_b, y_k⟩ : N3)))).av, bv (chkB (sel (dvOk (⟨x_a, x_b, x_k⟩ : N3) (⟨y_a, y_b, y_k⟩ : N3)) (dvV (⟨x_a, x_b, x_k⟩ : N3) (⟨y_a, y_b, y_k⟩ : N3))))])) none)) none)) from by kernel_rfl).trans ?_
  cases hx : validB (⟨x_a, x_b, x_k⟩ : N3) with
  | false => rfl
  | true =>
    cases hy : validB (⟨y_a, y_b, y_k⟩ : N3) with
    | false => rfl
    | true =>
      have hp := valid_dvP hx hy
      rw [hp]
      cases hd : dvOk (⟨x_a, x_b, x_k⟩ : N3) (⟨y_a, y_b, y_k⟩ : N3) with
      | false => rfl
      | true =>
        have hn : divN (⟨y_a, y_b, y_k⟩ : N3) ≠ 0 := fun e => by
          have e' : (divN (⟨y_a, y_b, y_k⟩ : N3) == 0) = true := by simpa using e
          unfold dvOk at hd
          rw [e'] at hd
          cases hd
        have hk := dvV_k hp hn
        simp only [Bool.not_true, Bool.true_and, cond_true, cond_false, sel_true]
        rw [hk]
        simp only [cond_true, opV, chk, Bool.true_and, sel_true]
        try (cases chkB (dvV (⟨x_a, x_b, x_k⟩ : N3) (⟨y_a, y_b, y_k⟩ : N3)) <;> rfl)
theorem m15 : Meets Try.prog GL0 15 s15 := by
  refine meetsN mix0 gl0 G26 Try.func15 (by kernel_rfl) (by kernel_rfl) s15 fun args x h => ?_
  unfold s15 at h
  split at h
  · rename_i x_a x_b x_k y_a y_b y_k
    simp only [Option.some.injEq, Prod.mk.injEq] at h
    obtain ⟨hp, rfl⟩ := h
    exact ⟨_, _, by kernel_rfl, e15 x_a x_b x_k y_a y_b y_k⟩
  · cases h
abbrev Γ27 : List (Nat × Ctr) := (15, s15) :: Γ26
theorem G27 : Sound Try.prog GL0 Γ27 := G26.cons m15

end Go.Proofs.Ytigmgpblnoecpaa
