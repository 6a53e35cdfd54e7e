/- Contracts of the program's functions, by the evaluator. -/
import Derived.Test.YtbfdppnmojionaaDoorProg
import Derived.Test.YtbfdppnmojionaaDoorNumG
namespace Go.Proofs.YtbfdppnmojionaaDoor
open Go.Ev
set_option linter.unusedVariables false
set_option linter.unusedSimpArgs false
set_option maxRecDepth 100000

def GLv : Nat → AV := fun g => match Nat.beq g 1 with
  | true => .eptr [iv (1), iv (0), iv (0), iv (0), iv (0), iv (0), iv (1), iv (0), iv (0), iv (-1), iv (1), iv (0), iv (1), iv (0), iv (0), iv (1), iv (0), iv (0), iv (-1), iv (1), iv (0), iv (1), iv (0), iv (0), iv (0), iv (0), iv (0), iv (1), iv (0), iv (0), iv (1), iv (-1), iv (0), iv (1), iv (0), iv (0), iv (-1), iv (0), iv (0), iv (1), iv (0), iv (0), iv (-1), iv (0), iv (0), iv (-1), iv (1), iv (0)]
  | false => .non
theorem glv : ∀ g' g k, GLv g' ≠ .ref g k := fun g' g k => by
  unfold GLv
  split <;> (intro h; cases h)

theorem mix0 : Tryd.prog.follows .mixedOrders = true := by kernel_rfl
abbrev Γ0 : List (Nat × Ctr) := []
theorem G0 : Sound Tryd.prog GLv Γ0 := Sound.nil

-- impl.within
def s83 : Ctr := fun
  | [.val (.int .i64 x), .val (.int .i64 lo), .val (.int .i64 hi)] => some (true, bv (inB x lo hi))
  | _ => none

theorem e83 (x : Int) (lo : Int) (hi : Int) : evN Tryd.prog GLv Γ0 (0) [] Tryd.f83 [.val (.int .i64 x), .val (.int .i64 lo), .val (.int .i64 hi)] = some (bv (inB x lo hi)) := by
  refine (show _ = cond (decide (x ≥ lo)) ( some (bv (decide (x ≤ hi))) ) ( some (bv (false)) ) from by kernel_rfl).trans ?_
  simp only [inB]
  cases decide (x ≥ lo) <;> rfl
theorem m83 : Meets Tryd.prog GLv 83 s83 := by
  refine meetsN mix0 glv G0 Tryd.func83 (by kernel_rfl) (by kernel_rfl) s83 fun args x h => ?_
  unfold s83 at h
  split at h
  · rename_i x lo hi
    simp only [Option.some.injEq, Prod.mk.injEq] at h
    obtain ⟨hp, rfl⟩ := h
    exact ⟨_, _, by kernel_rfl, e83 x lo hi⟩
  · cases h
abbrev Γ1 : List (Nat × Ctr) := (83, s83) :: Γ0
theorem G1 : Sound Tryd.prog GLv Γ1 := G0.cons m83

-- spec.l00In
def s129 : Ctr := fun
  | [.val (.int .i64 x), .val (.int .i64 lo), .val (.int .i64 hi)] => some (true, bv (inB x lo hi))
  | _ => none

theorem e129 (x : Int) (lo : Int) (hi : Int) : evN Tryd.prog GLv Γ1 (0) [] Tryd.f129 [.val (.int .i64 x), .val (.int .i64 lo), .val (.int .i64 hi)] = some (bv (inB x lo hi)) := by
  refine (show _ = cond (decide (x ≥ lo)) ( some (bv (decide (x ≤ hi))) ) ( some (bv (false)) ) from by kernel_rfl).trans ?_
  simp only [inB]
  cases decide (x ≥ lo) <;> rfl
theorem m129 : Meets Tryd.prog GLv 129 s129 := by
  refine meetsN mix0 glv G1 Tryd.func129 (by kernel_rfl) (by kernel_rfl) s129 fun args x h => ?_
  unfold s129 at h
  split at h
  · rename_i x lo hi
    simp only [Option.some.injEq, Prod.mk.injEq] at h
    obtain ⟨hp, rfl⟩ := h
    exact ⟨_, _, by kernel_rfl, e129 x lo hi⟩
  · cases h
abbrev Γ2 : List (Nat × Ctr) := (129, s129) :: Γ1
theorem G2 : Sound Tryd.prog GLv Γ2 := G1.cons m129

-- (impl.Num).reduced
def s165 : Ctr := fun
  | [.agg [.val (.int .i64 x_a), .val (.int .i64 x_b), .val (.int .i64 x_k)]] => some (kB x_k, (red (⟨x_a, x_b, x_k⟩ : N3)).av)
  | _ => none

theorem r165_step (K n : Nat) (a b k : Int) : runL Tryd.prog GLv Γ2 K [false, true, true] Tryd.f165 0 (n + 1) (stL Tryd.f165.ntmps [.non, .own 26 [iv (a), iv (b), iv (k)], .own 26 [iv 0, iv 0, iv 0]]) = cond (decide (k > 0)) (cond (and64 a 1 == 0) (cond (and64 b 1 == 0) (cond (wr (a.tdiv 2) == 0) (cond (wr (b.tdiv 2) == 0) (runL Tryd.prog GLv Γ2 K [false, true, true] Tryd.f165 0 n (stL Tryd.f165.ntmps [.non, .own 26 [iv (wr (a.tdiv 2)), iv (wr (b.tdiv 2)), iv (0)], .own 26 [iv 0, iv 0, iv 0]])) (runL Tryd.prog GLv Γ2 K [false, true, true] Tryd.f165 0 n (stL Tryd.f165.ntmps [.non, .own 26 [iv (wr (a.tdiv 2)), iv (wr (b.tdiv 2)), iv (wr (k - 1))], .own 26 [iv 0, iv 0, iv 0]]))) (runL Tryd.prog GLv Γ2 K [false, true, true] Tryd.f165 0 n (stL Tryd.f165.ntmps [.non, .own 26 [iv (wr (a.tdiv 2)), iv (wr (b.tdiv 2)), iv (wr (k - 1))], .own 26 [iv 0, iv 0, iv 0]]))) (some (⟨a, b, k⟩ : N3).av)) (some (⟨a, b, k⟩ : N3).av)) (some (⟨a, b, k⟩ : N3).av) := by kernel_rfl
theorem r165_run (K : Nat) : ∀ (m : Nat) (a b k : Int) (n : Nat), 0 ≤ k → k ≤ 1152921504606846976 → k.toNat ≤ m → m < n → runL Tryd.prog GLv Γ2 K [false, true, true] Tryd.f165 0 n (stL Tryd.f165.ntmps [.non, .own 26 [iv (a), iv (b), iv (k)], .own 26 [iv 0, iv 0, iv 0]]) = some (redF (m + 1) a b k).av := by
  intro m
  induction m with
  | zero =>
    intro a b k n h0 h1 h2 h3
    obtain ⟨n, rfl⟩ : ∃ n', n = n' + 1 := ⟨n - 1, by omega⟩
    have hk : ¬ k > 0 := by omega
    rw [r165_step, redF_succ, if_neg (fun h => hk h.1)]
    simp only [hk, decide_false, cond_false]
  | succ m ih =>
    intro a b k n h0 h1 h2 h3
    obtain ⟨n, rfl⟩ : ∃ n', n = n' + 1 := ⟨n - 1, by omega⟩
    rw [r165_step, redF_succ]
    rw [and64_one, and64_one]
    have ea : ((a % 2 == 0) = !odd a) := odd_zero a
    have eb : ((b % 2 == 0) = !odd b) := odd_zero b
    rw [ea, eb]
    by_cases hk : k > 0
    · have hw : wr (k - 1) = k - 1 := wr_in (by omega) (by omega)
      cases ha : odd a with
      | true => rw [if_neg (fun h => by cases h.2.1)]; simp [hk]
      | false =>
        cases hb : odd b with
        | true => rw [if_neg (fun h => by cases h.2.2)]; simp [hk]
        | false =>
          rw [if_pos ⟨hk, rfl, rfl⟩]
          simp only [hk, decide_true, cond_true, Bool.not_false]
          rw [hw, ih _ _ _ _ (by omega) (by omega) (by omega) (by omega), ih _ _ _ _ (by omega) (by omega) (by omega) (by omega)]
          by_cases hz1 : wr (a.tdiv 2) = 0
          · by_cases hz2 : wr (b.tdiv 2) = 0
            · simp [hz1, hz2]
            · have e2 : (wr (b.tdiv 2) == 0) = false := by simpa using hz2
              simp [hz1, hz2, e2]
          · have e1 : (wr (a.tdiv 2) == 0) = false := by simpa using hz1
            simp [hz1, e1]
    · rw [if_neg (fun h => hk h.1)]; simp [hk]
theorem e165 (x_a : Int) (x_b : Int) (x_k : Int) (hp : (kB x_k) = true) : evN Tryd.prog GLv Γ2 (x_k.toNat + 1) [false, true, true] Tryd.f165 [.agg [.val (.int .i64 x_a), .val (.int .i64 x_b), .val (.int .i64 x_k)]] = some ((red (⟨x_a, x_b, x_k⟩ : N3)).av) := by
  exact (show _ = _ from by kernel_rfl).trans (r165_run (x_k.toNat + 1) x_k.toNat x_a x_b x_k (x_k.toNat + 1) (kB_iff.1 hp).1 (kB_iff.1 hp).2 (Nat.le_refl _) (Nat.lt_succ_self _))
theorem m165 : Meets Tryd.prog GLv 165 s165 := by
  refine meetsN mix0 glv G2 Tryd.func165 (by kernel_rfl) (by kernel_rfl) s165 fun args x h => ?_
  unfold s165 at h
  split at h
  · rename_i x_a x_b x_k
    simp only [Option.some.injEq, Prod.mk.injEq] at h
    obtain ⟨hp, rfl⟩ := h
    exact ⟨_, _, by kernel_rfl, e165 x_a x_b x_k hp⟩
  · cases h
abbrev Γ3 : List (Nat × Ctr) := (165, s165) :: Γ2
theorem G3 : Sound Tryd.prog GLv Γ3 := G2.cons m165

-- spec.l01Low
def s160 : Ctr := fun
  | [.agg [.val (.int .i64 x_a), .val (.int .i64 x_b), .val (.int .i64 x_k)]] => some (kB x_k, (red (⟨x_a, x_b, x_k⟩ : N3)).av)
  | _ => none

theorem r160_step (K n : Nat) (a b k : Int) : runL Tryd.prog GLv Γ3 K [false, true, true] Tryd.f160 0 (n + 1) (stL Tryd.f160.ntmps [.non, .own 103 [iv (a), iv (b), iv (k)], .own 103 [iv 0, iv 0, iv 0]]) = cond (decide (k > 0)) (cond (a.tmod 2 == 0) (cond (b.tmod 2 == 0) (runL Tryd.prog GLv Γ3 K [false, true, true] Tryd.f160 0 n (stL Tryd.f160.ntmps [.non, .own 103 [iv (wr (a.tdiv 2)), iv (wr (b.tdiv 2)), iv (wr (k - 1))], .own 103 [iv 0, iv 0, iv 0]])) (some (⟨a, b, k⟩ : N3).av)) (some (⟨a, b, k⟩ : N3).av)) (some (⟨a, b, k⟩ : N3).av) := by kernel_rfl
theorem r160_run (K : Nat) : ∀ (m : Nat) (a b k : Int) (n : Nat), 0 ≤ k → k ≤ 1152921504606846976 → k.toNat ≤ m → m < n → runL Tryd.prog GLv Γ3 K [false, true, true] Tryd.f160 0 n (stL Tryd.f160.ntmps [.non, .own 103 [iv (a), iv (b), iv (k)], .own 103 [iv 0, iv 0, iv 0]]) = some (redF (m + 1) a b k).av := by
  intro m
  induction m with
  | zero =>
    intro a b k n h0 h1 h2 h3
    obtain ⟨n, rfl⟩ : ∃ n', n = n' + 1 := ⟨n - 1, by omega⟩
    have hk : ¬ k > 0 := by omega
    rw [r160_step, redF_succ, if_neg (fun h => hk h.1)]
    simp only [hk, decide_false, cond_false]
  | succ m ih =>
    intro a b k n h0 h1 h2 h3
    obtain ⟨n, rfl⟩ : ∃ n', n = n' + 1 := ⟨n - 1, by omega⟩
    rw [r160_step, redF_succ]
    rw [tmod_zero, tmod_zero]
    by_cases hk : k > 0
    · have hw : wr (k - 1) = k - 1 := wr_in (by omega) (by omega)
      cases ha : odd a with
      | true => rw [if_neg (fun h => by cases h.2.1)]; simp [hk]
      | false =>
        cases hb : odd b with
        | true => rw [if_neg (fun h => by cases h.2.2)]; simp [hk]
        | false =>
          rw [if_pos ⟨hk, rfl, rfl⟩]
          simp only [hk, decide_true, cond_true, Bool.not_false]
          rw [hw, ih _ _ _ _ (by omega) (by omega) (by omega) (by omega)]
          by_cases hz : wr (a.tdiv 2) = 0 ∧ wr (b.tdiv 2) = 0
          · rw [if_pos hz, hz.1, hz.2, redF_zero m _ (by omega), redF_zero m _ (by omega)]
            have e : (if k - 1 > 0 then (0 : Int) else k - 1) = 0 := by split <;> omega
            rw [e]
            rfl
          · rw [if_neg hz]
    · rw [if_neg (fun h => hk h.1)]; simp [hk]
theorem e160 (x_a : Int) (x_b : Int) (x_k : Int) (hp : (kB x_k) = true) : evN Tryd.prog GLv Γ3 (x_k.toNat + 1) [false, true, true] Tryd.f160 [.agg [.val (.int .i64 x_a), .val (.int .i64 x_b), .val (.int .i64 x_k)]] = some ((red (⟨x_a, x_b, x_k⟩ : N3)).av) := by
  refine (show _ = cond (x_a == 0) (cond (x_b == 0) (some z3.av) (runL Tryd.prog GLv Γ3 (x_k.toNat + 1) [false, true, true] Tryd.f160 0 (x_k.toNat + 1) (stL Tryd.f160.ntmps [.non, .own 103 [iv (x_a), iv (x_b), iv (x_k)], .own 103 [iv 0, iv 0, iv 0]]))) (runL Tryd.prog GLv Γ3 (x_k.toNat + 1) [false, true, true] Tryd.f160 0 (x_k.toNat + 1) (stL Tryd.f160.ntmps [.non, .own 103 [iv (x_a), iv (x_b), iv (x_k)], .own 103 [iv 0, iv 0, iv 0]])) from by kernel_rfl).trans ?_
  rw [r160_run (x_k.toNat + 1) x_k.toNat x_a x_b x_k (x_k.toNat + 1) (kB_iff.1 hp).1 (kB_iff.1 hp).2 (Nat.le_refl _) (Nat.lt_succ_self _)]
  by_cases ha : x_a = 0
  · by_cases hb : x_b = 0
    · subst ha hb
      have := redF_zero x_k.toNat x_k (Nat.le_refl _)
      have hk := (kB_iff.1 hp).1
      have e : (if x_k > 0 then 0 else x_k) = 0 := by split <;> omega
      rw [e] at this
      simp only [red, this]
      rfl
    · have e2 : (x_b == 0) = false := by simpa using hb
      simp only [e2, cond_false, red]
      cases (x_a == 0) <;> rfl
  · have e1 : (x_a == 0) = false := by simpa using ha
    simp only [e1, cond_false, red]
theorem m160 : Meets Tryd.prog GLv 160 s160 := by
  refine meetsN mix0 glv G3 Tryd.func160 (by kernel_rfl) (by kernel_rfl) s160 fun args x h => ?_
  unfold s160 at h
  split at h
  · rename_i x_a x_b x_k
    simp only [Option.some.injEq, Prod.mk.injEq] at h
    obtain ⟨hp, rfl⟩ := h
    exact ⟨_, _, by kernel_rfl, e160 x_a x_b x_k hp⟩
  · cases h
abbrev Γ4 : List (Nat × Ctr) := (160, s160) :: Γ3
theorem G4 : Sound Tryd.prog GLv Γ4 := G3.cons m160

-- (impl.Num).neg
def s203 : Ctr := fun
  | [.agg [.val (.int .i64 x_a), .val (.int .i64 x_b), .val (.int .i64 x_k)]] => some (true, (negF (⟨x_a, x_b, x_k⟩ : N3)).av)
  | _ => none

theorem e203 (x_a : Int) (x_b : Int) (x_k : Int) : evN Tryd.prog GLv Γ4 (0) [] Tryd.f203 [.agg [.val (.int .i64 x_a), .val (.int .i64 x_b), .val (.int .i64 x_k)]] = some ((negF (⟨x_a, x_b, x_k⟩ : N3)).av) := by
  kernel_rfl
theorem m203 : Meets Tryd.prog GLv 203 s203 := by
  refine meetsN mix0 glv G4 Tryd.func203 (by kernel_rfl) (by kernel_rfl) s203 fun args x h => ?_
  unfold s203 at h
  split at h
  · rename_i x_a x_b x_k
    simp only [Option.some.injEq, Prod.mk.injEq] at h
    obtain ⟨hp, rfl⟩ := h
    exact ⟨_, _, by kernel_rfl, e203 x_a x_b x_k⟩
  · cases h
abbrev Γ5 : List (Nat × Ctr) := (203, s203) :: Γ4
theorem G5 : Sound Tryd.prog GLv Γ5 := G4.cons m203

-- spec.l01Neg
def s202 : Ctr := fun
  | [.agg [.val (.int .i64 x_a), .val (.int .i64 x_b), .val (.int .i64 x_k)]] => some (true, (negF (⟨x_a, x_b, x_k⟩ : N3)).av)
  | _ => none

theorem e202 (x_a : Int) (x_b : Int) (x_k : Int) : evN Tryd.prog GLv Γ5 (0) [] Tryd.f202 [.agg [.val (.int .i64 x_a), .val (.int .i64 x_b), .val (.int .i64 x_k)]] = some ((negF (⟨x_a, x_b, x_k⟩ : N3)).av) := by
  kernel_rfl
theorem m202 : Meets Tryd.prog GLv 202 s202 := by
  refine meetsN mix0 glv G5 Tryd.func202 (by kernel_rfl) (by kernel_rfl) s202 fun args x h => ?_
  unfold s202 at h
  split at h
  · rename_i x_a x_b x_k
    simp only [Option.some.injEq, Prod.mk.injEq] at h
    obtain ⟨hp, rfl⟩ := h
    exact ⟨_, _, by kernel_rfl, e202 x_a x_b x_k⟩
  · cases h
abbrev Γ6 : List (Nat × Ctr) := (202, s202) :: Γ5
theorem G6 : Sound Tryd.prog GLv Γ6 := G5.cons m202

-- (impl.Num).times
def s138 : Ctr := fun
  | [.agg [.val (.int .i64 x_a), .val (.int .i64 x_b), .val (.int .i64 x_k)], .agg [.val (.int .i64 y_a), .val (.int .i64 y_b), .val (.int .i64 y_k)]] => some (pkm (⟨x_a, x_b, x_k⟩ : N3) (⟨y_a, y_b, y_k⟩ : N3), (mulF (⟨x_a, x_b, x_k⟩ : N3) (⟨y_a, y_b, y_k⟩ : N3)).av)
  | _ => none

theorem e138 (x_a : Int) (x_b : Int) (x_k : Int) (y_a : Int) (y_b : Int) (y_k : Int) (hp : (pkm (⟨x_a, x_b, x_k⟩ : N3) (⟨y_a, y_b, y_k⟩ : N3)) = true) : evN Tryd.prog GLv Γ6 (0) [] Tryd.f138 [.agg [.val (.int .i64 x_a), .val (.int .i64 x_b), .val (.int .i64 x_k)], .agg [.val (.int .i64 y_a), .val (.int .i64 y_b), .val (.int .i64 y_k)]] = some ((mulF (⟨x_a, x_b, x_k⟩ : N3) (⟨y_a, y_b, y_k⟩ : N3)).av) := by
  refine (show _ = cond (kB (wr (x_k + y_k))) (some (mulF (⟨x_a, x_b, x_k⟩ : N3) (⟨y_a, y_b, y_k⟩ : N3)).av) none from by kernel_rfl).trans ?_
  have := pkm_kB hp
  simp only at this
  rw [this]
  rfl
theorem m138 : Meets Tryd.prog GLv 138 s138 := by
  refine meetsN mix0 glv G6 Tryd.func138 (by kernel_rfl) (by kernel_rfl) s138 fun args x h => ?_
  unfold s138 at h
  split at h
  · rename_i x_a x_b x_k y_a y_b y_k
    simp only [Option.some.injEq, Prod.mk.injEq] at h
    obtain ⟨hp, rfl⟩ := h
    exact ⟨_, _, by kernel_rfl, e138 x_a x_b x_k y_a y_b y_k hp⟩
  · cases h
abbrev Γ7 : List (Nat × Ctr) := (138, s138) :: Γ6
theorem G7 : Sound Tryd.prog GLv Γ7 := G6.cons m138

-- spec.l01Mul
def s133 : Ctr := fun
  | [.agg [.val (.int .i64 x_a), .val (.int .i64 x_b), .val (.int .i64 x_k)], .agg [.val (.int .i64 y_a), .val (.int .i64 y_b), .val (.int .i64 y_k)]] => some (pkm (⟨x_a, x_b, x_k⟩ : N3) (⟨y_a, y_b, y_k⟩ : N3), (mulF (⟨x_a, x_b, x_k⟩ : N3) (⟨y_a, y_b, y_k⟩ : N3)).av)
  | _ => none

theorem e133 (x_a : Int) (x_b : Int) (x_k : Int) (y_a : Int) (y_b : Int) (y_k : Int) (hp : (pkm (⟨x_a, x_b, x_k⟩ : N3) (⟨y_a, y_b, y_k⟩ : N3)) = true) : evN Tryd.prog GLv Γ7 (0) [] Tryd.f133 [.agg [.val (.int .i64 x_a), .val (.int .i64 x_b), .val (.int .i64 x_k)], .agg [.val (.int .i64 y_a), .val (.int .i64 y_b), .val (.int .i64 y_k)]] = some ((mulF (⟨x_a, x_b, x_k⟩ : N3) (⟨y_a, y_b, y_k⟩ : N3)).av) := by
  refine (show _ = cond (kB (wr (x_k + y_k))) (some (mulF (⟨x_a, x_b, x_k⟩ : N3) (⟨y_a, y_b, y_k⟩ : N3)).av) none from by kernel_rfl).trans ?_
  have := pkm_kB hp
  simp only at this
  rw [this]
  rfl
theorem m133 : Meets Tryd.prog GLv 133 s133 := by
  refine meetsN mix0 glv G7 Tryd.func133 (by kernel_rfl) (by kernel_rfl) s133 fun args x h => ?_
  unfold s133 at h
  split at h
  · rename_i x_a x_b x_k y_a y_b y_k
    simp only [Option.some.injEq, Prod.mk.injEq] at h
    obtain ⟨hp, rfl⟩ := h
    exact ⟨_, _, by kernel_rfl, e133 x_a x_b x_k y_a y_b y_k hp⟩
  · cases h
abbrev Γ8 : List (Nat × Ctr) := (133, s133) :: Γ7
theorem G8 : Sound Tryd.prog GLv Γ8 := G7.cons m133

-- (impl.Num).plus
def s153 : Ctr := fun
  | [.agg [.val (.int .i64 x_a), .val (.int .i64 x_b), .val (.int .i64 x_k)], .agg [.val (.int .i64 y_a), .val (.int .i64 y_b), .val (.int .i64 y_k)]] => some (pk (⟨x_a, x_b, x_k⟩ : N3) (⟨y_a, y_b, y_k⟩ : N3), (addF (⟨x_a, x_b, x_k⟩ : N3) (⟨y_a, y_b, y_k⟩ : N3)).av)
  | _ => none

theorem e153 (x_a : Int) (x_b : Int) (x_k : Int) (y_a : Int) (y_b : Int) (y_k : Int) (hp : (pk (⟨x_a, x_b, x_k⟩ : N3) (⟨y_a, y_b, y_k⟩ : N3)) = true) : evN Tryd.prog GLv Γ8 (0) [] Tryd.f153 [.agg [.val (.int .i64 x_a), .val (.int .i64 x_b), .val (.int .i64 x_k)], .agg [.val (.int .i64 y_a), .val (.int .i64 y_b), .val (.int .i64 y_k)]] = some ((addF (⟨x_a, x_b, x_k⟩ : N3) (⟨y_a, y_b, y_k⟩ : N3)).av) := by
  obtain ⟨h1, h2, h3⟩ := pk_sh hp
  refine (show _ = cond (decide (0 ≤ wr (gmax x_k y_k - x_k))) (cond (decide (0 ≤ wr (gmax x_k y_k - y_k))) (cond (decide (0 ≤ wr (gmax x_k y_k - x_k))) (cond (decide (0 ≤ wr (gmax x_k y_k - y_k))) (cond (kB (gmax x_k y_k)) (some (addF (⟨x_a, x_b, x_k⟩ : N3) (⟨y_a, y_b, y_k⟩ : N3)).av) none) none) none) none) none from by kernel_rfl).trans ?_
  simp only at h1 h2 h3
  rw [h1, h2, h3]
  rfl
theorem m153 : Meets Tryd.prog GLv 153 s153 := by
  refine meetsN mix0 glv G8 Tryd.func153 (by kernel_rfl) (by kernel_rfl) s153 fun args x h => ?_
  unfold s153 at h
  split at h
  · rename_i x_a x_b x_k y_a y_b y_k
    simp only [Option.some.injEq, Prod.mk.injEq] at h
    obtain ⟨hp, rfl⟩ := h
    exact ⟨_, _, by kernel_rfl, e153 x_a x_b x_k y_a y_b y_k hp⟩
  · cases h
abbrev Γ9 : List (Nat × Ctr) := (153, s153) :: Γ8
theorem G9 : Sound Tryd.prog GLv Γ9 := G8.cons m153

-- spec.l01Add
def s146 : Ctr := fun
  | [.agg [.val (.int .i64 x_a), .val (.int .i64 x_b), .val (.int .i64 x_k)], .agg [.val (.int .i64 y_a), .val (.int .i64 y_b), .val (.int .i64 y_k)]] => some (pk (⟨x_a, x_b, x_k⟩ : N3) (⟨y_a, y_b, y_k⟩ : N3), (addF (⟨x_a, x_b, x_k⟩ : N3) (⟨y_a, y_b, y_k⟩ : N3)).av)
  | _ => none

theorem r146_step0 (K n : Nat) (a b k c d l : Int) : runL Tryd.prog GLv Γ9 K [false, false, true, true, true] Tryd.f146 0 (n + 1) (stL Tryd.f146.ntmps [.non, .non, .own 103 [iv (a), iv (b), iv (k)], .own 103 [iv (c), iv (d), iv (l)], .own 103 [iv 0, iv 0, iv 0]]) = cond (decide (k < l)) (runL Tryd.prog GLv Γ9 K [false, false, true, true, true] Tryd.f146 0 n (stL Tryd.f146.ntmps [.non, .non, .own 103 [iv (wr (a * 2)), iv (wr (b * 2)), iv (wr (k + 1))], .own 103 [iv (c), iv (d), iv (l)], .own 103 [iv 0, iv 0, iv 0]])) (runL Tryd.prog GLv Γ9 K [false, false, true, true, true] Tryd.f146 1 K (stL Tryd.f146.ntmps [.non, .non, .own 103 [iv (a), iv (b), iv (k)], .own 103 [iv (c), iv (d), iv (l)], .own 103 [iv 0, iv 0, iv 0]])) := by kernel_rfl
theorem r146_step1 (K n : Nat) (a b k c d l : Int) : runL Tryd.prog GLv Γ9 K [false, false, true, true, true] Tryd.f146 1 (n + 1) (stL Tryd.f146.ntmps [.non, .non, .own 103 [iv (a), iv (b), iv (k)], .own 103 [iv (c), iv (d), iv (l)], .own 103 [iv 0, iv 0, iv 0]]) = cond (decide (l < k)) (runL Tryd.prog GLv Γ9 K [false, false, true, true, true] Tryd.f146 1 n (stL Tryd.f146.ntmps [.non, .non, .own 103 [iv (a), iv (b), iv (k)], .own 103 [iv (wr (c * 2)), iv (wr (d * 2)), iv (wr (l + 1))], .own 103 [iv 0, iv 0, iv 0]])) (cond (kB k) (some (red ⟨wr (a + c), wr (b + d), k⟩).av) none) := by kernel_rfl
theorem r146_run1 (K : Nat) : ∀ (m : Nat) (a b k c d l : Int) (n : Nat), kB k = true → 0 ≤ l → (k - l).toNat = m → m < n →
    runL Tryd.prog GLv Γ9 K [false, false, true, true, true] Tryd.f146 1 n (stL Tryd.f146.ntmps [.non, .non, .own 103 [iv (a), iv (b), iv (k)], .own 103 [iv (c), iv (d), iv (l)], .own 103 [iv 0, iv 0, iv 0]]) = some (red ⟨wr (a + dblI m c), wr (b + dblI m d), k⟩).av := by
  intro m
  induction m with
  | zero =>
    intro a b k c d l n hk hl h0 hn
    obtain ⟨n, rfl⟩ : ∃ n', n = n' + 1 := ⟨n - 1, by omega⟩
    have : decide (l < k) = false := by simp; omega
    rw [r146_step1, this, hk]
    rfl
  | succ m ih =>
    intro a b k c d l n hk hl h0 hn
    obtain ⟨n, rfl⟩ : ∃ n', n = n' + 1 := ⟨n - 1, by omega⟩
    have : decide (l < k) = true := by simp; omega
    have hk' := kB_iff.1 hk
    have hw : wr (l + 1) = l + 1 := wr_in (by omega) (by omega)
    rw [r146_step1, this, cond_true, hw, ih _ _ _ _ _ _ _ hk (by omega) (by omega) (by omega)]
    rfl
theorem r146_run0 (K : Nat) : ∀ (m : Nat) (a b k c d l : Int) (n : Nat), 0 ≤ k → kB l = true → (l - k).toNat = m → m < n →
    runL Tryd.prog GLv Γ9 K [false, false, true, true, true] Tryd.f146 0 n (stL Tryd.f146.ntmps [.non, .non, .own 103 [iv (a), iv (b), iv (k)], .own 103 [iv (c), iv (d), iv (l)], .own 103 [iv 0, iv 0, iv 0]]) = runL Tryd.prog GLv Γ9 K [false, false, true, true, true] Tryd.f146 1 K (stL Tryd.f146.ntmps [.non, .non, .own 103 [iv (dblI m a), iv (dblI m b), iv (k + (m : Int))], .own 103 [iv (c), iv (d), iv (l)], .own 103 [iv 0, iv 0, iv 0]]) := by
  intro m
  induction m with
  | zero =>
    intro a b k c d l n hk hl h0 hn
    obtain ⟨n, rfl⟩ : ∃ n', n = n' + 1 := ⟨n - 1, by omega⟩
    have : decide (k < l) = false := by simp; omega
    rw [r146_step0, this, cond_false]
    simp only [dblI, Int.ofNat_zero, Int.natCast_zero, Int.add_zero]
  | succ m ih =>
    intro a b k c d l n hk hl h0 hn
    obtain ⟨n, rfl⟩ : ∃ n', n = n' + 1 := ⟨n - 1, by omega⟩
    have : decide (k < l) = true := by simp; omega
    have hl' := kB_iff.1 hl
    have hw : wr (k + 1) = k + 1 := wr_in (by omega) (by omega)
    rw [r146_step0, this, cond_true, hw, ih _ _ _ _ _ _ _ (by omega) hl (by omega) (by omega)]
    have e : k + 1 + (m : Int) = k + ((m + 1 : Nat) : Int) := by omega
    rw [e]
    rfl
theorem e146 (x_a : Int) (x_b : Int) (x_k : Int) (y_a : Int) (y_b : Int) (y_k : Int) (hp : (pk (⟨x_a, x_b, x_k⟩ : N3) (⟨y_a, y_b, y_k⟩ : N3)) = true) : evN Tryd.prog GLv Γ9 (x_k.toNat + y_k.toNat + 1) [false, false, true, true, true] Tryd.f146 [.agg [.val (.int .i64 x_a), .val (.int .i64 x_b), .val (.int .i64 x_k)], .agg [.val (.int .i64 y_a), .val (.int .i64 y_b), .val (.int .i64 y_k)]] = some ((addF (⟨x_a, x_b, x_k⟩ : N3) (⟨y_a, y_b, y_k⟩ : N3)).av) := by
  obtain ⟨h1, h2⟩ := pk_iff.1 hp
  simp only at h1 h2
  refine (show _ = runL Tryd.prog GLv Γ9 (x_k.toNat + y_k.toNat + 1) [false, false, true, true, true] Tryd.f146 0 (x_k.toNat + y_k.toNat + 1) (stL Tryd.f146.ntmps [.non, .non, .own 103 [iv (x_a), iv (x_b), iv (x_k)], .own 103 [iv (y_a), iv (y_b), iv (y_k)], .own 103 [iv 0, iv 0, iv 0]]) from by kernel_rfl).trans ?_
  rw [r146_run0 _ (y_k - x_k).toNat _ _ _ _ _ _ _ h1.1 (kB_iff.2 h2) rfl (by omega)]
  rw [r146_run1 _ (x_k - y_k).toNat _ _ _ _ _ _ _ (kB_iff.2 (by omega)) h2.1 (by omega) (by omega)]
  have := addR_dbl hp
  simp only at this
  rw [this]
  rfl
theorem m146 : Meets Tryd.prog GLv 146 s146 := by
  refine meetsN mix0 glv G9 Tryd.func146 (by kernel_rfl) (by kernel_rfl) s146 fun args x h => ?_
  unfold s146 at h
  split at h
  · rename_i x_a x_b x_k y_a y_b y_k
    simp only [Option.some.injEq, Prod.mk.injEq] at h
    obtain ⟨hp, rfl⟩ := h
    exact ⟨_, _, by kernel_rfl, e146 x_a x_b x_k y_a y_b y_k hp⟩
  · cases h
abbrev Γ10 : List (Nat × Ctr) := (146, s146) :: Γ9
theorem G10 : Sound Tryd.prog GLv Γ10 := G9.cons m146

-- (impl.Num).minus
def s139 : Ctr := fun
  | [.agg [.val (.int .i64 x_a), .val (.int .i64 x_b), .val (.int .i64 x_k)], .agg [.val (.int .i64 y_a), .val (.int .i64 y_b), .val (.int .i64 y_k)]] => some (pk (⟨x_a, x_b, x_k⟩ : N3) (⟨y_a, y_b, y_k⟩ : N3), (subF (⟨x_a, x_b, x_k⟩ : N3) (⟨y_a, y_b, y_k⟩ : N3)).av)
  | _ => none

theorem e139 (x_a : Int) (x_b : Int) (x_k : Int) (y_a : Int) (y_b : Int) (y_k : Int) (hp : (pk (⟨x_a, x_b, x_k⟩ : N3) (⟨y_a, y_b, y_k⟩ : N3)) = true) : evN Tryd.prog GLv Γ10 (0) [] Tryd.f139 [.agg [.val (.int .i64 x_a), .val (.int .i64 x_b), .val (.int .i64 x_k)], .agg [.val (.int .i64 y_a), .val (.int .i64 y_b), .val (.int .i64 y_k)]] = some ((subF (⟨x_a, x_b, x_k⟩ : N3) (⟨y_a, y_b, y_k⟩ : N3)).av) := by
  refine (show _ = cond (pk (⟨x_a, x_b, x_k⟩ : N3) (⟨y_a, y_b, y_k⟩ : N3)) (some (subF (⟨x_a, x_b, x_k⟩ : N3) (⟨y_a, y_b, y_k⟩ : N3)).av) none from by kernel_rfl).trans ?_
  rw [hp]
  rfl
theorem m139 : Meets Tryd.prog GLv 139 s139 := by
  refine meetsN mix0 glv G10 Tryd.func139 (by kernel_rfl) (by kernel_rfl) s139 fun args x h => ?_
  unfold s139 at h
  split at h
  · rename_i x_a x_b x_k y_a y_b y_k
    simp only [Option.some.injEq, Prod.mk.injEq] at h
    obtain ⟨hp, rfl⟩ := h
    exact ⟨_, _, by kernel_rfl, e139 x_a x_b x_k y_a y_b y_k hp⟩
  · cases h
abbrev Γ11 : List (Nat × Ctr) := (139, s139) :: Γ10
theorem G11 : Sound Tryd.prog GLv Γ11 := G10.cons m139

-- spec.l01Sub
def s132 : Ctr := fun
  | [.agg [.val (.int .i64 x_a), .val (.int .i64 x_b), .val (.int .i64 x_k)], .agg [.val (.int .i64 y_a), .val (.int .i64 y_b), .val (.int .i64 y_k)]] => some (pk (⟨x_a, x_b, x_k⟩ : N3) (⟨y_a, y_b, y_k⟩ : N3), (subF (⟨x_a, x_b, x_k⟩ : N3) (⟨y_a, y_b, y_k⟩ : N3)).av)
  | _ => none

theorem e132 (x_a : Int) (x_b : Int) (x_k : Int) (y_a : Int) (y_b : Int) (y_k : Int) (hp : (pk (⟨x_a, x_b, x_k⟩ : N3) (⟨y_a, y_b, y_k⟩ : N3)) = true) : evN Tryd.prog GLv Γ11 (0) [] Tryd.f132 [.agg [.val (.int .i64 x_a), .val (.int .i64 x_b), .val (.int .i64 x_k)], .agg [.val (.int .i64 y_a), .val (.int .i64 y_b), .val (.int .i64 y_k)]] = some ((subF (⟨x_a, x_b, x_k⟩ : N3) (⟨y_a, y_b, y_k⟩ : N3)).av) := by
  refine (show _ = cond (pk (⟨x_a, x_b, x_k⟩ : N3) (⟨y_a, y_b, y_k⟩ : N3)) (some (subF (⟨x_a, x_b, x_k⟩ : N3) (⟨y_a, y_b, y_k⟩ : N3)).av) none from by kernel_rfl).trans ?_
  rw [hp]
  rfl
theorem m132 : Meets Tryd.prog GLv 132 s132 := by
  refine meetsN mix0 glv G11 Tryd.func132 (by kernel_rfl) (by kernel_rfl) s132 fun args x h => ?_
  unfold s132 at h
  split at h
  · rename_i x_a x_b x_k y_a y_b y_k
    simp only [Option.some.injEq, Prod.mk.injEq] at h
    obtain ⟨hp, rfl⟩ := h
    exact ⟨_, _, by kernel_rfl, e132 x_a x_b x_k y_a y_b y_k hp⟩
  · cases h
abbrev Γ12 : List (Nat × Ctr) := (132, s132) :: Γ11
theorem G12 : Sound Tryd.prog GLv Γ12 := G11.cons m132

-- (impl.Num).half
def s156 : Ctr := fun
  | [.agg [.val (.int .i64 x_a), .val (.int .i64 x_b), .val (.int .i64 x_k)]] => some (kB (wr (x_k + 1)), (halfF (⟨x_a, x_b, x_k⟩ : N3)).av)
  | _ => none

theorem e156 (x_a : Int) (x_b : Int) (x_k : Int) (hp : (kB (wr (x_k + 1))) = true) : evN Tryd.prog GLv Γ12 (0) [] Tryd.f156 [.agg [.val (.int .i64 x_a), .val (.int .i64 x_b), .val (.int .i64 x_k)]] = some ((halfF (⟨x_a, x_b, x_k⟩ : N3)).av) := by
  refine (show _ = cond (kB (wr (x_k + 1))) (some (halfF (⟨x_a, x_b, x_k⟩ : N3)).av) none from by kernel_rfl).trans ?_
  rw [hp]
  rfl
theorem m156 : Meets Tryd.prog GLv 156 s156 := by
  refine meetsN mix0 glv G12 Tryd.func156 (by kernel_rfl) (by kernel_rfl) s156 fun args x h => ?_
  unfold s156 at h
  split at h
  · rename_i x_a x_b x_k
    simp only [Option.some.injEq, Prod.mk.injEq] at h
    obtain ⟨hp, rfl⟩ := h
    exact ⟨_, _, by kernel_rfl, e156 x_a x_b x_k hp⟩
  · cases h
abbrev Γ13 : List (Nat × Ctr) := (156, s156) :: Γ12
theorem G13 : Sound Tryd.prog GLv Γ13 := G12.cons m156

-- impl.ValidNum
def s82 : Ctr := fun
  | [.agg [.val (.int .i64 x_a), .val (.int .i64 x_b), .val (.int .i64 x_k)]] => some (true, bv (validB (⟨x_a, x_b, x_k⟩ : N3)))
  | _ => none

theorem e82 (x_a : Int) (x_b : Int) (x_k : Int) : evN Tryd.prog GLv Γ13 (0) [] Tryd.f82 [.agg [.val (.int .i64 x_a), .val (.int .i64 x_b), .val (.int .i64 x_k)]] = some (bv (validB (⟨x_a, x_b, x_k⟩ : N3))) := by
  refine (show _ = cond (inB x_a (-131072) 131072) ( cond (inB x_b (-131072) 131072) ( cond (inB x_k 0 10) ( cond (x_k == 0) ( some (bv (true)) ) ( cond (IntKind.i64.wrap ↑(BitVec.ofInt 64 x_a &&& BitVec.ofInt 64 1).toNat == 1) ( some (bv (true)) ) ( some (bv (IntKind.i64.wrap ↑(BitVec.ofInt 64 x_b &&& BitVec.ofInt 64 1).toNat == 1)) ) ) ) ( some (bv (false)) ) ) ( some (bv (false)) ) ) ( some (bv (false)) ) from by kernel_rfl).trans ?_
  simp only [validB]
  cases inB x_a (-131072) 131072 <;> cases inB x_b (-131072) 131072 <;> cases inB x_k 0 10 <;> cases (x_k == 0) <;> simp only [cond_true, cond_false, Bool.true_and, Bool.false_and, Bool.true_or, Bool.false_or, and_eq, tmod_ne, odd] <;> (first | rfl | (cases decide (x_a % 2 = 1) <;> rfl))
theorem m82 : Meets Tryd.prog GLv 82 s82 := by
  refine meetsN mix0 glv G13 Tryd.func82 (by kernel_rfl) (by kernel_rfl) s82 fun args x h => ?_
  unfold s82 at h
  split at h
  · rename_i x_a x_b x_k
    simp only [Option.some.injEq, Prod.mk.injEq] at h
    obtain ⟨hp, rfl⟩ := h
    exact ⟨_, _, by kernel_rfl, e82 x_a x_b x_k⟩
  · cases h
abbrev Γ14 : List (Nat × Ctr) := (82, s82) :: Γ13
theorem G14 : Sound Tryd.prog GLv Γ14 := G13.cons m82

-- spec.l01Ok
def s130 : Ctr := fun
  | [.agg [.val (.int .i64 x_a), .val (.int .i64 x_b), .val (.int .i64 x_k)]] => some (true, bv (validB (⟨x_a, x_b, x_k⟩ : N3)))
  | _ => none

theorem e130 (x_a : Int) (x_b : Int) (x_k : Int) : evN Tryd.prog GLv Γ14 (0) [] Tryd.f130 [.agg [.val (.int .i64 x_a), .val (.int .i64 x_b), .val (.int .i64 x_k)]] = some (bv (validB (⟨x_a, x_b, x_k⟩ : N3))) := by
  refine (show _ = cond (!inB x_a (-131072) 131072) ( some (bv (false)) ) ( cond (!inB x_b (-131072) 131072) ( some (bv (false)) ) ( cond (!inB x_k 0 10) ( some (bv (false)) ) ( cond (x_k == 0) ( some (bv (true)) ) ( cond (x_a.tmod 2 != 0) ( some (bv (true)) ) ( some (bv (x_b.tmod 2 != 0)) ) ) ) ) ) from by kernel_rfl).trans ?_
  simp only [validB]
  cases inB x_a (-131072) 131072 <;> cases inB x_b (-131072) 131072 <;> cases inB x_k 0 10 <;> cases (x_k == 0) <;> simp only [cond_true, cond_false, Bool.true_and, Bool.false_and, Bool.true_or, Bool.false_or, and_eq, tmod_ne, odd] <;> (first | rfl | (cases decide (x_a % 2 = 1) <;> rfl))
theorem m130 : Meets Tryd.prog GLv 130 s130 := by
  refine meetsN mix0 glv G14 Tryd.func130 (by kernel_rfl) (by kernel_rfl) s130 fun args x h => ?_
  unfold s130 at h
  split at h
  · rename_i x_a x_b x_k
    simp only [Option.some.injEq, Prod.mk.injEq] at h
    obtain ⟨hp, rfl⟩ := h
    exact ⟨_, _, by kernel_rfl, e130 x_a x_b x_k⟩
  · cases h
abbrev Γ15 : List (Nat × Ctr) := (130, s130) :: Γ14
theorem G15 : Sound Tryd.prog GLv Γ15 := G14.cons m130

-- (impl.Num).checked
def s97 : Ctr := fun
  | [.agg [.val (.int .i64 x_a), .val (.int .i64 x_b), .val (.int .i64 x_k)]] => some (kB x_k, .tup [(chk (⟨x_a, x_b, x_k⟩ : N3)).av, bv (chkB (⟨x_a, x_b, x_k⟩ : N3))])
  | _ => none

theorem e97 (x_a : Int) (x_b : Int) (x_k : Int) (hp : (kB x_k) = true) : evN Tryd.prog GLv Γ15 (0) [] Tryd.f97 [.agg [.val (.int .i64 x_a), .val (.int .i64 x_b), .val (.int .i64 x_k)]] = some (.tup [(chk (⟨x_a, x_b, x_k⟩ : N3)).av, bv (chkB (⟨x_a, x_b, x_k⟩ : N3))]) := by
  refine (show _ = cond (kB x_k) ( cond (!validB (N3.mk (red (N3.mk x_a x_b x_k)).1 (red (N3.mk x_a x_b x_k)).2 (red (N3.mk x_a x_b x_k)).3)) ( some ((.tup [(.agg [iv (0), iv (0), iv (0)]), bv (false)])) ) ( some ((.tup [(.agg [iv ((red (N3.mk x_a x_b x_k)).1), iv ((red (N3.mk x_a x_b x_k)).2), iv ((red (N3.mk x_a x_b x_k)).3)]), bv (true)])) ) ) ( none ) from by kernel_rfl).trans ?_
  rw [hp]
  simp only [chk, chkB, cond_true]
  cases validB (red (⟨x_a, x_b, x_k⟩ : N3)) <;> rfl
theorem m97 : Meets Tryd.prog GLv 97 s97 := by
  refine meetsN mix0 glv G15 Tryd.func97 (by kernel_rfl) (by kernel_rfl) s97 fun args x h => ?_
  unfold s97 at h
  split at h
  · rename_i x_a x_b x_k
    simp only [Option.some.injEq, Prod.mk.injEq] at h
    obtain ⟨hp, rfl⟩ := h
    exact ⟨_, _, by kernel_rfl, e97 x_a x_b x_k hp⟩
  · cases h
abbrev Γ16 : List (Nat × Ctr) := (97, s97) :: Γ15
theorem G16 : Sound Tryd.prog GLv Γ16 := G15.cons m97

-- spec.l01Num
def s93 : Ctr := fun
  | [.agg [.val (.int .i64 x_a), .val (.int .i64 x_b), .val (.int .i64 x_k)]] => some (kB x_k, .tup [(chk (⟨x_a, x_b, x_k⟩ : N3)).av, bv (chkB (⟨x_a, x_b, x_k⟩ : N3))])
  | _ => none

theorem e93 (x_a : Int) (x_b : Int) (x_k : Int) (hp : (kB x_k) = true) : evN Tryd.prog GLv Γ16 (0) [] Tryd.f93 [.agg [.val (.int .i64 x_a), .val (.int .i64 x_b), .val (.int .i64 x_k)]] = some (.tup [(chk (⟨x_a, x_b, x_k⟩ : N3)).av, bv (chkB (⟨x_a, x_b, x_k⟩ : N3))]) := by
  refine (show _ = cond (kB x_k) ( cond (!validB (N3.mk (red (N3.mk x_a x_b x_k)).1 (red (N3.mk x_a x_b x_k)).2 (red (N3.mk x_a x_b x_k)).3)) ( some ((.tup [(.agg [iv (0), iv (0), iv (0)]), bv (false)])) ) ( some ((.tup [(.agg [iv ((red (N3.mk x_a x_b x_k)).1), iv ((red (N3.mk x_a x_b x_k)).2), iv ((red (N3.mk x_a x_b x_k)).3)]), bv (true)])) ) ) ( none ) from by kernel_rfl).trans ?_
  rw [hp]
  simp only [chk, chkB, cond_true]
  cases validB (red (⟨x_a, x_b, x_k⟩ : N3)) <;> rfl
theorem m93 : Meets Tryd.prog GLv 93 s93 := by
  refine meetsN mix0 glv G16 Tryd.func93 (by kernel_rfl) (by kernel_rfl) s93 fun args x h => ?_
  unfold s93 at h
  split at h
  · rename_i x_a x_b x_k
    simp only [Option.some.injEq, Prod.mk.injEq] at h
    obtain ⟨hp, rfl⟩ := h
    exact ⟨_, _, by kernel_rfl, e93 x_a x_b x_k hp⟩
  · cases h
abbrev Γ17 : List (Nat × Ctr) := (93, s93) :: Γ16
theorem G17 : Sound Tryd.prog GLv Γ17 := G16.cons m93

-- spec.l01Of
def s135 : Ctr := fun
  | [.agg [.val (.int .i64 x_a), .val (.int .i64 x_b), .val (.int .i64 x_k)]] => some (true, (⟨x_a, x_b, x_k⟩ : N3).av)
  | _ => none

theorem e135 (x_a : Int) (x_b : Int) (x_k : Int) : evN Tryd.prog GLv Γ17 (0) [] Tryd.f135 [.agg [.val (.int .i64 x_a), .val (.int .i64 x_b), .val (.int .i64 x_k)]] = some ((⟨x_a, x_b, x_k⟩ : N3).av) := by
  kernel_rfl
theorem m135 : Meets Tryd.prog GLv 135 s135 := by
  refine meetsN mix0 glv G17 Tryd.func135 (by kernel_rfl) (by kernel_rfl) s135 fun args x h => ?_
  unfold s135 at h
  split at h
  · rename_i x_a x_b x_k
    simp only [Option.some.injEq, Prod.mk.injEq] at h
    obtain ⟨hp, rfl⟩ := h
    exact ⟨_, _, by kernel_rfl, e135 x_a x_b x_k⟩
  · cases h
abbrev Γ18 : List (Nat × Ctr) := (135, s135) :: Γ17
theorem G18 : Sound Tryd.prog GLv Γ18 := G17.cons m135

-- laws.toNum
def s66 : Ctr := fun
  | [.agg [.val (.int .i64 x_a), .val (.int .i64 x_b), .val (.int .i64 x_k)]] => some (true, (⟨x_a, x_b, x_k⟩ : N3).av)
  | _ => none

theorem e66 (x_a : Int) (x_b : Int) (x_k : Int) : evN Tryd.prog GLv Γ18 (0) [] Tryd.f66 [.agg [.val (.int .i64 x_a), .val (.int .i64 x_b), .val (.int .i64 x_k)]] = some ((⟨x_a, x_b, x_k⟩ : N3).av) := by
  kernel_rfl
theorem m66 : Meets Tryd.prog GLv 66 s66 := by
  refine meetsN mix0 glv G18 Tryd.func66 (by kernel_rfl) (by kernel_rfl) s66 fun args x h => ?_
  unfold s66 at h
  split at h
  · rename_i x_a x_b x_k
    simp only [Option.some.injEq, Prod.mk.injEq] at h
    obtain ⟨hp, rfl⟩ := h
    exact ⟨_, _, by kernel_rfl, e66 x_a x_b x_k⟩
  · cases h
abbrev Γ19 : List (Nat × Ctr) := (66, s66) :: Γ18
theorem G19 : Sound Tryd.prog GLv Γ19 := G18.cons m66

-- laws.eqNum
def s34 : Ctr := fun
  | [.agg [.val (.int .i64 x_a), .val (.int .i64 x_b), .val (.int .i64 x_k)], .agg [.val (.int .i64 y_a), .val (.int .i64 y_b), .val (.int .i64 y_k)]] => some (true, bv (eq3 (⟨x_a, x_b, x_k⟩ : N3) (⟨y_a, y_b, y_k⟩ : N3)))
  | _ => none

theorem e34 (x_a : Int) (x_b : Int) (x_k : Int) (y_a : Int) (y_b : Int) (y_k : Int) : evN Tryd.prog GLv Γ19 (0) [] Tryd.f34 [.agg [.val (.int .i64 x_a), .val (.int .i64 x_b), .val (.int .i64 x_k)], .agg [.val (.int .i64 y_a), .val (.int .i64 y_b), .val (.int .i64 y_k)]] = some (bv (eq3 (⟨x_a, x_b, x_k⟩ : N3) (⟨y_a, y_b, y_k⟩ : N3))) := by
  refine (show _ = cond (x_a != y_a) ( some (bv (false)) ) ( cond (x_b != y_b) ( some (bv (false)) ) ( cond (x_k != y_k) ( some (bv (false)) ) ( some (bv (true)) ) ) ) from by kernel_rfl).trans ?_
  simp only [eq3]
  cases (x_a != y_a) <;> cases (x_b != y_b) <;> cases (x_k != y_k) <;> rfl
theorem m34 : Meets Tryd.prog GLv 34 s34 := by
  refine meetsN mix0 glv G19 Tryd.func34 (by kernel_rfl) (by kernel_rfl) s34 fun args x h => ?_
  unfold s34 at h
  split at h
  · rename_i x_a x_b x_k y_a y_b y_k
    simp only [Option.some.injEq, Prod.mk.injEq] at h
    obtain ⟨hp, rfl⟩ := h
    exact ⟨_, _, by kernel_rfl, e34 x_a x_b x_k y_a y_b y_k⟩
  · cases h
abbrev Γ20 : List (Nat × Ctr) := (34, s34) :: Γ19
theorem G20 : Sound Tryd.prog GLv Γ20 := G19.cons m34

-- spec.l02Of
def s87 : Ctr := fun
  | [.agg [.val (.int .i64 p_xa), .val (.int .i64 p_xb), .val (.int .i64 p_xk), .val (.int .i64 p_ya), .val (.int .i64 p_yb), .val (.int .i64 p_yk)]] => some (true, (⟨(⟨p_xa, p_xb, p_xk⟩ : N3), (⟨p_ya, p_yb, p_yk⟩ : N3)⟩ : P2).av)
  | _ => none

theorem e87 (p_xa : Int) (p_xb : Int) (p_xk : Int) (p_ya : Int) (p_yb : Int) (p_yk : Int) : evN Tryd.prog GLv Γ20 (0) [] Tryd.f87 [.agg [.val (.int .i64 p_xa), .val (.int .i64 p_xb), .val (.int .i64 p_xk), .val (.int .i64 p_ya), .val (.int .i64 p_yb), .val (.int .i64 p_yk)]] = some ((⟨(⟨p_xa, p_xb, p_xk⟩ : N3), (⟨p_ya, p_yb, p_yk⟩ : N3)⟩ : P2).av) := by
  kernel_rfl
theorem m87 : Meets Tryd.prog GLv 87 s87 := by
  refine meetsN mix0 glv G20 Tryd.func87 (by kernel_rfl) (by kernel_rfl) s87 fun args x h => ?_
  unfold s87 at h
  split at h
  · rename_i p_xa p_xb p_xk p_ya p_yb p_yk
    simp only [Option.some.injEq, Prod.mk.injEq] at h
    obtain ⟨hp, rfl⟩ := h
    exact ⟨_, _, by kernel_rfl, e87 p_xa p_xb p_xk p_ya p_yb p_yk⟩
  · cases h
abbrev Γ21 : List (Nat × Ctr) := (87, s87) :: Γ20
theorem G21 : Sound Tryd.prog GLv Γ21 := G20.cons m87

-- laws.toPoint
def s94 : Ctr := fun
  | [.agg [.val (.int .i64 p_xa), .val (.int .i64 p_xb), .val (.int .i64 p_xk), .val (.int .i64 p_ya), .val (.int .i64 p_yb), .val (.int .i64 p_yk)]] => some (true, (⟨(⟨p_xa, p_xb, p_xk⟩ : N3), (⟨p_ya, p_yb, p_yk⟩ : N3)⟩ : P2).av)
  | _ => none

theorem e94 (p_xa : Int) (p_xb : Int) (p_xk : Int) (p_ya : Int) (p_yb : Int) (p_yk : Int) : evN Tryd.prog GLv Γ21 (0) [] Tryd.f94 [.agg [.val (.int .i64 p_xa), .val (.int .i64 p_xb), .val (.int .i64 p_xk), .val (.int .i64 p_ya), .val (.int .i64 p_yb), .val (.int .i64 p_yk)]] = some ((⟨(⟨p_xa, p_xb, p_xk⟩ : N3), (⟨p_ya, p_yb, p_yk⟩ : N3)⟩ : P2).av) := by
  kernel_rfl
theorem m94 : Meets Tryd.prog GLv 94 s94 := by
  refine meetsN mix0 glv G21 Tryd.func94 (by kernel_rfl) (by kernel_rfl) s94 fun args x h => ?_
  unfold s94 at h
  split at h
  · rename_i p_xa p_xb p_xk p_ya p_yb p_yk
    simp only [Option.some.injEq, Prod.mk.injEq] at h
    obtain ⟨hp, rfl⟩ := h
    exact ⟨_, _, by kernel_rfl, e94 p_xa p_xb p_xk p_ya p_yb p_yk⟩
  · cases h
abbrev Γ22 : List (Nat × Ctr) := (94, s94) :: Γ21
theorem G22 : Sound Tryd.prog GLv Γ22 := G21.cons m94

-- laws.eqPoint
def s16 : Ctr := fun
  | [.agg [.val (.int .i64 p_xa), .val (.int .i64 p_xb), .val (.int .i64 p_xk), .val (.int .i64 p_ya), .val (.int .i64 p_yb), .val (.int .i64 p_yk)], .agg [.val (.int .i64 q_xa), .val (.int .i64 q_xb), .val (.int .i64 q_xk), .val (.int .i64 q_ya), .val (.int .i64 q_yb), .val (.int .i64 q_yk)]] => some (true, bv (eqP (⟨(⟨p_xa, p_xb, p_xk⟩ : N3), (⟨p_ya, p_yb, p_yk⟩ : N3)⟩ : P2) (⟨(⟨q_xa, q_xb, q_xk⟩ : N3), (⟨q_ya, q_yb, q_yk⟩ : N3)⟩ : P2)))
  | _ => none

theorem e16 (p_xa : Int) (p_xb : Int) (p_xk : Int) (p_ya : Int) (p_yb : Int) (p_yk : Int) (q_xa : Int) (q_xb : Int) (q_xk : Int) (q_ya : Int) (q_yb : Int) (q_yk : Int) : evN Tryd.prog GLv Γ22 (0) [] Tryd.f16 [.agg [.val (.int .i64 p_xa), .val (.int .i64 p_xb), .val (.int .i64 p_xk), .val (.int .i64 p_ya), .val (.int .i64 p_yb), .val (.int .i64 p_yk)], .agg [.val (.int .i64 q_xa), .val (.int .i64 q_xb), .val (.int .i64 q_xk), .val (.int .i64 q_ya), .val (.int .i64 q_yb), .val (.int .i64 q_yk)]] = some (bv (eqP (⟨(⟨p_xa, p_xb, p_xk⟩ : N3), (⟨p_ya, p_yb, p_yk⟩ : N3)⟩ : P2) (⟨(⟨q_xa, q_xb, q_xk⟩ : N3), (⟨q_ya, q_yb, q_yk⟩ : N3)⟩ : P2))) := by
  refine (show _ = cond (!eq3 (N3.mk p_xa p_xb p_xk) (N3.mk q_xa q_xb q_xk)) ( some (bv (false)) ) ( cond (!eq3 (N3.mk p_ya p_yb p_yk) (N3.mk q_ya q_yb q_yk)) ( some (bv (false)) ) ( some (bv (true)) ) ) from by kernel_rfl).trans ?_
  simp only [eqP]
  cases eq3 (⟨p_xa, p_xb, p_xk⟩ : N3) (⟨q_xa, q_xb, q_xk⟩ : N3) <;> cases eq3 (⟨p_ya, p_yb, p_yk⟩ : N3) (⟨q_ya, q_yb, q_yk⟩ : N3) <;> rfl
theorem m16 : Meets Tryd.prog GLv 16 s16 := by
  refine meetsN mix0 glv G22 Tryd.func16 (by kernel_rfl) (by kernel_rfl) s16 fun args x h => ?_
  unfold s16 at h
  split at h
  · rename_i p_xa p_xb p_xk p_ya p_yb p_yk q_xa q_xb q_xk q_ya q_yb q_yk
    simp only [Option.some.injEq, Prod.mk.injEq] at h
    obtain ⟨hp, rfl⟩ := h
    exact ⟨_, _, by kernel_rfl, e16 p_xa p_xb p_xk p_ya p_yb p_yk q_xa q_xb q_xk q_ya q_yb q_yk⟩
  · cases h
abbrev Γ23 : List (Nat × Ctr) := (16, s16) :: Γ22
theorem G23 : Sound Tryd.prog GLv Γ23 := G22.cons m16

-- impl.ValidPoint
def s78 : Ctr := fun
  | [.agg [.val (.int .i64 p_xa), .val (.int .i64 p_xb), .val (.int .i64 p_xk), .val (.int .i64 p_ya), .val (.int .i64 p_yb), .val (.int .i64 p_yk)]] => some (true, bv (valP (⟨(⟨p_xa, p_xb, p_xk⟩ : N3), (⟨p_ya, p_yb, p_yk⟩ : N3)⟩ : P2)))
  | _ => none

theorem e78 (p_xa : Int) (p_xb : Int) (p_xk : Int) (p_ya : Int) (p_yb : Int) (p_yk : Int) : evN Tryd.prog GLv Γ23 (0) [] Tryd.f78 [.agg [.val (.int .i64 p_xa), .val (.int .i64 p_xb), .val (.int .i64 p_xk), .val (.int .i64 p_ya), .val (.int .i64 p_yb), .val (.int .i64 p_yk)]] = some (bv (valP (⟨(⟨p_xa, p_xb, p_xk⟩ : N3), (⟨p_ya, p_yb, p_yk⟩ : N3)⟩ : P2))) := by
  refine (show _ = cond (validB (N3.mk p_xa p_xb p_xk)) ( some (bv (validB (N3.mk p_ya p_yb p_yk))) ) ( some (bv (false)) ) from by kernel_rfl).trans ?_
  simp only [valP]
  cases validB (⟨p_xa, p_xb, p_xk⟩ : N3) <;> rfl
theorem m78 : Meets Tryd.prog GLv 78 s78 := by
  refine meetsN mix0 glv G23 Tryd.func78 (by kernel_rfl) (by kernel_rfl) s78 fun args x h => ?_
  unfold s78 at h
  split at h
  · rename_i p_xa p_xb p_xk p_ya p_yb p_yk
    simp only [Option.some.injEq, Prod.mk.injEq] at h
    obtain ⟨hp, rfl⟩ := h
    exact ⟨_, _, by kernel_rfl, e78 p_xa p_xb p_xk p_ya p_yb p_yk⟩
  · cases h
abbrev Γ24 : List (Nat × Ctr) := (78, s78) :: Γ23
theorem G24 : Sound Tryd.prog GLv Γ24 := G23.cons m78

-- spec.l02Point
def s85 : Ctr := fun
  | [.agg [.val (.int .i64 p_xa), .val (.int .i64 p_xb), .val (.int .i64 p_xk), .val (.int .i64 p_ya), .val (.int .i64 p_yb), .val (.int .i64 p_yk)]] => some (true, bv (valP (⟨(⟨p_xa, p_xb, p_xk⟩ : N3), (⟨p_ya, p_yb, p_yk⟩ : N3)⟩ : P2)))
  | _ => none

theorem e85 (p_xa : Int) (p_xb : Int) (p_xk : Int) (p_ya : Int) (p_yb : Int) (p_yk : Int) : evN Tryd.prog GLv Γ24 (0) [] Tryd.f85 [.agg [.val (.int .i64 p_xa), .val (.int .i64 p_xb), .val (.int .i64 p_xk), .val (.int .i64 p_ya), .val (.int .i64 p_yb), .val (.int .i64 p_yk)]] = some (bv (valP (⟨(⟨p_xa, p_xb, p_xk⟩ : N3), (⟨p_ya, p_yb, p_yk⟩ : N3)⟩ : P2))) := by
  refine (show _ = cond (validB (N3.mk p_xa p_xb p_xk)) ( some (bv (validB (N3.mk p_ya p_yb p_yk))) ) ( some (bv (false)) ) from by kernel_rfl).trans ?_
  simp only [valP]
  cases validB (⟨p_xa, p_xb, p_xk⟩ : N3) <;> rfl
theorem m85 : Meets Tryd.prog GLv 85 s85 := by
  refine meetsN mix0 glv G24 Tryd.func85 (by kernel_rfl) (by kernel_rfl) s85 fun args x h => ?_
  unfold s85 at h
  split at h
  · rename_i p_xa p_xb p_xk p_ya p_yb p_yk
    simp only [Option.some.injEq, Prod.mk.injEq] at h
    obtain ⟨hp, rfl⟩ := h
    exact ⟨_, _, by kernel_rfl, e85 p_xa p_xb p_xk p_ya p_yb p_yk⟩
  · cases h
abbrev Γ25 : List (Nat × Ctr) := (85, s85) :: Γ24
theorem G25 : Sound Tryd.prog GLv Γ25 := G24.cons m85

-- (impl.Point).checked
def s69 : Ctr := fun
  | [.agg [.val (.int .i64 p_xa), .val (.int .i64 p_xb), .val (.int .i64 p_xk), .val (.int .i64 p_ya), .val (.int .i64 p_yb), .val (.int .i64 p_yk)]] => some (kB p_xk && kB p_yk, rP (valP (redP (⟨(⟨p_xa, p_xb, p_xk⟩ : N3), (⟨p_ya, p_yb, p_yk⟩ : N3)⟩ : P2))) (redP (⟨(⟨p_xa, p_xb, p_xk⟩ : N3), (⟨p_ya, p_yb, p_yk⟩ : N3)⟩ : P2)))
  | _ => none

theorem e69 (p_xa : Int) (p_xb : Int) (p_xk : Int) (p_ya : Int) (p_yb : Int) (p_yk : Int) (hp : (kB p_xk && kB p_yk) = true) : evN Tryd.prog GLv Γ25 (0) [] Tryd.f69 [.agg [.val (.int .i64 p_xa), .val (.int .i64 p_xb), .val (.int .i64 p_xk), .val (.int .i64 p_ya), .val (.int .i64 p_yb), .val (.int .i64 p_yk)]] = some (rP (valP (redP (⟨(⟨p_xa, p_xb, p_xk⟩ : N3), (⟨p_ya, p_yb, p_yk⟩ : N3)⟩ : P2))) (redP (⟨(⟨p_xa, p_xb, p_xk⟩ : N3), (⟨p_ya, p_yb, p_yk⟩ : N3)⟩ : P2))) := by
  refine (show _ = cond (kB p_xk) ( cond (kB p_yk) ( cond (!chkB (N3.mk p_xa p_xb p_xk)) ( some ((.tup [(.agg [iv (0), iv (0), iv (0), iv (0), iv (0), iv (0)]), bv (false)])) ) ( cond (!chkB (N3.mk p_ya p_yb p_yk)) ( some ((.tup [(.agg [iv (0), iv (0), iv (0), iv (0), iv (0), iv (0)]), bv (false)])) ) ( some ((.tup [(.agg [iv (bif chkB (N3.mk p_xa p_xb p_xk) then (red (N3.mk p_xa p_xb p_xk)).1 else 0), iv (bif chkB (N3.mk p_xa p_xb p_xk) then (red (N3.mk p_xa p_xb p_xk)).2 else 0), iv (bif chkB (N3.mk p_xa p_xb p_xk) then (red (N3.mk p_xa p_xb p_xk)).3 else 0), iv (bif chkB (N3.mk p_ya p_yb p_yk) then (red (N3.mk p_ya p_yb p_yk)).1 else 0), iv (bif chkB (N3.mk p_ya p_yb p_yk) then (red (N3.mk p_ya p_yb p_yk)).2 else 0), iv (bif chkB (N3.mk p_ya p_yb p_yk) then (red (N3.mk p_ya p_yb p_yk)).3 else 0)]), bv (true)])) ) ) ) ( none ) ) ( none ) from by kernel_rfl).trans ?_
  rw [Bool.and_eq_true] at hp
  rw [hp.1, hp.2]
  simp only [valP, redP, rP, chkB, cond_true]
  cases validB (red (⟨p_xa, p_xb, p_xk⟩ : N3)) <;> cases validB (red (⟨p_ya, p_yb, p_yk⟩ : N3)) <;> rfl
theorem m69 : Meets Tryd.prog GLv 69 s69 := by
  refine meetsN mix0 glv G25 Tryd.func69 (by kernel_rfl) (by kernel_rfl) s69 fun args x h => ?_
  unfold s69 at h
  split at h
  · rename_i p_xa p_xb p_xk p_ya p_yb p_yk
    simp only [Option.some.injEq, Prod.mk.injEq] at h
    obtain ⟨hp, rfl⟩ := h
    exact ⟨_, _, by kernel_rfl, e69 p_xa p_xb p_xk p_ya p_yb p_yk hp⟩
  · cases h
abbrev Γ26 : List (Nat × Ctr) := (69, s69) :: Γ25
theorem G26 : Sound Tryd.prog GLv Γ26 := G25.cons m69

-- spec.l02Num
def s63 : Ctr := fun
  | [.agg [.val (.int .i64 p_xa), .val (.int .i64 p_xb), .val (.int .i64 p_xk), .val (.int .i64 p_ya), .val (.int .i64 p_yb), .val (.int .i64 p_yk)]] => some (kB p_xk && kB p_yk, rP (valP (redP (⟨(⟨p_xa, p_xb, p_xk⟩ : N3), (⟨p_ya, p_yb, p_yk⟩ : N3)⟩ : P2))) (redP (⟨(⟨p_xa, p_xb, p_xk⟩ : N3), (⟨p_ya, p_yb, p_yk⟩ : N3)⟩ : P2)))
  | _ => none

theorem e63 (p_xa : Int) (p_xb : Int) (p_xk : Int) (p_ya : Int) (p_yb : Int) (p_yk : Int) (hp : (kB p_xk && kB p_yk) = true) : evN Tryd.prog GLv Γ26 (0) [] Tryd.f63 [.agg [.val (.int .i64 p_xa), .val (.int .i64 p_xb), .val (.int .i64 p_xk), .val (.int .i64 p_ya), .val (.int .i64 p_yb), .val (.int .i64 p_yk)]] = some (rP (valP (redP (⟨(⟨p_xa, p_xb, p_xk⟩ : N3), (⟨p_ya, p_yb, p_yk⟩ : N3)⟩ : P2))) (redP (⟨(⟨p_xa, p_xb, p_xk⟩ : N3), (⟨p_ya, p_yb, p_yk⟩ : N3)⟩ : P2))) := by
  refine (show _ = cond (kB p_xk) ( cond (kB p_yk) ( cond (!chkB (N3.mk p_xa p_xb p_xk)) ( some ((.tup [(.agg [iv (0), iv (0), iv (0), iv (0), iv (0), iv (0)]), bv (false)])) ) ( cond (!chkB (N3.mk p_ya p_yb p_yk)) ( some ((.tup [(.agg [iv (0), iv (0), iv (0), iv (0), iv (0), iv (0)]), bv (false)])) ) ( some ((.tup [(.agg [iv (bif chkB (N3.mk p_xa p_xb p_xk) then (red (N3.mk p_xa p_xb p_xk)).1 else 0), iv (bif chkB (N3.mk p_xa p_xb p_xk) then (red (N3.mk p_xa p_xb p_xk)).2 else 0), iv (bif chkB (N3.mk p_xa p_xb p_xk) then (red (N3.mk p_xa p_xb p_xk)).3 else 0), iv (bif chkB (N3.mk p_ya p_yb p_yk) then (red (N3.mk p_ya p_yb p_yk)).1 else 0), iv (bif chkB (N3.mk p_ya p_yb p_yk) then (red (N3.mk p_ya p_yb p_yk)).2 else 0), iv (bif chkB (N3.mk p_ya p_yb p_yk) then (red (N3.mk p_ya p_yb p_yk)).3 else 0)]), bv (true)])) ) ) ) ( none ) ) ( none ) from by kernel_rfl).trans ?_
  rw [Bool.and_eq_true] at hp
  rw [hp.1, hp.2]
  simp only [valP, redP, rP, chkB, cond_true]
  cases validB (red (⟨p_xa, p_xb, p_xk⟩ : N3)) <;> cases validB (red (⟨p_ya, p_yb, p_yk⟩ : N3)) <;> rfl
theorem m63 : Meets Tryd.prog GLv 63 s63 := by
  refine meetsN mix0 glv G26 Tryd.func63 (by kernel_rfl) (by kernel_rfl) s63 fun args x h => ?_
  unfold s63 at h
  split at h
  · rename_i p_xa p_xb p_xk p_ya p_yb p_yk
    simp only [Option.some.injEq, Prod.mk.injEq] at h
    obtain ⟨hp, rfl⟩ := h
    exact ⟨_, _, by kernel_rfl, e63 p_xa p_xb p_xk p_ya p_yb p_yk hp⟩
  · cases h
abbrev Γ27 : List (Nat × Ctr) := (63, s63) :: Γ26
theorem G27 : Sound Tryd.prog GLv Γ27 := G26.cons m63

-- (impl.Point).plus
def s151 : Ctr := fun
  | [.agg [.val (.int .i64 p_xa), .val (.int .i64 p_xb), .val (.int .i64 p_xk), .val (.int .i64 p_ya), .val (.int .i64 p_yb), .val (.int .i64 p_yk)], .agg [.val (.int .i64 q_xa), .val (.int .i64 q_xb), .val (.int .i64 q_xk), .val (.int .i64 q_ya), .val (.int .i64 q_yb), .val (.int .i64 q_yk)]] => some (pkP (⟨(⟨p_xa, p_xb, p_xk⟩ : N3), (⟨p_ya, p_yb, p_yk⟩ : N3)⟩ : P2) (⟨(⟨q_xa, q_xb, q_xk⟩ : N3), (⟨q_ya, q_yb, q_yk⟩ : N3)⟩ : P2), (addP (⟨(⟨p_xa, p_xb, p_xk⟩ : N3), (⟨p_ya, p_yb, p_yk⟩ : N3)⟩ : P2) (⟨(⟨q_xa, q_xb, q_xk⟩ : N3), (⟨q_ya, q_yb, q_yk⟩ : N3)⟩ : P2)).av)
  | _ => none

theorem e151 (p_xa : Int) (p_xb : Int) (p_xk : Int) (p_ya : Int) (p_yb : Int) (p_yk : Int) (q_xa : Int) (q_xb : Int) (q_xk : Int) (q_ya : Int) (q_yb : Int) (q_yk : Int) (hp : (pkP (⟨(⟨p_xa, p_xb, p_xk⟩ : N3), (⟨p_ya, p_yb, p_yk⟩ : N3)⟩ : P2) (⟨(⟨q_xa, q_xb, q_xk⟩ : N3), (⟨q_ya, q_yb, q_yk⟩ : N3)⟩ : P2)) = true) : evN Tryd.prog GLv Γ27 (0) [] Tryd.f151 [.agg [.val (.int .i64 p_xa), .val (.int .i64 p_xb), .val (.int .i64 p_xk), .val (.int .i64 p_ya), .val (.int .i64 p_yb), .val (.int .i64 p_yk)], .agg [.val (.int .i64 q_xa), .val (.int .i64 q_xb), .val (.int .i64 q_xk), .val (.int .i64 q_ya), .val (.int .i64 q_yb), .val (.int .i64 q_yk)]] = some ((addP (⟨(⟨p_xa, p_xb, p_xk⟩ : N3), (⟨p_ya, p_yb, p_yk⟩ : N3)⟩ : P2) (⟨(⟨q_xa, q_xb, q_xk⟩ : N3), (⟨q_ya, q_yb, q_yk⟩ : N3)⟩ : P2)).av) := by
  unfold pkP at hp
  rw [Bool.and_eq_true] at hp
  refine (show _ = cond (pk (⟨p_xa, p_xb, p_xk⟩ : N3) (⟨q_xa, q_xb, q_xk⟩ : N3)) (cond (pk (⟨p_ya, p_yb, p_yk⟩ : N3) (⟨q_ya, q_yb, q_yk⟩ : N3)) (some (addP (⟨(⟨p_xa, p_xb, p_xk⟩ : N3), (⟨p_ya, p_yb, p_yk⟩ : N3)⟩ : P2) (⟨(⟨q_xa, q_xb, q_xk⟩ : N3), (⟨q_ya, q_yb, q_yk⟩ : N3)⟩ : P2)).av) none) none from by kernel_rfl).trans ?_
  rw [hp.1, hp.2]
  rfl
theorem m151 : Meets Tryd.prog GLv 151 s151 := by
  refine meetsN mix0 glv G27 Tryd.func151 (by kernel_rfl) (by kernel_rfl) s151 fun args x h => ?_
  unfold s151 at h
  split at h
  · rename_i p_xa p_xb p_xk p_ya p_yb p_yk q_xa q_xb q_xk q_ya q_yb q_yk
    simp only [Option.some.injEq, Prod.mk.injEq] at h
    obtain ⟨hp, rfl⟩ := h
    exact ⟨_, _, by kernel_rfl, e151 p_xa p_xb p_xk p_ya p_yb p_yk q_xa q_xb q_xk q_ya q_yb q_yk hp⟩
  · cases h
abbrev Γ28 : List (Nat × Ctr) := (151, s151) :: Γ27
theorem G28 : Sound Tryd.prog GLv Γ28 := G27.cons m151

-- spec.l04Plus
def s213 : Ctr := fun
  | [.agg [.val (.int .i64 p_xa), .val (.int .i64 p_xb), .val (.int .i64 p_xk), .val (.int .i64 p_ya), .val (.int .i64 p_yb), .val (.int .i64 p_yk)], .agg [.val (.int .i64 q_xa), .val (.int .i64 q_xb), .val (.int .i64 q_xk), .val (.int .i64 q_ya), .val (.int .i64 q_yb), .val (.int .i64 q_yk)]] => some (pkP (⟨(⟨p_xa, p_xb, p_xk⟩ : N3), (⟨p_ya, p_yb, p_yk⟩ : N3)⟩ : P2) (⟨(⟨q_xa, q_xb, q_xk⟩ : N3), (⟨q_ya, q_yb, q_yk⟩ : N3)⟩ : P2), (addP (⟨(⟨p_xa, p_xb, p_xk⟩ : N3), (⟨p_ya, p_yb, p_yk⟩ : N3)⟩ : P2) (⟨(⟨q_xa, q_xb, q_xk⟩ : N3), (⟨q_ya, q_yb, q_yk⟩ : N3)⟩ : P2)).av)
  | _ => none

theorem e213 (p_xa : Int) (p_xb : Int) (p_xk : Int) (p_ya : Int) (p_yb : Int) (p_yk : Int) (q_xa : Int) (q_xb : Int) (q_xk : Int) (q_ya : Int) (q_yb : Int) (q_yk : Int) (hp : (pkP (⟨(⟨p_xa, p_xb, p_xk⟩ : N3), (⟨p_ya, p_yb, p_yk⟩ : N3)⟩ : P2) (⟨(⟨q_xa, q_xb, q_xk⟩ : N3), (⟨q_ya, q_yb, q_yk⟩ : N3)⟩ : P2)) = true) : evN Tryd.prog GLv Γ28 (0) [] Tryd.f213 [.agg [.val (.int .i64 p_xa), .val (.int .i64 p_xb), .val (.int .i64 p_xk), .val (.int .i64 p_ya), .val (.int .i64 p_yb), .val (.int .i64 p_yk)], .agg [.val (.int .i64 q_xa), .val (.int .i64 q_xb), .val (.int .i64 q_xk), .val (.int .i64 q_ya), .val (.int .i64 q_yb), .val (.int .i64 q_yk)]] = some ((addP (⟨(⟨p_xa, p_xb, p_xk⟩ : N3), (⟨p_ya, p_yb, p_yk⟩ : N3)⟩ : P2) (⟨(⟨q_xa, q_xb, q_xk⟩ : N3), (⟨q_ya, q_yb, q_yk⟩ : N3)⟩ : P2)).av) := by
  unfold pkP at hp
  rw [Bool.and_eq_true] at hp
  refine (show _ = cond (pk (⟨p_xa, p_xb, p_xk⟩ : N3) (⟨q_xa, q_xb, q_xk⟩ : N3)) (cond (pk (⟨p_ya, p_yb, p_yk⟩ : N3) (⟨q_ya, q_yb, q_yk⟩ : N3)) (some (addP (⟨(⟨p_xa, p_xb, p_xk⟩ : N3), (⟨p_ya, p_yb, p_yk⟩ : N3)⟩ : P2) (⟨(⟨q_xa, q_xb, q_xk⟩ : N3), (⟨q_ya, q_yb, q_yk⟩ : N3)⟩ : P2)).av) none) none from by kernel_rfl).trans ?_
  rw [hp.1, hp.2]
  rfl
theorem m213 : Meets Tryd.prog GLv 213 s213 := by
  refine meetsN mix0 glv G28 Tryd.func213 (by kernel_rfl) (by kernel_rfl) s213 fun args x h => ?_
  unfold s213 at h
  split at h
  · rename_i p_xa p_xb p_xk p_ya p_yb p_yk q_xa q_xb q_xk q_ya q_yb q_yk
    simp only [Option.some.injEq, Prod.mk.injEq] at h
    obtain ⟨hp, rfl⟩ := h
    exact ⟨_, _, by kernel_rfl, e213 p_xa p_xb p_xk p_ya p_yb p_yk q_xa q_xb q_xk q_ya q_yb q_yk hp⟩
  · cases h
abbrev Γ29 : List (Nat × Ctr) := (213, s213) :: Γ28
theorem G29 : Sound Tryd.prog GLv Γ29 := G28.cons m213

-- impl.middle
def s88 : Ctr := fun
  | [.agg [.val (.int .i64 p_xa), .val (.int .i64 p_xb), .val (.int .i64 p_xk), .val (.int .i64 p_ya), .val (.int .i64 p_yb), .val (.int .i64 p_yk)], .agg [.val (.int .i64 q_xa), .val (.int .i64 q_xb), .val (.int .i64 q_xk), .val (.int .i64 q_ya), .val (.int .i64 q_yb), .val (.int .i64 q_yk)]] => some (pkP (⟨(⟨p_xa, p_xb, p_xk⟩ : N3), (⟨p_ya, p_yb, p_yk⟩ : N3)⟩ : P2) (⟨(⟨q_xa, q_xb, q_xk⟩ : N3), (⟨q_ya, q_yb, q_yk⟩ : N3)⟩ : P2) && (kB (wr ((addF (⟨p_xa, p_xb, p_xk⟩ : N3) (⟨q_xa, q_xb, q_xk⟩ : N3)).k + 1)) && kB (wr ((addF (⟨p_ya, p_yb, p_yk⟩ : N3) (⟨q_ya, q_yb, q_yk⟩ : N3)).k + 1))), (midF (⟨(⟨p_xa, p_xb, p_xk⟩ : N3), (⟨p_ya, p_yb, p_yk⟩ : N3)⟩ : P2) (⟨(⟨q_xa, q_xb, q_xk⟩ : N3), (⟨q_ya, q_yb, q_yk⟩ : N3)⟩ : P2)).av)
  | _ => none

theorem e88 (p_xa : Int) (p_xb : Int) (p_xk : Int) (p_ya : Int) (p_yb : Int) (p_yk : Int) (q_xa : Int) (q_xb : Int) (q_xk : Int) (q_ya : Int) (q_yb : Int) (q_yk : Int) (hp : (pkP (⟨(⟨p_xa, p_xb, p_xk⟩ : N3), (⟨p_ya, p_yb, p_yk⟩ : N3)⟩ : P2) (⟨(⟨q_xa, q_xb, q_xk⟩ : N3), (⟨q_ya, q_yb, q_yk⟩ : N3)⟩ : P2) && (kB (wr ((addF (⟨p_xa, p_xb, p_xk⟩ : N3) (⟨q_xa, q_xb, q_xk⟩ : N3)).k + 1)) && kB (wr ((addF (⟨p_ya, p_yb, p_yk⟩ : N3) (⟨q_ya, q_yb, q_yk⟩ : N3)).k + 1)))) = true) : evN Tryd.prog GLv Γ29 (0) [] Tryd.f88 [.agg [.val (.int .i64 p_xa), .val (.int .i64 p_xb), .val (.int .i64 p_xk), .val (.int .i64 p_ya), .val (.int .i64 p_yb), .val (.int .i64 p_yk)], .agg [.val (.int .i64 q_xa), .val (.int .i64 q_xb), .val (.int .i64 q_xk), .val (.int .i64 q_ya), .val (.int .i64 q_yb), .val (.int .i64 q_yk)]] = some ((midF (⟨(⟨p_xa, p_xb, p_xk⟩ : N3), (⟨p_ya, p_yb, p_yk⟩ : N3)⟩ : P2) (⟨(⟨q_xa, q_xb, q_xk⟩ : N3), (⟨q_ya, q_yb, q_yk⟩ : N3)⟩ : P2)).av) := by
  simp only [Bool.and_eq_true] at hp
  obtain ⟨h1, h2, h3⟩ := hp
  refine (show _ = cond (pkP (⟨(⟨p_xa, p_xb, p_xk⟩ : N3), (⟨p_ya, p_yb, p_yk⟩ : N3)⟩ : P2) (⟨(⟨q_xa, q_xb, q_xk⟩ : N3), (⟨q_ya, q_yb, q_yk⟩ : N3)⟩ : P2)) (cond (kB (wr ((addF (⟨p_xa, p_xb, p_xk⟩ : N3) (⟨q_xa, q_xb, q_xk⟩ : N3)).k + 1))) (cond (kB (wr ((addF (⟨p_ya, p_yb, p_yk⟩ : N3) (⟨q_ya, q_yb, q_yk⟩ : N3)).k + 1))) (some (midF (⟨(⟨p_xa, p_xb, p_xk⟩ : N3), (⟨p_ya, p_yb, p_yk⟩ : N3)⟩ : P2) (⟨(⟨q_xa, q_xb, q_xk⟩ : N3), (⟨q_ya, q_yb, q_yk⟩ : N3)⟩ : P2)).av) none) none) none from by kernel_rfl).trans ?_
  rw [h1, h2, h3]
  rfl
theorem m88 : Meets Tryd.prog GLv 88 s88 := by
  refine meetsN mix0 glv G29 Tryd.func88 (by kernel_rfl) (by kernel_rfl) s88 fun args x h => ?_
  unfold s88 at h
  split at h
  · rename_i p_xa p_xb p_xk p_ya p_yb p_yk q_xa q_xb q_xk q_ya q_yb q_yk
    simp only [Option.some.injEq, Prod.mk.injEq] at h
    obtain ⟨hp, rfl⟩ := h
    exact ⟨_, _, by kernel_rfl, e88 p_xa p_xb p_xk p_ya p_yb p_yk q_xa q_xb q_xk q_ya q_yb q_yk hp⟩
  · cases h
abbrev Γ30 : List (Nat × Ctr) := (88, s88) :: Γ29
theorem G30 : Sound Tryd.prog GLv Γ30 := G29.cons m88

-- (impl.Num).over
def s140 : Ctr := fun
  | [.agg [.val (.int .i64 x_a), .val (.int .i64 x_b), .val (.int .i64 x_k)], .agg [.val (.int .i64 y_a), .val (.int .i64 y_b), .val (.int .i64 y_k)]] => some (dvP (⟨x_a, x_b, x_k⟩ : N3) (⟨y_a, y_b, y_k⟩ : N3), dvR (⟨x_a, x_b, x_k⟩ : N3) (⟨y_a, y_b, y_k⟩ : N3))
  | _ => none

theorem r140_step (K m : Nat) (n a b k : Int) : runL Tryd.prog GLv Γ30 K [false, false, false, false, true, true, true, true] Tryd.f140 0 (m + 1) (stL Tryd.f140.ntmps [.non, .non, .non, .non, .own 26 [iv 0, iv 0, iv 0], bv false, iv (n), .own 26 [iv (a), iv (b), iv (k)]]) = cond (and64 n 1 == 0) (runL Tryd.prog GLv Γ30 K [false, false, false, false, true, true, true, true] Tryd.f140 0 m (stL Tryd.f140.ntmps [.non, .non, .non, .non, .own 26 [iv 0, iv 0, iv 0], bv false, iv (wr (n.tdiv 2)), .own 26 [iv (a), iv (b), iv (wr (k + 1))]])) (implEnd n a b k) := by kernel_rfl
theorem r140_run (K : Nat) : ∀ (f : Nat) (n a b k : Int) (m : Nat), n ≠ 0 → n.natAbs < 2 ^ f → f ≤ 60 → -1000000 ≤ k → k + f ≤ 1000000 → f < m →
    runL Tryd.prog GLv Γ30 K [false, false, false, false, true, true, true, true] Tryd.f140 0 m (stL Tryd.f140.ntmps [.non, .non, .non, .non, .own 26 [iv 0, iv 0, iv 0], bv false, iv (n), .own 26 [iv (a), iv (b), iv (k)]]) = implEnd (oddL f n k).1 a b (oddL f n k).2 := by
  intro f
  induction f with
  | zero => intro n a b k m hn hf; simp at hf; omega
  | succ f ih =>
    intro n a b k m hn hf hf60 hk hk' hm
    obtain ⟨m, rfl⟩ : ∃ m', m = m' + 1 := ⟨m - 1, by omega⟩
    have h60 : (2 : Nat) ^ (f + 1) ≤ 2 ^ 60 := Nat.pow_le_pow_right (by decide) hf60
    have e60 : (2 : Nat) ^ 60 = 1152921504606846976 := by decide
    rw [r140_step]
    rw [and64_one, show ((n % 2 == 0) = !odd n) from odd_zero n]
    cases ho : odd n with
    | true =>
      have e : oddL (f + 1) n k = (n, k) := by unfold oddL; rw [ho]; rfl
      rw [e]
      rfl
    | false =>
      obtain ⟨h1, h2⟩ := tdiv_two ho
      have e : oddL (f + 1) n k = oddL f (n.tdiv 2) (k + 1) := by conv => lhs; unfold oddL
                                                                  rw [ho]; rfl
      rw [e, Bool.not_false, cond_true, wr_in (n := n.tdiv 2) (by omega) (by omega), wr_in (n := k + 1) (by omega) (by omega)]
      exact ih _ _ _ _ _ (by omega) (by rw [Nat.pow_succ] at hf; omega) (by omega) (by omega) (by omega) (by omega)
theorem e140 (x_a : Int) (x_b : Int) (x_k : Int) (y_a : Int) (y_b : Int) (y_k : Int) (hp : (dvP (⟨x_a, x_b, x_k⟩ : N3) (⟨y_a, y_b, y_k⟩ : N3)) = true) : evN Tryd.prog GLv Γ30 (70) [false, false, false, false, true, true, true, true] Tryd.f140 [.agg [.val (.int .i64 x_a), .val (.int .i64 x_b), .val (.int .i64 x_k)], .agg [.val (.int .i64 y_a), .val (.int .i64 y_b), .val (.int .i64 y_k)]] = some (dvR (⟨x_a, x_b, x_k⟩ : N3) (⟨y_a, y_b, y_k⟩ : N3)) := by
  refine (show _ = cond (divN (⟨y_a, y_b, y_k⟩ : N3) == 0) (some dvNo) (cond (pkm (⟨x_a, x_b, x_k⟩ : N3) (divC (⟨y_a, y_b, y_k⟩ : N3))) (runL Tryd.prog GLv Γ30 70 [false, false, false, false, true, true, true, true] Tryd.f140 0 70 (stL Tryd.f140.ntmps [.non, .non, .non, .non, .own 26 [iv 0, iv 0, iv 0], bv false, iv (divN (⟨y_a, y_b, y_k⟩ : N3)), .own 26 [iv ((divT (⟨x_a, x_b, x_k⟩ : N3) (⟨y_a, y_b, y_k⟩ : N3)).a), iv ((divT (⟨x_a, x_b, x_k⟩ : N3) (⟨y_a, y_b, y_k⟩ : N3)).b), iv (wr ((divT (⟨x_a, x_b, x_k⟩ : N3) (⟨y_a, y_b, y_k⟩ : N3)).k - y_k))]])) none) from by kernel_rfl).trans ?_
  obtain ⟨ra, rb, rA, rB, rM, _, rN⟩ := raw_bd hp
  obtain ⟨⟨_, _, xk, xk'⟩, _, _, yk, yk'⟩ := dvP_iff.1 hp
  simp only at xk xk' yk yk'
  by_cases hz : divN (⟨y_a, y_b, y_k⟩ : N3) = 0
  · have hz' : (divN (⟨y_a, y_b, y_k⟩ : N3) == 0) = true := by simpa using hz
    rw [hz', cond_true]
    unfold dvR dvOk
    rw [hz']
    rfl
  have hz' : (divN (⟨y_a, y_b, y_k⟩ : N3) == 0) = false := by simpa using hz
  rw [hz', cond_false]
  obtain ⟨o1, o2, o3, _, _, _⟩ := dv_same hp hz
  have hb : (divN (⟨y_a, y_b, y_k⟩ : N3)).natAbs < 2 ^ 60 := by
    have : (2 : Nat) ^ 60 = 1152921504606846976 := by decide
    omega
  rw [pkm_div hp, cond_true, wr_in (n := (divT (⟨x_a, x_b, x_k⟩ : N3) (⟨y_a, y_b, y_k⟩ : N3)).k - y_k) (by omega) (by omega), r140_run 70 60 _ _ _ _ 70 hz hb (by decide) (by omega) (by omega) (by decide), oddL_shift]
  exact implEnd_eq hp hz
theorem m140 : Meets Tryd.prog GLv 140 s140 := by
  refine meetsN mix0 glv G30 Tryd.func140 (by kernel_rfl) (by kernel_rfl) s140 fun args x h => ?_
  unfold s140 at h
  split at h
  · rename_i x_a x_b x_k y_a y_b y_k
    simp only [Option.some.injEq, Prod.mk.injEq] at h
    obtain ⟨hp, rfl⟩ := h
    exact ⟨_, _, by kernel_rfl, e140 x_a x_b x_k y_a y_b y_k hp⟩
  · cases h
abbrev Γ31 : List (Nat × Ctr) := (140, s140) :: Γ30
theorem G31 : Sound Tryd.prog GLv Γ31 := G30.cons m140

-- spec.l01Div
def s134 : Ctr := fun
  | [.agg [.val (.int .i64 x_a), .val (.int .i64 x_b), .val (.int .i64 x_k)], .agg [.val (.int .i64 y_a), .val (.int .i64 y_b), .val (.int .i64 y_k)]] => some (dvP (⟨x_a, x_b, x_k⟩ : N3) (⟨y_a, y_b, y_k⟩ : N3), dvR (⟨x_a, x_b, x_k⟩ : N3) (⟨y_a, y_b, y_k⟩ : N3))
  | _ => none

theorem r134_step1 (K m : Nat) (n a b k c ya yb yk : Int) : runL Tryd.prog GLv Γ31 K [false, false, false, true, true, true, true, true, true] Tryd.f134 1 (m + 1) (stL Tryd.f134.ntmps [.non, .non, .non, .own 103 [iv ya, iv yb, iv yk], .own 103 [iv 0, iv 0, iv 0], bv false, iv (n), .own 103 [iv (a), iv (b), iv (k)], iv (c)]) = cond (decide (c > 0)) (cond (decide (k > 0)) (runL Tryd.prog GLv Γ31 K [false, false, false, true, true, true, true, true, true] Tryd.f134 1 m (stL Tryd.f134.ntmps [.non, .non, .non, .own 103 [iv ya, iv yb, iv yk], .own 103 [iv 0, iv 0, iv 0], bv false, iv (n), .own 103 [iv (a), iv (b), iv (wr (k - 1))], iv (wr (c - 1))])) (runL Tryd.prog GLv Γ31 K [false, false, false, true, true, true, true, true, true] Tryd.f134 1 m (stL Tryd.f134.ntmps [.non, .non, .non, .own 103 [iv ya, iv yb, iv yk], .own 103 [iv 0, iv 0, iv 0], bv false, iv (n), .own 103 [iv (wr (a * 2)), iv (wr (b * 2)), iv (k)], iv (wr (c - 1))]))) (cond (kB k) (some (dvYes (red ⟨a, b, k⟩))) none) := by kernel_rfl
theorem r134_run1 (K : Nat) (ya yb yk n : Int) : ∀ (c : Nat) (a b k : Int) (m : Nat), 0 ≤ k → k ≤ 1000000 → c ≤ 1000000 → c < m → runL Tryd.prog GLv Γ31 K [false, false, false, true, true, true, true, true, true] Tryd.f134 1 m (stL Tryd.f134.ntmps [.non, .non, .non, .own 103 [iv ya, iv yb, iv yk], .own 103 [iv 0, iv 0, iv 0], bv false, iv (n), .own 103 [iv (a), iv (b), iv (k)], iv ((c : Int))]) = some (dvYes (red (decF c a b k))) := by
  intro c
  induction c with
  | zero =>
    intro a b k m h0 h1 h2 h3
    obtain ⟨m, rfl⟩ : ∃ m', m = m' + 1 := ⟨m - 1, by omega⟩
    rw [r134_step1, show decide (((0 : Nat) : Int) > 0) = false from rfl, kB_iff.2 ⟨h0, by omega⟩]
    rfl
  | succ c ih =>
    intro a b k m h0 h1 h2 h3
    obtain ⟨m, rfl⟩ : ∃ m', m = m' + 1 := ⟨m - 1, by omega⟩
    have hc : decide (((c + 1 : Nat) : Int) > 0) = true := by rw [decide_eq_true_eq]; omega
    have hw : wr (((c + 1 : Nat) : Int) - 1) = (c : Int) := by rw [wr_in (by omega) (by omega)]; omega
    rw [r134_step1, hc, cond_true, hw]
    unfold decF
    by_cases hk : k > 0
    · rw [wr_in (n := k - 1) (by omega) (by omega), ih _ _ (k - 1) _ (by omega) (by omega) (by omega) (by omega)]
      simp only [hk, decide_true, cond_true, if_true]
    · rw [ih _ _ k _ (by omega) (by omega) (by omega) (by omega)]
      simp only [hk, decide_false, cond_false, if_false]
theorem r134_step (K m : Nat) (n a b k ya yb yk : Int) : runL Tryd.prog GLv Γ31 K [false, false, false, true, true, true, true, true, true] Tryd.f134 0 (m + 1) (stL Tryd.f134.ntmps [.non, .non, .non, .own 103 [iv ya, iv yb, iv yk], .own 103 [iv 0, iv 0, iv 0], bv false, iv (n), .own 103 [iv (a), iv (b), iv (k)]]) = cond (n.tmod 2 == 0) (runL Tryd.prog GLv Γ31 K [false, false, false, true, true, true, true, true, true] Tryd.f134 0 m (stL Tryd.f134.ntmps [.non, .non, .non, .own 103 [iv ya, iv yb, iv yk], .own 103 [iv 0, iv 0, iv 0], bv false, iv (wr (n.tdiv 2)), .own 103 [iv (a), iv (b), iv (wr (k + 1))]])) (specEnd (fun a b => runL Tryd.prog GLv Γ31 K [false, false, false, true, true, true, true, true, true] Tryd.f134 1 K (stL Tryd.f134.ntmps [.non, .non, .non, .own 103 [iv ya, iv yb, iv yk], .own 103 [iv 0, iv 0, iv 0], bv false, iv (n), .own 103 [iv (a), iv (b), iv (k)], iv (yk)])) n a b) := by kernel_rfl
theorem r134_run (K : Nat) (ya yb yk : Int) : ∀ (f : Nat) (n a b k : Int) (m : Nat), n ≠ 0 → n.natAbs < 2 ^ f → f ≤ 60 → -1000000 ≤ k → k + f ≤ 1000000 → f < m →
    runL Tryd.prog GLv Γ31 K [false, false, false, true, true, true, true, true, true] Tryd.f134 0 m (stL Tryd.f134.ntmps [.non, .non, .non, .own 103 [iv ya, iv yb, iv yk], .own 103 [iv 0, iv 0, iv 0], bv false, iv (n), .own 103 [iv (a), iv (b), iv (k)]]) = specEnd (fun a b => runL Tryd.prog GLv Γ31 K [false, false, false, true, true, true, true, true, true] Tryd.f134 1 K (stL Tryd.f134.ntmps [.non, .non, .non, .own 103 [iv ya, iv yb, iv yk], .own 103 [iv 0, iv 0, iv 0], bv false, iv ((oddL f n k).1), .own 103 [iv (a), iv (b), iv ((oddL f n k).2)], iv (yk)])) (oddL f n k).1 a b := by
  intro f
  induction f with
  | zero => intro n a b k m hn hf; simp at hf; omega
  | succ f ih =>
    intro n a b k m hn hf hf60 hk hk' hm
    obtain ⟨m, rfl⟩ : ∃ m', m = m' + 1 := ⟨m - 1, by omega⟩
    have h60 : (2 : Nat) ^ (f + 1) ≤ 2 ^ 60 := Nat.pow_le_pow_right (by decide) hf60
    have e60 : (2 : Nat) ^ 60 = 1152921504606846976 := by decide
    rw [r134_step]
    rw [tmod_zero]
    cases ho : odd n with
    | true =>
      have e : oddL (f + 1) n k = (n, k) := by unfold oddL; rw [ho]; rfl
      rw [e]
      rfl
    | false =>
      obtain ⟨h1, h2⟩ := tdiv_two ho
      have e : oddL (f + 1) n k = oddL f (n.tdiv 2) (k + 1) := by conv => lhs; unfold oddL
                                                                  rw [ho]; rfl
      rw [e, Bool.not_false, cond_true, wr_in (n := n.tdiv 2) (by omega) (by omega), wr_in (n := k + 1) (by omega) (by omega)]
      exact ih _ _ _ _ _ (by omega) (by rw [Nat.pow_succ] at hf; omega) (by omega) (by omega) (by omega) (by omega)
theorem e134 (x_a : Int) (x_b : Int) (x_k : Int) (y_a : Int) (y_b : Int) (y_k : Int) (hp : (dvP (⟨x_a, x_b, x_k⟩ : N3) (⟨y_a, y_b, y_k⟩ : N3)) = true) : evN Tryd.prog GLv Γ31 (70) [false, false, false, true, true, true, true, true, true] Tryd.f134 [.agg [.val (.int .i64 x_a), .val (.int .i64 x_b), .val (.int .i64 x_k)], .agg [.val (.int .i64 y_a), .val (.int .i64 y_b), .val (.int .i64 y_k)]] = some (dvR (⟨x_a, x_b, x_k⟩ : N3) (⟨y_a, y_b, y_k⟩ : N3)) := by
  refine (show _ = cond (divN (⟨y_a, y_b, y_k⟩ : N3) == 0) (some dvNo) (runL Tryd.prog GLv Γ31 70 [false, false, false, true, true, true, true, true, true] Tryd.f134 0 70 (stL Tryd.f134.ntmps [.non, .non, .non, .own 103 [iv y_a, iv y_b, iv y_k], .own 103 [iv 0, iv 0, iv 0], bv false, iv (divN (⟨y_a, y_b, y_k⟩ : N3)), .own 103 [iv (wr (wr (x_a * y_a) - wr (wr (2 * x_b) * y_b))), iv (wr (wr (x_b * y_a) - wr (x_a * y_b))), iv (x_k)]])) from by kernel_rfl).trans ?_
  obtain ⟨ra, rb, rA, rB, rM, _, rN⟩ := raw_bd hp
  obtain ⟨⟨_, _, xk, xk'⟩, _, _, yk, yk'⟩ := dvP_iff.1 hp
  simp only at xk xk' yk yk'
  by_cases hz : divN (⟨y_a, y_b, y_k⟩ : N3) = 0
  · have hz' : (divN (⟨y_a, y_b, y_k⟩ : N3) == 0) = true := by simpa using hz
    rw [hz', cond_true]
    unfold dvR dvOk
    rw [hz']
    rfl
  have hz' : (divN (⟨y_a, y_b, y_k⟩ : N3) == 0) = false := by simpa using hz
  rw [hz', cond_false]
  obtain ⟨o1, o2, o3, _, _, _⟩ := dv_same hp hz
  have hb : (divN (⟨y_a, y_b, y_k⟩ : N3)).natAbs < 2 ^ 60 := by
    have : (2 : Nat) ^ 60 = 1152921504606846976 := by decide
    omega
  simp only at rA rB
  rw [rA, rB, r134_run 70 y_a y_b y_k 60 _ _ _ _ 70 hz hb (by decide) (by omega) (by omega) (by decide), oddL_shift]
  refine specEnd_eq hp hz _ fun a b => ?_
  have hy : y_k = ((y_k.toNat : Nat) : Int) := by omega
  conv => lhs; rw [hy]
  exact r134_run1 70 y_a y_b _ _ y_k.toNat a b _ 70 (by show 0 ≤ x_k + dvE (⟨y_a, y_b, y_k⟩ : N3); omega) (by show x_k + dvE (⟨y_a, y_b, y_k⟩ : N3) ≤ _; omega) (by omega) (by omega)
theorem m134 : Meets Tryd.prog GLv 134 s134 := by
  refine meetsN mix0 glv G31 Tryd.func134 (by kernel_rfl) (by kernel_rfl) s134 fun args x h => ?_
  unfold s134 at h
  split at h
  · rename_i x_a x_b x_k y_a y_b y_k
    simp only [Option.some.injEq, Prod.mk.injEq] at h
    obtain ⟨hp, rfl⟩ := h
    exact ⟨_, _, by kernel_rfl, e134 x_a x_b x_k y_a y_b y_k hp⟩
  · cases h
abbrev Γ32 : List (Nat × Ctr) := (134, s134) :: Γ31
theorem G32 : Sound Tryd.prog GLv Γ32 := G31.cons m134

-- impl.vector
def s150 : Ctr := fun
  | [.val (.int .i64 d)] => some (inB d 0 15, (vecP d).av)
  | _ => none

theorem e150 (d : Int) (hp : (inB d 0 15) = true) : evN Tryd.prog GLv Γ32 (0) [] Tryd.f150 [.val (.int .i64 d)] = some ((vecP d).av) := by
  rw [inB_iff] at hp
  have hh : d = 0 ∨ d = 1 ∨ d = 2 ∨ d = 3 ∨ d = 4 ∨ d = 5 ∨ d = 6 ∨ d = 7 ∨ d = 8 ∨ d = 9 ∨ d = 10 ∨ d = 11 ∨ d = 12 ∨ d = 13 ∨ d = 14 ∨ d = 15 := by omega
  clear hp
  rcases hh with rfl | rfl | rfl | rfl | rfl | rfl | rfl | rfl | rfl | rfl | rfl | rfl | rfl | rfl | rfl | rfl
  all_goals (show _ = _; kernel_rfl)
theorem m150 : Meets Tryd.prog GLv 150 s150 := by
  refine meetsN mix0 glv G32 Tryd.func150 (by kernel_rfl) (by kernel_rfl) s150 fun args x h => ?_
  unfold s150 at h
  split at h
  · rename_i d
    simp only [Option.some.injEq, Prod.mk.injEq] at h
    obtain ⟨hp, rfl⟩ := h
    exact ⟨_, _, by kernel_rfl, e150 d hp⟩
  · cases h
abbrev Γ33 : List (Nat × Ctr) := (150, s150) :: Γ32
theorem G33 : Sound Tryd.prog GLv Γ33 := G32.cons m150

-- spec.l02Mod
def s159 : Ctr := fun
  | [.val (.int .i64 d)] => some (inB d 0 15, .val (.int .i64 d))
  | _ => none

theorem e159 (d : Int) (hp : (inB d 0 15) = true) : evN Tryd.prog GLv Γ33 (0) [] Tryd.f159 [.val (.int .i64 d)] = some (.val (.int .i64 d)) := by
  rw [inB_iff] at hp
  have hh : d = 0 ∨ d = 1 ∨ d = 2 ∨ d = 3 ∨ d = 4 ∨ d = 5 ∨ d = 6 ∨ d = 7 ∨ d = 8 ∨ d = 9 ∨ d = 10 ∨ d = 11 ∨ d = 12 ∨ d = 13 ∨ d = 14 ∨ d = 15 := by omega
  clear hp
  rcases hh with rfl | rfl | rfl | rfl | rfl | rfl | rfl | rfl | rfl | rfl | rfl | rfl | rfl | rfl | rfl | rfl
  all_goals (show _ = _; kernel_rfl)
theorem m159 : Meets Tryd.prog GLv 159 s159 := by
  refine meetsN mix0 glv G33 Tryd.func159 (by kernel_rfl) (by kernel_rfl) s159 fun args x h => ?_
  unfold s159 at h
  split at h
  · rename_i d
    simp only [Option.some.injEq, Prod.mk.injEq] at h
    obtain ⟨hp, rfl⟩ := h
    exact ⟨_, _, by kernel_rfl, e159 d hp⟩
  · cases h
abbrev Γ34 : List (Nat × Ctr) := (159, s159) :: Γ33
theorem G34 : Sound Tryd.prog GLv Γ34 := G33.cons m159

-- spec.l02Vec
def s131 : Ctr := fun
  | [.val (.int .i64 d)] => some (inB d 0 15, (vecP d).av)
  | _ => none

theorem e131 (d : Int) (hp : (inB d 0 15) = true) : evN Tryd.prog GLv Γ34 (0) [] Tryd.f131 [.val (.int .i64 d)] = some ((vecP d).av) := by
  rw [inB_iff] at hp
  have hh : d = 0 ∨ d = 1 ∨ d = 2 ∨ d = 3 ∨ d = 4 ∨ d = 5 ∨ d = 6 ∨ d = 7 ∨ d = 8 ∨ d = 9 ∨ d = 10 ∨ d = 11 ∨ d = 12 ∨ d = 13 ∨ d = 14 ∨ d = 15 := by omega
  clear hp
  rcases hh with rfl | rfl | rfl | rfl | rfl | rfl | rfl | rfl | rfl | rfl | rfl | rfl | rfl | rfl | rfl | rfl
  all_goals (show _ = _; kernel_rfl)
theorem m131 : Meets Tryd.prog GLv 131 s131 := by
  refine meetsN mix0 glv G34 Tryd.func131 (by kernel_rfl) (by kernel_rfl) s131 fun args x h => ?_
  unfold s131 at h
  split at h
  · rename_i d
    simp only [Option.some.injEq, Prod.mk.injEq] at h
    obtain ⟨hp, rfl⟩ := h
    exact ⟨_, _, by kernel_rfl, e131 d hp⟩
  · cases h
abbrev Γ35 : List (Nat × Ctr) := (131, s131) :: Γ34
theorem G35 : Sound Tryd.prog GLv Γ35 := G34.cons m131

-- (impl.Line).normal
def s136 : Ctr := fun
  | [.agg [.val (.int .i64 l_d), .val (.int .i64 l_a), .val (.int .i64 l_b), .val (.int .i64 l_k)]] => some (inB (wr (l_d + 4)) 0 15, (nrm l_d).av)
  | _ => none

theorem e136 (l_d : Int) (l_a : Int) (l_b : Int) (l_k : Int) (hp : (inB (wr (l_d + 4)) 0 15) = true) : evN Tryd.prog GLv Γ35 (0) [] Tryd.f136 [.agg [.val (.int .i64 l_d), .val (.int .i64 l_a), .val (.int .i64 l_b), .val (.int .i64 l_k)]] = some ((nrm l_d).av) := by
  refine (show _ = cond (inB (wr (l_d + 4)) 0 15) (some (nrm l_d).av) none from by kernel_rfl).trans ?_
  rw [hp]
  rfl
theorem m136 : Meets Tryd.prog GLv 136 s136 := by
  refine meetsN mix0 glv G35 Tryd.func136 (by kernel_rfl) (by kernel_rfl) s136 fun args x h => ?_
  unfold s136 at h
  split at h
  · rename_i l_d l_a l_b l_k
    simp only [Option.some.injEq, Prod.mk.injEq] at h
    obtain ⟨hp, rfl⟩ := h
    exact ⟨_, _, by kernel_rfl, e136 l_d l_a l_b l_k hp⟩
  · cases h
abbrev Γ36 : List (Nat × Ctr) := (136, s136) :: Γ35
theorem G36 : Sound Tryd.prog GLv Γ36 := G35.cons m136

-- spec.l02LineOf
def s65 : Ctr := fun
  | [.agg [.val (.int .i64 l_d), .val (.int .i64 l_a), .val (.int .i64 l_b), .val (.int .i64 l_k)]] => some (true, .agg [.val (.int .i64 l_d), .val (.int .i64 l_a), .val (.int .i64 l_b), .val (.int .i64 l_k)])
  | _ => none

theorem e65 (l_d : Int) (l_a : Int) (l_b : Int) (l_k : Int) : evN Tryd.prog GLv Γ36 (0) [] Tryd.f65 [.agg [.val (.int .i64 l_d), .val (.int .i64 l_a), .val (.int .i64 l_b), .val (.int .i64 l_k)]] = some (.agg [.val (.int .i64 l_d), .val (.int .i64 l_a), .val (.int .i64 l_b), .val (.int .i64 l_k)]) := by
  kernel_rfl
theorem m65 : Meets Tryd.prog GLv 65 s65 := by
  refine meetsN mix0 glv G36 Tryd.func65 (by kernel_rfl) (by kernel_rfl) s65 fun args x h => ?_
  unfold s65 at h
  split at h
  · rename_i l_d l_a l_b l_k
    simp only [Option.some.injEq, Prod.mk.injEq] at h
    obtain ⟨hp, rfl⟩ := h
    exact ⟨_, _, by kernel_rfl, e65 l_d l_a l_b l_k⟩
  · cases h
abbrev Γ37 : List (Nat × Ctr) := (65, s65) :: Γ36
theorem G37 : Sound Tryd.prog GLv Γ37 := G36.cons m65

-- laws.toLine
def s14 : Ctr := fun
  | [.agg [.val (.int .i64 l_d), .val (.int .i64 l_a), .val (.int .i64 l_b), .val (.int .i64 l_k)]] => some (true, .agg [.val (.int .i64 l_d), .val (.int .i64 l_a), .val (.int .i64 l_b), .val (.int .i64 l_k)])
  | _ => none

theorem e14 (l_d : Int) (l_a : Int) (l_b : Int) (l_k : Int) : evN Tryd.prog GLv Γ37 (0) [] Tryd.f14 [.agg [.val (.int .i64 l_d), .val (.int .i64 l_a), .val (.int .i64 l_b), .val (.int .i64 l_k)]] = some (.agg [.val (.int .i64 l_d), .val (.int .i64 l_a), .val (.int .i64 l_b), .val (.int .i64 l_k)]) := by
  kernel_rfl
theorem m14 : Meets Tryd.prog GLv 14 s14 := by
  refine meetsN mix0 glv G37 Tryd.func14 (by kernel_rfl) (by kernel_rfl) s14 fun args x h => ?_
  unfold s14 at h
  split at h
  · rename_i l_d l_a l_b l_k
    simp only [Option.some.injEq, Prod.mk.injEq] at h
    obtain ⟨hp, rfl⟩ := h
    exact ⟨_, _, by kernel_rfl, e14 l_d l_a l_b l_k⟩
  · cases h
abbrev Γ38 : List (Nat × Ctr) := (14, s14) :: Γ37
theorem G38 : Sound Tryd.prog GLv Γ38 := G37.cons m14

-- impl.ValidLine
def s67 : Ctr := fun
  | [.agg [.val (.int .i64 l_d), .val (.int .i64 l_a), .val (.int .i64 l_b), .val (.int .i64 l_k)]] => some (true, bv (inB l_d 0 7 && validB (⟨l_a, l_b, l_k⟩ : N3)))
  | _ => none

theorem e67 (l_d : Int) (l_a : Int) (l_b : Int) (l_k : Int) : evN Tryd.prog GLv Γ38 (0) [] Tryd.f67 [.agg [.val (.int .i64 l_d), .val (.int .i64 l_a), .val (.int .i64 l_b), .val (.int .i64 l_k)]] = some (bv (inB l_d 0 7 && validB (⟨l_a, l_b, l_k⟩ : N3))) := by
  refine (show _ = cond (inB l_d 0 7) ( some (bv (validB (N3.mk l_a l_b l_k))) ) ( some (bv (false)) ) from by kernel_rfl).trans ?_
  cases inB l_d 0 7 <;> rfl
theorem m67 : Meets Tryd.prog GLv 67 s67 := by
  refine meetsN mix0 glv G38 Tryd.func67 (by kernel_rfl) (by kernel_rfl) s67 fun args x h => ?_
  unfold s67 at h
  split at h
  · rename_i l_d l_a l_b l_k
    simp only [Option.some.injEq, Prod.mk.injEq] at h
    obtain ⟨hp, rfl⟩ := h
    exact ⟨_, _, by kernel_rfl, e67 l_d l_a l_b l_k⟩
  · cases h
abbrev Γ39 : List (Nat × Ctr) := (67, s67) :: Γ38
theorem G39 : Sound Tryd.prog GLv Γ39 := G38.cons m67

-- spec.l02Line
def s62 : Ctr := fun
  | [.agg [.val (.int .i64 l_d), .val (.int .i64 l_a), .val (.int .i64 l_b), .val (.int .i64 l_k)]] => some (true, bv (inB l_d 0 7 && validB (⟨l_a, l_b, l_k⟩ : N3)))
  | _ => none

theorem e62 (l_d : Int) (l_a : Int) (l_b : Int) (l_k : Int) : evN Tryd.prog GLv Γ39 (0) [] Tryd.f62 [.agg [.val (.int .i64 l_d), .val (.int .i64 l_a), .val (.int .i64 l_b), .val (.int .i64 l_k)]] = some (bv (inB l_d 0 7 && validB (⟨l_a, l_b, l_k⟩ : N3))) := by
  refine (show _ = cond (inB l_d 0 7) ( some (bv (validB (N3.mk l_a l_b l_k))) ) ( some (bv (false)) ) from by kernel_rfl).trans ?_
  cases inB l_d 0 7 <;> rfl
theorem m62 : Meets Tryd.prog GLv 62 s62 := by
  refine meetsN mix0 glv G39 Tryd.func62 (by kernel_rfl) (by kernel_rfl) s62 fun args x h => ?_
  unfold s62 at h
  split at h
  · rename_i l_d l_a l_b l_k
    simp only [Option.some.injEq, Prod.mk.injEq] at h
    obtain ⟨hp, rfl⟩ := h
    exact ⟨_, _, by kernel_rfl, e62 l_d l_a l_b l_k⟩
  · cases h
abbrev Γ40 : List (Nat × Ctr) := (62, s62) :: Γ39
theorem G40 : Sound Tryd.prog GLv Γ40 := G39.cons m62

-- (impl.Point).dot
def s147 : Ctr := fun
  | [.agg [.val (.int .i64 p_xa), .val (.int .i64 p_xb), .val (.int .i64 p_xk), .val (.int .i64 p_ya), .val (.int .i64 p_yb), .val (.int .i64 p_yk)], .agg [.val (.int .i64 q_xa), .val (.int .i64 q_xb), .val (.int .i64 q_xk), .val (.int .i64 q_ya), .val (.int .i64 q_yb), .val (.int .i64 q_yk)]] => some (pkD (⟨(⟨p_xa, p_xb, p_xk⟩ : N3), (⟨p_ya, p_yb, p_yk⟩ : N3)⟩ : P2) (⟨(⟨q_xa, q_xb, q_xk⟩ : N3), (⟨q_ya, q_yb, q_yk⟩ : N3)⟩ : P2), (dotF (⟨(⟨p_xa, p_xb, p_xk⟩ : N3), (⟨p_ya, p_yb, p_yk⟩ : N3)⟩ : P2) (⟨(⟨q_xa, q_xb, q_xk⟩ : N3), (⟨q_ya, q_yb, q_yk⟩ : N3)⟩ : P2)).av)
  | _ => none

theorem e147 (p_xa : Int) (p_xb : Int) (p_xk : Int) (p_ya : Int) (p_yb : Int) (p_yk : Int) (q_xa : Int) (q_xb : Int) (q_xk : Int) (q_ya : Int) (q_yb : Int) (q_yk : Int) (hp : (pkD (⟨(⟨p_xa, p_xb, p_xk⟩ : N3), (⟨p_ya, p_yb, p_yk⟩ : N3)⟩ : P2) (⟨(⟨q_xa, q_xb, q_xk⟩ : N3), (⟨q_ya, q_yb, q_yk⟩ : N3)⟩ : P2)) = true) : evN Tryd.prog GLv Γ40 (0) [] Tryd.f147 [.agg [.val (.int .i64 p_xa), .val (.int .i64 p_xb), .val (.int .i64 p_xk), .val (.int .i64 p_ya), .val (.int .i64 p_yb), .val (.int .i64 p_yk)], .agg [.val (.int .i64 q_xa), .val (.int .i64 q_xb), .val (.int .i64 q_xk), .val (.int .i64 q_ya), .val (.int .i64 q_yb), .val (.int .i64 q_yk)]] = some ((dotF (⟨(⟨p_xa, p_xb, p_xk⟩ : N3), (⟨p_ya, p_yb, p_yk⟩ : N3)⟩ : P2) (⟨(⟨q_xa, q_xb, q_xk⟩ : N3), (⟨q_ya, q_yb, q_yk⟩ : N3)⟩ : P2)).av) := by
  simp only [pkD, Bool.and_eq_true] at hp
  obtain ⟨h1, h2, h3⟩ := hp
  refine (show _ = cond (pkm (⟨p_xa, p_xb, p_xk⟩ : N3) (⟨q_xa, q_xb, q_xk⟩ : N3)) (cond (pkm (⟨p_ya, p_yb, p_yk⟩ : N3) (⟨q_ya, q_yb, q_yk⟩ : N3)) (cond (pk (mulF (⟨p_xa, p_xb, p_xk⟩ : N3) (⟨q_xa, q_xb, q_xk⟩ : N3)) (mulF (⟨p_ya, p_yb, p_yk⟩ : N3) (⟨q_ya, q_yb, q_yk⟩ : N3))) (some (dotF (⟨(⟨p_xa, p_xb, p_xk⟩ : N3), (⟨p_ya, p_yb, p_yk⟩ : N3)⟩ : P2) (⟨(⟨q_xa, q_xb, q_xk⟩ : N3), (⟨q_ya, q_yb, q_yk⟩ : N3)⟩ : P2)).av) none) none) none from by kernel_rfl).trans ?_
  rw [h1, h2, h3]
  rfl
theorem m147 : Meets Tryd.prog GLv 147 s147 := by
  refine meetsN mix0 glv G40 Tryd.func147 (by kernel_rfl) (by kernel_rfl) s147 fun args x h => ?_
  unfold s147 at h
  split at h
  · rename_i p_xa p_xb p_xk p_ya p_yb p_yk q_xa q_xb q_xk q_ya q_yb q_yk
    simp only [Option.some.injEq, Prod.mk.injEq] at h
    obtain ⟨hp, rfl⟩ := h
    exact ⟨_, _, by kernel_rfl, e147 p_xa p_xb p_xk p_ya p_yb p_yk q_xa q_xb q_xk q_ya q_yb q_yk hp⟩
  · cases h
abbrev Γ41 : List (Nat × Ctr) := (147, s147) :: Γ40
theorem G41 : Sound Tryd.prog GLv Γ41 := G40.cons m147

-- (impl.Point).cross
def s137 : Ctr := fun
  | [.agg [.val (.int .i64 p_xa), .val (.int .i64 p_xb), .val (.int .i64 p_xk), .val (.int .i64 p_ya), .val (.int .i64 p_yb), .val (.int .i64 p_yk)], .agg [.val (.int .i64 q_xa), .val (.int .i64 q_xb), .val (.int .i64 q_xk), .val (.int .i64 q_ya), .val (.int .i64 q_yb), .val (.int .i64 q_yk)]] => some (pkC (⟨(⟨p_xa, p_xb, p_xk⟩ : N3), (⟨p_ya, p_yb, p_yk⟩ : N3)⟩ : P2) (⟨(⟨q_xa, q_xb, q_xk⟩ : N3), (⟨q_ya, q_yb, q_yk⟩ : N3)⟩ : P2), (crsF (⟨(⟨p_xa, p_xb, p_xk⟩ : N3), (⟨p_ya, p_yb, p_yk⟩ : N3)⟩ : P2) (⟨(⟨q_xa, q_xb, q_xk⟩ : N3), (⟨q_ya, q_yb, q_yk⟩ : N3)⟩ : P2)).av)
  | _ => none

theorem e137 (p_xa : Int) (p_xb : Int) (p_xk : Int) (p_ya : Int) (p_yb : Int) (p_yk : Int) (q_xa : Int) (q_xb : Int) (q_xk : Int) (q_ya : Int) (q_yb : Int) (q_yk : Int) (hp : (pkC (⟨(⟨p_xa, p_xb, p_xk⟩ : N3), (⟨p_ya, p_yb, p_yk⟩ : N3)⟩ : P2) (⟨(⟨q_xa, q_xb, q_xk⟩ : N3), (⟨q_ya, q_yb, q_yk⟩ : N3)⟩ : P2)) = true) : evN Tryd.prog GLv Γ41 (0) [] Tryd.f137 [.agg [.val (.int .i64 p_xa), .val (.int .i64 p_xb), .val (.int .i64 p_xk), .val (.int .i64 p_ya), .val (.int .i64 p_yb), .val (.int .i64 p_yk)], .agg [.val (.int .i64 q_xa), .val (.int .i64 q_xb), .val (.int .i64 q_xk), .val (.int .i64 q_ya), .val (.int .i64 q_yb), .val (.int .i64 q_yk)]] = some ((crsF (⟨(⟨p_xa, p_xb, p_xk⟩ : N3), (⟨p_ya, p_yb, p_yk⟩ : N3)⟩ : P2) (⟨(⟨q_xa, q_xb, q_xk⟩ : N3), (⟨q_ya, q_yb, q_yk⟩ : N3)⟩ : P2)).av) := by
  simp only [pkC, Bool.and_eq_true] at hp
  obtain ⟨h1, h2, h3⟩ := hp
  refine (show _ = cond (pkm (⟨p_xa, p_xb, p_xk⟩ : N3) (⟨q_ya, q_yb, q_yk⟩ : N3)) (cond (pkm (⟨p_ya, p_yb, p_yk⟩ : N3) (⟨q_xa, q_xb, q_xk⟩ : N3)) (cond (pk (mulF (⟨p_xa, p_xb, p_xk⟩ : N3) (⟨q_ya, q_yb, q_yk⟩ : N3)) (mulF (⟨p_ya, p_yb, p_yk⟩ : N3) (⟨q_xa, q_xb, q_xk⟩ : N3))) (some (crsF (⟨(⟨p_xa, p_xb, p_xk⟩ : N3), (⟨p_ya, p_yb, p_yk⟩ : N3)⟩ : P2) (⟨(⟨q_xa, q_xb, q_xk⟩ : N3), (⟨q_ya, q_yb, q_yk⟩ : N3)⟩ : P2)).av) none) none) none from by kernel_rfl).trans ?_
  rw [h1, h2, h3]
  rfl
theorem m137 : Meets Tryd.prog GLv 137 s137 := by
  refine meetsN mix0 glv G41 Tryd.func137 (by kernel_rfl) (by kernel_rfl) s137 fun args x h => ?_
  unfold s137 at h
  split at h
  · rename_i p_xa p_xb p_xk p_ya p_yb p_yk q_xa q_xb q_xk q_ya q_yb q_yk
    simp only [Option.some.injEq, Prod.mk.injEq] at h
    obtain ⟨hp, rfl⟩ := h
    exact ⟨_, _, by kernel_rfl, e137 p_xa p_xb p_xk p_ya p_yb p_yk q_xa q_xb q_xk q_ya q_yb q_yk hp⟩
  · cases h
abbrev Γ42 : List (Nat × Ctr) := (137, s137) :: Γ41
theorem G42 : Sound Tryd.prog GLv Γ42 := G41.cons m137

-- (impl.Point).times
def s152 : Ctr := fun
  | [.agg [.val (.int .i64 p_xa), .val (.int .i64 p_xb), .val (.int .i64 p_xk), .val (.int .i64 p_ya), .val (.int .i64 p_yb), .val (.int .i64 p_yk)], .agg [.val (.int .i64 n_a), .val (.int .i64 n_b), .val (.int .i64 n_k)]] => some (pkT (⟨(⟨p_xa, p_xb, p_xk⟩ : N3), (⟨p_ya, p_yb, p_yk⟩ : N3)⟩ : P2) (⟨n_a, n_b, n_k⟩ : N3), (timesF (⟨(⟨p_xa, p_xb, p_xk⟩ : N3), (⟨p_ya, p_yb, p_yk⟩ : N3)⟩ : P2) (⟨n_a, n_b, n_k⟩ : N3)).av)
  | _ => none

theorem e152 (p_xa : Int) (p_xb : Int) (p_xk : Int) (p_ya : Int) (p_yb : Int) (p_yk : Int) (n_a : Int) (n_b : Int) (n_k : Int) (hp : (pkT (⟨(⟨p_xa, p_xb, p_xk⟩ : N3), (⟨p_ya, p_yb, p_yk⟩ : N3)⟩ : P2) (⟨n_a, n_b, n_k⟩ : N3)) = true) : evN Tryd.prog GLv Γ42 (0) [] Tryd.f152 [.agg [.val (.int .i64 p_xa), .val (.int .i64 p_xb), .val (.int .i64 p_xk), .val (.int .i64 p_ya), .val (.int .i64 p_yb), .val (.int .i64 p_yk)], .agg [.val (.int .i64 n_a), .val (.int .i64 n_b), .val (.int .i64 n_k)]] = some ((timesF (⟨(⟨p_xa, p_xb, p_xk⟩ : N3), (⟨p_ya, p_yb, p_yk⟩ : N3)⟩ : P2) (⟨n_a, n_b, n_k⟩ : N3)).av) := by
  simp only [pkT, Bool.and_eq_true] at hp
  obtain ⟨h1, h2⟩ := hp
  refine (show _ = cond (pkm (⟨p_xa, p_xb, p_xk⟩ : N3) (⟨n_a, n_b, n_k⟩ : N3)) (cond (pkm (⟨p_ya, p_yb, p_yk⟩ : N3) (⟨n_a, n_b, n_k⟩ : N3)) (some (timesF (⟨(⟨p_xa, p_xb, p_xk⟩ : N3), (⟨p_ya, p_yb, p_yk⟩ : N3)⟩ : P2) (⟨n_a, n_b, n_k⟩ : N3)).av) none) none from by kernel_rfl).trans ?_
  rw [h1, h2]
  rfl
theorem m152 : Meets Tryd.prog GLv 152 s152 := by
  refine meetsN mix0 glv G42 Tryd.func152 (by kernel_rfl) (by kernel_rfl) s152 fun args x h => ?_
  unfold s152 at h
  split at h
  · rename_i p_xa p_xb p_xk p_ya p_yb p_yk n_a n_b n_k
    simp only [Option.some.injEq, Prod.mk.injEq] at h
    obtain ⟨hp, rfl⟩ := h
    exact ⟨_, _, by kernel_rfl, e152 p_xa p_xb p_xk p_ya p_yb p_yk n_a n_b n_k hp⟩
  · cases h
abbrev Γ43 : List (Nat × Ctr) := (152, s152) :: Γ42
theorem G43 : Sound Tryd.prog GLv Γ43 := G42.cons m152

-- (impl.Point).minus
def s149 : Ctr := fun
  | [.agg [.val (.int .i64 p_xa), .val (.int .i64 p_xb), .val (.int .i64 p_xk), .val (.int .i64 p_ya), .val (.int .i64 p_yb), .val (.int .i64 p_yk)], .agg [.val (.int .i64 q_xa), .val (.int .i64 q_xb), .val (.int .i64 q_xk), .val (.int .i64 q_ya), .val (.int .i64 q_yb), .val (.int .i64 q_yk)]] => some (pkP (⟨(⟨p_xa, p_xb, p_xk⟩ : N3), (⟨p_ya, p_yb, p_yk⟩ : N3)⟩ : P2) (⟨(⟨q_xa, q_xb, q_xk⟩ : N3), (⟨q_ya, q_yb, q_yk⟩ : N3)⟩ : P2), (subP (⟨(⟨p_xa, p_xb, p_xk⟩ : N3), (⟨p_ya, p_yb, p_yk⟩ : N3)⟩ : P2) (⟨(⟨q_xa, q_xb, q_xk⟩ : N3), (⟨q_ya, q_yb, q_yk⟩ : N3)⟩ : P2)).av)
  | _ => none

theorem e149 (p_xa : Int) (p_xb : Int) (p_xk : Int) (p_ya : Int) (p_yb : Int) (p_yk : Int) (q_xa : Int) (q_xb : Int) (q_xk : Int) (q_ya : Int) (q_yb : Int) (q_yk : Int) (hp : (pkP (⟨(⟨p_xa, p_xb, p_xk⟩ : N3), (⟨p_ya, p_yb, p_yk⟩ : N3)⟩ : P2) (⟨(⟨q_xa, q_xb, q_xk⟩ : N3), (⟨q_ya, q_yb, q_yk⟩ : N3)⟩ : P2)) = true) : evN Tryd.prog GLv Γ43 (0) [] Tryd.f149 [.agg [.val (.int .i64 p_xa), .val (.int .i64 p_xb), .val (.int .i64 p_xk), .val (.int .i64 p_ya), .val (.int .i64 p_yb), .val (.int .i64 p_yk)], .agg [.val (.int .i64 q_xa), .val (.int .i64 q_xb), .val (.int .i64 q_xk), .val (.int .i64 q_ya), .val (.int .i64 q_yb), .val (.int .i64 q_yk)]] = some ((subP (⟨(⟨p_xa, p_xb, p_xk⟩ : N3), (⟨p_ya, p_yb, p_yk⟩ : N3)⟩ : P2) (⟨(⟨q_xa, q_xb, q_xk⟩ : N3), (⟨q_ya, q_yb, q_yk⟩ : N3)⟩ : P2)).av) := by
  simp only [pkP, Bool.and_eq_true] at hp
  obtain ⟨h1, h2⟩ := hp
  refine (show _ = cond (pk (⟨p_xa, p_xb, p_xk⟩ : N3) (⟨q_xa, q_xb, q_xk⟩ : N3)) (cond (pk (⟨p_ya, p_yb, p_yk⟩ : N3) (⟨q_ya, q_yb, q_yk⟩ : N3)) (some (subP (⟨(⟨p_xa, p_xb, p_xk⟩ : N3), (⟨p_ya, p_yb, p_yk⟩ : N3)⟩ : P2) (⟨(⟨q_xa, q_xb, q_xk⟩ : N3), (⟨q_ya, q_yb, q_yk⟩ : N3)⟩ : P2)).av) none) none from by kernel_rfl).trans ?_
  rw [h1, h2]
  rfl
theorem m149 : Meets Tryd.prog GLv 149 s149 := by
  refine meetsN mix0 glv G43 Tryd.func149 (by kernel_rfl) (by kernel_rfl) s149 fun args x h => ?_
  unfold s149 at h
  split at h
  · rename_i p_xa p_xb p_xk p_ya p_yb p_yk q_xa q_xb q_xk q_ya q_yb q_yk
    simp only [Option.some.injEq, Prod.mk.injEq] at h
    obtain ⟨hp, rfl⟩ := h
    exact ⟨_, _, by kernel_rfl, e149 p_xa p_xb p_xk p_ya p_yb p_yk q_xa q_xb q_xk q_ya q_yb q_yk hp⟩
  · cases h
abbrev Γ44 : List (Nat × Ctr) := (149, s149) :: Γ43
theorem G44 : Sound Tryd.prog GLv Γ44 := G43.cons m149

-- spec.l02Minus
def s112 : Ctr := fun
  | [.agg [.val (.int .i64 p_xa), .val (.int .i64 p_xb), .val (.int .i64 p_xk), .val (.int .i64 p_ya), .val (.int .i64 p_yb), .val (.int .i64 p_yk)], .agg [.val (.int .i64 q_xa), .val (.int .i64 q_xb), .val (.int .i64 q_xk), .val (.int .i64 q_ya), .val (.int .i64 q_yb), .val (.int .i64 q_yk)]] => some (pkP (⟨(⟨p_xa, p_xb, p_xk⟩ : N3), (⟨p_ya, p_yb, p_yk⟩ : N3)⟩ : P2) (⟨(⟨q_xa, q_xb, q_xk⟩ : N3), (⟨q_ya, q_yb, q_yk⟩ : N3)⟩ : P2), (subP (⟨(⟨p_xa, p_xb, p_xk⟩ : N3), (⟨p_ya, p_yb, p_yk⟩ : N3)⟩ : P2) (⟨(⟨q_xa, q_xb, q_xk⟩ : N3), (⟨q_ya, q_yb, q_yk⟩ : N3)⟩ : P2)).av)
  | _ => none

theorem e112 (p_xa : Int) (p_xb : Int) (p_xk : Int) (p_ya : Int) (p_yb : Int) (p_yk : Int) (q_xa : Int) (q_xb : Int) (q_xk : Int) (q_ya : Int) (q_yb : Int) (q_yk : Int) (hp : (pkP (⟨(⟨p_xa, p_xb, p_xk⟩ : N3), (⟨p_ya, p_yb, p_yk⟩ : N3)⟩ : P2) (⟨(⟨q_xa, q_xb, q_xk⟩ : N3), (⟨q_ya, q_yb, q_yk⟩ : N3)⟩ : P2)) = true) : evN Tryd.prog GLv Γ44 (0) [] Tryd.f112 [.agg [.val (.int .i64 p_xa), .val (.int .i64 p_xb), .val (.int .i64 p_xk), .val (.int .i64 p_ya), .val (.int .i64 p_yb), .val (.int .i64 p_yk)], .agg [.val (.int .i64 q_xa), .val (.int .i64 q_xb), .val (.int .i64 q_xk), .val (.int .i64 q_ya), .val (.int .i64 q_yb), .val (.int .i64 q_yk)]] = some ((subP (⟨(⟨p_xa, p_xb, p_xk⟩ : N3), (⟨p_ya, p_yb, p_yk⟩ : N3)⟩ : P2) (⟨(⟨q_xa, q_xb, q_xk⟩ : N3), (⟨q_ya, q_yb, q_yk⟩ : N3)⟩ : P2)).av) := by
  simp only [pkP, Bool.and_eq_true] at hp
  obtain ⟨h1, h2⟩ := hp
  refine (show _ = cond (pk (⟨p_xa, p_xb, p_xk⟩ : N3) (⟨q_xa, q_xb, q_xk⟩ : N3)) (cond (pk (⟨p_ya, p_yb, p_yk⟩ : N3) (⟨q_ya, q_yb, q_yk⟩ : N3)) (some (subP (⟨(⟨p_xa, p_xb, p_xk⟩ : N3), (⟨p_ya, p_yb, p_yk⟩ : N3)⟩ : P2) (⟨(⟨q_xa, q_xb, q_xk⟩ : N3), (⟨q_ya, q_yb, q_yk⟩ : N3)⟩ : P2)).av) none) none from by kernel_rfl).trans ?_
  rw [h1, h2]
  rfl
theorem m112 : Meets Tryd.prog GLv 112 s112 := by
  refine meetsN mix0 glv G44 Tryd.func112 (by kernel_rfl) (by kernel_rfl) s112 fun args x h => ?_
  unfold s112 at h
  split at h
  · rename_i p_xa p_xb p_xk p_ya p_yb p_yk q_xa q_xb q_xk q_ya q_yb q_yk
    simp only [Option.some.injEq, Prod.mk.injEq] at h
    obtain ⟨hp, rfl⟩ := h
    exact ⟨_, _, by kernel_rfl, e112 p_xa p_xb p_xk p_ya p_yb p_yk q_xa q_xb q_xk q_ya q_yb q_yk hp⟩
  · cases h
abbrev Γ45 : List (Nat × Ctr) := (112, s112) :: Γ44
theorem G45 : Sound Tryd.prog GLv Γ45 := G44.cons m112

-- spec.l02Dot
def s154 : Ctr := fun
  | [.val (.int .i64 d), .agg [.val (.int .i64 p_xa), .val (.int .i64 p_xb), .val (.int .i64 p_xk), .val (.int .i64 p_ya), .val (.int .i64 p_yb), .val (.int .i64 p_yk)]] => some (inB d 0 15 && pkD (vecP d) (⟨(⟨p_xa, p_xb, p_xk⟩ : N3), (⟨p_ya, p_yb, p_yk⟩ : N3)⟩ : P2), (dotF (vecP d) (⟨(⟨p_xa, p_xb, p_xk⟩ : N3), (⟨p_ya, p_yb, p_yk⟩ : N3)⟩ : P2)).av)
  | _ => none

theorem e154 (d : Int) (p_xa : Int) (p_xb : Int) (p_xk : Int) (p_ya : Int) (p_yb : Int) (p_yk : Int) (hp : (inB d 0 15 && pkD (vecP d) (⟨(⟨p_xa, p_xb, p_xk⟩ : N3), (⟨p_ya, p_yb, p_yk⟩ : N3)⟩ : P2)) = true) : evN Tryd.prog GLv Γ45 (0) [] Tryd.f154 [.val (.int .i64 d), .agg [.val (.int .i64 p_xa), .val (.int .i64 p_xb), .val (.int .i64 p_xk), .val (.int .i64 p_ya), .val (.int .i64 p_yb), .val (.int .i64 p_yk)]] = some ((dotF (vecP d) (⟨(⟨p_xa, p_xb, p_xk⟩ : N3), (⟨p_ya, p_yb, p_yk⟩ : N3)⟩ : P2)).av) := by
  simp only [pkD, Bool.and_eq_true] at hp
  obtain ⟨h0, h1, h2, h3⟩ := hp
  refine (show _ = cond (inB d 0 15) (cond (pkm (vecP d).x (⟨p_xa, p_xb, p_xk⟩ : N3)) (cond (pkm (vecP d).y (⟨p_ya, p_yb, p_yk⟩ : N3)) (cond (pk (mulF (vecP d).x (⟨p_xa, p_xb, p_xk⟩ : N3)) (mulF (vecP d).y (⟨p_ya, p_yb, p_yk⟩ : N3))) (some (dotF (vecP d) (⟨(⟨p_xa, p_xb, p_xk⟩ : N3), (⟨p_ya, p_yb, p_yk⟩ : N3)⟩ : P2)).av) none) none) none) none from by kernel_rfl).trans ?_
  rw [h0, h1, h2, h3]
  rfl
theorem m154 : Meets Tryd.prog GLv 154 s154 := by
  refine meetsN mix0 glv G45 Tryd.func154 (by kernel_rfl) (by kernel_rfl) s154 fun args x h => ?_
  unfold s154 at h
  split at h
  · rename_i d p_xa p_xb p_xk p_ya p_yb p_yk
    simp only [Option.some.injEq, Prod.mk.injEq] at h
    obtain ⟨hp, rfl⟩ := h
    exact ⟨_, _, by kernel_rfl, e154 d p_xa p_xb p_xk p_ya p_yb p_yk hp⟩
  · cases h
abbrev Γ46 : List (Nat × Ctr) := (154, s154) :: Γ45
theorem G46 : Sound Tryd.prog GLv Γ46 := G45.cons m154

-- spec.l02Square
def s155 : Ctr := fun
  | [.val (.int .i64 d)] => some (inB d 0 15 && pkD (vecP d) (vecP d), (dotF (vecP d) (vecP d)).av)
  | _ => none

theorem e155 (d : Int) (hp : (inB d 0 15 && pkD (vecP d) (vecP d)) = true) : evN Tryd.prog GLv Γ46 (0) [] Tryd.f155 [.val (.int .i64 d)] = some ((dotF (vecP d) (vecP d)).av) := by
  simp only [pkD, Bool.and_eq_true] at hp
  obtain ⟨h0, h1, h2, h3⟩ := hp
  refine (show _ = cond (inB d 0 15) (cond (pkm (vecP d).x (vecP d).x) (cond (pkm (vecP d).y (vecP d).y) (cond (pk (mulF (vecP d).x (vecP d).x) (mulF (vecP d).y (vecP d).y)) (some (dotF (vecP d) (vecP d)).av) none) none) none) none from by kernel_rfl).trans ?_
  rw [h0, h1, h2, h3]
  rfl
theorem m155 : Meets Tryd.prog GLv 155 s155 := by
  refine meetsN mix0 glv G46 Tryd.func155 (by kernel_rfl) (by kernel_rfl) s155 fun args x h => ?_
  unfold s155 at h
  split at h
  · rename_i d
    simp only [Option.some.injEq, Prod.mk.injEq] at h
    obtain ⟨hp, rfl⟩ := h
    exact ⟨_, _, by kernel_rfl, e155 d hp⟩
  · cases h
abbrev Γ47 : List (Nat × Ctr) := (155, s155) :: Γ46
theorem G47 : Sound Tryd.prog GLv Γ47 := G46.cons m155

-- (impl.Line).reflect
def s84 : Ctr := fun
  | [.agg [.val (.int .i64 l_d), .val (.int .i64 l_a), .val (.int .i64 l_b), .val (.int .i64 l_k)], .agg [.val (.int .i64 p_xa), .val (.int .i64 p_xb), .val (.int .i64 p_xk), .val (.int .i64 p_ya), .val (.int .i64 p_yb), .val (.int .i64 p_yk)]] => some (inB l_d 0 7 && (validB (⟨l_a, l_b, l_k⟩ : N3) && valP (⟨(⟨p_xa, p_xb, p_xk⟩ : N3), (⟨p_ya, p_yb, p_yk⟩ : N3)⟩ : P2)), (rflI (nrm l_d) (⟨l_a, l_b, l_k⟩ : N3) (⟨(⟨p_xa, p_xb, p_xk⟩ : N3), (⟨p_ya, p_yb, p_yk⟩ : N3)⟩ : P2)).av)
  | _ => none

theorem e84 (l_d : Int) (l_a : Int) (l_b : Int) (l_k : Int) (p_xa : Int) (p_xb : Int) (p_xk : Int) (p_ya : Int) (p_yb : Int) (p_yk : Int) (hp : (inB l_d 0 7 && (validB (⟨l_a, l_b, l_k⟩ : N3) && valP (⟨(⟨p_xa, p_xb, p_xk⟩ : N3), (⟨p_ya, p_yb, p_yk⟩ : N3)⟩ : P2))) = true) : evN Tryd.prog GLv Γ47 (0) [] Tryd.f84 [.agg [.val (.int .i64 l_d), .val (.int .i64 l_a), .val (.int .i64 l_b), .val (.int .i64 l_k)], .agg [.val (.int .i64 p_xa), .val (.int .i64 p_xb), .val (.int .i64 p_xk), .val (.int .i64 p_ya), .val (.int .i64 p_yb), .val (.int .i64 p_yk)]] = some ((rflI (nrm l_d) (⟨l_a, l_b, l_k⟩ : N3) (⟨(⟨p_xa, p_xb, p_xk⟩ : N3), (⟨p_ya, p_yb, p_yk⟩ : N3)⟩ : P2)).av) := by
  simp only [Bool.and_eq_true] at hp
  obtain ⟨h1, h2, h3⟩ := hp
  obtain ⟨E, hn⟩ := nrm_all l_d h1
  obtain ⟨a1, a2, a3, a4, a5, a6, a7, a8, a9, _⟩ := refl_same hn h2 h3
  have h15 := nrm_in h1
  obtain ⟨b1, b2, b3⟩ := a7 _ rfl
  refine (show _ = cond (inB (wr (l_d + 4)) 0 15) (cond (pkD (nrm l_d) (⟨(⟨p_xa, p_xb, p_xk⟩ : N3), (⟨p_ya, p_yb, p_yk⟩ : N3)⟩ : P2)) (cond (pk (⟨l_a, l_b, l_k⟩ : N3) (dotF (nrm l_d) (⟨(⟨p_xa, p_xb, p_xk⟩ : N3), (⟨p_ya, p_yb, p_yk⟩ : N3)⟩ : P2))) (cond (pkD (nrm l_d) (nrm l_d)) (cond (dvP (subF (⟨l_a, l_b, l_k⟩ : N3) (dotF (nrm l_d) (⟨(⟨p_xa, p_xb, p_xk⟩ : N3), (⟨p_ya, p_yb, p_yk⟩ : N3)⟩ : P2))) (dotF (nrm l_d) (nrm l_d))) (cond (pk (dvF (subF (⟨l_a, l_b, l_k⟩ : N3) (dotF (nrm l_d) (⟨(⟨p_xa, p_xb, p_xk⟩ : N3), (⟨p_ya, p_yb, p_yk⟩ : N3)⟩ : P2))) (dotF (nrm l_d) (nrm l_d))) (dvF (subF (⟨l_a, l_b, l_k⟩ : N3) (dotF (nrm l_d) (⟨(⟨p_xa, p_xb, p_xk⟩ : N3), (⟨p_ya, p_yb, p_yk⟩ : N3)⟩ : P2))) (dotF (nrm l_d) (nrm l_d)))) (cond (pkT (nrm l_d) (addF (dvF (subF (⟨l_a, l_b, l_k⟩ : N3) (dotF (nrm l_d) (⟨(⟨p_xa, p_xb, p_xk⟩ : N3), (⟨p_ya, p_yb, p_yk⟩ : N3)⟩ : P2))) (dotF (nrm l_d) (nrm l_d))) (dvF (subF (⟨l_a, l_b, l_k⟩ : N3) (dotF (nrm l_d) (⟨(⟨p_xa, p_xb, p_xk⟩ : N3), (⟨p_ya, p_yb, p_yk⟩ : N3)⟩ : P2))) (dotF (nrm l_d) (nrm l_d))))) (cond (pkP (⟨(⟨p_xa, p_xb, p_xk⟩ : N3), (⟨p_ya, p_yb, p_yk⟩ : N3)⟩ : P2) (timesF (nrm l_d) (addF (dvF (subF (⟨l_a, l_b, l_k⟩ : N3) (dotF (nrm l_d) (⟨(⟨p_xa, p_xb, p_xk⟩ : N3), (⟨p_ya, p_yb, p_yk⟩ : N3)⟩ : P2))) (dotF (nrm l_d) (nrm l_d))) (dvF (subF (⟨l_a, l_b, l_k⟩ : N3) (dotF (nrm l_d) (⟨(⟨p_xa, p_xb, p_xk⟩ : N3), (⟨p_ya, p_yb, p_yk⟩ : N3)⟩ : P2))) (dotF (nrm l_d) (nrm l_d)))))) (some (rflI (nrm l_d) (⟨l_a, l_b, l_k⟩ : N3) (⟨(⟨p_xa, p_xb, p_xk⟩ : N3), (⟨p_ya, p_yb, p_yk⟩ : N3)⟩ : P2)).av) none) none) none) none) none) none) none) none from by kernel_rfl).trans ?_
  rw [h15, a1, a3, a2, a5, b1, b2, b3]
  rfl
theorem m84 : Meets Tryd.prog GLv 84 s84 := by
  refine meetsN mix0 glv G47 Tryd.func84 (by kernel_rfl) (by kernel_rfl) s84 fun args x h => ?_
  unfold s84 at h
  split at h
  · rename_i l_d l_a l_b l_k p_xa p_xb p_xk p_ya p_yb p_yk
    simp only [Option.some.injEq, Prod.mk.injEq] at h
    obtain ⟨hp, rfl⟩ := h
    exact ⟨_, _, by kernel_rfl, e84 l_d l_a l_b l_k p_xa p_xb p_xk p_ya p_yb p_yk hp⟩
  · cases h
abbrev Γ48 : List (Nat × Ctr) := (84, s84) :: Γ47
theorem G48 : Sound Tryd.prog GLv Γ48 := G47.cons m84

-- spec.l02Reflect
def s86 : Ctr := fun
  | [.agg [.val (.int .i64 l_d), .val (.int .i64 l_a), .val (.int .i64 l_b), .val (.int .i64 l_k)], .agg [.val (.int .i64 p_xa), .val (.int .i64 p_xb), .val (.int .i64 p_xk), .val (.int .i64 p_ya), .val (.int .i64 p_yb), .val (.int .i64 p_yk)]] => some (inB l_d 0 7 && (validB (⟨l_a, l_b, l_k⟩ : N3) && valP (⟨(⟨p_xa, p_xb, p_xk⟩ : N3), (⟨p_ya, p_yb, p_yk⟩ : N3)⟩ : P2)), (rflI (nrm l_d) (⟨l_a, l_b, l_k⟩ : N3) (⟨(⟨p_xa, p_xb, p_xk⟩ : N3), (⟨p_ya, p_yb, p_yk⟩ : N3)⟩ : P2)).av)
  | _ => none

theorem e86 (l_d : Int) (l_a : Int) (l_b : Int) (l_k : Int) (p_xa : Int) (p_xb : Int) (p_xk : Int) (p_ya : Int) (p_yb : Int) (p_yk : Int) (hp : (inB l_d 0 7 && (validB (⟨l_a, l_b, l_k⟩ : N3) && valP (⟨(⟨p_xa, p_xb, p_xk⟩ : N3), (⟨p_ya, p_yb, p_yk⟩ : N3)⟩ : P2))) = true) : evN Tryd.prog GLv Γ48 (0) [] Tryd.f86 [.agg [.val (.int .i64 l_d), .val (.int .i64 l_a), .val (.int .i64 l_b), .val (.int .i64 l_k)], .agg [.val (.int .i64 p_xa), .val (.int .i64 p_xb), .val (.int .i64 p_xk), .val (.int .i64 p_ya), .val (.int .i64 p_yb), .val (.int .i64 p_yk)]] = some ((rflI (nrm l_d) (⟨l_a, l_b, l_k⟩ : N3) (⟨(⟨p_xa, p_xb, p_xk⟩ : N3), (⟨p_ya, p_yb, p_yk⟩ : N3)⟩ : P2)).av) := by
  simp only [Bool.and_eq_true] at hp
  obtain ⟨h1, h2, h3⟩ := hp
  obtain ⟨E, hn⟩ := nrm_all l_d h1
  obtain ⟨a1, a2, a3, a4, a5, a6, a7, a8, a9, _⟩ := refl_same hn h2 h3
  have h15 := nrm_in h1
  obtain ⟨b1, b2, b3, b4, b5⟩ := a8 _ rfl
  rw [a9]
  refine (show _ = cond (inB (wr (l_d + 4)) 0 15) (cond (inB (wr (l_d + 4)) 0 15 && pkD (nrm l_d) (⟨(⟨p_xa, p_xb, p_xk⟩ : N3), (⟨p_ya, p_yb, p_yk⟩ : N3)⟩ : P2)) (cond (pk (dotF (nrm l_d) (⟨(⟨p_xa, p_xb, p_xk⟩ : N3), (⟨p_ya, p_yb, p_yk⟩ : N3)⟩ : P2)) (⟨l_a, l_b, l_k⟩ : N3)) (cond (inB (wr (l_d + 4)) 0 15 && pkD (nrm l_d) (nrm l_d)) (cond (dvP (subF (dotF (nrm l_d) (⟨(⟨p_xa, p_xb, p_xk⟩ : N3), (⟨p_ya, p_yb, p_yk⟩ : N3)⟩ : P2)) (⟨l_a, l_b, l_k⟩ : N3)) (dotF (nrm l_d) (nrm l_d))) (cond (pk (dvF (subF (dotF (nrm l_d) (⟨(⟨p_xa, p_xb, p_xk⟩ : N3), (⟨p_ya, p_yb, p_yk⟩ : N3)⟩ : P2)) (⟨l_a, l_b, l_k⟩ : N3)) (dotF (nrm l_d) (nrm l_d))) (dvF (subF (dotF (nrm l_d) (⟨(⟨p_xa, p_xb, p_xk⟩ : N3), (⟨p_ya, p_yb, p_yk⟩ : N3)⟩ : P2)) (⟨l_a, l_b, l_k⟩ : N3)) (dotF (nrm l_d) (nrm l_d)))) (cond (pkm (addF (dvF (subF (dotF (nrm l_d) (⟨(⟨p_xa, p_xb, p_xk⟩ : N3), (⟨p_ya, p_yb, p_yk⟩ : N3)⟩ : P2)) (⟨l_a, l_b, l_k⟩ : N3)) (dotF (nrm l_d) (nrm l_d))) (dvF (subF (dotF (nrm l_d) (⟨(⟨p_xa, p_xb, p_xk⟩ : N3), (⟨p_ya, p_yb, p_yk⟩ : N3)⟩ : P2)) (⟨l_a, l_b, l_k⟩ : N3)) (dotF (nrm l_d) (nrm l_d)))) (nrm l_d).x) (cond (pkm (addF (dvF (subF (dotF (nrm l_d) (⟨(⟨p_xa, p_xb, p_xk⟩ : N3), (⟨p_ya, p_yb, p_yk⟩ : N3)⟩ : P2)) (⟨l_a, l_b, l_k⟩ : N3)) (dotF (nrm l_d) (nrm l_d))) (dvF (subF (dotF (nrm l_d) (⟨(⟨p_xa, p_xb, p_xk⟩ : N3), (⟨p_ya, p_yb, p_yk⟩ : N3)⟩ : P2)) (⟨l_a, l_b, l_k⟩ : N3)) (dotF (nrm l_d) (nrm l_d)))) (nrm l_d).y) (cond (pk (⟨(⟨p_xa, p_xb, p_xk⟩ : N3), (⟨p_ya, p_yb, p_yk⟩ : N3)⟩ : P2).x (mulF (addF (dvF (subF (dotF (nrm l_d) (⟨(⟨p_xa, p_xb, p_xk⟩ : N3), (⟨p_ya, p_yb, p_yk⟩ : N3)⟩ : P2)) (⟨l_a, l_b, l_k⟩ : N3)) (dotF (nrm l_d) (nrm l_d))) (dvF (subF (dotF (nrm l_d) (⟨(⟨p_xa, p_xb, p_xk⟩ : N3), (⟨p_ya, p_yb, p_yk⟩ : N3)⟩ : P2)) (⟨l_a, l_b, l_k⟩ : N3)) (dotF (nrm l_d) (nrm l_d)))) (nrm l_d).x) && pk (⟨(⟨p_xa, p_xb, p_xk⟩ : N3), (⟨p_ya, p_yb, p_yk⟩ : N3)⟩ : P2).y (mulF (addF (dvF (subF (dotF (nrm l_d) (⟨(⟨p_xa, p_xb, p_xk⟩ : N3), (⟨p_ya, p_yb, p_yk⟩ : N3)⟩ : P2)) (⟨l_a, l_b, l_k⟩ : N3)) (dotF (nrm l_d) (nrm l_d))) (dvF (subF (dotF (nrm l_d) (⟨(⟨p_xa, p_xb, p_xk⟩ : N3), (⟨p_ya, p_yb, p_yk⟩ : N3)⟩ : P2)) (⟨l_a, l_b, l_k⟩ : N3)) (dotF (nrm l_d) (nrm l_d)))) (nrm l_d).y)) (some (rflS (nrm l_d) (⟨l_a, l_b, l_k⟩ : N3) (⟨(⟨p_xa, p_xb, p_xk⟩ : N3), (⟨p_ya, p_yb, p_yk⟩ : N3)⟩ : P2)).av) none) none) none) none) none) none) none) none) none from by kernel_rfl).trans ?_
  rw [h15, a1, a4, a2, a6, b1, b2, b3, b4, b5]
  rfl
theorem m86 : Meets Tryd.prog GLv 86 s86 := by
  refine meetsN mix0 glv G48 Tryd.func86 (by kernel_rfl) (by kernel_rfl) s86 fun args x h => ?_
  unfold s86 at h
  split at h
  · rename_i l_d l_a l_b l_k p_xa p_xb p_xk p_ya p_yb p_yk
    simp only [Option.some.injEq, Prod.mk.injEq] at h
    obtain ⟨hp, rfl⟩ := h
    exact ⟨_, _, by kernel_rfl, e86 l_d l_a l_b l_k p_xa p_xb p_xk p_ya p_yb p_yk hp⟩
  · cases h
abbrev Γ49 : List (Nat × Ctr) := (86, s86) :: Γ48
theorem G49 : Sound Tryd.prog GLv Γ49 := G48.cons m86

-- impl.ReflectPoint
def s26 : Ctr := fun
  | [.agg [.val (.int .i64 l_d), .val (.int .i64 l_a), .val (.int .i64 l_b), .val (.int .i64 l_k)], .agg [.val (.int .i64 p_xa), .val (.int .i64 p_xb), .val (.int .i64 p_xk), .val (.int .i64 p_ya), .val (.int .i64 p_yb), .val (.int .i64 p_yk)]] => some (true, rP (((inB l_d 0 7 && validB (⟨l_a, l_b, l_k⟩ : N3)) && valP (⟨(⟨p_xa, p_xb, p_xk⟩ : N3), (⟨p_ya, p_yb, p_yk⟩ : N3)⟩ : P2)) && valP (redP (rflI (nrm l_d) (⟨l_a, l_b, l_k⟩ : N3) (⟨(⟨p_xa, p_xb, p_xk⟩ : N3), (⟨p_ya, p_yb, p_yk⟩ : N3)⟩ : P2)))) (redP (rflI (nrm l_d) (⟨l_a, l_b, l_k⟩ : N3) (⟨(⟨p_xa, p_xb, p_xk⟩ : N3), (⟨p_ya, p_yb, p_yk⟩ : N3)⟩ : P2))))
  | _ => none

theorem e26 (l_d : Int) (l_a : Int) (l_b : Int) (l_k : Int) (p_xa : Int) (p_xb : Int) (p_xk : Int) (p_ya : Int) (p_yb : Int) (p_yk : Int) : evN Tryd.prog GLv Γ49 (0) [] Tryd.f26 [.agg [.val (.int .i64 l_d), .val (.int .i64 l_a), .val (.int .i64 l_b), .val (.int .i64 l_k)], .agg [.val (.int .i64 p_xa), .val (.int .i64 p_xb), .val (.int .i64 p_xk), .val (.int .i64 p_ya), .val (.int .i64 p_yb), .val (.int .i64 p_yk)]] = some (rP (((inB l_d 0 7 && validB (⟨l_a, l_b, l_k⟩ : N3)) && valP (⟨(⟨p_xa, p_xb, p_xk⟩ : N3), (⟨p_ya, p_yb, p_yk⟩ : N3)⟩ : P2)) && valP (redP (rflI (nrm l_d) (⟨l_a, l_b, l_k⟩ : N3) (⟨(⟨p_xa, p_xb, p_xk⟩ : N3), (⟨p_ya, p_yb, p_yk⟩ : N3)⟩ : P2)))) (redP (rflI (nrm l_d) (⟨l_a, l_b, l_k⟩ : N3) (⟨(⟨p_xa, p_xb, p_xk⟩ : N3), (⟨p_ya, p_yb, p_yk⟩ : N3)⟩ : P2)))) := by
  refine (show _ = cond (!(inB l_d 0 7 && validB (⟨l_a, l_b, l_k⟩ : N3))) (some (rP false (⟨(⟨p_xa, p_xb, p_xk⟩ : N3), (⟨p_ya, p_yb, p_yk⟩ : N3)⟩ : P2))) (cond (!valP (⟨(⟨p_xa, p_xb, p_xk⟩ : N3), (⟨p_ya, p_yb, p_yk⟩ : N3)⟩ : P2)) (some (rP false (⟨(⟨p_xa, p_xb, p_xk⟩ : N3), (⟨p_ya, p_yb, p_yk⟩ : N3)⟩ : P2))) (cond (inB l_d 0 7 && (validB (⟨l_a, l_b, l_k⟩ : N3) && valP (⟨(⟨p_xa, p_xb, p_xk⟩ : N3), (⟨p_ya, p_yb, p_yk⟩ : N3)⟩ : P2))) (cond (kB (rflI (nrm l_d) (⟨l_a, l_b, l_k⟩ : N3) (⟨(⟨p_xa, p_xb, p_xk⟩ : N3), (⟨p_ya, p_yb, p_yk⟩ : N3)⟩ : P2)).x.k && kB (rflI (nrm l_d) (⟨l_a, l_b, l_k⟩ : N3) (⟨(⟨p_xa, p_xb, p_xk⟩ : N3), (⟨p_ya, p_yb, p_yk⟩ : N3)⟩ : P2)).y.k) (some (rP (valP (redP (rflI (nrm l_d) (⟨l_a, l_b, l_k⟩ : N3) (⟨(⟨p_xa, p_xb, p_xk⟩ : N3), (⟨p_ya, p_yb, p_yk⟩ : N3)⟩ : P2)))) (redP (rflI (nrm l_d) (⟨l_a, l_b, l_k⟩ : N3) (⟨(⟨p_xa, p_xb, p_xk⟩ : N3), (⟨p_ya, p_yb, p_yk⟩ : N3)⟩ : P2))))) none) none)) from by kernel_rfl).trans ?_
  cases h1 : inB l_d 0 7 with
  | false => rfl
  | true =>
    cases h2 : validB (⟨l_a, l_b, l_k⟩ : N3) with
    | false => rfl
    | true =>
      cases h3 : valP (⟨(⟨p_xa, p_xb, p_xk⟩ : N3), (⟨p_ya, p_yb, p_yk⟩ : N3)⟩ : P2) with
      | false => rfl
      | true =>
        obtain ⟨E, hn⟩ := nrm_all l_d h1
        obtain ⟨_, _, _, _, _, _, _, _, _, k1, k2⟩ := refl_same hn h2 h3
        rw [k1, k2]
        rfl
theorem m26 : Meets Tryd.prog GLv 26 s26 := by
  refine meetsN mix0 glv G49 Tryd.func26 (by kernel_rfl) (by kernel_rfl) s26 fun args x h => ?_
  unfold s26 at h
  split at h
  · rename_i l_d l_a l_b l_k p_xa p_xb p_xk p_ya p_yb p_yk
    simp only [Option.some.injEq, Prod.mk.injEq] at h
    obtain ⟨hp, rfl⟩ := h
    exact ⟨_, _, by kernel_rfl, e26 l_d l_a l_b l_k p_xa p_xb p_xk p_ya p_yb p_yk⟩
  · cases h
abbrev Γ50 : List (Nat × Ctr) := (26, s26) :: Γ49
theorem G50 : Sound Tryd.prog GLv Γ50 := G49.cons m26

-- spec.ReflectPoint
def s27 : Ctr := fun
  | [.agg [.val (.int .i64 l_d), .val (.int .i64 l_a), .val (.int .i64 l_b), .val (.int .i64 l_k)], .agg [.val (.int .i64 p_xa), .val (.int .i64 p_xb), .val (.int .i64 p_xk), .val (.int .i64 p_ya), .val (.int .i64 p_yb), .val (.int .i64 p_yk)]] => some (true, rP (((inB l_d 0 7 && validB (⟨l_a, l_b, l_k⟩ : N3)) && valP (⟨(⟨p_xa, p_xb, p_xk⟩ : N3), (⟨p_ya, p_yb, p_yk⟩ : N3)⟩ : P2)) && valP (redP (rflI (nrm l_d) (⟨l_a, l_b, l_k⟩ : N3) (⟨(⟨p_xa, p_xb, p_xk⟩ : N3), (⟨p_ya, p_yb, p_yk⟩ : N3)⟩ : P2)))) (redP (rflI (nrm l_d) (⟨l_a, l_b, l_k⟩ : N3) (⟨(⟨p_xa, p_xb, p_xk⟩ : N3), (⟨p_ya, p_yb, p_yk⟩ : N3)⟩ : P2))))
  | _ => none

theorem e27 (l_d : Int) (l_a : Int) (l_b : Int) (l_k : Int) (p_xa : Int) (p_xb : Int) (p_xk : Int) (p_ya : Int) (p_yb : Int) (p_yk : Int) : evN Tryd.prog GLv Γ50 (0) [] Tryd.f27 [.agg [.val (.int .i64 l_d), .val (.int .i64 l_a), .val (.int .i64 l_b), .val (.int .i64 l_k)], .agg [.val (.int .i64 p_xa), .val (.int .i64 p_xb), .val (.int .i64 p_xk), .val (.int .i64 p_ya), .val (.int .i64 p_yb), .val (.int .i64 p_yk)]] = some (rP (((inB l_d 0 7 && validB (⟨l_a, l_b, l_k⟩ : N3)) && valP (⟨(⟨p_xa, p_xb, p_xk⟩ : N3), (⟨p_ya, p_yb, p_yk⟩ : N3)⟩ : P2)) && valP (redP (rflI (nrm l_d) (⟨l_a, l_b, l_k⟩ : N3) (⟨(⟨p_xa, p_xb, p_xk⟩ : N3), (⟨p_ya, p_yb, p_yk⟩ : N3)⟩ : P2)))) (redP (rflI (nrm l_d) (⟨l_a, l_b, l_k⟩ : N3) (⟨(⟨p_xa, p_xb, p_xk⟩ : N3), (⟨p_ya, p_yb, p_yk⟩ : N3)⟩ : P2)))) := by
  refine (show _ = cond (!(inB l_d 0 7 && validB (⟨l_a, l_b, l_k⟩ : N3))) (some (rP false (⟨(⟨p_xa, p_xb, p_xk⟩ : N3), (⟨p_ya, p_yb, p_yk⟩ : N3)⟩ : P2))) (cond (!valP (⟨(⟨p_xa, p_xb, p_xk⟩ : N3), (⟨p_ya, p_yb, p_yk⟩ : N3)⟩ : P2)) (some (rP false (⟨(⟨p_xa, p_xb, p_xk⟩ : N3), (⟨p_ya, p_yb, p_yk⟩ : N3)⟩ : P2))) (cond (inB l_d 0 7 && (validB (⟨l_a, l_b, l_k⟩ : N3) && valP (⟨(⟨p_xa, p_xb, p_xk⟩ : N3), (⟨p_ya, p_yb, p_yk⟩ : N3)⟩ : P2))) (cond (kB (rflI (nrm l_d) (⟨l_a, l_b, l_k⟩ : N3) (⟨(⟨p_xa, p_xb, p_xk⟩ : N3), (⟨p_ya, p_yb, p_yk⟩ : N3)⟩ : P2)).x.k && kB (rflI (nrm l_d) (⟨l_a, l_b, l_k⟩ : N3) (⟨(⟨p_xa, p_xb, p_xk⟩ : N3), (⟨p_ya, p_yb, p_yk⟩ : N3)⟩ : P2)).y.k) (some (rP (valP (redP (rflI (nrm l_d) (⟨l_a, l_b, l_k⟩ : N3) (⟨(⟨p_xa, p_xb, p_xk⟩ : N3), (⟨p_ya, p_yb, p_yk⟩ : N3)⟩ : P2)))) (redP (rflI (nrm l_d) (⟨l_a, l_b, l_k⟩ : N3) (⟨(⟨p_xa, p_xb, p_xk⟩ : N3), (⟨p_ya, p_yb, p_yk⟩ : N3)⟩ : P2))))) none) none)) from by kernel_rfl).trans ?_
  cases h1 : inB l_d 0 7 with
  | false => rfl
  | true =>
    cases h2 : validB (⟨l_a, l_b, l_k⟩ : N3) with
    | false => rfl
    | true =>
      cases h3 : valP (⟨(⟨p_xa, p_xb, p_xk⟩ : N3), (⟨p_ya, p_yb, p_yk⟩ : N3)⟩ : P2) with
      | false => rfl
      | true =>
        obtain ⟨E, hn⟩ := nrm_all l_d h1
        obtain ⟨_, _, _, _, _, _, _, _, _, k1, k2⟩ := refl_same hn h2 h3
        rw [k1, k2]
        rfl
theorem m27 : Meets Tryd.prog GLv 27 s27 := by
  refine meetsN mix0 glv G50 Tryd.func27 (by kernel_rfl) (by kernel_rfl) s27 fun args x h => ?_
  unfold s27 at h
  split at h
  · rename_i l_d l_a l_b l_k p_xa p_xb p_xk p_ya p_yb p_yk
    simp only [Option.some.injEq, Prod.mk.injEq] at h
    obtain ⟨hp, rfl⟩ := h
    exact ⟨_, _, by kernel_rfl, e27 l_d l_a l_b l_k p_xa p_xb p_xk p_ya p_yb p_yk⟩
  · cases h
abbrev Γ51 : List (Nat × Ctr) := (27, s27) :: Γ50
theorem G51 : Sound Tryd.prog GLv Γ51 := G50.cons m27

-- (impl.Line).meet
def s68 : Ctr := fun
  | [.agg [.val (.int .i64 l_d), .val (.int .i64 l_a), .val (.int .i64 l_b), .val (.int .i64 l_k)], .agg [.val (.int .i64 m_d), .val (.int .i64 m_a), .val (.int .i64 m_b), .val (.int .i64 m_k)]] => some ((inB l_d 0 7 && inB m_d 0 7) && ((!(l_d == m_d)) && (validB (⟨l_a, l_b, l_k⟩ : N3) && validB (⟨m_a, m_b, m_k⟩ : N3))), .tup [(mtP l_d m_d (⟨l_a, l_b, l_k⟩ : N3) (⟨m_a, m_b, m_k⟩ : N3)).av, bv true])
  | _ => none

theorem e68 (l_d : Int) (l_a : Int) (l_b : Int) (l_k : Int) (m_d : Int) (m_a : Int) (m_b : Int) (m_k : Int) (hp : ((inB l_d 0 7 && inB m_d 0 7) && ((!(l_d == m_d)) && (validB (⟨l_a, l_b, l_k⟩ : N3) && validB (⟨m_a, m_b, m_k⟩ : N3)))) = true) : evN Tryd.prog GLv Γ51 (0) [] Tryd.f68 [.agg [.val (.int .i64 l_d), .val (.int .i64 l_a), .val (.int .i64 l_b), .val (.int .i64 l_k)], .agg [.val (.int .i64 m_d), .val (.int .i64 m_a), .val (.int .i64 m_b), .val (.int .i64 m_k)]] = some (.tup [(mtP l_d m_d (⟨l_a, l_b, l_k⟩ : N3) (⟨m_a, m_b, m_k⟩ : N3)).av, bv true]) := by
  simp only [Bool.and_eq_true, Bool.not_eq_true'] at hp
  obtain ⟨⟨h1, h2⟩, h3, h4, h5⟩ := hp
  obtain ⟨c0, ⟨c1, c2, c3, c4, c5⟩, ⟨c6, c7, c8, c9, c10⟩, _⟩ := meet_ok h1 h2 h3 h4 h5
  have w1 := nrm_in h1
  have w2 := nrm_in h2
  refine (show _ = cond (inB (wr (l_d + 4)) 0 15) (cond (inB (wr (m_d + 4)) 0 15) (cond (pkC (nrm l_d) (nrm m_d)) (cond (pkm (⟨l_a, l_b, l_k⟩ : N3) (nrm m_d).y) (cond (pkm (⟨m_a, m_b, m_k⟩ : N3) (nrm l_d).y) (cond (pk (mulF (⟨l_a, l_b, l_k⟩ : N3) (nrm m_d).y) (mulF (⟨m_a, m_b, m_k⟩ : N3) (nrm l_d).y)) (cond (dvP (mtX l_d m_d (⟨l_a, l_b, l_k⟩ : N3) (⟨m_a, m_b, m_k⟩ : N3)) (crsF (nrm l_d) (nrm m_d))) (cond (pkm (⟨m_a, m_b, m_k⟩ : N3) (nrm l_d).x) (cond (pkm (⟨l_a, l_b, l_k⟩ : N3) (nrm m_d).x) (cond (pk (mulF (⟨m_a, m_b, m_k⟩ : N3) (nrm l_d).x) (mulF (⟨l_a, l_b, l_k⟩ : N3) (nrm m_d).x)) (cond (dvP (mtY l_d m_d (⟨l_a, l_b, l_k⟩ : N3) (⟨m_a, m_b, m_k⟩ : N3)) (crsF (nrm l_d) (nrm m_d))) (cond (dvOk (mtX l_d m_d (⟨l_a, l_b, l_k⟩ : N3) (⟨m_a, m_b, m_k⟩ : N3)) (crsF (nrm l_d) (nrm m_d))) (some (.tup [(mtP l_d m_d (⟨l_a, l_b, l_k⟩ : N3) (⟨m_a, m_b, m_k⟩ : N3)).av, bv (dvOk (mtY l_d m_d (⟨l_a, l_b, l_k⟩ : N3) (⟨m_a, m_b, m_k⟩ : N3)) (crsF (nrm l_d) (nrm m_d)))])) (some (.tup [(mtP l_d m_d (⟨l_a, l_b, l_k⟩ : N3) (⟨m_a, m_b, m_k⟩ : N3)).av, bv false]))) none) none) none) none) none) none) none) none) none) none) none from by kernel_rfl).trans ?_
  rw [w1, w2, c0, c1, c2, c3, c4, c6, c7, c8, c9, c5, c10]
  rfl
theorem m68 : Meets Tryd.prog GLv 68 s68 := by
  refine meetsN mix0 glv G51 Tryd.func68 (by kernel_rfl) (by kernel_rfl) s68 fun args x h => ?_
  unfold s68 at h
  split at h
  · rename_i l_d l_a l_b l_k m_d m_a m_b m_k
    simp only [Option.some.injEq, Prod.mk.injEq] at h
    obtain ⟨hp, rfl⟩ := h
    exact ⟨_, _, by kernel_rfl, e68 l_d l_a l_b l_k m_d m_a m_b m_k hp⟩
  · cases h
abbrev Γ52 : List (Nat × Ctr) := (68, s68) :: Γ51
theorem G52 : Sound Tryd.prog GLv Γ52 := G51.cons m68

-- spec.l02Meet
def s64 : Ctr := fun
  | [.agg [.val (.int .i64 l_d), .val (.int .i64 l_a), .val (.int .i64 l_b), .val (.int .i64 l_k)], .agg [.val (.int .i64 m_d), .val (.int .i64 m_a), .val (.int .i64 m_b), .val (.int .i64 m_k)]] => some ((inB l_d 0 7 && inB m_d 0 7) && ((!(l_d == m_d)) && (validB (⟨l_a, l_b, l_k⟩ : N3) && validB (⟨m_a, m_b, m_k⟩ : N3))), (mtP l_d m_d (⟨l_a, l_b, l_k⟩ : N3) (⟨m_a, m_b, m_k⟩ : N3)).av)
  | _ => none

theorem e64 (l_d : Int) (l_a : Int) (l_b : Int) (l_k : Int) (m_d : Int) (m_a : Int) (m_b : Int) (m_k : Int) (hp : ((inB l_d 0 7 && inB m_d 0 7) && ((!(l_d == m_d)) && (validB (⟨l_a, l_b, l_k⟩ : N3) && validB (⟨m_a, m_b, m_k⟩ : N3)))) = true) : evN Tryd.prog GLv Γ52 (0) [] Tryd.f64 [.agg [.val (.int .i64 l_d), .val (.int .i64 l_a), .val (.int .i64 l_b), .val (.int .i64 l_k)], .agg [.val (.int .i64 m_d), .val (.int .i64 m_a), .val (.int .i64 m_b), .val (.int .i64 m_k)]] = some ((mtP l_d m_d (⟨l_a, l_b, l_k⟩ : N3) (⟨m_a, m_b, m_k⟩ : N3)).av) := by
  simp only [Bool.and_eq_true, Bool.not_eq_true'] at hp
  obtain ⟨⟨h1, h2⟩, h3, h4, h5⟩ := hp
  obtain ⟨c0, ⟨c1, c2, c3, c4, c5⟩, ⟨c6, c7, c8, c9, c10⟩, _⟩ := meet_ok h1 h2 h3 h4 h5
  have w1 := nrm_in h1
  have w2 := nrm_in h2
  have hc := c0
  unfold pkC at hc
  simp only [Bool.and_eq_true] at hc
  obtain ⟨k1, k2, k3⟩ := hc
  refine (show _ = cond (inB (wr (l_d + 4)) 0 15) (cond (inB (wr (m_d + 4)) 0 15) (cond (pkm (nrm l_d).x (nrm m_d).y) (cond (pkm (nrm l_d).y (nrm m_d).x) (cond (pk (mulF (nrm l_d).x (nrm m_d).y) (mulF (nrm l_d).y (nrm m_d).x)) (cond (pkm (⟨l_a, l_b, l_k⟩ : N3) (nrm m_d).y) (cond (pkm (⟨m_a, m_b, m_k⟩ : N3) (nrm l_d).y) (cond (pk (mulF (⟨l_a, l_b, l_k⟩ : N3) (nrm m_d).y) (mulF (⟨m_a, m_b, m_k⟩ : N3) (nrm l_d).y)) (cond (dvP (mtX l_d m_d (⟨l_a, l_b, l_k⟩ : N3) (⟨m_a, m_b, m_k⟩ : N3)) (crsF (nrm l_d) (nrm m_d))) (cond (pkm (⟨m_a, m_b, m_k⟩ : N3) (nrm l_d).x) (cond (pkm (⟨l_a, l_b, l_k⟩ : N3) (nrm m_d).x) (cond (pk (mulF (⟨m_a, m_b, m_k⟩ : N3) (nrm l_d).x) (mulF (⟨l_a, l_b, l_k⟩ : N3) (nrm m_d).x)) (cond (dvP (mtY l_d m_d (⟨l_a, l_b, l_k⟩ : N3) (⟨m_a, m_b, m_k⟩ : N3)) (crsF (nrm l_d) (nrm m_d))) (some (mtP l_d m_d (⟨l_a, l_b, l_k⟩ : N3) (⟨m_a, m_b, m_k⟩ : N3)).av) none) none) none) none) none) none) none) none) none) none) none) none) none from by kernel_rfl).trans ?_
  rw [w1, w2, k1, k2, k3, c1, c2, c3, c4, c6, c7, c8, c9]
  rfl
theorem m64 : Meets Tryd.prog GLv 64 s64 := by
  refine meetsN mix0 glv G52 Tryd.func64 (by kernel_rfl) (by kernel_rfl) s64 fun args x h => ?_
  unfold s64 at h
  split at h
  · rename_i l_d l_a l_b l_k m_d m_a m_b m_k
    simp only [Option.some.injEq, Prod.mk.injEq] at h
    obtain ⟨hp, rfl⟩ := h
    exact ⟨_, _, by kernel_rfl, e64 l_d l_a l_b l_k m_d m_a m_b m_k hp⟩
  · cases h
abbrev Γ53 : List (Nat × Ctr) := (64, s64) :: Γ52
theorem G53 : Sound Tryd.prog GLv Γ53 := G52.cons m64

-- impl.MeetLines
def s15 : Ctr := fun
  | [.agg [.val (.int .i64 l_d), .val (.int .i64 l_a), .val (.int .i64 l_b), .val (.int .i64 l_k)], .agg [.val (.int .i64 m_d), .val (.int .i64 m_a), .val (.int .i64 m_b), .val (.int .i64 m_k)]] => some (true, mtV ((inB l_d 0 7 && validB (⟨l_a, l_b, l_k⟩ : N3)) && (inB m_d 0 7 && validB (⟨m_a, m_b, m_k⟩ : N3))) (l_d == m_d) (mtP l_d m_d (⟨l_a, l_b, l_k⟩ : N3) (⟨m_a, m_b, m_k⟩ : N3)))
  | _ => none

theorem e15 (l_d : Int) (l_a : Int) (l_b : Int) (l_k : Int) (m_d : Int) (m_a : Int) (m_b : Int) (m_k : Int) : evN Tryd.prog GLv Γ53 (0) [] Tryd.f15 [.agg [.val (.int .i64 l_d), .val (.int .i64 l_a), .val (.int .i64 l_b), .val (.int .i64 l_k)], .agg [.val (.int .i64 m_d), .val (.int .i64 m_a), .val (.int .i64 m_b), .val (.int .i64 m_k)]] = some (mtV ((inB l_d 0 7 && validB (⟨l_a, l_b, l_k⟩ : N3)) && (inB m_d 0 7 && validB (⟨m_a, m_b, m_k⟩ : N3))) (l_d == m_d) (mtP l_d m_d (⟨l_a, l_b, l_k⟩ : N3) (⟨m_a, m_b, m_k⟩ : N3))) := by
  refine (show _ = cond (!(inB l_d 0 7 && validB (⟨l_a, l_b, l_k⟩ : N3))) (some (mtF 1 (mtP l_d m_d (⟨l_a, l_b, l_k⟩ : N3) (⟨m_a, m_b, m_k⟩ : N3)))) (cond (!(inB m_d 0 7 && validB (⟨m_a, m_b, m_k⟩ : N3))) (some (mtF 1 (mtP l_d m_d (⟨l_a, l_b, l_k⟩ : N3) (⟨m_a, m_b, m_k⟩ : N3)))) (cond (l_d == m_d) (some (mtF 7 (mtP l_d m_d (⟨l_a, l_b, l_k⟩ : N3) (⟨m_a, m_b, m_k⟩ : N3)))) (cond ((inB l_d 0 7 && inB m_d 0 7) && ((!(l_d == m_d)) && (validB (⟨l_a, l_b, l_k⟩ : N3) && validB (⟨m_a, m_b, m_k⟩ : N3)))) (cond (kB (mtP l_d m_d (⟨l_a, l_b, l_k⟩ : N3) (⟨m_a, m_b, m_k⟩ : N3)).x.k && kB (mtP l_d m_d (⟨l_a, l_b, l_k⟩ : N3) (⟨m_a, m_b, m_k⟩ : N3)).y.k) (cond (!valP (redP (mtP l_d m_d (⟨l_a, l_b, l_k⟩ : N3) (⟨m_a, m_b, m_k⟩ : N3)))) (some (mtF 2 (mtP l_d m_d (⟨l_a, l_b, l_k⟩ : N3) (⟨m_a, m_b, m_k⟩ : N3)))) (some (.tup [(selP (valP (redP (mtP l_d m_d (⟨l_a, l_b, l_k⟩ : N3) (⟨m_a, m_b, m_k⟩ : N3)))) (redP (mtP l_d m_d (⟨l_a, l_b, l_k⟩ : N3) (⟨m_a, m_b, m_k⟩ : N3)))).av, iv 0]))) none) none))) from by kernel_rfl).trans ?_
  cases h1 : inB l_d 0 7 with
  | false => rfl
  | true =>
    cases h2 : validB (⟨l_a, l_b, l_k⟩ : N3) with
    | false => rfl
    | true =>
      cases h3 : inB m_d 0 7 with
      | false => rfl
      | true =>
        cases h4 : validB (⟨m_a, m_b, m_k⟩ : N3) with
        | false => rfl
        | true =>
          cases h5 : (l_d == m_d) with
          | true => rfl
          | false =>
            obtain ⟨_, _, _, k1, k2⟩ := meet_ok h1 h3 h5 h2 h4
            rw [k1, k2]
            unfold mtV
            cases h6 : valP (redP (mtP l_d m_d (⟨l_a, l_b, l_k⟩ : N3) (⟨m_a, m_b, m_k⟩ : N3))) with
            | false => rfl
            | true => rfl
theorem m15 : Meets Tryd.prog GLv 15 s15 := by
  refine meetsN mix0 glv G53 Tryd.func15 (by kernel_rfl) (by kernel_rfl) s15 fun args x h => ?_
  unfold s15 at h
  split at h
  · rename_i l_d l_a l_b l_k m_d m_a m_b m_k
    simp only [Option.some.injEq, Prod.mk.injEq] at h
    obtain ⟨hp, rfl⟩ := h
    exact ⟨_, _, by kernel_rfl, e15 l_d l_a l_b l_k m_d m_a m_b m_k⟩
  · cases h
abbrev Γ54 : List (Nat × Ctr) := (15, s15) :: Γ53
theorem G54 : Sound Tryd.prog GLv Γ54 := G53.cons m15

-- spec.MeetLines
def s13 : Ctr := fun
  | [.agg [.val (.int .i64 l_d), .val (.int .i64 l_a), .val (.int .i64 l_b), .val (.int .i64 l_k)], .agg [.val (.int .i64 m_d), .val (.int .i64 m_a), .val (.int .i64 m_b), .val (.int .i64 m_k)]] => some (true, mtV ((inB l_d 0 7 && validB (⟨l_a, l_b, l_k⟩ : N3)) && (inB m_d 0 7 && validB (⟨m_a, m_b, m_k⟩ : N3))) (l_d == m_d) (mtP l_d m_d (⟨l_a, l_b, l_k⟩ : N3) (⟨m_a, m_b, m_k⟩ : N3)))
  | _ => none

theorem e13 (l_d : Int) (l_a : Int) (l_b : Int) (l_k : Int) (m_d : Int) (m_a : Int) (m_b : Int) (m_k : Int) : evN Tryd.prog GLv Γ54 (0) [] Tryd.f13 [.agg [.val (.int .i64 l_d), .val (.int .i64 l_a), .val (.int .i64 l_b), .val (.int .i64 l_k)], .agg [.val (.int .i64 m_d), .val (.int .i64 m_a), .val (.int .i64 m_b), .val (.int .i64 m_k)]] = some (mtV ((inB l_d 0 7 && validB (⟨l_a, l_b, l_k⟩ : N3)) && (inB m_d 0 7 && validB (⟨m_a, m_b, m_k⟩ : N3))) (l_d == m_d) (mtP l_d m_d (⟨l_a, l_b, l_k⟩ : N3) (⟨m_a, m_b, m_k⟩ : N3))) := by
  refine (show _ = cond (!(inB l_d 0 7 && validB (⟨l_a, l_b, l_k⟩ : N3))) (some (mtF 1 (mtP l_d m_d (⟨l_a, l_b, l_k⟩ : N3) (⟨m_a, m_b, m_k⟩ : N3)))) (cond (!(inB m_d 0 7 && validB (⟨m_a, m_b, m_k⟩ : N3))) (some (mtF 1 (mtP l_d m_d (⟨l_a, l_b, l_k⟩ : N3) (⟨m_a, m_b, m_k⟩ : N3)))) (cond (l_d == m_d) (some (mtF 7 (mtP l_d m_d (⟨l_a, l_b, l_k⟩ : N3) (⟨m_a, m_b, m_k⟩ : N3)))) (cond ((inB l_d 0 7 && inB m_d 0 7) && ((!(l_d == m_d)) && (validB (⟨l_a, l_b, l_k⟩ : N3) && validB (⟨m_a, m_b, m_k⟩ : N3)))) (cond (kB (mtP l_d m_d (⟨l_a, l_b, l_k⟩ : N3) (⟨m_a, m_b, m_k⟩ : N3)).x.k && kB (mtP l_d m_d (⟨l_a, l_b, l_k⟩ : N3) (⟨m_a, m_b, m_k⟩ : N3)).y.k) (cond (!valP (redP (mtP l_d m_d (⟨l_a, l_b, l_k⟩ : N3) (⟨m_a, m_b, m_k⟩ : N3)))) (some (mtF 2 (mtP l_d m_d (⟨l_a, l_b, l_k⟩ : N3) (⟨m_a, m_b, m_k⟩ : N3)))) (some (.tup [(selP (valP (redP (mtP l_d m_d (⟨l_a, l_b, l_k⟩ : N3) (⟨m_a, m_b, m_k⟩ : N3)))) (redP (mtP l_d m_d (⟨l_a, l_b, l_k⟩ : N3) (⟨m_a, m_b, m_k⟩ : N3)))).av, iv 0]))) none) none))) from by kernel_rfl).trans ?_
  cases h1 : inB l_d 0 7 with
  | false => rfl
  | true =>
    cases h2 : validB (⟨l_a, l_b, l_k⟩ : N3) with
    | false => rfl
    | true =>
      cases h3 : inB m_d 0 7 with
      | false => rfl
      | true =>
        cases h4 : validB (⟨m_a, m_b, m_k⟩ : N3) with
        | false => rfl
        | true =>
          cases h5 : (l_d == m_d) with
          | true => rfl
          | false =>
            obtain ⟨_, _, _, k1, k2⟩ := meet_ok h1 h3 h5 h2 h4
            rw [k1, k2]
            unfold mtV
            cases h6 : valP (redP (mtP l_d m_d (⟨l_a, l_b, l_k⟩ : N3) (⟨m_a, m_b, m_k⟩ : N3))) with
            | false => rfl
            | true => rfl
theorem m13 : Meets Tryd.prog GLv 13 s13 := by
  refine meetsN mix0 glv G54 Tryd.func13 (by kernel_rfl) (by kernel_rfl) s13 fun args x h => ?_
  unfold s13 at h
  split at h
  · rename_i l_d l_a l_b l_k m_d m_a m_b m_k
    simp only [Option.some.injEq, Prod.mk.injEq] at h
    obtain ⟨hp, rfl⟩ := h
    exact ⟨_, _, by kernel_rfl, e13 l_d l_a l_b l_k m_d m_a m_b m_k⟩
  · cases h
abbrev Γ55 : List (Nat × Ctr) := (13, s13) :: Γ54
theorem G55 : Sound Tryd.prog GLv Γ55 := G54.cons m13

-- laws.FnExactMeetLines
def s3 : Ctr := fun
  | [.agg [.val (.int .i64 l_d), .val (.int .i64 l_a), .val (.int .i64 l_b), .val (.int .i64 l_k)], .agg [.val (.int .i64 m_d), .val (.int .i64 m_a), .val (.int .i64 m_b), .val (.int .i64 m_k)]] => some (true, bv true)
  | _ => none

theorem e3 (l_d : Int) (l_a : Int) (l_b : Int) (l_k : Int) (m_d : Int) (m_a : Int) (m_b : Int) (m_k : Int) : evN Tryd.prog GLv Γ55 (0) [] Tryd.f3 [.agg [.val (.int .i64 l_d), .val (.int .i64 l_a), .val (.int .i64 l_b), .val (.int .i64 l_k)], .agg [.val (.int .i64 m_d), .val (.int .i64 m_a), .val (.int .i64 m_b), .val (.int .i64 m_k)]] = some (bv true) := by
  refine (show _ = cond (!eqP (selP (((inB l_d 0 7 && validB (⟨l_a, l_b, l_k⟩ : N3)) && (inB m_d 0 7 && validB (⟨m_a, m_b, m_k⟩ : N3))) && (!(l_d == m_d) && valP (redP (mtP l_d m_d (⟨l_a, l_b, l_k⟩ : N3) (⟨m_a, m_b, m_k⟩ : N3))))) (redP (mtP l_d m_d (⟨l_a, l_b, l_k⟩ : N3) (⟨m_a, m_b, m_k⟩ : N3)))) (selP (((inB l_d 0 7 && validB (⟨l_a, l_b, l_k⟩ : N3)) && (inB m_d 0 7 && validB (⟨m_a, m_b, m_k⟩ : N3))) && (!(l_d == m_d) && valP (redP (mtP l_d m_d (⟨l_a, l_b, l_k⟩ : N3) (⟨m_a, m_b, m_k⟩ : N3))))) (redP (mtP l_d m_d (⟨l_a, l_b, l_k⟩ : N3) (⟨m_a, m_b, m_k⟩ : N3))))) (some (bv false)) (cond (((cond ((inB l_d 0 7 && validB (⟨l_a, l_b, l_k⟩ : N3)) && (inB m_d 0 7 && validB (⟨m_a, m_b, m_k⟩ : N3))) (cond (l_d == m_d) 7 (cond (valP (redP (mtP l_d m_d (⟨l_a, l_b, l_k⟩ : N3) (⟨m_a, m_b, m_k⟩ : N3)))) 0 2)) 1) : Int) != (cond ((inB l_d 0 7 && validB (⟨l_a, l_b, l_k⟩ : N3)) && (inB m_d 0 7 && validB (⟨m_a, m_b, m_k⟩ : N3))) (cond (l_d == m_d) 7 (cond (valP (redP (mtP l_d m_d (⟨l_a, l_b, l_k⟩ : N3) (⟨m_a, m_b, m_k⟩ : N3)))) 0 2)) 1)) (some (bv false)) (some (bv true))) from by kernel_rfl).trans ?_
  simp only [eqP_self, bne_self_eq_false, beq_self_eq_true, cond_true, cond_false, Bool.not_true]
theorem m3 : Meets Tryd.prog GLv 3 s3 := by
  refine meetsN mix0 glv G55 Tryd.func3 (by kernel_rfl) (by kernel_rfl) s3 fun args x h => ?_
  unfold s3 at h
  split at h
  · rename_i l_d l_a l_b l_k m_d m_a m_b m_k
    simp only [Option.some.injEq, Prod.mk.injEq] at h
    obtain ⟨hp, rfl⟩ := h
    exact ⟨_, _, by kernel_rfl, e3 l_d l_a l_b l_k m_d m_a m_b m_k⟩
  · cases h
abbrev Γ56 : List (Nat × Ctr) := (3, s3) :: Γ55
theorem G56 : Sound Tryd.prog GLv Γ56 := G55.cons m3

end Go.Proofs.YtbfdppnmojionaaDoor
