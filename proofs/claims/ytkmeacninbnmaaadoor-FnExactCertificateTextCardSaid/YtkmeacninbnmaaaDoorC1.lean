/- Contracts of the program's functions, by the evaluator. -/
import Derived.Test.YtkmeacninbnmaaaDoorProg
import Derived.Test.YtkmeacninbnmaaaDoorPlA
namespace Go.Proofs.YtkmeacninbnmaaaDoor
open Go.Ev
set_option linter.unusedVariables false
set_option linter.unusedSimpArgs false
set_option maxRecDepth 100000

def GLv : Nat → AV := fun g => match Nat.beq g 4 with
  | true => .eptr [.val (.int .u64 (1)), .val (.int .u64 (10)), .val (.int .u64 (100)), .val (.int .u64 (1000)), .val (.int .u64 (10000)), .val (.int .u64 (100000)), .val (.int .u64 (1000000)), .val (.int .u64 (10000000)), .val (.int .u64 (100000000)), .val (.int .u64 (1000000000)), .val (.int .u64 (10000000000)), .val (.int .u64 (100000000000)), .val (.int .u64 (1000000000000)), .val (.int .u64 (10000000000000)), .val (.int .u64 (100000000000000)), .val (.int .u64 (1000000000000000)), .val (.int .u64 (10000000000000000)), .val (.int .u64 (100000000000000000)), .val (.int .u64 (1000000000000000000)), .val (.int .u64 (10000000000000000000))]
  | false => match Nat.beq g 0 with
    | true => .eptr [.val (.string ⟨[].toArray⟩), .val (.string ⟨[107, 97, 119, 97, 115, 97, 107, 105].toArray⟩), .val (.string ⟨[109, 97, 101, 107, 97, 119, 97].toArray⟩), .val (.string ⟨[108, 105, 116, 116, 108, 101].toArray⟩)]
    | false => .non
theorem glv : ∀ g' g k, GLv g' ≠ .ref g k := fun g' g k => by
  unfold GLv
  split <;> (try split) <;> (intro h; cases h)

theorem mix0 : Tryd.prog.follows .mixedOrders = true := by kernel_rfl
abbrev Γ0 : List (Nat × Ctr) := []
theorem G0 : Sound Tryd.prog GLv Γ0 := Sound.nil

-- impl.within
def s53 : Ctr := fun
  | [.val (.int .i64 x), .val (.int .i64 lo), .val (.int .i64 hi)] => some (true, bv (inB x lo hi))
  | _ => none

theorem e53 (x : Int) (lo : Int) (hi : Int) : evN Tryd.prog GLv Γ0 (0) []  Tryd.f53 [.val (.int .i64 x), .val (.int .i64 lo), .val (.int .i64 hi)] = some (bv (inB x lo hi)) := by
  refine (show _ = cond (decide (x ≥ lo)) ( some (bv (decide (x ≤ hi))) ) ( some (bv (false)) ) from by kernel_rfl).trans ?_
  simp only [inB]
  cases decide (x ≥ lo) <;> rfl
theorem m53 : Meets Tryd.prog GLv 53 s53 := by
  refine meetsN mix0 glv G0 Tryd.func53 (by kernel_rfl) (by kernel_rfl) s53 fun args x h => ?_
  unfold s53 at h
  split at h
  · rename_i x lo hi
    simp only [Option.some.injEq, Prod.mk.injEq] at h
    obtain ⟨hp, rfl⟩ := h
    exact ⟨_, _, by kernel_rfl, e53 x lo hi⟩
  · cases h
abbrev Γ1 : List (Nat × Ctr) := (53, s53) :: Γ0
theorem G1 : Sound Tryd.prog GLv Γ1 := G0.cons m53

-- spec.l00In
def s44 : Ctr := fun
  | [.val (.int .i64 x), .val (.int .i64 lo), .val (.int .i64 hi)] => some (true, bv (inB x lo hi))
  | _ => none

theorem e44 (x : Int) (lo : Int) (hi : Int) : evN Tryd.prog GLv Γ1 (0) []  Tryd.f44 [.val (.int .i64 x), .val (.int .i64 lo), .val (.int .i64 hi)] = some (bv (inB x lo hi)) := by
  refine (show _ = cond (decide (x ≥ lo)) ( some (bv (decide (x ≤ hi))) ) ( some (bv (false)) ) from by kernel_rfl).trans ?_
  simp only [inB]
  cases decide (x ≥ lo) <;> rfl
theorem m44 : Meets Tryd.prog GLv 44 s44 := by
  refine meetsN mix0 glv G1 Tryd.func44 (by kernel_rfl) (by kernel_rfl) s44 fun args x h => ?_
  unfold s44 at h
  split at h
  · rename_i x lo hi
    simp only [Option.some.injEq, Prod.mk.injEq] at h
    obtain ⟨hp, rfl⟩ := h
    exact ⟨_, _, by kernel_rfl, e44 x lo hi⟩
  · cases h
abbrev Γ2 : List (Nat × Ctr) := (44, s44) :: Γ1
theorem G2 : Sound Tryd.prog GLv Γ2 := G1.cons m44

-- (impl.Num).reduced
def s68 : Ctr := fun
  | [.agg [.val (.int .i64 x_a), .val (.int .i64 x_b), .val (.int .i64 x_k)]] => some (kB x_k, (red (⟨x_a, x_b, x_k⟩ : N3)).av)
  | _ => none

theorem r68_step (K n : Nat) (a b k : Int) : runL Tryd.prog GLv Γ2 K [false, true, true] Tryd.f68 0 (n + 1) (stL Tryd.f68.ntmps [.non, .own 36 [iv (a), iv (b), iv (k)], .own 36 [iv 0, iv 0, iv 0]]) = cond (decide (k > 0)) (cond (and64 a 1 == 0) (cond (and64 b 1 == 0) (cond (wr (a.tdiv 2) == 0) (cond (wr (b.tdiv 2) == 0) (runL Tryd.prog GLv Γ2 K [false, true, true] Tryd.f68 0 n (stL Tryd.f68.ntmps [.non, .own 36 [iv (wr (a.tdiv 2)), iv (wr (b.tdiv 2)), iv (0)], .own 36 [iv 0, iv 0, iv 0]])) (runL Tryd.prog GLv Γ2 K [false, true, true] Tryd.f68 0 n (stL Tryd.f68.ntmps [.non, .own 36 [iv (wr (a.tdiv 2)), iv (wr (b.tdiv 2)), iv (wr (k - 1))], .own 36 [iv 0, iv 0, iv 0]]))) (runL Tryd.prog GLv Γ2 K [false, true, true] Tryd.f68 0 n (stL Tryd.f68.ntmps [.non, .own 36 [iv (wr (a.tdiv 2)), iv (wr (b.tdiv 2)), iv (wr (k - 1))], .own 36 [iv 0, iv 0, iv 0]]))) (some (⟨a, b, k⟩ : N3).av)) (some (⟨a, b, k⟩ : N3).av)) (some (⟨a, b, k⟩ : N3).av) := by kernel_rfl
theorem r68_run (K : Nat) : ∀ (m : Nat) (a b k : Int) (n : Nat), 0 ≤ k → k ≤ 1152921504606846976 → k.toNat ≤ m → m < n → runL Tryd.prog GLv Γ2 K [false, true, true] Tryd.f68 0 n (stL Tryd.f68.ntmps [.non, .own 36 [iv (a), iv (b), iv (k)], .own 36 [iv 0, iv 0, iv 0]]) = some (redF (m + 1) a b k).av := by
  intro m
  induction m with
  | zero =>
    intro a b k n h0 h1 h2 h3
    obtain ⟨n, rfl⟩ : ∃ n', n = n' + 1 := ⟨n - 1, by omega⟩
    have hk : ¬ k > 0 := by omega
    rw [r68_step, redF_succ, if_neg (fun h => hk h.1)]
    simp only [hk, decide_false, cond_false]
  | succ m ih =>
    intro a b k n h0 h1 h2 h3
    obtain ⟨n, rfl⟩ : ∃ n', n = n' + 1 := ⟨n - 1, by omega⟩
    rw [r68_step, redF_succ]
    rw [and64_one, and64_one]
    have ea : ((a % 2 == 0) = !odd a) := odd_zero a
    have eb : ((b % 2 == 0) = !odd b) := odd_zero b
    rw [ea, eb]
    by_cases hk : k > 0
    · have hw : wr (k - 1) = k - 1 := wr_in (by omega) (by omega)
      cases ha : odd a with
      | true => rw [if_neg (fun h => by cases h.2.1)]; simp [hk]
      | false =>
        cases hb : odd b with
        | true => rw [if_neg (fun h => by cases h.2.2)]; simp [hk]
        | false =>
          rw [if_pos ⟨hk, rfl, rfl⟩]
          simp only [hk, decide_true, cond_true, Bool.not_false]
          rw [hw, ih _ _ _ _ (by omega) (by omega) (by omega) (by omega), ih _ _ _ _ (by omega) (by omega) (by omega) (by omega)]
          by_cases hz1 : wr (a.tdiv 2) = 0
          · by_cases hz2 : wr (b.tdiv 2) = 0
            · simp [hz1, hz2]
            · have e2 : (wr (b.tdiv 2) == 0) = false := by simpa using hz2
              simp [hz1, hz2, e2]
          · have e1 : (wr (a.tdiv 2) == 0) = false := by simpa using hz1
            simp [hz1, e1]
    · rw [if_neg (fun h => hk h.1)]; simp [hk]
theorem e68 (x_a : Int) (x_b : Int) (x_k : Int) (hp : (kB x_k) = true) : evN Tryd.prog GLv Γ2 (x_k.toNat + 1) [false, true, true]  Tryd.f68 [.agg [.val (.int .i64 x_a), .val (.int .i64 x_b), .val (.int .i64 x_k)]] = some ((red (⟨x_a, x_b, x_k⟩ : N3)).av) := by
  exact (show _ = _ from by kernel_rfl).trans (r68_run (x_k.toNat + 1) x_k.toNat x_a x_b x_k (x_k.toNat + 1) (kB_iff.1 hp).1 (kB_iff.1 hp).2 (Nat.le_refl _) (Nat.lt_succ_self _))
theorem m68 : Meets Tryd.prog GLv 68 s68 := by
  refine meetsN mix0 glv G2 Tryd.func68 (by kernel_rfl) (by kernel_rfl) s68 fun args x h => ?_
  unfold s68 at h
  split at h
  · rename_i x_a x_b x_k
    simp only [Option.some.injEq, Prod.mk.injEq] at h
    obtain ⟨hp, rfl⟩ := h
    exact ⟨_, _, by kernel_rfl, e68 x_a x_b x_k hp⟩
  · cases h
abbrev Γ3 : List (Nat × Ctr) := (68, s68) :: Γ2
theorem G3 : Sound Tryd.prog GLv Γ3 := G2.cons m68

-- spec.l01Low
def s85 : Ctr := fun
  | [.agg [.val (.int .i64 x_a), .val (.int .i64 x_b), .val (.int .i64 x_k)]] => some (kB x_k, (red (⟨x_a, x_b, x_k⟩ : N3)).av)
  | _ => none

theorem r85_step (K n : Nat) (a b k : Int) : runL Tryd.prog GLv Γ3 K [false, true, true] Tryd.f85 0 (n + 1) (stL Tryd.f85.ntmps [.non, .own 92 [iv (a), iv (b), iv (k)], .own 92 [iv 0, iv 0, iv 0]]) = cond (decide (k > 0)) (cond (a.tmod 2 == 0) (cond (b.tmod 2 == 0) (runL Tryd.prog GLv Γ3 K [false, true, true] Tryd.f85 0 n (stL Tryd.f85.ntmps [.non, .own 92 [iv (wr (a.tdiv 2)), iv (wr (b.tdiv 2)), iv (wr (k - 1))], .own 92 [iv 0, iv 0, iv 0]])) (some (⟨a, b, k⟩ : N3).av)) (some (⟨a, b, k⟩ : N3).av)) (some (⟨a, b, k⟩ : N3).av) := by kernel_rfl
theorem r85_run (K : Nat) : ∀ (m : Nat) (a b k : Int) (n : Nat), 0 ≤ k → k ≤ 1152921504606846976 → k.toNat ≤ m → m < n → runL Tryd.prog GLv Γ3 K [false, true, true] Tryd.f85 0 n (stL Tryd.f85.ntmps [.non, .own 92 [iv (a), iv (b), iv (k)], .own 92 [iv 0, iv 0, iv 0]]) = some (redF (m + 1) a b k).av := by
  intro m
  induction m with
  | zero =>
    intro a b k n h0 h1 h2 h3
    obtain ⟨n, rfl⟩ : ∃ n', n = n' + 1 := ⟨n - 1, by omega⟩
    have hk : ¬ k > 0 := by omega
    rw [r85_step, redF_succ, if_neg (fun h => hk h.1)]
    simp only [hk, decide_false, cond_false]
  | succ m ih =>
    intro a b k n h0 h1 h2 h3
    obtain ⟨n, rfl⟩ : ∃ n', n = n' + 1 := ⟨n - 1, by omega⟩
    rw [r85_step, redF_succ]
    rw [tmod_zero, tmod_zero]
    by_cases hk : k > 0
    · have hw : wr (k - 1) = k - 1 := wr_in (by omega) (by omega)
      cases ha : odd a with
      | true => rw [if_neg (fun h => by cases h.2.1)]; simp [hk]
      | false =>
        cases hb : odd b with
        | true => rw [if_neg (fun h => by cases h.2.2)]; simp [hk]
        | false =>
          rw [if_pos ⟨hk, rfl, rfl⟩]
          simp only [hk, decide_true, cond_true, Bool.not_false]
          rw [hw, ih _ _ _ _ (by omega) (by omega) (by omega) (by omega)]
          by_cases hz : wr (a.tdiv 2) = 0 ∧ wr (b.tdiv 2) = 0
          · rw [if_pos hz, hz.1, hz.2, redF_zero m _ (by omega), redF_zero m _ (by omega)]
            have e : (if k - 1 > 0 then (0 : Int) else k - 1) = 0 := by split <;> omega
            rw [e]
            rfl
          · rw [if_neg hz]
    · rw [if_neg (fun h => hk h.1)]; simp [hk]
theorem e85 (x_a : Int) (x_b : Int) (x_k : Int) (hp : (kB x_k) = true) : evN Tryd.prog GLv Γ3 (x_k.toNat + 1) [false, true, true]  Tryd.f85 [.agg [.val (.int .i64 x_a), .val (.int .i64 x_b), .val (.int .i64 x_k)]] = some ((red (⟨x_a, x_b, x_k⟩ : N3)).av) := by
  refine (show _ = cond (x_a == 0) (cond (x_b == 0) (some z3.av) (runL Tryd.prog GLv Γ3 (x_k.toNat + 1) [false, true, true] Tryd.f85 0 (x_k.toNat + 1) (stL Tryd.f85.ntmps [.non, .own 92 [iv (x_a), iv (x_b), iv (x_k)], .own 92 [iv 0, iv 0, iv 0]]))) (runL Tryd.prog GLv Γ3 (x_k.toNat + 1) [false, true, true] Tryd.f85 0 (x_k.toNat + 1) (stL Tryd.f85.ntmps [.non, .own 92 [iv (x_a), iv (x_b), iv (x_k)], .own 92 [iv 0, iv 0, iv 0]])) from by kernel_rfl).trans ?_
  rw [r85_run (x_k.toNat + 1) x_k.toNat x_a x_b x_k (x_k.toNat + 1) (kB_iff.1 hp).1 (kB_iff.1 hp).2 (Nat.le_refl _) (Nat.lt_succ_self _)]
  by_cases ha : x_a = 0
  · by_cases hb : x_b = 0
    · subst ha hb
      have := redF_zero x_k.toNat x_k (Nat.le_refl _)
      have hk := (kB_iff.1 hp).1
      have e : (if x_k > 0 then 0 else x_k) = 0 := by split <;> omega
      rw [e] at this
      simp only [red, this]
      rfl
    · have e2 : (x_b == 0) = false := by simpa using hb
      simp only [e2, cond_false, red]
      cases (x_a == 0) <;> rfl
  · have e1 : (x_a == 0) = false := by simpa using ha
    simp only [e1, cond_false, red]
theorem m85 : Meets Tryd.prog GLv 85 s85 := by
  refine meetsN mix0 glv G3 Tryd.func85 (by kernel_rfl) (by kernel_rfl) s85 fun args x h => ?_
  unfold s85 at h
  split at h
  · rename_i x_a x_b x_k
    simp only [Option.some.injEq, Prod.mk.injEq] at h
    obtain ⟨hp, rfl⟩ := h
    exact ⟨_, _, by kernel_rfl, e85 x_a x_b x_k hp⟩
  · cases h
abbrev Γ4 : List (Nat × Ctr) := (85, s85) :: Γ3
theorem G4 : Sound Tryd.prog GLv Γ4 := G3.cons m85

-- (impl.Num).neg
def s69 : Ctr := fun
  | [.agg [.val (.int .i64 x_a), .val (.int .i64 x_b), .val (.int .i64 x_k)]] => some (true, (negF (⟨x_a, x_b, x_k⟩ : N3)).av)
  | _ => none

theorem e69 (x_a : Int) (x_b : Int) (x_k : Int) : evN Tryd.prog GLv Γ4 (0) []  Tryd.f69 [.agg [.val (.int .i64 x_a), .val (.int .i64 x_b), .val (.int .i64 x_k)]] = some ((negF (⟨x_a, x_b, x_k⟩ : N3)).av) := by
  kernel_rfl
theorem m69 : Meets Tryd.prog GLv 69 s69 := by
  refine meetsN mix0 glv G4 Tryd.func69 (by kernel_rfl) (by kernel_rfl) s69 fun args x h => ?_
  unfold s69 at h
  split at h
  · rename_i x_a x_b x_k
    simp only [Option.some.injEq, Prod.mk.injEq] at h
    obtain ⟨hp, rfl⟩ := h
    exact ⟨_, _, by kernel_rfl, e69 x_a x_b x_k⟩
  · cases h
abbrev Γ5 : List (Nat × Ctr) := (69, s69) :: Γ4
theorem G5 : Sound Tryd.prog GLv Γ5 := G4.cons m69

-- (impl.Num).times
def s32 : Ctr := fun
  | [.agg [.val (.int .i64 x_a), .val (.int .i64 x_b), .val (.int .i64 x_k)], .agg [.val (.int .i64 y_a), .val (.int .i64 y_b), .val (.int .i64 y_k)]] => some (pkm (⟨x_a, x_b, x_k⟩ : N3) (⟨y_a, y_b, y_k⟩ : N3), (mulF (⟨x_a, x_b, x_k⟩ : N3) (⟨y_a, y_b, y_k⟩ : N3)).av)
  | _ => none

theorem e32 (x_a : Int) (x_b : Int) (x_k : Int) (y_a : Int) (y_b : Int) (y_k : Int) (hp : (pkm (⟨x_a, x_b, x_k⟩ : N3) (⟨y_a, y_b, y_k⟩ : N3)) = true) : evN Tryd.prog GLv Γ5 (0) []  Tryd.f32 [.agg [.val (.int .i64 x_a), .val (.int .i64 x_b), .val (.int .i64 x_k)], .agg [.val (.int .i64 y_a), .val (.int .i64 y_b), .val (.int .i64 y_k)]] = some ((mulF (⟨x_a, x_b, x_k⟩ : N3) (⟨y_a, y_b, y_k⟩ : N3)).av) := by
  refine (show _ = cond (kB (wr (x_k + y_k))) (some (mulF (⟨x_a, x_b, x_k⟩ : N3) (⟨y_a, y_b, y_k⟩ : N3)).av) none from by kernel_rfl).trans ?_
  have := pkm_kB hp
  simp only at this
  rw [this]
  rfl
theorem m32 : Meets Tryd.prog GLv 32 s32 := by
  refine meetsN mix0 glv G5 Tryd.func32 (by kernel_rfl) (by kernel_rfl) s32 fun args x h => ?_
  unfold s32 at h
  split at h
  · rename_i x_a x_b x_k y_a y_b y_k
    simp only [Option.some.injEq, Prod.mk.injEq] at h
    obtain ⟨hp, rfl⟩ := h
    exact ⟨_, _, by kernel_rfl, e32 x_a x_b x_k y_a y_b y_k hp⟩
  · cases h
abbrev Γ6 : List (Nat × Ctr) := (32, s32) :: Γ5
theorem G6 : Sound Tryd.prog GLv Γ6 := G5.cons m32

-- (impl.Num).plus
def s30 : Ctr := fun
  | [.agg [.val (.int .i64 x_a), .val (.int .i64 x_b), .val (.int .i64 x_k)], .agg [.val (.int .i64 y_a), .val (.int .i64 y_b), .val (.int .i64 y_k)]] => some (pk (⟨x_a, x_b, x_k⟩ : N3) (⟨y_a, y_b, y_k⟩ : N3), (addF (⟨x_a, x_b, x_k⟩ : N3) (⟨y_a, y_b, y_k⟩ : N3)).av)
  | _ => none

theorem e30 (x_a : Int) (x_b : Int) (x_k : Int) (y_a : Int) (y_b : Int) (y_k : Int) (hp : (pk (⟨x_a, x_b, x_k⟩ : N3) (⟨y_a, y_b, y_k⟩ : N3)) = true) : evN Tryd.prog GLv Γ6 (0) []  Tryd.f30 [.agg [.val (.int .i64 x_a), .val (.int .i64 x_b), .val (.int .i64 x_k)], .agg [.val (.int .i64 y_a), .val (.int .i64 y_b), .val (.int .i64 y_k)]] = some ((addF (⟨x_a, x_b, x_k⟩ : N3) (⟨y_a, y_b, y_k⟩ : N3)).av) := by
  obtain ⟨h1, h2, h3⟩ := pk_sh hp
  refine (show _ = cond (decide (0 ≤ wr (gmax x_k y_k - x_k))) (cond (decide (0 ≤ wr (gmax x_k y_k - y_k))) (cond (decide (0 ≤ wr (gmax x_k y_k - x_k))) (cond (decide (0 ≤ wr (gmax x_k y_k - y_k))) (cond (kB (gmax x_k y_k)) (some (addF (⟨x_a, x_b, x_k⟩ : N3) (⟨y_a, y_b, y_k⟩ : N3)).av) none) none) none) none) none from by kernel_rfl).trans ?_
  simp only at h1 h2 h3
  rw [h1, h2, h3]
  rfl
theorem m30 : Meets Tryd.prog GLv 30 s30 := by
  refine meetsN mix0 glv G6 Tryd.func30 (by kernel_rfl) (by kernel_rfl) s30 fun args x h => ?_
  unfold s30 at h
  split at h
  · rename_i x_a x_b x_k y_a y_b y_k
    simp only [Option.some.injEq, Prod.mk.injEq] at h
    obtain ⟨hp, rfl⟩ := h
    exact ⟨_, _, by kernel_rfl, e30 x_a x_b x_k y_a y_b y_k hp⟩
  · cases h
abbrev Γ7 : List (Nat × Ctr) := (30, s30) :: Γ6
theorem G7 : Sound Tryd.prog GLv Γ7 := G6.cons m30

-- (impl.Num).minus
def s34 : Ctr := fun
  | [.agg [.val (.int .i64 x_a), .val (.int .i64 x_b), .val (.int .i64 x_k)], .agg [.val (.int .i64 y_a), .val (.int .i64 y_b), .val (.int .i64 y_k)]] => some (pk (⟨x_a, x_b, x_k⟩ : N3) (⟨y_a, y_b, y_k⟩ : N3), (subF (⟨x_a, x_b, x_k⟩ : N3) (⟨y_a, y_b, y_k⟩ : N3)).av)
  | _ => none

theorem e34 (x_a : Int) (x_b : Int) (x_k : Int) (y_a : Int) (y_b : Int) (y_k : Int) (hp : (pk (⟨x_a, x_b, x_k⟩ : N3) (⟨y_a, y_b, y_k⟩ : N3)) = true) : evN Tryd.prog GLv Γ7 (0) []  Tryd.f34 [.agg [.val (.int .i64 x_a), .val (.int .i64 x_b), .val (.int .i64 x_k)], .agg [.val (.int .i64 y_a), .val (.int .i64 y_b), .val (.int .i64 y_k)]] = some ((subF (⟨x_a, x_b, x_k⟩ : N3) (⟨y_a, y_b, y_k⟩ : N3)).av) := by
  refine (show _ = cond (pk (⟨x_a, x_b, x_k⟩ : N3) (⟨y_a, y_b, y_k⟩ : N3)) (some (subF (⟨x_a, x_b, x_k⟩ : N3) (⟨y_a, y_b, y_k⟩ : N3)).av) none from by kernel_rfl).trans ?_
  rw [hp]
  rfl
theorem m34 : Meets Tryd.prog GLv 34 s34 := by
  refine meetsN mix0 glv G7 Tryd.func34 (by kernel_rfl) (by kernel_rfl) s34 fun args x h => ?_
  unfold s34 at h
  split at h
  · rename_i x_a x_b x_k y_a y_b y_k
    simp only [Option.some.injEq, Prod.mk.injEq] at h
    obtain ⟨hp, rfl⟩ := h
    exact ⟨_, _, by kernel_rfl, e34 x_a x_b x_k y_a y_b y_k hp⟩
  · cases h
abbrev Γ8 : List (Nat × Ctr) := (34, s34) :: Γ7
theorem G8 : Sound Tryd.prog GLv Γ8 := G7.cons m34

-- impl.ValidNum
def s41 : Ctr := fun
  | [.agg [.val (.int .i64 x_a), .val (.int .i64 x_b), .val (.int .i64 x_k)]] => some (true, bv (validB (⟨x_a, x_b, x_k⟩ : N3)))
  | _ => none

theorem e41 (x_a : Int) (x_b : Int) (x_k : Int) : evN Tryd.prog GLv Γ8 (0) []  Tryd.f41 [.agg [.val (.int .i64 x_a), .val (.int .i64 x_b), .val (.int .i64 x_k)]] = some (bv (validB (⟨x_a, x_b, x_k⟩ : N3))) := by
  refine (show _ = cond (inB x_a (-131072) 131072) ( cond (inB x_b (-131072) 131072) ( cond (inB x_k 0 10) ( cond (x_k == 0) ( some (bv (true)) ) ( cond (IntKind.i64.wrap ↑(BitVec.ofInt 64 x_a &&& BitVec.ofInt 64 1).toNat == 1) ( some (bv (true)) ) ( some (bv (IntKind.i64.wrap ↑(BitVec.ofInt 64 x_b &&& BitVec.ofInt 64 1).toNat == 1)) ) ) ) ( some (bv (false)) ) ) ( some (bv (false)) ) ) ( some (bv (false)) ) from by kernel_rfl).trans ?_
  simp only [validB]
  cases inB x_a (-131072) 131072 <;> cases inB x_b (-131072) 131072 <;> cases inB x_k 0 10 <;> cases (x_k == 0) <;> simp only [cond_true, cond_false, Bool.true_and, Bool.false_and, Bool.true_or, Bool.false_or, and_eq, tmod_ne, odd] <;> (first | rfl | (cases decide (x_a % 2 = 1) <;> rfl))
theorem m41 : Meets Tryd.prog GLv 41 s41 := by
  refine meetsN mix0 glv G8 Tryd.func41 (by kernel_rfl) (by kernel_rfl) s41 fun args x h => ?_
  unfold s41 at h
  split at h
  · rename_i x_a x_b x_k
    simp only [Option.some.injEq, Prod.mk.injEq] at h
    obtain ⟨hp, rfl⟩ := h
    exact ⟨_, _, by kernel_rfl, e41 x_a x_b x_k⟩
  · cases h
abbrev Γ9 : List (Nat × Ctr) := (41, s41) :: Γ8
theorem G9 : Sound Tryd.prog GLv Γ9 := G8.cons m41

-- spec.l01Ok
def s33 : Ctr := fun
  | [.agg [.val (.int .i64 x_a), .val (.int .i64 x_b), .val (.int .i64 x_k)]] => some (true, bv (validB (⟨x_a, x_b, x_k⟩ : N3)))
  | _ => none

theorem e33 (x_a : Int) (x_b : Int) (x_k : Int) : evN Tryd.prog GLv Γ9 (0) []  Tryd.f33 [.agg [.val (.int .i64 x_a), .val (.int .i64 x_b), .val (.int .i64 x_k)]] = some (bv (validB (⟨x_a, x_b, x_k⟩ : N3))) := by
  refine (show _ = cond (!inB x_a (-131072) 131072) ( some (bv (false)) ) ( cond (!inB x_b (-131072) 131072) ( some (bv (false)) ) ( cond (!inB x_k 0 10) ( some (bv (false)) ) ( cond (x_k == 0) ( some (bv (true)) ) ( cond (x_a.tmod 2 != 0) ( some (bv (true)) ) ( some (bv (x_b.tmod 2 != 0)) ) ) ) ) ) from by kernel_rfl).trans ?_
  simp only [validB]
  cases inB x_a (-131072) 131072 <;> cases inB x_b (-131072) 131072 <;> cases inB x_k 0 10 <;> cases (x_k == 0) <;> simp only [cond_true, cond_false, Bool.true_and, Bool.false_and, Bool.true_or, Bool.false_or, and_eq, tmod_ne, odd] <;> (first | rfl | (cases decide (x_a % 2 = 1) <;> rfl))
theorem m33 : Meets Tryd.prog GLv 33 s33 := by
  refine meetsN mix0 glv G9 Tryd.func33 (by kernel_rfl) (by kernel_rfl) s33 fun args x h => ?_
  unfold s33 at h
  split at h
  · rename_i x_a x_b x_k
    simp only [Option.some.injEq, Prod.mk.injEq] at h
    obtain ⟨hp, rfl⟩ := h
    exact ⟨_, _, by kernel_rfl, e33 x_a x_b x_k⟩
  · cases h
abbrev Γ10 : List (Nat × Ctr) := (33, s33) :: Γ9
theorem G10 : Sound Tryd.prog GLv Γ10 := G9.cons m33

-- spec.ValidNum
def s13 : Ctr := fun
  | [.agg [.val (.int .i64 x_a), .val (.int .i64 x_b), .val (.int .i64 x_k)]] => some (true, bv (validB (⟨x_a, x_b, x_k⟩ : N3)))
  | _ => none

theorem e13 (x_a : Int) (x_b : Int) (x_k : Int) : evN Tryd.prog GLv Γ10 (0) []  Tryd.f13 [.agg [.val (.int .i64 x_a), .val (.int .i64 x_b), .val (.int .i64 x_k)]] = some (bv (validB (⟨x_a, x_b, x_k⟩ : N3))) := by
  kernel_rfl
theorem m13 : Meets Tryd.prog GLv 13 s13 := by
  refine meetsN mix0 glv G10 Tryd.func13 (by kernel_rfl) (by kernel_rfl) s13 fun args x h => ?_
  unfold s13 at h
  split at h
  · rename_i x_a x_b x_k
    simp only [Option.some.injEq, Prod.mk.injEq] at h
    obtain ⟨hp, rfl⟩ := h
    exact ⟨_, _, by kernel_rfl, e13 x_a x_b x_k⟩
  · cases h
abbrev Γ11 : List (Nat × Ctr) := (13, s13) :: Γ10
theorem G11 : Sound Tryd.prog GLv Γ11 := G10.cons m13

-- (impl.Num).checked
def s31 : Ctr := fun
  | [.agg [.val (.int .i64 x_a), .val (.int .i64 x_b), .val (.int .i64 x_k)]] => some (kB x_k, .tup [(chk (⟨x_a, x_b, x_k⟩ : N3)).av, bv (chkB (⟨x_a, x_b, x_k⟩ : N3))])
  | _ => none

theorem e31 (x_a : Int) (x_b : Int) (x_k : Int) (hp : (kB x_k) = true) : evN Tryd.prog GLv Γ11 (0) []  Tryd.f31 [.agg [.val (.int .i64 x_a), .val (.int .i64 x_b), .val (.int .i64 x_k)]] = some (.tup [(chk (⟨x_a, x_b, x_k⟩ : N3)).av, bv (chkB (⟨x_a, x_b, x_k⟩ : N3))]) := by
  refine (show _ = cond (kB x_k) ( cond (!validB (N3.mk (red (N3.mk x_a x_b x_k)).1 (red (N3.mk x_a x_b x_k)).2 (red (N3.mk x_a x_b x_k)).3)) ( some ((.tup [(.agg [iv (0), iv (0), iv (0)]), bv (false)])) ) ( some ((.tup [(.agg [iv ((red (N3.mk x_a x_b x_k)).1), iv ((red (N3.mk x_a x_b x_k)).2), iv ((red (N3.mk x_a x_b x_k)).3)]), bv (true)])) ) ) ( none ) from by kernel_rfl).trans ?_
  rw [hp]
  simp only [chk, chkB, cond_true]
  cases validB (red (⟨x_a, x_b, x_k⟩ : N3)) <;> rfl
theorem m31 : Meets Tryd.prog GLv 31 s31 := by
  refine meetsN mix0 glv G11 Tryd.func31 (by kernel_rfl) (by kernel_rfl) s31 fun args x h => ?_
  unfold s31 at h
  split at h
  · rename_i x_a x_b x_k
    simp only [Option.some.injEq, Prod.mk.injEq] at h
    obtain ⟨hp, rfl⟩ := h
    exact ⟨_, _, by kernel_rfl, e31 x_a x_b x_k hp⟩
  · cases h
abbrev Γ12 : List (Nat × Ctr) := (31, s31) :: Γ11
theorem G12 : Sound Tryd.prog GLv Γ12 := G11.cons m31

-- spec.l01Num
def s67 : Ctr := fun
  | [.agg [.val (.int .i64 x_a), .val (.int .i64 x_b), .val (.int .i64 x_k)]] => some (kB x_k, .tup [(chk (⟨x_a, x_b, x_k⟩ : N3)).av, bv (chkB (⟨x_a, x_b, x_k⟩ : N3))])
  | _ => none

theorem e67 (x_a : Int) (x_b : Int) (x_k : Int) (hp : (kB x_k) = true) : evN Tryd.prog GLv Γ12 (0) []  Tryd.f67 [.agg [.val (.int .i64 x_a), .val (.int .i64 x_b), .val (.int .i64 x_k)]] = some (.tup [(chk (⟨x_a, x_b, x_k⟩ : N3)).av, bv (chkB (⟨x_a, x_b, x_k⟩ : N3))]) := by
  refine (show _ = cond (kB x_k) ( cond (!validB (N3.mk (red (N3.mk x_a x_b x_k)).1 (red (N3.mk x_a x_b x_k)).2 (red (N3.mk x_a x_b x_k)).3)) ( some ((.tup [(.agg [iv (0), iv (0), iv (0)]), bv (false)])) ) ( some ((.tup [(.agg [iv ((red (N3.mk x_a x_b x_k)).1), iv ((red (N3.mk x_a x_b x_k)).2), iv ((red (N3.mk x_a x_b x_k)).3)]), bv (true)])) ) ) ( none ) from by kernel_rfl).trans ?_
  rw [hp]
  simp only [chk, chkB, cond_true]
  cases validB (red (⟨x_a, x_b, x_k⟩ : N3)) <;> rfl
theorem m67 : Meets Tryd.prog GLv 67 s67 := by
  refine meetsN mix0 glv G12 Tryd.func67 (by kernel_rfl) (by kernel_rfl) s67 fun args x h => ?_
  unfold s67 at h
  split at h
  · rename_i x_a x_b x_k
    simp only [Option.some.injEq, Prod.mk.injEq] at h
    obtain ⟨hp, rfl⟩ := h
    exact ⟨_, _, by kernel_rfl, e67 x_a x_b x_k hp⟩
  · cases h
abbrev Γ13 : List (Nat × Ctr) := (67, s67) :: Γ12
theorem G13 : Sound Tryd.prog GLv Γ13 := G12.cons m67

-- impl.areNums
def s29 : Ctr := fun
  | [.agg [.val (.int .i64 x_a), .val (.int .i64 x_b), .val (.int .i64 x_k)], .agg [.val (.int .i64 y_a), .val (.int .i64 y_b), .val (.int .i64 y_k)]] => some (true, bv (validB (⟨x_a, x_b, x_k⟩ : N3) && validB (⟨y_a, y_b, y_k⟩ : N3)))
  | _ => none

theorem e29 (x_a : Int) (x_b : Int) (x_k : Int) (y_a : Int) (y_b : Int) (y_k : Int) : evN Tryd.prog GLv Γ13 (0) []  Tryd.f29 [.agg [.val (.int .i64 x_a), .val (.int .i64 x_b), .val (.int .i64 x_k)], .agg [.val (.int .i64 y_a), .val (.int .i64 y_b), .val (.int .i64 y_k)]] = some (bv (validB (⟨x_a, x_b, x_k⟩ : N3) && validB (⟨y_a, y_b, y_k⟩ : N3))) := by
  refine (show _ = cond (validB (N3.mk x_a x_b x_k)) ( some (bv (validB (N3.mk y_a y_b y_k))) ) ( some (bv (false)) ) from by kernel_rfl).trans ?_
  cases validB (⟨x_a, x_b, x_k⟩ : N3) <;> rfl
theorem m29 : Meets Tryd.prog GLv 29 s29 := by
  refine meetsN mix0 glv G13 Tryd.func29 (by kernel_rfl) (by kernel_rfl) s29 fun args x h => ?_
  unfold s29 at h
  split at h
  · rename_i x_a x_b x_k y_a y_b y_k
    simp only [Option.some.injEq, Prod.mk.injEq] at h
    obtain ⟨hp, rfl⟩ := h
    exact ⟨_, _, by kernel_rfl, e29 x_a x_b x_k y_a y_b y_k⟩
  · cases h
abbrev Γ14 : List (Nat × Ctr) := (29, s29) :: Γ13
theorem G14 : Sound Tryd.prog GLv Γ14 := G13.cons m29

-- impl.MulNum
def s12 : Ctr := fun
  | [.agg [.val (.int .i64 x_a), .val (.int .i64 x_b), .val (.int .i64 x_k)], .agg [.val (.int .i64 y_a), .val (.int .i64 y_b), .val (.int .i64 y_k)]] => some (true, opV (validB (⟨x_a, x_b, x_k⟩ : N3) && validB (⟨y_a, y_b, y_k⟩ : N3)) (mulF (⟨x_a, x_b, x_k⟩ : N3) (⟨y_a, y_b, y_k⟩ : N3)))
  | _ => none

theorem e12 (x_a : Int) (x_b : Int) (x_k : Int) (y_a : Int) (y_b : Int) (y_k : Int) : evN Tryd.prog GLv Γ14 (0) []  Tryd.f12 [.agg [.val (.int .i64 x_a), .val (.int .i64 x_b), .val (.int .i64 x_k)], .agg [.val (.int .i64 y_a), .val (.int .i64 y_b), .val (.int .i64 y_k)]] = some (opV (validB (⟨x_a, x_b, x_k⟩ : N3) && validB (⟨y_a, y_b, y_k⟩ : N3)) (mulF (⟨x_a, x_b, x_k⟩ : N3) (⟨y_a, y_b, y_k⟩ : N3))) := by
  refine (show _ = cond (!(validB (N3.mk x_a x_b x_k) && validB (N3.mk y_a y_b y_k))) ( some ((.tup [(.agg [iv (0), iv (0), iv (0)]), bv (false)])) ) ( cond (pkm (N3.mk x_a x_b x_k) (N3.mk y_a y_b y_k)) ( cond (kB (mulF (N3.mk x_a x_b x_k) (N3.mk y_a y_b y_k)).3) ( some ((.tup [(.agg [iv (bif chkB (N3.mk (mulF (N3.mk x_a x_b x_k) (N3.mk y_a y_b y_k)).1 (mulF (N3.mk x_a x_b x_k) (N3.mk y_a y_b y_k)).2 (mulF (N3.mk x_a x_b x_k) (N3.mk y_a y_b y_k)).3) then (red (N3.mk (mulF (N3.mk x_a x_b x_k) (N3.mk y_a y_b y_k)).1 (mulF (N3.mk x_a x_b x_k) (N3.mk y_a y_b y_k)).2 (mulF (N3.mk x_a x_b x_k) (N3.mk y_a y_b y_k)).3)).1 else 0), iv (bif chkB (N3.mk (mulF (N3.mk x_a x_b x_k) (N3.mk y_a y_b y_k)).1 (mulF (N3.mk x_a x_b x_k) (N3.mk y_a y_b y_k)).2 (mulF (N3.mk x_a x_b x_k) (N3.mk y_a y_b y_k)).3) then (red (N3.mk (mulF (N3.mk x_a x_b x_k) (N3.mk y_a y_b y_k)).1 (mulF (N3.mk x_a x_b x_k) (N3.mk y_a y_b y_k)).2 (mulF (N3.mk x_a x_b x_k) (N3.mk y_a y_b y_k)).3)).2 else 0), iv (bif chkB (N3.mk (mulF (N3.mk x_a x_b x_k) (N3.mk y_a y_b y_k)).1 (mulF (N3.mk x_a x_b x_k) (N3.mk y_a y_b y_k)).2 (mulF (N3.mk x_a x_b x_k) (N3.mk y_a y_b y_k)).3) then (red (N3.mk (mulF (N3.mk x_a x_b x_k) (N3.mk y_a y_b y_k)).1 (mulF (N3.mk x_a x_b x_k) (N3.mk y_a y_b y_k)).2 (mulF (N3.mk x_a x_b x_k) (N3.mk y_a y_b y_k)).3)).3 else 0)]), bv (chkB (N3.mk (mulF (N3.mk x_a x_b x_k) (N3.mk y_a y_b y_k)).1 (mulF (N3.mk x_a x_b x_k) (N3.mk y_a y_b y_k)).2 (mulF (N3.mk x_a x_b x_k) (N3.mk y_a y_b y_k)).3))])) ) ( none ) ) ( none ) ) from by kernel_rfl).trans ?_
  cases hx : validB (⟨x_a, x_b, x_k⟩ : N3) with
  | false => simp only [hx, cond_true, cond_false, Bool.false_and, Bool.not_false]; rfl
  | true =>
    cases hy : validB (⟨y_a, y_b, y_k⟩ : N3) with
    | false => simp only [hx, hy, cond_true, cond_false, Bool.true_and, Bool.not_true, Bool.not_false]; rfl
    | true =>
      obtain ⟨h1, h2, h3, h4, h5⟩ := vpk hx hy
      simp only [hx, hy, h1, h2, h3, h4, h5, cond_true, cond_false, Bool.true_and, Bool.not_true]
      rfl
theorem m12 : Meets Tryd.prog GLv 12 s12 := by
  refine meetsN mix0 glv G14 Tryd.func12 (by kernel_rfl) (by kernel_rfl) s12 fun args x h => ?_
  unfold s12 at h
  split at h
  · rename_i x_a x_b x_k y_a y_b y_k
    simp only [Option.some.injEq, Prod.mk.injEq] at h
    obtain ⟨hp, rfl⟩ := h
    exact ⟨_, _, by kernel_rfl, e12 x_a x_b x_k y_a y_b y_k⟩
  · cases h
abbrev Γ15 : List (Nat × Ctr) := (12, s12) :: Γ14
theorem G15 : Sound Tryd.prog GLv Γ15 := G14.cons m12

-- impl.AddNum
def s11 : Ctr := fun
  | [.agg [.val (.int .i64 x_a), .val (.int .i64 x_b), .val (.int .i64 x_k)], .agg [.val (.int .i64 y_a), .val (.int .i64 y_b), .val (.int .i64 y_k)]] => some (true, opV (validB (⟨x_a, x_b, x_k⟩ : N3) && validB (⟨y_a, y_b, y_k⟩ : N3)) (addF (⟨x_a, x_b, x_k⟩ : N3) (⟨y_a, y_b, y_k⟩ : N3)))
  | _ => none

theorem e11 (x_a : Int) (x_b : Int) (x_k : Int) (y_a : Int) (y_b : Int) (y_k : Int) : evN Tryd.prog GLv Γ15 (0) []  Tryd.f11 [.agg [.val (.int .i64 x_a), .val (.int .i64 x_b), .val (.int .i64 x_k)], .agg [.val (.int .i64 y_a), .val (.int .i64 y_b), .val (.int .i64 y_k)]] = some (opV (validB (⟨x_a, x_b, x_k⟩ : N3) && validB (⟨y_a, y_b, y_k⟩ : N3)) (addF (⟨x_a, x_b, x_k⟩ : N3) (⟨y_a, y_b, y_k⟩ : N3))) := by
  refine (show _ = cond (!(validB (N3.mk x_a x_b x_k) && validB (N3.mk y_a y_b y_k))) ( some ((.tup [(.agg [iv (0), iv (0), iv (0)]), bv (false)])) ) ( cond (pk (N3.mk x_a x_b x_k) (N3.mk y_a y_b y_k)) ( cond (kB (addF (N3.mk x_a x_b x_k) (N3.mk y_a y_b y_k)).3) ( some ((.tup [(.agg [iv (bif chkB (N3.mk (addF (N3.mk x_a x_b x_k) (N3.mk y_a y_b y_k)).1 (addF (N3.mk x_a x_b x_k) (N3.mk y_a y_b y_k)).2 (addF (N3.mk x_a x_b x_k) (N3.mk y_a y_b y_k)).3) then (red (N3.mk (addF (N3.mk x_a x_b x_k) (N3.mk y_a y_b y_k)).1 (addF (N3.mk x_a x_b x_k) (N3.mk y_a y_b y_k)).2 (addF (N3.mk x_a x_b x_k) (N3.mk y_a y_b y_k)).3)).1 else 0), iv (bif chkB (N3.mk (addF (N3.mk x_a x_b x_k) (N3.mk y_a y_b y_k)).1 (addF (N3.mk x_a x_b x_k) (N3.mk y_a y_b y_k)).2 (addF (N3.mk x_a x_b x_k) (N3.mk y_a y_b y_k)).3) then (red (N3.mk (addF (N3.mk x_a x_b x_k) (N3.mk y_a y_b y_k)).1 (addF (N3.mk x_a x_b x_k) (N3.mk y_a y_b y_k)).2 (addF (N3.mk x_a x_b x_k) (N3.mk y_a y_b y_k)).3)).2 else 0), iv (bif chkB (N3.mk (addF (N3.mk x_a x_b x_k) (N3.mk y_a y_b y_k)).1 (addF (N3.mk x_a x_b x_k) (N3.mk y_a y_b y_k)).2 (addF (N3.mk x_a x_b x_k) (N3.mk y_a y_b y_k)).3) then (red (N3.mk (addF (N3.mk x_a x_b x_k) (N3.mk y_a y_b y_k)).1 (addF (N3.mk x_a x_b x_k) (N3.mk y_a y_b y_k)).2 (addF (N3.mk x_a x_b x_k) (N3.mk y_a y_b y_k)).3)).3 else 0)]), bv (chkB (N3.mk (addF (N3.mk x_a x_b x_k) (N3.mk y_a y_b y_k)).1 (addF (N3.mk x_a x_b x_k) (N3.mk y_a y_b y_k)).2 (addF (N3.mk x_a x_b x_k) (N3.mk y_a y_b y_k)).3))])) ) ( none ) ) ( none ) ) from by kernel_rfl).trans ?_
  cases hx : validB (⟨x_a, x_b, x_k⟩ : N3) with
  | false => simp only [hx, cond_true, cond_false, Bool.false_and, Bool.not_false]; rfl
  | true =>
    cases hy : validB (⟨y_a, y_b, y_k⟩ : N3) with
    | false => simp only [hx, hy, cond_true, cond_false, Bool.true_and, Bool.not_true, Bool.not_false]; rfl
    | true =>
      obtain ⟨h1, h2, h3, h4, h5⟩ := vpk hx hy
      simp only [hx, hy, h1, h2, h3, h4, h5, cond_true, cond_false, Bool.true_and, Bool.not_true]
      rfl
theorem m11 : Meets Tryd.prog GLv 11 s11 := by
  refine meetsN mix0 glv G15 Tryd.func11 (by kernel_rfl) (by kernel_rfl) s11 fun args x h => ?_
  unfold s11 at h
  split at h
  · rename_i x_a x_b x_k y_a y_b y_k
    simp only [Option.some.injEq, Prod.mk.injEq] at h
    obtain ⟨hp, rfl⟩ := h
    exact ⟨_, _, by kernel_rfl, e11 x_a x_b x_k y_a y_b y_k⟩
  · cases h
abbrev Γ16 : List (Nat × Ctr) := (11, s11) :: Γ15
theorem G16 : Sound Tryd.prog GLv Γ16 := G15.cons m11

-- impl.SubNum
def s14 : Ctr := fun
  | [.agg [.val (.int .i64 x_a), .val (.int .i64 x_b), .val (.int .i64 x_k)], .agg [.val (.int .i64 y_a), .val (.int .i64 y_b), .val (.int .i64 y_k)]] => some (true, opV (validB (⟨x_a, x_b, x_k⟩ : N3) && validB (⟨y_a, y_b, y_k⟩ : N3)) (subF (⟨x_a, x_b, x_k⟩ : N3) (⟨y_a, y_b, y_k⟩ : N3)))
  | _ => none

theorem e14 (x_a : Int) (x_b : Int) (x_k : Int) (y_a : Int) (y_b : Int) (y_k : Int) : evN Tryd.prog GLv Γ16 (0) []  Tryd.f14 [.agg [.val (.int .i64 x_a), .val (.int .i64 x_b), .val (.int .i64 x_k)], .agg [.val (.int .i64 y_a), .val (.int .i64 y_b), .val (.int .i64 y_k)]] = some (opV (validB (⟨x_a, x_b, x_k⟩ : N3) && validB (⟨y_a, y_b, y_k⟩ : N3)) (subF (⟨x_a, x_b, x_k⟩ : N3) (⟨y_a, y_b, y_k⟩ : N3))) := by
  refine (show _ = cond (!(validB (N3.mk x_a x_b x_k) && validB (N3.mk y_a y_b y_k))) ( some ((.tup [(.agg [iv (0), iv (0), iv (0)]), bv (false)])) ) ( cond (pk (N3.mk x_a x_b x_k) (N3.mk y_a y_b y_k)) ( cond (kB (subF (N3.mk x_a x_b x_k) (N3.mk y_a y_b y_k)).3) ( some ((.tup [(.agg [iv (bif chkB (N3.mk (subF (N3.mk x_a x_b x_k) (N3.mk y_a y_b y_k)).1 (subF (N3.mk x_a x_b x_k) (N3.mk y_a y_b y_k)).2 (subF (N3.mk x_a x_b x_k) (N3.mk y_a y_b y_k)).3) then (red (N3.mk (subF (N3.mk x_a x_b x_k) (N3.mk y_a y_b y_k)).1 (subF (N3.mk x_a x_b x_k) (N3.mk y_a y_b y_k)).2 (subF (N3.mk x_a x_b x_k) (N3.mk y_a y_b y_k)).3)).1 else 0), iv (bif chkB (N3.mk (subF (N3.mk x_a x_b x_k) (N3.mk y_a y_b y_k)).1 (subF (N3.mk x_a x_b x_k) (N3.mk y_a y_b y_k)).2 (subF (N3.mk x_a x_b x_k) (N3.mk y_a y_b y_k)).3) then (red (N3.mk (subF (N3.mk x_a x_b x_k) (N3.mk y_a y_b y_k)).1 (subF (N3.mk x_a x_b x_k) (N3.mk y_a y_b y_k)).2 (subF (N3.mk x_a x_b x_k) (N3.mk y_a y_b y_k)).3)).2 else 0), iv (bif chkB (N3.mk (subF (N3.mk x_a x_b x_k) (N3.mk y_a y_b y_k)).1 (subF (N3.mk x_a x_b x_k) (N3.mk y_a y_b y_k)).2 (subF (N3.mk x_a x_b x_k) (N3.mk y_a y_b y_k)).3) then (red (N3.mk (subF (N3.mk x_a x_b x_k) (N3.mk y_a y_b y_k)).1 (subF (N3.mk x_a x_b x_k) (N3.mk y_a y_b y_k)).2 (subF (N3.mk x_a x_b x_k) (N3.mk y_a y_b y_k)).3)).3 else 0)]), bv (chkB (N3.mk (subF (N3.mk x_a x_b x_k) (N3.mk y_a y_b y_k)).1 (subF (N3.mk x_a x_b x_k) (N3.mk y_a y_b y_k)).2 (subF (N3.mk x_a x_b x_k) (N3.mk y_a y_b y_k)).3))])) ) ( none ) ) ( none ) ) from by kernel_rfl).trans ?_
  cases hx : validB (⟨x_a, x_b, x_k⟩ : N3) with
  | false => simp only [hx, cond_true, cond_false, Bool.false_and, Bool.not_false]; rfl
  | true =>
    cases hy : validB (⟨y_a, y_b, y_k⟩ : N3) with
    | false => simp only [hx, hy, cond_true, cond_false, Bool.true_and, Bool.not_true, Bool.not_false]; rfl
    | true =>
      obtain ⟨h1, h2, h3, h4, h5⟩ := vpk hx hy
      simp only [hx, hy, h1, h2, h3, h4, h5, cond_true, cond_false, Bool.true_and, Bool.not_true]
      rfl
theorem m14 : Meets Tryd.prog GLv 14 s14 := by
  refine meetsN mix0 glv G16 Tryd.func14 (by kernel_rfl) (by kernel_rfl) s14 fun args x h => ?_
  unfold s14 at h
  split at h
  · rename_i x_a x_b x_k y_a y_b y_k
    simp only [Option.some.injEq, Prod.mk.injEq] at h
    obtain ⟨hp, rfl⟩ := h
    exact ⟨_, _, by kernel_rfl, e14 x_a x_b x_k y_a y_b y_k⟩
  · cases h
abbrev Γ17 : List (Nat × Ctr) := (14, s14) :: Γ16
theorem G17 : Sound Tryd.prog GLv Γ17 := G16.cons m14

end Go.Proofs.YtkmeacninbnmaaaDoor
