/- Contracts of the program's functions, by the evaluator. -/
import Derived.Test.YtigmgpblnoecpaaDoorProg
import Derived.Test.YtigmgpblnoecpaaDoorNumG
namespace Go.Proofs.YtigmgpblnoecpaaDoor
open Go.Ev
set_option linter.unusedVariables false
set_option linter.unusedSimpArgs false
set_option maxRecDepth 100000

def GLv : Nat → AV := fun g => match Nat.beq g 0 with
  | true => .eptr [iv (1), iv (0), iv (0), iv (0), iv (0), iv (0), iv (1), iv (0), iv (0), iv (-1), iv (1), iv (0), iv (1), iv (0), iv (0), iv (1), iv (0), iv (0), iv (-1), iv (1), iv (0), iv (1), iv (0), iv (0), iv (0), iv (0), iv (0), iv (1), iv (0), iv (0), iv (1), iv (-1), iv (0), iv (1), iv (0), iv (0), iv (-1), iv (0), iv (0), iv (1), iv (0), iv (0), iv (-1), iv (0), iv (0), iv (-1), iv (1), iv (0)]
  | false => .non
theorem glv : ∀ g' g k, GLv g' ≠ .ref g k := fun g' g k => by
  unfold GLv
  split <;> (intro h; cases h)

theorem mix0 : Tryd.prog.follows .mixedOrders = true := by kernel_rfl
abbrev Γ0 : List (Nat × Ctr) := []
theorem G0 : Sound Tryd.prog GLv Γ0 := Sound.nil

-- impl.within
def s47 : Ctr := fun
  | [.val (.int .i64 x), .val (.int .i64 lo), .val (.int .i64 hi)] => some (true, bv (inB x lo hi))
  | _ => none

theorem e47 (x : Int) (lo : Int) (hi : Int) : evN Tryd.prog GLv Γ0 (0) []  Tryd.f47 [.val (.int .i64 x), .val (.int .i64 lo), .val (.int .i64 hi)] = some (bv (inB x lo hi)) := by
  refine (show _ = cond (decide (x ≥ lo)) ( some (bv (decide (x ≤ hi))) ) ( some (bv (false)) ) from by kernel_rfl).trans ?_
  simp only [inB]
  cases decide (x ≥ lo) <;> rfl
theorem m47 : Meets Tryd.prog GLv 47 s47 := by
  refine meetsN mix0 glv G0 Tryd.func47 (by kernel_rfl) (by kernel_rfl) s47 fun args x h => ?_
  unfold s47 at h
  split at h
  · rename_i x lo hi
    simp only [Option.some.injEq, Prod.mk.injEq] at h
    obtain ⟨hp, rfl⟩ := h
    exact ⟨_, _, by kernel_rfl, e47 x lo hi⟩
  · cases h
abbrev Γ1 : List (Nat × Ctr) := (47, s47) :: Γ0
theorem G1 : Sound Tryd.prog GLv Γ1 := G0.cons m47

-- spec.l00In
def s92 : Ctr := fun
  | [.val (.int .i64 x), .val (.int .i64 lo), .val (.int .i64 hi)] => some (true, bv (inB x lo hi))
  | _ => none

theorem e92 (x : Int) (lo : Int) (hi : Int) : evN Tryd.prog GLv Γ1 (0) []  Tryd.f92 [.val (.int .i64 x), .val (.int .i64 lo), .val (.int .i64 hi)] = some (bv (inB x lo hi)) := by
  refine (show _ = cond (decide (x ≥ lo)) ( some (bv (decide (x ≤ hi))) ) ( some (bv (false)) ) from by kernel_rfl).trans ?_
  simp only [inB]
  cases decide (x ≥ lo) <;> rfl
theorem m92 : Meets Tryd.prog GLv 92 s92 := by
  refine meetsN mix0 glv G1 Tryd.func92 (by kernel_rfl) (by kernel_rfl) s92 fun args x h => ?_
  unfold s92 at h
  split at h
  · rename_i x lo hi
    simp only [Option.some.injEq, Prod.mk.injEq] at h
    obtain ⟨hp, rfl⟩ := h
    exact ⟨_, _, by kernel_rfl, e92 x lo hi⟩
  · cases h
abbrev Γ2 : List (Nat × Ctr) := (92, s92) :: Γ1
theorem G2 : Sound Tryd.prog GLv Γ2 := G1.cons m92

-- (impl.Num).reduced
def s119 : Ctr := fun
  | [.agg [.val (.int .i64 x_a), .val (.int .i64 x_b), .val (.int .i64 x_k)]] => some (kB x_k, (red (⟨x_a, x_b, x_k⟩ : N3)).av)
  | _ => none

theorem r119_step (K n : Nat) (a b k : Int) : runL Tryd.prog GLv Γ2 K [false, true, true] Tryd.f119 0 (n + 1) (stL Tryd.f119.ntmps [.non, .own 24 [iv (a), iv (b), iv (k)], .own 24 [iv 0, iv 0, iv 0]]) = cond (decide (k > 0)) (cond (and64 a 1 == 0) (cond (and64 b 1 == 0) (cond (wr (a.tdiv 2) == 0) (cond (wr (b.tdiv 2) == 0) (runL Tryd.prog GLv Γ2 K [false, true, true] Tryd.f119 0 n (stL Tryd.f119.ntmps [.non, .own 24 [iv (wr (a.tdiv 2)), iv (wr (b.tdiv 2)), iv (0)], .own 24 [iv 0, iv 0, iv 0]])) (runL Tryd.prog GLv Γ2 K [false, true, true] Tryd.f119 0 n (stL Tryd.f119.ntmps [.non, .own 24 [iv (wr (a.tdiv 2)), iv (wr (b.tdiv 2)), iv (wr (k - 1))], .own 24 [iv 0, iv 0, iv 0]]))) (runL Tryd.prog GLv Γ2 K [false, true, true] Tryd.f119 0 n (stL Tryd.f119.ntmps [.non, .own 24 [iv (wr (a.tdiv 2)), iv (wr (b.tdiv 2)), iv (wr (k - 1))], .own 24 [iv 0, iv 0, iv 0]]))) (some (⟨a, b, k⟩ : N3).av)) (some (⟨a, b, k⟩ : N3).av)) (some (⟨a, b, k⟩ : N3).av) := by kernel_rfl
theorem r119_run (K : Nat) : ∀ (m : Nat) (a b k : Int) (n : Nat), 0 ≤ k → k ≤ 1152921504606846976 → k.toNat ≤ m → m < n → runL Tryd.prog GLv Γ2 K [false, true, true] Tryd.f119 0 n (stL Tryd.f119.ntmps [.non, .own 24 [iv (a), iv (b), iv (k)], .own 24 [iv 0, iv 0, iv 0]]) = some (redF (m + 1) a b k).av := by
  intro m
  induction m with
  | zero =>
    intro a b k n h0 h1 h2 h3
    obtain ⟨n, rfl⟩ : ∃ n', n = n' + 1 := ⟨n - 1, by omega⟩
    have hk : ¬ k > 0 := by omega
    rw [r119_step, redF_succ, if_neg (fun h => hk h.1)]
    simp only [hk, decide_false, cond_false]
  | succ m ih =>
    intro a b k n h0 h1 h2 h3
    obtain ⟨n, rfl⟩ : ∃ n', n = n' + 1 := ⟨n - 1, by omega⟩
    rw [r119_step, redF_succ]
    rw [and64_one, and64_one]
    have ea : ((a % 2 == 0) = !odd a) := odd_zero a
    have eb : ((b % 2 == 0) = !odd b) := odd_zero b
    rw [ea, eb]
    by_cases hk : k > 0
    · have hw : wr (k - 1) = k - 1 := wr_in (by omega) (by omega)
      cases ha : odd a with
      | true => rw [if_neg (fun h => by cases h.2.1)]; simp [hk]
      | false =>
        cases hb : odd b with
        | true => rw [if_neg (fun h => by cases h.2.2)]; simp [hk]
        | false =>
          rw [if_pos ⟨hk, rfl, rfl⟩]
          simp only [hk, decide_true, cond_true, Bool.not_false]
          rw [hw, ih _ _ _ _ (by omega) (by omega) (by omega) (by omega), ih _ _ _ _ (by omega) (by omega) (by omega) (by omega)]
          by_cases hz1 : wr (a.tdiv 2) = 0
          · by_cases hz2 : wr (b.tdiv 2) = 0
            · simp [hz1, hz2]
            · have e2 : (wr (b.tdiv 2) == 0) = false := by simpa using hz2
              simp [hz1, hz2, e2]
          · have e1 : (wr (a.tdiv 2) == 0) = false := by simpa using hz1
            simp [hz1, e1]
    · rw [if_neg (fun h => hk h.1)]; simp [hk]
theorem e119 (x_a : Int) (x_b : Int) (x_k : Int) (hp : (kB x_k) = true) : evN Tryd.prog GLv Γ2 (x_k.toNat + 1) [false, true, true]  Tryd.f119 [.agg [.val (.int .i64 x_a), .val (.int .i64 x_b), .val (.int .i64 x_k)]] = some ((red (⟨x_a, x_b, x_k⟩ : N3)).av) := by
  exact (show _ = _ from by kernel_rfl).trans (r119_run (x_k.toNat + 1) x_k.toNat x_a x_b x_k (x_k.toNat + 1) (kB_iff.1 hp).1 (kB_iff.1 hp).2 (Nat.le_refl _) (Nat.lt_succ_self _))
theorem m119 : Meets Tryd.prog GLv 119 s119 := by
  refine meetsN mix0 glv G2 Tryd.func119 (by kernel_rfl) (by kernel_rfl) s119 fun args x h => ?_
  unfold s119 at h
  split at h
  · rename_i x_a x_b x_k
    simp only [Option.some.injEq, Prod.mk.injEq] at h
    obtain ⟨hp, rfl⟩ := h
    exact ⟨_, _, by kernel_rfl, e119 x_a x_b x_k hp⟩
  · cases h
abbrev Γ3 : List (Nat × Ctr) := (119, s119) :: Γ2
theorem G3 : Sound Tryd.prog GLv Γ3 := G2.cons m119

-- spec.l01Low
def s114 : Ctr := fun
  | [.agg [.val (.int .i64 x_a), .val (.int .i64 x_b), .val (.int .i64 x_k)]] => some (kB x_k, (red (⟨x_a, x_b, x_k⟩ : N3)).av)
  | _ => none

theorem r114_step (K n : Nat) (a b k : Int) : runL Tryd.prog GLv Γ3 K [false, true, true] Tryd.f114 0 (n + 1) (stL Tryd.f114.ntmps [.non, .own 76 [iv (a), iv (b), iv (k)], .own 76 [iv 0, iv 0, iv 0]]) = cond (decide (k > 0)) (cond (a.tmod 2 == 0) (cond (b.tmod 2 == 0) (runL Tryd.prog GLv Γ3 K [false, true, true] Tryd.f114 0 n (stL Tryd.f114.ntmps [.non, .own 76 [iv (wr (a.tdiv 2)), iv (wr (b.tdiv 2)), iv (wr (k - 1))], .own 76 [iv 0, iv 0, iv 0]])) (some (⟨a, b, k⟩ : N3).av)) (some (⟨a, b, k⟩ : N3).av)) (some (⟨a, b, k⟩ : N3).av) := by kernel_rfl
theorem r114_run (K : Nat) : ∀ (m : Nat) (a b k : Int) (n : Nat), 0 ≤ k → k ≤ 1152921504606846976 → k.toNat ≤ m → m < n → runL Tryd.prog GLv Γ3 K [false, true, true] Tryd.f114 0 n (stL Tryd.f114.ntmps [.non, .own 76 [iv (a), iv (b), iv (k)], .own 76 [iv 0, iv 0, iv 0]]) = some (redF (m + 1) a b k).av := by
  intro m
  induction m with
  | zero =>
    intro a b k n h0 h1 h2 h3
    obtain ⟨n, rfl⟩ : ∃ n', n = n' + 1 := ⟨n - 1, by omega⟩
    have hk : ¬ k > 0 := by omega
    rw [r114_step, redF_succ, if_neg (fun h => hk h.1)]
    simp only [hk, decide_false, cond_false]
  | succ m ih =>
    intro a b k n h0 h1 h2 h3
    obtain ⟨n, rfl⟩ : ∃ n', n = n' + 1 := ⟨n - 1, by omega⟩
    rw [r114_step, redF_succ]
    rw [tmod_zero, tmod_zero]
    by_cases hk : k > 0
    · have hw : wr (k - 1) = k - 1 := wr_in (by omega) (by omega)
      cases ha : odd a with
      | true => rw [if_neg (fun h => by cases h.2.1)]; simp [hk]
      | false =>
        cases hb : odd b with
        | true => rw [if_neg (fun h => by cases h.2.2)]; simp [hk]
        | false =>
          rw [if_pos ⟨hk, rfl, rfl⟩]
          simp only [hk, decide_true, cond_true, Bool.not_false]
          rw [hw, ih _ _ _ _ (by omega) (by omega) (by omega) (by omega)]
          by_cases hz : wr (a.tdiv 2) = 0 ∧ wr (b.tdiv 2) = 0
          · rw [if_pos hz, hz.1, hz.2, redF_zero m _ (by omega), redF_zero m _ (by omega)]
            have e : (if k - 1 > 0 then (0 : Int) else k - 1) = 0 := by split <;> omega
            rw [e]
            rfl
          · rw [if_neg hz]
    · rw [if_neg (fun h => hk h.1)]; simp [hk]
theorem e114 (x_a : Int) (x_b : Int) (x_k : Int) (hp : (kB x_k) = true) : evN Tryd.prog GLv Γ3 (x_k.toNat + 1) [false, true, true]  Tryd.f114 [.agg [.val (.int .i64 x_a), .val (.int .i64 x_b), .val (.int .i64 x_k)]] = some ((red (⟨x_a, x_b, x_k⟩ : N3)).av) := by
  refine (show _ = cond (x_a == 0) (cond (x_b == 0) (some z3.av) (runL Tryd.prog GLv Γ3 (x_k.toNat + 1) [false, true, true] Tryd.f114 0 (x_k.toNat + 1) (stL Tryd.f114.ntmps [.non, .own 76 [iv (x_a), iv (x_b), iv (x_k)], .own 76 [iv 0, iv 0, iv 0]]))) (runL Tryd.prog GLv Γ3 (x_k.toNat + 1) [false, true, true] Tryd.f114 0 (x_k.toNat + 1) (stL Tryd.f114.ntmps [.non, .own 76 [iv (x_a), iv (x_b), iv (x_k)], .own 76 [iv 0, iv 0, iv 0]])) from by kernel_rfl).trans ?_
  rw [r114_run (x_k.toNat + 1) x_k.toNat x_a x_b x_k (x_k.toNat + 1) (kB_iff.1 hp).1 (kB_iff.1 hp).2 (Nat.le_refl _) (Nat.lt_succ_self _)]
  by_cases ha : x_a = 0
  · by_cases hb : x_b = 0
    · subst ha hb
      have := redF_zero x_k.toNat x_k (Nat.le_refl _)
      have hk := (kB_iff.1 hp).1
      have e : (if x_k > 0 then 0 else x_k) = 0 := by split <;> omega
      rw [e] at this
      simp only [red, this]
      rfl
    · have e2 : (x_b == 0) = false := by simpa using hb
      simp only [e2, cond_false, red]
      cases (x_a == 0) <;> rfl
  · have e1 : (x_a == 0) = false := by simpa using ha
    simp only [e1, cond_false, red]
theorem m114 : Meets Tryd.prog GLv 114 s114 := by
  refine meetsN mix0 glv G3 Tryd.func114 (by kernel_rfl) (by kernel_rfl) s114 fun args x h => ?_
  unfold s114 at h
  split at h
  · rename_i x_a x_b x_k
    simp only [Option.some.injEq, Prod.mk.injEq] at h
    obtain ⟨hp, rfl⟩ := h
    exact ⟨_, _, by kernel_rfl, e114 x_a x_b x_k hp⟩
  · cases h
abbrev Γ4 : List (Nat × Ctr) := (114, s114) :: Γ3
theorem G4 : Sound Tryd.prog GLv Γ4 := G3.cons m114

-- (impl.Num).neg
def s120 : Ctr := fun
  | [.agg [.val (.int .i64 x_a), .val (.int .i64 x_b), .val (.int .i64 x_k)]] => some (true, (negF (⟨x_a, x_b, x_k⟩ : N3)).av)
  | _ => none

theorem e120 (x_a : Int) (x_b : Int) (x_k : Int) : evN Tryd.prog GLv Γ4 (0) []  Tryd.f120 [.agg [.val (.int .i64 x_a), .val (.int .i64 x_b), .val (.int .i64 x_k)]] = some ((negF (⟨x_a, x_b, x_k⟩ : N3)).av) := by
  kernel_rfl
theorem m120 : Meets Tryd.prog GLv 120 s120 := by
  refine meetsN mix0 glv G4 Tryd.func120 (by kernel_rfl) (by kernel_rfl) s120 fun args x h => ?_
  unfold s120 at h
  split at h
  · rename_i x_a x_b x_k
    simp only [Option.some.injEq, Prod.mk.injEq] at h
    obtain ⟨hp, rfl⟩ := h
    exact ⟨_, _, by kernel_rfl, e120 x_a x_b x_k⟩
  · cases h
abbrev Γ5 : List (Nat × Ctr) := (120, s120) :: Γ4
theorem G5 : Sound Tryd.prog GLv Γ5 := G4.cons m120

-- spec.l01Neg
def s123 : Ctr := fun
  | [.agg [.val (.int .i64 x_a), .val (.int .i64 x_b), .val (.int .i64 x_k)]] => some (true, (negF (⟨x_a, x_b, x_k⟩ : N3)).av)
  | _ => none

theorem e123 (x_a : Int) (x_b : Int) (x_k : Int) : evN Tryd.prog GLv Γ5 (0) []  Tryd.f123 [.agg [.val (.int .i64 x_a), .val (.int .i64 x_b), .val (.int .i64 x_k)]] = some ((negF (⟨x_a, x_b, x_k⟩ : N3)).av) := by
  kernel_rfl
theorem m123 : Meets Tryd.prog GLv 123 s123 := by
  refine meetsN mix0 glv G5 Tryd.func123 (by kernel_rfl) (by kernel_rfl) s123 fun args x h => ?_
  unfold s123 at h
  split at h
  · rename_i x_a x_b x_k
    simp only [Option.some.injEq, Prod.mk.injEq] at h
    obtain ⟨hp, rfl⟩ := h
    exact ⟨_, _, by kernel_rfl, e123 x_a x_b x_k⟩
  · cases h
abbrev Γ6 : List (Nat × Ctr) := (123, s123) :: Γ5
theorem G6 : Sound Tryd.prog GLv Γ6 := G5.cons m123

-- (impl.Num).times
def s84 : Ctr := fun
  | [.agg [.val (.int .i64 x_a), .val (.int .i64 x_b), .val (.int .i64 x_k)], .agg [.val (.int .i64 y_a), .val (.int .i64 y_b), .val (.int .i64 y_k)]] => some (pkm (⟨x_a, x_b, x_k⟩ : N3) (⟨y_a, y_b, y_k⟩ : N3), (mulF (⟨x_a, x_b, x_k⟩ : N3) (⟨y_a, y_b, y_k⟩ : N3)).av)
  | _ => none

theorem e84 (x_a : Int) (x_b : Int) (x_k : Int) (y_a : Int) (y_b : Int) (y_k : Int) (hp : (pkm (⟨x_a, x_b, x_k⟩ : N3) (⟨y_a, y_b, y_k⟩ : N3)) = true) : evN Tryd.prog GLv Γ6 (0) []  Tryd.f84 [.agg [.val (.int .i64 x_a), .val (.int .i64 x_b), .val (.int .i64 x_k)], .agg [.val (.int .i64 y_a), .val (.int .i64 y_b), .val (.int .i64 y_k)]] = some ((mulF (⟨x_a, x_b, x_k⟩ : N3) (⟨y_a, y_b, y_k⟩ : N3)).av) := by
  refine (show _ = cond (kB (wr (x_k + y_k))) (some (mulF (⟨x_a, x_b, x_k⟩ : N3) (⟨y_a, y_b, y_k⟩ : N3)).av) none from by kernel_rfl).trans ?_
  have := pkm_kB hp
  simp only at this
  rw [this]
  rfl
theorem m84 : Meets Tryd.prog GLv 84 s84 := by
  refine meetsN mix0 glv G6 Tryd.func84 (by kernel_rfl) (by kernel_rfl) s84 fun args x h => ?_
  unfold s84 at h
  split at h
  · rename_i x_a x_b x_k y_a y_b y_k
    simp only [Option.some.injEq, Prod.mk.injEq] at h
    obtain ⟨hp, rfl⟩ := h
    exact ⟨_, _, by kernel_rfl, e84 x_a x_b x_k y_a y_b y_k hp⟩
  · cases h
abbrev Γ7 : List (Nat × Ctr) := (84, s84) :: Γ6
theorem G7 : Sound Tryd.prog GLv Γ7 := G6.cons m84

-- spec.l01Mul
def s81 : Ctr := fun
  | [.agg [.val (.int .i64 x_a), .val (.int .i64 x_b), .val (.int .i64 x_k)], .agg [.val (.int .i64 y_a), .val (.int .i64 y_b), .val (.int .i64 y_k)]] => some (pkm (⟨x_a, x_b, x_k⟩ : N3) (⟨y_a, y_b, y_k⟩ : N3), (mulF (⟨x_a, x_b, x_k⟩ : N3) (⟨y_a, y_b, y_k⟩ : N3)).av)
  | _ => none

theorem e81 (x_a : Int) (x_b : Int) (x_k : Int) (y_a : Int) (y_b : Int) (y_k : Int) (hp : (pkm (⟨x_a, x_b, x_k⟩ : N3) (⟨y_a, y_b, y_k⟩ : N3)) = true) : evN Tryd.prog GLv Γ7 (0) []  Tryd.f81 [.agg [.val (.int .i64 x_a), .val (.int .i64 x_b), .val (.int .i64 x_k)], .agg [.val (.int .i64 y_a), .val (.int .i64 y_b), .val (.int .i64 y_k)]] = some ((mulF (⟨x_a, x_b, x_k⟩ : N3) (⟨y_a, y_b, y_k⟩ : N3)).av) := by
  refine (show _ = cond (kB (wr (x_k + y_k))) (some (mulF (⟨x_a, x_b, x_k⟩ : N3) (⟨y_a, y_b, y_k⟩ : N3)).av) none from by kernel_rfl).trans ?_
  have := pkm_kB hp
  simp only at this
  rw [this]
  rfl
theorem m81 : Meets Tryd.prog GLv 81 s81 := by
  refine meetsN mix0 glv G7 Tryd.func81 (by kernel_rfl) (by kernel_rfl) s81 fun args x h => ?_
  unfold s81 at h
  split at h
  · rename_i x_a x_b x_k y_a y_b y_k
    simp only [Option.some.injEq, Prod.mk.injEq] at h
    obtain ⟨hp, rfl⟩ := h
    exact ⟨_, _, by kernel_rfl, e81 x_a x_b x_k y_a y_b y_k hp⟩
  · cases h
abbrev Γ8 : List (Nat × Ctr) := (81, s81) :: Γ7
theorem G8 : Sound Tryd.prog GLv Γ8 := G7.cons m81

-- (impl.Num).plus
def s96 : Ctr := fun
  | [.agg [.val (.int .i64 x_a), .val (.int .i64 x_b), .val (.int .i64 x_k)], .agg [.val (.int .i64 y_a), .val (.int .i64 y_b), .val (.int .i64 y_k)]] => some (pk (⟨x_a, x_b, x_k⟩ : N3) (⟨y_a, y_b, y_k⟩ : N3), (addF (⟨x_a, x_b, x_k⟩ : N3) (⟨y_a, y_b, y_k⟩ : N3)).av)
  | _ => none

theorem e96 (x_a : Int) (x_b : Int) (x_k : Int) (y_a : Int) (y_b : Int) (y_k : Int) (hp : (pk (⟨x_a, x_b, x_k⟩ : N3) (⟨y_a, y_b, y_k⟩ : N3)) = true) : evN Tryd.prog GLv Γ8 (0) []  Tryd.f96 [.agg [.val (.int .i64 x_a), .val (.int .i64 x_b), .val (.int .i64 x_k)], .agg [.val (.int .i64 y_a), .val (.int .i64 y_b), .val (.int .i64 y_k)]] = some ((addF (⟨x_a, x_b, x_k⟩ : N3) (⟨y_a, y_b, y_k⟩ : N3)).av) := by
  obtain ⟨h1, h2, h3⟩ := pk_sh hp
  refine (show _ = cond (decide (0 ≤ wr (gmax x_k y_k - x_k))) (cond (decide (0 ≤ wr (gmax x_k y_k - y_k))) (cond (decide (0 ≤ wr (gmax x_k y_k - x_k))) (cond (decide (0 ≤ wr (gmax x_k y_k - y_k))) (cond (kB (gmax x_k y_k)) (some (addF (⟨x_a, x_b, x_k⟩ : N3) (⟨y_a, y_b, y_k⟩ : N3)).av) none) none) none) none) none from by kernel_rfl).trans ?_
  simp only at h1 h2 h3
  rw [h1, h2, h3]
  rfl
theorem m96 : Meets Tryd.prog GLv 96 s96 := by
  refine meetsN mix0 glv G8 Tryd.func96 (by kernel_rfl) (by kernel_rfl) s96 fun args x h => ?_
  unfold s96 at h
  split at h
  · rename_i x_a x_b x_k y_a y_b y_k
    simp only [Option.some.injEq, Prod.mk.injEq] at h
    obtain ⟨hp, rfl⟩ := h
    exact ⟨_, _, by kernel_rfl, e96 x_a x_b x_k y_a y_b y_k hp⟩
  · cases h
abbrev Γ9 : List (Nat × Ctr) := (96, s96) :: Γ8
theorem G9 : Sound Tryd.prog GLv Γ9 := G8.cons m96

-- spec.l01Add
def s79 : Ctr := fun
  | [.agg [.val (.int .i64 x_a), .val (.int .i64 x_b), .val (.int .i64 x_k)], .agg [.val (.int .i64 y_a), .val (.int .i64 y_b), .val (.int .i64 y_k)]] => some (pk (⟨x_a, x_b, x_k⟩ : N3) (⟨y_a, y_b, y_k⟩ : N3), (addF (⟨x_a, x_b, x_k⟩ : N3) (⟨y_a, y_b, y_k⟩ : N3)).av)
  | _ => none

theorem r79_step0 (K n : Nat) (a b k c d l : Int) : runL Tryd.prog GLv Γ9 K [false, false, true, true, true] Tryd.f79 0 (n + 1) (stL Tryd.f79.ntmps [.non, .non, .own 76 [iv (a), iv (b), iv (k)], .own 76 [iv (c), iv (d), iv (l)], .own 76 [iv 0, iv 0, iv 0]]) = cond (decide (k < l)) (runL Tryd.prog GLv Γ9 K [false, false, true, true, true] Tryd.f79 0 n (stL Tryd.f79.ntmps [.non, .non, .own 76 [iv (wr (a * 2)), iv (wr (b * 2)), iv (wr (k + 1))], .own 76 [iv (c), iv (d), iv (l)], .own 76 [iv 0, iv 0, iv 0]])) (runL Tryd.prog GLv Γ9 K [false, false, true, true, true] Tryd.f79 1 K (stL Tryd.f79.ntmps [.non, .non, .own 76 [iv (a), iv (b), iv (k)], .own 76 [iv (c), iv (d), iv (l)], .own 76 [iv 0, iv 0, iv 0]])) := by kernel_rfl
theorem r79_step1 (K n : Nat) (a b k c d l : Int) : runL Tryd.prog GLv Γ9 K [false, false, true, true, true] Tryd.f79 1 (n + 1) (stL Tryd.f79.ntmps [.non, .non, .own 76 [iv (a), iv (b), iv (k)], .own 76 [iv (c), iv (d), iv (l)], .own 76 [iv 0, iv 0, iv 0]]) = cond (decide (l < k)) (runL Tryd.prog GLv Γ9 K [false, false, true, true, true] Tryd.f79 1 n (stL Tryd.f79.ntmps [.non, .non, .own 76 [iv (a), iv (b), iv (k)], .own 76 [iv (wr (c * 2)), iv (wr (d * 2)), iv (wr (l + 1))], .own 76 [iv 0, iv 0, iv 0]])) (cond (kB k) (some (red ⟨wr (a + c), wr (b + d), k⟩).av) none) := by kernel_rfl
theorem r79_run1 (K : Nat) : ∀ (m : Nat) (a b k c d l : Int) (n : Nat), kB k = true → 0 ≤ l → (k - l).toNat = m → m < n →
    runL Tryd.prog GLv Γ9 K [false, false, true, true, true] Tryd.f79 1 n (stL Tryd.f79.ntmps [.non, .non, .own 76 [iv (a), iv (b), iv (k)], .own 76 [iv (c), iv (d), iv (l)], .own 76 [iv 0, iv 0, iv 0]]) = some (red ⟨wr (a + dblI m c), wr (b + dblI m d), k⟩).av := by
  intro m
  induction m with
  | zero =>
    intro a b k c d l n hk hl h0 hn
    obtain ⟨n, rfl⟩ : ∃ n', n = n' + 1 := ⟨n - 1, by omega⟩
    have : decide (l < k) = false := by simp; omega
    rw [r79_step1, this, hk]
    rfl
  | succ m ih =>
    intro a b k c d l n hk hl h0 hn
    obtain ⟨n, rfl⟩ : ∃ n', n = n' + 1 := ⟨n - 1, by omega⟩
    have : decide (l < k) = true := by simp; omega
    have hk' := kB_iff.1 hk
    have hw : wr (l + 1) = l + 1 := wr_in (by omega) (by omega)
    rw [r79_step1, this, cond_true, hw, ih _ _ _ _ _ _ _ hk (by omega) (by omega) (by omega)]
    rfl
theorem r79_run0 (K : Nat) : ∀ (m : Nat) (a b k c d l : Int) (n : Nat), 0 ≤ k → kB l = true → (l - k).toNat = m → m < n →
    runL Tryd.prog GLv Γ9 K [false, false, true, true, true] Tryd.f79 0 n (stL Tryd.f79.ntmps [.non, .non, .own 76 [iv (a), iv (b), iv (k)], .own 76 [iv (c), iv (d), iv (l)], .own 76 [iv 0, iv 0, iv 0]]) = runL Tryd.prog GLv Γ9 K [false, false, true, true, true] Tryd.f79 1 K (stL Tryd.f79.ntmps [.non, .non, .own 76 [iv (dblI m a), iv (dblI m b), iv (k + (m : Int))], .own 76 [iv (c), iv (d), iv (l)], .own 76 [iv 0, iv 0, iv 0]]) := by
  intro m
  induction m with
  | zero =>
    intro a b k c d l n hk hl h0 hn
    obtain ⟨n, rfl⟩ : ∃ n', n = n' + 1 := ⟨n - 1, by omega⟩
    have : decide (k < l) = false := by simp; omega
    rw [r79_step0, this, cond_false]
    simp only [dblI, Int.ofNat_zero, Int.natCast_zero, Int.add_zero]
  | succ m ih =>
    intro a b k c d l n hk hl h0 hn
    obtain ⟨n, rfl⟩ : ∃ n', n = n' + 1 := ⟨n - 1, by omega⟩
    have : decide (k < l) = true := by simp; omega
    have hl' := kB_iff.1 hl
    have hw : wr (k + 1) = k + 1 := wr_in (by omega) (by omega)
    rw [r79_step0, this, cond_true, hw, ih _ _ _ _ _ _ _ (by omega) hl (by omega) (by omega)]
    have e : k + 1 + (m : Int) = k + ((m + 1 : Nat) : Int) := by omega
    rw [e]
    rfl
theorem e79 (x_a : Int) (x_b : Int) (x_k : Int) (y_a : Int) (y_b : Int) (y_k : Int) (hp : (pk (⟨x_a, x_b, x_k⟩ : N3) (⟨y_a, y_b, y_k⟩ : N3)) = true) : evN Tryd.prog GLv Γ9 (x_k.toNat + y_k.toNat + 1) [false, false, true, true, true]  Tryd.f79 [.agg [.val (.int .i64 x_a), .val (.int .i64 x_b), .val (.int .i64 x_k)], .agg [.val (.int .i64 y_a), .val (.int .i64 y_b), .val (.int .i64 y_k)]] = some ((addF (⟨x_a, x_b, x_k⟩ : N3) (⟨y_a, y_b, y_k⟩ : N3)).av) := by
  obtain ⟨h1, h2⟩ := pk_iff.1 hp
  simp only at h1 h2
  refine (show _ = runL Tryd.prog GLv Γ9 (x_k.toNat + y_k.toNat + 1) [false, false, true, true, true] Tryd.f79 0 (x_k.toNat + y_k.toNat + 1) (stL Tryd.f79.ntmps [.non, .non, .own 76 [iv (x_a), iv (x_b), iv (x_k)], .own 76 [iv (y_a), iv (y_b), iv (y_k)], .own 76 [iv 0, iv 0, iv 0]]) from by kernel_rfl).trans ?_
  rw [r79_run0 _ (y_k - x_k).toNat _ _ _ _ _ _ _ h1.1 (kB_iff.2 h2) rfl (by omega)]
  rw [r79_run1 _ (x_k - y_k).toNat _ _ _ _ _ _ _ (kB_iff.2 (by omega)) h2.1 (by omega) (by omega)]
  have := addR_dbl hp
  simp only at this
  rw [this]
  rfl
theorem m79 : Meets Tryd.prog GLv 79 s79 := by
  refine meetsN mix0 glv G9 Tryd.func79 (by kernel_rfl) (by kernel_rfl) s79 fun args x h => ?_
  unfold s79 at h
  split at h
  · rename_i x_a x_b x_k y_a y_b y_k
    simp only [Option.some.injEq, Prod.mk.injEq] at h
    obtain ⟨hp, rfl⟩ := h
    exact ⟨_, _, by kernel_rfl, e79 x_a x_b x_k y_a y_b y_k hp⟩
  · cases h
abbrev Γ10 : List (Nat × Ctr) := (79, s79) :: Γ9
theorem G10 : Sound Tryd.prog GLv Γ10 := G9.cons m79

-- (impl.Num).minus
def s85 : Ctr := fun
  | [.agg [.val (.int .i64 x_a), .val (.int .i64 x_b), .val (.int .i64 x_k)], .agg [.val (.int .i64 y_a), .val (.int .i64 y_b), .val (.int .i64 y_k)]] => some (pk (⟨x_a, x_b, x_k⟩ : N3) (⟨y_a, y_b, y_k⟩ : N3), (subF (⟨x_a, x_b, x_k⟩ : N3) (⟨y_a, y_b, y_k⟩ : N3)).av)
  | _ => none

theorem e85 (x_a : Int) (x_b : Int) (x_k : Int) (y_a : Int) (y_b : Int) (y_k : Int) (hp : (pk (⟨x_a, x_b, x_k⟩ : N3) (⟨y_a, y_b, y_k⟩ : N3)) = true) : evN Tryd.prog GLv Γ10 (0) []  Tryd.f85 [.agg [.val (.int .i64 x_a), .val (.int .i64 x_b), .val (.int .i64 x_k)], .agg [.val (.int .i64 y_a), .val (.int .i64 y_b), .val (.int .i64 y_k)]] = some ((subF (⟨x_a, x_b, x_k⟩ : N3) (⟨y_a, y_b, y_k⟩ : N3)).av) := by
  refine (show _ = cond (pk (⟨x_a, x_b, x_k⟩ : N3) (⟨y_a, y_b, y_k⟩ : N3)) (some (subF (⟨x_a, x_b, x_k⟩ : N3) (⟨y_a, y_b, y_k⟩ : N3)).av) none from by kernel_rfl).trans ?_
  rw [hp]
  rfl
theorem m85 : Meets Tryd.prog GLv 85 s85 := by
  refine meetsN mix0 glv G10 Tryd.func85 (by kernel_rfl) (by kernel_rfl) s85 fun args x h => ?_
  unfold s85 at h
  split at h
  · rename_i x_a x_b x_k y_a y_b y_k
    simp only [Option.some.injEq, Prod.mk.injEq] at h
    obtain ⟨hp, rfl⟩ := h
    exact ⟨_, _, by kernel_rfl, e85 x_a x_b x_k y_a y_b y_k hp⟩
  · cases h
abbrev Γ11 : List (Nat × Ctr) := (85, s85) :: Γ10
theorem G11 : Sound Tryd.prog GLv Γ11 := G10.cons m85

-- spec.l01Sub
def s98 : Ctr := fun
  | [.agg [.val (.int .i64 x_a), .val (.int .i64 x_b), .val (.int .i64 x_k)], .agg [.val (.int .i64 y_a), .val (.int .i64 y_b), .val (.int .i64 y_k)]] => some (pk (⟨x_a, x_b, x_k⟩ : N3) (⟨y_a, y_b, y_k⟩ : N3), (subF (⟨x_a, x_b, x_k⟩ : N3) (⟨y_a, y_b, y_k⟩ : N3)).av)
  | _ => none

theorem e98 (x_a : Int) (x_b : Int) (x_k : Int) (y_a : Int) (y_b : Int) (y_k : Int) (hp : (pk (⟨x_a, x_b, x_k⟩ : N3) (⟨y_a, y_b, y_k⟩ : N3)) = true) : evN Tryd.prog GLv Γ11 (0) []  Tryd.f98 [.agg [.val (.int .i64 x_a), .val (.int .i64 x_b), .val (.int .i64 x_k)], .agg [.val (.int .i64 y_a), .val (.int .i64 y_b), .val (.int .i64 y_k)]] = some ((subF (⟨x_a, x_b, x_k⟩ : N3) (⟨y_a, y_b, y_k⟩ : N3)).av) := by
  refine (show _ = cond (pk (⟨x_a, x_b, x_k⟩ : N3) (⟨y_a, y_b, y_k⟩ : N3)) (some (subF (⟨x_a, x_b, x_k⟩ : N3) (⟨y_a, y_b, y_k⟩ : N3)).av) none from by kernel_rfl).trans ?_
  rw [hp]
  rfl
theorem m98 : Meets Tryd.prog GLv 98 s98 := by
  refine meetsN mix0 glv G11 Tryd.func98 (by kernel_rfl) (by kernel_rfl) s98 fun args x h => ?_
  unfold s98 at h
  split at h
  · rename_i x_a x_b x_k y_a y_b y_k
    simp only [Option.some.injEq, Prod.mk.injEq] at h
    obtain ⟨hp, rfl⟩ := h
    exact ⟨_, _, by kernel_rfl, e98 x_a x_b x_k y_a y_b y_k hp⟩
  · cases h
abbrev Γ12 : List (Nat × Ctr) := (98, s98) :: Γ11
theorem G12 : Sound Tryd.prog GLv Γ12 := G11.cons m98

-- (impl.Num).half
def s101 : Ctr := fun
  | [.agg [.val (.int .i64 x_a), .val (.int .i64 x_b), .val (.int .i64 x_k)]] => some (kB (wr (x_k + 1)), (halfF (⟨x_a, x_b, x_k⟩ : N3)).av)
  | _ => none

theorem e101 (x_a : Int) (x_b : Int) (x_k : Int) (hp : (kB (wr (x_k + 1))) = true) : evN Tryd.prog GLv Γ12 (0) []  Tryd.f101 [.agg [.val (.int .i64 x_a), .val (.int .i64 x_b), .val (.int .i64 x_k)]] = some ((halfF (⟨x_a, x_b, x_k⟩ : N3)).av) := by
  refine (show _ = cond (kB (wr (x_k + 1))) (some (halfF (⟨x_a, x_b, x_k⟩ : N3)).av) none from by kernel_rfl).trans ?_
  rw [hp]
  rfl
theorem m101 : Meets Tryd.prog GLv 101 s101 := by
  refine meetsN mix0 glv G12 Tryd.func101 (by kernel_rfl) (by kernel_rfl) s101 fun args x h => ?_
  unfold s101 at h
  split at h
  · rename_i x_a x_b x_k
    simp only [Option.some.injEq, Prod.mk.injEq] at h
    obtain ⟨hp, rfl⟩ := h
    exact ⟨_, _, by kernel_rfl, e101 x_a x_b x_k hp⟩
  · cases h
abbrev Γ13 : List (Nat × Ctr) := (101, s101) :: Γ12
theorem G13 : Sound Tryd.prog GLv Γ13 := G12.cons m101

-- impl.ValidNum
def s45 : Ctr := fun
  | [.agg [.val (.int .i64 x_a), .val (.int .i64 x_b), .val (.int .i64 x_k)]] => some (true, bv (validB (⟨x_a, x_b, x_k⟩ : N3)))
  | _ => none

theorem e45 (x_a : Int) (x_b : Int) (x_k : Int) : evN Tryd.prog GLv Γ13 (0) []  Tryd.f45 [.agg [.val (.int .i64 x_a), .val (.int .i64 x_b), .val (.int .i64 x_k)]] = some (bv (validB (⟨x_a, x_b, x_k⟩ : N3))) := by
  refine (show _ = cond (inB x_a (-131072) 131072) ( cond (inB x_b (-131072) 131072) ( cond (inB x_k 0 10) ( cond (x_k == 0) ( some (bv (true)) ) ( cond (IntKind.i64.wrap ↑(BitVec.ofInt 64 x_a &&& BitVec.ofInt 64 1).toNat == 1) ( some (bv (true)) ) ( some (bv (IntKind.i64.wrap ↑(BitVec.ofInt 64 x_b &&& BitVec.ofInt 64 1).toNat == 1)) ) ) ) ( some (bv (false)) ) ) ( some (bv (false)) ) ) ( some (bv (false)) ) from by kernel_rfl).trans ?_
  simp only [validB]
  cases inB x_a (-131072) 131072 <;> cases inB x_b (-131072) 131072 <;> cases inB x_k 0 10 <;> cases (x_k == 0) <;> simp only [cond_true, cond_false, Bool.true_and, Bool.false_and, Bool.true_or, Bool.false_or, and_eq, tmod_ne, odd] <;> (first | rfl | (cases decide (x_a % 2 = 1) <;> rfl))
theorem m45 : Meets Tryd.prog GLv 45 s45 := by
  refine meetsN mix0 glv G13 Tryd.func45 (by kernel_rfl) (by kernel_rfl) s45 fun args x h => ?_
  unfold s45 at h
  split at h
  · rename_i x_a x_b x_k
    simp only [Option.some.injEq, Prod.mk.injEq] at h
    obtain ⟨hp, rfl⟩ := h
    exact ⟨_, _, by kernel_rfl, e45 x_a x_b x_k⟩
  · cases h
abbrev Γ14 : List (Nat × Ctr) := (45, s45) :: Γ13
theorem G14 : Sound Tryd.prog GLv Γ14 := G13.cons m45

-- spec.l01Ok
def s93 : Ctr := fun
  | [.agg [.val (.int .i64 x_a), .val (.int .i64 x_b), .val (.int .i64 x_k)]] => some (true, bv (validB (⟨x_a, x_b, x_k⟩ : N3)))
  | _ => none

theorem e93 (x_a : Int) (x_b : Int) (x_k : Int) : evN Tryd.prog GLv Γ14 (0) []  Tryd.f93 [.agg [.val (.int .i64 x_a), .val (.int .i64 x_b), .val (.int .i64 x_k)]] = some (bv (validB (⟨x_a, x_b, x_k⟩ : N3))) := by
  refine (show _ = cond (!inB x_a (-131072) 131072) ( some (bv (false)) ) ( cond (!inB x_b (-131072) 131072) ( some (bv (false)) ) ( cond (!inB x_k 0 10) ( some (bv (false)) ) ( cond (x_k == 0) ( some (bv (true)) ) ( cond (x_a.tmod 2 != 0) ( some (bv (true)) ) ( some (bv (x_b.tmod 2 != 0)) ) ) ) ) ) from by kernel_rfl).trans ?_
  simp only [validB]
  cases inB x_a (-131072) 131072 <;> cases inB x_b (-131072) 131072 <;> cases inB x_k 0 10 <;> cases (x_k == 0) <;> simp only [cond_true, cond_false, Bool.true_and, Bool.false_and, Bool.true_or, Bool.false_or, and_eq, tmod_ne, odd] <;> (first | rfl | (cases decide (x_a % 2 = 1) <;> rfl))
theorem m93 : Meets Tryd.prog GLv 93 s93 := by
  refine meetsN mix0 glv G14 Tryd.func93 (by kernel_rfl) (by kernel_rfl) s93 fun args x h => ?_
  unfold s93 at h
  split at h
  · rename_i x_a x_b x_k
    simp only [Option.some.injEq, Prod.mk.injEq] at h
    obtain ⟨hp, rfl⟩ := h
    exact ⟨_, _, by kernel_rfl, e93 x_a x_b x_k⟩
  · cases h
abbrev Γ15 : List (Nat × Ctr) := (93, s93) :: Γ14
theorem G15 : Sound Tryd.prog GLv Γ15 := G14.cons m93

-- (impl.Num).checked
def s87 : Ctr := fun
  | [.agg [.val (.int .i64 x_a), .val (.int .i64 x_b), .val (.int .i64 x_k)]] => some (kB x_k, .tup [(chk (⟨x_a, x_b, x_k⟩ : N3)).av, bv (chkB (⟨x_a, x_b, x_k⟩ : N3))])
  | _ => none

theorem e87 (x_a : Int) (x_b : Int) (x_k : Int) (hp : (kB x_k) = true) : evN Tryd.prog GLv Γ15 (0) []  Tryd.f87 [.agg [.val (.int .i64 x_a), .val (.int .i64 x_b), .val (.int .i64 x_k)]] = some (.tup [(chk (⟨x_a, x_b, x_k⟩ : N3)).av, bv (chkB (⟨x_a, x_b, x_k⟩ : N3))]) := by
  refine (show _ = cond (kB x_k) ( cond (!validB (N3.mk (red (N3.mk x_a x_b x_k)).1 (red (N3.mk x_a x_b x_k)).2 (red (N3.mk x_a x_b x_k)).3)) ( some ((.tup [(.agg [iv (0), iv (0), iv (0)]), bv (false)])) ) ( some ((.tup [(.agg [iv ((red (N3.mk x_a x_b x_k)).1), iv ((red (N3.mk x_a x_b x_k)).2), iv ((red (N3.mk x_a x_b x_k)).3)]), bv (true)])) ) ) ( none ) from by kernel_rfl).trans ?_
  rw [hp]
  simp only [chk, chkB, cond_true]
  cases validB (red (⟨x_a, x_b, x_k⟩ : N3)) <;> rfl
theorem m87 : Meets Tryd.prog GLv 87 s87 := by
  refine meetsN mix0 glv G15 Tryd.func87 (by kernel_rfl) (by kernel_rfl) s87 fun args x h => ?_
  unfold s87 at h
  split at h
  · rename_i x_a x_b x_k
    simp only [Option.some.injEq, Prod.mk.injEq] at h
    obtain ⟨hp, rfl⟩ := h
    exact ⟨_, _, by kernel_rfl, e87 x_a x_b x_k hp⟩
  · cases h
abbrev Γ16 : List (Nat × Ctr) := (87, s87) :: Γ15
theorem G16 : Sound Tryd.prog GLv Γ16 := G15.cons m87

-- spec.l01Num
def s71 : Ctr := fun
  | [.agg [.val (.int .i64 x_a), .val (.int .i64 x_b), .val (.int .i64 x_k)]] => some (kB x_k, .tup [(chk (⟨x_a, x_b, x_k⟩ : N3)).av, bv (chkB (⟨x_a, x_b, x_k⟩ : N3))])
  | _ => none

theorem e71 (x_a : Int) (x_b : Int) (x_k : Int) (hp : (kB x_k) = true) : evN Tryd.prog GLv Γ16 (0) []  Tryd.f71 [.agg [.val (.int .i64 x_a), .val (.int .i64 x_b), .val (.int .i64 x_k)]] = some (.tup [(chk (⟨x_a, x_b, x_k⟩ : N3)).av, bv (chkB (⟨x_a, x_b, x_k⟩ : N3))]) := by
  refine (show _ = cond (kB x_k) ( cond (!validB (N3.mk (red (N3.mk x_a x_b x_k)).1 (red (N3.mk x_a x_b x_k)).2 (red (N3.mk x_a x_b x_k)).3)) ( some ((.tup [(.agg [iv (0), iv (0), iv (0)]), bv (false)])) ) ( some ((.tup [(.agg [iv ((red (N3.mk x_a x_b x_k)).1), iv ((red (N3.mk x_a x_b x_k)).2), iv ((red (N3.mk x_a x_b x_k)).3)]), bv (true)])) ) ) ( none ) from by kernel_rfl).trans ?_
  rw [hp]
  simp only [chk, chkB, cond_true]
  cases validB (red (⟨x_a, x_b, x_k⟩ : N3)) <;> rfl
theorem m71 : Meets Tryd.prog GLv 71 s71 := by
  refine meetsN mix0 glv G16 Tryd.func71 (by kernel_rfl) (by kernel_rfl) s71 fun args x h => ?_
  unfold s71 at h
  split at h
  · rename_i x_a x_b x_k
    simp only [Option.some.injEq, Prod.mk.injEq] at h
    obtain ⟨hp, rfl⟩ := h
    exact ⟨_, _, by kernel_rfl, e71 x_a x_b x_k hp⟩
  · cases h
abbrev Γ17 : List (Nat × Ctr) := (71, s71) :: Γ16
theorem G17 : Sound Tryd.prog GLv Γ17 := G16.cons m71

-- spec.l01Of
def s80 : Ctr := fun
  | [.agg [.val (.int .i64 x_a), .val (.int .i64 x_b), .val (.int .i64 x_k)]] => some (true, (⟨x_a, x_b, x_k⟩ : N3).av)
  | _ => none

theorem e80 (x_a : Int) (x_b : Int) (x_k : Int) : evN Tryd.prog GLv Γ17 (0) []  Tryd.f80 [.agg [.val (.int .i64 x_a), .val (.int .i64 x_b), .val (.int .i64 x_k)]] = some ((⟨x_a, x_b, x_k⟩ : N3).av) := by
  kernel_rfl
theorem m80 : Meets Tryd.prog GLv 80 s80 := by
  refine meetsN mix0 glv G17 Tryd.func80 (by kernel_rfl) (by kernel_rfl) s80 fun args x h => ?_
  unfold s80 at h
  split at h
  · rename_i x_a x_b x_k
    simp only [Option.some.injEq, Prod.mk.injEq] at h
    obtain ⟨hp, rfl⟩ := h
    exact ⟨_, _, by kernel_rfl, e80 x_a x_b x_k⟩
  · cases h
abbrev Γ18 : List (Nat × Ctr) := (80, s80) :: Γ17
theorem G18 : Sound Tryd.prog GLv Γ18 := G17.cons m80

-- spec.l02Of
def s53 : Ctr := fun
  | [.agg [.val (.int .i64 p_xa), .val (.int .i64 p_xb), .val (.int .i64 p_xk), .val (.int .i64 p_ya), .val (.int .i64 p_yb), .val (.int .i64 p_yk)]] => some (true, (⟨(⟨p_xa, p_xb, p_xk⟩ : N3), (⟨p_ya, p_yb, p_yk⟩ : N3)⟩ : P2).av)
  | _ => none

theorem e53 (p_xa : Int) (p_xb : Int) (p_xk : Int) (p_ya : Int) (p_yb : Int) (p_yk : Int) : evN Tryd.prog GLv Γ18 (0) []  Tryd.f53 [.agg [.val (.int .i64 p_xa), .val (.int .i64 p_xb), .val (.int .i64 p_xk), .val (.int .i64 p_ya), .val (.int .i64 p_yb), .val (.int .i64 p_yk)]] = some ((⟨(⟨p_xa, p_xb, p_xk⟩ : N3), (⟨p_ya, p_yb, p_yk⟩ : N3)⟩ : P2).av) := by
  kernel_rfl
theorem m53 : Meets Tryd.prog GLv 53 s53 := by
  refine meetsN mix0 glv G18 Tryd.func53 (by kernel_rfl) (by kernel_rfl) s53 fun args x h => ?_
  unfold s53 at h
  split at h
  · rename_i p_xa p_xb p_xk p_ya p_yb p_yk
    simp only [Option.some.injEq, Prod.mk.injEq] at h
    obtain ⟨hp, rfl⟩ := h
    exact ⟨_, _, by kernel_rfl, e53 p_xa p_xb p_xk p_ya p_yb p_yk⟩
  · cases h
abbrev Γ19 : List (Nat × Ctr) := (53, s53) :: Γ18
theorem G19 : Sound Tryd.prog GLv Γ19 := G18.cons m53

-- impl.ValidPoint
def s41 : Ctr := fun
  | [.agg [.val (.int .i64 p_xa), .val (.int .i64 p_xb), .val (.int .i64 p_xk), .val (.int .i64 p_ya), .val (.int .i64 p_yb), .val (.int .i64 p_yk)]] => some (true, bv (valP (⟨(⟨p_xa, p_xb, p_xk⟩ : N3), (⟨p_ya, p_yb, p_yk⟩ : N3)⟩ : P2)))
  | _ => none

theorem e41 (p_xa : Int) (p_xb : Int) (p_xk : Int) (p_ya : Int) (p_yb : Int) (p_yk : Int) : evN Tryd.prog GLv Γ19 (0) []  Tryd.f41 [.agg [.val (.int .i64 p_xa), .val (.int .i64 p_xb), .val (.int .i64 p_xk), .val (.int .i64 p_ya), .val (.int .i64 p_yb), .val (.int .i64 p_yk)]] = some (bv (valP (⟨(⟨p_xa, p_xb, p_xk⟩ : N3), (⟨p_ya, p_yb, p_yk⟩ : N3)⟩ : P2))) := by
  refine (show _ = cond (validB (N3.mk p_xa p_xb p_xk)) ( some (bv (validB (N3.mk p_ya p_yb p_yk))) ) ( some (bv (false)) ) from by kernel_rfl).trans ?_
  simp only [valP]
  cases validB (⟨p_xa, p_xb, p_xk⟩ : N3) <;> rfl
theorem m41 : Meets Tryd.prog GLv 41 s41 := by
  refine meetsN mix0 glv G19 Tryd.func41 (by kernel_rfl) (by kernel_rfl) s41 fun args x h => ?_
  unfold s41 at h
  split at h
  · rename_i p_xa p_xb p_xk p_ya p_yb p_yk
    simp only [Option.some.injEq, Prod.mk.injEq] at h
    obtain ⟨hp, rfl⟩ := h
    exact ⟨_, _, by kernel_rfl, e41 p_xa p_xb p_xk p_ya p_yb p_yk⟩
  · cases h
abbrev Γ20 : List (Nat × Ctr) := (41, s41) :: Γ19
theorem G20 : Sound Tryd.prog GLv Γ20 := G19.cons m41

-- spec.l02Point
def s49 : Ctr := fun
  | [.agg [.val (.int .i64 p_xa), .val (.int .i64 p_xb), .val (.int .i64 p_xk), .val (.int .i64 p_ya), .val (.int .i64 p_yb), .val (.int .i64 p_yk)]] => some (true, bv (valP (⟨(⟨p_xa, p_xb, p_xk⟩ : N3), (⟨p_ya, p_yb, p_yk⟩ : N3)⟩ : P2)))
  | _ => none

theorem e49 (p_xa : Int) (p_xb : Int) (p_xk : Int) (p_ya : Int) (p_yb : Int) (p_yk : Int) : evN Tryd.prog GLv Γ20 (0) []  Tryd.f49 [.agg [.val (.int .i64 p_xa), .val (.int .i64 p_xb), .val (.int .i64 p_xk), .val (.int .i64 p_ya), .val (.int .i64 p_yb), .val (.int .i64 p_yk)]] = some (bv (valP (⟨(⟨p_xa, p_xb, p_xk⟩ : N3), (⟨p_ya, p_yb, p_yk⟩ : N3)⟩ : P2))) := by
  refine (show _ = cond (validB (N3.mk p_xa p_xb p_xk)) ( some (bv (validB (N3.mk p_ya p_yb p_yk))) ) ( some (bv (false)) ) from by kernel_rfl).trans ?_
  simp only [valP]
  cases validB (⟨p_xa, p_xb, p_xk⟩ : N3) <;> rfl
theorem m49 : Meets Tryd.prog GLv 49 s49 := by
  refine meetsN mix0 glv G20 Tryd.func49 (by kernel_rfl) (by kernel_rfl) s49 fun args x h => ?_
  unfold s49 at h
  split at h
  · rename_i p_xa p_xb p_xk p_ya p_yb p_yk
    simp only [Option.some.injEq, Prod.mk.injEq] at h
    obtain ⟨hp, rfl⟩ := h
    exact ⟨_, _, by kernel_rfl, e49 p_xa p_xb p_xk p_ya p_yb p_yk⟩
  · cases h
abbrev Γ21 : List (Nat × Ctr) := (49, s49) :: Γ20
theorem G21 : Sound Tryd.prog GLv Γ21 := G20.cons m49

-- (impl.Point).checked
def s40 : Ctr := fun
  | [.agg [.val (.int .i64 p_xa), .val (.int .i64 p_xb), .val (.int .i64 p_xk), .val (.int .i64 p_ya), .val (.int .i64 p_yb), .val (.int .i64 p_yk)]] => some (kB p_xk && kB p_yk, rP (valP (redP (⟨(⟨p_xa, p_xb, p_xk⟩ : N3), (⟨p_ya, p_yb, p_yk⟩ : N3)⟩ : P2))) (redP (⟨(⟨p_xa, p_xb, p_xk⟩ : N3), (⟨p_ya, p_yb, p_yk⟩ : N3)⟩ : P2)))
  | _ => none

theorem e40 (p_xa : Int) (p_xb : Int) (p_xk : Int) (p_ya : Int) (p_yb : Int) (p_yk : Int) (hp : (kB p_xk && kB p_yk) = true) : evN Tryd.prog GLv Γ21 (0) []  Tryd.f40 [.agg [.val (.int .i64 p_xa), .val (.int .i64 p_xb), .val (.int .i64 p_xk), .val (.int .i64 p_ya), .val (.int .i64 p_yb), .val (.int .i64 p_yk)]] = some (rP (valP (redP (⟨(⟨p_xa, p_xb, p_xk⟩ : N3), (⟨p_ya, p_yb, p_yk⟩ : N3)⟩ : P2))) (redP (⟨(⟨p_xa, p_xb, p_xk⟩ : N3), (⟨p_ya, p_yb, p_yk⟩ : N3)⟩ : P2))) := by
  refine (show _ = cond (kB p_xk) ( cond (kB p_yk) ( cond (!chkB (N3.mk p_xa p_xb p_xk)) ( some ((.tup [(.agg [iv (0), iv (0), iv (0), iv (0), iv (0), iv (0)]), bv (false)])) ) ( cond (!chkB (N3.mk p_ya p_yb p_yk)) ( some ((.tup [(.agg [iv (0), iv (0), iv (0), iv (0), iv (0), iv (0)]), bv (false)])) ) ( some ((.tup [(.agg [iv (bif chkB (N3.mk p_xa p_xb p_xk) then (red (N3.mk p_xa p_xb p_xk)).1 else 0), iv (bif chkB (N3.mk p_xa p_xb p_xk) then (red (N3.mk p_xa p_xb p_xk)).2 else 0), iv (bif chkB (N3.mk p_xa p_xb p_xk) then (red (N3.mk p_xa p_xb p_xk)).3 else 0), iv (bif chkB (N3.mk p_ya p_yb p_yk) then (red (N3.mk p_ya p_yb p_yk)).1 else 0), iv (bif chkB (N3.mk p_ya p_yb p_yk) then (red (N3.mk p_ya p_yb p_yk)).2 else 0), iv (bif chkB (N3.mk p_ya p_yb p_yk) then (red (N3.mk p_ya p_yb p_yk)).3 else 0)]), bv (true)])) ) ) ) ( none ) ) ( none ) from by kernel_rfl).trans ?_
  rw [Bool.and_eq_true] at hp
  rw [hp.1, hp.2]
  simp only [valP, redP, rP, chkB, cond_true]
  cases validB (red (⟨p_xa, p_xb, p_xk⟩ : N3)) <;> cases validB (red (⟨p_ya, p_yb, p_yk⟩ : N3)) <;> rfl
theorem m40 : Meets Tryd.prog GLv 40 s40 := by
  refine meetsN mix0 glv G21 Tryd.func40 (by kernel_rfl) (by kernel_rfl) s40 fun args x h => ?_
  unfold s40 at h
  split at h
  · rename_i p_xa p_xb p_xk p_ya p_yb p_yk
    simp only [Option.some.injEq, Prod.mk.injEq] at h
    obtain ⟨hp, rfl⟩ := h
    exact ⟨_, _, by kernel_rfl, e40 p_xa p_xb p_xk p_ya p_yb p_yk hp⟩
  · cases h
abbrev Γ22 : List (Nat × Ctr) := (40, s40) :: Γ21
theorem G22 : Sound Tryd.prog GLv Γ22 := G21.cons m40

-- spec.l02Num
def s50 : Ctr := fun
  | [.agg [.val (.int .i64 p_xa), .val (.int .i64 p_xb), .val (.int .i64 p_xk), .val (.int .i64 p_ya), .val (.int .i64 p_yb), .val (.int .i64 p_yk)]] => some (kB p_xk && kB p_yk, rP (valP (redP (⟨(⟨p_xa, p_xb, p_xk⟩ : N3), (⟨p_ya, p_yb, p_yk⟩ : N3)⟩ : P2))) (redP (⟨(⟨p_xa, p_xb, p_xk⟩ : N3), (⟨p_ya, p_yb, p_yk⟩ : N3)⟩ : P2)))
  | _ => none

theorem e50 (p_xa : Int) (p_xb : Int) (p_xk : Int) (p_ya : Int) (p_yb : Int) (p_yk : Int) (hp : (kB p_xk && kB p_yk) = true) : evN Tryd.prog GLv Γ22 (0) []  Tryd.f50 [.agg [.val (.int .i64 p_xa), .val (.int .i64 p_xb), .val (.int .i64 p_xk), .val (.int .i64 p_ya), .val (.int .i64 p_yb), .val (.int .i64 p_yk)]] = some (rP (valP (redP (⟨(⟨p_xa, p_xb, p_xk⟩ : N3), (⟨p_ya, p_yb, p_yk⟩ : N3)⟩ : P2))) (redP (⟨(⟨p_xa, p_xb, p_xk⟩ : N3), (⟨p_ya, p_yb, p_yk⟩ : N3)⟩ : P2))) := by
  refine (show _ = cond (kB p_xk) ( cond (kB p_yk) ( cond (!chkB (N3.mk p_xa p_xb p_xk)) ( some ((.tup [(.agg [iv (0), iv (0), iv (0), iv (0), iv (0), iv (0)]), bv (false)])) ) ( cond (!chkB (N3.mk p_ya p_yb p_yk)) ( some ((.tup [(.agg [iv (0), iv (0), iv (0), iv (0), iv (0), iv (0)]), bv (false)])) ) ( some ((.tup [(.agg [iv (bif chkB (N3.mk p_xa p_xb p_xk) then (red (N3.mk p_xa p_xb p_xk)).1 else 0), iv (bif chkB (N3.mk p_xa p_xb p_xk) then (red (N3.mk p_xa p_xb p_xk)).2 else 0), iv (bif chkB (N3.mk p_xa p_xb p_xk) then (red (N3.mk p_xa p_xb p_xk)).3 else 0), iv (bif chkB (N3.mk p_ya p_yb p_yk) then (red (N3.mk p_ya p_yb p_yk)).1 else 0), iv (bif chkB (N3.mk p_ya p_yb p_yk) then (red (N3.mk p_ya p_yb p_yk)).2 else 0), iv (bif chkB (N3.mk p_ya p_yb p_yk) then (red (N3.mk p_ya p_yb p_yk)).3 else 0)]), bv (true)])) ) ) ) ( none ) ) ( none ) from by kernel_rfl).trans ?_
  rw [Bool.and_eq_true] at hp
  rw [hp.1, hp.2]
  simp only [valP, redP, rP, chkB, cond_true]
  cases validB (red (⟨p_xa, p_xb, p_xk⟩ : N3)) <;> cases validB (red (⟨p_ya, p_yb, p_yk⟩ : N3)) <;> rfl
theorem m50 : Meets Tryd.prog GLv 50 s50 := by
  refine meetsN mix0 glv G22 Tryd.func50 (by kernel_rfl) (by kernel_rfl) s50 fun args x h => ?_
  unfold s50 at h
  split at h
  · rename_i p_xa p_xb p_xk p_ya p_yb p_yk
    simp only [Option.some.injEq, Prod.mk.injEq] at h
    obtain ⟨hp, rfl⟩ := h
    exact ⟨_, _, by kernel_rfl, e50 p_xa p_xb p_xk p_ya p_yb p_yk hp⟩
  · cases h
abbrev Γ23 : List (Nat × Ctr) := (50, s50) :: Γ22
theorem G23 : Sound Tryd.prog GLv Γ23 := G22.cons m50

-- (impl.Point).plus
def s94 : Ctr := fun
  | [.agg [.val (.int .i64 p_xa), .val (.int .i64 p_xb), .val (.int .i64 p_xk), .val (.int .i64 p_ya), .val (.int .i64 p_yb), .val (.int .i64 p_yk)], .agg [.val (.int .i64 q_xa), .val (.int .i64 q_xb), .val (.int .i64 q_xk), .val (.int .i64 q_ya), .val (.int .i64 q_yb), .val (.int .i64 q_yk)]] => some (pkP (⟨(⟨p_xa, p_xb, p_xk⟩ : N3), (⟨p_ya, p_yb, p_yk⟩ : N3)⟩ : P2) (⟨(⟨q_xa, q_xb, q_xk⟩ : N3), (⟨q_ya, q_yb, q_yk⟩ : N3)⟩ : P2), (addP (⟨(⟨p_xa, p_xb, p_xk⟩ : N3), (⟨p_ya, p_yb, p_yk⟩ : N3)⟩ : P2) (⟨(⟨q_xa, q_xb, q_xk⟩ : N3), (⟨q_ya, q_yb, q_yk⟩ : N3)⟩ : P2)).av)
  | _ => none

theorem e94 (p_xa : Int) (p_xb : Int) (p_xk : Int) (p_ya : Int) (p_yb : Int) (p_yk : Int) (q_xa : Int) (q_xb : Int) (q_xk : Int) (q_ya : Int) (q_yb : Int) (q_yk : Int) (hp : (pkP (⟨(⟨p_xa, p_xb, p_xk⟩ : N3), (⟨p_ya, p_yb, p_yk⟩ : N3)⟩ : P2) (⟨(⟨q_xa, q_xb, q_xk⟩ : N3), (⟨q_ya, q_yb, q_yk⟩ : N3)⟩ : P2)) = true) : evN Tryd.prog GLv Γ23 (0) []  Tryd.f94 [.agg [.val (.int .i64 p_xa), .val (.int .i64 p_xb), .val (.int .i64 p_xk), .val (.int .i64 p_ya), .val (.int .i64 p_yb), .val (.int .i64 p_yk)], .agg [.val (.int .i64 q_xa), .val (.int .i64 q_xb), .val (.int .i64 q_xk), .val (.int .i64 q_ya), .val (.int .i64 q_yb), .val (.int .i64 q_yk)]] = some ((addP (⟨(⟨p_xa, p_xb, p_xk⟩ : N3), (⟨p_ya, p_yb, p_yk⟩ : N3)⟩ : P2) (⟨(⟨q_xa, q_xb, q_xk⟩ : N3), (⟨q_ya, q_yb, q_yk⟩ : N3)⟩ : P2)).av) := by
  unfold pkP at hp
  rw [Bool.and_eq_true] at hp
  refine (show _ = cond (pk (⟨p_xa, p_xb, p_xk⟩ : N3) (⟨q_xa, q_xb, q_xk⟩ : N3)) (cond (pk (⟨p_ya, p_yb, p_yk⟩ : N3) (⟨q_ya, q_yb, q_yk⟩ : N3)) (some (addP (⟨(⟨p_xa, p_xb, p_xk⟩ : N3), (⟨p_ya, p_yb, p_yk⟩ : N3)⟩ : P2) (⟨(⟨q_xa, q_xb, q_xk⟩ : N3), (⟨q_ya, q_yb, q_yk⟩ : N3)⟩ : P2)).av) none) none from by kernel_rfl).trans ?_
  rw [hp.1, hp.2]
  rfl
theorem m94 : Meets Tryd.prog GLv 94 s94 := by
  refine meetsN mix0 glv G23 Tryd.func94 (by kernel_rfl) (by kernel_rfl) s94 fun args x h => ?_
  unfold s94 at h
  split at h
  · rename_i p_xa p_xb p_xk p_ya p_yb p_yk q_xa q_xb q_xk q_ya q_yb q_yk
    simp only [Option.some.injEq, Prod.mk.injEq] at h
    obtain ⟨hp, rfl⟩ := h
    exact ⟨_, _, by kernel_rfl, e94 p_xa p_xb p_xk p_ya p_yb p_yk q_xa q_xb q_xk q_ya q_yb q_yk hp⟩
  · cases h
abbrev Γ24 : List (Nat × Ctr) := (94, s94) :: Γ23
theorem G24 : Sound Tryd.prog GLv Γ24 := G23.cons m94

-- spec.l04Plus
def s126 : Ctr := fun
  | [.agg [.val (.int .i64 p_xa), .val (.int .i64 p_xb), .val (.int .i64 p_xk), .val (.int .i64 p_ya), .val (.int .i64 p_yb), .val (.int .i64 p_yk)], .agg [.val (.int .i64 q_xa), .val (.int .i64 q_xb), .val (.int .i64 q_xk), .val (.int .i64 q_ya), .val (.int .i64 q_yb), .val (.int .i64 q_yk)]] => some (pkP (⟨(⟨p_xa, p_xb, p_xk⟩ : N3), (⟨p_ya, p_yb, p_yk⟩ : N3)⟩ : P2) (⟨(⟨q_xa, q_xb, q_xk⟩ : N3), (⟨q_ya, q_yb, q_yk⟩ : N3)⟩ : P2), (addP (⟨(⟨p_xa, p_xb, p_xk⟩ : N3), (⟨p_ya, p_yb, p_yk⟩ : N3)⟩ : P2) (⟨(⟨q_xa, q_xb, q_xk⟩ : N3), (⟨q_ya, q_yb, q_yk⟩ : N3)⟩ : P2)).av)
  | _ => none

theorem e126 (p_xa : Int) (p_xb : Int) (p_xk : Int) (p_ya : Int) (p_yb : Int) (p_yk : Int) (q_xa : Int) (q_xb : Int) (q_xk : Int) (q_ya : Int) (q_yb : Int) (q_yk : Int) (hp : (pkP (⟨(⟨p_xa, p_xb, p_xk⟩ : N3), (⟨p_ya, p_yb, p_yk⟩ : N3)⟩ : P2) (⟨(⟨q_xa, q_xb, q_xk⟩ : N3), (⟨q_ya, q_yb, q_yk⟩ : N3)⟩ : P2)) = true) : evN Tryd.prog GLv Γ24 (0) []  Tryd.f126 [.agg [.val (.int .i64 p_xa), .val (.int .i64 p_xb), .val (.int .i64 p_xk), .val (.int .i64 p_ya), .val (.int .i64 p_yb), .val (.int .i64 p_yk)], .agg [.val (.int .i64 q_xa), .val (.int .i64 q_xb), .val (.int .i64 q_xk), .val (.int .i64 q_ya), .val (.int .i64 q_yb), .val (.int .i64 q_yk)]] = some ((addP (⟨(⟨p_xa, p_xb, p_xk⟩ : N3), (⟨p_ya, p_yb, p_yk⟩ : N3)⟩ : P2) (⟨(⟨q_xa, q_xb, q_xk⟩ : N3), (⟨q_ya, q_yb, q_yk⟩ : N3)⟩ : P2)).av) := by
  unfold pkP at hp
  rw [Bool.and_eq_true] at hp
  refine (show _ = cond (pk (⟨p_xa, p_xb, p_xk⟩ : N3) (⟨q_xa, q_xb, q_xk⟩ : N3)) (cond (pk (⟨p_ya, p_yb, p_yk⟩ : N3) (⟨q_ya, q_yb, q_yk⟩ : N3)) (some (addP (⟨(⟨p_xa, p_xb, p_xk⟩ : N3), (⟨p_ya, p_yb, p_yk⟩ : N3)⟩ : P2) (⟨(⟨q_xa, q_xb, q_xk⟩ : N3), (⟨q_ya, q_yb, q_yk⟩ : N3)⟩ : P2)).av) none) none from by kernel_rfl).trans ?_
  rw [hp.1, hp.2]
  rfl
theorem m126 : Meets Tryd.prog GLv 126 s126 := by
  refine meetsN mix0 glv G24 Tryd.func126 (by kernel_rfl) (by kernel_rfl) s126 fun args x h => ?_
  unfold s126 at h
  split at h
  · rename_i p_xa p_xb p_xk p_ya p_yb p_yk q_xa q_xb q_xk q_ya q_yb q_yk
    simp only [Option.some.injEq, Prod.mk.injEq] at h
    obtain ⟨hp, rfl⟩ := h
    exact ⟨_, _, by kernel_rfl, e126 p_xa p_xb p_xk p_ya p_yb p_yk q_xa q_xb q_xk q_ya q_yb q_yk hp⟩
  · cases h
abbrev Γ25 : List (Nat × Ctr) := (126, s126) :: Γ24
theorem G25 : Sound Tryd.prog GLv Γ25 := G24.cons m126

-- impl.middle
def s54 : Ctr := fun
  | [.agg [.val (.int .i64 p_xa), .val (.int .i64 p_xb), .val (.int .i64 p_xk), .val (.int .i64 p_ya), .val (.int .i64 p_yb), .val (.int .i64 p_yk)], .agg [.val (.int .i64 q_xa), .val (.int .i64 q_xb), .val (.int .i64 q_xk), .val (.int .i64 q_ya), .val (.int .i64 q_yb), .val (.int .i64 q_yk)]] => some (pkP (⟨(⟨p_xa, p_xb, p_xk⟩ : N3), (⟨p_ya, p_yb, p_yk⟩ : N3)⟩ : P2) (⟨(⟨q_xa, q_xb, q_xk⟩ : N3), (⟨q_ya, q_yb, q_yk⟩ : N3)⟩ : P2) && (kB (wr ((addF (⟨p_xa, p_xb, p_xk⟩ : N3) (⟨q_xa, q_xb, q_xk⟩ : N3)).k + 1)) && kB (wr ((addF (⟨p_ya, p_yb, p_yk⟩ : N3) (⟨q_ya, q_yb, q_yk⟩ : N3)).k + 1))), (midF (⟨(⟨p_xa, p_xb, p_xk⟩ : N3), (⟨p_ya, p_yb, p_yk⟩ : N3)⟩ : P2) (⟨(⟨q_xa, q_xb, q_xk⟩ : N3), (⟨q_ya, q_yb, q_yk⟩ : N3)⟩ : P2)).av)
  | _ => none

theorem e54 (p_xa : Int) (p_xb : Int) (p_xk : Int) (p_ya : Int) (p_yb : Int) (p_yk : Int) (q_xa : Int) (q_xb : Int) (q_xk : Int) (q_ya : Int) (q_yb : Int) (q_yk : Int) (hp : (pkP (⟨(⟨p_xa, p_xb, p_xk⟩ : N3), (⟨p_ya, p_yb, p_yk⟩ : N3)⟩ : P2) (⟨(⟨q_xa, q_xb, q_xk⟩ : N3), (⟨q_ya, q_yb, q_yk⟩ : N3)⟩ : P2) && (kB (wr ((addF (⟨p_xa, p_xb, p_xk⟩ : N3) (⟨q_xa, q_xb, q_xk⟩ : N3)).k + 1)) && kB (wr ((addF (⟨p_ya, p_yb, p_yk⟩ : N3) (⟨q_ya, q_yb, q_yk⟩ : N3)).k + 1)))) = true) : evN Tryd.prog GLv Γ25 (0) []  Tryd.f54 [.agg [.val (.int .i64 p_xa), .val (.int .i64 p_xb), .val (.int .i64 p_xk), .val (.int .i64 p_ya), .val (.int .i64 p_yb), .val (.int .i64 p_yk)], .agg [.val (.int .i64 q_xa), .val (.int .i64 q_xb), .val (.int .i64 q_xk), .val (.int .i64 q_ya), .val (.int .i64 q_yb), .val (.int .i64 q_yk)]] = some ((midF (⟨(⟨p_xa, p_xb, p_xk⟩ : N3), (⟨p_ya, p_yb, p_yk⟩ : N3)⟩ : P2) (⟨(⟨q_xa, q_xb, q_xk⟩ : N3), (⟨q_ya, q_yb, q_yk⟩ : N3)⟩ : P2)).av) := by
  simp only [Bool.and_eq_true] at hp
  obtain ⟨h1, h2, h3⟩ := hp
  refine (show _ = cond (pkP (⟨(⟨p_xa, p_xb, p_xk⟩ : N3), (⟨p_ya, p_yb, p_yk⟩ : N3)⟩ : P2) (⟨(⟨q_xa, q_xb, q_xk⟩ : N3), (⟨q_ya, q_yb, q_yk⟩ : N3)⟩ : P2)) (cond (kB (wr ((addF (⟨p_xa, p_xb, p_xk⟩ : N3) (⟨q_xa, q_xb, q_xk⟩ : N3)).k + 1))) (cond (kB (wr ((addF (⟨p_ya, p_yb, p_yk⟩ : N3) (⟨q_ya, q_yb, q_yk⟩ : N3)).k + 1))) (some (midF (⟨(⟨p_xa, p_xb, p_xk⟩ : N3), (⟨p_ya, p_yb, p_yk⟩ : N3)⟩ : P2) (⟨(⟨q_xa, q_xb, q_xk⟩ : N3), (⟨q_ya, q_yb, q_yk⟩ : N3)⟩ : P2)).av) none) none) none from by kernel_rfl).trans ?_
  rw [h1, h2, h3]
  rfl
theorem m54 : Meets Tryd.prog GLv 54 s54 := by
  refine meetsN mix0 glv G25 Tryd.func54 (by kernel_rfl) (by kernel_rfl) s54 fun args x h => ?_
  unfold s54 at h
  split at h
  · rename_i p_xa p_xb p_xk p_ya p_yb p_yk q_xa q_xb q_xk q_ya q_yb q_yk
    simp only [Option.some.injEq, Prod.mk.injEq] at h
    obtain ⟨hp, rfl⟩ := h
    exact ⟨_, _, by kernel_rfl, e54 p_xa p_xb p_xk p_ya p_yb p_yk q_xa q_xb q_xk q_ya q_yb q_yk hp⟩
  · cases h
abbrev Γ26 : List (Nat × Ctr) := (54, s54) :: Γ25
theorem G26 : Sound Tryd.prog GLv Γ26 := G25.cons m54

-- (impl.Num).over
def s86 : Ctr := fun
  | [.agg [.val (.int .i64 x_a), .val (.int .i64 x_b), .val (.int .i64 x_k)], .agg [.val (.int .i64 y_a), .val (.int .i64 y_b), .val (.int .i64 y_k)]] => some (dvP (⟨x_a, x_b, x_k⟩ : N3) (⟨y_a, y_b, y_k⟩ : N3), dvR (⟨x_a, x_b, x_k⟩ : N3) (⟨y_a, y_b, y_k⟩ : N3))
  | _ => none

theorem r86_step (K m : Nat) (n a b k : Int) : runL Tryd.prog GLv Γ26 K [false, false, false, false, true, true, true, true] Tryd.f86 0 (m + 1) (stL Tryd.f86.ntmps [.non, .non, .non, .non, .own 24 [iv 0, iv 0, iv 0], bv false, iv (n), .own 24 [iv (a), iv (b), iv (k)]]) = cond (and64 n 1 == 0) (runL Tryd.prog GLv Γ26 K [false, false, false, false, true, true, true, true] Tryd.f86 0 m (stL Tryd.f86.ntmps [.non, .non, .non, .non, .own 24 [iv 0, iv 0, iv 0], bv false, iv (wr (n.tdiv 2)), .own 24 [iv (a), iv (b), iv (wr (k + 1))]])) (implEnd n a b k) := by kernel_rfl
theorem r86_run (K : Nat) : ∀ (f : Nat) (n a b k : Int) (m : Nat), n ≠ 0 → n.natAbs < 2 ^ f → f ≤ 60 → -1000000 ≤ k → k + f ≤ 1000000 → f < m →
    runL Tryd.prog GLv Γ26 K [false, false, false, false, true, true, true, true] Tryd.f86 0 m (stL Tryd.f86.ntmps [.non, .non, .non, .non, .own 24 [iv 0, iv 0, iv 0], bv false, iv (n), .own 24 [iv (a), iv (b), iv (k)]]) = implEnd (oddL f n k).1 a b (oddL f n k).2 := by
  intro f
  induction f with
  | zero => intro n a b k m hn hf; simp at hf; omega
  | succ f ih =>
    intro n a b k m hn hf hf60 hk hk' hm
    obtain ⟨m, rfl⟩ : ∃ m', m = m' + 1 := ⟨m - 1, by omega⟩
    have h60 : (2 : Nat) ^ (f + 1) ≤ 2 ^ 60 := Nat.pow_le_pow_right (by decide) hf60
    have e60 : (2 : Nat) ^ 60 = 1152921504606846976 := by decide
    rw [r86_step]
    rw [and64_one, show ((n % 2 == 0) = !odd n) from odd_zero n]
    cases ho : odd n with
    | true =>
      have e : oddL (f + 1) n k = (n, k) := by unfold oddL; rw [ho]; rfl
      rw [e]
      rfl
    | false =>
      obtain ⟨h1, h2⟩ := tdiv_two ho
      have e : oddL (f + 1) n k = oddL f (n.tdiv 2) (k + 1) := by conv => lhs; unfold oddL
                                                                  rw [ho]; rfl
      rw [e, Bool.not_false, cond_true, wr_in (n := n.tdiv 2) (by omega) (by omega), wr_in (n := k + 1) (by omega) (by omega)]
      exact ih _ _ _ _ _ (by omega) (by rw [Nat.pow_succ] at hf; omega) (by omega) (by omega) (by omega) (by omega)
theorem e86 (x_a : Int) (x_b : Int) (x_k : Int) (y_a : Int) (y_b : Int) (y_k : Int) (hp : (dvP (⟨x_a, x_b, x_k⟩ : N3) (⟨y_a, y_b, y_k⟩ : N3)) = true) : evN Tryd.prog GLv Γ26 (70) [false, false, false, false, true, true, true, true]  Tryd.f86 [.agg [.val (.int .i64 x_a), .val (.int .i64 x_b), .val (.int .i64 x_k)], .agg [.val (.int .i64 y_a), .val (.int .i64 y_b), .val (.int .i64 y_k)]] = some (dvR (⟨x_a, x_b, x_k⟩ : N3) (⟨y_a, y_b, y_k⟩ : N3)) := by
  refine (show _ = cond (divN (⟨y_a, y_b, y_k⟩ : N3) == 0) (some dvNo) (cond (pkm (⟨x_a, x_b, x_k⟩ : N3) (divC (⟨y_a, y_b, y_k⟩ : N3))) (runL Tryd.prog GLv Γ26 70 [false, false, false, false, true, true, true, true] Tryd.f86 0 70 (stL Tryd.f86.ntmps [.non, .non, .non, .non, .own 24 [iv 0, iv 0, iv 0], bv false, iv (divN (⟨y_a, y_b, y_k⟩ : N3)), .own 24 [iv ((divT (⟨x_a, x_b, x_k⟩ : N3) (⟨y_a, y_b, y_k⟩ : N3)).a), iv ((divT (⟨x_a, x_b, x_k⟩ : N3) (⟨y_a, y_b, y_k⟩ : N3)).b), iv (wr ((divT (⟨x_a, x_b, x_k⟩ : N3) (⟨y_a, y_b, y_k⟩ : N3)).k - y_k))]])) none) from by kernel_rfl).trans ?_
  obtain ⟨ra, rb, rA, rB, rM, _, rN⟩ := raw_bd hp
  obtain ⟨⟨_, _, xk, xk'⟩, _, _, yk, yk'⟩ := dvP_iff.1 hp
  simp only at xk xk' yk yk'
  by_cases hz : divN (⟨y_a, y_b, y_k⟩ : N3) = 0
  · have hz' : (divN (⟨y_a, y_b, y_k⟩ : N3) == 0) = true := by simpa using hz
    rw [hz', cond_true]
    unfold dvR dvOk
    rw [hz']
    rfl
  have hz' : (divN (⟨y_a, y_b, y_k⟩ : N3) == 0) = false := by simpa using hz
  rw [hz', cond_false]
  obtain ⟨o1, o2, o3, _, _, _⟩ := dv_same hp hz
  have hb : (divN (⟨y_a, y_b, y_k⟩ : N3)).natAbs < 2 ^ 60 := by
    have : (2 : Nat) ^ 60 = 1152921504606846976 := by decide
    omega
  rw [pkm_div hp, cond_true, wr_in (n := (divT (⟨x_a, x_b, x_k⟩ : N3) (⟨y_a, y_b, y_k⟩ : N3)).k - y_k) (by omega) (by omega), r86_run 70 60 _ _ _ _ 70 hz hb (by decide) (by omega) (by omega) (by decide), oddL_shift]
  exact implEnd_eq hp hz
theorem m86 : Meets Tryd.prog GLv 86 s86 := by
  refine meetsN mix0 glv G26 Tryd.func86 (by kernel_rfl) (by kernel_rfl) s86 fun args x h => ?_
  unfold s86 at h
  split at h
  · rename_i x_a x_b x_k y_a y_b y_k
    simp only [Option.some.injEq, Prod.mk.injEq] at h
    obtain ⟨hp, rfl⟩ := h
    exact ⟨_, _, by kernel_rfl, e86 x_a x_b x_k y_a y_b y_k hp⟩
  · cases h
abbrev Γ27 : List (Nat × Ctr) := (86, s86) :: Γ26
theorem G27 : Sound Tryd.prog GLv Γ27 := G26.cons m86

-- spec.l01Div
def s97 : Ctr := fun
  | [.agg [.val (.int .i64 x_a), .val (.int .i64 x_b), .val (.int .i64 x_k)], .agg [.val (.int .i64 y_a), .val (.int .i64 y_b), .val (.int .i64 y_k)]] => some (dvP (⟨x_a, x_b, x_k⟩ : N3) (⟨y_a, y_b, y_k⟩ : N3), dvR (⟨x_a, x_b, x_k⟩ : N3) (⟨y_a, y_b, y_k⟩ : N3))
  | _ => none

theorem r97_step1 (K m : Nat) (n a b k c ya yb yk : Int) : runL Tryd.prog GLv Γ27 K [false, false, false, true, true, true, true, true, true] Tryd.f97 1 (m + 1) (stL Tryd.f97.ntmps [.non, .non, .non, .own 76 [iv ya, iv yb, iv yk], .own 76 [iv 0, iv 0, iv 0], bv false, iv (n), .own 76 [iv (a), iv (b), iv (k)], iv (c)]) = cond (decide (c > 0)) (cond (decide (k > 0)) (runL Tryd.prog GLv Γ27 K [false, false, false, true, true, true, true, true, true] Tryd.f97 1 m (stL Tryd.f97.ntmps [.non, .non, .non, .own 76 [iv ya, iv yb, iv yk], .own 76 [iv 0, iv 0, iv 0], bv false, iv (n), .own 76 [iv (a), iv (b), iv (wr (k - 1))], iv (wr (c - 1))])) (runL Tryd.prog GLv Γ27 K [false, false, false, true, true, true, true, true, true] Tryd.f97 1 m (stL Tryd.f97.ntmps [.non, .non, .non, .own 76 [iv ya, iv yb, iv yk], .own 76 [iv 0, iv 0, iv 0], bv false, iv (n), .own 76 [iv (wr (a * 2)), iv (wr (b * 2)), iv (k)], iv (wr (c - 1))]))) (cond (kB k) (some (dvYes (red ⟨a, b, k⟩))) none) := by kernel_rfl
theorem r97_run1 (K : Nat) (ya yb yk n : Int) : ∀ (c : Nat) (a b k : Int) (m : Nat), 0 ≤ k → k ≤ 1000000 → c ≤ 1000000 → c < m → runL Tryd.prog GLv Γ27 K [false, false, false, true, true, true, true, true, true] Tryd.f97 1 m (stL Tryd.f97.ntmps [.non, .non, .non, .own 76 [iv ya, iv yb, iv yk], .own 76 [iv 0, iv 0, iv 0], bv false, iv (n), .own 76 [iv (a), iv (b), iv (k)], iv ((c : Int))]) = some (dvYes (red (decF c a b k))) := by
  intro c
  induction c with
  | zero =>
    intro a b k m h0 h1 h2 h3
    obtain ⟨m, rfl⟩ : ∃ m', m = m' + 1 := ⟨m - 1, by omega⟩
    rw [r97_step1, show decide (((0 : Nat) : Int) > 0) = false from rfl, kB_iff.2 ⟨h0, by omega⟩]
    rfl
  | succ c ih =>
    intro a b k m h0 h1 h2 h3
    obtain ⟨m, rfl⟩ : ∃ m', m = m' + 1 := ⟨m - 1, by omega⟩
    have hc : decide (((c + 1 : Nat) : Int) > 0) = true := by rw [decide_eq_true_eq]; omega
    have hw : wr (((c + 1 : Nat) : Int) - 1) = (c : Int) := by rw [wr_in (by omega) (by omega)]; omega
    rw [r97_step1, hc, cond_true, hw]
    unfold decF
    by_cases hk : k > 0
    · rw [wr_in (n := k - 1) (by omega) (by omega), ih _ _ (k - 1) _ (by omega) (by omega) (by omega) (by omega)]
      simp only [hk, decide_true, cond_true, if_true]
    · rw [ih _ _ k _ (by omega) (by omega) (by omega) (by omega)]
      simp only [hk, decide_false, cond_false, if_false]
theorem r97_step (K m : Nat) (n a b k ya yb yk : Int) : runL Tryd.prog GLv Γ27 K [false, false, false, true, true, true, true, true, true] Tryd.f97 0 (m + 1) (stL Tryd.f97.ntmps [.non, .non, .non, .own 76 [iv ya, iv yb, iv yk], .own 76 [iv 0, iv 0, iv 0], bv false, iv (n), .own 76 [iv (a), iv (b), iv (k)]]) = cond (n.tmod 2 == 0) (runL Tryd.prog GLv Γ27 K [false, false, false, true, true, true, true, true, true] Tryd.f97 0 m (stL Tryd.f97.ntmps [.non, .non, .non, .own 76 [iv ya, iv yb, iv yk], .own 76 [iv 0, iv 0, iv 0], bv false, iv (wr (n.tdiv 2)), .own 76 [iv (a), iv (b), iv (wr (k + 1))]])) (specEnd (fun a b => runL Tryd.prog GLv Γ27 K [false, false, false, true, true, true, true, true, true] Tryd.f97 1 K (stL Tryd.f97.ntmps [.non, .non, .non, .own 76 [iv ya, iv yb, iv yk], .own 76 [iv 0, iv 0, iv 0], bv false, iv (n), .own 76 [iv (a), iv (b), iv (k)], iv (yk)])) n a b) := by kernel_rfl
theorem r97_run (K : Nat) (ya yb yk : Int) : ∀ (f : Nat) (n a b k : Int) (m : Nat), n ≠ 0 → n.natAbs < 2 ^ f → f ≤ 60 → -1000000 ≤ k → k + f ≤ 1000000 → f < m →
    runL Tryd.prog GLv Γ27 K [false, false, false, true, true, true, true, true, true] Tryd.f97 0 m (stL Tryd.f97.ntmps [.non, .non, .non, .own 76 [iv ya, iv yb, iv yk], .own 76 [iv 0, iv 0, iv 0], bv false, iv (n), .own 76 [iv (a), iv (b), iv (k)]]) = specEnd (fun a b => runL Tryd.prog GLv Γ27 K [false, false, false, true, true, true, true, true, true] Tryd.f97 1 K (stL Tryd.f97.ntmps [.non, .non, .non, .own 76 [iv ya, iv yb, iv yk], .own 76 [iv 0, iv 0, iv 0], bv false, iv ((oddL f n k).1), .own 76 [iv (a), iv (b), iv ((oddL f n k).2)], iv (yk)])) (oddL f n k).1 a b := by
  intro f
  induction f with
  | zero => intro n a b k m hn hf; simp at hf; omega
  | succ f ih =>
    intro n a b k m hn hf hf60 hk hk' hm
    obtain ⟨m, rfl⟩ : ∃ m', m = m' + 1 := ⟨m - 1, by omega⟩
    have h60 : (2 : Nat) ^ (f + 1) ≤ 2 ^ 60 := Nat.pow_le_pow_right (by decide) hf60
    have e60 : (2 : Nat) ^ 60 = 1152921504606846976 := by decide
    rw [r97_step]
    rw [tmod_zero]
    cases ho : odd n with
    | true =>
      have e : oddL (f + 1) n k = (n, k) := by unfold oddL; rw [ho]; rfl
      rw [e]
      rfl
    | false =>
      obtain ⟨h1, h2⟩ := tdiv_two ho
      have e : oddL (f + 1) n k = oddL f (n.tdiv 2) (k + 1) := by conv => lhs; unfold oddL
                                                                  rw [ho]; rfl
      rw [e, Bool.not_false, cond_true, wr_in (n := n.tdiv 2) (by omega) (by omega), wr_in (n := k + 1) (by omega) (by omega)]
      exact ih _ _ _ _ _ (by omega) (by rw [Nat.pow_succ] at hf; omega) (by omega) (by omega) (by omega) (by omega)
theorem e97 (x_a : Int) (x_b : Int) (x_k : Int) (y_a : Int) (y_b : Int) (y_k : Int) (hp : (dvP (⟨x_a, x_b, x_k⟩ : N3) (⟨y_a, y_b, y_k⟩ : N3)) = true) : evN Tryd.prog GLv Γ27 (70) [false, false, false, true, true, true, true, true, true]  Tryd.f97 [.agg [.val (.int .i64 x_a), .val (.int .i64 x_b), .val (.int .i64 x_k)], .agg [.val (.int .i64 y_a), .val (.int .i64 y_b), .val (.int .i64 y_k)]] = some (dvR (⟨x_a, x_b, x_k⟩ : N3) (⟨y_a, y_b, y_k⟩ : N3)) := by
  refine (show _ = cond (divN (⟨y_a, y_b, y_k⟩ : N3) == 0) (some dvNo) (runL Tryd.prog GLv Γ27 70 [false, false, false, true, true, true, true, true, true] Tryd.f97 0 70 (stL Tryd.f97.ntmps [.non, .non, .non, .own 76 [iv y_a, iv y_b, iv y_k], .own 76 [iv 0, iv 0, iv 0], bv false, iv (divN (⟨y_a, y_b, y_k⟩ : N3)), .own 76 [iv (wr (wr (x_a * y_a) - wr (wr (2 * x_b) * y_b))), iv (wr (wr (x_b * y_a) - wr (x_a * y_b))), iv (x_k)]])) from by kernel_rfl).trans ?_
  obtain ⟨ra, rb, rA, rB, rM, _, rN⟩ := raw_bd hp
  obtain ⟨⟨_, _, xk, xk'⟩, _, _, yk, yk'⟩ := dvP_iff.1 hp
  simp only at xk xk' yk yk'
  by_cases hz : divN (⟨y_a, y_b, y_k⟩ : N3) = 0
  · have hz' : (divN (⟨y_a, y_b, y_k⟩ : N3) == 0) = true := by simpa using hz
    rw [hz', cond_true]
    unfold dvR dvOk
    rw [hz']
    rfl
  have hz' : (divN (⟨y_a, y_b, y_k⟩ : N3) == 0) = false := by simpa using hz
  rw [hz', cond_false]
  obtain ⟨o1, o2, o3, _, _, _⟩ := dv_same hp hz
  have hb : (divN (⟨y_a, y_b, y_k⟩ : N3)).natAbs < 2 ^ 60 := by
    have : (2 : Nat) ^ 60 = 1152921504606846976 := by decide
    omega
  simp only at rA rB
  rw [rA, rB, r97_run 70 y_a y_b y_k 60 _ _ _ _ 70 hz hb (by decide) (by omega) (by omega) (by decide), oddL_shift]
  refine specEnd_eq hp hz _ fun a b => ?_
  have hy : y_k = ((y_k.toNat : Nat) : Int) := by omega
  conv => lhs; rw [hy]
  exact r97_run1 70 y_a y_b _ _ y_k.toNat a b _ 70 (by show 0 ≤ x_k + dvE (⟨y_a, y_b, y_k⟩ : N3); omega) (by show x_k + dvE (⟨y_a, y_b, y_k⟩ : N3) ≤ _; omega) (by omega) (by omega)
theorem m97 : Meets Tryd.prog GLv 97 s97 := by
  refine meetsN mix0 glv G27 Tryd.func97 (by kernel_rfl) (by kernel_rfl) s97 fun args x h => ?_
  unfold s97 at h
  split at h
  · rename_i x_a x_b x_k y_a y_b y_k
    simp only [Option.some.injEq, Prod.mk.injEq] at h
    obtain ⟨hp, rfl⟩ := h
    exact ⟨_, _, by kernel_rfl, e97 x_a x_b x_k y_a y_b y_k hp⟩
  · cases h
abbrev Γ28 : List (Nat × Ctr) := (97, s97) :: Γ27
theorem G28 : Sound Tryd.prog GLv Γ28 := G27.cons m97

-- impl.vector
def s91 : Ctr := fun
  | [.val (.int .i64 d)] => some (inB d 0 15, (vecP d).av)
  | _ => none

theorem e91 (d : Int) (hp : (inB d 0 15) = true) : evN Tryd.prog GLv Γ28 (0) []  Tryd.f91 [.val (.int .i64 d)] = some ((vecP d).av) := by
  rw [inB_iff] at hp
  have hh : d = 0 ∨ d = 1 ∨ d = 2 ∨ d = 3 ∨ d = 4 ∨ d = 5 ∨ d = 6 ∨ d = 7 ∨ d = 8 ∨ d = 9 ∨ d = 10 ∨ d = 11 ∨ d = 12 ∨ d = 13 ∨ d = 14 ∨ d = 15 := by omega
  clear hp
  rcases hh with rfl | rfl | rfl | rfl | rfl | rfl | rfl | rfl | rfl | rfl | rfl | rfl | rfl | rfl | rfl | rfl
  all_goals (show _ = _; kernel_rfl)
theorem m91 : Meets Tryd.prog GLv 91 s91 := by
  refine meetsN mix0 glv G28 Tryd.func91 (by kernel_rfl) (by kernel_rfl) s91 fun args x h => ?_
  unfold s91 at h
  split at h
  · rename_i d
    simp only [Option.some.injEq, Prod.mk.injEq] at h
    obtain ⟨hp, rfl⟩ := h
    exact ⟨_, _, by kernel_rfl, e91 d hp⟩
  · cases h
abbrev Γ29 : List (Nat × Ctr) := (91, s91) :: Γ28
theorem G29 : Sound Tryd.prog GLv Γ29 := G28.cons m91

-- spec.l02Mod
def s118 : Ctr := fun
  | [.val (.int .i64 d)] => some (inB d 0 15, .val (.int .i64 d))
  | _ => none

theorem e118 (d : Int) (hp : (inB d 0 15) = true) : evN Tryd.prog GLv Γ29 (0) []  Tryd.f118 [.val (.int .i64 d)] = some (.val (.int .i64 d)) := by
  rw [inB_iff] at hp
  have hh : d = 0 ∨ d = 1 ∨ d = 2 ∨ d = 3 ∨ d = 4 ∨ d = 5 ∨ d = 6 ∨ d = 7 ∨ d = 8 ∨ d = 9 ∨ d = 10 ∨ d = 11 ∨ d = 12 ∨ d = 13 ∨ d = 14 ∨ d = 15 := by omega
  clear hp
  rcases hh with rfl | rfl | rfl | rfl | rfl | rfl | rfl | rfl | rfl | rfl | rfl | rfl | rfl | rfl | rfl | rfl
  all_goals (show _ = _; kernel_rfl)
theorem m118 : Meets Tryd.prog GLv 118 s118 := by
  refine meetsN mix0 glv G29 Tryd.func118 (by kernel_rfl) (by kernel_rfl) s118 fun args x h => ?_
  unfold s118 at h
  split at h
  · rename_i d
    simp only [Option.some.injEq, Prod.mk.injEq] at h
    obtain ⟨hp, rfl⟩ := h
    exact ⟨_, _, by kernel_rfl, e118 d hp⟩
  · cases h
abbrev Γ30 : List (Nat × Ctr) := (118, s118) :: Γ29
theorem G30 : Sound Tryd.prog GLv Γ30 := G29.cons m118

-- spec.l02Vec
def s78 : Ctr := fun
  | [.val (.int .i64 d)] => some (inB d 0 15, (vecP d).av)
  | _ => none

theorem e78 (d : Int) (hp : (inB d 0 15) = true) : evN Tryd.prog GLv Γ30 (0) []  Tryd.f78 [.val (.int .i64 d)] = some ((vecP d).av) := by
  rw [inB_iff] at hp
  have hh : d = 0 ∨ d = 1 ∨ d = 2 ∨ d = 3 ∨ d = 4 ∨ d = 5 ∨ d = 6 ∨ d = 7 ∨ d = 8 ∨ d = 9 ∨ d = 10 ∨ d = 11 ∨ d = 12 ∨ d = 13 ∨ d = 14 ∨ d = 15 := by omega
  clear hp
  rcases hh with rfl | rfl | rfl | rfl | rfl | rfl | rfl | rfl | rfl | rfl | rfl | rfl | rfl | rfl | rfl | rfl
  all_goals (show _ = _; kernel_rfl)
theorem m78 : Meets Tryd.prog GLv 78 s78 := by
  refine meetsN mix0 glv G30 Tryd.func78 (by kernel_rfl) (by kernel_rfl) s78 fun args x h => ?_
  unfold s78 at h
  split at h
  · rename_i d
    simp only [Option.some.injEq, Prod.mk.injEq] at h
    obtain ⟨hp, rfl⟩ := h
    exact ⟨_, _, by kernel_rfl, e78 d hp⟩
  · cases h
abbrev Γ31 : List (Nat × Ctr) := (78, s78) :: Γ30
theorem G31 : Sound Tryd.prog GLv Γ31 := G30.cons m78

-- (impl.Line).normal
def s82 : Ctr := fun
  | [.agg [.val (.int .i64 l_d), .val (.int .i64 l_a), .val (.int .i64 l_b), .val (.int .i64 l_k)]] => some (inB (wr (l_d + 4)) 0 15, (nrm l_d).av)
  | _ => none

theorem e82 (l_d : Int) (l_a : Int) (l_b : Int) (l_k : Int) (hp : (inB (wr (l_d + 4)) 0 15) = true) : evN Tryd.prog GLv Γ31 (0) []  Tryd.f82 [.agg [.val (.int .i64 l_d), .val (.int .i64 l_a), .val (.int .i64 l_b), .val (.int .i64 l_k)]] = some ((nrm l_d).av) := by
  refine (show _ = cond (inB (wr (l_d + 4)) 0 15) (some (nrm l_d).av) none from by kernel_rfl).trans ?_
  rw [hp]
  rfl
theorem m82 : Meets Tryd.prog GLv 82 s82 := by
  refine meetsN mix0 glv G31 Tryd.func82 (by kernel_rfl) (by kernel_rfl) s82 fun args x h => ?_
  unfold s82 at h
  split at h
  · rename_i l_d l_a l_b l_k
    simp only [Option.some.injEq, Prod.mk.injEq] at h
    obtain ⟨hp, rfl⟩ := h
    exact ⟨_, _, by kernel_rfl, e82 l_d l_a l_b l_k hp⟩
  · cases h
abbrev Γ32 : List (Nat × Ctr) := (82, s82) :: Γ31
theorem G32 : Sound Tryd.prog GLv Γ32 := G31.cons m82

-- spec.l02LineOf
def s52 : Ctr := fun
  | [.agg [.val (.int .i64 l_d), .val (.int .i64 l_a), .val (.int .i64 l_b), .val (.int .i64 l_k)]] => some (true, .agg [.val (.int .i64 l_d), .val (.int .i64 l_a), .val (.int .i64 l_b), .val (.int .i64 l_k)])
  | _ => none

theorem e52 (l_d : Int) (l_a : Int) (l_b : Int) (l_k : Int) : evN Tryd.prog GLv Γ32 (0) []  Tryd.f52 [.agg [.val (.int .i64 l_d), .val (.int .i64 l_a), .val (.int .i64 l_b), .val (.int .i64 l_k)]] = some (.agg [.val (.int .i64 l_d), .val (.int .i64 l_a), .val (.int .i64 l_b), .val (.int .i64 l_k)]) := by
  kernel_rfl
theorem m52 : Meets Tryd.prog GLv 52 s52 := by
  refine meetsN mix0 glv G32 Tryd.func52 (by kernel_rfl) (by kernel_rfl) s52 fun args x h => ?_
  unfold s52 at h
  split at h
  · rename_i l_d l_a l_b l_k
    simp only [Option.some.injEq, Prod.mk.injEq] at h
    obtain ⟨hp, rfl⟩ := h
    exact ⟨_, _, by kernel_rfl, e52 l_d l_a l_b l_k⟩
  · cases h
abbrev Γ33 : List (Nat × Ctr) := (52, s52) :: Γ32
theorem G33 : Sound Tryd.prog GLv Γ33 := G32.cons m52

-- impl.ValidLine
def s38 : Ctr := fun
  | [.agg [.val (.int .i64 l_d), .val (.int .i64 l_a), .val (.int .i64 l_b), .val (.int .i64 l_k)]] => some (true, bv (inB l_d 0 7 && validB (⟨l_a, l_b, l_k⟩ : N3)))
  | _ => none

theorem e38 (l_d : Int) (l_a : Int) (l_b : Int) (l_k : Int) : evN Tryd.prog GLv Γ33 (0) []  Tryd.f38 [.agg [.val (.int .i64 l_d), .val (.int .i64 l_a), .val (.int .i64 l_b), .val (.int .i64 l_k)]] = some (bv (inB l_d 0 7 && validB (⟨l_a, l_b, l_k⟩ : N3))) := by
  refine (show _ = cond (inB l_d 0 7) ( some (bv (validB (N3.mk l_a l_b l_k))) ) ( some (bv (false)) ) from by kernel_rfl).trans ?_
  cases inB l_d 0 7 <;> rfl
theorem m38 : Meets Tryd.prog GLv 38 s38 := by
  refine meetsN mix0 glv G33 Tryd.func38 (by kernel_rfl) (by kernel_rfl) s38 fun args x h => ?_
  unfold s38 at h
  split at h
  · rename_i l_d l_a l_b l_k
    simp only [Option.some.injEq, Prod.mk.injEq] at h
    obtain ⟨hp, rfl⟩ := h
    exact ⟨_, _, by kernel_rfl, e38 l_d l_a l_b l_k⟩
  · cases h
abbrev Γ34 : List (Nat × Ctr) := (38, s38) :: Γ33
theorem G34 : Sound Tryd.prog GLv Γ34 := G33.cons m38

-- spec.l02Line
def s46 : Ctr := fun
  | [.agg [.val (.int .i64 l_d), .val (.int .i64 l_a), .val (.int .i64 l_b), .val (.int .i64 l_k)]] => some (true, bv (inB l_d 0 7 && validB (⟨l_a, l_b, l_k⟩ : N3)))
  | _ => none

theorem e46 (l_d : Int) (l_a : Int) (l_b : Int) (l_k : Int) : evN Tryd.prog GLv Γ34 (0) []  Tryd.f46 [.agg [.val (.int .i64 l_d), .val (.int .i64 l_a), .val (.int .i64 l_b), .val (.int .i64 l_k)]] = some (bv (inB l_d 0 7 && validB (⟨l_a, l_b, l_k⟩ : N3))) := by
  refine (show _ = cond (inB l_d 0 7) ( some (bv (validB (N3.mk l_a l_b l_k))) ) ( some (bv (false)) ) from by kernel_rfl).trans ?_
  cases inB l_d 0 7 <;> rfl
theorem m46 : Meets Tryd.prog GLv 46 s46 := by
  refine meetsN mix0 glv G34 Tryd.func46 (by kernel_rfl) (by kernel_rfl) s46 fun args x h => ?_
  unfold s46 at h
  split at h
  · rename_i l_d l_a l_b l_k
    simp only [Option.some.injEq, Prod.mk.injEq] at h
    obtain ⟨hp, rfl⟩ := h
    exact ⟨_, _, by kernel_rfl, e46 l_d l_a l_b l_k⟩
  · cases h
abbrev Γ35 : List (Nat × Ctr) := (46, s46) :: Γ34
theorem G35 : Sound Tryd.prog GLv Γ35 := G34.cons m46

-- (impl.Point).dot
def s88 : Ctr := fun
  | [.agg [.val (.int .i64 p_xa), .val (.int .i64 p_xb), .val (.int .i64 p_xk), .val (.int .i64 p_ya), .val (.int .i64 p_yb), .val (.int .i64 p_yk)], .agg [.val (.int .i64 q_xa), .val (.int .i64 q_xb), .val (.int .i64 q_xk), .val (.int .i64 q_ya), .val (.int .i64 q_yb), .val (.int .i64 q_yk)]] => some (pkD (⟨(⟨p_xa, p_xb, p_xk⟩ : N3), (⟨p_ya, p_yb, p_yk⟩ : N3)⟩ : P2) (⟨(⟨q_xa, q_xb, q_xk⟩ : N3), (⟨q_ya, q_yb, q_yk⟩ : N3)⟩ : P2), (dotF (⟨(⟨p_xa, p_xb, p_xk⟩ : N3), (⟨p_ya, p_yb, p_yk⟩ : N3)⟩ : P2) (⟨(⟨q_xa, q_xb, q_xk⟩ : N3), (⟨q_ya, q_yb, q_yk⟩ : N3)⟩ : P2)).av)
  | _ => none

theorem e88 (p_xa : Int) (p_xb : Int) (p_xk : Int) (p_ya : Int) (p_yb : Int) (p_yk : Int) (q_xa : Int) (q_xb : Int) (q_xk : Int) (q_ya : Int) (q_yb : Int) (q_yk : Int) (hp : (pkD (⟨(⟨p_xa, p_xb, p_xk⟩ : N3), (⟨p_ya, p_yb, p_yk⟩ : N3)⟩ : P2) (⟨(⟨q_xa, q_xb, q_xk⟩ : N3), (⟨q_ya, q_yb, q_yk⟩ : N3)⟩ : P2)) = true) : evN Tryd.prog GLv Γ35 (0) []  Tryd.f88 [.agg [.val (.int .i64 p_xa), .val (.int .i64 p_xb), .val (.int .i64 p_xk), .val (.int .i64 p_ya), .val (.int .i64 p_yb), .val (.int .i64 p_yk)], .agg [.val (.int .i64 q_xa), .val (.int .i64 q_xb), .val (.int .i64 q_xk), .val (.int .i64 q_ya), .val (.int .i64 q_yb), .val (.int .i64 q_yk)]] = some ((dotF (⟨(⟨p_xa, p_xb, p_xk⟩ : N3), (⟨p_ya, p_yb, p_yk⟩ : N3)⟩ : P2) (⟨(⟨q_xa, q_xb, q_xk⟩ : N3), (⟨q_ya, q_yb, q_yk⟩ : N3)⟩ : P2)).av) := by
  simp only [pkD, Bool.and_eq_true] at hp
  obtain ⟨h1, h2, h3⟩ := hp
  refine (show _ = cond (pkm (⟨p_xa, p_xb, p_xk⟩ : N3) (⟨q_xa, q_xb, q_xk⟩ : N3)) (cond (pkm (⟨p_ya, p_yb, p_yk⟩ : N3) (⟨q_ya, q_yb, q_yk⟩ : N3)) (cond (pk (mulF (⟨p_xa, p_xb, p_xk⟩ : N3) (⟨q_xa, q_xb, q_xk⟩ : N3)) (mulF (⟨p_ya, p_yb, p_yk⟩ : N3) (⟨q_ya, q_yb, q_yk⟩ : N3))) (some (dotF (⟨(⟨p_xa, p_xb, p_xk⟩ : N3), (⟨p_ya, p_yb, p_yk⟩ : N3)⟩ : P2) (⟨(⟨q_xa, q_xb, q_xk⟩ : N3), (⟨q_ya, q_yb, q_yk⟩ : N3)⟩ : P2)).av) none) none) none from by kernel_rfl).trans ?_
  rw [h1, h2, h3]
  rfl
theorem m88 : Meets Tryd.prog GLv 88 s88 := by
  refine meetsN mix0 glv G35 Tryd.func88 (by kernel_rfl) (by kernel_rfl) s88 fun args x h => ?_
  unfold s88 at h
  split at h
  · rename_i p_xa p_xb p_xk p_ya p_yb p_yk q_xa q_xb q_xk q_ya q_yb q_yk
    simp only [Option.some.injEq, Prod.mk.injEq] at h
    obtain ⟨hp, rfl⟩ := h
    exact ⟨_, _, by kernel_rfl, e88 p_xa p_xb p_xk p_ya p_yb p_yk q_xa q_xb q_xk q_ya q_yb q_yk hp⟩
  · cases h
abbrev Γ36 : List (Nat × Ctr) := (88, s88) :: Γ35
theorem G36 : Sound Tryd.prog GLv Γ36 := G35.cons m88

-- (impl.Point).cross
def s83 : Ctr := fun
  | [.agg [.val (.int .i64 p_xa), .val (.int .i64 p_xb), .val (.int .i64 p_xk), .val (.int .i64 p_ya), .val (.int .i64 p_yb), .val (.int .i64 p_yk)], .agg [.val (.int .i64 q_xa), .val (.int .i64 q_xb), .val (.int .i64 q_xk), .val (.int .i64 q_ya), .val (.int .i64 q_yb), .val (.int .i64 q_yk)]] => some (pkC (⟨(⟨p_xa, p_xb, p_xk⟩ : N3), (⟨p_ya, p_yb, p_yk⟩ : N3)⟩ : P2) (⟨(⟨q_xa, q_xb, q_xk⟩ : N3), (⟨q_ya, q_yb, q_yk⟩ : N3)⟩ : P2), (crsF (⟨(⟨p_xa, p_xb, p_xk⟩ : N3), (⟨p_ya, p_yb, p_yk⟩ : N3)⟩ : P2) (⟨(⟨q_xa, q_xb, q_xk⟩ : N3), (⟨q_ya, q_yb, q_yk⟩ : N3)⟩ : P2)).av)
  | _ => none

theorem e83 (p_xa : Int) (p_xb : Int) (p_xk : Int) (p_ya : Int) (p_yb : Int) (p_yk : Int) (q_xa : Int) (q_xb : Int) (q_xk : Int) (q_ya : Int) (q_yb : Int) (q_yk : Int) (hp : (pkC (⟨(⟨p_xa, p_xb, p_xk⟩ : N3), (⟨p_ya, p_yb, p_yk⟩ : N3)⟩ : P2) (⟨(⟨q_xa, q_xb, q_xk⟩ : N3), (⟨q_ya, q_yb, q_yk⟩ : N3)⟩ : P2)) = true) : evN Tryd.prog GLv Γ36 (0) []  Tryd.f83 [.agg [.val (.int .i64 p_xa), .val (.int .i64 p_xb), .val (.int .i64 p_xk), .val (.int .i64 p_ya), .val (.int .i64 p_yb), .val (.int .i64 p_yk)], .agg [.val (.int .i64 q_xa), .val (.int .i64 q_xb), .val (.int .i64 q_xk), .val (.int .i64 q_ya), .val (.int .i64 q_yb), .val (.int .i64 q_yk)]] = some ((crsF (⟨(⟨p_xa, p_xb, p_xk⟩ : N3), (⟨p_ya, p_yb, p_yk⟩ : N3)⟩ : P2) (⟨(⟨q_xa, q_xb, q_xk⟩ : N3), (⟨q_ya, q_yb, q_yk⟩ : N3)⟩ : P2)).av) := by
  simp only [pkC, Bool.and_eq_true] at hp
  obtain ⟨h1, h2, h3⟩ := hp
  refine (show _ = cond (pkm (⟨p_xa, p_xb, p_xk⟩ : N3) (⟨q_ya, q_yb, q_yk⟩ : N3)) (cond (pkm (⟨p_ya, p_yb, p_yk⟩ : N3) (⟨q_xa, q_xb, q_xk⟩ : N3)) (cond (pk (mulF (⟨p_xa, p_xb, p_xk⟩ : N3) (⟨q_ya, q_yb, q_yk⟩ : N3)) (mulF (⟨p_ya, p_yb, p_yk⟩ : N3) (⟨q_xa, q_xb, q_xk⟩ : N3))) (some (crsF (⟨(⟨p_xa, p_xb, p_xk⟩ : N3), (⟨p_ya, p_yb, p_yk⟩ : N3)⟩ : P2) (⟨(⟨q_xa, q_xb, q_xk⟩ : N3), (⟨q_ya, q_yb, q_yk⟩ : N3)⟩ : P2)).av) none) none) none from by kernel_rfl).trans ?_
  rw [h1, h2, h3]
  rfl
theorem m83 : Meets Tryd.prog GLv 83 s83 := by
  refine meetsN mix0 glv G36 Tryd.func83 (by kernel_rfl) (by kernel_rfl) s83 fun args x h => ?_
  unfold s83 at h
  split at h
  · rename_i p_xa p_xb p_xk p_ya p_yb p_yk q_xa q_xb q_xk q_ya q_yb q_yk
    simp only [Option.some.injEq, Prod.mk.injEq] at h
    obtain ⟨hp, rfl⟩ := h
    exact ⟨_, _, by kernel_rfl, e83 p_xa p_xb p_xk p_ya p_yb p_yk q_xa q_xb q_xk q_ya q_yb q_yk hp⟩
  · cases h
abbrev Γ37 : List (Nat × Ctr) := (83, s83) :: Γ36
theorem G37 : Sound Tryd.prog GLv Γ37 := G36.cons m83

-- (impl.Point).times
def s95 : Ctr := fun
  | [.agg [.val (.int .i64 p_xa), .val (.int .i64 p_xb), .val (.int .i64 p_xk), .val (.int .i64 p_ya), .val (.int .i64 p_yb), .val (.int .i64 p_yk)], .agg [.val (.int .i64 n_a), .val (.int .i64 n_b), .val (.int .i64 n_k)]] => some (pkT (⟨(⟨p_xa, p_xb, p_xk⟩ : N3), (⟨p_ya, p_yb, p_yk⟩ : N3)⟩ : P2) (⟨n_a, n_b, n_k⟩ : N3), (timesF (⟨(⟨p_xa, p_xb, p_xk⟩ : N3), (⟨p_ya, p_yb, p_yk⟩ : N3)⟩ : P2) (⟨n_a, n_b, n_k⟩ : N3)).av)
  | _ => none

theorem e95 (p_xa : Int) (p_xb : Int) (p_xk : Int) (p_ya : Int) (p_yb : Int) (p_yk : Int) (n_a : Int) (n_b : Int) (n_k : Int) (hp : (pkT (⟨(⟨p_xa, p_xb, p_xk⟩ : N3), (⟨p_ya, p_yb, p_yk⟩ : N3)⟩ : P2) (⟨n_a, n_b, n_k⟩ : N3)) = true) : evN Tryd.prog GLv Γ37 (0) []  Tryd.f95 [.agg [.val (.int .i64 p_xa), .val (.int .i64 p_xb), .val (.int .i64 p_xk), .val (.int .i64 p_ya), .val (.int .i64 p_yb), .val (.int .i64 p_yk)], .agg [.val (.int .i64 n_a), .val (.int .i64 n_b), .val (.int .i64 n_k)]] = some ((timesF (⟨(⟨p_xa, p_xb, p_xk⟩ : N3), (⟨p_ya, p_yb, p_yk⟩ : N3)⟩ : P2) (⟨n_a, n_b, n_k⟩ : N3)).av) := by
  simp only [pkT, Bool.and_eq_true] at hp
  obtain ⟨h1, h2⟩ := hp
  refine (show _ = cond (pkm (⟨p_xa, p_xb, p_xk⟩ : N3) (⟨n_a, n_b, n_k⟩ : N3)) (cond (pkm (⟨p_ya, p_yb, p_yk⟩ : N3) (⟨n_a, n_b, n_k⟩ : N3)) (some (timesF (⟨(⟨p_xa, p_xb, p_xk⟩ : N3), (⟨p_ya, p_yb, p_yk⟩ : N3)⟩ : P2) (⟨n_a, n_b, n_k⟩ : N3)).av) none) none from by kernel_rfl).trans ?_
  rw [h1, h2]
  rfl
theorem m95 : Meets Tryd.prog GLv 95 s95 := by
  refine meetsN mix0 glv G37 Tryd.func95 (by kernel_rfl) (by kernel_rfl) s95 fun args x h => ?_
  unfold s95 at h
  split at h
  · rename_i p_xa p_xb p_xk p_ya p_yb p_yk n_a n_b n_k
    simp only [Option.some.injEq, Prod.mk.injEq] at h
    obtain ⟨hp, rfl⟩ := h
    exact ⟨_, _, by kernel_rfl, e95 p_xa p_xb p_xk p_ya p_yb p_yk n_a n_b n_k hp⟩
  · cases h
abbrev Γ38 : List (Nat × Ctr) := (95, s95) :: Γ37
theorem G38 : Sound Tryd.prog GLv Γ38 := G37.cons m95

-- (impl.Point).minus
def s90 : Ctr := fun
  | [.agg [.val (.int .i64 p_xa), .val (.int .i64 p_xb), .val (.int .i64 p_xk), .val (.int .i64 p_ya), .val (.int .i64 p_yb), .val (.int .i64 p_yk)], .agg [.val (.int .i64 q_xa), .val (.int .i64 q_xb), .val (.int .i64 q_xk), .val (.int .i64 q_ya), .val (.int .i64 q_yb), .val (.int .i64 q_yk)]] => some (pkP (⟨(⟨p_xa, p_xb, p_xk⟩ : N3), (⟨p_ya, p_yb, p_yk⟩ : N3)⟩ : P2) (⟨(⟨q_xa, q_xb, q_xk⟩ : N3), (⟨q_ya, q_yb, q_yk⟩ : N3)⟩ : P2), (subP (⟨(⟨p_xa, p_xb, p_xk⟩ : N3), (⟨p_ya, p_yb, p_yk⟩ : N3)⟩ : P2) (⟨(⟨q_xa, q_xb, q_xk⟩ : N3), (⟨q_ya, q_yb, q_yk⟩ : N3)⟩ : P2)).av)
  | _ => none

theorem e90 (p_xa : Int) (p_xb : Int) (p_xk : Int) (p_ya : Int) (p_yb : Int) (p_yk : Int) (q_xa : Int) (q_xb : Int) (q_xk : Int) (q_ya : Int) (q_yb : Int) (q_yk : Int) (hp : (pkP (⟨(⟨p_xa, p_xb, p_xk⟩ : N3), (⟨p_ya, p_yb, p_yk⟩ : N3)⟩ : P2) (⟨(⟨q_xa, q_xb, q_xk⟩ : N3), (⟨q_ya, q_yb, q_yk⟩ : N3)⟩ : P2)) = true) : evN Tryd.prog GLv Γ38 (0) []  Tryd.f90 [.agg [.val (.int .i64 p_xa), .val (.int .i64 p_xb), .val (.int .i64 p_xk), .val (.int .i64 p_ya), .val (.int .i64 p_yb), .val (.int .i64 p_yk)], .agg [.val (.int .i64 q_xa), .val (.int .i64 q_xb), .val (.int .i64 q_xk), .val (.int .i64 q_ya), .val (.int .i64 q_yb), .val (.int .i64 q_yk)]] = some ((subP (⟨(⟨p_xa, p_xb, p_xk⟩ : N3), (⟨p_ya, p_yb, p_yk⟩ : N3)⟩ : P2) (⟨(⟨q_xa, q_xb, q_xk⟩ : N3), (⟨q_ya, q_yb, q_yk⟩ : N3)⟩ : P2)).av) := by
  simp only [pkP, Bool.and_eq_true] at hp
  obtain ⟨h1, h2⟩ := hp
  refine (show _ = cond (pk (⟨p_xa, p_xb, p_xk⟩ : N3) (⟨q_xa, q_xb, q_xk⟩ : N3)) (cond (pk (⟨p_ya, p_yb, p_yk⟩ : N3) (⟨q_ya, q_yb, q_yk⟩ : N3)) (some (subP (⟨(⟨p_xa, p_xb, p_xk⟩ : N3), (⟨p_ya, p_yb, p_yk⟩ : N3)⟩ : P2) (⟨(⟨q_xa, q_xb, q_xk⟩ : N3), (⟨q_ya, q_yb, q_yk⟩ : N3)⟩ : P2)).av) none) none from by kernel_rfl).trans ?_
  rw [h1, h2]
  rfl
theorem m90 : Meets Tryd.prog GLv 90 s90 := by
  refine meetsN mix0 glv G38 Tryd.func90 (by kernel_rfl) (by kernel_rfl) s90 fun args x h => ?_
  unfold s90 at h
  split at h
  · rename_i p_xa p_xb p_xk p_ya p_yb p_yk q_xa q_xb q_xk q_ya q_yb q_yk
    simp only [Option.some.injEq, Prod.mk.injEq] at h
    obtain ⟨hp, rfl⟩ := h
    exact ⟨_, _, by kernel_rfl, e90 p_xa p_xb p_xk p_ya p_yb p_yk q_xa q_xb q_xk q_ya q_yb q_yk hp⟩
  · cases h
abbrev Γ39 : List (Nat × Ctr) := (90, s90) :: Γ38
theorem G39 : Sound Tryd.prog GLv Γ39 := G38.cons m90

-- spec.l02Minus
def s75 : Ctr := fun
  | [.agg [.val (.int .i64 p_xa), .val (.int .i64 p_xb), .val (.int .i64 p_xk), .val (.int .i64 p_ya), .val (.int .i64 p_yb), .val (.int .i64 p_yk)], .agg [.val (.int .i64 q_xa), .val (.int .i64 q_xb), .val (.int .i64 q_xk), .val (.int .i64 q_ya), .val (.int .i64 q_yb), .val (.int .i64 q_yk)]] => some (pkP (⟨(⟨p_xa, p_xb, p_xk⟩ : N3), (⟨p_ya, p_yb, p_yk⟩ : N3)⟩ : P2) (⟨(⟨q_xa, q_xb, q_xk⟩ : N3), (⟨q_ya, q_yb, q_yk⟩ : N3)⟩ : P2), (subP (⟨(⟨p_xa, p_xb, p_xk⟩ : N3), (⟨p_ya, p_yb, p_yk⟩ : N3)⟩ : P2) (⟨(⟨q_xa, q_xb, q_xk⟩ : N3), (⟨q_ya, q_yb, q_yk⟩ : N3)⟩ : P2)).av)
  | _ => none

theorem e75 (p_xa : Int) (p_xb : Int) (p_xk : Int) (p_ya : Int) (p_yb : Int) (p_yk : Int) (q_xa : Int) (q_xb : Int) (q_xk : Int) (q_ya : Int) (q_yb : Int) (q_yk : Int) (hp : (pkP (⟨(⟨p_xa, p_xb, p_xk⟩ : N3), (⟨p_ya, p_yb, p_yk⟩ : N3)⟩ : P2) (⟨(⟨q_xa, q_xb, q_xk⟩ : N3), (⟨q_ya, q_yb, q_yk⟩ : N3)⟩ : P2)) = true) : evN Tryd.prog GLv Γ39 (0) []  Tryd.f75 [.agg [.val (.int .i64 p_xa), .val (.int .i64 p_xb), .val (.int .i64 p_xk), .val (.int .i64 p_ya), .val (.int .i64 p_yb), .val (.int .i64 p_yk)], .agg [.val (.int .i64 q_xa), .val (.int .i64 q_xb), .val (.int .i64 q_xk), .val (.int .i64 q_ya), .val (.int .i64 q_yb), .val (.int .i64 q_yk)]] = some ((subP (⟨(⟨p_xa, p_xb, p_xk⟩ : N3), (⟨p_ya, p_yb, p_yk⟩ : N3)⟩ : P2) (⟨(⟨q_xa, q_xb, q_xk⟩ : N3), (⟨q_ya, q_yb, q_yk⟩ : N3)⟩ : P2)).av) := by
  simp only [pkP, Bool.and_eq_true] at hp
  obtain ⟨h1, h2⟩ := hp
  refine (show _ = cond (pk (⟨p_xa, p_xb, p_xk⟩ : N3) (⟨q_xa, q_xb, q_xk⟩ : N3)) (cond (pk (⟨p_ya, p_yb, p_yk⟩ : N3) (⟨q_ya, q_yb, q_yk⟩ : N3)) (some (subP (⟨(⟨p_xa, p_xb, p_xk⟩ : N3), (⟨p_ya, p_yb, p_yk⟩ : N3)⟩ : P2) (⟨(⟨q_xa, q_xb, q_xk⟩ : N3), (⟨q_ya, q_yb, q_yk⟩ : N3)⟩ : P2)).av) none) none from by kernel_rfl).trans ?_
  rw [h1, h2]
  rfl
theorem m75 : Meets Tryd.prog GLv 75 s75 := by
  refine meetsN mix0 glv G39 Tryd.func75 (by kernel_rfl) (by kernel_rfl) s75 fun args x h => ?_
  unfold s75 at h
  split at h
  · rename_i p_xa p_xb p_xk p_ya p_yb p_yk q_xa q_xb q_xk q_ya q_yb q_yk
    simp only [Option.some.injEq, Prod.mk.injEq] at h
    obtain ⟨hp, rfl⟩ := h
    exact ⟨_, _, by kernel_rfl, e75 p_xa p_xb p_xk p_ya p_yb p_yk q_xa q_xb q_xk q_ya q_yb q_yk hp⟩
  · cases h
abbrev Γ40 : List (Nat × Ctr) := (75, s75) :: Γ39
theorem G40 : Sound Tryd.prog GLv Γ40 := G39.cons m75

-- spec.l02Dot
def s99 : Ctr := fun
  | [.val (.int .i64 d), .agg [.val (.int .i64 p_xa), .val (.int .i64 p_xb), .val (.int .i64 p_xk), .val (.int .i64 p_ya), .val (.int .i64 p_yb), .val (.int .i64 p_yk)]] => some (inB d 0 15 && pkD (vecP d) (⟨(⟨p_xa, p_xb, p_xk⟩ : N3), (⟨p_ya, p_yb, p_yk⟩ : N3)⟩ : P2), (dotF (vecP d) (⟨(⟨p_xa, p_xb, p_xk⟩ : N3), (⟨p_ya, p_yb, p_yk⟩ : N3)⟩ : P2)).av)
  | _ => none

theorem e99 (d : Int) (p_xa : Int) (p_xb : Int) (p_xk : Int) (p_ya : Int) (p_yb : Int) (p_yk : Int) (hp : (inB d 0 15 && pkD (vecP d) (⟨(⟨p_xa, p_xb, p_xk⟩ : N3), (⟨p_ya, p_yb, p_yk⟩ : N3)⟩ : P2)) = true) : evN Tryd.prog GLv Γ40 (0) []  Tryd.f99 [.val (.int .i64 d), .agg [.val (.int .i64 p_xa), .val (.int .i64 p_xb), .val (.int .i64 p_xk), .val (.int .i64 p_ya), .val (.int .i64 p_yb), .val (.int .i64 p_yk)]] = some ((dotF (vecP d) (⟨(⟨p_xa, p_xb, p_xk⟩ : N3), (⟨p_ya, p_yb, p_yk⟩ : N3)⟩ : P2)).av) := by
  simp only [pkD, Bool.and_eq_true] at hp
  obtain ⟨h0, h1, h2, h3⟩ := hp
  refine (show _ = cond (inB d 0 15) (cond (pkm (vecP d).x (⟨p_xa, p_xb, p_xk⟩ : N3)) (cond (pkm (vecP d).y (⟨p_ya, p_yb, p_yk⟩ : N3)) (cond (pk (mulF (vecP d).x (⟨p_xa, p_xb, p_xk⟩ : N3)) (mulF (vecP d).y (⟨p_ya, p_yb, p_yk⟩ : N3))) (some (dotF (vecP d) (⟨(⟨p_xa, p_xb, p_xk⟩ : N3), (⟨p_ya, p_yb, p_yk⟩ : N3)⟩ : P2)).av) none) none) none) none from by kernel_rfl).trans ?_
  rw [h0, h1, h2, h3]
  rfl
theorem m99 : Meets Tryd.prog GLv 99 s99 := by
  refine meetsN mix0 glv G40 Tryd.func99 (by kernel_rfl) (by kernel_rfl) s99 fun args x h => ?_
  unfold s99 at h
  split at h
  · rename_i d p_xa p_xb p_xk p_ya p_yb p_yk
    simp only [Option.some.injEq, Prod.mk.injEq] at h
    obtain ⟨hp, rfl⟩ := h
    exact ⟨_, _, by kernel_rfl, e99 d p_xa p_xb p_xk p_ya p_yb p_yk hp⟩
  · cases h
abbrev Γ41 : List (Nat × Ctr) := (99, s99) :: Γ40
theorem G41 : Sound Tryd.prog GLv Γ41 := G40.cons m99

-- spec.l02Square
def s100 : Ctr := fun
  | [.val (.int .i64 d)] => some (inB d 0 15 && pkD (vecP d) (vecP d), (dotF (vecP d) (vecP d)).av)
  | _ => none

theorem e100 (d : Int) (hp : (inB d 0 15 && pkD (vecP d) (vecP d)) = true) : evN Tryd.prog GLv Γ41 (0) []  Tryd.f100 [.val (.int .i64 d)] = some ((dotF (vecP d) (vecP d)).av) := by
  simp only [pkD, Bool.and_eq_true] at hp
  obtain ⟨h0, h1, h2, h3⟩ := hp
  refine (show _ = cond (inB d 0 15) (cond (pkm (vecP d).x (vecP d).x) (cond (pkm (vecP d).y (vecP d).y) (cond (pk (mulF (vecP d).x (vecP d).x) (mulF (vecP d).y (vecP d).y)) (some (dotF (vecP d) (vecP d)).av) none) none) none) none from by kernel_rfl).trans ?_
  rw [h0, h1, h2, h3]
  rfl
theorem m100 : Meets Tryd.prog GLv 100 s100 := by
  refine meetsN mix0 glv G41 Tryd.func100 (by kernel_rfl) (by kernel_rfl) s100 fun args x h => ?_
  unfold s100 at h
  split at h
  · rename_i d
    simp only [Option.some.injEq, Prod.mk.injEq] at h
    obtain ⟨hp, rfl⟩ := h
    exact ⟨_, _, by kernel_rfl, e100 d hp⟩
  · cases h
abbrev Γ42 : List (Nat × Ctr) := (100, s100) :: Γ41
theorem G42 : Sound Tryd.prog GLv Γ42 := G41.cons m100

-- (impl.Line).reflect
def s48 : Ctr := fun
  | [.agg [.val (.int .i64 l_d), .val (.int .i64 l_a), .val (.int .i64 l_b), .val (.int .i64 l_k)], .agg [.val (.int .i64 p_xa), .val (.int .i64 p_xb), .val (.int .i64 p_xk), .val (.int .i64 p_ya), .val (.int .i64 p_yb), .val (.int .i64 p_yk)]] => some (inB l_d 0 7 && (validB (⟨l_a, l_b, l_k⟩ : N3) && valP (⟨(⟨p_xa, p_xb, p_xk⟩ : N3), (⟨p_ya, p_yb, p_yk⟩ : N3)⟩ : P2)), (rflI (nrm l_d) (⟨l_a, l_b, l_k⟩ : N3) (⟨(⟨p_xa, p_xb, p_xk⟩ : N3), (⟨p_ya, p_yb, p_yk⟩ : N3)⟩ : P2)).av)
  | _ => none

theorem e48 (l_d : Int) (l_a : Int) (l_b : Int) (l_k : Int) (p_xa : Int) (p_xb : Int) (p_xk : Int) (p_ya : Int) (p_yb : Int) (p_yk : Int) (hp : (inB l_d 0 7 && (validB (⟨l_a, l_b, l_k⟩ : N3) && valP (⟨(⟨p_xa, p_xb, p_xk⟩ : N3), (⟨p_ya, p_yb, p_yk⟩ : N3)⟩ : P2))) = true) : evN Tryd.prog GLv Γ42 (0) []  Tryd.f48 [.agg [.val (.int .i64 l_d), .val (.int .i64 l_a), .val (.int .i64 l_b), .val (.int .i64 l_k)], .agg [.val (.int .i64 p_xa), .val (.int .i64 p_xb), .val (.int .i64 p_xk), .val (.int .i64 p_ya), .val (.int .i64 p_yb), .val (.int .i64 p_yk)]] = some ((rflI (nrm l_d) (⟨l_a, l_b, l_k⟩ : N3) (⟨(⟨p_xa, p_xb, p_xk⟩ : N3), (⟨p_ya, p_yb, p_yk⟩ : N3)⟩ : P2)).av) := by
  simp only [Bool.and_eq_true] at hp
  obtain ⟨h1, h2, h3⟩ := hp
  obtain ⟨E, hn⟩ := nrm_all l_d h1
  obtain ⟨a1, a2, a3, a4, a5, a6, a7, a8, a9, _⟩ := refl_same hn h2 h3
  have h15 := nrm_in h1
  obtain ⟨b1, b2, b3⟩ := a7 _ rfl
  refine (show _ = cond (inB (wr (l_d + 4)) 0 15) (cond (pkD (nrm l_d) (⟨(⟨p_xa, p_xb, p_xk⟩ : N3), (⟨p_ya, p_yb, p_yk⟩ : N3)⟩ : P2)) (cond (pk (⟨l_a, l_b, l_k⟩ : N3) (dotF (nrm l_d) (⟨(⟨p_xa, p_xb, p_xk⟩ : N3), (⟨p_ya, p_yb, p_yk⟩ : N3)⟩ : P2))) (cond (pkD (nrm l_d) (nrm l_d)) (cond (dvP (subF (⟨l_a, l_b, l_k⟩ : N3) (dotF (nrm l_d) (⟨(⟨p_xa, p_xb, p_xk⟩ : N3), (⟨p_ya, p_yb, p_yk⟩ : N3)⟩ : P2))) (dotF (nrm l_d) (nrm l_d))) (cond (pk (dvF (subF (⟨l_a, l_b, l_k⟩ : N3) (dotF (nrm l_d) (⟨(⟨p_xa, p_xb, p_xk⟩ : N3), (⟨p_ya, p_yb, p_yk⟩ : N3)⟩ : P2))) (dotF (nrm l_d) (nrm l_d))) (dvF (subF (⟨l_a, l_b, l_k⟩ : N3) (dotF (nrm l_d) (⟨(⟨p_xa, p_xb, p_xk⟩ : N3), (⟨p_ya, p_yb, p_yk⟩ : N3)⟩ : P2))) (dotF (nrm l_d) (nrm l_d)))) (cond (pkT (nrm l_d) (addF (dvF (subF (⟨l_a, l_b, l_k⟩ : N3) (dotF (nrm l_d) (⟨(⟨p_xa, p_xb, p_xk⟩ : N3), (⟨p_ya, p_yb, p_yk⟩ : N3)⟩ : P2))) (dotF (nrm l_d) (nrm l_d))) (dvF (subF (⟨l_a, l_b, l_k⟩ : N3) (dotF (nrm l_d) (⟨(⟨p_xa, p_xb, p_xk⟩ : N3), (⟨p_ya, p_yb, p_yk⟩ : N3)⟩ : P2))) (dotF (nrm l_d) (nrm l_d))))) (cond (pkP (⟨(⟨p_xa, p_xb, p_xk⟩ : N3), (⟨p_ya, p_yb, p_yk⟩ : N3)⟩ : P2) (timesF (nrm l_d) (addF (dvF (subF (⟨l_a, l_b, l_k⟩ : N3) (dotF (nrm l_d) (⟨(⟨p_xa, p_xb, p_xk⟩ : N3), (⟨p_ya, p_yb, p_yk⟩ : N3)⟩ : P2))) (dotF (nrm l_d) (nrm l_d))) (dvF (subF (⟨l_a, l_b, l_k⟩ : N3) (dotF (nrm l_d) (⟨(⟨p_xa, p_xb, p_xk⟩ : N3), (⟨p_ya, p_yb, p_yk⟩ : N3)⟩ : P2))) (dotF (nrm l_d) (nrm l_d)))))) (some (rflI (nrm l_d) (⟨l_a, l_b, l_k⟩ : N3) (⟨(⟨p_xa, p_xb, p_xk⟩ : N3), (⟨p_ya, p_yb, p_yk⟩ : N3)⟩ : P2)).av) none) none) none) none) none) none) none) none from by kernel_rfl).trans ?_
  rw [h15, a1, a3, a2, a5, b1, b2, b3]
  rfl
theorem m48 : Meets Tryd.prog GLv 48 s48 := by
  refine meetsN mix0 glv G42 Tryd.func48 (by kernel_rfl) (by kernel_rfl) s48 fun args x h => ?_
  unfold s48 at h
  split at h
  · rename_i l_d l_a l_b l_k p_xa p_xb p_xk p_ya p_yb p_yk
    simp only [Option.some.injEq, Prod.mk.injEq] at h
    obtain ⟨hp, rfl⟩ := h
    exact ⟨_, _, by kernel_rfl, e48 l_d l_a l_b l_k p_xa p_xb p_xk p_ya p_yb p_yk hp⟩
  · cases h
abbrev Γ43 : List (Nat × Ctr) := (48, s48) :: Γ42
theorem G43 : Sound Tryd.prog GLv Γ43 := G42.cons m48

-- spec.l02Reflect
def s51 : Ctr := fun
  | [.agg [.val (.int .i64 l_d), .val (.int .i64 l_a), .val (.int .i64 l_b), .val (.int .i64 l_k)], .agg [.val (.int .i64 p_xa), .val (.int .i64 p_xb), .val (.int .i64 p_xk), .val (.int .i64 p_ya), .val (.int .i64 p_yb), .val (.int .i64 p_yk)]] => some (inB l_d 0 7 && (validB (⟨l_a, l_b, l_k⟩ : N3) && valP (⟨(⟨p_xa, p_xb, p_xk⟩ : N3), (⟨p_ya, p_yb, p_yk⟩ : N3)⟩ : P2)), (rflI (nrm l_d) (⟨l_a, l_b, l_k⟩ : N3) (⟨(⟨p_xa, p_xb, p_xk⟩ : N3), (⟨p_ya, p_yb, p_yk⟩ : N3)⟩ : P2)).av)
  | _ => none

theorem e51 (l_d : Int) (l_a : Int) (l_b : Int) (l_k : Int) (p_xa : Int) (p_xb : Int) (p_xk : Int) (p_ya : Int) (p_yb : Int) (p_yk : Int) (hp : (inB l_d 0 7 && (validB (⟨l_a, l_b, l_k⟩ : N3) && valP (⟨(⟨p_xa, p_xb, p_xk⟩ : N3), (⟨p_ya, p_yb, p_yk⟩ : N3)⟩ : P2))) = true) : evN Tryd.prog GLv Γ43 (0) []  Tryd.f51 [.agg [.val (.int .i64 l_d), .val (.int .i64 l_a), .val (.int .i64 l_b), .val (.int .i64 l_k)], .agg [.val (.int .i64 p_xa), .val (.int .i64 p_xb), .val (.int .i64 p_xk), .val (.int .i64 p_ya), .val (.int .i64 p_yb), .val (.int .i64 p_yk)]] = some ((rflI (nrm l_d) (⟨l_a, l_b, l_k⟩ : N3) (⟨(⟨p_xa, p_xb, p_xk⟩ : N3), (⟨p_ya, p_yb, p_yk⟩ : N3)⟩ : P2)).av) := by
  simp only [Bool.and_eq_true] at hp
  obtain ⟨h1, h2, h3⟩ := hp
  obtain ⟨E, hn⟩ := nrm_all l_d h1
  obtain ⟨a1, a2, a3, a4, a5, a6, a7, a8, a9, _⟩ := refl_same hn h2 h3
  have h15 := nrm_in h1
  obtain ⟨b1, b2, b3, b4, b5⟩ := a8 _ rfl
  rw [a9]
  refine (show _ = cond (inB (wr (l_d + 4)) 0 15) (cond (inB (wr (l_d + 4)) 0 15 && pkD (nrm l_d) (⟨(⟨p_xa, p_xb, p_xk⟩ : N3), (⟨p_ya, p_yb, p_yk⟩ : N3)⟩ : P2)) (cond (pk (dotF (nrm l_d) (⟨(⟨p_xa, p_xb, p_xk⟩ : N3), (⟨p_ya, p_yb, p_yk⟩ : N3)⟩ : P2)) (⟨l_a, l_b, l_k⟩ : N3)) (cond (inB (wr (l_d + 4)) 0 15 && pkD (nrm l_d) (nrm l_d)) (cond (dvP (subF (dotF (nrm l_d) (⟨(⟨p_xa, p_xb, p_xk⟩ : N3), (⟨p_ya, p_yb, p_yk⟩ : N3)⟩ : P2)) (⟨l_a, l_b, l_k⟩ : N3)) (dotF (nrm l_d) (nrm l_d))) (cond (pk (dvF (subF (dotF (nrm l_d) (⟨(⟨p_xa, p_xb, p_xk⟩ : N3), (⟨p_ya, p_yb, p_yk⟩ : N3)⟩ : P2)) (⟨l_a, l_b, l_k⟩ : N3)) (dotF (nrm l_d) (nrm l_d))) (dvF (subF (dotF (nrm l_d) (⟨(⟨p_xa, p_xb, p_xk⟩ : N3), (⟨p_ya, p_yb, p_yk⟩ : N3)⟩ : P2)) (⟨l_a, l_b, l_k⟩ : N3)) (dotF (nrm l_d) (nrm l_d)))) (cond (pkm (addF (dvF (subF (dotF (nrm l_d) (⟨(⟨p_xa, p_xb, p_xk⟩ : N3), (⟨p_ya, p_yb, p_yk⟩ : N3)⟩ : P2)) (⟨l_a, l_b, l_k⟩ : N3)) (dotF (nrm l_d) (nrm l_d))) (dvF (subF (dotF (nrm l_d) (⟨(⟨p_xa, p_xb, p_xk⟩ : N3), (⟨p_ya, p_yb, p_yk⟩ : N3)⟩ : P2)) (⟨l_a, l_b, l_k⟩ : N3)) (dotF (nrm l_d) (nrm l_d)))) (nrm l_d).x) (cond (pkm (addF (dvF (subF (dotF (nrm l_d) (⟨(⟨p_xa, p_xb, p_xk⟩ : N3), (⟨p_ya, p_yb, p_yk⟩ : N3)⟩ : P2)) (⟨l_a, l_b, l_k⟩ : N3)) (dotF (nrm l_d) (nrm l_d))) (dvF (subF (dotF (nrm l_d) (⟨(⟨p_xa, p_xb, p_xk⟩ : N3), (⟨p_ya, p_yb, p_yk⟩ : N3)⟩ : P2)) (⟨l_a, l_b, l_k⟩ : N3)) (dotF (nrm l_d) (nrm l_d)))) (nrm l_d).y) (cond (pk (⟨(⟨p_xa, p_xb, p_xk⟩ : N3), (⟨p_ya, p_yb, p_yk⟩ : N3)⟩ : P2).x (mulF (addF (dvF (subF (dotF (nrm l_d) (⟨(⟨p_xa, p_xb, p_xk⟩ : N3), (⟨p_ya, p_yb, p_yk⟩ : N3)⟩ : P2)) (⟨l_a, l_b, l_k⟩ : N3)) (dotF (nrm l_d) (nrm l_d))) (dvF (subF (dotF (nrm l_d) (⟨(⟨p_xa, p_xb, p_xk⟩ : N3), (⟨p_ya, p_yb, p_yk⟩ : N3)⟩ : P2)) (⟨l_a, l_b, l_k⟩ : N3)) (dotF (nrm l_d) (nrm l_d)))) (nrm l_d).x) && pk (⟨(⟨p_xa, p_xb, p_xk⟩ : N3), (⟨p_ya, p_yb, p_yk⟩ : N3)⟩ : P2).y (mulF (addF (dvF (subF (dotF (nrm l_d) (⟨(⟨p_xa, p_xb, p_xk⟩ : N3), (⟨p_ya, p_yb, p_yk⟩ : N3)⟩ : P2)) (⟨l_a, l_b, l_k⟩ : N3)) (dotF (nrm l_d) (nrm l_d))) (dvF (subF (dotF (nrm l_d) (⟨(⟨p_xa, p_xb, p_xk⟩ : N3), (⟨p_ya, p_yb, p_yk⟩ : N3)⟩ : P2)) (⟨l_a, l_b, l_k⟩ : N3)) (dotF (nrm l_d) (nrm l_d)))) (nrm l_d).y)) (some (rflS (nrm l_d) (⟨l_a, l_b, l_k⟩ : N3) (⟨(⟨p_xa, p_xb, p_xk⟩ : N3), (⟨p_ya, p_yb, p_yk⟩ : N3)⟩ : P2)).av) none) none) none) none) none) none) none) none) none from by kernel_rfl).trans ?_
  rw [h15, a1, a4, a2, a6, b1, b2, b3, b4, b5]
  rfl
theorem m51 : Meets Tryd.prog GLv 51 s51 := by
  refine meetsN mix0 glv G43 Tryd.func51 (by kernel_rfl) (by kernel_rfl) s51 fun args x h => ?_
  unfold s51 at h
  split at h
  · rename_i l_d l_a l_b l_k p_xa p_xb p_xk p_ya p_yb p_yk
    simp only [Option.some.injEq, Prod.mk.injEq] at h
    obtain ⟨hp, rfl⟩ := h
    exact ⟨_, _, by kernel_rfl, e51 l_d l_a l_b l_k p_xa p_xb p_xk p_ya p_yb p_yk hp⟩
  · cases h
abbrev Γ44 : List (Nat × Ctr) := (51, s51) :: Γ43
theorem G44 : Sound Tryd.prog GLv Γ44 := G43.cons m51

-- impl.ReflectPoint
def s14 : Ctr := fun
  | [.agg [.val (.int .i64 l_d), .val (.int .i64 l_a), .val (.int .i64 l_b), .val (.int .i64 l_k)], .agg [.val (.int .i64 p_xa), .val (.int .i64 p_xb), .val (.int .i64 p_xk), .val (.int .i64 p_ya), .val (.int .i64 p_yb), .val (.int .i64 p_yk)]] => some (true, rP (((inB l_d 0 7 && validB (⟨l_a, l_b, l_k⟩ : N3)) && valP (⟨(⟨p_xa, p_xb, p_xk⟩ : N3), (⟨p_ya, p_yb, p_yk⟩ : N3)⟩ : P2)) && valP (redP (rflI (nrm l_d) (⟨l_a, l_b, l_k⟩ : N3) (⟨(⟨p_xa, p_xb, p_xk⟩ : N3), (⟨p_ya, p_yb, p_yk⟩ : N3)⟩ : P2)))) (redP (rflI (nrm l_d) (⟨l_a, l_b, l_k⟩ : N3) (⟨(⟨p_xa, p_xb, p_xk⟩ : N3), (⟨p_ya, p_yb, p_yk⟩ : N3)⟩ : P2))))
  | _ => none

theorem e14 (l_d : Int) (l_a : Int) (l_b : Int) (l_k : Int) (p_xa : Int) (p_xb : Int) (p_xk : Int) (p_ya : Int) (p_yb : Int) (p_yk : Int) : evN Tryd.prog GLv Γ44 (0) []  Tryd.f14 [.agg [.val (.int .i64 l_d), .val (.int .i64 l_a), .val (.int .i64 l_b), .val (.int .i64 l_k)], .agg [.val (.int .i64 p_xa), .val (.int .i64 p_xb), .val (.int .i64 p_xk), .val (.int .i64 p_ya), .val (.int .i64 p_yb), .val (.int .i64 p_yk)]] = some (rP (((inB l_d 0 7 && validB (⟨l_a, l_b, l_k⟩ : N3)) && valP (⟨(⟨p_xa, p_xb, p_xk⟩ : N3), (⟨p_ya, p_yb, p_yk⟩ : N3)⟩ : P2)) && valP (redP (rflI (nrm l_d) (⟨l_a, l_b, l_k⟩ : N3) (⟨(⟨p_xa, p_xb, p_xk⟩ : N3), (⟨p_ya, p_yb, p_yk⟩ : N3)⟩ : P2)))) (redP (rflI (nrm l_d) (⟨l_a, l_b, l_k⟩ : N3) (⟨(⟨p_xa, p_xb, p_xk⟩ : N3), (⟨p_ya, p_yb, p_yk⟩ : N3)⟩ : P2)))) := by
  refine (show _ = cond (!(inB l_d 0 7 && validB (⟨l_a, l_b, l_k⟩ : N3))) (some (rP false (⟨(⟨p_xa, p_xb, p_xk⟩ : N3), (⟨p_ya, p_yb, p_yk⟩ : N3)⟩ : P2))) (cond (!valP (⟨(⟨p_xa, p_xb, p_xk⟩ : N3), (⟨p_ya, p_yb, p_yk⟩ : N3)⟩ : P2)) (some (rP false (⟨(⟨p_xa, p_xb, p_xk⟩ : N3), (⟨p_ya, p_yb, p_yk⟩ : N3)⟩ : P2))) (cond (inB l_d 0 7 && (validB (⟨l_a, l_b, l_k⟩ : N3) && valP (⟨(⟨p_xa, p_xb, p_xk⟩ : N3), (⟨p_ya, p_yb, p_yk⟩ : N3)⟩ : P2))) (cond (kB (rflI (nrm l_d) (⟨l_a, l_b, l_k⟩ : N3) (⟨(⟨p_xa, p_xb, p_xk⟩ : N3), (⟨p_ya, p_yb, p_yk⟩ : N3)⟩ : P2)).x.k && kB (rflI (nrm l_d) (⟨l_a, l_b, l_k⟩ : N3) (⟨(⟨p_xa, p_xb, p_xk⟩ : N3), (⟨p_ya, p_yb, p_yk⟩ : N3)⟩ : P2)).y.k) (some (rP (valP (redP (rflI (nrm l_d) (⟨l_a, l_b, l_k⟩ : N3) (⟨(⟨p_xa, p_xb, p_xk⟩ : N3), (⟨p_ya, p_yb, p_yk⟩ : N3)⟩ : P2)))) (redP (rflI (nrm l_d) (⟨l_a, l_b, l_k⟩ : N3) (⟨(⟨p_xa, p_xb, p_xk⟩ : N3), (⟨p_ya, p_yb, p_yk⟩ : N3)⟩ : P2))))) none) none)) from by kernel_rfl).trans ?_
  cases h1 : inB l_d 0 7 with
  | false => rfl
  | true =>
    cases h2 : validB (⟨l_a, l_b, l_k⟩ : N3) with
    | false => rfl
    | true =>
      cases h3 : valP (⟨(⟨p_xa, p_xb, p_xk⟩ : N3), (⟨p_ya, p_yb, p_yk⟩ : N3)⟩ : P2) with
      | false => rfl
      | true =>
        obtain ⟨E, hn⟩ := nrm_all l_d h1
        obtain ⟨_, _, _, _, _, _, _, _, _, k1, k2⟩ := refl_same hn h2 h3
        rw [k1, k2]
        rfl
theorem m14 : Meets Tryd.prog GLv 14 s14 := by
  refine meetsN mix0 glv G44 Tryd.func14 (by kernel_rfl) (by kernel_rfl) s14 fun args x h => ?_
  unfold s14 at h
  split at h
  · rename_i l_d l_a l_b l_k p_xa p_xb p_xk p_ya p_yb p_yk
    simp only [Option.some.injEq, Prod.mk.injEq] at h
    obtain ⟨hp, rfl⟩ := h
    exact ⟨_, _, by kernel_rfl, e14 l_d l_a l_b l_k p_xa p_xb p_xk p_ya p_yb p_yk⟩
  · cases h
abbrev Γ45 : List (Nat × Ctr) := (14, s14) :: Γ44
theorem G45 : Sound Tryd.prog GLv Γ45 := G44.cons m14

-- spec.ReflectPoint
def s15 : Ctr := fun
  | [.agg [.val (.int .i64 l_d), .val (.int .i64 l_a), .val (.int .i64 l_b), .val (.int .i64 l_k)], .agg [.val (.int .i64 p_xa), .val (.int .i64 p_xb), .val (.int .i64 p_xk), .val (.int .i64 p_ya), .val (.int .i64 p_yb), .val (.int .i64 p_yk)]] => some (true, rP (((inB l_d 0 7 && validB (⟨l_a, l_b, l_k⟩ : N3)) && valP (⟨(⟨p_xa, p_xb, p_xk⟩ : N3), (⟨p_ya, p_yb, p_yk⟩ : N3)⟩ : P2)) && valP (redP (rflI (nrm l_d) (⟨l_a, l_b, l_k⟩ : N3) (⟨(⟨p_xa, p_xb, p_xk⟩ : N3), (⟨p_ya, p_yb, p_yk⟩ : N3)⟩ : P2)))) (redP (rflI (nrm l_d) (⟨l_a, l_b, l_k⟩ : N3) (⟨(⟨p_xa, p_xb, p_xk⟩ : N3), (⟨p_ya, p_yb, p_yk⟩ : N3)⟩ : P2))))
  | _ => none

theorem e15 (l_d : Int) (l_a : Int) (l_b : Int) (l_k : Int) (p_xa : Int) (p_xb : Int) (p_xk : Int) (p_ya : Int) (p_yb : Int) (p_yk : Int) : evN Tryd.prog GLv Γ45 (0) []  Tryd.f15 [.agg [.val (.int .i64 l_d), .val (.int .i64 l_a), .val (.int .i64 l_b), .val (.int .i64 l_k)], .agg [.val (.int .i64 p_xa), .val (.int .i64 p_xb), .val (.int .i64 p_xk), .val (.int .i64 p_ya), .val (.int .i64 p_yb), .val (.int .i64 p_yk)]] = some (rP (((inB l_d 0 7 && validB (⟨l_a, l_b, l_k⟩ : N3)) && valP (⟨(⟨p_xa, p_xb, p_xk⟩ : N3), (⟨p_ya, p_yb, p_yk⟩ : N3)⟩ : P2)) && valP (redP (rflI (nrm l_d) (⟨l_a, l_b, l_k⟩ : N3) (⟨(⟨p_xa, p_xb, p_xk⟩ : N3), (⟨p_ya, p_yb, p_yk⟩ : N3)⟩ : P2)))) (redP (rflI (nrm l_d) (⟨l_a, l_b, l_k⟩ : N3) (⟨(⟨p_xa, p_xb, p_xk⟩ : N3), (⟨p_ya, p_yb, p_yk⟩ : N3)⟩ : P2)))) := by
  refine (show _ = cond (!(inB l_d 0 7 && validB (⟨l_a, l_b, l_k⟩ : N3))) (some (rP false (⟨(⟨p_xa, p_xb, p_xk⟩ : N3), (⟨p_ya, p_yb, p_yk⟩ : N3)⟩ : P2))) (cond (!valP (⟨(⟨p_xa, p_xb, p_xk⟩ : N3), (⟨p_ya, p_yb, p_yk⟩ : N3)⟩ : P2)) (some (rP false (⟨(⟨p_xa, p_xb, p_xk⟩ : N3), (⟨p_ya, p_yb, p_yk⟩ : N3)⟩ : P2))) (cond (inB l_d 0 7 && (validB (⟨l_a, l_b, l_k⟩ : N3) && valP (⟨(⟨p_xa, p_xb, p_xk⟩ : N3), (⟨p_ya, p_yb, p_yk⟩ : N3)⟩ : P2))) (cond (kB (rflI (nrm l_d) (⟨l_a, l_b, l_k⟩ : N3) (⟨(⟨p_xa, p_xb, p_xk⟩ : N3), (⟨p_ya, p_yb, p_yk⟩ : N3)⟩ : P2)).x.k && kB (rflI (nrm l_d) (⟨l_a, l_b, l_k⟩ : N3) (⟨(⟨p_xa, p_xb, p_xk⟩ : N3), (⟨p_ya, p_yb, p_yk⟩ : N3)⟩ : P2)).y.k) (some (rP (valP (redP (rflI (nrm l_d) (⟨l_a, l_b, l_k⟩ : N3) (⟨(⟨p_xa, p_xb, p_xk⟩ : N3), (⟨p_ya, p_yb, p_yk⟩ : N3)⟩ : P2)))) (redP (rflI (nrm l_d) (⟨l_a, l_b, l_k⟩ : N3) (⟨(⟨p_xa, p_xb, p_xk⟩ : N3), (⟨p_ya, p_yb, p_yk⟩ : N3)⟩ : P2))))) none) none)) from by kernel_rfl).trans ?_
  cases h1 : inB l_d 0 7 with
  | false => rfl
  | true =>
    cases h2 : validB (⟨l_a, l_b, l_k⟩ : N3) with
    | false => rfl
    | true =>
      cases h3 : valP (⟨(⟨p_xa, p_xb, p_xk⟩ : N3), (⟨p_ya, p_yb, p_yk⟩ : N3)⟩ : P2) with
      | false => rfl
      | true =>
        obtain ⟨E, hn⟩ := nrm_all l_d h1
        obtain ⟨_, _, _, _, _, _, _, _, _, k1, k2⟩ := refl_same hn h2 h3
        rw [k1, k2]
        rfl
theorem m15 : Meets Tryd.prog GLv 15 s15 := by
  refine meetsN mix0 glv G45 Tryd.func15 (by kernel_rfl) (by kernel_rfl) s15 fun args x h => ?_
  unfold s15 at h
  split at h
  · rename_i l_d l_a l_b l_k p_xa p_xb p_xk p_ya p_yb p_yk
    simp only [Option.some.injEq, Prod.mk.injEq] at h
    obtain ⟨hp, rfl⟩ := h
    exact ⟨_, _, by kernel_rfl, e15 l_d l_a l_b l_k p_xa p_xb p_xk p_ya p_yb p_yk⟩
  · cases h
abbrev Γ46 : List (Nat × Ctr) := (15, s15) :: Γ45
theorem G46 : Sound Tryd.prog GLv Γ46 := G45.cons m15

-- (impl.Line).meet
def s39 : Ctr := fun
  | [.agg [.val (.int .i64 l_d), .val (.int .i64 l_a), .val (.int .i64 l_b), .val (.int .i64 l_k)], .agg [.val (.int .i64 m_d), .val (.int .i64 m_a), .val (.int .i64 m_b), .val (.int .i64 m_k)]] => some ((inB l_d 0 7 && inB m_d 0 7) && ((!(l_d == m_d)) && (validB (⟨l_a, l_b, l_k⟩ : N3) && validB (⟨m_a, m_b, m_k⟩ : N3))), .tup [(mtP l_d m_d (⟨l_a, l_b, l_k⟩ : N3) (⟨m_a, m_b, m_k⟩ : N3)).av, bv true])
  | _ => none

theorem e39 (l_d : Int) (l_a : Int) (l_b : Int) (l_k : Int) (m_d : Int) (m_a : Int) (m_b : Int) (m_k : Int) (hp : ((inB l_d 0 7 && inB m_d 0 7) && ((!(l_d == m_d)) && (validB (⟨l_a, l_b, l_k⟩ : N3) && validB (⟨m_a, m_b, m_k⟩ : N3)))) = true) : evN Tryd.prog GLv Γ46 (0) []  Tryd.f39 [.agg [.val (.int .i64 l_d), .val (.int .i64 l_a), .val (.int .i64 l_b), .val (.int .i64 l_k)], .agg [.val (.int .i64 m_d), .val (.int .i64 m_a), .val (.int .i64 m_b), .val (.int .i64 m_k)]] = some (.tup [(mtP l_d m_d (⟨l_a, l_b, l_k⟩ : N3) (⟨m_a, m_b, m_k⟩ : N3)).av, bv true]) := by
  simp only [Bool.and_eq_true, Bool.not_eq_true'] at hp
  obtain ⟨⟨h1, h2⟩, h3, h4, h5⟩ := hp
  obtain ⟨c0, ⟨c1, c2, c3, c4, c5⟩, ⟨c6, c7, c8, c9, c10⟩, _⟩ := meet_ok h1 h2 h3 h4 h5
  have w1 := nrm_in h1
  have w2 := nrm_in h2
  refine (show _ = cond (inB (wr (l_d + 4)) 0 15) (cond (inB (wr (m_d + 4)) 0 15) (cond (pkC (nrm l_d) (nrm m_d)) (cond (pkm (⟨l_a, l_b, l_k⟩ : N3) (nrm m_d).y) (cond (pkm (⟨m_a, m_b, m_k⟩ : N3) (nrm l_d).y) (cond (pk (mulF (⟨l_a, l_b, l_k⟩ : N3) (nrm m_d).y) (mulF (⟨m_a, m_b, m_k⟩ : N3) (nrm l_d).y)) (cond (dvP (mtX l_d m_d (⟨l_a, l_b, l_k⟩ : N3) (⟨m_a, m_b, m_k⟩ : N3)) (crsF (nrm l_d) (nrm m_d))) (cond (pkm (⟨m_a, m_b, m_k⟩ : N3) (nrm l_d).x) (cond (pkm (⟨l_a, l_b, l_k⟩ : N3) (nrm m_d).x) (cond (pk (mulF (⟨m_a, m_b, m_k⟩ : N3) (nrm l_d).x) (mulF (⟨l_a, l_b, l_k⟩ : N3) (nrm m_d).x)) (cond (dvP (mtY l_d m_d (⟨l_a, l_b, l_k⟩ : N3) (⟨m_a, m_b, m_k⟩ : N3)) (crsF (nrm l_d) (nrm m_d))) (cond (dvOk (mtX l_d m_d (⟨l_a, l_b, l_k⟩ : N3) (⟨m_a, m_b, m_k⟩ : N3)) (crsF (nrm l_d) (nrm m_d))) (some (.tup [(mtP l_d m_d (⟨l_a, l_b, l_k⟩ : N3) (⟨m_a, m_b, m_k⟩ : N3)).av, bv (dvOk (mtY l_d m_d (⟨l_a, l_b, l_k⟩ : N3) (⟨m_a, m_b, m_k⟩ : N3)) (crsF (nrm l_d) (nrm m_d)))])) (some (.tup [(mtP l_d m_d (⟨l_a, l_b, l_k⟩ : N3) (⟨m_a, m_b, m_k⟩ : N3)).av, bv false]))) none) none) none) none) none) none) none) none) none) none) none from by kernel_rfl).trans ?_
  rw [w1, w2, c0, c1, c2, c3, c4, c6, c7, c8, c9, c5, c10]
  rfl
theorem m39 : Meets Tryd.prog GLv 39 s39 := by
  refine meetsN mix0 glv G46 Tryd.func39 (by kernel_rfl) (by kernel_rfl) s39 fun args x h => ?_
  unfold s39 at h
  split at h
  · rename_i l_d l_a l_b l_k m_d m_a m_b m_k
    simp only [Option.some.injEq, Prod.mk.injEq] at h
    obtain ⟨hp, rfl⟩ := h
    exact ⟨_, _, by kernel_rfl, e39 l_d l_a l_b l_k m_d m_a m_b m_k hp⟩
  · cases h
abbrev Γ47 : List (Nat × Ctr) := (39, s39) :: Γ46
theorem G47 : Sound Tryd.prog GLv Γ47 := G46.cons m39

-- impl.MeetLines
def s8 : Ctr := fun
  | [.agg [.val (.int .i64 l_d), .val (.int .i64 l_a), .val (.int .i64 l_b), .val (.int .i64 l_k)], .agg [.val (.int .i64 m_d), .val (.int .i64 m_a), .val (.int .i64 m_b), .val (.int .i64 m_k)]] => some (true, mtV ((inB l_d 0 7 && validB (⟨l_a, l_b, l_k⟩ : N3)) && (inB m_d 0 7 && validB (⟨m_a, m_b, m_k⟩ : N3))) (l_d == m_d) (mtP l_d m_d (⟨l_a, l_b, l_k⟩ : N3) (⟨m_a, m_b, m_k⟩ : N3)))
  | _ => none

theorem e8 (l_d : Int) (l_a : Int) (l_b : Int) (l_k : Int) (m_d : Int) (m_a : Int) (m_b : Int) (m_k : Int) : evN Tryd.prog GLv Γ47 (0) []  Tryd.f8 [.agg [.val (.int .i64 l_d), .val (.int .i64 l_a), .val (.int .i64 l_b), .val (.int .i64 l_k)], .agg [.val (.int .i64 m_d), .val (.int .i64 m_a), .val (.int .i64 m_b), .val (.int .i64 m_k)]] = some (mtV ((inB l_d 0 7 && validB (⟨l_a, l_b, l_k⟩ : N3)) && (inB m_d 0 7 && validB (⟨m_a, m_b, m_k⟩ : N3))) (l_d == m_d) (mtP l_d m_d (⟨l_a, l_b, l_k⟩ : N3) (⟨m_a, m_b, m_k⟩ : N3))) := by
  refine (show _ = cond (!(inB l_d 0 7 && validB (⟨l_a, l_b, l_k⟩ : N3))) (some (mtF 1 (mtP l_d m_d (⟨l_a, l_b, l_k⟩ : N3) (⟨m_a, m_b, m_k⟩ : N3)))) (cond (!(inB m_d 0 7 && validB (⟨m_a, m_b, m_k⟩ : N3))) (some (mtF 1 (mtP l_d m_d (⟨l_a, l_b, l_k⟩ : N3) (⟨m_a, m_b, m_k⟩ : N3)))) (cond (l_d == m_d) (some (mtF 7 (mtP l_d m_d (⟨l_a, l_b, l_k⟩ : N3) (⟨m_a, m_b, m_k⟩ : N3)))) (cond ((inB l_d 0 7 && inB m_d 0 7) && ((!(l_d == m_d)) && (validB (⟨l_a, l_b, l_k⟩ : N3) && validB (⟨m_a, m_b, m_k⟩ : N3)))) (cond (kB (mtP l_d m_d (⟨l_a, l_b, l_k⟩ : N3) (⟨m_a, m_b, m_k⟩ : N3)).x.k && kB (mtP l_d m_d (⟨l_a, l_b, l_k⟩ : N3) (⟨m_a, m_b, m_k⟩ : N3)).y.k) (cond (!valP (redP (mtP l_d m_d (⟨l_a, l_b, l_k⟩ : N3) (⟨m_a, m_b, m_k⟩ : N3)))) (some (mtF 2 (mtP l_d m_d (⟨l_a, l_b, l_k⟩ : N3) (⟨m_a, m_b, m_k⟩ : N3)))) (some (.tup [(selP (valP (redP (mtP l_d m_d (⟨l_a, l_b, l_k⟩ : N3) (⟨m_a, m_b, m_k⟩ : N3)))) (redP (mtP l_d m_d (⟨l_a, l_b, l_k⟩ : N3) (⟨m_a, m_b, m_k⟩ : N3)))).av, iv 0]))) none) none))) from by kernel_rfl).trans ?_
  cases h1 : inB l_d 0 7 with
  | false => rfl
  | true =>
    cases h2 : validB (⟨l_a, l_b, l_k⟩ : N3) with
    | false => rfl
    | true =>
      cases h3 : inB m_d 0 7 with
      | false => rfl
      | true =>
        cases h4 : validB (⟨m_a, m_b, m_k⟩ : N3) with
        | false => rfl
        | true =>
          cases h5 : (l_d == m_d) with
          | true => rfl
          | false =>
            obtain ⟨_, _, _, k1, k2⟩ := meet_ok h1 h3 h5 h2 h4
            rw [k1, k2]
            unfold mtV
            cases h6 : valP (redP (mtP l_d m_d (⟨l_a, l_b, l_k⟩ : N3) (⟨m_a, m_b, m_k⟩ : N3))) with
            | false => rfl
            | true => rfl
theorem m8 : Meets Tryd.prog GLv 8 s8 := by
  refine meetsN mix0 glv G47 Tryd.func8 (by kernel_rfl) (by kernel_rfl) s8 fun args x h => ?_
  unfold s8 at h
  split at h
  · rename_i l_d l_a l_b l_k m_d m_a m_b m_k
    simp only [Option.some.injEq, Prod.mk.injEq] at h
    obtain ⟨hp, rfl⟩ := h
    exact ⟨_, _, by kernel_rfl, e8 l_d l_a l_b l_k m_d m_a m_b m_k⟩
  · cases h
abbrev Γ48 : List (Nat × Ctr) := (8, s8) :: Γ47
theorem G48 : Sound Tryd.prog GLv Γ48 := G47.cons m8

end Go.Proofs.YtigmgpblnoecpaaDoor
