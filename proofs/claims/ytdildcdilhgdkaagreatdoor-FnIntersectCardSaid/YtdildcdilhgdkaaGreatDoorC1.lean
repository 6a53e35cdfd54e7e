/- Contracts of the program's functions, by the evaluator. -/
import Derived.Test.YtdildcdilhgdkaaGreatDoorProg
import Derived.Test.YtdildcdilhgdkaaGreatDoorPlA
namespace Go.Proofs.YtdildcdilhgdkaaGreatDoor
open Go.Ev
set_option linter.unusedVariables false
set_option linter.unusedSimpArgs false
set_option maxRecDepth 100000
def GLv : Nat -> AV := fun g => match Nat.beq g 0 with
  | true => .eptr [iv (1), iv (0), iv (0), iv (0), iv (0), iv (0), iv (1), iv (0), iv (0), iv (-1), iv (1), iv (0), iv (1), iv (0), iv (0), iv (1), iv (0), iv (0), iv (-1), iv (1), iv (0), iv (1), iv (0), iv (0), iv (0), iv (0), iv (0), iv (1), iv (0), iv (0), iv (1), iv (-1), iv (0), iv (1), iv (0), iv (0), iv (-1), iv (0), iv (0), iv (1), iv (0), iv (0), iv (-1), iv (0), iv (0), iv (-1), iv (1), iv (0)]
  | false => .non
theorem glv : ∀ g' g k, GLv g' ≠ .ref g k := fun g' g k => by
  unfold GLv
  split <;> (intro h; cases h)
theorem mix0 : Tryz.prog.follows .mixedOrders = true := by kernel_rfl
abbrev Γ0 : List (Nat × Ctr) := []
theorem G0 : Sound Tryz.prog GLv Γ0 := Sound.nil
-- impl.within
def s45 : Ctr := fun
  | [.val (.int .i64 x), .val (.int .i64 lo), .val (.int .i64 hi)] => some (true, bv (inB x lo hi))
  | _ => none
theorem e45 (x : Int) (lo : Int) (hi : Int) : evN Tryz.prog GLv Γ0 (0) []  Tryz.f45 [.val (.int .i64 x), .val (.int .i64 lo), .val (.int .i64 hi)] = some (bv (inB x lo hi)) := by
  refine (show _ = cond (decide (x >= lo)) ( some (bv (decide (x <= hi))) ) ( some (bv (false)) ) from by kernel_rfl).trans ?_
  simp only [inB]
  cases decide (x >= lo) <;> rfl
theorem m45 : Meets Tryz.prog GLv 45 s45 := by
  refine meetsN mix0 glv G0 Tryz.func45 (by kernel_rfl) (by kernel_rfl) s45 fun args x h => ?_
  unfold s45 at h
  split at h
  . rename_i x lo hi
    simp only [Option.some.injEq, Prod.mk.injEq] at h
    obtain ⟨hp, rfl⟩ := h
    exact ⟨_, _, by kernel_rfl, e45 x lo hi⟩
  . cases h
abbrev Γ1 : List (Nat × Ctr) := (45, s45) :: Γ0
theorem G1 : Sound Tryz.prog GLv Γ1 := G0.cons m45
-- spec.l00In
def s59 : Ctr := fun
  | [.val (.int .i64 x), .val (.int .i64 lo), .val (.int .i64 hi)] => some (true, bv (inB x lo hi))
  | _ => none
theorem e59 (x : Int) (lo : Int) (hi : Int) : evN Tryz.prog GLv Γ1 (0) []  Tryz.f59 [.val (.int .i64 x), .val (.int .i64 lo), .val (.int .i64 hi)] = some (bv (inB x lo hi)) := by
  refine (show _ = cond (decide (x >= lo)) ( some (bv (decide (x <= hi))) ) ( some (bv (false)) ) from by kernel_rfl).trans ?_
  simp only [inB]
  cases decide (x >= lo) <;> rfl
theorem m59 : Meets Tryz.prog GLv 59 s59 := by
  refine meetsN mix0 glv G1 Tryz.func59 (by kernel_rfl) (by kernel_rfl) s59 fun args x h => ?_
  unfold s59 at h
  split at h
  . rename_i x lo hi
    simp only [Option.some.injEq, Prod.mk.injEq] at h
    obtain ⟨hp, rfl⟩ := h
    exact ⟨_, _, by kernel_rfl, e59 x lo hi⟩
  . cases h
abbrev Γ2 : List (Nat × Ctr) := (59, s59) :: Γ1
theorem G2 : Sound Tryz.prog GLv Γ2 := G1.cons m59
-- (impl.Num).reduced
def s107 : Ctr := fun
  | [.agg [.val (.int .i64 x_a), .val (.int .i64 x_b), .val (.int .i64 x_k)]] => some (kB x_k, (red (⟨x_a, x_b, x_k⟩ : N3)).av)
  | _ => none
theorem r107_step (K n : Nat) (a b k : Int) : runL Tryz.prog GLv Γ2 K kx22 Tryz.f107 0 (n + 1) (stL Tryz.f107.ntmps [.non, .own 25 [iv (a), iv (b), iv (k)], .own 25 [iv 0, iv 0, iv 0]]) = cond (decide (k > 0)) (cond (and64 a 1 == 0) (cond (and64 b 1 == 0) (cond (wr (a.tdiv 2) == 0) (cond (wr (b.tdiv 2) == 0) (runL Tryz.prog GLv Γ2 K kx22 Tryz.f107 0 n (stL Tryz.f107.ntmps [.non, .own 25 [iv (wr (a.tdiv 2)), iv (wr (b.tdiv 2)), iv (0)], .own 25 [iv 0, iv 0, iv 0]])) (runL Tryz.prog GLv Γ2 K kx22 Tryz.f107 0 n (stL Tryz.f107.ntmps [.non, .own 25 [iv (wr (a.tdiv 2)), iv (wr (b.tdiv 2)), iv (wr (k - 1))], .own 25 [iv 0, iv 0, iv 0]]))) (runL Tryz.prog GLv Γ2 K kx22 Tryz.f107 0 n (stL Tryz.f107.ntmps [.non, .own 25 [iv (wr (a.tdiv 2)), iv (wr (b.tdiv 2)), iv (wr (k - 1))], .own 25 [iv 0, iv 0, iv 0]]))) (some (⟨a, b, k⟩ : N3).av)) (some (⟨a, b, k⟩ : N3).av)) (some (⟨a, b, k⟩ : N3).av) := by kernel_rfl
theorem r107_run (K : Nat) : ∀ (m : Nat) (a b k : Int) (n : Nat), 0 <= k -> k <= 1152921504606846976 -> k.toNat <= m -> m < n -> runL Tryz.prog GLv Γ2 K kx22 Tryz.f107 0 n (stL Tryz.f107.ntmps [.non, .own 25 [iv (a), iv (b), iv (k)], .own 25 [iv 0, iv 0, iv 0]]) = some (redF (m + 1) a b k).av := by
  intro m
  induction m with
  | zero =>
    intro a b k n h0 h1 h2 h3
    obtain ⟨n, rfl⟩ : ∃ n', n = n' + 1 := ⟨n - 1, by omega⟩
    have hk : ¬ k > 0 := by omega
    rw [r107_step, redF_succ, if_neg (fun h => hk h.1)]
    simp only [hk, decide_false, cond_false]
  | succ m ih =>
    intro a b k n h0 h1 h2 h3
    obtain ⟨n, rfl⟩ : ∃ n', n = n' + 1 := ⟨n - 1, by omega⟩
    rw [r107_step, redF_succ]
    rw [and64_one, and64_one]
    have ea : ((a % 2 == 0) = !odd a) := odd_zero a
    have eb : ((b % 2 == 0) = !odd b) := odd_zero b
    rw [ea, eb]
    by_cases hk : k > 0
    . have hw : wr (k - 1) = k - 1 := wr_in (by omega) (by omega)
      cases ha : odd a with
      | true => rw [if_neg (fun h => by cases h.2.1)]; simp [hk]
      | false =>
        cases hb : odd b with
        | true => rw [if_neg (fun h => by cases h.2.2)]; simp [hk]
        | false =>
          rw [if_pos ⟨hk, rfl, rfl⟩]
          simp only [hk, decide_true, cond_true, Bool.not_false]
          rw [hw, ih _ _ _ _ (by omega) (by omega) (by omega) (by omega), ih _ _ _ _ (by omega) (by omega) (by omega) (by omega)]
          by_cases hz1 : wr (a.tdiv 2) = 0
          . by_cases hz2 : wr (b.tdiv 2) = 0
            . simp [hz1, hz2]
            . have e2 : (wr (b.tdiv 2) == 0) = false := by simpa using hz2
              simp [hz1, hz2, e2]
          . have e1 : (wr (a.tdiv 2) == 0) = false := by simpa using hz1
            simp [hz1, e1]
    . rw [if_neg (fun h => hk h.1)]; simp [hk]
theorem e107 (x_a : Int) (x_b : Int) (x_k : Int) (hp : (kB x_k) = true) : evN Tryz.prog GLv Γ2 (x_k.toNat + 1) kx22  Tryz.f107 [.agg [.val (.int .i64 x_a), .val (.int .i64 x_b), .val (.int .i64 x_k)]] = some ((red (⟨x_a, x_b, x_k⟩ : N3)).av) := by
  exact (show _ = _ from by kernel_rfl).trans (r107_run (x_k.toNat + 1) x_k.toNat x_a x_b x_k (x_k.toNat + 1) (kB_iff.1 hp).1 (kB_iff.1 hp).2 (Nat.le_refl _) (Nat.lt_succ_self _))
theorem m107 : Meets Tryz.prog GLv 107 s107 := by
  refine meetsN mix0 glv G2 Tryz.func107 (by kernel_rfl) (by kernel_rfl) s107 fun args x h => ?_
  unfold s107 at h
  split at h
  . rename_i x_a x_b x_k
    simp only [Option.some.injEq, Prod.mk.injEq] at h
    obtain ⟨hp, rfl⟩ := h
    exact ⟨_, _, by kernel_rfl, e107 x_a x_b x_k hp⟩
  . cases h
abbrev Γ3 : List (Nat × Ctr) := (107, s107) :: Γ2
theorem G3 : Sound Tryz.prog GLv Γ3 := G2.cons m107
-- spec.l01Low
def s101 : Ctr := fun
  | [.agg [.val (.int .i64 x_a), .val (.int .i64 x_b), .val (.int .i64 x_k)]] => some (kB x_k, (red (⟨x_a, x_b, x_k⟩ : N3)).av)
  | _ => none
theorem r101_step (K n : Nat) (a b k : Int) : runL Tryz.prog GLv Γ3 K kx22 Tryz.f101 0 (n + 1) (stL Tryz.f101.ntmps [.non, .own 90 [iv (a), iv (b), iv (k)], .own 90 [iv 0, iv 0, iv 0]]) = cond (decide (k > 0)) (cond (a.tmod 2 == 0) (cond (b.tmod 2 == 0) (runL Tryz.prog GLv Γ3 K kx22 Tryz.f101 0 n (stL Tryz.f101.ntmps [.non, .own 90 [iv (wr (a.tdiv 2)), iv (wr (b.tdiv 2)), iv (wr (k - 1))], .own 90 [iv 0, iv 0, iv 0]])) (some (⟨a, b, k⟩ : N3).av)) (some (⟨a, b, k⟩ : N3).av)) (some (⟨a, b, k⟩ : N3).av) := by kernel_rfl
theorem r101_run (K : Nat) : ∀ (m : Nat) (a b k : Int) (n : Nat), 0 <= k -> k <= 1152921504606846976 -> k.toNat <= m -> m < n -> runL Tryz.prog GLv Γ3 K kx22 Tryz.f101 0 n (stL Tryz.f101.ntmps [.non, .own 90 [iv (a), iv (b), iv (k)], .own 90 [iv 0, iv 0, iv 0]]) = some (redF (m + 1) a b k).av := by
  intro m
  induction m with
  | zero =>
    intro a b k n h0 h1 h2 h3
    obtain ⟨n, rfl⟩ : ∃ n', n = n' + 1 := ⟨n - 1, by omega⟩
    have hk : ¬ k > 0 := by omega
    rw [r101_step, redF_succ, if_neg (fun h => hk h.1)]
    simp only [hk, decide_false, cond_false]
  | succ m ih =>
    intro a b k n h0 h1 h2 h3
    obtain ⟨n, rfl⟩ : ∃ n', n = n' + 1 := ⟨n - 1, by omega⟩
    rw [r101_step, redF_succ]
    rw [tmod_zero, tmod_zero]
    by_cases hk : k > 0
    . have hw : wr (k - 1) = k - 1 := wr_in (by omega) (by omega)
      cases ha : odd a with
      | true => rw [if_neg (fun h => by cases h.2.1)]; simp [hk]
      | false =>
        cases hb : odd b with
        | true => rw [if_neg (fun h => by cases h.2.2)]; simp [hk]
        | false =>
          rw [if_pos ⟨hk, rfl, rfl⟩]
          simp only [hk, decide_true, cond_true, Bool.not_false]
          rw [hw, ih _ _ _ _ (by omega) (by omega) (by omega) (by omega)]
          by_cases hz : wr (a.tdiv 2) = 0 /\ wr (b.tdiv 2) = 0
          . rw [if_pos hz, hz.1, hz.2, redF_zero m _ (by omega), redF_zero m _ (by omega)]
            have e : (if k - 1 > 0 then (0 : Int) else k - 1) = 0 := by split <;> omega
            rw [e]
            rfl
          . rw [if_neg hz]
    . rw [if_neg (fun h => hk h.1)]; simp [hk]
theorem e101 (x_a : Int) (x_b : Int) (x_k : Int) (hp : (kB x_k) = true) : evN Tryz.prog GLv Γ3 (x_k.toNat + 1) kx22  Tryz.f101 [.agg [.val (.int .i64 x_a), .val (.int .i64 x_b), .val (.int .i64 x_k)]] = some ((red (⟨x_a, x_b, x_k⟩ : N3)).av) := by
  refine (show _ = cond (x_a == 0) (cond (x_b == 0) (some z3.av) (runL Tryz.prog GLv Γ3 (x_k.toNat + 1) kx22 Tryz.f101 0 (x_k.toNat + 1) (stL Tryz.f101.ntmps [.non, .own 90 [iv (x_a), iv (x_b), iv (x_k)], .own 90 [iv 0, iv 0, iv 0]]))) (runL Tryz.prog GLv Γ3 (x_k.toNat + 1) kx22 Tryz.f101 0 (x_k.toNat + 1) (stL Tryz.f101.ntmps [.non, .own 90 [iv (x_a), iv (x_b), iv (x_k)], .own 90 [iv 0, iv 0, iv 0]])) from by kernel_rfl).trans ?_
  rw [r101_run (x_k.toNat + 1) x_k.toNat x_a x_b x_k (x_k.toNat + 1) (kB_iff.1 hp).1 (kB_iff.1 hp).2 (Nat.le_refl _) (Nat.lt_succ_self _)]
  by_cases ha : x_a = 0
  . by_cases hb : x_b = 0
    . subst ha hb
      have := redF_zero x_k.toNat x_k (Nat.le_refl _)
      have hk := (kB_iff.1 hp).1
      have e : (if x_k > 0 then 0 else x_k) = 0 := by split <;> omega
      rw [e] at this
      simp only [red, this]
      rfl
    . have e2 : (x_b == 0) = false := by simpa using hb
      simp only [e2, cond_false, red]
      cases (x_a == 0) <;> rfl
  . have e1 : (x_a == 0) = false := by simpa using ha
    simp only [e1, cond_false, red]
theorem m101 : Meets Tryz.prog GLv 101 s101 := by
  refine meetsN mix0 glv G3 Tryz.func101 (by kernel_rfl) (by kernel_rfl) s101 fun args x h => ?_
  unfold s101 at h
  split at h
  . rename_i x_a x_b x_k
    simp only [Option.some.injEq, Prod.mk.injEq] at h
    obtain ⟨hp, rfl⟩ := h
    exact ⟨_, _, by kernel_rfl, e101 x_a x_b x_k hp⟩
  . cases h
abbrev Γ4 : List (Nat × Ctr) := (101, s101) :: Γ3
theorem G4 : Sound Tryz.prog GLv Γ4 := G3.cons m101
-- (impl.Num).neg
def s97 : Ctr := fun
  | [.agg [.val (.int .i64 x_a), .val (.int .i64 x_b), .val (.int .i64 x_k)]] => some (true, (negF (⟨x_a, x_b, x_k⟩ : N3)).av)
  | _ => none
theorem e97 (x_a : Int) (x_b : Int) (x_k : Int) : evN Tryz.prog GLv Γ4 (0) []  Tryz.f97 [.agg [.val (.int .i64 x_a), .val (.int .i64 x_b), .val (.int .i64 x_k)]] = some ((negF (⟨x_a, x_b, x_k⟩ : N3)).av) := by
  kernel_rfl
theorem m97 : Meets Tryz.prog GLv 97 s97 := by
  refine meetsN mix0 glv G4 Tryz.func97 (by kernel_rfl) (by kernel_rfl) s97 fun args x h => ?_
  unfold s97 at h
  split at h
  . rename_i x_a x_b x_k
    simp only [Option.some.injEq, Prod.mk.injEq] at h
    obtain ⟨hp, rfl⟩ := h
    exact ⟨_, _, by kernel_rfl, e97 x_a x_b x_k⟩
  . cases h
abbrev Γ5 : List (Nat × Ctr) := (97, s97) :: Γ4
theorem G5 : Sound Tryz.prog GLv Γ5 := G4.cons m97
-- spec.l01Neg
def s113 : Ctr := fun
  | [.agg [.val (.int .i64 x_a), .val (.int .i64 x_b), .val (.int .i64 x_k)]] => some (true, (negF (⟨x_a, x_b, x_k⟩ : N3)).av)
  | _ => none
theorem e113 (x_a : Int) (x_b : Int) (x_k : Int) : evN Tryz.prog GLv Γ5 (0) []  Tryz.f113 [.agg [.val (.int .i64 x_a), .val (.int .i64 x_b), .val (.int .i64 x_k)]] = some ((negF (⟨x_a, x_b, x_k⟩ : N3)).av) := by
  kernel_rfl
theorem m113 : Meets Tryz.prog GLv 113 s113 := by
  refine meetsN mix0 glv G5 Tryz.func113 (by kernel_rfl) (by kernel_rfl) s113 fun args x h => ?_
  unfold s113 at h
  split at h
  . rename_i x_a x_b x_k
    simp only [Option.some.injEq, Prod.mk.injEq] at h
    obtain ⟨hp, rfl⟩ := h
    exact ⟨_, _, by kernel_rfl, e113 x_a x_b x_k⟩
  . cases h
abbrev Γ6 : List (Nat × Ctr) := (113, s113) :: Γ5
theorem G6 : Sound Tryz.prog GLv Γ6 := G5.cons m113
-- (impl.Num).times
def s89 : Ctr := fun
  | [.agg [.val (.int .i64 x_a), .val (.int .i64 x_b), .val (.int .i64 x_k)], .agg [.val (.int .i64 y_a), .val (.int .i64 y_b), .val (.int .i64 y_k)]] => some (pkm (⟨x_a, x_b, x_k⟩ : N3) (⟨y_a, y_b, y_k⟩ : N3), (mulF (⟨x_a, x_b, x_k⟩ : N3) (⟨y_a, y_b, y_k⟩ : N3)).av)
  | _ => none
theorem e89 (x_a : Int) (x_b : Int) (x_k : Int) (y_a : Int) (y_b : Int) (y_k : Int) (hp : (pkm (⟨x_a, x_b, x_k⟩ : N3) (⟨y_a, y_b, y_k⟩ : N3)) = true) : evN Tryz.prog GLv Γ6 (0) []  Tryz.f89 [.agg [.val (.int .i64 x_a), .val (.int .i64 x_b), .val (.int .i64 x_k)], .agg [.val (.int .i64 y_a), .val (.int .i64 y_b), .val (.int .i64 y_k)]] = some ((mulF (⟨x_a, x_b, x_k⟩ : N3) (⟨y_a, y_b, y_k⟩ : N3)).av) := by
  refine (show _ = cond (kB (wr (x_k + y_k))) (some (mulF (⟨x_a, x_b, x_k⟩ : N3) (⟨y_a, y_b, y_k⟩ : N3)).av) none from by kernel_rfl).trans ?_
  have := pkm_kB hp
  simp only at this
  rw [this]
  rfl
theorem m89 : Meets Tryz.prog GLv 89 s89 := by
  refine meetsN mix0 glv G6 Tryz.func89 (by kernel_rfl) (by kernel_rfl) s89 fun args x h => ?_
  unfold s89 at h
  split at h
  . rename_i x_a x_b x_k y_a y_b y_k
    simp only [Option.some.injEq, Prod.mk.injEq] at h
    obtain ⟨hp, rfl⟩ := h
    exact ⟨_, _, by kernel_rfl, e89 x_a x_b x_k y_a y_b y_k hp⟩
  . cases h
abbrev Γ7 : List (Nat × Ctr) := (89, s89) :: Γ6
theorem G7 : Sound Tryz.prog GLv Γ7 := G6.cons m89
-- spec.l01Mul
def s72 : Ctr := fun
  | [.agg [.val (.int .i64 x_a), .val (.int .i64 x_b), .val (.int .i64 x_k)], .agg [.val (.int .i64 y_a), .val (.int .i64 y_b), .val (.int .i64 y_k)]] => some (pkm (⟨x_a, x_b, x_k⟩ : N3) (⟨y_a, y_b, y_k⟩ : N3), (mulF (⟨x_a, x_b, x_k⟩ : N3) (⟨y_a, y_b, y_k⟩ : N3)).av)
  | _ => none
theorem e72 (x_a : Int) (x_b : Int) (x_k : Int) (y_a : Int) (y_b : Int) (y_k : Int) (hp : (pkm (⟨x_a, x_b, x_k⟩ : N3) (⟨y_a, y_b, y_k⟩ : N3)) = true) : evN Tryz.prog GLv Γ7 (0) []  Tryz.f72 [.agg [.val (.int .i64 x_a), .val (.int .i64 x_b), .val (.int .i64 x_k)], .agg [.val (.int .i64 y_a), .val (.int .i64 y_b), .val (.int .i64 y_k)]] = some ((mulF (⟨x_a, x_b, x_k⟩ : N3) (⟨y_a, y_b, y_k⟩ : N3)).av) := by
  refine (show _ = cond (kB (wr (x_k + y_k))) (some (mulF (⟨x_a, x_b, x_k⟩ : N3) (⟨y_a, y_b, y_k⟩ : N3)).av) none from by kernel_rfl).trans ?_
  have := pkm_kB hp
  simp only at this
  rw [this]
  rfl
theorem m72 : Meets Tryz.prog GLv 72 s72 := by
  refine meetsN mix0 glv G7 Tryz.func72 (by kernel_rfl) (by kernel_rfl) s72 fun args x h => ?_
  unfold s72 at h
  split at h
  . rename_i x_a x_b x_k y_a y_b y_k
    simp only [Option.some.injEq, Prod.mk.injEq] at h
    obtain ⟨hp, rfl⟩ := h
    exact ⟨_, _, by kernel_rfl, e72 x_a x_b x_k y_a y_b y_k hp⟩
  . cases h
abbrev Γ8 : List (Nat × Ctr) := (72, s72) :: Γ7
theorem G8 : Sound Tryz.prog GLv Γ8 := G7.cons m72
-- (impl.Num).plus
def s96 : Ctr := fun
  | [.agg [.val (.int .i64 x_a), .val (.int .i64 x_b), .val (.int .i64 x_k)], .agg [.val (.int .i64 y_a), .val (.int .i64 y_b), .val (.int .i64 y_k)]] => some (pk (⟨x_a, x_b, x_k⟩ : N3) (⟨y_a, y_b, y_k⟩ : N3), (addF (⟨x_a, x_b, x_k⟩ : N3) (⟨y_a, y_b, y_k⟩ : N3)).av)
  | _ => none
theorem e96 (x_a : Int) (x_b : Int) (x_k : Int) (y_a : Int) (y_b : Int) (y_k : Int) (hp : (pk (⟨x_a, x_b, x_k⟩ : N3) (⟨y_a, y_b, y_k⟩ : N3)) = true) : evN Tryz.prog GLv Γ8 (0) []  Tryz.f96 [.agg [.val (.int .i64 x_a), .val (.int .i64 x_b), .val (.int .i64 x_k)], .agg [.val (.int .i64 y_a), .val (.int .i64 y_b), .val (.int .i64 y_k)]] = some ((addF (⟨x_a, x_b, x_k⟩ : N3) (⟨y_a, y_b, y_k⟩ : N3)).av) := by
  obtain ⟨h1, h2, h3⟩ := pk_sh hp
  refine (show _ = cond (decide (0 <= wr (gmax x_k y_k - x_k))) (cond (decide (0 <= wr (gmax x_k y_k - y_k))) (cond (decide (0 <= wr (gmax x_k y_k - x_k))) (cond (decide (0 <= wr (gmax x_k y_k - y_k))) (cond (kB (gmax x_k y_k)) (some (addF (⟨x_a, x_b, x_k⟩ : N3) (⟨y_a, y_b, y_k⟩ : N3)).av) none) none) none) none) none from by kernel_rfl).trans ?_
  simp only at h1 h2 h3
  rw [h1, h2, h3]
  rfl
theorem m96 : Meets Tryz.prog GLv 96 s96 := by
  refine meetsN mix0 glv G8 Tryz.func96 (by kernel_rfl) (by kernel_rfl) s96 fun args x h => ?_
  unfold s96 at h
  split at h
  . rename_i x_a x_b x_k y_a y_b y_k
    simp only [Option.some.injEq, Prod.mk.injEq] at h
    obtain ⟨hp, rfl⟩ := h
    exact ⟨_, _, by kernel_rfl, e96 x_a x_b x_k y_a y_b y_k hp⟩
  . cases h
abbrev Γ9 : List (Nat × Ctr) := (96, s96) :: Γ8
theorem G9 : Sound Tryz.prog GLv Γ9 := G8.cons m96
-- spec.l01Add
def s70 : Ctr := fun
  | [.agg [.val (.int .i64 x_a), .val (.int .i64 x_b), .val (.int .i64 x_k)], .agg [.val (.int .i64 y_a), .val (.int .i64 y_b), .val (.int .i64 y_k)]] => some (pk (⟨x_a, x_b, x_k⟩ : N3) (⟨y_a, y_b, y_k⟩ : N3), (addF (⟨x_a, x_b, x_k⟩ : N3) (⟨y_a, y_b, y_k⟩ : N3)).av)
  | _ => none
theorem r70_step0 (K n : Nat) (a b k c d l : Int) : runL Tryz.prog GLv Γ9 K kx28 Tryz.f70 0 (n + 1) (stL Tryz.f70.ntmps [.non, .non, .own 90 [iv (a), iv (b), iv (k)], .own 90 [iv (c), iv (d), iv (l)], .own 90 [iv 0, iv 0, iv 0]]) = cond (decide (k < l)) (runL Tryz.prog GLv Γ9 K kx28 Tryz.f70 0 n (stL Tryz.f70.ntmps [.non, .non, .own 90 [iv (wr (a * 2)), iv (wr (b * 2)), iv (wr (k + 1))], .own 90 [iv (c), iv (d), iv (l)], .own 90 [iv 0, iv 0, iv 0]])) (runL Tryz.prog GLv Γ9 K kx28 Tryz.f70 1 K (stL Tryz.f70.ntmps [.non, .non, .own 90 [iv (a), iv (b), iv (k)], .own 90 [iv (c), iv (d), iv (l)], .own 90 [iv 0, iv 0, iv 0]])) := by kernel_rfl
theorem r70_step1 (K n : Nat) (a b k c d l : Int) : runL Tryz.prog GLv Γ9 K kx28 Tryz.f70 1 (n + 1) (stL Tryz.f70.ntmps [.non, .non, .own 90 [iv (a), iv (b), iv (k)], .own 90 [iv (c), iv (d), iv (l)], .own 90 [iv 0, iv 0, iv 0]]) = cond (decide (l < k)) (runL Tryz.prog GLv Γ9 K kx28 Tryz.f70 1 n (stL Tryz.f70.ntmps [.non, .non, .own 90 [iv (a), iv (b), iv (k)], .own 90 [iv (wr (c * 2)), iv (wr (d * 2)), iv (wr (l + 1))], .own 90 [iv 0, iv 0, iv 0]])) (cond (kB k) (some (red ⟨wr (a + c), wr (b + d), k⟩).av) none) := by kernel_rfl
theorem r70_run1 (K : Nat) : ∀ (m : Nat) (a b k c d l : Int) (n : Nat), kB k = true -> 0 <= l -> (k - l).toNat = m -> m < n ->
    runL Tryz.prog GLv Γ9 K kx28 Tryz.f70 1 n (stL Tryz.f70.ntmps [.non, .non, .own 90 [iv (a), iv (b), iv (k)], .own 90 [iv (c), iv (d), iv (l)], .own 90 [iv 0, iv 0, iv 0]]) = some (red ⟨wr (a + dblI m c), wr (b + dblI m d), k⟩).av := by
  intro m
  induction m with
  | zero =>
    intro a b k c d l n hk hl h0 hn
    obtain ⟨n, rfl⟩ : ∃ n', n = n' + 1 := ⟨n - 1, by omega⟩
    have : decide (l < k) = false := by simp; omega
    rw [r70_step1, this, hk]
    rfl
  | succ m ih =>
    intro a b k c d l n hk hl h0 hn
    obtain ⟨n, rfl⟩ : ∃ n', n = n' + 1 := ⟨n - 1, by omega⟩
    have : decide (l < k) = true := by simp; omega
    have hk' := kB_iff.1 hk
    have hw : wr (l + 1) = l + 1 := wr_in (by omega) (by omega)
    rw [r70_step1, this, cond_true, hw, ih _ _ _ _ _ _ _ hk (by omega) (by omega) (by omega)]
    rfl
theorem r70_run0 (K : Nat) : ∀ (m : Nat) (a b k c d l : Int) (n : Nat), 0 <= k -> kB l = true -> (l - k).toNat = m -> m < n ->
    runL Tryz.prog GLv Γ9 K kx28 Tryz.f70 0 n (stL Tryz.f70.ntmps [.non, .non, .own 90 [iv (a), iv (b), iv (k)], .own 90 [iv (c), iv (d), iv (l)], .own 90 [iv 0, iv 0, iv 0]]) = runL Tryz.prog GLv Γ9 K kx28 Tryz.f70 1 K (stL Tryz.f70.ntmps [.non, .non, .own 90 [iv (dblI m a), iv (dblI m b), iv (k + (m : Int))], .own 90 [iv (c), iv (d), iv (l)], .own 90 [iv 0, iv 0, iv 0]]) := by
  intro m
  induction m with
  | zero =>
    intro a b k c d l n hk hl h0 hn
    obtain ⟨n, rfl⟩ : ∃ n', n = n' + 1 := ⟨n - 1, by omega⟩
    have : decide (k < l) = false := by simp; omega
    rw [r70_step0, this, cond_false]
    simp only [dblI, Int.ofNat_zero, Int.natCast_zero, Int.add_zero]
  | succ m ih =>
    intro a b k c d l n hk hl h0 hn
    obtain ⟨n, rfl⟩ : ∃ n', n = n' + 1 := ⟨n - 1, by omega⟩
    have : decide (k < l) = true := by simp; omega
    have hl' := kB_iff.1 hl
    have hw : wr (k + 1) = k + 1 := wr_in (by omega) (by omega)
    rw [r70_step0, this, cond_true, hw, ih _ _ _ _ _ _ _ (by omega) hl (by omega) (by omega)]
    have e : k + 1 + (m : Int) = k + ((m + 1 : Nat) : Int) := by omega
    rw [e]
    rfl
theorem e70 (x_a : Int) (x_b : Int) (x_k : Int) (y_a : Int) (y_b : Int) (y_k : Int) (hp : (pk (⟨x_a, x_b, x_k⟩ : N3) (⟨y_a, y_b, y_k⟩ : N3)) = true) : evN Tryz.prog GLv Γ9 (x_k.toNat + y_k.toNat + 1) kx28  Tryz.f70 [.agg [.val (.int .i64 x_a), .val (.int .i64 x_b), .val (.int .i64 x_k)], .agg [.val (.int .i64 y_a), .val (.int .i64 y_b), .val (.int .i64 y_k)]] = some ((addF (⟨x_a, x_b, x_k⟩ : N3) (⟨y_a, y_b, y_k⟩ : N3)).av) := by
  obtain ⟨h1, h2⟩ := pk_iff.1 hp
  simp only at h1 h2
  refine (show _ = runL Tryz.prog GLv Γ9 (x_k.toNat + y_k.toNat + 1) kx28 Tryz.f70 0 (x_k.toNat + y_k.toNat + 1) (stL Tryz.f70.ntmps [.non, .non, .own 90 [iv (x_a), iv (x_b), iv (x_k)], .own 90 [iv (y_a), iv (y_b), iv (y_k)], .own 90 [iv 0, iv 0, iv 0]]) from by kernel_rfl).trans ?_
  rw [r70_run0 _ (y_k - x_k).toNat _ _ _ _ _ _ _ h1.1 (kB_iff.2 h2) rfl (by omega)]
  rw [r70_run1 _ (x_k - y_k).toNat _ _ _ _ _ _ _ (kB_iff.2 (by omega)) h2.1 (by omega) (by omega)]
  have := addR_dbl hp
  simp only at this
  rw [this]
  rfl
theorem m70 : Meets Tryz.prog GLv 70 s70 := by
  refine meetsN mix0 glv G9 Tryz.func70 (by kernel_rfl) (by kernel_rfl) s70 fun args x h => ?_
  unfold s70 at h
  split at h
  . rename_i x_a x_b x_k y_a y_b y_k
    simp only [Option.some.injEq, Prod.mk.injEq] at h
    obtain ⟨hp, rfl⟩ := h
    exact ⟨_, _, by kernel_rfl, e70 x_a x_b x_k y_a y_b y_k hp⟩
  . cases h
abbrev Γ10 : List (Nat × Ctr) := (70, s70) :: Γ9
theorem G10 : Sound Tryz.prog GLv Γ10 := G9.cons m70
-- (impl.Num).minus
def s65 : Ctr := fun
  | [.agg [.val (.int .i64 x_a), .val (.int .i64 x_b), .val (.int .i64 x_k)], .agg [.val (.int .i64 y_a), .val (.int .i64 y_b), .val (.int .i64 y_k)]] => some (pk (⟨x_a, x_b, x_k⟩ : N3) (⟨y_a, y_b, y_k⟩ : N3), (subF (⟨x_a, x_b, x_k⟩ : N3) (⟨y_a, y_b, y_k⟩ : N3)).av)
  | _ => none
theorem e65 (x_a : Int) (x_b : Int) (x_k : Int) (y_a : Int) (y_b : Int) (y_k : Int) (hp : (pk (⟨x_a, x_b, x_k⟩ : N3) (⟨y_a, y_b, y_k⟩ : N3)) = true) : evN Tryz.prog GLv Γ10 (0) []  Tryz.f65 [.agg [.val (.int .i64 x_a), .val (.int .i64 x_b), .val (.int .i64 x_k)], .agg [.val (.int .i64 y_a), .val (.int .i64 y_b), .val (.int .i64 y_k)]] = some ((subF (⟨x_a, x_b, x_k⟩ : N3) (⟨y_a, y_b, y_k⟩ : N3)).av) := by
  refine (show _ = cond (pk (⟨x_a, x_b, x_k⟩ : N3) (⟨y_a, y_b, y_k⟩ : N3)) (some (subF (⟨x_a, x_b, x_k⟩ : N3) (⟨y_a, y_b, y_k⟩ : N3)).av) none from by kernel_rfl).trans ?_
  rw [hp]
  rfl
theorem m65 : Meets Tryz.prog GLv 65 s65 := by
  refine meetsN mix0 glv G10 Tryz.func65 (by kernel_rfl) (by kernel_rfl) s65 fun args x h => ?_
  unfold s65 at h
  split at h
  . rename_i x_a x_b x_k y_a y_b y_k
    simp only [Option.some.injEq, Prod.mk.injEq] at h
    obtain ⟨hp, rfl⟩ := h
    exact ⟨_, _, by kernel_rfl, e65 x_a x_b x_k y_a y_b y_k hp⟩
  . cases h
abbrev Γ11 : List (Nat × Ctr) := (65, s65) :: Γ10
theorem G11 : Sound Tryz.prog GLv Γ11 := G10.cons m65
-- spec.l01Sub
def s104 : Ctr := fun
  | [.agg [.val (.int .i64 x_a), .val (.int .i64 x_b), .val (.int .i64 x_k)], .agg [.val (.int .i64 y_a), .val (.int .i64 y_b), .val (.int .i64 y_k)]] => some (pk (⟨x_a, x_b, x_k⟩ : N3) (⟨y_a, y_b, y_k⟩ : N3), (subF (⟨x_a, x_b, x_k⟩ : N3) (⟨y_a, y_b, y_k⟩ : N3)).av)
  | _ => none
theorem e104 (x_a : Int) (x_b : Int) (x_k : Int) (y_a : Int) (y_b : Int) (y_k : Int) (hp : (pk (⟨x_a, x_b, x_k⟩ : N3) (⟨y_a, y_b, y_k⟩ : N3)) = true) : evN Tryz.prog GLv Γ11 (0) []  Tryz.f104 [.agg [.val (.int .i64 x_a), .val (.int .i64 x_b), .val (.int .i64 x_k)], .agg [.val (.int .i64 y_a), .val (.int .i64 y_b), .val (.int .i64 y_k)]] = some ((subF (⟨x_a, x_b, x_k⟩ : N3) (⟨y_a, y_b, y_k⟩ : N3)).av) := by
  refine (show _ = cond (pk (⟨x_a, x_b, x_k⟩ : N3) (⟨y_a, y_b, y_k⟩ : N3)) (some (subF (⟨x_a, x_b, x_k⟩ : N3) (⟨y_a, y_b, y_k⟩ : N3)).av) none from by kernel_rfl).trans ?_
  rw [hp]
  rfl
theorem m104 : Meets Tryz.prog GLv 104 s104 := by
  refine meetsN mix0 glv G11 Tryz.func104 (by kernel_rfl) (by kernel_rfl) s104 fun args x h => ?_
  unfold s104 at h
  split at h
  . rename_i x_a x_b x_k y_a y_b y_k
    simp only [Option.some.injEq, Prod.mk.injEq] at h
    obtain ⟨hp, rfl⟩ := h
    exact ⟨_, _, by kernel_rfl, e104 x_a x_b x_k y_a y_b y_k hp⟩
  . cases h
abbrev Γ12 : List (Nat × Ctr) := (104, s104) :: Γ11
theorem G12 : Sound Tryz.prog GLv Γ12 := G11.cons m104
-- impl.ValidNum
def s50 : Ctr := fun
  | [.agg [.val (.int .i64 x_a), .val (.int .i64 x_b), .val (.int .i64 x_k)]] => some (true, bv (validB (⟨x_a, x_b, x_k⟩ : N3)))
  | _ => none
theorem e50 (x_a : Int) (x_b : Int) (x_k : Int) : evN Tryz.prog GLv Γ12 (0) []  Tryz.f50 [.agg [.val (.int .i64 x_a), .val (.int .i64 x_b), .val (.int .i64 x_k)]] = some (bv (validB (⟨x_a, x_b, x_k⟩ : N3))) := by
  refine (show _ = cond (inB x_a (-131072) 131072) ( cond (inB x_b (-131072) 131072) ( cond (inB x_k 0 10) ( cond (x_k == 0) ( some (bv (true)) ) ( cond (IntKind.i64.wrap ↑(BitVec.ofInt 64 x_a &&& BitVec.ofInt 64 1).toNat == 1) ( some (bv (true)) ) ( some (bv (IntKind.i64.wrap ↑(BitVec.ofInt 64 x_b &&& BitVec.ofInt 64 1).toNat == 1)) ) ) ) ( some (bv (false)) ) ) ( some (bv (false)) ) ) ( some (bv (false)) ) from by kernel_rfl).trans ?_
  simp only [validB]
  cases inB x_a (-131072) 131072 <;> cases inB x_b (-131072) 131072 <;> cases inB x_k 0 10 <;> cases (x_k == 0) <;> simp only [cond_true, cond_false, Bool.true_and, Bool.false_and, Bool.true_or, Bool.false_or, and_eq, tmod_ne, odd] <;> (first | rfl | (cases decide (x_a % 2 = 1) <;> rfl))
theorem m50 : Meets Tryz.prog GLv 50 s50 := by
  refine meetsN mix0 glv G12 Tryz.func50 (by kernel_rfl) (by kernel_rfl) s50 fun args x h => ?_
  unfold s50 at h
  split at h
  . rename_i x_a x_b x_k
    simp only [Option.some.injEq, Prod.mk.injEq] at h
    obtain ⟨hp, rfl⟩ := h
    exact ⟨_, _, by kernel_rfl, e50 x_a x_b x_k⟩
  . cases h
abbrev Γ13 : List (Nat × Ctr) := (50, s50) :: Γ12
theorem G13 : Sound Tryz.prog GLv Γ13 := G12.cons m50
-- spec.l01Ok
def s60 : Ctr := fun
  | [.agg [.val (.int .i64 x_a), .val (.int .i64 x_b), .val (.int .i64 x_k)]] => some (true, bv (validB (⟨x_a, x_b, x_k⟩ : N3)))
  | _ => none
theorem e60 (x_a : Int) (x_b : Int) (x_k : Int) : evN Tryz.prog GLv Γ13 (0) []  Tryz.f60 [.agg [.val (.int .i64 x_a), .val (.int .i64 x_b), .val (.int .i64 x_k)]] = some (bv (validB (⟨x_a, x_b, x_k⟩ : N3))) := by
  refine (show _ = cond (!inB x_a (-131072) 131072) ( some (bv (false)) ) ( cond (!inB x_b (-131072) 131072) ( some (bv (false)) ) ( cond (!inB x_k 0 10) ( some (bv (false)) ) ( cond (x_k == 0) ( some (bv (true)) ) ( cond (x_a.tmod 2 != 0) ( some (bv (true)) ) ( some (bv (x_b.tmod 2 != 0)) ) ) ) ) ) from by kernel_rfl).trans ?_
  simp only [validB]
  cases inB x_a (-131072) 131072 <;> cases inB x_b (-131072) 131072 <;> cases inB x_k 0 10 <;> cases (x_k == 0) <;> simp only [cond_true, cond_false, Bool.true_and, Bool.false_and, Bool.true_or, Bool.false_or, and_eq, tmod_ne, odd] <;> (first | rfl | (cases decide (x_a % 2 = 1) <;> rfl))
theorem m60 : Meets Tryz.prog GLv 60 s60 := by
  refine meetsN mix0 glv G13 Tryz.func60 (by kernel_rfl) (by kernel_rfl) s60 fun args x h => ?_
  unfold s60 at h
  split at h
  . rename_i x_a x_b x_k
    simp only [Option.some.injEq, Prod.mk.injEq] at h
    obtain ⟨hp, rfl⟩ := h
    exact ⟨_, _, by kernel_rfl, e60 x_a x_b x_k⟩
  . cases h
abbrev Γ14 : List (Nat × Ctr) := (60, s60) :: Γ13
theorem G14 : Sound Tryz.prog GLv Γ14 := G13.cons m60
-- (impl.Num).checked
def s86 : Ctr := fun
  | [.agg [.val (.int .i64 x_a), .val (.int .i64 x_b), .val (.int .i64 x_k)]] => some (kB x_k, .tup [(chk (⟨x_a, x_b, x_k⟩ : N3)).av, bv (chkB (⟨x_a, x_b, x_k⟩ : N3))])
  | _ => none
theorem e86 (x_a : Int) (x_b : Int) (x_k : Int) (hp : (kB x_k) = true) : evN Tryz.prog GLv Γ14 (0) []  Tryz.f86 [.agg [.val (.int .i64 x_a), .val (.int .i64 x_b), .val (.int .i64 x_k)]] = some (.tup [(chk (⟨x_a, x_b, x_k⟩ : N3)).av, bv (chkB (⟨x_a, x_b, x_k⟩ : N3))]) := by
  refine (show _ = cond (kB x_k) ( cond (!validB (N3.mk (red (N3.mk x_a x_b x_k)).1 (red (N3.mk x_a x_b x_k)).2 (red (N3.mk x_a x_b x_k)).3)) ( some ((.tup [(.agg [iv (0), iv (0), iv (0)]), bv (false)])) ) ( some ((.tup [(.agg [iv ((red (N3.mk x_a x_b x_k)).1), iv ((red (N3.mk x_a x_b x_k)).2), iv ((red (N3.mk x_a x_b x_k)).3)]), bv (true)])) ) ) ( none ) from by kernel_rfl).trans ?_
  rw [hp]
  simp only [chk, chkB, cond_true]
  cases validB (red (⟨x_a, x_b, x_k⟩ : N3)) <;> rfl
theorem m86 : Meets Tryz.prog GLv 86 s86 := by
  refine meetsN mix0 glv G14 Tryz.func86 (by kernel_rfl) (by kernel_rfl) s86 fun args x h => ?_
  unfold s86 at h
  split at h
  . rename_i x_a x_b x_k
    simp only [Option.some.injEq, Prod.mk.injEq] at h
    obtain ⟨hp, rfl⟩ := h
    exact ⟨_, _, by kernel_rfl, e86 x_a x_b x_k hp⟩
  . cases h
abbrev Γ15 : List (Nat × Ctr) := (86, s86) :: Γ14
theorem G15 : Sound Tryz.prog GLv Γ15 := G14.cons m86
-- spec.l01Num
def s79 : Ctr := fun
  | [.agg [.val (.int .i64 x_a), .val (.int .i64 x_b), .val (.int .i64 x_k)]] => some (kB x_k, .tup [(chk (⟨x_a, x_b, x_k⟩ : N3)).av, bv (chkB (⟨x_a, x_b, x_k⟩ : N3))])
  | _ => none
theorem e79 (x_a : Int) (x_b : Int) (x_k : Int) (hp : (kB x_k) = true) : evN Tryz.prog GLv Γ15 (0) []  Tryz.f79 [.agg [.val (.int .i64 x_a), .val (.int .i64 x_b), .val (.int .i64 x_k)]] = some (.tup [(chk (⟨x_a, x_b, x_k⟩ : N3)).av, bv (chkB (⟨x_a, x_b, x_k⟩ : N3))]) := by
  refine (show _ = cond (kB x_k) ( cond (!validB (N3.mk (red (N3.mk x_a x_b x_k)).1 (red (N3.mk x_a x_b x_k)).2 (red (N3.mk x_a x_b x_k)).3)) ( some ((.tup [(.agg [iv (0), iv (0), iv (0)]), bv (false)])) ) ( some ((.tup [(.agg [iv ((red (N3.mk x_a x_b x_k)).1), iv ((red (N3.mk x_a x_b x_k)).2), iv ((red (N3.mk x_a x_b x_k)).3)]), bv (true)])) ) ) ( none ) from by kernel_rfl).trans ?_
  rw [hp]
  simp only [chk, chkB, cond_true]
  cases validB (red (⟨x_a, x_b, x_k⟩ : N3)) <;> rfl
theorem m79 : Meets Tryz.prog GLv 79 s79 := by
  refine meetsN mix0 glv G15 Tryz.func79 (by kernel_rfl) (by kernel_rfl) s79 fun args x h => ?_
  unfold s79 at h
  split at h
  . rename_i x_a x_b x_k
    simp only [Option.some.injEq, Prod.mk.injEq] at h
    obtain ⟨hp, rfl⟩ := h
    exact ⟨_, _, by kernel_rfl, e79 x_a x_b x_k hp⟩
  . cases h
abbrev Γ16 : List (Nat × Ctr) := (79, s79) :: Γ15
theorem G16 : Sound Tryz.prog GLv Γ16 := G15.cons m79
-- spec.l01Of
def s71 : Ctr := fun
  | [.agg [.val (.int .i64 x_a), .val (.int .i64 x_b), .val (.int .i64 x_k)]] => some (true, (⟨x_a, x_b, x_k⟩ : N3).av)
  | _ => none
theorem e71 (x_a : Int) (x_b : Int) (x_k : Int) : evN Tryz.prog GLv Γ16 (0) []  Tryz.f71 [.agg [.val (.int .i64 x_a), .val (.int .i64 x_b), .val (.int .i64 x_k)]] = some ((⟨x_a, x_b, x_k⟩ : N3).av) := by
  kernel_rfl
theorem m71 : Meets Tryz.prog GLv 71 s71 := by
  refine meetsN mix0 glv G16 Tryz.func71 (by kernel_rfl) (by kernel_rfl) s71 fun args x h => ?_
  unfold s71 at h
  split at h
  . rename_i x_a x_b x_k
    simp only [Option.some.injEq, Prod.mk.injEq] at h
    obtain ⟨hp, rfl⟩ := h
    exact ⟨_, _, by kernel_rfl, e71 x_a x_b x_k⟩
  . cases h
abbrev Γ17 : List (Nat × Ctr) := (71, s71) :: Γ16
theorem G17 : Sound Tryz.prog GLv Γ17 := G16.cons m71
-- spec.l02Of
def s68 : Ctr := fun
  | [.agg [.val (.int .i64 p_xa), .val (.int .i64 p_xb), .val (.int .i64 p_xk), .val (.int .i64 p_ya), .val (.int .i64 p_yb), .val (.int .i64 p_yk)]] => some (true, (⟨(⟨p_xa, p_xb, p_xk⟩ : N3), (⟨p_ya, p_yb, p_yk⟩ : N3)⟩ : P2).av)
  | _ => none
theorem e68 (p_xa : Int) (p_xb : Int) (p_xk : Int) (p_ya : Int) (p_yb : Int) (p_yk : Int) : evN Tryz.prog GLv Γ17 (0) []  Tryz.f68 [.agg [.val (.int .i64 p_xa), .val (.int .i64 p_xb), .val (.int .i64 p_xk), .val (.int .i64 p_ya), .val (.int .i64 p_yb), .val (.int .i64 p_yk)]] = some ((⟨(⟨p_xa, p_xb, p_xk⟩ : N3), (⟨p_ya, p_yb, p_yk⟩ : N3)⟩ : P2).av) := by
  kernel_rfl
theorem m68 : Meets Tryz.prog GLv 68 s68 := by
  refine meetsN mix0 glv G17 Tryz.func68 (by kernel_rfl) (by kernel_rfl) s68 fun args x h => ?_
  unfold s68 at h
  split at h
  . rename_i p_xa p_xb p_xk p_ya p_yb p_yk
    simp only [Option.some.injEq, Prod.mk.injEq] at h
    obtain ⟨hp, rfl⟩ := h
    exact ⟨_, _, by kernel_rfl, e68 p_xa p_xb p_xk p_ya p_yb p_yk⟩
  . cases h
abbrev Γ18 : List (Nat × Ctr) := (68, s68) :: Γ17
theorem G18 : Sound Tryz.prog GLv Γ18 := G17.cons m68
-- impl.ValidPoint
def s28 : Ctr := fun
  | [.agg [.val (.int .i64 p_xa), .val (.int .i64 p_xb), .val (.int .i64 p_xk), .val (.int .i64 p_ya), .val (.int .i64 p_yb), .val (.int .i64 p_yk)]] => some (true, bv (valP (⟨(⟨p_xa, p_xb, p_xk⟩ : N3), (⟨p_ya, p_yb, p_yk⟩ : N3)⟩ : P2)))
  | _ => none
theorem e28 (p_xa : Int) (p_xb : Int) (p_xk : Int) (p_ya : Int) (p_yb : Int) (p_yk : Int) : evN Tryz.prog GLv Γ18 (0) []  Tryz.f28 [.agg [.val (.int .i64 p_xa), .val (.int .i64 p_xb), .val (.int .i64 p_xk), .val (.int .i64 p_ya), .val (.int .i64 p_yb), .val (.int .i64 p_yk)]] = some (bv (valP (⟨(⟨p_xa, p_xb, p_xk⟩ : N3), (⟨p_ya, p_yb, p_yk⟩ : N3)⟩ : P2))) := by
  refine (show _ = cond (validB (N3.mk p_xa p_xb p_xk)) ( some (bv (validB (N3.mk p_ya p_yb p_yk))) ) ( some (bv (false)) ) from by kernel_rfl).trans ?_
  simp only [valP]
  cases validB (⟨p_xa, p_xb, p_xk⟩ : N3) <;> rfl
theorem m28 : Meets Tryz.prog GLv 28 s28 := by
  refine meetsN mix0 glv G18 Tryz.func28 (by kernel_rfl) (by kernel_rfl) s28 fun args x h => ?_
  unfold s28 at h
  split at h
  . rename_i p_xa p_xb p_xk p_ya p_yb p_yk
    simp only [Option.some.injEq, Prod.mk.injEq] at h
    obtain ⟨hp, rfl⟩ := h
    exact ⟨_, _, by kernel_rfl, e28 p_xa p_xb p_xk p_ya p_yb p_yk⟩
  . cases h
abbrev Γ19 : List (Nat × Ctr) := (28, s28) :: Γ18
theorem G19 : Sound Tryz.prog GLv Γ19 := G18.cons m28
-- spec.l02Point
def s55 : Ctr := fun
  | [.agg [.val (.int .i64 p_xa), .val (.int .i64 p_xb), .val (.int .i64 p_xk), .val (.int .i64 p_ya), .val (.int .i64 p_yb), .val (.int .i64 p_yk)]] => some (true, bv (valP (⟨(⟨p_xa, p_xb, p_xk⟩ : N3), (⟨p_ya, p_yb, p_yk⟩ : N3)⟩ : P2)))
  | _ => none
theorem e55 (p_xa : Int) (p_xb : Int) (p_xk : Int) (p_ya : Int) (p_yb : Int) (p_yk : Int) : evN Tryz.prog GLv Γ19 (0) []  Tryz.f55 [.agg [.val (.int .i64 p_xa), .val (.int .i64 p_xb), .val (.int .i64 p_xk), .val (.int .i64 p_ya), .val (.int .i64 p_yb), .val (.int .i64 p_yk)]] = some (bv (valP (⟨(⟨p_xa, p_xb, p_xk⟩ : N3), (⟨p_ya, p_yb, p_yk⟩ : N3)⟩ : P2))) := by
  refine (show _ = cond (validB (N3.mk p_xa p_xb p_xk)) ( some (bv (validB (N3.mk p_ya p_yb p_yk))) ) ( some (bv (false)) ) from by kernel_rfl).trans ?_
  simp only [valP]
  cases validB (⟨p_xa, p_xb, p_xk⟩ : N3) <;> rfl
theorem m55 : Meets Tryz.prog GLv 55 s55 := by
  refine meetsN mix0 glv G19 Tryz.func55 (by kernel_rfl) (by kernel_rfl) s55 fun args x h => ?_
  unfold s55 at h
  split at h
  . rename_i p_xa p_xb p_xk p_ya p_yb p_yk
    simp only [Option.some.injEq, Prod.mk.injEq] at h
    obtain ⟨hp, rfl⟩ := h
    exact ⟨_, _, by kernel_rfl, e55 p_xa p_xb p_xk p_ya p_yb p_yk⟩
  . cases h
abbrev Γ20 : List (Nat × Ctr) := (55, s55) :: Γ19
theorem G20 : Sound Tryz.prog GLv Γ20 := G19.cons m55
-- (impl.Point).checked
def s51 : Ctr := fun
  | [.agg [.val (.int .i64 p_xa), .val (.int .i64 p_xb), .val (.int .i64 p_xk), .val (.int .i64 p_ya), .val (.int .i64 p_yb), .val (.int .i64 p_yk)]] => some (kB p_xk && kB p_yk, rP (valP (redP (⟨(⟨p_xa, p_xb, p_xk⟩ : N3), (⟨p_ya, p_yb, p_yk⟩ : N3)⟩ : P2))) (redP (⟨(⟨p_xa, p_xb, p_xk⟩ : N3), (⟨p_ya, p_yb, p_yk⟩ : N3)⟩ : P2)))
  | _ => none
theorem e51 (p_xa : Int) (p_xb : Int) (p_xk : Int) (p_ya : Int) (p_yb : Int) (p_yk : Int) (hp : (kB p_xk && kB p_yk) = true) : evN Tryz.prog GLv Γ20 (0) []  Tryz.f51 [.agg [.val (.int .i64 p_xa), .val (.int .i64 p_xb), .val (.int .i64 p_xk), .val (.int .i64 p_ya), .val (.int .i64 p_yb), .val (.int .i64 p_yk)]] = some (rP (valP (redP (⟨(⟨p_xa, p_xb, p_xk⟩ : N3), (⟨p_ya, p_yb, p_yk⟩ : N3)⟩ : P2))) (redP (⟨(⟨p_xa, p_xb, p_xk⟩ : N3), (⟨p_ya, p_yb, p_yk⟩ : N3)⟩ : P2))) := by
  refine (show _ = cond (kB p_xk) ( cond (kB p_yk) ( cond (!chkB (N3.mk p_xa p_xb p_xk)) ( some ((.tup [(.agg [iv (0), iv (0), iv (0), iv (0), iv (0), iv (0)]), bv (false)])) ) ( cond (!chkB (N3.mk p_ya p_yb p_yk)) ( some ((.tup [(.agg [iv (0), iv (0), iv (0), iv (0), iv (0), iv (0)]), bv (false)])) ) ( some ((.tup [(.agg [iv (bif chkB (N3.mk p_xa p_xb p_xk) then (red (N3.mk p_xa p_xb p_xk)).1 else 0), iv (bif chkB (N3.mk p_xa p_xb p_xk) then (red (N3.mk p_xa p_xb p_xk)).2 else 0), iv (bif chkB (N3.mk p_xa p_xb p_xk) then (red (N3.mk p_xa p_xb p_xk)).3 else 0), iv (bif chkB (N3.mk p_ya p_yb p_yk) then (red (N3.mk p_ya p_yb p_yk)).1 else 0), iv (bif chkB (N3.mk p_ya p_yb p_yk) then (red (N3.mk p_ya p_yb p_yk)).2 else 0), iv (bif chkB (N3.mk p_ya p_yb p_yk) then (red (N3.mk p_ya p_yb p_yk)).3 else 0)]), bv (true)])) ) ) ) ( none ) ) ( none ) from by kernel_rfl).trans ?_
  rw [Bool.and_eq_true] at hp
  rw [hp.1, hp.2]
  simp only [valP, redP, rP, chkB, cond_true]
  cases validB (red (⟨p_xa, p_xb, p_xk⟩ : N3)) <;> cases validB (red (⟨p_ya, p_yb, p_yk⟩ : N3)) <;> rfl
theorem m51 : Meets Tryz.prog GLv 51 s51 := by
  refine meetsN mix0 glv G20 Tryz.func51 (by kernel_rfl) (by kernel_rfl) s51 fun args x h => ?_
  unfold s51 at h
  split at h
  . rename_i p_xa p_xb p_xk p_ya p_yb p_yk
    simp only [Option.some.injEq, Prod.mk.injEq] at h
    obtain ⟨hp, rfl⟩ := h
    exact ⟨_, _, by kernel_rfl, e51 p_xa p_xb p_xk p_ya p_yb p_yk hp⟩
  . cases h
abbrev Γ21 : List (Nat × Ctr) := (51, s51) :: Γ20
theorem G21 : Sound Tryz.prog GLv Γ21 := G20.cons m51
-- spec.l02Num
def s73 : Ctr := fun
  | [.agg [.val (.int .i64 p_xa), .val (.int .i64 p_xb), .val (.int .i64 p_xk), .val (.int .i64 p_ya), .val (.int .i64 p_yb), .val (.int .i64 p_yk)]] => some (kB p_xk && kB p_yk, rP (valP (redP (⟨(⟨p_xa, p_xb, p_xk⟩ : N3), (⟨p_ya, p_yb, p_yk⟩ : N3)⟩ : P2))) (redP (⟨(⟨p_xa, p_xb, p_xk⟩ : N3), (⟨p_ya, p_yb, p_yk⟩ : N3)⟩ : P2)))
  | _ => none
theorem e73 (p_xa : Int) (p_xb : Int) (p_xk : Int) (p_ya : Int) (p_yb : Int) (p_yk : Int) (hp : (kB p_xk && kB p_yk) = true) : evN Tryz.prog GLv Γ21 (0) []  Tryz.f73 [.agg [.val (.int .i64 p_xa), .val (.int .i64 p_xb), .val (.int .i64 p_xk), .val (.int .i64 p_ya), .val (.int .i64 p_yb), .val (.int .i64 p_yk)]] = some (rP (valP (redP (⟨(⟨p_xa, p_xb, p_xk⟩ : N3), (⟨p_ya, p_yb, p_yk⟩ : N3)⟩ : P2))) (redP (⟨(⟨p_xa, p_xb, p_xk⟩ : N3), (⟨p_ya, p_yb, p_yk⟩ : N3)⟩ : P2))) := by
  refine (show _ = cond (kB p_xk) ( cond (kB p_yk) ( cond (!chkB (N3.mk p_xa p_xb p_xk)) ( some ((.tup [(.agg [iv (0), iv (0), iv (0), iv (0), iv (0), iv (0)]), bv (false)])) ) ( cond (!chkB (N3.mk p_ya p_yb p_yk)) ( some ((.tup [(.agg [iv (0), iv (0), iv (0), iv (0), iv (0), iv (0)]), bv (false)])) ) ( some ((.tup [(.agg [iv (bif chkB (N3.mk p_xa p_xb p_xk) then (red (N3.mk p_xa p_xb p_xk)).1 else 0), iv (bif chkB (N3.mk p_xa p_xb p_xk) then (red (N3.mk p_xa p_xb p_xk)).2 else 0), iv (bif chkB (N3.mk p_xa p_xb p_xk) then (red (N3.mk p_xa p_xb p_xk)).3 else 0), iv (bif chkB (N3.mk p_ya p_yb p_yk) then (red (N3.mk p_ya p_yb p_yk)).1 else 0), iv (bif chkB (N3.mk p_ya p_yb p_yk) then (red (N3.mk p_ya p_yb p_yk)).2 else 0), iv (bif chkB (N3.mk p_ya p_yb p_yk) then (red (N3.mk p_ya p_yb p_yk)).3 else 0)]), bv (true)])) ) ) ) ( none ) ) ( none ) from by kernel_rfl).trans ?_
  rw [Bool.and_eq_true] at hp
  rw [hp.1, hp.2]
  simp only [valP, redP, rP, chkB, cond_true]
  cases validB (red (⟨p_xa, p_xb, p_xk⟩ : N3)) <;> cases validB (red (⟨p_ya, p_yb, p_yk⟩ : N3)) <;> rfl
theorem m73 : Meets Tryz.prog GLv 73 s73 := by
  refine meetsN mix0 glv G21 Tryz.func73 (by kernel_rfl) (by kernel_rfl) s73 fun args x h => ?_
  unfold s73 at h
  split at h
  . rename_i p_xa p_xb p_xk p_ya p_yb p_yk
    simp only [Option.some.injEq, Prod.mk.injEq] at h
    obtain ⟨hp, rfl⟩ := h
    exact ⟨_, _, by kernel_rfl, e73 p_xa p_xb p_xk p_ya p_yb p_yk hp⟩
  . cases h
abbrev Γ22 : List (Nat × Ctr) := (73, s73) :: Γ21
theorem G22 : Sound Tryz.prog GLv Γ22 := G21.cons m73
-- (impl.Num).over
def s90 : Ctr := fun
  | [.agg [.val (.int .i64 x_a), .val (.int .i64 x_b), .val (.int .i64 x_k)], .agg [.val (.int .i64 y_a), .val (.int .i64 y_b), .val (.int .i64 y_k)]] => some (dvP (⟨x_a, x_b, x_k⟩ : N3) (⟨y_a, y_b, y_k⟩ : N3), dvR (⟨x_a, x_b, x_k⟩ : N3) (⟨y_a, y_b, y_k⟩ : N3))
  | _ => none
theorem r90_step (K m : Nat) (n a b k : Int) : runL Tryz.prog GLv Γ22 K kx30 Tryz.f90 0 (m + 1) (stL Tryz.f90.ntmps [.non, .non, .non, .non, .own 25 [iv 0, iv 0, iv 0], bv false, iv (n), .own 25 [iv (a), iv (b), iv (k)]]) = cond (and64 n 1 == 0) (runL Tryz.prog GLv Γ22 K kx30 Tryz.f90 0 m (stL Tryz.f90.ntmps [.non, .non, .non, .non, .own 25 [iv 0, iv 0, iv 0], bv false, iv (wr (n.tdiv 2)), .own 25 [iv (a), iv (b), iv (wr (k + 1))]])) (implEnd n a b k) := by kernel_rfl
theorem r90_run (K : Nat) : ∀ (f : Nat) (n a b k : Int) (m : Nat), n ≠ 0 -> n.natAbs < 2 ^ f -> f <= 60 -> -1000000 <= k -> k + f <= 1000000 -> f < m ->
    runL Tryz.prog GLv Γ22 K kx30 Tryz.f90 0 m (stL Tryz.f90.ntmps [.non, .non, .non, .non, .own 25 [iv 0, iv 0, iv 0], bv false, iv (n), .own 25 [iv (a), iv (b), iv (k)]]) = implEnd (oddL f n k).1 a b (oddL f n k).2 := by
  intro f
  induction f with
  | zero => intro n a b k m hn hf; simp at hf; omega
  | succ f ih =>
    intro n a b k m hn hf hf60 hk hk' hm
    obtain ⟨m, rfl⟩ : ∃ m', m = m' + 1 := ⟨m - 1, by omega⟩
    have h60 : (2 : Nat) ^ (f + 1) <= 2 ^ 60 := Nat.pow_le_pow_right (by decide) hf60
    have e60 : (2 : Nat) ^ 60 = 1152921504606846976 := by decide
    rw [r90_step]
    rw [and64_one, show ((n % 2 == 0) = !odd n) from odd_zero n]
    cases ho : odd n with
    | true =>
      have e : oddL (f + 1) n k = (n, k) := by unfold oddL; rw [ho]; rfl
      rw [e]
      rfl
    | false =>
      obtain ⟨h1, h2⟩ := tdiv_two ho
      have e : oddL (f + 1) n k = oddL f (n.tdiv 2) (k + 1) := by conv => lhs; unfold oddL
                                                                  rw [ho]; rfl
      rw [e, Bool.not_false, cond_true, wr_in (n := n.tdiv 2) (by omega) (by omega), wr_in (n := k + 1) (by omega) (by omega)]
      exact ih _ _ _ _ _ (by omega) (by rw [Nat.pow_succ] at hf; omega) (by omega) (by omega) (by omega) (by omega)
theorem e90 (x_a : Int) (x_b : Int) (x_k : Int) (y_a : Int) (y_b : Int) (y_k : Int) (hp : (dvP (⟨x_a, x_b, x_k⟩ : N3) (⟨y_a, y_b, y_k⟩ : N3)) = true) : evN Tryz.prog GLv Γ22 (70) kx30  Tryz.f90 [.agg [.val (.int .i64 x_a), .val (.int .i64 x_b), .val (.int .i64 x_k)], .agg [.val (.int .i64 y_a), .val (.int .i64 y_b), .val (.int .i64 y_k)]] = some (dvR (⟨x_a, x_b, x_k⟩ : N3) (⟨y_a, y_b, y_k⟩ : N3)) := by
  refine (show _ = cond (divN (⟨y_a, y_b, y_k⟩ : N3) == 0) (some dvNo) (cond (pkm (⟨x_a, x_b, x_k⟩ : N3) (divC (⟨y_a, y_b, y_k⟩ : N3))) (runL Tryz.prog GLv Γ22 70 kx30 Tryz.f90 0 70 (stL Tryz.f90.ntmps [.non, .non, .non, .non, .own 25 [iv 0, iv 0, iv 0], bv false, iv (divN (⟨y_a, y_b, y_k⟩ : N3)), .own 25 [iv ((divT (⟨x_a, x_b, x_k⟩ : N3) (⟨y_a, y_b, y_k⟩ : N3)).a), iv ((divT (⟨x_a, x_b, x_k⟩ : N3) (⟨y_a, y_b, y_k⟩ : N3)).b), iv (wr ((divT (⟨x_a, x_b, x_k⟩ : N3) (⟨y_a, y_b, y_k⟩ : N3)).k - y_k))]])) none) from by kernel_rfl).trans ?_
  obtain ⟨ra, rb, rA, rB, rM, _, rN⟩ := raw_bd hp
  obtain ⟨⟨_, _, xk, xk'⟩, _, _, yk, yk'⟩ := dvP_iff.1 hp
  simp only at xk xk' yk yk'
  by_cases hz : divN (⟨y_a, y_b, y_k⟩ : N3) = 0
  . have hz' : (divN (⟨y_a, y_b, y_k⟩ : N3) == 0) = true := by simpa using hz
    rw [hz', cond_true]
    unfold dvR dvOk
    rw [hz']
    rfl
  have hz' : (divN (⟨y_a, y_b, y_k⟩ : N3) == 0) = false := by simpa using hz
  rw [hz', cond_false]
  obtain ⟨o1, o2, o3, _, _, _⟩ := dv_same hp hz
  have hb : (divN (⟨y_a, y_b, y_k⟩ : N3)).natAbs < 2 ^ 60 := by
    have : (2 : Nat) ^ 60 = 1152921504606846976 := by decide
    omega
  rw [pkm_div hp, cond_true, wr_in (n := (divT (⟨x_a, x_b, x_k⟩ : N3) (⟨y_a, y_b, y_k⟩ : N3)).k - y_k) (by omega) (by omega), r90_run 70 60 _ _ _ _ 70 hz hb (by decide) (by omega) (by omega) (by decide), oddL_shift]
  exact implEnd_eq hp hz
theorem m90 : Meets Tryz.prog GLv 90 s90 := by
  refine meetsN mix0 glv G22 Tryz.func90 (by kernel_rfl) (by kernel_rfl) s90 fun args x h => ?_
  unfold s90 at h
  split at h
  . rename_i x_a x_b x_k y_a y_b y_k
    simp only [Option.some.injEq, Prod.mk.injEq] at h
    obtain ⟨hp, rfl⟩ := h
    exact ⟨_, _, by kernel_rfl, e90 x_a x_b x_k y_a y_b y_k hp⟩
  . cases h
abbrev Γ23 : List (Nat × Ctr) := (90, s90) :: Γ22
theorem G23 : Sound Tryz.prog GLv Γ23 := G22.cons m90
-- spec.l01Div
def s109 : Ctr := fun
  | [.agg [.val (.int .i64 x_a), .val (.int .i64 x_b), .val (.int .i64 x_k)], .agg [.val (.int .i64 y_a), .val (.int .i64 y_b), .val (.int .i64 y_k)]] => some (dvP (⟨x_a, x_b, x_k⟩ : N3) (⟨y_a, y_b, y_k⟩ : N3), dvR (⟨x_a, x_b, x_k⟩ : N3) (⟨y_a, y_b, y_k⟩ : N3))
  | _ => none
theorem r109_step1 (K m : Nat) (n a b k c ya yb yk : Int) : runL Tryz.prog GLv Γ23 K kx26 Tryz.f109 1 (m + 1) (stL Tryz.f109.ntmps [.non, .non, .non, .own 90 [iv ya, iv yb, iv yk], .own 90 [iv 0, iv 0, iv 0], bv false, iv (n), .own 90 [iv (a), iv (b), iv (k)], iv (c)]) = cond (decide (c > 0)) (cond (decide (k > 0)) (runL Tryz.prog GLv Γ23 K kx26 Tryz.f109 1 m (stL Tryz.f109.ntmps [.non, .non, .non, .own 90 [iv ya, iv yb, iv yk], .own 90 [iv 0, iv 0, iv 0], bv false, iv (n), .own 90 [iv (a), iv (b), iv (wr (k - 1))], iv (wr (c - 1))])) (runL Tryz.prog GLv Γ23 K kx26 Tryz.f109 1 m (stL Tryz.f109.ntmps [.non, .non, .non, .own 90 [iv ya, iv yb, iv yk], .own 90 [iv 0, iv 0, iv 0], bv false, iv (n), .own 90 [iv (wr (a * 2)), iv (wr (b * 2)), iv (k)], iv (wr (c - 1))]))) (cond (kB k) (some (dvYes (red ⟨a, b, k⟩))) none) := by kernel_rfl
theorem r109_run1 (K : Nat) (ya yb yk n : Int) : ∀ (c : Nat) (a b k : Int) (m : Nat), 0 <= k -> k <= 1000000 -> c <= 1000000 -> c < m -> runL Tryz.prog GLv Γ23 K kx26 Tryz.f109 1 m (stL Tryz.f109.ntmps [.non, .non, .non, .own 90 [iv ya, iv yb, iv yk], .own 90 [iv 0, iv 0, iv 0], bv false, iv (n), .own 90 [iv (a), iv (b), iv (k)], iv ((c : Int))]) = some (dvYes (red (decF c a b k))) := by
  intro c
  induction c with
  | zero =>
    intro a b k m h0 h1 h2 h3
    obtain ⟨m, rfl⟩ : ∃ m', m = m' + 1 := ⟨m - 1, by omega⟩
    rw [r109_step1, show decide (((0 : Nat) : Int) > 0) = false from rfl, kB_iff.2 ⟨h0, by omega⟩]
    rfl
  | succ c ih =>
    intro a b k m h0 h1 h2 h3
    obtain ⟨m, rfl⟩ : ∃ m', m = m' + 1 := ⟨m - 1, by omega⟩
    have hc : decide (((c + 1 : Nat) : Int) > 0) = true := by rw [decide_eq_true_eq]; omega
    have hw : wr (((c + 1 : Nat) : Int) - 1) = (c : Int) := by rw [wr_in (by omega) (by omega)]; omega
    rw [r109_step1, hc, cond_true, hw]
    unfold decF
    by_cases hk : k > 0
    . rw [wr_in (n := k - 1) (by omega) (by omega), ih _ _ (k - 1) _ (by omega) (by omega) (by omega) (by omega)]
      simp only [hk, decide_true, cond_true, if_true]
    . rw [ih _ _ k _ (by omega) (by omega) (by omega) (by omega)]
      simp only [hk, decide_false, cond_false, if_false]
theorem r109_step (K m : Nat) (n a b k ya yb yk : Int) : runL Tryz.prog GLv Γ23 K kx26 Tryz.f109 0 (m + 1) (stL Tryz.f109.ntmps [.non, .non, .non, .own 90 [iv ya, iv yb, iv yk], .own 90 [iv 0, iv 0, iv 0], bv false, iv (n), .own 90 [iv (a), iv (b), iv (k)]]) = cond (n.tmod 2 == 0) (runL Tryz.prog GLv Γ23 K kx26 Tryz.f109 0 m (stL Tryz.f109.ntmps [.non, .non, .non, .own 90 [iv ya, iv yb, iv yk], .own 90 [iv 0, iv 0, iv 0], bv false, iv (wr (n.tdiv 2)), .own 90 [iv (a), iv (b), iv (wr (k + 1))]])) (specEnd (fun a b => runL Tryz.prog GLv Γ23 K kx26 Tryz.f109 1 K (stL Tryz.f109.ntmps [.non, .non, .non, .own 90 [iv ya, iv yb, iv yk], .own 90 [iv 0, iv 0, iv 0], bv false, iv (n), .own 90 [iv (a), iv (b), iv (k)], iv (yk)])) n a b) := by kernel_rfl
theorem r109_run (K : Nat) (ya yb yk : Int) : ∀ (f : Nat) (n a b k : Int) (m : Nat), n ≠ 0 -> n.natAbs < 2 ^ f -> f <= 60 -> -1000000 <= k -> k + f <= 1000000 -> f < m ->
    runL Tryz.prog GLv Γ23 K kx26 Tryz.f109 0 m (stL Tryz.f109.ntmps [.non, .non, .non, .own 90 [iv ya, iv yb, iv yk], .own 90 [iv 0, iv 0, iv 0], bv false, iv (n), .own 90 [iv (a), iv (b), iv (k)]]) = specEnd (fun a b => runL Tryz.prog GLv Γ23 K kx26 Tryz.f109 1 K (stL Tryz.f109.ntmps [.non, .non, .non, .own 90 [iv ya, iv yb, iv yk], .own 90 [iv 0, iv 0, iv 0], bv false, iv ((oddL f n k).1), .own 90 [iv (a), iv (b), iv ((oddL f n k).2)], iv (yk)])) (oddL f n k).1 a b := by
  intro f
  induction f with
  | zero => intro n a b k m hn hf; simp at hf; omega
  | succ f ih =>
    intro n a b k m hn hf hf60 hk hk' hm
    obtain ⟨m, rfl⟩ : ∃ m', m = m' + 1 := ⟨m - 1, by omega⟩
    have h60 : (2 : Nat) ^ (f + 1) <= 2 ^ 60 := Nat.pow_le_pow_right (by decide) hf60
    have e60 : (2 : Nat) ^ 60 = 1152921504606846976 := by decide
    rw [r109_step]
    rw [tmod_zero]
    cases ho : odd n with
    | true =>
      have e : oddL (f + 1) n k = (n, k) := by unfold oddL; rw [ho]; rfl
      rw [e]
      rfl
    | false =>
      obtain ⟨h1, h2⟩ := tdiv_two ho
      have e : oddL (f + 1) n k = oddL f (n.tdiv 2) (k + 1) := by conv => lhs; unfold oddL
                                                                  rw [ho]; rfl
      rw [e, Bool.not_false, cond_true, wr_in (n := n.tdiv 2) (by omega) (by omega), wr_in (n := k + 1) (by omega) (by omega)]
      exact ih _ _ _ _ _ (by omega) (by rw [Nat.pow_succ] at hf; omega) (by omega) (by omega) (by omega) (by omega)
theorem e109 (x_a : Int) (x_b : Int) (x_k : Int) (y_a : Int) (y_b : Int) (y_k : Int) (hp : (dvP (⟨x_a, x_b, x_k⟩ : N3) (⟨y_a, y_b, y_k⟩ : N3)) = true) : evN Tryz.prog GLv Γ23 (70) kx26  Tryz.f109 [.agg [.val (.int .i64 x_a), .val (.int .i64 x_b), .val (.int .i64 x_k)], .agg [.val (.int .i64 y_a), .val (.int .i64 y_b), .val (.int .i64 y_k)]] = some (dvR (⟨x_a, x_b, x_k⟩ : N3) (⟨y_a, y_b, y_k⟩ : N3)) := by
  refine (show _ = cond (divN (⟨y_a, y_b, y_k⟩ : N3) == 0) (some dvNo) (runL Tryz.prog GLv Γ23 70 kx26 Tryz.f109 0 70 (stL Tryz.f109.ntmps [.non, .non, .non, .own 90 [iv y_a, iv y_b, iv y_k], .own 90 [iv 0, iv 0, iv 0], bv false, iv (divN (⟨y_a, y_b, y_k⟩ : N3)), .own 90 [iv (wr (wr (x_a * y_a) - wr (wr (2 * x_b) * y_b))), iv (wr (wr (x_b * y_a) - wr (x_a * y_b))), iv (x_k)]])) from by kernel_rfl).trans ?_
  obtain ⟨ra, rb, rA, rB, rM, _, rN⟩ := raw_bd hp
  obtain ⟨⟨_, _, xk, xk'⟩, _, _, yk, yk'⟩ := dvP_iff.1 hp
  simp only at xk xk' yk yk'
  by_cases hz : divN (⟨y_a, y_b, y_k⟩ : N3) = 0
  . have hz' : (divN (⟨y_a, y_b, y_k⟩ : N3) == 0) = true := by simpa using hz
    rw [hz', cond_true]
    unfold dvR dvOk
    rw [hz']
    rfl
  have hz' : (divN (⟨y_a, y_b, y_k⟩ : N3) == 0) = false := by simpa using hz
  rw [hz', cond_false]
  obtain ⟨o1, o2, o3, _, _, _⟩ := dv_same hp hz
  have hb : (divN (⟨y_a, y_b, y_k⟩ : N3)).natAbs < 2 ^ 60 := by
    have : (2 : Nat) ^ 60 = 1152921504606846976 := by decide
    omega
  simp only at rA rB
  rw [rA, rB, r109_run 70 y_a y_b y_k 60 _ _ _ _ 70 hz hb (by decide) (by omega) (by omega) (by decide), oddL_shift]
  refine specEnd_eq hp hz _ fun a b => ?_
  have hy : y_k = ((y_k.toNat : Nat) : Int) := by omega
  conv => lhs; rw [hy]
  exact r109_run1 70 y_a y_b _ _ y_k.toNat a b _ 70 (by show 0 <= x_k + dvE (⟨y_a, y_b, y_k⟩ : N3); omega) (by show x_k + dvE (⟨y_a, y_b, y_k⟩ : N3) <= _; omega) (by omega) (by omega)
theorem m109 : Meets Tryz.prog GLv 109 s109 := by
  refine meetsN mix0 glv G23 Tryz.func109 (by kernel_rfl) (by kernel_rfl) s109 fun args x h => ?_
  unfold s109 at h
  split at h
  . rename_i x_a x_b x_k y_a y_b y_k
    simp only [Option.some.injEq, Prod.mk.injEq] at h
    obtain ⟨hp, rfl⟩ := h
    exact ⟨_, _, by kernel_rfl, e109 x_a x_b x_k y_a y_b y_k hp⟩
  . cases h
abbrev Γ24 : List (Nat × Ctr) := (109, s109) :: Γ23
theorem G24 : Sound Tryz.prog GLv Γ24 := G23.cons m109
-- impl.vector
def s95 : Ctr := fun
  | [.val (.int .i64 d)] => some (inB d 0 15, (vecP d).av)
  | _ => none
theorem e95 (d : Int) (hp : (inB d 0 15) = true) : evN Tryz.prog GLv Γ24 (0) []  Tryz.f95 [.val (.int .i64 d)] = some ((vecP d).av) := by
  rw [inB_iff] at hp
  have hh : d = 0 \/ d = 1 \/ d = 2 \/ d = 3 \/ d = 4 \/ d = 5 \/ d = 6 \/ d = 7 \/ d = 8 \/ d = 9 \/ d = 10 \/ d = 11 \/ d = 12 \/ d = 13 \/ d = 14 \/ d = 15 := by omega
  clear hp
  rcases hh with rfl | rfl | rfl | rfl | rfl | rfl | rfl | rfl | rfl | rfl | rfl | rfl | rfl | rfl | rfl | rfl
  all_goals (show _ = _; kernel_rfl)
theorem m95 : Meets Tryz.prog GLv 95 s95 := by
  refine meetsN mix0 glv G24 Tryz.func95 (by kernel_rfl) (by kernel_rfl) s95 fun args x h => ?_
  unfold s95 at h
  split at h
  . rename_i d
    simp only [Option.some.injEq, Prod.mk.injEq] at h
    obtain ⟨hp, rfl⟩ := h
    exact ⟨_, _, by kernel_rfl, e95 d hp⟩
  . cases h
abbrev Γ25 : List (Nat × Ctr) := (95, s95) :: Γ24
theorem G25 : Sound Tryz.prog GLv Γ25 := G24.cons m95
-- spec.l02Mod
def s58 : Ctr := fun
  | [.val (.int .i64 d)] => some (inB d 0 15, .val (.int .i64 d))
  | _ => none
theorem e58 (d : Int) (hp : (inB d 0 15) = true) : evN Tryz.prog GLv Γ25 (0) []  Tryz.f58 [.val (.int .i64 d)] = some (.val (.int .i64 d)) := by
  rw [inB_iff] at hp
  have hh : d = 0 \/ d = 1 \/ d = 2 \/ d = 3 \/ d = 4 \/ d = 5 \/ d = 6 \/ d = 7 \/ d = 8 \/ d = 9 \/ d = 10 \/ d = 11 \/ d = 12 \/ d = 13 \/ d = 14 \/ d = 15 := by omega
  clear hp
  rcases hh with rfl | rfl | rfl | rfl | rfl | rfl | rfl | rfl | rfl | rfl | rfl | rfl | rfl | rfl | rfl | rfl
  all_goals (show _ = _; kernel_rfl)
theorem m58 : Meets Tryz.prog GLv 58 s58 := by
  refine meetsN mix0 glv G25 Tryz.func58 (by kernel_rfl) (by kernel_rfl) s58 fun args x h => ?_
  unfold s58 at h
  split at h
  . rename_i d
    simp only [Option.some.injEq, Prod.mk.injEq] at h
    obtain ⟨hp, rfl⟩ := h
    exact ⟨_, _, by kernel_rfl, e58 d hp⟩
  . cases h
abbrev Γ26 : List (Nat × Ctr) := (58, s58) :: Γ25
theorem G26 : Sound Tryz.prog GLv Γ26 := G25.cons m58
-- spec.l02Vec
def s69 : Ctr := fun
  | [.val (.int .i64 d)] => some (inB d 0 15, (vecP d).av)
  | _ => none
theorem e69 (d : Int) (hp : (inB d 0 15) = true) : evN Tryz.prog GLv Γ26 (0) []  Tryz.f69 [.val (.int .i64 d)] = some ((vecP d).av) := by
  rw [inB_iff] at hp
  have hh : d = 0 \/ d = 1 \/ d = 2 \/ d = 3 \/ d = 4 \/ d = 5 \/ d = 6 \/ d = 7 \/ d = 8 \/ d = 9 \/ d = 10 \/ d = 11 \/ d = 12 \/ d = 13 \/ d = 14 \/ d = 15 := by omega
  clear hp
  rcases hh with rfl | rfl | rfl | rfl | rfl | rfl | rfl | rfl | rfl | rfl | rfl | rfl | rfl | rfl | rfl | rfl
  all_goals (show _ = _; kernel_rfl)
theorem m69 : Meets Tryz.prog GLv 69 s69 := by
  refine meetsN mix0 glv G26 Tryz.func69 (by kernel_rfl) (by kernel_rfl) s69 fun args x h => ?_
  unfold s69 at h
  split at h
  . rename_i d
    simp only [Option.some.injEq, Prod.mk.injEq] at h
    obtain ⟨hp, rfl⟩ := h
    exact ⟨_, _, by kernel_rfl, e69 d hp⟩
  . cases h
abbrev Γ27 : List (Nat × Ctr) := (69, s69) :: Γ26
theorem G27 : Sound Tryz.prog GLv Γ27 := G26.cons m69
-- (impl.Line).normal
def s63 : Ctr := fun
  | [.agg [.val (.int .i64 l_d), .val (.int .i64 l_a), .val (.int .i64 l_b), .val (.int .i64 l_k)]] => some (inB (wr (l_d + 4)) 0 15, (nrm l_d).av)
  | _ => none
theorem e63 (l_d : Int) (l_a : Int) (l_b : Int) (l_k : Int) (hp : (inB (wr (l_d + 4)) 0 15) = true) : evN Tryz.prog GLv Γ27 (0) []  Tryz.f63 [.agg [.val (.int .i64 l_d), .val (.int .i64 l_a), .val (.int .i64 l_b), .val (.int .i64 l_k)]] = some ((nrm l_d).av) := by
  refine (show _ = cond (inB (wr (l_d + 4)) 0 15) (some (nrm l_d).av) none from by kernel_rfl).trans ?_
  rw [hp]
  rfl
theorem m63 : Meets Tryz.prog GLv 63 s63 := by
  refine meetsN mix0 glv G27 Tryz.func63 (by kernel_rfl) (by kernel_rfl) s63 fun args x h => ?_
  unfold s63 at h
  split at h
  . rename_i l_d l_a l_b l_k
    simp only [Option.some.injEq, Prod.mk.injEq] at h
    obtain ⟨hp, rfl⟩ := h
    exact ⟨_, _, by kernel_rfl, e63 l_d l_a l_b l_k hp⟩
  . cases h
abbrev Γ28 : List (Nat × Ctr) := (63, s63) :: Γ27
theorem G28 : Sound Tryz.prog GLv Γ28 := G27.cons m63
-- spec.l02LineOf
def s62 : Ctr := fun
  | [.agg [.val (.int .i64 l_d), .val (.int .i64 l_a), .val (.int .i64 l_b), .val (.int .i64 l_k)]] => some (true, .agg [.val (.int .i64 l_d), .val (.int .i64 l_a), .val (.int .i64 l_b), .val (.int .i64 l_k)])
  | _ => none
theorem e62 (l_d : Int) (l_a : Int) (l_b : Int) (l_k : Int) : evN Tryz.prog GLv Γ28 (0) []  Tryz.f62 [.agg [.val (.int .i64 l_d), .val (.int .i64 l_a), .val (.int .i64 l_b), .val (.int .i64 l_k)]] = some (.agg [.val (.int .i64 l_d), .val (.int .i64 l_a), .val (.int .i64 l_b), .val (.int .i64 l_k)]) := by
  kernel_rfl
theorem m62 : Meets Tryz.prog GLv 62 s62 := by
  refine meetsN mix0 glv G28 Tryz.func62 (by kernel_rfl) (by kernel_rfl) s62 fun args x h => ?_
  unfold s62 at h
  split at h
  . rename_i l_d l_a l_b l_k
    simp only [Option.some.injEq, Prod.mk.injEq] at h
    obtain ⟨hp, rfl⟩ := h
    exact ⟨_, _, by kernel_rfl, e62 l_d l_a l_b l_k⟩
  . cases h
abbrev Γ29 : List (Nat × Ctr) := (62, s62) :: Γ28
theorem G29 : Sound Tryz.prog GLv Γ29 := G28.cons m62
-- impl.ValidLine
def s22 : Ctr := fun
  | [.agg [.val (.int .i64 l_d), .val (.int .i64 l_a), .val (.int .i64 l_b), .val (.int .i64 l_k)]] => some (true, bv (inB l_d 0 7 && validB (⟨l_a, l_b, l_k⟩ : N3)))
  | _ => none
theorem e22 (l_d : Int) (l_a : Int) (l_b : Int) (l_k : Int) : evN Tryz.prog GLv Γ29 (0) []  Tryz.f22 [.agg [.val (.int .i64 l_d), .val (.int .i64 l_a), .val (.int .i64 l_b), .val (.int .i64 l_k)]] = some (bv (inB l_d 0 7 && validB (⟨l_a, l_b, l_k⟩ : N3))) := by
  refine (show _ = cond (inB l_d 0 7) ( some (bv (validB (N3.mk l_a l_b l_k))) ) ( some (bv (false)) ) from by kernel_rfl).trans ?_
  cases inB l_d 0 7 <;> rfl
theorem m22 : Meets Tryz.prog GLv 22 s22 := by
  refine meetsN mix0 glv G29 Tryz.func22 (by kernel_rfl) (by kernel_rfl) s22 fun args x h => ?_
  unfold s22 at h
  split at h
  . rename_i l_d l_a l_b l_k
    simp only [Option.some.injEq, Prod.mk.injEq] at h
    obtain ⟨hp, rfl⟩ := h
    exact ⟨_, _, by kernel_rfl, e22 l_d l_a l_b l_k⟩
  . cases h
abbrev Γ30 : List (Nat × Ctr) := (22, s22) :: Γ29
theorem G30 : Sound Tryz.prog GLv Γ30 := G29.cons m22
-- spec.l02Line
def s26 : Ctr := fun
  | [.agg [.val (.int .i64 l_d), .val (.int .i64 l_a), .val (.int .i64 l_b), .val (.int .i64 l_k)]] => some (true, bv (inB l_d 0 7 && validB (⟨l_a, l_b, l_k⟩ : N3)))
  | _ => none
theorem e26 (l_d : Int) (l_a : Int) (l_b : Int) (l_k : Int) : evN Tryz.prog GLv Γ30 (0) []  Tryz.f26 [.agg [.val (.int .i64 l_d), .val (.int .i64 l_a), .val (.int .i64 l_b), .val (.int .i64 l_k)]] = some (bv (inB l_d 0 7 && validB (⟨l_a, l_b, l_k⟩ : N3))) := by
  refine (show _ = cond (inB l_d 0 7) ( some (bv (validB (N3.mk l_a l_b l_k))) ) ( some (bv (false)) ) from by kernel_rfl).trans ?_
  cases inB l_d 0 7 <;> rfl
theorem m26 : Meets Tryz.prog GLv 26 s26 := by
  refine meetsN mix0 glv G30 Tryz.func26 (by kernel_rfl) (by kernel_rfl) s26 fun args x h => ?_
  unfold s26 at h
  split at h
  . rename_i l_d l_a l_b l_k
    simp only [Option.some.injEq, Prod.mk.injEq] at h
    obtain ⟨hp, rfl⟩ := h
    exact ⟨_, _, by kernel_rfl, e26 l_d l_a l_b l_k⟩
  . cases h
abbrev Γ31 : List (Nat × Ctr) := (26, s26) :: Γ30
theorem G31 : Sound Tryz.prog GLv Γ31 := G30.cons m26
-- (impl.Point).dot
def s64 : Ctr := fun
  | [.agg [.val (.int .i64 p_xa), .val (.int .i64 p_xb), .val (.int .i64 p_xk), .val (.int .i64 p_ya), .val (.int .i64 p_yb), .val (.int .i64 p_yk)], .agg [.val (.int .i64 q_xa), .val (.int .i64 q_xb), .val (.int .i64 q_xk), .val (.int .i64 q_ya), .val (.int .i64 q_yb), .val (.int .i64 q_yk)]] => some (pkD (⟨(⟨p_xa, p_xb, p_xk⟩ : N3), (⟨p_ya, p_yb, p_yk⟩ : N3)⟩ : P2) (⟨(⟨q_xa, q_xb, q_xk⟩ : N3), (⟨q_ya, q_yb, q_yk⟩ : N3)⟩ : P2), (dotF (⟨(⟨p_xa, p_xb, p_xk⟩ : N3), (⟨p_ya, p_yb, p_yk⟩ : N3)⟩ : P2) (⟨(⟨q_xa, q_xb, q_xk⟩ : N3), (⟨q_ya, q_yb, q_yk⟩ : N3)⟩ : P2)).av)
  | _ => none
theorem e64 (p_xa : Int) (p_xb : Int) (p_xk : Int) (p_ya : Int) (p_yb : Int) (p_yk : Int) (q_xa : Int) (q_xb : Int) (q_xk : Int) (q_ya : Int) (q_yb : Int) (q_yk : Int) (hp : (pkD (⟨(⟨p_xa, p_xb, p_xk⟩ : N3), (⟨p_ya, p_yb, p_yk⟩ : N3)⟩ : P2) (⟨(⟨q_xa, q_xb, q_xk⟩ : N3), (⟨q_ya, q_yb, q_yk⟩ : N3)⟩ : P2)) = true) : evN Tryz.prog GLv Γ31 (0) []  Tryz.f64 [.agg [.val (.int .i64 p_xa), .val (.int .i64 p_xb), .val (.int .i64 p_xk), .val (.int .i64 p_ya), .val (.int .i64 p_yb), .val (.int .i64 p_yk)], .agg [.val (.int .i64 q_xa), .val (.int .i64 q_xb), .val (.int .i64 q_xk), .val (.int .i64 q_ya), .val (.int .i64 q_yb), .val (.int .i64 q_yk)]] = some ((dotF (⟨(⟨p_xa, p_xb, p_xk⟩ : N3), (⟨p_ya, p_yb, p_yk⟩ : N3)⟩ : P2) (⟨(⟨q_xa, q_xb, q_xk⟩ : N3), (⟨q_ya, q_yb, q_yk⟩ : N3)⟩ : P2)).av) := by
  simp only [pkD, Bool.and_eq_true] at hp
  obtain ⟨h1, h2, h3⟩ := hp
  refine (show _ = cond (pkm (⟨p_xa, p_xb, p_xk⟩ : N3) (⟨q_xa, q_xb, q_xk⟩ : N3)) (cond (pkm (⟨p_ya, p_yb, p_yk⟩ : N3) (⟨q_ya, q_yb, q_yk⟩ : N3)) (cond (pk (mulF (⟨p_xa, p_xb, p_xk⟩ : N3) (⟨q_xa, q_xb, q_xk⟩ : N3)) (mulF (⟨p_ya, p_yb, p_yk⟩ : N3) (⟨q_ya, q_yb, q_yk⟩ : N3))) (some (dotF (⟨(⟨p_xa, p_xb, p_xk⟩ : N3), (⟨p_ya, p_yb, p_yk⟩ : N3)⟩ : P2) (⟨(⟨q_xa, q_xb, q_xk⟩ : N3), (⟨q_ya, q_yb, q_yk⟩ : N3)⟩ : P2)).av) none) none) none from by kernel_rfl).trans ?_
  rw [h1, h2, h3]
  rfl
theorem m64 : Meets Tryz.prog GLv 64 s64 := by
  refine meetsN mix0 glv G31 Tryz.func64 (by kernel_rfl) (by kernel_rfl) s64 fun args x h => ?_
  unfold s64 at h
  split at h
  . rename_i p_xa p_xb p_xk p_ya p_yb p_yk q_xa q_xb q_xk q_ya q_yb q_yk
    simp only [Option.some.injEq, Prod.mk.injEq] at h
    obtain ⟨hp, rfl⟩ := h
    exact ⟨_, _, by kernel_rfl, e64 p_xa p_xb p_xk p_ya p_yb p_yk q_xa q_xb q_xk q_ya q_yb q_yk hp⟩
  . cases h
abbrev Γ32 : List (Nat × Ctr) := (64, s64) :: Γ31
theorem G32 : Sound Tryz.prog GLv Γ32 := G31.cons m64
-- (impl.Point).cross
def s88 : Ctr := fun
  | [.agg [.val (.int .i64 p_xa), .val (.int .i64 p_xb), .val (.int .i64 p_xk), .val (.int .i64 p_ya), .val (.int .i64 p_yb), .val (.int .i64 p_yk)], .agg [.val (.int .i64 q_xa), .val (.int .i64 q_xb), .val (.int .i64 q_xk), .val (.int .i64 q_ya), .val (.int .i64 q_yb), .val (.int .i64 q_yk)]] => some (pkC (⟨(⟨p_xa, p_xb, p_xk⟩ : N3), (⟨p_ya, p_yb, p_yk⟩ : N3)⟩ : P2) (⟨(⟨q_xa, q_xb, q_xk⟩ : N3), (⟨q_ya, q_yb, q_yk⟩ : N3)⟩ : P2), (crsF (⟨(⟨p_xa, p_xb, p_xk⟩ : N3), (⟨p_ya, p_yb, p_yk⟩ : N3)⟩ : P2) (⟨(⟨q_xa, q_xb, q_xk⟩ : N3), (⟨q_ya, q_yb, q_yk⟩ : N3)⟩ : P2)).av)
  | _ => none
theorem e88 (p_xa : Int) (p_xb : Int) (p_xk : Int) (p_ya : Int) (p_yb : Int) (p_yk : Int) (q_xa : Int) (q_xb : Int) (q_xk : Int) (q_ya : Int) (q_yb : Int) (q_yk : Int) (hp : (pkC (⟨(⟨p_xa, p_xb, p_xk⟩ : N3), (⟨p_ya, p_yb, p_yk⟩ : N3)⟩ : P2) (⟨(⟨q_xa, q_xb, q_xk⟩ : N3), (⟨q_ya, q_yb, q_yk⟩ : N3)⟩ : P2)) = true) : evN Tryz.prog GLv Γ32 (0) []  Tryz.f88 [.agg [.val (.int .i64 p_xa), .val (.int .i64 p_xb), .val (.int .i64 p_xk), .val (.int .i64 p_ya), .val (.int .i64 p_yb), .val (.int .i64 p_yk)], .agg [.val (.int .i64 q_xa), .val (.int .i64 q_xb), .val (.int .i64 q_xk), .val (.int .i64 q_ya), .val (.int .i64 q_yb), .val (.int .i64 q_yk)]] = some ((crsF (⟨(⟨p_xa, p_xb, p_xk⟩ : N3), (⟨p_ya, p_yb, p_yk⟩ : N3)⟩ : P2) (⟨(⟨q_xa, q_xb, q_xk⟩ : N3), (⟨q_ya, q_yb, q_yk⟩ : N3)⟩ : P2)).av) := by
  simp only [pkC, Bool.and_eq_true] at hp
  obtain ⟨h1, h2, h3⟩ := hp
  refine (show _ = cond (pkm (⟨p_xa, p_xb, p_xk⟩ : N3) (⟨q_ya, q_yb, q_yk⟩ : N3)) (cond (pkm (⟨p_ya, p_yb, p_yk⟩ : N3) (⟨q_xa, q_xb, q_xk⟩ : N3)) (cond (pk (mulF (⟨p_xa, p_xb, p_xk⟩ : N3) (⟨q_ya, q_yb, q_yk⟩ : N3)) (mulF (⟨p_ya, p_yb, p_yk⟩ : N3) (⟨q_xa, q_xb, q_xk⟩ : N3))) (some (crsF (⟨(⟨p_xa, p_xb, p_xk⟩ : N3), (⟨p_ya, p_yb, p_yk⟩ : N3)⟩ : P2) (⟨(⟨q_xa, q_xb, q_xk⟩ : N3), (⟨q_ya, q_yb, q_yk⟩ : N3)⟩ : P2)).av) none) none) none from by kernel_rfl).trans ?_
  rw [h1, h2, h3]
  rfl
theorem m88 : Meets Tryz.prog GLv 88 s88 := by
  refine meetsN mix0 glv G32 Tryz.func88 (by kernel_rfl) (by kernel_rfl) s88 fun args x h => ?_
  unfold s88 at h
  split at h
  . rename_i p_xa p_xb p_xk p_ya p_yb p_yk q_xa q_xb q_xk q_ya q_yb q_yk
    simp only [Option.some.injEq, Prod.mk.injEq] at h
    obtain ⟨hp, rfl⟩ := h
    exact ⟨_, _, by kernel_rfl, e88 p_xa p_xb p_xk p_ya p_yb p_yk q_xa q_xb q_xk q_ya q_yb q_yk hp⟩
  . cases h
abbrev Γ33 : List (Nat × Ctr) := (88, s88) :: Γ32
theorem G33 : Sound Tryz.prog GLv Γ33 := G32.cons m88
-- (impl.Point).minus
def s100 : Ctr := fun
  | [.agg [.val (.int .i64 p_xa), .val (.int .i64 p_xb), .val (.int .i64 p_xk), .val (.int .i64 p_ya), .val (.int .i64 p_yb), .val (.int .i64 p_yk)], .agg [.val (.int .i64 q_xa), .val (.int .i64 q_xb), .val (.int .i64 q_xk), .val (.int .i64 q_ya), .val (.int .i64 q_yb), .val (.int .i64 q_yk)]] => some (pkP (⟨(⟨p_xa, p_xb, p_xk⟩ : N3), (⟨p_ya, p_yb, p_yk⟩ : N3)⟩ : P2) (⟨(⟨q_xa, q_xb, q_xk⟩ : N3), (⟨q_ya, q_yb, q_yk⟩ : N3)⟩ : P2), (subP (⟨(⟨p_xa, p_xb, p_xk⟩ : N3), (⟨p_ya, p_yb, p_yk⟩ : N3)⟩ : P2) (⟨(⟨q_xa, q_xb, q_xk⟩ : N3), (⟨q_ya, q_yb, q_yk⟩ : N3)⟩ : P2)).av)
  | _ => none
theorem e100 (p_xa : Int) (p_xb : Int) (p_xk : Int) (p_ya : Int) (p_yb : Int) (p_yk : Int) (q_xa : Int) (q_xb : Int) (q_xk : Int) (q_ya : Int) (q_yb : Int) (q_yk : Int) (hp : (pkP (⟨(⟨p_xa, p_xb, p_xk⟩ : N3), (⟨p_ya, p_yb, p_yk⟩ : N3)⟩ : P2) (⟨(⟨q_xa, q_xb, q_xk⟩ : N3), (⟨q_ya, q_yb, q_yk⟩ : N3)⟩ : P2)) = true) : evN Tryz.prog GLv Γ33 (0) []  Tryz.f100 [.agg [.val (.int .i64 p_xa), .val (.int .i64 p_xb), .val (.int .i64 p_xk), .val (.int .i64 p_ya), .val (.int .i64 p_yb), .val (.int .i64 p_yk)], .agg [.val (.int .i64 q_xa), .val (.int .i64 q_xb), .val (.int .i64 q_xk), .val (.int .i64 q_ya), .val (.int .i64 q_yb), .val (.int .i64 q_yk)]] = some ((subP (⟨(⟨p_xa, p_xb, p_xk⟩ : N3), (⟨p_ya, p_yb, p_yk⟩ : N3)⟩ : P2) (⟨(⟨q_xa, q_xb, q_xk⟩ : N3), (⟨q_ya, q_yb, q_yk⟩ : N3)⟩ : P2)).av) := by
  simp only [pkP, Bool.and_eq_true] at hp
  obtain ⟨h1, h2⟩ := hp
  refine (show _ = cond (pk (⟨p_xa, p_xb, p_xk⟩ : N3) (⟨q_xa, q_xb, q_xk⟩ : N3)) (cond (pk (⟨p_ya, p_yb, p_yk⟩ : N3) (⟨q_ya, q_yb, q_yk⟩ : N3)) (some (subP (⟨(⟨p_xa, p_xb, p_xk⟩ : N3), (⟨p_ya, p_yb, p_yk⟩ : N3)⟩ : P2) (⟨(⟨q_xa, q_xb, q_xk⟩ : N3), (⟨q_ya, q_yb, q_yk⟩ : N3)⟩ : P2)).av) none) none from by kernel_rfl).trans ?_
  rw [h1, h2]
  rfl
theorem m100 : Meets Tryz.prog GLv 100 s100 := by
  refine meetsN mix0 glv G33 Tryz.func100 (by kernel_rfl) (by kernel_rfl) s100 fun args x h => ?_
  unfold s100 at h
  split at h
  . rename_i p_xa p_xb p_xk p_ya p_yb p_yk q_xa q_xb q_xk q_ya q_yb q_yk
    simp only [Option.some.injEq, Prod.mk.injEq] at h
    obtain ⟨hp, rfl⟩ := h
    exact ⟨_, _, by kernel_rfl, e100 p_xa p_xb p_xk p_ya p_yb p_yk q_xa q_xb q_xk q_ya q_yb q_yk hp⟩
  . cases h
abbrev Γ34 : List (Nat × Ctr) := (100, s100) :: Γ33
theorem G34 : Sound Tryz.prog GLv Γ34 := G33.cons m100
-- spec.l02Minus
def s76 : Ctr := fun
  | [.agg [.val (.int .i64 p_xa), .val (.int .i64 p_xb), .val (.int .i64 p_xk), .val (.int .i64 p_ya), .val (.int .i64 p_yb), .val (.int .i64 p_yk)], .agg [.val (.int .i64 q_xa), .val (.int .i64 q_xb), .val (.int .i64 q_xk), .val (.int .i64 q_ya), .val (.int .i64 q_yb), .val (.int .i64 q_yk)]] => some (pkP (⟨(⟨p_xa, p_xb, p_xk⟩ : N3), (⟨p_ya, p_yb, p_yk⟩ : N3)⟩ : P2) (⟨(⟨q_xa, q_xb, q_xk⟩ : N3), (⟨q_ya, q_yb, q_yk⟩ : N3)⟩ : P2), (subP (⟨(⟨p_xa, p_xb, p_xk⟩ : N3), (⟨p_ya, p_yb, p_yk⟩ : N3)⟩ : P2) (⟨(⟨q_xa, q_xb, q_xk⟩ : N3), (⟨q_ya, q_yb, q_yk⟩ : N3)⟩ : P2)).av)
  | _ => none
theorem e76 (p_xa : Int) (p_xb : Int) (p_xk : Int) (p_ya : Int) (p_yb : Int) (p_yk : Int) (q_xa : Int) (q_xb : Int) (q_xk : Int) (q_ya : Int) (q_yb : Int) (q_yk : Int) (hp : (pkP (⟨(⟨p_xa, p_xb, p_xk⟩ : N3), (⟨p_ya, p_yb, p_yk⟩ : N3)⟩ : P2) (⟨(⟨q_xa, q_xb, q_xk⟩ : N3), (⟨q_ya, q_yb, q_yk⟩ : N3)⟩ : P2)) = true) : evN Tryz.prog GLv Γ34 (0) []  Tryz.f76 [.agg [.val (.int .i64 p_xa), .val (.int .i64 p_xb), .val (.int .i64 p_xk), .val (.int .i64 p_ya), .val (.int .i64 p_yb), .val (.int .i64 p_yk)], .agg [.val (.int .i64 q_xa), .val (.int .i64 q_xb), .val (.int .i64 q_xk), .val (.int .i64 q_ya), .val (.int .i64 q_yb), .val (.int .i64 q_yk)]] = some ((subP (⟨(⟨p_xa, p_xb, p_xk⟩ : N3), (⟨p_ya, p_yb, p_yk⟩ : N3)⟩ : P2) (⟨(⟨q_xa, q_xb, q_xk⟩ : N3), (⟨q_ya, q_yb, q_yk⟩ : N3)⟩ : P2)).av) := by
  simp only [pkP, Bool.and_eq_true] at hp
  obtain ⟨h1, h2⟩ := hp
  refine (show _ = cond (pk (⟨p_xa, p_xb, p_xk⟩ : N3) (⟨q_xa, q_xb, q_xk⟩ : N3)) (cond (pk (⟨p_ya, p_yb, p_yk⟩ : N3) (⟨q_ya, q_yb, q_yk⟩ : N3)) (some (subP (⟨(⟨p_xa, p_xb, p_xk⟩ : N3), (⟨p_ya, p_yb, p_yk⟩ : N3)⟩ : P2) (⟨(⟨q_xa, q_xb, q_xk⟩ : N3), (⟨q_ya, q_yb, q_yk⟩ : N3)⟩ : P2)).av) none) none from by kernel_rfl).trans ?_
  rw [h1, h2]
  rfl
theorem m76 : Meets Tryz.prog GLv 76 s76 := by
  refine meetsN mix0 glv G34 Tryz.func76 (by kernel_rfl) (by kernel_rfl) s76 fun args x h => ?_
  unfold s76 at h
  split at h
  . rename_i p_xa p_xb p_xk p_ya p_yb p_yk q_xa q_xb q_xk q_ya q_yb q_yk
    simp only [Option.some.injEq, Prod.mk.injEq] at h
    obtain ⟨hp, rfl⟩ := h
    exact ⟨_, _, by kernel_rfl, e76 p_xa p_xb p_xk p_ya p_yb p_yk q_xa q_xb q_xk q_ya q_yb q_yk hp⟩
  . cases h
abbrev Γ35 : List (Nat × Ctr) := (76, s76) :: Γ34
theorem G35 : Sound Tryz.prog GLv Γ35 := G34.cons m76
-- spec.l02Dot
def s80 : Ctr := fun
  | [.val (.int .i64 d), .agg [.val (.int .i64 p_xa), .val (.int .i64 p_xb), .val (.int .i64 p_xk), .val (.int .i64 p_ya), .val (.int .i64 p_yb), .val (.int .i64 p_yk)]] => some (inB d 0 15 && pkD (vecP d) (⟨(⟨p_xa, p_xb, p_xk⟩ : N3), (⟨p_ya, p_yb, p_yk⟩ : N3)⟩ : P2), (dotF (vecP d) (⟨(⟨p_xa, p_xb, p_xk⟩ : N3), (⟨p_ya, p_yb, p_yk⟩ : N3)⟩ : P2)).av)
  | _ => none
theorem e80 (d : Int) (p_xa : Int) (p_xb : Int) (p_xk : Int) (p_ya : Int) (p_yb : Int) (p_yk : Int) (hp : (inB d 0 15 && pkD (vecP d) (⟨(⟨p_xa, p_xb, p_xk⟩ : N3), (⟨p_ya, p_yb, p_yk⟩ : N3)⟩ : P2)) = true) : evN Tryz.prog GLv Γ35 (0) []  Tryz.f80 [.val (.int .i64 d), .agg [.val (.int .i64 p_xa), .val (.int .i64 p_xb), .val (.int .i64 p_xk), .val (.int .i64 p_ya), .val (.int .i64 p_yb), .val (.int .i64 p_yk)]] = some ((dotF (vecP d) (⟨(⟨p_xa, p_xb, p_xk⟩ : N3), (⟨p_ya, p_yb, p_yk⟩ : N3)⟩ : P2)).av) := by
  simp only [pkD, Bool.and_eq_true] at hp
  obtain ⟨h0, h1, h2, h3⟩ := hp
  refine (show _ = cond (inB d 0 15) (cond (pkm (vecP d).x (⟨p_xa, p_xb, p_xk⟩ : N3)) (cond (pkm (vecP d).y (⟨p_ya, p_yb, p_yk⟩ : N3)) (cond (pk (mulF (vecP d).x (⟨p_xa, p_xb, p_xk⟩ : N3)) (mulF (vecP d).y (⟨p_ya, p_yb, p_yk⟩ : N3))) (some (dotF (vecP d) (⟨(⟨p_xa, p_xb, p_xk⟩ : N3), (⟨p_ya, p_yb, p_yk⟩ : N3)⟩ : P2)).av) none) none) none) none from by kernel_rfl).trans ?_
  rw [h0, h1, h2, h3]
  rfl
theorem m80 : Meets Tryz.prog GLv 80 s80 := by
  refine meetsN mix0 glv G35 Tryz.func80 (by kernel_rfl) (by kernel_rfl) s80 fun args x h => ?_
  unfold s80 at h
  split at h
  . rename_i d p_xa p_xb p_xk p_ya p_yb p_yk
    simp only [Option.some.injEq, Prod.mk.injEq] at h
    obtain ⟨hp, rfl⟩ := h
    exact ⟨_, _, by kernel_rfl, e80 d p_xa p_xb p_xk p_ya p_yb p_yk hp⟩
  . cases h
abbrev Γ36 : List (Nat × Ctr) := (80, s80) :: Γ35
theorem G36 : Sound Tryz.prog GLv Γ36 := G35.cons m80
-- (impl.Line).meet
def s53 : Ctr := fun
  | [.agg [.val (.int .i64 l_d), .val (.int .i64 l_a), .val (.int .i64 l_b), .val (.int .i64 l_k)], .agg [.val (.int .i64 m_d), .val (.int .i64 m_a), .val (.int .i64 m_b), .val (.int .i64 m_k)]] => some ((inB l_d 0 7 && inB m_d 0 7) && ((!(l_d == m_d)) && (validB (⟨l_a, l_b, l_k⟩ : N3) && validB (⟨m_a, m_b, m_k⟩ : N3))), .tup [(mtP l_d m_d (⟨l_a, l_b, l_k⟩ : N3) (⟨m_a, m_b, m_k⟩ : N3)).av, bv true])
  | _ => none
theorem e53 (l_d : Int) (l_a : Int) (l_b : Int) (l_k : Int) (m_d : Int) (m_a : Int) (m_b : Int) (m_k : Int) (hp : ((inB l_d 0 7 && inB m_d 0 7) && ((!(l_d == m_d)) && (validB (⟨l_a, l_b, l_k⟩ : N3) && validB (⟨m_a, m_b, m_k⟩ : N3)))) = true) : evN Tryz.prog GLv Γ36 (0) []  Tryz.f53 [.agg [.val (.int .i64 l_d), .val (.int .i64 l_a), .val (.int .i64 l_b), .val (.int .i64 l_k)], .agg [.val (.int .i64 m_d), .val (.int .i64 m_a), .val (.int .i64 m_b), .val (.int .i64 m_k)]] = some (.tup [(mtP l_d m_d (⟨l_a, l_b, l_k⟩ : N3) (⟨m_a, m_b, m_k⟩ : N3)).av, bv true]) := by
  simp only [Bool.and_eq_true, Bool.not_eq_true'] at hp
  obtain ⟨⟨h1, h2⟩, h3, h4, h5⟩ := hp
  obtain ⟨c0, ⟨c1, c2, c3, c4, c5⟩, ⟨c6, c7, c8, c9, c10⟩, _⟩ := meet_ok h1 h2 h3 h4 h5
  have w1 := nrm_in h1
  have w2 := nrm_in h2
  refine (show _ = cond (inB (wr (l_d + 4)) 0 15) (cond (inB (wr (m_d + 4)) 0 15) (cond (pkC (nrm l_d) (nrm m_d)) (cond (pkm (⟨l_a, l_b, l_k⟩ : N3) (nrm m_d).y) (cond (pkm (⟨m_a, m_b, m_k⟩ : N3) (nrm l_d).y) (cond (pk (mulF (⟨l_a, l_b, l_k⟩ : N3) (nrm m_d).y) (mulF (⟨m_a, m_b, m_k⟩ : N3) (nrm l_d).y)) (cond (dvP (mtX l_d m_d (⟨l_a, l_b, l_k⟩ : N3) (⟨m_a, m_b, m_k⟩ : N3)) (crsF (nrm l_d) (nrm m_d))) (cond (pkm (⟨m_a, m_b, m_k⟩ : N3) (nrm l_d).x) (cond (pkm (⟨l_a, l_b, l_k⟩ : N3) (nrm m_d).x) (cond (pk (mulF (⟨m_a, m_b, m_k⟩ : N3) (nrm l_d).x) (mulF (⟨l_a, l_b, l_k⟩ : N3) (nrm m_d).x)) (cond (dvP (mtY l_d m_d (⟨l_a, l_b, l_k⟩ : N3) (⟨m_a, m_b, m_k⟩ : N3)) (crsF (nrm l_d) (nrm m_d))) (cond (dvOk (mtX l_d m_d (⟨l_a, l_b, l_k⟩ : N3) (⟨m_a, m_b, m_k⟩ : N3)) (crsF (nrm l_d) (nrm m_d))) (some (.tup [(mtP l_d m_d (⟨l_a, l_b, l_k⟩ : N3) (⟨m_a, m_b, m_k⟩ : N3)).av, bv (dvOk (mtY l_d m_d (⟨l_a, l_b, l_k⟩ : N3) (⟨m_a, m_b, m_k⟩ : N3)) (crsF (nrm l_d) (nrm m_d)))])) (some (.tup [(mtP l_d m_d (⟨l_a, l_b, l_k⟩ : N3) (⟨m_a, m_b, m_k⟩ : N3)).av, bv false]))) none) none) none) none) none) none) none) none) none) none) none from by kernel_rfl).trans ?_
  rw [w1, w2, c0, c1, c2, c3, c4, c6, c7, c8, c9, c5, c10]
  rfl
theorem m53 : Meets Tryz.prog GLv 53 s53 := by
  refine meetsN mix0 glv G36 Tryz.func53 (by kernel_rfl) (by kernel_rfl) s53 fun args x h => ?_
  unfold s53 at h
  split at h
  . rename_i l_d l_a l_b l_k m_d m_a m_b m_k
    simp only [Option.some.injEq, Prod.mk.injEq] at h
    obtain ⟨hp, rfl⟩ := h
    exact ⟨_, _, by kernel_rfl, e53 l_d l_a l_b l_k m_d m_a m_b m_k hp⟩
  . cases h
abbrev Γ37 : List (Nat × Ctr) := (53, s53) :: Γ36
theorem G37 : Sound Tryz.prog GLv Γ37 := G36.cons m53
-- spec.l02Meet
def s94 : Ctr := fun
  | [.agg [.val (.int .i64 l_d), .val (.int .i64 l_a), .val (.int .i64 l_b), .val (.int .i64 l_k)], .agg [.val (.int .i64 m_d), .val (.int .i64 m_a), .val (.int .i64 m_b), .val (.int .i64 m_k)]] => some ((inB l_d 0 7 && inB m_d 0 7) && ((!(l_d == m_d)) && (validB (⟨l_a, l_b, l_k⟩ : N3) && validB (⟨m_a, m_b, m_k⟩ : N3))), (mtP l_d m_d (⟨l_a, l_b, l_k⟩ : N3) (⟨m_a, m_b, m_k⟩ : N3)).av)
  | _ => none
theorem e94 (l_d : Int) (l_a : Int) (l_b : Int) (l_k : Int) (m_d : Int) (m_a : Int) (m_b : Int) (m_k : Int) (hp : ((inB l_d 0 7 && inB m_d 0 7) && ((!(l_d == m_d)) && (validB (⟨l_a, l_b, l_k⟩ : N3) && validB (⟨m_a, m_b, m_k⟩ : N3)))) = true) : evN Tryz.prog GLv Γ37 (0) []  Tryz.f94 [.agg [.val (.int .i64 l_d), .val (.int .i64 l_a), .val (.int .i64 l_b), .val (.int .i64 l_k)], .agg [.val (.int .i64 m_d), .val (.int .i64 m_a), .val (.int .i64 m_b), .val (.int .i64 m_k)]] = some ((mtP l_d m_d (⟨l_a, l_b, l_k⟩ : N3) (⟨m_a, m_b, m_k⟩ : N3)).av) := by
  simp only [Bool.and_eq_true, Bool.not_eq_true'] at hp
  obtain ⟨⟨h1, h2⟩, h3, h4, h5⟩ := hp
  obtain ⟨c0, ⟨c1, c2, c3, c4, c5⟩, ⟨c6, c7, c8, c9, c10⟩, _⟩ := meet_ok h1 h2 h3 h4 h5
  have w1 := nrm_in h1
  have w2 := nrm_in h2
  have hc := c0
  unfold pkC at hc
  simp only [Bool.and_eq_true] at hc
  obtain ⟨k1, k2, k3⟩ := hc
  refine (show _ = cond (inB (wr (l_d + 4)) 0 15) (cond (inB (wr (m_d + 4)) 0 15) (cond (pkm (nrm l_d).x (nrm m_d).y) (cond (pkm (nrm l_d).y (nrm m_d).x) (cond (pk (mulF (nrm l_d).x (nrm m_d).y) (mulF (nrm l_d).y (nrm m_d).x)) (cond (pkm (⟨l_a, l_b, l_k⟩ : N3) (nrm m_d).y) (cond (pkm (⟨m_a, m_b, m_k⟩ : N3) (nrm l_d).y) (cond (pk (mulF (⟨l_a, l_b, l_k⟩ : N3) (nrm m_d).y) (mulF (⟨m_a, m_b, m_k⟩ : N3) (nrm l_d).y)) (cond (dvP (mtX l_d m_d (⟨l_a, l_b, l_k⟩ : N3) (⟨m_a, m_b, m_k⟩ : N3)) (crsF (nrm l_d) (nrm m_d))) (cond (pkm (⟨m_a, m_b, m_k⟩ : N3) (nrm l_d).x) (cond (pkm (⟨l_a, l_b, l_k⟩ : N3) (nrm m_d).x) (cond (pk (mulF (⟨m_a, m_b, m_k⟩ : N3) (nrm l_d).x) (mulF (⟨l_a, l_b, l_k⟩ : N3) (nrm m_d).x)) (cond (dvP (mtY l_d m_d (⟨l_a, l_b, l_k⟩ : N3) (⟨m_a, m_b, m_k⟩ : N3)) (crsF (nrm l_d) (nrm m_d))) (some (mtP l_d m_d (⟨l_a, l_b, l_k⟩ : N3) (⟨m_a, m_b, m_k⟩ : N3)).av) none) none) none) none) none) none) none) none) none) none) none) none) none from by kernel_rfl).trans ?_
  rw [w1, w2, k1, k2, k3, c1, c2, c3, c4, c6, c7, c8, c9]
  rfl
theorem m94 : Meets Tryz.prog GLv 94 s94 := by
  refine meetsN mix0 glv G37 Tryz.func94 (by kernel_rfl) (by kernel_rfl) s94 fun args x h => ?_
  unfold s94 at h
  split at h
  . rename_i l_d l_a l_b l_k m_d m_a m_b m_k
    simp only [Option.some.injEq, Prod.mk.injEq] at h
    obtain ⟨hp, rfl⟩ := h
    exact ⟨_, _, by kernel_rfl, e94 l_d l_a l_b l_k m_d m_a m_b m_k hp⟩
  . cases h
abbrev Γ38 : List (Nat × Ctr) := (94, s94) :: Γ37
theorem G38 : Sound Tryz.prog GLv Γ38 := G37.cons m94
end Go.Proofs.YtdildcdilhgdkaaGreatDoor
