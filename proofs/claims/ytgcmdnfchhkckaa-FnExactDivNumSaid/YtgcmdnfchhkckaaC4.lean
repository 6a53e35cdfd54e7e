/- Contracts of the program's functions, by the evaluator. -/
import Derived.Test.YtgcmdnfchhkckaaC3
import Derived.Test.YtgcmdnfchhkckaaNumD
namespace Go.Proofs.Ytgcmdnfchhkckaa
open Go.Ev
set_option linter.unusedVariables false
set_option linter.unusedSimpArgs false
set_option maxRecDepth 100000

-- (impl.Num).over
def s57 : Ctr := fun
  | [.agg [.val (.int .i64 x_a), .val (.int .i64 x_b), .val (.int .i64 x_k)], .agg [.val (.int .i64 y_a), .val (.int .i64 y_b), .val (.int .i64 y_k)]] => some (dvP (⟨x_a, x_b, x_k⟩ : N3) (⟨y_a, y_b, y_k⟩ : N3), dvR (⟨x_a, x_b, x_k⟩ : N3) (⟨y_a, y_b, y_k⟩ : N3))
  | _ => none

theorem r57_step (K m : Nat) (n a b k : Int) : runL Try.prog GL0 Γ73 K [false, false, false, false, true, true, true, true] Try.f57 0 (m + 1) (stL Try.f57.ntmps [.non, .non, .non, .non, .own 23 [iv 0, iv 0, iv 0], bv false, iv (n), .own 23 [iv (a), iv (b), iv (k)]]) = cond (and64 n 1 == 0) (runL Try.prog GL0 Γ73 K [false, false, false, false, true, true, true, true] Try.f57 0 m (stL Try.f57.ntmps [.non, .non, .non, .non, .own 23 [iv 0, iv 0, iv 0], bv false, iv (wr (n.tdiv 2)), .own 23 [iv (a), iv (b), iv (wr (k + 1))]])) (implEnd n a b k) := by kernel_rfl
theorem r57_run (K : Nat) : ∀ (f : Nat) (n a b k : Int) (m : Nat), n ≠ 0 → n.natAbs < 2 ^ f → f ≤ 60 → -1000000 ≤ k → k + f ≤ 1000000 → f < m →
    runL Try.prog GL0 Γ73 K [false, false, false, false, true, true, true, true] Try.f57 0 m (stL Try.f57.ntmps [.non, .non, .non, .non, .own 23 [iv 0, iv 0, iv 0], bv false, iv (n), .own 23 [iv (a), iv (b), iv (k)]]) = implEnd (oddL f n k).1 a b (oddL f n k).2 := by
  intro f
  induction f with
  | zero => intro n a b k m hn hf; simp at hf; omega
  | succ f ih =>
    intro n a b k m hn hf hf60 hk hk' hm
    obtain ⟨m, rfl⟩ : ∃ m', m = m' + 1 := ⟨m - 1, by omega⟩
    have h60 : (2 : Nat) ^ (f + 1) ≤ 2 ^ 60 := Nat.pow_le_pow_right (by decide) hf60
    have e60 : (2 : Nat) ^ 60 = 1152921504606846976 := by decide
    rw [r57_step]
    rw [and64_one, show ((n % 2 == 0) = !odd n) from odd_zero n]
    cases ho : odd n with
    | true =>
      have e : oddL (f + 1) n k = (n, k) := by unfold oddL; rw [ho]; rfl
      rw [e]
      rfl
    | false =>
      obtain ⟨h1, h2⟩ := tdiv_two ho
      have e : oddL (f + 1) n k = oddL f (n.tdiv 2) (k + 1) := by conv => lhs; unfold oddL
                                                                  rw [ho]; rfl
      rw [e, Bool.not_false, cond_true, wr_in (n := n.tdiv 2) (by omega) (by omega), wr_in (n := k + 1) (by omega) (by omega)]
      exact ih _ _ _ _ _ (by omega) (by rw [Nat.pow_succ] at hf; omega) (by omega) (by omega) (by omega) (by omega)
theorem e57 (x_a : Int) (x_b : Int) (x_k : Int) (y_a : Int) (y_b : Int) (y_k : Int) (hp : (dvP (⟨x_a, x_b, x_k⟩ : N3) (⟨y_a, y_b, y_k⟩ : N3)) = true) : evN Try.prog GL0 Γ73 (70) [false, false, false, false, true, true, true, true] Try.f57 [.agg [.val (.int .i64 x_a), .val (.int .i64 x_b), .val (.int .i64 x_k)], .agg [.val (.int .i64 y_a), .val (.int .i64 y_b), .val (.int .i64 y_k)]] = some (dvR (⟨x_a, x_b, x_k⟩ : N3) (⟨y_a, y_b, y_k⟩ : N3)) := by
  refine (show _ = cond (divN (⟨y_a, y_b, y_k⟩ : N3) == 0) (some dvNo) (cond (pkm (⟨x_a, x_b, x_k⟩ : N3) (divC (⟨y_a, y_b, y_k⟩ : N3))) (runL Try.prog GL0 Γ73 70 [false, false, false, false, true, true, true, true] Try.f57 0 70 (stL Try.f57.ntmps [.non, .non, .non, .non, .own 23 [iv 0, iv 0, iv 0], bv false, iv (divN (⟨y_a, y_b, y_k⟩ : N3)), .own 23 [iv ((divT (⟨x_a, x_b, x_k⟩ : N3) (⟨y_a, y_b, y_k⟩ : N3)).a), iv ((divT (⟨x_a, x_b, x_k⟩ : N3) (⟨y_a, y_b, y_k⟩ : N3)).b), iv (wr ((divT (⟨x_a, x_b, x_k⟩ : N3) (⟨y_a, y_b, y_k⟩ : N3)).k - y_k))]])) none) from by kernel_rfl).trans ?_
  obtain ⟨ra, rb, rA, rB, rM, _, rN⟩ := raw_bd hp
  obtain ⟨⟨_, _, xk, xk'⟩, _, _, yk, yk'⟩ := dvP_iff.1 hp
  simp only at xk xk' yk yk'
  by_cases hz : divN (⟨y_a, y_b, y_k⟩ : N3) = 0
  · have hz' : (divN (⟨y_a, y_b, y_k⟩ : N3) == 0) = true := by simpa using hz
    rw [hz', cond_true]
    unfold dvR dvOk
    rw [hz']
    rfl
  have hz' : (divN (⟨y_a, y_b, y_k⟩ : N3) == 0) = false := by simpa using hz
  rw [hz', cond_false]
  obtain ⟨o1, o2, o3, _, _, _⟩ := dv_same hp hz
  have hb : (divN (⟨y_a, y_b, y_k⟩ : N3)).natAbs < 2 ^ 60 := by
    have : (2 : Nat) ^ 60 = 1152921504606846976 := by decide
    omega
  rw [pkm_div hp, cond_true, wr_in (n := (divT (⟨x_a, x_b, x_k⟩ : N3) (⟨y_a, y_b, y_k⟩ : N3)).k - y_k) (by omega) (by omega), r57_run 70 60 _ _ _ _ 70 hz hb (by decide) (by omega) (by omega) (by decide), oddL_shift]
  exact implEnd_eq hp hz
theorem m57 : Meets Try.prog GL0 57 s57 := by
  refine meetsN mix0 gl0 G73 Try.func57 (by kernel_rfl) (by kernel_rfl) s57 fun args x h => ?_
  unfold s57 at h
  split at h
  · rename_i x_a x_b x_k y_a y_b y_k
    simp only [Option.some.injEq, Prod.mk.injEq] at h
    obtain ⟨hp, rfl⟩ := h
    exact ⟨_, _, by kernel_rfl, e57 x_a x_b x_k y_a y_b y_k hp⟩
  · cases h
abbrev Γ74 : List (Nat × Ctr) := (57, s57) :: Γ73
theorem G74 : Sound Try.prog GL0 Γ74 := G73.cons m57

-- spec.l01Div
def s56 : Ctr := fun
  | [.agg [.val (.int .i64 x_a), .val (.int .i64 x_b), .val (.int .i64 x_k)], .agg [.val (.int .i64 y_a), .val (.int .i64 y_b), .val (.int .i64 y_k)]] => some (dvP (⟨x_a, x_b, x_k⟩ : N3) (⟨y_a, y_b, y_k⟩ : N3), dvR (⟨x_a, x_b, x_k⟩ : N3) (⟨y_a, y_b, y_k⟩ : N3))
  | _ => none

theorem r56_step1 (K m : Nat) (n a b k c ya yb yk : Int) : runL Try.prog GL0 Γ74 K [false, false, false, true, true, true, true, true, true] Try.f56 1 (m + 1) (stL Try.f56.ntmps [.non, .non, .non, .own 63 [iv ya, iv yb, iv yk], .own 63 [iv 0, iv 0, iv 0], bv false, iv (n), .own 63 [iv (a), iv (b), iv (k)], iv (c)]) = cond (decide (c > 0)) (cond (decide (k > 0)) (runL Try.prog GL0 Γ74 K [false, false, false, true, true, true, true, true, true] Try.f56 1 m (stL Try.f56.ntmps [.non, .non, .non, .own 63 [iv ya, iv yb, iv yk], .own 63 [iv 0, iv 0, iv 0], bv false, iv (n), .own 63 [iv (a), iv (b), iv (wr (k - 1))], iv (wr (c - 1))])) (runL Try.prog GL0 Γ74 K [false, false, false, true, true, true, true, true, true] Try.f56 1 m (stL Try.f56.ntmps [.non, .non, .non, .own 63 [iv ya, iv yb, iv yk], .own 63 [iv 0, iv 0, iv 0], bv false, iv (n), .own 63 [iv (wr (a * 2)), iv (wr (b * 2)), iv (k)], iv (wr (c - 1))]))) (cond (kB k) (some (dvYes (red ⟨a, b, k⟩))) none) := by kernel_rfl
theorem r56_run1 (K : Nat) (ya yb yk n : Int) : ∀ (c : Nat) (a b k : Int) (m : Nat), 0 ≤ k → k ≤ 1000000 → c ≤ 1000000 → c < m → runL Try.prog GL0 Γ74 K [false, false, false, true, true, true, true, true, true] Try.f56 1 m (stL Try.f56.ntmps [.non, .non, .non, .own 63 [iv ya, iv yb, iv yk], .own 63 [iv 0, iv 0, iv 0], bv false, iv (n), .own 63 [iv (a), iv (b), iv (k)], iv ((c : Int))]) = some (dvYes (red (decF c a b k))) := by
  intro c
  induction c with
  | zero =>
    intro a b k m h0 h1 h2 h3
    obtain ⟨m, rfl⟩ : ∃ m', m = m' + 1 := ⟨m - 1, by omega⟩
    rw [r56_step1, show decide (((0 : Nat) : Int) > 0) = false from rfl, kB_iff.2 ⟨h0, by omega⟩]
    rfl
  | succ c ih =>
    intro a b k m h0 h1 h2 h3
    obtain ⟨m, rfl⟩ : ∃ m', m = m' + 1 := ⟨m - 1, by omega⟩
    have hc : decide (((c + 1 : Nat) : Int) > 0) = true := by rw [decide_eq_true_eq]; omega
    have hw : wr (((c + 1 : Nat) : Int) - 1) = (c : Int) := by rw [wr_in (by omega) (by omega)]; omega
    rw [r56_step1, hc, cond_true, hw]
    unfold decF
    by_cases hk : k > 0
    · rw [wr_in (n := k - 1) (by omega) (by omega), ih _ _ (k - 1) _ (by omega) (by omega) (by omega) (by omega)]
      simp only [hk, decide_true, cond_true, if_true]
    · rw [ih _ _ k _ (by omega) (by omega) (by omega) (by omega)]
      simp only [hk, decide_false, cond_false, if_false]
theorem r56_step (K m : Nat) (n a b k ya yb yk : Int) : runL Try.prog GL0 Γ74 K [false, false, false, true, true, true, true, true, true] Try.f56 0 (m + 1) (stL Try.f56.ntmps [.non, .non, .non, .own 63 [iv ya, iv yb, iv yk], .own 63 [iv 0, iv 0, iv 0], bv false, iv (n), .own 63 [iv (a), iv (b), iv (k)]]) = cond (n.tmod 2 == 0) (runL Try.prog GL0 Γ74 K [false, false, false, true, true, true, true, true, true] Try.f56 0 m (stL Try.f56.ntmps [.non, .non, .non, .own 63 [iv ya, iv yb, iv yk], .own 63 [iv 0, iv 0, iv 0], bv false, iv (wr (n.tdiv 2)), .own 63 [iv (a), iv (b), iv (wr (k + 1))]])) (specEnd (fun a b => runL Try.prog GL0 Γ74 K [false, false, false, true, true, true, true, true, true] Try.f56 1 K (stL Try.f56.ntmps [.non, .non, .non, .own 63 [iv ya, iv yb, iv yk], .own 63 [iv 0, iv 0, iv 0], bv false, iv (n), .own 63 [iv (a), iv (b), iv (k)], iv (yk)])) n a b) := by kernel_rfl
theorem r56_run (K : Nat) (ya yb yk : Int) : ∀ (f : Nat) (n a b k : Int) (m : Nat), n ≠ 0 → n.natAbs < 2 ^ f → f ≤ 60 → -1000000 ≤ k → k + f ≤ 1000000 → f < m →
    runL Try.prog GL0 Γ74 K [false, false, false, true, true, true, true, true, true] Try.f56 0 m (stL Try.f56.ntmps [.non, .non, .non, .own 63 [iv ya, iv yb, iv yk], .own 63 [iv 0, iv 0, iv 0], bv false, iv (n), .own 63 [iv (a), iv (b), iv (k)]]) = specEnd (fun a b => runL Try.prog GL0 Γ74 K [false, false, false, true, true, true, true, true, true] Try.f56 1 K (stL Try.f56.ntmps [.non, .non, .non, .own 63 [iv ya, iv yb, iv yk], .own 63 [iv 0, iv 0, iv 0], bv false, iv ((oddL f n k).1), .own 63 [iv (a), iv (b), iv ((oddL f n k).2)], iv (yk)])) (oddL f n k).1 a b := by
  intro f
  induction f with
  | zero => intro n a b k m hn hf; simp at hf; omega
  | succ f ih =>
    intro n a b k m hn hf hf60 hk hk' hm
    obtain ⟨m, rfl⟩ : ∃ m', m = m' + 1 := ⟨m - 1, by omega⟩
    have h60 : (2 : Nat) ^ (f + 1) ≤ 2 ^ 60 := Nat.pow_le_pow_right (by decide) hf60
    have e60 : (2 : Nat) ^ 60 = 1152921504606846976 := by decide
    rw [r56_step]
    rw [tmod_zero]
    cases ho : odd n with
    | true =>
      have e : oddL (f + 1) n k = (n, k) := by unfold oddL; rw [ho]; rfl
      rw [e]
      rfl
    | false =>
      obtain ⟨h1, h2⟩ := tdiv_two ho
      have e : oddL (f + 1) n k = oddL f (n.tdiv 2) (k + 1) := by conv => lhs; unfold oddL
                                                                  rw [ho]; rfl
      rw [e, Bool.not_false, cond_true, wr_in (n := n.tdiv 2) (by omega) (by omega), wr_in (n := k + 1) (by omega) (by omega)]
      exact ih _ _ _ _ _ (by omega) (by rw [Nat.pow_succ] at hf; omega) (by omega) (by omega) (by omega) (by omega)
theorem e56 (x_a : Int) (x_b : Int) (x_k : Int) (y_a : Int) (y_b : Int) (y_k : Int) (hp : (dvP (⟨x_a, x_b, x_k⟩ : N3) (⟨y_a, y_b, y_k⟩ : N3)) = true) : evN Try.prog GL0 Γ74 (70) [false, false, false, true, true, true, true, true, true] Try.f56 [.agg [.val (.int .i64 x_a), .val (.int .i64 x_b), .val (.int .i64 x_k)], .agg [.val (.int .i64 y_a), .val (.int .i64 y_b), .val (.int .i64 y_k)]] = some (dvR (⟨x_a, x_b, x_k⟩ : N3) (⟨y_a, y_b, y_k⟩ : N3)) := by
  refine (show _ = cond (divN (⟨y_a, y_b, y_k⟩ : N3) == 0) (some dvNo) (runL Try.prog GL0 Γ74 70 [false, false, false, true, true, true, true, true, true] Try.f56 0 70 (stL Try.f56.ntmps [.non, .non, .non, .own 63 [iv y_a, iv y_b, iv y_k], .own 63 [iv 0, iv 0, iv 0], bv false, iv (divN (⟨y_a, y_b, y_k⟩ : N3)), .own 63 [iv (wr (wr (x_a * y_a) - wr (wr (2 * x_b) * y_b))), iv (wr (wr (x_b * y_a) - wr (x_a * y_b))), iv (x_k)]])) from by kernel_rfl).trans ?_
  obtain ⟨ra, rb, rA, rB, rM, _, rN⟩ := raw_bd hp
  obtain ⟨⟨_, _, xk, xk'⟩, _, _, yk, yk'⟩ := dvP_iff.1 hp
  simp only at xk xk' yk yk'
  by_cases hz : divN (⟨y_a, y_b, y_k⟩ : N3) = 0
  · have hz' : (divN (⟨y_a, y_b, y_k⟩ : N3) == 0) = true := by simpa using hz
    rw [hz', cond_true]
    unfold dvR dvOk
    rw [hz']
    rfl
  have hz' : (divN (⟨y_a, y_b, y_k⟩ : N3) == 0) = false := by simpa using hz
  rw [hz', cond_false]
  obtain ⟨o1, o2, o3, _, _, _⟩ := dv_same hp hz
  have hb : (divN (⟨y_a, y_b, y_k⟩ : N3)).natAbs < 2 ^ 60 := by
    have : (2 : Nat) ^ 60 = 1152921504606846976 := by decide
    omega
  simp only at rA rB
  rw [rA, rB, r56_run 70 y_a y_b y_k 60 _ _ _ _ 70 hz hb (by decide) (by omega) (by omega) (by decide), oddL_shift]
  refine specEnd_eq hp hz _ fun a b => ?_
  have hy : y_k = ((y_k.toNat : Nat) : Int) := by omega
  conv => lhs; rw [hy]
  exact r56_run1 70 y_a y_b _ _ y_k.toNat a b _ 70 (by show 0 ≤ x_k + dvE (⟨y_a, y_b, y_k⟩ : N3); omega) (by show x_k + dvE (⟨y_a, y_b, y_k⟩ : N3) ≤ _; omega) (by omega) (by omega)
theorem m56 : Meets Try.prog GL0 56 s56 := by
  refine meetsN mix0 gl0 G74 Try.func56 (by kernel_rfl) (by kernel_rfl) s56 fun args x h => ?_
  unfold s56 at h
  split at h
  · rename_i x_a x_b x_k y_a y_b y_k
    simp only [Option.some.injEq, Prod.mk.injEq] at h
    obtain ⟨hp, rfl⟩ := h
    exact ⟨_, _, by kernel_rfl, e56 x_a x_b x_k y_a y_b y_k hp⟩
  · cases h
abbrev Γ75 : List (Nat × Ctr) := (56, s56) :: Γ74
theorem G75 : Sound Try.prog GL0 Γ75 := G74.cons m56

-- impl.DivNum
def s25 : Ctr := fun
  | [.agg [.val (.int .i64 x_a), .val (.int .i64 x_b), .val (.int .i64 x_k)], .agg [.val (.int .i64 y_a), .val (.int .i64 y_b), .val (.int .i64 y_k)]] => some (true, opV ((validB (⟨x_a, x_b, x_k⟩ : N3) && validB (⟨y_a, y_b, y_k⟩ : N3)) && dvOk (⟨x_a, x_b, x_k⟩ : N3) (⟨y_a, y_b, y_k⟩ : N3)) (dvV (⟨x_a, x_b, x_k⟩ : N3) (⟨y_a, y_b, y_k⟩ : N3)))
  | _ => none

theorem e25 (x_a : Int) (x_b : Int) (x_k : Int) (y_a : Int) (y_b : Int) (y_k : Int) : evN Try.prog GL0 Γ75 (0) [] Try.f25 [.agg [.val (.int .i64 x_a), .val (.int .i64 x_b), .val (.int .i64 x_k)], .agg [.val (.int .i64 y_a), .val (.int .i64 y_b), .val (.int .i64 y_k)]] = some (opV ((validB (⟨x_a, x_b, x_k⟩ : N3) && validB (⟨y_a, y_b, y_k⟩ : N3)) && dvOk (⟨x_a, x_b, x_k⟩ : N3) (⟨y_a, y_b, y_k⟩ : N3)) (dvV (⟨x_a, x_b, x_k⟩ : N3) (⟨y_a, y_b, y_k⟩ : N3))) := by
  refine (show _ = cond (!(validB (⟨x_a, x_b, x_k⟩ : N3) && validB (⟨y_a, y_b, y_k⟩ : N3))) (some (.tup [z3.av, bv false])) (cond (dvP (⟨x_a, x_b, x_k⟩ : N3) (⟨y_a, y_b, y_k⟩ : N3)) (cond (!dvOk (⟨x_a, x_b, x_k⟩ : N3) (⟨y_a, y_b, y_k⟩ : N3)) (some (.tup [z3.av, bv false])) (cond (kB (sel (dvOk (⟨x_a, x_b, x_k⟩ : N3) (⟨y_a, y_b, y_k⟩ : N3)) (dvV (⟨x_a, x_b, x_k⟩ : N3) (⟨y_a, y_b, y_k⟩ : N3))).k) (some (.tup [(chk (sel (dvOk (⟨x_a, x_b, x_k⟩ : N3) (⟨y_a, y_b, y_k⟩ : N3)) (dvV (⟨x_a, x_b, x_k⟩ : N3) (⟨y_a, y_b, y_k⟩ : N3)))).av, bv (chkB (sel (dvOk (⟨x_a, x_b, x_k⟩ : N3) (⟨y_a, y_b, y_k⟩ : N3)) (dvV (⟨x_a, x_b, x_k⟩ : N3) (⟨y_a, y_b, y_k⟩ : N3))))])) none)) none) from by kernel_rfl).trans ?_
  cases hx : validB (⟨x_a, x_b, x_k⟩ : N3) with
  | false => rfl
  | true =>
    cases hy : validB (⟨y_a, y_b, y_k⟩ : N3) with
    | false => rfl
    | true =>
      have hp := valid_dvP hx hy
      rw [hp]
      cases hd : dvOk (⟨x_a, x_b, x_k⟩ : N3) (⟨y_a, y_b, y_k⟩ : N3) with
      | false => rfl
      | true =>
        have hn : divN (⟨y_a, y_b, y_k⟩ : N3) ≠ 0 := fun e => by
          have e' : (divN (⟨y_a, y_b, y_k⟩ : N3) == 0) = true := by simpa using e
          unfold dvOk at hd
          rw [e'] at hd
          cases hd
        have hk := dvV_k hp hn
        simp only [Bool.not_true, Bool.true_and, cond_true, cond_false, sel_true]
        rw [hk]
        simp only [cond_true, opV, chk, Bool.true_and, sel_true]
        try (cases chkB (dvV (⟨x_a, x_b, x_k⟩ : N3) (⟨y_a, y_b, y_k⟩ : N3)) <;> rfl)
theorem m25 : Meets Try.prog GL0 25 s25 := by
  refine meetsN mix0 gl0 G75 Try.func25 (by kernel_rfl) (by kernel_rfl) s25 fun args x h => ?_
  unfold s25 at h
  split at h
  · rename_i x_a x_b x_k y_a y_b y_k
    simp only [Option.some.injEq, Prod.mk.injEq] at h
    obtain ⟨hp, rfl⟩ := h
    exact ⟨_, _, by kernel_rfl, e25 x_a x_b x_k y_a y_b y_k⟩
  · cases h
abbrev Γ76 : List (Nat × Ctr) := (25, s25) :: Γ75
theorem G76 : Sound Try.prog GL0 Γ76 := G75.cons m25

-- spec.DivNum
def s24 : Ctr := fun
  | [.agg [.val (.int .i64 x_a), .val (.int .i64 x_b), .val (.int .i64 x_k)], .agg [.val (.int .i64 y_a), .val (.int .i64 y_b), .val (.int .i64 y_k)]] => some (true, opV ((validB (⟨x_a, x_b, x_k⟩ : N3) && validB (⟨y_a, y_b, y_k⟩ : N3)) && dvOk (⟨x_a, x_b, x_k⟩ : N3) (⟨y_a, y_b, y_k⟩ : N3)) (dvV (⟨x_a, x_b, x_k⟩ : N3) (⟨y_a, y_b, y_k⟩ : N3)))
  | _ => none

theorem e24 (x_a : Int) (x_b : Int) (x_k : Int) (y_a : Int) (y_b : Int) (y_k : Int) : evN Try.prog GL0 Γ76 (0) [] Try.f24 [.agg [.val (.int .i64 x_a), .val (.int .i64 x_b), .val (.int .i64 x_k)], .agg [.val (.int .i64 y_a), .val (.int .i64 y_b), .val (.int .i64 y_k)]] = some (opV ((validB (⟨x_a, x_b, x_k⟩ : N3) && validB (⟨y_a, y_b, y_k⟩ : N3)) && dvOk (⟨x_a, x_b, x_k⟩ : N3) (⟨y_a, y_b, y_k⟩ : N3)) (dvV (⟨x_a, x_b, x_k⟩ : N3) (⟨y_a, y_b, y_k⟩ : N3))) := by
  refine (show _ = cond (!validB (⟨x_a, x_b, x_k⟩ : N3)) (some (.tup [z3.av, bv false])) (cond (!validB (⟨y_a, y_b, y_k⟩ : N3)) (some (.tup [z3.av, bv false])) (cond (dvP (⟨x_a, x_b, x_k⟩ : N3) (⟨y_a, y_b, y_k⟩ : N3)) (cond (!dvOk (⟨x_a, x_b, x_k⟩ : N3) (⟨y_a, y_b, y_k⟩ : N3)) (some (.tup [z3.av, bv false])) (cond (kB (sel (dvOk (⟨x_a, x_b, x_k⟩ : N3) (⟨y_a, y_b, y_k⟩ : N3)) (dvV (⟨x_a, x_b, x_k⟩ : N3) (⟨y_a, y_b, y_k⟩ : N3))).k) (some (.tup [(chk (sel (dvOk (⟨x_a, x_b, x_k⟩ : N3) (⟨y_a, y_b, y_k⟩ : N3)) (dvV (⟨x_a, x_b, x_k⟩ : N3) (⟨y_a, y_b, y_k⟩ : N3)))).av, bv (chkB (sel (dvOk (⟨x_a, x_b, x_k⟩ : N3) (⟨y_a, y_b, y_k⟩ : N3)) (dvV (⟨x_a, x_b, x_k⟩ : N3) (⟨y_a, y_b, y_k⟩ : N3))))])) none)) none)) from by kernel_rfl).trans ?_
  cases hx : validB (⟨x_a, x_b, x_k⟩ : N3) with
  | false => rfl
  | true =>
    cases hy : validB (⟨y_a, y_b, y_k⟩ : N3) with
    | false => rfl
    | true =>
      have hp := valid_dvP hx hy
      rw [hp]
      cases hd : dvOk (⟨x_a, x_b, x_k⟩ : N3) (⟨y_a, y_b, y_k⟩ : N3) with
      | false => rfl
      | true =>
        have hn : divN (⟨y_a, y_b, y_k⟩ : N3) ≠ 0 := fun e => by
          have e' : (divN (⟨y_a, y_b, y_k⟩ : N3) == 0) = true := by simpa using e
          unfold dvOk at hd
          rw [e'] at hd
          cases hd
        have hk := dvV_k hp hn
        simp only [Bool.not_true, Bool.true_and, cond_true, cond_false, sel_true]
        rw [hk]
        simp only [cond_true, opV, chk, Bool.true_and, sel_true]
        try (cases chkB (dvV (⟨x_a, x_b, x_k⟩ : N3) (⟨y_a, y_b, y_k⟩ : N3)) <;> rfl)
theorem m24 : Meets Try.prog GL0 24 s24 := by
  refine meetsN mix0 gl0 G76 Try.func24 (by kernel_rfl) (by kernel_rfl) s24 fun args x h => ?_
  unfold s24 at h
  split at h
  · rename_i x_a x_b x_k y_a y_b y_k
    simp only [Option.some.injEq, Prod.mk.injEq] at h
    obtain ⟨hp, rfl⟩ := h
    exact ⟨_, _, by kernel_rfl, e24 x_a x_b x_k y_a y_b y_k⟩
  · cases h
abbrev Γ77 : List (Nat × Ctr) := (24, s24) :: Γ76
theorem G77 : Sound Try.prog GL0 Γ77 := G76.cons m24

-- laws.FnExactDivNum
def s7 : Ctr := fun
  | [.agg [.val (.int .i64 x_a), .val (.int .i64 x_b), .val (.int .i64 x_k)], .agg [.val (.int .i64 y_a), .val (.int .i64 y_b), .val (.int .i64 y_k)]] => some (true, bv true)
  | _ => none

theorem e7 (x_a : Int) (x_b : Int) (x_k : Int) (y_a : Int) (y_b : Int) (y_k : Int) : evN Try.prog GL0 Γ77 (0) [] Try.f7 [.agg [.val (.int .i64 x_a), .val (.int .i64 x_b), .val (.int .i64 x_k)], .agg [.val (.int .i64 y_a), .val (.int .i64 y_b), .val (.int .i64 y_k)]] = some (bv true) := by
  refine (show _ = cond (!eq3 (N3.mk (bif validB (N3.mk x_a x_b x_k) && validB (N3.mk y_a y_b y_k) && dvOk (N3.mk x_a x_b x_k) (N3.mk y_a y_b y_k) then bif chkB (dvV (N3.mk x_a x_b x_k) (N3.mk y_a y_b y_k)) then (red (dvV (N3.mk x_a x_b x_k) (N3.mk y_a y_b y_k))).1 else 0 else 0) (bif validB (N3.mk x_a x_b x_k) && validB (N3.mk y_a y_b y_k) && dvOk (N3.mk x_a x_b x_k) (N3.mk y_a y_b y_k) then bif chkB (dvV (N3.mk x_a x_b x_k) (N3.mk y_a y_b y_k)) then (red (dvV (N3.mk x_a x_b x_k) (N3.mk y_a y_b y_k))).2 else 0 else 0) (bif validB (N3.mk x_a x_b x_k) && validB (N3.mk y_a y_b y_k) && dvOk (N3.mk x_a x_b x_k) (N3.mk y_a y_b y_k) then bif chkB (dvV (N3.mk x_a x_b x_k) (N3.mk y_a y_b y_k)) then (red (dvV (N3.mk x_a x_b x_k) (N3.mk y_a y_b y_k))).3 else 0 else 0)) (N3.mk (bif validB (N3.mk x_a x_b x_k) && validB (N3.mk y_a y_b y_k) && dvOk (N3.mk x_a x_b x_k) (N3.mk y_a y_b y_k) then bif chkB (dvV (N3.mk x_a x_b x_k) (N3.mk y_a y_b y_k)) then (red (dvV (N3.mk x_a x_b x_k) (N3.mk y_a y_b y_k))).1 else 0 else 0) (bif validB (N3.mk x_a x_b x_k) && validB (N3.mk y_a y_b y_k) && dvOk (N3.mk x_a x_b x_k) (N3.mk y_a y_b y_k) then bif chkB (dvV (N3.mk x_a x_b x_k) (N3.mk y_a y_b y_k)) then (red (dvV (N3.mk x_a x_b x_k) (N3.mk y_a y_b y_k))).2 else 0 else 0) (bif validB (N3.mk x_a x_b x_k) && validB (N3.mk y_a y_b y_k) && dvOk (N3.mk x_a x_b x_k) (N3.mk y_a y_b y_k) then bif chkB (dvV (N3.mk x_a x_b x_k) (N3.mk y_a y_b y_k)) then (red (dvV (N3.mk x_a x_b x_k) (N3.mk y_a y_b y_k))).3 else 0 else 0))) ( some (bv (false)) ) ( cond (!(validB (N3.mk x_a x_b x_k) && validB (N3.mk y_a y_b y_k) && dvOk (N3.mk x_a x_b x_k) (N3.mk y_a y_b y_k) && chkB (dvV (N3.mk x_a x_b x_k) (N3.mk y_a y_b y_k))) == (validB (N3.mk x_a x_b x_k) && validB (N3.mk y_a y_b y_k) && dvOk (N3.mk x_a x_b x_k) (N3.mk y_a y_b y_k) && chkB (dvV (N3.mk x_a x_b x_k) (N3.mk y_a y_b y_k)))) ( some (bv (false)) ) ( some (bv (true)) ) ) from by kernel_rfl).trans ?_
  simp only [eq3_self, bne_self_eq_false, beq_self_eq_true, cond_true, cond_false, Bool.not_true]
theorem m7 : Meets Try.prog GL0 7 s7 := by
  refine meetsN mix0 gl0 G77 Try.func7 (by kernel_rfl) (by kernel_rfl) s7 fun args x h => ?_
  unfold s7 at h
  split at h
  · rename_i x_a x_b x_k y_a y_b y_k
    simp only [Option.some.injEq, Prod.mk.injEq] at h
    obtain ⟨hp, rfl⟩ := h
    exact ⟨_, _, by kernel_rfl, e7 x_a x_b x_k y_a y_b y_k⟩
  · cases h
abbrev Γ78 : List (Nat × Ctr) := (7, s7) :: Γ77
theorem G78 : Sound Try.prog GL0 Γ78 := G77.cons m7

end Go.Proofs.Ytgcmdnfchhkckaa
