/- Quotients: the program's way and the reference's give the same number. -/
import Derived.Test.YtooikeeckoflpaaDoorNumC
set_option linter.unusedVariables false
set_option linter.unusedSimpArgs false
namespace Go.Ev

theorem red_zero {k : Int} (h : 0 ≤ k) : red ⟨0, 0, k⟩ = z3 := by
  have := redF_zero k.toNat k (Nat.le_refl _)
  unfold red
  simp only
  rw [this]
  have e : (if k > 0 then (0 : Int) else k) = 0 := by split <;> omega
  rw [e]
  rfl
theorem odd_two (a : Int) : odd (2 * a) = false := by unfold odd; simp
/-- Doubled and divided by two once more: the same number. -/
theorem red_dbl {a b k : Int} (h : 0 ≤ k) (hk : k < 1000000) (ha : -2305843009213693952 ≤ a ∧ a ≤ 2305843009213693952) (hb : -2305843009213693952 ≤ b ∧ b ≤ 2305843009213693952) : red ⟨2 * a, 2 * b, k + 1⟩ = red ⟨a, b, k⟩ := by
  by_cases hz : a = 0 ∧ b = 0
  · obtain ⟨rfl, rfl⟩ := hz
    show red ⟨0, 0, k + 1⟩ = _
    rw [red_zero h, red_zero (by omega)]
  · unfold red
    simp only
    have e1 : (k + 1).toNat + 1 = (k.toNat + 1) + 1 := by omega
    rw [e1, redF_succ (k.toNat + 1), if_pos ⟨by omega, odd_two a, odd_two b⟩]
    have ea : (2 * a).tdiv 2 = a := by rw [Int.tdiv_eq_ediv_of_dvd ⟨a, rfl⟩]; omega
    have eb : (2 * b).tdiv 2 = b := by rw [Int.tdiv_eq_ediv_of_dvd ⟨b, rfl⟩]; omega
    rw [ea, eb, wr_in (n := a) (by omega) (by omega), wr_in (n := b) (by omega) (by omega), if_neg hz, wr_in (by omega) (by omega)]
    rw [show k + 1 - 1 = k by omega]
theorem red_scale : ∀ (j : Nat) {a b k : Int}, 0 ≤ k → k + j < 1000000 → (-2305843009213693952 ≤ a * 2 ^ j ∧ a * 2 ^ j ≤ 2305843009213693952) → (-2305843009213693952 ≤ b * 2 ^ j ∧ b * 2 ^ j ≤ 2305843009213693952) →
    red ⟨a * 2 ^ j, b * 2 ^ j, k + j⟩ = red ⟨a, b, k⟩
  | 0, a, b, k, _, _, _, _ => by simp
  | j + 1, a, b, k, h, hk, ha, hb => by
    have e : ∀ c : Int, c * 2 ^ (j + 1) = 2 * (c * 2 ^ j) := fun c => by rw [Int.pow_succ]; grind
    rw [e, e] at *
    have e2 : k + ((j + 1 : Nat) : Int) = (k + j) + 1 := by omega
    rw [e2, red_dbl (by omega) (by omega) (by omega) (by omega)]
    exact red_scale j h (by omega) (by omega) (by omega)
/-- What lowest form has divided by. -/
theorem redF_pow : ∀ (m : Nat) (a b k : Int), 0 ≤ k → k ≤ 1152921504606846976 → -9223372036854775808 ≤ a → a < 9223372036854775808 → -9223372036854775808 ≤ b → b < 9223372036854775808 →
    ∃ j : Nat, a = (redF m a b k).a * 2 ^ j ∧ b = (redF m a b k).b * 2 ^ j ∧ (redF m a b k).k + j = k
  | 0, a, b, k, _, _, _, _, _, _ => ⟨0, by simp [redF]⟩
  | m + 1, a, b, k, h0, h1, a1, a2, b1, b2 => by
    rw [redF_succ]
    split
    · rename_i hc
      obtain ⟨ea, ea'⟩ := tdiv_two hc.2.1
      obtain ⟨eb, eb'⟩ := tdiv_two hc.2.2
      rw [ea, eb, wr_in (n := a / 2) (by omega) (by omega), wr_in (n := b / 2) (by omega) (by omega), wr_in (n := k - 1) (by omega) (by omega)]
      split
      · rename_i hz
        obtain ⟨j, j1, j2, j3⟩ := redF_pow m (a / 2) (b / 2) 0 (by omega) (by omega) (by omega) (by omega) (by omega) (by omega)
        have hr : redF m (a / 2) (b / 2) 0 = ⟨0, 0, 0⟩ := by
          rw [hz.1, hz.2]
          cases m with
          | zero => rfl
          | succ m => have := redF_zero m 0 (by omega); simpa using this
        rw [hr]
        exact ⟨k.toNat, by show a = 0 * _; omega, by show b = 0 * _; omega, by show (0 : Int) + _ = k; omega⟩
      · obtain ⟨j, j1, j2, j3⟩ := redF_pow m (a / 2) (b / 2) (k - 1) (by omega) (by omega) (by omega) (by omega) (by omega) (by omega)
        refine ⟨j + 1, ?_, ?_, by omega⟩
        · rw [Int.pow_succ]; grind
        · rw [Int.pow_succ]; grind
    · exact ⟨0, by simp⟩
theorem red_pow {x : N3} (hk : kB x.k = true) (a1 : -9223372036854775808 ≤ x.a) (a2 : x.a < 9223372036854775808) (b1 : -9223372036854775808 ≤ x.b) (b2 : x.b < 9223372036854775808) :
    ∃ j : Nat, x.a = (red x).a * 2 ^ j ∧ x.b = (red x).b * 2 ^ j ∧ (red x).k + j = x.k := redF_pow _ _ _ _ (kB_iff.1 hk).1 (kB_iff.1 hk).2 a1 a2 b1 b2

/-- The odd part of a number and the power of two that is left. -/
def oddL : Nat → Int → Int → Int × Int
  | 0, n, e => (n, e)
  | f + 1, n, e => if odd n = false then oddL f (n.tdiv 2) (e + 1) else (n, e)
theorem oddL_spec : ∀ (f : Nat) (n e : Int), n ≠ 0 → n.natAbs < 2 ^ f → odd (oddL f n e).1 = true ∧ (oddL f n e).1 ≠ 0 ∧ (oddL f n e).1.natAbs ≤ n.natAbs ∧ e ≤ (oddL f n e).2 ∧ (oddL f n e).2 ≤ e + f
  | 0, n, e, hn, hf => by simp at hf; omega
  | f + 1, n, e, hn, hf => by
    unfold oddL
    split
    · rename_i h
      obtain ⟨h1, h2⟩ := tdiv_two h
      rw [h1]
      have hf' : (n / 2).natAbs < 2 ^ f := by rw [Nat.pow_succ] at hf; omega
      obtain ⟨a1, a2, a3, a4, a5⟩ := oddL_spec f (n / 2) (e + 1) (by omega) hf'
      exact ⟨a1, a2, by omega, by omega, by omega⟩
    · rename_i h
      exact ⟨by simpa using h, hn, Nat.le_refl _, by show e ≤ e; omega, by show e ≤ e + _; omega⟩
theorem dvd_pow_odd {n a : Int} (hn : odd n = true) : ∀ (j : Nat), n ∣ a * 2 ^ j → n ∣ a
  | 0, h => by simpa using h
  | j + 1, h => by
    refine dvd_pow_odd hn j ?_
    obtain ⟨c, hc⟩ := h
    rw [Int.pow_succ] at hc
    have h2 : n % 2 = 1 := by simpa [odd] using hn
    obtain ⟨m, hm⟩ : ∃ m, n = 2 * m + 1 := ⟨n / 2, by omega⟩
    -- a 2^j * 2 = n c: c is even
    have hc2 : a * 2 ^ j * 2 = n * c := by rw [← hc]; grind
    obtain ⟨d, hd⟩ : ∃ d, c = 2 * d := ⟨a * 2 ^ j - m * c, by rw [hm] at hc2; grind⟩
    exact ⟨d, by rw [hd] at hc2; grind⟩
end Go.Ev
namespace Go.Ev
theorem mul_bd {a b A B : Int} (h1 : -A ≤ a) (h2 : a ≤ A) (h3 : -B ≤ b) (h4 : b ≤ B) : -(A * B) ≤ a * b ∧ a * b ≤ A * B := by
  have hA : 0 ≤ A := by omega
  have hB : 0 ≤ B := by omega
  have e : (a * b).natAbs ≤ (A * B).natAbs := by
    rw [Int.natAbs_mul, Int.natAbs_mul]
    exact Nat.mul_le_mul (by omega) (by omega)
  have hAB : 0 ≤ A * B := Int.mul_nonneg hA hB
  omega
def dvNo : AV := .tup [z3.av, bv false]
def dvYes (r : N3) : AV := .tup [r.av, bv true]
/-- What is done behind the loop that makes the norm odd. -/
def implEnd (n a b k : Int) : Option AV :=
  cond (!(n == 0)) (cond (a.tmod n != 0) (some dvNo) (cond (!(n == 0)) (cond (b.tmod n != 0) (some dvNo) (cond (!(n == 0)) (cond (!(n == 0)) (cond (decide (k < 0))
    (cond (decide (0 ≤ wr (0 - k))) (cond (decide (0 ≤ wr (0 - k))) (some (dvYes ⟨shF (wr (a.tdiv n)) (wr (0 - k)), shF (wr (b.tdiv n)) (wr (0 - k)), 0⟩)) none) none)
    (cond (kB k) (some (dvYes (red ⟨wr (a.tdiv n), wr (b.tdiv n), k⟩))) none)) none) none)) none)) none
def specEnd (R : Int → Int → Option AV) (n a b : Int) : Option AV :=
  cond (!(n == 0)) (cond (a.tmod n != 0) (some dvNo) (cond (!(n == 0)) (cond (b.tmod n != 0) (some dvNo) (cond (!(n == 0)) (cond (!(n == 0)) (R (wr (a.tdiv n)) (wr (b.tdiv n))) none) none)) none)) none
def divN (y : N3) : Int := wr (wr (y.a * y.a) - wr (wr (2 * y.b) * y.b))
def divC (y : N3) : N3 := ⟨y.a, wr (0 - y.b), 0⟩
def divT (x y : N3) : N3 := mulF x (divC y)
def dvOdd (y : N3) : Int := (oddL 60 (divN y) 0).1
def dvE (y : N3) : Int := (oddL 60 (divN y) 0).2
def dvK (x y : N3) : Int := (divT x y).k - y.k + dvE y
/-- Is there a quotient; which. -/
def dvOk (x y : N3) : Bool := cond (divN y == 0) false (cond ((divT x y).a.tmod (dvOdd y) != 0) false (!((divT x y).b.tmod (dvOdd y) != 0)))
def dvV (x y : N3) : N3 := cond (decide (dvK x y < 0))
  ⟨shF (wr ((divT x y).a.tdiv (dvOdd y))) (wr (0 - dvK x y)), shF (wr ((divT x y).b.tdiv (dvOdd y))) (wr (0 - dvK x y)), 0⟩ (red ⟨wr ((divT x y).a.tdiv (dvOdd y)), wr ((divT x y).b.tdiv (dvOdd y)), dvK x y⟩)
def dvR (x y : N3) : AV := .tup [(sel (dvOk x y) (dvV x y)).av, bv (dvOk x y)]
def dvP (x y : N3) : Bool := ((inB x.a (-8589934592) 8589934592 && inB x.b (-8589934592) 8589934592) && inB x.k 0 1000) && ((inB y.a (-131072) 131072 && inB y.b (-131072) 131072) && inB y.k 0 10)

theorem oddL_shift : ∀ (f : Nat) (n e : Int), oddL f n e = ((oddL f n 0).1, e + (oddL f n 0).2)
  | 0, n, e => by simp [oddL]
  | f + 1, n, e => by
    unfold oddL
    split
    · rw [oddL_shift f _ (e + 1), oddL_shift f _ (0 + 1)]
      simp only [Prod.mk.injEq, true_and]
      omega
    · simp
theorem dvP_iff {x y : N3} : dvP x y = true ↔ ((-8589934592 ≤ x.a ∧ x.a ≤ 8589934592) ∧ (-8589934592 ≤ x.b ∧ x.b ≤ 8589934592) ∧ 0 ≤ x.k ∧ x.k ≤ 1000) ∧ (-131072 ≤ y.a ∧ y.a ≤ 131072) ∧ (-131072 ≤ y.b ∧ y.b ≤ 131072) ∧ 0 ≤ y.k ∧ y.k ≤ 10 := by
  simp only [dvP, Bool.and_eq_true, inB_iff, and_assoc]

/-- The two raw numbers of a quotient. -/
def rawA (x y : N3) : Int := x.a * y.a - 2 * x.b * y.b
def rawB (x y : N3) : Int := x.b * y.a - x.a * y.b
theorem raw_bd {x y : N3} (h : dvP x y = true) : (-3377699720527872 ≤ rawA x y ∧ rawA x y ≤ 3377699720527872) ∧ (-3377699720527872 ≤ rawB x y ∧ rawB x y ≤ 3377699720527872) ∧
    wr (wr (x.a * y.a) - wr (wr (2 * x.b) * y.b)) = rawA x y ∧ wr (wr (x.b * y.a) - wr (x.a * y.b)) = rawB x y ∧ mulR x (divC y) = ⟨rawA x y, rawB x y, x.k⟩ ∧
    divN y = y.a * y.a - 2 * y.b * y.b ∧ (-51539607552 ≤ divN y ∧ divN y ≤ 51539607552) := by
  obtain ⟨⟨⟨xa, xa'⟩, ⟨xb, xb'⟩, xk, xk'⟩, ⟨ya, ya'⟩, ⟨yb, yb'⟩, yk, yk'⟩ := dvP_iff.1 h
  have p1 := mul_bd xa xa' ya ya'
  have p2 := mul_bd xb xb' yb yb'
  have p3 := mul_bd xb xb' ya ya'
  have p4 := mul_bd xa xa' yb yb'
  have p5 := mul_bd ya ya' ya ya'
  have p6 := mul_bd yb yb' yb yb'
  have e1 : 2 * x.b * y.b = 2 * (x.b * y.b) := by grind
  have e2 : 2 * y.b * y.b = 2 * (y.b * y.b) := by grind
  have e3 : x.a * -y.b = -(x.a * y.b) := by grind
  have e4 : 2 * x.b * -y.b = -(2 * (x.b * y.b)) := by grind
  have w1 : wr (2 * x.b) = 2 * x.b := wr_in (by omega) (by omega)
  have w2 : wr (2 * y.b) = 2 * y.b := wr_in (by omega) (by omega)
  have w3 : wr (0 - y.b) = -y.b := by rw [Int.zero_sub]; exact wr_in (by omega) (by omega)
  have w4 : wr (x.a * y.a) = x.a * y.a := wr_in (by omega) (by omega)
  have w5 : wr (x.b * y.a) = x.b * y.a := wr_in (by omega) (by omega)
  have w6 : wr (x.a * y.b) = x.a * y.b := wr_in (by omega) (by omega)
  have w7 : wr (2 * x.b * y.b) = 2 * x.b * y.b := wr_in (by omega) (by omega)
  have w8 : wr (2 * x.b * -y.b) = 2 * x.b * -y.b := wr_in (by omega) (by omega)
  have w9 : wr (x.a * -y.b) = x.a * -y.b := wr_in (by omega) (by omega)
  have wa : wr (y.a * y.a) = y.a * y.a := wr_in (by omega) (by omega)
  have wb : wr (2 * y.b * y.b) = 2 * y.b * y.b := wr_in (by omega) (by omega)
  have hN : divN y = y.a * y.a - 2 * y.b * y.b := by unfold divN; rw [w2, wa, wb]; exact wr_in (by omega) (by omega)
  refine ⟨by unfold rawA; omega, by unfold rawB; omega, ?_, ?_, ?_, hN, by rw [hN]; omega⟩
  · rw [w1, w4, w7]; exact wr_in (by omega) (by omega)
  · rw [w5, w6]; exact wr_in (by omega) (by omega)
  · unfold mulR divC rawA rawB
    simp only
    rw [w1, w3, w4, w5, w8, w9, wr_in (n := x.a * y.a + 2 * x.b * -y.b) (by omega) (by omega), wr_in (n := x.a * -y.b + x.b * y.a) (by omega) (by omega), wr_in (n := x.k + 0) (by omega) (by omega)]
    rw [e3, e4, e1]
    show (⟨_, _, _⟩ : N3) = ⟨_, _, _⟩
    congr 1 <;> omega
theorem pkm_div {x y : N3} (h : dvP x y = true) : pkm x (divC y) = true := by
  obtain ⟨⟨_, _, xk, xk'⟩, _⟩ := dvP_iff.1 h
  exact pkm_iff.2 ⟨xk, Int.le_refl 0, by show x.k + (0 : Int) ≤ _; omega⟩
theorem tdiv_bd (a n : Int) : (a.tdiv n).natAbs ≤ a.natAbs := by
  rw [Int.natAbs_tdiv]
  exact Nat.div_le_self _ _

/-- The reference's last loop. -/
def decF : Nat → Int → Int → Int → N3
  | 0, a, b, k => ⟨a, b, k⟩
  | m + 1, a, b, k => if k > 0 then decF m a b (wr (k - 1)) else decF m (wr (a * 2)) (wr (b * 2)) k
theorem dblI_in : ∀ (d : Nat) (a : Int), -4611686018427387904 ≤ a * 2 ^ d → a * 2 ^ d ≤ 4611686018427387904 → dblI d a = a * 2 ^ d
  | 0, a, _, _ => by simp [dblI]
  | d + 1, a, h1, h2 => by
    have e : a * 2 ^ (d + 1) = (a * 2) * 2 ^ d := by rw [Int.pow_succ]; grind
    have hp : (0 : Int) < 2 ^ d := Int.pow_pos (by decide)
    have hb : -4611686018427387904 ≤ a * 2 ∧ a * 2 ≤ 4611686018427387904 := by
      rw [e] at h1 h2
      generalize hq : (2 : Int) ^ d = q at *
      constructor
      · apply Int.le_of_not_gt
        intro hc
        have : a * 2 * q ≤ a * 2 * 1 := Int.mul_le_mul_of_nonpos_left (by omega) (by omega)
        omega
      · apply Int.le_of_not_gt
        intro hc
        have : a * 2 * 1 ≤ a * 2 * q := Int.mul_le_mul_of_nonneg_left (by omega) (by omega)
        omega
    simp only [dblI]
    rw [wr_in (by omega) (by omega), dblI_in d (a * 2) (by omega) (by omega), e]
theorem decF_spec : ∀ (m : Nat) (a b k : Int), 0 ≤ k → k ≤ 1152921504606846976 → decF m a b k = if (m : Int) ≤ k then ⟨a, b, k - m⟩ else ⟨dblI (m - k).toNat a, dblI (m - k).toNat b, 0⟩
  | 0, a, b, k, h, _ => by simp [decF, h]
  | m + 1, a, b, k, h, h' => by
    unfold decF
    by_cases hk : k > 0
    · rw [if_pos hk, wr_in (by omega) (by omega), decF_spec m a b (k - 1) (by omega) (by omega)]
      by_cases hm : (m : Int) ≤ k - 1
      · rw [if_pos hm, if_pos (by omega)]
        congr 1
        omega
      · rw [if_neg hm, if_neg (by omega)]
        have : ((m : Int) - (k - 1)).toNat = (((m + 1 : Nat) : Int) - k).toNat := by omega
        rw [this]
    · have hk0 : k = 0 := by omega
      subst hk0
      rw [if_neg hk, decF_spec m _ _ 0 (by omega) (by omega), if_neg (c := ((m + 1 : Nat) : Int) ≤ 0) (by omega)]
      have e1 : (((m + 1 : Nat) : Int) - 0).toNat = m + 1 := by omega
      rw [e1]
      by_cases hm : (m : Int) ≤ 0
      · have : m = 0 := by omega
        subst this
        simp [dblI]
      · rw [if_neg hm]
        have e2 : ((m : Int) - 0).toNat = m := by omega
        rw [e2]
        rfl
theorem shF_eq {a : Int} {d : Int} (h0 : 0 ≤ d) (hd : d ≤ 64) (h1 : -9223372036854775808 ≤ a * 2 ^ d.toNat) (h2 : a * 2 ^ d.toNat < 9223372036854775808) : shF a d = a * 2 ^ d.toNat := by
  unfold shF
  rw [Nat.min_eq_left (by omega)]
  exact wr_in h1 h2
theorem pow_bd {c M : Int} {d K : Nat} (hd : d ≤ K) (h1 : -M ≤ c) (h2 : c ≤ M) : -(M * 2 ^ K) ≤ c * 2 ^ d ∧ c * 2 ^ d ≤ M * 2 ^ K := shF_le hd h1 h2
theorem odd_ne {n : Int} (h : odd n = true) : n ≠ 0 := fun e => by subst e; cases h

/-- The reference's quotient is the program's. -/
theorem dv_same {x y : N3} (h : dvP x y = true) (hn : divN y ≠ 0) : odd (dvOdd y) = true ∧ (0 ≤ dvE y ∧ dvE y ≤ 60) ∧ (0 ≤ (divT x y).k ∧ (divT x y).k ≤ 1000) ∧
    ((rawA x y).tmod (dvOdd y) != 0) = ((divT x y).a.tmod (dvOdd y) != 0) ∧ ((rawB x y).tmod (dvOdd y) != 0) = ((divT x y).b.tmod (dvOdd y) != 0) ∧
    ((divT x y).a.tmod (dvOdd y) = 0 → (divT x y).b.tmod (dvOdd y) = 0 →
      red (decF y.k.toNat (wr ((rawA x y).tdiv (dvOdd y))) (wr ((rawB x y).tdiv (dvOdd y))) (x.k + dvE y)) = dvV x y) := by
  obtain ⟨ra, rb, _, _, hm, _, hN⟩ := raw_bd h
  obtain ⟨⟨_, _, xk, xk'⟩, _, _, yk, yk'⟩ := dvP_iff.1 h
  obtain ⟨o1, o2, o3, o4, o5⟩ := oddL_spec 60 (divN y) 0 hn (by
    have : (2 : Nat) ^ 60 = 1152921504606846976 := by decide
    omega)
  have hT : divT x y = red ⟨rawA x y, rawB x y, x.k⟩ := by unfold divT mulF; rw [hm]
  obtain ⟨j, j1, j2, j3⟩ := red_pow (x := ⟨rawA x y, rawB x y, x.k⟩) (kB_iff.2 ⟨xk, by show x.k ≤ _; omega⟩) (by show _ ≤ rawA x y; omega) (by show rawA x y < _; omega) (by show _ ≤ rawB x y; omega) (by show rawB x y < _; omega)
  rw [← hT] at j1 j2 j3
  simp only at j1 j2 j3
  have tk := red_k (x := ⟨rawA x y, rawB x y, x.k⟩) (kB_iff.2 ⟨xk, by show x.k ≤ _; omega⟩)
  rw [← hT] at tk
  simp only at tk
  change odd (dvOdd y) = true at o1
  change dvOdd y ≠ 0 at o2
  change 0 ≤ dvE y at o4
  change dvE y ≤ _ at o5
  have key : ∀ (r s : Int), r = s * 2 ^ j → (r.tmod (dvOdd y) != 0) = (s.tmod (dvOdd y) != 0) := by
    intro r s e
    have : (r.tmod (dvOdd y) = 0) ↔ (s.tmod (dvOdd y) = 0) := by
      rw [← Int.dvd_iff_tmod_eq_zero, ← Int.dvd_iff_tmod_eq_zero]
      constructor
      · intro hd; rw [e] at hd; exact dvd_pow_odd o1 j hd
      · intro hd; rw [e]; exact Int.dvd_mul_of_dvd_left hd
    rw [Bool.eq_iff_iff]
    simp [this]
  refine ⟨o1, ⟨o4, by omega⟩, ⟨tk.1, by omega⟩, key _ _ j1, key _ _ j2, fun za zb => ?_⟩
  obtain ⟨c, hc⟩ := Int.dvd_iff_tmod_eq_zero.2 za
  obtain ⟨d, hd⟩ := Int.dvd_iff_tmod_eq_zero.2 zb
  have qa : (divT x y).a.tdiv (dvOdd y) = c := by rw [hc]; exact Int.mul_tdiv_cancel_left _ o2
  have qb : (divT x y).b.tdiv (dvOdd y) = d := by rw [hd]; exact Int.mul_tdiv_cancel_left _ o2
  have ra' : (rawA x y).tdiv (dvOdd y) = c * 2 ^ j := by rw [j1, hc, Int.mul_assoc]; exact Int.mul_tdiv_cancel_left _ o2
  have rb' : (rawB x y).tdiv (dvOdd y) = d * 2 ^ j := by rw [j2, hd, Int.mul_assoc]; exact Int.mul_tdiv_cancel_left _ o2
  have ba := tdiv_bd (rawA x y) (dvOdd y)
  have bb := tdiv_bd (rawB x y) (dvOdd y)
  rw [ra'] at ba
  rw [rb'] at bb
  have hp : (1 : Int) ≤ 2 ^ j := by have : (0 : Int) < 2 ^ j := Int.pow_pos (by decide); omega
  have small : ∀ v : Int, (v * 2 ^ j).natAbs ≤ 3377699720527872 → -3377699720527872 ≤ v ∧ v ≤ 3377699720527872 := by
    intro v hv
    have : v.natAbs * 1 ≤ v.natAbs * (2 ^ j : Int).natAbs := Nat.mul_le_mul_left _ (by omega)
    rw [Int.natAbs_mul] at hv
    omega
  have sc := small c (by omega)
  have sd := small d (by omega)
  unfold dvV dvK
  rw [qa, qb, ra', rb', wr_in (n := c) (by omega) (by omega), wr_in (n := d) (by omega) (by omega), wr_in (n := c * 2 ^ j) (by omega) (by omega), wr_in (n := d * 2 ^ j) (by omega) (by omega)]
  rw [decF_spec _ _ _ _ (by omega) (by omega)]
  generalize hK : (divT x y).k - y.k + dvE y = K
  by_cases hK0 : K < 0
  · have hw : wr (0 - K) = -K := by rw [Int.zero_sub]; exact wr_in (by omega) (by omega)
    rw [hw]
    simp only [hK0, decide_true, cond_true]
    obtain ⟨i, hi⟩ : ∃ i : Nat, -K = i := ⟨(-K).toNat, by omega⟩
    have e10 : (2 : Int) ^ 10 = 1024 := by decide
    have pc := pow_bd (c := c) (M := 3377699720527872) (d := i) (K := 10) (by omega) (by omega) (by omega)
    have pd := pow_bd (c := d) (M := 3377699720527872) (d := i) (K := 10) (by omega) (by omega) (by omega)
    rw [e10] at pc pd
    have s1 : shF c (-K) = c * 2 ^ i := by rw [hi]; exact shF_eq (by omega) (by omega) (by simp only [Int.toNat_natCast]; omega) (by simp only [Int.toNat_natCast]; omega)
    have s2 : shF d (-K) = d * 2 ^ i := by rw [hi]; exact shF_eq (by omega) (by omega) (by simp only [Int.toNat_natCast]; omega) (by simp only [Int.toNat_natCast]; omega)
    rw [s1, s2]
    by_cases hD : (y.k.toNat : Int) ≤ x.k + dvE y
    · rw [if_pos hD]
      obtain ⟨D, hDe⟩ : ∃ D : Nat, x.k + dvE y - y.k.toNat = D := ⟨(x.k + dvE y - y.k.toNat).toNat, by omega⟩
      have hj : j = i + D := by omega
      rw [hDe]
      have e : ∀ v : Int, v * 2 ^ j = v * 2 ^ i * 2 ^ D := fun v => by rw [hj, Int.pow_add]; grind
      rw [e c, e d]
      have := red_scale D (a := c * 2 ^ i) (b := d * 2 ^ i) (k := 0) (by omega) (by omega) (by rw [← e]; omega) (by rw [← e]; omega)
      rw [Int.zero_add] at this
      rw [this]
      rfl
    · rw [if_neg hD]
      obtain ⟨D, hDe⟩ : ∃ D : Nat, (y.k.toNat : Int) - (x.k + dvE y) = D := ⟨((y.k.toNat : Int) - (x.k + dvE y)).toNat, by omega⟩
      have hi2 : i = j + D := by omega
      rw [hDe]
      have e : ∀ v : Int, v * 2 ^ i = v * 2 ^ j * 2 ^ D := fun v => by rw [hi2, Int.pow_add]; grind
      have e' : (D : Int).toNat = D := rfl
      rw [e']
      rw [dblI_in D (c * 2 ^ j) (by rw [← e]; omega) (by rw [← e]; omega), dblI_in D (d * 2 ^ j) (by rw [← e]; omega) (by rw [← e]; omega), ← e, ← e]
      rfl
  · have hD : (y.k.toNat : Int) ≤ x.k + dvE y := by omega
    rw [if_pos hD]
    simp only [hK0, decide_false, cond_false]
    have e : x.k + dvE y - (y.k.toNat : Int) = K + j := by omega
    rw [e]
    exact red_scale j (by omega) (by omega) (by omega) (by omega)
theorem sel_true (x : N3) : sel true x = x := rfl
theorem implEnd_eq {x y : N3} (h : dvP x y = true) (hn : divN y ≠ 0) : implEnd (dvOdd y) (divT x y).a (divT x y).b (dvK x y) = some (dvR x y) := by
  obtain ⟨o1, o2, o3, _, _, _⟩ := dv_same h hn
  obtain ⟨_, _, _, yk, yk'⟩ := dvP_iff.1 h
  have hne : (dvOdd y == 0) = false := by simpa using odd_ne o1
  have hN : (divN y == 0) = false := by simpa using hn
  have hK : -10 ≤ dvK x y ∧ dvK x y ≤ 1060 := by unfold dvK; omega
  unfold implEnd dvR dvOk
  rw [hne, hN]
  cases ha : ((divT x y).a.tmod (dvOdd y) != 0) with
  | true => rfl
  | false =>
    cases hb : ((divT x y).b.tmod (dvOdd y) != 0) with
    | true => rfl
    | false =>
      simp only [Bool.not_false, cond_true, cond_false]
      unfold dvV
      by_cases hk : dvK x y < 0
      · have hw : decide (0 ≤ wr (0 - dvK x y)) = true := by rw [Int.zero_sub, wr_in (by omega) (by omega)]; simp; omega
        simp only [hk, decide_true, cond_true, hw]
        rfl
      · have hkb : kB (dvK x y) = true := kB_iff.2 (by omega)
        simp only [hk, decide_false, cond_false, hkb, cond_true]
        rfl
theorem specEnd_eq {x y : N3} (h : dvP x y = true) (hn : divN y ≠ 0) (R : Int → Int → Option AV) (hR : ∀ a b, R a b = some (dvYes (red (decF y.k.toNat a b (x.k + dvE y))))) :
    specEnd R (dvOdd y) (rawA x y) (rawB x y) = some (dvR x y) := by
  obtain ⟨o1, o2, o3, k1, k2, k3⟩ := dv_same h hn
  have hne : (dvOdd y == 0) = false := by simpa using odd_ne o1
  have hN : (divN y == 0) = false := by simpa using hn
  unfold specEnd dvR dvOk
  rw [hne, hN, k1, k2]
  cases ha : ((divT x y).a.tmod (dvOdd y) != 0) with
  | true => rfl
  | false =>
    cases hb : ((divT x y).b.tmod (dvOdd y) != 0) with
    | true => rfl
    | false =>
      simp only [Bool.not_false, cond_true, cond_false]
      rw [hR, k3 (by simpa using ha) (by simpa using hb)]
      rfl
theorem valid_dvP {x y : N3} (hx : validB x = true) (hy : validB y = true) : dvP x y = true := by
  obtain ⟨a1, a2, a3, _⟩ := validB_iff.1 hx
  obtain ⟨b1, b2, b3, _⟩ := validB_iff.1 hy
  exact dvP_iff.2 ⟨⟨by omega, by omega, by omega⟩, by omega, by omega, by omega⟩
theorem dvV_k {x y : N3} (h : dvP x y = true) (hn : divN y ≠ 0) : kB (dvV x y).k = true := by
  obtain ⟨o1, o2, o3, _, _, _⟩ := dv_same h hn
  obtain ⟨_, _, _, yk, yk'⟩ := dvP_iff.1 h
  have hK : dvK x y ≤ 1060 := by unfold dvK; omega
  unfold dvV
  by_cases hk : dvK x y < 0
  · simp only [hk, decide_true, cond_true]; rfl
  · simp only [hk, decide_false, cond_false]
    have := red_k (x := ⟨wr ((divT x y).a.tdiv (dvOdd y)), wr ((divT x y).b.tdiv (dvOdd y)), dvK x y⟩) (kB_iff.2 ⟨by show 0 ≤ dvK x y; omega, by show dvK x y ≤ _; omega⟩)
    exact kB_iff.2 ⟨this.1, Int.le_trans this.2 (by show dvK x y ≤ _; omega)⟩
end Go.Ev
