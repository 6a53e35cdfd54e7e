/- Signs of numbers A + B r, r the square root of 2: what the program computes is the sign; it is multiplicative, and the order is kept. -/
import Derived.Test.YtooikeeckoflpaaDoorNumH
set_option linter.unusedVariables false
set_option linter.unusedSimpArgs false
namespace Go.Ev

/-- The sign of a + b r as the program computes it. -/
def sgZ (a b : Int) : Int := if a.sign = b.sign ∨ b.sign = 0 then a.sign else if a.sign = 0 ∨ ¬ (a * a > 2 * (b * b)) then b.sign else a.sign
def sgF (x : N3) : Int := sgZ x.a x.b

theorem sq_two : ∀ (n : Nat) (a b : Int), a.natAbs + b.natAbs ≤ n → a * a = 2 * (b * b) → a = 0 ∧ b = 0
  | 0, a, b, h, _ => by omega
  | n + 1, a, b, h, e => by
    by_cases ha : a = 0
    · subst ha
      refine ⟨rfl, ?_⟩
      have : b * b = 0 := by omega
      rcases Int.mul_eq_zero.1 this with h | h <;> exact h
    · have h2 : a % 2 = 0 := by
        rcases Int.emod_two_eq a with h | h
        · exact h
        · exfalso
          have : (a * a) % 2 = 1 := by rw [Int.mul_emod, h]; rfl
          omega
      obtain ⟨c, rfl⟩ : ∃ c, a = 2 * c := ⟨a / 2, by omega⟩
      have e2 : b * b = 2 * (c * c) := by
        have : 2 * c * (2 * c) = 4 * (c * c) := by grind
        omega
      have := sq_two n b c (by omega) e2
      omega

theorem sq_nonneg (a : Int) : 0 ≤ a * a := by
  rcases Int.le_total 0 a with h | h
  · exact Int.mul_nonneg h h
  · exact Int.mul_nonneg_of_nonpos_of_nonpos h h
theorem nm_zero {a b : Int} (h : a * a = 2 * (b * b)) : a = 0 ∧ b = 0 := sq_two _ a b (Nat.le_refl _) h
theorem sgZ_pos {a b : Int} (h : a * a > 2 * (b * b)) : sgZ a b = a.sign := by
  have hb : 0 ≤ b * b := sq_nonneg b
  have ha : a ≠ 0 := fun e => by subst e; omega
  have hs : a.sign ≠ 0 := fun e => ha (Int.sign_eq_zero_iff_zero.1 e)
  unfold sgZ
  split
  · rfl
  · rw [if_neg (by simp [hs, h])]
theorem sgZ_neg {a b : Int} (h : a * a < 2 * (b * b)) : sgZ a b = b.sign := by
  have ha : 0 ≤ a * a := sq_nonneg a
  have hb : b ≠ 0 := fun e => by subst e; omega
  have hs : b.sign ≠ 0 := fun e => hb (Int.sign_eq_zero_iff_zero.1 e)
  unfold sgZ
  split
  · rename_i h'
    rcases h' with h' | h'
    · exact h'
    · exact absurd h' hs
  · rw [if_pos (.inr (by omega))]
theorem sgZ_zero : sgZ 0 0 = 0 := rfl
theorem sgZ_eq_zero {a b : Int} (h : sgZ a b = 0) : a = 0 ∧ b = 0 := by
  rcases Int.lt_trichotomy (a * a) (2 * (b * b)) with h' | h' | h'
  · rw [sgZ_neg h'] at h
    have hb := Int.sign_eq_zero_iff_zero.1 h
    subst hb
    have : 0 ≤ a * a := sq_nonneg a
    omega
  · exact nm_zero h'
  · rw [sgZ_pos h'] at h
    have hb := Int.sign_eq_zero_iff_zero.1 h
    subst hb
    have : 0 ≤ b * b := sq_nonneg b
    omega
theorem sgZ_minus (a b : Int) : sgZ (-a) (-b) = - sgZ a b := by
  unfold sgZ
  simp only [Int.sign_neg, Int.neg_mul_neg]
  rcases Int.lt_trichotomy a 0 with ha | ha | ha
  · rw [Int.sign_eq_neg_one_of_neg ha]
    rcases Int.lt_trichotomy b 0 with hb | hb | hb
    · rw [Int.sign_eq_neg_one_of_neg hb]; simp
    · subst hb; simp
    · rw [Int.sign_eq_one_of_pos hb]; simp; split <;> simp
  · subst ha
    rcases Int.lt_trichotomy b 0 with hb | hb | hb
    · rw [Int.sign_eq_neg_one_of_neg hb]; simp
    · subst hb; simp
    · rw [Int.sign_eq_one_of_pos hb]; simp
  · rw [Int.sign_eq_one_of_pos ha]
    rcases Int.lt_trichotomy b 0 with hb | hb | hb
    · rw [Int.sign_eq_neg_one_of_neg hb]; simp; split <;> simp
    · subst hb; simp
    · rw [Int.sign_eq_one_of_pos hb]; simp
theorem sign_pow (a : Int) (n : Nat) : (a * 2 ^ n).sign = a.sign := by
  rw [Int.sign_mul, Int.sign_eq_one_of_pos (Int.pow_pos (by decide)), Int.mul_one]
theorem sgZ_scale (a b : Int) (n : Nat) : sgZ (a * 2 ^ n) (b * 2 ^ n) = sgZ a b := by
  unfold sgZ
  rw [sign_pow, sign_pow]
  have hp : (0 : Int) < 2 ^ n * 2 ^ n := Int.mul_pos (Int.pow_pos (by decide)) (Int.pow_pos (by decide))
  have e : (a * 2 ^ n * (a * 2 ^ n) > 2 * (b * 2 ^ n * (b * 2 ^ n))) ↔ a * a > 2 * (b * b) := by
    have e1 : a * 2 ^ n * (a * 2 ^ n) = (a * a) * (2 ^ n * 2 ^ n) := by grind
    have e2 : 2 * (b * 2 ^ n * (b * 2 ^ n)) = (2 * (b * b)) * (2 ^ n * 2 ^ n) := by grind
    rw [e1, e2]
    exact ⟨fun h => Int.lt_of_mul_lt_mul_right h (Int.le_of_lt hp), fun h => Int.mul_lt_mul_of_pos_right h hp⟩
  simp only [e]
theorem sign_add_big {u v : Int} (h : v * v < u * u) : (u + v).sign = u.sign := by
  have h' : v.natAbs < u.natAbs := by
    apply Nat.mul_self_lt_mul_self_iff.1
    have e1 := Int.natAbs_mul_self (a := u)
    have e2 := Int.natAbs_mul_self (a := v)
    omega
  rcases Int.lt_trichotomy u 0 with hu | hu | hu
  · rw [Int.sign_eq_neg_one_of_neg hu, Int.sign_eq_neg_one_of_neg (by omega)]
  · omega
  · rw [Int.sign_eq_one_of_pos hu, Int.sign_eq_one_of_pos (by omega)]
/-- p > q ≥ 0 and r > s ≥ 0: the products too. -/
theorem mul_lt2 {p q r s : Int} (h1 : q < p) (h2 : 0 ≤ q) (h3 : s < r) (h4 : 0 ≤ s) : q * s < p * r :=
  Int.lt_of_le_of_lt (Int.mul_le_mul_of_nonneg_left (Int.le_of_lt h3) h2) (Int.mul_lt_mul_of_pos_right h1 (by omega))
theorem sgZ_mul (a b c d : Int) : sgZ (a * c + 2 * b * d) (a * d + b * c) = sgZ a b * sgZ c d := by
  have ha := sq_nonneg a
  have hb := sq_nonneg b
  have hc := sq_nonneg c
  have hd := sq_nonneg d
  have key : (a * c + 2 * b * d) * (a * c + 2 * b * d) - 2 * ((a * d + b * c) * (a * d + b * c)) = (a * a - 2 * (b * b)) * (c * c - 2 * (d * d)) := by grind
  rcases Int.lt_trichotomy (a * a) (2 * (b * b)) with h | h | h
  · rcases Int.lt_trichotomy (c * c) (2 * (d * d)) with g | g | g
    · have hk : 0 < (a * a - 2 * (b * b)) * (c * c - 2 * (d * d)) := Int.mul_pos_of_neg_of_neg (by omega) (by omega)
      rw [sgZ_pos (by omega), sgZ_neg h, sgZ_neg g, Int.add_comm, sign_add_big, show 2 * b * d = 2 * (b * d) by grind, Int.sign_mul, Int.sign_mul]
      · rw [show Int.sign 2 = 1 from rfl, Int.one_mul]
      · have := mul_lt2 h ha g hc
        have e1 : a * c * (a * c) = a * a * (c * c) := by grind
        have e2 : 2 * b * d * (2 * b * d) = 2 * (b * b) * (2 * (d * d)) := by grind
        omega
    · obtain ⟨rfl, rfl⟩ := nm_zero g
      simp [sgZ_zero]
    · have hk : (a * a - 2 * (b * b)) * (c * c - 2 * (d * d)) < 0 := Int.mul_neg_of_neg_of_pos (by omega) (by omega)
      rw [sgZ_neg (by omega), sgZ_neg h, sgZ_pos g, Int.add_comm, sign_add_big, Int.sign_mul]
      have := mul_lt2 h ha g (by omega)
      have e1 : a * d * (a * d) = a * a * (d * d) := by grind
      have e2 : b * c * (b * c) = b * b * (c * c) := by grind
      have e3 : a * a * (2 * (d * d)) = 2 * (a * a * (d * d)) := by grind
      have e4 : 2 * (b * b) * (c * c) = 2 * (b * b * (c * c)) := by grind
      omega
  · obtain ⟨rfl, rfl⟩ := nm_zero h
    simp [sgZ_zero]
  · rcases Int.lt_trichotomy (c * c) (2 * (d * d)) with g | g | g
    · have hk : (a * a - 2 * (b * b)) * (c * c - 2 * (d * d)) < 0 := Int.mul_neg_of_pos_of_neg (by omega) (by omega)
      rw [sgZ_neg (by omega), sgZ_pos h, sgZ_neg g, sign_add_big, Int.sign_mul]
      have := mul_lt2 h (by omega) g hc
      have e1 : a * d * (a * d) = a * a * (d * d) := by grind
      have e2 : b * c * (b * c) = b * b * (c * c) := by grind
      have e3 : a * a * (2 * (d * d)) = 2 * (a * a * (d * d)) := by grind
      have e4 : 2 * (b * b) * (c * c) = 2 * (b * b * (c * c)) := by grind
      omega
    · obtain ⟨rfl, rfl⟩ := nm_zero g
      simp [sgZ_zero]
    · have hk : 0 < (a * a - 2 * (b * b)) * (c * c - 2 * (d * d)) := Int.mul_pos (by omega) (by omega)
      rw [sgZ_pos (by omega), sgZ_pos h, sgZ_pos g, sign_add_big, Int.sign_mul]
      have := mul_lt2 h (by omega) g (by omega)
      have e1 : a * c * (a * c) = a * a * (c * c) := by grind
      have e2 : 2 * b * d * (2 * b * d) = 2 * (b * b) * (2 * (d * d)) := by grind
      omega

/-- The sign of a number's value. -/
theorem Val.sg {S : Nat} {x : N3} {A B : Int} (h : Val S x A B) : sgF x = sgZ A B := by
  obtain ⟨k0, kS, ha, hb⟩ := h
  unfold sgF
  rw [ha, hb, sgZ_scale]
end Go.Ev
