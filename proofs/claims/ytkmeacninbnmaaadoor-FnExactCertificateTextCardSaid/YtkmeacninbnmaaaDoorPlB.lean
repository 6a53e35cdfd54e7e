/- Signs, sources and motions in plain Lean. -/
import Derived.Test.YtkmeacninbnmaaaDoorPlA
set_option linter.unusedVariables false
set_option linter.unusedSimpArgs false
/- Signs of numbers A + B r, r the square root of 2: what the program computes is the sign; it is multiplicative, and the order is kept. -/
namespace Go.Ev

/-- The sign of a + b r as the program computes it. -/
def sgZ (a b : Int) : Int := if a.sign = b.sign ∨ b.sign = 0 then a.sign else if a.sign = 0 ∨ ¬ (a * a > 2 * (b * b)) then b.sign else a.sign
def sgF (x : N3) : Int := sgZ x.a x.b

theorem sq_two : ∀ (n : Nat) (a b : Int), a.natAbs + b.natAbs ≤ n → a * a = 2 * (b * b) → a = 0 ∧ b = 0
  | 0, a, b, h, _ => by omega
  | n + 1, a, b, h, e => by
    by_cases ha : a = 0
    · subst ha
      refine ⟨rfl, ?_⟩
      have : b * b = 0 := by omega
      rcases Int.mul_eq_zero.1 this with h | h <;> exact h
    · have h2 : a % 2 = 0 := by
        rcases Int.emod_two_eq a with h | h
        · exact h
        · exfalso
          have : (a * a) % 2 = 1 := by rw [Int.mul_emod, h]; rfl
          omega
      obtain ⟨c, rfl⟩ : ∃ c, a = 2 * c := ⟨a / 2, by omega⟩
      have e2 : b * b = 2 * (c * c) := by
        have : 2 * c * (2 * c) = 4 * (c * c) := by grind
        omega
      have := sq_two n b c (by omega) e2
      omega

theorem sq_nonneg (a : Int) : 0 ≤ a * a := by
  rcases Int.le_total 0 a with h | h
  · exact Int.mul_nonneg h h
  · exact Int.mul_nonneg_of_nonpos_of_nonpos h h
theorem nm_zero {a b : Int} (h : a * a = 2 * (b * b)) : a = 0 ∧ b = 0 := sq_two _ a b (Nat.le_refl _) h
theorem sgZ_pos {a b : Int} (h : a * a > 2 * (b * b)) : sgZ a b = a.sign := by
  have hb : 0 ≤ b * b := sq_nonneg b
  have ha : a ≠ 0 := fun e => by subst e; omega
  have hs : a.sign ≠ 0 := fun e => ha (Int.sign_eq_zero_iff_zero.1 e)
  unfold sgZ
  split
  · rfl
  · rw [if_neg (by simp [hs, h])]
theorem sgZ_neg {a b : Int} (h : a * a < 2 * (b * b)) : sgZ a b = b.sign := by
  have ha : 0 ≤ a * a := sq_nonneg a
  have hb : b ≠ 0 := fun e => by subst e; omega
  have hs : b.sign ≠ 0 := fun e => hb (Int.sign_eq_zero_iff_zero.1 e)
  unfold sgZ
  split
  · rename_i h'
    rcases h' with h' | h'
    · exact h'
    · exact absurd h' hs
  · rw [if_pos (.inr (by omega))]
theorem sgZ_zero : sgZ 0 0 = 0 := rfl
theorem sgZ_eq_zero {a b : Int} (h : sgZ a b = 0) : a = 0 ∧ b = 0 := by
  rcases Int.lt_trichotomy (a * a) (2 * (b * b)) with h' | h' | h'
  · rw [sgZ_neg h'] at h
    have hb := Int.sign_eq_zero_iff_zero.1 h
    subst hb
    have : 0 ≤ a * a := sq_nonneg a
    omega
  · exact nm_zero h'
  · rw [sgZ_pos h'] at h
    have hb := Int.sign_eq_zero_iff_zero.1 h
    subst hb
    have : 0 ≤ b * b := sq_nonneg b
    omega
theorem sgZ_minus (a b : Int) : sgZ (-a) (-b) = - sgZ a b := by
  unfold sgZ
  simp only [Int.sign_neg, Int.neg_mul_neg]
  rcases Int.lt_trichotomy a 0 with ha | ha | ha
  · rw [Int.sign_eq_neg_one_of_neg ha]
    rcases Int.lt_trichotomy b 0 with hb | hb | hb
    · rw [Int.sign_eq_neg_one_of_neg hb]; simp
    · subst hb; simp
    · rw [Int.sign_eq_one_of_pos hb]; simp; split <;> simp
  · subst ha
    rcases Int.lt_trichotomy b 0 with hb | hb | hb
    · rw [Int.sign_eq_neg_one_of_neg hb]; simp
    · subst hb; simp
    · rw [Int.sign_eq_one_of_pos hb]; simp
  · rw [Int.sign_eq_one_of_pos ha]
    rcases Int.lt_trichotomy b 0 with hb | hb | hb
    · rw [Int.sign_eq_neg_one_of_neg hb]; simp; split <;> simp
    · subst hb; simp
    · rw [Int.sign_eq_one_of_pos hb]; simp
theorem sign_pow (a : Int) (n : Nat) : (a * 2 ^ n).sign = a.sign := by
  rw [Int.sign_mul, Int.sign_eq_one_of_pos (Int.pow_pos (by decide)), Int.mul_one]
theorem sgZ_scale (a b : Int) (n : Nat) : sgZ (a * 2 ^ n) (b * 2 ^ n) = sgZ a b := by
  unfold sgZ
  rw [sign_pow, sign_pow]
  have hp : (0 : Int) < 2 ^ n * 2 ^ n := Int.mul_pos (Int.pow_pos (by decide)) (Int.pow_pos (by decide))
  have e : (a * 2 ^ n * (a * 2 ^ n) > 2 * (b * 2 ^ n * (b * 2 ^ n))) ↔ a * a > 2 * (b * b) := by
    have e1 : a * 2 ^ n * (a * 2 ^ n) = (a * a) * (2 ^ n * 2 ^ n) := by grind
    have e2 : 2 * (b * 2 ^ n * (b * 2 ^ n)) = (2 * (b * b)) * (2 ^ n * 2 ^ n) := by grind
    rw [e1, e2]
    exact ⟨fun h => Int.lt_of_mul_lt_mul_right h (Int.le_of_lt hp), fun h => Int.mul_lt_mul_of_pos_right h hp⟩
  simp only [e]
theorem sign_add_big {u v : Int} (h : v * v < u * u) : (u + v).sign = u.sign := by
  have h' : v.natAbs < u.natAbs := by
    apply Nat.mul_self_lt_mul_self_iff.1
    have e1 := Int.natAbs_mul_self (a := u)
    have e2 := Int.natAbs_mul_self (a := v)
    omega
  rcases Int.lt_trichotomy u 0 with hu | hu | hu
  · rw [Int.sign_eq_neg_one_of_neg hu, Int.sign_eq_neg_one_of_neg (by omega)]
  · omega
  · rw [Int.sign_eq_one_of_pos hu, Int.sign_eq_one_of_pos (by omega)]
/-- p > q ≥ 0 and r > s ≥ 0: the products too. -/
theorem mul_lt2 {p q r s : Int} (h1 : q < p) (h2 : 0 ≤ q) (h3 : s < r) (h4 : 0 ≤ s) : q * s < p * r :=
  Int.lt_of_le_of_lt (Int.mul_le_mul_of_nonneg_left (Int.le_of_lt h3) h2) (Int.mul_lt_mul_of_pos_right h1 (by omega))
theorem sgZ_mul (a b c d : Int) : sgZ (a * c + 2 * b * d) (a * d + b * c) = sgZ a b * sgZ c d := by
  have ha := sq_nonneg a
  have hb := sq_nonneg b
  have hc := sq_nonneg c
  have hd := sq_nonneg d
  have key : (a * c + 2 * b * d) * (a * c + 2 * b * d) - 2 * ((a * d + b * c) * (a * d + b * c)) = (a * a - 2 * (b * b)) * (c * c - 2 * (d * d)) := by grind
  rcases Int.lt_trichotomy (a * a) (2 * (b * b)) with h | h | h
  · rcases Int.lt_trichotomy (c * c) (2 * (d * d)) with g | g | g
    · have hk : 0 < (a * a - 2 * (b * b)) * (c * c - 2 * (d * d)) := Int.mul_pos_of_neg_of_neg (by omega) (by omega)
      rw [sgZ_pos (by omega), sgZ_neg h, sgZ_neg g, Int.add_comm, sign_add_big, show 2 * b * d = 2 * (b * d) by grind, Int.sign_mul, Int.sign_mul]
      · rw [show Int.sign 2 = 1 from rfl, Int.one_mul]
      · have := mul_lt2 h ha g hc
        have e1 : a * c * (a * c) = a * a * (c * c) := by grind
        have e2 : 2 * b * d * (2 * b * d) = 2 * (b * b) * (2 * (d * d)) := by grind
        omega
    · obtain ⟨rfl, rfl⟩ := nm_zero g
      simp [sgZ_zero]
    · have hk : (a * a - 2 * (b * b)) * (c * c - 2 * (d * d)) < 0 := Int.mul_neg_of_neg_of_pos (by omega) (by omega)
      rw [sgZ_neg (by omega), sgZ_neg h, sgZ_pos g, Int.add_comm, sign_add_big, Int.sign_mul]
      have := mul_lt2 h ha g (by omega)
      have e1 : a * d * (a * d) = a * a * (d * d) := by grind
      have e2 : b * c * (b * c) = b * b * (c * c) := by grind
      have e3 : a * a * (2 * (d * d)) = 2 * (a * a * (d * d)) := by grind
      have e4 : 2 * (b * b) * (c * c) = 2 * (b * b * (c * c)) := by grind
      omega
  · obtain ⟨rfl, rfl⟩ := nm_zero h
    simp [sgZ_zero]
  · rcases Int.lt_trichotomy (c * c) (2 * (d * d)) with g | g | g
    · have hk : (a * a - 2 * (b * b)) * (c * c - 2 * (d * d)) < 0 := Int.mul_neg_of_pos_of_neg (by omega) (by omega)
      rw [sgZ_neg (by omega), sgZ_pos h, sgZ_neg g, sign_add_big, Int.sign_mul]
      have := mul_lt2 h (by omega) g hc
      have e1 : a * d * (a * d) = a * a * (d * d) := by grind
      have e2 : b * c * (b * c) = b * b * (c * c) := by grind
      have e3 : a * a * (2 * (d * d)) = 2 * (a * a * (d * d)) := by grind
      have e4 : 2 * (b * b) * (c * c) = 2 * (b * b * (c * c)) := by grind
      omega
    · obtain ⟨rfl, rfl⟩ := nm_zero g
      simp [sgZ_zero]
    · have hk : 0 < (a * a - 2 * (b * b)) * (c * c - 2 * (d * d)) := Int.mul_pos (by omega) (by omega)
      rw [sgZ_pos (by omega), sgZ_pos h, sgZ_pos g, sign_add_big, Int.sign_mul]
      have := mul_lt2 h (by omega) g (by omega)
      have e1 : a * c * (a * c) = a * a * (c * c) := by grind
      have e2 : 2 * b * d * (2 * b * d) = 2 * (b * b) * (2 * (d * d)) := by grind
      omega

/-- The sign of a number's value. -/
theorem Val.sg {S : Nat} {x : N3} {A B : Int} (h : Val S x A B) : sgF x = sgZ A B := by
  obtain ⟨k0, kS, ha, hb⟩ := h
  unfold sgF
  rw [ha, hb, sgZ_scale]
end Go.Ev

/- The reference's source of choices: bytes, a place, a seed; what its readers give. -/
namespace Go.Ev

structure Src where
  n : Nat
  c : Nat → Nat → Int
  p : Int
  z : Int
def u64w (x : Int) : Int := IntKind.u64.wrap x
def Src.cells (s : Src) : List AV := [.arr s.n [.int .u8] s.c, .val (.int .i64 s.p), .val (.int .u64 s.z)]
def outS (x : AV) (s : Src) : AV := .out x [.agg s.cells]
def nxZ (z b : Int) : Int := u64w (u64w (u64w (z * 6364136223846793005) + u64w b) + 1442695040888963407)
def nxB (s : Src) : Int := cond (decide (s.p < s.n)) (wr (s.c s.p.toNat 0 % 256)) 0
def hiZ (z : Int) : Int := wr (u64w ↑(BitVec.ofInt 64 (z.fdiv (2 ^ min (Int.toNat 40) 64)) &&& BitVec.ofInt 64 255).toNat)
def nxt (s : Src) : Int × Src :=
  (cond (decide (wr (s.p + 1) ≤ s.n)) (nxB s) (hiZ (nxZ s.z (nxB s))), ⟨s.n, s.c, wr (s.p + 1), nxZ s.z (nxB s)⟩)
/-- One step with the byte known. -/
def stp (b : Int) (s : Src) : Option AV :=
  cond (decide (wr (s.p + 1) ≤ s.n)) (some (outS (iv b) ⟨s.n, s.c, wr (s.p + 1), nxZ s.z b⟩)) (some (outS (iv (hiZ (nxZ s.z b))) ⟨s.n, s.c, wr (s.p + 1), nxZ s.z b⟩))
def pickV (m : Int) (s : Src) : Int × Src :=
  cond (decide (m ≤ 1)) (0, s) (cond (decide (m > 200)) ((wr (wr ((nxt s).1 * 256) + (nxt (nxt s).2).1)).tmod m, (nxt (nxt s).2).2) ((nxt s).1.tmod m, (nxt s).2))
/-- 'The place is 0 or more, and far from the end of the numbers': by so much. -/
def pB (k p : Int) : Bool := decide (0 ≤ p) && decide (p ≤ 4611686018427387904 - k)
theorem pB_iff {k p : Int} : pB k p = true ↔ 0 ≤ p ∧ p ≤ 4611686018427387904 - k := by simp [pB]
theorem nxt_p {s : Src} {k : Int} (h : pB k s.p = true) (hk : 1 ≤ k) : (nxt s).2.p = s.p + 1 ∧ pB (k - 1) (nxt s).2.p = true := by
  have h' := pB_iff.1 h
  have e : (nxt s).2.p = s.p + 1 := wr_in (by omega) (by omega)
  exact ⟨e, pB_iff.2 (by omega)⟩
theorem nxt_in {s : Src} : 0 ≤ (nxt s).1 ∧ (nxt s).1 < 256 := by
  have hb : 0 ≤ nxB s ∧ nxB s < 256 := by
    unfold nxB
    cases decide (s.p < s.n) with
    | false => exact ⟨Int.le_refl _, by show (0 : Int) < 256; decide⟩
    | true =>
      have h1 := Int.emod_nonneg (s.c s.p.toNat 0) (show (256 : Int) ≠ 0 by decide)
      have h2 := Int.emod_lt_of_pos (s.c s.p.toNat 0) (show (0 : Int) < 256 by decide)
      simp only [cond_true]
      rw [wr_in (by omega) (by omega)]
      exact ⟨h1, h2⟩
  have hh : ∀ z, 0 ≤ hiZ z ∧ hiZ z < 256 := fun z => by
    unfold hiZ
    have : (BitVec.ofInt 64 (z.fdiv (2 ^ min (Int.toNat 40) 64)) &&& BitVec.ofInt 64 255).toNat ≤ 255 := by
      rw [BitVec.toNat_and]
      exact Nat.and_le_right
    generalize (BitVec.ofInt 64 (z.fdiv (2 ^ min (Int.toNat 40) 64)) &&& BitVec.ofInt 64 255).toNat = m at this
    have e : u64w (m : Int) = m := by
      show IntKind.u64.wrap (m : Int) = m
      simp only [IntKind.wrap, IntKind.bits, IntKind.signed]
      simp
      omega
    rw [e, wr_in (by omega) (by omega)]
    omega
  unfold nxt
  cases decide (wr (s.p + 1) ≤ s.n) with
  | false => exact hh _
  | true => exact hb
theorem pick_p {s : Src} {k m : Int} (h : pB k s.p = true) (hk : 2 ≤ k) : pB (k - 2) (pickV m s).2.p = true := by
  have h' := pB_iff.1 h
  obtain ⟨a1, a2⟩ := nxt_p h (by omega)
  obtain ⟨b1, b2⟩ := nxt_p a2 (by omega)
  unfold pickV
  cases decide (m ≤ 1) with
  | true => exact pB_iff.2 (by simp only [cond_true]; omega)
  | false =>
    cases decide (m > 200) with
    | true => exact pB_iff.2 (by have := pB_iff.1 b2; simp only [cond_true, cond_false]; omega)
    | false => exact pB_iff.2 (by have := pB_iff.1 a2; simp only [cond_false]; omega)
theorem pick_in {s : Src} {m : Int} (hm : 1 ≤ m) : 0 ≤ (pickV m s).1 ∧ (pickV m s).1 < m := by
  have h1 := @nxt_in s
  have h2 := @nxt_in (nxt s).2
  unfold pickV
  cases e : decide (m ≤ 1) with
  | true => simp only [cond_true]; omega
  | false =>
    cases decide (m > 200) with
    | true =>
      simp only [cond_true, cond_false]
      rw [wr_in (n := (nxt s).1 * 256) (by omega) (by omega), wr_in (by omega) (by omega)]
      exact ⟨Int.tmod_nonneg _ (by omega), Int.tmod_lt_of_pos _ (by omega)⟩
    | false =>
      simp only [cond_false]
      exact ⟨Int.tmod_nonneg _ (by omega), Int.tmod_lt_of_pos _ (by omega)⟩
theorem pB_less {k l p : Int} (h : pB k p = true) (hl : l ≤ k) : pB l p = true := by
  have := pB_iff.1 h
  exact pB_iff.2 (by omega)
end Go.Ev

/- What the reference draws: a number; it is always a valid one. -/
namespace Go.Ev

def lA : List Int := [131072, -131072, 99999, 46341, 1]
def lB : List Int := [131072, -131072, -92681, -70710, 32768]
def oneN : N3 := ⟨1, 0, 0⟩
def G4 (a b k : Int) (s : Src) : N3 × Src := (cond (chkB ⟨a, b, k⟩) (chk ⟨a, b, k⟩) oneN, s)
def G3b (s : Src) : N3 × Src :=
  G4 (lA.getD (pickV 5 s).1.toNat 0) (lB.getD (pickV 5 (pickV 5 s).2).1.toNat 0) (pickV 11 (pickV 5 (pickV 5 s).2).2).1 (pickV 11 (pickV 5 (pickV 5 s).2).2).2
def G3 (a b k : Int) (s : Src) : N3 × Src := cond ((pickV 12 s).1 == 0) (G3b (pickV 12 s).2) (G4 a b k (pickV 12 s).2)
def G2 (a b : Int) (s : Src) : N3 × Src := cond ((pickV 3 s).1 == 0) (G3 a b (pickV 4 (pickV 3 s).2).1 (pickV 4 (pickV 3 s).2).2) (G3 a b 0 (pickV 3 s).2)
def G1 (a : Int) (s : Src) : N3 × Src := cond ((pickV 3 s).1 == 0) (G2 a (wr ((pickV 9 (pickV 3 s).2).1 - 4)) (pickV 9 (pickV 3 s).2).2) (G2 a 0 (pickV 3 s).2)
/-- A number drawn, and the source behind it. -/
def drawV (s : Src) : N3 × Src := G1 (wr ((pickV 9 s).1 - 4)) (pickV 9 s).2

def F4 (a b k : Int) (s : Src) : Option AV := cond (kB k) (cond (!chkB ⟨a, b, k⟩) (some (outS oneN.av s)) (some (outS (chk ⟨a, b, k⟩).av s))) none
def F3c (a b : Int) (s : Src) : Option AV := cond (pB 2 s.p) (F4 a b (pickV 11 s).1 (pickV 11 s).2) none
def F3b (a : Int) (s : Src) : Option AV := cond (pB 2 s.p && Nat.ble 1 5) (F3c a (lB.getD (pickV 5 s).1.toNat 0) (pickV 5 s).2) none
def F3a (s : Src) : Option AV := cond (pB 2 s.p && Nat.ble 1 5) (F3b (lA.getD (pickV 5 s).1.toNat 0) (pickV 5 s).2) none
def F3 (a b k : Int) (s : Src) : Option AV := cond (pB 2 s.p) (cond ((pickV 12 s).1 == 0) (F3a (pickV 12 s).2) (F4 a b k (pickV 12 s).2)) none
def F2a (a b : Int) (s : Src) : Option AV := cond (pB 2 s.p) (F3 a b (pickV 4 s).1 (pickV 4 s).2) none
def F2 (a b : Int) (s : Src) : Option AV := cond (pB 2 s.p) (cond ((pickV 3 s).1 == 0) (F2a a b (pickV 3 s).2) (F3 a b 0 (pickV 3 s).2)) none
def F1a (a : Int) (s : Src) : Option AV := cond (pB 2 s.p) (F2 a (wr ((pickV 9 s).1 - 4)) (pickV 9 s).2) none
def F1 (a : Int) (s : Src) : Option AV := cond (pB 2 s.p) (cond ((pickV 3 s).1 == 0) (F1a a (pickV 3 s).2) (F2 a 0 (pickV 3 s).2)) none
def F0 (s : Src) : Option AV := cond (pB 2 s.p) (F1 (wr ((pickV 9 s).1 - 4)) (pickV 9 s).2) none

/-- What follows: a valid number, a place not much further on. -/
structure DrawOk (k : Int) (r : N3 × Src) : Prop where
  ok : validB r.1 = true
  p : pB k r.2.p = true
theorem p2 {k : Int} {s : Src} (m : Int) (h : pB (k + 2) s.p = true) (hk : 0 ≤ k) : pB 2 s.p = true ∧ pB k (pickV m s).2.p = true := by
  refine ⟨pB_less h (by omega), ?_⟩
  have := pick_p (m := m) h (by omega)
  rw [show k + 2 - 2 = k by omega] at this
  exact this
theorem draw4 {a b k q : Int} {s : Src} (hk : kB k = true) (h : pB q s.p = true) : F4 a b k s = some (outS (G4 a b k s).1.av (G4 a b k s).2) ∧ DrawOk q (G4 a b k s) := by
  unfold F4 G4
  rw [hk]
  cases hc : chkB ⟨a, b, k⟩ with
  | false => exact ⟨rfl, rfl, h⟩
  | true =>
    refine ⟨rfl, ?_, h⟩
    have : chk ⟨a, b, k⟩ = red ⟨a, b, k⟩ := by unfold chk; rw [hc]; rfl
    simp only [cond_true]
    rw [this]
    exact hc
theorem kB_pick {m : Int} {s : Src} (h1 : 1 ≤ m) (h2 : m ≤ 1000) : kB (pickV m s).1 = true := by
  have := pick_in (s := s) h1
  exact kB_iff.2 (by omega)
theorem draw3 {a b k q : Int} {s : Src} (hk : kB k = true) (hq : 0 ≤ q) (h : pB (q + 8) s.p = true) : F3 a b k s = some (outS (G3 a b k s).1.av (G3 a b k s).2) ∧ DrawOk q (G3 a b k s) := by
  obtain ⟨a1, a2⟩ := p2 (k := q + 6) 12 (s := s) (by rw [show q + 6 + 2 = q + 8 by omega]; exact h) (by omega)
  obtain ⟨b1, b2⟩ := p2 (k := q + 4) 5 (s := (pickV 12 s).2) (by rw [show q + 4 + 2 = q + 6 by omega]; exact a2) (by omega)
  obtain ⟨c1, c2⟩ := p2 (k := q + 2) 5 (s := (pickV 5 (pickV 12 s).2).2) (by rw [show q + 2 + 2 = q + 4 by omega]; exact b2) (by omega)
  obtain ⟨d1, d2⟩ := p2 (k := q) 11 (s := (pickV 5 (pickV 5 (pickV 12 s).2).2).2) c2 (by omega)
  unfold F3 G3
  rw [a1]
  cases (pickV 12 s).1 == 0 with
  | false => exact draw4 hk (pB_less a2 (by omega))
  | true =>
    simp only [cond_true]
    unfold F3a F3b F3c G3b
    rw [b1, c1, d1]
    exact draw4 (kB_pick (by decide) (by decide)) d2
theorem draw2 {a b q : Int} {s : Src} (hq : 0 ≤ q) (h : pB (q + 12) s.p = true) : F2 a b s = some (outS (G2 a b s).1.av (G2 a b s).2) ∧ DrawOk q (G2 a b s) := by
  obtain ⟨a1, a2⟩ := p2 (k := q + 10) 3 (s := s) (by rw [show q + 10 + 2 = q + 12 by omega]; exact h) (by omega)
  obtain ⟨b1, b2⟩ := p2 (k := q + 8) 4 (s := (pickV 3 s).2) (by rw [show q + 8 + 2 = q + 10 by omega]; exact a2) (by omega)
  unfold F2 G2
  rw [a1]
  cases (pickV 3 s).1 == 0 with
  | false => exact draw3 rfl hq (pB_less a2 (by omega))
  | true =>
    simp only [cond_true]
    unfold F2a
    rw [b1]
    exact draw3 (kB_pick (by decide) (by decide)) hq b2
theorem draw1 {a q : Int} {s : Src} (hq : 0 ≤ q) (h : pB (q + 16) s.p = true) : F1 a s = some (outS (G1 a s).1.av (G1 a s).2) ∧ DrawOk q (G1 a s) := by
  obtain ⟨a1, a2⟩ := p2 (k := q + 14) 3 (s := s) (by rw [show q + 14 + 2 = q + 16 by omega]; exact h) (by omega)
  obtain ⟨b1, b2⟩ := p2 (k := q + 12) 9 (s := (pickV 3 s).2) (by rw [show q + 12 + 2 = q + 14 by omega]; exact a2) (by omega)
  unfold F1 G1
  rw [a1]
  cases (pickV 3 s).1 == 0 with
  | false => exact draw2 hq (pB_less a2 (by omega))
  | true =>
    simp only [cond_true]
    unfold F1a
    rw [b1]
    exact draw2 hq b2
theorem draw0 {q : Int} {s : Src} (hq : 0 ≤ q) (h : pB (q + 18) s.p = true) : F0 s = some (outS (drawV s).1.av (drawV s).2) ∧ DrawOk q (drawV s) := by
  obtain ⟨a1, a2⟩ := p2 (k := q + 16) 9 (s := s) (by rw [show q + 16 + 2 = q + 18 by omega]; exact h) (by omega)
  unfold F0 drawV
  rw [a1]
  exact draw1 hq a2
/-- Three numbers out of one source. -/
def srcOf (n : Nat) (c : Nat → Nat → Int) : Src := ⟨n, c, 0, 0⟩
def e8x (s : Src) : N3 := (drawV s).1
def e8y (s : Src) : N3 := (drawV (drawV s).2).1
def e8z (s : Src) : N3 := (drawV (drawV (drawV s).2).2).1
theorem e8_ok {s : Src} (h : pB 60 s.p = true) : (validB (e8x s) = true ∧ validB (e8y s) = true ∧ validB (e8z s) = true) ∧ pB 18 s.p = true ∧ pB 18 (drawV s).2.p = true ∧ pB 18 (drawV (drawV s).2).2.p = true := by
  obtain ⟨_, a⟩ := draw0 (q := 42) (s := s) (by decide) h
  obtain ⟨_, b⟩ := draw0 (q := 24) (s := (drawV s).2) (by decide) a.p
  obtain ⟨_, c⟩ := draw0 (q := 6) (s := (drawV (drawV s).2).2) (by decide) b.p
  exact ⟨⟨a.ok, b.ok, c.ok⟩, pB_less h (by decide), pB_less a.p (by decide), pB_less b.p (by decide)⟩
end Go.Ev

/- Signs, comparisons and floors as the program computes them. -/
namespace Go.Ev

def absV (x : Int) : Int := if wr (0 - x) > x then wr (0 - x) else x
theorem absV_eq {x : Int} (h1 : -1073741824 ≤ x) (h2 : x ≤ 1073741824) : absV x = x.natAbs := by
  unfold absV
  rw [wr_in (by omega) (by omega)]
  split <;> omega
theorem sign_gmax (x : Int) : (if (if x < 1 then x else 1) > -1 then if x < 1 then x else 1 else -1) = x.sign := by
  rcases Int.lt_trichotomy x 0 with h | h | h
  · rw [Int.sign_eq_neg_one_of_neg h]
    have h1 : x < 1 := by omega
    simp only [h1, if_true]
    rw [if_neg (by omega)]
  · subst h; rfl
  · rw [Int.sign_eq_one_of_pos h]
    have h1 : ¬ x < 1 := by omega
    simp only [h1, if_false]
    rfl
theorem u64_in {n : Int} (h : 0 ≤ n) (h' : n < 18446744073709551616) : IntKind.u64.wrap n = n := by
  simp only [IntKind.wrap, IntKind.bits, IntKind.signed]
  simp
  omega
theorem and_mask {x : Int} (h : 0 ≤ x) (h' : x < 4294967296) : ((BitVec.ofInt 64 x &&& BitVec.ofInt 64 4294967295).toNat : Int) = x := by
  obtain ⟨n, rfl⟩ : ∃ n : Nat, x = n := ⟨x.toNat, by omega⟩
  rw [BitVec.toNat_and]
  have e1 : (BitVec.ofInt 64 (n : Int)).toNat = n := by
    rw [BitVec.toNat_ofInt]
    have : ((n : Int) % (2 ^ 64 : Nat)).toNat = n := by
      rw [Int.emod_eq_of_lt (by omega) (by omega)]
      omega
    exact this
  have e2 : (BitVec.ofInt 64 4294967295).toNat = 2 ^ 32 - 1 := by decide
  rw [e1, e2, Nat.and_two_pow_sub_one_eq_mod]
  omega
/-- The product of two small words: its high word is 0. -/
theorem mul64_small {x y : Int} (hx : 0 ≤ x) (hx' : x < 2147483648) (hy : 0 ≤ y) (hy' : y < 2147483648) :
    IntKind.u64.wrap (IntKind.u64.wrap (IntKind.u64.wrap (x.fdiv (2 ^ min (Int.toNat 32) 64) * y.fdiv (2 ^ min (Int.toNat 32) 64)) +
        (IntKind.u64.wrap (IntKind.u64.wrap (x.fdiv (2 ^ min (Int.toNat 32) 64) * IntKind.u64.wrap ↑(BitVec.ofInt 64 y &&& BitVec.ofInt 64 4294967295).toNat) +
                (IntKind.u64.wrap (IntKind.u64.wrap ↑(BitVec.ofInt 64 x &&& BitVec.ofInt 64 4294967295).toNat * IntKind.u64.wrap ↑(BitVec.ofInt 64 y &&& BitVec.ofInt 64 4294967295).toNat)).fdiv
                  (2 ^ min (Int.toNat 32) 64))).fdiv (2 ^ min (Int.toNat 32) 64)) +
    (IntKind.u64.wrap (IntKind.u64.wrap ↑(BitVec.ofInt 64 (IntKind.u64.wrap (IntKind.u64.wrap (x.fdiv (2 ^ min (Int.toNat 32) 64) * IntKind.u64.wrap ↑(BitVec.ofInt 64 y &&& BitVec.ofInt 64 4294967295).toNat) +
                          (IntKind.u64.wrap (IntKind.u64.wrap ↑(BitVec.ofInt 64 x &&& BitVec.ofInt 64 4294967295).toNat * IntKind.u64.wrap ↑(BitVec.ofInt 64 y &&& BitVec.ofInt 64 4294967295).toNat)).fdiv
                            (2 ^ min (Int.toNat 32) 64))) &&& BitVec.ofInt 64 4294967295).toNat +
            IntKind.u64.wrap (IntKind.u64.wrap ↑(BitVec.ofInt 64 x &&& BitVec.ofInt 64 4294967295).toNat * y.fdiv (2 ^ min (Int.toNat 32) 64)))).fdiv (2 ^ min (Int.toNat 32) 64)) = 0 ∧
    IntKind.u64.wrap (x * y) = x * y := by
  have hp : (2 : Int) ^ min (Int.toNat 32) 64 = 4294967296 := by decide
  have ex : x.fdiv 4294967296 = 0 := by rw [Int.fdiv_eq_ediv_of_nonneg _ (by decide)]; omega
  have ey : y.fdiv 4294967296 = 0 := by rw [Int.fdiv_eq_ediv_of_nonneg _ (by decide)]; omega
  have hxy : 0 ≤ x * y := Int.mul_nonneg hx hy
  have hxy' : x * y ≤ 2147483647 * 2147483647 := Int.mul_le_mul (by omega) (by omega) hy (by decide)
  have exy : (x * y).fdiv 4294967296 = x * y / 4294967296 := Int.fdiv_eq_ediv_of_nonneg _ (by decide)
  have hq : 0 ≤ x * y / 4294967296 ∧ x * y / 4294967296 < 2147483648 := by omega
  have eq : (x * y / 4294967296).fdiv 4294967296 = 0 := by rw [Int.fdiv_eq_ediv_of_nonneg _ (by decide)]; omega
  rw [hp, and_mask hx (by omega), and_mask hy (by omega), u64_in hx (by omega), u64_in hy (by omega), ex, ey, u64_in (n := x * y) hxy (by omega), exy]
  have z : IntKind.u64.wrap 0 = 0 := by decide
  have zf : (0 : Int).fdiv 4294967296 = 0 := by decide
  simp only [Int.mul_zero, Int.zero_mul, z, Int.zero_add, Int.add_zero]
  rw [u64_in (n := x * y / 4294967296) hq.1 (by omega), and_mask hq.1 (by omega)]
  simp only [eq, z, zf, Int.zero_add, Int.add_zero]
  rw [u64_in (n := x * y / 4294967296) hq.1 (by omega)]
  rw [u64_in (n := x * y / 4294967296) hq.1 (by omega), eq]
  exact ⟨z, trivial⟩
def sB (x : Int) : Bool := inB x (-1073741824) 1073741824
theorem sB_iff {x : Int} : sB x = true ↔ -1073741824 ≤ x ∧ x ≤ 1073741824 := by simp [sB, inB]
theorem abs_u {x : Int} (h : sB x = true) : IntKind.u64.wrap (absV x) = absV x ∧ (decide (0 ≤ absV x) && decide (absV x < 2147483648)) = true ∧ absV x * absV x = x * x ∧ 0 ≤ x * x ∧ x * x ≤ 1073741824 * 1073741824 := by
  have h := sB_iff.1 h
  have e : absV x = x.natAbs := absV_eq h.1 h.2
  have e' := Int.natAbs_mul_self' x
  have h0 : x.natAbs * x.natAbs ≤ 1073741824 * 1073741824 := Nat.mul_le_mul (by omega) (by omega)
  rw [e, u64_in (by omega) (by omega)]
  refine ⟨rfl, by simp; omega, e', sq_nonneg x, ?_⟩
  rw [← e']
  omega
theorem hi_zero {y : Int} (h : sB y = true) : IntKind.u64.wrap ↑(BitVec.ofInt 64 (IntKind.u64.wrap (0 * 2 ^ min (Int.toNat 1) 64)) ||| BitVec.ofInt 64 ((absV y * absV y).fdiv (2 ^ min (Int.toNat 63) 64))).toNat = 0 := by
  obtain ⟨_, _, e, h1, h2⟩ := abs_u h
  have hp : (2 : Int) ^ min (Int.toNat 63) 64 = 9223372036854775808 := by decide
  have ez : (y * y).fdiv 9223372036854775808 = 0 := by rw [Int.fdiv_eq_ediv_of_nonneg _ (by decide)]; omega
  rw [e, hp, ez]
  decide
theorem gt_eq {x y : Int} (hx : sB x = true) (hy : sB y = true) : decide (absV x * absV x > IntKind.u64.wrap (absV y * absV y * 2 ^ min (Int.toNat 1) IntKind.u64.bits)) = decide (x * x > 2 * (y * y)) := by
  obtain ⟨_, _, e, h1, h2⟩ := abs_u hx
  obtain ⟨_, _, f, g1, g2⟩ := abs_u hy
  have hp : (2 : Int) ^ min (Int.toNat 1) IntKind.u64.bits = 2 := by decide
  rw [e, f, hp, u64_in (by omega) (by omega)]
  congr 1
  apply propext
  constructor <;> intro h <;> omega
theorem sgF_alt (x : N3) : cond (x.a.sign == x.b.sign) x.a.sign (cond (x.b.sign == 0) x.a.sign (cond (x.a.sign == 0) x.b.sign (cond (decide (x.a * x.a > 2 * (x.b * x.b))) x.a.sign x.b.sign))) = sgF x := by
  unfold sgF sgZ
  by_cases h1 : x.a.sign = x.b.sign
  · simp [h1]
  · by_cases h2 : x.b.sign = 0
    · simp [h2]
    · have e1 : (x.a.sign == x.b.sign) = false := beq_eq_false_iff_ne.2 h1
      have e2 : (x.b.sign == 0) = false := beq_eq_false_iff_ne.2 h2
      rw [e1, e2, if_neg (by omega)]
      simp only [cond_false]
      by_cases h3 : x.a.sign = 0
      · rw [if_pos (.inl h3), h3]; rfl
      · have e3 : (x.a.sign == 0) = false := beq_eq_false_iff_ne.2 h3
        rw [e3]
        by_cases h4 : x.a * x.a > 2 * (x.b * x.b)
        · rw [if_neg (by omega)]; simp [h4]
        · rw [if_pos (.inr h4)]; simp [h4]
/-- Numbers whose comparison stays in range. -/
theorem cmp_ok {x y : N3} (hx : validB x = true) (hy : validB y = true) : (sB (subF x y).a && sB (subF x y).b) = true := by
  obtain ⟨A, B, v, a1, a2⟩ := valid_val hx
  obtain ⟨C, D, w, b1, b2⟩ := valid_val hy
  have h := (v.sub w (by decide) (by omega) (by omega) (by omega) (by omega)).1.bd
  rw [Bool.and_eq_true]
  exact ⟨sB_iff.2 (by omega), sB_iff.2 (by omega)⟩
theorem sg_ok {x : N3} (hx : validB x = true) : (sB x.a && sB x.b) = true := by
  have := validB_iff.1 hx
  rw [Bool.and_eq_true]
  exact ⟨sB_iff.2 (by omega), sB_iff.2 (by omega)⟩

/-- The whole root by halving. -/
def rtF : Nat → Int → Int → Int → Int
  | 0, _, lo, _ => lo
  | f + 1, n, lo, hi => if lo < hi then (if (lo + hi + 1) / 2 * ((lo + hi + 1) / 2) ≤ n then rtF f n ((lo + hi + 1) / 2) hi else rtF f n lo ((lo + hi + 1) / 2 - 1)) else lo
theorem rtF_spec : ∀ (f : Nat) (n lo hi : Int), 0 ≤ lo → lo ≤ hi → hi - lo < 2 ^ f → lo * lo ≤ n → n < (hi + 1) * (hi + 1) →
    lo ≤ rtF f n lo hi ∧ rtF f n lo hi ≤ hi ∧ rtF f n lo hi * rtF f n lo hi ≤ n ∧ n < (rtF f n lo hi + 1) * (rtF f n lo hi + 1)
  | 0, n, lo, hi, h0, h1, h2, h3, h4 => by
    have : lo = hi := by simp at h2; omega
    subst this
    exact ⟨Int.le_refl _, Int.le_refl _, h3, h4⟩
  | f + 1, n, lo, hi, h0, h1, h2, h3, h4 => by
    unfold rtF
    have hp : (2 : Int) ^ (f + 1) = 2 * 2 ^ f := by rw [Int.pow_succ]; omega
    split
    · split
      · rename_i h
        obtain ⟨a, b, c, d⟩ := rtF_spec f n ((lo + hi + 1) / 2) hi (by omega) (by omega) (by omega) h h4
        exact ⟨by omega, b, c, d⟩
      · rename_i h
        obtain ⟨a, b, c, d⟩ := rtF_spec f n lo ((lo + hi + 1) / 2 - 1) h0 (by omega) (by omega) h3 (by
          rw [show (lo + hi + 1) / 2 - 1 + 1 = (lo + hi + 1) / 2 by omega]; omega)
        exact ⟨a, by omega, c, d⟩
    · have : lo = hi := by omega
      subst this
      exact ⟨Int.le_refl _, Int.le_refl _, h3, h4⟩
/-- The floor as the program computes it. -/
def flN (b : Int) : Int := cond (decide (b < 0)) (-(rtF 21 (2 * b * b) 0 1048576) - 1) (rtF 21 (2 * b * b) 0 1048576)
def flF (x : N3) : Int := (x.a + flN x.b).fdiv (2 ^ x.k.toNat)
theorem rt_ok {b : Int} (h1 : -131072 ≤ b) (h2 : b ≤ 131072) : (0 ≤ rtF 21 (2 * b * b) 0 1048576 ∧ rtF 21 (2 * b * b) 0 1048576 ≤ 1048576) ∧ rtF 21 (2 * b * b) 0 1048576 * rtF 21 (2 * b * b) 0 1048576 ≤ 2 * (b * b) ∧
    2 * (b * b) < (rtF 21 (2 * b * b) 0 1048576 + 1) * (rtF 21 (2 * b * b) 0 1048576 + 1) ∧ wr (wr (2 * b) * b) = 2 * b * b := by
  have e' := Int.natAbs_mul_self' b
  have h0 : b.natAbs * b.natAbs ≤ 131072 * 131072 := Nat.mul_le_mul (by omega) (by omega)
  have e : 2 * b * b = 2 * (b * b) := by grind
  have hb : b * b ≤ 131072 * 131072 := by rw [← e']; omega
  have hn := sq_nonneg b
  obtain ⟨a1, a2, a3, a4⟩ := rtF_spec 21 (2 * b * b) 0 1048576 (by decide) (by decide) (by decide) (by omega) (by omega)
  refine ⟨⟨a1, a2⟩, by omega, by omega, ?_⟩
  rw [wr_in (n := 2 * b) (by omega) (by omega), wr_in (by omega) (by omega)]
def flT (x : N3) : Option AV := cond (decide (x.b < 0)) (cond (decide (0 ≤ x.k)) (some (iv ((wr (x.a + wr (wr (0 - rtF 21 (wr (wr (2 * x.b) * x.b)) 0 1048576) - 1))).fdiv (2 ^ min x.k.toNat 64)))) none)
    (cond (decide (0 ≤ x.k)) (some (iv ((wr (x.a + rtF 21 (wr (wr (2 * x.b) * x.b)) 0 1048576)).fdiv (2 ^ min x.k.toNat 64)))) none)
theorem fl_tree {x : N3} (h : validB x = true) : flT x = some (iv (flF x)) := by
  unfold flT
  obtain ⟨ha, hb, hk, _⟩ := validB_iff.1 h
  obtain ⟨⟨r0, r1⟩, _, _, e⟩ := rt_ok hb.1 hb.2
  have e2 : min x.k.toNat 64 = x.k.toNat := by omega
  rw [show decide (0 ≤ x.k) = true by simpa using hk.1, e, e2]
  unfold flF flN
  generalize rtF 21 (2 * x.b * x.b) 0 1048576 = r at *
  cases decide (x.b < 0) with
  | true =>
    simp only [cond_true]
    rw [wr_in (n := 0 - r) (by omega) (by omega), wr_in (n := 0 - r - 1) (by omega) (by omega), wr_in (by omega) (by omega), show 0 - r - 1 = -r - 1 by omega]
  | false =>
    simp only [cond_true, cond_false]
    rw [wr_in (by omega) (by omega)]
theorem sq_le {m r : Int} (h0 : 0 ≤ m) (h : m ≤ r) : m * m ≤ r * r := Int.mul_le_mul h h h0 (by omega)
theorem sgZ_cases (m c : Int) : (m * m > 2 * (c * c) ∧ sgZ m c = m.sign) ∨ (m * m < 2 * (c * c) ∧ sgZ m c = c.sign) ∨ (m = 0 ∧ c = 0 ∧ sgZ m c = 0) := by
  rcases Int.lt_trichotomy (m * m) (2 * (c * c)) with h | h | h
  · exact .inr (.inl ⟨h, sgZ_neg h⟩)
  · obtain ⟨rfl, rfl⟩ := nm_zero h
    exact .inr (.inr ⟨rfl, rfl, rfl⟩)
  · exact .inl ⟨h, sgZ_pos h⟩
theorem sign_le {a : Int} (h : a ≤ 0) : a.sign ≤ 0 := by
  rcases Int.lt_trichotomy a 0 with h' | h' | h'
  · rw [Int.sign_eq_neg_one_of_neg h']; decide
  · subst h'; decide
  · omega
theorem sg_fl {b m : Int} (h1 : -131072 ≤ b) (h2 : b ≤ 131072) : (m ≤ flN b → sgZ m (-b) ≤ 0) ∧ (flN b < m → 0 < sgZ m (-b)) := by
  obtain ⟨⟨r0, r1⟩, l, u, _⟩ := rt_ok h1 h2
  unfold flN
  generalize rtF 21 (2 * b * b) 0 1048576 = r at *
  have e : -b * -b = b * b := by grind
  have c := sgZ_cases m (-b)
  rw [e] at c
  have em : -m * -m = m * m := by grind
  by_cases hb : b < 0
  · rw [show decide (b < 0) = true by simpa using hb]
    simp only [cond_true]
    refine ⟨fun h => ?_, fun h => ?_⟩
    · have := sq_le (m := r + 1) (r := -m) (by omega) (by omega)
      rcases c with ⟨c1, c2⟩ | ⟨c1, c2⟩ | ⟨c1, c2, c3⟩
      · rw [c2]; exact sign_le (by omega)
      · omega
      · omega
    · rcases c with ⟨c1, c2⟩ | ⟨c1, c2⟩ | ⟨c1, c2, c3⟩
      · rw [c2]
        have : 0 < m := by
          rcases Int.lt_or_le 0 m with hm | hm
          · exact hm
          · have := sq_le (m := -m) (r := r) (by omega) (by omega)
            omega
        rw [Int.sign_eq_one_of_pos this]; decide
      · rw [c2, Int.sign_eq_one_of_pos (by omega)]; decide
      · omega
  · rw [show decide (b < 0) = false by simpa using hb]
    simp only [cond_false]
    refine ⟨fun h => ?_, fun h => ?_⟩
    · rcases c with ⟨c1, c2⟩ | ⟨c1, c2⟩ | ⟨c1, c2, c3⟩
      · rw [c2]
        have : m ≤ 0 := by
          rcases Int.lt_or_le 0 m with hm | hm
          · have := sq_le (m := m) (r := r) (by omega) (by omega)
            omega
          · exact hm
        exact sign_le this
      · rw [c2]; exact sign_le (by omega)
      · omega
    · have := sq_le (m := r + 1) (r := m) (by omega) (by omega)
      rcases c with ⟨c1, c2⟩ | ⟨c1, c2⟩ | ⟨c1, c2, c3⟩
      · rw [c2, Int.sign_eq_one_of_pos (by omega)]; decide
      · omega
      · omega
/-- The comparison of a whole number with another number. -/
theorem cmp_whole {f : Int} {x : N3} (h : validB x = true) (hf : -131073 ≤ f) (hf' : f ≤ 131073) : sgF (subF ⟨f, 0, 0⟩ x) = sgZ (f * 2 ^ x.k.toNat - x.a) (-x.b) := by
  obtain ⟨ha, hb, hk, _⟩ := validB_iff.1 h
  obtain ⟨A, B, v, a1, a2⟩ := valid_val h
  have w : Val 10 ⟨f, 0, 0⟩ (f * 2 ^ 10) 0 := ⟨Int.le_refl _, by show (0 : Int) ≤ 10; decide, by simp, by simp⟩
  have hs := (w.sub v (by decide) (by omega) (by omega) (by omega) (by omega)).1.sg
  rw [hs, v.a, v.b]
  have e : f * 2 ^ 10 = f * 2 ^ x.k.toNat * 2 ^ (10 - x.k.toNat) := by
    rw [Int.mul_assoc, ← Int.pow_add, show x.k.toNat + (10 - x.k.toNat) = 10 by omega]
  rw [e, ← Int.sub_mul, show 0 - x.b * 2 ^ (10 - x.k.toNat) = -x.b * 2 ^ (10 - x.k.toNat) by grind, sgZ_scale]
theorem floor_law {x : N3} (h : validB x = true) : (-131073 ≤ flF x → flF x ≤ 131073 → sgF (subF ⟨flF x, 0, 0⟩ x) ≤ 0) ∧ (-131073 ≤ flF x + 1 → flF x + 1 ≤ 131073 → 0 < sgF (subF ⟨flF x + 1, 0, 0⟩ x)) := by
  obtain ⟨ha, hb, hk, _⟩ := validB_iff.1 h
  have hp : (0 : Int) < 2 ^ x.k.toNat := Int.pow_pos (by decide)
  have e : flF x = (x.a + flN x.b) / 2 ^ x.k.toNat := Int.fdiv_eq_ediv_of_nonneg _ (by omega)
  have d1 := Int.mul_ediv_self_le (x := x.a + flN x.b) (k := 2 ^ x.k.toNat) (by omega)
  have d2 := Int.lt_mul_ediv_self_add (x := x.a + flN x.b) (k := 2 ^ x.k.toNat) hp
  rw [← e] at d1 d2
  refine ⟨fun h1 h2 => ?_, fun h1 h2 => ?_⟩
  · rw [cmp_whole h h1 h2]
    refine (sg_fl hb.1 hb.2).1 ?_
    rw [Int.mul_comm]; omega
  · rw [cmp_whole h h1 h2]
    refine (sg_fl hb.1 hb.2).2 ?_
    rw [Int.mul_comm, Int.mul_add]; omega
end Go.Ev

/- The laws of signs and of division, for valid numbers. -/
namespace Go.Ev

def cmV (x y : N3) : Int := cond (validB x && validB y) (sgF (subF x y)) 0
def sgV (x : N3) : Int := cond (validB x) (sgF x) 0
def flV (x : N3) : Int := cond (validB x) (flF x) 0
def eqN (x y : N3) : Bool := x.a == y.a && (x.b == y.b && (x.k == y.k && true))
def no : Option AV := some (bv false)
def lowN (x : N3) : N3 := ⟨flV x, 0, 0⟩
def highN (x : N3) : N3 := ⟨wr (flV x + 1), 0, 0⟩
def nsT6 (x : N3) : Option AV := cond (!(inB 0 0 62 && chkB (highN x))) (some (bv true)) (some (bv (decide (cmV (sel (inB 0 0 62) (chk (highN x))) x > 0))))
def nsT5 (x : N3) : Option AV := cond (!(inB 0 0 62 && chkB (lowN x))) (nsT6 x) (cond (decide (cmV (sel (inB 0 0 62) (chk (lowN x))) x ≤ 0)) (nsT6 x) no)
def opn (x y m : N3) : N3 := sel (validB x && validB y) (chk m)
def opb (x y m : N3) : Bool := (validB x && validB y) && chkB m
def nsT4 (x y z : N3) : Option AV := cond (opb x z (addF x z)) (cond (opb y z (addF y z)) (cond (cmV (opn x z (addF x z)) (opn y z (addF y z)) != cmV x y) no (nsT5 x)) (nsT5 x)) (nsT5 x)
def nsT3 (x y z : N3) : Option AV := cond (opb x y (subF x y)) (cond (sgV (opn x y (subF x y)) != cmV x y) no (nsT4 x y z)) (nsT4 x y z)
def nsT2 (x y z : N3) : Option AV := cond (cmV x y != wr (0 - cmV y x)) no (cond (cmV x x != 0) no (cond (cmV x y == 0) (cond (!eqN x y) no (nsT3 x y z)) (nsT3 x y z)))
def nsT1 (x y z : N3) : Option AV := cond (opb x y (mulF x y)) (cond (sgV (opn x y (mulF x y)) != wr (sgV x * sgV y)) no (nsT2 x y z)) (nsT2 x y z)

theorem sgZ_bd (a b : Int) : -1 ≤ sgZ a b ∧ sgZ a b ≤ 1 := by
  have hs : ∀ c : Int, -1 ≤ c.sign ∧ c.sign ≤ 1 := fun c => by
    rcases Int.lt_trichotomy c 0 with h | h | h
    · rw [Int.sign_eq_neg_one_of_neg h]; decide
    · subst h; decide
    · rw [Int.sign_eq_one_of_pos h]; decide
  rcases sgZ_cases a b with ⟨_, h⟩ | ⟨_, h⟩ | ⟨_, _, h⟩
  · rw [h]; exact hs a
  · rw [h]; exact hs b
  · rw [h]; decide
theorem low_chk {m : N3} (hl : lowB m) (h : chkB m = true) : chk m = m ∧ validB m = true := by
  have hr : red m = m := red_fix hl
  unfold chkB at h
  rw [hr] at h
  refine ⟨?_, h⟩
  unfold chk chkB
  rw [hr, h]
  rfl
theorem opb_ok {x y m : N3} (hl : lowB m) (h : opb x y m = true) : opn x y m = m ∧ validB m = true := by
  unfold opb at h
  rw [Bool.and_eq_true] at h
  obtain ⟨h1, h2⟩ := low_chk hl h.2
  unfold opn
  rw [h.1, h1]
  exact ⟨rfl, h2⟩
theorem sub_val {x y : N3} {A B C D : Int} (v : Val 10 x A B) (a1 : A.natAbs ≤ 134217728) (a2 : B.natAbs ≤ 134217728) (w : Val 10 y C D) (b1 : C.natAbs ≤ 134217728) (b2 : D.natAbs ≤ 134217728) :
    Val 10 (subF x y) (A - C) (B - D) ∧ lowB (subF x y) := v.sub w (by decide) (by omega) (by omega) (by omega) (by omega)
theorem mul_bdN {a b : Int} (h : a.natAbs ≤ 134217728) (g : b.natAbs ≤ 134217728) : (a * b).natAbs ≤ 18014398509481984 := by
  rw [Int.natAbs_mul]
  exact Nat.mul_le_mul h g
theorem mul_val {x y : N3} {A B C D : Int} (v : Val 10 x A B) (a1 : A.natAbs ≤ 134217728) (a2 : B.natAbs ≤ 134217728) (w : Val 10 y C D) (b1 : C.natAbs ≤ 134217728) (b2 : D.natAbs ≤ 134217728) :
    Val 20 (mulF x y) (A * C + 2 * B * D) (A * D + B * C) ∧ lowB (mulF x y) := by
  have h1 := mul_bdN a1 b1
  have h2 := mul_bdN a2 b2
  have h3 := mul_bdN a1 b2
  have h4 := mul_bdN a2 b1
  have e : 2 * B * D = 2 * (B * D) := by grind
  exact v.mul w (by decide) (by rw [e]; omega) (by omega)

theorem fl_bd {x : N3} (hx : validB x = true) : -2000000 ≤ flF x ∧ flF x ≤ 2000000 := by
  obtain ⟨ha, hb, hk, _⟩ := validB_iff.1 hx
  obtain ⟨⟨r0, r1⟩, _⟩ := rt_ok hb.1 hb.2
  have hn : -1048577 ≤ flN x.b ∧ flN x.b ≤ 1048576 := by
    unfold flN
    cases decide (x.b < 0) with
    | true => simp only [cond_true]; omega
    | false => simp only [cond_false]; omega
  have hp : (0 : Int) < 2 ^ x.k.toNat := Int.pow_pos (by decide)
  have e : flF x = (x.a + flN x.b) / 2 ^ x.k.toNat := Int.fdiv_eq_ediv_of_nonneg _ (by omega)
  rw [e]
  generalize (2 : Int) ^ x.k.toNat = p at *
  have ht : -2000000 ≤ x.a + flN x.b ∧ x.a + flN x.b ≤ 2000000 := by omega
  generalize x.a + flN x.b = t at *
  refine ⟨Int.le_ediv_of_mul_le hp ?_, Int.le_of_lt_add_one (Int.ediv_lt_of_lt_mul hp ?_)⟩
  · omega
  · omega
theorem ns_floor {x : N3} (hx : validB x = true) : nsT5 x = some (bv true) := by
  have hf : flV x = flF x := by unfold flV; rw [hx]; rfl
  obtain ⟨l1, l2⟩ := floor_law hx
  have hfb := fl_bd hx
  have fit : ∀ f : Int, (inB 0 0 62 && chkB ⟨f, 0, 0⟩) = true → -131073 ≤ f ∧ f ≤ 131073 ∧ sel (inB 0 0 62) (chk ⟨f, 0, 0⟩) = ⟨f, 0, 0⟩ ∧ validB ⟨f, 0, 0⟩ = true := fun f h => by
    rw [Bool.and_eq_true] at h
    obtain ⟨h1, h2⟩ := low_chk (m := ⟨f, 0, 0⟩) (fun hh => by have := hh.1; simp at this) h.2
    have := validB_iff.1 h2
    simp only at this
    rw [h1]
    exact ⟨by omega, by omega, rfl, h2⟩
  have e1 : wr (flV x + 1) = flF x + 1 := by rw [hf, wr_in (by omega) (by omega)]
  have t6 : nsT6 x = some (bv true) := by
    unfold nsT6
    cases hc : (inB 0 0 62 && chkB (highN x)) with
    | false => rfl
    | true =>
      obtain ⟨g1, g2, g3, g4⟩ := fit _ hc
      unfold highN
      rw [e1] at g1 g2 g3 g4 ⊢
      rw [g3]
      have := l2 g1 g2
      have hc : cmV ⟨flF x + 1, 0, 0⟩ x > 0 := by unfold cmV; rw [g4, hx]; exact this
      simp only [Bool.not_true, cond_false]
      rw [show decide (cmV ⟨flF x + 1, 0, 0⟩ x > 0) = true by simpa using hc]
  unfold nsT5
  cases hc : (inB 0 0 62 && chkB (lowN x)) with
  | false => exact t6
  | true =>
    obtain ⟨g1, g2, g3, g4⟩ := fit _ hc
    unfold lowN
    rw [hf] at g1 g2 g3 g4 ⊢
    rw [g3]
    have := l1 g1 g2
    have hc : cmV ⟨flF x, 0, 0⟩ x ≤ 0 := by unfold cmV; rw [g4, hx]; exact this
    rw [show decide (cmV ⟨flF x, 0, 0⟩ x ≤ 0) = true by simpa using hc]
    exact t6
theorem ns_ok {x y z : N3} (hx : validB x = true) (hy : validB y = true) (hz : validB z = true) : nsT1 x y z = some (bv true) := by
  obtain ⟨A, B, v, a1, a2⟩ := valid_val hx
  obtain ⟨C, D, w, b1, b2⟩ := valid_val hy
  obtain ⟨F, G, u, c1, c2⟩ := valid_val hz
  have cm : ∀ p q : N3, validB p = true → validB q = true → cmV p q = sgF (subF p q) := fun p q h1 h2 => by unfold cmV; rw [h1, h2]; rfl
  have sg : ∀ p : N3, validB p = true → sgV p = sgF p := fun p h1 => by unfold sgV; rw [h1]; rfl
  have sxy := sub_val v a1 a2 w b1 b2
  have syx := sub_val w b1 b2 v a1 a2
  have exy : cmV x y = sgZ (A - C) (B - D) := (cm x y hx hy).trans sxy.1.sg
  have eyx : cmV y x = -cmV x y := by
    rw [exy, cm y x hy hx, syx.1.sg, ← sgZ_minus]
    congr 1 <;> omega
  have bxy := sgZ_bd (A - C) (B - D)
  have exx : cmV x x = 0 := by
    rw [cm x x hx hx, (sub_val v a1 a2 v a1 a2).1.sg, Int.sub_self, Int.sub_self]
    rfl
  have t5 := ns_floor hx
  have t4 : nsT4 x y z = some (bv true) := by
    unfold nsT4
    obtain ⟨p1, p2⟩ := v.add u (by decide) (by omega) (by omega)
    obtain ⟨q1, q2⟩ := w.add u (by decide) (by omega) (by omega)
    cases h1 : opb x z (addF x z) with
    | false => exact t5
    | true =>
      cases h2 : opb y z (addF y z) with
      | false => exact t5
      | true =>
        obtain ⟨k1, k2⟩ := opb_ok p2 h1
        obtain ⟨k3, k4⟩ := opb_ok q2 h2
        have e : cmV (addF x z) (addF y z) = cmV x y := by
          have s := p1.sub q1 (by decide) (by omega) (by omega) (by omega) (by omega)
          rw [cm _ _ k2 k4, s.1.sg, exy]
          congr 1 <;> omega
        simp only [cond_true, k1, k3, e, bne_self_eq_false, cond_false]
        exact t5
  have t3 : nsT3 x y z = some (bv true) := by
    unfold nsT3
    cases h1 : opb x y (subF x y) with
    | false => exact t4
    | true =>
      obtain ⟨k1, k2⟩ := opb_ok sxy.2 h1
      have e : sgV (subF x y) = cmV x y := by rw [sg _ k2, cm x y hx hy]
      simp only [cond_true, k1, e, bne_self_eq_false, cond_false]
      exact t4
  have t2 : nsT2 x y z = some (bv true) := by
    unfold nsT2
    have e1 : wr (0 - cmV y x) = cmV x y := by rw [eyx, wr_in (by omega) (by omega)]; omega
    rw [e1, exx]
    simp only [bne_self_eq_false, cond_false]
    cases h : (cmV x y == 0) with
    | false => exact t3
    | true =>
      have h0 : sgZ (A - C) (B - D) = 0 := by rw [← exy]; simpa using h
      obtain ⟨g1, g2⟩ := sgZ_eq_zero h0
      have e2 : A = C := by omega
      have e3 : B = D := by omega
      subst e2 e3
      have := v.uniq w (valid_low hx) (valid_low hy)
      subst this
      have : eqN x x = true := by simp [eqN]
      rw [this]
      exact t3
  unfold nsT1
  obtain ⟨m1, m2⟩ := mul_val v a1 a2 w b1 b2
  cases h1 : opb x y (mulF x y) with
  | false => exact t2
  | true =>
    obtain ⟨k1, k2⟩ := opb_ok m2 h1
    have b1 := sgZ_bd A B
    have b2 := sgZ_bd C D
    have e : sgV (mulF x y) = wr (sgV x * sgV y) := by
      rw [sg _ k2, sg _ hx, sg _ hy, m1.sg, v.sg, w.sg, sgZ_mul]
      have : sgZ A B * sgZ C D = -1 ∨ sgZ A B * sgZ C D = 0 ∨ sgZ A B * sgZ C D = 1 := by
        rcases (show sgZ A B = -1 ∨ sgZ A B = 0 ∨ sgZ A B = 1 by omega) with h | h | h <;> rcases (show sgZ C D = -1 ∨ sgZ C D = 0 ∨ sgZ C D = 1 by omega) with g | g | g <;> rw [h, g] <;> decide
      rw [wr_in (by omega) (by omega)]
    simp only [cond_true, k1, e, bne_self_eq_false, cond_false]
    exact t2
end Go.Ev

/- The law of division, for valid numbers. -/
namespace Go.Ev

theorem oddL_prod : ∀ (f : Nat) (n e : Int), n ≠ 0 → n.natAbs < 2 ^ f → (oddL f n e).1 * 2 ^ ((oddL f n e).2 - e).toNat = n
  | 0, n, e, hn, hf => by simp at hf; omega
  | f + 1, n, e, hn, hf => by
    unfold oddL
    split
    · rename_i h
      obtain ⟨h1, h2⟩ := tdiv_two h
      rw [h1]
      have hf' : (n / 2).natAbs < 2 ^ f := by rw [Nat.pow_succ] at hf; omega
      have ih := oddL_prod f (n / 2) (e + 1) (by omega) hf'
      obtain ⟨_, _, _, a4, _⟩ := oddL_spec f (n / 2) (e + 1) (by omega) hf'
      have ex : ((oddL f (n / 2) (e + 1)).2 - e).toNat = ((oddL f (n / 2) (e + 1)).2 - (e + 1)).toNat + 1 := by omega
      rw [ex, Int.pow_succ, ← Int.mul_assoc, ih]
      omega
    · simp

/-- What a quotient is worth. -/
structure Quot (x y : N3) (A B : Int) (ta tb d : Int) (E : Nat) : Prop where
  low : lowB (dvV x y)
  val : Val 200 (dvV x y) (ta * 2 ^ (200 - dvK x y).toNat) (tb * 2 ^ (200 - dvK x y).toNat)
  a : A * y.a - 2 * B * y.b = d * ta * 2 ^ (10 - (divT x y).k.toNat)
  b : B * y.a - A * y.b = d * tb * 2 ^ (10 - (divT x y).k.toNat)
  n : y.a * y.a - 2 * y.b * y.b = d * 2 ^ E
  d0 : d ≠ 0
  k : dvK x y = (divT x y).k - y.k + E
  tk : 0 ≤ (divT x y).k ∧ (divT x y).k ≤ 10
  e60 : E ≤ 60

theorem sm_val {x y : N3} {A B : Int} (v : Val 10 x A B) (a1 : A.natAbs ≤ 134217728) (a2 : B.natAbs ≤ 134217728) (hy : validB y = true) :
    Val 10 (divT x y) (A * y.a - 2 * B * y.b) (B * y.a - A * y.b) := by
  obtain ⟨h1, h2, h3, _⟩ := validB_iff.1 hy
  have eC : divC y = ⟨y.a, -y.b, 0⟩ := by unfold divC; rw [Int.zero_sub, wr_in (by omega) (by omega)]
  have e1 : A * y.a + 2 * B * -y.b = A * y.a - 2 * B * y.b := by grind
  have e2 : A * -y.b + B * y.a = B * y.a - A * y.b := by grind
  have m : ∀ {a b : Int}, a.natAbs ≤ 134217728 → b.natAbs ≤ 134217728 → (a * b).natAbs ≤ 18014398509481984 := fun h g => mul_bdN h g
  have m1 := m a1 (b := y.a) (by omega)
  have m2 := m a2 (b := y.b) (by omega)
  have m3 := m a2 (b := y.a) (by omega)
  have m4 := m a1 (b := y.b) (by omega)
  have e3 : 2 * B * y.b = 2 * (B * y.b) := by grind
  obtain ⟨hT, _⟩ := v.mul (Val.mk0 y.a (-y.b)) (by decide) (by rw [e1, e3]; omega) (by rw [e2]; omega)
  rw [← eC, e1, e2] at hT
  exact hT

theorem tmod_mul {a d : Int} (h : (a.tmod d != 0) = false) : a = d * a.tdiv d := by
  have h : a.tmod d = 0 := by simpa using h
  have := Int.mul_tdiv_add_tmod a d
  omega
theorem quot {x y : N3} {A B : Int} (v : Val 10 x A B) (a1 : A.natAbs ≤ 134217728) (a2 : B.natAbs ≤ 134217728) (hx : validB x = true) (hy : validB y = true) (hn : divN y ≠ 0) (ho : dvOk x y = true) :
    Quot x y A B ((divT x y).a.tdiv (dvOdd y)) ((divT x y).b.tdiv (dvOdd y)) (dvOdd y) (dvE y).toNat := by
  have hp := valid_dvP hx hy
  obtain ⟨_, _, _, _, _, hN, hNb⟩ := raw_bd hp
  obtain ⟨yv1, yv2, yv3, _⟩ := validB_iff.1 hy
  have h60 : (divN y).natAbs < 2 ^ 60 := by
    have : (2 : Nat) ^ 60 = 1152921504606846976 := by decide
    omega
  obtain ⟨o1, o2, o3, o4, o5⟩ := oddL_spec 60 (divN y) 0 hn h60
  change odd (dvOdd y) = true at o1
  change dvOdd y ≠ 0 at o2
  change 0 ≤ dvE y at o4
  change dvE y ≤ 0 + 60 at o5
  have op := oddL_prod 60 (divN y) 0 hn h60
  change dvOdd y * 2 ^ (dvE y - 0).toNat = divN y at op
  rw [Int.sub_zero] at op
  have hT := sm_val v a1 a2 hy
  have tk := hT.k0
  have tkS := hT.kS
  unfold dvOk at ho
  rw [show (divN y == 0) = false by simpa using hn] at ho
  simp only [cond_false] at ho
  have d1 : ((divT x y).a.tmod (dvOdd y) != 0) = false := by
    cases h : ((divT x y).a.tmod (dvOdd y) != 0) with
    | false => rfl
    | true => rw [h] at ho; cases ho
  have d2 : ((divT x y).b.tmod (dvOdd y) != 0) = false := by
    cases h : ((divT x y).b.tmod (dvOdd y) != 0) with
    | false => rfl
    | true => rw [d1, h] at ho; cases ho
  have ea := tmod_mul d1
  have eb := tmod_mul d2
  have ba := tdiv_bd (divT x y).a (dvOdd y)
  have bb := tdiv_bd (divT x y).b (dvOdd y)
  obtain ⟨t1, t2⟩ := hT.bd
  have m : ∀ {a b : Int}, a.natAbs ≤ 134217728 → b.natAbs ≤ 131072 → (a * b).natAbs ≤ 17592186044416 := fun h g => by
    rw [Int.natAbs_mul]; exact Nat.mul_le_mul h g
  have m1 := m a1 (b := y.a) (by omega)
  have m2 := m a2 (b := y.b) (by omega)
  have m3 := m a2 (b := y.a) (by omega)
  have m4 := m a1 (b := y.b) (by omega)
  have e3 : 2 * B * y.b = 2 * (B * y.b) := by grind
  have hK : dvK x y = (divT x y).k - y.k + (dvE y).toNat := by unfold dvK; omega
  have hta : ((divT x y).a.tdiv (dvOdd y)).natAbs ≤ 52776558133248 := by rw [e3] at t1; omega
  have htb : ((divT x y).b.tdiv (dvOdd y)).natAbs ≤ 52776558133248 := by omega
  have hv : Val 200 (dvV x y) ((divT x y).a.tdiv (dvOdd y) * 2 ^ (200 - dvK x y).toNat) ((divT x y).b.tdiv (dvOdd y) * 2 ^ (200 - dvK x y).toNat) ∧ lowB (dvV x y) := by
    unfold dvV
    generalize (divT x y).a.tdiv (dvOdd y) = ta at *
    generalize (divT x y).b.tdiv (dvOdd y) = tb at *
    rw [wr_small (n := ta) (by omega), wr_small (n := tb) (by omega)]
    by_cases hk : dvK x y < 0
    · rw [show decide (dvK x y < 0) = true by simpa using hk, cond_true, wr_in (n := 0 - dvK x y) (by omega) (by omega)]
      have sh : ∀ t : Int, t.natAbs ≤ 52776558133248 → shF t (0 - dvK x y) = t * 2 ^ (0 - dvK x y).toNat := fun t ht => by
        have hb := pow_bd (c := t) (M := 52776558133248) (d := (0 - dvK x y).toNat) (K := 10) (by omega) (by omega) (by omega)
        have e10 : (2 : Int) ^ 10 = 1024 := by decide
        rw [e10] at hb
        exact shF_eq (by omega) (by omega) (by omega) (by omega)
      rw [sh ta hta, sh tb htb]
      have ep : ∀ t : Int, t * 2 ^ (200 - dvK x y).toNat = t * 2 ^ (0 - dvK x y).toNat * 2 ^ (200 - (0 : Int).toNat) := fun t => by
        rw [Int.mul_assoc, ← Int.pow_add]
        congr 2
        omega
      exact ⟨⟨Int.le_refl _, by show (0 : Int) ≤ 200; decide, ep ta, ep tb⟩, fun h => by have := h.1; simp at this⟩
    · rw [show decide (dvK x y < 0) = false by simpa using hk, cond_false]
      have hv0 : Val (dvK x y).toNat ⟨ta, tb, dvK x y⟩ ta tb := ⟨by show 0 ≤ dvK x y; omega, by show dvK x y ≤ ((dvK x y).toNat : Int); omega, by simp, by simp⟩
      obtain ⟨hr, hl⟩ := hv0.red (by omega) (by omega) (by omega)
      have := hr.lift (200 - dvK x y).toNat
      rw [show (dvK x y).toNat + (200 - dvK x y).toNat = 200 by omega] at this
      exact ⟨this, hl⟩
  refine ⟨hv.2, hv.1, ?_, ?_, ?_, o2, hK, ⟨tk, by exact tkS⟩, by omega⟩
  · rw [hT.a]; conv => lhs; rw [ea]
  · rw [hT.b]; conv => lhs; rw [eb]
  · rw [← hN, op]
theorem quot_mul {x y : N3} {A B C D ta tb d : Int} {E : Nat} (h : Quot x y A B ta tb d E) (hy : validB y = true) (w : Val 10 y C D) :
    ta * 2 ^ (200 - dvK x y).toNat * C + 2 * (ta * 0 + tb * 2 ^ (200 - dvK x y).toNat) * D = A * 2 ^ 200 ∧ ta * 2 ^ (200 - dvK x y).toNat * D + tb * 2 ^ (200 - dvK x y).toNat * C = B * 2 ^ 200 := by
  obtain ⟨_, _, ha, hb, hn, d0, hk, tk, he⟩ := h
  obtain ⟨_, _, ⟨y0, y1⟩, _⟩ := validB_iff.1 hy
  have hC := w.a
  have hD := w.b
  have ex : (2 : Int) ^ (200 - dvK x y).toNat * 2 ^ (10 - y.k.toNat) * 2 ^ E = 2 ^ 200 * 2 ^ (10 - (divT x y).k.toNat) := by
    rw [← Int.pow_add, ← Int.pow_add, ← Int.pow_add]
    congr 1
    omega
  have t0 : (2 : Int) ^ (10 - (divT x y).k.toNat) ≠ 0 := by have := pow_pos2 (10 - (divT x y).k.toNat); omega
  generalize (2 : Int) ^ (200 - dvK x y).toNat = p at *
  generalize (2 : Int) ^ (10 - y.k.toNat) = c at *
  generalize (2 : Int) ^ (10 - (divT x y).k.toNat) = t at *
  generalize (2 : Int) ^ E = e at *
  generalize (2 : Int) ^ 200 = z at *
  subst hC hD
  have dt : d * t ≠ 0 := Int.mul_ne_zero d0 t0
  constructor
  · apply Int.eq_of_mul_eq_mul_right dt
    have : (ta * p * (y.a * c) + 2 * (ta * 0 + tb * p) * (y.b * c)) * (d * t) = p * c * ((d * ta * t) * y.a + 2 * (d * tb * t) * y.b) := by grind
    rw [this, ← ha, ← hb]
    have : p * c * ((A * y.a - 2 * B * y.b) * y.a + 2 * (B * y.a - A * y.b) * y.b) = p * c * A * (y.a * y.a - 2 * y.b * y.b) := by grind
    rw [this, hn]
    have : p * c * A * (d * e) = (p * c * e) * A * d := by grind
    rw [this, ex]
    grind
  · apply Int.eq_of_mul_eq_mul_right dt
    have : (ta * p * (y.b * c) + tb * p * (y.a * c)) * (d * t) = p * c * ((d * ta * t) * y.b + (d * tb * t) * y.a) := by grind
    rw [this, ← ha, ← hb]
    have : p * c * ((A * y.a - 2 * B * y.b) * y.b + (B * y.a - A * y.b) * y.a) = p * c * B * (y.a * y.a - 2 * y.b * y.b) := by grind
    rw [this, hn]
    have : p * c * B * (d * e) = (p * c * e) * B * d := by grind
    rw [this, ex]
    grind
theorem quot_mul' {x y : N3} {A B C D ta tb d : Int} {E : Nat} (h : Quot x y A B ta tb d E) (hy : validB y = true) (w : Val 10 y C D) :
    ta * 2 ^ (200 - dvK x y).toNat * C + 2 * (tb * 2 ^ (200 - dvK x y).toNat) * D = A * 2 ^ 200 ∧ ta * 2 ^ (200 - dvK x y).toNat * D + tb * 2 ^ (200 - dvK x y).toNat * C = B * 2 ^ 200 := by
  have := quot_mul h hy w
  rw [Int.mul_zero, Int.zero_add] at this
  exact this
theorem nrm_ne {y : N3} (hy : validB y = true) (h : sgV y ≠ 0) : divN y ≠ 0 ∧ y.a * y.a - 2 * y.b * y.b ≠ 0 := by
  have hN := (raw_bd (valid_dvP hy hy)).2.2.2.2.2.1
  have e : 2 * y.b * y.b = 2 * (y.b * y.b) := by grind
  have h2 : y.a * y.a - 2 * y.b * y.b ≠ 0 := fun hh => h (by
    obtain ⟨z1, z2⟩ := nm_zero (a := y.a) (b := y.b) (by omega)
    unfold sgV sgF
    rw [hy, z1, z2]
    rfl)
  exact ⟨by rw [hN]; exact h2, h2⟩
theorem pow_back {a b : Int} {m n k : Nat} (h : a * 2 ^ (m + k) = b * 2 ^ (n + k)) : a * 2 ^ m = b * 2 ^ n := by
  rw [Int.pow_add, Int.pow_add, ← Int.mul_assoc, ← Int.mul_assoc] at h
  exact pow_cancel h
/-- A valid quotient times the divisor. -/
theorem div_mul {x y : N3} (hx : validB x = true) (hy : validB y = true) (hn : divN y ≠ 0) (ho : dvOk x y = true) (hq : validB (dvV x y) = true) : mulF (dvV x y) y = x := by
  obtain ⟨A, B, v, a1, a2⟩ := valid_val hx
  obtain ⟨C, D, w, b1, b2⟩ := valid_val hy
  obtain ⟨F, G, u, c1, c2⟩ := valid_val hq
  have Q := quot v a1 a2 hx hy hn ho
  obtain ⟨m1, m2⟩ := quot_mul' Q hy w
  have hv := Q.val
  obtain ⟨s1, s2⟩ := mul_val u c1 c2 w b1 b2
  generalize (divT x y).a.tdiv (dvOdd y) = ta at *
  generalize (divT x y).b.tdiv (dvOdd y) = tb at *
  have ul := u.lift 190
  have e1 : ta * 2 ^ (200 - dvK x y).toNat = F * 2 ^ 190 := by rw [hv.a, ul.a]
  have e2 : tb * 2 ^ (200 - dvK x y).toNat = G * 2 ^ 190 := by rw [hv.b, ul.b]
  rw [e1, e2] at m1 m2
  have k1 : F * C + 2 * G * D = A * 2 ^ 10 := by
    refine pow_cancel (n := 190) ?_
    rw [Int.mul_assoc A, ← Int.pow_add]
    rw [show A * 2 ^ (10 + 190) = A * 2 ^ 200 from rfl, ← m1]
    generalize (2 : Int) ^ 190 = z
    grind
  have k2 : F * D + G * C = B * 2 ^ 10 := by
    refine pow_cancel (n := 190) ?_
    rw [Int.mul_assoc B, ← Int.pow_add]
    rw [show B * 2 ^ (10 + 190) = B * 2 ^ 200 from rfl, ← m2]
    generalize (2 : Int) ^ 190 = z
    grind
  rw [k1, k2] at s1
  exact s1.uniq (v.lift 10) s2 (valid_low hx)
/-- A valid product divided by a factor that is not zero. -/
theorem mul_div {x y : N3} (hx : validB x = true) (hy : validB y = true) (hs : sgV y ≠ 0) (hp : validB (mulF x y) = true) : dvOk (mulF x y) y = true ∧ dvV (mulF x y) y = x := by
  obtain ⟨A, B, v, a1, a2⟩ := valid_val hx
  obtain ⟨C, D, w, b1, b2⟩ := valid_val hy
  obtain ⟨F, G, u, c1, c2⟩ := valid_val hp
  obtain ⟨hn, hn2⟩ := nrm_ne hy hs
  obtain ⟨s1, s2⟩ := mul_val v a1 a2 w b1 b2
  have ul := u.lift 10
  have e1 : A * C + 2 * B * D = F * 2 ^ 10 := by rw [s1.a, ul.a]
  have e2 : A * D + B * C = G * 2 ^ 10 := by rw [s1.b, ul.b]
  have hT := sm_val u c1 c2 hy
  have h60 : (divN y).natAbs < 2 ^ 60 := by
    have := (raw_bd (valid_dvP hy hy)).2.2.2.2.2.2
    have : (2 : Nat) ^ 60 = 1152921504606846976 := by decide
    omega
  obtain ⟨o1, o2, _, o4, _⟩ := oddL_spec 60 (divN y) 0 hn h60
  change odd (dvOdd y) = true at o1
  change dvOdd y ≠ 0 at o2
  have op := oddL_prod 60 (divN y) 0 hn h60
  change dvOdd y * 2 ^ (dvE y - 0).toNat = divN y at op
  have hN := (raw_bd (valid_dvP hy hy)).2.2.2.2.2.1
  have dv : ∀ (t r s : Int), t = r * 2 ^ (10 - (divT (mulF x y) y).k.toNat) → t * 2 ^ 10 = s * (y.a * y.a - 2 * y.b * y.b) → (r.tmod (dvOdd y) != 0) = false := fun t r s h1 h2 => by
    have hd : dvOdd y ∣ r := by
      refine dvd_pow_odd o1 (10 - (divT (mulF x y) y).k.toNat + 10) ⟨s * 2 ^ (dvE y - 0).toNat, ?_⟩
      rw [Int.pow_add, ← Int.mul_assoc, ← h1, h2, ← hN, ← op]
      grind
    have := Int.tmod_eq_zero_of_dvd hd
    rw [this]; rfl
  have hC := w.a
  have hD := w.b
  have d1 := dv _ _ (A * 2 ^ (10 - y.k.toNat)) hT.a (by
    have : (F * y.a - 2 * G * y.b) * 2 ^ 10 = (F * 2 ^ 10) * y.a - 2 * (G * 2 ^ 10) * y.b := by generalize (2 : Int) ^ 10 = z; grind
    rw [this, ← e1, ← e2, hC, hD]
    generalize (2 : Int) ^ (10 - y.k.toNat) = z
    grind)
  have d2 := dv _ _ (B * 2 ^ (10 - y.k.toNat)) hT.b (by
    have : (G * y.a - F * y.b) * 2 ^ 10 = (G * 2 ^ 10) * y.a - (F * 2 ^ 10) * y.b := by generalize (2 : Int) ^ 10 = z; grind
    rw [this, ← e1, ← e2, hC, hD]
    generalize (2 : Int) ^ (10 - y.k.toNat) = z
    grind)
  have ho : dvOk (mulF x y) y = true := by
    unfold dvOk
    rw [show (divN y == 0) = false by simpa using hn, d1, d2]
    rfl
  refine ⟨ho, ?_⟩
  have Q := quot u c1 c2 hp hy hn ho
  obtain ⟨m1, m2⟩ := quot_mul' Q hy w
  have hv := Q.val
  generalize (divT (mulF x y) y).a.tdiv (dvOdd y) = ta at *
  generalize (divT (mulF x y) y).b.tdiv (dvOdd y) = tb at *
  generalize (2 : Int) ^ (200 - dvK (mulF x y) y).toNat = p at *
  have vl := v.lift 190
  have ez : (2 : Int) ^ 200 = 2 ^ 10 * 2 ^ 190 := by rw [← Int.pow_add]
  have f1 : (ta * p - A * 2 ^ 190) * C + 2 * (tb * p - B * 2 ^ 190) * D = 0 := by
    have : (ta * p - A * 2 ^ 190) * C + 2 * (tb * p - B * 2 ^ 190) * D = (ta * p * C + 2 * (tb * p) * D) - (A * C + 2 * B * D) * 2 ^ 190 := by generalize (2 : Int) ^ 190 = z; grind
    rw [this, m1, e1, ez, Int.mul_assoc F, Int.sub_self]
  have f2 : (ta * p - A * 2 ^ 190) * D + (tb * p - B * 2 ^ 190) * C = 0 := by
    have : (ta * p - A * 2 ^ 190) * D + (tb * p - B * 2 ^ 190) * C = (ta * p * D + tb * p * C) - (A * D + B * C) * 2 ^ 190 := by generalize (2 : Int) ^ 190 = z; grind
    rw [this, m2, e2, ez, Int.mul_assoc G, Int.sub_self]
  have hcd : C * C - 2 * D * D ≠ 0 := fun hh => hn2 (by
    have : C * C - 2 * D * D = (y.a * y.a - 2 * y.b * y.b) * (2 ^ (10 - y.k.toNat) * 2 ^ (10 - y.k.toNat)) := by rw [hC, hD]; generalize (2 : Int) ^ (10 - y.k.toNat) = z; grind
    rw [this] at hh
    have hz : (2 : Int) ^ (10 - y.k.toNat) ≠ 0 := by have := pow_pos2 (10 - y.k.toNat); omega
    rcases Int.mul_eq_zero.1 hh with h | h
    · exact h
    · exact absurd h (Int.mul_ne_zero hz hz))
  have g1 : ta * p = A * 2 ^ 190 := by
    have : (ta * p - A * 2 ^ 190) * (C * C - 2 * D * D) = 0 := by
      generalize (2 : Int) ^ 190 = z at *
      have : (ta * p - A * z) * (C * C - 2 * D * D) = ((ta * p - A * z) * C + 2 * (tb * p - B * z) * D) * C - 2 * ((ta * p - A * z) * D + (tb * p - B * z) * C) * D := by grind
      rw [this, f1, f2]
      simp
    rcases Int.mul_eq_zero.1 this with h | h
    · omega
    · exact absurd h hcd
  have g2 : tb * p = B * 2 ^ 190 := by
    have : (tb * p - B * 2 ^ 190) * (C * C - 2 * D * D) = 0 := by
      generalize (2 : Int) ^ 190 = z at *
      have : (tb * p - B * z) * (C * C - 2 * D * D) = ((ta * p - A * z) * D + (tb * p - B * z) * C) * C - ((ta * p - A * z) * C + 2 * (tb * p - B * z) * D) * D := by grind
      rw [this, f1, f2]
      simp
    rcases Int.mul_eq_zero.1 this with h | h
    · omega
    · exact absurd h hcd
  rw [g1, g2] at hv
  exact hv.uniq vl Q.low (valid_low hx)
def dok (x y : N3) : Bool := ((validB x && validB y) && dvOk x y) && chkB (dvV x y)
def dq (x y : N3) : N3 := sel ((validB x && validB y) && dvOk x y) (chk (dvV x y))
def dT17 (x : N3) : Option AV := some (bv (!dok x z3))
def dT12 (x y : N3) : Option AV := cond (opb x y (mulF x y)) (cond (sgV y != 0) (cond (!dok (opn x y (mulF x y)) y) no (cond (!eqN (dq (opn x y (mulF x y)) y) x) no (dT17 x))) (dT17 x)) (dT17 x)
def dT4 (x y : N3) : Option AV := cond (!(dok x y == dok x y)) no (cond (dok x y) (cond (!opb (dq x y) y (mulF (dq x y) y)) no (cond (!eqN (opn (dq x y) y (mulF (dq x y) y)) x) no (cond (!validB (dq x y)) no (dT12 x y)))) (dT12 x y))
theorem eqN_self (x : N3) : eqN x x = true := by simp [eqN]
theorem dvOk_n {x y : N3} (h : dvOk x y = true) : divN y ≠ 0 := fun e => by
  have e' : (divN y == 0) = true := by simpa using e
  unfold dvOk at h
  rw [e'] at h
  cases h
theorem chk_valid {x : N3} (h : validB x = true) : chkB x = true ∧ chk x = x := by
  have hr : red x = x := red_fix (valid_low h)
  have hc : chkB x = true := by unfold chkB; rw [hr]; exact h
  exact ⟨hc, (low_chk (valid_low h) hc).1⟩
theorem div_ok {x y : N3} (hx : validB x = true) (hy : validB y = true) : dT4 x y = some (bv true) := by
  have t17 : dT17 x = some (bv true) := by
    have : dok x z3 = false := by
      unfold dok
      rw [show dvOk x z3 = false from rfl, Bool.and_false]
      rfl
    unfold dT17
    rw [this]
    rfl
  have t12 : dT12 x y = some (bv true) := by
    unfold dT12
    obtain ⟨A, B, v, a1, a2⟩ := valid_val hx
    obtain ⟨C, D, w, b1, b2⟩ := valid_val hy
    obtain ⟨s1, s2⟩ := mul_val v a1 a2 w b1 b2
    cases h1 : opb x y (mulF x y) with
    | false => exact t17
    | true =>
      obtain ⟨k1, k2⟩ := opb_ok s2 h1
      rw [k1]
      cases h2 : (sgV y != 0) with
      | false => exact t17
      | true =>
        have hs : sgV y ≠ 0 := by simpa using h2
        obtain ⟨o1, o2⟩ := mul_div hx hy hs k2
        have hd : dok (mulF x y) y = true := by unfold dok; rw [k2, hy, o1, o2, (chk_valid hx).1]; rfl
        have hq : dq (mulF x y) y = x := by unfold dq; rw [k2, hy, o1, o2, (chk_valid hx).2]; rfl
        rw [hd, hq, eqN_self]
        exact t17
  unfold dT4
  rw [show (!(dok x y == dok x y)) = false by simp]
  simp only [cond_false]
  cases h : dok x y with
  | false => exact t12
  | true =>
    unfold dok at h
    rw [Bool.and_eq_true, Bool.and_eq_true] at h
    obtain ⟨⟨_, ho⟩, hc⟩ := h
    have hn := dvOk_n ho
    obtain ⟨A, B, v, a1, a2⟩ := valid_val hx
    have Q := quot v a1 a2 hx hy hn ho
    obtain ⟨q1, q2⟩ := low_chk Q.low hc
    have hq : dq x y = dvV x y := by unfold dq; rw [hx, hy, ho, q1]; rfl
    have hm := div_mul hx hy hn ho q2
    have h1 : opb (dvV x y) y (mulF (dvV x y) y) = true := by unfold opb; rw [q2, hy, hm, (chk_valid hx).1]; rfl
    have h2 : opn (dvV x y) y (mulF (dvV x y) y) = x := by unfold opn; rw [q2, hy, hm, (chk_valid hx).2]; rfl
    rw [hq, h1, h2, eqN_self, q2]
    exact t12
end Go.Ev

/- What else the reference draws: numbers that need not be valid, points, motions. Of these only the place behind is known. -/
namespace Go.Ev

/-- 'From every source this gives a value of this form, and the place behind is at most k further on.' -/
def Dr {α : Type} (k : Int) (F : Src → Option AV) (av : α → AV) (good : α → Prop) : Prop :=
  ∀ s, pB k s.p = true → ∃ (r : α) (s' : Src), F s = some (outS (av r) s') ∧ (0 ≤ s'.p ∧ s'.p ≤ s.p + k) ∧ good r
noncomputable def Dr.get {α : Type} {k : Int} {F : Src → Option AV} {av : α → AV} {good : α → Prop} (h : Dr k F av good) (d : α) (s : Src) : α × Src :=
  if hp : pB k s.p = true then ⟨Classical.choose (h s hp), Classical.choose (Classical.choose_spec (h s hp))⟩ else (d, s)
theorem Dr.spec {α : Type} {k : Int} {F : Src → Option AV} {av : α → AV} {good : α → Prop} (h : Dr k F av good) (d : α) {s : Src} (hp : pB k s.p = true) :
    F s = some (outS (av (h.get d s).1) (h.get d s).2) ∧ (0 ≤ (h.get d s).2.p ∧ (h.get d s).2.p ≤ s.p + k) ∧ good (h.get d s).1 := by
  unfold Dr.get
  rw [dif_pos hp]
  exact Classical.choose_spec (Classical.choose_spec (h s hp))
theorem pB_on {k l : Int} {p p' : Int} (h : pB l p = true) (h' : 0 ≤ p' ∧ p' ≤ p + k) (hl : k ≤ l) : pB (l - k) p' = true := by
  have := pB_iff.1 h
  exact pB_iff.2 (by omega)
theorem pick_on (m : Int) {s : Src} {k : Int} (h : pB k s.p = true) (hk : 2 ≤ k) : 0 ≤ (pickV m s).2.p ∧ (pickV m s).2.p ≤ s.p + 2 := by
  have h' := pB_iff.1 h
  obtain ⟨a1, a2⟩ := nxt_p h (by omega)
  obtain ⟨b1, b2⟩ := nxt_p a2 (by omega)
  unfold pickV
  cases decide (m ≤ 1) with
  | true => simp only [cond_true]; omega
  | false =>
    cases decide (m > 200) with
    | true => simp only [cond_true, cond_false]; omega
    | false => simp only [cond_false]; omega

theorem drawV_on {s : Src} {k : Int} (h : pB k s.p = true) (hk : 18 ≤ k) : F0 s = some (outS (drawV s).1.av (drawV s).2) ∧ validB (drawV s).1 = true ∧ 0 ≤ (drawV s).2.p ∧ (drawV s).2.p ≤ s.p + 18 := by
  have h' := pB_iff.1 h
  obtain ⟨h1, h2⟩ := draw0 (q := 4611686018427387904 - 18 - s.p) (s := s) (by omega) (pB_iff.2 (by omega))
  have := pB_iff.1 h2.p
  exact ⟨h1, h2.ok, by omega, by omega⟩

/-! ### numbers that need not be valid -/
def l3a : List Int := [131073, -131073, 6]
def l3k : List Int := [-1, 11, 2]
def B1 (x : N3) (s : Src) : Option AV := cond (pB 2 s.p && Nat.ble 1 3) (some (outS (⟨l3a.getD (pickV 3 s).1.toNat 0, x.b, x.k⟩ : N3).av (pickV 3 s).2)) none
def B2 (x : N3) (s : Src) : Option AV := cond (pB 2 s.p && Nat.ble 1 3) (some (outS (⟨x.a, l3a.getD (pickV 3 s).1.toNat 0, x.k⟩ : N3).av (pickV 3 s).2)) none
def B3 (x : N3) (s : Src) : Option AV := cond (pB 2 s.p && Nat.ble 1 3) (some (outS (⟨x.a, x.b, l3k.getD (pickV 3 s).1.toNat 0⟩ : N3).av (pickV 3 s).2)) none
def B0 (x : N3) (s : Src) : Option AV := cond (pB 2 s.p) (cond ((pickV 16 s).1 == 0) (B1 x (pickV 16 s).2) (cond ((pickV 16 s).1 == 1) (B2 x (pickV 16 s).2) (cond ((pickV 16 s).1 == 2) (B3 x (pickV 16 s).2) (some (outS x.av (pickV 16 s).2))))) none
def BF (s : Src) : Option AV := cond (pB 18 s.p) (B0 (drawV s).1 (drawV s).2) none
theorem B0_dr (x : N3) {s : Src} (h : pB 4 s.p = true) : ∃ (r : N3) (s' : Src), B0 x s = some (outS r.av s') ∧ 0 ≤ s'.p ∧ s'.p ≤ s.p + 4 := by
  have h0 := pick_on 16 h (by decide)
  have hp := pB_on h h0 (by decide)
  have h1 := pick_on 3 (s := (pickV 16 s).2) (k := 2) hp (by decide)
  unfold B0
  rw [pB_less h (by decide)]
  simp only [cond_true]
  cases (pickV 16 s).1 == 0 with
  | true => refine ⟨_, _, (by simp only [cond_true]; unfold B1; rw [show pB 2 (pickV 16 s).2.p = true from hp]; rfl), by omega, by omega⟩
  | false =>
    simp only [cond_false]
    cases (pickV 16 s).1 == 1 with
    | true => refine ⟨_, _, (by simp only [cond_true]; unfold B2; rw [show pB 2 (pickV 16 s).2.p = true from hp]; rfl), by omega, by omega⟩
    | false =>
      simp only [cond_false]
      cases (pickV 16 s).1 == 2 with
      | true => refine ⟨_, _, (by simp only [cond_true]; unfold B3; rw [show pB 2 (pickV 16 s).2.p = true from hp]; rfl), by omega, by omega⟩
      | false => exact ⟨_, _, rfl, by omega, by omega⟩
theorem bent_dr : Dr 22 BF N3.av (fun _ => True) := fun s h => by
  obtain ⟨h1, _, ho⟩ := drawV_on h (by decide)
  obtain ⟨r, s', e, e1, e2⟩ := B0_dr (drawV s).1 (s := (drawV s).2) (pB_on h ho (by decide))
  refine ⟨r, s', ?_, ⟨by omega, by omega⟩, trivial⟩
  unfold BF
  rw [pB_less h (by decide)]
  exact e
noncomputable def bentV (s : Src) : N3 × Src := bent_dr.get z3 s

/-! ### points -/
def pointV (s : Src) : P2 × Src := (⟨(drawV s).1, (drawV (drawV s).2).1⟩, (drawV (drawV s).2).2)
def PF (s : Src) : Option AV := cond (pB 18 s.p) (cond (pB 18 (drawV s).2.p) (some (outS (pointV s).1.av (pointV s).2)) none) none
theorem point_on {s : Src} {k : Int} (h : pB k s.p = true) (hk : 36 ≤ k) : PF s = some (outS (pointV s).1.av (pointV s).2) ∧ valP (pointV s).1 = true ∧ 0 ≤ (pointV s).2.p ∧ (pointV s).2.p ≤ s.p + 36 := by
  obtain ⟨_, v1, h1⟩ := drawV_on h (by omega)
  have p1 := pB_on h h1 (by omega)
  obtain ⟨_, v2, h2⟩ := drawV_on (s := (drawV s).2) p1 (by omega)
  refine ⟨?_, ?_, ?_, ?_⟩
  · unfold PF
    rw [pB_less h (by omega), pB_less p1 (by omega)]
    rfl
  · unfold valP pointV
    rw [v1, v2]
    rfl
  · show 0 ≤ (drawV (drawV s).2).2.p
    omega
  · show (drawV (drawV s).2).2.p ≤ s.p + 36
    omega
noncomputable def QF (s : Src) : Option AV := cond (pB 36 s.p) (cond (pB 2 (pointV s).2.p) (cond ((pickV 16 (pointV s).2).1 == 0)
  (cond (pB 22 (pickV 16 (pointV s).2).2.p) (some (outS (⟨(bentV (pickV 16 (pointV s).2).2).1, (pointV s).1.y⟩ : P2).av (bentV (pickV 16 (pointV s).2).2).2)) none) (some (outS (pointV s).1.av (pickV 16 (pointV s).2).2))) none) none
theorem bentP_dr : Dr 60 QF P2.av (fun _ => True) := fun s h => by
  obtain ⟨_, _, h1⟩ := point_on h (by decide)
  have p1 := pB_on h h1 (by decide)
  have h2 := pick_on 16 p1 (by decide)
  have p2 := pB_on p1 h2 (by decide)
  obtain ⟨_, h3, _⟩ := bent_dr.spec z3 (s := (pickV 16 (pointV s).2).2) p2
  change 0 ≤ (bentV (pickV 16 (pointV s).2).2).2.p ∧ (bentV (pickV 16 (pointV s).2).2).2.p ≤ _ at h3
  unfold QF
  rw [pB_less h (by decide), pB_less p1 (by decide), show pB 22 (pickV 16 (pointV s).2).2.p = true from p2]
  simp only [cond_true]
  cases (pickV 16 (pointV s).2).1 == 0 with
  | true => exact ⟨_, _, rfl, ⟨by omega, by omega⟩, trivial⟩
  | false => exact ⟨_, _, rfl, ⟨by omega, by omega⟩, trivial⟩
noncomputable def bentPV (s : Src) : P2 × Src := bentP_dr.get ⟨z3, z3⟩ s

/-! ### motions -/
structure M8 where
  t : Int
  f : Bool
  s : P2
def M8.av (m : M8) : AV := mav m.t m.f m.s
def M8.valid (m : M8) : Bool := inB m.t 0 7 && valP m.s
def m0 : M8 := ⟨0, false, ⟨z3, z3⟩⟩
def MF1 (t : Int) (f : Bool) (s : Src) : Option AV := cond (pB 2 s.p) (cond (!((pickV 4 s).1 == 0)) (cond (pB 36 (pickV 4 s).2.p) (some (outS (mav t f (pointV (pickV 4 s).2).1) (pointV (pickV 4 s).2).2)) none) (some (outS (mav t f ⟨z3, z3⟩) (pickV 4 s).2))) none
def MF (s : Src) : Option AV := cond (pB 2 s.p) (cond (pB 2 (pickV 8 s).2.p) (MF1 (pickV 8 s).1 ((pickV 2 (pickV 8 s).2).1 == 0) (pickV 2 (pickV 8 s).2).2) none) none
theorem mot_dr : Dr 42 MF M8.av (fun _ => True) := fun s h => by
  have h1 := pick_on 8 h (by decide)
  have p1 := pB_on h h1 (by decide)
  have h2 := pick_on 2 p1 (by decide)
  have p2 := pB_on p1 h2 (by decide)
  have h3 := pick_on 4 p2 (by decide)
  have p3 := pB_on p2 h3 (by decide)
  obtain ⟨_, _, h4⟩ := point_on p3 (by decide)
  unfold MF MF1
  rw [pB_less h (by decide), pB_less p1 (by decide), pB_less p2 (by decide), show pB 36 (pickV 4 (pickV 2 (pickV 8 s).2).2).2.p = true from p3]
  simp only [cond_true]
  cases (pickV 4 (pickV 2 (pickV 8 s).2).2).1 == 0 with
  | true => (refine ⟨⟨_, _, _⟩, _, rfl, ⟨?_, ?_⟩, trivial⟩ <;> (try simp only) <;> omega)
  | false => (refine ⟨⟨_, _, _⟩, _, rfl, ⟨?_, ?_⟩, trivial⟩ <;> (try simp only) <;> omega)
noncomputable def motV (s : Src) : M8 × Src := mot_dr.get m0 s
def l2t : List Int := [-1, 8]
def NF1 (m : M8) (s : Src) : Option AV := cond (pB 2 s.p && Nat.ble 1 2) (some (outS (mav (l2t.getD (pickV 2 s).1.toNat 0) m.f m.s) (pickV 2 s).2)) none
noncomputable def NF2 (m : M8) (s : Src) : Option AV := cond (pB 22 s.p) (some (outS (mav m.t m.f ⟨(bentV s).1, m.s.y⟩) (bentV s).2)) none
noncomputable def NF3 (m : M8) (s : Src) : Option AV := cond (pB 22 s.p) (some (outS (mav m.t m.f ⟨m.s.x, (bentV s).1⟩) (bentV s).2)) none
noncomputable def NF0 (m : M8) (s : Src) : Option AV := cond (pB 2 s.p) (cond ((pickV 16 s).1 == 0) (NF1 m (pickV 16 s).2) (cond ((pickV 16 s).1 == 1) (NF2 m (pickV 16 s).2) (cond ((pickV 16 s).1 == 2) (NF3 m (pickV 16 s).2) (some (outS m.av (pickV 16 s).2))))) none
noncomputable def NF (s : Src) : Option AV := cond (pB 42 s.p) (NF0 (motV s).1 (motV s).2) none
theorem bentM_dr : Dr 70 NF M8.av (fun _ => True) := fun s h => by
  obtain ⟨_, h1, _⟩ := mot_dr.spec m0 (pB_less (l := 42) h (by decide))
  change 0 ≤ (motV s).2.p ∧ (motV s).2.p ≤ _ at h1
  have p1 := pB_on h h1 (by decide)
  have h2 := pick_on 16 p1 (by decide)
  have p2 := pB_on p1 h2 (by decide)
  have h3 := pick_on 2 p2 (by decide)
  obtain ⟨_, h4, _⟩ := bent_dr.spec z3 (pB_less (l := 22) p2 (by decide))
  change 0 ≤ (bentV (pickV 16 (motV s).2).2).2.p ∧ (bentV (pickV 16 (motV s).2).2).2.p ≤ _ at h4
  unfold NF NF0 NF1 NF2 NF3
  rw [pB_less h (by decide), pB_less p1 (by decide), pB_less (k := 70 - 42 - 2) (l := 2) p2 (by decide), pB_less (l := 22) p2 (by decide)]
  simp only [cond_true]
  cases (pickV 16 (motV s).2).1 == 0 with
  | true => (refine ⟨⟨_, _, _⟩, _, rfl, ⟨?_, ?_⟩, trivial⟩ <;> (try simp only) <;> omega)
  | false =>
    simp only [cond_false]
    cases (pickV 16 (motV s).2).1 == 1 with
    | true => (refine ⟨⟨(motV s).1.t, (motV s).1.f, ⟨(bentV (pickV 16 (motV s).2).2).1, (motV s).1.s.y⟩⟩, (bentV (pickV 16 (motV s).2).2).2, rfl, ⟨?_, ?_⟩, trivial⟩ <;> omega)
    | false =>
      simp only [cond_false]
      cases (pickV 16 (motV s).2).1 == 2 with
      | true => (refine ⟨⟨(motV s).1.t, (motV s).1.f, ⟨(motV s).1.s.x, (bentV (pickV 16 (motV s).2).2).1⟩⟩, (bentV (pickV 16 (motV s).2).2).2, rfl, ⟨?_, ?_⟩, trivial⟩ <;> omega)
      | false => exact ⟨_, _, rfl, ⟨by omega, by omega⟩, trivial⟩
noncomputable def bentMV (s : Src) : M8 × Src := bentM_dr.get m0 s
/-- Two motions; a motion and a point. -/
noncomputable def cpA (s : Src) : M8 := (bentMV s).1
noncomputable def cpB (s : Src) : M8 := (bentMV (bentMV s).2).1
noncomputable def mpP (s : Src) : P2 := (bentPV (bentMV s).2).1
theorem cp_ok {s : Src} (h : pB 140 s.p = true) : pB 70 s.p = true ∧ pB 70 (bentMV s).2.p = true := by
  obtain ⟨_, h1, _⟩ := bentM_dr.spec m0 (pB_less (l := 70) h (by decide))
  exact ⟨pB_less h (by decide), pB_on h h1 (by decide)⟩
end Go.Ev

/- Motions as maps of whole numbers: a motion behind another one; a motion and its inverse. -/
namespace Go.Ev

@[ext] theorem V4.ext' {v w : V4} (h1 : v.a = w.a) (h2 : v.b = w.b) (h3 : v.c = w.c) (h4 : v.d = w.d) : v = w := by
  cases v; cases w; simp_all
/-- Twice the turned point. -/
def tv (t : Int) (v : V4) : V4 := tvR (t.toNat / 2) (tvB t v.a v.b v.c v.d)
def fl (f : Bool) (v : V4) : V4 := cond f ⟨v.a, v.b, -v.c, -v.d⟩ v
def ad (v w : V4) : V4 := ⟨v.a + w.a, v.b + w.b, v.c + w.c, v.d + w.d⟩
def db (v : V4) : V4 := ⟨2 * v.a, 2 * v.b, 2 * v.c, 2 * v.d⟩
def mi (v : V4) : V4 := ⟨-v.a, -v.b, -v.c, -v.d⟩

theorem t8 {t : Int} (h : inB t 0 7 = true) : t = 0 ∨ t = 1 ∨ t = 2 ∨ t = 3 ∨ t = 4 ∨ t = 5 ∨ t = 6 ∨ t = 7 := by
  have := inB_iff.1 h
  omega
theorem tv_all (v : V4) : tv 0 v = db v ∧ tv 1 v = ⟨2 * (v.b - v.d), v.a - v.c, 2 * (v.b + v.d), v.a + v.c⟩ ∧ tv 2 v = ⟨-(2 * v.c), -(2 * v.d), 2 * v.a, 2 * v.b⟩ ∧
    tv 3 v = ⟨-(2 * (v.b + v.d)), -(v.a + v.c), 2 * (v.b - v.d), v.a - v.c⟩ ∧ tv 4 v = ⟨-(2 * v.a), -(2 * v.b), -(2 * v.c), -(2 * v.d)⟩ ∧
    tv 5 v = ⟨-(2 * (v.b - v.d)), -(v.a - v.c), -(2 * (v.b + v.d)), -(v.a + v.c)⟩ ∧ tv 6 v = ⟨- -(2 * v.c), - -(2 * v.d), -(2 * v.a), -(2 * v.b)⟩ ∧
    tv 7 v = ⟨- -(2 * (v.b + v.d)), - -(v.a + v.c), -(2 * (v.b - v.d)), -(v.a - v.c)⟩ := ⟨rfl, rfl, rfl, rfl, rfl, rfl, rfl, rfl⟩
theorem tv_lin {t : Int} (h : inB t 0 7 = true) (v w : V4) : tv t (ad v w) = ad (tv t v) (tv t w) ∧ tv t (db v) = db (tv t v) ∧ tv t (mi v) = mi (tv t v) := by
  obtain ⟨a0, a1, a2, a3, a4, a5, a6, a7⟩ := tv_all v
  obtain ⟨b0, b1, b2, b3, b4, b5, b6, b7⟩ := tv_all w
  obtain ⟨c0, c1, c2, c3, c4, c5, c6, c7⟩ := tv_all (ad v w)
  obtain ⟨d0, d1, d2, d3, d4, d5, d6, d7⟩ := tv_all (db v)
  obtain ⟨e0, e1, e2, e3, e4, e5, e6, e7⟩ := tv_all (mi v)
  rcases t8 h with rfl | rfl | rfl | rfl | rfl | rfl | rfl | rfl
  · rw [a0, b0, c0, d0, e0]; refine ⟨?_, ?_, ?_⟩ <;> apply V4.ext' <;> simp only [ad, db, mi] <;> omega
  · rw [a1, b1, c1, d1, e1]; refine ⟨?_, ?_, ?_⟩ <;> apply V4.ext' <;> simp only [ad, db, mi] <;> omega
  · rw [a2, b2, c2, d2, e2]; refine ⟨?_, ?_, ?_⟩ <;> apply V4.ext' <;> simp only [ad, db, mi] <;> omega
  · rw [a3, b3, c3, d3, e3]; refine ⟨?_, ?_, ?_⟩ <;> apply V4.ext' <;> simp only [ad, db, mi] <;> omega
  · rw [a4, b4, c4, d4, e4]; refine ⟨?_, ?_, ?_⟩ <;> apply V4.ext' <;> simp only [ad, db, mi] <;> omega
  · rw [a5, b5, c5, d5, e5]; refine ⟨?_, ?_, ?_⟩ <;> apply V4.ext' <;> simp only [ad, db, mi] <;> omega
  · rw [a6, b6, c6, d6, e6]; refine ⟨?_, ?_, ?_⟩ <;> apply V4.ext' <;> simp only [ad, db, mi] <;> omega
  · rw [a7, b7, c7, d7, e7]; refine ⟨?_, ?_, ?_⟩ <;> apply V4.ext' <;> simp only [ad, db, mi] <;> omega
/-- One turn by 45 degrees behind a turn. -/
theorem tv_one {t : Int} (h : inB t 0 7 = true) (v : V4) : tv 1 (tv t v) = db (tv ((t + 1) % 8) v) := by
  obtain ⟨a0, a1, a2, a3, a4, a5, a6, a7⟩ := tv_all v
  rcases t8 h with rfl | rfl | rfl | rfl | rfl | rfl | rfl | rfl
  · rw [a0, show ((0 : Int) + 1) % 8 = 1 from rfl, a1, (tv_all _).2.1]; apply V4.ext' <;> simp only [db] <;> omega
  · rw [a1, show ((1 : Int) + 1) % 8 = 2 from rfl, a2, (tv_all _).2.1]; apply V4.ext' <;> simp only [db] <;> omega
  · rw [a2, show ((2 : Int) + 1) % 8 = 3 from rfl, a3, (tv_all _).2.1]; apply V4.ext' <;> simp only [db] <;> omega
  · rw [a3, show ((3 : Int) + 1) % 8 = 4 from rfl, a4, (tv_all _).2.1]; apply V4.ext' <;> simp only [db] <;> omega
  · rw [a4, show ((4 : Int) + 1) % 8 = 5 from rfl, a5, (tv_all _).2.1]; apply V4.ext' <;> simp only [db] <;> omega
  · rw [a5, show ((5 : Int) + 1) % 8 = 6 from rfl, a6, (tv_all _).2.1]; apply V4.ext' <;> simp only [db] <;> omega
  · rw [a6, show ((6 : Int) + 1) % 8 = 7 from rfl, a7, (tv_all _).2.1]; apply V4.ext' <;> simp only [db] <;> omega
  · rw [a7, show ((7 : Int) + 1) % 8 = 0 from rfl, a0, (tv_all _).2.1]; apply V4.ext' <;> simp only [db] <;> omega
theorem db_inj {v w : V4} (h : db v = db w) : v = w := by
  simp only [db, V4.mk.injEq] at h
  apply V4.ext' <;> omega
theorem tv_tv {t : Int} (h : inB t 0 7 = true) (v : V4) : ∀ (n : Nat), n < 8 → tv n (tv t v) = db (tv ((t + n) % 8) v)
  | 0, _ => by
    have := inB_iff.1 h
    rw [show ((0 : Nat) : Int) = 0 from rfl, (tv_all _).1, Int.add_zero, Int.emod_eq_of_lt (by omega) (by omega)]
  | n + 1, hn => by
    have ih := tv_tv h v n (by omega)
    have hn' : inB (n : Int) 0 7 = true := inB_iff.2 (by omega)
    have hm : inB ((t + n) % 8) 0 7 = true := inB_iff.2 (by omega)
    apply db_inj
    have e1 := tv_one hn' (tv t v)
    rw [show ((n : Int) + 1) % 8 = ((n + 1 : Nat) : Int) by omega] at e1
    rw [← e1, ih, (tv_lin (t := 1) rfl _ (tv t v)).2.1, tv_one hm, show ((t + n) % 8 + 1) % 8 = (t + ((n + 1 : Nat) : Int)) % 8 by omega]
theorem tv_add {t u : Int} (h : inB t 0 7 = true) (g : inB u 0 7 = true) (v : V4) : tv u (tv t v) = db (tv ((u + t) % 8) v) := by
  have g' := inB_iff.1 g
  have := tv_tv h v u.toNat (by omega)
  rw [show ((u.toNat : Nat) : Int) = u by omega] at this
  rw [this, Int.add_comm]
theorem fl_tv {t : Int} (h : inB t 0 7 = true) (v : V4) : fl true (tv t v) = tv ((8 - t) % 8) (fl true v) := by
  obtain ⟨a0, a1, a2, a3, a4, a5, a6, a7⟩ := tv_all v
  obtain ⟨b0, b1, b2, b3, b4, b5, b6, b7⟩ := tv_all (fl true v)
  rcases t8 h with rfl | rfl | rfl | rfl | rfl | rfl | rfl | rfl
  · rw [a0, show ((8 : Int) - 0) % 8 = 0 from rfl, b0]; apply V4.ext' <;> simp only [fl, db, cond_true] <;> omega
  · rw [a1, show ((8 : Int) - 1) % 8 = 7 from rfl, b7]; apply V4.ext' <;> simp only [fl, db, cond_true] <;> omega
  · rw [a2, show ((8 : Int) - 2) % 8 = 6 from rfl, b6]; apply V4.ext' <;> simp only [fl, db, cond_true] <;> omega
  · rw [a3, show ((8 : Int) - 3) % 8 = 5 from rfl, b5]; apply V4.ext' <;> simp only [fl, db, cond_true] <;> omega
  · rw [a4, show ((8 : Int) - 4) % 8 = 4 from rfl, b4]; apply V4.ext' <;> simp only [fl, db, cond_true] <;> omega
  · rw [a5, show ((8 : Int) - 5) % 8 = 3 from rfl, b3]; apply V4.ext' <;> simp only [fl, db, cond_true] <;> omega
  · rw [a6, show ((8 : Int) - 6) % 8 = 2 from rfl, b2]; apply V4.ext' <;> simp only [fl, db, cond_true] <;> omega
  · rw [a7, show ((8 : Int) - 7) % 8 = 1 from rfl, b1]; apply V4.ext' <;> simp only [fl, db, cond_true] <;> omega
theorem fl_fl (f g : Bool) (v : V4) : fl g (fl f v) = fl (f != g) v := by
  cases f <;> cases g <;> simp [fl]
theorem fl_lin (f : Bool) (v w : V4) : fl f (ad v w) = ad (fl f v) (fl f w) ∧ fl f (db v) = db (fl f v) := by
  cases f
  · exact ⟨rfl, rfl⟩
  · constructor <;> apply V4.ext' <;> simp only [fl, ad, db, cond_true] <;> omega
/-- Turned and flipped twice. -/
theorem tv_cmp {t u : Int} (h : inB t 0 7 = true) (g : inB u 0 7 = true) (f k : Bool) (v : V4) : tv u (fl k (tv t (fl f v))) = db (tv (cmpT t u k) (fl (f != k) v)) := by
  cases k with
  | false =>
    show tv u (tv t (fl f v)) = _
    rw [tv_add h g]
    cases f <;> rfl
  | true =>
    have h8 : inB ((8 - t) % 8) 0 7 = true := inB_iff.2 (by have := inB_iff.1 h; omega)
    rw [fl_tv h, tv_add h8 g, fl_fl, show (u + (8 - t) % 8) % 8 = cmpT t u true by unfold cmpT; simp only [cond_true]; omega]

/-! ### points and motions -/
structure PV (S : Nat) (p : P2) (v : V4) (M : Nat) : Prop where
  x : VB S p.x v.a v.b M
  y : VB S p.y v.c v.d M
theorem valP_pv {p : P2} (h : valP p = true) : ∃ v, PV 10 p v 134217728 := by
  unfold valP at h
  rw [Bool.and_eq_true] at h
  obtain ⟨A, B, h1⟩ := valid_vb h.1
  obtain ⟨C, D, h2⟩ := valid_vb h.2
  exact ⟨⟨A, B, C, D⟩, h1, h2⟩
theorem pv_flip {S M : Nat} {p : P2} {v : V4} (h : PV S p v M) (hM : M < 9223372036854775808) (f : Bool) : PV S (flipP f p) (fl f v) M := by
  cases f with
  | false => exact h
  | true => exact ⟨h.x, h.y.negF hM⟩
theorem pv_db {S M : Nat} {p : P2} {v : V4} (h : PV S p v M) : PV (S + 1) p (db v) (2 * M) := ⟨h.x.lift1, h.y.lift1⟩
/-- What a moved point is worth; both coordinates are in lowest form. -/
theorem pv_move {S M K : Nat} {p s : P2} {v w : V4} (t : Int) (f : Bool) (h : PV S p v M) (g : PV S s w K) (hS : S ≤ 999) (hM : 4 * M + 2 * K < 9223372036854775808) :
    PV (S + 1) (moveF t f s p) (ad (tv t (fl f v)) (db w)) (4 * M + 2 * K) ∧ lowB (moveF t f s p).x ∧ lowB (moveF t f s p).y := by
  have hf := pv_flip h (by omega) f
  obtain ⟨a, b⟩ := turn_vb t hf.x hf.y (by omega) (by omega)
  have c := pv_db g
  obtain ⟨k1, k2⟩ := (a.more (K := 4 * M) (by omega)).add c.x (by omega) hM
  obtain ⟨k3, k4⟩ := (b.more (K := 4 * M) (by omega)).add c.y (by omega) hM
  exact ⟨⟨k1, k3⟩, k2, k4⟩
theorem pv_uniq {S M K : Nat} {p q : P2} {v : V4} (h : PV S p v M) (g : PV S q v K) (hx : lowB p.x) (hy : lowB p.y) (gx : lowB q.x) (gy : lowB q.y) : p = q := by
  have e1 := h.x.v.uniq g.x.v hx gx
  have e2 := h.y.v.uniq g.y.v hy gy
  cases p; cases q
  simp only at e1 e2
  rw [e1, e2]
theorem redP_low {p : P2} (hx : lowB p.x) (hy : lowB p.y) : redP p = p := by
  unfold redP
  rw [red_fix hx, red_fix hy]
theorem valP_low {p : P2} (h : valP p = true) : lowB p.x ∧ lowB p.y := by
  unfold valP at h
  rw [Bool.and_eq_true] at h
  exact ⟨valid_low h.1, valid_low h.2⟩
theorem pv_same {S M K : Nat} {p : P2} {v w : V4} (h : PV S p v M) (g : PV S p w K) : v = w := by
  apply V4.ext'
  · rw [h.x.v.a, g.x.v.a]
  · rw [h.x.v.b, g.x.v.b]
  · rw [h.y.v.a, g.y.v.a]
  · rw [h.y.v.b, g.y.v.b]
end Go.Ev

/- The law of motions, for valid motions and points. -/
namespace Go.Ev

def mvO (m : M8) (p : P2) : Bool := ((inB m.t 0 7 && valP m.s) && valP p) && valP (redP (moveF m.t m.f m.s p))
def mvP (m : M8) (p : P2) : P2 := selP (mvO m p) (redP (moveF m.t m.f m.s p))
def cmO (a b : M8) : Bool := ((inB a.t 0 7 && valP a.s) && (inB b.t 0 7 && valP b.s)) && valP (redP (moveF b.t b.f b.s a.s))
def cmM (a b : M8) : M8 := ⟨cond (cmO a b) (cmpT a.t b.t b.f) 0, cond (cmO a b) (a.f != b.f) false, selP (cmO a b) (redP (moveF b.t b.f b.s a.s))⟩
def ivO (a : M8) : Bool := (inB a.t 0 7 && valP a.s) && valP (redP (invP a.t a.f a.s))
def ivM (a : M8) : M8 := ⟨cond (ivO a) (invT a.t a.f) 0, cond (ivO a) a.f false, selP (ivO a) (redP (invP a.t a.f a.s))⟩

theorem selP_true (p : P2) : selP true p = p := rfl
theorem cmpT_in {t u : Int} (k : Bool) : inB (cmpT t u k) 0 7 = true := by
  apply inB_iff.2
  unfold cmpT
  cases k <;> simp only [cond_true, cond_false] <;> omega
/-- A moved valid point. -/
theorem mv_val {m : M8} {p : P2} {v w : V4} {M : Nat} (hM : M ≤ 134217728) (hv : PV 10 p v M) (hw : PV 10 m.s w 134217728) :
    PV 11 (moveF m.t m.f m.s p) (ad (tv m.t (fl m.f v)) (db w)) 805306368 ∧ redP (moveF m.t m.f m.s p) = moveF m.t m.f m.s p ∧ lowB (moveF m.t m.f m.s p).x ∧ lowB (moveF m.t m.f m.s p).y := by
  have hv' : PV 10 p v 134217728 := ⟨hv.x.more hM, hv.y.more hM⟩
  obtain ⟨a, b, c⟩ := pv_move m.t m.f hv' hw (by decide) (by decide)
  exact ⟨a, redP_low b c, b, c⟩
theorem mvO_true {m : M8} {p : P2} (hm : m.valid = true) (hp : valP p = true) : mvO m p = valP (redP (moveF m.t m.f m.s p)) := by
  unfold mvO
  unfold M8.valid at hm
  rw [hm, hp]
  rfl
theorem mot_comp {a b : M8} {p : P2} (ha : a.valid = true) (hb : b.valid = true) (hp : valP p = true) (h1 : cmO a b = true) (h2 : mvO a p = true) :
    mvO b (mvP a p) = mvO (cmM a b) p ∧ mvP b (mvP a p) = mvP (cmM a b) p := by
  have ha' := ha
  have hb' := hb
  unfold M8.valid at ha' hb'
  rw [Bool.and_eq_true] at ha' hb'
  obtain ⟨v, hv⟩ := valP_pv hp
  obtain ⟨w, hw⟩ := valP_pv ha'.2
  obtain ⟨z, hz⟩ := valP_pv hb'.2
  obtain ⟨q1, q2, q3, q4⟩ := mv_val (m := a) (Nat.le_refl _) hv hw
  obtain ⟨c1, c2, c3, c4⟩ := mv_val (m := b) (p := a.s) (Nat.le_refl _) hw hz
  have eq : mvP a p = moveF a.t a.f a.s p := by unfold mvP; rw [h2, q2]; rfl
  have vq : valP (moveF a.t a.f a.s p) = true := by rw [mvO_true ha hp, q2] at h2; exact h2
  have vc : valP (moveF b.t b.f b.s a.s) = true := by
    unfold cmO at h1
    rw [Bool.and_eq_true, c2] at h1
    exact h1.2
  have ec : cmM a b = ⟨cmpT a.t b.t b.f, a.f != b.f, moveF b.t b.f b.s a.s⟩ := by unfold cmM; rw [h1, c2]; rfl
  have hc : (cmM a b).valid = true := by
    rw [ec]
    unfold M8.valid
    rw [show inB (cmpT a.t b.t b.f) 0 7 = true from cmpT_in _, vc]
    rfl
  obtain ⟨Q, hQ⟩ := valP_pv vq
  obtain ⟨C, hC⟩ := valP_pv vc
  have dQ := pv_same (pv_db hQ) q1
  have dC := pv_same (pv_db hC) c1
  obtain ⟨x1, x2, x3, x4⟩ := mv_val (m := b) (Nat.le_refl _) hQ hz
  obtain ⟨y1, y2, y3, y4⟩ := mv_val (m := ⟨cmpT a.t b.t b.f, a.f != b.f, moveF b.t b.f b.s a.s⟩) (Nat.le_refl _) hv hC
  simp only at y1 y2 y3 y4
  have ev : ad (tv b.t (fl b.f Q)) (db z) = ad (tv (cmpT a.t b.t b.f) (fl (a.f != b.f) v)) (db C) := by
    apply db_inj
    have e1 : db (tv b.t (fl b.f Q)) = ad (db (tv (cmpT a.t b.t b.f) (fl (a.f != b.f) v))) (db (tv b.t (fl b.f w))) := by
      rw [← (tv_lin hb'.1 (fl b.f Q) w).2.1, ← (fl_lin b.f Q w).2, dQ, (fl_lin b.f _ _).1, (tv_lin hb'.1 _ _).1, tv_cmp ha'.1 hb'.1, (fl_lin b.f w w).2, (tv_lin hb'.1 (fl b.f w) w).2.1]
    have e2 : db (ad (tv b.t (fl b.f Q)) (db z)) = ad (db (tv b.t (fl b.f Q))) (db (db z)) := by apply V4.ext' <;> simp only [ad, db] <;> omega
    have e3 : db (ad (tv (cmpT a.t b.t b.f) (fl (a.f != b.f) v)) (db C)) = ad (db (tv (cmpT a.t b.t b.f) (fl (a.f != b.f) v))) (db (db C)) := by apply V4.ext' <;> simp only [ad, db] <;> omega
    rw [e2, e3, e1, dC]
    apply V4.ext' <;> simp only [ad, db] <;> omega
  rw [ev] at x1
  have exy := pv_uniq x1 y1 x3 x4 y3 y4
  rw [eq]
  have o1 : mvO b (moveF a.t a.f a.s p) = valP (moveF b.t b.f b.s (moveF a.t a.f a.s p)) := by rw [mvO_true hb vq, x2]
  have o2 : mvO (cmM a b) p = valP (moveF (cmpT a.t b.t b.f) (a.f != b.f) (moveF b.t b.f b.s a.s) p) := by rw [mvO_true hc hp, ec]; simp only; rw [y2]
  have oo : mvO b (moveF a.t a.f a.s p) = mvO (cmM a b) p := by rw [o1, o2, exy]
  refine ⟨oo, ?_⟩
  unfold mvP
  rw [oo, x2, ec]
  simp only
  rw [y2, exy]
theorem pv_red {S M : Nat} {p : P2} {v : V4} (h : PV S p v M) (hS : S ≤ 1000) (hM : M < 9223372036854775808) : PV S (redP p) v M ∧ lowB (redP p).x ∧ lowB (redP p).y := by
  have ax := h.x.a
  have bx := h.x.b
  have ay := h.y.a
  have by_ := h.y.b
  obtain ⟨a1, a2⟩ := h.x.v.red (by omega) (by omega) (by omega)
  obtain ⟨b1, b2⟩ := h.y.v.red (by omega) (by omega) (by omega)
  exact ⟨⟨⟨a1, ax, bx⟩, ⟨b1, ay, by_⟩⟩, a2, b2⟩
theorem mot_inv {a : M8} {p : P2} (ha : a.valid = true) (hp : valP p = true) (h2 : mvO a p = true) (h3 : ivO a = true) :
    cmO a (ivM a) = true ∧ cmM a (ivM a) = m0 ∧ mvO (ivM a) (mvP a p) = true ∧ mvP (ivM a) (mvP a p) = p := by
  have ha' := ha
  unfold M8.valid at ha'
  rw [Bool.and_eq_true] at ha'
  obtain ⟨v, hv⟩ := valP_pv hp
  obtain ⟨w, hw⟩ := valP_pv ha'.2
  obtain ⟨q1, q2, q3, q4⟩ := mv_val (m := a) (Nat.le_refl _) hv hw
  have eq : mvP a p = moveF a.t a.f a.s p := by unfold mvP; rw [h2, q2]; rfl
  have vq : valP (moveF a.t a.f a.s p) = true := by rw [mvO_true ha hp, q2] at h2; exact h2
  obtain ⟨Q, hQ⟩ := valP_pv vq
  have dQ := pv_same (pv_db hQ) q1
  -- the inverse
  have vd : valP (redP (invP a.t a.f a.s)) = true := by
    unfold ivO at h3
    rw [Bool.and_eq_true] at h3
    exact h3.2
  have hdt := invT_in ha'.1 a.f
  have ed : ivM a = ⟨invT a.t a.f, a.f, redP (invP a.t a.f a.s)⟩ := by unfold ivM; rw [h3]; rfl
  have hd : (ivM a).valid = true := by
    rw [ed]
    unfold M8.valid
    rw [show inB (invT a.t a.f) 0 7 = true from hdt, vd]
    rfl
  have hf := pv_flip hw (by decide) a.f
  obtain ⟨t1, t2⟩ := turn_vb (invT a.t a.f) hf.x hf.y (by decide) (by decide)
  have hi : PV 11 (invP a.t a.f a.s) (mi (tv (invT a.t a.f) (fl a.f w))) 536870912 := ⟨t1.negF (by decide), t2.negF (by decide)⟩
  obtain ⟨r1, r2, r3⟩ := pv_red hi (by decide) (by decide)
  obtain ⟨D, hD⟩ := valP_pv vd
  have dD := pv_same (pv_db hD) r1
  generalize redP (invP a.t a.f a.s) = ds at *
  -- composed
  obtain ⟨c1, c2, c3, c4⟩ := mv_val (m := ⟨invT a.t a.f, a.f, ds⟩) (p := a.s) (Nat.le_refl _) hw hD
  simp only at c1 c2 c3 c4
  have ez : ad (tv (invT a.t a.f) (fl a.f w)) (db D) = ⟨0, 0, 0, 0⟩ := by
    rw [dD]
    apply V4.ext' <;> simp only [ad, mi] <;> omega
  rw [ez] at c1
  have hz : PV 11 ⟨z3, z3⟩ (⟨0, 0, 0, 0⟩ : V4) 0 := ⟨vb_zero, vb_zero⟩
  have ec0 := pv_uniq c1 hz c3 c4 (fun h => by have h1 : (0 : Int) > 0 := h.1; omega) (fun h => by have h1 : (0 : Int) > 0 := h.1; omega)
  have co : cmO a (ivM a) = true := by
    unfold cmO
    rw [ed]
    simp only
    rw [ha'.1, ha'.2, hdt, vd, c2, ec0]
    decide
  have cm : cmM a (ivM a) = m0 := by
    unfold cmM
    rw [co, ed]
    simp only [cond_true]
    rw [c2, ec0]
    have et : cmpT a.t (invT a.t a.f) a.f = 0 := by
      have := inB_iff.1 ha'.1
      unfold cmpT invT
      cases a.f <;> simp only [cond_true, cond_false] <;> omega
    rw [et]
    cases a.f <;> rfl
  -- back
  obtain ⟨b1, b2, b3, b4⟩ := mv_val (m := ⟨invT a.t a.f, a.f, ds⟩) (Nat.le_refl _) hQ hD
  simp only at b1 b2 b3 b4
  have et : cmpT a.t (invT a.t a.f) a.f = 0 := by
    have := inB_iff.1 ha'.1
    unfold cmpT invT
    cases a.f <;> simp only [cond_true, cond_false] <;> omega
  have ev : ad (tv (invT a.t a.f) (fl a.f Q)) (db D) = db v := by
    apply db_inj
    have e1 : db (tv (invT a.t a.f) (fl a.f Q)) = ad (db (tv 0 (fl (a.f != a.f) v))) (db (tv (invT a.t a.f) (fl a.f w))) := by
      rw [← (tv_lin hdt (fl a.f Q) w).2.1, ← (fl_lin a.f Q w).2, dQ, (fl_lin a.f _ _).1, (tv_lin hdt _ _).1, tv_cmp ha'.1 hdt, (fl_lin a.f w w).2, (tv_lin hdt (fl a.f w) w).2.1, et]
    have e2 : db (ad (tv (invT a.t a.f) (fl a.f Q)) (db D)) = ad (db (tv (invT a.t a.f) (fl a.f Q))) (db (db D)) := by apply V4.ext' <;> simp only [ad, db] <;> omega
    have e3 : fl (a.f != a.f) v = v := by cases a.f <;> rfl
    rw [e2, e1, dD, e3, (tv_all v).1]
    apply V4.ext' <;> simp only [ad, db, mi] <;> omega
  rw [ev] at b1
  obtain ⟨p1, p2⟩ := valP_low hp
  have eb := pv_uniq b1 (pv_db hv) b3 b4 p1 p2
  have bo : mvO (ivM a) (moveF a.t a.f a.s p) = true := by
    rw [mvO_true hd vq, ed]
    simp only
    rw [b2, eb]
    exact hp
  refine ⟨co, cm, by rw [eq]; exact bo, ?_⟩
  rw [eq]
  unfold mvP
  rw [bo, ed]
  simp only
  rw [b2, eb]
  rfl

/-! ### the law's own course -/
def eqP2 (p q : P2) : Bool := eqN p.x q.x && (eqN p.y q.y && true)
def eqM8 (m n : M8) : Bool := m.t == n.t && (m.f == n.f && (eqN m.s.x n.s.x && (eqN m.s.y n.s.y && true)))
def mT20 (a : M8) (p : P2) (q : P2) (d : M8) : Option AV := cond (cmO a d) (cond (eqM8 (cmM a d) m0) (cond (mvO d q) (some (bv (eqP2 (mvP d q) p))) no) no) no
def mT17 (a : M8) (p : P2) (q : P2) (two : Bool) : Option AV := cond (!ivO a) (some (bv true)) (cond (!two) (some (bv true)) (mT20 a p q (ivM a)))
def mT7 (a b : M8) (p : P2) : Option AV := cond (!(mvO a p == mvO a p)) no (cond (cmO a b) (cond (mvO a p)
  (cond (!(mvO b (mvP a p) == mvO (cmM a b) p)) no (cond (!eqP2 (mvP b (mvP a p)) (mvP (cmM a b) p)) no (mT17 a p (mvP a p) (mvO a p)))) (mT17 a p (mvP a p) (mvO a p))) (mT17 a p (mvP a p) (mvO a p)))
def mT5 (a b : M8) (p : P2) : Option AV := cond (!a.valid) (some (bv true)) (cond (!b.valid) (some (bv true)) (cond (!valP p) (some (bv true)) (mT7 a b p)))
theorem eqP2_self (p : P2) : eqP2 p p = true := by simp [eqP2, eqN]
theorem motions_ok (a b : M8) (p : P2) : mT5 a b p = some (bv true) := by
  unfold mT5
  cases ha : a.valid with
  | false => rfl
  | true =>
    cases hb : b.valid with
    | false => rfl
    | true =>
      cases hp : valP p with
      | false => rfl
      | true =>
        have t17 : mT17 a p (mvP a p) (mvO a p) = some (bv true) := by
          unfold mT17
          cases h3 : ivO a with
          | false => rfl
          | true =>
            cases h2 : mvO a p with
            | false => rfl
            | true =>
              obtain ⟨k1, k2, k3, k4⟩ := mot_inv ha hp h2 h3
              unfold mT20
              rw [k1, k2, k3, k4, eqP2_self]
              rfl
        simp only [Bool.not_true, cond_false]
        unfold mT7
        rw [show (!(mvO a p == mvO a p)) = false by simp]
        simp only [cond_false]
        rw [t17]
        cases h1 : cmO a b with
        | false => rfl
        | true =>
          cases h2 : mvO a p with
          | false => rfl
          | true =>
            obtain ⟨k1, k2⟩ := mot_comp ha hb hp h1 h2
            rw [k1, k2, eqP2_self]
            simp
end Go.Ev

/- Reflections as maps of whole numbers. -/
namespace Go.Ev

/-- A normal in numbers. -/
structure Nv (n : P2) (c1 e1 c2 e2 na nb : Int) (E : Nat) : Prop where
  eq : n = ⟨⟨c1, e1, 0⟩, ⟨c2, e2, 0⟩⟩
  h1 : c1.natAbs ≤ 1
  h2 : e1.natAbs ≤ 1
  h3 : c2.natAbs ≤ 1
  h4 : e2.natAbs ≤ 1
  q : dotF n n = ⟨na, nb, 0⟩
  h5 : na.natAbs ≤ 4
  h6 : nb.natAbs ≤ 4
  o : dvOdd ⟨na, nb, 0⟩ = 1
  z : divN ⟨na, nb, 0⟩ ≠ 0
  e : dvE ⟨na, nb, 0⟩ = E
  l : E ≤ 3
theorem nv_all {d : Int} (h : inB d 0 7 = true) : (d = 0 ∧ Nv (nrm d) 0 0 1 0 1 0 0) ∨ (d = 1 ∧ Nv (nrm d) 1 (-1) 1 0 4 (-2) 3) ∨ (d = 2 ∧ Nv (nrm d) (-1) 0 1 0 2 0 2) ∨ (d = 3 ∧ Nv (nrm d) (-1) 0 (-1) 1 4 (-2) 3) ∨
    (d = 4 ∧ Nv (nrm d) (-1) 0 0 0 1 0 0) ∨ (d = 5 ∧ Nv (nrm d) (-1) 0 1 (-1) 4 (-2) 3) ∨ (d = 6 ∧ Nv (nrm d) (-1) 0 (-1) 0 2 0 2) ∨ (d = 7 ∧ Nv (nrm d) 1 (-1) (-1) 0 4 (-2) 3) := by
  rcases t8 h with rfl | rfl | rfl | rfl | rfl | rfl | rfl | rfl
  · exact .inl ⟨rfl, by kernel_rfl, by decide, by decide, by decide, by decide, by kernel_rfl, by decide, by decide, by decide, by decide, by decide, by decide⟩
  · exact .inr (.inl ⟨rfl, by kernel_rfl, by decide, by decide, by decide, by decide, by kernel_rfl, by decide, by decide, by decide, by decide, by decide, by decide⟩)
  · exact .inr (.inr (.inl ⟨rfl, by kernel_rfl, by decide, by decide, by decide, by decide, by kernel_rfl, by decide, by decide, by decide, by decide, by decide, by decide⟩))
  · exact .inr (.inr (.inr (.inl ⟨rfl, by kernel_rfl, by decide, by decide, by decide, by decide, by kernel_rfl, by decide, by decide, by decide, by decide, by decide, by decide⟩)))
  · exact .inr (.inr (.inr (.inr (.inl ⟨rfl, by kernel_rfl, by decide, by decide, by decide, by decide, by kernel_rfl, by decide, by decide, by decide, by decide, by decide, by decide⟩))))
  · exact .inr (.inr (.inr (.inr (.inr (.inl ⟨rfl, by kernel_rfl, by decide, by decide, by decide, by decide, by kernel_rfl, by decide, by decide, by decide, by decide, by decide, by decide⟩)))))
  · exact .inr (.inr (.inr (.inr (.inr (.inr (.inl ⟨rfl, by kernel_rfl, by decide, by decide, by decide, by decide, by kernel_rfl, by decide, by decide, by decide, by decide, by decide, by decide⟩))))))
  · exact .inr (.inr (.inr (.inr (.inr (.inr (.inr ⟨rfl, by kernel_rfl, by decide, by decide, by decide, by decide, by kernel_rfl, by decide, by decide, by decide, by decide, by decide, by decide⟩))))))
/-- What a line's offset less the scalar product is worth. -/
def tA (c1 e1 c2 e2 O1 : Int) (v : V4) : Int := O1 - (c1 * v.a + 2 * e1 * v.b + (c2 * v.c + 2 * e2 * v.d))
def tB (c1 e1 c2 e2 O2 : Int) (v : V4) : Int := O2 - (c1 * v.b + e1 * v.a + (c2 * v.d + e2 * v.c))
theorem dot_vb {n p : P2} {c1 e1 c2 e2 na nb : Int} {E : Nat} {v : V4} (hn : Nv n c1 e1 c2 e2 na nb E) (hv : PV 10 p v 134217728) :
    VB 10 (dotF n p) (c1 * v.a + 2 * e1 * v.b + (c2 * v.c + 2 * e2 * v.d)) (c1 * v.b + e1 * v.a + (c2 * v.d + e2 * v.c)) 805306368 ∧ lowB (dotF n p) := by
  obtain ⟨m1, _⟩ := VB.vmul (Val.mk0 c1 e1) hn.h1 hn.h2 hv.x (by decide) (by decide)
  obtain ⟨m2, _⟩ := VB.vmul (Val.mk0 c2 e2) hn.h3 hn.h4 hv.y (by decide) (by decide)
  obtain ⟨a1, a2⟩ := m1.add m2 (by decide) (by decide)
  rw [hn.eq]
  exact ⟨a1, a2⟩
/-- The reflected point's value. -/
def rv (c1 e1 c2 e2 Q1 Q2 : Int) (E : Nat) (v : V4) : V4 :=
  ⟨v.a * 2 ^ E + (c1 * (Q1 + Q1) + 2 * e1 * (Q2 + Q2)), v.b * 2 ^ E + (c1 * (Q2 + Q2) + e1 * (Q1 + Q1)), v.c * 2 ^ E + (c2 * (Q1 + Q1) + 2 * e2 * (Q2 + Q2)), v.d * 2 ^ E + (c2 * (Q2 + Q2) + e2 * (Q1 + Q1))⟩
theorem lift_vb {S E : Nat} {x : N3} {A B : Int} {M : Nat} (h : VB S x A B M) (hE : E ≤ 3) : VB (S + E) x (A * 2 ^ E) (B * 2 ^ E) (8 * M) := by
  have h1 := h.a
  have h2 := h.b
  refine ⟨h.v.lift E, ?_, ?_⟩ <;> clear h <;> rcases pow_le8 hE with e | e | e | e <;> rw [e] <;> omega
theorem rfl_val {n p : P2} {off : N3} {c1 e1 c2 e2 na nb O1 O2 : Int} {E : Nat} {v : V4} (hn : Nv n c1 e1 c2 e2 na nb E) (hv : PV 10 p v 134217728) (ho : VB 10 off O1 O2 134217728) :
    PV (10 + E) (rflI n off p) (rv c1 e1 c2 e2 (tA c1 e1 c2 e2 O1 v * na - 2 * tB c1 e1 c2 e2 O2 v * nb) (tB c1 e1 c2 e2 O2 v * na - tA c1 e1 c2 e2 O1 v * nb) E v) 1000000000000 ∧ lowB (rflI n off p).x ∧ lowB (rflI n off p).y := by
  obtain ⟨dv, _⟩ := dot_vb hn hv
  obtain ⟨v1, _⟩ := ho.sub dv (by decide) (by decide)
  have hl := hn.l
  have hSE : 10 + E ≤ 1000 := by omega
  have ho1 := hn.o
  have hz := hn.z
  have he := hn.e
  have hq := hn.q
  obtain ⟨_, _, w1, _⟩ := v1.div (y := dotF n n) (E := E) (by rw [hq]; exact hn.h5) (by rw [hq]; exact hn.h6) (by rw [hq]) (by rw [hq]; exact .inl ho1) (by rw [hq]; exact hz) (by rw [hq]; exact he) hSE (by decide) (by decide)
  rw [hq, ho1] at w1
  simp only [Int.one_mul] at w1
  change VB (10 + E) _ (tA c1 e1 c2 e2 O1 v * na - 2 * tB c1 e1 c2 e2 O2 v * nb) (tB c1 e1 c2 e2 O2 v * na - tA c1 e1 c2 e2 O1 v * nb) _ at w1
  have hr : rflI n off p = ⟨addF p.x (mulF ⟨c1, e1, 0⟩ (addF (dvF (subF off (dotF n p)) ⟨na, nb, 0⟩) (dvF (subF off (dotF n p)) ⟨na, nb, 0⟩))), addF p.y (mulF ⟨c2, e2, 0⟩ (addF (dvF (subF off (dotF n p)) ⟨na, nb, 0⟩) (dvF (subF off (dotF n p)) ⟨na, nb, 0⟩)))⟩ := by
    unfold rflI addP timesF
    rw [hq]
    rw [show n.x = ⟨c1, e1, 0⟩ by rw [hn.eq], show n.y = ⟨c2, e2, 0⟩ by rw [hn.eq]]
  rw [hr]
  clear hr
  generalize dvF (subF off (dotF n p)) ⟨na, nb, 0⟩ = q at *
  generalize tA c1 e1 c2 e2 O1 v * na - 2 * tB c1 e1 c2 e2 O2 v * nb = Q1 at *
  generalize tB c1 e1 c2 e2 O2 v * na - tA c1 e1 c2 e2 O1 v * nb = Q2 at *
  obtain ⟨t1, _⟩ := w1.add w1 hSE (by decide)
  obtain ⟨u1, _⟩ := VB.vmul (Val.mk0 c1 e1) hn.h1 hn.h2 t1 hSE (by decide)
  obtain ⟨u2, _⟩ := VB.vmul (Val.mk0 c2 e2) hn.h3 hn.h4 t1 hSE (by decide)
  obtain ⟨r1, r2⟩ := (lift_vb hv.x hl).add u1 hSE (by decide)
  obtain ⟨r3, r4⟩ := (lift_vb hv.y hl).add u2 hSE (by decide)
  have b1 := r1.more (K := 1000000000000) (by decide)
  have b2 := r3.more (K := 1000000000000) (by decide)
  exact ⟨⟨b1, b2⟩, r2, r4⟩
theorem pv_zero {S M : Nat} : PV S zP ⟨0, 0, 0, 0⟩ M := ⟨vb_zero, vb_zero⟩
def sc (k : Int) (v : V4) : V4 := ⟨v.a * k, v.b * k, v.c * k, v.d * k⟩
theorem pv_sc {S E M : Nat} {p : P2} {v : V4} (h : PV S p v M) (hE : E ≤ 3) : PV (S + E) p (sc (2 ^ E) v) (8 * M) := ⟨lift_vb h.x hE, lift_vb h.y hE⟩
/-- THE REFLECTION AS A MOTION moves a point as the reflection does; itself it moves back; and no point of its line. -/
theorem refl_move {d : Int} {off : N3} {p : P2} (hd : inB d 0 7 = true) (ho : validB off = true) (hp : valP p = true) (hs : valP (rflI (nrm d) off zP) = true) :
    moveF d true (rflI (nrm d) off zP) p = rflI (nrm d) off p ∧ moveF d true (rflI (nrm d) off zP) (rflI (nrm d) off zP) = zP ∧ (sgF (subF (dotF (nrm d) p) off) = 0 → rflI (nrm d) off p = p) ∧
    (lowB (rflI (nrm d) off p).x ∧ lowB (rflI (nrm d) off p).y) := by
  obtain ⟨O1, O2, vo⟩ := valid_vb ho
  obtain ⟨v, hv⟩ := valP_pv hp
  obtain ⟨W, hW⟩ := valP_pv hs
  have main : ∀ {c1 e1 c2 e2 na nb : Int} {E : Nat}, Nv (nrm d) c1 e1 c2 e2 na nb E →
      (∀ x : V4, sc (2 ^ E) (tv d (fl true v)) = x → ∀ w0 : V4, rv c1 e1 c2 e2 (tA c1 e1 c2 e2 O1 ⟨0, 0, 0, 0⟩ * na - 2 * tB c1 e1 c2 e2 O2 ⟨0, 0, 0, 0⟩ * nb) (tB c1 e1 c2 e2 O2 ⟨0, 0, 0, 0⟩ * na - tA c1 e1 c2 e2 O1 ⟨0, 0, 0, 0⟩ * nb) E ⟨0, 0, 0, 0⟩ = w0 →
        ad x (db w0) = db (rv c1 e1 c2 e2 (tA c1 e1 c2 e2 O1 v * na - 2 * tB c1 e1 c2 e2 O2 v * nb) (tB c1 e1 c2 e2 O2 v * na - tA c1 e1 c2 e2 O1 v * nb) E v) ∧ ad (tv d (fl true w0)) (db w0) = ⟨0, 0, 0, 0⟩) →
      moveF d true (rflI (nrm d) off zP) p = rflI (nrm d) off p ∧ moveF d true (rflI (nrm d) off zP) (rflI (nrm d) off zP) = zP ∧ (sgF (subF (dotF (nrm d) p) off) = 0 → rflI (nrm d) off p = p) ∧
      (lowB (rflI (nrm d) off p).x ∧ lowB (rflI (nrm d) off p).y) := by
    intro c1 e1 c2 e2 na nb E hn hall
    obtain ⟨r1, r2, r3⟩ := rfl_val hn hv vo
    obtain ⟨z1, z2, z3⟩ := rfl_val hn (pv_zero (M := 134217728)) vo
    have hl := hn.l
    have eW := pv_same (pv_sc hW hl) z1
    obtain ⟨g1, g2⟩ := hall _ rfl _ rfl
    rw [← eW] at g1 g2
    obtain ⟨m1, _, m3, m4⟩ := mv_val (m := ⟨d, true, rflI (nrm d) off zP⟩) (Nat.le_refl _) hv hW
    obtain ⟨k1, _, k3, k4⟩ := mv_val (m := ⟨d, true, rflI (nrm d) off zP⟩) (p := rflI (nrm d) off zP) (Nat.le_refl _) hW hW
    simp only at m1 m3 m4 k1 k3 k4
    have hE := pow_le8 hl
    refine ⟨?_, ?_, fun hz => ?_, r2, r3⟩
    · have a1 := pv_sc m1 hl
      have a2 := pv_db r1
      have e : sc (2 ^ E) (ad (tv d (fl true v)) (db W)) = ad (sc (2 ^ E) (tv d (fl true v))) (db (sc (2 ^ E) W)) := by
        apply V4.ext' <;> simp only [sc, ad, db] <;> rcases hE with e | e | e | e <;> rw [e] <;> omega
      rw [e, g1] at a1
      rw [show 11 + E = 10 + E + 1 by omega] at a1
      exact pv_uniq a1 a2 m3 m4 r2 r3
    · have e : ad (tv d (fl true W)) (db W) = ⟨0, 0, 0, 0⟩ := by
        have e2 : sc (2 ^ E) (ad (tv d (fl true W)) (db W)) = ⟨0, 0, 0, 0⟩ := by
          have e3 : tv d (fl true (sc (2 ^ E) W)) = sc (2 ^ E) (tv d (fl true W)) := by
            have t8' := t8 hd
            obtain ⟨a0, a1, a2, a3, a4, a5, a6, a7⟩ := tv_all (fl true (sc (2 ^ E) W))
            obtain ⟨b0, b1, b2, b3, b4, b5, b6, b7⟩ := tv_all (fl true W)
            clear hall g1 g2 r1 z1 m1 k1 hn eW
            rcases t8' with rfl | rfl | rfl | rfl | rfl | rfl | rfl | rfl
            · rw [a0, b0]; apply V4.ext' <;> simp only [sc, fl, db, cond_true] <;> rcases hE with e | e | e | e <;> rw [e] <;> omega
            · rw [a1, b1]; apply V4.ext' <;> simp only [sc, fl, db, cond_true] <;> rcases hE with e | e | e | e <;> rw [e] <;> omega
            · rw [a2, b2]; apply V4.ext' <;> simp only [sc, fl, db, cond_true] <;> rcases hE with e | e | e | e <;> rw [e] <;> omega
            · rw [a3, b3]; apply V4.ext' <;> simp only [sc, fl, db, cond_true] <;> rcases hE with e | e | e | e <;> rw [e] <;> omega
            · rw [a4, b4]; apply V4.ext' <;> simp only [sc, fl, db, cond_true] <;> rcases hE with e | e | e | e <;> rw [e] <;> omega
            · rw [a5, b5]; apply V4.ext' <;> simp only [sc, fl, db, cond_true] <;> rcases hE with e | e | e | e <;> rw [e] <;> omega
            · rw [a6, b6]; apply V4.ext' <;> simp only [sc, fl, db, cond_true] <;> rcases hE with e | e | e | e <;> rw [e] <;> omega
            · rw [a7, b7]; apply V4.ext' <;> simp only [sc, fl, db, cond_true] <;> rcases hE with e | e | e | e <;> rw [e] <;> omega
          rw [e3] at g2
          rw [← g2]
          apply V4.ext' <;> simp only [sc, ad, db] <;> rcases hE with e | e | e | e <;> rw [e] <;> omega
        simp only [sc, V4.mk.injEq] at e2
        rcases hE with e | e | e | e <;> rw [e] at e2 <;> (apply V4.ext' <;> simp only <;> omega)
      rw [e] at k1
      exact pv_uniq k1 (pv_zero (M := 0)) k3 k4 (fun h => by have h1 : (0 : Int) > 0 := h.1; omega) (fun h => by have h1 : (0 : Int) > 0 := h.1; omega)
    · obtain ⟨dv, _⟩ := dot_vb hn hv
      have s1 := (dv.sub vo (by decide) (by decide)).1.v.sg
      rw [hz] at s1
      obtain ⟨q1, q2⟩ := sgZ_eq_zero s1.symm
      have t1 : tA c1 e1 c2 e2 O1 v = 0 := by unfold tA; omega
      have t2 : tB c1 e1 c2 e2 O2 v = 0 := by unfold tB; omega
      rw [t1, t2] at r1
      have e : rv c1 e1 c2 e2 (0 * na - 2 * 0 * nb) (0 * na - 0 * nb) E v = sc (2 ^ E) v := by simp [rv, sc]
      rw [e] at r1
      obtain ⟨p1, p2⟩ := valP_low hp
      exact pv_uniq r1 (pv_sc hv hl) r2 r3 p1 p2
  rcases nv_all hd with ⟨e, hn⟩ | ⟨e, hn⟩ | ⟨e, hn⟩ | ⟨e, hn⟩ | ⟨e, hn⟩ | ⟨e, hn⟩ | ⟨e, hn⟩ | ⟨e, hn⟩
  · refine main hn fun x hx w0 hw0 => ?_
    subst hx hw0 e
    rw [(tv_all _).1, (tv_all _).1]
    clear main hn hv hW vo hs hp ho
    constructor <;> apply V4.ext' <;> simp only [ad, sc, db, rv, tA, tB, fl, cond_true] <;> omega
  · refine main hn fun x hx w0 hw0 => ?_
    subst hx hw0 e
    rw [(tv_all _).2.1, (tv_all _).2.1]
    clear main hn hv hW vo hs hp ho
    constructor <;> apply V4.ext' <;> simp only [ad, sc, db, rv, tA, tB, fl, cond_true] <;> omega
  · refine main hn fun x hx w0 hw0 => ?_
    subst hx hw0 e
    rw [(tv_all _).2.2.1, (tv_all _).2.2.1]
    clear main hn hv hW vo hs hp ho
    constructor <;> apply V4.ext' <;> simp only [ad, sc, db, rv, tA, tB, fl, cond_true] <;> omega
  · refine main hn fun x hx w0 hw0 => ?_
    subst hx hw0 e
    rw [(tv_all _).2.2.2.1, (tv_all _).2.2.2.1]
    clear main hn hv hW vo hs hp ho
    constructor <;> apply V4.ext' <;> simp only [ad, sc, db, rv, tA, tB, fl, cond_true] <;> omega
  · refine main hn fun x hx w0 hw0 => ?_
    subst hx hw0 e
    rw [(tv_all _).2.2.2.2.1, (tv_all _).2.2.2.2.1]
    clear main hn hv hW vo hs hp ho
    constructor <;> apply V4.ext' <;> simp only [ad, sc, db, rv, tA, tB, fl, cond_true] <;> omega
  · refine main hn fun x hx w0 hw0 => ?_
    subst hx hw0 e
    rw [(tv_all _).2.2.2.2.2.1, (tv_all _).2.2.2.2.2.1]
    clear main hn hv hW vo hs hp ho
    constructor <;> apply V4.ext' <;> simp only [ad, sc, db, rv, tA, tB, fl, cond_true] <;> omega
  · refine main hn fun x hx w0 hw0 => ?_
    subst hx hw0 e
    rw [(tv_all _).2.2.2.2.2.2.1, (tv_all _).2.2.2.2.2.2.1]
    clear main hn hv hW vo hs hp ho
    constructor <;> apply V4.ext' <;> simp only [ad, sc, db, rv, tA, tB, fl, cond_true] <;> omega
  · refine main hn fun x hx w0 hw0 => ?_
    subst hx hw0 e
    rw [(tv_all _).2.2.2.2.2.2.2, (tv_all _).2.2.2.2.2.2.2]
    clear main hn hv hW vo hs hp ho
    constructor <;> apply V4.ext' <;> simp only [ad, sc, db, rv, tA, tB, fl, cond_true] <;> omega
end Go.Ev

/- Lines drawn; the law of reflections. -/
namespace Go.Ev

structure Ln where
  d : Int
  o : N3
def Ln.av (l : Ln) : AV := .agg [iv l.d, iv l.o.a, iv l.o.b, iv l.o.k]
def Ln.valid (l : Ln) : Bool := inB l.d 0 7 && validB l.o
def lineV (s : Src) : Ln × Src := (⟨(pickV 8 s).1, (drawV (pickV 8 s).2).1⟩, (drawV (pickV 8 s).2).2)
def LF (s : Src) : Option AV := cond (pB 2 s.p) (cond (pB 18 (pickV 8 s).2.p) (some (outS (lineV s).1.av (lineV s).2)) none) none
theorem line_on {s : Src} {k : Int} (h : pB k s.p = true) (hk : 20 ≤ k) : LF s = some (outS (lineV s).1.av (lineV s).2) ∧ (lineV s).1.valid = true ∧ 0 ≤ (lineV s).2.p ∧ (lineV s).2.p ≤ s.p + 20 := by
  have h1 := pick_on 8 h (by omega)
  have p1 := pB_on h h1 (by omega)
  obtain ⟨_, v, h2⟩ := drawV_on p1 (by omega)
  refine ⟨?_, ?_, ?_, ?_⟩
  · unfold LF
    rw [pB_less h (by omega), pB_less p1 (by omega)]
    rfl
  · unfold Ln.valid lineV
    have := pick_in (s := s) (m := 8) (by decide)
    rw [v, show inB (pickV 8 s).1 0 7 = true from inB_iff.2 (by omega)]
    rfl
  · show 0 ≤ (drawV (pickV 8 s).2).2.p
    omega
  · show (drawV (pickV 8 s).2).2.p ≤ s.p + 20
    omega
def l3d : List Int := [-1, 8, 15]
def KF1 (l : Ln) (s : Src) : Option AV := cond (pB 2 s.p && Nat.ble 1 3) (some (outS (⟨l3d.getD (pickV 3 s).1.toNat 0, l.o⟩ : Ln).av (pickV 3 s).2)) none
noncomputable def KF2 (l : Ln) (s : Src) : Option AV := cond (pB 22 s.p) (some (outS (⟨l.d, (bentV s).1⟩ : Ln).av (bentV s).2)) none
noncomputable def KF0 (l : Ln) (s : Src) : Option AV := cond (pB 2 s.p) (cond ((pickV 16 s).1 == 0) (KF1 l (pickV 16 s).2) (cond ((pickV 16 s).1 == 1) (KF2 l (pickV 16 s).2) (some (outS l.av (pickV 16 s).2)))) none
noncomputable def KF (s : Src) : Option AV := cond (pB 20 s.p) (KF0 (lineV s).1 (lineV s).2) none
theorem bentL_dr : Dr 44 KF Ln.av (fun _ => True) := fun s h => by
  obtain ⟨_, _, h1⟩ := line_on h (by decide)
  have p1 := pB_on h h1 (by decide)
  have h2 := pick_on 16 p1 (by decide)
  have p2 := pB_on p1 h2 (by decide)
  have h3 := pick_on 3 p2 (by decide)
  obtain ⟨_, h4, _⟩ := bent_dr.spec z3 (pB_less (l := 22) p2 (by decide))
  change 0 ≤ (bentV (pickV 16 (lineV s).2).2).2.p ∧ (bentV (pickV 16 (lineV s).2).2).2.p ≤ _ at h4
  unfold KF KF0 KF1 KF2
  rw [pB_less h (by decide), pB_less p1 (by decide), pB_less (k := 44 - 20 - 2) (l := 2) p2 (by decide), pB_less (l := 22) p2 (by decide)]
  simp only [cond_true]
  cases (pickV 16 (lineV s).2).1 == 0 with
  | true => (refine ⟨⟨_, (lineV s).1.o⟩, _, rfl, ⟨?_, ?_⟩, trivial⟩ <;> (try simp only) <;> omega)
  | false =>
    simp only [cond_false]
    cases (pickV 16 (lineV s).2).1 == 1 with
    | true => (refine ⟨⟨(lineV s).1.d, (bentV (pickV 16 (lineV s).2).2).1⟩, (bentV (pickV 16 (lineV s).2).2).2, rfl, ⟨?_, ?_⟩, trivial⟩ <;> omega)
    | false => exact ⟨_, _, rfl, ⟨by omega, by omega⟩, trivial⟩
def ln0 : Ln := ⟨0, z3⟩
noncomputable def bentLV (s : Src) : Ln × Src := bentL_dr.get ln0 s
noncomputable def drL (s : Src) : Ln := (bentLV s).1

/-! ### the sign as the reference computes it -/
def sgS (a b : Int) : Int := cond (a == 0 && b == 0) 0 (cond (decide (a ≥ 0) && decide (b ≥ 0)) 1 (cond (decide (a ≤ 0) && decide (b ≤ 0)) (-1) (cond (decide (a * a < 2 * (b * b)) == decide (b > 0)) 1 (-1))))
theorem sgS_eq (a b : Int) : sgS a b = sgZ a b := by
  unfold sgS
  rcases sgZ_cases a b with ⟨h, e⟩ | ⟨h, e⟩ | ⟨rfl, rfl, e⟩
  · rw [e]
    have hl : decide (a * a < 2 * (b * b)) = false := by simp; omega
    rw [hl]
    have hb := sq_nonneg b
    rcases Int.lt_trichotomy a 0 with ha | ha | ha
    · rw [Int.sign_eq_neg_one_of_neg ha]
      have e1 : (a == 0) = false := by simp; omega
      have e2 : decide (a ≥ 0) = false := by simp; omega
      have e3 : decide (a ≤ 0) = true := by simp; omega
      rw [e1, e2, e3]
      by_cases hb0 : b ≤ 0
      · have e4 : decide (b ≤ 0) = true := by simpa using hb0
        rw [e4]; rfl
      · have e4 : decide (b ≤ 0) = false := by simp; omega
        have e5 : decide (b > 0) = true := by simp; omega
        rw [e4, e5]; rfl
    · subst ha; omega
    · rw [Int.sign_eq_one_of_pos ha]
      have e1 : (a == 0) = false := by simp; omega
      have e2 : decide (a ≥ 0) = true := by simp; omega
      have e3 : decide (a ≤ 0) = false := by simp; omega
      rw [e1, e2, e3]
      by_cases hb0 : b ≥ 0
      · have e4 : decide (b ≥ 0) = true := by simpa using hb0
        rw [e4]; rfl
      · have e4 : decide (b ≥ 0) = false := by simp; omega
        have e5 : decide (b > 0) = false := by simp; omega
        rw [e4, e5]; rfl
  · rw [e]
    have hl : decide (a * a < 2 * (b * b)) = true := by simpa using h
    rw [hl]
    have ha := sq_nonneg a
    rcases Int.lt_trichotomy b 0 with hb | hb | hb
    · rw [Int.sign_eq_neg_one_of_neg hb]
      have e1 : (b == 0) = false := by simp; omega
      have e2 : decide (b ≥ 0) = false := by simp; omega
      have e3 : decide (b ≤ 0) = true := by simp; omega
      have e5 : decide (b > 0) = false := by simp; omega
      rw [e1, e2, e3, e5]
      cases (a == 0) <;> cases decide (a ≥ 0) <;> cases decide (a ≤ 0) <;> rfl
    · subst hb; omega
    · rw [Int.sign_eq_one_of_pos hb]
      have e1 : (b == 0) = false := by simp; omega
      have e2 : decide (b ≥ 0) = true := by simp; omega
      have e3 : decide (b ≤ 0) = false := by simp; omega
      have e5 : decide (b > 0) = true := by simp; omega
      rw [e1, e2, e3, e5]
      cases (a == 0) <;> cases decide (a ≥ 0) <;> cases decide (a ≤ 0) <;> rfl
  · rfl

/-! ### the law -/
def rfZ (l : Ln) : P2 := rflI (nrm l.d) l.o zP
def rfO (l : Ln) : Bool := l.valid && valP (redP (rfZ l))
def rfM (l : Ln) : M8 := ⟨cond (rfO l) l.d 0, cond (rfO l) true false, selP (rfO l) (redP (rfZ l))⟩
def rpO (l : Ln) (p : P2) : Bool := (l.valid && valP p) && valP (redP (rflI (nrm l.d) l.o p))
def rpP (l : Ln) (p : P2) : P2 := selP (rpO l p) (redP (rflI (nrm l.d) l.o p))
def soV (l : Ln) (p : P2) : Int := cond (l.valid && valP p) (sgF (subF (dotF (nrm l.d) p) l.o)) 0
def yes : Option AV := some (bv true)
def fT9 (l : Ln) (m : M8) (p : P2) : Option AV := cond (mvO m p == rpO l p) (cond (eqP2 (mvP m p) (rpP l p)) (cond (cmO m m) (cond (eqM8 (cmM m m) m0)
  (cond (soV l p != 0) yes (cond (!mvO m p) yes (some (bv (eqP2 (mvP m p) p))))) no) no) no) no
def fT7 (l : Ln) (m : M8) (ok known : Bool) (p : P2) : Option AV := cond (!ok) (some (bv (ok == known))) (cond (!valP p) (some (bv (ok == known))) (fT9 l m p))
theorem rfl_low {l : Ln} {p : P2} (hl : l.valid = true) (hp : valP p = true ∨ p = zP) : lowB (rflI (nrm l.d) l.o p).x ∧ lowB (rflI (nrm l.d) l.o p).y := by
  unfold Ln.valid at hl
  rw [Bool.and_eq_true] at hl
  obtain ⟨O1, O2, vo⟩ := valid_vb hl.2
  obtain ⟨v, hv⟩ : ∃ v, PV 10 p v 134217728 := by
    rcases hp with hp | rfl
    · exact valP_pv hp
    · exact ⟨_, pv_zero⟩
  rcases nv_all hl.1 with ⟨_, hn⟩ | ⟨_, hn⟩ | ⟨_, hn⟩ | ⟨_, hn⟩ | ⟨_, hn⟩ | ⟨_, hn⟩ | ⟨_, hn⟩ | ⟨_, hn⟩ <;> exact (rfl_val hn hv vo).2
theorem refls_ok (l : Ln) (p : P2) : fT7 l (rfM l) (rfO l) (rfO l) p = yes := by
  unfold fT7
  have hs : (rfO l == rfO l) = true := by simp
  rw [hs]
  cases ho : rfO l with
  | false => rfl
  | true =>
    cases hp : valP p with
    | false => rfl
    | true =>
      simp only [Bool.not_true, cond_false]
      have ho' := ho
      unfold rfO at ho'
      rw [Bool.and_eq_true] at ho'
      obtain ⟨hl, hz⟩ := ho'
      obtain ⟨z1, z2⟩ := rfl_low hl (.inr rfl)
      have ez : redP (rfZ l) = rfZ l := redP_low z1 z2
      rw [ez] at hz
      have hl' := hl
      unfold Ln.valid at hl'
      rw [Bool.and_eq_true] at hl'
      obtain ⟨k1, k2, k3, k4, k5⟩ := refl_move hl'.1 hl'.2 hp hz
      have em : rfM l = ⟨l.d, true, rfZ l⟩ := by unfold rfM; rw [ho, ez]; rfl
      have hm : (rfM l).valid = true := by rw [em]; unfold M8.valid; rw [show inB l.d 0 7 = true from hl'.1, show valP (rfZ l) = true from hz]; rfl
      have er : redP (rflI (nrm l.d) l.o p) = rflI (nrm l.d) l.o p := redP_low k4 k5
      have e1 : mvO (rfM l) p = rpO l p := by
        rw [mvO_true hm hp, em]
        unfold rpO
        rw [hl, hp]
        show valP (redP (moveF l.d true (rflI (nrm l.d) l.o zP) p)) = _
        rw [k1]
        rfl
      have e2 : mvP (rfM l) p = rpP l p := by
        unfold mvP rpP
        rw [e1, em]
        show selP _ (redP (moveF l.d true (rflI (nrm l.d) l.o zP) p)) = _
        rw [k1]
      have e3 : moveF (rfM l).t (rfM l).f (rfM l).s (rfM l).s = zP := by rw [em]; exact k2
      have e4 : cmO (rfM l) (rfM l) = true := by
        unfold cmO
        rw [e3]
        unfold M8.valid at hm
        rw [hm]
        decide
      have e5 : cmM (rfM l) (rfM l) = m0 := by
        unfold cmM
        rw [e4, e3, em]
        simp only [cond_true]
        have : cmpT l.d l.d true = 0 := by unfold cmpT; simp
        rw [this]
        rfl
      unfold fT9
      rw [e1, e2, e4, e5]
      rw [show (rpO l p == rpO l p) = true by simp, eqP2_self, show eqM8 m0 m0 = true by decide]
      simp only [cond_true]
      cases h : (soV l p != 0) with
      | true => rfl
      | false =>
        cases hr : rpO l p with
        | false => rfl
        | true =>
          have h0 : soV l p = 0 := by simpa using h
          unfold soV at h0
          rw [hl, hp] at h0
          have e6 := k3 h0
          have e7 : rpP l p = p := by unfold rpP; rw [hr, er, e6]; rfl
          rw [e7, eqP2_self]
          rfl
theorem side_ok {d : Int} {off : N3} {p : P2} (hd : inB d 0 7 = true) (ho : validB off = true) (hp : valP p = true) :
    inB (wr (d + 4)) 0 15 = true ∧ pkD (nrm d) p = true ∧ pk (dotF (nrm d) p) off = true ∧ (sB (subF (dotF (nrm d) p) off).a && sB (subF (dotF (nrm d) p) off).b) = true := by
  obtain ⟨E, hn⟩ := nrm_all d hd
  obtain ⟨k1, _, _, k2, _⟩ := refl_same hn ho hp
  refine ⟨nrm_in hd, k1, k2, ?_⟩
  obtain ⟨O1, O2, vo⟩ := valid_vb ho
  obtain ⟨v, hv⟩ := valP_pv hp
  have fin : ∀ {c1 e1 c2 e2 na nb : Int} {E : Nat}, Nv (nrm d) c1 e1 c2 e2 na nb E → (sB (subF (dotF (nrm d) p) off).a && sB (subF (dotF (nrm d) p) off).b) = true := fun hn => by
    obtain ⟨dv, _⟩ := dot_vb hn hv
    have h := (dv.sub vo (by decide) (by decide)).1
    obtain ⟨b1, b2⟩ := h.v.bd
    have b1 := Nat.le_trans b1 h.a
    have b2 := Nat.le_trans b2 h.b
    clear h
    rw [Bool.and_eq_true]
    exact ⟨sB_iff.2 (by omega), sB_iff.2 (by omega)⟩
  rcases nv_all hd with ⟨_, hn⟩ | ⟨_, hn⟩ | ⟨_, hn⟩ | ⟨_, hn⟩ | ⟨_, hn⟩ | ⟨_, hn⟩ | ⟨_, hn⟩ | ⟨_, hn⟩ <;> exact fin hn
/-- A square in two words as the reference computes it. -/
def lo32 (u : Int) : Int := u64w ↑(BitVec.ofInt 64 u &&& BitVec.ofInt 64 4294967295).toNat
def hi32 (u : Int) : Int := u.fdiv (2 ^ min (Int.toNat 32) 64)
def md32 (u : Int) : Int := u64w (u64w (2 * lo32 u) * hi32 u)
def sm32 (u : Int) : Int := u64w (u64w (lo32 u * lo32 u) + u64w (md32 u * 2 ^ min (Int.toNat 32) 64))
def wv (x : Int) : AV := .val (.int .u64 x)
def sqT (u : Int) : Option AV := cond (decide (sm32 u < u64w (lo32 u * lo32 u))) (some (.tup [wv (u64w (u64w (hi32 u * hi32 u) + u64w ((md32 u).fdiv (2 ^ min (Int.toNat 32) 64) + 1))), wv (sm32 u)]))
  (some (.tup [wv (u64w (u64w (hi32 u * hi32 u) + (md32 u).fdiv (2 ^ min (Int.toNat 32) 64))), wv (sm32 u)]))
theorem sqT_ok {u : Int} (h : 0 ≤ u) (h' : u < 2147483648) : sqT u = some (.tup [wv 0, wv (u * u)]) := by
  have hp : (2 : Int) ^ min (Int.toNat 32) 64 = 4294967296 := by decide
  have e1 : lo32 u = u := by unfold lo32 u64w; rw [and_mask h (by omega), u64_in h (by omega)]
  have e2 : hi32 u = 0 := by unfold hi32; rw [hp, Int.fdiv_eq_ediv_of_nonneg _ (by decide)]; omega
  have z : u64w 0 = 0 := by decide
  have e3 : md32 u = 0 := by unfold md32; rw [e2, Int.mul_zero, z]
  have hu : 0 ≤ u * u := Int.mul_nonneg h h
  have hu' : u * u ≤ 2147483647 * 2147483647 := Int.mul_le_mul (by omega) (by omega) h (by decide)
  have e4 : u64w (u * u) = u * u := u64_in hu (by omega)
  have e5 : sm32 u = u * u := by unfold sm32; rw [e1, e3, Int.zero_mul, z, Int.add_zero, e4, e4]
  unfold sqT
  rw [e1, e2, e3, e4, e5, hp, show decide (u * u < u * u) = false by simp]
  rfl
theorem sq_ok {x : Int} (h : sB x = true) : cond (decide (x < 0)) (sqT (u64w (wr (0 - x)))) (sqT (u64w x)) = some (.tup [wv 0, wv (x * x)]) := by
  have h := sB_iff.1 h
  by_cases hx : x < 0
  · rw [show decide (x < 0) = true by simpa using hx, cond_true, wr_in (by omega) (by omega), show u64w (0 - x) = 0 - x from u64_in (by omega) (by omega), sqT_ok (by omega) (by omega)]
    rw [show (0 - x) * (0 - x) = x * x by grind]
  · rw [show decide (x < 0) = false by simpa using hx, cond_false, show u64w x = x from u64_in (by omega) (by omega), sqT_ok (by omega) (by omega)]
theorem less_ok {x y : Int} (hx : sB x = true) (hy : sB y = true) : cond (decide (0 < u64w (u64w (0 * 2) + (y * y).fdiv (2 ^ min (Int.toNat 63) 64)))) (some (bv true))
    (cond (0 == u64w (u64w (0 * 2) + (y * y).fdiv (2 ^ min (Int.toNat 63) 64))) (some (bv (decide (x * x < u64w (y * y * 2))))) (some (bv false))) = some (bv (decide (x * x < 2 * (y * y)))) := by
  obtain ⟨_, _, _, g1, g2⟩ := abs_u hy
  have hp : (2 : Int) ^ min (Int.toNat 63) 64 = 9223372036854775808 := by decide
  have ez : (y * y).fdiv 9223372036854775808 = 0 := by rw [Int.fdiv_eq_ediv_of_nonneg _ (by decide)]; omega
  have z : u64w (u64w (0 * 2) + 0) = 0 := by decide
  rw [hp, ez, z, show u64w (y * y * 2) = y * y * 2 from u64_in (by omega) (by omega), Int.mul_comm (y * y) 2]
  rfl
end Go.Ev
