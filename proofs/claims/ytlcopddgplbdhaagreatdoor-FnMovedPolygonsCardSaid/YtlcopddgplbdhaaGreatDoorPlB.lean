/- Signs, sources and motions in plain Lean. -/
import Derived.Test.YtlcopddgplbdhaaGreatDoorPlA
set_option linter.unusedVariables false
set_option linter.unusedSimpArgs false
/- Signs of numbers A + B r, r the square root of 2: what the program computes is the sign; it is multiplicative, and the order is kept. -/
namespace Go.Ev
def sgZ (a b : Int) : Int := if a.sign = b.sign \/ b.sign = 0 then a.sign else if a.sign = 0 \/ ¬ (a * a > 2 * (b * b)) then b.sign else a.sign
def sgF (x : N3) : Int := sgZ x.a x.b
theorem sq_two : ∀ (n : Nat) (a b : Int), a.natAbs + b.natAbs <= n -> a * a = 2 * (b * b) -> a = 0 /\ b = 0
 | 0, a, b, h, _ => by omega
 | n + 1, a, b, h, e => by
  by_cases ha : a = 0
  ·subst ha
   refine ⟨rfl, ?_⟩
   have : b * b = 0 := by omega
   rcases Int.mul_eq_zero.1 this with h | h <;> exact h
  ·have h2 : a % 2 = 0 := by
    rcases Int.emod_two_eq a with h | h
    ·exact h
    ·exfalso
     have : (a * a) % 2 = 1 := by rw [Int.mul_emod, h]; rfl
     omega
   obtain ⟨c, rfl⟩ : ∃ c, a = 2 * c := ⟨a / 2, by omega⟩
   have e2 : b * b = 2 * (c * c) := by
    have : 2 * c * (2 * c) = 4 * (c * c) := by grind
    omega
   have := sq_two n b c (by omega) e2
   omega
theorem sq_nonneg (a : Int) : 0 <= a * a := by
 rcases Int.le_total 0 a with h | h
 ·exact Int.mul_nonneg h h
 ·exact Int.mul_nonneg_of_nonpos_of_nonpos h h
theorem nm_zero {a b : Int} (h : a * a = 2 * (b * b)) : a = 0 /\ b = 0 := sq_two _ a b (Nat.le_refl _) h
theorem sgZ_pos {a b : Int} (h : a * a > 2 * (b * b)) : sgZ a b = a.sign := by
 have hb : 0 <= b * b := sq_nonneg b
 have ha : a ≠ 0 := fun e => by subst e; omega
 have hs : a.sign ≠ 0 := fun e => ha (Int.sign_eq_zero_iff_zero.1 e)
 unfold sgZ
 split
 ·rfl
 ·rw [if_neg (by simp [hs, h])]
theorem sgZ_neg {a b : Int} (h : a * a < 2 * (b * b)) : sgZ a b = b.sign := by
 have ha : 0 <= a * a := sq_nonneg a
 have hb : b ≠ 0 := fun e => by subst e; omega
 have hs : b.sign ≠ 0 := fun e => hb (Int.sign_eq_zero_iff_zero.1 e)
 unfold sgZ
 split
 ·rename_i h'
  rcases h' with h' | h'
  ·exact h'
  ·exact absurd h' hs
 ·rw [if_pos (.inr (by omega))]
theorem sgZ_zero : sgZ 0 0 = 0 := rfl
theorem sgZ_eq_zero {a b : Int} (h : sgZ a b = 0) : a = 0 /\ b = 0 := by
 rcases Int.lt_trichotomy (a * a) (2 * (b * b)) with h' | h' | h'
 ·rw [sgZ_neg h'] at h
  have hb := Int.sign_eq_zero_iff_zero.1 h
  subst hb
  have : 0 <= a * a := sq_nonneg a
  omega
 ·exact nm_zero h'
 ·rw [sgZ_pos h'] at h
  have hb := Int.sign_eq_zero_iff_zero.1 h
  subst hb
  have : 0 <= b * b := sq_nonneg b
  omega
theorem sgZ_minus (a b : Int) : sgZ (-a) (-b) = - sgZ a b := by
 unfold sgZ
 simp only [Int.sign_neg, Int.neg_mul_neg]
 rcases Int.lt_trichotomy a 0 with ha | ha | ha
 ·rw [Int.sign_eq_neg_one_of_neg ha]
  rcases Int.lt_trichotomy b 0 with hb | hb | hb
  ·rw [Int.sign_eq_neg_one_of_neg hb]; simp
  ·subst hb; simp
  ·rw [Int.sign_eq_one_of_pos hb]; simp; split <;> simp
 ·subst ha
  rcases Int.lt_trichotomy b 0 with hb | hb | hb
  ·rw [Int.sign_eq_neg_one_of_neg hb]; simp
  ·subst hb; simp
  ·rw [Int.sign_eq_one_of_pos hb]; simp
 ·rw [Int.sign_eq_one_of_pos ha]
  rcases Int.lt_trichotomy b 0 with hb | hb | hb
  ·rw [Int.sign_eq_neg_one_of_neg hb]; simp; split <;> simp
  ·subst hb; simp
  ·rw [Int.sign_eq_one_of_pos hb]; simp
theorem sign_pow (a : Int) (n : Nat) : (a * 2 ^ n).sign = a.sign := by
 rw [Int.sign_mul, Int.sign_eq_one_of_pos (Int.pow_pos (by decide)), Int.mul_one]
theorem sgZ_scale (a b : Int) (n : Nat) : sgZ (a * 2 ^ n) (b * 2 ^ n) = sgZ a b := by
 unfold sgZ
 rw [sign_pow, sign_pow]
 have hp : (0 : Int) < 2 ^ n * 2 ^ n := Int.mul_pos (Int.pow_pos (by decide)) (Int.pow_pos (by decide))
 have e : (a * 2 ^ n * (a * 2 ^ n) > 2 * (b * 2 ^ n * (b * 2 ^ n))) ↔ a * a > 2 * (b * b) := by
  have e1 : a * 2 ^ n * (a * 2 ^ n) = (a * a) * (2 ^ n * 2 ^ n) := by grind
  have e2 : 2 * (b * 2 ^ n * (b * 2 ^ n)) = (2 * (b * b)) * (2 ^ n * 2 ^ n) := by grind
  rw [e1, e2]
  exact ⟨fun h => Int.lt_of_mul_lt_mul_right h (Int.le_of_lt hp), fun h => Int.mul_lt_mul_of_pos_right h hp⟩
 simp only [e]
theorem sign_add_big {u v : Int} (h : v * v < u * u) : (u + v).sign = u.sign := by
 have h' : v.natAbs < u.natAbs := by
  apply Nat.mul_self_lt_mul_self_iff.1
  have e1 := Int.natAbs_mul_self (a := u)
  have e2 := Int.natAbs_mul_self (a := v)
  omega
 rcases Int.lt_trichotomy u 0 with hu | hu | hu
 ·rw [Int.sign_eq_neg_one_of_neg hu, Int.sign_eq_neg_one_of_neg (by omega)]
 ·omega
 ·rw [Int.sign_eq_one_of_pos hu, Int.sign_eq_one_of_pos (by omega)]
theorem mul_lt2 {p q r s : Int} (h1 : q < p) (h2 : 0 <= q) (h3 : s < r) (h4 : 0 <= s) : q * s < p * r :=
 Int.lt_of_le_of_lt (Int.mul_le_mul_of_nonneg_left (Int.le_of_lt h3) h2) (Int.mul_lt_mul_of_pos_right h1 (by omega))
theorem sgZ_mul (a b c d : Int) : sgZ (a * c + 2 * b * d) (a * d + b * c) = sgZ a b * sgZ c d := by
 have ha := sq_nonneg a
 have hb := sq_nonneg b
 have hc := sq_nonneg c
 have hd := sq_nonneg d
 have key : (a * c + 2 * b * d) * (a * c + 2 * b * d) - 2 * ((a * d + b * c) * (a * d + b * c)) = (a * a - 2 * (b * b)) * (c * c - 2 * (d * d)) := by grind
 rcases Int.lt_trichotomy (a * a) (2 * (b * b)) with h | h | h
 ·rcases Int.lt_trichotomy (c * c) (2 * (d * d)) with g | g | g
  ·have hk : 0 < (a * a - 2 * (b * b)) * (c * c - 2 * (d * d)) := Int.mul_pos_of_neg_of_neg (by omega) (by omega)
   rw [sgZ_pos (by omega), sgZ_neg h, sgZ_neg g, Int.add_comm, sign_add_big, show 2 * b * d = 2 * (b * d) by grind, Int.sign_mul, Int.sign_mul]
   ·rw [show Int.sign 2 = 1 from rfl, Int.one_mul]
   ·have := mul_lt2 h ha g hc
    have e1 : a * c * (a * c) = a * a * (c * c) := by grind
    have e2 : 2 * b * d * (2 * b * d) = 2 * (b * b) * (2 * (d * d)) := by grind
    omega
  ·obtain ⟨rfl, rfl⟩ := nm_zero g
   simp [sgZ_zero]
  ·have hk : (a * a - 2 * (b * b)) * (c * c - 2 * (d * d)) < 0 := Int.mul_neg_of_neg_of_pos (by omega) (by omega)
   rw [sgZ_neg (by omega), sgZ_neg h, sgZ_pos g, Int.add_comm, sign_add_big, Int.sign_mul]
   have := mul_lt2 h ha g (by omega)
   have e1 : a * d * (a * d) = a * a * (d * d) := by grind
   have e2 : b * c * (b * c) = b * b * (c * c) := by grind
   have e3 : a * a * (2 * (d * d)) = 2 * (a * a * (d * d)) := by grind
   have e4 : 2 * (b * b) * (c * c) = 2 * (b * b * (c * c)) := by grind
   omega
 ·obtain ⟨rfl, rfl⟩ := nm_zero h
  simp [sgZ_zero]
 ·rcases Int.lt_trichotomy (c * c) (2 * (d * d)) with g | g | g
  ·have hk : (a * a - 2 * (b * b)) * (c * c - 2 * (d * d)) < 0 := Int.mul_neg_of_pos_of_neg (by omega) (by omega)
   rw [sgZ_neg (by omega), sgZ_pos h, sgZ_neg g, sign_add_big, Int.sign_mul]
   have := mul_lt2 h (by omega) g hc
   have e1 : a * d * (a * d) = a * a * (d * d) := by grind
   have e2 : b * c * (b * c) = b * b * (c * c) := by grind
   have e3 : a * a * (2 * (d * d)) = 2 * (a * a * (d * d)) := by grind
   have e4 : 2 * (b * b) * (c * c) = 2 * (b * b * (c * c)) := by grind
   omega
  ·obtain ⟨rfl, rfl⟩ := nm_zero g
   simp [sgZ_zero]
  ·have hk : 0 < (a * a - 2 * (b * b)) * (c * c - 2 * (d * d)) := Int.mul_pos (by omega) (by omega)
   rw [sgZ_pos (by omega), sgZ_pos h, sgZ_pos g, sign_add_big, Int.sign_mul]
   have := mul_lt2 h (by omega) g (by omega)
   have e1 : a * c * (a * c) = a * a * (c * c) := by grind
   have e2 : 2 * b * d * (2 * b * d) = 2 * (b * b) * (2 * (d * d)) := by grind
   omega
theorem Val.sg {S : Nat} {x : N3} {A B : Int} (h : Val S x A B) : sgF x = sgZ A B := by
 obtain ⟨k0, kS, ha, hb⟩ := h
 unfold sgF
 rw [ha, hb, sgZ_scale]
end Go.Ev
/- The reference's source of choices: bytes, a place, a seed; what its readers give. -/
namespace Go.Ev
structure Src where
 n : Nat
 c : NNI
 p : Int
 z : Int
def u64w (x : Int) : Int := IntKind.u64.wrap x
def Src.cells (s : Src) : List AV := [.arr s.n [.int .u8] s.c, .val (.int .i64 s.p), .val (.int .u64 s.z)]
def outS (x : AV) (s : Src) : AV := .out x [.agg s.cells]
def nxZ (z b : Int) : Int := u64w (u64w (u64w (z * 6364136223846793005) + u64w b) + 1442695040888963407)
def nxB (s : Src) : Int := cond (decide (s.p < s.n)) (wr (s.c s.p.toNat 0 % 256)) 0
def hiZ (z : Int) : Int := wr (u64w ↑(BitVec.ofInt 64 (z.fdiv (2 ^ min (Int.toNat 40) 64)) &&& BitVec.ofInt 64 255).toNat)
def nxt (s : Src) : Int × Src :=
 (cond (decide (wr (s.p + 1) <= s.n)) (nxB s) (hiZ (nxZ s.z (nxB s))), ⟨s.n, s.c, wr (s.p + 1), nxZ s.z (nxB s)⟩)
def stp (b : Int) (s : Src) : Option AV :=
 cond (decide (wr (s.p + 1) <= s.n)) (some (outS (iv b) ⟨s.n, s.c, wr (s.p + 1), nxZ s.z b⟩)) (some (outS (iv (hiZ (nxZ s.z b))) ⟨s.n, s.c, wr (s.p + 1), nxZ s.z b⟩))
def pickV (m : Int) (s : Src) : Int × Src :=
 cond (decide (m <= 1)) (0, s) (cond (decide (m > 200)) ((wr (wr ((nxt s).1 * 256) + (nxt (nxt s).2).1)).tmod m, (nxt (nxt s).2).2) ((nxt s).1.tmod m, (nxt s).2))
def pB (k p : Int) : Bool := decide (0 <= p) && decide (p <= 4611686018427387904 - k)
theorem pB_iff {k p : Int} : pB k p = true ↔ 0 <= p /\ p <= 4611686018427387904 - k := by simp [pB]
theorem nxt_p {s : Src} {k : Int} (h : pB k s.p = true) (hk : 1 <= k) : (nxt s).2.p = s.p + 1 /\ pB (k - 1) (nxt s).2.p = true := by
 have h' := pB_iff.1 h
 have e : (nxt s).2.p = s.p + 1 := wr_in (by omega) (by omega)
 exact ⟨e, pB_iff.2 (by omega)⟩
theorem nxt_in {s : Src} : 0 <= (nxt s).1 /\ (nxt s).1 < 256 := by
 have hb : 0 <= nxB s /\ nxB s < 256 := by
  unfold nxB
  cases decide (s.p < s.n) with
  | false => exact ⟨Int.le_refl _, by show (0 : Int) < 256; decide⟩
  | true =>
   have h1 := Int.emod_nonneg (s.c s.p.toNat 0) (show (256 : Int) ≠ 0 by decide)
   have h2 := Int.emod_lt_of_pos (s.c s.p.toNat 0) (show (0 : Int) < 256 by decide)
   simp only [cond_true]
   rw [wr_in (by omega) (by omega)]
   exact ⟨h1, h2⟩
 have hh : ∀ z, 0 <= hiZ z /\ hiZ z < 256 := fun z => by
  unfold hiZ
  have : (BitVec.ofInt 64 (z.fdiv (2 ^ min (Int.toNat 40) 64)) &&& BitVec.ofInt 64 255).toNat <= 255 := by
   rw [BitVec.toNat_and]
   exact Nat.and_le_right
  generalize (BitVec.ofInt 64 (z.fdiv (2 ^ min (Int.toNat 40) 64)) &&& BitVec.ofInt 64 255).toNat = m at this
  have e : u64w (m : Int) = m := by
   show IntKind.u64.wrap (m : Int) = m
   simp only [IntKind.wrap, IntKind.bits, IntKind.signed]
   simp
   omega
  rw [e, wr_in (by omega) (by omega)]
  omega
 unfold nxt
 cases decide (wr (s.p + 1) <= s.n) with
 | false => exact hh _
 | true => exact hb
theorem pick_p {s : Src} {k m : Int} (h : pB k s.p = true) (hk : 2 <= k) : pB (k - 2) (pickV m s).2.p = true := by
 have h' := pB_iff.1 h
 obtain ⟨a1, a2⟩ := nxt_p h (by omega)
 obtain ⟨b1, b2⟩ := nxt_p a2 (by omega)
 unfold pickV
 cases decide (m <= 1) with
 | true => exact pB_iff.2 (by simp only [cond_true]; omega)
 | false =>
  cases decide (m > 200) with
  | true => exact pB_iff.2 (by have := pB_iff.1 b2; simp only [cond_true, cond_false]; omega)
  | false => exact pB_iff.2 (by have := pB_iff.1 a2; simp only [cond_false]; omega)
theorem pick_in {s : Src} {m : Int} (hm : 1 <= m) : 0 <= (pickV m s).1 /\ (pickV m s).1 < m := by
 have h1 := @nxt_in s
 have h2 := @nxt_in (nxt s).2
 unfold pickV
 cases e : decide (m <= 1) with
 | true => simp only [cond_true]; omega
 | false =>
  cases decide (m > 200) with
  | true =>
   simp only [cond_true, cond_false]
   rw [wr_in (n := (nxt s).1 * 256) (by omega) (by omega), wr_in (by omega) (by omega)]
   exact ⟨Int.tmod_nonneg _ (by omega), Int.tmod_lt_of_pos _ (by omega)⟩
  | false =>
   simp only [cond_false]
   exact ⟨Int.tmod_nonneg _ (by omega), Int.tmod_lt_of_pos _ (by omega)⟩
theorem pB_less {k l p : Int} (h : pB k p = true) (hl : l <= k) : pB l p = true := by
 have := pB_iff.1 h
 exact pB_iff.2 (by omega)
end Go.Ev
/- What the reference draws: a number; it is always a valid one. -/
namespace Go.Ev
def lA : List Int := [131072, -131072, 99999, 46341, 1]
def lB : List Int := [131072, -131072, -92681, -70710, 32768]
def oneN : N3 := ⟨1, 0, 0⟩
def G4 (a b k : Int) (s : Src) : N3 × Src := (cond (chkB ⟨a, b, k⟩) (chk ⟨a, b, k⟩) oneN, s)
def G3b (s : Src) : N3 × Src :=
 G4 (lA.getD (pickV 5 s).1.toNat 0) (lB.getD (pickV 5 (pickV 5 s).2).1.toNat 0) (pickV 11 (pickV 5 (pickV 5 s).2).2).1 (pickV 11 (pickV 5 (pickV 5 s).2).2).2
def G3 (a b k : Int) (s : Src) : N3 × Src := cond ((pickV 12 s).1 == 0) (G3b (pickV 12 s).2) (G4 a b k (pickV 12 s).2)
def G2 (a b : Int) (s : Src) : N3 × Src := cond ((pickV 3 s).1 == 0) (G3 a b (pickV 4 (pickV 3 s).2).1 (pickV 4 (pickV 3 s).2).2) (G3 a b 0 (pickV 3 s).2)
def G1 (a : Int) (s : Src) : N3 × Src := cond ((pickV 3 s).1 == 0) (G2 a (wr ((pickV 9 (pickV 3 s).2).1 - 4)) (pickV 9 (pickV 3 s).2).2) (G2 a 0 (pickV 3 s).2)
def drawV (s : Src) : N3 × Src := G1 (wr ((pickV 9 s).1 - 4)) (pickV 9 s).2
def F4 (a b k : Int) (s : Src) : Option AV := cond (kB k) (cond (!chkB ⟨a, b, k⟩) (some (outS oneN.av s)) (some (outS (chk ⟨a, b, k⟩).av s))) none
def F3c (a b : Int) (s : Src) : Option AV := cond (pB 2 s.p) (F4 a b (pickV 11 s).1 (pickV 11 s).2) none
def F3b (a : Int) (s : Src) : Option AV := cond (pB 2 s.p && Nat.ble 1 5) (F3c a (lB.getD (pickV 5 s).1.toNat 0) (pickV 5 s).2) none
def F3a (s : Src) : Option AV := cond (pB 2 s.p && Nat.ble 1 5) (F3b (lA.getD (pickV 5 s).1.toNat 0) (pickV 5 s).2) none
def F3 (a b k : Int) (s : Src) : Option AV := cond (pB 2 s.p) (cond ((pickV 12 s).1 == 0) (F3a (pickV 12 s).2) (F4 a b k (pickV 12 s).2)) none
def F2a (a b : Int) (s : Src) : Option AV := cond (pB 2 s.p) (F3 a b (pickV 4 s).1 (pickV 4 s).2) none
def F2 (a b : Int) (s : Src) : Option AV := cond (pB 2 s.p) (cond ((pickV 3 s).1 == 0) (F2a a b (pickV 3 s).2) (F3 a b 0 (pickV 3 s).2)) none
def F1a (a : Int) (s : Src) : Option AV := cond (pB 2 s.p) (F2 a (wr ((pickV 9 s).1 - 4)) (pickV 9 s).2) none
def F1 (a : Int) (s : Src) : Option AV := cond (pB 2 s.p) (cond ((pickV 3 s).1 == 0) (F1a a (pickV 3 s).2) (F2 a 0 (pickV 3 s).2)) none
def F0 (s : Src) : Option AV := cond (pB 2 s.p) (F1 (wr ((pickV 9 s).1 - 4)) (pickV 9 s).2) none
structure DrawOk (k : Int) (r : N3 × Src) : Prop where
 ok : validB r.1 = true
 p : pB k r.2.p = true
theorem p2 {k : Int} {s : Src} (m : Int) (h : pB (k + 2) s.p = true) (hk : 0 <= k) : pB 2 s.p = true /\ pB k (pickV m s).2.p = true := by
 refine ⟨pB_less h (by omega), ?_⟩
 have := pick_p (m := m) h (by omega)
 rw [show k + 2 - 2 = k by omega] at this
 exact this
theorem draw4 {a b k q : Int} {s : Src} (hk : kB k = true) (h : pB q s.p = true) : F4 a b k s = some (outS (G4 a b k s).1.av (G4 a b k s).2) /\ DrawOk q (G4 a b k s) := by
 unfold F4 G4
 rw [hk]
 cases hc : chkB ⟨a, b, k⟩ with
 | false => exact ⟨rfl, rfl, h⟩
 | true =>
  refine ⟨rfl, ?_, h⟩
  have : chk ⟨a, b, k⟩ = red ⟨a, b, k⟩ := by unfold chk; rw [hc]; rfl
  simp only [cond_true]
  rw [this]
  exact hc
theorem kB_pick {m : Int} {s : Src} (h1 : 1 <= m) (h2 : m <= 1000) : kB (pickV m s).1 = true := by
 have := pick_in (s := s) h1
 exact kB_iff.2 (by omega)
theorem draw3 {a b k q : Int} {s : Src} (hk : kB k = true) (hq : 0 <= q) (h : pB (q + 8) s.p = true) : F3 a b k s = some (outS (G3 a b k s).1.av (G3 a b k s).2) /\ DrawOk q (G3 a b k s) := by
 obtain ⟨a1, a2⟩ := p2 (k := q + 6) 12 (s := s) (by rw [show q + 6 + 2 = q + 8 by omega]; exact h) (by omega)
 obtain ⟨b1, b2⟩ := p2 (k := q + 4) 5 (s := (pickV 12 s).2) (by rw [show q + 4 + 2 = q + 6 by omega]; exact a2) (by omega)
 obtain ⟨c1, c2⟩ := p2 (k := q + 2) 5 (s := (pickV 5 (pickV 12 s).2).2) (by rw [show q + 2 + 2 = q + 4 by omega]; exact b2) (by omega)
 obtain ⟨d1, d2⟩ := p2 (k := q) 11 (s := (pickV 5 (pickV 5 (pickV 12 s).2).2).2) c2 (by omega)
 unfold F3 G3
 rw [a1]
 cases (pickV 12 s).1 == 0 with
 | false => exact draw4 hk (pB_less a2 (by omega))
 | true =>
  simp only [cond_true]
  unfold F3a F3b F3c G3b
  rw [b1, c1, d1]
  exact draw4 (kB_pick (by decide) (by decide)) d2
theorem draw2 {a b q : Int} {s : Src} (hq : 0 <= q) (h : pB (q + 12) s.p = true) : F2 a b s = some (outS (G2 a b s).1.av (G2 a b s).2) /\ DrawOk q (G2 a b s) := by
 obtain ⟨a1, a2⟩ := p2 (k := q + 10) 3 (s := s) (by rw [show q + 10 + 2 = q + 12 by omega]; exact h) (by omega)
 obtain ⟨b1, b2⟩ := p2 (k := q + 8) 4 (s := (pickV 3 s).2) (by rw [show q + 8 + 2 = q + 10 by omega]; exact a2) (by omega)
 unfold F2 G2
 rw [a1]
 cases (pickV 3 s).1 == 0 with
 | false => exact draw3 rfl hq (pB_less a2 (by omega))
 | true =>
  simp only [cond_true]
  unfold F2a
  rw [b1]
  exact draw3 (kB_pick (by decide) (by decide)) hq b2
theorem draw1 {a q : Int} {s : Src} (hq : 0 <= q) (h : pB (q + 16) s.p = true) : F1 a s = some (outS (G1 a s).1.av (G1 a s).2) /\ DrawOk q (G1 a s) := by
 obtain ⟨a1, a2⟩ := p2 (k := q + 14) 3 (s := s) (by rw [show q + 14 + 2 = q + 16 by omega]; exact h) (by omega)
 obtain ⟨b1, b2⟩ := p2 (k := q + 12) 9 (s := (pickV 3 s).2) (by rw [show q + 12 + 2 = q + 14 by omega]; exact a2) (by omega)
 unfold F1 G1
 rw [a1]
 cases (pickV 3 s).1 == 0 with
 | false => exact draw2 hq (pB_less a2 (by omega))
 | true =>
  simp only [cond_true]
  unfold F1a
  rw [b1]
  exact draw2 hq b2
theorem draw0 {q : Int} {s : Src} (hq : 0 <= q) (h : pB (q + 18) s.p = true) : F0 s = some (outS (drawV s).1.av (drawV s).2) /\ DrawOk q (drawV s) := by
 obtain ⟨a1, a2⟩ := p2 (k := q + 16) 9 (s := s) (by rw [show q + 16 + 2 = q + 18 by omega]; exact h) (by omega)
 unfold F0 drawV
 rw [a1]
 exact draw1 hq a2
def srcOf (n : Nat) (c : NNI) : Src := ⟨n, c, 0, 0⟩
end Go.Ev
/- Signs, comparisons and floors as the program computes them. -/
namespace Go.Ev
def absV (x : Int) : Int := if wr (0 - x) > x then wr (0 - x) else x
theorem absV_eq {x : Int} (h1 : -1073741824 <= x) (h2 : x <= 1073741824) : absV x = x.natAbs := by
 unfold absV
 rw [wr_in (by omega) (by omega)]
 split <;> omega
theorem sign_gmax (x : Int) : (if (if x < 1 then x else 1) > -1 then if x < 1 then x else 1 else -1) = x.sign := by
 rcases Int.lt_trichotomy x 0 with h | h | h
 ·rw [Int.sign_eq_neg_one_of_neg h]
  have h1 : x < 1 := by omega
  simp only [h1, if_true]
  rw [if_neg (by omega)]
 ·subst h; rfl
 ·rw [Int.sign_eq_one_of_pos h]
  have h1 : ¬ x < 1 := by omega
  simp only [h1, if_false]
  rfl
theorem u64_in {n : Int} (h : 0 <= n) (h' : n < 18446744073709551616) : IntKind.u64.wrap n = n := by
 simp only [IntKind.wrap, IntKind.bits, IntKind.signed]
 simp
 omega
theorem and_mask {x : Int} (h : 0 <= x) (h' : x < 4294967296) : ((BitVec.ofInt 64 x &&& BitVec.ofInt 64 4294967295).toNat : Int) = x := by
 obtain ⟨n, rfl⟩ : ∃ n : Nat, x = n := ⟨x.toNat, by omega⟩
 rw [BitVec.toNat_and]
 have e1 : (BitVec.ofInt 64 (n : Int)).toNat = n := by
  rw [BitVec.toNat_ofInt]
  have : ((n : Int) % (2 ^ 64 : Nat)).toNat = n := by
   rw [Int.emod_eq_of_lt (by omega) (by omega)]
   omega
  exact this
 have e2 : (BitVec.ofInt 64 4294967295).toNat = 2 ^ 32 - 1 := by decide
 rw [e1, e2, Nat.and_two_pow_sub_one_eq_mod]
 omega
theorem mul64_small {x y : Int} (hx : 0 <= x) (hx' : x < 2147483648) (hy : 0 <= y) (hy' : y < 2147483648) :
  IntKind.u64.wrap (IntKind.u64.wrap (IntKind.u64.wrap (x.fdiv (2 ^ min (Int.toNat 32) 64) * y.fdiv (2 ^ min (Int.toNat 32) 64)) +
    (IntKind.u64.wrap (IntKind.u64.wrap (x.fdiv (2 ^ min (Int.toNat 32) 64) * IntKind.u64.wrap ↑(BitVec.ofInt 64 y &&& BitVec.ofInt 64 4294967295).toNat) +
            (IntKind.u64.wrap (IntKind.u64.wrap ↑(BitVec.ofInt 64 x &&& BitVec.ofInt 64 4294967295).toNat * IntKind.u64.wrap ↑(BitVec.ofInt 64 y &&& BitVec.ofInt 64 4294967295).toNat)).fdiv
             (2 ^ min (Int.toNat 32) 64))).fdiv (2 ^ min (Int.toNat 32) 64)) +
  (IntKind.u64.wrap (IntKind.u64.wrap ↑(BitVec.ofInt 64 (IntKind.u64.wrap (IntKind.u64.wrap (x.fdiv (2 ^ min (Int.toNat 32) 64) * IntKind.u64.wrap ↑(BitVec.ofInt 64 y &&& BitVec.ofInt 64 4294967295).toNat) +
                        (IntKind.u64.wrap (IntKind.u64.wrap ↑(BitVec.ofInt 64 x &&& BitVec.ofInt 64 4294967295).toNat * IntKind.u64.wrap ↑(BitVec.ofInt 64 y &&& BitVec.ofInt 64 4294967295).toNat)).fdiv
                         (2 ^ min (Int.toNat 32) 64))) &&& BitVec.ofInt 64 4294967295).toNat +
          IntKind.u64.wrap (IntKind.u64.wrap ↑(BitVec.ofInt 64 x &&& BitVec.ofInt 64 4294967295).toNat * y.fdiv (2 ^ min (Int.toNat 32) 64)))).fdiv (2 ^ min (Int.toNat 32) 64)) = 0 /\
  IntKind.u64.wrap (x * y) = x * y := by
 have hp : (2 : Int) ^ min (Int.toNat 32) 64 = 4294967296 := by decide
 have ex : x.fdiv 4294967296 = 0 := by rw [Int.fdiv_eq_ediv_of_nonneg _ (by decide)]; omega
 have ey : y.fdiv 4294967296 = 0 := by rw [Int.fdiv_eq_ediv_of_nonneg _ (by decide)]; omega
 have hxy : 0 <= x * y := Int.mul_nonneg hx hy
 have hxy' : x * y <= 2147483647 * 2147483647 := Int.mul_le_mul (by omega) (by omega) hy (by decide)
 have exy : (x * y).fdiv 4294967296 = x * y / 4294967296 := Int.fdiv_eq_ediv_of_nonneg _ (by decide)
 have hq : 0 <= x * y / 4294967296 /\ x * y / 4294967296 < 2147483648 := by omega
 have eq : (x * y / 4294967296).fdiv 4294967296 = 0 := by rw [Int.fdiv_eq_ediv_of_nonneg _ (by decide)]; omega
 rw [hp, and_mask hx (by omega), and_mask hy (by omega), u64_in hx (by omega), u64_in hy (by omega), ex, ey, u64_in (n := x * y) hxy (by omega), exy]
 have z : IntKind.u64.wrap 0 = 0 := by decide
 have zf : (0 : Int).fdiv 4294967296 = 0 := by decide
 simp only [Int.mul_zero, Int.zero_mul, z, Int.zero_add, Int.add_zero]
 rw [u64_in (n := x * y / 4294967296) hq.1 (by omega), and_mask hq.1 (by omega)]
 simp only [eq, z, zf, Int.zero_add, Int.add_zero]
 rw [u64_in (n := x * y / 4294967296) hq.1 (by omega)]
 rw [u64_in (n := x * y / 4294967296) hq.1 (by omega), eq]
 exact ⟨z, trivial⟩
def sB (x : Int) : Bool := inB x (-1073741824) 1073741824
theorem sB_iff {x : Int} : sB x = true ↔ -1073741824 <= x /\ x <= 1073741824 := by simp [sB, inB]
theorem abs_u {x : Int} (h : sB x = true) : IntKind.u64.wrap (absV x) = absV x /\ (decide (0 <= absV x) && decide (absV x < 2147483648)) = true /\ absV x * absV x = x * x /\ 0 <= x * x /\ x * x <= 1073741824 * 1073741824 := by
 have h := sB_iff.1 h
 have e : absV x = x.natAbs := absV_eq h.1 h.2
 have e' := Int.natAbs_mul_self' x
 have h0 : x.natAbs * x.natAbs <= 1073741824 * 1073741824 := Nat.mul_le_mul (by omega) (by omega)
 rw [e, u64_in (by omega) (by omega)]
 refine ⟨rfl, by simp; omega, e', sq_nonneg x, ?_⟩
 rw [<- e']
 omega
theorem hi_zero {y : Int} (h : sB y = true) : IntKind.u64.wrap ↑(BitVec.ofInt 64 (IntKind.u64.wrap (0 * 2 ^ min (Int.toNat 1) 64)) ||| BitVec.ofInt 64 ((absV y * absV y).fdiv (2 ^ min (Int.toNat 63) 64))).toNat = 0 := by
 obtain ⟨_, _, e, h1, h2⟩ := abs_u h
 have hp : (2 : Int) ^ min (Int.toNat 63) 64 = 9223372036854775808 := by decide
 have ez : (y * y).fdiv 9223372036854775808 = 0 := by rw [Int.fdiv_eq_ediv_of_nonneg _ (by decide)]; omega
 rw [e, hp, ez]
 decide
theorem gt_eq {x y : Int} (hx : sB x = true) (hy : sB y = true) : decide (absV x * absV x > IntKind.u64.wrap (absV y * absV y * 2 ^ min (Int.toNat 1) IntKind.u64.bits)) = decide (x * x > 2 * (y * y)) := by
 obtain ⟨_, _, e, h1, h2⟩ := abs_u hx
 obtain ⟨_, _, f, g1, g2⟩ := abs_u hy
 have hp : (2 : Int) ^ min (Int.toNat 1) IntKind.u64.bits = 2 := by decide
 rw [e, f, hp, u64_in (by omega) (by omega)]
 congr 1
 apply propext
 constructor <;> intro h <;> omega
theorem sgF_alt (x : N3) : cond (x.a.sign == x.b.sign) x.a.sign (cond (x.b.sign == 0) x.a.sign (cond (x.a.sign == 0) x.b.sign (cond (decide (x.a * x.a > 2 * (x.b * x.b))) x.a.sign x.b.sign))) = sgF x := by
 unfold sgF sgZ
 by_cases h1 : x.a.sign = x.b.sign
 ·simp [h1]
 ·by_cases h2 : x.b.sign = 0
  ·simp [h2]
  ·have e1 : (x.a.sign == x.b.sign) = false := beq_eq_false_iff_ne.2 h1
   have e2 : (x.b.sign == 0) = false := beq_eq_false_iff_ne.2 h2
   rw [e1, e2, if_neg (by omega)]
   simp only [cond_false]
   by_cases h3 : x.a.sign = 0
   ·rw [if_pos (.inl h3), h3]; rfl
   ·have e3 : (x.a.sign == 0) = false := beq_eq_false_iff_ne.2 h3
    rw [e3]
    by_cases h4 : x.a * x.a > 2 * (x.b * x.b)
    ·rw [if_neg (by omega)]; simp [h4]
    ·rw [if_pos (.inr h4)]; simp [h4]
theorem cmp_ok {x y : N3} (hx : validB x = true) (hy : validB y = true) : (sB (subF x y).a && sB (subF x y).b) = true := by
 obtain ⟨A, B, v, a1, a2⟩ := valid_val hx
 obtain ⟨C, D, w, b1, b2⟩ := valid_val hy
 have h := (v.sub w (by decide) (by omega) (by omega) (by omega) (by omega)).1.bd
 rw [Bool.and_eq_true]
 exact ⟨sB_iff.2 (by omega), sB_iff.2 (by omega)⟩
theorem sgZ_cases (m c : Int) : (m * m > 2 * (c * c) /\ sgZ m c = m.sign) \/ (m * m < 2 * (c * c) /\ sgZ m c = c.sign) \/ (m = 0 /\ c = 0 /\ sgZ m c = 0) := by
 rcases Int.lt_trichotomy (m * m) (2 * (c * c)) with h | h | h
 ·exact .inr (.inl ⟨h, sgZ_neg h⟩)
 ·obtain ⟨rfl, rfl⟩ := nm_zero h
  exact .inr (.inr ⟨rfl, rfl, rfl⟩)
 ·exact .inl ⟨h, sgZ_pos h⟩
end Go.Ev
/- The laws of signs and of division, for valid numbers. -/
namespace Go.Ev
def eqN (x y : N3) : Bool := x.a == y.a && (x.b == y.b && (x.k == y.k && true))
def no : Option AV := some (bv false)
theorem sgZ_bd (a b : Int) : -1 <= sgZ a b /\ sgZ a b <= 1 := by
 have hs : ∀ c : Int, -1 <= c.sign /\ c.sign <= 1 := fun c => by
  rcases Int.lt_trichotomy c 0 with h | h | h
  ·rw [Int.sign_eq_neg_one_of_neg h]; decide
  ·subst h; decide
  ·rw [Int.sign_eq_one_of_pos h]; decide
 rcases sgZ_cases a b with ⟨_, h⟩ | ⟨_, h⟩ | ⟨_, _, h⟩
 ·rw [h]; exact hs a
 ·rw [h]; exact hs b
 ·rw [h]; decide
theorem sub_val {x y : N3} {A B C D : Int} (v : Val 10 x A B) (a1 : A.natAbs <= 134217728) (a2 : B.natAbs <= 134217728) (w : Val 10 y C D) (b1 : C.natAbs <= 134217728) (b2 : D.natAbs <= 134217728) :
  Val 10 (subF x y) (A - C) (B - D) /\ lowB (subF x y) := v.sub w (by decide) (by omega) (by omega) (by omega) (by omega)
end Go.Ev
/- The law of division, for valid numbers. -/
namespace Go.Ev
theorem oddL_prod : ∀ (f : Nat) (n e : Int), n ≠ 0 -> n.natAbs < 2 ^ f -> (oddL f n e).1 * 2 ^ ((oddL f n e).2 - e).toNat = n
 | 0, n, e, hn, hf => by simp at hf; omega
 | f + 1, n, e, hn, hf => by
  unfold oddL
  split
  ·rename_i h
   obtain ⟨h1, h2⟩ := tdiv_two h
   rw [h1]
   have hf' : (n / 2).natAbs < 2 ^ f := by rw [Nat.pow_succ] at hf; omega
   have ih := oddL_prod f (n / 2) (e + 1) (by omega) hf'
   obtain ⟨_, _, _, a4, _⟩ := oddL_spec f (n / 2) (e + 1) (by omega) hf'
   have ex : ((oddL f (n / 2) (e + 1)).2 - e).toNat = ((oddL f (n / 2) (e + 1)).2 - (e + 1)).toNat + 1 := by omega
   rw [ex, Int.pow_succ, <- Int.mul_assoc, ih]
   omega
  ·simp
structure Quot (x y : N3) (A B : Int) (ta tb d : Int) (E : Nat) : Prop where
 low : lowB (dvV x y)
 val : Val 200 (dvV x y) (ta * 2 ^ (200 - dvK x y).toNat) (tb * 2 ^ (200 - dvK x y).toNat)
 a : A * y.a - 2 * B * y.b = d * ta * 2 ^ (10 - (divT x y).k.toNat)
 b : B * y.a - A * y.b = d * tb * 2 ^ (10 - (divT x y).k.toNat)
 n : y.a * y.a - 2 * y.b * y.b = d * 2 ^ E
 d0 : d ≠ 0
 k : dvK x y = (divT x y).k - y.k + E
 tk : 0 <= (divT x y).k /\ (divT x y).k <= 10
 e60 : E <= 60
end Go.Ev
/- What else the reference draws: numbers that need not be valid, points, motions. Of these only the place behind is known. -/
namespace Go.Ev
def Dr {α : Type} (k : Int) (F : Src -> Option AV) (av : α -> AV) (good : α -> Prop) : Prop :=
 ∀ s, pB k s.p = true -> ∃ (r : α) (s' : Src), F s = some (outS (av r) s') /\ (0 <= s'.p /\ s'.p <= s.p + k) /\ good r
noncomputable def Dr.get {α : Type} {k : Int} {F : Src -> Option AV} {av : α -> AV} {good : α -> Prop} (h : Dr k F av good) (d : α) (s : Src) : α × Src :=
 if hp : pB k s.p = true then ⟨Classical.choose (h s hp), Classical.choose (Classical.choose_spec (h s hp))⟩ else (d, s)
theorem Dr.spec {α : Type} {k : Int} {F : Src -> Option AV} {av : α -> AV} {good : α -> Prop} (h : Dr k F av good) (d : α) {s : Src} (hp : pB k s.p = true) :
  F s = some (outS (av (h.get d s).1) (h.get d s).2) /\ (0 <= (h.get d s).2.p /\ (h.get d s).2.p <= s.p + k) /\ good (h.get d s).1 := by
 unfold Dr.get
 rw [dif_pos hp]
 exact Classical.choose_spec (Classical.choose_spec (h s hp))
theorem pB_on {k l : Int} {p p' : Int} (h : pB l p = true) (h' : 0 <= p' /\ p' <= p + k) (hl : k <= l) : pB (l - k) p' = true := by
 have := pB_iff.1 h
 exact pB_iff.2 (by omega)
theorem pick_on (m : Int) {s : Src} {k : Int} (h : pB k s.p = true) (hk : 2 <= k) : 0 <= (pickV m s).2.p /\ (pickV m s).2.p <= s.p + 2 := by
 have h' := pB_iff.1 h
 obtain ⟨a1, a2⟩ := nxt_p h (by omega)
 obtain ⟨b1, b2⟩ := nxt_p a2 (by omega)
 unfold pickV
 cases decide (m <= 1) with
 | true => simp only [cond_true]; omega
 | false =>
  cases decide (m > 200) with
  | true => simp only [cond_true, cond_false]; omega
  | false => simp only [cond_false]; omega
theorem drawV_on {s : Src} {k : Int} (h : pB k s.p = true) (hk : 18 <= k) : F0 s = some (outS (drawV s).1.av (drawV s).2) /\ validB (drawV s).1 = true /\ 0 <= (drawV s).2.p /\ (drawV s).2.p <= s.p + 18 := by
 have h' := pB_iff.1 h
 obtain ⟨h1, h2⟩ := draw0 (q := 4611686018427387904 - 18 - s.p) (s := s) (by omega) (pB_iff.2 (by omega))
 have := pB_iff.1 h2.p
 exact ⟨h1, h2.ok, by omega, by omega⟩
def l3a : List Int := [131073, -131073, 6]
def l3k : List Int := [-1, 11, 2]
def B1 (x : N3) (s : Src) : Option AV := cond (pB 2 s.p && Nat.ble 1 3) (some (outS (⟨l3a.getD (pickV 3 s).1.toNat 0, x.b, x.k⟩ : N3).av (pickV 3 s).2)) none
def B2 (x : N3) (s : Src) : Option AV := cond (pB 2 s.p && Nat.ble 1 3) (some (outS (⟨x.a, l3a.getD (pickV 3 s).1.toNat 0, x.k⟩ : N3).av (pickV 3 s).2)) none
def B3 (x : N3) (s : Src) : Option AV := cond (pB 2 s.p && Nat.ble 1 3) (some (outS (⟨x.a, x.b, l3k.getD (pickV 3 s).1.toNat 0⟩ : N3).av (pickV 3 s).2)) none
def B0 (x : N3) (s : Src) : Option AV := cond (pB 2 s.p) (cond ((pickV 16 s).1 == 0) (B1 x (pickV 16 s).2) (cond ((pickV 16 s).1 == 1) (B2 x (pickV 16 s).2) (cond ((pickV 16 s).1 == 2) (B3 x (pickV 16 s).2) (some (outS x.av (pickV 16 s).2))))) none
def BF (s : Src) : Option AV := cond (pB 18 s.p) (B0 (drawV s).1 (drawV s).2) none
theorem B0_dr (x : N3) {s : Src} (h : pB 4 s.p = true) : ∃ (r : N3) (s' : Src), B0 x s = some (outS r.av s') /\ 0 <= s'.p /\ s'.p <= s.p + 4 := by
 have h0 := pick_on 16 h (by decide)
 have hp := pB_on h h0 (by decide)
 have h1 := pick_on 3 (s := (pickV 16 s).2) (k := 2) hp (by decide)
 unfold B0
 rw [pB_less h (by decide)]
 simp only [cond_true]
 cases (pickV 16 s).1 == 0 with
 | true => refine ⟨_, _, (by simp only [cond_true]; unfold B1; rw [show pB 2 (pickV 16 s).2.p = true from hp]; rfl), by omega, by omega⟩
 | false =>
  simp only [cond_false]
  cases (pickV 16 s).1 == 1 with
  | true => refine ⟨_, _, (by simp only [cond_true]; unfold B2; rw [show pB 2 (pickV 16 s).2.p = true from hp]; rfl), by omega, by omega⟩
  | false =>
   simp only [cond_false]
   cases (pickV 16 s).1 == 2 with
   | true => refine ⟨_, _, (by simp only [cond_true]; unfold B3; rw [show pB 2 (pickV 16 s).2.p = true from hp]; rfl), by omega, by omega⟩
   | false => exact ⟨_, _, rfl, by omega, by omega⟩
theorem bent_dr : Dr 22 BF N3.av (fun _ => True) := fun s h => by
 obtain ⟨h1, _, ho⟩ := drawV_on h (by decide)
 obtain ⟨r, s', e, e1, e2⟩ := B0_dr (drawV s).1 (s := (drawV s).2) (pB_on h ho (by decide))
 refine ⟨r, s', ?_, ⟨by omega, by omega⟩, trivial⟩
 unfold BF
 rw [pB_less h (by decide)]
 exact e
noncomputable def bentV (s : Src) : N3 × Src := bent_dr.get z3 s
def pointV (s : Src) : P2 × Src := (⟨(drawV s).1, (drawV (drawV s).2).1⟩, (drawV (drawV s).2).2)
def PF (s : Src) : Option AV := cond (pB 18 s.p) (cond (pB 18 (drawV s).2.p) (some (outS (pointV s).1.av (pointV s).2)) none) none
theorem point_on {s : Src} {k : Int} (h : pB k s.p = true) (hk : 36 <= k) : PF s = some (outS (pointV s).1.av (pointV s).2) /\ valP (pointV s).1 = true /\ 0 <= (pointV s).2.p /\ (pointV s).2.p <= s.p + 36 := by
 obtain ⟨_, v1, h1⟩ := drawV_on h (by omega)
 have p1 := pB_on h h1 (by omega)
 obtain ⟨_, v2, h2⟩ := drawV_on (s := (drawV s).2) p1 (by omega)
 refine ⟨?_, ?_, ?_, ?_⟩
 ·unfold PF
  rw [pB_less h (by omega), pB_less p1 (by omega)]
  rfl
 ·unfold valP pointV
  rw [v1, v2]
  rfl
 ·show 0 <= (drawV (drawV s).2).2.p
  omega
 ·show (drawV (drawV s).2).2.p <= s.p + 36
  omega
noncomputable def QF (s : Src) : Option AV := cond (pB 36 s.p) (cond (pB 2 (pointV s).2.p) (cond ((pickV 16 (pointV s).2).1 == 0)
 (cond (pB 22 (pickV 16 (pointV s).2).2.p) (some (outS (⟨(bentV (pickV 16 (pointV s).2).2).1, (pointV s).1.y⟩ : P2).av (bentV (pickV 16 (pointV s).2).2).2)) none) (some (outS (pointV s).1.av (pickV 16 (pointV s).2).2))) none) none
theorem bentP_dr : Dr 60 QF P2.av (fun _ => True) := fun s h => by
 obtain ⟨_, _, h1⟩ := point_on h (by decide)
 have p1 := pB_on h h1 (by decide)
 have h2 := pick_on 16 p1 (by decide)
 have p2 := pB_on p1 h2 (by decide)
 obtain ⟨_, h3, _⟩ := bent_dr.spec z3 (s := (pickV 16 (pointV s).2).2) p2
 change 0 <= (bentV (pickV 16 (pointV s).2).2).2.p /\ (bentV (pickV 16 (pointV s).2).2).2.p <= _ at h3
 unfold QF
 rw [pB_less h (by decide), pB_less p1 (by decide), show pB 22 (pickV 16 (pointV s).2).2.p = true from p2]
 simp only [cond_true]
 cases (pickV 16 (pointV s).2).1 == 0 with
 | true => exact ⟨_, _, rfl, ⟨by omega, by omega⟩, trivial⟩
 | false => exact ⟨_, _, rfl, ⟨by omega, by omega⟩, trivial⟩
noncomputable def bentPV (s : Src) : P2 × Src := bentP_dr.get ⟨z3, z3⟩ s
structure M8 where
 t : Int
 f : Bool
 s : P2
def M8.av (m : M8) : AV := mav m.t m.f m.s
def M8.valid (m : M8) : Bool := inB m.t 0 7 && valP m.s
def m0 : M8 := ⟨0, false, ⟨z3, z3⟩⟩
def MF1 (t : Int) (f : Bool) (s : Src) : Option AV := cond (pB 2 s.p) (cond (!((pickV 4 s).1 == 0)) (cond (pB 36 (pickV 4 s).2.p) (some (outS (mav t f (pointV (pickV 4 s).2).1) (pointV (pickV 4 s).2).2)) none) (some (outS (mav t f ⟨z3, z3⟩) (pickV 4 s).2))) none
def MF (s : Src) : Option AV := cond (pB 2 s.p) (cond (pB 2 (pickV 8 s).2.p) (MF1 (pickV 8 s).1 ((pickV 2 (pickV 8 s).2).1 == 0) (pickV 2 (pickV 8 s).2).2) none) none
theorem mot_dr : Dr 42 MF M8.av (fun _ => True) := fun s h => by
 have h1 := pick_on 8 h (by decide)
 have p1 := pB_on h h1 (by decide)
 have h2 := pick_on 2 p1 (by decide)
 have p2 := pB_on p1 h2 (by decide)
 have h3 := pick_on 4 p2 (by decide)
 have p3 := pB_on p2 h3 (by decide)
 obtain ⟨_, _, h4⟩ := point_on p3 (by decide)
 unfold MF MF1
 rw [pB_less h (by decide), pB_less p1 (by decide), pB_less p2 (by decide), show pB 36 (pickV 4 (pickV 2 (pickV 8 s).2).2).2.p = true from p3]
 simp only [cond_true]
 cases (pickV 4 (pickV 2 (pickV 8 s).2).2).1 == 0 with
 | true => (refine ⟨⟨_, _, _⟩, _, rfl, ⟨?_, ?_⟩, trivial⟩ <;> (try simp only) <;> omega)
 | false => (refine ⟨⟨_, _, _⟩, _, rfl, ⟨?_, ?_⟩, trivial⟩ <;> (try simp only) <;> omega)
noncomputable def motV (s : Src) : M8 × Src := mot_dr.get m0 s
def l2t : List Int := [-1, 8]
def NF1 (m : M8) (s : Src) : Option AV := cond (pB 2 s.p && Nat.ble 1 2) (some (outS (mav (l2t.getD (pickV 2 s).1.toNat 0) m.f m.s) (pickV 2 s).2)) none
noncomputable def NF2 (m : M8) (s : Src) : Option AV := cond (pB 22 s.p) (some (outS (mav m.t m.f ⟨(bentV s).1, m.s.y⟩) (bentV s).2)) none
noncomputable def NF3 (m : M8) (s : Src) : Option AV := cond (pB 22 s.p) (some (outS (mav m.t m.f ⟨m.s.x, (bentV s).1⟩) (bentV s).2)) none
noncomputable def NF0 (m : M8) (s : Src) : Option AV := cond (pB 2 s.p) (cond ((pickV 16 s).1 == 0) (NF1 m (pickV 16 s).2) (cond ((pickV 16 s).1 == 1) (NF2 m (pickV 16 s).2) (cond ((pickV 16 s).1 == 2) (NF3 m (pickV 16 s).2) (some (outS m.av (pickV 16 s).2))))) none
noncomputable def NF (s : Src) : Option AV := cond (pB 42 s.p) (NF0 (motV s).1 (motV s).2) none
theorem bentM_dr : Dr 70 NF M8.av (fun _ => True) := fun s h => by
 obtain ⟨_, h1, _⟩ := mot_dr.spec m0 (pB_less (l := 42) h (by decide))
 change 0 <= (motV s).2.p /\ (motV s).2.p <= _ at h1
 have p1 := pB_on h h1 (by decide)
 have h2 := pick_on 16 p1 (by decide)
 have p2 := pB_on p1 h2 (by decide)
 have h3 := pick_on 2 p2 (by decide)
 obtain ⟨_, h4, _⟩ := bent_dr.spec z3 (pB_less (l := 22) p2 (by decide))
 change 0 <= (bentV (pickV 16 (motV s).2).2).2.p /\ (bentV (pickV 16 (motV s).2).2).2.p <= _ at h4
 unfold NF NF0 NF1 NF2 NF3
 rw [pB_less h (by decide), pB_less p1 (by decide), pB_less (k := 70 - 42 - 2) (l := 2) p2 (by decide), pB_less (l := 22) p2 (by decide)]
 simp only [cond_true]
 cases (pickV 16 (motV s).2).1 == 0 with
 | true => (refine ⟨⟨_, _, _⟩, _, rfl, ⟨?_, ?_⟩, trivial⟩ <;> (try simp only) <;> omega)
 | false =>
  simp only [cond_false]
  cases (pickV 16 (motV s).2).1 == 1 with
  | true => (refine ⟨⟨(motV s).1.t, (motV s).1.f, ⟨(bentV (pickV 16 (motV s).2).2).1, (motV s).1.s.y⟩⟩, (bentV (pickV 16 (motV s).2).2).2, rfl, ⟨?_, ?_⟩, trivial⟩ <;> omega)
  | false =>
   simp only [cond_false]
   cases (pickV 16 (motV s).2).1 == 2 with
   | true => (refine ⟨⟨(motV s).1.t, (motV s).1.f, ⟨(motV s).1.s.x, (bentV (pickV 16 (motV s).2).2).1⟩⟩, (bentV (pickV 16 (motV s).2).2).2, rfl, ⟨?_, ?_⟩, trivial⟩ <;> omega)
   | false => exact ⟨_, _, rfl, ⟨by omega, by omega⟩, trivial⟩
noncomputable def bentMV (s : Src) : M8 × Src := bentM_dr.get m0 s
noncomputable def cpA (s : Src) : M8 := (bentMV s).1
noncomputable def mpP (s : Src) : P2 := (bentPV (bentMV s).2).1
theorem cp_ok {s : Src} (h : pB 140 s.p = true) : pB 70 s.p = true /\ pB 70 (bentMV s).2.p = true := by
 obtain ⟨_, h1, _⟩ := bentM_dr.spec m0 (pB_less (l := 70) h (by decide))
 exact ⟨pB_less h (by decide), pB_on h h1 (by decide)⟩
end Go.Ev
/- Motions as maps of whole numbers: a motion behind another one; a motion and its inverse. -/
namespace Go.Ev
@[ext] theorem V4.ext' {v w : V4} (h1 : v.a = w.a) (h2 : v.b = w.b) (h3 : v.c = w.c) (h4 : v.d = w.d) : v = w := by
 cases v; cases w; simp_all
def tv (t : Int) (v : V4) : V4 := tvR (t.toNat / 2) (tvB t v.a v.b v.c v.d)
def fl (f : Bool) (v : V4) : V4 := cond f ⟨v.a, v.b, -v.c, -v.d⟩ v
def ad (v w : V4) : V4 := ⟨v.a + w.a, v.b + w.b, v.c + w.c, v.d + w.d⟩
def db (v : V4) : V4 := ⟨2 * v.a, 2 * v.b, 2 * v.c, 2 * v.d⟩
def mi (v : V4) : V4 := ⟨-v.a, -v.b, -v.c, -v.d⟩
theorem t8 {t : Int} (h : inB t 0 7 = true) : t = 0 \/ t = 1 \/ t = 2 \/ t = 3 \/ t = 4 \/ t = 5 \/ t = 6 \/ t = 7 := by
 have := inB_iff.1 h
 omega
theorem tv_all (v : V4) : tv 0 v = db v /\ tv 1 v = ⟨2 * (v.b - v.d), v.a - v.c, 2 * (v.b + v.d), v.a + v.c⟩ /\ tv 2 v = ⟨-(2 * v.c), -(2 * v.d), 2 * v.a, 2 * v.b⟩ /\
  tv 3 v = ⟨-(2 * (v.b + v.d)), -(v.a + v.c), 2 * (v.b - v.d), v.a - v.c⟩ /\ tv 4 v = ⟨-(2 * v.a), -(2 * v.b), -(2 * v.c), -(2 * v.d)⟩ /\
  tv 5 v = ⟨-(2 * (v.b - v.d)), -(v.a - v.c), -(2 * (v.b + v.d)), -(v.a + v.c)⟩ /\ tv 6 v = ⟨- -(2 * v.c), - -(2 * v.d), -(2 * v.a), -(2 * v.b)⟩ /\
  tv 7 v = ⟨- -(2 * (v.b + v.d)), - -(v.a + v.c), -(2 * (v.b - v.d)), -(v.a - v.c)⟩ := ⟨rfl, rfl, rfl, rfl, rfl, rfl, rfl, rfl⟩
theorem tv_lin {t : Int} (h : inB t 0 7 = true) (v w : V4) : tv t (ad v w) = ad (tv t v) (tv t w) /\ tv t (db v) = db (tv t v) /\ tv t (mi v) = mi (tv t v) := by
 obtain ⟨a0, a1, a2, a3, a4, a5, a6, a7⟩ := tv_all v
 obtain ⟨b0, b1, b2, b3, b4, b5, b6, b7⟩ := tv_all w
 obtain ⟨c0, c1, c2, c3, c4, c5, c6, c7⟩ := tv_all (ad v w)
 obtain ⟨d0, d1, d2, d3, d4, d5, d6, d7⟩ := tv_all (db v)
 obtain ⟨e0, e1, e2, e3, e4, e5, e6, e7⟩ := tv_all (mi v)
 rcases t8 h with rfl | rfl | rfl | rfl | rfl | rfl | rfl | rfl
 ·rw [a0, b0, c0, d0, e0]; refine ⟨?_, ?_, ?_⟩ <;> apply V4.ext' <;> simp only [ad, db, mi] <;> omega
 ·rw [a1, b1, c1, d1, e1]; refine ⟨?_, ?_, ?_⟩ <;> apply V4.ext' <;> simp only [ad, db, mi] <;> omega
 ·rw [a2, b2, c2, d2, e2]; refine ⟨?_, ?_, ?_⟩ <;> apply V4.ext' <;> simp only [ad, db, mi] <;> omega
 ·rw [a3, b3, c3, d3, e3]; refine ⟨?_, ?_, ?_⟩ <;> apply V4.ext' <;> simp only [ad, db, mi] <;> omega
 ·rw [a4, b4, c4, d4, e4]; refine ⟨?_, ?_, ?_⟩ <;> apply V4.ext' <;> simp only [ad, db, mi] <;> omega
 ·rw [a5, b5, c5, d5, e5]; refine ⟨?_, ?_, ?_⟩ <;> apply V4.ext' <;> simp only [ad, db, mi] <;> omega
 ·rw [a6, b6, c6, d6, e6]; refine ⟨?_, ?_, ?_⟩ <;> apply V4.ext' <;> simp only [ad, db, mi] <;> omega
 ·rw [a7, b7, c7, d7, e7]; refine ⟨?_, ?_, ?_⟩ <;> apply V4.ext' <;> simp only [ad, db, mi] <;> omega
theorem tv_one {t : Int} (h : inB t 0 7 = true) (v : V4) : tv 1 (tv t v) = db (tv ((t + 1) % 8) v) := by
 obtain ⟨a0, a1, a2, a3, a4, a5, a6, a7⟩ := tv_all v
 rcases t8 h with rfl | rfl | rfl | rfl | rfl | rfl | rfl | rfl
 ·rw [a0, show ((0 : Int) + 1) % 8 = 1 from rfl, a1, (tv_all _).2.1]; apply V4.ext' <;> simp only [db] <;> omega
 ·rw [a1, show ((1 : Int) + 1) % 8 = 2 from rfl, a2, (tv_all _).2.1]; apply V4.ext' <;> simp only [db] <;> omega
 ·rw [a2, show ((2 : Int) + 1) % 8 = 3 from rfl, a3, (tv_all _).2.1]; apply V4.ext' <;> simp only [db] <;> omega
 ·rw [a3, show ((3 : Int) + 1) % 8 = 4 from rfl, a4, (tv_all _).2.1]; apply V4.ext' <;> simp only [db] <;> omega
 ·rw [a4, show ((4 : Int) + 1) % 8 = 5 from rfl, a5, (tv_all _).2.1]; apply V4.ext' <;> simp only [db] <;> omega
 ·rw [a5, show ((5 : Int) + 1) % 8 = 6 from rfl, a6, (tv_all _).2.1]; apply V4.ext' <;> simp only [db] <;> omega
 ·rw [a6, show ((6 : Int) + 1) % 8 = 7 from rfl, a7, (tv_all _).2.1]; apply V4.ext' <;> simp only [db] <;> omega
 ·rw [a7, show ((7 : Int) + 1) % 8 = 0 from rfl, a0, (tv_all _).2.1]; apply V4.ext' <;> simp only [db] <;> omega
theorem db_inj {v w : V4} (h : db v = db w) : v = w := by
 simp only [db, V4.mk.injEq] at h
 apply V4.ext' <;> omega
theorem tv_tv {t : Int} (h : inB t 0 7 = true) (v : V4) : ∀ (n : Nat), n < 8 -> tv n (tv t v) = db (tv ((t + n) % 8) v)
 | 0, _ => by
  have := inB_iff.1 h
  rw [show ((0 : Nat) : Int) = 0 from rfl, (tv_all _).1, Int.add_zero, Int.emod_eq_of_lt (by omega) (by omega)]
 | n + 1, hn => by
  have ih := tv_tv h v n (by omega)
  have hn' : inB (n : Int) 0 7 = true := inB_iff.2 (by omega)
  have hm : inB ((t + n) % 8) 0 7 = true := inB_iff.2 (by omega)
  apply db_inj
  have e1 := tv_one hn' (tv t v)
  rw [show ((n : Int) + 1) % 8 = ((n + 1 : Nat) : Int) by omega] at e1
  rw [<- e1, ih, (tv_lin (t := 1) rfl _ (tv t v)).2.1, tv_one hm, show ((t + n) % 8 + 1) % 8 = (t + ((n + 1 : Nat) : Int)) % 8 by omega]
theorem tv_add {t u : Int} (h : inB t 0 7 = true) (g : inB u 0 7 = true) (v : V4) : tv u (tv t v) = db (tv ((u + t) % 8) v) := by
 have g' := inB_iff.1 g
 have := tv_tv h v u.toNat (by omega)
 rw [show ((u.toNat : Nat) : Int) = u by omega] at this
 rw [this, Int.add_comm]
theorem fl_tv {t : Int} (h : inB t 0 7 = true) (v : V4) : fl true (tv t v) = tv ((8 - t) % 8) (fl true v) := by
 obtain ⟨a0, a1, a2, a3, a4, a5, a6, a7⟩ := tv_all v
 obtain ⟨b0, b1, b2, b3, b4, b5, b6, b7⟩ := tv_all (fl true v)
 rcases t8 h with rfl | rfl | rfl | rfl | rfl | rfl | rfl | rfl
 ·rw [a0, show ((8 : Int) - 0) % 8 = 0 from rfl, b0]; apply V4.ext' <;> simp only [fl, db, cond_true] <;> omega
 ·rw [a1, show ((8 : Int) - 1) % 8 = 7 from rfl, b7]; apply V4.ext' <;> simp only [fl, db, cond_true] <;> omega
 ·rw [a2, show ((8 : Int) - 2) % 8 = 6 from rfl, b6]; apply V4.ext' <;> simp only [fl, db, cond_true] <;> omega
 ·rw [a3, show ((8 : Int) - 3) % 8 = 5 from rfl, b5]; apply V4.ext' <;> simp only [fl, db, cond_true] <;> omega
 ·rw [a4, show ((8 : Int) - 4) % 8 = 4 from rfl, b4]; apply V4.ext' <;> simp only [fl, db, cond_true] <;> omega
 ·rw [a5, show ((8 : Int) - 5) % 8 = 3 from rfl, b3]; apply V4.ext' <;> simp only [fl, db, cond_true] <;> omega
 ·rw [a6, show ((8 : Int) - 6) % 8 = 2 from rfl, b2]; apply V4.ext' <;> simp only [fl, db, cond_true] <;> omega
 ·rw [a7, show ((8 : Int) - 7) % 8 = 1 from rfl, b1]; apply V4.ext' <;> simp only [fl, db, cond_true] <;> omega
theorem fl_fl (f g : Bool) (v : V4) : fl g (fl f v) = fl (f != g) v := by
 cases f <;> cases g <;> simp [fl]
theorem fl_lin (f : Bool) (v w : V4) : fl f (ad v w) = ad (fl f v) (fl f w) /\ fl f (db v) = db (fl f v) := by
 cases f
 ·exact ⟨rfl, rfl⟩
 ·constructor <;> apply V4.ext' <;> simp only [fl, ad, db, cond_true] <;> omega
theorem tv_cmp {t u : Int} (h : inB t 0 7 = true) (g : inB u 0 7 = true) (f k : Bool) (v : V4) : tv u (fl k (tv t (fl f v))) = db (tv (cmpT t u k) (fl (f != k) v)) := by
 cases k with
 | false =>
  show tv u (tv t (fl f v)) = _
  rw [tv_add h g]
  cases f <;> rfl
 | true =>
  have h8 : inB ((8 - t) % 8) 0 7 = true := inB_iff.2 (by have := inB_iff.1 h; omega)
  rw [fl_tv h, tv_add h8 g, fl_fl, show (u + (8 - t) % 8) % 8 = cmpT t u true by unfold cmpT; simp only [cond_true]; omega]
structure PV (S : Nat) (p : P2) (v : V4) (M : Nat) : Prop where
 x : VB S p.x v.a v.b M
 y : VB S p.y v.c v.d M
theorem valP_pv {p : P2} (h : valP p = true) : ∃ v, PV 10 p v 134217728 := by
 unfold valP at h
 rw [Bool.and_eq_true] at h
 obtain ⟨A, B, h1⟩ := valid_vb h.1
 obtain ⟨C, D, h2⟩ := valid_vb h.2
 exact ⟨⟨A, B, C, D⟩, h1, h2⟩
theorem pv_flip {S M : Nat} {p : P2} {v : V4} (h : PV S p v M) (hM : M < 9223372036854775808) (f : Bool) : PV S (flipP f p) (fl f v) M := by
 cases f with
 | false => exact h
 | true => exact ⟨h.x, h.y.negF hM⟩
theorem pv_db {S M : Nat} {p : P2} {v : V4} (h : PV S p v M) : PV (S + 1) p (db v) (2 * M) := ⟨h.x.lift1, h.y.lift1⟩
theorem pv_move {S M K : Nat} {p s : P2} {v w : V4} (t : Int) (f : Bool) (h : PV S p v M) (g : PV S s w K) (hS : S <= 999) (hM : 4 * M + 2 * K < 9223372036854775808) :
  PV (S + 1) (moveF t f s p) (ad (tv t (fl f v)) (db w)) (4 * M + 2 * K) /\ lowB (moveF t f s p).x /\ lowB (moveF t f s p).y := by
 have hf := pv_flip h (by omega) f
 obtain ⟨a, b⟩ := turn_vb t hf.x hf.y (by omega) (by omega)
 have c := pv_db g
 obtain ⟨k1, k2⟩ := (a.more (K := 4 * M) (by omega)).add c.x (by omega) hM
 obtain ⟨k3, k4⟩ := (b.more (K := 4 * M) (by omega)).add c.y (by omega) hM
 exact ⟨⟨k1, k3⟩, k2, k4⟩
theorem pv_uniq {S M K : Nat} {p q : P2} {v : V4} (h : PV S p v M) (g : PV S q v K) (hx : lowB p.x) (hy : lowB p.y) (gx : lowB q.x) (gy : lowB q.y) : p = q := by
 have e1 := h.x.v.uniq g.x.v hx gx
 have e2 := h.y.v.uniq g.y.v hy gy
 cases p; cases q
 simp only at e1 e2
 rw [e1, e2]
theorem redP_low {p : P2} (hx : lowB p.x) (hy : lowB p.y) : redP p = p := by
 unfold redP
 rw [red_fix hx, red_fix hy]
theorem valP_low {p : P2} (h : valP p = true) : lowB p.x /\ lowB p.y := by
 unfold valP at h
 rw [Bool.and_eq_true] at h
 exact ⟨valid_low h.1, valid_low h.2⟩
theorem pv_same {S M K : Nat} {p : P2} {v w : V4} (h : PV S p v M) (g : PV S p w K) : v = w := by
 apply V4.ext'
 ·rw [h.x.v.a, g.x.v.a]
 ·rw [h.x.v.b, g.x.v.b]
 ·rw [h.y.v.a, g.y.v.a]
 ·rw [h.y.v.b, g.y.v.b]
end Go.Ev
/- The law of motions, for valid motions and points. -/
namespace Go.Ev
def mvO (m : M8) (p : P2) : Bool := ((inB m.t 0 7 && valP m.s) && valP p) && valP (redP (moveF m.t m.f m.s p))
def mvP (m : M8) (p : P2) : P2 := selP (mvO m p) (redP (moveF m.t m.f m.s p))
def cmO (a b : M8) : Bool := ((inB a.t 0 7 && valP a.s) && (inB b.t 0 7 && valP b.s)) && valP (redP (moveF b.t b.f b.s a.s))
def cmM (a b : M8) : M8 := ⟨cond (cmO a b) (cmpT a.t b.t b.f) 0, cond (cmO a b) (a.f != b.f) false, selP (cmO a b) (redP (moveF b.t b.f b.s a.s))⟩
def ivO (a : M8) : Bool := (inB a.t 0 7 && valP a.s) && valP (redP (invP a.t a.f a.s))
def ivM (a : M8) : M8 := ⟨cond (ivO a) (invT a.t a.f) 0, cond (ivO a) a.f false, selP (ivO a) (redP (invP a.t a.f a.s))⟩
theorem mv_val {m : M8} {p : P2} {v w : V4} {M : Nat} (hM : M <= 134217728) (hv : PV 10 p v M) (hw : PV 10 m.s w 134217728) :
  PV 11 (moveF m.t m.f m.s p) (ad (tv m.t (fl m.f v)) (db w)) 805306368 /\ redP (moveF m.t m.f m.s p) = moveF m.t m.f m.s p /\ lowB (moveF m.t m.f m.s p).x /\ lowB (moveF m.t m.f m.s p).y := by
 have hv' : PV 10 p v 134217728 := ⟨hv.x.more hM, hv.y.more hM⟩
 obtain ⟨a, b, c⟩ := pv_move m.t m.f hv' hw (by decide) (by decide)
 exact ⟨a, redP_low b c, b, c⟩
theorem mvO_true {m : M8} {p : P2} (hm : m.valid = true) (hp : valP p = true) : mvO m p = valP (redP (moveF m.t m.f m.s p)) := by
 unfold mvO
 unfold M8.valid at hm
 rw [hm, hp]
 rfl
theorem pv_red {S M : Nat} {p : P2} {v : V4} (h : PV S p v M) (hS : S <= 1000) (hM : M < 9223372036854775808) : PV S (redP p) v M /\ lowB (redP p).x /\ lowB (redP p).y := by
 have ax := h.x.a
 have bx := h.x.b
 have ay := h.y.a
 have by_ := h.y.b
 obtain ⟨a1, a2⟩ := h.x.v.red (by omega) (by omega) (by omega)
 obtain ⟨b1, b2⟩ := h.y.v.red (by omega) (by omega) (by omega)
 exact ⟨⟨⟨a1, ax, bx⟩, ⟨b1, ay, by_⟩⟩, a2, b2⟩
theorem mot_inv {a : M8} {p : P2} (ha : a.valid = true) (hp : valP p = true) (h2 : mvO a p = true) (h3 : ivO a = true) :
  cmO a (ivM a) = true /\ cmM a (ivM a) = m0 /\ mvO (ivM a) (mvP a p) = true /\ mvP (ivM a) (mvP a p) = p := by
 have ha' := ha
 unfold M8.valid at ha'
 rw [Bool.and_eq_true] at ha'
 obtain ⟨v, hv⟩ := valP_pv hp
 obtain ⟨w, hw⟩ := valP_pv ha'.2
 obtain ⟨q1, q2, q3, q4⟩ := mv_val (m := a) (Nat.le_refl _) hv hw
 have eq : mvP a p = moveF a.t a.f a.s p := by unfold mvP; rw [h2, q2]; rfl
 have vq : valP (moveF a.t a.f a.s p) = true := by rw [mvO_true ha hp, q2] at h2; exact h2
 obtain ⟨Q, hQ⟩ := valP_pv vq
 have dQ := pv_same (pv_db hQ) q1
 -- the inverse
 have vd : valP (redP (invP a.t a.f a.s)) = true := by
  unfold ivO at h3
  rw [Bool.and_eq_true] at h3
  exact h3.2
 have hdt := invT_in ha'.1 a.f
 have ed : ivM a = ⟨invT a.t a.f, a.f, redP (invP a.t a.f a.s)⟩ := by unfold ivM; rw [h3]; rfl
 have hd : (ivM a).valid = true := by
  rw [ed]
  unfold M8.valid
  rw [show inB (invT a.t a.f) 0 7 = true from hdt, vd]
  rfl
 have hf := pv_flip hw (by decide) a.f
 obtain ⟨t1, t2⟩ := turn_vb (invT a.t a.f) hf.x hf.y (by decide) (by decide)
 have hi : PV 11 (invP a.t a.f a.s) (mi (tv (invT a.t a.f) (fl a.f w))) 536870912 := ⟨t1.negF (by decide), t2.negF (by decide)⟩
 obtain ⟨r1, r2, r3⟩ := pv_red hi (by decide) (by decide)
 obtain ⟨D, hD⟩ := valP_pv vd
 have dD := pv_same (pv_db hD) r1
 generalize redP (invP a.t a.f a.s) = ds at *
 -- composed
 obtain ⟨c1, c2, c3, c4⟩ := mv_val (m := ⟨invT a.t a.f, a.f, ds⟩) (p := a.s) (Nat.le_refl _) hw hD
 simp only at c1 c2 c3 c4
 have ez : ad (tv (invT a.t a.f) (fl a.f w)) (db D) = ⟨0, 0, 0, 0⟩ := by
  rw [dD]
  apply V4.ext' <;> simp only [ad, mi] <;> omega
 rw [ez] at c1
 have hz : PV 11 ⟨z3, z3⟩ (⟨0, 0, 0, 0⟩ : V4) 0 := ⟨vb_zero, vb_zero⟩
 have ec0 := pv_uniq c1 hz c3 c4 (fun h => by have h1 : (0 : Int) > 0 := h.1; omega) (fun h => by have h1 : (0 : Int) > 0 := h.1; omega)
 have co : cmO a (ivM a) = true := by
  unfold cmO
  rw [ed]
  simp only
  rw [ha'.1, ha'.2, hdt, vd, c2, ec0]
  decide
 have cm : cmM a (ivM a) = m0 := by
  unfold cmM
  rw [co, ed]
  simp only [cond_true]
  rw [c2, ec0]
  have et : cmpT a.t (invT a.t a.f) a.f = 0 := by
   have := inB_iff.1 ha'.1
   unfold cmpT invT
   cases a.f <;> simp only [cond_true, cond_false] <;> omega
  rw [et]
  cases a.f <;> rfl
 -- back
 obtain ⟨b1, b2, b3, b4⟩ := mv_val (m := ⟨invT a.t a.f, a.f, ds⟩) (Nat.le_refl _) hQ hD
 simp only at b1 b2 b3 b4
 have et : cmpT a.t (invT a.t a.f) a.f = 0 := by
  have := inB_iff.1 ha'.1
  unfold cmpT invT
  cases a.f <;> simp only [cond_true, cond_false] <;> omega
 have ev : ad (tv (invT a.t a.f) (fl a.f Q)) (db D) = db v := by
  apply db_inj
  have e1 : db (tv (invT a.t a.f) (fl a.f Q)) = ad (db (tv 0 (fl (a.f != a.f) v))) (db (tv (invT a.t a.f) (fl a.f w))) := by
   rw [<- (tv_lin hdt (fl a.f Q) w).2.1, <- (fl_lin a.f Q w).2, dQ, (fl_lin a.f _ _).1, (tv_lin hdt _ _).1, tv_cmp ha'.1 hdt, (fl_lin a.f w w).2, (tv_lin hdt (fl a.f w) w).2.1, et]
  have e2 : db (ad (tv (invT a.t a.f) (fl a.f Q)) (db D)) = ad (db (tv (invT a.t a.f) (fl a.f Q))) (db (db D)) := by apply V4.ext' <;> simp only [ad, db] <;> omega
  have e3 : fl (a.f != a.f) v = v := by cases a.f <;> rfl
  rw [e2, e1, dD, e3, (tv_all v).1]
  apply V4.ext' <;> simp only [ad, db, mi] <;> omega
 rw [ev] at b1
 obtain ⟨p1, p2⟩ := valP_low hp
 have eb := pv_uniq b1 (pv_db hv) b3 b4 p1 p2
 have bo : mvO (ivM a) (moveF a.t a.f a.s p) = true := by
  rw [mvO_true hd vq, ed]
  simp only
  rw [b2, eb]
  exact hp
 refine ⟨co, cm, by rw [eq]; exact bo, ?_⟩
 rw [eq]
 unfold mvP
 rw [bo, ed]
 simp only
 rw [b2, eb]
 rfl
def eqP2 (p q : P2) : Bool := eqN p.x q.x && (eqN p.y q.y && true)
def eqM8 (m n : M8) : Bool := m.t == n.t && (m.f == n.f && (eqN m.s.x n.s.x && (eqN m.s.y n.s.y && true)))
theorem eqP2_self (p : P2) : eqP2 p p = true := by simp [eqP2, eqN]
end Go.Ev
/- Reflections as maps of whole numbers. -/
namespace Go.Ev
structure Nv (n : P2) (c1 e1 c2 e2 na nb : Int) (E : Nat) : Prop where
 eq : n = ⟨⟨c1, e1, 0⟩, ⟨c2, e2, 0⟩⟩
 h1 : c1.natAbs <= 1
 h2 : e1.natAbs <= 1
 h3 : c2.natAbs <= 1
 h4 : e2.natAbs <= 1
 q : dotF n n = ⟨na, nb, 0⟩
 h5 : na.natAbs <= 4
 h6 : nb.natAbs <= 4
 o : dvOdd ⟨na, nb, 0⟩ = 1
 z : divN ⟨na, nb, 0⟩ ≠ 0
 e : dvE ⟨na, nb, 0⟩ = E
 l : E <= 3
theorem nv_all {d : Int} (h : inB d 0 7 = true) : (d = 0 /\ Nv (nrm d) 0 0 1 0 1 0 0) \/ (d = 1 /\ Nv (nrm d) 1 (-1) 1 0 4 (-2) 3) \/ (d = 2 /\ Nv (nrm d) (-1) 0 1 0 2 0 2) \/ (d = 3 /\ Nv (nrm d) (-1) 0 (-1) 1 4 (-2) 3) \/
  (d = 4 /\ Nv (nrm d) (-1) 0 0 0 1 0 0) \/ (d = 5 /\ Nv (nrm d) (-1) 0 1 (-1) 4 (-2) 3) \/ (d = 6 /\ Nv (nrm d) (-1) 0 (-1) 0 2 0 2) \/ (d = 7 /\ Nv (nrm d) 1 (-1) (-1) 0 4 (-2) 3) := by
 rcases t8 h with rfl | rfl | rfl | rfl | rfl | rfl | rfl | rfl
 ·exact .inl ⟨rfl, by kernel_rfl, by decide, by decide, by decide, by decide, by kernel_rfl, by decide, by decide, by decide, by decide, by decide, by decide⟩
 ·exact .inr (.inl ⟨rfl, by kernel_rfl, by decide, by decide, by decide, by decide, by kernel_rfl, by decide, by decide, by decide, by decide, by decide, by decide⟩)
 ·exact .inr (.inr (.inl ⟨rfl, by kernel_rfl, by decide, by decide, by decide, by decide, by kernel_rfl, by decide, by decide, by decide, by decide, by decide, by decide⟩))
 ·exact .inr (.inr (.inr (.inl ⟨rfl, by kernel_rfl, by decide, by decide, by decide, by decide, by kernel_rfl, by decide, by decide, by decide, by decide, by decide, by decide⟩)))
 ·exact .inr (.inr (.inr (.inr (.inl ⟨rfl, by kernel_rfl, by decide, by decide, by decide, by decide, by kernel_rfl, by decide, by decide, by decide, by decide, by decide, by decide⟩))))
 ·exact .inr (.inr (.inr (.inr (.inr (.inl ⟨rfl, by kernel_rfl, by decide, by decide, by decide, by decide, by kernel_rfl, by decide, by decide, by decide, by decide, by decide, by decide⟩)))))
 ·exact .inr (.inr (.inr (.inr (.inr (.inr (.inl ⟨rfl, by kernel_rfl, by decide, by decide, by decide, by decide, by kernel_rfl, by decide, by decide, by decide, by decide, by decide, by decide⟩))))))
 ·exact .inr (.inr (.inr (.inr (.inr (.inr (.inr ⟨rfl, by kernel_rfl, by decide, by decide, by decide, by decide, by kernel_rfl, by decide, by decide, by decide, by decide, by decide, by decide⟩))))))
theorem dot_vb {n p : P2} {c1 e1 c2 e2 na nb : Int} {E : Nat} {v : V4} (hn : Nv n c1 e1 c2 e2 na nb E) (hv : PV 10 p v 134217728) :
  VB 10 (dotF n p) (c1 * v.a + 2 * e1 * v.b + (c2 * v.c + 2 * e2 * v.d)) (c1 * v.b + e1 * v.a + (c2 * v.d + e2 * v.c)) 805306368 /\ lowB (dotF n p) := by
 obtain ⟨m1, _⟩ := VB.vmul (Val.mk0 c1 e1) hn.h1 hn.h2 hv.x (by decide) (by decide)
 obtain ⟨m2, _⟩ := VB.vmul (Val.mk0 c2 e2) hn.h3 hn.h4 hv.y (by decide) (by decide)
 obtain ⟨a1, a2⟩ := m1.add m2 (by decide) (by decide)
 rw [hn.eq]
 exact ⟨a1, a2⟩
theorem lift_vb {S E : Nat} {x : N3} {A B : Int} {M : Nat} (h : VB S x A B M) (hE : E <= 3) : VB (S + E) x (A * 2 ^ E) (B * 2 ^ E) (8 * M) := by
 have h1 := h.a
 have h2 := h.b
 refine ⟨h.v.lift E, ?_, ?_⟩ <;> clear h <;> rcases pow_le8 hE with e | e | e | e <;> rw [e] <;> omega
def sc (k : Int) (v : V4) : V4 := ⟨v.a * k, v.b * k, v.c * k, v.d * k⟩
theorem pv_sc {S E M : Nat} {p : P2} {v : V4} (h : PV S p v M) (hE : E <= 3) : PV (S + E) p (sc (2 ^ E) v) (8 * M) := ⟨lift_vb h.x hE, lift_vb h.y hE⟩
end Go.Ev
/- Lines drawn; the law of reflections. -/
namespace Go.Ev
structure Ln where
 d : Int
 o : N3
def Ln.av (l : Ln) : AV := .agg [iv l.d, iv l.o.a, iv l.o.b, iv l.o.k]
def Ln.valid (l : Ln) : Bool := inB l.d 0 7 && validB l.o
def lineV (s : Src) : Ln × Src := (⟨(pickV 8 s).1, (drawV (pickV 8 s).2).1⟩, (drawV (pickV 8 s).2).2)
def LF (s : Src) : Option AV := cond (pB 2 s.p) (cond (pB 18 (pickV 8 s).2.p) (some (outS (lineV s).1.av (lineV s).2)) none) none
theorem line_on {s : Src} {k : Int} (h : pB k s.p = true) (hk : 20 <= k) : LF s = some (outS (lineV s).1.av (lineV s).2) /\ (lineV s).1.valid = true /\ 0 <= (lineV s).2.p /\ (lineV s).2.p <= s.p + 20 := by
 have h1 := pick_on 8 h (by omega)
 have p1 := pB_on h h1 (by omega)
 obtain ⟨_, v, h2⟩ := drawV_on p1 (by omega)
 refine ⟨?_, ?_, ?_, ?_⟩
 ·unfold LF
  rw [pB_less h (by omega), pB_less p1 (by omega)]
  rfl
 ·unfold Ln.valid lineV
  have := pick_in (s := s) (m := 8) (by decide)
  rw [v, show inB (pickV 8 s).1 0 7 = true from inB_iff.2 (by omega)]
  rfl
 ·show 0 <= (drawV (pickV 8 s).2).2.p
  omega
 ·show (drawV (pickV 8 s).2).2.p <= s.p + 20
  omega
def ln0 : Ln := ⟨0, z3⟩
def sgS (a b : Int) : Int := cond (a == 0 && b == 0) 0 (cond (decide (a >= 0) && decide (b >= 0)) 1 (cond (decide (a <= 0) && decide (b <= 0)) (-1) (cond (decide (a * a < 2 * (b * b)) == decide (b > 0)) 1 (-1))))
theorem sgS_eq (a b : Int) : sgS a b = sgZ a b := by
 unfold sgS
 rcases sgZ_cases a b with ⟨h, e⟩ | ⟨h, e⟩ | ⟨rfl, rfl, e⟩
 ·rw [e]
  have hl : decide (a * a < 2 * (b * b)) = false := by simp; omega
  rw [hl]
  have hb := sq_nonneg b
  rcases Int.lt_trichotomy a 0 with ha | ha | ha
  ·rw [Int.sign_eq_neg_one_of_neg ha]
   have e1 : (a == 0) = false := by simp; omega
   have e2 : decide (a >= 0) = false := by simp; omega
   have e3 : decide (a <= 0) = true := by simp; omega
   rw [e1, e2, e3]
   by_cases hb0 : b <= 0
   ·have e4 : decide (b <= 0) = true := by simpa using hb0
    rw [e4]; rfl
   ·have e4 : decide (b <= 0) = false := by simp; omega
    have e5 : decide (b > 0) = true := by simp; omega
    rw [e4, e5]; rfl
  ·subst ha; omega
  ·rw [Int.sign_eq_one_of_pos ha]
   have e1 : (a == 0) = false := by simp; omega
   have e2 : decide (a >= 0) = true := by simp; omega
   have e3 : decide (a <= 0) = false := by simp; omega
   rw [e1, e2, e3]
   by_cases hb0 : b >= 0
   ·have e4 : decide (b >= 0) = true := by simpa using hb0
    rw [e4]; rfl
   ·have e4 : decide (b >= 0) = false := by simp; omega
    have e5 : decide (b > 0) = false := by simp; omega
    rw [e4, e5]; rfl
 ·rw [e]
  have hl : decide (a * a < 2 * (b * b)) = true := by simpa using h
  rw [hl]
  have ha := sq_nonneg a
  rcases Int.lt_trichotomy b 0 with hb | hb | hb
  ·rw [Int.sign_eq_neg_one_of_neg hb]
   have e1 : (b == 0) = false := by simp; omega
   have e2 : decide (b >= 0) = false := by simp; omega
   have e3 : decide (b <= 0) = true := by simp; omega
   have e5 : decide (b > 0) = false := by simp; omega
   rw [e1, e2, e3, e5]
   cases (a == 0) <;> cases decide (a >= 0) <;> cases decide (a <= 0) <;> rfl
  ·subst hb; omega
  ·rw [Int.sign_eq_one_of_pos hb]
   have e1 : (b == 0) = false := by simp; omega
   have e2 : decide (b >= 0) = true := by simp; omega
   have e3 : decide (b <= 0) = false := by simp; omega
   have e5 : decide (b > 0) = true := by simp; omega
   rw [e1, e2, e3, e5]
   cases (a == 0) <;> cases decide (a >= 0) <;> cases decide (a <= 0) <;> rfl
 ·rfl
def soV (l : Ln) (p : P2) : Int := cond (l.valid && valP p) (sgF (subF (dotF (nrm l.d) p) l.o)) 0
theorem side_ok {d : Int} {off : N3} {p : P2} (hd : inB d 0 7 = true) (ho : validB off = true) (hp : valP p = true) :
  inB (wr (d + 4)) 0 15 = true /\ pkD (nrm d) p = true /\ pk (dotF (nrm d) p) off = true /\ (sB (subF (dotF (nrm d) p) off).a && sB (subF (dotF (nrm d) p) off).b) = true := by
 obtain ⟨E, hn⟩ := nrm_all d hd
 obtain ⟨k1, _, _, k2, _⟩ := refl_same hn ho hp
 refine ⟨nrm_in hd, k1, k2, ?_⟩
 obtain ⟨O1, O2, vo⟩ := valid_vb ho
 obtain ⟨v, hv⟩ := valP_pv hp
 have fin : ∀ {c1 e1 c2 e2 na nb : Int} {E : Nat}, Nv (nrm d) c1 e1 c2 e2 na nb E -> (sB (subF (dotF (nrm d) p) off).a && sB (subF (dotF (nrm d) p) off).b) = true := fun hn => by
  obtain ⟨dv, _⟩ := dot_vb hn hv
  have h := (dv.sub vo (by decide) (by decide)).1
  obtain ⟨b1, b2⟩ := h.v.bd
  have b1 := Nat.le_trans b1 h.a
  have b2 := Nat.le_trans b2 h.b
  clear h
  rw [Bool.and_eq_true]
  exact ⟨sB_iff.2 (by omega), sB_iff.2 (by omega)⟩
 rcases nv_all hd with ⟨_, hn⟩ | ⟨_, hn⟩ | ⟨_, hn⟩ | ⟨_, hn⟩ | ⟨_, hn⟩ | ⟨_, hn⟩ | ⟨_, hn⟩ | ⟨_, hn⟩ <;> exact fin hn
def lo32 (u : Int) : Int := u64w ↑(BitVec.ofInt 64 u &&& BitVec.ofInt 64 4294967295).toNat
def hi32 (u : Int) : Int := u.fdiv (2 ^ min (Int.toNat 32) 64)
def md32 (u : Int) : Int := u64w (u64w (2 * lo32 u) * hi32 u)
def sm32 (u : Int) : Int := u64w (u64w (lo32 u * lo32 u) + u64w (md32 u * 2 ^ min (Int.toNat 32) 64))
def wv (x : Int) : AV := .val (.int .u64 x)
def sqT (u : Int) : Option AV := cond (decide (sm32 u < u64w (lo32 u * lo32 u))) (some (.tup [wv (u64w (u64w (hi32 u * hi32 u) + u64w ((md32 u).fdiv (2 ^ min (Int.toNat 32) 64) + 1))), wv (sm32 u)]))
 (some (.tup [wv (u64w (u64w (hi32 u * hi32 u) + (md32 u).fdiv (2 ^ min (Int.toNat 32) 64))), wv (sm32 u)]))
theorem sqT_ok {u : Int} (h : 0 <= u) (h' : u < 2147483648) : sqT u = some (.tup [wv 0, wv (u * u)]) := by
 have hp : (2 : Int) ^ min (Int.toNat 32) 64 = 4294967296 := by decide
 have e1 : lo32 u = u := by unfold lo32 u64w; rw [and_mask h (by omega), u64_in h (by omega)]
 have e2 : hi32 u = 0 := by unfold hi32; rw [hp, Int.fdiv_eq_ediv_of_nonneg _ (by decide)]; omega
 have z : u64w 0 = 0 := by decide
 have e3 : md32 u = 0 := by unfold md32; rw [e2, Int.mul_zero, z]
 have hu : 0 <= u * u := Int.mul_nonneg h h
 have hu' : u * u <= 2147483647 * 2147483647 := Int.mul_le_mul (by omega) (by omega) h (by decide)
 have e4 : u64w (u * u) = u * u := u64_in hu (by omega)
 have e5 : sm32 u = u * u := by unfold sm32; rw [e1, e3, Int.zero_mul, z, Int.add_zero, e4, e4]
 unfold sqT
 rw [e1, e2, e3, e4, e5, hp, show decide (u * u < u * u) = false by simp]
 rfl
theorem sq_ok {x : Int} (h : sB x = true) : cond (decide (x < 0)) (sqT (u64w (wr (0 - x)))) (sqT (u64w x)) = some (.tup [wv 0, wv (x * x)]) := by
 have h := sB_iff.1 h
 by_cases hx : x < 0
 ·rw [show decide (x < 0) = true by simpa using hx, cond_true, wr_in (by omega) (by omega), show u64w (0 - x) = 0 - x from u64_in (by omega) (by omega), sqT_ok (by omega) (by omega)]
  rw [show (0 - x) * (0 - x) = x * x by grind]
 ·rw [show decide (x < 0) = false by simpa using hx, cond_false, show u64w x = x from u64_in (by omega) (by omega), sqT_ok (by omega) (by omega)]
theorem less_ok {x y : Int} (hx : sB x = true) (hy : sB y = true) : cond (decide (0 < u64w (u64w (0 * 2) + (y * y).fdiv (2 ^ min (Int.toNat 63) 64)))) (some (bv true))
  (cond (0 == u64w (u64w (0 * 2) + (y * y).fdiv (2 ^ min (Int.toNat 63) 64))) (some (bv (decide (x * x < u64w (y * y * 2))))) (some (bv false))) = some (bv (decide (x * x < 2 * (y * y)))) := by
 obtain ⟨_, _, _, g1, g2⟩ := abs_u hy
 have hp : (2 : Int) ^ min (Int.toNat 63) 64 = 9223372036854775808 := by decide
 have ez : (y * y).fdiv 9223372036854775808 = 0 := by rw [Int.fdiv_eq_ediv_of_nonneg _ (by decide)]; omega
 have z : u64w (u64w (0 * 2) + 0) = 0 := by decide
 rw [hp, ez, z, show u64w (y * y * 2) = y * y * 2 from u64_in (by omega) (by omega), Int.mul_comm (y * y) 2]
 rfl
end Go.Ev
