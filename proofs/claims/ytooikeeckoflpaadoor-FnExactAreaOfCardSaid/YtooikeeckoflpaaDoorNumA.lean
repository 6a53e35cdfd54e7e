/- Numbers (A + B r) / 2^K as the program and the reference compute them, with Go's wrap: one function for each of theirs. -/
import Derived.Test.YtooikeeckoflpaaDoorEw
set_option linter.unusedVariables false
set_option linter.unusedSimpArgs false
namespace Go.Ev

def wr (n : Int) : Int := IntKind.i64.wrap n
structure N3 where
  a : Int
  b : Int
  k : Int

def N3.av (x : N3) : AV := .agg [.val (.int .i64 x.a), .val (.int .i64 x.b), .val (.int .i64 x.k)]
def z3 : N3 := ⟨0, 0, 0⟩
def bv (b : Bool) : AV := .val (.bool b)
def iv (n : Int) : AV := .val (.int .i64 n)
def stL (n : Nat) (l : List AV) : List AV := l ++ List.replicate (n - l.length) .non
def sel (c : Bool) (x : N3) : N3 := ⟨cond c x.a 0, cond c x.b 0, cond c x.k 0⟩
def GL0 : Nat → AV := fun _ => .non
theorem gl0 : ∀ g' g k, GL0 g' ≠ .ref g k := fun _ _ _ h => by cases h

def inB (x lo hi : Int) : Bool := decide (x ≥ lo) && decide (x ≤ hi)
def and64 (x y : Int) : Int := IntKind.i64.wrap (BitVec.ofInt IntKind.i64.bits x &&& BitVec.ofInt IntKind.i64.bits y).toNat
def odd (x : Int) : Bool := decide (x % 2 = 1)
def validB (x : N3) : Bool := inB x.a (-131072) 131072 && (inB x.b (-131072) 131072 && (inB x.k 0 10 && (x.k == 0 || (odd x.a || odd x.b))))

/-- With the least K: the program's. -/
def redF : Nat → Int → Int → Int → N3
  | 0, a, b, k => ⟨a, b, k⟩
  | n + 1, a, b, k => if k > 0 ∧ odd a = false ∧ odd b = false then
      redF n (wr (a.tdiv 2)) (wr (b.tdiv 2)) (if wr (a.tdiv 2) = 0 ∧ wr (b.tdiv 2) = 0 then 0 else wr (k - 1))
    else ⟨a, b, k⟩
def red (x : N3) : N3 := redF (x.k.toNat + 1) x.a x.b x.k
/-- With the least K: the reference's. -/
def lowF : Nat → Int → Int → Int → N3
  | 0, a, b, k => ⟨a, b, k⟩
  | n + 1, a, b, k => if k > 0 ∧ odd a = false ∧ odd b = false then lowF n (wr (a.tdiv 2)) (wr (b.tdiv 2)) (wr (k - 1)) else ⟨a, b, k⟩
def low (x : N3) : N3 := if x.a = 0 ∧ x.b = 0 then z3 else lowF (x.k.toNat + 1) x.a x.b x.k

def chkB (x : N3) : Bool := validB (red x)
def chk (x : N3) : N3 := sel (chkB x) (red x)
/-- Bounds for K, so that it never wraps. -/
def kB (k : Int) : Bool := decide (0 ≤ k) && decide (k ≤ 1152921504606846976)
def pk (x y : N3) : Bool := kB x.k && kB y.k
def pkm (x y : N3) : Bool := decide (0 ≤ x.k) && (decide (0 ≤ y.k) && decide (x.k + y.k ≤ 1152921504606846976))

def mulR (x y : N3) : N3 := ⟨wr (wr (x.a * y.a) + wr (wr (2 * x.b) * y.b)), wr (wr (x.a * y.b) + wr (x.b * y.a)), wr (x.k + y.k)⟩
def mulF (x y : N3) : N3 := red (mulR x y)
def negF (x : N3) : N3 := ⟨wr (0 - x.a), wr (0 - x.b), x.k⟩
def gmax (x y : Int) : Int := if y > x then y else x
def shF (x d : Int) : Int := wr (x * 2 ^ min d.toNat 64)
def addR (x y : N3) : N3 := ⟨wr (shF x.a (wr (gmax x.k y.k - x.k)) + shF y.a (wr (gmax x.k y.k - y.k))), wr (shF x.b (wr (gmax x.k y.k - x.k)) + shF y.b (wr (gmax x.k y.k - y.k))), gmax x.k y.k⟩
def addF (x y : N3) : N3 := red (addR x y)
def subF (x y : N3) : N3 := addF x (negF y)
def halfF (x : N3) : N3 := red ⟨x.a, x.b, wr (x.k + 1)⟩

theorem wr_eq (n : Int) : wr n = if n % 18446744073709551616 ≥ 9223372036854775808 then n % 18446744073709551616 - 18446744073709551616 else n % 18446744073709551616 := by
  have : wr n = if (true && decide (n % 18446744073709551616 ≥ 9223372036854775808)) = true then n % 18446744073709551616 - 18446744073709551616 else n % 18446744073709551616 := rfl
  rw [this]
  simp
theorem wr_in {n : Int} (h : -9223372036854775808 ≤ n) (h' : n < 9223372036854775808) : wr n = n := by
  rw [wr_eq]
  split <;> omega
theorem wr_bd (n : Int) : -9223372036854775808 ≤ wr n ∧ wr n < 9223372036854775808 := by
  rw [wr_eq]
  split <;> omega

theorem wr_add (n : Int) : ∃ q : Int, wr n = n + 18446744073709551616 * q := by
  refine ⟨-((n + 9223372036854775808) / 18446744073709551616), ?_⟩
  rw [wr_eq]
  split <;> omega
theorem wr_congr {n m : Int} (h : ∃ q : Int, n = m + 18446744073709551616 * q) : wr n = wr m := by
  obtain ⟨q, rfl⟩ := h
  rw [wr_eq, wr_eq]
  have : (m + 18446744073709551616 * q) % 18446744073709551616 = m % 18446744073709551616 := by omega
  rw [this]
def dblI : Nat → Int → Int
  | 0, a => a
  | n + 1, a => dblI n (wr (a * 2))
theorem dblI_spec : ∀ (d : Nat) (a : Int), ∃ q : Int, dblI d a = a * 2 ^ d + 18446744073709551616 * q
  | 0, a => ⟨0, by simp [dblI]⟩
  | d + 1, a => by
    obtain ⟨q, hq⟩ := dblI_spec d (wr (a * 2))
    obtain ⟨p, hp⟩ := wr_add (a * 2)
    refine ⟨p * 2 ^ d + q, ?_⟩
    simp only [dblI]
    rw [hq, hp, Int.add_mul, Int.pow_succ]
    grind
theorem shF_spec (a : Int) (d : Nat) : ∃ q : Int, shF a d = a * 2 ^ d + 18446744073709551616 * q := by
  unfold shF
  obtain ⟨p, hp⟩ := wr_add (a * 2 ^ min ((d : Int).toNat) 64)
  rw [hp]
  simp only [Int.toNat_natCast]
  by_cases h : d ≤ 64
  · rw [Nat.min_eq_left h]; exact ⟨p, rfl⟩
  · rw [Nat.min_eq_right (by omega)]
    obtain ⟨e, rfl⟩ : ∃ e, d = e + 64 := ⟨d - 64, by omega⟩
    refine ⟨a + p - a * 2 ^ e, ?_⟩
    rw [Int.pow_add]
    have : (2 : Int) ^ 64 = 18446744073709551616 := by decide
    rw [this]
    grind
theorem shF_dbl (a c : Int) (d e : Nat) : wr (dblI d a + dblI e c) = wr (shF a d + shF c e) := by
  apply wr_congr
  obtain ⟨q1, h1⟩ := dblI_spec d a
  obtain ⟨q2, h2⟩ := dblI_spec e c
  obtain ⟨q3, h3⟩ := shF_spec a d
  obtain ⟨q4, h4⟩ := shF_spec c e
  exact ⟨q1 + q2 - q3 - q4, by rw [h1, h2, h3, h4]; omega⟩

theorem kB_iff {k : Int} : kB k = true ↔ 0 ≤ k ∧ k ≤ 1152921504606846976 := by simp [kB]
theorem redF_succ (n : Nat) (a b k : Int) : redF (n + 1) a b k = if k > 0 ∧ odd a = false ∧ odd b = false then
      redF n (wr (a.tdiv 2)) (wr (b.tdiv 2)) (if wr (a.tdiv 2) = 0 ∧ wr (b.tdiv 2) = 0 then 0 else wr (k - 1)) else ⟨a, b, k⟩ := rfl
theorem redF_zero : ∀ (m : Nat) (k : Int), k.toNat ≤ m → redF (m + 1) 0 0 k = ⟨0, 0, if k > 0 then 0 else k⟩
  | 0, k, h => by
    have : ¬ k > 0 := by omega
    simp [redF, this]
  | m + 1, k, h => by
    unfold redF
    by_cases hk : k > 0
    · rw [if_pos ⟨hk, rfl, rfl⟩]
      have e : wr (Int.tdiv 0 2) = 0 := rfl
      rw [e, if_pos ⟨rfl, rfl⟩, redF_zero m 0 (by omega)]
      simp [hk]
    · rw [if_neg (fun h => hk h.1)]
      simp [hk]
/-- More rounds than needed change nothing. -/
theorem redF_more : ∀ (m : Nat) (a b k : Int), k ≤ 1152921504606846976 → k.toNat ≤ m → redF (m + 1) a b k = redF (k.toNat + 1) a b k
  | 0, a, b, k, _, h => by rw [show k.toNat = 0 by omega]
  | m + 1, a, b, k, hk, h => by
    by_cases hk0 : k.toNat = m + 1
    · rw [hk0]
    · have h' : k.toNat ≤ m := by omega
      rw [← redF_more m a b k hk h']
      rw [redF_succ (m + 1) a b k, redF_succ m a b k]
      by_cases hc : k > 0 ∧ odd a = false ∧ odd b = false
      · rw [if_pos hc, if_pos hc]
        obtain ⟨m', rfl⟩ : ∃ m', m = m' + 1 := ⟨m - 1, by omega⟩
        have hw : wr (k - 1) = k - 1 := wr_in (by omega) (by omega)
        by_cases hz : wr (a.tdiv 2) = 0 ∧ wr (b.tdiv 2) = 0
        · rw [if_pos hz]
          rw [redF_more (m' + 1) _ _ 0 (by omega) (by omega), redF_more m' _ _ 0 (by omega) (by omega)]
        · rw [if_neg hz, hw]
          rw [redF_more (m' + 1) _ _ (k - 1) (by omega) (by omega), redF_more m' _ _ (k - 1) (by omega) (by omega)]
      · rw [if_neg hc, if_neg hc]

theorem and64_one (x : Int) : and64 x 1 = x % 2 := by
  unfold and64
  have e : (BitVec.ofInt IntKind.i64.bits x &&& BitVec.ofInt IntKind.i64.bits 1).toNat = (BitVec.ofInt 64 x).toNat % 2 := by
    rw [BitVec.toNat_and]
    show (BitVec.ofInt 64 x).toNat &&& 1 = _
    exact Nat.and_one_is_mod _
  rw [e]
  have h2 : (((BitVec.ofInt 64 x).toNat % 2 : Nat) : Int) = x % 2 := by
    rw [BitVec.toNat_ofInt]
    have : (0 : Int) ≤ x % ((2 ^ 64 : Nat) : Int) := Int.emod_nonneg _ (by decide)
    omega
  rw [h2]
  exact wr_in (by omega) (by omega)
theorem and_eq (x : Int) (c : Int) : (IntKind.i64.wrap ((BitVec.ofInt 64 x &&& BitVec.ofInt 64 1).toNat : Int) == c) = decide (x % 2 = c) := by
  have : IntKind.i64.wrap ((BitVec.ofInt 64 x &&& BitVec.ofInt 64 1).toNat : Int) = x % 2 := and64_one x
  rw [this]
  rfl
theorem odd_zero (x : Int) : decide (x % 2 = 0) = !odd x := by
  unfold odd
  by_cases h : x % 2 = 1
  · simp [h]
  · have : x % 2 = 0 := by omega
    simp [this]
theorem tmod_zero (x : Int) : (x.tmod 2 == 0) = !odd x := by
  have : (x.tmod 2 == 0) = decide (x % 2 = 0) := by
    rw [Bool.eq_iff_iff]
    simp only [beq_iff_eq, decide_eq_true_eq]
    rw [← Int.dvd_iff_tmod_eq_zero]
    omega
  rw [this, odd_zero]
theorem tmod_ne (x : Int) : (x.tmod 2 != 0) = odd x := by
  show (!(x.tmod 2 == 0)) = odd x
  rw [tmod_zero, Bool.not_not]
theorem pkm_kB {x y : N3} (h : pkm x y = true) : kB (wr (x.k + y.k)) = true := by
  simp [pkm] at h
  rw [wr_in (by omega) (by omega)]
  exact kB_iff.2 (by omega)
theorem pk_iff {x y : N3} : pk x y = true ↔ (0 ≤ x.k ∧ x.k ≤ 1152921504606846976) ∧ 0 ≤ y.k ∧ y.k ≤ 1152921504606846976 := by
  simp only [pk, Bool.and_eq_true, kB_iff]
theorem pk_sh {x y : N3} (h : pk x y = true) : decide (0 ≤ wr (gmax x.k y.k - x.k)) = true ∧ decide (0 ≤ wr (gmax x.k y.k - y.k)) = true ∧ kB (gmax x.k y.k) = true := by
  obtain ⟨h1, h2⟩ := pk_iff.1 h
  have hg : gmax x.k y.k ≤ 1152921504606846976 ∧ x.k ≤ gmax x.k y.k ∧ y.k ≤ gmax x.k y.k := by unfold gmax; split <;> omega
  rw [wr_in (by omega) (by omega), wr_in (by omega) (by omega), kB_iff, decide_eq_true_eq, decide_eq_true_eq]
  omega
theorem addR_dbl {x y : N3} (h : pk x y = true) : (⟨wr (dblI (y.k - x.k).toNat x.a + dblI (x.k - y.k).toNat y.a), wr (dblI (y.k - x.k).toNat x.b + dblI (x.k - y.k).toNat y.b), x.k + (y.k - x.k).toNat⟩ : N3) = addR x y := by
  obtain ⟨h1, h2⟩ := pk_iff.1 h
  have e1 : wr (gmax x.k y.k - x.k) = ((y.k - x.k).toNat : Int) := by unfold gmax; split <;> (rw [wr_in (by omega) (by omega)]; omega)
  have e2 : wr (gmax x.k y.k - y.k) = ((x.k - y.k).toNat : Int) := by unfold gmax; split <;> (rw [wr_in (by omega) (by omega)]; omega)
  have e3 : gmax x.k y.k = x.k + (y.k - x.k).toNat := by unfold gmax; split <;> omega
  unfold addR
  rw [e1, e2, shF_dbl, shF_dbl, e3]
def eq3 (x y : N3) : Bool := cond (x.a != y.a) false (cond (x.b != y.b) false (cond (x.k != y.k) false true))
theorem eq3_self (x : N3) : eq3 x x = true := by simp [eq3]
theorem redF_k : ∀ (m : Nat) (a b k : Int), 0 ≤ k → k ≤ 1152921504606846976 → 0 ≤ (redF m a b k).k ∧ (redF m a b k).k ≤ k
  | 0, a, b, k, h, _ => ⟨h, Int.le_refl _⟩
  | m + 1, a, b, k, h, h' => by
    rw [redF_succ]
    split
    · rename_i hc
      have hw : wr (k - 1) = k - 1 := wr_in (by omega) (by omega)
      rw [hw]
      split
      · have := redF_k m (wr (a.tdiv 2)) (wr (b.tdiv 2)) 0 (by omega) (by omega); omega
      · have := redF_k m (wr (a.tdiv 2)) (wr (b.tdiv 2)) (k - 1) (by omega) (by omega); omega
    · exact ⟨h, Int.le_refl _⟩
theorem red_k {x : N3} (h : kB x.k = true) : 0 ≤ (red x).k ∧ (red x).k ≤ x.k := redF_k _ _ _ _ (kB_iff.1 h).1 (kB_iff.1 h).2
theorem validB_iff {x : N3} : validB x = true ↔ (-131072 ≤ x.a ∧ x.a ≤ 131072) ∧ (-131072 ≤ x.b ∧ x.b ≤ 131072) ∧ (0 ≤ x.k ∧ x.k ≤ 10) ∧ (x.k = 0 ∨ odd x.a = true ∨ odd x.b = true) := by
  simp only [validB, inB, Bool.and_eq_true, Bool.or_eq_true, decide_eq_true_eq, beq_iff_eq]
theorem kB_in {k : Int} (h : inB k 0 62 = true) : kB k = true := by
  simp only [inB, Bool.and_eq_true, decide_eq_true_eq] at h
  exact kB_iff.2 (by omega)
theorem gmax_bd (a b : Int) : a ≤ gmax a b ∧ b ≤ gmax a b ∧ (gmax a b = a ∨ gmax a b = b) := by unfold gmax; split <;> omega
theorem addF_k {x y : N3} (h : pk x y = true) : 0 ≤ (addF x y).k ∧ (addF x y).k ≤ gmax x.k y.k := red_k (pk_sh h).2.2
theorem mulF_k {x y : N3} (h : pkm x y = true) : 0 ≤ (mulF x y).k ∧ (mulF x y).k ≤ x.k + y.k := by
  have h1 := red_k (x := mulR x y) (pkm_kB h)
  have h2 : wr (x.k + y.k) = x.k + y.k := by
    simp [pkm] at h
    exact wr_in (by omega) (by omega)
  unfold mulF
  have e : (mulR x y).k = wr (x.k + y.k) := rfl
  rw [e, h2] at h1
  exact h1
theorem vpk {x y : N3} (hx : validB x = true) (hy : validB y = true) : pk x y = true ∧ pkm x y = true ∧ kB (addF x y).k = true ∧ kB (mulF x y).k = true ∧ kB (subF x y).k = true := by
  obtain ⟨_, _, hx, _⟩ := validB_iff.1 hx
  obtain ⟨_, _, hy, _⟩ := validB_iff.1 hy
  have h1 : pk x y = true := pk_iff.2 (by omega)
  have h2 : pkm x y = true := by simp [pkm]; omega
  have h3 : pk x (negF y) = true := pk_iff.2 (by show _ ∧ _ ≤ y.k ∧ y.k ≤ _; omega)
  have a1 := addF_k h1
  have a2 := addF_k h3
  have a3 := mulF_k h2
  have g := gmax_bd x.k y.k
  have a2' : 0 ≤ (subF x y).k ∧ (subF x y).k ≤ gmax x.k y.k := a2
  exact ⟨h1, h2, kB_iff.2 (by omega), kB_iff.2 (by omega), kB_iff.2 (by omega)⟩
/-- What the reader of a result gets: a number, and whether it is one. -/
def opV (c : Bool) (x : N3) : AV := .tup [(sel c (chk x)).av, bv (c && chkB x)]
end Go.Ev
