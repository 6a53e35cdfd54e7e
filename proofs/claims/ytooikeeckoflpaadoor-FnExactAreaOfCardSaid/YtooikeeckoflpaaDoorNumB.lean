/- Numbers and points: what becomes of signs, and lowest form. -/
import Derived.Test.YtooikeeckoflpaaDoorNumA
set_option linter.unusedVariables false
set_option linter.unusedSimpArgs false
namespace Go.Ev

theorem redF_low : ∀ (m : Nat) (a b k : Int), 0 ≤ k → k ≤ 1152921504606846976 → k.toNat < m → ¬ ((redF m a b k).k > 0 ∧ odd (redF m a b k).a = false ∧ odd (redF m a b k).b = false)
  | 0, a, b, k, _, _, h => by omega
  | m + 1, a, b, k, h0, h1, h => by
    rw [redF_succ]
    split
    · rename_i hc
      have hw : wr (k - 1) = k - 1 := wr_in (by omega) (by omega)
      rw [hw]
      split
      · rename_i hz
        by_cases hm : m = 0
        · subst hm; omega
        · exact redF_low m _ _ 0 (by omega) (by omega) (by omega)
      · exact redF_low m _ _ (k - 1) (by omega) (by omega) (by omega)
    · assumption
theorem red_fix {x : N3} (h : ¬ (x.k > 0 ∧ odd x.a = false ∧ odd x.b = false)) : red x = x := by
  unfold red
  rw [redF_succ, if_neg h]
theorem red_red {x : N3} (h : kB x.k = true) : red (red x) = red x := red_fix (redF_low _ _ _ _ (kB_iff.1 h).1 (kB_iff.1 h).2 (by omega))

/-- Far from where an int wraps. -/
def bdd (M : Int) (x : N3) : Prop := (-M ≤ x.a ∧ x.a ≤ M) ∧ (-M ≤ x.b ∧ x.b ≤ M) ∧ 0 ≤ x.k
theorem tdiv_two {a : Int} (h : odd a = false) : a.tdiv 2 = a / 2 ∧ a = 2 * (a / 2) := by
  have h2 : ¬ a % 2 = 1 := by simpa [odd] using h
  have hd : (2 : Int) ∣ a := by omega
  exact ⟨Int.tdiv_eq_ediv_of_dvd hd, by omega⟩
theorem odd_neg (a : Int) : odd (-a) = odd a := by
  unfold odd
  have : ((-a) % 2 = 1) = (a % 2 = 1) := by apply propext; omega
  simp only [this]
theorem redF_bd : ∀ (m : Nat) (a b k M : Int), M < 9223372036854775808 → -M ≤ a → a ≤ M → -M ≤ b → b ≤ M → (-M ≤ (redF m a b k).a ∧ (redF m a b k).a ≤ M) ∧ -M ≤ (redF m a b k).b ∧ (redF m a b k).b ≤ M
  | 0, a, b, k, M, _, h1, h2, h3, h4 => ⟨⟨h1, h2⟩, h3, h4⟩
  | m + 1, a, b, k, M, hM, h1, h2, h3, h4 => by
    rw [redF_succ]
    split
    · rename_i hc
      obtain ⟨ea, ea'⟩ := tdiv_two hc.2.1
      obtain ⟨eb, eb'⟩ := tdiv_two hc.2.2
      rw [ea, eb, wr_in (by omega) (by omega), wr_in (by omega) (by omega)]
      exact redF_bd m _ _ _ M hM (by omega) (by omega) (by omega) (by omega)
    · exact ⟨⟨h1, h2⟩, h3, h4⟩
theorem redF_neg : ∀ (m : Nat) (a b k : Int), -9223372036854775808 < a → a < 9223372036854775808 → -9223372036854775808 < b → b < 9223372036854775808 →
    redF m (-a) (-b) k = ⟨-(redF m a b k).a, -(redF m a b k).b, (redF m a b k).k⟩
  | 0, a, b, k, _, _, _, _ => rfl
  | m + 1, a, b, k, h1, h2, h3, h4 => by
    rw [redF_succ, redF_succ m a b k, odd_neg, odd_neg]
    by_cases hc : k > 0 ∧ odd a = false ∧ odd b = false
    · rw [if_pos hc, if_pos hc]
      obtain ⟨ea, ea'⟩ := tdiv_two hc.2.1
      obtain ⟨eb, eb'⟩ := tdiv_two hc.2.2
      rw [Int.neg_tdiv, Int.neg_tdiv, ea, eb]
      rw [wr_in (n := a / 2) (by omega) (by omega), wr_in (n := b / 2) (by omega) (by omega), wr_in (n := -(a / 2)) (by omega) (by omega), wr_in (n := -(b / 2)) (by omega) (by omega)]
      have hz : ((-(a / 2) = 0 ∧ -(b / 2) = 0) = (a / 2 = 0 ∧ b / 2 = 0)) := by apply propext; omega
      simp only [hz]
      exact redF_neg m _ _ _ (by omega) (by omega) (by omega) (by omega)
    · rw [if_neg hc, if_neg hc]

def negX (x : N3) : N3 := ⟨-x.a, -x.b, x.k⟩
theorem negF_eq {M : Int} {x : N3} (hM : M < 9223372036854775808) (h : bdd M x) : negF x = negX x := by
  obtain ⟨h1, h2, _⟩ := h
  unfold negF negX
  rw [wr_in (by omega) (by omega), wr_in (by omega) (by omega), Int.zero_sub, Int.zero_sub]
theorem negX_bd {M : Int} {x : N3} (h : bdd M x) : bdd M (negX x) := by
  obtain ⟨h1, h2, h3⟩ := h
  exact ⟨by simp only [negX]; omega, by simp only [negX]; omega, h3⟩
theorem negX_negX (x : N3) : negX (negX x) = x := by simp [negX]
theorem red_neg {M : Int} {x : N3} (hM : M < 9223372036854775808) (h : bdd M x) : red (negX x) = negX (red x) := by
  obtain ⟨h1, h2, _⟩ := h
  exact redF_neg _ _ _ _ (by omega) (by omega) (by omega) (by omega)
theorem red_bd {M : Int} {x : N3} (hM : M < 9223372036854775808) (h : bdd M x) (hk : kB x.k = true) : bdd M (red x) := by
  obtain ⟨h1, h2, h3⟩ := h
  obtain ⟨a1, a2⟩ := redF_bd (x.k.toNat + 1) x.a x.b x.k M hM (by omega) (by omega) (by omega) (by omega)
  exact ⟨a1, a2, (red_k hk).1⟩

/-- Sums of numbers with small K, as they are: no wrap. -/
theorem pow_le {d n : Nat} (h : d ≤ n) : (2 : Int) ^ d ≤ 2 ^ n := by
  have : (2 : Nat) ^ d ≤ 2 ^ n := Nat.pow_le_pow_right (by decide) h
  exact_mod_cast this
theorem shF_in {a M : Int} {d : Nat} (hd : d ≤ 30) (h1 : -M ≤ a) (h2 : a ≤ M) (hM : M ≤ 1073741824) :
    shF a d = a * 2 ^ d ∧ shF (-a) d = -(a * 2 ^ d) ∧ -1152921504606846976 ≤ a * 2 ^ d ∧ a * 2 ^ d ≤ 1152921504606846976 := by
  have hp : (0 : Int) < 2 ^ d := Int.pow_pos (by decide)
  have hq : (2 : Int) ^ d ≤ 2 ^ 30 := pow_le hd
  have e40 : (2 : Int) ^ 30 = 1073741824 := by decide
  rw [e40] at hq
  have l1 : a * 2 ^ d ≤ M * 2 ^ d := Int.mul_le_mul_of_nonneg_right h2 (by omega)
  have l2 : (-M) * 2 ^ d ≤ a * 2 ^ d := Int.mul_le_mul_of_nonneg_right h1 (by omega)
  rw [Int.neg_mul] at l2
  have l3 : M * 2 ^ d ≤ 1073741824 * 1073741824 := Int.mul_le_mul hM hq (by omega) (by decide)
  have e : ∀ b, shF b d = wr (b * 2 ^ d) := fun b => by
    unfold shF
    rw [show (d : Int).toNat = d from rfl, Nat.min_eq_left (by omega)]
  rw [e, e, Int.neg_mul]
  exact ⟨wr_in (by omega) (by omega), wr_in (by omega) (by omega), by omega, by omega⟩
theorem shF_le {a M : Int} {d K : Nat} (hd : d ≤ K) (h1 : -M ≤ a) (h2 : a ≤ M) : -(M * 2 ^ K) ≤ a * 2 ^ d ∧ a * 2 ^ d ≤ M * 2 ^ K := by
  have hp : (0 : Int) < 2 ^ d := Int.pow_pos (by decide)
  have hq : (2 : Int) ^ d ≤ 2 ^ K := pow_le hd
  have hM : 0 ≤ M := by omega
  have l1 : a * 2 ^ d ≤ M * 2 ^ d := Int.mul_le_mul_of_nonneg_right h2 (by omega)
  have l2 : (-M) * 2 ^ d ≤ a * 2 ^ d := Int.mul_le_mul_of_nonneg_right h1 (by omega)
  have l3 : M * 2 ^ d ≤ M * 2 ^ K := Int.mul_le_mul_of_nonneg_left hq hM
  rw [Int.neg_mul] at l2
  omega

/-- Sums: what they are, and of negated ones. -/
theorem addR_in {M : Int} {x y : N3} {K : Nat} (hK : K ≤ 30) (hM : M ≤ 1073741824) (hx : bdd M x) (hy : bdd M y) (kx : x.k ≤ K) (ky : y.k ≤ K) :
    addR (negX x) (negX y) = negX (addR x y) ∧ bdd (2 * (M * 2 ^ K)) (addR x y) ∧ 0 ≤ (addR x y).k ∧ (addR x y).k ≤ K := by
  obtain ⟨x1, x2, x3⟩ := hx
  obtain ⟨y1, y2, y3⟩ := hy
  have hg := gmax_bd x.k y.k
  obtain ⟨d, hd⟩ : ∃ d : Nat, gmax x.k y.k - x.k = d := ⟨(gmax x.k y.k - x.k).toNat, by omega⟩
  obtain ⟨e, he⟩ : ∃ e : Nat, gmax x.k y.k - y.k = e := ⟨(gmax x.k y.k - y.k).toNat, by omega⟩
  have wd : wr (gmax x.k y.k - x.k) = d := by rw [hd]; exact wr_in (by omega) (by omega)
  have we : wr (gmax x.k y.k - y.k) = e := by rw [he]; exact wr_in (by omega) (by omega)
  have hdK : d ≤ K := by omega
  have heK : e ≤ K := by omega
  obtain ⟨a1, a2, a3, a4⟩ := shF_in (a := x.a) (M := M) (d := d) (by omega) x1.1 x1.2 hM
  obtain ⟨b1, b2, b3, b4⟩ := shF_in (a := x.b) (M := M) (d := d) (by omega) x2.1 x2.2 hM
  obtain ⟨c1, c2, c3, c4⟩ := shF_in (a := y.a) (M := M) (d := e) (by omega) y1.1 y1.2 hM
  obtain ⟨d1, d2, d3, d4⟩ := shF_in (a := y.b) (M := M) (d := e) (by omega) y2.1 y2.2 hM
  have s1 := shF_le (a := x.a) hdK x1.1 x1.2
  have s2 := shF_le (a := x.b) hdK x2.1 x2.2
  have s3 := shF_le (a := y.a) heK y1.1 y1.2
  have s4 := shF_le (a := y.b) heK y2.1 y2.2
  have eR : addR x y = ⟨x.a * 2 ^ d + y.a * 2 ^ e, x.b * 2 ^ d + y.b * 2 ^ e, gmax x.k y.k⟩ := by
    unfold addR
    rw [wd, we, a1, b1, c1, d1, wr_in (by omega) (by omega), wr_in (by omega) (by omega)]
  have eN : addR (negX x) (negX y) = ⟨-(x.a * 2 ^ d) + -(y.a * 2 ^ e), -(x.b * 2 ^ d) + -(y.b * 2 ^ e), gmax x.k y.k⟩ := by
    unfold addR negX
    simp only
    rw [wd, we, a2, b2, c2, d2, wr_in (by omega) (by omega), wr_in (by omega) (by omega)]
  refine ⟨?_, ?_, ?_, ?_⟩
  · rw [eR, eN]
    show (⟨_, _, _⟩ : N3) = ⟨-(x.a * 2 ^ d + y.a * 2 ^ e), -(x.b * 2 ^ d + y.b * 2 ^ e), gmax x.k y.k⟩
    rw [Int.neg_add, Int.neg_add]
  · rw [eR]
    refine ⟨?_, ?_, ?_⟩
    · show _ ≤ x.a * 2 ^ d + y.a * 2 ^ e ∧ x.a * 2 ^ d + y.a * 2 ^ e ≤ _; omega
    · show _ ≤ x.b * 2 ^ d + y.b * 2 ^ e ∧ x.b * 2 ^ d + y.b * 2 ^ e ≤ _; omega
    · show 0 ≤ gmax x.k y.k; omega
  · rw [eR]; show 0 ≤ gmax x.k y.k; omega
  · rw [eR]; show gmax x.k y.k ≤ K; omega
theorem addF_in {M : Int} {x y : N3} {K : Nat} (hK : K ≤ 30) (hM : M ≤ 1073741824) (hM2 : 2 * (M * 2 ^ K) < 9223372036854775808) (hx : bdd M x) (hy : bdd M y) (kx : x.k ≤ K) (ky : y.k ≤ K) :
    addF (negX x) (negX y) = negX (addF x y) ∧ bdd (2 * (M * 2 ^ K)) (addF x y) ∧ 0 ≤ (addF x y).k ∧ (addF x y).k ≤ K := by
  obtain ⟨h1, h2, h3, h4⟩ := addR_in hK hM hx hy kx ky
  have hkb : kB (addR x y).k = true := kB_iff.2 (by omega)
  have hk := red_k hkb
  unfold addF
  rw [h1, red_neg hM2 h2]
  exact ⟨rfl, red_bd hM2 h2 hkb, hk.1, by omega⟩
def hN : N3 := ⟨0, 1, 1⟩
theorem mulh {M : Int} {x : N3} (hM : M ≤ 4000000000000000000) (hx : bdd M x) (hk : x.k ≤ 1000) :
    mulF (negX x) hN = negX (mulF x hN) ∧ bdd (2 * M) (mulF x hN) ∧ 0 ≤ (mulF x hN).k ∧ (mulF x hN).k ≤ x.k + 1 := by
  obtain ⟨x1, x2, x3⟩ := hx
  have e1 : mulR x hN = ⟨2 * x.b, x.a, x.k + 1⟩ := by
    unfold mulR hN
    simp only [Int.mul_zero, Int.mul_one]
    rw [wr_in (n := 2 * x.b) (by omega) (by omega), wr_in (n := 0) (by omega) (by omega), wr_in (n := x.a) (by omega) (by omega), wr_in (n := 2 * x.b) (by omega) (by omega), Int.zero_add, Int.add_zero,
      wr_in (n := 2 * x.b) (by omega) (by omega), wr_in (n := x.a) (by omega) (by omega), wr_in (n := x.k + 1) (by omega) (by omega)]
  have e2 : mulR (negX x) hN = ⟨-(2 * x.b), -x.a, x.k + 1⟩ := by
    unfold mulR hN negX
    simp only [Int.mul_zero, Int.mul_one]
    have e3 : 2 * -x.b = -(2 * x.b) := by omega
    rw [e3, wr_in (n := -(2 * x.b)) (by omega) (by omega), wr_in (n := 0) (by omega) (by omega), wr_in (n := -x.a) (by omega) (by omega), wr_in (n := -(2 * x.b)) (by omega) (by omega), Int.zero_add, Int.add_zero,
      wr_in (n := -(2 * x.b)) (by omega) (by omega), wr_in (n := -x.a) (by omega) (by omega), wr_in (n := x.k + 1) (by omega) (by omega)]
  have hb : bdd (2 * M) (mulR x hN) := by rw [e1]; exact ⟨by simp only; omega, by simp only; omega, by simp only; omega⟩
  have hk1 : (mulR x hN).k = x.k + 1 := by rw [e1]
  have hkb : kB (mulR x hN).k = true := kB_iff.2 (by omega)
  have hk' := red_k hkb
  have e4 : mulR (negX x) hN = negX (mulR x hN) := by rw [e1, e2]; rfl
  unfold mulF
  rw [e4, red_neg (M := 2 * M) (by omega) hb]
  exact ⟨rfl, red_bd (by omega) hb hkb, hk'.1, by omega⟩

theorem addR_comm (x y : N3) (h : x.k ≤ y.k ∨ y.k ≤ x.k) : addR x y = addR y x := by
  have g : gmax x.k y.k = gmax y.k x.k := by unfold gmax; split <;> split <;> omega
  unfold addR
  rw [g, Int.add_comm (shF x.a _), Int.add_comm (shF x.b _)]
theorem addF_comm (x y : N3) : addF x y = addF y x := by
  unfold addF
  rw [addR_comm x y (Int.le_total _ _)]
structure P2 where
  x : N3
  y : N3
def P2.av (p : P2) : AV := .agg [.val (.int .i64 p.x.a), .val (.int .i64 p.x.b), .val (.int .i64 p.x.k), .val (.int .i64 p.y.a), .val (.int .i64 p.y.b), .val (.int .i64 p.y.k)]
/-- Small: within these bounds turning wraps nowhere. -/
def okN (x : N3) : Bool := (inB x.a (-67108864) 67108864 && inB x.b (-67108864) 67108864) && inB x.k 0 20
def okP (p : P2) : Bool := okN p.x && okN p.y
def selP (c : Bool) (p : P2) : P2 := ⟨sel c p.x, sel c p.y⟩
def rP (c : Bool) (p : P2) : AV := .tup [(selP c p).av, bv c]
def valP (p : P2) : Bool := validB p.x && validB p.y
def redP (p : P2) : P2 := ⟨red p.x, red p.y⟩
def eqP (p q : P2) : Bool := cond (eq3 p.x q.x) (eq3 p.y q.y) false
theorem eqP_self (p : P2) : eqP p p = true := by simp [eqP, eq3_self]
def addP (p q : P2) : P2 := ⟨addF p.x q.x, addF p.y q.y⟩
def pkP (p q : P2) : Bool := pk p.x q.x && pk p.y q.y

theorem okN_iff {x : N3} : okN x = true ↔ bdd 67108864 x ∧ x.k ≤ 20 := by
  simp only [okN, inB, bdd, Bool.and_eq_true, decide_eq_true_eq]
  omega
theorem okN_neg {x : N3} (h : okN x = true) : okN (negX x) = true := by
  rw [okN_iff] at *
  exact ⟨negX_bd h.1, h.2⟩
theorem okN_negF {x : N3} (h : okN x = true) : negF x = negX x := negF_eq (M := 67108864) (by decide) (okN_iff.1 h).1
theorem okN_valid {x : N3} (h : validB x = true) : okN x = true := by
  obtain ⟨h1, h2, h3, _⟩ := validB_iff.1 h
  rw [okN_iff]
  exact ⟨⟨by omega, by omega, by omega⟩, by omega⟩

def rot90 (p : P2) : P2 := ⟨negX p.y, p.x⟩
def rot45 (p : P2) : P2 := ⟨mulF (subF p.x p.y) hN, mulF (addF p.x p.y) hN⟩
def rotQ : Nat → P2 → P2
  | 0, p => p
  | n + 1, p => rot90 (rotQ n p)
/-- Turned by so many times 45 degrees. -/
def turnF (t : Int) (p : P2) : P2 := rotQ (t.toNat / 2) (cond (t % 2 == 1) (rot45 p) p)

theorem pkm_iff {x y : N3} : pkm x y = true ↔ 0 ≤ x.k ∧ 0 ≤ y.k ∧ x.k + y.k ≤ 1152921504606846976 := by simp [pkm]
/-- All that is needed of the sums and products in a turn. -/
theorem turn_pre {x y : N3} (hx : okN x = true) (hy : okN y = true) : pk x y = true ∧ pkm (subF x y) hN = true ∧ pkm (addF x y) hN = true ∧
    (bdd 281474976710656 (rot45 ⟨x, y⟩).x ∧ (rot45 ⟨x, y⟩).x.k ≤ 21) ∧ (bdd 281474976710656 (rot45 ⟨x, y⟩).y ∧ (rot45 ⟨x, y⟩).y.k ≤ 21) := by
  obtain ⟨bx, kx⟩ := okN_iff.1 hx
  obtain ⟨by', ky⟩ := okN_iff.1 hy
  have e20 : (2 : Int) ^ 20 = 1048576 := by decide
  obtain ⟨_, a2, a3, a4⟩ := addF_in (K := 20) (M := 67108864) (by decide) (by decide) (by rw [e20]; decide) bx by' kx ky
  obtain ⟨_, s2, s3, s4⟩ := addF_in (K := 20) (M := 67108864) (by decide) (by decide) (by rw [e20]; decide) bx (negX_bd by') kx ky
  rw [e20] at a2 s2
  have es : subF x y = addF x (negX y) := by unfold subF; rw [okN_negF hy]
  rw [← es] at s2 s3 s4
  obtain ⟨_, m2, m3, m4⟩ := mulh (M := 2 * (67108864 * 1048576)) (by decide) a2 (by omega)
  obtain ⟨_, n2, n3, n4⟩ := mulh (M := 2 * (67108864 * 1048576)) (by decide) s2 (by omega)
  have b1 := bx.2.2
  have b2 := by'.2.2
  refine ⟨pk_iff.2 (by omega), ?_, ?_, ⟨n2, by show _ ≤ (21 : Int); have : (rot45 ⟨x, y⟩).x.k = (mulF (subF x y) hN).k := rfl; omega⟩, m2, by have : (rot45 ⟨x, y⟩).y.k = (mulF (addF x y) hN).k := rfl; omega⟩
  · exact pkm_iff.2 ⟨s3, by decide, by show (subF x y).k + (1 : Int) ≤ _; omega⟩
  · exact pkm_iff.2 ⟨a3, by decide, by show (addF x y).k + (1 : Int) ≤ _; omega⟩
theorem rot_comm {x y : N3} (hx : okN x = true) (hy : okN y = true) : rot45 (rot90 ⟨x, y⟩) = rot90 (rot45 ⟨x, y⟩) := by
  obtain ⟨bx, kx⟩ := okN_iff.1 hx
  obtain ⟨by', ky⟩ := okN_iff.1 hy
  have e20 : (2 : Int) ^ 20 = 1048576 := by decide
  obtain ⟨a1, a2, a3, a4⟩ := addF_in (K := 20) (M := 67108864) (by decide) (by decide) (by rw [e20]; decide) by' bx ky kx
  rw [e20] at a2
  obtain ⟨m1, _, _, _⟩ := mulh (M := 2 * (67108864 * 1048576)) (by decide) a2 (by omega)
  unfold rot45 rot90
  simp only
  have e1 : subF (negX y) x = negX (addF x y) := by unfold subF; rw [okN_negF hx, a1, addF_comm]
  have e2 : addF (negX y) x = subF x y := by unfold subF; rw [okN_negF hy, addF_comm]
  rw [e1, e2, addF_comm x y, m1]
theorem negF_big {x : N3} (h : bdd 281474976710656 x ∧ x.k ≤ 21) : negF x = negX x := negF_eq (by decide) h.1
def midF (p q : P2) : P2 := ⟨halfF (addF p.x q.x), halfF (addF p.y q.y)⟩
theorem half_pre {x y : N3} (hx : validB x = true) (hy : validB y = true) : pk x y = true ∧ kB (wr ((addF x y).k + 1)) = true ∧ kB (halfF (addF x y)).k = true ∧ red (halfF (addF x y)) = halfF (addF x y) := by
  obtain ⟨_, _, kx, _⟩ := validB_iff.1 hx
  obtain ⟨_, _, ky, _⟩ := validB_iff.1 hy
  have h1 : pk x y = true := pk_iff.2 (by omega)
  have a := addF_k h1
  have g := gmax_bd x.k y.k
  have hw : wr ((addF x y).k + 1) = (addF x y).k + 1 := wr_in (by omega) (by omega)
  have h2 : kB (wr ((addF x y).k + 1)) = true := by rw [hw]; exact kB_iff.2 (by omega)
  have h3 := red_k (x := ⟨(addF x y).a, (addF x y).b, wr ((addF x y).k + 1)⟩) h2
  have h3' := kB_iff.1 h2
  refine ⟨h1, h2, kB_iff.2 ⟨h3.1, Int.le_trans h3.2 h3'.2⟩, red_red h2⟩
theorem mid_pre {p q : P2} (h1 : valP p = true) (h2 : valP q = true) : pkP p q = true ∧ pk p.x q.x = true ∧ pk p.y q.y = true ∧ kB (wr ((addF p.x q.x).k + 1)) = true ∧ kB (wr ((addF p.y q.y).k + 1)) = true ∧
    kB (midF p q).x.k = true ∧ kB (midF p q).y.k = true ∧ redP (midF p q) = midF p q := by
  simp only [valP, Bool.and_eq_true] at h1 h2
  obtain ⟨a1, a2, a3, a4⟩ := half_pre h1.1 h2.1
  obtain ⟨b1, b2, b3, b4⟩ := half_pre h1.2 h2.2
  refine ⟨by simp [pkP, a1, b1], a1, b1, a2, b2, a3, b3, ?_⟩
  unfold redP midF
  rw [a4, b4]
def selN (c : Bool) (x y : N3) : N3 := ⟨cond c x.a y.a, cond c x.b y.b, cond c x.k y.k⟩
def flipP (f : Bool) (p : P2) : P2 := ⟨p.x, selN f (negF p.y) p.y⟩
def quartI : Nat → P2 → P2
  | 0, p => p
  | 1, p => ⟨negF p.y, p.x⟩
  | 2, p => ⟨negF p.x, negF p.y⟩
  | _, p => ⟨p.y, negF p.x⟩
def quartS : Nat → P2 → P2
  | 0, p => p
  | n + 1, p => ⟨negF (quartS n p).y, (quartS n p).x⟩
theorem quartI_eq {p : P2} (hx : negF p.x = negX p.x) (hy : negF p.y = negX p.y) : ∀ q, q < 4 → quartI q p = rotQ q p
  | 0, _ => rfl
  | 1, _ => by simp only [quartI, rotQ, rot90, hy]
  | 2, _ => by simp only [quartI, rotQ, rot90, hx, hy]
  | 3, _ => by simp only [quartI, rotQ, rot90, hx, negX_negX]
theorem okP_iff {p : P2} : okP p = true ↔ okN p.x = true ∧ okN p.y = true := by simp [okP]
theorem rotQ_ok {p : P2} (h : okP p = true) : ∀ q, okP (rotQ q p) = true
  | 0 => h
  | q + 1 => by
    have ih := okP_iff.1 (rotQ_ok h q)
    exact okP_iff.2 ⟨okN_neg ih.2, ih.1⟩
theorem quartS_eq {p : P2} (h : okP p = true) : ∀ q, quartS q p = rotQ q p
  | 0 => rfl
  | q + 1 => by
    have ih := okP_iff.1 (rotQ_ok h q)
    simp only [quartS, rotQ, rot90, quartS_eq h q, okN_negF ih.2]
theorem rot45_rotQ {p : P2} (h : okP p = true) : ∀ q, rot45 (rotQ q p) = rotQ q (rot45 p)
  | 0 => rfl
  | q + 1 => by
    have ih := okP_iff.1 (rotQ_ok h q)
    simp only [rotQ]
    rw [rot_comm ih.1 ih.2, rot45_rotQ h q]
theorem turnI {p : P2} (h : okP p = true) (t : Int) (q : Nat) (hq : q < 4) : (t = 2 * q → quartI q p = turnF t p) ∧ (t = 2 * q + 1 → quartI q (rot45 p) = turnF t p) := by
  have ho := okP_iff.1 h
  constructor
  · intro e
    have e1 : t.toNat / 2 = q := by omega
    have e2 : (t % 2 == 1) = false := by simp; omega
    unfold turnF
    rw [e1, e2, quartI_eq (okN_negF ho.1) (okN_negF ho.2) q hq]
    rfl
  · intro e
    have e1 : t.toNat / 2 = q := by omega
    have e2 : (t % 2 == 1) = true := by simp; omega
    obtain ⟨_, _, _, b1, b2⟩ := turn_pre ho.1 ho.2
    unfold turnF
    rw [e1, e2, quartI_eq (negF_big b1) (negF_big b2) q hq]
    rfl
theorem turnS {p : P2} (h : okP p = true) (t : Int) (q : Nat) : (t = 2 * q → quartS q p = turnF t p) ∧ (t = 2 * q + 1 → rot45 (quartS q p) = turnF t p) := by
  constructor
  · intro e
    have e1 : t.toNat / 2 = q := by omega
    have e2 : (t % 2 == 1) = false := by simp; omega
    unfold turnF
    rw [e1, e2, quartS_eq h]
    rfl
  · intro e
    have e1 : t.toNat / 2 = q := by omega
    have e2 : (t % 2 == 1) = true := by simp; omega
    unfold turnF
    rw [e1, e2, quartS_eq h, rot45_rotQ h]
    rfl
theorem quartS_ok {p : P2} (h : okP p = true) (q : Nat) : pk (quartS q p).x (quartS q p).y = true ∧ pkm (subF (quartS q p).x (quartS q p).y) hN = true ∧ pkm (addF (quartS q p).x (quartS q p).y) hN = true := by
  rw [quartS_eq h]
  have ho := okP_iff.1 (rotQ_ok h q)
  obtain ⟨a, b, c, _⟩ := turn_pre ho.1 ho.2
  exact ⟨a, b, c⟩
theorem flip_ok {p : P2} (h : okP p = true) (f : Bool) : okP (flipP f p) = true := by
  have ho := okP_iff.1 h
  refine okP_iff.2 ⟨ho.1, ?_⟩
  cases f
  · exact ho.2
  · show okN (negF p.y) = true
    rw [okN_negF ho.2]
    exact okN_neg ho.2
theorem inB_iff {x lo hi : Int} : inB x lo hi = true ↔ lo ≤ x ∧ x ≤ hi := by simp [inB]
/-- What is turned stays small enough to be added to a small point. -/
theorem turn_k {p : P2} (h : okP p = true) (t : Int) : (0 ≤ (turnF t p).x.k ∧ (turnF t p).x.k ≤ 21) ∧ 0 ≤ (turnF t p).y.k ∧ (turnF t p).y.k ≤ 21 := by
  have ho := okP_iff.1 h
  obtain ⟨_, _, _, b1, b2⟩ := turn_pre ho.1 ho.2
  have key : ∀ q (r : P2), (0 ≤ r.x.k ∧ r.x.k ≤ 21) → (0 ≤ r.y.k ∧ r.y.k ≤ 21) → (0 ≤ (rotQ q r).x.k ∧ (rotQ q r).x.k ≤ 21) ∧ 0 ≤ (rotQ q r).y.k ∧ (rotQ q r).y.k ≤ 21 := by
    intro q r h1 h2
    induction q with
    | zero => exact ⟨h1, h2⟩
    | succ q ih => exact ⟨ih.2, ih.1⟩
  unfold turnF
  cases (t % 2 == 1) with
  | true => exact key _ _ ⟨b1.1.2.2, b1.2⟩ ⟨b2.1.2.2, b2.2⟩
  | false =>
    have c1 := okN_iff.1 ho.1
    have c2 := okN_iff.1 ho.2
    exact key _ p ⟨c1.1.2.2, Int.le_trans c1.2 (by decide)⟩ ⟨c2.1.2.2, Int.le_trans c2.2 (by decide)⟩
theorem turn_pk {p s : P2} (h : okP p = true) (hs : okP s = true) (t : Int) : pk (turnF t p).x s.x = true ∧ pk (turnF t p).y s.y = true ∧ pkP (turnF t p) s = true ∧
    kB (addP (turnF t p) s).x.k = true ∧ kB (addP (turnF t p) s).y.k = true := by
  have hk := turn_k h t
  have hs' := okP_iff.1 hs
  have c1 := okN_iff.1 hs'.1
  have c2 := okN_iff.1 hs'.2
  have n1 := c1.1.2.2
  have n2 := c2.1.2.2
  have a : pk (turnF t p).x s.x = true := pk_iff.2 (by omega)
  have b : pk (turnF t p).y s.y = true := pk_iff.2 (by omega)
  have a' := addF_k a
  have b' := addF_k b
  have g1 := gmax_bd (turnF t p).x.k s.x.k
  have g2 := gmax_bd (turnF t p).y.k s.y.k
  refine ⟨a, b, by simp [pkP, a, b], kB_iff.2 ⟨a'.1, ?_⟩, kB_iff.2 ⟨b'.1, ?_⟩⟩
  · show (addF (turnF t p).x s.x).k ≤ _; omega
  · show (addF (turnF t p).y s.y).k ≤ _; omega
theorem val_ok {p : P2} (h : valP p = true) : okP p = true := by
  simp only [valP, Bool.and_eq_true] at h
  exact okP_iff.2 ⟨okN_valid h.1, okN_valid h.2⟩
/-- A motion's kind of place: a point moved. -/
def moveF (t : Int) (f : Bool) (s p : P2) : P2 := addP (turnF t (flipP f p)) s
def okM (t : Int) (p s : P2) : Bool := inB t 0 7 && (okP p && okP s)
end Go.Ev
