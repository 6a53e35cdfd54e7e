/- Signs, comparisons and floors as the program computes them. -/
import Derived.Test.YtooikeeckoflpaaDoorSrcB
set_option linter.unusedVariables false
set_option linter.unusedSimpArgs false
namespace Go.Ev

def absV (x : Int) : Int := if wr (0 - x) > x then wr (0 - x) else x
theorem absV_eq {x : Int} (h1 : -1073741824 ≤ x) (h2 : x ≤ 1073741824) : absV x = x.natAbs := by
  unfold absV
  rw [wr_in (by omega) (by omega)]
  split <;> omega
theorem sign_gmax (x : Int) : (if (if x < 1 then x else 1) > -1 then if x < 1 then x else 1 else -1) = x.sign := by
  rcases Int.lt_trichotomy x 0 with h | h | h
  · rw [Int.sign_eq_neg_one_of_neg h]
    have h1 : x < 1 := by omega
    simp only [h1, if_true]
    rw [if_neg (by omega)]
  · subst h; rfl
  · rw [Int.sign_eq_one_of_pos h]
    have h1 : ¬ x < 1 := by omega
    simp only [h1, if_false]
    rfl
theorem u64_in {n : Int} (h : 0 ≤ n) (h' : n < 18446744073709551616) : IntKind.u64.wrap n = n := by
  simp only [IntKind.wrap, IntKind.bits, IntKind.signed]
  simp
  omega
theorem and_mask {x : Int} (h : 0 ≤ x) (h' : x < 4294967296) : ((BitVec.ofInt 64 x &&& BitVec.ofInt 64 4294967295).toNat : Int) = x := by
  obtain ⟨n, rfl⟩ : ∃ n : Nat, x = n := ⟨x.toNat, by omega⟩
  rw [BitVec.toNat_and]
  have e1 : (BitVec.ofInt 64 (n : Int)).toNat = n := by
    rw [BitVec.toNat_ofInt]
    have : ((n : Int) % (2 ^ 64 : Nat)).toNat = n := by
      rw [Int.emod_eq_of_lt (by omega) (by omega)]
      omega
    exact this
  have e2 : (BitVec.ofInt 64 4294967295).toNat = 2 ^ 32 - 1 := by decide
  rw [e1, e2, Nat.and_two_pow_sub_one_eq_mod]
  omega
/-- The product of two small words: its high word is 0. -/
theorem mul64_small {x y : Int} (hx : 0 ≤ x) (hx' : x < 2147483648) (hy : 0 ≤ y) (hy' : y < 2147483648) :
    IntKind.u64.wrap (IntKind.u64.wrap (IntKind.u64.wrap (x.fdiv (2 ^ min (Int.toNat 32) 64) * y.fdiv (2 ^ min (Int.toNat 32) 64)) +
        (IntKind.u64.wrap (IntKind.u64.wrap (x.fdiv (2 ^ min (Int.toNat 32) 64) * IntKind.u64.wrap ↑(BitVec.ofInt 64 y &&& BitVec.ofInt 64 4294967295).toNat) +
                (IntKind.u64.wrap (IntKind.u64.wrap ↑(BitVec.ofInt 64 x &&& BitVec.ofInt 64 4294967295).toNat * IntKind.u64.wrap ↑(BitVec.ofInt 64 y &&& BitVec.ofInt 64 4294967295).toNat)).fdiv
                  (2 ^ min (Int.toNat 32) 64))).fdiv (2 ^ min (Int.toNat 32) 64)) +
    (IntKind.u64.wrap (IntKind.u64.wrap ↑(BitVec.ofInt 64 (IntKind.u64.wrap (IntKind.u64.wrap (x.fdiv (2 ^ min (Int.toNat 32) 64) * IntKind.u64.wrap ↑(BitVec.ofInt 64 y &&& BitVec.ofInt 64 4294967295).toNat) +
                          (IntKind.u64.wrap (IntKind.u64.wrap ↑(BitVec.ofInt 64 x &&& BitVec.ofInt 64 4294967295).toNat * IntKind.u64.wrap ↑(BitVec.ofInt 64 y &&& BitVec.ofInt 64 4294967295).toNat)).fdiv
                            (2 ^ min (Int.toNat 32) 64))) &&& BitVec.ofInt 64 4294967295).toNat +
            IntKind.u64.wrap (IntKind.u64.wrap ↑(BitVec.ofInt 64 x &&& BitVec.ofInt 64 4294967295).toNat * y.fdiv (2 ^ min (Int.toNat 32) 64)))).fdiv (2 ^ min (Int.toNat 32) 64)) = 0 ∧
    IntKind.u64.wrap (x * y) = x * y := by
  have hp : (2 : Int) ^ min (Int.toNat 32) 64 = 4294967296 := by decide
  have ex : x.fdiv 4294967296 = 0 := by rw [Int.fdiv_eq_ediv_of_nonneg _ (by decide)]; omega
  have ey : y.fdiv 4294967296 = 0 := by rw [Int.fdiv_eq_ediv_of_nonneg _ (by decide)]; omega
  have hxy : 0 ≤ x * y := Int.mul_nonneg hx hy
  have hxy' : x * y ≤ 2147483647 * 2147483647 := Int.mul_le_mul (by omega) (by omega) hy (by decide)
  have exy : (x * y).fdiv 4294967296 = x * y / 4294967296 := Int.fdiv_eq_ediv_of_nonneg _ (by decide)
  have hq : 0 ≤ x * y / 4294967296 ∧ x * y / 4294967296 < 2147483648 := by omega
  have eq : (x * y / 4294967296).fdiv 4294967296 = 0 := by rw [Int.fdiv_eq_ediv_of_nonneg _ (by decide)]; omega
  rw [hp, and_mask hx (by omega), and_mask hy (by omega), u64_in hx (by omega), u64_in hy (by omega), ex, ey, u64_in (n := x * y) hxy (by omega), exy]
  have z : IntKind.u64.wrap 0 = 0 := by decide
  have zf : (0 : Int).fdiv 4294967296 = 0 := by decide
  simp only [Int.mul_zero, Int.zero_mul, z, Int.zero_add, Int.add_zero]
  rw [u64_in (n := x * y / 4294967296) hq.1 (by omega), and_mask hq.1 (by omega)]
  simp only [eq, z, zf, Int.zero_add, Int.add_zero]
  rw [u64_in (n := x * y / 4294967296) hq.1 (by omega)]
  rw [u64_in (n := x * y / 4294967296) hq.1 (by omega), eq]
  exact ⟨z, trivial⟩
def sB (x : Int) : Bool := inB x (-1073741824) 1073741824
theorem sB_iff {x : Int} : sB x = true ↔ -1073741824 ≤ x ∧ x ≤ 1073741824 := by simp [sB, inB]
theorem abs_u {x : Int} (h : sB x = true) : IntKind.u64.wrap (absV x) = absV x ∧ (decide (0 ≤ absV x) && decide (absV x < 2147483648)) = true ∧ absV x * absV x = x * x ∧ 0 ≤ x * x ∧ x * x ≤ 1073741824 * 1073741824 := by
  have h := sB_iff.1 h
  have e : absV x = x.natAbs := absV_eq h.1 h.2
  have e' := Int.natAbs_mul_self' x
  have h0 : x.natAbs * x.natAbs ≤ 1073741824 * 1073741824 := Nat.mul_le_mul (by omega) (by omega)
  rw [e, u64_in (by omega) (by omega)]
  refine ⟨rfl, by simp; omega, e', sq_nonneg x, ?_⟩
  rw [← e']
  omega
theorem hi_zero {y : Int} (h : sB y = true) : IntKind.u64.wrap ↑(BitVec.ofInt 64 (IntKind.u64.wrap (0 * 2 ^ min (Int.toNat 1) 64)) ||| BitVec.ofInt 64 ((absV y * absV y).fdiv (2 ^ min (Int.toNat 63) 64))).toNat = 0 := by
  obtain ⟨_, _, e, h1, h2⟩ := abs_u h
  have hp : (2 : Int) ^ min (Int.toNat 63) 64 = 9223372036854775808 := by decide
  have ez : (y * y).fdiv 9223372036854775808 = 0 := by rw [Int.fdiv_eq_ediv_of_nonneg _ (by decide)]; omega
  rw [e, hp, ez]
  decide
theorem gt_eq {x y : Int} (hx : sB x = true) (hy : sB y = true) : decide (absV x * absV x > IntKind.u64.wrap (absV y * absV y * 2 ^ min (Int.toNat 1) IntKind.u64.bits)) = decide (x * x > 2 * (y * y)) := by
  obtain ⟨_, _, e, h1, h2⟩ := abs_u hx
  obtain ⟨_, _, f, g1, g2⟩ := abs_u hy
  have hp : (2 : Int) ^ min (Int.toNat 1) IntKind.u64.bits = 2 := by decide
  rw [e, f, hp, u64_in (by omega) (by omega)]
  congr 1
  apply propext
  constructor <;> intro h <;> omega
theorem sgF_alt (x : N3) : cond (x.a.sign == x.b.sign) x.a.sign (cond (x.b.sign == 0) x.a.sign (cond (x.a.sign == 0) x.b.sign (cond (decide (x.a * x.a > 2 * (x.b * x.b))) x.a.sign x.b.sign))) = sgF x := by
  unfold sgF sgZ
  by_cases h1 : x.a.sign = x.b.sign
  · simp [h1]
  · by_cases h2 : x.b.sign = 0
    · simp [h2]
    · have e1 : (x.a.sign == x.b.sign) = false := beq_eq_false_iff_ne.2 h1
      have e2 : (x.b.sign == 0) = false := beq_eq_false_iff_ne.2 h2
      rw [e1, e2, if_neg (by omega)]
      simp only [cond_false]
      by_cases h3 : x.a.sign = 0
      · rw [if_pos (.inl h3), h3]; rfl
      · have e3 : (x.a.sign == 0) = false := beq_eq_false_iff_ne.2 h3
        rw [e3]
        by_cases h4 : x.a * x.a > 2 * (x.b * x.b)
        · rw [if_neg (by omega)]; simp [h4]
        · rw [if_pos (.inr h4)]; simp [h4]
/-- Numbers whose comparison stays in range. -/
theorem cmp_ok {x y : N3} (hx : validB x = true) (hy : validB y = true) : (sB (subF x y).a && sB (subF x y).b) = true := by
  obtain ⟨A, B, v, a1, a2⟩ := valid_val hx
  obtain ⟨C, D, w, b1, b2⟩ := valid_val hy
  have h := (v.sub w (by decide) (by omega) (by omega) (by omega) (by omega)).1.bd
  rw [Bool.and_eq_true]
  exact ⟨sB_iff.2 (by omega), sB_iff.2 (by omega)⟩
theorem sg_ok {x : N3} (hx : validB x = true) : (sB x.a && sB x.b) = true := by
  have := validB_iff.1 hx
  rw [Bool.and_eq_true]
  exact ⟨sB_iff.2 (by omega), sB_iff.2 (by omega)⟩

/-- The whole root by halving. -/
def rtF : Nat → Int → Int → Int → Int
  | 0, _, lo, _ => lo
  | f + 1, n, lo, hi => if lo < hi then (if (lo + hi + 1) / 2 * ((lo + hi + 1) / 2) ≤ n then rtF f n ((lo + hi + 1) / 2) hi else rtF f n lo ((lo + hi + 1) / 2 - 1)) else lo
theorem rtF_spec : ∀ (f : Nat) (n lo hi : Int), 0 ≤ lo → lo ≤ hi → hi - lo < 2 ^ f → lo * lo ≤ n → n < (hi + 1) * (hi + 1) →
    lo ≤ rtF f n lo hi ∧ rtF f n lo hi ≤ hi ∧ rtF f n lo hi * rtF f n lo hi ≤ n ∧ n < (rtF f n lo hi + 1) * (rtF f n lo hi + 1)
  | 0, n, lo, hi, h0, h1, h2, h3, h4 => by
    have : lo = hi := by simp at h2; omega
    subst this
    exact ⟨Int.le_refl _, Int.le_refl _, h3, h4⟩
  | f + 1, n, lo, hi, h0, h1, h2, h3, h4 => by
    unfold rtF
    have hp : (2 : Int) ^ (f + 1) = 2 * 2 ^ f := by rw [Int.pow_succ]; omega
    split
    · split
      · rename_i h
        obtain ⟨a, b, c, d⟩ := rtF_spec f n ((lo + hi + 1) / 2) hi (by omega) (by omega) (by omega) h h4
        exact ⟨by omega, b, c, d⟩
      · rename_i h
        obtain ⟨a, b, c, d⟩ := rtF_spec f n lo ((lo + hi + 1) / 2 - 1) h0 (by omega) (by omega) h3 (by
          rw [show (lo + hi + 1) / 2 - 1 + 1 = (lo + hi + 1) / 2 by omega]; omega)
        exact ⟨a, by omega, c, d⟩
    · have : lo = hi := by omega
      subst this
      exact ⟨Int.le_refl _, Int.le_refl _, h3, h4⟩
/-- The floor as the program computes it. -/
def flN (b : Int) : Int := cond (decide (b < 0)) (-(rtF 21 (2 * b * b) 0 1048576) - 1) (rtF 21 (2 * b * b) 0 1048576)
def flF (x : N3) : Int := (x.a + flN x.b).fdiv (2 ^ x.k.toNat)
theorem rt_ok {b : Int} (h1 : -131072 ≤ b) (h2 : b ≤ 131072) : (0 ≤ rtF 21 (2 * b * b) 0 1048576 ∧ rtF 21 (2 * b * b) 0 1048576 ≤ 1048576) ∧ rtF 21 (2 * b * b) 0 1048576 * rtF 21 (2 * b * b) 0 1048576 ≤ 2 * (b * b) ∧
    2 * (b * b) < (rtF 21 (2 * b * b) 0 1048576 + 1) * (rtF 21 (2 * b * b) 0 1048576 + 1) ∧ wr (wr (2 * b) * b) = 2 * b * b := by
  have e' := Int.natAbs_mul_self' b
  have h0 : b.natAbs * b.natAbs ≤ 131072 * 131072 := Nat.mul_le_mul (by omega) (by omega)
  have e : 2 * b * b = 2 * (b * b) := by grind
  have hb : b * b ≤ 131072 * 131072 := by rw [← e']; omega
  have hn := sq_nonneg b
  obtain ⟨a1, a2, a3, a4⟩ := rtF_spec 21 (2 * b * b) 0 1048576 (by decide) (by decide) (by decide) (by omega) (by omega)
  refine ⟨⟨a1, a2⟩, by omega, by omega, ?_⟩
  rw [wr_in (n := 2 * b) (by omega) (by omega), wr_in (by omega) (by omega)]
def flT (x : N3) : Option AV := cond (decide (x.b < 0)) (cond (decide (0 ≤ x.k)) (some (iv ((wr (x.a + wr (wr (0 - rtF 21 (wr (wr (2 * x.b) * x.b)) 0 1048576) - 1))).fdiv (2 ^ min x.k.toNat 64)))) none)
    (cond (decide (0 ≤ x.k)) (some (iv ((wr (x.a + rtF 21 (wr (wr (2 * x.b) * x.b)) 0 1048576)).fdiv (2 ^ min x.k.toNat 64)))) none)
theorem fl_tree {x : N3} (h : validB x = true) : flT x = some (iv (flF x)) := by
  unfold flT
  obtain ⟨ha, hb, hk, _⟩ := validB_iff.1 h
  obtain ⟨⟨r0, r1⟩, _, _, e⟩ := rt_ok hb.1 hb.2
  have e2 : min x.k.toNat 64 = x.k.toNat := by omega
  rw [show decide (0 ≤ x.k) = true by simpa using hk.1, e, e2]
  unfold flF flN
  generalize rtF 21 (2 * x.b * x.b) 0 1048576 = r at *
  cases decide (x.b < 0) with
  | true =>
    simp only [cond_true]
    rw [wr_in (n := 0 - r) (by omega) (by omega), wr_in (n := 0 - r - 1) (by omega) (by omega), wr_in (by omega) (by omega), show 0 - r - 1 = -r - 1 by omega]
  | false =>
    simp only [cond_true, cond_false]
    rw [wr_in (by omega) (by omega)]
theorem sq_le {m r : Int} (h0 : 0 ≤ m) (h : m ≤ r) : m * m ≤ r * r := Int.mul_le_mul h h h0 (by omega)
theorem sgZ_cases (m c : Int) : (m * m > 2 * (c * c) ∧ sgZ m c = m.sign) ∨ (m * m < 2 * (c * c) ∧ sgZ m c = c.sign) ∨ (m = 0 ∧ c = 0 ∧ sgZ m c = 0) := by
  rcases Int.lt_trichotomy (m * m) (2 * (c * c)) with h | h | h
  · exact .inr (.inl ⟨h, sgZ_neg h⟩)
  · obtain ⟨rfl, rfl⟩ := nm_zero h
    exact .inr (.inr ⟨rfl, rfl, rfl⟩)
  · exact .inl ⟨h, sgZ_pos h⟩
theorem sign_le {a : Int} (h : a ≤ 0) : a.sign ≤ 0 := by
  rcases Int.lt_trichotomy a 0 with h' | h' | h'
  · rw [Int.sign_eq_neg_one_of_neg h']; decide
  · subst h'; decide
  · omega
theorem sg_fl {b m : Int} (h1 : -131072 ≤ b) (h2 : b ≤ 131072) : (m ≤ flN b → sgZ m (-b) ≤ 0) ∧ (flN b < m → 0 < sgZ m (-b)) := by
  obtain ⟨⟨r0, r1⟩, l, u, _⟩ := rt_ok h1 h2
  unfold flN
  generalize rtF 21 (2 * b * b) 0 1048576 = r at *
  have e : -b * -b = b * b := by grind
  have c := sgZ_cases m (-b)
  rw [e] at c
  have em : -m * -m = m * m := by grind
  by_cases hb : b < 0
  · rw [show decide (b < 0) = true by simpa using hb]
    simp only [cond_true]
    refine ⟨fun h => ?_, fun h => ?_⟩
    · have := sq_le (m := r + 1) (r := -m) (by omega) (by omega)
      rcases c with ⟨c1, c2⟩ | ⟨c1, c2⟩ | ⟨c1, c2, c3⟩
      · rw [c2]; exact sign_le (by omega)
      · omega
      · omega
    · rcases c with ⟨c1, c2⟩ | ⟨c1, c2⟩ | ⟨c1, c2, c3⟩
      · rw [c2]
        have : 0 < m := by
          rcases Int.lt_or_le 0 m with hm | hm
          · exact hm
          · have := sq_le (m := -m) (r := r) (by omega) (by omega)
            omega
        rw [Int.sign_eq_one_of_pos this]; decide
      · rw [c2, Int.sign_eq_one_of_pos (by omega)]; decide
      · omega
  · rw [show decide (b < 0) = false by simpa using hb]
    simp only [cond_false]
    refine ⟨fun h => ?_, fun h => ?_⟩
    · rcases c with ⟨c1, c2⟩ | ⟨c1, c2⟩ | ⟨c1, c2, c3⟩
      · rw [c2]
        have : m ≤ 0 := by
          rcases Int.lt_or_le 0 m with hm | hm
          · have := sq_le (m := m) (r := r) (by omega) (by omega)
            omega
          · exact hm
        exact sign_le this
      · rw [c2]; exact sign_le (by omega)
      · omega
    · have := sq_le (m := r + 1) (r := m) (by omega) (by omega)
      rcases c with ⟨c1, c2⟩ | ⟨c1, c2⟩ | ⟨c1, c2, c3⟩
      · rw [c2, Int.sign_eq_one_of_pos (by omega)]; decide
      · omega
      · omega
/-- The comparison of a whole number with another number. -/
theorem cmp_whole {f : Int} {x : N3} (h : validB x = true) (hf : -131073 ≤ f) (hf' : f ≤ 131073) : sgF (subF ⟨f, 0, 0⟩ x) = sgZ (f * 2 ^ x.k.toNat - x.a) (-x.b) := by
  obtain ⟨ha, hb, hk, _⟩ := validB_iff.1 h
  obtain ⟨A, B, v, a1, a2⟩ := valid_val h
  have w : Val 10 ⟨f, 0, 0⟩ (f * 2 ^ 10) 0 := ⟨Int.le_refl _, by show (0 : Int) ≤ 10; decide, by simp, by simp⟩
  have hs := (w.sub v (by decide) (by omega) (by omega) (by omega) (by omega)).1.sg
  rw [hs, v.a, v.b]
  have e : f * 2 ^ 10 = f * 2 ^ x.k.toNat * 2 ^ (10 - x.k.toNat) := by
    rw [Int.mul_assoc, ← Int.pow_add, show x.k.toNat + (10 - x.k.toNat) = 10 by omega]
  rw [e, ← Int.sub_mul, show 0 - x.b * 2 ^ (10 - x.k.toNat) = -x.b * 2 ^ (10 - x.k.toNat) by grind, sgZ_scale]
theorem floor_law {x : N3} (h : validB x = true) : (-131073 ≤ flF x → flF x ≤ 131073 → sgF (subF ⟨flF x, 0, 0⟩ x) ≤ 0) ∧ (-131073 ≤ flF x + 1 → flF x + 1 ≤ 131073 → 0 < sgF (subF ⟨flF x + 1, 0, 0⟩ x)) := by
  obtain ⟨ha, hb, hk, _⟩ := validB_iff.1 h
  have hp : (0 : Int) < 2 ^ x.k.toNat := Int.pow_pos (by decide)
  have e : flF x = (x.a + flN x.b) / 2 ^ x.k.toNat := Int.fdiv_eq_ediv_of_nonneg _ (by omega)
  have d1 := Int.mul_ediv_self_le (x := x.a + flN x.b) (k := 2 ^ x.k.toNat) (by omega)
  have d2 := Int.lt_mul_ediv_self_add (x := x.a + flN x.b) (k := 2 ^ x.k.toNat) hp
  rw [← e] at d1 d2
  refine ⟨fun h1 h2 => ?_, fun h1 h2 => ?_⟩
  · rw [cmp_whole h h1 h2]
    refine (sg_fl hb.1 hb.2).1 ?_
    rw [Int.mul_comm]; omega
  · rw [cmp_whole h h1 h2]
    refine (sg_fl hb.1 hb.2).2 ?_
    rw [Int.mul_comm, Int.mul_add]; omega
end Go.Ev
