/- Sums of positive numbers; a closed way of turns has no corner twice. -/
import Derived.Test.YtooikeeckoflpaaDoorPolA
set_option linter.unusedVariables false
set_option linter.unusedSimpArgs false
namespace Go.Ev

theorem sq_lt_of {x y : Int} (hy : 0 ≤ y) (h : y < x) : y * y < x * x := by
  have h1 : y * y ≤ y * x := Int.mul_le_mul_of_nonneg_left (by omega) hy
  have h2 : y * x < x * x := Int.mul_lt_mul_of_pos_right h (by omega)
  omega
theorem prod_le {x y z w : Int} (hy : 0 ≤ y) (hw : 0 ≤ w) (h1 : x * x ≤ 2 * (y * y)) (h2 : z * z ≤ 2 * (w * w)) : x * z ≤ 2 * (y * w) := by
  rcases Int.lt_or_le (2 * (y * w)) (x * z) with h | h
  · exfalso
    have h3 := sq_lt_of (by have := Int.mul_nonneg hy hw; omega) h
    have e1 : x * z * (x * z) = (x * x) * (z * z) := by grind
    have e2 : 2 * (y * w) * (2 * (y * w)) = (2 * (y * y)) * (2 * (w * w)) := by grind
    have h4 : (x * x) * (z * z) ≤ (2 * (y * y)) * (2 * (w * w)) := Int.mul_le_mul h1 h2 (sq_nonneg z) (by have := sq_nonneg y; omega)
    omega
  · exact h
theorem prod_ge {x y z w : Int} (hx : 0 ≤ x) (hz : 0 ≤ z) (h1 : 2 * (y * y) ≤ x * x) (h2 : 2 * (w * w) ≤ z * z) : 2 * (y * w) ≤ x * z := by
  rcases Int.lt_or_le (x * z) (2 * (y * w)) with h | h
  · exfalso
    have h3 := sq_lt_of (Int.mul_nonneg hx hz) h
    have e1 : x * z * (x * z) = (x * x) * (z * z) := by grind
    have e2 : 2 * (y * w) * (2 * (y * w)) = (2 * (y * y)) * (2 * (w * w)) := by grind
    have h4 : (2 * (y * y)) * (2 * (w * w)) ≤ (x * x) * (z * z) := Int.mul_le_mul h1 h2 (by have := sq_nonneg w; omega) (sq_nonneg x)
    omega
  · exact h
/-- Which numbers are positive. -/
def posZ (a b : Int) : Prop := (2 * (b * b) < a * a ∧ 0 < a) ∨ (a * a < 2 * (b * b) ∧ 0 < b)
theorem sgZ_posZ {a b : Int} : 0 < sgZ a b ↔ posZ a b := by
  unfold posZ
  have sg : ∀ x : Int, 0 < x.sign ↔ 0 < x := fun x => Int.sign_pos_iff
  rcases sgZ_cases a b with ⟨h1, h2⟩ | ⟨h1, h2⟩ | ⟨h1, h2, h3⟩
  · rw [h2, sg]
    omega
  · rw [h2, sg]
    omega
  · rw [h3]
    subst h1 h2
    omega
theorem neg_sq (x : Int) : -x * -x = x * x := by grind
theorem posZ_add12 {a b c d : Int} (h1 : 2 * (b * b) < a * a) (h2 : 0 < a) (h3 : c * c < 2 * (d * d)) (h4 : 0 < d) : posZ (a + c) (b + d) := by
  have e1 : (a + c) * (a + c) = a * a + 2 * (a * c) + c * c := by grind
  have e2 : (b + d) * (b + d) = b * b + 2 * (b * d) + d * d := by grind
  rcases Int.lt_trichotomy (2 * ((b + d) * (b + d))) ((a + c) * (a + c)) with h | h | h
  · refine .inl ⟨h, ?_⟩
    rcases Int.lt_or_le 0 (a + c) with h5 | h5
    · exact h5
    · exfalso
      have n1 := neg_sq b
      have n2 := neg_sq (a + c)
      have k := prod_ge (x := a) (z := -(a + c)) (y := -b) (w := b + d) (by omega) (by omega) (by omega) (by omega)
      have e3 : a * -(a + c) = -(a * a) - a * c := by grind
      have e4 : -b * (b + d) = -(b * b) - b * d := by grind
      omega
  · obtain ⟨g1, g2⟩ := nm_zero h.symm
    have : a * a = c * c := by rw [show c = -a by omega]; grind
    have : b * b = d * d := by rw [show d = -b by omega]; grind
    omega
  · refine .inr ⟨h, ?_⟩
    rcases Int.lt_or_le 0 (b + d) with h5 | h5
    · exact h5
    · exfalso
      have n1 := neg_sq c
      have n2 := neg_sq (b + d)
      have k := prod_le (x := -c) (y := d) (z := a + c) (w := -(b + d)) (by omega) (by omega) (by omega) (by omega)
      have e3 : -c * (a + c) = -(a * c) - c * c := by grind
      have e4 : d * -(b + d) = -(b * d) - d * d := by grind
      omega
theorem posZ_add {a b c d : Int} (h : posZ a b) (g : posZ c d) : posZ (a + c) (b + d) := by
  have e1 : (a + c) * (a + c) = a * a + 2 * (a * c) + c * c := by grind
  have e2 : (b + d) * (b + d) = b * b + 2 * (b * d) + d * d := by grind
  rcases h with ⟨h1, h2⟩ | ⟨h1, h2⟩
  · rcases g with ⟨h3, h4⟩ | ⟨h3, h4⟩
    · have k := prod_ge (x := a) (z := c) (y := b) (w := d) (by omega) (by omega) (by omega) (by omega)
      exact .inl ⟨by omega, by omega⟩
    · exact posZ_add12 h1 h2 h3 h4
  · rcases g with ⟨h3, h4⟩ | ⟨h3, h4⟩
    · have := posZ_add12 h3 h4 h1 h2
      rwa [Int.add_comm c a, Int.add_comm d b] at this
    · have k := prod_le (x := a) (z := c) (y := b) (w := d) (by omega) (by omega) (by omega) (by omega)
      exact .inr ⟨by omega, by omega⟩
/-- Nought or positive. -/
def nnZ (a b : Int) : Prop := (a = 0 ∧ b = 0) ∨ posZ a b
theorem nnZ_add {a b c d : Int} (h : nnZ a b) (g : nnZ c d) : nnZ (a + c) (b + d) := by
  rcases h with ⟨rfl, rfl⟩ | h
  · simpa using g
  · rcases g with ⟨rfl, rfl⟩ | g
    · rw [Int.add_zero, Int.add_zero]; exact .inr h
    · exact .inr (posZ_add h g)
theorem pos_nn {a b c d : Int} (h : posZ a b) (g : nnZ c d) : posZ (a + c) (b + d) := by
  rcases g with ⟨rfl, rfl⟩ | g
  · simpa using h
  · exact posZ_add h g
theorem posZ_ne {a b : Int} (h : posZ a b) : ¬ (a = 0 ∧ b = 0) := fun ⟨h1, h2⟩ => by
  subst h1 h2
  rcases h with ⟨_, h⟩ | ⟨_, h⟩ <;> omega
end Go.Ev
namespace Go.Ev
def vecV (d : Int) : V4 := ⟨vC1 d, vE1 d, vC2 d, vE2 d⟩
def sbV (u v : V4) : V4 := ⟨u.a - v.a, u.b - v.b, u.c - v.c, u.d - v.d⟩
theorem dt_sb (e : Int) (u v : V4) : dtA e (sbV u v) = dtA e u - dtA e v ∧ dtB e (sbV u v) = dtB e u - dtB e v := by
  unfold dtA dtB sbV
  constructor <;> grind
theorem par_id (x1 x2 y1 y2 a b c d p q r s : Int) :
    (x1 * x1 + 2 * x2 * x2 + (y1 * y1 + 2 * y2 * y2)) * (p * a + 2 * q * b + (r * c + 2 * s * d)) + 2 * (x1 * x2 + x2 * x1 + (y1 * y2 + y2 * y1)) * (p * b + q * a + (r * d + s * c))
    = (x1 * a + 2 * x2 * b + (y1 * c + 2 * y2 * d)) * (p * x1 + 2 * q * x2 + (r * y1 + 2 * s * y2)) + 2 * (x1 * b + x2 * a + (y1 * d + y2 * c)) * (p * x2 + q * x1 + (r * y2 + s * y1))
      + (x1 * c + 2 * x2 * d - (y1 * a + 2 * y2 * b)) * (x1 * r + 2 * x2 * s - (y1 * p + 2 * y2 * q)) + 2 * (x1 * d + x2 * c - (y1 * b + y2 * a)) * (x1 * s + x2 * r - (y1 * q + y2 * p)) := by grind
theorem par_id2 (x1 x2 y1 y2 a b c d p q r s : Int) :
    (x1 * x1 + 2 * x2 * x2 + (y1 * y1 + 2 * y2 * y2)) * (p * b + q * a + (r * d + s * c)) + (x1 * x2 + x2 * x1 + (y1 * y2 + y2 * y1)) * (p * a + 2 * q * b + (r * c + 2 * s * d))
    = (x1 * a + 2 * x2 * b + (y1 * c + 2 * y2 * d)) * (p * x2 + q * x1 + (r * y2 + s * y1)) + (x1 * b + x2 * a + (y1 * d + y2 * c)) * (p * x1 + 2 * q * x2 + (r * y1 + 2 * s * y2))
      + (x1 * c + 2 * x2 * d - (y1 * a + 2 * y2 * b)) * (x1 * s + x2 * r - (y1 * q + y2 * p)) + (x1 * d + x2 * c - (y1 * b + y2 * a)) * (x1 * r + 2 * x2 * s - (y1 * p + 2 * y2 * q)) := by grind
def dirs16 : List Int := [0, 1, 2, 3, 4, 5, 6, 7, 8, 9, 10, 11, 12, 13, 14, 15]
theorem in_dirs16 {d : Int} (h : inB d 0 15 = true) : d ∈ dirs16 := by
  rcases d16 h with rfl | rfl | rfl | rfl | rfl | rfl | rfl | rfl | rfl | rfl | rfl | rfl | rfl | rfl | rfl | rfl <;> decide
theorem len_all : (dirs16.all fun e => sgD e (vecV e) == 1) = true := by decide +kernel
/-- The sign of the part of a vector in a direction hangs on its own direction alone. -/
theorem sgD_dir {e f : Int} {w : V4} (he : inB e 0 15 = true) (h : isDir e w) : sgD f w = sgD f (vecV e) := by
  obtain ⟨h1, h2, h3⟩ := h
  have n1 : sgD e (vecV e) = 1 := by simpa using List.all_eq_true.1 len_all e (in_dirs16 he)
  have k1 := par_id (vC1 e) (vE1 e) (vC2 e) (vE2 e) w.a w.b w.c w.d (vC1 f) (vE1 f) (vC2 f) (vE2 f)
  have k2 := par_id2 (vC1 e) (vE1 e) (vC2 e) (vE2 e) w.a w.b w.c w.d (vC1 f) (vE1 f) (vC2 f) (vE2 f)
  have g1 : dtA e (vecV e) * dtA f w + 2 * dtB e (vecV e) * dtB f w = dtA e w * dtA f (vecV e) + 2 * dtB e w * dtB f (vecV e) := by
    have c1 : vC1 e * w.c + 2 * vE1 e * w.d - (vC2 e * w.a + 2 * vE2 e * w.b) = 0 := h1
    have c2 : vC1 e * w.d + vE1 e * w.c - (vC2 e * w.b + vE2 e * w.a) = 0 := h2
    rw [c1, c2] at k1
    simp only [Int.mul_zero, Int.zero_mul, Int.add_zero] at k1
    exact k1
  have g2 : dtA e (vecV e) * dtB f w + dtB e (vecV e) * dtA f w = dtA e w * dtB f (vecV e) + dtB e w * dtA f (vecV e) := by
    have c1 : vC1 e * w.c + 2 * vE1 e * w.d - (vC2 e * w.a + 2 * vE2 e * w.b) = 0 := h1
    have c2 : vC1 e * w.d + vE1 e * w.c - (vC2 e * w.b + vE2 e * w.a) = 0 := h2
    rw [c1, c2] at k2
    simp only [Int.mul_zero, Int.zero_mul, Int.add_zero] at k2
    exact k2
  have m1 := sgZ_mul (dtA e (vecV e)) (dtB e (vecV e)) (dtA f w) (dtB f w)
  have m2 := sgZ_mul (dtA e w) (dtB e w) (dtA f (vecV e)) (dtB f (vecV e))
  rw [g1, g2, m2] at m1
  have s1 : sgZ (dtA e w) (dtB e w) = 1 := by have := sgZ_bd (dtA e w) (dtB e w); omega
  have s2 : sgZ (dtA e (vecV e)) (dtB e (vecV e)) = 1 := n1
  rw [s1, s2, Int.one_mul, Int.one_mul] at m1
  exact m1.symm
theorem turn_tab : (dirs16.all fun p => dirs16.all fun e => (!(inB ((e - p) % 16) 1 7) || sgD ((p + 4) % 16) (vecV e) == 1) && (!((e - p) % 16 == 0 || (e - p) % 16 == 8) || sgD ((p + 4) % 16) (vecV e) == 0)) = true := by decide +kernel
theorem turn_pos {p e : Int} {w : V4} (hp : inB p 0 15 = true) (he : inB e 0 15 = true) (h : isDir e w) :
    (inB ((e - p) % 16) 1 7 = true → posZ (dtA ((p + 4) % 16) w) (dtB ((p + 4) % 16) w)) ∧ (inB ((e - p) % 16) 0 8 = true → nnZ (dtA ((p + 4) % 16) w) (dtB ((p + 4) % 16) w)) := by
  have t := List.all_eq_true.1 (List.all_eq_true.1 turn_tab p (in_dirs16 hp)) e (in_dirs16 he)
  simp only [Bool.and_eq_true, Bool.or_eq_true, Bool.not_eq_true'] at t
  obtain ⟨t1, t2⟩ := t
  rw [← sgD_dir he h] at t1 t2
  have f1 : inB ((e - p) % 16) 1 7 = true → posZ (dtA ((p + 4) % 16) w) (dtB ((p + 4) % 16) w) := fun g => by
    rcases t1 with t1 | t1
    · rw [g] at t1; cases t1
    · refine sgZ_posZ.1 ?_
      have : sgD ((p + 4) % 16) w = 1 := by simpa using t1
      show 0 < sgD ((p + 4) % 16) w
      omega
  refine ⟨f1, fun g => ?_⟩
  have g' := inB_iff.1 g
  by_cases k : inB ((e - p) % 16) 1 7 = true
  · exact .inr (f1 k)
  · have k' : ¬ (1 ≤ (e - p) % 16 ∧ (e - p) % 16 ≤ 7) := fun q => k (inB_iff.2 q)
    rcases t2 with t2 | t2
    · exfalso
      have : ¬ ((e - p) % 16 = 0 ∨ (e - p) % 16 = 8) := by simpa using t2
      omega
    · have : sgD ((p + 4) % 16) w = 0 := by simpa using t2
      exact .inl (sgZ_eq_zero this)
/-- A way of turns to the left does not come back within half a turn. -/
theorem way_pos {V : Nat → V4} {D A : Nat → Int} {p : Nat} {n : Nat} (hD : ∀ k, k < n → inB (D k) 0 15 = true ∧ isDir (D k) (sbV (V (k + 1)) (V k))) (hA : ∀ k, k < n → p ≤ k → (D k - D p) % 16 = (A k - A p) % 16) (h1 : inB (A (p + 1) - A p) 1 7 = true) (hp : p < n) :
    ∀ m, p + 2 + m ≤ n → (∀ k, p ≤ k → k < p + 2 + m → 0 ≤ A k - A p ∧ A k - A p ≤ 8) → posZ (dtA ((D p + 4) % 16) (V (p + 2 + m)) - dtA ((D p + 4) % 16) (V p)) (dtB ((D p + 4) % 16) (V (p + 2 + m)) - dtB ((D p + 4) % 16) (V p)) := by
  have one : ∀ k, p ≤ k → k < n → (0 ≤ A k - A p ∧ A k - A p ≤ 8) → nnZ (dtA ((D p + 4) % 16) (V (k + 1)) - dtA ((D p + 4) % 16) (V k)) (dtB ((D p + 4) % 16) (V (k + 1)) - dtB ((D p + 4) % 16) (V k)) := fun k h2 h3 h4 => by
    have := (turn_pos (hD p hp).1 (hD k h3).1 (hD k h3).2).2 (by rw [hA k h3 h2]; exact inB_iff.2 (by omega))
    rwa [(dt_sb _ _ _).1, (dt_sb _ _ _).2] at this
  intro m
  induction m with
  | zero =>
    intro hn hr
    have a0 := one p (Nat.le_refl _) hp ⟨by omega, by omega⟩
    have b1 := inB_iff.1 h1
    have a1 : posZ (dtA ((D p + 4) % 16) (V (p + 1 + 1)) - dtA ((D p + 4) % 16) (V (p + 1))) (dtB ((D p + 4) % 16) (V (p + 1 + 1)) - dtB ((D p + 4) % 16) (V (p + 1))) := by
      have := (turn_pos (hD p hp).1 (hD (p + 1) (by omega)).1 (hD (p + 1) (by omega)).2).1 (by rw [hA (p + 1) (by omega) (by omega)]; exact inB_iff.2 (by omega))
      rwa [(dt_sb _ _ _).1, (dt_sb _ _ _).2] at this
    have := pos_nn a1 a0
    rw [show p + 2 + 0 = p + 1 + 1 by omega]
    rwa [show ∀ x y z : Int, x - y + (y - z) = x - z by intros; omega, show ∀ x y z : Int, x - y + (y - z) = x - z by intros; omega] at this
  | succ m ih =>
    intro hn hr
    have a0 := ih (by omega) fun k h2 h3 => hr k h2 (by omega)
    have a1 := one (p + 2 + m) (by omega) (by omega) (hr _ (by omega) (by omega))
    have := pos_nn a0 a1
    rw [show p + 2 + (m + 1) = p + 2 + m + 1 by omega]
    rwa [show ∀ x y z : Int, y - z + (x - y) = x - z by intros; omega, show ∀ x y z : Int, y - z + (x - y) = x - z by intros; omega] at this
theorem way_ne {V : Nat → V4} {D A : Nat → Int} {p q n : Nat} (hD : ∀ k, k < n → inB (D k) 0 15 = true ∧ isDir (D k) (sbV (V (k + 1)) (V k))) (hA : ∀ k, k < n → p ≤ k → (D k - D p) % 16 = (A k - A p) % 16) (hT : ∀ k, k < n → inB (A (k + 1) - A k) 1 7 = true) (hpq : p < q) (hq : q ≤ n)
    (hr : A (q - 1) - A p ≤ 8) : V q ≠ V p := by
  intro e
  have mono : ∀ m k, k + m ≤ n → A k ≤ A (k + m) := by
    intro m
    induction m with
    | zero => intro k _; exact Int.le_refl _
    | succ m ih => intro k h; have := ih k (by omega); have := inB_iff.1 (hT (k + m) (by omega)); rw [show k + (m + 1) = k + m + 1 by omega]; omega
  by_cases h1 : q = p + 1
  · subst h1
    refine isDir_ne (hD p (by omega)).2 ?_
    rw [e]
    simp [sbV]
  · have := way_pos hD hA (hT p (by omega)) (by omega) (q - p - 2) (by omega) (fun k h2 h3 => by
      have g1 := mono (k - p) p (by omega)
      have g2 := mono (q - 1 - k) k (by omega)
      rw [show p + (k - p) = k by omega] at g1
      rw [show k + (q - 1 - k) = q - 1 by omega] at g2
      omega)
    rw [show p + 2 + (q - p - 2) = q by omega, e] at this
    exact posZ_ne this ⟨by omega, by omega⟩
/-- A closed way of one turn has no corner twice. -/
theorem closed_ne {V : Nat → V4} {D A : Nat → Int} {n : Nat} (hD : ∀ k, k < n → inB (D k) 0 15 = true ∧ isDir (D k) (sbV (V (k + 1)) (V k))) (hA : ∀ p k, k < n → p ≤ k → (D k - D p) % 16 = (A k - A p) % 16) (hT : ∀ k, k < n → inB (A (k + 1) - A k) 1 7 = true)
    (hn : A n - A 0 = 16) (hc : V n = V 0) {j : Nat} (h0 : 0 < j) (hj : j < n) : V j ≠ V 0 := by
  intro e
  have a1 : ¬ A (j - 1) - A 0 ≤ 8 := fun h => way_ne hD (hA 0) hT h0 (by omega) h e
  have a2 : ¬ A (n - 1) - A j ≤ 8 := fun h => way_ne hD (hA j) hT hj (Nat.le_refl _) h (hc.trans e.symm)
  have b1 := inB_iff.1 (hT (j - 1) (by omega))
  have b2 := inB_iff.1 (hT (n - 1) (by omega))
  rw [show j - 1 + 1 = j by omega] at b1
  rw [show n - 1 + 1 = n by omega] at b2
  omega
end Go.Ev
