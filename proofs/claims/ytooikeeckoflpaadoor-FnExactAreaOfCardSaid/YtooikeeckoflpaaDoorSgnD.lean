/- The law of division, for valid numbers. -/
import Derived.Test.YtooikeeckoflpaaDoorSgnC
set_option linter.unusedVariables false
set_option linter.unusedSimpArgs false
namespace Go.Ev

theorem oddL_prod : ∀ (f : Nat) (n e : Int), n ≠ 0 → n.natAbs < 2 ^ f → (oddL f n e).1 * 2 ^ ((oddL f n e).2 - e).toNat = n
  | 0, n, e, hn, hf => by simp at hf; omega
  | f + 1, n, e, hn, hf => by
    unfold oddL
    split
    · rename_i h
      obtain ⟨h1, h2⟩ := tdiv_two h
      rw [h1]
      have hf' : (n / 2).natAbs < 2 ^ f := by rw [Nat.pow_succ] at hf; omega
      have ih := oddL_prod f (n / 2) (e + 1) (by omega) hf'
      obtain ⟨_, _, _, a4, _⟩ := oddL_spec f (n / 2) (e + 1) (by omega) hf'
      have ex : ((oddL f (n / 2) (e + 1)).2 - e).toNat = ((oddL f (n / 2) (e + 1)).2 - (e + 1)).toNat + 1 := by omega
      rw [ex, Int.pow_succ, ← Int.mul_assoc, ih]
      omega
    · simp

/-- What a quotient is worth. -/
structure Quot (x y : N3) (A B : Int) (ta tb d : Int) (E : Nat) : Prop where
  low : lowB (dvV x y)
  val : Val 200 (dvV x y) (ta * 2 ^ (200 - dvK x y).toNat) (tb * 2 ^ (200 - dvK x y).toNat)
  a : A * y.a - 2 * B * y.b = d * ta * 2 ^ (10 - (divT x y).k.toNat)
  b : B * y.a - A * y.b = d * tb * 2 ^ (10 - (divT x y).k.toNat)
  n : y.a * y.a - 2 * y.b * y.b = d * 2 ^ E
  d0 : d ≠ 0
  k : dvK x y = (divT x y).k - y.k + E
  tk : 0 ≤ (divT x y).k ∧ (divT x y).k ≤ 10
  e60 : E ≤ 60

theorem sm_val {x y : N3} {A B : Int} (v : Val 10 x A B) (a1 : A.natAbs ≤ 134217728) (a2 : B.natAbs ≤ 134217728) (hy : validB y = true) :
    Val 10 (divT x y) (A * y.a - 2 * B * y.b) (B * y.a - A * y.b) := by
  obtain ⟨h1, h2, h3, _⟩ := validB_iff.1 hy
  have eC : divC y = ⟨y.a, -y.b, 0⟩ := by unfold divC; rw [Int.zero_sub, wr_in (by omega) (by omega)]
  have e1 : A * y.a + 2 * B * -y.b = A * y.a - 2 * B * y.b := by grind
  have e2 : A * -y.b + B * y.a = B * y.a - A * y.b := by grind
  have m : ∀ {a b : Int}, a.natAbs ≤ 134217728 → b.natAbs ≤ 134217728 → (a * b).natAbs ≤ 18014398509481984 := fun h g => mul_bdN h g
  have m1 := m a1 (b := y.a) (by omega)
  have m2 := m a2 (b := y.b) (by omega)
  have m3 := m a2 (b := y.a) (by omega)
  have m4 := m a1 (b := y.b) (by omega)
  have e3 : 2 * B * y.b = 2 * (B * y.b) := by grind
  obtain ⟨hT, _⟩ := v.mul (Val.mk0 y.a (-y.b)) (by decide) (by rw [e1, e3]; omega) (by rw [e2]; omega)
  rw [← eC, e1, e2] at hT
  exact hT

theorem tmod_mul {a d : Int} (h : (a.tmod d != 0) = false) : a = d * a.tdiv d := by
  have h : a.tmod d = 0 := by simpa using h
  have := Int.mul_tdiv_add_tmod a d
  omega
theorem quot {x y : N3} {A B : Int} (v : Val 10 x A B) (a1 : A.natAbs ≤ 134217728) (a2 : B.natAbs ≤ 134217728) (hx : validB x = true) (hy : validB y = true) (hn : divN y ≠ 0) (ho : dvOk x y = true) :
    Quot x y A B ((divT x y).a.tdiv (dvOdd y)) ((divT x y).b.tdiv (dvOdd y)) (dvOdd y) (dvE y).toNat := by
  have hp := valid_dvP hx hy
  obtain ⟨_, _, _, _, _, hN, hNb⟩ := raw_bd hp
  obtain ⟨yv1, yv2, yv3, _⟩ := validB_iff.1 hy
  have h60 : (divN y).natAbs < 2 ^ 60 := by
    have : (2 : Nat) ^ 60 = 1152921504606846976 := by decide
    omega
  obtain ⟨o1, o2, o3, o4, o5⟩ := oddL_spec 60 (divN y) 0 hn h60
  change odd (dvOdd y) = true at o1
  change dvOdd y ≠ 0 at o2
  change 0 ≤ dvE y at o4
  change dvE y ≤ 0 + 60 at o5
  have op := oddL_prod 60 (divN y) 0 hn h60
  change dvOdd y * 2 ^ (dvE y - 0).toNat = divN y at op
  rw [Int.sub_zero] at op
  have hT := sm_val v a1 a2 hy
  have tk := hT.k0
  have tkS := hT.kS
  unfold dvOk at ho
  rw [show (divN y == 0) = false by simpa using hn] at ho
  simp only [cond_false] at ho
  have d1 : ((divT x y).a.tmod (dvOdd y) != 0) = false := by
    cases h : ((divT x y).a.tmod (dvOdd y) != 0) with
    | false => rfl
    | true => rw [h] at ho; cases ho
  have d2 : ((divT x y).b.tmod (dvOdd y) != 0) = false := by
    cases h : ((divT x y).b.tmod (dvOdd y) != 0) with
    | false => rfl
    | true => rw [d1, h] at ho; cases ho
  have ea := tmod_mul d1
  have eb := tmod_mul d2
  have ba := tdiv_bd (divT x y).a (dvOdd y)
  have bb := tdiv_bd (divT x y).b (dvOdd y)
  obtain ⟨t1, t2⟩ := hT.bd
  have m : ∀ {a b : Int}, a.natAbs ≤ 134217728 → b.natAbs ≤ 131072 → (a * b).natAbs ≤ 17592186044416 := fun h g => by
    rw [Int.natAbs_mul]; exact Nat.mul_le_mul h g
  have m1 := m a1 (b := y.a) (by omega)
  have m2 := m a2 (b := y.b) (by omega)
  have m3 := m a2 (b := y.a) (by omega)
  have m4 := m a1 (b := y.b) (by omega)
  have e3 : 2 * B * y.b = 2 * (B * y.b) := by grind
  have hK : dvK x y = (divT x y).k - y.k + (dvE y).toNat := by unfold dvK; omega
  have hta : ((divT x y).a.tdiv (dvOdd y)).natAbs ≤ 52776558133248 := by rw [e3] at t1; omega
  have htb : ((divT x y).b.tdiv (dvOdd y)).natAbs ≤ 52776558133248 := by omega
  have hv : Val 200 (dvV x y) ((divT x y).a.tdiv (dvOdd y) * 2 ^ (200 - dvK x y).toNat) ((divT x y).b.tdiv (dvOdd y) * 2 ^ (200 - dvK x y).toNat) ∧ lowB (dvV x y) := by
    unfold dvV
    generalize (divT x y).a.tdiv (dvOdd y) = ta at *
    generalize (divT x y).b.tdiv (dvOdd y) = tb at *
    rw [wr_small (n := ta) (by omega), wr_small (n := tb) (by omega)]
    by_cases hk : dvK x y < 0
    · rw [show decide (dvK x y < 0) = true by simpa using hk, cond_true, wr_in (n := 0 - dvK x y) (by omega) (by omega)]
      have sh : ∀ t : Int, t.natAbs ≤ 52776558133248 → shF t (0 - dvK x y) = t * 2 ^ (0 - dvK x y).toNat := fun t ht => by
        have hb := pow_bd (c := t) (M := 52776558133248) (d := (0 - dvK x y).toNat) (K := 10) (by omega) (by omega) (by omega)
        have e10 : (2 : Int) ^ 10 = 1024 := by decide
        rw [e10] at hb
        exact shF_eq (by omega) (by omega) (by omega) (by omega)
      rw [sh ta hta, sh tb htb]
      have ep : ∀ t : Int, t * 2 ^ (200 - dvK x y).toNat = t * 2 ^ (0 - dvK x y).toNat * 2 ^ (200 - (0 : Int).toNat) := fun t => by
        rw [Int.mul_assoc, ← Int.pow_add]
        congr 2
        omega
      exact ⟨⟨Int.le_refl _, by show (0 : Int) ≤ 200; decide, ep ta, ep tb⟩, fun h => by have := h.1; simp at this⟩
    · rw [show decide (dvK x y < 0) = false by simpa using hk, cond_false]
      have hv0 : Val (dvK x y).toNat ⟨ta, tb, dvK x y⟩ ta tb := ⟨by show 0 ≤ dvK x y; omega, by show dvK x y ≤ ((dvK x y).toNat : Int); omega, by simp, by simp⟩
      obtain ⟨hr, hl⟩ := hv0.red (by omega) (by omega) (by omega)
      have := hr.lift (200 - dvK x y).toNat
      rw [show (dvK x y).toNat + (200 - dvK x y).toNat = 200 by omega] at this
      exact ⟨this, hl⟩
  refine ⟨hv.2, hv.1, ?_, ?_, ?_, o2, hK, ⟨tk, by exact tkS⟩, by omega⟩
  · rw [hT.a]; conv => lhs; rw [ea]
  · rw [hT.b]; conv => lhs; rw [eb]
  · rw [← hN, op]
theorem quot_mul {x y : N3} {A B C D ta tb d : Int} {E : Nat} (h : Quot x y A B ta tb d E) (hy : validB y = true) (w : Val 10 y C D) :
    ta * 2 ^ (200 - dvK x y).toNat * C + 2 * (ta * 0 + tb * 2 ^ (200 - dvK x y).toNat) * D = A * 2 ^ 200 ∧ ta * 2 ^ (200 - dvK x y).toNat * D + tb * 2 ^ (200 - dvK x y).toNat * C = B * 2 ^ 200 := by
  obtain ⟨_, _, ha, hb, hn, d0, hk, tk, he⟩ := h
  obtain ⟨_, _, ⟨y0, y1⟩, _⟩ := validB_iff.1 hy
  have hC := w.a
  have hD := w.b
  have ex : (2 : Int) ^ (200 - dvK x y).toNat * 2 ^ (10 - y.k.toNat) * 2 ^ E = 2 ^ 200 * 2 ^ (10 - (divT x y).k.toNat) := by
    rw [← Int.pow_add, ← Int.pow_add, ← Int.pow_add]
    congr 1
    omega
  have t0 : (2 : Int) ^ (10 - (divT x y).k.toNat) ≠ 0 := by have := pow_pos2 (10 - (divT x y).k.toNat); omega
  generalize (2 : Int) ^ (200 - dvK x y).toNat = p at *
  generalize (2 : Int) ^ (10 - y.k.toNat) = c at *
  generalize (2 : Int) ^ (10 - (divT x y).k.toNat) = t at *
  generalize (2 : Int) ^ E = e at *
  generalize (2 : Int) ^ 200 = z at *
  subst hC hD
  have dt : d * t ≠ 0 := Int.mul_ne_zero d0 t0
  constructor
  · apply Int.eq_of_mul_eq_mul_right dt
    have : (ta * p * (y.a * c) + 2 * (ta * 0 + tb * p) * (y.b * c)) * (d * t) = p * c * ((d * ta * t) * y.a + 2 * (d * tb * t) * y.b) := by grind
    rw [this, ← ha, ← hb]
    have : p * c * ((A * y.a - 2 * B * y.b) * y.a + 2 * (B * y.a - A * y.b) * y.b) = p * c * A * (y.a * y.a - 2 * y.b * y.b) := by grind
    rw [this, hn]
    have : p * c * A * (d * e) = (p * c * e) * A * d := by grind
    rw [this, ex]
    grind
  · apply Int.eq_of_mul_eq_mul_right dt
    have : (ta * p * (y.b * c) + tb * p * (y.a * c)) * (d * t) = p * c * ((d * ta * t) * y.b + (d * tb * t) * y.a) := by grind
    rw [this, ← ha, ← hb]
    have : p * c * ((A * y.a - 2 * B * y.b) * y.b + (B * y.a - A * y.b) * y.a) = p * c * B * (y.a * y.a - 2 * y.b * y.b) := by grind
    rw [this, hn]
    have : p * c * B * (d * e) = (p * c * e) * B * d := by grind
    rw [this, ex]
    grind
theorem quot_mul' {x y : N3} {A B C D ta tb d : Int} {E : Nat} (h : Quot x y A B ta tb d E) (hy : validB y = true) (w : Val 10 y C D) :
    ta * 2 ^ (200 - dvK x y).toNat * C + 2 * (tb * 2 ^ (200 - dvK x y).toNat) * D = A * 2 ^ 200 ∧ ta * 2 ^ (200 - dvK x y).toNat * D + tb * 2 ^ (200 - dvK x y).toNat * C = B * 2 ^ 200 := by
  have := quot_mul h hy w
  rw [Int.mul_zero, Int.zero_add] at this
  exact this
theorem nrm_ne {y : N3} (hy : validB y = true) (h : sgV y ≠ 0) : divN y ≠ 0 ∧ y.a * y.a - 2 * y.b * y.b ≠ 0 := by
  have hN := (raw_bd (valid_dvP hy hy)).2.2.2.2.2.1
  have e : 2 * y.b * y.b = 2 * (y.b * y.b) := by grind
  have h2 : y.a * y.a - 2 * y.b * y.b ≠ 0 := fun hh => h (by
    obtain ⟨z1, z2⟩ := nm_zero (a := y.a) (b := y.b) (by omega)
    unfold sgV sgF
    rw [hy, z1, z2]
    rfl)
  exact ⟨by rw [hN]; exact h2, h2⟩
theorem pow_back {a b : Int} {m n k : Nat} (h : a * 2 ^ (m + k) = b * 2 ^ (n + k)) : a * 2 ^ m = b * 2 ^ n := by
  rw [Int.pow_add, Int.pow_add, ← Int.mul_assoc, ← Int.mul_assoc] at h
  exact pow_cancel h
/-- A valid quotient times the divisor. -/
theorem div_mul {x y : N3} (hx : validB x = true) (hy : validB y = true) (hn : divN y ≠ 0) (ho : dvOk x y = true) (hq : validB (dvV x y) = true) : mulF (dvV x y) y = x := by
  obtain ⟨A, B, v, a1, a2⟩ := valid_val hx
  obtain ⟨C, D, w, b1, b2⟩ := valid_val hy
  obtain ⟨F, G, u, c1, c2⟩ := valid_val hq
  have Q := quot v a1 a2 hx hy hn ho
  obtain ⟨m1, m2⟩ := quot_mul' Q hy w
  have hv := Q.val
  obtain ⟨s1, s2⟩ := mul_val u c1 c2 w b1 b2
  generalize (divT x y).a.tdiv (dvOdd y) = ta at *
  generalize (divT x y).b.tdiv (dvOdd y) = tb at *
  have ul := u.lift 190
  have e1 : ta * 2 ^ (200 - dvK x y).toNat = F * 2 ^ 190 := by rw [hv.a, ul.a]
  have e2 : tb * 2 ^ (200 - dvK x y).toNat = G * 2 ^ 190 := by rw [hv.b, ul.b]
  rw [e1, e2] at m1 m2
  have k1 : F * C + 2 * G * D = A * 2 ^ 10 := by
    refine pow_cancel (n := 190) ?_
    rw [Int.mul_assoc A, ← Int.pow_add]
    rw [show A * 2 ^ (10 + 190) = A * 2 ^ 200 from rfl, ← m1]
    generalize (2 : Int) ^ 190 = z
    grind
  have k2 : F * D + G * C = B * 2 ^ 10 := by
    refine pow_cancel (n := 190) ?_
    rw [Int.mul_assoc B, ← Int.pow_add]
    rw [show B * 2 ^ (10 + 190) = B * 2 ^ 200 from rfl, ← m2]
    generalize (2 : Int) ^ 190 = z
    grind
  rw [k1, k2] at s1
  exact s1.uniq (v.lift 10) s2 (valid_low hx)
/-- A valid product divided by a factor that is not zero. -/
theorem mul_div {x y : N3} (hx : validB x = true) (hy : validB y = true) (hs : sgV y ≠ 0) (hp : validB (mulF x y) = true) : dvOk (mulF x y) y = true ∧ dvV (mulF x y) y = x := by
  obtain ⟨A, B, v, a1, a2⟩ := valid_val hx
  obtain ⟨C, D, w, b1, b2⟩ := valid_val hy
  obtain ⟨F, G, u, c1, c2⟩ := valid_val hp
  obtain ⟨hn, hn2⟩ := nrm_ne hy hs
  obtain ⟨s1, s2⟩ := mul_val v a1 a2 w b1 b2
  have ul := u.lift 10
  have e1 : A * C + 2 * B * D = F * 2 ^ 10 := by rw [s1.a, ul.a]
  have e2 : A * D + B * C = G * 2 ^ 10 := by rw [s1.b, ul.b]
  have hT := sm_val u c1 c2 hy
  have h60 : (divN y).natAbs < 2 ^ 60 := by
    have := (raw_bd (valid_dvP hy hy)).2.2.2.2.2.2
    have : (2 : Nat) ^ 60 = 1152921504606846976 := by decide
    omega
  obtain ⟨o1, o2, _, o4, _⟩ := oddL_spec 60 (divN y) 0 hn h60
  change odd (dvOdd y) = true at o1
  change dvOdd y ≠ 0 at o2
  have op := oddL_prod 60 (divN y) 0 hn h60
  change dvOdd y * 2 ^ (dvE y - 0).toNat = divN y at op
  have hN := (raw_bd (valid_dvP hy hy)).2.2.2.2.2.1
  have dv : ∀ (t r s : Int), t = r * 2 ^ (10 - (divT (mulF x y) y).k.toNat) → t * 2 ^ 10 = s * (y.a * y.a - 2 * y.b * y.b) → (r.tmod (dvOdd y) != 0) = false := fun t r s h1 h2 => by
    have hd : dvOdd y ∣ r := by
      refine dvd_pow_odd o1 (10 - (divT (mulF x y) y).k.toNat + 10) ⟨s * 2 ^ (dvE y - 0).toNat, ?_⟩
      rw [Int.pow_add, ← Int.mul_assoc, ← h1, h2, ← hN, ← op]
      grind
    have := Int.tmod_eq_zero_of_dvd hd
    rw [this]; rfl
  have hC := w.a
  have hD := w.b
  have d1 := dv _ _ (A * 2 ^ (10 - y.k.toNat)) hT.a (by
    have : (F * y.a - 2 * G * y.b) * 2 ^ 10 = (F * 2 ^ 10) * y.a - 2 * (G * 2 ^ 10) * y.b := by generalize (2 : Int) ^ 10 = z; grind
    rw [this, ← e1, ← e2, hC, hD]
    generalize (2 : Int) ^ (10 - y.k.toNat) = z
    grind)
  have d2 := dv _ _ (B * 2 ^ (10 - y.k.toNat)) hT.b (by
    have : (G * y.a - F * y.b) * 2 ^ 10 = (G * 2 ^ 10) * y.a - (F * 2 ^ 10) * y.b := by generalize (2 : Int) ^ 10 = z; grind
    rw [this, ← e1, ← e2, hC, hD]
    generalize (2 : Int) ^ (10 - y.k.toNat) = z
    grind)
  have ho : dvOk (mulF x y) y = true := by
    unfold dvOk
    rw [show (divN y == 0) = false by simpa using hn, d1, d2]
    rfl
  refine ⟨ho, ?_⟩
  have Q := quot u c1 c2 hp hy hn ho
  obtain ⟨m1, m2⟩ := quot_mul' Q hy w
  have hv := Q.val
  generalize (divT (mulF x y) y).a.tdiv (dvOdd y) = ta at *
  generalize (divT (mulF x y) y).b.tdiv (dvOdd y) = tb at *
  generalize (2 : Int) ^ (200 - dvK (mulF x y) y).toNat = p at *
  have vl := v.lift 190
  have ez : (2 : Int) ^ 200 = 2 ^ 10 * 2 ^ 190 := by rw [← Int.pow_add]
  have f1 : (ta * p - A * 2 ^ 190) * C + 2 * (tb * p - B * 2 ^ 190) * D = 0 := by
    have : (ta * p - A * 2 ^ 190) * C + 2 * (tb * p - B * 2 ^ 190) * D = (ta * p * C + 2 * (tb * p) * D) - (A * C + 2 * B * D) * 2 ^ 190 := by generalize (2 : Int) ^ 190 = z; grind
    rw [this, m1, e1, ez, Int.mul_assoc F, Int.sub_self]
  have f2 : (ta * p - A * 2 ^ 190) * D + (tb * p - B * 2 ^ 190) * C = 0 := by
    have : (ta * p - A * 2 ^ 190) * D + (tb * p - B * 2 ^ 190) * C = (ta * p * D + tb * p * C) - (A * D + B * C) * 2 ^ 190 := by generalize (2 : Int) ^ 190 = z; grind
    rw [this, m2, e2, ez, Int.mul_assoc G, Int.sub_self]
  have hcd : C * C - 2 * D * D ≠ 0 := fun hh => hn2 (by
    have : C * C - 2 * D * D = (y.a * y.a - 2 * y.b * y.b) * (2 ^ (10 - y.k.toNat) * 2 ^ (10 - y.k.toNat)) := by rw [hC, hD]; generalize (2 : Int) ^ (10 - y.k.toNat) = z; grind
    rw [this] at hh
    have hz : (2 : Int) ^ (10 - y.k.toNat) ≠ 0 := by have := pow_pos2 (10 - y.k.toNat); omega
    rcases Int.mul_eq_zero.1 hh with h | h
    · exact h
    · exact absurd h (Int.mul_ne_zero hz hz))
  have g1 : ta * p = A * 2 ^ 190 := by
    have : (ta * p - A * 2 ^ 190) * (C * C - 2 * D * D) = 0 := by
      generalize (2 : Int) ^ 190 = z at *
      have : (ta * p - A * z) * (C * C - 2 * D * D) = ((ta * p - A * z) * C + 2 * (tb * p - B * z) * D) * C - 2 * ((ta * p - A * z) * D + (tb * p - B * z) * C) * D := by grind
      rw [this, f1, f2]
      simp
    rcases Int.mul_eq_zero.1 this with h | h
    · omega
    · exact absurd h hcd
  have g2 : tb * p = B * 2 ^ 190 := by
    have : (tb * p - B * 2 ^ 190) * (C * C - 2 * D * D) = 0 := by
      generalize (2 : Int) ^ 190 = z at *
      have : (tb * p - B * z) * (C * C - 2 * D * D) = ((ta * p - A * z) * D + (tb * p - B * z) * C) * C - ((ta * p - A * z) * C + 2 * (tb * p - B * z) * D) * D := by grind
      rw [this, f1, f2]
      simp
    rcases Int.mul_eq_zero.1 this with h | h
    · omega
    · exact absurd h hcd
  rw [g1, g2] at hv
  exact hv.uniq vl Q.low (valid_low hx)
def dok (x y : N3) : Bool := ((validB x && validB y) && dvOk x y) && chkB (dvV x y)
def dq (x y : N3) : N3 := sel ((validB x && validB y) && dvOk x y) (chk (dvV x y))
def dT17 (x : N3) : Option AV := some (bv (!dok x z3))
def dT12 (x y : N3) : Option AV := cond (opb x y (mulF x y)) (cond (sgV y != 0) (cond (!dok (opn x y (mulF x y)) y) no (cond (!eqN (dq (opn x y (mulF x y)) y) x) no (dT17 x))) (dT17 x)) (dT17 x)
def dT4 (x y : N3) : Option AV := cond (!(dok x y == dok x y)) no (cond (dok x y) (cond (!opb (dq x y) y (mulF (dq x y) y)) no (cond (!eqN (opn (dq x y) y (mulF (dq x y) y)) x) no (cond (!validB (dq x y)) no (dT12 x y)))) (dT12 x y))
theorem eqN_self (x : N3) : eqN x x = true := by simp [eqN]
theorem dvOk_n {x y : N3} (h : dvOk x y = true) : divN y ≠ 0 := fun e => by
  have e' : (divN y == 0) = true := by simpa using e
  unfold dvOk at h
  rw [e'] at h
  cases h
theorem chk_valid {x : N3} (h : validB x = true) : chkB x = true ∧ chk x = x := by
  have hr : red x = x := red_fix (valid_low h)
  have hc : chkB x = true := by unfold chkB; rw [hr]; exact h
  exact ⟨hc, (low_chk (valid_low h) hc).1⟩
theorem div_ok {x y : N3} (hx : validB x = true) (hy : validB y = true) : dT4 x y = some (bv true) := by
  have t17 : dT17 x = some (bv true) := by
    have : dok x z3 = false := by
      unfold dok
      rw [show dvOk x z3 = false from rfl, Bool.and_false]
      rfl
    unfold dT17
    rw [this]
    rfl
  have t12 : dT12 x y = some (bv true) := by
    unfold dT12
    obtain ⟨A, B, v, a1, a2⟩ := valid_val hx
    obtain ⟨C, D, w, b1, b2⟩ := valid_val hy
    obtain ⟨s1, s2⟩ := mul_val v a1 a2 w b1 b2
    cases h1 : opb x y (mulF x y) with
    | false => exact t17
    | true =>
      obtain ⟨k1, k2⟩ := opb_ok s2 h1
      rw [k1]
      cases h2 : (sgV y != 0) with
      | false => exact t17
      | true =>
        have hs : sgV y ≠ 0 := by simpa using h2
        obtain ⟨o1, o2⟩ := mul_div hx hy hs k2
        have hd : dok (mulF x y) y = true := by unfold dok; rw [k2, hy, o1, o2, (chk_valid hx).1]; rfl
        have hq : dq (mulF x y) y = x := by unfold dq; rw [k2, hy, o1, o2, (chk_valid hx).2]; rfl
        rw [hd, hq, eqN_self]
        exact t17
  unfold dT4
  rw [show (!(dok x y == dok x y)) = false by simp]
  simp only [cond_false]
  cases h : dok x y with
  | false => exact t12
  | true =>
    unfold dok at h
    rw [Bool.and_eq_true, Bool.and_eq_true] at h
    obtain ⟨⟨_, ho⟩, hc⟩ := h
    have hn := dvOk_n ho
    obtain ⟨A, B, v, a1, a2⟩ := valid_val hx
    have Q := quot v a1 a2 hx hy hn ho
    obtain ⟨q1, q2⟩ := low_chk Q.low hc
    have hq : dq x y = dvV x y := by unfold dq; rw [hx, hy, ho, q1]; rfl
    have hm := div_mul hx hy hn ho q2
    have h1 : opb (dvV x y) y (mulF (dvV x y) y) = true := by unfold opb; rw [q2, hy, hm, (chk_valid hx).1]; rfl
    have h2 : opn (dvV x y) y (mulF (dvV x y) y) = x := by unfold opn; rw [q2, hy, hm, (chk_valid hx).2]; rfl
    rw [hq, h1, h2, eqN_self, q2]
    exact t12
end Go.Ev
