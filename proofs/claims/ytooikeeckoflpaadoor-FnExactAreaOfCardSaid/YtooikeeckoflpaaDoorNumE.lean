/- Numbers as whole numbers over a fixed power of two: what sums, products and quotients are worth; lowest form is unique. -/
import Derived.Test.YtooikeeckoflpaaDoorNumD
set_option linter.unusedVariables false
set_option linter.unusedSimpArgs false
namespace Go.Ev

/-- 'x is (A + B r) / 2^S'. -/
structure Val (S : Nat) (x : N3) (A B : Int) : Prop where
  k0 : 0 ≤ x.k
  kS : x.k ≤ S
  a : A = x.a * 2 ^ (S - x.k.toNat)
  b : B = x.b * 2 ^ (S - x.k.toNat)
def lowB (x : N3) : Prop := ¬ (x.k > 0 ∧ odd x.a = false ∧ odd x.b = false)

theorem pow_pos2 (n : Nat) : (1 : Int) ≤ 2 ^ n := by have : (0 : Int) < 2 ^ n := Int.pow_pos (by decide); omega
theorem abs_le_mul (a : Int) (n : Nat) : a.natAbs ≤ (a * 2 ^ n).natAbs := by
  rw [Int.natAbs_mul]
  have h := pow_pos2 n
  have : a.natAbs * 1 ≤ a.natAbs * (2 ^ n : Int).natAbs := Nat.mul_le_mul_left _ (by omega)
  omega
theorem Val.bd {S : Nat} {x : N3} {A B : Int} (h : Val S x A B) : x.a.natAbs ≤ A.natAbs ∧ x.b.natAbs ≤ B.natAbs := by
  rw [h.a, h.b]
  exact ⟨abs_le_mul _ _, abs_le_mul _ _⟩
theorem wr_small {n : Int} (h : n.natAbs < 9223372036854775808) : wr n = n := wr_in (by omega) (by omega)
theorem wr_wr_add (u v : Int) : wr (wr u + wr v) = wr (u + v) := by
  obtain ⟨p, hp⟩ := wr_add u
  obtain ⟨q, hq⟩ := wr_add v
  exact wr_congr ⟨p + q, by rw [hp, hq]; omega⟩
theorem wr_wr_mul (u v : Int) : wr (wr u * v) = wr (u * v) := by
  obtain ⟨p, hp⟩ := wr_add u
  exact wr_congr ⟨p * v, by rw [hp]; grind⟩
theorem Val.red {S : Nat} {x : N3} {A B : Int} (h : Val S x A B) (hS : S ≤ 1000000) (hA : A.natAbs < 9223372036854775808) (hB : B.natAbs < 9223372036854775808) : Val S (red x) A B ∧ lowB (red x) := by
  obtain ⟨b1, b2⟩ := h.bd
  have k0 := h.k0
  have kS := h.kS
  have hk : kB x.k = true := kB_iff.2 (by omega)
  obtain ⟨j, j1, j2, j3⟩ := red_pow hk (by omega) (by omega) (by omega) (by omega)
  have hr := red_k hk
  have e : S - (Go.Ev.red x).k.toNat = j + (S - x.k.toNat) := by omega
  refine ⟨⟨hr.1, by omega, ?_, ?_⟩, redF_low _ _ _ _ (by omega) (by omega) (by omega)⟩
  · rw [e, Int.pow_add, ← Int.mul_assoc, ← j1]; exact h.a
  · rw [e, Int.pow_add, ← Int.mul_assoc, ← j2]; exact h.b
theorem Val.addR {S : Nat} {x y : N3} {A B C D : Int} (h : Val S x A B) (g : Val S y C D) (hS : S ≤ 1000000) (hA : (A + C).natAbs < 9223372036854775808) (hB : (B + D).natAbs < 9223372036854775808) :
    Val S (addR x y) (A + C) (B + D) := by
  have hk := h.k0
  have hkS := h.kS
  have gk := g.k0
  have gkS := g.kS
  have hg := gmax_bd x.k y.k
  obtain ⟨d, hd⟩ : ∃ d : Nat, gmax x.k y.k - x.k = d := ⟨(gmax x.k y.k - x.k).toNat, by omega⟩
  obtain ⟨e, he⟩ : ∃ e : Nat, gmax x.k y.k - y.k = e := ⟨(gmax x.k y.k - y.k).toNat, by omega⟩
  have wd : wr (gmax x.k y.k - x.k) = d := by rw [hd]; exact wr_in (by omega) (by omega)
  have we : wr (gmax x.k y.k - y.k) = e := by rw [he]; exact wr_in (by omega) (by omega)
  have e1 : S - x.k.toNat = d + (S - (gmax x.k y.k).toNat) := by omega
  have e2 : S - y.k.toNat = e + (S - (gmax x.k y.k).toNat) := by omega
  have key : ∀ (a c : Int), (a * 2 ^ (S - x.k.toNat) + c * 2 ^ (S - y.k.toNat)).natAbs < 9223372036854775808 →
      a * 2 ^ (S - x.k.toNat) + c * 2 ^ (S - y.k.toNat) = wr (shF a d + shF c e) * 2 ^ (S - (gmax x.k y.k).toNat) := by
    intro a c hb
    have e3 : a * 2 ^ (S - x.k.toNat) + c * 2 ^ (S - y.k.toNat) = (a * 2 ^ d + c * 2 ^ e) * 2 ^ (S - (gmax x.k y.k).toNat) := by
      rw [e1, e2, Int.pow_add, Int.pow_add, ← Int.mul_assoc, ← Int.mul_assoc, ← Int.add_mul]
    have h1 : (a * 2 ^ d + c * 2 ^ e).natAbs < 9223372036854775808 := by
      have := abs_le_mul (a * 2 ^ d + c * 2 ^ e) (S - (gmax x.k y.k).toNat)
      rw [← e3] at this
      omega
    have h2 : wr (shF a d + shF c e) = a * 2 ^ d + c * 2 ^ e := by
      obtain ⟨p, hp⟩ := shF_spec a d
      obtain ⟨q, hq⟩ := shF_spec c e
      rw [wr_congr (m := a * 2 ^ d + c * 2 ^ e) ⟨p + q, by rw [hp, hq]; omega⟩, wr_small h1]
    rw [h2, e3]
  refine ⟨by show 0 ≤ gmax x.k y.k; omega, by show gmax x.k y.k ≤ _; omega, ?_, ?_⟩
  · have := key x.a y.a (by rw [← h.a, ← g.a]; exact hA)
    rw [← h.a, ← g.a] at this
    rw [this]
    show _ = wr (shF x.a (wr (gmax x.k y.k - x.k)) + shF y.a (wr (gmax x.k y.k - y.k))) * _
    rw [wd, we]
    rfl
  · have := key x.b y.b (by rw [← h.b, ← g.b]; exact hB)
    rw [← h.b, ← g.b] at this
    rw [this]
    show _ = wr (shF x.b (wr (gmax x.k y.k - x.k)) + shF y.b (wr (gmax x.k y.k - y.k))) * _
    rw [wd, we]
    rfl
theorem Val.add {S : Nat} {x y : N3} {A B C D : Int} (h : Val S x A B) (g : Val S y C D) (hS : S ≤ 1000000) (hA : (A + C).natAbs < 9223372036854775808) (hB : (B + D).natAbs < 9223372036854775808) :
    Val S (addF x y) (A + C) (B + D) ∧ lowB (addF x y) := (h.addR g hS hA hB).red hS hA hB
theorem Val.mulR {S T : Nat} {x y : N3} {A B C D : Int} (h : Val S x A B) (g : Val T y C D) (hS : S + T ≤ 1000000) (hA : (A * C + 2 * B * D).natAbs < 9223372036854775808) (hB : (A * D + B * C).natAbs < 9223372036854775808) :
    Val (S + T) (mulR x y) (A * C + 2 * B * D) (A * D + B * C) := by
  have hk := h.k0
  have hkS := h.kS
  have gk := g.k0
  have gkS := g.kS
  have ek : wr (x.k + y.k) = x.k + y.k := wr_in (by omega) (by omega)
  have es : S + T - (x.k + y.k).toNat = (S - x.k.toNat) + (T - y.k.toNat) := by omega
  have key : ∀ (z p q : Int), z = p * 2 ^ (S + T - (x.k + y.k).toNat) → p.natAbs ≤ z.natAbs := fun z p q e => by rw [e]; exact abs_le_mul _ _
  have ea : A * C + 2 * B * D = (x.a * y.a + 2 * x.b * y.b) * 2 ^ (S + T - (x.k + y.k).toNat) := by
    rw [h.a, h.b, g.a, g.b, es, Int.pow_add]
    grind
  have eb : A * D + B * C = (x.a * y.b + x.b * y.a) * 2 ^ (S + T - (x.k + y.k).toNat) := by
    rw [h.a, h.b, g.a, g.b, es, Int.pow_add]
    grind
  have wa : wr (wr (x.a * y.a) + wr (wr (2 * x.b) * y.b)) = x.a * y.a + 2 * x.b * y.b := by
    rw [wr_wr_mul, wr_wr_add]
    exact wr_small (Nat.lt_of_le_of_lt (key _ _ 0 ea) hA)
  have wb : wr (wr (x.a * y.b) + wr (x.b * y.a)) = x.a * y.b + x.b * y.a := by
    rw [wr_wr_add]
    exact wr_small (Nat.lt_of_le_of_lt (key _ _ 0 eb) hB)
  refine ⟨by show 0 ≤ wr (x.k + y.k); omega, by show wr (x.k + y.k) ≤ _; omega, ?_, ?_⟩
  · show _ = wr (wr (x.a * y.a) + wr (wr (2 * x.b) * y.b)) * 2 ^ (S + T - (wr (x.k + y.k)).toNat)
    rw [wa, ek]; exact ea
  · show _ = wr (wr (x.a * y.b) + wr (x.b * y.a)) * 2 ^ (S + T - (wr (x.k + y.k)).toNat)
    rw [wb, ek]; exact eb
theorem Val.mul {S T : Nat} {x y : N3} {A B C D : Int} (h : Val S x A B) (g : Val T y C D) (hS : S + T ≤ 1000000) (hA : (A * C + 2 * B * D).natAbs < 9223372036854775808) (hB : (A * D + B * C).natAbs < 9223372036854775808) :
    Val (S + T) (mulF x y) (A * C + 2 * B * D) (A * D + B * C) ∧ lowB (mulF x y) := (h.mulR g hS hA hB).red hS hA hB
theorem Val.neg {S : Nat} {x : N3} {A B : Int} (h : Val S x A B) (hA : A.natAbs < 9223372036854775808) (hB : B.natAbs < 9223372036854775808) : Val S (negF x) (-A) (-B) := by
  obtain ⟨b1, b2⟩ := h.bd
  have e1 : wr (0 - x.a) = -x.a := by rw [Int.zero_sub]; exact wr_small (by omega)
  have e2 : wr (0 - x.b) = -x.b := by rw [Int.zero_sub]; exact wr_small (by omega)
  refine ⟨h.k0, h.kS, ?_, ?_⟩
  · show _ = wr (0 - x.a) * 2 ^ (S - x.k.toNat)
    rw [e1, h.a, Int.neg_mul]
  · show _ = wr (0 - x.b) * 2 ^ (S - x.k.toNat)
    rw [e2, h.b, Int.neg_mul]
theorem Val.sub {S : Nat} {x y : N3} {A B C D : Int} (h : Val S x A B) (g : Val S y C D) (hS : S ≤ 1000000) (hA : (A - C).natAbs < 9223372036854775808) (hB : (B - D).natAbs < 9223372036854775808)
    (hC : C.natAbs < 9223372036854775808) (hD : D.natAbs < 9223372036854775808) : Val S (subF x y) (A - C) (B - D) ∧ lowB (subF x y) := by
  have := h.add (g.neg hC hD) hS (by rw [Int.add_neg_eq_sub]; exact hA) (by rw [Int.add_neg_eq_sub]; exact hB)
  rw [Int.add_neg_eq_sub, Int.add_neg_eq_sub] at this
  exact this
theorem Val.lift {S : Nat} {x : N3} {A B : Int} (h : Val S x A B) (j : Nat) : Val (S + j) x (A * 2 ^ j) (B * 2 ^ j) := by
  have hk := h.k0
  have hkS := h.kS
  have e : S + j - x.k.toNat = (S - x.k.toNat) + j := by omega
  refine ⟨h.k0, by omega, ?_, ?_⟩
  · rw [e, Int.pow_add, ← Int.mul_assoc, ← h.a]
  · rw [e, Int.pow_add, ← Int.mul_assoc, ← h.b]
theorem pow_cancel {a b : Int} {n : Nat} (h : a * 2 ^ n = b * 2 ^ n) : a = b := Int.eq_of_mul_eq_mul_right (by have := pow_pos2 n; omega) h
theorem Val.uniq {S : Nat} {x y : N3} {A B : Int} (h : Val S x A B) (g : Val S y A B) (hx : lowB x) (hy : lowB y) : x = y := by
  have key : ∀ {x y : N3}, Val S x A B → Val S y A B → lowB y → y.k ≤ x.k := by
    intro x y h g hy
    rcases (show x.k < y.k ∨ y.k ≤ x.k by omega) with hl | hl
    · exfalso
      have hk := h.k0
      have hkS := h.kS
      have gk := g.k0
      have gkS := g.kS
      obtain ⟨j, hj⟩ : ∃ j : Nat, y.k = x.k + j + 1 := ⟨(y.k - x.k - 1).toNat, by omega⟩
      have e : S - x.k.toNat = (j + 1) + (S - y.k.toNat) := by omega
      have ev : ∀ (p q : Int), p * 2 ^ (S - x.k.toNat) = q * 2 ^ (S - y.k.toNat) → odd q = false := by
        intro p q hpq
        rw [e, Int.pow_add, ← Int.mul_assoc] at hpq
        have := pow_cancel hpq
        rw [← this, Int.pow_succ, ← Int.mul_assoc]
        unfold odd
        simp
      exact hy ⟨by omega, ev _ _ (h.a.symm.trans g.a), ev _ _ (h.b.symm.trans g.b)⟩
    · exact hl
  have k1 := key h g hy
  have k2 := key g h hx
  have ek : x.k = y.k := by omega
  have ea := h.a.symm.trans g.a
  have eb := h.b.symm.trans g.b
  rw [ek] at ea eb
  have fa := pow_cancel ea
  have fb := pow_cancel eb
  cases x; cases y
  simp only at ek fa fb
  subst ek fa fb
  rfl
theorem Val.mk0 (a b : Int) : Val 0 ⟨a, b, 0⟩ a b := ⟨Int.le_refl _, Int.le_refl _, by simp, by simp⟩
theorem valid_low {x : N3} (h : validB x = true) : lowB x := by
  obtain ⟨_, _, _, h⟩ := validB_iff.1 h
  rintro ⟨h1, h2, h3⟩
  rcases h with h | h | h
  · omega
  · rw [h] at h2; cases h2
  · rw [h] at h3; cases h3
theorem valid_val {x : N3} (h : validB x = true) : ∃ A B : Int, Val 10 x A B ∧ A.natAbs ≤ 134217728 ∧ B.natAbs ≤ 134217728 := by
  obtain ⟨h1, h2, h3, _⟩ := validB_iff.1 h
  have e : (2 : Int) ^ 10 = 1024 := by decide
  have p1 := shF_le (a := x.a) (M := 131072) (d := 10 - x.k.toNat) (K := 10) (by omega) h1.1 h1.2
  have p2 := shF_le (a := x.b) (M := 131072) (d := 10 - x.k.toNat) (K := 10) (by omega) h2.1 h2.2
  rw [e] at p1 p2
  exact ⟨_, _, ⟨h3.1, h3.2, rfl, rfl⟩, by omega, by omega⟩

/-- Quotients by a number whose norm is a power of two, but for its sign. -/
theorem Val.div {S E : Nat} {x y : N3} {A B : Int} (h : Val S x A B) (hp : dvP x y = true) (yk : y.k = 0) (ho : dvOdd y = 1 ∨ dvOdd y = -1) (hn : divN y ≠ 0) (hE : dvE y = E) (hS : S + E ≤ 1000)
    (hA : (A * y.a - 2 * B * y.b).natAbs < 9223372036854775808) (hB : (B * y.a - A * y.b).natAbs < 9223372036854775808) :
    dvOk x y = true ∧ Val (S + E) (dvV x y) (dvOdd y * (A * y.a - 2 * B * y.b)) (dvOdd y * (B * y.a - A * y.b)) ∧ lowB (dvV x y) := by
  obtain ⟨_, y1, y2, _⟩ := dvP_iff.1 hp
  have eC : divC y = ⟨y.a, -y.b, 0⟩ := by unfold divC; rw [Int.zero_sub, wr_in (by omega) (by omega)]
  have e1 : A * y.a + 2 * B * -y.b = A * y.a - 2 * B * y.b := by grind
  have e2 : A * -y.b + B * y.a = B * y.a - A * y.b := by grind
  obtain ⟨hT, _⟩ := h.mul (Val.mk0 y.a (-y.b)) (by omega) (by rw [e1]; exact hA) (by rw [e2]; exact hB)
  rw [← eC, e1, e2] at hT
  change Val (S + 0) (divT x y) _ _ at hT
  rw [Nat.add_zero] at hT
  obtain ⟨t1, t2⟩ := hT.bd
  have tk := hT.k0
  have tkS := hT.kS
  have hm : ∀ z : Int, z.tmod (dvOdd y) = 0 := fun z => by rcases ho with e | e <;> rw [e] <;> simp
  have hd : ∀ z : Int, z.tdiv (dvOdd y) = dvOdd y * z := fun z => by rcases ho with e | e <;> rw [e] <;> simp
  have hab : ∀ z : Int, (dvOdd y * z).natAbs = z.natAbs := fun z => by rcases ho with e | e <;> rw [e] <;> simp
  have hN : (divN y == 0) = false := by simpa using hn
  refine ⟨?_, ?_⟩
  · unfold dvOk
    rw [hN, hm, hm]
    rfl
  · have hK : dvK x y = (divT x y).k + E := by unfold dvK; rw [yk, hE]; omega
    have hK0 : ¬ dvK x y < 0 := by omega
    unfold dvV
    simp only [hK0, decide_false, cond_false]
    rw [hd, hd, wr_small (by rw [hab]; omega), wr_small (by rw [hab]; omega)]
    have hv : Val (S + E) ⟨dvOdd y * (divT x y).a, dvOdd y * (divT x y).b, dvK x y⟩ (dvOdd y * (A * y.a - 2 * B * y.b)) (dvOdd y * (B * y.a - A * y.b)) := by
      have e : S + E - (dvK x y).toNat = S - (divT x y).k.toNat := by omega
      refine ⟨by show 0 ≤ dvK x y; omega, by show dvK x y ≤ _; omega, ?_, ?_⟩
      · show _ = dvOdd y * (divT x y).a * 2 ^ (S + E - (dvK x y).toNat)
        rw [e, Int.mul_assoc (dvOdd y) (divT x y).a, ← hT.a]
      · show _ = dvOdd y * (divT x y).b * 2 ^ (S + E - (dvK x y).toNat)
        rw [e, Int.mul_assoc (dvOdd y) (divT x y).b, ← hT.b]
    exact hv.red (by omega) (by rw [hab]; exact hA) (by rw [hab]; exact hB)
end Go.Ev
