/- Lines: the vectors of the directions, the reflection of points, the common point. -/
import Derived.Test.YtooikeeckoflpaaDoorNumE
set_option linter.unusedVariables false
set_option linter.unusedSimpArgs false
namespace Go.Ev

def zP : P2 := ⟨z3, z3⟩
def vecT (d : Int) : P2 :=
  if d = 0 then ⟨⟨1, 0, 0⟩, ⟨0, 0, 0⟩⟩ else if d = 1 then ⟨⟨1, 0, 0⟩, ⟨-1, 1, 0⟩⟩ else if d = 2 then ⟨⟨1, 0, 0⟩, ⟨1, 0, 0⟩⟩ else if d = 3 then ⟨⟨-1, 1, 0⟩, ⟨1, 0, 0⟩⟩
  else if d = 4 then ⟨⟨0, 0, 0⟩, ⟨1, 0, 0⟩⟩ else if d = 5 then ⟨⟨1, -1, 0⟩, ⟨1, 0, 0⟩⟩ else if d = 6 then ⟨⟨-1, 0, 0⟩, ⟨1, 0, 0⟩⟩ else ⟨⟨-1, 0, 0⟩, ⟨-1, 1, 0⟩⟩
def vecP (d : Int) : P2 := if d ≥ 8 then ⟨negF (vecT (d - 8)).x, negF (vecT (d - 8)).y⟩ else vecT d
def dotF (p q : P2) : N3 := addF (mulF p.x q.x) (mulF p.y q.y)
def crsF (p q : P2) : N3 := subF (mulF p.x q.y) (mulF p.y q.x)
def pkD (p q : P2) : Bool := pkm p.x q.x && (pkm p.y q.y && pk (mulF p.x q.x) (mulF p.y q.y))
def pkC (p q : P2) : Bool := pkm p.x q.y && (pkm p.y q.x && pk (mulF p.x q.y) (mulF p.y q.x))
def timesF (p : P2) (n : N3) : P2 := ⟨mulF p.x n, mulF p.y n⟩
def pkT (p : P2) (n : N3) : Bool := pkm p.x n && pkm p.y n
def subP (p q : P2) : P2 := ⟨subF p.x q.x, subF p.y q.y⟩
def dvF (x y : N3) : N3 := sel (dvOk x y) (dvV x y)
def nrm (d : Int) : P2 := vecP (wr (d + 4))

/-- A point reflected: the program's way, the reference's way. -/
def rflI (n : P2) (off : N3) (p : P2) : P2 := addP p (timesF n (addF (dvF (subF off (dotF n p)) (dotF n n)) (dvF (subF off (dotF n p)) (dotF n n))))
def rflS (n : P2) (off : N3) (p : P2) : P2 :=
  subP p ⟨mulF (addF (dvF (subF (dotF n p) off) (dotF n n)) (dvF (subF (dotF n p) off) (dotF n n))) n.x, mulF (addF (dvF (subF (dotF n p) off) (dotF n n)) (dvF (subF (dotF n p) off) (dotF n n))) n.y⟩

theorem abs_mul_le {a b : Int} {A B : Nat} (h : a.natAbs ≤ A) (g : b.natAbs ≤ B) : (a * b).natAbs ≤ A * B := by
  rw [Int.natAbs_mul]
  exact Nat.mul_le_mul h g
theorem lin1 {c e A B : Int} {M : Nat} (hc : c.natAbs ≤ 1) (he : e.natAbs ≤ 1) (hA : A.natAbs ≤ M) (hB : B.natAbs ≤ M) :
    (c * A + 2 * e * B).natAbs ≤ 3 * M ∧ (c * B + e * A).natAbs ≤ 2 * M ∧ (A * c + 2 * B * e).natAbs ≤ 3 * M ∧ (A * e + B * c).natAbs ≤ 2 * M := by
  have h1 := abs_mul_le hc hA
  have h2 := abs_mul_le he hB
  have h3 := abs_mul_le hc hB
  have h4 := abs_mul_le he hA
  have e1 : 2 * e * B = 2 * (e * B) := by grind
  have e2 : A * c = c * A := by grind
  have e3 : 2 * B * e = 2 * (e * B) := by grind
  have e4 : A * e = e * A := by grind
  have e5 : B * c = c * B := by grind
  rw [e1, e2, e3, e4, e5]
  omega
theorem pk_val {S T : Nat} {x y : N3} {A B C D : Int} (h : Val S x A B) (g : Val T y C D) (hS : S ≤ 1000) (hT : T ≤ 1000) : pk x y = true ∧ pkm x y = true := by
  have := h.k0
  have := h.kS
  have := g.k0
  have := g.kS
  exact ⟨pk_iff.2 (by omega), pkm_iff.2 (by omega)⟩
theorem pk_of {x y : N3} (hx : 0 ≤ x.k) (hx' : x.k ≤ 1000) (hy : 0 ≤ y.k) (hy' : y.k ≤ 1000) : pk x y = true ∧ pkm x y = true :=
  ⟨pk_iff.2 (by omega), pkm_iff.2 (by omega)⟩

/-- A value and a bound for it. -/
structure VB (S : Nat) (x : N3) (A B : Int) (M : Nat) : Prop where
  v : Val S x A B
  a : A.natAbs ≤ M
  b : B.natAbs ≤ M
theorem abs_add_le {a b : Int} {A B : Nat} (h : a.natAbs ≤ A) (g : b.natAbs ≤ B) : (a + b).natAbs ≤ A + B := Nat.le_trans (Int.natAbs_add_le a b) (Nat.add_le_add h g)
theorem abs_sub_le {a b : Int} {A B : Nat} (h : a.natAbs ≤ A) (g : b.natAbs ≤ B) : (a - b).natAbs ≤ A + B := by omega
section
variable {S : Nat} {x y : N3} {A B C D : Int} {M K : Nat}
theorem VB.add (h : VB S x A B M) (g : VB S y C D K) (hS : S ≤ 1000) (hM : M + K < 9223372036854775808) : VB S (addF x y) (A + C) (B + D) (M + K) ∧ lowB (addF x y) := by
  have h1 := abs_add_le h.a g.a
  have h2 := abs_add_le h.b g.b
  obtain ⟨r, l⟩ := h.v.add g.v (Nat.le_trans hS (by decide)) (Nat.lt_of_le_of_lt h1 hM) (Nat.lt_of_le_of_lt h2 hM)
  exact ⟨⟨r, h1, h2⟩, l⟩
theorem VB.sub (h : VB S x A B M) (g : VB S y C D K) (hS : S ≤ 1000) (hM : M + K < 9223372036854775808) : VB S (subF x y) (A - C) (B - D) (M + K) ∧ lowB (subF x y) := by
  have h1 := abs_sub_le h.a g.a
  have h2 := abs_sub_le h.b g.b
  have hK : K < 9223372036854775808 := Nat.lt_of_le_of_lt (Nat.le_add_left _ _) hM
  obtain ⟨r, l⟩ := h.v.sub g.v (Nat.le_trans hS (by decide)) (Nat.lt_of_le_of_lt h1 hM) (Nat.lt_of_le_of_lt h2 hM) (Nat.lt_of_le_of_lt g.a hK) (Nat.lt_of_le_of_lt g.b hK)
  exact ⟨⟨r, h1, h2⟩, l⟩
theorem two_three (M : Nat) : 2 * M ≤ 3 * M := by omega
theorem VB.vmul {c e : Int} (g : Val 0 y c e) (hc : c.natAbs ≤ 1) (he : e.natAbs ≤ 1) (h : VB S x A B M) (hS : S ≤ 1000) (hM : 3 * M < 9223372036854775808) :
    VB S (mulF y x) (c * A + 2 * e * B) (c * B + e * A) (3 * M) ∧ lowB (mulF y x) := by
  obtain ⟨h1, h2, _, _⟩ := lin1 hc he h.a h.b
  have h3 := Nat.le_trans h2 (two_three M)
  obtain ⟨r, l⟩ := g.mul h.v (by rw [Nat.zero_add]; exact Nat.le_trans hS (by decide)) (Nat.lt_of_le_of_lt h1 hM) (Nat.lt_of_le_of_lt h3 hM)
  rw [Nat.zero_add] at r
  exact ⟨⟨r, h1, h3⟩, l⟩
theorem VB.mulv {c e : Int} (h : VB S x A B M) (g : Val 0 y c e) (hc : c.natAbs ≤ 1) (he : e.natAbs ≤ 1) (hS : S ≤ 1000) (hM : 3 * M < 9223372036854775808) :
    VB S (mulF x y) (A * c + 2 * B * e) (A * e + B * c) (3 * M) ∧ lowB (mulF x y) := by
  obtain ⟨_, _, h1, h2⟩ := lin1 hc he h.a h.b
  have h3 := Nat.le_trans h2 (two_three M)
  obtain ⟨r, l⟩ := h.v.mul g (by rw [Nat.add_zero]; exact Nat.le_trans hS (by decide)) (Nat.lt_of_le_of_lt h1 hM) (Nat.lt_of_le_of_lt h3 hM)
  rw [Nat.add_zero] at r
  exact ⟨⟨r, h1, h3⟩, l⟩
theorem VB.pk (h : VB S x A B M) (g : VB S y C D K) (hS : S ≤ 1000) : pk x y = true := (pk_val h.v g.v hS hS).1
theorem VB.kB (h : VB S x A B M) (hS : S ≤ 1000) : Go.Ev.kB x.k = true := kB_iff.2 (by have := h.v.k0; have := h.v.kS; clear h; omega)
end

/-- The scalar product with a vector of a direction. -/
theorem dot_val {c1 e1 c2 e2 : Int} {S M : Nat} {p : P2} {X1 X2 Y1 Y2 : Int} (h1 : c1.natAbs ≤ 1) (h2 : e1.natAbs ≤ 1) (h3 : c2.natAbs ≤ 1) (h4 : e2.natAbs ≤ 1) (hx : VB S p.x X1 X2 M) (hy : VB S p.y Y1 Y2 M)
    (hS : S ≤ 1000) (hM : 3 * M + 3 * M < 9223372036854775808) :
    pkD ⟨⟨c1, e1, 0⟩, ⟨c2, e2, 0⟩⟩ p = true ∧ (∃ A B, VB S (dotF ⟨⟨c1, e1, 0⟩, ⟨c2, e2, 0⟩⟩ p) A B (3 * M + 3 * M)) ∧ lowB (dotF ⟨⟨c1, e1, 0⟩, ⟨c2, e2, 0⟩⟩ p) := by
  have hM3 : 3 * M < 9223372036854775808 := Nat.lt_of_le_of_lt (Nat.le_add_left _ _) hM
  obtain ⟨m1, _⟩ := VB.vmul (Val.mk0 c1 e1) h1 h2 hx hS hM3
  obtain ⟨m2, _⟩ := VB.vmul (Val.mk0 c2 e2) h3 h4 hy hS hM3
  obtain ⟨a1, a2⟩ := m1.add m2 hS hM
  have hd : dotF ⟨⟨c1, e1, 0⟩, ⟨c2, e2, 0⟩⟩ p = addF (mulF ⟨c1, e1, 0⟩ p.x) (mulF ⟨c2, e2, 0⟩ p.y) := rfl
  have hk : pkD ⟨⟨c1, e1, 0⟩, ⟨c2, e2, 0⟩⟩ p = (pkm ⟨c1, e1, 0⟩ p.x && (pkm ⟨c2, e2, 0⟩ p.y && Go.Ev.pk (mulF ⟨c1, e1, 0⟩ p.x) (mulF ⟨c2, e2, 0⟩ p.y))) := rfl
  rw [hd, hk]
  refine ⟨?_, ⟨_, _, a1⟩, a2⟩
  rw [(pk_val (Val.mk0 c1 e1) hx.v (by decide) hS).2, (pk_val (Val.mk0 c2 e2) hy.v (by decide) hS).2, m1.pk m2 hS]
  rfl

theorem dvP_val {S M : Nat} {x y : N3} {A B : Int} (h : VB S x A B M) (hM : M ≤ 8589934592) (hS : S ≤ 1000) (y1 : y.a.natAbs ≤ 4) (y2 : y.b.natAbs ≤ 4) (y3 : y.k = 0) : dvP x y = true := by
  obtain ⟨b1, b2⟩ := h.v.bd
  have b1 := Nat.le_trans b1 h.a
  have b2 := Nat.le_trans b2 h.b
  have := h.v.k0
  have := h.v.kS
  clear h
  exact dvP_iff.2 ⟨⟨by omega, by omega, by omega⟩, by omega, by omega, by omega⟩
theorem lin4 {c e A B : Int} {M : Nat} (hc : c.natAbs ≤ 4) (he : e.natAbs ≤ 4) (hA : A.natAbs ≤ M) (hB : B.natAbs ≤ M) : (A * c - 2 * B * e).natAbs ≤ 12 * M ∧ (B * c - A * e).natAbs ≤ 12 * M := by
  have h1 := abs_mul_le hA hc
  have h2 := abs_mul_le hB he
  have h3 := abs_mul_le hB hc
  have h4 := abs_mul_le hA he
  have e1 : 2 * B * e = 2 * (B * e) := by grind
  rw [e1]
  clear hA hB hc he
  generalize A * c = u1 at *
  generalize B * e = u2 at *
  generalize B * c = u3 at *
  generalize A * e = u4 at *
  constructor <;> omega
theorem sgn_abs {o z : Int} (h : o = 1 ∨ o = -1) : (o * z).natAbs = z.natAbs := by rcases h with rfl | rfl <;> simp
theorem dvF_ok {x y : N3} (h : dvOk x y = true) : dvF x y = dvV x y := by unfold dvF; rw [h]; rfl

theorem VB.div {S E M : Nat} {x y : N3} {A B : Int} (h : VB S x A B M) (y1 : y.a.natAbs ≤ 4) (y2 : y.b.natAbs ≤ 4) (yk : y.k = 0) (ho : dvOdd y = 1 ∨ dvOdd y = -1) (hn : divN y ≠ 0) (hE : dvE y = E)
    (hS : S + E ≤ 1000) (hM : 12 * M < 9223372036854775808) (hM' : M ≤ 8589934592) :
    dvP x y = true ∧ dvOk x y = true ∧ VB (S + E) (dvF x y) (dvOdd y * (A * y.a - 2 * B * y.b)) (dvOdd y * (B * y.a - A * y.b)) (12 * M) ∧ lowB (dvF x y) := by
  have hS' : S ≤ 1000 := Nat.le_trans (Nat.le_add_right _ _) hS
  have hp := dvP_val h hM' hS' y1 y2 yk
  obtain ⟨l1, l2⟩ := lin4 y1 y2 h.a h.b
  obtain ⟨k, v, w⟩ := h.v.div hp yk ho hn hE hS (Nat.lt_of_le_of_lt l1 hM) (Nat.lt_of_le_of_lt l2 hM)
  rw [← dvF_ok k] at v w
  exact ⟨hp, k, ⟨v, by rw [sgn_abs ho]; exact l1, by rw [sgn_abs ho]; exact l2⟩, w⟩

/-- What is known of a normal. -/
structure Nrm (n : P2) (E : Nat) : Prop where
  c : ∃ c1 e1 c2 e2 : Int, n = ⟨⟨c1, e1, 0⟩, ⟨c2, e2, 0⟩⟩ ∧ c1.natAbs ≤ 1 ∧ e1.natAbs ≤ 1 ∧ c2.natAbs ≤ 1 ∧ e2.natAbs ≤ 1
  k : (dotF n n).k = 0
  a : (dotF n n).a.natAbs ≤ 4
  b : (dotF n n).b.natAbs ≤ 4
  o : dvOdd (dotF n n) = 1 ∨ dvOdd (dotF n n) = -1
  z : divN (dotF n n) ≠ 0
  e : dvE (dotF n n) = E
  l : E ≤ 3
theorem nrm_all (d : Int) (h : inB d 0 7 = true) : ∃ E, Nrm (nrm d) E := by
  rw [inB_iff] at h
  have : d = 0 ∨ d = 1 ∨ d = 2 ∨ d = 3 ∨ d = 4 ∨ d = 5 ∨ d = 6 ∨ d = 7 := by omega
  clear h
  rcases this with rfl | rfl | rfl | rfl | rfl | rfl | rfl | rfl
  · exact ⟨0, ⟨0, 0, 1, 0, by kernel_rfl, by decide, by decide, by decide, by decide⟩, by decide, by decide, by decide, .inl (by decide), by decide, by decide, by decide⟩
  · exact ⟨3, ⟨1, -1, 1, 0, by kernel_rfl, by decide, by decide, by decide, by decide⟩, by decide, by decide, by decide, .inl (by decide), by decide, by decide, by decide⟩
  · exact ⟨2, ⟨-1, 0, 1, 0, by kernel_rfl, by decide, by decide, by decide, by decide⟩, by decide, by decide, by decide, .inl (by decide), by decide, by decide, by decide⟩
  · exact ⟨3, ⟨-1, 0, -1, 1, by kernel_rfl, by decide, by decide, by decide, by decide⟩, by decide, by decide, by decide, .inl (by decide), by decide, by decide, by decide⟩
  · exact ⟨0, ⟨-1, 0, 0, 0, by kernel_rfl, by decide, by decide, by decide, by decide⟩, by decide, by decide, by decide, .inl (by decide), by decide, by decide, by decide⟩
  · exact ⟨3, ⟨-1, 0, 1, -1, by kernel_rfl, by decide, by decide, by decide, by decide⟩, by decide, by decide, by decide, .inl (by decide), by decide, by decide, by decide⟩
  · exact ⟨2, ⟨-1, 0, -1, 0, by kernel_rfl, by decide, by decide, by decide, by decide⟩, by decide, by decide, by decide, .inl (by decide), by decide, by decide, by decide⟩
  · exact ⟨3, ⟨1, -1, -1, 0, by kernel_rfl, by decide, by decide, by decide, by decide⟩, by decide, by decide, by decide, .inl (by decide), by decide, by decide, by decide⟩

theorem nrm_in {d : Int} (h : inB d 0 7 = true) : inB (wr (d + 4)) 0 15 = true := by
  rw [inB_iff] at h
  rw [inB_iff, wr_in (by omega) (by omega)]
  omega
theorem pow_le8 {E : Nat} (h : E ≤ 3) : (2 : Int) ^ E = 1 ∨ (2 : Int) ^ E = 2 ∨ (2 : Int) ^ E = 4 ∨ (2 : Int) ^ E = 8 := by
  have : E = 0 ∨ E = 1 ∨ E = 2 ∨ E = 3 := by omega
  rcases this with rfl | rfl | rfl | rfl <;> simp
theorem lift8 {S E : Nat} {x : N3} {A B : Int} {M : Nat} (h : VB S x A B M) (hE : E ≤ 3) : ∃ A' B', VB (S + E) x A' B' (8 * M) := by
  have h1 := h.a
  have h2 := h.b
  refine ⟨_, _, h.v.lift E, ?_, ?_⟩ <;> clear h <;> rcases pow_le8 hE with e | e | e | e <;> rw [e] <;> omega
theorem valid_vb {x : N3} (h : validB x = true) : ∃ A B, VB 10 x A B 134217728 := by
  obtain ⟨A, B, v, a, b⟩ := valid_val h
  exact ⟨A, B, v, a, b⟩

/-- THE REFLECTION: no step wraps, and both ways give the same point. -/
theorem refl_same {n : P2} {E : Nat} (hn : Nrm n E) {off : N3} {p : P2} (ho : validB off = true) (hp : valP p = true) :
    pkD n p = true ∧ pkD n n = true ∧ pk off (dotF n p) = true ∧ pk (dotF n p) off = true ∧ dvP (subF off (dotF n p)) (dotF n n) = true ∧ dvP (subF (dotF n p) off) (dotF n n) = true ∧
    (∀ q, q = dvF (subF off (dotF n p)) (dotF n n) → pk q q = true ∧ pkT n (addF q q) = true ∧ pkP p (timesF n (addF q q)) = true) ∧
    (∀ q, q = dvF (subF (dotF n p) off) (dotF n n) → pk q q = true ∧ pkm (addF q q) n.x = true ∧ pkm (addF q q) n.y = true ∧ pk p.x (mulF (addF q q) n.x) = true ∧ pk p.y (mulF (addF q q) n.y) = true) ∧
    rflI n off p = rflS n off p ∧ kB (rflI n off p).x.k = true ∧ kB (rflI n off p).y.k = true := by
  obtain ⟨⟨c1, e1, c2, e2, hnn, h1, h2, h3, h4⟩, nk, na, nb, no, nz, ne, nl⟩ := hn
  have hS3 : 10 + E ≤ 1000 := by clear na nb h1 h2 h3 h4; omega
  unfold valP at hp
  rw [Bool.and_eq_true] at hp
  obtain ⟨O1, O2, vo⟩ := valid_vb ho
  obtain ⟨X1, X2, vx⟩ := valid_vb hp.1
  obtain ⟨Y1, Y2, vy⟩ := valid_vb hp.2
  obtain ⟨kd, ⟨Da, Db, vd⟩, _⟩ := dot_val h1 h2 h3 h4 vx vy (by decide) (by decide)
  obtain ⟨kn, _⟩ := dot_val (p := ⟨⟨c1, e1, 0⟩, ⟨c2, e2, 0⟩⟩) (M := 1) h1 h2 h3 h4 ⟨Val.mk0 c1 e1, h1, h2⟩ ⟨Val.mk0 c2 e2, h3, h4⟩ (by decide) (by decide)
  rw [← hnn] at kd vd kn
  have pk1 := vo.pk vd (by decide)
  have pk2 := vd.pk vo (by decide)
  obtain ⟨v1, _⟩ := vo.sub vd (by decide) (by decide)
  obtain ⟨v2, _⟩ := vd.sub vo (by decide) (by decide)
  obtain ⟨d1, k1, w1, _⟩ := v1.div na nb nk no nz ne hS3 (by decide) (by decide)
  obtain ⟨d2, k2, w2, _⟩ := v2.div na nb nk no nz ne hS3 (by decide) (by decide)
  have n1 : dvOdd (dotF n n) * ((Da - O1) * (dotF n n).a - 2 * (Db - O2) * (dotF n n).b) = -(dvOdd (dotF n n) * ((O1 - Da) * (dotF n n).a - 2 * (O2 - Db) * (dotF n n).b)) := by grind
  have n2 : dvOdd (dotF n n) * ((Db - O2) * (dotF n n).a - (Da - O1) * (dotF n n).b) = -(dvOdd (dotF n n) * ((O2 - Db) * (dotF n n).a - (O1 - Da) * (dotF n n).b)) := by grind
  rw [n1, n2] at w2
  clear n1 n2
  unfold rflI rflS
  generalize dvOdd (dotF n n) * ((O1 - Da) * (dotF n n).a - 2 * (O2 - Db) * (dotF n n).b) = Q1 at w1 w2
  generalize dvOdd (dotF n n) * ((O2 - Db) * (dotF n n).a - (O1 - Da) * (dotF n n).b) = Q2 at w1 w2
  generalize dvF (subF off (dotF n p)) (dotF n n) = qi at *
  generalize dvF (subF (dotF n p) off) (dotF n n) = qs at *
  obtain ⟨t1, _⟩ := w1.add w1 hS3 (by decide)
  obtain ⟨t2, _⟩ := w2.add w2 hS3 (by decide)
  have vx0 : Val 0 n.x c1 e1 := by rw [hnn]; exact Val.mk0 c1 e1
  have vy0 : Val 0 n.y c2 e2 := by rw [hnn]; exact Val.mk0 c2 e2
  obtain ⟨u1, _⟩ := VB.vmul vx0 h1 h2 t1 hS3 (by decide)
  obtain ⟨u2, _⟩ := VB.vmul vy0 h3 h4 t1 hS3 (by decide)
  obtain ⟨u3, _⟩ := t2.mulv vx0 h1 h2 hS3 (by decide)
  obtain ⟨u4, _⟩ := t2.mulv vy0 h3 h4 hS3 (by decide)
  obtain ⟨X1', X2', vx'⟩ := lift8 vx nl
  obtain ⟨Y1', Y2', vy'⟩ := lift8 vy nl
  obtain ⟨r1, r1l⟩ := vx'.add u1 hS3 (by decide)
  obtain ⟨r2, r2l⟩ := vy'.add u2 hS3 (by decide)
  obtain ⟨r3, r3l⟩ := vx'.sub u3 hS3 (by decide)
  obtain ⟨r4, r4l⟩ := vy'.sub u4 hS3 (by decide)
  have f1 : X1' - ((-Q1 + -Q1) * c1 + 2 * (-Q2 + -Q2) * e1) = X1' + (c1 * (Q1 + Q1) + 2 * e1 * (Q2 + Q2)) := by grind
  have f2 : X2' - ((-Q1 + -Q1) * e1 + (-Q2 + -Q2) * c1) = X2' + (c1 * (Q2 + Q2) + e1 * (Q1 + Q1)) := by grind
  have f3 : Y1' - ((-Q1 + -Q1) * c2 + 2 * (-Q2 + -Q2) * e2) = Y1' + (c2 * (Q1 + Q1) + 2 * e2 * (Q2 + Q2)) := by grind
  have f4 : Y2' - ((-Q1 + -Q1) * e2 + (-Q2 + -Q2) * c2) = Y2' + (c2 * (Q2 + Q2) + e2 * (Q1 + Q1)) := by grind
  rw [f1, f2] at r3
  rw [f3, f4] at r4
  refine ⟨kd, kn, pk1, pk2, d1, d2, fun q hq => ?_, fun q hq => ?_, ?_, ?_, ?_⟩
  · subst hq
    refine ⟨w1.pk w1 hS3, ?_, ?_⟩
    · unfold pkT
      rw [(pk_val vx0 t1.v (by decide) hS3).2, (pk_val vy0 t1.v (by decide) hS3).2]
      rfl
    · unfold pkP timesF
      rw [vx'.pk u1 hS3, vy'.pk u2 hS3]
      rfl
  · subst hq
    exact ⟨w2.pk w2 hS3, (pk_val t2.v vx0 hS3 (by decide)).2, (pk_val t2.v vy0 hS3 (by decide)).2, vx'.pk u3 hS3, vy'.pk u4 hS3⟩
  · unfold addP subP timesF
    rw [r1.v.uniq r3.v r1l r3l, r2.v.uniq r4.v r2l r4l]
  · exact r1.kB hS3
  · exact r2.kB hS3
end Go.Ev
