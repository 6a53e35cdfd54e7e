/- The law of meeting lines and of lines through points. -/
import Derived.Test.YtooikeeckoflpaaDoorDirC
set_option linter.unusedVariables false
set_option linter.unusedSimpArgs false
namespace Go.Ev

theorem nv_ex {d : Int} (h : inB d 0 7 = true) : ∃ (c1 e1 c2 e2 na nb : Int) (E : Nat), Nv (nrm d) c1 e1 c2 e2 na nb E := by
  rcases nv_all h with ⟨_, hn⟩ | ⟨_, hn⟩ | ⟨_, hn⟩ | ⟨_, hn⟩ | ⟨_, hn⟩ | ⟨_, hn⟩ | ⟨_, hn⟩ | ⟨_, hn⟩ <;> exact ⟨_, _, _, _, _, _, _, hn⟩
/-- What the common point is worth. -/
structure Mt (i j : Int) (a b : N3) (c1 e1 c2 e2 g1 f1 g2 f2 A1 A2 B1 B2 da db s : Int) (E : Nat) : Prop where
  pv : PV (10 + E) (mtP i j a b) ⟨s * (((A1 * g2 + 2 * A2 * f2) - (B1 * c2 + 2 * B2 * e2)) * da - 2 * ((A1 * f2 + A2 * g2) - (B1 * e2 + B2 * c2)) * db),
    s * (((A1 * f2 + A2 * g2) - (B1 * e2 + B2 * c2)) * da - ((A1 * g2 + 2 * A2 * f2) - (B1 * c2 + 2 * B2 * e2)) * db),
    s * (((B1 * c1 + 2 * B2 * e1) - (A1 * g1 + 2 * A2 * f1)) * da - 2 * ((B1 * e1 + B2 * c1) - (A1 * f1 + A2 * g1)) * db),
    s * (((B1 * e1 + B2 * c1) - (A1 * f1 + A2 * g1)) * da - ((B1 * c1 + 2 * B2 * e1) - (A1 * g1 + 2 * A2 * f1)) * db)⟩ 100000000000
  lx : lowB (mtP i j a b).x
  ly : lowB (mtP i j a b).y
  ed : crsF (nrm i) (nrm j) = ⟨da, db, 0⟩
  d1 : da = (c1 * g2 + 2 * e1 * f2) - (c2 * g1 + 2 * e2 * f1)
  d2 : db = (c1 * f2 + e1 * g2) - (c2 * f1 + e2 * g1)
  n : da * da - 2 * db * db = s * 2 ^ E
  dn : divN ⟨da, db, 0⟩ = da * da - 2 * db * db
  os : s = dvOdd ⟨da, db, 0⟩
  oe : dvE ⟨da, db, 0⟩ = E
  s1 : s = 1 ∨ s = -1
  e3 : E ≤ 3
theorem mt_val {i j : Int} {a b : N3} {c1 e1 c2 e2 na nb g1 f1 g2 f2 ma mb A1 A2 B1 B2 : Int} {E1 E2 : Nat} (hi : inB i 0 7 = true) (hj : inB j 0 7 = true) (hne : (i == j) = false)
    (hn : Nv (nrm i) c1 e1 c2 e2 na nb E1) (hm : Nv (nrm j) g1 f1 g2 f2 ma mb E2) (va : VB 10 a A1 A2 134217728) (vb : VB 10 b B1 B2 134217728) :
    ∃ da db s E, Mt i j a b c1 e1 c2 e2 g1 f1 g2 f2 A1 A2 B1 B2 da db s E := by
  have hd := det_all hi hj hne
  unfold detB at hd
  simp only [Bool.and_eq_true, Bool.or_eq_true, decide_eq_true_eq, beq_iff_eq, Bool.not_eq_true', beq_eq_false_iff_ne] at hd
  obtain ⟨hc, hk, na', nb', no', nz, e0, e3⟩ := hd
  obtain ⟨E, hE⟩ : ∃ E : Nat, dvE (crsF (nrm i) (nrm j)) = E := ⟨(dvE (crsF (nrm i) (nrm j))).toNat, by omega⟩
  have hS : 10 + E ≤ 1000 := by clear na' nb'; omega
  have vix : Val 0 (nrm i).x c1 e1 := by rw [hn.eq]; exact Val.mk0 c1 e1
  have viy : Val 0 (nrm i).y c2 e2 := by rw [hn.eq]; exact Val.mk0 c2 e2
  have vjx : Val 0 (nrm j).x g1 f1 := by rw [hm.eq]; exact Val.mk0 g1 f1
  have vjy : Val 0 (nrm j).y g2 f2 := by rw [hm.eq]; exact Val.mk0 g2 f2
  -- the determinant
  have wjx : VB 0 (nrm j).x g1 f1 1 := ⟨vjx, hm.h1, hm.h2⟩
  have wjy : VB 0 (nrm j).y g2 f2 1 := ⟨vjy, hm.h3, hm.h4⟩
  obtain ⟨t1, _⟩ := VB.vmul vix hn.h1 hn.h2 wjy (by decide) (by decide)
  obtain ⟨t2, _⟩ := VB.vmul viy hn.h3 hn.h4 wjx (by decide) (by decide)
  obtain ⟨t3, _⟩ := t1.sub t2 (by decide) (by decide)
  have ta := t3.v.a
  have tb := t3.v.b
  change _ = (crsF (nrm i) (nrm j)).a * 2 ^ (0 - (crsF (nrm i) (nrm j)).k.toNat) at ta
  change _ = (crsF (nrm i) (nrm j)).b * 2 ^ (0 - (crsF (nrm i) (nrm j)).k.toNat) at tb
  rw [hk] at ta tb
  simp only [Int.toNat_zero, Nat.sub_self, Int.pow_zero, Int.mul_one] at ta tb
  obtain ⟨p1, _⟩ := va.mulv vjy hm.h3 hm.h4 (by decide) (by decide)
  obtain ⟨p2, _⟩ := vb.mulv viy hn.h3 hn.h4 (by decide) (by decide)
  obtain ⟨p3, _⟩ := vb.mulv vix hn.h1 hn.h2 (by decide) (by decide)
  obtain ⟨p4, _⟩ := va.mulv vjx hm.h1 hm.h2 (by decide) (by decide)
  obtain ⟨q1, _⟩ := p1.sub p2 (by decide) (by decide)
  obtain ⟨q2, _⟩ := p3.sub p4 (by decide) (by decide)
  obtain ⟨r1, _, r3, r4⟩ := q1.div na' nb' hk no' nz hE hS (by decide) (by decide)
  obtain ⟨_, _, s3, s4⟩ := q2.div na' nb' hk no' nz hE hS (by decide) (by decide)
  have hN := (raw_bd r1).2.2.2.2.2.1
  have hNb := (raw_bd r1).2.2.2.2.2.2
  have ed : crsF (nrm i) (nrm j) = ⟨(crsF (nrm i) (nrm j)).a, (crsF (nrm i) (nrm j)).b, 0⟩ := by
    conv => rhs; rw [← hk]
  have op := oddL_prod 60 (divN (crsF (nrm i) (nrm j))) 0 nz (by
    have : (2 : Nat) ^ 60 = 1152921504606846976 := by decide
    omega)
  change dvOdd (crsF (nrm i) (nrm j)) * 2 ^ (dvE (crsF (nrm i) (nrm j)) - 0).toNat = divN (crsF (nrm i) (nrm j)) at op
  rw [hE, Int.sub_zero, Int.toNat_natCast, hN] at op
  refine ⟨(crsF (nrm i) (nrm j)).a, (crsF (nrm i) (nrm j)).b, dvOdd (crsF (nrm i) (nrm j)), E, ⟨⟨r3.more (by decide), s3.more (by decide)⟩, r4, s4, ed, ta.symm, tb.symm, op.symm, ?_, ?_, ?_, no', by omega⟩⟩
  · rw [← ed]; exact hN
  · rw [← ed]
  · rw [← ed]; exact hE
theorem pow8_ne {E : Nat} : (2 : Int) ^ E ≠ 0 := by have := pow_pos2 E; omega
/-- The common point is on the first line; and on the second one. -/
theorem mt_on {i j : Int} {a b : N3} {c1 e1 c2 e2 g1 f1 g2 f2 A1 A2 B1 B2 da db s : Int} {E : Nat} (h : Mt i j a b c1 e1 c2 e2 g1 f1 g2 f2 A1 A2 B1 B2 da db s E) {P : V4} (hP : PV 10 (mtP i j a b) P 134217728) :
    (c1 * P.a + 2 * e1 * P.b + (c2 * P.c + 2 * e2 * P.d) = A1 ∧ c1 * P.b + e1 * P.a + (c2 * P.d + e2 * P.c) = A2) ∧
    (g1 * P.a + 2 * f1 * P.b + (g2 * P.c + 2 * f2 * P.d) = B1 ∧ g1 * P.b + f1 * P.a + (g2 * P.d + f2 * P.c) = B2) := by
  have e := pv_same (pv_sc hP h.e3) h.pv
  simp only [sc, V4.mk.injEq] at e
  obtain ⟨k1, k2, k3, k4⟩ := e
  have hn := h.n
  have hs : s * s = 1 := by rcases h.s1 with e | e <;> rw [e] <;> rfl
  have hp : (2 : Int) ^ E ≠ 0 := pow8_ne
  generalize (2 : Int) ^ E = z at *
  have d1 := h.d1
  have d2 := h.d2
  have hz : z = s * (da * da - 2 * db * db) := by rw [hn, ← Int.mul_assoc, hs, Int.one_mul]
  generalize hX1 : (A1 * g2 + 2 * A2 * f2) - (B1 * c2 + 2 * B2 * e2) = X1 at *
  generalize hX2 : (A1 * f2 + A2 * g2) - (B1 * e2 + B2 * c2) = X2 at *
  generalize hY1 : (B1 * c1 + 2 * B2 * e1) - (A1 * g1 + 2 * A2 * f1) = Y1 at *
  generalize hY2 : (B1 * e1 + B2 * c1) - (A1 * f1 + A2 * g1) = Y2 at *
  have s1 : c1 * X1 + 2 * e1 * X2 + (c2 * Y1 + 2 * e2 * Y2) = A1 * da + 2 * A2 * db := by rw [← hX1, ← hX2, ← hY1, ← hY2, d1, d2]; grind
  have s2 : c1 * X2 + e1 * X1 + (c2 * Y2 + e2 * Y1) = A1 * db + A2 * da := by rw [← hX1, ← hX2, ← hY1, ← hY2, d1, d2]; grind
  have s3 : g1 * X1 + 2 * f1 * X2 + (g2 * Y1 + 2 * f2 * Y2) = B1 * da + 2 * B2 * db := by rw [← hX1, ← hX2, ← hY1, ← hY2, d1, d2]; grind
  have s4 : g1 * X2 + f1 * X1 + (g2 * Y2 + f2 * Y1) = B1 * db + B2 * da := by rw [← hX1, ← hX2, ← hY1, ← hY2, d1, d2]; grind
  have fin : ∀ (u1 v1 u2 v2 O1 O2 : Int), u1 * X1 + 2 * v1 * X2 + (u2 * Y1 + 2 * v2 * Y2) = O1 * da + 2 * O2 * db → u1 * X2 + v1 * X1 + (u2 * Y2 + v2 * Y1) = O1 * db + O2 * da →
      u1 * P.a + 2 * v1 * P.b + (u2 * P.c + 2 * v2 * P.d) = O1 ∧ u1 * P.b + v1 * P.a + (u2 * P.d + v2 * P.c) = O2 := by
    intro u1 v1 u2 v2 O1 O2 t1 t2
    constructor
    · apply Int.eq_of_mul_eq_mul_right hp
      have : (u1 * P.a + 2 * v1 * P.b + (u2 * P.c + 2 * v2 * P.d)) * z = u1 * (P.a * z) + 2 * v1 * (P.b * z) + (u2 * (P.c * z) + 2 * v2 * (P.d * z)) := by grind
      rw [this, k1, k2, k3, k4]
      have : u1 * (s * (X1 * da - 2 * X2 * db)) + 2 * v1 * (s * (X2 * da - X1 * db)) + (u2 * (s * (Y1 * da - 2 * Y2 * db)) + 2 * v2 * (s * (Y2 * da - Y1 * db))) =
        s * (da * (u1 * X1 + 2 * v1 * X2 + (u2 * Y1 + 2 * v2 * Y2)) - 2 * db * (u1 * X2 + v1 * X1 + (u2 * Y2 + v2 * Y1))) := by grind
      rw [this, t1, t2, hz]
      grind
    · apply Int.eq_of_mul_eq_mul_right hp
      have : (u1 * P.b + v1 * P.a + (u2 * P.d + v2 * P.c)) * z = u1 * (P.b * z) + v1 * (P.a * z) + (u2 * (P.d * z) + v2 * (P.c * z)) := by grind
      rw [this, k1, k2, k3, k4]
      have : u1 * (s * (X2 * da - X1 * db)) + v1 * (s * (X1 * da - 2 * X2 * db)) + (u2 * (s * (Y2 * da - Y1 * db)) + v2 * (s * (Y1 * da - 2 * Y2 * db))) =
        s * (da * (u1 * X2 + v1 * X1 + (u2 * Y2 + v2 * Y1)) - db * (u1 * X1 + 2 * v1 * X2 + (u2 * Y1 + 2 * v2 * Y2))) := by grind
      rw [this, t1, t2, hz]
      grind
  exact ⟨fin c1 e1 c2 e2 A1 A2 s1 s2, fin g1 f1 g2 f2 B1 B2 s3 s4⟩
/-- The two lines in the other order. -/
theorem mt_sym {i j : Int} {a b : N3} {c1 e1 c2 e2 g1 f1 g2 f2 A1 A2 B1 B2 da db s da' db' s' : Int} {E E' : Nat} (h : Mt i j a b c1 e1 c2 e2 g1 f1 g2 f2 A1 A2 B1 B2 da db s E)
    (g : Mt j i b a g1 f1 g2 f2 c1 e1 c2 e2 B1 B2 A1 A2 da' db' s' E') : mtP i j a b = mtP j i b a := by
  have q1 : da' = -da := by rw [g.d1, h.d1]; grind
  have q2 : db' = -db := by rw [g.d2, h.d2]; grind
  have qn : divN ⟨da', db', 0⟩ = divN ⟨da, db, 0⟩ := by rw [g.dn, h.dn, q1, q2]; grind
  have qs : s' = s := by rw [g.os, h.os]; unfold dvOdd; rw [qn]
  have qe : E' = E := by
    have : dvE (⟨da', db', 0⟩ : N3) = dvE ⟨da, db, 0⟩ := by unfold dvE; rw [qn]
    have k1 := g.oe
    have k2 := h.oe
    omega
  subst q1 q2 qs qe
  have hv := g.pv
  have e : (⟨s' * (((B1 * c2 + 2 * B2 * e2) - (A1 * g2 + 2 * A2 * f2)) * -da - 2 * ((B1 * e2 + B2 * c2) - (A1 * f2 + A2 * g2)) * -db),
    s' * (((B1 * e2 + B2 * c2) - (A1 * f2 + A2 * g2)) * -da - ((B1 * c2 + 2 * B2 * e2) - (A1 * g2 + 2 * A2 * f2)) * -db),
    s' * (((A1 * g1 + 2 * A2 * f1) - (B1 * c1 + 2 * B2 * e1)) * -da - 2 * ((A1 * f1 + A2 * g1) - (B1 * e1 + B2 * c1)) * -db),
    s' * (((A1 * f1 + A2 * g1) - (B1 * e1 + B2 * c1)) * -da - ((A1 * g1 + 2 * A2 * f1) - (B1 * c1 + 2 * B2 * e1)) * -db)⟩ : V4) = ⟨s' * (((A1 * g2 + 2 * A2 * f2) - (B1 * c2 + 2 * B2 * e2)) * da - 2 * ((A1 * f2 + A2 * g2) - (B1 * e2 + B2 * c2)) * db),
    s' * (((A1 * f2 + A2 * g2) - (B1 * e2 + B2 * c2)) * da - ((A1 * g2 + 2 * A2 * f2) - (B1 * c2 + 2 * B2 * e2)) * db),
    s' * (((B1 * c1 + 2 * B2 * e1) - (A1 * g1 + 2 * A2 * f1)) * da - 2 * ((B1 * e1 + B2 * c1) - (A1 * f1 + A2 * g1)) * db),
    s' * (((B1 * e1 + B2 * c1) - (A1 * f1 + A2 * g1)) * da - ((B1 * c1 + 2 * B2 * e1) - (A1 * g1 + 2 * A2 * f1)) * db)⟩ := by
    apply V4.ext' <;> simp only <;> congr 1 <;> grind
  rw [e] at hv
  exact pv_uniq h.pv hv h.lx h.ly g.lx g.ly
end Go.Ev
