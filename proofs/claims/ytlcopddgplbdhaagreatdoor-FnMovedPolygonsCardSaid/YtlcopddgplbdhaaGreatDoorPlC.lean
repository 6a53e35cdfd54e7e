/- Directions, lines and reflections in plain Lean. -/
import Derived.Test.YtlcopddgplbdhaaGreatDoorPlB
set_option linter.unusedVariables false
set_option linter.unusedSimpArgs false
/- Directions: which of the sixteen a vector has; it has at most one. -/
namespace Go.Ev
structure Vv (n : P2) (c1 e1 c2 e2 : Int) : Prop where
 eq : n = ⟨⟨c1, e1, 0⟩, ⟨c2, e2, 0⟩⟩
 h1 : c1.natAbs <= 1
 h2 : e1.natAbs <= 1
 h3 : c2.natAbs <= 1
 h4 : e2.natAbs <= 1
 h5 : e1 = 0 \/ e2 = 0
def vC1 (d : Int) : Int := [1, 1, 1, -1, 0, 1, -1, -1, -1, -1, -1, 1, 0, -1, 1, 1].getD d.toNat 0
def vE1 (d : Int) : Int := [0, 0, 0, 1, 0, -1, 0, 0, 0, 0, 0, -1, 0, 1, 0, 0].getD d.toNat 0
def vC2 (d : Int) : Int := [0, -1, 1, 1, 1, 1, 1, -1, 0, 1, -1, -1, -1, -1, -1, 1].getD d.toNat 0
def vE2 (d : Int) : Int := [0, 1, 0, 0, 0, 0, 0, 1, 0, -1, 0, 0, 0, 0, 0, -1].getD d.toNat 0
theorem d16 {d : Int} (h : inB d 0 15 = true) : d = 0 \/ d = 1 \/ d = 2 \/ d = 3 \/ d = 4 \/ d = 5 \/ d = 6 \/ d = 7 \/ d = 8 \/ d = 9 \/ d = 10 \/ d = 11 \/ d = 12 \/ d = 13 \/ d = 14 \/ d = 15 := by
 have := inB_iff.1 h
 omega
theorem vv_all {d : Int} (h : inB d 0 15 = true) : Vv (vecP d) (vC1 d) (vE1 d) (vC2 d) (vE2 d) := by
 rcases d16 h with rfl | rfl | rfl | rfl | rfl | rfl | rfl | rfl | rfl | rfl | rfl | rfl | rfl | rfl | rfl | rfl
 all_goals exact ⟨by kernel_rfl, by decide, by decide, by decide, by decide, by decide⟩
def dtA (d : Int) (w : V4) : Int := vC1 d * w.a + 2 * vE1 d * w.b + (vC2 d * w.c + 2 * vE2 d * w.d)
def dtB (d : Int) (w : V4) : Int := vC1 d * w.b + vE1 d * w.a + (vC2 d * w.d + vE2 d * w.c)
def crA (d : Int) (w : V4) : Int := vC1 d * w.c + 2 * vE1 d * w.d - (vC2 d * w.a + 2 * vE2 d * w.b)
def crB (d : Int) (w : V4) : Int := vC1 d * w.d + vE1 d * w.c - (vC2 d * w.b + vE2 d * w.a)
def isDir (d : Int) (w : V4) : Prop := crA d w = 0 /\ crB d w = 0 /\ sgZ (dtA d w) (dtB d w) > 0
theorem vC1_0 : vC1 0 = 1 := rfl
theorem vE1_0 : vE1 0 = 0 := rfl
theorem vC2_0 : vC2 0 = 0 := rfl
theorem vE2_0 : vE2 0 = 0 := rfl
theorem vC1_1 : vC1 1 = 1 := rfl
theorem vE1_1 : vE1 1 = 0 := rfl
theorem vC2_1 : vC2 1 = -1 := rfl
theorem vE2_1 : vE2 1 = 1 := rfl
theorem vC1_2 : vC1 2 = 1 := rfl
theorem vE1_2 : vE1 2 = 0 := rfl
theorem vC2_2 : vC2 2 = 1 := rfl
theorem vE2_2 : vE2 2 = 0 := rfl
theorem vC1_3 : vC1 3 = -1 := rfl
theorem vE1_3 : vE1 3 = 1 := rfl
theorem vC2_3 : vC2 3 = 1 := rfl
theorem vE2_3 : vE2 3 = 0 := rfl
theorem vC1_4 : vC1 4 = 0 := rfl
theorem vE1_4 : vE1 4 = 0 := rfl
theorem vC2_4 : vC2 4 = 1 := rfl
theorem vE2_4 : vE2 4 = 0 := rfl
theorem vC1_5 : vC1 5 = 1 := rfl
theorem vE1_5 : vE1 5 = -1 := rfl
theorem vC2_5 : vC2 5 = 1 := rfl
theorem vE2_5 : vE2 5 = 0 := rfl
theorem vC1_6 : vC1 6 = -1 := rfl
theorem vE1_6 : vE1 6 = 0 := rfl
theorem vC2_6 : vC2 6 = 1 := rfl
theorem vE2_6 : vE2 6 = 0 := rfl
theorem vC1_7 : vC1 7 = -1 := rfl
theorem vE1_7 : vE1 7 = 0 := rfl
theorem vC2_7 : vC2 7 = -1 := rfl
theorem vE2_7 : vE2 7 = 1 := rfl
theorem cr_zero {d e : Int} {w : V4} (hd : inB d 0 7 = true) (he : inB e 0 7 = true) (hne : d ≠ e) (h1 : crA d w = 0) (h2 : crB d w = 0) (g1 : crA e w = 0) (g2 : crB e w = 0) : w = ⟨0, 0, 0, 0⟩ := by
 have key : w.a = 0 /\ w.b = 0 /\ w.c = 0 /\ w.d = 0 := by
  unfold crA at h1 g1
  unfold crB at h2 g2
  rcases t8 hd with rfl | rfl | rfl | rfl | rfl | rfl | rfl | rfl <;> simp only [vC1_0, vE1_0, vC2_0, vE2_0, vC1_1, vE1_1, vC2_1, vE2_1, vC1_2, vE1_2, vC2_2, vE2_2, vC1_3, vE1_3, vC2_3, vE2_3, vC1_4, vE1_4, vC2_4, vE2_4, vC1_5, vE1_5, vC2_5, vE2_5, vC1_6, vE1_6, vC2_6, vE2_6, vC1_7, vE1_7, vC2_7, vE2_7] at h1 h2 <;>
   (rcases t8 he with rfl | rfl | rfl | rfl | rfl | rfl | rfl | rfl <;> first | exact absurd rfl hne | (simp only [vC1_0, vE1_0, vC2_0, vE2_0, vC1_1, vE1_1, vC2_1, vE2_1, vC1_2, vE1_2, vC2_2, vE2_2, vC1_3, vE1_3, vC2_3, vE2_3, vC1_4, vE1_4, vC2_4, vE2_4, vC1_5, vE1_5, vC2_5, vE2_5, vC1_6, vE1_6, vC2_6, vE2_6, vC1_7, vE1_7, vC2_7, vE2_7] at g1 g2; omega))
 obtain ⟨k1, k2, k3, k4⟩ := key
 exact V4.ext' k1 k2 k3 k4
theorem v_opp {d : Int} (hd : inB d 0 7 = true) : vC1 (d + 8) = -vC1 d /\ vE1 (d + 8) = -vE1 d /\ vC2 (d + 8) = -vC2 d /\ vE2 (d + 8) = -vE2 d := by
 rcases t8 hd with rfl | rfl | rfl | rfl | rfl | rfl | rfl | rfl <;> decide
theorem opp_all {d : Int} (hd : inB d 0 7 = true) (w : V4) : crA (d + 8) w = -crA d w /\ crB (d + 8) w = -crB d w /\ dtA (d + 8) w = -dtA d w /\ dtB (d + 8) w = -dtB d w := by
 obtain ⟨h1, h2, h3, h4⟩ := v_opp hd
 unfold crA crB dtA dtB
 rw [h1, h2, h3, h4]
 refine ⟨?_, ?_, ?_, ?_⟩ <;> grind
theorem cr_mi (d : Int) (w : V4) : crA d (mi w) = -crA d w /\ crB d (mi w) = -crB d w /\ dtA d (mi w) = -dtA d w /\ dtB d (mi w) = -dtB d w := by
 unfold crA crB dtA dtB mi
 refine ⟨?_, ?_, ?_, ?_⟩ <;> grind
theorem isDir_opp {d : Int} (hd : inB d 0 7 = true) (w : V4) : isDir (d + 8) w ↔ isDir d (mi w) := by
 obtain ⟨a1, a2, a3, a4⟩ := opp_all hd w
 obtain ⟨b1, b2, b3, b4⟩ := cr_mi d w
 unfold isDir
 rw [a1, a2, a3, a4, b1, b2, b3, b4]
theorem mi_mi (w : V4) : mi (mi w) = w := by simp [mi]
theorem isDir_flip {d : Int} (hd : inB d 0 15 = true) (w : V4) : isDir ((d + 8) % 16) (mi w) ↔ isDir d w := by
 have := inB_iff.1 hd
 by_cases h : d < 8
 ·have hd7 : inB d 0 7 = true := inB_iff.2 (by omega)
  rw [show (d + 8) % 16 = d + 8 by omega, isDir_opp hd7, mi_mi]
 ·have hd7 : inB (d - 8) 0 7 = true := inB_iff.2 (by omega)
  have := isDir_opp hd7 w
  rw [show d - 8 + 8 = d by omega] at this
  rw [show (d + 8) % 16 = d - 8 by omega, this]
theorem isDir_ne {d : Int} {w : V4} (h : isDir d w) : w ≠ ⟨0, 0, 0, 0⟩ := fun e => by
 have h3 := h.2.2
 rw [e] at h3
 unfold dtA dtB at h3
 simp at h3
 rw [sgZ_zero] at h3
 omega
theorem isDir_uniq7 {d e : Int} {w : V4} (hd : inB d 0 7 = true) (he : inB e 0 7 = true) (h : isDir d w) (g : isDir e w \/ isDir (e + 8) w) : d = e /\ isDir e w := by
 have hz : crA e w = 0 /\ crB e w = 0 := by
  rcases g with g | g
  ·exact ⟨g.1, g.2.1⟩
  ·obtain ⟨a1, a2, _⟩ := opp_all he w
   have g1 := g.1
   have g2 := g.2.1
   omega
 have e1 : d = e := by
  rcases Classical.em (d = e) with h' | h'
  ·exact h'
  ·exact absurd (cr_zero hd he h' h.1 h.2.1 hz.1 hz.2) (isDir_ne h)
 subst e1
 exact ⟨rfl, h⟩
theorem isDir_uniq {d e : Int} {w : V4} (hd : inB d 0 15 = true) (he : inB e 0 15 = true) (h : isDir d w) (g : isDir e w) : d = e := by
 have hd' := inB_iff.1 hd
 have he' := inB_iff.1 he
 have no : ∀ {d : Int} {w : V4}, inB d 0 7 = true -> isDir d w -> isDir (d + 8) w -> False := fun {d w} hd h g => by
  obtain ⟨_, _, a3, a4⟩ := opp_all hd w
  have h3 := h.2.2
  have g3 := g.2.2
  rw [a3, a4, sgZ_minus] at g3
  omega
 by_cases c1 : d < 8
 ·have hd7 : inB d 0 7 = true := inB_iff.2 (by omega)
  by_cases c2 : e < 8
  ·exact (isDir_uniq7 hd7 (inB_iff.2 (by omega)) h (.inl g)).1
  ·have he7 : inB (e - 8) 0 7 = true := inB_iff.2 (by omega)
   have g' : isDir (e - 8 + 8) w := by rw [show e - 8 + 8 = e by omega]; exact g
   obtain ⟨_, k⟩ := isDir_uniq7 hd7 he7 h (.inr g')
   exact (no he7 k g').elim
 ·have hd7 : inB (d - 8) 0 7 = true := inB_iff.2 (by omega)
  have h' : isDir (d - 8 + 8) w := by rw [show d - 8 + 8 = d by omega]; exact h
  by_cases c2 : e < 8
  ·have he7 : inB e 0 7 = true := inB_iff.2 (by omega)
   obtain ⟨_, k⟩ := isDir_uniq7 he7 hd7 g (.inr h')
   exact (no hd7 k h').elim
  ·have he7 : inB (e - 8) 0 7 = true := inB_iff.2 (by omega)
   have g' : isDir (e - 8 + 8) w := by rw [show e - 8 + 8 = e by omega]; exact g
   have h2 := (isDir_opp hd7 w).1 h'
   have g2 := (isDir_opp he7 w).1 g'
   have := (isDir_uniq7 hd7 he7 h2 (.inl g2)).1
   omega
end Go.Ev
/- The direction from a point to another one, as the program finds it. -/
namespace Go.Ev
def dirF : Nat -> Int -> P2 -> Int
 | 0, _, _ => -1
 | n + 1, d, w => cond (eqN (crsF (vecP d) w) z3) (cond (decide (sgF (dotF (vecP d) w) > 0)) d (dirF n (d + 1) w)) (dirF n (d + 1) w)
theorem dirF_succ (n : Nat) (d : Int) (w : P2) : dirF (n + 1) d w = cond (eqN (crsF (vecP d) w) z3) (cond (decide (sgF (dotF (vecP d) w) > 0)) d (dirF n (d + 1) w)) (dirF n (d + 1) w) := rfl
def dirV (p q : P2) : Int := dirF 16 0 (subP q p)
theorem eqN_iff {x : N3} : eqN x z3 = true ↔ x.a = 0 /\ x.b = 0 /\ x.k = 0 := by simp [eqN, z3]
theorem one_abs {c a : Int} {M : Nat} (hc : c.natAbs <= 1) (ha : a.natAbs <= M) : (c * a).natAbs <= M := by
 have := abs_mul_le hc ha
 omega
theorem sum_bd {a g c h : Int} (h1 : a.natAbs <= 268435456) (h2 : g.natAbs <= 268435456) (h3 : c.natAbs <= 268435456) (h4 : h.natAbs <= 268435456) (hz : g = 0 \/ h = 0) : (a + 2 * g + (c + 2 * h)).natAbs <= 1073741824 := by
 rcases hz with rfl | rfl <;> omega
theorem sum_bd2 {a g c h : Int} (h1 : a.natAbs <= 268435456) (h2 : g.natAbs <= 268435456) (h3 : c.natAbs <= 268435456) (h4 : h.natAbs <= 268435456) : (a + g + (c + h)).natAbs <= 1073741824 := by omega
theorem sB_abs {x : Int} (h : x.natAbs <= 1073741824) : sB x = true := sB_iff.2 (by omega)
structure Way (w : P2) (v : V4) : Prop where
 pv : PV 10 w v 268435456
theorem way_of {p q : P2} (hp : valP p = true) (hq : valP q = true) : ∃ v u, PV 10 p v 134217728 /\ PV 10 q u 134217728 /\ Way (subP q p) ⟨u.a - v.a, u.b - v.b, u.c - v.c, u.d - v.d⟩ /\ pkP q p = true := by
 obtain ⟨v, hv⟩ := valP_pv hp
 obtain ⟨u, hu⟩ := valP_pv hq
 obtain ⟨a1, _⟩ := hu.x.sub hv.x (by decide) (by decide)
 obtain ⟨b1, _⟩ := hu.y.sub hv.y (by decide) (by decide)
 refine ⟨v, u, hv, hu, ⟨⟨a1, b1⟩⟩, ?_⟩
 unfold pkP
 rw [hu.x.pk hv.x (by decide), hu.y.pk hv.y (by decide)]
 rfl
theorem way_ok {d : Int} {w : P2} {v : V4} (hd : inB d 0 15 = true) (h : Way w v) :
  pkC (vecP d) w = true /\ pkD (vecP d) w = true /\ (sB (dotF (vecP d) w).a && sB (dotF (vecP d) w).b) = true /\
  (eqN (crsF (vecP d) w) z3 = true ↔ crA d v = 0 /\ crB d v = 0) /\ sgF (dotF (vecP d) w) = sgZ (dtA d v) (dtB d v) := by
 obtain ⟨eq, h1, h2, h3, h4, h5⟩ := vv_all hd
 have hx := h.pv.x
 have hy := h.pv.y
 unfold crA crB dtA dtB
 generalize vC1 d = c1 at *
 generalize vE1 d = e1 at *
 generalize vC2 d = c2 at *
 generalize vE2 d = e2 at *
 rw [eq]
 obtain ⟨m1, _⟩ := VB.vmul (Val.mk0 c1 e1) h1 h2 hx (by decide) (by decide)
 obtain ⟨m2, _⟩ := VB.vmul (Val.mk0 c2 e2) h3 h4 hy (by decide) (by decide)
 obtain ⟨m3, _⟩ := VB.vmul (Val.mk0 c1 e1) h1 h2 hy (by decide) (by decide)
 obtain ⟨m4, _⟩ := VB.vmul (Val.mk0 c2 e2) h3 h4 hx (by decide) (by decide)
 obtain ⟨dv, dl⟩ := m1.add m2 (by decide) (by decide)
 obtain ⟨cv, cl⟩ := m3.sub m4 (by decide) (by decide)
 have k1 := (pk_val (Val.mk0 c1 e1) hx.v (by decide) (by decide)).2
 have k2 := (pk_val (Val.mk0 c2 e2) hy.v (by decide) (by decide)).2
 have k3 := (pk_val (Val.mk0 c1 e1) hy.v (by decide) (by decide)).2
 have k4 := (pk_val (Val.mk0 c2 e2) hx.v (by decide) (by decide)).2
 refine ⟨?_, ?_, ?_, ?_, dv.v.sg⟩
 ·unfold pkC
  rw [k3, k4, m3.pk m4 (by decide)]
  rfl
 ·unfold pkD
  rw [k1, k2, m1.pk m2 (by decide)]
  rfl
 ·obtain ⟨b1, b2⟩ := dv.v.bd
  have a1 := one_abs h1 hx.a
  have a2' := one_abs h2 hx.b
  have a3 := one_abs h3 hy.a
  have a4' := one_abs h4 hy.b
  have a5 := one_abs h1 hx.b
  have a6 := one_abs h2 hx.a
  have a7 := one_abs h3 hy.b
  have a8 := one_abs h4 hy.a
  have f1 : 2 * e1 * v.b = 2 * (e1 * v.b) := by grind
  have f2 : 2 * e2 * v.d = 2 * (e2 * v.d) := by grind
  rw [f1, f2] at b1
  have hz : e1 * v.b = 0 \/ e2 * v.d = 0 := by
   rcases h5 with h5 | h5
   ·left; rw [h5]; simp
   ·right; rw [h5]; simp
  have q1 := Nat.le_trans b1 (sum_bd a1 a2' a3 a4' hz)
  have q2 := Nat.le_trans b2 (sum_bd2 a5 a6 a7 a8)
  show (sB (addF (mulF ⟨c1, e1, 0⟩ w.x) (mulF ⟨c2, e2, 0⟩ w.y)).a && sB (addF (mulF ⟨c1, e1, 0⟩ w.x) (mulF ⟨c2, e2, 0⟩ w.y)).b) = true
  rw [sB_abs q1, sB_abs q2]
  rfl
 ·rw [eqN_iff]
  show (subF (mulF ⟨c1, e1, 0⟩ w.y) (mulF ⟨c2, e2, 0⟩ w.x)).a = 0 /\ (subF (mulF ⟨c1, e1, 0⟩ w.y) (mulF ⟨c2, e2, 0⟩ w.x)).b = 0 /\ (subF (mulF ⟨c1, e1, 0⟩ w.y) (mulF ⟨c2, e2, 0⟩ w.x)).k = 0 ↔ _
  constructor
  ·rintro ⟨z1, z2, _⟩
   have e1 := cv.v.a
   have e2 := cv.v.b
   rw [z1, Int.zero_mul] at e1
   rw [z2, Int.zero_mul] at e2
   exact ⟨e1, e2⟩
  ·rintro ⟨z1, z2⟩
   rw [z1, z2] at cv
   have hz : Val 10 z3 0 0 := (vb_zero (M := 0)).v
   have := cv.v.uniq hz cl (fun h => by have h1 : (0 : Int) > 0 := h.1; omega)
   rw [this]
   exact ⟨rfl, rfl, rfl⟩
theorem dirF_spec {w : P2} {v : V4} (h : Way w v) : ∀ (n : Nat) (d : Int), 0 <= d -> d + n = 16 -> (∀ e, 0 <= e -> e < d -> ¬ isDir e v) ->
  (inB (dirF n d w) 0 15 = true /\ isDir (dirF n d w) v) \/ (dirF n d w = -1 /\ ∀ e, inB e 0 15 = true -> ¬ isDir e v)
 | 0, d, h0, h1, hno => .inr ⟨rfl, fun e he => hno e (inB_iff.1 he).1 (by have := (inB_iff.1 he).2; omega)⟩
 | n + 1, d, h0, h1, hno => by
  have hd : inB d 0 15 = true := inB_iff.2 (by omega)
  obtain ⟨_, _, _, k1, k2⟩ := way_ok hd h
  unfold dirF
  by_cases hh : isDir d v
  ·rw [k1.2 ⟨hh.1, hh.2.1⟩, k2, show decide (sgZ (dtA d v) (dtB d v) > 0) = true by simpa using hh.2.2]
   exact .inl ⟨hd, hh⟩
  ·have ih := dirF_spec h n (d + 1) (by omega) (by omega) (fun e he he' => by
    by_cases e1 : e = d
    ·subst e1; exact hh
    ·exact hno e he (by omega))
   cases c1 : eqN (crsF (vecP d) w) z3 with
   | false => exact ih
   | true =>
    obtain ⟨z1, z2⟩ := k1.1 c1
    have hs : ¬ sgZ (dtA d v) (dtB d v) > 0 := fun hs => hh ⟨z1, z2, hs⟩
    rw [k2, show decide (sgZ (dtA d v) (dtB d v) > 0) = false by simpa using hs]
    exact ih
theorem dirV_spec {p q : P2} {v : V4} (h : Way (subP q p) v) : (inB (dirV p q) 0 15 = true /\ isDir (dirV p q) v) \/ (dirV p q = -1 /\ ∀ e, inB e 0 15 = true -> ¬ isDir e v) :=
 dirF_spec h 16 0 (by decide) (by decide) fun e he he' => by omega
theorem dirV_is {p q : P2} {v : V4} {e : Int} (h : Way (subP q p) v) (he : inB e 0 15 = true) (hi : isDir e v) : dirV p q = e := by
 rcases dirV_spec h with ⟨k1, k2⟩ | ⟨_, k2⟩
 ·exact isDir_uniq k1 he k2 hi
 ·exact absurd hi (k2 e he)
theorem dirV_no {p q : P2} {v : V4} (h : Way (subP q p) v) (hi : ∀ e, inB e 0 15 = true -> ¬ isDir e v) : dirV p q = -1 := by
 rcases dirV_spec h with ⟨k1, k2⟩ | ⟨k1, _⟩
 ·exact absurd k2 (hi _ k1)
 ·exact k1
theorem dir_back {p q : P2} (hp : valP p = true) (hq : valP q = true) : (dirV p q = -1 -> dirV q p = -1) /\ (inB (dirV p q) 0 15 = true -> dirV q p = (dirV p q + 8) % 16) /\ (inB (dirV p q) 0 15 = true \/ dirV p q = -1) := by
 obtain ⟨v, u, hv, hu, hw, _⟩ := way_of hp hq
 obtain ⟨a1, _⟩ := hv.x.sub hu.x (by decide) (by decide)
 obtain ⟨b1, _⟩ := hv.y.sub hu.y (by decide) (by decide)
 have hw' : Way (subP p q) (mi ⟨u.a - v.a, u.b - v.b, u.c - v.c, u.d - v.d⟩) := by
  refine ⟨⟨?_, ?_⟩⟩
  ·simp only [mi]
   rw [show -(u.a - v.a) = v.a - u.a by omega, show -(u.b - v.b) = v.b - u.b by omega]
   exact a1
  ·simp only [mi]
   rw [show -(u.c - v.c) = v.c - u.c by omega, show -(u.d - v.d) = v.d - u.d by omega]
   exact b1
 rcases dirV_spec hw with ⟨k1, k2⟩ | ⟨k1, k2⟩
 ·have hi := (isDir_flip k1 _).2 k2
  have hb := inB_iff.1 k1
  refine ⟨fun h => by rw [h] at hb; omega, fun _ => dirV_is hw' (inB_iff.2 (by omega)) hi, .inl k1⟩
 ·refine ⟨fun _ => dirV_no hw' fun e he hi => ?_, fun h => (by rw [k1] at h; cases h), .inr k1⟩
  have hb := inB_iff.1 he
  have he' : inB ((e + 8) % 16) 0 15 = true := inB_iff.2 (by omega)
  refine k2 _ he' ?_
  have := (isDir_flip he (mi ⟨u.a - v.a, u.b - v.b, u.c - v.c, u.d - v.d⟩)).2 hi
  rw [mi_mi] at this
  exact this
end Go.Ev
/- Lines through points; points drawn near others; lines and points drawn together. -/
namespace Go.Ev
def offV (d : Int) (p : P2) : N3 := dotF (nrm d) p
def laO (p : P2) (d : Int) : Bool := (valP p && inB d 0 7) && validB (offV d p)
def laL (p : P2) (d : Int) : Ln := ⟨cond (laO p d) d 0, sel (laO p d) (offV d p)⟩
theorem off_ok {d : Int} {p : P2} (hd : inB d 0 7 = true) (hp : valP p = true) : inB (wr (d + 4)) 0 15 = true /\ pkD (nrm d) p = true := by
 obtain ⟨k1, k2, _⟩ := side_ok hd (show validB z3 = true by decide) hp
 exact ⟨k1, k2⟩
def nearW (p : P2) (s : Src) : P2 := ⟨addF p.x (mulF (drawV (pickV 16 s).2).1 (vecP (pickV 16 s).1).x), addF p.y (mulF (drawV (pickV 16 s).2).1 (vecP (pickV 16 s).1).y)⟩
def nearP (p : P2) (s : Src) : P2 := cond (valP (redP (nearW p s))) (redP (nearW p s)) p
def gP (s : Src) : P2 := (pointV (lineV (lineV s).2).2).1
def gQ (s : Src) : P2 := nearP (gP s) (pointV (lineV (lineV s).2).2).2
structure Geo where
 a : Ln
 b : Ln
 p : P2
 q : P2
end Go.Ev
/- The law of meeting lines and of lines through points. -/
namespace Go.Ev
structure Mt (i j : Int) (a b : N3) (c1 e1 c2 e2 g1 f1 g2 f2 A1 A2 B1 B2 da db s : Int) (E : Nat) : Prop where
 pv : PV (10 + E) (mtP i j a b) ⟨s * (((A1 * g2 + 2 * A2 * f2) - (B1 * c2 + 2 * B2 * e2)) * da - 2 * ((A1 * f2 + A2 * g2) - (B1 * e2 + B2 * c2)) * db),
  s * (((A1 * f2 + A2 * g2) - (B1 * e2 + B2 * c2)) * da - ((A1 * g2 + 2 * A2 * f2) - (B1 * c2 + 2 * B2 * e2)) * db),
  s * (((B1 * c1 + 2 * B2 * e1) - (A1 * g1 + 2 * A2 * f1)) * da - 2 * ((B1 * e1 + B2 * c1) - (A1 * f1 + A2 * g1)) * db),
  s * (((B1 * e1 + B2 * c1) - (A1 * f1 + A2 * g1)) * da - ((B1 * c1 + 2 * B2 * e1) - (A1 * g1 + 2 * A2 * f1)) * db)⟩ 100000000000
 lx : lowB (mtP i j a b).x
 ly : lowB (mtP i j a b).y
 ed : crsF (nrm i) (nrm j) = ⟨da, db, 0⟩
 d1 : da = (c1 * g2 + 2 * e1 * f2) - (c2 * g1 + 2 * e2 * f1)
 d2 : db = (c1 * f2 + e1 * g2) - (c2 * f1 + e2 * g1)
 n : da * da - 2 * db * db = s * 2 ^ E
 dn : divN ⟨da, db, 0⟩ = da * da - 2 * db * db
 os : s = dvOdd ⟨da, db, 0⟩
 oe : dvE ⟨da, db, 0⟩ = E
 s1 : s = 1 \/ s = -1
 e3 : E <= 3
end Go.Ev
/- The law of meeting lines: its course, and that it answers yes. -/
namespace Go.Ev
end Go.Ev
/- Directions under turns and flips. -/
namespace Go.Ev
def Times (A B A' B' : Int) : Prop := (A' = 2 * A /\ B' = 2 * B) \/ (A' = 2 * B /\ B' = A) \/ (A' = 4 * B /\ B' = 2 * A)
theorem Times.sg {A B A' B' : Int} (h : Times A B A' B') : sgZ A' B' = sgZ A B := by
 have h2 : ∀ A B : Int, sgZ (2 * A) (2 * B) = sgZ A B := fun A B => by
  have := sgZ_scale A B 1
  rw [Int.pow_one, Int.mul_comm A, Int.mul_comm B] at this
  exact this
 have hr : ∀ A B : Int, sgZ (2 * B) A = sgZ A B := fun A B => by
  have := sgZ_mul 0 1 A B
  rw [show (0 : Int) * A + 2 * 1 * B = 2 * B by omega, show (0 : Int) * B + 1 * A = A by omega, show sgZ 0 1 = 1 from rfl, Int.one_mul] at this
  exact this
 rcases h with ⟨rfl, rfl⟩ | ⟨rfl, rfl⟩ | ⟨rfl, rfl⟩
 ·exact h2 A B
 ·exact hr _ B
 ·rw [show 4 * B = 2 * (2 * B) by omega, h2, hr]
theorem Times.zero {A B A' B' : Int} (h : Times A B A' B') (h1 : A = 0) (h2 : B = 0) : A' = 0 /\ B' = 0 := by
 rcases h with ⟨e, e'⟩ | ⟨e, e'⟩ | ⟨e, e'⟩ <;> omega
theorem Times.neg {A B A' B' : Int} (h : Times A B A' B') : Times (-A) (-B) (-A') (-B') := by
 rcases h with ⟨e, e'⟩ | ⟨e, e'⟩ | ⟨e, e'⟩
 ·exact .inl (by omega)
 ·exact .inr (.inl (by omega))
 ·exact .inr (.inr (by omega))
theorem vC1_8 : vC1 8 = -1 := rfl
theorem vE1_8 : vE1 8 = 0 := rfl
theorem vC2_8 : vC2 8 = 0 := rfl
theorem vE2_8 : vE2 8 = 0 := rfl
theorem vC1_9 : vC1 9 = -1 := rfl
theorem vE1_9 : vE1 9 = 0 := rfl
theorem vC2_9 : vC2 9 = 1 := rfl
theorem vE2_9 : vE2 9 = -1 := rfl
theorem turn_low {e : Int} (he : inB e 0 7 = true) (w : V4) : Times (dtA e w) (dtB e w) (dtA (e + 2) (tv 1 w)) (dtB (e + 2) (tv 1 w)) /\ Times (crA e w) (crB e w) (crA (e + 2) (tv 1 w)) (crB (e + 2) (tv 1 w)) := by
 unfold dtA dtB crA crB
 rw [(tv_all w).2.1]
 rcases t8 he with rfl | rfl | rfl | rfl | rfl | rfl | rfl | rfl
 ·rw [show (0 : Int) + 2 = 2 from rfl]
  simp only [vC1_0, vE1_0, vC2_0, vE2_0, vC1_2, vE1_2, vC2_2, vE2_2]
  exact ⟨.inr (.inr (by omega)), .inr (.inr (by omega))⟩
 ·rw [show (1 : Int) + 2 = 3 from rfl]
  simp only [vC1_1, vE1_1, vC2_1, vE2_1, vC1_3, vE1_3, vC2_3, vE2_3]
  exact ⟨.inl (by omega), .inl (by omega)⟩
 ·rw [show (2 : Int) + 2 = 4 from rfl]
  simp only [vC1_2, vE1_2, vC2_2, vE2_2, vC1_4, vE1_4, vC2_4, vE2_4]
  exact ⟨.inr (.inl (by omega)), .inr (.inl (by omega))⟩
 ·rw [show (3 : Int) + 2 = 5 from rfl]
  simp only [vC1_3, vE1_3, vC2_3, vE2_3, vC1_5, vE1_5, vC2_5, vE2_5]
  exact ⟨.inl (by omega), .inl (by omega)⟩
 ·rw [show (4 : Int) + 2 = 6 from rfl]
  simp only [vC1_4, vE1_4, vC2_4, vE2_4, vC1_6, vE1_6, vC2_6, vE2_6]
  exact ⟨.inr (.inr (by omega)), .inr (.inr (by omega))⟩
 ·rw [show (5 : Int) + 2 = 7 from rfl]
  simp only [vC1_5, vE1_5, vC2_5, vE2_5, vC1_7, vE1_7, vC2_7, vE2_7]
  exact ⟨.inl (by omega), .inl (by omega)⟩
 ·rw [show (6 : Int) + 2 = 8 from rfl]
  simp only [vC1_6, vE1_6, vC2_6, vE2_6, vC1_8, vE1_8, vC2_8, vE2_8]
  exact ⟨.inr (.inl (by omega)), .inr (.inl (by omega))⟩
 ·rw [show (7 : Int) + 2 = 9 from rfl]
  simp only [vC1_7, vE1_7, vC2_7, vE2_7, vC1_9, vE1_9, vC2_9, vE2_9]
  exact ⟨.inl (by omega), .inl (by omega)⟩
theorem turn_all {e : Int} (he : inB e 0 15 = true) (w : V4) : Times (dtA e w) (dtB e w) (dtA ((e + 2) % 16) (tv 1 w)) (dtB ((e + 2) % 16) (tv 1 w)) /\ Times (crA e w) (crB e w) (crA ((e + 2) % 16) (tv 1 w)) (crB ((e + 2) % 16) (tv 1 w)) := by
 have h := inB_iff.1 he
 by_cases h8 : e < 8
 ·rw [show (e + 2) % 16 = e + 2 by omega]
  exact turn_low (inB_iff.2 (by omega)) w
 ·have hd : inB (e - 8) 0 7 = true := inB_iff.2 (by omega)
  obtain ⟨t1, t2⟩ := turn_low hd w
  obtain ⟨a1, a2, a3, a4⟩ := opp_all hd w
  rw [show e - 8 + 8 = e by omega] at a1 a2 a3 a4
  rw [a1, a2, a3, a4]
  have fin : dtA ((e + 2) % 16) (tv 1 w) = -dtA (e - 8 + 2) (tv 1 w) /\ dtB ((e + 2) % 16) (tv 1 w) = -dtB (e - 8 + 2) (tv 1 w) /\ crA ((e + 2) % 16) (tv 1 w) = -crA (e - 8 + 2) (tv 1 w) /\ crB ((e + 2) % 16) (tv 1 w) = -crB (e - 8 + 2) (tv 1 w) := by
   by_cases h14 : e < 14
   ·have hd2 : inB (e - 8 + 2) 0 7 = true := inB_iff.2 (by omega)
    obtain ⟨b1, b2, b3, b4⟩ := opp_all hd2 (tv 1 w)
    rw [show (e + 2) % 16 = e - 8 + 2 + 8 by omega]
    exact ⟨b3, b4, b1, b2⟩
   ·have hd2 : inB (e - 14) 0 7 = true := inB_iff.2 (by omega)
    obtain ⟨b1, b2, b3, b4⟩ := opp_all hd2 (tv 1 w)
    rw [show (e + 2) % 16 = e - 14 by omega, show e - 8 + 2 = e - 14 + 8 by omega]
    exact ⟨by omega, by omega, by omega, by omega⟩
  rw [fin.1, fin.2.1, fin.2.2.1, fin.2.2.2]
  exact ⟨t1.neg, t2.neg⟩
theorem isDir_turn1 {e : Int} {w : V4} (he : inB e 0 15 = true) (h : isDir e w) : isDir ((e + 2) % 16) (tv 1 w) := by
 obtain ⟨t1, t2⟩ := turn_all he w
 obtain ⟨z1, z2⟩ := t2.zero h.1 h.2.1
 exact ⟨z1, z2, by rw [t1.sg]; exact h.2.2⟩
theorem isDir_db {e : Int} {w : V4} : isDir e (db w) ↔ isDir e w := by
 have h1 : crA e (db w) = 2 * crA e w := by unfold crA db; grind
 have h2 : crB e (db w) = 2 * crB e w := by unfold crB db; grind
 have h3 : dtA e (db w) = 2 * dtA e w := by unfold dtA db; grind
 have h4 : dtB e (db w) = 2 * dtB e w := by unfold dtB db; grind
 have hs : sgZ (2 * dtA e w) (2 * dtB e w) = sgZ (dtA e w) (dtB e w) := Times.sg (.inl ⟨rfl, rfl⟩)
 unfold isDir
 rw [h1, h2, h3, h4, hs]
 constructor <;> rintro ⟨a, b, c⟩ <;> exact ⟨by omega, by omega, c⟩
theorem isDir_turn {e : Int} {w : V4} (he : inB e 0 15 = true) (h : isDir e w) : ∀ n : Nat, n < 8 -> isDir ((e + 2 * n) % 16) (tv n w)
 | 0, _ => by
  have h' := inB_iff.1 he
  rw [show (e + 2 * ((0 : Nat) : Int)) % 16 = e by omega, show ((0 : Nat) : Int) = 0 from rfl, (tv_all w).1]
  exact isDir_db.2 h
 | n + 1, hn => by
  have ih := isDir_turn he h n (by omega)
  have hb : inB ((e + 2 * n) % 16) 0 15 = true := inB_iff.2 (by omega)
  have k := isDir_turn1 hb ih
  have ht : inB (n : Int) 0 7 = true := inB_iff.2 (by omega)
  rw [tv_one ht, show ((n : Int) + 1) % 8 = ((n + 1 : Nat) : Int) by omega] at k
  have k := isDir_db.1 k
  rw [show (((e + 2 * n) % 16) + 2) % 16 = (e + 2 * ((n + 1 : Nat) : Int)) % 16 by omega] at k
  exact k
end Go.Ev
/- Moved lines: sides and directions under motions. -/
namespace Go.Ev
theorem and64_15 (x : Int) : and64 x 15 = x % 16 := by
 unfold and64
 show IntKind.i64.wrap ((BitVec.ofInt 64 x &&& BitVec.ofInt 64 15).toNat : Int) = x % 16
 have h : (BitVec.ofInt 64 x &&& BitVec.ofInt 64 15).toNat = (BitVec.ofInt 64 x).toNat % 16 := by
  rw [BitVec.toNat_and]
  show (BitVec.ofInt 64 x).toNat &&& 15 = _
  exact Nat.and_two_pow_sub_one_eq_mod _ 4
 rw [h]
 have h2 : (BitVec.ofInt 64 x).toNat = (x % 18446744073709551616).toNat := by
  rw [BitVec.toNat_ofInt]
  rfl
 rw [h2]
 show wr _ = _
 rw [wr_in (by omega) (by omega)]
 omega
def sgD (e : Int) (u : V4) : Int := sgZ (dtA e u) (dtB e u)
theorem v_opp16 {d : Int} (hd : inB d 0 15 = true) : vC1 ((d + 8) % 16) = -vC1 d /\ vE1 ((d + 8) % 16) = -vE1 d /\ vC2 ((d + 8) % 16) = -vC2 d /\ vE2 ((d + 8) % 16) = -vE2 d := by
 rcases d16 hd with rfl | rfl | rfl | rfl | rfl | rfl | rfl | rfl | rfl | rfl | rfl | rfl | rfl | rfl | rfl | rfl <;> decide
theorem v_perp16 {d : Int} (hd : inB d 0 15 = true) : vC1 ((d + 4) % 16) = -vC2 d /\ vE1 ((d + 4) % 16) = -vE2 d /\ vC2 ((d + 4) % 16) = vC1 d /\ vE2 ((d + 4) % 16) = vE1 d := by
 rcases d16 hd with rfl | rfl | rfl | rfl | rfl | rfl | rfl | rfl | rfl | rfl | rfl | rfl | rfl | rfl | rfl | rfl <;> decide
theorem v_flip16 {e : Int} (he : inB e 0 15 = true) : vC1 ((16 - e) % 16) = vC1 e /\ vE1 ((16 - e) % 16) = vE1 e /\ vC2 ((16 - e) % 16) = -vC2 e /\ vE2 ((16 - e) % 16) = -vE2 e := by
 rcases d16 he with rfl | rfl | rfl | rfl | rfl | rfl | rfl | rfl | rfl | rfl | rfl | rfl | rfl | rfl | rfl | rfl <;> decide
theorem perp16 {d : Int} (hd : inB d 0 15 = true) (w : V4) : dtA ((d + 4) % 16) w = crA d w /\ dtB ((d + 4) % 16) w = crB d w := by
 obtain ⟨h1, h2, h3, h4⟩ := v_perp16 hd
 unfold dtA dtB crA crB
 rw [h1, h2, h3, h4]
 constructor <;> grind
theorem flip_all {e : Int} (he : inB e 0 15 = true) (w : V4) : dtA ((16 - e) % 16) (fl true w) = dtA e w /\ dtB ((16 - e) % 16) (fl true w) = dtB e w /\ crA ((16 - e) % 16) (fl true w) = -crA e w /\ crB ((16 - e) % 16) (fl true w) = -crB e w := by
 obtain ⟨h1, h2, h3, h4⟩ := v_flip16 he
 unfold dtA dtB crA crB fl
 rw [h1, h2, h3, h4]
 refine ⟨?_, ?_, ?_, ?_⟩ <;> simp only [cond_true] <;> grind
theorem isDir_fl {e : Int} {w : V4} (he : inB e 0 15 = true) (h : isDir e w) : isDir ((16 - e) % 16) (fl true w) := by
 obtain ⟨h1, h2, h3, h4⟩ := flip_all he w
 have g1 := h.1
 have g2 := h.2.1
 exact ⟨by omega, by omega, by rw [h1, h2]; exact h.2.2⟩
def dirM (m : M8) (d : Int) : Int := (cond m.f (16 - d) d + 2 * m.t) % 16
theorem dirM_in (m : M8) (d : Int) : inB (dirM m d) 0 15 = true := inB_iff.2 (by unfold dirM; omega)
theorem dirM_is {m : M8} {d : Int} {w : V4} (hm : inB m.t 0 7 = true) (hd : inB d 0 15 = true) (h : isDir d w) : isDir (dirM m d) (tv m.t (fl m.f w)) := by
 have ht := inB_iff.1 hm
 have hd' := inB_iff.1 hd
 obtain ⟨n, hn⟩ : ∃ n : Nat, m.t = n := ⟨m.t.toNat, by omega⟩
 unfold dirM
 cases hf : m.f with
 | false =>
  have := isDir_turn hd h n (by omega)
  rw [hn]
  exact this
 | true =>
  have hb : inB ((16 - d) % 16) 0 15 = true := inB_iff.2 (by omega)
  have := isDir_turn hb (isDir_fl hd h) n (by omega)
  rw [hn]
  simp only [cond_true]
  rw [show (16 - d + 2 * (n : Int)) % 16 = ((16 - d) % 16 + 2 * n) % 16 by omega]
  exact this
structure Ft (d : Int) (off : N3) (E : Nat) (f : V4) (O1 O2 : Int) : Prop where
 e3 : E <= 3
 o : VB 10 off O1 O2 134217728
 pv : PV (10 + E) (footF (nrm d) off) f 4831838208
 x : lowB (footF (nrm d) off).x
 y : lowB (footF (nrm d) off).y
 i : timesF (nrm d) (dvF off (dotF (nrm d) (nrm d))) = footF (nrm d) off
 t : pkT (nrm d) (dvF off (dotF (nrm d) (nrm d))) = true
 a : dtA (d + 4) f = O1 * 2 ^ E
 b : dtB (d + 4) f = O2 * 2 ^ E
end Go.Ev
/- The law of moved lines. -/
namespace Go.Ev
theorem fl_mi (f : Bool) (v : V4) : fl f (mi v) = mi (fl f v) := by
 cases f
 ·rfl
 ·apply V4.ext' <;> simp [fl, mi]
theorem ml_dir {m : M8} {p q : P2} (hm : m.valid = true) (hp : valP p = true) (hq : valP q = true) (h2 : mvO m p = true) (h3 : mvO m q = true) (hd : ¬ dirV p q < 0) :
  dirV (mvP m p) (mvP m q) = dirM m (dirV p q) /\ inB (dirV p q) 0 15 = true /\ valP (mvP m p) = true /\ valP (mvP m q) = true := by
 have hm' := hm
 unfold M8.valid at hm'
 rw [Bool.and_eq_true] at hm'
 obtain ⟨v, u, hv, hu, hw, _⟩ := way_of hp hq
 obtain ⟨w, hws⟩ := valP_pv hm'.2
 obtain ⟨p1, p2, _, _⟩ := mv_val (m := m) (Nat.le_refl _) hv hws
 obtain ⟨q1, q2, _, _⟩ := mv_val (m := m) (Nat.le_refl _) hu hws
 have eP : mvP m p = moveF m.t m.f m.s p := by unfold mvP; rw [h2, p2]; rfl
 have eQ : mvP m q = moveF m.t m.f m.s q := by unfold mvP; rw [h3, q2]; rfl
 have vp : valP (moveF m.t m.f m.s p) = true := by rw [mvO_true hm hp, p2] at h2; exact h2
 have vq : valP (moveF m.t m.f m.s q) = true := by rw [mvO_true hm hq, q2] at h3; exact h3
 obtain ⟨V, U, hV, hU, hW, _⟩ := way_of vp vq
 have dV := pv_same (pv_db hV) p1
 have dU := pv_same (pv_db hU) q1
 rcases dirV_spec hw with ⟨k1, k2⟩ | ⟨k1, _⟩
 ·refine ⟨?_, k1, by rw [eP]; exact vp, by rw [eQ]; exact vq⟩
  rw [eP, eQ]
  refine dirV_is hW (dirM_in _ _) ?_
  have h := dirM_is hm'.1 k1 k2
  have e0 : (⟨u.a - v.a, u.b - v.b, u.c - v.c, u.d - v.d⟩ : V4) = ad u (mi v) := by apply V4.ext' <;> simp only [ad, mi] <;> omega
  rw [e0, (fl_lin m.f u (mi v)).1, (tv_lin hm'.1 _ _).1, fl_mi, (tv_lin hm'.1 (fl m.f v) (fl m.f v)).2.2] at h
  have e1 : ad (tv m.t (fl m.f u)) (mi (tv m.t (fl m.f v))) = db ⟨U.a - V.a, U.b - V.b, U.c - V.c, U.d - V.d⟩ := by
   have a1 : ad (tv m.t (fl m.f u)) (mi (tv m.t (fl m.f v))) = ad (ad (tv m.t (fl m.f u)) (db w)) (mi (ad (tv m.t (fl m.f v)) (db w))) := by
    apply V4.ext' <;> simp only [ad, mi, db] <;> omega
   rw [a1, <- dV, <- dU]
   apply V4.ext' <;> simp only [ad, mi, db] <;> omega
  rw [e1] at h
  exact isDir_db.1 h
 ·omega
end Go.Ev
/- What the contracts about moved lines and directions need. -/
namespace Go.Ev
theorem mod_ok {d : Int} (h : inB d (-100) 100 = true) : (wr (d.tmod 16 + 16)).tmod 16 = d % 16 := by
 have h := inB_iff.1 h
 have e : d.tmod 16 = d % 16 \/ d.tmod 16 = d % 16 - 16 := by
  by_cases h0 : 0 <= d
  ·left; exact Int.tmod_eq_emod_of_nonneg h0
  ·by_cases h1 : d % 16 = 0
   ·left
    obtain ⟨k, hk⟩ : ∃ k, d = 16 * k := ⟨d / 16, by omega⟩
    rw [hk]; simp
   ·right
    have : d.tmod 16 = -((-d).tmod 16) := by rw [Int.neg_tmod, Int.neg_neg]
    rw [this, Int.tmod_eq_emod_of_nonneg (by omega)]
    omega
 rw [wr_in (by omega) (by omega), Int.tmod_eq_emod_of_nonneg (by omega)]
 omega
theorem mod_small {d : Int} (h : inB d 0 15 = true) : d % 16 = d := by have := inB_iff.1 h; omega
def wayB (w : P2) : Bool := decide ((0 <= w.x.k /\ w.x.k <= 10) /\ (0 <= w.y.k /\ w.y.k <= 10)) && decide (((w.x.a * 2 ^ (10 - w.x.k.toNat)).natAbs <= 268435456 /\ (w.x.b * 2 ^ (10 - w.x.k.toNat)).natAbs <= 268435456) /\
 ((w.y.a * 2 ^ (10 - w.y.k.toNat)).natAbs <= 268435456 /\ (w.y.b * 2 ^ (10 - w.y.k.toNat)).natAbs <= 268435456))
theorem wayB_way {w : P2} (h : wayB w = true) : ∃ v, Way w v := by
 unfold wayB at h
 simp only [Bool.and_eq_true, decide_eq_true_eq] at h
 obtain ⟨⟨⟨h1, h2⟩, h3, h4⟩, ⟨h5, h6⟩, h7, h8⟩ := h
 exact ⟨⟨_, _, _, _⟩, ⟨⟨⟨⟨h1, h2, rfl, rfl⟩, h5, h6⟩, ⟨⟨h3, h4, rfl, rfl⟩, h7, h8⟩⟩⟩⟩
theorem way_wayB {w : P2} {v : V4} (h : Way w v) : wayB w = true := by
 obtain ⟨⟨⟨vx, ax, bx⟩, ⟨vy, ay, by_⟩⟩⟩ := h
 rw [vx.a] at ax
 rw [vx.b] at bx
 rw [vy.a] at ay
 rw [vy.b] at by_
 unfold wayB
 simp only [Bool.and_eq_true, decide_eq_true_eq]
 exact ⟨⟨⟨vx.k0, vx.kS⟩, vy.k0, vy.kS⟩, ⟨ax, bx⟩, ay, by_⟩
def zroN (x : N3) : Bool := x.a == 0 && x.b == 0
theorem zro_perp {d : Int} {w : P2} {v : V4} (hd : inB d 0 15 = true) (h : Way w v) : zroN (dotF (vecP ((d + 4) % 16)) w) = eqN (crsF (vecP d) w) z3 := by
 obtain ⟨_, _, _, k1, _⟩ := way_ok hd h
 have hd4 : inB ((d + 4) % 16) 0 15 = true := inB_iff.2 (by omega)
 obtain ⟨eq, h1, h2, h3, h4, h5⟩ := vv_all hd4
 obtain ⟨p1, p2⟩ := perp16 hd v
 have hx := h.pv.x
 have hy := h.pv.y
 have vd : Val 10 (dotF (vecP ((d + 4) % 16)) w) (dtA ((d + 4) % 16) v) (dtB ((d + 4) % 16) v) := by
  unfold dtA dtB
  generalize vC1 ((d + 4) % 16) = c1 at *
  generalize vE1 ((d + 4) % 16) = e1 at *
  generalize vC2 ((d + 4) % 16) = c2 at *
  generalize vE2 ((d + 4) % 16) = e2 at *
  rw [eq]
  obtain ⟨m1, _⟩ := VB.vmul (Val.mk0 c1 e1) h1 h2 hx (by decide) (by decide)
  obtain ⟨m2, _⟩ := VB.vmul (Val.mk0 c2 e2) h3 h4 hy (by decide) (by decide)
  exact (m1.add m2 (by decide) (by decide)).1.v
 rw [p1, p2] at vd
 have hk := vd.kS
 have hp := pow_pos2 (10 - (dotF (vecP ((d + 4) % 16)) w).k.toNat)
 have iff1 : zroN (dotF (vecP ((d + 4) % 16)) w) = true ↔ crA d v = 0 /\ crB d v = 0 := by
  rw [vd.a, vd.b]
  unfold zroN
  rw [Bool.and_eq_true, beq_iff_eq, beq_iff_eq]
  constructor
  ·rintro ⟨a, b⟩
   rw [a, b]
   simp
  ·rintro ⟨a, b⟩
   rcases Int.mul_eq_zero.1 a with a | a
   ·rcases Int.mul_eq_zero.1 b with b | b
    ·exact ⟨a, b⟩
    ·omega
   ·omega
 rw [<- k1] at iff1
 cases h1 : zroN (dotF (vecP ((d + 4) % 16)) w) <;> cases h2 : eqN (crsF (vecP d) w) z3 <;> simp_all
end Go.Ev
/- Reflections at a fine scale; the foot of a line reflected. -/
namespace Go.Ev
theorem VB.half {S : Nat} {x : N3} {A B : Int} {M : Nat} (h : VB S x A B M) (hS : S <= 999) (hM : M < 9223372036854775808) : VB (S + 1) (halfF x) A B M /\ lowB (halfF x) := by
 have k0 := h.v.k0
 have kS := h.v.kS
 have e : wr (x.k + 1) = x.k + 1 := wr_in (by omega) (by omega)
 have hv : Val (S + 1) ⟨x.a, x.b, x.k + 1⟩ A B := by
  have es : S + 1 - (x.k + 1).toNat = S - x.k.toNat := by omega
  refine ⟨by show 0 <= x.k + 1; omega, by show x.k + 1 <= _; omega, ?_, ?_⟩
  ·show _ = x.a * 2 ^ (S + 1 - (x.k + 1).toNat)
   rw [es]; exact h.v.a
  ·show _ = x.b * 2 ^ (S + 1 - (x.k + 1).toNat)
   rw [es]; exact h.v.b
 obtain ⟨r, l⟩ := hv.red (by omega) (Nat.lt_of_le_of_lt h.a hM) (Nat.lt_of_le_of_lt h.b hM)
 unfold halfF
 rw [e]
 exact ⟨⟨r, h.a, h.b⟩, l⟩
structure Rp (n p : P2) (off : N3) : Prop where
 k1 : pkD n p = true
 k2 : pk off (dotF n p) = true
 k3 : pkD n n = true
 k4 : dvP (subF off (dotF n p)) (dotF n n) = true
 k5 : pk (dvF (subF off (dotF n p)) (dotF n n)) (dvF (subF off (dotF n p)) (dotF n n)) = true
 k6 : pkT n (addF (dvF (subF off (dotF n p)) (dotF n n)) (dvF (subF off (dotF n p)) (dotF n n))) = true
 k7 : pkP p (timesF n (addF (dvF (subF off (dotF n p)) (dotF n n)) (dvF (subF off (dotF n p)) (dotF n n)))) = true
def lr (d : Int) (v : V4) : V4 := tv d (fl true v)
structure Rf (d : Int) (off : N3) (O1 O2 : Int) (W : V4) : Prop where
 o : VB 10 off O1 O2 134217728
 z : ad (lr d W) (db W) = ⟨0, 0, 0, 0⟩
 r : ∀ (p : P2) (v : V4), PV 13 p v 1073741824 -> PV 16 (rflI (nrm d) off p) (ad (sc 4 (lr d v)) W) 8000000000000 /\ lowB (rflI (nrm d) off p).x /\ lowB (rflI (nrm d) off p).y /\ Rp (nrm d) p off
 s : ∀ v : V4, dtA (d + 4) (ad (sc 4 (lr d v)) W) = 128 * O1 - 8 * dtA (d + 4) v /\ dtB (d + 4) (ad (sc 4 (lr d v)) W) = 128 * O2 - 8 * dtB (d + 4) v
 f : ∀ v : V4, dtA (d + 4) v = 8 * O1 -> dtB (d + 4) v = 8 * O2 -> ad (sc 4 (lr d v)) W = sc 8 v
end Go.Ev
/- Lines reflected: twice gives the line back; the common point. -/
namespace Go.Ev
structure Fo (d : Int) (off : N3) (O1 O2 : Int) (f : V4) : Prop where
 o : VB 10 off O1 O2 134217728
 pv : PV 13 (footF (nrm d) off) f 1073741824
 a : dtA (d + 4) f = 8 * O1
 b : dtB (d + 4) f = 8 * O2
theorem val_same {S : Nat} {x : N3} {A B C D : Int} (h : Val S x A B) (g : Val S x C D) : A = C /\ B = D := ⟨h.a.trans g.a.symm, h.b.trans g.b.symm⟩
end Go.Ev
/- The law of reflections of points, directions and lines. -/
namespace Go.Ev
theorem eqN_eq {x y : N3} (h : eqN x y = true) : x = y := by
 unfold eqN at h
 simp only [Bool.and_eq_true, Bool.and_true, beq_iff_eq] at h
 cases x; cases y
 simp only at h
 obtain ⟨rfl, rfl, rfl⟩ := h
 rfl
theorem eqP2_eq {p q : P2} (h : eqP2 p q = true) : p = q := by
 unfold eqP2 at h
 simp only [Bool.and_eq_true, Bool.and_true] at h
 cases p; cases q
 simp only at h
 rw [eqN_eq h.1, eqN_eq h.2]
structure Tw (a : Ln) (p : P2) (A1 A2 : Int) (W v V : V4) : Prop where
 pv : PV 10 p v 134217728
 xv : PV 10 (rflI (nrm a.d) a.o p) V 134217728
 e : sc 64 V = ad (sc 4 (lr a.d (sc 8 v))) W
 low : lowB (rflI (nrm a.d) a.o p).x /\ lowB (rflI (nrm a.d) a.o p).y
end Go.Ev
