/- Directions, lines and reflections in plain Lean. -/
import Derived.Test.YtooikeeckoflpaaDoorPlB
set_option linter.unusedVariables false
set_option linter.unusedSimpArgs false
/- Directions: which of the sixteen a vector has; it has at most one. -/
namespace Go.Ev

/-- A direction's vector in numbers. -/
structure Vv (n : P2) (c1 e1 c2 e2 : Int) : Prop where
  eq : n = ⟨⟨c1, e1, 0⟩, ⟨c2, e2, 0⟩⟩
  h1 : c1.natAbs ≤ 1
  h2 : e1.natAbs ≤ 1
  h3 : c2.natAbs ≤ 1
  h4 : e2.natAbs ≤ 1
  h5 : e1 = 0 ∨ e2 = 0
def vC1 (d : Int) : Int := [1, 1, 1, -1, 0, 1, -1, -1, -1, -1, -1, 1, 0, -1, 1, 1].getD d.toNat 0
def vE1 (d : Int) : Int := [0, 0, 0, 1, 0, -1, 0, 0, 0, 0, 0, -1, 0, 1, 0, 0].getD d.toNat 0
def vC2 (d : Int) : Int := [0, -1, 1, 1, 1, 1, 1, -1, 0, 1, -1, -1, -1, -1, -1, 1].getD d.toNat 0
def vE2 (d : Int) : Int := [0, 1, 0, 0, 0, 0, 0, 1, 0, -1, 0, 0, 0, 0, 0, -1].getD d.toNat 0
theorem d16 {d : Int} (h : inB d 0 15 = true) : d = 0 ∨ d = 1 ∨ d = 2 ∨ d = 3 ∨ d = 4 ∨ d = 5 ∨ d = 6 ∨ d = 7 ∨ d = 8 ∨ d = 9 ∨ d = 10 ∨ d = 11 ∨ d = 12 ∨ d = 13 ∨ d = 14 ∨ d = 15 := by
  have := inB_iff.1 h
  omega
theorem vv_all {d : Int} (h : inB d 0 15 = true) : Vv (vecP d) (vC1 d) (vE1 d) (vC2 d) (vE2 d) := by
  rcases d16 h with rfl | rfl | rfl | rfl | rfl | rfl | rfl | rfl | rfl | rfl | rfl | rfl | rfl | rfl | rfl | rfl
  all_goals exact ⟨by kernel_rfl, by decide, by decide, by decide, by decide, by decide⟩
def dtA (d : Int) (w : V4) : Int := vC1 d * w.a + 2 * vE1 d * w.b + (vC2 d * w.c + 2 * vE2 d * w.d)
def dtB (d : Int) (w : V4) : Int := vC1 d * w.b + vE1 d * w.a + (vC2 d * w.d + vE2 d * w.c)
def crA (d : Int) (w : V4) : Int := vC1 d * w.c + 2 * vE1 d * w.d - (vC2 d * w.a + 2 * vE2 d * w.b)
def crB (d : Int) (w : V4) : Int := vC1 d * w.d + vE1 d * w.c - (vC2 d * w.b + vE2 d * w.a)
/-- The vector w has the direction d. -/
def isDir (d : Int) (w : V4) : Prop := crA d w = 0 ∧ crB d w = 0 ∧ sgZ (dtA d w) (dtB d w) > 0
theorem vC1_0 : vC1 0 = 1 := rfl
theorem vE1_0 : vE1 0 = 0 := rfl
theorem vC2_0 : vC2 0 = 0 := rfl
theorem vE2_0 : vE2 0 = 0 := rfl
theorem vC1_1 : vC1 1 = 1 := rfl
theorem vE1_1 : vE1 1 = 0 := rfl
theorem vC2_1 : vC2 1 = -1 := rfl
theorem vE2_1 : vE2 1 = 1 := rfl
theorem vC1_2 : vC1 2 = 1 := rfl
theorem vE1_2 : vE1 2 = 0 := rfl
theorem vC2_2 : vC2 2 = 1 := rfl
theorem vE2_2 : vE2 2 = 0 := rfl
theorem vC1_3 : vC1 3 = -1 := rfl
theorem vE1_3 : vE1 3 = 1 := rfl
theorem vC2_3 : vC2 3 = 1 := rfl
theorem vE2_3 : vE2 3 = 0 := rfl
theorem vC1_4 : vC1 4 = 0 := rfl
theorem vE1_4 : vE1 4 = 0 := rfl
theorem vC2_4 : vC2 4 = 1 := rfl
theorem vE2_4 : vE2 4 = 0 := rfl
theorem vC1_5 : vC1 5 = 1 := rfl
theorem vE1_5 : vE1 5 = -1 := rfl
theorem vC2_5 : vC2 5 = 1 := rfl
theorem vE2_5 : vE2 5 = 0 := rfl
theorem vC1_6 : vC1 6 = -1 := rfl
theorem vE1_6 : vE1 6 = 0 := rfl
theorem vC2_6 : vC2 6 = 1 := rfl
theorem vE2_6 : vE2 6 = 0 := rfl
theorem vC1_7 : vC1 7 = -1 := rfl
theorem vE1_7 : vE1 7 = 0 := rfl
theorem vC2_7 : vC2 7 = -1 := rfl
theorem vE2_7 : vE2 7 = 1 := rfl
theorem cr_zero {d e : Int} {w : V4} (hd : inB d 0 7 = true) (he : inB e 0 7 = true) (hne : d ≠ e) (h1 : crA d w = 0) (h2 : crB d w = 0) (g1 : crA e w = 0) (g2 : crB e w = 0) : w = ⟨0, 0, 0, 0⟩ := by
  have key : w.a = 0 ∧ w.b = 0 ∧ w.c = 0 ∧ w.d = 0 := by
    unfold crA at h1 g1
    unfold crB at h2 g2
    rcases t8 hd with rfl | rfl | rfl | rfl | rfl | rfl | rfl | rfl <;> simp only [vC1_0, vE1_0, vC2_0, vE2_0, vC1_1, vE1_1, vC2_1, vE2_1, vC1_2, vE1_2, vC2_2, vE2_2, vC1_3, vE1_3, vC2_3, vE2_3, vC1_4, vE1_4, vC2_4, vE2_4, vC1_5, vE1_5, vC2_5, vE2_5, vC1_6, vE1_6, vC2_6, vE2_6, vC1_7, vE1_7, vC2_7, vE2_7] at h1 h2 <;>
      (rcases t8 he with rfl | rfl | rfl | rfl | rfl | rfl | rfl | rfl <;> first | exact absurd rfl hne | (simp only [vC1_0, vE1_0, vC2_0, vE2_0, vC1_1, vE1_1, vC2_1, vE2_1, vC1_2, vE1_2, vC2_2, vE2_2, vC1_3, vE1_3, vC2_3, vE2_3, vC1_4, vE1_4, vC2_4, vE2_4, vC1_5, vE1_5, vC2_5, vE2_5, vC1_6, vE1_6, vC2_6, vE2_6, vC1_7, vE1_7, vC2_7, vE2_7] at g1 g2; omega))
  obtain ⟨k1, k2, k3, k4⟩ := key
  exact V4.ext' k1 k2 k3 k4
theorem v_opp {d : Int} (hd : inB d 0 7 = true) : vC1 (d + 8) = -vC1 d ∧ vE1 (d + 8) = -vE1 d ∧ vC2 (d + 8) = -vC2 d ∧ vE2 (d + 8) = -vE2 d := by
  rcases t8 hd with rfl | rfl | rfl | rfl | rfl | rfl | rfl | rfl <;> decide
theorem opp_all {d : Int} (hd : inB d 0 7 = true) (w : V4) : crA (d + 8) w = -crA d w ∧ crB (d + 8) w = -crB d w ∧ dtA (d + 8) w = -dtA d w ∧ dtB (d + 8) w = -dtB d w := by
  obtain ⟨h1, h2, h3, h4⟩ := v_opp hd
  unfold crA crB dtA dtB
  rw [h1, h2, h3, h4]
  refine ⟨?_, ?_, ?_, ?_⟩ <;> grind
theorem cr_mi (d : Int) (w : V4) : crA d (mi w) = -crA d w ∧ crB d (mi w) = -crB d w ∧ dtA d (mi w) = -dtA d w ∧ dtB d (mi w) = -dtB d w := by
  unfold crA crB dtA dtB mi
  refine ⟨?_, ?_, ?_, ?_⟩ <;> grind
theorem isDir_opp {d : Int} (hd : inB d 0 7 = true) (w : V4) : isDir (d + 8) w ↔ isDir d (mi w) := by
  obtain ⟨a1, a2, a3, a4⟩ := opp_all hd w
  obtain ⟨b1, b2, b3, b4⟩ := cr_mi d w
  unfold isDir
  rw [a1, a2, a3, a4, b1, b2, b3, b4]
theorem mi_mi (w : V4) : mi (mi w) = w := by simp [mi]
theorem isDir_flip {d : Int} (hd : inB d 0 15 = true) (w : V4) : isDir ((d + 8) % 16) (mi w) ↔ isDir d w := by
  have := inB_iff.1 hd
  by_cases h : d < 8
  · have hd7 : inB d 0 7 = true := inB_iff.2 (by omega)
    rw [show (d + 8) % 16 = d + 8 by omega, isDir_opp hd7, mi_mi]
  · have hd7 : inB (d - 8) 0 7 = true := inB_iff.2 (by omega)
    have := isDir_opp hd7 w
    rw [show d - 8 + 8 = d by omega] at this
    rw [show (d + 8) % 16 = d - 8 by omega, this]
theorem isDir_ne {d : Int} {w : V4} (h : isDir d w) : w ≠ ⟨0, 0, 0, 0⟩ := fun e => by
  have h3 := h.2.2
  rw [e] at h3
  unfold dtA dtB at h3
  simp at h3
  rw [sgZ_zero] at h3
  omega
theorem isDir_uniq7 {d e : Int} {w : V4} (hd : inB d 0 7 = true) (he : inB e 0 7 = true) (h : isDir d w) (g : isDir e w ∨ isDir (e + 8) w) : d = e ∧ isDir e w := by
  have hz : crA e w = 0 ∧ crB e w = 0 := by
    rcases g with g | g
    · exact ⟨g.1, g.2.1⟩
    · obtain ⟨a1, a2, _⟩ := opp_all he w
      have g1 := g.1
      have g2 := g.2.1
      omega
  have e1 : d = e := by
    rcases Classical.em (d = e) with h' | h'
    · exact h'
    · exact absurd (cr_zero hd he h' h.1 h.2.1 hz.1 hz.2) (isDir_ne h)
  subst e1
  exact ⟨rfl, h⟩
theorem isDir_uniq {d e : Int} {w : V4} (hd : inB d 0 15 = true) (he : inB e 0 15 = true) (h : isDir d w) (g : isDir e w) : d = e := by
  have hd' := inB_iff.1 hd
  have he' := inB_iff.1 he
  have no : ∀ {d : Int} {w : V4}, inB d 0 7 = true → isDir d w → isDir (d + 8) w → False := fun {d w} hd h g => by
    obtain ⟨_, _, a3, a4⟩ := opp_all hd w
    have h3 := h.2.2
    have g3 := g.2.2
    rw [a3, a4, sgZ_minus] at g3
    omega
  by_cases c1 : d < 8
  · have hd7 : inB d 0 7 = true := inB_iff.2 (by omega)
    by_cases c2 : e < 8
    · exact (isDir_uniq7 hd7 (inB_iff.2 (by omega)) h (.inl g)).1
    · have he7 : inB (e - 8) 0 7 = true := inB_iff.2 (by omega)
      have g' : isDir (e - 8 + 8) w := by rw [show e - 8 + 8 = e by omega]; exact g
      obtain ⟨_, k⟩ := isDir_uniq7 hd7 he7 h (.inr g')
      exact (no he7 k g').elim
  · have hd7 : inB (d - 8) 0 7 = true := inB_iff.2 (by omega)
    have h' : isDir (d - 8 + 8) w := by rw [show d - 8 + 8 = d by omega]; exact h
    by_cases c2 : e < 8
    · have he7 : inB e 0 7 = true := inB_iff.2 (by omega)
      obtain ⟨_, k⟩ := isDir_uniq7 he7 hd7 g (.inr h')
      exact (no hd7 k h').elim
    · have he7 : inB (e - 8) 0 7 = true := inB_iff.2 (by omega)
      have g' : isDir (e - 8 + 8) w := by rw [show e - 8 + 8 = e by omega]; exact g
      have h2 := (isDir_opp hd7 w).1 h'
      have g2 := (isDir_opp he7 w).1 g'
      have := (isDir_uniq7 hd7 he7 h2 (.inl g2)).1
      omega
end Go.Ev

/- The direction from a point to another one, as the program finds it. -/
namespace Go.Ev

def dirF : Nat → Int → P2 → Int
  | 0, _, _ => -1
  | n + 1, d, w => cond (eqN (crsF (vecP d) w) z3) (cond (decide (sgF (dotF (vecP d) w) > 0)) d (dirF n (d + 1) w)) (dirF n (d + 1) w)
theorem dirF_succ (n : Nat) (d : Int) (w : P2) : dirF (n + 1) d w = cond (eqN (crsF (vecP d) w) z3) (cond (decide (sgF (dotF (vecP d) w) > 0)) d (dirF n (d + 1) w)) (dirF n (d + 1) w) := rfl
def dirV (p q : P2) : Int := dirF 16 0 (subP q p)
theorem eqN_iff {x : N3} : eqN x z3 = true ↔ x.a = 0 ∧ x.b = 0 ∧ x.k = 0 := by simp [eqN, z3]
theorem one_abs {c a : Int} {M : Nat} (hc : c.natAbs ≤ 1) (ha : a.natAbs ≤ M) : (c * a).natAbs ≤ M := by
  have := abs_mul_le hc ha
  omega
theorem sum_bd {a g c h : Int} (h1 : a.natAbs ≤ 268435456) (h2 : g.natAbs ≤ 268435456) (h3 : c.natAbs ≤ 268435456) (h4 : h.natAbs ≤ 268435456) (hz : g = 0 ∨ h = 0) : (a + 2 * g + (c + 2 * h)).natAbs ≤ 1073741824 := by
  rcases hz with rfl | rfl <;> omega
theorem sum_bd2 {a g c h : Int} (h1 : a.natAbs ≤ 268435456) (h2 : g.natAbs ≤ 268435456) (h3 : c.natAbs ≤ 268435456) (h4 : h.natAbs ≤ 268435456) : (a + g + (c + h)).natAbs ≤ 1073741824 := by omega
theorem sB_abs {x : Int} (h : x.natAbs ≤ 1073741824) : sB x = true := sB_iff.2 (by omega)
structure Way (w : P2) (v : V4) : Prop where
  pv : PV 10 w v 268435456
theorem way_of {p q : P2} (hp : valP p = true) (hq : valP q = true) : ∃ v u, PV 10 p v 134217728 ∧ PV 10 q u 134217728 ∧ Way (subP q p) ⟨u.a - v.a, u.b - v.b, u.c - v.c, u.d - v.d⟩ ∧ pkP q p = true := by
  obtain ⟨v, hv⟩ := valP_pv hp
  obtain ⟨u, hu⟩ := valP_pv hq
  obtain ⟨a1, _⟩ := hu.x.sub hv.x (by decide) (by decide)
  obtain ⟨b1, _⟩ := hu.y.sub hv.y (by decide) (by decide)
  refine ⟨v, u, hv, hu, ⟨⟨a1, b1⟩⟩, ?_⟩
  unfold pkP
  rw [hu.x.pk hv.x (by decide), hu.y.pk hv.y (by decide)]
  rfl
theorem way_ok {d : Int} {w : P2} {v : V4} (hd : inB d 0 15 = true) (h : Way w v) :
    pkC (vecP d) w = true ∧ pkD (vecP d) w = true ∧ (sB (dotF (vecP d) w).a && sB (dotF (vecP d) w).b) = true ∧
    (eqN (crsF (vecP d) w) z3 = true ↔ crA d v = 0 ∧ crB d v = 0) ∧ sgF (dotF (vecP d) w) = sgZ (dtA d v) (dtB d v) := by
  obtain ⟨eq, h1, h2, h3, h4, h5⟩ := vv_all hd
  have hx := h.pv.x
  have hy := h.pv.y
  unfold crA crB dtA dtB
  generalize vC1 d = c1 at *
  generalize vE1 d = e1 at *
  generalize vC2 d = c2 at *
  generalize vE2 d = e2 at *
  rw [eq]
  obtain ⟨m1, _⟩ := VB.vmul (Val.mk0 c1 e1) h1 h2 hx (by decide) (by decide)
  obtain ⟨m2, _⟩ := VB.vmul (Val.mk0 c2 e2) h3 h4 hy (by decide) (by decide)
  obtain ⟨m3, _⟩ := VB.vmul (Val.mk0 c1 e1) h1 h2 hy (by decide) (by decide)
  obtain ⟨m4, _⟩ := VB.vmul (Val.mk0 c2 e2) h3 h4 hx (by decide) (by decide)
  obtain ⟨dv, dl⟩ := m1.add m2 (by decide) (by decide)
  obtain ⟨cv, cl⟩ := m3.sub m4 (by decide) (by decide)
  have k1 := (pk_val (Val.mk0 c1 e1) hx.v (by decide) (by decide)).2
  have k2 := (pk_val (Val.mk0 c2 e2) hy.v (by decide) (by decide)).2
  have k3 := (pk_val (Val.mk0 c1 e1) hy.v (by decide) (by decide)).2
  have k4 := (pk_val (Val.mk0 c2 e2) hx.v (by decide) (by decide)).2
  refine ⟨?_, ?_, ?_, ?_, dv.v.sg⟩
  · unfold pkC
    rw [k3, k4, m3.pk m4 (by decide)]
    rfl
  · unfold pkD
    rw [k1, k2, m1.pk m2 (by decide)]
    rfl
  · obtain ⟨b1, b2⟩ := dv.v.bd
    have a1 := one_abs h1 hx.a
    have a2' := one_abs h2 hx.b
    have a3 := one_abs h3 hy.a
    have a4' := one_abs h4 hy.b
    have a5 := one_abs h1 hx.b
    have a6 := one_abs h2 hx.a
    have a7 := one_abs h3 hy.b
    have a8 := one_abs h4 hy.a
    have f1 : 2 * e1 * v.b = 2 * (e1 * v.b) := by grind
    have f2 : 2 * e2 * v.d = 2 * (e2 * v.d) := by grind
    rw [f1, f2] at b1
    have hz : e1 * v.b = 0 ∨ e2 * v.d = 0 := by
      rcases h5 with h5 | h5
      · left; rw [h5]; simp
      · right; rw [h5]; simp
    have q1 := Nat.le_trans b1 (sum_bd a1 a2' a3 a4' hz)
    have q2 := Nat.le_trans b2 (sum_bd2 a5 a6 a7 a8)
    show (sB (addF (mulF ⟨c1, e1, 0⟩ w.x) (mulF ⟨c2, e2, 0⟩ w.y)).a && sB (addF (mulF ⟨c1, e1, 0⟩ w.x) (mulF ⟨c2, e2, 0⟩ w.y)).b) = true
    rw [sB_abs q1, sB_abs q2]
    rfl
  · rw [eqN_iff]
    show (subF (mulF ⟨c1, e1, 0⟩ w.y) (mulF ⟨c2, e2, 0⟩ w.x)).a = 0 ∧ (subF (mulF ⟨c1, e1, 0⟩ w.y) (mulF ⟨c2, e2, 0⟩ w.x)).b = 0 ∧ (subF (mulF ⟨c1, e1, 0⟩ w.y) (mulF ⟨c2, e2, 0⟩ w.x)).k = 0 ↔ _
    constructor
    · rintro ⟨z1, z2, _⟩
      have e1 := cv.v.a
      have e2 := cv.v.b
      rw [z1, Int.zero_mul] at e1
      rw [z2, Int.zero_mul] at e2
      exact ⟨e1, e2⟩
    · rintro ⟨z1, z2⟩
      rw [z1, z2] at cv
      have hz : Val 10 z3 0 0 := (vb_zero (M := 0)).v
      have := cv.v.uniq hz cl (fun h => by have h1 : (0 : Int) > 0 := h.1; omega)
      rw [this]
      exact ⟨rfl, rfl, rfl⟩
theorem dirF_spec {w : P2} {v : V4} (h : Way w v) : ∀ (n : Nat) (d : Int), 0 ≤ d → d + n = 16 → (∀ e, 0 ≤ e → e < d → ¬ isDir e v) →
    (inB (dirF n d w) 0 15 = true ∧ isDir (dirF n d w) v) ∨ (dirF n d w = -1 ∧ ∀ e, inB e 0 15 = true → ¬ isDir e v)
  | 0, d, h0, h1, hno => .inr ⟨rfl, fun e he => hno e (inB_iff.1 he).1 (by have := (inB_iff.1 he).2; omega)⟩
  | n + 1, d, h0, h1, hno => by
    have hd : inB d 0 15 = true := inB_iff.2 (by omega)
    obtain ⟨_, _, _, k1, k2⟩ := way_ok hd h
    unfold dirF
    by_cases hh : isDir d v
    · rw [k1.2 ⟨hh.1, hh.2.1⟩, k2, show decide (sgZ (dtA d v) (dtB d v) > 0) = true by simpa using hh.2.2]
      exact .inl ⟨hd, hh⟩
    · have ih := dirF_spec h n (d + 1) (by omega) (by omega) (fun e he he' => by
        by_cases e1 : e = d
        · subst e1; exact hh
        · exact hno e he (by omega))
      cases c1 : eqN (crsF (vecP d) w) z3 with
      | false => exact ih
      | true =>
        obtain ⟨z1, z2⟩ := k1.1 c1
        have hs : ¬ sgZ (dtA d v) (dtB d v) > 0 := fun hs => hh ⟨z1, z2, hs⟩
        rw [k2, show decide (sgZ (dtA d v) (dtB d v) > 0) = false by simpa using hs]
        exact ih
theorem dirV_spec {p q : P2} {v : V4} (h : Way (subP q p) v) : (inB (dirV p q) 0 15 = true ∧ isDir (dirV p q) v) ∨ (dirV p q = -1 ∧ ∀ e, inB e 0 15 = true → ¬ isDir e v) :=
  dirF_spec h 16 0 (by decide) (by decide) fun e he he' => by omega
theorem dirV_is {p q : P2} {v : V4} {e : Int} (h : Way (subP q p) v) (he : inB e 0 15 = true) (hi : isDir e v) : dirV p q = e := by
  rcases dirV_spec h with ⟨k1, k2⟩ | ⟨_, k2⟩
  · exact isDir_uniq k1 he k2 hi
  · exact absurd hi (k2 e he)
theorem dirV_no {p q : P2} {v : V4} (h : Way (subP q p) v) (hi : ∀ e, inB e 0 15 = true → ¬ isDir e v) : dirV p q = -1 := by
  rcases dirV_spec h with ⟨k1, k2⟩ | ⟨k1, _⟩
  · exact absurd k2 (hi _ k1)
  · exact k1
/-- There and back. -/
theorem dir_back {p q : P2} (hp : valP p = true) (hq : valP q = true) : (dirV p q = -1 → dirV q p = -1) ∧ (inB (dirV p q) 0 15 = true → dirV q p = (dirV p q + 8) % 16) ∧ (inB (dirV p q) 0 15 = true ∨ dirV p q = -1) := by
  obtain ⟨v, u, hv, hu, hw, _⟩ := way_of hp hq
  obtain ⟨a1, _⟩ := hv.x.sub hu.x (by decide) (by decide)
  obtain ⟨b1, _⟩ := hv.y.sub hu.y (by decide) (by decide)
  have hw' : Way (subP p q) (mi ⟨u.a - v.a, u.b - v.b, u.c - v.c, u.d - v.d⟩) := by
    refine ⟨⟨?_, ?_⟩⟩
    · simp only [mi]
      rw [show -(u.a - v.a) = v.a - u.a by omega, show -(u.b - v.b) = v.b - u.b by omega]
      exact a1
    · simp only [mi]
      rw [show -(u.c - v.c) = v.c - u.c by omega, show -(u.d - v.d) = v.d - u.d by omega]
      exact b1
  rcases dirV_spec hw with ⟨k1, k2⟩ | ⟨k1, k2⟩
  · have hi := (isDir_flip k1 _).2 k2
    have hb := inB_iff.1 k1
    refine ⟨fun h => by rw [h] at hb; omega, fun _ => dirV_is hw' (inB_iff.2 (by omega)) hi, .inl k1⟩
  · refine ⟨fun _ => dirV_no hw' fun e he hi => ?_, fun h => (by rw [k1] at h; cases h), .inr k1⟩
    have hb := inB_iff.1 he
    have he' : inB ((e + 8) % 16) 0 15 = true := inB_iff.2 (by omega)
    refine k2 _ he' ?_
    have := (isDir_flip he (mi ⟨u.a - v.a, u.b - v.b, u.c - v.c, u.d - v.d⟩)).2 hi
    rw [mi_mi] at this
    exact this
end Go.Ev

/- Lines through points; points drawn near others; lines and points drawn together. -/
namespace Go.Ev

def dofV (p q : P2) : Int := cond (valP p && valP q) (dirV p q) (-1)
def offV (d : Int) (p : P2) : N3 := dotF (nrm d) p
def laO (p : P2) (d : Int) : Bool := (valP p && inB d 0 7) && validB (offV d p)
def laL (p : P2) (d : Int) : Ln := ⟨cond (laO p d) d 0, sel (laO p d) (offV d p)⟩
def ltC (p q : P2) : Int := cond (valP p && valP q) (cond (decide (dirV p q < 0)) 7 (cond (validB (offV ((dirV p q).tmod 8) p)) 0 2)) 1
def ltL (p q : P2) : Ln := ⟨cond (ltC p q == 0) ((dirV p q).tmod 8) 0, sel (ltC p q == 0) (offV ((dirV p q).tmod 8) p)⟩
theorem off_ok {d : Int} {p : P2} (hd : inB d 0 7 = true) (hp : valP p = true) : inB (wr (d + 4)) 0 15 = true ∧ pkD (nrm d) p = true := by
  obtain ⟨k1, k2, _⟩ := side_ok hd (show validB z3 = true by decide) hp
  exact ⟨k1, k2⟩
theorem dir_mod {p q : P2} (h : inB (dirV p q) 0 15 = true) : inB ((dirV p q).tmod 8) 0 7 = true := by
  have h := inB_iff.1 h
  rw [Int.tmod_eq_emod_of_nonneg h.1]
  exact inB_iff.2 (by omega)

/-! ### a point near another one -/
def nearW (p : P2) (s : Src) : P2 := ⟨addF p.x (mulF (drawV (pickV 16 s).2).1 (vecP (pickV 16 s).1).x), addF p.y (mulF (drawV (pickV 16 s).2).1 (vecP (pickV 16 s).1).y)⟩
def nearP (p : P2) (s : Src) : P2 := cond (valP (redP (nearW p s))) (redP (nearW p s)) p
def nearS (s : Src) : Src := (drawV (pickV 16 s).2).2
def WF (p : P2) (s : Src) : Option AV := cond (pB 2 s.p) (cond (pB 18 (pickV 16 s).2.p) (cond (inB (pickV 16 s).1 0 15) (cond (pkm (drawV (pickV 16 s).2).1 (vecP (pickV 16 s).1).x) (cond (pk p.x (mulF (drawV (pickV 16 s).2).1 (vecP (pickV 16 s).1).x))
  (cond (pkm (drawV (pickV 16 s).2).1 (vecP (pickV 16 s).1).y) (cond (pk p.y (mulF (drawV (pickV 16 s).2).1 (vecP (pickV 16 s).1).y)) (cond (kB (nearW p s).x.k && kB (nearW p s).y.k)
    (cond (!valP (redP (nearW p s))) (some (.out p.av [.agg (nearS s).cells, .non])) (some (.out (selP (valP (redP (nearW p s))) (redP (nearW p s))).av [.agg (nearS s).cells, .non]))) none) none) none) none) none) none) none) none
theorem near_on {p : P2} {s : Src} {k : Int} (h : pB k s.p = true) (hk : 20 ≤ k) (hp : valP p = true) :
    WF p s = some (.out (nearP p s).av [.agg (nearS s).cells, .non]) ∧ valP (nearP p s) = true ∧ 0 ≤ (nearS s).p ∧ (nearS s).p ≤ s.p + 20 := by
  have h1 := pick_on 16 h (by omega)
  have p1 := pB_on h h1 (by omega)
  obtain ⟨_, v, h2⟩ := drawV_on p1 (by omega)
  have hd := pick_in (s := s) (m := 16) (by decide)
  have hd' : inB (pickV 16 s).1 0 15 = true := inB_iff.2 (by omega)
  obtain ⟨T1, T2, vt⟩ := valid_vb v
  obtain ⟨w, hw⟩ := valP_pv hp
  obtain ⟨eq, a1, a2, a3, a4, _⟩ := vv_all hd'
  have vx : Val 0 (vecP (pickV 16 s).1).x (vC1 (pickV 16 s).1) (vE1 (pickV 16 s).1) := by rw [eq]; exact Val.mk0 _ _
  have vy : Val 0 (vecP (pickV 16 s).1).y (vC2 (pickV 16 s).1) (vE2 (pickV 16 s).1) := by rw [eq]; exact Val.mk0 _ _
  obtain ⟨m1, _⟩ := vt.mulv vx a1 a2 (by decide) (by decide)
  obtain ⟨m2, _⟩ := vt.mulv vy a3 a4 (by decide) (by decide)
  obtain ⟨s1, _⟩ := hw.x.add m1 (by decide) (by decide)
  obtain ⟨s2, _⟩ := hw.y.add m2 (by decide) (by decide)
  refine ⟨?_, ?_, ?_, ?_⟩
  · unfold WF
    rw [pB_less h (by omega), pB_less p1 (by omega), hd', (pk_val vt.v vx (by decide) (by decide)).2, hw.x.pk m1 (by decide), (pk_val vt.v vy (by decide) (by decide)).2, hw.y.pk m2 (by decide),
      show kB (nearW p s).x.k = true from s1.kB (by decide), show kB (nearW p s).y.k = true from s2.kB (by decide)]
    unfold nearP
    cases valP (redP (nearW p s)) <;> rfl
  · unfold nearP
    cases h : valP (redP (nearW p s)) with
    | false => exact hp
    | true => exact h
  · show 0 ≤ (drawV (pickV 16 s).2).2.p
    omega
  · show (drawV (pickV 16 s).2).2.p ≤ s.p + 20
    omega

/-! ### two lines and two points -/
def gA (s : Src) : Ln := (lineV s).1
def gB (s : Src) : Ln := (lineV (lineV s).2).1
def gP (s : Src) : P2 := (pointV (lineV (lineV s).2).2).1
def gQ (s : Src) : P2 := nearP (gP s) (pointV (lineV (lineV s).2).2).2
theorem geo_ok {s : Src} (h : pB 96 s.p = true) : ((gA s).valid = true ∧ (gB s).valid = true ∧ valP (gP s) = true ∧ valP (gQ s) = true) ∧
    pB 20 s.p = true ∧ pB 20 (lineV s).2.p = true ∧ pB 36 (lineV (lineV s).2).2.p = true ∧ pB 20 (pointV (lineV (lineV s).2).2).2.p = true := by
  obtain ⟨_, v1, h1⟩ := line_on h (by decide)
  have p1 := pB_on h h1 (by decide)
  obtain ⟨_, v2, h2⟩ := line_on p1 (by decide)
  have p2 := pB_on p1 h2 (by decide)
  obtain ⟨_, v3, h3⟩ := point_on p2 (by decide)
  have p3 := pB_on p2 h3 (by decide)
  obtain ⟨_, v4, _⟩ := near_on (p := gP s) p3 (by decide) v3
  exact ⟨⟨v1, v2, v3, v4⟩, pB_less h (by decide), pB_less p1 (by decide), pB_less p2 (by decide), pB_less p3 (by decide)⟩
structure Geo where
  a : Ln
  b : Ln
  p : P2
  q : P2
def GF (s : Src) : Option AV := cond (pB 20 s.p) (cond (pB 20 (lineV s).2.p) (cond (pB 36 (lineV (lineV s).2).2.p) (cond (pB 20 (pointV (lineV (lineV s).2).2).2.p && valP (gP s)) (some (.tup [(gA s).av, (gB s).av, (gP s).av, (gQ s).av])) none) none) none) none
set_option maxRecDepth 20000 in
theorem geo_ex : ∃ f : Src → Geo, ∀ s, pB 96 s.p = true → GF s = some (.tup [(f s).a.av, (f s).b.av, (f s).p.av, (f s).q.av]) ∧ (f s).a.valid = true ∧ (f s).b.valid = true ∧ valP (f s).p = true ∧ valP (f s).q = true :=
  ⟨fun s => ⟨gA s, gB s, gP s, gQ s⟩, fun s h => by
    obtain ⟨⟨v1, v2, v3, v4⟩, h1, h2, h3, h4⟩ := geo_ok h
    have e : GF s = some (.tup [(gA s).av, (gB s).av, (gP s).av, (gQ s).av]) := by
      unfold GF
      rw [h1, h2, h3, h4, v3]
      simp only [Bool.and_self, cond_true]
    exact ⟨e, v1, v2, v3, v4⟩⟩
noncomputable def geoV (s : Src) : Geo := Classical.choose geo_ex s
theorem geo_sp {s : Src} (h : pB 96 s.p = true) : GF s = some (.tup [(geoV s).a.av, (geoV s).b.av, (geoV s).p.av, (geoV s).q.av]) ∧ (geoV s).a.valid = true ∧ (geoV s).b.valid = true ∧ valP (geoV s).p = true ∧ valP (geoV s).q = true :=
  Classical.choose_spec geo_ex s h
end Go.Ev

/- The law of meeting lines and of lines through points. -/
namespace Go.Ev

theorem nv_ex {d : Int} (h : inB d 0 7 = true) : ∃ (c1 e1 c2 e2 na nb : Int) (E : Nat), Nv (nrm d) c1 e1 c2 e2 na nb E := by
  rcases nv_all h with ⟨_, hn⟩ | ⟨_, hn⟩ | ⟨_, hn⟩ | ⟨_, hn⟩ | ⟨_, hn⟩ | ⟨_, hn⟩ | ⟨_, hn⟩ | ⟨_, hn⟩ <;> exact ⟨_, _, _, _, _, _, _, hn⟩
/-- What the common point is worth. -/
structure Mt (i j : Int) (a b : N3) (c1 e1 c2 e2 g1 f1 g2 f2 A1 A2 B1 B2 da db s : Int) (E : Nat) : Prop where
  pv : PV (10 + E) (mtP i j a b) ⟨s * (((A1 * g2 + 2 * A2 * f2) - (B1 * c2 + 2 * B2 * e2)) * da - 2 * ((A1 * f2 + A2 * g2) - (B1 * e2 + B2 * c2)) * db),
    s * (((A1 * f2 + A2 * g2) - (B1 * e2 + B2 * c2)) * da - ((A1 * g2 + 2 * A2 * f2) - (B1 * c2 + 2 * B2 * e2)) * db),
    s * (((B1 * c1 + 2 * B2 * e1) - (A1 * g1 + 2 * A2 * f1)) * da - 2 * ((B1 * e1 + B2 * c1) - (A1 * f1 + A2 * g1)) * db),
    s * (((B1 * e1 + B2 * c1) - (A1 * f1 + A2 * g1)) * da - ((B1 * c1 + 2 * B2 * e1) - (A1 * g1 + 2 * A2 * f1)) * db)⟩ 100000000000
  lx : lowB (mtP i j a b).x
  ly : lowB (mtP i j a b).y
  ed : crsF (nrm i) (nrm j) = ⟨da, db, 0⟩
  d1 : da = (c1 * g2 + 2 * e1 * f2) - (c2 * g1 + 2 * e2 * f1)
  d2 : db = (c1 * f2 + e1 * g2) - (c2 * f1 + e2 * g1)
  n : da * da - 2 * db * db = s * 2 ^ E
  dn : divN ⟨da, db, 0⟩ = da * da - 2 * db * db
  os : s = dvOdd ⟨da, db, 0⟩
  oe : dvE ⟨da, db, 0⟩ = E
  s1 : s = 1 ∨ s = -1
  e3 : E ≤ 3
theorem mt_val {i j : Int} {a b : N3} {c1 e1 c2 e2 na nb g1 f1 g2 f2 ma mb A1 A2 B1 B2 : Int} {E1 E2 : Nat} (hi : inB i 0 7 = true) (hj : inB j 0 7 = true) (hne : (i == j) = false)
    (hn : Nv (nrm i) c1 e1 c2 e2 na nb E1) (hm : Nv (nrm j) g1 f1 g2 f2 ma mb E2) (va : VB 10 a A1 A2 134217728) (vb : VB 10 b B1 B2 134217728) :
    ∃ da db s E, Mt i j a b c1 e1 c2 e2 g1 f1 g2 f2 A1 A2 B1 B2 da db s E := by
  have hd := det_all hi hj hne
  unfold detB at hd
  simp only [Bool.and_eq_true, Bool.or_eq_true, decide_eq_true_eq, beq_iff_eq, Bool.not_eq_true', beq_eq_false_iff_ne] at hd
  obtain ⟨hc, hk, na', nb', no', nz, e0, e3⟩ := hd
  obtain ⟨E, hE⟩ : ∃ E : Nat, dvE (crsF (nrm i) (nrm j)) = E := ⟨(dvE (crsF (nrm i) (nrm j))).toNat, by omega⟩
  have hS : 10 + E ≤ 1000 := by clear na' nb'; omega
  have vix : Val 0 (nrm i).x c1 e1 := by rw [hn.eq]; exact Val.mk0 c1 e1
  have viy : Val 0 (nrm i).y c2 e2 := by rw [hn.eq]; exact Val.mk0 c2 e2
  have vjx : Val 0 (nrm j).x g1 f1 := by rw [hm.eq]; exact Val.mk0 g1 f1
  have vjy : Val 0 (nrm j).y g2 f2 := by rw [hm.eq]; exact Val.mk0 g2 f2
  -- the determinant
  have wjx : VB 0 (nrm j).x g1 f1 1 := ⟨vjx, hm.h1, hm.h2⟩
  have wjy : VB 0 (nrm j).y g2 f2 1 := ⟨vjy, hm.h3, hm.h4⟩
  obtain ⟨t1, _⟩ := VB.vmul vix hn.h1 hn.h2 wjy (by decide) (by decide)
  obtain ⟨t2, _⟩ := VB.vmul viy hn.h3 hn.h4 wjx (by decide) (by decide)
  obtain ⟨t3, _⟩ := t1.sub t2 (by decide) (by decide)
  have ta := t3.v.a
  have tb := t3.v.b
  change _ = (crsF (nrm i) (nrm j)).a * 2 ^ (0 - (crsF (nrm i) (nrm j)).k.toNat) at ta
  change _ = (crsF (nrm i) (nrm j)).b * 2 ^ (0 - (crsF (nrm i) (nrm j)).k.toNat) at tb
  rw [hk] at ta tb
  simp only [Int.toNat_zero, Nat.sub_self, Int.pow_zero, Int.mul_one] at ta tb
  obtain ⟨p1, _⟩ := va.mulv vjy hm.h3 hm.h4 (by decide) (by decide)
  obtain ⟨p2, _⟩ := vb.mulv viy hn.h3 hn.h4 (by decide) (by decide)
  obtain ⟨p3, _⟩ := vb.mulv vix hn.h1 hn.h2 (by decide) (by decide)
  obtain ⟨p4, _⟩ := va.mulv vjx hm.h1 hm.h2 (by decide) (by decide)
  obtain ⟨q1, _⟩ := p1.sub p2 (by decide) (by decide)
  obtain ⟨q2, _⟩ := p3.sub p4 (by decide) (by decide)
  obtain ⟨r1, _, r3, r4⟩ := q1.div na' nb' hk no' nz hE hS (by decide) (by decide)
  obtain ⟨_, _, s3, s4⟩ := q2.div na' nb' hk no' nz hE hS (by decide) (by decide)
  have hN := (raw_bd r1).2.2.2.2.2.1
  have hNb := (raw_bd r1).2.2.2.2.2.2
  have ed : crsF (nrm i) (nrm j) = ⟨(crsF (nrm i) (nrm j)).a, (crsF (nrm i) (nrm j)).b, 0⟩ := by
    conv => rhs; rw [← hk]
  have op := oddL_prod 60 (divN (crsF (nrm i) (nrm j))) 0 nz (by
    have : (2 : Nat) ^ 60 = 1152921504606846976 := by decide
    omega)
  change dvOdd (crsF (nrm i) (nrm j)) * 2 ^ (dvE (crsF (nrm i) (nrm j)) - 0).toNat = divN (crsF (nrm i) (nrm j)) at op
  rw [hE, Int.sub_zero, Int.toNat_natCast, hN] at op
  refine ⟨(crsF (nrm i) (nrm j)).a, (crsF (nrm i) (nrm j)).b, dvOdd (crsF (nrm i) (nrm j)), E, ⟨⟨r3.more (by decide), s3.more (by decide)⟩, r4, s4, ed, ta.symm, tb.symm, op.symm, ?_, ?_, ?_, no', by omega⟩⟩
  · rw [← ed]; exact hN
  · rw [← ed]
  · rw [← ed]; exact hE
theorem pow8_ne {E : Nat} : (2 : Int) ^ E ≠ 0 := by have := pow_pos2 E; omega
/-- The common point is on the first line; and on the second one. -/
theorem mt_on {i j : Int} {a b : N3} {c1 e1 c2 e2 g1 f1 g2 f2 A1 A2 B1 B2 da db s : Int} {E : Nat} (h : Mt i j a b c1 e1 c2 e2 g1 f1 g2 f2 A1 A2 B1 B2 da db s E) {P : V4} (hP : PV 10 (mtP i j a b) P 134217728) :
    (c1 * P.a + 2 * e1 * P.b + (c2 * P.c + 2 * e2 * P.d) = A1 ∧ c1 * P.b + e1 * P.a + (c2 * P.d + e2 * P.c) = A2) ∧
    (g1 * P.a + 2 * f1 * P.b + (g2 * P.c + 2 * f2 * P.d) = B1 ∧ g1 * P.b + f1 * P.a + (g2 * P.d + f2 * P.c) = B2) := by
  have e := pv_same (pv_sc hP h.e3) h.pv
  simp only [sc, V4.mk.injEq] at e
  obtain ⟨k1, k2, k3, k4⟩ := e
  have hn := h.n
  have hs : s * s = 1 := by rcases h.s1 with e | e <;> rw [e] <;> rfl
  have hp : (2 : Int) ^ E ≠ 0 := pow8_ne
  generalize (2 : Int) ^ E = z at *
  have d1 := h.d1
  have d2 := h.d2
  have hz : z = s * (da * da - 2 * db * db) := by rw [hn, ← Int.mul_assoc, hs, Int.one_mul]
  generalize hX1 : (A1 * g2 + 2 * A2 * f2) - (B1 * c2 + 2 * B2 * e2) = X1 at *
  generalize hX2 : (A1 * f2 + A2 * g2) - (B1 * e2 + B2 * c2) = X2 at *
  generalize hY1 : (B1 * c1 + 2 * B2 * e1) - (A1 * g1 + 2 * A2 * f1) = Y1 at *
  generalize hY2 : (B1 * e1 + B2 * c1) - (A1 * f1 + A2 * g1) = Y2 at *
  have s1 : c1 * X1 + 2 * e1 * X2 + (c2 * Y1 + 2 * e2 * Y2) = A1 * da + 2 * A2 * db := by rw [← hX1, ← hX2, ← hY1, ← hY2, d1, d2]; grind
  have s2 : c1 * X2 + e1 * X1 + (c2 * Y2 + e2 * Y1) = A1 * db + A2 * da := by rw [← hX1, ← hX2, ← hY1, ← hY2, d1, d2]; grind
  have s3 : g1 * X1 + 2 * f1 * X2 + (g2 * Y1 + 2 * f2 * Y2) = B1 * da + 2 * B2 * db := by rw [← hX1, ← hX2, ← hY1, ← hY2, d1, d2]; grind
  have s4 : g1 * X2 + f1 * X1 + (g2 * Y2 + f2 * Y1) = B1 * db + B2 * da := by rw [← hX1, ← hX2, ← hY1, ← hY2, d1, d2]; grind
  have fin : ∀ (u1 v1 u2 v2 O1 O2 : Int), u1 * X1 + 2 * v1 * X2 + (u2 * Y1 + 2 * v2 * Y2) = O1 * da + 2 * O2 * db → u1 * X2 + v1 * X1 + (u2 * Y2 + v2 * Y1) = O1 * db + O2 * da →
      u1 * P.a + 2 * v1 * P.b + (u2 * P.c + 2 * v2 * P.d) = O1 ∧ u1 * P.b + v1 * P.a + (u2 * P.d + v2 * P.c) = O2 := by
    intro u1 v1 u2 v2 O1 O2 t1 t2
    constructor
    · apply Int.eq_of_mul_eq_mul_right hp
      have : (u1 * P.a + 2 * v1 * P.b + (u2 * P.c + 2 * v2 * P.d)) * z = u1 * (P.a * z) + 2 * v1 * (P.b * z) + (u2 * (P.c * z) + 2 * v2 * (P.d * z)) := by grind
      rw [this, k1, k2, k3, k4]
      have : u1 * (s * (X1 * da - 2 * X2 * db)) + 2 * v1 * (s * (X2 * da - X1 * db)) + (u2 * (s * (Y1 * da - 2 * Y2 * db)) + 2 * v2 * (s * (Y2 * da - Y1 * db))) =
        s * (da * (u1 * X1 + 2 * v1 * X2 + (u2 * Y1 + 2 * v2 * Y2)) - 2 * db * (u1 * X2 + v1 * X1 + (u2 * Y2 + v2 * Y1))) := by grind
      rw [this, t1, t2, hz]
      grind
    · apply Int.eq_of_mul_eq_mul_right hp
      have : (u1 * P.b + v1 * P.a + (u2 * P.d + v2 * P.c)) * z = u1 * (P.b * z) + v1 * (P.a * z) + (u2 * (P.d * z) + v2 * (P.c * z)) := by grind
      rw [this, k1, k2, k3, k4]
      have : u1 * (s * (X2 * da - X1 * db)) + v1 * (s * (X1 * da - 2 * X2 * db)) + (u2 * (s * (Y2 * da - Y1 * db)) + v2 * (s * (Y1 * da - 2 * Y2 * db))) =
        s * (da * (u1 * X2 + v1 * X1 + (u2 * Y2 + v2 * Y1)) - db * (u1 * X1 + 2 * v1 * X2 + (u2 * Y1 + 2 * v2 * Y2))) := by grind
      rw [this, t1, t2, hz]
      grind
  exact ⟨fin c1 e1 c2 e2 A1 A2 s1 s2, fin g1 f1 g2 f2 B1 B2 s3 s4⟩
/-- The two lines in the other order. -/
theorem mt_sym {i j : Int} {a b : N3} {c1 e1 c2 e2 g1 f1 g2 f2 A1 A2 B1 B2 da db s da' db' s' : Int} {E E' : Nat} (h : Mt i j a b c1 e1 c2 e2 g1 f1 g2 f2 A1 A2 B1 B2 da db s E)
    (g : Mt j i b a g1 f1 g2 f2 c1 e1 c2 e2 B1 B2 A1 A2 da' db' s' E') : mtP i j a b = mtP j i b a := by
  have q1 : da' = -da := by rw [g.d1, h.d1]; grind
  have q2 : db' = -db := by rw [g.d2, h.d2]; grind
  have qn : divN ⟨da', db', 0⟩ = divN ⟨da, db, 0⟩ := by rw [g.dn, h.dn, q1, q2]; grind
  have qs : s' = s := by rw [g.os, h.os]; unfold dvOdd; rw [qn]
  have qe : E' = E := by
    have : dvE (⟨da', db', 0⟩ : N3) = dvE ⟨da, db, 0⟩ := by unfold dvE; rw [qn]
    have k1 := g.oe
    have k2 := h.oe
    omega
  subst q1 q2 qs qe
  have hv := g.pv
  have e : (⟨s' * (((B1 * c2 + 2 * B2 * e2) - (A1 * g2 + 2 * A2 * f2)) * -da - 2 * ((B1 * e2 + B2 * c2) - (A1 * f2 + A2 * g2)) * -db),
    s' * (((B1 * e2 + B2 * c2) - (A1 * f2 + A2 * g2)) * -da - ((B1 * c2 + 2 * B2 * e2) - (A1 * g2 + 2 * A2 * f2)) * -db),
    s' * (((A1 * g1 + 2 * A2 * f1) - (B1 * c1 + 2 * B2 * e1)) * -da - 2 * ((A1 * f1 + A2 * g1) - (B1 * e1 + B2 * c1)) * -db),
    s' * (((A1 * f1 + A2 * g1) - (B1 * e1 + B2 * c1)) * -da - ((A1 * g1 + 2 * A2 * f1) - (B1 * c1 + 2 * B2 * e1)) * -db)⟩ : V4) = ⟨s' * (((A1 * g2 + 2 * A2 * f2) - (B1 * c2 + 2 * B2 * e2)) * da - 2 * ((A1 * f2 + A2 * g2) - (B1 * e2 + B2 * c2)) * db),
    s' * (((A1 * f2 + A2 * g2) - (B1 * e2 + B2 * c2)) * da - ((A1 * g2 + 2 * A2 * f2) - (B1 * c2 + 2 * B2 * e2)) * db),
    s' * (((B1 * c1 + 2 * B2 * e1) - (A1 * g1 + 2 * A2 * f1)) * da - 2 * ((B1 * e1 + B2 * c1) - (A1 * f1 + A2 * g1)) * db),
    s' * (((B1 * e1 + B2 * c1) - (A1 * f1 + A2 * g1)) * da - ((B1 * c1 + 2 * B2 * e1) - (A1 * g1 + 2 * A2 * f1)) * db)⟩ := by
    apply V4.ext' <;> simp only <;> congr 1 <;> grind
  rw [e] at hv
  exact pv_uniq h.pv hv h.lx h.ly g.lx g.ly
end Go.Ev

/- The law of meeting lines: its course, and that it answers yes. -/
namespace Go.Ev

def mtW (a b : Ln) : P2 := mtP a.d b.d a.o b.o
def mtC (a b : Ln) : Int := cond (a.valid && b.valid) (cond (a.d == b.d) 7 (cond (valP (redP (mtW a b))) 0 2)) 1
def mtQ (a b : Ln) : P2 := selP ((a.valid && b.valid) && (!(a.d == b.d) && valP (redP (mtW a b)))) (redP (mtW a b))
def eqLn (m l : Ln) : Bool := m.d == l.d && (eqN m.o l.o && true)
def kT19 (l : Ln) (d : Int) (p : P2) (way : Int) : Option AV := cond (laO p (way.tmod 8) == (d == 0)) (cond (!laO p (way.tmod 8)) yes (some (bv (eqLn (laL p (way.tmod 8)) l)))) no
def kT17 (l : Ln) (d : Int) (p : P2) (way back : Int) : Option AV := cond (back != (wr (way + 8)).tmod 16) no (cond (d == 0) (cond (l.d != way.tmod 8) no (kT19 l d p way)) (kT19 l d p way))
def kT13 (l : Ln) (d : Int) (p q : P2) : Option AV := cond (decide (dofV p q < 0)) (cond (dofV q p == dofV p q) (some (bv (d == 7))) no) (kT17 l d p (dofV p q) (dofV q p))
def kT10 (p q : P2) : Option AV := cond (ltC p q == 0) (cond (soV (ltL p q) p != 0) no (cond (soV (ltL p q) q != 0) no (cond (!(ltL p q).valid) no (kT13 (ltL p q) (ltC p q) p q)))) (kT13 (ltL p q) (ltC p q) p q)
def kT8 (a b : Ln) (x : P2) (c : Int) (p q : P2) : Option AV := cond (c == 0) (cond (soV a x != 0) no (cond (soV b x != 0) no (kT10 p q))) (kT10 p q)
def kT4 (a b : Ln) (p q : P2) : Option AV := cond (mtC a b != mtC b a) no (cond (!eqP2 (mtQ a b) (mtQ b a)) no (cond (!((mtC a b == 7) == (a.d == b.d))) no (kT8 a b (mtQ a b) (mtC a b) p q)))
theorem eqLn_self (l : Ln) : eqLn l l = true := by simp [eqLn, eqN]

/-- A line's normal is the vector four directions on. -/
theorem v_perp {d : Int} (hd : inB d 0 7 = true) : vC1 (d + 4) = -vC2 d ∧ vE1 (d + 4) = -vE2 d ∧ vC2 (d + 4) = vC1 d ∧ vE2 (d + 4) = vE1 d := by
  rcases t8 hd with rfl | rfl | rfl | rfl | rfl | rfl | rfl | rfl <;> decide
theorem perp_zero {d : Int} (hd : inB d 0 7 = true) (w : V4) : dtA (d + 4) w = crA d w ∧ dtB (d + 4) w = crB d w := by
  obtain ⟨h1, h2, h3, h4⟩ := v_perp hd
  unfold dtA dtB crA crB
  rw [h1, h2, h3, h4]
  constructor <;> grind
theorem nrm_dot {d : Int} {p : P2} {v : V4} (hd : inB d 0 7 = true) (hv : PV 10 p v 134217728) : VB 10 (offV d p) (dtA (d + 4) v) (dtB (d + 4) v) 805306368 ∧ lowB (offV d p) := by
  have h := inB_iff.1 hd
  have hd4 : inB (d + 4) 0 15 = true := inB_iff.2 (by omega)
  obtain ⟨eq, h1, h2, h3, h4, _⟩ := vv_all hd4
  have en : nrm d = vecP (d + 4) := by unfold nrm; rw [wr_in (by omega) (by omega)]
  unfold offV
  rw [en, eq]
  obtain ⟨m1, _⟩ := VB.vmul (Val.mk0 _ _) h1 h2 hv.x (by decide) (by decide)
  obtain ⟨m2, _⟩ := VB.vmul (Val.mk0 _ _) h3 h4 hv.y (by decide) (by decide)
  exact m1.add m2 (by decide) (by decide)
theorem dt_sub (d : Int) (u v : V4) : dtA d ⟨u.a - v.a, u.b - v.b, u.c - v.c, u.d - v.d⟩ = dtA d u - dtA d v ∧ dtB d ⟨u.a - v.a, u.b - v.b, u.c - v.c, u.d - v.d⟩ = dtB d u - dtB d v := by
  unfold dtA dtB
  constructor <;> simp only <;> grind
theorem through_ok {p q : P2} (hp : valP p = true) (hq : valP q = true) : kT10 p q = yes := by
  obtain ⟨v, u, hv, hu, hw, _⟩ := way_of hp hq
  obtain ⟨k1, k2, k3⟩ := dir_back hp hq
  have dp : dofV p q = dirV p q := by unfold dofV; rw [hp, hq]; rfl
  have dq : dofV q p = dirV q p := by unfold dofV; rw [hp, hq]; rfl
  rcases k3 with k3 | k3
  · have hb := inB_iff.1 k3
    have h8 := dir_mod k3
    have hneg : decide (dirV p q < 0) = false := by simp; omega
    have hback : (dirV q p != (wr (dirV p q + 8)).tmod 16) = false := by
      rw [k2 k3, wr_in (by omega) (by omega), Int.tmod_eq_emod_of_nonneg (by omega)]
      simp
    have t13 : ∀ l d, kT13 l d p q = cond (d == 0) (cond (l.d != (dirV p q).tmod 8) no (kT19 l d p (dirV p q))) (kT19 l d p (dirV p q)) := fun l d => by
      unfold kT13 kT17
      rw [dp, dq, hneg, hback]
      rfl
    have ela : laO p ((dirV p q).tmod 8) = validB (offV ((dirV p q).tmod 8) p) := by unfold laO; rw [hp, h8]; rfl
    cases ho : validB (offV ((dirV p q).tmod 8) p) with
    | false =>
      have ec : ltC p q = 2 := by unfold ltC; rw [hp, hq, hneg, ho]; rfl
      unfold kT10
      rw [ec, t13]
      unfold kT19
      rw [ela, ho]
      rfl
    | true =>
      have ec : ltC p q = 0 := by unfold ltC; rw [hp, hq, hneg, ho]; rfl
      have el : ltL p q = ⟨(dirV p q).tmod 8, offV ((dirV p q).tmod 8) p⟩ := by unfold ltL; rw [ec]; rfl
      have hl : (ltL p q).valid = true := by rw [el]; unfold Ln.valid; rw [h8, ho]; rfl
      obtain ⟨np, _⟩ := nrm_dot h8 hv
      obtain ⟨nq, _⟩ := nrm_dot h8 hu
      have sp : soV (ltL p q) p = 0 := by
        unfold soV
        rw [hl, hp, el]
        show sgF (subF (offV ((dirV p q).tmod 8) p) (offV ((dirV p q).tmod 8) p)) = 0
        rw [(np.sub np (by decide) (by decide)).1.v.sg, Int.sub_self, Int.sub_self]
        rfl
      have sq : soV (ltL p q) q = 0 := by
        unfold soV
        rw [hl, hq, el]
        show sgF (subF (offV ((dirV p q).tmod 8) q) (offV ((dirV p q).tmod 8) p)) = 0
        rw [(nq.sub np (by decide) (by decide)).1.v.sg]
        obtain ⟨s1, s2⟩ := dt_sub ((dirV p q).tmod 8 + 4) u v
        rw [← s1, ← s2]
        obtain ⟨z1, z2⟩ := perp_zero h8 ⟨u.a - v.a, u.b - v.b, u.c - v.c, u.d - v.d⟩
        rw [z1, z2]
        have hi : isDir (dirV p q) ⟨u.a - v.a, u.b - v.b, u.c - v.c, u.d - v.d⟩ := by
          rcases dirV_spec hw with ⟨_, h⟩ | ⟨h, _⟩
          · exact h
          · omega
        have h8' := inB_iff.1 h8
        have e8 : (dirV p q).tmod 8 = dirV p q ∨ (dirV p q).tmod 8 + 8 = dirV p q := by
          rw [Int.tmod_eq_emod_of_nonneg hb.1]; omega
        have z : crA ((dirV p q).tmod 8) ⟨u.a - v.a, u.b - v.b, u.c - v.c, u.d - v.d⟩ = 0 ∧ crB ((dirV p q).tmod 8) ⟨u.a - v.a, u.b - v.b, u.c - v.c, u.d - v.d⟩ = 0 := by
          rcases e8 with e8 | e8
          · rw [e8]; exact ⟨hi.1, hi.2.1⟩
          · obtain ⟨a1, a2, _⟩ := opp_all h8 ⟨u.a - v.a, u.b - v.b, u.c - v.c, u.d - v.d⟩
            rw [e8] at a1 a2
            have h1 := hi.1
            have h2 := hi.2.1
            omega
        rw [z.1, z.2]
        rfl
      have t : kT13 (ltL p q) 0 p q = yes := by
        rw [t13]
        unfold kT19
        have e3 : laL p ((dirV p q).tmod 8) = ltL p q := by unfold laL; rw [ela, ho, el]; rfl
        rw [ela, ho, e3, eqLn_self, el]
        simp only [bne_self_eq_false, cond_false]
        rfl
      unfold kT10
      rw [ec, sp, sq, hl, t]
      rfl
  · have ec : ltC p q = 7 := by unfold ltC; rw [hp, hq, k3]; rfl
    unfold kT10
    rw [ec]
    unfold kT13
    rw [dp, dq, k1 k3, k3]
    rfl
theorem meet_yes {a b : Ln} {p q : P2} (ha : a.valid = true) (hb : b.valid = true) (hp : valP p = true) (hq : valP q = true) : kT4 a b p q = yes := by
  have t10 := through_ok hp hq
  have ha' := ha
  have hb' := hb
  unfold Ln.valid at ha' hb'
  rw [Bool.and_eq_true] at ha' hb'
  cases hd : (a.d == b.d) with
  | true =>
    have e0 : a.d = b.d := by simpa using hd
    have hd' : (b.d == a.d) = true := by rw [e0]; simp
    have c1 : mtC a b = 7 := by unfold mtC; rw [ha, hb, hd]; rfl
    have c2 : mtC b a = 7 := by unfold mtC; rw [ha, hb, hd']; rfl
    have q1 : mtQ a b = ⟨z3, z3⟩ := by unfold mtQ; rw [ha, hb, hd]; rfl
    have q2 : mtQ b a = ⟨z3, z3⟩ := by unfold mtQ; rw [ha, hb, hd']; rfl
    unfold kT4 kT8
    rw [c1, c2, q1, q2, eqP2_self, hd, t10]
    rfl
  | false =>
    have hne : (a.d == b.d) = false := hd
    have hne' : (b.d == a.d) = false := by
      have : a.d ≠ b.d := by simpa using hd
      simpa using Ne.symm this
    obtain ⟨c1, e1, c2, e2, na, nb, E1, hn⟩ := nv_ex ha'.1
    obtain ⟨g1, f1, g2, f2, ma, mb, E2, hm⟩ := nv_ex hb'.1
    obtain ⟨A1, A2, va⟩ := valid_vb ha'.2
    obtain ⟨B1, B2, vb⟩ := valid_vb hb'.2
    obtain ⟨da, db, s, E, h⟩ := mt_val ha'.1 hb'.1 hne hn hm va vb
    obtain ⟨da', db', s', E', g⟩ := mt_val hb'.1 ha'.1 hne' hm hn vb va
    have es : mtW a b = mtW b a := mt_sym h g
    have er : redP (mtW a b) = mtW a b := redP_low h.lx h.ly
    have k1 : mtC a b = cond (valP (mtW a b)) 0 2 := by unfold mtC; rw [ha, hb, hne, er]; rfl
    have k2 : mtC b a = cond (valP (mtW a b)) 0 2 := by unfold mtC; rw [ha, hb, hne', ← es, er]; rfl
    have k3 : mtQ a b = selP (valP (mtW a b)) (mtW a b) := by unfold mtQ; rw [ha, hb, hne, er]; rfl
    have k4 : mtQ b a = selP (valP (mtW a b)) (mtW a b) := by unfold mtQ; rw [ha, hb, hne', ← es, er]; rfl
    unfold kT4 kT8
    rw [k1, k2, k3, k4, eqP2_self, hne, t10]
    cases hv : valP (mtW a b) with
    | false => rfl
    | true =>
      obtain ⟨P, hP⟩ := valP_pv hv
      obtain ⟨⟨o1, o2⟩, o3, o4⟩ := mt_on h hP
      have s1 : soV a (selP true (mtW a b)) = 0 := by
        unfold soV
        rw [ha, selP_true, hv]
        show sgF (subF (dotF (nrm a.d) (mtW a b)) a.o) = 0
        obtain ⟨dv, _⟩ := dot_vb hn hP
        rw [o1, o2] at dv
        have dv' : VB 10 (dotF (nrm a.d) (mtW a b)) A1 A2 805306368 := dv
        rw [(dv'.sub va (by decide) (by decide)).1.v.sg, Int.sub_self, Int.sub_self]
        rfl
      have s2 : soV b (selP true (mtW a b)) = 0 := by
        unfold soV
        rw [hb, selP_true, hv]
        show sgF (subF (dotF (nrm b.d) (mtW a b)) b.o) = 0
        obtain ⟨dv, _⟩ := dot_vb hm hP
        rw [o3, o4] at dv
        have dv' : VB 10 (dotF (nrm b.d) (mtW a b)) B1 B2 805306368 := dv
        rw [(dv'.sub vb (by decide) (by decide)).1.v.sg, Int.sub_self, Int.sub_self]
        rfl
      rw [s1, s2]
      rfl
end Go.Ev

/- Directions under turns and flips. -/
namespace Go.Ev

/-- (A', B') is (A, B) times 2, r or 2r. -/
def Times (A B A' B' : Int) : Prop := (A' = 2 * A ∧ B' = 2 * B) ∨ (A' = 2 * B ∧ B' = A) ∨ (A' = 4 * B ∧ B' = 2 * A)
theorem Times.sg {A B A' B' : Int} (h : Times A B A' B') : sgZ A' B' = sgZ A B := by
  have h2 : ∀ A B : Int, sgZ (2 * A) (2 * B) = sgZ A B := fun A B => by
    have := sgZ_scale A B 1
    rw [Int.pow_one, Int.mul_comm A, Int.mul_comm B] at this
    exact this
  have hr : ∀ A B : Int, sgZ (2 * B) A = sgZ A B := fun A B => by
    have := sgZ_mul 0 1 A B
    rw [show (0 : Int) * A + 2 * 1 * B = 2 * B by omega, show (0 : Int) * B + 1 * A = A by omega, show sgZ 0 1 = 1 from rfl, Int.one_mul] at this
    exact this
  rcases h with ⟨rfl, rfl⟩ | ⟨rfl, rfl⟩ | ⟨rfl, rfl⟩
  · exact h2 A B
  · exact hr _ B
  · rw [show 4 * B = 2 * (2 * B) by omega, h2, hr]
theorem Times.zero {A B A' B' : Int} (h : Times A B A' B') (h1 : A = 0) (h2 : B = 0) : A' = 0 ∧ B' = 0 := by
  rcases h with ⟨e, e'⟩ | ⟨e, e'⟩ | ⟨e, e'⟩ <;> omega
theorem Times.neg {A B A' B' : Int} (h : Times A B A' B') : Times (-A) (-B) (-A') (-B') := by
  rcases h with ⟨e, e'⟩ | ⟨e, e'⟩ | ⟨e, e'⟩
  · exact .inl (by omega)
  · exact .inr (.inl (by omega))
  · exact .inr (.inr (by omega))
theorem vC1_8 : vC1 8 = -1 := rfl
theorem vE1_8 : vE1 8 = 0 := rfl
theorem vC2_8 : vC2 8 = 0 := rfl
theorem vE2_8 : vE2 8 = 0 := rfl
theorem vC1_9 : vC1 9 = -1 := rfl
theorem vE1_9 : vE1 9 = 0 := rfl
theorem vC2_9 : vC2 9 = 1 := rfl
theorem vE2_9 : vE2 9 = -1 := rfl
/-- A turn by 45 degrees: two directions on. -/
theorem turn_low {e : Int} (he : inB e 0 7 = true) (w : V4) : Times (dtA e w) (dtB e w) (dtA (e + 2) (tv 1 w)) (dtB (e + 2) (tv 1 w)) ∧ Times (crA e w) (crB e w) (crA (e + 2) (tv 1 w)) (crB (e + 2) (tv 1 w)) := by
  unfold dtA dtB crA crB
  rw [(tv_all w).2.1]
  rcases t8 he with rfl | rfl | rfl | rfl | rfl | rfl | rfl | rfl
  · rw [show (0 : Int) + 2 = 2 from rfl]
    simp only [vC1_0, vE1_0, vC2_0, vE2_0, vC1_2, vE1_2, vC2_2, vE2_2]
    exact ⟨.inr (.inr (by omega)), .inr (.inr (by omega))⟩
  · rw [show (1 : Int) + 2 = 3 from rfl]
    simp only [vC1_1, vE1_1, vC2_1, vE2_1, vC1_3, vE1_3, vC2_3, vE2_3]
    exact ⟨.inl (by omega), .inl (by omega)⟩
  · rw [show (2 : Int) + 2 = 4 from rfl]
    simp only [vC1_2, vE1_2, vC2_2, vE2_2, vC1_4, vE1_4, vC2_4, vE2_4]
    exact ⟨.inr (.inl (by omega)), .inr (.inl (by omega))⟩
  · rw [show (3 : Int) + 2 = 5 from rfl]
    simp only [vC1_3, vE1_3, vC2_3, vE2_3, vC1_5, vE1_5, vC2_5, vE2_5]
    exact ⟨.inl (by omega), .inl (by omega)⟩
  · rw [show (4 : Int) + 2 = 6 from rfl]
    simp only [vC1_4, vE1_4, vC2_4, vE2_4, vC1_6, vE1_6, vC2_6, vE2_6]
    exact ⟨.inr (.inr (by omega)), .inr (.inr (by omega))⟩
  · rw [show (5 : Int) + 2 = 7 from rfl]
    simp only [vC1_5, vE1_5, vC2_5, vE2_5, vC1_7, vE1_7, vC2_7, vE2_7]
    exact ⟨.inl (by omega), .inl (by omega)⟩
  · rw [show (6 : Int) + 2 = 8 from rfl]
    simp only [vC1_6, vE1_6, vC2_6, vE2_6, vC1_8, vE1_8, vC2_8, vE2_8]
    exact ⟨.inr (.inl (by omega)), .inr (.inl (by omega))⟩
  · rw [show (7 : Int) + 2 = 9 from rfl]
    simp only [vC1_7, vE1_7, vC2_7, vE2_7, vC1_9, vE1_9, vC2_9, vE2_9]
    exact ⟨.inl (by omega), .inl (by omega)⟩
theorem turn_all {e : Int} (he : inB e 0 15 = true) (w : V4) : Times (dtA e w) (dtB e w) (dtA ((e + 2) % 16) (tv 1 w)) (dtB ((e + 2) % 16) (tv 1 w)) ∧ Times (crA e w) (crB e w) (crA ((e + 2) % 16) (tv 1 w)) (crB ((e + 2) % 16) (tv 1 w)) := by
  have h := inB_iff.1 he
  by_cases h8 : e < 8
  · rw [show (e + 2) % 16 = e + 2 by omega]
    exact turn_low (inB_iff.2 (by omega)) w
  · have hd : inB (e - 8) 0 7 = true := inB_iff.2 (by omega)
    obtain ⟨t1, t2⟩ := turn_low hd w
    obtain ⟨a1, a2, a3, a4⟩ := opp_all hd w
    rw [show e - 8 + 8 = e by omega] at a1 a2 a3 a4
    rw [a1, a2, a3, a4]
    have fin : dtA ((e + 2) % 16) (tv 1 w) = -dtA (e - 8 + 2) (tv 1 w) ∧ dtB ((e + 2) % 16) (tv 1 w) = -dtB (e - 8 + 2) (tv 1 w) ∧ crA ((e + 2) % 16) (tv 1 w) = -crA (e - 8 + 2) (tv 1 w) ∧ crB ((e + 2) % 16) (tv 1 w) = -crB (e - 8 + 2) (tv 1 w) := by
      by_cases h14 : e < 14
      · have hd2 : inB (e - 8 + 2) 0 7 = true := inB_iff.2 (by omega)
        obtain ⟨b1, b2, b3, b4⟩ := opp_all hd2 (tv 1 w)
        rw [show (e + 2) % 16 = e - 8 + 2 + 8 by omega]
        exact ⟨b3, b4, b1, b2⟩
      · have hd2 : inB (e - 14) 0 7 = true := inB_iff.2 (by omega)
        obtain ⟨b1, b2, b3, b4⟩ := opp_all hd2 (tv 1 w)
        rw [show (e + 2) % 16 = e - 14 by omega, show e - 8 + 2 = e - 14 + 8 by omega]
        exact ⟨by omega, by omega, by omega, by omega⟩
    rw [fin.1, fin.2.1, fin.2.2.1, fin.2.2.2]
    exact ⟨t1.neg, t2.neg⟩
theorem isDir_turn1 {e : Int} {w : V4} (he : inB e 0 15 = true) (h : isDir e w) : isDir ((e + 2) % 16) (tv 1 w) := by
  obtain ⟨t1, t2⟩ := turn_all he w
  obtain ⟨z1, z2⟩ := t2.zero h.1 h.2.1
  exact ⟨z1, z2, by rw [t1.sg]; exact h.2.2⟩
theorem isDir_db {e : Int} {w : V4} : isDir e (db w) ↔ isDir e w := by
  have h1 : crA e (db w) = 2 * crA e w := by unfold crA db; grind
  have h2 : crB e (db w) = 2 * crB e w := by unfold crB db; grind
  have h3 : dtA e (db w) = 2 * dtA e w := by unfold dtA db; grind
  have h4 : dtB e (db w) = 2 * dtB e w := by unfold dtB db; grind
  have hs : sgZ (2 * dtA e w) (2 * dtB e w) = sgZ (dtA e w) (dtB e w) := Times.sg (.inl ⟨rfl, rfl⟩)
  unfold isDir
  rw [h1, h2, h3, h4, hs]
  constructor <;> rintro ⟨a, b, c⟩ <;> exact ⟨by omega, by omega, c⟩
theorem isDir_turn {e : Int} {w : V4} (he : inB e 0 15 = true) (h : isDir e w) : ∀ n : Nat, n < 8 → isDir ((e + 2 * n) % 16) (tv n w)
  | 0, _ => by
    have h' := inB_iff.1 he
    rw [show (e + 2 * ((0 : Nat) : Int)) % 16 = e by omega, show ((0 : Nat) : Int) = 0 from rfl, (tv_all w).1]
    exact isDir_db.2 h
  | n + 1, hn => by
    have ih := isDir_turn he h n (by omega)
    have hb : inB ((e + 2 * n) % 16) 0 15 = true := inB_iff.2 (by omega)
    have k := isDir_turn1 hb ih
    have ht : inB (n : Int) 0 7 = true := inB_iff.2 (by omega)
    rw [tv_one ht, show ((n : Int) + 1) % 8 = ((n + 1 : Nat) : Int) by omega] at k
    have k := isDir_db.1 k
    rw [show (((e + 2 * n) % 16) + 2) % 16 = (e + 2 * ((n + 1 : Nat) : Int)) % 16 by omega] at k
    exact k
/-- A flip: the direction's negative. -/
theorem flip_low {e : Int} (he : inB e 0 7 = true) (w : V4) : dtA ((16 - e) % 16) (fl true w) = dtA e w ∧ dtB ((16 - e) % 16) (fl true w) = dtB e w ∧ crA ((16 - e) % 16) (fl true w) = -crA e w ∧ crB ((16 - e) % 16) (fl true w) = -crB e w := by
  have hv : vC1 ((16 - e) % 16) = vC1 e ∧ vE1 ((16 - e) % 16) = vE1 e ∧ vC2 ((16 - e) % 16) = -vC2 e ∧ vE2 ((16 - e) % 16) = -vE2 e := by
    rcases t8 he with rfl | rfl | rfl | rfl | rfl | rfl | rfl | rfl <;> decide
  obtain ⟨h1, h2, h3, h4⟩ := hv
  unfold dtA dtB crA crB fl
  rw [h1, h2, h3, h4]
  refine ⟨?_, ?_, ?_, ?_⟩ <;> simp only [cond_true] <;> grind
end Go.Ev

/- Moved lines: sides and directions under motions. -/
namespace Go.Ev

theorem and64_15 (x : Int) : and64 x 15 = x % 16 := by
  unfold and64
  show IntKind.i64.wrap ((BitVec.ofInt 64 x &&& BitVec.ofInt 64 15).toNat : Int) = x % 16
  have h : (BitVec.ofInt 64 x &&& BitVec.ofInt 64 15).toNat = (BitVec.ofInt 64 x).toNat % 16 := by
    rw [BitVec.toNat_and]
    show (BitVec.ofInt 64 x).toNat &&& 15 = _
    exact Nat.and_two_pow_sub_one_eq_mod _ 4
  rw [h]
  have h2 : (BitVec.ofInt 64 x).toNat = (x % 18446744073709551616).toNat := by
    rw [BitVec.toNat_ofInt]
    rfl
  rw [h2]
  show wr _ = _
  rw [wr_in (by omega) (by omega)]
  omega
/-- The sign of the scalar product with a direction. -/
def sgD (e : Int) (u : V4) : Int := sgZ (dtA e u) (dtB e u)
theorem sgD_db {e : Int} {w : V4} : sgD e (db w) = sgD e w := by
  have h3 : dtA e (db w) = 2 * dtA e w := by unfold dtA db; grind
  have h4 : dtB e (db w) = 2 * dtB e w := by unfold dtB db; grind
  unfold sgD
  rw [h3, h4]
  exact Times.sg (.inl ⟨rfl, rfl⟩)
theorem sgD_turn1 {e : Int} (he : inB e 0 15 = true) (w : V4) : sgD ((e + 2) % 16) (tv 1 w) = sgD e w := (turn_all he w).1.sg
theorem sgD_turn {e : Int} (w : V4) (he : inB e 0 15 = true) : ∀ n : Nat, n < 8 → sgD ((e + 2 * n) % 16) (tv n w) = sgD e w
  | 0, _ => by
    have h' := inB_iff.1 he
    rw [show (e + 2 * ((0 : Nat) : Int)) % 16 = e by omega, show ((0 : Nat) : Int) = 0 from rfl, (tv_all w).1]
    exact sgD_db
  | n + 1, hn => by
    have ih := sgD_turn w he n (by omega)
    have hb : inB ((e + 2 * n) % 16) 0 15 = true := inB_iff.2 (by omega)
    have k := sgD_turn1 hb (tv n w)
    have ht : inB (n : Int) 0 7 = true := inB_iff.2 (by omega)
    rw [tv_one ht, show ((n : Int) + 1) % 8 = ((n + 1 : Nat) : Int) by omega, sgD_db, ih] at k
    rw [← k]
    congr 1
    omega
theorem v_opp16 {d : Int} (hd : inB d 0 15 = true) : vC1 ((d + 8) % 16) = -vC1 d ∧ vE1 ((d + 8) % 16) = -vE1 d ∧ vC2 ((d + 8) % 16) = -vC2 d ∧ vE2 ((d + 8) % 16) = -vE2 d := by
  rcases d16 hd with rfl | rfl | rfl | rfl | rfl | rfl | rfl | rfl | rfl | rfl | rfl | rfl | rfl | rfl | rfl | rfl <;> decide
theorem v_perp16 {d : Int} (hd : inB d 0 15 = true) : vC1 ((d + 4) % 16) = -vC2 d ∧ vE1 ((d + 4) % 16) = -vE2 d ∧ vC2 ((d + 4) % 16) = vC1 d ∧ vE2 ((d + 4) % 16) = vE1 d := by
  rcases d16 hd with rfl | rfl | rfl | rfl | rfl | rfl | rfl | rfl | rfl | rfl | rfl | rfl | rfl | rfl | rfl | rfl <;> decide
theorem v_flip16 {e : Int} (he : inB e 0 15 = true) : vC1 ((16 - e) % 16) = vC1 e ∧ vE1 ((16 - e) % 16) = vE1 e ∧ vC2 ((16 - e) % 16) = -vC2 e ∧ vE2 ((16 - e) % 16) = -vE2 e := by
  rcases d16 he with rfl | rfl | rfl | rfl | rfl | rfl | rfl | rfl | rfl | rfl | rfl | rfl | rfl | rfl | rfl | rfl <;> decide
theorem sgD_opp {e : Int} (he : inB e 0 15 = true) (w : V4) : sgD ((e + 8) % 16) w = -sgD e w := by
  obtain ⟨h1, h2, h3, h4⟩ := v_opp16 he
  unfold sgD
  rw [← sgZ_minus]
  have e1 : dtA ((e + 8) % 16) w = -dtA e w := by unfold dtA; rw [h1, h2, h3, h4]; grind
  have e2 : dtB ((e + 8) % 16) w = -dtB e w := by unfold dtB; rw [h1, h2, h3, h4]; grind
  rw [e1, e2]
theorem perp16 {d : Int} (hd : inB d 0 15 = true) (w : V4) : dtA ((d + 4) % 16) w = crA d w ∧ dtB ((d + 4) % 16) w = crB d w := by
  obtain ⟨h1, h2, h3, h4⟩ := v_perp16 hd
  unfold dtA dtB crA crB
  rw [h1, h2, h3, h4]
  constructor <;> grind
theorem flip_all {e : Int} (he : inB e 0 15 = true) (w : V4) : dtA ((16 - e) % 16) (fl true w) = dtA e w ∧ dtB ((16 - e) % 16) (fl true w) = dtB e w ∧ crA ((16 - e) % 16) (fl true w) = -crA e w ∧ crB ((16 - e) % 16) (fl true w) = -crB e w := by
  obtain ⟨h1, h2, h3, h4⟩ := v_flip16 he
  unfold dtA dtB crA crB fl
  rw [h1, h2, h3, h4]
  refine ⟨?_, ?_, ?_, ?_⟩ <;> simp only [cond_true] <;> grind
theorem sgD_flip {e : Int} (he : inB e 0 15 = true) (w : V4) : sgD ((16 - e) % 16) (fl true w) = sgD e w := by
  obtain ⟨h1, h2, _⟩ := flip_all he w
  unfold sgD
  rw [h1, h2]
theorem isDir_fl {e : Int} {w : V4} (he : inB e 0 15 = true) (h : isDir e w) : isDir ((16 - e) % 16) (fl true w) := by
  obtain ⟨h1, h2, h3, h4⟩ := flip_all he w
  have g1 := h.1
  have g2 := h.2.1
  exact ⟨by omega, by omega, by rw [h1, h2]; exact h.2.2⟩

/-- The direction to which a motion turns a direction. -/
def dirM (m : M8) (d : Int) : Int := (cond m.f (16 - d) d + 2 * m.t) % 16
theorem dirM_in (m : M8) (d : Int) : inB (dirM m d) 0 15 = true := inB_iff.2 (by unfold dirM; omega)
theorem dirM_is {m : M8} {d : Int} {w : V4} (hm : inB m.t 0 7 = true) (hd : inB d 0 15 = true) (h : isDir d w) : isDir (dirM m d) (tv m.t (fl m.f w)) := by
  have ht := inB_iff.1 hm
  have hd' := inB_iff.1 hd
  obtain ⟨n, hn⟩ : ∃ n : Nat, m.t = n := ⟨m.t.toNat, by omega⟩
  unfold dirM
  cases hf : m.f with
  | false =>
    have := isDir_turn hd h n (by omega)
    rw [hn]
    exact this
  | true =>
    have hb : inB ((16 - d) % 16) 0 15 = true := inB_iff.2 (by omega)
    have := isDir_turn hb (isDir_fl hd h) n (by omega)
    rw [hn]
    simp only [cond_true]
    rw [show (16 - d + 2 * (n : Int)) % 16 = ((16 - d) % 16 + 2 * n) % 16 by omega]
    exact this
/-- The side of a moved line. -/
theorem sgD_moved {m : M8} {d : Int} (u : V4) (hm : inB m.t 0 7 = true) (hd : inB d 0 7 = true) :
    sgD (dirM m d % 8 + 4) (tv m.t (fl m.f u)) = cond (decide (dirM m d ≥ 8)) (-(cond m.f (-(sgD (d + 4) u)) (sgD (d + 4) u))) (cond m.f (-(sgD (d + 4) u)) (sgD (d + 4) u)) := by
  have ht := inB_iff.1 hm
  have hd' := inB_iff.1 hd
  obtain ⟨n, hn⟩ : ∃ n : Nat, m.t = n := ⟨m.t.toNat, by omega⟩
  have he : inB (d + 4) 0 15 = true := inB_iff.2 (by omega)
  unfold dirM
  cases hf : m.f with
  | false =>
    have k := sgD_turn u he n (by omega)
    rw [hn]
    simp only [cond_false]
    show sgD _ (tv n u) = _
    by_cases h8 : (d + 2 * (n : Int)) % 16 ≥ 8
    · rw [show decide ((d + 2 * (n : Int)) % 16 ≥ 8) = true by simpa using h8, cond_true]
      have hb : inB ((d + 2 * (n : Int)) % 16 % 8 + 4) 0 15 = true := inB_iff.2 (by omega)
      have := sgD_opp hb (tv n u)
      rw [← k, show (d + 4 + 2 * (n : Int)) % 16 = ((d + 2 * (n : Int)) % 16 % 8 + 4 + 8) % 16 by omega, this]
      omega
    · rw [show decide ((d + 2 * (n : Int)) % 16 ≥ 8) = false by simpa using h8, cond_false]
      rw [← k, show (d + 4 + 2 * (n : Int)) % 16 = (d + 2 * (n : Int)) % 16 % 8 + 4 by omega]
  | true =>
    have hb0 : inB ((16 - (d + 4)) % 16) 0 15 = true := inB_iff.2 (by omega)
    have k := sgD_turn (fl true u) hb0 n (by omega)
    rw [sgD_flip he] at k
    rw [hn]
    simp only [cond_true]
    by_cases h8 : (16 - d + 2 * (n : Int)) % 16 ≥ 8
    · rw [show decide ((16 - d + 2 * (n : Int)) % 16 ≥ 8) = true by simpa using h8, cond_true]
      rw [← k, show ((16 - (d + 4)) % 16 + 2 * (n : Int)) % 16 = (16 - d + 2 * (n : Int)) % 16 % 8 + 4 by omega]
      omega
    · rw [show decide ((16 - d + 2 * (n : Int)) % 16 ≥ 8) = false by simpa using h8, cond_false]
      have hb : inB ((16 - d + 2 * (n : Int)) % 16 % 8 + 4) 0 15 = true := inB_iff.2 (by omega)
      have := sgD_opp hb (tv n (fl true u))
      rw [← k, show ((16 - (d + 4)) % 16 + 2 * (n : Int)) % 16 = ((16 - d + 2 * (n : Int)) % 16 % 8 + 4 + 8) % 16 by omega, this]
      omega

/-! ### the foot of a line -/
structure Ft (d : Int) (off : N3) (E : Nat) (f : V4) (O1 O2 : Int) : Prop where
  e3 : E ≤ 3
  o : VB 10 off O1 O2 134217728
  pv : PV (10 + E) (footF (nrm d) off) f 4831838208
  x : lowB (footF (nrm d) off).x
  y : lowB (footF (nrm d) off).y
  i : timesF (nrm d) (dvF off (dotF (nrm d) (nrm d))) = footF (nrm d) off
  t : pkT (nrm d) (dvF off (dotF (nrm d) (nrm d))) = true
  a : dtA (d + 4) f = O1 * 2 ^ E
  b : dtB (d + 4) f = O2 * 2 ^ E
theorem foot_ex {d : Int} {off : N3} (hd : inB d 0 7 = true) (ho : validB off = true) : ∃ E f O1 O2, Ft d off E f O1 O2 := by
  obtain ⟨O1, O2, vo⟩ := valid_vb ho
  have main : ∀ {c1 e1 c2 e2 na nb : Int} {E : Nat}, Nv (nrm d) c1 e1 c2 e2 na nb E → vC1 (d + 4) = c1 → vE1 (d + 4) = e1 → vC2 (d + 4) = c2 → vE2 (d + 4) = e2 →
      (∀ Q1 Q2, Q1 = O1 * na - 2 * O2 * nb → Q2 = O2 * na - O1 * nb → c1 * (Q1 * c1 + 2 * Q2 * e1) + 2 * e1 * (Q1 * e1 + Q2 * c1) + (c2 * (Q1 * c2 + 2 * Q2 * e2) + 2 * e2 * (Q1 * e2 + Q2 * c2)) = O1 * 2 ^ E ∧
        c1 * (Q1 * e1 + Q2 * c1) + e1 * (Q1 * c1 + 2 * Q2 * e1) + (c2 * (Q1 * e2 + Q2 * c2) + e2 * (Q1 * c2 + 2 * Q2 * e2)) = O2 * 2 ^ E) → ∃ E f O1 O2, Ft d off E f O1 O2 := by
    intro c1 e1 c2 e2 na nb E hn v1 v2 v3 v4 hall
    have hl := hn.l
    have hSE : 10 + E ≤ 1000 := by omega
    have ho1 := hn.o
    have hz := hn.z
    have he := hn.e
    have hq := hn.q
    obtain ⟨_, _, w, wl⟩ := vo.div (y := dotF (nrm d) (nrm d)) (E := E) (by rw [hq]; exact hn.h5) (by rw [hq]; exact hn.h6) (by rw [hq]) (by rw [hq]; exact .inl ho1) (by rw [hq]; exact hz) (by rw [hq]; exact he) hSE (by decide) (by decide)
    rw [hq, ho1] at w
    simp only [Int.one_mul] at w
    rw [← hq] at w
    obtain ⟨s1, s2⟩ := hall _ _ rfl rfl
    generalize O1 * na - 2 * O2 * nb = Q1 at *
    generalize O2 * na - O1 * nb = Q2 at *
    have hx : (nrm d).x = ⟨c1, e1, 0⟩ := by rw [hn.eq]
    have hy : (nrm d).y = ⟨c2, e2, 0⟩ := by rw [hn.eq]
    have vx : Val 0 (nrm d).x c1 e1 := by rw [hx]; exact Val.mk0 _ _
    have vy : Val 0 (nrm d).y c2 e2 := by rw [hy]; exact Val.mk0 _ _
    obtain ⟨f1, l1⟩ := w.mulv vx hn.h1 hn.h2 hSE (by decide)
    obtain ⟨f2, l2⟩ := w.mulv vy hn.h3 hn.h4 hSE (by decide)
    obtain ⟨g1, k1⟩ := VB.vmul vx hn.h1 hn.h2 w hSE (by decide)
    obtain ⟨g2, k2⟩ := VB.vmul vy hn.h3 hn.h4 w hSE (by decide)
    have eqt : timesF (nrm d) (dvF off (dotF (nrm d) (nrm d))) = footF (nrm d) off := by
      unfold timesF footF
      have t1 : c1 * Q1 + 2 * e1 * Q2 = Q1 * c1 + 2 * Q2 * e1 := by grind
      have t2 : c1 * Q2 + e1 * Q1 = Q1 * e1 + Q2 * c1 := by grind
      have t3 : c2 * Q1 + 2 * e2 * Q2 = Q1 * c2 + 2 * Q2 * e2 := by grind
      have t4 : c2 * Q2 + e2 * Q1 = Q1 * e2 + Q2 * c2 := by grind
      rw [t1, t2] at g1
      rw [t3, t4] at g2
      rw [g1.v.uniq f1.v k1 l1, g2.v.uniq f2.v k2 l2]
    refine ⟨E, ⟨Q1 * c1 + 2 * Q2 * e1, Q1 * e1 + Q2 * c1, Q1 * c2 + 2 * Q2 * e2, Q1 * e2 + Q2 * c2⟩, O1, O2, hl, vo, ⟨f1, f2⟩, l1, l2, eqt, ?_, ?_, ?_⟩
    · unfold pkT
      rw [(pk_val vx w.v (by decide) hSE).2, (pk_val vy w.v (by decide) hSE).2]
      rfl
    · unfold dtA
      rw [v1, v2, v3, v4]
      exact s1
    · unfold dtB
      rw [v1, v2, v3, v4]
      exact s2
  rcases nv_all hd with ⟨rfl, hn⟩ | ⟨rfl, hn⟩ | ⟨rfl, hn⟩ | ⟨rfl, hn⟩ | ⟨rfl, hn⟩ | ⟨rfl, hn⟩ | ⟨rfl, hn⟩ | ⟨rfl, hn⟩ <;>
    exact main hn rfl rfl rfl rfl fun Q1 Q2 h1 h2 => by constructor <;> omega
end Go.Ev

/- The law of moved lines. -/
namespace Go.Ev

def mlP (m : M8) (l : Ln) : P2 := moveF m.t m.f m.s (footF (nrm l.d) l.o)
def mlX (m : M8) (l : Ln) : N3 := offV (dirM m l.d % 8) (mlP m l)
def mlO (m : M8) (l : Ln) : Bool := (m.valid && l.valid) && validB (mlX m l)
def mlL (m : M8) (l : Ln) : Ln := ⟨cond (mlO m l) (dirM m l.d % 8) 0, sel (mlO m l) (mlX m l)⟩
def mdV (m : M8) (d : Int) : Int := cond (m.valid && inB d 0 15) (dirM m d) (-1)

theorem fl_mi (f : Bool) (v : V4) : fl f (mi v) = mi (fl f v) := by
  cases f
  · rfl
  · apply V4.ext' <;> simp [fl, mi]
theorem sc_db (n : Nat) (v : V4) : sc (2 ^ (n + 1)) v = db (sc (2 ^ n) v) := by
  apply V4.ext' <;> simp only [sc, db] <;> grind
theorem tv_sc {t : Int} (h : inB t 0 7 = true) (v : V4) : ∀ n : Nat, tv t (sc (2 ^ n) v) = sc (2 ^ n) (tv t v)
  | 0 => by simp [sc]
  | n + 1 => by rw [sc_db, sc_db, (tv_lin h _ v).2.1, tv_sc h v n]
theorem fl_sc (f : Bool) (n : Nat) (v : V4) : fl f (sc (2 ^ n) v) = sc (2 ^ n) (fl f v) := by
  cases f
  · rfl
  · apply V4.ext' <;> simp [fl, sc, Int.neg_mul]
theorem dt_lin (d : Int) (u v : V4) (z : Int) : dtA d (ad (sc z u) (mi v)) = dtA d u * z - dtA d v ∧ dtB d (ad (sc z u) (mi v)) = dtB d u * z - dtB d v := by
  unfold dtA dtB ad sc mi
  constructor <;> simp only <;> grind
/-- What a line's offset is worth: any point. -/
theorem off_vb {S M : Nat} {d : Int} {p : P2} {v : V4} (hd : inB d 0 7 = true) (hv : PV S p v M) (hS : S ≤ 1000) (hM : 3 * M + 3 * M < 9223372036854775808) :
    VB S (offV d p) (dtA (d + 4) v) (dtB (d + 4) v) (3 * M + 3 * M) ∧ lowB (offV d p) ∧ pkD (nrm d) p = true := by
  have h := inB_iff.1 hd
  have hd4 : inB (d + 4) 0 15 = true := inB_iff.2 (by omega)
  have hM3 : 3 * M < 9223372036854775808 := by omega
  obtain ⟨eq, h1, h2, h3, h4, _⟩ := vv_all hd4
  have en : nrm d = vecP (d + 4) := by unfold nrm; rw [wr_in (by omega) (by omega)]
  unfold offV
  rw [en, eq]
  obtain ⟨m1, _⟩ := VB.vmul (Val.mk0 _ _) h1 h2 hv.x hS hM3
  obtain ⟨m2, _⟩ := VB.vmul (Val.mk0 _ _) h3 h4 hv.y hS hM3
  obtain ⟨a1, a2⟩ := m1.add m2 hS hM
  refine ⟨a1, a2, ?_⟩
  unfold pkD
  rw [(pk_val (Val.mk0 _ _) hv.x.v (by decide) hS).2, (pk_val (Val.mk0 _ _) hv.y.v (by decide) hS).2, m1.pk m2 hS]
  rfl
/-- A moved line. -/
theorem ml_val {m : M8} {l : Ln} {E : Nat} {f w : V4} {O1 O2 : Int} (hm : inB m.t 0 7 = true) (hf : Ft l.d l.o E f O1 O2) (hw : PV 10 m.s w 134217728) :
    PV (10 + E + 1) (mlP m l) (ad (tv m.t (fl m.f f)) (db (sc (2 ^ E) w))) 21474836480 ∧ (let d := dirM m l.d % 8
    VB (10 + E + 1) (mlX m l) (dtA (d + 4) (ad (tv m.t (fl m.f f)) (db (sc (2 ^ E) w)))) (dtB (d + 4) (ad (tv m.t (fl m.f f)) (db (sc (2 ^ E) w)))) 128849018880 ∧ lowB (mlX m l) ∧ pkD (nrm d) (mlP m l) = true ∧ inB d 0 7 = true) := by
  have he := hf.e3
  obtain ⟨a, _, _⟩ := pv_move m.t m.f hf.pv (pv_sc hw he) (by omega) (by decide)
  have hd : inB (dirM m l.d % 8) 0 7 = true := inB_iff.2 (by omega)
  obtain ⟨b, c, e⟩ := off_vb hd a (by omega) (by decide)
  exact ⟨a, b, c, e, hd⟩
theorem wr_neg {s : Int} (h : -1 ≤ s ∧ s ≤ 1) : wr (0 - s) = -s := by rw [wr_in (by omega) (by omega)]; omega
theorem ml_side {m : M8} {l : Ln} {p : P2} (hm : m.valid = true) (hl : l.valid = true) (hp : valP p = true) (ho : mlO m l = true) (h2 : mvO m p = true) :
    soV (mlL m l) (mvP m p) = cond (decide (dirM m l.d ≥ 8)) (-(cond m.f (-(soV l p)) (soV l p))) (cond m.f (-(soV l p)) (soV l p)) := by
  have hm' := hm
  have hl' := hl
  unfold M8.valid at hm'
  unfold Ln.valid at hl'
  rw [Bool.and_eq_true] at hm' hl'
  obtain ⟨E, f, O1, O2, hf⟩ := foot_ex hl'.1 hl'.2
  obtain ⟨v, hv⟩ := valP_pv hp
  obtain ⟨w, hw⟩ := valP_pv hm'.2
  obtain ⟨q1, q2, q3, q4⟩ := mv_val (m := m) (Nat.le_refl _) hv hw
  obtain ⟨_, k1, k2, _, hd⟩ := ml_val hm'.1 hf hw
  have vX : validB (mlX m l) = true := by unfold mlO at ho; rw [Bool.and_eq_true] at ho; exact ho.2
  have eL : mlL m l = ⟨dirM m l.d % 8, mlX m l⟩ := by unfold mlL; rw [ho]; rfl
  have eQ : mvP m p = moveF m.t m.f m.s p := by unfold mvP; rw [h2, q2]; rfl
  have vq : valP (moveF m.t m.f m.s p) = true := by rw [mvO_true hm hp, q2] at h2; exact h2
  have vL : (mlL m l).valid = true := by rw [eL]; unfold Ln.valid; rw [hd, vX]; rfl
  obtain ⟨V, hV⟩ := valP_pv vq
  have dV := pv_same (pv_db hV) q1
  obtain ⟨X1, X2, hX⟩ := valid_vb vX
  have x1 := hX.v.lift (E + 1)
  have xA : X1 * 2 ^ (E + 1) = dtA (dirM m l.d % 8 + 4) (ad (tv m.t (fl m.f f)) (db (sc (2 ^ E) w))) := by rw [x1.a, k1.v.a]; rfl
  have xB : X2 * 2 ^ (E + 1) = dtB (dirM m l.d % 8 + 4) (ad (tv m.t (fl m.f f)) (db (sc (2 ^ E) w))) := by rw [x1.b, k1.v.b]; rfl
  have s0 : soV l p = sgD (l.d + 4) (ad (sc (2 ^ E) v) (mi f)) := by
    unfold soV
    rw [hl, hp]
    show sgF (subF (offV l.d p) l.o) = _
    obtain ⟨np, _⟩ := nrm_dot hl'.1 hv
    rw [(np.sub hf.o (by decide) (by decide)).1.v.sg, ← sgZ_scale _ _ E]
    unfold sgD
    obtain ⟨t1, t2⟩ := dt_lin (l.d + 4) v f (2 ^ E)
    rw [t1, t2, hf.a, hf.b, Int.sub_mul, Int.sub_mul]
  have key : ad (sc (2 ^ E) (db V)) (mi (ad (tv m.t (fl m.f f)) (db (sc (2 ^ E) w)))) = tv m.t (fl m.f (ad (sc (2 ^ E) v) (mi f))) := by
    rw [(fl_lin m.f (sc (2 ^ E) v) (mi f)).1, (tv_lin hm'.1 _ _).1, fl_mi, (tv_lin hm'.1 (fl m.f f) (fl m.f f)).2.2, fl_sc, tv_sc hm'.1, dV]
    apply V4.ext' <;> simp only [sc, ad, mi, db] <;> grind
  have s1 : soV (mlL m l) (mvP m p) = sgD (dirM m l.d % 8 + 4) (tv m.t (fl m.f (ad (sc (2 ^ E) v) (mi f)))) := by
    unfold soV
    rw [vL, eQ, vq, eL]
    show sgF (subF (offV (dirM m l.d % 8) (moveF m.t m.f m.s p)) (mlX m l)) = _
    obtain ⟨np, _⟩ := nrm_dot hd hV
    rw [(np.sub hX (by decide) (by decide)).1.v.sg, ← sgZ_scale _ _ (E + 1), Int.sub_mul, Int.sub_mul, xA, xB, ← key]
    unfold sgD
    obtain ⟨t1, t2⟩ := dt_lin (dirM m l.d % 8 + 4) (db V) (ad (tv m.t (fl m.f f)) (db (sc (2 ^ E) w))) (2 ^ E)
    have u1 : dtA (dirM m l.d % 8 + 4) (db V) = 2 * dtA (dirM m l.d % 8 + 4) V := by unfold dtA db; grind
    have u2 : dtB (dirM m l.d % 8 + 4) (db V) = 2 * dtB (dirM m l.d % 8 + 4) V := by unfold dtB db; grind
    rw [t1, t2, u1, u2, Int.pow_succ]
    congr 1 <;> grind
  rw [s1, sgD_moved _ hm'.1 hl'.1, s0]
theorem ml_dir {m : M8} {p q : P2} (hm : m.valid = true) (hp : valP p = true) (hq : valP q = true) (h2 : mvO m p = true) (h3 : mvO m q = true) (hd : ¬ dirV p q < 0) :
    dirV (mvP m p) (mvP m q) = dirM m (dirV p q) ∧ inB (dirV p q) 0 15 = true ∧ valP (mvP m p) = true ∧ valP (mvP m q) = true := by
  have hm' := hm
  unfold M8.valid at hm'
  rw [Bool.and_eq_true] at hm'
  obtain ⟨v, u, hv, hu, hw, _⟩ := way_of hp hq
  obtain ⟨w, hws⟩ := valP_pv hm'.2
  obtain ⟨p1, p2, _, _⟩ := mv_val (m := m) (Nat.le_refl _) hv hws
  obtain ⟨q1, q2, _, _⟩ := mv_val (m := m) (Nat.le_refl _) hu hws
  have eP : mvP m p = moveF m.t m.f m.s p := by unfold mvP; rw [h2, p2]; rfl
  have eQ : mvP m q = moveF m.t m.f m.s q := by unfold mvP; rw [h3, q2]; rfl
  have vp : valP (moveF m.t m.f m.s p) = true := by rw [mvO_true hm hp, p2] at h2; exact h2
  have vq : valP (moveF m.t m.f m.s q) = true := by rw [mvO_true hm hq, q2] at h3; exact h3
  obtain ⟨V, U, hV, hU, hW, _⟩ := way_of vp vq
  have dV := pv_same (pv_db hV) p1
  have dU := pv_same (pv_db hU) q1
  rcases dirV_spec hw with ⟨k1, k2⟩ | ⟨k1, _⟩
  · refine ⟨?_, k1, by rw [eP]; exact vp, by rw [eQ]; exact vq⟩
    rw [eP, eQ]
    refine dirV_is hW (dirM_in _ _) ?_
    have h := dirM_is hm'.1 k1 k2
    have e0 : (⟨u.a - v.a, u.b - v.b, u.c - v.c, u.d - v.d⟩ : V4) = ad u (mi v) := by apply V4.ext' <;> simp only [ad, mi] <;> omega
    rw [e0, (fl_lin m.f u (mi v)).1, (tv_lin hm'.1 _ _).1, fl_mi, (tv_lin hm'.1 (fl m.f v) (fl m.f v)).2.2] at h
    have e1 : ad (tv m.t (fl m.f u)) (mi (tv m.t (fl m.f v))) = db ⟨U.a - V.a, U.b - V.b, U.c - V.c, U.d - V.d⟩ := by
      have a1 : ad (tv m.t (fl m.f u)) (mi (tv m.t (fl m.f v))) = ad (ad (tv m.t (fl m.f u)) (db w)) (mi (ad (tv m.t (fl m.f v)) (db w))) := by
        apply V4.ext' <;> simp only [ad, mi, db] <;> omega
      rw [a1, ← dV, ← dU]
      apply V4.ext' <;> simp only [ad, mi, db] <;> omega
    rw [e1] at h
    exact isDir_db.1 h
  · omega

/-! ### the law -/
def lT22 (m : M8) (p q y : P2) (two : Bool) (z : P2) (three : Bool) : Option AV := cond (decide (dofV p q < 0)) yes (cond (!two) yes (cond (!three) yes (some (bv (dofV y z == mdV m (dofV p q))))))
def lT20 (m : M8) (p q : P2) (x : Ln) (y : P2) (two : Bool) (z : P2) (three : Bool) (s : Int) : Option AV := cond (soV x y != s) no (lT22 m p q y two z three)
def lT18 (m : M8) (l : Ln) (p q : P2) (x : Ln) (y : P2) (two : Bool) (z : P2) (three : Bool) (s : Int) : Option AV :=
  cond (decide (mdV m l.d ≥ 8)) (lT20 m p q x y two z three (wr (0 - s))) (lT20 m p q x y two z three s)
def lT14 (m : M8) (l : Ln) (p q : P2) (x : Ln) (one : Bool) (y : P2) (two : Bool) (z : P2) (three : Bool) : Option AV :=
  cond one (cond two (cond m.f (lT18 m l p q x y two z three (wr (0 - soV l p))) (lT18 m l p q x y two z three (soV l p))) (lT22 m p q y two z three)) (lT22 m p q y two z three)
def lT6 (m : M8) (l : Ln) (p q : P2) : Option AV := cond (!m.valid) yes (cond (!l.valid) yes (cond (!valP p) yes (cond (!valP q) yes
  (cond (mlO m l != mlO m l) no (lT14 m l p q (mlL m l) (mlO m l) (mvP m p) (mvO m p) (mvP m q) (mvO m q))))))
theorem so_bd (l : Ln) (p : P2) : -1 ≤ soV l p ∧ soV l p ≤ 1 := by
  unfold soV
  cases h : (l.valid && valP p) with
  | false => exact ⟨by show (-1 : Int) ≤ 0; decide, by show (0 : Int) ≤ 1; decide⟩
  | true =>
    rw [Bool.and_eq_true] at h
    have h1 := h.1
    unfold Ln.valid at h1
    rw [Bool.and_eq_true] at h1
    obtain ⟨O1, O2, vo⟩ := valid_vb h1.2
    obtain ⟨v, hv⟩ := valP_pv h.2
    obtain ⟨np, _⟩ := nrm_dot h1.1 hv
    show -1 ≤ sgF (subF (offV l.d p) l.o) ∧ sgF (subF (offV l.d p) l.o) ≤ 1
    rw [(np.sub vo (by decide) (by decide)).1.v.sg]
    exact sgZ_bd _ _
theorem moved_yes (m : M8) (l : Ln) (p q : P2) : lT6 m l p q = yes := by
  unfold lT6
  cases hm : m.valid with
  | false => rfl
  | true =>
  cases hl : l.valid with
  | false => rfl
  | true =>
  cases hp : valP p with
  | false => rfl
  | true =>
  cases hq : valP q with
  | false => rfl
  | true =>
  rw [bne_self_eq_false]
  simp only [Bool.not_true, cond_false]
  have t22 : lT22 m p q (mvP m p) (mvO m p) (mvP m q) (mvO m q) = yes := by
    unfold lT22
    cases hd : decide (dofV p q < 0) with
    | true => rfl
    | false =>
    cases h2 : mvO m p with
    | false => rfl
    | true =>
    cases h3 : mvO m q with
    | false => rfl
    | true =>
    have e1 : dofV p q = dirV p q := by unfold dofV; rw [hp, hq]; rfl
    rw [e1] at hd
    have hd' : ¬ dirV p q < 0 := by simpa using hd
    obtain ⟨k1, k2, k3, k4⟩ := ml_dir hm hp hq h2 h3 hd'
    have e2 : dofV (mvP m p) (mvP m q) = dirM m (dirV p q) := by unfold dofV; rw [k3, k4]; exact k1
    have e3 : mdV m (dirV p q) = dirM m (dirV p q) := by unfold mdV; rw [hm, k2]; rfl
    rw [e1, e2, e3, beq_self_eq_true]
    rfl
  unfold lT14
  rw [t22]
  cases ho : mlO m l with
  | false => rfl
  | true =>
  cases h2 : mvO m p with
  | false => rfl
  | true =>
  simp only [cond_true]
  have hs := ml_side hm hl hp ho h2
  have hl' := hl
  unfold Ln.valid at hl'
  rw [Bool.and_eq_true] at hl'
  have hb := inB_iff.1 hl'.1
  have hmd : mdV m l.d = dirM m l.d := by unfold mdV; rw [hm, show inB l.d 0 15 = true from inB_iff.2 (by omega)]; rfl
  have b0 := so_bd l p
  rw [h2] at t22
  unfold lT18 lT20
  rw [hmd, t22, hs, wr_neg b0]
  have n1 : wr (0 - -(soV l p)) = -(-(soV l p)) := by rw [wr_in (by omega) (by omega)]; omega
  rw [n1]
  cases m.f <;> cases decide (dirM m l.d ≥ 8) <;> simp only [cond_true, cond_false, bne_self_eq_false]
end Go.Ev

/- What the contracts about moved lines and directions need. -/
namespace Go.Ev

theorem mod_ok {d : Int} (h : inB d (-100) 100 = true) : (wr (d.tmod 16 + 16)).tmod 16 = d % 16 := by
  have h := inB_iff.1 h
  have e : d.tmod 16 = d % 16 ∨ d.tmod 16 = d % 16 - 16 := by
    by_cases h0 : 0 ≤ d
    · left; exact Int.tmod_eq_emod_of_nonneg h0
    · by_cases h1 : d % 16 = 0
      · left
        obtain ⟨k, hk⟩ : ∃ k, d = 16 * k := ⟨d / 16, by omega⟩
        rw [hk]; simp
      · right
        have : d.tmod 16 = -((-d).tmod 16) := by rw [Int.neg_tmod, Int.neg_neg]
        rw [this, Int.tmod_eq_emod_of_nonneg (by omega)]
        omega
  rw [wr_in (by omega) (by omega), Int.tmod_eq_emod_of_nonneg (by omega)]
  omega
theorem mod_small {d : Int} (h : inB d 0 15 = true) : d % 16 = d := by have := inB_iff.1 h; omega
/-- A vector that is no longer than the difference of two points. -/
def wayB (w : P2) : Bool := decide ((0 ≤ w.x.k ∧ w.x.k ≤ 10) ∧ (0 ≤ w.y.k ∧ w.y.k ≤ 10)) && decide (((w.x.a * 2 ^ (10 - w.x.k.toNat)).natAbs ≤ 268435456 ∧ (w.x.b * 2 ^ (10 - w.x.k.toNat)).natAbs ≤ 268435456) ∧
  ((w.y.a * 2 ^ (10 - w.y.k.toNat)).natAbs ≤ 268435456 ∧ (w.y.b * 2 ^ (10 - w.y.k.toNat)).natAbs ≤ 268435456))
theorem wayB_way {w : P2} (h : wayB w = true) : ∃ v, Way w v := by
  unfold wayB at h
  simp only [Bool.and_eq_true, decide_eq_true_eq] at h
  obtain ⟨⟨⟨h1, h2⟩, h3, h4⟩, ⟨h5, h6⟩, h7, h8⟩ := h
  exact ⟨⟨_, _, _, _⟩, ⟨⟨⟨⟨h1, h2, rfl, rfl⟩, h5, h6⟩, ⟨⟨h3, h4, rfl, rfl⟩, h7, h8⟩⟩⟩⟩
theorem way_wayB {w : P2} {v : V4} (h : Way w v) : wayB w = true := by
  obtain ⟨⟨⟨vx, ax, bx⟩, ⟨vy, ay, by_⟩⟩⟩ := h
  rw [vx.a] at ax
  rw [vx.b] at bx
  rw [vy.a] at ay
  rw [vy.b] at by_
  unfold wayB
  simp only [Bool.and_eq_true, decide_eq_true_eq]
  exact ⟨⟨⟨vx.k0, vx.kS⟩, vy.k0, vy.kS⟩, ⟨ax, bx⟩, ay, by_⟩
def zroN (x : N3) : Bool := x.a == 0 && x.b == 0
/-- The reference's test is the program's. -/
theorem zro_perp {d : Int} {w : P2} {v : V4} (hd : inB d 0 15 = true) (h : Way w v) : zroN (dotF (vecP ((d + 4) % 16)) w) = eqN (crsF (vecP d) w) z3 := by
  obtain ⟨_, _, _, k1, _⟩ := way_ok hd h
  have hd4 : inB ((d + 4) % 16) 0 15 = true := inB_iff.2 (by omega)
  obtain ⟨eq, h1, h2, h3, h4, h5⟩ := vv_all hd4
  obtain ⟨p1, p2⟩ := perp16 hd v
  have hx := h.pv.x
  have hy := h.pv.y
  have vd : Val 10 (dotF (vecP ((d + 4) % 16)) w) (dtA ((d + 4) % 16) v) (dtB ((d + 4) % 16) v) := by
    unfold dtA dtB
    generalize vC1 ((d + 4) % 16) = c1 at *
    generalize vE1 ((d + 4) % 16) = e1 at *
    generalize vC2 ((d + 4) % 16) = c2 at *
    generalize vE2 ((d + 4) % 16) = e2 at *
    rw [eq]
    obtain ⟨m1, _⟩ := VB.vmul (Val.mk0 c1 e1) h1 h2 hx (by decide) (by decide)
    obtain ⟨m2, _⟩ := VB.vmul (Val.mk0 c2 e2) h3 h4 hy (by decide) (by decide)
    exact (m1.add m2 (by decide) (by decide)).1.v
  rw [p1, p2] at vd
  have hk := vd.kS
  have hp := pow_pos2 (10 - (dotF (vecP ((d + 4) % 16)) w).k.toNat)
  have iff1 : zroN (dotF (vecP ((d + 4) % 16)) w) = true ↔ crA d v = 0 ∧ crB d v = 0 := by
    rw [vd.a, vd.b]
    unfold zroN
    rw [Bool.and_eq_true, beq_iff_eq, beq_iff_eq]
    constructor
    · rintro ⟨a, b⟩
      rw [a, b]
      simp
    · rintro ⟨a, b⟩
      rcases Int.mul_eq_zero.1 a with a | a
      · rcases Int.mul_eq_zero.1 b with b | b
        · exact ⟨a, b⟩
        · omega
      · omega
  rw [← k1] at iff1
  cases h1 : zroN (dotF (vecP ((d + 4) % 16)) w) <;> cases h2 : eqN (crsF (vecP d) w) z3 <;> simp_all
/-- A moved line: no step of the computation wraps. -/
theorem ml_ok {m : M8} {l : Ln} (hm : m.valid = true) (hl : l.valid = true) : okM m.t (footF (nrm l.d) l.o) m.s = true ∧ (inB (wr (dirM m l.d % 8 + 4)) 0 15 && pkD (nrm (dirM m l.d % 8)) (mlP m l)) = true ∧ inB l.d 0 15 = true ∧
    kB (mlX m l).k = true ∧ red (mlX m l) = mlX m l := by
  unfold M8.valid at hm
  unfold Ln.valid at hl
  rw [Bool.and_eq_true] at hm hl
  obtain ⟨E, f, O1, O2, hf⟩ := foot_ex hl.1 hl.2
  obtain ⟨w, hw⟩ := valP_pv hm.2
  obtain ⟨_, k1, k2, k3, hd⟩ := ml_val hm.1 hf hw
  obtain ⟨_, _, _, _, a5, _⟩ := mirror_same hl.1 hl.2
  have hb := inB_iff.1 hl.1
  have he := hf.e3
  refine ⟨?_, ?_, inB_iff.2 (by omega), k1.kB (by omega), red_fix k2⟩
  · unfold okM
    rw [hm.1, a5, val_ok hm.2]
    rfl
  · rw [nrm_in hd, k3]
    rfl
theorem dirM_spec {t d : Int} (ht : inB t 0 7 = true) (hd : inB d 0 15 = true) : (inB (wr (wr (0 - d) + wr (2 * t))) (-100) 100 = true ∧ wr (wr (0 - d) + wr (2 * t)) % 16 = (16 - d + 2 * t) % 16) ∧
    (inB (wr (d + wr (2 * t))) (-100) 100 = true ∧ wr (d + wr (2 * t)) % 16 = (d + 2 * t) % 16) := by
  have ht := inB_iff.1 ht
  have hd := inB_iff.1 hd
  rw [wr_in (n := 2 * t) (by omega) (by omega), wr_in (n := 0 - d) (by omega) (by omega), wr_in (n := 0 - d + 2 * t) (by omega) (by omega), wr_in (by omega) (by omega)]
  exact ⟨⟨inB_iff.2 (by omega), by omega⟩, inB_iff.2 (by omega), rfl⟩
noncomputable def mlN (s : Src) : Ln := (bentLV (bentMV s).2).1
end Go.Ev

/- Reflections at a fine scale; the foot of a line reflected. -/
namespace Go.Ev

theorem vC1_10 : vC1 10 = -1 := rfl
theorem vE1_10 : vE1 10 = 0 := rfl
theorem vC2_10 : vC2 10 = -1 := rfl
theorem vE2_10 : vE2 10 = 0 := rfl
theorem vC1_11 : vC1 11 = 1 := rfl
theorem vE1_11 : vE1 11 = -1 := rfl
theorem vC2_11 : vC2 11 = -1 := rfl
theorem vE2_11 : vE2 11 = 0 := rfl
theorem VB.half {S : Nat} {x : N3} {A B : Int} {M : Nat} (h : VB S x A B M) (hS : S ≤ 999) (hM : M < 9223372036854775808) : VB (S + 1) (halfF x) A B M ∧ lowB (halfF x) := by
  have k0 := h.v.k0
  have kS := h.v.kS
  have e : wr (x.k + 1) = x.k + 1 := wr_in (by omega) (by omega)
  have hv : Val (S + 1) ⟨x.a, x.b, x.k + 1⟩ A B := by
    have es : S + 1 - (x.k + 1).toNat = S - x.k.toNat := by omega
    refine ⟨by show 0 ≤ x.k + 1; omega, by show x.k + 1 ≤ _; omega, ?_, ?_⟩
    · show _ = x.a * 2 ^ (S + 1 - (x.k + 1).toNat)
      rw [es]; exact h.v.a
    · show _ = x.b * 2 ^ (S + 1 - (x.k + 1).toNat)
      rw [es]; exact h.v.b
  obtain ⟨r, l⟩ := hv.red (by omega) (Nat.lt_of_le_of_lt h.a hM) (Nat.lt_of_le_of_lt h.b hM)
  unfold halfF
  rw [e]
  exact ⟨⟨r, h.a, h.b⟩, l⟩
theorem dot_vb13 {n p : P2} {c1 e1 c2 e2 na nb : Int} {E : Nat} {v : V4} (hn : Nv n c1 e1 c2 e2 na nb E) (hv : PV 13 p v 1073741824) :
    VB 13 (dotF n p) (c1 * v.a + 2 * e1 * v.b + (c2 * v.c + 2 * e2 * v.d)) (c1 * v.b + e1 * v.a + (c2 * v.d + e2 * v.c)) 6442450944 ∧ pkD n p = true := by
  obtain ⟨m1, _⟩ := VB.vmul (Val.mk0 c1 e1) hn.h1 hn.h2 hv.x (by decide) (by decide)
  obtain ⟨m2, _⟩ := VB.vmul (Val.mk0 c2 e2) hn.h3 hn.h4 hv.y (by decide) (by decide)
  obtain ⟨a1, a2⟩ := m1.add m2 (by decide) (by decide)
  rw [hn.eq]
  refine ⟨a1, ?_⟩
  unfold pkD
  rw [(pk_val (Val.mk0 c1 e1) hv.x.v (by decide) (by decide)).2, (pk_val (Val.mk0 c2 e2) hv.y.v (by decide) (by decide)).2, m1.pk m2 (by decide)]
  rfl
/-- No step of the reflection wraps. -/
structure Rp (n p : P2) (off : N3) : Prop where
  k1 : pkD n p = true
  k2 : pk off (dotF n p) = true
  k3 : pkD n n = true
  k4 : dvP (subF off (dotF n p)) (dotF n n) = true
  k5 : pk (dvF (subF off (dotF n p)) (dotF n n)) (dvF (subF off (dotF n p)) (dotF n n)) = true
  k6 : pkT n (addF (dvF (subF off (dotF n p)) (dotF n n)) (dvF (subF off (dotF n p)) (dotF n n))) = true
  k7 : pkP p (timesF n (addF (dvF (subF off (dotF n p)) (dotF n n)) (dvF (subF off (dotF n p)) (dotF n n)))) = true
theorem rfl_val13 {n p : P2} {off : N3} {c1 e1 c2 e2 na nb O1 O2 : Int} {E : Nat} {v : V4} (hn : Nv n c1 e1 c2 e2 na nb E) (hv : PV 13 p v 1073741824) (ho : VB 13 off O1 O2 1073741824) :
    PV (13 + E) (rflI n off p) (rv c1 e1 c2 e2 (tA c1 e1 c2 e2 O1 v * na - 2 * tB c1 e1 c2 e2 O2 v * nb) (tB c1 e1 c2 e2 O2 v * na - tA c1 e1 c2 e2 O1 v * nb) E v) 1000000000000 ∧ lowB (rflI n off p).x ∧ lowB (rflI n off p).y ∧ Rp n p off := by
  obtain ⟨dv, kd⟩ := dot_vb13 hn hv
  obtain ⟨v1, _⟩ := ho.sub dv (by decide) (by decide)
  have hl := hn.l
  have hSE : 13 + E ≤ 1000 := by omega
  have ho1 := hn.o
  have hz := hn.z
  have he := hn.e
  have hq := hn.q
  have kn : pkD n n = true := by
    rw [hn.eq]
    exact (dot_val (p := ⟨⟨c1, e1, 0⟩, ⟨c2, e2, 0⟩⟩) (M := 1) hn.h1 hn.h2 hn.h3 hn.h4 ⟨Val.mk0 c1 e1, hn.h1, hn.h2⟩ ⟨Val.mk0 c2 e2, hn.h3, hn.h4⟩ (by decide) (by decide)).1
  obtain ⟨d1, _, w1, _⟩ := v1.div (y := dotF n n) (E := E) (by rw [hq]; exact hn.h5) (by rw [hq]; exact hn.h6) (by rw [hq]) (by rw [hq]; exact .inl ho1) (by rw [hq]; exact hz) (by rw [hq]; exact he) hSE (by decide) (by decide)
  rw [hq, ho1] at w1
  simp only [Int.one_mul] at w1
  change VB (13 + E) _ (tA c1 e1 c2 e2 O1 v * na - 2 * tB c1 e1 c2 e2 O2 v * nb) (tB c1 e1 c2 e2 O2 v * na - tA c1 e1 c2 e2 O1 v * nb) _ at w1
  rw [← hq] at w1
  have hx : n.x = ⟨c1, e1, 0⟩ := by rw [hn.eq]
  have hy : n.y = ⟨c2, e2, 0⟩ := by rw [hn.eq]
  have vx : Val 0 n.x c1 e1 := by rw [hx]; exact Val.mk0 _ _
  have vy : Val 0 n.y c2 e2 := by rw [hy]; exact Val.mk0 _ _
  have k2 := ho.pk dv (by decide)
  have hr : rflI n off p = addP p (timesF n (addF (dvF (subF off (dotF n p)) (dotF n n)) (dvF (subF off (dotF n p)) (dotF n n)))) := rfl
  have hb : Rp n p off ↔ (pk (dvF (subF off (dotF n p)) (dotF n n)) (dvF (subF off (dotF n p)) (dotF n n)) = true ∧ pkT n (addF (dvF (subF off (dotF n p)) (dotF n n)) (dvF (subF off (dotF n p)) (dotF n n))) = true ∧ pkP p (timesF n (addF (dvF (subF off (dotF n p)) (dotF n n)) (dvF (subF off (dotF n p)) (dotF n n)))) = true) :=
    ⟨fun h => ⟨h.k5, h.k6, h.k7⟩, fun h => ⟨kd, k2, kn, d1, h.1, h.2.1, h.2.2⟩⟩
  rw [hr, hb]
  clear hr hb d1 kn k2
  generalize dvF (subF off (dotF n p)) (dotF n n) = q at *
  generalize tA c1 e1 c2 e2 O1 v * na - 2 * tB c1 e1 c2 e2 O2 v * nb = Q1 at *
  generalize tB c1 e1 c2 e2 O2 v * na - tA c1 e1 c2 e2 O1 v * nb = Q2 at *
  obtain ⟨t1, _⟩ := w1.add w1 hSE (by decide)
  obtain ⟨u1, _⟩ := VB.vmul vx hn.h1 hn.h2 t1 hSE (by decide)
  obtain ⟨u2, _⟩ := VB.vmul vy hn.h3 hn.h4 t1 hSE (by decide)
  obtain ⟨r1, r2⟩ := (lift_vb hv.x hl).add u1 hSE (by decide)
  obtain ⟨r3, r4⟩ := (lift_vb hv.y hl).add u2 hSE (by decide)
  have b1 := r1.more (K := 1000000000000) (by decide)
  have b2 := r3.more (K := 1000000000000) (by decide)
  refine ⟨⟨b1, b2⟩, r2, r4, w1.pk w1 hSE, ?_, ?_⟩
  · unfold pkT
    rw [(pk_val vx t1.v (by decide) hSE).2, (pk_val vy t1.v (by decide) hSE).2]
    rfl
  · unfold pkP timesF
    rw [(lift_vb hv.x hl).pk u1 hSE, (lift_vb hv.y hl).pk u2 hSE]
    rfl
/-- The linear part of the reflection in a line with direction d. -/
def lr (d : Int) (v : V4) : V4 := tv d (fl true v)
/-- Reflecting as a map from whole numbers over 2^13 to whole numbers over 2^16. -/
structure Rf (d : Int) (off : N3) (O1 O2 : Int) (W : V4) : Prop where
  o : VB 10 off O1 O2 134217728
  z : ad (lr d W) (db W) = ⟨0, 0, 0, 0⟩
  r : ∀ (p : P2) (v : V4), PV 13 p v 1073741824 → PV 16 (rflI (nrm d) off p) (ad (sc 4 (lr d v)) W) 8000000000000 ∧ lowB (rflI (nrm d) off p).x ∧ lowB (rflI (nrm d) off p).y ∧ Rp (nrm d) p off
  s : ∀ v : V4, dtA (d + 4) (ad (sc 4 (lr d v)) W) = 128 * O1 - 8 * dtA (d + 4) v ∧ dtB (d + 4) (ad (sc 4 (lr d v)) W) = 128 * O2 - 8 * dtB (d + 4) v
  f : ∀ v : V4, dtA (d + 4) v = 8 * O1 → dtB (d + 4) v = 8 * O2 → ad (sc 4 (lr d v)) W = sc 8 v
def rW (c1 e1 c2 e2 na nb O1 O2 : Int) (E E' : Nat) (v : V4) : V4 :=
  sc (2 ^ E') (rv c1 e1 c2 e2 (tA c1 e1 c2 e2 (8 * O1) v * na - 2 * tB c1 e1 c2 e2 (8 * O2) v * nb) (tB c1 e1 c2 e2 (8 * O2) v * na - tA c1 e1 c2 e2 (8 * O1) v * nb) E v)
theorem rf_ex {d : Int} {off : N3} (hd : inB d 0 7 = true) (ho : validB off = true) : ∃ O1 O2 W, Rf d off O1 O2 W := by
  obtain ⟨O1, O2, vo⟩ := valid_vb ho
  have o13 : VB 13 off (8 * O1) (8 * O2) 1073741824 := by
    have h := lift_vb vo (show 3 ≤ 3 by decide)
    rw [show O1 * 2 ^ 3 = 8 * O1 by omega, show O2 * 2 ^ 3 = 8 * O2 by omega] at h
    exact h
  have main : ∀ {c1 e1 c2 e2 na nb : Int} {E : Nat} (E' : Nat), E + E' = 3 → Nv (nrm d) c1 e1 c2 e2 na nb E →
      (ad (lr d (rW c1 e1 c2 e2 na nb O1 O2 E E' ⟨0, 0, 0, 0⟩)) (db (rW c1 e1 c2 e2 na nb O1 O2 E E' ⟨0, 0, 0, 0⟩)) = ⟨0, 0, 0, 0⟩) →
      (∀ v, rW c1 e1 c2 e2 na nb O1 O2 E E' v = ad (sc 4 (lr d v)) (rW c1 e1 c2 e2 na nb O1 O2 E E' ⟨0, 0, 0, 0⟩)) →
      (∀ v, (dtA (d + 4) (rW c1 e1 c2 e2 na nb O1 O2 E E' v) = 128 * O1 - 8 * dtA (d + 4) v ∧ dtB (d + 4) (rW c1 e1 c2 e2 na nb O1 O2 E E' v) = 128 * O2 - 8 * dtB (d + 4) v) ∧
        (dtA (d + 4) v = 8 * O1 → dtB (d + 4) v = 8 * O2 → rW c1 e1 c2 e2 na nb O1 O2 E E' v = sc 8 v)) → ∃ O1 O2 W, Rf d off O1 O2 W := by
    intro c1 e1 c2 e2 na nb E E' hE hn h0 h1 h2
    refine ⟨O1, O2, rW c1 e1 c2 e2 na nb O1 O2 E E' ⟨0, 0, 0, 0⟩, vo, h0, fun p v hv => ?_, fun v => ?_, fun v => ?_⟩
    · obtain ⟨a, b, c, e⟩ := rfl_val13 hn hv o13
      have k := pv_sc a (E := E') (by omega)
      rw [show 13 + E + E' = 16 by omega] at k
      rw [← h1]
      exact ⟨k, b, c, e⟩
    · rw [← h1]; exact (h2 v).1
    · rw [← h1]; exact (h2 v).2
  clear o13 vo ho
  rcases nv_all hd with ⟨rfl, hn⟩ | ⟨rfl, hn⟩ | ⟨rfl, hn⟩ | ⟨rfl, hn⟩ | ⟨rfl, hn⟩ | ⟨rfl, hn⟩ | ⟨rfl, hn⟩ | ⟨rfl, hn⟩
  · refine main 3 rfl hn ?_ (fun v => ?_) (fun v => ⟨⟨?_, ?_⟩, fun g1 g2 => ?_⟩)
    · unfold lr; rw [(tv_all _).1]; clear main hn; apply V4.ext' <;> simp only [ad, sc, db, rv, tA, tB, fl, rW, cond_true] <;> omega
    · unfold lr; rw [(tv_all _).1]; clear main hn; apply V4.ext' <;> simp only [ad, sc, db, rv, tA, tB, fl, rW, cond_true] <;> omega
    · clear main hn; show dtA 4 _ = _ - 8 * dtA 4 _; unfold dtA; simp only [vC1_4, vE1_4, vC2_4, vE2_4, sc, rv, tA, tB, rW]; omega
    · clear main hn; show dtB 4 _ = _ - 8 * dtB 4 _; unfold dtB; simp only [vC1_4, vE1_4, vC2_4, vE2_4, sc, rv, tA, tB, rW]; omega
    · clear main hn; change dtA 4 _ = _ at g1; change dtB 4 _ = _ at g2; unfold dtA at g1; unfold dtB at g2; simp only [vC1_4, vE1_4, vC2_4, vE2_4] at g1 g2; apply V4.ext' <;> simp only [sc, rv, tA, tB, rW] <;> omega
  · refine main 0 rfl hn ?_ (fun v => ?_) (fun v => ⟨⟨?_, ?_⟩, fun g1 g2 => ?_⟩)
    · unfold lr; rw [(tv_all _).2.1]; clear main hn; apply V4.ext' <;> simp only [ad, sc, db, rv, tA, tB, fl, rW, cond_true] <;> omega
    · unfold lr; rw [(tv_all _).2.1]; clear main hn; apply V4.ext' <;> simp only [ad, sc, db, rv, tA, tB, fl, rW, cond_true] <;> omega
    · clear main hn; show dtA 5 _ = _ - 8 * dtA 5 _; unfold dtA; simp only [vC1_5, vE1_5, vC2_5, vE2_5, sc, rv, tA, tB, rW]; omega
    · clear main hn; show dtB 5 _ = _ - 8 * dtB 5 _; unfold dtB; simp only [vC1_5, vE1_5, vC2_5, vE2_5, sc, rv, tA, tB, rW]; omega
    · clear main hn; change dtA 5 _ = _ at g1; change dtB 5 _ = _ at g2; unfold dtA at g1; unfold dtB at g2; simp only [vC1_5, vE1_5, vC2_5, vE2_5] at g1 g2; apply V4.ext' <;> simp only [sc, rv, tA, tB, rW] <;> omega
  · refine main 1 rfl hn ?_ (fun v => ?_) (fun v => ⟨⟨?_, ?_⟩, fun g1 g2 => ?_⟩)
    · unfold lr; rw [(tv_all _).2.2.1]; clear main hn; apply V4.ext' <;> simp only [ad, sc, db, rv, tA, tB, fl, rW, cond_true] <;> omega
    · unfold lr; rw [(tv_all _).2.2.1]; clear main hn; apply V4.ext' <;> simp only [ad, sc, db, rv, tA, tB, fl, rW, cond_true] <;> omega
    · clear main hn; show dtA 6 _ = _ - 8 * dtA 6 _; unfold dtA; simp only [vC1_6, vE1_6, vC2_6, vE2_6, sc, rv, tA, tB, rW]; omega
    · clear main hn; show dtB 6 _ = _ - 8 * dtB 6 _; unfold dtB; simp only [vC1_6, vE1_6, vC2_6, vE2_6, sc, rv, tA, tB, rW]; omega
    · clear main hn; change dtA 6 _ = _ at g1; change dtB 6 _ = _ at g2; unfold dtA at g1; unfold dtB at g2; simp only [vC1_6, vE1_6, vC2_6, vE2_6] at g1 g2; apply V4.ext' <;> simp only [sc, rv, tA, tB, rW] <;> omega
  · refine main 0 rfl hn ?_ (fun v => ?_) (fun v => ⟨⟨?_, ?_⟩, fun g1 g2 => ?_⟩)
    · unfold lr; rw [(tv_all _).2.2.2.1]; clear main hn; apply V4.ext' <;> simp only [ad, sc, db, rv, tA, tB, fl, rW, cond_true] <;> omega
    · unfold lr; rw [(tv_all _).2.2.2.1]; clear main hn; apply V4.ext' <;> simp only [ad, sc, db, rv, tA, tB, fl, rW, cond_true] <;> omega
    · clear main hn; show dtA 7 _ = _ - 8 * dtA 7 _; unfold dtA; simp only [vC1_7, vE1_7, vC2_7, vE2_7, sc, rv, tA, tB, rW]; omega
    · clear main hn; show dtB 7 _ = _ - 8 * dtB 7 _; unfold dtB; simp only [vC1_7, vE1_7, vC2_7, vE2_7, sc, rv, tA, tB, rW]; omega
    · clear main hn; change dtA 7 _ = _ at g1; change dtB 7 _ = _ at g2; unfold dtA at g1; unfold dtB at g2; simp only [vC1_7, vE1_7, vC2_7, vE2_7] at g1 g2; apply V4.ext' <;> simp only [sc, rv, tA, tB, rW] <;> omega
  · refine main 3 rfl hn ?_ (fun v => ?_) (fun v => ⟨⟨?_, ?_⟩, fun g1 g2 => ?_⟩)
    · unfold lr; rw [(tv_all _).2.2.2.2.1]; clear main hn; apply V4.ext' <;> simp only [ad, sc, db, rv, tA, tB, fl, rW, cond_true] <;> omega
    · unfold lr; rw [(tv_all _).2.2.2.2.1]; clear main hn; apply V4.ext' <;> simp only [ad, sc, db, rv, tA, tB, fl, rW, cond_true] <;> omega
    · clear main hn; show dtA 8 _ = _ - 8 * dtA 8 _; unfold dtA; simp only [vC1_8, vE1_8, vC2_8, vE2_8, sc, rv, tA, tB, rW]; omega
    · clear main hn; show dtB 8 _ = _ - 8 * dtB 8 _; unfold dtB; simp only [vC1_8, vE1_8, vC2_8, vE2_8, sc, rv, tA, tB, rW]; omega
    · clear main hn; change dtA 8 _ = _ at g1; change dtB 8 _ = _ at g2; unfold dtA at g1; unfold dtB at g2; simp only [vC1_8, vE1_8, vC2_8, vE2_8] at g1 g2; apply V4.ext' <;> simp only [sc, rv, tA, tB, rW] <;> omega
  · refine main 0 rfl hn ?_ (fun v => ?_) (fun v => ⟨⟨?_, ?_⟩, fun g1 g2 => ?_⟩)
    · unfold lr; rw [(tv_all _).2.2.2.2.2.1]; clear main hn; apply V4.ext' <;> simp only [ad, sc, db, rv, tA, tB, fl, rW, cond_true] <;> omega
    · unfold lr; rw [(tv_all _).2.2.2.2.2.1]; clear main hn; apply V4.ext' <;> simp only [ad, sc, db, rv, tA, tB, fl, rW, cond_true] <;> omega
    · clear main hn; show dtA 9 _ = _ - 8 * dtA 9 _; unfold dtA; simp only [vC1_9, vE1_9, vC2_9, vE2_9, sc, rv, tA, tB, rW]; omega
    · clear main hn; show dtB 9 _ = _ - 8 * dtB 9 _; unfold dtB; simp only [vC1_9, vE1_9, vC2_9, vE2_9, sc, rv, tA, tB, rW]; omega
    · clear main hn; change dtA 9 _ = _ at g1; change dtB 9 _ = _ at g2; unfold dtA at g1; unfold dtB at g2; simp only [vC1_9, vE1_9, vC2_9, vE2_9] at g1 g2; apply V4.ext' <;> simp only [sc, rv, tA, tB, rW] <;> omega
  · refine main 1 rfl hn ?_ (fun v => ?_) (fun v => ⟨⟨?_, ?_⟩, fun g1 g2 => ?_⟩)
    · unfold lr; rw [(tv_all _).2.2.2.2.2.2.1]; clear main hn; apply V4.ext' <;> simp only [ad, sc, db, rv, tA, tB, fl, rW, cond_true] <;> omega
    · unfold lr; rw [(tv_all _).2.2.2.2.2.2.1]; clear main hn; apply V4.ext' <;> simp only [ad, sc, db, rv, tA, tB, fl, rW, cond_true] <;> omega
    · clear main hn; show dtA 10 _ = _ - 8 * dtA 10 _; unfold dtA; simp only [vC1_10, vE1_10, vC2_10, vE2_10, sc, rv, tA, tB, rW]; omega
    · clear main hn; show dtB 10 _ = _ - 8 * dtB 10 _; unfold dtB; simp only [vC1_10, vE1_10, vC2_10, vE2_10, sc, rv, tA, tB, rW]; omega
    · clear main hn; change dtA 10 _ = _ at g1; change dtB 10 _ = _ at g2; unfold dtA at g1; unfold dtB at g2; simp only [vC1_10, vE1_10, vC2_10, vE2_10] at g1 g2; apply V4.ext' <;> simp only [sc, rv, tA, tB, rW] <;> omega
  · refine main 0 rfl hn ?_ (fun v => ?_) (fun v => ⟨⟨?_, ?_⟩, fun g1 g2 => ?_⟩)
    · unfold lr; rw [(tv_all _).2.2.2.2.2.2.2]; clear main hn; apply V4.ext' <;> simp only [ad, sc, db, rv, tA, tB, fl, rW, cond_true] <;> omega
    · unfold lr; rw [(tv_all _).2.2.2.2.2.2.2]; clear main hn; apply V4.ext' <;> simp only [ad, sc, db, rv, tA, tB, fl, rW, cond_true] <;> omega
    · clear main hn; show dtA 11 _ = _ - 8 * dtA 11 _; unfold dtA; simp only [vC1_11, vE1_11, vC2_11, vE2_11, sc, rv, tA, tB, rW]; omega
    · clear main hn; show dtB 11 _ = _ - 8 * dtB 11 _; unfold dtB; simp only [vC1_11, vE1_11, vC2_11, vE2_11, sc, rv, tA, tB, rW]; omega
    · clear main hn; change dtA 11 _ = _ at g1; change dtB 11 _ = _ at g2; unfold dtA at g1; unfold dtB at g2; simp only [vC1_11, vE1_11, vC2_11, vE2_11] at g1 g2; apply V4.ext' <;> simp only [sc, rv, tA, tB, rW] <;> omega
end Go.Ev

/- Lines reflected: twice gives the line back; the common point. -/
namespace Go.Ev

/-- The foot of a line over 2^13. -/
structure Fo (d : Int) (off : N3) (O1 O2 : Int) (f : V4) : Prop where
  o : VB 10 off O1 O2 134217728
  pv : PV 13 (footF (nrm d) off) f 1073741824
  a : dtA (d + 4) f = 8 * O1
  b : dtB (d + 4) f = 8 * O2
theorem vb_of {S M K : Nat} {x : N3} {A B : Int} (h : VB S x A B M) (ha : A.natAbs ≤ K) (hb : B.natAbs ≤ K) : VB S x A B K := ⟨h.v, ha, hb⟩
theorem foot13 {d : Int} {off : N3} (hd : inB d 0 7 = true) (ho : validB off = true) : ∃ O1 O2 f, Fo d off O1 O2 f := by
  obtain ⟨O1, O2, vo⟩ := valid_vb ho
  have main : ∀ {c1 e1 c2 e2 na nb : Int} {E : Nat} (E' : Nat), E + E' = 3 → Nv (nrm d) c1 e1 c2 e2 na nb E → vC1 (d + 4) = c1 → vE1 (d + 4) = e1 → vC2 (d + 4) = c2 → vE2 (d + 4) = e2 →
      (∀ Q1 Q2, Q1 = O1 * na - 2 * O2 * nb → Q2 = O2 * na - O1 * nb → (((Q1 * c1 + 2 * Q2 * e1) * 2 ^ E').natAbs ≤ 1073741824 ∧ ((Q1 * e1 + Q2 * c1) * 2 ^ E').natAbs ≤ 1073741824) ∧ (((Q1 * c2 + 2 * Q2 * e2) * 2 ^ E').natAbs ≤ 1073741824 ∧ ((Q1 * e2 + Q2 * c2) * 2 ^ E').natAbs ≤ 1073741824) ∧
        c1 * ((Q1 * c1 + 2 * Q2 * e1) * 2 ^ E') + 2 * e1 * ((Q1 * e1 + Q2 * c1) * 2 ^ E') + (c2 * ((Q1 * c2 + 2 * Q2 * e2) * 2 ^ E') + 2 * e2 * ((Q1 * e2 + Q2 * c2) * 2 ^ E')) = 8 * O1 ∧
        c1 * ((Q1 * e1 + Q2 * c1) * 2 ^ E') + e1 * ((Q1 * c1 + 2 * Q2 * e1) * 2 ^ E') + (c2 * ((Q1 * e2 + Q2 * c2) * 2 ^ E') + e2 * ((Q1 * c2 + 2 * Q2 * e2) * 2 ^ E')) = 8 * O2) → ∃ O1 O2 f, Fo d off O1 O2 f := by
    intro c1 e1 c2 e2 na nb E E' hEE hn v1 v2 v3 v4 hall
    have hSE : 10 + E ≤ 1000 := by omega
    have ho1 := hn.o
    have hz := hn.z
    have he := hn.e
    have hq := hn.q
    obtain ⟨_, _, w, wl⟩ := vo.div (y := dotF (nrm d) (nrm d)) (E := E) (by rw [hq]; exact hn.h5) (by rw [hq]; exact hn.h6) (by rw [hq]) (by rw [hq]; exact .inl ho1) (by rw [hq]; exact hz) (by rw [hq]; exact he) hSE (by decide) (by decide)
    rw [hq, ho1] at w
    simp only [Int.one_mul] at w
    rw [← hq] at w
    obtain ⟨⟨b1, b2⟩, ⟨b3, b4⟩, s1, s2⟩ := hall _ _ rfl rfl
    generalize O1 * na - 2 * O2 * nb = Q1 at *
    generalize O2 * na - O1 * nb = Q2 at *
    have hx : (nrm d).x = ⟨c1, e1, 0⟩ := by rw [hn.eq]
    have hy : (nrm d).y = ⟨c2, e2, 0⟩ := by rw [hn.eq]
    have vx : Val 0 (nrm d).x c1 e1 := by rw [hx]; exact Val.mk0 _ _
    have vy : Val 0 (nrm d).y c2 e2 := by rw [hy]; exact Val.mk0 _ _
    obtain ⟨f1, l1⟩ := w.mulv vx hn.h1 hn.h2 hSE (by decide)
    obtain ⟨f2, l2⟩ := w.mulv vy hn.h3 hn.h4 hSE (by decide)
    have g1 := lift_vb f1 (E := E') (by omega)
    have g2 := lift_vb f2 (E := E') (by omega)
    rw [show 10 + E + E' = 13 by omega] at g1 g2
    refine ⟨O1, O2, ⟨(Q1 * c1 + 2 * Q2 * e1) * 2 ^ E', (Q1 * e1 + Q2 * c1) * 2 ^ E', (Q1 * c2 + 2 * Q2 * e2) * 2 ^ E', (Q1 * e2 + Q2 * c2) * 2 ^ E'⟩, vo, ⟨vb_of g1 b1 b2, vb_of g2 b3 b4⟩, ?_, ?_⟩
    · unfold dtA
      rw [v1, v2, v3, v4]
      exact s1
    · unfold dtB
      rw [v1, v2, v3, v4]
      exact s2
  have q1 := vo.a
  have q2 := vo.b
  rcases nv_all hd with ⟨rfl, hn⟩ | ⟨rfl, hn⟩ | ⟨rfl, hn⟩ | ⟨rfl, hn⟩ | ⟨rfl, hn⟩ | ⟨rfl, hn⟩ | ⟨rfl, hn⟩ | ⟨rfl, hn⟩
  · exact main 3 rfl hn rfl rfl rfl rfl fun Q1 Q2 h1 h2 => by clear main vo hn ho; refine ⟨⟨?_, ?_⟩, ⟨?_, ?_⟩, ?_, ?_⟩ <;> omega
  · exact main 0 rfl hn rfl rfl rfl rfl fun Q1 Q2 h1 h2 => by clear main vo hn ho; refine ⟨⟨?_, ?_⟩, ⟨?_, ?_⟩, ?_, ?_⟩ <;> omega
  · exact main 1 rfl hn rfl rfl rfl rfl fun Q1 Q2 h1 h2 => by clear main vo hn ho; refine ⟨⟨?_, ?_⟩, ⟨?_, ?_⟩, ?_, ?_⟩ <;> omega
  · exact main 0 rfl hn rfl rfl rfl rfl fun Q1 Q2 h1 h2 => by clear main vo hn ho; refine ⟨⟨?_, ?_⟩, ⟨?_, ?_⟩, ?_, ?_⟩ <;> omega
  · exact main 3 rfl hn rfl rfl rfl rfl fun Q1 Q2 h1 h2 => by clear main vo hn ho; refine ⟨⟨?_, ?_⟩, ⟨?_, ?_⟩, ?_, ?_⟩ <;> omega
  · exact main 0 rfl hn rfl rfl rfl rfl fun Q1 Q2 h1 h2 => by clear main vo hn ho; refine ⟨⟨?_, ?_⟩, ⟨?_, ?_⟩, ?_, ?_⟩ <;> omega
  · exact main 1 rfl hn rfl rfl rfl rfl fun Q1 Q2 h1 h2 => by clear main vo hn ho; refine ⟨⟨?_, ?_⟩, ⟨?_, ?_⟩, ?_, ?_⟩ <;> omega
  · exact main 0 rfl hn rfl rfl rfl rfl fun Q1 Q2 h1 h2 => by clear main vo hn ho; refine ⟨⟨?_, ?_⟩, ⟨?_, ?_⟩, ?_, ?_⟩ <;> omega

/-! ### the linear part -/
theorem dt_ad (e : Int) (u v : V4) : dtA e (ad u v) = dtA e u + dtA e v ∧ dtB e (ad u v) = dtB e u + dtB e v := by
  unfold dtA dtB ad
  constructor <;> simp only <;> grind
theorem dt_sc (e z : Int) (u : V4) : dtA e (sc z u) = dtA e u * z ∧ dtB e (sc z u) = dtB e u * z := by
  unfold dtA dtB sc
  constructor <;> simp only <;> grind
theorem lr_ad {d : Int} (hd : inB d 0 7 = true) (u v : V4) : lr d (ad u v) = ad (lr d u) (lr d v) := by
  unfold lr
  rw [(fl_lin true u v).1, (tv_lin hd _ _).1]
theorem lr_mi {d : Int} (hd : inB d 0 7 = true) (u : V4) : lr d (mi u) = mi (lr d u) := by
  unfold lr
  rw [fl_mi, (tv_lin hd _ (fl true u)).2.2]
theorem lr_sc {d : Int} (hd : inB d 0 7 = true) (n : Nat) (u : V4) : lr d (sc (2 ^ n) u) = sc (2 ^ n) (lr d u) := by
  unfold lr
  rw [fl_sc, tv_sc hd]
theorem lr_sc8 {d : Int} (hd : inB d 0 7 = true) (u : V4) : lr d (sc 8 u) = sc 8 (lr d u) := lr_sc hd 3 u
theorem lr_sc4 {d : Int} (hd : inB d 0 7 = true) (u : V4) : lr d (sc 4 u) = sc 4 (lr d u) := lr_sc hd 2 u
theorem lr_lr {d : Int} (hd : inB d 0 7 = true) (u : V4) : lr d (lr d u) = sc 4 u := by
  unfold lr
  rw [tv_cmp hd hd true true u, show cmpT d d true = 0 by unfold cmpT; simp, show (true != true) = false from rfl]
  show db (tv 0 u) = _
  rw [(tv_all u).1]
  apply V4.ext' <;> simp only [db, sc] <;> omega
/-- What is on a line is on the line's reflection. -/
theorem zt {d e : Int} (hd : inB d 0 7 = true) (he : inB e 0 7 = true) {u : V4} (h1 : dtA (e + 4) u = 0) (h2 : dtB (e + 4) u = 0) : dtA ((2 * d - e) % 8 + 4) (lr d u) = 0 ∧ dtB ((2 * d - e) % 8 + 4) (lr d u) = 0 := by
  have h := sgD_moved (m := ⟨d, true, zP⟩) u hd he
  have he' := inB_iff.1 he
  have hd' := inB_iff.1 hd
  have e1 : dirM ⟨d, true, zP⟩ e % 8 = (2 * d - e) % 8 := by unfold dirM; simp only [cond_true]; omega
  rw [e1] at h
  have z : sgD (e + 4) u = 0 := by unfold sgD; rw [h1, h2]; rfl
  rw [z] at h
  apply sgZ_eq_zero
  change sgD ((2 * d - e) % 8 + 4) (lr d u) = 0
  change sgD ((2 * d - e) % 8 + 4) (lr d u) = _ at h
  rw [h]
  cases decide (dirM ⟨d, true, zP⟩ e ≥ 8) <;> rfl

/-! ### lines reflected -/
def rlD (a b : Ln) : Int := (2 * a.d - b.d) % 8
def rlX (a b : Ln) : N3 := offV (rlD a b) (rflI (nrm a.d) a.o (footF (nrm b.d) b.o))
def rlO (a b : Ln) : Bool := (a.valid && b.valid) && validB (rlX a b)
def rlL (a b : Ln) : Ln := ⟨cond (rlO a b) (rlD a b) 0, sel (rlO a b) (rlX a b)⟩
theorem rlD_in (a b : Ln) : inB (rlD a b) 0 7 = true := inB_iff.2 (by unfold rlD; omega)
theorem rl_val {a b : Ln} {A1 A2 B1 B2 : Int} {W f : V4} (ha : Rf a.d a.o A1 A2 W) (hb : Fo b.d b.o B1 B2 f) :
    VB 16 (rlX a b) (dtA (rlD a b + 4) (ad (sc 4 (lr a.d f)) W)) (dtB (rlD a b + 4) (ad (sc 4 (lr a.d f)) W)) 48000000000000 ∧ lowB (rlX a b) ∧ pkD (nrm (rlD a b)) (rflI (nrm a.d) a.o (footF (nrm b.d) b.o)) = true ∧ Rp (nrm a.d) (footF (nrm b.d) b.o) a.o := by
  obtain ⟨r1, _, _, r4⟩ := ha.r _ _ hb.pv
  obtain ⟨o1, o2, o3⟩ := off_vb (rlD_in a b) r1 (by decide) (by decide)
  exact ⟨o1, o2, o3, r4⟩
theorem lift6 {x : N3} {A B : Int} {M : Nat} (h : VB 10 x A B M) : Val 16 x (64 * A) (64 * B) := by
  have := h.v.lift 6
  rw [show A * 2 ^ 6 = 64 * A by omega, show B * 2 ^ 6 = 64 * B by omega] at this
  exact this
theorem val_same {S : Nat} {x : N3} {A B C D : Int} (h : Val S x A B) (g : Val S x C D) : A = C ∧ B = D := ⟨h.a.trans g.a.symm, h.b.trans g.b.symm⟩
theorem rl_back {a b : Ln} (ha : a.valid = true) (hb : b.valid = true) (ho : rlO a b = true) : rlO a (rlL a b) = true ∧ rlL a (rlL a b) = b := by
  have ha' := ha
  have hb' := hb
  unfold Ln.valid at ha' hb'
  rw [Bool.and_eq_true] at ha' hb'
  obtain ⟨A1, A2, W, hR⟩ := rf_ex ha'.1 ha'.2
  obtain ⟨B1, B2, f, hf⟩ := foot13 hb'.1 hb'.2
  obtain ⟨v1, l1, _⟩ := rl_val hR hf
  have vX : validB (rlX a b) = true := by unfold rlO at ho; rw [Bool.and_eq_true] at ho; exact ho.2
  have eL : rlL a b = ⟨rlD a b, rlX a b⟩ := by unfold rlL; rw [ho]; rfl
  have hD := rlD_in a b
  obtain ⟨X1, X2, g, hg⟩ := foot13 hD vX
  have hg' : Fo (rlL a b).d (rlL a b).o X1 X2 g := by rw [eL]; exact hg
  obtain ⟨w1, m1, _⟩ := rl_val hR hg'
  have b8 := inB_iff.1 hb'.1
  have eD : rlD a (rlL a b) = b.d := by rw [eL]; unfold rlD; simp only; omega
  obtain ⟨x1, x2⟩ := val_same (lift6 hg.o) v1.v
  -- the foot of the reflected line less the reflected foot
  have z := zt (d := a.d) (e := rlD a b) ha'.1 hD (u := ad (sc 8 g) (mi (ad (sc 4 (lr a.d f)) W)))
    (by rw [(dt_lin _ _ _ _).1, hg.a, ← x1]; omega) (by rw [(dt_lin _ _ _ _).2, hg.b, ← x2]; omega)
  have e1 : (2 * a.d - rlD a b) % 8 = b.d := by unfold rlD; omega
  rw [e1, lr_ad ha'.1, lr_mi ha'.1, lr_ad ha'.1, lr_sc8 ha'.1, lr_sc4 ha'.1, lr_lr ha'.1] at z
  have ez : lr a.d W = mi (db W) := by
    have := hR.z
    simp only [ad, db, V4.mk.injEq] at this
    obtain ⟨t1, t2, t3, t4⟩ := this
    apply V4.ext' <;> simp only [mi, db] <;> omega
  rw [ez] at z
  have fin : dtA (b.d + 4) (ad (sc 4 (lr a.d g)) W) = 64 * B1 ∧ dtB (b.d + 4) (ad (sc 4 (lr a.d g)) W) = 64 * B2 := by
    have k1 := hf.a
    have k2 := hf.b
    obtain ⟨z1, z2⟩ := z
    have n1 : ∀ v : V4, dtA (b.d + 4) (mi v) = -dtA (b.d + 4) v := fun v => (cr_mi _ v).2.2.1
    have n2 : ∀ v : V4, dtB (b.d + 4) (mi v) = -dtB (b.d + 4) v := fun v => (cr_mi _ v).2.2.2
    have n3 : ∀ v : V4, dtA (b.d + 4) (db v) = 2 * dtA (b.d + 4) v := fun v => by unfold dtA db; grind
    have n4 : ∀ v : V4, dtB (b.d + 4) (db v) = 2 * dtB (b.d + 4) v := fun v => by unfold dtB db; grind
    simp only [(dt_ad _ _ _).1, (dt_ad _ _ _).2, (dt_sc _ _ _).1, (dt_sc _ _ _).2, n1, n2, n3, n4] at z1 z2 ⊢
    rw [k1] at z1
    rw [k2] at z2
    clear n1 n2 n3 n4 v1 w1 x1 x2
    constructor <;> omega
  rw [eD] at w1
  change VB 16 _ (dtA (b.d + 4) (ad (sc 4 (lr a.d g)) W)) (dtB (b.d + 4) (ad (sc 4 (lr a.d g)) W)) _ at w1
  rw [fin.1, fin.2] at w1
  have eo : rlX a (rlL a b) = b.o := w1.v.uniq (lift6 hf.o) m1 (valid_low hb'.2)
  have vl : (rlL a b).valid = true := by rw [eL]; unfold Ln.valid; rw [hD, vX]; rfl
  have ok : rlO a (rlL a b) = true := by
    unfold rlO
    rw [ha, vl, eo, hb'.2]
    rfl
  refine ⟨ok, ?_⟩
  have : rlL a (rlL a b) = ⟨rlD a (rlL a b), rlX a (rlL a b)⟩ := by rw [show rlL a (rlL a b) = ⟨cond (rlO a (rlL a b)) (rlD a (rlL a b)) 0, sel (rlO a (rlL a b)) (rlX a (rlL a b))⟩ from rfl, ok]; rfl
  rw [this, eD, eo]
/-- The common point of two lines is on the reflected line. -/
theorem rl_meet {a b : Ln} (ha : a.valid = true) (hb : b.valid = true) (ho : rlO a b = true) (hm : mtC a b = 0) : soV (rlL a b) (mtQ a b) = 0 := by
  have ha' := ha
  have hb' := hb
  unfold Ln.valid at ha' hb'
  rw [Bool.and_eq_true] at ha' hb'
  have hne : (a.d == b.d) = false := by
    cases h : (a.d == b.d) with
    | false => rfl
    | true => unfold mtC at hm; rw [ha, hb, h] at hm; exact absurd hm (by show ¬ (7 : Int) = 0; decide)
  obtain ⟨A1, A2, W, hR⟩ := rf_ex ha'.1 ha'.2
  obtain ⟨B1, B2, f, hf⟩ := foot13 hb'.1 hb'.2
  obtain ⟨v1, _, _⟩ := rl_val hR hf
  have vX : validB (rlX a b) = true := by unfold rlO at ho; rw [Bool.and_eq_true] at ho; exact ho.2
  have eL : rlL a b = ⟨rlD a b, rlX a b⟩ := by unfold rlL; rw [ho]; rfl
  have hD := rlD_in a b
  obtain ⟨X1, X2, vx⟩ := valid_vb vX
  obtain ⟨x1, x2⟩ := val_same (lift6 vx) v1.v
  obtain ⟨c1, e1, c2, e2, na, nb, E1, hn⟩ := nv_ex ha'.1
  obtain ⟨g1, f1, g2, f2, ma, mb, E2, hm2⟩ := nv_ex hb'.1
  obtain ⟨da, db', s, E, h⟩ := mt_val ha'.1 hb'.1 hne hn hm2 hR.o hf.o
  have er : redP (mtW a b) = mtW a b := redP_low h.lx h.ly
  have hv : valP (mtW a b) = true := by
    cases hv : valP (mtW a b) with
    | true => rfl
    | false => unfold mtC at hm; rw [ha, hb, hne, er, hv] at hm; exact absurd hm (by show ¬ (2 : Int) = 0; decide)
  have eq : mtQ a b = mtW a b := by unfold mtQ; rw [ha, hb, hne, er, hv]; rfl
  obtain ⟨P, hP⟩ := valP_pv hv
  obtain ⟨⟨o1, o2⟩, o3, o4⟩ := mt_on h hP
  obtain ⟨d1, _⟩ := dot_vb hn hP
  obtain ⟨d2, _⟩ := dot_vb hm2 hP
  obtain ⟨q1, _⟩ := nrm_dot ha'.1 hP
  obtain ⟨q2, _⟩ := nrm_dot hb'.1 hP
  obtain ⟨u1, u2⟩ := val_same q1.v d1.v
  obtain ⟨u3, u4⟩ := val_same q2.v d2.v
  rw [o1] at u1
  rw [o2] at u2
  rw [o3] at u3
  rw [o4] at u4
  -- the point reflected is itself
  have r := hR.f (sc 8 P) (by rw [(dt_sc _ _ _).1, u1]; omega) (by rw [(dt_sc _ _ _).2, u2]; omega)
  have z := zt (d := a.d) (e := b.d) ha'.1 hb'.1 (u := ad (sc 8 P) (mi f)) (by rw [(dt_lin _ _ _ _).1, u3, hf.a]; omega) (by rw [(dt_lin _ _ _ _).2, u4, hf.b]; omega)
  rw [lr_ad ha'.1, lr_mi ha'.1] at z
  have fin : dtA (rlD a b + 4) P = X1 ∧ dtB (rlD a b + 4) P = X2 := by
    obtain ⟨z1, z2⟩ := z
    change dtA (rlD a b + 4) _ = 0 at z1
    change dtB (rlD a b + 4) _ = 0 at z2
    have r1 := congrArg (dtA (rlD a b + 4)) r
    have r2 := congrArg (dtB (rlD a b + 4)) r
    have n1 : ∀ v : V4, dtA (rlD a b + 4) (mi v) = -dtA (rlD a b + 4) v := fun v => (cr_mi _ v).2.2.1
    have n2 : ∀ v : V4, dtB (rlD a b + 4) (mi v) = -dtB (rlD a b + 4) v := fun v => (cr_mi _ v).2.2.2
    simp only [(dt_ad _ _ _).1, (dt_ad _ _ _).2, (dt_sc _ _ _).1, (dt_sc _ _ _).2, n1, n2] at z1 z2 r1 r2 x1 x2
    constructor <;> omega
  have vl : (rlL a b).valid = true := by rw [eL]; unfold Ln.valid; rw [hD, vX]; rfl
  unfold soV
  rw [vl, eq, hv, eL]
  show sgF (subF (offV (rlD a b) (mtW a b)) (rlX a b)) = 0
  obtain ⟨np, _⟩ := nrm_dot hD hP
  rw [(np.sub vx (by decide) (by decide)).1.v.sg, fin.1, fin.2, Int.sub_self, Int.sub_self]
  rfl
end Go.Ev

/- The law of reflections of points, directions and lines. -/
namespace Go.Ev

theorem eqN_eq {x y : N3} (h : eqN x y = true) : x = y := by
  unfold eqN at h
  simp only [Bool.and_eq_true, Bool.and_true, beq_iff_eq] at h
  cases x; cases y
  simp only at h
  obtain ⟨rfl, rfl, rfl⟩ := h
  rfl
theorem eqP2_eq {p q : P2} (h : eqP2 p q = true) : p = q := by
  unfold eqP2 at h
  simp only [Bool.and_eq_true, Bool.and_true] at h
  cases p; cases q
  simp only at h
  rw [eqN_eq h.1, eqN_eq h.2]
def moO (p q : P2) : Bool := (valP p && valP q) && valP (midF p q)
def moP (p q : P2) : P2 := selP (moO p q) (midF p q)

/-- A point and its reflection. -/
structure Tw (a : Ln) (p : P2) (A1 A2 : Int) (W v V : V4) : Prop where
  pv : PV 10 p v 134217728
  xv : PV 10 (rflI (nrm a.d) a.o p) V 134217728
  e : sc 64 V = ad (sc 4 (lr a.d (sc 8 v))) W
  low : lowB (rflI (nrm a.d) a.o p).x ∧ lowB (rflI (nrm a.d) a.o p).y
theorem pv8 {p : P2} {v : V4} (h : PV 10 p v 134217728) : PV 13 p (sc 8 v) 1073741824 := pv_sc (E := 3) h (by decide)
theorem pv64 {p : P2} {v : V4} {M : Nat} (h : PV 10 p v M) : PV 16 p (sc 64 v) (8 * (8 * M)) := by
  have := pv_sc (E := 3) (pv_sc (E := 3) h (by decide)) (by decide)
  have e : sc (2 ^ 3) (sc (2 ^ 3) v) = sc 64 v := by apply V4.ext' <;> simp only [sc] <;> omega
  rw [e] at this
  exact this
theorem rp_ok {a : Ln} {p : P2} (ha : a.valid = true) (hp : valP p = true) (ho : rpO a p = true) : redP (rflI (nrm a.d) a.o p) = rflI (nrm a.d) a.o p ∧ rpP a p = rflI (nrm a.d) a.o p ∧ valP (rflI (nrm a.d) a.o p) = true := by
  obtain ⟨l1, l2⟩ := rfl_low ha (.inl hp)
  have er := redP_low l1 l2
  have ho' := ho
  unfold rpO at ho'
  rw [Bool.and_eq_true, er] at ho'
  exact ⟨er, by unfold rpP; rw [ho, er]; rfl, ho'.2⟩
theorem tw_of {a : Ln} {p : P2} {A1 A2 : Int} {W : V4} (ha : a.valid = true) (hR : Rf a.d a.o A1 A2 W) (hp : valP p = true) (ho : rpO a p = true) : ∃ v V, Tw a p A1 A2 W v V := by
  obtain ⟨_, _, vx⟩ := rp_ok ha hp ho
  obtain ⟨v, hv⟩ := valP_pv hp
  obtain ⟨V, hV⟩ := valP_pv vx
  obtain ⟨r1, r2, r3, _⟩ := hR.r p (sc 8 v) (pv8 hv)
  exact ⟨v, V, hv, hV, pv_same (pv64 hV) r1, r2, r3⟩
theorem lr_W {d : Int} {off : N3} {A1 A2 : Int} {W : V4} (hR : Rf d off A1 A2 W) : lr d W = mi (db W) := by
  have := hR.z
  simp only [ad, db, V4.mk.injEq] at this
  obtain ⟨t1, t2, t3, t4⟩ := this
  apply V4.ext' <;> simp only [mi, db] <;> omega
theorem lr_sc64 {d : Int} (hd : inB d 0 7 = true) (u : V4) : lr d (sc 64 u) = sc 64 (lr d u) := lr_sc hd 6 u
theorem tw_back {a : Ln} {p : P2} {A1 A2 : Int} {W v V : V4} (ha : a.valid = true) (hR : Rf a.d a.o A1 A2 W) (hp : valP p = true) (ho : rpO a p = true) (h : Tw a p A1 A2 W v V) : rpO a (rpP a p) = true ∧ rpP a (rpP a p) = p := by
  have ha' := ha
  unfold Ln.valid at ha'
  rw [Bool.and_eq_true] at ha'
  obtain ⟨_, ex, vx⟩ := rp_ok ha hp ho
  obtain ⟨s1, s2, s3, _⟩ := hR.r _ (sc 8 V) (pv8 h.xv)
  have key : ad (sc 4 (lr a.d (sc 8 V))) W = sc 64 v := by
    have k := congrArg (lr a.d) h.e
    rw [lr_sc64 ha'.1, lr_ad ha'.1, lr_sc4 ha'.1, lr_lr ha'.1, lr_W hR] at k
    rw [lr_sc8 ha'.1]
    simp only [sc, ad, mi, db, V4.mk.injEq] at k
    obtain ⟨k1, k2, k3, k4⟩ := k
    apply V4.ext' <;> simp only [sc, ad] <;> omega
  rw [key] at s1
  obtain ⟨l1, l2⟩ := valP_low hp
  have e := pv_uniq s1 (pv64 h.pv) s2 s3 l1 l2
  have o : rpO a (rpP a p) = true := by
    rw [ex]
    unfold rpO
    rw [ha, vx, e, redP_low l1 l2, hp]
    rfl
  refine ⟨o, ?_⟩
  have : rpP a (rpP a p) = selP (rpO a (rpP a p)) (redP (rflI (nrm a.d) a.o (rpP a p))) := rfl
  rw [this, o, ex, e, redP_low l1 l2]
  rfl
theorem tw_side {a : Ln} {p : P2} {A1 A2 : Int} {W v V : V4} (ha : a.valid = true) (hR : Rf a.d a.o A1 A2 W) (hp : valP p = true) (ho : rpO a p = true) (h : Tw a p A1 A2 W v V) :
    soV a (rpP a p) = -soV a p ∧ ((rpP a p = p) ↔ soV a p = 0) ∧ (dtA (a.d + 4) V - A1 = -(dtA (a.d + 4) v - A1) ∧ dtB (a.d + 4) V - A2 = -(dtB (a.d + 4) v - A2)) := by
  have ha' := ha
  unfold Ln.valid at ha'
  rw [Bool.and_eq_true] at ha'
  obtain ⟨_, ex, vx⟩ := rp_ok ha hp ho
  obtain ⟨s1, s2⟩ := hR.s (sc 8 v)
  rw [← h.e, (dt_sc _ _ _).1, (dt_sc _ _ _).1] at s1
  rw [← h.e, (dt_sc _ _ _).2, (dt_sc _ _ _).2] at s2
  have d1 : dtA (a.d + 4) V - A1 = -(dtA (a.d + 4) v - A1) := by omega
  have d2 : dtB (a.d + 4) V - A2 = -(dtB (a.d + 4) v - A2) := by omega
  obtain ⟨np, _⟩ := nrm_dot ha'.1 h.pv
  obtain ⟨nx, _⟩ := nrm_dot ha'.1 h.xv
  have t1 : soV a p = sgZ (dtA (a.d + 4) v - A1) (dtB (a.d + 4) v - A2) := by
    unfold soV
    rw [ha, hp]
    exact (np.sub hR.o (by decide) (by decide)).1.v.sg
  have t2 : soV a (rpP a p) = sgZ (dtA (a.d + 4) V - A1) (dtB (a.d + 4) V - A2) := by
    unfold soV
    rw [ex, ha, vx]
    exact (nx.sub hR.o (by decide) (by decide)).1.v.sg
  refine ⟨by rw [t2, t1, d1, d2, sgZ_minus], ⟨fun e => ?_, fun e => ?_⟩, d1, d2⟩
  · rw [ex] at e
    have hx := h.xv
    rw [e] at hx
    have := pv_same hx h.pv
    subst this
    rw [t1, show dtA (a.d + 4) V - A1 = 0 by omega, show dtB (a.d + 4) V - A2 = 0 by omega]
    rfl
  · rw [t1] at e
    obtain ⟨z1, z2⟩ := sgZ_eq_zero e
    have f := hR.f (sc 8 v) (by rw [(dt_sc _ _ _).1]; omega) (by rw [(dt_sc _ _ _).2]; omega)
    rw [← h.e] at f
    have e8 : sc 8 (sc 8 v) = sc 64 v := by apply V4.ext' <;> simp only [sc] <;> omega
    rw [e8] at f
    have hx := pv64 h.xv
    rw [f] at hx
    obtain ⟨l1, l2⟩ := valP_low hp
    rw [ex]
    exact pv_uniq hx (pv64 h.pv) h.low.1 h.low.2 l1 l2
theorem tw_mid {a : Ln} {p : P2} {A1 A2 : Int} {W v V : V4} (ha : a.valid = true) (hR : Rf a.d a.o A1 A2 W) (hp : valP p = true) (ho : rpO a p = true) (h : Tw a p A1 A2 W v V) (hm : moO p (rpP a p) = true) : soV a (moP p (rpP a p)) = 0 := by
  have ha' := ha
  unfold Ln.valid at ha'
  rw [Bool.and_eq_true] at ha'
  obtain ⟨_, ex, vx⟩ := rp_ok ha hp ho
  obtain ⟨_, _, d1, d2⟩ := tw_side ha hR hp ho h
  have em : moP p (rpP a p) = midF p (rflI (nrm a.d) a.o p) := by unfold moP; rw [hm, ex]; rfl
  have vm : valP (midF p (rflI (nrm a.d) a.o p)) = true := by unfold moO at hm; rw [Bool.and_eq_true, ex] at hm; exact hm.2
  obtain ⟨M, hM⟩ := valP_pv vm
  obtain ⟨x1, _⟩ := h.pv.x.add h.xv.x (by decide) (by decide)
  obtain ⟨y1, _⟩ := h.pv.y.add h.xv.y (by decide) (by decide)
  obtain ⟨x2, _⟩ := x1.half (by decide) (by decide)
  obtain ⟨y2, _⟩ := y1.half (by decide) (by decide)
  have hh : PV 11 (midF p (rflI (nrm a.d) a.o p)) (ad v V) 268435456 := ⟨x2, y2⟩
  have e := pv_same (pv_db hM) hh
  have e1 := congrArg (dtA (a.d + 4)) e
  have e2 := congrArg (dtB (a.d + 4)) e
  have n3 : dtA (a.d + 4) (db M) = 2 * dtA (a.d + 4) M := by unfold dtA db; grind
  have n4 : dtB (a.d + 4) (db M) = 2 * dtB (a.d + 4) M := by unfold dtB db; grind
  rw [n3, (dt_ad _ _ _).1] at e1
  rw [n4, (dt_ad _ _ _).2] at e2
  obtain ⟨nm, _⟩ := nrm_dot ha'.1 hM
  unfold soV
  rw [em, ha, vm]
  show sgF (subF (offV a.d (midF p (rflI (nrm a.d) a.o p))) a.o) = 0
  rw [(nm.sub hR.o (by decide) (by decide)).1.v.sg, show dtA (a.d + 4) M - A1 = 0 by omega, show dtB (a.d + 4) M - A2 = 0 by omega]
  rfl
theorem tw_dir {a : Ln} {p q : P2} {A1 A2 : Int} {W v V u U : V4} (ha : a.valid = true) (hR : Rf a.d a.o A1 A2 W) (hp : valP p = true) (hq : valP q = true) (ho : rpO a p = true) (ho2 : rpO a q = true) (h : Tw a p A1 A2 W v V) (g : Tw a q A1 A2 W u U)
    (hd : ¬ dirV p q < 0) : dofV (rpP a p) (rpP a q) = (2 * a.d - dirV p q) % 16 ∧ inB (dirV p q) 0 15 = true := by
  have ha' := ha
  unfold Ln.valid at ha'
  rw [Bool.and_eq_true] at ha'
  obtain ⟨_, ex, vx⟩ := rp_ok ha hp ho
  obtain ⟨_, ez, vz⟩ := rp_ok ha hq ho2
  obtain ⟨v', u', hv', hu', hw, _⟩ := way_of hp hq
  obtain rfl := pv_same hv' h.pv
  obtain rfl := pv_same hu' g.pv
  obtain ⟨V', U', hV', hU', hW, _⟩ := way_of vx vz
  obtain rfl := pv_same hV' h.xv
  obtain rfl := pv_same hU' g.xv
  rcases dirV_spec hw with ⟨k1, k2⟩ | ⟨k1, _⟩
  · refine ⟨?_, k1⟩
    have hb := inB_iff.1 k1
    have hi := dirM_is (m := ⟨a.d, true, zP⟩) ha'.1 k1 k2
    have ed : dirM ⟨a.d, true, zP⟩ (dirV p q) = (2 * a.d - dirV p q) % 16 := by unfold dirM; simp only [cond_true]; omega
    rw [ed] at hi
    change isDir _ (lr a.d _) at hi
    have e0 : (⟨u'.a - v'.a, u'.b - v'.b, u'.c - v'.c, u'.d - v'.d⟩ : V4) = ad u' (mi v') := by apply V4.ext' <;> simp only [ad, mi] <;> omega
    rw [e0, lr_ad ha'.1, lr_mi ha'.1] at hi
    have e1 : ad (lr a.d u') (mi (lr a.d v')) = db ⟨U'.a - V'.a, U'.b - V'.b, U'.c - V'.c, U'.d - V'.d⟩ := by
      have k := h.e
      have l := g.e
      rw [lr_sc8 ha'.1] at k l
      simp only [sc, ad, V4.mk.injEq] at k l
      obtain ⟨a1, a2, a3, a4⟩ := k
      obtain ⟨b1, b2, b3, b4⟩ := l
      clear h g hv' hu' hV' hU' hW hw hR
      apply V4.ext' <;> simp only [ad, mi, db] <;> omega
    rw [e1] at hi
    have := dirV_is hW (inB_iff.2 (by omega)) (isDir_db.1 hi)
    unfold dofV
    rw [ex, ez, vx, vz]
    exact this
  · omega

/-! ### the law -/
def qT24 (a b l : Ln) : Option AV := cond (mtC a b != 0) yes (cond (soV l (mtQ a b) == 0) (some (bv (l.d == (wr (wr (wr (2 * a.d) - b.d) + 16)).tmod 8))) no)
def qT21 (a b l : Ln) : Option AV := cond (!rlO a l) no (cond (!eqLn (rlL a l) b) no (qT24 a b l))
def qT18 (a b : Ln) : Option AV := cond (!rlO a b) yes (qT21 a b (rlL a b))
def qT14 (a b : Ln) (p q x : P2) : Option AV := cond (rpO a q) (cond (decide (dofV p q ≥ 0)) (cond (dofV x (rpP a q) != (wr (wr (wr (2 * a.d) - dofV p q) + 16)).tmod 16) no (qT18 a b)) (qT18 a b)) (qT18 a b)
def qT11 (a b : Ln) (p q x : P2) : Option AV := cond (moO p x) (cond (soV a (moP p x) != 0) no (qT14 a b p q x)) (qT14 a b p q x)
def qT8 (a b : Ln) (p q x : P2) : Option AV := cond (!rpO a x) no (cond (!eqP2 (rpP a x) p) no (cond (soV a x != wr (0 - soV a p)) no (cond (eqP2 x p != (soV a p == 0)) no (qT11 a b p q x))))
def qT4 (a b : Ln) (p q : P2) : Option AV := cond (!rpO a p) (some (bv (!rpO a p))) (qT8 a b p q (rpP a p))
theorem lines_yes {a b : Ln} (ha : a.valid = true) (hb : b.valid = true) : qT18 a b = yes := by
  unfold qT18
  cases ho : rlO a b with
  | false => rfl
  | true =>
    obtain ⟨k1, k2⟩ := rl_back ha hb ho
    have hl := ha
    have hm := hb
    unfold Ln.valid at hl hm
    rw [Bool.and_eq_true] at hl hm
    have b1 := inB_iff.1 hl.1
    have b2 := inB_iff.1 hm.1
    have t24 : qT24 a b (rlL a b) = yes := by
      unfold qT24
      cases hc : (mtC a b != 0) with
      | true => rfl
      | false =>
        have hc' : mtC a b = 0 := by simpa using hc
        have e : (rlL a b).d = rlD a b := by unfold rlL; rw [ho]; rfl
        rw [rl_meet ha hb ho hc', e, wr_in (n := 2 * a.d) (by omega) (by omega), wr_in (n := 2 * a.d - b.d) (by omega) (by omega), wr_in (by omega) (by omega), Int.tmod_eq_emod_of_nonneg (by omega),
          show (2 * a.d - b.d + 16) % 8 = rlD a b by unfold rlD; omega, beq_self_eq_true, beq_self_eq_true]
        rfl
    unfold qT21
    rw [k1, k2, eqLn_self, t24]
    rfl
theorem reflect_yes {a b : Ln} {p q : P2} (ha : a.valid = true) (hb : b.valid = true) (hp : valP p = true) (hq : valP q = true) : qT4 a b p q = yes := by
  unfold qT4
  cases ho : rpO a p with
  | false => rfl
  | true =>
  have hl := ha
  unfold Ln.valid at hl
  rw [Bool.and_eq_true] at hl
  have b1 := inB_iff.1 hl.1
  obtain ⟨A1, A2, W, hR⟩ := rf_ex hl.1 hl.2
  obtain ⟨v, V, h⟩ := tw_of ha hR hp ho
  have t18 := lines_yes ha hb
  have t14 : qT14 a b p q (rpP a p) = yes := by
    unfold qT14
    rw [t18]
    cases h2 : rpO a q with
    | false => rfl
    | true =>
    cases h3 : decide (dofV p q ≥ 0) with
    | false => rfl
    | true =>
      have ed : dofV p q = dirV p q := by unfold dofV; rw [hp, hq]; rfl
      rw [ed] at h3
      have hd : ¬ dirV p q < 0 := by have : dirV p q ≥ 0 := by simpa using h3
                                     omega
      obtain ⟨u, U, g⟩ := tw_of ha hR hq h2
      obtain ⟨k1, k2⟩ := tw_dir ha hR hp hq ho h2 h g hd
      have b2 := inB_iff.1 k2
      rw [k1, ed, wr_in (n := 2 * a.d) (by omega) (by omega), wr_in (n := 2 * a.d - dirV p q) (by omega) (by omega), wr_in (by omega) (by omega), Int.tmod_eq_emod_of_nonneg (by omega),
        show (2 * a.d - dirV p q + 16) % 16 = (2 * a.d - dirV p q) % 16 by omega, bne_self_eq_false]
      rfl
  have t11 : qT11 a b p q (rpP a p) = yes := by
    unfold qT11
    rw [t14]
    cases hm : moO p (rpP a p) with
    | false => rfl
    | true =>
      rw [tw_mid ha hR hp ho h hm]
      rfl
  obtain ⟨k1, k2⟩ := tw_back ha hR hp ho h
  obtain ⟨s1, s2, _⟩ := tw_side ha hR hp ho h
  have bd := so_bd a p
  have e4 : (eqP2 (rpP a p) p != (soV a p == 0)) = false := by
    cases he : eqP2 (rpP a p) p with
    | true =>
      rw [s2.1 (eqP2_eq he)]
      rfl
    | false =>
      cases hz : (soV a p == 0) with
      | false => rfl
      | true =>
        have hz' : soV a p = 0 := by simpa using hz
        rw [s2.2 hz', eqP2_self] at he
        cases he
  unfold qT8
  rw [k1, k2, eqP2_self, s1, wr_neg bd, e4, t11, bne_self_eq_false]
  rfl

/-! ### the contract of the reflection of any point that is a foot -/
def ftB (p : P2) : Bool := decide ((0 ≤ p.x.k ∧ p.x.k ≤ 13) ∧ (0 ≤ p.y.k ∧ p.y.k ≤ 13)) && decide (((p.x.a * 2 ^ (13 - p.x.k.toNat)).natAbs ≤ 1073741824 ∧ (p.x.b * 2 ^ (13 - p.x.k.toNat)).natAbs ≤ 1073741824) ∧
  ((p.y.a * 2 ^ (13 - p.y.k.toNat)).natAbs ≤ 1073741824 ∧ (p.y.b * 2 ^ (13 - p.y.k.toNat)).natAbs ≤ 1073741824))
theorem ftB_pv {p : P2} (h : ftB p = true) : ∃ v, PV 13 p v 1073741824 := by
  unfold ftB at h
  simp only [Bool.and_eq_true, decide_eq_true_eq] at h
  obtain ⟨⟨⟨h1, h2⟩, h3, h4⟩, ⟨h5, h6⟩, h7, h8⟩ := h
  exact ⟨⟨_, _, _, _⟩, ⟨⟨h1, h2, rfl, rfl⟩, h5, h6⟩, ⟨⟨h3, h4, rfl, rfl⟩, h7, h8⟩⟩
theorem pv_ftB {p : P2} {v : V4} (h : PV 13 p v 1073741824) : ftB p = true := by
  obtain ⟨⟨vx, ax, bx⟩, ⟨vy, ay, by_⟩⟩ := h
  rw [vx.a] at ax
  rw [vx.b] at bx
  rw [vy.a] at ay
  rw [vy.b] at by_
  unfold ftB
  simp only [Bool.and_eq_true, decide_eq_true_eq]
  exact ⟨⟨⟨vx.k0, vx.kS⟩, vy.k0, vy.kS⟩, ⟨ax, bx⟩, ay, by_⟩
theorem rp13 {d : Int} {off : N3} {p : P2} (hd : inB d 0 7 = true) (ho : validB off = true) (hp : ftB p = true) : Rp (nrm d) p off := by
  obtain ⟨v, hv⟩ := ftB_pv hp
  obtain ⟨A1, A2, W, hR⟩ := rf_ex hd ho
  exact (hR.r p v hv).2.2.2
/-- A reflected line: no step wraps. -/
theorem rl_ok {a b : Ln} (ha : a.valid = true) (hb : b.valid = true) : ftB (footF (nrm b.d) b.o) = true ∧ (inB (wr (rlD a b + 4)) 0 15 && pkD (nrm (rlD a b)) (rflI (nrm a.d) a.o (footF (nrm b.d) b.o))) = true ∧ and64 (wr (wr (2 * a.d) - b.d)) 7 = rlD a b := by
  unfold Ln.valid at ha hb
  rw [Bool.and_eq_true] at ha hb
  obtain ⟨A1, A2, W, hR⟩ := rf_ex ha.1 ha.2
  obtain ⟨B1, B2, f, hf⟩ := foot13 hb.1 hb.2
  obtain ⟨_, _, k, _⟩ := rl_val hR hf
  have b1 := inB_iff.1 ha.1
  have b2 := inB_iff.1 hb.1
  refine ⟨pv_ftB hf.pv, ?_, ?_⟩
  · rw [nrm_in (rlD_in a b), k]
    rfl
  · rw [and64_7, wr_in (n := 2 * a.d) (by omega) (by omega), wr_in (by omega) (by omega)]
    rfl
end Go.Ev
