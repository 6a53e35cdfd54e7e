/- The direction from a point to another one, as the program finds it. -/
import Derived.Test.YtooikeeckoflpaaDoorDirA
set_option linter.unusedVariables false
set_option linter.unusedSimpArgs false
namespace Go.Ev

def dirF : Nat → Int → P2 → Int
  | 0, _, _ => -1
  | n + 1, d, w => cond (eqN (crsF (vecP d) w) z3) (cond (decide (sgF (dotF (vecP d) w) > 0)) d (dirF n (d + 1) w)) (dirF n (d + 1) w)
theorem dirF_succ (n : Nat) (d : Int) (w : P2) : dirF (n + 1) d w = cond (eqN (crsF (vecP d) w) z3) (cond (decide (sgF (dotF (vecP d) w) > 0)) d (dirF n (d + 1) w)) (dirF n (d + 1) w) := rfl
def dirV (p q : P2) : Int := dirF 16 0 (subP q p)
theorem eqN_iff {x : N3} : eqN x z3 = true ↔ x.a = 0 ∧ x.b = 0 ∧ x.k = 0 := by simp [eqN, z3]
theorem one_abs {c a : Int} {M : Nat} (hc : c.natAbs ≤ 1) (ha : a.natAbs ≤ M) : (c * a).natAbs ≤ M := by
  have := abs_mul_le hc ha
  omega
theorem sum_bd {a g c h : Int} (h1 : a.natAbs ≤ 268435456) (h2 : g.natAbs ≤ 268435456) (h3 : c.natAbs ≤ 268435456) (h4 : h.natAbs ≤ 268435456) (hz : g = 0 ∨ h = 0) : (a + 2 * g + (c + 2 * h)).natAbs ≤ 1073741824 := by
  rcases hz with rfl | rfl <;> omega
theorem sum_bd2 {a g c h : Int} (h1 : a.natAbs ≤ 268435456) (h2 : g.natAbs ≤ 268435456) (h3 : c.natAbs ≤ 268435456) (h4 : h.natAbs ≤ 268435456) : (a + g + (c + h)).natAbs ≤ 1073741824 := by omega
theorem sB_abs {x : Int} (h : x.natAbs ≤ 1073741824) : sB x = true := sB_iff.2 (by omega)
structure Way (w : P2) (v : V4) : Prop where
  pv : PV 10 w v 268435456
theorem way_of {p q : P2} (hp : valP p = true) (hq : valP q = true) : ∃ v u, PV 10 p v 134217728 ∧ PV 10 q u 134217728 ∧ Way (subP q p) ⟨u.a - v.a, u.b - v.b, u.c - v.c, u.d - v.d⟩ ∧ pkP q p = true := by
  obtain ⟨v, hv⟩ := valP_pv hp
  obtain ⟨u, hu⟩ := valP_pv hq
  obtain ⟨a1, _⟩ := hu.x.sub hv.x (by decide) (by decide)
  obtain ⟨b1, _⟩ := hu.y.sub hv.y (by decide) (by decide)
  refine ⟨v, u, hv, hu, ⟨⟨a1, b1⟩⟩, ?_⟩
  unfold pkP
  rw [hu.x.pk hv.x (by decide), hu.y.pk hv.y (by decide)]
  rfl
theorem way_ok {d : Int} {w : P2} {v : V4} (hd : inB d 0 15 = true) (h : Way w v) :
    pkC (vecP d) w = true ∧ pkD (vecP d) w = true ∧ (sB (dotF (vecP d) w).a && sB (dotF (vecP d) w).b) = true ∧
    (eqN (crsF (vecP d) w) z3 = true ↔ crA d v = 0 ∧ crB d v = 0) ∧ sgF (dotF (vecP d) w) = sgZ (dtA d v) (dtB d v) := by
  obtain ⟨eq, h1, h2, h3, h4, h5⟩ := vv_all hd
  have hx := h.pv.x
  have hy := h.pv.y
  unfold crA crB dtA dtB
  generalize vC1 d = c1 at *
  generalize vE1 d = e1 at *
  generalize vC2 d = c2 at *
  generalize vE2 d = e2 at *
  rw [eq]
  obtain ⟨m1, _⟩ := VB.vmul (Val.mk0 c1 e1) h1 h2 hx (by decide) (by decide)
  obtain ⟨m2, _⟩ := VB.vmul (Val.mk0 c2 e2) h3 h4 hy (by decide) (by decide)
  obtain ⟨m3, _⟩ := VB.vmul (Val.mk0 c1 e1) h1 h2 hy (by decide) (by decide)
  obtain ⟨m4, _⟩ := VB.vmul (Val.mk0 c2 e2) h3 h4 hx (by decide) (by decide)
  obtain ⟨dv, dl⟩ := m1.add m2 (by decide) (by decide)
  obtain ⟨cv, cl⟩ := m3.sub m4 (by decide) (by decide)
  have k1 := (pk_val (Val.mk0 c1 e1) hx.v (by decide) (by decide)).2
  have k2 := (pk_val (Val.mk0 c2 e2) hy.v (by decide) (by decide)).2
  have k3 := (pk_val (Val.mk0 c1 e1) hy.v (by decide) (by decide)).2
  have k4 := (pk_val (Val.mk0 c2 e2) hx.v (by decide) (by decide)).2
  refine ⟨?_, ?_, ?_, ?_, dv.v.sg⟩
  · unfold pkC
    rw [k3, k4, m3.pk m4 (by decide)]
    rfl
  · unfold pkD
    rw [k1, k2, m1.pk m2 (by decide)]
    rfl
  · obtain ⟨b1, b2⟩ := dv.v.bd
    have a1 := one_abs h1 hx.a
    have a2' := one_abs h2 hx.b
    have a3 := one_abs h3 hy.a
    have a4' := one_abs h4 hy.b
    have a5 := one_abs h1 hx.b
    have a6 := one_abs h2 hx.a
    have a7 := one_abs h3 hy.b
    have a8 := one_abs h4 hy.a
    have f1 : 2 * e1 * v.b = 2 * (e1 * v.b) := by grind
    have f2 : 2 * e2 * v.d = 2 * (e2 * v.d) := by grind
    rw [f1, f2] at b1
    have hz : e1 * v.b = 0 ∨ e2 * v.d = 0 := by
      rcases h5 with h5 | h5
      · left; rw [h5]; simp
      · right; rw [h5]; simp
    have q1 := Nat.le_trans b1 (sum_bd a1 a2' a3 a4' hz)
    have q2 := Nat.le_trans b2 (sum_bd2 a5 a6 a7 a8)
    show (sB (addF (mulF ⟨c1, e1, 0⟩ w.x) (mulF ⟨c2, e2, 0⟩ w.y)).a && sB (addF (mulF ⟨c1, e1, 0⟩ w.x) (mulF ⟨c2, e2, 0⟩ w.y)).b) = true
    rw [sB_abs q1, sB_abs q2]
    rfl
  · rw [eqN_iff]
    show (subF (mulF ⟨c1, e1, 0⟩ w.y) (mulF ⟨c2, e2, 0⟩ w.x)).a = 0 ∧ (subF (mulF ⟨c1, e1, 0⟩ w.y) (mulF ⟨c2, e2, 0⟩ w.x)).b = 0 ∧ (subF (mulF ⟨c1, e1, 0⟩ w.y) (mulF ⟨c2, e2, 0⟩ w.x)).k = 0 ↔ _
    constructor
    · rintro ⟨z1, z2, _⟩
      have e1 := cv.v.a
      have e2 := cv.v.b
      rw [z1, Int.zero_mul] at e1
      rw [z2, Int.zero_mul] at e2
      exact ⟨e1, e2⟩
    · rintro ⟨z1, z2⟩
      rw [z1, z2] at cv
      have hz : Val 10 z3 0 0 := (vb_zero (M := 0)).v
      have := cv.v.uniq hz cl (fun h => by have h1 : (0 : Int) > 0 := h.1; omega)
      rw [this]
      exact ⟨rfl, rfl, rfl⟩
theorem dirF_spec {w : P2} {v : V4} (h : Way w v) : ∀ (n : Nat) (d : Int), 0 ≤ d → d + n = 16 → (∀ e, 0 ≤ e → e < d → ¬ isDir e v) →
    (inB (dirF n d w) 0 15 = true ∧ isDir (dirF n d w) v) ∨ (dirF n d w = -1 ∧ ∀ e, inB e 0 15 = true → ¬ isDir e v)
  | 0, d, h0, h1, hno => .inr ⟨rfl, fun e he => hno e (inB_iff.1 he).1 (by have := (inB_iff.1 he).2; omega)⟩
  | n + 1, d, h0, h1, hno => by
    have hd : inB d 0 15 = true := inB_iff.2 (by omega)
    obtain ⟨_, _, _, k1, k2⟩ := way_ok hd h
    unfold dirF
    by_cases hh : isDir d v
    · rw [k1.2 ⟨hh.1, hh.2.1⟩, k2, show decide (sgZ (dtA d v) (dtB d v) > 0) = true by simpa using hh.2.2]
      exact .inl ⟨hd, hh⟩
    · have ih := dirF_spec h n (d + 1) (by omega) (by omega) (fun e he he' => by
        by_cases e1 : e = d
        · subst e1; exact hh
        · exact hno e he (by omega))
      cases c1 : eqN (crsF (vecP d) w) z3 with
      | false => exact ih
      | true =>
        obtain ⟨z1, z2⟩ := k1.1 c1
        have hs : ¬ sgZ (dtA d v) (dtB d v) > 0 := fun hs => hh ⟨z1, z2, hs⟩
        rw [k2, show decide (sgZ (dtA d v) (dtB d v) > 0) = false by simpa using hs]
        exact ih
theorem dirV_spec {p q : P2} {v : V4} (h : Way (subP q p) v) : (inB (dirV p q) 0 15 = true ∧ isDir (dirV p q) v) ∨ (dirV p q = -1 ∧ ∀ e, inB e 0 15 = true → ¬ isDir e v) :=
  dirF_spec h 16 0 (by decide) (by decide) fun e he he' => by omega
theorem dirV_is {p q : P2} {v : V4} {e : Int} (h : Way (subP q p) v) (he : inB e 0 15 = true) (hi : isDir e v) : dirV p q = e := by
  rcases dirV_spec h with ⟨k1, k2⟩ | ⟨_, k2⟩
  · exact isDir_uniq k1 he k2 hi
  · exact absurd hi (k2 e he)
theorem dirV_no {p q : P2} {v : V4} (h : Way (subP q p) v) (hi : ∀ e, inB e 0 15 = true → ¬ isDir e v) : dirV p q = -1 := by
  rcases dirV_spec h with ⟨k1, k2⟩ | ⟨k1, _⟩
  · exact absurd k2 (hi _ k1)
  · exact k1
/-- There and back. -/
theorem dir_back {p q : P2} (hp : valP p = true) (hq : valP q = true) : (dirV p q = -1 → dirV q p = -1) ∧ (inB (dirV p q) 0 15 = true → dirV q p = (dirV p q + 8) % 16) ∧ (inB (dirV p q) 0 15 = true ∨ dirV p q = -1) := by
  obtain ⟨v, u, hv, hu, hw, _⟩ := way_of hp hq
  obtain ⟨a1, _⟩ := hv.x.sub hu.x (by decide) (by decide)
  obtain ⟨b1, _⟩ := hv.y.sub hu.y (by decide) (by decide)
  have hw' : Way (subP p q) (mi ⟨u.a - v.a, u.b - v.b, u.c - v.c, u.d - v.d⟩) := by
    refine ⟨⟨?_, ?_⟩⟩
    · simp only [mi]
      rw [show -(u.a - v.a) = v.a - u.a by omega, show -(u.b - v.b) = v.b - u.b by omega]
      exact a1
    · simp only [mi]
      rw [show -(u.c - v.c) = v.c - u.c by omega, show -(u.d - v.d) = v.d - u.d by omega]
      exact b1
  rcases dirV_spec hw with ⟨k1, k2⟩ | ⟨k1, k2⟩
  · have hi := (isDir_flip k1 _).2 k2
    have hb := inB_iff.1 k1
    refine ⟨fun h => by rw [h] at hb; omega, fun _ => dirV_is hw' (inB_iff.2 (by omega)) hi, .inl k1⟩
  · refine ⟨fun _ => dirV_no hw' fun e he hi => ?_, fun h => (by rw [k1] at h; cases h), .inr k1⟩
    have hb := inB_iff.1 he
    have he' : inB ((e + 8) % 16) 0 15 = true := inB_iff.2 (by omega)
    refine k2 _ he' ?_
    have := (isDir_flip he (mi ⟨u.a - v.a, u.b - v.b, u.c - v.c, u.d - v.d⟩)).2 hi
    rw [mi_mi] at this
    exact this
end Go.Ev
