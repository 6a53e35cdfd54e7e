/- Directions: which of the sixteen a vector has; it has at most one. -/
import Derived.Test.YtooikeeckoflpaaDoorSrcD
set_option linter.unusedVariables false
set_option linter.unusedSimpArgs false
namespace Go.Ev

/-- A direction's vector in numbers. -/
structure Vv (n : P2) (c1 e1 c2 e2 : Int) : Prop where
  eq : n = ⟨⟨c1, e1, 0⟩, ⟨c2, e2, 0⟩⟩
  h1 : c1.natAbs ≤ 1
  h2 : e1.natAbs ≤ 1
  h3 : c2.natAbs ≤ 1
  h4 : e2.natAbs ≤ 1
  h5 : e1 = 0 ∨ e2 = 0
def vC1 (d : Int) : Int := [1, 1, 1, -1, 0, 1, -1, -1, -1, -1, -1, 1, 0, -1, 1, 1].getD d.toNat 0
def vE1 (d : Int) : Int := [0, 0, 0, 1, 0, -1, 0, 0, 0, 0, 0, -1, 0, 1, 0, 0].getD d.toNat 0
def vC2 (d : Int) : Int := [0, -1, 1, 1, 1, 1, 1, -1, 0, 1, -1, -1, -1, -1, -1, 1].getD d.toNat 0
def vE2 (d : Int) : Int := [0, 1, 0, 0, 0, 0, 0, 1, 0, -1, 0, 0, 0, 0, 0, -1].getD d.toNat 0
theorem d16 {d : Int} (h : inB d 0 15 = true) : d = 0 ∨ d = 1 ∨ d = 2 ∨ d = 3 ∨ d = 4 ∨ d = 5 ∨ d = 6 ∨ d = 7 ∨ d = 8 ∨ d = 9 ∨ d = 10 ∨ d = 11 ∨ d = 12 ∨ d = 13 ∨ d = 14 ∨ d = 15 := by
  have := inB_iff.1 h
  omega
theorem vv_all {d : Int} (h : inB d 0 15 = true) : Vv (vecP d) (vC1 d) (vE1 d) (vC2 d) (vE2 d) := by
  rcases d16 h with rfl | rfl | rfl | rfl | rfl | rfl | rfl | rfl | rfl | rfl | rfl | rfl | rfl | rfl | rfl | rfl
  all_goals exact ⟨by kernel_rfl, by decide, by decide, by decide, by decide, by decide⟩
def dtA (d : Int) (w : V4) : Int := vC1 d * w.a + 2 * vE1 d * w.b + (vC2 d * w.c + 2 * vE2 d * w.d)
def dtB (d : Int) (w : V4) : Int := vC1 d * w.b + vE1 d * w.a + (vC2 d * w.d + vE2 d * w.c)
def crA (d : Int) (w : V4) : Int := vC1 d * w.c + 2 * vE1 d * w.d - (vC2 d * w.a + 2 * vE2 d * w.b)
def crB (d : Int) (w : V4) : Int := vC1 d * w.d + vE1 d * w.c - (vC2 d * w.b + vE2 d * w.a)
/-- The vector w has the direction d. -/
def isDir (d : Int) (w : V4) : Prop := crA d w = 0 ∧ crB d w = 0 ∧ sgZ (dtA d w) (dtB d w) > 0
theorem vC1_0 : vC1 0 = 1 := rfl
theorem vE1_0 : vE1 0 = 0 := rfl
theorem vC2_0 : vC2 0 = 0 := rfl
theorem vE2_0 : vE2 0 = 0 := rfl
theorem vC1_1 : vC1 1 = 1 := rfl
theorem vE1_1 : vE1 1 = 0 := rfl
theorem vC2_1 : vC2 1 = -1 := rfl
theorem vE2_1 : vE2 1 = 1 := rfl
theorem vC1_2 : vC1 2 = 1 := rfl
theorem vE1_2 : vE1 2 = 0 := rfl
theorem vC2_2 : vC2 2 = 1 := rfl
theorem vE2_2 : vE2 2 = 0 := rfl
theorem vC1_3 : vC1 3 = -1 := rfl
theorem vE1_3 : vE1 3 = 1 := rfl
theorem vC2_3 : vC2 3 = 1 := rfl
theorem vE2_3 : vE2 3 = 0 := rfl
theorem vC1_4 : vC1 4 = 0 := rfl
theorem vE1_4 : vE1 4 = 0 := rfl
theorem vC2_4 : vC2 4 = 1 := rfl
theorem vE2_4 : vE2 4 = 0 := rfl
theorem vC1_5 : vC1 5 = 1 := rfl
theorem vE1_5 : vE1 5 = -1 := rfl
theorem vC2_5 : vC2 5 = 1 := rfl
theorem vE2_5 : vE2 5 = 0 := rfl
theorem vC1_6 : vC1 6 = -1 := rfl
theorem vE1_6 : vE1 6 = 0 := rfl
theorem vC2_6 : vC2 6 = 1 := rfl
theorem vE2_6 : vE2 6 = 0 := rfl
theorem vC1_7 : vC1 7 = -1 := rfl
theorem vE1_7 : vE1 7 = 0 := rfl
theorem vC2_7 : vC2 7 = -1 := rfl
theorem vE2_7 : vE2 7 = 1 := rfl
theorem cr_zero {d e : Int} {w : V4} (hd : inB d 0 7 = true) (he : inB e 0 7 = true) (hne : d ≠ e) (h1 : crA d w = 0) (h2 : crB d w = 0) (g1 : crA e w = 0) (g2 : crB e w = 0) : w = ⟨0, 0, 0, 0⟩ := by
  have key : w.a = 0 ∧ w.b = 0 ∧ w.c = 0 ∧ w.d = 0 := by
    unfold crA at h1 g1
    unfold crB at h2 g2
    rcases t8 hd with rfl | rfl | rfl | rfl | rfl | rfl | rfl | rfl <;> simp only [vC1_0, vE1_0, vC2_0, vE2_0, vC1_1, vE1_1, vC2_1, vE2_1, vC1_2, vE1_2, vC2_2, vE2_2, vC1_3, vE1_3, vC2_3, vE2_3, vC1_4, vE1_4, vC2_4, vE2_4, vC1_5, vE1_5, vC2_5, vE2_5, vC1_6, vE1_6, vC2_6, vE2_6, vC1_7, vE1_7, vC2_7, vE2_7] at h1 h2 <;>
      (rcases t8 he with rfl | rfl | rfl | rfl | rfl | rfl | rfl | rfl <;> first | exact absurd rfl hne | (simp only [vC1_0, vE1_0, vC2_0, vE2_0, vC1_1, vE1_1, vC2_1, vE2_1, vC1_2, vE1_2, vC2_2, vE2_2, vC1_3, vE1_3, vC2_3, vE2_3, vC1_4, vE1_4, vC2_4, vE2_4, vC1_5, vE1_5, vC2_5, vE2_5, vC1_6, vE1_6, vC2_6, vE2_6, vC1_7, vE1_7, vC2_7, vE2_7] at g1 g2; omega))
  obtain ⟨k1, k2, k3, k4⟩ := key
  exact V4.ext' k1 k2 k3 k4
theorem v_opp {d : Int} (hd : inB d 0 7 = true) : vC1 (d + 8) = -vC1 d ∧ vE1 (d + 8) = -vE1 d ∧ vC2 (d + 8) = -vC2 d ∧ vE2 (d + 8) = -vE2 d := by
  rcases t8 hd with rfl | rfl | rfl | rfl | rfl | rfl | rfl | rfl <;> decide
theorem opp_all {d : Int} (hd : inB d 0 7 = true) (w : V4) : crA (d + 8) w = -crA d w ∧ crB (d + 8) w = -crB d w ∧ dtA (d + 8) w = -dtA d w ∧ dtB (d + 8) w = -dtB d w := by
  obtain ⟨h1, h2, h3, h4⟩ := v_opp hd
  unfold crA crB dtA dtB
  rw [h1, h2, h3, h4]
  refine ⟨?_, ?_, ?_, ?_⟩ <;> grind
theorem cr_mi (d : Int) (w : V4) : crA d (mi w) = -crA d w ∧ crB d (mi w) = -crB d w ∧ dtA d (mi w) = -dtA d w ∧ dtB d (mi w) = -dtB d w := by
  unfold crA crB dtA dtB mi
  refine ⟨?_, ?_, ?_, ?_⟩ <;> grind
theorem isDir_opp {d : Int} (hd : inB d 0 7 = true) (w : V4) : isDir (d + 8) w ↔ isDir d (mi w) := by
  obtain ⟨a1, a2, a3, a4⟩ := opp_all hd w
  obtain ⟨b1, b2, b3, b4⟩ := cr_mi d w
  unfold isDir
  rw [a1, a2, a3, a4, b1, b2, b3, b4]
theorem mi_mi (w : V4) : mi (mi w) = w := by simp [mi]
theorem isDir_flip {d : Int} (hd : inB d 0 15 = true) (w : V4) : isDir ((d + 8) % 16) (mi w) ↔ isDir d w := by
  have := inB_iff.1 hd
  by_cases h : d < 8
  · have hd7 : inB d 0 7 = true := inB_iff.2 (by omega)
    rw [show (d + 8) % 16 = d + 8 by omega, isDir_opp hd7, mi_mi]
  · have hd7 : inB (d - 8) 0 7 = true := inB_iff.2 (by omega)
    have := isDir_opp hd7 w
    rw [show d - 8 + 8 = d by omega] at this
    rw [show (d + 8) % 16 = d - 8 by omega, this]
theorem isDir_ne {d : Int} {w : V4} (h : isDir d w) : w ≠ ⟨0, 0, 0, 0⟩ := fun e => by
  have h3 := h.2.2
  rw [e] at h3
  unfold dtA dtB at h3
  simp at h3
  rw [sgZ_zero] at h3
  omega
theorem isDir_uniq7 {d e : Int} {w : V4} (hd : inB d 0 7 = true) (he : inB e 0 7 = true) (h : isDir d w) (g : isDir e w ∨ isDir (e + 8) w) : d = e ∧ isDir e w := by
  have hz : crA e w = 0 ∧ crB e w = 0 := by
    rcases g with g | g
    · exact ⟨g.1, g.2.1⟩
    · obtain ⟨a1, a2, _⟩ := opp_all he w
      have g1 := g.1
      have g2 := g.2.1
      omega
  have e1 : d = e := by
    rcases Classical.em (d = e) with h' | h'
    · exact h'
    · exact absurd (cr_zero hd he h' h.1 h.2.1 hz.1 hz.2) (isDir_ne h)
  subst e1
  exact ⟨rfl, h⟩
theorem isDir_uniq {d e : Int} {w : V4} (hd : inB d 0 15 = true) (he : inB e 0 15 = true) (h : isDir d w) (g : isDir e w) : d = e := by
  have hd' := inB_iff.1 hd
  have he' := inB_iff.1 he
  have no : ∀ {d : Int} {w : V4}, inB d 0 7 = true → isDir d w → isDir (d + 8) w → False := fun {d w} hd h g => by
    obtain ⟨_, _, a3, a4⟩ := opp_all hd w
    have h3 := h.2.2
    have g3 := g.2.2
    rw [a3, a4, sgZ_minus] at g3
    omega
  by_cases c1 : d < 8
  · have hd7 : inB d 0 7 = true := inB_iff.2 (by omega)
    by_cases c2 : e < 8
    · exact (isDir_uniq7 hd7 (inB_iff.2 (by omega)) h (.inl g)).1
    · have he7 : inB (e - 8) 0 7 = true := inB_iff.2 (by omega)
      have g' : isDir (e - 8 + 8) w := by rw [show e - 8 + 8 = e by omega]; exact g
      obtain ⟨_, k⟩ := isDir_uniq7 hd7 he7 h (.inr g')
      exact (no he7 k g').elim
  · have hd7 : inB (d - 8) 0 7 = true := inB_iff.2 (by omega)
    have h' : isDir (d - 8 + 8) w := by rw [show d - 8 + 8 = d by omega]; exact h
    by_cases c2 : e < 8
    · have he7 : inB e 0 7 = true := inB_iff.2 (by omega)
      obtain ⟨_, k⟩ := isDir_uniq7 he7 hd7 g (.inr h')
      exact (no hd7 k h').elim
    · have he7 : inB (e - 8) 0 7 = true := inB_iff.2 (by omega)
      have g' : isDir (e - 8 + 8) w := by rw [show e - 8 + 8 = e by omega]; exact g
      have h2 := (isDir_opp hd7 w).1 h'
      have g2 := (isDir_opp he7 w).1 g'
      have := (isDir_uniq7 hd7 he7 h2 (.inl g2)).1
      omega
end Go.Ev
