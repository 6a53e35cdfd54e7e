/- The laws of signs and of division, for valid numbers. -/
import Derived.Test.YtooikeeckoflpaaDoorSgnB
set_option linter.unusedVariables false
set_option linter.unusedSimpArgs false
namespace Go.Ev

def cmV (x y : N3) : Int := cond (validB x && validB y) (sgF (subF x y)) 0
def sgV (x : N3) : Int := cond (validB x) (sgF x) 0
def flV (x : N3) : Int := cond (validB x) (flF x) 0
def eqN (x y : N3) : Bool := x.a == y.a && (x.b == y.b && (x.k == y.k && true))
def no : Option AV := some (bv false)
def lowN (x : N3) : N3 := ⟨flV x, 0, 0⟩
def highN (x : N3) : N3 := ⟨wr (flV x + 1), 0, 0⟩
def nsT6 (x : N3) : Option AV := cond (!(inB 0 0 62 && chkB (highN x))) (some (bv true)) (some (bv (decide (cmV (sel (inB 0 0 62) (chk (highN x))) x > 0))))
def nsT5 (x : N3) : Option AV := cond (!(inB 0 0 62 && chkB (lowN x))) (nsT6 x) (cond (decide (cmV (sel (inB 0 0 62) (chk (lowN x))) x ≤ 0)) (nsT6 x) no)
def opn (x y m : N3) : N3 := sel (validB x && validB y) (chk m)
def opb (x y m : N3) : Bool := (validB x && validB y) && chkB m
def nsT4 (x y z : N3) : Option AV := cond (opb x z (addF x z)) (cond (opb y z (addF y z)) (cond (cmV (opn x z (addF x z)) (opn y z (addF y z)) != cmV x y) no (nsT5 x)) (nsT5 x)) (nsT5 x)
def nsT3 (x y z : N3) : Option AV := cond (opb x y (subF x y)) (cond (sgV (opn x y (subF x y)) != cmV x y) no (nsT4 x y z)) (nsT4 x y z)
def nsT2 (x y z : N3) : Option AV := cond (cmV x y != wr (0 - cmV y x)) no (cond (cmV x x != 0) no (cond (cmV x y == 0) (cond (!eqN x y) no (nsT3 x y z)) (nsT3 x y z)))
def nsT1 (x y z : N3) : Option AV := cond (opb x y (mulF x y)) (cond (sgV (opn x y (mulF x y)) != wr (sgV x * sgV y)) no (nsT2 x y z)) (nsT2 x y z)

theorem sgZ_bd (a b : Int) : -1 ≤ sgZ a b ∧ sgZ a b ≤ 1 := by
  have hs : ∀ c : Int, -1 ≤ c.sign ∧ c.sign ≤ 1 := fun c => by
    rcases Int.lt_trichotomy c 0 with h | h | h
    · rw [Int.sign_eq_neg_one_of_neg h]; decide
    · subst h; decide
    · rw [Int.sign_eq_one_of_pos h]; decide
  rcases sgZ_cases a b with ⟨_, h⟩ | ⟨_, h⟩ | ⟨_, _, h⟩
  · rw [h]; exact hs a
  · rw [h]; exact hs b
  · rw [h]; decide
theorem low_chk {m : N3} (hl : lowB m) (h : chkB m = true) : chk m = m ∧ validB m = true := by
  have hr : red m = m := red_fix hl
  unfold chkB at h
  rw [hr] at h
  refine ⟨?_, h⟩
  unfold chk chkB
  rw [hr, h]
  rfl
theorem opb_ok {x y m : N3} (hl : lowB m) (h : opb x y m = true) : opn x y m = m ∧ validB m = true := by
  unfold opb at h
  rw [Bool.and_eq_true] at h
  obtain ⟨h1, h2⟩ := low_chk hl h.2
  unfold opn
  rw [h.1, h1]
  exact ⟨rfl, h2⟩
theorem sub_val {x y : N3} {A B C D : Int} (v : Val 10 x A B) (a1 : A.natAbs ≤ 134217728) (a2 : B.natAbs ≤ 134217728) (w : Val 10 y C D) (b1 : C.natAbs ≤ 134217728) (b2 : D.natAbs ≤ 134217728) :
    Val 10 (subF x y) (A - C) (B - D) ∧ lowB (subF x y) := v.sub w (by decide) (by omega) (by omega) (by omega) (by omega)
theorem mul_bdN {a b : Int} (h : a.natAbs ≤ 134217728) (g : b.natAbs ≤ 134217728) : (a * b).natAbs ≤ 18014398509481984 := by
  rw [Int.natAbs_mul]
  exact Nat.mul_le_mul h g
theorem mul_val {x y : N3} {A B C D : Int} (v : Val 10 x A B) (a1 : A.natAbs ≤ 134217728) (a2 : B.natAbs ≤ 134217728) (w : Val 10 y C D) (b1 : C.natAbs ≤ 134217728) (b2 : D.natAbs ≤ 134217728) :
    Val 20 (mulF x y) (A * C + 2 * B * D) (A * D + B * C) ∧ lowB (mulF x y) := by
  have h1 := mul_bdN a1 b1
  have h2 := mul_bdN a2 b2
  have h3 := mul_bdN a1 b2
  have h4 := mul_bdN a2 b1
  have e : 2 * B * D = 2 * (B * D) := by grind
  exact v.mul w (by decide) (by rw [e]; omega) (by omega)

theorem fl_bd {x : N3} (hx : validB x = true) : -2000000 ≤ flF x ∧ flF x ≤ 2000000 := by
  obtain ⟨ha, hb, hk, _⟩ := validB_iff.1 hx
  obtain ⟨⟨r0, r1⟩, _⟩ := rt_ok hb.1 hb.2
  have hn : -1048577 ≤ flN x.b ∧ flN x.b ≤ 1048576 := by
    unfold flN
    cases decide (x.b < 0) with
    | true => simp only [cond_true]; omega
    | false => simp only [cond_false]; omega
  have hp : (0 : Int) < 2 ^ x.k.toNat := Int.pow_pos (by decide)
  have e : flF x = (x.a + flN x.b) / 2 ^ x.k.toNat := Int.fdiv_eq_ediv_of_nonneg _ (by omega)
  rw [e]
  generalize (2 : Int) ^ x.k.toNat = p at *
  have ht : -2000000 ≤ x.a + flN x.b ∧ x.a + flN x.b ≤ 2000000 := by omega
  generalize x.a + flN x.b = t at *
  refine ⟨Int.le_ediv_of_mul_le hp ?_, Int.le_of_lt_add_one (Int.ediv_lt_of_lt_mul hp ?_)⟩
  · omega
  · omega
theorem ns_floor {x : N3} (hx : validB x = true) : nsT5 x = some (bv true) := by
  have hf : flV x = flF x := by unfold flV; rw [hx]; rfl
  obtain ⟨l1, l2⟩ := floor_law hx
  have hfb := fl_bd hx
  have fit : ∀ f : Int, (inB 0 0 62 && chkB ⟨f, 0, 0⟩) = true → -131073 ≤ f ∧ f ≤ 131073 ∧ sel (inB 0 0 62) (chk ⟨f, 0, 0⟩) = ⟨f, 0, 0⟩ ∧ validB ⟨f, 0, 0⟩ = true := fun f h => by
    rw [Bool.and_eq_true] at h
    obtain ⟨h1, h2⟩ := low_chk (m := ⟨f, 0, 0⟩) (fun hh => by have := hh.1; simp at this) h.2
    have := validB_iff.1 h2
    simp only at this
    rw [h1]
    exact ⟨by omega, by omega, rfl, h2⟩
  have e1 : wr (flV x + 1) = flF x + 1 := by rw [hf, wr_in (by omega) (by omega)]
  have t6 : nsT6 x = some (bv true) := by
    unfold nsT6
    cases hc : (inB 0 0 62 && chkB (highN x)) with
    | false => rfl
    | true =>
      obtain ⟨g1, g2, g3, g4⟩ := fit _ hc
      unfold highN
      rw [e1] at g1 g2 g3 g4 ⊢
      rw [g3]
      have := l2 g1 g2
      have hc : cmV ⟨flF x + 1, 0, 0⟩ x > 0 := by unfold cmV; rw [g4, hx]; exact this
      simp only [Bool.not_true, cond_false]
      rw [show decide (cmV ⟨flF x + 1, 0, 0⟩ x > 0) = true by simpa using hc]
  unfold nsT5
  cases hc : (inB 0 0 62 && chkB (lowN x)) with
  | false => exact t6
  | true =>
    obtain ⟨g1, g2, g3, g4⟩ := fit _ hc
    unfold lowN
    rw [hf] at g1 g2 g3 g4 ⊢
    rw [g3]
    have := l1 g1 g2
    have hc : cmV ⟨flF x, 0, 0⟩ x ≤ 0 := by unfold cmV; rw [g4, hx]; exact this
    rw [show decide (cmV ⟨flF x, 0, 0⟩ x ≤ 0) = true by simpa using hc]
    exact t6
theorem ns_ok {x y z : N3} (hx : validB x = true) (hy : validB y = true) (hz : validB z = true) : nsT1 x y z = some (bv true) := by
  obtain ⟨A, B, v, a1, a2⟩ := valid_val hx
  obtain ⟨C, D, w, b1, b2⟩ := valid_val hy
  obtain ⟨F, G, u, c1, c2⟩ := valid_val hz
  have cm : ∀ p q : N3, validB p = true → validB q = true → cmV p q = sgF (subF p q) := fun p q h1 h2 => by unfold cmV; rw [h1, h2]; rfl
  have sg : ∀ p : N3, validB p = true → sgV p = sgF p := fun p h1 => by unfold sgV; rw [h1]; rfl
  have sxy := sub_val v a1 a2 w b1 b2
  have syx := sub_val w b1 b2 v a1 a2
  have exy : cmV x y = sgZ (A - C) (B - D) := (cm x y hx hy).trans sxy.1.sg
  have eyx : cmV y x = -cmV x y := by
    rw [exy, cm y x hy hx, syx.1.sg, ← sgZ_minus]
    congr 1 <;> omega
  have bxy := sgZ_bd (A - C) (B - D)
  have exx : cmV x x = 0 := by
    rw [cm x x hx hx, (sub_val v a1 a2 v a1 a2).1.sg, Int.sub_self, Int.sub_self]
    rfl
  have t5 := ns_floor hx
  have t4 : nsT4 x y z = some (bv true) := by
    unfold nsT4
    obtain ⟨p1, p2⟩ := v.add u (by decide) (by omega) (by omega)
    obtain ⟨q1, q2⟩ := w.add u (by decide) (by omega) (by omega)
    cases h1 : opb x z (addF x z) with
    | false => exact t5
    | true =>
      cases h2 : opb y z (addF y z) with
      | false => exact t5
      | true =>
        obtain ⟨k1, k2⟩ := opb_ok p2 h1
        obtain ⟨k3, k4⟩ := opb_ok q2 h2
        have e : cmV (addF x z) (addF y z) = cmV x y := by
          have s := p1.sub q1 (by decide) (by omega) (by omega) (by omega) (by omega)
          rw [cm _ _ k2 k4, s.1.sg, exy]
          congr 1 <;> omega
        simp only [cond_true, k1, k3, e, bne_self_eq_false, cond_false]
        exact t5
  have t3 : nsT3 x y z = some (bv true) := by
    unfold nsT3
    cases h1 : opb x y (subF x y) with
    | false => exact t4
    | true =>
      obtain ⟨k1, k2⟩ := opb_ok sxy.2 h1
      have e : sgV (subF x y) = cmV x y := by rw [sg _ k2, cm x y hx hy]
      simp only [cond_true, k1, e, bne_self_eq_false, cond_false]
      exact t4
  have t2 : nsT2 x y z = some (bv true) := by
    unfold nsT2
    have e1 : wr (0 - cmV y x) = cmV x y := by rw [eyx, wr_in (by omega) (by omega)]; omega
    rw [e1, exx]
    simp only [bne_self_eq_false, cond_false]
    cases h : (cmV x y == 0) with
    | false => exact t3
    | true =>
      have h0 : sgZ (A - C) (B - D) = 0 := by rw [← exy]; simpa using h
      obtain ⟨g1, g2⟩ := sgZ_eq_zero h0
      have e2 : A = C := by omega
      have e3 : B = D := by omega
      subst e2 e3
      have := v.uniq w (valid_low hx) (valid_low hy)
      subst this
      have : eqN x x = true := by simp [eqN]
      rw [this]
      exact t3
  unfold nsT1
  obtain ⟨m1, m2⟩ := mul_val v a1 a2 w b1 b2
  cases h1 : opb x y (mulF x y) with
  | false => exact t2
  | true =>
    obtain ⟨k1, k2⟩ := opb_ok m2 h1
    have b1 := sgZ_bd A B
    have b2 := sgZ_bd C D
    have e : sgV (mulF x y) = wr (sgV x * sgV y) := by
      rw [sg _ k2, sg _ hx, sg _ hy, m1.sg, v.sg, w.sg, sgZ_mul]
      have : sgZ A B * sgZ C D = -1 ∨ sgZ A B * sgZ C D = 0 ∨ sgZ A B * sgZ C D = 1 := by
        rcases (show sgZ A B = -1 ∨ sgZ A B = 0 ∨ sgZ A B = 1 by omega) with h | h | h <;> rcases (show sgZ C D = -1 ∨ sgZ C D = 0 ∨ sgZ C D = 1 by omega) with g | g | g <;> rw [h, g] <;> decide
      rw [wr_in (by omega) (by omega)]
    simp only [cond_true, k1, e, bne_self_eq_false, cond_false]
    exact t2
end Go.Ev
