/- The law of meeting lines: its course, and that it answers yes. -/
import Derived.Test.YtooikeeckoflpaaDoorMeetB
set_option linter.unusedVariables false
set_option linter.unusedSimpArgs false
namespace Go.Ev

def mtW (a b : Ln) : P2 := mtP a.d b.d a.o b.o
def mtC (a b : Ln) : Int := cond (a.valid && b.valid) (cond (a.d == b.d) 7 (cond (valP (redP (mtW a b))) 0 2)) 1
def mtQ (a b : Ln) : P2 := selP ((a.valid && b.valid) && (!(a.d == b.d) && valP (redP (mtW a b)))) (redP (mtW a b))
def eqLn (m l : Ln) : Bool := m.d == l.d && (eqN m.o l.o && true)
def kT19 (l : Ln) (d : Int) (p : P2) (way : Int) : Option AV := cond (laO p (way.tmod 8) == (d == 0)) (cond (!laO p (way.tmod 8)) yes (some (bv (eqLn (laL p (way.tmod 8)) l)))) no
def kT17 (l : Ln) (d : Int) (p : P2) (way back : Int) : Option AV := cond (back != (wr (way + 8)).tmod 16) no (cond (d == 0) (cond (l.d != way.tmod 8) no (kT19 l d p way)) (kT19 l d p way))
def kT13 (l : Ln) (d : Int) (p q : P2) : Option AV := cond (decide (dofV p q < 0)) (cond (dofV q p == dofV p q) (some (bv (d == 7))) no) (kT17 l d p (dofV p q) (dofV q p))
def kT10 (p q : P2) : Option AV := cond (ltC p q == 0) (cond (soV (ltL p q) p != 0) no (cond (soV (ltL p q) q != 0) no (cond (!(ltL p q).valid) no (kT13 (ltL p q) (ltC p q) p q)))) (kT13 (ltL p q) (ltC p q) p q)
def kT8 (a b : Ln) (x : P2) (c : Int) (p q : P2) : Option AV := cond (c == 0) (cond (soV a x != 0) no (cond (soV b x != 0) no (kT10 p q))) (kT10 p q)
def kT4 (a b : Ln) (p q : P2) : Option AV := cond (mtC a b != mtC b a) no (cond (!eqP2 (mtQ a b) (mtQ b a)) no (cond (!((mtC a b == 7) == (a.d == b.d))) no (kT8 a b (mtQ a b) (mtC a b) p q)))
theorem eqLn_self (l : Ln) : eqLn l l = true := by simp [eqLn, eqN]

/-- A line's normal is the vector four directions on. -/
theorem v_perp {d : Int} (hd : inB d 0 7 = true) : vC1 (d + 4) = -vC2 d ∧ vE1 (d + 4) = -vE2 d ∧ vC2 (d + 4) = vC1 d ∧ vE2 (d + 4) = vE1 d := by
  rcases t8 hd with rfl | rfl | rfl | rfl | rfl | rfl | rfl | rfl <;> decide
theorem perp_zero {d : Int} (hd : inB d 0 7 = true) (w : V4) : dtA (d + 4) w = crA d w ∧ dtB (d + 4) w = crB d w := by
  obtain ⟨h1, h2, h3, h4⟩ := v_perp hd
  unfold dtA dtB crA crB
  rw [h1, h2, h3, h4]
  constructor <;> grind
theorem nrm_dot {d : Int} {p : P2} {v : V4} (hd : inB d 0 7 = true) (hv : PV 10 p v 134217728) : VB 10 (offV d p) (dtA (d + 4) v) (dtB (d + 4) v) 805306368 ∧ lowB (offV d p) := by
  have h := inB_iff.1 hd
  have hd4 : inB (d + 4) 0 15 = true := inB_iff.2 (by omega)
  obtain ⟨eq, h1, h2, h3, h4, _⟩ := vv_all hd4
  have en : nrm d = vecP (d + 4) := by unfold nrm; rw [wr_in (by omega) (by omega)]
  unfold offV
  rw [en, eq]
  obtain ⟨m1, _⟩ := VB.vmul (Val.mk0 _ _) h1 h2 hv.x (by decide) (by decide)
  obtain ⟨m2, _⟩ := VB.vmul (Val.mk0 _ _) h3 h4 hv.y (by decide) (by decide)
  exact m1.add m2 (by decide) (by decide)
theorem dt_sub (d : Int) (u v : V4) : dtA d ⟨u.a - v.a, u.b - v.b, u.c - v.c, u.d - v.d⟩ = dtA d u - dtA d v ∧ dtB d ⟨u.a - v.a, u.b - v.b, u.c - v.c, u.d - v.d⟩ = dtB d u - dtB d v := by
  unfold dtA dtB
  constructor <;> simp only <;> grind
theorem through_ok {p q : P2} (hp : valP p = true) (hq : valP q = true) : kT10 p q = yes := by
  obtain ⟨v, u, hv, hu, hw, _⟩ := way_of hp hq
  obtain ⟨k1, k2, k3⟩ := dir_back hp hq
  have dp : dofV p q = dirV p q := by unfold dofV; rw [hp, hq]; rfl
  have dq : dofV q p = dirV q p := by unfold dofV; rw [hp, hq]; rfl
  rcases k3 with k3 | k3
  · have hb := inB_iff.1 k3
    have h8 := dir_mod k3
    have hneg : decide (dirV p q < 0) = false := by simp; omega
    have hback : (dirV q p != (wr (dirV p q + 8)).tmod 16) = false := by
      rw [k2 k3, wr_in (by omega) (by omega), Int.tmod_eq_emod_of_nonneg (by omega)]
      simp
    have t13 : ∀ l d, kT13 l d p q = cond (d == 0) (cond (l.d != (dirV p q).tmod 8) no (kT19 l d p (dirV p q))) (kT19 l d p (dirV p q)) := fun l d => by
      unfold kT13 kT17
      rw [dp, dq, hneg, hback]
      rfl
    have ela : laO p ((dirV p q).tmod 8) = validB (offV ((dirV p q).tmod 8) p) := by unfold laO; rw [hp, h8]; rfl
    cases ho : validB (offV ((dirV p q).tmod 8) p) with
    | false =>
      have ec : ltC p q = 2 := by unfold ltC; rw [hp, hq, hneg, ho]; rfl
      unfold kT10
      rw [ec, t13]
      unfold kT19
      rw [ela, ho]
      rfl
    | true =>
      have ec : ltC p q = 0 := by unfold ltC; rw [hp, hq, hneg, ho]; rfl
      have el : ltL p q = ⟨(dirV p q).tmod 8, offV ((dirV p q).tmod 8) p⟩ := by unfold ltL; rw [ec]; rfl
      have hl : (ltL p q).valid = true := by rw [el]; unfold Ln.valid; rw [h8, ho]; rfl
      obtain ⟨np, _⟩ := nrm_dot h8 hv
      obtain ⟨nq, _⟩ := nrm_dot h8 hu
      have sp : soV (ltL p q) p = 0 := by
        unfold soV
        rw [hl, hp, el]
        show sgF (subF (offV ((dirV p q).tmod 8) p) (offV ((dirV p q).tmod 8) p)) = 0
        rw [(np.sub np (by decide) (by decide)).1.v.sg, Int.sub_self, Int.sub_self]
        rfl
      have sq : soV (ltL p q) q = 0 := by
        unfold soV
        rw [hl, hq, el]
        show sgF (subF (offV ((dirV p q).tmod 8) q) (offV ((dirV p q).tmod 8) p)) = 0
        rw [(nq.sub np (by decide) (by decide)).1.v.sg]
        obtain ⟨s1, s2⟩ := dt_sub ((dirV p q).tmod 8 + 4) u v
        rw [← s1, ← s2]
        obtain ⟨z1, z2⟩ := perp_zero h8 ⟨u.a - v.a, u.b - v.b, u.c - v.c, u.d - v.d⟩
        rw [z1, z2]
        have hi : isDir (dirV p q) ⟨u.a - v.a, u.b - v.b, u.c - v.c, u.d - v.d⟩ := by
          rcases dirV_spec hw with ⟨_, h⟩ | ⟨h, _⟩
          · exact h
          · omega
        have h8' := inB_iff.1 h8
        have e8 : (dirV p q).tmod 8 = dirV p q ∨ (dirV p q).tmod 8 + 8 = dirV p q := by
          rw [Int.tmod_eq_emod_of_nonneg hb.1]; omega
        have z : crA ((dirV p q).tmod 8) ⟨u.a - v.a, u.b - v.b, u.c - v.c, u.d - v.d⟩ = 0 ∧ crB ((dirV p q).tmod 8) ⟨u.a - v.a, u.b - v.b, u.c - v.c, u.d - v.d⟩ = 0 := by
          rcases e8 with e8 | e8
          · rw [e8]; exact ⟨hi.1, hi.2.1⟩
          · obtain ⟨a1, a2, _⟩ := opp_all h8 ⟨u.a - v.a, u.b - v.b, u.c - v.c, u.d - v.d⟩
            rw [e8] at a1 a2
            have h1 := hi.1
            have h2 := hi.2.1
            omega
        rw [z.1, z.2]
        rfl
      have t : kT13 (ltL p q) 0 p q = yes := by
        rw [t13]
        unfold kT19
        have e3 : laL p ((dirV p q).tmod 8) = ltL p q := by unfold laL; rw [ela, ho, el]; rfl
        rw [ela, ho, e3, eqLn_self, el]
        simp only [bne_self_eq_false, cond_false]
        rfl
      unfold kT10
      rw [ec, sp, sq, hl, t]
      rfl
  · have ec : ltC p q = 7 := by unfold ltC; rw [hp, hq, k3]; rfl
    unfold kT10
    rw [ec]
    unfold kT13
    rw [dp, dq, k1 k3, k3]
    rfl
theorem meet_yes {a b : Ln} {p q : P2} (ha : a.valid = true) (hb : b.valid = true) (hp : valP p = true) (hq : valP q = true) : kT4 a b p q = yes := by
  have t10 := through_ok hp hq
  have ha' := ha
  have hb' := hb
  unfold Ln.valid at ha' hb'
  rw [Bool.and_eq_true] at ha' hb'
  cases hd : (a.d == b.d) with
  | true =>
    have e0 : a.d = b.d := by simpa using hd
    have hd' : (b.d == a.d) = true := by rw [e0]; simp
    have c1 : mtC a b = 7 := by unfold mtC; rw [ha, hb, hd]; rfl
    have c2 : mtC b a = 7 := by unfold mtC; rw [ha, hb, hd']; rfl
    have q1 : mtQ a b = ⟨z3, z3⟩ := by unfold mtQ; rw [ha, hb, hd]; rfl
    have q2 : mtQ b a = ⟨z3, z3⟩ := by unfold mtQ; rw [ha, hb, hd']; rfl
    unfold kT4 kT8
    rw [c1, c2, q1, q2, eqP2_self, hd, t10]
    rfl
  | false =>
    have hne : (a.d == b.d) = false := hd
    have hne' : (b.d == a.d) = false := by
      have : a.d ≠ b.d := by simpa using hd
      simpa using Ne.symm this
    obtain ⟨c1, e1, c2, e2, na, nb, E1, hn⟩ := nv_ex ha'.1
    obtain ⟨g1, f1, g2, f2, ma, mb, E2, hm⟩ := nv_ex hb'.1
    obtain ⟨A1, A2, va⟩ := valid_vb ha'.2
    obtain ⟨B1, B2, vb⟩ := valid_vb hb'.2
    obtain ⟨da, db, s, E, h⟩ := mt_val ha'.1 hb'.1 hne hn hm va vb
    obtain ⟨da', db', s', E', g⟩ := mt_val hb'.1 ha'.1 hne' hm hn vb va
    have es : mtW a b = mtW b a := mt_sym h g
    have er : redP (mtW a b) = mtW a b := redP_low h.lx h.ly
    have k1 : mtC a b = cond (valP (mtW a b)) 0 2 := by unfold mtC; rw [ha, hb, hne, er]; rfl
    have k2 : mtC b a = cond (valP (mtW a b)) 0 2 := by unfold mtC; rw [ha, hb, hne', ← es, er]; rfl
    have k3 : mtQ a b = selP (valP (mtW a b)) (mtW a b) := by unfold mtQ; rw [ha, hb, hne, er]; rfl
    have k4 : mtQ b a = selP (valP (mtW a b)) (mtW a b) := by unfold mtQ; rw [ha, hb, hne', ← es, er]; rfl
    unfold kT4 kT8
    rw [k1, k2, k3, k4, eqP2_self, hne, t10]
    cases hv : valP (mtW a b) with
    | false => rfl
    | true =>
      obtain ⟨P, hP⟩ := valP_pv hv
      obtain ⟨⟨o1, o2⟩, o3, o4⟩ := mt_on h hP
      have s1 : soV a (selP true (mtW a b)) = 0 := by
        unfold soV
        rw [ha, selP_true, hv]
        show sgF (subF (dotF (nrm a.d) (mtW a b)) a.o) = 0
        obtain ⟨dv, _⟩ := dot_vb hn hP
        rw [o1, o2] at dv
        have dv' : VB 10 (dotF (nrm a.d) (mtW a b)) A1 A2 805306368 := dv
        rw [(dv'.sub va (by decide) (by decide)).1.v.sg, Int.sub_self, Int.sub_self]
        rfl
      have s2 : soV b (selP true (mtW a b)) = 0 := by
        unfold soV
        rw [hb, selP_true, hv]
        show sgF (subF (dotF (nrm b.d) (mtW a b)) b.o) = 0
        obtain ⟨dv, _⟩ := dot_vb hm hP
        rw [o3, o4] at dv
        have dv' : VB 10 (dotF (nrm b.d) (mtW a b)) B1 B2 805306368 := dv
        rw [(dv'.sub vb (by decide) (by decide)).1.v.sg, Int.sub_self, Int.sub_self]
        rfl
      rw [s1, s2]
      rfl
end Go.Ev
