/- The law of motions, for valid motions and points. -/
import Derived.Test.YtooikeeckoflpaaDoorMotA
set_option linter.unusedVariables false
set_option linter.unusedSimpArgs false
namespace Go.Ev

def mvO (m : M8) (p : P2) : Bool := ((inB m.t 0 7 && valP m.s) && valP p) && valP (redP (moveF m.t m.f m.s p))
def mvP (m : M8) (p : P2) : P2 := selP (mvO m p) (redP (moveF m.t m.f m.s p))
def cmO (a b : M8) : Bool := ((inB a.t 0 7 && valP a.s) && (inB b.t 0 7 && valP b.s)) && valP (redP (moveF b.t b.f b.s a.s))
def cmM (a b : M8) : M8 := ⟨cond (cmO a b) (cmpT a.t b.t b.f) 0, cond (cmO a b) (a.f != b.f) false, selP (cmO a b) (redP (moveF b.t b.f b.s a.s))⟩
def ivO (a : M8) : Bool := (inB a.t 0 7 && valP a.s) && valP (redP (invP a.t a.f a.s))
def ivM (a : M8) : M8 := ⟨cond (ivO a) (invT a.t a.f) 0, cond (ivO a) a.f false, selP (ivO a) (redP (invP a.t a.f a.s))⟩

theorem selP_true (p : P2) : selP true p = p := rfl
theorem cmpT_in {t u : Int} (k : Bool) : inB (cmpT t u k) 0 7 = true := by
  apply inB_iff.2
  unfold cmpT
  cases k <;> simp only [cond_true, cond_false] <;> omega
/-- A moved valid point. -/
theorem mv_val {m : M8} {p : P2} {v w : V4} {M : Nat} (hM : M ≤ 134217728) (hv : PV 10 p v M) (hw : PV 10 m.s w 134217728) :
    PV 11 (moveF m.t m.f m.s p) (ad (tv m.t (fl m.f v)) (db w)) 805306368 ∧ redP (moveF m.t m.f m.s p) = moveF m.t m.f m.s p ∧ lowB (moveF m.t m.f m.s p).x ∧ lowB (moveF m.t m.f m.s p).y := by
  have hv' : PV 10 p v 134217728 := ⟨hv.x.more hM, hv.y.more hM⟩
  obtain ⟨a, b, c⟩ := pv_move m.t m.f hv' hw (by decide) (by decide)
  exact ⟨a, redP_low b c, b, c⟩
theorem mvO_true {m : M8} {p : P2} (hm : m.valid = true) (hp : valP p = true) : mvO m p = valP (redP (moveF m.t m.f m.s p)) := by
  unfold mvO
  unfold M8.valid at hm
  rw [hm, hp]
  rfl
theorem mot_comp {a b : M8} {p : P2} (ha : a.valid = true) (hb : b.valid = true) (hp : valP p = true) (h1 : cmO a b = true) (h2 : mvO a p = true) :
    mvO b (mvP a p) = mvO (cmM a b) p ∧ mvP b (mvP a p) = mvP (cmM a b) p := by
  have ha' := ha
  have hb' := hb
  unfold M8.valid at ha' hb'
  rw [Bool.and_eq_true] at ha' hb'
  obtain ⟨v, hv⟩ := valP_pv hp
  obtain ⟨w, hw⟩ := valP_pv ha'.2
  obtain ⟨z, hz⟩ := valP_pv hb'.2
  obtain ⟨q1, q2, q3, q4⟩ := mv_val (m := a) (Nat.le_refl _) hv hw
  obtain ⟨c1, c2, c3, c4⟩ := mv_val (m := b) (p := a.s) (Nat.le_refl _) hw hz
  have eq : mvP a p = moveF a.t a.f a.s p := by unfold mvP; rw [h2, q2]; rfl
  have vq : valP (moveF a.t a.f a.s p) = true := by rw [mvO_true ha hp, q2] at h2; exact h2
  have vc : valP (moveF b.t b.f b.s a.s) = true := by
    unfold cmO at h1
    rw [Bool.and_eq_true, c2] at h1
    exact h1.2
  have ec : cmM a b = ⟨cmpT a.t b.t b.f, a.f != b.f, moveF b.t b.f b.s a.s⟩ := by unfold cmM; rw [h1, c2]; rfl
  have hc : (cmM a b).valid = true := by
    rw [ec]
    unfold M8.valid
    rw [show inB (cmpT a.t b.t b.f) 0 7 = true from cmpT_in _, vc]
    rfl
  obtain ⟨Q, hQ⟩ := valP_pv vq
  obtain ⟨C, hC⟩ := valP_pv vc
  have dQ := pv_same (pv_db hQ) q1
  have dC := pv_same (pv_db hC) c1
  obtain ⟨x1, x2, x3, x4⟩ := mv_val (m := b) (Nat.le_refl _) hQ hz
  obtain ⟨y1, y2, y3, y4⟩ := mv_val (m := ⟨cmpT a.t b.t b.f, a.f != b.f, moveF b.t b.f b.s a.s⟩) (Nat.le_refl _) hv hC
  simp only at y1 y2 y3 y4
  have ev : ad (tv b.t (fl b.f Q)) (db z) = ad (tv (cmpT a.t b.t b.f) (fl (a.f != b.f) v)) (db C) := by
    apply db_inj
    have e1 : db (tv b.t (fl b.f Q)) = ad (db (tv (cmpT a.t b.t b.f) (fl (a.f != b.f) v))) (db (tv b.t (fl b.f w))) := by
      rw [← (tv_lin hb'.1 (fl b.f Q) w).2.1, ← (fl_lin b.f Q w).2, dQ, (fl_lin b.f _ _).1, (tv_lin hb'.1 _ _).1, tv_cmp ha'.1 hb'.1, (fl_lin b.f w w).2, (tv_lin hb'.1 (fl b.f w) w).2.1]
    have e2 : db (ad (tv b.t (fl b.f Q)) (db z)) = ad (db (tv b.t (fl b.f Q))) (db (db z)) := by apply V4.ext' <;> simp only [ad, db] <;> omega
    have e3 : db (ad (tv (cmpT a.t b.t b.f) (fl (a.f != b.f) v)) (db C)) = ad (db (tv (cmpT a.t b.t b.f) (fl (a.f != b.f) v))) (db (db C)) := by apply V4.ext' <;> simp only [ad, db] <;> omega
    rw [e2, e3, e1, dC]
    apply V4.ext' <;> simp only [ad, db] <;> omega
  rw [ev] at x1
  have exy := pv_uniq x1 y1 x3 x4 y3 y4
  rw [eq]
  have o1 : mvO b (moveF a.t a.f a.s p) = valP (moveF b.t b.f b.s (moveF a.t a.f a.s p)) := by rw [mvO_true hb vq, x2]
  have o2 : mvO (cmM a b) p = valP (moveF (cmpT a.t b.t b.f) (a.f != b.f) (moveF b.t b.f b.s a.s) p) := by rw [mvO_true hc hp, ec]; simp only; rw [y2]
  have oo : mvO b (moveF a.t a.f a.s p) = mvO (cmM a b) p := by rw [o1, o2, exy]
  refine ⟨oo, ?_⟩
  unfold mvP
  rw [oo, x2, ec]
  simp only
  rw [y2, exy]
theorem pv_red {S M : Nat} {p : P2} {v : V4} (h : PV S p v M) (hS : S ≤ 1000) (hM : M < 9223372036854775808) : PV S (redP p) v M ∧ lowB (redP p).x ∧ lowB (redP p).y := by
  have ax := h.x.a
  have bx := h.x.b
  have ay := h.y.a
  have by_ := h.y.b
  obtain ⟨a1, a2⟩ := h.x.v.red (by omega) (by omega) (by omega)
  obtain ⟨b1, b2⟩ := h.y.v.red (by omega) (by omega) (by omega)
  exact ⟨⟨⟨a1, ax, bx⟩, ⟨b1, ay, by_⟩⟩, a2, b2⟩
theorem mot_inv {a : M8} {p : P2} (ha : a.valid = true) (hp : valP p = true) (h2 : mvO a p = true) (h3 : ivO a = true) :
    cmO a (ivM a) = true ∧ cmM a (ivM a) = m0 ∧ mvO (ivM a) (mvP a p) = true ∧ mvP (ivM a) (mvP a p) = p := by
  have ha' := ha
  unfold M8.valid at ha'
  rw [Bool.and_eq_true] at ha'
  obtain ⟨v, hv⟩ := valP_pv hp
  obtain ⟨w, hw⟩ := valP_pv ha'.2
  obtain ⟨q1, q2, q3, q4⟩ := mv_val (m := a) (Nat.le_refl _) hv hw
  have eq : mvP a p = moveF a.t a.f a.s p := by unfold mvP; rw [h2, q2]; rfl
  have vq : valP (moveF a.t a.f a.s p) = true := by rw [mvO_true ha hp, q2] at h2; exact h2
  obtain ⟨Q, hQ⟩ := valP_pv vq
  have dQ := pv_same (pv_db hQ) q1
  -- the inverse
  have vd : valP (redP (invP a.t a.f a.s)) = true := by
    unfold ivO at h3
    rw [Bool.and_eq_true] at h3
    exact h3.2
  have hdt := invT_in ha'.1 a.f
  have ed : ivM a = ⟨invT a.t a.f, a.f, redP (invP a.t a.f a.s)⟩ := by unfold ivM; rw [h3]; rfl
  have hd : (ivM a).valid = true := by
    rw [ed]
    unfold M8.valid
    rw [show inB (invT a.t a.f) 0 7 = true from hdt, vd]
    rfl
  have hf := pv_flip hw (by decide) a.f
  obtain ⟨t1, t2⟩ := turn_vb (invT a.t a.f) hf.x hf.y (by decide) (by decide)
  have hi : PV 11 (invP a.t a.f a.s) (mi (tv (invT a.t a.f) (fl a.f w))) 536870912 := ⟨t1.negF (by decide), t2.negF (by decide)⟩
  obtain ⟨r1, r2, r3⟩ := pv_red hi (by decide) (by decide)
  obtain ⟨D, hD⟩ := valP_pv vd
  have dD := pv_same (pv_db hD) r1
  generalize redP (invP a.t a.f a.s) = ds at *
  -- composed
  obtain ⟨c1, c2, c3, c4⟩ := mv_val (m := ⟨invT a.t a.f, a.f, ds⟩) (p := a.s) (Nat.le_refl _) hw hD
  simp only at c1 c2 c3 c4
  have ez : ad (tv (invT a.t a.f) (fl a.f w)) (db D) = ⟨0, 0, 0, 0⟩ := by
    rw [dD]
    apply V4.ext' <;> simp only [ad, mi] <;> omega
  rw [ez] at c1
  have hz : PV 11 ⟨z3, z3⟩ (⟨0, 0, 0, 0⟩ : V4) 0 := ⟨vb_zero, vb_zero⟩
  have ec0 := pv_uniq c1 hz c3 c4 (fun h => by have h1 : (0 : Int) > 0 := h.1; omega) (fun h => by have h1 : (0 : Int) > 0 := h.1; omega)
  have co : cmO a (ivM a) = true := by
    unfold cmO
    rw [ed]
    simp only
    rw [ha'.1, ha'.2, hdt, vd, c2, ec0]
    decide
  have cm : cmM a (ivM a) = m0 := by
    unfold cmM
    rw [co, ed]
    simp only [cond_true]
    rw [c2, ec0]
    have et : cmpT a.t (invT a.t a.f) a.f = 0 := by
      have := inB_iff.1 ha'.1
      unfold cmpT invT
      cases a.f <;> simp only [cond_true, cond_false] <;> omega
    rw [et]
    cases a.f <;> rfl
  -- back
  obtain ⟨b1, b2, b3, b4⟩ := mv_val (m := ⟨invT a.t a.f, a.f, ds⟩) (Nat.le_refl _) hQ hD
  simp only at b1 b2 b3 b4
  have et : cmpT a.t (invT a.t a.f) a.f = 0 := by
    have := inB_iff.1 ha'.1
    unfold cmpT invT
    cases a.f <;> simp only [cond_true, cond_false] <;> omega
  have ev : ad (tv (invT a.t a.f) (fl a.f Q)) (db D) = db v := by
    apply db_inj
    have e1 : db (tv (invT a.t a.f) (fl a.f Q)) = ad (db (tv 0 (fl (a.f != a.f) v))) (db (tv (invT a.t a.f) (fl a.f w))) := by
      rw [← (tv_lin hdt (fl a.f Q) w).2.1, ← (fl_lin a.f Q w).2, dQ, (fl_lin a.f _ _).1, (tv_lin hdt _ _).1, tv_cmp ha'.1 hdt, (fl_lin a.f w w).2, (tv_lin hdt (fl a.f w) w).2.1, et]
    have e2 : db (ad (tv (invT a.t a.f) (fl a.f Q)) (db D)) = ad (db (tv (invT a.t a.f) (fl a.f Q))) (db (db D)) := by apply V4.ext' <;> simp only [ad, db] <;> omega
    have e3 : fl (a.f != a.f) v = v := by cases a.f <;> rfl
    rw [e2, e1, dD, e3, (tv_all v).1]
    apply V4.ext' <;> simp only [ad, db, mi] <;> omega
  rw [ev] at b1
  obtain ⟨p1, p2⟩ := valP_low hp
  have eb := pv_uniq b1 (pv_db hv) b3 b4 p1 p2
  have bo : mvO (ivM a) (moveF a.t a.f a.s p) = true := by
    rw [mvO_true hd vq, ed]
    simp only
    rw [b2, eb]
    exact hp
  refine ⟨co, cm, by rw [eq]; exact bo, ?_⟩
  rw [eq]
  unfold mvP
  rw [bo, ed]
  simp only
  rw [b2, eb]
  rfl

/-! ### the law's own course -/
def eqP2 (p q : P2) : Bool := eqN p.x q.x && (eqN p.y q.y && true)
def eqM8 (m n : M8) : Bool := m.t == n.t && (m.f == n.f && (eqN m.s.x n.s.x && (eqN m.s.y n.s.y && true)))
def mT20 (a : M8) (p : P2) (q : P2) (d : M8) : Option AV := cond (cmO a d) (cond (eqM8 (cmM a d) m0) (cond (mvO d q) (some (bv (eqP2 (mvP d q) p))) no) no) no
def mT17 (a : M8) (p : P2) (q : P2) (two : Bool) : Option AV := cond (!ivO a) (some (bv true)) (cond (!two) (some (bv true)) (mT20 a p q (ivM a)))
def mT7 (a b : M8) (p : P2) : Option AV := cond (!(mvO a p == mvO a p)) no (cond (cmO a b) (cond (mvO a p)
  (cond (!(mvO b (mvP a p) == mvO (cmM a b) p)) no (cond (!eqP2 (mvP b (mvP a p)) (mvP (cmM a b) p)) no (mT17 a p (mvP a p) (mvO a p)))) (mT17 a p (mvP a p) (mvO a p))) (mT17 a p (mvP a p) (mvO a p)))
def mT5 (a b : M8) (p : P2) : Option AV := cond (!a.valid) (some (bv true)) (cond (!b.valid) (some (bv true)) (cond (!valP p) (some (bv true)) (mT7 a b p)))
theorem eqP2_self (p : P2) : eqP2 p p = true := by simp [eqP2, eqN]
theorem motions_ok (a b : M8) (p : P2) : mT5 a b p = some (bv true) := by
  unfold mT5
  cases ha : a.valid with
  | false => rfl
  | true =>
    cases hb : b.valid with
    | false => rfl
    | true =>
      cases hp : valP p with
      | false => rfl
      | true =>
        have t17 : mT17 a p (mvP a p) (mvO a p) = some (bv true) := by
          unfold mT17
          cases h3 : ivO a with
          | false => rfl
          | true =>
            cases h2 : mvO a p with
            | false => rfl
            | true =>
              obtain ⟨k1, k2, k3, k4⟩ := mot_inv ha hp h2 h3
              unfold mT20
              rw [k1, k2, k3, k4, eqP2_self]
              rfl
        simp only [Bool.not_true, cond_false]
        unfold mT7
        rw [show (!(mvO a p == mvO a p)) = false by simp]
        simp only [cond_false]
        rw [t17]
        cases h1 : cmO a b with
        | false => rfl
        | true =>
          cases h2 : mvO a p with
          | false => rfl
          | true =>
            obtain ⟨k1, k2⟩ := mot_comp ha hb hp h1 h2
            rw [k1, k2, eqP2_self]
            simp
end Go.Ev
