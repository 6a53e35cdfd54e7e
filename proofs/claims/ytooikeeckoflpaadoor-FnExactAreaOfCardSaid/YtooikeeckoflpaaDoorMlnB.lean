/- The law of moved lines. -/
import Derived.Test.YtooikeeckoflpaaDoorMlnA
set_option linter.unusedVariables false
set_option linter.unusedSimpArgs false
namespace Go.Ev

def mlP (m : M8) (l : Ln) : P2 := moveF m.t m.f m.s (footF (nrm l.d) l.o)
def mlX (m : M8) (l : Ln) : N3 := offV (dirM m l.d % 8) (mlP m l)
def mlO (m : M8) (l : Ln) : Bool := (m.valid && l.valid) && validB (mlX m l)
def mlL (m : M8) (l : Ln) : Ln := ⟨cond (mlO m l) (dirM m l.d % 8) 0, sel (mlO m l) (mlX m l)⟩
def mdV (m : M8) (d : Int) : Int := cond (m.valid && inB d 0 15) (dirM m d) (-1)

theorem fl_mi (f : Bool) (v : V4) : fl f (mi v) = mi (fl f v) := by
  cases f
  · rfl
  · apply V4.ext' <;> simp [fl, mi]
theorem sc_db (n : Nat) (v : V4) : sc (2 ^ (n + 1)) v = db (sc (2 ^ n) v) := by
  apply V4.ext' <;> simp only [sc, db] <;> grind
theorem tv_sc {t : Int} (h : inB t 0 7 = true) (v : V4) : ∀ n : Nat, tv t (sc (2 ^ n) v) = sc (2 ^ n) (tv t v)
  | 0 => by simp [sc]
  | n + 1 => by rw [sc_db, sc_db, (tv_lin h _ v).2.1, tv_sc h v n]
theorem fl_sc (f : Bool) (n : Nat) (v : V4) : fl f (sc (2 ^ n) v) = sc (2 ^ n) (fl f v) := by
  cases f
  · rfl
  · apply V4.ext' <;> simp [fl, sc, Int.neg_mul]
theorem dt_lin (d : Int) (u v : V4) (z : Int) : dtA d (ad (sc z u) (mi v)) = dtA d u * z - dtA d v ∧ dtB d (ad (sc z u) (mi v)) = dtB d u * z - dtB d v := by
  unfold dtA dtB ad sc mi
  constructor <;> simp only <;> grind
/-- What a line's offset is worth: any point. -/
theorem off_vb {S M : Nat} {d : Int} {p : P2} {v : V4} (hd : inB d 0 7 = true) (hv : PV S p v M) (hS : S ≤ 1000) (hM : 3 * M + 3 * M < 9223372036854775808) :
    VB S (offV d p) (dtA (d + 4) v) (dtB (d + 4) v) (3 * M + 3 * M) ∧ lowB (offV d p) ∧ pkD (nrm d) p = true := by
  have h := inB_iff.1 hd
  have hd4 : inB (d + 4) 0 15 = true := inB_iff.2 (by omega)
  have hM3 : 3 * M < 9223372036854775808 := by omega
  obtain ⟨eq, h1, h2, h3, h4, _⟩ := vv_all hd4
  have en : nrm d = vecP (d + 4) := by unfold nrm; rw [wr_in (by omega) (by omega)]
  unfold offV
  rw [en, eq]
  obtain ⟨m1, _⟩ := VB.vmul (Val.mk0 _ _) h1 h2 hv.x hS hM3
  obtain ⟨m2, _⟩ := VB.vmul (Val.mk0 _ _) h3 h4 hv.y hS hM3
  obtain ⟨a1, a2⟩ := m1.add m2 hS hM
  refine ⟨a1, a2, ?_⟩
  unfold pkD
  rw [(pk_val (Val.mk0 _ _) hv.x.v (by decide) hS).2, (pk_val (Val.mk0 _ _) hv.y.v (by decide) hS).2, m1.pk m2 hS]
  rfl
/-- A moved line. -/
theorem ml_val {m : M8} {l : Ln} {E : Nat} {f w : V4} {O1 O2 : Int} (hm : inB m.t 0 7 = true) (hf : Ft l.d l.o E f O1 O2) (hw : PV 10 m.s w 134217728) :
    PV (10 + E + 1) (mlP m l) (ad (tv m.t (fl m.f f)) (db (sc (2 ^ E) w))) 21474836480 ∧ (let d := dirM m l.d % 8
    VB (10 + E + 1) (mlX m l) (dtA (d + 4) (ad (tv m.t (fl m.f f)) (db (sc (2 ^ E) w)))) (dtB (d + 4) (ad (tv m.t (fl m.f f)) (db (sc (2 ^ E) w)))) 128849018880 ∧ lowB (mlX m l) ∧ pkD (nrm d) (mlP m l) = true ∧ inB d 0 7 = true) := by
  have he := hf.e3
  obtain ⟨a, _, _⟩ := pv_move m.t m.f hf.pv (pv_sc hw he) (by omega) (by decide)
  have hd : inB (dirM m l.d % 8) 0 7 = true := inB_iff.2 (by omega)
  obtain ⟨b, c, e⟩ := off_vb hd a (by omega) (by decide)
  exact ⟨a, b, c, e, hd⟩
theorem wr_neg {s : Int} (h : -1 ≤ s ∧ s ≤ 1) : wr (0 - s) = -s := by rw [wr_in (by omega) (by omega)]; omega
theorem ml_side {m : M8} {l : Ln} {p : P2} (hm : m.valid = true) (hl : l.valid = true) (hp : valP p = true) (ho : mlO m l = true) (h2 : mvO m p = true) :
    soV (mlL m l) (mvP m p) = cond (decide (dirM m l.d ≥ 8)) (-(cond m.f (-(soV l p)) (soV l p))) (cond m.f (-(soV l p)) (soV l p)) := by
  have hm' := hm
  have hl' := hl
  unfold M8.valid at hm'
  unfold Ln.valid at hl'
  rw [Bool.and_eq_true] at hm' hl'
  obtain ⟨E, f, O1, O2, hf⟩ := foot_ex hl'.1 hl'.2
  obtain ⟨v, hv⟩ := valP_pv hp
  obtain ⟨w, hw⟩ := valP_pv hm'.2
  obtain ⟨q1, q2, q3, q4⟩ := mv_val (m := m) (Nat.le_refl _) hv hw
  obtain ⟨_, k1, k2, _, hd⟩ := ml_val hm'.1 hf hw
  have vX : validB (mlX m l) = true := by unfold mlO at ho; rw [Bool.and_eq_true] at ho; exact ho.2
  have eL : mlL m l = ⟨dirM m l.d % 8, mlX m l⟩ := by unfold mlL; rw [ho]; rfl
  have eQ : mvP m p = moveF m.t m.f m.s p := by unfold mvP; rw [h2, q2]; rfl
  have vq : valP (moveF m.t m.f m.s p) = true := by rw [mvO_true hm hp, q2] at h2; exact h2
  have vL : (mlL m l).valid = true := by rw [eL]; unfold Ln.valid; rw [hd, vX]; rfl
  obtain ⟨V, hV⟩ := valP_pv vq
  have dV := pv_same (pv_db hV) q1
  obtain ⟨X1, X2, hX⟩ := valid_vb vX
  have x1 := hX.v.lift (E + 1)
  have xA : X1 * 2 ^ (E + 1) = dtA (dirM m l.d % 8 + 4) (ad (tv m.t (fl m.f f)) (db (sc (2 ^ E) w))) := by rw [x1.a, k1.v.a]; rfl
  have xB : X2 * 2 ^ (E + 1) = dtB (dirM m l.d % 8 + 4) (ad (tv m.t (fl m.f f)) (db (sc (2 ^ E) w))) := by rw [x1.b, k1.v.b]; rfl
  have s0 : soV l p = sgD (l.d + 4) (ad (sc (2 ^ E) v) (mi f)) := by
    unfold soV
    rw [hl, hp]
    show sgF (subF (offV l.d p) l.o) = _
    obtain ⟨np, _⟩ := nrm_dot hl'.1 hv
    rw [(np.sub hf.o (by decide) (by decide)).1.v.sg, ← sgZ_scale _ _ E]
    unfold sgD
    obtain ⟨t1, t2⟩ := dt_lin (l.d + 4) v f (2 ^ E)
    rw [t1, t2, hf.a, hf.b, Int.sub_mul, Int.sub_mul]
  have key : ad (sc (2 ^ E) (db V)) (mi (ad (tv m.t (fl m.f f)) (db (sc (2 ^ E) w)))) = tv m.t (fl m.f (ad (sc (2 ^ E) v) (mi f))) := by
    rw [(fl_lin m.f (sc (2 ^ E) v) (mi f)).1, (tv_lin hm'.1 _ _).1, fl_mi, (tv_lin hm'.1 (fl m.f f) (fl m.f f)).2.2, fl_sc, tv_sc hm'.1, dV]
    apply V4.ext' <;> simp only [sc, ad, mi, db] <;> grind
  have s1 : soV (mlL m l) (mvP m p) = sgD (dirM m l.d % 8 + 4) (tv m.t (fl m.f (ad (sc (2 ^ E) v) (mi f)))) := by
    unfold soV
    rw [vL, eQ, vq, eL]
    show sgF (subF (offV (dirM m l.d % 8) (moveF m.t m.f m.s p)) (mlX m l)) = _
    obtain ⟨np, _⟩ := nrm_dot hd hV
    rw [(np.sub hX (by decide) (by decide)).1.v.sg, ← sgZ_scale _ _ (E + 1), Int.sub_mul, Int.sub_mul, xA, xB, ← key]
    unfold sgD
    obtain ⟨t1, t2⟩ := dt_lin (dirM m l.d % 8 + 4) (db V) (ad (tv m.t (fl m.f f)) (db (sc (2 ^ E) w))) (2 ^ E)
    have u1 : dtA (dirM m l.d % 8 + 4) (db V) = 2 * dtA (dirM m l.d % 8 + 4) V := by unfold dtA db; grind
    have u2 : dtB (dirM m l.d % 8 + 4) (db V) = 2 * dtB (dirM m l.d % 8 + 4) V := by unfold dtB db; grind
    rw [t1, t2, u1, u2, Int.pow_succ]
    congr 1 <;> grind
  rw [s1, sgD_moved _ hm'.1 hl'.1, s0]
theorem ml_dir {m : M8} {p q : P2} (hm : m.valid = true) (hp : valP p = true) (hq : valP q = true) (h2 : mvO m p = true) (h3 : mvO m q = true) (hd : ¬ dirV p q < 0) :
    dirV (mvP m p) (mvP m q) = dirM m (dirV p q) ∧ inB (dirV p q) 0 15 = true ∧ valP (mvP m p) = true ∧ valP (mvP m q) = true := by
  have hm' := hm
  unfold M8.valid at hm'
  rw [Bool.and_eq_true] at hm'
  obtain ⟨v, u, hv, hu, hw, _⟩ := way_of hp hq
  obtain ⟨w, hws⟩ := valP_pv hm'.2
  obtain ⟨p1, p2, _, _⟩ := mv_val (m := m) (Nat.le_refl _) hv hws
  obtain ⟨q1, q2, _, _⟩ := mv_val (m := m) (Nat.le_refl _) hu hws
  have eP : mvP m p = moveF m.t m.f m.s p := by unfold mvP; rw [h2, p2]; rfl
  have eQ : mvP m q = moveF m.t m.f m.s q := by unfold mvP; rw [h3, q2]; rfl
  have vp : valP (moveF m.t m.f m.s p) = true := by rw [mvO_true hm hp, p2] at h2; exact h2
  have vq : valP (moveF m.t m.f m.s q) = true := by rw [mvO_true hm hq, q2] at h3; exact h3
  obtain ⟨V, U, hV, hU, hW, _⟩ := way_of vp vq
  have dV := pv_same (pv_db hV) p1
  have dU := pv_same (pv_db hU) q1
  rcases dirV_spec hw with ⟨k1, k2⟩ | ⟨k1, _⟩
  · refine ⟨?_, k1, by rw [eP]; exact vp, by rw [eQ]; exact vq⟩
    rw [eP, eQ]
    refine dirV_is hW (dirM_in _ _) ?_
    have h := dirM_is hm'.1 k1 k2
    have e0 : (⟨u.a - v.a, u.b - v.b, u.c - v.c, u.d - v.d⟩ : V4) = ad u (mi v) := by apply V4.ext' <;> simp only [ad, mi] <;> omega
    rw [e0, (fl_lin m.f u (mi v)).1, (tv_lin hm'.1 _ _).1, fl_mi, (tv_lin hm'.1 (fl m.f v) (fl m.f v)).2.2] at h
    have e1 : ad (tv m.t (fl m.f u)) (mi (tv m.t (fl m.f v))) = db ⟨U.a - V.a, U.b - V.b, U.c - V.c, U.d - V.d⟩ := by
      have a1 : ad (tv m.t (fl m.f u)) (mi (tv m.t (fl m.f v))) = ad (ad (tv m.t (fl m.f u)) (db w)) (mi (ad (tv m.t (fl m.f v)) (db w))) := by
        apply V4.ext' <;> simp only [ad, mi, db] <;> omega
      rw [a1, ← dV, ← dU]
      apply V4.ext' <;> simp only [ad, mi, db] <;> omega
    rw [e1] at h
    exact isDir_db.1 h
  · omega

/-! ### the law -/
def lT22 (m : M8) (p q y : P2) (two : Bool) (z : P2) (three : Bool) : Option AV := cond (decide (dofV p q < 0)) yes (cond (!two) yes (cond (!three) yes (some (bv (dofV y z == mdV m (dofV p q))))))
def lT20 (m : M8) (p q : P2) (x : Ln) (y : P2) (two : Bool) (z : P2) (three : Bool) (s : Int) : Option AV := cond (soV x y != s) no (lT22 m p q y two z three)
def lT18 (m : M8) (l : Ln) (p q : P2) (x : Ln) (y : P2) (two : Bool) (z : P2) (three : Bool) (s : Int) : Option AV :=
  cond (decide (mdV m l.d ≥ 8)) (lT20 m p q x y two z three (wr (0 - s))) (lT20 m p q x y two z three s)
def lT14 (m : M8) (l : Ln) (p q : P2) (x : Ln) (one : Bool) (y : P2) (two : Bool) (z : P2) (three : Bool) : Option AV :=
  cond one (cond two (cond m.f (lT18 m l p q x y two z three (wr (0 - soV l p))) (lT18 m l p q x y two z three (soV l p))) (lT22 m p q y two z three)) (lT22 m p q y two z three)
def lT6 (m : M8) (l : Ln) (p q : P2) : Option AV := cond (!m.valid) yes (cond (!l.valid) yes (cond (!valP p) yes (cond (!valP q) yes
  (cond (mlO m l != mlO m l) no (lT14 m l p q (mlL m l) (mlO m l) (mvP m p) (mvO m p) (mvP m q) (mvO m q))))))
theorem so_bd (l : Ln) (p : P2) : -1 ≤ soV l p ∧ soV l p ≤ 1 := by
  unfold soV
  cases h : (l.valid && valP p) with
  | false => exact ⟨by show (-1 : Int) ≤ 0; decide, by show (0 : Int) ≤ 1; decide⟩
  | true =>
    rw [Bool.and_eq_true] at h
    have h1 := h.1
    unfold Ln.valid at h1
    rw [Bool.and_eq_true] at h1
    obtain ⟨O1, O2, vo⟩ := valid_vb h1.2
    obtain ⟨v, hv⟩ := valP_pv h.2
    obtain ⟨np, _⟩ := nrm_dot h1.1 hv
    show -1 ≤ sgF (subF (offV l.d p) l.o) ∧ sgF (subF (offV l.d p) l.o) ≤ 1
    rw [(np.sub vo (by decide) (by decide)).1.v.sg]
    exact sgZ_bd _ _
theorem moved_yes (m : M8) (l : Ln) (p q : P2) : lT6 m l p q = yes := by
  unfold lT6
  cases hm : m.valid with
  | false => rfl
  | true =>
  cases hl : l.valid with
  | false => rfl
  | true =>
  cases hp : valP p with
  | false => rfl
  | true =>
  cases hq : valP q with
  | false => rfl
  | true =>
  rw [bne_self_eq_false]
  simp only [Bool.not_true, cond_false]
  have t22 : lT22 m p q (mvP m p) (mvO m p) (mvP m q) (mvO m q) = yes := by
    unfold lT22
    cases hd : decide (dofV p q < 0) with
    | true => rfl
    | false =>
    cases h2 : mvO m p with
    | false => rfl
    | true =>
    cases h3 : mvO m q with
    | false => rfl
    | true =>
    have e1 : dofV p q = dirV p q := by unfold dofV; rw [hp, hq]; rfl
    rw [e1] at hd
    have hd' : ¬ dirV p q < 0 := by simpa using hd
    obtain ⟨k1, k2, k3, k4⟩ := ml_dir hm hp hq h2 h3 hd'
    have e2 : dofV (mvP m p) (mvP m q) = dirM m (dirV p q) := by unfold dofV; rw [k3, k4]; exact k1
    have e3 : mdV m (dirV p q) = dirM m (dirV p q) := by unfold mdV; rw [hm, k2]; rfl
    rw [e1, e2, e3, beq_self_eq_true]
    rfl
  unfold lT14
  rw [t22]
  cases ho : mlO m l with
  | false => rfl
  | true =>
  cases h2 : mvO m p with
  | false => rfl
  | true =>
  simp only [cond_true]
  have hs := ml_side hm hl hp ho h2
  have hl' := hl
  unfold Ln.valid at hl'
  rw [Bool.and_eq_true] at hl'
  have hb := inB_iff.1 hl'.1
  have hmd : mdV m l.d = dirM m l.d := by unfold mdV; rw [hm, show inB l.d 0 15 = true from inB_iff.2 (by omega)]; rfl
  have b0 := so_bd l p
  rw [h2] at t22
  unfold lT18 lT20
  rw [hmd, t22, hs, wr_neg b0]
  have n1 : wr (0 - -(soV l p)) = -(-(soV l p)) := by rw [wr_in (by omega) (by omega)]; omega
  rw [n1]
  cases m.f <;> cases decide (dirM m l.d ≥ 8) <;> simp only [cond_true, cond_false, bne_self_eq_false]
end Go.Ev
