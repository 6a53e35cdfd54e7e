/- The law of reflections of points, directions and lines. -/
import Derived.Test.YtooikeeckoflpaaDoorFrlB
set_option linter.unusedVariables false
set_option linter.unusedSimpArgs false
namespace Go.Ev

theorem eqN_eq {x y : N3} (h : eqN x y = true) : x = y := by
  unfold eqN at h
  simp only [Bool.and_eq_true, Bool.and_true, beq_iff_eq] at h
  cases x; cases y
  simp only at h
  obtain ⟨rfl, rfl, rfl⟩ := h
  rfl
theorem eqP2_eq {p q : P2} (h : eqP2 p q = true) : p = q := by
  unfold eqP2 at h
  simp only [Bool.and_eq_true, Bool.and_true] at h
  cases p; cases q
  simp only at h
  rw [eqN_eq h.1, eqN_eq h.2]
def moO (p q : P2) : Bool := (valP p && valP q) && valP (midF p q)
def moP (p q : P2) : P2 := selP (moO p q) (midF p q)

/-- A point and its reflection. -/
structure Tw (a : Ln) (p : P2) (A1 A2 : Int) (W v V : V4) : Prop where
  pv : PV 10 p v 134217728
  xv : PV 10 (rflI (nrm a.d) a.o p) V 134217728
  e : sc 64 V = ad (sc 4 (lr a.d (sc 8 v))) W
  low : lowB (rflI (nrm a.d) a.o p).x ∧ lowB (rflI (nrm a.d) a.o p).y
theorem pv8 {p : P2} {v : V4} (h : PV 10 p v 134217728) : PV 13 p (sc 8 v) 1073741824 := pv_sc (E := 3) h (by decide)
theorem pv64 {p : P2} {v : V4} {M : Nat} (h : PV 10 p v M) : PV 16 p (sc 64 v) (8 * (8 * M)) := by
  have := pv_sc (E := 3) (pv_sc (E := 3) h (by decide)) (by decide)
  have e : sc (2 ^ 3) (sc (2 ^ 3) v) = sc 64 v := by apply V4.ext' <;> simp only [sc] <;> omega
  rw [e] at this
  exact this
theorem rp_ok {a : Ln} {p : P2} (ha : a.valid = true) (hp : valP p = true) (ho : rpO a p = true) : redP (rflI (nrm a.d) a.o p) = rflI (nrm a.d) a.o p ∧ rpP a p = rflI (nrm a.d) a.o p ∧ valP (rflI (nrm a.d) a.o p) = true := by
  obtain ⟨l1, l2⟩ := rfl_low ha (.inl hp)
  have er := redP_low l1 l2
  have ho' := ho
  unfold rpO at ho'
  rw [Bool.and_eq_true, er] at ho'
  exact ⟨er, by unfold rpP; rw [ho, er]; rfl, ho'.2⟩
theorem tw_of {a : Ln} {p : P2} {A1 A2 : Int} {W : V4} (ha : a.valid = true) (hR : Rf a.d a.o A1 A2 W) (hp : valP p = true) (ho : rpO a p = true) : ∃ v V, Tw a p A1 A2 W v V := by
  obtain ⟨_, _, vx⟩ := rp_ok ha hp ho
  obtain ⟨v, hv⟩ := valP_pv hp
  obtain ⟨V, hV⟩ := valP_pv vx
  obtain ⟨r1, r2, r3, _⟩ := hR.r p (sc 8 v) (pv8 hv)
  exact ⟨v, V, hv, hV, pv_same (pv64 hV) r1, r2, r3⟩
theorem lr_W {d : Int} {off : N3} {A1 A2 : Int} {W : V4} (hR : Rf d off A1 A2 W) : lr d W = mi (db W) := by
  have := hR.z
  simp only [ad, db, V4.mk.injEq] at this
  obtain ⟨t1, t2, t3, t4⟩ := this
  apply V4.ext' <;> simp only [mi, db] <;> omega
theorem lr_sc64 {d : Int} (hd : inB d 0 7 = true) (u : V4) : lr d (sc 64 u) = sc 64 (lr d u) := lr_sc hd 6 u
theorem tw_back {a : Ln} {p : P2} {A1 A2 : Int} {W v V : V4} (ha : a.valid = true) (hR : Rf a.d a.o A1 A2 W) (hp : valP p = true) (ho : rpO a p = true) (h : Tw a p A1 A2 W v V) : rpO a (rpP a p) = true ∧ rpP a (rpP a p) = p := by
  have ha' := ha
  unfold Ln.valid at ha'
  rw [Bool.and_eq_true] at ha'
  obtain ⟨_, ex, vx⟩ := rp_ok ha hp ho
  obtain ⟨s1, s2, s3, _⟩ := hR.r _ (sc 8 V) (pv8 h.xv)
  have key : ad (sc 4 (lr a.d (sc 8 V))) W = sc 64 v := by
    have k := congrArg (lr a.d) h.e
    rw [lr_sc64 ha'.1, lr_ad ha'.1, lr_sc4 ha'.1, lr_lr ha'.1, lr_W hR] at k
    rw [lr_sc8 ha'.1]
    simp only [sc, ad, mi, db, V4.mk.injEq] at k
    obtain ⟨k1, k2, k3, k4⟩ := k
    apply V4.ext' <;> simp only [sc, ad] <;> omega
  rw [key] at s1
  obtain ⟨l1, l2⟩ := valP_low hp
  have e := pv_uniq s1 (pv64 h.pv) s2 s3 l1 l2
  have o : rpO a (rpP a p) = true := by
    rw [ex]
    unfold rpO
    rw [ha, vx, e, redP_low l1 l2, hp]
    rfl
  refine ⟨o, ?_⟩
  have : rpP a (rpP a p) = selP (rpO a (rpP a p)) (redP (rflI (nrm a.d) a.o (rpP a p))) := rfl
  rw [this, o, ex, e, redP_low l1 l2]
  rfl
theorem tw_side {a : Ln} {p : P2} {A1 A2 : Int} {W v V : V4} (ha : a.valid = true) (hR : Rf a.d a.o A1 A2 W) (hp : valP p = true) (ho : rpO a p = true) (h : Tw a p A1 A2 W v V) :
    soV a (rpP a p) = -soV a p ∧ ((rpP a p = p) ↔ soV a p = 0) ∧ (dtA (a.d + 4) V - A1 = -(dtA (a.d + 4) v - A1) ∧ dtB (a.d + 4) V - A2 = -(dtB (a.d + 4) v - A2)) := by
  have ha' := ha
  unfold Ln.valid at ha'
  rw [Bool.and_eq_true] at ha'
  obtain ⟨_, ex, vx⟩ := rp_ok ha hp ho
  obtain ⟨s1, s2⟩ := hR.s (sc 8 v)
  rw [← h.e, (dt_sc _ _ _).1, (dt_sc _ _ _).1] at s1
  rw [← h.e, (dt_sc _ _ _).2, (dt_sc _ _ _).2] at s2
  have d1 : dtA (a.d + 4) V - A1 = -(dtA (a.d + 4) v - A1) := by omega
  have d2 : dtB (a.d + 4) V - A2 = -(dtB (a.d + 4) v - A2) := by omega
  obtain ⟨np, _⟩ := nrm_dot ha'.1 h.pv
  obtain ⟨nx, _⟩ := nrm_dot ha'.1 h.xv
  have t1 : soV a p = sgZ (dtA (a.d + 4) v - A1) (dtB (a.d + 4) v - A2) := by
    unfold soV
    rw [ha, hp]
    exact (np.sub hR.o (by decide) (by decide)).1.v.sg
  have t2 : soV a (rpP a p) = sgZ (dtA (a.d + 4) V - A1) (dtB (a.d + 4) V - A2) := by
    unfold soV
    rw [ex, ha, vx]
    exact (nx.sub hR.o (by decide) (by decide)).1.v.sg
  refine ⟨by rw [t2, t1, d1, d2, sgZ_minus], ⟨fun e => ?_, fun e => ?_⟩, d1, d2⟩
  · rw [ex] at e
    have hx := h.xv
    rw [e] at hx
    have := pv_same hx h.pv
    subst this
    rw [t1, show dtA (a.d + 4) V - A1 = 0 by omega, show dtB (a.d + 4) V - A2 = 0 by omega]
    rfl
  · rw [t1] at e
    obtain ⟨z1, z2⟩ := sgZ_eq_zero e
    have f := hR.f (sc 8 v) (by rw [(dt_sc _ _ _).1]; omega) (by rw [(dt_sc _ _ _).2]; omega)
    rw [← h.e] at f
    have e8 : sc 8 (sc 8 v) = sc 64 v := by apply V4.ext' <;> simp only [sc] <;> omega
    rw [e8] at f
    have hx := pv64 h.xv
    rw [f] at hx
    obtain ⟨l1, l2⟩ := valP_low hp
    rw [ex]
    exact pv_uniq hx (pv64 h.pv) h.low.1 h.low.2 l1 l2
theorem tw_mid {a : Ln} {p : P2} {A1 A2 : Int} {W v V : V4} (ha : a.valid = true) (hR : Rf a.d a.o A1 A2 W) (hp : valP p = true) (ho : rpO a p = true) (h : Tw a p A1 A2 W v V) (hm : moO p (rpP a p) = true) : soV a (moP p (rpP a p)) = 0 := by
  have ha' := ha
  unfold Ln.valid at ha'
  rw [Bool.and_eq_true] at ha'
  obtain ⟨_, ex, vx⟩ := rp_ok ha hp ho
  obtain ⟨_, _, d1, d2⟩ := tw_side ha hR hp ho h
  have em : moP p (rpP a p) = midF p (rflI (nrm a.d) a.o p) := by unfold moP; rw [hm, ex]; rfl
  have vm : valP (midF p (rflI (nrm a.d) a.o p)) = true := by unfold moO at hm; rw [Bool.and_eq_true, ex] at hm; exact hm.2
  obtain ⟨M, hM⟩ := valP_pv vm
  obtain ⟨x1, _⟩ := h.pv.x.add h.xv.x (by decide) (by decide)
  obtain ⟨y1, _⟩ := h.pv.y.add h.xv.y (by decide) (by decide)
  obtain ⟨x2, _⟩ := x1.half (by decide) (by decide)
  obtain ⟨y2, _⟩ := y1.half (by decide) (by decide)
  have hh : PV 11 (midF p (rflI (nrm a.d) a.o p)) (ad v V) 268435456 := ⟨x2, y2⟩
  have e := pv_same (pv_db hM) hh
  have e1 := congrArg (dtA (a.d + 4)) e
  have e2 := congrArg (dtB (a.d + 4)) e
  have n3 : dtA (a.d + 4) (db M) = 2 * dtA (a.d + 4) M := by unfold dtA db; grind
  have n4 : dtB (a.d + 4) (db M) = 2 * dtB (a.d + 4) M := by unfold dtB db; grind
  rw [n3, (dt_ad _ _ _).1] at e1
  rw [n4, (dt_ad _ _ _).2] at e2
  obtain ⟨nm, _⟩ := nrm_dot ha'.1 hM
  unfold soV
  rw [em, ha, vm]
  show sgF (subF (offV a.d (midF p (rflI (nrm a.d) a.o p))) a.o) = 0
  rw [(nm.sub hR.o (by decide) (by decide)).1.v.sg, show dtA (a.d + 4) M - A1 = 0 by omega, show dtB (a.d + 4) M - A2 = 0 by omega]
  rfl
theorem tw_dir {a : Ln} {p q : P2} {A1 A2 : Int} {W v V u U : V4} (ha : a.valid = true) (hR : Rf a.d a.o A1 A2 W) (hp : valP p = true) (hq : valP q = true) (ho : rpO a p = true) (ho2 : rpO a q = true) (h : Tw a p A1 A2 W v V) (g : Tw a q A1 A2 W u U)
    (hd : ¬ dirV p q < 0) : dofV (rpP a p) (rpP a q) = (2 * a.d - dirV p q) % 16 ∧ inB (dirV p q) 0 15 = true := by
  have ha' := ha
  unfold Ln.valid at ha'
  rw [Bool.and_eq_true] at ha'
  obtain ⟨_, ex, vx⟩ := rp_ok ha hp ho
  obtain ⟨_, ez, vz⟩ := rp_ok ha hq ho2
  obtain ⟨v', u', hv', hu', hw, _⟩ := way_of hp hq
  obtain rfl := pv_same hv' h.pv
  obtain rfl := pv_same hu' g.pv
  obtain ⟨V', U', hV', hU', hW, _⟩ := way_of vx vz
  obtain rfl := pv_same hV' h.xv
  obtain rfl := pv_same hU' g.xv
  rcases dirV_spec hw with ⟨k1, k2⟩ | ⟨k1, _⟩
  · refine ⟨?_, k1⟩
    have hb := inB_iff.1 k1
    have hi := dirM_is (m := ⟨a.d, true, zP⟩) ha'.1 k1 k2
    have ed : dirM ⟨a.d, true, zP⟩ (dirV p q) = (2 * a.d - dirV p q) % 16 := by unfold dirM; simp only [cond_true]; omega
    rw [ed] at hi
    change isDir _ (lr a.d _) at hi
    have e0 : (⟨u'.a - v'.a, u'.b - v'.b, u'.c - v'.c, u'.d - v'.d⟩ : V4) = ad u' (mi v') := by apply V4.ext' <;> simp only [ad, mi] <;> omega
    rw [e0, lr_ad ha'.1, lr_mi ha'.1] at hi
    have e1 : ad (lr a.d u') (mi (lr a.d v')) = db ⟨U'.a - V'.a, U'.b - V'.b, U'.c - V'.c, U'.d - V'.d⟩ := by
      have k := h.e
      have l := g.e
      rw [lr_sc8 ha'.1] at k l
      simp only [sc, ad, V4.mk.injEq] at k l
      obtain ⟨a1, a2, a3, a4⟩ := k
      obtain ⟨b1, b2, b3, b4⟩ := l
      clear h g hv' hu' hV' hU' hW hw hR
      apply V4.ext' <;> simp only [ad, mi, db] <;> omega
    rw [e1] at hi
    have := dirV_is hW (inB_iff.2 (by omega)) (isDir_db.1 hi)
    unfold dofV
    rw [ex, ez, vx, vz]
    exact this
  · omega

/-! ### the law -/
def qT24 (a b l : Ln) : Option AV := cond (mtC a b != 0) yes (cond (soV l (mtQ a b) == 0) (some (bv (l.d == (wr (wr (wr (2 * a.d) - b.d) + 16)).tmod 8))) no)
def qT21 (a b l : Ln) : Option AV := cond (!rlO a l) no (cond (!eqLn (rlL a l) b) no (qT24 a b l))
def qT18 (a b : Ln) : Option AV := cond (!rlO a b) yes (qT21 a b (rlL a b))
def qT14 (a b : Ln) (p q x : P2) : Option AV := cond (rpO a q) (cond (decide (dofV p q ≥ 0)) (cond (dofV x (rpP a q) != (wr (wr (wr (2 * a.d) - dofV p q) + 16)).tmod 16) no (qT18 a b)) (qT18 a b)) (qT18 a b)
def qT11 (a b : Ln) (p q x : P2) : Option AV := cond (moO p x) (cond (soV a (moP p x) != 0) no (qT14 a b p q x)) (qT14 a b p q x)
def qT8 (a b : Ln) (p q x : P2) : Option AV := cond (!rpO a x) no (cond (!eqP2 (rpP a x) p) no (cond (soV a x != wr (0 - soV a p)) no (cond (eqP2 x p != (soV a p == 0)) no (qT11 a b p q x))))
def qT4 (a b : Ln) (p q : P2) : Option AV := cond (!rpO a p) (some (bv (!rpO a p))) (qT8 a b p q (rpP a p))
theorem lines_yes {a b : Ln} (ha : a.valid = true) (hb : b.valid = true) : qT18 a b = yes := by
  unfold qT18
  cases ho : rlO a b with
  | false => rfl
  | true =>
    obtain ⟨k1, k2⟩ := rl_back ha hb ho
    have hl := ha
    have hm := hb
    unfold Ln.valid at hl hm
    rw [Bool.and_eq_true] at hl hm
    have b1 := inB_iff.1 hl.1
    have b2 := inB_iff.1 hm.1
    have t24 : qT24 a b (rlL a b) = yes := by
      unfold qT24
      cases hc : (mtC a b != 0) with
      | true => rfl
      | false =>
        have hc' : mtC a b = 0 := by simpa using hc
        have e : (rlL a b).d = rlD a b := by unfold rlL; rw [ho]; rfl
        rw [rl_meet ha hb ho hc', e, wr_in (n := 2 * a.d) (by omega) (by omega), wr_in (n := 2 * a.d - b.d) (by omega) (by omega), wr_in (by omega) (by omega), Int.tmod_eq_emod_of_nonneg (by omega),
          show (2 * a.d - b.d + 16) % 8 = rlD a b by unfold rlD; omega, beq_self_eq_true, beq_self_eq_true]
        rfl
    unfold qT21
    rw [k1, k2, eqLn_self, t24]
    rfl
theorem reflect_yes {a b : Ln} {p q : P2} (ha : a.valid = true) (hb : b.valid = true) (hp : valP p = true) (hq : valP q = true) : qT4 a b p q = yes := by
  unfold qT4
  cases ho : rpO a p with
  | false => rfl
  | true =>
  have hl := ha
  unfold Ln.valid at hl
  rw [Bool.and_eq_true] at hl
  have b1 := inB_iff.1 hl.1
  obtain ⟨A1, A2, W, hR⟩ := rf_ex hl.1 hl.2
  obtain ⟨v, V, h⟩ := tw_of ha hR hp ho
  have t18 := lines_yes ha hb
  have t14 : qT14 a b p q (rpP a p) = yes := by
    unfold qT14
    rw [t18]
    cases h2 : rpO a q with
    | false => rfl
    | true =>
    cases h3 : decide (dofV p q ≥ 0) with
    | false => rfl
    | true =>
      have ed : dofV p q = dirV p q := by unfold dofV; rw [hp, hq]; rfl
      rw [ed] at h3
      have hd : ¬ dirV p q < 0 := by have : dirV p q ≥ 0 := by simpa using h3
                                     omega
      obtain ⟨u, U, g⟩ := tw_of ha hR hq h2
      obtain ⟨k1, k2⟩ := tw_dir ha hR hp hq ho h2 h g hd
      have b2 := inB_iff.1 k2
      rw [k1, ed, wr_in (n := 2 * a.d) (by omega) (by omega), wr_in (n := 2 * a.d - dirV p q) (by omega) (by omega), wr_in (by omega) (by omega), Int.tmod_eq_emod_of_nonneg (by omega),
        show (2 * a.d - dirV p q + 16) % 16 = (2 * a.d - dirV p q) % 16 by omega, bne_self_eq_false]
      rfl
  have t11 : qT11 a b p q (rpP a p) = yes := by
    unfold qT11
    rw [t14]
    cases hm : moO p (rpP a p) with
    | false => rfl
    | true =>
      rw [tw_mid ha hR hp ho h hm]
      rfl
  obtain ⟨k1, k2⟩ := tw_back ha hR hp ho h
  obtain ⟨s1, s2, _⟩ := tw_side ha hR hp ho h
  have bd := so_bd a p
  have e4 : (eqP2 (rpP a p) p != (soV a p == 0)) = false := by
    cases he : eqP2 (rpP a p) p with
    | true =>
      rw [s2.1 (eqP2_eq he)]
      rfl
    | false =>
      cases hz : (soV a p == 0) with
      | false => rfl
      | true =>
        have hz' : soV a p = 0 := by simpa using hz
        rw [s2.2 hz', eqP2_self] at he
        cases he
  unfold qT8
  rw [k1, k2, eqP2_self, s1, wr_neg bd, e4, t11, bne_self_eq_false]
  rfl

/-! ### the contract of the reflection of any point that is a foot -/
def ftB (p : P2) : Bool := decide ((0 ≤ p.x.k ∧ p.x.k ≤ 13) ∧ (0 ≤ p.y.k ∧ p.y.k ≤ 13)) && decide (((p.x.a * 2 ^ (13 - p.x.k.toNat)).natAbs ≤ 1073741824 ∧ (p.x.b * 2 ^ (13 - p.x.k.toNat)).natAbs ≤ 1073741824) ∧
  ((p.y.a * 2 ^ (13 - p.y.k.toNat)).natAbs ≤ 1073741824 ∧ (p.y.b * 2 ^ (13 - p.y.k.toNat)).natAbs ≤ 1073741824))
theorem ftB_pv {p : P2} (h : ftB p = true) : ∃ v, PV 13 p v 1073741824 := by
  unfold ftB at h
  simp only [Bool.and_eq_true, decide_eq_true_eq] at h
  obtain ⟨⟨⟨h1, h2⟩, h3, h4⟩, ⟨h5, h6⟩, h7, h8⟩ := h
  exact ⟨⟨_, _, _, _⟩, ⟨⟨h1, h2, rfl, rfl⟩, h5, h6⟩, ⟨⟨h3, h4, rfl, rfl⟩, h7, h8⟩⟩
theorem pv_ftB {p : P2} {v : V4} (h : PV 13 p v 1073741824) : ftB p = true := by
  obtain ⟨⟨vx, ax, bx⟩, ⟨vy, ay, by_⟩⟩ := h
  rw [vx.a] at ax
  rw [vx.b] at bx
  rw [vy.a] at ay
  rw [vy.b] at by_
  unfold ftB
  simp only [Bool.and_eq_true, decide_eq_true_eq]
  exact ⟨⟨⟨vx.k0, vx.kS⟩, vy.k0, vy.kS⟩, ⟨ax, bx⟩, ay, by_⟩
theorem rp13 {d : Int} {off : N3} {p : P2} (hd : inB d 0 7 = true) (ho : validB off = true) (hp : ftB p = true) : Rp (nrm d) p off := by
  obtain ⟨v, hv⟩ := ftB_pv hp
  obtain ⟨A1, A2, W, hR⟩ := rf_ex hd ho
  exact (hR.r p v hv).2.2.2
/-- A reflected line: no step wraps. -/
theorem rl_ok {a b : Ln} (ha : a.valid = true) (hb : b.valid = true) : ftB (footF (nrm b.d) b.o) = true ∧ (inB (wr (rlD a b + 4)) 0 15 && pkD (nrm (rlD a b)) (rflI (nrm a.d) a.o (footF (nrm b.d) b.o))) = true ∧ and64 (wr (wr (2 * a.d) - b.d)) 7 = rlD a b := by
  unfold Ln.valid at ha hb
  rw [Bool.and_eq_true] at ha hb
  obtain ⟨A1, A2, W, hR⟩ := rf_ex ha.1 ha.2
  obtain ⟨B1, B2, f, hf⟩ := foot13 hb.1 hb.2
  obtain ⟨_, _, k, _⟩ := rl_val hR hf
  have b1 := inB_iff.1 ha.1
  have b2 := inB_iff.1 hb.1
  refine ⟨pv_ftB hf.pv, ?_, ?_⟩
  · rw [nrm_in (rlD_in a b), k]
    rfl
  · rw [and64_7, wr_in (n := 2 * a.d) (by omega) (by omega), wr_in (by omega) (by omega)]
    rfl
end Go.Ev
