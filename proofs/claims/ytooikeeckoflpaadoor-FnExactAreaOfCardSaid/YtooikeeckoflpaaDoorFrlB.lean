/- Lines reflected: twice gives the line back; the common point. -/
import Derived.Test.YtooikeeckoflpaaDoorFrlA
set_option linter.unusedVariables false
set_option linter.unusedSimpArgs false
namespace Go.Ev

/-- The foot of a line over 2^13. -/
structure Fo (d : Int) (off : N3) (O1 O2 : Int) (f : V4) : Prop where
  o : VB 10 off O1 O2 134217728
  pv : PV 13 (footF (nrm d) off) f 1073741824
  a : dtA (d + 4) f = 8 * O1
  b : dtB (d + 4) f = 8 * O2
theorem vb_of {S M K : Nat} {x : N3} {A B : Int} (h : VB S x A B M) (ha : A.natAbs ≤ K) (hb : B.natAbs ≤ K) : VB S x A B K := ⟨h.v, ha, hb⟩
theorem foot13 {d : Int} {off : N3} (hd : inB d 0 7 = true) (ho : validB off = true) : ∃ O1 O2 f, Fo d off O1 O2 f := by
  obtain ⟨O1, O2, vo⟩ := valid_vb ho
  have main : ∀ {c1 e1 c2 e2 na nb : Int} {E : Nat} (E' : Nat), E + E' = 3 → Nv (nrm d) c1 e1 c2 e2 na nb E → vC1 (d + 4) = c1 → vE1 (d + 4) = e1 → vC2 (d + 4) = c2 → vE2 (d + 4) = e2 →
      (∀ Q1 Q2, Q1 = O1 * na - 2 * O2 * nb → Q2 = O2 * na - O1 * nb → (((Q1 * c1 + 2 * Q2 * e1) * 2 ^ E').natAbs ≤ 1073741824 ∧ ((Q1 * e1 + Q2 * c1) * 2 ^ E').natAbs ≤ 1073741824) ∧ (((Q1 * c2 + 2 * Q2 * e2) * 2 ^ E').natAbs ≤ 1073741824 ∧ ((Q1 * e2 + Q2 * c2) * 2 ^ E').natAbs ≤ 1073741824) ∧
        c1 * ((Q1 * c1 + 2 * Q2 * e1) * 2 ^ E') + 2 * e1 * ((Q1 * e1 + Q2 * c1) * 2 ^ E') + (c2 * ((Q1 * c2 + 2 * Q2 * e2) * 2 ^ E') + 2 * e2 * ((Q1 * e2 + Q2 * c2) * 2 ^ E')) = 8 * O1 ∧
        c1 * ((Q1 * e1 + Q2 * c1) * 2 ^ E') + e1 * ((Q1 * c1 + 2 * Q2 * e1) * 2 ^ E') + (c2 * ((Q1 * e2 + Q2 * c2) * 2 ^ E') + e2 * ((Q1 * c2 + 2 * Q2 * e2) * 2 ^ E')) = 8 * O2) → ∃ O1 O2 f, Fo d off O1 O2 f := by
    intro c1 e1 c2 e2 na nb E E' hEE hn v1 v2 v3 v4 hall
    have hSE : 10 + E ≤ 1000 := by omega
    have ho1 := hn.o
    have hz := hn.z
    have he := hn.e
    have hq := hn.q
    obtain ⟨_, _, w, wl⟩ := vo.div (y := dotF (nrm d) (nrm d)) (E := E) (by rw [hq]; exact hn.h5) (by rw [hq]; exact hn.h6) (by rw [hq]) (by rw [hq]; exact .inl ho1) (by rw [hq]; exact hz) (by rw [hq]; exact he) hSE (by decide) (by decide)
    rw [hq, ho1] at w
    simp only [Int.one_mul] at w
    rw [← hq] at w
    obtain ⟨⟨b1, b2⟩, ⟨b3, b4⟩, s1, s2⟩ := hall _ _ rfl rfl
    generalize O1 * na - 2 * O2 * nb = Q1 at *
    generalize O2 * na - O1 * nb = Q2 at *
    have hx : (nrm d).x = ⟨c1, e1, 0⟩ := by rw [hn.eq]
    have hy : (nrm d).y = ⟨c2, e2, 0⟩ := by rw [hn.eq]
    have vx : Val 0 (nrm d).x c1 e1 := by rw [hx]; exact Val.mk0 _ _
    have vy : Val 0 (nrm d).y c2 e2 := by rw [hy]; exact Val.mk0 _ _
    obtain ⟨f1, l1⟩ := w.mulv vx hn.h1 hn.h2 hSE (by decide)
    obtain ⟨f2, l2⟩ := w.mulv vy hn.h3 hn.h4 hSE (by decide)
    have g1 := lift_vb f1 (E := E') (by omega)
    have g2 := lift_vb f2 (E := E') (by omega)
    rw [show 10 + E + E' = 13 by omega] at g1 g2
    refine ⟨O1, O2, ⟨(Q1 * c1 + 2 * Q2 * e1) * 2 ^ E', (Q1 * e1 + Q2 * c1) * 2 ^ E', (Q1 * c2 + 2 * Q2 * e2) * 2 ^ E', (Q1 * e2 + Q2 * c2) * 2 ^ E'⟩, vo, ⟨vb_of g1 b1 b2, vb_of g2 b3 b4⟩, ?_, ?_⟩
    · unfold dtA
      rw [v1, v2, v3, v4]
      exact s1
    · unfold dtB
      rw [v1, v2, v3, v4]
      exact s2
  have q1 := vo.a
  have q2 := vo.b
  rcases nv_all hd with ⟨rfl, hn⟩ | ⟨rfl, hn⟩ | ⟨rfl, hn⟩ | ⟨rfl, hn⟩ | ⟨rfl, hn⟩ | ⟨rfl, hn⟩ | ⟨rfl, hn⟩ | ⟨rfl, hn⟩
  · exact main 3 rfl hn rfl rfl rfl rfl fun Q1 Q2 h1 h2 => by clear main vo hn ho; refine ⟨⟨?_, ?_⟩, ⟨?_, ?_⟩, ?_, ?_⟩ <;> omega
  · exact main 0 rfl hn rfl rfl rfl rfl fun Q1 Q2 h1 h2 => by clear main vo hn ho; refine ⟨⟨?_, ?_⟩, ⟨?_, ?_⟩, ?_, ?_⟩ <;> omega
  · exact main 1 rfl hn rfl rfl rfl rfl fun Q1 Q2 h1 h2 => by clear main vo hn ho; refine ⟨⟨?_, ?_⟩, ⟨?_, ?_⟩, ?_, ?_⟩ <;> omega
  · exact main 0 rfl hn rfl rfl rfl rfl fun Q1 Q2 h1 h2 => by clear main vo hn ho; refine ⟨⟨?_, ?_⟩, ⟨?_, ?_⟩, ?_, ?_⟩ <;> omega
  · exact main 3 rfl hn rfl rfl rfl rfl fun Q1 Q2 h1 h2 => by clear main vo hn ho; refine ⟨⟨?_, ?_⟩, ⟨?_, ?_⟩, ?_, ?_⟩ <;> omega
  · exact main 0 rfl hn rfl rfl rfl rfl fun Q1 Q2 h1 h2 => by clear main vo hn ho; refine ⟨⟨?_, ?_⟩, ⟨?_, ?_⟩, ?_, ?_⟩ <;> omega
  · exact main 1 rfl hn rfl rfl rfl rfl fun Q1 Q2 h1 h2 => by clear main vo hn ho; refine ⟨⟨?_, ?_⟩, ⟨?_, ?_⟩, ?_, ?_⟩ <;> omega
  · exact main 0 rfl hn rfl rfl rfl rfl fun Q1 Q2 h1 h2 => by clear main vo hn ho; refine ⟨⟨?_, ?_⟩, ⟨?_, ?_⟩, ?_, ?_⟩ <;> omega

/-! ### the linear part -/
theorem dt_ad (e : Int) (u v : V4) : dtA e (ad u v) = dtA e u + dtA e v ∧ dtB e (ad u v) = dtB e u + dtB e v := by
  unfold dtA dtB ad
  constructor <;> simp only <;> grind
theorem dt_sc (e z : Int) (u : V4) : dtA e (sc z u) = dtA e u * z ∧ dtB e (sc z u) = dtB e u * z := by
  unfold dtA dtB sc
  constructor <;> simp only <;> grind
theorem lr_ad {d : Int} (hd : inB d 0 7 = true) (u v : V4) : lr d (ad u v) = ad (lr d u) (lr d v) := by
  unfold lr
  rw [(fl_lin true u v).1, (tv_lin hd _ _).1]
theorem lr_mi {d : Int} (hd : inB d 0 7 = true) (u : V4) : lr d (mi u) = mi (lr d u) := by
  unfold lr
  rw [fl_mi, (tv_lin hd _ (fl true u)).2.2]
theorem lr_sc {d : Int} (hd : inB d 0 7 = true) (n : Nat) (u : V4) : lr d (sc (2 ^ n) u) = sc (2 ^ n) (lr d u) := by
  unfold lr
  rw [fl_sc, tv_sc hd]
theorem lr_sc8 {d : Int} (hd : inB d 0 7 = true) (u : V4) : lr d (sc 8 u) = sc 8 (lr d u) := lr_sc hd 3 u
theorem lr_sc4 {d : Int} (hd : inB d 0 7 = true) (u : V4) : lr d (sc 4 u) = sc 4 (lr d u) := lr_sc hd 2 u
theorem lr_lr {d : Int} (hd : inB d 0 7 = true) (u : V4) : lr d (lr d u) = sc 4 u := by
  unfold lr
  rw [tv_cmp hd hd true true u, show cmpT d d true = 0 by unfold cmpT; simp, show (true != true) = false from rfl]
  show db (tv 0 u) = _
  rw [(tv_all u).1]
  apply V4.ext' <;> simp only [db, sc] <;> omega
/-- What is on a line is on the line's reflection. -/
theorem zt {d e : Int} (hd : inB d 0 7 = true) (he : inB e 0 7 = true) {u : V4} (h1 : dtA (e + 4) u = 0) (h2 : dtB (e + 4) u = 0) : dtA ((2 * d - e) % 8 + 4) (lr d u) = 0 ∧ dtB ((2 * d - e) % 8 + 4) (lr d u) = 0 := by
  have h := sgD_moved (m := ⟨d, true, zP⟩) u hd he
  have he' := inB_iff.1 he
  have hd' := inB_iff.1 hd
  have e1 : dirM ⟨d, true, zP⟩ e % 8 = (2 * d - e) % 8 := by unfold dirM; simp only [cond_true]; omega
  rw [e1] at h
  have z : sgD (e + 4) u = 0 := by unfold sgD; rw [h1, h2]; rfl
  rw [z] at h
  apply sgZ_eq_zero
  change sgD ((2 * d - e) % 8 + 4) (lr d u) = 0
  change sgD ((2 * d - e) % 8 + 4) (lr d u) = _ at h
  rw [h]
  cases decide (dirM ⟨d, true, zP⟩ e ≥ 8) <;> rfl

/-! ### lines reflected -/
def rlD (a b : Ln) : Int := (2 * a.d - b.d) % 8
def rlX (a b : Ln) : N3 := offV (rlD a b) (rflI (nrm a.d) a.o (footF (nrm b.d) b.o))
def rlO (a b : Ln) : Bool := (a.valid && b.valid) && validB (rlX a b)
def rlL (a b : Ln) : Ln := ⟨cond (rlO a b) (rlD a b) 0, sel (rlO a b) (rlX a b)⟩
theorem rlD_in (a b : Ln) : inB (rlD a b) 0 7 = true := inB_iff.2 (by unfold rlD; omega)
theorem rl_val {a b : Ln} {A1 A2 B1 B2 : Int} {W f : V4} (ha : Rf a.d a.o A1 A2 W) (hb : Fo b.d b.o B1 B2 f) :
    VB 16 (rlX a b) (dtA (rlD a b + 4) (ad (sc 4 (lr a.d f)) W)) (dtB (rlD a b + 4) (ad (sc 4 (lr a.d f)) W)) 48000000000000 ∧ lowB (rlX a b) ∧ pkD (nrm (rlD a b)) (rflI (nrm a.d) a.o (footF (nrm b.d) b.o)) = true ∧ Rp (nrm a.d) (footF (nrm b.d) b.o) a.o := by
  obtain ⟨r1, _, _, r4⟩ := ha.r _ _ hb.pv
  obtain ⟨o1, o2, o3⟩ := off_vb (rlD_in a b) r1 (by decide) (by decide)
  exact ⟨o1, o2, o3, r4⟩
theorem lift6 {x : N3} {A B : Int} {M : Nat} (h : VB 10 x A B M) : Val 16 x (64 * A) (64 * B) := by
  have := h.v.lift 6
  rw [show A * 2 ^ 6 = 64 * A by omega, show B * 2 ^ 6 = 64 * B by omega] at this
  exact this
theorem val_same {S : Nat} {x : N3} {A B C D : Int} (h : Val S x A B) (g : Val S x C D) : A = C ∧ B = D := ⟨h.a.trans g.a.symm, h.b.trans g.b.symm⟩
theorem rl_back {a b : Ln} (ha : a.valid = true) (hb : b.valid = true) (ho : rlO a b = true) : rlO a (rlL a b) = true ∧ rlL a (rlL a b) = b := by
  have ha' := ha
  have hb' := hb
  unfold Ln.valid at ha' hb'
  rw [Bool.and_eq_true] at ha' hb'
  obtain ⟨A1, A2, W, hR⟩ := rf_ex ha'.1 ha'.2
  obtain ⟨B1, B2, f, hf⟩ := foot13 hb'.1 hb'.2
  obtain ⟨v1, l1, _⟩ := rl_val hR hf
  have vX : validB (rlX a b) = true := by unfold rlO at ho; rw [Bool.and_eq_true] at ho; exact ho.2
  have eL : rlL a b = ⟨rlD a b, rlX a b⟩ := by unfold rlL; rw [ho]; rfl
  have hD := rlD_in a b
  obtain ⟨X1, X2, g, hg⟩ := foot13 hD vX
  have hg' : Fo (rlL a b).d (rlL a b).o X1 X2 g := by rw [eL]; exact hg
  obtain ⟨w1, m1, _⟩ := rl_val hR hg'
  have b8 := inB_iff.1 hb'.1
  have eD : rlD a (rlL a b) = b.d := by rw [eL]; unfold rlD; simp only; omega
  obtain ⟨x1, x2⟩ := val_same (lift6 hg.o) v1.v
  -- the foot of the reflected line less the reflected foot
  have z := zt (d := a.d) (e := rlD a b) ha'.1 hD (u := ad (sc 8 g) (mi (ad (sc 4 (lr a.d f)) W)))
    (by rw [(dt_lin _ _ _ _).1, hg.a, ← x1]; omega) (by rw [(dt_lin _ _ _ _).2, hg.b, ← x2]; omega)
  have e1 : (2 * a.d - rlD a b) % 8 = b.d := by unfold rlD; omega
  rw [e1, lr_ad ha'.1, lr_mi ha'.1, lr_ad ha'.1, lr_sc8 ha'.1, lr_sc4 ha'.1, lr_lr ha'.1] at z
  have ez : lr a.d W = mi (db W) := by
    have := hR.z
    simp only [ad, db, V4.mk.injEq] at this
    obtain ⟨t1, t2, t3, t4⟩ := this
    apply V4.ext' <;> simp only [mi, db] <;> omega
  rw [ez] at z
  have fin : dtA (b.d + 4) (ad (sc 4 (lr a.d g)) W) = 64 * B1 ∧ dtB (b.d + 4) (ad (sc 4 (lr a.d g)) W) = 64 * B2 := by
    have k1 := hf.a
    have k2 := hf.b
    obtain ⟨z1, z2⟩ := z
    have n1 : ∀ v : V4, dtA (b.d + 4) (mi v) = -dtA (b.d + 4) v := fun v => (cr_mi _ v).2.2.1
    have n2 : ∀ v : V4, dtB (b.d + 4) (mi v) = -dtB (b.d + 4) v := fun v => (cr_mi _ v).2.2.2
    have n3 : ∀ v : V4, dtA (b.d + 4) (db v) = 2 * dtA (b.d + 4) v := fun v => by unfold dtA db; grind
    have n4 : ∀ v : V4, dtB (b.d + 4) (db v) = 2 * dtB (b.d + 4) v := fun v => by unfold dtB db; grind
    simp only [(dt_ad _ _ _).1, (dt_ad _ _ _).2, (dt_sc _ _ _).1, (dt_sc _ _ _).2, n1, n2, n3, n4] at z1 z2 ⊢
    rw [k1] at z1
    rw [k2] at z2
    clear n1 n2 n3 n4 v1 w1 x1 x2
    constructor <;> omega
  rw [eD] at w1
  change VB 16 _ (dtA (b.d + 4) (ad (sc 4 (lr a.d g)) W)) (dtB (b.d + 4) (ad (sc 4 (lr a.d g)) W)) _ at w1
  rw [fin.1, fin.2] at w1
  have eo : rlX a (rlL a b) = b.o := w1.v.uniq (lift6 hf.o) m1 (valid_low hb'.2)
  have vl : (rlL a b).valid = true := by rw [eL]; unfold Ln.valid; rw [hD, vX]; rfl
  have ok : rlO a (rlL a b) = true := by
    unfold rlO
    rw [ha, vl, eo, hb'.2]
    rfl
  refine ⟨ok, ?_⟩
  have : rlL a (rlL a b) = ⟨rlD a (rlL a b), rlX a (rlL a b)⟩ := by rw [show rlL a (rlL a b) = ⟨cond (rlO a (rlL a b)) (rlD a (rlL a b)) 0, sel (rlO a (rlL a b)) (rlX a (rlL a b))⟩ from rfl, ok]; rfl
  rw [this, eD, eo]
/-- The common point of two lines is on the reflected line. -/
theorem rl_meet {a b : Ln} (ha : a.valid = true) (hb : b.valid = true) (ho : rlO a b = true) (hm : mtC a b = 0) : soV (rlL a b) (mtQ a b) = 0 := by
  have ha' := ha
  have hb' := hb
  unfold Ln.valid at ha' hb'
  rw [Bool.and_eq_true] at ha' hb'
  have hne : (a.d == b.d) = false := by
    cases h : (a.d == b.d) with
    | false => rfl
    | true => unfold mtC at hm; rw [ha, hb, h] at hm; exact absurd hm (by show ¬ (7 : Int) = 0; decide)
  obtain ⟨A1, A2, W, hR⟩ := rf_ex ha'.1 ha'.2
  obtain ⟨B1, B2, f, hf⟩ := foot13 hb'.1 hb'.2
  obtain ⟨v1, _, _⟩ := rl_val hR hf
  have vX : validB (rlX a b) = true := by unfold rlO at ho; rw [Bool.and_eq_true] at ho; exact ho.2
  have eL : rlL a b = ⟨rlD a b, rlX a b⟩ := by unfold rlL; rw [ho]; rfl
  have hD := rlD_in a b
  obtain ⟨X1, X2, vx⟩ := valid_vb vX
  obtain ⟨x1, x2⟩ := val_same (lift6 vx) v1.v
  obtain ⟨c1, e1, c2, e2, na, nb, E1, hn⟩ := nv_ex ha'.1
  obtain ⟨g1, f1, g2, f2, ma, mb, E2, hm2⟩ := nv_ex hb'.1
  obtain ⟨da, db', s, E, h⟩ := mt_val ha'.1 hb'.1 hne hn hm2 hR.o hf.o
  have er : redP (mtW a b) = mtW a b := redP_low h.lx h.ly
  have hv : valP (mtW a b) = true := by
    cases hv : valP (mtW a b) with
    | true => rfl
    | false => unfold mtC at hm; rw [ha, hb, hne, er, hv] at hm; exact absurd hm (by show ¬ (2 : Int) = 0; decide)
  have eq : mtQ a b = mtW a b := by unfold mtQ; rw [ha, hb, hne, er, hv]; rfl
  obtain ⟨P, hP⟩ := valP_pv hv
  obtain ⟨⟨o1, o2⟩, o3, o4⟩ := mt_on h hP
  obtain ⟨d1, _⟩ := dot_vb hn hP
  obtain ⟨d2, _⟩ := dot_vb hm2 hP
  obtain ⟨q1, _⟩ := nrm_dot ha'.1 hP
  obtain ⟨q2, _⟩ := nrm_dot hb'.1 hP
  obtain ⟨u1, u2⟩ := val_same q1.v d1.v
  obtain ⟨u3, u4⟩ := val_same q2.v d2.v
  rw [o1] at u1
  rw [o2] at u2
  rw [o3] at u3
  rw [o4] at u4
  -- the point reflected is itself
  have r := hR.f (sc 8 P) (by rw [(dt_sc _ _ _).1, u1]; omega) (by rw [(dt_sc _ _ _).2, u2]; omega)
  have z := zt (d := a.d) (e := b.d) ha'.1 hb'.1 (u := ad (sc 8 P) (mi f)) (by rw [(dt_lin _ _ _ _).1, u3, hf.a]; omega) (by rw [(dt_lin _ _ _ _).2, u4, hf.b]; omega)
  rw [lr_ad ha'.1, lr_mi ha'.1] at z
  have fin : dtA (rlD a b + 4) P = X1 ∧ dtB (rlD a b + 4) P = X2 := by
    obtain ⟨z1, z2⟩ := z
    change dtA (rlD a b + 4) _ = 0 at z1
    change dtB (rlD a b + 4) _ = 0 at z2
    have r1 := congrArg (dtA (rlD a b + 4)) r
    have r2 := congrArg (dtB (rlD a b + 4)) r
    have n1 : ∀ v : V4, dtA (rlD a b + 4) (mi v) = -dtA (rlD a b + 4) v := fun v => (cr_mi _ v).2.2.1
    have n2 : ∀ v : V4, dtB (rlD a b + 4) (mi v) = -dtB (rlD a b + 4) v := fun v => (cr_mi _ v).2.2.2
    simp only [(dt_ad _ _ _).1, (dt_ad _ _ _).2, (dt_sc _ _ _).1, (dt_sc _ _ _).2, n1, n2] at z1 z2 r1 r2 x1 x2
    constructor <;> omega
  have vl : (rlL a b).valid = true := by rw [eL]; unfold Ln.valid; rw [hD, vX]; rfl
  unfold soV
  rw [vl, eq, hv, eL]
  show sgF (subF (offV (rlD a b) (mtW a b)) (rlX a b)) = 0
  obtain ⟨np, _⟩ := nrm_dot hD hP
  rw [(np.sub vx (by decide) (by decide)).1.v.sg, fin.1, fin.2, Int.sub_self, Int.sub_self]
  rfl
end Go.Ev
