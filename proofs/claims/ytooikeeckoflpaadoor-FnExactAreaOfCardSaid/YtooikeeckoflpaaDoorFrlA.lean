/- Reflections at a fine scale; the foot of a line reflected. -/
import Derived.Test.YtooikeeckoflpaaDoorMlnC
set_option linter.unusedVariables false
set_option linter.unusedSimpArgs false
namespace Go.Ev

theorem vC1_10 : vC1 10 = -1 := rfl
theorem vE1_10 : vE1 10 = 0 := rfl
theorem vC2_10 : vC2 10 = -1 := rfl
theorem vE2_10 : vE2 10 = 0 := rfl
theorem vC1_11 : vC1 11 = 1 := rfl
theorem vE1_11 : vE1 11 = -1 := rfl
theorem vC2_11 : vC2 11 = -1 := rfl
theorem vE2_11 : vE2 11 = 0 := rfl
theorem VB.half {S : Nat} {x : N3} {A B : Int} {M : Nat} (h : VB S x A B M) (hS : S ≤ 999) (hM : M < 9223372036854775808) : VB (S + 1) (halfF x) A B M ∧ lowB (halfF x) := by
  have k0 := h.v.k0
  have kS := h.v.kS
  have e : wr (x.k + 1) = x.k + 1 := wr_in (by omega) (by omega)
  have hv : Val (S + 1) ⟨x.a, x.b, x.k + 1⟩ A B := by
    have es : S + 1 - (x.k + 1).toNat = S - x.k.toNat := by omega
    refine ⟨by show 0 ≤ x.k + 1; omega, by show x.k + 1 ≤ _; omega, ?_, ?_⟩
    · show _ = x.a * 2 ^ (S + 1 - (x.k + 1).toNat)
      rw [es]; exact h.v.a
    · show _ = x.b * 2 ^ (S + 1 - (x.k + 1).toNat)
      rw [es]; exact h.v.b
  obtain ⟨r, l⟩ := hv.red (by omega) (Nat.lt_of_le_of_lt h.a hM) (Nat.lt_of_le_of_lt h.b hM)
  unfold halfF
  rw [e]
  exact ⟨⟨r, h.a, h.b⟩, l⟩
theorem dot_vb13 {n p : P2} {c1 e1 c2 e2 na nb : Int} {E : Nat} {v : V4} (hn : Nv n c1 e1 c2 e2 na nb E) (hv : PV 13 p v 1073741824) :
    VB 13 (dotF n p) (c1 * v.a + 2 * e1 * v.b + (c2 * v.c + 2 * e2 * v.d)) (c1 * v.b + e1 * v.a + (c2 * v.d + e2 * v.c)) 6442450944 ∧ pkD n p = true := by
  obtain ⟨m1, _⟩ := VB.vmul (Val.mk0 c1 e1) hn.h1 hn.h2 hv.x (by decide) (by decide)
  obtain ⟨m2, _⟩ := VB.vmul (Val.mk0 c2 e2) hn.h3 hn.h4 hv.y (by decide) (by decide)
  obtain ⟨a1, a2⟩ := m1.add m2 (by decide) (by decide)
  rw [hn.eq]
  refine ⟨a1, ?_⟩
  unfold pkD
  rw [(pk_val (Val.mk0 c1 e1) hv.x.v (by decide) (by decide)).2, (pk_val (Val.mk0 c2 e2) hv.y.v (by decide) (by decide)).2, m1.pk m2 (by decide)]
  rfl
/-- No step of the reflection wraps. -/
structure Rp (n p : P2) (off : N3) : Prop where
  k1 : pkD n p = true
  k2 : pk off (dotF n p) = true
  k3 : pkD n n = true
  k4 : dvP (subF off (dotF n p)) (dotF n n) = true
  k5 : pk (dvF (subF off (dotF n p)) (dotF n n)) (dvF (subF off (dotF n p)) (dotF n n)) = true
  k6 : pkT n (addF (dvF (subF off (dotF n p)) (dotF n n)) (dvF (subF off (dotF n p)) (dotF n n))) = true
  k7 : pkP p (timesF n (addF (dvF (subF off (dotF n p)) (dotF n n)) (dvF (subF off (dotF n p)) (dotF n n)))) = true
theorem rfl_val13 {n p : P2} {off : N3} {c1 e1 c2 e2 na nb O1 O2 : Int} {E : Nat} {v : V4} (hn : Nv n c1 e1 c2 e2 na nb E) (hv : PV 13 p v 1073741824) (ho : VB 13 off O1 O2 1073741824) :
    PV (13 + E) (rflI n off p) (rv c1 e1 c2 e2 (tA c1 e1 c2 e2 O1 v * na - 2 * tB c1 e1 c2 e2 O2 v * nb) (tB c1 e1 c2 e2 O2 v * na - tA c1 e1 c2 e2 O1 v * nb) E v) 1000000000000 ∧ lowB (rflI n off p).x ∧ lowB (rflI n off p).y ∧ Rp n p off := by
  obtain ⟨dv, kd⟩ := dot_vb13 hn hv
  obtain ⟨v1, _⟩ := ho.sub dv (by decide) (by decide)
  have hl := hn.l
  have hSE : 13 + E ≤ 1000 := by omega
  have ho1 := hn.o
  have hz := hn.z
  have he := hn.e
  have hq := hn.q
  have kn : pkD n n = true := by
    rw [hn.eq]
    exact (dot_val (p := ⟨⟨c1, e1, 0⟩, ⟨c2, e2, 0⟩⟩) (M := 1) hn.h1 hn.h2 hn.h3 hn.h4 ⟨Val.mk0 c1 e1, hn.h1, hn.h2⟩ ⟨Val.mk0 c2 e2, hn.h3, hn.h4⟩ (by decide) (by decide)).1
  obtain ⟨d1, _, w1, _⟩ := v1.div (y := dotF n n) (E := E) (by rw [hq]; exact hn.h5) (by rw [hq]; exact hn.h6) (by rw [hq]) (by rw [hq]; exact .inl ho1) (by rw [hq]; exact hz) (by rw [hq]; exact he) hSE (by decide) (by decide)
  rw [hq, ho1] at w1
  simp only [Int.one_mul] at w1
  change VB (13 + E) _ (tA c1 e1 c2 e2 O1 v * na - 2 * tB c1 e1 c2 e2 O2 v * nb) (tB c1 e1 c2 e2 O2 v * na - tA c1 e1 c2 e2 O1 v * nb) _ at w1
  rw [← hq] at w1
  have hx : n.x = ⟨c1, e1, 0⟩ := by rw [hn.eq]
  have hy : n.y = ⟨c2, e2, 0⟩ := by rw [hn.eq]
  have vx : Val 0 n.x c1 e1 := by rw [hx]; exact Val.mk0 _ _
  have vy : Val 0 n.y c2 e2 := by rw [hy]; exact Val.mk0 _ _
  have k2 := ho.pk dv (by decide)
  have hr : rflI n off p = addP p (timesF n (addF (dvF (subF off (dotF n p)) (dotF n n)) (dvF (subF off (dotF n p)) (dotF n n)))) := rfl
  have hb : Rp n p off ↔ (pk (dvF (subF off (dotF n p)) (dotF n n)) (dvF (subF off (dotF n p)) (dotF n n)) = true ∧ pkT n (addF (dvF (subF off (dotF n p)) (dotF n n)) (dvF (subF off (dotF n p)) (dotF n n))) = true ∧ pkP p (timesF n (addF (dvF (subF off (dotF n p)) (dotF n n)) (dvF (subF off (dotF n p)) (dotF n n)))) = true) :=
    ⟨fun h => ⟨h.k5, h.k6, h.k7⟩, fun h => ⟨kd, k2, kn, d1, h.1, h.2.1, h.2.2⟩⟩
  rw [hr, hb]
  clear hr hb d1 kn k2
  generalize dvF (subF off (dotF n p)) (dotF n n) = q at *
  generalize tA c1 e1 c2 e2 O1 v * na - 2 * tB c1 e1 c2 e2 O2 v * nb = Q1 at *
  generalize tB c1 e1 c2 e2 O2 v * na - tA c1 e1 c2 e2 O1 v * nb = Q2 at *
  obtain ⟨t1, _⟩ := w1.add w1 hSE (by decide)
  obtain ⟨u1, _⟩ := VB.vmul vx hn.h1 hn.h2 t1 hSE (by decide)
  obtain ⟨u2, _⟩ := VB.vmul vy hn.h3 hn.h4 t1 hSE (by decide)
  obtain ⟨r1, r2⟩ := (lift_vb hv.x hl).add u1 hSE (by decide)
  obtain ⟨r3, r4⟩ := (lift_vb hv.y hl).add u2 hSE (by decide)
  have b1 := r1.more (K := 1000000000000) (by decide)
  have b2 := r3.more (K := 1000000000000) (by decide)
  refine ⟨⟨b1, b2⟩, r2, r4, w1.pk w1 hSE, ?_, ?_⟩
  · unfold pkT
    rw [(pk_val vx t1.v (by decide) hSE).2, (pk_val vy t1.v (by decide) hSE).2]
    rfl
  · unfold pkP timesF
    rw [(lift_vb hv.x hl).pk u1 hSE, (lift_vb hv.y hl).pk u2 hSE]
    rfl
/-- The linear part of the reflection in a line with direction d. -/
def lr (d : Int) (v : V4) : V4 := tv d (fl true v)
/-- Reflecting as a map from whole numbers over 2^13 to whole numbers over 2^16. -/
structure Rf (d : Int) (off : N3) (O1 O2 : Int) (W : V4) : Prop where
  o : VB 10 off O1 O2 134217728
  z : ad (lr d W) (db W) = ⟨0, 0, 0, 0⟩
  r : ∀ (p : P2) (v : V4), PV 13 p v 1073741824 → PV 16 (rflI (nrm d) off p) (ad (sc 4 (lr d v)) W) 8000000000000 ∧ lowB (rflI (nrm d) off p).x ∧ lowB (rflI (nrm d) off p).y ∧ Rp (nrm d) p off
  s : ∀ v : V4, dtA (d + 4) (ad (sc 4 (lr d v)) W) = 128 * O1 - 8 * dtA (d + 4) v ∧ dtB (d + 4) (ad (sc 4 (lr d v)) W) = 128 * O2 - 8 * dtB (d + 4) v
  f : ∀ v : V4, dtA (d + 4) v = 8 * O1 → dtB (d + 4) v = 8 * O2 → ad (sc 4 (lr d v)) W = sc 8 v
def rW (c1 e1 c2 e2 na nb O1 O2 : Int) (E E' : Nat) (v : V4) : V4 :=
  sc (2 ^ E') (rv c1 e1 c2 e2 (tA c1 e1 c2 e2 (8 * O1) v * na - 2 * tB c1 e1 c2 e2 (8 * O2) v * nb) (tB c1 e1 c2 e2 (8 * O2) v * na - tA c1 e1 c2 e2 (8 * O1) v * nb) E v)
theorem rf_ex {d : Int} {off : N3} (hd : inB d 0 7 = true) (ho : validB off = true) : ∃ O1 O2 W, Rf d off O1 O2 W := by
  obtain ⟨O1, O2, vo⟩ := valid_vb ho
  have o13 : VB 13 off (8 * O1) (8 * O2) 1073741824 := by
    have h := lift_vb vo (show 3 ≤ 3 by decide)
    rw [show O1 * 2 ^ 3 = 8 * O1 by omega, show O2 * 2 ^ 3 = 8 * O2 by omega] at h
    exact h
  have main : ∀ {c1 e1 c2 e2 na nb : Int} {E : Nat} (E' : Nat), E + E' = 3 → Nv (nrm d) c1 e1 c2 e2 na nb E →
      (ad (lr d (rW c1 e1 c2 e2 na nb O1 O2 E E' ⟨0, 0, 0, 0⟩)) (db (rW c1 e1 c2 e2 na nb O1 O2 E E' ⟨0, 0, 0, 0⟩)) = ⟨0, 0, 0, 0⟩) →
      (∀ v, rW c1 e1 c2 e2 na nb O1 O2 E E' v = ad (sc 4 (lr d v)) (rW c1 e1 c2 e2 na nb O1 O2 E E' ⟨0, 0, 0, 0⟩)) →
      (∀ v, (dtA (d + 4) (rW c1 e1 c2 e2 na nb O1 O2 E E' v) = 128 * O1 - 8 * dtA (d + 4) v ∧ dtB (d + 4) (rW c1 e1 c2 e2 na nb O1 O2 E E' v) = 128 * O2 - 8 * dtB (d + 4) v) ∧
        (dtA (d + 4) v = 8 * O1 → dtB (d + 4) v = 8 * O2 → rW c1 e1 c2 e2 na nb O1 O2 E E' v = sc 8 v)) → ∃ O1 O2 W, Rf d off O1 O2 W := by
    intro c1 e1 c2 e2 na nb E E' hE hn h0 h1 h2
    refine ⟨O1, O2, rW c1 e1 c2 e2 na nb O1 O2 E E' ⟨0, 0, 0, 0⟩, vo, h0, fun p v hv => ?_, fun v => ?_, fun v => ?_⟩
    · obtain ⟨a, b, c, e⟩ := rfl_val13 hn hv o13
      have k := pv_sc a (E := E') (by omega)
      rw [show 13 + E + E' = 16 by omega] at k
      rw [← h1]
      exact ⟨k, b, c, e⟩
    · rw [← h1]; exact (h2 v).1
    · rw [← h1]; exact (h2 v).2
  clear o13 vo ho
  rcases nv_all hd with ⟨rfl, hn⟩ | ⟨rfl, hn⟩ | ⟨rfl, hn⟩ | ⟨rfl, hn⟩ | ⟨rfl, hn⟩ | ⟨rfl, hn⟩ | ⟨rfl, hn⟩ | ⟨rfl, hn⟩
  · refine main 3 rfl hn ?_ (fun v => ?_) (fun v => ⟨⟨?_, ?_⟩, fun g1 g2 => ?_⟩)
    · unfold lr; rw [(tv_all _).1]; clear main hn; apply V4.ext' <;> simp only [ad, sc, db, rv, tA, tB, fl, rW, cond_true] <;> omega
    · unfold lr; rw [(tv_all _).1]; clear main hn; apply V4.ext' <;> simp only [ad, sc, db, rv, tA, tB, fl, rW, cond_true] <;> omega
    · clear main hn; show dtA 4 _ = _ - 8 * dtA 4 _; unfold dtA; simp only [vC1_4, vE1_4, vC2_4, vE2_4, sc, rv, tA, tB, rW]; omega
    · clear main hn; show dtB 4 _ = _ - 8 * dtB 4 _; unfold dtB; simp only [vC1_4, vE1_4, vC2_4, vE2_4, sc, rv, tA, tB, rW]; omega
    · clear main hn; change dtA 4 _ = _ at g1; change dtB 4 _ = _ at g2; unfold dtA at g1; unfold dtB at g2; simp only [vC1_4, vE1_4, vC2_4, vE2_4] at g1 g2; apply V4.ext' <;> simp only [sc, rv, tA, tB, rW] <;> omega
  · refine main 0 rfl hn ?_ (fun v => ?_) (fun v => ⟨⟨?_, ?_⟩, fun g1 g2 => ?_⟩)
    · unfold lr; rw [(tv_all _).2.1]; clear main hn; apply V4.ext' <;> simp only [ad, sc, db, rv, tA, tB, fl, rW, cond_true] <;> omega
    · unfold lr; rw [(tv_all _).2.1]; clear main hn; apply V4.ext' <;> simp only [ad, sc, db, rv, tA, tB, fl, rW, cond_true] <;> omega
    · clear main hn; show dtA 5 _ = _ - 8 * dtA 5 _; unfold dtA; simp only [vC1_5, vE1_5, vC2_5, vE2_5, sc, rv, tA, tB, rW]; omega
    · clear main hn; show dtB 5 _ = _ - 8 * dtB 5 _; unfold dtB; simp only [vC1_5, vE1_5, vC2_5, vE2_5, sc, rv, tA, tB, rW]; omega
    · clear main hn; change dtA 5 _ = _ at g1; change dtB 5 _ = _ at g2; unfold dtA at g1; unfold dtB at g2; simp only [vC1_5, vE1_5, vC2_5, vE2_5] at g1 g2; apply V4.ext' <;> simp only [sc, rv, tA, tB, rW] <;> omega
  · refine main 1 rfl hn ?_ (fun v => ?_) (fun v => ⟨⟨?_, ?_⟩, fun g1 g2 => ?_⟩)
    · unfold lr; rw [(tv_all _).2.2.1]; clear main hn; apply V4.ext' <;> simp only [ad, sc, db, rv, tA, tB, fl, rW, cond_true] <;> omega
    · unfold lr; rw [(tv_all _).2.2.1]; clear main hn; apply V4.ext' <;> simp only [ad, sc, db, rv, tA, tB, fl, rW, cond_true] <;> omega
    · clear main hn; show dtA 6 _ = _ - 8 * dtA 6 _; unfold dtA; simp only [vC1_6, vE1_6, vC2_6, vE2_6, sc, rv, tA, tB, rW]; omega
    · clear main hn; show dtB 6 _ = _ - 8 * dtB 6 _; unfold dtB; simp only [vC1_6, vE1_6, vC2_6, vE2_6, sc, rv, tA, tB, rW]; omega
    · clear main hn; change dtA 6 _ = _ at g1; change dtB 6 _ = _ at g2; unfold dtA at g1; unfold dtB at g2; simp only [vC1_6, vE1_6, vC2_6, vE2_6] at g1 g2; apply V4.ext' <;> simp only [sc, rv, tA, tB, rW] <;> omega
  · refine main 0 rfl hn ?_ (fun v => ?_) (fun v => ⟨⟨?_, ?_⟩, fun g1 g2 => ?_⟩)
    · unfold lr; rw [(tv_all _).2.2.2.1]; clear main hn; apply V4.ext' <;> simp only [ad, sc, db, rv, tA, tB, fl, rW, cond_true] <;> omega
    · unfold lr; rw [(tv_all _).2.2.2.1]; clear main hn; apply V4.ext' <;> simp only [ad, sc, db, rv, tA, tB, fl, rW, cond_true] <;> omega
    · clear main hn; show dtA 7 _ = _ - 8 * dtA 7 _; unfold dtA; simp only [vC1_7, vE1_7, vC2_7, vE2_7, sc, rv, tA, tB, rW]; omega
    · clear main hn; show dtB 7 _ = _ - 8 * dtB 7 _; unfold dtB; simp only [vC1_7, vE1_7, vC2_7, vE2_7, sc, rv, tA, tB, rW]; omega
    · clear main hn; change dtA 7 _ = _ at g1; change dtB 7 _ = _ at g2; unfold dtA at g1; unfold dtB at g2; simp only [vC1_7, vE1_7, vC2_7, vE2_7] at g1 g2; apply V4.ext' <;> simp only [sc, rv, tA, tB, rW] <;> omega
  · refine main 3 rfl hn ?_ (fun v => ?_) (fun v => ⟨⟨?_, ?_⟩, fun g1 g2 => ?_⟩)
    · unfold lr; rw [(tv_all _).2.2.2.2.1]; clear main hn; apply V4.ext' <;> simp only [ad, sc, db, rv, tA, tB, fl, rW, cond_true] <;> omega
    · unfold lr; rw [(tv_all _).2.2.2.2.1]; clear main hn; apply V4.ext' <;> simp only [ad, sc, db, rv, tA, tB, fl, rW, cond_true] <;> omega
    · clear main hn; show dtA 8 _ = _ - 8 * dtA 8 _; unfold dtA; simp only [vC1_8, vE1_8, vC2_8, vE2_8, sc, rv, tA, tB, rW]; omega
    · clear main hn; show dtB 8 _ = _ - 8 * dtB 8 _; unfold dtB; simp only [vC1_8, vE1_8, vC2_8, vE2_8, sc, rv, tA, tB, rW]; omega
    · clear main hn; change dtA 8 _ = _ at g1; change dtB 8 _ = _ at g2; unfold dtA at g1; unfold dtB at g2; simp only [vC1_8, vE1_8, vC2_8, vE2_8] at g1 g2; apply V4.ext' <;> simp only [sc, rv, tA, tB, rW] <;> omega
  · refine main 0 rfl hn ?_ (fun v => ?_) (fun v => ⟨⟨?_, ?_⟩, fun g1 g2 => ?_⟩)
    · unfold lr; rw [(tv_all _).2.2.2.2.2.1]; clear main hn; apply V4.ext' <;> simp only [ad, sc, db, rv, tA, tB, fl, rW, cond_true] <;> omega
    · unfold lr; rw [(tv_all _).2.2.2.2.2.1]; clear main hn; apply V4.ext' <;> simp only [ad, sc, db, rv, tA, tB, fl, rW, cond_true] <;> omega
    · clear main hn; show dtA 9 _ = _ - 8 * dtA 9 _; unfold dtA; simp only [vC1_9, vE1_9, vC2_9, vE2_9, sc, rv, tA, tB, rW]; omega
    · clear main hn; show dtB 9 _ = _ - 8 * dtB 9 _; unfold dtB; simp only [vC1_9, vE1_9, vC2_9, vE2_9, sc, rv, tA, tB, rW]; omega
    · clear main hn; change dtA 9 _ = _ at g1; change dtB 9 _ = _ at g2; unfold dtA at g1; unfold dtB at g2; simp only [vC1_9, vE1_9, vC2_9, vE2_9] at g1 g2; apply V4.ext' <;> simp only [sc, rv, tA, tB, rW] <;> omega
  · refine main 1 rfl hn ?_ (fun v => ?_) (fun v => ⟨⟨?_, ?_⟩, fun g1 g2 => ?_⟩)
    · unfold lr; rw [(tv_all _).2.2.2.2.2.2.1]; clear main hn; apply V4.ext' <;> simp only [ad, sc, db, rv, tA, tB, fl, rW, cond_true] <;> omega
    · unfold lr; rw [(tv_all _).2.2.2.2.2.2.1]; clear main hn; apply V4.ext' <;> simp only [ad, sc, db, rv, tA, tB, fl, rW, cond_true] <;> omega
    · clear main hn; show dtA 10 _ = _ - 8 * dtA 10 _; unfold dtA; simp only [vC1_10, vE1_10, vC2_10, vE2_10, sc, rv, tA, tB, rW]; omega
    · clear main hn; show dtB 10 _ = _ - 8 * dtB 10 _; unfold dtB; simp only [vC1_10, vE1_10, vC2_10, vE2_10, sc, rv, tA, tB, rW]; omega
    · clear main hn; change dtA 10 _ = _ at g1; change dtB 10 _ = _ at g2; unfold dtA at g1; unfold dtB at g2; simp only [vC1_10, vE1_10, vC2_10, vE2_10] at g1 g2; apply V4.ext' <;> simp only [sc, rv, tA, tB, rW] <;> omega
  · refine main 0 rfl hn ?_ (fun v => ?_) (fun v => ⟨⟨?_, ?_⟩, fun g1 g2 => ?_⟩)
    · unfold lr; rw [(tv_all _).2.2.2.2.2.2.2]; clear main hn; apply V4.ext' <;> simp only [ad, sc, db, rv, tA, tB, fl, rW, cond_true] <;> omega
    · unfold lr; rw [(tv_all _).2.2.2.2.2.2.2]; clear main hn; apply V4.ext' <;> simp only [ad, sc, db, rv, tA, tB, fl, rW, cond_true] <;> omega
    · clear main hn; show dtA 11 _ = _ - 8 * dtA 11 _; unfold dtA; simp only [vC1_11, vE1_11, vC2_11, vE2_11, sc, rv, tA, tB, rW]; omega
    · clear main hn; show dtB 11 _ = _ - 8 * dtB 11 _; unfold dtB; simp only [vC1_11, vE1_11, vC2_11, vE2_11, sc, rv, tA, tB, rW]; omega
    · clear main hn; change dtA 11 _ = _ at g1; change dtB 11 _ = _ at g2; unfold dtA at g1; unfold dtB at g2; simp only [vC1_11, vE1_11, vC2_11, vE2_11] at g1 g2; apply V4.ext' <;> simp only [sc, rv, tA, tB, rW] <;> omega
end Go.Ev
