/- Reflections as maps of whole numbers. -/
import Derived.Test.YtooikeeckoflpaaDoorMotB
set_option linter.unusedVariables false
set_option linter.unusedSimpArgs false
namespace Go.Ev

/-- A normal in numbers. -/
structure Nv (n : P2) (c1 e1 c2 e2 na nb : Int) (E : Nat) : Prop where
  eq : n = ⟨⟨c1, e1, 0⟩, ⟨c2, e2, 0⟩⟩
  h1 : c1.natAbs ≤ 1
  h2 : e1.natAbs ≤ 1
  h3 : c2.natAbs ≤ 1
  h4 : e2.natAbs ≤ 1
  q : dotF n n = ⟨na, nb, 0⟩
  h5 : na.natAbs ≤ 4
  h6 : nb.natAbs ≤ 4
  o : dvOdd ⟨na, nb, 0⟩ = 1
  z : divN ⟨na, nb, 0⟩ ≠ 0
  e : dvE ⟨na, nb, 0⟩ = E
  l : E ≤ 3
theorem nv_all {d : Int} (h : inB d 0 7 = true) : (d = 0 ∧ Nv (nrm d) 0 0 1 0 1 0 0) ∨ (d = 1 ∧ Nv (nrm d) 1 (-1) 1 0 4 (-2) 3) ∨ (d = 2 ∧ Nv (nrm d) (-1) 0 1 0 2 0 2) ∨ (d = 3 ∧ Nv (nrm d) (-1) 0 (-1) 1 4 (-2) 3) ∨
    (d = 4 ∧ Nv (nrm d) (-1) 0 0 0 1 0 0) ∨ (d = 5 ∧ Nv (nrm d) (-1) 0 1 (-1) 4 (-2) 3) ∨ (d = 6 ∧ Nv (nrm d) (-1) 0 (-1) 0 2 0 2) ∨ (d = 7 ∧ Nv (nrm d) 1 (-1) (-1) 0 4 (-2) 3) := by
  rcases t8 h with rfl | rfl | rfl | rfl | rfl | rfl | rfl | rfl
  · exact .inl ⟨rfl, by kernel_rfl, by decide, by decide, by decide, by decide, by kernel_rfl, by decide, by decide, by decide, by decide, by decide, by decide⟩
  · exact .inr (.inl ⟨rfl, by kernel_rfl, by decide, by decide, by decide, by decide, by kernel_rfl, by decide, by decide, by decide, by decide, by decide, by decide⟩)
  · exact .inr (.inr (.inl ⟨rfl, by kernel_rfl, by decide, by decide, by decide, by decide, by kernel_rfl, by decide, by decide, by decide, by decide, by decide, by decide⟩))
  · exact .inr (.inr (.inr (.inl ⟨rfl, by kernel_rfl, by decide, by decide, by decide, by decide, by kernel_rfl, by decide, by decide, by decide, by decide, by decide, by decide⟩)))
  · exact .inr (.inr (.inr (.inr (.inl ⟨rfl, by kernel_rfl, by decide, by decide, by decide, by decide, by kernel_rfl, by decide, by decide, by decide, by decide, by decide, by decide⟩))))
  · exact .inr (.inr (.inr (.inr (.inr (.inl ⟨rfl, by kernel_rfl, by decide, by decide, by decide, by decide, by kernel_rfl, by decide, by decide, by decide, by decide, by decide, by decide⟩)))))
  · exact .inr (.inr (.inr (.inr (.inr (.inr (.inl ⟨rfl, by kernel_rfl, by decide, by decide, by decide, by decide, by kernel_rfl, by decide, by decide, by decide, by decide, by decide, by decide⟩))))))
  · exact .inr (.inr (.inr (.inr (.inr (.inr (.inr ⟨rfl, by kernel_rfl, by decide, by decide, by decide, by decide, by kernel_rfl, by decide, by decide, by decide, by decide, by decide, by decide⟩))))))
/-- What a line's offset less the scalar product is worth. -/
def tA (c1 e1 c2 e2 O1 : Int) (v : V4) : Int := O1 - (c1 * v.a + 2 * e1 * v.b + (c2 * v.c + 2 * e2 * v.d))
def tB (c1 e1 c2 e2 O2 : Int) (v : V4) : Int := O2 - (c1 * v.b + e1 * v.a + (c2 * v.d + e2 * v.c))
theorem dot_vb {n p : P2} {c1 e1 c2 e2 na nb : Int} {E : Nat} {v : V4} (hn : Nv n c1 e1 c2 e2 na nb E) (hv : PV 10 p v 134217728) :
    VB 10 (dotF n p) (c1 * v.a + 2 * e1 * v.b + (c2 * v.c + 2 * e2 * v.d)) (c1 * v.b + e1 * v.a + (c2 * v.d + e2 * v.c)) 805306368 ∧ lowB (dotF n p) := by
  obtain ⟨m1, _⟩ := VB.vmul (Val.mk0 c1 e1) hn.h1 hn.h2 hv.x (by decide) (by decide)
  obtain ⟨m2, _⟩ := VB.vmul (Val.mk0 c2 e2) hn.h3 hn.h4 hv.y (by decide) (by decide)
  obtain ⟨a1, a2⟩ := m1.add m2 (by decide) (by decide)
  rw [hn.eq]
  exact ⟨a1, a2⟩
/-- The reflected point's value. -/
def rv (c1 e1 c2 e2 Q1 Q2 : Int) (E : Nat) (v : V4) : V4 :=
  ⟨v.a * 2 ^ E + (c1 * (Q1 + Q1) + 2 * e1 * (Q2 + Q2)), v.b * 2 ^ E + (c1 * (Q2 + Q2) + e1 * (Q1 + Q1)), v.c * 2 ^ E + (c2 * (Q1 + Q1) + 2 * e2 * (Q2 + Q2)), v.d * 2 ^ E + (c2 * (Q2 + Q2) + e2 * (Q1 + Q1))⟩
theorem lift_vb {S E : Nat} {x : N3} {A B : Int} {M : Nat} (h : VB S x A B M) (hE : E ≤ 3) : VB (S + E) x (A * 2 ^ E) (B * 2 ^ E) (8 * M) := by
  have h1 := h.a
  have h2 := h.b
  refine ⟨h.v.lift E, ?_, ?_⟩ <;> clear h <;> rcases pow_le8 hE with e | e | e | e <;> rw [e] <;> omega
theorem rfl_val {n p : P2} {off : N3} {c1 e1 c2 e2 na nb O1 O2 : Int} {E : Nat} {v : V4} (hn : Nv n c1 e1 c2 e2 na nb E) (hv : PV 10 p v 134217728) (ho : VB 10 off O1 O2 134217728) :
    PV (10 + E) (rflI n off p) (rv c1 e1 c2 e2 (tA c1 e1 c2 e2 O1 v * na - 2 * tB c1 e1 c2 e2 O2 v * nb) (tB c1 e1 c2 e2 O2 v * na - tA c1 e1 c2 e2 O1 v * nb) E v) 1000000000000 ∧ lowB (rflI n off p).x ∧ lowB (rflI n off p).y := by
  obtain ⟨dv, _⟩ := dot_vb hn hv
  obtain ⟨v1, _⟩ := ho.sub dv (by decide) (by decide)
  have hl := hn.l
  have hSE : 10 + E ≤ 1000 := by omega
  have ho1 := hn.o
  have hz := hn.z
  have he := hn.e
  have hq := hn.q
  obtain ⟨_, _, w1, _⟩ := v1.div (y := dotF n n) (E := E) (by rw [hq]; exact hn.h5) (by rw [hq]; exact hn.h6) (by rw [hq]) (by rw [hq]; exact .inl ho1) (by rw [hq]; exact hz) (by rw [hq]; exact he) hSE (by decide) (by decide)
  rw [hq, ho1] at w1
  simp only [Int.one_mul] at w1
  change VB (10 + E) _ (tA c1 e1 c2 e2 O1 v * na - 2 * tB c1 e1 c2 e2 O2 v * nb) (tB c1 e1 c2 e2 O2 v * na - tA c1 e1 c2 e2 O1 v * nb) _ at w1
  have hr : rflI n off p = ⟨addF p.x (mulF ⟨c1, e1, 0⟩ (addF (dvF (subF off (dotF n p)) ⟨na, nb, 0⟩) (dvF (subF off (dotF n p)) ⟨na, nb, 0⟩))), addF p.y (mulF ⟨c2, e2, 0⟩ (addF (dvF (subF off (dotF n p)) ⟨na, nb, 0⟩) (dvF (subF off (dotF n p)) ⟨na, nb, 0⟩)))⟩ := by
    unfold rflI addP timesF
    rw [hq]
    rw [show n.x = ⟨c1, e1, 0⟩ by rw [hn.eq], show n.y = ⟨c2, e2, 0⟩ by rw [hn.eq]]
  rw [hr]
  clear hr
  generalize dvF (subF off (dotF n p)) ⟨na, nb, 0⟩ = q at *
  generalize tA c1 e1 c2 e2 O1 v * na - 2 * tB c1 e1 c2 e2 O2 v * nb = Q1 at *
  generalize tB c1 e1 c2 e2 O2 v * na - tA c1 e1 c2 e2 O1 v * nb = Q2 at *
  obtain ⟨t1, _⟩ := w1.add w1 hSE (by decide)
  obtain ⟨u1, _⟩ := VB.vmul (Val.mk0 c1 e1) hn.h1 hn.h2 t1 hSE (by decide)
  obtain ⟨u2, _⟩ := VB.vmul (Val.mk0 c2 e2) hn.h3 hn.h4 t1 hSE (by decide)
  obtain ⟨r1, r2⟩ := (lift_vb hv.x hl).add u1 hSE (by decide)
  obtain ⟨r3, r4⟩ := (lift_vb hv.y hl).add u2 hSE (by decide)
  have b1 := r1.more (K := 1000000000000) (by decide)
  have b2 := r3.more (K := 1000000000000) (by decide)
  exact ⟨⟨b1, b2⟩, r2, r4⟩
theorem pv_zero {S M : Nat} : PV S zP ⟨0, 0, 0, 0⟩ M := ⟨vb_zero, vb_zero⟩
def sc (k : Int) (v : V4) : V4 := ⟨v.a * k, v.b * k, v.c * k, v.d * k⟩
theorem pv_sc {S E M : Nat} {p : P2} {v : V4} (h : PV S p v M) (hE : E ≤ 3) : PV (S + E) p (sc (2 ^ E) v) (8 * M) := ⟨lift_vb h.x hE, lift_vb h.y hE⟩
/-- THE REFLECTION AS A MOTION moves a point as the reflection does; itself it moves back; and no point of its line. -/
theorem refl_move {d : Int} {off : N3} {p : P2} (hd : inB d 0 7 = true) (ho : validB off = true) (hp : valP p = true) (hs : valP (rflI (nrm d) off zP) = true) :
    moveF d true (rflI (nrm d) off zP) p = rflI (nrm d) off p ∧ moveF d true (rflI (nrm d) off zP) (rflI (nrm d) off zP) = zP ∧ (sgF (subF (dotF (nrm d) p) off) = 0 → rflI (nrm d) off p = p) ∧
    (lowB (rflI (nrm d) off p).x ∧ lowB (rflI (nrm d) off p).y) := by
  obtain ⟨O1, O2, vo⟩ := valid_vb ho
  obtain ⟨v, hv⟩ := valP_pv hp
  obtain ⟨W, hW⟩ := valP_pv hs
  have main : ∀ {c1 e1 c2 e2 na nb : Int} {E : Nat}, Nv (nrm d) c1 e1 c2 e2 na nb E →
      (∀ x : V4, sc (2 ^ E) (tv d (fl true v)) = x → ∀ w0 : V4, rv c1 e1 c2 e2 (tA c1 e1 c2 e2 O1 ⟨0, 0, 0, 0⟩ * na - 2 * tB c1 e1 c2 e2 O2 ⟨0, 0, 0, 0⟩ * nb) (tB c1 e1 c2 e2 O2 ⟨0, 0, 0, 0⟩ * na - tA c1 e1 c2 e2 O1 ⟨0, 0, 0, 0⟩ * nb) E ⟨0, 0, 0, 0⟩ = w0 →
        ad x (db w0) = db (rv c1 e1 c2 e2 (tA c1 e1 c2 e2 O1 v * na - 2 * tB c1 e1 c2 e2 O2 v * nb) (tB c1 e1 c2 e2 O2 v * na - tA c1 e1 c2 e2 O1 v * nb) E v) ∧ ad (tv d (fl true w0)) (db w0) = ⟨0, 0, 0, 0⟩) →
      moveF d true (rflI (nrm d) off zP) p = rflI (nrm d) off p ∧ moveF d true (rflI (nrm d) off zP) (rflI (nrm d) off zP) = zP ∧ (sgF (subF (dotF (nrm d) p) off) = 0 → rflI (nrm d) off p = p) ∧
      (lowB (rflI (nrm d) off p).x ∧ lowB (rflI (nrm d) off p).y) := by
    intro c1 e1 c2 e2 na nb E hn hall
    obtain ⟨r1, r2, r3⟩ := rfl_val hn hv vo
    obtain ⟨z1, z2, z3⟩ := rfl_val hn (pv_zero (M := 134217728)) vo
    have hl := hn.l
    have eW := pv_same (pv_sc hW hl) z1
    obtain ⟨g1, g2⟩ := hall _ rfl _ rfl
    rw [← eW] at g1 g2
    obtain ⟨m1, _, m3, m4⟩ := mv_val (m := ⟨d, true, rflI (nrm d) off zP⟩) (Nat.le_refl _) hv hW
    obtain ⟨k1, _, k3, k4⟩ := mv_val (m := ⟨d, true, rflI (nrm d) off zP⟩) (p := rflI (nrm d) off zP) (Nat.le_refl _) hW hW
    simp only at m1 m3 m4 k1 k3 k4
    have hE := pow_le8 hl
    refine ⟨?_, ?_, fun hz => ?_, r2, r3⟩
    · have a1 := pv_sc m1 hl
      have a2 := pv_db r1
      have e : sc (2 ^ E) (ad (tv d (fl true v)) (db W)) = ad (sc (2 ^ E) (tv d (fl true v))) (db (sc (2 ^ E) W)) := by
        apply V4.ext' <;> simp only [sc, ad, db] <;> rcases hE with e | e | e | e <;> rw [e] <;> omega
      rw [e, g1] at a1
      rw [show 11 + E = 10 + E + 1 by omega] at a1
      exact pv_uniq a1 a2 m3 m4 r2 r3
    · have e : ad (tv d (fl true W)) (db W) = ⟨0, 0, 0, 0⟩ := by
        have e2 : sc (2 ^ E) (ad (tv d (fl true W)) (db W)) = ⟨0, 0, 0, 0⟩ := by
          have e3 : tv d (fl true (sc (2 ^ E) W)) = sc (2 ^ E) (tv d (fl true W)) := by
            have t8' := t8 hd
            obtain ⟨a0, a1, a2, a3, a4, a5, a6, a7⟩ := tv_all (fl true (sc (2 ^ E) W))
            obtain ⟨b0, b1, b2, b3, b4, b5, b6, b7⟩ := tv_all (fl true W)
            clear hall g1 g2 r1 z1 m1 k1 hn eW
            rcases t8' with rfl | rfl | rfl | rfl | rfl | rfl | rfl | rfl
            · rw [a0, b0]; apply V4.ext' <;> simp only [sc, fl, db, cond_true] <;> rcases hE with e | e | e | e <;> rw [e] <;> omega
            · rw [a1, b1]; apply V4.ext' <;> simp only [sc, fl, db, cond_true] <;> rcases hE with e | e | e | e <;> rw [e] <;> omega
            · rw [a2, b2]; apply V4.ext' <;> simp only [sc, fl, db, cond_true] <;> rcases hE with e | e | e | e <;> rw [e] <;> omega
            · rw [a3, b3]; apply V4.ext' <;> simp only [sc, fl, db, cond_true] <;> rcases hE with e | e | e | e <;> rw [e] <;> omega
            · rw [a4, b4]; apply V4.ext' <;> simp only [sc, fl, db, cond_true] <;> rcases hE with e | e | e | e <;> rw [e] <;> omega
            · rw [a5, b5]; apply V4.ext' <;> simp only [sc, fl, db, cond_true] <;> rcases hE with e | e | e | e <;> rw [e] <;> omega
            · rw [a6, b6]; apply V4.ext' <;> simp only [sc, fl, db, cond_true] <;> rcases hE with e | e | e | e <;> rw [e] <;> omega
            · rw [a7, b7]; apply V4.ext' <;> simp only [sc, fl, db, cond_true] <;> rcases hE with e | e | e | e <;> rw [e] <;> omega
          rw [e3] at g2
          rw [← g2]
          apply V4.ext' <;> simp only [sc, ad, db] <;> rcases hE with e | e | e | e <;> rw [e] <;> omega
        simp only [sc, V4.mk.injEq] at e2
        rcases hE with e | e | e | e <;> rw [e] at e2 <;> (apply V4.ext' <;> simp only <;> omega)
      rw [e] at k1
      exact pv_uniq k1 (pv_zero (M := 0)) k3 k4 (fun h => by have h1 : (0 : Int) > 0 := h.1; omega) (fun h => by have h1 : (0 : Int) > 0 := h.1; omega)
    · obtain ⟨dv, _⟩ := dot_vb hn hv
      have s1 := (dv.sub vo (by decide) (by decide)).1.v.sg
      rw [hz] at s1
      obtain ⟨q1, q2⟩ := sgZ_eq_zero s1.symm
      have t1 : tA c1 e1 c2 e2 O1 v = 0 := by unfold tA; omega
      have t2 : tB c1 e1 c2 e2 O2 v = 0 := by unfold tB; omega
      rw [t1, t2] at r1
      have e : rv c1 e1 c2 e2 (0 * na - 2 * 0 * nb) (0 * na - 0 * nb) E v = sc (2 ^ E) v := by simp [rv, sc]
      rw [e] at r1
      obtain ⟨p1, p2⟩ := valP_low hp
      exact pv_uniq r1 (pv_sc hv hl) r2 r3 p1 p2
  rcases nv_all hd with ⟨e, hn⟩ | ⟨e, hn⟩ | ⟨e, hn⟩ | ⟨e, hn⟩ | ⟨e, hn⟩ | ⟨e, hn⟩ | ⟨e, hn⟩ | ⟨e, hn⟩
  · refine main hn fun x hx w0 hw0 => ?_
    subst hx hw0 e
    rw [(tv_all _).1, (tv_all _).1]
    clear main hn hv hW vo hs hp ho
    constructor <;> apply V4.ext' <;> simp only [ad, sc, db, rv, tA, tB, fl, cond_true] <;> omega
  · refine main hn fun x hx w0 hw0 => ?_
    subst hx hw0 e
    rw [(tv_all _).2.1, (tv_all _).2.1]
    clear main hn hv hW vo hs hp ho
    constructor <;> apply V4.ext' <;> simp only [ad, sc, db, rv, tA, tB, fl, cond_true] <;> omega
  · refine main hn fun x hx w0 hw0 => ?_
    subst hx hw0 e
    rw [(tv_all _).2.2.1, (tv_all _).2.2.1]
    clear main hn hv hW vo hs hp ho
    constructor <;> apply V4.ext' <;> simp only [ad, sc, db, rv, tA, tB, fl, cond_true] <;> omega
  · refine main hn fun x hx w0 hw0 => ?_
    subst hx hw0 e
    rw [(tv_all _).2.2.2.1, (tv_all _).2.2.2.1]
    clear main hn hv hW vo hs hp ho
    constructor <;> apply V4.ext' <;> simp only [ad, sc, db, rv, tA, tB, fl, cond_true] <;> omega
  · refine main hn fun x hx w0 hw0 => ?_
    subst hx hw0 e
    rw [(tv_all _).2.2.2.2.1, (tv_all _).2.2.2.2.1]
    clear main hn hv hW vo hs hp ho
    constructor <;> apply V4.ext' <;> simp only [ad, sc, db, rv, tA, tB, fl, cond_true] <;> omega
  · refine main hn fun x hx w0 hw0 => ?_
    subst hx hw0 e
    rw [(tv_all _).2.2.2.2.2.1, (tv_all _).2.2.2.2.2.1]
    clear main hn hv hW vo hs hp ho
    constructor <;> apply V4.ext' <;> simp only [ad, sc, db, rv, tA, tB, fl, cond_true] <;> omega
  · refine main hn fun x hx w0 hw0 => ?_
    subst hx hw0 e
    rw [(tv_all _).2.2.2.2.2.2.1, (tv_all _).2.2.2.2.2.2.1]
    clear main hn hv hW vo hs hp ho
    constructor <;> apply V4.ext' <;> simp only [ad, sc, db, rv, tA, tB, fl, cond_true] <;> omega
  · refine main hn fun x hx w0 hw0 => ?_
    subst hx hw0 e
    rw [(tv_all _).2.2.2.2.2.2.2, (tv_all _).2.2.2.2.2.2.2]
    clear main hn hv hW vo hs hp ho
    constructor <;> apply V4.ext' <;> simp only [ad, sc, db, rv, tA, tB, fl, cond_true] <;> omega
end Go.Ev
