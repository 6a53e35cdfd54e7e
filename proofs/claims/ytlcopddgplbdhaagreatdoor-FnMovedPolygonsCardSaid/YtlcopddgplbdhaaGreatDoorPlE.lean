/- Convex polygons beyond the limits, cut by lines, in plain Lean. -/
import Derived.Test.YtlcopddgplbdhaaGreatDoorPlD
set_option linter.unusedVariables false
set_option linter.unusedSimpArgs false
/- Points beyond the limits by their values: directions, sides, lines, meets. -/
namespace Go.Ev
structure Pt (p : P2) (v : V4) : Prop where
 pv : PV 13 p v 618475290624
 lx : lowB p.x
 ly : lowB p.y
structure WayN (w : P2) (v : V4) : Prop where
 pv : PV 13 w v 1236950581248
def wayN (w : P2) : Bool := decide ((0 <= w.x.k /\ w.x.k <= 13) /\ (0 <= w.y.k /\ w.y.k <= 13)) && decide (((w.x.a * 2 ^ (13 - w.x.k.toNat)).natAbs <= 1236950581248 /\ (w.x.b * 2 ^ (13 - w.x.k.toNat)).natAbs <= 1236950581248) /\
 ((w.y.a * 2 ^ (13 - w.y.k.toNat)).natAbs <= 1236950581248 /\ (w.y.b * 2 ^ (13 - w.y.k.toNat)).natAbs <= 1236950581248))
theorem way_wayN {w : P2} {v : V4} (h : WayN w v) : wayN w = true := by
 obtain ⟨⟨⟨vx, ax, bx⟩, ⟨vy, ay, by_⟩⟩⟩ := h
 rw [vx.a] at ax
 rw [vx.b] at bx
 rw [vy.a] at ay
 rw [vy.b] at by_
 unfold wayN
 simp only [Bool.and_eq_true, decide_eq_true_eq]
 exact ⟨⟨⟨vx.k0, vx.kS⟩, vy.k0, vy.kS⟩, ⟨ax, bx⟩, ay, by_⟩
theorem sW_abs {x : Int} {M : Nat} (h : x.natAbs <= M) (hM : M <= 2305843009213693952) : sW x = true := sW_iff.2 (by omega)
theorem way_okN {d : Int} {w : P2} {v : V4} (hd : inB d 0 15 = true) (h : WayN w v) :
  pkC (vecP d) w = true /\ pkD (vecP d) w = true /\ (sW (dotF (vecP d) w).a && sW (dotF (vecP d) w).b) = true /\
  (eqN (crsF (vecP d) w) z3 = true ↔ crA d v = 0 /\ crB d v = 0) /\ sgF (dotF (vecP d) w) = sgZ (dtA d v) (dtB d v) /\ Val 13 (dotF (vecP d) w) (dtA d v) (dtB d v) := by
 obtain ⟨eq, h1, h2, h3, h4, h5⟩ := vv_all hd
 have hx := h.pv.x
 have hy := h.pv.y
 unfold crA crB dtA dtB
 generalize vC1 d = c1 at *
 generalize vE1 d = e1 at *
 generalize vC2 d = c2 at *
 generalize vE2 d = e2 at *
 rw [eq]
 obtain ⟨m1, _⟩ := VB.vmul (Val.mk0 c1 e1) h1 h2 hx (by decide) (by decide)
 obtain ⟨m2, _⟩ := VB.vmul (Val.mk0 c2 e2) h3 h4 hy (by decide) (by decide)
 obtain ⟨m3, _⟩ := VB.vmul (Val.mk0 c1 e1) h1 h2 hy (by decide) (by decide)
 obtain ⟨m4, _⟩ := VB.vmul (Val.mk0 c2 e2) h3 h4 hx (by decide) (by decide)
 obtain ⟨dv, dl⟩ := m1.add m2 (by decide) (by decide)
 obtain ⟨cv, cl⟩ := m3.sub m4 (by decide) (by decide)
 have k1 := (pk_val (Val.mk0 c1 e1) hx.v (by decide) (by decide)).2
 have k2 := (pk_val (Val.mk0 c2 e2) hy.v (by decide) (by decide)).2
 have k3 := (pk_val (Val.mk0 c1 e1) hy.v (by decide) (by decide)).2
 have k4 := (pk_val (Val.mk0 c2 e2) hx.v (by decide) (by decide)).2
 refine ⟨?_, ?_, ?_, ?_, dv.v.sg, dv.v⟩
 ·unfold pkC
  rw [k3, k4, m3.pk m4 (by decide)]
  rfl
 ·unfold pkD
  rw [k1, k2, m1.pk m2 (by decide)]
  rfl
 ·obtain ⟨b1, b2⟩ := dv.v.bd
  have q1 := Nat.le_trans b1 dv.a
  have q2 := Nat.le_trans b2 dv.b
  show (sW (addF (mulF ⟨c1, e1, 0⟩ w.x) (mulF ⟨c2, e2, 0⟩ w.y)).a && sW (addF (mulF ⟨c1, e1, 0⟩ w.x) (mulF ⟨c2, e2, 0⟩ w.y)).b) = true
  rw [sW_abs q1 (by decide), sW_abs q2 (by decide)]
  rfl
 ·rw [eqN_iff]
  show (subF (mulF ⟨c1, e1, 0⟩ w.y) (mulF ⟨c2, e2, 0⟩ w.x)).a = 0 /\ (subF (mulF ⟨c1, e1, 0⟩ w.y) (mulF ⟨c2, e2, 0⟩ w.x)).b = 0 /\ (subF (mulF ⟨c1, e1, 0⟩ w.y) (mulF ⟨c2, e2, 0⟩ w.x)).k = 0 ↔ _
  constructor
  ·rintro ⟨z1, z2, _⟩
   have e1 := cv.v.a
   have e2 := cv.v.b
   rw [z1, Int.zero_mul] at e1
   rw [z2, Int.zero_mul] at e2
   exact ⟨e1, e2⟩
  ·rintro ⟨z1, z2⟩
   rw [z1, z2] at cv
   have hz : Val 13 z3 0 0 := (vb_zero (M := 0)).v
   have := cv.v.uniq hz cl (fun h => by have h1 : (0 : Int) > 0 := h.1; omega)
   rw [this]
   exact ⟨rfl, rfl, rfl⟩
theorem dirF_specN {w : P2} {v : V4} (h : WayN w v) : ∀ (n : Nat) (d : Int), 0 <= d -> d + n = 16 -> (∀ e, 0 <= e -> e < d -> ¬ isDir e v) ->
  (inB (dirF n d w) 0 15 = true /\ isDir (dirF n d w) v) \/ (dirF n d w = -1 /\ ∀ e, inB e 0 15 = true -> ¬ isDir e v)
 | 0, d, h0, h1, hno => .inr ⟨rfl, fun e he => hno e (inB_iff.1 he).1 (by have := (inB_iff.1 he).2; omega)⟩
 | n + 1, d, h0, h1, hno => by
  have hd : inB d 0 15 = true := inB_iff.2 (by omega)
  obtain ⟨_, _, _, k1, k2, _⟩ := way_okN hd h
  unfold dirF
  by_cases hh : isDir d v
  ·rw [k1.2 ⟨hh.1, hh.2.1⟩, k2, show decide (sgZ (dtA d v) (dtB d v) > 0) = true by simpa using hh.2.2]
   exact .inl ⟨hd, hh⟩
  ·have ih := dirF_specN h n (d + 1) (by omega) (by omega) (fun e he he' => by
    by_cases e1 : e = d
    ·subst e1; exact hh
    ·exact hno e he (by omega))
   cases c1 : eqN (crsF (vecP d) w) z3 with
   | false => exact ih
   | true =>
    obtain ⟨z1, z2⟩ := k1.1 c1
    have hs : ¬ sgZ (dtA d v) (dtB d v) > 0 := fun hs => hh ⟨z1, z2, hs⟩
    rw [k2, show decide (sgZ (dtA d v) (dtB d v) > 0) = false by simpa using hs]
    exact ih
theorem Pt.way {p q : P2} {v u : V4} (hp : Pt p v) (hq : Pt q u) : WayN (subP q p) (sbV u v) /\ pkP q p = true := by
 obtain ⟨a1, _⟩ := hq.pv.x.sub hp.pv.x (by decide) (by decide)
 obtain ⟨b1, _⟩ := hq.pv.y.sub hp.pv.y (by decide) (by decide)
 refine ⟨⟨⟨a1, b1⟩⟩, ?_⟩
 unfold pkP
 rw [hq.pv.x.pk hp.pv.x (by decide), hq.pv.y.pk hp.pv.y (by decide)]
 rfl
theorem Pt.dir {p q : P2} {v u : V4} {e : Int} (hp : Pt p v) (hq : Pt q u) (he : inB e 0 15 = true) (hi : isDir e (sbV u v)) : dirV p q = e := by
 rcases dirF_specN (hp.way hq).1 16 0 (by decide) (by decide) (fun e he he' => by omega) with ⟨k1, k2⟩ | ⟨_, k2⟩
 ·exact isDir_uniq k1 he k2 hi
 ·exact absurd hi (k2 e he)
theorem Pt.uniq {p : P2} {v u : V4} (h : Pt p v) (g : Pt p u) : v = u := by
 obtain ⟨a1, a2⟩ := val_same h.pv.x.v g.pv.x.v
 obtain ⟨b1, b2⟩ := val_same h.pv.y.v g.pv.y.v
 exact V4.ext' a1 a2 b1 b2
theorem Pt.same {p q : P2} {v : V4} (h : Pt p v) (g : Pt q v) : p = q := pv_uniq h.pv g.pv h.lx h.ly g.lx g.ly
theorem Pt.near {p : P2} {v : V4} (h : Pt p v) : Near p := ⟨⟨_, _, h.pv.x⟩, ⟨_, _, h.pv.y⟩⟩
theorem Pt.low {p : P2} {v : V4} (h : Pt p v) : redP p = p := redP_low h.lx h.ly
theorem Pt.cp {p q : P2} {v u : V4} (h : Pt p v) (g : Pt q u) : cpP p q = difV v u := by
 have k1 := (h.pv.x.sub g.pv.x (by decide) (by decide)).1
 have k2 := (h.pv.y.sub g.pv.y (by decide) (by decide)).1
 unfold cpP
 rw [k1.v.sg, k2.v.sg]
 rfl
theorem pt_valid {p : P2} {v : V4} (hv : valP p = true) (h : PV 10 p v 134217728) : Pt p (sc 8 v) := by
 obtain ⟨l1, l2⟩ := valP_low hv
 have := pv_sc (E := 3) h (by decide)
 exact ⟨⟨this.x.more (by decide), this.y.more (by decide)⟩, l1, l2⟩
end Go.Ev
namespace Go.Ev
def On (d : Int) (o : N3) (v : V4) : Prop := ∃ A B, VB 10 o A B 1073741824 /\ dtA (d + 4) v = 8 * A /\ dtB (d + 4) v = 8 * B
theorem off13 {o : N3} {A B : Int} (h : VB 10 o A B 1073741824) : VB 13 o (8 * A) (8 * B) 8589934592 := by
 have h1 := h.a
 have h2 := h.b
 have hv := h.v.lift 3
 rw [show A * 2 ^ 3 = 8 * A by omega, show B * 2 ^ 3 = 8 * B by omega] at hv
 exact ⟨hv, by omega, by omega⟩
theorem off_valN {d : Int} {p : P2} {v : V4} (hd : inB d 0 7 = true) (h : Pt p v) : VB 13 (offV d p) (dtA (d + 4) v) (dtB (d + 4) v) 3710851743744 /\ lowB (offV d p) /\ pkD (nrm d) p = true := by
 have hd' := inB_iff.1 hd
 have e : nrm d = vecP (d + 4) := by unfold nrm; rw [wr_in (by omega) (by omega)]
 have vv := vv_all (d := d + 4) (inB_iff.2 (by omega))
 unfold offV
 rw [e, vv.eq]
 obtain ⟨m1, _⟩ := VB.vmul (Val.mk0 (vC1 (d + 4)) (vE1 (d + 4))) vv.h1 vv.h2 h.pv.x (by decide) (by decide)
 obtain ⟨m2, _⟩ := VB.vmul (Val.mk0 (vC2 (d + 4)) (vE2 (d + 4))) vv.h3 vv.h4 h.pv.y (by decide) (by decide)
 obtain ⟨a1, a2⟩ := m1.add m2 (by decide) (by decide)
 have k1 := (pk_val (Val.mk0 (vC1 (d + 4)) (vE1 (d + 4))) h.pv.x.v (by decide) (by decide)).2
 have k2 := (pk_val (Val.mk0 (vC2 (d + 4)) (vE2 (d + 4))) h.pv.y.v (by decide) (by decide)).2
 refine ⟨a1, a2, ?_⟩
 unfold pkD
 rw [k1, k2, m1.pk m2 (by decide)]
 rfl
theorem On.off {d : Int} {o : N3} {p : P2} {v : V4} (h : On d o v) (hd : inB d 0 7 = true) (hl : lowB o) (hp : Pt p v) : offV d p = o := by
 obtain ⟨A, B, ho, e1, e2⟩ := h
 obtain ⟨k1, k2, _⟩ := off_valN hd hp
 rw [e1, e2] at k1
 exact k1.v.uniq (off13 ho).v k2 hl
def sgPW (l : Ln) (p : P2) : Bool := (inB (wr (l.d + 4)) 0 15) && ((pkD (nrm l.d) p) && ((pk (dotF (nrm l.d) p) l.o) && (sW (subF (dotF (nrm l.d) p) l.o).a && sW (subF (dotF (nrm l.d) p) l.o).b)))
theorem side_okN {l : Ln} {p : P2} {v : V4} {A B : Int} (hd : inB l.d 0 7 = true) (ho : VB 10 l.o A B 1073741824) (hp : Pt p v) : sgPW l p = true /\ sgL l p = sgZ (dtA (l.d + 4) v - 8 * A) (dtB (l.d + 4) v - 8 * B) := by
 obtain ⟨k1, _, k3⟩ := off_valN hd hp
 have s := (k1.sub (off13 ho) (by decide) (by decide)).1
 have k4 : pk (dotF (nrm l.d) p) l.o = true := k1.pk (off13 ho) (by decide)
 refine ⟨?_, s.v.sg⟩
 obtain ⟨b1, b2⟩ := s.v.bd
 have q1 : sW (subF (dotF (nrm l.d) p) l.o).a = true := sW_abs (Nat.le_trans b1 s.a) (by decide)
 have q2 : sW (subF (dotF (nrm l.d) p) l.o).b = true := sW_abs (Nat.le_trans b2 s.b) (by decide)
 unfold sgPW
 rw [nrm_in hd, k3, k4, q1, q2]
 rfl
end Go.Ev
namespace Go.Ev
theorem meet_on {i j : Int} {a b : N3} {A1 A2 B1 B2 : Int} (hi : inB i 0 7 = true) (hj : inB j 0 7 = true) (hne : (i == j) = false) (va : VB 10 a A1 A2 1073741824) (vb : VB 10 b B1 B2 1073741824) :
  ∃ V, Pt (mtP i j a b) V /\ (dtA (i + 4) V = 8 * A1 /\ dtB (i + 4) V = 8 * A2) /\ (dtA (j + 4) V = 8 * B1 /\ dtB (j + 4) V = 8 * B2) := by
 have hd := det_all hi hj hne
 unfold detB at hd
 simp only [Bool.and_eq_true, Bool.or_eq_true, decide_eq_true_eq, beq_iff_eq, Bool.not_eq_true', beq_eq_false_iff_ne] at hd
 obtain ⟨hc, hk, na', nb', no', nz, e0, e3⟩ := hd
 obtain ⟨E, hE⟩ : ∃ E : Nat, dvE (crsF (nrm i) (nrm j)) = E := ⟨(dvE (crsF (nrm i) (nrm j))).toNat, by omega⟩
 have hS : 10 + E <= 1000 := by clear na' nb'; omega
 have hE3 : E <= 3 := by clear na' nb'; omega
 have hi' := inB_iff.1 hi
 have hj' := inB_iff.1 hj
 have ei : nrm i = vecP (i + 4) := by unfold nrm; rw [wr_in (by omega) (by omega)]
 have ej : nrm j = vecP (j + 4) := by unfold nrm; rw [wr_in (by omega) (by omega)]
 have wi := vv_all (d := i + 4) (inB_iff.2 (by omega))
 have wj := vv_all (d := j + 4) (inB_iff.2 (by omega))
 have vix : Val 0 (nrm i).x (vC1 (i + 4)) (vE1 (i + 4)) := by rw [ei, wi.eq]; exact Val.mk0 _ _
 have viy : Val 0 (nrm i).y (vC2 (i + 4)) (vE2 (i + 4)) := by rw [ei, wi.eq]; exact Val.mk0 _ _
 have vjx : Val 0 (nrm j).x (vC1 (j + 4)) (vE1 (j + 4)) := by rw [ej, wj.eq]; exact Val.mk0 _ _
 have vjy : Val 0 (nrm j).y (vC2 (j + 4)) (vE2 (j + 4)) := by rw [ej, wj.eq]; exact Val.mk0 _ _
 have wjx : VB 0 (nrm j).x (vC1 (j + 4)) (vE1 (j + 4)) 1 := ⟨vjx, wj.h1, wj.h2⟩
 have wjy : VB 0 (nrm j).y (vC2 (j + 4)) (vE2 (j + 4)) 1 := ⟨vjy, wj.h3, wj.h4⟩
 obtain ⟨t1, _⟩ := VB.vmul vix wi.h1 wi.h2 wjy (by decide) (by decide)
 obtain ⟨t2, _⟩ := VB.vmul viy wi.h3 wi.h4 wjx (by decide) (by decide)
 obtain ⟨t3, _⟩ := t1.sub t2 (by decide) (by decide)
 have ta := t3.v.a
 have tb := t3.v.b
 change _ = (crsF (nrm i) (nrm j)).a * 2 ^ (0 - (crsF (nrm i) (nrm j)).k.toNat) at ta
 change _ = (crsF (nrm i) (nrm j)).b * 2 ^ (0 - (crsF (nrm i) (nrm j)).k.toNat) at tb
 rw [hk] at ta tb
 simp only [Int.toNat_zero, Nat.sub_self, Int.pow_zero, Int.mul_one] at ta tb
 obtain ⟨p1, _⟩ := va.mulv vjy wj.h3 wj.h4 (by decide) (by decide)
 obtain ⟨p2, _⟩ := vb.mulv viy wi.h3 wi.h4 (by decide) (by decide)
 obtain ⟨p3, _⟩ := vb.mulv vix wi.h1 wi.h2 (by decide) (by decide)
 obtain ⟨p4, _⟩ := va.mulv vjx wj.h1 wj.h2 (by decide) (by decide)
 obtain ⟨q1, _⟩ := p1.sub p2 (by decide) (by decide)
 obtain ⟨q2, _⟩ := p3.sub p4 (by decide) (by decide)
 obtain ⟨r1, _, r3, r4⟩ := q1.div na' nb' hk no' nz hE hS (by decide) (by decide)
 obtain ⟨_, _, s3, s4⟩ := q2.div na' nb' hk no' nz hE hS (by decide) (by decide)
 have hN := (raw_bd r1).2.2.2.2.2.1
 have op := oddL_prod 60 (divN (crsF (nrm i) (nrm j))) 0 nz (by
  have hNb := (raw_bd r1).2.2.2.2.2.2
  have : (2 : Nat) ^ 60 = 1152921504606846976 := by decide
  omega)
 change dvOdd (crsF (nrm i) (nrm j)) * 2 ^ (dvE (crsF (nrm i) (nrm j)) - 0).toNat = divN (crsF (nrm i) (nrm j)) at op
 rw [hE, Int.sub_zero, Int.toNat_natCast, hN] at op
 have hs : dvOdd (crsF (nrm i) (nrm j)) * dvOdd (crsF (nrm i) (nrm j)) = 1 := by rcases no' with e | e <;> rw [e] <;> rfl
 have pv : PV (10 + E) (mtP i j a b) ⟨_, _, _, _⟩ 77309411328 := ⟨r3.more (by decide), s3.more (by decide)⟩
 have p13 := pv_sc (E := 3 - E) pv (by omega)
 rw [show 10 + E + (3 - E) = 13 by omega] at p13
 refine ⟨_, ⟨⟨p13.x.more (by decide), p13.y.more (by decide)⟩, r4, s4⟩, ?_⟩
 have h8 : (2 : Int) ^ E * 2 ^ (3 - E) = 8 := by rw [<- Int.pow_add, show E + (3 - E) = 3 by omega]; rfl
 clear p13 pv r3 s3 r4 s4 q1 q2 p1 p2 p3 p4 t1 t2 t3 wjx wjy vix viy vjx vjy va vb r1 hN nz
 unfold dtA dtB sc
 simp only
 generalize vC1 (i + 4) = c1 at *
 generalize vE1 (i + 4) = e1 at *
 generalize vC2 (i + 4) = c2 at *
 generalize vE2 (i + 4) = e2 at *
 generalize vC1 (j + 4) = g1 at *
 generalize vE1 (j + 4) = f1 at *
 generalize vC2 (j + 4) = g2 at *
 generalize vE2 (j + 4) = f2 at *
 generalize (2 : Int) ^ (3 - E) = y at *
 generalize (2 : Int) ^ E = z at *
 generalize dvOdd (crsF (nrm i) (nrm j)) = s at *
 generalize (crsF (nrm i) (nrm j)).a = da at *
 generalize (crsF (nrm i) (nrm j)).b = db at *
 clear wi wj no' na' nb' hE hS hc
 have hz : s * (da * da - 2 * db * db) = z := by rw [<- op, <- Int.mul_assoc, hs, Int.one_mul]
 generalize hX1 : (A1 * g2 + 2 * A2 * f2) - (B1 * c2 + 2 * B2 * e2) = X1 at *
 generalize hX2 : (A1 * f2 + A2 * g2) - (B1 * e2 + B2 * c2) = X2 at *
 generalize hY1 : (B1 * c1 + 2 * B2 * e1) - (A1 * g1 + 2 * A2 * f1) = Y1 at *
 generalize hY2 : (B1 * e1 + B2 * c1) - (A1 * f1 + A2 * g1) = Y2 at *
 have s1 : c1 * X1 + 2 * e1 * X2 + (c2 * Y1 + 2 * e2 * Y2) = A1 * da + 2 * A2 * db := by rw [<- hX1, <- hX2, <- hY1, <- hY2, <- ta, <- tb]; grind
 have s2 : c1 * X2 + e1 * X1 + (c2 * Y2 + e2 * Y1) = A1 * db + A2 * da := by rw [<- hX1, <- hX2, <- hY1, <- hY2, <- ta, <- tb]; grind
 have s3 : g1 * X1 + 2 * f1 * X2 + (g2 * Y1 + 2 * f2 * Y2) = B1 * da + 2 * B2 * db := by rw [<- hX1, <- hX2, <- hY1, <- hY2, <- ta, <- tb]; grind
 have s4 : g1 * X2 + f1 * X1 + (g2 * Y2 + f2 * Y1) = B1 * db + B2 * da := by rw [<- hX1, <- hX2, <- hY1, <- hY2, <- ta, <- tb]; grind
 have fin : ∀ (u1 v1 u2 v2 O1 O2 : Int), u1 * X1 + 2 * v1 * X2 + (u2 * Y1 + 2 * v2 * Y2) = O1 * da + 2 * O2 * db -> u1 * X2 + v1 * X1 + (u2 * Y2 + v2 * Y1) = O1 * db + O2 * da ->
   u1 * (s * (X1 * da - 2 * X2 * db) * y) + 2 * v1 * (s * (X2 * da - X1 * db) * y) + (u2 * (s * (Y1 * da - 2 * Y2 * db) * y) + 2 * v2 * (s * (Y2 * da - Y1 * db) * y)) = 8 * O1 /\
   u1 * (s * (X2 * da - X1 * db) * y) + v1 * (s * (X1 * da - 2 * X2 * db) * y) + (u2 * (s * (Y2 * da - Y1 * db) * y) + v2 * (s * (Y1 * da - 2 * Y2 * db) * y)) = 8 * O2 := by
  intro u1 v1 u2 v2 O1 O2 t1 t2
  constructor
  ·have : u1 * (s * (X1 * da - 2 * X2 * db) * y) + 2 * v1 * (s * (X2 * da - X1 * db) * y) + (u2 * (s * (Y1 * da - 2 * Y2 * db) * y) + 2 * v2 * (s * (Y2 * da - Y1 * db) * y)) =
    s * y * (da * (u1 * X1 + 2 * v1 * X2 + (u2 * Y1 + 2 * v2 * Y2)) - 2 * db * (u1 * X2 + v1 * X1 + (u2 * Y2 + v2 * Y1))) := by grind
   rw [this, t1, t2, show s * y * (da * (O1 * da + 2 * O2 * db) - 2 * db * (O1 * db + O2 * da)) = s * (da * da - 2 * db * db) * y * O1 by grind, hz, h8]
  ·have : u1 * (s * (X2 * da - X1 * db) * y) + v1 * (s * (X1 * da - 2 * X2 * db) * y) + (u2 * (s * (Y2 * da - Y1 * db) * y) + v2 * (s * (Y1 * da - 2 * Y2 * db) * y)) =
    s * y * (da * (u1 * X2 + v1 * X1 + (u2 * Y2 + v2 * Y1)) - db * (u1 * X1 + 2 * v1 * X2 + (u2 * Y1 + 2 * v2 * Y2))) := by grind
   rw [this, t1, t2, show s * y * (da * (O1 * db + O2 * da) - db * (O1 * da + 2 * O2 * db)) = s * (da * da - 2 * db * db) * y * O2 by grind, hz, h8]
 exact ⟨fin c1 e1 c2 e2 A1 A2 s1 s2, fin g1 f1 g2 f2 B1 B2 s3 s4⟩
end Go.Ev
/- A convex polygon cut by a half-plane, by values. -/
namespace Go.Ev
theorem dir16 (r : Int) : inB (r % 16) 0 15 = true := inB_iff.2 (by omega)
theorem dt_opp {e : Int} (he : inB e 0 15 = true) (w : V4) : dtA ((e + 8) % 16) w = -dtA e w /\ dtB ((e + 8) % 16) w = -dtB e w := by
 obtain ⟨h1, h2, h3, h4⟩ := v_opp16 he
 unfold dtA dtB
 rw [h1, h2, h3, h4]
 constructor <;> grind
theorem rel_left {E D : Int} {w : V4} (hE : inB E 0 15 = true) (hD : inB D 0 15 = true) (h : isDir D w) (hr : inB ((D - E) % 16) 1 7 = true) : posZ (crA E w) (crB E w) := by
 have := (turn_pos hE hD h).1 hr
 rwa [(perp16 hE w).1, (perp16 hE w).2] at this
theorem rel_right {E D : Int} {w : V4} (hE : inB E 0 15 = true) (hD : inB D 0 15 = true) (h : isDir D w) (hr : inB ((D - E) % 16) 9 15 = true) : posZ (-crA E w) (-crB E w) := by
 have hE' := inB_iff.1 hE
 have hr' := inB_iff.1 hr
 have h8 : inB ((E + 8) % 16) 0 15 = true := inB_iff.2 (by omega)
 have := (turn_pos h8 hD h).1 (inB_iff.2 (by omega))
 have e : ((E + 8) % 16 + 4) % 16 = ((E + 4) % 16 + 8) % 16 := by omega
 rw [e, (dt_opp (dir16 _) w).1, (dt_opp (dir16 _) w).2, (perp16 hE w).1, (perp16 hE w).2] at this
 exact this
theorem rel_zero {E D : Int} {w : V4} (hE : inB E 0 15 = true) (hD : inB D 0 15 = true) (h : isDir D w) (hr : (D - E) % 16 = 0 \/ (D - E) % 16 = 8) : crA E w = 0 /\ crB E w = 0 := by
 have hE' := inB_iff.1 hE
 have hD' := inB_iff.1 hD
 rcases hr with hr | hr
 ·have : D = E := by omega
  subst this
  exact ⟨h.1, h.2.1⟩
 ·have e : D = (E + 8) % 16 := by omega
  subst e
  obtain ⟨k1, k2⟩ := perp16 (dir16 (E + 8)) w
  have e2 : ((E + 8) % 16 + 4) % 16 = ((E + 4) % 16 + 8) % 16 := by omega
  rw [e2, (dt_opp (dir16 _) w).1, (perp16 hE w).1] at k1
  rw [e2, (dt_opp (dir16 _) w).2, (perp16 hE w).2] at k2
  have h1 := h.1
  have h2 := h.2.1
  omega
theorem rel_nn {E D : Int} {w : V4} (hE : inB E 0 15 = true) (hD : inB D 0 15 = true) (h : isDir D w) (hr : inB ((D - E) % 16) 0 8 = true) : nnZ (crA E w) (crB E w) := by
 have := (turn_pos hE hD h).2 hr
 rwa [(perp16 hE w).1, (perp16 hE w).2] at this
theorem posZ_or {a b : Int} : posZ a b \/ posZ (-a) (-b) \/ (a = 0 /\ b = 0) := by
 have := sgZ_bd a b
 rcases (show sgZ a b = 1 \/ sgZ a b = -1 \/ sgZ a b = 0 by omega) with h | h | h
 ·exact .inl (sgZ_posZ.1 (by omega))
 ·exact .inr (.inl (sgZ_posZ.1 (by rw [sgZ_minus]; omega)))
 ·exact .inr (.inr (sgZ_eq_zero h))
theorem posZ_no {a b : Int} (h : posZ a b) (g : posZ (-a) (-b)) : False := by
 have := posZ_add h g
 rw [show a + -a = 0 by omega, show b + -b = 0 by omega] at this
 exact posZ_ne this ⟨rfl, rfl⟩
theorem cr_zero_dt {E : Int} {w : V4} (hE : inB E 0 15 = true) (h1 : crA E w = 0) (h2 : crB E w = 0) : isDir E w \/ isDir ((E + 8) % 16) w \/ w = ⟨0, 0, 0, 0⟩ := by
 rcases posZ_or (a := dtA E w) (b := dtB E w) with h | h | ⟨h, g⟩
 ·exact .inl ⟨h1, h2, sgZ_posZ.2 h⟩
 ·right; left
  have hE' := inB_iff.1 hE
  have e2 : ((E + 8) % 16 + 4) % 16 = ((E + 4) % 16 + 8) % 16 := by omega
  obtain ⟨k1, k2⟩ := perp16 (dir16 (E + 8)) w
  rw [e2, (dt_opp (dir16 _) w).1, (perp16 hE w).1] at k1
  rw [e2, (dt_opp (dir16 _) w).2, (perp16 hE w).2] at k2
  refine ⟨by omega, by omega, ?_⟩
  rw [(dt_opp hE w).1, (dt_opp hE w).2]
  exact sgZ_posZ.2 h
 ·right; right
  have hE' := inB_iff.1 hE
  have red : ∀ x, inB x 0 15 = true -> crA x w = 0 -> crB x w = 0 -> crA (x % 8) w = 0 /\ crB (x % 8) w = 0 := fun x hx a b => by
   have hx' := inB_iff.1 hx
   by_cases c : x < 8
   ·rw [show x % 8 = x by omega]; exact ⟨a, b⟩
   ·obtain ⟨o1, o2, _, _⟩ := opp_all (d := x % 8) (inB_iff.2 (by omega)) w
    rw [show x % 8 + 8 = x by omega] at o1 o2
    exact ⟨by omega, by omega⟩
  obtain ⟨p1, p2⟩ := perp16 (dir16 (E + 12)) w
  rw [show ((E + 12) % 16 + 4) % 16 = E by omega] at p1 p2
  obtain ⟨a1, a2⟩ := red E hE h1 h2
  obtain ⟨b1, b2⟩ := red _ (dir16 (E + 12)) (by omega) (by omega)
  exact cr_zero (inB_iff.2 (by omega)) (inB_iff.2 (by omega)) (by omega) a1 a2 b1 b2
theorem dir_of_left {E D : Int} {w : V4} (hE : inB E 0 15 = true) (hD : inB D 0 15 = true) (h1 : crA E w = 0) (h2 : crB E w = 0) (hp : posZ (crA D w) (crB D w)) (hr : inB ((E - D) % 16) 1 7 = true) : isDir E w := by
 have hr' := inB_iff.1 hr
 rcases cr_zero_dt hE h1 h2 with h | h | h
 ·exact h
 ·exfalso
  have := rel_right hD (dir16 _) h (inB_iff.2 (by omega))
  exact posZ_no hp this
 ·exfalso
  subst h
  refine posZ_ne hp ⟨?_, ?_⟩
  ·unfold crA; simp
  ·unfold crB; simp
end Go.Ev
namespace Go.Ev
structure Cvx (n : Nat) (F : Nat -> V4) (R : Nat -> Int) : Prop where
 n0 : 0 < n
 per : ∀ i, F (i + n) = F i
 lift : ∀ i, R (i + n) = R i + 16
 turn : ∀ i, 1 <= R (i + 1) - R i /\ R (i + 1) - R i <= 7
 dir : ∀ i, isDir (R i % 16) (sbV (F (i + 1)) (F i))
theorem Cvx.shift {n : Nat} {F : Nat -> V4} {R : Nat -> Int} (h : Cvx n F R) (k : Nat) (z : Int) : Cvx n (fun i => F (i + k)) (fun i => R (i + k) - 16 * z) :=
 ⟨h.n0, fun i => by show F (i + n + k) = F (i + k); rw [show i + n + k = i + k + n by omega, h.per], fun i => by show R (i + n + k) - 16 * z = R (i + k) - 16 * z + 16; rw [show i + n + k = i + k + n by omega, h.lift]; omega,
  fun i => by show 1 <= R (i + 1 + k) - 16 * z - (R (i + k) - 16 * z) /\ R (i + 1 + k) - 16 * z - (R (i + k) - 16 * z) <= 7
              have := h.turn (i + k); rw [show i + 1 + k = i + k + 1 by omega]; omega,
  fun i => by
   have := h.dir (i + k)
   show isDir ((R (i + k) - 16 * z) % 16) (sbV (F (i + 1 + k)) (F (i + k)))
   rw [show i + 1 + k = i + k + 1 by omega, show (R (i + k) - 16 * z) % 16 = R (i + k) % 16 by omega]
   exact this⟩
theorem Cvx.mono {n : Nat} {F : Nat -> V4} {R : Nat -> Int} (h : Cvx n F R) (i : Nat) : ∀ m, R i + m <= R (i + m) := by
 intro m
 induction m with
 | zero => simp
 | succ m ih => have := h.turn (i + m); rw [show i + (m + 1) = i + m + 1 by omega]; omega
theorem Cvx.le {n : Nat} {F : Nat -> V4} {R : Nat -> Int} (h : Cvx n F R) {i j : Nat} (hij : i <= j) : R i + (j - i : Nat) <= R j := by
 have := h.mono i (j - i)
 rwa [show i + (j - i) = j by omega] at this
structure Nrml (n : Nat) (R : Nat -> Int) (E : Int) : Prop where
 lo : E + 8 <= R 0
 hi : R (n - 1) < E + 24
theorem Cvx.normal {n : Nat} {F : Nat -> V4} {R : Nat -> Int} (h : Cvx n F R) (E : Int) : ∃ k z, k < n /\ Nrml n (fun i => R (i + k) - 16 * z) E := by
 have h0 := h.n0
 -- the quotient grows by one over a round
 have key : ∀ m, m <= n -> (∀ j, j <= m -> (R j - E - 8) / 16 <= (R 0 - E - 8) / 16) \/ ∃ k, k < m /\ (R k - E - 8) / 16 <= (R 0 - E - 8) / 16 /\ (R 0 - E - 8) / 16 < (R (k + 1) - E - 8) / 16 := by
  intro m
  induction m with
  | zero => intro _; exact .inl fun j hj => by rw [show j = 0 by omega]; exact Int.le_refl _
  | succ m ih =>
   intro hm
   rcases ih (by omega) with g | ⟨k, hk, g⟩
   ·by_cases c : (R (m + 1) - E - 8) / 16 <= (R 0 - E - 8) / 16
    ·left
     intro j hj
     by_cases e : j = m + 1
     ·exact e ▸ c
     ·exact g j (by omega)
    ·exact .inr ⟨m, by omega, g m (Nat.le_refl _), by omega⟩
   ·exact .inr ⟨k, by omega, g⟩
 have hl := h.lift 0
 rw [Nat.zero_add] at hl
 rcases key n (Nat.le_refl _) with g | ⟨k, hk, g1, g2⟩
 ·have := g n (Nat.le_refl _)
  omega
 ·have ht := h.turn k
  refine ⟨(k + 1) % n, if k + 1 = n then (R (k + 1) - E - 8) / 16 - 1 else (R (k + 1) - E - 8) / 16, Nat.mod_lt _ h0, ?_⟩
  by_cases e : k + 1 = n
  ·rw [e, Nat.mod_self]
   rw [e] at g2 ht
   have hk' := h.le (show n - 1 <= k by omega)
   simp only [if_true]
   refine ⟨?_, ?_⟩
   ·show E + 8 <= R (0 + 0) - _
    simp only [Nat.add_zero]
    omega
   ·show R (n - 1 + 0) - _ < E + 24
    rw [Nat.add_zero, show n - 1 = k by omega]
    omega
  ·rw [Nat.mod_eq_of_lt (by omega), if_neg e]
   refine ⟨?_, ?_⟩
   ·show E + 8 <= R (0 + (k + 1)) - _
    rw [Nat.zero_add]
    omega
   ·show R (n - 1 + (k + 1)) - _ < E + 24
    rw [show n - 1 + (k + 1) = k + n by omega, h.lift k]
    omega
end Go.Ev
namespace Go.Ev
def fA (E C : Int) (v : V4) : Int := dtA ((E + 4) % 16) v - C
def fB (E C : Int) (v : V4) : Int := dtB ((E + 4) % 16) v - C
structure Hp where
 E : Int
 C1 : Int
 C2 : Int
def Hp.pos (H : Hp) (v : V4) : Prop := posZ (fA H.E H.C1 v) (fB H.E H.C2 v)
def Hp.neg (H : Hp) (v : V4) : Prop := posZ (-fA H.E H.C1 v) (-fB H.E H.C2 v)
def Hp.zero (H : Hp) (v : V4) : Prop := fA H.E H.C1 v = 0 /\ fB H.E H.C2 v = 0
theorem Hp.or (H : Hp) (v : V4) : H.pos v \/ H.neg v \/ H.zero v := posZ_or
theorem Hp.pn {H : Hp} {v : V4} (h : H.pos v) (g : H.neg v) : False := posZ_no h g
theorem Hp.pz {H : Hp} {v : V4} (h : H.pos v) (g : H.zero v) : False := posZ_ne h g
theorem Hp.nz {H : Hp} {v : V4} (h : H.neg v) (g : H.zero v) : False := posZ_ne h ⟨by have := g.1; omega, by have := g.2; omega⟩
theorem Hp.sub (H : Hp) (hE : inB H.E 0 15 = true) (u v : V4) : fA H.E H.C1 u - fA H.E H.C1 v = crA H.E (sbV u v) /\ fB H.E H.C2 u - fB H.E H.C2 v = crB H.E (sbV u v) := by
 have p := perp16 hE (sbV u v)
 have s := dt_sb ((H.E + 4) % 16) u v
 rw [<- p.1, <- p.2, s.1, s.2]
 unfold fA fB
 exact ⟨by omega, by omega⟩
def Hp.ge (H : Hp) (u v : V4) : Prop := nnZ (fA H.E H.C1 u - fA H.E H.C1 v) (fB H.E H.C2 u - fB H.E H.C2 v)
theorem Hp.ge_refl (H : Hp) (v : V4) : H.ge v v := .inl ⟨by omega, by omega⟩
theorem Hp.ge_trans {H : Hp} {u v w : V4} (h : H.ge u v) (g : H.ge v w) : H.ge u w := by
 have := nnZ_add h g
 unfold Hp.ge
 rwa [show ∀ a b c : Int, a - b + (b - c) = a - c by intros; omega, show ∀ a b c : Int, a - b + (b - c) = a - c by intros; omega] at this
theorem Hp.ge_pos {H : Hp} {u v : V4} (h : H.ge u v) (g : H.pos v) : H.pos u := by
 have := pos_nn g h
 unfold Hp.pos
 rwa [show ∀ a b : Int, b + (a - b) = a by intros; omega, show ∀ a b : Int, b + (a - b) = a by intros; omega] at this
theorem Hp.ge_neg {H : Hp} {u v : V4} (h : H.ge u v) (g : H.neg u) : H.neg v := by
 have := pos_nn g h
 unfold Hp.neg
 rwa [show ∀ a b : Int, -a + (a - b) = -b by intros; omega, show ∀ a b : Int, -a + (a - b) = -b by intros; omega] at this
theorem Hp.pos_neg {H : Hp} {u v : V4} (h : H.pos u \/ H.zero u) (g : H.neg v) : posZ (fA H.E H.C1 u - fA H.E H.C1 v) (fB H.E H.C2 u - fB H.E H.C2 v) := by
 have h' : nnZ (fA H.E H.C1 u) (fB H.E H.C2 u) := by
  rcases h with h | h
  ·exact .inr h
  ·exact .inl h
 have := pos_nn g h'
 rwa [show ∀ a b : Int, -b + a = a - b by intros; omega, show ∀ a b : Int, -b + a = a - b by intros; omega] at this
theorem Hp.pos_zero {H : Hp} {u v : V4} (h : H.pos u) (g : H.zero v) : posZ (fA H.E H.C1 u - fA H.E H.C1 v) (fB H.E H.C2 u - fB H.E H.C2 v) := by
 rw [g.1, g.2, Int.sub_zero, Int.sub_zero]; exact h
theorem Hp.zero_neg {H : Hp} {u v : V4} (h : H.zero u) (g : H.neg v) : posZ (fA H.E H.C1 u - fA H.E H.C1 v) (fB H.E H.C2 u - fB H.E H.C2 v) := H.pos_neg (.inr h) g
theorem Hp.step {H : Hp} (hE : inB H.E 0 15 = true) {r : Int} {u v : V4} (h : isDir (r % 16) (sbV u v)) :
  ((r - H.E) % 16 = 0 \/ 8 <= (r - H.E) % 16 -> H.ge v u) /\ (inB ((r - H.E) % 16) 0 8 = true -> H.ge u v) /\
  (posZ (fA H.E H.C1 u - fA H.E H.C1 v) (fB H.E H.C2 u - fB H.E H.C2 v) -> inB ((r - H.E) % 16) 1 7 = true) /\
  (posZ (fA H.E H.C1 v - fA H.E H.C1 u) (fB H.E H.C2 v - fB H.E H.C2 u) -> inB ((r - H.E) % 16) 9 15 = true) := by
 obtain ⟨s1, s2⟩ := H.sub hE u v
 have n1 : fA H.E H.C1 v - fA H.E H.C1 u = -crA H.E (sbV u v) := by omega
 have n2 : fB H.E H.C2 v - fB H.E H.C2 u = -crB H.E (sbV u v) := by omega
 have er : (r % 16 - H.E) % 16 = (r - H.E) % 16 := by omega
 have left := fun g => rel_left hE (dir16 r) h (by rw [er]; exact g)
 have right := fun g => rel_right hE (dir16 r) h (by rw [er]; exact g)
 have zero := fun g => rel_zero hE (dir16 r) h (by rw [er]; exact g)
 have hb : 0 <= (r - H.E) % 16 /\ (r - H.E) % 16 <= 15 := by omega
 have cases3 : inB ((r - H.E) % 16) 1 7 = true \/ inB ((r - H.E) % 16) 9 15 = true \/ ((r - H.E) % 16 = 0 \/ (r - H.E) % 16 = 8) := by
  by_cases c1 : 1 <= (r - H.E) % 16 /\ (r - H.E) % 16 <= 7
  ·exact .inl (inB_iff.2 c1)
  ·by_cases c2 : 9 <= (r - H.E) % 16
   ·exact .inr (.inl (inB_iff.2 ⟨c2, hb.2⟩))
   ·exact .inr (.inr (by omega))
 refine ⟨fun g => ?_, fun g => ?_, fun g => ?_, fun g => ?_⟩
 ·unfold Hp.ge
  rw [n1, n2]
  rcases cases3 with c | c | c
  ·have := inB_iff.1 c; omega
  ·exact .inr (right c)
  ·obtain ⟨z1, z2⟩ := zero c; exact .inl ⟨by omega, by omega⟩
 ·have g := inB_iff.1 g
  unfold Hp.ge
  rw [s1, s2]
  rcases cases3 with c | c | c
  ·exact .inr (left c)
  ·have := inB_iff.1 c; omega
  ·obtain ⟨z1, z2⟩ := zero c; exact .inl ⟨by omega, by omega⟩
 ·rw [s1, s2] at g
  rcases cases3 with c | c | c
  ·exact c
  ·exact absurd (right c) (fun k => posZ_no g k)
  ·obtain ⟨z1, z2⟩ := zero c; exact absurd ⟨z1, z2⟩ (posZ_ne g)
 ·rw [n1, n2] at g
  rcases cases3 with c | c | c
  ·exact absurd (left c) (fun k => posZ_no k g)
  ·exact c
  ·obtain ⟨z1, z2⟩ := zero c; exact absurd ⟨by omega, by omega⟩ (posZ_ne g)
end Go.Ev
/- What is left of a convex polygon on a side of a line is a convex polygon, by values. -/
namespace Go.Ev
section
variable {n : Nat} {F : Nat -> V4} {R : Nat -> Int} {H : Hp}
theorem Cvx.hi (h : Cvx n F R) (nm : Nrml n R H.E) {i : Nat} (hi : i < n) : H.E + 8 <= R i /\ R i <= H.E + 23 := by
 have h1 := h.le (Nat.zero_le i)
 have h2 := h.le (show i <= n - 1 by omega)
 have := nm.lo
 have := nm.hi
 omega
theorem Cvx.down (h : Cvx n F R) (nm : Nrml n R H.E) (hE : inB H.E 0 15 = true) : ∀ m i, i + m <= n -> (m = 0 \/ R (i + m - 1) <= H.E + 16) -> H.ge (F i) (F (i + m)) := by
 intro m
 induction m with
 | zero => intro i _ _; exact H.ge_refl _
 | succ m ih =>
  intro i h1 h2
  have h2 : R (i + m) <= H.E + 16 := by
   rcases h2 with h2 | h2
   ·omega
   ·rwa [show i + (m + 1) - 1 = i + m by omega] at h2
  have hb := h.hi nm (show i + m < n by omega)
  have s := (Hp.step hE (h.dir (i + m))).1 (by omega)
  rw [show i + (m + 1) = i + m + 1 by omega]
  refine Hp.ge_trans (ih i (by omega) ?_) s
  by_cases e : m = 0
  ·exact .inl e
  ·have := h.le (show i + m - 1 <= i + m by omega)
   exact .inr (by omega)
theorem Cvx.up (h : Cvx n F R) (nm : Nrml n R H.E) (hE : inB H.E 0 15 = true) : ∀ m i, i + m <= n -> H.E + 16 <= R i -> H.ge (F (i + m)) (F i) := by
 intro m
 induction m with
 | zero => intro i _ _; exact H.ge_refl _
 | succ m ih =>
  intro i h1 h2
  have hb := h.hi nm (show i + m < n by omega)
  have := h.le (show i <= i + m by omega)
  have s := (Hp.step hE (h.dir (i + m))).2.1 (inB_iff.2 (by omega))
  rw [show i + (m + 1) = i + m + 1 by omega]
  exact Hp.ge_trans s (ih i (by omega) h2)
theorem Cvx.top (h : Cvx n F R) (nm : Nrml n R H.E) (hE : inB H.E 0 15 = true) {i : Nat} (hi : i <= n) : H.ge (F 0) (F i) := by
 by_cases c : i = 0 \/ R (i - 1) <= H.E + 16
 ·have := h.down nm hE i 0 (by omega) (by rw [Nat.zero_add]; exact c)
  rwa [Nat.zero_add] at this
 ·have t := h.turn (i - 1)
  rw [show i - 1 + 1 = i by omega] at t
  have := h.up nm hE (n - i) i (by omega) (by omega)
  rw [show i + (n - i) = 0 + n by omega, h.per] at this
  exact this
theorem Cvx.valley (h : Cvx n F R) (nm : Nrml n R H.E) (hE : inB H.E 0 15 = true) {i j k : Nat} (hij : i <= j) (hjk : j <= k) (hk : k <= n) (g1 : H.neg (F i)) (g2 : H.neg (F k)) : H.neg (F j) := by
 by_cases c : j = i \/ R (j - 1) <= H.E + 16
 ·have := h.down nm hE (j - i) i (by omega) (by rcases c with c | c; exact .inl (by omega); right; rwa [show i + (j - i) - 1 = j - 1 by omega])
  rw [show i + (j - i) = j by omega] at this
  exact Hp.ge_neg this g1
 ·have t := h.turn (j - 1)
  rw [show j - 1 + 1 = j by omega] at t
  have := h.up nm hE (k - j) j (by omega) (by omega)
  rw [show j + (k - j) = k by omega] at this
  exact Hp.ge_neg this g2
theorem cr_sb (e : Int) (u v : V4) : crA e (sbV u v) = crA e u - crA e v /\ crB e (sbV u v) = crB e u - crB e v := by
 unfold crA crB sbV
 constructor <;> grind
theorem Cvx.path (h : Cvx n F R) {p : Nat} : ∀ m k, (∀ j, k <= j -> j < k + m -> 0 <= R j - R p /\ R j - R p <= 8) -> nnZ (crA (R p % 16) (F (k + m)) - crA (R p % 16) (F k)) (crB (R p % 16) (F (k + m)) - crB (R p % 16) (F k)) := by
 intro m
 induction m with
 | zero => intro k _; exact .inl ⟨by simp, by simp⟩
 | succ m ih =>
  intro k hr
  have a := ih k fun j h1 h2 => hr j h1 (by omega)
  have b := hr (k + m) (by omega) (by omega)
  have s := rel_nn (dir16 (R p)) (dir16 (R (k + m))) (h.dir (k + m)) (inB_iff.2 (by omega))
  rw [(cr_sb _ _ _).1, (cr_sb _ _ _).2] at s
  have := nnZ_add a s
  rwa [show ∀ x y z : Int, y - z + (x - y) = x - z by intros; omega, show ∀ x y z : Int, y - z + (x - y) = x - z by intros; omega] at this
theorem Cvx.pathP (h : Cvx n F R) {p m k : Nat} (hm : 0 < m) (h1 : 1 <= R k - R p /\ R k - R p <= 7) (hr : ∀ j, k <= j -> j < k + m -> 0 <= R j - R p /\ R j - R p <= 8) : posZ (crA (R p % 16) (F (k + m)) - crA (R p % 16) (F k)) (crB (R p % 16) (F (k + m)) - crB (R p % 16) (F k)) := by
 have s := rel_left (dir16 (R p)) (dir16 (R k)) (h.dir k) (inB_iff.2 (by omega))
 rw [(cr_sb _ _ _).1, (cr_sb _ _ _).2] at s
 have a := h.path (p := p) (m - 1) (k + 1) fun j g1 g2 => hr j (by omega) (by omega)
 rw [show k + 1 + (m - 1) = k + m by omega] at a
 have := pos_nn s a
 rwa [show ∀ x y z : Int, y - z + (x - y) = x - z by intros; omega, show ∀ x y z : Int, y - z + (x - y) = x - z by intros; omega] at this
structure Low (n : Nat) (F : Nat -> V4) (H : Hp) (u w : Nat) : Prop where
 u1 : 1 <= u
 uw : u <= w
 wn : w < n
 iff : ∀ i, i < n -> (H.neg (F i) ↔ u <= i /\ i <= w)
 p0 : H.pos (F 0)
structure Gate (F : Nat -> V4) (R : Nat -> Int) (H : Hp) (u w : Nat) (X1 X2 : V4) : Prop where
 z1 : H.zero X1
 a1 : (H.pos (F (u - 1)) /\ isDir (R (u - 1) % 16) (sbV X1 (F (u - 1)))) \/ (H.zero (F (u - 1)) /\ X1 = F (u - 1))
 b1 : isDir (R (u - 1) % 16) (sbV (F u) X1)
 z2 : H.zero X2
 a2 : (H.pos (F (w + 1)) /\ isDir (R w % 16) (sbV (F (w + 1)) X2)) \/ (H.zero (F (w + 1)) /\ X2 = F (w + 1))
 b2 : isDir (R w % 16) (sbV X2 (F w))
theorem Low.down (h : Cvx n F R) (nm : Nrml n R H.E) (hE : inB H.E 0 15 = true) {u w : Nat} (lo : Low n F H u w) : H.E + 9 <= R (u - 1) /\ R (u - 1) <= H.E + 15 := by
 have u1 := lo.u1
 have uw := lo.uw
 have wn := lo.wn
 have hb := h.hi nm (show u - 1 < n by omega)
 have g1 : H.neg (F u) := (lo.iff u (by omega)).2 ⟨Nat.le_refl _, uw⟩
 have g2 : H.pos (F (u - 1)) \/ H.zero (F (u - 1)) := by
  rcases H.or (F (u - 1)) with g | g | g
  ·exact .inl g
  ·have := (lo.iff (u - 1) (by omega)).1 g; omega
  ·exact .inr g
 have d := h.dir (u - 1)
 rw [show u - 1 + 1 = u by omega] at d
 have := inB_iff.1 ((Hp.step hE d).2.2.2 (Hp.pos_neg g2 g1))
 omega
theorem Low.next (h : Cvx n F R) {u w : Nat} (lo : Low n F H u w) : H.pos (F (w + 1)) \/ H.zero (F (w + 1)) := by
 have wn := lo.wn
 by_cases e : w + 1 = n
 ·left
  rw [e, show n = 0 + n by omega, h.per]
  exact lo.p0
 ·rcases H.or (F (w + 1)) with g | g | g
  ·exact .inl g
  ·have := (lo.iff (w + 1) (by omega)).1 g; omega
  ·exact .inr g
theorem Low.rise (h : Cvx n F R) (nm : Nrml n R H.E) (hE : inB H.E 0 15 = true) {u w : Nat} (lo : Low n F H u w) : H.E + 17 <= R w := by
 have wn := lo.wn
 have hb := h.hi nm wn
 have g1 : H.neg (F w) := (lo.iff w wn).2 ⟨lo.uw, Nat.le_refl _⟩
 have := inB_iff.1 ((Hp.step hE (h.dir w)).2.2.1 (Hp.pos_neg (lo.next h) g1))
 omega
theorem mi_sb (u v : V4) : mi (sbV u v) = sbV v u := by
 unfold mi sbV
 apply V4.ext' <;> simp only <;> omega
theorem Gate.dir (h : Cvx n F R) (nm : Nrml n R H.E) (hE : inB H.E 0 15 = true) {u w : Nat} (lo : Low n F H u w) {X1 X2 : V4} (g : Gate F R H u w X1 X2) : isDir H.E (sbV X2 X1) := by
 have hE' := inB_iff.1 hE
 have u1 := lo.u1
 have uw := lo.uw
 have wn := lo.wn
 obtain ⟨d1, d2⟩ := lo.down h nm hE
 have d3 := lo.rise h nm hE
 have d4 := (h.hi nm wn).2
 obtain ⟨s1, s2⟩ := H.sub hE X2 X1
 have z1 := g.z1
 have z2 := g.z2
 have c1 : crA H.E (sbV X2 X1) = 0 := by rw [<- s1, z1.1, z2.1]; rfl
 have c2 : crB H.E (sbV X2 X1) = 0 := by rw [<- s2, z1.2, z2.2]; rfl
 have t1 := h.turn (u - 1)
 rw [show u - 1 + 1 = u by omega] at t1
 by_cases hc : R w - R (u - 1) <= 8
 ·-- seen from the side that goes down
  refine dir_of_left hE (dir16 (R (u - 1))) c1 c2 ?_ (inB_iff.2 (by omega))
  rw [(cr_sb _ _ _).1, (cr_sb _ _ _).2]
  have k3 := g.b1
  have k3a := k3.1
  have k3b := k3.2.1
  rw [(cr_sb _ _ _).1] at k3a
  rw [(cr_sb _ _ _).2] at k3b
  have e1 : crA (R (u - 1) % 16) X2 - crA (R (u - 1) % 16) X1 = crA (R (u - 1) % 16) X2 - crA (R (u - 1) % 16) (F w) + (crA (R (u - 1) % 16) (F w) - crA (R (u - 1) % 16) (F u)) := by omega
  have e2 : crB (R (u - 1) % 16) X2 - crB (R (u - 1) % 16) X1 = crB (R (u - 1) % 16) X2 - crB (R (u - 1) % 16) (F w) + (crB (R (u - 1) % 16) (F w) - crB (R (u - 1) % 16) (F u)) := by omega
  rw [e1, e2]
  by_cases huw : u = w
  ·have s := rel_left (dir16 (R (u - 1))) (dir16 (R w)) g.b2 (inB_iff.2 (by subst huw; omega))
   rw [(cr_sb _ _ _).1, (cr_sb _ _ _).2] at s
   rw [<- huw] at s ⊢
   rw [Int.sub_self, Int.sub_self, Int.add_zero, Int.add_zero]
   exact s
  ·have hw := h.le (show u <= w by omega)
   have s := rel_nn (dir16 (R (u - 1))) (dir16 (R w)) g.b2 (inB_iff.2 (by omega))
   rw [(cr_sb _ _ _).1, (cr_sb _ _ _).2] at s
   have p := h.pathP (p := u - 1) (m := w - u) (k := u) (by omega) (by omega) fun j g1 g2 => by
    have q1 := h.le (show u <= j by omega)
    have q2 := h.le (show j <= w by omega)
    omega
   rw [show u + (w - u) = w by omega] at p
   have := pos_nn p s
   rwa [Int.add_comm, Int.add_comm (crB (R (u - 1) % 16) (F w) - crB (R (u - 1) % 16) (F u))] at this
 ·-- seen from the side that comes up
  have hp := h.per (u - 1)
  have hl := h.lift (u - 1)
  have key : isDir ((H.E + 8) % 16) (sbV X1 X2) := by
   have o := perp16 (dir16 (H.E + 8)) (sbV X1 X2)
   have o2 := dt_opp (dir16 (H.E + 4)) (sbV X1 X2)
   have o3 := perp16 hE (sbV X1 X2)
   rw [show ((H.E + 8) % 16 + 4) % 16 = ((H.E + 4) % 16 + 8) % 16 by omega, o2.1, o2.2, o3.1, o3.2] at o
   have m1 : crA H.E (sbV X1 X2) = 0 := by rw [(cr_sb _ _ _).1] at c1 ⊢; omega
   have m2 : crB H.E (sbV X1 X2) = 0 := by rw [(cr_sb _ _ _).2] at c2 ⊢; omega
   refine dir_of_left (dir16 _) (dir16 (R w)) (by omega) (by omega) ?_ (inB_iff.2 (by omega))
   rw [(cr_sb _ _ _).1, (cr_sb _ _ _).2]
   have k3 : crA (R w % 16) (F (w + 1)) = crA (R w % 16) X2 /\ crB (R w % 16) (F (w + 1)) = crB (R w % 16) X2 := by
    rcases g.a2 with ⟨_, q⟩ | ⟨_, q⟩
    ·have q1 := q.1
     have q2 := q.2.1
     rw [(cr_sb _ _ _).1] at q1
     rw [(cr_sb _ _ _).2] at q2
     omega
    ·rw [q]; exact ⟨rfl, rfl⟩
   rw [<- k3.1, <- k3.2]
   have e1 : crA (R w % 16) X1 - crA (R w % 16) (F (w + 1)) = crA (R w % 16) X1 - crA (R w % 16) (F (u - 1)) + (crA (R w % 16) (F (u - 1 + n)) - crA (R w % 16) (F (w + 1))) := by rw [hp]; omega
   have e2 : crB (R w % 16) X1 - crB (R w % 16) (F (w + 1)) = crB (R w % 16) X1 - crB (R w % 16) (F (u - 1)) + (crB (R w % 16) (F (u - 1 + n)) - crB (R w % 16) (F (w + 1))) := by rw [hp]; omega
   rw [e1, e2]
   have rg : ∀ j, w + 1 <= j -> j < w + 1 + (u - 1 + n - (w + 1)) -> 0 <= R j - R w /\ R j - R w <= 8 := fun j g1 g2 => by
    have q1 := h.le (show w <= j by omega)
    have q2 := h.le (show j <= u - 1 + n by omega)
    omega
   rcases g.a1 with ⟨_, q⟩ | ⟨q0, q⟩
   ·have s := rel_left (dir16 (R w)) (dir16 (R (u - 1))) q (inB_iff.2 (by omega))
    rw [(cr_sb _ _ _).1, (cr_sb _ _ _).2] at s
    have p := h.path (p := w) (u - 1 + n - (w + 1)) (w + 1) rg
    rw [show w + 1 + (u - 1 + n - (w + 1)) = u - 1 + n by omega] at p
    exact pos_nn s p
   ·have hm : w + 1 < u - 1 + n := by
     by_cases c : w + 1 < u - 1 + n
     ·exact c
     ·exfalso
      rw [show u - 1 = 0 by omega] at q0
      exact Hp.pz lo.p0 q0
    have t2 := h.turn w
    have p := h.pathP (p := w) (m := u - 1 + n - (w + 1)) (k := w + 1) (by omega) (by omega) rg
    rw [show w + 1 + (u - 1 + n - (w + 1)) = u - 1 + n by omega] at p
    rw [q, Int.sub_self, Int.sub_self, Int.zero_add, Int.zero_add]
    exact p
  have := (isDir_flip hE (sbV X2 X1)).1 (by rw [mi_sb]; exact key)
  exact this
end
end Go.Ev
/- What is left of a convex polygon on a side of a line: its corners, its sides, their lines. -/
namespace Go.Ev
theorem mod_step {m i : Nat} (hm : 0 < m) : (i % m + 1 < m /\ (i + 1) % m = i % m + 1 /\ (i + 1) / m = i / m) \/ (i % m + 1 = m /\ (i + 1) % m = 0 /\ (i + 1) / m = i / m + 1) := by
 have h1 := Nat.div_add_mod i m
 have h2 := Nat.mod_lt i hm
 by_cases c : i % m + 1 < m
 ·left
  have e : i + 1 = i % m + 1 + m * (i / m) := by omega
  refine ⟨c, ?_, ?_⟩
  ·rw [e, Nat.add_mul_mod_self_left, Nat.mod_eq_of_lt c]
  ·rw [e, Nat.add_mul_div_left _ _ hm, Nat.div_eq_of_lt c, Nat.zero_add]
 ·right
  have e : i + 1 = m * (i / m + 1) := by rw [Nat.mul_succ]; omega
  refine ⟨by omega, ?_, ?_⟩
  ·rw [e, Nat.mul_mod_right]
  ·rw [e, Nat.mul_div_cancel_left _ hm]
theorem Cvx.mk' {m : Nat} {g : Nat -> V4} {r : Nat -> Int} (hm : 0 < m) (ht : ∀ i, i + 1 < m -> 1 <= r (i + 1) - r i /\ r (i + 1) - r i <= 7) (hw : 1 <= r 0 + 16 - r (m - 1) /\ r 0 + 16 - r (m - 1) <= 7)
  (hd : ∀ i, i + 1 < m -> isDir (r i % 16) (sbV (g (i + 1)) (g i))) (hdw : isDir (r (m - 1) % 16) (sbV (g 0) (g (m - 1)))) : Cvx m (fun i => g (i % m)) (fun i => r (i % m) + 16 * (i / m : Nat)) := by
 have lift : ∀ i, r ((i + m) % m) + 16 * ((i + m) / m : Nat) = r (i % m) + 16 * (i / m : Nat) + 16 := fun i => by
  rw [Nat.add_mod_right, Nat.add_div_right _ hm]
  omega
 refine ⟨hm, fun i => by show g ((i + m) % m) = g (i % m); rw [Nat.add_mod_right], lift, fun i => ?_, fun i => ?_⟩
 ·show 1 <= r ((i + 1) % m) + 16 * ((i + 1) / m : Nat) - (r (i % m) + 16 * (i / m : Nat)) /\ r ((i + 1) % m) + 16 * ((i + 1) / m : Nat) - (r (i % m) + 16 * (i / m : Nat)) <= 7
  rcases mod_step (i := i) hm with ⟨c, e1, e2⟩ | ⟨c, e1, e2⟩
  ·rw [e1, e2]; have := ht (i % m) c; omega
  ·rw [e1, e2, show i % m = m - 1 by omega]; omega
 ·show isDir ((r (i % m) + 16 * (i / m : Nat)) % 16) (sbV (g ((i + 1) % m)) (g (i % m)))
  rw [show (r (i % m) + 16 * (i / m : Nat)) % 16 = r (i % m) % 16 by omega]
  rcases mod_step (i := i) hm with ⟨c, e1, _⟩ | ⟨c, e1, _⟩
  ·rw [e1]; exact hd (i % m) c
  ·rw [e1, show i % m = m - 1 by omega]; exact hdw
def ctG (F : Nat -> V4) (u w α β : Nat) (X1 X2 : V4) (i : Nat) : V4 := if i < u then F i else if i < u + α then X1 else if i < u + α + β then X2 else F (i - (u + α + β) + w + 1)
def ctR (R : Nat -> Int) (E : Int) (u w α β : Nat) (i : Nat) : Int := if i + 1 < u + α then R i else if i + 1 = u + α then E + 16 else R (i - (u + α) + w + (1 - β))
def ctO (O : Nat -> N3) (o : N3) (u w α β : Nat) (i : Nat) : N3 := if i + 1 < u + α then O i else if i + 1 = u + α then o else O (i - (u + α) + w + (1 - β))
def ctM (n u w α β : Nat) : Nat := u + α + β + (n - 1 - w)
section
variable {n : Nat} {F : Nat -> V4} {R : Nat -> Int} {H : Hp} {u w α β : Nat} {X1 X2 : V4}
structure Gab (F : Nat -> V4) (H : Hp) (u w α β : Nat) : Prop where
 a : (α = 1 /\ H.pos (F (u - 1))) \/ (α = 0 /\ H.zero (F (u - 1)))
 b : (β = 1 /\ H.pos (F (w + 1))) \/ (β = 0 /\ H.zero (F (w + 1)))
theorem ctG_pre {i : Nat} (h : i < u) : ctG F u w α β X1 X2 i = F i := if_pos h
theorem ctG_post {i : Nat} (h : u + α + β <= i) : ctG F u w α β X1 X2 i = F (i - (u + α + β) + w + 1) := by
 unfold ctG
 rw [if_neg (by omega), if_neg (by omega), if_neg (by omega)]
theorem ctG_x1 (ab : Gab F H u w α β) (g : Gate F R H u w X1 X2) (u1 : 1 <= u) : ctG F u w α β X1 X2 (u + α - 1) = X1 := by
 rcases ab.a with ⟨rfl, _⟩ | ⟨rfl, z⟩
 ·unfold ctG
  rw [if_neg (by omega), if_pos (by omega)]
 ·rw [ctG_pre (by omega)]
  rcases g.a1 with ⟨p, _⟩ | ⟨_, e⟩
  ·exact absurd z (fun z => Hp.pz p z)
  ·exact e.symm
theorem ctG_x2 (ab : Gab F H u w α β) (g : Gate F R H u w X1 X2) : ctG F u w α β X1 X2 (u + α) = X2 := by
 rcases ab.b with ⟨rfl, _⟩ | ⟨rfl, z⟩
 ·unfold ctG
  rw [if_neg (by omega), if_neg (by omega), if_pos (by omega)]
 ·rw [ctG_post (by omega)]
  rcases g.a2 with ⟨p, _⟩ | ⟨_, e⟩
  ·exact absurd z (fun z => Hp.pz p z)
  ·rw [e]; congr 1; omega
theorem Gab.big (h : Cvx n F R) (lo : Low n F H u w) (ab : Gab F H u w α β) : 1 <= β + (n - 1 - w) /\ 2 <= u + α /\ α <= 1 /\ β <= 1 := by
 have u1 := lo.u1
 have wn := lo.wn
 refine ⟨?_, ?_, ?_, ?_⟩
 ·rcases ab.b with ⟨rfl, _⟩ | ⟨rfl, z⟩
  ·omega
  ·by_cases e : w + 1 = n
   ·exfalso
    rw [e, show n = 0 + n by omega, h.per] at z
    exact Hp.pz lo.p0 z
   ·omega
 ·rcases ab.a with ⟨rfl, _⟩ | ⟨rfl, z⟩
  ·omega
  ·by_cases e : u = 1
   ·exfalso
    rw [e] at z
    exact Hp.pz lo.p0 z
   ·omega
 ·rcases ab.a with ⟨rfl, _⟩ | ⟨rfl, _⟩ <;> omega
 ·rcases ab.b with ⟨rfl, _⟩ | ⟨rfl, _⟩ <;> omega
theorem Gate.cvx (h : Cvx n F R) (nm : Nrml n R H.E) (hE : inB H.E 0 15 = true) (lo : Low n F H u w) (ab : Gab F H u w α β) (g : Gate F R H u w X1 X2) :
  Cvx (ctM n u w α β) (fun i => ctG F u w α β X1 X2 (i % ctM n u w α β)) (fun i => ctR R H.E u w α β (i % ctM n u w α β) + 16 * (i / ctM n u w α β : Nat)) := by
 have hE' := inB_iff.1 hE
 obtain ⟨b1, b2, b3, b4⟩ := ab.big h lo
 have u1 := lo.u1
 have uw := lo.uw
 have wn := lo.wn
 obtain ⟨d1, d2⟩ := lo.down h nm hE
 have d3 := lo.rise h nm hE
 have r1 : ∀ {i}, i + 1 < u + α -> ctR R H.E u w α β i = R i := fun h => if_pos h
 have r2 : ∀ {i}, i + 1 = u + α -> ctR R H.E u w α β i = H.E + 16 := fun h => by unfold ctR; rw [if_neg (by omega), if_pos h]
 have r3 : ∀ {i}, u + α <= i -> ctR R H.E u w α β i = R (i - (u + α) + w + (1 - β)) := fun h => by unfold ctR; rw [if_neg (by omega), if_neg (by omega)]
 have hM : ctM n u w α β = u + α + β + (n - 1 - w) := rfl
 have last : ctR R H.E u w α β (ctM n u w α β - 1) = R (n - 1) := by
  rw [r3 (by omega)]
  congr 1
  omega
 refine Cvx.mk' (by omega) (fun i hi => ?_) ?_ (fun i hi => ?_) ?_
 ·by_cases c1 : i + 1 + 1 < u + α
  ·rw [r1 c1, r1 (by omega)]; exact h.turn i
  ·by_cases c2 : i + 1 + 1 = u + α
   ·rw [r2 c2, r1 (by omega)]
    rcases ab.a with ⟨rfl, _⟩ | ⟨rfl, z⟩
    ·rw [show i = u - 1 by omega]; omega
    ·have t := h.turn i
     rw [show i + 1 = u - 1 by omega] at t
     have hb := h.hi nm (show i < n by omega)
     -- a level first side would put its end as high as the top
     by_cases c3 : R i = H.E + 8
     ·exfalso
      have hi0 : i = 0 := by
       have q := h.le (Nat.zero_le i)
       have := nm.lo
       omega
      have s := (Hp.step hE (h.dir i)).2.1 (inB_iff.2 (by omega))
      rw [show i + 1 = u - 1 by omega, hi0] at s
      exact Hp.pz (Hp.ge_pos s lo.p0) z
     ·omega
   ·by_cases c3 : i + 1 = u + α
    ·rw [r2 c3, r3 (show u + α <= i + 1 by omega)]
     rcases ab.b with ⟨rfl, _⟩ | ⟨rfl, _⟩
     ·rw [show i + 1 - (u + α) + w + (1 - 1) = w by omega]
      have := (h.hi nm wn).2
      omega
     ·rw [show i + 1 - (u + α) + w + (1 - 0) = w + 1 by omega]
      have t := h.turn w
      have := (h.hi nm (show w + 1 < n by omega)).2
      omega
    ·rw [r3 (show u + α <= i + 1 by omega), r3 (show u + α <= i by omega), show i + 1 - (u + α) + w + (1 - β) = i - (u + α) + w + (1 - β) + 1 by omega]
     exact h.turn _
 ·rw [last, r1 (by omega)]
  have t := h.turn (n - 1)
  have l := h.lift 0
  rw [show n - 1 + 1 = 0 + n by omega, l] at t
  exact t
 ·by_cases c1 : i + 1 < u + α
  ·rw [r1 c1, ctG_pre (show i < u by omega)]
   by_cases c2 : i + 1 < u
   ·rw [ctG_pre c2]; exact h.dir i
   ·have e : i = u - 1 := by omega
    have ea : α = 1 := by omega
    rw [show i + 1 = u + α - 1 by omega, ctG_x1 ab g u1, e]
    rcases ab.a with ⟨_, p⟩ | ⟨e0, _⟩
    ·rcases g.a1 with ⟨_, q⟩ | ⟨z, _⟩
     ·exact q
     ·exact absurd z (fun z => Hp.pz p z)
    ·omega
  ·by_cases c2 : i + 1 = u + α
   ·rw [r2 c2, c2, ctG_x2 ab g, show i = u + α - 1 by omega, ctG_x1 ab g u1, show (H.E + 16) % 16 = H.E by omega]
    exact g.dir h nm hE lo
   ·rw [r3 (show u + α <= i by omega)]
    rcases ab.b with ⟨eb, p⟩ | ⟨eb, _⟩
    ·by_cases c3 : i = u + α
     ·rw [c3, ctG_x2 ab g, ctG_post (by omega), show u + α + 1 - (u + α + β) + w + 1 = w + 1 by omega, show u + α - (u + α) + w + (1 - β) = w by omega]
      rcases g.a2 with ⟨_, q⟩ | ⟨z, _⟩
      ·exact q
      ·exact absurd z (fun z => Hp.pz p z)
     ·rw [ctG_post (by omega), ctG_post (by omega), show i + 1 - (u + α + β) + w + 1 = i - (u + α) + w + (1 - β) + 1 by omega, show i - (u + α + β) + w + 1 = i - (u + α) + w + (1 - β) by omega]
      exact h.dir _
    ·rw [ctG_post (by omega), ctG_post (by omega), show i + 1 - (u + α + β) + w + 1 = i - (u + α) + w + (1 - β) + 1 by omega, show i - (u + α + β) + w + 1 = i - (u + α) + w + (1 - β) by omega]
     exact h.dir _
 ·rw [last, ctG_pre (show 0 < u by omega)]
  by_cases c : w + 1 = n
  ·have eb : β = 1 := by omega
   rw [show ctM n u w α β - 1 = u + α by omega, ctG_x2 ab g]
   rcases ab.b with ⟨_, p⟩ | ⟨e0, _⟩
   ·rcases g.a2 with ⟨_, q⟩ | ⟨z, _⟩
    ·rw [c, show n = 0 + n by omega, h.per] at q
     rw [show n - 1 = w by omega]
     exact q
    ·exact absurd z (fun z => Hp.pz p z)
   ·omega
  ·rw [ctG_post (by omega), show ctM n u w α β - 1 - (u + α + β) + w + 1 = n - 1 by omega]
   have d := h.dir (n - 1)
   rw [show n - 1 + 1 = 0 + n by omega, h.per] at d
   exact d
end
end Go.Ev
namespace Go.Ev
def Lin (F : Nat -> V4) (R : Nat -> Int) (O : Nat -> N3) : Prop := ∀ i, On (R i % 8) (O i) (F i) /\ lowB (O i)
theorem On.along {d : Int} {o : N3} {r : Int} {u v : V4} (h : On d o v) (hd : inB d 0 7 = true) (e : r % 8 = d) (k : isDir (r % 16) (sbV u v)) : On d o u := by
 obtain ⟨A, B, ho, e1, e2⟩ := h
 obtain ⟨z1, z2⟩ := dt_para hd (dir16 r) (by omega) k
 rw [(dt_sb _ _ _).1] at z1
 rw [(dt_sb _ _ _).2] at z2
 exact ⟨A, B, ho, by omega, by omega⟩
theorem mod8 (r : Int) : inB (r % 8) 0 7 = true := inB_iff.2 (by omega)
section
variable {n : Nat} {F : Nat -> V4} {R : Nat -> Int} {O : Nat -> N3} {H : Hp} {u w α β : Nat} {X1 X2 : V4}
theorem Gate.lin (h : Cvx n F R) (lo : Low n F H u w) (ab : Gab F H u w α β) (g : Gate F R H u w X1 X2) (li : Lin F R O) {o : N3} (ho : lowB o) (hx : On (H.E % 8) o X1) :
  Lin (fun i => ctG F u w α β X1 X2 (i % ctM n u w α β)) (fun i => ctR R H.E u w α β (i % ctM n u w α β) + 16 * (i / ctM n u w α β : Nat)) (fun i => ctO O o u w α β (i % ctM n u w α β)) := by
 obtain ⟨b1, b2, b3, b4⟩ := ab.big h lo
 have u1 := lo.u1
 have hM : ctM n u w α β = u + α + β + (n - 1 - w) := rfl
 intro i
 show On ((ctR R H.E u w α β (i % ctM n u w α β) + 16 * (i / ctM n u w α β : Nat)) % 8) (ctO O o u w α β (i % ctM n u w α β)) (ctG F u w α β X1 X2 (i % ctM n u w α β)) /\ lowB (ctO O o u w α β (i % ctM n u w α β))
 rw [show (ctR R H.E u w α β (i % ctM n u w α β) + 16 * (i / ctM n u w α β : Nat)) % 8 = ctR R H.E u w α β (i % ctM n u w α β) % 8 by omega]
 have hk := Nat.mod_lt i (show ctM n u w α β > 0 by omega)
 generalize i % ctM n u w α β = k at hk
 by_cases c1 : k + 1 < u + α
 ·unfold ctR ctO
  rw [if_pos c1, if_pos c1, ctG_pre (by omega)]
  exact li k
 ·by_cases c2 : k + 1 = u + α
  ·unfold ctR ctO
   rw [if_neg c1, if_pos c2, if_neg c1, if_pos c2, show k = u + α - 1 by omega, ctG_x1 ab g u1, show (H.E + 16) % 8 = H.E % 8 by omega]
   exact ⟨hx, ho⟩
  ·unfold ctR ctO
   rw [if_neg c1, if_neg c2, if_neg c1, if_neg c2]
   rcases ab.b with ⟨eb, p⟩ | ⟨eb, _⟩
   ·by_cases c3 : k = u + α
    ·rw [c3, ctG_x2 ab g, show u + α - (u + α) + w + (1 - β) = w by omega]
     exact ⟨(li w).1.along (mod8 _) rfl g.b2, (li w).2⟩
    ·rw [ctG_post (by omega), show k - (u + α + β) + w + 1 = k - (u + α) + w + (1 - β) by omega]
     exact li _
   ·rw [ctG_post (by omega), show k - (u + α + β) + w + 1 = k - (u + α) + w + (1 - β) by omega]
    exact li _
end
end Go.Ev
/- What is left of a convex polygon on a side of a line, as a list of corners. -/
namespace Go.Ev
theorem Cvx.perM {n : Nat} {F : Nat -> V4} {R : Nat -> Int} (h : Cvx n F R) (i : Nat) : ∀ k, F (i + n * k) = F i := by
 intro k
 induction k with
 | zero => rfl
 | succ k ih => rw [Nat.mul_succ, <- Nat.add_assoc, h.per]; exact ih
theorem Cvx.mod {n : Nat} {F : Nat -> V4} {R : Nat -> Int} (h : Cvx n F R) (i : Nat) : F (i % n) = F i := by
 have e := Nat.mod_add_div i n
 conv => rhs; rw [<- e]
 exact (h.perM _ _).symm
def CvxP (n : Nat) (p : Nat -> P2) : Prop := ∃ F R O, Cvx n F R /\ (∀ i, i < n -> Pt (p i) (F i)) /\ Lin F R O
theorem CvxP.shift {n : Nat} {p q : Nat -> P2} (h : CvxP n p) (k : Nat) (e : ∀ i, i < n -> q i = p ((i + k) % n)) : CvxP n q := by
 obtain ⟨F, R, O, h1, h2, h3⟩ := h
 refine ⟨_, _, fun i => O (i + k), h1.shift k 0, fun i hi => ?_, fun i => ?_⟩
 ·rw [e i hi]
  show Pt _ (F (i + k))
  rw [<- h1.mod (i + k)]
  exact h2 _ (Nat.mod_lt _ (by omega))
 ·show On ((R (i + k) - 16 * 0) % 8) (O (i + k)) (F (i + k)) /\ _
  rw [Int.mul_zero, Int.sub_zero]
  exact h3 (i + k)
theorem CvxP.congr {n : Nat} {p q : Nat -> P2} (h : CvxP n p) (e : ∀ i, i < n -> q i = p i) : CvxP n q :=
 h.shift 0 fun i hi => by rw [Nat.add_zero, Nat.mod_eq_of_lt hi]; exact e i hi
def hpL (l : Ln) (sd A B : Int) : Hp := if sd = 1 then ⟨l.d, 8 * A, 8 * B⟩ else ⟨l.d + 8, -(8 * A), -(8 * B)⟩
structure Side (l : Ln) (sd A B : Int) : Prop where
 d : inB l.d 0 7 = true
 o : VB 10 l.o A B 1073741824
 lo : lowB l.o
 s : sd = 1 \/ sd = -1
section
variable {l : Ln} {sd A B : Int}
theorem Side.E (h : Side l sd A B) : inB (hpL l sd A B).E 0 15 = true /\ (hpL l sd A B).E % 8 = l.d := by
 have hd := inB_iff.1 h.d
 unfold hpL
 rcases h.s with e | e
 ·rw [if_pos e]; exact ⟨inB_iff.2 (by simp only; omega), by simp only; omega⟩
 ·rw [if_neg (by omega)]; exact ⟨inB_iff.2 (by simp only; omega), by simp only; omega⟩
theorem Side.f (h : Side l sd A B) (v : V4) : fA (hpL l sd A B).E (hpL l sd A B).C1 v = sd * (dtA (l.d + 4) v - 8 * A) /\ fB (hpL l sd A B).E (hpL l sd A B).C2 v = sd * (dtB (l.d + 4) v - 8 * B) := by
 have hd := inB_iff.1 h.d
 unfold hpL fA fB
 rcases h.s with e | e
 ·rw [if_pos e, e]
  simp only
  rw [show (l.d + 4) % 16 = l.d + 4 by omega]
  omega
 ·rw [if_neg (by omega), e]
  simp only
  obtain ⟨o1, o2⟩ := dt_opp (e := l.d + 4) (inB_iff.2 (by omega)) v
  rw [show (l.d + 8 + 4) % 16 = (l.d + 4 + 8) % 16 by omega, o1, o2]
  omega
theorem Side.hf (h : Side l sd A B) {p : P2} {v : V4} (hp : Pt p v) : hfA l sd p = sgZ (fA (hpL l sd A B).E (hpL l sd A B).C1 v) (fB (hpL l sd A B).E (hpL l sd A B).C2 v) := by
 obtain ⟨_, k2⟩ := side_okN h.d h.o hp
 obtain ⟨f1, f2⟩ := h.f v
 have hb := hfA_bd (l := l) h.s p
 rw [hb.1, k2, f1, f2]
 rcases h.s with e | e
 ·rw [e, Int.one_mul, Int.one_mul, Int.one_mul]
 ·rw [e, show -1 * (dtA (l.d + 4) v - 8 * A) = -(dtA (l.d + 4) v - 8 * A) by omega, show -1 * (dtB (l.d + 4) v - 8 * B) = -(dtB (l.d + 4) v - 8 * B) by omega, sgZ_minus]
  omega
theorem Side.pos (h : Side l sd A B) {p : P2} {v : V4} (hp : Pt p v) : 0 < hfA l sd p ↔ (hpL l sd A B).pos v := by
 rw [h.hf hp]; exact sgZ_posZ
theorem Side.neg (h : Side l sd A B) {p : P2} {v : V4} (hp : Pt p v) : hfA l sd p < 0 ↔ (hpL l sd A B).neg v := by
 rw [h.hf hp]; exact sgZ_lt
theorem Side.zero (h : Side l sd A B) {p : P2} {v : V4} (hp : Pt p v) : hfA l sd p = 0 ↔ (hpL l sd A B).zero v := by
 rw [h.hf hp]
 constructor
 ·exact sgZ_eq_zero
 ·rintro ⟨e1, e2⟩; rw [e1, e2, sgZ_zero]
theorem Side.gez (h : Side l sd A B) {p : P2} {v : V4} (hp : Pt p v) : gez (hfA l sd p) = true ↔ ¬ (hpL l sd A B).neg v := by
 rw [<- h.neg hp]
 unfold Go.Ev.gez
 rw [decide_eq_true_eq]
 omega
theorem Side.cross (h : Side l sd A B) {p q : P2} {v u : V4} (hp : Pt p v) (hq : Pt q u) : ltz (wr (hfA l sd p * hfA l sd q)) = true ↔ ((hpL l sd A B).pos v /\ (hpL l sd A B).neg u) \/ ((hpL l sd A B).neg v /\ (hpL l sd A B).pos u) := by
 rw [<- h.pos hp, <- h.pos hq, <- h.neg hp, <- h.neg hq]
 have b1 := (hfA_bd (l := l) h.s p).2
 have b2 := (hfA_bd (l := l) h.s q).2
 unfold ltz
 rw [decide_eq_true_eq]
 rcases (show hfA l sd p = -1 \/ hfA l sd p = 0 \/ hfA l sd p = 1 by omega) with e | e | e <;> rcases (show hfA l sd q = -1 \/ hfA l sd q = 0 \/ hfA l sd q = 1 by omega) with e' | e' | e' <;> rw [e, e'] <;> decide
end
theorem On.cr {r : Int} {o : N3} {u v : V4} (h : On (r % 8) o u) (g : On (r % 8) o v) : crA (r % 16) (sbV u v) = 0 /\ crB (r % 16) (sbV u v) = 0 := by
 obtain ⟨A, B, ho, e1, e2⟩ := h
 obtain ⟨C, D, ho', f1, f2⟩ := g
 obtain ⟨rfl, rfl⟩ := val_same ho.v ho'.v
 have s := dt_sb (r % 8 + 4) u v
 have p := perp16 (dir16 r) (sbV u v)
 by_cases c : r % 16 < 8
 ·rw [show (r % 16 + 4) % 16 = r % 8 + 4 by omega, s.1, s.2] at p
  omega
 ·obtain ⟨o1, o2⟩ := dt_opp (e := r % 8 + 4) (inB_iff.2 (by omega)) (sbV u v)
  rw [show (r % 16 + 4) % 16 = (r % 8 + 4 + 8) % 16 by omega, o1, o2, s.1, s.2] at p
  omega
theorem same_way {E r : Int} {w w' : V4} (hE : inB E 0 15 = true) (h : isDir (r % 16) w') (z : crA (r % 16) w = 0 /\ crB (r % 16) w = 0)
  (hs : (posZ (crA E w') (crB E w') /\ posZ (crA E w) (crB E w)) \/ (posZ (-crA E w') (-crB E w') /\ posZ (-crA E w) (-crB E w))) : isDir (r % 16) w := by
 rcases cr_zero_dt (dir16 r) z.1 z.2 with g | g | g
 ·exact g
 ·exfalso
  have tri : inB ((r % 16 - E) % 16) 1 7 = true \/ inB ((r % 16 - E) % 16) 9 15 = true \/ ((r % 16 - E) % 16 = 0 \/ (r % 16 - E) % 16 = 8) := by
   by_cases c1 : 1 <= (r % 16 - E) % 16 /\ (r % 16 - E) % 16 <= 7
   ·exact .inl (inB_iff.2 c1)
   ·by_cases c2 : 9 <= (r % 16 - E) % 16
    ·exact .inr (.inl (inB_iff.2 ⟨c2, by omega⟩))
    ·exact .inr (.inr (by omega))
  rcases tri with c | c | c
  ·have a := rel_left hE (dir16 r) h c
   have b := rel_right hE (dir16 _) g (inB_iff.2 (by have := inB_iff.1 c; omega))
   rcases hs with ⟨_, k⟩ | ⟨k, _⟩
   ·exact posZ_no k b
   ·exact posZ_no a k
  ·have a := rel_right hE (dir16 r) h c
   have b := rel_left hE (dir16 _) g (inB_iff.2 (by have := inB_iff.1 c; omega))
   rcases hs with ⟨k, _⟩ | ⟨_, k⟩
   ·exact posZ_no k a
   ·exact posZ_no b k
  ·obtain ⟨z1, z2⟩ := rel_zero hE (dir16 r) h c
   rw [z1, z2] at hs
   rcases hs with ⟨k, _⟩ | ⟨k, _⟩ <;> exact posZ_ne k ⟨rfl, rfl⟩
 ·exfalso
  subst g
  have e1 : crA E ⟨0, 0, 0, 0⟩ = 0 := by unfold crA; simp
  have e2 : crB E ⟨0, 0, 0, 0⟩ = 0 := by unfold crB; simp
  rw [e1, e2] at hs
  rcases hs with ⟨_, k⟩ | ⟨_, k⟩ <;> exact posZ_ne k ⟨rfl, rfl⟩
structure CutOk (l : Ln) (p q : P2) : Prop where
 pk : pkP q p = true
 wy : wayN (subP q p) = true
 dr : inB (dirV p q) 0 15 = true
 pd : pkD (nrm (dirV p q % 8)) p = true
 cb : cutB l p q = true
theorem cross_ok {l : Ln} {sd A B r : Int} {o : N3} {p q : P2} {v u : V4} (h : Side l sd A B) (hp : Pt p v) (hq : Pt q u) (hd : isDir (r % 16) (sbV u v)) (ho : On (r % 8) o v) (hl : lowB o)
  (hc : ((hpL l sd A B).pos v /\ (hpL l sd A B).neg u) \/ ((hpL l sd A B).neg v /\ (hpL l sd A B).pos u)) :
  CutOk l p q /\ ∃ X, Pt (cutX l p q) X /\ (hpL l sd A B).zero X /\ isDir (r % 16) (sbV X v) /\ isDir (r % 16) (sbV u X) /\ On l.d l.o X := by
 obtain ⟨hE, hE8⟩ := h.E
 have hE' := inB_iff.1 hE
 have e : dirV p q = r % 16 := hp.dir hq (dir16 r) hd
 have e8 : dirV p q % 8 = r % 8 := by rw [e]; omega
 obtain ⟨w1, w2⟩ := hp.way hq
 have eo : offV (r % 8) p = o := ho.off (mod8 r) hl hp
 have hn : nbB o = true := by obtain ⟨A', B', k, _⟩ := ho; exact vb_nbB k (Nat.le_refl _)
 have hne : (r % 8 == l.d) = false := by
  rw [beq_eq_false_iff_ne]
  intro e9
  have s := Hp.step hE hd
  rcases hc with ⟨c1, c2⟩ | ⟨c1, c2⟩
  ·have := inB_iff.1 (s.2.2.2 (Hp.pos_neg (.inl c1) c2))
   omega
  ·have := inB_iff.1 (s.2.2.1 (Hp.pos_neg (.inl c2) c1))
   omega
 refine ⟨⟨w2, way_wayN w1, by rw [e]; exact dir16 r, by rw [e8]; exact (off_valN (mod8 r) hp).2.2, ?_⟩, ?_⟩
 ·unfold cutB
  rw [e8, eo, hn, mod8 r, h.d, hne, vb_nbB h.o (Nat.le_refl _)]
  rfl
 ·have ho' := ho
  obtain ⟨A1, A2, k1, k2, k3⟩ := ho'
  obtain ⟨X, x1, ⟨x2, x3⟩, x4, x5⟩ := meet_on (mod8 r) h.d hne k1 h.o
  have hX : On (r % 8) o X := ⟨A1, A2, k1, x2, x3⟩
  have hz : (hpL l sd A B).zero X := by
   obtain ⟨f1, f2⟩ := h.f X
   refine ⟨?_, ?_⟩
   ·rw [f1, x4, Int.sub_self, Int.mul_zero]
   ·rw [f2, x5, Int.sub_self, Int.mul_zero]
  have ex : cutX l p q = mtP (r % 8) l.d o l.o := by unfold cutX; rw [e8, eo]
  obtain ⟨s1, s2⟩ := (hpL l sd A B).sub hE u v
  obtain ⟨t1, t2⟩ := (hpL l sd A B).sub hE X v
  obtain ⟨y1, y2⟩ := (hpL l sd A B).sub hE u X
  have hu : On (r % 8) o u := ho.along (mod8 r) rfl hd
  refine ⟨X, by rw [ex]; exact x1, hz, same_way hE hd (hX.cr ho) ?_, same_way hE hd (hu.cr hX) ?_, A, B, h.o, x4, x5⟩
  ·rw [<- s1, <- s2, <- t1, <- t2]
   rcases hc with ⟨c1, c2⟩ | ⟨c1, c2⟩
   ·have g1 := Hp.pos_neg (.inl c1) c2
    have g2 := Hp.pos_zero c1 hz
    right
    refine ⟨?_, ?_⟩
    ·rwa [Int.neg_sub, Int.neg_sub]
    ·rwa [Int.neg_sub, Int.neg_sub]
   ·exact .inl ⟨Hp.pos_neg (.inl c2) c1, Hp.zero_neg hz c1⟩
  ·rw [<- s1, <- s2, <- y1, <- y2]
   rcases hc with ⟨c1, c2⟩ | ⟨c1, c2⟩
   ·have g1 := Hp.pos_neg (.inl c1) c2
    have g2 := Hp.zero_neg hz c2
    right
    refine ⟨?_, ?_⟩
    ·rwa [Int.neg_sub, Int.neg_sub]
    ·rwa [Int.neg_sub, Int.neg_sub]
   ·exact .inl ⟨Hp.pos_neg (.inl c2) c1, Hp.pos_zero c2 hz⟩
end Go.Ev
/- Inside a convex polygon, by values: corners, support, parts. -/
namespace Go.Ev
theorem isDir_vec {e : Int} (he : inB e 0 15 = true) : isDir e (vecV e) := by
 have n1 : sgD e (vecV e) = 1 := by simpa using List.all_eq_true.1 len_all e (in_dirs16 he)
 refine ⟨?_, ?_, ?_⟩
 ·unfold crA vecV; simp only; grind
 ·unfold crB vecV; simp only; grind
 ·show sgD e (vecV e) > 0
  omega
theorem posZ_mul {a b c d : Int} (h : posZ a b) : (posZ c d ↔ posZ (a * c + 2 * b * d) (a * d + b * c)) /\ (nnZ c d ↔ nnZ (a * c + 2 * b * d) (a * d + b * c)) := by
 have m := sgZ_mul a b c d
 have h1 : sgZ a b = 1 := by have := sgZ_posZ.2 h; have := sgZ_bd a b; omega
 rw [h1, Int.one_mul] at m
 have p : posZ c d ↔ posZ (a * c + 2 * b * d) (a * d + b * c) := by rw [<- sgZ_posZ, <- sgZ_posZ, m]
 refine ⟨p, ?_⟩
 unfold nnZ
 rw [p]
 constructor
 ·rintro (⟨rfl, rfl⟩ | g)
  ·left; constructor <;> simp
  ·exact .inr g
 ·rintro (⟨g1, g2⟩ | g)
  ·left
   have : sgZ c d = 0 := by rw [<- m, g1, g2, sgZ_zero]
   exact sgZ_eq_zero this
  ·exact .inr g
theorem nnZ_mul {a b c d : Int} (h : nnZ a b) (g : nnZ c d) : nnZ (a * c + 2 * b * d) (a * d + b * c) := by
 rcases h with ⟨rfl, rfl⟩ | h
 ·left; constructor <;> simp
 ·exact (posZ_mul h).2.1 g
theorem plucker (a b c d p q r s x y z t i j k l : Int) :
  ((a * r + 2 * b * s - (c * p + 2 * d * q)) * (x * k + 2 * y * l - (z * i + 2 * t * j)) + 2 * (a * s + b * r - (c * q + d * p)) * (x * l + y * k - (z * j + t * i)) =
   (x * r + 2 * y * s - (z * p + 2 * t * q)) * (a * k + 2 * b * l - (c * i + 2 * d * j)) + 2 * (x * s + y * r - (z * q + t * p)) * (a * l + b * k - (c * j + d * i)) +
   ((a * z + 2 * b * t - (c * x + 2 * d * y)) * (p * k + 2 * q * l - (r * i + 2 * s * j)) + 2 * (a * t + b * z - (c * y + d * x)) * (p * l + q * k - (r * j + s * i)))) /\
  ((a * r + 2 * b * s - (c * p + 2 * d * q)) * (x * l + y * k - (z * j + t * i)) + (a * s + b * r - (c * q + d * p)) * (x * k + 2 * y * l - (z * i + 2 * t * j)) =
   (x * r + 2 * y * s - (z * p + 2 * t * q)) * (a * l + b * k - (c * j + d * i)) + (x * s + y * r - (z * q + t * p)) * (a * k + 2 * b * l - (c * i + 2 * d * j)) +
   ((a * z + 2 * b * t - (c * x + 2 * d * y)) * (p * l + q * k - (r * j + s * i)) + (a * t + b * z - (c * y + d * x)) * (p * k + 2 * q * l - (r * i + 2 * s * j)))) := by
 constructor <;> grind
theorem between {A B D : Int} {v : V4} (hA : inB A 0 15 = true) (hB : inB B 0 15 = true) (hD : inB D 0 15 = true) (h1 : inB ((D - A) % 16) 0 6 = true) (h2 : inB ((B - D) % 16) 1 7 = true) (h3 : inB ((B - A) % 16) 1 7 = true) :
  (nnZ (crA A v) (crB A v) -> nnZ (crA B v) (crB B v) -> nnZ (crA D v) (crB D v)) /\ (posZ (crA A v) (crB A v) -> nnZ (crA B v) (crB B v) -> posZ (crA D v) (crB D v)) := by
 have k := plucker (vC1 A) (vE1 A) (vC2 A) (vE2 A) (vC1 B) (vE1 B) (vC2 B) (vE2 B) (vC1 D) (vE1 D) (vC2 D) (vE2 D) v.a v.b v.c v.d
 have ab : posZ (crA A (vecV B)) (crB A (vecV B)) := rel_left hA hB (isDir_vec hB) h3
 have db : posZ (crA D (vecV B)) (crB D (vecV B)) := rel_left hD hB (isDir_vec hB) h2
 have ad : nnZ (crA A (vecV D)) (crB A (vecV D)) := rel_nn hA hD (isDir_vec hD) (by have := inB_iff.1 h1; exact inB_iff.2 (by omega))
 have e1 : crA A (vecV B) * crA D v + 2 * crB A (vecV B) * crB D v = crA D (vecV B) * crA A v + 2 * crB D (vecV B) * crB A v + (crA A (vecV D) * crA B v + 2 * crB A (vecV D) * crB B v) := k.1
 have e2 : crA A (vecV B) * crB D v + crB A (vecV B) * crA D v = crA D (vecV B) * crB A v + crB D (vecV B) * crA A v + (crA A (vecV D) * crB B v + crB A (vecV D) * crA B v) := k.2
 refine ⟨fun p q => (posZ_mul ab).2.2 ?_, fun p q => (posZ_mul ab).1.2 ?_⟩
 ·rw [e1, e2]
  exact nnZ_add (nnZ_mul (.inr db) p) (nnZ_mul ad q)
 ·rw [e1, e2]
  exact pos_nn ((posZ_mul db).1.1 p) (nnZ_mul ad q)
def Ins (F : Nat -> V4) (R : Nat -> Int) (P : V4) : Prop := ∀ i, nnZ (crA (R i % 16) (sbV P (F i))) (crB (R i % 16) (sbV P (F i)))
def Int' (F : Nat -> V4) (R : Nat -> Int) (P : V4) : Prop := ∀ i, posZ (crA (R i % 16) (sbV P (F i))) (crB (R i % 16) (sbV P (F i)))
section
variable {n : Nat} {F : Nat -> V4} {R : Nat -> Int}
theorem Cvx.support (h : Cvx n F R) {D : Int} (hD : inB D 0 15 = true) : ∃ j, ∀ P, (Ins F R P -> nnZ (crA D (sbV P (F j))) (crB D (sbV P (F j)))) /\ (Int' F R P -> posZ (crA D (sbV P (F j))) (crB D (sbV P (F j)))) := by
 have hD' := inB_iff.1 hD
 -- a side from which D turns to the left by less than the next side
 obtain ⟨k, z, hk, nm⟩ := h.normal (D - 8)
 have s := h.shift k z
 -- R (k) - 16 z is in D .. D + 6, the one before below D
 have l1 := nm.lo
 have l2 := nm.hi
 simp only [Nat.zero_add] at l1 l2
 have hp : R (n - 1 + k) - 16 * z = R (n - 1 + k) - 16 * z := rfl
 have n0 := h.n0
 have t := h.turn (n - 1 + k)
 have e : n - 1 + k + 1 = k + n := by omega
 rw [e, h.lift k] at t
 refine ⟨k, fun P => ?_⟩
 have hF : F k = F (n - 1 + k + 1) := by rw [e, h.per]
 -- the side before corner k: j = n - 1 + k; the side behind it: k
 have on1 : crA (R (n - 1 + k) % 16) (sbV P (F k)) = crA (R (n - 1 + k) % 16) (sbV P (F (n - 1 + k))) /\ crB (R (n - 1 + k) % 16) (sbV P (F k)) = crB (R (n - 1 + k) % 16) (sbV P (F (n - 1 + k))) := by
  have d := h.dir (n - 1 + k)
  have d1 := d.1
  have d2 := d.2.1
  rw [<- hF] at d1 d2
  rw [(cr_sb _ _ _).1] at d1
  rw [(cr_sb _ _ _).2] at d2
  simp only [(cr_sb _ _ _).1, (cr_sb _ _ _).2]
  omega
 by_cases c : R k - 16 * z = D
 ·have eD : R k % 16 = D := by omega
  exact ⟨fun g => by rw [<- eD]; exact g k, fun g => by rw [<- eD]; exact g k⟩
 ·have bt := between (A := R (n - 1 + k) % 16) (B := R k % 16) (D := D) (v := sbV P (F k)) (dir16 _) (dir16 _) hD (inB_iff.2 (by omega)) (inB_iff.2 (by omega)) (inB_iff.2 (by omega))
  refine ⟨fun g => bt.1 ?_ (g k), fun g => bt.2 ?_ (.inr (g k))⟩
  ·rw [on1.1, on1.2]; exact g _
  ·rw [on1.1, on1.2]; exact g _
theorem Cvx.back (h : Cvx n F R) {p : Nat} : ∀ m k, (∀ j, k <= j -> j < k + m -> 8 <= R j - R p /\ R j - R p <= 16) -> nnZ (crA (R p % 16) (F k) - crA (R p % 16) (F (k + m))) (crB (R p % 16) (F k) - crB (R p % 16) (F (k + m))) := by
 intro m
 induction m with
 | zero => intro k _; exact .inl ⟨by simp, by simp⟩
 | succ m ih =>
  intro k hr
  have a := ih k fun j h1 h2 => hr j h1 (by omega)
  have b := hr (k + m) (by omega) (by omega)
  have d := (isDir_flip (dir16 (R (k + m))) _).2 (h.dir (k + m))
  rw [mi_sb] at d
  have s := rel_nn (dir16 (R p)) (dir16 _) d (inB_iff.2 (by omega))
  rw [(cr_sb _ _ _).1, (cr_sb _ _ _).2] at s
  have := nnZ_add a s
  rwa [show ∀ x y z : Int, z - y + (y - x) = z - x by intros; omega, show ∀ x y z : Int, z - y + (y - x) = z - x by intros; omega] at this
theorem Cvx.corner (h : Cvx n F R) (j : Nat) : Ins F R (F j) := by
 intro i
 have n0 := h.n0
 rw [(cr_sb _ _ _).1, (cr_sb _ _ _).2]
 -- the same corner between i and i + n
 obtain ⟨j', e, h1, h2⟩ : ∃ j', F j' = F j /\ i <= j' /\ j' <= i + n := by
  have hm := Nat.mod_lt j n0
  have hi := Nat.mod_lt i n0
  have di := Nat.div_add_mod i n
  by_cases c : i % n <= j % n
  ·exact ⟨j % n + n * (i / n), by rw [h.perM, h.mod], by omega, by omega⟩
  ·refine ⟨j % n + n * (i / n + 1), by rw [h.perM, h.mod], ?_, ?_⟩
   ·rw [Nat.mul_succ]; omega
   ·rw [Nat.mul_succ]; omega
 rw [<- e]
 by_cases c : ∀ k, i <= k -> k < j' -> R k - R i <= 8
 ·have := h.path (p := i) (j' - i) i fun k g1 g2 => by
   have := h.le (show i <= k from g1)
   exact ⟨by omega, c k g1 (by omega)⟩
  rwa [show i + (j' - i) = j' by omega] at this
 ·have c' : ∃ k, i <= k /\ k < j' /\ 8 < R k - R i := by
   apply Classical.byContradiction
   intro q
   apply c
   intro k g1 g2
   rcases Int.lt_or_le 8 (R k - R i) with g3 | g3
   ·exact absurd ⟨k, g1, g2, g3⟩ q
   ·exact g3
  obtain ⟨k, k1, k2, k3⟩ := c'
  have := h.back (p := i) (i + n - j') j' fun q g1 g2 => by
   have a := h.le (show k <= q by omega)
   have b := h.le (show q <= i + n by omega)
   rw [h.lift] at b
   omega
  rw [show j' + (i + n - j') = i + n by omega, h.per] at this
  exact this
end
end Go.Ev
/- Inside the parts of a convex polygon. -/
namespace Go.Ev
def Hp.nn (H : Hp) (v : V4) : Prop := nnZ (fA H.E H.C1 v) (fB H.E H.C2 v)
theorem Hp.nn_iff {H : Hp} {v : V4} : H.nn v ↔ ¬ H.neg v := by
 unfold Hp.nn nnZ
 constructor
 ·rintro (h | h) g
  ·exact Hp.nz g h
  ·exact Hp.pn h g
 ·intro h
  rcases H.or v with g | g | g
  ·exact .inr g
  ·exact absurd g h
  ·exact .inl g
section
variable {n : Nat} {F : Nat -> V4} {R : Nat -> Int} {H : Hp} {u w α β : Nat} {X1 X2 : V4}
theorem Hp.add (H : Hp) (hE : inB H.E 0 15 = true) (P v : V4) : fA H.E H.C1 P = fA H.E H.C1 v + crA H.E (sbV P v) /\ fB H.E H.C2 P = fB H.E H.C2 v + crB H.E (sbV P v) := by
 obtain ⟨s1, s2⟩ := H.sub hE P v
 omega
theorem Cvx.whole (h : Cvx n F R) (hE : inB H.E 0 15 = true) (hn : ∀ i, ¬ H.neg (F i)) (P : V4) : (Ins F R P -> H.nn P) /\ (Int' F R P -> H.pos P) := by
 obtain ⟨j, hj⟩ := h.support hE
 obtain ⟨a1, a2⟩ := H.add hE P (F j)
 have b := Hp.nn_iff.2 (hn j)
 refine ⟨fun g => ?_, fun g => ?_⟩
 ·unfold Hp.nn
  rw [a1, a2]
  exact nnZ_add b ((hj P).1 g)
 ·unfold Hp.pos
  rw [a1, a2, Int.add_comm, Int.add_comm (fB _ _ _)]
  exact pos_nn ((hj P).2 g) b
theorem Cvx.below (h : Cvx n F R) (hE : inB H.E 0 15 = true) (hn : ∀ i, ¬ H.pos (F i)) (P : V4) (g : Ins F R P) : ¬ H.pos P := by
 have hE' := inB_iff.1 hE
 obtain ⟨j, hj⟩ := h.support (dir16 (H.E + 8))
 obtain ⟨a1, a2⟩ := H.add hE P (F j)
 have k := (hj P).1 g
 have o := perp16 (dir16 (H.E + 8)) (sbV P (F j))
 have o2 := dt_opp (dir16 (H.E + 4)) (sbV P (F j))
 have o3 := perp16 hE (sbV P (F j))
 rw [show ((H.E + 8) % 16 + 4) % 16 = ((H.E + 4) % 16 + 8) % 16 by omega, o2.1, o2.2, o3.1, o3.2] at o
 rw [<- o.1, <- o.2] at k
 intro p
 have q : posZ (fA H.E H.C1 (F j)) (fB H.E H.C2 (F j)) := by
  have p' : posZ (fA H.E H.C1 P) (fB H.E H.C2 P) := p
  have := pos_nn p' k
  rw [a1, a2] at this
  rwa [show ∀ a b : Int, a + b + -b = a by intros; omega, show ∀ a b : Int, a + b + -b = a by intros; omega] at this
 exact hn j q
theorem gate_ins (h : Cvx n F R) {i : Nat} {X : V4} (h1 : isDir (R i % 16) (sbV X (F i)) \/ X = F i) (h2 : isDir (R i % 16) (sbV (F (i + 1)) X) \/ X = F (i + 1)) : Ins F R X := by
 intro k
 have c1 := h.corner i k
 have c2 := h.corner (i + 1) k
 rcases h1 with h1 | h1
 ·rcases h2 with h2 | h2
  ·by_cases c : inB ((R i % 16 - R k % 16) % 16) 0 8 = true
   ·have s := rel_nn (dir16 (R k)) (dir16 (R i)) h1 c
    rw [(cr_sb _ _ _).1, (cr_sb _ _ _).2] at c1 s ⊢
    have := nnZ_add s c1
    rwa [show ∀ x y z : Int, x - y + (y - z) = x - z by intros; omega, show ∀ x y z : Int, x - y + (y - z) = x - z by intros; omega] at this
   ·have hb : ¬ (0 <= (R i % 16 - R k % 16) % 16 /\ (R i % 16 - R k % 16) % 16 <= 8) := fun q => c (inB_iff.2 q)
    have s := rel_right (dir16 (R k)) (dir16 (R i)) h2 (inB_iff.2 (by omega))
    rw [(cr_sb _ _ _).1, (cr_sb _ _ _).2] at c2 s ⊢
    have := nnZ_add (.inr s) c2
    rwa [show ∀ x y z : Int, -(x - y) + (x - z) = y - z by intros; omega, show ∀ x y z : Int, -(x - y) + (x - z) = y - z by intros; omega] at this
  ·rw [h2]; exact c2
 ·rw [h1]; exact c1
theorem Gate.region (h : Cvx n F R) (nm : Nrml n R H.E) (hE : inB H.E 0 15 = true) (lo : Low n F H u w) (ab : Gab F H u w α β) (g : Gate F R H u w X1 X2) {G : Nat -> V4} {S : Nat -> Int}
  (hG : G = fun i => ctG F u w α β X1 X2 (i % ctM n u w α β)) (hS : S = fun i => ctR R H.E u w α β (i % ctM n u w α β) + 16 * (i / ctM n u w α β : Nat)) (P : V4) :
  (Ins G S P ↔ Ins F R P /\ H.nn P) /\ (Int' G S P ↔ Int' F R P /\ H.pos P) := by
 have hE' := inB_iff.1 hE
 have cv := g.cvx h nm hE lo ab
 rw [<- hG, <- hS] at cv
 obtain ⟨b1, b2, b3, b4⟩ := ab.big h lo
 have u1 := lo.u1
 have uw := lo.uw
 have wn := lo.wn
 have hM : ctM n u w α β = u + α + β + (n - 1 - w) := rfl
 have m0 := cv.n0
 have z1 := g.z1
 -- a side of what is left: seen from it, the point lies as from a side of the polygon, or as from the line
 have side : ∀ i, (∃ k, crA (S i % 16) (sbV P (G i)) = crA (R k % 16) (sbV P (F k)) /\ crB (S i % 16) (sbV P (G i)) = crB (R k % 16) (sbV P (F k))) \/ (crA (S i % 16) (sbV P (G i)) = fA H.E H.C1 P /\ crB (S i % 16) (sbV P (G i)) = fB H.E H.C2 P) := fun i => by
  have hk := Nat.mod_lt i m0
  have eG : G i = ctG F u w α β X1 X2 (i % ctM n u w α β) := by rw [hG]
  have eS : S i % 16 = ctR R H.E u w α β (i % ctM n u w α β) % 16 := by rw [hS]; simp only; omega
  rw [eG, eS]
  generalize i % ctM n u w α β = k at hk
  by_cases c1 : k + 1 < u + α
  ·left
   refine ⟨k, ?_⟩
   rw [show ctR R H.E u w α β k = R k from if_pos c1, ctG_pre (show k < u by omega)]
   exact ⟨rfl, rfl⟩
  ·by_cases c2 : k + 1 = u + α
   ·right
    rw [show ctR R H.E u w α β k = H.E + 16 by unfold ctR; rw [if_neg c1, if_pos c2], show k = u + α - 1 by omega, ctG_x1 ab g u1, show (H.E + 16) % 16 = H.E by omega]
    obtain ⟨a1, a2⟩ := H.add hE P X1
    rw [z1.1] at a1
    rw [z1.2] at a2
    omega
   ·left
    rw [show ctR R H.E u w α β k = R (k - (u + α) + w + (1 - β)) by unfold ctR; rw [if_neg c1, if_neg c2]]
    refine ⟨k - (u + α) + w + (1 - β), ?_⟩
    rcases ab.b with ⟨eb, p⟩ | ⟨eb, _⟩
    ·by_cases c3 : k = u + α
     ·rw [c3, ctG_x2 ab g, show u + α - (u + α) + w + (1 - β) = w by omega]
      have d1 := g.b2.1
      have d2 := g.b2.2.1
      rw [(cr_sb _ _ _).1] at d1
      rw [(cr_sb _ _ _).2] at d2
      simp only [(cr_sb _ _ _).1, (cr_sb _ _ _).2]
      omega
     ·rw [ctG_post (by omega), show k - (u + α + β) + w + 1 = k - (u + α) + w + (1 - β) by omega]
      exact ⟨rfl, rfl⟩
    ·rw [ctG_post (by omega), show k - (u + α + β) + w + 1 = k - (u + α) + w + (1 - β) by omega]
     exact ⟨rfl, rfl⟩
 -- one side lies on the line
 have line : crA (S (u + α - 1) % 16) (sbV P (G (u + α - 1))) = fA H.E H.C1 P /\ crB (S (u + α - 1) % 16) (sbV P (G (u + α - 1))) = fB H.E H.C2 P := by
  have hk : (u + α - 1) % ctM n u w α β = u + α - 1 := Nat.mod_eq_of_lt (by omega)
  have eG : G (u + α - 1) = X1 := by rw [hG]; simp only; rw [hk, ctG_x1 ab g u1]
  have eS : S (u + α - 1) % 16 = H.E := by
   rw [hS]
   simp only
   rw [hk, show ctR R H.E u w α β (u + α - 1) = H.E + 16 by unfold ctR; rw [if_neg (by omega), if_pos (by omega)]]
   omega
  rw [eG, eS]
  obtain ⟨a1, a2⟩ := H.add hE P X1
  rw [z1.1] at a1
  rw [z1.2] at a2
  omega
 -- every corner of what is left is inside the polygon
 have x1 : Ins F R X1 := by
  have b := g.b1
  refine gate_ins h (i := u - 1) ?_ ?_
  ·rcases g.a1 with ⟨_, q⟩ | ⟨_, q⟩
   ·exact .inl q
   ·exact .inr q
  ·rw [show u - 1 + 1 = u by omega]; exact .inl b
 have x2 : Ins F R X2 := by
  refine gate_ins h (i := w) (.inl g.b2) ?_
  rcases g.a2 with ⟨_, q⟩ | ⟨_, q⟩
  ·exact .inl q
  ·exact .inr q
 have corner : ∀ i, Ins F R (G i) := fun i => by
  rw [hG]
  simp only
  generalize i % ctM n u w α β = k
  unfold ctG
  by_cases c1 : k < u
  ·rw [if_pos c1]; exact h.corner k
  ·rw [if_neg c1]
   by_cases c2 : k < u + α
   ·rw [if_pos c2]; exact x1
   ·rw [if_neg c2]
    by_cases c3 : k < u + α + β
    ·rw [if_pos c3]; exact x2
    ·rw [if_neg c3]; exact h.corner _
 refine ⟨⟨fun q => ⟨fun k => ?_, ?_⟩, fun ⟨q1, q2⟩ i => ?_⟩, ⟨fun q => ⟨fun k => ?_, ?_⟩, fun ⟨q1, q2⟩ i => ?_⟩⟩
 ·obtain ⟨j, hj⟩ := cv.support (dir16 (R k))
  have a := (hj P).1 q
  have b := corner j k
  rw [(cr_sb _ _ _).1, (cr_sb _ _ _).2] at a b ⊢
  have := nnZ_add a b
  rwa [show ∀ x y z : Int, x - y + (y - z) = x - z by intros; omega, show ∀ x y z : Int, x - y + (y - z) = x - z by intros; omega] at this
 ·have := q (u + α - 1)
  rw [line.1, line.2] at this
  exact this
 ·rcases side i with ⟨k, e1, e2⟩ | ⟨e1, e2⟩
  ·rw [e1, e2]; exact q1 k
  ·rw [e1, e2]; exact q2
 ·obtain ⟨j, hj⟩ := cv.support (dir16 (R k))
  have a := (hj P).2 q
  have b := corner j k
  rw [(cr_sb _ _ _).1, (cr_sb _ _ _).2] at a b ⊢
  have := pos_nn a b
  rwa [show ∀ x y z : Int, x - y + (y - z) = x - z by intros; omega, show ∀ x y z : Int, x - y + (y - z) = x - z by intros; omega] at this
 ·have := q (u + α - 1)
  rw [line.1, line.2] at this
  exact this
 ·rcases side i with ⟨k, e1, e2⟩ | ⟨e1, e2⟩
  ·rw [e1, e2]; exact q1 k
  ·rw [e1, e2]; exact q2
end
end Go.Ev
/- What is left of a convex polygon on a side of a line: the list that both sides compute. -/
namespace Go.Ev
def hfLs (pc : Nat -> List P2) : Nat -> Nat -> List P2
 | _, 0 => []
 | i, r + 1 => pc i ++ hfLs pc (i + 1) r
theorem hfLs_add (pc : Nat -> List P2) : ∀ r i s, hfLs pc i (r + s) = hfLs pc i r ++ hfLs pc (i + r) s := by
 intro r
 induction r with
 | zero => intro i s; rw [Nat.zero_add]; rfl
 | succ r ih =>
  intro i s
  rw [show r + 1 + s = (r + s) + 1 by omega]
  simp only [hfLs]
  rw [ih (i + 1) s, show i + 1 + r = i + (r + 1) by omega, List.append_assoc]
theorem hfLs_congr {pc pd : Nat -> List P2} {k : Nat} : ∀ r i, (∀ j, i <= j -> j < i + r -> pc j = pd (j + k)) -> hfLs pc i r = hfLs pd (i + k) r := by
 intro r
 induction r with
 | zero => intro i _; rfl
 | succ r ih =>
  intro i h
  simp only [hfLs]
  rw [h i (Nat.le_refl _) (by omega), ih (i + 1) fun j h1 h2 => h j (by omega) (by omega), show i + 1 + k = i + k + 1 by omega]
theorem hfLs_none {pc : Nat -> List P2} : ∀ r i, (∀ j, i <= j -> j < i + r -> pc j = []) -> hfLs pc i r = [] := by
 intro r
 induction r with
 | zero => intro i _; rfl
 | succ r ih =>
  intro i h
  simp only [hfLs]
  rw [h i (Nat.le_refl _) (by omega), ih (i + 1) fun j h1 h2 => h j (by omega) (by omega)]
  rfl
def run1 (p : Nat -> P2) (i r : Nat) : List P2 := hfLs (fun j => [p j]) i r
theorem run1_len (p : Nat -> P2) : ∀ r i, (run1 p i r).length = r := by
 intro r
 induction r with
 | zero => intro i; rfl
 | succ r ih =>
  intro i
  have e : run1 p i (r + 1) = p i :: run1 p (i + 1) r := rfl
  rw [e, List.length_cons, ih]
theorem run1_at (p : Nat -> P2) : ∀ r i k, k < r -> (run1 p i r)[k]? = some (p (i + k)) := by
 intro r
 induction r with
 | zero => intro i k h; omega
 | succ r ih =>
  intro i k h
  have e : run1 p i (r + 1) = p i :: run1 p (i + 1) r := rfl
  rw [e]
  cases k with
  | zero => rfl
  | succ k => rw [List.getElem?_cons_succ, ih (i + 1) k (by omega), show i + 1 + k = i + (k + 1) by omega]
theorem hfLs_run {pc : Nat -> List P2} {p : Nat -> P2} {r i : Nat} (h : ∀ j, i <= j -> j < i + r -> pc j = [p j]) : hfLs pc i r = run1 p i r := by
 have := hfLs_congr (pc := pc) (pd := fun j => [p j]) (k := 0) r i fun j h1 h2 => h j h1 h2
 rwa [Nat.add_zero] at this
def pcL (l : Ln) (sd : Int) (n : Nat) (p : Nat -> P2) (i : Nat) : List P2 :=
 (cond (gez (hfA l sd (p i))) [p i] []) ++ (cond (ltz (wr (hfA l sd (p i) * hfA l sd (p ((i + 1) % n))))) [cutX l (p i) (p ((i + 1) % n))] [])
def outL (l : Ln) (sd : Int) (n : Nat) (p : Nat -> P2) : List P2 := hfLs (pcL l sd n p) 0 n
def HasL (s : Hf) (L : List P2) : Prop := s.m = L.length /\ ∀ k, k < s.m -> L[k]? = some (pAt s.d k)
theorem pAt_push {m : Nat} {d : NNI} {g : List Int} {p : P2} (hg : g = cell6 p) {i : Nat} (hi : i < m + 1) : pAt (catC m d (listC [g])) i = if i < m then pAt d i else p := by
 by_cases e : i < m
 ·rw [if_pos e]
  exact pAt_congr fun b _ => by rw [catC_at, if_pos e]
 ·have e' : i = m := by omega
  rw [if_neg e]
  subst hg
  simp only [pAt, catC_at, e, e', if_true, if_false, Nat.lt_irrefl]
  rfl
theorem HasL.push {s s' : Hf} {L : List P2} {g : List Int} {p : P2} (h : HasL s L) (hg : g = cell6 p) (e1 : s'.m = s.m + 1) (e2 : s'.d = catC s.m s.d (listC [g])) : HasL s' (L ++ [p]) := by
 refine ⟨by rw [e1, h.1, List.length_append]; rfl, fun k hk => ?_⟩
 rw [e1] at hk
 rw [e2, pAt_push hg hk]
 by_cases c : k < s.m
 ·rw [if_pos c, List.getElem?_append_left (by rw [<- h.1]; exact c)]
  exact h.2 k c
 ·have e : k = L.length := by have := h.1; omega
  rw [if_neg c, e, List.getElem?_append_right (Nat.le_refl _), Nat.sub_self]
  rfl
theorem hf_list (l : Ln) (sd : Int) (n : Nat) (c : NNI) : ∀ r i (s : Hf) L, HasL s L -> HasL (hfF l sd n c i r s) (L ++ hfLs (pcL l sd n (pAt c)) i r) := by
 intro r
 induction r with
 | zero => intro i s L h; simp only [hfLs, List.append_nil]; exact h
 | succ r ih =>
  intro i s L h
  simp only [hfF, hfLs]
  rw [<- List.append_assoc]
  refine ih (i + 1) _ _ ?_
  have h1 : HasL (hf1 l sd c i s) (L ++ cond (gez (hfA l sd (pAt c i))) [pAt c i] []) := by
   unfold hf1
   cases gez (hfA l sd (pAt c i)) with
   | true => exact h.push (cell_row c i) rfl rfl
   | false => show HasL s (L ++ []); rw [List.append_nil]; exact h
  unfold pcL
  rw [<- List.append_assoc]
  unfold hf2
  cases ltz (wr (hfA l sd (pAt c i) * hfA l sd (pAt c ((i + 1) % n)))) with
  | true => exact h1.push rfl rfl rfl
  | false => show HasL (hf1 l sd c i s) (L ++ cond (gez (hfA l sd (pAt c i))) [pAt c i] [] ++ []); rw [List.append_nil]; exact h1
theorem hf_flag (l : Ln) (sd : Int) (n : Nat) (c : NNI) : ∀ r i (s : Hf), (hfF l sd n c i r s).has = true ↔ s.has = true \/ ∃ j, i <= j /\ j < i + r /\ 0 < hfA l sd (pAt c j) := by
 intro r
 induction r with
 | zero => intro i s; exact ⟨fun h => .inl h, fun h => by rcases h with h | ⟨j, h1, h2, _⟩; exact h; omega⟩
 | succ r ih =>
  intro i s
  simp only [hfF]
  rw [ih]
  have e2 : (hf2 l sd (pAt c i) (pAt c ((i + 1) % n)) (hf1 l sd c i s)).has = (hf1 l sd c i s).has := by
   unfold hf2
   cases ltz (wr (hfA l sd (pAt c i) * hfA l sd (pAt c ((i + 1) % n)))) <;> rfl
  have e1 : (hf1 l sd c i s).has = true ↔ s.has = true \/ 0 < hfA l sd (pAt c i) := by
   unfold hf1
   cases hg : gez (hfA l sd (pAt c i)) with
   | true =>
    show (s.has || gtz (hfA l sd (pAt c i))) = true ↔ _
    rw [Bool.or_eq_true]
    unfold gtz
    rw [decide_eq_true_eq]
   | false =>
    show s.has = true ↔ _
    unfold gez at hg
    have := of_decide_eq_false hg
    exact ⟨fun h => .inl h, fun h => by rcases h with h | h; exact h; omega⟩
  rw [e2, e1]
  constructor
  ·rintro ((h | h) | ⟨j, h1, h2, h3⟩)
   ·exact .inl h
   ·exact .inr ⟨i, Nat.le_refl _, by omega, h⟩
   ·exact .inr ⟨j, by omega, by omega, h3⟩
  ·rintro (h | ⟨j, h1, h2, h3⟩)
   ·exact .inl (.inl h)
   ·by_cases e : j = i
    ·subst e; exact .inl (.inr h3)
    ·exact .inr ⟨j, by omega, by omega, h3⟩
theorem least_ex {P : Nat -> Prop} {n : Nat} (h : ∃ i, i < n /\ P i) : ∃ u, u < n /\ P u /\ ∀ j, j < u -> ¬ P j := by
 obtain ⟨i, hi, hp⟩ := h
 induction i using Nat.strongRecOn with
 | _ i ih =>
  by_cases c : ∃ j, j < i /\ P j
  ·obtain ⟨j, h1, h2⟩ := c
   exact ih j h1 (by omega) h2
  ·exact ⟨i, hi, hp, fun j hj hq => c ⟨j, hj, hq⟩⟩
theorem last_ex {P : Nat -> Prop} {n : Nat} (h : ∃ i, i < n /\ P i) : ∃ w, w < n /\ P w /\ ∀ j, w < j -> j < n -> ¬ P j := by
 obtain ⟨u, h1, h2, h3⟩ := least_ex (P := fun i => P (n - 1 - i)) (n := n) (by
  obtain ⟨i, hi, hp⟩ := h
  exact ⟨n - 1 - i, by omega, by show P (n - 1 - (n - 1 - i)); rw [show n - 1 - (n - 1 - i) = i by omega]; exact hp⟩)
 refine ⟨n - 1 - u, by omega, h2, fun j g1 g2 hq => h3 (n - 1 - j) (by omega) ?_⟩
 show P (n - 1 - (n - 1 - j))
 rw [show n - 1 - (n - 1 - j) = j by omega]
 exact hq
end Go.Ev
namespace Go.Ev
section
variable {l : Ln} {sd A B : Int} {n : Nat} {p : Nat -> P2} {F : Nat -> V4} {R : Nat -> Int} {O : Nat -> N3}
theorem pc_keep (sl : Side l sd A B) (hp : ∀ i, i < n -> Pt (p i) (F i)) (per : ∀ i, F (i % n) = F i) {i : Nat} (hi : i < n) (h1 : ¬ (hpL l sd A B).neg (F i)) (h2 : ¬ (hpL l sd A B).neg (F (i + 1))) : pcL l sd n p i = [p i] := by
 have hj := Nat.mod_lt (i + 1) (show n > 0 by omega)
 have hq : Pt (p ((i + 1) % n)) (F (i + 1)) := by rw [<- per (i + 1)]; exact hp _ hj
 unfold pcL
 rw [(sl.gez (hp i hi)).2 h1]
 cases hc : ltz (wr (hfA l sd (p i) * hfA l sd (p ((i + 1) % n)))) with
 | false => rfl
 | true =>
  rcases (sl.cross (hp i hi) hq).1 hc with ⟨_, g⟩ | ⟨g, _⟩
  ·exact absurd g h2
  ·exact absurd g h1
theorem pc_none (sl : Side l sd A B) (hp : ∀ i, i < n -> Pt (p i) (F i)) (per : ∀ i, F (i % n) = F i) {i : Nat} (hi : i < n) (h1 : (hpL l sd A B).neg (F i)) (h2 : ¬ (hpL l sd A B).pos (F (i + 1))) : pcL l sd n p i = [] := by
 have hj := Nat.mod_lt (i + 1) (show n > 0 by omega)
 have hq : Pt (p ((i + 1) % n)) (F (i + 1)) := by rw [<- per (i + 1)]; exact hp _ hj
 unfold pcL
 rw [show gez (hfA l sd (p i)) = false by
  cases hg : gez (hfA l sd (p i)) with
  | false => rfl
  | true => exact absurd h1 ((sl.gez (hp i hi)).1 hg)]
 cases hc : ltz (wr (hfA l sd (p i) * hfA l sd (p ((i + 1) % n)))) with
 | false => rfl
 | true =>
  rcases (sl.cross (hp i hi) hq).1 hc with ⟨g, _⟩ | ⟨_, g⟩
  ·exact absurd h1 (fun k => Hp.pn g k)
  ·exact absurd g h2
theorem part_norm (sl : Side l sd A B) (h : Cvx n F R) (nm : Nrml n R (hpL l sd A B).E) (hp : ∀ i, i < n -> Pt (p i) (F i)) (li : Lin F R O) (hpos : ∃ i, i < n /\ (hpL l sd A B).pos (F i)) :
  (∃ G S O', Cvx (outL l sd n p).length G S /\ (∀ k, k < (outL l sd n p).length -> Pt ((outL l sd n p).getD k zP) (G k)) /\ Lin G S O' /\
   (∀ P, (Ins G S P ↔ Ins F R P /\ (hpL l sd A B).nn P) /\ (Int' G S P ↔ Int' F R P /\ (hpL l sd A B).pos P)) /\
   ((∃ i, i < n /\ (hpL l sd A B).neg (F i)) -> ∃ k, k < (outL l sd n p).length /\ S k % 16 = (hpL l sd A B).E /\ (hpL l sd A B).zero (G k))) /\ (outL l sd n p).length <= n + 1 := by
 obtain ⟨hE, hE8⟩ := sl.E
 have n0 := h.n0
 have per := h.mod
 have p0 : (hpL l sd A B).pos (F 0) := by
  obtain ⟨i, hi, g⟩ := hpos
  exact Hp.ge_pos (h.top nm hE (by omega)) g
 by_cases hneg : ∃ i, i < n /\ (hpL l sd A B).neg (F i)
 ·obtain ⟨u, hu, gu, mu⟩ := least_ex hneg
  obtain ⟨w, hw, gw, mw⟩ := last_ex hneg
  have uw : u <= w := by
   rcases Nat.lt_or_ge w u with c | c
   ·exact absurd gw (mu w c)
   ·exact c
  have u1 : 1 <= u := by
   rcases Nat.eq_zero_or_pos u with c | c
   ·rw [c] at gu; exact (Hp.pn p0 gu).elim
   ·exact c
  have lo : Low n F (hpL l sd A B) u w := by
   refine ⟨u1, uw, hw, fun i hi => ⟨fun g => ⟨?_, ?_⟩, fun ⟨g1, g2⟩ => h.valley nm hE g1 g2 (by omega) gu gw⟩, p0⟩
   ·rcases Nat.lt_or_ge i u with c | c
    ·exact absurd g (mu i c)
    ·exact c
   ·rcases Nat.lt_or_ge w i with c | c
    ·exact absurd g (mw i c hi)
    ·exact c
  have e1 : u - 1 + 1 = u := by omega
  have hw1 := Nat.mod_lt (w + 1) n0
  have qu1 := hp (u - 1) (by omega)
  have qu := hp u hu
  have qw := hp w hw
  have qw1 : Pt (p ((w + 1) % n)) (F (w + 1)) := by rw [<- per (w + 1)]; exact hp _ hw1
  have hd1 := h.dir (u - 1)
  rw [e1] at hd1
  -- where it goes below
  have g1 : (hpL l sd A B).pos (F (u - 1)) \/ (hpL l sd A B).zero (F (u - 1)) := by
   rcases (hpL l sd A B).or (F (u - 1)) with g | g | g
   ·exact .inl g
   ·exact absurd g (mu (u - 1) (by omega))
   ·exact .inr g
  have g2 := lo.next h
  obtain ⟨α, X1, L1, ha, hz1, ha1, hb1, hx1, hL1, hlen1⟩ : ∃ (α : Nat) (X1 : V4) (L1 : List P2), ((α = 1 /\ (hpL l sd A B).pos (F (u - 1))) \/ (α = 0 /\ (hpL l sd A B).zero (F (u - 1)))) /\ (hpL l sd A B).zero X1 /\
    (((hpL l sd A B).pos (F (u - 1)) /\ isDir (R (u - 1) % 16) (sbV X1 (F (u - 1)))) \/ ((hpL l sd A B).zero (F (u - 1)) /\ X1 = F (u - 1))) /\ isDir (R (u - 1) % 16) (sbV (F u) X1) /\ On l.d l.o X1 /\
    pcL l sd n p (u - 1) = p (u - 1) :: L1 /\ (L1.length = α /\ ∀ k, k < α -> ∃ q, L1[k]? = some q /\ Pt q X1) := by
   have keep : gez (hfA l sd (p (u - 1))) = true := (sl.gez qu1).2 (mu _ (by omega))
   rcases g1 with g | g
   ·obtain ⟨_, X, x1, x2, x3, x4, x5⟩ := cross_ok sl qu1 qu hd1 (li (u - 1)).1 (li (u - 1)).2 (.inl ⟨g, gu⟩)
    refine ⟨1, X, [cutX l (p (u - 1)) (p u)], .inl ⟨rfl, g⟩, x2, .inl ⟨g, x3⟩, x4, x5, ?_, rfl, fun k hk => ⟨_, by rw [show k = 0 by omega]; rfl, x1⟩⟩
    unfold pcL
    rw [keep, e1, Nat.mod_eq_of_lt hu, (sl.cross qu1 qu).2 (.inl ⟨g, gu⟩)]
    rfl
   ·have hx : On l.d l.o (F (u - 1)) := by
     obtain ⟨f1, f2⟩ := sl.f (F (u - 1))
     have z1 := g.1
     have z2 := g.2
     rw [f1] at z1
     rw [f2] at z2
     refine ⟨A, B, sl.o, ?_, ?_⟩
     ·rcases sl.s with e | e <;> rw [e] at z1 <;> omega
     ·rcases sl.s with e | e <;> rw [e] at z2 <;> omega
    refine ⟨0, F (u - 1), [], .inr ⟨rfl, g⟩, g, .inr ⟨g, rfl⟩, hd1, hx, ?_, rfl, fun k hk => absurd hk (Nat.not_lt_zero _)⟩
    unfold pcL
    rw [keep, e1, Nat.mod_eq_of_lt hu]
    cases hc : ltz (wr (hfA l sd (p (u - 1)) * hfA l sd (p u))) with
    | false => rfl
    | true =>
     rcases (sl.cross qu1 qu).1 hc with ⟨k, _⟩ | ⟨k, _⟩
     ·exact (Hp.pz k g).elim
     ·exact (Hp.nz k g).elim
  -- where it comes up
  obtain ⟨β, X2, L2, hb, hz2, ha2, hb2, hL2, hlen2⟩ : ∃ (β : Nat) (X2 : V4) (L2 : List P2), ((β = 1 /\ (hpL l sd A B).pos (F (w + 1))) \/ (β = 0 /\ (hpL l sd A B).zero (F (w + 1)))) /\ (hpL l sd A B).zero X2 /\
    (((hpL l sd A B).pos (F (w + 1)) /\ isDir (R w % 16) (sbV (F (w + 1)) X2)) \/ ((hpL l sd A B).zero (F (w + 1)) /\ X2 = F (w + 1))) /\ isDir (R w % 16) (sbV X2 (F w)) /\
    pcL l sd n p w = L2 /\ (L2.length = β /\ ∀ k, k < β -> ∃ q, L2[k]? = some q /\ Pt q X2) := by
   have drop : gez (hfA l sd (p w)) = false := by
    cases hg : gez (hfA l sd (p w)) with
    | false => rfl
    | true => exact absurd gw ((sl.gez qw).1 hg)
   rcases g2 with g | g
   ·obtain ⟨_, X, x1, x2, x3, x4, _⟩ := cross_ok sl qw qw1 (h.dir w) (li w).1 (li w).2 (.inr ⟨gw, g⟩)
    refine ⟨1, X, [cutX l (p w) (p ((w + 1) % n))], .inl ⟨rfl, g⟩, x2, .inl ⟨g, x4⟩, x3, ?_, rfl, fun k hk => ⟨_, by rw [show k = 0 by omega]; rfl, x1⟩⟩
    unfold pcL
    rw [drop, (sl.cross qw qw1).2 (.inr ⟨gw, g⟩)]
    rfl
   ·refine ⟨0, F (w + 1), [], .inr ⟨rfl, g⟩, g, .inr ⟨g, rfl⟩, h.dir w, ?_, rfl, fun k hk => absurd hk (Nat.not_lt_zero _)⟩
    exact pc_none sl hp per hw gw (fun k => Hp.pz k g)
  have ab : Gab F (hpL l sd A B) u w α β := ⟨ha, hb⟩
  have gate : Gate F R (hpL l sd A B) u w X1 X2 := ⟨hz1, ha1, hb1, hz2, ha2, hb2⟩
  have cv := gate.cvx h nm hE lo ab
  have ln := gate.lin h lo ab li sl.lo (by rw [hE8]; exact hx1)
  -- the list
  have eL : outL l sd n p = run1 p 0 u ++ L1 ++ L2 ++ run1 p (w + 1) (n - 1 - w) := by
   have s1 : n = (u - 1) + (1 + ((w - u) + (1 + (n - 1 - w)))) := by omega
   unfold outL
   conv => lhs; rw [show hfLs (pcL l sd n p) 0 n = hfLs (pcL l sd n p) 0 ((u - 1) + (1 + ((w - u) + (1 + (n - 1 - w))))) from congrArg (hfLs (pcL l sd n p) 0) s1]
   rw [hfLs_add, hfLs_add, hfLs_add, hfLs_add]
   have k1 : hfLs (pcL l sd n p) 0 (u - 1) = run1 p 0 (u - 1) := hfLs_run fun j _ h2 => pc_keep sl hp per (by omega) (mu j (by omega)) (mu (j + 1) (by omega))
   have k2 : hfLs (pcL l sd n p) (0 + (u - 1)) 1 = p (u - 1) :: L1 := by
    simp only [hfLs]
    rw [Nat.zero_add, hL1, List.append_nil]
   have k3 : hfLs (pcL l sd n p) (0 + (u - 1) + 1) (w - u) = [] := hfLs_none _ _ fun j h1 h2 => by
    have n1 := (lo.iff j (by omega)).2 ⟨by omega, by omega⟩
    have n2 := (lo.iff (j + 1) (by omega)).2 ⟨by omega, by omega⟩
    exact pc_none sl hp per (by omega) n1 (fun k => Hp.pn k n2)
   have k4 : hfLs (pcL l sd n p) (0 + (u - 1) + 1 + (w - u)) 1 = L2 := by
    simp only [hfLs]
    rw [show 0 + (u - 1) + 1 + (w - u) = w by omega, hL2, List.append_nil]
   have k5 : hfLs (pcL l sd n p) (0 + (u - 1) + 1 + (w - u) + 1) (n - 1 - w) = run1 p (w + 1) (n - 1 - w) := by
    rw [show 0 + (u - 1) + 1 + (w - u) + 1 = w + 1 by omega]
    refine hfLs_run fun j h1 h2 => pc_keep sl hp per (by omega) (fun k => ?_) (fun k => ?_)
    ·have := (lo.iff j (by omega)).1 k; omega
    ·by_cases e : j + 1 = n
     ·rw [e, show n = 0 + n by omega, h.per] at k
      exact Hp.pn p0 k
     ·have := (lo.iff (j + 1) (by omega)).1 k; omega
   have k6 : run1 p 0 u = run1 p 0 (u - 1) ++ [p (u - 1)] := by
    have := hfLs_add (fun j => [p j]) (u - 1) 0 1
    rw [e1, Nat.zero_add] at this
    exact this
   rw [k1, k2, k3, k4, k5, k6]
   simp only [List.append_assoc, List.nil_append, List.cons_append]
  have hlen : (outL l sd n p).length = ctM n u w α β := by
   rw [eL]
   simp only [List.length_append, run1_len, hlen1.1, hlen2.1]
   rfl
  have hM : ctM n u w α β = u + α + β + (n - 1 - w) := rfl
  have at' : ∀ k, k < ctM n u w α β -> ∃ q, (outL l sd n p)[k]? = some q /\ Pt q (ctG F u w α β X1 X2 k) := fun k hk => by
   rw [eL]
   by_cases c1 : k < u
   ·rw [List.append_assoc, List.append_assoc, List.getElem?_append_left (by rw [run1_len]; exact c1), run1_at p u 0 k c1, Nat.zero_add, ctG_pre c1]
    exact ⟨_, rfl, hp k (by omega)⟩
   ·by_cases c2 : k < u + α
    ·rw [List.append_assoc, List.getElem?_append_left (by rw [List.length_append, run1_len, hlen1.1]; exact c2), List.getElem?_append_right (by rw [run1_len]; omega), run1_len]
     obtain ⟨q, q1, q2⟩ := hlen1.2 (k - u) (by omega)
     refine ⟨q, q1, ?_⟩
     unfold ctG
     rw [if_neg c1, if_pos c2]
     exact q2
    ·by_cases c3 : k < u + α + β
     ·rw [List.getElem?_append_left (by rw [List.length_append, List.length_append, run1_len, hlen1.1, hlen2.1]; exact c3), List.getElem?_append_right (by rw [List.length_append, run1_len, hlen1.1]; omega), List.length_append, run1_len, hlen1.1]
      obtain ⟨q, q1, q2⟩ := hlen2.2 (k - (u + α)) (by omega)
      refine ⟨q, q1, ?_⟩
      unfold ctG
      rw [if_neg c1, if_neg c2, if_pos c3]
      exact q2
     ·have e2 : (run1 p 0 u ++ L1 ++ L2).length = u + α + β := by rw [List.length_append, List.length_append, run1_len, hlen1.1, hlen2.1]
      rw [List.getElem?_append_right (by rw [e2]; omega), e2, run1_at p (n - 1 - w) (w + 1) _ (by omega), ctG_post (by omega), show w + 1 + (k - (u + α + β)) = k - (u + α + β) + w + 1 by omega]
      exact ⟨_, rfl, hp _ (by omega)⟩
  obtain ⟨_, _, b3, b4⟩ := ab.big h lo
  refine ⟨?_, by rw [hlen]; omega⟩
  rw [hlen]
  refine ⟨_, _, _, cv, fun k hk => ?_, ln, fun P => gate.region h nm hE lo ab rfl rfl P, fun _ => ⟨u + α - 1, by omega, ?_, ?_⟩⟩
  case refine_2 =>
   have hE' := inB_iff.1 hE
   rw [Nat.mod_eq_of_lt (by omega), show ctR R (hpL l sd A B).E u w α β (u + α - 1) = (hpL l sd A B).E + 16 by unfold ctR; rw [if_neg (by omega), if_pos (by omega)]]
   omega
  case refine_3 =>
   show (hpL l sd A B).zero (ctG F u w α β X1 X2 ((u + α - 1) % ctM n u w α β))
   rw [Nat.mod_eq_of_lt (by omega), ctG_x1 ab gate u1]
   exact hz1
  obtain ⟨q, q1, q2⟩ := at' k hk
  show Pt ((outL l sd n p).getD k zP) (ctG F u w α β X1 X2 (k % ctM n u w α β))
  rw [Nat.mod_eq_of_lt hk, List.getD, q1]
  exact q2
 ·have non : ∀ i, ¬ (hpL l sd A B).neg (F i) := fun i g => hneg ⟨i % n, Nat.mod_lt _ n0, by rw [per]; exact g⟩
  have eL : outL l sd n p = run1 p 0 n := hfLs_run fun j _ h2 => pc_keep sl hp per (by omega) (non j) (non (j + 1))
  rw [eL, run1_len]
  refine ⟨⟨F, R, O, h, fun k hk => ?_, li, fun P => ⟨⟨fun g => ⟨g, (h.whole hE non P).1 g⟩, fun g => g.1⟩, ⟨fun g => ⟨g, (h.whole hE non P).2 g⟩, fun g => g.1⟩⟩, fun g => absurd g hneg⟩, by omega⟩
  show Pt ((run1 p 0 n).getD k zP) (F k)
  rw [List.getD, run1_at p n 0 k hk, Nat.zero_add]
  exact hp k hk
end
end Go.Ev
/- Parts of convex polygons, however they begin; the two sides' intersections of polygons. -/
namespace Go.Ev
theorem getD_rot {X Y : List P2} {i : Nat} (hi : i < (X ++ Y).length) : (X ++ Y).getD i zP = (Y ++ X).getD ((i + Y.length) % (X ++ Y).length) zP := by
 rw [List.length_append] at hi ⊢
 rw [List.getD, List.getD]
 by_cases c : i < X.length
 ·rw [Nat.mod_eq_of_lt (by omega), List.getElem?_append_left c, List.getElem?_append_right (by omega)]
  congr 2
  omega
 ·rw [show i + Y.length = i - X.length + (X.length + Y.length) by omega, Nat.add_mod_right, Nat.mod_eq_of_lt (by omega), List.getElem?_append_right (by omega), List.getElem?_append_left (by omega)]
theorem out_rot {l : Ln} {sd : Int} {n k : Nat} {p q : Nat -> P2} (hk : k < n) (e : ∀ i, i < n -> q i = p ((i + k) % n)) : ∃ X Y, outL l sd n p = X ++ Y /\ outL l sd n q = Y ++ X := by
 have pc : ∀ i, i < n -> pcL l sd n q i = pcL l sd n p ((i + k) % n) := fun i hi => by
  unfold pcL
  rw [e i hi, e _ (Nat.mod_lt _ (by omega)), mod_add_one]
 refine ⟨hfLs (pcL l sd n p) 0 k, hfLs (pcL l sd n p) k (n - k), ?_, ?_⟩
 ·have := hfLs_add (pcL l sd n p) k 0 (n - k)
  rw [show k + (n - k) = n by omega, Nat.zero_add] at this
  exact this
 ·have h1 := hfLs_add (pcL l sd n q) (n - k) 0 k
  rw [show n - k + k = n by omega, Nat.zero_add] at h1
  have k1 : hfLs (pcL l sd n q) 0 (n - k) = hfLs (pcL l sd n p) (0 + k) (n - k) := hfLs_congr (n - k) 0 fun j _ h2 => by rw [pc j (by omega), Nat.mod_eq_of_lt (by omega)]
  have k2 : hfLs (pcL l sd n p) 0 k = hfLs (pcL l sd n q) (0 + (n - k)) k := hfLs_congr k 0 fun j _ h2 => by
   rw [pc (j + (n - k)) (by omega), show j + (n - k) + k = j + n by omega, Nat.add_mod_right, Nat.mod_eq_of_lt (by omega)]
  rw [Nat.zero_add] at k1 k2
  rw [k1, <- k2] at h1
  exact h1
def InsN (n : Nat) (p : Nat -> P2) (P : V4) : Prop := ∃ F R, Cvx n F R /\ (∀ i, i < n -> Pt (p i) (F i)) /\ Ins F R P
def IntN (n : Nat) (p : Nat -> P2) (P : V4) : Prop := ∃ F R, Cvx n F R /\ (∀ i, i < n -> Pt (p i) (F i)) /\ Int' F R P
theorem data_same {n : Nat} {p : Nat -> P2} {F G : Nat -> V4} {R S : Nat -> Int} (h : Cvx n F R) (hp : ∀ i, i < n -> Pt (p i) (F i)) (g : Cvx n G S) (gp : ∀ i, i < n -> Pt (p i) (G i)) : F = G /\ ∀ i, R i % 16 = S i % 16 := by
 have e : F = G := by
  funext i
  rw [<- h.mod i, <- g.mod i]
  have hi := Nat.mod_lt i h.n0
  exact (hp _ hi).uniq (gp _ hi)
 refine ⟨e, fun i => isDir_uniq (dir16 _) (dir16 _) (h.dir i) ?_⟩
 rw [e]
 exact g.dir i
theorem ins_congr {F : Nat -> V4} {R S : Nat -> Int} (e : ∀ i, R i % 16 = S i % 16) (P : V4) : (Ins F R P ↔ Ins F S P) /\ (Int' F R P ↔ Int' F S P) := by
 exact ⟨by unfold Ins; simp only [e], by unfold Int'; simp only [e]⟩
theorem insN_iff {n : Nat} {p : Nat -> P2} {F : Nat -> V4} {R : Nat -> Int} (h : Cvx n F R) (hp : ∀ i, i < n -> Pt (p i) (F i)) (P : V4) : (InsN n p P ↔ Ins F R P) /\ (IntN n p P ↔ Int' F R P) := by
 constructor
 ·constructor
  ·rintro ⟨G, S, g1, g2, g3⟩
   obtain ⟨rfl, e⟩ := data_same h hp g1 g2
   exact (ins_congr e P).1.2 g3
  ·exact fun g => ⟨F, R, h, hp, g⟩
 ·constructor
  ·rintro ⟨G, S, g1, g2, g3⟩
   obtain ⟨rfl, e⟩ := data_same h hp g1 g2
   exact (ins_congr e P).2.2 g3
  ·exact fun g => ⟨F, R, h, hp, g⟩
theorem Cvx.liftM {n : Nat} {F : Nat -> V4} {R : Nat -> Int} (h : Cvx n F R) (i : Nat) : ∀ k : Nat, R (i + n * k) = R i + 16 * k := by
 intro k
 induction k with
 | zero => simp
 | succ k ih => rw [Nat.mul_succ, <- Nat.add_assoc, h.lift, ih]; omega
theorem ins_shift {n : Nat} {F : Nat -> V4} {R : Nat -> Int} (h : Cvx n F R) (k : Nat) (z : Int) (P : V4) : (Ins (fun i => F (i + k)) (fun i => R (i + k) - 16 * z) P ↔ Ins F R P) /\ (Int' (fun i => F (i + k)) (fun i => R (i + k) - 16 * z) P ↔ Int' F R P) := by
 have n0 := h.n0
 have e : ∀ i, (R i - 16 * z) % 16 = R i % 16 := fun i => by omega
 have at' : ∀ i, ∃ j, F (j + k) = F i /\ R (j + k) % 16 = R i % 16 := fun i => by
  have hk : k <= n * k := Nat.le_mul_of_pos_left k n0
  refine ⟨i + (n * k - k), ?_, ?_⟩
  ·rw [show i + (n * k - k) + k = i + n * k by omega, h.perM]
  ·rw [show i + (n * k - k) + k = i + n * k by omega, h.liftM]; omega
 constructor
 ·constructor
  ·intro g i
   obtain ⟨j, e1, e2⟩ := at' i
   have := g j
   simp only [e, e1, e2] at this
   exact this
  ·intro g i
   show nnZ (crA ((R (i + k) - 16 * z) % 16) _) _
   rw [e]
   exact g (i + k)
 ·constructor
  ·intro g i
   obtain ⟨j, e1, e2⟩ := at' i
   have := g j
   simp only [e, e1, e2] at this
   exact this
  ·intro g i
   show posZ (crA ((R (i + k) - 16 * z) % 16) _) _
   rw [e]
   exact g (i + k)
theorem insN_shift {n : Nat} {p q : Nat -> P2} (h : CvxP n p) (k : Nat) (e : ∀ i, i < n -> q i = p ((i + k) % n)) (P : V4) : (InsN n q P ↔ InsN n p P) /\ (IntN n q P ↔ IntN n p P) := by
 obtain ⟨F, R, O, h1, h2, _⟩ := h
 have hq : ∀ i, i < n -> Pt (q i) (F (i + k)) := fun i hi => by rw [e i hi, <- h1.mod (i + k)]; exact h2 _ (Nat.mod_lt _ h1.n0)
 have s := h1.shift k 0
 have a := insN_iff s hq P
 have b := insN_iff h1 h2 P
 have c := ins_shift h1 k 0 P
 exact ⟨a.1.trans (c.1.trans b.1.symm), a.2.trans (c.2.trans b.2.symm)⟩
theorem part_reg {l : Ln} {sd A B : Int} {n : Nat} {p : Nat -> P2} (sl : Side l sd A B) (h : CvxP n p) (hpos : ∃ i, i < n /\ 0 < hfA l sd (p i)) : CvxP (outL l sd n p).length (fun k => (outL l sd n p).getD k zP) /\ (outL l sd n p).length <= n + 1 /\
  (∀ P, (InsN (outL l sd n p).length (fun k => (outL l sd n p).getD k zP) P ↔ InsN n p P /\ (hpL l sd A B).nn P) /\ (IntN (outL l sd n p).length (fun k => (outL l sd n p).getD k zP) P ↔ IntN n p P /\ (hpL l sd A B).pos P)) /\
  ((∃ i, i < n /\ hfA l sd (p i) < 0) -> ∃ k, k < (outL l sd n p).length /\ dirV ((outL l sd n p).getD k zP) ((outL l sd n p).getD ((k + 1) % (outL l sd n p).length) zP) = (hpL l sd A B).E /\ hfA l sd ((outL l sd n p).getD k zP) = 0) := by
 have h0 := h
 obtain ⟨F, R, O, h1, h2, h3⟩ := h
 obtain ⟨k, z, hk, nm⟩ := h1.normal (hpL l sd A B).E
 have n0 := h1.n0
 have hq : ∀ i, i < n -> Pt (p ((i + k) % n)) (F (i + k)) := fun i hi => by rw [<- h1.mod (i + k)]; exact h2 _ (Nat.mod_lt _ n0)
 have hp' : ∃ i, i < n /\ (hpL l sd A B).pos (F (i + k)) := by
  obtain ⟨i, hi, g⟩ := hpos
  obtain ⟨a, ha, e⟩ := rot_surj hk hi
  refine ⟨a, ha, ?_⟩
  rw [<- h1.mod, e]
  exact (sl.pos (h2 i hi)).1 g
 obtain ⟨⟨G, S, O', g1, gp, gl, gr, gs⟩, g2⟩ := part_norm (p := fun i => p ((i + k) % n)) (F := fun i => F (i + k)) (R := fun i => R (i + k) - 16 * z) (O := fun i => O (i + k)) sl (h1.shift k z) nm hq (fun i => by
  show On ((R (i + k) - 16 * z) % 8) (O (i + k)) (F (i + k)) /\ lowB (O (i + k))
  rw [show (R (i + k) - 16 * z) % 8 = R (i + k) % 8 by omega]
  exact h3 (i + k)) hp'
 obtain ⟨X, Y, e1, e2⟩ := out_rot (l := l) (sd := sd) (p := p) (q := fun i => p ((i + k) % n)) hk fun i _ => rfl
 rw [e2] at g1 g2 gp
 rw [e1]
 have el : (X ++ Y).length = (Y ++ X).length := by rw [List.length_append, List.length_append]; omega
 rw [<- el] at g1 g2 gp
 have cv : CvxP (X ++ Y).length (fun k => (Y ++ X).getD k zP) := ⟨G, S, O', g1, gp, gl⟩
 have hlen : (X ++ Y).length = X.length + Y.length := List.length_append
 refine ⟨cv.shift Y.length fun i hi => getD_rot hi, g2, fun P => ?_, fun hneg => ?_⟩
 case refine_2 =>
  obtain ⟨i, hi, gi⟩ := hneg
  obtain ⟨a, ha, ea⟩ := rot_surj hk hi
  obtain ⟨q, hq1, hq2, hq3⟩ := gs ⟨a, ha, by
   rw [<- h1.mod, ea]
   exact (sl.neg (h2 i hi)).1 gi⟩
  rw [e2, <- el] at hq1
  -- the corner of that number in the list as it begins here
  have m0 := g1.n0
  have hy : Y.length % (X ++ Y).length < (X ++ Y).length := Nat.mod_lt _ m0
  obtain ⟨r, hr, er⟩ := rot_surj hy hq1
  rw [Nat.add_mod_mod] at er
  have hr1 := Nat.mod_lt (r + 1) m0
  have e3 : (X ++ Y).getD r zP = (Y ++ X).getD q zP := by rw [getD_rot hr, er]
  have e4 : (X ++ Y).getD ((r + 1) % (X ++ Y).length) zP = (Y ++ X).getD ((q + 1) % (X ++ Y).length) zP := by rw [getD_rot hr1, mod_add_one, er]
  have hq4 := Nat.mod_lt (q + 1) m0
  refine ⟨r, hr, ?_, ?_⟩
  ·rw [e3, e4, <- hq2]
   have p2 : Pt ((Y ++ X).getD ((q + 1) % (X ++ Y).length) zP) (G (q + 1)) := by rw [<- g1.mod (q + 1)]; exact gp _ hq4
   exact (gp q hq1).dir p2 (dir16 _) (g1.dir q)
  ·rw [e3]
   exact (sl.zero (gp q hq1)).2 hq3
 have a := insN_shift cv Y.length (q := fun k => (X ++ Y).getD k zP) (fun i hi => getD_rot hi) P
 have b := insN_iff g1 gp P
 have c := gr P
 have d := ins_shift h1 k z P
 have f := insN_iff h1 h2 P
 refine ⟨a.1.trans (b.1.trans (c.1.trans ?_)), a.2.trans (b.2.trans (c.2.trans ?_))⟩
 ·exact and_congr (d.1.trans f.1.symm) Iff.rfl
 ·exact and_congr (d.2.trans f.2.symm) Iff.rfl
structure HgOk (l : Ln) (sd : Int) (n : Nat) (c : NNI) : Prop where
 s : ∀ i, i < n -> sgPW l (pAt c i) = true
 b : ∀ i, i < n -> ltz (wr (hfA l sd (pAt c i) * hfA l sd (pAt c ((i + 1) % n)))) = true -> CutOk l (pAt c i) (pAt c ((i + 1) % n))
theorem hfS_list (l : Ln) (sd : Int) (n : Nat) (c : NNI) : (hfS l sd n c).m = (outL l sd n (pAt c)).length /\ ∀ k, k < (hfS l sd n c).m -> pAt (hfS l sd n c).d k = (outL l sd n (pAt c)).getD k zP := by
 have := hf_list l sd n c n 0 ⟨0, zeroC, false, false⟩ [] ⟨rfl, fun k hk => absurd hk (Nat.not_lt_zero _)⟩
 rw [List.nil_append] at this
 refine ⟨this.1, fun k hk => ?_⟩
 rw [List.getD, show outL l sd n (pAt c) = hfLs (pcL l sd n (pAt c)) 0 n from rfl, this.2 k hk]
 rfl
theorem hfS_flag (l : Ln) (sd : Int) (n : Nat) (c : NNI) : (hfS l sd n c).has = true ↔ ∃ i, i < n /\ 0 < hfA l sd (pAt c i) := by
 unfold hfS
 rw [hf_flag]
 constructor
 ·rintro (h | ⟨j, _, h2, h3⟩)
  ·cases h
  ·exact ⟨j, by omega, h3⟩
 ·rintro ⟨j, h2, h3⟩
  exact .inr ⟨j, Nat.zero_le _, by omega, h3⟩
def Rot (n : Nat) (c d : NNI) : Prop := ∃ k, k < n /\ ∀ i, i < n -> pAt c i = pAt d ((i + k) % n)
theorem Rot.trans {n : Nat} {c d e : NNI} (h : Rot n c d) (g : Rot n d e) : Rot n c e := by
 obtain ⟨k, hk, h⟩ := h
 obtain ⟨j, hj, g⟩ := g
 refine ⟨(k + j) % n, Nat.mod_lt _ (by omega), fun i hi => ?_⟩
 rw [h i hi, g _ (Nat.mod_lt _ (by omega)), Nat.mod_add_mod, Nat.add_mod_mod, Nat.add_assoc]
theorem CvxP.of_rot {n : Nat} {c d : NNI} (h : Rot n c d) (g : CvxP n (pAt d)) : CvxP n (pAt c) := by
 obtain ⟨k, _, h⟩ := h
 exact g.shift k h
theorem CvxP.n0 {n : Nat} {p : Nat -> P2} (h : CvxP n p) : 0 < n := by obtain ⟨_, _, _, h, _⟩ := h; exact h.n0
end Go.Ev
namespace Go.Ev
theorem Cvx.ne {n : Nat} {F : Nat -> V4} {R : Nat -> Int} (h : Cvx n F R) {i j : Nat} (hij : i < j) (hj : j < i + n) : F j ≠ F i := by
 have s := h.shift i 0
 have := closed_ne (V := fun k => F (k + i)) (D := fun k => R (k + i) % 16) (A := fun k => R (k + i)) (n := n) (fun k _ => ⟨dir16 _, by
  have := h.dir (k + i)
  show isDir (R (k + i) % 16) (sbV (F (k + 1 + i)) (F (k + i)))
  rw [show k + 1 + i = k + i + 1 by omega]
  exact this⟩) (fun p k _ _ => by show (R (k + i) % 16 - R (p + i) % 16) % 16 = (R (k + i) - R (p + i)) % 16; omega) (fun k _ => by
  have := h.turn (k + i)
  show inB (R (k + 1 + i) - R (k + i)) 1 7 = true
  rw [show k + 1 + i = k + i + 1 by omega]
  exact inB_iff.2 this) (by show R (n + i) - R (0 + i) = 16; rw [Nat.zero_add, Nat.add_comm n i, h.lift]; omega) (by show F (n + i) = F (0 + i); rw [Nat.zero_add, Nat.add_comm n i, h.per]) (j := j - i) (by omega) (by omega)
 rw [show j - i + i = j by omega, Nat.zero_add] at this
 exact this
theorem nm_rot {n : Nat} {c d : NNI} (h : CvxP n (pAt d)) (hr : Rot n c d) {i : Nat} (hi : i < n) : pAt (nmR n c) i = pAt (nmR n d) i := by
 have hc := h.of_rot hr
 obtain ⟨k, hk, hr⟩ := hr
 obtain ⟨F, R, O, h1, h2, _⟩ := h
 obtain ⟨G, _, _, g1, g2, _⟩ := hc
 have n0 := h1.n0
 have l1 := lc_lt c n 0 0 n (by omega) n0
 have l2 := lc_lt d n 0 0 n (by omega) n0
 have c1 : ∀ i j, i < n -> j < n -> cpP (pAt c i) (pAt c j) = difV (G i) (G j) := fun i j hi hj => (g2 i hi).cp (g2 j hj)
 have c2 : ∀ i j, i < n -> j < n -> cpP (pAt d i) (pAt d j) = difV (F i) (F j) := fun i j hi hj => (h2 i hi).cp (h2 j hj)
 have m1 := lc_le c1 n 0 0 (by omega) n0 (fun j hj => absurd hj (Nat.not_lt_zero _))
 have m2 := lc_le c2 n 0 0 (by omega) n0 (fun j hj => absurd hj (Nat.not_lt_zero _))
 rw [Nat.zero_add] at m1 m2
 have hm := Nat.mod_lt (lcF c 0 n 0 + k) n0
 have eG : ∀ a, a < n -> G a = F ((a + k) % n) := fun a ha => (g2 a ha).uniq (by rw [hr a ha]; exact h2 _ (Nat.mod_lt _ n0))
 have key : lcF d 0 n 0 = (lcF c 0 n 0 + k) % n := by
  obtain ⟨a, ha, e⟩ := rot_surj hk l2
  have x1 := m1 a ha
  rw [eG a ha, e, eG _ l1] at x1
  have x2 := m2 _ hm
  rw [dif_neg] at x2
  have z : difV (F (lcF d 0 n 0)) (F ((lcF c 0 n 0 + k) % n)) = 0 := by omega
  have ez := dif_zero z
  rcases Nat.lt_trichotomy (lcF d 0 n 0) ((lcF c 0 n 0 + k) % n) with c | c | c
  ·exact absurd ez.symm (h1.ne c (by omega))
  ·exact c
  ·exact absurd ez (h1.ne c (by omega))
 unfold nmR
 rw [rot_pAt c l1 hi, rot_pAt d l2 hi, hr _ (Nat.mod_lt _ n0), key, Nat.mod_add_mod, Nat.add_mod_mod, Nat.add_assoc]
end Go.Ev
/- The intersection of two polygons: both sides compute the same. -/
namespace Go.Ev
theorem isDir_sc8 {e : Int} {w : V4} (h : isDir e w) : isDir e (sc 8 w) := by
 have e8 : sc 8 w = db (db (db w)) := by
  unfold sc db
  apply V4.ext' <;> simp only <;> omega
 rw [e8]
 exact isDir_db.2 (isDir_db.2 (isDir_db.2 h))
theorem sb_sc8 (u v : V4) : sbV (sc 8 u) (sc 8 v) = sc 8 (sbV u v) := by
 unfold sbV sc
 apply V4.ext' <;> simp only <;> omega
theorem dt_sc8 (d : Int) (v : V4) : dtA d (sc 8 v) = 8 * dtA d v /\ dtB d (sc 8 v) = 8 * dtB d v := by
 unfold dtA dtB sc
 constructor <;> grind
theorem cvx_valid {n : Nat} {c : NNI} (h : vpS n c = true) : CvxP n (pAt c) := by
 obtain ⟨⟨h3, h16⟩, hv, cv, _⟩ := vp_iff.1 h
 have n0 : 0 < n := by omega
 obtain ⟨F0, hF⟩ := val_ex hv
 have t0 : sumN (fun j => trn n c (j % n)) n = 16 := by rw [sumN_congr n (u := trn n c) fun j hj => by rw [Nat.mod_eq_of_lt hj]]; exact cv.s
 have lift : ∀ i, sumN (fun j => trn n c (j % n)) (i + n) = sumN (fun j => trn n c (j % n)) i + 16 := by
  intro i
  induction i with
  | zero => rw [Nat.zero_add, t0]; simp [sumN]
  | succ i ih =>
   have e1 : sumN (fun j => trn n c (j % n)) (i + 1 + n) = sumN (fun j => trn n c (j % n)) (i + n) + trn n c ((i + n) % n) := by rw [show i + 1 + n = i + n + 1 by omega]; rfl
   have e2 : sumN (fun j => trn n c (j % n)) (i + 1) = sumN (fun j => trn n c (j % n)) i + trn n c (i % n) := rfl
   rw [e1, e2, ih, Nat.add_mod_right]
   omega
 have turn : ∀ i, sumN (fun j => trn n c (j % n)) (i + 1) - sumN (fun j => trn n c (j % n)) i = trn n c (i % n) := fun i => by
  have e2 : sumN (fun j => trn n c (j % n)) (i + 1) = sumN (fun j => trn n c (j % n)) i + trn n c (i % n) := rfl
  omega
 have rmod : ∀ i, (dirA n c 0 + sumN (fun j => trn n c (j % n)) i) % 16 = dirA n c (i % n) := by
  intro i
  induction i with
  | zero => have := inB_iff.1 (cv.d 0 n0); rw [Nat.zero_mod]; simp only [sumN]; omega
  | succ i ih =>
   have e2 := turn i
   have d1 := inB_iff.1 (cv.d _ (Nat.mod_lt (i + 1) n0))
   have e3 : trn n c (i % n) = (dirA n c ((i + 1) % n) - dirA n c (i % n)) % 16 := by unfold trn; rw [Nat.mod_add_mod]
   omega
 have step : ∀ i, isDir (dirA n c (i % n)) (sbV (F0 ((i + 1) % n)) (F0 (i % n))) := fun i => by
  have hi := Nat.mod_lt i n0
  have hm := Nat.mod_lt (i + 1) n0
  obtain ⟨a, b, ha, hb, hw, _⟩ := way_of (hv _ hi) (hv _ hm)
  have ea := pv_uniq10 ha (hF _ hi)
  have eb := pv_uniq10 hb (hF _ hm)
  subst ea eb
  have e : dirA n c (i % n) = dirV (pAt c (i % n)) (pAt c ((i + 1) % n)) := by unfold dirA; rw [Nat.mod_add_mod]
  rw [e]
  rcases dirV_spec hw with ⟨_, q⟩ | ⟨q, _⟩
  ·exact q
  ·have := inB_iff.1 (cv.d _ hi)
   omega
 refine ⟨fun i => sc 8 (F0 (i % n)), fun i => dirA n c 0 + sumN (fun j => trn n c (j % n)) i, fun i => offV ((dirA n c 0 + sumN (fun j => trn n c (j % n)) i) % 8) (pAt c (i % n)), ⟨n0, fun i => ?_, fun i => ?_, fun i => ?_, fun i => ?_⟩, fun i hi => ?_, fun i => ?_⟩
 ·show sc 8 (F0 ((i + n) % n)) = sc 8 (F0 (i % n))
  rw [Nat.add_mod_right]
 ·have := lift i
  show dirA n c 0 + _ = dirA n c 0 + _ + 16
  omega
 ·have := turn i
  have t := inB_iff.1 (cv.t _ (Nat.mod_lt i n0))
  show 1 <= dirA n c 0 + _ - (dirA n c 0 + _) /\ dirA n c 0 + _ - (dirA n c 0 + _) <= 7
  omega
 ·show isDir ((dirA n c 0 + sumN (fun j => trn n c (j % n)) i) % 16) (sbV (sc 8 (F0 ((i + 1) % n))) (sc 8 (F0 (i % n))))
  rw [rmod, sb_sc8]
  exact isDir_sc8 (step i)
 ·show Pt (pAt c i) (sc 8 (F0 (i % n)))
  rw [Nat.mod_eq_of_lt hi]
  exact pt_valid (hv i hi) (hF i hi)
 ·show On ((dirA n c 0 + sumN (fun j => trn n c (j % n)) i) % 8) (offV ((dirA n c 0 + sumN (fun j => trn n c (j % n)) i) % 8) (pAt c (i % n))) (sc 8 (F0 (i % n))) /\ lowB (offV ((dirA n c 0 + sumN (fun j => trn n c (j % n)) i) % 8) (pAt c (i % n)))
  obtain ⟨k1, k2⟩ := off_val (mod8 (dirA n c 0 + sumN (fun j => trn n c (j % n)) i)) (hF _ (Nat.mod_lt i n0))
  exact ⟨⟨_, _, k1.more (by decide), (dt_sc8 _ _).1, (dt_sc8 _ _).2⟩, k2⟩
def bLn (n : Nat) (b : NNI) (j : Nat) : Ln := ⟨dirA n b j % 8, offV (dirA n b j % 8) (pAt b j)⟩
def bSd (n : Nat) (b : NNI) (j : Nat) : Int := cond (decide (dirA n b j < 8)) 1 (-1)
structure SideOk (p q : P2) : Prop where
 pk : pkP q p = true
 wy : wayN (subP q p) = true
 dr : inB (dirV p q) 0 15 = true
 pd : pkD (nrm (dirV p q % 8)) p = true
end Go.Ev
namespace Go.Ev
def cmI (n : Nat) (b : NNI) : Nat -> Nat -> Nat -> (NNI) -> Nat × (NNI)
 | _, 0, m, d => (m, nmR m d)
 | j, r + 1, m, d => cond (((ptN (bLn n b j) (bSd n b j) m d : Nat) : Int) == 0) (0, zeroC) (cmI n b (j + 1) r (ptN (bLn n b j) (bSd n b j) m d) (ptI (bLn n b j) (bSd n b j) m d))
def cmS (n : Nat) (b : NNI) : Nat -> Nat -> Nat -> (NNI) -> Nat × (NNI)
 | _, 0, m, d => (m, d)
 | j, r + 1, m, d => cond (((ptN (bLn n b j) (bSd n b j) m d : Nat) : Int) == 0) (0, zeroC) (cmS n b (j + 1) r (ptN (bLn n b j) (bSd n b j) m d) (ptS (bLn n b j) (bSd n b j) m d))
theorem Rot.refl {n : Nat} (h : 0 < n) (c : NNI) : Rot n c c := ⟨0, h, fun i hi => by rw [Nat.add_zero, Nat.mod_eq_of_lt hi]⟩
end Go.Ev
namespace Go.Ev
def inV (n : Nat) (a : NNI) (m : Nat) (b : NNI) : Bool := vpS n a && vpS m b
def inC (n : Nat) (a : NNI) (m : Nat) (b : NNI) : Nat × (NNI) := cmS m b 0 m n a
def inD (n : Nat) (a : NNI) (m : Nat) (b : NNI) : Nat × (NNI) := cmI m b 0 m n a
def inK (n : Nat) (a : NNI) (m : Nat) (b : NNI) : Bool := cqB (inC n a m b).1 (inC n a m b).2
def inO (n : Nat) (a : NNI) (m : Nat) (b : NNI) : Bool := inV n a m b && inK n a m b
def inN (n : Nat) (a : NNI) (m : Nat) (b : NNI) : Nat := cond (inO n a m b) (inC n a m b).1 0
def inI (n : Nat) (a : NNI) (m : Nat) (b : NNI) : NNI := cond (inO n a m b) (cqD (inC n a m b).1 (inD n a m b).2) zeroC
structure InOk (n : Nat) (a : NNI) (m : Nat) (b : NNI) : Prop where
 e : (inD n a m b).1 = (inC n a m b).1
 hn : (inC n a m b).1 <= 32
 k1 : allF (cqK (inD n a m b).2) 0 (inC n a m b).1 = true
 k2 : allF (cqK (inC n a m b).2) 0 (inC n a m b).1 = true
 q : cqB (inC n a m b).1 (inD n a m b).2 = inK n a m b
 s : inK n a m b = true -> ∀ i, i < (inC n a m b).1 -> pAt (cqD (inC n a m b).1 (inD n a m b).2) i = pAt (ctD (inC n a m b).1 (inC n a m b).2) i
end Go.Ev
namespace Go.Ev
end Go.Ev
