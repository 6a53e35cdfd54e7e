/- Points in polygons, and what cutting leaves, in plain Lean. -/
import Derived.Test.YtlcopddgplbdhaaGreatDoorPlE
set_option linter.unusedVariables false
set_option linter.unusedSimpArgs false
/- The program's test of points; the parts of a polygon are polygons and do not overlap. -/
namespace Go.Ev
def orV (a b c : P2) : Int := sgF (crsF (subP b a) (subP c a))
theorem par3 (x1 x2 y1 y2 a b c d p q r s : Int) :
  (x1 * x1 + 2 * x2 * x2 + (y1 * y1 + 2 * y2 * y2)) * (a * r + 2 * b * s - (c * p + 2 * d * q)) + 2 * (x1 * x2 + x2 * x1 + (y1 * y2 + y2 * y1)) * (a * s + b * r - (c * q + d * p)) =
   (x1 * a + 2 * x2 * b + (y1 * c + 2 * y2 * d)) * (x1 * r + 2 * x2 * s - (y1 * p + 2 * y2 * q)) + 2 * (x1 * b + x2 * a + (y1 * d + y2 * c)) * (x1 * s + x2 * r - (y1 * q + y2 * p)) -
   ((x1 * c + 2 * x2 * d - (y1 * a + 2 * y2 * b)) * (x1 * p + 2 * x2 * q + (y1 * r + 2 * y2 * s)) + 2 * (x1 * d + x2 * c - (y1 * b + y2 * a)) * (x1 * q + x2 * p + (y1 * s + y2 * r))) := by grind
theorem par4 (x1 x2 y1 y2 a b c d p q r s : Int) :
  (x1 * x1 + 2 * x2 * x2 + (y1 * y1 + 2 * y2 * y2)) * (a * s + b * r - (c * q + d * p)) + (x1 * x2 + x2 * x1 + (y1 * y2 + y2 * y1)) * (a * r + 2 * b * s - (c * p + 2 * d * q)) =
   (x1 * a + 2 * x2 * b + (y1 * c + 2 * y2 * d)) * (x1 * s + x2 * r - (y1 * q + y2 * p)) + (x1 * b + x2 * a + (y1 * d + y2 * c)) * (x1 * r + 2 * x2 * s - (y1 * p + 2 * y2 * q)) -
   ((x1 * c + 2 * x2 * d - (y1 * a + 2 * y2 * b)) * (x1 * q + x2 * p + (y1 * s + y2 * r)) + (x1 * d + x2 * c - (y1 * b + y2 * a)) * (x1 * p + 2 * x2 * q + (y1 * r + 2 * y2 * s))) := by grind
def xA (w v : V4) : Int := w.a * v.c + 2 * w.b * v.d - (w.c * v.a + 2 * w.d * v.b)
def xB (w v : V4) : Int := w.a * v.d + w.b * v.c - (w.c * v.b + w.d * v.a)
theorem cross_dir {D : Int} {w v : V4} (hD : inB D 0 15 = true) (h : isDir D w) : sgZ (xA w v) (xB w v) = sgZ (crA D v) (crB D v) := by
 obtain ⟨h1, h2, h3⟩ := h
 have n1 : sgD D (vecV D) = 1 := by simpa using List.all_eq_true.1 len_all D (in_dirs16 hD)
 have k1 := par3 (vC1 D) (vE1 D) (vC2 D) (vE2 D) w.a w.b w.c w.d v.a v.b v.c v.d
 have k2 := par4 (vC1 D) (vE1 D) (vC2 D) (vE2 D) w.a w.b w.c w.d v.a v.b v.c v.d
 have c1 : vC1 D * w.c + 2 * vE1 D * w.d - (vC2 D * w.a + 2 * vE2 D * w.b) = 0 := h1
 have c2 : vC1 D * w.d + vE1 D * w.c - (vC2 D * w.b + vE2 D * w.a) = 0 := h2
 rw [c1, c2] at k1 k2
 simp only [Int.mul_zero, Int.zero_mul, Int.add_zero, Int.sub_zero] at k1 k2
 have g1 : dtA D (vecV D) * xA w v + 2 * dtB D (vecV D) * xB w v = dtA D w * crA D v + 2 * dtB D w * crB D v := k1
 have g2 : dtA D (vecV D) * xB w v + dtB D (vecV D) * xA w v = dtA D w * crB D v + dtB D w * crA D v := k2
 have m1 := sgZ_mul (dtA D (vecV D)) (dtB D (vecV D)) (xA w v) (xB w v)
 have m2 := sgZ_mul (dtA D w) (dtB D w) (crA D v) (crB D v)
 rw [g1, g2, m2] at m1
 have s1 : sgZ (dtA D w) (dtB D w) = 1 := by have := sgZ_bd (dtA D w) (dtB D w); omega
 have s2 : sgZ (dtA D (vecV D)) (dtB D (vecV D)) = 1 := n1
 rw [s1, s2, Int.one_mul, Int.one_mul] at m1
 exact m1.symm
def orB (a b c : P2) : Bool := pkP b a && (pkP c a && (pkC (subP b a) (subP c a) && (sW (crsF (subP b a) (subP c a)).a && sW (crsF (subP b a) (subP c a)).b)))
theorem mulN {x y : Int} (h : x.natAbs <= 268435456) (g : y.natAbs <= 268435456) : (x * y).natAbs <= 72057594037927936 := by
 have := abs_mul_le h g
 exact Nat.le_trans this (by decide)
theorem nat2 {x : Int} {M : Nat} (h : x.natAbs <= M) : (2 * x).natAbs <= 2 * M := by omega
theorem crs4 {p q : P2} {a b c d e f g h : Int} (x1 : VB 10 p.x a b 268435456) (y1 : VB 10 p.y c d 268435456) (x2 : VB 10 q.x e f 268435456) (y2 : VB 10 q.y g h 268435456) :
  pkC p q = true /\ VB 20 (crsF p q) (a * g + 2 * (b * h) - (c * e + 2 * (d * f))) (a * h + b * g - (c * f + d * e)) 576460752303423488 := by
 have b1 := mulN x1.a y2.a
 have b2 := mulN x1.b y2.b
 have b3 := mulN x1.a y2.b
 have b4 := mulN x1.b y2.a
 have b5 := mulN y1.a x2.a
 have b6 := mulN y1.b x2.b
 have b7 := mulN y1.a x2.b
 have b8 := mulN y1.b x2.a
 have q1 := (pk_val x1.v y2.v (by decide) (by decide)).2
 have q2 := (pk_val y1.v x2.v (by decide) (by decide)).2
 have e1 : 2 * b * h = 2 * (b * h) := Int.mul_assoc 2 b h
 have e2 : 2 * d * f = 2 * (d * f) := Int.mul_assoc 2 d f
 have m1 : (a * g + 2 * b * h).natAbs < 9223372036854775808 -> (a * h + b * g).natAbs < 9223372036854775808 -> _ := fun h1 h2 => (x1.v.mul y2.v (by decide) h1 h2).1
 have m2 : (c * e + 2 * d * f).natAbs < 9223372036854775808 -> (c * f + d * e).natAbs < 9223372036854775808 -> _ := fun h1 h2 => (y1.v.mul x2.v (by decide) h1 h2).1
 rw [e1] at m1
 rw [e2] at m2
 have c1 := abs_add_le b1 (nat2 b2)
 have c2 := abs_add_le b3 b4
 have c3 := abs_add_le b5 (nat2 b6)
 have c4 := abs_add_le b7 b8
 have m1 := m1 (Nat.lt_of_le_of_lt c1 (by decide)) (Nat.lt_of_le_of_lt c2 (by decide))
 have m2 := m2 (Nat.lt_of_le_of_lt c3 (by decide)) (Nat.lt_of_le_of_lt c4 (by decide))
 have s := (m1.sub m2 (by decide) (Nat.lt_of_le_of_lt (abs_sub_le c1 c3) (by decide)) (Nat.lt_of_le_of_lt (abs_sub_le c2 c4) (by decide)) (Nat.lt_of_le_of_lt c3 (by decide)) (Nat.lt_of_le_of_lt c4 (by decide))).1
 have q3 := (pk_val m1 m2 (by decide) (by decide)).1
 refine ⟨?_, s, Nat.le_trans (abs_sub_le c1 c3) (by decide), Nat.le_trans (abs_sub_le c2 c4) (by decide)⟩
 unfold pkC
 rw [q1, q2]
 exact q3
theorem or_ok {a b c : P2} {u v w : V4} (ha : PV 10 a u 134217728) (hb : PV 10 b v 134217728) (hc : PV 10 c w 134217728) : orB a b c = true /\ orV a b c = sgZ (xA (sbV v u) (sbV w u)) (xB (sbV v u) (sbV w u)) := by
 obtain ⟨x1, _⟩ := hb.x.sub ha.x (by decide) (by decide)
 obtain ⟨y1, _⟩ := hb.y.sub ha.y (by decide) (by decide)
 obtain ⟨x2, _⟩ := hc.x.sub ha.x (by decide) (by decide)
 obtain ⟨y2, _⟩ := hc.y.sub ha.y (by decide) (by decide)
 have p1 : pkP b a = true := by unfold pkP; rw [hb.x.pk ha.x (by decide), hb.y.pk ha.y (by decide)]; rfl
 have p2 : pkP c a = true := by unfold pkP; rw [hc.x.pk ha.x (by decide), hc.y.pk ha.y (by decide)]; rfl
 obtain ⟨k1, k2⟩ := crs4 (p := subP b a) (q := subP c a) x1 y1 x2 y2
 obtain ⟨d1, d2⟩ := k2.v.bd
 have s1 : sW (crsF (subP b a) (subP c a)).a = true := sW_abs (Nat.le_trans d1 k2.a) (by decide)
 have s2 : sW (crsF (subP b a) (subP c a)).b = true := sW_abs (Nat.le_trans d2 k2.b) (by decide)
 have ex : xA (sbV v u) (sbV w u) = (v.a - u.a) * (w.c - u.c) + 2 * ((v.b - u.b) * (w.d - u.d)) - ((v.c - u.c) * (w.a - u.a) + 2 * ((v.d - u.d) * (w.b - u.b))) := by
  rw [<- Int.mul_assoc 2, <- Int.mul_assoc 2]
  rfl
 have ey : xB (sbV v u) (sbV w u) = (v.a - u.a) * (w.d - u.d) + (v.b - u.b) * (w.c - u.c) - ((v.c - u.c) * (w.b - u.b) + (v.d - u.d) * (w.a - u.a)) := rfl
 refine ⟨?_, ?_⟩
 ·unfold orB
  rw [p1, p2, k1, s1, s2]
  rfl
 ·rw [ex, ey]
  exact k2.v.sg
def insF (n : Nat) (c : NNI) (q : P2) : Nat -> Nat -> Int -> Int
 | _, 0, x => x
 | i, r + 1, x => insF n c q (i + 1) r (min x (orV (pAt c i) (pAt c ((i + 1) % n)) q))
def insV (n : Nat) (c : NNI) (q : P2) : Int := insF n c q 0 n 1
theorem orV_bd (a b c : P2) : -1 <= orV a b c /\ orV a b c <= 1 := sgZ_bd _ _
theorem insF_le (n : Nat) (c : NNI) (q : P2) : ∀ r i x z, z <= insF n c q i r x ↔ z <= x /\ ∀ j, i <= j -> j < i + r -> z <= orV (pAt c j) (pAt c ((j + 1) % n)) q := by
 intro r
 induction r with
 | zero => intro i x z; exact ⟨fun h => ⟨h, fun j h1 h2 => by omega⟩, fun h => h.1⟩
 | succ r ih =>
  intro i x z
  simp only [insF]
  rw [ih]
  constructor
  ·rintro ⟨h1, h2⟩
   refine ⟨by omega, fun j g1 g2 => ?_⟩
   by_cases e : j = i
   ·subst e; omega
   ·exact h2 j (by omega) (by omega)
  ·rintro ⟨h1, h2⟩
   have := h2 i (Nat.le_refl _) (by omega)
   exact ⟨by omega, fun j g1 g2 => h2 j (by omega) (by omega)⟩
theorem insV_le {n : Nat} {c : NNI} {q : P2} {z : Int} (hz : z <= 1) : z <= insV n c q ↔ ∀ j, j < n -> z <= orV (pAt c j) (pAt c ((j + 1) % n)) q := by
 unfold insV
 rw [insF_le]
 exact ⟨fun h j hj => h.2 j (Nat.zero_le _) (by omega), fun h => ⟨hz, fun j _ hj => h j (by omega)⟩⟩
theorem insV_bd (n : Nat) (c : NNI) (q : P2) : -1 <= insV n c q /\ insV n c q <= 1 := by
 refine ⟨(insV_le (by decide)).2 fun j _ => (orV_bd _ _ _).1, ?_⟩
 have := ((insF_le n c q n 0 1 (insV n c q)).1 (Int.le_refl _)).1
 exact this
end Go.Ev
/- The parts that a line leaves of a valid polygon: polygons on their sides, with no common inside. -/
namespace Go.Ev
theorem Cvx.rmod {n : Nat} {F : Nat -> V4} {R : Nat -> Int} (h : Cvx n F R) (i : Nat) : R (i % n) % 16 = R i % 16 := by
 have := h.liftM (i % n) (i / n)
 rw [Nat.mod_add_div] at this
 omega
theorem cvx_cv {n : Nat} {c : NNI} (h : CvxP n (pAt c)) : CV n c /\ 3 <= n /\ n <= 16 := by
 obtain ⟨F, R, O, h1, h2, _⟩ := h
 have n0 := h1.n0
 have hd : ∀ i, i < n -> dirA n c i = R i % 16 := fun i hi => by
  have hj := Nat.mod_lt (i + 1) n0
  exact (h2 i hi).dir (by rw [<- h1.mod (i + 1)]; exact h2 _ hj) (dir16 _) (h1.dir i)
 have ht : ∀ i, i < n -> trn n c i = R (i + 1) - R i := fun i hi => by
  have hj := Nat.mod_lt (i + 1) n0
  have t := h1.turn i
  unfold trn
  rw [hd i hi, hd _ hj, h1.rmod]
  omega
 have hs : ∀ k, k <= n -> sumN (trn n c) k = R k - R 0 := by
  intro k
  induction k with
  | zero => intro _; simp [sumN]
  | succ k ih => intro hk; simp only [sumN]; rw [ih (by omega), ht k (by omega)]; omega
 have hl := h1.lift 0
 rw [Nat.zero_add] at hl
 have hm := h1.mono 0 n
 rw [Nat.zero_add] at hm
 refine ⟨⟨fun i hi => by rw [hd i hi]; exact dir16 _, fun i hi => by rw [ht i hi]; exact inB_iff.2 (h1.turn i), by rw [hs n (Nat.le_refl _)]; omega⟩, ?_, by omega⟩
 rcases (show n = 1 \/ n = 2 \/ 3 <= n by omega) with e | e | e
 ·subst e
  have := h1.turn 0
  rw [Nat.zero_add] at this
  omega
 ·subst e
  have a := h1.turn 0
  have b := h1.turn 1
  rw [Nat.zero_add] at a
  rw [show 1 + 1 = 2 by omega] at b
  omega
 ·exact e
theorem cp_congr {n : Nat} {c d : NNI} (h : ∀ i, i < n -> pAt c i = pAt d i) (hv : vpS n d = true) : vpS n c = true := by
 obtain ⟨⟨h3, h16⟩, v, cv, l⟩ := vp_iff.1 hv
 have dA : ∀ i, i < n -> dirA n c i = dirA n d i := fun i hi => dirA_congr h hi
 have tr : ∀ i, i < n -> trn n c i = trn n d i := fun i hi => by unfold trn; rw [dA i hi, dA _ (Nat.mod_lt _ (by omega))]
 refine vp_iff.2 ⟨⟨h3, h16⟩, fun i hi => by rw [h i hi]; exact v i hi, ⟨fun i hi => by rw [dA i hi]; exact cv.d i hi, fun i hi => by rw [tr i hi]; exact cv.t i hi, by rw [sumN_congr n tr]; exact cv.s⟩, fun j h0 hj => by rw [h j hj, h 0 (by omega)]; exact l j h0 hj⟩
theorem side_of {l : Ln} {sd : Int} (hl : l.valid = true) (hs : sd = 1 \/ sd = -1) : ∃ A B, Side l sd A B := by
 unfold Ln.valid at hl
 rw [Bool.and_eq_true] at hl
 obtain ⟨A, B, h⟩ := valid_vb hl.2
 exact ⟨A, B, hl.1, h.more (by decide), valid_low hl.2, hs⟩
structure PartOk (l : Ln) (sd A B : Int) (n : Nat) (c : NNI) : Prop where
 v : vpS (cutN l sd n c) (cutI l sd n c) = true
 cv : CvxP (cutN l sd n c) (pAt (cutI l sd n c))
 r : ∀ P, (InsN (cutN l sd n c) (pAt (cutI l sd n c)) P ↔ InsN n (pAt c) P /\ (hpL l sd A B).nn P) /\ (IntN (cutN l sd n c) (pAt (cutI l sd n c)) P ↔ IntN n (pAt c) P /\ (hpL l sd A B).pos P)
 s : (∃ i, i < n /\ hfA l sd (pAt c i) < 0) -> ∃ k, k < cutN l sd n c /\ dirA (cutN l sd n c) (cutI l sd n c) k = (hpL l sd A B).E /\ hfA l sd (pAt (cutI l sd n c) k) = 0
theorem cut_part {l : Ln} {sd A B : Int} {n : Nat} {c : NNI} (sl : Side l sd A B) (ho : cutO l n c = true) (h0 : 0 < cutN l sd n c) : PartOk l sd A B n c := by
 have ho' := ho
 unfold cutO cutV cutK at ho'
 simp only [Bool.and_eq_true] at ho'
 obtain ⟨⟨hv, hl⟩, k1, k2⟩ := ho'
 have eN : cutN l sd n c = ptN l sd n c := by unfold cutN; rw [ho]; rfl
 have eI : cutI l sd n c = cqD (ptN l sd n c) (ptI l sd n c) := by unfold cutI; rw [ho]; rfl
 rw [eN] at h0
 have hh : (hfS l sd n c).has = true := by
  cases hh : (hfS l sd n c).has with
  | true => rfl
  | false => unfold ptN at h0; rw [hh] at h0; exact absurd h0 (Nat.lt_irrefl _)
 have em : ptN l sd n c = (hfS l sd n c).m := by unfold ptN; rw [hh]; rfl
 have eP : ptI l sd n c = nmR (hfS l sd n c).m (hfS l sd n c).d := by unfold ptI; rw [hh]; rfl
 have eS : ptS l sd n c = (hfS l sd n c).d := by unfold ptS; rw [hh]; rfl
 obtain ⟨m1, a1⟩ := hfS_list l sd n c
 obtain ⟨g1, g2, g3, g4⟩ := part_reg sl (cvx_valid hv) ((hfS_flag l sd n c).1 hh)
 rw [<- m1] at g1 g3 g4
 have m0 := g1.n0
 have cd : CvxP (hfS l sd n c).m (pAt (hfS l sd n c).d) := g1.congr fun i hi => a1 i hi
 have hq : cqB (hfS l sd n c).m (hfS l sd n c).d = true := by
  rcases sl.s with e | e
  ·rw [e] at em eS ⊢; rw [<- em, <- eS]; exact k1
  ·rw [e] at em eS ⊢; rw [<- em, <- eS]; exact k2
 have low : ∀ i, i < (hfS l sd n c).m -> redP (pAt (hfS l sd n c).d i) = pAt (hfS l sd n c).d i := fun i hi => by obtain ⟨_, _, _, _, hp, _⟩ := cd; exact (hp i hi).low
 have val : ∀ i, i < (hfS l sd n c).m -> valP (pAt (hfS l sd n c).d i) = true := fun i hi => by
  have := allF_iff.1 hq i (Nat.zero_le _) (by omega)
  rwa [low i hi] at this
 obtain ⟨cvv, c3, c16⟩ := cvx_cv cd
 have vp := vp_rot c3 c16 val cvv
 have hlc := lc_lt (hfS l sd n c).d (hfS l sd n c).m 0 0 (hfS l sd n c).m (by omega) m0
 have eq : ∀ i, i < (hfS l sd n c).m -> pAt (cutI l sd n c) i = pAt (nmR (hfS l sd n c).m (hfS l sd n c).d) i := fun i hi => by
  have hj := Nat.mod_lt (i + lcF (hfS l sd n c).d 0 (hfS l sd n c).m 0) m0
  rw [eI, em, cqD_at hi, eP]
  have e2 : pAt (nmR (hfS l sd n c).m (hfS l sd n c).d) i = pAt (hfS l sd n c).d ((i + lcF (hfS l sd n c).d 0 (hfS l sd n c).m 0) % (hfS l sd n c).m) := rot_pAt _ hlc hi
  rw [e2, low _ hj, val _ hj]
  rfl
 have eq2 : ∀ i, i < (hfS l sd n c).m -> pAt (cutI l sd n c) i = (outL l sd n (pAt c)).getD ((i + lcF (hfS l sd n c).d 0 (hfS l sd n c).m 0) % (hfS l sd n c).m) zP := fun i hi => by
  rw [eq i hi]
  have e2 : pAt (nmR (hfS l sd n c).m (hfS l sd n c).d) i = pAt (hfS l sd n c).d ((i + lcF (hfS l sd n c).d 0 (hfS l sd n c).m 0) % (hfS l sd n c).m) := rot_pAt _ hlc hi
  rw [e2, a1 _ (Nat.mod_lt _ m0)]
 have eNm : cutN l sd n c = (hfS l sd n c).m := eN.trans em
 rw [<- eNm] at eq eq2 vp g1 g3 g4
 refine ⟨cp_congr eq vp, g1.shift _ eq2, fun P => ?_, fun hneg => ?_⟩
 ·have a := insN_shift g1 _ eq2 P
  exact ⟨a.1.trans (g3 P).1, a.2.trans (g3 P).2⟩
 ·obtain ⟨k, h1, h2, h3⟩ := g4 hneg
  have hlc' : lcF (hfS l sd n c).d 0 (cutN l sd n c) 0 < cutN l sd n c := by rw [eNm]; exact hlc
  obtain ⟨r, hr, er⟩ := rot_surj hlc' h1
  have n0 : 0 < cutN l sd n c := by omega
  have hr1 := Nat.mod_lt (r + 1) n0
  refine ⟨r, hr, ?_, ?_⟩
  ·unfold dirA
   rw [eq2 r hr, eq2 _ hr1, er, mod_add_one, er]
   exact h2
  ·rw [eq2 r hr, er]; exact h3
end Go.Ev
namespace Go.Ev
end Go.Ev
/- The law of cutting a polygon, in plain Lean. -/
namespace Go.Ev
def ipV (n : Nat) (c : NNI) (q : P2) : Int := cond (!(vpS n c)) (-1) (cond (!(valP q)) (-1) (insV n c q))
def ovV (n : Nat) (a : NNI) (m : Nat) (b : NNI) : Bool := inV n a m b && decide (0 < (inD n a m b).1)
theorem ipV_val {n : Nat} {c : NNI} {q : P2} (hv : vpS n c = true) (hq : valP q = true) : ipV n c q = insV n c q := by unfold ipV; rw [hv, hq]; rfl
theorem val_pt {p : P2} (h : valP p = true) : ∃ P, Pt p P := by
 obtain ⟨v, hv⟩ := valP_pv h
 exact ⟨_, pt_valid h hv⟩
structure CutLaw (l : Ln) (n : Nat) (c : NNI) : Prop where
 some' : ¬ (cutN l 1 n c = 0 /\ cutN l (-1) n c = 0)
 va : 0 < cutN l 1 n c -> vpS (cutN l 1 n c) (cutI l 1 n c) = true
 vb : 0 < cutN l (-1) n c -> vpS (cutN l (-1) n c) (cutI l (-1) n c) = true
 ca : ∀ i, i < cutN l 1 n c -> 0 <= soV l (pAt (cutI l 1 n c) i) /\ 0 <= ipV n c (pAt (cutI l 1 n c) i)
 cb : ∀ i, i < cutN l (-1) n c -> soV l (pAt (cutI l (-1) n c) i) <= 0 /\ 0 <= ipV n c (pAt (cutI l (-1) n c) i)
 cc : ∀ i, i < n -> ¬ (ipV (cutN l 1 n c) (cutI l 1 n c) (pAt c i) < 0 /\ ipV (cutN l (-1) n c) (cutI l (-1) n c) (pAt c i) < 0)
 out : ∀ p, valP p = true -> ipV n c p < 0 -> ipV (cutN l 1 n c) (cutI l 1 n c) p < 0 /\ ipV (cutN l (-1) n c) (cutI l (-1) n c) p < 0
 inn : ∀ p, valP p = true -> 0 <= ipV n c p -> (soV l p <= 0 \/ ipV (cutN l 1 n c) (cutI l 1 n c) p = ipV n c p) /\ (0 <= soV l p \/ ipV (cutN l (-1) n c) (cutI l (-1) n c) p = ipV n c p)
 ov : ovV (cutN l 1 n c) (cutI l 1 n c) (cutN l (-1) n c) (cutI l (-1) n c) = false
theorem vp_val {n : Nat} {c : NNI} (h : vpS n c = true) {i : Nat} (hi : i < n) : valP (pAt c i) = true := (vp_iff.1 h).2.1 i hi
end Go.Ev
/- Drawn polygons: a square, cut by lines; what is drawn of two polygons and a line. -/
namespace Go.Ev
theorem eqP_iff {p q : P2} : eqP p q = true ↔ p = q := by
 constructor
 ·intro h
  obtain ⟨⟨a1, a2, a3⟩, ⟨a4, a5, a6⟩⟩ := p
  obtain ⟨⟨b1, b2, b3⟩, ⟨b4, b5, b6⟩⟩ := q
  simp only [eqP, eq3] at h
  simp only [P2.mk.injEq, N3.mk.injEq]
  cases h1 : a1 == b1 <;> cases h2 : a2 == b2 <;> cases h3 : a3 == b3 <;> cases h4 : a4 == b4 <;> cases h5 : a5 == b5 <;> cases h6 : a6 == b6 <;> simp_all
 ·rintro rfl; exact eqP_self p
theorem eqPS_at {n m : Nat} {c d : NNI} (h : eqPS n c m d = true) : n = m /\ ∀ i, i < n -> pAt c i = pAt d i := by
 unfold eqPS at h
 rw [Bool.and_eq_true] at h
 refine ⟨of_decide_eq_true h.1, fun i hi => eqP_iff.1 (allF_iff.1 h.2 i (Nat.zero_le _) (by omega))⟩
structure Pg where
 n : Nat
 c : NNI
def Pg.av (g : Pg) : AV := .arr g.n [.int .i64, .int .i64, .int .i64, .int .i64, .int .i64, .int .i64] g.c
def Pg.ok (g : Pg) : Bool := vpS g.n g.c
def sqC (n : Int) : NNI := fun i j => (([[0, 0, 0, 0, 0, 0], [n, 0, 0, 0, 0, 0], [n, 0, 0, n, 0, 0], [0, 0, 0, n, 0, 0]] : List (List Int)).getD i []).getD j 0
theorem sq_valid {n : Int} (h : n = 1 \/ n = 2 \/ n = 4 \/ n = 8) : vpS 4 (sqC n) = true := by rcases h with rfl | rfl | rfl | rfl <;> decide +kernel
def lQ : List Int := [2, 4, 4, 8, 1]
theorem lQ_in {s : Src} : vpS 4 (sqC (lQ.getD (pickV 5 s).1.toNat 0)) = true := by
 have := pick_in (s := s) (m := 5) (by decide)
 refine sq_valid ?_
 rcases (show (pickV 5 s).1 = 0 \/ (pickV 5 s).1 = 1 \/ (pickV 5 s).1 = 2 \/ (pickV 5 s).1 = 3 \/ (pickV 5 s).1 = 4 by omega) with e | e | e | e | e <;> rw [e] <;> simp [lQ]
theorem cutT_valid {l : Ln} {sd : Int} {n : Nat} {c : NNI} (hs : sd = 1 \/ sd = -1) (ho : cutO l n c = true) (h0 : 0 < cutN l sd n c) : vpS (cutN l sd n c) (cutT l sd n c) = true := by
 have ho' := ho
 unfold cutO cutV at ho'
 simp only [Bool.and_eq_true] at ho'
 obtain ⟨A, B, sl⟩ := side_of ho'.1.2 hs
 obtain ⟨_, e⟩ := eqPS_at (cut_same (l := l) (n := n) (c := c) hs).2
 exact cp_congr (fun i hi => (e i hi).symm) (cut_part sl ho h0).v
theorem laL_valid {p : P2} {d : Int} (h : laO p d = true) : (laL p d).valid = true := by
 unfold laL Ln.valid
 rw [h]
 unfold laO at h
 simp only [Bool.and_eq_true] at h
 show (inB d 0 7 && validB (offV d p)) = true
 rw [h.1.2, h.2]
 rfl
@[reducible] def eS (s : Src) : Src := ⟨s.n, s.c, s.p, s.z⟩
noncomputable def fromL (P : Program) (GL : Nat -> AV) (Γ : List (Nat × Ctr)) (k : Nat) (cfg : Cfg) (args : List AV) (fn : Func) (i n id : Nat) (s : List AV) : Option AV :=
 spotAt (spots P GL Γ fn.ntmps (vOf fn args) k (cfg.at (vOf fn args)) (loopW P GL Γ k cfg args fn i).1 fun e s' => match e with
  | .norm => runW P GL Γ k cfg args fn i n (forget fn.ntmps (vOf fn args) cfg.keep s')
  | .exit j => (loopW P GL Γ k cfg args fn i).2 (.exit j) s'
  | .ret => (loopW P GL Γ k cfg args fn i).2 .ret s') id s
section
variable (Rn : Nat -> (NNI) -> Src -> Option AV)
def pdN (L : Ln) (sd : Int) (m : Nat) (c : NNI) : Nat := cond (cqB (ptN L sd m c) (ptS L sd m c)) (ptN L sd m c) 0
def pdC (L : Ln) (sd : Int) (m : Nat) (c : NNI) : NNI := cond (cqB (ptN L sd m c) (ptS L sd m c) && Nat.blt 0 (ptN L sd m c)) (ctD (ptN L sd m c) (ptS L sd m c)) zeroC
def pdL (L : Ln) (m : Nat) (c : NNI) (s : Src) : Option AV := cond (decide (((pdN L (-1) m c : Nat) : Int) > 0)) (Rn (pdN L (-1) m c) (pdC L (-1) m c) s) (Rn m c s)
def pdT (L : Ln) (m : Nat) (c : NNI) (s : Src) : Option AV := cond (cutV L m c) (cond (!(cqB (ptN L 1 m c) (ptS L 1 m c) && cqB (ptN L (-1) m c) (ptS L (-1) m c))) (Rn m c s)
 (cond (decide (((pdN L 1 m c : Nat) : Int) > 0)) (cond (pB 2 s.p) (cond ((pickV 2 s).1 == 0) (Rn (pdN L 1 m c) (pdC L 1 m c) (pickV 2 s).2) (pdL Rn L m c (pickV 2 s).2)) none) (pdL Rn L m c s))) none
def pdF (m : Nat) (c : NNI) (s : Src) : Option AV := cond (pB 20 s.p) (cond (pB 2 (lineV s).2.p) (cond ((pickV 2 (lineV s).2).1 == 0)
 (cond (pB 2 (pickV 2 (lineV s).2).2.p) (cond (decide (0 <= (pickV (m : Int) (pickV 2 (lineV s).2).2).1) && decide ((pickV (m : Int) (pickV 2 (lineV s).2).2).1 < (m : Int))) (cond (pB 2 (pickV (m : Int) (pickV 2 (lineV s).2).2).2.p)
  (cond (laO (pAt c (pickV (m : Int) (pickV 2 (lineV s).2).2).1.toNat) (pickV 8 (pickV (m : Int) (pickV 2 (lineV s).2).2).2).1)
   (pdT Rn (laL (pAt c (pickV (m : Int) (pickV 2 (lineV s).2).2).1.toNat) (pickV 8 (pickV (m : Int) (pickV 2 (lineV s).2).2).2).1) m c (pickV 8 (pickV (m : Int) (pickV 2 (lineV s).2).2).2).2)
   (pdT Rn (lineV s).1 m c (pickV 8 (pickV (m : Int) (pickV 2 (lineV s).2).2).2).2)) none) none) none)
 (pdT Rn (lineV s).1 m c (pickV 2 (lineV s).2).2)) none) none
variable {Rn}
theorem pd_valid {L : Ln} {sd : Int} {m : Nat} {c : NNI} (hs : sd = 1 \/ sd = -1) (hv : cutV L m c = true) (hk : (cqB (ptN L 1 m c) (ptS L 1 m c) && cqB (ptN L (-1) m c) (ptS L (-1) m c)) = true) (h0 : 0 < pdN L sd m c) : vpS (pdN L sd m c) (pdC L sd m c) = true := by
 have ho : cutO L m c = true := by unfold cutO cutK; rw [hv, hk]; rfl
 have hq : cqB (ptN L sd m c) (ptS L sd m c) = true := by
  rw [Bool.and_eq_true] at hk
  rcases hs with e | e
  ·rw [e]; exact hk.1
  ·rw [e]; exact hk.2
 have eN : pdN L sd m c = cutN L sd m c := by unfold pdN cutN; rw [hq, ho]
 have eC : pdC L sd m c = cutT L sd m c := by unfold pdC cutT; rw [hq, ho]
 rw [eN] at h0 ⊢
 rw [eC]
 exact cutT_valid hs ho h0
theorem pdT_ok {P : Option AV -> Prop} {L : Ln} {m : Nat} {c : NNI} {s : Src} (hv : vpS m c = true) (hL : L.valid = true) (hp : pB 2 s.p = true) (hR : ∀ m' c' s', vpS m' c' = true -> 0 <= s'.p -> s'.p <= s.p + 2 -> P (Rn m' c' s')) : P (pdT Rn L m c s) := by
 have hp' := pB_iff.1 hp
 have hV : cutV L m c = true := by unfold cutV; rw [hv, hL]; rfl
 have last : ∀ s' : Src, 0 <= s'.p -> s'.p <= s.p + 2 -> (cqB (ptN L 1 m c) (ptS L 1 m c) && cqB (ptN L (-1) m c) (ptS L (-1) m c)) = true -> P (pdL Rn L m c s') := fun s' q1 q2 hk => by
  unfold pdL
  by_cases z : 0 < pdN L (-1) m c
  ·rw [show decide (((pdN L (-1) m c : Nat) : Int) > 0) = true from decide_eq_true (by omega)]
   exact hR _ _ _ (pd_valid (.inr rfl) hV hk z) q1 q2
  ·rw [show decide (((pdN L (-1) m c : Nat) : Int) > 0) = false from decide_eq_false (by omega)]
   exact hR _ _ _ hv q1 q2
 unfold pdT
 rw [hV, cond_true]
 cases hk : (cqB (ptN L 1 m c) (ptS L 1 m c) && cqB (ptN L (-1) m c) (ptS L (-1) m c)) with
 | false => exact hR _ _ _ hv (by omega) (by omega)
 | true =>
  simp only [Bool.not_true, cond_false]
  by_cases z : 0 < pdN L 1 m c
  ·rw [show decide (((pdN L 1 m c : Nat) : Int) > 0) = true from decide_eq_true (by omega), hp]
   have h1 := pick_on 2 hp (by decide)
   simp only [cond_true]
   cases (pickV 2 s).1 == 0 with
   | true => exact hR _ _ _ (pd_valid (.inl rfl) hV hk z) h1.1 h1.2
   | false => exact last _ h1.1 h1.2 hk
  ·rw [show decide (((pdN L 1 m c : Nat) : Int) > 0) = false from decide_eq_false (by omega)]
   exact last _ (by omega) (by omega) hk
theorem pdF_ok {P : Option AV -> Prop} {m : Nat} {c : NNI} {s : Src} (hv : vpS m c = true) (hp : pB 28 s.p = true) (hR : ∀ m' c' s', vpS m' c' = true -> 0 <= s'.p -> s'.p <= s.p + 28 -> P (Rn m' c' s')) : P (pdF Rn m c s) := by
 have hp' := pB_iff.1 hp
 obtain ⟨⟨h3, h16⟩, hval, _⟩ := vp_iff.1 hv
 obtain ⟨_, vl, h1⟩ := line_on hp (by decide)
 have p1 := pB_on hp h1 (by decide)
 have h2 := pick_on 2 p1 (by decide)
 have p2 := pB_on p1 h2 (by decide)
 have h3' := pick_on (m : Int) p2 (by decide)
 have p3 := pB_on p2 h3' (by decide)
 have h4 := pick_on 8 p3 (by decide)
 have p4 := pB_on p3 h4 (by decide)
 have hi := pick_in (s := (pickV 2 (lineV s).2).2) (m := (m : Int)) (by omega)
 unfold pdF
 rw [pB_less hp (show (20 : Int) <= 28 by decide), pB_less p1 (show (2 : Int) <= 28 - 20 by decide), pB_less p2 (show (2 : Int) <= 28 - 20 - 2 by decide), pB_less p3 (show (2 : Int) <= 28 - 20 - 2 - 2 by decide),
  decide_eq_true hi.1, decide_eq_true hi.2]
 simp only [cond_true, Bool.and_self]
 cases (pickV 2 (lineV s).2).1 == 0 with
 | false => exact pdT_ok (P := P) hv vl (pB_less p2 (by decide)) fun m' c' s' v q1 q2 => hR m' c' s' v q1 (by omega)
 | true =>
  simp only [cond_true]
  cases ho : laO (pAt c (pickV (m : Int) (pickV 2 (lineV s).2).2).1.toNat) (pickV 8 (pickV (m : Int) (pickV 2 (lineV s).2).2).2).1 with
  | false => exact pdT_ok (P := P) hv vl p4 fun m' c' s' v q1 q2 => hR m' c' s' v q1 (by omega)
  | true => exact pdT_ok (P := P) hv (laL_valid ho) p4 fun m' c' s' v q1 q2 => hR m' c' s' v q1 (by omega)
end
end Go.Ev
/- A convex polygon is told by its region. -/
namespace Go.Ev
section
variable {n : Nat} {F : Nat -> V4} {R : Nat -> Int}
section
variable {m : Nat} {G : Nat -> V4} {S : Nat -> Int}
end
end
end Go.Ev
/- The region of the intersection of two polygons; it does not depend on the order. -/
namespace Go.Ev
theorem nm_valid {n : Nat} {a : NNI} (ha : vpS n a = true) {i : Nat} (hi : i < n) : pAt (nmR n a) i = pAt a i := by
 obtain ⟨⟨h3, _⟩, _, _, hl⟩ := vp_iff.1 ha
 have e : lcF a 0 n 0 = 0 := (lc_least a (by omega)).2 hl
 unfold nmR
 rw [e, rot_pAt a (show 0 < n by omega) hi, Nat.add_zero, Nat.mod_eq_of_lt hi]
end Go.Ev
/- The law of intersecting two polygons, in plain Lean. -/
namespace Go.Ev
structure IsOk (n : Nat) (a : NNI) (m : Nat) (b : NNI) : Prop where
 e : inN n a m b = (inD n a m b).1
 p : ∀ i, i < inN n a m b -> pAt (inI n a m b) i = pAt (inD n a m b).2 i
 v : 0 < inN n a m b -> vpS (inN n a m b) (inI n a m b) = true
end Go.Ev
/- The law of intersecting two polygons: what the statement asks, in plain Lean. -/
namespace Go.Ev
theorem eqPS_of {n m : Nat} {c d : NNI} (e : n = m) (h : ∀ i, i < n -> pAt c i = pAt d i) : eqPS n c m d = true := by
 unfold eqPS
 rw [Bool.and_eq_true]
 exact ⟨decide_eq_true e, allF_iff.2 fun i _ hi => eqP_iff.2 (h i (by omega))⟩
theorem eqP2_P (p q : P2) : eqP2 p q = eqP p q := by
 rw [Bool.eq_iff_iff, eqP_iff]
 exact ⟨eqP2_eq, fun h => by rw [h]; exact eqP2_self q⟩
structure InLaw (n : Nat) (a : NNI) (m : Nat) (b : NNI) : Prop where
 ov : ovV n a m b = decide (((inN n a m b : Nat) : Int) > 0)
 ca : ∀ i, i < inN n a m b -> 0 <= ipV n a (pAt (inI n a m b) i) /\ 0 <= ipV m b (pAt (inI n a m b) i)
 pt : ∀ p, valP p = true -> (0 < ipV (inN n a m b) (inI n a m b) p ↔ 0 < ipV n a p /\ 0 < ipV m b p)
end Go.Ev
/- A region and the one right behind it, outside loops: an evaluation in two steps. -/
namespace Go.Ev
def hd1 : Code -> Option (Nat × Array Oper × Bool)
 | .region id ops d => some (id, ops, d)
 | _ => none
def hd2 : Code -> Option (Nat × Array Oper × Bool × Code)
 | .seq x y => match hd1 x with
  | some (id, ops, d) => some (id, ops, d, y)
  | none => none
 | _ => none
section
variable {P : Program} {GL : Nat -> AV} {Γ : List (Nat × Ctr)} {n v k : Nat} {cfg : Cfg}
end
section
variable {P : Program} {GL : Nat -> AV} {Γ : List (Nat × Ctr)} {n v k : Nat} {cfg : Cfg}
end
end Go.Ev
/- Moved polygons: the same points lie in them, and moved back they are as before. -/
namespace Go.Ev
open Go.RowKit
theorem cross_tv {t : Int} (h : inB t 0 7 = true) (f : Bool) (a b : V4) : xA (tv t (fl f a)) (tv t (fl f b)) = cond f (-(4 * xA a b)) (4 * xA a b) /\ xB (tv t (fl f a)) (tv t (fl f b)) = cond f (-(4 * xB a b)) (4 * xB a b) := by
 obtain ⟨a0, a1, a2, a3, a4, a5, a6, a7⟩ := tv_all (fl f a)
 obtain ⟨b0, b1, b2, b3, b4, b5, b6, b7⟩ := tv_all (fl f b)
 rcases t8 h with rfl | rfl | rfl | rfl | rfl | rfl | rfl | rfl
 ·rw [a0, b0]; unfold xA xB fl db; cases f <;> constructor <;> simp only [cond_true, cond_false] <;> grind
 ·rw [a1, b1]; unfold xA xB fl; cases f <;> constructor <;> simp only [cond_true, cond_false] <;> grind
 ·rw [a2, b2]; unfold xA xB fl; cases f <;> constructor <;> simp only [cond_true, cond_false] <;> grind
 ·rw [a3, b3]; unfold xA xB fl; cases f <;> constructor <;> simp only [cond_true, cond_false] <;> grind
 ·rw [a4, b4]; unfold xA xB fl; cases f <;> constructor <;> simp only [cond_true, cond_false] <;> grind
 ·rw [a5, b5]; unfold xA xB fl; cases f <;> constructor <;> simp only [cond_true, cond_false] <;> grind
 ·rw [a6, b6]; unfold xA xB fl; cases f <;> constructor <;> simp only [cond_true, cond_false] <;> grind
 ·rw [a7, b7]; unfold xA xB fl; cases f <;> constructor <;> simp only [cond_true, cond_false] <;> grind
theorem mi_fl (f : Bool) (v : V4) : fl f (mi v) = mi (fl f v) := by
 cases f
 ·rfl
 ·rfl
theorem sb_ad (u v : V4) : sbV u v = ad u (mi v) := by unfold sbV ad mi; simp only [V4.mk.injEq]; omega
theorem ad_sb (x y w : V4) : sbV (ad x w) (ad y w) = sbV x y := by unfold sbV ad; simp only [V4.mk.injEq]; omega
theorem db_sb (x y : V4) : sbV (db x) (db y) = db (sbV x y) := by unfold sbV db; simp only [V4.mk.injEq]; omega
theorem tv_sb {t : Int} (h : inB t 0 7 = true) (f : Bool) (u v : V4) : tv t (fl f (sbV u v)) = sbV (tv t (fl f u)) (tv t (fl f v)) := by
 rw [sb_ad, (fl_lin f u (mi v)).1, mi_fl, (tv_lin h _ _).1, (tv_lin h (fl f v) (fl f v)).2.2, sb_ad]
theorem x_db (a b : V4) : xA (db a) (db b) = 4 * xA a b /\ xB (db a) (db b) = 4 * xB a b := by unfold xA xB db; constructor <;> grind
theorem mw_val {m : M8} {p : P2} {v w : V4} (hv : PV 10 p v 134217728) (hw : PV 10 m.s w 134217728) (hq : valP (mwR m p) = true) : ∃ u, PV 10 (mwR m p) u 134217728 /\ db u = ad (tv m.t (fl m.f v)) (db w) := by
 obtain ⟨u, hu⟩ := valP_pv hq
 exact ⟨u, hu, pv_same (pv_db hu) (mv_val (Nat.le_refl _) hv hw).1⟩
theorem or_swap {a b q : P2} (ha : valP a = true) (hb : valP b = true) (hq : valP q = true) : orV b a q = -orV a b q := by
 obtain ⟨u, hu⟩ := valP_pv ha
 obtain ⟨v, hv⟩ := valP_pv hb
 obtain ⟨w, hw⟩ := valP_pv hq
 rw [(or_ok hu hv hw).2, (or_ok hv hu hw).2, <- sgZ_minus]
 congr 1
 ·unfold xA sbV; grind
 ·unfold xB sbV; grind
theorem or_move {m : M8} {a b q : P2} (hm : m.valid = true) (ha : valP a = true) (hb : valP b = true) (hq : valP q = true) (ha' : valP (mwR m a) = true) (hb' : valP (mwR m b) = true) (hq' : valP (mwR m q) = true) :
  orV (mwR m a) (mwR m b) (mwR m q) = cond m.f (-orV a b q) (orV a b q) := by
 unfold M8.valid at hm
 rw [Bool.and_eq_true] at hm
 obtain ⟨z, hz⟩ := valP_pv hm.2
 obtain ⟨u, hu⟩ := valP_pv ha
 obtain ⟨v, hv⟩ := valP_pv hb
 obtain ⟨w, hw⟩ := valP_pv hq
 obtain ⟨u', hu', eu⟩ := mw_val hu hz ha'
 obtain ⟨v', hv', ev⟩ := mw_val hv hz hb'
 obtain ⟨w', hw', ew⟩ := mw_val hw hz hq'
 have e1 : db (sbV v' u') = tv m.t (fl m.f (sbV v u)) := by rw [<- db_sb, ev, eu, ad_sb, tv_sb hm.1]
 have e2 : db (sbV w' u') = tv m.t (fl m.f (sbV w u)) := by rw [<- db_sb, ew, eu, ad_sb, tv_sb hm.1]
 obtain ⟨x1, x2⟩ := x_db (sbV v' u') (sbV w' u')
 obtain ⟨y1, y2⟩ := cross_tv hm.1 m.f (sbV v u) (sbV w u)
 rw [e1, e2] at x1 x2
 rw [(or_ok hu hv hw).2, (or_ok hu' hv' hw').2]
 cases h : m.f with
 | false =>
  rw [h] at x1 x2 y1 y2
  simp only [cond_false] at y1 y2 ⊢
  rw [show xA (sbV v' u') (sbV w' u') = xA (sbV v u) (sbV w u) by omega, show xB (sbV v' u') (sbV w' u') = xB (sbV v u) (sbV w u) by omega]
 | true =>
  rw [h] at x1 x2 y1 y2
  simp only [cond_true] at y1 y2 ⊢
  rw [<- sgZ_minus, show xA (sbV v' u') (sbV w' u') = -xA (sbV v u) (sbV w u) by omega, show xB (sbV v' u') (sbV w' u') = -xB (sbV v u) (sbV w u) by omega]
theorem all_rot {n k : Nat} (hk : k < n) {P : Nat -> Prop} : (∀ j, j < n -> P ((j + k) % n)) ↔ ∀ j, j < n -> P j := by
 constructor
 ·intro h j hj
  have := h ((j + (n - k)) % n) (Nat.mod_lt _ (by omega))
  rwa [Nat.mod_add_mod, show j + (n - k) + k = j + n by omega, Nat.add_mod_right, Nat.mod_eq_of_lt hj] at this
 ·intro h j hj
  exact h _ (Nat.mod_lt _ (by omega))
theorem rev_next {n i : Nat} (hi : i < n) : n - 1 - ((i + 1) % n) < n /\ (n - 1 - ((i + 1) % n) + 1) % n = n - 1 - i := by
 by_cases h : i + 1 < n
 ·rw [Nat.mod_eq_of_lt h]
  refine ⟨by omega, ?_⟩
  rw [show n - 1 - (i + 1) + 1 = n - 1 - i by omega, Nat.mod_eq_of_lt (by omega)]
 ·rw [show i + 1 = n by omega, Nat.mod_self]
  refine ⟨by omega, ?_⟩
  rw [show n - 1 - 0 + 1 = n by omega, Nat.mod_self]
  omega
theorem all_rev {n : Nat} {P : Nat -> Prop} : (∀ i, i < n -> P (n - 1 - ((i + 1) % n))) ↔ ∀ j, j < n -> P j := by
 constructor
 ·intro h j hj
  have h1 := rev_next hj
  have := h (n - 1 - ((j + 1) % n)) h1.1
  rw [h1.2] at this
  rwa [show n - 1 - (n - 1 - j) = j by omega] at this
 ·intro h i hi
  exact h _ (rev_next hi).1
def mpK (m : M8) (n : Nat) (c : NNI) : Nat := cond m.f (lcF (revC n (cqD n (mwD m n c))) 0 n 0) (lcF (cqD n (mwD m n c)) 0 n 0)
def mpJ (m : M8) (n : Nat) (c : NNI) (j : Nat) : Nat := flI m.f n ((j + mpK m n c) % n)
theorem mpK_lt (m : M8) {n : Nat} (c : NNI) (h : 0 < n) : mpK m n c < n := by
 unfold mpK
 cases m.f <;> simp only [cond_true, cond_false] <;> exact lc_lt _ _ _ _ _ (by omega) (by omega)
structure Mp (m : M8) (n : Nat) (c : NNI) : Prop where
 mv : m.valid = true
 v : vpS n c = true
 n3 : 3 <= n
 p : ∀ i, i < n -> valP (pAt c i) = true
 q : ∀ i, i < n -> valP (mwR m (pAt c i)) = true
 at' : ∀ j, j < n -> pAt (mpI m n c) j = mwR m (pAt c (mpJ m n c j))
 jl : ∀ j, j < n -> mpJ m n c j < n
 w : vpS n (mpI m n c) = true
theorem mp_all {m : M8} {n : Nat} {c : NNI} (h : mpO m n c = true) : Mp m n c := by
 obtain ⟨_, hn1, hn2⟩ := mp_norm h
 have h' := h
 unfold mpO mpV at h'
 simp only [Bool.and_eq_true] at h'
 obtain ⟨⟨hm, hv⟩, hq⟩ := h'
 obtain ⟨⟨h3, _⟩, hp, _, _⟩ := vp_iff.1 hv
 obtain ⟨e1, e2, _⟩ := (mw_all hm hp).e hq
 have hk := mpK_lt m c (n := n) (by omega)
 have hj : ∀ j, j < n -> mpJ m n c j < n := fun j hj => flI_lt (Nat.mod_lt _ (by omega))
 have ha : ∀ j, j < n -> pAt (mpI m n c) j = mwR m (pAt c (mpJ m n c j)) := fun j hj => by
  have hlt : (j + mpK m n c) % n < n := Nat.mod_lt _ (by omega)
  unfold mpI mpJ
  rw [h, cond_true]
  unfold mpK at hlt hk ⊢
  cases hf : m.f with
  | false =>
   rw [hf] at hlt hk
   simp only [cond_false] at hlt hk ⊢
   unfold nmR
   rw [rot_pAt _ hk hj, e2 _ hlt]
   rfl
  | true =>
   rw [hf] at hlt hk
   simp only [cond_true] at hlt hk ⊢
   unfold nmR
   rw [rot_pAt _ hk hj, rev_pAt _ hlt, e2 _ (by omega)]
   rfl
 refine ⟨hm, hv, h3, hp, e1, ha, hj, ?_⟩
 unfold mpI
 rw [h, cond_true]
 cases hf : m.f with
 | false => rw [cond_false, hn1, hf]; rfl
 | true => rw [cond_true]; exact hn2 hf
theorem ins_move {m : M8} {n : Nat} {c : NNI} {q : P2} (h : mpO m n c = true) (hq : valP q = true) (hq' : valP (mwR m q) = true) : insV n (mpI m n c) (mwR m q) = insV n c q := by
 have H := mp_all h
 have h3 := H.n3
 have hk := mpK_lt m c (n := n) (by omega)
 have key : ∀ z : Int, z <= 1 -> (z <= insV n (mpI m n c) (mwR m q) ↔ z <= insV n c q) := by
  intro z hz
  refine (insV_le hz).trans (Iff.trans ?_ (insV_le hz).symm)
  cases hf : m.f with
  | false =>
   have this : ∀ j, j < n -> orV (pAt (mpI m n c) j) (pAt (mpI m n c) ((j + 1) % n)) (mwR m q) = orV (pAt c ((j + mpK m n c) % n)) (pAt c (((j + mpK m n c) % n + 1) % n)) q := fun j hj => by
    have h1 : (j + 1) % n < n := Nat.mod_lt _ (by omega)
    have e1 : mpJ m n c j = (j + mpK m n c) % n := by unfold mpJ; rw [hf]; rfl
    have e2 : mpJ m n c ((j + 1) % n) = ((j + mpK m n c) % n + 1) % n := by unfold mpJ; rw [hf, mod_add_one]; rfl
    rw [H.at' j hj, H.at' _ h1, or_move H.mv (H.p _ (H.jl j hj)) (H.p _ (H.jl _ h1)) hq (H.q _ (H.jl j hj)) (H.q _ (H.jl _ h1)) hq', hf, cond_false, e1, e2]
   refine Iff.trans ?_ (all_rot (P := fun j => z <= orV (pAt c j) (pAt c ((j + 1) % n)) q) hk)
   exact ⟨fun g j hj => by have := this j hj ▸ g j hj; exact this, fun g j hj => by rw [this j hj]; exact g j hj⟩
  | true =>
   have this : ∀ j, j < n -> orV (pAt (mpI m n c) j) (pAt (mpI m n c) ((j + 1) % n)) (mwR m q) = orV (pAt c (n - 1 - (((j + mpK m n c) % n + 1) % n))) (pAt c ((n - 1 - (((j + mpK m n c) % n + 1) % n) + 1) % n)) q := fun j hj => by
    have h1 : (j + 1) % n < n := Nat.mod_lt _ (by omega)
    have hi : (j + mpK m n c) % n < n := Nat.mod_lt _ (by omega)
    obtain ⟨r1, r2⟩ := rev_next hi
    have e1 : mpJ m n c j = n - 1 - (j + mpK m n c) % n := by unfold mpJ; rw [hf]; rfl
    have e2 : mpJ m n c ((j + 1) % n) = n - 1 - (((j + mpK m n c) % n + 1) % n) := by unfold mpJ; rw [hf, mod_add_one]; rfl
    rw [H.at' j hj, H.at' _ h1, or_move H.mv (H.p _ (H.jl j hj)) (H.p _ (H.jl _ h1)) hq (H.q _ (H.jl j hj)) (H.q _ (H.jl _ h1)) hq', hf, cond_true, r2, e1, e2]
    exact (or_swap (H.p _ (by omega)) (H.p _ r1) hq).symm
   refine Iff.trans ?_ ((all_rot (P := fun j => z <= orV (pAt c (n - 1 - ((j + 1) % n))) (pAt c ((n - 1 - ((j + 1) % n) + 1) % n)) q) hk).trans (all_rev (P := fun j => z <= orV (pAt c j) (pAt c ((j + 1) % n)) q)))
   exact ⟨fun g j hj => by have := this j hj ▸ g j hj; exact this, fun g j hj => by rw [this j hj]; exact g j hj⟩
 have b1 := insV_bd n (mpI m n c) (mwR m q)
 have b2 := insV_bd n c q
 exact Int.le_antisymm ((key _ b1.2).1 (Int.le_refl _)) ((key _ b2.2).2 (Int.le_refl _))
theorem mp_back {m : M8} {n : Nat} {c : NNI} (h : mpO m n c = true) (hi : ivO m = true) : mpO (ivM m) n (mpI m n c) = true /\ ∀ i, i < n -> pAt (mpI (ivM m) n (mpI m n c)) i = pAt c i := by
 have H := mp_all h
 have h3 := H.n3
 have cv := cvx_valid H.v
 have iv : ∀ p, valP p = true -> valP (mwR m p) = true -> (ivM m).valid = true /\ valP (mwR (ivM m) (mwR m p)) = true /\ mwR (ivM m) (mwR m p) = p := fun p hp hp' => by
  obtain ⟨l1, l2, l3, _⟩ := mw_low H.mv hp
  obtain ⟨v1, _, v3, v4⟩ := mot_inv H.mv hp (by rw [l2]; exact hp') hi
  have hv : (ivM m).valid = true := by
   unfold cmO at v1
   simp only [Bool.and_eq_true] at v1
   unfold M8.valid
   rw [Bool.and_eq_true]
   exact v1.1.2
  rw [l3 hp'] at v3 v4
  obtain ⟨_, k2, k3, _⟩ := mw_low hv hp'
  rw [k2] at v3
  rw [k3 v3] at v4
  exact ⟨hv, v3, v4⟩
 have hv : (ivM m).valid = true := (iv _ (H.p 0 (by omega)) (H.q 0 (by omega))).1
 have hf : (ivM m).f = m.f := by unfold ivM; rw [hi]; rfl
 have hb : ∀ j, j < n -> valP (mwR (ivM m) (pAt (mpI m n c) j)) = true /\ mwR (ivM m) (pAt (mpI m n c) j) = pAt c (mpJ m n c j) := fun j hj => by
  rw [H.at' j hj]
  exact (iv _ (H.p _ (H.jl j hj)) (H.q _ (H.jl j hj))).2
 have hw : ∀ j, j < n -> valP (pAt (mpI m n c) j) = true := fun j hj => vp_val H.w hj
 have hq : cqB n (mwD (ivM m) n (mpI m n c)) = true := by
  rw [<- mw_cqB, allF_iff]
  intro j _ hj
  have hj : j < n := by omega
  rw [(mw_low hv (hw j hj)).1]
  exact (hb j hj).1
 have ho : mpO (ivM m) n (mpI m n c) = true := by
  unfold mpO mpV
  rw [hv, H.w, hq]
  rfl
 refine ⟨ho, ?_⟩
 have H2 := mp_all ho
 have hk := mpK_lt m c (n := n) (by omega)
 obtain ⟨_, e2, _⟩ := (mw_all hv hw).e hq
 have eD : ∀ j, j < n -> pAt (cqD n (mwD (ivM m) n (mpI m n c))) j = pAt c (mpJ m n c j) := fun j hj => by rw [e2 j hj, (hb j hj).2]
 have fin : ∀ d, Rot n d c -> ∀ i, i < n -> pAt (nmR n d) i = pAt c i := fun d hr i hi' => by rw [nm_rot cv hr hi', nm_valid H.v hi']
 intro i hi'
 have em : ∀ d, mpI (ivM m) n d = cond (mpO (ivM m) n d) (cond (ivM m).f (nmR n (revC n (cqD n (mwD (ivM m) n d)))) (nmR n (cqD n (mwD (ivM m) n d)))) zeroC := fun _ => rfl
 rw [em, ho, cond_true, hf]
 cases hm : m.f with
 | false =>
  rw [cond_false]
  refine fin _ ⟨mpK m n c, hk, fun j hj => ?_⟩ i hi'
  show pAt (cqD n (mwD (ivM m) n (mpI m n c))) j = _
  rw [eD j hj]
  unfold mpJ
  rw [hm]
  rfl
 | true =>
  rw [cond_true]
  refine fin _ ⟨(n - mpK m n c) % n, Nat.mod_lt _ (by omega), fun j hj => ?_⟩ i hi'
  show pAt (revC n (cqD n (mwD (ivM m) n (mpI m n c)))) j = _
  rw [rev_pAt _ hj, eD _ (by omega)]
  unfold mpJ
  rw [hm]
  simp only [flI, cond_true]
  congr 1
  rw [Nat.add_mod_mod]
  have hlt : (n - 1 - j + mpK m n c) % n < n := Nat.mod_lt _ (by omega)
  by_cases g : n - 1 - j + mpK m n c < n
  ·rw [Nat.mod_eq_of_lt g, show j + (n - mpK m n c) = (j - mpK m n c) + n by omega, Nat.add_mod_right, Nat.mod_eq_of_lt (by omega)]
   omega
  ·rw [Nat.mod_eq_sub_mod (by omega), Nat.mod_eq_of_lt (show n - 1 - j + mpK m n c - n < n by omega), Nat.mod_eq_of_lt (show j + (n - mpK m n c) < n by omega)]
   omega
end Go.Ev
/- The reference's test of points is the program's. -/
namespace Go.Ev
open Go.RowKit
theorem or_cr {n : Nat} {c : NNI} {q : P2} {P : V4} {F : Nat -> V4} {R : Nat -> Int} (hv : vpS n c = true) (hq : valP q = true) (hP : Pt q P) (h1 : Cvx n F R) (h2 : ∀ i, i < n -> Pt (pAt c i) (F i)) {i : Nat} (hi : i < n) :
  orV (pAt c i) (pAt c ((i + 1) % n)) q = sgZ (crA (R i % 16) (sbV P (F i))) (crB (R i % 16) (sbV P (F i))) := by
 have hv' := (vp_iff.1 hv).2.1
 obtain ⟨p0, hp0⟩ := valP_pv hq
 have eP : P = sc 8 p0 := hP.uniq (pt_valid hq hp0)
 have hj := Nat.mod_lt (i + 1) h1.n0
 obtain ⟨a, ha⟩ := valP_pv (hv' i hi)
 obtain ⟨b, hb⟩ := valP_pv (hv' _ hj)
 obtain ⟨o1, o2⟩ := or_ok ha hb hp0
 have ea : F i = sc 8 a := (h2 i hi).uniq (pt_valid (hv' i hi) ha)
 have eb : F (i + 1) = sc 8 b := by rw [<- h1.mod]; exact (h2 _ hj).uniq (pt_valid (hv' _ hj) hb)
 have d := h1.dir i
 have x := cross_dir (v := sbV P (F i)) (dir16 (R i)) d
 rw [o2, <- x, ea, eb, eP, sb_sc8, sb_sc8]
 have e1 : xA (sc 8 (sbV b a)) (sc 8 (sbV p0 a)) = 64 * xA (sbV b a) (sbV p0 a) + 2 * 0 * xB (sbV b a) (sbV p0 a) := by unfold xA sc; simp only; grind
 have e2 : xB (sc 8 (sbV b a)) (sc 8 (sbV p0 a)) = 64 * xB (sbV b a) (sbV p0 a) + 0 * xA (sbV b a) (sbV p0 a) := by unfold xB sc; simp only; grind
 rw [e1, e2, sgZ_mul, show sgZ 64 0 = 1 by decide, Int.one_mul]
structure InSide (n : Nat) (c : NNI) (q : P2) (i : Nat) : Prop where
 k : pkP q (pAt c i) = true
 d : (inB (wr (dirA n c i + 4)) 0 19 && pkD (vecP (wr (dirA n c i + 4) % 16)) (subP q (pAt c i))) = true
 s : (sW (dotF (vecP (wr (dirA n c i + 4) % 16)) (subP q (pAt c i))).a && sW (dotF (vecP (wr (dirA n c i + 4) % 16)) (subP q (pAt c i))).b) = true
 e : sgF (dotF (vecP (wr (dirA n c i + 4) % 16)) (subP q (pAt c i))) = orV (pAt c i) (pAt c ((i + 1) % n)) q
theorem in_side {n : Nat} {c : NNI} {q : P2} (hv : vpS n c = true) (hq : valP q = true) {i : Nat} (hi : i < n) : InSide n c q i := by
 obtain ⟨P, hP⟩ := val_pt hq
 obtain ⟨F, R, O, h1, h2, _⟩ := cvx_valid hv
 have hj := Nat.mod_lt (i + 1) h1.n0
 have hR := dir16 (R i)
 have hb := inB_iff.1 hR
 have hd : dirA n c i = R i % 16 := (h2 i hi).dir (h2 _ hj) hR (by rw [h1.mod]; exact h1.dir i)
 have hD : inB ((R i % 16 + 4) % 16) 0 15 = true := inB_iff.2 (by omega)
 obtain ⟨w1, w2⟩ := (h2 i hi).way hP
 obtain ⟨_, k2, k3, _, k5, _⟩ := way_okN hD w1
 obtain ⟨p1, p2⟩ := perp16 hR (sbV P (F i))
 have hw : wr (R i % 16 + 4) = R i % 16 + 4 := wr_in (by omega) (by omega)
 refine ⟨w2, ?_, ?_, ?_⟩
 ·rw [hd, hw, k2, show inB (R i % 16 + 4) 0 19 = true from inB_iff.2 (by omega)]
  rfl
 ·rw [hd, hw]
  exact k3
 ·rw [hd, hw, k5, p1, p2, or_cr hv hq hP h1 h2 hi]
theorem insF_congr {n : Nat} {c d : NNI} {q : P2} (h : ∀ i, i < n -> pAt c i = pAt d i) : ∀ (r i : Nat) (x : Int), i + r <= n -> insF n c q i r x = insF n d q i r x
 | 0, _, _, _ => rfl
 | r + 1, i, x, hr => by
  unfold insF
  rw [h i (by omega), h _ (Nat.mod_lt _ (by omega)), insF_congr h r (i + 1) _ (by omega)]
theorem insV_congr {n : Nat} {c d : NNI} {q : P2} (h : ∀ i, i < n -> pAt c i = pAt d i) : insV n c q = insV n d q := insF_congr h n 0 1 (by omega)
theorem fl_eq (q : Bool) (n : Nat) : (q && Nat.blt 0 n) = Nat.blt 0 (cond q n 0) := by cases q <;> rfl
end Go.Ev
