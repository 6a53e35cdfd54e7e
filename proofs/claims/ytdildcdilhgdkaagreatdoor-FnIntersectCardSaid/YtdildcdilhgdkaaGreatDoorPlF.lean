/- Points in polygons, and what cutting leaves, in plain Lean. -/
import Derived.Test.YtdildcdilhgdkaaGreatDoorPlE
set_option linter.unusedVariables false
set_option linter.unusedSimpArgs false
/- The program's test of points; the parts of a polygon are polygons and do not overlap. -/
namespace Go.Ev
def orV (a b c : P2) : Int := sgF (crsF (subP b a) (subP c a))
theorem par3 (x1 x2 y1 y2 a b c d p q r s : Int) :
    (x1 * x1 + 2 * x2 * x2 + (y1 * y1 + 2 * y2 * y2)) * (a * r + 2 * b * s - (c * p + 2 * d * q)) + 2 * (x1 * x2 + x2 * x1 + (y1 * y2 + y2 * y1)) * (a * s + b * r - (c * q + d * p)) =
      (x1 * a + 2 * x2 * b + (y1 * c + 2 * y2 * d)) * (x1 * r + 2 * x2 * s - (y1 * p + 2 * y2 * q)) + 2 * (x1 * b + x2 * a + (y1 * d + y2 * c)) * (x1 * s + x2 * r - (y1 * q + y2 * p)) -
      ((x1 * c + 2 * x2 * d - (y1 * a + 2 * y2 * b)) * (x1 * p + 2 * x2 * q + (y1 * r + 2 * y2 * s)) + 2 * (x1 * d + x2 * c - (y1 * b + y2 * a)) * (x1 * q + x2 * p + (y1 * s + y2 * r))) := by grind
theorem par4 (x1 x2 y1 y2 a b c d p q r s : Int) :
    (x1 * x1 + 2 * x2 * x2 + (y1 * y1 + 2 * y2 * y2)) * (a * s + b * r - (c * q + d * p)) + (x1 * x2 + x2 * x1 + (y1 * y2 + y2 * y1)) * (a * r + 2 * b * s - (c * p + 2 * d * q)) =
      (x1 * a + 2 * x2 * b + (y1 * c + 2 * y2 * d)) * (x1 * s + x2 * r - (y1 * q + y2 * p)) + (x1 * b + x2 * a + (y1 * d + y2 * c)) * (x1 * r + 2 * x2 * s - (y1 * p + 2 * y2 * q)) -
      ((x1 * c + 2 * x2 * d - (y1 * a + 2 * y2 * b)) * (x1 * q + x2 * p + (y1 * s + y2 * r)) + (x1 * d + x2 * c - (y1 * b + y2 * a)) * (x1 * p + 2 * x2 * q + (y1 * r + 2 * y2 * s))) := by grind
def xA (w v : V4) : Int := w.a * v.c + 2 * w.b * v.d - (w.c * v.a + 2 * w.d * v.b)
def xB (w v : V4) : Int := w.a * v.d + w.b * v.c - (w.c * v.b + w.d * v.a)
theorem cross_dir {D : Int} {w v : V4} (hD : inB D 0 15 = true) (h : isDir D w) : sgZ (xA w v) (xB w v) = sgZ (crA D v) (crB D v) := by
  obtain ⟨h1, h2, h3⟩ := h
  have n1 : sgD D (vecV D) = 1 := by simpa using List.all_eq_true.1 len_all D (in_dirs16 hD)
  have k1 := par3 (vC1 D) (vE1 D) (vC2 D) (vE2 D) w.a w.b w.c w.d v.a v.b v.c v.d
  have k2 := par4 (vC1 D) (vE1 D) (vC2 D) (vE2 D) w.a w.b w.c w.d v.a v.b v.c v.d
  have c1 : vC1 D * w.c + 2 * vE1 D * w.d - (vC2 D * w.a + 2 * vE2 D * w.b) = 0 := h1
  have c2 : vC1 D * w.d + vE1 D * w.c - (vC2 D * w.b + vE2 D * w.a) = 0 := h2
  rw [c1, c2] at k1 k2
  simp only [Int.mul_zero, Int.zero_mul, Int.add_zero, Int.sub_zero] at k1 k2
  have g1 : dtA D (vecV D) * xA w v + 2 * dtB D (vecV D) * xB w v = dtA D w * crA D v + 2 * dtB D w * crB D v := k1
  have g2 : dtA D (vecV D) * xB w v + dtB D (vecV D) * xA w v = dtA D w * crB D v + dtB D w * crA D v := k2
  have m1 := sgZ_mul (dtA D (vecV D)) (dtB D (vecV D)) (xA w v) (xB w v)
  have m2 := sgZ_mul (dtA D w) (dtB D w) (crA D v) (crB D v)
  rw [g1, g2, m2] at m1
  have s1 : sgZ (dtA D w) (dtB D w) = 1 := by have := sgZ_bd (dtA D w) (dtB D w); omega
  have s2 : sgZ (dtA D (vecV D)) (dtB D (vecV D)) = 1 := n1
  rw [s1, s2, Int.one_mul, Int.one_mul] at m1
  exact m1.symm
def orB (a b c : P2) : Bool := pkP b a && (pkP c a && (pkC (subP b a) (subP c a) && (sW (crsF (subP b a) (subP c a)).a && sW (crsF (subP b a) (subP c a)).b)))
theorem mulN {x y : Int} (h : x.natAbs <= 268435456) (g : y.natAbs <= 268435456) : (x * y).natAbs <= 72057594037927936 := by
  have := abs_mul_le h g
  exact Nat.le_trans this (by decide)
theorem nat2 {x : Int} {M : Nat} (h : x.natAbs <= M) : (2 * x).natAbs <= 2 * M := by omega
theorem crs4 {p q : P2} {a b c d e f g h : Int} (x1 : VB 10 p.x a b 268435456) (y1 : VB 10 p.y c d 268435456) (x2 : VB 10 q.x e f 268435456) (y2 : VB 10 q.y g h 268435456) :
    pkC p q = true /\ VB 20 (crsF p q) (a * g + 2 * (b * h) - (c * e + 2 * (d * f))) (a * h + b * g - (c * f + d * e)) 576460752303423488 := by
  have b1 := mulN x1.a y2.a
  have b2 := mulN x1.b y2.b
  have b3 := mulN x1.a y2.b
  have b4 := mulN x1.b y2.a
  have b5 := mulN y1.a x2.a
  have b6 := mulN y1.b x2.b
  have b7 := mulN y1.a x2.b
  have b8 := mulN y1.b x2.a
  have q1 := (pk_val x1.v y2.v (by decide) (by decide)).2
  have q2 := (pk_val y1.v x2.v (by decide) (by decide)).2
  have e1 : 2 * b * h = 2 * (b * h) := Int.mul_assoc 2 b h
  have e2 : 2 * d * f = 2 * (d * f) := Int.mul_assoc 2 d f
  have m1 : (a * g + 2 * b * h).natAbs < 9223372036854775808 -> (a * h + b * g).natAbs < 9223372036854775808 -> _ := fun h1 h2 => (x1.v.mul y2.v (by decide) h1 h2).1
  have m2 : (c * e + 2 * d * f).natAbs < 9223372036854775808 -> (c * f + d * e).natAbs < 9223372036854775808 -> _ := fun h1 h2 => (y1.v.mul x2.v (by decide) h1 h2).1
  rw [e1] at m1
  rw [e2] at m2
  have c1 := abs_add_le b1 (nat2 b2)
  have c2 := abs_add_le b3 b4
  have c3 := abs_add_le b5 (nat2 b6)
  have c4 := abs_add_le b7 b8
  have m1 := m1 (Nat.lt_of_le_of_lt c1 (by decide)) (Nat.lt_of_le_of_lt c2 (by decide))
  have m2 := m2 (Nat.lt_of_le_of_lt c3 (by decide)) (Nat.lt_of_le_of_lt c4 (by decide))
  have s := (m1.sub m2 (by decide) (Nat.lt_of_le_of_lt (abs_sub_le c1 c3) (by decide)) (Nat.lt_of_le_of_lt (abs_sub_le c2 c4) (by decide)) (Nat.lt_of_le_of_lt c3 (by decide)) (Nat.lt_of_le_of_lt c4 (by decide))).1
  have q3 := (pk_val m1 m2 (by decide) (by decide)).1
  refine ⟨?_, s, Nat.le_trans (abs_sub_le c1 c3) (by decide), Nat.le_trans (abs_sub_le c2 c4) (by decide)⟩
  unfold pkC
  rw [q1, q2]
  exact q3
theorem or_ok {a b c : P2} {u v w : V4} (ha : PV 10 a u 134217728) (hb : PV 10 b v 134217728) (hc : PV 10 c w 134217728) : orB a b c = true /\ orV a b c = sgZ (xA (sbV v u) (sbV w u)) (xB (sbV v u) (sbV w u)) := by
  obtain ⟨x1, _⟩ := hb.x.sub ha.x (by decide) (by decide)
  obtain ⟨y1, _⟩ := hb.y.sub ha.y (by decide) (by decide)
  obtain ⟨x2, _⟩ := hc.x.sub ha.x (by decide) (by decide)
  obtain ⟨y2, _⟩ := hc.y.sub ha.y (by decide) (by decide)
  have p1 : pkP b a = true := by unfold pkP; rw [hb.x.pk ha.x (by decide), hb.y.pk ha.y (by decide)]; rfl
  have p2 : pkP c a = true := by unfold pkP; rw [hc.x.pk ha.x (by decide), hc.y.pk ha.y (by decide)]; rfl
  obtain ⟨k1, k2⟩ := crs4 (p := subP b a) (q := subP c a) x1 y1 x2 y2
  obtain ⟨d1, d2⟩ := k2.v.bd
  have s1 : sW (crsF (subP b a) (subP c a)).a = true := sW_abs (Nat.le_trans d1 k2.a) (by decide)
  have s2 : sW (crsF (subP b a) (subP c a)).b = true := sW_abs (Nat.le_trans d2 k2.b) (by decide)
  have ex : xA (sbV v u) (sbV w u) = (v.a - u.a) * (w.c - u.c) + 2 * ((v.b - u.b) * (w.d - u.d)) - ((v.c - u.c) * (w.a - u.a) + 2 * ((v.d - u.d) * (w.b - u.b))) := by
    rw [<- Int.mul_assoc 2, <- Int.mul_assoc 2]
    rfl
  have ey : xB (sbV v u) (sbV w u) = (v.a - u.a) * (w.d - u.d) + (v.b - u.b) * (w.c - u.c) - ((v.c - u.c) * (w.b - u.b) + (v.d - u.d) * (w.a - u.a)) := rfl
  refine ⟨?_, ?_⟩
  . unfold orB
    rw [p1, p2, k1, s1, s2]
    rfl
  . rw [ex, ey]
    exact k2.v.sg
def insF (n : Nat) (c : NNI) (q : P2) : Nat -> Nat -> Int -> Int
  | _, 0, x => x
  | i, r + 1, x => insF n c q (i + 1) r (min x (orV (pAt c i) (pAt c ((i + 1) % n)) q))
def insV (n : Nat) (c : NNI) (q : P2) : Int := insF n c q 0 n 1
theorem orV_bd (a b c : P2) : -1 <= orV a b c /\ orV a b c <= 1 := sgZ_bd _ _
theorem insF_le (n : Nat) (c : NNI) (q : P2) : ∀ r i x z, z <= insF n c q i r x ↔ z <= x /\ ∀ j, i <= j -> j < i + r -> z <= orV (pAt c j) (pAt c ((j + 1) % n)) q := by
  intro r
  induction r with
  | zero => intro i x z; exact ⟨fun h => ⟨h, fun j h1 h2 => by omega⟩, fun h => h.1⟩
  | succ r ih =>
    intro i x z
    simp only [insF]
    rw [ih]
    constructor
    . rintro ⟨h1, h2⟩
      refine ⟨by omega, fun j g1 g2 => ?_⟩
      by_cases e : j = i
      . subst e; omega
      . exact h2 j (by omega) (by omega)
    . rintro ⟨h1, h2⟩
      have := h2 i (Nat.le_refl _) (by omega)
      exact ⟨by omega, fun j g1 g2 => h2 j (by omega) (by omega)⟩
theorem insV_le {n : Nat} {c : NNI} {q : P2} {z : Int} (hz : z <= 1) : z <= insV n c q ↔ ∀ j, j < n -> z <= orV (pAt c j) (pAt c ((j + 1) % n)) q := by
  unfold insV
  rw [insF_le]
  exact ⟨fun h j hj => h.2 j (Nat.zero_le _) (by omega), fun h => ⟨hz, fun j _ hj => h j (by omega)⟩⟩
theorem insV_bd (n : Nat) (c : NNI) (q : P2) : -1 <= insV n c q /\ insV n c q <= 1 := by
  refine ⟨(insV_le (by decide)).2 fun j _ => (orV_bd _ _ _).1, ?_⟩
  have := ((insF_le n c q n 0 1 (insV n c q)).1 (Int.le_refl _)).1
  exact this
theorem ins_val {n : Nat} {c : NNI} {q : P2} {P : V4} (hv : vpS n c = true) (hq : valP q = true) (hP : Pt q P) : (0 <= insV n c q ↔ InsN n (pAt c) P) /\ (insV n c q = 1 ↔ IntN n (pAt c) P) /\ ∀ i, i < n -> orB (pAt c i) (pAt c ((i + 1) % n)) q = true := by
  obtain ⟨⟨h3, h16⟩, hv', _, _⟩ := vp_iff.1 hv
  obtain ⟨F, R, O, h1, h2, _⟩ := cvx_valid hv
  have n0 := h1.n0
  obtain ⟨p0, hp0⟩ := valP_pv hq
  have eP : P = sc 8 p0 := hP.uniq (pt_valid hq hp0)
  have key : ∀ i, i < n -> orB (pAt c i) (pAt c ((i + 1) % n)) q = true /\ orV (pAt c i) (pAt c ((i + 1) % n)) q = sgZ (crA (R i % 16) (sbV P (F i))) (crB (R i % 16) (sbV P (F i))) := fun i hi => by
    have hj := Nat.mod_lt (i + 1) n0
    obtain ⟨a, ha⟩ := valP_pv (hv' i hi)
    obtain ⟨b, hb⟩ := valP_pv (hv' _ hj)
    obtain ⟨o1, o2⟩ := or_ok ha hb hp0
    have ea : F i = sc 8 a := (h2 i hi).uniq (pt_valid (hv' i hi) ha)
    have eb : F (i + 1) = sc 8 b := by rw [<- h1.mod]; exact (h2 _ hj).uniq (pt_valid (hv' _ hj) hb)
    refine ⟨o1, ?_⟩
    have d := h1.dir i
    have x := cross_dir (v := sbV P (F i)) (dir16 (R i)) d
    rw [o2, <- x, ea, eb, eP, sb_sc8, sb_sc8]
    -- both scaled by eight
    have e1 : xA (sc 8 (sbV b a)) (sc 8 (sbV p0 a)) = 64 * xA (sbV b a) (sbV p0 a) + 2 * 0 * xB (sbV b a) (sbV p0 a) := by unfold xA sc; simp only; grind
    have e2 : xB (sc 8 (sbV b a)) (sc 8 (sbV p0 a)) = 64 * xB (sbV b a) (sbV p0 a) + 0 * xA (sbV b a) (sbV p0 a) := by unfold xB sc; simp only; grind
    rw [e1, e2, sgZ_mul, show sgZ 64 0 = 1 by decide, Int.one_mul]
  refine ⟨?_, ?_, fun i hi => (key i hi).1⟩
  . rw [(insN_iff h1 h2 P).1, insV_le (by decide)]
    constructor
    . intro h i
      have hi := Nat.mod_lt i n0
      have := h _ hi
      rw [(key _ hi).2] at this
      have e : R (i % n) % 16 = R i % 16 := by
        have := h1.liftM (i % n) (i / n)
        rw [Nat.mod_add_div] at this
        omega
      rw [h1.mod, e] at this
      rcases posZ_or (a := crA (R i % 16) (sbV P (F i))) (b := crB (R i % 16) (sbV P (F i))) with g | g | g
      . exact .inr g
      . have := sgZ_lt.2 g; omega
      . exact .inl g
    . intro h i hi
      rw [(key i hi).2]
      rcases h i with ⟨g1, g2⟩ | g
      . rw [g1, g2, sgZ_zero]; exact Int.le_refl _
      . have := sgZ_posZ.2 g; omega
  . rw [(insN_iff h1 h2 P).2]
    have hb := insV_bd n c q
    constructor
    . intro h i
      have hi := Nat.mod_lt i n0
      have := (insV_le (n := n) (c := c) (q := q) (z := 1) (by decide)).1 (by omega) _ hi
      rw [(key _ hi).2] at this
      have e : R (i % n) % 16 = R i % 16 := by
        have := h1.liftM (i % n) (i / n)
        rw [Nat.mod_add_div] at this
        omega
      rw [h1.mod, e] at this
      exact sgZ_posZ.1 (by omega)
    . intro h
      have : 1 <= insV n c q := (insV_le (by decide)).2 fun i hi => by
        rw [(key i hi).2]
        have := sgZ_posZ.2 (h i)
        omega
      omega
end Go.Ev
/- The parts that a line leaves of a valid polygon: polygons on their sides, with no common inside. -/
namespace Go.Ev
theorem Cvx.rmod {n : Nat} {F : Nat -> V4} {R : Nat -> Int} (h : Cvx n F R) (i : Nat) : R (i % n) % 16 = R i % 16 := by
  have := h.liftM (i % n) (i / n)
  rw [Nat.mod_add_div] at this
  omega
theorem cvx_cv {n : Nat} {c : NNI} (h : CvxP n (pAt c)) : CV n c /\ 3 <= n /\ n <= 16 := by
  obtain ⟨F, R, O, h1, h2, _⟩ := h
  have n0 := h1.n0
  have hd : ∀ i, i < n -> dirA n c i = R i % 16 := fun i hi => by
    have hj := Nat.mod_lt (i + 1) n0
    exact (h2 i hi).dir (by rw [<- h1.mod (i + 1)]; exact h2 _ hj) (dir16 _) (h1.dir i)
  have ht : ∀ i, i < n -> trn n c i = R (i + 1) - R i := fun i hi => by
    have hj := Nat.mod_lt (i + 1) n0
    have t := h1.turn i
    unfold trn
    rw [hd i hi, hd _ hj, h1.rmod]
    omega
  have hs : ∀ k, k <= n -> sumN (trn n c) k = R k - R 0 := by
    intro k
    induction k with
    | zero => intro _; simp [sumN]
    | succ k ih => intro hk; simp only [sumN]; rw [ih (by omega), ht k (by omega)]; omega
  have hl := h1.lift 0
  rw [Nat.zero_add] at hl
  have hm := h1.mono 0 n
  rw [Nat.zero_add] at hm
  refine ⟨⟨fun i hi => by rw [hd i hi]; exact dir16 _, fun i hi => by rw [ht i hi]; exact inB_iff.2 (h1.turn i), by rw [hs n (Nat.le_refl _)]; omega⟩, ?_, by omega⟩
  rcases (show n = 1 \/ n = 2 \/ 3 <= n by omega) with e | e | e
  . subst e
    have := h1.turn 0
    rw [Nat.zero_add] at this
    omega
  . subst e
    have a := h1.turn 0
    have b := h1.turn 1
    rw [Nat.zero_add] at a
    rw [show 1 + 1 = 2 by omega] at b
    omega
  . exact e
theorem cp_congr {n : Nat} {c d : NNI} (h : ∀ i, i < n -> pAt c i = pAt d i) (hv : vpS n d = true) : vpS n c = true := by
  obtain ⟨⟨h3, h16⟩, v, cv, l⟩ := vp_iff.1 hv
  have dA : ∀ i, i < n -> dirA n c i = dirA n d i := fun i hi => dirA_congr h hi
  have tr : ∀ i, i < n -> trn n c i = trn n d i := fun i hi => by unfold trn; rw [dA i hi, dA _ (Nat.mod_lt _ (by omega))]
  refine vp_iff.2 ⟨⟨h3, h16⟩, fun i hi => by rw [h i hi]; exact v i hi, ⟨fun i hi => by rw [dA i hi]; exact cv.d i hi, fun i hi => by rw [tr i hi]; exact cv.t i hi, by rw [sumN_congr n tr]; exact cv.s⟩, fun j h0 hj => by rw [h j hj, h 0 (by omega)]; exact l j h0 hj⟩
theorem insN_congr {n : Nat} {p q : Nat -> P2} (h : CvxP n p) (e : ∀ i, i < n -> q i = p i) (P : V4) : (InsN n q P ↔ InsN n p P) /\ (IntN n q P ↔ IntN n p P) :=
  insN_shift h 0 (fun i hi => by rw [Nat.add_zero, Nat.mod_eq_of_lt hi]; exact e i hi) P
theorem corner_ins {n : Nat} {p : Nat -> P2} {F : Nat -> V4} {R : Nat -> Int} (h : Cvx n F R) (hp : ∀ i, i < n -> Pt (p i) (F i)) (i : Nat) : InsN n p (F i) := ⟨F, R, h, hp, h.corner i⟩
theorem side_of {l : Ln} {sd : Int} (hl : l.valid = true) (hs : sd = 1 \/ sd = -1) : ∃ A B, Side l sd A B := by
  unfold Ln.valid at hl
  rw [Bool.and_eq_true] at hl
  obtain ⟨A, B, h⟩ := valid_vb hl.2
  exact ⟨A, B, hl.1, h.more (by decide), valid_low hl.2, hs⟩
structure PartOk (l : Ln) (sd A B : Int) (n : Nat) (c : NNI) : Prop where
  v : vpS (cutN l sd n c) (cutI l sd n c) = true
  cv : CvxP (cutN l sd n c) (pAt (cutI l sd n c))
  r : ∀ P, (InsN (cutN l sd n c) (pAt (cutI l sd n c)) P ↔ InsN n (pAt c) P /\ (hpL l sd A B).nn P) /\ (IntN (cutN l sd n c) (pAt (cutI l sd n c)) P ↔ IntN n (pAt c) P /\ (hpL l sd A B).pos P)
  s : (∃ i, i < n /\ hfA l sd (pAt c i) < 0) -> ∃ k, k < cutN l sd n c /\ dirA (cutN l sd n c) (cutI l sd n c) k = (hpL l sd A B).E /\ hfA l sd (pAt (cutI l sd n c) k) = 0
theorem cut_part {l : Ln} {sd A B : Int} {n : Nat} {c : NNI} (sl : Side l sd A B) (ho : cutO l n c = true) (h0 : 0 < cutN l sd n c) : PartOk l sd A B n c := by
  have ho' := ho
  unfold cutO cutV cutK at ho'
  simp only [Bool.and_eq_true] at ho'
  obtain ⟨⟨hv, hl⟩, k1, k2⟩ := ho'
  have eN : cutN l sd n c = ptN l sd n c := by unfold cutN; rw [ho]; rfl
  have eI : cutI l sd n c = cqD (ptN l sd n c) (ptI l sd n c) := by unfold cutI; rw [ho]; rfl
  rw [eN] at h0
  have hh : (hfS l sd n c).has = true := by
    cases hh : (hfS l sd n c).has with
    | true => rfl
    | false => unfold ptN at h0; rw [hh] at h0; exact absurd h0 (Nat.lt_irrefl _)
  have em : ptN l sd n c = (hfS l sd n c).m := by unfold ptN; rw [hh]; rfl
  have eP : ptI l sd n c = nmR (hfS l sd n c).m (hfS l sd n c).d := by unfold ptI; rw [hh]; rfl
  have eS : ptS l sd n c = (hfS l sd n c).d := by unfold ptS; rw [hh]; rfl
  obtain ⟨m1, a1⟩ := hfS_list l sd n c
  obtain ⟨g1, g2, g3, g4⟩ := part_reg sl (cvx_valid hv) ((hfS_flag l sd n c).1 hh)
  rw [<- m1] at g1 g3 g4
  have m0 := g1.n0
  have cd : CvxP (hfS l sd n c).m (pAt (hfS l sd n c).d) := g1.congr fun i hi => a1 i hi
  have hq : cqB (hfS l sd n c).m (hfS l sd n c).d = true := by
    rcases sl.s with e | e
    . rw [e] at em eS ⊢; rw [<- em, <- eS]; exact k1
    . rw [e] at em eS ⊢; rw [<- em, <- eS]; exact k2
  have low : ∀ i, i < (hfS l sd n c).m -> redP (pAt (hfS l sd n c).d i) = pAt (hfS l sd n c).d i := fun i hi => by obtain ⟨_, _, _, _, hp, _⟩ := cd; exact (hp i hi).low
  have val : ∀ i, i < (hfS l sd n c).m -> valP (pAt (hfS l sd n c).d i) = true := fun i hi => by
    have := allF_iff.1 hq i (Nat.zero_le _) (by omega)
    rwa [low i hi] at this
  obtain ⟨cvv, c3, c16⟩ := cvx_cv cd
  have vp := vp_rot c3 c16 val cvv
  have hlc := lc_lt (hfS l sd n c).d (hfS l sd n c).m 0 0 (hfS l sd n c).m (by omega) m0
  have eq : ∀ i, i < (hfS l sd n c).m -> pAt (cutI l sd n c) i = pAt (nmR (hfS l sd n c).m (hfS l sd n c).d) i := fun i hi => by
    have hj := Nat.mod_lt (i + lcF (hfS l sd n c).d 0 (hfS l sd n c).m 0) m0
    rw [eI, em, cqD_at hi, eP]
    have e2 : pAt (nmR (hfS l sd n c).m (hfS l sd n c).d) i = pAt (hfS l sd n c).d ((i + lcF (hfS l sd n c).d 0 (hfS l sd n c).m 0) % (hfS l sd n c).m) := rot_pAt _ hlc hi
    rw [e2, low _ hj, val _ hj]
    rfl
  have eq2 : ∀ i, i < (hfS l sd n c).m -> pAt (cutI l sd n c) i = (outL l sd n (pAt c)).getD ((i + lcF (hfS l sd n c).d 0 (hfS l sd n c).m 0) % (hfS l sd n c).m) zP := fun i hi => by
    rw [eq i hi]
    have e2 : pAt (nmR (hfS l sd n c).m (hfS l sd n c).d) i = pAt (hfS l sd n c).d ((i + lcF (hfS l sd n c).d 0 (hfS l sd n c).m 0) % (hfS l sd n c).m) := rot_pAt _ hlc hi
    rw [e2, a1 _ (Nat.mod_lt _ m0)]
  have eNm : cutN l sd n c = (hfS l sd n c).m := eN.trans em
  rw [<- eNm] at eq eq2 vp g1 g3 g4
  refine ⟨cp_congr eq vp, g1.shift _ eq2, fun P => ?_, fun hneg => ?_⟩
  . have a := insN_shift g1 _ eq2 P
    exact ⟨a.1.trans (g3 P).1, a.2.trans (g3 P).2⟩
  . obtain ⟨k, h1, h2, h3⟩ := g4 hneg
    have hlc' : lcF (hfS l sd n c).d 0 (cutN l sd n c) 0 < cutN l sd n c := by rw [eNm]; exact hlc
    obtain ⟨r, hr, er⟩ := rot_surj hlc' h1
    have n0 : 0 < cutN l sd n c := by omega
    have hr1 := Nat.mod_lt (r + 1) n0
    refine ⟨r, hr, ?_, ?_⟩
    . unfold dirA
      rw [eq2 r hr, eq2 _ hr1, er, mod_add_one, er]
      exact h2
    . rw [eq2 r hr, er]; exact h3
end Go.Ev
namespace Go.Ev
end Go.Ev
/- The law of cutting a polygon, in plain Lean. -/
namespace Go.Ev
def ipV (n : Nat) (c : NNI) (q : P2) : Int := cond (!(vpS n c)) (-1) (cond (!(valP q)) (-1) (insV n c q))
def ovV (n : Nat) (a : NNI) (m : Nat) (b : NNI) : Bool := inV n a m b && decide (0 < (inD n a m b).1)
theorem vpS_zero (c : NNI) : vpS 0 c = false := rfl
theorem ipV_val {n : Nat} {c : NNI} {q : P2} (hv : vpS n c = true) (hq : valP q = true) : ipV n c q = insV n c q := by unfold ipV; rw [hv, hq]; rfl
theorem ipV_none {n : Nat} {c : NNI} {q : P2} (hv : vpS n c = false) : ipV n c q = -1 := by unfold ipV; rw [hv]; rfl
theorem val_pt {p : P2} (h : valP p = true) : ∃ P, Pt p P := by
  obtain ⟨v, hv⟩ := valP_pv h
  exact ⟨_, pt_valid h hv⟩
structure CutLaw (l : Ln) (n : Nat) (c : NNI) : Prop where
  some' : ¬ (cutN l 1 n c = 0 /\ cutN l (-1) n c = 0)
  va : 0 < cutN l 1 n c -> vpS (cutN l 1 n c) (cutI l 1 n c) = true
  vb : 0 < cutN l (-1) n c -> vpS (cutN l (-1) n c) (cutI l (-1) n c) = true
  ca : ∀ i, i < cutN l 1 n c -> 0 <= soV l (pAt (cutI l 1 n c) i) /\ 0 <= ipV n c (pAt (cutI l 1 n c) i)
  cb : ∀ i, i < cutN l (-1) n c -> soV l (pAt (cutI l (-1) n c) i) <= 0 /\ 0 <= ipV n c (pAt (cutI l (-1) n c) i)
  cc : ∀ i, i < n -> ¬ (ipV (cutN l 1 n c) (cutI l 1 n c) (pAt c i) < 0 /\ ipV (cutN l (-1) n c) (cutI l (-1) n c) (pAt c i) < 0)
  out : ∀ p, valP p = true -> ipV n c p < 0 -> ipV (cutN l 1 n c) (cutI l 1 n c) p < 0 /\ ipV (cutN l (-1) n c) (cutI l (-1) n c) p < 0
  inn : ∀ p, valP p = true -> 0 <= ipV n c p -> (soV l p <= 0 \/ ipV (cutN l 1 n c) (cutI l 1 n c) p = ipV n c p) /\ (0 <= soV l p \/ ipV (cutN l (-1) n c) (cutI l (-1) n c) p = ipV n c p)
  ov : ovV (cutN l 1 n c) (cutI l 1 n c) (cutN l (-1) n c) (cutI l (-1) n c) = false
theorem vp_val {n : Nat} {c : NNI} (h : vpS n c = true) {i : Nat} (hi : i < n) : valP (pAt c i) = true := (vp_iff.1 h).2.1 i hi
theorem corner_pt {n : Nat} {c : NNI} (h : vpS n c = true) {i : Nat} (hi : i < n) : ∃ P, Pt (pAt c i) P /\ InsN n (pAt c) P := by
  obtain ⟨F, R, O, h1, h2, _⟩ := cvx_valid h
  exact ⟨F i, h2 i hi, corner_ins h1 h2 i⟩
end Go.Ev
/- Drawn polygons: a square, cut by lines; what is drawn of two polygons and a line. -/
namespace Go.Ev
theorem eqP_iff {p q : P2} : eqP p q = true ↔ p = q := by
  constructor
  . intro h
    obtain ⟨⟨a1, a2, a3⟩, ⟨a4, a5, a6⟩⟩ := p
    obtain ⟨⟨b1, b2, b3⟩, ⟨b4, b5, b6⟩⟩ := q
    simp only [eqP, eq3] at h
    simp only [P2.mk.injEq, N3.mk.injEq]
    cases h1 : a1 == b1 <;> cases h2 : a2 == b2 <;> cases h3 : a3 == b3 <;> cases h4 : a4 == b4 <;> cases h5 : a5 == b5 <;> cases h6 : a6 == b6 <;> simp_all
  . rintro rfl; exact eqP_self p
theorem eqPS_at {n m : Nat} {c d : NNI} (h : eqPS n c m d = true) : n = m /\ ∀ i, i < n -> pAt c i = pAt d i := by
  unfold eqPS at h
  rw [Bool.and_eq_true] at h
  refine ⟨of_decide_eq_true h.1, fun i hi => eqP_iff.1 (allF_iff.1 h.2 i (Nat.zero_le _) (by omega))⟩
structure Pg where
  n : Nat
  c : NNI
def Pg.av (g : Pg) : AV := .arr g.n [.int .i64, .int .i64, .int .i64, .int .i64, .int .i64, .int .i64] g.c
def Pg.ok (g : Pg) : Bool := vpS g.n g.c
def sqC (n : Int) : NNI := fun i j => (([[0, 0, 0, 0, 0, 0], [n, 0, 0, 0, 0, 0], [n, 0, 0, n, 0, 0], [0, 0, 0, n, 0, 0]] : List (List Int)).getD i []).getD j 0
theorem sq_valid {n : Int} (h : n = 1 \/ n = 2 \/ n = 4 \/ n = 8) : vpS 4 (sqC n) = true := by rcases h with rfl | rfl | rfl | rfl <;> decide +kernel
def lQ : List Int := [2, 4, 4, 8, 1]
theorem lQ_in {s : Src} : vpS 4 (sqC (lQ.getD (pickV 5 s).1.toNat 0)) = true := by
  have := pick_in (s := s) (m := 5) (by decide)
  refine sq_valid ?_
  rcases (show (pickV 5 s).1 = 0 \/ (pickV 5 s).1 = 1 \/ (pickV 5 s).1 = 2 \/ (pickV 5 s).1 = 3 \/ (pickV 5 s).1 = 4 by omega) with e | e | e | e | e <;> rw [e] <;> simp [lQ]
theorem cutT_valid {l : Ln} {sd : Int} {n : Nat} {c : NNI} (hs : sd = 1 \/ sd = -1) (ho : cutO l n c = true) (h0 : 0 < cutN l sd n c) : vpS (cutN l sd n c) (cutT l sd n c) = true := by
  have ho' := ho
  unfold cutO cutV at ho'
  simp only [Bool.and_eq_true] at ho'
  obtain ⟨A, B, sl⟩ := side_of ho'.1.2 hs
  obtain ⟨_, e⟩ := eqPS_at (cut_same (l := l) (n := n) (c := c) hs).2
  exact cp_congr (fun i hi => (e i hi).symm) (cut_part sl ho h0).v
theorem laL_valid {p : P2} {d : Int} (h : laO p d = true) : (laL p d).valid = true := by
  unfold laL Ln.valid
  rw [h]
  unfold laO at h
  simp only [Bool.and_eq_true] at h
  show (inB d 0 7 && validB (offV d p)) = true
  rw [h.1.2, h.2]
  rfl
theorem ite_min (x y : Int) : (if y < x then y else x) = min x y := by
  by_cases h : y < x
  . rw [if_pos h]; omega
  . rw [if_neg h]; omega
@[reducible] def eS (s : Src) : Src := ⟨s.n, s.c, s.p, s.z⟩
def fromL (P : Program) (GL : Nat -> AV) (Γ : List (Nat × Ctr)) (k : Nat) (cfg : Cfg) (args : List AV) (fn : Func) (i n id : Nat) (s : List AV) : Option AV :=
  spotAt (spots P GL Γ fn.ntmps (vOf fn args) k (cfg.at (vOf fn args)) (loopW P GL Γ k cfg args fn i).1 fun e s' => match e with
    | .norm => runW P GL Γ k cfg args fn i n (forget fn.ntmps (vOf fn args) cfg.keep s')
    | .exit j => (loopW P GL Γ k cfg args fn i).2 (.exit j) s'
    | .ret => (loopW P GL Γ k cfg args fn i).2 .ret s') id s
section
variable (Rn : Nat -> (NNI) -> Src -> Option AV)
def pdN (L : Ln) (sd : Int) (m : Nat) (c : NNI) : Nat := cond (cqB (ptN L sd m c) (ptS L sd m c)) (ptN L sd m c) 0
def pdC (L : Ln) (sd : Int) (m : Nat) (c : NNI) : NNI := cond (cqB (ptN L sd m c) (ptS L sd m c) && Nat.blt 0 (ptN L sd m c)) (ctD (ptN L sd m c) (ptS L sd m c)) zeroC
def pdL (L : Ln) (m : Nat) (c : NNI) (s : Src) : Option AV := cond (decide (((pdN L (-1) m c : Nat) : Int) > 0)) (Rn (pdN L (-1) m c) (pdC L (-1) m c) s) (Rn m c s)
def pdT (L : Ln) (m : Nat) (c : NNI) (s : Src) : Option AV := cond (cutV L m c) (cond (!(cqB (ptN L 1 m c) (ptS L 1 m c) && cqB (ptN L (-1) m c) (ptS L (-1) m c))) (Rn m c s)
  (cond (decide (((pdN L 1 m c : Nat) : Int) > 0)) (cond (pB 2 s.p) (cond ((pickV 2 s).1 == 0) (Rn (pdN L 1 m c) (pdC L 1 m c) (pickV 2 s).2) (pdL Rn L m c (pickV 2 s).2)) none) (pdL Rn L m c s))) none
def pdF (m : Nat) (c : NNI) (s : Src) : Option AV := cond (pB 20 s.p) (cond (pB 2 (lineV s).2.p) (cond ((pickV 2 (lineV s).2).1 == 0)
  (cond (pB 2 (pickV 2 (lineV s).2).2.p) (cond (decide (0 <= (pickV (m : Int) (pickV 2 (lineV s).2).2).1) && decide ((pickV (m : Int) (pickV 2 (lineV s).2).2).1 < (m : Int))) (cond (pB 2 (pickV (m : Int) (pickV 2 (lineV s).2).2).2.p)
    (cond (laO (pAt c (pickV (m : Int) (pickV 2 (lineV s).2).2).1.toNat) (pickV 8 (pickV (m : Int) (pickV 2 (lineV s).2).2).2).1)
      (pdT Rn (laL (pAt c (pickV (m : Int) (pickV 2 (lineV s).2).2).1.toNat) (pickV 8 (pickV (m : Int) (pickV 2 (lineV s).2).2).2).1) m c (pickV 8 (pickV (m : Int) (pickV 2 (lineV s).2).2).2).2)
      (pdT Rn (lineV s).1 m c (pickV 8 (pickV (m : Int) (pickV 2 (lineV s).2).2).2).2)) none) none) none)
  (pdT Rn (lineV s).1 m c (pickV 2 (lineV s).2).2)) none) none
variable {Rn}
theorem pd_valid {L : Ln} {sd : Int} {m : Nat} {c : NNI} (hs : sd = 1 \/ sd = -1) (hv : cutV L m c = true) (hk : (cqB (ptN L 1 m c) (ptS L 1 m c) && cqB (ptN L (-1) m c) (ptS L (-1) m c)) = true) (h0 : 0 < pdN L sd m c) : vpS (pdN L sd m c) (pdC L sd m c) = true := by
  have ho : cutO L m c = true := by unfold cutO cutK; rw [hv, hk]; rfl
  have hq : cqB (ptN L sd m c) (ptS L sd m c) = true := by
    rw [Bool.and_eq_true] at hk
    rcases hs with e | e
    . rw [e]; exact hk.1
    . rw [e]; exact hk.2
  have eN : pdN L sd m c = cutN L sd m c := by unfold pdN cutN; rw [hq, ho]
  have eC : pdC L sd m c = cutT L sd m c := by unfold pdC cutT; rw [hq, ho]
  rw [eN] at h0 ⊢
  rw [eC]
  exact cutT_valid hs ho h0
theorem pdT_ok {P : Option AV -> Prop} {L : Ln} {m : Nat} {c : NNI} {s : Src} (hv : vpS m c = true) (hL : L.valid = true) (hp : pB 2 s.p = true) (hR : ∀ m' c' s', vpS m' c' = true -> 0 <= s'.p -> s'.p <= s.p + 2 -> P (Rn m' c' s')) : P (pdT Rn L m c s) := by
  have hp' := pB_iff.1 hp
  have hV : cutV L m c = true := by unfold cutV; rw [hv, hL]; rfl
  have last : ∀ s' : Src, 0 <= s'.p -> s'.p <= s.p + 2 -> (cqB (ptN L 1 m c) (ptS L 1 m c) && cqB (ptN L (-1) m c) (ptS L (-1) m c)) = true -> P (pdL Rn L m c s') := fun s' q1 q2 hk => by
    unfold pdL
    by_cases z : 0 < pdN L (-1) m c
    . rw [show decide (((pdN L (-1) m c : Nat) : Int) > 0) = true from decide_eq_true (by omega)]
      exact hR _ _ _ (pd_valid (.inr rfl) hV hk z) q1 q2
    . rw [show decide (((pdN L (-1) m c : Nat) : Int) > 0) = false from decide_eq_false (by omega)]
      exact hR _ _ _ hv q1 q2
  unfold pdT
  rw [hV, cond_true]
  cases hk : (cqB (ptN L 1 m c) (ptS L 1 m c) && cqB (ptN L (-1) m c) (ptS L (-1) m c)) with
  | false => exact hR _ _ _ hv (by omega) (by omega)
  | true =>
    simp only [Bool.not_true, cond_false]
    by_cases z : 0 < pdN L 1 m c
    . rw [show decide (((pdN L 1 m c : Nat) : Int) > 0) = true from decide_eq_true (by omega), hp]
      have h1 := pick_on 2 hp (by decide)
      simp only [cond_true]
      cases (pickV 2 s).1 == 0 with
      | true => exact hR _ _ _ (pd_valid (.inl rfl) hV hk z) h1.1 h1.2
      | false => exact last _ h1.1 h1.2 hk
    . rw [show decide (((pdN L 1 m c : Nat) : Int) > 0) = false from decide_eq_false (by omega)]
      exact last _ (by omega) (by omega) hk
theorem pdF_ok {P : Option AV -> Prop} {m : Nat} {c : NNI} {s : Src} (hv : vpS m c = true) (hp : pB 28 s.p = true) (hR : ∀ m' c' s', vpS m' c' = true -> 0 <= s'.p -> s'.p <= s.p + 28 -> P (Rn m' c' s')) : P (pdF Rn m c s) := by
  have hp' := pB_iff.1 hp
  obtain ⟨⟨h3, h16⟩, hval, _⟩ := vp_iff.1 hv
  obtain ⟨_, vl, h1⟩ := line_on hp (by decide)
  have p1 := pB_on hp h1 (by decide)
  have h2 := pick_on 2 p1 (by decide)
  have p2 := pB_on p1 h2 (by decide)
  have h3' := pick_on (m : Int) p2 (by decide)
  have p3 := pB_on p2 h3' (by decide)
  have h4 := pick_on 8 p3 (by decide)
  have p4 := pB_on p3 h4 (by decide)
  have hi := pick_in (s := (pickV 2 (lineV s).2).2) (m := (m : Int)) (by omega)
  unfold pdF
  rw [pB_less hp (show (20 : Int) <= 28 by decide), pB_less p1 (show (2 : Int) <= 28 - 20 by decide), pB_less p2 (show (2 : Int) <= 28 - 20 - 2 by decide), pB_less p3 (show (2 : Int) <= 28 - 20 - 2 - 2 by decide),
    decide_eq_true hi.1, decide_eq_true hi.2]
  simp only [cond_true, Bool.and_self]
  cases (pickV 2 (lineV s).2).1 == 0 with
  | false => exact pdT_ok (P := P) hv vl (pB_less p2 (by decide)) fun m' c' s' v q1 q2 => hR m' c' s' v q1 (by omega)
  | true =>
    simp only [cond_true]
    cases ho : laO (pAt c (pickV (m : Int) (pickV 2 (lineV s).2).2).1.toNat) (pickV 8 (pickV (m : Int) (pickV 2 (lineV s).2).2).2).1 with
    | false => exact pdT_ok (P := P) hv vl p4 fun m' c' s' v q1 q2 => hR m' c' s' v q1 (by omega)
    | true => exact pdT_ok (P := P) hv (laL_valid ho) p4 fun m' c' s' v q1 q2 => hR m' c' s' v q1 (by omega)
end
def mvdG (c : NNI) (x y : N3) (i : Nat) : List Int :=
  let u := sel (validB (pAt c i).x && validB x) (chk (addF (pAt c i).x x))
  let w := sel (validB (pAt c i).y && validB y) (chk (addF (pAt c i).y y))
  [u.a, u.b, u.k, w.a, w.b, w.k]
end Go.Ev
/- A convex polygon is told by its region. -/
namespace Go.Ev
section
variable {n : Nat} {F : Nat -> V4} {R : Nat -> Int}
theorem Cvx.inc (h : Cvx n F R) {a b : Nat} (hab : a <= b) : R a <= R b := by have := h.le hab; omega
theorem Cvx.gap (h : Cvx n F R) {i j : Nat} {x : Int} (h1 : R i < x) (h2 : x < R (i + 1)) : R j % 16 ≠ x % 16 := by
  intro e
  obtain ⟨w, hw⟩ : ∃ w : Int, R j = x + 16 * w := ⟨(R j - x) / 16, by omega⟩
  rcases Int.le_total 0 w with g | g
  . have l1 := h.liftM i w.toNat
    have l2 := h.liftM (i + 1) w.toNat
    rw [show i + 1 + n * w.toNat = i + n * w.toNat + 1 by omega] at l2
    rcases Nat.lt_or_ge (i + n * w.toNat) j with q | q
    . have := h.inc (show i + n * w.toNat + 1 <= j from q); omega
    . have := h.inc q; omega
  . have l1 := h.liftM j (-w).toNat
    rcases Nat.lt_or_ge i (j + n * (-w).toNat) with q | q
    . have := h.inc (show i + 1 <= j + n * (-w).toNat from q); omega
    . have := h.inc q; omega
theorem dt_zero (e : Int) : dtA e ⟨0, 0, 0, 0⟩ = 0 /\ dtB e ⟨0, 0, 0, 0⟩ = 0 := by unfold dtA dtB; simp
theorem no_dir {e : Int} (h : isDir e ⟨0, 0, 0, 0⟩) : False := by
  obtain ⟨_, _, h⟩ := h
  have : sgZ (dtA e ⟨0, 0, 0, 0⟩) (dtB e ⟨0, 0, 0, 0⟩) > 0 := h
  rw [(dt_zero e).1, (dt_zero e).2, sgZ_zero] at this
  omega
theorem two_zero {A B : Int} {v : V4} (hA : inB A 0 15 = true) (hB : inB B 0 15 = true) (h : inB ((B - A) % 16) 1 7 = true) (a1 : crA A v = 0) (a2 : crB A v = 0) (b1 : crA B v = 0) (b2 : crB B v = 0) : v = ⟨0, 0, 0, 0⟩ := by
  have h' := inB_iff.1 h
  rcases cr_zero_dt hA a1 a2 with g | g | g
  . have := rel_right hB hA g (inB_iff.2 (by omega))
    exact absurd ⟨by omega, by omega⟩ (posZ_ne this)
  . have := rel_left hB (dir16 _) g (inB_iff.2 (by omega))
    exact absurd ⟨b1, b2⟩ (posZ_ne this)
  . exact g
theorem between_zero {A B D : Int} {v : V4} (hA : inB A 0 15 = true) (hB : inB B 0 15 = true) (hD : inB D 0 15 = true) (h1 : inB ((D - A) % 16) 1 7 = true) (h2 : inB ((B - D) % 16) 1 7 = true) (h3 : inB ((B - A) % 16) 1 7 = true)
    (p : nnZ (crA A v) (crB A v)) (q : nnZ (crA B v) (crB B v)) (z1 : crA D v = 0) (z2 : crB D v = 0) : v = ⟨0, 0, 0, 0⟩ := by
  have k := plucker (vC1 A) (vE1 A) (vC2 A) (vE2 A) (vC1 B) (vE1 B) (vC2 B) (vE2 B) (vC1 D) (vE1 D) (vC2 D) (vE2 D) v.a v.b v.c v.d
  have db : posZ (crA D (vecV B)) (crB D (vecV B)) := rel_left hD hB (isDir_vec hB) h2
  have ad : posZ (crA A (vecV D)) (crB A (vecV D)) := rel_left hA hD (isDir_vec hD) h1
  have e1 : crA A (vecV B) * crA D v + 2 * crB A (vecV B) * crB D v = crA D (vecV B) * crA A v + 2 * crB D (vecV B) * crB A v + (crA A (vecV D) * crA B v + 2 * crB A (vecV D) * crB B v) := k.1
  have e2 : crA A (vecV B) * crB D v + crB A (vecV B) * crA D v = crA D (vecV B) * crB A v + crB D (vecV B) * crA A v + (crA A (vecV D) * crB B v + crB A (vecV D) * crA B v) := k.2
  rw [z1, z2, Int.mul_zero, Int.mul_zero, Int.add_zero] at e1
  rw [z1, z2, Int.mul_zero, Int.mul_zero, Int.add_zero] at e2
  rcases p with ⟨a1, a2⟩ | p
  . rcases q with ⟨b1, b2⟩ | q
    . exact two_zero hA hB h3 a1 a2 b1 b2
    . exfalso
      have s := pos_nn ((posZ_mul ad).1.1 q) (nnZ_mul (.inr db) (.inl ⟨a1, a2⟩ : nnZ (crA A v) (crB A v)))
      rw [Int.add_comm, <- e1] at s
      rw [Int.add_comm (crA A (vecV D) * crB B v + crB A (vecV D) * crA B v), <- e2] at s
      exact posZ_ne s ⟨rfl, rfl⟩
  . exfalso
    have s := pos_nn ((posZ_mul db).1.1 p) (nnZ_mul (.inr ad) q)
    rw [<- e1, <- e2] at s
    exact posZ_ne s ⟨rfl, rfl⟩
theorem sb_zero {u v : V4} (h : sbV u v = ⟨0, 0, 0, 0⟩) : u = v := by
  obtain ⟨a, b, c, d⟩ := u
  obtain ⟨e, f, g, i⟩ := v
  unfold sbV at h
  simp only [V4.mk.injEq] at h ⊢
  omega
theorem Cvx.tip (h : Cvx n F R) {D : Int} (hD : inB D 0 15 = true) : (∃ k, R k % 16 = D) \/ ∃ k, ∀ P, Ins F R P -> nnZ (crA D (sbV P (F k))) (crB D (sbV P (F k))) /\ (crA D (sbV P (F k)) = 0 -> crB D (sbV P (F k)) = 0 -> P = F k) := by
  have hD' := inB_iff.1 hD
  obtain ⟨k, z, hk, nm⟩ := h.normal (D - 8)
  have l1 := nm.lo
  have l2 := nm.hi
  simp only [Nat.zero_add] at l1 l2
  have n0 := h.n0
  have t := h.turn (n - 1 + k)
  have e : n - 1 + k + 1 = k + n := by omega
  rw [e, h.lift k] at t
  by_cases c : R k - 16 * z = D
  . exact .inl ⟨k, by omega⟩
  . right
    have hF : F k = F (n - 1 + k + 1) := by rw [e, h.per]
    refine ⟨k, fun P g => ?_⟩
    have on1 : crA (R (n - 1 + k) % 16) (sbV P (F k)) = crA (R (n - 1 + k) % 16) (sbV P (F (n - 1 + k))) /\ crB (R (n - 1 + k) % 16) (sbV P (F k)) = crB (R (n - 1 + k) % 16) (sbV P (F (n - 1 + k))) := by
      have d := h.dir (n - 1 + k)
      have d1 := d.1
      have d2 := d.2.1
      rw [<- hF] at d1 d2
      rw [(cr_sb _ _ _).1] at d1
      rw [(cr_sb _ _ _).2] at d2
      simp only [(cr_sb _ _ _).1, (cr_sb _ _ _).2]
      omega
    have a := g (n - 1 + k)
    rw [<- on1.1, <- on1.2] at a
    have b := g k
    have h1 : inB ((D - R (n - 1 + k) % 16) % 16) 1 7 = true := inB_iff.2 (by omega)
    have h2 : inB ((R k % 16 - D) % 16) 1 7 = true := inB_iff.2 (by omega)
    have h3 : inB ((R k % 16 - R (n - 1 + k) % 16) % 16) 1 7 = true := inB_iff.2 (by omega)
    exact ⟨(between (dir16 _) (dir16 _) hD (inB_iff.2 (by have := inB_iff.1 h1; have := inB_iff.1 h2; have := inB_iff.1 h3; omega)) h2 h3).1 a b, fun z1 z2 => sb_zero (between_zero (dir16 _) (dir16 _) hD h1 h2 h3 a b z1 z2)⟩
theorem nn_both {a b : Int} (h : nnZ a b) (g : nnZ (-a) (-b)) : a = 0 /\ b = 0 := by
  rcases h with h | h
  . exact h
  . rcases g with ⟨g1, g2⟩ | g
    . omega
    . exact (posZ_no h g).elim
theorem cr_both {e : Int} {u v : V4} (h : nnZ (crA e (sbV u v)) (crB e (sbV u v))) (g : nnZ (crA e (sbV v u)) (crB e (sbV v u))) : crA e u = crA e v /\ crB e u = crB e v := by
  rw [(cr_sb _ _ _).1, (cr_sb _ _ _).2] at h g
  have := nn_both h (by rwa [show -(crA e u - crA e v) = crA e v - crA e u by omega, show -(crB e u - crB e v) = crB e v - crB e u by omega])
  omega
section
variable {m : Nat} {G : Nat -> V4} {S : Nat -> Int}
theorem reg_dir (h : Cvx n F R) (g : Cvx m G S) (e : ∀ P, Ins F R P ↔ Ins G S P) (i : Nat) : ∃ k, S k % 16 = R i % 16 := by
  rcases g.tip (dir16 (R i)) with q | ⟨k, hk⟩
  . exact q
  . exfalso
    obtain ⟨a1, a2⟩ := hk _ ((e _).1 (h.corner i))
    obtain ⟨b1, b2⟩ := hk _ ((e _).1 (h.corner (i + 1)))
    have d := ((e _).2 (g.corner k)) i
    have z := cr_both a1 d
    have eF : F i = G k := a2 (by rw [(cr_sb _ _ _).1]; omega) (by rw [(cr_sb _ _ _).2]; omega)
    have d2 := h.dir i
    have k1 := d2.1
    have k2 := d2.2.1
    rw [(cr_sb _ _ _).1] at k1
    rw [(cr_sb _ _ _).2] at k2
    have eG : F (i + 1) = G k := b2 (by rw [(cr_sb _ _ _).1]; omega) (by rw [(cr_sb _ _ _).2]; omega)
    rw [eF, eG] at d2
    refine no_dir (e := R i % 16) ?_
    have : sbV (G k) (G k) = ⟨0, 0, 0, 0⟩ := by unfold sbV; simp
    rwa [this] at d2
theorem reg_sup (h : Cvx n F R) (g : Cvx m G S) (e : ∀ P, Ins F R P ↔ Ins G S P) {i k : Nat} (hk : S k % 16 = R i % 16) : crA (R i % 16) (F i) = crA (R i % 16) (G k) /\ crB (R i % 16) (F i) = crB (R i % 16) (G k) := by
  have a := ((e _).1 (h.corner i)) k
  rw [hk] at a
  exact cr_both a (((e _).2 (g.corner k)) i)
theorem reg_turn (h : Cvx n F R) (g : Cvx m G S) (e : ∀ P, Ins F R P ↔ Ins G S P) {i k : Nat} (hk : S k % 16 = R i % 16) : S (k + 1) - S k = R (i + 1) - R i := by
  have t1 := h.turn i
  have t2 := g.turn k
  rcases Int.lt_trichotomy (S (k + 1) - S k) (R (i + 1) - R i) with c | c | c
  . obtain ⟨j, hj⟩ := reg_dir g h (fun P => (e P).symm) (k + 1)
    exact absurd (by omega) (h.gap (i := i) (j := j) (x := R i + (S (k + 1) - S k)) (by omega) (by omega))
  . exact c
  . obtain ⟨j, hj⟩ := reg_dir h g e (i + 1)
    exact absurd (by omega) (g.gap (i := k) (j := j) (x := S k + (R (i + 1) - R i)) (by omega) (by omega))
theorem reg_all (h : Cvx n F R) (g : Cvx m G S) (e : ∀ P, Ins F R P ↔ Ins G S P) : ∃ k, ∀ t, S (k + t) - S k = R t - R 0 /\ S (k + t) % 16 = R t % 16 := by
  obtain ⟨k, hk⟩ := reg_dir h g e 0
  refine ⟨k, fun t => ?_⟩
  induction t with
  | zero => exact ⟨by rw [Nat.add_zero]; omega, by rw [Nat.add_zero]; exact hk⟩
  | succ t ih =>
    have := reg_turn h g e ih.2
    rw [show k + (t + 1) = k + t + 1 by omega]
    omega
theorem reg_same (h : Cvx n F R) (g : Cvx m G S) (e : ∀ P, Ins F R P ↔ Ins G S P) : n = m /\ ∃ k, ∀ t, F t = G (k + t) := by
  obtain ⟨k, hk⟩ := reg_all h g e
  have n0 := h.n0
  have en : n = m := by
    have a := (hk n).1
    have l1 := h.lift 0
    have l2 := g.lift k
    rw [Nat.zero_add] at l1
    rcases Nat.lt_trichotomy n m with c | c | c
    . have := g.le (show k + n <= k + m by omega); omega
    . exact c
    . have := g.le (show k + m <= k + n by omega); omega
  have step : ∀ t, F (t + 1) = G (k + (t + 1)) := fun t => by
    have a := reg_sup h g e (hk t).2
    have b := reg_sup h g e (hk (t + 1)).2
    have d := h.dir t
    have q := g.dir (k + t)
    rw [(hk t).2] at q
    have d1 := d.1
    have d2 := d.2.1
    have q1 := q.1
    have q2 := q.2.1
    rw [(cr_sb _ _ _).1] at d1 q1
    rw [(cr_sb _ _ _).2] at d2 q2
    rw [show k + t + 1 = k + (t + 1) by omega] at q1 q2
    have tt := h.turn t
    refine sb_zero (two_zero (dir16 (R t)) (dir16 (R (t + 1))) (inB_iff.2 (by omega)) ?_ ?_ ?_ ?_)
    . rw [(cr_sb _ _ _).1]; omega
    . rw [(cr_sb _ _ _).2]; omega
    . rw [(cr_sb _ _ _).1]; omega
    . rw [(cr_sb _ _ _).2]; omega
  refine ⟨en, k, fun t => ?_⟩
  cases t with
  | succ t => exact step t
  | zero =>
    have a := step (n - 1)
    rw [show n - 1 + 1 = n by omega] at a
    have p1 := h.per 0
    rw [Nat.zero_add] at p1
    rw [Nat.add_zero, <- p1, a, en, g.per]
end
end
theorem rot_of_reg {n m : Nat} {c d : NNI} (hc : CvxP n (pAt c)) (hd : CvxP m (pAt d)) (e : ∀ P, InsN n (pAt c) P ↔ InsN m (pAt d) P) : n = m /\ Rot n c d := by
  obtain ⟨F, R, O, h1, h2, _⟩ := hc
  obtain ⟨G, S, O', g1, g2, _⟩ := hd
  obtain ⟨en, k, hk⟩ := reg_same h1 g1 fun P => ((insN_iff h1 h2 P).1.symm.trans (e P)).trans (insN_iff g1 g2 P).1
  subst en
  have n0 := h1.n0
  refine ⟨rfl, k % n, Nat.mod_lt _ n0, fun i hi => ?_⟩
  have hj := Nat.mod_lt (i + k % n) n0
  have : F i = G ((i + k % n) % n) := by
    rw [hk i, <- g1.mod (k + i), Nat.add_mod_mod, Nat.add_comm]
  exact (h2 i hi).same (by rw [this]; exact g2 _ hj)
end Go.Ev
/- The region of the intersection of two polygons; it does not depend on the order. -/
namespace Go.Ev
theorem side_cr {m : Nat} {b : NNI} {G : Nat -> V4} {S : Nat -> Int} (g1 : Cvx m G S) (g2 : ∀ i, i < m -> Pt (pAt b i) (G i)) {j : Nat} (hj : j < m) {A B : Int} (sl : Side (bLn m b j) (bSd m b j) A B) (P : V4) :
    ((hpL (bLn m b j) (bSd m b j) A B).nn P ↔ nnZ (crA (S j % 16) (sbV P (G j))) (crB (S j % 16) (sbV P (G j)))) /\ ((hpL (bLn m b j) (bSd m b j) A B).pos P ↔ posZ (crA (S j % 16) (sbV P (G j))) (crB (S j % 16) (sbV P (G j)))) := by
  have n0 := g1.n0
  have hjj := Nat.mod_lt (j + 1) n0
  have hD : dirA m b j = S j % 16 := (g2 j hj).dir (by rw [<- g1.mod (j + 1)]; exact g2 _ hjj) (dir16 _) (g1.dir j)
  have hE : (hpL (bLn m b j) (bSd m b j) A B).E = S j % 16 := by
    unfold hpL bLn bSd
    rw [hD]
    by_cases c : S j % 16 < 8
    . rw [decide_eq_true c, cond_true, if_pos rfl]; simp only; omega
    . rw [decide_eq_false c, cond_false, if_neg (by decide)]; simp only; omega
  obtain ⟨f1, f2⟩ := sl.f (G j)
  obtain ⟨k1, _, _⟩ := off_valN sl.d (g2 j hj)
  have k2 : VB 13 (offV (bLn m b j).d (pAt b j)) (8 * A) (8 * B) 8589934592 := off13 sl.o
  obtain ⟨z1, z2⟩ := val13 k1.v k2.v
  rw [z1, Int.sub_self, Int.mul_zero] at f1
  rw [z2, Int.sub_self, Int.mul_zero] at f2
  obtain ⟨a1, a2⟩ := Hp.add (hpL (bLn m b j) (bSd m b j) A B) sl.E.1 P (G j)
  rw [f1, Int.zero_add] at a1
  rw [f2, Int.zero_add] at a2
  unfold Hp.nn Hp.pos
  rw [a1, a2, hE]
  exact ⟨Iff.rfl, Iff.rfl⟩
theorem part_gone {l : Ln} {sd A B : Int} {n : Nat} {d : NNI} (sl : Side l sd A B) (cv : CvxP n (pAt d)) (h0 : ptN l sd n d = 0) {P : V4} (hP : InsN n (pAt d) P) : ¬ (hpL l sd A B).pos P := by
  obtain ⟨F, R, O, h1, h2, h3⟩ := cv
  have hh : (hfS l sd n d).has = false := by
    cases hh : (hfS l sd n d).has with
    | false => rfl
    | true =>
      have := hf_has (l := l) (sd := sd) (n := n) (c := d) n 0 ⟨0, zeroC, false, false⟩ (fun h => by cases h) hh
      have em : ptN l sd n d = (hfS l sd n d).m := by unfold ptN; rw [hh]; rfl
      have e2 : 1 <= (hfS l sd n d).m := this
      omega
  refine h1.below sl.E.1 (fun i g => ?_) P ((insN_iff h1 h2 P).1.1 hP)
  have hi := Nat.mod_lt i h1.n0
  have : (hfS l sd n d).has = true := (hfS_flag l sd n d).2 ⟨i % n, hi, (sl.pos (h2 _ hi)).2 (by rw [h1.mod]; exact g)⟩
  rw [hh] at this
  cases this
theorem part_left {l : Ln} {sd A B : Int} {n : Nat} {d : NNI} (sl : Side l sd A B) (cv : CvxP n (pAt d)) (h0 : 0 < ptN l sd n d) :
    CvxP (ptN l sd n d) (pAt (ptI l sd n d)) /\ ∀ P, (InsN (ptN l sd n d) (pAt (ptI l sd n d)) P ↔ InsN n (pAt d) P /\ (hpL l sd A B).nn P) /\ (IntN (ptN l sd n d) (pAt (ptI l sd n d)) P ↔ IntN n (pAt d) P /\ (hpL l sd A B).pos P) := by
  have hh : (hfS l sd n d).has = true := by
    cases hh : (hfS l sd n d).has with
    | true => rfl
    | false => exact absurd (show ptN l sd n d = 0 by unfold ptN; rw [hh]; rfl) (by omega)
  obtain ⟨_, _, _, _, k5⟩ := part_rot sl cv (Rot.refl cv.n0 d)
  obtain ⟨g1, g2⟩ := k5 h0
  obtain ⟨r1, _, r3, _⟩ := part_reg sl cv ((hfS_flag _ _ n d).1 hh)
  obtain ⟨m1, a1⟩ := hfS_list l sd n d
  have em : ptN l sd n d = (hfS l sd n d).m := by unfold ptN; rw [hh]; rfl
  have eS : ptS l sd n d = (hfS l sd n d).d := by unfold ptS; rw [hh]; rfl
  rw [<- m1] at r1 r3
  refine ⟨g1.of_rot g2, fun P => ?_⟩
  obtain ⟨k, hk, gk⟩ := g2
  have q := insN_shift g1 k gk P
  have q2 := insN_congr r1 (q := pAt (hfS l sd n d).d) (fun i hi => a1 i hi) P
  have s1 : InsN (ptN l sd n d) (pAt (ptS l sd n d)) P ↔ InsN (hfS l sd n d).m (pAt (hfS l sd n d).d) P := by rw [em, eS]
  have s2 : IntN (ptN l sd n d) (pAt (ptS l sd n d)) P ↔ IntN (hfS l sd n d).m (pAt (hfS l sd n d).d) P := by rw [em, eS]
  exact ⟨q.1.trans (s1.trans (q2.1.trans (r3 P).1)), q.2.trans (s2.trans (q2.2.trans (r3 P).2))⟩
def LeS (G : Nat -> V4) (S : Nat -> Int) (i : Nat) (P : V4) : Prop := nnZ (crA (S i % 16) (sbV P (G i))) (crB (S i % 16) (sbV P (G i)))
def LeP (G : Nat -> V4) (S : Nat -> Int) (i : Nat) (P : V4) : Prop := posZ (crA (S i % 16) (sbV P (G i))) (crB (S i % 16) (sbV P (G i)))
theorem cm_reg {m : Nat} {b : NNI} {G : Nat -> V4} {S : Nat -> Int} (hb : vpS m b = true) (g1 : Cvx m G S) (g2 : ∀ i, i < m -> Pt (pAt b i) (G i)) : ∀ r j n d, j + r = m -> CvxP n (pAt d) ->
    (0 < (cmI m b j r n d).1 -> CvxP (cmI m b j r n d).1 (pAt (cmI m b j r n d).2) /\ ∀ P, (InsN (cmI m b j r n d).1 (pAt (cmI m b j r n d).2) P ↔ InsN n (pAt d) P /\ ∀ i, j <= i -> i < m -> LeS G S i P) /\ (IntN (cmI m b j r n d).1 (pAt (cmI m b j r n d).2) P ↔ IntN n (pAt d) P /\ ∀ i, j <= i -> i < m -> LeP G S i P)) /\
    ((cmI m b j r n d).1 = 0 -> ∃ j', j <= j' /\ j' < m /\ ∀ P, InsN n (pAt d) P -> (∀ i, j <= i -> i < j' -> LeS G S i P) -> ¬ LeP G S j' P) := by
  intro r
  induction r with
  | zero =>
    intro j n d h1 cv
    simp only [cmI]
    have n0 := cv.n0
    have rr : Rot n (nmR n d) d := rot_of d (lc_lt d n 0 0 n (by omega) n0)
    refine ⟨fun _ => ⟨cv.of_rot rr, fun P => ?_⟩, fun h => absurd h (by omega)⟩
    obtain ⟨k, hk, e⟩ := rr
    obtain ⟨q1, q2⟩ := insN_shift cv k e P
    exact ⟨q1.trans ⟨fun h => ⟨h, fun i a b => by omega⟩, fun h => h.1⟩, q2.trans ⟨fun h => ⟨h, fun i a b => by omega⟩, fun h => h.1⟩⟩
  | succ r ih =>
    intro j n d h1 cv
    simp only [cmI]
    have hj : j < m := by omega
    obtain ⟨_, A, B, sl⟩ := side_valid hb hj
    have sc := side_cr g1 g2 hj sl
    by_cases e : ptN (bLn m b j) (bSd m b j) n d = 0
    . rw [e]
      refine ⟨fun h => absurd h (Nat.lt_irrefl 0), fun _ => ⟨j, Nat.le_refl _, hj, fun P hP _ hp => ?_⟩⟩
      exact part_gone sl cv e hP ((sc P).2.2 hp)
    . rw [show (((ptN (bLn m b j) (bSd m b j) n d : Nat) : Int) == 0) = false by simpa using e]
      simp only [cond_false]
      obtain ⟨p1, p2⟩ := part_left sl cv (show 0 < ptN (bLn m b j) (bSd m b j) n d by omega)
      obtain ⟨a, z⟩ := ih (j + 1) _ _ (by omega) p1
      refine ⟨fun h => ?_, fun h => ?_⟩
      . obtain ⟨a1, a2⟩ := a h
        refine ⟨a1, fun P => ⟨(a2 P).1.trans ?_, (a2 P).2.trans ?_⟩⟩
        . rw [(p2 P).1, (sc P).1]
          constructor
          . rintro ⟨⟨q1, q2⟩, q3⟩
            refine ⟨q1, fun i i1 i2 => ?_⟩
            by_cases ei : i = j
            . exact ei ▸ q2
            . exact q3 i (by omega) i2
          . rintro ⟨q1, q2⟩
            exact ⟨⟨q1, q2 j (Nat.le_refl _) hj⟩, fun i i1 i2 => q2 i (by omega) i2⟩
        . rw [(p2 P).2, (sc P).2]
          constructor
          . rintro ⟨⟨q1, q2⟩, q3⟩
            refine ⟨q1, fun i i1 i2 => ?_⟩
            by_cases ei : i = j
            . exact ei ▸ q2
            . exact q3 i (by omega) i2
          . rintro ⟨q1, q2⟩
            exact ⟨⟨q1, q2 j (Nat.le_refl _) hj⟩, fun i i1 i2 => q2 i (by omega) i2⟩
      . obtain ⟨j', j1, j2, j3⟩ := z h
        exact ⟨j', by omega, j2, fun P hP hl => j3 P ((p2 P).1.2 ⟨hP, (sc P).1.2 (hl j (Nat.le_refl _) (by omega))⟩) fun i i1 i2 => hl i (by omega) i2⟩
theorem IntN.ins {n : Nat} {p : Nat -> P2} {P : V4} (h : IntN n p P) : InsN n p P := by
  obtain ⟨F, R, x1, x2, x3⟩ := h
  exact ⟨F, R, x1, x2, x3.ins⟩
theorem in_reg {n m : Nat} {a b : NNI} (h : inV n a m b = true) :
    (0 < (inD n a m b).1 -> CvxP (inD n a m b).1 (pAt (inD n a m b).2) /\ ∀ P, (InsN (inD n a m b).1 (pAt (inD n a m b).2) P ↔ InsN n (pAt a) P /\ InsN m (pAt b) P) /\ (IntN (inD n a m b).1 (pAt (inD n a m b).2) P ↔ IntN n (pAt a) P /\ IntN m (pAt b) P)) /\
    ((inD n a m b).1 = 0 -> (∀ P, ¬ (IntN n (pAt a) P /\ IntN m (pAt b) P)) /\ ∀ k q, CvxP k q -> ¬ ∀ P, InsN k q P -> InsN n (pAt a) P /\ InsN m (pAt b) P) := by
  unfold inV at h
  rw [Bool.and_eq_true] at h
  obtain ⟨ha, hb⟩ := h
  obtain ⟨G, S, O, g1, g2, _⟩ := cvx_valid hb
  obtain ⟨c1, c2⟩ := cm_reg hb g1 g2 m 0 n a (by omega) (cvx_valid ha)
  have all : ∀ P, (InsN m (pAt b) P ↔ ∀ i, 0 <= i -> i < m -> LeS G S i P) /\ (IntN m (pAt b) P ↔ ∀ i, 0 <= i -> i < m -> LeP G S i P) := fun P => by
    have q := insN_iff g1 g2 P
    have e1 : ∀ i, LeS G S (i % m) P ↔ LeS G S i P := fun i => by unfold LeS; rw [g1.rmod, g1.mod]
    have e2 : ∀ i, LeP G S (i % m) P ↔ LeP G S i P := fun i => by unfold LeP; rw [g1.rmod, g1.mod]
    exact ⟨q.1.trans ⟨fun h i _ _ => h i, fun h i => (e1 i).1 (h (i % m) (Nat.zero_le _) (Nat.mod_lt _ g1.n0))⟩, q.2.trans ⟨fun h i _ _ => h i, fun h i => (e2 i).1 (h (i % m) (Nat.zero_le _) (Nat.mod_lt _ g1.n0))⟩⟩
  refine ⟨fun h => ?_, fun h => ?_⟩
  . obtain ⟨d1, d2⟩ := c1 h
    refine ⟨d1, fun P => ⟨?_, ?_⟩⟩
    . rw [(all P).1]; exact (d2 P).1
    . rw [(all P).2]; exact (d2 P).2
  . obtain ⟨j', _, j2, j3⟩ := c2 h
    refine ⟨fun P ⟨h1, h2⟩ => ?_, fun k q hq hall => ?_⟩
    . have h3 := (all P).2.1 h2
      exact j3 P h1.ins (fun i _ i2 => .inr (h3 i (Nat.zero_le _) (by omega))) (h3 j' (Nat.zero_le _) j2)
    . obtain ⟨F, R, O', f1, f2, _⟩ := hq
      have zero : ∀ i, crA (S j' % 16) (sbV (F i) (G j')) = 0 /\ crB (S j' % 16) (sbV (F i) (G j')) = 0 := fun i => by
        obtain ⟨x1, x2⟩ := hall _ (corner_ins f1 f2 i)
        have x3 := (all (F i)).1.1 x2
        rcases x3 j' (Nat.zero_le _) j2 with z | z
        . exact z
        . exact absurd z (j3 _ x1 fun i _ i2 => x3 i (Nat.zero_le _) (by omega))
      refine f1.bent (dir16 (S j')) fun i => ?_
      have a := zero (i + 1)
      have b := zero i
      rw [(cr_sb _ _ _).1, (cr_sb _ _ _).2] at a b
      rw [(cr_sb _ _ _).1, (cr_sb _ _ _).2]
      omega
theorem inV_swap {n m : Nat} {a b : NNI} : inV m b n a = inV n a m b := by unfold inV; exact Bool.and_comm _ _
theorem in_norm {n m : Nat} {a b : NNI} (h : inV n a m b = true) (h0 : 0 < (inD n a m b).1) :
    CvxP (inD n a m b).1 (pAt (inC n a m b).2) /\ (∀ i, i < (inD n a m b).1 -> pAt (inD n a m b).2 i = pAt (nmR (inD n a m b).1 (inC n a m b).2) i) /\ ∀ P, (InsN (inD n a m b).1 (pAt (inC n a m b).2) P ↔ InsN (inD n a m b).1 (pAt (inD n a m b).2) P) := by
  have ok := in_ok h
  unfold inV at h
  rw [Bool.and_eq_true] at h
  obtain ⟨ha, hb⟩ := h
  obtain ⟨⟨h3, h16⟩, _⟩ := vp_iff.1 ha
  obtain ⟨⟨g3, g16⟩, _⟩ := vp_iff.1 hb
  obtain ⟨k1, k2, k3⟩ := cm_same hb m 0 n a a (by omega) (cvx_valid ha) (Rot.refl (by omega) a) (by omega)
  have e : (inD n a m b).1 = (inC n a m b).1 := k1
  have k3' : (inC n a m b).1 = 0 \/ (CvxP (inC n a m b).1 (pAt (inC n a m b).2) /\ ∀ i, i < (inC n a m b).1 -> pAt (inD n a m b).2 i = pAt (nmR (inC n a m b).1 (inC n a m b).2) i) := k3
  rw [<- e] at k3'
  rcases k3' with z | ⟨cv, sm⟩
  . omega
  . refine ⟨cv, sm, fun P => ?_⟩
    have hk := lc_lt (inC n a m b).2 (inD n a m b).1 0 0 (inD n a m b).1 (by omega) h0
    exact (insN_shift cv _ (fun i hi => (sm i hi).trans (rot_pAt _ hk hi)) P).1.symm
theorem in_sym {n m : Nat} {a b : NNI} (h : inV n a m b = true) : (inD n a m b).1 = (inD m b n a).1 /\ ∀ i, i < (inD n a m b).1 -> pAt (inD n a m b).2 i = pAt (inD m b n a).2 i := by
  have h' : inV m b n a = true := by rw [inV_swap]; exact h
  obtain ⟨p1, z1⟩ := in_reg h
  obtain ⟨p2, z2⟩ := in_reg h'
  by_cases c1 : (inD n a m b).1 = 0
  . by_cases c2 : (inD m b n a).1 = 0
    . exact ⟨by omega, fun i hi => by omega⟩
    . obtain ⟨q1, q2⟩ := p2 (by omega)
      exact absurd (fun P hP => (((q2 P).1.1 hP).symm)) ((z1 c1).2 _ _ q1)
  . by_cases c2 : (inD m b n a).1 = 0
    . obtain ⟨q1, q2⟩ := p1 (by omega)
      exact absurd (fun P hP => (((q2 P).1.1 hP).symm)) ((z2 c2).2 _ _ q1)
    . obtain ⟨q1, q2⟩ := p1 (by omega)
      obtain ⟨r1, r2⟩ := p2 (by omega)
      obtain ⟨n1, n2, n3⟩ := in_norm h (by omega)
      obtain ⟨m1, m2, m3⟩ := in_norm h' (by omega)
      obtain ⟨en, er⟩ := rot_of_reg n1 m1 fun P => by
        rw [n3, m3, (q2 P).1, (r2 P).1]
        exact And.comm
      refine ⟨en, fun i hi => ?_⟩
      rw [n2 i hi, m2 i (by omega), <- en]
      rw [<- en] at m1
      exact nm_rot m1 er hi
theorem nm_valid {n : Nat} {a : NNI} (ha : vpS n a = true) {i : Nat} (hi : i < n) : pAt (nmR n a) i = pAt a i := by
  obtain ⟨⟨h3, _⟩, _, _, hl⟩ := vp_iff.1 ha
  have e : lcF a 0 n 0 = 0 := (lc_least a (by omega)).2 hl
  unfold nmR
  rw [e, rot_pAt a (show 0 < n by omega) hi, Nat.add_zero, Nat.mod_eq_of_lt hi]
theorem in_self {n : Nat} {a : NNI} (ha : vpS n a = true) : (inD n a n a).1 = n /\ ∀ i, i < n -> pAt (inD n a n a).2 i = pAt a i := by
  have h : inV n a n a = true := by unfold inV; rw [ha]; rfl
  obtain ⟨p, z⟩ := in_reg h
  have cv := cvx_valid ha
  have h0 : 0 < (inD n a n a).1 := by
    rcases Nat.eq_zero_or_pos (inD n a n a).1 with c | c
    . exact absurd (fun P hP => ⟨hP, hP⟩) ((z c).2 _ _ cv)
    . exact c
  obtain ⟨q1, q2⟩ := p h0
  obtain ⟨n1, n2, n3⟩ := in_norm h h0
  obtain ⟨en, er⟩ := rot_of_reg n1 cv fun P => by
    rw [n3, (q2 P).1]
    exact and_self_iff
  refine ⟨en, fun i hi => ?_⟩
  rw [n2 i (by omega)]
  rw [en] at er ⊢
  rw [nm_rot cv er hi, nm_valid ha hi]
end Go.Ev
/- The law of intersecting two polygons, in plain Lean. -/
namespace Go.Ev
theorem inE_zero {n m : Nat} {a b : NNI} : inE n a m b = 0 ↔ inO n a m b = true := by
  unfold inE inO
  cases inV n a m b with
  | false => simp
  | true => cases inK n a m b <;> simp
theorem cqB_congr {n : Nat} {c d : NNI} (h : ∀ i, i < n -> pAt c i = pAt d i) : cqB n c = cqB n d := by
  unfold cqB
  exact allF_congr fun i _ hi => by rw [h i (by omega)]
theorem inK_sym {n m : Nat} {a b : NNI} (h : inV n a m b = true) : inK n a m b = inK m b n a := by
  have h' : inV m b n a = true := by rw [inV_swap]; exact h
  obtain ⟨e, hs⟩ := in_sym h
  have k := in_ok h
  have k' := in_ok h'
  rw [<- k.q, <- k'.q, <- k.e, <- k'.e, <- e]
  exact cqB_congr hs
theorem inO_sym {n m : Nat} {a b : NNI} : inO n a m b = inO m b n a := by
  unfold inO
  rw [inV_swap (n := n) (m := m)]
  cases h : inV n a m b with
  | false => rw [Bool.false_and, Bool.false_and]
  | true => rw [inK_sym h]
theorem inE_sym {n m : Nat} {a b : NNI} : inE n a m b = inE m b n a := by
  unfold inE
  rw [inV_swap (n := n) (m := m)]
  cases h : inV n a m b with
  | false => rw [cond_false, cond_false]
  | true => rw [inK_sym h]
structure IsOk (n : Nat) (a : NNI) (m : Nat) (b : NNI) : Prop where
  e : inN n a m b = (inD n a m b).1
  p : ∀ i, i < inN n a m b -> pAt (inI n a m b) i = pAt (inD n a m b).2 i
  v : 0 < inN n a m b -> vpS (inN n a m b) (inI n a m b) = true
theorem is_ok {n m : Nat} {a b : NNI} (ho : inO n a m b = true) : IsOk n a m b := by
  have ho' := ho
  unfold inO at ho'
  rw [Bool.and_eq_true] at ho'
  obtain ⟨hV, hK⟩ := ho'
  have k := in_ok hV
  have eN : inN n a m b = (inD n a m b).1 := by unfold inN; rw [ho, k.e]; rfl
  have eI : inI n a m b = cqD (inD n a m b).1 (inD n a m b).2 := by unfold inI; rw [ho, k.e]; rfl
  have hq : cqB (inD n a m b).1 (inD n a m b).2 = true := by rw [k.e, k.q]; exact hK
  by_cases z : 0 < (inD n a m b).1
  . obtain ⟨cv, hm, _⟩ := in_norm hV z
    obtain ⟨F, R, O, c1, c2, c3⟩ := cv
    have n0 := c1.n0
    have hk := lc_lt (inC n a m b).2 (inD n a m b).1 0 0 (inD n a m b).1 (by omega) n0
    have nr : ∀ i, i < (inD n a m b).1 -> pAt (inD n a m b).2 i = pAt (inC n a m b).2 ((i + lcF (inC n a m b).2 0 (inD n a m b).1 0) % (inD n a m b).1) := fun i hi => (hm i hi).trans (rot_pAt _ hk hi)
    have low : ∀ i, i < (inD n a m b).1 -> redP (pAt (inD n a m b).2 i) = pAt (inD n a m b).2 i := fun i hi => by rw [nr i hi]; exact (c2 _ (Nat.mod_lt _ n0)).low
    have lowC : ∀ i, i < (inD n a m b).1 -> redP (pAt (inC n a m b).2 i) = pAt (inC n a m b).2 i := fun i hi => (c2 i hi).low
    have val : ∀ i, i < (inD n a m b).1 -> valP (pAt (inD n a m b).2 i) = true := fun i hi => by
      have := allF_iff.1 hq i (Nat.zero_le _) (by omega)
      rwa [low i hi] at this
    have hqC : cqB (inD n a m b).1 (inC n a m b).2 = true := by
      rw [k.e]
      exact hK
    have valC : ∀ i, i < (inD n a m b).1 -> valP (pAt (inC n a m b).2 i) = true := fun i hi => by
      have := allF_iff.1 hqC i (Nat.zero_le _) (by omega)
      rwa [lowC i hi] at this
    have pI : ∀ i, i < (inD n a m b).1 -> pAt (inI n a m b) i = pAt (inD n a m b).2 i := fun i hi => by
      rw [eI, cqD_at hi, low i hi, val i hi]
      rfl
    obtain ⟨cvv, c3', c16⟩ := cvx_cv ⟨F, R, O, c1, c2, c3⟩
    have vp := vp_rot c3' c16 valC cvv
    refine ⟨eN, fun i hi => pI i (by omega), fun _ => ?_⟩
    rw [eN]
    exact cp_congr (fun i hi => (pI i hi).trans (hm i hi)) vp
  . exact ⟨eN, fun i hi => by omega, fun h => by omega⟩
end Go.Ev
/- The law of intersecting two polygons: what the statement asks, in plain Lean. -/
namespace Go.Ev
theorem ip_iff {n : Nat} {c : NNI} {q : P2} {P : V4} (hv : vpS n c = true) (hq : valP q = true) (hP : Pt q P) : (0 <= ipV n c q ↔ InsN n (pAt c) P) /\ (0 < ipV n c q ↔ IntN n (pAt c) P) := by
  obtain ⟨h1, h2, _⟩ := ins_val hv hq hP
  have b := insV_bd n c q
  rw [ipV_val hv hq]
  exact ⟨h1, ⟨fun h => h2.1 (by omega), fun h => by have := h2.2 h; omega⟩⟩
theorem eqPS_of {n m : Nat} {c d : NNI} (e : n = m) (h : ∀ i, i < n -> pAt c i = pAt d i) : eqPS n c m d = true := by
  unfold eqPS
  rw [Bool.and_eq_true]
  exact ⟨decide_eq_true e, allF_iff.2 fun i _ hi => eqP_iff.2 (h i (by omega))⟩
theorem eqP2_P (p q : P2) : eqP2 p q = eqP p q := by
  rw [Bool.eq_iff_iff, eqP_iff]
  exact ⟨eqP2_eq, fun h => by rw [h]; exact eqP2_self q⟩
structure InLaw (n : Nat) (a : NNI) (m : Nat) (b : NNI) : Prop where
  ov : ovV n a m b = decide (((inN n a m b : Nat) : Int) > 0)
  ca : ∀ i, i < inN n a m b -> 0 <= ipV n a (pAt (inI n a m b) i) /\ 0 <= ipV m b (pAt (inI n a m b) i)
  pt : ∀ p, valP p = true -> (0 < ipV (inN n a m b) (inI n a m b) p ↔ 0 < ipV n a p /\ 0 < ipV m b p)
theorem in_law {n m : Nat} {a b : NNI} (ho : inO n a m b = true) : InLaw n a m b := by
  have k := is_ok ho
  have hV : inV n a m b = true := by unfold inO at ho; rw [Bool.and_eq_true] at ho; exact ho.1
  obtain ⟨p1, z1⟩ := in_reg hV
  have hab := hV
  unfold inV at hab
  rw [Bool.and_eq_true] at hab
  obtain ⟨ha, hb⟩ := hab
  have ov : ovV n a m b = decide (((inN n a m b : Nat) : Int) > 0) := by
    unfold ovV
    rw [hV, k.e, Bool.true_and]
    congr 1
    exact propext ⟨fun h => by omega, fun h => by omega⟩
  by_cases z : 0 < inN n a m b
  . have v := k.v z
    obtain ⟨q1, q2⟩ := p1 (by rw [<- k.e]; exact z)
    rw [<- k.e] at q1 q2
    have ic := fun P => insN_congr q1 (q := pAt (inI n a m b)) (fun i hi => k.p i hi) P
    refine ⟨ov, fun i hi => ?_, fun p hp => ?_⟩
    . obtain ⟨P, hP, hI⟩ := corner_pt v hi
      have hp := vp_val v hi
      obtain ⟨x, y⟩ := (q2 P).1.1 ((ic P).1.1 hI)
      exact ⟨(ip_iff ha hp hP).1.2 x, (ip_iff hb hp hP).1.2 y⟩
    . obtain ⟨P, hP⟩ := val_pt hp
      rw [(ip_iff v hp hP).2, (ip_iff ha hp hP).2, (ip_iff hb hp hP).2, (ic P).2, (q2 P).2]
  . have z0 : inN n a m b = 0 := by omega
    obtain ⟨y1, _⟩ := z1 (by rw [<- k.e]; exact z0)
    refine ⟨ov, fun i hi => by omega, fun p hp => ?_⟩
    obtain ⟨P, hP⟩ := val_pt hp
    rw [ipV_none (show vpS (inN n a m b) (inI n a m b) = false by rw [z0]; exact vpS_zero _), (ip_iff ha hp hP).2, (ip_iff hb hp hP).2]
    exact ⟨fun h => by omega, fun h => absurd h (y1 P)⟩
theorem in_eq (n : Nat) (a : NNI) (m : Nat) (b : NNI) : eqPS (inN n a m b) (inI n a m b) (inN m b n a) (inI m b n a) = true := by
  cases ho : inO n a m b with
  | false =>
    have ho' : inO m b n a = false := by rw [<- inO_sym]; exact ho
    have e1 : inN n a m b = 0 := by unfold inN; rw [ho]; rfl
    have e2 : inN m b n a = 0 := by unfold inN; rw [ho']; rfl
    exact eqPS_of (by omega) fun i hi => by omega
  | true =>
    have ho' : inO m b n a = true := by rw [<- inO_sym]; exact ho
    have k := is_ok ho
    have k' := is_ok ho'
    have hV : inV n a m b = true := by unfold inO at ho; rw [Bool.and_eq_true] at ho; exact ho.1
    obtain ⟨e, hs⟩ := in_sym hV
    refine eqPS_of (by rw [k.e, k'.e, e]) fun i hi => ?_
    rw [k.p i hi, hs i (by rw [<- k.e]; exact hi), k'.p i (by rw [k'.e, <- e, <- k.e]; exact hi)]
theorem in_own {n : Nat} {a : NNI} (ha : vpS n a = true) : inE n a n a = 0 /\ eqPS (inN n a n a) (inI n a n a) n a = true := by
  have hV : inV n a n a = true := by unfold inV; rw [ha]; rfl
  obtain ⟨e, hs⟩ := in_self ha
  have ok := in_ok hV
  have ho : inO n a n a = true := by
    unfold inO
    rw [hV, Bool.true_and, <- ok.q, <- ok.e, e, cqB_congr (d := a) fun i hi => hs i hi]
    unfold cqB
    refine allF_iff.2 fun i _ hi => ?_
    have v := vp_val ha (show i < n by omega)
    obtain ⟨P, hP⟩ := val_pt v
    rw [hP.low]
    exact v
  have k := is_ok ho
  exact ⟨inE_zero.2 ho, eqPS_of (by rw [k.e, e]) fun i hi => by rw [k.p i hi, hs i (by rw [k.e, e] at hi; exact hi)]⟩
end Go.Ev
/- A region and the one right behind it, outside loops: an evaluation in two steps. -/
namespace Go.Ev
def hd1 : Code -> Option (Nat × Array Oper × Bool)
  | .region id ops d => some (id, ops, d)
  | _ => none
def hd2 : Code -> Option (Nat × Array Oper × Bool × Code)
  | .seq x y => match hd1 x with
    | some (id, ops, d) => some (id, ops, d, y)
    | none => none
  | _ => none
theorem hd1_spec {c : Code} {id : Nat} {ops : Array Oper} {d : Bool} (h : hd1 c = some (id, ops, d)) : c = .region id ops d := by
  cases c <;> simp only [hd1, reduceCtorEq, Option.some.injEq, Prod.mk.injEq] at h
  obtain ⟨rfl, rfl, rfl⟩ := h
  rfl
theorem hd2_spec {c y : Code} {id : Nat} {ops : Array Oper} {d : Bool} (h : hd2 c = some (id, ops, d, y)) : c = .seq (.region id ops d) y := by
  cases c <;> simp only [hd2, reduceCtorEq] at h
  split at h
  . rename_i h1
    cases h
    rw [hd1_spec h1]
  . cases h
def noR : Code -> Nat -> Bool
  | .seq x y, i => noR x i && noR y i
  | .cond _ x y, i => noR x i && noR y i
  | .block _ c, i => noR c i
  | .region id _ _, i => !Nat.beq id i
  | _, _ => true
def atR2 : Code -> Nat -> Nat -> Option (Array Oper × Bool × Array Oper × Bool × Code)
  | .seq x y, i, j => match hd1 x, hd2 y, noR x i && noR x j with
    | some (id, ops, d), some (id', ops', d', y'), w => match Nat.beq id i && (Nat.beq id' j && !Nat.beq i j) with
      | true => some (ops, d, ops', d', y')
      | false => match w with
        | true => atR2 y i j
        | false => none
    | _, _, true => atR2 y i j
    | _, _, false => none
  | _, _, _ => none
section
variable {P : Program} {GL : Nat -> AV} {Γ : List (Nat × Ctr)} {n v k : Nat} {cfg : Cfg}
theorem spot_no : ∀ {c : Code} {i : Nat}, noR c i = true -> ∀ (K : Kont) (l : List (Nat × (List AV -> Option AV))) (s : List AV), spotAt (spots P GL Γ n v k cfg c K ++ l) i s = spotAt l i s
  | .seq x y, i, h, K, l, s => by
    unfold noR at h
    rw [Bool.and_eq_true] at h
    simp only [spots, List.append_assoc]
    rw [spot_no h.1, spot_no h.2]
  | .cond _ x y, i, h, K, l, s => by
    unfold noR at h
    rw [Bool.and_eq_true] at h
    simp only [spots, List.append_assoc]
    rw [spot_no h.1, spot_no h.2]
  | .block _ c, i, h, K, l, s => by
    unfold noR at h
    simp only [spots]
    rw [spot_no h]
  | .region id ops d, i, h, K, l, s => by
    unfold noR at h
    simp only [Bool.not_eq_true'] at h
    simp only [spots, List.cons_append, List.nil_append, spotAt, h]
  | .skip, _, _, _, _, _ => rfl
  | .loop _, _, _, _, _, _ => rfl
  | .exit _, _, _, _, _, _ => rfl
  | .ret, _, _, _, _, _ => rfl
  | .rangeFunc _ _ _ _, _, _, _, _, _ => rfl
  | .scope _, _, _, _, _, _ => rfl
  | .label _, _, _, _, _, _ => rfl
  | .goto _, _, _, _, _, _ => rfl
  | .refuse _, _, _, _, _, _ => rfl
theorem spot_two : ∀ {c : Code} {i j : Nat} {ops ops' : Array Oper} {d d' : Bool} {y' : Code}, atR2 c i j = some (ops, d, ops', d', y') -> ∀ (K : Kont) (l : List (Nat × (List AV -> Option AV))),
    (∀ s, spotAt (spots P GL Γ n v k cfg c K ++ l) i s = evRg P GL Γ n v cfg ops d s (kSeq (fun s => evC P GL Γ n v k cfg (.seq (.region j ops' d') y') s K) K)) /\
    (∀ s, spotAt (spots P GL Γ n v k cfg c K ++ l) j s = evRg P GL Γ n v cfg ops' d' s (kSeq (fun s => evC P GL Γ n v k cfg y' s K) K)) := by
  intro c
  induction c with
  | seq x y _ ih =>
    intro i j ops ops' d d' y' h K l
    have skip : noR x i = true -> noR x j = true -> atR2 y i j = some (ops, d, ops', d', y') ->
        (∀ s, spotAt (spots P GL Γ n v k cfg (.seq x y) K ++ l) i s = evRg P GL Γ n v cfg ops d s (kSeq (fun s => evC P GL Γ n v k cfg (.seq (.region j ops' d') y') s K) K)) /\
        (∀ s, spotAt (spots P GL Γ n v k cfg (.seq x y) K ++ l) j s = evRg P GL Γ n v cfg ops' d' s (kSeq (fun s => evC P GL Γ n v k cfg y' s K) K)) := fun h1 h2 h3 => by
      simp only [spots, List.append_assoc]
      constructor
      . intro s
        rw [spot_no h1]
        exact (ih h3 K l).1 s
      . intro s
        rw [spot_no h2]
        exact (ih h3 K l).2 s
    unfold atR2 at h
    split at h
    . rename_i id ops1 d1 id' ops2 d2 y2 w e1 e2
      have e1 := hd1_spec e1
      have e2 := hd2_spec e2
      split at h
      . rename_i hb
        cases h
        rw [Bool.and_eq_true, Bool.and_eq_true] at hb
        obtain ⟨b1, b2, b3⟩ := hb
        have b1 := Nat.eq_of_beq_eq_true b1
        have b2 := Nat.eq_of_beq_eq_true b2
        rw [Bool.not_eq_true'] at b3
        subst e1; subst e2; subst b1; subst b2
        refine ⟨fun s => ?_, fun s => ?_⟩
        . simp only [spots, List.cons_append, List.nil_append, spotAt, Nat.beq_refl]
        . simp only [spots, List.cons_append, List.nil_append, spotAt, Nat.beq_refl, b3]
      . split at h
        . rename_i hw
          rw [Bool.and_eq_true] at hw
          exact skip hw.1 hw.2 h
        . cases h
    . rename_i hw _
      rw [Bool.and_eq_true] at hw
      exact skip hw.1 hw.2 h
    . cases h
  | _ =>
    intro i j ops ops' d d' y' h
    cases h
end
def stepR (P : Program) (GL : Nat -> AV) (Γ : List (Nat × Ctr)) (cfg : Cfg) (args : List AV) (fn : Func) (i j : Nat) (s : List AV) (Kt : Kont) : Option AV := match atR2 (fn.body.getD .skip) i j with
  | some (ops, d, _) => evRg P GL Γ fn.ntmps (vOf fn args) (cfg.at (vOf fn args)) ops d s Kt
  | none => none
theorem two_steps {P : Program} {GL : Nat -> AV} {Γ : List (Nat × Ctr)} {k : Nat} {cfg : Cfg} {args : List AV} {fn : Func} {i j : Nat} {s s' : List AV} {A : Bool}
    (h : (atR2 (fn.body.getD .skip) i j).isSome = true) (hc : cutAt cfg.cuts j = none) (hs : ∀ Kt : Kont, stepR P GL Γ cfg args fn i j s Kt = cond A (Kt .norm s') none) :
    fromW P GL Γ k cfg args fn i s = cond A (fromW P GL Γ k cfg args fn j s') none := by
  obtain ⟨⟨ops, d, ops', d', y'⟩, hr⟩ := Option.isSome_iff_exists.1 h
  have t := spot_two (P := P) (GL := GL) (Γ := Γ) (n := fn.ntmps) (v := vOf fn args) (k := k) (cfg := cfg.at (vOf fn args)) hr (kFin P GL fn.ntmps (vOf fn args) cfg fn.results.toList args) []
  rw [List.append_nil] at t
  unfold fromW
  rw [t.1, t.2]
  have hs' : ∀ Kt, evRg P GL Γ fn.ntmps (vOf fn args) (cfg.at (vOf fn args)) ops d s Kt = cond A (Kt .norm s') none := fun Kt => by
    have := hs Kt
    unfold stepR at this
    rw [hr] at this
    exact this
  rw [hs']
  have e : kSeq (fun s => evC P GL Γ fn.ntmps (vOf fn args) k (cfg.at (vOf fn args)) (.seq (.region j ops' d') y') s (kFin P GL fn.ntmps (vOf fn args) cfg fn.results.toList args)) (kFin P GL fn.ntmps (vOf fn args) cfg fn.results.toList args) .norm s' =
      evRg P GL Γ fn.ntmps (vOf fn args) (cfg.at (vOf fn args)) ops' d' s' (kSeq (fun s => evC P GL Γ fn.ntmps (vOf fn args) k (cfg.at (vOf fn args)) y' s (kFin P GL fn.ntmps (vOf fn args) cfg fn.results.toList args)) (kFin P GL fn.ntmps (vOf fn args) cfg fn.results.toList args)) := by
    show evC P GL Γ fn.ntmps (vOf fn args) k (cfg.at (vOf fn args)) (.seq (.region j ops' d') y') s' _ = _
    rw [evC, evC, show cutAt (cfg.at (vOf fn args)).cuts j = none from hc]
    rfl
  rw [e]
def atS : Code -> Nat -> Option (Array Oper × Bool × Code)
  | .seq x y, i => match hd1 x with
    | some (id, ops, d) => match Nat.beq id i with
      | true => some (ops, d, y)
      | false => atS y i
    | none => match noR x i with
      | true => atS y i
      | false => none
  | _, _ => none
def preC : Code -> Nat -> Code
  | .seq x y, i => match hd1 x with
    | some (id, _, _) => match Nat.beq id i with
      | true => .skip
      | false => .seq x (preC y i)
    | none => .seq x (preC y i)
  | c, _ => c
section
variable {P : Program} {GL : Nat -> AV} {Γ : List (Nat × Ctr)} {n v k : Nat} {cfg : Cfg}
theorem spot_one : ∀ {c : Code} {i : Nat} {ops : Array Oper} {d : Bool} {y' : Code}, atS c i = some (ops, d, y') -> ∀ (K : Kont) (l : List (Nat × (List AV -> Option AV))) (s : List AV),
    spotAt (spots P GL Γ n v k cfg c K ++ l) i s = evRg P GL Γ n v cfg ops d s (kSeq (fun s => evC P GL Γ n v k cfg y' s K) K) := by
  intro c
  induction c with
  | seq x y _ ih =>
    intro i ops d y' h K l s
    unfold atS at h
    simp only [spots, List.append_assoc]
    split at h
    . rename_i id ops1 d1 e1
      have e1 := hd1_spec e1
      subst e1
      split at h
      . rename_i hb
        cases h
        have b1 := Nat.eq_of_beq_eq_true hb
        subst b1
        simp only [spots, List.cons_append, List.nil_append, spotAt, Nat.beq_refl]
      . rename_i hb
        simp only [spots, List.cons_append, List.nil_append, spotAt, hb]
        exact ih h K l s
    . split at h
      . rename_i hw
        rw [spot_no hw]
        exact ih h K l s
      . cases h
  | _ =>
    intro i ops d y' h
    cases h
theorem evC_pre : ∀ {c : Code} {i : Nat} {ops : Array Oper} {d : Bool} {y' : Code}, atS c i = some (ops, d, y') -> ∀ (K : Kont) (s : List AV),
    evC P GL Γ n v k cfg c s K = evC P GL Γ n v k cfg (preC c i) s (kSeq (fun s => evC P GL Γ n v k cfg (.seq (.region i ops d) y') s K) K) := by
  intro c
  induction c with
  | seq x y _ ih =>
    intro i ops d y' h K s
    have go : atS y i = some (ops, d, y') -> evC P GL Γ n v k cfg (.seq x y) s K = evC P GL Γ n v k cfg (.seq x (preC y i)) s (kSeq (fun s => evC P GL Γ n v k cfg (.seq (.region i ops d) y') s K) K) := fun h => by
      rw [evC, evC]
      congr 1
      funext e s'
      cases e with
      | norm => exact ih h K s'
      | exit id => rfl
      | ret => rfl
    unfold atS at h
    split at h
    . rename_i id ops1 d1 e1
      split at h
      . rename_i hb
        cases h
        have b1 := Nat.eq_of_beq_eq_true hb
        subst b1
        rw [show preC (.seq x y) id = .skip by simp only [preC, e1, Nat.beq_refl], hd1_spec e1]
        rfl
      . rename_i hb
        rw [show preC (.seq x y) i = .seq x (preC y i) by simp only [preC, e1, hb]]
        exact go h
    . rename_i e1
      split at h
      . rw [show preC (.seq x y) i = .seq x (preC y i) by simp only [preC, e1]]
        exact go h
      . cases h
  | _ =>
    intro i ops d y' h
    cases h
end
def startK (P : Program) (GL : Nat -> AV) (Γ : List (Nat × Ctr)) (k : Nat) (cfg : Cfg) (fn : Func) (args : List AV) (i : Nat) (G : List AV -> Option AV) : Option AV :=
  evC P GL Γ fn.ntmps (vOf fn args) k (cfg.at (vOf fn args)) (preC (fn.body.getD .skip) i) (inits fn.ntmps 0 args ++ List.replicate (fn.ntmps - args.length) .non ++ virts args ++ List.replicate cfg.sp .non) (kSeq G (kFin P GL fn.ntmps (vOf fn args) cfg fn.results.toList args))
theorem ev_start {P : Program} {GL : Nat -> AV} {Γ : List (Nat × Ctr)} {k : Nat} {cfg : Cfg} {args : List AV} {fn : Func} {i : Nat} {kp : List Bool} (h : (atS (fn.body.getD .skip) i).isSome = true) (hc : cutAt cfg.cuts i = some kp) :
    evW P GL Γ k cfg fn args = startK P GL Γ k cfg fn args i fun s => fromW P GL Γ k cfg args fn i (forget fn.ntmps (vOf fn args) kp s) := by
  obtain ⟨⟨ops, d, y'⟩, hr⟩ := Option.isSome_iff_exists.1 h
  have t := spot_one (P := P) (GL := GL) (Γ := Γ) (n := fn.ntmps) (v := vOf fn args) (k := k) (cfg := cfg.at (vOf fn args)) hr (kFin P GL fn.ntmps (vOf fn args) cfg fn.results.toList args) []
  rw [List.append_nil] at t
  unfold startK fromW
  have e : (fun e s => match e with
      | .norm => evFin P GL fn.ntmps (vOf fn args) cfg fn.results.toList args s
      | .ret => evFin P GL fn.ntmps (vOf fn args) cfg fn.results.toList args s
      | .exit _ => none : Kont) = kFin P GL fn.ntmps (vOf fn args) cfg fn.results.toList args := by
    funext e s
    cases e <;> rfl
  show evC P GL Γ fn.ntmps (vOf fn args) k (cfg.at (vOf fn args)) (fn.body.getD .skip) _ _ = _
  rw [evC_pre hr]
  refine congrArg _ ?_
  refine (congrArg (fun z => kSeq (fun s => evC P GL Γ fn.ntmps (vOf fn args) k (cfg.at (vOf fn args)) (.seq (.region i ops d) y') s z) z) e).trans ?_
  congr 1
  funext s
  rw [t, evC, evC, show cutAt (cfg.at (vOf fn args)).cuts i = some kp from hc]
  rfl
end Go.Ev
