/- Points in polygons, and what cutting leaves, in plain Lean. -/
import Derived.Test.YtdildcdilhgdkaaGreatDoorPlE
set_option linter.unusedVariables false
set_option linter.unusedSimpArgs false
/- The program's test of points; the parts of a polygon are polygons and do not overlap. -/
namespace Go.Ev
def orV (a b c : P2) : Int := sgF (crsF (subP b a) (subP c a))
theorem par3 (x1 x2 y1 y2 a b c d p q r s : Int) :
    (x1 * x1 + 2 * x2 * x2 + (y1 * y1 + 2 * y2 * y2)) * (a * r + 2 * b * s - (c * p + 2 * d * q)) + 2 * (x1 * x2 + x2 * x1 + (y1 * y2 + y2 * y1)) * (a * s + b * r - (c * q + d * p)) =
      (x1 * a + 2 * x2 * b + (y1 * c + 2 * y2 * d)) * (x1 * r + 2 * x2 * s - (y1 * p + 2 * y2 * q)) + 2 * (x1 * b + x2 * a + (y1 * d + y2 * c)) * (x1 * s + x2 * r - (y1 * q + y2 * p)) -
      ((x1 * c + 2 * x2 * d - (y1 * a + 2 * y2 * b)) * (x1 * p + 2 * x2 * q + (y1 * r + 2 * y2 * s)) + 2 * (x1 * d + x2 * c - (y1 * b + y2 * a)) * (x1 * q + x2 * p + (y1 * s + y2 * r))) := by grind
theorem par4 (x1 x2 y1 y2 a b c d p q r s : Int) :
    (x1 * x1 + 2 * x2 * x2 + (y1 * y1 + 2 * y2 * y2)) * (a * s + b * r - (c * q + d * p)) + (x1 * x2 + x2 * x1 + (y1 * y2 + y2 * y1)) * (a * r + 2 * b * s - (c * p + 2 * d * q)) =
      (x1 * a + 2 * x2 * b + (y1 * c + 2 * y2 * d)) * (x1 * s + x2 * r - (y1 * q + y2 * p)) + (x1 * b + x2 * a + (y1 * d + y2 * c)) * (x1 * r + 2 * x2 * s - (y1 * p + 2 * y2 * q)) -
      ((x1 * c + 2 * x2 * d - (y1 * a + 2 * y2 * b)) * (x1 * q + x2 * p + (y1 * s + y2 * r)) + (x1 * d + x2 * c - (y1 * b + y2 * a)) * (x1 * p + 2 * x2 * q + (y1 * r + 2 * y2 * s))) := by grind
def xA (w v : V4) : Int := w.a * v.c + 2 * w.b * v.d - (w.c * v.a + 2 * w.d * v.b)
def xB (w v : V4) : Int := w.a * v.d + w.b * v.c - (w.c * v.b + w.d * v.a)
/-- The cross product with a vector of a direction. -/
theorem cross_dir {D : Int} {w v : V4} (hD : inB D 0 15 = true) (h : isDir D w) : sgZ (xA w v) (xB w v) = sgZ (crA D v) (crB D v) := by
  obtain ⟨h1, h2, h3⟩ := h
  have n1 : sgD D (vecV D) = 1 := by simpa using List.all_eq_true.1 len_all D (in_dirs16 hD)
  have k1 := par3 (vC1 D) (vE1 D) (vC2 D) (vE2 D) w.a w.b w.c w.d v.a v.b v.c v.d
  have k2 := par4 (vC1 D) (vE1 D) (vC2 D) (vE2 D) w.a w.b w.c w.d v.a v.b v.c v.d
  have c1 : vC1 D * w.c + 2 * vE1 D * w.d - (vC2 D * w.a + 2 * vE2 D * w.b) = 0 := h1
  have c2 : vC1 D * w.d + vE1 D * w.c - (vC2 D * w.b + vE2 D * w.a) = 0 := h2
  rw [c1, c2] at k1 k2
  simp only [Int.mul_zero, Int.zero_mul, Int.add_zero, Int.sub_zero] at k1 k2
  have g1 : dtA D (vecV D) * xA w v + 2 * dtB D (vecV D) * xB w v = dtA D w * crA D v + 2 * dtB D w * crB D v := k1
  have g2 : dtA D (vecV D) * xB w v + dtB D (vecV D) * xA w v = dtA D w * crB D v + dtB D w * crA D v := k2
  have m1 := sgZ_mul (dtA D (vecV D)) (dtB D (vecV D)) (xA w v) (xB w v)
  have m2 := sgZ_mul (dtA D w) (dtB D w) (crA D v) (crB D v)
  rw [g1, g2, m2] at m1
  have s1 : sgZ (dtA D w) (dtB D w) = 1 := by have := sgZ_bd (dtA D w) (dtB D w); omega
  have s2 : sgZ (dtA D (vecV D)) (dtB D (vecV D)) = 1 := n1
  rw [s1, s2, Int.one_mul, Int.one_mul] at m1
  exact m1.symm
/-- May the side be asked? -/
def orB (a b c : P2) : Bool := pkP b a && (pkP c a && (pkC (subP b a) (subP c a) && (sW (crsF (subP b a) (subP c a)).a && sW (crsF (subP b a) (subP c a)).b)))
theorem mulN {x y : Int} (h : x.natAbs ≤ 268435456) (g : y.natAbs ≤ 268435456) : (x * y).natAbs ≤ 72057594037927936 := by
  have := abs_mul_le h g
  exact Nat.le_trans this (by decide)
theorem nat2 {x : Int} {M : Nat} (h : x.natAbs ≤ M) : (2 * x).natAbs ≤ 2 * M := by omega
theorem crs4 {p q : P2} {a b c d e f g h : Int} (x1 : VB 10 p.x a b 268435456) (y1 : VB 10 p.y c d 268435456) (x2 : VB 10 q.x e f 268435456) (y2 : VB 10 q.y g h 268435456) :
    pkC p q = true ∧ VB 20 (crsF p q) (a * g + 2 * (b * h) - (c * e + 2 * (d * f))) (a * h + b * g - (c * f + d * e)) 576460752303423488 := by
  have b1 := mulN x1.a y2.a
  have b2 := mulN x1.b y2.b
  have b3 := mulN x1.a y2.b
  have b4 := mulN x1.b y2.a
  have b5 := mulN y1.a x2.a
  have b6 := mulN y1.b x2.b
  have b7 := mulN y1.a x2.b
  have b8 := mulN y1.b x2.a
  have q1 := (pk_val x1.v y2.v (by decide) (by decide)).2
  have q2 := (pk_val y1.v x2.v (by decide) (by decide)).2
  have e1 : 2 * b * h = 2 * (b * h) := Int.mul_assoc 2 b h
  have e2 : 2 * d * f = 2 * (d * f) := Int.mul_assoc 2 d f
  have m1 : (a * g + 2 * b * h).natAbs < 9223372036854775808 → (a * h + b * g).natAbs < 9223372036854775808 → _ := fun h1 h2 => (x1.v.mul y2.v (by decide) h1 h2).1
  have m2 : (c * e + 2 * d * f).natAbs < 9223372036854775808 → (c * f + d * e).natAbs < 9223372036854775808 → _ := fun h1 h2 => (y1.v.mul x2.v (by decide) h1 h2).1
  rw [e1] at m1
  rw [e2] at m2
  have c1 := abs_add_le b1 (nat2 b2)
  have c2 := abs_add_le b3 b4
  have c3 := abs_add_le b5 (nat2 b6)
  have c4 := abs_add_le b7 b8
  have m1 := m1 (Nat.lt_of_le_of_lt c1 (by decide)) (Nat.lt_of_le_of_lt c2 (by decide))
  have m2 := m2 (Nat.lt_of_le_of_lt c3 (by decide)) (Nat.lt_of_le_of_lt c4 (by decide))
  have s := (m1.sub m2 (by decide) (Nat.lt_of_le_of_lt (abs_sub_le c1 c3) (by decide)) (Nat.lt_of_le_of_lt (abs_sub_le c2 c4) (by decide)) (Nat.lt_of_le_of_lt c3 (by decide)) (Nat.lt_of_le_of_lt c4 (by decide))).1
  have q3 := (pk_val m1 m2 (by decide) (by decide)).1
  refine ⟨?_, s, Nat.le_trans (abs_sub_le c1 c3) (by decide), Nat.le_trans (abs_sub_le c2 c4) (by decide)⟩
  unfold pkC
  rw [q1, q2]
  exact q3
theorem or_ok {a b c : P2} {u v w : V4} (ha : PV 10 a u 134217728) (hb : PV 10 b v 134217728) (hc : PV 10 c w 134217728) : orB a b c = true ∧ orV a b c = sgZ (xA (sbV v u) (sbV w u)) (xB (sbV v u) (sbV w u)) := by
  obtain ⟨x1, _⟩ := hb.x.sub ha.x (by decide) (by decide)
  obtain ⟨y1, _⟩ := hb.y.sub ha.y (by decide) (by decide)
  obtain ⟨x2, _⟩ := hc.x.sub ha.x (by decide) (by decide)
  obtain ⟨y2, _⟩ := hc.y.sub ha.y (by decide) (by decide)
  have p1 : pkP b a = true := by unfold pkP; rw [hb.x.pk ha.x (by decide), hb.y.pk ha.y (by decide)]; rfl
  have p2 : pkP c a = true := by unfold pkP; rw [hc.x.pk ha.x (by decide), hc.y.pk ha.y (by decide)]; rfl
  obtain ⟨k1, k2⟩ := crs4 (p := subP b a) (q := subP c a) x1 y1 x2 y2
  obtain ⟨d1, d2⟩ := k2.v.bd
  have s1 : sW (crsF (subP b a) (subP c a)).a = true := sW_abs (Nat.le_trans d1 k2.a) (by decide)
  have s2 : sW (crsF (subP b a) (subP c a)).b = true := sW_abs (Nat.le_trans d2 k2.b) (by decide)
  have ex : xA (sbV v u) (sbV w u) = (v.a - u.a) * (w.c - u.c) + 2 * ((v.b - u.b) * (w.d - u.d)) - ((v.c - u.c) * (w.a - u.a) + 2 * ((v.d - u.d) * (w.b - u.b))) := by
    rw [← Int.mul_assoc 2, ← Int.mul_assoc 2]
    rfl
  have ey : xB (sbV v u) (sbV w u) = (v.a - u.a) * (w.d - u.d) + (v.b - u.b) * (w.c - u.c) - ((v.c - u.c) * (w.b - u.b) + (v.d - u.d) * (w.a - u.a)) := rfl
  refine ⟨?_, ?_⟩
  · unfold orB
    rw [p1, p2, k1, s1, s2]
    rfl
  · rw [ex, ey]
    exact k2.v.sg
def insF (n : Nat) (c : Nat → Nat → Int) (q : P2) : Nat → Nat → Int → Int
  | _, 0, x => x
  | i, r + 1, x => insF n c q (i + 1) r (min x (orV (pAt c i) (pAt c ((i + 1) % n)) q))
def insV (n : Nat) (c : Nat → Nat → Int) (q : P2) : Int := insF n c q 0 n 1
theorem orV_bd (a b c : P2) : -1 ≤ orV a b c ∧ orV a b c ≤ 1 := sgZ_bd _ _
theorem insF_le (n : Nat) (c : Nat → Nat → Int) (q : P2) : ∀ r i x z, z ≤ insF n c q i r x ↔ z ≤ x ∧ ∀ j, i ≤ j → j < i + r → z ≤ orV (pAt c j) (pAt c ((j + 1) % n)) q := by
  intro r
  induction r with
  | zero => intro i x z; exact ⟨fun h => ⟨h, fun j h1 h2 => by omega⟩, fun h => h.1⟩
  | succ r ih =>
    intro i x z
    simp only [insF]
    rw [ih]
    constructor
    · rintro ⟨h1, h2⟩
      refine ⟨by omega, fun j g1 g2 => ?_⟩
      by_cases e : j = i
      · subst e; omega
      · exact h2 j (by omega) (by omega)
    · rintro ⟨h1, h2⟩
      have := h2 i (Nat.le_refl _) (by omega)
      exact ⟨by omega, fun j g1 g2 => h2 j (by omega) (by omega)⟩
theorem insV_le {n : Nat} {c : Nat → Nat → Int} {q : P2} {z : Int} (hz : z ≤ 1) : z ≤ insV n c q ↔ ∀ j, j < n → z ≤ orV (pAt c j) (pAt c ((j + 1) % n)) q := by
  unfold insV
  rw [insF_le]
  exact ⟨fun h j hj => h.2 j (Nat.zero_le _) (by omega), fun h => ⟨hz, fun j _ hj => h j (by omega)⟩⟩
theorem insV_bd (n : Nat) (c : Nat → Nat → Int) (q : P2) : -1 ≤ insV n c q ∧ insV n c q ≤ 1 := by
  refine ⟨(insV_le (by decide)).2 fun j _ => (orV_bd _ _ _).1, ?_⟩
  have := ((insF_le n c q n 0 1 (insV n c q)).1 (Int.le_refl _)).1
  exact this
/-- The program's test, by values. -/
theorem ins_val {n : Nat} {c : Nat → Nat → Int} {q : P2} {P : V4} (hv : vpS n c = true) (hq : valP q = true) (hP : Pt q P) : (0 ≤ insV n c q ↔ InsN n (pAt c) P) ∧ (insV n c q = 1 ↔ IntN n (pAt c) P) ∧ ∀ i, i < n → orB (pAt c i) (pAt c ((i + 1) % n)) q = true := by
  obtain ⟨⟨h3, h16⟩, hv', _, _⟩ := vp_iff.1 hv
  obtain ⟨F, R, O, h1, h2, _⟩ := cvx_valid hv
  have n0 := h1.n0
  obtain ⟨p0, hp0⟩ := valP_pv hq
  have eP : P = sc 8 p0 := hP.uniq (pt_valid hq hp0)
  have key : ∀ i, i < n → orB (pAt c i) (pAt c ((i + 1) % n)) q = true ∧ orV (pAt c i) (pAt c ((i + 1) % n)) q = sgZ (crA (R i % 16) (sbV P (F i))) (crB (R i % 16) (sbV P (F i))) := fun i hi => by
    have hj := Nat.mod_lt (i + 1) n0
    obtain ⟨a, ha⟩ := valP_pv (hv' i hi)
    obtain ⟨b, hb⟩ := valP_pv (hv' _ hj)
    obtain ⟨o1, o2⟩ := or_ok ha hb hp0
    have ea : F i = sc 8 a := (h2 i hi).uniq (pt_valid (hv' i hi) ha)
    have eb : F (i + 1) = sc 8 b := by rw [← h1.mod]; exact (h2 _ hj).uniq (pt_valid (hv' _ hj) hb)
    refine ⟨o1, ?_⟩
    have d := h1.dir i
    have x := cross_dir (v := sbV P (F i)) (dir16 (R i)) d
    rw [o2, ← x, ea, eb, eP, sb_sc8, sb_sc8]
    -- both scaled by eight
    have e1 : xA (sc 8 (sbV b a)) (sc 8 (sbV p0 a)) = 64 * xA (sbV b a) (sbV p0 a) + 2 * 0 * xB (sbV b a) (sbV p0 a) := by unfold xA sc; simp only; grind
    have e2 : xB (sc 8 (sbV b a)) (sc 8 (sbV p0 a)) = 64 * xB (sbV b a) (sbV p0 a) + 0 * xA (sbV b a) (sbV p0 a) := by unfold xB sc; simp only; grind
    rw [e1, e2, sgZ_mul, show sgZ 64 0 = 1 by decide, Int.one_mul]
  refine ⟨?_, ?_, fun i hi => (key i hi).1⟩
  · rw [(insN_iff h1 h2 P).1, insV_le (by decide)]
    constructor
    · intro h i
      have hi := Nat.mod_lt i n0
      have := h _ hi
      rw [(key _ hi).2] at this
      have e : R (i % n) % 16 = R i % 16 := by
        have := h1.liftM (i % n) (i / n)
        rw [Nat.mod_add_div] at this
        omega
      rw [h1.mod, e] at this
      rcases posZ_or (a := crA (R i % 16) (sbV P (F i))) (b := crB (R i % 16) (sbV P (F i))) with g | g | g
      · exact .inr g
      · have := sgZ_lt.2 g; omega
      · exact .inl g
    · intro h i hi
      rw [(key i hi).2]
      rcases h i with ⟨g1, g2⟩ | g
      · rw [g1, g2, sgZ_zero]; exact Int.le_refl _
      · have := sgZ_posZ.2 g; omega
  · rw [(insN_iff h1 h2 P).2]
    have hb := insV_bd n c q
    constructor
    · intro h i
      have hi := Nat.mod_lt i n0
      have := (insV_le (n := n) (c := c) (q := q) (z := 1) (by decide)).1 (by omega) _ hi
      rw [(key _ hi).2] at this
      have e : R (i % n) % 16 = R i % 16 := by
        have := h1.liftM (i % n) (i / n)
        rw [Nat.mod_add_div] at this
        omega
      rw [h1.mod, e] at this
      exact sgZ_posZ.1 (by omega)
    · intro h
      have : 1 ≤ insV n c q := (insV_le (by decide)).2 fun i hi => by
        rw [(key i hi).2]
        have := sgZ_posZ.2 (h i)
        omega
      omega
end Go.Ev

/- The parts that a line leaves of a valid polygon: polygons on their sides, with no common inside. -/
namespace Go.Ev
theorem Cvx.rmod {n : Nat} {F : Nat → V4} {R : Nat → Int} (h : Cvx n F R) (i : Nat) : R (i % n) % 16 = R i % 16 := by
  have := h.liftM (i % n) (i / n)
  rw [Nat.mod_add_div] at this
  omega
/-- A convex polygon is a closed way of one turn. -/
theorem cvx_cv {n : Nat} {c : Nat → Nat → Int} (h : CvxP n (pAt c)) : CV n c ∧ 3 ≤ n ∧ n ≤ 16 := by
  obtain ⟨F, R, O, h1, h2, _⟩ := h
  have n0 := h1.n0
  have hd : ∀ i, i < n → dirA n c i = R i % 16 := fun i hi => by
    have hj := Nat.mod_lt (i + 1) n0
    exact (h2 i hi).dir (by rw [← h1.mod (i + 1)]; exact h2 _ hj) (dir16 _) (h1.dir i)
  have ht : ∀ i, i < n → trn n c i = R (i + 1) - R i := fun i hi => by
    have hj := Nat.mod_lt (i + 1) n0
    have t := h1.turn i
    unfold trn
    rw [hd i hi, hd _ hj, h1.rmod]
    omega
  have hs : ∀ k, k ≤ n → sumN (trn n c) k = R k - R 0 := by
    intro k
    induction k with
    | zero => intro _; simp [sumN]
    | succ k ih => intro hk; simp only [sumN]; rw [ih (by omega), ht k (by omega)]; omega
  have hl := h1.lift 0
  rw [Nat.zero_add] at hl
  have hm := h1.mono 0 n
  rw [Nat.zero_add] at hm
  refine ⟨⟨fun i hi => by rw [hd i hi]; exact dir16 _, fun i hi => by rw [ht i hi]; exact inB_iff.2 (h1.turn i), by rw [hs n (Nat.le_refl _)]; omega⟩, ?_, by omega⟩
  rcases (show n = 1 ∨ n = 2 ∨ 3 ≤ n by omega) with e | e | e
  · subst e
    have := h1.turn 0
    rw [Nat.zero_add] at this
    omega
  · subst e
    have a := h1.turn 0
    have b := h1.turn 1
    rw [Nat.zero_add] at a
    rw [show 1 + 1 = 2 by omega] at b
    omega
  · exact e
theorem cp_congr {n : Nat} {c d : Nat → Nat → Int} (h : ∀ i, i < n → pAt c i = pAt d i) (hv : vpS n d = true) : vpS n c = true := by
  obtain ⟨⟨h3, h16⟩, v, cv, l⟩ := vp_iff.1 hv
  have dA : ∀ i, i < n → dirA n c i = dirA n d i := fun i hi => dirA_congr h hi
  have tr : ∀ i, i < n → trn n c i = trn n d i := fun i hi => by unfold trn; rw [dA i hi, dA _ (Nat.mod_lt _ (by omega))]
  refine vp_iff.2 ⟨⟨h3, h16⟩, fun i hi => by rw [h i hi]; exact v i hi, ⟨fun i hi => by rw [dA i hi]; exact cv.d i hi, fun i hi => by rw [tr i hi]; exact cv.t i hi, by rw [sumN_congr n tr]; exact cv.s⟩, fun j h0 hj => by rw [h j hj, h 0 (by omega)]; exact l j h0 hj⟩
theorem insN_congr {n : Nat} {p q : Nat → P2} (h : CvxP n p) (e : ∀ i, i < n → q i = p i) (P : V4) : (InsN n q P ↔ InsN n p P) ∧ (IntN n q P ↔ IntN n p P) :=
  insN_shift h 0 (fun i hi => by rw [Nat.add_zero, Nat.mod_eq_of_lt hi]; exact e i hi) P
theorem corner_ins {n : Nat} {p : Nat → P2} {F : Nat → V4} {R : Nat → Int} (h : Cvx n F R) (hp : ∀ i, i < n → Pt (p i) (F i)) (i : Nat) : InsN n p (F i) := ⟨F, R, h, hp, h.corner i⟩
/-- A valid line has bounds. -/
theorem side_of {l : Ln} {sd : Int} (hl : l.valid = true) (hs : sd = 1 ∨ sd = -1) : ∃ A B, Side l sd A B := by
  unfold Ln.valid at hl
  rw [Bool.and_eq_true] at hl
  obtain ⟨A, B, h⟩ := valid_vb hl.2
  exact ⟨A, B, hl.1, h.more (by decide), valid_low hl.2, hs⟩
/-- What the program's part of a polygon is. -/
structure PartOk (l : Ln) (sd A B : Int) (n : Nat) (c : Nat → Nat → Int) : Prop where
  v : vpS (cutN l sd n c) (cutI l sd n c) = true
  cv : CvxP (cutN l sd n c) (pAt (cutI l sd n c))
  r : ∀ P, (InsN (cutN l sd n c) (pAt (cutI l sd n c)) P ↔ InsN n (pAt c) P ∧ (hpL l sd A B).nn P) ∧ (IntN (cutN l sd n c) (pAt (cutI l sd n c)) P ↔ IntN n (pAt c) P ∧ (hpL l sd A B).pos P)
  s : (∃ i, i < n ∧ hfA l sd (pAt c i) < 0) → ∃ k, k < cutN l sd n c ∧ dirA (cutN l sd n c) (cutI l sd n c) k = (hpL l sd A B).E ∧ hfA l sd (pAt (cutI l sd n c) k) = 0
theorem cut_part {l : Ln} {sd A B : Int} {n : Nat} {c : Nat → Nat → Int} (sl : Side l sd A B) (ho : cutO l n c = true) (h0 : 0 < cutN l sd n c) : PartOk l sd A B n c := by
  have ho' := ho
  unfold cutO cutV cutK at ho'
  simp only [Bool.and_eq_true] at ho'
  obtain ⟨⟨hv, hl⟩, k1, k2⟩ := ho'
  have eN : cutN l sd n c = ptN l sd n c := by unfold cutN; rw [ho]; rfl
  have eI : cutI l sd n c = cqD (ptN l sd n c) (ptI l sd n c) := by unfold cutI; rw [ho]; rfl
  rw [eN] at h0
  have hh : (hfS l sd n c).has = true := by
    cases hh : (hfS l sd n c).has with
    | true => rfl
    | false => unfold ptN at h0; rw [hh] at h0; exact absurd h0 (Nat.lt_irrefl _)
  have em : ptN l sd n c = (hfS l sd n c).m := by unfold ptN; rw [hh]; rfl
  have eP : ptI l sd n c = nmR (hfS l sd n c).m (hfS l sd n c).d := by unfold ptI; rw [hh]; rfl
  have eS : ptS l sd n c = (hfS l sd n c).d := by unfold ptS; rw [hh]; rfl
  obtain ⟨m1, a1⟩ := hfS_list l sd n c
  obtain ⟨g1, g2, g3, g4⟩ := part_reg sl (cvx_valid hv) ((hfS_flag l sd n c).1 hh)
  rw [← m1] at g1 g3 g4
  have m0 := g1.n0
  have cd : CvxP (hfS l sd n c).m (pAt (hfS l sd n c).d) := g1.congr fun i hi => a1 i hi
  have hq : cqB (hfS l sd n c).m (hfS l sd n c).d = true := by
    rcases sl.s with e | e
    · rw [e] at em eS ⊢; rw [← em, ← eS]; exact k1
    · rw [e] at em eS ⊢; rw [← em, ← eS]; exact k2
  have low : ∀ i, i < (hfS l sd n c).m → redP (pAt (hfS l sd n c).d i) = pAt (hfS l sd n c).d i := fun i hi => by obtain ⟨_, _, _, _, hp, _⟩ := cd; exact (hp i hi).low
  have val : ∀ i, i < (hfS l sd n c).m → valP (pAt (hfS l sd n c).d i) = true := fun i hi => by
    have := allF_iff.1 hq i (Nat.zero_le _) (by omega)
    rwa [low i hi] at this
  obtain ⟨cvv, c3, c16⟩ := cvx_cv cd
  have vp := vp_rot c3 c16 val cvv
  have hlc := lc_lt (hfS l sd n c).d (hfS l sd n c).m 0 0 (hfS l sd n c).m (by omega) m0
  have eq : ∀ i, i < (hfS l sd n c).m → pAt (cutI l sd n c) i = pAt (nmR (hfS l sd n c).m (hfS l sd n c).d) i := fun i hi => by
    have hj := Nat.mod_lt (i + lcF (hfS l sd n c).d 0 (hfS l sd n c).m 0) m0
    rw [eI, em, cqD_at hi, eP]
    have e2 : pAt (nmR (hfS l sd n c).m (hfS l sd n c).d) i = pAt (hfS l sd n c).d ((i + lcF (hfS l sd n c).d 0 (hfS l sd n c).m 0) % (hfS l sd n c).m) := rot_pAt _ hlc hi
    rw [e2, low _ hj, val _ hj]
    rfl
  have eq2 : ∀ i, i < (hfS l sd n c).m → pAt (cutI l sd n c) i = (outL l sd n (pAt c)).getD ((i + lcF (hfS l sd n c).d 0 (hfS l sd n c).m 0) % (hfS l sd n c).m) zP := fun i hi => by
    rw [eq i hi]
    have e2 : pAt (nmR (hfS l sd n c).m (hfS l sd n c).d) i = pAt (hfS l sd n c).d ((i + lcF (hfS l sd n c).d 0 (hfS l sd n c).m 0) % (hfS l sd n c).m) := rot_pAt _ hlc hi
    rw [e2, a1 _ (Nat.mod_lt _ m0)]
  have eNm : cutN l sd n c = (hfS l sd n c).m := eN.trans em
  rw [← eNm] at eq eq2 vp g1 g3 g4
  refine ⟨cp_congr eq vp, g1.shift _ eq2, fun P => ?_, fun hneg => ?_⟩
  · have a := insN_shift g1 _ eq2 P
    exact ⟨a.1.trans (g3 P).1, a.2.trans (g3 P).2⟩
  · obtain ⟨k, h1, h2, h3⟩ := g4 hneg
    have hlc' : lcF (hfS l sd n c).d 0 (cutN l sd n c) 0 < cutN l sd n c := by rw [eNm]; exact hlc
    obtain ⟨r, hr, er⟩ := rot_surj hlc' h1
    have n0 : 0 < cutN l sd n c := by omega
    have hr1 := Nat.mod_lt (r + 1) n0
    refine ⟨r, hr, ?_, ?_⟩
    · unfold dirA
      rw [eq2 r hr, eq2 _ hr1, er, mod_add_one, er]
      exact h2
    · rw [eq2 r hr, er]; exact h3
/-- Where nothing is left, nothing is on that side. -/
theorem cut_none {l : Ln} {sd A B : Int} {n : Nat} {c : Nat → Nat → Int} (sl : Side l sd A B) (hv : vpS n c = true) (h0 : ptN l sd n c = 0) {P : V4} (hP : InsN n (pAt c) P) : ¬ (hpL l sd A B).pos P := by
  obtain ⟨F, R, O, h1, h2, h3⟩ := cvx_valid hv
  have hh : (hfS l sd n c).has = false := by
    cases hh : (hfS l sd n c).has with
    | false => rfl
    | true =>
      have := hf_has (l := l) (sd := sd) (n := n) (c := c) n 0 ⟨0, zeroC, false, false⟩ (fun h => by cases h) hh
      have em : ptN l sd n c = (hfS l sd n c).m := by unfold ptN; rw [hh]; rfl
      have e2 : 1 ≤ (hfS l sd n c).m := this
      omega
  refine h1.below sl.E.1 (fun i g => ?_) P ((insN_iff h1 h2 P).1.1 hP)
  have hi := Nat.mod_lt i h1.n0
  have : (hfS l sd n c).has = true := (hfS_flag l sd n c).2 ⟨i % n, hi, (sl.pos (h2 _ hi)).2 (by rw [h1.mod]; exact g)⟩
  rw [hh] at this
  cases this
/-- Something is left on one side at least. -/
theorem cut_some {l : Ln} {n : Nat} {c : Nat → Nat → Int} (hl : l.valid = true) (hv : vpS n c = true) : ¬ (ptN l 1 n c = 0 ∧ ptN l (-1) n c = 0) := by
  rintro ⟨z1, z2⟩
  obtain ⟨A, B, sl⟩ := side_of hl (.inl rfl)
  obtain ⟨A', B', sl'⟩ := side_of (sd := -1) hl (.inr rfl)
  obtain ⟨F, R, O, h1, h2, h3⟩ := cvx_valid hv
  obtain ⟨hE, _⟩ := sl.E
  have zero : ∀ i, (hpL l 1 A B).zero (F i) := fun i => by
    have hi := Nat.mod_lt i h1.n0
    have hp := h2 _ hi
    have n1 := cut_none sl hv z1 (corner_ins h1 h2 i)
    have n2 := cut_none sl' hv z2 (corner_ins h1 h2 i)
    rw [← h1.mod] at n1 n2 ⊢
    rw [← sl.pos hp] at n1
    rw [← sl'.pos hp] at n2
    refine (sl.zero hp).1 ?_
    have b1 := hfA_bd (l := l) (sd := 1) (.inl rfl) (pAt c (i % n))
    have b2 := hfA_bd (l := l) (sd := -1) (.inr rfl) (pAt c (i % n))
    omega
  refine h1.bent hE fun i => ?_
  obtain ⟨s1, s2⟩ := (hpL l 1 A B).sub hE (F (i + 1)) (F i)
  have a := zero (i + 1)
  have b := zero i
  rw [← s1, ← s2, a.1, a.2, b.1, b.2]
  exact ⟨rfl, rfl⟩
theorem hp_opp {l : Ln} {A B A' B' : Int} (sl : Side l 1 A B) (sl' : Side l (-1) A' B') (v : V4) : fA (hpL l (-1) A' B').E (hpL l (-1) A' B').C1 v = -fA (hpL l 1 A B).E (hpL l 1 A B).C1 v ∧ fB (hpL l (-1) A' B').E (hpL l (-1) A' B').C2 v = -fB (hpL l 1 A B).E (hpL l 1 A B).C2 v := by
  obtain ⟨f1, f2⟩ := sl.f v
  obtain ⟨g1, g2⟩ := sl'.f v
  obtain ⟨e1, e2⟩ := val_same sl.o.v sl'.o.v
  rw [f1, f2, g1, g2, e1, e2]
  omega
theorem opp_pos {l : Ln} {A B A' B' : Int} (sl : Side l 1 A B) (sl' : Side l (-1) A' B') (v : V4) : ((hpL l (-1) A' B').pos v ↔ (hpL l 1 A B).neg v) ∧ ((hpL l (-1) A' B').nn v ↔ ¬ (hpL l 1 A B).pos v) ∧ ((hpL l (-1) A' B').neg v ↔ (hpL l 1 A B).pos v) := by
  obtain ⟨o1, o2⟩ := hp_opp sl sl' v
  have k1 : (hpL l (-1) A' B').pos v ↔ (hpL l 1 A B).neg v := by unfold Hp.pos Hp.neg; rw [o1, o2]
  have k3 : (hpL l (-1) A' B').neg v ↔ (hpL l 1 A B).pos v := by unfold Hp.pos Hp.neg; rw [o1, o2, Int.neg_neg, Int.neg_neg]
  refine ⟨k1, ?_, k3⟩
  rw [Hp.nn_iff, k3]
end Go.Ev
namespace Go.Ev
/-- A polygon above a line does not overlap one that has a side on it and lies below. -/
theorem common_none {l : Ln} {A B A' B' : Int} (sl : Side l 1 A B) (sl' : Side l (-1) A' B') {m : Nat} {b : Nat → Nat → Int} (hb : vpS m b = true) {j0 : Nat} (hj0 : j0 < m) (hd : dirA m b j0 = l.d + 8) (ho : offV l.d (pAt b j0) = l.o) :
    ∀ r j n d, j + r = m → j ≤ j0 → CvxP n (pAt d) → (∀ P, InsN n (pAt d) P → (hpL l 1 A B).nn P) → (cmI m b j r n d).1 = 0 := by
  have hld := inB_iff.1 sl.d
  intro r
  induction r with
  | zero => intro j n d h1 h2; omega
  | succ r ih =>
    intro j n d h1 h2 cv hP
    simp only [cmI]
    obtain ⟨_, A2, B2, sj⟩ := side_valid hb (show j < m by omega)
    by_cases e : ptN (bLn m b j) (bSd m b j) n d = 0
    · rw [e]; rfl
    · rw [show (((ptN (bLn m b j) (bSd m b j) n d : Nat) : Int) == 0) = false by simpa using e]
      by_cases ej : j = j0
      · exfalso
        have el : bLn m b j = l := by
          rw [ej]
          unfold bLn
          rw [hd, show (l.d + 8) % 8 = l.d by omega, ho]
        have es : bSd m b j = -1 := by
          rw [ej]
          unfold bSd
          rw [hd, decide_eq_false (by omega)]
          rfl
        rw [el, es] at e
        have hh : (hfS l (-1) n d).has = true := by
          cases hh : (hfS l (-1) n d).has with
          | true => rfl
          | false => exact absurd (show ptN l (-1) n d = 0 by unfold ptN; rw [hh]; rfl) e
        obtain ⟨i, hi, gi⟩ := (hfS_flag l (-1) n d).1 hh
        obtain ⟨F, R, O, c1, c2, c3⟩ := cv
        have p := (sl'.pos (c2 i hi)).1 gi
        have q := hP _ (corner_ins c1 c2 i)
        exact Hp.nn_iff.1 q ((opp_pos sl sl' _).1.1 p)
      · -- the part is a part: still above
        have hh : (hfS (bLn m b j) (bSd m b j) n d).has = true := by
          cases hh : (hfS (bLn m b j) (bSd m b j) n d).has with
          | true => rfl
          | false => exact absurd (show ptN (bLn m b j) (bSd m b j) n d = 0 by unfold ptN; rw [hh]; rfl) e
        obtain ⟨_, _, _, _, k5⟩ := part_rot sj cv (Rot.refl cv.n0 d)
        obtain ⟨g1, g2⟩ := k5 (by omega)
        obtain ⟨r1, _, r3, _⟩ := part_reg sj cv ((hfS_flag _ _ n d).1 hh)
        obtain ⟨m1, a1⟩ := hfS_list (bLn m b j) (bSd m b j) n d
        have em : ptN (bLn m b j) (bSd m b j) n d = (hfS (bLn m b j) (bSd m b j) n d).m := by unfold ptN; rw [hh]; rfl
        have eS : ptS (bLn m b j) (bSd m b j) n d = (hfS (bLn m b j) (bSd m b j) n d).d := by unfold ptS; rw [hh]; rfl
        refine ih (j + 1) _ _ (by omega) (by omega) (g1.of_rot g2) fun P hq => hP P ?_
        obtain ⟨k, hk, gk⟩ := g2
        have q1 := (insN_shift g1 k gk P).1.1 hq
        rw [← m1] at r1 r3
        rw [em, eS] at q1
        have q2 := (insN_congr r1 (q := pAt (hfS (bLn m b j) (bSd m b j) n d).d) (fun i hi => a1 i hi) P).1.1 q1
        exact ((r3 P).1.1 q2).1
/-- The two parts of a polygon do not overlap. -/
theorem parts_apart {l : Ln} {n : Nat} {c : Nat → Nat → Int} (ho : cutO l n c = true) (h1 : 0 < cutN l 1 n c) (h2 : 0 < cutN l (-1) n c) : (inD (cutN l 1 n c) (cutI l 1 n c) (cutN l (-1) n c) (cutI l (-1) n c)).1 = 0 := by
  have ho' := ho
  unfold cutO cutV at ho'
  simp only [Bool.and_eq_true] at ho'
  obtain ⟨⟨hv, hl⟩, _⟩ := ho'
  obtain ⟨A, B, sl⟩ := side_of hl (.inl rfl)
  obtain ⟨A', B', sl'⟩ := side_of (sd := -1) hl (.inr rfl)
  have pa := cut_part sl ho h1
  have pb := cut_part sl' ho h2
  have hld := inB_iff.1 sl.d
  -- the polygon reaches above the line, since something is left there
  have up : ∃ i, i < n ∧ hfA l (-1) (pAt c i) < 0 := by
    have eN : cutN l 1 n c = ptN l 1 n c := by unfold cutN; rw [ho]; rfl
    have hh : (hfS l 1 n c).has = true := by
      cases hh : (hfS l 1 n c).has with
      | true => rfl
      | false =>
        have : ptN l 1 n c = 0 := by unfold ptN; rw [hh]; rfl
        omega
    obtain ⟨i, hi, g⟩ := (hfS_flag l 1 n c).1 hh
    refine ⟨i, hi, ?_⟩
    have b1 := hfA_bd (l := l) (sd := 1) (.inl rfl) (pAt c i)
    have b2 := hfA_bd (l := l) (sd := -1) (.inr rfl) (pAt c i)
    omega
  obtain ⟨k, k1, k2, k3⟩ := pb.s up
  have eE : (hpL l (-1) A' B').E = l.d + 8 := by unfold hpL; rw [if_neg (by omega)]
  rw [eE] at k2
  obtain ⟨F, R, O, c1, c2, c3⟩ := pb.cv
  have pk := c2 k k1
  have eo : offV l.d (pAt (cutI l (-1) n c) k) = l.o := by
    have z := (sl'.zero pk).1 k3
    obtain ⟨f1, f2⟩ := sl'.f (F k)
    have z1 := z.1
    have z2 := z.2
    rw [f1] at z1
    rw [f2] at z2
    exact On.off ⟨A', B', sl'.o, by omega, by omega⟩ sl'.d sl'.lo pk
  exact common_none sl sl' pb.v k1 k2 eo (cutN l (-1) n c) 0 _ _ (by omega) (Nat.zero_le _) pa.cv fun P hP => ((pa.r P).1.1 hP).2
end Go.Ev

/- The law of cutting a polygon, in plain Lean. -/
namespace Go.Ev
def ipV (n : Nat) (c : Nat → Nat → Int) (q : P2) : Int := cond (!(vpS n c)) (-1) (cond (!(valP q)) (-1) (insV n c q))
def ovV (n : Nat) (a : Nat → Nat → Int) (m : Nat) (b : Nat → Nat → Int) : Bool := inV n a m b && decide (0 < (inD n a m b).1)
theorem vpS_zero (c : Nat → Nat → Int) : vpS 0 c = false := rfl
theorem ipV_val {n : Nat} {c : Nat → Nat → Int} {q : P2} (hv : vpS n c = true) (hq : valP q = true) : ipV n c q = insV n c q := by unfold ipV; rw [hv, hq]; rfl
theorem ipV_none {n : Nat} {c : Nat → Nat → Int} {q : P2} (hv : vpS n c = false) : ipV n c q = -1 := by unfold ipV; rw [hv]; rfl
theorem so_hf {l : Ln} {p : P2} (hl : l.valid = true) (hp : valP p = true) : soV l p = hfA l 1 p := by
  have b := hfA_bd (l := l) (sd := 1) (.inl rfl) p
  rw [b.1, Int.one_mul]
  unfold soV
  rw [hl, hp]
  rfl
theorem hf_opp (l : Ln) (p : P2) : hfA l (-1) p = -hfA l 1 p := by
  have b1 := hfA_bd (l := l) (sd := 1) (.inl rfl) p
  have b2 := hfA_bd (l := l) (sd := -1) (.inr rfl) p
  omega
theorem val_pt {p : P2} (h : valP p = true) : ∃ P, Pt p P := by
  obtain ⟨v, hv⟩ := valP_pv h
  exact ⟨_, pt_valid h hv⟩
/-- What the law of cutting asks of a valid polygon and a valid line that can be cut. -/
structure CutLaw (l : Ln) (n : Nat) (c : Nat → Nat → Int) : Prop where
  some' : ¬ (cutN l 1 n c = 0 ∧ cutN l (-1) n c = 0)
  va : 0 < cutN l 1 n c → vpS (cutN l 1 n c) (cutI l 1 n c) = true
  vb : 0 < cutN l (-1) n c → vpS (cutN l (-1) n c) (cutI l (-1) n c) = true
  ca : ∀ i, i < cutN l 1 n c → 0 ≤ soV l (pAt (cutI l 1 n c) i) ∧ 0 ≤ ipV n c (pAt (cutI l 1 n c) i)
  cb : ∀ i, i < cutN l (-1) n c → soV l (pAt (cutI l (-1) n c) i) ≤ 0 ∧ 0 ≤ ipV n c (pAt (cutI l (-1) n c) i)
  cc : ∀ i, i < n → ¬ (ipV (cutN l 1 n c) (cutI l 1 n c) (pAt c i) < 0 ∧ ipV (cutN l (-1) n c) (cutI l (-1) n c) (pAt c i) < 0)
  out : ∀ p, valP p = true → ipV n c p < 0 → ipV (cutN l 1 n c) (cutI l 1 n c) p < 0 ∧ ipV (cutN l (-1) n c) (cutI l (-1) n c) p < 0
  inn : ∀ p, valP p = true → 0 ≤ ipV n c p → (soV l p ≤ 0 ∨ ipV (cutN l 1 n c) (cutI l 1 n c) p = ipV n c p) ∧ (0 ≤ soV l p ∨ ipV (cutN l (-1) n c) (cutI l (-1) n c) p = ipV n c p)
  ov : ovV (cutN l 1 n c) (cutI l 1 n c) (cutN l (-1) n c) (cutI l (-1) n c) = false
theorem vp_val {n : Nat} {c : Nat → Nat → Int} (h : vpS n c = true) {i : Nat} (hi : i < n) : valP (pAt c i) = true := (vp_iff.1 h).2.1 i hi
theorem corner_pt {n : Nat} {c : Nat → Nat → Int} (h : vpS n c = true) {i : Nat} (hi : i < n) : ∃ P, Pt (pAt c i) P ∧ InsN n (pAt c) P := by
  obtain ⟨F, R, O, h1, h2, _⟩ := cvx_valid h
  exact ⟨F i, h2 i hi, corner_ins h1 h2 i⟩
/-- One part: its corners, and the points on its side. -/
theorem part_pts {l : Ln} {sd A B : Int} {n : Nat} {c : Nat → Nat → Int} (sl : Side l sd A B) (ho : cutO l n c = true) (hv : vpS n c = true) :
    (∀ i, i < cutN l sd n c → 0 ≤ hfA l sd (pAt (cutI l sd n c) i) ∧ valP (pAt (cutI l sd n c) i) = true ∧ 0 ≤ ipV n c (pAt (cutI l sd n c) i)) ∧
    (∀ p, valP p = true → 0 ≤ ipV (cutN l sd n c) (cutI l sd n c) p → 0 ≤ ipV n c p) ∧
    (∀ p, valP p = true → 0 ≤ ipV n c p → 0 < cutN l sd n c → 0 ≤ hfA l sd p → 0 ≤ ipV (cutN l sd n c) (cutI l sd n c) p) ∧
    (∀ p, valP p = true → 0 ≤ ipV n c p → 0 < hfA l sd p → ipV (cutN l sd n c) (cutI l sd n c) p = ipV n c p) := by
  have eN : cutN l sd n c = ptN l sd n c := by unfold cutN; rw [ho]; rfl
  -- the tests by values
  have key : 0 < cutN l sd n c → ∀ p P, valP p = true → Pt p P → (0 ≤ ipV (cutN l sd n c) (cutI l sd n c) p ↔ 0 ≤ ipV n c p ∧ 0 ≤ hfA l sd p) ∧ (ipV (cutN l sd n c) (cutI l sd n c) p = 1 ↔ ipV n c p = 1 ∧ 0 < hfA l sd p) := fun h0 p P hp hP => by
    have pa := cut_part sl ho h0
    obtain ⟨a1, a2, _⟩ := ins_val pa.v hp hP
    obtain ⟨b1, b2, _⟩ := ins_val hv hp hP
    rw [ipV_val pa.v hp, ipV_val hv hp]
    have r := pa.r P
    constructor
    · rw [a1, b1, r.1, Hp.nn_iff, ← sl.neg hP]
      constructor
      · rintro ⟨g1, g2⟩; exact ⟨g1, by omega⟩
      · rintro ⟨g1, g2⟩; exact ⟨g1, by omega⟩
    · rw [a2, b2, r.2, sl.pos hP]
  refine ⟨fun i hi => ?_, fun p hp h => ?_, fun p hp h h0 hs => ?_, fun p hp h hs => ?_⟩
  · have pa := cut_part sl ho (show 0 < cutN l sd n c by omega)
    obtain ⟨P, p1, p2⟩ := corner_pt pa.v hi
    have hq := vp_val pa.v hi
    have q := (key (by omega) _ P hq p1).1.1 (by rw [ipV_val pa.v hq]; exact (ins_val pa.v hq p1).1.2 p2)
    exact ⟨q.2, hq, q.1⟩
  · obtain ⟨P, hP⟩ := val_pt hp
    by_cases h0 : 0 < cutN l sd n c
    · exact ((key h0 p P hp hP).1.1 h).1
    · have z : cutN l sd n c = 0 := by omega
      rw [z, ipV_none (vpS_zero _)] at h
      omega
  · obtain ⟨P, hP⟩ := val_pt hp
    exact (key h0 p P hp hP).1.2 ⟨h, hs⟩
  · obtain ⟨P, hP⟩ := val_pt hp
    have hI : InsN n (pAt c) P := (ins_val hv hp hP).1.1 (by rw [ipV_val hv hp] at h; exact h)
    by_cases h0 : 0 < cutN l sd n c
    · have pa := cut_part sl ho h0
      have k := key h0 p P hp hP
      have x := k.1.2 ⟨h, by omega⟩
      have b1 := insV_bd n c p
      have b2 := insV_bd (cutN l sd n c) (cutI l sd n c) p
      rw [← ipV_val hv hp] at b1
      rw [← ipV_val pa.v hp] at b2
      by_cases e : ipV n c p = 1
      · rw [e, k.2.2 ⟨e, hs⟩]
      · have : ipV (cutN l sd n c) (cutI l sd n c) p ≠ 1 := fun g => e (k.2.1 g).1
        omega
    · exact absurd ((sl.pos hP).1 hs) (cut_none sl hv (by omega) hI)
theorem cut_law {l : Ln} {n : Nat} {c : Nat → Nat → Int} (ho : cutO l n c = true) : CutLaw l n c := by
  have ho' := ho
  unfold cutO cutV at ho'
  simp only [Bool.and_eq_true] at ho'
  obtain ⟨⟨hv, hl⟩, _⟩ := ho'
  obtain ⟨A, B, sl⟩ := side_of hl (.inl rfl)
  obtain ⟨A', B', sl'⟩ := side_of (sd := -1) hl (.inr rfl)
  obtain ⟨a1, a2, a3, a4⟩ := part_pts sl ho hv
  obtain ⟨b1, b2, b3, b4⟩ := part_pts sl' ho hv
  have e1 : cutN l 1 n c = ptN l 1 n c := by unfold cutN; rw [ho]; rfl
  have e2 : cutN l (-1) n c = ptN l (-1) n c := by unfold cutN; rw [ho]; rfl
  have sm : ¬ (cutN l 1 n c = 0 ∧ cutN l (-1) n c = 0) := by rw [e1, e2]; exact cut_some hl hv
  refine ⟨sm, fun h => (cut_part sl ho h).v, fun h => (cut_part sl' ho h).v, fun i hi => ?_, fun i hi => ?_, fun i hi => ?_, fun p hp h => ?_, fun p hp h => ?_, ?_⟩
  · obtain ⟨g1, g2, g3⟩ := a1 i hi
    exact ⟨by rw [so_hf hl g2]; exact g1, g3⟩
  · obtain ⟨g1, g2, g3⟩ := b1 i hi
    rw [hf_opp] at g1
    exact ⟨by rw [so_hf hl g2]; omega, g3⟩
  · rintro ⟨g1, g2⟩
    obtain ⟨P, p1, p2⟩ := corner_pt hv hi
    have hq := vp_val hv hi
    have h0 : 0 ≤ ipV n c (pAt c i) := by rw [ipV_val hv hq]; exact (ins_val hv hq p1).1.2 p2
    have x4 := a4 _ hq h0
    have y4 := b4 _ hq h0
    have x3 := a3 _ hq h0
    have y3 := b3 _ hq h0
    rw [hf_opp] at y3 y4
    rcases Int.lt_trichotomy (hfA l 1 (pAt c i)) 0 with t | t | t
    · have := y4 (by omega); omega
    · by_cases z : 0 < cutN l 1 n c
      · have := x3 z (by omega); omega
      · have := y3 (by omega) (by omega); omega
    · have := x4 t; omega
  · refine ⟨?_, ?_⟩
    · rcases Int.lt_or_le (ipV (cutN l 1 n c) (cutI l 1 n c) p) 0 with g | g
      · exact g
      · have := a2 p hp g; omega
    · rcases Int.lt_or_le (ipV (cutN l (-1) n c) (cutI l (-1) n c) p) 0 with g | g
      · exact g
      · have := b2 p hp g; omega
  · rw [so_hf hl hp]
    refine ⟨?_, ?_⟩
    · rcases Int.lt_or_le 0 (hfA l 1 p) with g | g
      · exact .inr (a4 p hp h g)
      · exact .inl g
    · rcases Int.lt_or_le (hfA l 1 p) 0 with g | g
      · exact .inr (b4 p hp h (by rw [hf_opp]; omega))
      · exact .inl g
  · unfold ovV
    cases hi : inV (cutN l 1 n c) (cutI l 1 n c) (cutN l (-1) n c) (cutI l (-1) n c) with
    | false => rfl
    | true =>
      unfold inV at hi
      rw [Bool.and_eq_true] at hi
      have h1 := (vp_iff.1 hi.1).1
      have h2 := (vp_iff.1 hi.2).1
      rw [parts_apart ho (by omega) (by omega)]
      rfl
end Go.Ev

/- Drawn polygons: a square, cut by lines; what is drawn of two polygons and a line. -/
namespace Go.Ev
theorem eqP_iff {p q : P2} : eqP p q = true ↔ p = q := by
  constructor
  · intro h
    obtain ⟨⟨a1, a2, a3⟩, ⟨a4, a5, a6⟩⟩ := p
    obtain ⟨⟨b1, b2, b3⟩, ⟨b4, b5, b6⟩⟩ := q
    simp only [eqP, eq3] at h
    simp only [P2.mk.injEq, N3.mk.injEq]
    cases h1 : a1 == b1 <;> cases h2 : a2 == b2 <;> cases h3 : a3 == b3 <;> cases h4 : a4 == b4 <;> cases h5 : a5 == b5 <;> cases h6 : a6 == b6 <;> simp_all
  · rintro rfl; exact eqP_self p
theorem eqPS_at {n m : Nat} {c d : Nat → Nat → Int} (h : eqPS n c m d = true) : n = m ∧ ∀ i, i < n → pAt c i = pAt d i := by
  unfold eqPS at h
  rw [Bool.and_eq_true] at h
  refine ⟨of_decide_eq_true h.1, fun i hi => eqP_iff.1 (allF_iff.1 h.2 i (Nat.zero_le _) (by omega))⟩
/-- A polygon's corners in a list. -/
structure Pg where
  n : Nat
  c : Nat → Nat → Int
def Pg.av (g : Pg) : AV := .arr g.n [.int .i64, .int .i64, .int .i64, .int .i64, .int .i64, .int .i64] g.c
def Pg.ok (g : Pg) : Bool := vpS g.n g.c
def sqC (n : Int) : Nat → Nat → Int := fun i j => (([[0, 0, 0, 0, 0, 0], [n, 0, 0, 0, 0, 0], [n, 0, 0, n, 0, 0], [0, 0, 0, n, 0, 0]] : List (List Int)).getD i []).getD j 0
theorem sq_valid {n : Int} (h : n = 1 ∨ n = 2 ∨ n = 4 ∨ n = 8) : vpS 4 (sqC n) = true := by rcases h with rfl | rfl | rfl | rfl <;> decide +kernel
def lQ : List Int := [2, 4, 4, 8, 1]
theorem lQ_in {s : Src} : vpS 4 (sqC (lQ.getD (pickV 5 s).1.toNat 0)) = true := by
  have := pick_in (s := s) (m := 5) (by decide)
  refine sq_valid ?_
  rcases (show (pickV 5 s).1 = 0 ∨ (pickV 5 s).1 = 1 ∨ (pickV 5 s).1 = 2 ∨ (pickV 5 s).1 = 3 ∨ (pickV 5 s).1 = 4 by omega) with e | e | e | e | e <;> rw [e] <;> simp [lQ]
/-- What is left of a polygon is one, as the reference has it. -/
theorem cutT_valid {l : Ln} {sd : Int} {n : Nat} {c : Nat → Nat → Int} (hs : sd = 1 ∨ sd = -1) (ho : cutO l n c = true) (h0 : 0 < cutN l sd n c) : vpS (cutN l sd n c) (cutT l sd n c) = true := by
  have ho' := ho
  unfold cutO cutV at ho'
  simp only [Bool.and_eq_true] at ho'
  obtain ⟨A, B, sl⟩ := side_of ho'.1.2 hs
  obtain ⟨_, e⟩ := eqPS_at (cut_same (l := l) (n := n) (c := c) hs).2
  exact cp_congr (fun i hi => (e i hi).symm) (cut_part sl ho h0).v
theorem laL_valid {p : P2} {d : Int} (h : laO p d = true) : (laL p d).valid = true := by
  unfold laL Ln.valid
  rw [h]
  unfold laO at h
  simp only [Bool.and_eq_true] at h
  show (inB d 0 7 && validB (offV d p)) = true
  rw [h.1.2, h.2]
  rfl
theorem ite_min (x y : Int) : (if y < x then y else x) = min x y := by
  by_cases h : y < x
  · rw [if_pos h]; omega
  · rw [if_neg h]; omega

/-- A source's parts, put together again. -/
@[reducible] def eS (s : Src) : Src := ⟨s.n, s.c, s.p, s.z⟩
/-- From a region in a loop on: n rounds are left behind this one. -/
def fromL (P : Program) (GL : Nat → AV) (Γ : List (Nat × Ctr)) (k : Nat) (cfg : Cfg) (args : List AV) (fn : Func) (i n id : Nat) (s : List AV) : Option AV :=
  spotAt (spots P GL Γ fn.ntmps (vOf fn args) k (cfg.at (vOf fn args)) (loopW P GL Γ k cfg args fn i).1 fun e s' => match e with
    | .norm => runW P GL Γ k cfg args fn i n (forget fn.ntmps (vOf fn args) cfg.keep s')
    | .exit j => (loopW P GL Γ k cfg args fn i).2 (.exit j) s'
    | .ret => (loopW P GL Γ k cfg args fn i).2 .ret s') id s

/-! ### a polygon drawn: one round -/
section
variable (Rn : Nat → (Nat → Nat → Int) → Src → Option AV)
def pdN (L : Ln) (sd : Int) (m : Nat) (c : Nat → Nat → Int) : Nat := cond (cqB (ptN L sd m c) (ptS L sd m c)) (ptN L sd m c) 0
def pdC (L : Ln) (sd : Int) (m : Nat) (c : Nat → Nat → Int) : Nat → Nat → Int := cond (cqB (ptN L sd m c) (ptS L sd m c) && Nat.blt 0 (ptN L sd m c)) (ctD (ptN L sd m c) (ptS L sd m c)) zeroC
def pdL (L : Ln) (m : Nat) (c : Nat → Nat → Int) (s : Src) : Option AV := cond (decide (((pdN L (-1) m c : Nat) : Int) > 0)) (Rn (pdN L (-1) m c) (pdC L (-1) m c) s) (Rn m c s)
def pdT (L : Ln) (m : Nat) (c : Nat → Nat → Int) (s : Src) : Option AV := cond (cutV L m c) (cond (!(cqB (ptN L 1 m c) (ptS L 1 m c) && cqB (ptN L (-1) m c) (ptS L (-1) m c))) (Rn m c s)
  (cond (decide (((pdN L 1 m c : Nat) : Int) > 0)) (cond (pB 2 s.p) (cond ((pickV 2 s).1 == 0) (Rn (pdN L 1 m c) (pdC L 1 m c) (pickV 2 s).2) (pdL Rn L m c (pickV 2 s).2)) none) (pdL Rn L m c s))) none
def pdF (m : Nat) (c : Nat → Nat → Int) (s : Src) : Option AV := cond (pB 20 s.p) (cond (pB 2 (lineV s).2.p) (cond ((pickV 2 (lineV s).2).1 == 0)
  (cond (pB 2 (pickV 2 (lineV s).2).2.p) (cond (decide (0 ≤ (pickV (m : Int) (pickV 2 (lineV s).2).2).1) && decide ((pickV (m : Int) (pickV 2 (lineV s).2).2).1 < (m : Int))) (cond (pB 2 (pickV (m : Int) (pickV 2 (lineV s).2).2).2.p)
    (cond (laO (pAt c (pickV (m : Int) (pickV 2 (lineV s).2).2).1.toNat) (pickV 8 (pickV (m : Int) (pickV 2 (lineV s).2).2).2).1)
      (pdT Rn (laL (pAt c (pickV (m : Int) (pickV 2 (lineV s).2).2).1.toNat) (pickV 8 (pickV (m : Int) (pickV 2 (lineV s).2).2).2).1) m c (pickV 8 (pickV (m : Int) (pickV 2 (lineV s).2).2).2).2)
      (pdT Rn (lineV s).1 m c (pickV 8 (pickV (m : Int) (pickV 2 (lineV s).2).2).2).2)) none) none) none)
  (pdT Rn (lineV s).1 m c (pickV 2 (lineV s).2).2)) none) none
variable {Rn}
theorem pd_valid {L : Ln} {sd : Int} {m : Nat} {c : Nat → Nat → Int} (hs : sd = 1 ∨ sd = -1) (hv : cutV L m c = true) (hk : (cqB (ptN L 1 m c) (ptS L 1 m c) && cqB (ptN L (-1) m c) (ptS L (-1) m c)) = true) (h0 : 0 < pdN L sd m c) : vpS (pdN L sd m c) (pdC L sd m c) = true := by
  have ho : cutO L m c = true := by unfold cutO cutK; rw [hv, hk]; rfl
  have hq : cqB (ptN L sd m c) (ptS L sd m c) = true := by
    rw [Bool.and_eq_true] at hk
    rcases hs with e | e
    · rw [e]; exact hk.1
    · rw [e]; exact hk.2
  have eN : pdN L sd m c = cutN L sd m c := by unfold pdN cutN; rw [hq, ho]
  have eC : pdC L sd m c = cutT L sd m c := by unfold pdC cutT; rw [hq, ho]
  rw [eN] at h0 ⊢
  rw [eC]
  exact cutT_valid hs ho h0
theorem pdT_ok {P : Option AV → Prop} {L : Ln} {m : Nat} {c : Nat → Nat → Int} {s : Src} (hv : vpS m c = true) (hL : L.valid = true) (hp : pB 2 s.p = true) (hR : ∀ m' c' s', vpS m' c' = true → 0 ≤ s'.p → s'.p ≤ s.p + 2 → P (Rn m' c' s')) : P (pdT Rn L m c s) := by
  have hp' := pB_iff.1 hp
  have hV : cutV L m c = true := by unfold cutV; rw [hv, hL]; rfl
  have last : ∀ s' : Src, 0 ≤ s'.p → s'.p ≤ s.p + 2 → (cqB (ptN L 1 m c) (ptS L 1 m c) && cqB (ptN L (-1) m c) (ptS L (-1) m c)) = true → P (pdL Rn L m c s') := fun s' q1 q2 hk => by
    unfold pdL
    by_cases z : 0 < pdN L (-1) m c
    · rw [show decide (((pdN L (-1) m c : Nat) : Int) > 0) = true from decide_eq_true (by omega)]
      exact hR _ _ _ (pd_valid (.inr rfl) hV hk z) q1 q2
    · rw [show decide (((pdN L (-1) m c : Nat) : Int) > 0) = false from decide_eq_false (by omega)]
      exact hR _ _ _ hv q1 q2
  unfold pdT
  rw [hV, cond_true]
  cases hk : (cqB (ptN L 1 m c) (ptS L 1 m c) && cqB (ptN L (-1) m c) (ptS L (-1) m c)) with
  | false => exact hR _ _ _ hv (by omega) (by omega)
  | true =>
    simp only [Bool.not_true, cond_false]
    by_cases z : 0 < pdN L 1 m c
    · rw [show decide (((pdN L 1 m c : Nat) : Int) > 0) = true from decide_eq_true (by omega), hp]
      have h1 := pick_on 2 hp (by decide)
      simp only [cond_true]
      cases (pickV 2 s).1 == 0 with
      | true => exact hR _ _ _ (pd_valid (.inl rfl) hV hk z) h1.1 h1.2
      | false => exact last _ h1.1 h1.2 hk
    · rw [show decide (((pdN L 1 m c : Nat) : Int) > 0) = false from decide_eq_false (by omega)]
      exact last _ (by omega) (by omega) hk
theorem pdF_ok {P : Option AV → Prop} {m : Nat} {c : Nat → Nat → Int} {s : Src} (hv : vpS m c = true) (hp : pB 28 s.p = true) (hR : ∀ m' c' s', vpS m' c' = true → 0 ≤ s'.p → s'.p ≤ s.p + 28 → P (Rn m' c' s')) : P (pdF Rn m c s) := by
  have hp' := pB_iff.1 hp
  obtain ⟨⟨h3, h16⟩, hval, _⟩ := vp_iff.1 hv
  obtain ⟨_, vl, h1⟩ := line_on hp (by decide)
  have p1 := pB_on hp h1 (by decide)
  have h2 := pick_on 2 p1 (by decide)
  have p2 := pB_on p1 h2 (by decide)
  have h3' := pick_on (m : Int) p2 (by decide)
  have p3 := pB_on p2 h3' (by decide)
  have h4 := pick_on 8 p3 (by decide)
  have p4 := pB_on p3 h4 (by decide)
  have hi := pick_in (s := (pickV 2 (lineV s).2).2) (m := (m : Int)) (by omega)
  unfold pdF
  rw [pB_less hp (show (20 : Int) ≤ 28 by decide), pB_less p1 (show (2 : Int) ≤ 28 - 20 by decide), pB_less p2 (show (2 : Int) ≤ 28 - 20 - 2 by decide), pB_less p3 (show (2 : Int) ≤ 28 - 20 - 2 - 2 by decide),
    decide_eq_true hi.1, decide_eq_true hi.2]
  simp only [cond_true, Bool.and_self]
  cases (pickV 2 (lineV s).2).1 == 0 with
  | false => exact pdT_ok (P := P) hv vl (pB_less p2 (by decide)) fun m' c' s' v q1 q2 => hR m' c' s' v q1 (by omega)
  | true =>
    simp only [cond_true]
    cases ho : laO (pAt c (pickV (m : Int) (pickV 2 (lineV s).2).2).1.toNat) (pickV 8 (pickV (m : Int) (pickV 2 (lineV s).2).2).2).1 with
    | false => exact pdT_ok (P := P) hv vl p4 fun m' c' s' v q1 q2 => hR m' c' s' v q1 (by omega)
    | true => exact pdT_ok (P := P) hv (laL_valid ho) p4 fun m' c' s' v q1 q2 => hR m' c' s' v q1 (by omega)
end
/-- One corner, moved. -/
def mvdG (c : Nat → Nat → Int) (x y : N3) (i : Nat) : List Int :=
  let u := sel (validB (pAt c i).x && validB x) (chk (addF (pAt c i).x x))
  let w := sel (validB (pAt c i).y && validB y) (chk (addF (pAt c i).y y))
  [u.a, u.b, u.k, w.a, w.b, w.k]
end Go.Ev

/- A convex polygon is told by its region. -/
namespace Go.Ev
section
variable {n : Nat} {F : Nat → V4} {R : Nat → Int}
section
variable {m : Nat} {G : Nat → V4} {S : Nat → Int}
end
end
end Go.Ev

/- The region of the intersection of two polygons; it does not depend on the order. -/
namespace Go.Ev
end Go.Ev
