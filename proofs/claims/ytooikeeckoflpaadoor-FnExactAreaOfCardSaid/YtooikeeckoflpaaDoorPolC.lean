/- The two checks of a polygon agree. -/
import Derived.Test.YtooikeeckoflpaaDoorPolB
set_option linter.unusedVariables false
set_option linter.unusedSimpArgs false
namespace Go.Ev

def sumN (t : Nat → Int) : Nat → Int
  | 0 => 0
  | k + 1 => sumN t k + t k
theorem sumN_shift (t : Nat → Int) : ∀ m, sumN t (m + 1) = t 0 + sumN (fun j => t (j + 1)) m := by
  intro m
  induction m with
  | zero => simp [sumN]
  | succ m ih =>
    have e : sumN t (m + 1 + 1) = sumN t (m + 1) + t (m + 1) := rfl
    rw [e, ih]
    simp only [sumN]
    omega
theorem sumN_congr {t u : Nat → Int} : ∀ m, (∀ j, j < m → t j = u j) → sumN t m = sumN u m := by
  intro m
  induction m with
  | zero => intro _; rfl
  | succ m ih => intro h; simp only [sumN]; rw [ih fun j hj => h j (by omega), h m (by omega)]
def tuS (n : Nat) (e : Nat → Nat → Int) (j : Nat) : Int := wr (e ((j + 1) % n) 0 - e j 0) % 16
theorem cvS_iff (n : Nat) (e : Nat → Nat → Int) : ∀ (m i : Nat) (s : Int), i + m ≤ 1000 → 0 ≤ s → s ≤ 7 * i → (cvS n e i m s = true ↔ (∀ j, i ≤ j → j < i + m → inB (tuS n e j) 1 7 = true) ∧ s + (sumN (tuS n e) (i + m) - sumN (tuS n e) i) = 16) := by
  intro m
  induction m with
  | zero =>
    intro i s h0 h1 h2
    simp only [cvS, beq_iff_eq, Nat.add_zero, Int.sub_self, Int.add_zero]
    exact ⟨fun h => ⟨fun j h3 h4 => by omega, h⟩, fun h => h.2⟩
  | succ m ih =>
    intro i s h0 h1 h2
    have hs : cvS n e i (m + 1) s = cond (!(inB (tuS n e i) 1 7)) false (cvS n e (i + 1) m (wr (s + tuS n e i))) := rfl
    rw [hs]
    have hsum : sumN (tuS n e) (i + 1) = sumN (tuS n e) i + tuS n e i := rfl
    cases hb : inB (tuS n e i) 1 7 with
    | false =>
      simp only [Bool.not_false, cond_true, Bool.false_eq_true, false_iff]
      intro h
      have := h.1 i (Nat.le_refl _) (by omega)
      rw [hb] at this
      cases this
    | true =>
      have hb' := inB_iff.1 hb
      simp only [Bool.not_true, cond_false]
      rw [wr_in (n := s + tuS n e i) (by omega) (by omega), ih (i + 1) _ (by omega) (by omega) (by omega), show i + 1 + m = i + (m + 1) by omega, hsum]
      constructor
      · rintro ⟨g1, g2⟩
        refine ⟨fun j h3 h4 => ?_, by omega⟩
        by_cases hj : j = i
        · exact hj ▸ hb
        · exact g1 j (by omega) (by omega)
      · rintro ⟨g1, g2⟩
        exact ⟨fun j h3 h4 => g1 j (by omega) (by omega), by omega⟩
def bfI (n : Nat) (c : Nat → Nat → Int) : Nat → Int
  | 0 => dirV (pAt c (n - 1)) (pAt c 0)
  | j + 1 => dirA n c j
def tuI (n : Nat) (c : Nat → Nat → Int) (j : Nat) : Int := wr (dirA n c j - bfI n c j) % 16
theorem cvF_iff (n : Nat) (c : Nat → Nat → Int) : ∀ (m i : Nat) (s : Int), i + m ≤ 1000 → 0 ≤ s → s ≤ 7 * i → (cvF n c i m (bfI n c i) s = true ↔ (∀ j, i ≤ j → j < i + m → 0 ≤ dirA n c j ∧ 0 ≤ bfI n c j ∧ inB (tuI n c j) 1 7 = true) ∧ s + (sumN (tuI n c) (i + m) - sumN (tuI n c) i) = 16) := by
  intro m
  induction m with
  | zero =>
    intro i s h0 h1 h2
    simp only [cvF, beq_iff_eq, Nat.add_zero, Int.sub_self, Int.add_zero]
    exact ⟨fun h => ⟨fun j h3 h4 => by omega, h⟩, fun h => h.2⟩
  | succ m ih =>
    intro i s h0 h1 h2
    have hs : cvF n c i (m + 1) (bfI n c i) s = cond (decide (dirA n c i < 0)) false (cond (decide (bfI n c i < 0)) false (cond (!(inB (tuI n c i) 1 7)) false (cvF n c (i + 1) m (bfI n c (i + 1)) (wr (s + tuI n c i))))) := rfl
    rw [hs]
    have hsum : sumN (tuI n c) (i + 1) = sumN (tuI n c) i + tuI n c i := rfl
    by_cases hd : dirA n c i < 0
    · rw [show decide (dirA n c i < 0) = true from decide_eq_true hd]
      simp only [cond_true, Bool.false_eq_true, false_iff]
      intro h
      have := (h.1 i (Nat.le_refl _) (by omega)).1
      omega
    · rw [show decide (dirA n c i < 0) = false from decide_eq_false hd]
      by_cases hbf : bfI n c i < 0
      · rw [show decide (bfI n c i < 0) = true from decide_eq_true hbf]
        simp only [cond_true, cond_false, Bool.false_eq_true, false_iff]
        intro h
        have := (h.1 i (Nat.le_refl _) (by omega)).2.1
        omega
      · rw [show decide (bfI n c i < 0) = false from decide_eq_false hbf]
        cases hb : inB (tuI n c i) 1 7 with
        | false =>
          simp only [Bool.not_false, cond_true, cond_false, Bool.false_eq_true, false_iff]
          intro h
          have := (h.1 i (Nat.le_refl _) (by omega)).2.2
          rw [hb] at this
          cases this
        | true =>
          have hb' := inB_iff.1 hb
          simp only [Bool.not_true, cond_false]
          rw [wr_in (n := s + tuI n c i) (by omega) (by omega), ih (i + 1) _ (by omega) (by omega) (by omega), show i + 1 + m = i + (m + 1) by omega, hsum]
          constructor
          · rintro ⟨g1, g2⟩
            refine ⟨fun j h3 h4 => ?_, by omega⟩
            by_cases hj : j = i
            · exact hj ▸ ⟨by omega, by omega, hb⟩
            · exact g1 j (by omega) (by omega)
          · rintro ⟨g1, g2⟩
            exact ⟨fun j h3 h4 => g1 j (by omega) (by omega), by omega⟩
theorem bf_dir {n : Nat} {c : Nat → Nat → Int} (h0 : 0 < n) {j : Nat} (hj : j < n) : bfI n c j = dirA n c ((j + (n - 1)) % n) := by
  cases j with
  | zero =>
    rw [Nat.zero_add, Nat.mod_eq_of_lt (by omega)]
    show dirV (pAt c (n - 1)) (pAt c 0) = dirV (pAt c (n - 1)) (pAt c ((n - 1 + 1) % n))
    rw [show n - 1 + 1 = n by omega, Nat.mod_self]
  | succ j =>
    rw [show j + 1 + (n - 1) = j + n by omega, Nat.add_mod_right, Nat.mod_eq_of_lt (by omega)]
    rfl
theorem tuI_succ {n : Nat} {c : Nat → Nat → Int} {j : Nat} (hj : j + 1 < n) : tuI n c (j + 1) = tuS n (sidC n c) j := by
  unfold tuI tuS
  rw [Nat.mod_eq_of_lt hj, sid_at hj, sid_at (i := j) (by omega)]
  rfl
theorem tuI_zero {n : Nat} {c : Nat → Nat → Int} (h0 : 0 < n) : tuI n c 0 = tuS n (sidC n c) (n - 1) := by
  unfold tuI tuS
  rw [sid_at (i := n - 1) (by omega), show n - 1 + 1 = n by omega, Nat.mod_self, sid_at h0, bf_dir h0 h0, Nat.zero_add, Nat.mod_eq_of_lt (by omega)]
theorem cv_eq {n : Nat} {c : Nat → Nat → Int} (h0 : 0 < n) (hn : n ≤ 16) : cvI n c = (okD n c && cvS n (sidC n c) 0 n 0) := by
  rw [Bool.eq_iff_iff, Bool.and_eq_true]
  have k1 : cvI n c = cvF n c 0 n (bfI n c 0) 0 := rfl
  rw [k1, cvF_iff n c n 0 0 (by omega) (by omega) (by omega), cvS_iff n _ n 0 0 (by omega) (by omega) (by omega)]
  have hsum : sumN (tuI n c) n = sumN (tuS n (sidC n c)) n := by
    obtain ⟨m, rfl⟩ : ∃ m, n = m + 1 := ⟨n - 1, by omega⟩
    rw [sumN_shift, tuI_zero h0, sumN_congr m (u := tuS (m + 1) (sidC (m + 1) c)) fun j hj => tuI_succ (by omega)]
    simp only [Nat.add_sub_cancel, sumN]
    omega
  have hok : okD n c = true ↔ ∀ j, j < n → 0 ≤ dirA n c j := by
    unfold okD
    rw [allF_iff]
    constructor
    · intro h j hj
      have := h j (Nat.zero_le _) (by omega)
      simp only [ltz, Bool.not_eq_true', decide_eq_false_iff_not] at this
      omega
    · intro h j _ hj
      have := h j (by omega)
      simp only [ltz, Bool.not_eq_true', decide_eq_false_iff_not]
      omega
  rw [hok]
  simp only [Nat.zero_add, sumN, Int.sub_zero, hsum]
  constructor
  · rintro ⟨g1, g2⟩
    refine ⟨fun j hj => (g1 j (Nat.zero_le _) hj).1, fun j _ hj => ?_, g2⟩
    by_cases e : j + 1 < n
    · rw [← tuI_succ e]
      exact (g1 (j + 1) (Nat.zero_le _) e).2.2
    · rw [show j = n - 1 by omega, ← tuI_zero h0]
      exact (g1 0 (Nat.zero_le _) h0).2.2
  · rintro ⟨g1, g2, g3⟩
    refine ⟨fun j _ hj => ⟨g1 j hj, ?_, ?_⟩, g3⟩
    · rw [bf_dir h0 hj]
      exact g1 _ (Nat.mod_lt _ h0)
    · cases j with
      | zero => rw [tuI_zero h0]; exact g2 _ (Nat.zero_le _) (by omega)
      | succ j => rw [tuI_succ hj]; exact g2 j (Nat.zero_le _) (by omega)
/-- The order of points, by values. -/
theorem cp_val {p q : P2} {v u : V4} (hp : valP p = true) (hq : valP q = true) (h : PV 10 p v 134217728) (g : PV 10 q u 134217728) :
    cpP p q = cond (sgZ (v.a - u.a) (v.b - u.b) != 0) (sgZ (v.a - u.a) (v.b - u.b)) (sgZ (v.c - u.c) (v.d - u.d)) := by
  have k1 := (sub_val h.x.v h.x.a h.x.b g.x.v g.x.a g.x.b)
  have k2 := (sub_val h.y.v h.y.a h.y.b g.y.v g.y.a g.y.b)
  unfold cpP
  rw [k1.1.sg, k2.1.sg]
def difV (v u : V4) : Int := cond (sgZ (v.a - u.a) (v.b - u.b) != 0) (sgZ (v.a - u.a) (v.b - u.b)) (sgZ (v.c - u.c) (v.d - u.d))
theorem dif_neg (v u : V4) : difV u v = -difV v u := by
  unfold difV
  have e1 : sgZ (u.a - v.a) (u.b - v.b) = -sgZ (v.a - u.a) (v.b - u.b) := by rw [← sgZ_minus]; congr 1 <;> omega
  have e2 : sgZ (u.c - v.c) (u.d - v.d) = -sgZ (v.c - u.c) (v.d - u.d) := by rw [← sgZ_minus]; congr 1 <;> omega
  rw [e1, e2]
  by_cases h : sgZ (v.a - u.a) (v.b - u.b) = 0
  · simp [h]
  · have : (sgZ (v.a - u.a) (v.b - u.b) != 0) = true := by simpa using h
    have h2 : (-sgZ (v.a - u.a) (v.b - u.b) != 0) = true := by simp; omega
    rw [this, h2]
    rfl
theorem dif_zero {v u : V4} (h : difV v u = 0) : v = u := by
  unfold difV at h
  by_cases h1 : sgZ (v.a - u.a) (v.b - u.b) = 0
  · rw [show (sgZ (v.a - u.a) (v.b - u.b) != 0) = false by simp [h1]] at h
    simp only [cond_false] at h
    obtain ⟨a1, a2⟩ := sgZ_eq_zero h1
    obtain ⟨b1, b2⟩ := sgZ_eq_zero h
    obtain ⟨va, vb, vc, vd⟩ := v
    obtain ⟨ua, ub, uc, ud⟩ := u
    simp only at a1 a2 b1 b2
    rw [show va = ua by omega, show vb = ub by omega, show vc = uc by omega, show vd = ud by omega]
  · rw [show (sgZ (v.a - u.a) (v.b - u.b) != 0) = true by simpa using h1] at h
    exact absurd h h1
theorem pv_uniq10 {p : P2} {v u : V4} {M K : Nat} (h : PV 10 p v M) (g : PV 10 p u K) : v = u := by
  obtain ⟨a1, a2⟩ := val_same h.x.v g.x.v
  obtain ⟨b1, b2⟩ := val_same h.y.v g.y.v
  obtain ⟨va, vb, vc, vd⟩ := v
  obtain ⟨ua, ub, uc, ud⟩ := u
  simp only at a1 a2 b1 b2
  rw [a1, a2, b1, b2]
theorem cp_dif {p q : P2} {v u : V4} (hp : valP p = true) (hq : valP q = true) (h : PV 10 p v 134217728) (g : PV 10 q u 134217728) : cpP p q = difV v u := cp_val hp hq h g
theorem lc_pos (c : Nat → Nat → Int) : ∀ (m i l : Nat), 0 < i → 0 < l → 0 < lcF c i m l := by
  intro m
  induction m with
  | zero => intro i l _ h; exact h
  | succ m ih =>
    intro i l hi hl
    simp only [lcF]
    cases decide (cpP (pAt c i) (pAt c l) < 0) with
    | true => exact ih (i + 1) i (by omega) hi
    | false => exact ih (i + 1) l (by omega) hl
theorem lc_zero (c : Nat → Nat → Int) : ∀ (m i : Nat), 0 < i → (lcF c i m 0 = 0 ↔ ∀ j, i ≤ j → j < i + m → ¬ cpP (pAt c j) (pAt c 0) < 0) := by
  intro m
  induction m with
  | zero => intro i _; exact ⟨fun _ j h1 h2 => by omega, fun _ => rfl⟩
  | succ m ih =>
    intro i hi
    simp only [lcF]
    by_cases h : cpP (pAt c i) (pAt c 0) < 0
    · rw [show decide (cpP (pAt c i) (pAt c 0) < 0) = true from decide_eq_true h]
      have := lc_pos c m (i + 1) i (by omega) hi
      simp only [cond_true]
      exact ⟨fun e => by omega, fun g => absurd h (g i (Nat.le_refl _) (by omega))⟩
    · rw [show decide (cpP (pAt c i) (pAt c 0) < 0) = false from decide_eq_false h, cond_false, ih (i + 1) (by omega)]
      constructor
      · intro g j h1 h2
        by_cases e : j = i
        · exact e ▸ h
        · exact g j (by omega) (by omega)
      · exact fun g j h1 h2 => g j (by omega) (by omega)
theorem lc_least {n : Nat} (c : Nat → Nat → Int) (h0 : 0 < n) : lcF c 0 n 0 = 0 ↔ ∀ j, 0 < j → j < n → ¬ cpP (pAt c j) (pAt c 0) < 0 := by
  obtain ⟨m, rfl⟩ : ∃ m, n = m + 1 := ⟨n - 1, by omega⟩
  have e : lcF c 0 (m + 1) 0 = lcF c 1 m 0 := by
    simp only [lcF]
    cases decide (cpP (pAt c 0) (pAt c 0) < 0) <;> rfl
  rw [e, lc_zero c m 1 (by omega)]
  exact ⟨fun g j h1 h2 => g j (by omega) (by omega), fun g j h1 h2 => g j (by omega) (by omega)⟩
/-- Corners of a closed way of turns differ from the first one. -/
theorem corner_ne {n : Nat} {c : Nat → Nat → Int} (h0 : 0 < n) (hn : n ≤ 16) (hv : ∀ i, i < n → valP (pAt c i) = true) (hd : okD n c = true) (hc : cvS n (sidC n c) 0 n 0 = true) {j : Nat} (hj : 0 < j) (hjn : j < n) {v u : V4}
    (g0 : PV 10 (pAt c 0) v 134217728) (g1 : PV 10 (pAt c j) u 134217728) : u ≠ v := by
  obtain ⟨k1, k2⟩ := (cvS_iff n _ n 0 0 (by omega) (by omega) (by omega)).1 hc
  simp only [Nat.zero_add, sumN, Int.sub_zero] at k1 k2
  have ex : ∀ i, ∃ w, i < n → PV 10 (pAt c i) w 134217728 := fun i => by
    by_cases h : i < n
    · obtain ⟨w, hw⟩ := valP_pv (hv i h)
      exact ⟨w, fun _ => hw⟩
    · exact ⟨v, fun g => absurd g h⟩
  let F : Nat → V4 := fun i => Classical.choose (ex i)
  have hF : ∀ i, i < n → PV 10 (pAt c i) (F i) 134217728 := fun i h => Classical.choose_spec (ex i) h
  have hdir : ∀ i, i < n → inB (dirA n c i) 0 15 = true := fun i h => dirA_ok h0 hv hd h
  have tS : ∀ i, i < n → tuS n (sidC n c) i = (dirA n c ((i + 1) % n) - dirA n c i) % 16 := fun i h => by
    unfold tuS
    have q1 := inB_iff.1 (hdir i h)
    have q2 := inB_iff.1 (hdir _ (Nat.mod_lt (i + 1) h0))
    rw [sid_at h, sid_at (Nat.mod_lt _ h0), wr_in (by omega) (by omega)]
  have step : ∀ k, k < n → inB (dirA n c k) 0 15 = true ∧ isDir (dirA n c k) (sbV (F ((k + 1) % n)) (F (k % n))) := fun k h => by
    refine ⟨hdir k h, ?_⟩
    have hm := Nat.mod_lt (k + 1) h0
    obtain ⟨a, b, ha, hb, hw, _⟩ := way_of (hv k h) (hv _ hm)
    have ea := pv_uniq10 ha (hF k h)
    have eb := pv_uniq10 hb (hF _ hm)
    subst ea eb
    rw [Nat.mod_eq_of_lt h]
    rcases dirV_spec hw with ⟨_, q⟩ | ⟨q, _⟩
    · exact q
    · have := inB_iff.1 (hdir k h)
      have e : dirA n c k = -1 := q
      omega
  have rel : ∀ k, k < n → (dirA n c k - dirA n c 0 - sumN (tuS n (sidC n c)) k) % 16 = 0 := by
    intro k
    induction k with
    | zero => intro _; simp [sumN]
    | succ k ih =>
      intro h
      have i1 := ih (by omega)
      have t := tS k (by omega)
      rw [Nat.mod_eq_of_lt h] at t
      simp only [sumN]
      omega
  have := closed_ne (V := fun k => F (k % n)) (D := dirA n c) (A := sumN (tuS n (sidC n c))) (n := n) step (fun p k h1 h2 => by
    have r1 := rel k h1
    have r2 := rel p (by omega)
    omega) (fun k h => by
    simp only [sumN]
    have := k1 k (Nat.zero_le _) h
    rwa [show ∀ x y : Int, x + y - x = y by intros; omega]) (by simp only [sumN]; omega) (by simp) hj hjn
  simp only [Nat.zero_mod, Nat.mod_eq_of_lt hjn] at this
  have e0 := pv_uniq10 g0 (hF 0 h0)
  have e1 := pv_uniq10 g1 (hF j hjn)
  subst e0 e1
  exact this
theorem vp_eq (n : Nat) (c : Nat → Nat → Int) : vpI n c = vpS n c := by
  unfold vpI vpS
  by_cases h3 : (n : Int) < 3
  · rw [show decide ((n : Int) < 3) = true from decide_eq_true h3, show inB (n : Int) 3 16 = false by
      cases h : inB (n : Int) 3 16 with
      | false => rfl
      | true => have := inB_iff.1 h; omega]
    rfl
  rw [show decide ((n : Int) < 3) = false from decide_eq_false h3]
  by_cases h16 : (n : Int) > 16
  · rw [show decide ((n : Int) > 16) = true from decide_eq_true h16, show inB (n : Int) 3 16 = false by
      cases h : inB (n : Int) 3 16 with
      | false => rfl
      | true => have := inB_iff.1 h; omega]
    rfl
  rw [show decide ((n : Int) > 16) = false from decide_eq_false h16, show inB (n : Int) 3 16 = true from inB_iff.2 (by omega)]
  have h0 : 0 < n := by omega
  simp only [cond_false, Bool.true_and]
  rw [cv_eq h0 (by omega), Bool.eq_iff_iff]
  simp only [Bool.and_eq_true, beq_iff_eq, allF_iff, befS, Bool.or_eq_true, decide_eq_true_eq]
  have lz : (((lcF c 0 n 0 : Nat) : Int) = 0) ↔ lcF c 0 n 0 = 0 := by omega
  rw [lz, lc_least c h0, allP_iff]
  constructor
  · rintro ⟨hv, ⟨hd, hc⟩, hl⟩
    refine ⟨fun i _ hi => ⟨hv i (by omega), ?_⟩, hd, hc⟩
    by_cases e : i = 0
    · exact .inl e
    · right
      obtain ⟨v, g0⟩ := valP_pv (hv 0 h0)
      obtain ⟨u, g1⟩ := valP_pv (hv i (by omega))
      have ne := corner_ne h0 (by omega) hv hd hc (by omega) (by omega) g0 g1
      have l1 := hl i (by omega) (by omega)
      rw [cp_dif (hv i (by omega)) (hv 0 h0) g1 g0] at l1
      rw [cp_dif (hv 0 h0) (hv i (by omega)) g0 g1, dif_neg]
      have : difV u v ≠ 0 := fun h => ne (dif_zero h)
      omega
  · rintro ⟨hb, hd, hc⟩
    have hv : ∀ i, i < n → valP (pAt c i) = true := fun i hi => (hb i (Nat.zero_le _) (by omega)).1
    refine ⟨hv, ⟨hd, hc⟩, fun j h1 h2 => ?_⟩
    obtain ⟨v, g0⟩ := valP_pv (hv 0 h0)
    obtain ⟨u, g1⟩ := valP_pv (hv j h2)
    rcases (hb j (Nat.zero_le _) (by omega)).2 with e | e
    · omega
    · rw [cp_dif (hv 0 h0) (hv j h2) g0 g1] at e
      rw [cp_dif (hv j h2) (hv 0 h0) g1 g0, dif_neg]
      omega
end Go.Ev
namespace Go.Ev
/-- The sum of the cross products of neighbours. -/
def arF (n : Nat) (c : Nat → Nat → Int) : Nat → Nat → N3 → N3
  | _, 0, s => s
  | i, m + 1, s => arF n c (i + 1) m (addF s (crsF (pAt c i) (pAt c ((i + 1) % n))))
theorem arF_congr {n : Nat} {c d : Nat → Nat → Int} (hn : 0 < n) (h : ∀ i, i < n → pAt c i = pAt d i) : ∀ (m i : Nat) (s : N3), i + m ≤ n → arF n c i m s = arF n d i m s := by
  intro m
  induction m with
  | zero => intro i s _; rfl
  | succ m ih =>
    intro i s hi
    simp only [arF]
    rw [h i (by omega), h _ (Nat.mod_lt _ hn), ih _ _ (by omega)]
theorem mulF_comm (x y : N3) : mulF x y = mulF y x := by
  unfold mulF mulR
  rw [wr_wr_mul, wr_wr_mul, Int.mul_comm x.a y.a, show 2 * x.b * y.b = 2 * y.b * x.b by grind, Int.add_comm x.k y.k, Int.mul_comm x.a y.b, Int.mul_comm x.b y.a, Int.add_comm (wr (y.b * x.a))]
theorem crs_vb {p q : P2} (hp : valP p = true) (hq : valP q = true) : (∃ A B, VB 20 (crsF p q) A B 108086391056891904) ∧ pkm p.x q.y = true ∧ pkm p.y q.x = true ∧ pkm q.x p.y = true ∧ pk (mulF p.x q.y) (mulF p.y q.x) = true := by
  obtain ⟨v, h⟩ := valP_pv hp
  obtain ⟨u, g⟩ := valP_pv hq
  obtain ⟨m1, _⟩ := mul_val h.x.v h.x.a h.x.b g.y.v g.y.a g.y.b
  obtain ⟨m2, _⟩ := mul_val h.y.v h.y.a h.y.b g.x.v g.x.a g.x.b
  have b1 := mul_bdN h.x.a g.y.a
  have b2 := mul_bdN h.x.b g.y.b
  have b3 := mul_bdN h.x.a g.y.b
  have b4 := mul_bdN h.x.b g.y.a
  have b5 := mul_bdN h.y.a g.x.a
  have b6 := mul_bdN h.y.b g.x.b
  have b7 := mul_bdN h.y.a g.x.b
  have b8 := mul_bdN h.y.b g.x.a
  have e1 : 2 * v.b * u.d = 2 * (v.b * u.d) := by grind
  have e2 : 2 * v.d * u.b = 2 * (v.d * u.b) := by grind
  rw [e1] at m1
  rw [e2] at m2
  generalize v.a * u.c = t1 at *
  generalize v.b * u.d = t2 at *
  generalize v.a * u.d = t3 at *
  generalize v.b * u.c = t4 at *
  generalize v.c * u.a = t5 at *
  generalize v.d * u.b = t6 at *
  generalize v.c * u.b = t7 at *
  generalize v.d * u.a = t8 at *
  have s := (m1.sub m2 (by decide) (by omega) (by omega) (by omega) (by omega)).1
  refine ⟨⟨_, _, s, by omega, by omega⟩, (pk_val h.x.v g.y.v (by decide) (by decide)).2, (pk_val h.y.v g.x.v (by decide) (by decide)).2, (pk_val g.x.v h.y.v (by decide) (by decide)).2, (pk_val m1 m2 (by decide) (by decide)).1⟩
end Go.Ev
namespace Go.Ev
def eqPS (n : Nat) (c : Nat → Nat → Int) (m : Nat) (d : Nat → Nat → Int) : Bool := decide (n = m) && allF (fun i => eqP (pAt c i) (pAt d i)) 0 n
theorem eqPS_self (n : Nat) (c : Nat → Nat → Int) : eqPS n c n c = true := by
  simp only [eqPS, decide_true, Bool.true_and]
  exact allF_iff.2 fun i _ _ => eqP_self _
theorem ar_vb {n : Nat} {c : Nat → Nat → Int} {s : N3} {A B : Int} {i : Nat} (hs : VB 20 s A B (i * 108086391056891904)) (hi : i ≤ 16) {p q : P2} (hp : valP p = true) (hq : valP q = true) :
    pk s (crsF p q) = true ∧ ∃ A' B', VB 20 (addF s (crsF p q)) A' B' ((i + 1) * 108086391056891904) := by
  obtain ⟨⟨C, D, h⟩, _⟩ := crs_vb hp hq
  have hm : i * 108086391056891904 + 108086391056891904 = (i + 1) * 108086391056891904 := by omega
  have ha := (hs.add h (by decide) (by omega)).1
  rw [hm] at ha
  exact ⟨hs.pk h (by decide), _, _, ha⟩
theorem z_vb : VB 20 z3 0 0 (0 * 108086391056891904) := ⟨⟨by decide, by decide, by simp [z3], by simp [z3]⟩, by decide, by decide⟩
theorem ar_sum {n : Nat} {c : Nat → Nat → Int} (h0 : 0 < n) (hn : n ≤ 16) (hv : ∀ i, i < n → valP (pAt c i) = true) : ∀ (m i : Nat) (s : N3) (A B : Int), i + m ≤ n → VB 20 s A B (i * 108086391056891904) → ∃ A' B' M, VB 20 (arF n c i m s) A' B' M := by
  intro m
  induction m with
  | zero => intro i s A B _ h; exact ⟨_, _, _, h⟩
  | succ m ih =>
    intro i s A B hi h
    obtain ⟨_, A', B', h2⟩ := ar_vb (n := n) (c := c) h (by omega) (hv i (by omega)) (hv _ (Nat.mod_lt (i + 1) h0))
    exact ih (i + 1) _ A' B' (by omega) h2
/-- What both sides answer: the half of the sum, checked. -/
def arC (n : Nat) (c : Nat → Nat → Int) : N3 := halfF (arF n c 0 n z3)
theorem ar_k {n : Nat} {c : Nat → Nat → Int} (h0 : 0 < n) (hn : n ≤ 16) (hv : ∀ i, i < n → valP (pAt c i) = true) : 0 ≤ (arF n c 0 n z3).k ∧ (arF n c 0 n z3).k ≤ 20 := by
  obtain ⟨A, B, M, h⟩ := ar_sum h0 hn hv n 0 z3 0 0 (by omega) z_vb
  exact ⟨h.v.k0, h.v.kS⟩
theorem ar_half {n : Nat} {c : Nat → Nat → Int} (h0 : 0 < n) (hn : n ≤ 16) (hv : ∀ i, i < n → valP (pAt c i) = true) :
    kB (wr ((arF n c 0 n z3).k + 1)) = true ∧ kB (arC n c).k = true ∧ chk (arC n c) = chk ⟨(arF n c 0 n z3).a, (arF n c 0 n z3).b, wr ((arF n c 0 n z3).k + 1)⟩ ∧ chkB (arC n c) = chkB ⟨(arF n c 0 n z3).a, (arF n c 0 n z3).b, wr ((arF n c 0 n z3).k + 1)⟩ := by
  obtain ⟨h1, h2⟩ := ar_k h0 hn hv
  have hk : kB (wr ((arF n c 0 n z3).k + 1)) = true := by rw [wr_in (by omega) (by omega)]; exact kB_iff.2 (by omega)
  have hr : red (arC n c) = arC n c := red_red hk
  refine ⟨hk, ?_, ?_, ?_⟩
  · obtain ⟨A, B, M, h⟩ := ar_sum h0 hn hv n 0 z3 0 0 (by omega) z_vb
    have := red_k (x := ⟨(arF n c 0 n z3).a, (arF n c 0 n z3).b, wr ((arF n c 0 n z3).k + 1)⟩) hk
    have h3 := wr_in (n := (arF n c 0 n z3).k + 1) (by omega) (by omega)
    simp only at this
    rw [h3] at this
    refine kB_iff.2 ⟨?_, ?_⟩
    · show 0 ≤ (red ⟨(arF n c 0 n z3).a, (arF n c 0 n z3).b, wr ((arF n c 0 n z3).k + 1)⟩).k
      rw [h3]; omega
    · show (red ⟨(arF n c 0 n z3).a, (arF n c 0 n z3).b, wr ((arF n c 0 n z3).k + 1)⟩).k ≤ _
      rw [h3]; omega
  · show sel (validB (red (arC n c))) (red (arC n c)) = _
    rw [hr]
    rfl
  · show validB (red (arC n c)) = _
    rw [hr]
    rfl
end Go.Ev
namespace Go.Ev
/-- The area as both sides answer it. -/
def aoN (n : Nat) (c : Nat → Nat → Int) : N3 := sel (vpS n c) (chk (arC n c))
def aoB (n : Nat) (c : Nat → Nat → Int) : Bool := vpS n c && chkB (arC n c)
theorem vpS_in {n : Nat} {c : Nat → Nat → Int} (h : vpS n c = true) : 3 ≤ n ∧ n ≤ 16 ∧ allP n c = true := by
  have h2 := h
  rw [← vp_eq] at h2
  unfold vpI at h2
  simp only [Bool.and_eq_true] at h2
  have := inB_iff.1 h2.1
  exact ⟨by omega, by omega, h2.2.1⟩
theorem sz_ok {n : Nat} (hn : n ≤ 9223372036854775807) (h : ¬ szF n 1048576 < 0) : n ≤ 1048576 := by
  have := szF_ok (n := n) (l := 1048576) (by omega) (by omega) hn (by omega)
  omega
end Go.Ev
