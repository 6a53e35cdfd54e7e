/- What else the reference draws: numbers that need not be valid, points, motions. Of these only the place behind is known. -/
import Derived.Test.YtooikeeckoflpaaDoorSgnD
set_option linter.unusedVariables false
set_option linter.unusedSimpArgs false
namespace Go.Ev

/-- 'From every source this gives a value of this form, and the place behind is at most k further on.' -/
def Dr {α : Type} (k : Int) (F : Src → Option AV) (av : α → AV) (good : α → Prop) : Prop :=
  ∀ s, pB k s.p = true → ∃ (r : α) (s' : Src), F s = some (outS (av r) s') ∧ (0 ≤ s'.p ∧ s'.p ≤ s.p + k) ∧ good r
noncomputable def Dr.get {α : Type} {k : Int} {F : Src → Option AV} {av : α → AV} {good : α → Prop} (h : Dr k F av good) (d : α) (s : Src) : α × Src :=
  if hp : pB k s.p = true then ⟨Classical.choose (h s hp), Classical.choose (Classical.choose_spec (h s hp))⟩ else (d, s)
theorem Dr.spec {α : Type} {k : Int} {F : Src → Option AV} {av : α → AV} {good : α → Prop} (h : Dr k F av good) (d : α) {s : Src} (hp : pB k s.p = true) :
    F s = some (outS (av (h.get d s).1) (h.get d s).2) ∧ (0 ≤ (h.get d s).2.p ∧ (h.get d s).2.p ≤ s.p + k) ∧ good (h.get d s).1 := by
  unfold Dr.get
  rw [dif_pos hp]
  exact Classical.choose_spec (Classical.choose_spec (h s hp))
theorem pB_on {k l : Int} {p p' : Int} (h : pB l p = true) (h' : 0 ≤ p' ∧ p' ≤ p + k) (hl : k ≤ l) : pB (l - k) p' = true := by
  have := pB_iff.1 h
  exact pB_iff.2 (by omega)
theorem pick_on (m : Int) {s : Src} {k : Int} (h : pB k s.p = true) (hk : 2 ≤ k) : 0 ≤ (pickV m s).2.p ∧ (pickV m s).2.p ≤ s.p + 2 := by
  have h' := pB_iff.1 h
  obtain ⟨a1, a2⟩ := nxt_p h (by omega)
  obtain ⟨b1, b2⟩ := nxt_p a2 (by omega)
  unfold pickV
  cases decide (m ≤ 1) with
  | true => simp only [cond_true]; omega
  | false =>
    cases decide (m > 200) with
    | true => simp only [cond_true, cond_false]; omega
    | false => simp only [cond_false]; omega

theorem drawV_on {s : Src} {k : Int} (h : pB k s.p = true) (hk : 18 ≤ k) : F0 s = some (outS (drawV s).1.av (drawV s).2) ∧ validB (drawV s).1 = true ∧ 0 ≤ (drawV s).2.p ∧ (drawV s).2.p ≤ s.p + 18 := by
  have h' := pB_iff.1 h
  obtain ⟨h1, h2⟩ := draw0 (q := 4611686018427387904 - 18 - s.p) (s := s) (by omega) (pB_iff.2 (by omega))
  have := pB_iff.1 h2.p
  exact ⟨h1, h2.ok, by omega, by omega⟩

/-! ### numbers that need not be valid -/
def l3a : List Int := [131073, -131073, 6]
def l3k : List Int := [-1, 11, 2]
def B1 (x : N3) (s : Src) : Option AV := cond (pB 2 s.p && Nat.ble 1 3) (some (outS (⟨l3a.getD (pickV 3 s).1.toNat 0, x.b, x.k⟩ : N3).av (pickV 3 s).2)) none
def B2 (x : N3) (s : Src) : Option AV := cond (pB 2 s.p && Nat.ble 1 3) (some (outS (⟨x.a, l3a.getD (pickV 3 s).1.toNat 0, x.k⟩ : N3).av (pickV 3 s).2)) none
def B3 (x : N3) (s : Src) : Option AV := cond (pB 2 s.p && Nat.ble 1 3) (some (outS (⟨x.a, x.b, l3k.getD (pickV 3 s).1.toNat 0⟩ : N3).av (pickV 3 s).2)) none
def B0 (x : N3) (s : Src) : Option AV := cond (pB 2 s.p) (cond ((pickV 16 s).1 == 0) (B1 x (pickV 16 s).2) (cond ((pickV 16 s).1 == 1) (B2 x (pickV 16 s).2) (cond ((pickV 16 s).1 == 2) (B3 x (pickV 16 s).2) (some (outS x.av (pickV 16 s).2))))) none
def BF (s : Src) : Option AV := cond (pB 18 s.p) (B0 (drawV s).1 (drawV s).2) none
theorem B0_dr (x : N3) {s : Src} (h : pB 4 s.p = true) : ∃ (r : N3) (s' : Src), B0 x s = some (outS r.av s') ∧ 0 ≤ s'.p ∧ s'.p ≤ s.p + 4 := by
  have h0 := pick_on 16 h (by decide)
  have hp := pB_on h h0 (by decide)
  have h1 := pick_on 3 (s := (pickV 16 s).2) (k := 2) hp (by decide)
  unfold B0
  rw [pB_less h (by decide)]
  simp only [cond_true]
  cases (pickV 16 s).1 == 0 with
  | true => refine ⟨_, _, (by simp only [cond_true]; unfold B1; rw [show pB 2 (pickV 16 s).2.p = true from hp]; rfl), by omega, by omega⟩
  | false =>
    simp only [cond_false]
    cases (pickV 16 s).1 == 1 with
    | true => refine ⟨_, _, (by simp only [cond_true]; unfold B2; rw [show pB 2 (pickV 16 s).2.p = true from hp]; rfl), by omega, by omega⟩
    | false =>
      simp only [cond_false]
      cases (pickV 16 s).1 == 2 with
      | true => refine ⟨_, _, (by simp only [cond_true]; unfold B3; rw [show pB 2 (pickV 16 s).2.p = true from hp]; rfl), by omega, by omega⟩
      | false => exact ⟨_, _, rfl, by omega, by omega⟩
theorem bent_dr : Dr 22 BF N3.av (fun _ => True) := fun s h => by
  obtain ⟨h1, _, ho⟩ := drawV_on h (by decide)
  obtain ⟨r, s', e, e1, e2⟩ := B0_dr (drawV s).1 (s := (drawV s).2) (pB_on h ho (by decide))
  refine ⟨r, s', ?_, ⟨by omega, by omega⟩, trivial⟩
  unfold BF
  rw [pB_less h (by decide)]
  exact e
noncomputable def bentV (s : Src) : N3 × Src := bent_dr.get z3 s

/-! ### points -/
def pointV (s : Src) : P2 × Src := (⟨(drawV s).1, (drawV (drawV s).2).1⟩, (drawV (drawV s).2).2)
def PF (s : Src) : Option AV := cond (pB 18 s.p) (cond (pB 18 (drawV s).2.p) (some (outS (pointV s).1.av (pointV s).2)) none) none
theorem point_on {s : Src} {k : Int} (h : pB k s.p = true) (hk : 36 ≤ k) : PF s = some (outS (pointV s).1.av (pointV s).2) ∧ valP (pointV s).1 = true ∧ 0 ≤ (pointV s).2.p ∧ (pointV s).2.p ≤ s.p + 36 := by
  obtain ⟨_, v1, h1⟩ := drawV_on h (by omega)
  have p1 := pB_on h h1 (by omega)
  obtain ⟨_, v2, h2⟩ := drawV_on (s := (drawV s).2) p1 (by omega)
  refine ⟨?_, ?_, ?_, ?_⟩
  · unfold PF
    rw [pB_less h (by omega), pB_less p1 (by omega)]
    rfl
  · unfold valP pointV
    rw [v1, v2]
    rfl
  · show 0 ≤ (drawV (drawV s).2).2.p
    omega
  · show (drawV (drawV s).2).2.p ≤ s.p + 36
    omega
noncomputable def QF (s : Src) : Option AV := cond (pB 36 s.p) (cond (pB 2 (pointV s).2.p) (cond ((pickV 16 (pointV s).2).1 == 0)
  (cond (pB 22 (pickV 16 (pointV s).2).2.p) (some (outS (⟨(bentV (pickV 16 (pointV s).2).2).1, (pointV s).1.y⟩ : P2).av (bentV (pickV 16 (pointV s).2).2).2)) none) (some (outS (pointV s).1.av (pickV 16 (pointV s).2).2))) none) none
theorem bentP_dr : Dr 60 QF P2.av (fun _ => True) := fun s h => by
  obtain ⟨_, _, h1⟩ := point_on h (by decide)
  have p1 := pB_on h h1 (by decide)
  have h2 := pick_on 16 p1 (by decide)
  have p2 := pB_on p1 h2 (by decide)
  obtain ⟨_, h3, _⟩ := bent_dr.spec z3 (s := (pickV 16 (pointV s).2).2) p2
  change 0 ≤ (bentV (pickV 16 (pointV s).2).2).2.p ∧ (bentV (pickV 16 (pointV s).2).2).2.p ≤ _ at h3
  unfold QF
  rw [pB_less h (by decide), pB_less p1 (by decide), show pB 22 (pickV 16 (pointV s).2).2.p = true from p2]
  simp only [cond_true]
  cases (pickV 16 (pointV s).2).1 == 0 with
  | true => exact ⟨_, _, rfl, ⟨by omega, by omega⟩, trivial⟩
  | false => exact ⟨_, _, rfl, ⟨by omega, by omega⟩, trivial⟩
noncomputable def bentPV (s : Src) : P2 × Src := bentP_dr.get ⟨z3, z3⟩ s

/-! ### motions -/
structure M8 where
  t : Int
  f : Bool
  s : P2
def M8.av (m : M8) : AV := mav m.t m.f m.s
def M8.valid (m : M8) : Bool := inB m.t 0 7 && valP m.s
def m0 : M8 := ⟨0, false, ⟨z3, z3⟩⟩
def MF1 (t : Int) (f : Bool) (s : Src) : Option AV := cond (pB 2 s.p) (cond (!((pickV 4 s).1 == 0)) (cond (pB 36 (pickV 4 s).2.p) (some (outS (mav t f (pointV (pickV 4 s).2).1) (pointV (pickV 4 s).2).2)) none) (some (outS (mav t f ⟨z3, z3⟩) (pickV 4 s).2))) none
def MF (s : Src) : Option AV := cond (pB 2 s.p) (cond (pB 2 (pickV 8 s).2.p) (MF1 (pickV 8 s).1 ((pickV 2 (pickV 8 s).2).1 == 0) (pickV 2 (pickV 8 s).2).2) none) none
theorem mot_dr : Dr 42 MF M8.av (fun _ => True) := fun s h => by
  have h1 := pick_on 8 h (by decide)
  have p1 := pB_on h h1 (by decide)
  have h2 := pick_on 2 p1 (by decide)
  have p2 := pB_on p1 h2 (by decide)
  have h3 := pick_on 4 p2 (by decide)
  have p3 := pB_on p2 h3 (by decide)
  obtain ⟨_, _, h4⟩ := point_on p3 (by decide)
  unfold MF MF1
  rw [pB_less h (by decide), pB_less p1 (by decide), pB_less p2 (by decide), show pB 36 (pickV 4 (pickV 2 (pickV 8 s).2).2).2.p = true from p3]
  simp only [cond_true]
  cases (pickV 4 (pickV 2 (pickV 8 s).2).2).1 == 0 with
  | true => (refine ⟨⟨_, _, _⟩, _, rfl, ⟨?_, ?_⟩, trivial⟩ <;> (try simp only) <;> omega)
  | false => (refine ⟨⟨_, _, _⟩, _, rfl, ⟨?_, ?_⟩, trivial⟩ <;> (try simp only) <;> omega)
noncomputable def motV (s : Src) : M8 × Src := mot_dr.get m0 s
def l2t : List Int := [-1, 8]
def NF1 (m : M8) (s : Src) : Option AV := cond (pB 2 s.p && Nat.ble 1 2) (some (outS (mav (l2t.getD (pickV 2 s).1.toNat 0) m.f m.s) (pickV 2 s).2)) none
noncomputable def NF2 (m : M8) (s : Src) : Option AV := cond (pB 22 s.p) (some (outS (mav m.t m.f ⟨(bentV s).1, m.s.y⟩) (bentV s).2)) none
noncomputable def NF3 (m : M8) (s : Src) : Option AV := cond (pB 22 s.p) (some (outS (mav m.t m.f ⟨m.s.x, (bentV s).1⟩) (bentV s).2)) none
noncomputable def NF0 (m : M8) (s : Src) : Option AV := cond (pB 2 s.p) (cond ((pickV 16 s).1 == 0) (NF1 m (pickV 16 s).2) (cond ((pickV 16 s).1 == 1) (NF2 m (pickV 16 s).2) (cond ((pickV 16 s).1 == 2) (NF3 m (pickV 16 s).2) (some (outS m.av (pickV 16 s).2))))) none
noncomputable def NF (s : Src) : Option AV := cond (pB 42 s.p) (NF0 (motV s).1 (motV s).2) none
theorem bentM_dr : Dr 70 NF M8.av (fun _ => True) := fun s h => by
  obtain ⟨_, h1, _⟩ := mot_dr.spec m0 (pB_less (l := 42) h (by decide))
  change 0 ≤ (motV s).2.p ∧ (motV s).2.p ≤ _ at h1
  have p1 := pB_on h h1 (by decide)
  have h2 := pick_on 16 p1 (by decide)
  have p2 := pB_on p1 h2 (by decide)
  have h3 := pick_on 2 p2 (by decide)
  obtain ⟨_, h4, _⟩ := bent_dr.spec z3 (pB_less (l := 22) p2 (by decide))
  change 0 ≤ (bentV (pickV 16 (motV s).2).2).2.p ∧ (bentV (pickV 16 (motV s).2).2).2.p ≤ _ at h4
  unfold NF NF0 NF1 NF2 NF3
  rw [pB_less h (by decide), pB_less p1 (by decide), pB_less (k := 70 - 42 - 2) (l := 2) p2 (by decide), pB_less (l := 22) p2 (by decide)]
  simp only [cond_true]
  cases (pickV 16 (motV s).2).1 == 0 with
  | true => (refine ⟨⟨_, _, _⟩, _, rfl, ⟨?_, ?_⟩, trivial⟩ <;> (try simp only) <;> omega)
  | false =>
    simp only [cond_false]
    cases (pickV 16 (motV s).2).1 == 1 with
    | true => (refine ⟨⟨(motV s).1.t, (motV s).1.f, ⟨(bentV (pickV 16 (motV s).2).2).1, (motV s).1.s.y⟩⟩, (bentV (pickV 16 (motV s).2).2).2, rfl, ⟨?_, ?_⟩, trivial⟩ <;> omega)
    | false =>
      simp only [cond_false]
      cases (pickV 16 (motV s).2).1 == 2 with
      | true => (refine ⟨⟨(motV s).1.t, (motV s).1.f, ⟨(motV s).1.s.x, (bentV (pickV 16 (motV s).2).2).1⟩⟩, (bentV (pickV 16 (motV s).2).2).2, rfl, ⟨?_, ?_⟩, trivial⟩ <;> omega)
      | false => exact ⟨_, _, rfl, ⟨by omega, by omega⟩, trivial⟩
noncomputable def bentMV (s : Src) : M8 × Src := bentM_dr.get m0 s
/-- Two motions; a motion and a point. -/
noncomputable def cpA (s : Src) : M8 := (bentMV s).1
noncomputable def cpB (s : Src) : M8 := (bentMV (bentMV s).2).1
noncomputable def mpP (s : Src) : P2 := (bentPV (bentMV s).2).1
theorem cp_ok {s : Src} (h : pB 140 s.p = true) : pB 70 s.p = true ∧ pB 70 (bentMV s).2.p = true := by
  obtain ⟨_, h1, _⟩ := bentM_dr.spec m0 (pB_less (l := 70) h (by decide))
  exact ⟨pB_less h (by decide), pB_on h h1 (by decide)⟩
end Go.Ev
