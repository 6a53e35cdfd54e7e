/- What the reference draws: a number; it is always a valid one. -/
import Derived.Test.YtooikeeckoflpaaDoorSrcA
set_option linter.unusedVariables false
set_option linter.unusedSimpArgs false
namespace Go.Ev

def lA : List Int := [131072, -131072, 99999, 46341, 1]
def lB : List Int := [131072, -131072, -92681, -70710, 32768]
def oneN : N3 := ⟨1, 0, 0⟩
def G4 (a b k : Int) (s : Src) : N3 × Src := (cond (chkB ⟨a, b, k⟩) (chk ⟨a, b, k⟩) oneN, s)
def G3b (s : Src) : N3 × Src :=
  G4 (lA.getD (pickV 5 s).1.toNat 0) (lB.getD (pickV 5 (pickV 5 s).2).1.toNat 0) (pickV 11 (pickV 5 (pickV 5 s).2).2).1 (pickV 11 (pickV 5 (pickV 5 s).2).2).2
def G3 (a b k : Int) (s : Src) : N3 × Src := cond ((pickV 12 s).1 == 0) (G3b (pickV 12 s).2) (G4 a b k (pickV 12 s).2)
def G2 (a b : Int) (s : Src) : N3 × Src := cond ((pickV 3 s).1 == 0) (G3 a b (pickV 4 (pickV 3 s).2).1 (pickV 4 (pickV 3 s).2).2) (G3 a b 0 (pickV 3 s).2)
def G1 (a : Int) (s : Src) : N3 × Src := cond ((pickV 3 s).1 == 0) (G2 a (wr ((pickV 9 (pickV 3 s).2).1 - 4)) (pickV 9 (pickV 3 s).2).2) (G2 a 0 (pickV 3 s).2)
/-- A number drawn, and the source behind it. -/
def drawV (s : Src) : N3 × Src := G1 (wr ((pickV 9 s).1 - 4)) (pickV 9 s).2

def F4 (a b k : Int) (s : Src) : Option AV := cond (kB k) (cond (!chkB ⟨a, b, k⟩) (some (outS oneN.av s)) (some (outS (chk ⟨a, b, k⟩).av s))) none
def F3c (a b : Int) (s : Src) : Option AV := cond (pB 2 s.p) (F4 a b (pickV 11 s).1 (pickV 11 s).2) none
def F3b (a : Int) (s : Src) : Option AV := cond (pB 2 s.p && Nat.ble 1 5) (F3c a (lB.getD (pickV 5 s).1.toNat 0) (pickV 5 s).2) none
def F3a (s : Src) : Option AV := cond (pB 2 s.p && Nat.ble 1 5) (F3b (lA.getD (pickV 5 s).1.toNat 0) (pickV 5 s).2) none
def F3 (a b k : Int) (s : Src) : Option AV := cond (pB 2 s.p) (cond ((pickV 12 s).1 == 0) (F3a (pickV 12 s).2) (F4 a b k (pickV 12 s).2)) none
def F2a (a b : Int) (s : Src) : Option AV := cond (pB 2 s.p) (F3 a b (pickV 4 s).1 (pickV 4 s).2) none
def F2 (a b : Int) (s : Src) : Option AV := cond (pB 2 s.p) (cond ((pickV 3 s).1 == 0) (F2a a b (pickV 3 s).2) (F3 a b 0 (pickV 3 s).2)) none
def F1a (a : Int) (s : Src) : Option AV := cond (pB 2 s.p) (F2 a (wr ((pickV 9 s).1 - 4)) (pickV 9 s).2) none
def F1 (a : Int) (s : Src) : Option AV := cond (pB 2 s.p) (cond ((pickV 3 s).1 == 0) (F1a a (pickV 3 s).2) (F2 a 0 (pickV 3 s).2)) none
def F0 (s : Src) : Option AV := cond (pB 2 s.p) (F1 (wr ((pickV 9 s).1 - 4)) (pickV 9 s).2) none

/-- What follows: a valid number, a place not much further on. -/
structure DrawOk (k : Int) (r : N3 × Src) : Prop where
  ok : validB r.1 = true
  p : pB k r.2.p = true
theorem p2 {k : Int} {s : Src} (m : Int) (h : pB (k + 2) s.p = true) (hk : 0 ≤ k) : pB 2 s.p = true ∧ pB k (pickV m s).2.p = true := by
  refine ⟨pB_less h (by omega), ?_⟩
  have := pick_p (m := m) h (by omega)
  rw [show k + 2 - 2 = k by omega] at this
  exact this
theorem draw4 {a b k q : Int} {s : Src} (hk : kB k = true) (h : pB q s.p = true) : F4 a b k s = some (outS (G4 a b k s).1.av (G4 a b k s).2) ∧ DrawOk q (G4 a b k s) := by
  unfold F4 G4
  rw [hk]
  cases hc : chkB ⟨a, b, k⟩ with
  | false => exact ⟨rfl, rfl, h⟩
  | true =>
    refine ⟨rfl, ?_, h⟩
    have : chk ⟨a, b, k⟩ = red ⟨a, b, k⟩ := by unfold chk; rw [hc]; rfl
    simp only [cond_true]
    rw [this]
    exact hc
theorem kB_pick {m : Int} {s : Src} (h1 : 1 ≤ m) (h2 : m ≤ 1000) : kB (pickV m s).1 = true := by
  have := pick_in (s := s) h1
  exact kB_iff.2 (by omega)
theorem draw3 {a b k q : Int} {s : Src} (hk : kB k = true) (hq : 0 ≤ q) (h : pB (q + 8) s.p = true) : F3 a b k s = some (outS (G3 a b k s).1.av (G3 a b k s).2) ∧ DrawOk q (G3 a b k s) := by
  obtain ⟨a1, a2⟩ := p2 (k := q + 6) 12 (s := s) (by rw [show q + 6 + 2 = q + 8 by omega]; exact h) (by omega)
  obtain ⟨b1, b2⟩ := p2 (k := q + 4) 5 (s := (pickV 12 s).2) (by rw [show q + 4 + 2 = q + 6 by omega]; exact a2) (by omega)
  obtain ⟨c1, c2⟩ := p2 (k := q + 2) 5 (s := (pickV 5 (pickV 12 s).2).2) (by rw [show q + 2 + 2 = q + 4 by omega]; exact b2) (by omega)
  obtain ⟨d1, d2⟩ := p2 (k := q) 11 (s := (pickV 5 (pickV 5 (pickV 12 s).2).2).2) c2 (by omega)
  unfold F3 G3
  rw [a1]
  cases (pickV 12 s).1 == 0 with
  | false => exact draw4 hk (pB_less a2 (by omega))
  | true =>
    simp only [cond_true]
    unfold F3a F3b F3c G3b
    rw [b1, c1, d1]
    exact draw4 (kB_pick (by decide) (by decide)) d2
theorem draw2 {a b q : Int} {s : Src} (hq : 0 ≤ q) (h : pB (q + 12) s.p = true) : F2 a b s = some (outS (G2 a b s).1.av (G2 a b s).2) ∧ DrawOk q (G2 a b s) := by
  obtain ⟨a1, a2⟩ := p2 (k := q + 10) 3 (s := s) (by rw [show q + 10 + 2 = q + 12 by omega]; exact h) (by omega)
  obtain ⟨b1, b2⟩ := p2 (k := q + 8) 4 (s := (pickV 3 s).2) (by rw [show q + 8 + 2 = q + 10 by omega]; exact a2) (by omega)
  unfold F2 G2
  rw [a1]
  cases (pickV 3 s).1 == 0 with
  | false => exact draw3 rfl hq (pB_less a2 (by omega))
  | true =>
    simp only [cond_true]
    unfold F2a
    rw [b1]
    exact draw3 (kB_pick (by decide) (by decide)) hq b2
theorem draw1 {a q : Int} {s : Src} (hq : 0 ≤ q) (h : pB (q + 16) s.p = true) : F1 a s = some (outS (G1 a s).1.av (G1 a s).2) ∧ DrawOk q (G1 a s) := by
  obtain ⟨a1, a2⟩ := p2 (k := q + 14) 3 (s := s) (by rw [show q + 14 + 2 = q + 16 by omega]; exact h) (by omega)
  obtain ⟨b1, b2⟩ := p2 (k := q + 12) 9 (s := (pickV 3 s).2) (by rw [show q + 12 + 2 = q + 14 by omega]; exact a2) (by omega)
  unfold F1 G1
  rw [a1]
  cases (pickV 3 s).1 == 0 with
  | false => exact draw2 hq (pB_less a2 (by omega))
  | true =>
    simp only [cond_true]
    unfold F1a
    rw [b1]
    exact draw2 hq b2
theorem draw0 {q : Int} {s : Src} (hq : 0 ≤ q) (h : pB (q + 18) s.p = true) : F0 s = some (outS (drawV s).1.av (drawV s).2) ∧ DrawOk q (drawV s) := by
  obtain ⟨a1, a2⟩ := p2 (k := q + 16) 9 (s := s) (by rw [show q + 16 + 2 = q + 18 by omega]; exact h) (by omega)
  unfold F0 drawV
  rw [a1]
  exact draw1 hq a2
/-- Three numbers out of one source. -/
def srcOf (n : Nat) (c : Nat → Nat → Int) : Src := ⟨n, c, 0, 0⟩
def e8x (s : Src) : N3 := (drawV s).1
def e8y (s : Src) : N3 := (drawV (drawV s).2).1
def e8z (s : Src) : N3 := (drawV (drawV (drawV s).2).2).1
theorem e8_ok {s : Src} (h : pB 60 s.p = true) : (validB (e8x s) = true ∧ validB (e8y s) = true ∧ validB (e8z s) = true) ∧ pB 18 s.p = true ∧ pB 18 (drawV s).2.p = true ∧ pB 18 (drawV (drawV s).2).2.p = true := by
  obtain ⟨_, a⟩ := draw0 (q := 42) (s := s) (by decide) h
  obtain ⟨_, b⟩ := draw0 (q := 24) (s := (drawV s).2) (by decide) a.p
  obtain ⟨_, c⟩ := draw0 (q := 6) (s := (drawV (drawV s).2).2) (by decide) b.p
  exact ⟨⟨a.ok, b.ok, c.ok⟩, pB_less h (by decide), pB_less a.p (by decide), pB_less b.p (by decide)⟩
end Go.Ev
