/- Lines drawn; the law of reflections. -/
import Derived.Test.YtooikeeckoflpaaDoorReflA
set_option linter.unusedVariables false
set_option linter.unusedSimpArgs false
namespace Go.Ev

structure Ln where
  d : Int
  o : N3
def Ln.av (l : Ln) : AV := .agg [iv l.d, iv l.o.a, iv l.o.b, iv l.o.k]
def Ln.valid (l : Ln) : Bool := inB l.d 0 7 && validB l.o
def lineV (s : Src) : Ln × Src := (⟨(pickV 8 s).1, (drawV (pickV 8 s).2).1⟩, (drawV (pickV 8 s).2).2)
def LF (s : Src) : Option AV := cond (pB 2 s.p) (cond (pB 18 (pickV 8 s).2.p) (some (outS (lineV s).1.av (lineV s).2)) none) none
theorem line_on {s : Src} {k : Int} (h : pB k s.p = true) (hk : 20 ≤ k) : LF s = some (outS (lineV s).1.av (lineV s).2) ∧ (lineV s).1.valid = true ∧ 0 ≤ (lineV s).2.p ∧ (lineV s).2.p ≤ s.p + 20 := by
  have h1 := pick_on 8 h (by omega)
  have p1 := pB_on h h1 (by omega)
  obtain ⟨_, v, h2⟩ := drawV_on p1 (by omega)
  refine ⟨?_, ?_, ?_, ?_⟩
  · unfold LF
    rw [pB_less h (by omega), pB_less p1 (by omega)]
    rfl
  · unfold Ln.valid lineV
    have := pick_in (s := s) (m := 8) (by decide)
    rw [v, show inB (pickV 8 s).1 0 7 = true from inB_iff.2 (by omega)]
    rfl
  · show 0 ≤ (drawV (pickV 8 s).2).2.p
    omega
  · show (drawV (pickV 8 s).2).2.p ≤ s.p + 20
    omega
def l3d : List Int := [-1, 8, 15]
def KF1 (l : Ln) (s : Src) : Option AV := cond (pB 2 s.p && Nat.ble 1 3) (some (outS (⟨l3d.getD (pickV 3 s).1.toNat 0, l.o⟩ : Ln).av (pickV 3 s).2)) none
noncomputable def KF2 (l : Ln) (s : Src) : Option AV := cond (pB 22 s.p) (some (outS (⟨l.d, (bentV s).1⟩ : Ln).av (bentV s).2)) none
noncomputable def KF0 (l : Ln) (s : Src) : Option AV := cond (pB 2 s.p) (cond ((pickV 16 s).1 == 0) (KF1 l (pickV 16 s).2) (cond ((pickV 16 s).1 == 1) (KF2 l (pickV 16 s).2) (some (outS l.av (pickV 16 s).2)))) none
noncomputable def KF (s : Src) : Option AV := cond (pB 20 s.p) (KF0 (lineV s).1 (lineV s).2) none
theorem bentL_dr : Dr 44 KF Ln.av (fun _ => True) := fun s h => by
  obtain ⟨_, _, h1⟩ := line_on h (by decide)
  have p1 := pB_on h h1 (by decide)
  have h2 := pick_on 16 p1 (by decide)
  have p2 := pB_on p1 h2 (by decide)
  have h3 := pick_on 3 p2 (by decide)
  obtain ⟨_, h4, _⟩ := bent_dr.spec z3 (pB_less (l := 22) p2 (by decide))
  change 0 ≤ (bentV (pickV 16 (lineV s).2).2).2.p ∧ (bentV (pickV 16 (lineV s).2).2).2.p ≤ _ at h4
  unfold KF KF0 KF1 KF2
  rw [pB_less h (by decide), pB_less p1 (by decide), pB_less (k := 44 - 20 - 2) (l := 2) p2 (by decide), pB_less (l := 22) p2 (by decide)]
  simp only [cond_true]
  cases (pickV 16 (lineV s).2).1 == 0 with
  | true => (refine ⟨⟨_, (lineV s).1.o⟩, _, rfl, ⟨?_, ?_⟩, trivial⟩ <;> (try simp only) <;> omega)
  | false =>
    simp only [cond_false]
    cases (pickV 16 (lineV s).2).1 == 1 with
    | true => (refine ⟨⟨(lineV s).1.d, (bentV (pickV 16 (lineV s).2).2).1⟩, (bentV (pickV 16 (lineV s).2).2).2, rfl, ⟨?_, ?_⟩, trivial⟩ <;> omega)
    | false => exact ⟨_, _, rfl, ⟨by omega, by omega⟩, trivial⟩
def ln0 : Ln := ⟨0, z3⟩
noncomputable def bentLV (s : Src) : Ln × Src := bentL_dr.get ln0 s
noncomputable def drL (s : Src) : Ln := (bentLV s).1

/-! ### the sign as the reference computes it -/
def sgS (a b : Int) : Int := cond (a == 0 && b == 0) 0 (cond (decide (a ≥ 0) && decide (b ≥ 0)) 1 (cond (decide (a ≤ 0) && decide (b ≤ 0)) (-1) (cond (decide (a * a < 2 * (b * b)) == decide (b > 0)) 1 (-1))))
theorem sgS_eq (a b : Int) : sgS a b = sgZ a b := by
  unfold sgS
  rcases sgZ_cases a b with ⟨h, e⟩ | ⟨h, e⟩ | ⟨rfl, rfl, e⟩
  · rw [e]
    have hl : decide (a * a < 2 * (b * b)) = false := by simp; omega
    rw [hl]
    have hb := sq_nonneg b
    rcases Int.lt_trichotomy a 0 with ha | ha | ha
    · rw [Int.sign_eq_neg_one_of_neg ha]
      have e1 : (a == 0) = false := by simp; omega
      have e2 : decide (a ≥ 0) = false := by simp; omega
      have e3 : decide (a ≤ 0) = true := by simp; omega
      rw [e1, e2, e3]
      by_cases hb0 : b ≤ 0
      · have e4 : decide (b ≤ 0) = true := by simpa using hb0
        rw [e4]; rfl
      · have e4 : decide (b ≤ 0) = false := by simp; omega
        have e5 : decide (b > 0) = true := by simp; omega
        rw [e4, e5]; rfl
    · subst ha; omega
    · rw [Int.sign_eq_one_of_pos ha]
      have e1 : (a == 0) = false := by simp; omega
      have e2 : decide (a ≥ 0) = true := by simp; omega
      have e3 : decide (a ≤ 0) = false := by simp; omega
      rw [e1, e2, e3]
      by_cases hb0 : b ≥ 0
      · have e4 : decide (b ≥ 0) = true := by simpa using hb0
        rw [e4]; rfl
      · have e4 : decide (b ≥ 0) = false := by simp; omega
        have e5 : decide (b > 0) = false := by simp; omega
        rw [e4, e5]; rfl
  · rw [e]
    have hl : decide (a * a < 2 * (b * b)) = true := by simpa using h
    rw [hl]
    have ha := sq_nonneg a
    rcases Int.lt_trichotomy b 0 with hb | hb | hb
    · rw [Int.sign_eq_neg_one_of_neg hb]
      have e1 : (b == 0) = false := by simp; omega
      have e2 : decide (b ≥ 0) = false := by simp; omega
      have e3 : decide (b ≤ 0) = true := by simp; omega
      have e5 : decide (b > 0) = false := by simp; omega
      rw [e1, e2, e3, e5]
      cases (a == 0) <;> cases decide (a ≥ 0) <;> cases decide (a ≤ 0) <;> rfl
    · subst hb; omega
    · rw [Int.sign_eq_one_of_pos hb]
      have e1 : (b == 0) = false := by simp; omega
      have e2 : decide (b ≥ 0) = true := by simp; omega
      have e3 : decide (b ≤ 0) = false := by simp; omega
      have e5 : decide (b > 0) = true := by simp; omega
      rw [e1, e2, e3, e5]
      cases (a == 0) <;> cases decide (a ≥ 0) <;> cases decide (a ≤ 0) <;> rfl
  · rfl

/-! ### the law -/
def rfZ (l : Ln) : P2 := rflI (nrm l.d) l.o zP
def rfO (l : Ln) : Bool := l.valid && valP (redP (rfZ l))
def rfM (l : Ln) : M8 := ⟨cond (rfO l) l.d 0, cond (rfO l) true false, selP (rfO l) (redP (rfZ l))⟩
def rpO (l : Ln) (p : P2) : Bool := (l.valid && valP p) && valP (redP (rflI (nrm l.d) l.o p))
def rpP (l : Ln) (p : P2) : P2 := selP (rpO l p) (redP (rflI (nrm l.d) l.o p))
def soV (l : Ln) (p : P2) : Int := cond (l.valid && valP p) (sgF (subF (dotF (nrm l.d) p) l.o)) 0
def yes : Option AV := some (bv true)
def fT9 (l : Ln) (m : M8) (p : P2) : Option AV := cond (mvO m p == rpO l p) (cond (eqP2 (mvP m p) (rpP l p)) (cond (cmO m m) (cond (eqM8 (cmM m m) m0)
  (cond (soV l p != 0) yes (cond (!mvO m p) yes (some (bv (eqP2 (mvP m p) p))))) no) no) no) no
def fT7 (l : Ln) (m : M8) (ok known : Bool) (p : P2) : Option AV := cond (!ok) (some (bv (ok == known))) (cond (!valP p) (some (bv (ok == known))) (fT9 l m p))
theorem rfl_low {l : Ln} {p : P2} (hl : l.valid = true) (hp : valP p = true ∨ p = zP) : lowB (rflI (nrm l.d) l.o p).x ∧ lowB (rflI (nrm l.d) l.o p).y := by
  unfold Ln.valid at hl
  rw [Bool.and_eq_true] at hl
  obtain ⟨O1, O2, vo⟩ := valid_vb hl.2
  obtain ⟨v, hv⟩ : ∃ v, PV 10 p v 134217728 := by
    rcases hp with hp | rfl
    · exact valP_pv hp
    · exact ⟨_, pv_zero⟩
  rcases nv_all hl.1 with ⟨_, hn⟩ | ⟨_, hn⟩ | ⟨_, hn⟩ | ⟨_, hn⟩ | ⟨_, hn⟩ | ⟨_, hn⟩ | ⟨_, hn⟩ | ⟨_, hn⟩ <;> exact (rfl_val hn hv vo).2
theorem refls_ok (l : Ln) (p : P2) : fT7 l (rfM l) (rfO l) (rfO l) p = yes := by
  unfold fT7
  have hs : (rfO l == rfO l) = true := by simp
  rw [hs]
  cases ho : rfO l with
  | false => rfl
  | true =>
    cases hp : valP p with
    | false => rfl
    | true =>
      simp only [Bool.not_true, cond_false]
      have ho' := ho
      unfold rfO at ho'
      rw [Bool.and_eq_true] at ho'
      obtain ⟨hl, hz⟩ := ho'
      obtain ⟨z1, z2⟩ := rfl_low hl (.inr rfl)
      have ez : redP (rfZ l) = rfZ l := redP_low z1 z2
      rw [ez] at hz
      have hl' := hl
      unfold Ln.valid at hl'
      rw [Bool.and_eq_true] at hl'
      obtain ⟨k1, k2, k3, k4, k5⟩ := refl_move hl'.1 hl'.2 hp hz
      have em : rfM l = ⟨l.d, true, rfZ l⟩ := by unfold rfM; rw [ho, ez]; rfl
      have hm : (rfM l).valid = true := by rw [em]; unfold M8.valid; rw [show inB l.d 0 7 = true from hl'.1, show valP (rfZ l) = true from hz]; rfl
      have er : redP (rflI (nrm l.d) l.o p) = rflI (nrm l.d) l.o p := redP_low k4 k5
      have e1 : mvO (rfM l) p = rpO l p := by
        rw [mvO_true hm hp, em]
        unfold rpO
        rw [hl, hp]
        show valP (redP (moveF l.d true (rflI (nrm l.d) l.o zP) p)) = _
        rw [k1]
        rfl
      have e2 : mvP (rfM l) p = rpP l p := by
        unfold mvP rpP
        rw [e1, em]
        show selP _ (redP (moveF l.d true (rflI (nrm l.d) l.o zP) p)) = _
        rw [k1]
      have e3 : moveF (rfM l).t (rfM l).f (rfM l).s (rfM l).s = zP := by rw [em]; exact k2
      have e4 : cmO (rfM l) (rfM l) = true := by
        unfold cmO
        rw [e3]
        unfold M8.valid at hm
        rw [hm]
        decide
      have e5 : cmM (rfM l) (rfM l) = m0 := by
        unfold cmM
        rw [e4, e3, em]
        simp only [cond_true]
        have : cmpT l.d l.d true = 0 := by unfold cmpT; simp
        rw [this]
        rfl
      unfold fT9
      rw [e1, e2, e4, e5]
      rw [show (rpO l p == rpO l p) = true by simp, eqP2_self, show eqM8 m0 m0 = true by decide]
      simp only [cond_true]
      cases h : (soV l p != 0) with
      | true => rfl
      | false =>
        cases hr : rpO l p with
        | false => rfl
        | true =>
          have h0 : soV l p = 0 := by simpa using h
          unfold soV at h0
          rw [hl, hp] at h0
          have e6 := k3 h0
          have e7 : rpP l p = p := by unfold rpP; rw [hr, er, e6]; rfl
          rw [e7, eqP2_self]
          rfl
theorem side_ok {d : Int} {off : N3} {p : P2} (hd : inB d 0 7 = true) (ho : validB off = true) (hp : valP p = true) :
    inB (wr (d + 4)) 0 15 = true ∧ pkD (nrm d) p = true ∧ pk (dotF (nrm d) p) off = true ∧ (sB (subF (dotF (nrm d) p) off).a && sB (subF (dotF (nrm d) p) off).b) = true := by
  obtain ⟨E, hn⟩ := nrm_all d hd
  obtain ⟨k1, _, _, k2, _⟩ := refl_same hn ho hp
  refine ⟨nrm_in hd, k1, k2, ?_⟩
  obtain ⟨O1, O2, vo⟩ := valid_vb ho
  obtain ⟨v, hv⟩ := valP_pv hp
  have fin : ∀ {c1 e1 c2 e2 na nb : Int} {E : Nat}, Nv (nrm d) c1 e1 c2 e2 na nb E → (sB (subF (dotF (nrm d) p) off).a && sB (subF (dotF (nrm d) p) off).b) = true := fun hn => by
    obtain ⟨dv, _⟩ := dot_vb hn hv
    have h := (dv.sub vo (by decide) (by decide)).1
    obtain ⟨b1, b2⟩ := h.v.bd
    have b1 := Nat.le_trans b1 h.a
    have b2 := Nat.le_trans b2 h.b
    clear h
    rw [Bool.and_eq_true]
    exact ⟨sB_iff.2 (by omega), sB_iff.2 (by omega)⟩
  rcases nv_all hd with ⟨_, hn⟩ | ⟨_, hn⟩ | ⟨_, hn⟩ | ⟨_, hn⟩ | ⟨_, hn⟩ | ⟨_, hn⟩ | ⟨_, hn⟩ | ⟨_, hn⟩ <;> exact fin hn
/-- A square in two words as the reference computes it. -/
def lo32 (u : Int) : Int := u64w ↑(BitVec.ofInt 64 u &&& BitVec.ofInt 64 4294967295).toNat
def hi32 (u : Int) : Int := u.fdiv (2 ^ min (Int.toNat 32) 64)
def md32 (u : Int) : Int := u64w (u64w (2 * lo32 u) * hi32 u)
def sm32 (u : Int) : Int := u64w (u64w (lo32 u * lo32 u) + u64w (md32 u * 2 ^ min (Int.toNat 32) 64))
def wv (x : Int) : AV := .val (.int .u64 x)
def sqT (u : Int) : Option AV := cond (decide (sm32 u < u64w (lo32 u * lo32 u))) (some (.tup [wv (u64w (u64w (hi32 u * hi32 u) + u64w ((md32 u).fdiv (2 ^ min (Int.toNat 32) 64) + 1))), wv (sm32 u)]))
  (some (.tup [wv (u64w (u64w (hi32 u * hi32 u) + (md32 u).fdiv (2 ^ min (Int.toNat 32) 64))), wv (sm32 u)]))
theorem sqT_ok {u : Int} (h : 0 ≤ u) (h' : u < 2147483648) : sqT u = some (.tup [wv 0, wv (u * u)]) := by
  have hp : (2 : Int) ^ min (Int.toNat 32) 64 = 4294967296 := by decide
  have e1 : lo32 u = u := by unfold lo32 u64w; rw [and_mask h (by omega), u64_in h (by omega)]
  have e2 : hi32 u = 0 := by unfold hi32; rw [hp, Int.fdiv_eq_ediv_of_nonneg _ (by decide)]; omega
  have z : u64w 0 = 0 := by decide
  have e3 : md32 u = 0 := by unfold md32; rw [e2, Int.mul_zero, z]
  have hu : 0 ≤ u * u := Int.mul_nonneg h h
  have hu' : u * u ≤ 2147483647 * 2147483647 := Int.mul_le_mul (by omega) (by omega) h (by decide)
  have e4 : u64w (u * u) = u * u := u64_in hu (by omega)
  have e5 : sm32 u = u * u := by unfold sm32; rw [e1, e3, Int.zero_mul, z, Int.add_zero, e4, e4]
  unfold sqT
  rw [e1, e2, e3, e4, e5, hp, show decide (u * u < u * u) = false by simp]
  rfl
theorem sq_ok {x : Int} (h : sB x = true) : cond (decide (x < 0)) (sqT (u64w (wr (0 - x)))) (sqT (u64w x)) = some (.tup [wv 0, wv (x * x)]) := by
  have h := sB_iff.1 h
  by_cases hx : x < 0
  · rw [show decide (x < 0) = true by simpa using hx, cond_true, wr_in (by omega) (by omega), show u64w (0 - x) = 0 - x from u64_in (by omega) (by omega), sqT_ok (by omega) (by omega)]
    rw [show (0 - x) * (0 - x) = x * x by grind]
  · rw [show decide (x < 0) = false by simpa using hx, cond_false, show u64w x = x from u64_in (by omega) (by omega), sqT_ok (by omega) (by omega)]
theorem less_ok {x y : Int} (hx : sB x = true) (hy : sB y = true) : cond (decide (0 < u64w (u64w (0 * 2) + (y * y).fdiv (2 ^ min (Int.toNat 63) 64)))) (some (bv true))
    (cond (0 == u64w (u64w (0 * 2) + (y * y).fdiv (2 ^ min (Int.toNat 63) 64))) (some (bv (decide (x * x < u64w (y * y * 2))))) (some (bv false))) = some (bv (decide (x * x < 2 * (y * y)))) := by
  obtain ⟨_, _, _, g1, g2⟩ := abs_u hy
  have hp : (2 : Int) ^ min (Int.toNat 63) 64 = 9223372036854775808 := by decide
  have ez : (y * y).fdiv 9223372036854775808 = 0 := by rw [Int.fdiv_eq_ediv_of_nonneg _ (by decide)]; omega
  have z : u64w (u64w (0 * 2) + 0) = 0 := by decide
  rw [hp, ez, z, show u64w (y * y * 2) = y * y * 2 from u64_in (by omega) (by omega), Int.mul_comm (y * y) 2]
  rfl
end Go.Ev
