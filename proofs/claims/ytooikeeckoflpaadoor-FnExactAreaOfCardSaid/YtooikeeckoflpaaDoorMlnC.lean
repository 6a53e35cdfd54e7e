/- What the contracts about moved lines and directions need. -/
import Derived.Test.YtooikeeckoflpaaDoorMlnB
set_option linter.unusedVariables false
set_option linter.unusedSimpArgs false
namespace Go.Ev

theorem mod_ok {d : Int} (h : inB d (-100) 100 = true) : (wr (d.tmod 16 + 16)).tmod 16 = d % 16 := by
  have h := inB_iff.1 h
  have e : d.tmod 16 = d % 16 ∨ d.tmod 16 = d % 16 - 16 := by
    by_cases h0 : 0 ≤ d
    · left; exact Int.tmod_eq_emod_of_nonneg h0
    · by_cases h1 : d % 16 = 0
      · left
        obtain ⟨k, hk⟩ : ∃ k, d = 16 * k := ⟨d / 16, by omega⟩
        rw [hk]; simp
      · right
        have : d.tmod 16 = -((-d).tmod 16) := by rw [Int.neg_tmod, Int.neg_neg]
        rw [this, Int.tmod_eq_emod_of_nonneg (by omega)]
        omega
  rw [wr_in (by omega) (by omega), Int.tmod_eq_emod_of_nonneg (by omega)]
  omega
theorem mod_small {d : Int} (h : inB d 0 15 = true) : d % 16 = d := by have := inB_iff.1 h; omega
/-- A vector that is no longer than the difference of two points. -/
def wayB (w : P2) : Bool := decide ((0 ≤ w.x.k ∧ w.x.k ≤ 10) ∧ (0 ≤ w.y.k ∧ w.y.k ≤ 10)) && decide (((w.x.a * 2 ^ (10 - w.x.k.toNat)).natAbs ≤ 268435456 ∧ (w.x.b * 2 ^ (10 - w.x.k.toNat)).natAbs ≤ 268435456) ∧
  ((w.y.a * 2 ^ (10 - w.y.k.toNat)).natAbs ≤ 268435456 ∧ (w.y.b * 2 ^ (10 - w.y.k.toNat)).natAbs ≤ 268435456))
theorem wayB_way {w : P2} (h : wayB w = true) : ∃ v, Way w v := by
  unfold wayB at h
  simp only [Bool.and_eq_true, decide_eq_true_eq] at h
  obtain ⟨⟨⟨h1, h2⟩, h3, h4⟩, ⟨h5, h6⟩, h7, h8⟩ := h
  exact ⟨⟨_, _, _, _⟩, ⟨⟨⟨⟨h1, h2, rfl, rfl⟩, h5, h6⟩, ⟨⟨h3, h4, rfl, rfl⟩, h7, h8⟩⟩⟩⟩
theorem way_wayB {w : P2} {v : V4} (h : Way w v) : wayB w = true := by
  obtain ⟨⟨⟨vx, ax, bx⟩, ⟨vy, ay, by_⟩⟩⟩ := h
  rw [vx.a] at ax
  rw [vx.b] at bx
  rw [vy.a] at ay
  rw [vy.b] at by_
  unfold wayB
  simp only [Bool.and_eq_true, decide_eq_true_eq]
  exact ⟨⟨⟨vx.k0, vx.kS⟩, vy.k0, vy.kS⟩, ⟨ax, bx⟩, ay, by_⟩
def zroN (x : N3) : Bool := x.a == 0 && x.b == 0
/-- The reference's test is the program's. -/
theorem zro_perp {d : Int} {w : P2} {v : V4} (hd : inB d 0 15 = true) (h : Way w v) : zroN (dotF (vecP ((d + 4) % 16)) w) = eqN (crsF (vecP d) w) z3 := by
  obtain ⟨_, _, _, k1, _⟩ := way_ok hd h
  have hd4 : inB ((d + 4) % 16) 0 15 = true := inB_iff.2 (by omega)
  obtain ⟨eq, h1, h2, h3, h4, h5⟩ := vv_all hd4
  obtain ⟨p1, p2⟩ := perp16 hd v
  have hx := h.pv.x
  have hy := h.pv.y
  have vd : Val 10 (dotF (vecP ((d + 4) % 16)) w) (dtA ((d + 4) % 16) v) (dtB ((d + 4) % 16) v) := by
    unfold dtA dtB
    generalize vC1 ((d + 4) % 16) = c1 at *
    generalize vE1 ((d + 4) % 16) = e1 at *
    generalize vC2 ((d + 4) % 16) = c2 at *
    generalize vE2 ((d + 4) % 16) = e2 at *
    rw [eq]
    obtain ⟨m1, _⟩ := VB.vmul (Val.mk0 c1 e1) h1 h2 hx (by decide) (by decide)
    obtain ⟨m2, _⟩ := VB.vmul (Val.mk0 c2 e2) h3 h4 hy (by decide) (by decide)
    exact (m1.add m2 (by decide) (by decide)).1.v
  rw [p1, p2] at vd
  have hk := vd.kS
  have hp := pow_pos2 (10 - (dotF (vecP ((d + 4) % 16)) w).k.toNat)
  have iff1 : zroN (dotF (vecP ((d + 4) % 16)) w) = true ↔ crA d v = 0 ∧ crB d v = 0 := by
    rw [vd.a, vd.b]
    unfold zroN
    rw [Bool.and_eq_true, beq_iff_eq, beq_iff_eq]
    constructor
    · rintro ⟨a, b⟩
      rw [a, b]
      simp
    · rintro ⟨a, b⟩
      rcases Int.mul_eq_zero.1 a with a | a
      · rcases Int.mul_eq_zero.1 b with b | b
        · exact ⟨a, b⟩
        · omega
      · omega
  rw [← k1] at iff1
  cases h1 : zroN (dotF (vecP ((d + 4) % 16)) w) <;> cases h2 : eqN (crsF (vecP d) w) z3 <;> simp_all
/-- A moved line: no step of the computation wraps. -/
theorem ml_ok {m : M8} {l : Ln} (hm : m.valid = true) (hl : l.valid = true) : okM m.t (footF (nrm l.d) l.o) m.s = true ∧ (inB (wr (dirM m l.d % 8 + 4)) 0 15 && pkD (nrm (dirM m l.d % 8)) (mlP m l)) = true ∧ inB l.d 0 15 = true ∧
    kB (mlX m l).k = true ∧ red (mlX m l) = mlX m l := by
  unfold M8.valid at hm
  unfold Ln.valid at hl
  rw [Bool.and_eq_true] at hm hl
  obtain ⟨E, f, O1, O2, hf⟩ := foot_ex hl.1 hl.2
  obtain ⟨w, hw⟩ := valP_pv hm.2
  obtain ⟨_, k1, k2, k3, hd⟩ := ml_val hm.1 hf hw
  obtain ⟨_, _, _, _, a5, _⟩ := mirror_same hl.1 hl.2
  have hb := inB_iff.1 hl.1
  have he := hf.e3
  refine ⟨?_, ?_, inB_iff.2 (by omega), k1.kB (by omega), red_fix k2⟩
  · unfold okM
    rw [hm.1, a5, val_ok hm.2]
    rfl
  · rw [nrm_in hd, k3]
    rfl
theorem dirM_spec {t d : Int} (ht : inB t 0 7 = true) (hd : inB d 0 15 = true) : (inB (wr (wr (0 - d) + wr (2 * t))) (-100) 100 = true ∧ wr (wr (0 - d) + wr (2 * t)) % 16 = (16 - d + 2 * t) % 16) ∧
    (inB (wr (d + wr (2 * t))) (-100) 100 = true ∧ wr (d + wr (2 * t)) % 16 = (d + 2 * t) % 16) := by
  have ht := inB_iff.1 ht
  have hd := inB_iff.1 hd
  rw [wr_in (n := 2 * t) (by omega) (by omega), wr_in (n := 0 - d) (by omega) (by omega), wr_in (n := 0 - d + 2 * t) (by omega) (by omega), wr_in (by omega) (by omega)]
  exact ⟨⟨inB_iff.2 (by omega), by omega⟩, inB_iff.2 (by omega), rfl⟩
noncomputable def mlN (s : Src) : Ln := (bentLV (bentMV s).2).1
end Go.Ev
