/- Moved lines: sides and directions under motions. -/
import Derived.Test.YtooikeeckoflpaaDoorDirD
set_option linter.unusedVariables false
set_option linter.unusedSimpArgs false
namespace Go.Ev

theorem and64_15 (x : Int) : and64 x 15 = x % 16 := by
  unfold and64
  show IntKind.i64.wrap ((BitVec.ofInt 64 x &&& BitVec.ofInt 64 15).toNat : Int) = x % 16
  have h : (BitVec.ofInt 64 x &&& BitVec.ofInt 64 15).toNat = (BitVec.ofInt 64 x).toNat % 16 := by
    rw [BitVec.toNat_and]
    show (BitVec.ofInt 64 x).toNat &&& 15 = _
    exact Nat.and_two_pow_sub_one_eq_mod _ 4
  rw [h]
  have h2 : (BitVec.ofInt 64 x).toNat = (x % 18446744073709551616).toNat := by
    rw [BitVec.toNat_ofInt]
    rfl
  rw [h2]
  show wr _ = _
  rw [wr_in (by omega) (by omega)]
  omega
/-- The sign of the scalar product with a direction. -/
def sgD (e : Int) (u : V4) : Int := sgZ (dtA e u) (dtB e u)
theorem sgD_db {e : Int} {w : V4} : sgD e (db w) = sgD e w := by
  have h3 : dtA e (db w) = 2 * dtA e w := by unfold dtA db; grind
  have h4 : dtB e (db w) = 2 * dtB e w := by unfold dtB db; grind
  unfold sgD
  rw [h3, h4]
  exact Times.sg (.inl ⟨rfl, rfl⟩)
theorem sgD_turn1 {e : Int} (he : inB e 0 15 = true) (w : V4) : sgD ((e + 2) % 16) (tv 1 w) = sgD e w := (turn_all he w).1.sg
theorem sgD_turn {e : Int} (w : V4) (he : inB e 0 15 = true) : ∀ n : Nat, n < 8 → sgD ((e + 2 * n) % 16) (tv n w) = sgD e w
  | 0, _ => by
    have h' := inB_iff.1 he
    rw [show (e + 2 * ((0 : Nat) : Int)) % 16 = e by omega, show ((0 : Nat) : Int) = 0 from rfl, (tv_all w).1]
    exact sgD_db
  | n + 1, hn => by
    have ih := sgD_turn w he n (by omega)
    have hb : inB ((e + 2 * n) % 16) 0 15 = true := inB_iff.2 (by omega)
    have k := sgD_turn1 hb (tv n w)
    have ht : inB (n : Int) 0 7 = true := inB_iff.2 (by omega)
    rw [tv_one ht, show ((n : Int) + 1) % 8 = ((n + 1 : Nat) : Int) by omega, sgD_db, ih] at k
    rw [← k]
    congr 1
    omega
theorem v_opp16 {d : Int} (hd : inB d 0 15 = true) : vC1 ((d + 8) % 16) = -vC1 d ∧ vE1 ((d + 8) % 16) = -vE1 d ∧ vC2 ((d + 8) % 16) = -vC2 d ∧ vE2 ((d + 8) % 16) = -vE2 d := by
  rcases d16 hd with rfl | rfl | rfl | rfl | rfl | rfl | rfl | rfl | rfl | rfl | rfl | rfl | rfl | rfl | rfl | rfl <;> decide
theorem v_perp16 {d : Int} (hd : inB d 0 15 = true) : vC1 ((d + 4) % 16) = -vC2 d ∧ vE1 ((d + 4) % 16) = -vE2 d ∧ vC2 ((d + 4) % 16) = vC1 d ∧ vE2 ((d + 4) % 16) = vE1 d := by
  rcases d16 hd with rfl | rfl | rfl | rfl | rfl | rfl | rfl | rfl | rfl | rfl | rfl | rfl | rfl | rfl | rfl | rfl <;> decide
theorem v_flip16 {e : Int} (he : inB e 0 15 = true) : vC1 ((16 - e) % 16) = vC1 e ∧ vE1 ((16 - e) % 16) = vE1 e ∧ vC2 ((16 - e) % 16) = -vC2 e ∧ vE2 ((16 - e) % 16) = -vE2 e := by
  rcases d16 he with rfl | rfl | rfl | rfl | rfl | rfl | rfl | rfl | rfl | rfl | rfl | rfl | rfl | rfl | rfl | rfl <;> decide
theorem sgD_opp {e : Int} (he : inB e 0 15 = true) (w : V4) : sgD ((e + 8) % 16) w = -sgD e w := by
  obtain ⟨h1, h2, h3, h4⟩ := v_opp16 he
  unfold sgD
  rw [← sgZ_minus]
  have e1 : dtA ((e + 8) % 16) w = -dtA e w := by unfold dtA; rw [h1, h2, h3, h4]; grind
  have e2 : dtB ((e + 8) % 16) w = -dtB e w := by unfold dtB; rw [h1, h2, h3, h4]; grind
  rw [e1, e2]
theorem perp16 {d : Int} (hd : inB d 0 15 = true) (w : V4) : dtA ((d + 4) % 16) w = crA d w ∧ dtB ((d + 4) % 16) w = crB d w := by
  obtain ⟨h1, h2, h3, h4⟩ := v_perp16 hd
  unfold dtA dtB crA crB
  rw [h1, h2, h3, h4]
  constructor <;> grind
theorem flip_all {e : Int} (he : inB e 0 15 = true) (w : V4) : dtA ((16 - e) % 16) (fl true w) = dtA e w ∧ dtB ((16 - e) % 16) (fl true w) = dtB e w ∧ crA ((16 - e) % 16) (fl true w) = -crA e w ∧ crB ((16 - e) % 16) (fl true w) = -crB e w := by
  obtain ⟨h1, h2, h3, h4⟩ := v_flip16 he
  unfold dtA dtB crA crB fl
  rw [h1, h2, h3, h4]
  refine ⟨?_, ?_, ?_, ?_⟩ <;> simp only [cond_true] <;> grind
theorem sgD_flip {e : Int} (he : inB e 0 15 = true) (w : V4) : sgD ((16 - e) % 16) (fl true w) = sgD e w := by
  obtain ⟨h1, h2, _⟩ := flip_all he w
  unfold sgD
  rw [h1, h2]
theorem isDir_fl {e : Int} {w : V4} (he : inB e 0 15 = true) (h : isDir e w) : isDir ((16 - e) % 16) (fl true w) := by
  obtain ⟨h1, h2, h3, h4⟩ := flip_all he w
  have g1 := h.1
  have g2 := h.2.1
  exact ⟨by omega, by omega, by rw [h1, h2]; exact h.2.2⟩

/-- The direction to which a motion turns a direction. -/
def dirM (m : M8) (d : Int) : Int := (cond m.f (16 - d) d + 2 * m.t) % 16
theorem dirM_in (m : M8) (d : Int) : inB (dirM m d) 0 15 = true := inB_iff.2 (by unfold dirM; omega)
theorem dirM_is {m : M8} {d : Int} {w : V4} (hm : inB m.t 0 7 = true) (hd : inB d 0 15 = true) (h : isDir d w) : isDir (dirM m d) (tv m.t (fl m.f w)) := by
  have ht := inB_iff.1 hm
  have hd' := inB_iff.1 hd
  obtain ⟨n, hn⟩ : ∃ n : Nat, m.t = n := ⟨m.t.toNat, by omega⟩
  unfold dirM
  cases hf : m.f with
  | false =>
    have := isDir_turn hd h n (by omega)
    rw [hn]
    exact this
  | true =>
    have hb : inB ((16 - d) % 16) 0 15 = true := inB_iff.2 (by omega)
    have := isDir_turn hb (isDir_fl hd h) n (by omega)
    rw [hn]
    simp only [cond_true]
    rw [show (16 - d + 2 * (n : Int)) % 16 = ((16 - d) % 16 + 2 * n) % 16 by omega]
    exact this
/-- The side of a moved line. -/
theorem sgD_moved {m : M8} {d : Int} (u : V4) (hm : inB m.t 0 7 = true) (hd : inB d 0 7 = true) :
    sgD (dirM m d % 8 + 4) (tv m.t (fl m.f u)) = cond (decide (dirM m d ≥ 8)) (-(cond m.f (-(sgD (d + 4) u)) (sgD (d + 4) u))) (cond m.f (-(sgD (d + 4) u)) (sgD (d + 4) u)) := by
  have ht := inB_iff.1 hm
  have hd' := inB_iff.1 hd
  obtain ⟨n, hn⟩ : ∃ n : Nat, m.t = n := ⟨m.t.toNat, by omega⟩
  have he : inB (d + 4) 0 15 = true := inB_iff.2 (by omega)
  unfold dirM
  cases hf : m.f with
  | false =>
    have k := sgD_turn u he n (by omega)
    rw [hn]
    simp only [cond_false]
    show sgD _ (tv n u) = _
    by_cases h8 : (d + 2 * (n : Int)) % 16 ≥ 8
    · rw [show decide ((d + 2 * (n : Int)) % 16 ≥ 8) = true by simpa using h8, cond_true]
      have hb : inB ((d + 2 * (n : Int)) % 16 % 8 + 4) 0 15 = true := inB_iff.2 (by omega)
      have := sgD_opp hb (tv n u)
      rw [← k, show (d + 4 + 2 * (n : Int)) % 16 = ((d + 2 * (n : Int)) % 16 % 8 + 4 + 8) % 16 by omega, this]
      omega
    · rw [show decide ((d + 2 * (n : Int)) % 16 ≥ 8) = false by simpa using h8, cond_false]
      rw [← k, show (d + 4 + 2 * (n : Int)) % 16 = (d + 2 * (n : Int)) % 16 % 8 + 4 by omega]
  | true =>
    have hb0 : inB ((16 - (d + 4)) % 16) 0 15 = true := inB_iff.2 (by omega)
    have k := sgD_turn (fl true u) hb0 n (by omega)
    rw [sgD_flip he] at k
    rw [hn]
    simp only [cond_true]
    by_cases h8 : (16 - d + 2 * (n : Int)) % 16 ≥ 8
    · rw [show decide ((16 - d + 2 * (n : Int)) % 16 ≥ 8) = true by simpa using h8, cond_true]
      rw [← k, show ((16 - (d + 4)) % 16 + 2 * (n : Int)) % 16 = (16 - d + 2 * (n : Int)) % 16 % 8 + 4 by omega]
      omega
    · rw [show decide ((16 - d + 2 * (n : Int)) % 16 ≥ 8) = false by simpa using h8, cond_false]
      have hb : inB ((16 - d + 2 * (n : Int)) % 16 % 8 + 4) 0 15 = true := inB_iff.2 (by omega)
      have := sgD_opp hb (tv n (fl true u))
      rw [← k, show ((16 - (d + 4)) % 16 + 2 * (n : Int)) % 16 = ((16 - d + 2 * (n : Int)) % 16 % 8 + 4 + 8) % 16 by omega, this]
      omega

/-! ### the foot of a line -/
structure Ft (d : Int) (off : N3) (E : Nat) (f : V4) (O1 O2 : Int) : Prop where
  e3 : E ≤ 3
  o : VB 10 off O1 O2 134217728
  pv : PV (10 + E) (footF (nrm d) off) f 4831838208
  x : lowB (footF (nrm d) off).x
  y : lowB (footF (nrm d) off).y
  i : timesF (nrm d) (dvF off (dotF (nrm d) (nrm d))) = footF (nrm d) off
  t : pkT (nrm d) (dvF off (dotF (nrm d) (nrm d))) = true
  a : dtA (d + 4) f = O1 * 2 ^ E
  b : dtB (d + 4) f = O2 * 2 ^ E
theorem foot_ex {d : Int} {off : N3} (hd : inB d 0 7 = true) (ho : validB off = true) : ∃ E f O1 O2, Ft d off E f O1 O2 := by
  obtain ⟨O1, O2, vo⟩ := valid_vb ho
  have main : ∀ {c1 e1 c2 e2 na nb : Int} {E : Nat}, Nv (nrm d) c1 e1 c2 e2 na nb E → vC1 (d + 4) = c1 → vE1 (d + 4) = e1 → vC2 (d + 4) = c2 → vE2 (d + 4) = e2 →
      (∀ Q1 Q2, Q1 = O1 * na - 2 * O2 * nb → Q2 = O2 * na - O1 * nb → c1 * (Q1 * c1 + 2 * Q2 * e1) + 2 * e1 * (Q1 * e1 + Q2 * c1) + (c2 * (Q1 * c2 + 2 * Q2 * e2) + 2 * e2 * (Q1 * e2 + Q2 * c2)) = O1 * 2 ^ E ∧
        c1 * (Q1 * e1 + Q2 * c1) + e1 * (Q1 * c1 + 2 * Q2 * e1) + (c2 * (Q1 * e2 + Q2 * c2) + e2 * (Q1 * c2 + 2 * Q2 * e2)) = O2 * 2 ^ E) → ∃ E f O1 O2, Ft d off E f O1 O2 := by
    intro c1 e1 c2 e2 na nb E hn v1 v2 v3 v4 hall
    have hl := hn.l
    have hSE : 10 + E ≤ 1000 := by omega
    have ho1 := hn.o
    have hz := hn.z
    have he := hn.e
    have hq := hn.q
    obtain ⟨_, _, w, wl⟩ := vo.div (y := dotF (nrm d) (nrm d)) (E := E) (by rw [hq]; exact hn.h5) (by rw [hq]; exact hn.h6) (by rw [hq]) (by rw [hq]; exact .inl ho1) (by rw [hq]; exact hz) (by rw [hq]; exact he) hSE (by decide) (by decide)
    rw [hq, ho1] at w
    simp only [Int.one_mul] at w
    rw [← hq] at w
    obtain ⟨s1, s2⟩ := hall _ _ rfl rfl
    generalize O1 * na - 2 * O2 * nb = Q1 at *
    generalize O2 * na - O1 * nb = Q2 at *
    have hx : (nrm d).x = ⟨c1, e1, 0⟩ := by rw [hn.eq]
    have hy : (nrm d).y = ⟨c2, e2, 0⟩ := by rw [hn.eq]
    have vx : Val 0 (nrm d).x c1 e1 := by rw [hx]; exact Val.mk0 _ _
    have vy : Val 0 (nrm d).y c2 e2 := by rw [hy]; exact Val.mk0 _ _
    obtain ⟨f1, l1⟩ := w.mulv vx hn.h1 hn.h2 hSE (by decide)
    obtain ⟨f2, l2⟩ := w.mulv vy hn.h3 hn.h4 hSE (by decide)
    obtain ⟨g1, k1⟩ := VB.vmul vx hn.h1 hn.h2 w hSE (by decide)
    obtain ⟨g2, k2⟩ := VB.vmul vy hn.h3 hn.h4 w hSE (by decide)
    have eqt : timesF (nrm d) (dvF off (dotF (nrm d) (nrm d))) = footF (nrm d) off := by
      unfold timesF footF
      have t1 : c1 * Q1 + 2 * e1 * Q2 = Q1 * c1 + 2 * Q2 * e1 := by grind
      have t2 : c1 * Q2 + e1 * Q1 = Q1 * e1 + Q2 * c1 := by grind
      have t3 : c2 * Q1 + 2 * e2 * Q2 = Q1 * c2 + 2 * Q2 * e2 := by grind
      have t4 : c2 * Q2 + e2 * Q1 = Q1 * e2 + Q2 * c2 := by grind
      rw [t1, t2] at g1
      rw [t3, t4] at g2
      rw [g1.v.uniq f1.v k1 l1, g2.v.uniq f2.v k2 l2]
    refine ⟨E, ⟨Q1 * c1 + 2 * Q2 * e1, Q1 * e1 + Q2 * c1, Q1 * c2 + 2 * Q2 * e2, Q1 * e2 + Q2 * c2⟩, O1, O2, hl, vo, ⟨f1, f2⟩, l1, l2, eqt, ?_, ?_, ?_⟩
    · unfold pkT
      rw [(pk_val vx w.v (by decide) hSE).2, (pk_val vy w.v (by decide) hSE).2]
      rfl
    · unfold dtA
      rw [v1, v2, v3, v4]
      exact s1
    · unfold dtB
      rw [v1, v2, v3, v4]
      exact s2
  rcases nv_all hd with ⟨rfl, hn⟩ | ⟨rfl, hn⟩ | ⟨rfl, hn⟩ | ⟨rfl, hn⟩ | ⟨rfl, hn⟩ | ⟨rfl, hn⟩ | ⟨rfl, hn⟩ | ⟨rfl, hn⟩ <;>
    exact main hn rfl rfl rfl rfl fun Q1 Q2 h1 h2 => by constructor <;> omega
end Go.Ev
