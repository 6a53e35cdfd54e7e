/- The reflection as a motion: the program's shift is the reference's. -/
import Derived.Test.YtooikeeckoflpaaDoorNumG
set_option linter.unusedVariables false
set_option linter.unusedSimpArgs false
namespace Go.Ev

section
variable {S : Nat} {x y : N3} {A B C D : Int} {M K : Nat}
theorem VB.hmul (h : VB S x A B M) (hS : S ≤ 1000) (hM : 2 * M < 9223372036854775808) : VB (S + 1) (mulF x hN) (2 * B) A (2 * M) ∧ lowB (mulF x hN) := by
  have vh : Val 1 hN 0 1 := ⟨by decide, by decide, by decide, by decide⟩
  have e1 : A * 0 + 2 * B * 1 = 2 * B := by grind
  have e2 : A * 1 + B * 0 = A := by grind
  have h1 : (2 * B).natAbs ≤ 2 * M := by have := h.b; clear h; omega
  have h2 : A.natAbs ≤ 2 * M := by have := h.a; clear h; omega
  obtain ⟨r, l⟩ := h.v.mul vh (by clear h; omega) (by rw [e1]; exact Nat.lt_of_le_of_lt h1 hM) (by rw [e2]; exact Nat.lt_of_le_of_lt h2 hM)
  rw [e1, e2] at r
  exact ⟨⟨r, h1, h2⟩, l⟩
theorem VB.negX (h : VB S x A B M) : VB S (negX x) (-A) (-B) M := by
  refine ⟨⟨h.v.k0, h.v.kS, ?_, ?_⟩, by rw [Int.natAbs_neg]; exact h.a, by rw [Int.natAbs_neg]; exact h.b⟩
  · show _ = -x.a * 2 ^ (S - x.k.toNat)
    rw [h.v.a, Int.neg_mul]
  · show _ = -x.b * 2 ^ (S - x.k.toNat)
    rw [h.v.b, Int.neg_mul]
theorem VB.negF (h : VB S x A B M) (hM : M < 9223372036854775808) : VB S (negF x) (-A) (-B) M :=
  ⟨h.v.neg (Nat.lt_of_le_of_lt h.a hM) (Nat.lt_of_le_of_lt h.b hM), by rw [Int.natAbs_neg]; exact h.a, by rw [Int.natAbs_neg]; exact h.b⟩
theorem VB.lift1 (h : VB S x A B M) : VB (S + 1) x (2 * A) (2 * B) (2 * M) := by
  have h1 := h.a
  have h2 := h.b
  have hv := h.v.lift 1
  have e : ∀ z : Int, z * 2 ^ 1 = 2 * z := fun z => by omega
  rw [e, e] at hv
  exact ⟨hv, by clear h hv; omega, by clear h hv; omega⟩
theorem VB.more (h : VB S x A B M) (hK : M ≤ K) : VB S x A B K := ⟨h.v, Nat.le_trans h.a hK, Nat.le_trans h.b hK⟩
theorem vb_zero : VB S z3 0 0 M := ⟨⟨by decide, by show (0 : Int) ≤ S; omega, by show (0 : Int) = 0 * _; omega, by show (0 : Int) = 0 * _; omega⟩, Nat.zero_le _, Nat.zero_le _⟩
end

structure V4 where
  a : Int
  b : Int
  c : Int
  d : Int
def tvB (t X1 X2 Y1 Y2 : Int) : V4 := cond (t % 2 == 1) ⟨2 * (X2 - Y2), X1 - Y1, 2 * (X2 + Y2), X1 + Y1⟩ ⟨2 * X1, 2 * X2, 2 * Y1, 2 * Y2⟩
def tvR : Nat → V4 → V4
  | 0, v => v
  | n + 1, v => ⟨-(tvR n v).c, -(tvR n v).d, (tvR n v).a, (tvR n v).b⟩
theorem rotQ_vb {S M : Nat} {p : P2} {v : V4} (hx : VB S p.x v.a v.b M) (hy : VB S p.y v.c v.d M) : ∀ n, VB S (rotQ n p).x (tvR n v).a (tvR n v).b M ∧ VB S (rotQ n p).y (tvR n v).c (tvR n v).d M
  | 0 => ⟨hx, hy⟩
  | n + 1 => by
    obtain ⟨h1, h2⟩ := rotQ_vb hx hy n
    exact ⟨h2.negX, h1⟩
theorem turn_vb {S M : Nat} {x y : N3} {X1 X2 Y1 Y2 : Int} (t : Int) (hx : VB S x X1 X2 M) (hy : VB S y Y1 Y2 M) (hS : S ≤ 1000) (hM : 2 * (M + M) < 9223372036854775808) :
    VB (S + 1) (turnF t ⟨x, y⟩).x (tvR (t.toNat / 2) (tvB t X1 X2 Y1 Y2)).a (tvR (t.toNat / 2) (tvB t X1 X2 Y1 Y2)).b (2 * (M + M)) ∧
    VB (S + 1) (turnF t ⟨x, y⟩).y (tvR (t.toNat / 2) (tvB t X1 X2 Y1 Y2)).c (tvR (t.toNat / 2) (tvB t X1 X2 Y1 Y2)).d (2 * (M + M)) := by
  unfold turnF tvB
  have hMM : M + M < 9223372036854775808 := by clear hx hy; omega
  cases h : (t % 2 == 1) with
  | true =>
    simp only [cond_true]
    refine rotQ_vb (p := rot45 ⟨x, y⟩) ?_ ?_ _
    · exact ((hx.sub hy hS hMM).1.hmul hS hM).1
    · exact ((hx.add hy hS hMM).1.hmul hS hM).1
  | false =>
    simp only [cond_false]
    refine rotQ_vb (p := ⟨x, y⟩) (hx.lift1.more ?_) (hy.lift1.more ?_) _ <;> (clear hx hy; omega)

/-- The point of a line that is next to the origin. -/
def footF (n : P2) (off : N3) : P2 := ⟨mulF (dvF off (dotF n n)) n.x, mulF (dvF off (dotF n n)) n.y⟩
theorem dot_zero {t : Int} (h : inB t 0 7 = true) : dotF (nrm t) zP = z3 := by
  have := in_dirs h
  simp only [dirs, List.mem_cons, List.not_mem_nil, or_false] at this
  rcases this with rfl | rfl | rfl | rfl | rfl | rfl | rfl | rfl <;> (show _ = _; kernel_rfl)
theorem okN_vb {S M : Nat} {x : N3} {A B : Int} (h : VB S x A B M) (hS : S ≤ 20) (hM : M ≤ 67108864) : okN x = true := by
  obtain ⟨b1, b2⟩ := h.v.bd
  have b1 := Nat.le_trans b1 h.a
  have b2 := Nat.le_trans b2 h.b
  have := h.v.k0
  have := h.v.kS
  clear h
  unfold okN
  simp only [Bool.and_eq_true, inB_iff]
  omega

/-- THE REFLECTION AS A MOTION. -/
theorem mirror_same {t : Int} {off : N3} (ht : inB t 0 7 = true) (ho : validB off = true) :
    dvP off (dotF (nrm t) (nrm t)) = true ∧ pkD (nrm t) (nrm t) = true ∧ pkm (dvF off (dotF (nrm t) (nrm t))) (nrm t).x = true ∧ pkm (dvF off (dotF (nrm t) (nrm t))) (nrm t).y = true ∧
    okP (footF (nrm t) off) = true ∧ pkP (footF (nrm t) off) (turnF t (flipP true (footF (nrm t) off))) = true ∧
    rflI (nrm t) off zP = subP (footF (nrm t) off) (turnF t (flipP true (footF (nrm t) off))) := by
  obtain ⟨E, hn⟩ := nrm_all t ht
  obtain ⟨⟨c1, e1, c2, e2, hnn, h1, h2, h3, h4⟩, nk, na, nb, no, nz, ne, nl⟩ := hn
  have kn : pkD (nrm t) (nrm t) = true := by
    obtain ⟨kn, _⟩ := dot_val (p := ⟨⟨c1, e1, 0⟩, ⟨c2, e2, 0⟩⟩) (M := 1) h1 h2 h3 h4 ⟨Val.mk0 c1 e1, h1, h2⟩ ⟨Val.mk0 c2 e2, h3, h4⟩ (by decide) (by decide)
    rw [← hnn] at kn
    exact kn
  obtain ⟨o1, o2, o3, _⟩ := validB_iff.1 ho
  obtain ⟨S, hS⟩ : ∃ S : Nat, off.k = S := ⟨off.k.toNat, by omega⟩
  have hS10 : S ≤ 10 := by omega
  have hSE : S + E ≤ 1000 := by clear na nb h1 h2 h3 h4; omega
  have hSE20 : S + E ≤ 20 := by clear na nb h1 h2 h3 h4; omega
  have vo : VB S off off.a off.b 131072 := by
    refine ⟨⟨by omega, by omega, ?_, ?_⟩, by omega, by omega⟩ <;> (rw [hS, Int.toNat_natCast, Nat.sub_self]; simp)
  have hz : subF off z3 = off := by
    obtain ⟨r, l⟩ := vo.sub (vb_zero (M := 0)) (Nat.le_trans hS10 (by decide)) (by decide)
    rw [Int.sub_zero, Int.sub_zero] at r
    exact r.v.uniq vo.v l (valid_low ho)
  obtain ⟨d1, _, w, _⟩ := vo.div na nb nk no nz ne hSE (by decide) (by decide)
  have hr : rflI (nrm t) off zP = addP zP (timesF (nrm t) (addF (dvF off (dotF (nrm t) (nrm t))) (dvF off (dotF (nrm t) (nrm t))))) := by
    unfold rflI
    rw [dot_zero ht, hz]
  rw [hr]
  unfold footF
  generalize dvOdd (dotF (nrm t) (nrm t)) * (off.a * (dotF (nrm t) (nrm t)).a - 2 * off.b * (dotF (nrm t) (nrm t)).b) = Q1 at w
  generalize dvOdd (dotF (nrm t) (nrm t)) * (off.b * (dotF (nrm t) (nrm t)).a - off.a * (dotF (nrm t) (nrm t)).b) = Q2 at w
  generalize dvF off (dotF (nrm t) (nrm t)) = q at *
  have vx0 : Val 0 (nrm t).x c1 e1 := by rw [hnn]; exact Val.mk0 c1 e1
  have vy0 : Val 0 (nrm t).y c2 e2 := by rw [hnn]; exact Val.mk0 c2 e2
  obtain ⟨t1, _⟩ := w.add w hSE (by decide)
  obtain ⟨u1, _⟩ := VB.vmul vx0 h1 h2 t1 hSE (by decide)
  obtain ⟨u2, _⟩ := VB.vmul vy0 h3 h4 t1 hSE (by decide)
  obtain ⟨r1, r1l⟩ := (vb_zero (M := 0)).add u1 hSE (by decide)
  obtain ⟨r2, r2l⟩ := (vb_zero (M := 0)).add u2 hSE (by decide)
  obtain ⟨f1, _⟩ := w.mulv vx0 h1 h2 hSE (by decide)
  obtain ⟨f2, _⟩ := w.mulv vy0 h3 h4 hSE (by decide)
  have hSE1 : S + E + 1 ≤ 1000 := by clear na nb h1 h2 h3 h4; omega
  obtain ⟨g1, g2⟩ := turn_vb t f1 (f2.negF (by decide)) hSE (by decide)
  have hflip : flipP true ⟨mulF q (nrm t).x, mulF q (nrm t).y⟩ = ⟨mulF q (nrm t).x, negF (mulF q (nrm t).y)⟩ := rfl
  rw [hflip]
  obtain ⟨s1, s1l⟩ := f1.lift1.sub g1 hSE1 (by decide)
  obtain ⟨s2, s2l⟩ := f2.lift1.sub g2 hSE1 (by decide)
  refine ⟨d1, kn, (pk_val w.v vx0 hSE (by decide)).2, (pk_val w.v vy0 hSE (by decide)).2, ?_, ?_, ?_⟩
  · exact okP_iff.2 ⟨okN_vb f1 hSE20 (by decide), okN_vb f2 hSE20 (by decide)⟩
  · unfold pkP
    rw [f1.lift1.pk g1 hSE1, f2.lift1.pk g2 hSE1]
    rfl
  · have v1 := r1.lift1.v
    have v2 := r2.lift1.v
    have v3 := s1.v
    have v4 := s2.v
    have key : 2 * (0 + (c1 * (Q1 + Q1) + 2 * e1 * (Q2 + Q2))) = 2 * (Q1 * c1 + 2 * Q2 * e1) - (tvR (t.toNat / 2) (tvB t (Q1 * c1 + 2 * Q2 * e1) (Q1 * e1 + Q2 * c1) (-(Q1 * c2 + 2 * Q2 * e2)) (-(Q1 * e2 + Q2 * c2)))).a ∧
        2 * (0 + (c1 * (Q2 + Q2) + e1 * (Q1 + Q1))) = 2 * (Q1 * e1 + Q2 * c1) - (tvR (t.toNat / 2) (tvB t (Q1 * c1 + 2 * Q2 * e1) (Q1 * e1 + Q2 * c1) (-(Q1 * c2 + 2 * Q2 * e2)) (-(Q1 * e2 + Q2 * c2)))).b ∧
        2 * (0 + (c2 * (Q1 + Q1) + 2 * e2 * (Q2 + Q2))) = 2 * (Q1 * c2 + 2 * Q2 * e2) - (tvR (t.toNat / 2) (tvB t (Q1 * c1 + 2 * Q2 * e1) (Q1 * e1 + Q2 * c1) (-(Q1 * c2 + 2 * Q2 * e2)) (-(Q1 * e2 + Q2 * c2)))).c ∧
        2 * (0 + (c2 * (Q2 + Q2) + e2 * (Q1 + Q1))) = 2 * (Q1 * e2 + Q2 * c2) - (tvR (t.toNat / 2) (tvB t (Q1 * c1 + 2 * Q2 * e1) (Q1 * e1 + Q2 * c1) (-(Q1 * c2 + 2 * Q2 * e2)) (-(Q1 * e2 + Q2 * c2)))).d := by
      clear v1 v2 v3 v4 s1 s2 g1 g2 f1 f2 r1 r2 u1 u2 t1 w vo vx0 vy0 s1l s2l r1l r2l hflip hr d1 kn na nb no nz ne nk h1 h2 h3 h4 hz
      have hd := in_dirs ht
      simp only [dirs, List.mem_cons, List.not_mem_nil, or_false] at hd
      clear ht
      have hv : ∀ d : Int, ∀ n : P2, nrm d = n → nrm d = ⟨⟨c1, e1, 0⟩, ⟨c2, e2, 0⟩⟩ → n = ⟨⟨c1, e1, 0⟩, ⟨c2, e2, 0⟩⟩ := fun d n h g => h.symm.trans g
      rcases hd with rfl | rfl | rfl | rfl | rfl | rfl | rfl | rfl
      · cases hv 0 ⟨⟨0, 0, 0⟩, ⟨1, 0, 0⟩⟩ (by kernel_rfl) hnn
        simp [tvR, tvB] <;> omega
      · cases hv 1 ⟨⟨1, -1, 0⟩, ⟨1, 0, 0⟩⟩ (by kernel_rfl) hnn
        simp [tvR, tvB] <;> omega
      · cases hv 2 ⟨⟨-1, 0, 0⟩, ⟨1, 0, 0⟩⟩ (by kernel_rfl) hnn
        simp [tvR, tvB] <;> omega
      · cases hv 3 ⟨⟨-1, 0, 0⟩, ⟨-1, 1, 0⟩⟩ (by kernel_rfl) hnn
        simp [tvR, tvB] <;> omega
      · cases hv 4 ⟨⟨-1, 0, 0⟩, ⟨0, 0, 0⟩⟩ (by kernel_rfl) hnn
        simp [tvR, tvB] <;> omega
      · cases hv 5 ⟨⟨-1, 0, 0⟩, ⟨1, -1, 0⟩⟩ (by kernel_rfl) hnn
        simp [tvR, tvB] <;> omega
      · cases hv 6 ⟨⟨-1, 0, 0⟩, ⟨-1, 0, 0⟩⟩ (by kernel_rfl) hnn
        simp [tvR, tvB] <;> omega
      · cases hv 7 ⟨⟨1, -1, 0⟩, ⟨-1, 0, 0⟩⟩ (by kernel_rfl) hnn
        simp [tvR, tvB] <;> omega
    obtain ⟨k1, k2, k3, k4⟩ := key
    rw [k1, k2] at v1
    rw [k3, k4] at v2
    unfold addP subP timesF
    show (⟨addF z3 _, addF z3 _⟩ : P2) = _
    rw [v1.uniq v3 r1l s1l, v2.uniq v4 r2l s2l]
end Go.Ev
