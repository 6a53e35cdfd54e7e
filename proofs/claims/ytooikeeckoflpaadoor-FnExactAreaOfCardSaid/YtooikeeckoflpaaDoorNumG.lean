/- Lines: the common point of two lines. -/
import Derived.Test.YtooikeeckoflpaaDoorNumF
set_option linter.unusedVariables false
set_option linter.unusedSimpArgs false
namespace Go.Ev

def detB (i j : Int) : Bool :=
  pkC (nrm i) (nrm j) && ((crsF (nrm i) (nrm j)).k == 0 && (decide ((crsF (nrm i) (nrm j)).a.natAbs ≤ 4) && (decide ((crsF (nrm i) (nrm j)).b.natAbs ≤ 4) &&
    ((dvOdd (crsF (nrm i) (nrm j)) == 1 || dvOdd (crsF (nrm i) (nrm j)) == -1) && (!(divN (crsF (nrm i) (nrm j)) == 0) && (decide (0 ≤ dvE (crsF (nrm i) (nrm j))) && decide (dvE (crsF (nrm i) (nrm j)) ≤ 3)))))))
def dirs : List Int := [0, 1, 2, 3, 4, 5, 6, 7]
theorem det_dirs : (dirs.all fun i => dirs.all fun j => i == j || detB i j) = true := by kernel_rfl
theorem in_dirs {d : Int} (h : inB d 0 7 = true) : d ∈ dirs := by
  rw [inB_iff] at h
  have : d = 0 ∨ d = 1 ∨ d = 2 ∨ d = 3 ∨ d = 4 ∨ d = 5 ∨ d = 6 ∨ d = 7 := by omega
  unfold dirs
  simp only [List.mem_cons, List.not_mem_nil, or_false]
  exact this
theorem det_all {i j : Int} (hi : inB i 0 7 = true) (hj : inB j 0 7 = true) (hne : (i == j) = false) : detB i j = true := by
  have h1 := List.all_eq_true.1 det_dirs i (in_dirs hi)
  have h2 := List.all_eq_true.1 h1 j (in_dirs hj)
  rw [hne, Bool.false_or] at h2
  exact h2

/-- The common point of the lines with directions i and j. -/
def mtX (i j : Int) (a b : N3) : N3 := subF (mulF a (nrm j).y) (mulF b (nrm i).y)
def mtY (i j : Int) (a b : N3) : N3 := subF (mulF b (nrm i).x) (mulF a (nrm j).x)
def mtP (i j : Int) (a b : N3) : P2 := ⟨dvF (mtX i j a b) (crsF (nrm i) (nrm j)), dvF (mtY i j a b) (crsF (nrm i) (nrm j))⟩

theorem meet_ok {i j : Int} {a b : N3} (hi : inB i 0 7 = true) (hj : inB j 0 7 = true) (hne : (i == j) = false) (ha : validB a = true) (hb : validB b = true) :
    pkC (nrm i) (nrm j) = true ∧ (pkm a (nrm j).y = true ∧ pkm b (nrm i).y = true ∧ pk (mulF a (nrm j).y) (mulF b (nrm i).y) = true ∧ dvP (mtX i j a b) (crsF (nrm i) (nrm j)) = true ∧ dvOk (mtX i j a b) (crsF (nrm i) (nrm j)) = true) ∧
    (pkm b (nrm i).x = true ∧ pkm a (nrm j).x = true ∧ pk (mulF b (nrm i).x) (mulF a (nrm j).x) = true ∧ dvP (mtY i j a b) (crsF (nrm i) (nrm j)) = true ∧ dvOk (mtY i j a b) (crsF (nrm i) (nrm j)) = true) ∧
    kB (mtP i j a b).x.k = true ∧ kB (mtP i j a b).y.k = true := by
  have hd := det_all hi hj hne
  unfold detB at hd
  simp only [Bool.and_eq_true, Bool.or_eq_true, decide_eq_true_eq, beq_iff_eq, Bool.not_eq_true', beq_eq_false_iff_ne] at hd
  obtain ⟨hc, hk, na, nb, no, nz, e0, e3⟩ := hd
  obtain ⟨E, hE⟩ : ∃ E : Nat, dvE (crsF (nrm i) (nrm j)) = E := ⟨(dvE (crsF (nrm i) (nrm j))).toNat, by omega⟩
  have hS : 10 + E ≤ 1000 := by clear na nb; omega
  obtain ⟨Ei, hni⟩ := nrm_all i hi
  obtain ⟨Ej, hnj⟩ := nrm_all j hj
  obtain ⟨⟨c1, e1, c2, e2, hn, h1, h2, h3, h4⟩, _⟩ := hni
  obtain ⟨⟨d1, f1, d2, f2, hm, g1, g2, g3, g4⟩, _⟩ := hnj
  have vix : Val 0 (nrm i).x c1 e1 := by rw [hn]; exact Val.mk0 c1 e1
  have viy : Val 0 (nrm i).y c2 e2 := by rw [hn]; exact Val.mk0 c2 e2
  have vjx : Val 0 (nrm j).x d1 f1 := by rw [hm]; exact Val.mk0 d1 f1
  have vjy : Val 0 (nrm j).y d2 f2 := by rw [hm]; exact Val.mk0 d2 f2
  obtain ⟨A1, A2, va⟩ := valid_vb ha
  obtain ⟨B1, B2, vb⟩ := valid_vb hb
  obtain ⟨p1, _⟩ := va.mulv vjy g3 g4 (by decide) (by decide)
  obtain ⟨p2, _⟩ := vb.mulv viy h3 h4 (by decide) (by decide)
  obtain ⟨p3, _⟩ := vb.mulv vix h1 h2 (by decide) (by decide)
  obtain ⟨p4, _⟩ := va.mulv vjx g1 g2 (by decide) (by decide)
  obtain ⟨q1, _⟩ := p1.sub p2 (by decide) (by decide)
  obtain ⟨q2, _⟩ := p3.sub p4 (by decide) (by decide)
  obtain ⟨r1, r2, r3, _⟩ := q1.div na nb hk no nz hE hS (by decide) (by decide)
  obtain ⟨s1, s2, s3, _⟩ := q2.div na nb hk no nz hE hS (by decide) (by decide)
  exact ⟨hc, ⟨(pk_val va.v vjy (by decide) (by decide)).2, (pk_val vb.v viy (by decide) (by decide)).2, p1.pk p2 (by decide), r1, r2⟩,
    ⟨(pk_val vb.v vix (by decide) (by decide)).2, (pk_val va.v vjx (by decide) (by decide)).2, p3.pk p4 (by decide), s1, s2⟩, r3.kB hS, s3.kB hS⟩
/-- What the reader of a result with a code gets. -/
def mtV (v n : Bool) (p : P2) : AV := .tup [(selP (v && (!n && valP (redP p))) (redP p)).av, iv (cond v (cond n 7 (cond (valP (redP p)) 0 2)) 1)]
/-- A refusal with a code. -/
def mtF (c : Int) (p : P2) : AV := .tup [(selP false (redP p)).av, iv c]
end Go.Ev
