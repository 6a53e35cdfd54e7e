/- Lines through points; points drawn near others; lines and points drawn together. -/
import Derived.Test.YtooikeeckoflpaaDoorDirB
set_option linter.unusedVariables false
set_option linter.unusedSimpArgs false
namespace Go.Ev

def dofV (p q : P2) : Int := cond (valP p && valP q) (dirV p q) (-1)
def offV (d : Int) (p : P2) : N3 := dotF (nrm d) p
def laO (p : P2) (d : Int) : Bool := (valP p && inB d 0 7) && validB (offV d p)
def laL (p : P2) (d : Int) : Ln := ⟨cond (laO p d) d 0, sel (laO p d) (offV d p)⟩
def ltC (p q : P2) : Int := cond (valP p && valP q) (cond (decide (dirV p q < 0)) 7 (cond (validB (offV ((dirV p q).tmod 8) p)) 0 2)) 1
def ltL (p q : P2) : Ln := ⟨cond (ltC p q == 0) ((dirV p q).tmod 8) 0, sel (ltC p q == 0) (offV ((dirV p q).tmod 8) p)⟩
theorem off_ok {d : Int} {p : P2} (hd : inB d 0 7 = true) (hp : valP p = true) : inB (wr (d + 4)) 0 15 = true ∧ pkD (nrm d) p = true := by
  obtain ⟨k1, k2, _⟩ := side_ok hd (show validB z3 = true by decide) hp
  exact ⟨k1, k2⟩
theorem dir_mod {p q : P2} (h : inB (dirV p q) 0 15 = true) : inB ((dirV p q).tmod 8) 0 7 = true := by
  have h := inB_iff.1 h
  rw [Int.tmod_eq_emod_of_nonneg h.1]
  exact inB_iff.2 (by omega)

/-! ### a point near another one -/
def nearW (p : P2) (s : Src) : P2 := ⟨addF p.x (mulF (drawV (pickV 16 s).2).1 (vecP (pickV 16 s).1).x), addF p.y (mulF (drawV (pickV 16 s).2).1 (vecP (pickV 16 s).1).y)⟩
def nearP (p : P2) (s : Src) : P2 := cond (valP (redP (nearW p s))) (redP (nearW p s)) p
def nearS (s : Src) : Src := (drawV (pickV 16 s).2).2
def WF (p : P2) (s : Src) : Option AV := cond (pB 2 s.p) (cond (pB 18 (pickV 16 s).2.p) (cond (inB (pickV 16 s).1 0 15) (cond (pkm (drawV (pickV 16 s).2).1 (vecP (pickV 16 s).1).x) (cond (pk p.x (mulF (drawV (pickV 16 s).2).1 (vecP (pickV 16 s).1).x))
  (cond (pkm (drawV (pickV 16 s).2).1 (vecP (pickV 16 s).1).y) (cond (pk p.y (mulF (drawV (pickV 16 s).2).1 (vecP (pickV 16 s).1).y)) (cond (kB (nearW p s).x.k && kB (nearW p s).y.k)
    (cond (!valP (redP (nearW p s))) (some (.out p.av [.agg (nearS s).cells, .non])) (some (.out (selP (valP (redP (nearW p s))) (redP (nearW p s))).av [.agg (nearS s).cells, .non]))) none) none) none) none) none) none) none) none
theorem near_on {p : P2} {s : Src} {k : Int} (h : pB k s.p = true) (hk : 20 ≤ k) (hp : valP p = true) :
    WF p s = some (.out (nearP p s).av [.agg (nearS s).cells, .non]) ∧ valP (nearP p s) = true ∧ 0 ≤ (nearS s).p ∧ (nearS s).p ≤ s.p + 20 := by
  have h1 := pick_on 16 h (by omega)
  have p1 := pB_on h h1 (by omega)
  obtain ⟨_, v, h2⟩ := drawV_on p1 (by omega)
  have hd := pick_in (s := s) (m := 16) (by decide)
  have hd' : inB (pickV 16 s).1 0 15 = true := inB_iff.2 (by omega)
  obtain ⟨T1, T2, vt⟩ := valid_vb v
  obtain ⟨w, hw⟩ := valP_pv hp
  obtain ⟨eq, a1, a2, a3, a4, _⟩ := vv_all hd'
  have vx : Val 0 (vecP (pickV 16 s).1).x (vC1 (pickV 16 s).1) (vE1 (pickV 16 s).1) := by rw [eq]; exact Val.mk0 _ _
  have vy : Val 0 (vecP (pickV 16 s).1).y (vC2 (pickV 16 s).1) (vE2 (pickV 16 s).1) := by rw [eq]; exact Val.mk0 _ _
  obtain ⟨m1, _⟩ := vt.mulv vx a1 a2 (by decide) (by decide)
  obtain ⟨m2, _⟩ := vt.mulv vy a3 a4 (by decide) (by decide)
  obtain ⟨s1, _⟩ := hw.x.add m1 (by decide) (by decide)
  obtain ⟨s2, _⟩ := hw.y.add m2 (by decide) (by decide)
  refine ⟨?_, ?_, ?_, ?_⟩
  · unfold WF
    rw [pB_less h (by omega), pB_less p1 (by omega), hd', (pk_val vt.v vx (by decide) (by decide)).2, hw.x.pk m1 (by decide), (pk_val vt.v vy (by decide) (by decide)).2, hw.y.pk m2 (by decide),
      show kB (nearW p s).x.k = true from s1.kB (by decide), show kB (nearW p s).y.k = true from s2.kB (by decide)]
    unfold nearP
    cases valP (redP (nearW p s)) <;> rfl
  · unfold nearP
    cases h : valP (redP (nearW p s)) with
    | false => exact hp
    | true => exact h
  · show 0 ≤ (drawV (pickV 16 s).2).2.p
    omega
  · show (drawV (pickV 16 s).2).2.p ≤ s.p + 20
    omega

/-! ### two lines and two points -/
def gA (s : Src) : Ln := (lineV s).1
def gB (s : Src) : Ln := (lineV (lineV s).2).1
def gP (s : Src) : P2 := (pointV (lineV (lineV s).2).2).1
def gQ (s : Src) : P2 := nearP (gP s) (pointV (lineV (lineV s).2).2).2
theorem geo_ok {s : Src} (h : pB 96 s.p = true) : ((gA s).valid = true ∧ (gB s).valid = true ∧ valP (gP s) = true ∧ valP (gQ s) = true) ∧
    pB 20 s.p = true ∧ pB 20 (lineV s).2.p = true ∧ pB 36 (lineV (lineV s).2).2.p = true ∧ pB 20 (pointV (lineV (lineV s).2).2).2.p = true := by
  obtain ⟨_, v1, h1⟩ := line_on h (by decide)
  have p1 := pB_on h h1 (by decide)
  obtain ⟨_, v2, h2⟩ := line_on p1 (by decide)
  have p2 := pB_on p1 h2 (by decide)
  obtain ⟨_, v3, h3⟩ := point_on p2 (by decide)
  have p3 := pB_on p2 h3 (by decide)
  obtain ⟨_, v4, _⟩ := near_on (p := gP s) p3 (by decide) v3
  exact ⟨⟨v1, v2, v3, v4⟩, pB_less h (by decide), pB_less p1 (by decide), pB_less p2 (by decide), pB_less p3 (by decide)⟩
structure Geo where
  a : Ln
  b : Ln
  p : P2
  q : P2
def GF (s : Src) : Option AV := cond (pB 20 s.p) (cond (pB 20 (lineV s).2.p) (cond (pB 36 (lineV (lineV s).2).2.p) (cond (pB 20 (pointV (lineV (lineV s).2).2).2.p && valP (gP s)) (some (.tup [(gA s).av, (gB s).av, (gP s).av, (gQ s).av])) none) none) none) none
set_option maxRecDepth 20000 in
theorem geo_ex : ∃ f : Src → Geo, ∀ s, pB 96 s.p = true → GF s = some (.tup [(f s).a.av, (f s).b.av, (f s).p.av, (f s).q.av]) ∧ (f s).a.valid = true ∧ (f s).b.valid = true ∧ valP (f s).p = true ∧ valP (f s).q = true :=
  ⟨fun s => ⟨gA s, gB s, gP s, gQ s⟩, fun s h => by
    obtain ⟨⟨v1, v2, v3, v4⟩, h1, h2, h3, h4⟩ := geo_ok h
    have e : GF s = some (.tup [(gA s).av, (gB s).av, (gP s).av, (gQ s).av]) := by
      unfold GF
      rw [h1, h2, h3, h4, v3]
      simp only [Bool.and_self, cond_true]
    exact ⟨e, v1, v2, v3, v4⟩⟩
noncomputable def geoV (s : Src) : Geo := Classical.choose geo_ex s
theorem geo_sp {s : Src} (h : pB 96 s.p = true) : GF s = some (.tup [(geoV s).a.av, (geoV s).b.av, (geoV s).p.av, (geoV s).q.av]) ∧ (geoV s).a.valid = true ∧ (geoV s).b.valid = true ∧ valP (geoV s).p = true ∧ valP (geoV s).q = true :=
  Classical.choose_spec geo_ex s h
end Go.Ev
