/- Motions as maps of whole numbers: a motion behind another one; a motion and its inverse. -/
import Derived.Test.YtooikeeckoflpaaDoorSrcC
set_option linter.unusedVariables false
set_option linter.unusedSimpArgs false
namespace Go.Ev

@[ext] theorem V4.ext' {v w : V4} (h1 : v.a = w.a) (h2 : v.b = w.b) (h3 : v.c = w.c) (h4 : v.d = w.d) : v = w := by
  cases v; cases w; simp_all
/-- Twice the turned point. -/
def tv (t : Int) (v : V4) : V4 := tvR (t.toNat / 2) (tvB t v.a v.b v.c v.d)
def fl (f : Bool) (v : V4) : V4 := cond f ⟨v.a, v.b, -v.c, -v.d⟩ v
def ad (v w : V4) : V4 := ⟨v.a + w.a, v.b + w.b, v.c + w.c, v.d + w.d⟩
def db (v : V4) : V4 := ⟨2 * v.a, 2 * v.b, 2 * v.c, 2 * v.d⟩
def mi (v : V4) : V4 := ⟨-v.a, -v.b, -v.c, -v.d⟩

theorem t8 {t : Int} (h : inB t 0 7 = true) : t = 0 ∨ t = 1 ∨ t = 2 ∨ t = 3 ∨ t = 4 ∨ t = 5 ∨ t = 6 ∨ t = 7 := by
  have := inB_iff.1 h
  omega
theorem tv_all (v : V4) : tv 0 v = db v ∧ tv 1 v = ⟨2 * (v.b - v.d), v.a - v.c, 2 * (v.b + v.d), v.a + v.c⟩ ∧ tv 2 v = ⟨-(2 * v.c), -(2 * v.d), 2 * v.a, 2 * v.b⟩ ∧
    tv 3 v = ⟨-(2 * (v.b + v.d)), -(v.a + v.c), 2 * (v.b - v.d), v.a - v.c⟩ ∧ tv 4 v = ⟨-(2 * v.a), -(2 * v.b), -(2 * v.c), -(2 * v.d)⟩ ∧
    tv 5 v = ⟨-(2 * (v.b - v.d)), -(v.a - v.c), -(2 * (v.b + v.d)), -(v.a + v.c)⟩ ∧ tv 6 v = ⟨- -(2 * v.c), - -(2 * v.d), -(2 * v.a), -(2 * v.b)⟩ ∧
    tv 7 v = ⟨- -(2 * (v.b + v.d)), - -(v.a + v.c), -(2 * (v.b - v.d)), -(v.a - v.c)⟩ := ⟨rfl, rfl, rfl, rfl, rfl, rfl, rfl, rfl⟩
theorem tv_lin {t : Int} (h : inB t 0 7 = true) (v w : V4) : tv t (ad v w) = ad (tv t v) (tv t w) ∧ tv t (db v) = db (tv t v) ∧ tv t (mi v) = mi (tv t v) := by
  obtain ⟨a0, a1, a2, a3, a4, a5, a6, a7⟩ := tv_all v
  obtain ⟨b0, b1, b2, b3, b4, b5, b6, b7⟩ := tv_all w
  obtain ⟨c0, c1, c2, c3, c4, c5, c6, c7⟩ := tv_all (ad v w)
  obtain ⟨d0, d1, d2, d3, d4, d5, d6, d7⟩ := tv_all (db v)
  obtain ⟨e0, e1, e2, e3, e4, e5, e6, e7⟩ := tv_all (mi v)
  rcases t8 h with rfl | rfl | rfl | rfl | rfl | rfl | rfl | rfl
  · rw [a0, b0, c0, d0, e0]; refine ⟨?_, ?_, ?_⟩ <;> apply V4.ext' <;> simp only [ad, db, mi] <;> omega
  · rw [a1, b1, c1, d1, e1]; refine ⟨?_, ?_, ?_⟩ <;> apply V4.ext' <;> simp only [ad, db, mi] <;> omega
  · rw [a2, b2, c2, d2, e2]; refine ⟨?_, ?_, ?_⟩ <;> apply V4.ext' <;> simp only [ad, db, mi] <;> omega
  · rw [a3, b3, c3, d3, e3]; refine ⟨?_, ?_, ?_⟩ <;> apply V4.ext' <;> simp only [ad, db, mi] <;> omega
  · rw [a4, b4, c4, d4, e4]; refine ⟨?_, ?_, ?_⟩ <;> apply V4.ext' <;> simp only [ad, db, mi] <;> omega
  · rw [a5, b5, c5, d5, e5]; refine ⟨?_, ?_, ?_⟩ <;> apply V4.ext' <;> simp only [ad, db, mi] <;> omega
  · rw [a6, b6, c6, d6, e6]; refine ⟨?_, ?_, ?_⟩ <;> apply V4.ext' <;> simp only [ad, db, mi] <;> omega
  · rw [a7, b7, c7, d7, e7]; refine ⟨?_, ?_, ?_⟩ <;> apply V4.ext' <;> simp only [ad, db, mi] <;> omega
/-- One turn by 45 degrees behind a turn. -/
theorem tv_one {t : Int} (h : inB t 0 7 = true) (v : V4) : tv 1 (tv t v) = db (tv ((t + 1) % 8) v) := by
  obtain ⟨a0, a1, a2, a3, a4, a5, a6, a7⟩ := tv_all v
  rcases t8 h with rfl | rfl | rfl | rfl | rfl | rfl | rfl | rfl
  · rw [a0, show ((0 : Int) + 1) % 8 = 1 from rfl, a1, (tv_all _).2.1]; apply V4.ext' <;> simp only [db] <;> omega
  · rw [a1, show ((1 : Int) + 1) % 8 = 2 from rfl, a2, (tv_all _).2.1]; apply V4.ext' <;> simp only [db] <;> omega
  · rw [a2, show ((2 : Int) + 1) % 8 = 3 from rfl, a3, (tv_all _).2.1]; apply V4.ext' <;> simp only [db] <;> omega
  · rw [a3, show ((3 : Int) + 1) % 8 = 4 from rfl, a4, (tv_all _).2.1]; apply V4.ext' <;> simp only [db] <;> omega
  · rw [a4, show ((4 : Int) + 1) % 8 = 5 from rfl, a5, (tv_all _).2.1]; apply V4.ext' <;> simp only [db] <;> omega
  · rw [a5, show ((5 : Int) + 1) % 8 = 6 from rfl, a6, (tv_all _).2.1]; apply V4.ext' <;> simp only [db] <;> omega
  · rw [a6, show ((6 : Int) + 1) % 8 = 7 from rfl, a7, (tv_all _).2.1]; apply V4.ext' <;> simp only [db] <;> omega
  · rw [a7, show ((7 : Int) + 1) % 8 = 0 from rfl, a0, (tv_all _).2.1]; apply V4.ext' <;> simp only [db] <;> omega
theorem db_inj {v w : V4} (h : db v = db w) : v = w := by
  simp only [db, V4.mk.injEq] at h
  apply V4.ext' <;> omega
theorem tv_tv {t : Int} (h : inB t 0 7 = true) (v : V4) : ∀ (n : Nat), n < 8 → tv n (tv t v) = db (tv ((t + n) % 8) v)
  | 0, _ => by
    have := inB_iff.1 h
    rw [show ((0 : Nat) : Int) = 0 from rfl, (tv_all _).1, Int.add_zero, Int.emod_eq_of_lt (by omega) (by omega)]
  | n + 1, hn => by
    have ih := tv_tv h v n (by omega)
    have hn' : inB (n : Int) 0 7 = true := inB_iff.2 (by omega)
    have hm : inB ((t + n) % 8) 0 7 = true := inB_iff.2 (by omega)
    apply db_inj
    have e1 := tv_one hn' (tv t v)
    rw [show ((n : Int) + 1) % 8 = ((n + 1 : Nat) : Int) by omega] at e1
    rw [← e1, ih, (tv_lin (t := 1) rfl _ (tv t v)).2.1, tv_one hm, show ((t + n) % 8 + 1) % 8 = (t + ((n + 1 : Nat) : Int)) % 8 by omega]
theorem tv_add {t u : Int} (h : inB t 0 7 = true) (g : inB u 0 7 = true) (v : V4) : tv u (tv t v) = db (tv ((u + t) % 8) v) := by
  have g' := inB_iff.1 g
  have := tv_tv h v u.toNat (by omega)
  rw [show ((u.toNat : Nat) : Int) = u by omega] at this
  rw [this, Int.add_comm]
theorem fl_tv {t : Int} (h : inB t 0 7 = true) (v : V4) : fl true (tv t v) = tv ((8 - t) % 8) (fl true v) := by
  obtain ⟨a0, a1, a2, a3, a4, a5, a6, a7⟩ := tv_all v
  obtain ⟨b0, b1, b2, b3, b4, b5, b6, b7⟩ := tv_all (fl true v)
  rcases t8 h with rfl | rfl | rfl | rfl | rfl | rfl | rfl | rfl
  · rw [a0, show ((8 : Int) - 0) % 8 = 0 from rfl, b0]; apply V4.ext' <;> simp only [fl, db, cond_true] <;> omega
  · rw [a1, show ((8 : Int) - 1) % 8 = 7 from rfl, b7]; apply V4.ext' <;> simp only [fl, db, cond_true] <;> omega
  · rw [a2, show ((8 : Int) - 2) % 8 = 6 from rfl, b6]; apply V4.ext' <;> simp only [fl, db, cond_true] <;> omega
  · rw [a3, show ((8 : Int) - 3) % 8 = 5 from rfl, b5]; apply V4.ext' <;> simp only [fl, db, cond_true] <;> omega
  · rw [a4, show ((8 : Int) - 4) % 8 = 4 from rfl, b4]; apply V4.ext' <;> simp only [fl, db, cond_true] <;> omega
  · rw [a5, show ((8 : Int) - 5) % 8 = 3 from rfl, b3]; apply V4.ext' <;> simp only [fl, db, cond_true] <;> omega
  · rw [a6, show ((8 : Int) - 6) % 8 = 2 from rfl, b2]; apply V4.ext' <;> simp only [fl, db, cond_true] <;> omega
  · rw [a7, show ((8 : Int) - 7) % 8 = 1 from rfl, b1]; apply V4.ext' <;> simp only [fl, db, cond_true] <;> omega
theorem fl_fl (f g : Bool) (v : V4) : fl g (fl f v) = fl (f != g) v := by
  cases f <;> cases g <;> simp [fl]
theorem fl_lin (f : Bool) (v w : V4) : fl f (ad v w) = ad (fl f v) (fl f w) ∧ fl f (db v) = db (fl f v) := by
  cases f
  · exact ⟨rfl, rfl⟩
  · constructor <;> apply V4.ext' <;> simp only [fl, ad, db, cond_true] <;> omega
/-- Turned and flipped twice. -/
theorem tv_cmp {t u : Int} (h : inB t 0 7 = true) (g : inB u 0 7 = true) (f k : Bool) (v : V4) : tv u (fl k (tv t (fl f v))) = db (tv (cmpT t u k) (fl (f != k) v)) := by
  cases k with
  | false =>
    show tv u (tv t (fl f v)) = _
    rw [tv_add h g]
    cases f <;> rfl
  | true =>
    have h8 : inB ((8 - t) % 8) 0 7 = true := inB_iff.2 (by have := inB_iff.1 h; omega)
    rw [fl_tv h, tv_add h8 g, fl_fl, show (u + (8 - t) % 8) % 8 = cmpT t u true by unfold cmpT; simp only [cond_true]; omega]

/-! ### points and motions -/
structure PV (S : Nat) (p : P2) (v : V4) (M : Nat) : Prop where
  x : VB S p.x v.a v.b M
  y : VB S p.y v.c v.d M
theorem valP_pv {p : P2} (h : valP p = true) : ∃ v, PV 10 p v 134217728 := by
  unfold valP at h
  rw [Bool.and_eq_true] at h
  obtain ⟨A, B, h1⟩ := valid_vb h.1
  obtain ⟨C, D, h2⟩ := valid_vb h.2
  exact ⟨⟨A, B, C, D⟩, h1, h2⟩
theorem pv_flip {S M : Nat} {p : P2} {v : V4} (h : PV S p v M) (hM : M < 9223372036854775808) (f : Bool) : PV S (flipP f p) (fl f v) M := by
  cases f with
  | false => exact h
  | true => exact ⟨h.x, h.y.negF hM⟩
theorem pv_db {S M : Nat} {p : P2} {v : V4} (h : PV S p v M) : PV (S + 1) p (db v) (2 * M) := ⟨h.x.lift1, h.y.lift1⟩
/-- What a moved point is worth; both coordinates are in lowest form. -/
theorem pv_move {S M K : Nat} {p s : P2} {v w : V4} (t : Int) (f : Bool) (h : PV S p v M) (g : PV S s w K) (hS : S ≤ 999) (hM : 4 * M + 2 * K < 9223372036854775808) :
    PV (S + 1) (moveF t f s p) (ad (tv t (fl f v)) (db w)) (4 * M + 2 * K) ∧ lowB (moveF t f s p).x ∧ lowB (moveF t f s p).y := by
  have hf := pv_flip h (by omega) f
  obtain ⟨a, b⟩ := turn_vb t hf.x hf.y (by omega) (by omega)
  have c := pv_db g
  obtain ⟨k1, k2⟩ := (a.more (K := 4 * M) (by omega)).add c.x (by omega) hM
  obtain ⟨k3, k4⟩ := (b.more (K := 4 * M) (by omega)).add c.y (by omega) hM
  exact ⟨⟨k1, k3⟩, k2, k4⟩
theorem pv_uniq {S M K : Nat} {p q : P2} {v : V4} (h : PV S p v M) (g : PV S q v K) (hx : lowB p.x) (hy : lowB p.y) (gx : lowB q.x) (gy : lowB q.y) : p = q := by
  have e1 := h.x.v.uniq g.x.v hx gx
  have e2 := h.y.v.uniq g.y.v hy gy
  cases p; cases q
  simp only at e1 e2
  rw [e1, e2]
theorem redP_low {p : P2} (hx : lowB p.x) (hy : lowB p.y) : redP p = p := by
  unfold redP
  rw [red_fix hx, red_fix hy]
theorem valP_low {p : P2} (h : valP p = true) : lowB p.x ∧ lowB p.y := by
  unfold valP at h
  rw [Bool.and_eq_true] at h
  exact ⟨valid_low h.1, valid_low h.2⟩
theorem pv_same {S M K : Nat} {p : P2} {v w : V4} (h : PV S p v M) (g : PV S p w K) : v = w := by
  apply V4.ext'
  · rw [h.x.v.a, g.x.v.a]
  · rw [h.x.v.b, g.x.v.b]
  · rw [h.y.v.a, g.y.v.a]
  · rw [h.y.v.b, g.y.v.b]
end Go.Ev
