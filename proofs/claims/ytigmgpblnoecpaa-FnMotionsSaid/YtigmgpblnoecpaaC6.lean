/- Contracts of the program's functions, by the evaluator. -/
import Derived.Test.YtigmgpblnoecpaaC5
import Derived.Test.YtigmgpblnoecpaaMotB
namespace Go.Proofs.Ytigmgpblnoecpaa
open Go.Ev
set_option linter.unusedVariables false
set_option linter.unusedSimpArgs false
set_option maxRecDepth 100000

-- laws.b10Long
noncomputable def s17 : Ctr := fun
  | [.arr b_n [.int .u8] b_c] => some (true, bv (decide ((b_n : Int) > 1048576)))
  | _ => none

theorem e17 (b_n : Nat) (b_c : Nat → Nat → Int) : evN Try.prog GL0 Γ76 (0) []  Try.f17 [.arr b_n [.int .u8] b_c] = some (bv (decide ((b_n : Int) > 1048576))) := by
  kernel_rfl
theorem m17 : Meets Try.prog GL0 17 s17 := by
  refine meetsN mix0 gl0 G76 Try.func17 (by kernel_rfl) (by kernel_rfl) s17 fun args x h => ?_
  unfold s17 at h
  split at h
  · rename_i b_n b_c
    simp only [Option.some.injEq, Prod.mk.injEq] at h
    obtain ⟨hp, rfl⟩ := h
    exact ⟨_, _, by kernel_rfl, e17 b_n b_c⟩
  · cases h
noncomputable abbrev Γ77 : List (Nat × Ctr) := (17, s17) :: Γ76
theorem G77 : Sound Try.prog GL0 Γ77 := G76.cons m17

-- spec.ValidMotion
noncomputable def s20 : Ctr := fun
  | [.agg [.val (.int .i64 m_t), .val (.bool m_f), .val (.int .i64 m_xa), .val (.int .i64 m_xb), .val (.int .i64 m_xk), .val (.int .i64 m_ya), .val (.int .i64 m_yb), .val (.int .i64 m_yk)]] => some (true, bv (inB m_t 0 7 && valP (⟨⟨m_xa, m_xb, m_xk⟩, ⟨m_ya, m_yb, m_yk⟩⟩ : P2)))
  | _ => none

theorem e20 (m_t : Int) (m_f : Bool) (m_xa : Int) (m_xb : Int) (m_xk : Int) (m_ya : Int) (m_yb : Int) (m_yk : Int) : evN Try.prog GL0 Γ77 (0) []  Try.f20 [.agg [.val (.int .i64 m_t), .val (.bool m_f), .val (.int .i64 m_xa), .val (.int .i64 m_xb), .val (.int .i64 m_xk), .val (.int .i64 m_ya), .val (.int .i64 m_yb), .val (.int .i64 m_yk)]] = some (bv (inB m_t 0 7 && valP (⟨⟨m_xa, m_xb, m_xk⟩, ⟨m_ya, m_yb, m_yk⟩⟩ : P2))) := by
  kernel_rfl
theorem m20 : Meets Try.prog GL0 20 s20 := by
  refine meetsN mix0 gl0 G77 Try.func20 (by kernel_rfl) (by kernel_rfl) s20 fun args x h => ?_
  unfold s20 at h
  split at h
  · rename_i m_t m_f m_xa m_xb m_xk m_ya m_yb m_yk
    simp only [Option.some.injEq, Prod.mk.injEq] at h
    obtain ⟨hp, rfl⟩ := h
    exact ⟨_, _, by kernel_rfl, e20 m_t m_f m_xa m_xb m_xk m_ya m_yb m_yk⟩
  · cases h
noncomputable abbrev Γ78 : List (Nat × Ctr) := (20, s20) :: Γ77
theorem G78 : Sound Try.prog GL0 Γ78 := G77.cons m20

-- spec.ValidPoint
noncomputable def s21 : Ctr := fun
  | [.agg [.val (.int .i64 p_xa), .val (.int .i64 p_xb), .val (.int .i64 p_xk), .val (.int .i64 p_ya), .val (.int .i64 p_yb), .val (.int .i64 p_yk)]] => some (true, bv (valP (⟨⟨p_xa, p_xb, p_xk⟩, ⟨p_ya, p_yb, p_yk⟩⟩ : P2)))
  | _ => none

theorem e21 (p_xa : Int) (p_xb : Int) (p_xk : Int) (p_ya : Int) (p_yb : Int) (p_yk : Int) : evN Try.prog GL0 Γ78 (0) []  Try.f21 [.agg [.val (.int .i64 p_xa), .val (.int .i64 p_xb), .val (.int .i64 p_xk), .val (.int .i64 p_ya), .val (.int .i64 p_yb), .val (.int .i64 p_yk)]] = some (bv (valP (⟨⟨p_xa, p_xb, p_xk⟩, ⟨p_ya, p_yb, p_yk⟩⟩ : P2))) := by
  kernel_rfl
theorem m21 : Meets Try.prog GL0 21 s21 := by
  refine meetsN mix0 gl0 G78 Try.func21 (by kernel_rfl) (by kernel_rfl) s21 fun args x h => ?_
  unfold s21 at h
  split at h
  · rename_i p_xa p_xb p_xk p_ya p_yb p_yk
    simp only [Option.some.injEq, Prod.mk.injEq] at h
    obtain ⟨hp, rfl⟩ := h
    exact ⟨_, _, by kernel_rfl, e21 p_xa p_xb p_xk p_ya p_yb p_yk⟩
  · cases h
noncomputable abbrev Γ79 : List (Nat × Ctr) := (21, s21) :: Γ78
theorem G79 : Sound Try.prog GL0 Γ79 := G78.cons m21

-- impl.Identity
noncomputable def s26 : Ctr := fun
  | [] => some (true, mav 0 false ⟨z3, z3⟩)
  | _ => none

theorem e26  : evN Try.prog GL0 Γ79 (0) []  Try.f26 [] = some (mav 0 false ⟨z3, z3⟩) := by
  kernel_rfl
theorem m26 : Meets Try.prog GL0 26 s26 := by
  refine meetsN mix0 gl0 G79 Try.func26 (by kernel_rfl) (by kernel_rfl) s26 fun args x h => ?_
  unfold s26 at h
  split at h
  · simp only [Option.some.injEq, Prod.mk.injEq] at h
    obtain ⟨hp, rfl⟩ := h
    exact ⟨_, _, by kernel_rfl, e26 ⟩
  · cases h
noncomputable abbrev Γ80 : List (Nat × Ctr) := (26, s26) :: Γ79
theorem G80 : Sound Try.prog GL0 Γ80 := G79.cons m26

-- laws.FnMotions
noncomputable def s5 : Ctr := fun
  | [.arr b_n [.int .u8] b_c, .arr m_n [.int .u8] m_c] => some (true, bv true)
  | _ => none

theorem r5_20 (a : M8) (p q : P2) (d : M8) : fromR Try.prog GL0 Γ80 0 [] [(5, [false, false, false, false, false, true, true, false, true]), (17, [false, false, false, false, false, true, false, false, true, false, false, true, true]), (20, [false, false, false, false, false, true, false, false, true, false, false, true, false, false, false, false, false, false, false, true])] [] Try.f5 20 (stL Try.f5.ntmps [.non, .non, .non, .non, .non, .own 35 [iv a.t, bv a.f, iv a.s.x.a, iv a.s.x.b, iv a.s.x.k, iv a.s.y.a, iv a.s.y.b, iv a.s.y.k], .non, .non, .own 39 [iv p.x.a, iv p.x.b, iv p.x.k, iv p.y.a, iv p.y.b, iv p.y.k], .non, .non, .own 39 [iv q.x.a, iv q.x.b, iv q.x.k, iv q.y.a, iv q.y.b, iv q.y.k], .non, .non, .non, .non, .non, .non, .non, .own 35 [iv d.t, bv d.f, iv d.s.x.a, iv d.s.x.b, iv d.s.x.k, iv d.s.y.a, iv d.s.y.b, iv d.s.y.k]]) = mT20 a p q d := by kernel_rfl
theorem r5_17 (a : M8) (p q : P2) (two : Bool) : fromR Try.prog GL0 Γ80 0 [] [(5, [false, false, false, false, false, true, true, false, true]), (17, [false, false, false, false, false, true, false, false, true, false, false, true, true]), (20, [false, false, false, false, false, true, false, false, true, false, false, true, false, false, false, false, false, false, false, true])] [] Try.f5 17 (stL Try.f5.ntmps [.non, .non, .non, .non, .non, .own 35 [iv a.t, bv a.f, iv a.s.x.a, iv a.s.x.b, iv a.s.x.k, iv a.s.y.a, iv a.s.y.b, iv a.s.y.k], .non, .non, .own 39 [iv p.x.a, iv p.x.b, iv p.x.k, iv p.y.a, iv p.y.b, iv p.y.k], .non, .non, .own 39 [iv q.x.a, iv q.x.b, iv q.x.k, iv q.y.a, iv q.y.b, iv q.y.k], bv two]) = mT17 a p q two := by
  refine (show _ = cond (!ivO a) (some (bv true)) (cond (!two) (some (bv true)) (fromR Try.prog GL0 Γ80 0 [] [(5, [false, false, false, false, false, true, true, false, true]), (17, [false, false, false, false, false, true, false, false, true, false, false, true, true]), (20, [false, false, false, false, false, true, false, false, true, false, false, true, false, false, false, false, false, false, false, true])] [] Try.f5 20 (stL Try.f5.ntmps [.non, .non, .non, .non, .non, .own 35 [iv a.t, bv a.f, iv a.s.x.a, iv a.s.x.b, iv a.s.x.k, iv a.s.y.a, iv a.s.y.b, iv a.s.y.k], .non, .non, .own 39 [iv p.x.a, iv p.x.b, iv p.x.k, iv p.y.a, iv p.y.b, iv p.y.k], .non, .non, .own 39 [iv q.x.a, iv q.x.b, iv q.x.k, iv q.y.a, iv q.y.b, iv q.y.k], .non, .non, .non, .non, .non, .non, .non, .own 35 [iv (ivM a).t, bv (ivM a).f, iv (ivM a).s.x.a, iv (ivM a).s.x.b, iv (ivM a).s.x.k, iv (ivM a).s.y.a, iv (ivM a).s.y.b, iv (ivM a).s.y.k]]))) from by kernel_rfl).trans ?_
  rw [r5_20]
  rfl
theorem r5_5 (a b : M8) (p : P2) : fromR Try.prog GL0 Γ80 0 [] [(5, [false, false, false, false, false, true, true, false, true]), (17, [false, false, false, false, false, true, false, false, true, false, false, true, true]), (20, [false, false, false, false, false, true, false, false, true, false, false, true, false, false, false, false, false, false, false, true])] [] Try.f5 5 (stL Try.f5.ntmps [.non, .non, .non, .non, .non, .own 35 [iv a.t, bv a.f, iv a.s.x.a, iv a.s.x.b, iv a.s.x.k, iv a.s.y.a, iv a.s.y.b, iv a.s.y.k], .own 35 [iv b.t, bv b.f, iv b.s.x.a, iv b.s.x.b, iv b.s.x.k, iv b.s.y.a, iv b.s.y.b, iv b.s.y.k], .non, .own 39 [iv p.x.a, iv p.x.b, iv p.x.k, iv p.y.a, iv p.y.b, iv p.y.k]]) = mT5 a b p := by
  refine (show _ = cond (!a.valid) (some (bv true)) (cond (!b.valid) (some (bv true)) (cond (!valP p) (some (bv true)) (cond (!(mvO a p == mvO a p)) no (cond (cmO a b) (cond (mvO a p)
    (cond (!(mvO b (mvP a p) == mvO (cmM a b) p)) no (cond (!eqP2 (mvP b (mvP a p)) (mvP (cmM a b) p)) no (fromR Try.prog GL0 Γ80 0 [] [(5, [false, false, false, false, false, true, true, false, true]), (17, [false, false, false, false, false, true, false, false, true, false, false, true, true]), (20, [false, false, false, false, false, true, false, false, true, false, false, true, false, false, false, false, false, false, false, true])] [] Try.f5 17 (stL Try.f5.ntmps [.non, .non, .non, .non, .non, .own 35 [iv a.t, bv a.f, iv a.s.x.a, iv a.s.x.b, iv a.s.x.k, iv a.s.y.a, iv a.s.y.b, iv a.s.y.k], .non, .non, .own 39 [iv p.x.a, iv p.x.b, iv p.x.k, iv p.y.a, iv p.y.b, iv p.y.k], .non, .non, .own 39 [iv (mvP a p).x.a, iv (mvP a p).x.b, iv (mvP a p).x.k, iv (mvP a p).y.a, iv (mvP a p).y.b, iv (mvP a p).y.k], bv (mvO a p)])))) (fromR Try.prog GL0 Γ80 0 [] [(5, [false, false, false, false, false, true, true, false, true]), (17, [false, false, false, false, false, true, false, false, true, false, false, true, true]), (20, [false, false, false, false, false, true, false, false, true, false, false, true, false, false, false, false, false, false, false, true])] [] Try.f5 17 (stL Try.f5.ntmps [.non, .non, .non, .non, .non, .own 35 [iv a.t, bv a.f, iv a.s.x.a, iv a.s.x.b, iv a.s.x.k, iv a.s.y.a, iv a.s.y.b, iv a.s.y.k], .non, .non, .own 39 [iv p.x.a, iv p.x.b, iv p.x.k, iv p.y.a, iv p.y.b, iv p.y.k], .non, .non, .own 39 [iv (mvP a p).x.a, iv (mvP a p).x.b, iv (mvP a p).x.k, iv (mvP a p).y.a, iv (mvP a p).y.b, iv (mvP a p).y.k], bv (mvO a p)]))) (fromR Try.prog GL0 Γ80 0 [] [(5, [false, false, false, false, false, true, true, false, true]), (17, [false, false, false, false, false, true, false, false, true, false, false, true, true]), (20, [false, false, false, false, false, true, false, false, true, false, false, true, false, false, false, false, false, false, false, true])] [] Try.f5 17 (stL Try.f5.ntmps [.non, .non, .non, .non, .non, .own 35 [iv a.t, bv a.f, iv a.s.x.a, iv a.s.x.b, iv a.s.x.k, iv a.s.y.a, iv a.s.y.b, iv a.s.y.k], .non, .non, .own 39 [iv p.x.a, iv p.x.b, iv p.x.k, iv p.y.a, iv p.y.b, iv p.y.k], .non, .non, .own 39 [iv (mvP a p).x.a, iv (mvP a p).x.b, iv (mvP a p).x.k, iv (mvP a p).y.a, iv (mvP a p).y.b, iv (mvP a p).y.k], bv (mvO a p)])))))) from by kernel_rfl).trans ?_
  rw [r5_17]
  rfl

theorem e5 (b_n : Nat) (b_c : Nat → Nat → Int) (m_n : Nat) (m_c : Nat → Nat → Int) : evM Try.prog GL0 Γ80 (0) [] [(5, [false, false, false, false, false, true, true, false, true]), (17, [false, false, false, false, false, true, false, false, true, false, false, true, true]), (20, [false, false, false, false, false, true, false, false, true, false, false, true, false, false, false, false, false, false, false, true])] Try.f5 [.arr b_n [.int .u8] b_c, .arr m_n [.int .u8] m_c] = some (bv true) := by
  refine (show _ = cond (decide ((b_n : Int) > 1048576)) (some (bv true)) (cond (decide ((m_n : Int) > 1048576)) (some (bv true)) (fromR Try.prog GL0 Γ80 0 [] [(5, [false, false, false, false, false, true, true, false, true]), (17, [false, false, false, false, false, true, false, false, true, false, false, true, true]), (20, [false, false, false, false, false, true, false, false, true, false, false, true, false, false, false, false, false, false, false, true])] [] Try.f5 5 (stL Try.f5.ntmps [.non, .non, .non, .non, .non, .own 35 [iv (cpA (srcOf b_n b_c)).t, bv (cpA (srcOf b_n b_c)).f, iv (cpA (srcOf b_n b_c)).s.x.a, iv (cpA (srcOf b_n b_c)).s.x.b, iv (cpA (srcOf b_n b_c)).s.x.k, iv (cpA (srcOf b_n b_c)).s.y.a, iv (cpA (srcOf b_n b_c)).s.y.b, iv (cpA (srcOf b_n b_c)).s.y.k], .own 35 [iv (cpB (srcOf b_n b_c)).t, bv (cpB (srcOf b_n b_c)).f, iv (cpB (srcOf b_n b_c)).s.x.a, iv (cpB (srcOf b_n b_c)).s.x.b, iv (cpB (srcOf b_n b_c)).s.x.k, iv (cpB (srcOf b_n b_c)).s.y.a, iv (cpB (srcOf b_n b_c)).s.y.b, iv (cpB (srcOf b_n b_c)).s.y.k], .non, .own 39 [iv (mpP (srcOf m_n m_c)).x.a, iv (mpP (srcOf m_n m_c)).x.b, iv (mpP (srcOf m_n m_c)).x.k, iv (mpP (srcOf m_n m_c)).y.a, iv (mpP (srcOf m_n m_c)).y.b, iv (mpP (srcOf m_n m_c)).y.k]]))) from by kernel_rfl).trans ?_
  rw [r5_5, motions_ok]
  cases decide ((b_n : Int) > 1048576) <;> cases decide ((m_n : Int) > 1048576) <;> rfl
theorem m5 : Meets Try.prog GL0 5 s5 := by
  refine meetsM mix0 gl0 G80 Try.func5 (by kernel_rfl) (by kernel_rfl) s5 fun args x h => ?_
  unfold s5 at h
  split at h
  · rename_i b_n b_c m_n m_c
    simp only [Option.some.injEq, Prod.mk.injEq] at h
    obtain ⟨hp, rfl⟩ := h
    exact ⟨_, _, _, by kernel_rfl, e5 b_n b_c m_n m_c⟩
  · cases h
noncomputable abbrev Γ81 : List (Nat × Ctr) := (5, s5) :: Γ80
theorem G81 : Sound Try.prog GL0 Γ81 := G80.cons m5

end Go.Proofs.Ytigmgpblnoecpaa
