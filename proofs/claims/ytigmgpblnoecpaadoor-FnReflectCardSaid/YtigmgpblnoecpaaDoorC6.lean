/- Contracts of the program's functions, by the evaluator. -/
import Derived.Test.YtigmgpblnoecpaaDoorC5
import Derived.Test.YtigmgpblnoecpaaDoorSrcD
namespace Go.Proofs.YtigmgpblnoecpaaDoor
open Go.Ev
set_option linter.unusedVariables false
set_option linter.unusedSimpArgs false
set_option maxRecDepth 100000

-- laws.b10Long
noncomputable def s18 : Ctr := fun
  | [.arr b_n [.int .u8] b_c] => some (true, bv (decide ((b_n : Int) > 1048576)))
  | _ => none

theorem e18 (b_n : Nat) (b_c : Nat → Nat → Int) : evN Tryd.prog GLv Γ87 (0) []  Tryd.f18 [.arr b_n [.int .u8] b_c] = some (bv (decide ((b_n : Int) > 1048576))) := by
  kernel_rfl
theorem m18 : Meets Tryd.prog GLv 18 s18 := by
  refine meetsN mix0 glv G87 Tryd.func18 (by kernel_rfl) (by kernel_rfl) s18 fun args x h => ?_
  unfold s18 at h
  split at h
  · rename_i b_n b_c
    simp only [Option.some.injEq, Prod.mk.injEq] at h
    obtain ⟨hp, rfl⟩ := h
    exact ⟨_, _, by kernel_rfl, e18 b_n b_c⟩
  · cases h
noncomputable abbrev Γ88 : List (Nat × Ctr) := (18, s18) :: Γ87
theorem G88 : Sound Tryd.prog GLv Γ88 := G87.cons m18

-- spec.ValidMotion
noncomputable def s29 : Ctr := fun
  | [.agg [.val (.int .i64 m_t), .val (.bool m_f), .val (.int .i64 m_xa), .val (.int .i64 m_xb), .val (.int .i64 m_xk), .val (.int .i64 m_ya), .val (.int .i64 m_yb), .val (.int .i64 m_yk)]] => some (true, bv (inB m_t 0 7 && valP (⟨⟨m_xa, m_xb, m_xk⟩, ⟨m_ya, m_yb, m_yk⟩⟩ : P2)))
  | _ => none

theorem e29 (m_t : Int) (m_f : Bool) (m_xa : Int) (m_xb : Int) (m_xk : Int) (m_ya : Int) (m_yb : Int) (m_yk : Int) : evN Tryd.prog GLv Γ88 (0) []  Tryd.f29 [.agg [.val (.int .i64 m_t), .val (.bool m_f), .val (.int .i64 m_xa), .val (.int .i64 m_xb), .val (.int .i64 m_xk), .val (.int .i64 m_ya), .val (.int .i64 m_yb), .val (.int .i64 m_yk)]] = some (bv (inB m_t 0 7 && valP (⟨⟨m_xa, m_xb, m_xk⟩, ⟨m_ya, m_yb, m_yk⟩⟩ : P2))) := by
  kernel_rfl
theorem m29 : Meets Tryd.prog GLv 29 s29 := by
  refine meetsN mix0 glv G88 Tryd.func29 (by kernel_rfl) (by kernel_rfl) s29 fun args x h => ?_
  unfold s29 at h
  split at h
  · rename_i m_t m_f m_xa m_xb m_xk m_ya m_yb m_yk
    simp only [Option.some.injEq, Prod.mk.injEq] at h
    obtain ⟨hp, rfl⟩ := h
    exact ⟨_, _, by kernel_rfl, e29 m_t m_f m_xa m_xb m_xk m_ya m_yb m_yk⟩
  · cases h
noncomputable abbrev Γ89 : List (Nat × Ctr) := (29, s29) :: Γ88
theorem G89 : Sound Tryd.prog GLv Γ89 := G88.cons m29

-- spec.ValidPoint
noncomputable def s23 : Ctr := fun
  | [.agg [.val (.int .i64 p_xa), .val (.int .i64 p_xb), .val (.int .i64 p_xk), .val (.int .i64 p_ya), .val (.int .i64 p_yb), .val (.int .i64 p_yk)]] => some (true, bv (valP (⟨⟨p_xa, p_xb, p_xk⟩, ⟨p_ya, p_yb, p_yk⟩⟩ : P2)))
  | _ => none

theorem e23 (p_xa : Int) (p_xb : Int) (p_xk : Int) (p_ya : Int) (p_yb : Int) (p_yk : Int) : evN Tryd.prog GLv Γ89 (0) []  Tryd.f23 [.agg [.val (.int .i64 p_xa), .val (.int .i64 p_xb), .val (.int .i64 p_xk), .val (.int .i64 p_ya), .val (.int .i64 p_yb), .val (.int .i64 p_yk)]] = some (bv (valP (⟨⟨p_xa, p_xb, p_xk⟩, ⟨p_ya, p_yb, p_yk⟩⟩ : P2))) := by
  kernel_rfl
theorem m23 : Meets Tryd.prog GLv 23 s23 := by
  refine meetsN mix0 glv G89 Tryd.func23 (by kernel_rfl) (by kernel_rfl) s23 fun args x h => ?_
  unfold s23 at h
  split at h
  · rename_i p_xa p_xb p_xk p_ya p_yb p_yk
    simp only [Option.some.injEq, Prod.mk.injEq] at h
    obtain ⟨hp, rfl⟩ := h
    exact ⟨_, _, by kernel_rfl, e23 p_xa p_xb p_xk p_ya p_yb p_yk⟩
  · cases h
noncomputable abbrev Γ90 : List (Nat × Ctr) := (23, s23) :: Γ89
theorem G90 : Sound Tryd.prog GLv Γ90 := G89.cons m23

-- impl.Identity
noncomputable def s26 : Ctr := fun
  | [] => some (true, mav 0 false ⟨z3, z3⟩)
  | _ => none

theorem e26  : evN Tryd.prog GLv Γ90 (0) []  Tryd.f26 [] = some (mav 0 false ⟨z3, z3⟩) := by
  kernel_rfl
theorem m26 : Meets Tryd.prog GLv 26 s26 := by
  refine meetsN mix0 glv G90 Tryd.func26 (by kernel_rfl) (by kernel_rfl) s26 fun args x h => ?_
  unfold s26 at h
  split at h
  · simp only [Option.some.injEq, Prod.mk.injEq] at h
    obtain ⟨hp, rfl⟩ := h
    exact ⟨_, _, by kernel_rfl, e26 ⟩
  · cases h
noncomputable abbrev Γ91 : List (Nat × Ctr) := (26, s26) :: Γ90
theorem G91 : Sound Tryd.prog GLv Γ91 := G90.cons m26

-- laws.FnReflections
noncomputable def s5 : Ctr := fun
  | [.arr b_n [.int .u8] b_c, .arr m_n [.int .u8] m_c] => some (true, bv true)
  | _ => none

theorem r5_7 (l : Ln) (m : M8) (ok known : Bool) (p : P2) : fromR Tryd.prog GLv Γ91 0 [] [(4, [false, true, false, false, false, true]), (7, [false, false, false, false, false, true, true, true, false, true, false, true])] [] Tryd.f5 7 (stL Tryd.f5.ntmps [.non, .non, .non, .non, .non, .own 26 [iv l.d, iv l.o.a, iv l.o.b, iv l.o.k], .own 47 [iv m.t, bv m.f, iv m.s.x.a, iv m.s.x.b, iv m.s.x.k, iv m.s.y.a, iv m.s.y.b, iv m.s.y.k], bv ok, .non, bv known, .non, .own 28 [iv p.x.a, iv p.x.b, iv p.x.k, iv p.y.a, iv p.y.b, iv p.y.k]]) = fT7 l m ok known p := by kernel_rfl
theorem r5_4 (l : Ln) (m_n : Nat) (m_c : Nat → Nat → Int) : fromR Tryd.prog GLv Γ91 0 [] [(4, [false, true, false, false, false, true]), (7, [false, false, false, false, false, true, true, true, false, true, false, true])] [] Tryd.f5 4 (stL Tryd.f5.ntmps [.non, .arr m_n [.int .u8] m_c, .non, .non, .non, .own 26 [iv l.d, iv l.o.a, iv l.o.b, iv l.o.k]]) = yes := by
  refine (show _ = fromR Tryd.prog GLv Γ91 0 [] [(4, [false, true, false, false, false, true]), (7, [false, false, false, false, false, true, true, true, false, true, false, true])] [] Tryd.f5 7 (stL Tryd.f5.ntmps [.non, .non, .non, .non, .non, .own 26 [iv l.d, iv l.o.a, iv l.o.b, iv l.o.k], .own 47 [iv (rfM l).t, bv (rfM l).f, iv (rfM l).s.x.a, iv (rfM l).s.x.b, iv (rfM l).s.x.k, iv (rfM l).s.y.a, iv (rfM l).s.y.b, iv (rfM l).s.y.k], bv (rfO l), .non, bv (rfO l), .non, .own 28 [iv (mpP (srcOf m_n m_c)).x.a, iv (mpP (srcOf m_n m_c)).x.b, iv (mpP (srcOf m_n m_c)).x.k, iv (mpP (srcOf m_n m_c)).y.a, iv (mpP (srcOf m_n m_c)).y.b, iv (mpP (srcOf m_n m_c)).y.k]]) from by kernel_rfl).trans ?_
  rw [r5_7]
  exact refls_ok l (mpP (srcOf m_n m_c))

theorem e5 (b_n : Nat) (b_c : Nat → Nat → Int) (m_n : Nat) (m_c : Nat → Nat → Int) : evM Tryd.prog GLv Γ91 (0) [] [(4, [false, true, false, false, false, true]), (7, [false, false, false, false, false, true, true, true, false, true, false, true])] Tryd.f5 [.arr b_n [.int .u8] b_c, .arr m_n [.int .u8] m_c] = some (bv true) := by
  refine (show _ = cond (decide ((b_n : Int) > 1048576)) yes (cond (decide ((m_n : Int) > 1048576)) yes (fromR Tryd.prog GLv Γ91 0 [] [(4, [false, true, false, false, false, true]), (7, [false, false, false, false, false, true, true, true, false, true, false, true])] [] Tryd.f5 4 (stL Tryd.f5.ntmps [.non, .arr m_n [.int .u8] m_c, .non, .non, .non, .own 26 [iv (drL (srcOf b_n b_c)).d, iv (drL (srcOf b_n b_c)).o.a, iv (drL (srcOf b_n b_c)).o.b, iv (drL (srcOf b_n b_c)).o.k]]))) from by kernel_rfl).trans ?_
  rw [r5_4]
  cases decide ((b_n : Int) > 1048576) <;> cases decide ((m_n : Int) > 1048576) <;> rfl
theorem m5 : Meets Tryd.prog GLv 5 s5 := by
  refine meetsM mix0 glv G91 Tryd.func5 (by kernel_rfl) (by kernel_rfl) s5 fun args x h => ?_
  unfold s5 at h
  split at h
  · rename_i b_n b_c m_n m_c
    simp only [Option.some.injEq, Prod.mk.injEq] at h
    obtain ⟨hp, rfl⟩ := h
    exact ⟨_, _, _, by kernel_rfl, e5 b_n b_c m_n m_c⟩
  · cases h
noncomputable abbrev Γ92 : List (Nat × Ctr) := (5, s5) :: Γ91
theorem G92 : Sound Tryd.prog GLv Γ92 := G91.cons m5

end Go.Proofs.YtigmgpblnoecpaaDoor
