/- Contracts of the program's functions, by the evaluator. -/
import Derived.Test.YtigmgpblnoecpaaDoorC8
import Derived.Test.YtigmgpblnoecpaaDoorMeetC
namespace Go.Proofs.YtigmgpblnoecpaaDoor
open Go.Ev
set_option linter.unusedVariables false
set_option linter.unusedSimpArgs false
set_option maxRecDepth 100000

-- spec.ValidLine
noncomputable def s11 : Ctr := fun
  | [.agg [.val (.int .i64 l_d), .val (.int .i64 l_a), .val (.int .i64 l_b), .val (.int .i64 l_k)]] => some (true, bv (inB l_d 0 7 && validB (⟨l_a, l_b, l_k⟩ : N3)))
  | _ => none

theorem e11 (l_d : Int) (l_a : Int) (l_b : Int) (l_k : Int) : evN Tryd.prog GLv Γ106 (0) []  Tryd.f11 [.agg [.val (.int .i64 l_d), .val (.int .i64 l_a), .val (.int .i64 l_b), .val (.int .i64 l_k)]] = some (bv (inB l_d 0 7 && validB (⟨l_a, l_b, l_k⟩ : N3))) := by
  kernel_rfl
theorem m11 : Meets Tryd.prog GLv 11 s11 := by
  refine meetsN mix0 glv G106 Tryd.func11 (by kernel_rfl) (by kernel_rfl) s11 fun args x h => ?_
  unfold s11 at h
  split at h
  · rename_i l_d l_a l_b l_k
    simp only [Option.some.injEq, Prod.mk.injEq] at h
    obtain ⟨hp, rfl⟩ := h
    exact ⟨_, _, by kernel_rfl, e11 l_d l_a l_b l_k⟩
  · cases h
noncomputable abbrev Γ107 : List (Nat × Ctr) := (11, s11) :: Γ106
theorem G107 : Sound Tryd.prog GLv Γ107 := G106.cons m11

-- laws.FnMeet
noncomputable def s3 : Ctr := fun
  | [.arr b_n [.int .u8] b_c] => some (true, bv true)
  | _ => none

theorem r3_19 (l : Ln) (d : Int) (p : P2) (way : Int) : (fromR Tryd.prog GLv Γ107 0 [] [(4, [false, false, false, true, true, true, true]), (10, [false, false, false, false, false, true, true]), (13, [false, false, false, false, false, true, true, false, false, false, false, true, true]), (19, [false, false, false, false, false, true, false, false, false, false, false, true, true, true])] [] Tryd.f3 19 (stL Tryd.f3.ntmps [.non, .non, .non, .non, .non, .own 28 [iv p.x.a, iv p.x.b, iv p.x.k, iv p.y.a, iv p.y.b, iv p.y.k], .non, .non, .non, .non, .non, .own 26 [iv l.d, iv l.o.a, iv l.o.b, iv l.o.k], iv d, iv way])) = kT19 l d p way := by kernel_rfl
theorem r3_13 (l : Ln) (d : Int) (p q : P2) : (fromR Tryd.prog GLv Γ107 0 [] [(4, [false, false, false, true, true, true, true]), (10, [false, false, false, false, false, true, true]), (13, [false, false, false, false, false, true, true, false, false, false, false, true, true]), (19, [false, false, false, false, false, true, false, false, false, false, false, true, true, true])] [] Tryd.f3 13 (stL Tryd.f3.ntmps [.non, .non, .non, .non, .non, .own 28 [iv p.x.a, iv p.x.b, iv p.x.k, iv p.y.a, iv p.y.b, iv p.y.k], .own 28 [iv q.x.a, iv q.x.b, iv q.x.k, iv q.y.a, iv q.y.b, iv q.y.k], .non, .non, .non, .non, .own 26 [iv l.d, iv l.o.a, iv l.o.b, iv l.o.k], iv d])) = kT13 l d p q := by
  refine (show _ = cond (decide (dofV p q < 0)) (cond (dofV q p == dofV p q) (some (bv (d == 7))) no) (cond (dofV q p != (wr (dofV p q + 8)).tmod 16) no (cond (d == 0) (cond (l.d != (dofV p q).tmod 8) no (fromR Tryd.prog GLv Γ107 0 [] [(4, [false, false, false, true, true, true, true]), (10, [false, false, false, false, false, true, true]), (13, [false, false, false, false, false, true, true, false, false, false, false, true, true]), (19, [false, false, false, false, false, true, false, false, false, false, false, true, true, true])] [] Tryd.f3 19 (stL Tryd.f3.ntmps [.non, .non, .non, .non, .non, .own 28 [iv p.x.a, iv p.x.b, iv p.x.k, iv p.y.a, iv p.y.b, iv p.y.k], .non, .non, .non, .non, .non, .own 26 [iv l.d, iv l.o.a, iv l.o.b, iv l.o.k], iv d, iv (dofV p q)]))) (fromR Tryd.prog GLv Γ107 0 [] [(4, [false, false, false, true, true, true, true]), (10, [false, false, false, false, false, true, true]), (13, [false, false, false, false, false, true, true, false, false, false, false, true, true]), (19, [false, false, false, false, false, true, false, false, false, false, false, true, true, true])] [] Tryd.f3 19 (stL Tryd.f3.ntmps [.non, .non, .non, .non, .non, .own 28 [iv p.x.a, iv p.x.b, iv p.x.k, iv p.y.a, iv p.y.b, iv p.y.k], .non, .non, .non, .non, .non, .own 26 [iv l.d, iv l.o.a, iv l.o.b, iv l.o.k], iv d, iv (dofV p q)])))) from by kernel_rfl).trans ?_
  rw [r3_19]
  rfl
theorem r3_10 (p q : P2) : (fromR Tryd.prog GLv Γ107 0 [] [(4, [false, false, false, true, true, true, true]), (10, [false, false, false, false, false, true, true]), (13, [false, false, false, false, false, true, true, false, false, false, false, true, true]), (19, [false, false, false, false, false, true, false, false, false, false, false, true, true, true])] [] Tryd.f3 10 (stL Tryd.f3.ntmps [.non, .non, .non, .non, .non, .own 28 [iv p.x.a, iv p.x.b, iv p.x.k, iv p.y.a, iv p.y.b, iv p.y.k], .own 28 [iv q.x.a, iv q.x.b, iv q.x.k, iv q.y.a, iv q.y.b, iv q.y.k]])) = kT10 p q := by
  refine (show _ = cond (ltC p q == 0) (cond (soV (ltL p q) p != 0) no (cond (soV (ltL p q) q != 0) no (cond (!(ltL p q).valid) no (fromR Tryd.prog GLv Γ107 0 [] [(4, [false, false, false, true, true, true, true]), (10, [false, false, false, false, false, true, true]), (13, [false, false, false, false, false, true, true, false, false, false, false, true, true]), (19, [false, false, false, false, false, true, false, false, false, false, false, true, true, true])] [] Tryd.f3 13 (stL Tryd.f3.ntmps [.non, .non, .non, .non, .non, .own 28 [iv p.x.a, iv p.x.b, iv p.x.k, iv p.y.a, iv p.y.b, iv p.y.k], .own 28 [iv q.x.a, iv q.x.b, iv q.x.k, iv q.y.a, iv q.y.b, iv q.y.k], .non, .non, .non, .non, .own 26 [iv (ltL p q).d, iv (ltL p q).o.a, iv (ltL p q).o.b, iv (ltL p q).o.k], iv (ltC p q)]))))) (fromR Tryd.prog GLv Γ107 0 [] [(4, [false, false, false, true, true, true, true]), (10, [false, false, false, false, false, true, true]), (13, [false, false, false, false, false, true, true, false, false, false, false, true, true]), (19, [false, false, false, false, false, true, false, false, false, false, false, true, true, true])] [] Tryd.f3 13 (stL Tryd.f3.ntmps [.non, .non, .non, .non, .non, .own 28 [iv p.x.a, iv p.x.b, iv p.x.k, iv p.y.a, iv p.y.b, iv p.y.k], .own 28 [iv q.x.a, iv q.x.b, iv q.x.k, iv q.y.a, iv q.y.b, iv q.y.k], .non, .non, .non, .non, .own 26 [iv (ltL p q).d, iv (ltL p q).o.a, iv (ltL p q).o.b, iv (ltL p q).o.k], iv (ltC p q)])) from by kernel_rfl).trans ?_
  rw [r3_13]
  rfl
theorem r3_4 (a b : Ln) (p q : P2) : (fromR Tryd.prog GLv Γ107 0 [] [(4, [false, false, false, true, true, true, true]), (10, [false, false, false, false, false, true, true]), (13, [false, false, false, false, false, true, true, false, false, false, false, true, true]), (19, [false, false, false, false, false, true, false, false, false, false, false, true, true, true])] [] Tryd.f3 4 (stL Tryd.f3.ntmps [.non, .non, .non, .own 26 [iv a.d, iv a.o.a, iv a.o.b, iv a.o.k], .own 26 [iv b.d, iv b.o.a, iv b.o.b, iv b.o.k], .own 28 [iv p.x.a, iv p.x.b, iv p.x.k, iv p.y.a, iv p.y.b, iv p.y.k], .own 28 [iv q.x.a, iv q.x.b, iv q.x.k, iv q.y.a, iv q.y.b, iv q.y.k]])) = kT4 a b p q := by
  refine (show _ = cond (mtC a b != mtC b a) no (cond (!eqP2 (mtQ a b) (mtQ b a)) no (cond (!((mtC a b == 7) == (a.d == b.d))) no (cond (mtC a b == 0) (cond (soV a (mtQ a b) != 0) no (cond (soV b (mtQ a b) != 0) no (fromR Tryd.prog GLv Γ107 0 [] [(4, [false, false, false, true, true, true, true]), (10, [false, false, false, false, false, true, true]), (13, [false, false, false, false, false, true, true, false, false, false, false, true, true]), (19, [false, false, false, false, false, true, false, false, false, false, false, true, true, true])] [] Tryd.f3 10 (stL Tryd.f3.ntmps [.non, .non, .non, .non, .non, .own 28 [iv p.x.a, iv p.x.b, iv p.x.k, iv p.y.a, iv p.y.b, iv p.y.k], .own 28 [iv q.x.a, iv q.x.b, iv q.x.k, iv q.y.a, iv q.y.b, iv q.y.k]])))) (fromR Tryd.prog GLv Γ107 0 [] [(4, [false, false, false, true, true, true, true]), (10, [false, false, false, false, false, true, true]), (13, [false, false, false, false, false, true, true, false, false, false, false, true, true]), (19, [false, false, false, false, false, true, false, false, false, false, false, true, true, true])] [] Tryd.f3 10 (stL Tryd.f3.ntmps [.non, .non, .non, .non, .non, .own 28 [iv p.x.a, iv p.x.b, iv p.x.k, iv p.y.a, iv p.y.b, iv p.y.k], .own 28 [iv q.x.a, iv q.x.b, iv q.x.k, iv q.y.a, iv q.y.b, iv q.y.k]]))))) from by kernel_rfl).trans ?_
  rw [r3_10]
  rfl

theorem e3 (b_n : Nat) (b_c : Nat → Nat → Int) : evM Tryd.prog GLv Γ107 (0) [] [(4, [false, false, false, true, true, true, true]), (10, [false, false, false, false, false, true, true]), (13, [false, false, false, false, false, true, true, false, false, false, false, true, true]), (19, [false, false, false, false, false, true, false, false, false, false, false, true, true, true])] Tryd.f3 [.arr b_n [.int .u8] b_c] = some (bv true) := by
  obtain ⟨_, h1, h2, h3, h4⟩ := geo_sp (s := (srcOf b_n b_c)) rfl
  refine (show _ = cond (decide ((b_n : Int) > 1048576)) yes (fromR Tryd.prog GLv Γ107 0 [] [(4, [false, false, false, true, true, true, true]), (10, [false, false, false, false, false, true, true]), (13, [false, false, false, false, false, true, true, false, false, false, false, true, true]), (19, [false, false, false, false, false, true, false, false, false, false, false, true, true, true])] [] Tryd.f3 4 (stL Tryd.f3.ntmps [.non, .non, .non, .own 26 [iv (geoV (srcOf b_n b_c)).a.d, iv (geoV (srcOf b_n b_c)).a.o.a, iv (geoV (srcOf b_n b_c)).a.o.b, iv (geoV (srcOf b_n b_c)).a.o.k], .own 26 [iv (geoV (srcOf b_n b_c)).b.d, iv (geoV (srcOf b_n b_c)).b.o.a, iv (geoV (srcOf b_n b_c)).b.o.b, iv (geoV (srcOf b_n b_c)).b.o.k], .own 28 [iv (geoV (srcOf b_n b_c)).p.x.a, iv (geoV (srcOf b_n b_c)).p.x.b, iv (geoV (srcOf b_n b_c)).p.x.k, iv (geoV (srcOf b_n b_c)).p.y.a, iv (geoV (srcOf b_n b_c)).p.y.b, iv (geoV (srcOf b_n b_c)).p.y.k], .own 28 [iv (geoV (srcOf b_n b_c)).q.x.a, iv (geoV (srcOf b_n b_c)).q.x.b, iv (geoV (srcOf b_n b_c)).q.x.k, iv (geoV (srcOf b_n b_c)).q.y.a, iv (geoV (srcOf b_n b_c)).q.y.b, iv (geoV (srcOf b_n b_c)).q.y.k]])) from by kernel_rfl).trans ?_
  rw [r3_4, meet_yes h1 h2 h3 h4]
  cases decide ((b_n : Int) > 1048576) <;> rfl
theorem m3 : Meets Tryd.prog GLv 3 s3 := by
  refine meetsM mix0 glv G107 Tryd.func3 (by kernel_rfl) (by kernel_rfl) s3 fun args x h => ?_
  unfold s3 at h
  split at h
  · rename_i b_n b_c
    simp only [Option.some.injEq, Prod.mk.injEq] at h
    obtain ⟨hp, rfl⟩ := h
    exact ⟨_, _, _, by kernel_rfl, e3 b_n b_c⟩
  · cases h
noncomputable abbrev Γ108 : List (Nat × Ctr) := (3, s3) :: Γ107
theorem G108 : Sound Tryd.prog GLv Γ108 := G107.cons m3

end Go.Proofs.YtigmgpblnoecpaaDoor
