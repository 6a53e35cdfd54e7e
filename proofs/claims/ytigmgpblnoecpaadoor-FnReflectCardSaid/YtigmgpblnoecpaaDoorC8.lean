/- Contracts of the program's functions, by the evaluator. -/
import Derived.Test.YtigmgpblnoecpaaDoorC7
import Derived.Test.YtigmgpblnoecpaaDoorDirC
namespace Go.Proofs.YtigmgpblnoecpaaDoor
open Go.Ev
set_option linter.unusedVariables false
set_option linter.unusedSimpArgs false
set_option maxRecDepth 100000

-- spec.l02DrawNear
noncomputable def s37 : Ctr := fun
  | [.own 106 [.arr s_n [.int .u8] s_c, .val (.int .i64 s_p), .val (.int .u64 s_z)], .agg [.val (.int .i64 p_xa), .val (.int .i64 p_xb), .val (.int .i64 p_xk), .val (.int .i64 p_ya), .val (.int .i64 p_yb), .val (.int .i64 p_yk)]] => some (pB 20 s_p && valP (⟨⟨p_xa, p_xb, p_xk⟩, ⟨p_ya, p_yb, p_yk⟩⟩ : P2), .out (nearP (⟨⟨p_xa, p_xb, p_xk⟩, ⟨p_ya, p_yb, p_yk⟩⟩ : P2) (⟨s_n, s_c, s_p, s_z⟩ : Src)).av [.agg (nearS (⟨s_n, s_c, s_p, s_z⟩ : Src)).cells, .non])
  | _ => none

theorem e37 (s_n : Nat) (s_c : Nat → Nat → Int) (s_p : Int) (s_z : Int) (p_xa : Int) (p_xb : Int) (p_xk : Int) (p_ya : Int) (p_yb : Int) (p_yk : Int) (hp : (pB 20 s_p && valP (⟨⟨p_xa, p_xb, p_xk⟩, ⟨p_ya, p_yb, p_yk⟩⟩ : P2)) = true) : evN Tryd.prog GLv Γ104 (0) []  Tryd.f37 [.own 106 [.arr s_n [.int .u8] s_c, .val (.int .i64 s_p), .val (.int .u64 s_z)], .agg [.val (.int .i64 p_xa), .val (.int .i64 p_xb), .val (.int .i64 p_xk), .val (.int .i64 p_ya), .val (.int .i64 p_yb), .val (.int .i64 p_yk)]] = some (.out (nearP (⟨⟨p_xa, p_xb, p_xk⟩, ⟨p_ya, p_yb, p_yk⟩⟩ : P2) (⟨s_n, s_c, s_p, s_z⟩ : Src)).av [.agg (nearS (⟨s_n, s_c, s_p, s_z⟩ : Src)).cells, .non]) := by
  rw [Bool.and_eq_true] at hp
  exact (show _ = WF (⟨⟨p_xa, p_xb, p_xk⟩, ⟨p_ya, p_yb, p_yk⟩⟩ : P2) (⟨s_n, s_c, s_p, s_z⟩ : Src) from by kernel_rfl).trans (near_on (s := (⟨s_n, s_c, s_p, s_z⟩ : Src)) hp.1 (by decide) hp.2).1
theorem m37 : Meets Tryd.prog GLv 37 s37 := by
  refine meetsN mix0 glv G104 Tryd.func37 (by kernel_rfl) (by kernel_rfl) s37 fun args x h => ?_
  unfold s37 at h
  split at h
  · rename_i s_n s_c s_p s_z p_xa p_xb p_xk p_ya p_yb p_yk
    simp only [Option.some.injEq, Prod.mk.injEq] at h
    obtain ⟨hp, rfl⟩ := h
    exact ⟨_, _, by kernel_rfl, e37 s_n s_c s_p s_z p_xa p_xb p_xk p_ya p_yb p_yk hp⟩
  · cases h
noncomputable abbrev Γ105 : List (Nat × Ctr) := (37, s37) :: Γ104
theorem G105 : Sound Tryd.prog GLv Γ105 := G104.cons m37

-- spec.E8Geometry
noncomputable def s7 : Ctr := fun
  | [.arr b_n [.int .u8] b_c] => some (true, .tup [(geoV (srcOf b_n b_c)).a.av, (geoV (srcOf b_n b_c)).b.av, (geoV (srcOf b_n b_c)).p.av, (geoV (srcOf b_n b_c)).q.av])
  | _ => none

theorem e7 (b_n : Nat) (b_c : Nat → Nat → Int) : evN Tryd.prog GLv Γ105 (0) []  Tryd.f7 [.arr b_n [.int .u8] b_c] = some (.tup [(geoV (srcOf b_n b_c)).a.av, (geoV (srcOf b_n b_c)).b.av, (geoV (srcOf b_n b_c)).p.av, (geoV (srcOf b_n b_c)).q.av]) := by
  exact (show _ = GF (srcOf b_n b_c) from by kernel_rfl).trans (geo_sp (s := (srcOf b_n b_c)) rfl).1
theorem m7 : Meets Tryd.prog GLv 7 s7 := by
  refine meetsN mix0 glv G105 Tryd.func7 (by kernel_rfl) (by kernel_rfl) s7 fun args x h => ?_
  unfold s7 at h
  split at h
  · rename_i b_n b_c
    simp only [Option.some.injEq, Prod.mk.injEq] at h
    obtain ⟨hp, rfl⟩ := h
    exact ⟨_, _, by kernel_rfl, e7 b_n b_c⟩
  · cases h
noncomputable abbrev Γ106 : List (Nat × Ctr) := (7, s7) :: Γ105
theorem G106 : Sound Tryd.prog GLv Γ106 := G105.cons m7

end Go.Proofs.YtigmgpblnoecpaaDoor
