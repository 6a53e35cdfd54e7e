/- Contracts of the program's functions, by the evaluator. -/
import Derived.Test.YtdildcdilhgdkaaGreatDoorS2
import Derived.Test.YtdildcdilhgdkaaGreatDoorPlC
namespace Go.Proofs.YtdildcdilhgdkaaGreatDoor
open Go.Ev
set_option linter.unusedVariables false
set_option linter.unusedSimpArgs false
set_option maxRecDepth 100000
def nearWb (p : P2) (s : Src) : P2 := ⟨addF p.x (mulF (drawV (pickV 16 s).2).1 (vecP ((pickV 16 s).1 % 16)).x), addF p.y (mulF (drawV (pickV 16 s).2).1 (vecP ((pickV 16 s).1 % 16)).y)⟩
def WFb (p : P2) (s : Src) : Option AV := cond (pB 2 s.p) (cond (pB 18 (pickV 16 s).2.p) (cond (inB (pickV 16 s).1 0 19) (cond (pkm (drawV (pickV 16 s).2).1 (vecP ((pickV 16 s).1 % 16)).x) (cond (pk p.x (mulF (drawV (pickV 16 s).2).1 (vecP ((pickV 16 s).1 % 16)).x))
  (cond (pkm (drawV (pickV 16 s).2).1 (vecP ((pickV 16 s).1 % 16)).y) (cond (pk p.y (mulF (drawV (pickV 16 s).2).1 (vecP ((pickV 16 s).1 % 16)).y)) (cond (kB (nearWb p s).x.k && kB (nearWb p s).y.k)
    (cond (!valP (redP (nearWb p s))) (some (.out p.av [.agg (nearS s).cells, .non])) (some (.out (selP (valP (redP (nearWb p s))) (redP (nearWb p s))).av [.agg (nearS s).cells, .non]))) none) none) none) none) none) none) none) none
theorem WFb_eq (p : P2) (s : Src) : WFb p s = WF p s := by
  have h := pick_in (s := s) (m := 16) (by decide)
  have e : (pickV 16 s).1 % 16 = (pickV 16 s).1 := by omega
  unfold WFb WF nearWb nearW
  rw [e, show inB (pickV 16 s).1 0 19 = true from inB_iff.2 (by omega), show inB (pickV 16 s).1 0 15 = true from inB_iff.2 (by omega)]
-- spec.l02DrawNear
noncomputable def s32 : Ctr := fun
  | [.own 66 [.arr s_n [.int .u8] s_c, .val (.int .i64 s_p), .val (.int .u64 s_z)], .agg [.val (.int .i64 p_xa), .val (.int .i64 p_xb), .val (.int .i64 p_xk), .val (.int .i64 p_ya), .val (.int .i64 p_yb), .val (.int .i64 p_yk)]] => some (pB 20 s_p && valP (⟨⟨p_xa, p_xb, p_xk⟩, ⟨p_ya, p_yb, p_yk⟩⟩ : P2), .out (nearP (⟨⟨p_xa, p_xb, p_xk⟩, ⟨p_ya, p_yb, p_yk⟩⟩ : P2) (⟨s_n, s_c, s_p, s_z⟩ : Src)).av [.agg (nearS (⟨s_n, s_c, s_p, s_z⟩ : Src)).cells, .non])
  | _ => none
theorem e32 (s_n : Nat) (s_c : NNI) (s_p : Int) (s_z : Int) (p_xa : Int) (p_xb : Int) (p_xk : Int) (p_ya : Int) (p_yb : Int) (p_yk : Int) (hp : (pB 20 s_p && valP (⟨⟨p_xa, p_xb, p_xk⟩, ⟨p_ya, p_yb, p_yk⟩⟩ : P2)) = true) : evN Tryz.prog GLv Γ80 (0) []  Tryz.f32 [.own 66 [.arr s_n [.int .u8] s_c, .val (.int .i64 s_p), .val (.int .u64 s_z)], .agg [.val (.int .i64 p_xa), .val (.int .i64 p_xb), .val (.int .i64 p_xk), .val (.int .i64 p_ya), .val (.int .i64 p_yb), .val (.int .i64 p_yk)]] = some (.out (nearP (⟨⟨p_xa, p_xb, p_xk⟩, ⟨p_ya, p_yb, p_yk⟩⟩ : P2) (⟨s_n, s_c, s_p, s_z⟩ : Src)).av [.agg (nearS (⟨s_n, s_c, s_p, s_z⟩ : Src)).cells, .non]) := by
  rw [Bool.and_eq_true] at hp
  exact (show _ = WFb (⟨⟨p_xa, p_xb, p_xk⟩, ⟨p_ya, p_yb, p_yk⟩⟩ : P2) (⟨s_n, s_c, s_p, s_z⟩ : Src) from by kernel_rfl).trans ((WFb_eq _ _).trans (near_on (s := (⟨s_n, s_c, s_p, s_z⟩ : Src)) hp.1 (by decide) hp.2).1)
theorem m32 : Meets Tryz.prog GLv 32 s32 := by
  refine meetsN mix0 glv G80 Tryz.func32 (by kernel_rfl) (by kernel_rfl) s32 fun args x h => ?_
  unfold s32 at h
  split at h
  . rename_i s_n s_c s_p s_z p_xa p_xb p_xk p_ya p_yb p_yk
    simp only [Option.some.injEq, Prod.mk.injEq] at h
    obtain ⟨hp, rfl⟩ := h
    exact ⟨_, _, by kernel_rfl, e32 s_n s_c s_p s_z p_xa p_xb p_xk p_ya p_yb p_yk hp⟩
  . cases h
noncomputable abbrev Γ81 : List (Nat × Ctr) := (32, s32) :: Γ80
theorem G81 : Sound Tryz.prog GLv Γ81 := G80.cons m32
-- spec.E8Geometry
noncomputable def s11 : Ctr := fun
  | [.arr b_n [.int .u8] b_c] => some (true, .tup [(geoV (srcOf b_n b_c)).a.av, (geoV (srcOf b_n b_c)).b.av, (geoV (srcOf b_n b_c)).p.av, (geoV (srcOf b_n b_c)).q.av])
  | _ => none
theorem e11 (b_n : Nat) (b_c : NNI) : evN Tryz.prog GLv Γ81 (0) []  Tryz.f11 [.arr b_n [.int .u8] b_c] = some (.tup [(geoV (srcOf b_n b_c)).a.av, (geoV (srcOf b_n b_c)).b.av, (geoV (srcOf b_n b_c)).p.av, (geoV (srcOf b_n b_c)).q.av]) := by
  exact (show _ = GF (srcOf b_n b_c) from by kernel_rfl).trans (geo_sp (s := (srcOf b_n b_c)) rfl).1
theorem m11 : Meets Tryz.prog GLv 11 s11 := by
  refine meetsN mix0 glv G81 Tryz.func11 (by kernel_rfl) (by kernel_rfl) s11 fun args x h => ?_
  unfold s11 at h
  split at h
  . rename_i b_n b_c
    simp only [Option.some.injEq, Prod.mk.injEq] at h
    obtain ⟨hp, rfl⟩ := h
    exact ⟨_, _, by kernel_rfl, e11 b_n b_c⟩
  . cases h
noncomputable abbrev Γ82 : List (Nat × Ctr) := (11, s11) :: Γ81
theorem G82 : Sound Tryz.prog GLv Γ82 := G81.cons m11
end Go.Proofs.YtdildcdilhgdkaaGreatDoor
