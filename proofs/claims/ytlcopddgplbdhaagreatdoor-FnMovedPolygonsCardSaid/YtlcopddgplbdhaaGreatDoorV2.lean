/- Contracts of the program's functions, by the evaluator. -/
import Derived.Test.YtlcopddgplbdhaaGreatDoorV1
import Derived.Test.YtlcopddgplbdhaaGreatDoorPlF
namespace Go.Proofs.YtlcopddgplbdhaaGreatDoor
open Go.Ev
set_option linter.unusedVariables false
set_option linter.unusedSimpArgs false
set_option maxRecDepth 100000
theorem one_ex (m : Int) (s : Src) : ∃ b : Bool, b = ((pickV m s).1 == 0) := ⟨_, rfl⟩
noncomputable def oneB (m : Int) (s : Src) : Bool := Classical.choose (one_ex m s)
theorem oneB_eq (m : Int) (s : Src) : oneB m s = ((pickV m s).1 == 0) := Classical.choose_spec (one_ex m s)
-- (*spec.l00Src).one
noncomputable def s61o : Ctr := fun
 | [.own 75 [.arr s_n [.int .u8] s_c, iv s_p, .val (.int .u64 s_z)], iv m] => some (pB 2 s_p, .out (bv (oneB m (⟨s_n, s_c, s_p, s_z⟩ : Src))) [.agg (pickV m (⟨s_n, s_c, s_p, s_z⟩ : Src)).2.cells, .non])
 | _ => none
theorem e61o (s_n : Nat) (s_c : NNI) (s_p : Int) (s_z : Int) (m : Int) (hp : (pB 2 s_p) = true) : evN Tryz.prog GLv Γ145 (0) []  Tryz.f61 [.own 75 [.arr s_n [.int .u8] s_c, iv s_p, .val (.int .u64 s_z)], iv m] = some (.out (bv (oneB m (⟨s_n, s_c, s_p, s_z⟩ : Src))) [.agg (pickV m (⟨s_n, s_c, s_p, s_z⟩ : Src)).2.cells, .non]) := by
 rw [oneB_eq]
 exact (show _ = cond (pB 2 s_p) _ none from by kernel_rfl).trans (by rw [hp]; rfl)
theorem m61o : MT 61 s61o := by
 refine meetsN mix0 glv G145 Tryz.func61 (by kernel_rfl) (by kernel_rfl) s61o fun args x h => ?_
 unfold s61o at h
 split at h
 ·rename_i s_n s_c s_p s_z m
  obtain ⟨hp, rfl⟩ := sm_inj h
  exact ⟨_, _, by kernel_rfl, e61o s_n s_c s_p s_z m hp⟩
 ·cases h
noncomputable abbrev Γ146 : LC := (61, s61o) :: Γ145
theorem G146 : SD Γ146 := G145.cons m61o
-- spec.LineAt
noncomputable def s77 : Ctr := fun
 | [.agg [iv p_xa, iv p_xb, iv p_xk, iv p_ya, iv p_yb, iv p_yk], iv d] => some (true, .tup [(laL (⟨⟨p_xa, p_xb, p_xk⟩, ⟨p_ya, p_yb, p_yk⟩⟩ : P2) d).av, bv (laO (⟨⟨p_xa, p_xb, p_xk⟩, ⟨p_ya, p_yb, p_yk⟩⟩ : P2) d)])
 | _ => none
theorem e77 (p_xa : Int) (p_xb : Int) (p_xk : Int) (p_ya : Int) (p_yb : Int) (p_yk : Int) (d : Int) : evN Tryz.prog GLv Γ146 (0) []  Tryz.f77 [.agg [iv p_xa, iv p_xb, iv p_xk, iv p_ya, iv p_yb, iv p_yk], iv d] = some (.tup [(laL (⟨⟨p_xa, p_xb, p_xk⟩, ⟨p_ya, p_yb, p_yk⟩⟩ : P2) d).av, bv (laO (⟨⟨p_xa, p_xb, p_xk⟩, ⟨p_ya, p_yb, p_yk⟩⟩ : P2) d)]) := by
 refine (show _ = cond (!(valP (⟨⟨p_xa, p_xb, p_xk⟩, ⟨p_ya, p_yb, p_yk⟩⟩ : P2))) (some (.tup [ln0.av, bv false])) (cond (!(inB d 0 7)) (some (.tup [ln0.av, bv false])) (cond (inB (wr (d + 4)) 0 19 && pkD (vecP ((wr (d + 4)) % 16)) (⟨⟨p_xa, p_xb, p_xk⟩, ⟨p_ya, p_yb, p_yk⟩⟩ : P2)) (cond (kB (dotF (vecP ((wr (d + 4)) % 16)) (⟨⟨p_xa, p_xb, p_xk⟩, ⟨p_ya, p_yb, p_yk⟩⟩ : P2)).k) (cond (!(chkB (dotF (vecP ((wr (d + 4)) % 16)) (⟨⟨p_xa, p_xb, p_xk⟩, ⟨p_ya, p_yb, p_yk⟩⟩ : P2)))) (some (.tup [ln0.av, bv false])) (some (.tup [(⟨d, chk (dotF (vecP ((wr (d + 4)) % 16)) (⟨⟨p_xa, p_xb, p_xk⟩, ⟨p_ya, p_yb, p_yk⟩⟩ : P2))⟩ : Ln).av, bv true]))) (none)) (none))) from by kernel_rfl).trans ?_
 have hw : inB d 0 7 = true -> (wr (d + 4)) % 16 = wr (d + 4) /\ inB (wr (d + 4)) 0 19 = true := fun h => by
  have h := inB_iff.1 h
  rw [wr_in (by omega) (by omega)]
  exact ⟨by omega, inB_iff.2 (by omega)⟩
 unfold laL laO
 cases h1 : valP (⟨⟨p_xa, p_xb, p_xk⟩, ⟨p_ya, p_yb, p_yk⟩⟩ : P2) with
 | false => rfl
 | true =>
  cases h2 : inB d 0 7 with
  | false => rfl
  | true =>
   obtain ⟨e1, e2⟩ := hw h2
   obtain ⟨k1, k2⟩ := off_ok h2 h1
   obtain ⟨v, hv⟩ := valP_pv h1
   obtain ⟨q1, q2⟩ := off_val h2 hv
   have kk : kB (offV d (⟨⟨p_xa, p_xb, p_xk⟩, ⟨p_ya, p_yb, p_yk⟩⟩ : P2)).k = true := kB_iff.2 (by have := q1.v.k0; have := q1.v.kS; omega)
   have er : red (offV d (⟨⟨p_xa, p_xb, p_xk⟩, ⟨p_ya, p_yb, p_yk⟩⟩ : P2)) = offV d (⟨⟨p_xa, p_xb, p_xk⟩, ⟨p_ya, p_yb, p_yk⟩⟩ : P2) := red_fix q2
   rw [e1, e2, show dotF (vecP (wr (d + 4))) (⟨⟨p_xa, p_xb, p_xk⟩, ⟨p_ya, p_yb, p_yk⟩⟩ : P2) = offV d (⟨⟨p_xa, p_xb, p_xk⟩, ⟨p_ya, p_yb, p_yk⟩⟩ : P2) from rfl, show pkD (vecP (wr (d + 4))) (⟨⟨p_xa, p_xb, p_xk⟩, ⟨p_ya, p_yb, p_yk⟩⟩ : P2) = true from k2, kk]
   unfold chk chkB
   rw [er]
   cases validB (offV d (⟨⟨p_xa, p_xb, p_xk⟩, ⟨p_ya, p_yb, p_yk⟩⟩ : P2)) <;> rfl
theorem m77 : MT 77 s77 := by
 refine meetsN mix0 glv G146 Tryz.func77 (by kernel_rfl) (by kernel_rfl) s77 fun args x h => ?_
 unfold s77 at h
 split at h
 ·rename_i p_xa p_xb p_xk p_ya p_yb p_yk d
  obtain ⟨hp, rfl⟩ := sm_inj h
  exact ⟨_, _, by kernel_rfl, e77 p_xa p_xb p_xk p_ya p_yb p_yk d⟩
 ·cases h
noncomputable abbrev Γ147 : LC := (77, s77) :: Γ146
theorem G147 : SD Γ147 := G146.cons m77
-- l03Square
noncomputable def s75 : Ctr := fun
 | [iv x] => some (true, .arr 4 K6x (sqC x))
 | _ => none
noncomputable def sqRow (x : Int) : Nat -> List AV := match evW Tryz.prog GLv Γ147 0 (cfgK []) Tryz.f75 [iv x] with
 | some (.lst _ _ r) => r
 | _ => fun _ => []
theorem sq_ev (x : Int) : evW Tryz.prog GLv Γ147 0 (cfgK []) Tryz.f75 [iv x] = some (.lst 4 6 (sqRow x)) := by kernel_rfl
theorem sq_row (x : Int) : ∀ i, i < 4 -> sqRow x i = mkRow K6x (sqC x i) := fun i hi => by
 rcases (show i = 0 \/ i = 1 \/ i = 2 \/ i = 3 by omega) with e | e | e | e <;> subst e <;> kernel_rfl
theorem m75 : MT 75 s75 := by
 refine Meets.arr Tryz.func75 (by kernel_rfl) (by kernel_rfl) fun args x h => ?_
 unfold s75 at h
 split at h
 ·rename_i x
  simp only [Option.some.injEq, Prod.mk.injEq] at h
  obtain ⟨_, rfl⟩ := h
  exact ⟨.lst 4 6 (sqRow x), _, _, _, meets_one mix0 G147 Tryz.func75 (by kernel_rfl) (by kernel_rfl) 0 (cfgK []) (by kernel_rfl) (sq_ev x), rfl, .inr (.inr ⟨_, rfl, sq_row x⟩), rfl⟩
 ·cases h
noncomputable abbrev Γ148 : LC := (75, s75) :: Γ147
theorem G148 : SD Γ148 := G147.cons m75
end Go.Proofs.YtlcopddgplbdhaaGreatDoor
