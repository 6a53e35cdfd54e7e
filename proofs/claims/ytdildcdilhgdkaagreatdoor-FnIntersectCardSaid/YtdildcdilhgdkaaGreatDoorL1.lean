/- Contracts of the program's functions, by the evaluator. -/
import Derived.Test.YtdildcdilhgdkaaGreatDoorK2
import Derived.Test.YtdildcdilhgdkaaGreatDoorPlF
namespace Go.Proofs.YtdildcdilhgdkaaGreatDoor
open Go.Ev
set_option linter.unusedVariables false
set_option linter.unusedSimpArgs false
set_option maxRecDepth 100000
theorem one_ex (m : Int) (s : Src) : ∃ b : Bool, b = ((pickV m s).1 == 0) := ⟨_, rfl⟩
noncomputable def oneB (m : Int) (s : Src) : Bool := Classical.choose (one_ex m s)
theorem oneB_eq (m : Int) (s : Src) : oneB m s = ((pickV m s).1 == 0) := Classical.choose_spec (one_ex m s)
-- (*spec.l00Src).one
noncomputable def s18o : Ctr := fun
  | [.own 66 [.arr s_n [.int .u8] s_c, .val (.int .i64 s_p), .val (.int .u64 s_z)], .val (.int .i64 m)] => some (pB 2 s_p, .out (bv (oneB m (⟨s_n, s_c, s_p, s_z⟩ : Src))) [.agg (pickV m (⟨s_n, s_c, s_p, s_z⟩ : Src)).2.cells, .non])
  | _ => none
theorem e18o (s_n : Nat) (s_c : NNI) (s_p : Int) (s_z : Int) (m : Int) (hp : (pB 2 s_p) = true) : evN Tryz.prog GLv Γ128 (0) []  Tryz.f18 [.own 66 [.arr s_n [.int .u8] s_c, .val (.int .i64 s_p), .val (.int .u64 s_z)], .val (.int .i64 m)] = some (.out (bv (oneB m (⟨s_n, s_c, s_p, s_z⟩ : Src))) [.agg (pickV m (⟨s_n, s_c, s_p, s_z⟩ : Src)).2.cells, .non]) := by
  rw [oneB_eq]
  exact (show _ = cond (pB 2 s_p) _ none from by kernel_rfl).trans (by rw [hp]; rfl)
theorem m18o : Meets Tryz.prog GLv 18 s18o := by
  refine meetsN mix0 glv G128 Tryz.func18 (by kernel_rfl) (by kernel_rfl) s18o fun args x h => ?_
  unfold s18o at h
  split at h
  . rename_i s_n s_c s_p s_z m
    simp only [Option.some.injEq, Prod.mk.injEq] at h
    obtain ⟨hp, rfl⟩ := h
    exact ⟨_, _, by kernel_rfl, e18o s_n s_c s_p s_z m hp⟩
  . cases h
noncomputable abbrev Γ129 : List (Nat × Ctr) := (18, s18o) :: Γ128
theorem G129 : Sound Tryz.prog GLv Γ129 := G128.cons m18o
-- spec.LineAt
noncomputable def s42 : Ctr := fun
  | [.agg [.val (.int .i64 p_xa), .val (.int .i64 p_xb), .val (.int .i64 p_xk), .val (.int .i64 p_ya), .val (.int .i64 p_yb), .val (.int .i64 p_yk)], .val (.int .i64 d)] => some (true, .tup [(laL (⟨⟨p_xa, p_xb, p_xk⟩, ⟨p_ya, p_yb, p_yk⟩⟩ : P2) d).av, bv (laO (⟨⟨p_xa, p_xb, p_xk⟩, ⟨p_ya, p_yb, p_yk⟩⟩ : P2) d)])
  | _ => none
theorem e42 (p_xa : Int) (p_xb : Int) (p_xk : Int) (p_ya : Int) (p_yb : Int) (p_yk : Int) (d : Int) : evN Tryz.prog GLv Γ129 (0) []  Tryz.f42 [.agg [.val (.int .i64 p_xa), .val (.int .i64 p_xb), .val (.int .i64 p_xk), .val (.int .i64 p_ya), .val (.int .i64 p_yb), .val (.int .i64 p_yk)], .val (.int .i64 d)] = some (.tup [(laL (⟨⟨p_xa, p_xb, p_xk⟩, ⟨p_ya, p_yb, p_yk⟩⟩ : P2) d).av, bv (laO (⟨⟨p_xa, p_xb, p_xk⟩, ⟨p_ya, p_yb, p_yk⟩⟩ : P2) d)]) := by
  refine (show _ = cond (!(valP (⟨⟨p_xa, p_xb, p_xk⟩, ⟨p_ya, p_yb, p_yk⟩⟩ : P2))) (some (.tup [ln0.av, bv false])) (cond (!(inB d 0 7)) (some (.tup [ln0.av, bv false])) (cond (inB (wr (d + 4)) 0 19 && pkD (vecP ((wr (d + 4)) % 16)) (⟨⟨p_xa, p_xb, p_xk⟩, ⟨p_ya, p_yb, p_yk⟩⟩ : P2)) (cond (kB (dotF (vecP ((wr (d + 4)) % 16)) (⟨⟨p_xa, p_xb, p_xk⟩, ⟨p_ya, p_yb, p_yk⟩⟩ : P2)).k) (cond (!(chkB (dotF (vecP ((wr (d + 4)) % 16)) (⟨⟨p_xa, p_xb, p_xk⟩, ⟨p_ya, p_yb, p_yk⟩⟩ : P2)))) (some (.tup [ln0.av, bv false])) (some (.tup [(⟨d, chk (dotF (vecP ((wr (d + 4)) % 16)) (⟨⟨p_xa, p_xb, p_xk⟩, ⟨p_ya, p_yb, p_yk⟩⟩ : P2))⟩ : Ln).av, bv true]))) (none)) (none))) from by kernel_rfl).trans ?_
  have hw : inB d 0 7 = true -> (wr (d + 4)) % 16 = wr (d + 4) /\ inB (wr (d + 4)) 0 19 = true := fun h => by
    have h := inB_iff.1 h
    rw [wr_in (by omega) (by omega)]
    exact ⟨by omega, inB_iff.2 (by omega)⟩
  unfold laL laO
  cases h1 : valP (⟨⟨p_xa, p_xb, p_xk⟩, ⟨p_ya, p_yb, p_yk⟩⟩ : P2) with
  | false => rfl
  | true =>
    cases h2 : inB d 0 7 with
    | false => rfl
    | true =>
      obtain ⟨e1, e2⟩ := hw h2
      obtain ⟨k1, k2⟩ := off_ok h2 h1
      obtain ⟨v, hv⟩ := valP_pv h1
      obtain ⟨q1, q2⟩ := off_val h2 hv
      have kk : kB (offV d (⟨⟨p_xa, p_xb, p_xk⟩, ⟨p_ya, p_yb, p_yk⟩⟩ : P2)).k = true := kB_iff.2 (by have := q1.v.k0; have := q1.v.kS; omega)
      have er : red (offV d (⟨⟨p_xa, p_xb, p_xk⟩, ⟨p_ya, p_yb, p_yk⟩⟩ : P2)) = offV d (⟨⟨p_xa, p_xb, p_xk⟩, ⟨p_ya, p_yb, p_yk⟩⟩ : P2) := red_fix q2
      rw [e1, e2, show dotF (vecP (wr (d + 4))) (⟨⟨p_xa, p_xb, p_xk⟩, ⟨p_ya, p_yb, p_yk⟩⟩ : P2) = offV d (⟨⟨p_xa, p_xb, p_xk⟩, ⟨p_ya, p_yb, p_yk⟩⟩ : P2) from rfl, show pkD (vecP (wr (d + 4))) (⟨⟨p_xa, p_xb, p_xk⟩, ⟨p_ya, p_yb, p_yk⟩⟩ : P2) = true from k2, kk]
      unfold chk chkB
      rw [er]
      cases validB (offV d (⟨⟨p_xa, p_xb, p_xk⟩, ⟨p_ya, p_yb, p_yk⟩⟩ : P2)) <;> rfl
theorem m42 : Meets Tryz.prog GLv 42 s42 := by
  refine meetsN mix0 glv G129 Tryz.func42 (by kernel_rfl) (by kernel_rfl) s42 fun args x h => ?_
  unfold s42 at h
  split at h
  . rename_i p_xa p_xb p_xk p_ya p_yb p_yk d
    simp only [Option.some.injEq, Prod.mk.injEq] at h
    obtain ⟨hp, rfl⟩ := h
    exact ⟨_, _, by kernel_rfl, e42 p_xa p_xb p_xk p_ya p_yb p_yk d⟩
  . cases h
noncomputable abbrev Γ130 : List (Nat × Ctr) := (42, s42) :: Γ129
theorem G130 : Sound Tryz.prog GLv Γ130 := G129.cons m42
-- l03Square
noncomputable def s39 : Ctr := fun
  | [.val (.int .i64 x)] => some (true, .arr 4 K6x (sqC x))
  | _ => none
noncomputable def sqRow (x : Int) : Nat -> List AV := match evW Tryz.prog GLv Γ130 0 (cfgK []) Tryz.f39 [iv x] with
  | some (.lst _ _ r) => r
  | _ => fun _ => []
theorem sq_ev (x : Int) : evW Tryz.prog GLv Γ130 0 (cfgK []) Tryz.f39 [iv x] = some (.lst 4 6 (sqRow x)) := by kernel_rfl
theorem sq_row (x : Int) : ∀ i, i < 4 -> sqRow x i = mkRow K6x (sqC x i) := fun i hi => by
  rcases (show i = 0 \/ i = 1 \/ i = 2 \/ i = 3 by omega) with e | e | e | e <;> subst e <;> kernel_rfl
theorem m39 : Meets Tryz.prog GLv 39 s39 := by
  refine Meets.arr Tryz.func39 (by kernel_rfl) (by kernel_rfl) fun args x h => ?_
  unfold s39 at h
  split at h
  . rename_i x
    simp only [Option.some.injEq, Prod.mk.injEq] at h
    obtain ⟨_, rfl⟩ := h
    exact ⟨.lst 4 6 (sqRow x), _, _, _, meets_one mix0 G130 Tryz.func39 (by kernel_rfl) (by kernel_rfl) 0 (cfgK []) (by kernel_rfl) (sq_ev x), rfl, .inr (.inr ⟨_, rfl, sq_row x⟩), rfl⟩
  . cases h
noncomputable abbrev Γ131 : List (Nat × Ctr) := (39, s39) :: Γ130
theorem G131 : Sound Tryz.prog GLv Γ131 := G130.cons m39
-- spec.AddNum
noncomputable def s44 : Ctr := fun
  | [.agg [.val (.int .i64 x_a), .val (.int .i64 x_b), .val (.int .i64 x_k)], .agg [.val (.int .i64 y_a), .val (.int .i64 y_b), .val (.int .i64 y_k)]] => some (true, opV (validB (⟨x_a, x_b, x_k⟩ : N3) && validB (⟨y_a, y_b, y_k⟩ : N3)) (addF (⟨x_a, x_b, x_k⟩ : N3) (⟨y_a, y_b, y_k⟩ : N3)))
  | _ => none
theorem e44 (x_a : Int) (x_b : Int) (x_k : Int) (y_a : Int) (y_b : Int) (y_k : Int) : evN Tryz.prog GLv Γ131 (0) []  Tryz.f44 [.agg [.val (.int .i64 x_a), .val (.int .i64 x_b), .val (.int .i64 x_k)], .agg [.val (.int .i64 y_a), .val (.int .i64 y_b), .val (.int .i64 y_k)]] = some (opV (validB (⟨x_a, x_b, x_k⟩ : N3) && validB (⟨y_a, y_b, y_k⟩ : N3)) (addF (⟨x_a, x_b, x_k⟩ : N3) (⟨y_a, y_b, y_k⟩ : N3))) := by
  refine (show _ = cond (!validB (N3.mk x_a x_b x_k)) ( some ((.tup [(.agg [iv (0), iv (0), iv (0)]), bv (false)])) ) ( cond (!validB (N3.mk y_a y_b y_k)) ( some ((.tup [(.agg [iv (0), iv (0), iv (0)]), bv (false)])) ) ( cond (pk (N3.mk x_a x_b x_k) (N3.mk y_a y_b y_k)) ( cond (kB (addF (N3.mk x_a x_b x_k) (N3.mk y_a y_b y_k)).3) ( some ((.tup [(.agg [iv (bif chkB (N3.mk (addF (N3.mk x_a x_b x_k) (N3.mk y_a y_b y_k)).1 (addF (N3.mk x_a x_b x_k) (N3.mk y_a y_b y_k)).2 (addF (N3.mk x_a x_b x_k) (N3.mk y_a y_b y_k)).3) then (red (N3.mk (addF (N3.mk x_a x_b x_k) (N3.mk y_a y_b y_k)).1 (addF (N3.mk x_a x_b x_k) (N3.mk y_a y_b y_k)).2 (addF (N3.mk x_a x_b x_k) (N3.mk y_a y_b y_k)).3)).1 else 0), iv (bif chkB (N3.mk (addF (N3.mk x_a x_b x_k) (N3.mk y_a y_b y_k)).1 (addF (N3.mk x_a x_b x_k) (N3.mk y_a y_b y_k)).2 (addF (N3.mk x_a x_b x_k) (N3.mk y_a y_b y_k)).3) then (red (N3.mk (addF (N3.mk x_a x_b x_k) (N3.mk y_a y_b y_k)).1 (addF (N3.mk x_a x_b x_k) (N3.mk y_a y_b y_k)).2 (addF (N3.mk x_a x_b x_k) (N3.mk y_a y_b y_k)).3)).2 else 0), iv (bif chkB (N3.mk (addF (N3.mk x_a x_b x_k) (N3.mk y_a y_b y_k)).1 (addF (N3.mk x_a x_b x_k) (N3.mk y_a y_b y_k)).2 (addF (N3.mk x_a x_b x_k) (N3.mk y_a y_b y_k)).3) then (red (N3.mk (addF (N3.mk x_a x_b x_k) (N3.mk y_a y_b y_k)).1 (addF (N3.mk x_a x_b x_k) (N3.mk y_a y_b y_k)).2 (addF (N3.mk x_a x_b x_k) (N3.mk y_a y_b y_k)).3)).3 else 0)]), bv (chkB (N3.mk (addF (N3.mk x_a x_b x_k) (N3.mk y_a y_b y_k)).1 (addF (N3.mk x_a x_b x_k) (N3.mk y_a y_b y_k)).2 (addF (N3.mk x_a x_b x_k) (N3.mk y_a y_b y_k)).3))])) ) ( none ) ) ( none ) ) ) from by kernel_rfl).trans ?_
  cases hx : validB (⟨x_a, x_b, x_k⟩ : N3) with
  | false => simp only [hx, cond_true, cond_false, Bool.false_and, Bool.not_false]; rfl
  | true =>
    cases hy : validB (⟨y_a, y_b, y_k⟩ : N3) with
    | false => simp only [hx, hy, cond_true, cond_false, Bool.true_and, Bool.not_true, Bool.not_false]; rfl
    | true =>
      obtain ⟨h1, h2, h3, h4, h5⟩ := vpk hx hy
      simp only [hx, hy, h1, h2, h3, h4, h5, cond_true, cond_false, Bool.true_and, Bool.not_true]
      rfl
theorem m44 : Meets Tryz.prog GLv 44 s44 := by
  refine meetsN mix0 glv G131 Tryz.func44 (by kernel_rfl) (by kernel_rfl) s44 fun args x h => ?_
  unfold s44 at h
  split at h
  . rename_i x_a x_b x_k y_a y_b y_k
    simp only [Option.some.injEq, Prod.mk.injEq] at h
    obtain ⟨hp, rfl⟩ := h
    exact ⟨_, _, by kernel_rfl, e44 x_a x_b x_k y_a y_b y_k⟩
  . cases h
noncomputable abbrev Γ132 : List (Nat × Ctr) := (44, s44) :: Γ131
theorem G132 : Sound Tryz.prog GLv Γ132 := G131.cons m44
end Go.Proofs.YtdildcdilhgdkaaGreatDoor
