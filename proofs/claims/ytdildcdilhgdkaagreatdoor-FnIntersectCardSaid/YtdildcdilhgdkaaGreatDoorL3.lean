/- Contracts of the program's functions, by the evaluator. -/
import Derived.Test.YtdildcdilhgdkaaGreatDoorL2
import Derived.Test.YtdildcdilhgdkaaGreatDoorPlF
namespace Go.Proofs.YtdildcdilhgdkaaGreatDoor
open Go.Ev
set_option linter.unusedVariables false
set_option linter.unusedSimpArgs false
set_option maxRecDepth 100000
theorem mvd_step (K n a_n i : Nat) (a_c d : NNI) (x y : N3) (s0 s : Src) (lv : Bool) : runW Tryz.prog GLv Γ133 K ⟨kx29, [], [(7, [0]), (56, [0])], 1, []⟩ [.own 66 s0.cells, .arr a_n K6x a_c] Tryz.f19 0 (n + 1) (st2 Tryz.f19.ntmps [.ref Tryz.f19.ntmps 0, .arr a_n K6x a_c, .non, .non, .non, .own 25 [iv x.a, iv x.b, iv x.k], .own 25 [iv y.a, iv y.b, iv y.k], .sl (Tryz.f19.ntmps + 1) (i), iv ((i : Int))] [.vown 66 s.cells, .row (lv) 35 (i) K6x (d)]) = cond (decide ((i : Int) < (a_n : Int))) (cond ((decide (0 <= (i : Int)) && decide ((i : Int) < (a_n : Int)))) (cond ((decide (0 <= (i : Int)) && decide ((i : Int) < (a_n : Int)))) (cond (!((validB (pAt a_c i).x && validB x) && chkB (addF (pAt a_c i).x x))) (some (.out (.arr a_n K6x a_c) [.agg s.cells, .non])) (cond (!((validB (pAt a_c i).y && validB y) && chkB (addF (pAt a_c i).y y))) (some (.out (.arr a_n K6x a_c) [.agg s.cells, .non])) (cond (Nat.ble ((i + 1) * 48) 140737488355328) (runW Tryz.prog GLv Γ133 K ⟨kx29, [], [(7, [0]), (56, [0])], 1, []⟩ [.own 66 s0.cells, .arr a_n K6x a_c] Tryz.f19 0 n (st2 Tryz.f19.ntmps [.ref Tryz.f19.ntmps 0, .arr a_n K6x a_c, .non, .non, .non, .own 25 [iv x.a, iv x.b, iv x.k], .own 25 [iv y.a, iv y.b, iv y.k], .sl (Tryz.f19.ntmps + 1) (i + 1), iv (wr ((i : Int) + 1))] [.vown 66 s.cells, .row (true) 35 (i + 1) K6x (catC i d (listC [mvdG a_c x y i]))])) (none)))) (none)) (none)) (some (.out (.row lv 35 i K6x d) [.agg s.cells, .non])) := by kernel_rfl
theorem mvd_run (K a_n : Nat) (a_c : NNI) (x y : N3) (s0 s : Src) (hn : a_n <= 1000) : ∀ (r i n : Nat) (d : NNI) (lv : Bool), i + r = a_n -> r < n -> ∃ (g : Pg) (o : AV), runW Tryz.prog GLv Γ133 K ⟨kx29, [], [(7, [0]), (56, [0])], 1, []⟩ [.own 66 s0.cells, .arr a_n K6x a_c] Tryz.f19 0 n (st2 Tryz.f19.ntmps [.ref Tryz.f19.ntmps 0, .arr a_n K6x a_c, .non, .non, .non, .own 25 [iv x.a, iv x.b, iv x.k], .own 25 [iv y.a, iv y.b, iv y.k], .sl (Tryz.f19.ntmps + 1) (i), iv ((i : Int))] [.vown 66 s.cells, .row (lv) 35 (i) K6x (d)]) = some (.out o [.agg s.cells, .non]) /\ asArr g.n K6x g.c o /\ g.n <= a_n := by
  intro r
  induction r with
  | zero =>
    intro i n d lv h1 h2
    obtain ⟨n, rfl⟩ : ∃ n', n = n' + 1 := ⟨n - 1, by omega⟩
    rw [mvd_step, nat_lt i a_n, show decide (i < a_n) = false by simp; omega]
    exact ⟨⟨i, d⟩, _, rfl, .inr (.inl ⟨lv, _, rfl⟩), by show i <= a_n; omega⟩
  | succ r ih =>
    intro i n d lv h1 h2
    obtain ⟨n, rfl⟩ : ∃ n', n = n' + 1 := ⟨n - 1, by omega⟩
    rw [mvd_step, nat_nn, nat_lt i a_n, show decide (i < a_n) = true by simp; omega, show Nat.ble ((i + 1) * 48) 140737488355328 = true from Nat.ble_eq_true_of_le (by omega)]
    simp only [Bool.and_self, cond_true]
    rw [wr_succ (by omega)]
    cases ((validB (pAt a_c i).x && validB x) && chkB (addF (pAt a_c i).x x)) with
    | false => exact ⟨⟨a_n, a_c⟩, _, rfl, .inl rfl, Nat.le_refl _⟩
    | true =>
      cases ((validB (pAt a_c i).y && validB y) && chkB (addF (pAt a_c i).y y)) with
      | false => exact ⟨⟨a_n, a_c⟩, _, rfl, .inl rfl, Nat.le_refl _⟩
      | true => exact ih (i + 1) n _ true (by omega) (by omega)
theorem mvd_ex (s : Src) (a_n : Nat) (a_c : NNI) (h : pB 36 s.p = true) (hn : a_n <= 1000) : ∃ g : Pg, (∃ o : AV, evW Tryz.prog GLv Γ133 (a_n + 2) ⟨kx29, [], [(7, [0]), (56, [0])], 1, []⟩ Tryz.f19 [.own 66 s.cells, .arr a_n K6x a_c] = some (.out o [.agg (drawV (drawV s).2).2.cells, .non]) /\ asArr g.n K6x g.c o) /\ g.n <= a_n := by
  obtain ⟨_, _, h1⟩ := drawV_on h (by decide)
  have p1 := pB_on h h1 (by decide)
  obtain ⟨g, o, e1, e2, e3⟩ := mvd_run (a_n + 2) a_n a_c (drawV s).1 (drawV (drawV s).2).1 s (drawV (drawV s).2).2 hn a_n 0 (a_n + 2) (fun _ _ => 0) false (by omega) (by omega)
  refine ⟨g, ⟨o, ?_, e2⟩, e3⟩
  refine (show _ = cond (pB 18 s.p) (cond (pB 18 (drawV s).2.p) (runW Tryz.prog GLv Γ133 (a_n + 2) ⟨kx29, [], [(7, [0]), (56, [0])], 1, []⟩ [.own 66 s.cells, .arr a_n K6x a_c] Tryz.f19 0 (a_n + 2) (st2 Tryz.f19.ntmps [.ref Tryz.f19.ntmps 0, .arr a_n K6x a_c, .non, .non, .non, .own 25 [iv (drawV s).1.a, iv (drawV s).1.b, iv (drawV s).1.k], .own 25 [iv (drawV (drawV s).2).1.a, iv (drawV (drawV s).2).1.b, iv (drawV (drawV s).2).1.k], .sl (Tryz.f19.ntmps + 1) (0), iv (((0 : Nat) : Int))] [.vown 66 (drawV (drawV s).2).2.cells, .row (false) 35 (0) K6x (fun _ _ => 0)])) none) none from by kernel_rfl).trans ?_
  rw [pB_less h (by decide), show pB 18 (drawV s).2.p = true from p1]
  exact e1
noncomputable def mvdV (s : Src) (a : Pg) : Pg := if h : pB 36 s.p = true /\ a.n <= 1000 then Classical.choose (mvd_ex s a.n a.c h.1 h.2) else a
theorem mvd_sp {s : Src} {a_n : Nat} {a_c : NNI} (h : pB 36 s.p = true) (hn : a_n <= 1000) : (∃ o : AV, evW Tryz.prog GLv Γ133 (a_n + 2) ⟨kx29, [], [(7, [0]), (56, [0])], 1, []⟩ Tryz.f19 [.own 66 s.cells, .arr a_n K6x a_c] = some (.out o [.agg (drawV (drawV s).2).2.cells, .non]) /\ asArr (mvdV s ⟨a_n, a_c⟩).n K6x (mvdV s ⟨a_n, a_c⟩).c o) /\ (mvdV s ⟨a_n, a_c⟩).n <= a_n := by
  unfold mvdV
  rw [dif_pos (show pB 36 s.p = true /\ a_n <= 1000 from ⟨h, hn⟩)]
  exact Classical.choose_spec (mvd_ex s a_n a_c h hn)
-- l03Moved
noncomputable def s19 : Ctr := fun
  | [.own 66 [.arr s_n [.int .u8] s_c, .val (.int .i64 s_p), .val (.int .u64 s_z)], .arr a_n K6x a_c] => some (pB 36 s_p && Nat.ble a_n 1000, .out (mvdV (⟨s_n, s_c, s_p, s_z⟩ : Src) ⟨a_n, a_c⟩).av [.agg (drawV (drawV (⟨s_n, s_c, s_p, s_z⟩ : Src)).2).2.cells, .non])
  | _ => none
theorem m19 : Meets Tryz.prog GLv 19 s19 := by
  refine Meets.arr Tryz.func19 (by kernel_rfl) (by kernel_rfl) fun args x h => ?_
  unfold s19 at h
  split at h
  . rename_i s_n s_c s_p s_z a_n a_c
    simp only [Option.some.injEq, Prod.mk.injEq, Bool.and_eq_true] at h
    obtain ⟨⟨h1, h2⟩, rfl⟩ := h
    obtain ⟨⟨o, e1, e2⟩, _⟩ := mvd_sp (s := (⟨s_n, s_c, s_p, s_z⟩ : Src)) (a_c := a_c) h1 (Nat.le_of_ble_eq_true h2)
    exact ⟨_, _, _, _, meets_one mix0 G133 Tryz.func19 (by kernel_rfl) (by kernel_rfl) _ _ (by kernel_rfl) e1, rfl, e2, rfl⟩
  . cases h
noncomputable abbrev Γ134 : List (Nat × Ctr) := (19, s19) :: Γ133
theorem G134 : Sound Tryz.prog GLv Γ134 := G133.cons m19
end Go.Proofs.YtdildcdilhgdkaaGreatDoor
