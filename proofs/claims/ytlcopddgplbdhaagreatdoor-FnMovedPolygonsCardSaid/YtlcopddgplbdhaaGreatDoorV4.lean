/- Contracts of the program's functions, by the evaluator. -/
import Derived.Test.YtlcopddgplbdhaaGreatDoorV3
import Derived.Test.YtlcopddgplbdhaaGreatDoorPlF
import Derived.Test.YtlcopddgplbdhaaGreatDoorPlS
namespace Go.Proofs.YtlcopddgplbdhaaGreatDoor
open Go.Ev
set_option linter.unusedVariables false
set_option linter.unusedSimpArgs false
set_option maxRecDepth 100000
abbrev cfV41 : Cfg := ⟨[], [(8, [true, false, false, true])], [(6, [0]), (12, [1]), (25, [1]), (35, [1])], 2, []⟩
abbrev cfV40 : Cfg := ⟨kx10, [], [(3, [0]), (19, [0])], 1, []⟩
structure Pw where
 lv : Bool
 n : Nat
 c : NNI
def pwRw (g : Pw) : AV := .row g.lv 38 g.n K6x g.c
theorem rv_step (K n a_n m : Nat) (a_c d : NNI) (i : Int) (lv : Bool) : runW Tryz.prog GLv Γ151 K cfV40 [.arr a_n K6x a_c] Tryz.f43 0 (n + 1) (st2 Tryz.f43.ntmps [.arr a_n K6x a_c, .non, .non, .sl Tryz.f43.ntmps (m), iv (i)] [.row (lv) 38 (m) K6x (d)]) = cond (decide (i >= 0)) (cond (decide (0 <= i) && decide (i < (a_n : Int))) (cond (Nat.ble ((m + 1) * 48) 140737488355328) (runW Tryz.prog GLv Γ151 K cfV40 [.arr a_n K6x a_c] Tryz.f43 0 n (st2 Tryz.f43.ntmps [.arr a_n K6x a_c, .non, .non, .sl Tryz.f43.ntmps (m + 1), iv (wr (i - 1))] [.row (true) 38 (m + 1) K6x (catC m d (listC [[a_c i.toNat 0, a_c i.toNat 1, a_c i.toNat 2, a_c i.toNat 3, a_c i.toNat 4, a_c i.toNat 5]]))])) (none)) (none)) (some (.row (lv) 38 (m) K6x (d))) := by kernel_rfl
theorem rv_run (K a_n : Nat) (a_c : NNI) (hn : a_n <= 1000) : ∀ (r n m : Nat) (i : Int) (d : NNI) (lv : Bool), i = (r : Int) - 1 -> r < n -> m + r = a_n -> ∃ g : Pw, runW Tryz.prog GLv Γ151 K cfV40 [.arr a_n K6x a_c] Tryz.f43 0 n (st2 Tryz.f43.ntmps [.arr a_n K6x a_c, .non, .non, .sl Tryz.f43.ntmps (m), iv (i)] [.row (lv) 38 (m) K6x (d)]) = some (pwRw g) /\ g.n = a_n := by
 intro r
 induction r with
 | zero =>
  intro n m i d lv h1 h2 h3
  obtain ⟨n, rfl⟩ : ∃ n', n = n' + 1 := ⟨n - 1, by omega⟩
  rw [rv_step, decide_eq_false (show ¬ i >= 0 by omega)]
  exact ⟨⟨lv, m, d⟩, rfl, by show m = a_n; omega⟩
 | succ r ih =>
  intro n m i d lv h1 h2 h3
  obtain ⟨n, rfl⟩ : ∃ n', n = n' + 1 := ⟨n - 1, by omega⟩
  rw [rv_step, decide_eq_true (show i >= 0 by omega), decide_eq_true (show i < (a_n : Int) by omega), show Nat.ble ((m + 1) * 48) 140737488355328 = true from Nat.ble_eq_true_of_le (by omega)]
  simp only [Bool.and_self, cond_true]
  exact ih n (m + 1) _ _ _ (by rw [wr_in (by omega) (by omega)]; omega) (by omega) (by omega)
theorem rv_ex (a_n : Nat) (a_c : NNI) (hn : a_n <= 1000) : ∃ g : Pw, evW Tryz.prog GLv Γ151 (a_n + 2) cfV40 Tryz.f43 [.arr a_n K6x a_c] = some (pwRw g) /\ g.n = a_n := by
 obtain ⟨g, e, hg⟩ := rv_run (a_n + 2) a_n a_c hn a_n (a_n + 2) 0 (wr ((a_n : Int) - 1)) (fun _ _ => 0) false (by rw [wr_in (by omega) (by omega)]) (by omega) (by omega)
 exact ⟨g, (show _ = runW Tryz.prog GLv Γ151 (a_n + 2) cfV40 [.arr a_n K6x a_c] Tryz.f43 0 (a_n + 2) (st2 Tryz.f43.ntmps [.arr a_n K6x a_c, .non, .non, .sl Tryz.f43.ntmps (0), iv (wr ((a_n : Int) - 1))] [.row (false) 38 (0) K6x (fun _ _ => 0)]) from by kernel_rfl).trans e, hg⟩
noncomputable def rvV (a_n : Nat) (a_c : NNI) : Pw := if h : a_n <= 1000 then Classical.choose (rv_ex a_n a_c h) else ⟨false, 0, zeroC⟩
theorem rv_sp {a_n : Nat} {a_c : NNI} (hn : a_n <= 1000) : evW Tryz.prog GLv Γ151 (a_n + 2) cfV40 Tryz.f43 [.arr a_n K6x a_c] = some (pwRw (rvV a_n a_c)) /\ (rvV a_n a_c).n = a_n := by
 unfold rvV
 rw [dif_pos hn]
 exact Classical.choose_spec (rv_ex a_n a_c hn)
-- spec.l03Reversed
noncomputable def s43 : Ctr := fun
 | [.arr a_n K6x a_c] => some (Nat.ble a_n 1000, pwRw (rvV a_n a_c))
 | _ => none
theorem e43 (a_n : Nat) (a_c : NNI) (hp : (Nat.ble a_n 1000) = true) : evW Tryz.prog GLv Γ151 (a_n + 2) (cfV40)  Tryz.f43 [.arr a_n K6x a_c] = some (pwRw (rvV a_n a_c)) := by
 exact (rv_sp (Nat.le_of_ble_eq_true hp)).1
theorem m43 : MT 43 s43 := by
 refine meetsW mix0 G151 Tryz.func43 (by kernel_rfl) (by kernel_rfl) s43 fun args x h => ?_
 unfold s43 at h
 split at h
 ·rename_i a_n a_c
  obtain ⟨hp, rfl⟩ := sm_inj h
  exact ⟨_, _, by kernel_rfl, e43 a_n a_c hp⟩
 ·cases h
noncomputable abbrev Γ152 : LC := (43, s43) :: Γ151
theorem G152 : SD Γ152 := G151.cons m43
noncomputable def y8_0 (n : Nat) (c : NNI) (s : Src) : Option AV := cond (decide ((1 : Int) <= (n : Int))) (cond (Nat.ble ((0 + (n - 1)) * 48) 140737488355328) (cond (decide ((0 : Int) < (n : Int))) (cond (Nat.ble ((0 + (n - 1) + 1) * 48) 140737488355328) (some (outS (.row (true) 38 (0 + (n - 1) + 1) K6x (catC (0 + (n - 1)) (catC 0 zeroC fun i => c (i + 1)) (listC [[c 0 0, c 0 1, c 0 2, c 0 3, c 0 4, c 0 5]]))) s)) (none)) (none)) (none)) (none)
noncomputable def y8_1 (n : Nat) (c : NNI) (s : Src) : Option AV := cond (decide ((1 : Int) <= (n : Int))) (cond (decide ((0 : Int) < (n : Int))) (cond (Nat.ble ((0 + (n - 1)) * 48) 140737488355328) (cond (Nat.ble ((0 + (n - 1) + 1) * 48) 140737488355328) (some (outS (.row (true) 38 (0 + (n - 1) + 1) K6x (catC (0 + (n - 1)) (catC 0 zeroC fun i => c (i + 1)) (listC [[c 0 0, c 0 1, c 0 2, c 0 3, c 0 4, c 0 5]]))) s)) (none)) (none)) (none)) (none)
noncomputable def y8_2 (n : Nat) (c : NNI) (s : Src) : Option AV := cond (decide ((0 : Int) < (n : Int))) (cond (decide ((1 : Int) <= (n : Int))) (cond (Nat.ble ((0 + (n - 1)) * 48) 140737488355328) (cond (Nat.ble ((0 + (n - 1) + 1) * 48) 140737488355328) (some (outS (.row (true) 38 (0 + (n - 1) + 1) K6x (catC (0 + (n - 1)) (catC 0 zeroC fun i => c (i + 1)) (listC [[c 0 0, c 0 1, c 0 2, c 0 3, c 0 4, c 0 5]]))) s)) (none)) (none)) (none)) (none)
theorem bn_8e (n : Nat) (c : NNI) (s : Src) (s0 : Src) : (fromW Tryz.prog GLv Γ152 0 cfV41 [.own 75 s0.cells] Tryz.f17 8 (st2 Tryz.f17.ntmps [.ref Tryz.f17.ntmps 0, .non, .non, .sl (Tryz.f17.ntmps + 1) (n)] [.vown 75 s.cells, .row (Nat.blt 0 (n)) 38 (n) K6x (c), .non])) = allSame [y8_0 n c s, y8_0 n c s, y8_1 n c s, y8_1 n c s, y8_1 n c s, y8_0 n c s, y8_1 n c s, y8_1 n c s, y8_1 n c s, y8_2 n c s, y8_2 n c s, y8_2 n c s, y8_2 n c s, y8_2 n c s, y8_2 n c s, y8_0 n c s, y8_1 n c s, y8_1 n c s, y8_1 n c s, y8_2 n c s, y8_2 n c s, y8_2 n c s, y8_2 n c s, y8_2 n c s, y8_2 n c s, y8_2 n c s, y8_2 n c s, y8_2 n c s, y8_2 n c s, y8_2 n c s, y8_2 n c s, y8_2 n c s, y8_2 n c s, y8_2 n c s, y8_2 n c s, y8_0 n c s, y8_0 n c s, y8_1 n c s, y8_1 n c s, y8_1 n c s, y8_0 n c s, y8_1 n c s, y8_1 n c s, y8_1 n c s, y8_2 n c s, y8_2 n c s, y8_2 n c s, y8_2 n c s, y8_2 n c s, y8_2 n c s, y8_0 n c s, y8_0 n c s, y8_1 n c s, y8_1 n c s, y8_1 n c s, y8_0 n c s, y8_1 n c s, y8_1 n c s, y8_1 n c s, y8_1 n c s, y8_1 n c s, y8_1 n c s, y8_1 n c s, y8_1 n c s, y8_1 n c s, y8_0 n c s, y8_1 n c s, y8_1 n c s, y8_1 n c s, y8_2 n c s, y8_2 n c s, y8_2 n c s, y8_2 n c s, y8_2 n c s, y8_2 n c s, y8_0 n c s, y8_1 n c s, y8_1 n c s, y8_1 n c s, y8_1 n c s, y8_1 n c s, y8_1 n c s, y8_1 n c s, y8_1 n c s, y8_1 n c s, y8_2 n c s, y8_2 n c s, y8_2 n c s, y8_2 n c s, y8_2 n c s, y8_2 n c s, y8_2 n c s, y8_2 n c s, y8_2 n c s, y8_2 n c s, y8_2 n c s, y8_2 n c s, y8_2 n c s, y8_2 n c s, y8_2 n c s, y8_2 n c s, y8_2 n c s, y8_2 n c s, y8_2 n c s, y8_2 n c s, y8_0 n c s, y8_1 n c s, y8_1 n c s, y8_1 n c s, y8_2 n c s, y8_2 n c s, y8_2 n c s, y8_2 n c s, y8_2 n c s, y8_2 n c s, y8_2 n c s, y8_2 n c s, y8_2 n c s, y8_2 n c s, y8_2 n c s, y8_2 n c s, y8_2 n c s, y8_2 n c s, y8_2 n c s, y8_2 n c s, y8_0 n c s, y8_1 n c s, y8_1 n c s, y8_1 n c s, y8_2 n c s, y8_2 n c s, y8_2 n c s, y8_2 n c s, y8_2 n c s, y8_2 n c s, y8_0 n c s, y8_1 n c s, y8_1 n c s, y8_1 n c s, y8_1 n c s, y8_1 n c s, y8_1 n c s, y8_1 n c s, y8_1 n c s, y8_1 n c s, y8_2 n c s, y8_2 n c s, y8_2 n c s, y8_2 n c s, y8_2 n c s, y8_2 n c s, y8_2 n c s, y8_2 n c s, y8_2 n c s, y8_2 n c s, y8_2 n c s, y8_2 n c s, y8_2 n c s, y8_2 n c s, y8_2 n c s, y8_2 n c s, y8_2 n c s, y8_2 n c s, y8_2 n c s, y8_2 n c s, y8_2 n c s, y8_2 n c s, y8_2 n c s, y8_2 n c s, y8_2 n c s, y8_2 n c s, y8_2 n c s, y8_2 n c s, y8_2 n c s, y8_2 n c s, y8_2 n c s, y8_2 n c s, y8_2 n c s, y8_2 n c s, y8_2 n c s, y8_2 n c s, y8_2 n c s, y8_2 n c s, y8_2 n c s, y8_2 n c s, y8_2 n c s, y8_2 n c s, y8_2 n c s, y8_2 n c s, y8_2 n c s, y8_2 n c s, y8_2 n c s, y8_2 n c s, y8_2 n c s, y8_2 n c s, y8_2 n c s, y8_2 n c s, y8_2 n c s, y8_2 n c s, y8_2 n c s, y8_2 n c s, y8_2 n c s, y8_2 n c s, y8_2 n c s, y8_2 n c s, y8_2 n c s, y8_2 n c s, y8_2 n c s, y8_2 n c s, y8_2 n c s] := by kernel_rfl
theorem bn_8 (n : Nat) (c : NNI) (s : Src) (s0 : Src) (h1 : 1 <= n) (h2 : n <= 1000) : (fromW Tryz.prog GLv Γ152 0 cfV41 [.own 75 s0.cells] Tryz.f17 8 (st2 Tryz.f17.ntmps [.ref Tryz.f17.ntmps 0, .non, .non, .sl (Tryz.f17.ntmps + 1) (n)] [.vown 75 s.cells, .row (Nat.blt 0 (n)) 38 (n) K6x (c), .non])) = some (outS (.row (true) 38 (0 + (n - 1) + 1) K6x (catC (0 + (n - 1)) (catC 0 zeroC fun i => c (i + 1)) (listC [[c 0 0, c 0 1, c 0 2, c 0 3, c 0 4, c 0 5]]))) s) := by
 have c2 : decide ((1 : Int) <= (n : Int)) = true := decide_eq_true (by omega)
 have c3 : Nat.ble ((0 + (n - 1)) * 48) 140737488355328 = true := Nat.ble_eq_true_of_le (by omega)
 have c5 : decide ((0 : Int) < (n : Int)) = true := decide_eq_true (by omega)
 have c8 : Nat.ble ((0 + (n - 1) + 1) * 48) 140737488355328 = true := Nat.ble_eq_true_of_le (by omega)
 have y0 : y8_0 n c s = some (outS (.row (true) 38 (0 + (n - 1) + 1) K6x (catC (0 + (n - 1)) (catC 0 zeroC fun i => c (i + 1)) (listC [[c 0 0, c 0 1, c 0 2, c 0 3, c 0 4, c 0 5]]))) s) := by unfold y8_0; rw [c2, c3, c5, c8]; rfl
 have y1 : y8_1 n c s = some (outS (.row (true) 38 (0 + (n - 1) + 1) K6x (catC (0 + (n - 1)) (catC 0 zeroC fun i => c (i + 1)) (listC [[c 0 0, c 0 1, c 0 2, c 0 3, c 0 4, c 0 5]]))) s) := by unfold y8_1; rw [c2, c3, c5, c8]; rfl
 have y2 : y8_2 n c s = some (outS (.row (true) 38 (0 + (n - 1) + 1) K6x (catC (0 + (n - 1)) (catC 0 zeroC fun i => c (i + 1)) (listC [[c 0 0, c 0 1, c 0 2, c 0 3, c 0 4, c 0 5]]))) s) := by unfold y8_2; rw [c2, c3, c5, c8]; rfl
 rw [bn_8e, y0, y1, y2]
 exact allSame_rep 209
theorem bn_ev (s : Src) : evW Tryz.prog GLv Γ152 0 cfV41 Tryz.f17 [.own 75 s.cells] = cond (pB 100 s.p) (cond (pB 2 (plV s).2.p) (cond ((pickV 14 (plV s).2).1 == 0) (cond (Nat.ble (plV s).1.n 1000) (some (outS (pwRw (rvV (plV s).1.n (plV s).1.c)) (pickV 14 (plV s).2).2)) (none)) (cond ((pickV 14 (plV s).2).1 == 1) (cond (pB 36 (pickV 14 (plV s).2).2.p) (cond (Nat.ble (((plV s).1.n + 1) * 48) 140737488355328) (some (outS (.row (true) 38 ((plV s).1.n + 1) K6x (catC (plV s).1.n (plV s).1.c (listC [[(pointV (pickV 14 (plV s).2).2).1.x.a, (pointV (pickV 14 (plV s).2).2).1.x.b, (pointV (pickV 14 (plV s).2).2).1.x.k, (pointV (pickV 14 (plV s).2).2).1.y.a, (pointV (pickV 14 (plV s).2).2).1.y.b, (pointV (pickV 14 (plV s).2).2).1.y.k]]))) (pointV (pickV 14 (plV s).2).2).2)) (none)) (none)) (cond ((pickV 14 (plV s).2).1 == 2) ((fromW Tryz.prog GLv Γ152 0 cfV41 [.own 75 s.cells] Tryz.f17 8 (st2 Tryz.f17.ntmps [.ref Tryz.f17.ntmps 0, .non, .non, .sl (Tryz.f17.ntmps + 1) ((plV s).1.n)] [.vown 75 (pickV 14 (plV s).2).2.cells, .row (Nat.blt 0 ((plV s).1.n)) 38 ((plV s).1.n) K6x ((plV s).1.c), .non]))) (cond ((pickV 14 (plV s).2).1 == 3) (cond (Nat.ble ((0 + (plV s).1.n) * 48) 140737488355328) (cond (pB 2 (pickV 14 (plV s).2).2.p) (cond (pB 60 (pickV ((0 + (plV s).1.n : Nat) : Int) (pickV 14 (plV s).2).2).2.p) (cond (decide (0 <= (pickV ((0 + (plV s).1.n : Nat) : Int) (pickV 14 (plV s).2).2).1) && decide ((pickV ((0 + (plV s).1.n : Nat) : Int) (pickV 14 (plV s).2).2).1 < ((0 + (plV s).1.n : Nat) : Int))) (some (outS (.row (Nat.blt 0 (plV s).1.n || false) 38 (0 + (plV s).1.n) K6x (rowSet (catC 0 zeroC (plV s).1.c) (pickV ((0 + (plV s).1.n : Nat) : Int) (pickV 14 (plV s).2).2).1.toNat 0 [(bentPV (pickV ((0 + (plV s).1.n : Nat) : Int) (pickV 14 (plV s).2).2).2).1.x.a, (bentPV (pickV ((0 + (plV s).1.n : Nat) : Int) (pickV 14 (plV s).2).2).2).1.x.b, (bentPV (pickV ((0 + (plV s).1.n : Nat) : Int) (pickV 14 (plV s).2).2).2).1.x.k, (bentPV (pickV ((0 + (plV s).1.n : Nat) : Int) (pickV 14 (plV s).2).2).2).1.y.a, (bentPV (pickV ((0 + (plV s).1.n : Nat) : Int) (pickV 14 (plV s).2).2).2).1.y.b, (bentPV (pickV ((0 + (plV s).1.n : Nat) : Int) (pickV 14 (plV s).2).2).2).1.y.k])) (bentPV (pickV ((0 + (plV s).1.n : Nat) : Int) (pickV 14 (plV s).2).2).2).2)) (none)) (none)) (none)) (none)) (cond ((pickV 14 (plV s).2).1 == 4) (cond (decide ((2 : Int) <= ((plV s).1.n : Int))) (some (outS (.row (Nat.blt 0 (plV s).1.n) 38 (2) K6x ((plV s).1.c)) (pickV 14 (plV s).2).2)) (none)) (some (outS (.row (Nat.blt 0 (plV s).1.n) 38 ((plV s).1.n) K6x ((plV s).1.c)) (pickV 14 (plV s).2).2))))))) (none)) (none) := by kernel_rfl
theorem bn_dr : Dr 170 (fun s => evW Tryz.prog GLv Γ152 0 cfV41 Tryz.f17 [.own 75 s.cells]) pwRw (fun g => g.n <= 40) := fun s h => by
 obtain ⟨_, h1, ok⟩ := pl_dr.spec ⟨0, zeroC⟩ (pB_less (l := 100) h (by decide))
 have h1 : 0 <= (plV s).2.p /\ (plV s).2.p <= s.p + 100 := h1
 have ok : vpS (plV s).1.n (plV s).1.c = true := ok
 have p1 := pB_on h h1 (by decide)
 obtain ⟨n3, n16, _⟩ := vpS_in ok
 have h2 := pick_on 14 p1 (by decide)
 have p2 := pB_on p1 h2 (by decide)
 show ∃ r s', evW Tryz.prog GLv Γ152 0 cfV41 Tryz.f17 [.own 75 s.cells] = _ /\ _
 rw [bn_ev, pB_less h (show (100 : Int) <= 170 by decide), pB_less p1 (show (2 : Int) <= 170 - 100 by decide), cond_true, cond_true]
 generalize e2 : (pickV 14 (plV s).2).2 = s2 at h2 p2 ⊢
 generalize (pickV 14 (plV s).2).1 = k
 generalize (plV s).1.n = n at *
 generalize (plV s).1.c = c at *
 cases k == 0 with
 | true =>
  rw [cond_true, show Nat.ble n 1000 = true from Nat.ble_eq_true_of_le (by omega)]
  exact ⟨rvV n c, s2, rfl, by omega, by show (rvV n c).n <= 40; rw [(rv_sp (by omega)).2]; omega⟩
 | false =>
  rw [cond_false]
  cases k == 1 with
  | true =>
   obtain ⟨_, _, q1⟩ := point_on p2 (by decide)
   rw [cond_true, pB_less p2 (show (36 : Int) <= 170 - 100 - 2 by decide), show Nat.ble ((n + 1) * 48) 140737488355328 = true from Nat.ble_eq_true_of_le (by omega)]
   exact ⟨⟨true, n + 1, _⟩, (pointV s2).2, rfl, by omega, by show n + 1 <= 40; omega⟩
  | false =>
   rw [cond_false]
   cases k == 2 with
   | true =>
    rw [cond_true, bn_8 n c s2 s (by omega) (by omega)]
    exact ⟨⟨true, 0 + (n - 1) + 1, _⟩, s2, rfl, by omega, by show 0 + (n - 1) + 1 <= 40; omega⟩
   | false =>
    rw [cond_false]
    cases k == 3 with
    | true =>
     have q1 := pick_on ((0 + n : Nat) : Int) p2 (by decide)
     have p3 := pB_on p2 q1 (by decide)
     obtain ⟨_, q2, _⟩ := bentP_dr.spec ⟨z3, z3⟩ (pB_less (l := 60) p3 (by decide))
     have q2 : 0 <= (bentPV (pickV ((0 + n : Nat) : Int) s2).2).2.p /\ (bentPV (pickV ((0 + n : Nat) : Int) s2).2).2.p <= (pickV ((0 + n : Nat) : Int) s2).2.p + 60 := q2
     have q3 : 0 <= (pickV ((0 + n : Nat) : Int) s2).1 /\ (pickV ((0 + n : Nat) : Int) s2).1 < ((0 + n : Nat) : Int) := pick_in (by omega)
     rw [cond_true, show Nat.ble ((0 + n) * 48) 140737488355328 = true from Nat.ble_eq_true_of_le (by omega), pB_less p2 (show (2 : Int) <= 170 - 100 - 2 by decide), pB_less p3 (show (60 : Int) <= 170 - 100 - 2 - 2 by decide), decide_eq_true q3.1, decide_eq_true q3.2]
     exact ⟨⟨Nat.blt 0 n || false, 0 + n, _⟩, _, rfl, by omega, by show 0 + n <= 40; omega⟩
    | false =>
     rw [cond_false]
     cases k == 4 with
     | true =>
      rw [cond_true, decide_eq_true (show (2 : Int) <= (n : Int) by omega)]
      exact ⟨⟨Nat.blt 0 n, 2, c⟩, s2, rfl, by omega, by show 2 <= 40; omega⟩
     | false => exact ⟨⟨Nat.blt 0 n, n, c⟩, s2, rfl, by omega, by show n <= 40; omega⟩
noncomputable def bnV (s : Src) : Pw × Src := bn_dr.get ⟨false, 0, zeroC⟩ s
-- spec.l03Bent
noncomputable def s17 : Ctr := fun
 | [.own 75 [.arr s_n [.int .u8] s_c, iv s_p, .val (.int .u64 s_z)]] => some (pB 170 s_p, outS (pwRw (bnV (⟨s_n, s_c, s_p, s_z⟩ : Src)).1) (bnV (⟨s_n, s_c, s_p, s_z⟩ : Src)).2)
 | _ => none
theorem e17 (s_n : Nat) (s_c : NNI) (s_p : Int) (s_z : Int) (hp : (pB 170 s_p) = true) : evW Tryz.prog GLv Γ152 (0) (cfV41)  Tryz.f17 [.own 75 [.arr s_n [.int .u8] s_c, iv s_p, .val (.int .u64 s_z)]] = some (outS (pwRw (bnV (⟨s_n, s_c, s_p, s_z⟩ : Src)).1) (bnV (⟨s_n, s_c, s_p, s_z⟩ : Src)).2) := by
 exact (bn_dr.spec ⟨false, 0, zeroC⟩ (s := (⟨s_n, s_c, s_p, s_z⟩ : Src)) hp).1
theorem m17 : MT 17 s17 := by
 refine meetsW mix0 G152 Tryz.func17 (by kernel_rfl) (by kernel_rfl) s17 fun args x h => ?_
 unfold s17 at h
 split at h
 ·rename_i s_n s_c s_p s_z
  obtain ⟨hp, rfl⟩ := sm_inj h
  exact ⟨_, _, by kernel_rfl, e17 s_n s_c s_p s_z hp⟩
 ·cases h
noncomputable abbrev Γ153 : LC := (17, s17) :: Γ152
theorem G153 : SD Γ153 := G152.cons m17
-- spec.DrawMovePolygon
noncomputable def s5 : Ctr := fun
 | [.arr b_n [.int .u8] b_c] => some (true, .tup [(bentMV (srcOf b_n b_c)).1.av, .arr (bnV (bentMV (srcOf b_n b_c)).2).1.n K6x (bnV (bentMV (srcOf b_n b_c)).2).1.c])
 | _ => none
theorem e5 (b_n : Nat) (b_c : NNI) : evN Tryz.prog GLv Γ153 (0) []  Tryz.f5 [.arr b_n [.int .u8] b_c] = some (.tup [(bentMV (srcOf b_n b_c)).1.av, .arr (bnV (bentMV (srcOf b_n b_c)).2).1.n K6x (bnV (bentMV (srcOf b_n b_c)).2).1.c]) := by
 refine (show _ = cond (pB 70 (srcOf b_n b_c).p) (cond (pB 170 (bentMV (srcOf b_n b_c)).2.p) (some (.tup [(bentMV (srcOf b_n b_c)).1.av, .arr (bnV (bentMV (srcOf b_n b_c)).2).1.n K6x (bnV (bentMV (srcOf b_n b_c)).2).1.c])) none) none from by kernel_rfl).trans ?_
 obtain ⟨_, h1, _⟩ := bentM_dr.spec m0 (s := (srcOf b_n b_c)) rfl
 have h1 : 0 <= (bentMV (srcOf b_n b_c)).2.p /\ (bentMV (srcOf b_n b_c)).2.p <= (srcOf b_n b_c).p + 70 := h1
 rw [show pB 70 (srcOf b_n b_c).p = true from rfl, pB_less (pB_on (k := 70) (l := 400) (p := (srcOf b_n b_c).p) rfl h1 (by decide)) (show (170 : Int) <= 400 - 70 by decide)]
 rfl
theorem m5 : MT 5 s5 := by
 refine meetsN mix0 glv G153 Tryz.func5 (by kernel_rfl) (by kernel_rfl) s5 fun args x h => ?_
 unfold s5 at h
 split at h
 ·rename_i b_n b_c
  obtain ⟨hp, rfl⟩ := sm_inj h
  exact ⟨_, _, by kernel_rfl, e5 b_n b_c⟩
 ·cases h
noncomputable abbrev Γ154 : LC := (5, s5) :: Γ153
theorem G154 : SD Γ154 := G153.cons m5
theorem dm_le (b_n : Nat) (b_c : NNI) : (bnV (bentMV (srcOf b_n b_c)).2).1.n <= 40 := by
 obtain ⟨_, h1, _⟩ := bentM_dr.spec m0 (s := (srcOf b_n b_c)) rfl
 have h1 : 0 <= (bentMV (srcOf b_n b_c)).2.p /\ (bentMV (srcOf b_n b_c)).2.p <= (srcOf b_n b_c).p + 70 := h1
 exact (bn_dr.spec ⟨false, 0, zeroC⟩ (s := (bentMV (srcOf b_n b_c)).2) (pB_less (pB_on (k := 70) (l := 400) (p := (srcOf b_n b_c).p) rfl h1 (by decide)) (by decide))).2.2
end Go.Proofs.YtlcopddgplbdhaaGreatDoor
