/- Contracts of the program's functions, by the evaluator. -/
import Derived.Test.YtdildcdilhgdkaaGreatDoorL3
import Derived.Test.YtdildcdilhgdkaaGreatDoorPlF
namespace Go.Proofs.YtdildcdilhgdkaaGreatDoor
open Go.Ev
set_option linter.unusedVariables false
set_option linter.unusedSimpArgs false
set_option maxRecDepth 100000
structure Pgs where
  a : Pg
  b : Pg
  l : Ln
def Pgs.av (g : Pgs) : AV := .tup [g.a.av, g.b.av, g.l.av]
def PgsOk (o : Option AV) : Prop := ∃ g : Pgs, o = some g.av /\ g.a.ok = true /\ g.b.n <= 16 /\ g.l.valid = true
theorem pe_6 (b_n : Nat) (b_c : NNI) (a b : Pg) (s : Src) (ha : a.ok = true) (hb : b.n <= 16) (h : pB 20 s.p = true) : PgsOk (fromW Tryz.prog GLv Γ134 0 ⟨[], [(2, kx18), (3, kx19), (4, kx8), (6, kx8)], [], 0, []⟩ [.arr b_n [.int .u8] b_c] Tryz.f5 6 (stL Tryz.f5.ntmps [.non, .non, .non, .non, .own 27 [iv 0, iv 0, iv 0, iv 0], .ref 9 0, .arr a.n K6x a.c, .arr b.n K6x b.c, .non, .own 66 s.cells])) := by
  obtain ⟨_, v, _⟩ := line_on h (by decide)
  refine ⟨⟨a, b, (lineV s).1⟩, ?_, ha, hb, v⟩
  refine (show _ = cond (pB 20 s.p) (some (Pgs.av ⟨a, b, (lineV s).1⟩)) none from by kernel_rfl).trans ?_
  rw [h]
  rfl
theorem pe_4 (b_n : Nat) (b_c : NNI) (a b : Pg) (s : Src) (ha : a.ok = true) (hb : b.ok = true) (h : pB 60 s.p = true) : PgsOk (fromW Tryz.prog GLv Γ134 0 ⟨[], [(2, kx18), (3, kx19), (4, kx8), (6, kx8)], [], 0, []⟩ [.arr b_n [.int .u8] b_c] Tryz.f5 4 (stL Tryz.f5.ntmps [.non, .non, .non, .non, .own 27 [iv 0, iv 0, iv 0, iv 0], .ref 9 0, .arr a.n K6x a.c, .arr b.n K6x b.c, .non, .own 66 s.cells])) := by
  obtain ⟨h3, h16, _⟩ := vpS_in hb
  have h1 := pick_on 2 h (by decide)
  have p1 := pB_on h h1 (by decide)
  rw [show (fromW Tryz.prog GLv Γ134 0 ⟨[], [(2, kx18), (3, kx19), (4, kx8), (6, kx8)], [], 0, []⟩ [.arr b_n [.int .u8] b_c] Tryz.f5 4 (stL Tryz.f5.ntmps [.non, .non, .non, .non, .own 27 [iv 0, iv 0, iv 0, iv 0], .ref 9 0, .arr a.n K6x a.c, .arr b.n K6x b.c, .non, .own 66 s.cells])) = cond (pB 2 s.p) (cond (oneB 2 s) (cond (pB 36 (pickV 2 s).2.p && Nat.ble b.n 1000) (fromW Tryz.prog GLv Γ134 0 ⟨[], [(2, kx18), (3, kx19), (4, kx8), (6, kx8)], [], 0, []⟩ [.arr b_n [.int .u8] b_c] Tryz.f5 6 (stL Tryz.f5.ntmps [.non, .non, .non, .non, .own 27 [iv 0, iv 0, iv 0, iv 0], .ref 9 0, .arr a.n K6x a.c, .arr (mvdV (pickV 2 s).2 b).n K6x (mvdV (pickV 2 s).2 b).c, .non, .own 66 (drawV (drawV (pickV 2 s).2).2).2.cells])) none) (fromW Tryz.prog GLv Γ134 0 ⟨[], [(2, kx18), (3, kx19), (4, kx8), (6, kx8)], [], 0, []⟩ [.arr b_n [.int .u8] b_c] Tryz.f5 6 (stL Tryz.f5.ntmps [.non, .non, .non, .non, .own 27 [iv 0, iv 0, iv 0, iv 0], .ref 9 0, .arr a.n K6x a.c, .arr b.n K6x b.c, .non, .own 66 (pickV 2 s).2.cells]))) none from by kernel_rfl]
  rw [pB_less h (by decide), pB_less p1 (show (36 : Int) <= 60 - 2 by decide), show Nat.ble b.n 1000 = true from Nat.ble_eq_true_of_le (by omega)]
  simp only [cond_true, Bool.and_self]
  cases oneB 2 s with
  | false => exact pe_6 b_n b_c a b _ ha (by omega) (pB_less p1 (by decide))
  | true =>
    obtain ⟨_, hm⟩ := mvd_sp (s := (pickV 2 s).2) (a_n := b.n) (a_c := b.c) (pB_less p1 (by decide)) (by omega)
    obtain ⟨_, _, q1⟩ := drawV_on p1 (by decide)
    have p2 := pB_on p1 q1 (by decide)
    obtain ⟨_, _, q2⟩ := drawV_on p2 (by decide)
    have p3 := pB_on p2 q2 (by decide)
    refine pe_6 b_n b_c a _ _ ha ?_ (pB_less p3 (by decide))
    exact Nat.le_trans hm h16
theorem pe_3 (b_n : Nat) (b_c : NNI) (a : Pg) (s : Src) (ha : a.ok = true) (h : pB 160 s.p = true) : PgsOk (fromW Tryz.prog GLv Γ134 0 ⟨[], [(2, kx18), (3, kx19), (4, kx8), (6, kx8)], [], 0, []⟩ [.arr b_n [.int .u8] b_c] Tryz.f5 3 (stL Tryz.f5.ntmps [.non, .non, .non, .non, .own 27 [iv 0, iv 0, iv 0, iv 0], .ref 9 0, .arr a.n K6x a.c, .non, .non, .own 66 s.cells])) := by
  obtain ⟨_, h1, ok⟩ := pl_dr.spec ⟨0, zeroC⟩ (pB_less (l := 100) h (by decide))
  have p1 := pB_on h h1 (by decide)
  rw [show (fromW Tryz.prog GLv Γ134 0 ⟨[], [(2, kx18), (3, kx19), (4, kx8), (6, kx8)], [], 0, []⟩ [.arr b_n [.int .u8] b_c] Tryz.f5 3 (stL Tryz.f5.ntmps [.non, .non, .non, .non, .own 27 [iv 0, iv 0, iv 0, iv 0], .ref 9 0, .arr a.n K6x a.c, .non, .non, .own 66 s.cells])) = cond (pB 100 s.p) (fromW Tryz.prog GLv Γ134 0 ⟨[], [(2, kx18), (3, kx19), (4, kx8), (6, kx8)], [], 0, []⟩ [.arr b_n [.int .u8] b_c] Tryz.f5 4 (stL Tryz.f5.ntmps [.non, .non, .non, .non, .own 27 [iv 0, iv 0, iv 0, iv 0], .ref 9 0, .arr a.n K6x a.c, .arr (plV s).1.n K6x (plV s).1.c, .non, .own 66 (plV s).2.cells])) none from by kernel_rfl, pB_less h (by decide)]
  exact pe_4 b_n b_c a _ _ ha ok p1
theorem pe_2 (b_n : Nat) (b_c : NNI) (s : Src) (h : pB 260 s.p = true) : PgsOk (fromW Tryz.prog GLv Γ134 0 ⟨[], [(2, kx18), (3, kx19), (4, kx8), (6, kx8)], [], 0, []⟩ [.arr b_n [.int .u8] b_c] Tryz.f5 2 (stL Tryz.f5.ntmps [.non, .non, .non, .non, .own 27 [iv 0, iv 0, iv 0, iv 0], .ref 9 0, .non, .non, .non, .own 66 s.cells])) := by
  obtain ⟨_, h1, ok⟩ := pl_dr.spec ⟨0, zeroC⟩ (pB_less (l := 100) h (by decide))
  have p1 := pB_on h h1 (by decide)
  rw [show (fromW Tryz.prog GLv Γ134 0 ⟨[], [(2, kx18), (3, kx19), (4, kx8), (6, kx8)], [], 0, []⟩ [.arr b_n [.int .u8] b_c] Tryz.f5 2 (stL Tryz.f5.ntmps [.non, .non, .non, .non, .own 27 [iv 0, iv 0, iv 0, iv 0], .ref 9 0, .non, .non, .non, .own 66 s.cells])) = cond (pB 100 s.p) (fromW Tryz.prog GLv Γ134 0 ⟨[], [(2, kx18), (3, kx19), (4, kx8), (6, kx8)], [], 0, []⟩ [.arr b_n [.int .u8] b_c] Tryz.f5 3 (stL Tryz.f5.ntmps [.non, .non, .non, .non, .own 27 [iv 0, iv 0, iv 0, iv 0], .ref 9 0, .arr (plV s).1.n K6x (plV s).1.c, .non, .non, .own 66 (plV s).2.cells])) none from by kernel_rfl, pB_less h (by decide)]
  exact pe_3 b_n b_c _ _ ok p1
theorem pe_0 (b_n : Nat) (b_c : NNI) : PgsOk (evW Tryz.prog GLv Γ134 0 ⟨[], [(2, kx18), (3, kx19), (4, kx8), (6, kx8)], [], 0, []⟩ Tryz.f5 [.arr b_n [.int .u8] b_c]) := by
  rw [show evW Tryz.prog GLv Γ134 0 ⟨[], [(2, kx18), (3, kx19), (4, kx8), (6, kx8)], [], 0, []⟩ Tryz.f5 [.arr b_n [.int .u8] b_c] = fromW Tryz.prog GLv Γ134 0 ⟨[], [(2, kx18), (3, kx19), (4, kx8), (6, kx8)], [], 0, []⟩ [.arr b_n [.int .u8] b_c] Tryz.f5 2 (stL Tryz.f5.ntmps [.non, .non, .non, .non, .own 27 [iv 0, iv 0, iv 0, iv 0], .ref 9 0, .non, .non, .non, .own 66 (srcOf b_n b_c).cells]) from by kernel_rfl]
  exact pe_2 b_n b_c _ rfl
noncomputable def pgV (b_n : Nat) (b_c : NNI) : Pgs := Classical.choose (pe_0 b_n b_c)
theorem pg_sp (b_n : Nat) (b_c : NNI) : evW Tryz.prog GLv Γ134 0 ⟨[], [(2, kx18), (3, kx19), (4, kx8), (6, kx8)], [], 0, []⟩ Tryz.f5 [.arr b_n [.int .u8] b_c] = some (pgV b_n b_c).av /\ (pgV b_n b_c).a.ok = true /\ (pgV b_n b_c).b.n <= 16 /\ (pgV b_n b_c).l.valid = true := Classical.choose_spec (pe_0 b_n b_c)
-- spec.E8Polygons
noncomputable def s5 : Ctr := fun
  | [.arr b_n [.int .u8] b_c] => some (true, (pgV b_n b_c).av)
  | _ => none
theorem e5 (b_n : Nat) (b_c : NNI) : evW Tryz.prog GLv Γ134 (0) (⟨[], [(2, kx18), (3, kx19), (4, kx8), (6, kx8)], [], 0, []⟩)  Tryz.f5 [.arr b_n [.int .u8] b_c] = some ((pgV b_n b_c).av) := by
  exact (pg_sp b_n b_c).1
theorem m5 : Meets Tryz.prog GLv 5 s5 := by
  refine meetsW mix0 G134 Tryz.func5 (by kernel_rfl) (by kernel_rfl) s5 fun args x h => ?_
  unfold s5 at h
  split at h
  . rename_i b_n b_c
    simp only [Option.some.injEq, Prod.mk.injEq] at h
    obtain ⟨hp, rfl⟩ := h
    exact ⟨_, _, by kernel_rfl, e5 b_n b_c⟩
  . cases h
noncomputable abbrev Γ135 : List (Nat × Ctr) := (5, s5) :: Γ134
theorem G135 : Sound Tryz.prog GLv Γ135 := G134.cons m5
end Go.Proofs.YtdildcdilhgdkaaGreatDoor
