/- Contracts of the program's functions, by the evaluator. -/
import Derived.Test.YtkmeacninbnmaaaDoorC1
import Derived.Test.YtkmeacninbnmaaaDoorPlB
namespace Go.Proofs.YtkmeacninbnmaaaDoor
open Go.Ev
set_option linter.unusedVariables false
set_option linter.unusedSimpArgs false
set_option maxRecDepth 100000

-- spec.l00From
def s27 : Ctr := fun
  | [.arr b_n [.int .u8] b_c] => some (true, .own 89 (⟨b_n, b_c, 0, 0⟩ : Src).cells)
  | _ => none

theorem e27 (b_n : Nat) (b_c : Nat → Nat → Int) : evN Tryd.prog GLv Γ17 (0) []  Tryd.f27 [.arr b_n [.int .u8] b_c] = some (.own 89 (⟨b_n, b_c, 0, 0⟩ : Src).cells) := by
  kernel_rfl
theorem m27 : Meets Tryd.prog GLv 27 s27 := by
  refine meetsN mix0 glv G17 Tryd.func27 (by kernel_rfl) (by kernel_rfl) s27 fun args x h => ?_
  unfold s27 at h
  split at h
  · rename_i b_n b_c
    simp only [Option.some.injEq, Prod.mk.injEq] at h
    obtain ⟨hp, rfl⟩ := h
    exact ⟨_, _, by kernel_rfl, e27 b_n b_c⟩
  · cases h
abbrev Γ18 : List (Nat × Ctr) := (27, s27) :: Γ17
theorem G18 : Sound Tryd.prog GLv Γ18 := G17.cons m27

-- (*spec.l00Src).next
def s84 : Ctr := fun
  | [.own 89 [.arr s_n [.int .u8] s_c, .val (.int .i64 s_p), .val (.int .u64 s_z)]] => some (pB 1 (s_p), outS (iv (nxt (⟨s_n, s_c, s_p, s_z⟩ : Src)).1) (nxt (⟨s_n, s_c, s_p, s_z⟩ : Src)).2)
  | _ => none

theorem e84 (s_n : Nat) (s_c : Nat → Nat → Int) (s_p : Int) (s_z : Int) (hp : (pB 1 (s_p)) = true) : evN Tryd.prog GLv Γ18 (0) []  Tryd.f84 [.own 89 [.arr s_n [.int .u8] s_c, .val (.int .i64 s_p), .val (.int .u64 s_z)]] = some (outS (iv (nxt (⟨s_n, s_c, s_p, s_z⟩ : Src)).1) (nxt (⟨s_n, s_c, s_p, s_z⟩ : Src)).2) := by
  refine (show _ = cond (decide (s_p < (s_n : Int))) (cond (decide (0 ≤ s_p) && decide (s_p < (s_n : Int))) (stp (wr (s_c s_p.toNat 0 % 256)) (⟨s_n, s_c, s_p, s_z⟩ : Src)) none) (stp 0 (⟨s_n, s_c, s_p, s_z⟩ : Src)) from by kernel_rfl).trans ?_
  have h0 := (pB_iff.1 hp).1
  have e : ∀ b, nxB (⟨s_n, s_c, s_p, s_z⟩ : Src) = b → stp b (⟨s_n, s_c, s_p, s_z⟩ : Src) = some (outS (iv (nxt (⟨s_n, s_c, s_p, s_z⟩ : Src)).1) (nxt (⟨s_n, s_c, s_p, s_z⟩ : Src)).2) := fun b h => by
    unfold stp nxt
    rw [h]
    cases decide (wr (s_p + 1) ≤ (s_n : Int)) <;> rfl
  cases h : decide (s_p < (s_n : Int)) with
  | false => exact e 0 (by unfold nxB; simp only [h, cond_false])
  | true =>
    simp only [show decide (0 ≤ s_p) = true by simpa using h0, Bool.and_self, cond_true]
    exact e _ (by unfold nxB; simp only [h, cond_true])
theorem m84 : Meets Tryd.prog GLv 84 s84 := by
  refine meetsN mix0 glv G18 Tryd.func84 (by kernel_rfl) (by kernel_rfl) s84 fun args x h => ?_
  unfold s84 at h
  split at h
  · rename_i s_n s_c s_p s_z
    simp only [Option.some.injEq, Prod.mk.injEq] at h
    obtain ⟨hp, rfl⟩ := h
    exact ⟨_, _, by kernel_rfl, e84 s_n s_c s_p s_z hp⟩
  · cases h
abbrev Γ19 : List (Nat × Ctr) := (84, s84) :: Γ18
theorem G19 : Sound Tryd.prog GLv Γ19 := G18.cons m84

-- (*spec.l00Src).pick
def s64 : Ctr := fun
  | [.own 89 [.arr s_n [.int .u8] s_c, .val (.int .i64 s_p), .val (.int .u64 s_z)], .val (.int .i64 m)] => some (pB 2 (s_p), .out (iv (pickV m (⟨s_n, s_c, s_p, s_z⟩ : Src)).1) [.agg (pickV m (⟨s_n, s_c, s_p, s_z⟩ : Src)).2.cells, .non])
  | _ => none

theorem e64 (s_n : Nat) (s_c : Nat → Nat → Int) (s_p : Int) (s_z : Int) (m : Int) (hp : (pB 2 (s_p)) = true) : evN Tryd.prog GLv Γ19 (0) []  Tryd.f64 [.own 89 [.arr s_n [.int .u8] s_c, .val (.int .i64 s_p), .val (.int .u64 s_z)], .val (.int .i64 m)] = some (.out (iv (pickV m (⟨s_n, s_c, s_p, s_z⟩ : Src)).1) [.agg (pickV m (⟨s_n, s_c, s_p, s_z⟩ : Src)).2.cells, .non]) := by
  refine (show _ = cond (decide (m ≤ 1)) (some (.out (iv 0) [.agg (⟨s_n, s_c, s_p, s_z⟩ : Src).cells, .non])) (cond (pB 1 (s_p)) (cond (decide (m > 200)) (cond (pB 1 ((nxt (⟨s_n, s_c, s_p, s_z⟩ : Src)).2.p)) (cond (!(m == 0)) (some (.out (iv ((wr (wr ((nxt (⟨s_n, s_c, s_p, s_z⟩ : Src)).1 * 256) + (nxt (nxt (⟨s_n, s_c, s_p, s_z⟩ : Src)).2).1)).tmod m)) [.agg (nxt (nxt (⟨s_n, s_c, s_p, s_z⟩ : Src)).2).2.cells, .non])) none) none)
    (cond (!(m == 0)) (some (.out (iv ((nxt (⟨s_n, s_c, s_p, s_z⟩ : Src)).1.tmod m)) [.agg (nxt (⟨s_n, s_c, s_p, s_z⟩ : Src)).2.cells, .non])) none)) none) from by kernel_rfl).trans ?_
  have h1 := pB_less hp (show (1 : Int) ≤ 2 by decide)
  obtain ⟨_, h2⟩ := nxt_p (s := (⟨s_n, s_c, s_p, s_z⟩ : Src)) hp (by decide)
  unfold pickV
  cases e : decide (m ≤ 1) with
  | true => rfl
  | false =>
    have hm : (!(m == 0)) = true := by simp at e ⊢; omega
    rw [h1, hm]
    simp only [cond_true, cond_false]
    cases decide (m > 200) with
    | false => rfl
    | true =>
      rw [show pB 1 ((nxt (⟨s_n, s_c, s_p, s_z⟩ : Src)).2.p) = true from h2]
      rfl
theorem m64 : Meets Tryd.prog GLv 64 s64 := by
  refine meetsN mix0 glv G19 Tryd.func64 (by kernel_rfl) (by kernel_rfl) s64 fun args x h => ?_
  unfold s64 at h
  split at h
  · rename_i s_n s_c s_p s_z m
    simp only [Option.some.injEq, Prod.mk.injEq] at h
    obtain ⟨hp, rfl⟩ := h
    exact ⟨_, _, by kernel_rfl, e64 s_n s_c s_p s_z m hp⟩
  · cases h
abbrev Γ20 : List (Nat × Ctr) := (64, s64) :: Γ19
theorem G20 : Sound Tryd.prog GLv Γ20 := G19.cons m64

-- (*spec.l00Src).one
def s65 : Ctr := fun
  | [.own 89 [.arr s_n [.int .u8] s_c, .val (.int .i64 s_p), .val (.int .u64 s_z)], .val (.int .i64 m)] => some (pB 2 (s_p), .out (bv ((pickV m (⟨s_n, s_c, s_p, s_z⟩ : Src)).1 == 0)) [.agg (pickV m (⟨s_n, s_c, s_p, s_z⟩ : Src)).2.cells, .non])
  | _ => none

theorem e65 (s_n : Nat) (s_c : Nat → Nat → Int) (s_p : Int) (s_z : Int) (m : Int) (hp : (pB 2 (s_p)) = true) : evN Tryd.prog GLv Γ20 (0) []  Tryd.f65 [.own 89 [.arr s_n [.int .u8] s_c, .val (.int .i64 s_p), .val (.int .u64 s_z)], .val (.int .i64 m)] = some (.out (bv ((pickV m (⟨s_n, s_c, s_p, s_z⟩ : Src)).1 == 0)) [.agg (pickV m (⟨s_n, s_c, s_p, s_z⟩ : Src)).2.cells, .non]) := by
  exact (show _ = cond (pB 2 (s_p)) _ none from by kernel_rfl).trans (by rw [hp]; rfl)
theorem m65 : Meets Tryd.prog GLv 65 s65 := by
  refine meetsN mix0 glv G20 Tryd.func65 (by kernel_rfl) (by kernel_rfl) s65 fun args x h => ?_
  unfold s65 at h
  split at h
  · rename_i s_n s_c s_p s_z m
    simp only [Option.some.injEq, Prod.mk.injEq] at h
    obtain ⟨hp, rfl⟩ := h
    exact ⟨_, _, by kernel_rfl, e65 s_n s_c s_p s_z m hp⟩
  · cases h
abbrev Γ21 : List (Nat × Ctr) := (65, s65) :: Γ20
theorem G21 : Sound Tryd.prog GLv Γ21 := G20.cons m65

-- (*spec.l00Src).among
def s66 : Ctr := fun
  | [.own 89 [.arr s_n [.int .u8] s_c, .val (.int .i64 s_p), .val (.int .u64 s_z)], .arr a_n [.int .i64] a_c] => some (pB 2 (s_p) && Nat.ble 1 a_n, .out (iv (a_c (pickV (a_n : Int) (⟨s_n, s_c, s_p, s_z⟩ : Src)).1.toNat 0)) [.agg (pickV (a_n : Int) (⟨s_n, s_c, s_p, s_z⟩ : Src)).2.cells, .non])
  | _ => none

theorem e66 (s_n : Nat) (s_c : Nat → Nat → Int) (s_p : Int) (s_z : Int) (a_n : Nat) (a_c : Nat → Nat → Int) (hp : (pB 2 (s_p) && Nat.ble 1 a_n) = true) : evN Tryd.prog GLv Γ21 (0) []  Tryd.f66 [.own 89 [.arr s_n [.int .u8] s_c, .val (.int .i64 s_p), .val (.int .u64 s_z)], .arr a_n [.int .i64] a_c] = some (.out (iv (a_c (pickV (a_n : Int) (⟨s_n, s_c, s_p, s_z⟩ : Src)).1.toNat 0)) [.agg (pickV (a_n : Int) (⟨s_n, s_c, s_p, s_z⟩ : Src)).2.cells, .non]) := by
  simp only [Bool.and_eq_true] at hp
  obtain ⟨h1, h2⟩ := hp
  have g1 := Nat.le_of_ble_eq_true h2
  refine (show _ = cond (pB 2 (s_p)) (cond (decide (0 ≤ (pickV (a_n : Int) (⟨s_n, s_c, s_p, s_z⟩ : Src)).1) && decide ((pickV (a_n : Int) (⟨s_n, s_c, s_p, s_z⟩ : Src)).1 < (a_n : Int))) (some (.out (iv (a_c (pickV (a_n : Int) (⟨s_n, s_c, s_p, s_z⟩ : Src)).1.toNat 0)) [.agg (pickV (a_n : Int) (⟨s_n, s_c, s_p, s_z⟩ : Src)).2.cells, .non])) none) none from by kernel_rfl).trans ?_
  obtain ⟨f1, f2⟩ := pick_in (s := (⟨s_n, s_c, s_p, s_z⟩ : Src)) (m := (a_n : Int)) (by omega)
  rw [h1, show decide (0 ≤ (pickV (a_n : Int) (⟨s_n, s_c, s_p, s_z⟩ : Src)).1) = true by simpa using f1, show decide ((pickV (a_n : Int) (⟨s_n, s_c, s_p, s_z⟩ : Src)).1 < (a_n : Int)) = true by simpa using f2]
  rfl
theorem m66 : Meets Tryd.prog GLv 66 s66 := by
  refine meetsN mix0 glv G21 Tryd.func66 (by kernel_rfl) (by kernel_rfl) s66 fun args x h => ?_
  unfold s66 at h
  split at h
  · rename_i s_n s_c s_p s_z a_n a_c
    simp only [Option.some.injEq, Prod.mk.injEq] at h
    obtain ⟨hp, rfl⟩ := h
    exact ⟨_, _, by kernel_rfl, e66 s_n s_c s_p s_z a_n a_c hp⟩
  · cases h
abbrev Γ22 : List (Nat × Ctr) := (66, s66) :: Γ21
theorem G22 : Sound Tryd.prog GLv Γ22 := G21.cons m66

-- spec.l01Draw
def s28 : Ctr := fun
  | [.own 89 [.arr s_n [.int .u8] s_c, .val (.int .i64 s_p), .val (.int .u64 s_z)]] => some (pB 18 s_p, outS (drawV (⟨s_n, s_c, s_p, s_z⟩ : Src)).1.av (drawV (⟨s_n, s_c, s_p, s_z⟩ : Src)).2)
  | _ => none

theorem e28 (s_n : Nat) (s_c : Nat → Nat → Int) (s_p : Int) (s_z : Int) (hp : (pB 18 s_p) = true) : evN Tryd.prog GLv Γ22 (0) []  Tryd.f28 [.own 89 [.arr s_n [.int .u8] s_c, .val (.int .i64 s_p), .val (.int .u64 s_z)]] = some (outS (drawV (⟨s_n, s_c, s_p, s_z⟩ : Src)).1.av (drawV (⟨s_n, s_c, s_p, s_z⟩ : Src)).2) := by
  exact (show _ = F0 (⟨s_n, s_c, s_p, s_z⟩ : Src) from by kernel_rfl).trans (draw0 (q := 0) (s := (⟨s_n, s_c, s_p, s_z⟩ : Src)) (by decide) hp).1
theorem m28 : Meets Tryd.prog GLv 28 s28 := by
  refine meetsN mix0 glv G22 Tryd.func28 (by kernel_rfl) (by kernel_rfl) s28 fun args x h => ?_
  unfold s28 at h
  split at h
  · rename_i s_n s_c s_p s_z
    simp only [Option.some.injEq, Prod.mk.injEq] at h
    obtain ⟨hp, rfl⟩ := h
    exact ⟨_, _, by kernel_rfl, e28 s_n s_c s_p s_z hp⟩
  · cases h
abbrev Γ23 : List (Nat × Ctr) := (28, s28) :: Γ22
theorem G23 : Sound Tryd.prog GLv Γ23 := G22.cons m28

-- spec.E8Nums
def s10 : Ctr := fun
  | [.arr b_n [.int .u8] b_c] => some (true, .tup [(e8x (srcOf b_n b_c)).av, (e8y (srcOf b_n b_c)).av, (e8z (srcOf b_n b_c)).av])
  | _ => none

theorem e10 (b_n : Nat) (b_c : Nat → Nat → Int) : evN Tryd.prog GLv Γ23 (0) []  Tryd.f10 [.arr b_n [.int .u8] b_c] = some (.tup [(e8x (srcOf b_n b_c)).av, (e8y (srcOf b_n b_c)).av, (e8z (srcOf b_n b_c)).av]) := by
  refine (show _ = cond (pB 18 (srcOf b_n b_c).p) (cond (pB 18 (drawV (srcOf b_n b_c)).2.p) (cond (pB 18 (drawV (drawV (srcOf b_n b_c)).2).2.p) (some (.tup [(e8x (srcOf b_n b_c)).av, (e8y (srcOf b_n b_c)).av, (e8z (srcOf b_n b_c)).av])) none) none) none from by kernel_rfl).trans ?_
  obtain ⟨_, h1, h2, h3⟩ := e8_ok (s := (srcOf b_n b_c)) rfl
  rw [h1, h2, h3]
  rfl
theorem m10 : Meets Tryd.prog GLv 10 s10 := by
  refine meetsN mix0 glv G23 Tryd.func10 (by kernel_rfl) (by kernel_rfl) s10 fun args x h => ?_
  unfold s10 at h
  split at h
  · rename_i b_n b_c
    simp only [Option.some.injEq, Prod.mk.injEq] at h
    obtain ⟨hp, rfl⟩ := h
    exact ⟨_, _, by kernel_rfl, e10 b_n b_c⟩
  · cases h
abbrev Γ24 : List (Nat × Ctr) := (10, s10) :: Γ23
theorem G24 : Sound Tryd.prog GLv Γ24 := G23.cons m10

end Go.Proofs.YtkmeacninbnmaaaDoor
