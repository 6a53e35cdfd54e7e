/- Contracts of the program's functions, by the evaluator. -/
import Derived.Test.YtigmgpblnoecpaaC1
import Derived.Test.YtigmgpblnoecpaaSrcB
namespace Go.Proofs.Ytigmgpblnoecpaa
open Go.Ev
set_option linter.unusedVariables false
set_option linter.unusedSimpArgs false
set_option maxRecDepth 100000

-- spec.l00From
def s27 : Ctr := fun
  | [.arr b_n [.int .u8] b_c] => some (true, .own 83 (⟨b_n, b_c, 0, 0⟩ : Src).cells)
  | _ => none

theorem e27 (b_n : Nat) (b_c : Nat → Nat → Int) : evN Try.prog GL0 Γ27 (0) [] Try.f27 [.arr b_n [.int .u8] b_c] = some (.own 83 (⟨b_n, b_c, 0, 0⟩ : Src).cells) := by
  kernel_rfl
theorem m27 : Meets Try.prog GL0 27 s27 := by
  refine meetsN mix0 gl0 G27 Try.func27 (by kernel_rfl) (by kernel_rfl) s27 fun args x h => ?_
  unfold s27 at h
  split at h
  · rename_i b_n b_c
    simp only [Option.some.injEq, Prod.mk.injEq] at h
    obtain ⟨hp, rfl⟩ := h
    exact ⟨_, _, by kernel_rfl, e27 b_n b_c⟩
  · cases h
abbrev Γ28 : List (Nat × Ctr) := (27, s27) :: Γ27
theorem G28 : Sound Try.prog GL0 Γ28 := G27.cons m27

-- (*spec.l00Src).next
def s76 : Ctr := fun
  | [.own 83 [.arr s_n [.int .u8] s_c, .val (.int .i64 s_p), .val (.int .u64 s_z)]] => some (pB 1 (s_p), outS (iv (nxt (⟨s_n, s_c, s_p, s_z⟩ : Src)).1) (nxt (⟨s_n, s_c, s_p, s_z⟩ : Src)).2)
  | _ => none

theorem e76 (s_n : Nat) (s_c : Nat → Nat → Int) (s_p : Int) (s_z : Int) (hp : (pB 1 (s_p)) = true) : evN Try.prog GL0 Γ28 (0) [] Try.f76 [.own 83 [.arr s_n [.int .u8] s_c, .val (.int .i64 s_p), .val (.int .u64 s_z)]] = some (outS (iv (nxt (⟨s_n, s_c, s_p, s_z⟩ : Src)).1) (nxt (⟨s_n, s_c, s_p, s_z⟩ : Src)).2) := by
  refine (show _ = cond (decide (s_p < (s_n : Int))) (cond (decide (0 ≤ s_p) && decide (s_p < (s_n : Int))) (stp (wr (s_c s_p.toNat 0 % 256)) (⟨s_n, s_c, s_p, s_z⟩ : Src)) none) (stp 0 (⟨s_n, s_c, s_p, s_z⟩ : Src)) from by kernel_rfl).trans ?_
  have h0 := (pB_iff.1 hp).1
  have e : ∀ b, nxB (⟨s_n, s_c, s_p, s_z⟩ : Src) = b → stp b (⟨s_n, s_c, s_p, s_z⟩ : Src) = some (outS (iv (nxt (⟨s_n, s_c, s_p, s_z⟩ : Src)).1) (nxt (⟨s_n, s_c, s_p, s_z⟩ : Src)).2) := fun b h => by
    unfold stp nxt
    rw [h]
    cases decide (wr (s_p + 1) ≤ (s_n : Int)) <;> rfl
  cases h : decide (s_p < (s_n : Int)) with
  | false => exact e 0 (by unfold nxB; simp only [h, cond_false])
  | true =>
    simp only [show decide (0 ≤ s_p) = true by simpa using h0, Bool.and_self, cond_true]
    exact e _ (by unfold nxB; simp only [h, cond_true])
theorem m76 : Meets Try.prog GL0 76 s76 := by
  refine meetsN mix0 gl0 G28 Try.func76 (by kernel_rfl) (by kernel_rfl) s76 fun args x h => ?_
  unfold s76 at h
  split at h
  · rename_i s_n s_c s_p s_z
    simp only [Option.some.injEq, Prod.mk.injEq] at h
    obtain ⟨hp, rfl⟩ := h
    exact ⟨_, _, by kernel_rfl, e76 s_n s_c s_p s_z hp⟩
  · cases h
abbrev Γ29 : List (Nat × Ctr) := (76, s76) :: Γ28
theorem G29 : Sound Try.prog GL0 Γ29 := G28.cons m76

-- (*spec.l00Src).pick
def s59 : Ctr := fun
  | [.own 83 [.arr s_n [.int .u8] s_c, .val (.int .i64 s_p), .val (.int .u64 s_z)], .val (.int .i64 m)] => some (pB 2 (s_p), .out (iv (pickV m (⟨s_n, s_c, s_p, s_z⟩ : Src)).1) [.agg (pickV m (⟨s_n, s_c, s_p, s_z⟩ : Src)).2.cells, .non])
  | _ => none

theorem e59 (s_n : Nat) (s_c : Nat → Nat → Int) (s_p : Int) (s_z : Int) (m : Int) (hp : (pB 2 (s_p)) = true) : evN Try.prog GL0 Γ29 (0) [] Try.f59 [.own 83 [.arr s_n [.int .u8] s_c, .val (.int .i64 s_p), .val (.int .u64 s_z)], .val (.int .i64 m)] = some (.out (iv (pickV m (⟨s_n, s_c, s_p, s_z⟩ : Src)).1) [.agg (pickV m (⟨s_n, s_c, s_p, s_z⟩ : Src)).2.cells, .non]) := by
  refine (show _ = cond (decide (m ≤ 1)) (some (.out (iv 0) [.agg (⟨s_n, s_c, s_p, s_z⟩ : Src).cells, .non])) (cond (pB 1 (s_p)) (cond (decide (m > 200)) (cond (pB 1 ((nxt (⟨s_n, s_c, s_p, s_z⟩ : Src)).2.p)) (cond (!(m == 0)) (some (.out (iv ((wr (wr ((nxt (⟨s_n, s_c, s_p, s_z⟩ : Src)).1 * 256) + (nxt (nxt (⟨s_n, s_c, s_p, s_z⟩ : Src)).2).1)).tmod m)) [.agg (nxt (nxt (⟨s_n, s_c, s_p, s_z⟩ : Src)).2).2.cells, .non])) none) none)
    (cond (!(m == 0)) (some (.out (iv ((nxt (⟨s_n, s_c, s_p, s_z⟩ : Src)).1.tmod m)) [.agg (nxt (⟨s_n, s_c, s_p, s_z⟩ : Src)).2.cells, .non])) none)) none) from by kernel_rfl).trans ?_
  have h1 := pB_less hp (show (1 : Int) ≤ 2 by decide)
  obtain ⟨_, h2⟩ := nxt_p (s := (⟨s_n, s_c, s_p, s_z⟩ : Src)) hp (by decide)
  unfold pickV
  cases e : decide (m ≤ 1) with
  | true => rfl
  | false =>
    have hm : (!(m == 0)) = true := by simp at e ⊢; omega
    rw [h1, hm]
    simp only [cond_true, cond_false]
    cases decide (m > 200) with
    | false => rfl
    | true =>
      rw [show pB 1 ((nxt (⟨s_n, s_c, s_p, s_z⟩ : Src)).2.p) = true from h2]
      rfl
theorem m59 : Meets Try.prog GL0 59 s59 := by
  refine meetsN mix0 gl0 G29 Try.func59 (by kernel_rfl) (by kernel_rfl) s59 fun args x h => ?_
  unfold s59 at h
  split at h
  · rename_i s_n s_c s_p s_z m
    simp only [Option.some.injEq, Prod.mk.injEq] at h
    obtain ⟨hp, rfl⟩ := h
    exact ⟨_, _, by kernel_rfl, e59 s_n s_c s_p s_z m hp⟩
  · cases h
abbrev Γ30 : List (Nat × Ctr) := (59, s59) :: Γ29
theorem G30 : Sound Try.prog GL0 Γ30 := G29.cons m59

-- (*spec.l00Src).one
def s60 : Ctr := fun
  | [.own 83 [.arr s_n [.int .u8] s_c, .val (.int .i64 s_p), .val (.int .u64 s_z)], .val (.int .i64 m)] => some (pB 2 (s_p), .out (bv ((pickV m (⟨s_n, s_c, s_p, s_z⟩ : Src)).1 == 0)) [.agg (pickV m (⟨s_n, s_c, s_p, s_z⟩ : Src)).2.cells, .non])
  | _ => none

theorem e60 (s_n : Nat) (s_c : Nat → Nat → Int) (s_p : Int) (s_z : Int) (m : Int) (hp : (pB 2 (s_p)) = true) : evN Try.prog GL0 Γ30 (0) [] Try.f60 [.own 83 [.arr s_n [.int .u8] s_c, .val (.int .i64 s_p), .val (.int .u64 s_z)], .val (.int .i64 m)] = some (.out (bv ((pickV m (⟨s_n, s_c, s_p, s_z⟩ : Src)).1 == 0)) [.agg (pickV m (⟨s_n, s_c, s_p, s_z⟩ : Src)).2.cells, .non]) := by
  exact (show _ = cond (pB 2 (s_p)) _ none from by kernel_rfl).trans (by rw [hp]; rfl)
theorem m60 : Meets Try.prog GL0 60 s60 := by
  refine meetsN mix0 gl0 G30 Try.func60 (by kernel_rfl) (by kernel_rfl) s60 fun args x h => ?_
  unfold s60 at h
  split at h
  · rename_i s_n s_c s_p s_z m
    simp only [Option.some.injEq, Prod.mk.injEq] at h
    obtain ⟨hp, rfl⟩ := h
    exact ⟨_, _, by kernel_rfl, e60 s_n s_c s_p s_z m hp⟩
  · cases h
abbrev Γ31 : List (Nat × Ctr) := (60, s60) :: Γ30
theorem G31 : Sound Try.prog GL0 Γ31 := G30.cons m60

-- (*spec.l00Src).among
def s61 : Ctr := fun
  | [.own 83 [.arr s_n [.int .u8] s_c, .val (.int .i64 s_p), .val (.int .u64 s_z)], .arr a_n [.int .i64] a_c] => some (pB 2 (s_p) && Nat.ble 1 a_n, .out (iv (a_c (pickV (a_n : Int) (⟨s_n, s_c, s_p, s_z⟩ : Src)).1.toNat 0)) [.agg (pickV (a_n : Int) (⟨s_n, s_c, s_p, s_z⟩ : Src)).2.cells, .non])
  | _ => none

theorem e61 (s_n : Nat) (s_c : Nat → Nat → Int) (s_p : Int) (s_z : Int) (a_n : Nat) (a_c : Nat → Nat → Int) (hp : (pB 2 (s_p) && Nat.ble 1 a_n) = true) : evN Try.prog GL0 Γ31 (0) [] Try.f61 [.own 83 [.arr s_n [.int .u8] s_c, .val (.int .i64 s_p), .val (.int .u64 s_z)], .arr a_n [.int .i64] a_c] = some (.out (iv (a_c (pickV (a_n : Int) (⟨s_n, s_c, s_p, s_z⟩ : Src)).1.toNat 0)) [.agg (pickV (a_n : Int) (⟨s_n, s_c, s_p, s_z⟩ : Src)).2.cells, .non]) := by
  simp only [Bool.and_eq_true] at hp
  obtain ⟨h1, h2⟩ := hp
  have g1 := Nat.le_of_ble_eq_true h2
  refine (show _ = cond (pB 2 (s_p)) (cond (decide (0 ≤ (pickV (a_n : Int) (⟨s_n, s_c, s_p, s_z⟩ : Src)).1) && decide ((pickV (a_n : Int) (⟨s_n, s_c, s_p, s_z⟩ : Src)).1 < (a_n : Int))) (some (.out (iv (a_c (pickV (a_n : Int) (⟨s_n, s_c, s_p, s_z⟩ : Src)).1.toNat 0)) [.agg (pickV (a_n : Int) (⟨s_n, s_c, s_p, s_z⟩ : Src)).2.cells, .non])) none) none from by kernel_rfl).trans ?_
  obtain ⟨f1, f2⟩ := pick_in (s := (⟨s_n, s_c, s_p, s_z⟩ : Src)) (m := (a_n : Int)) (by omega)
  rw [h1, show decide (0 ≤ (pickV (a_n : Int) (⟨s_n, s_c, s_p, s_z⟩ : Src)).1) = true by simpa using f1, show decide ((pickV (a_n : Int) (⟨s_n, s_c, s_p, s_z⟩ : Src)).1 < (a_n : Int)) = true by simpa using f2]
  rfl
theorem m61 : Meets Try.prog GL0 61 s61 := by
  refine meetsN mix0 gl0 G31 Try.func61 (by kernel_rfl) (by kernel_rfl) s61 fun args x h => ?_
  unfold s61 at h
  split at h
  · rename_i s_n s_c s_p s_z a_n a_c
    simp only [Option.some.injEq, Prod.mk.injEq] at h
    obtain ⟨hp, rfl⟩ := h
    exact ⟨_, _, by kernel_rfl, e61 s_n s_c s_p s_z a_n a_c hp⟩
  · cases h
abbrev Γ32 : List (Nat × Ctr) := (61, s61) :: Γ31
theorem G32 : Sound Try.prog GL0 Γ32 := G31.cons m61

-- spec.l01Draw
def s28 : Ctr := fun
  | [.own 83 [.arr s_n [.int .u8] s_c, .val (.int .i64 s_p), .val (.int .u64 s_z)]] => some (pB 18 s_p, outS (drawV (⟨s_n, s_c, s_p, s_z⟩ : Src)).1.av (drawV (⟨s_n, s_c, s_p, s_z⟩ : Src)).2)
  | _ => none

theorem e28 (s_n : Nat) (s_c : Nat → Nat → Int) (s_p : Int) (s_z : Int) (hp : (pB 18 s_p) = true) : evN Try.prog GL0 Γ32 (0) [] Try.f28 [.own 83 [.arr s_n [.int .u8] s_c, .val (.int .i64 s_p), .val (.int .u64 s_z)]] = some (outS (drawV (⟨s_n, s_c, s_p, s_z⟩ : Src)).1.av (drawV (⟨s_n, s_c, s_p, s_z⟩ : Src)).2) := by
  exact (show _ = F0 (⟨s_n, s_c, s_p, s_z⟩ : Src) from by kernel_rfl).trans (draw0 (q := 0) (s := (⟨s_n, s_c, s_p, s_z⟩ : Src)) (by decide) hp).1
theorem m28 : Meets Try.prog GL0 28 s28 := by
  refine meetsN mix0 gl0 G32 Try.func28 (by kernel_rfl) (by kernel_rfl) s28 fun args x h => ?_
  unfold s28 at h
  split at h
  · rename_i s_n s_c s_p s_z
    simp only [Option.some.injEq, Prod.mk.injEq] at h
    obtain ⟨hp, rfl⟩ := h
    exact ⟨_, _, by kernel_rfl, e28 s_n s_c s_p s_z hp⟩
  · cases h
abbrev Γ33 : List (Nat × Ctr) := (28, s28) :: Γ32
theorem G33 : Sound Try.prog GL0 Γ33 := G32.cons m28

-- spec.E8Nums
def s6 : Ctr := fun
  | [.arr b_n [.int .u8] b_c] => some (true, .tup [(e8x (srcOf b_n b_c)).av, (e8y (srcOf b_n b_c)).av, (e8z (srcOf b_n b_c)).av])
  | _ => none

theorem e6 (b_n : Nat) (b_c : Nat → Nat → Int) : evN Try.prog GL0 Γ33 (0) [] Try.f6 [.arr b_n [.int .u8] b_c] = some (.tup [(e8x (srcOf b_n b_c)).av, (e8y (srcOf b_n b_c)).av, (e8z (srcOf b_n b_c)).av]) := by
  refine (show _ = cond (pB 18 (srcOf b_n b_c).p) (cond (pB 18 (drawV (srcOf b_n b_c)).2.p) (cond (pB 18 (drawV (drawV (srcOf b_n b_c)).2).2.p) (some (.tup [(e8x (srcOf b_n b_c)).av, (e8y (srcOf b_n b_c)).av, (e8z (srcOf b_n b_c)).av])) none) none) none from by kernel_rfl).trans ?_
  obtain ⟨_, h1, h2, h3⟩ := e8_ok (s := (srcOf b_n b_c)) rfl
  rw [h1, h2, h3]
  rfl
theorem m6 : Meets Try.prog GL0 6 s6 := by
  refine meetsN mix0 gl0 G33 Try.func6 (by kernel_rfl) (by kernel_rfl) s6 fun args x h => ?_
  unfold s6 at h
  split at h
  · rename_i b_n b_c
    simp only [Option.some.injEq, Prod.mk.injEq] at h
    obtain ⟨hp, rfl⟩ := h
    exact ⟨_, _, by kernel_rfl, e6 b_n b_c⟩
  · cases h
abbrev Γ34 : List (Nat × Ctr) := (6, s6) :: Γ33
theorem G34 : Sound Try.prog GL0 Γ34 := G33.cons m6

end Go.Proofs.Ytigmgpblnoecpaa
