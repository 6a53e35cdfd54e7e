/- Contracts of the program's functions, by the evaluator. -/
import Derived.Test.YtigmgpblnoecpaaDoorC2
import Derived.Test.YtigmgpblnoecpaaDoorSrcB
namespace Go.Proofs.YtigmgpblnoecpaaDoor
open Go.Ev
set_option linter.unusedVariables false
set_option linter.unusedSimpArgs false
set_option maxRecDepth 100000

-- spec.l00From
def s34 : Ctr := fun
  | [.arr b_n [.int .u8] b_c] => some (true, .own 106 (⟨b_n, b_c, 0, 0⟩ : Src).cells)
  | _ => none

theorem e34 (b_n : Nat) (b_c : Nat → Nat → Int) : evN Tryd.prog GLv Γ67 (0) []  Tryd.f34 [.arr b_n [.int .u8] b_c] = some (.own 106 (⟨b_n, b_c, 0, 0⟩ : Src).cells) := by
  kernel_rfl
theorem m34 : Meets Tryd.prog GLv 34 s34 := by
  refine meetsN mix0 glv G67 Tryd.func34 (by kernel_rfl) (by kernel_rfl) s34 fun args x h => ?_
  unfold s34 at h
  split at h
  · rename_i b_n b_c
    simp only [Option.some.injEq, Prod.mk.injEq] at h
    obtain ⟨hp, rfl⟩ := h
    exact ⟨_, _, by kernel_rfl, e34 b_n b_c⟩
  · cases h
abbrev Γ68 : List (Nat × Ctr) := (34, s34) :: Γ67
theorem G68 : Sound Tryd.prog GLv Γ68 := G67.cons m34

-- (*spec.l00Src).next
def s117 : Ctr := fun
  | [.own 106 [.arr s_n [.int .u8] s_c, .val (.int .i64 s_p), .val (.int .u64 s_z)]] => some (pB 1 (s_p), outS (iv (nxt (⟨s_n, s_c, s_p, s_z⟩ : Src)).1) (nxt (⟨s_n, s_c, s_p, s_z⟩ : Src)).2)
  | _ => none

theorem e117 (s_n : Nat) (s_c : Nat → Nat → Int) (s_p : Int) (s_z : Int) (hp : (pB 1 (s_p)) = true) : evN Tryd.prog GLv Γ68 (0) []  Tryd.f117 [.own 106 [.arr s_n [.int .u8] s_c, .val (.int .i64 s_p), .val (.int .u64 s_z)]] = some (outS (iv (nxt (⟨s_n, s_c, s_p, s_z⟩ : Src)).1) (nxt (⟨s_n, s_c, s_p, s_z⟩ : Src)).2) := by
  refine (show _ = cond (decide (s_p < (s_n : Int))) (cond (decide (0 ≤ s_p) && decide (s_p < (s_n : Int))) (stp (wr (s_c s_p.toNat 0 % 256)) (⟨s_n, s_c, s_p, s_z⟩ : Src)) none) (stp 0 (⟨s_n, s_c, s_p, s_z⟩ : Src)) from by kernel_rfl).trans ?_
  have h0 := (pB_iff.1 hp).1
  have e : ∀ b, nxB (⟨s_n, s_c, s_p, s_z⟩ : Src) = b → stp b (⟨s_n, s_c, s_p, s_z⟩ : Src) = some (outS (iv (nxt (⟨s_n, s_c, s_p, s_z⟩ : Src)).1) (nxt (⟨s_n, s_c, s_p, s_z⟩ : Src)).2) := fun b h => by
    unfold stp nxt
    rw [h]
    cases decide (wr (s_p + 1) ≤ (s_n : Int)) <;> rfl
  cases h : decide (s_p < (s_n : Int)) with
  | false => exact e 0 (by unfold nxB; simp only [h, cond_false])
  | true =>
    simp only [show decide (0 ≤ s_p) = true by simpa using h0, Bool.and_self, cond_true]
    exact e _ (by unfold nxB; simp only [h, cond_true])
theorem m117 : Meets Tryd.prog GLv 117 s117 := by
  refine meetsN mix0 glv G68 Tryd.func117 (by kernel_rfl) (by kernel_rfl) s117 fun args x h => ?_
  unfold s117 at h
  split at h
  · rename_i s_n s_c s_p s_z
    simp only [Option.some.injEq, Prod.mk.injEq] at h
    obtain ⟨hp, rfl⟩ := h
    exact ⟨_, _, by kernel_rfl, e117 s_n s_c s_p s_z hp⟩
  · cases h
abbrev Γ69 : List (Nat × Ctr) := (117, s117) :: Γ68
theorem G69 : Sound Tryd.prog GLv Γ69 := G68.cons m117

-- (*spec.l00Src).pick
def s76 : Ctr := fun
  | [.own 106 [.arr s_n [.int .u8] s_c, .val (.int .i64 s_p), .val (.int .u64 s_z)], .val (.int .i64 m)] => some (pB 2 (s_p), .out (iv (pickV m (⟨s_n, s_c, s_p, s_z⟩ : Src)).1) [.agg (pickV m (⟨s_n, s_c, s_p, s_z⟩ : Src)).2.cells, .non])
  | _ => none

theorem e76 (s_n : Nat) (s_c : Nat → Nat → Int) (s_p : Int) (s_z : Int) (m : Int) (hp : (pB 2 (s_p)) = true) : evN Tryd.prog GLv Γ69 (0) []  Tryd.f76 [.own 106 [.arr s_n [.int .u8] s_c, .val (.int .i64 s_p), .val (.int .u64 s_z)], .val (.int .i64 m)] = some (.out (iv (pickV m (⟨s_n, s_c, s_p, s_z⟩ : Src)).1) [.agg (pickV m (⟨s_n, s_c, s_p, s_z⟩ : Src)).2.cells, .non]) := by
  refine (show _ = cond (decide (m ≤ 1)) (some (.out (iv 0) [.agg (⟨s_n, s_c, s_p, s_z⟩ : Src).cells, .non])) (cond (pB 1 (s_p)) (cond (decide (m > 200)) (cond (pB 1 ((nxt (⟨s_n, s_c, s_p, s_z⟩ : Src)).2.p)) (cond (!(m == 0)) (some (.out (iv ((wr (wr ((nxt (⟨s_n, s_c, s_p, s_z⟩ : Src)).1 * 256) + (nxt (nxt (⟨s_n, s_c, s_p, s_z⟩ : Src)).2).1)).tmod m)) [.agg (nxt (nxt (⟨s_n, s_c, s_p, s_z⟩ : Src)).2).2.cells, .non])) none) none)
    (cond (!(m == 0)) (some (.out (iv ((nxt (⟨s_n, s_c, s_p, s_z⟩ : Src)).1.tmod m)) [.agg (nxt (⟨s_n, s_c, s_p, s_z⟩ : Src)).2.cells, .non])) none)) none) from by kernel_rfl).trans ?_
  have h1 := pB_less hp (show (1 : Int) ≤ 2 by decide)
  obtain ⟨_, h2⟩ := nxt_p (s := (⟨s_n, s_c, s_p, s_z⟩ : Src)) hp (by decide)
  unfold pickV
  cases e : decide (m ≤ 1) with
  | true => rfl
  | false =>
    have hm : (!(m == 0)) = true := by simp at e ⊢; omega
    rw [h1, hm]
    simp only [cond_true, cond_false]
    cases decide (m > 200) with
    | false => rfl
    | true =>
      rw [show pB 1 ((nxt (⟨s_n, s_c, s_p, s_z⟩ : Src)).2.p) = true from h2]
      rfl
theorem m76 : Meets Tryd.prog GLv 76 s76 := by
  refine meetsN mix0 glv G69 Tryd.func76 (by kernel_rfl) (by kernel_rfl) s76 fun args x h => ?_
  unfold s76 at h
  split at h
  · rename_i s_n s_c s_p s_z m
    simp only [Option.some.injEq, Prod.mk.injEq] at h
    obtain ⟨hp, rfl⟩ := h
    exact ⟨_, _, by kernel_rfl, e76 s_n s_c s_p s_z m hp⟩
  · cases h
abbrev Γ70 : List (Nat × Ctr) := (76, s76) :: Γ69
theorem G70 : Sound Tryd.prog GLv Γ70 := G69.cons m76

-- (*spec.l00Src).one
def s108 : Ctr := fun
  | [.own 106 [.arr s_n [.int .u8] s_c, .val (.int .i64 s_p), .val (.int .u64 s_z)], .val (.int .i64 m)] => some (pB 2 (s_p), .out (bv ((pickV m (⟨s_n, s_c, s_p, s_z⟩ : Src)).1 == 0)) [.agg (pickV m (⟨s_n, s_c, s_p, s_z⟩ : Src)).2.cells, .non])
  | _ => none

theorem e108 (s_n : Nat) (s_c : Nat → Nat → Int) (s_p : Int) (s_z : Int) (m : Int) (hp : (pB 2 (s_p)) = true) : evN Tryd.prog GLv Γ70 (0) []  Tryd.f108 [.own 106 [.arr s_n [.int .u8] s_c, .val (.int .i64 s_p), .val (.int .u64 s_z)], .val (.int .i64 m)] = some (.out (bv ((pickV m (⟨s_n, s_c, s_p, s_z⟩ : Src)).1 == 0)) [.agg (pickV m (⟨s_n, s_c, s_p, s_z⟩ : Src)).2.cells, .non]) := by
  exact (show _ = cond (pB 2 (s_p)) _ none from by kernel_rfl).trans (by rw [hp]; rfl)
theorem m108 : Meets Tryd.prog GLv 108 s108 := by
  refine meetsN mix0 glv G70 Tryd.func108 (by kernel_rfl) (by kernel_rfl) s108 fun args x h => ?_
  unfold s108 at h
  split at h
  · rename_i s_n s_c s_p s_z m
    simp only [Option.some.injEq, Prod.mk.injEq] at h
    obtain ⟨hp, rfl⟩ := h
    exact ⟨_, _, by kernel_rfl, e108 s_n s_c s_p s_z m hp⟩
  · cases h
abbrev Γ71 : List (Nat × Ctr) := (108, s108) :: Γ70
theorem G71 : Sound Tryd.prog GLv Γ71 := G70.cons m108

-- (*spec.l00Src).among
def s102 : Ctr := fun
  | [.own 106 [.arr s_n [.int .u8] s_c, .val (.int .i64 s_p), .val (.int .u64 s_z)], .arr a_n [.int .i64] a_c] => some (pB 2 (s_p) && Nat.ble 1 a_n, .out (iv (a_c (pickV (a_n : Int) (⟨s_n, s_c, s_p, s_z⟩ : Src)).1.toNat 0)) [.agg (pickV (a_n : Int) (⟨s_n, s_c, s_p, s_z⟩ : Src)).2.cells, .non])
  | _ => none

theorem e102 (s_n : Nat) (s_c : Nat → Nat → Int) (s_p : Int) (s_z : Int) (a_n : Nat) (a_c : Nat → Nat → Int) (hp : (pB 2 (s_p) && Nat.ble 1 a_n) = true) : evN Tryd.prog GLv Γ71 (0) []  Tryd.f102 [.own 106 [.arr s_n [.int .u8] s_c, .val (.int .i64 s_p), .val (.int .u64 s_z)], .arr a_n [.int .i64] a_c] = some (.out (iv (a_c (pickV (a_n : Int) (⟨s_n, s_c, s_p, s_z⟩ : Src)).1.toNat 0)) [.agg (pickV (a_n : Int) (⟨s_n, s_c, s_p, s_z⟩ : Src)).2.cells, .non]) := by
  simp only [Bool.and_eq_true] at hp
  obtain ⟨h1, h2⟩ := hp
  have g1 := Nat.le_of_ble_eq_true h2
  refine (show _ = cond (pB 2 (s_p)) (cond (decide (0 ≤ (pickV (a_n : Int) (⟨s_n, s_c, s_p, s_z⟩ : Src)).1) && decide ((pickV (a_n : Int) (⟨s_n, s_c, s_p, s_z⟩ : Src)).1 < (a_n : Int))) (some (.out (iv (a_c (pickV (a_n : Int) (⟨s_n, s_c, s_p, s_z⟩ : Src)).1.toNat 0)) [.agg (pickV (a_n : Int) (⟨s_n, s_c, s_p, s_z⟩ : Src)).2.cells, .non])) none) none from by kernel_rfl).trans ?_
  obtain ⟨f1, f2⟩ := pick_in (s := (⟨s_n, s_c, s_p, s_z⟩ : Src)) (m := (a_n : Int)) (by omega)
  rw [h1, show decide (0 ≤ (pickV (a_n : Int) (⟨s_n, s_c, s_p, s_z⟩ : Src)).1) = true by simpa using f1, show decide ((pickV (a_n : Int) (⟨s_n, s_c, s_p, s_z⟩ : Src)).1 < (a_n : Int)) = true by simpa using f2]
  rfl
theorem m102 : Meets Tryd.prog GLv 102 s102 := by
  refine meetsN mix0 glv G71 Tryd.func102 (by kernel_rfl) (by kernel_rfl) s102 fun args x h => ?_
  unfold s102 at h
  split at h
  · rename_i s_n s_c s_p s_z a_n a_c
    simp only [Option.some.injEq, Prod.mk.injEq] at h
    obtain ⟨hp, rfl⟩ := h
    exact ⟨_, _, by kernel_rfl, e102 s_n s_c s_p s_z a_n a_c hp⟩
  · cases h
abbrev Γ72 : List (Nat × Ctr) := (102, s102) :: Γ71
theorem G72 : Sound Tryd.prog GLv Γ72 := G71.cons m102

-- spec.l01Draw
def s77 : Ctr := fun
  | [.own 106 [.arr s_n [.int .u8] s_c, .val (.int .i64 s_p), .val (.int .u64 s_z)]] => some (pB 18 s_p, outS (drawV (⟨s_n, s_c, s_p, s_z⟩ : Src)).1.av (drawV (⟨s_n, s_c, s_p, s_z⟩ : Src)).2)
  | _ => none

theorem e77 (s_n : Nat) (s_c : Nat → Nat → Int) (s_p : Int) (s_z : Int) (hp : (pB 18 s_p) = true) : evN Tryd.prog GLv Γ72 (0) []  Tryd.f77 [.own 106 [.arr s_n [.int .u8] s_c, .val (.int .i64 s_p), .val (.int .u64 s_z)]] = some (outS (drawV (⟨s_n, s_c, s_p, s_z⟩ : Src)).1.av (drawV (⟨s_n, s_c, s_p, s_z⟩ : Src)).2) := by
  exact (show _ = F0 (⟨s_n, s_c, s_p, s_z⟩ : Src) from by kernel_rfl).trans (draw0 (q := 0) (s := (⟨s_n, s_c, s_p, s_z⟩ : Src)) (by decide) hp).1
theorem m77 : Meets Tryd.prog GLv 77 s77 := by
  refine meetsN mix0 glv G72 Tryd.func77 (by kernel_rfl) (by kernel_rfl) s77 fun args x h => ?_
  unfold s77 at h
  split at h
  · rename_i s_n s_c s_p s_z
    simp only [Option.some.injEq, Prod.mk.injEq] at h
    obtain ⟨hp, rfl⟩ := h
    exact ⟨_, _, by kernel_rfl, e77 s_n s_c s_p s_z hp⟩
  · cases h
abbrev Γ73 : List (Nat × Ctr) := (77, s77) :: Γ72
theorem G73 : Sound Tryd.prog GLv Γ73 := G72.cons m77

end Go.Proofs.YtigmgpblnoecpaaDoor
