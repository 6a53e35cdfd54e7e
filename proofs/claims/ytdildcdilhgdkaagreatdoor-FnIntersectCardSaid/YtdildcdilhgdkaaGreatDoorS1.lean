/- Contracts of the program's functions, by the evaluator. -/
import Derived.Test.YtdildcdilhgdkaaGreatDoorC6
import Derived.Test.YtdildcdilhgdkaaGreatDoorPlB
namespace Go.Proofs.YtdildcdilhgdkaaGreatDoor
open Go.Ev
set_option linter.unusedVariables false
set_option linter.unusedSimpArgs false
set_option maxRecDepth 100000
-- spec.l00From
def s16 : Ctr := fun
  | [.arr b_n [.int .u8] b_c] => some (true, .own 66 (⟨b_n, b_c, 0, 0⟩ : Src).cells)
  | _ => none
theorem e16 (b_n : Nat) (b_c : NNI) : evN Tryz.prog GLv Γ72 (0) []  Tryz.f16 [.arr b_n [.int .u8] b_c] = some (.own 66 (⟨b_n, b_c, 0, 0⟩ : Src).cells) := by
  kernel_rfl
theorem m16 : Meets Tryz.prog GLv 16 s16 := by
  refine meetsN mix0 glv G72 Tryz.func16 (by kernel_rfl) (by kernel_rfl) s16 fun args x h => ?_
  unfold s16 at h
  split at h
  . rename_i b_n b_c
    simp only [Option.some.injEq, Prod.mk.injEq] at h
    obtain ⟨hp, rfl⟩ := h
    exact ⟨_, _, by kernel_rfl, e16 b_n b_c⟩
  . cases h
abbrev Γ73 : List (Nat × Ctr) := (16, s16) :: Γ72
theorem G73 : Sound Tryz.prog GLv Γ73 := G72.cons m16
-- (*spec.l00Src).next
def s78 : Ctr := fun
  | [.own 66 [.arr s_n [.int .u8] s_c, .val (.int .i64 s_p), .val (.int .u64 s_z)]] => some (pB 1 (s_p), outS (iv (nxt (⟨s_n, s_c, s_p, s_z⟩ : Src)).1) (nxt (⟨s_n, s_c, s_p, s_z⟩ : Src)).2)
  | _ => none
theorem e78 (s_n : Nat) (s_c : NNI) (s_p : Int) (s_z : Int) (hp : (pB 1 (s_p)) = true) : evN Tryz.prog GLv Γ73 (0) []  Tryz.f78 [.own 66 [.arr s_n [.int .u8] s_c, .val (.int .i64 s_p), .val (.int .u64 s_z)]] = some (outS (iv (nxt (⟨s_n, s_c, s_p, s_z⟩ : Src)).1) (nxt (⟨s_n, s_c, s_p, s_z⟩ : Src)).2) := by
  refine (show _ = cond (decide (s_p < (s_n : Int))) (cond (decide (0 <= s_p) && decide (s_p < (s_n : Int))) (stp (wr (s_c s_p.toNat 0 % 256)) (⟨s_n, s_c, s_p, s_z⟩ : Src)) none) (stp 0 (⟨s_n, s_c, s_p, s_z⟩ : Src)) from by kernel_rfl).trans ?_
  have h0 := (pB_iff.1 hp).1
  have e : ∀ b, nxB (⟨s_n, s_c, s_p, s_z⟩ : Src) = b -> stp b (⟨s_n, s_c, s_p, s_z⟩ : Src) = some (outS (iv (nxt (⟨s_n, s_c, s_p, s_z⟩ : Src)).1) (nxt (⟨s_n, s_c, s_p, s_z⟩ : Src)).2) := fun b h => by
    unfold stp nxt
    rw [h]
    cases decide (wr (s_p + 1) <= (s_n : Int)) <;> rfl
  cases h : decide (s_p < (s_n : Int)) with
  | false => exact e 0 (by unfold nxB; simp only [h, cond_false])
  | true =>
    simp only [show decide (0 <= s_p) = true by simpa using h0, Bool.and_self, cond_true]
    exact e _ (by unfold nxB; simp only [h, cond_true])
theorem m78 : Meets Tryz.prog GLv 78 s78 := by
  refine meetsN mix0 glv G73 Tryz.func78 (by kernel_rfl) (by kernel_rfl) s78 fun args x h => ?_
  unfold s78 at h
  split at h
  . rename_i s_n s_c s_p s_z
    simp only [Option.some.injEq, Prod.mk.injEq] at h
    obtain ⟨hp, rfl⟩ := h
    exact ⟨_, _, by kernel_rfl, e78 s_n s_c s_p s_z hp⟩
  . cases h
abbrev Γ74 : List (Nat × Ctr) := (78, s78) :: Γ73
theorem G74 : Sound Tryz.prog GLv Γ74 := G73.cons m78
-- (*spec.l00Src).pick
def s41 : Ctr := fun
  | [.own 66 [.arr s_n [.int .u8] s_c, .val (.int .i64 s_p), .val (.int .u64 s_z)], .val (.int .i64 m)] => some (pB 2 (s_p), .out (iv (pickV m (⟨s_n, s_c, s_p, s_z⟩ : Src)).1) [.agg (pickV m (⟨s_n, s_c, s_p, s_z⟩ : Src)).2.cells, .non])
  | _ => none
theorem e41 (s_n : Nat) (s_c : NNI) (s_p : Int) (s_z : Int) (m : Int) (hp : (pB 2 (s_p)) = true) : evN Tryz.prog GLv Γ74 (0) []  Tryz.f41 [.own 66 [.arr s_n [.int .u8] s_c, .val (.int .i64 s_p), .val (.int .u64 s_z)], .val (.int .i64 m)] = some (.out (iv (pickV m (⟨s_n, s_c, s_p, s_z⟩ : Src)).1) [.agg (pickV m (⟨s_n, s_c, s_p, s_z⟩ : Src)).2.cells, .non]) := by
  refine (show _ = cond (decide (m <= 1)) (some (.out (iv 0) [.agg (⟨s_n, s_c, s_p, s_z⟩ : Src).cells, .non])) (cond (pB 1 (s_p)) (cond (decide (m > 200)) (cond (pB 1 ((nxt (⟨s_n, s_c, s_p, s_z⟩ : Src)).2.p)) (cond (!(m == 0)) (some (.out (iv ((wr (wr ((nxt (⟨s_n, s_c, s_p, s_z⟩ : Src)).1 * 256) + (nxt (nxt (⟨s_n, s_c, s_p, s_z⟩ : Src)).2).1)).tmod m)) [.agg (nxt (nxt (⟨s_n, s_c, s_p, s_z⟩ : Src)).2).2.cells, .non])) none) none)
    (cond (!(m == 0)) (some (.out (iv ((nxt (⟨s_n, s_c, s_p, s_z⟩ : Src)).1.tmod m)) [.agg (nxt (⟨s_n, s_c, s_p, s_z⟩ : Src)).2.cells, .non])) none)) none) from by kernel_rfl).trans ?_
  have h1 := pB_less hp (show (1 : Int) <= 2 by decide)
  obtain ⟨_, h2⟩ := nxt_p (s := (⟨s_n, s_c, s_p, s_z⟩ : Src)) hp (by decide)
  unfold pickV
  cases e : decide (m <= 1) with
  | true => rfl
  | false =>
    have hm : (!(m == 0)) = true := by simp at e ⊢; omega
    rw [h1, hm]
    simp only [cond_true, cond_false]
    cases decide (m > 200) with
    | false => rfl
    | true =>
      rw [show pB 1 ((nxt (⟨s_n, s_c, s_p, s_z⟩ : Src)).2.p) = true from h2]
      rfl
theorem m41 : Meets Tryz.prog GLv 41 s41 := by
  refine meetsN mix0 glv G74 Tryz.func41 (by kernel_rfl) (by kernel_rfl) s41 fun args x h => ?_
  unfold s41 at h
  split at h
  . rename_i s_n s_c s_p s_z m
    simp only [Option.some.injEq, Prod.mk.injEq] at h
    obtain ⟨hp, rfl⟩ := h
    exact ⟨_, _, by kernel_rfl, e41 s_n s_c s_p s_z m hp⟩
  . cases h
abbrev Γ75 : List (Nat × Ctr) := (41, s41) :: Γ74
theorem G75 : Sound Tryz.prog GLv Γ75 := G74.cons m41
-- (*spec.l00Src).one
def s18 : Ctr := fun
  | [.own 66 [.arr s_n [.int .u8] s_c, .val (.int .i64 s_p), .val (.int .u64 s_z)], .val (.int .i64 m)] => some (pB 2 (s_p), .out (bv ((pickV m (⟨s_n, s_c, s_p, s_z⟩ : Src)).1 == 0)) [.agg (pickV m (⟨s_n, s_c, s_p, s_z⟩ : Src)).2.cells, .non])
  | _ => none
theorem e18 (s_n : Nat) (s_c : NNI) (s_p : Int) (s_z : Int) (m : Int) (hp : (pB 2 (s_p)) = true) : evN Tryz.prog GLv Γ75 (0) []  Tryz.f18 [.own 66 [.arr s_n [.int .u8] s_c, .val (.int .i64 s_p), .val (.int .u64 s_z)], .val (.int .i64 m)] = some (.out (bv ((pickV m (⟨s_n, s_c, s_p, s_z⟩ : Src)).1 == 0)) [.agg (pickV m (⟨s_n, s_c, s_p, s_z⟩ : Src)).2.cells, .non]) := by
  exact (show _ = cond (pB 2 (s_p)) _ none from by kernel_rfl).trans (by rw [hp]; rfl)
theorem m18 : Meets Tryz.prog GLv 18 s18 := by
  refine meetsN mix0 glv G75 Tryz.func18 (by kernel_rfl) (by kernel_rfl) s18 fun args x h => ?_
  unfold s18 at h
  split at h
  . rename_i s_n s_c s_p s_z m
    simp only [Option.some.injEq, Prod.mk.injEq] at h
    obtain ⟨hp, rfl⟩ := h
    exact ⟨_, _, by kernel_rfl, e18 s_n s_c s_p s_z m hp⟩
  . cases h
abbrev Γ76 : List (Nat × Ctr) := (18, s18) :: Γ75
theorem G76 : Sound Tryz.prog GLv Γ76 := G75.cons m18
-- (*spec.l00Src).among
def s40 : Ctr := fun
  | [.own 66 [.arr s_n [.int .u8] s_c, .val (.int .i64 s_p), .val (.int .u64 s_z)], .arr a_n [.int .i64] a_c] => some (pB 2 (s_p) && Nat.ble 1 a_n, .out (iv (a_c (pickV (a_n : Int) (⟨s_n, s_c, s_p, s_z⟩ : Src)).1.toNat 0)) [.agg (pickV (a_n : Int) (⟨s_n, s_c, s_p, s_z⟩ : Src)).2.cells, .non])
  | _ => none
theorem e40 (s_n : Nat) (s_c : NNI) (s_p : Int) (s_z : Int) (a_n : Nat) (a_c : NNI) (hp : (pB 2 (s_p) && Nat.ble 1 a_n) = true) : evN Tryz.prog GLv Γ76 (0) []  Tryz.f40 [.own 66 [.arr s_n [.int .u8] s_c, .val (.int .i64 s_p), .val (.int .u64 s_z)], .arr a_n [.int .i64] a_c] = some (.out (iv (a_c (pickV (a_n : Int) (⟨s_n, s_c, s_p, s_z⟩ : Src)).1.toNat 0)) [.agg (pickV (a_n : Int) (⟨s_n, s_c, s_p, s_z⟩ : Src)).2.cells, .non]) := by
  simp only [Bool.and_eq_true] at hp
  obtain ⟨h1, h2⟩ := hp
  have g1 := Nat.le_of_ble_eq_true h2
  refine (show _ = cond (pB 2 (s_p)) (cond (decide (0 <= (pickV (a_n : Int) (⟨s_n, s_c, s_p, s_z⟩ : Src)).1) && decide ((pickV (a_n : Int) (⟨s_n, s_c, s_p, s_z⟩ : Src)).1 < (a_n : Int))) (some (.out (iv (a_c (pickV (a_n : Int) (⟨s_n, s_c, s_p, s_z⟩ : Src)).1.toNat 0)) [.agg (pickV (a_n : Int) (⟨s_n, s_c, s_p, s_z⟩ : Src)).2.cells, .non])) none) none from by kernel_rfl).trans ?_
  obtain ⟨f1, f2⟩ := pick_in (s := (⟨s_n, s_c, s_p, s_z⟩ : Src)) (m := (a_n : Int)) (by omega)
  rw [h1, show decide (0 <= (pickV (a_n : Int) (⟨s_n, s_c, s_p, s_z⟩ : Src)).1) = true by simpa using f1, show decide ((pickV (a_n : Int) (⟨s_n, s_c, s_p, s_z⟩ : Src)).1 < (a_n : Int)) = true by simpa using f2]
  rfl
theorem m40 : Meets Tryz.prog GLv 40 s40 := by
  refine meetsN mix0 glv G76 Tryz.func40 (by kernel_rfl) (by kernel_rfl) s40 fun args x h => ?_
  unfold s40 at h
  split at h
  . rename_i s_n s_c s_p s_z a_n a_c
    simp only [Option.some.injEq, Prod.mk.injEq] at h
    obtain ⟨hp, rfl⟩ := h
    exact ⟨_, _, by kernel_rfl, e40 s_n s_c s_p s_z a_n a_c hp⟩
  . cases h
abbrev Γ77 : List (Nat × Ctr) := (40, s40) :: Γ76
theorem G77 : Sound Tryz.prog GLv Γ77 := G76.cons m40
-- spec.l01Draw
def s43 : Ctr := fun
  | [.own 66 [.arr s_n [.int .u8] s_c, .val (.int .i64 s_p), .val (.int .u64 s_z)]] => some (pB 18 s_p, outS (drawV (⟨s_n, s_c, s_p, s_z⟩ : Src)).1.av (drawV (⟨s_n, s_c, s_p, s_z⟩ : Src)).2)
  | _ => none
theorem e43 (s_n : Nat) (s_c : NNI) (s_p : Int) (s_z : Int) (hp : (pB 18 s_p) = true) : evN Tryz.prog GLv Γ77 (0) []  Tryz.f43 [.own 66 [.arr s_n [.int .u8] s_c, .val (.int .i64 s_p), .val (.int .u64 s_z)]] = some (outS (drawV (⟨s_n, s_c, s_p, s_z⟩ : Src)).1.av (drawV (⟨s_n, s_c, s_p, s_z⟩ : Src)).2) := by
  exact (show _ = F0 (⟨s_n, s_c, s_p, s_z⟩ : Src) from by kernel_rfl).trans (draw0 (q := 0) (s := (⟨s_n, s_c, s_p, s_z⟩ : Src)) (by decide) hp).1
theorem m43 : Meets Tryz.prog GLv 43 s43 := by
  refine meetsN mix0 glv G77 Tryz.func43 (by kernel_rfl) (by kernel_rfl) s43 fun args x h => ?_
  unfold s43 at h
  split at h
  . rename_i s_n s_c s_p s_z
    simp only [Option.some.injEq, Prod.mk.injEq] at h
    obtain ⟨hp, rfl⟩ := h
    exact ⟨_, _, by kernel_rfl, e43 s_n s_c s_p s_z hp⟩
  . cases h
abbrev Γ78 : List (Nat × Ctr) := (43, s43) :: Γ77
theorem G78 : Sound Tryz.prog GLv Γ78 := G77.cons m43
end Go.Proofs.YtdildcdilhgdkaaGreatDoor
