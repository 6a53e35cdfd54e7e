/- Contracts of the program's functions, by the evaluator. -/
import Derived.Test.YtlcopddgplbdhaaGreatDoorC6
import Derived.Test.YtlcopddgplbdhaaGreatDoorPlB
namespace Go.Proofs.YtlcopddgplbdhaaGreatDoor
open Go.Ev
set_option linter.unusedVariables false
set_option linter.unusedSimpArgs false
set_option maxRecDepth 100000
-- spec.l00From
def s15 : Ctr := fun
 | [.arr b_n [.int .u8] b_c] => some (true, .own 75 (⟨b_n, b_c, 0, 0⟩ : Src).cells)
 | _ => none
theorem e15 (b_n : Nat) (b_c : NNI) : evN Tryz.prog GLv Γ65 (0) []  Tryz.f15 [.arr b_n [.int .u8] b_c] = some (.own 75 (⟨b_n, b_c, 0, 0⟩ : Src).cells) := by
 kernel_rfl
theorem m15 : MT 15 s15 := by
 refine meetsN mix0 glv G65 Tryz.func15 (by kernel_rfl) (by kernel_rfl) s15 fun args x h => ?_
 unfold s15 at h
 split at h
 ·rename_i b_n b_c
  obtain ⟨hp, rfl⟩ := sm_inj h
  exact ⟨_, _, by kernel_rfl, e15 b_n b_c⟩
 ·cases h
abbrev Γ66 : LC := (15, s15) :: Γ65
theorem G66 : SD Γ66 := G65.cons m15
-- (*spec.l00Src).next
def s73 : Ctr := fun
 | [.own 75 [.arr s_n [.int .u8] s_c, iv s_p, .val (.int .u64 s_z)]] => some (pB 1 (s_p), outS (iv (nxt (⟨s_n, s_c, s_p, s_z⟩ : Src)).1) (nxt (⟨s_n, s_c, s_p, s_z⟩ : Src)).2)
 | _ => none
theorem e73 (s_n : Nat) (s_c : NNI) (s_p : Int) (s_z : Int) (hp : (pB 1 (s_p)) = true) : evN Tryz.prog GLv Γ66 (0) []  Tryz.f73 [.own 75 [.arr s_n [.int .u8] s_c, iv s_p, .val (.int .u64 s_z)]] = some (outS (iv (nxt (⟨s_n, s_c, s_p, s_z⟩ : Src)).1) (nxt (⟨s_n, s_c, s_p, s_z⟩ : Src)).2) := by
 refine (show _ = cond (decide (s_p < (s_n : Int))) (cond (decide (0 <= s_p) && decide (s_p < (s_n : Int))) (stp (wr (s_c s_p.toNat 0 % 256)) (⟨s_n, s_c, s_p, s_z⟩ : Src)) none) (stp 0 (⟨s_n, s_c, s_p, s_z⟩ : Src)) from by kernel_rfl).trans ?_
 have h0 := (pB_iff.1 hp).1
 have e : ∀ b, nxB (⟨s_n, s_c, s_p, s_z⟩ : Src) = b -> stp b (⟨s_n, s_c, s_p, s_z⟩ : Src) = some (outS (iv (nxt (⟨s_n, s_c, s_p, s_z⟩ : Src)).1) (nxt (⟨s_n, s_c, s_p, s_z⟩ : Src)).2) := fun b h => by
  unfold stp nxt
  rw [h]
  cases decide (wr (s_p + 1) <= (s_n : Int)) <;> rfl
 cases h : decide (s_p < (s_n : Int)) with
 | false => exact e 0 (by unfold nxB; simp only [h, cond_false])
 | true =>
  simp only [show decide (0 <= s_p) = true by simpa using h0, Bool.and_self, cond_true]
  exact e _ (by unfold nxB; simp only [h, cond_true])
theorem m73 : MT 73 s73 := by
 refine meetsN mix0 glv G66 Tryz.func73 (by kernel_rfl) (by kernel_rfl) s73 fun args x h => ?_
 unfold s73 at h
 split at h
 ·rename_i s_n s_c s_p s_z
  obtain ⟨hp, rfl⟩ := sm_inj h
  exact ⟨_, _, by kernel_rfl, e73 s_n s_c s_p s_z hp⟩
 ·cases h
abbrev Γ67 : LC := (73, s73) :: Γ66
theorem G67 : SD Γ67 := G66.cons m73
-- (*spec.l00Src).pick
def s39 : Ctr := fun
 | [.own 75 [.arr s_n [.int .u8] s_c, iv s_p, .val (.int .u64 s_z)], iv m] => some (pB 2 (s_p), .out (iv (pickV m (⟨s_n, s_c, s_p, s_z⟩ : Src)).1) [.agg (pickV m (⟨s_n, s_c, s_p, s_z⟩ : Src)).2.cells, .non])
 | _ => none
theorem e39 (s_n : Nat) (s_c : NNI) (s_p : Int) (s_z : Int) (m : Int) (hp : (pB 2 (s_p)) = true) : evN Tryz.prog GLv Γ67 (0) []  Tryz.f39 [.own 75 [.arr s_n [.int .u8] s_c, iv s_p, .val (.int .u64 s_z)], iv m] = some (.out (iv (pickV m (⟨s_n, s_c, s_p, s_z⟩ : Src)).1) [.agg (pickV m (⟨s_n, s_c, s_p, s_z⟩ : Src)).2.cells, .non]) := by
 refine (show _ = cond (decide (m <= 1)) (some (.out (iv 0) [.agg (⟨s_n, s_c, s_p, s_z⟩ : Src).cells, .non])) (cond (pB 1 (s_p)) (cond (decide (m > 200)) (cond (pB 1 ((nxt (⟨s_n, s_c, s_p, s_z⟩ : Src)).2.p)) (cond (!(m == 0)) (some (.out (iv ((wr (wr ((nxt (⟨s_n, s_c, s_p, s_z⟩ : Src)).1 * 256) + (nxt (nxt (⟨s_n, s_c, s_p, s_z⟩ : Src)).2).1)).tmod m)) [.agg (nxt (nxt (⟨s_n, s_c, s_p, s_z⟩ : Src)).2).2.cells, .non])) none) none)
  (cond (!(m == 0)) (some (.out (iv ((nxt (⟨s_n, s_c, s_p, s_z⟩ : Src)).1.tmod m)) [.agg (nxt (⟨s_n, s_c, s_p, s_z⟩ : Src)).2.cells, .non])) none)) none) from by kernel_rfl).trans ?_
 have h1 := pB_less hp (show (1 : Int) <= 2 by decide)
 obtain ⟨_, h2⟩ := nxt_p (s := (⟨s_n, s_c, s_p, s_z⟩ : Src)) hp (by decide)
 unfold pickV
 cases e : decide (m <= 1) with
 | true => rfl
 | false =>
  have hm : (!(m == 0)) = true := by simp at e ⊢; omega
  rw [h1, hm]
  simp only [cond_true, cond_false]
  cases decide (m > 200) with
  | false => rfl
  | true =>
   rw [show pB 1 ((nxt (⟨s_n, s_c, s_p, s_z⟩ : Src)).2.p) = true from h2]
   rfl
theorem m39 : MT 39 s39 := by
 refine meetsN mix0 glv G67 Tryz.func39 (by kernel_rfl) (by kernel_rfl) s39 fun args x h => ?_
 unfold s39 at h
 split at h
 ·rename_i s_n s_c s_p s_z m
  obtain ⟨hp, rfl⟩ := sm_inj h
  exact ⟨_, _, by kernel_rfl, e39 s_n s_c s_p s_z m hp⟩
 ·cases h
abbrev Γ68 : LC := (39, s39) :: Γ67
theorem G68 : SD Γ68 := G67.cons m39
-- (*spec.l00Src).one
def s61 : Ctr := fun
 | [.own 75 [.arr s_n [.int .u8] s_c, iv s_p, .val (.int .u64 s_z)], iv m] => some (pB 2 (s_p), .out (bv ((pickV m (⟨s_n, s_c, s_p, s_z⟩ : Src)).1 == 0)) [.agg (pickV m (⟨s_n, s_c, s_p, s_z⟩ : Src)).2.cells, .non])
 | _ => none
theorem e61 (s_n : Nat) (s_c : NNI) (s_p : Int) (s_z : Int) (m : Int) (hp : (pB 2 (s_p)) = true) : evN Tryz.prog GLv Γ68 (0) []  Tryz.f61 [.own 75 [.arr s_n [.int .u8] s_c, iv s_p, .val (.int .u64 s_z)], iv m] = some (.out (bv ((pickV m (⟨s_n, s_c, s_p, s_z⟩ : Src)).1 == 0)) [.agg (pickV m (⟨s_n, s_c, s_p, s_z⟩ : Src)).2.cells, .non]) := by
 exact (show _ = cond (pB 2 (s_p)) _ none from by kernel_rfl).trans (by rw [hp]; rfl)
theorem m61 : MT 61 s61 := by
 refine meetsN mix0 glv G68 Tryz.func61 (by kernel_rfl) (by kernel_rfl) s61 fun args x h => ?_
 unfold s61 at h
 split at h
 ·rename_i s_n s_c s_p s_z m
  obtain ⟨hp, rfl⟩ := sm_inj h
  exact ⟨_, _, by kernel_rfl, e61 s_n s_c s_p s_z m hp⟩
 ·cases h
abbrev Γ69 : LC := (61, s61) :: Γ68
theorem G69 : SD Γ69 := G68.cons m61
-- (*spec.l00Src).among
def s40 : Ctr := fun
 | [.own 75 [.arr s_n [.int .u8] s_c, iv s_p, .val (.int .u64 s_z)], .arr a_n [.int .i64] a_c] => some (pB 2 (s_p) && Nat.ble 1 a_n, .out (iv (a_c (pickV (a_n : Int) (⟨s_n, s_c, s_p, s_z⟩ : Src)).1.toNat 0)) [.agg (pickV (a_n : Int) (⟨s_n, s_c, s_p, s_z⟩ : Src)).2.cells, .non])
 | _ => none
theorem e40 (s_n : Nat) (s_c : NNI) (s_p : Int) (s_z : Int) (a_n : Nat) (a_c : NNI) (hp : (pB 2 (s_p) && Nat.ble 1 a_n) = true) : evN Tryz.prog GLv Γ69 (0) []  Tryz.f40 [.own 75 [.arr s_n [.int .u8] s_c, iv s_p, .val (.int .u64 s_z)], .arr a_n [.int .i64] a_c] = some (.out (iv (a_c (pickV (a_n : Int) (⟨s_n, s_c, s_p, s_z⟩ : Src)).1.toNat 0)) [.agg (pickV (a_n : Int) (⟨s_n, s_c, s_p, s_z⟩ : Src)).2.cells, .non]) := by
 simp only [Bool.and_eq_true] at hp
 obtain ⟨h1, h2⟩ := hp
 have g1 := Nat.le_of_ble_eq_true h2
 refine (show _ = cond (pB 2 (s_p)) (cond (decide (0 <= (pickV (a_n : Int) (⟨s_n, s_c, s_p, s_z⟩ : Src)).1) && decide ((pickV (a_n : Int) (⟨s_n, s_c, s_p, s_z⟩ : Src)).1 < (a_n : Int))) (some (.out (iv (a_c (pickV (a_n : Int) (⟨s_n, s_c, s_p, s_z⟩ : Src)).1.toNat 0)) [.agg (pickV (a_n : Int) (⟨s_n, s_c, s_p, s_z⟩ : Src)).2.cells, .non])) none) none from by kernel_rfl).trans ?_
 obtain ⟨f1, f2⟩ := pick_in (s := (⟨s_n, s_c, s_p, s_z⟩ : Src)) (m := (a_n : Int)) (by omega)
 rw [h1, show decide (0 <= (pickV (a_n : Int) (⟨s_n, s_c, s_p, s_z⟩ : Src)).1) = true by simpa using f1, show decide ((pickV (a_n : Int) (⟨s_n, s_c, s_p, s_z⟩ : Src)).1 < (a_n : Int)) = true by simpa using f2]
 rfl
theorem m40 : MT 40 s40 := by
 refine meetsN mix0 glv G69 Tryz.func40 (by kernel_rfl) (by kernel_rfl) s40 fun args x h => ?_
 unfold s40 at h
 split at h
 ·rename_i s_n s_c s_p s_z a_n a_c
  obtain ⟨hp, rfl⟩ := sm_inj h
  exact ⟨_, _, by kernel_rfl, e40 s_n s_c s_p s_z a_n a_c hp⟩
 ·cases h
abbrev Γ70 : LC := (40, s40) :: Γ69
theorem G70 : SD Γ70 := G69.cons m40
-- spec.l01Draw
def s74 : Ctr := fun
 | [.own 75 [.arr s_n [.int .u8] s_c, iv s_p, .val (.int .u64 s_z)]] => some (pB 18 s_p, outS (drawV (⟨s_n, s_c, s_p, s_z⟩ : Src)).1.av (drawV (⟨s_n, s_c, s_p, s_z⟩ : Src)).2)
 | _ => none
theorem e74 (s_n : Nat) (s_c : NNI) (s_p : Int) (s_z : Int) (hp : (pB 18 s_p) = true) : evN Tryz.prog GLv Γ70 (0) []  Tryz.f74 [.own 75 [.arr s_n [.int .u8] s_c, iv s_p, .val (.int .u64 s_z)]] = some (outS (drawV (⟨s_n, s_c, s_p, s_z⟩ : Src)).1.av (drawV (⟨s_n, s_c, s_p, s_z⟩ : Src)).2) := by
 exact (show _ = F0 (⟨s_n, s_c, s_p, s_z⟩ : Src) from by kernel_rfl).trans (draw0 (q := 0) (s := (⟨s_n, s_c, s_p, s_z⟩ : Src)) (by decide) hp).1
theorem m74 : MT 74 s74 := by
 refine meetsN mix0 glv G70 Tryz.func74 (by kernel_rfl) (by kernel_rfl) s74 fun args x h => ?_
 unfold s74 at h
 split at h
 ·rename_i s_n s_c s_p s_z
  obtain ⟨hp, rfl⟩ := sm_inj h
  exact ⟨_, _, by kernel_rfl, e74 s_n s_c s_p s_z hp⟩
 ·cases h
abbrev Γ71 : LC := (74, s74) :: Γ70
theorem G71 : SD Γ71 := G70.cons m74
end Go.Proofs.YtlcopddgplbdhaaGreatDoor
