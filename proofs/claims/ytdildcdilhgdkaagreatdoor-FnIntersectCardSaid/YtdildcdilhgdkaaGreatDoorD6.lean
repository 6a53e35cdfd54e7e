/- Contracts of the program's functions, by the evaluator. -/
import Derived.Test.YtdildcdilhgdkaaGreatDoorD5
import Derived.Test.YtdildcdilhgdkaaGreatDoorPlE
namespace Go.Proofs.YtdildcdilhgdkaaGreatDoor
open Go.Ev
set_option linter.unusedVariables false
set_option linter.unusedSimpArgs false
set_option maxRecDepth 100000
-- impl.IntersectPolygons
noncomputable def s13 : Ctr := fun
  | [.arr a_n K6x a_c, .arr b_n K6x b_c] => some (Nat.ble (a_n) 1048576 && Nat.ble (b_n) 1048576, AV.tup [AV.row (inO a_n a_c b_n b_c && Nat.blt 0 (inC a_n a_c b_n b_c).1) 35 (inN a_n a_c b_n b_c) K6x (inI a_n a_c b_n b_c), iv (inE a_n a_c b_n b_c)])
  | _ => none
theorem e13 (a_n : Nat) (a_c : NNI) (b_n : Nat) (b_c : NNI) (hp : (Nat.ble (a_n) 1048576 && Nat.ble (b_n) 1048576) = true) : evW Tryz.prog GLv Γ118 (0) (⟨[], [], [(19, [0]), (20, [1])], 2, [some (35, K6x), none]⟩)  Tryz.f13 [.arr a_n K6x a_c, .arr b_n K6x b_c] = some (AV.tup [AV.row (inO a_n a_c b_n b_c && Nat.blt 0 (inC a_n a_c b_n b_c).1) 35 (inN a_n a_c b_n b_c) K6x (inI a_n a_c b_n b_c), iv (inE a_n a_c b_n b_c)]) := by
  rw [Bool.and_eq_true] at hp
  refine (show _ = cond (Nat.ble (a_n) 1048576) (cond (!(vpI a_n a_c)) (some (AV.tup [AV.row false 35 0 K6x fun _ _ => 0, iv 1])) (cond (Nat.ble (b_n) 1048576) (cond (!(vpI b_n b_c)) (some (AV.tup [AV.row false 35 0 K6x fun _ _ => 0, iv 1])) (cond (inV a_n a_c b_n b_c) (cond (Nat.ble (inD a_n a_c b_n b_c).1 1000000 && allF (cqK (inD a_n a_c b_n b_c).2) 0 (inD a_n a_c b_n b_c).1) (cond (!(cqB (inD a_n a_c b_n b_c).1 (inD a_n a_c b_n b_c).2)) (some (AV.tup [AV.row false 35 0 K6x fun _ _ => 0, iv 2])) (some (AV.tup [AV.row ((cqB (inD a_n a_c b_n b_c).1 (inD a_n a_c b_n b_c).2) && Nat.blt 0 (inD a_n a_c b_n b_c).1) 35 (cond (cqB (inD a_n a_c b_n b_c).1 (inD a_n a_c b_n b_c).2) (inD a_n a_c b_n b_c).1 0) K6x (cond (cqB (inD a_n a_c b_n b_c).1 (inD a_n a_c b_n b_c).2) (cqD (inD a_n a_c b_n b_c).1 (inD a_n a_c b_n b_c).2) zeroC), iv 0]))) (none)) (none))) (none))) (none) from by kernel_rfl).trans ?_
  rw [hp.1, hp.2, vp_eq, vp_eq]
  cases hV : inV a_n a_c b_n b_c with
  | false =>
    have hV' := hV
    unfold inV at hV'
    unfold inN inI inE inO
    rw [hV]
    cases ha : vpS a_n a_c with
    | false => rfl
    | true =>
      rw [ha, Bool.true_and] at hV'
      rw [hV']
      rfl
  | true =>
    have hV' := hV
    unfold inV at hV'
    rw [Bool.and_eq_true] at hV'
    have ok := in_ok hV
    have hn := ok.hn
    rw [hV'.1, hV'.2, ok.e, ok.k1, ok.q, show Nat.ble (inC a_n a_c b_n b_c).1 1000000 = true from Nat.ble_eq_true_of_le (by omega)]
    unfold inN inI inE inO
    rw [hV]
    cases inK a_n a_c b_n b_c <;> rfl
theorem m13 : Meets Tryz.prog GLv 13 s13 := by
  refine meetsW mix0 G118 Tryz.func13 (by kernel_rfl) (by kernel_rfl) s13 fun args x h => ?_
  unfold s13 at h
  split at h
  . rename_i a_n a_c b_n b_c
    simp only [Option.some.injEq, Prod.mk.injEq] at h
    obtain ⟨hp, rfl⟩ := h
    exact ⟨_, _, by kernel_rfl, e13 a_n a_c b_n b_c hp⟩
  . cases h
noncomputable abbrev Γ119 : List (Nat × Ctr) := (13, s13) :: Γ118
theorem G119 : Sound Tryz.prog GLv Γ119 := G118.cons m13
-- spec.IntersectPolygons
noncomputable def s15 : Ctr := fun
  | [.arr a_n K6x a_c, .arr b_n K6x b_c] => some (Nat.ble (a_n) 1048576 && Nat.ble (b_n) 1048576, AV.tup [AV.row (inO a_n a_c b_n b_c && Nat.blt 0 (inC a_n a_c b_n b_c).1) 35 (inN a_n a_c b_n b_c) K6x (inT a_n a_c b_n b_c), iv (inE a_n a_c b_n b_c)])
  | _ => none
theorem e15 (a_n : Nat) (a_c : NNI) (b_n : Nat) (b_c : NNI) (hp : (Nat.ble (a_n) 1048576 && Nat.ble (b_n) 1048576) = true) : evW Tryz.prog GLv Γ119 (0) (⟨[], [], [(18, [0]), (20, [1]), (21, [2]), (22, [3])], 4, [some (35, K6x), none]⟩)  Tryz.f15 [.arr a_n K6x a_c, .arr b_n K6x b_c] = some (AV.tup [AV.row (inO a_n a_c b_n b_c && Nat.blt 0 (inC a_n a_c b_n b_c).1) 35 (inN a_n a_c b_n b_c) K6x (inT a_n a_c b_n b_c), iv (inE a_n a_c b_n b_c)]) := by
  rw [Bool.and_eq_true] at hp
  refine (show _ = cond (Nat.ble (a_n) 1048576) (cond (!(vpS a_n a_c)) (some (AV.tup [AV.row false 35 0 K6x fun _ _ => 0, iv 1])) (cond (Nat.ble (b_n) 1048576) (cond (!(vpS b_n b_c)) (some (AV.tup [AV.row false 35 0 K6x fun _ _ => 0, iv 1])) (cond (inB (a_n : Int) 1 1048576) (cond (inB (b_n : Int) 1 1048576) (cond (inV a_n (wideC a_n a_c) b_n (wideC b_n b_c)) (cond (Nat.ble (inC a_n (wideC a_n a_c) b_n (wideC b_n b_c)).1 1000000 && allF (cqK (inC a_n (wideC a_n a_c) b_n (wideC b_n b_c)).2) 0 (inC a_n (wideC a_n a_c) b_n (wideC b_n b_c)).1) (cond (!(cqB (inC a_n (wideC a_n a_c) b_n (wideC b_n b_c)).1 (inC a_n (wideC a_n a_c) b_n (wideC b_n b_c)).2)) (some (AV.tup [AV.row false 35 0 K6x fun _ _ => 0, iv 2])) (some (AV.tup [AV.row ((cqB (inC a_n (wideC a_n a_c) b_n (wideC b_n b_c)).1 (inC a_n (wideC a_n a_c) b_n (wideC b_n b_c)).2) && Nat.blt 0 (inC a_n (wideC a_n a_c) b_n (wideC b_n b_c)).1) 35 (cond (cqB (inC a_n (wideC a_n a_c) b_n (wideC b_n b_c)).1 (inC a_n (wideC a_n a_c) b_n (wideC b_n b_c)).2) (inC a_n (wideC a_n a_c) b_n (wideC b_n b_c)).1 0) K6x (cond ((cqB (inC a_n (wideC a_n a_c) b_n (wideC b_n b_c)).1 (inC a_n (wideC a_n a_c) b_n (wideC b_n b_c)).2) && Nat.blt 0 (inC a_n (wideC a_n a_c) b_n (wideC b_n b_c)).1) (ctD (inC a_n (wideC a_n a_c) b_n (wideC b_n b_c)).1 (inC a_n (wideC a_n a_c) b_n (wideC b_n b_c)).2) zeroC), iv 0]))) (none)) (none)) (none)) (none))) (none))) (none) from by kernel_rfl).trans ?_
  rw [hp.1, hp.2]
  cases hV : inV a_n a_c b_n b_c with
  | false =>
    have hV' := hV
    unfold inV at hV'
    unfold inN inT inE inO
    rw [hV]
    cases ha : vpS a_n a_c with
    | false => rfl
    | true =>
      rw [ha, Bool.true_and] at hV'
      rw [hV']
      rfl
  | true =>
    have hV' := hV
    unfold inV at hV'
    rw [Bool.and_eq_true] at hV'
    have ok := in_ok hV
    have hn := ok.hn
    obtain ⟨a3, a16, _⟩ := vpS_in hV'.1
    obtain ⟨b3, b16, _⟩ := vpS_in hV'.2
    have eC : inC a_n (wideC a_n a_c) b_n (wideC b_n b_c) = inC a_n a_c b_n b_c := cmS_wide (by omega)
    have eV : inV a_n (wideC a_n a_c) b_n (wideC b_n b_c) = true := by unfold inV; rw [vpS_wide, vpS_wide, hV'.1, hV'.2]; rfl
    rw [hV'.1, hV'.2, eC, eV, ok.k2, show Nat.ble (inC a_n a_c b_n b_c).1 1000000 = true from Nat.ble_eq_true_of_le (by omega), show inB (a_n : Int) 1 1048576 = true from inB_iff.2 (by omega), show inB (b_n : Int) 1 1048576 = true from inB_iff.2 (by omega)]
    unfold inN inT inE inO
    rw [hV]
    change cond true (cond true (cond true (cond true (cond (!(inK a_n a_c b_n b_c)) _ (some (AV.tup [AV.row (inK a_n a_c b_n b_c && Nat.blt 0 (inC a_n a_c b_n b_c).1) _ (cond (inK a_n a_c b_n b_c) _ 0) _ (cond (inK a_n a_c b_n b_c && Nat.blt 0 (inC a_n a_c b_n b_c).1) _ zeroC), _]))) none) none) none) none = _
    cases inK a_n a_c b_n b_c <;> rfl
theorem m15 : Meets Tryz.prog GLv 15 s15 := by
  refine meetsW mix0 G119 Tryz.func15 (by kernel_rfl) (by kernel_rfl) s15 fun args x h => ?_
  unfold s15 at h
  split at h
  . rename_i a_n a_c b_n b_c
    simp only [Option.some.injEq, Prod.mk.injEq] at h
    obtain ⟨hp, rfl⟩ := h
    exact ⟨_, _, by kernel_rfl, e15 a_n a_c b_n b_c hp⟩
  . cases h
noncomputable abbrev Γ120 : List (Nat × Ctr) := (15, s15) :: Γ119
theorem G120 : Sound Tryz.prog GLv Γ120 := G119.cons m15
end Go.Proofs.YtdildcdilhgdkaaGreatDoor
