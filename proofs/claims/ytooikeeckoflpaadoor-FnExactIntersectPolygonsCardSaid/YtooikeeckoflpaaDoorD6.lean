/- Contracts of the program's functions, by the evaluator. -/
import Derived.Test.YtooikeeckoflpaaDoorD5
import Derived.Test.YtooikeeckoflpaaDoorPlE
namespace Go.Proofs.YtooikeeckoflpaaDoor
open Go.Ev
set_option linter.unusedVariables false
set_option linter.unusedSimpArgs false
set_option maxRecDepth 100000

-- impl.IntersectPolygons
def s22 : Ctr := fun
  | [.arr a_n [.int .i64, .int .i64, .int .i64, .int .i64, .int .i64, .int .i64] a_c, .arr b_n [.int .i64, .int .i64, .int .i64, .int .i64, .int .i64, .int .i64] b_c] => some (Nat.ble (a_n) 1048576 && Nat.ble (b_n) 1048576, AV.tup [AV.row (inO a_n a_c b_n b_c && Nat.blt 0 (inC a_n a_c b_n b_c).1) 62 (inN a_n a_c b_n b_c) [.int .i64, .int .i64, .int .i64, .int .i64, .int .i64, .int .i64] (inI a_n a_c b_n b_c), iv (inE a_n a_c b_n b_c)])
  | _ => none

theorem e22 (a_n : Nat) (a_c : Nat → Nat → Int) (b_n : Nat) (b_c : Nat → Nat → Int) (hp : (Nat.ble (a_n) 1048576 && Nat.ble (b_n) 1048576) = true) : evW Tryd.prog GLv Γ123 (0) (⟨[], [], [(19, [0]), (20, [1])], 2, [some (62, [.int .i64, .int .i64, .int .i64, .int .i64, .int .i64, .int .i64]), none]⟩)  Tryd.f22 [.arr a_n [.int .i64, .int .i64, .int .i64, .int .i64, .int .i64, .int .i64] a_c, .arr b_n [.int .i64, .int .i64, .int .i64, .int .i64, .int .i64, .int .i64] b_c] = some (AV.tup [AV.row (inO a_n a_c b_n b_c && Nat.blt 0 (inC a_n a_c b_n b_c).1) 62 (inN a_n a_c b_n b_c) [.int .i64, .int .i64, .int .i64, .int .i64, .int .i64, .int .i64] (inI a_n a_c b_n b_c), iv (inE a_n a_c b_n b_c)]) := by
  rw [Bool.and_eq_true] at hp
  refine (show _ = cond (Nat.ble (a_n) 1048576) (cond (!(vpI a_n a_c)) (some (AV.tup [AV.row false 62 0 [.int .i64, .int .i64, .int .i64, .int .i64, .int .i64, .int .i64] fun _ _ => 0, iv 1])) (cond (Nat.ble (b_n) 1048576) (cond (!(vpI b_n b_c)) (some (AV.tup [AV.row false 62 0 [.int .i64, .int .i64, .int .i64, .int .i64, .int .i64, .int .i64] fun _ _ => 0, iv 1])) (cond (inV a_n a_c b_n b_c) (cond (Nat.ble (inD a_n a_c b_n b_c).1 1000000 && allF (cqK (inD a_n a_c b_n b_c).2) 0 (inD a_n a_c b_n b_c).1) (cond (!(cqB (inD a_n a_c b_n b_c).1 (inD a_n a_c b_n b_c).2)) (some (AV.tup [AV.row false 62 0 [.int .i64, .int .i64, .int .i64, .int .i64, .int .i64, .int .i64] fun _ _ => 0, iv 2])) (some (AV.tup [AV.row ((cqB (inD a_n a_c b_n b_c).1 (inD a_n a_c b_n b_c).2) && Nat.blt 0 (inD a_n a_c b_n b_c).1) 62 (cond (cqB (inD a_n a_c b_n b_c).1 (inD a_n a_c b_n b_c).2) (inD a_n a_c b_n b_c).1 0) [.int .i64, .int .i64, .int .i64, .int .i64, .int .i64, .int .i64] (cond (cqB (inD a_n a_c b_n b_c).1 (inD a_n a_c b_n b_c).2) (cqD (inD a_n a_c b_n b_c).1 (inD a_n a_c b_n b_c).2) zeroC), iv 0]))) (none)) (none))) (none))) (none) from by kernel_rfl).trans ?_
  rw [hp.1, hp.2, vp_eq, vp_eq]
  cases hV : inV a_n a_c b_n b_c with
  | false =>
    have hV' := hV
    unfold inV at hV'
    unfold inN inI inE inO
    rw [hV]
    cases ha : vpS a_n a_c with
    | false => rfl
    | true =>
      rw [ha, Bool.true_and] at hV'
      rw [hV']
      rfl
  | true =>
    have hV' := hV
    unfold inV at hV'
    rw [Bool.and_eq_true] at hV'
    have ok := in_ok hV
    have hn := ok.hn
    rw [hV'.1, hV'.2, ok.e, ok.k1, ok.q, show Nat.ble (inC a_n a_c b_n b_c).1 1000000 = true from Nat.ble_eq_true_of_le (by omega)]
    unfold inN inI inE inO
    rw [hV]
    cases inK a_n a_c b_n b_c <;> rfl
theorem m22 : Meets Tryd.prog GLv 22 s22 := by
  refine meetsW mix0 G123 Tryd.func22 (by kernel_rfl) (by kernel_rfl) s22 fun args x h => ?_
  unfold s22 at h
  split at h
  · rename_i a_n a_c b_n b_c
    simp only [Option.some.injEq, Prod.mk.injEq] at h
    obtain ⟨hp, rfl⟩ := h
    exact ⟨_, _, by kernel_rfl, e22 a_n a_c b_n b_c hp⟩
  · cases h
abbrev Γ124 : List (Nat × Ctr) := (22, s22) :: Γ123
theorem G124 : Sound Tryd.prog GLv Γ124 := G123.cons m22

-- spec.IntersectPolygons
def s21 : Ctr := fun
  | [.arr a_n [.int .i64, .int .i64, .int .i64, .int .i64, .int .i64, .int .i64] a_c, .arr b_n [.int .i64, .int .i64, .int .i64, .int .i64, .int .i64, .int .i64] b_c] => some (Nat.ble (a_n) 1048576 && Nat.ble (b_n) 1048576, AV.tup [AV.row (inO a_n a_c b_n b_c && Nat.blt 0 (inC a_n a_c b_n b_c).1) 62 (inN a_n a_c b_n b_c) [.int .i64, .int .i64, .int .i64, .int .i64, .int .i64, .int .i64] (inT a_n a_c b_n b_c), iv (inE a_n a_c b_n b_c)])
  | _ => none

theorem e21 (a_n : Nat) (a_c : Nat → Nat → Int) (b_n : Nat) (b_c : Nat → Nat → Int) (hp : (Nat.ble (a_n) 1048576 && Nat.ble (b_n) 1048576) = true) : evW Tryd.prog GLv Γ124 (0) (⟨[], [], [(18, [0]), (20, [1]), (21, [2]), (22, [3])], 4, [some (62, [.int .i64, .int .i64, .int .i64, .int .i64, .int .i64, .int .i64]), none]⟩)  Tryd.f21 [.arr a_n [.int .i64, .int .i64, .int .i64, .int .i64, .int .i64, .int .i64] a_c, .arr b_n [.int .i64, .int .i64, .int .i64, .int .i64, .int .i64, .int .i64] b_c] = some (AV.tup [AV.row (inO a_n a_c b_n b_c && Nat.blt 0 (inC a_n a_c b_n b_c).1) 62 (inN a_n a_c b_n b_c) [.int .i64, .int .i64, .int .i64, .int .i64, .int .i64, .int .i64] (inT a_n a_c b_n b_c), iv (inE a_n a_c b_n b_c)]) := by
  rw [Bool.and_eq_true] at hp
  refine (show _ = cond (Nat.ble (a_n) 1048576) (cond (!(vpS a_n a_c)) (some (AV.tup [AV.row false 62 0 [.int .i64, .int .i64, .int .i64, .int .i64, .int .i64, .int .i64] fun _ _ => 0, iv 1])) (cond (Nat.ble (b_n) 1048576) (cond (!(vpS b_n b_c)) (some (AV.tup [AV.row false 62 0 [.int .i64, .int .i64, .int .i64, .int .i64, .int .i64, .int .i64] fun _ _ => 0, iv 1])) (cond (inB (a_n : Int) 1 1048576) (cond (inB (b_n : Int) 1 1048576) (cond (inV a_n (wideC a_n a_c) b_n (wideC b_n b_c)) (cond (Nat.ble (inC a_n (wideC a_n a_c) b_n (wideC b_n b_c)).1 1000000 && allF (cqK (inC a_n (wideC a_n a_c) b_n (wideC b_n b_c)).2) 0 (inC a_n (wideC a_n a_c) b_n (wideC b_n b_c)).1) (cond (!(cqB (inC a_n (wideC a_n a_c) b_n (wideC b_n b_c)).1 (inC a_n (wideC a_n a_c) b_n (wideC b_n b_c)).2)) (some (AV.tup [AV.row false 62 0 [.int .i64, .int .i64, .int .i64, .int .i64, .int .i64, .int .i64] fun _ _ => 0, iv 2])) (some (AV.tup [AV.row ((cqB (inC a_n (wideC a_n a_c) b_n (wideC b_n b_c)).1 (inC a_n (wideC a_n a_c) b_n (wideC b_n b_c)).2) && Nat.blt 0 (inC a_n (wideC a_n a_c) b_n (wideC b_n b_c)).1) 62 (cond (cqB (inC a_n (wideC a_n a_c) b_n (wideC b_n b_c)).1 (inC a_n (wideC a_n a_c) b_n (wideC b_n b_c)).2) (inC a_n (wideC a_n a_c) b_n (wideC b_n b_c)).1 0) [.int .i64, .int .i64, .int .i64, .int .i64, .int .i64, .int .i64] (cond ((cqB (inC a_n (wideC a_n a_c) b_n (wideC b_n b_c)).1 (inC a_n (wideC a_n a_c) b_n (wideC b_n b_c)).2) && Nat.blt 0 (inC a_n (wideC a_n a_c) b_n (wideC b_n b_c)).1) (ctD (inC a_n (wideC a_n a_c) b_n (wideC b_n b_c)).1 (inC a_n (wideC a_n a_c) b_n (wideC b_n b_c)).2) zeroC), iv 0]))) (none)) (none)) (none)) (none))) (none))) (none) from by kernel_rfl).trans ?_
  rw [hp.1, hp.2]
  cases hV : inV a_n a_c b_n b_c with
  | false =>
    have hV' := hV
    unfold inV at hV'
    unfold inN inT inE inO
    rw [hV]
    cases ha : vpS a_n a_c with
    | false => rfl
    | true =>
      rw [ha, Bool.true_and] at hV'
      rw [hV']
      rfl
  | true =>
    have hV' := hV
    unfold inV at hV'
    rw [Bool.and_eq_true] at hV'
    have ok := in_ok hV
    have hn := ok.hn
    obtain ⟨a3, a16, _⟩ := vpS_in hV'.1
    obtain ⟨b3, b16, _⟩ := vpS_in hV'.2
    have eC : inC a_n (wideC a_n a_c) b_n (wideC b_n b_c) = inC a_n a_c b_n b_c := cmS_wide (by omega)
    have eV : inV a_n (wideC a_n a_c) b_n (wideC b_n b_c) = true := by unfold inV; rw [vpS_wide, vpS_wide, hV'.1, hV'.2]; rfl
    rw [hV'.1, hV'.2, eC, eV, ok.k2, show Nat.ble (inC a_n a_c b_n b_c).1 1000000 = true from Nat.ble_eq_true_of_le (by omega), show inB (a_n : Int) 1 1048576 = true from inB_iff.2 (by omega), show inB (b_n : Int) 1 1048576 = true from inB_iff.2 (by omega)]
    unfold inN inT inE inO
    rw [hV]
    change cond true (cond true (cond true (cond true (cond (!(inK a_n a_c b_n b_c)) _ (some (AV.tup [AV.row (inK a_n a_c b_n b_c && Nat.blt 0 (inC a_n a_c b_n b_c).1) _ (cond (inK a_n a_c b_n b_c) _ 0) _ (cond (inK a_n a_c b_n b_c && Nat.blt 0 (inC a_n a_c b_n b_c).1) _ zeroC), _]))) none) none) none) none = _
    cases inK a_n a_c b_n b_c <;> rfl
theorem m21 : Meets Tryd.prog GLv 21 s21 := by
  refine meetsW mix0 G124 Tryd.func21 (by kernel_rfl) (by kernel_rfl) s21 fun args x h => ?_
  unfold s21 at h
  split at h
  · rename_i a_n a_c b_n b_c
    simp only [Option.some.injEq, Prod.mk.injEq] at h
    obtain ⟨hp, rfl⟩ := h
    exact ⟨_, _, by kernel_rfl, e21 a_n a_c b_n b_c hp⟩
  · cases h
abbrev Γ125 : List (Nat × Ctr) := (21, s21) :: Γ124
theorem G125 : Sound Tryd.prog GLv Γ125 := G124.cons m21

end Go.Proofs.YtooikeeckoflpaaDoor
