/- Contracts of the program's functions, by the evaluator. -/
import Derived.Test.YtdildcdilhgdkaaGreatDoorC17
import Derived.Test.YtdildcdilhgdkaaGreatDoorPlD
namespace Go.Proofs.YtdildcdilhgdkaaGreatDoor
open Go.Ev
set_option linter.unusedVariables false
set_option linter.unusedSimpArgs false
set_option maxRecDepth 100000
-- spec.l03Cut
noncomputable def s27 : Ctr := fun
  | [.arr a_n K6x a_c, .agg [.val (.int .i64 l_d), .val (.int .i64 l_a), .val (.int .i64 l_b), .val (.int .i64 l_k)]] => some (cutV (⟨l_d, (⟨l_a, l_b, l_k⟩ : N3)⟩ : Ln) a_n a_c, AV.tup [AV.row (cqB (ptN (⟨l_d, (⟨l_a, l_b, l_k⟩ : N3)⟩ : Ln) (1) a_n a_c) (ptS (⟨l_d, (⟨l_a, l_b, l_k⟩ : N3)⟩ : Ln) (1) a_n a_c) && Nat.blt 0 (ptN (⟨l_d, (⟨l_a, l_b, l_k⟩ : N3)⟩ : Ln) (1) a_n a_c)) 35 (cond (cqB (ptN (⟨l_d, (⟨l_a, l_b, l_k⟩ : N3)⟩ : Ln) (1) a_n a_c) (ptS (⟨l_d, (⟨l_a, l_b, l_k⟩ : N3)⟩ : Ln) (1) a_n a_c)) (ptN (⟨l_d, (⟨l_a, l_b, l_k⟩ : N3)⟩ : Ln) (1) a_n a_c) 0) K6x (cond (cqB (ptN (⟨l_d, (⟨l_a, l_b, l_k⟩ : N3)⟩ : Ln) (1) a_n a_c) (ptS (⟨l_d, (⟨l_a, l_b, l_k⟩ : N3)⟩ : Ln) (1) a_n a_c) && Nat.blt 0 (ptN (⟨l_d, (⟨l_a, l_b, l_k⟩ : N3)⟩ : Ln) (1) a_n a_c)) (ctD (ptN (⟨l_d, (⟨l_a, l_b, l_k⟩ : N3)⟩ : Ln) (1) a_n a_c) (ptS (⟨l_d, (⟨l_a, l_b, l_k⟩ : N3)⟩ : Ln) (1) a_n a_c)) zeroC), AV.row (cqB (ptN (⟨l_d, (⟨l_a, l_b, l_k⟩ : N3)⟩ : Ln) (-1) a_n a_c) (ptS (⟨l_d, (⟨l_a, l_b, l_k⟩ : N3)⟩ : Ln) (-1) a_n a_c) && Nat.blt 0 (ptN (⟨l_d, (⟨l_a, l_b, l_k⟩ : N3)⟩ : Ln) (-1) a_n a_c)) 35 (cond (cqB (ptN (⟨l_d, (⟨l_a, l_b, l_k⟩ : N3)⟩ : Ln) (-1) a_n a_c) (ptS (⟨l_d, (⟨l_a, l_b, l_k⟩ : N3)⟩ : Ln) (-1) a_n a_c)) (ptN (⟨l_d, (⟨l_a, l_b, l_k⟩ : N3)⟩ : Ln) (-1) a_n a_c) 0) K6x (cond (cqB (ptN (⟨l_d, (⟨l_a, l_b, l_k⟩ : N3)⟩ : Ln) (-1) a_n a_c) (ptS (⟨l_d, (⟨l_a, l_b, l_k⟩ : N3)⟩ : Ln) (-1) a_n a_c) && Nat.blt 0 (ptN (⟨l_d, (⟨l_a, l_b, l_k⟩ : N3)⟩ : Ln) (-1) a_n a_c)) (ctD (ptN (⟨l_d, (⟨l_a, l_b, l_k⟩ : N3)⟩ : Ln) (-1) a_n a_c) (ptS (⟨l_d, (⟨l_a, l_b, l_k⟩ : N3)⟩ : Ln) (-1) a_n a_c)) zeroC), bv (cqB (ptN (⟨l_d, (⟨l_a, l_b, l_k⟩ : N3)⟩ : Ln) (1) a_n a_c) (ptS (⟨l_d, (⟨l_a, l_b, l_k⟩ : N3)⟩ : Ln) (1) a_n a_c) && cqB (ptN (⟨l_d, (⟨l_a, l_b, l_k⟩ : N3)⟩ : Ln) (-1) a_n a_c) (ptS (⟨l_d, (⟨l_a, l_b, l_k⟩ : N3)⟩ : Ln) (-1) a_n a_c))])
  | _ => none
theorem e27 (a_n : Nat) (a_c : NNI) (l_d : Int) (l_a : Int) (l_b : Int) (l_k : Int) (hp : (cutV (⟨l_d, (⟨l_a, l_b, l_k⟩ : N3)⟩ : Ln) a_n a_c) = true) : evW Tryz.prog GLv Γ106 (0) (⟨[], [], [(13, [0]), (18, [1]), (19, [2]), (26, [1]), (27, [3])], 4, [some (35, K6x), some (35, K6x), none]⟩)  Tryz.f27 [.arr a_n K6x a_c, .agg [.val (.int .i64 l_d), .val (.int .i64 l_a), .val (.int .i64 l_b), .val (.int .i64 l_k)]] = some (AV.tup [AV.row (cqB (ptN (⟨l_d, (⟨l_a, l_b, l_k⟩ : N3)⟩ : Ln) (1) a_n a_c) (ptS (⟨l_d, (⟨l_a, l_b, l_k⟩ : N3)⟩ : Ln) (1) a_n a_c) && Nat.blt 0 (ptN (⟨l_d, (⟨l_a, l_b, l_k⟩ : N3)⟩ : Ln) (1) a_n a_c)) 35 (cond (cqB (ptN (⟨l_d, (⟨l_a, l_b, l_k⟩ : N3)⟩ : Ln) (1) a_n a_c) (ptS (⟨l_d, (⟨l_a, l_b, l_k⟩ : N3)⟩ : Ln) (1) a_n a_c)) (ptN (⟨l_d, (⟨l_a, l_b, l_k⟩ : N3)⟩ : Ln) (1) a_n a_c) 0) K6x (cond (cqB (ptN (⟨l_d, (⟨l_a, l_b, l_k⟩ : N3)⟩ : Ln) (1) a_n a_c) (ptS (⟨l_d, (⟨l_a, l_b, l_k⟩ : N3)⟩ : Ln) (1) a_n a_c) && Nat.blt 0 (ptN (⟨l_d, (⟨l_a, l_b, l_k⟩ : N3)⟩ : Ln) (1) a_n a_c)) (ctD (ptN (⟨l_d, (⟨l_a, l_b, l_k⟩ : N3)⟩ : Ln) (1) a_n a_c) (ptS (⟨l_d, (⟨l_a, l_b, l_k⟩ : N3)⟩ : Ln) (1) a_n a_c)) zeroC), AV.row (cqB (ptN (⟨l_d, (⟨l_a, l_b, l_k⟩ : N3)⟩ : Ln) (-1) a_n a_c) (ptS (⟨l_d, (⟨l_a, l_b, l_k⟩ : N3)⟩ : Ln) (-1) a_n a_c) && Nat.blt 0 (ptN (⟨l_d, (⟨l_a, l_b, l_k⟩ : N3)⟩ : Ln) (-1) a_n a_c)) 35 (cond (cqB (ptN (⟨l_d, (⟨l_a, l_b, l_k⟩ : N3)⟩ : Ln) (-1) a_n a_c) (ptS (⟨l_d, (⟨l_a, l_b, l_k⟩ : N3)⟩ : Ln) (-1) a_n a_c)) (ptN (⟨l_d, (⟨l_a, l_b, l_k⟩ : N3)⟩ : Ln) (-1) a_n a_c) 0) K6x (cond (cqB (ptN (⟨l_d, (⟨l_a, l_b, l_k⟩ : N3)⟩ : Ln) (-1) a_n a_c) (ptS (⟨l_d, (⟨l_a, l_b, l_k⟩ : N3)⟩ : Ln) (-1) a_n a_c) && Nat.blt 0 (ptN (⟨l_d, (⟨l_a, l_b, l_k⟩ : N3)⟩ : Ln) (-1) a_n a_c)) (ctD (ptN (⟨l_d, (⟨l_a, l_b, l_k⟩ : N3)⟩ : Ln) (-1) a_n a_c) (ptS (⟨l_d, (⟨l_a, l_b, l_k⟩ : N3)⟩ : Ln) (-1) a_n a_c)) zeroC), bv (cqB (ptN (⟨l_d, (⟨l_a, l_b, l_k⟩ : N3)⟩ : Ln) (1) a_n a_c) (ptS (⟨l_d, (⟨l_a, l_b, l_k⟩ : N3)⟩ : Ln) (1) a_n a_c) && cqB (ptN (⟨l_d, (⟨l_a, l_b, l_k⟩ : N3)⟩ : Ln) (-1) a_n a_c) (ptS (⟨l_d, (⟨l_a, l_b, l_k⟩ : N3)⟩ : Ln) (-1) a_n a_c))]) := by
  unfold cutV at hp
  rw [Bool.and_eq_true] at hp
  obtain ⟨hv, hl⟩ := hp
  obtain ⟨h3, h16, _⟩ := vpS_in hv
  obtain ⟨p1, _, p3, _⟩ := pt_same (sd := 1) (.inl rfl) hl hv
  obtain ⟨r1, _, r3, _⟩ := pt_same (sd := -1) (.inr rfl) hl hv
  have hw : vpS a_n (wideC a_n a_c) = true := by rw [vpS_wide]; exact hv
  refine (show _ = cond (inB (a_n : Int) 1 1048576) (cond (inB (a_n : Int) 1 1000 && hfB (⟨l_d, (⟨l_a, l_b, l_k⟩ : N3)⟩ : Ln) 1 a_n (wideC a_n a_c)) (cond (Nat.ble (ptN (⟨l_d, (⟨l_a, l_b, l_k⟩ : N3)⟩ : Ln) (1) a_n (wideC a_n a_c)) 1000000 && allF (cqK (ptS (⟨l_d, (⟨l_a, l_b, l_k⟩ : N3)⟩ : Ln) (1) a_n (wideC a_n a_c))) 0 (ptN (⟨l_d, (⟨l_a, l_b, l_k⟩ : N3)⟩ : Ln) (1) a_n (wideC a_n a_c))) (cond (inB (a_n : Int) 1 1000 && hfB (⟨l_d, (⟨l_a, l_b, l_k⟩ : N3)⟩ : Ln) (-1) a_n (wideC a_n a_c)) (cond (Nat.ble (ptN (⟨l_d, (⟨l_a, l_b, l_k⟩ : N3)⟩ : Ln) (-1) a_n (wideC a_n a_c)) 1000000 && allF (cqK (ptS (⟨l_d, (⟨l_a, l_b, l_k⟩ : N3)⟩ : Ln) (-1) a_n (wideC a_n a_c))) 0 (ptN (⟨l_d, (⟨l_a, l_b, l_k⟩ : N3)⟩ : Ln) (-1) a_n (wideC a_n a_c))) (cond (cqB (ptN (⟨l_d, (⟨l_a, l_b, l_k⟩ : N3)⟩ : Ln) (1) a_n (wideC a_n a_c)) (ptS (⟨l_d, (⟨l_a, l_b, l_k⟩ : N3)⟩ : Ln) (1) a_n (wideC a_n a_c))) (some (AV.tup [AV.row (cqB (ptN (⟨l_d, (⟨l_a, l_b, l_k⟩ : N3)⟩ : Ln) (1) a_n (wideC a_n a_c)) (ptS (⟨l_d, (⟨l_a, l_b, l_k⟩ : N3)⟩ : Ln) (1) a_n (wideC a_n a_c)) && Nat.blt 0 (ptN (⟨l_d, (⟨l_a, l_b, l_k⟩ : N3)⟩ : Ln) (1) a_n (wideC a_n a_c))) 35 (cond (cqB (ptN (⟨l_d, (⟨l_a, l_b, l_k⟩ : N3)⟩ : Ln) (1) a_n (wideC a_n a_c)) (ptS (⟨l_d, (⟨l_a, l_b, l_k⟩ : N3)⟩ : Ln) (1) a_n (wideC a_n a_c))) (ptN (⟨l_d, (⟨l_a, l_b, l_k⟩ : N3)⟩ : Ln) (1) a_n (wideC a_n a_c)) 0) K6x (cond (cqB (ptN (⟨l_d, (⟨l_a, l_b, l_k⟩ : N3)⟩ : Ln) (1) a_n (wideC a_n a_c)) (ptS (⟨l_d, (⟨l_a, l_b, l_k⟩ : N3)⟩ : Ln) (1) a_n (wideC a_n a_c)) && Nat.blt 0 (ptN (⟨l_d, (⟨l_a, l_b, l_k⟩ : N3)⟩ : Ln) (1) a_n (wideC a_n a_c))) (ctD (ptN (⟨l_d, (⟨l_a, l_b, l_k⟩ : N3)⟩ : Ln) (1) a_n (wideC a_n a_c)) (ptS (⟨l_d, (⟨l_a, l_b, l_k⟩ : N3)⟩ : Ln) (1) a_n (wideC a_n a_c))) zeroC), AV.row (cqB (ptN (⟨l_d, (⟨l_a, l_b, l_k⟩ : N3)⟩ : Ln) (-1) a_n (wideC a_n a_c)) (ptS (⟨l_d, (⟨l_a, l_b, l_k⟩ : N3)⟩ : Ln) (-1) a_n (wideC a_n a_c)) && Nat.blt 0 (ptN (⟨l_d, (⟨l_a, l_b, l_k⟩ : N3)⟩ : Ln) (-1) a_n (wideC a_n a_c))) 35 (cond (cqB (ptN (⟨l_d, (⟨l_a, l_b, l_k⟩ : N3)⟩ : Ln) (-1) a_n (wideC a_n a_c)) (ptS (⟨l_d, (⟨l_a, l_b, l_k⟩ : N3)⟩ : Ln) (-1) a_n (wideC a_n a_c))) (ptN (⟨l_d, (⟨l_a, l_b, l_k⟩ : N3)⟩ : Ln) (-1) a_n (wideC a_n a_c)) 0) K6x (cond (cqB (ptN (⟨l_d, (⟨l_a, l_b, l_k⟩ : N3)⟩ : Ln) (-1) a_n (wideC a_n a_c)) (ptS (⟨l_d, (⟨l_a, l_b, l_k⟩ : N3)⟩ : Ln) (-1) a_n (wideC a_n a_c)) && Nat.blt 0 (ptN (⟨l_d, (⟨l_a, l_b, l_k⟩ : N3)⟩ : Ln) (-1) a_n (wideC a_n a_c))) (ctD (ptN (⟨l_d, (⟨l_a, l_b, l_k⟩ : N3)⟩ : Ln) (-1) a_n (wideC a_n a_c)) (ptS (⟨l_d, (⟨l_a, l_b, l_k⟩ : N3)⟩ : Ln) (-1) a_n (wideC a_n a_c))) zeroC), bv (cqB (ptN (⟨l_d, (⟨l_a, l_b, l_k⟩ : N3)⟩ : Ln) (-1) a_n (wideC a_n a_c)) (ptS (⟨l_d, (⟨l_a, l_b, l_k⟩ : N3)⟩ : Ln) (-1) a_n (wideC a_n a_c)))])) (some (AV.tup [AV.row (cqB (ptN (⟨l_d, (⟨l_a, l_b, l_k⟩ : N3)⟩ : Ln) (1) a_n (wideC a_n a_c)) (ptS (⟨l_d, (⟨l_a, l_b, l_k⟩ : N3)⟩ : Ln) (1) a_n (wideC a_n a_c)) && Nat.blt 0 (ptN (⟨l_d, (⟨l_a, l_b, l_k⟩ : N3)⟩ : Ln) (1) a_n (wideC a_n a_c))) 35 (cond (cqB (ptN (⟨l_d, (⟨l_a, l_b, l_k⟩ : N3)⟩ : Ln) (1) a_n (wideC a_n a_c)) (ptS (⟨l_d, (⟨l_a, l_b, l_k⟩ : N3)⟩ : Ln) (1) a_n (wideC a_n a_c))) (ptN (⟨l_d, (⟨l_a, l_b, l_k⟩ : N3)⟩ : Ln) (1) a_n (wideC a_n a_c)) 0) K6x (cond (cqB (ptN (⟨l_d, (⟨l_a, l_b, l_k⟩ : N3)⟩ : Ln) (1) a_n (wideC a_n a_c)) (ptS (⟨l_d, (⟨l_a, l_b, l_k⟩ : N3)⟩ : Ln) (1) a_n (wideC a_n a_c)) && Nat.blt 0 (ptN (⟨l_d, (⟨l_a, l_b, l_k⟩ : N3)⟩ : Ln) (1) a_n (wideC a_n a_c))) (ctD (ptN (⟨l_d, (⟨l_a, l_b, l_k⟩ : N3)⟩ : Ln) (1) a_n (wideC a_n a_c)) (ptS (⟨l_d, (⟨l_a, l_b, l_k⟩ : N3)⟩ : Ln) (1) a_n (wideC a_n a_c))) zeroC), AV.row (cqB (ptN (⟨l_d, (⟨l_a, l_b, l_k⟩ : N3)⟩ : Ln) (-1) a_n (wideC a_n a_c)) (ptS (⟨l_d, (⟨l_a, l_b, l_k⟩ : N3)⟩ : Ln) (-1) a_n (wideC a_n a_c)) && Nat.blt 0 (ptN (⟨l_d, (⟨l_a, l_b, l_k⟩ : N3)⟩ : Ln) (-1) a_n (wideC a_n a_c))) 35 (cond (cqB (ptN (⟨l_d, (⟨l_a, l_b, l_k⟩ : N3)⟩ : Ln) (-1) a_n (wideC a_n a_c)) (ptS (⟨l_d, (⟨l_a, l_b, l_k⟩ : N3)⟩ : Ln) (-1) a_n (wideC a_n a_c))) (ptN (⟨l_d, (⟨l_a, l_b, l_k⟩ : N3)⟩ : Ln) (-1) a_n (wideC a_n a_c)) 0) K6x (cond (cqB (ptN (⟨l_d, (⟨l_a, l_b, l_k⟩ : N3)⟩ : Ln) (-1) a_n (wideC a_n a_c)) (ptS (⟨l_d, (⟨l_a, l_b, l_k⟩ : N3)⟩ : Ln) (-1) a_n (wideC a_n a_c)) && Nat.blt 0 (ptN (⟨l_d, (⟨l_a, l_b, l_k⟩ : N3)⟩ : Ln) (-1) a_n (wideC a_n a_c))) (ctD (ptN (⟨l_d, (⟨l_a, l_b, l_k⟩ : N3)⟩ : Ln) (-1) a_n (wideC a_n a_c)) (ptS (⟨l_d, (⟨l_a, l_b, l_k⟩ : N3)⟩ : Ln) (-1) a_n (wideC a_n a_c))) zeroC), bv (false)]))) (none)) (none)) (none)) (none)) (none) from by kernel_rfl).trans ?_
  rw [ptN_wide, ptN_wide, ptS_wide, ptS_wide, hfB_valid (.inl rfl) hl hw, hfB_valid (.inr rfl) hl hw, p3, r3, show inB (a_n : Int) 1 1048576 = true from inB_iff.2 (by omega), show inB (a_n : Int) 1 1000 = true from inB_iff.2 (by omega),
    show Nat.ble (ptN (⟨l_d, (⟨l_a, l_b, l_k⟩ : N3)⟩ : Ln) (1) a_n a_c) 1000000 = true from Nat.ble_eq_true_of_le (by omega), show Nat.ble (ptN (⟨l_d, (⟨l_a, l_b, l_k⟩ : N3)⟩ : Ln) (-1) a_n a_c) 1000000 = true from Nat.ble_eq_true_of_le (by omega)]
  simp only [Bool.and_self, cond_true]
  cases cqB (ptN (⟨l_d, (⟨l_a, l_b, l_k⟩ : N3)⟩ : Ln) (1) a_n a_c) (ptS (⟨l_d, (⟨l_a, l_b, l_k⟩ : N3)⟩ : Ln) (1) a_n a_c) <;> rfl
theorem m27 : Meets Tryz.prog GLv 27 s27 := by
  refine meetsW mix0 G106 Tryz.func27 (by kernel_rfl) (by kernel_rfl) s27 fun args x h => ?_
  unfold s27 at h
  split at h
  . rename_i a_n a_c l_d l_a l_b l_k
    simp only [Option.some.injEq, Prod.mk.injEq] at h
    obtain ⟨hp, rfl⟩ := h
    exact ⟨_, _, by kernel_rfl, e27 a_n a_c l_d l_a l_b l_k hp⟩
  . cases h
noncomputable abbrev Γ107 : List (Nat × Ctr) := (27, s27) :: Γ106
theorem G107 : Sound Tryz.prog GLv Γ107 := G106.cons m27
-- spec.CutPolygon
noncomputable def s7 : Ctr := fun
  | [.arr a_n K6x a_c, .agg [.val (.int .i64 l_d), .val (.int .i64 l_a), .val (.int .i64 l_b), .val (.int .i64 l_k)]] => some (Nat.ble (a_n) 1048576, .tup [AV.row (cutO (⟨l_d, (⟨l_a, l_b, l_k⟩ : N3)⟩ : Ln) a_n a_c && Nat.blt 0 (ptN (⟨l_d, (⟨l_a, l_b, l_k⟩ : N3)⟩ : Ln) (1) a_n a_c)) 35 (cutN (⟨l_d, (⟨l_a, l_b, l_k⟩ : N3)⟩ : Ln) (1) a_n a_c) K6x (cutT (⟨l_d, (⟨l_a, l_b, l_k⟩ : N3)⟩ : Ln) (1) a_n a_c), AV.row (cutO (⟨l_d, (⟨l_a, l_b, l_k⟩ : N3)⟩ : Ln) a_n a_c && Nat.blt 0 (ptN (⟨l_d, (⟨l_a, l_b, l_k⟩ : N3)⟩ : Ln) (-1) a_n a_c)) 35 (cutN (⟨l_d, (⟨l_a, l_b, l_k⟩ : N3)⟩ : Ln) (-1) a_n a_c) K6x (cutT (⟨l_d, (⟨l_a, l_b, l_k⟩ : N3)⟩ : Ln) (-1) a_n a_c), iv (cutE (⟨l_d, (⟨l_a, l_b, l_k⟩ : N3)⟩ : Ln) a_n a_c)])
  | _ => none
theorem e7 (a_n : Nat) (a_c : NNI) (l_d : Int) (l_a : Int) (l_b : Int) (l_k : Int) (hp : (Nat.ble (a_n) 1048576) = true) : evW Tryz.prog GLv Γ107 (0) (⟨[], [], [(21, [0, 1])], 2, [some (35, K6x), some (35, K6x), none]⟩)  Tryz.f7 [.arr a_n K6x a_c, .agg [.val (.int .i64 l_d), .val (.int .i64 l_a), .val (.int .i64 l_b), .val (.int .i64 l_k)]] = some (.tup [AV.row (cutO (⟨l_d, (⟨l_a, l_b, l_k⟩ : N3)⟩ : Ln) a_n a_c && Nat.blt 0 (ptN (⟨l_d, (⟨l_a, l_b, l_k⟩ : N3)⟩ : Ln) (1) a_n a_c)) 35 (cutN (⟨l_d, (⟨l_a, l_b, l_k⟩ : N3)⟩ : Ln) (1) a_n a_c) K6x (cutT (⟨l_d, (⟨l_a, l_b, l_k⟩ : N3)⟩ : Ln) (1) a_n a_c), AV.row (cutO (⟨l_d, (⟨l_a, l_b, l_k⟩ : N3)⟩ : Ln) a_n a_c && Nat.blt 0 (ptN (⟨l_d, (⟨l_a, l_b, l_k⟩ : N3)⟩ : Ln) (-1) a_n a_c)) 35 (cutN (⟨l_d, (⟨l_a, l_b, l_k⟩ : N3)⟩ : Ln) (-1) a_n a_c) K6x (cutT (⟨l_d, (⟨l_a, l_b, l_k⟩ : N3)⟩ : Ln) (-1) a_n a_c), iv (cutE (⟨l_d, (⟨l_a, l_b, l_k⟩ : N3)⟩ : Ln) a_n a_c)]) := by
  refine (show _ = cond (Nat.ble (a_n) 1048576) (cond (!(vpS a_n a_c)) (some (AV.tup [AV.row false 35 0 K6x fun _ _ => 0, AV.row false 35 0 K6x fun _ _ => 0, iv 1])) (cond (!(inB l_d 0 7 && validB (⟨l_a, l_b, l_k⟩ : N3))) (some (AV.tup [AV.row false 35 0 K6x fun _ _ => 0, AV.row false 35 0 K6x fun _ _ => 0, iv 1])) (cond (cutV (⟨l_d, (⟨l_a, l_b, l_k⟩ : N3)⟩ : Ln) a_n a_c) (cond (!(cqB (ptN (⟨l_d, (⟨l_a, l_b, l_k⟩ : N3)⟩ : Ln) (1) a_n a_c) (ptS (⟨l_d, (⟨l_a, l_b, l_k⟩ : N3)⟩ : Ln) (1) a_n a_c) && cqB (ptN (⟨l_d, (⟨l_a, l_b, l_k⟩ : N3)⟩ : Ln) (-1) a_n a_c) (ptS (⟨l_d, (⟨l_a, l_b, l_k⟩ : N3)⟩ : Ln) (-1) a_n a_c))) (some (AV.tup [AV.row false 35 0 K6x fun _ _ => 0, AV.row false 35 0 K6x fun _ _ => 0, iv 2])) (some (AV.tup [AV.row (cqB (ptN (⟨l_d, (⟨l_a, l_b, l_k⟩ : N3)⟩ : Ln) (1) a_n a_c) (ptS (⟨l_d, (⟨l_a, l_b, l_k⟩ : N3)⟩ : Ln) (1) a_n a_c) && Nat.blt 0 (ptN (⟨l_d, (⟨l_a, l_b, l_k⟩ : N3)⟩ : Ln) (1) a_n a_c)) 35 (cond (cqB (ptN (⟨l_d, (⟨l_a, l_b, l_k⟩ : N3)⟩ : Ln) (1) a_n a_c) (ptS (⟨l_d, (⟨l_a, l_b, l_k⟩ : N3)⟩ : Ln) (1) a_n a_c)) (ptN (⟨l_d, (⟨l_a, l_b, l_k⟩ : N3)⟩ : Ln) (1) a_n a_c) 0) K6x (cond (cqB (ptN (⟨l_d, (⟨l_a, l_b, l_k⟩ : N3)⟩ : Ln) (1) a_n a_c) (ptS (⟨l_d, (⟨l_a, l_b, l_k⟩ : N3)⟩ : Ln) (1) a_n a_c) && Nat.blt 0 (ptN (⟨l_d, (⟨l_a, l_b, l_k⟩ : N3)⟩ : Ln) (1) a_n a_c)) (ctD (ptN (⟨l_d, (⟨l_a, l_b, l_k⟩ : N3)⟩ : Ln) (1) a_n a_c) (ptS (⟨l_d, (⟨l_a, l_b, l_k⟩ : N3)⟩ : Ln) (1) a_n a_c)) zeroC), AV.row (cqB (ptN (⟨l_d, (⟨l_a, l_b, l_k⟩ : N3)⟩ : Ln) (-1) a_n a_c) (ptS (⟨l_d, (⟨l_a, l_b, l_k⟩ : N3)⟩ : Ln) (-1) a_n a_c) && Nat.blt 0 (ptN (⟨l_d, (⟨l_a, l_b, l_k⟩ : N3)⟩ : Ln) (-1) a_n a_c)) 35 (cond (cqB (ptN (⟨l_d, (⟨l_a, l_b, l_k⟩ : N3)⟩ : Ln) (-1) a_n a_c) (ptS (⟨l_d, (⟨l_a, l_b, l_k⟩ : N3)⟩ : Ln) (-1) a_n a_c)) (ptN (⟨l_d, (⟨l_a, l_b, l_k⟩ : N3)⟩ : Ln) (-1) a_n a_c) 0) K6x (cond (cqB (ptN (⟨l_d, (⟨l_a, l_b, l_k⟩ : N3)⟩ : Ln) (-1) a_n a_c) (ptS (⟨l_d, (⟨l_a, l_b, l_k⟩ : N3)⟩ : Ln) (-1) a_n a_c) && Nat.blt 0 (ptN (⟨l_d, (⟨l_a, l_b, l_k⟩ : N3)⟩ : Ln) (-1) a_n a_c)) (ctD (ptN (⟨l_d, (⟨l_a, l_b, l_k⟩ : N3)⟩ : Ln) (-1) a_n a_c) (ptS (⟨l_d, (⟨l_a, l_b, l_k⟩ : N3)⟩ : Ln) (-1) a_n a_c)) zeroC), iv 0]))) (none)))) (none) from by kernel_rfl).trans ?_
  rw [hp]
  unfold cutN cutT cutE cutO cutK
  cases hc : cutV (⟨l_d, (⟨l_a, l_b, l_k⟩ : N3)⟩ : Ln) a_n a_c with
  | false =>
    unfold cutV at hc
    cases hv : vpS a_n a_c with
    | false => rfl
    | true =>
      rw [hv] at hc
      rw [show (inB l_d 0 7 && validB (⟨l_a, l_b, l_k⟩ : N3)) = false from hc]
      rfl
  | true =>
    have hc' := hc
    unfold cutV at hc'
    rw [Bool.and_eq_true] at hc'
    rw [hc'.1, show (inB l_d 0 7 && validB (⟨l_a, l_b, l_k⟩ : N3)) = true from hc'.2]
    cases cqB (ptN (⟨l_d, (⟨l_a, l_b, l_k⟩ : N3)⟩ : Ln) (1) a_n a_c) (ptS (⟨l_d, (⟨l_a, l_b, l_k⟩ : N3)⟩ : Ln) (1) a_n a_c) with
    | true => cases cqB (ptN (⟨l_d, (⟨l_a, l_b, l_k⟩ : N3)⟩ : Ln) (-1) a_n a_c) (ptS (⟨l_d, (⟨l_a, l_b, l_k⟩ : N3)⟩ : Ln) (-1) a_n a_c) <;> rfl
    | false => rfl
theorem m7 : Meets Tryz.prog GLv 7 s7 := by
  refine meetsW mix0 G107 Tryz.func7 (by kernel_rfl) (by kernel_rfl) s7 fun args x h => ?_
  unfold s7 at h
  split at h
  . rename_i a_n a_c l_d l_a l_b l_k
    simp only [Option.some.injEq, Prod.mk.injEq] at h
    obtain ⟨hp, rfl⟩ := h
    exact ⟨_, _, by kernel_rfl, e7 a_n a_c l_d l_a l_b l_k hp⟩
  . cases h
noncomputable abbrev Γ108 : List (Nat × Ctr) := (7, s7) :: Γ107
theorem G108 : Sound Tryz.prog GLv Γ108 := G107.cons m7
-- impl.CutPolygon
noncomputable def s6 : Ctr := fun
  | [.arr a_n K6x a_c, .agg [.val (.int .i64 l_d), .val (.int .i64 l_a), .val (.int .i64 l_b), .val (.int .i64 l_k)]] => some (Nat.ble (a_n) 1048576, .tup [AV.row (cutO (⟨l_d, (⟨l_a, l_b, l_k⟩ : N3)⟩ : Ln) a_n a_c && Nat.blt 0 (ptN (⟨l_d, (⟨l_a, l_b, l_k⟩ : N3)⟩ : Ln) (1) a_n a_c)) 35 (cutN (⟨l_d, (⟨l_a, l_b, l_k⟩ : N3)⟩ : Ln) (1) a_n a_c) K6x (cutI (⟨l_d, (⟨l_a, l_b, l_k⟩ : N3)⟩ : Ln) (1) a_n a_c), AV.row (cutO (⟨l_d, (⟨l_a, l_b, l_k⟩ : N3)⟩ : Ln) a_n a_c && Nat.blt 0 (ptN (⟨l_d, (⟨l_a, l_b, l_k⟩ : N3)⟩ : Ln) (-1) a_n a_c)) 35 (cutN (⟨l_d, (⟨l_a, l_b, l_k⟩ : N3)⟩ : Ln) (-1) a_n a_c) K6x (cutI (⟨l_d, (⟨l_a, l_b, l_k⟩ : N3)⟩ : Ln) (-1) a_n a_c), iv (cutE (⟨l_d, (⟨l_a, l_b, l_k⟩ : N3)⟩ : Ln) a_n a_c)])
  | _ => none
theorem e6 (a_n : Nat) (a_c : NNI) (l_d : Int) (l_a : Int) (l_b : Int) (l_k : Int) (hp : (Nat.ble (a_n) 1048576) = true) : evW Tryz.prog GLv Γ108 (0) (⟨[], [], [(22, [0]), (23, [1]), (29, [0]), (30, [2])], 3, [some (35, K6x), some (35, K6x), none]⟩)  Tryz.f6 [.arr a_n K6x a_c, .agg [.val (.int .i64 l_d), .val (.int .i64 l_a), .val (.int .i64 l_b), .val (.int .i64 l_k)]] = some (.tup [AV.row (cutO (⟨l_d, (⟨l_a, l_b, l_k⟩ : N3)⟩ : Ln) a_n a_c && Nat.blt 0 (ptN (⟨l_d, (⟨l_a, l_b, l_k⟩ : N3)⟩ : Ln) (1) a_n a_c)) 35 (cutN (⟨l_d, (⟨l_a, l_b, l_k⟩ : N3)⟩ : Ln) (1) a_n a_c) K6x (cutI (⟨l_d, (⟨l_a, l_b, l_k⟩ : N3)⟩ : Ln) (1) a_n a_c), AV.row (cutO (⟨l_d, (⟨l_a, l_b, l_k⟩ : N3)⟩ : Ln) a_n a_c && Nat.blt 0 (ptN (⟨l_d, (⟨l_a, l_b, l_k⟩ : N3)⟩ : Ln) (-1) a_n a_c)) 35 (cutN (⟨l_d, (⟨l_a, l_b, l_k⟩ : N3)⟩ : Ln) (-1) a_n a_c) K6x (cutI (⟨l_d, (⟨l_a, l_b, l_k⟩ : N3)⟩ : Ln) (-1) a_n a_c), iv (cutE (⟨l_d, (⟨l_a, l_b, l_k⟩ : N3)⟩ : Ln) a_n a_c)]) := by
  refine (show _ = cond (Nat.ble (a_n) 1048576) (cond (!(vpI a_n a_c)) (some (AV.tup [AV.row false 35 0 K6x fun _ _ => 0, AV.row false 35 0 K6x fun _ _ => 0, iv 1])) (cond (!(inB l_d 0 7 && validB (⟨l_a, l_b, l_k⟩ : N3))) (some (AV.tup [AV.row false 35 0 K6x fun _ _ => 0, AV.row false 35 0 K6x fun _ _ => 0, iv 1])) (cond (inB (a_n : Int) 1 1000 && hfB (⟨l_d, (⟨l_a, l_b, l_k⟩ : N3)⟩ : Ln) 1 a_n a_c) (cond (Nat.ble (ptN (⟨l_d, (⟨l_a, l_b, l_k⟩ : N3)⟩ : Ln) (1) a_n a_c) 1000000 && allF (cqK (ptI (⟨l_d, (⟨l_a, l_b, l_k⟩ : N3)⟩ : Ln) (1) a_n a_c)) 0 (ptN (⟨l_d, (⟨l_a, l_b, l_k⟩ : N3)⟩ : Ln) (1) a_n a_c)) (cond (inB (a_n : Int) 1 1000 && hfB (⟨l_d, (⟨l_a, l_b, l_k⟩ : N3)⟩ : Ln) (-1) a_n a_c) (cond (Nat.ble (ptN (⟨l_d, (⟨l_a, l_b, l_k⟩ : N3)⟩ : Ln) (-1) a_n a_c) 1000000 && allF (cqK (ptI (⟨l_d, (⟨l_a, l_b, l_k⟩ : N3)⟩ : Ln) (-1) a_n a_c)) 0 (ptN (⟨l_d, (⟨l_a, l_b, l_k⟩ : N3)⟩ : Ln) (-1) a_n a_c)) (cond (!(cqB (ptN (⟨l_d, (⟨l_a, l_b, l_k⟩ : N3)⟩ : Ln) (1) a_n a_c) (ptI (⟨l_d, (⟨l_a, l_b, l_k⟩ : N3)⟩ : Ln) (1) a_n a_c))) (some (AV.tup [AV.row false 35 0 K6x fun _ _ => 0, AV.row false 35 0 K6x fun _ _ => 0, iv 2])) (cond (!(cqB (ptN (⟨l_d, (⟨l_a, l_b, l_k⟩ : N3)⟩ : Ln) (-1) a_n a_c) (ptI (⟨l_d, (⟨l_a, l_b, l_k⟩ : N3)⟩ : Ln) (-1) a_n a_c))) (some (AV.tup [AV.row false 35 0 K6x fun _ _ => 0, AV.row false 35 0 K6x fun _ _ => 0, iv 2])) (some (AV.tup [AV.row (cqB (ptN (⟨l_d, (⟨l_a, l_b, l_k⟩ : N3)⟩ : Ln) (1) a_n a_c) (ptI (⟨l_d, (⟨l_a, l_b, l_k⟩ : N3)⟩ : Ln) (1) a_n a_c) && Nat.blt 0 (ptN (⟨l_d, (⟨l_a, l_b, l_k⟩ : N3)⟩ : Ln) (1) a_n a_c)) 35 (cond (cqB (ptN (⟨l_d, (⟨l_a, l_b, l_k⟩ : N3)⟩ : Ln) (1) a_n a_c) (ptI (⟨l_d, (⟨l_a, l_b, l_k⟩ : N3)⟩ : Ln) (1) a_n a_c)) (ptN (⟨l_d, (⟨l_a, l_b, l_k⟩ : N3)⟩ : Ln) (1) a_n a_c) 0) K6x (cond (cqB (ptN (⟨l_d, (⟨l_a, l_b, l_k⟩ : N3)⟩ : Ln) (1) a_n a_c) (ptI (⟨l_d, (⟨l_a, l_b, l_k⟩ : N3)⟩ : Ln) (1) a_n a_c)) (cqD (ptN (⟨l_d, (⟨l_a, l_b, l_k⟩ : N3)⟩ : Ln) (1) a_n a_c) (ptI (⟨l_d, (⟨l_a, l_b, l_k⟩ : N3)⟩ : Ln) (1) a_n a_c)) zeroC), AV.row (cqB (ptN (⟨l_d, (⟨l_a, l_b, l_k⟩ : N3)⟩ : Ln) (-1) a_n a_c) (ptI (⟨l_d, (⟨l_a, l_b, l_k⟩ : N3)⟩ : Ln) (-1) a_n a_c) && Nat.blt 0 (ptN (⟨l_d, (⟨l_a, l_b, l_k⟩ : N3)⟩ : Ln) (-1) a_n a_c)) 35 (cond (cqB (ptN (⟨l_d, (⟨l_a, l_b, l_k⟩ : N3)⟩ : Ln) (-1) a_n a_c) (ptI (⟨l_d, (⟨l_a, l_b, l_k⟩ : N3)⟩ : Ln) (-1) a_n a_c)) (ptN (⟨l_d, (⟨l_a, l_b, l_k⟩ : N3)⟩ : Ln) (-1) a_n a_c) 0) K6x (cond (cqB (ptN (⟨l_d, (⟨l_a, l_b, l_k⟩ : N3)⟩ : Ln) (-1) a_n a_c) (ptI (⟨l_d, (⟨l_a, l_b, l_k⟩ : N3)⟩ : Ln) (-1) a_n a_c)) (cqD (ptN (⟨l_d, (⟨l_a, l_b, l_k⟩ : N3)⟩ : Ln) (-1) a_n a_c) (ptI (⟨l_d, (⟨l_a, l_b, l_k⟩ : N3)⟩ : Ln) (-1) a_n a_c)) zeroC), iv 0])))) (none)) (none)) (none)) (none)))) (none) from by kernel_rfl).trans ?_
  rw [hp, vp_eq]
  unfold cutN cutI cutE cutO cutK
  cases hc : cutV (⟨l_d, (⟨l_a, l_b, l_k⟩ : N3)⟩ : Ln) a_n a_c with
  | false =>
    unfold cutV at hc
    cases hv : vpS a_n a_c with
    | false => rfl
    | true =>
      rw [hv] at hc
      rw [show (inB l_d 0 7 && validB (⟨l_a, l_b, l_k⟩ : N3)) = false from hc]
      rfl
  | true =>
    have hc' := hc
    unfold cutV at hc'
    rw [Bool.and_eq_true] at hc'
    obtain ⟨hv, hl⟩ := hc'
    obtain ⟨h3, h16, _⟩ := vpS_in hv
    obtain ⟨p1, p2, _, p4, _⟩ := pt_same (sd := 1) (.inl rfl) hl hv
    obtain ⟨r1, r2, _, r4, _⟩ := pt_same (sd := -1) (.inr rfl) hl hv
    rw [hv, show (inB l_d 0 7 && validB (⟨l_a, l_b, l_k⟩ : N3)) = true from hl, hfB_valid (.inl rfl) hl hv, hfB_valid (.inr rfl) hl hv, p2, r2, p4, r4, show inB (a_n : Int) 1 1000 = true from inB_iff.2 (by omega),
      show Nat.ble (ptN (⟨l_d, (⟨l_a, l_b, l_k⟩ : N3)⟩ : Ln) (1) a_n a_c) 1000000 = true from Nat.ble_eq_true_of_le (by omega), show Nat.ble (ptN (⟨l_d, (⟨l_a, l_b, l_k⟩ : N3)⟩ : Ln) (-1) a_n a_c) 1000000 = true from Nat.ble_eq_true_of_le (by omega)]
    cases cqB (ptN (⟨l_d, (⟨l_a, l_b, l_k⟩ : N3)⟩ : Ln) (1) a_n a_c) (ptS (⟨l_d, (⟨l_a, l_b, l_k⟩ : N3)⟩ : Ln) (1) a_n a_c) with
    | true => cases cqB (ptN (⟨l_d, (⟨l_a, l_b, l_k⟩ : N3)⟩ : Ln) (-1) a_n a_c) (ptS (⟨l_d, (⟨l_a, l_b, l_k⟩ : N3)⟩ : Ln) (-1) a_n a_c) <;> rfl
    | false => rfl
theorem m6 : Meets Tryz.prog GLv 6 s6 := by
  refine meetsW mix0 G108 Tryz.func6 (by kernel_rfl) (by kernel_rfl) s6 fun args x h => ?_
  unfold s6 at h
  split at h
  . rename_i a_n a_c l_d l_a l_b l_k
    simp only [Option.some.injEq, Prod.mk.injEq] at h
    obtain ⟨hp, rfl⟩ := h
    exact ⟨_, _, by kernel_rfl, e6 a_n a_c l_d l_a l_b l_k hp⟩
  . cases h
noncomputable abbrev Γ109 : List (Nat × Ctr) := (6, s6) :: Γ108
theorem G109 : Sound Tryz.prog GLv Γ109 := G108.cons m6
end Go.Proofs.YtdildcdilhgdkaaGreatDoor
