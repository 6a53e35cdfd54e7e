/- Contracts of the program's functions, by the evaluator. -/
import Derived.Test.YtkmeacninbnmaaaDoorT2
import Derived.Test.YtkmeacninbnmaaaDoorPlS
namespace Go.Proofs.YtkmeacninbnmaaaDoor
open Go.Ev Go.RowKit
set_option linter.unusedVariables false
set_option linter.unusedSimpArgs false
set_option maxRecDepth 100000

-- impl.NumText
def s16 : Ctr := fun
  | [.agg [.val (.int .i64 x_a), .val (.int .i64 x_b), .val (.int .i64 x_k)]] => some (true, .val (.string ⟨(cond (validB (⟨x_a, x_b, x_k⟩ : N3)) (numL x_a x_b x_k.toNat) []).toArray⟩))
  | _ => none

theorem e16 (x_a : Int) (x_b : Int) (x_k : Int) : evN Tryd.prog GLv Γ38 (0) []  Tryd.f16 [.agg [.val (.int .i64 x_a), .val (.int .i64 x_b), .val (.int .i64 x_k)]] = some (.val (.string ⟨(cond (validB (⟨x_a, x_b, x_k⟩ : N3)) (numL x_a x_b x_k.toNat) []).toArray⟩)) := by
  refine (show _ = cond (!(validB (⟨x_a, x_b, x_k⟩ : N3))) (some (.val (.string ⟨([]).toArray⟩))) (cond (validB (⟨x_a, x_b, x_k⟩ : N3)) (some (.val (.string ⟨(numL x_a x_b x_k.toNat).toArray⟩))) none) from by kernel_rfl).trans ?_
  cases validB (⟨x_a, x_b, x_k⟩ : N3) <;> rfl
theorem m16 : Meets Tryd.prog GLv 16 s16 := by
  refine meetsN mix0 glv G38 Tryd.func16 (by kernel_rfl) (by kernel_rfl) s16 fun args x h => ?_
  unfold s16 at h
  split at h
  · rename_i x_a x_b x_k
    simp only [Option.some.injEq, Prod.mk.injEq] at h
    obtain ⟨hp, rfl⟩ := h
    exact ⟨_, _, by kernel_rfl, e16 x_a x_b x_k⟩
  · cases h
abbrev Γ39 : List (Nat × Ctr) := (16, s16) :: Γ38
theorem G39 : Sound Tryd.prog GLv Γ39 := G38.cons m16

-- impl.readNumber
def s36 : Ctr := fun
  | [.val (.string s)] => some (pO s.data.toList && Nat.ble s.size 9223372036854775806, .tup [iv (pN s.data.toList), bv ((⟨(Go.Lib.itoa (pN s.data.toList)).toArray⟩ : ByteArray).toList == s.toList)])
  | _ => none

theorem e36 (s : ByteArray) (hp : (pO s.data.toList && Nat.ble s.size 9223372036854775806) = true) : evN Tryd.prog GLv Γ39 (0) []  Tryd.f36 [.val (.string s)] = some (.tup [iv (pN s.data.toList), bv ((⟨(Go.Lib.itoa (pN s.data.toList)).toArray⟩ : ByteArray).toList == s.toList)]) := by
  have ho := pO_abs (show pO s.data.toList = true by rw [Bool.and_eq_true] at hp; exact hp.1)
  refine (show _ = cond ((10 : Int) == 10 && ((64 : Int) == 64 && (pO s.data.toList && Nat.ble s.size 9223372036854775806))) (cond (Nat.ble (pN s.data.toList).natAbs 9223372036854775807) (some (.tup [iv (pN s.data.toList), bv ((⟨(Go.Lib.itoa (pN s.data.toList)).toArray⟩ : ByteArray).toList == s.toList)])) none) none from by kernel_rfl).trans ?_
  rw [hp, ho]
  rfl
theorem m36 : Meets Tryd.prog GLv 36 s36 := by
  refine meetsN mix0 glv G39 Tryd.func36 (by kernel_rfl) (by kernel_rfl) s36 fun args x h => ?_
  unfold s36 at h
  split at h
  · rename_i s
    simp only [Option.some.injEq, Prod.mk.injEq] at h
    obtain ⟨hp, rfl⟩ := h
    exact ⟨_, _, by kernel_rfl, e36 s hp⟩
  · cases h
abbrev Γ40 : List (Nat × Ctr) := (36, s36) :: Γ39
theorem G40 : Sound Tryd.prog GLv Γ40 := G39.cons m36

-- internal/stringslite.Cut
def s70 : Ctr := fun
  | [.val (.string s), .val (.string p)] => some (p.data.toList == [47] && Nat.ble s.size 1000000, .tup [.val (.string ⟨(rdBody s.data.toList).toArray⟩), .val (.string ⟨(rdPow s.data.toList).toArray⟩), bv (decide (rdI s.data.toList ≥ 0))])
  | _ => none

theorem e70 (s : ByteArray) (p : ByteArray) (hp : (p.data.toList == [47] && Nat.ble s.size 1000000) = true) : evN Tryd.prog GLv Γ40 (0) []  Tryd.f70 [.val (.string s), .val (.string p)] = some (.tup [.val (.string ⟨(rdBody s.data.toList).toArray⟩), .val (.string ⟨(rdPow s.data.toList).toArray⟩), bv (decide (rdI s.data.toList ≥ 0))]) := by
  rw [Bool.and_eq_true, beq_iff_eq] at hp
  obtain rfl := ba_of hp.1
  have hs := Nat.le_of_ble_eq_true hp.2
  have hl := ib_lt s.data.toList 47
  rw [← sz_eq] at hl
  refine (show _ = cond (decide ((Go.Lib.indexByte s.data.toList 47) ≥ 0)) (cond (decide (0 ≤ (Go.Lib.indexByte s.data.toList 47)) && decide ((Go.Lib.indexByte s.data.toList 47) ≤ (s.size : Int))) (cond (decide (0 ≤ (wr ((Go.Lib.indexByte s.data.toList 47) + 1))) && decide ((wr ((Go.Lib.indexByte s.data.toList 47) + 1)) ≤ (s.size : Int))) (some (.tup [.val (.string (s.extract 0 (Go.Lib.indexByte s.data.toList 47).toNat)), .val (.string (s.extract (wr ((Go.Lib.indexByte s.data.toList 47) + 1)).toNat s.size)), bv true])) none) none) (some (.tup [.val (.string s), .val (.string ⟨([]).toArray⟩), bv false])) from by kernel_rfl).trans ?_
  unfold rdBody rdPow rdI
  by_cases h : (Go.Lib.indexByte s.data.toList 47) ≥ 0
  · rw [wr_in (by omega) (by omega), decide_eq_true h, decide_eq_true (show (Go.Lib.indexByte s.data.toList 47) ≤ (s.size : Int) by omega), decide_eq_true (show 0 ≤ (Go.Lib.indexByte s.data.toList 47) + 1 by omega), decide_eq_true (show (Go.Lib.indexByte s.data.toList 47) + 1 ≤ (s.size : Int) by omega), ex_ba, ex_ba, sz_eq]
    simp only [Bool.and_self, cond_true, List.drop_zero, Nat.sub_zero]
    rw [show ((Go.Lib.indexByte s.data.toList 47) + 1).toNat = (Go.Lib.indexByte s.data.toList 47).toNat + 1 by omega, List.take_of_length_le (l := List.drop ((Go.Lib.indexByte s.data.toList 47).toNat + 1) s.data.toList) (by rw [List.length_drop]; exact Nat.le_refl _)]
  · rw [decide_eq_false h]
    simp only [cond_false]
    try rw [ba_eta]
theorem m70 : Meets Tryd.prog GLv 70 s70 := by
  refine meetsN mix0 glv G40 Tryd.func70 (by kernel_rfl) (by kernel_rfl) s70 fun args x h => ?_
  unfold s70 at h
  split at h
  · rename_i s p
    simp only [Option.some.injEq, Prod.mk.injEq] at h
    obtain ⟨hp, rfl⟩ := h
    exact ⟨_, _, by kernel_rfl, e70 s p hp⟩
  · cases h
abbrev Γ41 : List (Nat × Ctr) := (70, s70) :: Γ40
theorem G41 : Sound Tryd.prog GLv Γ41 := G40.cons m70

-- strings.Cut
def s35 : Ctr := fun
  | [.val (.string s), .val (.string p)] => some (p.data.toList == [47] && Nat.ble s.size 1000000, .tup [.val (.string ⟨(rdBody s.data.toList).toArray⟩), .val (.string ⟨(rdPow s.data.toList).toArray⟩), bv (decide (rdI s.data.toList ≥ 0))])
  | _ => none

theorem e35 (s : ByteArray) (p : ByteArray) (hp : (p.data.toList == [47] && Nat.ble s.size 1000000) = true) : evN Tryd.prog GLv Γ41 (0) []  Tryd.f35 [.val (.string s), .val (.string p)] = some (.tup [.val (.string ⟨(rdBody s.data.toList).toArray⟩), .val (.string ⟨(rdPow s.data.toList).toArray⟩), bv (decide (rdI s.data.toList ≥ 0))]) := by
  refine (show _ = cond (p.data.toList == [47] && Nat.ble s.size 1000000) (some (.tup [.val (.string ⟨(rdBody s.data.toList).toArray⟩), .val (.string ⟨(rdPow s.data.toList).toArray⟩), bv (decide (rdI s.data.toList ≥ 0))])) none from by kernel_rfl).trans ?_
  rw [hp]
  rfl
theorem m35 : Meets Tryd.prog GLv 35 s35 := by
  refine meetsN mix0 glv G41 Tryd.func35 (by kernel_rfl) (by kernel_rfl) s35 fun args x h => ?_
  unfold s35 at h
  split at h
  · rename_i s p
    simp only [Option.some.injEq, Prod.mk.injEq] at h
    obtain ⟨hp, rfl⟩ := h
    exact ⟨_, _, by kernel_rfl, e35 s p hp⟩
  · cases h
abbrev Γ42 : List (Nat × Ctr) := (35, s35) :: Γ41
theorem G42 : Sound Tryd.prog GLv Γ42 := G41.cons m35

-- unicode/utf8.DecodeLastRuneInString
def s94 : Ctr := fun
  | [.val (.string s)] => some ((Nat.ble 1 s.size && Nat.ble s.size 1000000) && decide (byteA s (s.size - 1) < 128), .tup [.val (.int .i32 (byteA s (s.size - 1))), iv 1])
  | _ => none

theorem e94 (s : ByteArray) (hp : ((Nat.ble 1 s.size && Nat.ble s.size 1000000) && decide (byteA s (s.size - 1) < 128)) = true) : evW Tryd.prog GLv Γ42 (0) (⟨[], [(8, [false])], [], 0, []⟩)  Tryd.f94 [.val (.string s)] = some (.tup [.val (.int .i32 (byteA s (s.size - 1))), iv 1]) := by
  simp only [Bool.and_eq_true] at hp
  obtain ⟨⟨h1, h2⟩, h3⟩ := hp
  have h1 := Nat.le_of_ble_eq_true h1
  have h2 := Nat.le_of_ble_eq_true h2
  have h3 := of_decide_eq_true h3
  obtain ⟨b0, b1⟩ := byte_rng s (s.size - 1)
  refine (show _ = cond ((s.size : Int) == 0) (some (.tup [.val (.int .i32 65533), iv 0])) (cond (decide (0 ≤ (wr ((s.size : Int) - 1))) && decide ((wr ((s.size : Int) - 1)) < (s.size : Int))) (cond (decide (IntKind.i32.wrap (byteA s (wr ((s.size : Int) - 1)).toNat) < 128)) (some (.tup [.val (.int .i32 (IntKind.i32.wrap (byteA s (wr ((s.size : Int) - 1)).toNat))), iv 1])) none) none) from by kernel_rfl).trans ?_
  rw [show ((s.size : Int) == 0) = false by rw [beq_eq_false_iff_ne]; omega, wr_in (by omega) (by omega), decide_eq_true (show 0 ≤ (s.size : Int) - 1 by omega), decide_eq_true (show (s.size : Int) - 1 < (s.size : Int) by omega), show ((s.size : Int) - 1).toNat = s.size - 1 by omega,
    show IntKind.i32.wrap (byteA s (s.size - 1)) = byteA s (s.size - 1) by rw [IntKind.wrap_i32]; omega, decide_eq_true h3]
  rfl
theorem m94 : Meets Tryd.prog GLv 94 s94 := by
  refine meetsW mix0 G42 Tryd.func94 (by kernel_rfl) (by kernel_rfl) s94 fun args x h => ?_
  unfold s94 at h
  split at h
  · rename_i s
    simp only [Option.some.injEq, Prod.mk.injEq] at h
    obtain ⟨hp, rfl⟩ := h
    exact ⟨_, _, by kernel_rfl, e94 s hp⟩
  · cases h
abbrev Γ43 : List (Nat × Ctr) := (94, s94) :: Γ42
theorem G43 : Sound Tryd.prog GLv Γ43 := G42.cons m94

end Go.Proofs.YtkmeacninbnmaaaDoor
