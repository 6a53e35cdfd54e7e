/- Contracts of the program's functions, by the evaluator. -/
import Derived.Test.YtkmeacninbnmaaaDoorC1
import Derived.Test.YtkmeacninbnmaaaDoorPlS
import Derived.Test.YtkmeacninbnmaaaDoorSh
namespace Go.Proofs.YtkmeacninbnmaaaDoor
open Go.Ev Go.RowKit
set_option linter.unusedVariables false
set_option linter.unusedSimpArgs false
set_option maxRecDepth 100000

theorem gP : Tryd.prog.globalNamed "internal/strconv.uint64pow10" = some 4 := by kernel_rfl
theorem gQ : GLv 4 = .eptr (Go.Lib.pow10Tab.map fun z => .val (.int .u64 z)) := by kernel_rfl

-- strconv.FormatInt
def s79 : Ctr := fun
  | [.val (.int .i64 x), .val (.int .i64 y)] => some (y == 10 && Nat.ble x.natAbs 9223372036854775807, .val (.string ⟨(Go.Lib.itoa x).toArray⟩))
  | _ => none
theorem m79 : Meets Tryd.prog GLv 79 s79 := by
  refine Meets.shelf ⟨_, Tryd.func79, by kernel_rfl, by kernel_rfl⟩ fun args x h => ?_
  unfold s79 at h
  split at h
  · rename_i x y
    simp only [Option.some.injEq, Prod.mk.injEq, Bool.and_eq_true, beq_iff_eq, decide_eq_true_eq] at h
    obtain ⟨hp, rfl⟩ := h
    refine ⟨[.int .i64 x, .int .i64 y], .string ⟨(Go.Lib.itoa x).toArray⟩, rfl, rfl, fun w B hG => ?_⟩
    obtain ⟨rfl, h0⟩ := hp
    have h0 := Nat.le_of_ble_eq_true h0
    refine (show Calls Tryd.prog _ _ w _ from Any.strconv_FormatInt_10 Tryd.laysM173 x (by omega) (by omega) w (tabIs_of gP gQ hG)).mono ?_
    rintro e w' ⟨rfl, k, os, rfl⟩
    exact ⟨rfl, Go.Lib.below_grow _ w (Nat.le_refl _) k os⟩
  · cases h
abbrev Γ18 : List (Nat × Ctr) := (79, s79) :: Γ17
theorem G18 : Sound Tryd.prog GLv Γ18 := G17.cons m79

-- strconv.ParseInt
def s71 : Ctr := fun
  | [.val (.string s), .val (.int .i64 y), .val (.int .i64 z)] => some (y == 10 && (z == 64 && (pO s.data.toList && Nat.ble s.size 9223372036854775806)), .tup [iv (pN s.data.toList), .val .nilIface])
  | _ => none
theorem m71 : Meets Tryd.prog GLv 71 s71 := by
  refine Meets.shelf ⟨_, Tryd.func71, by kernel_rfl, by kernel_rfl⟩ fun args x h => ?_
  unfold s71 at h
  split at h
  · rename_i s y z
    simp only [Option.some.injEq, Prod.mk.injEq, Bool.and_eq_true, beq_iff_eq, decide_eq_true_eq] at h
    obtain ⟨hp, rfl⟩ := h
    refine ⟨[.string s, .int .i64 y, .int .i64 z], .tuple #[.int .i64 (pN s.data.toList), .nilIface], rfl, rfl, fun w B hG => ?_⟩
    obtain ⟨rfl, rfl, h0, h1⟩ := hp
    have hv : Go.Lib.parseIntB 64 s.data.toList = .ok (pN s.data.toList) := by
      unfold pO at h0
      unfold pN
      split at h0
      · rename_i v e
        rw [e]
      · cases h0
    refine (show Calls Tryd.prog _ _ w _ from Any.strconv_ParseInt_10_at64_ok Tryd.laysC174 s (Nat.le_of_ble_eq_true h1) _ hv w).mono ?_
    rintro e w' ⟨rfl, rfl | ⟨t, rfl⟩⟩
    · exact ⟨rfl, Below.refl _ _⟩
    · exact ⟨rfl, Go.Lib.bytesWorld_below _ _ _⟩
  · cases h
abbrev Γ19 : List (Nat × Ctr) := (71, s71) :: Γ18
theorem G19 : Sound Tryd.prog GLv Γ19 := G18.cons m71

-- strings.CutSuffix
def s72 : Ctr := fun
  | [.val (.string s), .val (.string p)] => some (Nat.ble s.size 9223372036854775807, .tup [.val (.string ⟨(Go.Lib.trimSuffix s.data.toList p.data.toList).toArray⟩), bv (Go.Lib.hasSuffix s.data.toList p.data.toList)])
  | _ => none
theorem m72 : Meets Tryd.prog GLv 72 s72 := by
  refine Meets.shelf ⟨_, Tryd.func72, by kernel_rfl, by kernel_rfl⟩ fun args x h => ?_
  unfold s72 at h
  split at h
  · rename_i s p
    simp only [Option.some.injEq, Prod.mk.injEq, Bool.and_eq_true, beq_iff_eq, decide_eq_true_eq] at h
    obtain ⟨hp, rfl⟩ := h
    refine ⟨[.string s, .string p], .tuple #[.string ⟨(Go.Lib.trimSuffix s.data.toList p.data.toList).toArray⟩, .bool (Go.Lib.hasSuffix s.data.toList p.data.toList)], rfl, rfl, fun w B hG => ?_⟩
    refine (show Calls Tryd.prog _ _ w _ from Any.strings_CutSuffix Tryd.lays104 s p w (Nat.le_of_ble_eq_true hp)).mono ?_
    rintro e w' ⟨rfl, rfl⟩
    exact ⟨rfl, Below.refl _ _⟩
  · cases h
abbrev Γ20 : List (Nat × Ctr) := (72, s72) :: Γ19
theorem G20 : Sound Tryd.prog GLv Γ20 := G19.cons m72

-- strings.TrimPrefix
def s40 : Ctr := fun
  | [.val (.string s), .val (.string p)] => some (true, .val (.string ⟨(Go.Lib.trimPrefix s.data.toList p.data.toList).toArray⟩))
  | _ => none
theorem m40 : Meets Tryd.prog GLv 40 s40 := by
  refine Meets.shelf ⟨_, Tryd.func40, by kernel_rfl, by kernel_rfl⟩ fun args x h => ?_
  unfold s40 at h
  split at h
  · rename_i s p
    simp only [Option.some.injEq, Prod.mk.injEq, Bool.and_eq_true, beq_iff_eq, decide_eq_true_eq] at h
    obtain ⟨hp, rfl⟩ := h
    refine ⟨[.string s, .string p], .string ⟨(Go.Lib.trimPrefix s.data.toList p.data.toList).toArray⟩, rfl, rfl, fun w B hG => ?_⟩
    refine (show Calls Tryd.prog _ _ w _ from Any.strings_TrimPrefix Tryd.lays101 s p w).mono ?_
    rintro e w' ⟨rfl, rfl⟩
    exact ⟨rfl, Below.refl _ _⟩
  · cases h
abbrev Γ21 : List (Nat × Ctr) := (40, s40) :: Γ20
theorem G21 : Sound Tryd.prog GLv Γ21 := G20.cons m40

-- strings.TrimSuffix
def s39 : Ctr := fun
  | [.val (.string s), .val (.string p)] => some (Nat.ble s.size 9223372036854775807, .val (.string ⟨(Go.Lib.trimSuffix s.data.toList p.data.toList).toArray⟩))
  | _ => none
theorem m39 : Meets Tryd.prog GLv 39 s39 := by
  refine Meets.shelf ⟨_, Tryd.func39, by kernel_rfl, by kernel_rfl⟩ fun args x h => ?_
  unfold s39 at h
  split at h
  · rename_i s p
    simp only [Option.some.injEq, Prod.mk.injEq, Bool.and_eq_true, beq_iff_eq, decide_eq_true_eq] at h
    obtain ⟨hp, rfl⟩ := h
    refine ⟨[.string s, .string p], .string ⟨(Go.Lib.trimSuffix s.data.toList p.data.toList).toArray⟩, rfl, rfl, fun w B hG => ?_⟩
    refine (show Calls Tryd.prog _ _ w _ from Any.strings_TrimSuffix Tryd.lays102 s p w (Nat.le_of_ble_eq_true hp)).mono ?_
    rintro e w' ⟨rfl, rfl⟩
    exact ⟨rfl, Below.refl _ _⟩
  · cases h
abbrev Γ22 : List (Nat × Ctr) := (39, s39) :: Γ21
theorem G22 : Sound Tryd.prog GLv Γ22 := G21.cons m39

-- internal/stringslite.Index
def s86 : Ctr := fun
  | [.val (.string s), .val (.string p)] => some (Nat.beq p.size 1, iv (Go.Lib.indexByte s.data.toList (p.data.toList.headD 0)))
  | _ => none
theorem m86 : Meets Tryd.prog GLv 86 s86 := by
  refine Meets.shelf ⟨_, Tryd.func86, by kernel_rfl, by kernel_rfl⟩ fun args x h => ?_
  unfold s86 at h
  split at h
  · rename_i s p
    simp only [Option.some.injEq, Prod.mk.injEq, Bool.and_eq_true, beq_iff_eq, decide_eq_true_eq] at h
    obtain ⟨hp, rfl⟩ := h
    refine ⟨[.string s, .string p], .int .i64 (Go.Lib.indexByte s.data.toList (p.data.toList.headD 0)), rfl, rfl, fun w B hG => ?_⟩
    have hp := Nat.eq_of_beq_eq_true hp
    obtain ⟨c, rfl⟩ : ∃ c, p = ⟨#[c]⟩ := by
      obtain ⟨⟨l⟩⟩ := p
      match l, hp with
      | [c], _ => exact ⟨c, rfl⟩
    refine (show Calls Tryd.prog _ _ w _ from Any.stringslite_Index_one Tryd.lays219 s c w).mono ?_
    rintro e w' ⟨rfl, rfl⟩
    exact ⟨rfl, Below.refl _ _⟩
  · cases h
abbrev Γ23 : List (Nat × Ctr) := (86, s86) :: Γ22
theorem G23 : Sound Tryd.prog GLv Γ23 := G22.cons m86

-- math/bits.Len64
def s37 : Ctr := fun
  | [.val (.int .u64 x)] => some (decide (0 ≤ x) && decide (x ≤ 18446744073709551615), iv (Go.Lib.bitLen x.toNat))
  | _ => none
theorem m37 : Meets Tryd.prog GLv 37 s37 := by
  refine Meets.shelf ⟨_, Tryd.func37, by kernel_rfl, by kernel_rfl⟩ fun args x h => ?_
  unfold s37 at h
  split at h
  · rename_i x
    simp only [Option.some.injEq, Prod.mk.injEq, Bool.and_eq_true, beq_iff_eq, decide_eq_true_eq] at h
    obtain ⟨hp, rfl⟩ := h
    refine ⟨[.int .u64 x], .int .i64 (Go.Lib.bitLen x.toNat), rfl, rfl, fun w B hG => ?_⟩
    refine (show Calls Tryd.prog _ _ w _ from Any.bits_Len64 Tryd.lays129 x w hp.1 hp.2).mono ?_
    rintro e w' ⟨rfl, rfl⟩
    exact ⟨rfl, Below.refl _ _⟩
  · cases h
abbrev Γ24 : List (Nat × Ctr) := (37, s37) :: Γ23
theorem G24 : Sound Tryd.prog GLv Γ24 := G23.cons m37

-- strings.shouldUseASCIISet
def s91 : Ctr := fun
  | [.val (.int .i64 x)] => some (true, bv (decide (8 < x)))
  | _ => none
theorem m91 : Meets Tryd.prog GLv 91 s91 := by
  refine Meets.shelf ⟨_, Tryd.func91, by kernel_rfl, by kernel_rfl⟩ fun args x h => ?_
  unfold s91 at h
  split at h
  · rename_i x
    simp only [Option.some.injEq, Prod.mk.injEq, Bool.and_eq_true, beq_iff_eq, decide_eq_true_eq] at h
    obtain ⟨hp, rfl⟩ := h
    refine ⟨[.int .i64 x], .bool (decide (8 < x)), rfl, rfl, fun w B hG => ?_⟩
    refine (show Calls Tryd.prog _ _ w _ from Any.strings_shouldUseASCIISet Tryd.lays226 x w).mono ?_
    rintro e w' ⟨rfl, rfl⟩
    exact ⟨rfl, Below.refl _ _⟩
  · cases h
abbrev Γ25 : List (Nat × Ctr) := (91, s91) :: Γ24
theorem G25 : Sound Tryd.prog GLv Γ25 := G24.cons m91

-- strings.IndexRune
def s90 : Ctr := fun
  | [.val (.string s), .val (.int .i32 x)] => some (decide (0 ≤ x) && decide (x < 128), iv (Go.Lib.indexByte s.data.toList x.toNat.toUInt8))
  | _ => none
theorem m90 : Meets Tryd.prog GLv 90 s90 := by
  refine Meets.shelf ⟨_, Tryd.func90, by kernel_rfl, by kernel_rfl⟩ fun args x h => ?_
  unfold s90 at h
  split at h
  · rename_i s x
    simp only [Option.some.injEq, Prod.mk.injEq, Bool.and_eq_true, beq_iff_eq, decide_eq_true_eq] at h
    obtain ⟨hp, rfl⟩ := h
    refine ⟨[.string s, .int .i32 x], .int .i64 (Go.Lib.indexByte s.data.toList x.toNat.toUInt8), rfl, rfl, fun w B hG => ?_⟩
    refine (show Calls Tryd.prog _ _ w _ from Any.strings_IndexRune_ascii Tryd.lays152 s x w hp.1 hp.2).mono ?_
    rintro e w' ⟨rfl, rfl⟩
    exact ⟨rfl, Below.refl _ _⟩
  · cases h
abbrev Γ26 : List (Nat × Ctr) := (90, s90) :: Γ25
theorem G26 : Sound Tryd.prog GLv Γ26 := G25.cons m90

theorem pm_vals : valsOf ((List.range 256).map pmCell) = some (Go.Lib.setCells [43, 45]).toList := by kernel_rfl

-- strings.makeASCIISet
def s92 : Ctr := fun
  | [.val (.string s)] => some (s.data.toList == [43, 45], .tup [.agg ((List.range 256).map pmCell), bv true])
  | _ => none
theorem m92 : Meets Tryd.prog GLv 92 s92 := by
  refine Meets.shelf ⟨_, Tryd.func92, by kernel_rfl, by kernel_rfl⟩ fun args x h => ?_
  unfold s92 at h
  split at h
  · rename_i s
    simp only [Option.some.injEq, Prod.mk.injEq, Bool.and_eq_true, beq_iff_eq, decide_eq_true_eq] at h
    obtain ⟨hp, rfl⟩ := h
    refine ⟨[.string s], .tuple #[.agg (Go.Lib.setCells [43, 45]), .bool true], rfl, rfl, fun w B hG => ?_⟩
    obtain rfl : s = ⟨#[43, 45]⟩ := by
      obtain ⟨⟨l⟩⟩ := s
      have hp : l = [43, 45] := hp
      rw [hp]
    refine (show Calls Tryd.prog _ _ w _ from Any.strings_makeASCIISet Tryd.lays227 Tryd.zeroValue119 (by kernel_rfl) ⟨#[43, 45]⟩ w (by decide) (fun j b h => by
      match j, h with
      | 0, h => cases h; decide
      | 1, h => cases h; decide)).mono ?_
    rintro e w' ⟨rfl, rfl⟩
    exact ⟨rfl, (Below.refl _ w).alloc (Nat.le_refl _) _⟩
  · cases h
abbrev Γ27 : List (Nat × Ctr) := (92, s92) :: Γ26
theorem G27 : Sound Tryd.prog GLv Γ27 := G26.cons m92

theorem m93 : Meets Tryd.prog GLv 93 ctSet := Meets.contains ⟨_, Tryd.func93, by kernel_rfl, by kernel_rfl⟩ fun b x v w hc => Any.asciiSet_contains Tryd.lays228 b x v w hc
abbrev Γ28 : List (Nat × Ctr) := (93, ctSet) :: Γ27
theorem G28 : Sound Tryd.prog GLv Γ28 := G27.cons m93

end Go.Proofs.YtkmeacninbnmaaaDoor
