/- Contracts of the program's functions, by the evaluator. -/
import Derived.Test.YtlcopddgplbdhaaGreatDoorM1
import Derived.Test.YtlcopddgplbdhaaGreatDoorPlS
import Derived.Test.YtlcopddgplbdhaaGreatDoorSh
namespace Go.Proofs.YtlcopddgplbdhaaGreatDoor
open Go.Ev Go.RowKit
set_option linter.unusedVariables false
set_option linter.unusedSimpArgs false
set_option maxRecDepth 100000
theorem gP : Tryz.prog.globalNamed "internal/strconv.uint64pow10" = some 2 := by kernel_rfl
theorem gQ : GLv 2 = .eptr (Go.Lib.pow10Tab.map fun z => .val (.int .u64 z)) := by kernel_rfl
-- strconv.FormatInt
noncomputable def s88 : Ctr := fun
 | [iv x, iv y] => some (y == 10 && Nat.ble x.natAbs 9223372036854775807, .val (.string ⟨(Go.Lib.itoa x).toArray⟩))
 | _ => none
theorem m88 : MT 88 s88 := by
 refine Meets.shelf ⟨_, Tryz.func88, by kernel_rfl, by kernel_rfl⟩ fun args x h => ?_
 unfold s88 at h
 split at h
 ·rename_i x y
  simp only [Option.some.injEq, Prod.mk.injEq, Bool.and_eq_true, beq_iff_eq, decide_eq_true_eq] at h
  obtain ⟨hp, rfl⟩ := h
  refine ⟨[.int .i64 x, .int .i64 y], .string ⟨(Go.Lib.itoa x).toArray⟩, rfl, rfl, fun w B hG => ?_⟩
  obtain ⟨rfl, h0⟩ := hp
  have h0 := Nat.le_of_ble_eq_true h0
  refine (show Calls Tryz.prog _ _ w _ from Any.strconv_FormatInt_10 Tryz.laysM173 x (by omega) (by omega) w (tabIs_of gP gQ hG)).mono ?_
  rintro e w' ⟨rfl, k, os, rfl⟩
  exact ⟨rfl, Go.Lib.below_grow _ w (Nat.le_refl _) k os⟩
 ·cases h
noncomputable abbrev Γ115 : LC := (88, s88) :: Γ114
theorem G115 : SD Γ115 := G114.cons m88
-- strconv.ParseInt
noncomputable def s117 : Ctr := fun
 | [.val (.string s), iv y, iv z] => some (y == 10 && (z == 64 && (pO s.data.toList && Nat.ble s.size 9223372036854775806)), .tup [iv (pN s.data.toList), .val .nilIface])
 | _ => none
theorem m117 : MT 117 s117 := by
 refine Meets.shelf ⟨_, Tryz.func117, by kernel_rfl, by kernel_rfl⟩ fun args x h => ?_
 unfold s117 at h
 split at h
 ·rename_i s y z
  simp only [Option.some.injEq, Prod.mk.injEq, Bool.and_eq_true, beq_iff_eq, decide_eq_true_eq] at h
  obtain ⟨hp, rfl⟩ := h
  refine ⟨[.string s, .int .i64 y, .int .i64 z], .tuple #[.int .i64 (pN s.data.toList), .nilIface], rfl, rfl, fun w B hG => ?_⟩
  obtain ⟨rfl, rfl, h0, h1⟩ := hp
  have hv : Go.Lib.parseIntB 64 s.data.toList = .ok (pN s.data.toList) := by
   unfold pO at h0
   unfold pN
   split at h0
   ·rename_i v e
    rw [e]
   ·cases h0
  refine (show Calls Tryz.prog _ _ w _ from Any.strconv_ParseInt_10_at64_ok Tryz.laysC174 s (Nat.le_of_ble_eq_true h1) _ hv w).mono ?_
  rintro e w' ⟨rfl, rfl | ⟨t, rfl⟩⟩
  ·exact ⟨rfl, Below.refl _ _⟩
  ·exact ⟨rfl, Go.Lib.bytesWorld_below _ _ _⟩
 ·cases h
noncomputable abbrev Γ116 : LC := (117, s117) :: Γ115
theorem G116 : SD Γ116 := G115.cons m117
-- strings.CutSuffix
noncomputable def s49 : Ctr := fun
 | [.val (.string s), .val (.string p)] => some (Nat.ble s.size 9223372036854775807, .tup [.val (.string ⟨(Go.Lib.trimSuffix s.data.toList p.data.toList).toArray⟩), bv (Go.Lib.hasSuffix s.data.toList p.data.toList)])
 | _ => none
theorem m49 : MT 49 s49 := by
 refine Meets.shelf ⟨_, Tryz.func49, by kernel_rfl, by kernel_rfl⟩ fun args x h => ?_
 unfold s49 at h
 split at h
 ·rename_i s p
  simp only [Option.some.injEq, Prod.mk.injEq, Bool.and_eq_true, beq_iff_eq, decide_eq_true_eq] at h
  obtain ⟨hp, rfl⟩ := h
  refine ⟨[.string s, .string p], .tuple #[.string ⟨(Go.Lib.trimSuffix s.data.toList p.data.toList).toArray⟩, .bool (Go.Lib.hasSuffix s.data.toList p.data.toList)], rfl, rfl, fun w B hG => ?_⟩
  refine (show Calls Tryz.prog _ _ w _ from Any.strings_CutSuffix Tryz.lays104 s p w (Nat.le_of_ble_eq_true hp)).mono ?_
  rintro e w' ⟨rfl, rfl⟩
  exact ⟨rfl, Below.refl _ _⟩
 ·cases h
noncomputable abbrev Γ117 : LC := (49, s49) :: Γ116
theorem G117 : SD Γ117 := G116.cons m49
-- strings.TrimPrefix
noncomputable def s86 : Ctr := fun
 | [.val (.string s), .val (.string p)] => some (true, .val (.string ⟨(Go.Lib.trimPrefix s.data.toList p.data.toList).toArray⟩))
 | _ => none
theorem m86 : MT 86 s86 := by
 refine Meets.shelf ⟨_, Tryz.func86, by kernel_rfl, by kernel_rfl⟩ fun args x h => ?_
 unfold s86 at h
 split at h
 ·rename_i s p
  simp only [Option.some.injEq, Prod.mk.injEq, Bool.and_eq_true, beq_iff_eq, decide_eq_true_eq] at h
  obtain ⟨hp, rfl⟩ := h
  refine ⟨[.string s, .string p], .string ⟨(Go.Lib.trimPrefix s.data.toList p.data.toList).toArray⟩, rfl, rfl, fun w B hG => ?_⟩
  refine (show Calls Tryz.prog _ _ w _ from Any.strings_TrimPrefix Tryz.lays101 s p w).mono ?_
  rintro e w' ⟨rfl, rfl⟩
  exact ⟨rfl, Below.refl _ _⟩
 ·cases h
noncomputable abbrev Γ118 : LC := (86, s86) :: Γ117
theorem G118 : SD Γ118 := G117.cons m86
-- strings.TrimSuffix
noncomputable def s85 : Ctr := fun
 | [.val (.string s), .val (.string p)] => some (Nat.ble s.size 9223372036854775807, .val (.string ⟨(Go.Lib.trimSuffix s.data.toList p.data.toList).toArray⟩))
 | _ => none
theorem m85 : MT 85 s85 := by
 refine Meets.shelf ⟨_, Tryz.func85, by kernel_rfl, by kernel_rfl⟩ fun args x h => ?_
 unfold s85 at h
 split at h
 ·rename_i s p
  simp only [Option.some.injEq, Prod.mk.injEq, Bool.and_eq_true, beq_iff_eq, decide_eq_true_eq] at h
  obtain ⟨hp, rfl⟩ := h
  refine ⟨[.string s, .string p], .string ⟨(Go.Lib.trimSuffix s.data.toList p.data.toList).toArray⟩, rfl, rfl, fun w B hG => ?_⟩
  refine (show Calls Tryz.prog _ _ w _ from Any.strings_TrimSuffix Tryz.lays102 s p w (Nat.le_of_ble_eq_true hp)).mono ?_
  rintro e w' ⟨rfl, rfl⟩
  exact ⟨rfl, Below.refl _ _⟩
 ·cases h
noncomputable abbrev Γ119 : LC := (85, s85) :: Γ118
theorem G119 : SD Γ119 := G118.cons m85
-- internal/stringslite.Index
noncomputable def s79 : Ctr := fun
 | [.val (.string s), .val (.string p)] => some (Nat.beq p.size 1, iv (Go.Lib.indexByte s.data.toList (p.data.toList.headD 0)))
 | _ => none
theorem m79 : MT 79 s79 := by
 refine Meets.shelf ⟨_, Tryz.func79, by kernel_rfl, by kernel_rfl⟩ fun args x h => ?_
 unfold s79 at h
 split at h
 ·rename_i s p
  simp only [Option.some.injEq, Prod.mk.injEq, Bool.and_eq_true, beq_iff_eq, decide_eq_true_eq] at h
  obtain ⟨hp, rfl⟩ := h
  refine ⟨[.string s, .string p], .int .i64 (Go.Lib.indexByte s.data.toList (p.data.toList.headD 0)), rfl, rfl, fun w B hG => ?_⟩
  have hp := Nat.eq_of_beq_eq_true hp
  obtain ⟨c, rfl⟩ : ∃ c, p = ⟨#[c]⟩ := by
   obtain ⟨⟨l⟩⟩ := p
   match l, hp with
   | [c], _ => exact ⟨c, rfl⟩
  refine (show Calls Tryz.prog _ _ w _ from Any.stringslite_Index_one Tryz.lays219 s c w).mono ?_
  rintro e w' ⟨rfl, rfl⟩
  exact ⟨rfl, Below.refl _ _⟩
 ·cases h
noncomputable abbrev Γ120 : LC := (79, s79) :: Γ119
theorem G120 : SD Γ120 := G119.cons m79
-- math/bits.Len64
noncomputable def s83 : Ctr := fun
 | [.val (.int .u64 x)] => some (decide (0 <= x) && decide (x <= 18446744073709551615), iv (Go.Lib.bitLen x.toNat))
 | _ => none
theorem m83 : MT 83 s83 := by
 refine Meets.shelf ⟨_, Tryz.func83, by kernel_rfl, by kernel_rfl⟩ fun args x h => ?_
 unfold s83 at h
 split at h
 ·rename_i x
  simp only [Option.some.injEq, Prod.mk.injEq, Bool.and_eq_true, beq_iff_eq, decide_eq_true_eq] at h
  obtain ⟨hp, rfl⟩ := h
  refine ⟨[.int .u64 x], .int .i64 (Go.Lib.bitLen x.toNat), rfl, rfl, fun w B hG => ?_⟩
  refine (show Calls Tryz.prog _ _ w _ from Any.bits_Len64 Tryz.lays129 x w hp.1 hp.2).mono ?_
  rintro e w' ⟨rfl, rfl⟩
  exact ⟨rfl, Below.refl _ _⟩
 ·cases h
noncomputable abbrev Γ121 : LC := (83, s83) :: Γ120
theorem G121 : SD Γ121 := G120.cons m83
-- strings.shouldUseASCIISet
noncomputable def s146 : Ctr := fun
 | [iv x] => some (true, bv (decide (8 < x)))
 | _ => none
theorem m146 : MT 146 s146 := by
 refine Meets.shelf ⟨_, Tryz.func146, by kernel_rfl, by kernel_rfl⟩ fun args x h => ?_
 unfold s146 at h
 split at h
 ·rename_i x
  simp only [Option.some.injEq, Prod.mk.injEq, Bool.and_eq_true, beq_iff_eq, decide_eq_true_eq] at h
  obtain ⟨hp, rfl⟩ := h
  refine ⟨[.int .i64 x], .bool (decide (8 < x)), rfl, rfl, fun w B hG => ?_⟩
  refine (show Calls Tryz.prog _ _ w _ from Any.strings_shouldUseASCIISet Tryz.lays226 x w).mono ?_
  rintro e w' ⟨rfl, rfl⟩
  exact ⟨rfl, Below.refl _ _⟩
 ·cases h
noncomputable abbrev Γ122 : LC := (146, s146) :: Γ121
theorem G122 : SD Γ122 := G121.cons m146
-- strings.IndexRune
noncomputable def s145 : Ctr := fun
 | [.val (.string s), .val (.int .i32 x)] => some (decide (0 <= x) && decide (x < 128), iv (Go.Lib.indexByte s.data.toList x.toNat.toUInt8))
 | _ => none
theorem m145 : MT 145 s145 := by
 refine Meets.shelf ⟨_, Tryz.func145, by kernel_rfl, by kernel_rfl⟩ fun args x h => ?_
 unfold s145 at h
 split at h
 ·rename_i s x
  simp only [Option.some.injEq, Prod.mk.injEq, Bool.and_eq_true, beq_iff_eq, decide_eq_true_eq] at h
  obtain ⟨hp, rfl⟩ := h
  refine ⟨[.string s, .int .i32 x], .int .i64 (Go.Lib.indexByte s.data.toList x.toNat.toUInt8), rfl, rfl, fun w B hG => ?_⟩
  refine (show Calls Tryz.prog _ _ w _ from Any.strings_IndexRune_ascii Tryz.lays152 s x w hp.1 hp.2).mono ?_
  rintro e w' ⟨rfl, rfl⟩
  exact ⟨rfl, Below.refl _ _⟩
 ·cases h
noncomputable abbrev Γ123 : LC := (145, s145) :: Γ122
theorem G123 : SD Γ123 := G122.cons m145
-- strings.makeASCIISet
noncomputable def s147 : Ctr := fun
 | [.val (.string s)] => some (s.data.toList == [43, 45], .tup [.agg ((List.range 256).map pmCell), bv true])
 | _ => none
theorem m147 : MT 147 s147 := by
 refine Meets.shelf ⟨_, Tryz.func147, by kernel_rfl, by kernel_rfl⟩ fun args x h => ?_
 unfold s147 at h
 split at h
 ·rename_i s
  simp only [Option.some.injEq, Prod.mk.injEq, Bool.and_eq_true, beq_iff_eq, decide_eq_true_eq] at h
  obtain ⟨hp, rfl⟩ := h
  refine ⟨[.string s], .tuple #[.agg (Go.Lib.setCells [43, 45]), .bool true], rfl, rfl, fun w B hG => ?_⟩
  obtain rfl : s = ⟨#[43, 45]⟩ := by
   obtain ⟨⟨l⟩⟩ := s
   have hp : l = [43, 45] := hp
   rw [hp]
  refine (show Calls Tryz.prog _ _ w _ from Any.strings_makeASCIISet Tryz.lays227 Tryz.zeroValue161 (by kernel_rfl) ⟨#[43, 45]⟩ w (by decide) (fun j b h => by
   match j, h with
   | 0, h => cases h; decide
   | 1, h => cases h; decide)).mono ?_
  rintro e w' ⟨rfl, rfl⟩
  exact ⟨rfl, (Below.refl _ w).alloc (Nat.le_refl _) _⟩
 ·cases h
noncomputable abbrev Γ124 : LC := (147, s147) :: Γ123
theorem G124 : SD Γ124 := G123.cons m147
theorem m148 : MT 148 ctSet := Meets.contains ⟨_, Tryz.func148, by kernel_rfl, by kernel_rfl⟩ fun b x v w hc => Any.asciiSet_contains Tryz.lays228 b x v w hc
noncomputable abbrev Γ125 : LC := (148, ctSet) :: Γ124
theorem G125 : SD Γ125 := G124.cons m148
end Go.Proofs.YtlcopddgplbdhaaGreatDoor
