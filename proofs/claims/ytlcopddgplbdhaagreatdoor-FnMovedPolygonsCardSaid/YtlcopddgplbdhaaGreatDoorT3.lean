/- Contracts of the program's functions, by the evaluator. -/
import Derived.Test.YtlcopddgplbdhaaGreatDoorT2
import Derived.Test.YtlcopddgplbdhaaGreatDoorPlS
namespace Go.Proofs.YtlcopddgplbdhaaGreatDoor
open Go.Ev Go.RowKit
set_option linter.unusedVariables false
set_option linter.unusedSimpArgs false
set_option maxRecDepth 100000
-- impl.readNumber
noncomputable def s82 : Ctr := fun
 | [.val (.string s)] => some (pO s.data.toList && Nat.ble s.size 9223372036854775806, .tup [iv (pN s.data.toList), bv ((⟨(Go.Lib.itoa (pN s.data.toList)).toArray⟩ : ByteArray).toList == s.toList)])
 | _ => none
theorem e82 (s : ByteArray) (hp : (pO s.data.toList && Nat.ble s.size 9223372036854775806) = true) : evN Tryz.prog GLv Γ128 (0) []  Tryz.f82 [.val (.string s)] = some (.tup [iv (pN s.data.toList), bv ((⟨(Go.Lib.itoa (pN s.data.toList)).toArray⟩ : ByteArray).toList == s.toList)]) := by
 have ho := pO_abs (show pO s.data.toList = true by rw [Bool.and_eq_true] at hp; exact hp.1)
 refine (show _ = cond ((10 : Int) == 10 && ((64 : Int) == 64 && (pO s.data.toList && Nat.ble s.size 9223372036854775806))) (cond (Nat.ble (pN s.data.toList).natAbs 9223372036854775807) (some (.tup [iv (pN s.data.toList), bv ((⟨(Go.Lib.itoa (pN s.data.toList)).toArray⟩ : ByteArray).toList == s.toList)])) none) none from by kernel_rfl).trans ?_
 rw [hp, ho]
 rfl
theorem m82 : MT 82 s82 := by
 refine meetsN mix0 glv G128 Tryz.func82 (by kernel_rfl) (by kernel_rfl) s82 fun args x h => ?_
 unfold s82 at h
 split at h
 ·rename_i s
  obtain ⟨hp, rfl⟩ := sm_inj h
  exact ⟨_, _, by kernel_rfl, e82 s hp⟩
 ·cases h
noncomputable abbrev Γ129 : LC := (82, s82) :: Γ128
theorem G129 : SD Γ129 := G128.cons m82
-- internal/stringslite.Cut
noncomputable def s47 : Ctr := fun
 | [.val (.string s), .val (.string p)] => some (p.data.toList == [47] && Nat.ble s.size 1000000, .tup [.val (.string ⟨(rdBody s.data.toList).toArray⟩), .val (.string ⟨(rdPow s.data.toList).toArray⟩), bv (decide (rdI s.data.toList >= 0))])
 | _ => none
theorem e47 (s : ByteArray) (p : ByteArray) (hp : (p.data.toList == [47] && Nat.ble s.size 1000000) = true) : evN Tryz.prog GLv Γ129 (0) []  Tryz.f47 [.val (.string s), .val (.string p)] = some (.tup [.val (.string ⟨(rdBody s.data.toList).toArray⟩), .val (.string ⟨(rdPow s.data.toList).toArray⟩), bv (decide (rdI s.data.toList >= 0))]) := by
 rw [Bool.and_eq_true, beq_iff_eq] at hp
 obtain rfl := ba_of hp.1
 have hs := Nat.le_of_ble_eq_true hp.2
 have hl := ib_lt s.data.toList 47
 rw [<- sz_eq] at hl
 refine (show _ = cond (decide ((Go.Lib.indexByte s.data.toList 47) >= 0)) (cond (decide (0 <= (Go.Lib.indexByte s.data.toList 47)) && decide ((Go.Lib.indexByte s.data.toList 47) <= (s.size : Int))) (cond (decide (0 <= (wr ((Go.Lib.indexByte s.data.toList 47) + 1))) && decide ((wr ((Go.Lib.indexByte s.data.toList 47) + 1)) <= (s.size : Int))) (some (.tup [.val (.string (s.extract 0 (Go.Lib.indexByte s.data.toList 47).toNat)), .val (.string (s.extract (wr ((Go.Lib.indexByte s.data.toList 47) + 1)).toNat s.size)), bv true])) none) none) (some (.tup [.val (.string s), .val (.string ⟨([]).toArray⟩), bv false])) from by kernel_rfl).trans ?_
 unfold rdBody rdPow rdI
 by_cases h : (Go.Lib.indexByte s.data.toList 47) >= 0
 ·rw [wr_in (by omega) (by omega), decide_eq_true h, decide_eq_true (show (Go.Lib.indexByte s.data.toList 47) <= (s.size : Int) by omega), decide_eq_true (show 0 <= (Go.Lib.indexByte s.data.toList 47) + 1 by omega), decide_eq_true (show (Go.Lib.indexByte s.data.toList 47) + 1 <= (s.size : Int) by omega), ex_ba, ex_ba, sz_eq]
  simp only [Bool.and_self, cond_true, List.drop_zero, Nat.sub_zero]
  rw [show ((Go.Lib.indexByte s.data.toList 47) + 1).toNat = (Go.Lib.indexByte s.data.toList 47).toNat + 1 by omega, List.take_of_length_le (l := List.drop ((Go.Lib.indexByte s.data.toList 47).toNat + 1) s.data.toList) (by rw [List.length_drop]; exact Nat.le_refl _)]
 ·rw [decide_eq_false h]
  simp only [cond_false]
  try rw [ba_eta]
theorem m47 : MT 47 s47 := by
 refine meetsN mix0 glv G129 Tryz.func47 (by kernel_rfl) (by kernel_rfl) s47 fun args x h => ?_
 unfold s47 at h
 split at h
 ·rename_i s p
  obtain ⟨hp, rfl⟩ := sm_inj h
  exact ⟨_, _, by kernel_rfl, e47 s p hp⟩
 ·cases h
noncomputable abbrev Γ130 : LC := (47, s47) :: Γ129
theorem G130 : SD Γ130 := G129.cons m47
-- strings.Cut
noncomputable def s19 : Ctr := fun
 | [.val (.string s), .val (.string p)] => some (p.data.toList == [47] && Nat.ble s.size 1000000, .tup [.val (.string ⟨(rdBody s.data.toList).toArray⟩), .val (.string ⟨(rdPow s.data.toList).toArray⟩), bv (decide (rdI s.data.toList >= 0))])
 | _ => none
theorem e19 (s : ByteArray) (p : ByteArray) (hp : (p.data.toList == [47] && Nat.ble s.size 1000000) = true) : evN Tryz.prog GLv Γ130 (0) []  Tryz.f19 [.val (.string s), .val (.string p)] = some (.tup [.val (.string ⟨(rdBody s.data.toList).toArray⟩), .val (.string ⟨(rdPow s.data.toList).toArray⟩), bv (decide (rdI s.data.toList >= 0))]) := by
 refine (show _ = cond (p.data.toList == [47] && Nat.ble s.size 1000000) (some (.tup [.val (.string ⟨(rdBody s.data.toList).toArray⟩), .val (.string ⟨(rdPow s.data.toList).toArray⟩), bv (decide (rdI s.data.toList >= 0))])) none from by kernel_rfl).trans ?_
 rw [hp]
 rfl
theorem m19 : MT 19 s19 := by
 refine meetsN mix0 glv G130 Tryz.func19 (by kernel_rfl) (by kernel_rfl) s19 fun args x h => ?_
 unfold s19 at h
 split at h
 ·rename_i s p
  obtain ⟨hp, rfl⟩ := sm_inj h
  exact ⟨_, _, by kernel_rfl, e19 s p hp⟩
 ·cases h
noncomputable abbrev Γ131 : LC := (19, s19) :: Γ130
theorem G131 : SD Γ131 := G130.cons m19
-- unicode/utf8.DecodeLastRuneInString
noncomputable def s149 : Ctr := fun
 | [.val (.string s)] => some ((Nat.ble 1 s.size && Nat.ble s.size 1000000) && decide (byteA s (s.size - 1) < 128), .tup [.val (.int .i32 (byteA s (s.size - 1))), iv 1])
 | _ => none
theorem e149 (s : ByteArray) (hp : ((Nat.ble 1 s.size && Nat.ble s.size 1000000) && decide (byteA s (s.size - 1) < 128)) = true) : evW Tryz.prog GLv Γ131 (0) (⟨[], [(8, [false])], [], 0, []⟩)  Tryz.f149 [.val (.string s)] = some (.tup [.val (.int .i32 (byteA s (s.size - 1))), iv 1]) := by
 simp only [Bool.and_eq_true] at hp
 obtain ⟨⟨h1, h2⟩, h3⟩ := hp
 have h1 := Nat.le_of_ble_eq_true h1
 have h2 := Nat.le_of_ble_eq_true h2
 have h3 := of_decide_eq_true h3
 obtain ⟨b0, b1⟩ := byte_rng s (s.size - 1)
 refine (show _ = cond ((s.size : Int) == 0) (some (.tup [.val (.int .i32 65533), iv 0])) (cond (decide (0 <= (wr ((s.size : Int) - 1))) && decide ((wr ((s.size : Int) - 1)) < (s.size : Int))) (cond (decide (IntKind.i32.wrap (byteA s (wr ((s.size : Int) - 1)).toNat) < 128)) (some (.tup [.val (.int .i32 (IntKind.i32.wrap (byteA s (wr ((s.size : Int) - 1)).toNat))), iv 1])) none) none) from by kernel_rfl).trans ?_
 rw [show ((s.size : Int) == 0) = false by rw [beq_eq_false_iff_ne]; omega, wr_in (by omega) (by omega), decide_eq_true (show 0 <= (s.size : Int) - 1 by omega), decide_eq_true (show (s.size : Int) - 1 < (s.size : Int) by omega), show ((s.size : Int) - 1).toNat = s.size - 1 by omega,
  show IntKind.i32.wrap (byteA s (s.size - 1)) = byteA s (s.size - 1) by rw [IntKind.wrap_i32]; omega, decide_eq_true h3]
 rfl
theorem m149 : MT 149 s149 := by
 refine meetsW mix0 G131 Tryz.func149 (by kernel_rfl) (by kernel_rfl) s149 fun args x h => ?_
 unfold s149 at h
 split at h
 ·rename_i s
  obtain ⟨hp, rfl⟩ := sm_inj h
  exact ⟨_, _, by kernel_rfl, e149 s hp⟩
 ·cases h
noncomputable abbrev Γ132 : LC := (149, s149) :: Γ131
theorem G132 : SD Γ132 := G131.cons m149
end Go.Proofs.YtlcopddgplbdhaaGreatDoor
