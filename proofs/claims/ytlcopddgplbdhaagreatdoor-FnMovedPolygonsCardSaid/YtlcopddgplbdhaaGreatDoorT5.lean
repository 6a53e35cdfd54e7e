/- Contracts of the program's functions, by the evaluator. -/
import Derived.Test.YtlcopddgplbdhaaGreatDoorT4
import Derived.Test.YtlcopddgplbdhaaGreatDoorPlS
namespace Go.Proofs.YtlcopddgplbdhaaGreatDoor
open Go.Ev Go.RowKit
set_option linter.unusedVariables false
set_option linter.unusedSimpArgs false
set_option maxRecDepth 100000
-- impl.readParts
noncomputable def s84 : Ctr := fun
 | [.val (.string s)] => some (prO s.data.toList && (Nat.ble s.size 1000000 && ascL s.data.toList), .tup [iv (prA s.data.toList), iv (prB s.data.toList)])
 | _ => none
theorem e84 (s : ByteArray) (hp : (prO s.data.toList && (Nat.ble s.size 1000000 && ascL s.data.toList)) = true) : evN Tryz.prog GLv Γ133 (0) []  Tryz.f84 [.val (.string s)] = some (.tup [iv (prA s.data.toList), iv (prB s.data.toList)]) := by
 simp only [Bool.and_eq_true] at hp
 obtain ⟨h0, h1, h2⟩ := hp
 have h1 := Nat.le_of_ble_eq_true h1
 obtain ⟨l0, l1, l2⟩ := tr_len s h2
 refine (show _ = cond (Nat.ble s.size 9223372036854775807) (cond (!(Go.Lib.hasSuffix s.data.toList [114])) (cond (pO (s.data.toList) && Nat.ble (s).size 9223372036854775806) (some (.tup [iv (pN s.data.toList), iv 0])) none) (cond (([43, 45] : List UInt8) == [43, 45] && (Nat.ble (⟨((Go.Lib.trimSuffix s.data.toList [114])).toArray⟩ : ByteArray).size 1000000 && ascL (Go.Lib.trimSuffix s.data.toList [114]))) (cond (decide ((lastPM (Go.Lib.trimSuffix s.data.toList [114])) <= 0)) (cond (pO ((Go.Lib.trimSuffix s.data.toList [114])) && Nat.ble ((⟨((Go.Lib.trimSuffix s.data.toList [114])).toArray⟩ : ByteArray)).size 9223372036854775806) (some (.tup [iv 0, iv (pN (Go.Lib.trimSuffix s.data.toList [114]))])) none) (cond (decide (0 <= (lastPM (Go.Lib.trimSuffix s.data.toList [114]))) && decide ((lastPM (Go.Lib.trimSuffix s.data.toList [114])) <= ((⟨((Go.Lib.trimSuffix s.data.toList [114])).toArray⟩ : ByteArray).size : Int))) (cond (pO (((⟨((Go.Lib.trimSuffix s.data.toList [114])).toArray⟩ : ByteArray).extract 0 (lastPM (Go.Lib.trimSuffix s.data.toList [114])).toNat).data.toList) && Nat.ble (((⟨((Go.Lib.trimSuffix s.data.toList [114])).toArray⟩ : ByteArray).extract 0 (lastPM (Go.Lib.trimSuffix s.data.toList [114])).toNat)).size 9223372036854775806) (cond (decide (0 <= (lastPM (Go.Lib.trimSuffix s.data.toList [114]))) && decide ((lastPM (Go.Lib.trimSuffix s.data.toList [114])) <= ((⟨((Go.Lib.trimSuffix s.data.toList [114])).toArray⟩ : ByteArray).size : Int))) (cond (pO ((Go.Lib.trimPrefix ((⟨((Go.Lib.trimSuffix s.data.toList [114])).toArray⟩ : ByteArray).extract (lastPM (Go.Lib.trimSuffix s.data.toList [114])).toNat (⟨((Go.Lib.trimSuffix s.data.toList [114])).toArray⟩ : ByteArray).size).data.toList [43])) && Nat.ble ((⟨((Go.Lib.trimPrefix ((⟨((Go.Lib.trimSuffix s.data.toList [114])).toArray⟩ : ByteArray).extract (lastPM (Go.Lib.trimSuffix s.data.toList [114])).toNat (⟨((Go.Lib.trimSuffix s.data.toList [114])).toArray⟩ : ByteArray).size).data.toList [43])).toArray⟩ : ByteArray)).size 9223372036854775806) (some (.tup [iv (pN ((⟨((Go.Lib.trimSuffix s.data.toList [114])).toArray⟩ : ByteArray).extract 0 (lastPM (Go.Lib.trimSuffix s.data.toList [114])).toNat).data.toList), iv (pN (Go.Lib.trimPrefix ((⟨((Go.Lib.trimSuffix s.data.toList [114])).toArray⟩ : ByteArray).extract (lastPM (Go.Lib.trimSuffix s.data.toList [114])).toNat (⟨((Go.Lib.trimSuffix s.data.toList [114])).toArray⟩ : ByteArray).size).data.toList [43]))])) none) none) none) none)) none)) none from by kernel_rfl).trans ?_
 unfold prO at h0
 unfold prA prB
 rw [show Nat.ble s.size 9223372036854775807 = true from Nat.ble_eq_true_of_le (by omega), cond_true]
 cases c1 : Go.Lib.hasSuffix s.data.toList [114] with
 | false =>
  rw [c1] at h0
  have h0 : pO s.data.toList = true := h0
  rw [h0, show Nat.ble s.size 9223372036854775806 = true from Nat.ble_eq_true_of_le (by omega)]
  rfl
 | true =>
  rw [c1] at h0
  simp only [Bool.not_true, cond_false] at h0 ⊢
  unfold prT prI at *
  unfold prT at *
  rw [ba_size, l1, show Nat.ble ((Go.Lib.trimSuffix s.data.toList [114])).length 1000000 = true from Nat.ble_eq_true_of_le (by omega), beq_self_eq_true, show Nat.ble ((Go.Lib.trimSuffix s.data.toList [114])).length 9223372036854775806 = true from Nat.ble_eq_true_of_le (by omega)]
  simp only [Bool.and_self, Bool.and_true, cond_true]
  by_cases c2 : (lastPM (Go.Lib.trimSuffix s.data.toList [114])) <= 0
  ·rw [decide_eq_true c2] at h0 ⊢
   simp only [cond_true] at h0 ⊢
   rw [h0]
   rfl
  ·rw [decide_eq_false c2] at h0 ⊢
   simp only [cond_false, Bool.and_eq_true] at h0 ⊢
   obtain ⟨p1, p2⟩ := h0
   obtain ⟨g1, g2⟩ := lastPM_bd (Go.Lib.trimSuffix s.data.toList [114])
   rw [ex_ba, ex_ba]
   simp only [List.drop_zero, Nat.sub_zero, ba_size]
   rw [decide_eq_true (show 0 <= (lastPM (Go.Lib.trimSuffix s.data.toList [114])) by omega), decide_eq_true (show (lastPM (Go.Lib.trimSuffix s.data.toList [114])) <= (((Go.Lib.trimSuffix s.data.toList [114])).length : Int) by omega), p1, List.take_of_length_le (l := ((Go.Lib.trimSuffix s.data.toList [114])).drop (lastPM (Go.Lib.trimSuffix s.data.toList [114])).toNat) (by rw [List.length_drop]; exact Nat.le_refl _), p2,
    show Nat.ble (List.take (lastPM (Go.Lib.trimSuffix s.data.toList [114])).toNat (Go.Lib.trimSuffix s.data.toList [114])).length 9223372036854775806 = true from Nat.ble_eq_true_of_le (by rw [List.length_take]; omega), show Nat.ble (Go.Lib.trimPrefix (List.drop (lastPM (Go.Lib.trimSuffix s.data.toList [114])).toNat (Go.Lib.trimSuffix s.data.toList [114])) [43]).length 9223372036854775806 = true from Nat.ble_eq_true_of_le (by have := tp_len (List.drop (lastPM (Go.Lib.trimSuffix s.data.toList [114])).toNat (Go.Lib.trimSuffix s.data.toList [114])) [43]; rw [List.length_drop] at this; omega)]
   rfl
theorem m84 : MT 84 s84 := by
 refine meetsN mix0 glv G133 Tryz.func84 (by kernel_rfl) (by kernel_rfl) s84 fun args x h => ?_
 unfold s84 at h
 split at h
 ·rename_i s
  obtain ⟨hp, rfl⟩ := sm_inj h
  exact ⟨_, _, by kernel_rfl, e84 s hp⟩
 ·cases h
noncomputable abbrev Γ134 : LC := (84, s84) :: Γ133
theorem G134 : SD Γ134 := G133.cons m84
end Go.Proofs.YtlcopddgplbdhaaGreatDoor
