/- Contracts of the program's functions, by the evaluator. -/
import Derived.Test.YtlcopddgplbdhaaGreatDoorT5
import Derived.Test.YtlcopddgplbdhaaGreatDoorPlS
namespace Go.Proofs.YtlcopddgplbdhaaGreatDoor
open Go.Ev Go.RowKit
set_option linter.unusedVariables false
set_option linter.unusedSimpArgs false
set_option maxRecDepth 100000
-- impl.ReadNum
noncomputable def s50 : Ctr := fun
 | [.val (.string s)] => some (rdO s.data.toList && (Nat.ble s.size 1000000 && ascL s.data.toList), rdV s.data.toList)
 | _ => none
theorem e50 (s : ByteArray) (hp : (rdO s.data.toList && (Nat.ble s.size 1000000 && ascL s.data.toList)) = true) : evN Tryz.prog GLv Γ134 (0) []  Tryz.f50 [.val (.string s)] = some (rdV s.data.toList) := by
 simp only [Bool.and_eq_true] at hp
 obtain ⟨h0, h1, h2⟩ := hp
 have h1' := Nat.le_of_ble_eq_true h1
 have e1 := sz_eq s
 obtain ⟨b1, b2⟩ := body_in s.data.toList
 have b3 := pow_len s.data.toList
 have b4 := tp_len (rdBody s.data.toList) [40]
 have b5 := ts_len (Go.Lib.trimPrefix (rdBody s.data.toList) [40]) [41]
 have b6 : ascL (Go.Lib.trimSuffix (Go.Lib.trimPrefix (rdBody s.data.toList) [40]) [41]) = true := ts_asc (tp_asc (asc_sub h2 b2) _) _
 refine (show _ = cond (([47] : List UInt8) == [47] && Nat.ble s.size 1000000) (cond (decide (rdI s.data.toList >= 0)) (cond (pO (rdPow s.data.toList) && Nat.ble (⟨(rdPow s.data.toList).toArray⟩ : ByteArray).size 9223372036854775806) (cond (decide (0 <= (IntKind.u64.wrap (pN (rdPow s.data.toList)))) && decide ((IntKind.u64.wrap (pN (rdPow s.data.toList))) <= 18446744073709551615)) (cond (Nat.ble (⟨((Go.Lib.trimPrefix (rdBody s.data.toList) [40])).toArray⟩ : ByteArray).size 9223372036854775807) (cond (prO (Go.Lib.trimSuffix (Go.Lib.trimPrefix (rdBody s.data.toList) [40]) [41]) && (Nat.ble (⟨((Go.Lib.trimSuffix (Go.Lib.trimPrefix (rdBody s.data.toList) [40]) [41])).toArray⟩ : ByteArray).size 1000000 && ascL (Go.Lib.trimSuffix (Go.Lib.trimPrefix (rdBody s.data.toList) [40]) [41]))) (cond (!(validB (⟨prA (Go.Lib.trimSuffix (Go.Lib.trimPrefix (rdBody s.data.toList) [40]) [41]), prB (Go.Lib.trimSuffix (Go.Lib.trimPrefix (rdBody s.data.toList) [40]) [41]), (wr ((Go.Lib.bitLen (IntKind.u64.wrap (pN (rdPow s.data.toList))).toNat : Int) - 1))⟩ : N3))) (some (.tup [.agg [iv 0, iv 0, iv 0], bv false])) (cond (validB (⟨prA (Go.Lib.trimSuffix (Go.Lib.trimPrefix (rdBody s.data.toList) [40]) [41]), prB (Go.Lib.trimSuffix (Go.Lib.trimPrefix (rdBody s.data.toList) [40]) [41]), (wr ((Go.Lib.bitLen (IntKind.u64.wrap (pN (rdPow s.data.toList))).toNat : Int) - 1))⟩ : N3)) (cond (!((⟨(numL (prA (Go.Lib.trimSuffix (Go.Lib.trimPrefix (rdBody s.data.toList) [40]) [41])) (prB (Go.Lib.trimSuffix (Go.Lib.trimPrefix (rdBody s.data.toList) [40]) [41])) ((wr ((Go.Lib.bitLen (IntKind.u64.wrap (pN (rdPow s.data.toList))).toNat : Int) - 1))).toNat).toArray⟩ : ByteArray).toList == s.toList)) (some (.tup [.agg [iv 0, iv 0, iv 0], bv false])) (some (.tup [.agg [iv (prA (Go.Lib.trimSuffix (Go.Lib.trimPrefix (rdBody s.data.toList) [40]) [41])), iv (prB (Go.Lib.trimSuffix (Go.Lib.trimPrefix (rdBody s.data.toList) [40]) [41])), iv ((wr ((Go.Lib.bitLen (IntKind.u64.wrap (pN (rdPow s.data.toList))).toNat : Int) - 1)))], bv true]))) (none))) none) none) none) none) (cond (Nat.ble (⟨((Go.Lib.trimPrefix (rdBody s.data.toList) [40])).toArray⟩ : ByteArray).size 9223372036854775807) (cond (prO (Go.Lib.trimSuffix (Go.Lib.trimPrefix (rdBody s.data.toList) [40]) [41]) && (Nat.ble (⟨((Go.Lib.trimSuffix (Go.Lib.trimPrefix (rdBody s.data.toList) [40]) [41])).toArray⟩ : ByteArray).size 1000000 && ascL (Go.Lib.trimSuffix (Go.Lib.trimPrefix (rdBody s.data.toList) [40]) [41]))) (cond (!(validB (⟨prA (Go.Lib.trimSuffix (Go.Lib.trimPrefix (rdBody s.data.toList) [40]) [41]), prB (Go.Lib.trimSuffix (Go.Lib.trimPrefix (rdBody s.data.toList) [40]) [41]), (0 : Int)⟩ : N3))) (some (.tup [.agg [iv 0, iv 0, iv 0], bv false])) (cond (validB (⟨prA (Go.Lib.trimSuffix (Go.Lib.trimPrefix (rdBody s.data.toList) [40]) [41]), prB (Go.Lib.trimSuffix (Go.Lib.trimPrefix (rdBody s.data.toList) [40]) [41]), (0 : Int)⟩ : N3)) (cond (!((⟨(numL (prA (Go.Lib.trimSuffix (Go.Lib.trimPrefix (rdBody s.data.toList) [40]) [41])) (prB (Go.Lib.trimSuffix (Go.Lib.trimPrefix (rdBody s.data.toList) [40]) [41])) ((0 : Int)).toNat).toArray⟩ : ByteArray).toList == s.toList)) (some (.tup [.agg [iv 0, iv 0, iv 0], bv false])) (some (.tup [.agg [iv (prA (Go.Lib.trimSuffix (Go.Lib.trimPrefix (rdBody s.data.toList) [40]) [41])), iv (prB (Go.Lib.trimSuffix (Go.Lib.trimPrefix (rdBody s.data.toList) [40]) [41])), iv ((0 : Int))], bv true]))) (none))) none) none)) none from by kernel_rfl).trans ?_
 unfold rdO stripL at h0
 rw [Bool.and_eq_true] at h0
 obtain ⟨h3, h4⟩ := h0
 have uw : 0 <= (IntKind.u64.wrap (pN (rdPow s.data.toList))) /\ (IntKind.u64.wrap (pN (rdPow s.data.toList))) <= 18446744073709551615 := by rw [IntKind.wrap_u64]; omega
 rw [h1, ba_size, ba_size, ba_size, h3, b6, show Nat.ble (Go.Lib.trimPrefix (rdBody s.data.toList) [40]).length 9223372036854775807 = true from Nat.ble_eq_true_of_le (by omega), show Nat.ble (Go.Lib.trimSuffix (Go.Lib.trimPrefix (rdBody s.data.toList) [40]) [41]).length 1000000 = true from Nat.ble_eq_true_of_le (by omega), show Nat.ble (rdPow s.data.toList).length 9223372036854775806 = true from Nat.ble_eq_true_of_le (by omega),
  decide_eq_true uw.1, decide_eq_true uw.2, beq_self_eq_true]
 simp only [Bool.and_self, Bool.and_true, cond_true]
 have fin : ∀ k : Int, k = rdK s.data.toList -> (cond (!(validB (⟨prA (Go.Lib.trimSuffix (Go.Lib.trimPrefix (rdBody s.data.toList) [40]) [41]), prB (Go.Lib.trimSuffix (Go.Lib.trimPrefix (rdBody s.data.toList) [40]) [41]), k⟩ : N3))) (some (.tup [.agg [iv 0, iv 0, iv 0], bv false])) (cond (validB (⟨prA (Go.Lib.trimSuffix (Go.Lib.trimPrefix (rdBody s.data.toList) [40]) [41]), prB (Go.Lib.trimSuffix (Go.Lib.trimPrefix (rdBody s.data.toList) [40]) [41]), k⟩ : N3)) (cond (!((⟨(numL (prA (Go.Lib.trimSuffix (Go.Lib.trimPrefix (rdBody s.data.toList) [40]) [41])) (prB (Go.Lib.trimSuffix (Go.Lib.trimPrefix (rdBody s.data.toList) [40]) [41])) (k).toNat).toArray⟩ : ByteArray).toList == s.toList)) (some (.tup [.agg [iv 0, iv 0, iv 0], bv false])) (some (.tup [.agg [iv (prA (Go.Lib.trimSuffix (Go.Lib.trimPrefix (rdBody s.data.toList) [40]) [41])), iv (prB (Go.Lib.trimSuffix (Go.Lib.trimPrefix (rdBody s.data.toList) [40]) [41])), iv (k)], bv true]))) (none))) = some (rdV s.data.toList) := fun k hk => by
  subst hk
  rw [tl_eq, tl_eq]
  unfold rdV rdY rdX rdA rdB stripL
  cases c1 : validB (⟨prA (Go.Lib.trimSuffix (Go.Lib.trimPrefix (rdBody s.data.toList) [40]) [41]), prB (Go.Lib.trimSuffix (Go.Lib.trimPrefix (rdBody s.data.toList) [40]) [41]), rdK s.data.toList⟩ : N3) with
  | false => rfl
  | true =>
   simp only [Bool.not_true, cond_false, cond_true, Bool.true_and]
   cases (numL (prA (Go.Lib.trimSuffix (Go.Lib.trimPrefix (rdBody s.data.toList) [40]) [41])) (prB (Go.Lib.trimSuffix (Go.Lib.trimPrefix (rdBody s.data.toList) [40]) [41])) (rdK s.data.toList).toNat == s.data.toList) <;> rfl
 by_cases c : rdI s.data.toList >= 0
 ·rw [decide_eq_true c] at h4 ⊢
  simp only [cond_true] at h4 ⊢
  rw [h4, cond_true]
  exact fin _ (rdK_wr c)
 ·rw [decide_eq_false c, cond_false]
  exact fin 0 (by unfold rdK; rw [decide_eq_false c]; rfl)
theorem m50 : MT 50 s50 := by
 refine meetsN mix0 glv G134 Tryz.func50 (by kernel_rfl) (by kernel_rfl) s50 fun args x h => ?_
 unfold s50 at h
 split at h
 ·rename_i s
  obtain ⟨hp, rfl⟩ := sm_inj h
  exact ⟨_, _, by kernel_rfl, e50 s hp⟩
 ·cases h
noncomputable abbrev Γ135 : LC := (50, s50) :: Γ134
theorem G135 : SD Γ135 := G134.cons m50
end Go.Proofs.YtlcopddgplbdhaaGreatDoor
