/- Contracts of the program's functions, by the evaluator. -/
import Derived.Test.YtkmeacninbnmaaaDoorT2
import Derived.Test.YtkmeacninbnmaaaDoorPlS
namespace Go.Proofs.YtkmeacninbnmaaaDoor
open Go.Ev Go.RowKit
set_option linter.unusedVariables false
set_option linter.unusedSimpArgs false
set_option maxRecDepth 100000

def s47k (k : Nat) : Ctr := fun
  | [.val (.int .i64 x)] => some (decide (0 ≤ x) && Nat.blt x.toNat (10 ^ (k + 1)), .val (.string ⟨(Go.Lib.itoa x).toArray⟩))
  | _ => none

theorem dc_0 (x : Int) : evW Tryd.prog GLv Γ31 0 ⟨[], [(2, [false]), (4, [false])], [], 0, []⟩ Tryd.f47 [.val (.int .i64 x)] = cond (decide (x < 0)) (cond (decide (x > -10)) (none) (cond (decide (x < 0)) (none) (cond (decide (x < 10)) (some (.val (.string (u8S [(IntKind.u8.wrap (wr (48 + x)))])))) (none)))) (cond (decide (x < 0)) (none) (cond (decide (x < 10)) (some (.val (.string (u8S [(IntKind.u8.wrap (wr (48 + x)))])))) (none))) := by kernel_rfl
theorem dc_1 (k : Nat) (x : Int) : evW Tryd.prog GLv ((47, s47k k) :: Γ31) 0 ⟨[], [(2, [false]), (4, [false])], [], 0, []⟩ Tryd.f47 [.val (.int .i64 x)] = cond (decide (x < 0)) (cond (decide (x > -10)) (none) (cond (decide (x < 0)) (none) (cond (decide (x < 10)) (some (.val (.string (u8S [(IntKind.u8.wrap (wr (48 + x)))])))) (cond (decide (0 ≤ (wr (x.tdiv 10))) && Nat.blt (wr (x.tdiv 10)).toNat (10 ^ (k + 1))) (cond (Nat.ble ((⟨(Go.Lib.itoa (wr (x.tdiv 10))).toArray⟩ : ByteArray).size + (u8S [(IntKind.u8.wrap (wr (48 + (x.tmod 10))))]).size) 9223372036854775807) (some (.val (.string ((⟨(Go.Lib.itoa (wr (x.tdiv 10))).toArray⟩ : ByteArray) ++ (u8S [(IntKind.u8.wrap (wr (48 + (x.tmod 10))))]))))) (none)) (none))))) (cond (decide (x < 0)) (none) (cond (decide (x < 10)) (some (.val (.string (u8S [(IntKind.u8.wrap (wr (48 + x)))])))) (cond (decide (0 ≤ (wr (x.tdiv 10))) && Nat.blt (wr (x.tdiv 10)).toNat (10 ^ (k + 1))) (cond (Nat.ble ((⟨(Go.Lib.itoa (wr (x.tdiv 10))).toArray⟩ : ByteArray).size + (u8S [(IntKind.u8.wrap (wr (48 + (x.tmod 10))))]).size) 9223372036854775807) (some (.val (.string ((⟨(Go.Lib.itoa (wr (x.tdiv 10))).toArray⟩ : ByteArray) ++ (u8S [(IntKind.u8.wrap (wr (48 + (x.tmod 10))))]))))) (none)) (none)))) := by kernel_rfl

theorem m47k : ∀ k, k ≤ 17 → Meets Tryd.prog GLv 47 (s47k k) := by
  intro k
  induction k with
  | zero =>
    intro _
    refine meetsW mix0 G31 Tryd.func47 (by kernel_rfl) (by kernel_rfl) (s47k 0) fun args x h => ?_
    unfold s47k at h
    split at h
    · rename_i x
      simp only [Option.some.injEq, Prod.mk.injEq, Bool.and_eq_true, decide_eq_true_eq] at h
      obtain ⟨⟨h0, h1⟩, rfl⟩ := h
      have h1 : x.toNat + 1 ≤ 10 ^ (0 + 1) := Nat.le_of_ble_eq_true h1
      have h2 : x < 10 := by have : (10 : Nat) ^ (0 + 1) = 10 := rfl; omega
      refine ⟨0, ⟨[], [(2, [false]), (4, [false])], [], 0, []⟩, by kernel_rfl, ?_⟩
      rw [dc_0, decide_eq_false (show ¬ x < 0 by omega), decide_eq_true h2, u8S_dg h0 h2]
      rfl
    · cases h
  | succ k ih =>
    intro hk
    have hp : (10 : Nat) ^ (k + 1 + 1) ≤ 10 ^ 19 := Nat.pow_le_pow_right (by decide) (by omega)
    refine meetsW mix0 (G31.cons (ih (by omega))) Tryd.func47 (by kernel_rfl) (by kernel_rfl) (s47k (k + 1)) fun args x h => ?_
    unfold s47k at h
    split at h
    · rename_i x
      simp only [Option.some.injEq, Prod.mk.injEq, Bool.and_eq_true, decide_eq_true_eq] at h
      obtain ⟨⟨h0, h1⟩, rfl⟩ := h
      have h1 : x.toNat + 1 ≤ 10 ^ (k + 1 + 1) := Nat.le_of_ble_eq_true h1
      refine ⟨0, ⟨[], [(2, [false]), (4, [false])], [], 0, []⟩, by kernel_rfl, ?_⟩
      rw [dc_1, decide_eq_false (show ¬ x < 0 by omega)]
      by_cases h2 : x < 10
      · rw [decide_eq_true h2, u8S_dg h0 h2]
        rfl
      · obtain ⟨m, rfl⟩ : ∃ m : Nat, x = (m : Int) := ⟨x.toNat, by omega⟩
        have e1 : (m : Int).tdiv 10 = ((m / 10 : Nat) : Int) := by simp [Int.tdiv]
        have e2 : (m : Int).tmod 10 = ((m % 10 : Nat) : Int) := by simp [Int.tmod]
        rw [Int.toNat_natCast] at h1
        have hm : m / 10 < 10 ^ (k + 1) := by
          rw [Nat.pow_succ] at h1
          omega
        have hm2 : m / 10 < 10 ^ 18 := Nat.lt_of_lt_of_le hm (Nat.pow_le_pow_right (by decide) (by omega))
        have hq : wr ((m : Int).tdiv 10) = ((m / 10 : Nat) : Int) := by
          rw [e1]
          exact wr_in (by omega) (by omega)
        have l1 := itoa_len (v := ((m / 10 : Nat) : Int)) (by omega)
        have l2 := itoa_len (v := ((m % 10 : Nat) : Int)) (by omega)
        rw [decide_eq_false h2, itoa_step (x := (m : Int)) (by omega), hq, e1, e2, u8S_dg (x := ((m % 10 : Nat) : Int)) (by omega) (by omega), ba_app, ba_size, ba_size, decide_eq_true (show (0 : Int) ≤ ((m / 10 : Nat) : Int) by omega), Int.toNat_natCast, show Nat.blt (m / 10) (10 ^ (k + 1)) = true from Nat.ble_eq_true_of_le hm, nb (by omega)]
        rfl
    · cases h

def s47 : Ctr := s47k 17
theorem m47 : Meets Tryd.prog GLv 47 s47 := m47k 17 (by decide)
abbrev Γ32 : List (Nat × Ctr) := (47, s47) :: Γ31
theorem G32 : Sound Tryd.prog GLv Γ32 := G31.cons m47

end Go.Proofs.YtkmeacninbnmaaaDoor
