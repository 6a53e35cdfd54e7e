/- Contracts of the program's functions, by the evaluator. -/
import Derived.Test.YtkmeacninbnmaaaDoorT8
import Derived.Test.YtkmeacninbnmaaaDoorPlS
namespace Go.Proofs.YtkmeacninbnmaaaDoor
open Go.Ev Go.RowKit
set_option linter.unusedVariables false
set_option linter.unusedSimpArgs false
set_option maxRecDepth 100000

-- spec.l19Sign
def s48 : Ctr := fun
  | [.val (.int .i64 x)] => some (inB x (-1) 1, .val (.string ⟨([sg3 x]).toArray⟩))
  | _ => none

theorem e48 (x : Int) (hp : (inB x (-1) 1) = true) : evN Tryd.prog GLv Γ32 (0) []  Tryd.f48 [.val (.int .i64 x)] = some (.val (.string ⟨([sg3 x]).toArray⟩)) := by
  have h := inB_iff.1 hp
  rcases (show x = -1 ∨ x = 0 ∨ x = 1 by omega) with rfl | rfl | rfl <;> exact (show _ = _ from by kernel_rfl)
theorem m48 : Meets Tryd.prog GLv 48 s48 := by
  refine meetsN mix0 glv G32 Tryd.func48 (by kernel_rfl) (by kernel_rfl) s48 fun args x h => ?_
  unfold s48 at h
  split at h
  · rename_i x
    simp only [Option.some.injEq, Prod.mk.injEq] at h
    obtain ⟨hp, rfl⟩ := h
    exact ⟨_, _, by kernel_rfl, e48 x hp⟩
  · cases h
abbrev Γ33 : List (Nat × Ctr) := (48, s48) :: Γ32
theorem G33 : Sound Tryd.prog GLv Γ33 := G32.cons m48

-- impl.signText
def s62 : Ctr := fun
  | [.val (.int .i64 x)] => some (inB x (-1) 1, .val (.string ⟨([sg3 x]).toArray⟩))
  | _ => none

theorem e62 (x : Int) (hp : (inB x (-1) 1) = true) : evN Tryd.prog GLv Γ33 (0) []  Tryd.f62 [.val (.int .i64 x)] = some (.val (.string ⟨([sg3 x]).toArray⟩)) := by
  have h := inB_iff.1 hp
  rcases (show x = -1 ∨ x = 0 ∨ x = 1 by omega) with rfl | rfl | rfl <;> exact (show _ = _ from by kernel_rfl)
theorem m62 : Meets Tryd.prog GLv 62 s62 := by
  refine meetsN mix0 glv G33 Tryd.func62 (by kernel_rfl) (by kernel_rfl) s62 fun args x h => ?_
  unfold s62 at h
  split at h
  · rename_i x
    simp only [Option.some.injEq, Prod.mk.injEq] at h
    obtain ⟨hp, rfl⟩ := h
    exact ⟨_, _, by kernel_rfl, e62 x hp⟩
  · cases h
abbrev Γ34 : List (Nat × Ctr) := (62, s62) :: Γ33
theorem G34 : Sound Tryd.prog GLv Γ34 := G33.cons m62

-- spec.l19Word
def s50 : Ctr := fun
  | [.agg [.val (.int .i64 v), .val (.int .i64 x), .val (.int .i64 y), .val (.int .i64 z)]] => some (nodeB v x y z, .val (.string ⟨(wdL v x y z).toArray⟩))
  | _ => none

theorem e50 (v : Int) (x : Int) (y : Int) (z : Int) (hp : (nodeB v x y z) = true) : evN Tryd.prog GLv Γ34 (0) []  Tryd.f50 [.agg [.val (.int .i64 v), .val (.int .i64 x), .val (.int .i64 y), .val (.int .i64 z)]] = some (.val (.string ⟨(wdL v x y z).toArray⟩)) := by
  refine (show _ = cond (v == 1) (cond (decide (0 ≤ x) && Nat.blt (x).toNat (10 ^ (17 + 1))) (cond (Nat.ble (((⟨([98]).toArray⟩ : ByteArray)).size + ((⟨(Go.Lib.itoa (x)).toArray⟩ : ByteArray)).size) 9223372036854775807) (some (.val (.string ((⟨([98]).toArray⟩ : ByteArray) ++ (⟨(Go.Lib.itoa (x)).toArray⟩ : ByteArray))))) (none)) (none)) (cond (v == 2) (cond (decide (0 ≤ x) && Nat.blt (x).toNat (10 ^ (17 + 1))) (cond (Nat.ble (((⟨([102]).toArray⟩ : ByteArray)).size + ((⟨(Go.Lib.itoa (x)).toArray⟩ : ByteArray)).size) 9223372036854775807) (cond (inB y (-1) 1) (cond (Nat.ble ((((⟨([102]).toArray⟩ : ByteArray) ++ (⟨(Go.Lib.itoa (x)).toArray⟩ : ByteArray))).size + ((⟨([sg3 y]).toArray⟩ : ByteArray)).size) 9223372036854775807) (cond (decide (0 ≤ z) && Nat.blt (z).toNat (10 ^ (17 + 1))) (cond (Nat.ble (((((⟨([102]).toArray⟩ : ByteArray) ++ (⟨(Go.Lib.itoa (x)).toArray⟩ : ByteArray)) ++ (⟨([sg3 y]).toArray⟩ : ByteArray))).size + ((⟨(Go.Lib.itoa (z)).toArray⟩ : ByteArray)).size) 9223372036854775807) (some (.val (.string ((((⟨([102]).toArray⟩ : ByteArray) ++ (⟨(Go.Lib.itoa (x)).toArray⟩ : ByteArray)) ++ (⟨([sg3 y]).toArray⟩ : ByteArray)) ++ (⟨(Go.Lib.itoa (z)).toArray⟩ : ByteArray))))) (none)) (none)) (none)) (none)) (none)) (none)) (cond (decide (0 ≤ z) && Nat.blt (z).toNat (10 ^ (17 + 1))) (cond (Nat.ble (((⟨([99]).toArray⟩ : ByteArray)).size + ((⟨(Go.Lib.itoa (z)).toArray⟩ : ByteArray)).size) 9223372036854775807) (some (.val (.string ((⟨([99]).toArray⟩ : ByteArray) ++ (⟨(Go.Lib.itoa (z)).toArray⟩ : ByteArray))))) (none)) (none))) from by kernel_rfl).trans ?_
  unfold wdL
  simp only [ba_app, ba_size, List.length_append, List.length_cons, List.length_nil]
  rcases node_bd hp with ⟨rfl, h1, h2⟩ | ⟨rfl, h1, h2, h3, h4, h5⟩ | ⟨rfl, h3, h4⟩
  · have la := itoa_len (v := x) (by omega)
    refine (cond_yes (dc_ok (by omega) (by omega))).trans ?_
    exact (cond_yes (nb (by omega)))
  · have la := itoa_len (v := x) (by omega)
    have lb := itoa_len (v := z) (by omega)
    refine (cond_yes (dc_ok (by omega) (by omega))).trans ?_
    refine (cond_yes (nb (by omega))).trans ?_
    refine (cond_yes (inB_iff.2 (by omega))).trans ?_
    refine (cond_yes (nb (by omega))).trans ?_
    refine (cond_yes (dc_ok (by omega) (by omega))).trans ?_
    exact (cond_yes (nb (by omega)))
  · have lb := itoa_len (v := z) (by omega)
    refine (cond_yes (dc_ok (by omega) (by omega))).trans ?_
    exact (cond_yes (nb (by omega)))
theorem m50 : Meets Tryd.prog GLv 50 s50 := by
  refine meetsN mix0 glv G34 Tryd.func50 (by kernel_rfl) (by kernel_rfl) s50 fun args x h => ?_
  unfold s50 at h
  split at h
  · rename_i v x y z
    simp only [Option.some.injEq, Prod.mk.injEq] at h
    obtain ⟨hp, rfl⟩ := h
    exact ⟨_, _, by kernel_rfl, e50 v x y z hp⟩
  · cases h
abbrev Γ35 : List (Nat × Ctr) := (50, s50) :: Γ34
theorem G35 : Sound Tryd.prog GLv Γ35 := G34.cons m50

-- impl.nodeText
def s59 : Ctr := fun
  | [.agg [.val (.int .i64 v), .val (.int .i64 x), .val (.int .i64 y), .val (.int .i64 z)]] => some (nodeB v x y z, .val (.string ⟨(wdL v x y z).toArray⟩))
  | _ => none

theorem e59 (v : Int) (x : Int) (y : Int) (z : Int) (hp : (nodeB v x y z) = true) : evN Tryd.prog GLv Γ35 (0) []  Tryd.f59 [.agg [.val (.int .i64 v), .val (.int .i64 x), .val (.int .i64 y), .val (.int .i64 z)]] = some (.val (.string ⟨(wdL v x y z).toArray⟩)) := by
  refine (show _ = cond (v == 1) (cond (Nat.ble (x).natAbs 9223372036854775807) (cond (Nat.ble (((⟨([98]).toArray⟩ : ByteArray)).size + ((⟨(Go.Lib.itoa (x)).toArray⟩ : ByteArray)).size) 9223372036854775807) (some (.val (.string ((⟨([98]).toArray⟩ : ByteArray) ++ (⟨(Go.Lib.itoa (x)).toArray⟩ : ByteArray))))) (none)) (none)) (cond (v == 2) (cond (Nat.ble (x).natAbs 9223372036854775807) (cond (Nat.ble (((⟨([102]).toArray⟩ : ByteArray)).size + ((⟨(Go.Lib.itoa (x)).toArray⟩ : ByteArray)).size) 9223372036854775807) (cond (inB y (-1) 1) (cond (Nat.ble ((((⟨([102]).toArray⟩ : ByteArray) ++ (⟨(Go.Lib.itoa (x)).toArray⟩ : ByteArray))).size + ((⟨([sg3 y]).toArray⟩ : ByteArray)).size) 9223372036854775807) (cond (Nat.ble (z).natAbs 9223372036854775807) (cond (Nat.ble (((((⟨([102]).toArray⟩ : ByteArray) ++ (⟨(Go.Lib.itoa (x)).toArray⟩ : ByteArray)) ++ (⟨([sg3 y]).toArray⟩ : ByteArray))).size + ((⟨(Go.Lib.itoa (z)).toArray⟩ : ByteArray)).size) 9223372036854775807) (some (.val (.string ((((⟨([102]).toArray⟩ : ByteArray) ++ (⟨(Go.Lib.itoa (x)).toArray⟩ : ByteArray)) ++ (⟨([sg3 y]).toArray⟩ : ByteArray)) ++ (⟨(Go.Lib.itoa (z)).toArray⟩ : ByteArray))))) (none)) (none)) (none)) (none)) (none)) (none)) (cond (Nat.ble (z).natAbs 9223372036854775807) (cond (Nat.ble (((⟨([99]).toArray⟩ : ByteArray)).size + ((⟨(Go.Lib.itoa (z)).toArray⟩ : ByteArray)).size) 9223372036854775807) (some (.val (.string ((⟨([99]).toArray⟩ : ByteArray) ++ (⟨(Go.Lib.itoa (z)).toArray⟩ : ByteArray))))) (none)) (none))) from by kernel_rfl).trans ?_
  unfold wdL
  simp only [ba_app, ba_size, List.length_append, List.length_cons, List.length_nil]
  rcases node_bd hp with ⟨rfl, h1, h2⟩ | ⟨rfl, h1, h2, h3, h4, h5⟩ | ⟨rfl, h3, h4⟩
  · have la := itoa_len (v := x) (by omega)
    refine (cond_yes (nb (by omega))).trans ?_
    exact (cond_yes (nb (by omega)))
  · have la := itoa_len (v := x) (by omega)
    have lb := itoa_len (v := z) (by omega)
    refine (cond_yes (nb (by omega))).trans ?_
    refine (cond_yes (nb (by omega))).trans ?_
    refine (cond_yes (inB_iff.2 (by omega))).trans ?_
    refine (cond_yes (nb (by omega))).trans ?_
    refine (cond_yes (nb (by omega))).trans ?_
    exact (cond_yes (nb (by omega)))
  · have lb := itoa_len (v := z) (by omega)
    refine (cond_yes (nb (by omega))).trans ?_
    exact (cond_yes (nb (by omega)))
theorem m59 : Meets Tryd.prog GLv 59 s59 := by
  refine meetsN mix0 glv G35 Tryd.func59 (by kernel_rfl) (by kernel_rfl) s59 fun args x h => ?_
  unfold s59 at h
  split at h
  · rename_i v x y z
    simp only [Option.some.injEq, Prod.mk.injEq] at h
    obtain ⟨hp, rfl⟩ := h
    exact ⟨_, _, by kernel_rfl, e59 v x y z hp⟩
  · cases h
abbrev Γ36 : List (Nat × Ctr) := (59, s59) :: Γ35
theorem G36 : Sound Tryd.prog GLv Γ36 := G35.cons m59

end Go.Proofs.YtkmeacninbnmaaaDoor
