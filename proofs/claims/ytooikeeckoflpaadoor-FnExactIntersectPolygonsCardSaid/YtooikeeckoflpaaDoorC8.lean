/- Contracts of the program's functions, by the evaluator. -/
import Derived.Test.YtooikeeckoflpaaDoorC7
import Derived.Test.YtooikeeckoflpaaDoorPlD
namespace Go.Proofs.YtooikeeckoflpaaDoor
open Go.Ev
set_option linter.unusedVariables false
set_option linter.unusedSimpArgs false
set_option maxRecDepth 100000

-- impl.AreaOf
def s10 : Ctr := fun
  | [.arr a_n [.int .i64, .int .i64, .int .i64, .int .i64, .int .i64, .int .i64] a_c] => some (Nat.ble a_n 1048576, .tup [(aoN a_n a_c).av, bv (aoB a_n a_c)])
  | _ => none

theorem e10 (a_n : Nat) (a_c : Nat → Nat → Int) (hp : (Nat.ble a_n 1048576) = true) : evN Tryd.prog GLv Γ84 (0) []  Tryd.f10 [.arr a_n [.int .i64, .int .i64, .int .i64, .int .i64, .int .i64, .int .i64] a_c] = some (.tup [(aoN a_n a_c).av, bv (aoB a_n a_c)]) := by
  refine (show _ = cond (Nat.ble a_n 1048576) (cond (!(vpI a_n a_c)) (some (.tup [z3.av, bv false])) (cond (inB a_n 1 16 && allP a_n a_c) (cond (kB (arC a_n a_c).k) (some (.tup [(chk (arC a_n a_c)).av, bv (chkB (arC a_n a_c))])) (none)) (none))) (none) from by kernel_rfl).trans ?_
  rw [hp, vp_eq]
  unfold aoN aoB
  cases hv : vpS a_n a_c with
  | false => rfl
  | true =>
    obtain ⟨h1, h2, h3⟩ := vpS_in hv
    obtain ⟨_, k2, _, _⟩ := ar_half (by omega) h2 (allP_iff.1 h3)
    rw [show inB (a_n : Int) 1 16 = true from inB_iff.2 (by omega), h3, k2]
    rfl
theorem m10 : Meets Tryd.prog GLv 10 s10 := by
  refine meetsN mix0 glv G84 Tryd.func10 (by kernel_rfl) (by kernel_rfl) s10 fun args x h => ?_
  unfold s10 at h
  split at h
  · rename_i a_n a_c
    simp only [Option.some.injEq, Prod.mk.injEq] at h
    obtain ⟨hp, rfl⟩ := h
    exact ⟨_, _, by kernel_rfl, e10 a_n a_c hp⟩
  · cases h
abbrev Γ85 : List (Nat × Ctr) := (10, s10) :: Γ84
theorem G85 : Sound Tryd.prog GLv Γ85 := G84.cons m10

-- spec.AreaOf
def s8 : Ctr := fun
  | [.arr a_n [.int .i64, .int .i64, .int .i64, .int .i64, .int .i64, .int .i64] a_c] => some (Nat.ble a_n 1048576, .tup [(aoN a_n a_c).av, bv (aoB a_n a_c)])
  | _ => none

theorem e8 (a_n : Nat) (a_c : Nat → Nat → Int) (hp : (Nat.ble a_n 1048576) = true) : evN Tryd.prog GLv Γ85 (0) []  Tryd.f8 [.arr a_n [.int .i64, .int .i64, .int .i64, .int .i64, .int .i64, .int .i64] a_c] = some (.tup [(aoN a_n a_c).av, bv (aoB a_n a_c)]) := by
  refine (show _ = cond (Nat.ble a_n 1048576) (cond (!(vpS a_n a_c)) (some (.tup [z3.av, bv false])) (cond (inB (a_n : Int) 1 1048576) (cond (inB a_n 1 16 && allP a_n (wideC a_n a_c)) (cond (kB (wr ((arF a_n (wideC a_n a_c) 0 a_n z3).k + 1))) (some (.tup [(chk (⟨(arF a_n (wideC a_n a_c) 0 a_n z3).a, (arF a_n (wideC a_n a_c) 0 a_n z3).b, wr ((arF a_n (wideC a_n a_c) 0 a_n z3).k + 1)⟩ : N3)).av, bv (chkB (⟨(arF a_n (wideC a_n a_c) 0 a_n z3).a, (arF a_n (wideC a_n a_c) 0 a_n z3).b, wr ((arF a_n (wideC a_n a_c) 0 a_n z3).k + 1)⟩ : N3))])) (none)) (none)) (none))) (none) from by kernel_rfl).trans ?_
  rw [hp]
  unfold aoN aoB
  cases hv : vpS a_n a_c with
  | false => rfl
  | true =>
    obtain ⟨h1, h2, h3⟩ := vpS_in hv
    obtain ⟨k1, _, k3, k4⟩ := ar_half (by omega) h2 (allP_iff.1 h3)
    rw [allP_wide, arF_congr (d := a_c) (by omega) (fun i hi => wide_at hi) a_n 0 z3 (by omega), show inB (a_n : Int) 1 16 = true from inB_iff.2 (by omega), show inB (a_n : Int) 1 1048576 = true from inB_iff.2 (by omega), h3, k1, k3, k4]
    rfl
theorem m8 : Meets Tryd.prog GLv 8 s8 := by
  refine meetsN mix0 glv G85 Tryd.func8 (by kernel_rfl) (by kernel_rfl) s8 fun args x h => ?_
  unfold s8 at h
  split at h
  · rename_i a_n a_c
    simp only [Option.some.injEq, Prod.mk.injEq] at h
    obtain ⟨hp, rfl⟩ := h
    exact ⟨_, _, by kernel_rfl, e8 a_n a_c hp⟩
  · cases h
abbrev Γ86 : List (Nat × Ctr) := (8, s8) :: Γ85
theorem G86 : Sound Tryd.prog GLv Γ86 := G85.cons m8

-- laws.FnExactAreaOf
def s3 : Ctr := fun
  | [.arr a_n [.int .i64, .int .i64, .int .i64, .int .i64, .int .i64, .int .i64] a_c] => some (Nat.ble a_n 9223372036854775807, bv true)
  | _ => none

theorem e3 (a_n : Nat) (a_c : Nat → Nat → Int) (hp : (Nat.ble a_n 9223372036854775807) = true) : evN Tryd.prog GLv Γ86 (0) []  Tryd.f3 [.arr a_n [.int .i64, .int .i64, .int .i64, .int .i64, .int .i64, .int .i64] a_c] = some (bv true) := by
  have hn := Nat.le_of_ble_eq_true hp
  refine (show _ = cond (decide (szF a_n 1048576 < 0)) (some (bv true)) (cond (Nat.ble a_n 1048576) (cond (Nat.ble a_n 1048576) (cond (Nat.ble a_n 1048576) (cond (Nat.ble a_n 1048576) (cond (!(eq3 (aoN a_n (cpC 6 a_n a_c)) (aoN a_n (cpC 6 a_n a_c)))) (some (bv false)) (cond (!(aoB a_n (cpC 6 a_n a_c) == aoB a_n (cpC 6 a_n a_c))) (some (bv false)) (cond (Nat.ble a_n 1048576) (cond (Nat.ble a_n 1048576) (cond (!(eqPS a_n (cpC 6 a_n a_c) a_n (cpC 6 a_n a_c))) (some (bv false)) (some (bv true))) (none)) (none)))) (none)) (none)) (none)) (none)) from by kernel_rfl).trans ?_
  by_cases hs : szF a_n 1048576 < 0
  · rw [show decide (szF a_n 1048576 < 0) = true from decide_eq_true hs]; rfl
  · have q := sz_ok hn hs
    rw [show decide (szF a_n 1048576 < 0) = false from decide_eq_false hs, Nat.ble_eq_true_of_le q, eq3_self, eqPS_self]
    simp only [cond_true, cond_false, Bool.not_true, beq_self_eq_true]
theorem m3 : Meets Tryd.prog GLv 3 s3 := by
  refine meetsN mix0 glv G86 Tryd.func3 (by kernel_rfl) (by kernel_rfl) s3 fun args x h => ?_
  unfold s3 at h
  split at h
  · rename_i a_n a_c
    simp only [Option.some.injEq, Prod.mk.injEq] at h
    obtain ⟨hp, rfl⟩ := h
    exact ⟨_, _, by kernel_rfl, e3 a_n a_c hp⟩
  · cases h
abbrev Γ87 : List (Nat × Ctr) := (3, s3) :: Γ86
theorem G87 : Sound Tryd.prog GLv Γ87 := G86.cons m3

end Go.Proofs.YtooikeeckoflpaaDoor
