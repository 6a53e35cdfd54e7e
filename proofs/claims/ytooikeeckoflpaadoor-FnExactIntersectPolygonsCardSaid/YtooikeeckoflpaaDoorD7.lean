/- Contracts of the program's functions, by the evaluator. -/
import Derived.Test.YtooikeeckoflpaaDoorD6
import Derived.Test.YtooikeeckoflpaaDoorPlE
namespace Go.Proofs.YtooikeeckoflpaaDoor
open Go.Ev
set_option linter.unusedVariables false
set_option linter.unusedSimpArgs false
set_option maxRecDepth 100000

-- laws.FnExactIntersectPolygons
def s6 : Ctr := fun
  | [.arr a_n [.int .i64, .int .i64, .int .i64, .int .i64, .int .i64, .int .i64] a_c, .arr b_n [.int .i64, .int .i64, .int .i64, .int .i64, .int .i64, .int .i64] b_c] => some (Nat.ble a_n 9223372036854775807 && Nat.ble b_n 9223372036854775807, bv true)
  | _ => none

theorem e6 (a_n : Nat) (a_c : Nat → Nat → Int) (b_n : Nat) (b_c : Nat → Nat → Int) (hp : (Nat.ble a_n 9223372036854775807 && Nat.ble b_n 9223372036854775807) = true) : evW Tryd.prog GLv Γ125 (0) (⟨[], [], [(36, [0]), (38, [1]), (42, [2])], 3, []⟩)  Tryd.f6 [.arr a_n [.int .i64, .int .i64, .int .i64, .int .i64, .int .i64, .int .i64] a_c, .arr b_n [.int .i64, .int .i64, .int .i64, .int .i64, .int .i64, .int .i64] b_c] = some (bv true) := by
  rw [Bool.and_eq_true] at hp
  have hn := Nat.le_of_ble_eq_true hp.1
  have hn' := Nat.le_of_ble_eq_true hp.2
  refine (show _ = cond (decide ((szF a_n 1048576) < 0)) (some (bv true)) (cond (decide ((szF b_n (szF a_n 1048576)) < 0)) (some (bv true)) (cond (Nat.ble (a_n) 1048576) (cond (Nat.ble (b_n) 1048576) (cond (Nat.ble (a_n) 1048576 && Nat.ble (b_n) 1048576) (cond (Nat.ble (a_n) 1048576) (cond (Nat.ble (b_n) 1048576) (cond (Nat.ble (a_n) 1048576 && Nat.ble (b_n) 1048576) (cond (Nat.ble ((inN a_n (cpC 6 a_n a_c) b_n (cpC 6 b_n b_c))) 1048576) (cond (!(eqPS (inN a_n (cpC 6 a_n a_c) b_n (cpC 6 b_n b_c)) (inI a_n (cpC 6 a_n a_c) b_n (cpC 6 b_n b_c)) (inN a_n (cpC 6 a_n a_c) b_n (cpC 6 b_n b_c)) (inT a_n (cpC 6 a_n a_c) b_n (cpC 6 b_n b_c)))) (some (bv false)) (cond ((inE a_n (cpC 6 a_n a_c) b_n (cpC 6 b_n b_c)) != (inE a_n (cpC 6 a_n a_c) b_n (cpC 6 b_n b_c))) (some (bv false)) (cond (Nat.ble (a_n) 1048576) (cond (Nat.ble (a_n) 1048576) (cond (!(eqPS a_n (cpC 6 a_n a_c) a_n (cpC 6 a_n a_c))) (some (bv false)) (cond (Nat.ble (b_n) 1048576) (cond (Nat.ble (b_n) 1048576) (cond (!(eqPS b_n (cpC 6 b_n b_c) b_n (cpC 6 b_n b_c))) (some (bv false)) (cond (Nat.ble (a_n) 1048576 && (Nat.beq (a_n) (a_n) && true)) (cond (Nat.ble (b_n) 1048576 && (Nat.beq (b_n) (b_n) && true)) (cond (decide ((mkK 6 b_n (mkK 6 a_n 1)) < 0)) (some (bv false)) (cond (Nat.ble ((inN a_n (cpC 6 a_n a_c) b_n (cpC 6 b_n b_c))) 1048576) (cond (!(eqPS (inN a_n (cpC 6 a_n a_c) b_n (cpC 6 b_n b_c)) (inI a_n (cpC 6 a_n a_c) b_n (cpC 6 b_n b_c)) (inN a_n (cpC 6 a_n a_c) b_n (cpC 6 b_n b_c)) (inT a_n (cpC 6 a_n a_c) b_n (cpC 6 b_n b_c)))) (some (bv false)) (cond ((inE a_n (cpC 6 a_n a_c) b_n (cpC 6 b_n b_c)) != (inE a_n (cpC 6 a_n a_c) b_n (cpC 6 b_n b_c))) (some (bv false)) (cond (Nat.ble ((inN a_n (cpC 6 a_n a_c) b_n (cpC 6 b_n b_c))) 1048576 && (Nat.beq ((inN a_n (cpC 6 a_n a_c) b_n (cpC 6 b_n b_c))) ((inN a_n (cpC 6 a_n a_c) b_n (cpC 6 b_n b_c))) && true)) (cond (Nat.ble ((inN a_n (cpC 6 a_n a_c) b_n (cpC 6 b_n b_c))) 1048576) (cond (decide ((hdK 6 (mkC 6 0 (inN a_n (cpC 6 a_n a_c) b_n (cpC 6 b_n b_c)) (inI a_n (cpC 6 a_n a_c) b_n (cpC 6 b_n b_c)) 1) 0 (inN a_n (cpC 6 a_n a_c) b_n (cpC 6 b_n b_c)) 1) < 0)) (some (bv false)) (cond ((hdK 6 (mkC 6 0 (inN a_n (cpC 6 a_n a_c) b_n (cpC 6 b_n b_c)) (inI a_n (cpC 6 a_n a_c) b_n (cpC 6 b_n b_c)) 1) 0 (inN a_n (cpC 6 a_n a_c) b_n (cpC 6 b_n b_c)) 1) != (mkK 6 (inN a_n (cpC 6 a_n a_c) b_n (cpC 6 b_n b_c)) 1)) (some (bv false)) (cond (Nat.ble (a_n) 1048576) (cond (Nat.ble (b_n) 1048576) (cond (Nat.ble (a_n) 1048576 && Nat.ble (b_n) 1048576) (cond (Nat.ble ((inN a_n (cpC 6 a_n a_c) b_n (cpC 6 b_n b_c))) 1048576) (cond (!(eqPS (inN a_n (cpC 6 a_n a_c) b_n (cpC 6 b_n b_c)) (inI a_n (cpC 6 a_n a_c) b_n (cpC 6 b_n b_c)) (inN a_n (cpC 6 a_n a_c) b_n (cpC 6 b_n b_c)) (inT a_n (cpC 6 a_n a_c) b_n (cpC 6 b_n b_c)))) (some (bv false)) (cond ((inE a_n (cpC 6 a_n a_c) b_n (cpC 6 b_n b_c)) != (inE a_n (cpC 6 a_n a_c) b_n (cpC 6 b_n b_c))) (some (bv false)) (cond (Nat.ble ((inN a_n (cpC 6 a_n a_c) b_n (cpC 6 b_n b_c))) 1048576) (cond (decide ((hdK 6 (mkC 6 0 (inN a_n (cpC 6 a_n a_c) b_n (cpC 6 b_n b_c)) (inI a_n (cpC 6 a_n a_c) b_n (cpC 6 b_n b_c)) 1) 0 (inN a_n (cpC 6 a_n a_c) b_n (cpC 6 b_n b_c)) 1) < 0)) (some (bv false)) (cond ((hdK 6 (mkC 6 0 (inN a_n (cpC 6 a_n a_c) b_n (cpC 6 b_n b_c)) (inI a_n (cpC 6 a_n a_c) b_n (cpC 6 b_n b_c)) 1) 0 (inN a_n (cpC 6 a_n a_c) b_n (cpC 6 b_n b_c)) 1) != (mkK 6 (inN a_n (cpC 6 a_n a_c) b_n (cpC 6 b_n b_c)) 1)) (some (bv false)) (some (bv true)))) (none)))) (none)) (none)) (none)) (none)))) (none)) (none)))) (none))) (none)) (none))) (none)) (none))) (none)) (none)))) (none)) (none)) (none)) (none)) (none)) (none)) (none))) from by kernel_rfl).trans ?_
  by_cases hs : (szF a_n 1048576) < 0
  · rw [show decide ((szF a_n 1048576) < 0) = true from decide_eq_true hs]; rfl
  · obtain ⟨q, qe⟩ := szF_ok (n := a_n) (l := 1048576) (by omega) (by omega) hn (by omega)
    by_cases hs2 : (szF b_n (szF a_n 1048576)) < 0
    · rw [show decide ((szF a_n 1048576) < 0) = false from decide_eq_false hs, show decide ((szF b_n (szF a_n 1048576)) < 0) = true from decide_eq_true hs2]; rfl
    · have q2 := (szF_ok (n := b_n) (l := (szF a_n 1048576)) (by omega) (by omega) hn' (by omega)).1
      have qa : a_n ≤ 1048576 := by omega
      have qb : b_n ≤ 1048576 := by omega
      obtain ⟨e0, e1⟩ := in_same a_n (cpC 6 a_n a_c) b_n (cpC 6 b_n b_c)
      have k0 := (mark_held 6 (by decide) a_n (cpC 6 a_n a_c) 1 (by decide) (by omega)).2
      have k1 := (mark_held 6 (by decide) b_n (cpC 6 b_n b_c) (1 + ((6 * a_n : Nat) : Int)) (by omega) (by omega)).2
      obtain ⟨g1, k2⟩ := mark_held 6 (by decide) (inN a_n (cpC 6 a_n a_c) b_n (cpC 6 b_n b_c)) (inI a_n (cpC 6 a_n a_c) b_n (cpC 6 b_n b_c)) 1 (by decide) (by omega)
      rw [k0, k1, k2, g1, show decide ((szF a_n 1048576) < 0) = false from decide_eq_false hs, show decide ((szF b_n (szF a_n 1048576)) < 0) = false from decide_eq_false hs2, Nat.ble_eq_true_of_le qa, Nat.ble_eq_true_of_le qb, e1, eqPS_self, eqPS_self, show Nat.ble ((inN a_n (cpC 6 a_n a_c) b_n (cpC 6 b_n b_c))) 1048576 = true from Nat.ble_eq_true_of_le (by omega), Nat.beq_refl, Nat.beq_refl, Nat.beq_refl,
        decide_eq_false (by omega), decide_eq_false (by omega)]
      simp only [cond_true, cond_false, Bool.not_true, Bool.and_self, bne_self_eq_false]
theorem m6 : Meets Tryd.prog GLv 6 s6 := by
  refine meetsW mix0 G125 Tryd.func6 (by kernel_rfl) (by kernel_rfl) s6 fun args x h => ?_
  unfold s6 at h
  split at h
  · rename_i a_n a_c b_n b_c
    simp only [Option.some.injEq, Prod.mk.injEq] at h
    obtain ⟨hp, rfl⟩ := h
    exact ⟨_, _, by kernel_rfl, e6 a_n a_c b_n b_c hp⟩
  · cases h
end Go.Proofs.YtooikeeckoflpaaDoor
