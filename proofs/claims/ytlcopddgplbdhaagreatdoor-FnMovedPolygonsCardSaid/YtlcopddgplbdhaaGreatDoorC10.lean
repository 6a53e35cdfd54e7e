/- Contracts of the program's functions, by the evaluator. -/
import Derived.Test.YtlcopddgplbdhaaGreatDoorC9
import Derived.Test.YtlcopddgplbdhaaGreatDoorPlD
namespace Go.Proofs.YtlcopddgplbdhaaGreatDoor
open Go.Ev
set_option linter.unusedVariables false
set_option linter.unusedSimpArgs false
set_option maxRecDepth 100000
-- math/bits.Mul64
noncomputable def s171w : Ctr := fun
 | [.val (.int .u64 x), .val (.int .u64 y)] => some ((decide (0 <= x) && decide (x < 9223372036854775808)) && (decide (0 <= y) && decide (y < 9223372036854775808)), .tup [.val (.int .u64 (x * y / 18446744073709551616)), .val (.int .u64 (x * y % 18446744073709551616))])
 | _ => none
theorem e171w (x : Int) (y : Int) (hp : ((decide (0 <= x) && decide (x < 9223372036854775808)) && (decide (0 <= y) && decide (y < 9223372036854775808))) = true) : evN Tryz.prog GLv Γ83 (0) []  Tryz.f171 [.val (.int .u64 x), .val (.int .u64 y)] = some (.tup [.val (.int .u64 (x * y / 18446744073709551616)), .val (.int .u64 (x * y % 18446744073709551616))]) := by
 refine (show _ = some ((.tup [.val (.int .u64 (IntKind.u64.wrap (IntKind.u64.wrap (IntKind.u64.wrap (x.fdiv (2 ^ min (Int.toNat 32) 64) * y.fdiv (2 ^ min (Int.toNat 32) 64)) + (IntKind.u64.wrap (IntKind.u64.wrap (x.fdiv (2 ^ min (Int.toNat 32) 64) * IntKind.u64.wrap ↑(BitVec.ofInt 64 y &&& BitVec.ofInt 64 4294967295).toNat) + (IntKind.u64.wrap (IntKind.u64.wrap ↑(BitVec.ofInt 64 x &&& BitVec.ofInt 64 4294967295).toNat * IntKind.u64.wrap ↑(BitVec.ofInt 64 y &&& BitVec.ofInt 64 4294967295).toNat)).fdiv (2 ^ min (Int.toNat 32) 64))).fdiv (2 ^ min (Int.toNat 32) 64)) + (IntKind.u64.wrap (IntKind.u64.wrap ↑(BitVec.ofInt 64 (IntKind.u64.wrap (IntKind.u64.wrap (x.fdiv (2 ^ min (Int.toNat 32) 64) * IntKind.u64.wrap ↑(BitVec.ofInt 64 y &&& BitVec.ofInt 64 4294967295).toNat) + (IntKind.u64.wrap (IntKind.u64.wrap ↑(BitVec.ofInt 64 x &&& BitVec.ofInt 64 4294967295).toNat * IntKind.u64.wrap ↑(BitVec.ofInt 64 y &&& BitVec.ofInt 64 4294967295).toNat)).fdiv (2 ^ min (Int.toNat 32) 64))) &&& BitVec.ofInt 64 4294967295).toNat + IntKind.u64.wrap (IntKind.u64.wrap ↑(BitVec.ofInt 64 x &&& BitVec.ofInt 64 4294967295).toNat * y.fdiv (2 ^ min (Int.toNat 32) 64)))).fdiv (2 ^ min (Int.toNat 32) 64)))), .val (.int .u64 (IntKind.u64.wrap (x * y)))])) from by kernel_rfl).trans ?_
 simp only [Bool.and_eq_true, decide_eq_true_eq] at hp
 obtain ⟨⟨h1, h2⟩, h3, h4⟩ := hp
 obtain ⟨e1, e2⟩ := mul64_wide h1 h2 h3 h4
 rw [e1, e2]
theorem m171w : MT 171 s171w := by
 refine meetsN mix0 glv G83 Tryz.func171 (by kernel_rfl) (by kernel_rfl) s171w fun args x h => ?_
 unfold s171w at h
 split at h
 ·rename_i x y
  obtain ⟨hp, rfl⟩ := sm_inj h
  exact ⟨_, _, by kernel_rfl, e171w x y hp⟩
 ·cases h
noncomputable abbrev Γ84 : LC := (171, s171w) :: Γ83
theorem G84 : SD Γ84 := G83.cons m171w
-- impl.isGreater
noncomputable def s155w : Ctr := fun
 | [iv x, iv y] => some (sW x && sW y, bv (decide (x * x > 2 * (y * y))))
 | _ => none
theorem e155w (x : Int) (y : Int) (hp : (sW x && sW y) = true) : evN Tryz.prog GLv Γ84 (0) []  Tryz.f155 [iv x, iv y] = some (bv (decide (x * x > 2 * (y * y)))) := by
 refine (show _ = cond (decide (0 <= IntKind.u64.wrap (absV x)) && decide (IntKind.u64.wrap (absV x) < 9223372036854775808) && (decide (0 <= IntKind.u64.wrap (absV x)) && decide (IntKind.u64.wrap (absV x) < 9223372036854775808))) ( cond (decide (0 <= IntKind.u64.wrap (absV y)) && decide (IntKind.u64.wrap (absV y) < 9223372036854775808) && (decide (0 <= IntKind.u64.wrap (absV y)) && decide (IntKind.u64.wrap (absV y) < 9223372036854775808))) ( cond (decide (IntKind.u64.wrap (absV x) * IntKind.u64.wrap (absV x) / 18446744073709551616 > IntKind.u64.wrap ↑(BitVec.ofInt IntKind.u64.bits (IntKind.u64.wrap (IntKind.u64.wrap (absV y) * IntKind.u64.wrap (absV y) / 18446744073709551616 * 2 ^ min (Int.toNat 1) IntKind.u64.bits)) ||| BitVec.ofInt IntKind.u64.bits ((IntKind.u64.wrap (absV y) * IntKind.u64.wrap (absV y) % 18446744073709551616).fdiv (2 ^ min (Int.toNat 63) IntKind.u64.bits))).toNat)) ( some (bv (true)) ) ( cond (IntKind.u64.wrap (absV x) * IntKind.u64.wrap (absV x) / 18446744073709551616 == IntKind.u64.wrap ↑(BitVec.ofInt 64 (IntKind.u64.wrap (IntKind.u64.wrap (absV y) * IntKind.u64.wrap (absV y) / 18446744073709551616 * 2 ^ min (Int.toNat 1) 64)) ||| BitVec.ofInt 64 ((IntKind.u64.wrap (absV y) * IntKind.u64.wrap (absV y) % 18446744073709551616).fdiv (2 ^ min (Int.toNat 63) 64))).toNat) ( some (bv (decide (IntKind.u64.wrap (absV x) * IntKind.u64.wrap (absV x) % 18446744073709551616 > IntKind.u64.wrap (IntKind.u64.wrap (absV y) * IntKind.u64.wrap (absV y) % 18446744073709551616 * 2 ^ min (Int.toNat 1) IntKind.u64.bits)))) ) ( some (bv (false)) ) ) ) ( none ) ) ( none ) from by kernel_rfl).trans ?_
 rw [Bool.and_eq_true] at hp
 obtain ⟨a1, a2, a3⟩ := abs_w hp.1
 obtain ⟨b1, b2, b3⟩ := abs_w hp.2
 obtain ⟨c1, c2⟩ := sq_wide hp.1
 obtain ⟨d1, d2⟩ := sq_wide hp.2
 obtain ⟨g1, g2⟩ := gt_wide c1 c2 d1 d2
 rw [show IntKind.u64.bits = 64 from rfl, a1, b1, a2, b2, a3, b3, g1, g2, <- lex_gt (X := x * x) (Z := 2 * (y * y))]
 cases decide (x * x / 18446744073709551616 > 2 * (y * y) / 18446744073709551616) <;> cases x * x / 18446744073709551616 == 2 * (y * y) / 18446744073709551616 <;> rfl
theorem m155w : MT 155 s155w := by
 refine meetsN mix0 glv G84 Tryz.func155 (by kernel_rfl) (by kernel_rfl) s155w fun args x h => ?_
 unfold s155w at h
 split at h
 ·rename_i x y
  obtain ⟨hp, rfl⟩ := sm_inj h
  exact ⟨_, _, by kernel_rfl, e155w x y hp⟩
 ·cases h
noncomputable abbrev Γ85 : LC := (155, s155w) :: Γ84
theorem G85 : SD Γ85 := G84.cons m155w
-- (impl.Num).sign
noncomputable def s128w : Ctr := fun
 | [.agg [iv x_a, iv x_b, iv x_k]] => some (sW x_a && sW x_b, iv (sgF (⟨x_a, x_b, x_k⟩ : N3)))
 | _ => none
theorem e128w (x_a : Int) (x_b : Int) (x_k : Int) (hp : (sW x_a && sW x_b) = true) : evN Tryz.prog GLv Γ85 (0) []  Tryz.f128 [.agg [iv x_a, iv x_b, iv x_k]] = some (iv (sgF (⟨x_a, x_b, x_k⟩ : N3))) := by
 refine (show _ = cond (x_a.sign == x_b.sign) (some (iv x_a.sign)) (cond (x_b.sign == 0) (some (iv x_a.sign)) (cond (x_a.sign == 0) (some (iv x_b.sign)) (cond (sW x_a && sW x_b) (cond (!decide (x_a * x_a > 2 * (x_b * x_b))) (some (iv x_b.sign)) (some (iv x_a.sign))) none))) from by kernel_rfl).trans ?_
 rw [hp, <- sgF_alt]
 cases x_a.sign == x_b.sign <;> cases x_b.sign == 0 <;> cases x_a.sign == 0 <;> cases decide (x_a * x_a > 2 * (x_b * x_b)) <;> rfl
theorem m128w : MT 128 s128w := by
 refine meetsN mix0 glv G85 Tryz.func128 (by kernel_rfl) (by kernel_rfl) s128w fun args x h => ?_
 unfold s128w at h
 split at h
 ·rename_i x_a x_b x_k
  obtain ⟨hp, rfl⟩ := sm_inj h
  exact ⟨_, _, by kernel_rfl, e128w x_a x_b x_k hp⟩
 ·cases h
noncomputable abbrev Γ86 : LC := (128, s128w) :: Γ85
theorem G86 : SD Γ86 := G85.cons m128w
-- (impl.Num).compare
noncomputable def s129w : Ctr := fun
 | [.agg [iv x_a, iv x_b, iv x_k], .agg [iv y_a, iv y_b, iv y_k]] => some (cmW (⟨x_a, x_b, x_k⟩ : N3) (⟨y_a, y_b, y_k⟩ : N3), iv (sgF (subF (⟨x_a, x_b, x_k⟩ : N3) (⟨y_a, y_b, y_k⟩ : N3))))
 | _ => none
theorem e129w (x_a : Int) (x_b : Int) (x_k : Int) (y_a : Int) (y_b : Int) (y_k : Int) (hp : (cmW (⟨x_a, x_b, x_k⟩ : N3) (⟨y_a, y_b, y_k⟩ : N3)) = true) : evN Tryz.prog GLv Γ86 (0) []  Tryz.f129 [.agg [iv x_a, iv x_b, iv x_k], .agg [iv y_a, iv y_b, iv y_k]] = some (iv (sgF (subF (⟨x_a, x_b, x_k⟩ : N3) (⟨y_a, y_b, y_k⟩ : N3)))) := by
 have hp' := hp
 unfold cmW at hp'
 rw [Bool.and_eq_true] at hp'
 refine (show _ = cond (pk (⟨x_a, x_b, x_k⟩ : N3) (⟨y_a, y_b, y_k⟩ : N3)) (cond (sW (subF (⟨x_a, x_b, x_k⟩ : N3) (⟨y_a, y_b, y_k⟩ : N3)).a && sW (subF (⟨x_a, x_b, x_k⟩ : N3) (⟨y_a, y_b, y_k⟩ : N3)).b) (some (iv (sgF (subF (⟨x_a, x_b, x_k⟩ : N3) (⟨y_a, y_b, y_k⟩ : N3))))) (none)) (none) from by kernel_rfl).trans ?_
 rw [hp'.1, hp'.2]
 rfl
theorem m129w : MT 129 s129w := by
 refine meetsN mix0 glv G86 Tryz.func129 (by kernel_rfl) (by kernel_rfl) s129w fun args x h => ?_
 unfold s129w at h
 split at h
 ·rename_i x_a x_b x_k y_a y_b y_k
  obtain ⟨hp, rfl⟩ := sm_inj h
  exact ⟨_, _, by kernel_rfl, e129w x_a x_b x_k y_a y_b y_k hp⟩
 ·cases h
noncomputable abbrev Γ87 : LC := (129, s129w) :: Γ86
theorem G87 : SD Γ87 := G86.cons m129w
-- spec.l01Square
noncomputable def s134w : Ctr := fun
 | [iv x] => some (sW x, .tup [.val (.int .u64 (x * x / 18446744073709551616)), .val (.int .u64 (x * x % 18446744073709551616))])
 | _ => none
theorem e134w (x : Int) (hp : (sW x) = true) : evN Tryz.prog GLv Γ87 (0) []  Tryz.f134 [iv x] = some (.tup [.val (.int .u64 (x * x / 18446744073709551616)), .val (.int .u64 (x * x % 18446744073709551616))]) := by
 exact (show _ = cond (decide (x < 0)) (sqT (u64w (wr (0 - x)))) (sqT (u64w x)) from by kernel_rfl).trans (sq_wideT hp)
theorem m134w : MT 134 s134w := by
 refine meetsN mix0 glv G87 Tryz.func134 (by kernel_rfl) (by kernel_rfl) s134w fun args x h => ?_
 unfold s134w at h
 split at h
 ·rename_i x
  obtain ⟨hp, rfl⟩ := sm_inj h
  exact ⟨_, _, by kernel_rfl, e134w x hp⟩
 ·cases h
noncomputable abbrev Γ88 : LC := (134, s134w) :: Γ87
theorem G88 : SD Γ88 := G87.cons m134w
-- spec.l01Less
noncomputable def s103w : Ctr := fun
 | [iv x, iv y] => some (sW x && sW y, bv (decide (x * x < 2 * (y * y))))
 | _ => none
theorem e103w (x : Int) (y : Int) (hp : (sW x && sW y) = true) : evN Tryz.prog GLv Γ88 (0) []  Tryz.f103 [iv x, iv y] = some (bv (decide (x * x < 2 * (y * y)))) := by
 rw [Bool.and_eq_true] at hp
 refine (show _ = cond (sW x) (cond (sW y) (cond (decide (x * x / 18446744073709551616 < u64w (u64w (y * y / 18446744073709551616 * 2) + (y * y % 18446744073709551616).fdiv (2 ^ min (Int.toNat 63) 64)))) (some (bv true)) (cond (x * x / 18446744073709551616 == u64w (u64w (y * y / 18446744073709551616 * 2) + (y * y % 18446744073709551616).fdiv (2 ^ min (Int.toNat 63) 64))) (some (bv (decide (x * x % 18446744073709551616 < u64w (y * y % 18446744073709551616 * 2))))) (some (bv false)))) none) none from by kernel_rfl).trans ?_
 rw [hp.1, hp.2]
 obtain ⟨d1, d2⟩ := sq_wide hp.2
 exact less_wide d1 d2
theorem m103w : MT 103 s103w := by
 refine meetsN mix0 glv G88 Tryz.func103 (by kernel_rfl) (by kernel_rfl) s103w fun args x h => ?_
 unfold s103w at h
 split at h
 ·rename_i x y
  obtain ⟨hp, rfl⟩ := sm_inj h
  exact ⟨_, _, by kernel_rfl, e103w x y hp⟩
 ·cases h
noncomputable abbrev Γ89 : LC := (103, s103w) :: Γ88
theorem G89 : SD Γ89 := G88.cons m103w
-- spec.l01Sign
noncomputable def s69w : Ctr := fun
 | [.agg [iv x_a, iv x_b, iv x_k]] => some (sW x_a && sW x_b, iv (sgF (⟨x_a, x_b, x_k⟩ : N3)))
 | _ => none
theorem e69w (x_a : Int) (x_b : Int) (x_k : Int) (hp : (sW x_a && sW x_b) = true) : evN Tryz.prog GLv Γ89 (0) []  Tryz.f69 [.agg [iv x_a, iv x_b, iv x_k]] = some (iv (sgF (⟨x_a, x_b, x_k⟩ : N3))) := by
 refine (show _ = cond (x_a == 0) ( cond (x_b == 0) ( some (iv (0)) ) ( cond (decide (x_a >= 0)) ( cond (decide (x_b >= 0)) ( some (iv (1)) ) ( cond (decide (x_a <= 0)) ( cond (decide (x_b <= 0)) ( some (iv (-1)) ) ( cond (sW x_a && sW x_b) ( cond (decide (x_a * x_a < 2 * (x_b * x_b)) == decide (x_b > 0)) ( some (iv (1)) ) ( some (iv (-1)) ) ) ( none ) ) ) ( cond (sW x_a && sW x_b) ( cond (decide (x_a * x_a < 2 * (x_b * x_b)) == decide (x_b > 0)) ( some (iv (1)) ) ( some (iv (-1)) ) ) ( none ) ) ) ) ( cond (decide (x_a <= 0)) ( cond (decide (x_b <= 0)) ( some (iv (-1)) ) ( cond (sW x_a && sW x_b) ( cond (decide (x_a * x_a < 2 * (x_b * x_b)) == decide (x_b > 0)) ( some (iv (1)) ) ( some (iv (-1)) ) ) ( none ) ) ) ( cond (sW x_a && sW x_b) ( cond (decide (x_a * x_a < 2 * (x_b * x_b)) == decide (x_b > 0)) ( some (iv (1)) ) ( some (iv (-1)) ) ) ( none ) ) ) ) ) ( cond (decide (x_a >= 0)) ( cond (decide (x_b >= 0)) ( some (iv (1)) ) ( cond (decide (x_a <= 0)) ( cond (decide (x_b <= 0)) ( some (iv (-1)) ) ( cond (sW x_a && sW x_b) ( cond (decide (x_a * x_a < 2 * (x_b * x_b)) == decide (x_b > 0)) ( some (iv (1)) ) ( some (iv (-1)) ) ) ( none ) ) ) ( cond (sW x_a && sW x_b) ( cond (decide (x_a * x_a < 2 * (x_b * x_b)) == decide (x_b > 0)) ( some (iv (1)) ) ( some (iv (-1)) ) ) ( none ) ) ) ) ( cond (decide (x_a <= 0)) ( cond (decide (x_b <= 0)) ( some (iv (-1)) ) ( cond (sW x_a && sW x_b) ( cond (decide (x_a * x_a < 2 * (x_b * x_b)) == decide (x_b > 0)) ( some (iv (1)) ) ( some (iv (-1)) ) ) ( none ) ) ) ( cond (sW x_a && sW x_b) ( cond (decide (x_a * x_a < 2 * (x_b * x_b)) == decide (x_b > 0)) ( some (iv (1)) ) ( some (iv (-1)) ) ) ( none ) ) ) ) from by kernel_rfl).trans ?_
 rw [hp]
 show _ = some (iv (sgZ x_a x_b))
 rw [<- sgS_eq]
 unfold sgS
 cases (x_a == 0) <;> cases (x_b == 0) <;> cases decide (x_a >= 0) <;> cases decide (x_b >= 0) <;> cases decide (x_a <= 0) <;> cases decide (x_b <= 0) <;> cases (decide (x_a * x_a < 2 * (x_b * x_b)) == decide (x_b > 0)) <;> rfl
theorem m69w : MT 69 s69w := by
 refine meetsN mix0 glv G89 Tryz.func69 (by kernel_rfl) (by kernel_rfl) s69w fun args x h => ?_
 unfold s69w at h
 split at h
 ·rename_i x_a x_b x_k
  obtain ⟨hp, rfl⟩ := sm_inj h
  exact ⟨_, _, by kernel_rfl, e69w x_a x_b x_k hp⟩
 ·cases h
noncomputable abbrev Γ90 : LC := (69, s69w) :: Γ89
theorem G90 : SD Γ90 := G89.cons m69w
-- spec.l01Compare
noncomputable def s100w : Ctr := fun
 | [.agg [iv x_a, iv x_b, iv x_k], .agg [iv y_a, iv y_b, iv y_k]] => some (cmW (⟨x_a, x_b, x_k⟩ : N3) (⟨y_a, y_b, y_k⟩ : N3), iv (sgF (subF (⟨x_a, x_b, x_k⟩ : N3) (⟨y_a, y_b, y_k⟩ : N3))))
 | _ => none
theorem e100w (x_a : Int) (x_b : Int) (x_k : Int) (y_a : Int) (y_b : Int) (y_k : Int) (hp : (cmW (⟨x_a, x_b, x_k⟩ : N3) (⟨y_a, y_b, y_k⟩ : N3)) = true) : evN Tryz.prog GLv Γ90 (0) []  Tryz.f100 [.agg [iv x_a, iv x_b, iv x_k], .agg [iv y_a, iv y_b, iv y_k]] = some (iv (sgF (subF (⟨x_a, x_b, x_k⟩ : N3) (⟨y_a, y_b, y_k⟩ : N3)))) := by
 have hp' := hp
 unfold cmW at hp'
 rw [Bool.and_eq_true] at hp'
 refine (show _ = cond (pk (⟨x_a, x_b, x_k⟩ : N3) (⟨y_a, y_b, y_k⟩ : N3)) (cond (sW (subF (⟨x_a, x_b, x_k⟩ : N3) (⟨y_a, y_b, y_k⟩ : N3)).a && sW (subF (⟨x_a, x_b, x_k⟩ : N3) (⟨y_a, y_b, y_k⟩ : N3)).b) (some (iv (sgF (subF (⟨x_a, x_b, x_k⟩ : N3) (⟨y_a, y_b, y_k⟩ : N3))))) (none)) (none) from by kernel_rfl).trans ?_
 rw [hp'.1, hp'.2]
 rfl
theorem m100w : MT 100 s100w := by
 refine meetsN mix0 glv G90 Tryz.func100 (by kernel_rfl) (by kernel_rfl) s100w fun args x h => ?_
 unfold s100w at h
 split at h
 ·rename_i x_a x_b x_k y_a y_b y_k
  obtain ⟨hp, rfl⟩ := sm_inj h
  exact ⟨_, _, by kernel_rfl, e100w x_a x_b x_k y_a y_b y_k hp⟩
 ·cases h
noncomputable abbrev Γ91 : LC := (100, s100w) :: Γ90
theorem G91 : SD Γ91 := G90.cons m100w
-- (impl.Point).compare
noncomputable def s93w : Ctr := fun
 | [.agg [iv p_xa, iv p_xb, iv p_xk, iv p_ya, iv p_yb, iv p_yk], .agg [iv q_xa, iv q_xb, iv q_xk, iv q_ya, iv q_yb, iv q_yk]] => some (cmW (⟨p_xa, p_xb, p_xk⟩ : N3) (⟨q_xa, q_xb, q_xk⟩ : N3) && cmW (⟨p_ya, p_yb, p_yk⟩ : N3) (⟨q_ya, q_yb, q_yk⟩ : N3), iv (cpP (⟨⟨p_xa, p_xb, p_xk⟩, ⟨p_ya, p_yb, p_yk⟩⟩ : P2) (⟨⟨q_xa, q_xb, q_xk⟩, ⟨q_ya, q_yb, q_yk⟩⟩ : P2)))
 | _ => none
theorem e93w (p_xa : Int) (p_xb : Int) (p_xk : Int) (p_ya : Int) (p_yb : Int) (p_yk : Int) (q_xa : Int) (q_xb : Int) (q_xk : Int) (q_ya : Int) (q_yb : Int) (q_yk : Int) (hp : (cmW (⟨p_xa, p_xb, p_xk⟩ : N3) (⟨q_xa, q_xb, q_xk⟩ : N3) && cmW (⟨p_ya, p_yb, p_yk⟩ : N3) (⟨q_ya, q_yb, q_yk⟩ : N3)) = true) : evN Tryz.prog GLv Γ91 (0) []  Tryz.f93 [.agg [iv p_xa, iv p_xb, iv p_xk, iv p_ya, iv p_yb, iv p_yk], .agg [iv q_xa, iv q_xb, iv q_xk, iv q_ya, iv q_yb, iv q_yk]] = some (iv (cpP (⟨⟨p_xa, p_xb, p_xk⟩, ⟨p_ya, p_yb, p_yk⟩⟩ : P2) (⟨⟨q_xa, q_xb, q_xk⟩, ⟨q_ya, q_yb, q_yk⟩⟩ : P2))) := by
 rw [Bool.and_eq_true] at hp
 refine (show _ = cond (cmW (⟨p_xa, p_xb, p_xk⟩ : N3) (⟨q_xa, q_xb, q_xk⟩ : N3)) (cond (sgF (subF (⟨p_xa, p_xb, p_xk⟩ : N3) (⟨q_xa, q_xb, q_xk⟩ : N3)) != 0) (some (iv (sgF (subF (⟨p_xa, p_xb, p_xk⟩ : N3) (⟨q_xa, q_xb, q_xk⟩ : N3))))) (cond (cmW (⟨p_ya, p_yb, p_yk⟩ : N3) (⟨q_ya, q_yb, q_yk⟩ : N3)) (some (iv (sgF (subF (⟨p_ya, p_yb, p_yk⟩ : N3) (⟨q_ya, q_yb, q_yk⟩ : N3))))) (none))) (none) from by kernel_rfl).trans ?_
 rw [hp.1, hp.2]
 unfold cpP
 cases (sgF (subF (⟨p_xa, p_xb, p_xk⟩ : N3) (⟨q_xa, q_xb, q_xk⟩ : N3)) != 0) <;> rfl
theorem m93w : MT 93 s93w := by
 refine meetsN mix0 glv G91 Tryz.func93 (by kernel_rfl) (by kernel_rfl) s93w fun args x h => ?_
 unfold s93w at h
 split at h
 ·rename_i p_xa p_xb p_xk p_ya p_yb p_yk q_xa q_xb q_xk q_ya q_yb q_yk
  obtain ⟨hp, rfl⟩ := sm_inj h
  exact ⟨_, _, by kernel_rfl, e93w p_xa p_xb p_xk p_ya p_yb p_yk q_xa q_xb q_xk q_ya q_yb q_yk hp⟩
 ·cases h
noncomputable abbrev Γ92 : LC := (93, s93w) :: Γ91
theorem G92 : SD Γ92 := G91.cons m93w
-- spec.l02Before
noncomputable def s65w : Ctr := fun
 | [.agg [iv p_xa, iv p_xb, iv p_xk, iv p_ya, iv p_yb, iv p_yk], .agg [iv q_xa, iv q_xb, iv q_xk, iv q_ya, iv q_yb, iv q_yk]] => some (cmW (⟨p_xa, p_xb, p_xk⟩ : N3) (⟨q_xa, q_xb, q_xk⟩ : N3) && cmW (⟨p_ya, p_yb, p_yk⟩ : N3) (⟨q_ya, q_yb, q_yk⟩ : N3), iv (cpP (⟨⟨p_xa, p_xb, p_xk⟩, ⟨p_ya, p_yb, p_yk⟩⟩ : P2) (⟨⟨q_xa, q_xb, q_xk⟩, ⟨q_ya, q_yb, q_yk⟩⟩ : P2)))
 | _ => none
theorem e65w (p_xa : Int) (p_xb : Int) (p_xk : Int) (p_ya : Int) (p_yb : Int) (p_yk : Int) (q_xa : Int) (q_xb : Int) (q_xk : Int) (q_ya : Int) (q_yb : Int) (q_yk : Int) (hp : (cmW (⟨p_xa, p_xb, p_xk⟩ : N3) (⟨q_xa, q_xb, q_xk⟩ : N3) && cmW (⟨p_ya, p_yb, p_yk⟩ : N3) (⟨q_ya, q_yb, q_yk⟩ : N3)) = true) : evN Tryz.prog GLv Γ92 (0) []  Tryz.f65 [.agg [iv p_xa, iv p_xb, iv p_xk, iv p_ya, iv p_yb, iv p_yk], .agg [iv q_xa, iv q_xb, iv q_xk, iv q_ya, iv q_yb, iv q_yk]] = some (iv (cpP (⟨⟨p_xa, p_xb, p_xk⟩, ⟨p_ya, p_yb, p_yk⟩⟩ : P2) (⟨⟨q_xa, q_xb, q_xk⟩, ⟨q_ya, q_yb, q_yk⟩⟩ : P2))) := by
 rw [Bool.and_eq_true] at hp
 refine (show _ = cond (cmW (⟨p_xa, p_xb, p_xk⟩ : N3) (⟨q_xa, q_xb, q_xk⟩ : N3)) (cond (sgF (subF (⟨p_xa, p_xb, p_xk⟩ : N3) (⟨q_xa, q_xb, q_xk⟩ : N3)) != 0) (some (iv (sgF (subF (⟨p_xa, p_xb, p_xk⟩ : N3) (⟨q_xa, q_xb, q_xk⟩ : N3))))) (cond (cmW (⟨p_ya, p_yb, p_yk⟩ : N3) (⟨q_ya, q_yb, q_yk⟩ : N3)) (some (iv (sgF (subF (⟨p_ya, p_yb, p_yk⟩ : N3) (⟨q_ya, q_yb, q_yk⟩ : N3))))) (none))) (none) from by kernel_rfl).trans ?_
 rw [hp.1, hp.2]
 unfold cpP
 cases (sgF (subF (⟨p_xa, p_xb, p_xk⟩ : N3) (⟨q_xa, q_xb, q_xk⟩ : N3)) != 0) <;> rfl
theorem m65w : MT 65 s65w := by
 refine meetsN mix0 glv G92 Tryz.func65 (by kernel_rfl) (by kernel_rfl) s65w fun args x h => ?_
 unfold s65w at h
 split at h
 ·rename_i p_xa p_xb p_xk p_ya p_yb p_yk q_xa q_xb q_xk q_ya q_yb q_yk
  obtain ⟨hp, rfl⟩ := sm_inj h
  exact ⟨_, _, by kernel_rfl, e65w p_xa p_xb p_xk p_ya p_yb p_yk q_xa q_xb q_xk q_ya q_yb q_yk hp⟩
 ·cases h
noncomputable abbrev Γ93 : LC := (65, s65w) :: Γ92
theorem G93 : SD Γ93 := G92.cons m65w
end Go.Proofs.YtlcopddgplbdhaaGreatDoor
