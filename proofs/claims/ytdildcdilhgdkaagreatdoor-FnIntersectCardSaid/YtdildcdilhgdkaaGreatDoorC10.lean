/- Contracts of the program's functions, by the evaluator. -/
import Derived.Test.YtdildcdilhgdkaaGreatDoorC9
import Derived.Test.YtdildcdilhgdkaaGreatDoorPlD
namespace Go.Proofs.YtdildcdilhgdkaaGreatDoor
open Go.Ev
set_option linter.unusedVariables false
set_option linter.unusedSimpArgs false
set_option maxRecDepth 100000
-- math/bits.Mul64
noncomputable def s110w : Ctr := fun
  | [.val (.int .u64 x), .val (.int .u64 y)] => some ((decide (0 <= x) && decide (x < 9223372036854775808)) && (decide (0 <= y) && decide (y < 9223372036854775808)), .tup [.val (.int .u64 (x * y / 18446744073709551616)), .val (.int .u64 (x * y % 18446744073709551616))])
  | _ => none
theorem e110w (x : Int) (y : Int) (hp : ((decide (0 <= x) && decide (x < 9223372036854775808)) && (decide (0 <= y) && decide (y < 9223372036854775808))) = true) : evN Tryz.prog GLv Γ86 (0) []  Tryz.f110 [.val (.int .u64 x), .val (.int .u64 y)] = some (.tup [.val (.int .u64 (x * y / 18446744073709551616)), .val (.int .u64 (x * y % 18446744073709551616))]) := by
  refine (show _ = some ((.tup [.val (.int .u64 (IntKind.u64.wrap (IntKind.u64.wrap (IntKind.u64.wrap (x.fdiv (2 ^ min (Int.toNat 32) 64) * y.fdiv (2 ^ min (Int.toNat 32) 64)) + (IntKind.u64.wrap (IntKind.u64.wrap (x.fdiv (2 ^ min (Int.toNat 32) 64) * IntKind.u64.wrap ↑(BitVec.ofInt 64 y &&& BitVec.ofInt 64 4294967295).toNat) + (IntKind.u64.wrap (IntKind.u64.wrap ↑(BitVec.ofInt 64 x &&& BitVec.ofInt 64 4294967295).toNat * IntKind.u64.wrap ↑(BitVec.ofInt 64 y &&& BitVec.ofInt 64 4294967295).toNat)).fdiv (2 ^ min (Int.toNat 32) 64))).fdiv (2 ^ min (Int.toNat 32) 64)) + (IntKind.u64.wrap (IntKind.u64.wrap ↑(BitVec.ofInt 64 (IntKind.u64.wrap (IntKind.u64.wrap (x.fdiv (2 ^ min (Int.toNat 32) 64) * IntKind.u64.wrap ↑(BitVec.ofInt 64 y &&& BitVec.ofInt 64 4294967295).toNat) + (IntKind.u64.wrap (IntKind.u64.wrap ↑(BitVec.ofInt 64 x &&& BitVec.ofInt 64 4294967295).toNat * IntKind.u64.wrap ↑(BitVec.ofInt 64 y &&& BitVec.ofInt 64 4294967295).toNat)).fdiv (2 ^ min (Int.toNat 32) 64))) &&& BitVec.ofInt 64 4294967295).toNat + IntKind.u64.wrap (IntKind.u64.wrap ↑(BitVec.ofInt 64 x &&& BitVec.ofInt 64 4294967295).toNat * y.fdiv (2 ^ min (Int.toNat 32) 64)))).fdiv (2 ^ min (Int.toNat 32) 64)))), .val (.int .u64 (IntKind.u64.wrap (x * y)))])) from by kernel_rfl).trans ?_
  simp only [Bool.and_eq_true, decide_eq_true_eq] at hp
  obtain ⟨⟨h1, h2⟩, h3, h4⟩ := hp
  obtain ⟨e1, e2⟩ := mul64_wide h1 h2 h3 h4
  rw [e1, e2]
theorem m110w : Meets Tryz.prog GLv 110 s110w := by
  refine meetsN mix0 glv G86 Tryz.func110 (by kernel_rfl) (by kernel_rfl) s110w fun args x h => ?_
  unfold s110w at h
  split at h
  . rename_i x y
    simp only [Option.some.injEq, Prod.mk.injEq] at h
    obtain ⟨hp, rfl⟩ := h
    exact ⟨_, _, by kernel_rfl, e110w x y hp⟩
  . cases h
noncomputable abbrev Γ87 : List (Nat × Ctr) := (110, s110w) :: Γ86
theorem G87 : Sound Tryz.prog GLv Γ87 := G86.cons m110w
-- impl.isGreater
noncomputable def s99w : Ctr := fun
  | [.val (.int .i64 x), .val (.int .i64 y)] => some (sW x && sW y, bv (decide (x * x > 2 * (y * y))))
  | _ => none
theorem e99w (x : Int) (y : Int) (hp : (sW x && sW y) = true) : evN Tryz.prog GLv Γ87 (0) []  Tryz.f99 [.val (.int .i64 x), .val (.int .i64 y)] = some (bv (decide (x * x > 2 * (y * y)))) := by
  refine (show _ = cond (decide (0 <= IntKind.u64.wrap (absV x)) && decide (IntKind.u64.wrap (absV x) < 9223372036854775808) && (decide (0 <= IntKind.u64.wrap (absV x)) && decide (IntKind.u64.wrap (absV x) < 9223372036854775808))) ( cond (decide (0 <= IntKind.u64.wrap (absV y)) && decide (IntKind.u64.wrap (absV y) < 9223372036854775808) && (decide (0 <= IntKind.u64.wrap (absV y)) && decide (IntKind.u64.wrap (absV y) < 9223372036854775808))) ( cond (decide (IntKind.u64.wrap (absV x) * IntKind.u64.wrap (absV x) / 18446744073709551616 > IntKind.u64.wrap ↑(BitVec.ofInt IntKind.u64.bits (IntKind.u64.wrap (IntKind.u64.wrap (absV y) * IntKind.u64.wrap (absV y) / 18446744073709551616 * 2 ^ min (Int.toNat 1) IntKind.u64.bits)) ||| BitVec.ofInt IntKind.u64.bits ((IntKind.u64.wrap (absV y) * IntKind.u64.wrap (absV y) % 18446744073709551616).fdiv (2 ^ min (Int.toNat 63) IntKind.u64.bits))).toNat)) ( some (bv (true)) ) ( cond (IntKind.u64.wrap (absV x) * IntKind.u64.wrap (absV x) / 18446744073709551616 == IntKind.u64.wrap ↑(BitVec.ofInt 64 (IntKind.u64.wrap (IntKind.u64.wrap (absV y) * IntKind.u64.wrap (absV y) / 18446744073709551616 * 2 ^ min (Int.toNat 1) 64)) ||| BitVec.ofInt 64 ((IntKind.u64.wrap (absV y) * IntKind.u64.wrap (absV y) % 18446744073709551616).fdiv (2 ^ min (Int.toNat 63) 64))).toNat) ( some (bv (decide (IntKind.u64.wrap (absV x) * IntKind.u64.wrap (absV x) % 18446744073709551616 > IntKind.u64.wrap (IntKind.u64.wrap (absV y) * IntKind.u64.wrap (absV y) % 18446744073709551616 * 2 ^ min (Int.toNat 1) IntKind.u64.bits)))) ) ( some (bv (false)) ) ) ) ( none ) ) ( none ) from by kernel_rfl).trans ?_
  rw [Bool.and_eq_true] at hp
  obtain ⟨a1, a2, a3⟩ := abs_w hp.1
  obtain ⟨b1, b2, b3⟩ := abs_w hp.2
  obtain ⟨c1, c2⟩ := sq_wide hp.1
  obtain ⟨d1, d2⟩ := sq_wide hp.2
  obtain ⟨g1, g2⟩ := gt_wide c1 c2 d1 d2
  rw [show IntKind.u64.bits = 64 from rfl, a1, b1, a2, b2, a3, b3, g1, g2, <- lex_gt (X := x * x) (Z := 2 * (y * y))]
  cases decide (x * x / 18446744073709551616 > 2 * (y * y) / 18446744073709551616) <;> cases x * x / 18446744073709551616 == 2 * (y * y) / 18446744073709551616 <;> rfl
theorem m99w : Meets Tryz.prog GLv 99 s99w := by
  refine meetsN mix0 glv G87 Tryz.func99 (by kernel_rfl) (by kernel_rfl) s99w fun args x h => ?_
  unfold s99w at h
  split at h
  . rename_i x y
    simp only [Option.some.injEq, Prod.mk.injEq] at h
    obtain ⟨hp, rfl⟩ := h
    exact ⟨_, _, by kernel_rfl, e99w x y hp⟩
  . cases h
noncomputable abbrev Γ88 : List (Nat × Ctr) := (99, s99w) :: Γ87
theorem G88 : Sound Tryz.prog GLv Γ88 := G87.cons m99w
-- (impl.Num).sign
noncomputable def s66w : Ctr := fun
  | [.agg [.val (.int .i64 x_a), .val (.int .i64 x_b), .val (.int .i64 x_k)]] => some (sW x_a && sW x_b, iv (sgF (⟨x_a, x_b, x_k⟩ : N3)))
  | _ => none
theorem e66w (x_a : Int) (x_b : Int) (x_k : Int) (hp : (sW x_a && sW x_b) = true) : evN Tryz.prog GLv Γ88 (0) []  Tryz.f66 [.agg [.val (.int .i64 x_a), .val (.int .i64 x_b), .val (.int .i64 x_k)]] = some (iv (sgF (⟨x_a, x_b, x_k⟩ : N3))) := by
  refine (show _ = cond (x_a.sign == x_b.sign) (some (iv x_a.sign)) (cond (x_b.sign == 0) (some (iv x_a.sign)) (cond (x_a.sign == 0) (some (iv x_b.sign)) (cond (sW x_a && sW x_b) (cond (!decide (x_a * x_a > 2 * (x_b * x_b))) (some (iv x_b.sign)) (some (iv x_a.sign))) none))) from by kernel_rfl).trans ?_
  rw [hp, <- sgF_alt]
  cases x_a.sign == x_b.sign <;> cases x_b.sign == 0 <;> cases x_a.sign == 0 <;> cases decide (x_a * x_a > 2 * (x_b * x_b)) <;> rfl
theorem m66w : Meets Tryz.prog GLv 66 s66w := by
  refine meetsN mix0 glv G88 Tryz.func66 (by kernel_rfl) (by kernel_rfl) s66w fun args x h => ?_
  unfold s66w at h
  split at h
  . rename_i x_a x_b x_k
    simp only [Option.some.injEq, Prod.mk.injEq] at h
    obtain ⟨hp, rfl⟩ := h
    exact ⟨_, _, by kernel_rfl, e66w x_a x_b x_k hp⟩
  . cases h
noncomputable abbrev Γ89 : List (Nat × Ctr) := (66, s66w) :: Γ88
theorem G89 : Sound Tryz.prog GLv Γ89 := G88.cons m66w
-- (impl.Num).compare
noncomputable def s106w : Ctr := fun
  | [.agg [.val (.int .i64 x_a), .val (.int .i64 x_b), .val (.int .i64 x_k)], .agg [.val (.int .i64 y_a), .val (.int .i64 y_b), .val (.int .i64 y_k)]] => some (cmW (⟨x_a, x_b, x_k⟩ : N3) (⟨y_a, y_b, y_k⟩ : N3), iv (sgF (subF (⟨x_a, x_b, x_k⟩ : N3) (⟨y_a, y_b, y_k⟩ : N3))))
  | _ => none
theorem e106w (x_a : Int) (x_b : Int) (x_k : Int) (y_a : Int) (y_b : Int) (y_k : Int) (hp : (cmW (⟨x_a, x_b, x_k⟩ : N3) (⟨y_a, y_b, y_k⟩ : N3)) = true) : evN Tryz.prog GLv Γ89 (0) []  Tryz.f106 [.agg [.val (.int .i64 x_a), .val (.int .i64 x_b), .val (.int .i64 x_k)], .agg [.val (.int .i64 y_a), .val (.int .i64 y_b), .val (.int .i64 y_k)]] = some (iv (sgF (subF (⟨x_a, x_b, x_k⟩ : N3) (⟨y_a, y_b, y_k⟩ : N3)))) := by
  have hp' := hp
  unfold cmW at hp'
  rw [Bool.and_eq_true] at hp'
  refine (show _ = cond (pk (⟨x_a, x_b, x_k⟩ : N3) (⟨y_a, y_b, y_k⟩ : N3)) (cond (sW (subF (⟨x_a, x_b, x_k⟩ : N3) (⟨y_a, y_b, y_k⟩ : N3)).a && sW (subF (⟨x_a, x_b, x_k⟩ : N3) (⟨y_a, y_b, y_k⟩ : N3)).b) (some (iv (sgF (subF (⟨x_a, x_b, x_k⟩ : N3) (⟨y_a, y_b, y_k⟩ : N3))))) (none)) (none) from by kernel_rfl).trans ?_
  rw [hp'.1, hp'.2]
  rfl
theorem m106w : Meets Tryz.prog GLv 106 s106w := by
  refine meetsN mix0 glv G89 Tryz.func106 (by kernel_rfl) (by kernel_rfl) s106w fun args x h => ?_
  unfold s106w at h
  split at h
  . rename_i x_a x_b x_k y_a y_b y_k
    simp only [Option.some.injEq, Prod.mk.injEq] at h
    obtain ⟨hp, rfl⟩ := h
    exact ⟨_, _, by kernel_rfl, e106w x_a x_b x_k y_a y_b y_k hp⟩
  . cases h
noncomputable abbrev Γ90 : List (Nat × Ctr) := (106, s106w) :: Γ89
theorem G90 : Sound Tryz.prog GLv Γ90 := G89.cons m106w
-- spec.l01Square
noncomputable def s114w : Ctr := fun
  | [.val (.int .i64 x)] => some (sW x, .tup [.val (.int .u64 (x * x / 18446744073709551616)), .val (.int .u64 (x * x % 18446744073709551616))])
  | _ => none
theorem e114w (x : Int) (hp : (sW x) = true) : evN Tryz.prog GLv Γ90 (0) []  Tryz.f114 [.val (.int .i64 x)] = some (.tup [.val (.int .u64 (x * x / 18446744073709551616)), .val (.int .u64 (x * x % 18446744073709551616))]) := by
  exact (show _ = cond (decide (x < 0)) (sqT (u64w (wr (0 - x)))) (sqT (u64w x)) from by kernel_rfl).trans (sq_wideT hp)
theorem m114w : Meets Tryz.prog GLv 114 s114w := by
  refine meetsN mix0 glv G90 Tryz.func114 (by kernel_rfl) (by kernel_rfl) s114w fun args x h => ?_
  unfold s114w at h
  split at h
  . rename_i x
    simp only [Option.some.injEq, Prod.mk.injEq] at h
    obtain ⟨hp, rfl⟩ := h
    exact ⟨_, _, by kernel_rfl, e114w x hp⟩
  . cases h
noncomputable abbrev Γ91 : List (Nat × Ctr) := (114, s114w) :: Γ90
theorem G91 : Sound Tryz.prog GLv Γ91 := G90.cons m114w
-- spec.l01Less
noncomputable def s112w : Ctr := fun
  | [.val (.int .i64 x), .val (.int .i64 y)] => some (sW x && sW y, bv (decide (x * x < 2 * (y * y))))
  | _ => none
theorem e112w (x : Int) (y : Int) (hp : (sW x && sW y) = true) : evN Tryz.prog GLv Γ91 (0) []  Tryz.f112 [.val (.int .i64 x), .val (.int .i64 y)] = some (bv (decide (x * x < 2 * (y * y)))) := by
  rw [Bool.and_eq_true] at hp
  refine (show _ = cond (sW x) (cond (sW y) (cond (decide (x * x / 18446744073709551616 < u64w (u64w (y * y / 18446744073709551616 * 2) + (y * y % 18446744073709551616).fdiv (2 ^ min (Int.toNat 63) 64)))) (some (bv true)) (cond (x * x / 18446744073709551616 == u64w (u64w (y * y / 18446744073709551616 * 2) + (y * y % 18446744073709551616).fdiv (2 ^ min (Int.toNat 63) 64))) (some (bv (decide (x * x % 18446744073709551616 < u64w (y * y % 18446744073709551616 * 2))))) (some (bv false)))) none) none from by kernel_rfl).trans ?_
  rw [hp.1, hp.2]
  obtain ⟨d1, d2⟩ := sq_wide hp.2
  exact less_wide d1 d2
theorem m112w : Meets Tryz.prog GLv 112 s112w := by
  refine meetsN mix0 glv G91 Tryz.func112 (by kernel_rfl) (by kernel_rfl) s112w fun args x h => ?_
  unfold s112w at h
  split at h
  . rename_i x y
    simp only [Option.some.injEq, Prod.mk.injEq] at h
    obtain ⟨hp, rfl⟩ := h
    exact ⟨_, _, by kernel_rfl, e112w x y hp⟩
  . cases h
noncomputable abbrev Γ92 : List (Nat × Ctr) := (112, s112w) :: Γ91
theorem G92 : Sound Tryz.prog GLv Γ92 := G91.cons m112w
-- spec.l01Sign
noncomputable def s103w : Ctr := fun
  | [.agg [.val (.int .i64 x_a), .val (.int .i64 x_b), .val (.int .i64 x_k)]] => some (sW x_a && sW x_b, iv (sgF (⟨x_a, x_b, x_k⟩ : N3)))
  | _ => none
theorem e103w (x_a : Int) (x_b : Int) (x_k : Int) (hp : (sW x_a && sW x_b) = true) : evN Tryz.prog GLv Γ92 (0) []  Tryz.f103 [.agg [.val (.int .i64 x_a), .val (.int .i64 x_b), .val (.int .i64 x_k)]] = some (iv (sgF (⟨x_a, x_b, x_k⟩ : N3))) := by
  refine (show _ = cond (x_a == 0) ( cond (x_b == 0) ( some (iv (0)) ) ( cond (decide (x_a >= 0)) ( cond (decide (x_b >= 0)) ( some (iv (1)) ) ( cond (decide (x_a <= 0)) ( cond (decide (x_b <= 0)) ( some (iv (-1)) ) ( cond (sW x_a && sW x_b) ( cond (decide (x_a * x_a < 2 * (x_b * x_b)) == decide (x_b > 0)) ( some (iv (1)) ) ( some (iv (-1)) ) ) ( none ) ) ) ( cond (sW x_a && sW x_b) ( cond (decide (x_a * x_a < 2 * (x_b * x_b)) == decide (x_b > 0)) ( some (iv (1)) ) ( some (iv (-1)) ) ) ( none ) ) ) ) ( cond (decide (x_a <= 0)) ( cond (decide (x_b <= 0)) ( some (iv (-1)) ) ( cond (sW x_a && sW x_b) ( cond (decide (x_a * x_a < 2 * (x_b * x_b)) == decide (x_b > 0)) ( some (iv (1)) ) ( some (iv (-1)) ) ) ( none ) ) ) ( cond (sW x_a && sW x_b) ( cond (decide (x_a * x_a < 2 * (x_b * x_b)) == decide (x_b > 0)) ( some (iv (1)) ) ( some (iv (-1)) ) ) ( none ) ) ) ) ) ( cond (decide (x_a >= 0)) ( cond (decide (x_b >= 0)) ( some (iv (1)) ) ( cond (decide (x_a <= 0)) ( cond (decide (x_b <= 0)) ( some (iv (-1)) ) ( cond (sW x_a && sW x_b) ( cond (decide (x_a * x_a < 2 * (x_b * x_b)) == decide (x_b > 0)) ( some (iv (1)) ) ( some (iv (-1)) ) ) ( none ) ) ) ( cond (sW x_a && sW x_b) ( cond (decide (x_a * x_a < 2 * (x_b * x_b)) == decide (x_b > 0)) ( some (iv (1)) ) ( some (iv (-1)) ) ) ( none ) ) ) ) ( cond (decide (x_a <= 0)) ( cond (decide (x_b <= 0)) ( some (iv (-1)) ) ( cond (sW x_a && sW x_b) ( cond (decide (x_a * x_a < 2 * (x_b * x_b)) == decide (x_b > 0)) ( some (iv (1)) ) ( some (iv (-1)) ) ) ( none ) ) ) ( cond (sW x_a && sW x_b) ( cond (decide (x_a * x_a < 2 * (x_b * x_b)) == decide (x_b > 0)) ( some (iv (1)) ) ( some (iv (-1)) ) ) ( none ) ) ) ) from by kernel_rfl).trans ?_
  rw [hp]
  show _ = some (iv (sgZ x_a x_b))
  rw [<- sgS_eq]
  unfold sgS
  cases (x_a == 0) <;> cases (x_b == 0) <;> cases decide (x_a >= 0) <;> cases decide (x_b >= 0) <;> cases decide (x_a <= 0) <;> cases decide (x_b <= 0) <;> cases (decide (x_a * x_a < 2 * (x_b * x_b)) == decide (x_b > 0)) <;> rfl
theorem m103w : Meets Tryz.prog GLv 103 s103w := by
  refine meetsN mix0 glv G92 Tryz.func103 (by kernel_rfl) (by kernel_rfl) s103w fun args x h => ?_
  unfold s103w at h
  split at h
  . rename_i x_a x_b x_k
    simp only [Option.some.injEq, Prod.mk.injEq] at h
    obtain ⟨hp, rfl⟩ := h
    exact ⟨_, _, by kernel_rfl, e103w x_a x_b x_k hp⟩
  . cases h
noncomputable abbrev Γ93 : List (Nat × Ctr) := (103, s103w) :: Γ92
theorem G93 : Sound Tryz.prog GLv Γ93 := G92.cons m103w
-- spec.l01Compare
noncomputable def s92w : Ctr := fun
  | [.agg [.val (.int .i64 x_a), .val (.int .i64 x_b), .val (.int .i64 x_k)], .agg [.val (.int .i64 y_a), .val (.int .i64 y_b), .val (.int .i64 y_k)]] => some (cmW (⟨x_a, x_b, x_k⟩ : N3) (⟨y_a, y_b, y_k⟩ : N3), iv (sgF (subF (⟨x_a, x_b, x_k⟩ : N3) (⟨y_a, y_b, y_k⟩ : N3))))
  | _ => none
theorem e92w (x_a : Int) (x_b : Int) (x_k : Int) (y_a : Int) (y_b : Int) (y_k : Int) (hp : (cmW (⟨x_a, x_b, x_k⟩ : N3) (⟨y_a, y_b, y_k⟩ : N3)) = true) : evN Tryz.prog GLv Γ93 (0) []  Tryz.f92 [.agg [.val (.int .i64 x_a), .val (.int .i64 x_b), .val (.int .i64 x_k)], .agg [.val (.int .i64 y_a), .val (.int .i64 y_b), .val (.int .i64 y_k)]] = some (iv (sgF (subF (⟨x_a, x_b, x_k⟩ : N3) (⟨y_a, y_b, y_k⟩ : N3)))) := by
  have hp' := hp
  unfold cmW at hp'
  rw [Bool.and_eq_true] at hp'
  refine (show _ = cond (pk (⟨x_a, x_b, x_k⟩ : N3) (⟨y_a, y_b, y_k⟩ : N3)) (cond (sW (subF (⟨x_a, x_b, x_k⟩ : N3) (⟨y_a, y_b, y_k⟩ : N3)).a && sW (subF (⟨x_a, x_b, x_k⟩ : N3) (⟨y_a, y_b, y_k⟩ : N3)).b) (some (iv (sgF (subF (⟨x_a, x_b, x_k⟩ : N3) (⟨y_a, y_b, y_k⟩ : N3))))) (none)) (none) from by kernel_rfl).trans ?_
  rw [hp'.1, hp'.2]
  rfl
theorem m92w : Meets Tryz.prog GLv 92 s92w := by
  refine meetsN mix0 glv G93 Tryz.func92 (by kernel_rfl) (by kernel_rfl) s92w fun args x h => ?_
  unfold s92w at h
  split at h
  . rename_i x_a x_b x_k y_a y_b y_k
    simp only [Option.some.injEq, Prod.mk.injEq] at h
    obtain ⟨hp, rfl⟩ := h
    exact ⟨_, _, by kernel_rfl, e92w x_a x_b x_k y_a y_b y_k hp⟩
  . cases h
noncomputable abbrev Γ94 : List (Nat × Ctr) := (92, s92w) :: Γ93
theorem G94 : Sound Tryz.prog GLv Γ94 := G93.cons m92w
-- (impl.Point).compare
noncomputable def s85w : Ctr := fun
  | [.agg [.val (.int .i64 p_xa), .val (.int .i64 p_xb), .val (.int .i64 p_xk), .val (.int .i64 p_ya), .val (.int .i64 p_yb), .val (.int .i64 p_yk)], .agg [.val (.int .i64 q_xa), .val (.int .i64 q_xb), .val (.int .i64 q_xk), .val (.int .i64 q_ya), .val (.int .i64 q_yb), .val (.int .i64 q_yk)]] => some (cmW (⟨p_xa, p_xb, p_xk⟩ : N3) (⟨q_xa, q_xb, q_xk⟩ : N3) && cmW (⟨p_ya, p_yb, p_yk⟩ : N3) (⟨q_ya, q_yb, q_yk⟩ : N3), iv (cpP (⟨⟨p_xa, p_xb, p_xk⟩, ⟨p_ya, p_yb, p_yk⟩⟩ : P2) (⟨⟨q_xa, q_xb, q_xk⟩, ⟨q_ya, q_yb, q_yk⟩⟩ : P2)))
  | _ => none
theorem e85w (p_xa : Int) (p_xb : Int) (p_xk : Int) (p_ya : Int) (p_yb : Int) (p_yk : Int) (q_xa : Int) (q_xb : Int) (q_xk : Int) (q_ya : Int) (q_yb : Int) (q_yk : Int) (hp : (cmW (⟨p_xa, p_xb, p_xk⟩ : N3) (⟨q_xa, q_xb, q_xk⟩ : N3) && cmW (⟨p_ya, p_yb, p_yk⟩ : N3) (⟨q_ya, q_yb, q_yk⟩ : N3)) = true) : evN Tryz.prog GLv Γ94 (0) []  Tryz.f85 [.agg [.val (.int .i64 p_xa), .val (.int .i64 p_xb), .val (.int .i64 p_xk), .val (.int .i64 p_ya), .val (.int .i64 p_yb), .val (.int .i64 p_yk)], .agg [.val (.int .i64 q_xa), .val (.int .i64 q_xb), .val (.int .i64 q_xk), .val (.int .i64 q_ya), .val (.int .i64 q_yb), .val (.int .i64 q_yk)]] = some (iv (cpP (⟨⟨p_xa, p_xb, p_xk⟩, ⟨p_ya, p_yb, p_yk⟩⟩ : P2) (⟨⟨q_xa, q_xb, q_xk⟩, ⟨q_ya, q_yb, q_yk⟩⟩ : P2))) := by
  rw [Bool.and_eq_true] at hp
  refine (show _ = cond (cmW (⟨p_xa, p_xb, p_xk⟩ : N3) (⟨q_xa, q_xb, q_xk⟩ : N3)) (cond (sgF (subF (⟨p_xa, p_xb, p_xk⟩ : N3) (⟨q_xa, q_xb, q_xk⟩ : N3)) != 0) (some (iv (sgF (subF (⟨p_xa, p_xb, p_xk⟩ : N3) (⟨q_xa, q_xb, q_xk⟩ : N3))))) (cond (cmW (⟨p_ya, p_yb, p_yk⟩ : N3) (⟨q_ya, q_yb, q_yk⟩ : N3)) (some (iv (sgF (subF (⟨p_ya, p_yb, p_yk⟩ : N3) (⟨q_ya, q_yb, q_yk⟩ : N3))))) (none))) (none) from by kernel_rfl).trans ?_
  rw [hp.1, hp.2]
  unfold cpP
  cases (sgF (subF (⟨p_xa, p_xb, p_xk⟩ : N3) (⟨q_xa, q_xb, q_xk⟩ : N3)) != 0) <;> rfl
theorem m85w : Meets Tryz.prog GLv 85 s85w := by
  refine meetsN mix0 glv G94 Tryz.func85 (by kernel_rfl) (by kernel_rfl) s85w fun args x h => ?_
  unfold s85w at h
  split at h
  . rename_i p_xa p_xb p_xk p_ya p_yb p_yk q_xa q_xb q_xk q_ya q_yb q_yk
    simp only [Option.some.injEq, Prod.mk.injEq] at h
    obtain ⟨hp, rfl⟩ := h
    exact ⟨_, _, by kernel_rfl, e85w p_xa p_xb p_xk p_ya p_yb p_yk q_xa q_xb q_xk q_ya q_yb q_yk hp⟩
  . cases h
noncomputable abbrev Γ95 : List (Nat × Ctr) := (85, s85w) :: Γ94
theorem G95 : Sound Tryz.prog GLv Γ95 := G94.cons m85w
-- spec.l02Before
noncomputable def s56w : Ctr := fun
  | [.agg [.val (.int .i64 p_xa), .val (.int .i64 p_xb), .val (.int .i64 p_xk), .val (.int .i64 p_ya), .val (.int .i64 p_yb), .val (.int .i64 p_yk)], .agg [.val (.int .i64 q_xa), .val (.int .i64 q_xb), .val (.int .i64 q_xk), .val (.int .i64 q_ya), .val (.int .i64 q_yb), .val (.int .i64 q_yk)]] => some (cmW (⟨p_xa, p_xb, p_xk⟩ : N3) (⟨q_xa, q_xb, q_xk⟩ : N3) && cmW (⟨p_ya, p_yb, p_yk⟩ : N3) (⟨q_ya, q_yb, q_yk⟩ : N3), iv (cpP (⟨⟨p_xa, p_xb, p_xk⟩, ⟨p_ya, p_yb, p_yk⟩⟩ : P2) (⟨⟨q_xa, q_xb, q_xk⟩, ⟨q_ya, q_yb, q_yk⟩⟩ : P2)))
  | _ => none
theorem e56w (p_xa : Int) (p_xb : Int) (p_xk : Int) (p_ya : Int) (p_yb : Int) (p_yk : Int) (q_xa : Int) (q_xb : Int) (q_xk : Int) (q_ya : Int) (q_yb : Int) (q_yk : Int) (hp : (cmW (⟨p_xa, p_xb, p_xk⟩ : N3) (⟨q_xa, q_xb, q_xk⟩ : N3) && cmW (⟨p_ya, p_yb, p_yk⟩ : N3) (⟨q_ya, q_yb, q_yk⟩ : N3)) = true) : evN Tryz.prog GLv Γ95 (0) []  Tryz.f56 [.agg [.val (.int .i64 p_xa), .val (.int .i64 p_xb), .val (.int .i64 p_xk), .val (.int .i64 p_ya), .val (.int .i64 p_yb), .val (.int .i64 p_yk)], .agg [.val (.int .i64 q_xa), .val (.int .i64 q_xb), .val (.int .i64 q_xk), .val (.int .i64 q_ya), .val (.int .i64 q_yb), .val (.int .i64 q_yk)]] = some (iv (cpP (⟨⟨p_xa, p_xb, p_xk⟩, ⟨p_ya, p_yb, p_yk⟩⟩ : P2) (⟨⟨q_xa, q_xb, q_xk⟩, ⟨q_ya, q_yb, q_yk⟩⟩ : P2))) := by
  rw [Bool.and_eq_true] at hp
  refine (show _ = cond (cmW (⟨p_xa, p_xb, p_xk⟩ : N3) (⟨q_xa, q_xb, q_xk⟩ : N3)) (cond (sgF (subF (⟨p_xa, p_xb, p_xk⟩ : N3) (⟨q_xa, q_xb, q_xk⟩ : N3)) != 0) (some (iv (sgF (subF (⟨p_xa, p_xb, p_xk⟩ : N3) (⟨q_xa, q_xb, q_xk⟩ : N3))))) (cond (cmW (⟨p_ya, p_yb, p_yk⟩ : N3) (⟨q_ya, q_yb, q_yk⟩ : N3)) (some (iv (sgF (subF (⟨p_ya, p_yb, p_yk⟩ : N3) (⟨q_ya, q_yb, q_yk⟩ : N3))))) (none))) (none) from by kernel_rfl).trans ?_
  rw [hp.1, hp.2]
  unfold cpP
  cases (sgF (subF (⟨p_xa, p_xb, p_xk⟩ : N3) (⟨q_xa, q_xb, q_xk⟩ : N3)) != 0) <;> rfl
theorem m56w : Meets Tryz.prog GLv 56 s56w := by
  refine meetsN mix0 glv G95 Tryz.func56 (by kernel_rfl) (by kernel_rfl) s56w fun args x h => ?_
  unfold s56w at h
  split at h
  . rename_i p_xa p_xb p_xk p_ya p_yb p_yk q_xa q_xb q_xk q_ya q_yb q_yk
    simp only [Option.some.injEq, Prod.mk.injEq] at h
    obtain ⟨hp, rfl⟩ := h
    exact ⟨_, _, by kernel_rfl, e56w p_xa p_xb p_xk p_ya p_yb p_yk q_xa q_xb q_xk q_ya q_yb q_yk hp⟩
  . cases h
noncomputable abbrev Γ96 : List (Nat × Ctr) := (56, s56w) :: Γ95
theorem G96 : Sound Tryz.prog GLv Γ96 := G95.cons m56w
end Go.Proofs.YtdildcdilhgdkaaGreatDoor
