/- Contracts of the program's functions, by the evaluator. -/
import Derived.Test.YtooikeeckoflpaaDoorC9
import Derived.Test.YtooikeeckoflpaaDoorPlD
namespace Go.Proofs.YtooikeeckoflpaaDoor
open Go.Ev
set_option linter.unusedVariables false
set_option linter.unusedSimpArgs false
set_option maxRecDepth 100000

-- math/bits.Mul64
def s123w : Ctr := fun
  | [.val (.int .u64 x), .val (.int .u64 y)] => some ((decide (0 ≤ x) && decide (x < 9223372036854775808)) && (decide (0 ≤ y) && decide (y < 9223372036854775808)), .tup [.val (.int .u64 (x * y / 18446744073709551616)), .val (.int .u64 (x * y % 18446744073709551616))])
  | _ => none

theorem e123w (x : Int) (y : Int) (hp : ((decide (0 ≤ x) && decide (x < 9223372036854775808)) && (decide (0 ≤ y) && decide (y < 9223372036854775808))) = true) : evN Tryd.prog GLv Γ94 (0) []  Tryd.f123 [.val (.int .u64 x), .val (.int .u64 y)] = some (.tup [.val (.int .u64 (x * y / 18446744073709551616)), .val (.int .u64 (x * y % 18446744073709551616))]) := by
  refine (show _ = some ((.tup [.val (.int .u64 (IntKind.u64.wrap (IntKind.u64.wrap (IntKind.u64.wrap (x.fdiv (2 ^ min (Int.toNat 32) 64) * y.fdiv (2 ^ min (Int.toNat 32) 64)) + (IntKind.u64.wrap (IntKind.u64.wrap (x.fdiv (2 ^ min (Int.toNat 32) 64) * IntKind.u64.wrap ↑(BitVec.ofInt 64 y &&& BitVec.ofInt 64 4294967295).toNat) + (IntKind.u64.wrap (IntKind.u64.wrap ↑(BitVec.ofInt 64 x &&& BitVec.ofInt 64 4294967295).toNat * IntKind.u64.wrap ↑(BitVec.ofInt 64 y &&& BitVec.ofInt 64 4294967295).toNat)).fdiv (2 ^ min (Int.toNat 32) 64))).fdiv (2 ^ min (Int.toNat 32) 64)) + (IntKind.u64.wrap (IntKind.u64.wrap ↑(BitVec.ofInt 64 (IntKind.u64.wrap (IntKind.u64.wrap (x.fdiv (2 ^ min (Int.toNat 32) 64) * IntKind.u64.wrap ↑(BitVec.ofInt 64 y &&& BitVec.ofInt 64 4294967295).toNat) + (IntKind.u64.wrap (IntKind.u64.wrap ↑(BitVec.ofInt 64 x &&& BitVec.ofInt 64 4294967295).toNat * IntKind.u64.wrap ↑(BitVec.ofInt 64 y &&& BitVec.ofInt 64 4294967295).toNat)).fdiv (2 ^ min (Int.toNat 32) 64))) &&& BitVec.ofInt 64 4294967295).toNat + IntKind.u64.wrap (IntKind.u64.wrap ↑(BitVec.ofInt 64 x &&& BitVec.ofInt 64 4294967295).toNat * y.fdiv (2 ^ min (Int.toNat 32) 64)))).fdiv (2 ^ min (Int.toNat 32) 64)))), .val (.int .u64 (IntKind.u64.wrap (x * y)))])) from by kernel_rfl).trans ?_
  simp only [Bool.and_eq_true, decide_eq_true_eq] at hp
  obtain ⟨⟨h1, h2⟩, h3, h4⟩ := hp
  obtain ⟨e1, e2⟩ := mul64_wide h1 h2 h3 h4
  rw [e1, e2]
theorem m123w : Meets Tryd.prog GLv 123 s123w := by
  refine meetsN mix0 glv G94 Tryd.func123 (by kernel_rfl) (by kernel_rfl) s123w fun args x h => ?_
  unfold s123w at h
  split at h
  · rename_i x y
    simp only [Option.some.injEq, Prod.mk.injEq] at h
    obtain ⟨hp, rfl⟩ := h
    exact ⟨_, _, by kernel_rfl, e123w x y hp⟩
  · cases h
abbrev Γ95 : List (Nat × Ctr) := (123, s123w) :: Γ94
theorem G95 : Sound Tryd.prog GLv Γ95 := G94.cons m123w

-- impl.isGreater
def s120w : Ctr := fun
  | [.val (.int .i64 x), .val (.int .i64 y)] => some (sW x && sW y, bv (decide (x * x > 2 * (y * y))))
  | _ => none

theorem e120w (x : Int) (y : Int) (hp : (sW x && sW y) = true) : evN Tryd.prog GLv Γ95 (0) []  Tryd.f120 [.val (.int .i64 x), .val (.int .i64 y)] = some (bv (decide (x * x > 2 * (y * y)))) := by
  refine (show _ = cond (decide (0 ≤ IntKind.u64.wrap (absV x)) && decide (IntKind.u64.wrap (absV x) < 9223372036854775808) && (decide (0 ≤ IntKind.u64.wrap (absV x)) && decide (IntKind.u64.wrap (absV x) < 9223372036854775808))) ( cond (decide (0 ≤ IntKind.u64.wrap (absV y)) && decide (IntKind.u64.wrap (absV y) < 9223372036854775808) && (decide (0 ≤ IntKind.u64.wrap (absV y)) && decide (IntKind.u64.wrap (absV y) < 9223372036854775808))) ( cond (decide (IntKind.u64.wrap (absV x) * IntKind.u64.wrap (absV x) / 18446744073709551616 > IntKind.u64.wrap ↑(BitVec.ofInt IntKind.u64.bits (IntKind.u64.wrap (IntKind.u64.wrap (absV y) * IntKind.u64.wrap (absV y) / 18446744073709551616 * 2 ^ min (Int.toNat 1) IntKind.u64.bits)) ||| BitVec.ofInt IntKind.u64.bits ((IntKind.u64.wrap (absV y) * IntKind.u64.wrap (absV y) % 18446744073709551616).fdiv (2 ^ min (Int.toNat 63) IntKind.u64.bits))).toNat)) ( some (bv (true)) ) ( cond (IntKind.u64.wrap (absV x) * IntKind.u64.wrap (absV x) / 18446744073709551616 == IntKind.u64.wrap ↑(BitVec.ofInt 64 (IntKind.u64.wrap (IntKind.u64.wrap (absV y) * IntKind.u64.wrap (absV y) / 18446744073709551616 * 2 ^ min (Int.toNat 1) 64)) ||| BitVec.ofInt 64 ((IntKind.u64.wrap (absV y) * IntKind.u64.wrap (absV y) % 18446744073709551616).fdiv (2 ^ min (Int.toNat 63) 64))).toNat) ( some (bv (decide (IntKind.u64.wrap (absV x) * IntKind.u64.wrap (absV x) % 18446744073709551616 > IntKind.u64.wrap (IntKind.u64.wrap (absV y) * IntKind.u64.wrap (absV y) % 18446744073709551616 * 2 ^ min (Int.toNat 1) IntKind.u64.bits)))) ) ( some (bv (false)) ) ) ) ( none ) ) ( none ) from by kernel_rfl).trans ?_
  rw [Bool.and_eq_true] at hp
  obtain ⟨a1, a2, a3⟩ := abs_w hp.1
  obtain ⟨b1, b2, b3⟩ := abs_w hp.2
  obtain ⟨c1, c2⟩ := sq_wide hp.1
  obtain ⟨d1, d2⟩ := sq_wide hp.2
  obtain ⟨g1, g2⟩ := gt_wide c1 c2 d1 d2
  rw [show IntKind.u64.bits = 64 from rfl, a1, b1, a2, b2, a3, b3, g1, g2, ← lex_gt (X := x * x) (Z := 2 * (y * y))]
  cases decide (x * x / 18446744073709551616 > 2 * (y * y) / 18446744073709551616) <;> cases x * x / 18446744073709551616 == 2 * (y * y) / 18446744073709551616 <;> rfl
theorem m120w : Meets Tryd.prog GLv 120 s120w := by
  refine meetsN mix0 glv G95 Tryd.func120 (by kernel_rfl) (by kernel_rfl) s120w fun args x h => ?_
  unfold s120w at h
  split at h
  · rename_i x y
    simp only [Option.some.injEq, Prod.mk.injEq] at h
    obtain ⟨hp, rfl⟩ := h
    exact ⟨_, _, by kernel_rfl, e120w x y hp⟩
  · cases h
abbrev Γ96 : List (Nat × Ctr) := (120, s120w) :: Γ95
theorem G96 : Sound Tryd.prog GLv Γ96 := G95.cons m120w

-- (impl.Num).sign
def s104w : Ctr := fun
  | [.agg [.val (.int .i64 x_a), .val (.int .i64 x_b), .val (.int .i64 x_k)]] => some (sW x_a && sW x_b, iv (sgF (⟨x_a, x_b, x_k⟩ : N3)))
  | _ => none

theorem e104w (x_a : Int) (x_b : Int) (x_k : Int) (hp : (sW x_a && sW x_b) = true) : evN Tryd.prog GLv Γ96 (0) []  Tryd.f104 [.agg [.val (.int .i64 x_a), .val (.int .i64 x_b), .val (.int .i64 x_k)]] = some (iv (sgF (⟨x_a, x_b, x_k⟩ : N3))) := by
  refine (show _ = cond (x_a.sign == x_b.sign) (some (iv x_a.sign)) (cond (x_b.sign == 0) (some (iv x_a.sign)) (cond (x_a.sign == 0) (some (iv x_b.sign)) (cond (sW x_a && sW x_b) (cond (!decide (x_a * x_a > 2 * (x_b * x_b))) (some (iv x_b.sign)) (some (iv x_a.sign))) none))) from by kernel_rfl).trans ?_
  rw [hp, ← sgF_alt]
  cases x_a.sign == x_b.sign <;> cases x_b.sign == 0 <;> cases x_a.sign == 0 <;> cases decide (x_a * x_a > 2 * (x_b * x_b)) <;> rfl
theorem m104w : Meets Tryd.prog GLv 104 s104w := by
  refine meetsN mix0 glv G96 Tryd.func104 (by kernel_rfl) (by kernel_rfl) s104w fun args x h => ?_
  unfold s104w at h
  split at h
  · rename_i x_a x_b x_k
    simp only [Option.some.injEq, Prod.mk.injEq] at h
    obtain ⟨hp, rfl⟩ := h
    exact ⟨_, _, by kernel_rfl, e104w x_a x_b x_k hp⟩
  · cases h
abbrev Γ97 : List (Nat × Ctr) := (104, s104w) :: Γ96
theorem G97 : Sound Tryd.prog GLv Γ97 := G96.cons m104w

-- (impl.Num).compare
def s114w : Ctr := fun
  | [.agg [.val (.int .i64 x_a), .val (.int .i64 x_b), .val (.int .i64 x_k)], .agg [.val (.int .i64 y_a), .val (.int .i64 y_b), .val (.int .i64 y_k)]] => some (cmW (⟨x_a, x_b, x_k⟩ : N3) (⟨y_a, y_b, y_k⟩ : N3), iv (sgF (subF (⟨x_a, x_b, x_k⟩ : N3) (⟨y_a, y_b, y_k⟩ : N3))))
  | _ => none

theorem e114w (x_a : Int) (x_b : Int) (x_k : Int) (y_a : Int) (y_b : Int) (y_k : Int) (hp : (cmW (⟨x_a, x_b, x_k⟩ : N3) (⟨y_a, y_b, y_k⟩ : N3)) = true) : evN Tryd.prog GLv Γ97 (0) []  Tryd.f114 [.agg [.val (.int .i64 x_a), .val (.int .i64 x_b), .val (.int .i64 x_k)], .agg [.val (.int .i64 y_a), .val (.int .i64 y_b), .val (.int .i64 y_k)]] = some (iv (sgF (subF (⟨x_a, x_b, x_k⟩ : N3) (⟨y_a, y_b, y_k⟩ : N3)))) := by
  have hp' := hp
  unfold cmW at hp'
  rw [Bool.and_eq_true] at hp'
  refine (show _ = cond (pk (⟨x_a, x_b, x_k⟩ : N3) (⟨y_a, y_b, y_k⟩ : N3)) (cond (sW (subF (⟨x_a, x_b, x_k⟩ : N3) (⟨y_a, y_b, y_k⟩ : N3)).a && sW (subF (⟨x_a, x_b, x_k⟩ : N3) (⟨y_a, y_b, y_k⟩ : N3)).b) (some (iv (sgF (subF (⟨x_a, x_b, x_k⟩ : N3) (⟨y_a, y_b, y_k⟩ : N3))))) (none)) (none) from by kernel_rfl).trans ?_
  rw [hp'.1, hp'.2]
  rfl
theorem m114w : Meets Tryd.prog GLv 114 s114w := by
  refine meetsN mix0 glv G97 Tryd.func114 (by kernel_rfl) (by kernel_rfl) s114w fun args x h => ?_
  unfold s114w at h
  split at h
  · rename_i x_a x_b x_k y_a y_b y_k
    simp only [Option.some.injEq, Prod.mk.injEq] at h
    obtain ⟨hp, rfl⟩ := h
    exact ⟨_, _, by kernel_rfl, e114w x_a x_b x_k y_a y_b y_k hp⟩
  · cases h
abbrev Γ98 : List (Nat × Ctr) := (114, s114w) :: Γ97
theorem G98 : Sound Tryd.prog GLv Γ98 := G97.cons m114w

-- spec.l01Square
def s125w : Ctr := fun
  | [.val (.int .i64 x)] => some (sW x, .tup [.val (.int .u64 (x * x / 18446744073709551616)), .val (.int .u64 (x * x % 18446744073709551616))])
  | _ => none

theorem e125w (x : Int) (hp : (sW x) = true) : evN Tryd.prog GLv Γ98 (0) []  Tryd.f125 [.val (.int .i64 x)] = some (.tup [.val (.int .u64 (x * x / 18446744073709551616)), .val (.int .u64 (x * x % 18446744073709551616))]) := by
  exact (show _ = cond (decide (x < 0)) (sqT (u64w (wr (0 - x)))) (sqT (u64w x)) from by kernel_rfl).trans (sq_wideT hp)
theorem m125w : Meets Tryd.prog GLv 125 s125w := by
  refine meetsN mix0 glv G98 Tryd.func125 (by kernel_rfl) (by kernel_rfl) s125w fun args x h => ?_
  unfold s125w at h
  split at h
  · rename_i x
    simp only [Option.some.injEq, Prod.mk.injEq] at h
    obtain ⟨hp, rfl⟩ := h
    exact ⟨_, _, by kernel_rfl, e125w x hp⟩
  · cases h
abbrev Γ99 : List (Nat × Ctr) := (125, s125w) :: Γ98
theorem G99 : Sound Tryd.prog GLv Γ99 := G98.cons m125w

-- spec.l01Less
def s122w : Ctr := fun
  | [.val (.int .i64 x), .val (.int .i64 y)] => some (sW x && sW y, bv (decide (x * x < 2 * (y * y))))
  | _ => none

theorem e122w (x : Int) (y : Int) (hp : (sW x && sW y) = true) : evN Tryd.prog GLv Γ99 (0) []  Tryd.f122 [.val (.int .i64 x), .val (.int .i64 y)] = some (bv (decide (x * x < 2 * (y * y)))) := by
  rw [Bool.and_eq_true] at hp
  refine (show _ = cond (sW x) (cond (sW y) (cond (decide (x * x / 18446744073709551616 < u64w (u64w (y * y / 18446744073709551616 * 2) + (y * y % 18446744073709551616).fdiv (2 ^ min (Int.toNat 63) 64)))) (some (bv true)) (cond (x * x / 18446744073709551616 == u64w (u64w (y * y / 18446744073709551616 * 2) + (y * y % 18446744073709551616).fdiv (2 ^ min (Int.toNat 63) 64))) (some (bv (decide (x * x % 18446744073709551616 < u64w (y * y % 18446744073709551616 * 2))))) (some (bv false)))) none) none from by kernel_rfl).trans ?_
  rw [hp.1, hp.2]
  obtain ⟨d1, d2⟩ := sq_wide hp.2
  exact less_wide d1 d2
theorem m122w : Meets Tryd.prog GLv 122 s122w := by
  refine meetsN mix0 glv G99 Tryd.func122 (by kernel_rfl) (by kernel_rfl) s122w fun args x h => ?_
  unfold s122w at h
  split at h
  · rename_i x y
    simp only [Option.some.injEq, Prod.mk.injEq] at h
    obtain ⟨hp, rfl⟩ := h
    exact ⟨_, _, by kernel_rfl, e122w x y hp⟩
  · cases h
abbrev Γ100 : List (Nat × Ctr) := (122, s122w) :: Γ99
theorem G100 : Sound Tryd.prog GLv Γ100 := G99.cons m122w

-- spec.l01Sign
def s110w : Ctr := fun
  | [.agg [.val (.int .i64 x_a), .val (.int .i64 x_b), .val (.int .i64 x_k)]] => some (sW x_a && sW x_b, iv (sgF (⟨x_a, x_b, x_k⟩ : N3)))
  | _ => none

theorem e110w (x_a : Int) (x_b : Int) (x_k : Int) (hp : (sW x_a && sW x_b) = true) : evN Tryd.prog GLv Γ100 (0) []  Tryd.f110 [.agg [.val (.int .i64 x_a), .val (.int .i64 x_b), .val (.int .i64 x_k)]] = some (iv (sgF (⟨x_a, x_b, x_k⟩ : N3))) := by
  refine (show _ = cond (x_a == 0) ( cond (x_b == 0) ( some (iv (0)) ) ( cond (decide (x_a ≥ 0)) ( cond (decide (x_b ≥ 0)) ( some (iv (1)) ) ( cond (decide (x_a ≤ 0)) ( cond (decide (x_b ≤ 0)) ( some (iv (-1)) ) ( cond (sW x_a && sW x_b) ( cond (decide (x_a * x_a < 2 * (x_b * x_b)) == decide (x_b > 0)) ( some (iv (1)) ) ( some (iv (-1)) ) ) ( none ) ) ) ( cond (sW x_a && sW x_b) ( cond (decide (x_a * x_a < 2 * (x_b * x_b)) == decide (x_b > 0)) ( some (iv (1)) ) ( some (iv (-1)) ) ) ( none ) ) ) ) ( cond (decide (x_a ≤ 0)) ( cond (decide (x_b ≤ 0)) ( some (iv (-1)) ) ( cond (sW x_a && sW x_b) ( cond (decide (x_a * x_a < 2 * (x_b * x_b)) == decide (x_b > 0)) ( some (iv (1)) ) ( some (iv (-1)) ) ) ( none ) ) ) ( cond (sW x_a && sW x_b) ( cond (decide (x_a * x_a < 2 * (x_b * x_b)) == decide (x_b > 0)) ( some (iv (1)) ) ( some (iv (-1)) ) ) ( none ) ) ) ) ) ( cond (decide (x_a ≥ 0)) ( cond (decide (x_b ≥ 0)) ( some (iv (1)) ) ( cond (decide (x_a ≤ 0)) ( cond (decide (x_b ≤ 0)) ( some (iv (-1)) ) ( cond (sW x_a && sW x_b) ( cond (decide (x_a * x_a < 2 * (x_b * x_b)) == decide (x_b > 0)) ( some (iv (1)) ) ( some (iv (-1)) ) ) ( none ) ) ) ( cond (sW x_a && sW x_b) ( cond (decide (x_a * x_a < 2 * (x_b * x_b)) == decide (x_b > 0)) ( some (iv (1)) ) ( some (iv (-1)) ) ) ( none ) ) ) ) ( cond (decide (x_a ≤ 0)) ( cond (decide (x_b ≤ 0)) ( some (iv (-1)) ) ( cond (sW x_a && sW x_b) ( cond (decide (x_a * x_a < 2 * (x_b * x_b)) == decide (x_b > 0)) ( some (iv (1)) ) ( some (iv (-1)) ) ) ( none ) ) ) ( cond (sW x_a && sW x_b) ( cond (decide (x_a * x_a < 2 * (x_b * x_b)) == decide (x_b > 0)) ( some (iv (1)) ) ( some (iv (-1)) ) ) ( none ) ) ) ) from by kernel_rfl).trans ?_
  rw [hp]
  show _ = some (iv (sgZ x_a x_b))
  rw [← sgS_eq]
  unfold sgS
  cases (x_a == 0) <;> cases (x_b == 0) <;> cases decide (x_a ≥ 0) <;> cases decide (x_b ≥ 0) <;> cases decide (x_a ≤ 0) <;> cases decide (x_b ≤ 0) <;> cases (decide (x_a * x_a < 2 * (x_b * x_b)) == decide (x_b > 0)) <;> rfl
theorem m110w : Meets Tryd.prog GLv 110 s110w := by
  refine meetsN mix0 glv G100 Tryd.func110 (by kernel_rfl) (by kernel_rfl) s110w fun args x h => ?_
  unfold s110w at h
  split at h
  · rename_i x_a x_b x_k
    simp only [Option.some.injEq, Prod.mk.injEq] at h
    obtain ⟨hp, rfl⟩ := h
    exact ⟨_, _, by kernel_rfl, e110w x_a x_b x_k hp⟩
  · cases h
abbrev Γ101 : List (Nat × Ctr) := (110, s110w) :: Γ100
theorem G101 : Sound Tryd.prog GLv Γ101 := G100.cons m110w

-- spec.l01Compare
def s83w : Ctr := fun
  | [.agg [.val (.int .i64 x_a), .val (.int .i64 x_b), .val (.int .i64 x_k)], .agg [.val (.int .i64 y_a), .val (.int .i64 y_b), .val (.int .i64 y_k)]] => some (cmW (⟨x_a, x_b, x_k⟩ : N3) (⟨y_a, y_b, y_k⟩ : N3), iv (sgF (subF (⟨x_a, x_b, x_k⟩ : N3) (⟨y_a, y_b, y_k⟩ : N3))))
  | _ => none

theorem e83w (x_a : Int) (x_b : Int) (x_k : Int) (y_a : Int) (y_b : Int) (y_k : Int) (hp : (cmW (⟨x_a, x_b, x_k⟩ : N3) (⟨y_a, y_b, y_k⟩ : N3)) = true) : evN Tryd.prog GLv Γ101 (0) []  Tryd.f83 [.agg [.val (.int .i64 x_a), .val (.int .i64 x_b), .val (.int .i64 x_k)], .agg [.val (.int .i64 y_a), .val (.int .i64 y_b), .val (.int .i64 y_k)]] = some (iv (sgF (subF (⟨x_a, x_b, x_k⟩ : N3) (⟨y_a, y_b, y_k⟩ : N3)))) := by
  have hp' := hp
  unfold cmW at hp'
  rw [Bool.and_eq_true] at hp'
  refine (show _ = cond (pk (⟨x_a, x_b, x_k⟩ : N3) (⟨y_a, y_b, y_k⟩ : N3)) (cond (sW (subF (⟨x_a, x_b, x_k⟩ : N3) (⟨y_a, y_b, y_k⟩ : N3)).a && sW (subF (⟨x_a, x_b, x_k⟩ : N3) (⟨y_a, y_b, y_k⟩ : N3)).b) (some (iv (sgF (subF (⟨x_a, x_b, x_k⟩ : N3) (⟨y_a, y_b, y_k⟩ : N3))))) (none)) (none) from by kernel_rfl).trans ?_
  rw [hp'.1, hp'.2]
  rfl
theorem m83w : Meets Tryd.prog GLv 83 s83w := by
  refine meetsN mix0 glv G101 Tryd.func83 (by kernel_rfl) (by kernel_rfl) s83w fun args x h => ?_
  unfold s83w at h
  split at h
  · rename_i x_a x_b x_k y_a y_b y_k
    simp only [Option.some.injEq, Prod.mk.injEq] at h
    obtain ⟨hp, rfl⟩ := h
    exact ⟨_, _, by kernel_rfl, e83w x_a x_b x_k y_a y_b y_k hp⟩
  · cases h
abbrev Γ102 : List (Nat × Ctr) := (83, s83w) :: Γ101
theorem G102 : Sound Tryd.prog GLv Γ102 := G101.cons m83w

-- (impl.Point).compare
def s90w : Ctr := fun
  | [.agg [.val (.int .i64 p_xa), .val (.int .i64 p_xb), .val (.int .i64 p_xk), .val (.int .i64 p_ya), .val (.int .i64 p_yb), .val (.int .i64 p_yk)], .agg [.val (.int .i64 q_xa), .val (.int .i64 q_xb), .val (.int .i64 q_xk), .val (.int .i64 q_ya), .val (.int .i64 q_yb), .val (.int .i64 q_yk)]] => some (cmW (⟨p_xa, p_xb, p_xk⟩ : N3) (⟨q_xa, q_xb, q_xk⟩ : N3) && cmW (⟨p_ya, p_yb, p_yk⟩ : N3) (⟨q_ya, q_yb, q_yk⟩ : N3), iv (cpP (⟨⟨p_xa, p_xb, p_xk⟩, ⟨p_ya, p_yb, p_yk⟩⟩ : P2) (⟨⟨q_xa, q_xb, q_xk⟩, ⟨q_ya, q_yb, q_yk⟩⟩ : P2)))
  | _ => none

theorem e90w (p_xa : Int) (p_xb : Int) (p_xk : Int) (p_ya : Int) (p_yb : Int) (p_yk : Int) (q_xa : Int) (q_xb : Int) (q_xk : Int) (q_ya : Int) (q_yb : Int) (q_yk : Int) (hp : (cmW (⟨p_xa, p_xb, p_xk⟩ : N3) (⟨q_xa, q_xb, q_xk⟩ : N3) && cmW (⟨p_ya, p_yb, p_yk⟩ : N3) (⟨q_ya, q_yb, q_yk⟩ : N3)) = true) : evN Tryd.prog GLv Γ102 (0) []  Tryd.f90 [.agg [.val (.int .i64 p_xa), .val (.int .i64 p_xb), .val (.int .i64 p_xk), .val (.int .i64 p_ya), .val (.int .i64 p_yb), .val (.int .i64 p_yk)], .agg [.val (.int .i64 q_xa), .val (.int .i64 q_xb), .val (.int .i64 q_xk), .val (.int .i64 q_ya), .val (.int .i64 q_yb), .val (.int .i64 q_yk)]] = some (iv (cpP (⟨⟨p_xa, p_xb, p_xk⟩, ⟨p_ya, p_yb, p_yk⟩⟩ : P2) (⟨⟨q_xa, q_xb, q_xk⟩, ⟨q_ya, q_yb, q_yk⟩⟩ : P2))) := by
  rw [Bool.and_eq_true] at hp
  refine (show _ = cond (cmW (⟨p_xa, p_xb, p_xk⟩ : N3) (⟨q_xa, q_xb, q_xk⟩ : N3)) (cond (sgF (subF (⟨p_xa, p_xb, p_xk⟩ : N3) (⟨q_xa, q_xb, q_xk⟩ : N3)) != 0) (some (iv (sgF (subF (⟨p_xa, p_xb, p_xk⟩ : N3) (⟨q_xa, q_xb, q_xk⟩ : N3))))) (cond (cmW (⟨p_ya, p_yb, p_yk⟩ : N3) (⟨q_ya, q_yb, q_yk⟩ : N3)) (some (iv (sgF (subF (⟨p_ya, p_yb, p_yk⟩ : N3) (⟨q_ya, q_yb, q_yk⟩ : N3))))) (none))) (none) from by kernel_rfl).trans ?_
  rw [hp.1, hp.2]
  unfold cpP
  cases (sgF (subF (⟨p_xa, p_xb, p_xk⟩ : N3) (⟨q_xa, q_xb, q_xk⟩ : N3)) != 0) <;> rfl
theorem m90w : Meets Tryd.prog GLv 90 s90w := by
  refine meetsN mix0 glv G102 Tryd.func90 (by kernel_rfl) (by kernel_rfl) s90w fun args x h => ?_
  unfold s90w at h
  split at h
  · rename_i p_xa p_xb p_xk p_ya p_yb p_yk q_xa q_xb q_xk q_ya q_yb q_yk
    simp only [Option.some.injEq, Prod.mk.injEq] at h
    obtain ⟨hp, rfl⟩ := h
    exact ⟨_, _, by kernel_rfl, e90w p_xa p_xb p_xk p_ya p_yb p_yk q_xa q_xb q_xk q_ya q_yb q_yk hp⟩
  · cases h
abbrev Γ103 : List (Nat × Ctr) := (90, s90w) :: Γ102
theorem G103 : Sound Tryd.prog GLv Γ103 := G102.cons m90w

-- spec.l02Before
def s47w : Ctr := fun
  | [.agg [.val (.int .i64 p_xa), .val (.int .i64 p_xb), .val (.int .i64 p_xk), .val (.int .i64 p_ya), .val (.int .i64 p_yb), .val (.int .i64 p_yk)], .agg [.val (.int .i64 q_xa), .val (.int .i64 q_xb), .val (.int .i64 q_xk), .val (.int .i64 q_ya), .val (.int .i64 q_yb), .val (.int .i64 q_yk)]] => some (cmW (⟨p_xa, p_xb, p_xk⟩ : N3) (⟨q_xa, q_xb, q_xk⟩ : N3) && cmW (⟨p_ya, p_yb, p_yk⟩ : N3) (⟨q_ya, q_yb, q_yk⟩ : N3), iv (cpP (⟨⟨p_xa, p_xb, p_xk⟩, ⟨p_ya, p_yb, p_yk⟩⟩ : P2) (⟨⟨q_xa, q_xb, q_xk⟩, ⟨q_ya, q_yb, q_yk⟩⟩ : P2)))
  | _ => none

theorem e47w (p_xa : Int) (p_xb : Int) (p_xk : Int) (p_ya : Int) (p_yb : Int) (p_yk : Int) (q_xa : Int) (q_xb : Int) (q_xk : Int) (q_ya : Int) (q_yb : Int) (q_yk : Int) (hp : (cmW (⟨p_xa, p_xb, p_xk⟩ : N3) (⟨q_xa, q_xb, q_xk⟩ : N3) && cmW (⟨p_ya, p_yb, p_yk⟩ : N3) (⟨q_ya, q_yb, q_yk⟩ : N3)) = true) : evN Tryd.prog GLv Γ103 (0) []  Tryd.f47 [.agg [.val (.int .i64 p_xa), .val (.int .i64 p_xb), .val (.int .i64 p_xk), .val (.int .i64 p_ya), .val (.int .i64 p_yb), .val (.int .i64 p_yk)], .agg [.val (.int .i64 q_xa), .val (.int .i64 q_xb), .val (.int .i64 q_xk), .val (.int .i64 q_ya), .val (.int .i64 q_yb), .val (.int .i64 q_yk)]] = some (iv (cpP (⟨⟨p_xa, p_xb, p_xk⟩, ⟨p_ya, p_yb, p_yk⟩⟩ : P2) (⟨⟨q_xa, q_xb, q_xk⟩, ⟨q_ya, q_yb, q_yk⟩⟩ : P2))) := by
  rw [Bool.and_eq_true] at hp
  refine (show _ = cond (cmW (⟨p_xa, p_xb, p_xk⟩ : N3) (⟨q_xa, q_xb, q_xk⟩ : N3)) (cond (sgF (subF (⟨p_xa, p_xb, p_xk⟩ : N3) (⟨q_xa, q_xb, q_xk⟩ : N3)) != 0) (some (iv (sgF (subF (⟨p_xa, p_xb, p_xk⟩ : N3) (⟨q_xa, q_xb, q_xk⟩ : N3))))) (cond (cmW (⟨p_ya, p_yb, p_yk⟩ : N3) (⟨q_ya, q_yb, q_yk⟩ : N3)) (some (iv (sgF (subF (⟨p_ya, p_yb, p_yk⟩ : N3) (⟨q_ya, q_yb, q_yk⟩ : N3))))) (none))) (none) from by kernel_rfl).trans ?_
  rw [hp.1, hp.2]
  unfold cpP
  cases (sgF (subF (⟨p_xa, p_xb, p_xk⟩ : N3) (⟨q_xa, q_xb, q_xk⟩ : N3)) != 0) <;> rfl
theorem m47w : Meets Tryd.prog GLv 47 s47w := by
  refine meetsN mix0 glv G103 Tryd.func47 (by kernel_rfl) (by kernel_rfl) s47w fun args x h => ?_
  unfold s47w at h
  split at h
  · rename_i p_xa p_xb p_xk p_ya p_yb p_yk q_xa q_xb q_xk q_ya q_yb q_yk
    simp only [Option.some.injEq, Prod.mk.injEq] at h
    obtain ⟨hp, rfl⟩ := h
    exact ⟨_, _, by kernel_rfl, e47w p_xa p_xb p_xk p_ya p_yb p_yk q_xa q_xb q_xk q_ya q_yb q_yk hp⟩
  · cases h
abbrev Γ104 : List (Nat × Ctr) := (47, s47w) :: Γ103
theorem G104 : Sound Tryd.prog GLv Γ104 := G103.cons m47w

end Go.Proofs.YtooikeeckoflpaaDoor
