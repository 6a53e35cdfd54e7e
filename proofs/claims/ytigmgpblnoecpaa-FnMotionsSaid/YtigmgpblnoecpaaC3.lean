/- Contracts of the program's functions, by the evaluator. -/
import Derived.Test.YtigmgpblnoecpaaC2
import Derived.Test.YtigmgpblnoecpaaSgnC
namespace Go.Proofs.Ytigmgpblnoecpaa
open Go.Ev
set_option linter.unusedVariables false
set_option linter.unusedSimpArgs false
set_option maxRecDepth 100000

-- impl.abs
def s78 : Ctr := fun
  | [.val (.int .i64 x)] => some (true, iv (absV x))
  | _ => none

theorem e78 (x : Int) : evN Try.prog GL0 Γ34 (0) []  Try.f78 [.val (.int .i64 x)] = some (iv (absV x)) := by
  kernel_rfl
theorem m78 : Meets Try.prog GL0 78 s78 := by
  refine meetsN mix0 gl0 G34 Try.func78 (by kernel_rfl) (by kernel_rfl) s78 fun args x h => ?_
  unfold s78 at h
  split at h
  · rename_i x
    simp only [Option.some.injEq, Prod.mk.injEq] at h
    obtain ⟨hp, rfl⟩ := h
    exact ⟨_, _, by kernel_rfl, e78 x⟩
  · cases h
abbrev Γ35 : List (Nat × Ctr) := (78, s78) :: Γ34
theorem G35 : Sound Try.prog GL0 Γ35 := G34.cons m78

-- impl.signOf
def s64 : Ctr := fun
  | [.val (.int .i64 x)] => some (true, iv x.sign)
  | _ => none

theorem e64 (x : Int) : evN Try.prog GL0 Γ35 (0) []  Try.f64 [.val (.int .i64 x)] = some (iv x.sign) := by
  refine (show _ = some (iv (if (if x < 1 then x else 1) > -1 then if x < 1 then x else 1 else -1)) from by kernel_rfl).trans ?_
  rw [sign_gmax]
theorem m64 : Meets Try.prog GL0 64 s64 := by
  refine meetsN mix0 gl0 G35 Try.func64 (by kernel_rfl) (by kernel_rfl) s64 fun args x h => ?_
  unfold s64 at h
  split at h
  · rename_i x
    simp only [Option.some.injEq, Prod.mk.injEq] at h
    obtain ⟨hp, rfl⟩ := h
    exact ⟨_, _, by kernel_rfl, e64 x⟩
  · cases h
abbrev Γ36 : List (Nat × Ctr) := (64, s64) :: Γ35
theorem G36 : Sound Try.prog GL0 Γ36 := G35.cons m64

-- math/bits.Mul64
def s77 : Ctr := fun
  | [.val (.int .u64 x), .val (.int .u64 y)] => some ((decide (0 ≤ x) && decide (x < 2147483648)) && (decide (0 ≤ y) && decide (y < 2147483648)), .tup [.val (.int .u64 0), .val (.int .u64 (x * y))])
  | _ => none

theorem e77 (x : Int) (y : Int) (hp : ((decide (0 ≤ x) && decide (x < 2147483648)) && (decide (0 ≤ y) && decide (y < 2147483648))) = true) : evN Try.prog GL0 Γ36 (0) []  Try.f77 [.val (.int .u64 x), .val (.int .u64 y)] = some (.tup [.val (.int .u64 0), .val (.int .u64 (x * y))]) := by
  refine (show _ = some ((.tup [.val (.int .u64 (IntKind.u64.wrap (IntKind.u64.wrap (IntKind.u64.wrap (x.fdiv (2 ^ min (Int.toNat 32) 64) * y.fdiv (2 ^ min (Int.toNat 32) 64)) + (IntKind.u64.wrap (IntKind.u64.wrap (x.fdiv (2 ^ min (Int.toNat 32) 64) * IntKind.u64.wrap ↑(BitVec.ofInt 64 y &&& BitVec.ofInt 64 4294967295).toNat) + (IntKind.u64.wrap (IntKind.u64.wrap ↑(BitVec.ofInt 64 x &&& BitVec.ofInt 64 4294967295).toNat * IntKind.u64.wrap ↑(BitVec.ofInt 64 y &&& BitVec.ofInt 64 4294967295).toNat)).fdiv (2 ^ min (Int.toNat 32) 64))).fdiv (2 ^ min (Int.toNat 32) 64)) + (IntKind.u64.wrap (IntKind.u64.wrap ↑(BitVec.ofInt 64 (IntKind.u64.wrap (IntKind.u64.wrap (x.fdiv (2 ^ min (Int.toNat 32) 64) * IntKind.u64.wrap ↑(BitVec.ofInt 64 y &&& BitVec.ofInt 64 4294967295).toNat) + (IntKind.u64.wrap (IntKind.u64.wrap ↑(BitVec.ofInt 64 x &&& BitVec.ofInt 64 4294967295).toNat * IntKind.u64.wrap ↑(BitVec.ofInt 64 y &&& BitVec.ofInt 64 4294967295).toNat)).fdiv (2 ^ min (Int.toNat 32) 64))) &&& BitVec.ofInt 64 4294967295).toNat + IntKind.u64.wrap (IntKind.u64.wrap ↑(BitVec.ofInt 64 x &&& BitVec.ofInt 64 4294967295).toNat * y.fdiv (2 ^ min (Int.toNat 32) 64)))).fdiv (2 ^ min (Int.toNat 32) 64)))), .val (.int .u64 (IntKind.u64.wrap (x * y)))])) from by kernel_rfl).trans ?_
  simp only [Bool.and_eq_true, decide_eq_true_eq] at hp
  obtain ⟨⟨h1, h2⟩, h3, h4⟩ := hp
  obtain ⟨e1, e2⟩ := mul64_small h1 h2 h3 h4
  rw [e1, e2]
theorem m77 : Meets Try.prog GL0 77 s77 := by
  refine meetsN mix0 gl0 G36 Try.func77 (by kernel_rfl) (by kernel_rfl) s77 fun args x h => ?_
  unfold s77 at h
  split at h
  · rename_i x y
    simp only [Option.some.injEq, Prod.mk.injEq] at h
    obtain ⟨hp, rfl⟩ := h
    exact ⟨_, _, by kernel_rfl, e77 x y hp⟩
  · cases h
abbrev Γ37 : List (Nat × Ctr) := (77, s77) :: Γ36
theorem G37 : Sound Try.prog GL0 Γ37 := G36.cons m77

-- impl.isGreater
def s65 : Ctr := fun
  | [.val (.int .i64 x), .val (.int .i64 y)] => some (sB x && sB y, bv (decide (x * x > 2 * (y * y))))
  | _ => none

theorem e65 (x : Int) (y : Int) (hp : (sB x && sB y) = true) : evN Try.prog GL0 Γ37 (0) []  Try.f65 [.val (.int .i64 x), .val (.int .i64 y)] = some (bv (decide (x * x > 2 * (y * y)))) := by
  refine (show _ = cond (decide (0 ≤ IntKind.u64.wrap (absV x)) && decide (IntKind.u64.wrap (absV x) < 2147483648) && (decide (0 ≤ IntKind.u64.wrap (absV x)) && decide (IntKind.u64.wrap (absV x) < 2147483648))) ( cond (decide (0 ≤ IntKind.u64.wrap (absV y)) && decide (IntKind.u64.wrap (absV y) < 2147483648) && (decide (0 ≤ IntKind.u64.wrap (absV y)) && decide (IntKind.u64.wrap (absV y) < 2147483648))) ( cond (0 == IntKind.u64.wrap ↑(BitVec.ofInt 64 (IntKind.u64.wrap (0 * 2 ^ min (Int.toNat 1) 64)) ||| BitVec.ofInt 64 ((IntKind.u64.wrap (absV y) * IntKind.u64.wrap (absV y)).fdiv (2 ^ min (Int.toNat 63) 64))).toNat) ( some (bv (decide (IntKind.u64.wrap (absV x) * IntKind.u64.wrap (absV x) > IntKind.u64.wrap (IntKind.u64.wrap (absV y) * IntKind.u64.wrap (absV y) * 2 ^ min (Int.toNat 1) IntKind.u64.bits)))) ) ( some (bv (false)) ) ) ( none ) ) ( none ) from by kernel_rfl).trans ?_
  rw [Bool.and_eq_true] at hp
  obtain ⟨a1, a2, _⟩ := abs_u hp.1
  obtain ⟨b1, b2, _⟩ := abs_u hp.2
  rw [a1, b1, a2, b2, hi_zero hp.2, gt_eq hp.1 hp.2]
  rfl
theorem m65 : Meets Try.prog GL0 65 s65 := by
  refine meetsN mix0 gl0 G37 Try.func65 (by kernel_rfl) (by kernel_rfl) s65 fun args x h => ?_
  unfold s65 at h
  split at h
  · rename_i x y
    simp only [Option.some.injEq, Prod.mk.injEq] at h
    obtain ⟨hp, rfl⟩ := h
    exact ⟨_, _, by kernel_rfl, e65 x y hp⟩
  · cases h
abbrev Γ38 : List (Nat × Ctr) := (65, s65) :: Γ37
theorem G38 : Sound Try.prog GL0 Γ38 := G37.cons m65

-- (impl.Num).sign
def s33 : Ctr := fun
  | [.agg [.val (.int .i64 x_a), .val (.int .i64 x_b), .val (.int .i64 x_k)]] => some (sB x_a && sB x_b, iv (sgF (⟨x_a, x_b, x_k⟩ : N3)))
  | _ => none

theorem e33 (x_a : Int) (x_b : Int) (x_k : Int) (hp : (sB x_a && sB x_b) = true) : evN Try.prog GL0 Γ38 (0) []  Try.f33 [.agg [.val (.int .i64 x_a), .val (.int .i64 x_b), .val (.int .i64 x_k)]] = some (iv (sgF (⟨x_a, x_b, x_k⟩ : N3))) := by
  refine (show _ = cond (x_a.sign == x_b.sign) (some (iv x_a.sign)) (cond (x_b.sign == 0) (some (iv x_a.sign)) (cond (x_a.sign == 0) (some (iv x_b.sign)) (cond (sB x_a && sB x_b) (cond (!decide (x_a * x_a > 2 * (x_b * x_b))) (some (iv x_b.sign)) (some (iv x_a.sign))) none))) from by kernel_rfl).trans ?_
  rw [hp, ← sgF_alt]
  cases x_a.sign == x_b.sign <;> cases x_b.sign == 0 <;> cases x_a.sign == 0 <;> cases decide (x_a * x_a > 2 * (x_b * x_b)) <;> rfl
theorem m33 : Meets Try.prog GL0 33 s33 := by
  refine meetsN mix0 gl0 G38 Try.func33 (by kernel_rfl) (by kernel_rfl) s33 fun args x h => ?_
  unfold s33 at h
  split at h
  · rename_i x_a x_b x_k
    simp only [Option.some.injEq, Prod.mk.injEq] at h
    obtain ⟨hp, rfl⟩ := h
    exact ⟨_, _, by kernel_rfl, e33 x_a x_b x_k hp⟩
  · cases h
abbrev Γ39 : List (Nat × Ctr) := (33, s33) :: Γ38
theorem G39 : Sound Try.prog GL0 Γ39 := G38.cons m33

-- (impl.Num).compare
def s34 : Ctr := fun
  | [.agg [.val (.int .i64 x_a), .val (.int .i64 x_b), .val (.int .i64 x_k)], .agg [.val (.int .i64 y_a), .val (.int .i64 y_b), .val (.int .i64 y_k)]] => some (pk (⟨x_a, x_b, x_k⟩ : N3) (⟨y_a, y_b, y_k⟩ : N3) && (sB (subF (⟨x_a, x_b, x_k⟩ : N3) (⟨y_a, y_b, y_k⟩ : N3)).a && sB (subF (⟨x_a, x_b, x_k⟩ : N3) (⟨y_a, y_b, y_k⟩ : N3)).b), iv (sgF (subF (⟨x_a, x_b, x_k⟩ : N3) (⟨y_a, y_b, y_k⟩ : N3))))
  | _ => none

theorem e34 (x_a : Int) (x_b : Int) (x_k : Int) (y_a : Int) (y_b : Int) (y_k : Int) (hp : (pk (⟨x_a, x_b, x_k⟩ : N3) (⟨y_a, y_b, y_k⟩ : N3) && (sB (subF (⟨x_a, x_b, x_k⟩ : N3) (⟨y_a, y_b, y_k⟩ : N3)).a && sB (subF (⟨x_a, x_b, x_k⟩ : N3) (⟨y_a, y_b, y_k⟩ : N3)).b)) = true) : evN Try.prog GL0 Γ39 (0) []  Try.f34 [.agg [.val (.int .i64 x_a), .val (.int .i64 x_b), .val (.int .i64 x_k)], .agg [.val (.int .i64 y_a), .val (.int .i64 y_b), .val (.int .i64 y_k)]] = some (iv (sgF (subF (⟨x_a, x_b, x_k⟩ : N3) (⟨y_a, y_b, y_k⟩ : N3)))) := by
  rw [Bool.and_eq_true] at hp
  refine (show _ = cond (pk (⟨x_a, x_b, x_k⟩ : N3) (⟨y_a, y_b, y_k⟩ : N3)) (cond (sB (subF (⟨x_a, x_b, x_k⟩ : N3) (⟨y_a, y_b, y_k⟩ : N3)).a && sB (subF (⟨x_a, x_b, x_k⟩ : N3) (⟨y_a, y_b, y_k⟩ : N3)).b) (some (iv (sgF (subF (⟨x_a, x_b, x_k⟩ : N3) (⟨y_a, y_b, y_k⟩ : N3))))) none) none from by kernel_rfl).trans ?_
  rw [hp.1, hp.2]
  rfl
theorem m34 : Meets Try.prog GL0 34 s34 := by
  refine meetsN mix0 gl0 G39 Try.func34 (by kernel_rfl) (by kernel_rfl) s34 fun args x h => ?_
  unfold s34 at h
  split at h
  · rename_i x_a x_b x_k y_a y_b y_k
    simp only [Option.some.injEq, Prod.mk.injEq] at h
    obtain ⟨hp, rfl⟩ := h
    exact ⟨_, _, by kernel_rfl, e34 x_a x_b x_k y_a y_b y_k hp⟩
  · cases h
abbrev Γ40 : List (Nat × Ctr) := (34, s34) :: Γ39
theorem G40 : Sound Try.prog GL0 Γ40 := G39.cons m34

-- impl.SignNum
def s8 : Ctr := fun
  | [.agg [.val (.int .i64 x_a), .val (.int .i64 x_b), .val (.int .i64 x_k)]] => some (true, iv (cond (validB (⟨x_a, x_b, x_k⟩ : N3)) (sgF (⟨x_a, x_b, x_k⟩ : N3)) 0))
  | _ => none

theorem e8 (x_a : Int) (x_b : Int) (x_k : Int) : evN Try.prog GL0 Γ40 (0) []  Try.f8 [.agg [.val (.int .i64 x_a), .val (.int .i64 x_b), .val (.int .i64 x_k)]] = some (iv (cond (validB (⟨x_a, x_b, x_k⟩ : N3)) (sgF (⟨x_a, x_b, x_k⟩ : N3)) 0)) := by
  refine (show _ = cond (!validB (⟨x_a, x_b, x_k⟩ : N3)) (some (iv 0)) (cond (sB x_a && sB x_b) (some (iv (sgF (⟨x_a, x_b, x_k⟩ : N3)))) none) from by kernel_rfl).trans ?_
  cases h : validB (⟨x_a, x_b, x_k⟩ : N3) with
  | false => rfl
  | true =>
    rw [show (sB x_a && sB x_b) = true from sg_ok h]
    rfl
theorem m8 : Meets Try.prog GL0 8 s8 := by
  refine meetsN mix0 gl0 G40 Try.func8 (by kernel_rfl) (by kernel_rfl) s8 fun args x h => ?_
  unfold s8 at h
  split at h
  · rename_i x_a x_b x_k
    simp only [Option.some.injEq, Prod.mk.injEq] at h
    obtain ⟨hp, rfl⟩ := h
    exact ⟨_, _, by kernel_rfl, e8 x_a x_b x_k⟩
  · cases h
abbrev Γ41 : List (Nat × Ctr) := (8, s8) :: Γ40
theorem G41 : Sound Try.prog GL0 Γ41 := G40.cons m8

-- impl.CompareNum
def s9 : Ctr := fun
  | [.agg [.val (.int .i64 x_a), .val (.int .i64 x_b), .val (.int .i64 x_k)], .agg [.val (.int .i64 y_a), .val (.int .i64 y_b), .val (.int .i64 y_k)]] => some (true, iv (cond (validB (⟨x_a, x_b, x_k⟩ : N3) && validB (⟨y_a, y_b, y_k⟩ : N3)) (sgF (subF (⟨x_a, x_b, x_k⟩ : N3) (⟨y_a, y_b, y_k⟩ : N3))) 0))
  | _ => none

theorem e9 (x_a : Int) (x_b : Int) (x_k : Int) (y_a : Int) (y_b : Int) (y_k : Int) : evN Try.prog GL0 Γ41 (0) []  Try.f9 [.agg [.val (.int .i64 x_a), .val (.int .i64 x_b), .val (.int .i64 x_k)], .agg [.val (.int .i64 y_a), .val (.int .i64 y_b), .val (.int .i64 y_k)]] = some (iv (cond (validB (⟨x_a, x_b, x_k⟩ : N3) && validB (⟨y_a, y_b, y_k⟩ : N3)) (sgF (subF (⟨x_a, x_b, x_k⟩ : N3) (⟨y_a, y_b, y_k⟩ : N3))) 0)) := by
  refine (show _ = cond (!(validB (⟨x_a, x_b, x_k⟩ : N3) && validB (⟨y_a, y_b, y_k⟩ : N3))) (some (iv 0)) (cond (pk (⟨x_a, x_b, x_k⟩ : N3) (⟨y_a, y_b, y_k⟩ : N3) && (sB (subF (⟨x_a, x_b, x_k⟩ : N3) (⟨y_a, y_b, y_k⟩ : N3)).a && sB (subF (⟨x_a, x_b, x_k⟩ : N3) (⟨y_a, y_b, y_k⟩ : N3)).b)) (some (iv (sgF (subF (⟨x_a, x_b, x_k⟩ : N3) (⟨y_a, y_b, y_k⟩ : N3))))) none) from by kernel_rfl).trans ?_
  cases h1 : validB (⟨x_a, x_b, x_k⟩ : N3) with
  | false => rfl
  | true =>
    cases h2 : validB (⟨y_a, y_b, y_k⟩ : N3) with
    | false => rfl
    | true =>
      rw [(vpk h1 h2).1, cmp_ok h1 h2]
      rfl
theorem m9 : Meets Try.prog GL0 9 s9 := by
  refine meetsN mix0 gl0 G41 Try.func9 (by kernel_rfl) (by kernel_rfl) s9 fun args x h => ?_
  unfold s9 at h
  split at h
  · rename_i x_a x_b x_k y_a y_b y_k
    simp only [Option.some.injEq, Prod.mk.injEq] at h
    obtain ⟨hp, rfl⟩ := h
    exact ⟨_, _, by kernel_rfl, e9 x_a x_b x_k y_a y_b y_k⟩
  · cases h
abbrev Γ42 : List (Nat × Ctr) := (9, s9) :: Γ41
theorem G42 : Sound Try.prog GL0 Γ42 := G41.cons m9

-- impl.rootDown
def s37 : Ctr := fun
  | [.val (.int .i64 x)] => some (true, iv (rtF 21 x 0 1048576))
  | _ => none

theorem r37_step (K n : Nat) (x lo hi : Int) : runL Try.prog GL0 Γ42 K [true, false, false, true, true] Try.f37 0 (n + 1) (stL Try.f37.ntmps [iv (x), .non, .non, iv (lo), iv (hi)]) = cond (decide (lo < hi)) (cond (decide (wr (wr ((wr (wr (lo + hi) + 1)).tdiv 2) * wr ((wr (wr (lo + hi) + 1)).tdiv 2)) ≤ x)) (runL Try.prog GL0 Γ42 K [true, false, false, true, true] Try.f37 0 n (stL Try.f37.ntmps [iv (x), .non, .non, iv (wr ((wr (wr (lo + hi) + 1)).tdiv 2)), iv (hi)])) (runL Try.prog GL0 Γ42 K [true, false, false, true, true] Try.f37 0 n (stL Try.f37.ntmps [iv (x), .non, .non, iv (lo), iv (wr (wr ((wr (wr (lo + hi) + 1)).tdiv 2) - 1))]))) (some (iv lo)) := by kernel_rfl
theorem r37_run (K : Nat) : ∀ (f : Nat) (x lo hi : Int) (n : Nat), 0 ≤ lo → lo ≤ hi → hi ≤ 1048576 → hi - lo < 2 ^ f → f < n → runL Try.prog GL0 Γ42 K [true, false, false, true, true] Try.f37 0 n (stL Try.f37.ntmps [iv (x), .non, .non, iv (lo), iv (hi)]) = some (iv (rtF f x lo hi)) := by
  intro f
  induction f with
  | zero =>
    intro x lo hi n h0 h1 h2 h3 hn
    obtain ⟨n, rfl⟩ : ∃ n', n = n' + 1 := ⟨n - 1, by omega⟩
    rw [r37_step]
    have : decide (lo < hi) = false := by simp at h3 ⊢; omega
    rw [this]
    rfl
  | succ f ih =>
    intro x lo hi n h0 h1 h2 h3 hn
    obtain ⟨n, rfl⟩ : ∃ n', n = n' + 1 := ⟨n - 1, by omega⟩
    have hp : (2 : Int) ^ (f + 1) = 2 * 2 ^ f := by rw [Int.pow_succ]; omega
    rw [r37_step]
    unfold rtF
    by_cases hlt : lo < hi
    · rw [show decide (lo < hi) = true by simpa using hlt, if_pos hlt, cond_true]
      have em : wr ((wr (wr (lo + hi) + 1)).tdiv 2) = (lo + hi + 1) / 2 := by
        rw [wr_in (n := lo + hi) (by omega) (by omega), wr_in (n := lo + hi + 1) (by omega) (by omega), Int.tdiv_eq_ediv_of_nonneg (by omega), wr_in (by omega) (by omega)]
      rw [em]
      have hm : (lo + hi + 1) / 2 * ((lo + hi + 1) / 2) ≤ 1048576 * 1048576 := Int.mul_le_mul (by omega) (by omega) (by omega) (by decide)
      have hm0 : 0 ≤ (lo + hi + 1) / 2 * ((lo + hi + 1) / 2) := Int.mul_nonneg (by omega) (by omega)
      rw [wr_in (n := (lo + hi + 1) / 2 * ((lo + hi + 1) / 2)) (by omega) (by omega)]
      by_cases hx : (lo + hi + 1) / 2 * ((lo + hi + 1) / 2) ≤ x
      · rw [show decide ((lo + hi + 1) / 2 * ((lo + hi + 1) / 2) ≤ x) = true by simpa using hx, if_pos hx, cond_true]
        exact ih _ _ _ _ (by omega) (by omega) (by omega) (by omega) (by omega)
      · rw [show decide ((lo + hi + 1) / 2 * ((lo + hi + 1) / 2) ≤ x) = false by simpa using hx, if_neg hx, cond_false, wr_in (n := (lo + hi + 1) / 2 - 1) (by omega) (by omega)]
        exact ih _ _ _ _ (by omega) (by omega) (by omega) (by omega) (by omega)
    · rw [show decide (lo < hi) = false by simpa using hlt, if_neg hlt]
      rfl

theorem e37 (x : Int) : evN Try.prog GL0 Γ42 (22) [true, false, false, true, true]  Try.f37 [.val (.int .i64 x)] = some (iv (rtF 21 x 0 1048576)) := by
  exact (show _ = _ from by kernel_rfl).trans (r37_run 22 21 x 0 1048576 22 (by decide) (by decide) (by decide) (by decide) (by decide))
theorem m37 : Meets Try.prog GL0 37 s37 := by
  refine meetsN mix0 gl0 G42 Try.func37 (by kernel_rfl) (by kernel_rfl) s37 fun args x h => ?_
  unfold s37 at h
  split at h
  · rename_i x
    simp only [Option.some.injEq, Prod.mk.injEq] at h
    obtain ⟨hp, rfl⟩ := h
    exact ⟨_, _, by kernel_rfl, e37 x⟩
  · cases h
abbrev Γ43 : List (Nat × Ctr) := (37, s37) :: Γ42
theorem G43 : Sound Try.prog GL0 Γ43 := G42.cons m37

-- impl.FloorNum
def s12 : Ctr := fun
  | [.agg [.val (.int .i64 x_a), .val (.int .i64 x_b), .val (.int .i64 x_k)]] => some (true, iv (cond (validB (⟨x_a, x_b, x_k⟩ : N3)) (flF (⟨x_a, x_b, x_k⟩ : N3)) 0))
  | _ => none

theorem e12 (x_a : Int) (x_b : Int) (x_k : Int) : evN Try.prog GL0 Γ43 (0) []  Try.f12 [.agg [.val (.int .i64 x_a), .val (.int .i64 x_b), .val (.int .i64 x_k)]] = some (iv (cond (validB (⟨x_a, x_b, x_k⟩ : N3)) (flF (⟨x_a, x_b, x_k⟩ : N3)) 0)) := by
  refine (show _ = cond (!validB (⟨x_a, x_b, x_k⟩ : N3)) (some (iv 0)) (flT (⟨x_a, x_b, x_k⟩ : N3)) from by kernel_rfl).trans ?_
  cases h : validB (⟨x_a, x_b, x_k⟩ : N3) with
  | false => rfl
  | true => exact fl_tree h
theorem m12 : Meets Try.prog GL0 12 s12 := by
  refine meetsN mix0 gl0 G43 Try.func12 (by kernel_rfl) (by kernel_rfl) s12 fun args x h => ?_
  unfold s12 at h
  split at h
  · rename_i x_a x_b x_k
    simp only [Option.some.injEq, Prod.mk.injEq] at h
    obtain ⟨hp, rfl⟩ := h
    exact ⟨_, _, by kernel_rfl, e12 x_a x_b x_k⟩
  · cases h
abbrev Γ44 : List (Nat × Ctr) := (12, s12) :: Γ43
theorem G44 : Sound Try.prog GL0 Γ44 := G43.cons m12

-- laws.FnNumSigns
def s3 : Ctr := fun
  | [.arr b_n [.int .u8] b_c] => some (true, bv true)
  | _ => none

theorem r3_16 (x : N3) : fromR Try.prog GL0 Γ44 0 [] [(4, [false, false, false, true, true, true]), (7, [false, false, false, true, true, true]), (9, [false, false, false, true, true, true]), (12, [false, false, false, true, true, true]), (16, [false, false, false, true])] [] Try.f3 16 (stL Try.f3.ntmps [.non, .non, .non, .own 24 [iv x.a, iv x.b, iv x.k]]) = nsT5 x := by kernel_rfl
theorem r3_12 (x y z : N3) : fromR Try.prog GL0 Γ44 0 [] [(4, [false, false, false, true, true, true]), (7, [false, false, false, true, true, true]), (9, [false, false, false, true, true, true]), (12, [false, false, false, true, true, true]), (16, [false, false, false, true])] [] Try.f3 12 (stL Try.f3.ntmps [.non, .non, .non, .own 24 [iv x.a, iv x.b, iv x.k], .own 24 [iv y.a, iv y.b, iv y.k], .own 24 [iv z.a, iv z.b, iv z.k]]) = nsT4 x y z := by
  refine (show _ = cond (opb x z (addF x z)) (cond (opb y z (addF y z)) (cond (cmV (opn x z (addF x z)) (opn y z (addF y z)) != cmV x y) no (fromR Try.prog GL0 Γ44 0 [] [(4, [false, false, false, true, true, true]), (7, [false, false, false, true, true, true]), (9, [false, false, false, true, true, true]), (12, [false, false, false, true, true, true]), (16, [false, false, false, true])] [] Try.f3 16 (stL Try.f3.ntmps [.non, .non, .non, .own 24 [iv x.a, iv x.b, iv x.k]]))) (fromR Try.prog GL0 Γ44 0 [] [(4, [false, false, false, true, true, true]), (7, [false, false, false, true, true, true]), (9, [false, false, false, true, true, true]), (12, [false, false, false, true, true, true]), (16, [false, false, false, true])] [] Try.f3 16 (stL Try.f3.ntmps [.non, .non, .non, .own 24 [iv x.a, iv x.b, iv x.k]]))) (fromR Try.prog GL0 Γ44 0 [] [(4, [false, false, false, true, true, true]), (7, [false, false, false, true, true, true]), (9, [false, false, false, true, true, true]), (12, [false, false, false, true, true, true]), (16, [false, false, false, true])] [] Try.f3 16 (stL Try.f3.ntmps [.non, .non, .non, .own 24 [iv x.a, iv x.b, iv x.k]])) from by kernel_rfl).trans ?_
  rw [r3_16]
  rfl
theorem r3_9 (x y z : N3) : fromR Try.prog GL0 Γ44 0 [] [(4, [false, false, false, true, true, true]), (7, [false, false, false, true, true, true]), (9, [false, false, false, true, true, true]), (12, [false, false, false, true, true, true]), (16, [false, false, false, true])] [] Try.f3 9 (stL Try.f3.ntmps [.non, .non, .non, .own 24 [iv x.a, iv x.b, iv x.k], .own 24 [iv y.a, iv y.b, iv y.k], .own 24 [iv z.a, iv z.b, iv z.k]]) = nsT3 x y z := by
  refine (show _ = cond (opb x y (subF x y)) (cond (sgV (opn x y (subF x y)) != cmV x y) no (fromR Try.prog GL0 Γ44 0 [] [(4, [false, false, false, true, true, true]), (7, [false, false, false, true, true, true]), (9, [false, false, false, true, true, true]), (12, [false, false, false, true, true, true]), (16, [false, false, false, true])] [] Try.f3 12 (stL Try.f3.ntmps [.non, .non, .non, .own 24 [iv x.a, iv x.b, iv x.k], .own 24 [iv y.a, iv y.b, iv y.k], .own 24 [iv z.a, iv z.b, iv z.k]]))) (fromR Try.prog GL0 Γ44 0 [] [(4, [false, false, false, true, true, true]), (7, [false, false, false, true, true, true]), (9, [false, false, false, true, true, true]), (12, [false, false, false, true, true, true]), (16, [false, false, false, true])] [] Try.f3 12 (stL Try.f3.ntmps [.non, .non, .non, .own 24 [iv x.a, iv x.b, iv x.k], .own 24 [iv y.a, iv y.b, iv y.k], .own 24 [iv z.a, iv z.b, iv z.k]])) from by kernel_rfl).trans ?_
  rw [r3_12]
  rfl
theorem r3_7 (x y z : N3) : fromR Try.prog GL0 Γ44 0 [] [(4, [false, false, false, true, true, true]), (7, [false, false, false, true, true, true]), (9, [false, false, false, true, true, true]), (12, [false, false, false, true, true, true]), (16, [false, false, false, true])] [] Try.f3 7 (stL Try.f3.ntmps [.non, .non, .non, .own 24 [iv x.a, iv x.b, iv x.k], .own 24 [iv y.a, iv y.b, iv y.k], .own 24 [iv z.a, iv z.b, iv z.k]]) = nsT2 x y z := by
  refine (show _ = cond (cmV x y != wr (0 - cmV y x)) no (cond (cmV x x != 0) no (cond (cmV x y == 0) (cond (!eqN x y) no (fromR Try.prog GL0 Γ44 0 [] [(4, [false, false, false, true, true, true]), (7, [false, false, false, true, true, true]), (9, [false, false, false, true, true, true]), (12, [false, false, false, true, true, true]), (16, [false, false, false, true])] [] Try.f3 9 (stL Try.f3.ntmps [.non, .non, .non, .own 24 [iv x.a, iv x.b, iv x.k], .own 24 [iv y.a, iv y.b, iv y.k], .own 24 [iv z.a, iv z.b, iv z.k]]))) (fromR Try.prog GL0 Γ44 0 [] [(4, [false, false, false, true, true, true]), (7, [false, false, false, true, true, true]), (9, [false, false, false, true, true, true]), (12, [false, false, false, true, true, true]), (16, [false, false, false, true])] [] Try.f3 9 (stL Try.f3.ntmps [.non, .non, .non, .own 24 [iv x.a, iv x.b, iv x.k], .own 24 [iv y.a, iv y.b, iv y.k], .own 24 [iv z.a, iv z.b, iv z.k]])))) from by kernel_rfl).trans ?_
  rw [r3_9]
  rfl
theorem r3_4 (x y z : N3) : fromR Try.prog GL0 Γ44 0 [] [(4, [false, false, false, true, true, true]), (7, [false, false, false, true, true, true]), (9, [false, false, false, true, true, true]), (12, [false, false, false, true, true, true]), (16, [false, false, false, true])] [] Try.f3 4 (stL Try.f3.ntmps [.non, .non, .non, .own 24 [iv x.a, iv x.b, iv x.k], .own 24 [iv y.a, iv y.b, iv y.k], .own 24 [iv z.a, iv z.b, iv z.k]]) = nsT1 x y z := by
  refine (show _ = cond (opb x y (mulF x y)) (cond (sgV (opn x y (mulF x y)) != wr (sgV x * sgV y)) no (fromR Try.prog GL0 Γ44 0 [] [(4, [false, false, false, true, true, true]), (7, [false, false, false, true, true, true]), (9, [false, false, false, true, true, true]), (12, [false, false, false, true, true, true]), (16, [false, false, false, true])] [] Try.f3 7 (stL Try.f3.ntmps [.non, .non, .non, .own 24 [iv x.a, iv x.b, iv x.k], .own 24 [iv y.a, iv y.b, iv y.k], .own 24 [iv z.a, iv z.b, iv z.k]]))) (fromR Try.prog GL0 Γ44 0 [] [(4, [false, false, false, true, true, true]), (7, [false, false, false, true, true, true]), (9, [false, false, false, true, true, true]), (12, [false, false, false, true, true, true]), (16, [false, false, false, true])] [] Try.f3 7 (stL Try.f3.ntmps [.non, .non, .non, .own 24 [iv x.a, iv x.b, iv x.k], .own 24 [iv y.a, iv y.b, iv y.k], .own 24 [iv z.a, iv z.b, iv z.k]])) from by kernel_rfl).trans ?_
  rw [r3_7]
  rfl

theorem e3 (b_n : Nat) (b_c : Nat → Nat → Int) : evM Try.prog GL0 Γ44 (0) [] [(4, [false, false, false, true, true, true]), (7, [false, false, false, true, true, true]), (9, [false, false, false, true, true, true]), (12, [false, false, false, true, true, true]), (16, [false, false, false, true])] Try.f3 [.arr b_n [.int .u8] b_c] = some (bv true) := by
  obtain ⟨⟨hx, hy, hz⟩, _⟩ := e8_ok (s := (srcOf b_n b_c)) rfl
  refine (show _ = cond (decide ((b_n : Int) > 1048576)) (some (bv true)) (fromR Try.prog GL0 Γ44 0 [] [(4, [false, false, false, true, true, true]), (7, [false, false, false, true, true, true]), (9, [false, false, false, true, true, true]), (12, [false, false, false, true, true, true]), (16, [false, false, false, true])] [] Try.f3 4 (stL Try.f3.ntmps [.non, .non, .non, .own 24 [iv (e8x (srcOf b_n b_c)).a, iv (e8x (srcOf b_n b_c)).b, iv (e8x (srcOf b_n b_c)).k], .own 24 [iv (e8y (srcOf b_n b_c)).a, iv (e8y (srcOf b_n b_c)).b, iv (e8y (srcOf b_n b_c)).k], .own 24 [iv (e8z (srcOf b_n b_c)).a, iv (e8z (srcOf b_n b_c)).b, iv (e8z (srcOf b_n b_c)).k]])) from by kernel_rfl).trans ?_
  rw [r3_4, ns_ok hx hy hz]
  cases decide ((b_n : Int) > 1048576) <;> rfl
theorem m3 : Meets Try.prog GL0 3 s3 := by
  refine meetsM mix0 gl0 G44 Try.func3 (by kernel_rfl) (by kernel_rfl) s3 fun args x h => ?_
  unfold s3 at h
  split at h
  · rename_i b_n b_c
    simp only [Option.some.injEq, Prod.mk.injEq] at h
    obtain ⟨hp, rfl⟩ := h
    exact ⟨_, _, _, by kernel_rfl, e3 b_n b_c⟩
  · cases h
abbrev Γ45 : List (Nat × Ctr) := (3, s3) :: Γ44
theorem G45 : Sound Try.prog GL0 Γ45 := G44.cons m3

end Go.Proofs.Ytigmgpblnoecpaa
