/- Contracts of the program's functions, by the evaluator. -/
import Derived.Test.YtooikeeckoflpaaDoorC1
import Derived.Test.YtooikeeckoflpaaDoorPlC
namespace Go.Proofs.YtooikeeckoflpaaDoor
open Go.Ev
set_option linter.unusedVariables false
set_option linter.unusedSimpArgs false
set_option maxRecDepth 100000

-- impl.abs
def s124 : Ctr := fun
  | [.val (.int .i64 x)] => some (true, iv (absV x))
  | _ => none

theorem e124 (x : Int) : evN Tryd.prog GLv Γ46 (0) []  Tryd.f124 [.val (.int .i64 x)] = some (iv (absV x)) := by
  kernel_rfl
theorem m124 : Meets Tryd.prog GLv 124 s124 := by
  refine meetsN mix0 glv G46 Tryd.func124 (by kernel_rfl) (by kernel_rfl) s124 fun args x h => ?_
  unfold s124 at h
  split at h
  · rename_i x
    simp only [Option.some.injEq, Prod.mk.injEq] at h
    obtain ⟨hp, rfl⟩ := h
    exact ⟨_, _, by kernel_rfl, e124 x⟩
  · cases h
abbrev Γ47 : List (Nat × Ctr) := (124, s124) :: Γ46
theorem G47 : Sound Tryd.prog GLv Γ47 := G46.cons m124

-- impl.signOf
def s119 : Ctr := fun
  | [.val (.int .i64 x)] => some (true, iv x.sign)
  | _ => none

theorem e119 (x : Int) : evN Tryd.prog GLv Γ47 (0) []  Tryd.f119 [.val (.int .i64 x)] = some (iv x.sign) := by
  refine (show _ = some (iv (if (if x < 1 then x else 1) > -1 then if x < 1 then x else 1 else -1)) from by kernel_rfl).trans ?_
  rw [sign_gmax]
theorem m119 : Meets Tryd.prog GLv 119 s119 := by
  refine meetsN mix0 glv G47 Tryd.func119 (by kernel_rfl) (by kernel_rfl) s119 fun args x h => ?_
  unfold s119 at h
  split at h
  · rename_i x
    simp only [Option.some.injEq, Prod.mk.injEq] at h
    obtain ⟨hp, rfl⟩ := h
    exact ⟨_, _, by kernel_rfl, e119 x⟩
  · cases h
abbrev Γ48 : List (Nat × Ctr) := (119, s119) :: Γ47
theorem G48 : Sound Tryd.prog GLv Γ48 := G47.cons m119

-- math/bits.Mul64
def s123 : Ctr := fun
  | [.val (.int .u64 x), .val (.int .u64 y)] => some ((decide (0 ≤ x) && decide (x < 2147483648)) && (decide (0 ≤ y) && decide (y < 2147483648)), .tup [.val (.int .u64 0), .val (.int .u64 (x * y))])
  | _ => none

theorem e123 (x : Int) (y : Int) (hp : ((decide (0 ≤ x) && decide (x < 2147483648)) && (decide (0 ≤ y) && decide (y < 2147483648))) = true) : evN Tryd.prog GLv Γ48 (0) []  Tryd.f123 [.val (.int .u64 x), .val (.int .u64 y)] = some (.tup [.val (.int .u64 0), .val (.int .u64 (x * y))]) := by
  refine (show _ = some ((.tup [.val (.int .u64 (IntKind.u64.wrap (IntKind.u64.wrap (IntKind.u64.wrap (x.fdiv (2 ^ min (Int.toNat 32) 64) * y.fdiv (2 ^ min (Int.toNat 32) 64)) + (IntKind.u64.wrap (IntKind.u64.wrap (x.fdiv (2 ^ min (Int.toNat 32) 64) * IntKind.u64.wrap ↑(BitVec.ofInt 64 y &&& BitVec.ofInt 64 4294967295).toNat) + (IntKind.u64.wrap (IntKind.u64.wrap ↑(BitVec.ofInt 64 x &&& BitVec.ofInt 64 4294967295).toNat * IntKind.u64.wrap ↑(BitVec.ofInt 64 y &&& BitVec.ofInt 64 4294967295).toNat)).fdiv (2 ^ min (Int.toNat 32) 64))).fdiv (2 ^ min (Int.toNat 32) 64)) + (IntKind.u64.wrap (IntKind.u64.wrap ↑(BitVec.ofInt 64 (IntKind.u64.wrap (IntKind.u64.wrap (x.fdiv (2 ^ min (Int.toNat 32) 64) * IntKind.u64.wrap ↑(BitVec.ofInt 64 y &&& BitVec.ofInt 64 4294967295).toNat) + (IntKind.u64.wrap (IntKind.u64.wrap ↑(BitVec.ofInt 64 x &&& BitVec.ofInt 64 4294967295).toNat * IntKind.u64.wrap ↑(BitVec.ofInt 64 y &&& BitVec.ofInt 64 4294967295).toNat)).fdiv (2 ^ min (Int.toNat 32) 64))) &&& BitVec.ofInt 64 4294967295).toNat + IntKind.u64.wrap (IntKind.u64.wrap ↑(BitVec.ofInt 64 x &&& BitVec.ofInt 64 4294967295).toNat * y.fdiv (2 ^ min (Int.toNat 32) 64)))).fdiv (2 ^ min (Int.toNat 32) 64)))), .val (.int .u64 (IntKind.u64.wrap (x * y)))])) from by kernel_rfl).trans ?_
  simp only [Bool.and_eq_true, decide_eq_true_eq] at hp
  obtain ⟨⟨h1, h2⟩, h3, h4⟩ := hp
  obtain ⟨e1, e2⟩ := mul64_small h1 h2 h3 h4
  rw [e1, e2]
theorem m123 : Meets Tryd.prog GLv 123 s123 := by
  refine meetsN mix0 glv G48 Tryd.func123 (by kernel_rfl) (by kernel_rfl) s123 fun args x h => ?_
  unfold s123 at h
  split at h
  · rename_i x y
    simp only [Option.some.injEq, Prod.mk.injEq] at h
    obtain ⟨hp, rfl⟩ := h
    exact ⟨_, _, by kernel_rfl, e123 x y hp⟩
  · cases h
abbrev Γ49 : List (Nat × Ctr) := (123, s123) :: Γ48
theorem G49 : Sound Tryd.prog GLv Γ49 := G48.cons m123

-- impl.isGreater
def s120 : Ctr := fun
  | [.val (.int .i64 x), .val (.int .i64 y)] => some (sB x && sB y, bv (decide (x * x > 2 * (y * y))))
  | _ => none

theorem e120 (x : Int) (y : Int) (hp : (sB x && sB y) = true) : evN Tryd.prog GLv Γ49 (0) []  Tryd.f120 [.val (.int .i64 x), .val (.int .i64 y)] = some (bv (decide (x * x > 2 * (y * y)))) := by
  refine (show _ = cond (decide (0 ≤ IntKind.u64.wrap (absV x)) && decide (IntKind.u64.wrap (absV x) < 2147483648) && (decide (0 ≤ IntKind.u64.wrap (absV x)) && decide (IntKind.u64.wrap (absV x) < 2147483648))) ( cond (decide (0 ≤ IntKind.u64.wrap (absV y)) && decide (IntKind.u64.wrap (absV y) < 2147483648) && (decide (0 ≤ IntKind.u64.wrap (absV y)) && decide (IntKind.u64.wrap (absV y) < 2147483648))) ( cond (0 == IntKind.u64.wrap ↑(BitVec.ofInt 64 (IntKind.u64.wrap (0 * 2 ^ min (Int.toNat 1) 64)) ||| BitVec.ofInt 64 ((IntKind.u64.wrap (absV y) * IntKind.u64.wrap (absV y)).fdiv (2 ^ min (Int.toNat 63) 64))).toNat) ( some (bv (decide (IntKind.u64.wrap (absV x) * IntKind.u64.wrap (absV x) > IntKind.u64.wrap (IntKind.u64.wrap (absV y) * IntKind.u64.wrap (absV y) * 2 ^ min (Int.toNat 1) IntKind.u64.bits)))) ) ( some (bv (false)) ) ) ( none ) ) ( none ) from by kernel_rfl).trans ?_
  rw [Bool.and_eq_true] at hp
  obtain ⟨a1, a2, _⟩ := abs_u hp.1
  obtain ⟨b1, b2, _⟩ := abs_u hp.2
  rw [a1, b1, a2, b2, hi_zero hp.2, gt_eq hp.1 hp.2]
  rfl
theorem m120 : Meets Tryd.prog GLv 120 s120 := by
  refine meetsN mix0 glv G49 Tryd.func120 (by kernel_rfl) (by kernel_rfl) s120 fun args x h => ?_
  unfold s120 at h
  split at h
  · rename_i x y
    simp only [Option.some.injEq, Prod.mk.injEq] at h
    obtain ⟨hp, rfl⟩ := h
    exact ⟨_, _, by kernel_rfl, e120 x y hp⟩
  · cases h
abbrev Γ50 : List (Nat × Ctr) := (120, s120) :: Γ49
theorem G50 : Sound Tryd.prog GLv Γ50 := G49.cons m120

-- (impl.Num).sign
def s104 : Ctr := fun
  | [.agg [.val (.int .i64 x_a), .val (.int .i64 x_b), .val (.int .i64 x_k)]] => some (sB x_a && sB x_b, iv (sgF (⟨x_a, x_b, x_k⟩ : N3)))
  | _ => none

theorem e104 (x_a : Int) (x_b : Int) (x_k : Int) (hp : (sB x_a && sB x_b) = true) : evN Tryd.prog GLv Γ50 (0) []  Tryd.f104 [.agg [.val (.int .i64 x_a), .val (.int .i64 x_b), .val (.int .i64 x_k)]] = some (iv (sgF (⟨x_a, x_b, x_k⟩ : N3))) := by
  refine (show _ = cond (x_a.sign == x_b.sign) (some (iv x_a.sign)) (cond (x_b.sign == 0) (some (iv x_a.sign)) (cond (x_a.sign == 0) (some (iv x_b.sign)) (cond (sB x_a && sB x_b) (cond (!decide (x_a * x_a > 2 * (x_b * x_b))) (some (iv x_b.sign)) (some (iv x_a.sign))) none))) from by kernel_rfl).trans ?_
  rw [hp, ← sgF_alt]
  cases x_a.sign == x_b.sign <;> cases x_b.sign == 0 <;> cases x_a.sign == 0 <;> cases decide (x_a * x_a > 2 * (x_b * x_b)) <;> rfl
theorem m104 : Meets Tryd.prog GLv 104 s104 := by
  refine meetsN mix0 glv G50 Tryd.func104 (by kernel_rfl) (by kernel_rfl) s104 fun args x h => ?_
  unfold s104 at h
  split at h
  · rename_i x_a x_b x_k
    simp only [Option.some.injEq, Prod.mk.injEq] at h
    obtain ⟨hp, rfl⟩ := h
    exact ⟨_, _, by kernel_rfl, e104 x_a x_b x_k hp⟩
  · cases h
abbrev Γ51 : List (Nat × Ctr) := (104, s104) :: Γ50
theorem G51 : Sound Tryd.prog GLv Γ51 := G50.cons m104

-- (impl.Num).compare
def s114 : Ctr := fun
  | [.agg [.val (.int .i64 x_a), .val (.int .i64 x_b), .val (.int .i64 x_k)], .agg [.val (.int .i64 y_a), .val (.int .i64 y_b), .val (.int .i64 y_k)]] => some (pk (⟨x_a, x_b, x_k⟩ : N3) (⟨y_a, y_b, y_k⟩ : N3) && (sB (subF (⟨x_a, x_b, x_k⟩ : N3) (⟨y_a, y_b, y_k⟩ : N3)).a && sB (subF (⟨x_a, x_b, x_k⟩ : N3) (⟨y_a, y_b, y_k⟩ : N3)).b), iv (sgF (subF (⟨x_a, x_b, x_k⟩ : N3) (⟨y_a, y_b, y_k⟩ : N3))))
  | _ => none

theorem e114 (x_a : Int) (x_b : Int) (x_k : Int) (y_a : Int) (y_b : Int) (y_k : Int) (hp : (pk (⟨x_a, x_b, x_k⟩ : N3) (⟨y_a, y_b, y_k⟩ : N3) && (sB (subF (⟨x_a, x_b, x_k⟩ : N3) (⟨y_a, y_b, y_k⟩ : N3)).a && sB (subF (⟨x_a, x_b, x_k⟩ : N3) (⟨y_a, y_b, y_k⟩ : N3)).b)) = true) : evN Tryd.prog GLv Γ51 (0) []  Tryd.f114 [.agg [.val (.int .i64 x_a), .val (.int .i64 x_b), .val (.int .i64 x_k)], .agg [.val (.int .i64 y_a), .val (.int .i64 y_b), .val (.int .i64 y_k)]] = some (iv (sgF (subF (⟨x_a, x_b, x_k⟩ : N3) (⟨y_a, y_b, y_k⟩ : N3)))) := by
  rw [Bool.and_eq_true] at hp
  refine (show _ = cond (pk (⟨x_a, x_b, x_k⟩ : N3) (⟨y_a, y_b, y_k⟩ : N3)) (cond (sB (subF (⟨x_a, x_b, x_k⟩ : N3) (⟨y_a, y_b, y_k⟩ : N3)).a && sB (subF (⟨x_a, x_b, x_k⟩ : N3) (⟨y_a, y_b, y_k⟩ : N3)).b) (some (iv (sgF (subF (⟨x_a, x_b, x_k⟩ : N3) (⟨y_a, y_b, y_k⟩ : N3))))) none) none from by kernel_rfl).trans ?_
  rw [hp.1, hp.2]
  rfl
theorem m114 : Meets Tryd.prog GLv 114 s114 := by
  refine meetsN mix0 glv G51 Tryd.func114 (by kernel_rfl) (by kernel_rfl) s114 fun args x h => ?_
  unfold s114 at h
  split at h
  · rename_i x_a x_b x_k y_a y_b y_k
    simp only [Option.some.injEq, Prod.mk.injEq] at h
    obtain ⟨hp, rfl⟩ := h
    exact ⟨_, _, by kernel_rfl, e114 x_a x_b x_k y_a y_b y_k hp⟩
  · cases h
abbrev Γ52 : List (Nat × Ctr) := (114, s114) :: Γ51
theorem G52 : Sound Tryd.prog GLv Γ52 := G51.cons m114

-- impl.direction
def s88 : Ctr := fun
  | [.agg [.val (.int .i64 p_xa), .val (.int .i64 p_xb), .val (.int .i64 p_xk), .val (.int .i64 p_ya), .val (.int .i64 p_yb), .val (.int .i64 p_yk)], .agg [.val (.int .i64 q_xa), .val (.int .i64 q_xb), .val (.int .i64 q_xk), .val (.int .i64 q_ya), .val (.int .i64 q_yb), .val (.int .i64 q_yk)]] => some (valP (⟨⟨p_xa, p_xb, p_xk⟩, ⟨p_ya, p_yb, p_yk⟩⟩ : P2) && valP (⟨⟨q_xa, q_xb, q_xk⟩, ⟨q_ya, q_yb, q_yk⟩⟩ : P2), iv (dirV (⟨⟨p_xa, p_xb, p_xk⟩, ⟨p_ya, p_yb, p_yk⟩⟩ : P2) (⟨⟨q_xa, q_xb, q_xk⟩, ⟨q_ya, q_yb, q_yk⟩⟩ : P2)))
  | _ => none

theorem r88_step (K n : Nat) (d : Int) (w : P2) : runL Tryd.prog GLv Γ52 K [false, false, false, false, false, true, false, false, false, false, false, true] Tryd.f88 0 (n + 1) (stL Tryd.f88.ntmps [.non, .non, .non, .non, .non, .own 62 [iv w.x.a, iv w.x.b, iv w.x.k, iv w.y.a, iv w.y.b, iv w.y.k], .non, .non, .non, .non, .non, iv (d)]) = cond (decide (d < 16)) (cond (inB d 0 15) (cond (pkC (vecP d) w) (cond (eqN (crsF (vecP d) w) z3)
    (cond (pkD (vecP d) w) (cond (sB (dotF (vecP d) w).a && sB (dotF (vecP d) w).b) (cond (decide (sgF (dotF (vecP d) w) > 0)) (some (iv d)) (runL Tryd.prog GLv Γ52 K [false, false, false, false, false, true, false, false, false, false, false, true] Tryd.f88 0 n (stL Tryd.f88.ntmps [.non, .non, .non, .non, .non, .own 62 [iv w.x.a, iv w.x.b, iv w.x.k, iv w.y.a, iv w.y.b, iv w.y.k], .non, .non, .non, .non, .non, iv (wr (d + 1))]))) none) none) (runL Tryd.prog GLv Γ52 K [false, false, false, false, false, true, false, false, false, false, false, true] Tryd.f88 0 n (stL Tryd.f88.ntmps [.non, .non, .non, .non, .non, .own 62 [iv w.x.a, iv w.x.b, iv w.x.k, iv w.y.a, iv w.y.b, iv w.y.k], .non, .non, .non, .non, .non, iv (wr (d + 1))]))) none) none) (some (iv (-1))) := by kernel_rfl
theorem r88_run (K : Nat) (w : P2) (v : V4) (hw : Go.Ev.Way w v) : ∀ (n : Nat) (d : Int) (m : Nat), 0 ≤ d → d + n = 16 → n < m → runL Tryd.prog GLv Γ52 K [false, false, false, false, false, true, false, false, false, false, false, true] Tryd.f88 0 m (stL Tryd.f88.ntmps [.non, .non, .non, .non, .non, .own 62 [iv w.x.a, iv w.x.b, iv w.x.k, iv w.y.a, iv w.y.b, iv w.y.k], .non, .non, .non, .non, .non, iv (d)]) = some (iv (dirF n d w)) := by
  intro n
  induction n with
  | zero =>
    intro d m h0 h1 hm
    obtain ⟨m, rfl⟩ : ∃ m', m = m' + 1 := ⟨m - 1, by omega⟩
    rw [r88_step, show decide (d < 16) = false by simp; omega]
    rfl
  | succ n ih =>
    intro d m h0 h1 hm
    obtain ⟨m, rfl⟩ : ∃ m', m = m' + 1 := ⟨m - 1, by omega⟩
    have hd : inB d 0 15 = true := inB_iff.2 (by omega)
    obtain ⟨k1, k2, k3, _, _⟩ := way_ok hd hw
    rw [r88_step, show decide (d < 16) = true by simp; omega, hd, k1, k2, k3, wr_in (n := d + 1) (by omega) (by omega), ih (d + 1) m (by omega) (by omega) (by omega)]
    rw [dirF_succ]
    cases eqN (crsF (vecP d) w) z3 <;> cases decide (sgF (dotF (vecP d) w) > 0) <;> rfl

theorem e88 (p_xa : Int) (p_xb : Int) (p_xk : Int) (p_ya : Int) (p_yb : Int) (p_yk : Int) (q_xa : Int) (q_xb : Int) (q_xk : Int) (q_ya : Int) (q_yb : Int) (q_yk : Int) (hp : (valP (⟨⟨p_xa, p_xb, p_xk⟩, ⟨p_ya, p_yb, p_yk⟩⟩ : P2) && valP (⟨⟨q_xa, q_xb, q_xk⟩, ⟨q_ya, q_yb, q_yk⟩⟩ : P2)) = true) : evN Tryd.prog GLv Γ52 (17) [false, false, false, false, false, true, false, false, false, false, false, true]  Tryd.f88 [.agg [.val (.int .i64 p_xa), .val (.int .i64 p_xb), .val (.int .i64 p_xk), .val (.int .i64 p_ya), .val (.int .i64 p_yb), .val (.int .i64 p_yk)], .agg [.val (.int .i64 q_xa), .val (.int .i64 q_xb), .val (.int .i64 q_xk), .val (.int .i64 q_ya), .val (.int .i64 q_yb), .val (.int .i64 q_yk)]] = some (iv (dirV (⟨⟨p_xa, p_xb, p_xk⟩, ⟨p_ya, p_yb, p_yk⟩⟩ : P2) (⟨⟨q_xa, q_xb, q_xk⟩, ⟨q_ya, q_yb, q_yk⟩⟩ : P2))) := by
  rw [Bool.and_eq_true] at hp
  obtain ⟨v, u, _, _, hw, hk⟩ := way_of hp.1 hp.2
  refine (show _ = cond (pkP (⟨⟨q_xa, q_xb, q_xk⟩, ⟨q_ya, q_yb, q_yk⟩⟩ : P2) (⟨⟨p_xa, p_xb, p_xk⟩, ⟨p_ya, p_yb, p_yk⟩⟩ : P2)) (runL Tryd.prog GLv Γ52 17 [false, false, false, false, false, true, false, false, false, false, false, true] Tryd.f88 0 17 (stL Tryd.f88.ntmps [.non, .non, .non, .non, .non, .own 62 [iv (subP (⟨⟨q_xa, q_xb, q_xk⟩, ⟨q_ya, q_yb, q_yk⟩⟩ : P2) (⟨⟨p_xa, p_xb, p_xk⟩, ⟨p_ya, p_yb, p_yk⟩⟩ : P2)).x.a, iv (subP (⟨⟨q_xa, q_xb, q_xk⟩, ⟨q_ya, q_yb, q_yk⟩⟩ : P2) (⟨⟨p_xa, p_xb, p_xk⟩, ⟨p_ya, p_yb, p_yk⟩⟩ : P2)).x.b, iv (subP (⟨⟨q_xa, q_xb, q_xk⟩, ⟨q_ya, q_yb, q_yk⟩⟩ : P2) (⟨⟨p_xa, p_xb, p_xk⟩, ⟨p_ya, p_yb, p_yk⟩⟩ : P2)).x.k, iv (subP (⟨⟨q_xa, q_xb, q_xk⟩, ⟨q_ya, q_yb, q_yk⟩⟩ : P2) (⟨⟨p_xa, p_xb, p_xk⟩, ⟨p_ya, p_yb, p_yk⟩⟩ : P2)).y.a, iv (subP (⟨⟨q_xa, q_xb, q_xk⟩, ⟨q_ya, q_yb, q_yk⟩⟩ : P2) (⟨⟨p_xa, p_xb, p_xk⟩, ⟨p_ya, p_yb, p_yk⟩⟩ : P2)).y.b, iv (subP (⟨⟨q_xa, q_xb, q_xk⟩, ⟨q_ya, q_yb, q_yk⟩⟩ : P2) (⟨⟨p_xa, p_xb, p_xk⟩, ⟨p_ya, p_yb, p_yk⟩⟩ : P2)).y.k], .non, .non, .non, .non, .non, iv (0)])) none from by kernel_rfl).trans ?_
  rw [hk, cond_true, r88_run 17 (subP (⟨⟨q_xa, q_xb, q_xk⟩, ⟨q_ya, q_yb, q_yk⟩⟩ : P2) (⟨⟨p_xa, p_xb, p_xk⟩, ⟨p_ya, p_yb, p_yk⟩⟩ : P2)) _ hw 16 0 17 (by decide) (by decide) (by decide)]
  rfl
theorem m88 : Meets Tryd.prog GLv 88 s88 := by
  refine meetsN mix0 glv G52 Tryd.func88 (by kernel_rfl) (by kernel_rfl) s88 fun args x h => ?_
  unfold s88 at h
  split at h
  · rename_i p_xa p_xb p_xk p_ya p_yb p_yk q_xa q_xb q_xk q_ya q_yb q_yk
    simp only [Option.some.injEq, Prod.mk.injEq] at h
    obtain ⟨hp, rfl⟩ := h
    exact ⟨_, _, by kernel_rfl, e88 p_xa p_xb p_xk p_ya p_yb p_yk q_xa q_xb q_xk q_ya q_yb q_yk hp⟩
  · cases h
abbrev Γ53 : List (Nat × Ctr) := (88, s88) :: Γ52
theorem G53 : Sound Tryd.prog GLv Γ53 := G52.cons m88

-- (impl.Line).side
def s76 : Ctr := fun
  | [.agg [.val (.int .i64 l_d), .val (.int .i64 l_a), .val (.int .i64 l_b), .val (.int .i64 l_k)], .agg [.val (.int .i64 p_xa), .val (.int .i64 p_xb), .val (.int .i64 p_xk), .val (.int .i64 p_ya), .val (.int .i64 p_yb), .val (.int .i64 p_yk)]] => some ((inB (wr (l_d + 4)) 0 15) && ((pkD (nrm l_d) (⟨⟨p_xa, p_xb, p_xk⟩, ⟨p_ya, p_yb, p_yk⟩⟩ : P2)) && ((pk (dotF (nrm l_d) (⟨⟨p_xa, p_xb, p_xk⟩, ⟨p_ya, p_yb, p_yk⟩⟩ : P2)) (⟨l_a, l_b, l_k⟩ : N3)) && (sB (subF (dotF (nrm l_d) (⟨⟨p_xa, p_xb, p_xk⟩, ⟨p_ya, p_yb, p_yk⟩⟩ : P2)) (⟨l_a, l_b, l_k⟩ : N3)).a && sB (subF (dotF (nrm l_d) (⟨⟨p_xa, p_xb, p_xk⟩, ⟨p_ya, p_yb, p_yk⟩⟩ : P2)) (⟨l_a, l_b, l_k⟩ : N3)).b))), iv (sgF (subF (dotF (nrm l_d) (⟨⟨p_xa, p_xb, p_xk⟩, ⟨p_ya, p_yb, p_yk⟩⟩ : P2)) (⟨l_a, l_b, l_k⟩ : N3))))
  | _ => none

theorem e76 (l_d : Int) (l_a : Int) (l_b : Int) (l_k : Int) (p_xa : Int) (p_xb : Int) (p_xk : Int) (p_ya : Int) (p_yb : Int) (p_yk : Int) (hp : ((inB (wr (l_d + 4)) 0 15) && ((pkD (nrm l_d) (⟨⟨p_xa, p_xb, p_xk⟩, ⟨p_ya, p_yb, p_yk⟩⟩ : P2)) && ((pk (dotF (nrm l_d) (⟨⟨p_xa, p_xb, p_xk⟩, ⟨p_ya, p_yb, p_yk⟩⟩ : P2)) (⟨l_a, l_b, l_k⟩ : N3)) && (sB (subF (dotF (nrm l_d) (⟨⟨p_xa, p_xb, p_xk⟩, ⟨p_ya, p_yb, p_yk⟩⟩ : P2)) (⟨l_a, l_b, l_k⟩ : N3)).a && sB (subF (dotF (nrm l_d) (⟨⟨p_xa, p_xb, p_xk⟩, ⟨p_ya, p_yb, p_yk⟩⟩ : P2)) (⟨l_a, l_b, l_k⟩ : N3)).b)))) = true) : evN Tryd.prog GLv Γ53 (0) []  Tryd.f76 [.agg [.val (.int .i64 l_d), .val (.int .i64 l_a), .val (.int .i64 l_b), .val (.int .i64 l_k)], .agg [.val (.int .i64 p_xa), .val (.int .i64 p_xb), .val (.int .i64 p_xk), .val (.int .i64 p_ya), .val (.int .i64 p_yb), .val (.int .i64 p_yk)]] = some (iv (sgF (subF (dotF (nrm l_d) (⟨⟨p_xa, p_xb, p_xk⟩, ⟨p_ya, p_yb, p_yk⟩⟩ : P2)) (⟨l_a, l_b, l_k⟩ : N3)))) := by
  simp only [Bool.and_eq_true] at hp
  obtain ⟨h1, h2, h3, h4, h5⟩ := hp
  refine (show _ = cond (inB (wr (l_d + 4)) 0 15) (cond (pkD (nrm l_d) (⟨⟨p_xa, p_xb, p_xk⟩, ⟨p_ya, p_yb, p_yk⟩⟩ : P2)) (cond (pk (dotF (nrm l_d) (⟨⟨p_xa, p_xb, p_xk⟩, ⟨p_ya, p_yb, p_yk⟩⟩ : P2)) (⟨l_a, l_b, l_k⟩ : N3)) (cond (sB (subF (dotF (nrm l_d) (⟨⟨p_xa, p_xb, p_xk⟩, ⟨p_ya, p_yb, p_yk⟩⟩ : P2)) (⟨l_a, l_b, l_k⟩ : N3)).a && sB (subF (dotF (nrm l_d) (⟨⟨p_xa, p_xb, p_xk⟩, ⟨p_ya, p_yb, p_yk⟩⟩ : P2)) (⟨l_a, l_b, l_k⟩ : N3)).b) (some (iv (sgF (subF (dotF (nrm l_d) (⟨⟨p_xa, p_xb, p_xk⟩, ⟨p_ya, p_yb, p_yk⟩⟩ : P2)) (⟨l_a, l_b, l_k⟩ : N3))))) none) none) none) none from by kernel_rfl).trans ?_
  rw [h1, h2, h3, h4, h5]
  rfl
theorem m76 : Meets Tryd.prog GLv 76 s76 := by
  refine meetsN mix0 glv G53 Tryd.func76 (by kernel_rfl) (by kernel_rfl) s76 fun args x h => ?_
  unfold s76 at h
  split at h
  · rename_i l_d l_a l_b l_k p_xa p_xb p_xk p_ya p_yb p_yk
    simp only [Option.some.injEq, Prod.mk.injEq] at h
    obtain ⟨hp, rfl⟩ := h
    exact ⟨_, _, by kernel_rfl, e76 l_d l_a l_b l_k p_xa p_xb p_xk p_ya p_yb p_yk hp⟩
  · cases h
abbrev Γ54 : List (Nat × Ctr) := (76, s76) :: Γ53
theorem G54 : Sound Tryd.prog GLv Γ54 := G53.cons m76

-- impl.lineAt
def s105 : Ctr := fun
  | [.agg [.val (.int .i64 p_xa), .val (.int .i64 p_xb), .val (.int .i64 p_xk), .val (.int .i64 p_ya), .val (.int .i64 p_yb), .val (.int .i64 p_yk)], .val (.int .i64 d)] => some (inB (wr (d + 4)) 0 15 && pkD (nrm d) (⟨⟨p_xa, p_xb, p_xk⟩, ⟨p_ya, p_yb, p_yk⟩⟩ : P2), (⟨d, offV d (⟨⟨p_xa, p_xb, p_xk⟩, ⟨p_ya, p_yb, p_yk⟩⟩ : P2)⟩ : Ln).av)
  | _ => none

theorem e105 (p_xa : Int) (p_xb : Int) (p_xk : Int) (p_ya : Int) (p_yb : Int) (p_yk : Int) (d : Int) (hp : (inB (wr (d + 4)) 0 15 && pkD (nrm d) (⟨⟨p_xa, p_xb, p_xk⟩, ⟨p_ya, p_yb, p_yk⟩⟩ : P2)) = true) : evN Tryd.prog GLv Γ54 (0) []  Tryd.f105 [.agg [.val (.int .i64 p_xa), .val (.int .i64 p_xb), .val (.int .i64 p_xk), .val (.int .i64 p_ya), .val (.int .i64 p_yb), .val (.int .i64 p_yk)], .val (.int .i64 d)] = some ((⟨d, offV d (⟨⟨p_xa, p_xb, p_xk⟩, ⟨p_ya, p_yb, p_yk⟩⟩ : P2)⟩ : Ln).av) := by
  rw [Bool.and_eq_true] at hp
  refine (show _ = cond (inB (wr (d + 4)) 0 15) (cond (pkD (nrm d) (⟨⟨p_xa, p_xb, p_xk⟩, ⟨p_ya, p_yb, p_yk⟩⟩ : P2)) (some (⟨d, offV d (⟨⟨p_xa, p_xb, p_xk⟩, ⟨p_ya, p_yb, p_yk⟩⟩ : P2)⟩ : Ln).av) none) none from by kernel_rfl).trans ?_
  rw [hp.1, hp.2]
  rfl
theorem m105 : Meets Tryd.prog GLv 105 s105 := by
  refine meetsN mix0 glv G54 Tryd.func105 (by kernel_rfl) (by kernel_rfl) s105 fun args x h => ?_
  unfold s105 at h
  split at h
  · rename_i p_xa p_xb p_xk p_ya p_yb p_yk d
    simp only [Option.some.injEq, Prod.mk.injEq] at h
    obtain ⟨hp, rfl⟩ := h
    exact ⟨_, _, by kernel_rfl, e105 p_xa p_xb p_xk p_ya p_yb p_yk d hp⟩
  · cases h
abbrev Γ55 : List (Nat × Ctr) := (105, s105) :: Γ54
theorem G55 : Sound Tryd.prog GLv Γ55 := G54.cons m105

end Go.Proofs.YtooikeeckoflpaaDoor
