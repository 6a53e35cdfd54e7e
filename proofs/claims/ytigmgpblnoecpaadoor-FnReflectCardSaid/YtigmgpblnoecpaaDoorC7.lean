/- Contracts of the program's functions, by the evaluator. -/
import Derived.Test.YtigmgpblnoecpaaDoorC6
import Derived.Test.YtigmgpblnoecpaaDoorDirC
namespace Go.Proofs.YtigmgpblnoecpaaDoor
open Go.Ev
set_option linter.unusedVariables false
set_option linter.unusedSimpArgs false
set_option maxRecDepth 100000

-- impl.abs
noncomputable def s128 : Ctr := fun
  | [.val (.int .i64 x)] => some (true, iv (absV x))
  | _ => none

theorem e128 (x : Int) : evN Tryd.prog GLv Γ92 (0) []  Tryd.f128 [.val (.int .i64 x)] = some (iv (absV x)) := by
  kernel_rfl
theorem m128 : Meets Tryd.prog GLv 128 s128 := by
  refine meetsN mix0 glv G92 Tryd.func128 (by kernel_rfl) (by kernel_rfl) s128 fun args x h => ?_
  unfold s128 at h
  split at h
  · rename_i x
    simp only [Option.some.injEq, Prod.mk.injEq] at h
    obtain ⟨hp, rfl⟩ := h
    exact ⟨_, _, by kernel_rfl, e128 x⟩
  · cases h
noncomputable abbrev Γ93 : List (Nat × Ctr) := (128, s128) :: Γ92
theorem G93 : Sound Tryd.prog GLv Γ93 := G92.cons m128

-- impl.signOf
noncomputable def s121 : Ctr := fun
  | [.val (.int .i64 x)] => some (true, iv x.sign)
  | _ => none

theorem e121 (x : Int) : evN Tryd.prog GLv Γ93 (0) []  Tryd.f121 [.val (.int .i64 x)] = some (iv x.sign) := by
  refine (show _ = some (iv (if (if x < 1 then x else 1) > -1 then if x < 1 then x else 1 else -1)) from by kernel_rfl).trans ?_
  rw [sign_gmax]
theorem m121 : Meets Tryd.prog GLv 121 s121 := by
  refine meetsN mix0 glv G93 Tryd.func121 (by kernel_rfl) (by kernel_rfl) s121 fun args x h => ?_
  unfold s121 at h
  split at h
  · rename_i x
    simp only [Option.some.injEq, Prod.mk.injEq] at h
    obtain ⟨hp, rfl⟩ := h
    exact ⟨_, _, by kernel_rfl, e121 x⟩
  · cases h
noncomputable abbrev Γ94 : List (Nat × Ctr) := (121, s121) :: Γ93
theorem G94 : Sound Tryd.prog GLv Γ94 := G93.cons m121

-- math/bits.Mul64
noncomputable def s127 : Ctr := fun
  | [.val (.int .u64 x), .val (.int .u64 y)] => some ((decide (0 ≤ x) && decide (x < 2147483648)) && (decide (0 ≤ y) && decide (y < 2147483648)), .tup [.val (.int .u64 0), .val (.int .u64 (x * y))])
  | _ => none

theorem e127 (x : Int) (y : Int) (hp : ((decide (0 ≤ x) && decide (x < 2147483648)) && (decide (0 ≤ y) && decide (y < 2147483648))) = true) : evN Tryd.prog GLv Γ94 (0) []  Tryd.f127 [.val (.int .u64 x), .val (.int .u64 y)] = some (.tup [.val (.int .u64 0), .val (.int .u64 (x * y))]) := by
  refine (show _ = some ((.tup [.val (.int .u64 (IntKind.u64.wrap (IntKind.u64.wrap (IntKind.u64.wrap (x.fdiv (2 ^ min (Int.toNat 32) 64) * y.fdiv (2 ^ min (Int.toNat 32) 64)) + (IntKind.u64.wrap (IntKind.u64.wrap (x.fdiv (2 ^ min (Int.toNat 32) 64) * IntKind.u64.wrap ↑(BitVec.ofInt 64 y &&& BitVec.ofInt 64 4294967295).toNat) + (IntKind.u64.wrap (IntKind.u64.wrap ↑(BitVec.ofInt 64 x &&& BitVec.ofInt 64 4294967295).toNat * IntKind.u64.wrap ↑(BitVec.ofInt 64 y &&& BitVec.ofInt 64 4294967295).toNat)).fdiv (2 ^ min (Int.toNat 32) 64))).fdiv (2 ^ min (Int.toNat 32) 64)) + (IntKind.u64.wrap (IntKind.u64.wrap ↑(BitVec.ofInt 64 (IntKind.u64.wrap (IntKind.u64.wrap (x.fdiv (2 ^ min (Int.toNat 32) 64) * IntKind.u64.wrap ↑(BitVec.ofInt 64 y &&& BitVec.ofInt 64 4294967295).toNat) + (IntKind.u64.wrap (IntKind.u64.wrap ↑(BitVec.ofInt 64 x &&& BitVec.ofInt 64 4294967295).toNat * IntKind.u64.wrap ↑(BitVec.ofInt 64 y &&& BitVec.ofInt 64 4294967295).toNat)).fdiv (2 ^ min (Int.toNat 32) 64))) &&& BitVec.ofInt 64 4294967295).toNat + IntKind.u64.wrap (IntKind.u64.wrap ↑(BitVec.ofInt 64 x &&& BitVec.ofInt 64 4294967295).toNat * y.fdiv (2 ^ min (Int.toNat 32) 64)))).fdiv (2 ^ min (Int.toNat 32) 64)))), .val (.int .u64 (IntKind.u64.wrap (x * y)))])) from by kernel_rfl).trans ?_
  simp only [Bool.and_eq_true, decide_eq_true_eq] at hp
  obtain ⟨⟨h1, h2⟩, h3, h4⟩ := hp
  obtain ⟨e1, e2⟩ := mul64_small h1 h2 h3 h4
  rw [e1, e2]
theorem m127 : Meets Tryd.prog GLv 127 s127 := by
  refine meetsN mix0 glv G94 Tryd.func127 (by kernel_rfl) (by kernel_rfl) s127 fun args x h => ?_
  unfold s127 at h
  split at h
  · rename_i x y
    simp only [Option.some.injEq, Prod.mk.injEq] at h
    obtain ⟨hp, rfl⟩ := h
    exact ⟨_, _, by kernel_rfl, e127 x y hp⟩
  · cases h
noncomputable abbrev Γ95 : List (Nat × Ctr) := (127, s127) :: Γ94
theorem G95 : Sound Tryd.prog GLv Γ95 := G94.cons m127

-- impl.isGreater
noncomputable def s122 : Ctr := fun
  | [.val (.int .i64 x), .val (.int .i64 y)] => some (sB x && sB y, bv (decide (x * x > 2 * (y * y))))
  | _ => none

theorem e122 (x : Int) (y : Int) (hp : (sB x && sB y) = true) : evN Tryd.prog GLv Γ95 (0) []  Tryd.f122 [.val (.int .i64 x), .val (.int .i64 y)] = some (bv (decide (x * x > 2 * (y * y)))) := by
  refine (show _ = cond (decide (0 ≤ IntKind.u64.wrap (absV x)) && decide (IntKind.u64.wrap (absV x) < 2147483648) && (decide (0 ≤ IntKind.u64.wrap (absV x)) && decide (IntKind.u64.wrap (absV x) < 2147483648))) ( cond (decide (0 ≤ IntKind.u64.wrap (absV y)) && decide (IntKind.u64.wrap (absV y) < 2147483648) && (decide (0 ≤ IntKind.u64.wrap (absV y)) && decide (IntKind.u64.wrap (absV y) < 2147483648))) ( cond (0 == IntKind.u64.wrap ↑(BitVec.ofInt 64 (IntKind.u64.wrap (0 * 2 ^ min (Int.toNat 1) 64)) ||| BitVec.ofInt 64 ((IntKind.u64.wrap (absV y) * IntKind.u64.wrap (absV y)).fdiv (2 ^ min (Int.toNat 63) 64))).toNat) ( some (bv (decide (IntKind.u64.wrap (absV x) * IntKind.u64.wrap (absV x) > IntKind.u64.wrap (IntKind.u64.wrap (absV y) * IntKind.u64.wrap (absV y) * 2 ^ min (Int.toNat 1) IntKind.u64.bits)))) ) ( some (bv (false)) ) ) ( none ) ) ( none ) from by kernel_rfl).trans ?_
  rw [Bool.and_eq_true] at hp
  obtain ⟨a1, a2, _⟩ := abs_u hp.1
  obtain ⟨b1, b2, _⟩ := abs_u hp.2
  rw [a1, b1, a2, b2, hi_zero hp.2, gt_eq hp.1 hp.2]
  rfl
theorem m122 : Meets Tryd.prog GLv 122 s122 := by
  refine meetsN mix0 glv G95 Tryd.func122 (by kernel_rfl) (by kernel_rfl) s122 fun args x h => ?_
  unfold s122 at h
  split at h
  · rename_i x y
    simp only [Option.some.injEq, Prod.mk.injEq] at h
    obtain ⟨hp, rfl⟩ := h
    exact ⟨_, _, by kernel_rfl, e122 x y hp⟩
  · cases h
noncomputable abbrev Γ96 : List (Nat × Ctr) := (122, s122) :: Γ95
theorem G96 : Sound Tryd.prog GLv Γ96 := G95.cons m122

-- (impl.Num).sign
noncomputable def s89 : Ctr := fun
  | [.agg [.val (.int .i64 x_a), .val (.int .i64 x_b), .val (.int .i64 x_k)]] => some (sB x_a && sB x_b, iv (sgF (⟨x_a, x_b, x_k⟩ : N3)))
  | _ => none

theorem e89 (x_a : Int) (x_b : Int) (x_k : Int) (hp : (sB x_a && sB x_b) = true) : evN Tryd.prog GLv Γ96 (0) []  Tryd.f89 [.agg [.val (.int .i64 x_a), .val (.int .i64 x_b), .val (.int .i64 x_k)]] = some (iv (sgF (⟨x_a, x_b, x_k⟩ : N3))) := by
  refine (show _ = cond (x_a.sign == x_b.sign) (some (iv x_a.sign)) (cond (x_b.sign == 0) (some (iv x_a.sign)) (cond (x_a.sign == 0) (some (iv x_b.sign)) (cond (sB x_a && sB x_b) (cond (!decide (x_a * x_a > 2 * (x_b * x_b))) (some (iv x_b.sign)) (some (iv x_a.sign))) none))) from by kernel_rfl).trans ?_
  rw [hp, ← sgF_alt]
  cases x_a.sign == x_b.sign <;> cases x_b.sign == 0 <;> cases x_a.sign == 0 <;> cases decide (x_a * x_a > 2 * (x_b * x_b)) <;> rfl
theorem m89 : Meets Tryd.prog GLv 89 s89 := by
  refine meetsN mix0 glv G96 Tryd.func89 (by kernel_rfl) (by kernel_rfl) s89 fun args x h => ?_
  unfold s89 at h
  split at h
  · rename_i x_a x_b x_k
    simp only [Option.some.injEq, Prod.mk.injEq] at h
    obtain ⟨hp, rfl⟩ := h
    exact ⟨_, _, by kernel_rfl, e89 x_a x_b x_k hp⟩
  · cases h
noncomputable abbrev Γ97 : List (Nat × Ctr) := (89, s89) :: Γ96
theorem G97 : Sound Tryd.prog GLv Γ97 := G96.cons m89

-- impl.direction
noncomputable def s43 : Ctr := fun
  | [.agg [.val (.int .i64 p_xa), .val (.int .i64 p_xb), .val (.int .i64 p_xk), .val (.int .i64 p_ya), .val (.int .i64 p_yb), .val (.int .i64 p_yk)], .agg [.val (.int .i64 q_xa), .val (.int .i64 q_xb), .val (.int .i64 q_xk), .val (.int .i64 q_ya), .val (.int .i64 q_yb), .val (.int .i64 q_yk)]] => some (valP (⟨⟨p_xa, p_xb, p_xk⟩, ⟨p_ya, p_yb, p_yk⟩⟩ : P2) && valP (⟨⟨q_xa, q_xb, q_xk⟩, ⟨q_ya, q_yb, q_yk⟩⟩ : P2), iv (dirV (⟨⟨p_xa, p_xb, p_xk⟩, ⟨p_ya, p_yb, p_yk⟩⟩ : P2) (⟨⟨q_xa, q_xb, q_xk⟩, ⟨q_ya, q_yb, q_yk⟩⟩ : P2)))
  | _ => none

theorem r43_step (K n : Nat) (d : Int) (w : P2) : runL Tryd.prog GLv Γ97 K [false, false, false, false, false, true, false, false, false, false, false, true] Tryd.f43 0 (n + 1) (stL Tryd.f43.ntmps [.non, .non, .non, .non, .non, .own 28 [iv w.x.a, iv w.x.b, iv w.x.k, iv w.y.a, iv w.y.b, iv w.y.k], .non, .non, .non, .non, .non, iv (d)]) = cond (decide (d < 16)) (cond (inB d 0 15) (cond (pkC (vecP d) w) (cond (eqN (crsF (vecP d) w) z3)
    (cond (pkD (vecP d) w) (cond (sB (dotF (vecP d) w).a && sB (dotF (vecP d) w).b) (cond (decide (sgF (dotF (vecP d) w) > 0)) (some (iv d)) (runL Tryd.prog GLv Γ97 K [false, false, false, false, false, true, false, false, false, false, false, true] Tryd.f43 0 n (stL Tryd.f43.ntmps [.non, .non, .non, .non, .non, .own 28 [iv w.x.a, iv w.x.b, iv w.x.k, iv w.y.a, iv w.y.b, iv w.y.k], .non, .non, .non, .non, .non, iv (wr (d + 1))]))) none) none) (runL Tryd.prog GLv Γ97 K [false, false, false, false, false, true, false, false, false, false, false, true] Tryd.f43 0 n (stL Tryd.f43.ntmps [.non, .non, .non, .non, .non, .own 28 [iv w.x.a, iv w.x.b, iv w.x.k, iv w.y.a, iv w.y.b, iv w.y.k], .non, .non, .non, .non, .non, iv (wr (d + 1))]))) none) none) (some (iv (-1))) := by kernel_rfl
theorem r43_run (K : Nat) (w : P2) (v : V4) (hw : Go.Ev.Way w v) : ∀ (n : Nat) (d : Int) (m : Nat), 0 ≤ d → d + n = 16 → n < m → runL Tryd.prog GLv Γ97 K [false, false, false, false, false, true, false, false, false, false, false, true] Tryd.f43 0 m (stL Tryd.f43.ntmps [.non, .non, .non, .non, .non, .own 28 [iv w.x.a, iv w.x.b, iv w.x.k, iv w.y.a, iv w.y.b, iv w.y.k], .non, .non, .non, .non, .non, iv (d)]) = some (iv (dirF n d w)) := by
  intro n
  induction n with
  | zero =>
    intro d m h0 h1 hm
    obtain ⟨m, rfl⟩ : ∃ m', m = m' + 1 := ⟨m - 1, by omega⟩
    rw [r43_step, show decide (d < 16) = false by simp; omega]
    rfl
  | succ n ih =>
    intro d m h0 h1 hm
    obtain ⟨m, rfl⟩ : ∃ m', m = m' + 1 := ⟨m - 1, by omega⟩
    have hd : inB d 0 15 = true := inB_iff.2 (by omega)
    obtain ⟨k1, k2, k3, _, _⟩ := way_ok hd hw
    rw [r43_step, show decide (d < 16) = true by simp; omega, hd, k1, k2, k3, wr_in (n := d + 1) (by omega) (by omega), ih (d + 1) m (by omega) (by omega) (by omega)]
    rw [dirF_succ]
    cases eqN (crsF (vecP d) w) z3 <;> cases decide (sgF (dotF (vecP d) w) > 0) <;> rfl

theorem e43 (p_xa : Int) (p_xb : Int) (p_xk : Int) (p_ya : Int) (p_yb : Int) (p_yk : Int) (q_xa : Int) (q_xb : Int) (q_xk : Int) (q_ya : Int) (q_yb : Int) (q_yk : Int) (hp : (valP (⟨⟨p_xa, p_xb, p_xk⟩, ⟨p_ya, p_yb, p_yk⟩⟩ : P2) && valP (⟨⟨q_xa, q_xb, q_xk⟩, ⟨q_ya, q_yb, q_yk⟩⟩ : P2)) = true) : evN Tryd.prog GLv Γ97 (17) [false, false, false, false, false, true, false, false, false, false, false, true]  Tryd.f43 [.agg [.val (.int .i64 p_xa), .val (.int .i64 p_xb), .val (.int .i64 p_xk), .val (.int .i64 p_ya), .val (.int .i64 p_yb), .val (.int .i64 p_yk)], .agg [.val (.int .i64 q_xa), .val (.int .i64 q_xb), .val (.int .i64 q_xk), .val (.int .i64 q_ya), .val (.int .i64 q_yb), .val (.int .i64 q_yk)]] = some (iv (dirV (⟨⟨p_xa, p_xb, p_xk⟩, ⟨p_ya, p_yb, p_yk⟩⟩ : P2) (⟨⟨q_xa, q_xb, q_xk⟩, ⟨q_ya, q_yb, q_yk⟩⟩ : P2))) := by
  rw [Bool.and_eq_true] at hp
  obtain ⟨v, u, _, _, hw, hk⟩ := way_of hp.1 hp.2
  refine (show _ = cond (pkP (⟨⟨q_xa, q_xb, q_xk⟩, ⟨q_ya, q_yb, q_yk⟩⟩ : P2) (⟨⟨p_xa, p_xb, p_xk⟩, ⟨p_ya, p_yb, p_yk⟩⟩ : P2)) (runL Tryd.prog GLv Γ97 17 [false, false, false, false, false, true, false, false, false, false, false, true] Tryd.f43 0 17 (stL Tryd.f43.ntmps [.non, .non, .non, .non, .non, .own 28 [iv (subP (⟨⟨q_xa, q_xb, q_xk⟩, ⟨q_ya, q_yb, q_yk⟩⟩ : P2) (⟨⟨p_xa, p_xb, p_xk⟩, ⟨p_ya, p_yb, p_yk⟩⟩ : P2)).x.a, iv (subP (⟨⟨q_xa, q_xb, q_xk⟩, ⟨q_ya, q_yb, q_yk⟩⟩ : P2) (⟨⟨p_xa, p_xb, p_xk⟩, ⟨p_ya, p_yb, p_yk⟩⟩ : P2)).x.b, iv (subP (⟨⟨q_xa, q_xb, q_xk⟩, ⟨q_ya, q_yb, q_yk⟩⟩ : P2) (⟨⟨p_xa, p_xb, p_xk⟩, ⟨p_ya, p_yb, p_yk⟩⟩ : P2)).x.k, iv (subP (⟨⟨q_xa, q_xb, q_xk⟩, ⟨q_ya, q_yb, q_yk⟩⟩ : P2) (⟨⟨p_xa, p_xb, p_xk⟩, ⟨p_ya, p_yb, p_yk⟩⟩ : P2)).y.a, iv (subP (⟨⟨q_xa, q_xb, q_xk⟩, ⟨q_ya, q_yb, q_yk⟩⟩ : P2) (⟨⟨p_xa, p_xb, p_xk⟩, ⟨p_ya, p_yb, p_yk⟩⟩ : P2)).y.b, iv (subP (⟨⟨q_xa, q_xb, q_xk⟩, ⟨q_ya, q_yb, q_yk⟩⟩ : P2) (⟨⟨p_xa, p_xb, p_xk⟩, ⟨p_ya, p_yb, p_yk⟩⟩ : P2)).y.k], .non, .non, .non, .non, .non, iv (0)])) none from by kernel_rfl).trans ?_
  rw [hk, cond_true, r43_run 17 (subP (⟨⟨q_xa, q_xb, q_xk⟩, ⟨q_ya, q_yb, q_yk⟩⟩ : P2) (⟨⟨p_xa, p_xb, p_xk⟩, ⟨p_ya, p_yb, p_yk⟩⟩ : P2)) _ hw 16 0 17 (by decide) (by decide) (by decide)]
  rfl
theorem m43 : Meets Tryd.prog GLv 43 s43 := by
  refine meetsN mix0 glv G97 Tryd.func43 (by kernel_rfl) (by kernel_rfl) s43 fun args x h => ?_
  unfold s43 at h
  split at h
  · rename_i p_xa p_xb p_xk p_ya p_yb p_yk q_xa q_xb q_xk q_ya q_yb q_yk
    simp only [Option.some.injEq, Prod.mk.injEq] at h
    obtain ⟨hp, rfl⟩ := h
    exact ⟨_, _, by kernel_rfl, e43 p_xa p_xb p_xk p_ya p_yb p_yk q_xa q_xb q_xk q_ya q_yb q_yk hp⟩
  · cases h
noncomputable abbrev Γ98 : List (Nat × Ctr) := (43, s43) :: Γ97
theorem G98 : Sound Tryd.prog GLv Γ98 := G97.cons m43

-- impl.DirectionOf
noncomputable def s12 : Ctr := fun
  | [.agg [.val (.int .i64 p_xa), .val (.int .i64 p_xb), .val (.int .i64 p_xk), .val (.int .i64 p_ya), .val (.int .i64 p_yb), .val (.int .i64 p_yk)], .agg [.val (.int .i64 q_xa), .val (.int .i64 q_xb), .val (.int .i64 q_xk), .val (.int .i64 q_ya), .val (.int .i64 q_yb), .val (.int .i64 q_yk)]] => some (true, iv (dofV (⟨⟨p_xa, p_xb, p_xk⟩, ⟨p_ya, p_yb, p_yk⟩⟩ : P2) (⟨⟨q_xa, q_xb, q_xk⟩, ⟨q_ya, q_yb, q_yk⟩⟩ : P2)))
  | _ => none

theorem e12 (p_xa : Int) (p_xb : Int) (p_xk : Int) (p_ya : Int) (p_yb : Int) (p_yk : Int) (q_xa : Int) (q_xb : Int) (q_xk : Int) (q_ya : Int) (q_yb : Int) (q_yk : Int) : evN Tryd.prog GLv Γ98 (0) []  Tryd.f12 [.agg [.val (.int .i64 p_xa), .val (.int .i64 p_xb), .val (.int .i64 p_xk), .val (.int .i64 p_ya), .val (.int .i64 p_yb), .val (.int .i64 p_yk)], .agg [.val (.int .i64 q_xa), .val (.int .i64 q_xb), .val (.int .i64 q_xk), .val (.int .i64 q_ya), .val (.int .i64 q_yb), .val (.int .i64 q_yk)]] = some (iv (dofV (⟨⟨p_xa, p_xb, p_xk⟩, ⟨p_ya, p_yb, p_yk⟩⟩ : P2) (⟨⟨q_xa, q_xb, q_xk⟩, ⟨q_ya, q_yb, q_yk⟩⟩ : P2))) := by
  refine (show _ = cond (!valP (⟨⟨p_xa, p_xb, p_xk⟩, ⟨p_ya, p_yb, p_yk⟩⟩ : P2)) (some (iv (-1))) (cond (!valP (⟨⟨q_xa, q_xb, q_xk⟩, ⟨q_ya, q_yb, q_yk⟩⟩ : P2)) (some (iv (-1))) (cond (valP (⟨⟨p_xa, p_xb, p_xk⟩, ⟨p_ya, p_yb, p_yk⟩⟩ : P2) && valP (⟨⟨q_xa, q_xb, q_xk⟩, ⟨q_ya, q_yb, q_yk⟩⟩ : P2)) (some (iv (dirV (⟨⟨p_xa, p_xb, p_xk⟩, ⟨p_ya, p_yb, p_yk⟩⟩ : P2) (⟨⟨q_xa, q_xb, q_xk⟩, ⟨q_ya, q_yb, q_yk⟩⟩ : P2)))) none)) from by kernel_rfl).trans ?_
  unfold dofV
  cases valP (⟨⟨p_xa, p_xb, p_xk⟩, ⟨p_ya, p_yb, p_yk⟩⟩ : P2) <;> cases valP (⟨⟨q_xa, q_xb, q_xk⟩, ⟨q_ya, q_yb, q_yk⟩⟩ : P2) <;> rfl
theorem m12 : Meets Tryd.prog GLv 12 s12 := by
  refine meetsN mix0 glv G98 Tryd.func12 (by kernel_rfl) (by kernel_rfl) s12 fun args x h => ?_
  unfold s12 at h
  split at h
  · rename_i p_xa p_xb p_xk p_ya p_yb p_yk q_xa q_xb q_xk q_ya q_yb q_yk
    simp only [Option.some.injEq, Prod.mk.injEq] at h
    obtain ⟨hp, rfl⟩ := h
    exact ⟨_, _, by kernel_rfl, e12 p_xa p_xb p_xk p_ya p_yb p_yk q_xa q_xb q_xk q_ya q_yb q_yk⟩
  · cases h
noncomputable abbrev Γ99 : List (Nat × Ctr) := (12, s12) :: Γ98
theorem G99 : Sound Tryd.prog GLv Γ99 := G98.cons m12

-- (impl.Line).side
noncomputable def s42 : Ctr := fun
  | [.agg [.val (.int .i64 l_d), .val (.int .i64 l_a), .val (.int .i64 l_b), .val (.int .i64 l_k)], .agg [.val (.int .i64 p_xa), .val (.int .i64 p_xb), .val (.int .i64 p_xk), .val (.int .i64 p_ya), .val (.int .i64 p_yb), .val (.int .i64 p_yk)]] => some ((inB (wr (l_d + 4)) 0 15) && ((pkD (nrm l_d) (⟨⟨p_xa, p_xb, p_xk⟩, ⟨p_ya, p_yb, p_yk⟩⟩ : P2)) && ((pk (dotF (nrm l_d) (⟨⟨p_xa, p_xb, p_xk⟩, ⟨p_ya, p_yb, p_yk⟩⟩ : P2)) (⟨l_a, l_b, l_k⟩ : N3)) && (sB (subF (dotF (nrm l_d) (⟨⟨p_xa, p_xb, p_xk⟩, ⟨p_ya, p_yb, p_yk⟩⟩ : P2)) (⟨l_a, l_b, l_k⟩ : N3)).a && sB (subF (dotF (nrm l_d) (⟨⟨p_xa, p_xb, p_xk⟩, ⟨p_ya, p_yb, p_yk⟩⟩ : P2)) (⟨l_a, l_b, l_k⟩ : N3)).b))), iv (sgF (subF (dotF (nrm l_d) (⟨⟨p_xa, p_xb, p_xk⟩, ⟨p_ya, p_yb, p_yk⟩⟩ : P2)) (⟨l_a, l_b, l_k⟩ : N3))))
  | _ => none

theorem e42 (l_d : Int) (l_a : Int) (l_b : Int) (l_k : Int) (p_xa : Int) (p_xb : Int) (p_xk : Int) (p_ya : Int) (p_yb : Int) (p_yk : Int) (hp : ((inB (wr (l_d + 4)) 0 15) && ((pkD (nrm l_d) (⟨⟨p_xa, p_xb, p_xk⟩, ⟨p_ya, p_yb, p_yk⟩⟩ : P2)) && ((pk (dotF (nrm l_d) (⟨⟨p_xa, p_xb, p_xk⟩, ⟨p_ya, p_yb, p_yk⟩⟩ : P2)) (⟨l_a, l_b, l_k⟩ : N3)) && (sB (subF (dotF (nrm l_d) (⟨⟨p_xa, p_xb, p_xk⟩, ⟨p_ya, p_yb, p_yk⟩⟩ : P2)) (⟨l_a, l_b, l_k⟩ : N3)).a && sB (subF (dotF (nrm l_d) (⟨⟨p_xa, p_xb, p_xk⟩, ⟨p_ya, p_yb, p_yk⟩⟩ : P2)) (⟨l_a, l_b, l_k⟩ : N3)).b)))) = true) : evN Tryd.prog GLv Γ99 (0) []  Tryd.f42 [.agg [.val (.int .i64 l_d), .val (.int .i64 l_a), .val (.int .i64 l_b), .val (.int .i64 l_k)], .agg [.val (.int .i64 p_xa), .val (.int .i64 p_xb), .val (.int .i64 p_xk), .val (.int .i64 p_ya), .val (.int .i64 p_yb), .val (.int .i64 p_yk)]] = some (iv (sgF (subF (dotF (nrm l_d) (⟨⟨p_xa, p_xb, p_xk⟩, ⟨p_ya, p_yb, p_yk⟩⟩ : P2)) (⟨l_a, l_b, l_k⟩ : N3)))) := by
  simp only [Bool.and_eq_true] at hp
  obtain ⟨h1, h2, h3, h4, h5⟩ := hp
  refine (show _ = cond (inB (wr (l_d + 4)) 0 15) (cond (pkD (nrm l_d) (⟨⟨p_xa, p_xb, p_xk⟩, ⟨p_ya, p_yb, p_yk⟩⟩ : P2)) (cond (pk (dotF (nrm l_d) (⟨⟨p_xa, p_xb, p_xk⟩, ⟨p_ya, p_yb, p_yk⟩⟩ : P2)) (⟨l_a, l_b, l_k⟩ : N3)) (cond (sB (subF (dotF (nrm l_d) (⟨⟨p_xa, p_xb, p_xk⟩, ⟨p_ya, p_yb, p_yk⟩⟩ : P2)) (⟨l_a, l_b, l_k⟩ : N3)).a && sB (subF (dotF (nrm l_d) (⟨⟨p_xa, p_xb, p_xk⟩, ⟨p_ya, p_yb, p_yk⟩⟩ : P2)) (⟨l_a, l_b, l_k⟩ : N3)).b) (some (iv (sgF (subF (dotF (nrm l_d) (⟨⟨p_xa, p_xb, p_xk⟩, ⟨p_ya, p_yb, p_yk⟩⟩ : P2)) (⟨l_a, l_b, l_k⟩ : N3))))) none) none) none) none from by kernel_rfl).trans ?_
  rw [h1, h2, h3, h4, h5]
  rfl
theorem m42 : Meets Tryd.prog GLv 42 s42 := by
  refine meetsN mix0 glv G99 Tryd.func42 (by kernel_rfl) (by kernel_rfl) s42 fun args x h => ?_
  unfold s42 at h
  split at h
  · rename_i l_d l_a l_b l_k p_xa p_xb p_xk p_ya p_yb p_yk
    simp only [Option.some.injEq, Prod.mk.injEq] at h
    obtain ⟨hp, rfl⟩ := h
    exact ⟨_, _, by kernel_rfl, e42 l_d l_a l_b l_k p_xa p_xb p_xk p_ya p_yb p_yk hp⟩
  · cases h
noncomputable abbrev Γ100 : List (Nat × Ctr) := (42, s42) :: Γ99
theorem G100 : Sound Tryd.prog GLv Γ100 := G99.cons m42

-- impl.SideOf
noncomputable def s9 : Ctr := fun
  | [.agg [.val (.int .i64 l_d), .val (.int .i64 l_a), .val (.int .i64 l_b), .val (.int .i64 l_k)], .agg [.val (.int .i64 p_xa), .val (.int .i64 p_xb), .val (.int .i64 p_xk), .val (.int .i64 p_ya), .val (.int .i64 p_yb), .val (.int .i64 p_yk)]] => some (true, iv (soV (⟨l_d, (⟨l_a, l_b, l_k⟩ : N3)⟩ : Ln) (⟨⟨p_xa, p_xb, p_xk⟩, ⟨p_ya, p_yb, p_yk⟩⟩ : P2)))
  | _ => none

theorem e9 (l_d : Int) (l_a : Int) (l_b : Int) (l_k : Int) (p_xa : Int) (p_xb : Int) (p_xk : Int) (p_ya : Int) (p_yb : Int) (p_yk : Int) : evN Tryd.prog GLv Γ100 (0) []  Tryd.f9 [.agg [.val (.int .i64 l_d), .val (.int .i64 l_a), .val (.int .i64 l_b), .val (.int .i64 l_k)], .agg [.val (.int .i64 p_xa), .val (.int .i64 p_xb), .val (.int .i64 p_xk), .val (.int .i64 p_ya), .val (.int .i64 p_yb), .val (.int .i64 p_yk)]] = some (iv (soV (⟨l_d, (⟨l_a, l_b, l_k⟩ : N3)⟩ : Ln) (⟨⟨p_xa, p_xb, p_xk⟩, ⟨p_ya, p_yb, p_yk⟩⟩ : P2))) := by
  refine (show _ = cond (!(inB l_d 0 7 && validB (⟨l_a, l_b, l_k⟩ : N3))) (some (iv 0)) (cond (!valP (⟨⟨p_xa, p_xb, p_xk⟩, ⟨p_ya, p_yb, p_yk⟩⟩ : P2)) (some (iv 0)) (cond ((inB (wr (l_d + 4)) 0 15) && ((pkD (nrm l_d) (⟨⟨p_xa, p_xb, p_xk⟩, ⟨p_ya, p_yb, p_yk⟩⟩ : P2)) && ((pk (dotF (nrm l_d) (⟨⟨p_xa, p_xb, p_xk⟩, ⟨p_ya, p_yb, p_yk⟩⟩ : P2)) (⟨l_a, l_b, l_k⟩ : N3)) && (sB (subF (dotF (nrm l_d) (⟨⟨p_xa, p_xb, p_xk⟩, ⟨p_ya, p_yb, p_yk⟩⟩ : P2)) (⟨l_a, l_b, l_k⟩ : N3)).a && sB (subF (dotF (nrm l_d) (⟨⟨p_xa, p_xb, p_xk⟩, ⟨p_ya, p_yb, p_yk⟩⟩ : P2)) (⟨l_a, l_b, l_k⟩ : N3)).b)))) (some (iv (sgF (subF (dotF (nrm l_d) (⟨⟨p_xa, p_xb, p_xk⟩, ⟨p_ya, p_yb, p_yk⟩⟩ : P2)) (⟨l_a, l_b, l_k⟩ : N3))))) none)) from by kernel_rfl).trans ?_
  unfold soV Ln.valid
  cases h1 : inB l_d 0 7 with
  | false => rfl
  | true =>
    cases h2 : validB (⟨l_a, l_b, l_k⟩ : N3) with
    | false => rfl
    | true =>
      cases h3 : valP (⟨⟨p_xa, p_xb, p_xk⟩, ⟨p_ya, p_yb, p_yk⟩⟩ : P2) with
      | false => rfl
      | true =>
        obtain ⟨k1, k2, k3, k4⟩ := side_ok h1 h2 h3
        rw [k1, k2, k3, k4]
        rfl
theorem m9 : Meets Tryd.prog GLv 9 s9 := by
  refine meetsN mix0 glv G100 Tryd.func9 (by kernel_rfl) (by kernel_rfl) s9 fun args x h => ?_
  unfold s9 at h
  split at h
  · rename_i l_d l_a l_b l_k p_xa p_xb p_xk p_ya p_yb p_yk
    simp only [Option.some.injEq, Prod.mk.injEq] at h
    obtain ⟨hp, rfl⟩ := h
    exact ⟨_, _, by kernel_rfl, e9 l_d l_a l_b l_k p_xa p_xb p_xk p_ya p_yb p_yk⟩
  · cases h
noncomputable abbrev Γ101 : List (Nat × Ctr) := (9, s9) :: Γ100
theorem G101 : Sound Tryd.prog GLv Γ101 := G100.cons m9

-- impl.lineAt
noncomputable def s44 : Ctr := fun
  | [.agg [.val (.int .i64 p_xa), .val (.int .i64 p_xb), .val (.int .i64 p_xk), .val (.int .i64 p_ya), .val (.int .i64 p_yb), .val (.int .i64 p_yk)], .val (.int .i64 d)] => some (inB (wr (d + 4)) 0 15 && pkD (nrm d) (⟨⟨p_xa, p_xb, p_xk⟩, ⟨p_ya, p_yb, p_yk⟩⟩ : P2), (⟨d, offV d (⟨⟨p_xa, p_xb, p_xk⟩, ⟨p_ya, p_yb, p_yk⟩⟩ : P2)⟩ : Ln).av)
  | _ => none

theorem e44 (p_xa : Int) (p_xb : Int) (p_xk : Int) (p_ya : Int) (p_yb : Int) (p_yk : Int) (d : Int) (hp : (inB (wr (d + 4)) 0 15 && pkD (nrm d) (⟨⟨p_xa, p_xb, p_xk⟩, ⟨p_ya, p_yb, p_yk⟩⟩ : P2)) = true) : evN Tryd.prog GLv Γ101 (0) []  Tryd.f44 [.agg [.val (.int .i64 p_xa), .val (.int .i64 p_xb), .val (.int .i64 p_xk), .val (.int .i64 p_ya), .val (.int .i64 p_yb), .val (.int .i64 p_yk)], .val (.int .i64 d)] = some ((⟨d, offV d (⟨⟨p_xa, p_xb, p_xk⟩, ⟨p_ya, p_yb, p_yk⟩⟩ : P2)⟩ : Ln).av) := by
  rw [Bool.and_eq_true] at hp
  refine (show _ = cond (inB (wr (d + 4)) 0 15) (cond (pkD (nrm d) (⟨⟨p_xa, p_xb, p_xk⟩, ⟨p_ya, p_yb, p_yk⟩⟩ : P2)) (some (⟨d, offV d (⟨⟨p_xa, p_xb, p_xk⟩, ⟨p_ya, p_yb, p_yk⟩⟩ : P2)⟩ : Ln).av) none) none from by kernel_rfl).trans ?_
  rw [hp.1, hp.2]
  rfl
theorem m44 : Meets Tryd.prog GLv 44 s44 := by
  refine meetsN mix0 glv G101 Tryd.func44 (by kernel_rfl) (by kernel_rfl) s44 fun args x h => ?_
  unfold s44 at h
  split at h
  · rename_i p_xa p_xb p_xk p_ya p_yb p_yk d
    simp only [Option.some.injEq, Prod.mk.injEq] at h
    obtain ⟨hp, rfl⟩ := h
    exact ⟨_, _, by kernel_rfl, e44 p_xa p_xb p_xk p_ya p_yb p_yk d hp⟩
  · cases h
noncomputable abbrev Γ102 : List (Nat × Ctr) := (44, s44) :: Γ101
theorem G102 : Sound Tryd.prog GLv Γ102 := G101.cons m44

-- impl.LineAt
noncomputable def s13 : Ctr := fun
  | [.agg [.val (.int .i64 p_xa), .val (.int .i64 p_xb), .val (.int .i64 p_xk), .val (.int .i64 p_ya), .val (.int .i64 p_yb), .val (.int .i64 p_yk)], .val (.int .i64 d)] => some (true, .tup [(laL (⟨⟨p_xa, p_xb, p_xk⟩, ⟨p_ya, p_yb, p_yk⟩⟩ : P2) d).av, bv (laO (⟨⟨p_xa, p_xb, p_xk⟩, ⟨p_ya, p_yb, p_yk⟩⟩ : P2) d)])
  | _ => none

theorem e13 (p_xa : Int) (p_xb : Int) (p_xk : Int) (p_ya : Int) (p_yb : Int) (p_yk : Int) (d : Int) : evN Tryd.prog GLv Γ102 (0) []  Tryd.f13 [.agg [.val (.int .i64 p_xa), .val (.int .i64 p_xb), .val (.int .i64 p_xk), .val (.int .i64 p_ya), .val (.int .i64 p_yb), .val (.int .i64 p_yk)], .val (.int .i64 d)] = some (.tup [(laL (⟨⟨p_xa, p_xb, p_xk⟩, ⟨p_ya, p_yb, p_yk⟩⟩ : P2) d).av, bv (laO (⟨⟨p_xa, p_xb, p_xk⟩, ⟨p_ya, p_yb, p_yk⟩⟩ : P2) d)]) := by
  refine (show _ = cond (!valP (⟨⟨p_xa, p_xb, p_xk⟩, ⟨p_ya, p_yb, p_yk⟩⟩ : P2)) (some (.tup [ln0.av, bv false])) (cond (!inB d 0 7) (some (.tup [ln0.av, bv false])) (cond (inB (wr (d + 4)) 0 15 && pkD (nrm d) (⟨⟨p_xa, p_xb, p_xk⟩, ⟨p_ya, p_yb, p_yk⟩⟩ : P2)) (cond (!validB (offV d (⟨⟨p_xa, p_xb, p_xk⟩, ⟨p_ya, p_yb, p_yk⟩⟩ : P2))) (some (.tup [ln0.av, bv false])) (some (.tup [(⟨d, offV d (⟨⟨p_xa, p_xb, p_xk⟩, ⟨p_ya, p_yb, p_yk⟩⟩ : P2)⟩ : Ln).av, bv true]))) none)) from by kernel_rfl).trans ?_
  unfold laL laO
  cases h1 : valP (⟨⟨p_xa, p_xb, p_xk⟩, ⟨p_ya, p_yb, p_yk⟩⟩ : P2) with
  | false => rfl
  | true =>
    cases h2 : inB d 0 7 with
    | false => rfl
    | true =>
      obtain ⟨k1, k2⟩ := off_ok h2 h1
      rw [k1, k2]
      cases h3 : validB (offV d (⟨⟨p_xa, p_xb, p_xk⟩, ⟨p_ya, p_yb, p_yk⟩⟩ : P2)) <;> rfl
theorem m13 : Meets Tryd.prog GLv 13 s13 := by
  refine meetsN mix0 glv G102 Tryd.func13 (by kernel_rfl) (by kernel_rfl) s13 fun args x h => ?_
  unfold s13 at h
  split at h
  · rename_i p_xa p_xb p_xk p_ya p_yb p_yk d
    simp only [Option.some.injEq, Prod.mk.injEq] at h
    obtain ⟨hp, rfl⟩ := h
    exact ⟨_, _, by kernel_rfl, e13 p_xa p_xb p_xk p_ya p_yb p_yk d⟩
  · cases h
noncomputable abbrev Γ103 : List (Nat × Ctr) := (13, s13) :: Γ102
theorem G103 : Sound Tryd.prog GLv Γ103 := G102.cons m13

-- impl.LineThrough
noncomputable def s10 : Ctr := fun
  | [.agg [.val (.int .i64 p_xa), .val (.int .i64 p_xb), .val (.int .i64 p_xk), .val (.int .i64 p_ya), .val (.int .i64 p_yb), .val (.int .i64 p_yk)], .agg [.val (.int .i64 q_xa), .val (.int .i64 q_xb), .val (.int .i64 q_xk), .val (.int .i64 q_ya), .val (.int .i64 q_yb), .val (.int .i64 q_yk)]] => some (true, .tup [(ltL (⟨⟨p_xa, p_xb, p_xk⟩, ⟨p_ya, p_yb, p_yk⟩⟩ : P2) (⟨⟨q_xa, q_xb, q_xk⟩, ⟨q_ya, q_yb, q_yk⟩⟩ : P2)).av, iv (ltC (⟨⟨p_xa, p_xb, p_xk⟩, ⟨p_ya, p_yb, p_yk⟩⟩ : P2) (⟨⟨q_xa, q_xb, q_xk⟩, ⟨q_ya, q_yb, q_yk⟩⟩ : P2))])
  | _ => none

theorem e10 (p_xa : Int) (p_xb : Int) (p_xk : Int) (p_ya : Int) (p_yb : Int) (p_yk : Int) (q_xa : Int) (q_xb : Int) (q_xk : Int) (q_ya : Int) (q_yb : Int) (q_yk : Int) : evN Tryd.prog GLv Γ103 (0) []  Tryd.f10 [.agg [.val (.int .i64 p_xa), .val (.int .i64 p_xb), .val (.int .i64 p_xk), .val (.int .i64 p_ya), .val (.int .i64 p_yb), .val (.int .i64 p_yk)], .agg [.val (.int .i64 q_xa), .val (.int .i64 q_xb), .val (.int .i64 q_xk), .val (.int .i64 q_ya), .val (.int .i64 q_yb), .val (.int .i64 q_yk)]] = some (.tup [(ltL (⟨⟨p_xa, p_xb, p_xk⟩, ⟨p_ya, p_yb, p_yk⟩⟩ : P2) (⟨⟨q_xa, q_xb, q_xk⟩, ⟨q_ya, q_yb, q_yk⟩⟩ : P2)).av, iv (ltC (⟨⟨p_xa, p_xb, p_xk⟩, ⟨p_ya, p_yb, p_yk⟩⟩ : P2) (⟨⟨q_xa, q_xb, q_xk⟩, ⟨q_ya, q_yb, q_yk⟩⟩ : P2))]) := by
  refine (show _ = cond (!valP (⟨⟨p_xa, p_xb, p_xk⟩, ⟨p_ya, p_yb, p_yk⟩⟩ : P2)) (some (.tup [ln0.av, iv 1])) (cond (!valP (⟨⟨q_xa, q_xb, q_xk⟩, ⟨q_ya, q_yb, q_yk⟩⟩ : P2)) (some (.tup [ln0.av, iv 1])) (cond (valP (⟨⟨p_xa, p_xb, p_xk⟩, ⟨p_ya, p_yb, p_yk⟩⟩ : P2) && valP (⟨⟨q_xa, q_xb, q_xk⟩, ⟨q_ya, q_yb, q_yk⟩⟩ : P2)) (cond (decide ((dirV (⟨⟨p_xa, p_xb, p_xk⟩, ⟨p_ya, p_yb, p_yk⟩⟩ : P2) (⟨⟨q_xa, q_xb, q_xk⟩, ⟨q_ya, q_yb, q_yk⟩⟩ : P2)) < 0)) (some (.tup [ln0.av, iv 7])) (cond (inB (wr (((dirV (⟨⟨p_xa, p_xb, p_xk⟩, ⟨p_ya, p_yb, p_yk⟩⟩ : P2) (⟨⟨q_xa, q_xb, q_xk⟩, ⟨q_ya, q_yb, q_yk⟩⟩ : P2)).tmod 8) + 4)) 0 15 && pkD (nrm ((dirV (⟨⟨p_xa, p_xb, p_xk⟩, ⟨p_ya, p_yb, p_yk⟩⟩ : P2) (⟨⟨q_xa, q_xb, q_xk⟩, ⟨q_ya, q_yb, q_yk⟩⟩ : P2)).tmod 8)) (⟨⟨p_xa, p_xb, p_xk⟩, ⟨p_ya, p_yb, p_yk⟩⟩ : P2)) (cond (!validB (offV ((dirV (⟨⟨p_xa, p_xb, p_xk⟩, ⟨p_ya, p_yb, p_yk⟩⟩ : P2) (⟨⟨q_xa, q_xb, q_xk⟩, ⟨q_ya, q_yb, q_yk⟩⟩ : P2)).tmod 8) (⟨⟨p_xa, p_xb, p_xk⟩, ⟨p_ya, p_yb, p_yk⟩⟩ : P2))) (some (.tup [ln0.av, iv 2])) (some (.tup [(⟨((dirV (⟨⟨p_xa, p_xb, p_xk⟩, ⟨p_ya, p_yb, p_yk⟩⟩ : P2) (⟨⟨q_xa, q_xb, q_xk⟩, ⟨q_ya, q_yb, q_yk⟩⟩ : P2)).tmod 8), offV ((dirV (⟨⟨p_xa, p_xb, p_xk⟩, ⟨p_ya, p_yb, p_yk⟩⟩ : P2) (⟨⟨q_xa, q_xb, q_xk⟩, ⟨q_ya, q_yb, q_yk⟩⟩ : P2)).tmod 8) (⟨⟨p_xa, p_xb, p_xk⟩, ⟨p_ya, p_yb, p_yk⟩⟩ : P2)⟩ : Ln).av, iv 0]))) none)) none)) from by kernel_rfl).trans ?_
  unfold ltL ltC
  cases h1 : valP (⟨⟨p_xa, p_xb, p_xk⟩, ⟨p_ya, p_yb, p_yk⟩⟩ : P2) with
  | false => rfl
  | true =>
    cases h2 : valP (⟨⟨q_xa, q_xb, q_xk⟩, ⟨q_ya, q_yb, q_yk⟩⟩ : P2) with
    | false => rfl
    | true =>
      rcases (dir_back h1 h2).2.2 with h3 | h3
      · have h4 := dir_mod h3
        have h5 : decide ((dirV (⟨⟨p_xa, p_xb, p_xk⟩, ⟨p_ya, p_yb, p_yk⟩⟩ : P2) (⟨⟨q_xa, q_xb, q_xk⟩, ⟨q_ya, q_yb, q_yk⟩⟩ : P2)) < 0) = false := by have := inB_iff.1 h3; simp; omega
        obtain ⟨k1, k2⟩ := off_ok h4 h1
        rw [h5, k1, k2]
        cases h6 : validB (offV ((dirV (⟨⟨p_xa, p_xb, p_xk⟩, ⟨p_ya, p_yb, p_yk⟩⟩ : P2) (⟨⟨q_xa, q_xb, q_xk⟩, ⟨q_ya, q_yb, q_yk⟩⟩ : P2)).tmod 8) (⟨⟨p_xa, p_xb, p_xk⟩, ⟨p_ya, p_yb, p_yk⟩⟩ : P2)) <;> rfl
      · rw [h3]
        rfl
theorem m10 : Meets Tryd.prog GLv 10 s10 := by
  refine meetsN mix0 glv G103 Tryd.func10 (by kernel_rfl) (by kernel_rfl) s10 fun args x h => ?_
  unfold s10 at h
  split at h
  · rename_i p_xa p_xb p_xk p_ya p_yb p_yk q_xa q_xb q_xk q_ya q_yb q_yk
    simp only [Option.some.injEq, Prod.mk.injEq] at h
    obtain ⟨hp, rfl⟩ := h
    exact ⟨_, _, by kernel_rfl, e10 p_xa p_xb p_xk p_ya p_yb p_yk q_xa q_xb q_xk q_ya q_yb q_yk⟩
  · cases h
noncomputable abbrev Γ104 : List (Nat × Ctr) := (10, s10) :: Γ103
theorem G104 : Sound Tryd.prog GLv Γ104 := G103.cons m10

end Go.Proofs.YtigmgpblnoecpaaDoor
