/- Contracts of the program's functions, by the evaluator. -/
import Derived.Test.YtlcopddgplbdhaaGreatDoorC1
import Derived.Test.YtlcopddgplbdhaaGreatDoorPlC
namespace Go.Proofs.YtlcopddgplbdhaaGreatDoor
open Go.Ev
set_option linter.unusedVariables false
set_option linter.unusedSimpArgs false
set_option maxRecDepth 100000
-- impl.abs
def s121 : Ctr := fun
 | [iv x] => some (true, iv (absV x))
 | _ => none
theorem e121 (x : Int) : evN Tryz.prog GLv Γ34 (0) []  Tryz.f121 [iv x] = some (iv (absV x)) := by
 kernel_rfl
theorem m121 : MT 121 s121 := by
 refine meetsN mix0 glv G34 Tryz.func121 (by kernel_rfl) (by kernel_rfl) s121 fun args x h => ?_
 unfold s121 at h
 split at h
 ·rename_i x
  obtain ⟨hp, rfl⟩ := sm_inj h
  exact ⟨_, _, by kernel_rfl, e121 x⟩
 ·cases h
abbrev Γ35 : LC := (121, s121) :: Γ34
theorem G35 : SD Γ35 := G34.cons m121
-- impl.signOf
def s154 : Ctr := fun
 | [iv x] => some (true, iv x.sign)
 | _ => none
theorem e154 (x : Int) : evN Tryz.prog GLv Γ35 (0) []  Tryz.f154 [iv x] = some (iv x.sign) := by
 refine (show _ = some (iv (if (if x < 1 then x else 1) > -1 then if x < 1 then x else 1 else -1)) from by kernel_rfl).trans ?_
 rw [sign_gmax]
theorem m154 : MT 154 s154 := by
 refine meetsN mix0 glv G35 Tryz.func154 (by kernel_rfl) (by kernel_rfl) s154 fun args x h => ?_
 unfold s154 at h
 split at h
 ·rename_i x
  obtain ⟨hp, rfl⟩ := sm_inj h
  exact ⟨_, _, by kernel_rfl, e154 x⟩
 ·cases h
abbrev Γ36 : LC := (154, s154) :: Γ35
theorem G36 : SD Γ36 := G35.cons m154
-- math/bits.Mul64
def s171 : Ctr := fun
 | [.val (.int .u64 x), .val (.int .u64 y)] => some ((decide (0 <= x) && decide (x < 2147483648)) && (decide (0 <= y) && decide (y < 2147483648)), .tup [.val (.int .u64 0), .val (.int .u64 (x * y))])
 | _ => none
theorem e171 (x : Int) (y : Int) (hp : ((decide (0 <= x) && decide (x < 2147483648)) && (decide (0 <= y) && decide (y < 2147483648))) = true) : evN Tryz.prog GLv Γ36 (0) []  Tryz.f171 [.val (.int .u64 x), .val (.int .u64 y)] = some (.tup [.val (.int .u64 0), .val (.int .u64 (x * y))]) := by
 refine (show _ = some ((.tup [.val (.int .u64 (IntKind.u64.wrap (IntKind.u64.wrap (IntKind.u64.wrap (x.fdiv (2 ^ min (Int.toNat 32) 64) * y.fdiv (2 ^ min (Int.toNat 32) 64)) + (IntKind.u64.wrap (IntKind.u64.wrap (x.fdiv (2 ^ min (Int.toNat 32) 64) * IntKind.u64.wrap ↑(BitVec.ofInt 64 y &&& BitVec.ofInt 64 4294967295).toNat) + (IntKind.u64.wrap (IntKind.u64.wrap ↑(BitVec.ofInt 64 x &&& BitVec.ofInt 64 4294967295).toNat * IntKind.u64.wrap ↑(BitVec.ofInt 64 y &&& BitVec.ofInt 64 4294967295).toNat)).fdiv (2 ^ min (Int.toNat 32) 64))).fdiv (2 ^ min (Int.toNat 32) 64)) + (IntKind.u64.wrap (IntKind.u64.wrap ↑(BitVec.ofInt 64 (IntKind.u64.wrap (IntKind.u64.wrap (x.fdiv (2 ^ min (Int.toNat 32) 64) * IntKind.u64.wrap ↑(BitVec.ofInt 64 y &&& BitVec.ofInt 64 4294967295).toNat) + (IntKind.u64.wrap (IntKind.u64.wrap ↑(BitVec.ofInt 64 x &&& BitVec.ofInt 64 4294967295).toNat * IntKind.u64.wrap ↑(BitVec.ofInt 64 y &&& BitVec.ofInt 64 4294967295).toNat)).fdiv (2 ^ min (Int.toNat 32) 64))) &&& BitVec.ofInt 64 4294967295).toNat + IntKind.u64.wrap (IntKind.u64.wrap ↑(BitVec.ofInt 64 x &&& BitVec.ofInt 64 4294967295).toNat * y.fdiv (2 ^ min (Int.toNat 32) 64)))).fdiv (2 ^ min (Int.toNat 32) 64)))), .val (.int .u64 (IntKind.u64.wrap (x * y)))])) from by kernel_rfl).trans ?_
 simp only [Bool.and_eq_true, decide_eq_true_eq] at hp
 obtain ⟨⟨h1, h2⟩, h3, h4⟩ := hp
 obtain ⟨e1, e2⟩ := mul64_small h1 h2 h3 h4
 rw [e1, e2]
theorem m171 : MT 171 s171 := by
 refine meetsN mix0 glv G36 Tryz.func171 (by kernel_rfl) (by kernel_rfl) s171 fun args x h => ?_
 unfold s171 at h
 split at h
 ·rename_i x y
  obtain ⟨hp, rfl⟩ := sm_inj h
  exact ⟨_, _, by kernel_rfl, e171 x y hp⟩
 ·cases h
abbrev Γ37 : LC := (171, s171) :: Γ36
theorem G37 : SD Γ37 := G36.cons m171
-- impl.isGreater
def s155 : Ctr := fun
 | [iv x, iv y] => some (sB x && sB y, bv (decide (x * x > 2 * (y * y))))
 | _ => none
theorem e155 (x : Int) (y : Int) (hp : (sB x && sB y) = true) : evN Tryz.prog GLv Γ37 (0) []  Tryz.f155 [iv x, iv y] = some (bv (decide (x * x > 2 * (y * y)))) := by
 refine (show _ = cond (decide (0 <= IntKind.u64.wrap (absV x)) && decide (IntKind.u64.wrap (absV x) < 2147483648) && (decide (0 <= IntKind.u64.wrap (absV x)) && decide (IntKind.u64.wrap (absV x) < 2147483648))) ( cond (decide (0 <= IntKind.u64.wrap (absV y)) && decide (IntKind.u64.wrap (absV y) < 2147483648) && (decide (0 <= IntKind.u64.wrap (absV y)) && decide (IntKind.u64.wrap (absV y) < 2147483648))) ( cond (0 == IntKind.u64.wrap ↑(BitVec.ofInt 64 (IntKind.u64.wrap (0 * 2 ^ min (Int.toNat 1) 64)) ||| BitVec.ofInt 64 ((IntKind.u64.wrap (absV y) * IntKind.u64.wrap (absV y)).fdiv (2 ^ min (Int.toNat 63) 64))).toNat) ( some (bv (decide (IntKind.u64.wrap (absV x) * IntKind.u64.wrap (absV x) > IntKind.u64.wrap (IntKind.u64.wrap (absV y) * IntKind.u64.wrap (absV y) * 2 ^ min (Int.toNat 1) IntKind.u64.bits)))) ) ( some (bv (false)) ) ) ( none ) ) ( none ) from by kernel_rfl).trans ?_
 rw [Bool.and_eq_true] at hp
 obtain ⟨a1, a2, _⟩ := abs_u hp.1
 obtain ⟨b1, b2, _⟩ := abs_u hp.2
 rw [a1, b1, a2, b2, hi_zero hp.2, gt_eq hp.1 hp.2]
 rfl
theorem m155 : MT 155 s155 := by
 refine meetsN mix0 glv G37 Tryz.func155 (by kernel_rfl) (by kernel_rfl) s155 fun args x h => ?_
 unfold s155 at h
 split at h
 ·rename_i x y
  obtain ⟨hp, rfl⟩ := sm_inj h
  exact ⟨_, _, by kernel_rfl, e155 x y hp⟩
 ·cases h
abbrev Γ38 : LC := (155, s155) :: Γ37
theorem G38 : SD Γ38 := G37.cons m155
-- (impl.Num).sign
def s128 : Ctr := fun
 | [.agg [iv x_a, iv x_b, iv x_k]] => some (sB x_a && sB x_b, iv (sgF (⟨x_a, x_b, x_k⟩ : N3)))
 | _ => none
theorem e128 (x_a : Int) (x_b : Int) (x_k : Int) (hp : (sB x_a && sB x_b) = true) : evN Tryz.prog GLv Γ38 (0) []  Tryz.f128 [.agg [iv x_a, iv x_b, iv x_k]] = some (iv (sgF (⟨x_a, x_b, x_k⟩ : N3))) := by
 refine (show _ = cond (x_a.sign == x_b.sign) (some (iv x_a.sign)) (cond (x_b.sign == 0) (some (iv x_a.sign)) (cond (x_a.sign == 0) (some (iv x_b.sign)) (cond (sB x_a && sB x_b) (cond (!decide (x_a * x_a > 2 * (x_b * x_b))) (some (iv x_b.sign)) (some (iv x_a.sign))) none))) from by kernel_rfl).trans ?_
 rw [hp, <- sgF_alt]
 cases x_a.sign == x_b.sign <;> cases x_b.sign == 0 <;> cases x_a.sign == 0 <;> cases decide (x_a * x_a > 2 * (x_b * x_b)) <;> rfl
theorem m128 : MT 128 s128 := by
 refine meetsN mix0 glv G38 Tryz.func128 (by kernel_rfl) (by kernel_rfl) s128 fun args x h => ?_
 unfold s128 at h
 split at h
 ·rename_i x_a x_b x_k
  obtain ⟨hp, rfl⟩ := sm_inj h
  exact ⟨_, _, by kernel_rfl, e128 x_a x_b x_k hp⟩
 ·cases h
abbrev Γ39 : LC := (128, s128) :: Γ38
theorem G39 : SD Γ39 := G38.cons m128
-- (impl.Num).compare
def s129 : Ctr := fun
 | [.agg [iv x_a, iv x_b, iv x_k], .agg [iv y_a, iv y_b, iv y_k]] => some (pk (⟨x_a, x_b, x_k⟩ : N3) (⟨y_a, y_b, y_k⟩ : N3) && (sB (subF (⟨x_a, x_b, x_k⟩ : N3) (⟨y_a, y_b, y_k⟩ : N3)).a && sB (subF (⟨x_a, x_b, x_k⟩ : N3) (⟨y_a, y_b, y_k⟩ : N3)).b), iv (sgF (subF (⟨x_a, x_b, x_k⟩ : N3) (⟨y_a, y_b, y_k⟩ : N3))))
 | _ => none
theorem e129 (x_a : Int) (x_b : Int) (x_k : Int) (y_a : Int) (y_b : Int) (y_k : Int) (hp : (pk (⟨x_a, x_b, x_k⟩ : N3) (⟨y_a, y_b, y_k⟩ : N3) && (sB (subF (⟨x_a, x_b, x_k⟩ : N3) (⟨y_a, y_b, y_k⟩ : N3)).a && sB (subF (⟨x_a, x_b, x_k⟩ : N3) (⟨y_a, y_b, y_k⟩ : N3)).b)) = true) : evN Tryz.prog GLv Γ39 (0) []  Tryz.f129 [.agg [iv x_a, iv x_b, iv x_k], .agg [iv y_a, iv y_b, iv y_k]] = some (iv (sgF (subF (⟨x_a, x_b, x_k⟩ : N3) (⟨y_a, y_b, y_k⟩ : N3)))) := by
 rw [Bool.and_eq_true] at hp
 refine (show _ = cond (pk (⟨x_a, x_b, x_k⟩ : N3) (⟨y_a, y_b, y_k⟩ : N3)) (cond (sB (subF (⟨x_a, x_b, x_k⟩ : N3) (⟨y_a, y_b, y_k⟩ : N3)).a && sB (subF (⟨x_a, x_b, x_k⟩ : N3) (⟨y_a, y_b, y_k⟩ : N3)).b) (some (iv (sgF (subF (⟨x_a, x_b, x_k⟩ : N3) (⟨y_a, y_b, y_k⟩ : N3))))) none) none from by kernel_rfl).trans ?_
 rw [hp.1, hp.2]
 rfl
theorem m129 : MT 129 s129 := by
 refine meetsN mix0 glv G39 Tryz.func129 (by kernel_rfl) (by kernel_rfl) s129 fun args x h => ?_
 unfold s129 at h
 split at h
 ·rename_i x_a x_b x_k y_a y_b y_k
  obtain ⟨hp, rfl⟩ := sm_inj h
  exact ⟨_, _, by kernel_rfl, e129 x_a x_b x_k y_a y_b y_k hp⟩
 ·cases h
abbrev Γ40 : LC := (129, s129) :: Γ39
theorem G40 : SD Γ40 := G39.cons m129
-- impl.direction
def s91 : Ctr := fun
 | [.agg [iv p_xa, iv p_xb, iv p_xk, iv p_ya, iv p_yb, iv p_yk], .agg [iv q_xa, iv q_xb, iv q_xk, iv q_ya, iv q_yb, iv q_yk]] => some (valP (⟨⟨p_xa, p_xb, p_xk⟩, ⟨p_ya, p_yb, p_yk⟩⟩ : P2) && valP (⟨⟨q_xa, q_xb, q_xk⟩, ⟨q_ya, q_yb, q_yk⟩⟩ : P2), iv (dirV (⟨⟨p_xa, p_xb, p_xk⟩, ⟨p_ya, p_yb, p_yk⟩⟩ : P2) (⟨⟨q_xa, q_xb, q_xk⟩, ⟨q_ya, q_yb, q_yk⟩⟩ : P2)))
 | _ => none
theorem r91_step (K n : Nat) (d : Int) (w : P2) : runL Tryz.prog GLv Γ40 K kx4 Tryz.f91 0 (n + 1) (stL Tryz.f91.ntmps [.non, .non, .non, .non, .non, .own 38 [iv w.x.a, iv w.x.b, iv w.x.k, iv w.y.a, iv w.y.b, iv w.y.k], .non, .non, .non, .non, .non, iv (d)]) = cond (decide (d < 16)) (cond (inB d 0 15) (cond (pkC (vecP d) w) (cond (eqN (crsF (vecP d) w) z3)
  (cond (pkD (vecP d) w) (cond (sB (dotF (vecP d) w).a && sB (dotF (vecP d) w).b) (cond (decide (sgF (dotF (vecP d) w) > 0)) (some (iv d)) (runL Tryz.prog GLv Γ40 K kx4 Tryz.f91 0 n (stL Tryz.f91.ntmps [.non, .non, .non, .non, .non, .own 38 [iv w.x.a, iv w.x.b, iv w.x.k, iv w.y.a, iv w.y.b, iv w.y.k], .non, .non, .non, .non, .non, iv (wr (d + 1))]))) none) none) (runL Tryz.prog GLv Γ40 K kx4 Tryz.f91 0 n (stL Tryz.f91.ntmps [.non, .non, .non, .non, .non, .own 38 [iv w.x.a, iv w.x.b, iv w.x.k, iv w.y.a, iv w.y.b, iv w.y.k], .non, .non, .non, .non, .non, iv (wr (d + 1))]))) none) none) (some (iv (-1))) := by kernel_rfl
theorem r91_run (K : Nat) (w : P2) (v : V4) (hw : Go.Ev.Way w v) : ∀ (n : Nat) (d : Int) (m : Nat), 0 <= d -> d + n = 16 -> n < m -> runL Tryz.prog GLv Γ40 K kx4 Tryz.f91 0 m (stL Tryz.f91.ntmps [.non, .non, .non, .non, .non, .own 38 [iv w.x.a, iv w.x.b, iv w.x.k, iv w.y.a, iv w.y.b, iv w.y.k], .non, .non, .non, .non, .non, iv (d)]) = some (iv (dirF n d w)) := by
 intro n
 induction n with
 | zero =>
  intro d m h0 h1 hm
  obtain ⟨m, rfl⟩ : ∃ m', m = m' + 1 := ⟨m - 1, by omega⟩
  rw [r91_step, show decide (d < 16) = false by simp; omega]
  rfl
 | succ n ih =>
  intro d m h0 h1 hm
  obtain ⟨m, rfl⟩ : ∃ m', m = m' + 1 := ⟨m - 1, by omega⟩
  have hd : inB d 0 15 = true := inB_iff.2 (by omega)
  obtain ⟨k1, k2, k3, _, _⟩ := way_ok hd hw
  rw [r91_step, show decide (d < 16) = true by simp; omega, hd, k1, k2, k3, wr_in (n := d + 1) (by omega) (by omega), ih (d + 1) m (by omega) (by omega) (by omega)]
  rw [dirF_succ]
  cases eqN (crsF (vecP d) w) z3 <;> cases decide (sgF (dotF (vecP d) w) > 0) <;> rfl
theorem e91 (p_xa : Int) (p_xb : Int) (p_xk : Int) (p_ya : Int) (p_yb : Int) (p_yk : Int) (q_xa : Int) (q_xb : Int) (q_xk : Int) (q_ya : Int) (q_yb : Int) (q_yk : Int) (hp : (valP (⟨⟨p_xa, p_xb, p_xk⟩, ⟨p_ya, p_yb, p_yk⟩⟩ : P2) && valP (⟨⟨q_xa, q_xb, q_xk⟩, ⟨q_ya, q_yb, q_yk⟩⟩ : P2)) = true) : evN Tryz.prog GLv Γ40 (17) kx4  Tryz.f91 [.agg [iv p_xa, iv p_xb, iv p_xk, iv p_ya, iv p_yb, iv p_yk], .agg [iv q_xa, iv q_xb, iv q_xk, iv q_ya, iv q_yb, iv q_yk]] = some (iv (dirV (⟨⟨p_xa, p_xb, p_xk⟩, ⟨p_ya, p_yb, p_yk⟩⟩ : P2) (⟨⟨q_xa, q_xb, q_xk⟩, ⟨q_ya, q_yb, q_yk⟩⟩ : P2))) := by
 rw [Bool.and_eq_true] at hp
 obtain ⟨v, u, _, _, hw, hk⟩ := way_of hp.1 hp.2
 refine (show _ = cond (pkP (⟨⟨q_xa, q_xb, q_xk⟩, ⟨q_ya, q_yb, q_yk⟩⟩ : P2) (⟨⟨p_xa, p_xb, p_xk⟩, ⟨p_ya, p_yb, p_yk⟩⟩ : P2)) (runL Tryz.prog GLv Γ40 17 kx4 Tryz.f91 0 17 (stL Tryz.f91.ntmps [.non, .non, .non, .non, .non, .own 38 [iv (subP (⟨⟨q_xa, q_xb, q_xk⟩, ⟨q_ya, q_yb, q_yk⟩⟩ : P2) (⟨⟨p_xa, p_xb, p_xk⟩, ⟨p_ya, p_yb, p_yk⟩⟩ : P2)).x.a, iv (subP (⟨⟨q_xa, q_xb, q_xk⟩, ⟨q_ya, q_yb, q_yk⟩⟩ : P2) (⟨⟨p_xa, p_xb, p_xk⟩, ⟨p_ya, p_yb, p_yk⟩⟩ : P2)).x.b, iv (subP (⟨⟨q_xa, q_xb, q_xk⟩, ⟨q_ya, q_yb, q_yk⟩⟩ : P2) (⟨⟨p_xa, p_xb, p_xk⟩, ⟨p_ya, p_yb, p_yk⟩⟩ : P2)).x.k, iv (subP (⟨⟨q_xa, q_xb, q_xk⟩, ⟨q_ya, q_yb, q_yk⟩⟩ : P2) (⟨⟨p_xa, p_xb, p_xk⟩, ⟨p_ya, p_yb, p_yk⟩⟩ : P2)).y.a, iv (subP (⟨⟨q_xa, q_xb, q_xk⟩, ⟨q_ya, q_yb, q_yk⟩⟩ : P2) (⟨⟨p_xa, p_xb, p_xk⟩, ⟨p_ya, p_yb, p_yk⟩⟩ : P2)).y.b, iv (subP (⟨⟨q_xa, q_xb, q_xk⟩, ⟨q_ya, q_yb, q_yk⟩⟩ : P2) (⟨⟨p_xa, p_xb, p_xk⟩, ⟨p_ya, p_yb, p_yk⟩⟩ : P2)).y.k], .non, .non, .non, .non, .non, iv (0)])) none from by kernel_rfl).trans ?_
 rw [hk, cond_true, r91_run 17 (subP (⟨⟨q_xa, q_xb, q_xk⟩, ⟨q_ya, q_yb, q_yk⟩⟩ : P2) (⟨⟨p_xa, p_xb, p_xk⟩, ⟨p_ya, p_yb, p_yk⟩⟩ : P2)) _ hw 16 0 17 (by decide) (by decide) (by decide)]
 rfl
theorem m91 : MT 91 s91 := by
 refine meetsN mix0 glv G40 Tryz.func91 (by kernel_rfl) (by kernel_rfl) s91 fun args x h => ?_
 unfold s91 at h
 split at h
 ·rename_i p_xa p_xb p_xk p_ya p_yb p_yk q_xa q_xb q_xk q_ya q_yb q_yk
  obtain ⟨hp, rfl⟩ := sm_inj h
  exact ⟨_, _, by kernel_rfl, e91 p_xa p_xb p_xk p_ya p_yb p_yk q_xa q_xb q_xk q_ya q_yb q_yk hp⟩
 ·cases h
abbrev Γ41 : LC := (91, s91) :: Γ40
theorem G41 : SD Γ41 := G40.cons m91
end Go.Proofs.YtlcopddgplbdhaaGreatDoor
