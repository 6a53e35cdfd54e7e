/- Contracts of the program's functions, by the evaluator. -/
import Derived.Test.YtlcopddgplbdhaaGreatDoorC3
import Derived.Test.YtlcopddgplbdhaaGreatDoorPlD
namespace Go.Proofs.YtlcopddgplbdhaaGreatDoor
open Go.Ev
set_option linter.unusedVariables false
set_option linter.unusedSimpArgs false
set_option maxRecDepth 100000
-- impl.turned
def s92 : Ctr := fun
 | [iv d] => some (true, iv (d % 16))
 | _ => none
theorem e92 (d : Int) : evN Tryz.prog GLv Γ45 (0) []  Tryz.f92 [iv d] = some (iv (d % 16)) := by
 exact (show _ = some (iv (and64 d 15)) from by kernel_rfl).trans (by rw [and64_15])
theorem m92 : MT 92 s92 := by
 refine meetsN mix0 glv G45 Tryz.func92 (by kernel_rfl) (by kernel_rfl) s92 fun args x h => ?_
 unfold s92 at h
 split at h
 ·rename_i d
  obtain ⟨hp, rfl⟩ := sm_inj h
  exact ⟨_, _, by kernel_rfl, e92 d⟩
 ·cases h
abbrev Γ46 : LC := (92, s92) :: Γ45
theorem G46 : SD Γ46 := G45.cons m92
-- spec.l02Mod
def s66b : Ctr := fun
 | [iv d] => some (inB d (-100) 100, iv (d % 16))
 | _ => none
theorem e66b (d : Int) (hp : (inB d (-100) 100) = true) : evN Tryz.prog GLv Γ46 (0) []  Tryz.f66 [iv d] = some (iv (d % 16)) := by
 exact (show _ = some (iv ((wr (d.tmod 16 + 16)).tmod 16)) from by kernel_rfl).trans (by rw [mod_ok hp])
theorem m66b : MT 66 s66b := by
 refine meetsN mix0 glv G46 Tryz.func66 (by kernel_rfl) (by kernel_rfl) s66b fun args x h => ?_
 unfold s66b at h
 split at h
 ·rename_i d
  obtain ⟨hp, rfl⟩ := sm_inj h
  exact ⟨_, _, by kernel_rfl, e66b d hp⟩
 ·cases h
abbrev Γ47 : LC := (66, s66b) :: Γ46
theorem G47 : SD Γ47 := G46.cons m66b
-- spec.l02Vec
def s104b : Ctr := fun
 | [iv d] => some (inB d 0 19, (vecP (d % 16)).av)
 | _ => none
theorem e104b (d : Int) (hp : (inB d 0 19) = true) : evN Tryz.prog GLv Γ47 (0) []  Tryz.f104 [iv d] = some ((vecP (d % 16)).av) := by
 rw [inB_iff] at hp
 have hh : d = 0 \/ d = 1 \/ d = 2 \/ d = 3 \/ d = 4 \/ d = 5 \/ d = 6 \/ d = 7 \/ d = 8 \/ d = 9 \/ d = 10 \/ d = 11 \/ d = 12 \/ d = 13 \/ d = 14 \/ d = 15 \/ d = 16 \/ d = 17 \/ d = 18 \/ d = 19 := by omega
 clear hp
 rcases hh with rfl | rfl | rfl | rfl | rfl | rfl | rfl | rfl | rfl | rfl | rfl | rfl | rfl | rfl | rfl | rfl | rfl | rfl | rfl | rfl
 all_goals (show _ = _; kernel_rfl)
theorem m104b : MT 104 s104b := by
 refine meetsN mix0 glv G47 Tryz.func104 (by kernel_rfl) (by kernel_rfl) s104b fun args x h => ?_
 unfold s104b at h
 split at h
 ·rename_i d
  obtain ⟨hp, rfl⟩ := sm_inj h
  exact ⟨_, _, by kernel_rfl, e104b d hp⟩
 ·cases h
abbrev Γ48 : LC := (104, s104b) :: Γ47
theorem G48 : SD Γ48 := G47.cons m104b
-- spec.l02Dot
def s70b : Ctr := fun
 | [iv d, .agg [iv p_xa, iv p_xb, iv p_xk, iv p_ya, iv p_yb, iv p_yk]] => some (inB d 0 19 && pkD (vecP (d % 16)) (⟨⟨p_xa, p_xb, p_xk⟩, ⟨p_ya, p_yb, p_yk⟩⟩ : P2), (dotF (vecP (d % 16)) (⟨⟨p_xa, p_xb, p_xk⟩, ⟨p_ya, p_yb, p_yk⟩⟩ : P2)).av)
 | _ => none
theorem e70b (d : Int) (p_xa : Int) (p_xb : Int) (p_xk : Int) (p_ya : Int) (p_yb : Int) (p_yk : Int) (hp : (inB d 0 19 && pkD (vecP (d % 16)) (⟨⟨p_xa, p_xb, p_xk⟩, ⟨p_ya, p_yb, p_yk⟩⟩ : P2)) = true) : evN Tryz.prog GLv Γ48 (0) []  Tryz.f70 [iv d, .agg [iv p_xa, iv p_xb, iv p_xk, iv p_ya, iv p_yb, iv p_yk]] = some ((dotF (vecP (d % 16)) (⟨⟨p_xa, p_xb, p_xk⟩, ⟨p_ya, p_yb, p_yk⟩⟩ : P2)).av) := by
 simp only [pkD, Bool.and_eq_true] at hp
 obtain ⟨h0, h1, h2, h3⟩ := hp
 refine (show _ = cond (inB d 0 19) (cond (pkm (vecP (d % 16)).x (⟨p_xa, p_xb, p_xk⟩ : N3)) (cond (pkm (vecP (d % 16)).y (⟨p_ya, p_yb, p_yk⟩ : N3)) (cond (pk (mulF (vecP (d % 16)).x (⟨p_xa, p_xb, p_xk⟩ : N3)) (mulF (vecP (d % 16)).y (⟨p_ya, p_yb, p_yk⟩ : N3))) (some (dotF (vecP (d % 16)) (⟨⟨p_xa, p_xb, p_xk⟩, ⟨p_ya, p_yb, p_yk⟩⟩ : P2)).av) none) none) none) none from by kernel_rfl).trans ?_
 rw [h0, h1, h2, h3]
 rfl
theorem m70b : MT 70 s70b := by
 refine meetsN mix0 glv G48 Tryz.func70 (by kernel_rfl) (by kernel_rfl) s70b fun args x h => ?_
 unfold s70b at h
 split at h
 ·rename_i d p_xa p_xb p_xk p_ya p_yb p_yk
  obtain ⟨hp, rfl⟩ := sm_inj h
  exact ⟨_, _, by kernel_rfl, e70b d p_xa p_xb p_xk p_ya p_yb p_yk hp⟩
 ·cases h
abbrev Γ49 : LC := (70, s70b) :: Γ48
theorem G49 : SD Γ49 := G48.cons m70b
-- spec.l02Zero
def s101 : Ctr := fun
 | [.agg [iv x_a, iv x_b, iv x_k]] => some (true, bv (zroN (⟨x_a, x_b, x_k⟩ : N3)))
 | _ => none
theorem e101 (x_a : Int) (x_b : Int) (x_k : Int) : evN Tryz.prog GLv Γ49 (0) []  Tryz.f101 [.agg [iv x_a, iv x_b, iv x_k]] = some (bv (zroN (⟨x_a, x_b, x_k⟩ : N3))) := by
 refine (show _ = cond (x_a == 0) (some (bv (x_b == 0))) (some (bv false)) from by kernel_rfl).trans ?_
 unfold zroN
 cases (x_a == 0) <;> rfl
theorem m101 : MT 101 s101 := by
 refine meetsN mix0 glv G49 Tryz.func101 (by kernel_rfl) (by kernel_rfl) s101 fun args x h => ?_
 unfold s101 at h
 split at h
 ·rename_i x_a x_b x_k
  obtain ⟨hp, rfl⟩ := sm_inj h
  exact ⟨_, _, by kernel_rfl, e101 x_a x_b x_k⟩
 ·cases h
abbrev Γ50 : LC := (101, s101) :: Γ49
theorem G50 : SD Γ50 := G49.cons m101
-- spec.l02Direction
def s67 : Ctr := fun
 | [.agg [iv w_xa, iv w_xb, iv w_xk, iv w_ya, iv w_yb, iv w_yk]] => some (wayB (⟨⟨w_xa, w_xb, w_xk⟩, ⟨w_ya, w_yb, w_yk⟩⟩ : P2), iv (dirF 16 0 (⟨⟨w_xa, w_xb, w_xk⟩, ⟨w_ya, w_yb, w_yk⟩⟩ : P2)))
 | _ => none
theorem r67_step (K n : Nat) (d : Int) (w : P2) : runL Tryz.prog GLv Γ50 K kx5 Tryz.f67 0 (n + 1) (stL Tryz.f67.ntmps [.non, .own 69 [iv w.x.a, iv w.x.b, iv w.x.k, iv w.y.a, iv w.y.b, iv w.y.k], .non, iv (d)]) = cond (decide (d < 16)) (cond (inB (wr (d + 4)) 0 19 && pkD (vecP (wr (d + 4) % 16)) w) (cond (zroN (dotF (vecP (wr (d + 4) % 16)) w))
  (cond (inB d 0 19 && pkD (vecP (d % 16)) w) (cond (sB (dotF (vecP (d % 16)) w).a && sB (dotF (vecP (d % 16)) w).b) (cond (decide (sgF (dotF (vecP (d % 16)) w) > 0)) (some (iv d)) (runL Tryz.prog GLv Γ50 K kx5 Tryz.f67 0 n (stL Tryz.f67.ntmps [.non, .own 69 [iv w.x.a, iv w.x.b, iv w.x.k, iv w.y.a, iv w.y.b, iv w.y.k], .non, iv (wr (d + 1))]))) none) none) (runL Tryz.prog GLv Γ50 K kx5 Tryz.f67 0 n (stL Tryz.f67.ntmps [.non, .own 69 [iv w.x.a, iv w.x.b, iv w.x.k, iv w.y.a, iv w.y.b, iv w.y.k], .non, iv (wr (d + 1))]))) none) (some (iv (-1))) := by kernel_rfl
theorem r67_run (K : Nat) (w : P2) (v : V4) (hw : Go.Ev.Way w v) : ∀ (n : Nat) (d : Int) (m : Nat), 0 <= d -> d + n = 16 -> n < m -> runL Tryz.prog GLv Γ50 K kx5 Tryz.f67 0 m (stL Tryz.f67.ntmps [.non, .own 69 [iv w.x.a, iv w.x.b, iv w.x.k, iv w.y.a, iv w.y.b, iv w.y.k], .non, iv (d)]) = some (iv (dirF n d w)) := by
 intro n
 induction n with
 | zero =>
  intro d m h0 h1 hm
  obtain ⟨m, rfl⟩ : ∃ m', m = m' + 1 := ⟨m - 1, by omega⟩
  rw [r67_step, show decide (d < 16) = false by simp; omega]
  rfl
 | succ n ih =>
  intro d m h0 h1 hm
  obtain ⟨m, rfl⟩ : ∃ m', m = m' + 1 := ⟨m - 1, by omega⟩
  have hd : inB d 0 15 = true := inB_iff.2 (by omega)
  have hd4 : inB ((d + 4) % 16) 0 15 = true := inB_iff.2 (by omega)
  obtain ⟨k1, k2, k3, _, _⟩ := way_ok hd hw
  obtain ⟨_, k4, _, _, _⟩ := way_ok hd4 hw
  rw [r67_step, show decide (d < 16) = true by simp; omega, wr_in (n := d + 4) (by omega) (by omega), show inB (d + 4) 0 19 = true from inB_iff.2 (by omega), show inB d 0 19 = true from inB_iff.2 (by omega), k4,
   mod_small hd, k2, k3, zro_perp hd hw, wr_in (n := d + 1) (by omega) (by omega), ih (d + 1) m (by omega) (by omega) (by omega)]
  rw [dirF_succ]
  cases eqN (crsF (vecP d) w) z3 <;> cases decide (sgF (dotF (vecP d) w) > 0) <;> rfl
theorem e67 (w_xa : Int) (w_xb : Int) (w_xk : Int) (w_ya : Int) (w_yb : Int) (w_yk : Int) (hp : (wayB (⟨⟨w_xa, w_xb, w_xk⟩, ⟨w_ya, w_yb, w_yk⟩⟩ : P2)) = true) : evN Tryz.prog GLv Γ50 (17) kx5  Tryz.f67 [.agg [iv w_xa, iv w_xb, iv w_xk, iv w_ya, iv w_yb, iv w_yk]] = some (iv (dirF 16 0 (⟨⟨w_xa, w_xb, w_xk⟩, ⟨w_ya, w_yb, w_yk⟩⟩ : P2))) := by
 obtain ⟨v, hw⟩ := wayB_way hp
 refine (show _ = runL Tryz.prog GLv Γ50 17 kx5 Tryz.f67 0 17 (stL Tryz.f67.ntmps [.non, .own 69 [iv (⟨⟨w_xa, w_xb, w_xk⟩, ⟨w_ya, w_yb, w_yk⟩⟩ : P2).x.a, iv (⟨⟨w_xa, w_xb, w_xk⟩, ⟨w_ya, w_yb, w_yk⟩⟩ : P2).x.b, iv (⟨⟨w_xa, w_xb, w_xk⟩, ⟨w_ya, w_yb, w_yk⟩⟩ : P2).x.k, iv (⟨⟨w_xa, w_xb, w_xk⟩, ⟨w_ya, w_yb, w_yk⟩⟩ : P2).y.a, iv (⟨⟨w_xa, w_xb, w_xk⟩, ⟨w_ya, w_yb, w_yk⟩⟩ : P2).y.b, iv (⟨⟨w_xa, w_xb, w_xk⟩, ⟨w_ya, w_yb, w_yk⟩⟩ : P2).y.k], .non, iv (0)]) from by kernel_rfl).trans ?_
 rw [r67_run 17 (⟨⟨w_xa, w_xb, w_xk⟩, ⟨w_ya, w_yb, w_yk⟩⟩ : P2) _ hw 16 0 17 (by decide) (by decide) (by decide)]
theorem m67 : MT 67 s67 := by
 refine meetsN mix0 glv G50 Tryz.func67 (by kernel_rfl) (by kernel_rfl) s67 fun args x h => ?_
 unfold s67 at h
 split at h
 ·rename_i w_xa w_xb w_xk w_ya w_yb w_yk
  obtain ⟨hp, rfl⟩ := sm_inj h
  exact ⟨_, _, by kernel_rfl, e67 w_xa w_xb w_xk w_ya w_yb w_yk hp⟩
 ·cases h
abbrev Γ51 : LC := (67, s67) :: Γ50
theorem G51 : SD Γ51 := G50.cons m67
-- spec.l01Compare
def s100 : Ctr := fun
 | [.agg [iv x_a, iv x_b, iv x_k], .agg [iv y_a, iv y_b, iv y_k]] => some (validB (⟨x_a, x_b, x_k⟩ : N3) && validB (⟨y_a, y_b, y_k⟩ : N3), iv (sgF (subF (⟨x_a, x_b, x_k⟩ : N3) (⟨y_a, y_b, y_k⟩ : N3))))
 | _ => none
theorem e100 (x_a : Int) (x_b : Int) (x_k : Int) (y_a : Int) (y_b : Int) (y_k : Int) (hp : (validB (⟨x_a, x_b, x_k⟩ : N3) && validB (⟨y_a, y_b, y_k⟩ : N3)) = true) : evN Tryz.prog GLv Γ51 (0) []  Tryz.f100 [.agg [iv x_a, iv x_b, iv x_k], .agg [iv y_a, iv y_b, iv y_k]] = some (iv (sgF (subF (⟨x_a, x_b, x_k⟩ : N3) (⟨y_a, y_b, y_k⟩ : N3)))) := by
 rw [Bool.and_eq_true] at hp
 refine (show _ = cond (pk (⟨x_a, x_b, x_k⟩ : N3) (⟨y_a, y_b, y_k⟩ : N3)) (cond (sB (subF (⟨x_a, x_b, x_k⟩ : N3) (⟨y_a, y_b, y_k⟩ : N3)).a && sB (subF (⟨x_a, x_b, x_k⟩ : N3) (⟨y_a, y_b, y_k⟩ : N3)).b) (some (iv (sgF (subF (⟨x_a, x_b, x_k⟩ : N3) (⟨y_a, y_b, y_k⟩ : N3))))) (none)) (none) from by kernel_rfl).trans ?_
 rw [(vpk hp.1 hp.2).1, cmp_ok hp.1 hp.2]
 rfl
theorem m100 : MT 100 s100 := by
 refine meetsN mix0 glv G51 Tryz.func100 (by kernel_rfl) (by kernel_rfl) s100 fun args x h => ?_
 unfold s100 at h
 split at h
 ·rename_i x_a x_b x_k y_a y_b y_k
  obtain ⟨hp, rfl⟩ := sm_inj h
  exact ⟨_, _, by kernel_rfl, e100 x_a x_b x_k y_a y_b y_k hp⟩
 ·cases h
abbrev Γ52 : LC := (100, s100) :: Γ51
theorem G52 : SD Γ52 := G51.cons m100
-- (impl.Point).compare
def s93 : Ctr := fun
 | [.agg [iv p_xa, iv p_xb, iv p_xk, iv p_ya, iv p_yb, iv p_yk], .agg [iv q_xa, iv q_xb, iv q_xk, iv q_ya, iv q_yb, iv q_yk]] => some (valP (⟨⟨p_xa, p_xb, p_xk⟩, ⟨p_ya, p_yb, p_yk⟩⟩ : P2) && valP (⟨⟨q_xa, q_xb, q_xk⟩, ⟨q_ya, q_yb, q_yk⟩⟩ : P2), iv (cpP (⟨⟨p_xa, p_xb, p_xk⟩, ⟨p_ya, p_yb, p_yk⟩⟩ : P2) (⟨⟨q_xa, q_xb, q_xk⟩, ⟨q_ya, q_yb, q_yk⟩⟩ : P2)))
 | _ => none
theorem e93 (p_xa : Int) (p_xb : Int) (p_xk : Int) (p_ya : Int) (p_yb : Int) (p_yk : Int) (q_xa : Int) (q_xb : Int) (q_xk : Int) (q_ya : Int) (q_yb : Int) (q_yk : Int) (hp : (valP (⟨⟨p_xa, p_xb, p_xk⟩, ⟨p_ya, p_yb, p_yk⟩⟩ : P2) && valP (⟨⟨q_xa, q_xb, q_xk⟩, ⟨q_ya, q_yb, q_yk⟩⟩ : P2)) = true) : evN Tryz.prog GLv Γ52 (0) []  Tryz.f93 [.agg [iv p_xa, iv p_xb, iv p_xk, iv p_ya, iv p_yb, iv p_yk], .agg [iv q_xa, iv q_xb, iv q_xk, iv q_ya, iv q_yb, iv q_yk]] = some (iv (cpP (⟨⟨p_xa, p_xb, p_xk⟩, ⟨p_ya, p_yb, p_yk⟩⟩ : P2) (⟨⟨q_xa, q_xb, q_xk⟩, ⟨q_ya, q_yb, q_yk⟩⟩ : P2))) := by
 simp only [Bool.and_eq_true, valP] at hp
 obtain ⟨⟨h1, h2⟩, h3, h4⟩ := hp
 refine (show _ = cond (pk (⟨p_xa, p_xb, p_xk⟩ : N3) (⟨q_xa, q_xb, q_xk⟩ : N3) && (sB (subF (⟨p_xa, p_xb, p_xk⟩ : N3) (⟨q_xa, q_xb, q_xk⟩ : N3)).a && sB (subF (⟨p_xa, p_xb, p_xk⟩ : N3) (⟨q_xa, q_xb, q_xk⟩ : N3)).b)) (cond (sgF (subF (⟨p_xa, p_xb, p_xk⟩ : N3) (⟨q_xa, q_xb, q_xk⟩ : N3)) != 0) (some (iv (sgF (subF (⟨p_xa, p_xb, p_xk⟩ : N3) (⟨q_xa, q_xb, q_xk⟩ : N3))))) (cond (pk (⟨p_ya, p_yb, p_yk⟩ : N3) (⟨q_ya, q_yb, q_yk⟩ : N3) && (sB (subF (⟨p_ya, p_yb, p_yk⟩ : N3) (⟨q_ya, q_yb, q_yk⟩ : N3)).a && sB (subF (⟨p_ya, p_yb, p_yk⟩ : N3) (⟨q_ya, q_yb, q_yk⟩ : N3)).b)) (some (iv (sgF (subF (⟨p_ya, p_yb, p_yk⟩ : N3) (⟨q_ya, q_yb, q_yk⟩ : N3))))) (none))) (none) from by kernel_rfl).trans ?_
 rw [(vpk h1 h3).1, cmp_ok h1 h3, (vpk h2 h4).1, cmp_ok h2 h4]
 unfold cpP
 cases (sgF (subF (⟨p_xa, p_xb, p_xk⟩ : N3) (⟨q_xa, q_xb, q_xk⟩ : N3)) != 0) <;> rfl
theorem m93 : MT 93 s93 := by
 refine meetsN mix0 glv G52 Tryz.func93 (by kernel_rfl) (by kernel_rfl) s93 fun args x h => ?_
 unfold s93 at h
 split at h
 ·rename_i p_xa p_xb p_xk p_ya p_yb p_yk q_xa q_xb q_xk q_ya q_yb q_yk
  obtain ⟨hp, rfl⟩ := sm_inj h
  exact ⟨_, _, by kernel_rfl, e93 p_xa p_xb p_xk p_ya p_yb p_yk q_xa q_xb q_xk q_ya q_yb q_yk hp⟩
 ·cases h
abbrev Γ53 : LC := (93, s93) :: Γ52
theorem G53 : SD Γ53 := G52.cons m93
-- spec.l02Before
def s65 : Ctr := fun
 | [.agg [iv p_xa, iv p_xb, iv p_xk, iv p_ya, iv p_yb, iv p_yk], .agg [iv q_xa, iv q_xb, iv q_xk, iv q_ya, iv q_yb, iv q_yk]] => some (valP (⟨⟨p_xa, p_xb, p_xk⟩, ⟨p_ya, p_yb, p_yk⟩⟩ : P2) && valP (⟨⟨q_xa, q_xb, q_xk⟩, ⟨q_ya, q_yb, q_yk⟩⟩ : P2), iv (cpP (⟨⟨p_xa, p_xb, p_xk⟩, ⟨p_ya, p_yb, p_yk⟩⟩ : P2) (⟨⟨q_xa, q_xb, q_xk⟩, ⟨q_ya, q_yb, q_yk⟩⟩ : P2)))
 | _ => none
theorem e65 (p_xa : Int) (p_xb : Int) (p_xk : Int) (p_ya : Int) (p_yb : Int) (p_yk : Int) (q_xa : Int) (q_xb : Int) (q_xk : Int) (q_ya : Int) (q_yb : Int) (q_yk : Int) (hp : (valP (⟨⟨p_xa, p_xb, p_xk⟩, ⟨p_ya, p_yb, p_yk⟩⟩ : P2) && valP (⟨⟨q_xa, q_xb, q_xk⟩, ⟨q_ya, q_yb, q_yk⟩⟩ : P2)) = true) : evN Tryz.prog GLv Γ53 (0) []  Tryz.f65 [.agg [iv p_xa, iv p_xb, iv p_xk, iv p_ya, iv p_yb, iv p_yk], .agg [iv q_xa, iv q_xb, iv q_xk, iv q_ya, iv q_yb, iv q_yk]] = some (iv (cpP (⟨⟨p_xa, p_xb, p_xk⟩, ⟨p_ya, p_yb, p_yk⟩⟩ : P2) (⟨⟨q_xa, q_xb, q_xk⟩, ⟨q_ya, q_yb, q_yk⟩⟩ : P2))) := by
 simp only [Bool.and_eq_true, valP] at hp
 obtain ⟨⟨h1, h2⟩, h3, h4⟩ := hp
 refine (show _ = cond (validB (⟨p_xa, p_xb, p_xk⟩ : N3) && validB (⟨q_xa, q_xb, q_xk⟩ : N3)) (cond (sgF (subF (⟨p_xa, p_xb, p_xk⟩ : N3) (⟨q_xa, q_xb, q_xk⟩ : N3)) != 0) (some (iv (sgF (subF (⟨p_xa, p_xb, p_xk⟩ : N3) (⟨q_xa, q_xb, q_xk⟩ : N3))))) (cond (validB (⟨p_ya, p_yb, p_yk⟩ : N3) && validB (⟨q_ya, q_yb, q_yk⟩ : N3)) (some (iv (sgF (subF (⟨p_ya, p_yb, p_yk⟩ : N3) (⟨q_ya, q_yb, q_yk⟩ : N3))))) (none))) (none) from by kernel_rfl).trans ?_
 rw [h1, h3, h2, h4]
 unfold cpP
 cases (sgF (subF (⟨p_xa, p_xb, p_xk⟩ : N3) (⟨q_xa, q_xb, q_xk⟩ : N3)) != 0) <;> rfl
theorem m65 : MT 65 s65 := by
 refine meetsN mix0 glv G53 Tryz.func65 (by kernel_rfl) (by kernel_rfl) s65 fun args x h => ?_
 unfold s65 at h
 split at h
 ·rename_i p_xa p_xb p_xk p_ya p_yb p_yk q_xa q_xb q_xk q_ya q_yb q_yk
  obtain ⟨hp, rfl⟩ := sm_inj h
  exact ⟨_, _, by kernel_rfl, e65 p_xa p_xb p_xk p_ya p_yb p_yk q_xa q_xb q_xk q_ya q_yb q_yk hp⟩
 ·cases h
abbrev Γ54 : LC := (65, s65) :: Γ53
theorem G54 : SD Γ54 := G53.cons m65
-- impl.areValid$1
def s90 : Ctr := fun
 | [.agg [iv p_xa, iv p_xb, iv p_xk, iv p_ya, iv p_yb, iv p_yk]] => some (true, bv (!(valP (⟨⟨p_xa, p_xb, p_xk⟩, ⟨p_ya, p_yb, p_yk⟩⟩ : P2))))
 | _ => none
theorem e90 (p_xa : Int) (p_xb : Int) (p_xk : Int) (p_ya : Int) (p_yb : Int) (p_yk : Int) : evN Tryz.prog GLv Γ54 (0) []  Tryz.f90 [.agg [iv p_xa, iv p_xb, iv p_xk, iv p_ya, iv p_yb, iv p_yk]] = some (bv (!(valP (⟨⟨p_xa, p_xb, p_xk⟩, ⟨p_ya, p_yb, p_yk⟩⟩ : P2)))) := by
 kernel_rfl
theorem m90 : MT 90 s90 := by
 refine meetsN mix0 glv G54 Tryz.func90 (by kernel_rfl) (by kernel_rfl) s90 fun args x h => ?_
 unfold s90 at h
 split at h
 ·rename_i p_xa p_xb p_xk p_ya p_yb p_yk
  obtain ⟨hp, rfl⟩ := sm_inj h
  exact ⟨_, _, by kernel_rfl, e90 p_xa p_xb p_xk p_ya p_yb p_yk⟩
 ·cases h
abbrev Γ55 : LC := (90, s90) :: Γ54
theorem G55 : SD Γ55 := G54.cons m90
-- slices.IndexFunc[[]impl.Point,impl.Point]
def s123 : Ctr := fun
 | [.arr a_n [.int .i64, .int .i64, .int .i64, .int .i64, .int .i64, .int .i64] a_c, .val (.func (.func 90) ⟨[]⟩ ⟨[]⟩)] => some (Nat.ble a_n 1048576, iv (idxF (fun j => !(valP (pAt a_c j))) 0 a_n))
 | _ => none
theorem r123_step (K n a_n : Nat) (a_c : NNI) (i : Nat) : runW Tryz.prog GLv Γ55 K (cfgK kx7) [.arr a_n [.int .i64, .int .i64, .int .i64, .int .i64, .int .i64, .int .i64] a_c, .val (.func (.func 90) ⟨[]⟩ ⟨[]⟩)] Tryz.f123 0 (n + 1) (stL Tryz.f123.ntmps [.arr a_n [.int .i64, .int .i64, .int .i64, .int .i64, .int .i64, .int .i64] a_c, .val (.func (.func 90) ⟨[]⟩ ⟨[]⟩), .non, .non, .non, .non, .non, iv (a_n : Int), iv ((i : Int))]) = cond (decide ((i : Int) < (a_n : Int))) (cond ((decide (0 <= (i : Int)) && decide ((i : Int) < (a_n : Int)))) (cond (!(valP (pAt a_c i))) (some (iv (i : Int))) (runW Tryz.prog GLv Γ55 K (cfgK kx7) [.arr a_n [.int .i64, .int .i64, .int .i64, .int .i64, .int .i64, .int .i64] a_c, .val (.func (.func 90) ⟨[]⟩ ⟨[]⟩)] Tryz.f123 0 n (stL Tryz.f123.ntmps [.arr a_n [.int .i64, .int .i64, .int .i64, .int .i64, .int .i64, .int .i64] a_c, .val (.func (.func 90) ⟨[]⟩ ⟨[]⟩), .non, .non, .non, .non, .non, iv (a_n : Int), iv (wr ((i : Int) + 1))]))) (none)) (some (iv (-1))) := by kernel_rfl
theorem r123_run (K a_n : Nat) (a_c : NNI) (hn : a_n <= 1048576) : ∀ (m i n : Nat), i + m = a_n -> m < n -> runW Tryz.prog GLv Γ55 K (cfgK kx7) [.arr a_n [.int .i64, .int .i64, .int .i64, .int .i64, .int .i64, .int .i64] a_c, .val (.func (.func 90) ⟨[]⟩ ⟨[]⟩)] Tryz.f123 0 n (stL Tryz.f123.ntmps [.arr a_n [.int .i64, .int .i64, .int .i64, .int .i64, .int .i64, .int .i64] a_c, .val (.func (.func 90) ⟨[]⟩ ⟨[]⟩), .non, .non, .non, .non, .non, iv (a_n : Int), iv ((i : Int))]) = some (iv (idxF (fun j => !(valP (pAt a_c j))) i m)) := by
 intro m
 induction m with
 | zero =>
  intro i n h1 h2
  obtain ⟨n, rfl⟩ : ∃ n', n = n' + 1 := ⟨n - 1, by omega⟩
  rw [r123_step, nat_lt i a_n, show decide (i < a_n) = false by simp; omega]
  rfl
 | succ m ih =>
  intro i n h1 h2
  obtain ⟨n, rfl⟩ : ∃ n', n = n' + 1 := ⟨n - 1, by omega⟩
  rw [r123_step, nat_nn, nat_lt i a_n, show decide (i < a_n) = true by simp; omega]
  simp only [Bool.and_self, cond_true]
  rw [wr_succ (by omega), ih (i + 1) n (by omega) (by omega)]
  simp only [idxF]
  cases (!(valP (pAt a_c i))) <;> rfl
theorem e123 (a_n : Nat) (a_c : NNI) (hp : (Nat.ble a_n 1048576) = true) : evN Tryz.prog GLv Γ55 (a_n + 2) kx7  Tryz.f123 [.arr a_n [.int .i64, .int .i64, .int .i64, .int .i64, .int .i64, .int .i64] a_c, .val (.func (.func 90) ⟨[]⟩ ⟨[]⟩)] = some (iv (idxF (fun j => !(valP (pAt a_c j))) 0 a_n)) := by
 have hn := Nat.le_of_ble_eq_true hp
 refine (show _ = runW Tryz.prog GLv Γ55 (a_n + 2) (cfgK kx7) [.arr a_n [.int .i64, .int .i64, .int .i64, .int .i64, .int .i64, .int .i64] a_c, .val (.func (.func 90) ⟨[]⟩ ⟨[]⟩)] Tryz.f123 0 (a_n + 2) (stL Tryz.f123.ntmps [.arr a_n [.int .i64, .int .i64, .int .i64, .int .i64, .int .i64, .int .i64] a_c, .val (.func (.func 90) ⟨[]⟩ ⟨[]⟩), .non, .non, .non, .non, .non, iv (a_n : Int), iv (((0 : Nat) : Int))]) from by kernel_rfl).trans ?_
 exact r123_run _ a_n a_c hn a_n 0 _ (by omega) (by omega)
theorem m123 : MT 123 s123 := by
 refine meetsN mix0 glv G55 Tryz.func123 (by kernel_rfl) (by kernel_rfl) s123 fun args x h => ?_
 unfold s123 at h
 split at h
 ·rename_i a_n a_c
  obtain ⟨hp, rfl⟩ := sm_inj h
  exact ⟨_, _, by kernel_rfl, e123 a_n a_c hp⟩
 ·cases h
abbrev Γ56 : LC := (123, s123) :: Γ55
theorem G56 : SD Γ56 := G55.cons m123
-- slices.ContainsFunc[[]impl.Point,impl.Point]
def s89 : Ctr := fun
 | [.arr a_n [.int .i64, .int .i64, .int .i64, .int .i64, .int .i64, .int .i64] a_c, .val (.func (.func 90) ⟨[]⟩ ⟨[]⟩)] => some (Nat.ble a_n 1048576, bv (!(allF (fun j => !(!(valP (pAt a_c j)))) 0 a_n)))
 | _ => none
theorem e89 (a_n : Nat) (a_c : NNI) (hp : (Nat.ble a_n 1048576) = true) : evN Tryz.prog GLv Γ56 (0) []  Tryz.f89 [.arr a_n [.int .i64, .int .i64, .int .i64, .int .i64, .int .i64, .int .i64] a_c, .val (.func (.func 90) ⟨[]⟩ ⟨[]⟩)] = some (bv (!(allF (fun j => !(!(valP (pAt a_c j)))) 0 a_n))) := by
 refine (show _ = cond (Nat.ble a_n 1048576) (some (bv (decide (idxF (fun j => !(valP (pAt a_c j))) 0 a_n >= 0)))) none from by kernel_rfl).trans ?_
 rw [hp, idxF_ge]
 rfl
theorem m89 : MT 89 s89 := by
 refine meetsN mix0 glv G56 Tryz.func89 (by kernel_rfl) (by kernel_rfl) s89 fun args x h => ?_
 unfold s89 at h
 split at h
 ·rename_i a_n a_c
  obtain ⟨hp, rfl⟩ := sm_inj h
  exact ⟨_, _, by kernel_rfl, e89 a_n a_c hp⟩
 ·cases h
abbrev Γ57 : LC := (89, s89) :: Γ56
theorem G57 : SD Γ57 := G56.cons m89
-- impl.areValid
def s57 : Ctr := fun
 | [.arr a_n K6x a_c] => some (Nat.ble a_n 1048576, bv (allP a_n a_c))
 | _ => none
theorem e57 (a_n : Nat) (a_c : NNI) (hp : (Nat.ble a_n 1048576) = true) : evN Tryz.prog GLv Γ57 (0) []  Tryz.f57 [.arr a_n K6x a_c] = some (bv (allP a_n a_c)) := by
 refine (show _ = cond (Nat.ble a_n 1048576) (some (bv (!(!(allF (fun j => !(!(valP (pAt a_c j)))) 0 a_n))))) none from by kernel_rfl).trans ?_
 rw [hp]
 simp only [Bool.not_not, cond_true]
 rfl
theorem m57 : MT 57 s57 := by
 refine meetsN mix0 glv G57 Tryz.func57 (by kernel_rfl) (by kernel_rfl) s57 fun args x h => ?_
 unfold s57 at h
 split at h
 ·rename_i a_n a_c
  obtain ⟨hp, rfl⟩ := sm_inj h
  exact ⟨_, _, by kernel_rfl, e57 a_n a_c hp⟩
 ·cases h
abbrev Γ58 : LC := (57, s57) :: Γ57
theorem G58 : SD Γ58 := G57.cons m57
-- impl.length[impl.Point]
def s56 : Ctr := fun
 | [.arr a_n K6x a_c] => some (true, iv (a_n : Int))
 | _ => none
theorem e56 (a_n : Nat) (a_c : NNI) : evN Tryz.prog GLv Γ58 (0) []  Tryz.f56 [.arr a_n K6x a_c] = some (iv (a_n : Int)) := by
 kernel_rfl
theorem m56 : MT 56 s56 := by
 refine meetsN mix0 glv G58 Tryz.func56 (by kernel_rfl) (by kernel_rfl) s56 fun args x h => ?_
 unfold s56 at h
 split at h
 ·rename_i a_n a_c
  obtain ⟨hp, rfl⟩ := sm_inj h
  exact ⟨_, _, by kernel_rfl, e56 a_n a_c⟩
 ·cases h
abbrev Γ59 : LC := (56, s56) :: Γ58
theorem G59 : SD Γ59 := G58.cons m56
-- impl.leastCorner
def s59 : Ctr := fun
 | [.arr a_n K6x a_c] => some (inB a_n 1 1048576 && allP a_n a_c, iv (lcF a_c 0 a_n 0 : Nat))
 | _ => none
theorem r59_step (K n a_n : Nat) (a_c : NNI) (i l : Nat) : runW Tryz.prog GLv Γ59 K (cfgK kx1) [.arr a_n K6x a_c] Tryz.f59 0 (n + 1) (stL Tryz.f59.ntmps [.arr a_n K6x a_c, .non, .non, iv ((l : Int)), .non, .non, .arr a_n K6x a_c, iv (a_n : Int), iv ((i : Int))]) = cond (decide ((i : Int) < (a_n : Int))) (cond ((decide (0 <= (i : Int)) && decide ((i : Int) < (a_n : Int)))) (cond ((decide (0 <= (l : Int)) && decide ((l : Int) < (a_n : Int)))) (cond (valP (pAt a_c i) && valP (pAt a_c l)) (cond (decide (cpP (pAt a_c i) (pAt a_c l) < 0)) (runW Tryz.prog GLv Γ59 K (cfgK kx1) [.arr a_n K6x a_c] Tryz.f59 0 n (stL Tryz.f59.ntmps [.arr a_n K6x a_c, .non, .non, iv ((i : Int)), .non, .non, .arr a_n K6x a_c, iv (a_n : Int), iv (wr ((i : Int) + 1))])) (runW Tryz.prog GLv Γ59 K (cfgK kx1) [.arr a_n K6x a_c] Tryz.f59 0 n (stL Tryz.f59.ntmps [.arr a_n K6x a_c, .non, .non, iv ((l : Int)), .non, .non, .arr a_n K6x a_c, iv (a_n : Int), iv (wr ((i : Int) + 1))]))) (none)) (none)) (none)) (some (iv (l : Int))) := by kernel_rfl
theorem r59_run (K a_n : Nat) (a_c : NNI) (hn : a_n <= 1048576) (hv : ∀ i, i < a_n -> valP (pAt a_c i) = true) : ∀ (m i l n : Nat), i + m = a_n -> l < a_n -> m < n -> runW Tryz.prog GLv Γ59 K (cfgK kx1) [.arr a_n K6x a_c] Tryz.f59 0 n (stL Tryz.f59.ntmps [.arr a_n K6x a_c, .non, .non, iv ((l : Int)), .non, .non, .arr a_n K6x a_c, iv (a_n : Int), iv ((i : Int))]) = some (iv (lcF a_c i m l : Nat)) := by
 intro m
 induction m with
 | zero =>
  intro i l n h1 h2 h3
  obtain ⟨n, rfl⟩ : ∃ n', n = n' + 1 := ⟨n - 1, by omega⟩
  rw [r59_step, nat_lt i a_n, show decide (i < a_n) = false by simp; omega]
  rfl
 | succ m ih =>
  intro i l n h1 h2 h3
  obtain ⟨n, rfl⟩ : ∃ n', n = n' + 1 := ⟨n - 1, by omega⟩
  rw [r59_step, nat_nn, nat_nn, nat_lt i a_n, nat_lt l a_n, show decide (i < a_n) = true by simp; omega, show decide (l < a_n) = true by simp; omega, hv i (by omega), hv l h2]
  simp only [Bool.and_self, cond_true]
  rw [wr_succ (by omega), ih (i + 1) i n (by omega) (by omega) (by omega), ih (i + 1) l n (by omega) h2 (by omega)]
  simp only [lcF]
  cases (decide (cpP (pAt a_c i) (pAt a_c l) < 0)) <;> rfl
theorem e59 (a_n : Nat) (a_c : NNI) (hp : (inB a_n 1 1048576 && allP a_n a_c) = true) : evN Tryz.prog GLv Γ59 (a_n + 2) kx1  Tryz.f59 [.arr a_n K6x a_c] = some (iv (lcF a_c 0 a_n 0 : Nat)) := by
 simp only [Bool.and_eq_true, inB_iff] at hp
 obtain ⟨hn, hv⟩ := hp
 refine (show _ = runW Tryz.prog GLv Γ59 (a_n + 2) (cfgK kx1) [.arr a_n K6x a_c] Tryz.f59 0 (a_n + 2) (stL Tryz.f59.ntmps [.arr a_n K6x a_c, .non, .non, iv (((0 : Nat) : Int)), .non, .non, .arr a_n K6x a_c, iv (a_n : Int), iv (((0 : Nat) : Int))]) from by kernel_rfl).trans ?_
 exact r59_run _ a_n a_c (by omega) (allP_iff.1 hv) a_n 0 0 _ (by omega) (by omega) (by omega)
theorem m59 : MT 59 s59 := by
 refine meetsN mix0 glv G59 Tryz.func59 (by kernel_rfl) (by kernel_rfl) s59 fun args x h => ?_
 unfold s59 at h
 split at h
 ·rename_i a_n a_c
  obtain ⟨hp, rfl⟩ := sm_inj h
  exact ⟨_, _, by kernel_rfl, e59 a_n a_c hp⟩
 ·cases h
abbrev Γ60 : LC := (59, s59) :: Γ59
theorem G60 : SD Γ60 := G59.cons m59
-- impl.isConvex
def s58 : Ctr := fun
 | [.arr a_n K6x a_c] => some (inB a_n 3 1048576 && allP a_n a_c, bv (cvI a_n a_c))
 | _ => none
theorem r58_step (K n a_n : Nat) (a_c : NNI) (i : Nat) (b s : Int) : runW Tryz.prog GLv Γ60 K (cfgK kx8) [.arr a_n K6x a_c] Tryz.f58 0 (n + 1) (stL Tryz.f58.ntmps [.arr a_n K6x a_c, .non, .non, iv (a_n : Int), iv (s), iv (b), .non, .non, .non, .non, .non, .non, .non, .non, .non, .non, .non, .non, .non, .non, .non, .non, .non, .arr a_n K6x a_c, iv (a_n : Int), iv ((i : Int))]) = cond (decide ((i : Int) < (a_n : Int))) (cond ((decide (0 <= (i : Int)) && decide ((i : Int) < (a_n : Int)))) (cond (!((a_n : Int) == 0)) (cond ((decide (0 <= (((wr ((i : Int) + 1)).tmod (a_n : Int)) : Int)) && decide ((((wr ((i : Int) + 1)).tmod (a_n : Int)) : Int) < (a_n : Int)))) (cond (valP (pAt a_c i) && valP (pAt a_c ((wr ((i : Int) + 1)).tmod (a_n : Int)).toNat)) (cond (decide ((dirV (pAt a_c i) (pAt a_c ((wr ((i : Int) + 1)).tmod (a_n : Int)).toNat)) < 0)) (some (bv false)) (cond (decide (b < 0)) (some (bv false)) (cond (!(inB (wr ((dirV (pAt a_c i) (pAt a_c ((wr ((i : Int) + 1)).tmod (a_n : Int)).toNat)) - b) % 16) 1 7)) (some (bv false)) (runW Tryz.prog GLv Γ60 K (cfgK kx8) [.arr a_n K6x a_c] Tryz.f58 0 n (stL Tryz.f58.ntmps [.arr a_n K6x a_c, .non, .non, iv (a_n : Int), iv (wr (s + wr ((dirV (pAt a_c i) (pAt a_c ((wr ((i : Int) + 1)).tmod (a_n : Int)).toNat)) - b) % 16)), iv ((dirV (pAt a_c i) (pAt a_c ((wr ((i : Int) + 1)).tmod (a_n : Int)).toNat))), .non, .non, .non, .non, .non, .non, .non, .non, .non, .non, .non, .non, .non, .non, .non, .non, .non, .arr a_n K6x a_c, iv (a_n : Int), iv (wr ((i : Int) + 1))]))))) (none)) (none)) (none)) (none)) (some (bv (s == 16))) := by kernel_rfl
theorem r58_run (K a_n : Nat) (a_c : NNI) (h0 : 0 < a_n) (hn : a_n <= 1048576) (hv : ∀ i, i < a_n -> valP (pAt a_c i) = true) : ∀ (m i n : Nat) (b s : Int), i + m = a_n -> m < n -> runW Tryz.prog GLv Γ60 K (cfgK kx8) [.arr a_n K6x a_c] Tryz.f58 0 n (stL Tryz.f58.ntmps [.arr a_n K6x a_c, .non, .non, iv (a_n : Int), iv (s), iv (b), .non, .non, .non, .non, .non, .non, .non, .non, .non, .non, .non, .non, .non, .non, .non, .non, .non, .arr a_n K6x a_c, iv (a_n : Int), iv ((i : Int))]) = some (bv (cvF a_n a_c i m b s)) := by
 intro m
 induction m with
 | zero =>
  intro i n b s h1 h3
  obtain ⟨n, rfl⟩ : ∃ n', n = n' + 1 := ⟨n - 1, by omega⟩
  rw [r58_step, nat_lt i a_n, show decide (i < a_n) = false by simp; omega]
  rfl
 | succ m ih =>
  intro i n b s h1 h3
  obtain ⟨n, rfl⟩ : ∃ n', n = n' + 1 := ⟨n - 1, by omega⟩
  have hm : (i + 1) % a_n < a_n := Nat.mod_lt _ h0
  rw [r58_step, wr_succ (by omega), tmod_cast, nat_nn, nat_nn, nat_lt i a_n, nat_lt _ a_n, show decide (i < a_n) = true by simp; omega, show decide ((i + 1) % a_n < a_n) = true by simpa using hm, show (!((a_n : Int) == 0)) = true by simp; omega]
  simp only [Bool.and_self, cond_true, Int.toNat_natCast]
  rw [hv i (by omega), hv _ hm]
  simp only [Bool.and_self, cond_true]
  rw [ih (i + 1) n _ _ (by omega) (by omega)]
  show cond (decide (dirA a_n a_c i < 0)) (some (bv false)) (cond (decide (b < 0)) (some (bv false)) (cond (!(inB (wr (dirA a_n a_c i - b) % 16) 1 7)) (some (bv false)) (some (bv (cvF a_n a_c (i + 1) m (dirA a_n a_c i) (wr (s + wr (dirA a_n a_c i - b) % 16))))))) = some (bv (cvF a_n a_c i (m + 1) b s))
  simp only [cvF]
  cases decide (dirA a_n a_c i < 0) <;> cases decide (b < 0) <;> cases inB (wr (dirA a_n a_c i - b) % 16) 1 7 <;> rfl
theorem e58 (a_n : Nat) (a_c : NNI) (hp : (inB a_n 3 1048576 && allP a_n a_c) = true) : evN Tryz.prog GLv Γ60 (a_n + 2) kx8  Tryz.f58 [.arr a_n K6x a_c] = some (bv (cvI a_n a_c)) := by
 simp only [Bool.and_eq_true, inB_iff] at hp
 obtain ⟨hn, hv⟩ := hp
 have hv := allP_iff.1 hv
 refine (show _ = cond (decide ((a_n : Int) < 3)) (some (bv false)) (cond ((decide (0 <= ((wr ((a_n : Int) - 1)) : Int)) && decide (((wr ((a_n : Int) - 1)) : Int) < (a_n : Int)))) (cond ((decide (0 <= (((0 : Nat) : Int) : Int)) && decide ((((0 : Nat) : Int) : Int) < (a_n : Int)))) (cond (valP (pAt a_c (wr ((a_n : Int) - 1)).toNat) && valP (pAt a_c 0)) (runW Tryz.prog GLv Γ60 (a_n + 2) (cfgK kx8) [.arr a_n K6x a_c] Tryz.f58 0 (a_n + 2) (stL Tryz.f58.ntmps [.arr a_n K6x a_c, .non, .non, iv (a_n : Int), iv (0), iv (dirV (pAt a_c (wr ((a_n : Int) - 1)).toNat) (pAt a_c 0)), .non, .non, .non, .non, .non, .non, .non, .non, .non, .non, .non, .non, .non, .non, .non, .non, .non, .arr a_n K6x a_c, iv (a_n : Int), iv (((0 : Nat) : Int))])) (none)) (none)) (none)) from by kernel_rfl).trans ?_
 rw [show decide ((a_n : Int) < 3) = false by simp; omega, show (wr ((a_n : Int) - 1)) = ((a_n - 1 : Nat) : Int) by rw [wr_in (by omega) (by omega)]; omega]
 simp only [cond_false, nat_nn, nat_lt, Int.toNat_natCast]
 rw [show decide (a_n - 1 < a_n) = true by simp; omega, show decide (0 < a_n) = true by simp; omega, hv (a_n - 1) (by omega), hv 0 (by omega)]
 simp only [Bool.and_self, cond_true]
 exact r58_run _ a_n a_c (by omega) (by omega) hv a_n 0 _ _ _ (by omega) (by omega)
theorem m58 : MT 58 s58 := by
 refine meetsN mix0 glv G60 Tryz.func58 (by kernel_rfl) (by kernel_rfl) s58 fun args x h => ?_
 unfold s58 at h
 split at h
 ·rename_i a_n a_c
  obtain ⟨hp, rfl⟩ := sm_inj h
  exact ⟨_, _, by kernel_rfl, e58 a_n a_c hp⟩
 ·cases h
abbrev Γ61 : LC := (58, s58) :: Γ60
theorem G61 : SD Γ61 := G60.cons m58
-- impl.ValidPolygon
def s23 : Ctr := fun
 | [.arr a_n K6x a_c] => some (Nat.ble a_n 1048576, bv (vpI a_n a_c))
 | _ => none
theorem e23 (a_n : Nat) (a_c : NNI) (hp : (Nat.ble a_n 1048576) = true) : evN Tryz.prog GLv Γ61 (0) []  Tryz.f23 [.arr a_n K6x a_c] = some (bv (vpI a_n a_c)) := by
 refine (show _ = cond (inB (a_n : Int) 3 16) (cond (Nat.ble a_n 1048576) (cond (allP a_n a_c) (cond (inB a_n 3 1048576 && allP a_n a_c) (cond (cvI a_n a_c) (cond (inB a_n 1 1048576 && allP a_n a_c) (some (bv (((lcF a_c 0 a_n 0 : Nat) : Int) == 0))) (none)) (some (bv false))) (none)) (some (bv false))) (none)) (some (bv false)) from by kernel_rfl).trans ?_
 unfold vpI
 by_cases h1 : inB (a_n : Int) 3 16 = true
 ·have h1' := inB_iff.1 h1
  rw [hp, h1, show inB (a_n : Int) 3 1048576 = true from inB_iff.2 (by omega), show inB (a_n : Int) 1 1048576 = true from inB_iff.2 (by omega)]
  cases allP a_n a_c with
  | false => rfl
  | true => cases cvI a_n a_c <;> rfl
 ·rw [show inB (a_n : Int) 3 16 = false by simpa using h1]
  rfl
theorem m23 : MT 23 s23 := by
 refine meetsN mix0 glv G61 Tryz.func23 (by kernel_rfl) (by kernel_rfl) s23 fun args x h => ?_
 unfold s23 at h
 split at h
 ·rename_i a_n a_c
  obtain ⟨hp, rfl⟩ := sm_inj h
  exact ⟨_, _, by kernel_rfl, e23 a_n a_c hp⟩
 ·cases h
abbrev Γ62 : LC := (23, s23) :: Γ61
theorem G62 : SD Γ62 := G61.cons m23
end Go.Proofs.YtlcopddgplbdhaaGreatDoor
