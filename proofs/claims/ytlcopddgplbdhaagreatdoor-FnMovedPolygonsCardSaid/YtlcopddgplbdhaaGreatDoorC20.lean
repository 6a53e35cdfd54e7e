/- Contracts of the program's functions, by the evaluator. -/
import Derived.Test.YtlcopddgplbdhaaGreatDoorC19
import Derived.Test.YtlcopddgplbdhaaGreatDoorPlD
namespace Go.Proofs.YtlcopddgplbdhaaGreatDoor
open Go.Ev
set_option linter.unusedVariables false
set_option linter.unusedSimpArgs false
set_option maxRecDepth 100000
abbrev cfC200 : Cfg := ⟨[false, false, true, false, false, false, true, false, false, false, false, true, true, true], [], [(6, [0]), (29, [0]), (32, [1])], 2, [some (38, K6x), none]⟩
-- impl.rotate
noncomputable def s97 : Ctr := fun
 | [.agg [iv p_xa, iv p_xb, iv p_xk, iv p_ya, iv p_yb, iv p_yk], iv t] => some (inB t 0 7 && okP (⟨(⟨p_xa, p_xb, p_xk⟩ : N3), (⟨p_ya, p_yb, p_yk⟩ : N3)⟩ : P2), (turnF t (⟨(⟨p_xa, p_xb, p_xk⟩ : N3), (⟨p_ya, p_yb, p_yk⟩ : N3)⟩ : P2)).av)
 | _ => none
theorem e97 (p_xa : Int) (p_xb : Int) (p_xk : Int) (p_ya : Int) (p_yb : Int) (p_yk : Int) (t : Int) (hp : (inB t 0 7 && okP (⟨(⟨p_xa, p_xb, p_xk⟩ : N3), (⟨p_ya, p_yb, p_yk⟩ : N3)⟩ : P2)) = true) : evN Tryz.prog GLv Γ101 (0) []  Tryz.f97 [.agg [iv p_xa, iv p_xb, iv p_xk, iv p_ya, iv p_yb, iv p_yk], iv t] = some ((turnF t (⟨(⟨p_xa, p_xb, p_xk⟩ : N3), (⟨p_ya, p_yb, p_yk⟩ : N3)⟩ : P2)).av) := by
 simp only [Bool.and_eq_true, inB_iff] at hp
 obtain ⟨⟨h0, h7⟩, hq⟩ := hp
 have ho := okP_iff.1 hq
 obtain ⟨a1, a2, a3, _⟩ := turn_pre ho.1 ho.2
 simp only at a1 a2 a3
 have ht : t = 0 \/ t = 1 \/ t = 2 \/ t = 3 \/ t = 4 \/ t = 5 \/ t = 6 \/ t = 7 := by omega
 clear h0 h7
 rcases ht with rfl | rfl | rfl | rfl | rfl | rfl | rfl | rfl
 ·refine (show _ = some (quartI 0 (⟨(⟨p_xa, p_xb, p_xk⟩ : N3), (⟨p_ya, p_yb, p_yk⟩ : N3)⟩ : P2)).av from by kernel_rfl).trans ?_
  exact congrArg (fun z : P2 => some z.av) ((turnI hq 0 0 (by decide)).1 rfl)
 ·refine (show _ = cond (pk (⟨p_xa, p_xb, p_xk⟩ : N3) (⟨p_ya, p_yb, p_yk⟩ : N3)) (cond (pkm (subF (⟨p_xa, p_xb, p_xk⟩ : N3) (⟨p_ya, p_yb, p_yk⟩ : N3)) hN) (cond (pk (⟨p_xa, p_xb, p_xk⟩ : N3) (⟨p_ya, p_yb, p_yk⟩ : N3)) (cond (pkm (addF (⟨p_xa, p_xb, p_xk⟩ : N3) (⟨p_ya, p_yb, p_yk⟩ : N3)) hN) (some (quartI 0 (rot45 (⟨(⟨p_xa, p_xb, p_xk⟩ : N3), (⟨p_ya, p_yb, p_yk⟩ : N3)⟩ : P2))).av) none) none) none) none from by kernel_rfl).trans ?_
  rw [a1, a2, a3]
  exact congrArg (fun z : P2 => some z.av) ((turnI hq 1 0 (by decide)).2 rfl)
 ·refine (show _ = some (quartI 1 (⟨(⟨p_xa, p_xb, p_xk⟩ : N3), (⟨p_ya, p_yb, p_yk⟩ : N3)⟩ : P2)).av from by kernel_rfl).trans ?_
  exact congrArg (fun z : P2 => some z.av) ((turnI hq 2 1 (by decide)).1 rfl)
 ·refine (show _ = cond (pk (⟨p_xa, p_xb, p_xk⟩ : N3) (⟨p_ya, p_yb, p_yk⟩ : N3)) (cond (pkm (subF (⟨p_xa, p_xb, p_xk⟩ : N3) (⟨p_ya, p_yb, p_yk⟩ : N3)) hN) (cond (pk (⟨p_xa, p_xb, p_xk⟩ : N3) (⟨p_ya, p_yb, p_yk⟩ : N3)) (cond (pkm (addF (⟨p_xa, p_xb, p_xk⟩ : N3) (⟨p_ya, p_yb, p_yk⟩ : N3)) hN) (some (quartI 1 (rot45 (⟨(⟨p_xa, p_xb, p_xk⟩ : N3), (⟨p_ya, p_yb, p_yk⟩ : N3)⟩ : P2))).av) none) none) none) none from by kernel_rfl).trans ?_
  rw [a1, a2, a3]
  exact congrArg (fun z : P2 => some z.av) ((turnI hq 3 1 (by decide)).2 rfl)
 ·refine (show _ = some (quartI 2 (⟨(⟨p_xa, p_xb, p_xk⟩ : N3), (⟨p_ya, p_yb, p_yk⟩ : N3)⟩ : P2)).av from by kernel_rfl).trans ?_
  exact congrArg (fun z : P2 => some z.av) ((turnI hq 4 2 (by decide)).1 rfl)
 ·refine (show _ = cond (pk (⟨p_xa, p_xb, p_xk⟩ : N3) (⟨p_ya, p_yb, p_yk⟩ : N3)) (cond (pkm (subF (⟨p_xa, p_xb, p_xk⟩ : N3) (⟨p_ya, p_yb, p_yk⟩ : N3)) hN) (cond (pk (⟨p_xa, p_xb, p_xk⟩ : N3) (⟨p_ya, p_yb, p_yk⟩ : N3)) (cond (pkm (addF (⟨p_xa, p_xb, p_xk⟩ : N3) (⟨p_ya, p_yb, p_yk⟩ : N3)) hN) (some (quartI 2 (rot45 (⟨(⟨p_xa, p_xb, p_xk⟩ : N3), (⟨p_ya, p_yb, p_yk⟩ : N3)⟩ : P2))).av) none) none) none) none from by kernel_rfl).trans ?_
  rw [a1, a2, a3]
  exact congrArg (fun z : P2 => some z.av) ((turnI hq 5 2 (by decide)).2 rfl)
 ·refine (show _ = some (quartI 3 (⟨(⟨p_xa, p_xb, p_xk⟩ : N3), (⟨p_ya, p_yb, p_yk⟩ : N3)⟩ : P2)).av from by kernel_rfl).trans ?_
  exact congrArg (fun z : P2 => some z.av) ((turnI hq 6 3 (by decide)).1 rfl)
 ·refine (show _ = cond (pk (⟨p_xa, p_xb, p_xk⟩ : N3) (⟨p_ya, p_yb, p_yk⟩ : N3)) (cond (pkm (subF (⟨p_xa, p_xb, p_xk⟩ : N3) (⟨p_ya, p_yb, p_yk⟩ : N3)) hN) (cond (pk (⟨p_xa, p_xb, p_xk⟩ : N3) (⟨p_ya, p_yb, p_yk⟩ : N3)) (cond (pkm (addF (⟨p_xa, p_xb, p_xk⟩ : N3) (⟨p_ya, p_yb, p_yk⟩ : N3)) hN) (some (quartI 3 (rot45 (⟨(⟨p_xa, p_xb, p_xk⟩ : N3), (⟨p_ya, p_yb, p_yk⟩ : N3)⟩ : P2))).av) none) none) none) none from by kernel_rfl).trans ?_
  rw [a1, a2, a3]
  exact congrArg (fun z : P2 => some z.av) ((turnI hq 7 3 (by decide)).2 rfl)
theorem m97 : MT 97 s97 := by
 refine meetsN mix0 glv G101 Tryz.func97 (by kernel_rfl) (by kernel_rfl) s97 fun args x h => ?_
 unfold s97 at h
 split at h
 ·rename_i p_xa p_xb p_xk p_ya p_yb p_yk t
  obtain ⟨hp, rfl⟩ := sm_inj h
  exact ⟨_, _, by kernel_rfl, e97 p_xa p_xb p_xk p_ya p_yb p_yk t hp⟩
 ·cases h
noncomputable abbrev Γ102 : LC := (97, s97) :: Γ101
theorem G102 : SD Γ102 := G101.cons m97
-- (impl.Motion).linear
noncomputable def s62 : Ctr := fun
 | [.agg [iv m_t, .val (.bool m_f), iv m_xa, iv m_xb, iv m_xk, iv m_ya, iv m_yb, iv m_yk], .agg [iv p_xa, iv p_xb, iv p_xk, iv p_ya, iv p_yb, iv p_yk]] => some (inB m_t 0 7 && okP (⟨(⟨p_xa, p_xb, p_xk⟩ : N3), (⟨p_ya, p_yb, p_yk⟩ : N3)⟩ : P2), (turnF m_t (flipP m_f (⟨(⟨p_xa, p_xb, p_xk⟩ : N3), (⟨p_ya, p_yb, p_yk⟩ : N3)⟩ : P2))).av)
 | _ => none
theorem e62 (m_t : Int) (m_f : Bool) (m_xa : Int) (m_xb : Int) (m_xk : Int) (m_ya : Int) (m_yb : Int) (m_yk : Int) (p_xa : Int) (p_xb : Int) (p_xk : Int) (p_ya : Int) (p_yb : Int) (p_yk : Int) (hp : (inB m_t 0 7 && okP (⟨(⟨p_xa, p_xb, p_xk⟩ : N3), (⟨p_ya, p_yb, p_yk⟩ : N3)⟩ : P2)) = true) : evN Tryz.prog GLv Γ102 (0) []  Tryz.f62 [.agg [iv m_t, .val (.bool m_f), iv m_xa, iv m_xb, iv m_xk, iv m_ya, iv m_yb, iv m_yk], .agg [iv p_xa, iv p_xb, iv p_xk, iv p_ya, iv p_yb, iv p_yk]] = some ((turnF m_t (flipP m_f (⟨(⟨p_xa, p_xb, p_xk⟩ : N3), (⟨p_ya, p_yb, p_yk⟩ : N3)⟩ : P2))).av) := by
 have hq := (Bool.and_eq_true _ _ ▸ hp)
 have h1 : (inB m_t 0 7 && okP (flipP m_f (⟨(⟨p_xa, p_xb, p_xk⟩ : N3), (⟨p_ya, p_yb, p_yk⟩ : N3)⟩ : P2))) = true := by rw [hq.1, flip_ok hq.2 m_f]; rfl
 cases m_f with
 | true =>
  refine (show _ = cond (inB m_t 0 7 && okP (flipP true (⟨(⟨p_xa, p_xb, p_xk⟩ : N3), (⟨p_ya, p_yb, p_yk⟩ : N3)⟩ : P2))) (some (turnF m_t (flipP true (⟨(⟨p_xa, p_xb, p_xk⟩ : N3), (⟨p_ya, p_yb, p_yk⟩ : N3)⟩ : P2))).av) none from by kernel_rfl).trans ?_
  rw [h1]
  rfl
 | false =>
  refine (show _ = cond (inB m_t 0 7 && okP (flipP false (⟨(⟨p_xa, p_xb, p_xk⟩ : N3), (⟨p_ya, p_yb, p_yk⟩ : N3)⟩ : P2))) (some (turnF m_t (flipP false (⟨(⟨p_xa, p_xb, p_xk⟩ : N3), (⟨p_ya, p_yb, p_yk⟩ : N3)⟩ : P2))).av) none from by kernel_rfl).trans ?_
  rw [h1]
  rfl
theorem m62 : MT 62 s62 := by
 refine meetsN mix0 glv G102 Tryz.func62 (by kernel_rfl) (by kernel_rfl) s62 fun args x h => ?_
 unfold s62 at h
 split at h
 ·rename_i m_t m_f m_xa m_xb m_xk m_ya m_yb m_yk p_xa p_xb p_xk p_ya p_yb p_yk
  obtain ⟨hp, rfl⟩ := sm_inj h
  exact ⟨_, _, by kernel_rfl, e62 m_t m_f m_xa m_xb m_xk m_ya m_yb m_yk p_xa p_xb p_xk p_ya p_yb p_yk hp⟩
 ·cases h
noncomputable abbrev Γ103 : LC := (62, s62) :: Γ102
theorem G103 : SD Γ103 := G102.cons m62
-- (impl.Motion).shift
noncomputable def s55 : Ctr := fun
 | [.agg [iv m_t, .val (.bool m_f), iv m_xa, iv m_xb, iv m_xk, iv m_ya, iv m_yb, iv m_yk]] => some (true, (⟨⟨m_xa, m_xb, m_xk⟩, ⟨m_ya, m_yb, m_yk⟩⟩ : P2).av)
 | _ => none
theorem e55 (m_t : Int) (m_f : Bool) (m_xa : Int) (m_xb : Int) (m_xk : Int) (m_ya : Int) (m_yb : Int) (m_yk : Int) : evN Tryz.prog GLv Γ103 (0) []  Tryz.f55 [.agg [iv m_t, .val (.bool m_f), iv m_xa, iv m_xb, iv m_xk, iv m_ya, iv m_yb, iv m_yk]] = some ((⟨⟨m_xa, m_xb, m_xk⟩, ⟨m_ya, m_yb, m_yk⟩⟩ : P2).av) := by
 kernel_rfl
theorem m55 : MT 55 s55 := by
 refine meetsN mix0 glv G103 Tryz.func55 (by kernel_rfl) (by kernel_rfl) s55 fun args x h => ?_
 unfold s55 at h
 split at h
 ·rename_i m_t m_f m_xa m_xb m_xk m_ya m_yb m_yk
  obtain ⟨hp, rfl⟩ := sm_inj h
  exact ⟨_, _, by kernel_rfl, e55 m_t m_f m_xa m_xb m_xk m_ya m_yb m_yk⟩
 ·cases h
noncomputable abbrev Γ104 : LC := (55, s55) :: Γ103
theorem G104 : SD Γ104 := G103.cons m55
-- (impl.Motion).move
noncomputable def s27 : Ctr := fun
 | [.agg [iv m_t, .val (.bool m_f), iv m_xa, iv m_xb, iv m_xk, iv m_ya, iv m_yb, iv m_yk], .agg [iv p_xa, iv p_xb, iv p_xk, iv p_ya, iv p_yb, iv p_yk]] => some (okM m_t (⟨(⟨p_xa, p_xb, p_xk⟩ : N3), (⟨p_ya, p_yb, p_yk⟩ : N3)⟩ : P2) (⟨⟨m_xa, m_xb, m_xk⟩, ⟨m_ya, m_yb, m_yk⟩⟩ : P2), (moveF m_t m_f (⟨⟨m_xa, m_xb, m_xk⟩, ⟨m_ya, m_yb, m_yk⟩⟩ : P2) (⟨(⟨p_xa, p_xb, p_xk⟩ : N3), (⟨p_ya, p_yb, p_yk⟩ : N3)⟩ : P2)).av)
 | _ => none
theorem e27 (m_t : Int) (m_f : Bool) (m_xa : Int) (m_xb : Int) (m_xk : Int) (m_ya : Int) (m_yb : Int) (m_yk : Int) (p_xa : Int) (p_xb : Int) (p_xk : Int) (p_ya : Int) (p_yb : Int) (p_yk : Int) (hp : (okM m_t (⟨(⟨p_xa, p_xb, p_xk⟩ : N3), (⟨p_ya, p_yb, p_yk⟩ : N3)⟩ : P2) (⟨⟨m_xa, m_xb, m_xk⟩, ⟨m_ya, m_yb, m_yk⟩⟩ : P2)) = true) : evN Tryz.prog GLv Γ104 (0) []  Tryz.f27 [.agg [iv m_t, .val (.bool m_f), iv m_xa, iv m_xb, iv m_xk, iv m_ya, iv m_yb, iv m_yk], .agg [iv p_xa, iv p_xb, iv p_xk, iv p_ya, iv p_yb, iv p_yk]] = some ((moveF m_t m_f (⟨⟨m_xa, m_xb, m_xk⟩, ⟨m_ya, m_yb, m_yk⟩⟩ : P2) (⟨(⟨p_xa, p_xb, p_xk⟩ : N3), (⟨p_ya, p_yb, p_yk⟩ : N3)⟩ : P2)).av) := by
 unfold okM at hp
 simp only [Bool.and_eq_true] at hp
 obtain ⟨h1, h2, h3⟩ := hp
 obtain ⟨k1, k2, k3, _⟩ := turn_pk (flip_ok h2 m_f) h3 m_t
 refine (show _ = cond (inB m_t 0 7 && okP (⟨(⟨p_xa, p_xb, p_xk⟩ : N3), (⟨p_ya, p_yb, p_yk⟩ : N3)⟩ : P2)) (cond (pkP (turnF m_t (flipP m_f (⟨(⟨p_xa, p_xb, p_xk⟩ : N3), (⟨p_ya, p_yb, p_yk⟩ : N3)⟩ : P2))) (⟨⟨m_xa, m_xb, m_xk⟩, ⟨m_ya, m_yb, m_yk⟩⟩ : P2)) (some (moveF m_t m_f (⟨⟨m_xa, m_xb, m_xk⟩, ⟨m_ya, m_yb, m_yk⟩⟩ : P2) (⟨(⟨p_xa, p_xb, p_xk⟩ : N3), (⟨p_ya, p_yb, p_yk⟩ : N3)⟩ : P2)).av) none) none from by kernel_rfl).trans ?_
 rw [h1, h2, k3]
 rfl
theorem m27 : MT 27 s27 := by
 refine meetsN mix0 glv G104 Tryz.func27 (by kernel_rfl) (by kernel_rfl) s27 fun args x h => ?_
 unfold s27 at h
 split at h
 ·rename_i m_t m_f m_xa m_xb m_xk m_ya m_yb m_yk p_xa p_xb p_xk p_ya p_yb p_yk
  obtain ⟨hp, rfl⟩ := sm_inj h
  exact ⟨_, _, by kernel_rfl, e27 m_t m_f m_xa m_xb m_xk m_ya m_yb m_yk p_xa p_xb p_xk p_ya p_yb p_yk hp⟩
 ·cases h
noncomputable abbrev Γ105 : LC := (27, s27) :: Γ104
theorem G105 : SD Γ105 := G104.cons m27
-- impl.ValidMotion
noncomputable def s21 : Ctr := fun
 | [.agg [iv m_t, .val (.bool m_f), iv m_xa, iv m_xb, iv m_xk, iv m_ya, iv m_yb, iv m_yk]] => some (true, bv (inB m_t 0 7 && valP (⟨⟨m_xa, m_xb, m_xk⟩, ⟨m_ya, m_yb, m_yk⟩⟩ : P2)))
 | _ => none
theorem e21 (m_t : Int) (m_f : Bool) (m_xa : Int) (m_xb : Int) (m_xk : Int) (m_ya : Int) (m_yb : Int) (m_yk : Int) : evN Tryz.prog GLv Γ105 (0) []  Tryz.f21 [.agg [iv m_t, .val (.bool m_f), iv m_xa, iv m_xb, iv m_xk, iv m_ya, iv m_yb, iv m_yk]] = some (bv (inB m_t 0 7 && valP (⟨⟨m_xa, m_xb, m_xk⟩, ⟨m_ya, m_yb, m_yk⟩⟩ : P2))) := by
 refine (show _ = cond (inB m_t 0 7) ( cond (validB (N3.mk m_xa m_xb m_xk)) ( some (bv (validB (N3.mk m_ya m_yb m_yk))) ) ( some (bv (false)) ) ) ( some (bv (false)) ) from by kernel_rfl).trans ?_
 simp only [valP]
 cases inB m_t 0 7 <;> cases validB (⟨⟨m_xa, m_xb, m_xk⟩, ⟨m_ya, m_yb, m_yk⟩⟩ : P2).x <;> rfl
theorem m21 : MT 21 s21 := by
 refine meetsN mix0 glv G105 Tryz.func21 (by kernel_rfl) (by kernel_rfl) s21 fun args x h => ?_
 unfold s21 at h
 split at h
 ·rename_i m_t m_f m_xa m_xb m_xk m_ya m_yb m_yk
  obtain ⟨hp, rfl⟩ := sm_inj h
  exact ⟨_, _, by kernel_rfl, e21 m_t m_f m_xa m_xb m_xk m_ya m_yb m_yk⟩
 ·cases h
noncomputable abbrev Γ106 : LC := (21, s21) :: Γ105
theorem G106 : SD Γ106 := G105.cons m21
-- spec.l04Ok
noncomputable def s18 : Ctr := fun
 | [.agg [iv m_t, .val (.bool m_f), iv m_xa, iv m_xb, iv m_xk, iv m_ya, iv m_yb, iv m_yk]] => some (true, bv (inB m_t 0 7 && valP (⟨⟨m_xa, m_xb, m_xk⟩, ⟨m_ya, m_yb, m_yk⟩⟩ : P2)))
 | _ => none
theorem e18 (m_t : Int) (m_f : Bool) (m_xa : Int) (m_xb : Int) (m_xk : Int) (m_ya : Int) (m_yb : Int) (m_yk : Int) : evN Tryz.prog GLv Γ106 (0) []  Tryz.f18 [.agg [iv m_t, .val (.bool m_f), iv m_xa, iv m_xb, iv m_xk, iv m_ya, iv m_yb, iv m_yk]] = some (bv (inB m_t 0 7 && valP (⟨⟨m_xa, m_xb, m_xk⟩, ⟨m_ya, m_yb, m_yk⟩⟩ : P2))) := by
 refine (show _ = cond (inB m_t 0 7) ( cond (validB (N3.mk m_xa m_xb m_xk)) ( some (bv (validB (N3.mk m_ya m_yb m_yk))) ) ( some (bv (false)) ) ) ( some (bv (false)) ) from by kernel_rfl).trans ?_
 simp only [valP]
 cases inB m_t 0 7 <;> cases validB (⟨⟨m_xa, m_xb, m_xk⟩, ⟨m_ya, m_yb, m_yk⟩⟩ : P2).x <;> rfl
theorem m18 : MT 18 s18 := by
 refine meetsN mix0 glv G106 Tryz.func18 (by kernel_rfl) (by kernel_rfl) s18 fun args x h => ?_
 unfold s18 at h
 split at h
 ·rename_i m_t m_f m_xa m_xb m_xk m_ya m_yb m_yk
  obtain ⟨hp, rfl⟩ := sm_inj h
  exact ⟨_, _, by kernel_rfl, e18 m_t m_f m_xa m_xb m_xk m_ya m_yb m_yk⟩
 ·cases h
noncomputable abbrev Γ107 : LC := (18, s18) :: Γ106
theorem G107 : SD Γ107 := G106.cons m18
-- impl.MovePoint
noncomputable def s11 : Ctr := fun
 | [.agg [iv m_t, .val (.bool m_f), iv m_xa, iv m_xb, iv m_xk, iv m_ya, iv m_yb, iv m_yk], .agg [iv p_xa, iv p_xb, iv p_xk, iv p_ya, iv p_yb, iv p_yk]] => some (true, rP (((inB m_t 0 7 && valP (⟨⟨m_xa, m_xb, m_xk⟩, ⟨m_ya, m_yb, m_yk⟩⟩ : P2)) && valP (⟨(⟨p_xa, p_xb, p_xk⟩ : N3), (⟨p_ya, p_yb, p_yk⟩ : N3)⟩ : P2)) && valP (redP (moveF m_t m_f (⟨⟨m_xa, m_xb, m_xk⟩, ⟨m_ya, m_yb, m_yk⟩⟩ : P2) (⟨(⟨p_xa, p_xb, p_xk⟩ : N3), (⟨p_ya, p_yb, p_yk⟩ : N3)⟩ : P2)))) (redP (moveF m_t m_f (⟨⟨m_xa, m_xb, m_xk⟩, ⟨m_ya, m_yb, m_yk⟩⟩ : P2) (⟨(⟨p_xa, p_xb, p_xk⟩ : N3), (⟨p_ya, p_yb, p_yk⟩ : N3)⟩ : P2))))
 | _ => none
theorem e11 (m_t : Int) (m_f : Bool) (m_xa : Int) (m_xb : Int) (m_xk : Int) (m_ya : Int) (m_yb : Int) (m_yk : Int) (p_xa : Int) (p_xb : Int) (p_xk : Int) (p_ya : Int) (p_yb : Int) (p_yk : Int) : evN Tryz.prog GLv Γ107 (0) []  Tryz.f11 [.agg [iv m_t, .val (.bool m_f), iv m_xa, iv m_xb, iv m_xk, iv m_ya, iv m_yb, iv m_yk], .agg [iv p_xa, iv p_xb, iv p_xk, iv p_ya, iv p_yb, iv p_yk]] = some (rP (((inB m_t 0 7 && valP (⟨⟨m_xa, m_xb, m_xk⟩, ⟨m_ya, m_yb, m_yk⟩⟩ : P2)) && valP (⟨(⟨p_xa, p_xb, p_xk⟩ : N3), (⟨p_ya, p_yb, p_yk⟩ : N3)⟩ : P2)) && valP (redP (moveF m_t m_f (⟨⟨m_xa, m_xb, m_xk⟩, ⟨m_ya, m_yb, m_yk⟩⟩ : P2) (⟨(⟨p_xa, p_xb, p_xk⟩ : N3), (⟨p_ya, p_yb, p_yk⟩ : N3)⟩ : P2)))) (redP (moveF m_t m_f (⟨⟨m_xa, m_xb, m_xk⟩, ⟨m_ya, m_yb, m_yk⟩⟩ : P2) (⟨(⟨p_xa, p_xb, p_xk⟩ : N3), (⟨p_ya, p_yb, p_yk⟩ : N3)⟩ : P2)))) := by
 refine (show _ = cond (!(inB m_t 0 7 && valP (⟨⟨m_xa, m_xb, m_xk⟩, ⟨m_ya, m_yb, m_yk⟩⟩ : P2))) (some (rP false (⟨(⟨p_xa, p_xb, p_xk⟩ : N3), (⟨p_ya, p_yb, p_yk⟩ : N3)⟩ : P2))) (cond (!valP (⟨(⟨p_xa, p_xb, p_xk⟩ : N3), (⟨p_ya, p_yb, p_yk⟩ : N3)⟩ : P2)) (some (rP false (⟨(⟨p_xa, p_xb, p_xk⟩ : N3), (⟨p_ya, p_yb, p_yk⟩ : N3)⟩ : P2))) (cond (okM m_t (⟨(⟨p_xa, p_xb, p_xk⟩ : N3), (⟨p_ya, p_yb, p_yk⟩ : N3)⟩ : P2) (⟨⟨m_xa, m_xb, m_xk⟩, ⟨m_ya, m_yb, m_yk⟩⟩ : P2)) (cond (kB (moveF m_t m_f (⟨⟨m_xa, m_xb, m_xk⟩, ⟨m_ya, m_yb, m_yk⟩⟩ : P2) (⟨(⟨p_xa, p_xb, p_xk⟩ : N3), (⟨p_ya, p_yb, p_yk⟩ : N3)⟩ : P2)).x.k && kB (moveF m_t m_f (⟨⟨m_xa, m_xb, m_xk⟩, ⟨m_ya, m_yb, m_yk⟩⟩ : P2) (⟨(⟨p_xa, p_xb, p_xk⟩ : N3), (⟨p_ya, p_yb, p_yk⟩ : N3)⟩ : P2)).y.k) (some (rP (valP (redP (moveF m_t m_f (⟨⟨m_xa, m_xb, m_xk⟩, ⟨m_ya, m_yb, m_yk⟩⟩ : P2) (⟨(⟨p_xa, p_xb, p_xk⟩ : N3), (⟨p_ya, p_yb, p_yk⟩ : N3)⟩ : P2)))) (redP (moveF m_t m_f (⟨⟨m_xa, m_xb, m_xk⟩, ⟨m_ya, m_yb, m_yk⟩⟩ : P2) (⟨(⟨p_xa, p_xb, p_xk⟩ : N3), (⟨p_ya, p_yb, p_yk⟩ : N3)⟩ : P2))))) none) none)) from by kernel_rfl).trans ?_
 cases h1 : inB m_t 0 7 with
 | false => rfl
 | true =>
  cases h2 : valP (⟨⟨m_xa, m_xb, m_xk⟩, ⟨m_ya, m_yb, m_yk⟩⟩ : P2) with
  | false => rfl
  | true =>
   cases h3 : valP (⟨(⟨p_xa, p_xb, p_xk⟩ : N3), (⟨p_ya, p_yb, p_yk⟩ : N3)⟩ : P2) with
   | false => rfl
   | true =>
    obtain ⟨_, _, _, k4, k5⟩ := turn_pk (flip_ok (val_ok h3) m_f) (val_ok h2) m_t
    have k6 : okM m_t (⟨(⟨p_xa, p_xb, p_xk⟩ : N3), (⟨p_ya, p_yb, p_yk⟩ : N3)⟩ : P2) (⟨⟨m_xa, m_xb, m_xk⟩, ⟨m_ya, m_yb, m_yk⟩⟩ : P2) = true := by unfold okM; rw [h1, val_ok h2, val_ok h3]; rfl
    have k7 : (kB (moveF m_t m_f (⟨⟨m_xa, m_xb, m_xk⟩, ⟨m_ya, m_yb, m_yk⟩⟩ : P2) (⟨(⟨p_xa, p_xb, p_xk⟩ : N3), (⟨p_ya, p_yb, p_yk⟩ : N3)⟩ : P2)).x.k && kB (moveF m_t m_f (⟨⟨m_xa, m_xb, m_xk⟩, ⟨m_ya, m_yb, m_yk⟩⟩ : P2) (⟨(⟨p_xa, p_xb, p_xk⟩ : N3), (⟨p_ya, p_yb, p_yk⟩ : N3)⟩ : P2)).y.k) = true := by unfold moveF; rw [k4, k5]; rfl
    rw [k6, k7]
    rfl
theorem m11 : MT 11 s11 := by
 refine meetsN mix0 glv G107 Tryz.func11 (by kernel_rfl) (by kernel_rfl) s11 fun args x h => ?_
 unfold s11 at h
 split at h
 ·rename_i m_t m_f m_xa m_xb m_xk m_ya m_yb m_yk p_xa p_xb p_xk p_ya p_yb p_yk
  obtain ⟨hp, rfl⟩ := sm_inj h
  exact ⟨_, _, by kernel_rfl, e11 m_t m_f m_xa m_xb m_xk m_ya m_yb m_yk p_xa p_xb p_xk p_ya p_yb p_yk⟩
 ·cases h
noncomputable abbrev Γ108 : LC := (11, s11) :: Γ107
theorem G108 : SD Γ108 := G107.cons m11
-- impl.NormalPolygon
noncomputable def s60 : Ctr := fun
 | [.arr a_n K6x a_c] => some (inB a_n 3 16 && allP a_n a_c, AV.tup [AV.row ((vpS a_n (nmR a_n a_c)) || (vpS a_n (nmR a_n (revC a_n a_c)))) 38 (cond ((vpS a_n (nmR a_n a_c)) || (vpS a_n (nmR a_n (revC a_n a_c)))) a_n 0) K6x (cond (vpS a_n (nmR a_n a_c)) (nmR a_n a_c) (cond (vpS a_n (nmR a_n (revC a_n a_c))) (nmR a_n (revC a_n a_c)) zeroC)), bv ((vpS a_n (nmR a_n a_c)) || (vpS a_n (nmR a_n (revC a_n a_c))))])
 | _ => none
theorem e60 (a_n : Nat) (a_c : NNI) (hp : (inB a_n 3 16 && allP a_n a_c) = true) : evW Tryz.prog GLv Γ108 (5) (⟨[false, false, false, false, false, false, false, false, false, false, false, false, false, false, false, false, false, false, false, false, false, false, true, true, true], [], [(17, [0]), (29, [1])], 2, [some (38, K6x), none]⟩)  Tryz.f60 [.arr a_n K6x a_c] = some (AV.tup [AV.row ((vpS a_n (nmR a_n a_c)) || (vpS a_n (nmR a_n (revC a_n a_c)))) 38 (cond ((vpS a_n (nmR a_n a_c)) || (vpS a_n (nmR a_n (revC a_n a_c)))) a_n 0) K6x (cond (vpS a_n (nmR a_n a_c)) (nmR a_n a_c) (cond (vpS a_n (nmR a_n (revC a_n a_c))) (nmR a_n (revC a_n a_c)) zeroC)), bv ((vpS a_n (nmR a_n a_c)) || (vpS a_n (nmR a_n (revC a_n a_c))))]) := by
 rw [Bool.and_eq_true] at hp
 obtain ⟨hn, hv⟩ := hp
 have hn := inB_iff.1 hn
 refine (show _ = cond (Nat.ble a_n 1048576) (cond (!(allP a_n a_c)) (some (AV.tup [AV.row false 38 0 K6x fun _ _ => 0, bv false])) (cond (decide ((a_n : Int) > 16)) (some (AV.tup [AV.row false 38 0 K6x fun _ _ => 0, bv false])) (cond (inB (a_n : Int) 1 1000000) (cond (inB (a_n : Int) 1 1000000 && (Nat.beq a_n a_n && true)) (cond (inB (a_n : Int) 1 1000000 && cmA a_n a_c) (cond (Nat.ble (a_n) 1048576) (cond (vpI a_n (nmR a_n a_c)) (some (AV.tup [AV.row (true) 38 (a_n) K6x ((nmR a_n a_c)), bv true])) (cond (inB (a_n : Int) 1 1000000 && cmA a_n (revC a_n (catC 0 zeroC a_c))) (cond (Nat.ble (a_n) 1048576) (cond (vpI a_n (nmR a_n (revC a_n (catC 0 zeroC a_c)))) (some (AV.tup [AV.row (true) 38 (a_n) K6x ((nmR a_n (revC a_n (catC 0 zeroC a_c)))), bv true])) (some (AV.tup [AV.row false 38 0 K6x fun _ _ => 0, bv false]))) (none)) (none))) (none)) (none)) (none)) (none)))) (none) from by kernel_rfl).trans ?_
 rw [cat0, hv, cmA_of hv, cmA_of (allP_rev hv), vp_eq, vp_eq, show Nat.ble a_n 1048576 = true from Nat.ble_eq_true_of_le (by omega), show decide ((a_n : Int) > 16) = false from decide_eq_false (by omega), show inB (a_n : Int) 1 1000000 = true from inB_iff.2 (by omega), Nat.beq_refl]
 cases (vpS a_n (nmR a_n a_c)) with
 | true => rfl
 | false => cases (vpS a_n (nmR a_n (revC a_n a_c))) <;> rfl
theorem m60 : MT 60 s60 := by
 refine meetsW mix0 G108 Tryz.func60 (by kernel_rfl) (by kernel_rfl) s60 fun args x h => ?_
 unfold s60 at h
 split at h
 ·rename_i a_n a_c
  obtain ⟨hp, rfl⟩ := sm_inj h
  exact ⟨_, _, by kernel_rfl, e60 a_n a_c hp⟩
 ·cases h
noncomputable abbrev Γ109 : LC := (60, s60) :: Γ108
theorem G109 : SD Γ109 := G108.cons m60
theorem mv_step (K n a_n i : Nat) (m : M8) (a_c d : NNI) (lv : Bool) : runW Tryz.prog GLv Γ109 K cfC200 [m.av, .arr a_n K6x a_c] Tryz.f24 0 (n + 1) (st2 Tryz.f24.ntmps [.non, .non, .own 27 [iv m.t, bv m.f, iv m.s.x.a, iv m.s.x.b, iv m.s.x.k, iv m.s.y.a, iv m.s.y.b, iv m.s.y.k], .non, .non, .non, .sl Tryz.f24.ntmps (i), .non, .non, .non, .non, .arr a_n K6x a_c, iv (a_n : Int), iv ((i : Int))] [.row (lv) 38 (i) K6x (d), .non]) = cond (decide ((i : Int) < (a_n : Int))) (cond ((decide (0 <= (i : Int)) && decide ((i : Int) < (a_n : Int)))) (cond (okM m.t (pAt a_c i) m.s) (cond (kB (mwR m (pAt a_c i)).x.k && kB (mwR m (pAt a_c i)).y.k) (cond (!(valP (redP (mwR m (pAt a_c i))))) (some (AV.tup [AV.row false 38 0 K6x fun _ _ => 0, bv false])) (cond (Nat.ble ((i + 1) * 48) 140737488355328) (runW Tryz.prog GLv Γ109 K cfC200 [m.av, .arr a_n K6x a_c] Tryz.f24 0 n (st2 Tryz.f24.ntmps [.non, .non, .own 27 [iv m.t, bv m.f, iv m.s.x.a, iv m.s.x.b, iv m.s.x.k, iv m.s.y.a, iv m.s.y.b, iv m.s.y.k], .non, .non, .non, .sl Tryz.f24.ntmps (i + 1), .non, .non, .non, .non, .arr a_n K6x a_c, iv (a_n : Int), iv (wr ((i : Int) + 1))] [.row (true) 38 (i + 1) K6x (catC i d (listC [mgC m a_c i])), .non])) (none))) (none)) (none)) (none)) (cond (inB ((i : Nat) : Int) 3 16 && allP (i) (d)) (some (AV.tup [AV.row ((vpS (i) (nmR (i) (d))) || (vpS (i) (nmR (i) (revC (i) (d))))) 38 (cond ((vpS (i) (nmR (i) (d))) || (vpS (i) (nmR (i) (revC (i) (d))))) (i) 0) K6x (cond (vpS (i) (nmR (i) (d))) (nmR (i) (d)) (cond (vpS (i) (nmR (i) (revC (i) (d)))) (nmR (i) (revC (i) (d))) zeroC)), bv ((vpS (i) (nmR (i) (d))) || (vpS (i) (nmR (i) (revC (i) (d)))))])) (none)) := by kernel_rfl
theorem mv_run (K a_n : Nat) (m : M8) (a_c : NNI) (hn : a_n <= 1000) (hm : m.valid = true) (hv : ∀ i, i < a_n -> valP (pAt a_c i) = true) : ∀ (r i n : Nat) (d : NNI) (lv : Bool), i + r = a_n -> r < n -> runW Tryz.prog GLv Γ109 K cfC200 [m.av, .arr a_n K6x a_c] Tryz.f24 0 n (st2 Tryz.f24.ntmps [.non, .non, .own 27 [iv m.t, bv m.f, iv m.s.x.a, iv m.s.x.b, iv m.s.x.k, iv m.s.y.a, iv m.s.y.b, iv m.s.y.k], .non, .non, .non, .sl Tryz.f24.ntmps (i), .non, .non, .non, .non, .arr a_n K6x a_c, iv (a_n : Int), iv ((i : Int))] [.row (lv) 38 (i) K6x (d), .non]) = cond (allF (fun j => valP (redP (mwR m (pAt a_c j)))) i r) (cond (inB ((a_n : Nat) : Int) 3 16 && allP (a_n) (appF (mgC m a_c) i r d)) (some (AV.tup [AV.row ((vpS (a_n) (nmR (a_n) (appF (mgC m a_c) i r d))) || (vpS (a_n) (nmR (a_n) (revC (a_n) (appF (mgC m a_c) i r d))))) 38 (cond ((vpS (a_n) (nmR (a_n) (appF (mgC m a_c) i r d))) || (vpS (a_n) (nmR (a_n) (revC (a_n) (appF (mgC m a_c) i r d))))) (a_n) 0) K6x (cond (vpS (a_n) (nmR (a_n) (appF (mgC m a_c) i r d))) (nmR (a_n) (appF (mgC m a_c) i r d)) (cond (vpS (a_n) (nmR (a_n) (revC (a_n) (appF (mgC m a_c) i r d)))) (nmR (a_n) (revC (a_n) (appF (mgC m a_c) i r d))) zeroC)), bv ((vpS (a_n) (nmR (a_n) (appF (mgC m a_c) i r d))) || (vpS (a_n) (nmR (a_n) (revC (a_n) (appF (mgC m a_c) i r d)))))])) (none)) (some (AV.tup [AV.row false 38 0 K6x fun _ _ => 0, bv false])) := by
 intro r
 induction r with
 | zero =>
  intro i n d lv h1 h2
  obtain ⟨n, rfl⟩ : ∃ n', n = n' + 1 := ⟨n - 1, by omega⟩
  rw [mv_step, nat_lt i a_n, show decide (i < a_n) = false by simp; omega, show i = a_n by omega]
  rfl
 | succ r ih =>
  intro i n d lv h1 h2
  obtain ⟨n, rfl⟩ : ∃ n', n = n' + 1 := ⟨n - 1, by omega⟩
  have hp := hv i (by omega)
  rw [mv_step, nat_nn, nat_lt i a_n, show decide (i < a_n) = true by simp; omega, mw_okM hm hp, (mw_low hm hp).2.2.2, show Nat.ble ((i + 1) * 48) 140737488355328 = true from Nat.ble_eq_true_of_le (by omega)]
  simp only [Bool.and_self, cond_true]
  rw [wr_succ (by omega), ih (i + 1) n _ true (by omega) (by omega)]
  simp only [allF]
  cases valP (redP (mwR m (pAt a_c i))) <;> rfl
-- (impl.Motion).polygon
noncomputable def s24 : Ctr := fun
 | [.agg [iv m_t, .val (.bool m_f), iv m_xa, iv m_xb, iv m_xk, iv m_ya, iv m_yb, iv m_yk], .arr a_n K6x a_c] => some (mpV (⟨m_t, m_f, (⟨⟨m_xa, m_xb, m_xk⟩, ⟨m_ya, m_yb, m_yk⟩⟩ : P2)⟩ : M8) a_n a_c, AV.tup [AV.row (mpO (⟨m_t, m_f, (⟨⟨m_xa, m_xb, m_xk⟩, ⟨m_ya, m_yb, m_yk⟩⟩ : P2)⟩ : M8) a_n a_c) 38 (mpN (⟨m_t, m_f, (⟨⟨m_xa, m_xb, m_xk⟩, ⟨m_ya, m_yb, m_yk⟩⟩ : P2)⟩ : M8) a_n a_c) K6x (mpI (⟨m_t, m_f, (⟨⟨m_xa, m_xb, m_xk⟩, ⟨m_ya, m_yb, m_yk⟩⟩ : P2)⟩ : M8) a_n a_c), bv (mpO (⟨m_t, m_f, (⟨⟨m_xa, m_xb, m_xk⟩, ⟨m_ya, m_yb, m_yk⟩⟩ : P2)⟩ : M8) a_n a_c)])
 | _ => none
theorem e24 (m_t : Int) (m_f : Bool) (m_xa : Int) (m_xb : Int) (m_xk : Int) (m_ya : Int) (m_yb : Int) (m_yk : Int) (a_n : Nat) (a_c : NNI) (hp : (mpV (⟨m_t, m_f, (⟨⟨m_xa, m_xb, m_xk⟩, ⟨m_ya, m_yb, m_yk⟩⟩ : P2)⟩ : M8) a_n a_c) = true) : evW Tryz.prog GLv Γ109 (a_n + 2) (cfC200)  Tryz.f24 [.agg [iv m_t, .val (.bool m_f), iv m_xa, iv m_xb, iv m_xk, iv m_ya, iv m_yb, iv m_yk], .arr a_n K6x a_c] = some (AV.tup [AV.row (mpO (⟨m_t, m_f, (⟨⟨m_xa, m_xb, m_xk⟩, ⟨m_ya, m_yb, m_yk⟩⟩ : P2)⟩ : M8) a_n a_c) 38 (mpN (⟨m_t, m_f, (⟨⟨m_xa, m_xb, m_xk⟩, ⟨m_ya, m_yb, m_yk⟩⟩ : P2)⟩ : M8) a_n a_c) K6x (mpI (⟨m_t, m_f, (⟨⟨m_xa, m_xb, m_xk⟩, ⟨m_ya, m_yb, m_yk⟩⟩ : P2)⟩ : M8) a_n a_c), bv (mpO (⟨m_t, m_f, (⟨⟨m_xa, m_xb, m_xk⟩, ⟨m_ya, m_yb, m_yk⟩⟩ : P2)⟩ : M8) a_n a_c)]) := by
 have hp' := hp
 unfold mpV at hp'
 rw [Bool.and_eq_true] at hp'
 obtain ⟨hm, hv⟩ := hp'
 obtain ⟨h3, h16, ha⟩ := vpS_in hv
 refine (show _ = runW Tryz.prog GLv Γ109 (a_n + 2) cfC200 [(⟨m_t, m_f, (⟨⟨m_xa, m_xb, m_xk⟩, ⟨m_ya, m_yb, m_yk⟩⟩ : P2)⟩ : M8).av, .arr a_n K6x a_c] Tryz.f24 0 (a_n + 2) (st2 Tryz.f24.ntmps [.non, .non, .own 27 [iv (⟨m_t, m_f, (⟨⟨m_xa, m_xb, m_xk⟩, ⟨m_ya, m_yb, m_yk⟩⟩ : P2)⟩ : M8).t, bv (⟨m_t, m_f, (⟨⟨m_xa, m_xb, m_xk⟩, ⟨m_ya, m_yb, m_yk⟩⟩ : P2)⟩ : M8).f, iv (⟨m_t, m_f, (⟨⟨m_xa, m_xb, m_xk⟩, ⟨m_ya, m_yb, m_yk⟩⟩ : P2)⟩ : M8).s.x.a, iv (⟨m_t, m_f, (⟨⟨m_xa, m_xb, m_xk⟩, ⟨m_ya, m_yb, m_yk⟩⟩ : P2)⟩ : M8).s.x.b, iv (⟨m_t, m_f, (⟨⟨m_xa, m_xb, m_xk⟩, ⟨m_ya, m_yb, m_yk⟩⟩ : P2)⟩ : M8).s.x.k, iv (⟨m_t, m_f, (⟨⟨m_xa, m_xb, m_xk⟩, ⟨m_ya, m_yb, m_yk⟩⟩ : P2)⟩ : M8).s.y.a, iv (⟨m_t, m_f, (⟨⟨m_xa, m_xb, m_xk⟩, ⟨m_ya, m_yb, m_yk⟩⟩ : P2)⟩ : M8).s.y.b, iv (⟨m_t, m_f, (⟨⟨m_xa, m_xb, m_xk⟩, ⟨m_ya, m_yb, m_yk⟩⟩ : P2)⟩ : M8).s.y.k], .non, .non, .non, .sl Tryz.f24.ntmps (0), .non, .non, .non, .non, .arr a_n K6x a_c, iv (a_n : Int), iv (((0 : Nat) : Int))] [.row (false) 38 (0) K6x (zeroC), .non]) from by kernel_rfl).trans ?_
 rw [mv_run _ a_n (⟨m_t, m_f, (⟨⟨m_xa, m_xb, m_xk⟩, ⟨m_ya, m_yb, m_yk⟩⟩ : P2)⟩ : M8) a_c (by omega) hm (allP_iff.1 ha) a_n 0 _ zeroC false (by omega) (by omega), mg_cq, mw_cqB]
 cases hq : cqB a_n (mwD (⟨m_t, m_f, (⟨⟨m_xa, m_xb, m_xk⟩, ⟨m_ya, m_yb, m_yk⟩⟩ : P2)⟩ : M8) a_n a_c) with
 | false => unfold mpN mpI mpO; rw [hp, hq]; rfl
 | true =>
  have ho : mpO (⟨m_t, m_f, (⟨⟨m_xa, m_xb, m_xk⟩, ⟨m_ya, m_yb, m_yk⟩⟩ : P2)⟩ : M8) a_n a_c = true := by unfold mpO; rw [hp, hq]; rfl
  obtain ⟨k1, k2, k3⟩ := mp_norm ho
  rw [k1, k2]
  unfold mpN mpI
  rw [ho]
  cases m_f with
  | false => rfl
  | true => rw [k3 rfl]; rfl
theorem m24 : MT 24 s24 := by
 refine meetsW mix0 G109 Tryz.func24 (by kernel_rfl) (by kernel_rfl) s24 fun args x h => ?_
 unfold s24 at h
 split at h
 ·rename_i m_t m_f m_xa m_xb m_xk m_ya m_yb m_yk a_n a_c
  obtain ⟨hp, rfl⟩ := sm_inj h
  exact ⟨_, _, by kernel_rfl, e24 m_t m_f m_xa m_xb m_xk m_ya m_yb m_yk a_n a_c hp⟩
 ·cases h
noncomputable abbrev Γ110 : LC := (24, s24) :: Γ109
theorem G110 : SD Γ110 := G109.cons m24
-- impl.MovePolygon
noncomputable def s9 : Ctr := fun
 | [.agg [iv m_t, .val (.bool m_f), iv m_xa, iv m_xb, iv m_xk, iv m_ya, iv m_yb, iv m_yk], .arr a_n K6x a_c] => some (Nat.ble (a_n) 1048576, AV.tup [AV.row (mpO (⟨m_t, m_f, (⟨⟨m_xa, m_xb, m_xk⟩, ⟨m_ya, m_yb, m_yk⟩⟩ : P2)⟩ : M8) a_n a_c) 38 (mpN (⟨m_t, m_f, (⟨⟨m_xa, m_xb, m_xk⟩, ⟨m_ya, m_yb, m_yk⟩⟩ : P2)⟩ : M8) a_n a_c) K6x (mpI (⟨m_t, m_f, (⟨⟨m_xa, m_xb, m_xk⟩, ⟨m_ya, m_yb, m_yk⟩⟩ : P2)⟩ : M8) a_n a_c), bv (mpO (⟨m_t, m_f, (⟨⟨m_xa, m_xb, m_xk⟩, ⟨m_ya, m_yb, m_yk⟩⟩ : P2)⟩ : M8) a_n a_c)])
 | _ => none
theorem e9 (m_t : Int) (m_f : Bool) (m_xa : Int) (m_xb : Int) (m_xk : Int) (m_ya : Int) (m_yb : Int) (m_yk : Int) (a_n : Nat) (a_c : NNI) (hp : (Nat.ble (a_n) 1048576) = true) : evW Tryz.prog GLv Γ110 (0) (⟨[], [], [(16, [0])], 1, [some (38, K6x), none]⟩)  Tryz.f9 [.agg [iv m_t, .val (.bool m_f), iv m_xa, iv m_xb, iv m_xk, iv m_ya, iv m_yb, iv m_yk], .arr a_n K6x a_c] = some (AV.tup [AV.row (mpO (⟨m_t, m_f, (⟨⟨m_xa, m_xb, m_xk⟩, ⟨m_ya, m_yb, m_yk⟩⟩ : P2)⟩ : M8) a_n a_c) 38 (mpN (⟨m_t, m_f, (⟨⟨m_xa, m_xb, m_xk⟩, ⟨m_ya, m_yb, m_yk⟩⟩ : P2)⟩ : M8) a_n a_c) K6x (mpI (⟨m_t, m_f, (⟨⟨m_xa, m_xb, m_xk⟩, ⟨m_ya, m_yb, m_yk⟩⟩ : P2)⟩ : M8) a_n a_c), bv (mpO (⟨m_t, m_f, (⟨⟨m_xa, m_xb, m_xk⟩, ⟨m_ya, m_yb, m_yk⟩⟩ : P2)⟩ : M8) a_n a_c)]) := by
 refine (show _ = cond (!(inB m_t 0 7 && valP (⟨⟨m_xa, m_xb, m_xk⟩, ⟨m_ya, m_yb, m_yk⟩⟩ : P2))) (some (AV.tup [AV.row false 38 0 K6x fun _ _ => 0, bv false])) (cond (Nat.ble (a_n) 1048576) (cond (!(vpI a_n a_c)) (some (AV.tup [AV.row false 38 0 K6x fun _ _ => 0, bv false])) (cond (mpV (⟨m_t, m_f, (⟨⟨m_xa, m_xb, m_xk⟩, ⟨m_ya, m_yb, m_yk⟩⟩ : P2)⟩ : M8) a_n a_c) (some (AV.tup [AV.row (mpO (⟨m_t, m_f, (⟨⟨m_xa, m_xb, m_xk⟩, ⟨m_ya, m_yb, m_yk⟩⟩ : P2)⟩ : M8) a_n a_c) 38 (mpN (⟨m_t, m_f, (⟨⟨m_xa, m_xb, m_xk⟩, ⟨m_ya, m_yb, m_yk⟩⟩ : P2)⟩ : M8) a_n a_c) K6x (mpI (⟨m_t, m_f, (⟨⟨m_xa, m_xb, m_xk⟩, ⟨m_ya, m_yb, m_yk⟩⟩ : P2)⟩ : M8) a_n a_c), bv (mpO (⟨m_t, m_f, (⟨⟨m_xa, m_xb, m_xk⟩, ⟨m_ya, m_yb, m_yk⟩⟩ : P2)⟩ : M8) a_n a_c)])) (none))) (none)) from by kernel_rfl).trans ?_
 rw [hp, vp_eq]
 cases hm : (inB m_t 0 7 && valP (⟨⟨m_xa, m_xb, m_xk⟩, ⟨m_ya, m_yb, m_yk⟩⟩ : P2)) with
 | false =>
  have hV : mpV (⟨m_t, m_f, (⟨⟨m_xa, m_xb, m_xk⟩, ⟨m_ya, m_yb, m_yk⟩⟩ : P2)⟩ : M8) a_n a_c = false := by unfold mpV M8.valid; rw [show (inB m_t 0 7 && valP (⟨⟨m_xa, m_xb, m_xk⟩, ⟨m_ya, m_yb, m_yk⟩⟩ : P2)) = false from hm]; rfl
  unfold mpN mpI mpO; rw [hV]; rfl
 | true =>
  cases hv : vpS a_n a_c with
  | false =>
   have hV : mpV (⟨m_t, m_f, (⟨⟨m_xa, m_xb, m_xk⟩, ⟨m_ya, m_yb, m_yk⟩⟩ : P2)⟩ : M8) a_n a_c = false := by unfold mpV; rw [hv, Bool.and_false]
   unfold mpN mpI mpO; rw [hV]; rfl
  | true =>
   have hV : mpV (⟨m_t, m_f, (⟨⟨m_xa, m_xb, m_xk⟩, ⟨m_ya, m_yb, m_yk⟩⟩ : P2)⟩ : M8) a_n a_c = true := by unfold mpV M8.valid; rw [hv, show (inB m_t 0 7 && valP (⟨⟨m_xa, m_xb, m_xk⟩, ⟨m_ya, m_yb, m_yk⟩⟩ : P2)) = true from hm]; rfl
   rw [hV]; rfl
theorem m9 : MT 9 s9 := by
 refine meetsW mix0 G110 Tryz.func9 (by kernel_rfl) (by kernel_rfl) s9 fun args x h => ?_
 unfold s9 at h
 split at h
 ·rename_i m_t m_f m_xa m_xb m_xk m_ya m_yb m_yk a_n a_c
  obtain ⟨hp, rfl⟩ := sm_inj h
  exact ⟨_, _, by kernel_rfl, e9 m_t m_f m_xa m_xb m_xk m_ya m_yb m_yk a_n a_c hp⟩
 ·cases h
noncomputable abbrev Γ111 : LC := (9, s9) :: Γ110
theorem G111 : SD Γ111 := G110.cons m9
end Go.Proofs.YtlcopddgplbdhaaGreatDoor
