/- Contracts of the program's functions, by the evaluator. -/
import Derived.Test.YtlcopddgplbdhaaGreatDoorC20
import Derived.Test.YtlcopddgplbdhaaGreatDoorPlB
namespace Go.Proofs.YtlcopddgplbdhaaGreatDoor
open Go.Ev
set_option linter.unusedVariables false
set_option linter.unusedSimpArgs false
set_option maxRecDepth 100000
-- (impl.Motion).back
noncomputable def s35 : Ctr := fun
 | [.agg [iv m_t, .val (.bool m_f), iv m_xa, iv m_xb, iv m_xk, iv m_ya, iv m_yb, iv m_yk]] => some (inB m_t 0 7 && okP (⟨⟨m_xa, m_xb, m_xk⟩, ⟨m_ya, m_yb, m_yk⟩⟩ : P2), mav (invT m_t m_f) m_f (invP m_t m_f (⟨⟨m_xa, m_xb, m_xk⟩, ⟨m_ya, m_yb, m_yk⟩⟩ : P2)))
 | _ => none
theorem e35 (m_t : Int) (m_f : Bool) (m_xa : Int) (m_xb : Int) (m_xk : Int) (m_ya : Int) (m_yb : Int) (m_yk : Int) (hp : (inB m_t 0 7 && okP (⟨⟨m_xa, m_xb, m_xk⟩, ⟨m_ya, m_yb, m_yk⟩⟩ : P2)) = true) : evN Tryz.prog GLv Γ111 (0) []  Tryz.f35 [.agg [iv m_t, .val (.bool m_f), iv m_xa, iv m_xb, iv m_xk, iv m_ya, iv m_yb, iv m_yk]] = some (mav (invT m_t m_f) m_f (invP m_t m_f (⟨⟨m_xa, m_xb, m_xk⟩, ⟨m_ya, m_yb, m_yk⟩⟩ : P2))) := by
 simp only [Bool.and_eq_true] at hp
 obtain ⟨h1, h2⟩ := hp
 cases m_f with
 | true =>
  refine (show _ = cond (inB (m_t) 0 7 && okP ((⟨⟨m_xa, m_xb, m_xk⟩, ⟨m_ya, m_yb, m_yk⟩⟩ : P2))) (some (mav (m_t) true (negP (turnF (m_t) (flipP true (⟨⟨m_xa, m_xb, m_xk⟩, ⟨m_ya, m_yb, m_yk⟩⟩ : P2)))))) none from by kernel_rfl).trans ?_
  rw [h1, h2]
  rfl
 | false =>
  refine (show _ = cond (inB (and64 (wr (0 - m_t)) 7) 0 7 && okP ((⟨⟨m_xa, m_xb, m_xk⟩, ⟨m_ya, m_yb, m_yk⟩⟩ : P2))) (some (mav (and64 (wr (0 - m_t)) 7) false (negP (turnF (and64 (wr (0 - m_t)) 7) (flipP false (⟨⟨m_xa, m_xb, m_xk⟩, ⟨m_ya, m_yb, m_yk⟩⟩ : P2)))))) none from by kernel_rfl).trans ?_
  have h3 : inB ((8 - m_t) % 8) 0 7 = true := invT_in h1 false
  rw [inv_impl h1, h3, h2]
  rfl
theorem m35 : MT 35 s35 := by
 refine meetsN mix0 glv G111 Tryz.func35 (by kernel_rfl) (by kernel_rfl) s35 fun args x h => ?_
 unfold s35 at h
 split at h
 ·rename_i m_t m_f m_xa m_xb m_xk m_ya m_yb m_yk
  obtain ⟨hp, rfl⟩ := sm_inj h
  exact ⟨_, _, by kernel_rfl, e35 m_t m_f m_xa m_xb m_xk m_ya m_yb m_yk hp⟩
 ·cases h
noncomputable abbrev Γ112 : LC := (35, s35) :: Γ111
theorem G112 : SD Γ112 := G111.cons m35
-- (impl.Motion).checked
noncomputable def s36 : Ctr := fun
 | [.agg [iv m_t, .val (.bool m_f), iv m_xa, iv m_xb, iv m_xk, iv m_ya, iv m_yb, iv m_yk]] => some (kB m_xk && kB m_yk, rM (valP (redP (⟨⟨m_xa, m_xb, m_xk⟩, ⟨m_ya, m_yb, m_yk⟩⟩ : P2))) m_t m_f (redP (⟨⟨m_xa, m_xb, m_xk⟩, ⟨m_ya, m_yb, m_yk⟩⟩ : P2)))
 | _ => none
theorem e36 (m_t : Int) (m_f : Bool) (m_xa : Int) (m_xb : Int) (m_xk : Int) (m_ya : Int) (m_yb : Int) (m_yk : Int) (hp : (kB m_xk && kB m_yk) = true) : evN Tryz.prog GLv Γ112 (0) []  Tryz.f36 [.agg [iv m_t, .val (.bool m_f), iv m_xa, iv m_xb, iv m_xk, iv m_ya, iv m_yb, iv m_yk]] = some (rM (valP (redP (⟨⟨m_xa, m_xb, m_xk⟩, ⟨m_ya, m_yb, m_yk⟩⟩ : P2))) m_t m_f (redP (⟨⟨m_xa, m_xb, m_xk⟩, ⟨m_ya, m_yb, m_yk⟩⟩ : P2))) := by
 refine (show _ = cond (kB m_xk && kB m_yk) (cond (!valP (redP (⟨⟨m_xa, m_xb, m_xk⟩, ⟨m_ya, m_yb, m_yk⟩⟩ : P2))) (some (rM false m_t m_f (redP (⟨⟨m_xa, m_xb, m_xk⟩, ⟨m_ya, m_yb, m_yk⟩⟩ : P2)))) (some (rM true m_t m_f ((fun c : Bool => (selP c (redP (⟨⟨m_xa, m_xb, m_xk⟩, ⟨m_ya, m_yb, m_yk⟩⟩ : P2)))) (valP (redP (⟨⟨m_xa, m_xb, m_xk⟩, ⟨m_ya, m_yb, m_yk⟩⟩ : P2))))))) none from by kernel_rfl).trans ?_
 rw [hp]
 cases valP (redP (⟨⟨m_xa, m_xb, m_xk⟩, ⟨m_ya, m_yb, m_yk⟩⟩ : P2)) <;> rfl
theorem m36 : MT 36 s36 := by
 refine meetsN mix0 glv G112 Tryz.func36 (by kernel_rfl) (by kernel_rfl) s36 fun args x h => ?_
 unfold s36 at h
 split at h
 ·rename_i m_t m_f m_xa m_xb m_xk m_ya m_yb m_yk
  obtain ⟨hp, rfl⟩ := sm_inj h
  exact ⟨_, _, by kernel_rfl, e36 m_t m_f m_xa m_xb m_xk m_ya m_yb m_yk hp⟩
 ·cases h
noncomputable abbrev Γ113 : LC := (36, s36) :: Γ112
theorem G113 : SD Γ113 := G112.cons m36
-- impl.Invert
noncomputable def s13 : Ctr := fun
 | [.agg [iv m_t, .val (.bool m_f), iv m_xa, iv m_xb, iv m_xk, iv m_ya, iv m_yb, iv m_yk]] => some (true, rM ((inB m_t 0 7 && valP (⟨⟨m_xa, m_xb, m_xk⟩, ⟨m_ya, m_yb, m_yk⟩⟩ : P2)) && valP (redP (invP m_t m_f (⟨⟨m_xa, m_xb, m_xk⟩, ⟨m_ya, m_yb, m_yk⟩⟩ : P2)))) (invT m_t m_f) m_f (redP (invP m_t m_f (⟨⟨m_xa, m_xb, m_xk⟩, ⟨m_ya, m_yb, m_yk⟩⟩ : P2))))
 | _ => none
theorem e13 (m_t : Int) (m_f : Bool) (m_xa : Int) (m_xb : Int) (m_xk : Int) (m_ya : Int) (m_yb : Int) (m_yk : Int) : evN Tryz.prog GLv Γ113 (0) []  Tryz.f13 [.agg [iv m_t, .val (.bool m_f), iv m_xa, iv m_xb, iv m_xk, iv m_ya, iv m_yb, iv m_yk]] = some (rM ((inB m_t 0 7 && valP (⟨⟨m_xa, m_xb, m_xk⟩, ⟨m_ya, m_yb, m_yk⟩⟩ : P2)) && valP (redP (invP m_t m_f (⟨⟨m_xa, m_xb, m_xk⟩, ⟨m_ya, m_yb, m_yk⟩⟩ : P2)))) (invT m_t m_f) m_f (redP (invP m_t m_f (⟨⟨m_xa, m_xb, m_xk⟩, ⟨m_ya, m_yb, m_yk⟩⟩ : P2)))) := by
 refine (show _ = cond (!(inB m_t 0 7 && valP (⟨⟨m_xa, m_xb, m_xk⟩, ⟨m_ya, m_yb, m_yk⟩⟩ : P2))) (some (rM false m_t m_f (⟨⟨m_xa, m_xb, m_xk⟩, ⟨m_ya, m_yb, m_yk⟩⟩ : P2))) (cond (inB m_t 0 7 && okP (⟨⟨m_xa, m_xb, m_xk⟩, ⟨m_ya, m_yb, m_yk⟩⟩ : P2)) (cond (kB (invP m_t m_f (⟨⟨m_xa, m_xb, m_xk⟩, ⟨m_ya, m_yb, m_yk⟩⟩ : P2)).x.k && kB (invP m_t m_f (⟨⟨m_xa, m_xb, m_xk⟩, ⟨m_ya, m_yb, m_yk⟩⟩ : P2)).y.k) (some (rM (valP (redP (invP m_t m_f (⟨⟨m_xa, m_xb, m_xk⟩, ⟨m_ya, m_yb, m_yk⟩⟩ : P2)))) (invT m_t m_f) m_f (redP (invP m_t m_f (⟨⟨m_xa, m_xb, m_xk⟩, ⟨m_ya, m_yb, m_yk⟩⟩ : P2))))) none) none) from by kernel_rfl).trans ?_
 cases h1 : inB m_t 0 7 with
 | false => rfl
 | true =>
  cases h2 : valP (⟨⟨m_xa, m_xb, m_xk⟩, ⟨m_ya, m_yb, m_yk⟩⟩ : P2) with
  | false => rfl
  | true =>
   obtain ⟨k1, k2⟩ := invP_k (t := m_t) (f := m_f) (val_ok h2)
   rw [val_ok h2, k1, k2]
   rfl
theorem m13 : MT 13 s13 := by
 refine meetsN mix0 glv G113 Tryz.func13 (by kernel_rfl) (by kernel_rfl) s13 fun args x h => ?_
 unfold s13 at h
 split at h
 ·rename_i m_t m_f m_xa m_xb m_xk m_ya m_yb m_yk
  obtain ⟨hp, rfl⟩ := sm_inj h
  exact ⟨_, _, by kernel_rfl, e13 m_t m_f m_xa m_xb m_xk m_ya m_yb m_yk⟩
 ·cases h
noncomputable abbrev Γ114 : LC := (13, s13) :: Γ113
theorem G114 : SD Γ114 := G113.cons m13
end Go.Proofs.YtlcopddgplbdhaaGreatDoor
