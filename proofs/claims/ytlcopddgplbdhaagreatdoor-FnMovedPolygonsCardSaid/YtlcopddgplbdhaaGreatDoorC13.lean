/- Contracts of the program's functions, by the evaluator. -/
import Derived.Test.YtlcopddgplbdhaaGreatDoorC12
import Derived.Test.YtlcopddgplbdhaaGreatDoorPlD
namespace Go.Proofs.YtlcopddgplbdhaaGreatDoor
open Go.Ev
set_option linter.unusedVariables false
set_option linter.unusedSimpArgs false
set_option maxRecDepth 100000
-- spec.l02Through
noncomputable def s140 : Ctr := fun
 | [.agg [iv p_xa, iv p_xb, iv p_xk, iv p_ya, iv p_yb, iv p_yk], iv d] => some (inB d (-100) 100 && pkD (nrm (d % 8)) (⟨⟨p_xa, p_xb, p_xk⟩, ⟨p_ya, p_yb, p_yk⟩⟩ : P2), (⟨d % 8, offV (d % 8) (⟨⟨p_xa, p_xb, p_xk⟩, ⟨p_ya, p_yb, p_yk⟩⟩ : P2)⟩ : Ln).av)
 | _ => none
theorem e140 (p_xa : Int) (p_xb : Int) (p_xk : Int) (p_ya : Int) (p_yb : Int) (p_yk : Int) (d : Int) (hp : (inB d (-100) 100 && pkD (nrm (d % 8)) (⟨⟨p_xa, p_xb, p_xk⟩, ⟨p_ya, p_yb, p_yk⟩⟩ : P2)) = true) : evN Tryz.prog GLv Γ96 (0) []  Tryz.f140 [.agg [iv p_xa, iv p_xb, iv p_xk, iv p_ya, iv p_yb, iv p_yk], iv d] = some ((⟨d % 8, offV (d % 8) (⟨⟨p_xa, p_xb, p_xk⟩, ⟨p_ya, p_yb, p_yk⟩⟩ : P2)⟩ : Ln).av) := by
 rw [Bool.and_eq_true] at hp
 obtain ⟨h1, h2⟩ := hp
 have k := inB_iff.1 h1
 have e1 : ((d % 16).tmod 8) = d % 8 := by rw [Int.tmod_eq_emod_of_nonneg (by omega)]; omega
 refine (show _ = cond (inB d (-100) 100) (cond (inB (wr (((d % 16).tmod 8) + 4)) 0 19 && pkD (vecP (wr (((d % 16).tmod 8) + 4) % 16)) (⟨⟨p_xa, p_xb, p_xk⟩, ⟨p_ya, p_yb, p_yk⟩⟩ : P2)) (some (⟨((d % 16).tmod 8), dotF (vecP (wr (((d % 16).tmod 8) + 4) % 16)) (⟨⟨p_xa, p_xb, p_xk⟩, ⟨p_ya, p_yb, p_yk⟩⟩ : P2)⟩ : Ln).av) none) none from by kernel_rfl).trans ?_
 have e2 : wr (d % 8 + 4) % 16 = wr (d % 8 + 4) := by rw [wr_in (by omega) (by omega)]; omega
 have e3 : inB (wr (d % 8 + 4)) 0 19 = true := by rw [wr_in (by omega) (by omega)]; exact inB_iff.2 (by omega)
 rw [e1, e2, e3]
 change cond (inB d (-100) 100) (cond (true && pkD (nrm (d % 8)) (⟨⟨p_xa, p_xb, p_xk⟩, ⟨p_ya, p_yb, p_yk⟩⟩ : P2)) _ none) none = _
 rw [h1, h2]
 rfl
theorem m140 : MT 140 s140 := by
 refine meetsN mix0 glv G96 Tryz.func140 (by kernel_rfl) (by kernel_rfl) s140 fun args x h => ?_
 unfold s140 at h
 split at h
 ·rename_i p_xa p_xb p_xk p_ya p_yb p_yk d
  obtain ⟨hp, rfl⟩ := sm_inj h
  exact ⟨_, _, by kernel_rfl, e140 p_xa p_xb p_xk p_ya p_yb p_yk d hp⟩
 ·cases h
noncomputable abbrev Γ97 : LC := (140, s140) :: Γ96
theorem G97 : SD Γ97 := G96.cons m140
end Go.Proofs.YtlcopddgplbdhaaGreatDoor
