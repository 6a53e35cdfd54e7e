/- Contracts of the program's functions, by the evaluator. -/
import Derived.Test.YtlcopddgplbdhaaGreatDoorC11
import Derived.Test.YtlcopddgplbdhaaGreatDoorPlD
namespace Go.Proofs.YtlcopddgplbdhaaGreatDoor
open Go.Ev
set_option linter.unusedVariables false
set_option linter.unusedSimpArgs false
set_option maxRecDepth 100000
-- spec.l02Meet
noncomputable def s139w : Ctr := fun
 | [.agg [iv l_d, iv l_a, iv l_b, iv l_k], .agg [iv m_d, iv m_a, iv m_b, iv m_k]] => some ((inB l_d 0 7 && inB m_d 0 7) && ((!(l_d == m_d)) && (nbB (⟨l_a, l_b, l_k⟩ : N3) && nbB (⟨m_a, m_b, m_k⟩ : N3))), (mtP l_d m_d (⟨l_a, l_b, l_k⟩ : N3) (⟨m_a, m_b, m_k⟩ : N3)).av)
 | _ => none
theorem e139w (l_d : Int) (l_a : Int) (l_b : Int) (l_k : Int) (m_d : Int) (m_a : Int) (m_b : Int) (m_k : Int) (hp : ((inB l_d 0 7 && inB m_d 0 7) && ((!(l_d == m_d)) && (nbB (⟨l_a, l_b, l_k⟩ : N3) && nbB (⟨m_a, m_b, m_k⟩ : N3)))) = true) : evN Tryz.prog GLv Γ95 (0) []  Tryz.f139 [.agg [iv l_d, iv l_a, iv l_b, iv l_k], .agg [iv m_d, iv m_a, iv m_b, iv m_k]] = some ((mtP l_d m_d (⟨l_a, l_b, l_k⟩ : N3) (⟨m_a, m_b, m_k⟩ : N3)).av) := by
 simp only [Bool.and_eq_true, Bool.not_eq_true'] at hp
 obtain ⟨⟨h1, h2⟩, h3, h4, h5⟩ := hp
 obtain ⟨c0, ⟨c1, c2, c3, c4, c5⟩, ⟨c6, c7, c8, c9, c10⟩, _⟩ := meet_wide h1 h2 h3 h4 h5
 have w1 := nrm_in h1
 have w2 := nrm_in h2
 have hc := c0
 unfold pkC at hc
 simp only [Bool.and_eq_true] at hc
 obtain ⟨k1, k2, k3⟩ := hc
 obtain ⟨n1, n2⟩ := nrm16 h1
 obtain ⟨n3, n4⟩ := nrm16 h2
 refine (show _ = cond (inB (wr (l_d + 4)) 0 19) (cond (inB (wr (m_d + 4)) 0 19) (cond (pkm (vecP (wr (l_d + 4) % 16)).x (vecP (wr (m_d + 4) % 16)).y) (cond (pkm (vecP (wr (l_d + 4) % 16)).y (vecP (wr (m_d + 4) % 16)).x) (cond (pk (mulF (vecP (wr (l_d + 4) % 16)).x (vecP (wr (m_d + 4) % 16)).y) (mulF (vecP (wr (l_d + 4) % 16)).y (vecP (wr (m_d + 4) % 16)).x)) (cond (pkm (⟨l_a, l_b, l_k⟩ : N3) (vecP (wr (m_d + 4) % 16)).y) (cond (pkm (⟨m_a, m_b, m_k⟩ : N3) (vecP (wr (l_d + 4) % 16)).y) (cond (pk (mulF (⟨l_a, l_b, l_k⟩ : N3) (vecP (wr (m_d + 4) % 16)).y) (mulF (⟨m_a, m_b, m_k⟩ : N3) (vecP (wr (l_d + 4) % 16)).y)) (cond (dvP (subF (mulF (⟨l_a, l_b, l_k⟩ : N3) (vecP (wr (m_d + 4) % 16)).y) (mulF (⟨m_a, m_b, m_k⟩ : N3) (vecP (wr (l_d + 4) % 16)).y)) (crsF (vecP (wr (l_d + 4) % 16)) (vecP (wr (m_d + 4) % 16)))) (cond (pkm (⟨m_a, m_b, m_k⟩ : N3) (vecP (wr (l_d + 4) % 16)).x) (cond (pkm (⟨l_a, l_b, l_k⟩ : N3) (vecP (wr (m_d + 4) % 16)).x) (cond (pk (mulF (⟨m_a, m_b, m_k⟩ : N3) (vecP (wr (l_d + 4) % 16)).x) (mulF (⟨l_a, l_b, l_k⟩ : N3) (vecP (wr (m_d + 4) % 16)).x)) (cond (dvP (subF (mulF (⟨m_a, m_b, m_k⟩ : N3) (vecP (wr (l_d + 4) % 16)).x) (mulF (⟨l_a, l_b, l_k⟩ : N3) (vecP (wr (m_d + 4) % 16)).x)) (crsF (vecP (wr (l_d + 4) % 16)) (vecP (wr (m_d + 4) % 16)))) (some ((⟨dvF (subF (mulF (⟨l_a, l_b, l_k⟩ : N3) (vecP (wr (m_d + 4) % 16)).y) (mulF (⟨m_a, m_b, m_k⟩ : N3) (vecP (wr (l_d + 4) % 16)).y)) (crsF (vecP (wr (l_d + 4) % 16)) (vecP (wr (m_d + 4) % 16))), dvF (subF (mulF (⟨m_a, m_b, m_k⟩ : N3) (vecP (wr (l_d + 4) % 16)).x) (mulF (⟨l_a, l_b, l_k⟩ : N3) (vecP (wr (m_d + 4) % 16)).x)) (crsF (vecP (wr (l_d + 4) % 16)) (vecP (wr (m_d + 4) % 16)))⟩ : P2).av)) (none)) (none)) (none)) (none)) (none)) (none)) (none)) (none)) (none)) (none)) (none)) (none)) (none) from by kernel_rfl).trans ?_
 rw [n1, n3, n2, n4, k1, k2, k3, c1, c2, c3, c6, c7, c8, show dvP (subF (mulF (⟨l_a, l_b, l_k⟩ : N3) (nrm m_d).y) (mulF (⟨m_a, m_b, m_k⟩ : N3) (nrm l_d).y)) (crsF (nrm l_d) (nrm m_d)) = true from c4, show dvP (subF (mulF (⟨m_a, m_b, m_k⟩ : N3) (nrm l_d).x) (mulF (⟨l_a, l_b, l_k⟩ : N3) (nrm m_d).x)) (crsF (nrm l_d) (nrm m_d)) = true from c9]
 rfl
theorem m139w : MT 139 s139w := by
 refine meetsN mix0 glv G95 Tryz.func139 (by kernel_rfl) (by kernel_rfl) s139w fun args x h => ?_
 unfold s139w at h
 split at h
 ·rename_i l_d l_a l_b l_k m_d m_a m_b m_k
  obtain ⟨hp, rfl⟩ := sm_inj h
  exact ⟨_, _, by kernel_rfl, e139w l_d l_a l_b l_k m_d m_a m_b m_k hp⟩
 ·cases h
noncomputable abbrev Γ96 : LC := (139, s139w) :: Γ95
theorem G96 : SD Γ96 := G95.cons m139w
end Go.Proofs.YtlcopddgplbdhaaGreatDoor
