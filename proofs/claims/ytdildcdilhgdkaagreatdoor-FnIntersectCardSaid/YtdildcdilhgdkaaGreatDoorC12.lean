/- Contracts of the program's functions, by the evaluator. -/
import Derived.Test.YtdildcdilhgdkaaGreatDoorC11
import Derived.Test.YtdildcdilhgdkaaGreatDoorPlD
namespace Go.Proofs.YtdildcdilhgdkaaGreatDoor
open Go.Ev
set_option linter.unusedVariables false
set_option linter.unusedSimpArgs false
set_option maxRecDepth 100000
-- (impl.Line).meet
noncomputable def s53w : Ctr := fun
  | [.agg [.val (.int .i64 l_d), .val (.int .i64 l_a), .val (.int .i64 l_b), .val (.int .i64 l_k)], .agg [.val (.int .i64 m_d), .val (.int .i64 m_a), .val (.int .i64 m_b), .val (.int .i64 m_k)]] => some ((inB l_d 0 7 && inB m_d 0 7) && ((!(l_d == m_d)) && (nbB (⟨l_a, l_b, l_k⟩ : N3) && nbB (⟨m_a, m_b, m_k⟩ : N3))), .tup [(mtP l_d m_d (⟨l_a, l_b, l_k⟩ : N3) (⟨m_a, m_b, m_k⟩ : N3)).av, bv true])
  | _ => none
theorem e53w (l_d : Int) (l_a : Int) (l_b : Int) (l_k : Int) (m_d : Int) (m_a : Int) (m_b : Int) (m_k : Int) (hp : ((inB l_d 0 7 && inB m_d 0 7) && ((!(l_d == m_d)) && (nbB (⟨l_a, l_b, l_k⟩ : N3) && nbB (⟨m_a, m_b, m_k⟩ : N3)))) = true) : evN Tryz.prog GLv Γ98 (0) []  Tryz.f53 [.agg [.val (.int .i64 l_d), .val (.int .i64 l_a), .val (.int .i64 l_b), .val (.int .i64 l_k)], .agg [.val (.int .i64 m_d), .val (.int .i64 m_a), .val (.int .i64 m_b), .val (.int .i64 m_k)]] = some (.tup [(mtP l_d m_d (⟨l_a, l_b, l_k⟩ : N3) (⟨m_a, m_b, m_k⟩ : N3)).av, bv true]) := by
  simp only [Bool.and_eq_true, Bool.not_eq_true'] at hp
  obtain ⟨⟨h1, h2⟩, h3, h4, h5⟩ := hp
  obtain ⟨c0, ⟨c1, c2, c3, c4, c5⟩, ⟨c6, c7, c8, c9, c10⟩, _⟩ := meet_wide h1 h2 h3 h4 h5
  have w1 := nrm_in h1
  have w2 := nrm_in h2
  refine (show _ = cond (inB (wr (l_d + 4)) 0 15) (cond (inB (wr (m_d + 4)) 0 15) (cond (pkC (nrm l_d) (nrm m_d)) (cond (pkm (⟨l_a, l_b, l_k⟩ : N3) (nrm m_d).y) (cond (pkm (⟨m_a, m_b, m_k⟩ : N3) (nrm l_d).y) (cond (pk (mulF (⟨l_a, l_b, l_k⟩ : N3) (nrm m_d).y) (mulF (⟨m_a, m_b, m_k⟩ : N3) (nrm l_d).y)) (cond (dvP (mtX l_d m_d (⟨l_a, l_b, l_k⟩ : N3) (⟨m_a, m_b, m_k⟩ : N3)) (crsF (nrm l_d) (nrm m_d))) (cond (pkm (⟨m_a, m_b, m_k⟩ : N3) (nrm l_d).x) (cond (pkm (⟨l_a, l_b, l_k⟩ : N3) (nrm m_d).x) (cond (pk (mulF (⟨m_a, m_b, m_k⟩ : N3) (nrm l_d).x) (mulF (⟨l_a, l_b, l_k⟩ : N3) (nrm m_d).x)) (cond (dvP (mtY l_d m_d (⟨l_a, l_b, l_k⟩ : N3) (⟨m_a, m_b, m_k⟩ : N3)) (crsF (nrm l_d) (nrm m_d))) (cond (dvOk (mtX l_d m_d (⟨l_a, l_b, l_k⟩ : N3) (⟨m_a, m_b, m_k⟩ : N3)) (crsF (nrm l_d) (nrm m_d))) (some (.tup [(mtP l_d m_d (⟨l_a, l_b, l_k⟩ : N3) (⟨m_a, m_b, m_k⟩ : N3)).av, bv (dvOk (mtY l_d m_d (⟨l_a, l_b, l_k⟩ : N3) (⟨m_a, m_b, m_k⟩ : N3)) (crsF (nrm l_d) (nrm m_d)))])) (some (.tup [(mtP l_d m_d (⟨l_a, l_b, l_k⟩ : N3) (⟨m_a, m_b, m_k⟩ : N3)).av, bv false]))) none) none) none) none) none) none) none) none) none) none) none from by kernel_rfl).trans ?_
  rw [w1, w2, c0, c1, c2, c3, c4, c6, c7, c8, c9, c5, c10]
  rfl
theorem m53w : Meets Tryz.prog GLv 53 s53w := by
  refine meetsN mix0 glv G98 Tryz.func53 (by kernel_rfl) (by kernel_rfl) s53w fun args x h => ?_
  unfold s53w at h
  split at h
  . rename_i l_d l_a l_b l_k m_d m_a m_b m_k
    simp only [Option.some.injEq, Prod.mk.injEq] at h
    obtain ⟨hp, rfl⟩ := h
    exact ⟨_, _, by kernel_rfl, e53w l_d l_a l_b l_k m_d m_a m_b m_k hp⟩
  . cases h
noncomputable abbrev Γ99 : List (Nat × Ctr) := (53, s53w) :: Γ98
theorem G99 : Sound Tryz.prog GLv Γ99 := G98.cons m53w
-- spec.l02Meet
noncomputable def s94w : Ctr := fun
  | [.agg [.val (.int .i64 l_d), .val (.int .i64 l_a), .val (.int .i64 l_b), .val (.int .i64 l_k)], .agg [.val (.int .i64 m_d), .val (.int .i64 m_a), .val (.int .i64 m_b), .val (.int .i64 m_k)]] => some ((inB l_d 0 7 && inB m_d 0 7) && ((!(l_d == m_d)) && (nbB (⟨l_a, l_b, l_k⟩ : N3) && nbB (⟨m_a, m_b, m_k⟩ : N3))), (mtP l_d m_d (⟨l_a, l_b, l_k⟩ : N3) (⟨m_a, m_b, m_k⟩ : N3)).av)
  | _ => none
theorem e94w (l_d : Int) (l_a : Int) (l_b : Int) (l_k : Int) (m_d : Int) (m_a : Int) (m_b : Int) (m_k : Int) (hp : ((inB l_d 0 7 && inB m_d 0 7) && ((!(l_d == m_d)) && (nbB (⟨l_a, l_b, l_k⟩ : N3) && nbB (⟨m_a, m_b, m_k⟩ : N3)))) = true) : evN Tryz.prog GLv Γ99 (0) []  Tryz.f94 [.agg [.val (.int .i64 l_d), .val (.int .i64 l_a), .val (.int .i64 l_b), .val (.int .i64 l_k)], .agg [.val (.int .i64 m_d), .val (.int .i64 m_a), .val (.int .i64 m_b), .val (.int .i64 m_k)]] = some ((mtP l_d m_d (⟨l_a, l_b, l_k⟩ : N3) (⟨m_a, m_b, m_k⟩ : N3)).av) := by
  simp only [Bool.and_eq_true, Bool.not_eq_true'] at hp
  obtain ⟨⟨h1, h2⟩, h3, h4, h5⟩ := hp
  obtain ⟨c0, ⟨c1, c2, c3, c4, c5⟩, ⟨c6, c7, c8, c9, c10⟩, _⟩ := meet_wide h1 h2 h3 h4 h5
  have w1 := nrm_in h1
  have w2 := nrm_in h2
  have hc := c0
  unfold pkC at hc
  simp only [Bool.and_eq_true] at hc
  obtain ⟨k1, k2, k3⟩ := hc
  obtain ⟨n1, n2⟩ := nrm16 h1
  obtain ⟨n3, n4⟩ := nrm16 h2
  refine (show _ = cond (inB (wr (l_d + 4)) 0 19) (cond (inB (wr (m_d + 4)) 0 19) (cond (pkm (vecP (wr (l_d + 4) % 16)).x (vecP (wr (m_d + 4) % 16)).y) (cond (pkm (vecP (wr (l_d + 4) % 16)).y (vecP (wr (m_d + 4) % 16)).x) (cond (pk (mulF (vecP (wr (l_d + 4) % 16)).x (vecP (wr (m_d + 4) % 16)).y) (mulF (vecP (wr (l_d + 4) % 16)).y (vecP (wr (m_d + 4) % 16)).x)) (cond (pkm (⟨l_a, l_b, l_k⟩ : N3) (vecP (wr (m_d + 4) % 16)).y) (cond (pkm (⟨m_a, m_b, m_k⟩ : N3) (vecP (wr (l_d + 4) % 16)).y) (cond (pk (mulF (⟨l_a, l_b, l_k⟩ : N3) (vecP (wr (m_d + 4) % 16)).y) (mulF (⟨m_a, m_b, m_k⟩ : N3) (vecP (wr (l_d + 4) % 16)).y)) (cond (dvP (subF (mulF (⟨l_a, l_b, l_k⟩ : N3) (vecP (wr (m_d + 4) % 16)).y) (mulF (⟨m_a, m_b, m_k⟩ : N3) (vecP (wr (l_d + 4) % 16)).y)) (crsF (vecP (wr (l_d + 4) % 16)) (vecP (wr (m_d + 4) % 16)))) (cond (pkm (⟨m_a, m_b, m_k⟩ : N3) (vecP (wr (l_d + 4) % 16)).x) (cond (pkm (⟨l_a, l_b, l_k⟩ : N3) (vecP (wr (m_d + 4) % 16)).x) (cond (pk (mulF (⟨m_a, m_b, m_k⟩ : N3) (vecP (wr (l_d + 4) % 16)).x) (mulF (⟨l_a, l_b, l_k⟩ : N3) (vecP (wr (m_d + 4) % 16)).x)) (cond (dvP (subF (mulF (⟨m_a, m_b, m_k⟩ : N3) (vecP (wr (l_d + 4) % 16)).x) (mulF (⟨l_a, l_b, l_k⟩ : N3) (vecP (wr (m_d + 4) % 16)).x)) (crsF (vecP (wr (l_d + 4) % 16)) (vecP (wr (m_d + 4) % 16)))) (some ((⟨dvF (subF (mulF (⟨l_a, l_b, l_k⟩ : N3) (vecP (wr (m_d + 4) % 16)).y) (mulF (⟨m_a, m_b, m_k⟩ : N3) (vecP (wr (l_d + 4) % 16)).y)) (crsF (vecP (wr (l_d + 4) % 16)) (vecP (wr (m_d + 4) % 16))), dvF (subF (mulF (⟨m_a, m_b, m_k⟩ : N3) (vecP (wr (l_d + 4) % 16)).x) (mulF (⟨l_a, l_b, l_k⟩ : N3) (vecP (wr (m_d + 4) % 16)).x)) (crsF (vecP (wr (l_d + 4) % 16)) (vecP (wr (m_d + 4) % 16)))⟩ : P2).av)) (none)) (none)) (none)) (none)) (none)) (none)) (none)) (none)) (none)) (none)) (none)) (none)) (none) from by kernel_rfl).trans ?_
  rw [n1, n3, n2, n4, k1, k2, k3, c1, c2, c3, c6, c7, c8, show dvP (subF (mulF (⟨l_a, l_b, l_k⟩ : N3) (nrm m_d).y) (mulF (⟨m_a, m_b, m_k⟩ : N3) (nrm l_d).y)) (crsF (nrm l_d) (nrm m_d)) = true from c4, show dvP (subF (mulF (⟨m_a, m_b, m_k⟩ : N3) (nrm l_d).x) (mulF (⟨l_a, l_b, l_k⟩ : N3) (nrm m_d).x)) (crsF (nrm l_d) (nrm m_d)) = true from c9]
  rfl
theorem m94w : Meets Tryz.prog GLv 94 s94w := by
  refine meetsN mix0 glv G99 Tryz.func94 (by kernel_rfl) (by kernel_rfl) s94w fun args x h => ?_
  unfold s94w at h
  split at h
  . rename_i l_d l_a l_b l_k m_d m_a m_b m_k
    simp only [Option.some.injEq, Prod.mk.injEq] at h
    obtain ⟨hp, rfl⟩ := h
    exact ⟨_, _, by kernel_rfl, e94w l_d l_a l_b l_k m_d m_a m_b m_k hp⟩
  . cases h
noncomputable abbrev Γ100 : List (Nat × Ctr) := (94, s94w) :: Γ99
theorem G100 : Sound Tryz.prog GLv Γ100 := G99.cons m94w
end Go.Proofs.YtdildcdilhgdkaaGreatDoor
