/- Contracts of the program's functions, by the evaluator. -/
import Derived.Test.YtlcopddgplbdhaaGreatDoorC13
import Derived.Test.YtlcopddgplbdhaaGreatDoorPlD
namespace Go.Proofs.YtlcopddgplbdhaaGreatDoor
open Go.Ev
set_option linter.unusedVariables false
set_option linter.unusedSimpArgs false
set_option maxRecDepth 100000
abbrev cfC150 : Cfg := ⟨[true, false, true, false, true, false, false, true, true, true], [], [(7, [0]), (48, [0]), (68, [0])], 1, [some (69, K6x)]⟩
theorem hf_step (K n a_n m i : Nat) (l : Ln) (sd : Int) (a_c d : NNI) (lv h : Bool) : runW Tryz.prog GLv Γ97 K cfC150 [.arr a_n K6x a_c, l.av, iv sd] Tryz.f109 0 (n + 1) (st2 Tryz.f109.ntmps [.arr a_n K6x a_c, .non, iv sd, .non, .own 134 [iv l.d, iv l.o.a, iv l.o.b, iv l.o.k], .non, .non, .sl Tryz.f109.ntmps (m), bv (h), iv ((i : Int))] [.row (lv) 69 (m) K6x (d)]) = cond (decide ((i : Int) < (a_n : Int))) (cond ((decide (0 <= (i : Int)) && decide ((i : Int) < (a_n : Int)))) (cond (!((a_n : Int) == 0)) (cond ((decide (0 <= (((wr ((i : Int) + 1)).tmod (a_n : Int)) : Int)) && decide ((((wr ((i : Int) + 1)).tmod (a_n : Int)) : Int) < (a_n : Int)))) (cond (sgQ l (pAt a_c i)) (cond (sgQ l (pAt a_c ((wr ((i : Int) + 1)).tmod (a_n : Int)).toNat)) (cond (gez (hfA l sd (pAt a_c i))) (cond (Nat.ble ((m + 1) * 48) 140737488355328) (cond (h) (cond (ltz (wr ((hfA l sd (pAt a_c i)) * (hfA l sd (pAt a_c ((wr ((i : Int) + 1)).tmod (a_n : Int)).toNat))))) (cond (pkP (pAt a_c ((wr ((i : Int) + 1)).tmod (a_n : Int)).toNat) (pAt a_c i)) (cond (wayB (sP (pAt a_c ((wr ((i : Int) + 1)).tmod (a_n : Int)).toNat) (pAt a_c i))) (cond (inB (dirV (pAt a_c i) (pAt a_c ((wr ((i : Int) + 1)).tmod (a_n : Int)).toNat)) (-100) 100 && pkD (nrm ((dirV (pAt a_c i) (pAt a_c ((wr ((i : Int) + 1)).tmod (a_n : Int)).toNat)) % 8)) (pAt a_c i)) (cond (cutB l (pAt a_c i) (pAt a_c ((wr ((i : Int) + 1)).tmod (a_n : Int)).toNat)) (cond (Nat.ble (((m + 1) + 1) * 48) 140737488355328) (runW Tryz.prog GLv Γ97 K cfC150 [.arr a_n K6x a_c, l.av, iv sd] Tryz.f109 0 n (st2 Tryz.f109.ntmps [.arr a_n K6x a_c, .non, iv sd, .non, .own 134 [iv l.d, iv l.o.a, iv l.o.b, iv l.o.k], .non, .non, .sl Tryz.f109.ntmps ((m + 1) + 1), bv (true), iv (wr ((i : Int) + 1))] [.row (true) 69 ((m + 1) + 1) K6x (catC ((m + 1)) ((catC m d (listC [rowL 6 a_c i]))) (listC [cell6 (cutX l (pAt a_c i) (pAt a_c ((wr ((i : Int) + 1)).tmod (a_n : Int)).toNat))]))])) (none)) (none)) (none)) (none)) (none)) (runW Tryz.prog GLv Γ97 K cfC150 [.arr a_n K6x a_c, l.av, iv sd] Tryz.f109 0 n (st2 Tryz.f109.ntmps [.arr a_n K6x a_c, .non, iv sd, .non, .own 134 [iv l.d, iv l.o.a, iv l.o.b, iv l.o.k], .non, .non, .sl Tryz.f109.ntmps ((m + 1)), bv (true), iv (wr ((i : Int) + 1))] [.row (true) 69 ((m + 1)) K6x ((catC m d (listC [rowL 6 a_c i])))]))) (cond (ltz (wr ((hfA l sd (pAt a_c i)) * (hfA l sd (pAt a_c ((wr ((i : Int) + 1)).tmod (a_n : Int)).toNat))))) (cond (pkP (pAt a_c ((wr ((i : Int) + 1)).tmod (a_n : Int)).toNat) (pAt a_c i)) (cond (wayB (sP (pAt a_c ((wr ((i : Int) + 1)).tmod (a_n : Int)).toNat) (pAt a_c i))) (cond (inB (dirV (pAt a_c i) (pAt a_c ((wr ((i : Int) + 1)).tmod (a_n : Int)).toNat)) (-100) 100 && pkD (nrm ((dirV (pAt a_c i) (pAt a_c ((wr ((i : Int) + 1)).tmod (a_n : Int)).toNat)) % 8)) (pAt a_c i)) (cond (cutB l (pAt a_c i) (pAt a_c ((wr ((i : Int) + 1)).tmod (a_n : Int)).toNat)) (cond (Nat.ble (((m + 1) + 1) * 48) 140737488355328) (runW Tryz.prog GLv Γ97 K cfC150 [.arr a_n K6x a_c, l.av, iv sd] Tryz.f109 0 n (st2 Tryz.f109.ntmps [.arr a_n K6x a_c, .non, iv sd, .non, .own 134 [iv l.d, iv l.o.a, iv l.o.b, iv l.o.k], .non, .non, .sl Tryz.f109.ntmps ((m + 1) + 1), bv (gtz (hfA l sd (pAt a_c i))), iv (wr ((i : Int) + 1))] [.row (true) 69 ((m + 1) + 1) K6x (catC ((m + 1)) ((catC m d (listC [rowL 6 a_c i]))) (listC [cell6 (cutX l (pAt a_c i) (pAt a_c ((wr ((i : Int) + 1)).tmod (a_n : Int)).toNat))]))])) (none)) (none)) (none)) (none)) (none)) (runW Tryz.prog GLv Γ97 K cfC150 [.arr a_n K6x a_c, l.av, iv sd] Tryz.f109 0 n (st2 Tryz.f109.ntmps [.arr a_n K6x a_c, .non, iv sd, .non, .own 134 [iv l.d, iv l.o.a, iv l.o.b, iv l.o.k], .non, .non, .sl Tryz.f109.ntmps ((m + 1)), bv (gtz (hfA l sd (pAt a_c i))), iv (wr ((i : Int) + 1))] [.row (true) 69 ((m + 1)) K6x ((catC m d (listC [rowL 6 a_c i])))])))) (none)) (cond (h) (cond (ltz (wr ((hfA l sd (pAt a_c i)) * (hfA l sd (pAt a_c ((wr ((i : Int) + 1)).tmod (a_n : Int)).toNat))))) (cond (pkP (pAt a_c ((wr ((i : Int) + 1)).tmod (a_n : Int)).toNat) (pAt a_c i)) (cond (wayB (sP (pAt a_c ((wr ((i : Int) + 1)).tmod (a_n : Int)).toNat) (pAt a_c i))) (cond (inB (dirV (pAt a_c i) (pAt a_c ((wr ((i : Int) + 1)).tmod (a_n : Int)).toNat)) (-100) 100 && pkD (nrm ((dirV (pAt a_c i) (pAt a_c ((wr ((i : Int) + 1)).tmod (a_n : Int)).toNat)) % 8)) (pAt a_c i)) (cond (cutB l (pAt a_c i) (pAt a_c ((wr ((i : Int) + 1)).tmod (a_n : Int)).toNat)) (cond (Nat.ble ((m + 1) * 48) 140737488355328) (runW Tryz.prog GLv Γ97 K cfC150 [.arr a_n K6x a_c, l.av, iv sd] Tryz.f109 0 n (st2 Tryz.f109.ntmps [.arr a_n K6x a_c, .non, iv sd, .non, .own 134 [iv l.d, iv l.o.a, iv l.o.b, iv l.o.k], .non, .non, .sl Tryz.f109.ntmps (m + 1), bv (true), iv (wr ((i : Int) + 1))] [.row (true) 69 (m + 1) K6x (catC (m) (d) (listC [cell6 (cutX l (pAt a_c i) (pAt a_c ((wr ((i : Int) + 1)).tmod (a_n : Int)).toNat))]))])) (none)) (none)) (none)) (none)) (none)) (runW Tryz.prog GLv Γ97 K cfC150 [.arr a_n K6x a_c, l.av, iv sd] Tryz.f109 0 n (st2 Tryz.f109.ntmps [.arr a_n K6x a_c, .non, iv sd, .non, .own 134 [iv l.d, iv l.o.a, iv l.o.b, iv l.o.k], .non, .non, .sl Tryz.f109.ntmps (m), bv (true), iv (wr ((i : Int) + 1))] [.row (lv) 69 (m) K6x (d)]))) (cond (ltz (wr ((hfA l sd (pAt a_c i)) * (hfA l sd (pAt a_c ((wr ((i : Int) + 1)).tmod (a_n : Int)).toNat))))) (cond (pkP (pAt a_c ((wr ((i : Int) + 1)).tmod (a_n : Int)).toNat) (pAt a_c i)) (cond (wayB (sP (pAt a_c ((wr ((i : Int) + 1)).tmod (a_n : Int)).toNat) (pAt a_c i))) (cond (inB (dirV (pAt a_c i) (pAt a_c ((wr ((i : Int) + 1)).tmod (a_n : Int)).toNat)) (-100) 100 && pkD (nrm ((dirV (pAt a_c i) (pAt a_c ((wr ((i : Int) + 1)).tmod (a_n : Int)).toNat)) % 8)) (pAt a_c i)) (cond (cutB l (pAt a_c i) (pAt a_c ((wr ((i : Int) + 1)).tmod (a_n : Int)).toNat)) (cond (Nat.ble ((m + 1) * 48) 140737488355328) (runW Tryz.prog GLv Γ97 K cfC150 [.arr a_n K6x a_c, l.av, iv sd] Tryz.f109 0 n (st2 Tryz.f109.ntmps [.arr a_n K6x a_c, .non, iv sd, .non, .own 134 [iv l.d, iv l.o.a, iv l.o.b, iv l.o.k], .non, .non, .sl Tryz.f109.ntmps (m + 1), bv (gtz (hfA l sd (pAt a_c i))), iv (wr ((i : Int) + 1))] [.row (true) 69 (m + 1) K6x (catC (m) (d) (listC [cell6 (cutX l (pAt a_c i) (pAt a_c ((wr ((i : Int) + 1)).tmod (a_n : Int)).toNat))]))])) (none)) (none)) (none)) (none)) (none)) (runW Tryz.prog GLv Γ97 K cfC150 [.arr a_n K6x a_c, l.av, iv sd] Tryz.f109 0 n (st2 Tryz.f109.ntmps [.arr a_n K6x a_c, .non, iv sd, .non, .own 134 [iv l.d, iv l.o.a, iv l.o.b, iv l.o.k], .non, .non, .sl Tryz.f109.ntmps (m), bv (gtz (hfA l sd (pAt a_c i))), iv (wr ((i : Int) + 1))] [.row (lv) 69 (m) K6x (d)]))))) (none)) (none)) (none)) (none)) (none)) (cond (!h) (some (AV.row false 69 0 K6x fun _ _ => 0)) (some (AV.row lv 69 m K6x d))) := by kernel_rfl
theorem hf_run (K a_n : Nat) (l : Ln) (sd : Int) (a_c : NNI) (h0 : 0 < a_n) (hn : a_n <= 1000) (ok : HfOk l sd a_n a_c) : ∀ (r i n m : Nat) (d : NNI) (lv h : Bool), i + r = a_n -> r < n -> m <= 2 * i -> runW Tryz.prog GLv Γ97 K cfC150 [.arr a_n K6x a_c, l.av, iv sd] Tryz.f109 0 n (st2 Tryz.f109.ntmps [.arr a_n K6x a_c, .non, iv sd, .non, .own 134 [iv l.d, iv l.o.a, iv l.o.b, iv l.o.k], .non, .non, .sl Tryz.f109.ntmps (m), bv (h), iv ((i : Int))] [.row (lv) 69 (m) K6x (d)]) = cond (!(hfF l sd a_n a_c i r ⟨m, d, lv, h⟩).has) (some (AV.row false 69 0 K6x fun _ _ => 0)) (some (AV.row (hfF l sd a_n a_c i r ⟨m, d, lv, h⟩).lv 69 (hfF l sd a_n a_c i r ⟨m, d, lv, h⟩).m K6x (hfF l sd a_n a_c i r ⟨m, d, lv, h⟩).d)) := by
 intro r
 induction r with
 | zero =>
  intro i n m d lv h h1 h2 h3
  obtain ⟨n, rfl⟩ : ∃ n', n = n' + 1 := ⟨n - 1, by omega⟩
  rw [hf_step, nat_lt i a_n, show decide (i < a_n) = false by simp; omega]
  rfl
 | succ r ih =>
  intro i n m d lv h h1 h2 h3
  obtain ⟨n, rfl⟩ : ∃ n', n = n' + 1 := ⟨n - 1, by omega⟩
  have hm : (i + 1) % a_n < a_n := Nat.mod_lt _ h0
  have hi : i < a_n := by omega
  obtain ⟨_, _, _, _, hw, hk⟩ := way_of (ok.v i hi) (ok.v _ hm)
  have hd := inB_iff.1 (ok.d i hi)
  unfold dirA at hd
  obtain ⟨_, k2⟩ := off_ok (d := dirV (pAt a_c i) (pAt a_c ((i + 1) % a_n)) % 8) (inB_iff.2 (by omega)) (ok.v i hi)
  rw [hf_step, wr_succ (by omega), tmod_cast]
  simp only [Int.toNat_natCast, sP_eq]
  rw [nat_nn, nat_nn, nat_lt i a_n, nat_lt _ a_n, show decide (i < a_n) = true by simp; omega, show decide ((i + 1) % a_n < a_n) = true by simpa using hm, show (!((a_n : Int) == 0)) = true by simp; omega, sgQ_eq, sgQ_eq, ok.s i hi, ok.s _ hm,
   hk, way_wayB hw, k2, show inB (dirV (pAt a_c i) (pAt a_c ((i + 1) % a_n))) (-100) 100 = true from inB_iff.2 (by omega), show Nat.ble ((m + 1) * 48) 140737488355328 = true from Nat.ble_eq_true_of_le (by omega), show Nat.ble ((m + 1 + 1) * 48) 140737488355328 = true from Nat.ble_eq_true_of_le (by omega)]
  simp only [Bool.and_self, cond_true]
  have hb := ok.b i hi
  simp only [hfF, hf1, hf2]
  cases hA : gez (hfA l sd (pAt a_c i)) with
  | true =>
   cases hB : ltz (wr (hfA l sd (pAt a_c i) * hfA l sd (pAt a_c ((i + 1) % a_n)))) with
   | true =>
    rw [hb hB]
    simp only [cond_true]
    cases h <;> simp only [cond_true, cond_false, Bool.true_or, Bool.false_or] <;> exact ih (i + 1) n _ _ _ _ (by omega) (by omega) (by omega)
   | false =>
    simp only [cond_true, cond_false]
    cases h <;> simp only [cond_true, cond_false, Bool.true_or, Bool.false_or] <;> exact ih (i + 1) n _ _ _ _ (by omega) (by omega) (by omega)
  | false =>
   rw [gtz_of hA]
   cases hB : ltz (wr (hfA l sd (pAt a_c i) * hfA l sd (pAt a_c ((i + 1) % a_n)))) with
   | true =>
    rw [hb hB]
    simp only [cond_true, cond_false]
    cases h <;> simp only [cond_true, cond_false] <;> exact ih (i + 1) n _ _ _ _ (by omega) (by omega) (by omega)
   | false =>
    simp only [cond_false]
    cases h <;> simp only [cond_true, cond_false] <;> exact ih (i + 1) n _ _ _ _ (by omega) (by omega) (by omega)
-- spec.l03Half
noncomputable def s109 : Ctr := fun
 | [.arr a_n K6x a_c, .agg [iv l_d, iv l_a, iv l_b, iv l_k], iv sd] => some (inB a_n 1 1000 && hfB (⟨l_d, (⟨l_a, l_b, l_k⟩ : N3)⟩ : Ln) sd a_n a_c, AV.row ((hfS (⟨l_d, (⟨l_a, l_b, l_k⟩ : N3)⟩ : Ln) sd a_n a_c).has && (hfS (⟨l_d, (⟨l_a, l_b, l_k⟩ : N3)⟩ : Ln) sd a_n a_c).lv) 69 (cond (hfS (⟨l_d, (⟨l_a, l_b, l_k⟩ : N3)⟩ : Ln) sd a_n a_c).has (hfS (⟨l_d, (⟨l_a, l_b, l_k⟩ : N3)⟩ : Ln) sd a_n a_c).m 0) K6x (cond (hfS (⟨l_d, (⟨l_a, l_b, l_k⟩ : N3)⟩ : Ln) sd a_n a_c).has (hfS (⟨l_d, (⟨l_a, l_b, l_k⟩ : N3)⟩ : Ln) sd a_n a_c).d zeroC))
 | _ => none
theorem e109 (a_n : Nat) (a_c : NNI) (l_d : Int) (l_a : Int) (l_b : Int) (l_k : Int) (sd : Int) (hp : (inB a_n 1 1000 && hfB (⟨l_d, (⟨l_a, l_b, l_k⟩ : N3)⟩ : Ln) sd a_n a_c) = true) : evW Tryz.prog GLv Γ97 (a_n + 2) (cfC150)  Tryz.f109 [.arr a_n K6x a_c, .agg [iv l_d, iv l_a, iv l_b, iv l_k], iv sd] = some (AV.row ((hfS (⟨l_d, (⟨l_a, l_b, l_k⟩ : N3)⟩ : Ln) sd a_n a_c).has && (hfS (⟨l_d, (⟨l_a, l_b, l_k⟩ : N3)⟩ : Ln) sd a_n a_c).lv) 69 (cond (hfS (⟨l_d, (⟨l_a, l_b, l_k⟩ : N3)⟩ : Ln) sd a_n a_c).has (hfS (⟨l_d, (⟨l_a, l_b, l_k⟩ : N3)⟩ : Ln) sd a_n a_c).m 0) K6x (cond (hfS (⟨l_d, (⟨l_a, l_b, l_k⟩ : N3)⟩ : Ln) sd a_n a_c).has (hfS (⟨l_d, (⟨l_a, l_b, l_k⟩ : N3)⟩ : Ln) sd a_n a_c).d zeroC)) := by
 rw [Bool.and_eq_true] at hp
 obtain ⟨hn, hb⟩ := hp
 have hn := inB_iff.1 hn
 obtain ⟨ok, ok2⟩ := hfB_ok hb
 refine (show _ = runW Tryz.prog GLv Γ97 (a_n + 2) cfC150 [.arr a_n K6x a_c, (⟨l_d, (⟨l_a, l_b, l_k⟩ : N3)⟩ : Ln).av, iv sd] Tryz.f109 0 (a_n + 2) (st2 Tryz.f109.ntmps [.arr a_n K6x a_c, .non, iv sd, .non, .own 134 [iv l_d, iv l_a, iv l_b, iv l_k], .non, .non, .sl Tryz.f109.ntmps (0), bv (false), iv (((0 : Nat) : Int))] [.row (false) 69 (0) K6x (zeroC)]) from by kernel_rfl).trans ?_
 rw [hf_run _ a_n (⟨l_d, (⟨l_a, l_b, l_k⟩ : N3)⟩ : Ln) sd a_c (by omega) (by omega) ok a_n 0 _ 0 zeroC false false (by omega) (by omega) (by omega)]
 change cond (!(hfS (⟨l_d, (⟨l_a, l_b, l_k⟩ : N3)⟩ : Ln) sd a_n a_c).has) (some (AV.row false 69 0 K6x fun _ _ => 0)) (some (AV.row (hfS (⟨l_d, (⟨l_a, l_b, l_k⟩ : N3)⟩ : Ln) sd a_n a_c).lv 69 (hfS (⟨l_d, (⟨l_a, l_b, l_k⟩ : N3)⟩ : Ln) sd a_n a_c).m K6x (hfS (⟨l_d, (⟨l_a, l_b, l_k⟩ : N3)⟩ : Ln) sd a_n a_c).d)) = _
 cases hh : (hfS (⟨l_d, (⟨l_a, l_b, l_k⟩ : N3)⟩ : Ln) sd a_n a_c).has with
 | false => rfl
 | true => rfl
theorem m109 : MT 109 s109 := by
 refine meetsW mix0 G97 Tryz.func109 (by kernel_rfl) (by kernel_rfl) s109 fun args x h => ?_
 unfold s109 at h
 split at h
 ·rename_i a_n a_c l_d l_a l_b l_k sd
  obtain ⟨hp, rfl⟩ := sm_inj h
  exact ⟨_, _, by kernel_rfl, e109 a_n a_c l_d l_a l_b l_k sd hp⟩
 ·cases h
noncomputable abbrev Γ98 : LC := (109, s109) :: Γ97
theorem G98 : SD Γ98 := G97.cons m109
end Go.Proofs.YtlcopddgplbdhaaGreatDoor
