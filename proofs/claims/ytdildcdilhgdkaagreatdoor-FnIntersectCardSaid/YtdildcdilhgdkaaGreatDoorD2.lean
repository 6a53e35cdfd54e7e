/- Contracts of the program's functions, by the evaluator. -/
import Derived.Test.YtdildcdilhgdkaaGreatDoorD1
import Derived.Test.YtdildcdilhgdkaaGreatDoorPlE
namespace Go.Proofs.YtdildcdilhgdkaaGreatDoor
open Go.Ev
set_option linter.unusedVariables false
set_option linter.unusedSimpArgs false
set_option maxRecDepth 100000
theorem vt_step (K n a_n m i : Nat) (l : Ln) (sd : Int) (a_c d : NNI) (lv h : Bool) : runW Tryz.prog GLv Γ114 K ⟨kx16, [], [(7, [0]), (48, [0]), (73, [0]), (78, [1])], 2, [some (35, K6x)]⟩ [.arr a_n K6x a_c, l.av, iv sd] Tryz.f24 0 (n + 1) (st2 Tryz.f24.ntmps [.arr a_n K6x a_c, .non, iv sd, .non, .own 27 [iv l.d, iv l.o.a, iv l.o.b, iv l.o.k], .non, .non, .sl Tryz.f24.ntmps (m), bv (h), .non, .non, .non, .non, .non, .non, .non, .non, .non, .arr a_n K6x a_c, iv (a_n : Int), iv ((i : Int))] [.row (lv) 35 (m) K6x (d), .non]) = cond (decide ((i : Int) < (a_n : Int))) (cond ((decide (0 <= (i : Int)) && decide ((i : Int) < (a_n : Int)))) (cond (!((a_n : Int) == 0)) (cond ((decide (0 <= (((wr ((i : Int) + 1)).tmod (a_n : Int)) : Int)) && decide ((((wr ((i : Int) + 1)).tmod (a_n : Int)) : Int) < (a_n : Int)))) (cond (sgPW l (pAt a_c i)) (cond (sgPW l (pAt a_c ((wr ((i : Int) + 1)).tmod (a_n : Int)).toNat)) (cond (gez (hfA l sd (pAt a_c i))) (cond (Nat.ble ((m + 1) * 48) 140737488355328) (cond (h) (cond (ltz (wr ((hfA l sd (pAt a_c i)) * (hfA l sd (pAt a_c ((wr ((i : Int) + 1)).tmod (a_n : Int)).toNat))))) (cond ((pkP (pAt a_c ((wr ((i : Int) + 1)).tmod (a_n : Int)).toNat) (pAt a_c i) && wayN (sP (pAt a_c ((wr ((i : Int) + 1)).tmod (a_n : Int)).toNat) (pAt a_c i))) && (inB (dirV (pAt a_c i) (pAt a_c ((wr ((i : Int) + 1)).tmod (a_n : Int)).toNat)) 0 15 && pkD (nrm ((dirV (pAt a_c i) (pAt a_c ((wr ((i : Int) + 1)).tmod (a_n : Int)).toNat)) % 8)) (pAt a_c i))) (cond (cutB l (pAt a_c i) (pAt a_c ((wr ((i : Int) + 1)).tmod (a_n : Int)).toNat)) (cond (Nat.ble (((m + 1) + 1) * 48) 140737488355328) (runW Tryz.prog GLv Γ114 K ⟨kx16, [], [(7, [0]), (48, [0]), (73, [0]), (78, [1])], 2, [some (35, K6x)]⟩ [.arr a_n K6x a_c, l.av, iv sd] Tryz.f24 0 n (st2 Tryz.f24.ntmps [.arr a_n K6x a_c, .non, iv sd, .non, .own 27 [iv l.d, iv l.o.a, iv l.o.b, iv l.o.k], .non, .non, .sl Tryz.f24.ntmps ((m + 1) + 1), bv (true), .non, .non, .non, .non, .non, .non, .non, .non, .non, .arr a_n K6x a_c, iv (a_n : Int), iv (wr ((i : Int) + 1))] [.row (true) 35 ((m + 1) + 1) K6x (catC ((m + 1)) ((catC m d (listC [rowL 6 a_c i]))) (listC [cell6 (cutX l (pAt a_c i) (pAt a_c ((wr ((i : Int) + 1)).tmod (a_n : Int)).toNat))])), .non])) (none)) (none)) (none)) (runW Tryz.prog GLv Γ114 K ⟨kx16, [], [(7, [0]), (48, [0]), (73, [0]), (78, [1])], 2, [some (35, K6x)]⟩ [.arr a_n K6x a_c, l.av, iv sd] Tryz.f24 0 n (st2 Tryz.f24.ntmps [.arr a_n K6x a_c, .non, iv sd, .non, .own 27 [iv l.d, iv l.o.a, iv l.o.b, iv l.o.k], .non, .non, .sl Tryz.f24.ntmps ((m + 1)), bv (true), .non, .non, .non, .non, .non, .non, .non, .non, .non, .arr a_n K6x a_c, iv (a_n : Int), iv (wr ((i : Int) + 1))] [.row (true) 35 ((m + 1)) K6x ((catC m d (listC [rowL 6 a_c i]))), .non]))) (cond (ltz (wr ((hfA l sd (pAt a_c i)) * (hfA l sd (pAt a_c ((wr ((i : Int) + 1)).tmod (a_n : Int)).toNat))))) (cond ((pkP (pAt a_c ((wr ((i : Int) + 1)).tmod (a_n : Int)).toNat) (pAt a_c i) && wayN (sP (pAt a_c ((wr ((i : Int) + 1)).tmod (a_n : Int)).toNat) (pAt a_c i))) && (inB (dirV (pAt a_c i) (pAt a_c ((wr ((i : Int) + 1)).tmod (a_n : Int)).toNat)) 0 15 && pkD (nrm ((dirV (pAt a_c i) (pAt a_c ((wr ((i : Int) + 1)).tmod (a_n : Int)).toNat)) % 8)) (pAt a_c i))) (cond (cutB l (pAt a_c i) (pAt a_c ((wr ((i : Int) + 1)).tmod (a_n : Int)).toNat)) (cond (Nat.ble (((m + 1) + 1) * 48) 140737488355328) (runW Tryz.prog GLv Γ114 K ⟨kx16, [], [(7, [0]), (48, [0]), (73, [0]), (78, [1])], 2, [some (35, K6x)]⟩ [.arr a_n K6x a_c, l.av, iv sd] Tryz.f24 0 n (st2 Tryz.f24.ntmps [.arr a_n K6x a_c, .non, iv sd, .non, .own 27 [iv l.d, iv l.o.a, iv l.o.b, iv l.o.k], .non, .non, .sl Tryz.f24.ntmps ((m + 1) + 1), bv (gtz (hfA l sd (pAt a_c i))), .non, .non, .non, .non, .non, .non, .non, .non, .non, .arr a_n K6x a_c, iv (a_n : Int), iv (wr ((i : Int) + 1))] [.row (true) 35 ((m + 1) + 1) K6x (catC ((m + 1)) ((catC m d (listC [rowL 6 a_c i]))) (listC [cell6 (cutX l (pAt a_c i) (pAt a_c ((wr ((i : Int) + 1)).tmod (a_n : Int)).toNat))])), .non])) (none)) (none)) (none)) (runW Tryz.prog GLv Γ114 K ⟨kx16, [], [(7, [0]), (48, [0]), (73, [0]), (78, [1])], 2, [some (35, K6x)]⟩ [.arr a_n K6x a_c, l.av, iv sd] Tryz.f24 0 n (st2 Tryz.f24.ntmps [.arr a_n K6x a_c, .non, iv sd, .non, .own 27 [iv l.d, iv l.o.a, iv l.o.b, iv l.o.k], .non, .non, .sl Tryz.f24.ntmps ((m + 1)), bv (gtz (hfA l sd (pAt a_c i))), .non, .non, .non, .non, .non, .non, .non, .non, .non, .arr a_n K6x a_c, iv (a_n : Int), iv (wr ((i : Int) + 1))] [.row (true) 35 ((m + 1)) K6x ((catC m d (listC [rowL 6 a_c i]))), .non])))) (none)) (cond (ltz (wr ((hfA l sd (pAt a_c i)) * (hfA l sd (pAt a_c ((wr ((i : Int) + 1)).tmod (a_n : Int)).toNat))))) (cond ((pkP (pAt a_c ((wr ((i : Int) + 1)).tmod (a_n : Int)).toNat) (pAt a_c i) && wayN (sP (pAt a_c ((wr ((i : Int) + 1)).tmod (a_n : Int)).toNat) (pAt a_c i))) && (inB (dirV (pAt a_c i) (pAt a_c ((wr ((i : Int) + 1)).tmod (a_n : Int)).toNat)) 0 15 && pkD (nrm ((dirV (pAt a_c i) (pAt a_c ((wr ((i : Int) + 1)).tmod (a_n : Int)).toNat)) % 8)) (pAt a_c i))) (cond (cutB l (pAt a_c i) (pAt a_c ((wr ((i : Int) + 1)).tmod (a_n : Int)).toNat)) (cond (Nat.ble ((m + 1) * 48) 140737488355328) (runW Tryz.prog GLv Γ114 K ⟨kx16, [], [(7, [0]), (48, [0]), (73, [0]), (78, [1])], 2, [some (35, K6x)]⟩ [.arr a_n K6x a_c, l.av, iv sd] Tryz.f24 0 n (st2 Tryz.f24.ntmps [.arr a_n K6x a_c, .non, iv sd, .non, .own 27 [iv l.d, iv l.o.a, iv l.o.b, iv l.o.k], .non, .non, .sl Tryz.f24.ntmps (m + 1), bv (h), .non, .non, .non, .non, .non, .non, .non, .non, .non, .arr a_n K6x a_c, iv (a_n : Int), iv (wr ((i : Int) + 1))] [.row (true) 35 (m + 1) K6x (catC (m) (d) (listC [cell6 (cutX l (pAt a_c i) (pAt a_c ((wr ((i : Int) + 1)).tmod (a_n : Int)).toNat))])), .non])) (none)) (none)) (none)) (runW Tryz.prog GLv Γ114 K ⟨kx16, [], [(7, [0]), (48, [0]), (73, [0]), (78, [1])], 2, [some (35, K6x)]⟩ [.arr a_n K6x a_c, l.av, iv sd] Tryz.f24 0 n (st2 Tryz.f24.ntmps [.arr a_n K6x a_c, .non, iv sd, .non, .own 27 [iv l.d, iv l.o.a, iv l.o.b, iv l.o.k], .non, .non, .sl Tryz.f24.ntmps (m), bv (h), .non, .non, .non, .non, .non, .non, .non, .non, .non, .arr a_n K6x a_c, iv (a_n : Int), iv (wr ((i : Int) + 1))] [.row (lv) 35 (m) K6x (d), .non])))) (none)) (none)) (none)) (none)) (none)) (cond (!h) (some (AV.row false 35 0 K6x fun _ _ => 0)) (cond (inB (m : Int) 1 1000000 && cmA m d) (some (AV.row true 35 m K6x (rotC m (lcF d 0 m 0) d))) (none))) := by kernel_rfl
theorem vt_run (K a_n : Nat) (l : Ln) (sd : Int) (a_c : NNI) (h0 : 0 < a_n) (hn : a_n <= 1000) (ok : HgOk l sd a_n a_c) : ∀ (r i n m : Nat) (d : NNI) (lv h : Bool), i + r = a_n -> r < n -> m <= 2 * i -> runW Tryz.prog GLv Γ114 K ⟨kx16, [], [(7, [0]), (48, [0]), (73, [0]), (78, [1])], 2, [some (35, K6x)]⟩ [.arr a_n K6x a_c, l.av, iv sd] Tryz.f24 0 n (st2 Tryz.f24.ntmps [.arr a_n K6x a_c, .non, iv sd, .non, .own 27 [iv l.d, iv l.o.a, iv l.o.b, iv l.o.k], .non, .non, .sl Tryz.f24.ntmps (m), bv (h), .non, .non, .non, .non, .non, .non, .non, .non, .non, .arr a_n K6x a_c, iv (a_n : Int), iv ((i : Int))] [.row (lv) 35 (m) K6x (d), .non]) = cond (!(hfF l sd a_n a_c i r ⟨m, d, lv, h⟩).has) (some (AV.row false 35 0 K6x fun _ _ => 0)) (cond (inB ((hfF l sd a_n a_c i r ⟨m, d, lv, h⟩).m : Int) 1 1000000 && cmA (hfF l sd a_n a_c i r ⟨m, d, lv, h⟩).m (hfF l sd a_n a_c i r ⟨m, d, lv, h⟩).d) (some (AV.row true 35 (hfF l sd a_n a_c i r ⟨m, d, lv, h⟩).m K6x (rotC (hfF l sd a_n a_c i r ⟨m, d, lv, h⟩).m (lcF (hfF l sd a_n a_c i r ⟨m, d, lv, h⟩).d 0 (hfF l sd a_n a_c i r ⟨m, d, lv, h⟩).m 0) (hfF l sd a_n a_c i r ⟨m, d, lv, h⟩).d))) (none)) := by
  intro r
  induction r with
  | zero =>
    intro i n m d lv h h1 h2 h3
    obtain ⟨n, rfl⟩ : ∃ n', n = n' + 1 := ⟨n - 1, by omega⟩
    rw [vt_step, nat_lt i a_n, show decide (i < a_n) = false by simp; omega]
    rfl
  | succ r ih =>
    intro i n m d lv h h1 h2 h3
    obtain ⟨n, rfl⟩ : ∃ n', n = n' + 1 := ⟨n - 1, by omega⟩
    have hm : (i + 1) % a_n < a_n := Nat.mod_lt _ h0
    have hi : i < a_n := by omega
    rw [vt_step, wr_succ (by omega), tmod_cast]
    simp only [Int.toNat_natCast, sP_eq]
    rw [nat_nn, nat_nn, nat_lt i a_n, nat_lt _ a_n, show decide (i < a_n) = true by simp; omega, show decide ((i + 1) % a_n < a_n) = true by simpa using hm, show (!((a_n : Int) == 0)) = true by simp; omega, ok.s i hi, ok.s _ hm,
      show Nat.ble ((m + 1) * 48) 140737488355328 = true from Nat.ble_eq_true_of_le (by omega), show Nat.ble ((m + 1 + 1) * 48) 140737488355328 = true from Nat.ble_eq_true_of_le (by omega)]
    simp only [Bool.and_self, cond_true]
    have hb := ok.b i hi
    simp only [hfF, hf1, hf2]
    cases hA : gez (hfA l sd (pAt a_c i)) with
    | true =>
      cases hB : ltz (wr (hfA l sd (pAt a_c i) * hfA l sd (pAt a_c ((i + 1) % a_n)))) with
      | true =>
        have c := hb hB
        rw [c.pk, c.wy, c.dr, c.pd, c.cb]
        simp only [Bool.and_self, cond_true]
        cases h <;> simp only [cond_true, cond_false, Bool.true_or, Bool.false_or] <;> exact ih (i + 1) n _ _ _ _ (by omega) (by omega) (by omega)
      | false =>
        simp only [cond_true, cond_false]
        cases h <;> simp only [cond_true, cond_false, Bool.true_or, Bool.false_or] <;> exact ih (i + 1) n _ _ _ _ (by omega) (by omega) (by omega)
    | false =>
      cases hB : ltz (wr (hfA l sd (pAt a_c i) * hfA l sd (pAt a_c ((i + 1) % a_n)))) with
      | true =>
        have c := hb hB
        rw [c.pk, c.wy, c.dr, c.pd, c.cb]
        simp only [Bool.and_self, cond_true, cond_false]
        exact ih (i + 1) n _ _ _ _ (by omega) (by omega) (by omega)
      | false =>
        simp only [cond_false]
        exact ih (i + 1) n _ _ _ _ (by omega) (by omega) (by omega)
-- impl.part
noncomputable def s24v : Ctr := fun
  | [.arr a_n K6x a_c, .agg [.val (.int .i64 l_d), .val (.int .i64 l_a), .val (.int .i64 l_b), .val (.int .i64 l_k)], .val (.int .i64 sd)] => some (inB a_n 1 1000 && hgB (⟨l_d, (⟨l_a, l_b, l_k⟩ : N3)⟩ : Ln) sd a_n a_c, AV.row (hfS (⟨l_d, (⟨l_a, l_b, l_k⟩ : N3)⟩ : Ln) sd a_n a_c).has 35 (cond (hfS (⟨l_d, (⟨l_a, l_b, l_k⟩ : N3)⟩ : Ln) sd a_n a_c).has (hfS (⟨l_d, (⟨l_a, l_b, l_k⟩ : N3)⟩ : Ln) sd a_n a_c).m 0) K6x (cond (hfS (⟨l_d, (⟨l_a, l_b, l_k⟩ : N3)⟩ : Ln) sd a_n a_c).has (rotC (hfS (⟨l_d, (⟨l_a, l_b, l_k⟩ : N3)⟩ : Ln) sd a_n a_c).m (lcF (hfS (⟨l_d, (⟨l_a, l_b, l_k⟩ : N3)⟩ : Ln) sd a_n a_c).d 0 (hfS (⟨l_d, (⟨l_a, l_b, l_k⟩ : N3)⟩ : Ln) sd a_n a_c).m 0) (hfS (⟨l_d, (⟨l_a, l_b, l_k⟩ : N3)⟩ : Ln) sd a_n a_c).d) zeroC))
  | _ => none
theorem e24v (a_n : Nat) (a_c : NNI) (l_d : Int) (l_a : Int) (l_b : Int) (l_k : Int) (sd : Int) (hp : (inB a_n 1 1000 && hgB (⟨l_d, (⟨l_a, l_b, l_k⟩ : N3)⟩ : Ln) sd a_n a_c) = true) : evW Tryz.prog GLv Γ114 (a_n + 2) (⟨kx16, [], [(7, [0]), (48, [0]), (73, [0]), (78, [1])], 2, [some (35, K6x)]⟩)  Tryz.f24 [.arr a_n K6x a_c, .agg [.val (.int .i64 l_d), .val (.int .i64 l_a), .val (.int .i64 l_b), .val (.int .i64 l_k)], .val (.int .i64 sd)] = some (AV.row (hfS (⟨l_d, (⟨l_a, l_b, l_k⟩ : N3)⟩ : Ln) sd a_n a_c).has 35 (cond (hfS (⟨l_d, (⟨l_a, l_b, l_k⟩ : N3)⟩ : Ln) sd a_n a_c).has (hfS (⟨l_d, (⟨l_a, l_b, l_k⟩ : N3)⟩ : Ln) sd a_n a_c).m 0) K6x (cond (hfS (⟨l_d, (⟨l_a, l_b, l_k⟩ : N3)⟩ : Ln) sd a_n a_c).has (rotC (hfS (⟨l_d, (⟨l_a, l_b, l_k⟩ : N3)⟩ : Ln) sd a_n a_c).m (lcF (hfS (⟨l_d, (⟨l_a, l_b, l_k⟩ : N3)⟩ : Ln) sd a_n a_c).d 0 (hfS (⟨l_d, (⟨l_a, l_b, l_k⟩ : N3)⟩ : Ln) sd a_n a_c).m 0) (hfS (⟨l_d, (⟨l_a, l_b, l_k⟩ : N3)⟩ : Ln) sd a_n a_c).d) zeroC)) := by
  rw [Bool.and_eq_true] at hp
  obtain ⟨hn, hb⟩ := hp
  have hn := inB_iff.1 hn
  obtain ⟨ok, ok2⟩ := hgB_ok hb
  refine (show _ = runW Tryz.prog GLv Γ114 (a_n + 2) ⟨kx16, [], [(7, [0]), (48, [0]), (73, [0]), (78, [1])], 2, [some (35, K6x)]⟩ [.arr a_n K6x a_c, (⟨l_d, (⟨l_a, l_b, l_k⟩ : N3)⟩ : Ln).av, iv sd] Tryz.f24 0 (a_n + 2) (st2 Tryz.f24.ntmps [.arr a_n K6x a_c, .non, iv sd, .non, .own 27 [iv l_d, iv l_a, iv l_b, iv l_k], .non, .non, .sl Tryz.f24.ntmps (0), bv (false), .non, .non, .non, .non, .non, .non, .non, .non, .non, .arr a_n K6x a_c, iv (a_n : Int), iv (((0 : Nat) : Int))] [.row (false) 35 (0) K6x (zeroC), .non]) from by kernel_rfl).trans ?_
  rw [vt_run _ a_n (⟨l_d, (⟨l_a, l_b, l_k⟩ : N3)⟩ : Ln) sd a_c (by omega) (by omega) ok a_n 0 _ 0 zeroC false false (by omega) (by omega) (by omega)]
  change cond (!(hfS (⟨l_d, (⟨l_a, l_b, l_k⟩ : N3)⟩ : Ln) sd a_n a_c).has) (some (AV.row false 35 0 K6x fun _ _ => 0)) (cond (inB ((hfS (⟨l_d, (⟨l_a, l_b, l_k⟩ : N3)⟩ : Ln) sd a_n a_c).m : Int) 1 1000000 && cmA (hfS (⟨l_d, (⟨l_a, l_b, l_k⟩ : N3)⟩ : Ln) sd a_n a_c).m (hfS (⟨l_d, (⟨l_a, l_b, l_k⟩ : N3)⟩ : Ln) sd a_n a_c).d) (some (AV.row true 35 (hfS (⟨l_d, (⟨l_a, l_b, l_k⟩ : N3)⟩ : Ln) sd a_n a_c).m K6x (rotC (hfS (⟨l_d, (⟨l_a, l_b, l_k⟩ : N3)⟩ : Ln) sd a_n a_c).m (lcF (hfS (⟨l_d, (⟨l_a, l_b, l_k⟩ : N3)⟩ : Ln) sd a_n a_c).d 0 (hfS (⟨l_d, (⟨l_a, l_b, l_k⟩ : N3)⟩ : Ln) sd a_n a_c).m 0) (hfS (⟨l_d, (⟨l_a, l_b, l_k⟩ : N3)⟩ : Ln) sd a_n a_c).d))) (none)) = _
  cases hh : (hfS (⟨l_d, (⟨l_a, l_b, l_k⟩ : N3)⟩ : Ln) sd a_n a_c).has with
  | false => rfl
  | true => rw [ok2 hh]; rfl
theorem m24v : Meets Tryz.prog GLv 24 s24v := by
  refine meetsW mix0 G114 Tryz.func24 (by kernel_rfl) (by kernel_rfl) s24v fun args x h => ?_
  unfold s24v at h
  split at h
  . rename_i a_n a_c l_d l_a l_b l_k sd
    simp only [Option.some.injEq, Prod.mk.injEq] at h
    obtain ⟨hp, rfl⟩ := h
    exact ⟨_, _, by kernel_rfl, e24v a_n a_c l_d l_a l_b l_k sd hp⟩
  . cases h
noncomputable abbrev Γ115 : List (Nat × Ctr) := (24, s24v) :: Γ114
theorem G115 : Sound Tryz.prog GLv Γ115 := G114.cons m24v
end Go.Proofs.YtdildcdilhgdkaaGreatDoor
