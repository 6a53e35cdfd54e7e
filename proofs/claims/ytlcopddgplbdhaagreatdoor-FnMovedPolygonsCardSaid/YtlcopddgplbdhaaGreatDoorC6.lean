/- Contracts of the program's functions, by the evaluator. -/
import Derived.Test.YtlcopddgplbdhaaGreatDoorC5
import Derived.Test.YtlcopddgplbdhaaGreatDoorPlD
namespace Go.Proofs.YtlcopddgplbdhaaGreatDoor
open Go.Ev
set_option linter.unusedVariables false
set_option linter.unusedSimpArgs false
set_option maxRecDepth 100000
abbrev cfC60 : Cfg := ⟨[true, false, false, true, true, true, false, true, true], [], [(46, [0]), (47, [1])], 2, []⟩
-- spec.l03Ok
def s29 : Ctr := fun
 | [.arr a_n K6x a_c] => some (Nat.ble a_n 1048576, bv (vpS a_n a_c))
 | _ => none
theorem r29_step (K n a_n : Nat) (a_c : NNI) (i : Nat) : runW Tryz.prog GLv Γ64 K cfC60 [.arr a_n K6x a_c] Tryz.f29 0 (n + 1) (st2 Tryz.f29.ntmps [.arr a_n K6x a_c, .non, .non, iv (a_n : Int), iv ((i : Int))] [.non, .non]) = cond (decide ((i : Int) < (a_n : Int))) (cond ((decide (0 <= (i : Int)) && decide ((i : Int) < (a_n : Int)))) (cond (!(valP (pAt a_c i))) (some (bv false)) (cond (decide ((i : Int) > 0)) (cond ((decide (0 <= (((0 : Nat) : Int) : Int)) && decide ((((0 : Nat) : Int) : Int) < (a_n : Int)))) (cond ((decide (0 <= (i : Int)) && decide ((i : Int) < (a_n : Int)))) (cond (valP (pAt a_c 0) && valP (pAt a_c i)) (cond (decide (cpP (pAt a_c 0) (pAt a_c i) >= 0)) (some (bv false)) (runW Tryz.prog GLv Γ64 K cfC60 [.arr a_n K6x a_c] Tryz.f29 0 n (st2 Tryz.f29.ntmps [.arr a_n K6x a_c, .non, .non, iv (a_n : Int), iv (wr ((i : Int) + 1))] [.non, .non]))) (none)) (none)) (none)) (runW Tryz.prog GLv Γ64 K cfC60 [.arr a_n K6x a_c] Tryz.f29 0 n (st2 Tryz.f29.ntmps [.arr a_n K6x a_c, .non, .non, iv (a_n : Int), iv (wr ((i : Int) + 1))] [.non, .non])))) (none)) (cond (inB (a_n : Int) 1 1048576) (cond (inB (a_n : Int) 1 1048576 && allP a_n (wideC a_n a_c)) (cond (!(okD a_n (wideC a_n a_c))) (some (bv false)) (runW Tryz.prog GLv Γ64 K cfC60 [.arr a_n K6x a_c] Tryz.f29 1 K (st2 Tryz.f29.ntmps [.arr a_n K6x a_c, .non, .non, iv (a_n : Int), iv ((i : Int)), .sl (Tryz.f29.ntmps + 1) (cond (okD a_n (wideC a_n a_c)) a_n 0), .non, iv (0), iv (((0 : Nat) : Int))] [.non, .row (okD a_n (wideC a_n a_c)) 2 (cond (okD a_n (wideC a_n a_c)) a_n 0) [.int .i64] (cond (okD a_n (wideC a_n a_c)) (sidC a_n (wideC a_n a_c)) zeroC)]))) (none)) (none)) := by kernel_rfl
theorem r29_turn (K n a_n : Nat) (a_c e : NNI) (z s : Int) (j : Nat) : runW Tryz.prog GLv Γ64 K cfC60 [.arr a_n K6x a_c] Tryz.f29 1 (n + 1) (st2 Tryz.f29.ntmps [.arr a_n K6x a_c, .non, .non, iv (a_n : Int), iv (z), .sl (Tryz.f29.ntmps + 1) a_n, .non, iv (s), iv ((j : Int))] [.non, .row true 2 a_n [.int .i64] e]) = cond (decide ((j : Int) < (a_n : Int))) (cond (!((a_n : Int) == 0)) (cond ((decide (0 <= (((wr ((j : Int) + 1)).tmod (a_n : Int)) : Int)) && decide ((((wr ((j : Int) + 1)).tmod (a_n : Int)) : Int) < (a_n : Int)))) (cond ((decide (0 <= (j : Int)) && decide ((j : Int) < (a_n : Int)))) (cond (inB (wr (e ((wr ((j : Int) + 1)).tmod (a_n : Int)).toNat 0 - e j 0)) (-100) 100) (cond (!(inB ((wr (e ((wr ((j : Int) + 1)).tmod (a_n : Int)).toNat 0 - e j 0)) % 16) 1 7)) (some (bv false)) (runW Tryz.prog GLv Γ64 K cfC60 [.arr a_n K6x a_c] Tryz.f29 1 n (st2 Tryz.f29.ntmps [.arr a_n K6x a_c, .non, .non, iv (a_n : Int), iv (z), .sl (Tryz.f29.ntmps + 1) a_n, .non, iv (wr (s + (wr (e ((wr ((j : Int) + 1)).tmod (a_n : Int)).toNat 0 - e j 0)) % 16)), iv (wr ((j : Int) + 1))] [.non, .row true 2 a_n [.int .i64] e]))) (none)) (none)) (none)) (none)) (some (bv (s == 16))) := by kernel_rfl
theorem r29_turns (K a_n : Nat) (a_c e : NNI) (z : Int) (h0 : 0 < a_n) (hn : a_n <= 1048576) (hd : ∀ i, i < a_n -> inB (e i 0) 0 15 = true) : ∀ (m j n : Nat) (s : Int), j + m = a_n -> m < n -> runW Tryz.prog GLv Γ64 K cfC60 [.arr a_n K6x a_c] Tryz.f29 1 n (st2 Tryz.f29.ntmps [.arr a_n K6x a_c, .non, .non, iv (a_n : Int), iv (z), .sl (Tryz.f29.ntmps + 1) a_n, .non, iv (s), iv ((j : Int))] [.non, .row true 2 a_n [.int .i64] e]) = some (bv (cvS a_n e j m s)) := by
 intro m
 induction m with
 | zero =>
  intro j n s h1 h2
  obtain ⟨n, rfl⟩ : ∃ n', n = n' + 1 := ⟨n - 1, by omega⟩
  rw [r29_turn, nat_lt j a_n, show decide (j < a_n) = false by simp; omega]
  rfl
 | succ m ih =>
  intro j n s h1 h2
  obtain ⟨n, rfl⟩ : ∃ n', n = n' + 1 := ⟨n - 1, by omega⟩
  have hm : (j + 1) % a_n < a_n := Nat.mod_lt _ h0
  have q1 := inB_iff.1 (hd j (by omega))
  have q2 := inB_iff.1 (hd _ hm)
  rw [r29_turn, wr_succ (by omega), tmod_cast]
  simp only [Int.toNat_natCast]
  rw [nat_nn, nat_nn, nat_lt j a_n, nat_lt _ a_n, show decide (j < a_n) = true by simp; omega, show decide ((j + 1) % a_n < a_n) = true by simpa using hm, show (!((a_n : Int) == 0)) = true by simp; omega,
   show inB (wr (e ((j + 1) % a_n) 0 - e j 0)) (-100) 100 = true by rw [wr_in (by omega) (by omega)]; exact inB_iff.2 (by omega)]
  simp only [Bool.and_self, cond_true]
  rw [ih (j + 1) n _ (by omega) (by omega)]
  simp only [cvS]
  cases inB (wr (e ((j + 1) % a_n) 0 - e j 0) % 16) 1 7 <;> rfl
theorem r29_run (K a_n : Nat) (a_c : NNI) (h0 : 0 < a_n) (hn : a_n <= 1048576) : ∀ (m i n : Nat), i + m = a_n -> m < n -> (0 < i -> valP (pAt a_c 0) = true) -> runW Tryz.prog GLv Γ64 K cfC60 [.arr a_n K6x a_c] Tryz.f29 0 n (st2 Tryz.f29.ntmps [.arr a_n K6x a_c, .non, .non, iv (a_n : Int), iv ((i : Int))] [.non, .non]) = cond (allF (befS a_c) i m) (cond (inB (a_n : Int) 1 1048576) (cond (inB (a_n : Int) 1 1048576 && allP a_n (wideC a_n a_c)) (cond (!(okD a_n (wideC a_n a_c))) (some (bv false)) (runW Tryz.prog GLv Γ64 K cfC60 [.arr a_n K6x a_c] Tryz.f29 1 K (st2 Tryz.f29.ntmps [.arr a_n K6x a_c, .non, .non, iv (a_n : Int), iv ((a_n : Int)), .sl (Tryz.f29.ntmps + 1) (cond (okD a_n (wideC a_n a_c)) a_n 0), .non, iv (0), iv (((0 : Nat) : Int))] [.non, .row (okD a_n (wideC a_n a_c)) 2 (cond (okD a_n (wideC a_n a_c)) a_n 0) [.int .i64] (cond (okD a_n (wideC a_n a_c)) (sidC a_n (wideC a_n a_c)) zeroC)]))) (none)) (none)) (some (bv false)) := by
 intro m
 induction m with
 | zero =>
  intro i n h1 h2 _
  obtain ⟨n, rfl⟩ : ∃ n', n = n' + 1 := ⟨n - 1, by omega⟩
  rw [r29_step, nat_lt i a_n, show decide (i < a_n) = false by simp; omega, show i = a_n by omega]
  rfl
 | succ m ih =>
  intro i n h1 h2 hp
  obtain ⟨n, rfl⟩ : ∃ n', n = n' + 1 := ⟨n - 1, by omega⟩
  rw [r29_step, nat_nn, nat_nn, nat_lt i a_n, nat_lt 0 a_n, show decide (i < a_n) = true by simp; omega, show decide (0 < a_n) = true by simpa using h0]
  simp only [Bool.and_self, cond_true, allF]
  rw [wr_succ (by omega)]
  cases hv : valP (pAt a_c i) with
  | false => simp only [befS, hv, Bool.not_false, cond_true, Bool.false_and, cond_false]
  | true =>
   have hp0 : valP (pAt a_c 0) = true := by
    by_cases e : i = 0
    ·exact e ▸ hv
    ·exact hp (by omega)
   rw [ih (i + 1) n (by omega) (by omega) (fun _ => hp0), hp0]
   by_cases e : i = 0
   ·subst e
    simp [befS, hv]
   ·rw [show decide ((i : Int) > 0) = true by simp; omega]
    by_cases hc : cpP (pAt a_c 0) (pAt a_c i) < 0
    ·rw [show decide (cpP (pAt a_c 0) (pAt a_c i) >= 0) = false by simp; omega]
     simp [befS, hv, hc]
    ·rw [show decide (cpP (pAt a_c 0) (pAt a_c i) >= 0) = true by simp; omega]
     simp [befS, hv, hc, e]
theorem e29 (a_n : Nat) (a_c : NNI) (hp : (Nat.ble a_n 1048576) = true) : evW Tryz.prog GLv Γ64 (a_n + 2) (cfC60)  Tryz.f29 [.arr a_n K6x a_c] = some (bv (vpS a_n a_c)) := by
 have hn := Nat.le_of_ble_eq_true hp
 refine (show _ = cond (decide ((a_n : Int) < 3)) (some (bv false)) (cond (decide ((a_n : Int) > 16)) (some (bv false)) (runW Tryz.prog GLv Γ64 (a_n + 2) cfC60 [.arr a_n K6x a_c] Tryz.f29 0 (a_n + 2) (st2 Tryz.f29.ntmps [.arr a_n K6x a_c, .non, .non, iv (a_n : Int), iv (((0 : Nat) : Int))] [.non, .non]))) from by kernel_rfl).trans ?_
 unfold vpS
 by_cases h3 : (a_n : Int) < 3
 ·rw [show decide ((a_n : Int) < 3) = true from decide_eq_true h3]; rfl
 rw [show decide ((a_n : Int) < 3) = false from decide_eq_false h3]
 by_cases h16 : (a_n : Int) > 16
 ·rw [show decide ((a_n : Int) > 16) = true from decide_eq_true h16]; rfl
 rw [show decide ((a_n : Int) > 16) = false from decide_eq_false h16]
 simp only [cond_false]
 rw [r29_run _ a_n a_c (by omega) (by omega) a_n 0 _ (by omega) (by omega) (fun h => absurd h (Nat.lt_irrefl 0))]
 cases hb : allF (befS a_c) 0 a_n with
 | false => rfl
 | true =>
  have hv : ∀ i, i < a_n -> valP (pAt a_c i) = true := fun i hi => by
   have := allF_iff.1 hb i (Nat.zero_le _) (by omega)
   simp only [befS, Bool.and_eq_true] at this
   exact this.1
  rw [cond_true, allP_wide, allP_iff.2 hv, show inB (a_n : Int) 1 1048576 = true from inB_iff.2 (by omega), okD_wide, sidC_wide]
  simp only [Bool.and_self, cond_true, Bool.true_and]
  cases ho : okD a_n a_c with
  | false => rfl
  | true =>
   simp only [Bool.not_true, cond_false, cond_true, Bool.true_and]
   rw [r29_turns _ a_n a_c _ _ (by omega) (by omega) (fun i hi => by rw [sid_at hi]; exact dirA_ok (by omega) hv ho hi) a_n 0 _ _ (by omega) (by omega)]
theorem m29 : MT 29 s29 := by
 refine meetsW mix0 G64 Tryz.func29 (by kernel_rfl) (by kernel_rfl) s29 fun args x h => ?_
 unfold s29 at h
 split at h
 ·rename_i a_n a_c
  obtain ⟨hp, rfl⟩ := sm_inj h
  exact ⟨_, _, by kernel_rfl, e29 a_n a_c hp⟩
 ·cases h
abbrev Γ65 : LC := (29, s29) :: Γ64
theorem G65 : SD Γ65 := G64.cons m29
end Go.Proofs.YtlcopddgplbdhaaGreatDoor
