/- Contracts of the program's functions, by the evaluator. -/
import Derived.Test.YtkmeacninbnmaaaDoorU3
import Derived.Test.YtkmeacninbnmaaaDoorPlS
namespace Go.Proofs.YtkmeacninbnmaaaDoor
open Go.Ev Go.RowKit
set_option linter.unusedVariables false
set_option linter.unusedSimpArgs false
set_option maxRecDepth 100000

theorem fs_in (K a_n d_n : Nat) (c_k c_a c_b : Int) (a_c d_c : Nat → Nat → Int) (m n nn i k : Nat) (s : ByteArray) : runV Tryd.prog GLv Γ61 K ⟨[true, false, false, true, true, true, true, true, true], [], [(86, [0]), (99, [0]), (109, [0])], 1, []⟩ [.own 30 [.val (.int .i64 c_k), .val (.int .i64 c_a), .val (.int .i64 c_b), .arr a_n [.int .i64] a_c, .arr d_n [.int .i64, .int .i64, .int .i64, .int .i64] d_c]] Tryd.f20 1 m (n + 1) (st2 Tryd.f20.ntmps [.ref Tryd.f20.ntmps 0, .non, .non, iv (nn : Int), .val (.string s), iv ((i : Int)), iv ((k : Int))] [.vown 30 [.val (.int .i64 c_k), .val (.int .i64 c_a), .val (.int .i64 c_b), .arr a_n [.int .i64] a_c, .arr d_n [.int .i64, .int .i64, .int .i64, .int .i64] d_c], .non]) = cond (decide ((k : Int) < (nn : Int))) (cond ((k : Int) == 1) (cond (Nat.ble ((s).size + ((⟨([32]).toArray⟩ : ByteArray)).size) 9223372036854775807) (cond ((decide (0 ≤ (wr (wr ((i : Int) * (nn : Int)) + (k : Int)) : Int)) && decide ((wr (wr ((i : Int) * (nn : Int)) + (k : Int)) : Int) < (a_n : Int)))) (cond (inB (a_c (wr (wr ((i : Int) * (nn : Int)) + (k : Int))).toNat 0) (-1) 1) (cond (Nat.ble (((s ++ (⟨([32]).toArray⟩ : ByteArray))).size + (⟨[sg3 (a_c (wr (wr ((i : Int) * (nn : Int)) + (k : Int))).toNat 0)].toArray⟩ : ByteArray).size) 9223372036854775807) (runV Tryd.prog GLv Γ61 K ⟨[true, false, false, true, true, true, true, true, true], [], [(86, [0]), (99, [0]), (109, [0])], 1, []⟩ [.own 30 [.val (.int .i64 c_k), .val (.int .i64 c_a), .val (.int .i64 c_b), .arr a_n [.int .i64] a_c, .arr d_n [.int .i64, .int .i64, .int .i64, .int .i64] d_c]] Tryd.f20 1 m n (st2 Tryd.f20.ntmps [.ref Tryd.f20.ntmps 0, .non, .non, iv (nn : Int), .val (.string ((s ++ (⟨([32]).toArray⟩ : ByteArray)) ++ (⟨[sg3 (a_c (wr (wr ((i : Int) * (nn : Int)) + (k : Int))).toNat 0)].toArray⟩ : ByteArray))), iv ((i : Int)), iv (wr ((k : Int) + 1))] [.vown 30 [.val (.int .i64 c_k), .val (.int .i64 c_a), .val (.int .i64 c_b), .arr a_n [.int .i64] a_c, .arr d_n [.int .i64, .int .i64, .int .i64, .int .i64] d_c], .non])) none) none) none) (none)) (cond ((decide (0 ≤ (wr (wr ((i : Int) * (nn : Int)) + (k : Int)) : Int)) && decide ((wr (wr ((i : Int) * (nn : Int)) + (k : Int)) : Int) < (a_n : Int)))) (cond (inB (a_c (wr (wr ((i : Int) * (nn : Int)) + (k : Int))).toNat 0) (-1) 1) (cond (Nat.ble ((s).size + (⟨[sg3 (a_c (wr (wr ((i : Int) * (nn : Int)) + (k : Int))).toNat 0)].toArray⟩ : ByteArray).size) 9223372036854775807) (runV Tryd.prog GLv Γ61 K ⟨[true, false, false, true, true, true, true, true, true], [], [(86, [0]), (99, [0]), (109, [0])], 1, []⟩ [.own 30 [.val (.int .i64 c_k), .val (.int .i64 c_a), .val (.int .i64 c_b), .arr a_n [.int .i64] a_c, .arr d_n [.int .i64, .int .i64, .int .i64, .int .i64] d_c]] Tryd.f20 1 m n (st2 Tryd.f20.ntmps [.ref Tryd.f20.ntmps 0, .non, .non, iv (nn : Int), .val (.string (s ++ (⟨[sg3 (a_c (wr (wr ((i : Int) * (nn : Int)) + (k : Int))).toNat 0)].toArray⟩ : ByteArray))), iv ((i : Int)), iv (wr ((k : Int) + 1))] [.vown 30 [.val (.int .i64 c_k), .val (.int .i64 c_a), .val (.int .i64 c_b), .arr a_n [.int .i64] a_c, .arr d_n [.int .i64, .int .i64, .int .i64, .int .i64] d_c], .non])) none) none) none)) (runW Tryd.prog GLv Γ61 K ⟨[true, false, false, true, true, true, true, true, true], [], [(86, [0]), (99, [0]), (109, [0])], 1, []⟩ [.own 30 [.val (.int .i64 c_k), .val (.int .i64 c_a), .val (.int .i64 c_b), .arr a_n [.int .i64] a_c, .arr d_n [.int .i64, .int .i64, .int .i64, .int .i64] d_c]] Tryd.f20 0 m (st2 Tryd.f20.ntmps [.ref Tryd.f20.ntmps 0, .non, .non, iv (nn : Int), .val (.string s), iv (wr ((i : Int) + 1)), iv (k : Int)] [.vown 30 [.val (.int .i64 c_k), .val (.int .i64 c_a), .val (.int .i64 c_b), .arr a_n [.int .i64] a_c, .arr d_n [.int .i64, .int .i64, .int .i64, .int .i64] d_c], .non])) := by kernel_rfl

theorem fs_out (K a_n d_n : Nat) (c_k c_a c_b : Int) (a_c d_c : Nat → Nat → Int) (n nn i : Nat) (s : ByteArray) (z1 : Int) : runW Tryd.prog GLv Γ61 K ⟨[true, false, false, true, true, true, true, true, true], [], [(86, [0]), (99, [0]), (109, [0])], 1, []⟩ [.own 30 [.val (.int .i64 c_k), .val (.int .i64 c_a), .val (.int .i64 c_b), .arr a_n [.int .i64] a_c, .arr d_n [.int .i64, .int .i64, .int .i64, .int .i64] d_c]] Tryd.f20 0 (n + 1) (st2 Tryd.f20.ntmps [.ref Tryd.f20.ntmps 0, .non, .non, iv (nn : Int), .val (.string s), iv ((i : Int)), iv z1] [.vown 30 [.val (.int .i64 c_k), .val (.int .i64 c_a), .val (.int .i64 c_b), .arr a_n [.int .i64] a_c, .arr d_n [.int .i64, .int .i64, .int .i64, .int .i64] d_c], .non]) = cond (decide ((i : Int) < (nn : Int))) (runV Tryd.prog GLv Γ61 K ⟨[true, false, false, true, true, true, true, true, true], [], [(86, [0]), (99, [0]), (109, [0])], 1, []⟩ [.own 30 [.val (.int .i64 c_k), .val (.int .i64 c_a), .val (.int .i64 c_b), .arr a_n [.int .i64] a_c, .arr d_n [.int .i64, .int .i64, .int .i64, .int .i64] d_c]] Tryd.f20 1 n K (st2 Tryd.f20.ntmps [.ref Tryd.f20.ntmps 0, .non, .non, iv (nn : Int), .val (.string s), iv ((i : Int)), iv (wr ((i : Int) + 1))] [.vown 30 [.val (.int .i64 c_k), .val (.int .i64 c_a), .val (.int .i64 c_b), .arr a_n [.int .i64] a_c, .arr d_n [.int .i64, .int .i64, .int .i64, .int .i64] d_c], .non])) (some (.out (.val (.string s)) [.agg [.val (.int .i64 c_k), .val (.int .i64 c_a), .val (.int .i64 c_b), .arr a_n [.int .i64] a_c, .arr d_n [.int .i64, .int .i64, .int .i64, .int .i64] d_c]])) := by kernel_rfl

theorem fs_out0 (K a_n d_n : Nat) (c_k c_a c_b : Int) (a_c d_c : Nat → Nat → Int) (n nn i : Nat) (s : ByteArray)  : runW Tryd.prog GLv Γ61 K ⟨[true, false, false, true, true, true, true, true, true], [], [(86, [0]), (99, [0]), (109, [0])], 1, []⟩ [.own 30 [.val (.int .i64 c_k), .val (.int .i64 c_a), .val (.int .i64 c_b), .arr a_n [.int .i64] a_c, .arr d_n [.int .i64, .int .i64, .int .i64, .int .i64] d_c]] Tryd.f20 0 (n + 1) (st2 Tryd.f20.ntmps [.ref Tryd.f20.ntmps 0, .non, .non, iv (nn : Int), .val (.string s), iv ((i : Int))] [.vown 30 [.val (.int .i64 c_k), .val (.int .i64 c_a), .val (.int .i64 c_b), .arr a_n [.int .i64] a_c, .arr d_n [.int .i64, .int .i64, .int .i64, .int .i64] d_c], .non]) = cond (decide ((i : Int) < (nn : Int))) (runV Tryd.prog GLv Γ61 K ⟨[true, false, false, true, true, true, true, true, true], [], [(86, [0]), (99, [0]), (109, [0])], 1, []⟩ [.own 30 [.val (.int .i64 c_k), .val (.int .i64 c_a), .val (.int .i64 c_b), .arr a_n [.int .i64] a_c, .arr d_n [.int .i64, .int .i64, .int .i64, .int .i64] d_c]] Tryd.f20 1 n K (st2 Tryd.f20.ntmps [.ref Tryd.f20.ntmps 0, .non, .non, iv (nn : Int), .val (.string s), iv ((i : Int)), iv (wr ((i : Int) + 1))] [.vown 30 [.val (.int .i64 c_k), .val (.int .i64 c_a), .val (.int .i64 c_b), .arr a_n [.int .i64] a_c, .arr d_n [.int .i64, .int .i64, .int .i64, .int .i64] d_c], .non])) (some (.out (.val (.string s)) [.agg [.val (.int .i64 c_k), .val (.int .i64 c_a), .val (.int .i64 c_b), .arr a_n [.int .i64] a_c, .arr d_n [.int .i64, .int .i64, .int .i64, .int .i64] d_c]])) := by kernel_rfl

theorem fs_inn (K a_n d_n : Nat) (c_k c_a c_b : Int) (a_c d_c : Nat → Nat → Int) (m nn i : Nat) (hi : i < nn) (hnn : nn ≤ 24) (hq : nn * nn = a_n) (hv : ∀ q, q < a_n → inB (a_c q 0) (-1) 1 = true) : ∀ (r k n : Nat) (l : List UInt8), k + r = nn → r < n → l.length + 2 * r ≤ 100000 → runV Tryd.prog GLv Γ61 K ⟨[true, false, false, true, true, true, true, true, true], [], [(86, [0]), (99, [0]), (109, [0])], 1, []⟩ [.own 30 [.val (.int .i64 c_k), .val (.int .i64 c_a), .val (.int .i64 c_b), .arr a_n [.int .i64] a_c, .arr d_n [.int .i64, .int .i64, .int .i64, .int .i64] d_c]] Tryd.f20 1 m n (st2 Tryd.f20.ntmps [.ref Tryd.f20.ntmps 0, .non, .non, iv (nn : Int), .val (.string (⟨(l).toArray⟩ : ByteArray)), iv ((i : Int)), iv ((k : Int))] [.vown 30 [.val (.int .i64 c_k), .val (.int .i64 c_a), .val (.int .i64 c_b), .arr a_n [.int .i64] a_c, .arr d_n [.int .i64, .int .i64, .int .i64, .int .i64] d_c], .non]) = runW Tryd.prog GLv Γ61 K ⟨[true, false, false, true, true, true, true, true, true], [], [(86, [0]), (99, [0]), (109, [0])], 1, []⟩ [.own 30 [.val (.int .i64 c_k), .val (.int .i64 c_a), .val (.int .i64 c_b), .arr a_n [.int .i64] a_c, .arr d_n [.int .i64, .int .i64, .int .i64, .int .i64] d_c]] Tryd.f20 0 m (st2 Tryd.f20.ntmps [.ref Tryd.f20.ntmps 0, .non, .non, iv (nn : Int), .val (.string (⟨(l ++ inT nn a_c i k r).toArray⟩ : ByteArray)), iv (((i + 1 : Nat) : Int)), iv (nn : Int)] [.vown 30 [.val (.int .i64 c_k), .val (.int .i64 c_a), .val (.int .i64 c_b), .arr a_n [.int .i64] a_c, .arr d_n [.int .i64, .int .i64, .int .i64, .int .i64] d_c], .non]) := by
  intro r
  induction r with
  | zero =>
    intro k n l h1 h2 h3
    obtain ⟨n, rfl⟩ : ∃ n', n = n' + 1 := ⟨n - 1, by omega⟩
    rw [fs_in, nat_lt, show decide (k < nn) = false by simp; omega, cond_false, wr_succ (i := i) (by omega), show k = nn by omega]
    simp only [inT, List.append_nil]
  | succ r ih =>
    intro k n l h1 h2 h3
    obtain ⟨n, rfl⟩ : ∃ n', n = n' + 1 := ⟨n - 1, by omega⟩
    have l1 : i * nn + k < a_n := hq ▸ idx_lt hi (by omega)
    rw [fs_in, nat_lt, show decide (k < nn) = true by simp; omega, idx_cast (i := i) (k := k) (by omega) (by omega) (by omega), wr_succ (i := k) (by omega)]
    simp only [nat_nn, nat_lt, l1, decide_true, Bool.and_self, cond_true, Int.toNat_natCast]
    rw [hv _ l1, ba_app, ba_app, ba_app, ba_size, ba_size, ba_size, ba_size, show inT nn a_c i k (r + 1) = cond ((k : Int) == 1) [32, sg3 (a_c (i * nn + k) 0)] [sg3 (a_c (i * nn + k) 0)] ++ inT nn a_c i (k + 1) r from rfl]
    cases (k : Int) == 1 with
    | true =>
      rw [cond_true, cond_true, cond_true, nb (by simp only [List.length_cons, List.length_nil]; omega), cond_true, nb (by simp only [List.length_append, List.length_cons, List.length_nil]; omega), cond_true]
      rw [ih (k + 1) n _ (by omega) (by omega) (by simp only [List.length_append, List.length_cons, List.length_nil]; omega)]
      simp only [List.append_assoc, List.singleton_append, List.cons_append, List.nil_append]
    | false =>
      rw [cond_false, cond_false, cond_true, nb (by simp only [List.length_cons, List.length_nil]; omega), cond_true]
      rw [ih (k + 1) n _ (by omega) (by omega) (by simp only [List.length_append, List.length_cons, List.length_nil]; omega)]
      simp only [List.append_assoc]

theorem fs_run (K a_n d_n : Nat) (c_k c_a c_b : Int) (a_c d_c : Nat → Nat → Int) (nn : Nat) (hnn : nn ≤ 24) (hq : 0 < nn → nn * nn = a_n) (hK : 30 ≤ K) (hv : ∀ q, q < a_n → inB (a_c q 0) (-1) 1 = true) : ∀ (r i n : Nat) (l : List UInt8) (z1 : Int), i + r = nn → r < n → l.length + r * 48 ≤ 50000 → runW Tryd.prog GLv Γ61 K ⟨[true, false, false, true, true, true, true, true, true], [], [(86, [0]), (99, [0]), (109, [0])], 1, []⟩ [.own 30 [.val (.int .i64 c_k), .val (.int .i64 c_a), .val (.int .i64 c_b), .arr a_n [.int .i64] a_c, .arr d_n [.int .i64, .int .i64, .int .i64, .int .i64] d_c]] Tryd.f20 0 n (st2 Tryd.f20.ntmps [.ref Tryd.f20.ntmps 0, .non, .non, iv (nn : Int), .val (.string (⟨(l).toArray⟩ : ByteArray)), iv ((i : Int)), iv z1] [.vown 30 [.val (.int .i64 c_k), .val (.int .i64 c_a), .val (.int .i64 c_b), .arr a_n [.int .i64] a_c, .arr d_n [.int .i64, .int .i64, .int .i64, .int .i64] d_c], .non]) = some (.out (.val (.string (⟨(l ++ outT nn a_c i r).toArray⟩ : ByteArray))) [.agg [.val (.int .i64 c_k), .val (.int .i64 c_a), .val (.int .i64 c_b), .arr a_n [.int .i64] a_c, .arr d_n [.int .i64, .int .i64, .int .i64, .int .i64] d_c]]) := by
  intro r
  induction r with
  | zero =>
    intro i n l z1 h1 h2 h3
    obtain ⟨n, rfl⟩ : ∃ n', n = n' + 1 := ⟨n - 1, by omega⟩
    rw [fs_out, nat_lt, show decide (i < nn) = false by simp; omega, cond_false]
    simp only [outT, List.append_nil]
  | succ r ih =>
    intro i n l z1 h1 h2 h3
    obtain ⟨n, rfl⟩ : ∃ n', n = n' + 1 := ⟨n - 1, by omega⟩
    have hl := inT_len nn a_c i (nn - (i + 1)) (i + 1)
    rw [fs_out, nat_lt, show decide (i < nn) = true by simp; omega, cond_true, wr_succ (i := i) (by omega), fs_inn K a_n d_n c_k c_a c_b a_c d_c n nn i (by omega) hnn (hq (by omega)) hv (nn - (i + 1)) (i + 1) K l (by omega) (by omega) (by omega), ih (i + 1) n _ _ (by omega) (by omega) (by rw [List.length_append]; omega)]
    simp only [outT, List.append_assoc]
theorem fs_flat (K a_n d_n : Nat) (c_k c_a c_b : Int) (a_c d_c : Nat → Nat → Int) (nn : Nat) (hnn : nn ≤ 24) (hq : 0 < nn → nn * nn = a_n) (hK : 30 ≤ K) (hv : ∀ q, q < a_n → inB (a_c q 0) (-1) 1 = true) (l : List UInt8) (hl : l.length ≤ 100) : runW Tryd.prog GLv Γ61 K ⟨[true, false, false, true, true, true, true, true, true], [], [(86, [0]), (99, [0]), (109, [0])], 1, []⟩ [.own 30 [.val (.int .i64 c_k), .val (.int .i64 c_a), .val (.int .i64 c_b), .arr a_n [.int .i64] a_c, .arr d_n [.int .i64, .int .i64, .int .i64, .int .i64] d_c]] Tryd.f20 0 K (st2 Tryd.f20.ntmps [.ref Tryd.f20.ntmps 0, .non, .non, iv (nn : Int), .val (.string (⟨(l).toArray⟩ : ByteArray)), iv (((0 : Nat) : Int))] [.vown 30 [.val (.int .i64 c_k), .val (.int .i64 c_a), .val (.int .i64 c_b), .arr a_n [.int .i64] a_c, .arr d_n [.int .i64, .int .i64, .int .i64, .int .i64] d_c], .non]) = some (.out (.val (.string (⟨(l ++ outT nn a_c 0 nn).toArray⟩ : ByteArray))) [.agg [.val (.int .i64 c_k), .val (.int .i64 c_a), .val (.int .i64 c_b), .arr a_n [.int .i64] a_c, .arr d_n [.int .i64, .int .i64, .int .i64, .int .i64] d_c]]) := by
  obtain ⟨n, rfl⟩ : ∃ n', K = n' + 1 := ⟨K - 1, by omega⟩
  rw [fs_out0 (n + 1), nat_lt]
  by_cases h : 0 < nn
  · have hl2 := inT_len nn a_c 0 (nn - 1) 1
    rw [decide_eq_true h, cond_true, wr_succ (i := 0) (by omega), fs_inn (n + 1) a_n d_n c_k c_a c_b a_c d_c n nn 0 h hnn (hq h) hv (nn - 1) 1 (n + 1) l (by omega) (by omega) (by omega), fs_run (n + 1) a_n d_n c_k c_a c_b a_c d_c nn hnn hq hK hv (nn - 1) 1 n _ _ (by omega) (by omega) (by rw [List.length_append]; omega)]
    obtain ⟨m, rfl⟩ : ∃ m, nn = m + 1 := ⟨nn - 1, by omega⟩
    simp only [outT, List.append_assoc, Nat.add_sub_cancel]
  · rw [decide_eq_false h, cond_false]
    obtain rfl : nn = 0 := by omega
    simp only [outT, List.append_nil]

theorem cs_step (K a_n d_n : Nat) (c_k c_a c_b : Int) (a_c d_c : Nat → Nat → Int) (n m i : Nat) (e : Nat → Nat → Int) : runW Tryd.prog GLv Γ61 K ⟨[true, false, false, true, true, true, true, true, true], [], [(86, [0]), (99, [0]), (109, [0])], 1, []⟩ [.own 30 [.val (.int .i64 c_k), .val (.int .i64 c_a), .val (.int .i64 c_b), .arr a_n [.int .i64] a_c, .arr d_n [.int .i64, .int .i64, .int .i64, .int .i64] d_c]] Tryd.f20 2 (n + 1) (st2 Tryd.f20.ntmps [.ref Tryd.f20.ntmps 0, .non, .non, .non, .non, .non, .non, .sl (Tryd.f20.ntmps + 1) (m), iv ((i : Int))] [.vown 30 [.val (.int .i64 c_k), .val (.int .i64 c_a), .val (.int .i64 c_b), .arr a_n [.int .i64] a_c, .arr d_n [.int .i64, .int .i64, .int .i64, .int .i64] d_c], .row true 5 (m) [.int .u8] (e)]) = cond (decide ((i : Int) < (d_n : Int))) (cond (Nat.ble ((m + 1) * 1) 140737488355328) (cond ((decide (0 ≤ ((i : Int) : Int)) && decide (((i : Int) : Int) < (d_n : Int)))) (cond (nodeAt d_c i) (cond (Nat.ble ((m + 1 + (⟨(wdAt d_c i).toArray⟩ : ByteArray).size) * 1) 140737488355328) (runW Tryd.prog GLv Γ61 K ⟨[true, false, false, true, true, true, true, true, true], [], [(86, [0]), (99, [0]), (109, [0])], 1, []⟩ [.own 30 [.val (.int .i64 c_k), .val (.int .i64 c_a), .val (.int .i64 c_b), .arr a_n [.int .i64] a_c, .arr d_n [.int .i64, .int .i64, .int .i64, .int .i64] d_c]] Tryd.f20 2 n (st2 Tryd.f20.ntmps [.ref Tryd.f20.ntmps 0, .non, .non, .non, .non, .non, .non, .sl (Tryd.f20.ntmps + 1) (m + 1 + (⟨(wdAt d_c i).toArray⟩ : ByteArray).size), iv (wr ((i : Int) + 1))] [.vown 30 [.val (.int .i64 c_k), .val (.int .i64 c_a), .val (.int .i64 c_b), .arr a_n [.int .i64] a_c, .arr d_n [.int .i64, .int .i64, .int .i64, .int .i64] d_c], .row true 5 (m + 1 + (⟨(wdAt d_c i).toArray⟩ : ByteArray).size) [.int .u8] (catC (m + 1) (catC m e (listC [[32]])) fun q _ => byteA (⟨(wdAt d_c i).toArray⟩ : ByteArray) q)])) none) none) none) none) (some (.out (.val (.string (u8C m e))) [.agg [.val (.int .i64 c_k), .val (.int .i64 c_a), .val (.int .i64 c_b), .arr a_n [.int .i64] a_c, .arr d_n [.int .i64, .int .i64, .int .i64, .int .i64] d_c]])) := by kernel_rfl

theorem cs_run (K a_n d_n : Nat) (c_k c_a c_b : Int) (a_c d_c : Nat → Nat → Int) (hd : d_n ≤ 500) : ∀ (r i n m : Nat) (e : Nat → Nat → Int) (l : List UInt8), i + r = d_n → r < n → m + 51 * r ≤ 100000 → bytC m e = l → allF (nodeAt d_c) i r = true → runW Tryd.prog GLv Γ61 K ⟨[true, false, false, true, true, true, true, true, true], [], [(86, [0]), (99, [0]), (109, [0])], 1, []⟩ [.own 30 [.val (.int .i64 c_k), .val (.int .i64 c_a), .val (.int .i64 c_b), .arr a_n [.int .i64] a_c, .arr d_n [.int .i64, .int .i64, .int .i64, .int .i64] d_c]] Tryd.f20 2 n (st2 Tryd.f20.ntmps [.ref Tryd.f20.ntmps 0, .non, .non, .non, .non, .non, .non, .sl (Tryd.f20.ntmps + 1) (m), iv ((i : Int))] [.vown 30 [.val (.int .i64 c_k), .val (.int .i64 c_a), .val (.int .i64 c_b), .arr a_n [.int .i64] a_c, .arr d_n [.int .i64, .int .i64, .int .i64, .int .i64] d_c], .row true 5 (m) [.int .u8] (e)]) = some (.out (.val (.string (⟨(l ++ layL d_c i r).toArray⟩ : ByteArray))) [.agg [.val (.int .i64 c_k), .val (.int .i64 c_a), .val (.int .i64 c_b), .arr a_n [.int .i64] a_c, .arr d_n [.int .i64, .int .i64, .int .i64, .int .i64] d_c]]) := by
  intro r
  induction r with
  | zero =>
    intro i n m e l h1 h2 h3 h4 h5
    obtain ⟨n, rfl⟩ : ∃ n', n = n' + 1 := ⟨n - 1, by omega⟩
    rw [cs_step, nat_lt, show decide (i < d_n) = false by simp; omega, cond_false, u8C_byt, h4]
    simp only [layL, List.append_nil]
  | succ r ih =>
    intro i n m e l h1 h2 h3 h4 h5
    obtain ⟨n, rfl⟩ : ∃ n', n = n' + 1 := ⟨n - 1, by omega⟩
    unfold allF at h5
    rw [Bool.and_eq_true] at h5
    have hw := wd_len h5.1
    have hz : ((⟨(wdAt d_c i).toArray⟩ : ByteArray)).size = (wdAt d_c i).length := ba_size _
    rw [cs_step, nat_nn, nat_lt, show decide (i < d_n) = true by simp; omega, h5.1, nc (by omega), nc (by rw [hz]; omega), wr_succ (i := i) (by omega)]
    simp only [Bool.and_self, cond_true]
    rw [ih (i + 1) n _ _ (l ++ ([32] ++ wdAt d_c i)) (by omega) (by omega) (by rw [hz]; omega) (by rw [byt_cat, byt_cat, h4, byt_byte, List.append_assoc]; rfl) h5.2]
    simp only [layL, List.append_assoc, List.singleton_append, List.cons_append, List.nil_append]

theorem k20_21 (c_a c_b : Int) (a_n d_n : Nat) (a_c d_c : Nat → Nat → Int) (h1 : 0 ≤ c_a) (h2 : c_a ≤ 39) : evW Tryd.prog GLv Γ61 (d_n + 32) (⟨[true, false, false, true, true, true, true, true, true], [], [(86, [0]), (99, [0]), (109, [0])], 1, []⟩) Tryd.f20 [.own 30 [.val (.int .i64 2), .val (.int .i64 c_a), .val (.int .i64 1), .arr a_n [.int .i64] a_c, .arr d_n [.int .i64, .int .i64, .int .i64, .int .i64] d_c]] = some (.out (.val (.string (⟨(certL 2 c_a 1 (sqN a_n) a_c d_n d_c).toArray⟩ : ByteArray))) [.agg [.val (.int .i64 2), .val (.int .i64 c_a), .val (.int .i64 1), .arr a_n [.int .i64] a_c, .arr d_n [.int .i64, .int .i64, .int .i64, .int .i64] d_c]]) := by
  have la := itoa_len (v := c_a) (by omega)
  refine (show _ = cond (decide (0 ≤ c_a) && Nat.blt (c_a).toNat (10 ^ (17 + 1))) (cond (Nat.ble (((⟨([112, 111, 105, 110, 116, 32]).toArray⟩ : ByteArray)).size + ((⟨(Go.Lib.itoa (c_a)).toArray⟩ : ByteArray)).size) 9223372036854775807) (cond (Nat.ble ((((⟨([112, 111, 105, 110, 116, 32]).toArray⟩ : ByteArray) ++ (⟨(Go.Lib.itoa (c_a)).toArray⟩ : ByteArray))).size + ((⟨([32]).toArray⟩ : ByteArray)).size) 9223372036854775807) (cond (Nat.ble (((((⟨([112, 111, 105, 110, 116, 32]).toArray⟩ : ByteArray) ++ (⟨(Go.Lib.itoa (c_a)).toArray⟩ : ByteArray)) ++ (⟨([32]).toArray⟩ : ByteArray))).size + ((⟨([107, 97, 119, 97, 115, 97, 107, 105]).toArray⟩ : ByteArray)).size) 9223372036854775807) (some (.out (.val (.string (((((⟨([112, 111, 105, 110, 116, 32]).toArray⟩ : ByteArray) ++ (⟨(Go.Lib.itoa (c_a)).toArray⟩ : ByteArray)) ++ (⟨([32]).toArray⟩ : ByteArray)) ++ (⟨([107, 97, 119, 97, 115, 97, 107, 105]).toArray⟩ : ByteArray))))) [.agg [.val (.int .i64 2), .val (.int .i64 c_a), .val (.int .i64 1), .arr a_n [.int .i64] a_c, .arr d_n [.int .i64, .int .i64, .int .i64, .int .i64] d_c]])) (none)) (none)) (none)) (none) from by kernel_rfl).trans ?_
  simp only [ba_app, ba_size, List.length_append, List.length_cons, List.length_nil]
  refine (cond_yes (dc_ok (by omega) (by omega))).trans ?_
  refine (cond_yes (nb (by omega))).trans ?_
  refine (cond_yes (nb (by omega))).trans ?_
  exact (cond_yes (nb (by omega)))

theorem k20_22 (c_a c_b : Int) (a_n d_n : Nat) (a_c d_c : Nat → Nat → Int) (h1 : 0 ≤ c_a) (h2 : c_a ≤ 39) : evW Tryd.prog GLv Γ61 (d_n + 32) (⟨[true, false, false, true, true, true, true, true, true], [], [(86, [0]), (99, [0]), (109, [0])], 1, []⟩) Tryd.f20 [.own 30 [.val (.int .i64 2), .val (.int .i64 c_a), .val (.int .i64 2), .arr a_n [.int .i64] a_c, .arr d_n [.int .i64, .int .i64, .int .i64, .int .i64] d_c]] = some (.out (.val (.string (⟨(certL 2 c_a 2 (sqN a_n) a_c d_n d_c).toArray⟩ : ByteArray))) [.agg [.val (.int .i64 2), .val (.int .i64 c_a), .val (.int .i64 2), .arr a_n [.int .i64] a_c, .arr d_n [.int .i64, .int .i64, .int .i64, .int .i64] d_c]]) := by
  have la := itoa_len (v := c_a) (by omega)
  refine (show _ = cond (decide (0 ≤ c_a) && Nat.blt (c_a).toNat (10 ^ (17 + 1))) (cond (Nat.ble (((⟨([112, 111, 105, 110, 116, 32]).toArray⟩ : ByteArray)).size + ((⟨(Go.Lib.itoa (c_a)).toArray⟩ : ByteArray)).size) 9223372036854775807) (cond (Nat.ble ((((⟨([112, 111, 105, 110, 116, 32]).toArray⟩ : ByteArray) ++ (⟨(Go.Lib.itoa (c_a)).toArray⟩ : ByteArray))).size + ((⟨([32]).toArray⟩ : ByteArray)).size) 9223372036854775807) (cond (Nat.ble (((((⟨([112, 111, 105, 110, 116, 32]).toArray⟩ : ByteArray) ++ (⟨(Go.Lib.itoa (c_a)).toArray⟩ : ByteArray)) ++ (⟨([32]).toArray⟩ : ByteArray))).size + ((⟨([109, 97, 101, 107, 97, 119, 97]).toArray⟩ : ByteArray)).size) 9223372036854775807) (some (.out (.val (.string (((((⟨([112, 111, 105, 110, 116, 32]).toArray⟩ : ByteArray) ++ (⟨(Go.Lib.itoa (c_a)).toArray⟩ : ByteArray)) ++ (⟨([32]).toArray⟩ : ByteArray)) ++ (⟨([109, 97, 101, 107, 97, 119, 97]).toArray⟩ : ByteArray))))) [.agg [.val (.int .i64 2), .val (.int .i64 c_a), .val (.int .i64 2), .arr a_n [.int .i64] a_c, .arr d_n [.int .i64, .int .i64, .int .i64, .int .i64] d_c]])) (none)) (none)) (none)) (none) from by kernel_rfl).trans ?_
  simp only [ba_app, ba_size, List.length_append, List.length_cons, List.length_nil]
  refine (cond_yes (dc_ok (by omega) (by omega))).trans ?_
  refine (cond_yes (nb (by omega))).trans ?_
  refine (cond_yes (nb (by omega))).trans ?_
  exact (cond_yes (nb (by omega)))

theorem k20_23 (c_a c_b : Int) (a_n d_n : Nat) (a_c d_c : Nat → Nat → Int) (h1 : 0 ≤ c_a) (h2 : c_a ≤ 39) : evW Tryd.prog GLv Γ61 (d_n + 32) (⟨[true, false, false, true, true, true, true, true, true], [], [(86, [0]), (99, [0]), (109, [0])], 1, []⟩) Tryd.f20 [.own 30 [.val (.int .i64 2), .val (.int .i64 c_a), .val (.int .i64 3), .arr a_n [.int .i64] a_c, .arr d_n [.int .i64, .int .i64, .int .i64, .int .i64] d_c]] = some (.out (.val (.string (⟨(certL 2 c_a 3 (sqN a_n) a_c d_n d_c).toArray⟩ : ByteArray))) [.agg [.val (.int .i64 2), .val (.int .i64 c_a), .val (.int .i64 3), .arr a_n [.int .i64] a_c, .arr d_n [.int .i64, .int .i64, .int .i64, .int .i64] d_c]]) := by
  have la := itoa_len (v := c_a) (by omega)
  refine (show _ = cond (decide (0 ≤ c_a) && Nat.blt (c_a).toNat (10 ^ (17 + 1))) (cond (Nat.ble (((⟨([112, 111, 105, 110, 116, 32]).toArray⟩ : ByteArray)).size + ((⟨(Go.Lib.itoa (c_a)).toArray⟩ : ByteArray)).size) 9223372036854775807) (cond (Nat.ble ((((⟨([112, 111, 105, 110, 116, 32]).toArray⟩ : ByteArray) ++ (⟨(Go.Lib.itoa (c_a)).toArray⟩ : ByteArray))).size + ((⟨([32]).toArray⟩ : ByteArray)).size) 9223372036854775807) (cond (Nat.ble (((((⟨([112, 111, 105, 110, 116, 32]).toArray⟩ : ByteArray) ++ (⟨(Go.Lib.itoa (c_a)).toArray⟩ : ByteArray)) ++ (⟨([32]).toArray⟩ : ByteArray))).size + ((⟨([108, 105, 116, 116, 108, 101]).toArray⟩ : ByteArray)).size) 9223372036854775807) (some (.out (.val (.string (((((⟨([112, 111, 105, 110, 116, 32]).toArray⟩ : ByteArray) ++ (⟨(Go.Lib.itoa (c_a)).toArray⟩ : ByteArray)) ++ (⟨([32]).toArray⟩ : ByteArray)) ++ (⟨([108, 105, 116, 116, 108, 101]).toArray⟩ : ByteArray))))) [.agg [.val (.int .i64 2), .val (.int .i64 c_a), .val (.int .i64 3), .arr a_n [.int .i64] a_c, .arr d_n [.int .i64, .int .i64, .int .i64, .int .i64] d_c]])) (none)) (none)) (none)) (none) from by kernel_rfl).trans ?_
  simp only [ba_app, ba_size, List.length_append, List.length_cons, List.length_nil]
  refine (cond_yes (dc_ok (by omega) (by omega))).trans ?_
  refine (cond_yes (nb (by omega))).trans ?_
  refine (cond_yes (nb (by omega))).trans ?_
  exact (cond_yes (nb (by omega)))

theorem k20_3 (c_a c_b : Int) (a_n d_n : Nat) (a_c d_c : Nat → Nat → Int) (h1 : 0 ≤ c_a) (h2 : c_a ≤ 69) (h3 : 0 ≤ c_b) (h4 : c_b ≤ 69) : evW Tryd.prog GLv Γ61 (d_n + 32) (⟨[true, false, false, true, true, true, true, true, true], [], [(86, [0]), (99, [0]), (109, [0])], 1, []⟩) Tryd.f20 [.own 30 [.val (.int .i64 3), .val (.int .i64 c_a), .val (.int .i64 c_b), .arr a_n [.int .i64] a_c, .arr d_n [.int .i64, .int .i64, .int .i64, .int .i64] d_c]] = some (.out (.val (.string (⟨(certL 3 c_a c_b (sqN a_n) a_c d_n d_c).toArray⟩ : ByteArray))) [.agg [.val (.int .i64 3), .val (.int .i64 c_a), .val (.int .i64 c_b), .arr a_n [.int .i64] a_c, .arr d_n [.int .i64, .int .i64, .int .i64, .int .i64] d_c]]) := by
  have la := itoa_len (v := c_a) (by omega)
  have lb := itoa_len (v := c_b) (by omega)
  refine (show _ = cond (decide (0 ≤ c_a) && Nat.blt (c_a).toNat (10 ^ (17 + 1))) (cond (Nat.ble (((⟨([106, 111, 105, 110, 116, 32]).toArray⟩ : ByteArray)).size + ((⟨(Go.Lib.itoa (c_a)).toArray⟩ : ByteArray)).size) 9223372036854775807) (cond (Nat.ble ((((⟨([106, 111, 105, 110, 116, 32]).toArray⟩ : ByteArray) ++ (⟨(Go.Lib.itoa (c_a)).toArray⟩ : ByteArray))).size + ((⟨([32]).toArray⟩ : ByteArray)).size) 9223372036854775807) (cond (decide (0 ≤ c_b) && Nat.blt (c_b).toNat (10 ^ (17 + 1))) (cond (Nat.ble (((((⟨([106, 111, 105, 110, 116, 32]).toArray⟩ : ByteArray) ++ (⟨(Go.Lib.itoa (c_a)).toArray⟩ : ByteArray)) ++ (⟨([32]).toArray⟩ : ByteArray))).size + ((⟨(Go.Lib.itoa (c_b)).toArray⟩ : ByteArray)).size) 9223372036854775807) (some (.out (.val (.string (((((⟨([106, 111, 105, 110, 116, 32]).toArray⟩ : ByteArray) ++ (⟨(Go.Lib.itoa (c_a)).toArray⟩ : ByteArray)) ++ (⟨([32]).toArray⟩ : ByteArray)) ++ (⟨(Go.Lib.itoa (c_b)).toArray⟩ : ByteArray))))) [.agg [.val (.int .i64 3), .val (.int .i64 c_a), .val (.int .i64 c_b), .arr a_n [.int .i64] a_c, .arr d_n [.int .i64, .int .i64, .int .i64, .int .i64] d_c]])) (none)) (none)) (none)) (none)) (none) from by kernel_rfl).trans ?_
  simp only [ba_app, ba_size, List.length_append, List.length_cons, List.length_nil]
  refine (cond_yes (dc_ok (by omega) (by omega))).trans ?_
  refine (cond_yes (nb (by omega))).trans ?_
  refine (cond_yes (nb (by omega))).trans ?_
  refine (cond_yes (dc_ok (by omega) (by omega))).trans ?_
  exact (cond_yes (nb (by omega)))

theorem k20_1 (c_a c_b : Int) (a_n d_n : Nat) (a_c d_c : Nat → Nat → Int) (h : ordVI a_n a_c = true) : evW Tryd.prog GLv Γ61 (d_n + 32) (⟨[true, false, false, true, true, true, true, true, true], [], [(86, [0]), (99, [0]), (109, [0])], 1, []⟩) Tryd.f20 [.own 30 [.val (.int .i64 1), .val (.int .i64 c_a), .val (.int .i64 c_b), .arr a_n [.int .i64] a_c, .arr d_n [.int .i64, .int .i64, .int .i64, .int .i64] d_c]] = some (.out (.val (.string (⟨(certL 1 c_a c_b (sqN a_n) a_c d_n d_c).toArray⟩ : ByteArray))) [.agg [.val (.int .i64 1), .val (.int .i64 c_a), .val (.int .i64 c_b), .arr a_n [.int .i64] a_c, .arr d_n [.int .i64, .int .i64, .int .i64, .int .i64] d_c]]) := by
  obtain ⟨p1, p2, p3⟩ := ord_cells h
  refine (show _ = cond (decide (0 ≤ (sqF 24 1 (a_n : Int))) && Nat.blt ((sqF 24 1 (a_n : Int))).toNat (10 ^ (17 + 1))) (cond (Nat.ble (((⟨([102, 108, 97, 116, 32]).toArray⟩ : ByteArray)).size + ((⟨(Go.Lib.itoa ((sqF 24 1 (a_n : Int)))).toArray⟩ : ByteArray)).size) 9223372036854775807) (runW Tryd.prog GLv Γ61 (d_n + 32) ⟨[true, false, false, true, true, true, true, true, true], [], [(86, [0]), (99, [0]), (109, [0])], 1, []⟩ [.own 30 [.val (.int .i64 1), .val (.int .i64 c_a), .val (.int .i64 c_b), .arr a_n [.int .i64] a_c, .arr d_n [.int .i64, .int .i64, .int .i64, .int .i64] d_c]] Tryd.f20 0 (d_n + 32) (st2 Tryd.f20.ntmps [.ref Tryd.f20.ntmps 0, .non, .non, iv (sqF 24 1 (a_n : Int)), .val (.string ((⟨([102, 108, 97, 116, 32]).toArray⟩ : ByteArray) ++ (⟨(Go.Lib.itoa ((sqF 24 1 (a_n : Int)))).toArray⟩ : ByteArray))), iv (((0 : Nat) : Int))] [.vown 30 [.val (.int .i64 1), .val (.int .i64 c_a), .val (.int .i64 c_b), .arr a_n [.int .i64] a_c, .arr d_n [.int .i64, .int .i64, .int .i64, .int .i64] d_c], .non])) (none)) (none) from by kernel_rfl).trans ?_
  rw [sqN_cast, ba_app]
  have hs := sqN_le a_n
  have la := itoa_len (v := (sqN a_n : Int)) (by omega)
  refine (cond_yes (dc_ok (by omega) (by omega))).trans ?_
  refine (cond_yes (nb (by rw [ba_size, ba_size, List.length_cons, List.length_cons, List.length_cons, List.length_cons, List.length_cons, List.length_nil]; omega))).trans ?_
  exact fs_flat (d_n + 32) a_n d_n 1 c_a c_b a_c d_c (sqN a_n) hs (fun _ => p2) (by omega) p3 _ (by rw [List.length_append, List.length_cons, List.length_cons, List.length_cons, List.length_cons, List.length_cons, List.length_nil]; omega)
theorem k20_4 (c_a c_b : Int) (a_n d_n : Nat) (a_c d_c : Nat → Nat → Int) (hm : d_n ≤ 500) (h : allF (nodeAt d_c) 0 d_n = true) : evW Tryd.prog GLv Γ61 (d_n + 32) (⟨[true, false, false, true, true, true, true, true, true], [], [(86, [0]), (99, [0]), (109, [0])], 1, []⟩) Tryd.f20 [.own 30 [.val (.int .i64 4), .val (.int .i64 c_a), .val (.int .i64 c_b), .arr a_n [.int .i64] a_c, .arr d_n [.int .i64, .int .i64, .int .i64, .int .i64] d_c]] = some (.out (.val (.string (⟨(certL 4 c_a c_b (sqN a_n) a_c d_n d_c).toArray⟩ : ByteArray))) [.agg [.val (.int .i64 4), .val (.int .i64 c_a), .val (.int .i64 c_b), .arr a_n [.int .i64] a_c, .arr d_n [.int .i64, .int .i64, .int .i64, .int .i64] d_c]]) := by
  have hl := lays_len hm h
  refine (show _ = runW Tryd.prog GLv Γ61 (d_n + 32) ⟨[true, false, false, true, true, true, true, true, true], [], [(86, [0]), (99, [0]), (109, [0])], 1, []⟩ [.own 30 [.val (.int .i64 4), .val (.int .i64 c_a), .val (.int .i64 c_b), .arr a_n [.int .i64] a_c, .arr d_n [.int .i64, .int .i64, .int .i64, .int .i64] d_c]] Tryd.f20 2 (d_n + 32) (st2 Tryd.f20.ntmps [.ref Tryd.f20.ntmps 0, .non, .non, .non, .non, .non, .non, .sl (Tryd.f20.ntmps + 1) (6), iv (((0 : Nat) : Int))] [.vown 30 [.val (.int .i64 4), .val (.int .i64 c_a), .val (.int .i64 c_b), .arr a_n [.int .i64] a_c, .arr d_n [.int .i64, .int .i64, .int .i64, .int .i64] d_c], .row true 5 (6) [.int .u8] (listC [[108], [97], [121], [101], [114], [115]])]) from by kernel_rfl).trans ?_
  exact cs_run (d_n + 32) a_n d_n 4 c_a c_b a_c d_c hm d_n 0 (d_n + 32) 6 _ [108, 97, 121, 101, 114, 115] (by omega) (by omega) (by omega) rfl h

-- spec.l19Text
def s20 : Ctr := fun
  | [.own 30 [.val (.int .i64 c_k), .val (.int .i64 c_a), .val (.int .i64 c_b), .arr a_n [.int .i64] a_c, .arr d_n [.int .i64, .int .i64, .int .i64, .int .i64] d_c]] => some (certB (ordVI a_n a_c) c_k c_a c_b a_n d_n d_c, .out (.val (.string (⟨(certL c_k c_a c_b (sqN a_n) a_c d_n d_c).toArray⟩ : ByteArray))) [.agg [.val (.int .i64 c_k), .val (.int .i64 c_a), .val (.int .i64 c_b), .arr a_n [.int .i64] a_c, .arr d_n [.int .i64, .int .i64, .int .i64, .int .i64] d_c]])
  | _ => none

theorem e20 (c_k : Int) (c_a : Int) (c_b : Int) (a_n : Nat) (a_c : Nat → Nat → Int) (d_n : Nat) (d_c : Nat → Nat → Int) (hp : (certB (ordVI a_n a_c) c_k c_a c_b a_n d_n d_c) = true) : evW Tryd.prog GLv Γ61 (d_n + 32) (⟨[true, false, false, true, true, true, true, true, true], [], [(86, [0]), (99, [0]), (109, [0])], 1, []⟩)  Tryd.f20 [.own 30 [.val (.int .i64 c_k), .val (.int .i64 c_a), .val (.int .i64 c_b), .arr a_n [.int .i64] a_c, .arr d_n [.int .i64, .int .i64, .int .i64, .int .i64] d_c]] = some (.out (.val (.string (⟨(certL c_k c_a c_b (sqN a_n) a_c d_n d_c).toArray⟩ : ByteArray))) [.agg [.val (.int .i64 c_k), .val (.int .i64 c_a), .val (.int .i64 c_b), .arr a_n [.int .i64] a_c, .arr d_n [.int .i64, .int .i64, .int .i64, .int .i64] d_c]]) := by
  rcases cert_kinds hp with ⟨h, ho⟩ | ⟨h, h1, h2, h3⟩ | ⟨h, h1, h2, h3, h4⟩ | ⟨h, h1, h2⟩
  · clear hp
    subst h
    exact k20_1 c_a c_b a_n d_n a_c d_c ho
  · clear hp
    subst h
    rcases h3 with h3 | h3 | h3
    · subst h3
      exact k20_21 c_a 0 a_n d_n a_c d_c h1 h2
    · subst h3
      exact k20_22 c_a 0 a_n d_n a_c d_c h1 h2
    · subst h3
      exact k20_23 c_a 0 a_n d_n a_c d_c h1 h2
  · clear hp
    subst h
    exact k20_3 c_a c_b a_n d_n a_c d_c h1 h2 h3 h4
  · clear hp
    subst h
    exact k20_4 c_a c_b a_n d_n a_c d_c h1 h2
theorem m20 : Meets Tryd.prog GLv 20 s20 := by
  refine meetsW mix0 G61 Tryd.func20 (by kernel_rfl) (by kernel_rfl) s20 fun args x h => ?_
  unfold s20 at h
  split at h
  · rename_i c_k c_a c_b a_n a_c d_n d_c
    simp only [Option.some.injEq, Prod.mk.injEq] at h
    obtain ⟨hp, rfl⟩ := h
    exact ⟨_, _, by kernel_rfl, e20 c_k c_a c_b a_n a_c d_n d_c hp⟩
  · cases h
abbrev Γ62 : List (Nat × Ctr) := (20, s20) :: Γ61
theorem G62 : Sound Tryd.prog GLv Γ62 := G61.cons m20

end Go.Proofs.YtkmeacninbnmaaaDoor
