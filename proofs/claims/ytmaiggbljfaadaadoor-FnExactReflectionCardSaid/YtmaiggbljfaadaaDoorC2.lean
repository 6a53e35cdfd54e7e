/- Contracts of the program's functions, by the evaluator. -/
import Derived.Test.YtmaiggbljfaadaaDoorC1
import Derived.Test.YtmaiggbljfaadaaDoorNumH
namespace Go.Proofs.YtmaiggbljfaadaaDoor
open Go.Ev
set_option linter.unusedVariables false
set_option linter.unusedSimpArgs false
set_option maxRecDepth 100000

-- spec.l04Turned
def s22 : Ctr := fun
  | [.val (.int .i64 t), .val (.bool f), .agg [.val (.int .i64 p_xa), .val (.int .i64 p_xb), .val (.int .i64 p_xk), .val (.int .i64 p_ya), .val (.int .i64 p_yb), .val (.int .i64 p_yk)]] => some (inB t 0 7 && okP (⟨(⟨p_xa, p_xb, p_xk⟩ : N3), (⟨p_ya, p_yb, p_yk⟩ : N3)⟩ : P2), (turnF t (flipP f (⟨(⟨p_xa, p_xb, p_xk⟩ : N3), (⟨p_ya, p_yb, p_yk⟩ : N3)⟩ : P2))).av)
  | _ => none

theorem e22 (t : Int) (f : Bool) (p_xa : Int) (p_xb : Int) (p_xk : Int) (p_ya : Int) (p_yb : Int) (p_yk : Int) (hp : (inB t 0 7 && okP (⟨(⟨p_xa, p_xb, p_xk⟩ : N3), (⟨p_ya, p_yb, p_yk⟩ : N3)⟩ : P2)) = true) : evN Tryd.prog GLv Γ38 (5) [true, true, false, false, false, true, true, true] Tryd.f22 [.val (.int .i64 t), .val (.bool f), .agg [.val (.int .i64 p_xa), .val (.int .i64 p_xb), .val (.int .i64 p_xk), .val (.int .i64 p_ya), .val (.int .i64 p_yb), .val (.int .i64 p_yk)]] = some ((turnF t (flipP f (⟨(⟨p_xa, p_xb, p_xk⟩ : N3), (⟨p_ya, p_yb, p_yk⟩ : N3)⟩ : P2))).av) := by
  cases f with
  | true =>
    simp only [Bool.and_eq_true, inB_iff] at hp
    obtain ⟨⟨h0, h7⟩, hq⟩ := hp
    have ho := okP_iff.1 hq
    obtain ⟨a1, a2, a3, _⟩ := turn_pre ho.1 ho.2
    simp only at a1 a2 a3
    have ht : t = 0 ∨ t = 1 ∨ t = 2 ∨ t = 3 ∨ t = 4 ∨ t = 5 ∨ t = 6 ∨ t = 7 := by omega
    clear h0 h7
    rcases ht with rfl | rfl | rfl | rfl | rfl | rfl | rfl | rfl
    · refine (show _ = some ((quartS 0 (flipP true (⟨(⟨p_xa, p_xb, p_xk⟩ : N3), (⟨p_ya, p_yb, p_yk⟩ : N3)⟩ : P2)))).av from by kernel_rfl).trans ?_
      exact congrArg (fun z : P2 => some z.av) ((turnS (flip_ok hq true) 0 0).1 rfl)
    · refine (show _ = cond (pk (quartS 0 (flipP true (⟨(⟨p_xa, p_xb, p_xk⟩ : N3), (⟨p_ya, p_yb, p_yk⟩ : N3)⟩ : P2))).x (quartS 0 (flipP true (⟨(⟨p_xa, p_xb, p_xk⟩ : N3), (⟨p_ya, p_yb, p_yk⟩ : N3)⟩ : P2))).y) (cond (pkm (subF (quartS 0 (flipP true (⟨(⟨p_xa, p_xb, p_xk⟩ : N3), (⟨p_ya, p_yb, p_yk⟩ : N3)⟩ : P2))).x (quartS 0 (flipP true (⟨(⟨p_xa, p_xb, p_xk⟩ : N3), (⟨p_ya, p_yb, p_yk⟩ : N3)⟩ : P2))).y) hN) (cond (pk (quartS 0 (flipP true (⟨(⟨p_xa, p_xb, p_xk⟩ : N3), (⟨p_ya, p_yb, p_yk⟩ : N3)⟩ : P2))).x (quartS 0 (flipP true (⟨(⟨p_xa, p_xb, p_xk⟩ : N3), (⟨p_ya, p_yb, p_yk⟩ : N3)⟩ : P2))).y) (cond (pkm (addF (quartS 0 (flipP true (⟨(⟨p_xa, p_xb, p_xk⟩ : N3), (⟨p_ya, p_yb, p_yk⟩ : N3)⟩ : P2))).x (quartS 0 (flipP true (⟨(⟨p_xa, p_xb, p_xk⟩ : N3), (⟨p_ya, p_yb, p_yk⟩ : N3)⟩ : P2))).y) hN) (some (rot45 (quartS 0 (flipP true (⟨(⟨p_xa, p_xb, p_xk⟩ : N3), (⟨p_ya, p_yb, p_yk⟩ : N3)⟩ : P2)))).av) none) none) none) none from by kernel_rfl).trans ?_
      obtain ⟨c1, c2, c3⟩ := quartS_ok (flip_ok hq true) 0
      rw [c1, c2, c3]
      exact congrArg (fun z : P2 => some z.av) ((turnS (flip_ok hq true) 1 0).2 rfl)
    · refine (show _ = some ((quartS 1 (flipP true (⟨(⟨p_xa, p_xb, p_xk⟩ : N3), (⟨p_ya, p_yb, p_yk⟩ : N3)⟩ : P2)))).av from by kernel_rfl).trans ?_
      exact congrArg (fun z : P2 => some z.av) ((turnS (flip_ok hq true) 2 1).1 rfl)
    · refine (show _ = cond (pk (quartS 1 (flipP true (⟨(⟨p_xa, p_xb, p_xk⟩ : N3), (⟨p_ya, p_yb, p_yk⟩ : N3)⟩ : P2))).x (quartS 1 (flipP true (⟨(⟨p_xa, p_xb, p_xk⟩ : N3), (⟨p_ya, p_yb, p_yk⟩ : N3)⟩ : P2))).y) (cond (pkm (subF (quartS 1 (flipP true (⟨(⟨p_xa, p_xb, p_xk⟩ : N3), (⟨p_ya, p_yb, p_yk⟩ : N3)⟩ : P2))).x (quartS 1 (flipP true (⟨(⟨p_xa, p_xb, p_xk⟩ : N3), (⟨p_ya, p_yb, p_yk⟩ : N3)⟩ : P2))).y) hN) (cond (pk (quartS 1 (flipP true (⟨(⟨p_xa, p_xb, p_xk⟩ : N3), (⟨p_ya, p_yb, p_yk⟩ : N3)⟩ : P2))).x (quartS 1 (flipP true (⟨(⟨p_xa, p_xb, p_xk⟩ : N3), (⟨p_ya, p_yb, p_yk⟩ : N3)⟩ : P2))).y) (cond (pkm (addF (quartS 1 (flipP true (⟨(⟨p_xa, p_xb, p_xk⟩ : N3), (⟨p_ya, p_yb, p_yk⟩ : N3)⟩ : P2))).x (quartS 1 (flipP true (⟨(⟨p_xa, p_xb, p_xk⟩ : N3), (⟨p_ya, p_yb, p_yk⟩ : N3)⟩ : P2))).y) hN) (some (rot45 (quartS 1 (flipP true (⟨(⟨p_xa, p_xb, p_xk⟩ : N3), (⟨p_ya, p_yb, p_yk⟩ : N3)⟩ : P2)))).av) none) none) none) none from by kernel_rfl).trans ?_
      obtain ⟨c1, c2, c3⟩ := quartS_ok (flip_ok hq true) 1
      rw [c1, c2, c3]
      exact congrArg (fun z : P2 => some z.av) ((turnS (flip_ok hq true) 3 1).2 rfl)
    · refine (show _ = some ((quartS 2 (flipP true (⟨(⟨p_xa, p_xb, p_xk⟩ : N3), (⟨p_ya, p_yb, p_yk⟩ : N3)⟩ : P2)))).av from by kernel_rfl).trans ?_
      exact congrArg (fun z : P2 => some z.av) ((turnS (flip_ok hq true) 4 2).1 rfl)
    · refine (show _ = cond (pk (quartS 2 (flipP true (⟨(⟨p_xa, p_xb, p_xk⟩ : N3), (⟨p_ya, p_yb, p_yk⟩ : N3)⟩ : P2))).x (quartS 2 (flipP true (⟨(⟨p_xa, p_xb, p_xk⟩ : N3), (⟨p_ya, p_yb, p_yk⟩ : N3)⟩ : P2))).y) (cond (pkm (subF (quartS 2 (flipP true (⟨(⟨p_xa, p_xb, p_xk⟩ : N3), (⟨p_ya, p_yb, p_yk⟩ : N3)⟩ : P2))).x (quartS 2 (flipP true (⟨(⟨p_xa, p_xb, p_xk⟩ : N3), (⟨p_ya, p_yb, p_yk⟩ : N3)⟩ : P2))).y) hN) (cond (pk (quartS 2 (flipP true (⟨(⟨p_xa, p_xb, p_xk⟩ : N3), (⟨p_ya, p_yb, p_yk⟩ : N3)⟩ : P2))).x (quartS 2 (flipP true (⟨(⟨p_xa, p_xb, p_xk⟩ : N3), (⟨p_ya, p_yb, p_yk⟩ : N3)⟩ : P2))).y) (cond (pkm (addF (quartS 2 (flipP true (⟨(⟨p_xa, p_xb, p_xk⟩ : N3), (⟨p_ya, p_yb, p_yk⟩ : N3)⟩ : P2))).x (quartS 2 (flipP true (⟨(⟨p_xa, p_xb, p_xk⟩ : N3), (⟨p_ya, p_yb, p_yk⟩ : N3)⟩ : P2))).y) hN) (some (rot45 (quartS 2 (flipP true (⟨(⟨p_xa, p_xb, p_xk⟩ : N3), (⟨p_ya, p_yb, p_yk⟩ : N3)⟩ : P2)))).av) none) none) none) none from by kernel_rfl).trans ?_
      obtain ⟨c1, c2, c3⟩ := quartS_ok (flip_ok hq true) 2
      rw [c1, c2, c3]
      exact congrArg (fun z : P2 => some z.av) ((turnS (flip_ok hq true) 5 2).2 rfl)
    · refine (show _ = some ((quartS 3 (flipP true (⟨(⟨p_xa, p_xb, p_xk⟩ : N3), (⟨p_ya, p_yb, p_yk⟩ : N3)⟩ : P2)))).av from by kernel_rfl).trans ?_
      exact congrArg (fun z : P2 => some z.av) ((turnS (flip_ok hq true) 6 3).1 rfl)
    · refine (show _ = cond (pk (quartS 3 (flipP true (⟨(⟨p_xa, p_xb, p_xk⟩ : N3), (⟨p_ya, p_yb, p_yk⟩ : N3)⟩ : P2))).x (quartS 3 (flipP true (⟨(⟨p_xa, p_xb, p_xk⟩ : N3), (⟨p_ya, p_yb, p_yk⟩ : N3)⟩ : P2))).y) (cond (pkm (subF (quartS 3 (flipP true (⟨(⟨p_xa, p_xb, p_xk⟩ : N3), (⟨p_ya, p_yb, p_yk⟩ : N3)⟩ : P2))).x (quartS 3 (flipP true (⟨(⟨p_xa, p_xb, p_xk⟩ : N3), (⟨p_ya, p_yb, p_yk⟩ : N3)⟩ : P2))).y) hN) (cond (pk (quartS 3 (flipP true (⟨(⟨p_xa, p_xb, p_xk⟩ : N3), (⟨p_ya, p_yb, p_yk⟩ : N3)⟩ : P2))).x (quartS 3 (flipP true (⟨(⟨p_xa, p_xb, p_xk⟩ : N3), (⟨p_ya, p_yb, p_yk⟩ : N3)⟩ : P2))).y) (cond (pkm (addF (quartS 3 (flipP true (⟨(⟨p_xa, p_xb, p_xk⟩ : N3), (⟨p_ya, p_yb, p_yk⟩ : N3)⟩ : P2))).x (quartS 3 (flipP true (⟨(⟨p_xa, p_xb, p_xk⟩ : N3), (⟨p_ya, p_yb, p_yk⟩ : N3)⟩ : P2))).y) hN) (some (rot45 (quartS 3 (flipP true (⟨(⟨p_xa, p_xb, p_xk⟩ : N3), (⟨p_ya, p_yb, p_yk⟩ : N3)⟩ : P2)))).av) none) none) none) none from by kernel_rfl).trans ?_
      obtain ⟨c1, c2, c3⟩ := quartS_ok (flip_ok hq true) 3
      rw [c1, c2, c3]
      exact congrArg (fun z : P2 => some z.av) ((turnS (flip_ok hq true) 7 3).2 rfl)
  | false =>
    simp only [Bool.and_eq_true, inB_iff] at hp
    obtain ⟨⟨h0, h7⟩, hq⟩ := hp
    have ho := okP_iff.1 hq
    obtain ⟨a1, a2, a3, _⟩ := turn_pre ho.1 ho.2
    simp only at a1 a2 a3
    have ht : t = 0 ∨ t = 1 ∨ t = 2 ∨ t = 3 ∨ t = 4 ∨ t = 5 ∨ t = 6 ∨ t = 7 := by omega
    clear h0 h7
    rcases ht with rfl | rfl | rfl | rfl | rfl | rfl | rfl | rfl
    · refine (show _ = some ((quartS 0 (flipP false (⟨(⟨p_xa, p_xb, p_xk⟩ : N3), (⟨p_ya, p_yb, p_yk⟩ : N3)⟩ : P2)))).av from by kernel_rfl).trans ?_
      exact congrArg (fun z : P2 => some z.av) ((turnS (flip_ok hq false) 0 0).1 rfl)
    · refine (show _ = cond (pk (quartS 0 (flipP false (⟨(⟨p_xa, p_xb, p_xk⟩ : N3), (⟨p_ya, p_yb, p_yk⟩ : N3)⟩ : P2))).x (quartS 0 (flipP false (⟨(⟨p_xa, p_xb, p_xk⟩ : N3), (⟨p_ya, p_yb, p_yk⟩ : N3)⟩ : P2))).y) (cond (pkm (subF (quartS 0 (flipP false (⟨(⟨p_xa, p_xb, p_xk⟩ : N3), (⟨p_ya, p_yb, p_yk⟩ : N3)⟩ : P2))).x (quartS 0 (flipP false (⟨(⟨p_xa, p_xb, p_xk⟩ : N3), (⟨p_ya, p_yb, p_yk⟩ : N3)⟩ : P2))).y) hN) (cond (pk (quartS 0 (flipP false (⟨(⟨p_xa, p_xb, p_xk⟩ : N3), (⟨p_ya, p_yb, p_yk⟩ : N3)⟩ : P2))).x (quartS 0 (flipP false (⟨(⟨p_xa, p_xb, p_xk⟩ : N3), (⟨p_ya, p_yb, p_yk⟩ : N3)⟩ : P2))).y) (cond (pkm (addF (quartS 0 (flipP false (⟨(⟨p_xa, p_xb, p_xk⟩ : N3), (⟨p_ya, p_yb, p_yk⟩ : N3)⟩ : P2))).x (quartS 0 (flipP false (⟨(⟨p_xa, p_xb, p_xk⟩ : N3), (⟨p_ya, p_yb, p_yk⟩ : N3)⟩ : P2))).y) hN) (some (rot45 (quartS 0 (flipP false (⟨(⟨p_xa, p_xb, p_xk⟩ : N3), (⟨p_ya, p_yb, p_yk⟩ : N3)⟩ : P2)))).av) none) none) none) none from by kernel_rfl).trans ?_
      obtain ⟨c1, c2, c3⟩ := quartS_ok (flip_ok hq false) 0
      rw [c1, c2, c3]
      exact congrArg (fun z : P2 => some z.av) ((turnS (flip_ok hq false) 1 0).2 rfl)
    · refine (show _ = some ((quartS 1 (flipP false (⟨(⟨p_xa, p_xb, p_xk⟩ : N3), (⟨p_ya, p_yb, p_yk⟩ : N3)⟩ : P2)))).av from by kernel_rfl).trans ?_
      exact congrArg (fun z : P2 => some z.av) ((turnS (flip_ok hq false) 2 1).1 rfl)
    · refine (show _ = cond (pk (quartS 1 (flipP false (⟨(⟨p_xa, p_xb, p_xk⟩ : N3), (⟨p_ya, p_yb, p_yk⟩ : N3)⟩ : P2))).x (quartS 1 (flipP false (⟨(⟨p_xa, p_xb, p_xk⟩ : N3), (⟨p_ya, p_yb, p_yk⟩ : N3)⟩ : P2))).y) (cond (pkm (subF (quartS 1 (flipP false (⟨(⟨p_xa, p_xb, p_xk⟩ : N3), (⟨p_ya, p_yb, p_yk⟩ : N3)⟩ : P2))).x (quartS 1 (flipP false (⟨(⟨p_xa, p_xb, p_xk⟩ : N3), (⟨p_ya, p_yb, p_yk⟩ : N3)⟩ : P2))).y) hN) (cond (pk (quartS 1 (flipP false (⟨(⟨p_xa, p_xb, p_xk⟩ : N3), (⟨p_ya, p_yb, p_yk⟩ : N3)⟩ : P2))).x (quartS 1 (flipP false (⟨(⟨p_xa, p_xb, p_xk⟩ : N3), (⟨p_ya, p_yb, p_yk⟩ : N3)⟩ : P2))).y) (cond (pkm (addF (quartS 1 (flipP false (⟨(⟨p_xa, p_xb, p_xk⟩ : N3), (⟨p_ya, p_yb, p_yk⟩ : N3)⟩ : P2))).x (quartS 1 (flipP false (⟨(⟨p_xa, p_xb, p_xk⟩ : N3), (⟨p_ya, p_yb, p_yk⟩ : N3)⟩ : P2))).y) hN) (some (rot45 (quartS 1 (flipP false (⟨(⟨p_xa, p_xb, p_xk⟩ : N3), (⟨p_ya, p_yb, p_yk⟩ : N3)⟩ : P2)))).av) none) none) none) none from by kernel_rfl).trans ?_
      obtain ⟨c1, c2, c3⟩ := quartS_ok (flip_ok hq false) 1
      rw [c1, c2, c3]
      exact congrArg (fun z : P2 => some z.av) ((turnS (flip_ok hq false) 3 1).2 rfl)
    · refine (show _ = some ((quartS 2 (flipP false (⟨(⟨p_xa, p_xb, p_xk⟩ : N3), (⟨p_ya, p_yb, p_yk⟩ : N3)⟩ : P2)))).av from by kernel_rfl).trans ?_
      exact congrArg (fun z : P2 => some z.av) ((turnS (flip_ok hq false) 4 2).1 rfl)
    · refine (show _ = cond (pk (quartS 2 (flipP false (⟨(⟨p_xa, p_xb, p_xk⟩ : N3), (⟨p_ya, p_yb, p_yk⟩ : N3)⟩ : P2))).x (quartS 2 (flipP false (⟨(⟨p_xa, p_xb, p_xk⟩ : N3), (⟨p_ya, p_yb, p_yk⟩ : N3)⟩ : P2))).y) (cond (pkm (subF (quartS 2 (flipP false (⟨(⟨p_xa, p_xb, p_xk⟩ : N3), (⟨p_ya, p_yb, p_yk⟩ : N3)⟩ : P2))).x (quartS 2 (flipP false (⟨(⟨p_xa, p_xb, p_xk⟩ : N3), (⟨p_ya, p_yb, p_yk⟩ : N3)⟩ : P2))).y) hN) (cond (pk (quartS 2 (flipP false (⟨(⟨p_xa, p_xb, p_xk⟩ : N3), (⟨p_ya, p_yb, p_yk⟩ : N3)⟩ : P2))).x (quartS 2 (flipP false (⟨(⟨p_xa, p_xb, p_xk⟩ : N3), (⟨p_ya, p_yb, p_yk⟩ : N3)⟩ : P2))).y) (cond (pkm (addF (quartS 2 (flipP false (⟨(⟨p_xa, p_xb, p_xk⟩ : N3), (⟨p_ya, p_yb, p_yk⟩ : N3)⟩ : P2))).x (quartS 2 (flipP false (⟨(⟨p_xa, p_xb, p_xk⟩ : N3), (⟨p_ya, p_yb, p_yk⟩ : N3)⟩ : P2))).y) hN) (some (rot45 (quartS 2 (flipP false (⟨(⟨p_xa, p_xb, p_xk⟩ : N3), (⟨p_ya, p_yb, p_yk⟩ : N3)⟩ : P2)))).av) none) none) none) none from by kernel_rfl).trans ?_
      obtain ⟨c1, c2, c3⟩ := quartS_ok (flip_ok hq false) 2
      rw [c1, c2, c3]
      exact congrArg (fun z : P2 => some z.av) ((turnS (flip_ok hq false) 5 2).2 rfl)
    · refine (show _ = some ((quartS 3 (flipP false (⟨(⟨p_xa, p_xb, p_xk⟩ : N3), (⟨p_ya, p_yb, p_yk⟩ : N3)⟩ : P2)))).av from by kernel_rfl).trans ?_
      exact congrArg (fun z : P2 => some z.av) ((turnS (flip_ok hq false) 6 3).1 rfl)
    · refine (show _ = cond (pk (quartS 3 (flipP false (⟨(⟨p_xa, p_xb, p_xk⟩ : N3), (⟨p_ya, p_yb, p_yk⟩ : N3)⟩ : P2))).x (quartS 3 (flipP false (⟨(⟨p_xa, p_xb, p_xk⟩ : N3), (⟨p_ya, p_yb, p_yk⟩ : N3)⟩ : P2))).y) (cond (pkm (subF (quartS 3 (flipP false (⟨(⟨p_xa, p_xb, p_xk⟩ : N3), (⟨p_ya, p_yb, p_yk⟩ : N3)⟩ : P2))).x (quartS 3 (flipP false (⟨(⟨p_xa, p_xb, p_xk⟩ : N3), (⟨p_ya, p_yb, p_yk⟩ : N3)⟩ : P2))).y) hN) (cond (pk (quartS 3 (flipP false (⟨(⟨p_xa, p_xb, p_xk⟩ : N3), (⟨p_ya, p_yb, p_yk⟩ : N3)⟩ : P2))).x (quartS 3 (flipP false (⟨(⟨p_xa, p_xb, p_xk⟩ : N3), (⟨p_ya, p_yb, p_yk⟩ : N3)⟩ : P2))).y) (cond (pkm (addF (quartS 3 (flipP false (⟨(⟨p_xa, p_xb, p_xk⟩ : N3), (⟨p_ya, p_yb, p_yk⟩ : N3)⟩ : P2))).x (quartS 3 (flipP false (⟨(⟨p_xa, p_xb, p_xk⟩ : N3), (⟨p_ya, p_yb, p_yk⟩ : N3)⟩ : P2))).y) hN) (some (rot45 (quartS 3 (flipP false (⟨(⟨p_xa, p_xb, p_xk⟩ : N3), (⟨p_ya, p_yb, p_yk⟩ : N3)⟩ : P2)))).av) none) none) none) none from by kernel_rfl).trans ?_
      obtain ⟨c1, c2, c3⟩ := quartS_ok (flip_ok hq false) 3
      rw [c1, c2, c3]
      exact congrArg (fun z : P2 => some z.av) ((turnS (flip_ok hq false) 7 3).2 rfl)
theorem m22 : Meets Tryd.prog GLv 22 s22 := by
  refine meetsN mix0 glv G38 Tryd.func22 (by kernel_rfl) (by kernel_rfl) s22 fun args x h => ?_
  unfold s22 at h
  split at h
  · rename_i t f p_xa p_xb p_xk p_ya p_yb p_yk
    simp only [Option.some.injEq, Prod.mk.injEq] at h
    obtain ⟨hp, rfl⟩ := h
    exact ⟨_, _, by kernel_rfl, e22 t f p_xa p_xb p_xk p_ya p_yb p_yk hp⟩
  · cases h
abbrev Γ39 : List (Nat × Ctr) := (22, s22) :: Γ38
theorem G39 : Sound Tryd.prog GLv Γ39 := G38.cons m22

-- (impl.Motion).shift
def s27 : Ctr := fun
  | [.agg [.val (.int .i64 m_t), .val (.bool m_f), .val (.int .i64 m_xa), .val (.int .i64 m_xb), .val (.int .i64 m_xk), .val (.int .i64 m_ya), .val (.int .i64 m_yb), .val (.int .i64 m_yk)]] => some (true, (⟨⟨m_xa, m_xb, m_xk⟩, ⟨m_ya, m_yb, m_yk⟩⟩ : P2).av)
  | _ => none

theorem e27 (m_t : Int) (m_f : Bool) (m_xa : Int) (m_xb : Int) (m_xk : Int) (m_ya : Int) (m_yb : Int) (m_yk : Int) : evN Tryd.prog GLv Γ39 (0) [] Tryd.f27 [.agg [.val (.int .i64 m_t), .val (.bool m_f), .val (.int .i64 m_xa), .val (.int .i64 m_xb), .val (.int .i64 m_xk), .val (.int .i64 m_ya), .val (.int .i64 m_yb), .val (.int .i64 m_yk)]] = some ((⟨⟨m_xa, m_xb, m_xk⟩, ⟨m_ya, m_yb, m_yk⟩⟩ : P2).av) := by
  kernel_rfl
theorem m27 : Meets Tryd.prog GLv 27 s27 := by
  refine meetsN mix0 glv G39 Tryd.func27 (by kernel_rfl) (by kernel_rfl) s27 fun args x h => ?_
  unfold s27 at h
  split at h
  · rename_i m_t m_f m_xa m_xb m_xk m_ya m_yb m_yk
    simp only [Option.some.injEq, Prod.mk.injEq] at h
    obtain ⟨hp, rfl⟩ := h
    exact ⟨_, _, by kernel_rfl, e27 m_t m_f m_xa m_xb m_xk m_ya m_yb m_yk⟩
  · cases h
abbrev Γ40 : List (Nat × Ctr) := (27, s27) :: Γ39
theorem G40 : Sound Tryd.prog GLv Γ40 := G39.cons m27

-- laws.eqMotion
def s7 : Ctr := fun
  | [.agg [.val (.int .i64 m_t), .val (.bool m_f), .val (.int .i64 m_xa), .val (.int .i64 m_xb), .val (.int .i64 m_xk), .val (.int .i64 m_ya), .val (.int .i64 m_yb), .val (.int .i64 m_yk)], .agg [.val (.int .i64 n_t), .val (.bool n_f), .val (.int .i64 n_xa), .val (.int .i64 n_xb), .val (.int .i64 n_xk), .val (.int .i64 n_ya), .val (.int .i64 n_yb), .val (.int .i64 n_yk)]] => some (true, bv (eqM m_t n_t m_f n_f (⟨⟨m_xa, m_xb, m_xk⟩, ⟨m_ya, m_yb, m_yk⟩⟩ : P2) (⟨⟨n_xa, n_xb, n_xk⟩, ⟨n_ya, n_yb, n_yk⟩⟩ : P2)))
  | _ => none

theorem e7 (m_t : Int) (m_f : Bool) (m_xa : Int) (m_xb : Int) (m_xk : Int) (m_ya : Int) (m_yb : Int) (m_yk : Int) (n_t : Int) (n_f : Bool) (n_xa : Int) (n_xb : Int) (n_xk : Int) (n_ya : Int) (n_yb : Int) (n_yk : Int) : evN Tryd.prog GLv Γ40 (0) [] Tryd.f7 [.agg [.val (.int .i64 m_t), .val (.bool m_f), .val (.int .i64 m_xa), .val (.int .i64 m_xb), .val (.int .i64 m_xk), .val (.int .i64 m_ya), .val (.int .i64 m_yb), .val (.int .i64 m_yk)], .agg [.val (.int .i64 n_t), .val (.bool n_f), .val (.int .i64 n_xa), .val (.int .i64 n_xb), .val (.int .i64 n_xk), .val (.int .i64 n_ya), .val (.int .i64 n_yb), .val (.int .i64 n_yk)]] = some (bv (eqM m_t n_t m_f n_f (⟨⟨m_xa, m_xb, m_xk⟩, ⟨m_ya, m_yb, m_yk⟩⟩ : P2) (⟨⟨n_xa, n_xb, n_xk⟩, ⟨n_ya, n_yb, n_yk⟩⟩ : P2))) := by
  refine (show _ = cond (m_t != n_t) ( some (bv (false)) ) ( cond (!m_f == n_f) ( some (bv (false)) ) ( cond (!eq3 (N3.mk m_xa m_xb m_xk) (N3.mk n_xa n_xb n_xk)) ( some (bv (false)) ) ( cond (!eq3 (N3.mk m_ya m_yb m_yk) (N3.mk n_ya n_yb n_yk)) ( some (bv (false)) ) ( some (bv (true)) ) ) ) ) from by kernel_rfl).trans ?_
  simp only [eqM, eqP]
  cases (m_t != n_t) <;> cases m_f <;> cases n_f <;> cases eq3 (⟨⟨m_xa, m_xb, m_xk⟩, ⟨m_ya, m_yb, m_yk⟩⟩ : P2).x (⟨⟨n_xa, n_xb, n_xk⟩, ⟨n_ya, n_yb, n_yk⟩⟩ : P2).x <;> cases eq3 (⟨⟨m_xa, m_xb, m_xk⟩, ⟨m_ya, m_yb, m_yk⟩⟩ : P2).y (⟨⟨n_xa, n_xb, n_xk⟩, ⟨n_ya, n_yb, n_yk⟩⟩ : P2).y <;> rfl
theorem m7 : Meets Tryd.prog GLv 7 s7 := by
  refine meetsN mix0 glv G40 Tryd.func7 (by kernel_rfl) (by kernel_rfl) s7 fun args x h => ?_
  unfold s7 at h
  split at h
  · rename_i m_t m_f m_xa m_xb m_xk m_ya m_yb m_yk n_t n_f n_xa n_xb n_xk n_ya n_yb n_yk
    simp only [Option.some.injEq, Prod.mk.injEq] at h
    obtain ⟨hp, rfl⟩ := h
    exact ⟨_, _, by kernel_rfl, e7 m_t m_f m_xa m_xb m_xk m_ya m_yb m_yk n_t n_f n_xa n_xb n_xk n_ya n_yb n_yk⟩
  · cases h
abbrev Γ41 : List (Nat × Ctr) := (7, s7) :: Γ40
theorem G41 : Sound Tryd.prog GLv Γ41 := G40.cons m7

-- (impl.Motion).checked
def s15 : Ctr := fun
  | [.agg [.val (.int .i64 m_t), .val (.bool m_f), .val (.int .i64 m_xa), .val (.int .i64 m_xb), .val (.int .i64 m_xk), .val (.int .i64 m_ya), .val (.int .i64 m_yb), .val (.int .i64 m_yk)]] => some (kB m_xk && kB m_yk, rM (valP (redP (⟨⟨m_xa, m_xb, m_xk⟩, ⟨m_ya, m_yb, m_yk⟩⟩ : P2))) m_t m_f (redP (⟨⟨m_xa, m_xb, m_xk⟩, ⟨m_ya, m_yb, m_yk⟩⟩ : P2)))
  | _ => none

theorem e15 (m_t : Int) (m_f : Bool) (m_xa : Int) (m_xb : Int) (m_xk : Int) (m_ya : Int) (m_yb : Int) (m_yk : Int) (hp : (kB m_xk && kB m_yk) = true) : evN Tryd.prog GLv Γ41 (0) [] Tryd.f15 [.agg [.val (.int .i64 m_t), .val (.bool m_f), .val (.int .i64 m_xa), .val (.int .i64 m_xb), .val (.int .i64 m_xk), .val (.int .i64 m_ya), .val (.int .i64 m_yb), .val (.int .i64 m_yk)]] = some (rM (valP (redP (⟨⟨m_xa, m_xb, m_xk⟩, ⟨m_ya, m_yb, m_yk⟩⟩ : P2))) m_t m_f (redP (⟨⟨m_xa, m_xb, m_xk⟩, ⟨m_ya, m_yb, m_yk⟩⟩ : P2))) := by
  refine (show _ = cond (kB m_xk && kB m_yk) (cond (!valP (redP (⟨⟨m_xa, m_xb, m_xk⟩, ⟨m_ya, m_yb, m_yk⟩⟩ : P2))) (some (rM false m_t m_f (redP (⟨⟨m_xa, m_xb, m_xk⟩, ⟨m_ya, m_yb, m_yk⟩⟩ : P2)))) (some (rM true m_t m_f ((fun c : Bool => (selP c (redP (⟨⟨m_xa, m_xb, m_xk⟩, ⟨m_ya, m_yb, m_yk⟩⟩ : P2)))) (valP (redP (⟨⟨m_xa, m_xb, m_xk⟩, ⟨m_ya, m_yb, m_yk⟩⟩ : P2))))))) none from by kernel_rfl).trans ?_
  rw [hp]
  cases valP (redP (⟨⟨m_xa, m_xb, m_xk⟩, ⟨m_ya, m_yb, m_yk⟩⟩ : P2)) <;> rfl
theorem m15 : Meets Tryd.prog GLv 15 s15 := by
  refine meetsN mix0 glv G41 Tryd.func15 (by kernel_rfl) (by kernel_rfl) s15 fun args x h => ?_
  unfold s15 at h
  split at h
  · rename_i m_t m_f m_xa m_xb m_xk m_ya m_yb m_yk
    simp only [Option.some.injEq, Prod.mk.injEq] at h
    obtain ⟨hp, rfl⟩ := h
    exact ⟨_, _, by kernel_rfl, e15 m_t m_f m_xa m_xb m_xk m_ya m_yb m_yk hp⟩
  · cases h
abbrev Γ42 : List (Nat × Ctr) := (15, s15) :: Γ41
theorem G42 : Sound Tryd.prog GLv Γ42 := G41.cons m15

-- spec.l04Num
def s9 : Ctr := fun
  | [.agg [.val (.int .i64 m_t), .val (.bool m_f), .val (.int .i64 m_xa), .val (.int .i64 m_xb), .val (.int .i64 m_xk), .val (.int .i64 m_ya), .val (.int .i64 m_yb), .val (.int .i64 m_yk)]] => some (kB m_xk && kB m_yk, rM (valP (redP (⟨⟨m_xa, m_xb, m_xk⟩, ⟨m_ya, m_yb, m_yk⟩⟩ : P2))) m_t m_f (redP (⟨⟨m_xa, m_xb, m_xk⟩, ⟨m_ya, m_yb, m_yk⟩⟩ : P2)))
  | _ => none

theorem e9 (m_t : Int) (m_f : Bool) (m_xa : Int) (m_xb : Int) (m_xk : Int) (m_ya : Int) (m_yb : Int) (m_yk : Int) (hp : (kB m_xk && kB m_yk) = true) : evN Tryd.prog GLv Γ42 (0) [] Tryd.f9 [.agg [.val (.int .i64 m_t), .val (.bool m_f), .val (.int .i64 m_xa), .val (.int .i64 m_xb), .val (.int .i64 m_xk), .val (.int .i64 m_ya), .val (.int .i64 m_yb), .val (.int .i64 m_yk)]] = some (rM (valP (redP (⟨⟨m_xa, m_xb, m_xk⟩, ⟨m_ya, m_yb, m_yk⟩⟩ : P2))) m_t m_f (redP (⟨⟨m_xa, m_xb, m_xk⟩, ⟨m_ya, m_yb, m_yk⟩⟩ : P2))) := by
  refine (show _ = cond (kB m_xk && kB m_yk) (cond (!valP (redP (⟨⟨m_xa, m_xb, m_xk⟩, ⟨m_ya, m_yb, m_yk⟩⟩ : P2))) (some (rM false m_t m_f (redP (⟨⟨m_xa, m_xb, m_xk⟩, ⟨m_ya, m_yb, m_yk⟩⟩ : P2)))) (some (rM true m_t m_f ((fun c : Bool => (selP c (redP (⟨⟨m_xa, m_xb, m_xk⟩, ⟨m_ya, m_yb, m_yk⟩⟩ : P2)))) (valP (redP (⟨⟨m_xa, m_xb, m_xk⟩, ⟨m_ya, m_yb, m_yk⟩⟩ : P2))))))) none from by kernel_rfl).trans ?_
  rw [hp]
  cases valP (redP (⟨⟨m_xa, m_xb, m_xk⟩, ⟨m_ya, m_yb, m_yk⟩⟩ : P2)) <;> rfl
theorem m9 : Meets Tryd.prog GLv 9 s9 := by
  refine meetsN mix0 glv G42 Tryd.func9 (by kernel_rfl) (by kernel_rfl) s9 fun args x h => ?_
  unfold s9 at h
  split at h
  · rename_i m_t m_f m_xa m_xb m_xk m_ya m_yb m_yk
    simp only [Option.some.injEq, Prod.mk.injEq] at h
    obtain ⟨hp, rfl⟩ := h
    exact ⟨_, _, by kernel_rfl, e9 m_t m_f m_xa m_xb m_xk m_ya m_yb m_yk hp⟩
  · cases h
abbrev Γ43 : List (Nat × Ctr) := (9, s9) :: Γ42
theorem G43 : Sound Tryd.prog GLv Γ43 := G42.cons m9

-- spec.l02Foot
def s20 : Ctr := fun
  | [.agg [.val (.int .i64 l_d), .val (.int .i64 l_a), .val (.int .i64 l_b), .val (.int .i64 l_k)]] => some (inB l_d 0 7 && validB (⟨l_a, l_b, l_k⟩ : N3), (footF (nrm l_d) (⟨l_a, l_b, l_k⟩ : N3)).av)
  | _ => none

theorem e20 (l_d : Int) (l_a : Int) (l_b : Int) (l_k : Int) (hp : (inB l_d 0 7 && validB (⟨l_a, l_b, l_k⟩ : N3)) = true) : evN Tryd.prog GLv Γ43 (0) [] Tryd.f20 [.agg [.val (.int .i64 l_d), .val (.int .i64 l_a), .val (.int .i64 l_b), .val (.int .i64 l_k)]] = some ((footF (nrm l_d) (⟨l_a, l_b, l_k⟩ : N3)).av) := by
  rw [Bool.and_eq_true] at hp
  obtain ⟨h1, h2⟩ := hp
  obtain ⟨a1, a2, a3, a4, a5, a6, a7⟩ := mirror_same h1 h2
  have w1 := nrm_in h1
  refine (show _ = cond (inB (wr (l_d + 4)) 0 15) (cond (inB (wr (l_d + 4)) 0 15 && pkD (nrm l_d) (nrm l_d)) (cond (dvP (⟨l_a, l_b, l_k⟩ : N3) (dotF (nrm l_d) (nrm l_d))) (cond (pkm (dvF (⟨l_a, l_b, l_k⟩ : N3) (dotF (nrm l_d) (nrm l_d))) (nrm l_d).x) (cond (pkm (dvF (⟨l_a, l_b, l_k⟩ : N3) (dotF (nrm l_d) (nrm l_d))) (nrm l_d).y) (some (footF (nrm l_d) (⟨l_a, l_b, l_k⟩ : N3)).av) none) none) none) none) none from by kernel_rfl).trans ?_
  rw [w1, a2, a1, a3, a4]
  rfl
theorem m20 : Meets Tryd.prog GLv 20 s20 := by
  refine meetsN mix0 glv G43 Tryd.func20 (by kernel_rfl) (by kernel_rfl) s20 fun args x h => ?_
  unfold s20 at h
  split at h
  · rename_i l_d l_a l_b l_k
    simp only [Option.some.injEq, Prod.mk.injEq] at h
    obtain ⟨hp, rfl⟩ := h
    exact ⟨_, _, by kernel_rfl, e20 l_d l_a l_b l_k hp⟩
  · cases h
abbrev Γ44 : List (Nat × Ctr) := (20, s20) :: Γ43
theorem G44 : Sound Tryd.prog GLv Γ44 := G43.cons m20

-- spec.l04Reflect
def s10 : Ctr := fun
  | [.agg [.val (.int .i64 l_d), .val (.int .i64 l_a), .val (.int .i64 l_b), .val (.int .i64 l_k)]] => some (inB l_d 0 7 && validB (⟨l_a, l_b, l_k⟩ : N3), mav l_d true (rflI (nrm l_d) (⟨l_a, l_b, l_k⟩ : N3) zP))
  | _ => none

theorem e10 (l_d : Int) (l_a : Int) (l_b : Int) (l_k : Int) (hp : (inB l_d 0 7 && validB (⟨l_a, l_b, l_k⟩ : N3)) = true) : evN Tryd.prog GLv Γ44 (0) [] Tryd.f10 [.agg [.val (.int .i64 l_d), .val (.int .i64 l_a), .val (.int .i64 l_b), .val (.int .i64 l_k)]] = some (mav l_d true (rflI (nrm l_d) (⟨l_a, l_b, l_k⟩ : N3) zP)) := by
  rw [Bool.and_eq_true] at hp
  obtain ⟨h1, h2⟩ := hp
  obtain ⟨a1, a2, a3, a4, a5, a6, a7⟩ := mirror_same h1 h2
  have w1 := nrm_in h1
  rw [a7]
  have e8 : (l_d.tmod 8) = l_d := by rw [inB_iff] at h1; rw [Int.tmod_eq_emod_of_nonneg h1.1]; omega
  refine (show _ = cond (inB l_d 0 7 && validB (⟨l_a, l_b, l_k⟩ : N3)) (cond (inB (l_d.tmod 8) 0 7 && okP (footF (nrm l_d) (⟨l_a, l_b, l_k⟩ : N3))) (cond (pkP (footF (nrm l_d) (⟨l_a, l_b, l_k⟩ : N3)) (turnF (l_d.tmod 8) (flipP true (footF (nrm l_d) (⟨l_a, l_b, l_k⟩ : N3))))) (some (mav (l_d.tmod 8) true (subP (footF (nrm l_d) (⟨l_a, l_b, l_k⟩ : N3)) (turnF (l_d.tmod 8) (flipP true (footF (nrm l_d) (⟨l_a, l_b, l_k⟩ : N3))))))) none) none) none from by kernel_rfl).trans ?_
  rw [e8, h1, h2, a5, a6]
  rfl
theorem m10 : Meets Tryd.prog GLv 10 s10 := by
  refine meetsN mix0 glv G44 Tryd.func10 (by kernel_rfl) (by kernel_rfl) s10 fun args x h => ?_
  unfold s10 at h
  split at h
  · rename_i l_d l_a l_b l_k
    simp only [Option.some.injEq, Prod.mk.injEq] at h
    obtain ⟨hp, rfl⟩ := h
    exact ⟨_, _, by kernel_rfl, e10 l_d l_a l_b l_k hp⟩
  · cases h
abbrev Γ45 : List (Nat × Ctr) := (10, s10) :: Γ44
theorem G45 : Sound Tryd.prog GLv Γ45 := G44.cons m10

-- impl.mirror
def s14 : Ctr := fun
  | [.agg [.val (.int .i64 l_d), .val (.int .i64 l_a), .val (.int .i64 l_b), .val (.int .i64 l_k)]] => some (inB l_d 0 7 && validB (⟨l_a, l_b, l_k⟩ : N3), mav l_d true (rflI (nrm l_d) (⟨l_a, l_b, l_k⟩ : N3) zP))
  | _ => none

theorem e14 (l_d : Int) (l_a : Int) (l_b : Int) (l_k : Int) (hp : (inB l_d 0 7 && validB (⟨l_a, l_b, l_k⟩ : N3)) = true) : evN Tryd.prog GLv Γ45 (0) [] Tryd.f14 [.agg [.val (.int .i64 l_d), .val (.int .i64 l_a), .val (.int .i64 l_b), .val (.int .i64 l_k)]] = some (mav l_d true (rflI (nrm l_d) (⟨l_a, l_b, l_k⟩ : N3) zP)) := by
  rw [Bool.and_eq_true] at hp
  obtain ⟨h1, h2⟩ := hp
  refine (show _ = cond (inB l_d 0 7 && (validB (⟨l_a, l_b, l_k⟩ : N3) && valP zP)) (some (mav l_d true (rflI (nrm l_d) (⟨l_a, l_b, l_k⟩ : N3) zP))) none from by kernel_rfl).trans ?_
  rw [h1, h2]
  rfl
theorem m14 : Meets Tryd.prog GLv 14 s14 := by
  refine meetsN mix0 glv G45 Tryd.func14 (by kernel_rfl) (by kernel_rfl) s14 fun args x h => ?_
  unfold s14 at h
  split at h
  · rename_i l_d l_a l_b l_k
    simp only [Option.some.injEq, Prod.mk.injEq] at h
    obtain ⟨hp, rfl⟩ := h
    exact ⟨_, _, by kernel_rfl, e14 l_d l_a l_b l_k hp⟩
  · cases h
abbrev Γ46 : List (Nat × Ctr) := (14, s14) :: Γ45
theorem G46 : Sound Tryd.prog GLv Γ46 := G45.cons m14

-- impl.Reflection
def s6 : Ctr := fun
  | [.agg [.val (.int .i64 l_d), .val (.int .i64 l_a), .val (.int .i64 l_b), .val (.int .i64 l_k)]] => some (true, rM ((inB l_d 0 7 && validB (⟨l_a, l_b, l_k⟩ : N3)) && valP (redP (rflI (nrm l_d) (⟨l_a, l_b, l_k⟩ : N3) zP))) l_d true (redP (rflI (nrm l_d) (⟨l_a, l_b, l_k⟩ : N3) zP)))
  | _ => none

theorem e6 (l_d : Int) (l_a : Int) (l_b : Int) (l_k : Int) : evN Tryd.prog GLv Γ46 (0) [] Tryd.f6 [.agg [.val (.int .i64 l_d), .val (.int .i64 l_a), .val (.int .i64 l_b), .val (.int .i64 l_k)]] = some (rM ((inB l_d 0 7 && validB (⟨l_a, l_b, l_k⟩ : N3)) && valP (redP (rflI (nrm l_d) (⟨l_a, l_b, l_k⟩ : N3) zP))) l_d true (redP (rflI (nrm l_d) (⟨l_a, l_b, l_k⟩ : N3) zP))) := by
  refine (show _ = cond (!(inB l_d 0 7 && validB (⟨l_a, l_b, l_k⟩ : N3))) (some (rM false l_d true (rflI (nrm l_d) (⟨l_a, l_b, l_k⟩ : N3) zP))) (cond (inB l_d 0 7 && validB (⟨l_a, l_b, l_k⟩ : N3)) (cond (kB (rflI (nrm l_d) (⟨l_a, l_b, l_k⟩ : N3) zP).x.k && kB (rflI (nrm l_d) (⟨l_a, l_b, l_k⟩ : N3) zP).y.k) (some (rM (valP (redP (rflI (nrm l_d) (⟨l_a, l_b, l_k⟩ : N3) zP))) l_d true (redP (rflI (nrm l_d) (⟨l_a, l_b, l_k⟩ : N3) zP)))) none) none) from by kernel_rfl).trans ?_
  cases h1 : inB l_d 0 7 with
  | false => rfl
  | true =>
    cases h2 : validB (⟨l_a, l_b, l_k⟩ : N3) with
    | false => rfl
    | true =>
      obtain ⟨E, hn⟩ := nrm_all l_d h1
      obtain ⟨_, _, _, _, _, _, _, _, _, k1, k2⟩ := refl_same hn h2 (show valP zP = true from rfl)
      rw [k1, k2]
      rfl
theorem m6 : Meets Tryd.prog GLv 6 s6 := by
  refine meetsN mix0 glv G46 Tryd.func6 (by kernel_rfl) (by kernel_rfl) s6 fun args x h => ?_
  unfold s6 at h
  split at h
  · rename_i l_d l_a l_b l_k
    simp only [Option.some.injEq, Prod.mk.injEq] at h
    obtain ⟨hp, rfl⟩ := h
    exact ⟨_, _, by kernel_rfl, e6 l_d l_a l_b l_k⟩
  · cases h
abbrev Γ47 : List (Nat × Ctr) := (6, s6) :: Γ46
theorem G47 : Sound Tryd.prog GLv Γ47 := G46.cons m6

-- spec.Reflection
def s4 : Ctr := fun
  | [.agg [.val (.int .i64 l_d), .val (.int .i64 l_a), .val (.int .i64 l_b), .val (.int .i64 l_k)]] => some (true, rM ((inB l_d 0 7 && validB (⟨l_a, l_b, l_k⟩ : N3)) && valP (redP (rflI (nrm l_d) (⟨l_a, l_b, l_k⟩ : N3) zP))) l_d true (redP (rflI (nrm l_d) (⟨l_a, l_b, l_k⟩ : N3) zP)))
  | _ => none

theorem e4 (l_d : Int) (l_a : Int) (l_b : Int) (l_k : Int) : evN Tryd.prog GLv Γ47 (0) [] Tryd.f4 [.agg [.val (.int .i64 l_d), .val (.int .i64 l_a), .val (.int .i64 l_b), .val (.int .i64 l_k)]] = some (rM ((inB l_d 0 7 && validB (⟨l_a, l_b, l_k⟩ : N3)) && valP (redP (rflI (nrm l_d) (⟨l_a, l_b, l_k⟩ : N3) zP))) l_d true (redP (rflI (nrm l_d) (⟨l_a, l_b, l_k⟩ : N3) zP))) := by
  refine (show _ = cond (!(inB l_d 0 7 && validB (⟨l_a, l_b, l_k⟩ : N3))) (some (rM false l_d true (rflI (nrm l_d) (⟨l_a, l_b, l_k⟩ : N3) zP))) (cond (inB l_d 0 7 && validB (⟨l_a, l_b, l_k⟩ : N3)) (cond (kB (rflI (nrm l_d) (⟨l_a, l_b, l_k⟩ : N3) zP).x.k && kB (rflI (nrm l_d) (⟨l_a, l_b, l_k⟩ : N3) zP).y.k) (some (rM (valP (redP (rflI (nrm l_d) (⟨l_a, l_b, l_k⟩ : N3) zP))) l_d true (redP (rflI (nrm l_d) (⟨l_a, l_b, l_k⟩ : N3) zP)))) none) none) from by kernel_rfl).trans ?_
  cases h1 : inB l_d 0 7 with
  | false => rfl
  | true =>
    cases h2 : validB (⟨l_a, l_b, l_k⟩ : N3) with
    | false => rfl
    | true =>
      obtain ⟨E, hn⟩ := nrm_all l_d h1
      obtain ⟨_, _, _, _, _, _, _, _, _, k1, k2⟩ := refl_same hn h2 (show valP zP = true from rfl)
      rw [k1, k2]
      rfl
theorem m4 : Meets Tryd.prog GLv 4 s4 := by
  refine meetsN mix0 glv G47 Tryd.func4 (by kernel_rfl) (by kernel_rfl) s4 fun args x h => ?_
  unfold s4 at h
  split at h
  · rename_i l_d l_a l_b l_k
    simp only [Option.some.injEq, Prod.mk.injEq] at h
    obtain ⟨hp, rfl⟩ := h
    exact ⟨_, _, by kernel_rfl, e4 l_d l_a l_b l_k⟩
  · cases h
abbrev Γ48 : List (Nat × Ctr) := (4, s4) :: Γ47
theorem G48 : Sound Tryd.prog GLv Γ48 := G47.cons m4

-- laws.FnExactReflection
def s3 : Ctr := fun
  | [.agg [.val (.int .i64 l_d), .val (.int .i64 l_a), .val (.int .i64 l_b), .val (.int .i64 l_k)]] => some (true, bv true)
  | _ => none

theorem e3 (l_d : Int) (l_a : Int) (l_b : Int) (l_k : Int) : evN Tryd.prog GLv Γ48 (0) [] Tryd.f3 [.agg [.val (.int .i64 l_d), .val (.int .i64 l_a), .val (.int .i64 l_b), .val (.int .i64 l_k)]] = some (bv true) := by
  refine (show _ = cond (!eqM (bif inB l_d 0 7 && validB (N3.mk l_a l_b l_k) && valP (redP (rflI (nrm l_d) (N3.mk l_a l_b l_k) zP)) then l_d else 0) (bif inB l_d 0 7 && validB (N3.mk l_a l_b l_k) && valP (redP (rflI (nrm l_d) (N3.mk l_a l_b l_k) zP)) then l_d else 0) (bif inB l_d 0 7 && validB (N3.mk l_a l_b l_k) && valP (redP (rflI (nrm l_d) (N3.mk l_a l_b l_k) zP)) then true else false) (bif inB l_d 0 7 && validB (N3.mk l_a l_b l_k) && valP (redP (rflI (nrm l_d) (N3.mk l_a l_b l_k) zP)) then true else false) (P2.mk (N3.mk (bif inB l_d 0 7 && validB (N3.mk l_a l_b l_k) && valP (redP (rflI (nrm l_d) (N3.mk l_a l_b l_k) zP)) then (red (addF (N3.mk 0 0 0) (mulF (nrm l_d).1 (addF (dvF (subF (N3.mk l_a l_b l_k) (dotF (nrm l_d) zP)) (dotF (nrm l_d) (nrm l_d))) (dvF (subF (N3.mk l_a l_b l_k) (dotF (nrm l_d) zP)) (dotF (nrm l_d) (nrm l_d))))))).1 else 0) (bif inB l_d 0 7 && validB (N3.mk l_a l_b l_k) && valP (redP (rflI (nrm l_d) (N3.mk l_a l_b l_k) zP)) then (red (addF (N3.mk 0 0 0) (mulF (nrm l_d).1 (addF (dvF (subF (N3.mk l_a l_b l_k) (dotF (nrm l_d) zP)) (dotF (nrm l_d) (nrm l_d))) (dvF (subF (N3.mk l_a l_b l_k) (dotF (nrm l_d) zP)) (dotF (nrm l_d) (nrm l_d))))))).2 else 0) (bif inB l_d 0 7 && validB (N3.mk l_a l_b l_k) && valP (redP (rflI (nrm l_d) (N3.mk l_a l_b l_k) zP)) then (red (addF (N3.mk 0 0 0) (mulF (nrm l_d).1 (addF (dvF (subF (N3.mk l_a l_b l_k) (dotF (nrm l_d) zP)) (dotF (nrm l_d) (nrm l_d))) (dvF (subF (N3.mk l_a l_b l_k) (dotF (nrm l_d) zP)) (dotF (nrm l_d) (nrm l_d))))))).3 else 0)) (N3.mk (bif inB l_d 0 7 && validB (N3.mk l_a l_b l_k) && valP (redP (rflI (nrm l_d) (N3.mk l_a l_b l_k) zP)) then (red (addF (N3.mk 0 0 0) (mulF (nrm l_d).2 (addF (dvF (subF (N3.mk l_a l_b l_k) (dotF (nrm l_d) zP)) (dotF (nrm l_d) (nrm l_d))) (dvF (subF (N3.mk l_a l_b l_k) (dotF (nrm l_d) zP)) (dotF (nrm l_d) (nrm l_d))))))).1 else 0) (bif inB l_d 0 7 && validB (N3.mk l_a l_b l_k) && valP (redP (rflI (nrm l_d) (N3.mk l_a l_b l_k) zP)) then (red (addF (N3.mk 0 0 0) (mulF (nrm l_d).2 (addF (dvF (subF (N3.mk l_a l_b l_k) (dotF (nrm l_d) zP)) (dotF (nrm l_d) (nrm l_d))) (dvF (subF (N3.mk l_a l_b l_k) (dotF (nrm l_d) zP)) (dotF (nrm l_d) (nrm l_d))))))).2 else 0) (bif inB l_d 0 7 && validB (N3.mk l_a l_b l_k) && valP (redP (rflI (nrm l_d) (N3.mk l_a l_b l_k) zP)) then (red (addF (N3.mk 0 0 0) (mulF (nrm l_d).2 (addF (dvF (subF (N3.mk l_a l_b l_k) (dotF (nrm l_d) zP)) (dotF (nrm l_d) (nrm l_d))) (dvF (subF (N3.mk l_a l_b l_k) (dotF (nrm l_d) zP)) (dotF (nrm l_d) (nrm l_d))))))).3 else 0))) (P2.mk (N3.mk (bif inB l_d 0 7 && validB (N3.mk l_a l_b l_k) && valP (redP (rflI (nrm l_d) (N3.mk l_a l_b l_k) zP)) then (red (addF (N3.mk 0 0 0) (mulF (nrm l_d).1 (addF (dvF (subF (N3.mk l_a l_b l_k) (dotF (nrm l_d) zP)) (dotF (nrm l_d) (nrm l_d))) (dvF (subF (N3.mk l_a l_b l_k) (dotF (nrm l_d) zP)) (dotF (nrm l_d) (nrm l_d))))))).1 else 0) (bif inB l_d 0 7 && validB (N3.mk l_a l_b l_k) && valP (redP (rflI (nrm l_d) (N3.mk l_a l_b l_k) zP)) then (red (addF (N3.mk 0 0 0) (mulF (nrm l_d).1 (addF (dvF (subF (N3.mk l_a l_b l_k) (dotF (nrm l_d) zP)) (dotF (nrm l_d) (nrm l_d))) (dvF (subF (N3.mk l_a l_b l_k) (dotF (nrm l_d) zP)) (dotF (nrm l_d) (nrm l_d))))))).2 else 0) (bif inB l_d 0 7 && validB (N3.mk l_a l_b l_k) && valP (redP (rflI (nrm l_d) (N3.mk l_a l_b l_k) zP)) then (red (addF (N3.mk 0 0 0) (mulF (nrm l_d).1 (addF (dvF (subF (N3.mk l_a l_b l_k) (dotF (nrm l_d) zP)) (dotF (nrm l_d) (nrm l_d))) (dvF (subF (N3.mk l_a l_b l_k) (dotF (nrm l_d) zP)) (dotF (nrm l_d) (nrm l_d))))))).3 else 0)) (N3.mk (bif inB l_d 0 7 && validB (N3.mk l_a l_b l_k) && valP (redP (rflI (nrm l_d) (N3.mk l_a l_b l_k) zP)) then (red (addF (N3.mk 0 0 0) (mulF (nrm l_d).2 (addF (dvF (subF (N3.mk l_a l_b l_k) (dotF (nrm l_d) zP)) (dotF (nrm l_d) (nrm l_d))) (dvF (subF (N3.mk l_a l_b l_k) (dotF (nrm l_d) zP)) (dotF (nrm l_d) (nrm l_d))))))).1 else 0) (bif inB l_d 0 7 && validB (N3.mk l_a l_b l_k) && valP (redP (rflI (nrm l_d) (N3.mk l_a l_b l_k) zP)) then (red (addF (N3.mk 0 0 0) (mulF (nrm l_d).2 (addF (dvF (subF (N3.mk l_a l_b l_k) (dotF (nrm l_d) zP)) (dotF (nrm l_d) (nrm l_d))) (dvF (subF (N3.mk l_a l_b l_k) (dotF (nrm l_d) zP)) (dotF (nrm l_d) (nrm l_d))))))).2 else 0) (bif inB l_d 0 7 && validB (N3.mk l_a l_b l_k) && valP (redP (rflI (nrm l_d) (N3.mk l_a l_b l_k) zP)) then (red (addF (N3.mk 0 0 0) (mulF (nrm l_d).2 (addF (dvF (subF (N3.mk l_a l_b l_k) (dotF (nrm l_d) zP)) (dotF (nrm l_d) (nrm l_d))) (dvF (subF (N3.mk l_a l_b l_k) (dotF (nrm l_d) zP)) (dotF (nrm l_d) (nrm l_d))))))).3 else 0)))) ( some (bv (false)) ) ( cond (!(inB l_d 0 7 && validB (N3.mk l_a l_b l_k) && valP (redP (rflI (nrm l_d) (N3.mk l_a l_b l_k) zP))) == (inB l_d 0 7 && validB (N3.mk l_a l_b l_k) && valP (redP (rflI (nrm l_d) (N3.mk l_a l_b l_k) zP)))) ( some (bv (false)) ) ( some (bv (true)) ) ) from by kernel_rfl).trans ?_
  simp only [eqM_self, bne_self_eq_false, beq_self_eq_true, cond_true, cond_false, Bool.not_true]
theorem m3 : Meets Tryd.prog GLv 3 s3 := by
  refine meetsN mix0 glv G48 Tryd.func3 (by kernel_rfl) (by kernel_rfl) s3 fun args x h => ?_
  unfold s3 at h
  split at h
  · rename_i l_d l_a l_b l_k
    simp only [Option.some.injEq, Prod.mk.injEq] at h
    obtain ⟨hp, rfl⟩ := h
    exact ⟨_, _, by kernel_rfl, e3 l_d l_a l_b l_k⟩
  · cases h
abbrev Γ49 : List (Nat × Ctr) := (3, s3) :: Γ48
theorem G49 : Sound Tryd.prog GLv Γ49 := G48.cons m3

end Go.Proofs.YtmaiggbljfaadaaDoor
