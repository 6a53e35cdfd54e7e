/- Contracts of the program's functions, by the evaluator. -/
import Derived.Test.YtigmgpblnoecpaaDoorC1
import Derived.Test.YtigmgpblnoecpaaDoorNumH
namespace Go.Proofs.YtigmgpblnoecpaaDoor
open Go.Ev
set_option linter.unusedVariables false
set_option linter.unusedSimpArgs false
set_option maxRecDepth 100000

-- impl.rotate
def s124 : Ctr := fun
  | [.agg [.val (.int .i64 p_xa), .val (.int .i64 p_xb), .val (.int .i64 p_xk), .val (.int .i64 p_ya), .val (.int .i64 p_yb), .val (.int .i64 p_yk)], .val (.int .i64 t)] => some (inB t 0 7 && okP (⟨(⟨p_xa, p_xb, p_xk⟩ : N3), (⟨p_ya, p_yb, p_yk⟩ : N3)⟩ : P2), (turnF t (⟨(⟨p_xa, p_xb, p_xk⟩ : N3), (⟨p_ya, p_yb, p_yk⟩ : N3)⟩ : P2)).av)
  | _ => none

theorem e124 (p_xa : Int) (p_xb : Int) (p_xk : Int) (p_ya : Int) (p_yb : Int) (p_yk : Int) (t : Int) (hp : (inB t 0 7 && okP (⟨(⟨p_xa, p_xb, p_xk⟩ : N3), (⟨p_ya, p_yb, p_yk⟩ : N3)⟩ : P2)) = true) : evN Tryd.prog GLv Γ48 (0) []  Tryd.f124 [.agg [.val (.int .i64 p_xa), .val (.int .i64 p_xb), .val (.int .i64 p_xk), .val (.int .i64 p_ya), .val (.int .i64 p_yb), .val (.int .i64 p_yk)], .val (.int .i64 t)] = some ((turnF t (⟨(⟨p_xa, p_xb, p_xk⟩ : N3), (⟨p_ya, p_yb, p_yk⟩ : N3)⟩ : P2)).av) := by
  simp only [Bool.and_eq_true, inB_iff] at hp
  obtain ⟨⟨h0, h7⟩, hq⟩ := hp
  have ho := okP_iff.1 hq
  obtain ⟨a1, a2, a3, _⟩ := turn_pre ho.1 ho.2
  simp only at a1 a2 a3
  have ht : t = 0 ∨ t = 1 ∨ t = 2 ∨ t = 3 ∨ t = 4 ∨ t = 5 ∨ t = 6 ∨ t = 7 := by omega
  clear h0 h7
  rcases ht with rfl | rfl | rfl | rfl | rfl | rfl | rfl | rfl
  · refine (show _ = some (quartI 0 (⟨(⟨p_xa, p_xb, p_xk⟩ : N3), (⟨p_ya, p_yb, p_yk⟩ : N3)⟩ : P2)).av from by kernel_rfl).trans ?_
    exact congrArg (fun z : P2 => some z.av) ((turnI hq 0 0 (by decide)).1 rfl)
  · refine (show _ = cond (pk (⟨p_xa, p_xb, p_xk⟩ : N3) (⟨p_ya, p_yb, p_yk⟩ : N3)) (cond (pkm (subF (⟨p_xa, p_xb, p_xk⟩ : N3) (⟨p_ya, p_yb, p_yk⟩ : N3)) hN) (cond (pk (⟨p_xa, p_xb, p_xk⟩ : N3) (⟨p_ya, p_yb, p_yk⟩ : N3)) (cond (pkm (addF (⟨p_xa, p_xb, p_xk⟩ : N3) (⟨p_ya, p_yb, p_yk⟩ : N3)) hN) (some (quartI 0 (rot45 (⟨(⟨p_xa, p_xb, p_xk⟩ : N3), (⟨p_ya, p_yb, p_yk⟩ : N3)⟩ : P2))).av) none) none) none) none from by kernel_rfl).trans ?_
    rw [a1, a2, a3]
    exact congrArg (fun z : P2 => some z.av) ((turnI hq 1 0 (by decide)).2 rfl)
  · refine (show _ = some (quartI 1 (⟨(⟨p_xa, p_xb, p_xk⟩ : N3), (⟨p_ya, p_yb, p_yk⟩ : N3)⟩ : P2)).av from by kernel_rfl).trans ?_
    exact congrArg (fun z : P2 => some z.av) ((turnI hq 2 1 (by decide)).1 rfl)
  · refine (show _ = cond (pk (⟨p_xa, p_xb, p_xk⟩ : N3) (⟨p_ya, p_yb, p_yk⟩ : N3)) (cond (pkm (subF (⟨p_xa, p_xb, p_xk⟩ : N3) (⟨p_ya, p_yb, p_yk⟩ : N3)) hN) (cond (pk (⟨p_xa, p_xb, p_xk⟩ : N3) (⟨p_ya, p_yb, p_yk⟩ : N3)) (cond (pkm (addF (⟨p_xa, p_xb, p_xk⟩ : N3) (⟨p_ya, p_yb, p_yk⟩ : N3)) hN) (some (quartI 1 (rot45 (⟨(⟨p_xa, p_xb, p_xk⟩ : N3), (⟨p_ya, p_yb, p_yk⟩ : N3)⟩ : P2))).av) none) none) none) none from by kernel_rfl).trans ?_
    rw [a1, a2, a3]
    exact congrArg (fun z : P2 => some z.av) ((turnI hq 3 1 (by decide)).2 rfl)
  · refine (show _ = some (quartI 2 (⟨(⟨p_xa, p_xb, p_xk⟩ : N3), (⟨p_ya, p_yb, p_yk⟩ : N3)⟩ : P2)).av from by kernel_rfl).trans ?_
    exact congrArg (fun z : P2 => some z.av) ((turnI hq 4 2 (by decide)).1 rfl)
  · refine (show _ = cond (pk (⟨p_xa, p_xb, p_xk⟩ : N3) (⟨p_ya, p_yb, p_yk⟩ : N3)) (cond (pkm (subF (⟨p_xa, p_xb, p_xk⟩ : N3) (⟨p_ya, p_yb, p_yk⟩ : N3)) hN) (cond (pk (⟨p_xa, p_xb, p_xk⟩ : N3) (⟨p_ya, p_yb, p_yk⟩ : N3)) (cond (pkm (addF (⟨p_xa, p_xb, p_xk⟩ : N3) (⟨p_ya, p_yb, p_yk⟩ : N3)) hN) (some (quartI 2 (rot45 (⟨(⟨p_xa, p_xb, p_xk⟩ : N3), (⟨p_ya, p_yb, p_yk⟩ : N3)⟩ : P2))).av) none) none) none) none from by kernel_rfl).trans ?_
    rw [a1, a2, a3]
    exact congrArg (fun z : P2 => some z.av) ((turnI hq 5 2 (by decide)).2 rfl)
  · refine (show _ = some (quartI 3 (⟨(⟨p_xa, p_xb, p_xk⟩ : N3), (⟨p_ya, p_yb, p_yk⟩ : N3)⟩ : P2)).av from by kernel_rfl).trans ?_
    exact congrArg (fun z : P2 => some z.av) ((turnI hq 6 3 (by decide)).1 rfl)
  · refine (show _ = cond (pk (⟨p_xa, p_xb, p_xk⟩ : N3) (⟨p_ya, p_yb, p_yk⟩ : N3)) (cond (pkm (subF (⟨p_xa, p_xb, p_xk⟩ : N3) (⟨p_ya, p_yb, p_yk⟩ : N3)) hN) (cond (pk (⟨p_xa, p_xb, p_xk⟩ : N3) (⟨p_ya, p_yb, p_yk⟩ : N3)) (cond (pkm (addF (⟨p_xa, p_xb, p_xk⟩ : N3) (⟨p_ya, p_yb, p_yk⟩ : N3)) hN) (some (quartI 3 (rot45 (⟨(⟨p_xa, p_xb, p_xk⟩ : N3), (⟨p_ya, p_yb, p_yk⟩ : N3)⟩ : P2))).av) none) none) none) none from by kernel_rfl).trans ?_
    rw [a1, a2, a3]
    exact congrArg (fun z : P2 => some z.av) ((turnI hq 7 3 (by decide)).2 rfl)
theorem m124 : Meets Tryd.prog GLv 124 s124 := by
  refine meetsN mix0 glv G48 Tryd.func124 (by kernel_rfl) (by kernel_rfl) s124 fun args x h => ?_
  unfold s124 at h
  split at h
  · rename_i p_xa p_xb p_xk p_ya p_yb p_yk t
    simp only [Option.some.injEq, Prod.mk.injEq] at h
    obtain ⟨hp, rfl⟩ := h
    exact ⟨_, _, by kernel_rfl, e124 p_xa p_xb p_xk p_ya p_yb p_yk t hp⟩
  · cases h
abbrev Γ49 : List (Nat × Ctr) := (124, s124) :: Γ48
theorem G49 : Sound Tryd.prog GLv Γ49 := G48.cons m124

-- spec.l04Turned
def s106 : Ctr := fun
  | [.val (.int .i64 t), .val (.bool f), .agg [.val (.int .i64 p_xa), .val (.int .i64 p_xb), .val (.int .i64 p_xk), .val (.int .i64 p_ya), .val (.int .i64 p_yb), .val (.int .i64 p_yk)]] => some (inB t 0 7 && okP (⟨(⟨p_xa, p_xb, p_xk⟩ : N3), (⟨p_ya, p_yb, p_yk⟩ : N3)⟩ : P2), (turnF t (flipP f (⟨(⟨p_xa, p_xb, p_xk⟩ : N3), (⟨p_ya, p_yb, p_yk⟩ : N3)⟩ : P2))).av)
  | _ => none

theorem e106 (t : Int) (f : Bool) (p_xa : Int) (p_xb : Int) (p_xk : Int) (p_ya : Int) (p_yb : Int) (p_yk : Int) (hp : (inB t 0 7 && okP (⟨(⟨p_xa, p_xb, p_xk⟩ : N3), (⟨p_ya, p_yb, p_yk⟩ : N3)⟩ : P2)) = true) : evN Tryd.prog GLv Γ49 (5) [true, true, false, false, false, true, true, true]  Tryd.f106 [.val (.int .i64 t), .val (.bool f), .agg [.val (.int .i64 p_xa), .val (.int .i64 p_xb), .val (.int .i64 p_xk), .val (.int .i64 p_ya), .val (.int .i64 p_yb), .val (.int .i64 p_yk)]] = some ((turnF t (flipP f (⟨(⟨p_xa, p_xb, p_xk⟩ : N3), (⟨p_ya, p_yb, p_yk⟩ : N3)⟩ : P2))).av) := by
  cases f with
  | true =>
    simp only [Bool.and_eq_true, inB_iff] at hp
    obtain ⟨⟨h0, h7⟩, hq⟩ := hp
    have ho := okP_iff.1 hq
    obtain ⟨a1, a2, a3, _⟩ := turn_pre ho.1 ho.2
    simp only at a1 a2 a3
    have ht : t = 0 ∨ t = 1 ∨ t = 2 ∨ t = 3 ∨ t = 4 ∨ t = 5 ∨ t = 6 ∨ t = 7 := by omega
    clear h0 h7
    rcases ht with rfl | rfl | rfl | rfl | rfl | rfl | rfl | rfl
    · refine (show _ = some ((quartS 0 (flipP true (⟨(⟨p_xa, p_xb, p_xk⟩ : N3), (⟨p_ya, p_yb, p_yk⟩ : N3)⟩ : P2)))).av from by kernel_rfl).trans ?_
      exact congrArg (fun z : P2 => some z.av) ((turnS (flip_ok hq true) 0 0).1 rfl)
    · refine (show _ = cond (pk (quartS 0 (flipP true (⟨(⟨p_xa, p_xb, p_xk⟩ : N3), (⟨p_ya, p_yb, p_yk⟩ : N3)⟩ : P2))).x (quartS 0 (flipP true (⟨(⟨p_xa, p_xb, p_xk⟩ : N3), (⟨p_ya, p_yb, p_yk⟩ : N3)⟩ : P2))).y) (cond (pkm (subF (quartS 0 (flipP true (⟨(⟨p_xa, p_xb, p_xk⟩ : N3), (⟨p_ya, p_yb, p_yk⟩ : N3)⟩ : P2))).x (quartS 0 (flipP true (⟨(⟨p_xa, p_xb, p_xk⟩ : N3), (⟨p_ya, p_yb, p_yk⟩ : N3)⟩ : P2))).y) hN) (cond (pk (quartS 0 (flipP true (⟨(⟨p_xa, p_xb, p_xk⟩ : N3), (⟨p_ya, p_yb, p_yk⟩ : N3)⟩ : P2))).x (quartS 0 (flipP true (⟨(⟨p_xa, p_xb, p_xk⟩ : N3), (⟨p_ya, p_yb, p_yk⟩ : N3)⟩ : P2))).y) (cond (pkm (addF (quartS 0 (flipP true (⟨(⟨p_xa, p_xb, p_xk⟩ : N3), (⟨p_ya, p_yb, p_yk⟩ : N3)⟩ : P2))).x (quartS 0 (flipP true (⟨(⟨p_xa, p_xb, p_xk⟩ : N3), (⟨p_ya, p_yb, p_yk⟩ : N3)⟩ : P2))).y) hN) (some (rot45 (quartS 0 (flipP true (⟨(⟨p_xa, p_xb, p_xk⟩ : N3), (⟨p_ya, p_yb, p_yk⟩ : N3)⟩ : P2)))).av) none) none) none) none from by kernel_rfl).trans ?_
      obtain ⟨c1, c2, c3⟩ := quartS_ok (flip_ok hq true) 0
      rw [c1, c2, c3]
      exact congrArg (fun z : P2 => some z.av) ((turnS (flip_ok hq true) 1 0).2 rfl)
    · refine (show _ = some ((quartS 1 (flipP true (⟨(⟨p_xa, p_xb, p_xk⟩ : N3), (⟨p_ya, p_yb, p_yk⟩ : N3)⟩ : P2)))).av from by kernel_rfl).trans ?_
      exact congrArg (fun z : P2 => some z.av) ((turnS (flip_ok hq true) 2 1).1 rfl)
    · refine (show _ = cond (pk (quartS 1 (flipP true (⟨(⟨p_xa, p_xb, p_xk⟩ : N3), (⟨p_ya, p_yb, p_yk⟩ : N3)⟩ : P2))).x (quartS 1 (flipP true (⟨(⟨p_xa, p_xb, p_xk⟩ : N3), (⟨p_ya, p_yb, p_yk⟩ : N3)⟩ : P2))).y) (cond (pkm (subF (quartS 1 (flipP true (⟨(⟨p_xa, p_xb, p_xk⟩ : N3), (⟨p_ya, p_yb, p_yk⟩ : N3)⟩ : P2))).x (quartS 1 (flipP true (⟨(⟨p_xa, p_xb, p_xk⟩ : N3), (⟨p_ya, p_yb, p_yk⟩ : N3)⟩ : P2))).y) hN) (cond (pk (quartS 1 (flipP true (⟨(⟨p_xa, p_xb, p_xk⟩ : N3), (⟨p_ya, p_yb, p_yk⟩ : N3)⟩ : P2))).x (quartS 1 (flipP true (⟨(⟨p_xa, p_xb, p_xk⟩ : N3), (⟨p_ya, p_yb, p_yk⟩ : N3)⟩ : P2))).y) (cond (pkm (addF (quartS 1 (flipP true (⟨(⟨p_xa, p_xb, p_xk⟩ : N3), (⟨p_ya, p_yb, p_yk⟩ : N3)⟩ : P2))).x (quartS 1 (flipP true (⟨(⟨p_xa, p_xb, p_xk⟩ : N3), (⟨p_ya, p_yb, p_yk⟩ : N3)⟩ : P2))).y) hN) (some (rot45 (quartS 1 (flipP true (⟨(⟨p_xa, p_xb, p_xk⟩ : N3), (⟨p_ya, p_yb, p_yk⟩ : N3)⟩ : P2)))).av) none) none) none) none from by kernel_rfl).trans ?_
      obtain ⟨c1, c2, c3⟩ := quartS_ok (flip_ok hq true) 1
      rw [c1, c2, c3]
      exact congrArg (fun z : P2 => some z.av) ((turnS (flip_ok hq true) 3 1).2 rfl)
    · refine (show _ = some ((quartS 2 (flipP true (⟨(⟨p_xa, p_xb, p_xk⟩ : N3), (⟨p_ya, p_yb, p_yk⟩ : N3)⟩ : P2)))).av from by kernel_rfl).trans ?_
      exact congrArg (fun z : P2 => some z.av) ((turnS (flip_ok hq true) 4 2).1 rfl)
    · refine (show _ = cond (pk (quartS 2 (flipP true (⟨(⟨p_xa, p_xb, p_xk⟩ : N3), (⟨p_ya, p_yb, p_yk⟩ : N3)⟩ : P2))).x (quartS 2 (flipP true (⟨(⟨p_xa, p_xb, p_xk⟩ : N3), (⟨p_ya, p_yb, p_yk⟩ : N3)⟩ : P2))).y) (cond (pkm (subF (quartS 2 (flipP true (⟨(⟨p_xa, p_xb, p_xk⟩ : N3), (⟨p_ya, p_yb, p_yk⟩ : N3)⟩ : P2))).x (quartS 2 (flipP true (⟨(⟨p_xa, p_xb, p_xk⟩ : N3), (⟨p_ya, p_yb, p_yk⟩ : N3)⟩ : P2))).y) hN) (cond (pk (quartS 2 (flipP true (⟨(⟨p_xa, p_xb, p_xk⟩ : N3), (⟨p_ya, p_yb, p_yk⟩ : N3)⟩ : P2))).x (quartS 2 (flipP true (⟨(⟨p_xa, p_xb, p_xk⟩ : N3), (⟨p_ya, p_yb, p_yk⟩ : N3)⟩ : P2))).y) (cond (pkm (addF (quartS 2 (flipP true (⟨(⟨p_xa, p_xb, p_xk⟩ : N3), (⟨p_ya, p_yb, p_yk⟩ : N3)⟩ : P2))).x (quartS 2 (flipP true (⟨(⟨p_xa, p_xb, p_xk⟩ : N3), (⟨p_ya, p_yb, p_yk⟩ : N3)⟩ : P2))).y) hN) (some (rot45 (quartS 2 (flipP true (⟨(⟨p_xa, p_xb, p_xk⟩ : N3), (⟨p_ya, p_yb, p_yk⟩ : N3)⟩ : P2)))).av) none) none) none) none from by kernel_rfl).trans ?_
      obtain ⟨c1, c2, c3⟩ := quartS_ok (flip_ok hq true) 2
      rw [c1, c2, c3]
      exact congrArg (fun z : P2 => some z.av) ((turnS (flip_ok hq true) 5 2).2 rfl)
    · refine (show _ = some ((quartS 3 (flipP true (⟨(⟨p_xa, p_xb, p_xk⟩ : N3), (⟨p_ya, p_yb, p_yk⟩ : N3)⟩ : P2)))).av from by kernel_rfl).trans ?_
      exact congrArg (fun z : P2 => some z.av) ((turnS (flip_ok hq true) 6 3).1 rfl)
    · refine (show _ = cond (pk (quartS 3 (flipP true (⟨(⟨p_xa, p_xb, p_xk⟩ : N3), (⟨p_ya, p_yb, p_yk⟩ : N3)⟩ : P2))).x (quartS 3 (flipP true (⟨(⟨p_xa, p_xb, p_xk⟩ : N3), (⟨p_ya, p_yb, p_yk⟩ : N3)⟩ : P2))).y) (cond (pkm (subF (quartS 3 (flipP true (⟨(⟨p_xa, p_xb, p_xk⟩ : N3), (⟨p_ya, p_yb, p_yk⟩ : N3)⟩ : P2))).x (quartS 3 (flipP true (⟨(⟨p_xa, p_xb, p_xk⟩ : N3), (⟨p_ya, p_yb, p_yk⟩ : N3)⟩ : P2))).y) hN) (cond (pk (quartS 3 (flipP true (⟨(⟨p_xa, p_xb, p_xk⟩ : N3), (⟨p_ya, p_yb, p_yk⟩ : N3)⟩ : P2))).x (quartS 3 (flipP true (⟨(⟨p_xa, p_xb, p_xk⟩ : N3), (⟨p_ya, p_yb, p_yk⟩ : N3)⟩ : P2))).y) (cond (pkm (addF (quartS 3 (flipP true (⟨(⟨p_xa, p_xb, p_xk⟩ : N3), (⟨p_ya, p_yb, p_yk⟩ : N3)⟩ : P2))).x (quartS 3 (flipP true (⟨(⟨p_xa, p_xb, p_xk⟩ : N3), (⟨p_ya, p_yb, p_yk⟩ : N3)⟩ : P2))).y) hN) (some (rot45 (quartS 3 (flipP true (⟨(⟨p_xa, p_xb, p_xk⟩ : N3), (⟨p_ya, p_yb, p_yk⟩ : N3)⟩ : P2)))).av) none) none) none) none from by kernel_rfl).trans ?_
      obtain ⟨c1, c2, c3⟩ := quartS_ok (flip_ok hq true) 3
      rw [c1, c2, c3]
      exact congrArg (fun z : P2 => some z.av) ((turnS (flip_ok hq true) 7 3).2 rfl)
  | false =>
    simp only [Bool.and_eq_true, inB_iff] at hp
    obtain ⟨⟨h0, h7⟩, hq⟩ := hp
    have ho := okP_iff.1 hq
    obtain ⟨a1, a2, a3, _⟩ := turn_pre ho.1 ho.2
    simp only at a1 a2 a3
    have ht : t = 0 ∨ t = 1 ∨ t = 2 ∨ t = 3 ∨ t = 4 ∨ t = 5 ∨ t = 6 ∨ t = 7 := by omega
    clear h0 h7
    rcases ht with rfl | rfl | rfl | rfl | rfl | rfl | rfl | rfl
    · refine (show _ = some ((quartS 0 (flipP false (⟨(⟨p_xa, p_xb, p_xk⟩ : N3), (⟨p_ya, p_yb, p_yk⟩ : N3)⟩ : P2)))).av from by kernel_rfl).trans ?_
      exact congrArg (fun z : P2 => some z.av) ((turnS (flip_ok hq false) 0 0).1 rfl)
    · refine (show _ = cond (pk (quartS 0 (flipP false (⟨(⟨p_xa, p_xb, p_xk⟩ : N3), (⟨p_ya, p_yb, p_yk⟩ : N3)⟩ : P2))).x (quartS 0 (flipP false (⟨(⟨p_xa, p_xb, p_xk⟩ : N3), (⟨p_ya, p_yb, p_yk⟩ : N3)⟩ : P2))).y) (cond (pkm (subF (quartS 0 (flipP false (⟨(⟨p_xa, p_xb, p_xk⟩ : N3), (⟨p_ya, p_yb, p_yk⟩ : N3)⟩ : P2))).x (quartS 0 (flipP false (⟨(⟨p_xa, p_xb, p_xk⟩ : N3), (⟨p_ya, p_yb, p_yk⟩ : N3)⟩ : P2))).y) hN) (cond (pk (quartS 0 (flipP false (⟨(⟨p_xa, p_xb, p_xk⟩ : N3), (⟨p_ya, p_yb, p_yk⟩ : N3)⟩ : P2))).x (quartS 0 (flipP false (⟨(⟨p_xa, p_xb, p_xk⟩ : N3), (⟨p_ya, p_yb, p_yk⟩ : N3)⟩ : P2))).y) (cond (pkm (addF (quartS 0 (flipP false (⟨(⟨p_xa, p_xb, p_xk⟩ : N3), (⟨p_ya, p_yb, p_yk⟩ : N3)⟩ : P2))).x (quartS 0 (flipP false (⟨(⟨p_xa, p_xb, p_xk⟩ : N3), (⟨p_ya, p_yb, p_yk⟩ : N3)⟩ : P2))).y) hN) (some (rot45 (quartS 0 (flipP false (⟨(⟨p_xa, p_xb, p_xk⟩ : N3), (⟨p_ya, p_yb, p_yk⟩ : N3)⟩ : P2)))).av) none) none) none) none from by kernel_rfl).trans ?_
      obtain ⟨c1, c2, c3⟩ := quartS_ok (flip_ok hq false) 0
      rw [c1, c2, c3]
      exact congrArg (fun z : P2 => some z.av) ((turnS (flip_ok hq false) 1 0).2 rfl)
    · refine (show _ = some ((quartS 1 (flipP false (⟨(⟨p_xa, p_xb, p_xk⟩ : N3), (⟨p_ya, p_yb, p_yk⟩ : N3)⟩ : P2)))).av from by kernel_rfl).trans ?_
      exact congrArg (fun z : P2 => some z.av) ((turnS (flip_ok hq false) 2 1).1 rfl)
    · refine (show _ = cond (pk (quartS 1 (flipP false (⟨(⟨p_xa, p_xb, p_xk⟩ : N3), (⟨p_ya, p_yb, p_yk⟩ : N3)⟩ : P2))).x (quartS 1 (flipP false (⟨(⟨p_xa, p_xb, p_xk⟩ : N3), (⟨p_ya, p_yb, p_yk⟩ : N3)⟩ : P2))).y) (cond (pkm (subF (quartS 1 (flipP false (⟨(⟨p_xa, p_xb, p_xk⟩ : N3), (⟨p_ya, p_yb, p_yk⟩ : N3)⟩ : P2))).x (quartS 1 (flipP false (⟨(⟨p_xa, p_xb, p_xk⟩ : N3), (⟨p_ya, p_yb, p_yk⟩ : N3)⟩ : P2))).y) hN) (cond (pk (quartS 1 (flipP false (⟨(⟨p_xa, p_xb, p_xk⟩ : N3), (⟨p_ya, p_yb, p_yk⟩ : N3)⟩ : P2))).x (quartS 1 (flipP false (⟨(⟨p_xa, p_xb, p_xk⟩ : N3), (⟨p_ya, p_yb, p_yk⟩ : N3)⟩ : P2))).y) (cond (pkm (addF (quartS 1 (flipP false (⟨(⟨p_xa, p_xb, p_xk⟩ : N3), (⟨p_ya, p_yb, p_yk⟩ : N3)⟩ : P2))).x (quartS 1 (flipP false (⟨(⟨p_xa, p_xb, p_xk⟩ : N3), (⟨p_ya, p_yb, p_yk⟩ : N3)⟩ : P2))).y) hN) (some (rot45 (quartS 1 (flipP false (⟨(⟨p_xa, p_xb, p_xk⟩ : N3), (⟨p_ya, p_yb, p_yk⟩ : N3)⟩ : P2)))).av) none) none) none) none from by kernel_rfl).trans ?_
      obtain ⟨c1, c2, c3⟩ := quartS_ok (flip_ok hq false) 1
      rw [c1, c2, c3]
      exact congrArg (fun z : P2 => some z.av) ((turnS (flip_ok hq false) 3 1).2 rfl)
    · refine (show _ = some ((quartS 2 (flipP false (⟨(⟨p_xa, p_xb, p_xk⟩ : N3), (⟨p_ya, p_yb, p_yk⟩ : N3)⟩ : P2)))).av from by kernel_rfl).trans ?_
      exact congrArg (fun z : P2 => some z.av) ((turnS (flip_ok hq false) 4 2).1 rfl)
    · refine (show _ = cond (pk (quartS 2 (flipP false (⟨(⟨p_xa, p_xb, p_xk⟩ : N3), (⟨p_ya, p_yb, p_yk⟩ : N3)⟩ : P2))).x (quartS 2 (flipP false (⟨(⟨p_xa, p_xb, p_xk⟩ : N3), (⟨p_ya, p_yb, p_yk⟩ : N3)⟩ : P2))).y) (cond (pkm (subF (quartS 2 (flipP false (⟨(⟨p_xa, p_xb, p_xk⟩ : N3), (⟨p_ya, p_yb, p_yk⟩ : N3)⟩ : P2))).x (quartS 2 (flipP false (⟨(⟨p_xa, p_xb, p_xk⟩ : N3), (⟨p_ya, p_yb, p_yk⟩ : N3)⟩ : P2))).y) hN) (cond (pk (quartS 2 (flipP false (⟨(⟨p_xa, p_xb, p_xk⟩ : N3), (⟨p_ya, p_yb, p_yk⟩ : N3)⟩ : P2))).x (quartS 2 (flipP false (⟨(⟨p_xa, p_xb, p_xk⟩ : N3), (⟨p_ya, p_yb, p_yk⟩ : N3)⟩ : P2))).y) (cond (pkm (addF (quartS 2 (flipP false (⟨(⟨p_xa, p_xb, p_xk⟩ : N3), (⟨p_ya, p_yb, p_yk⟩ : N3)⟩ : P2))).x (quartS 2 (flipP false (⟨(⟨p_xa, p_xb, p_xk⟩ : N3), (⟨p_ya, p_yb, p_yk⟩ : N3)⟩ : P2))).y) hN) (some (rot45 (quartS 2 (flipP false (⟨(⟨p_xa, p_xb, p_xk⟩ : N3), (⟨p_ya, p_yb, p_yk⟩ : N3)⟩ : P2)))).av) none) none) none) none from by kernel_rfl).trans ?_
      obtain ⟨c1, c2, c3⟩ := quartS_ok (flip_ok hq false) 2
      rw [c1, c2, c3]
      exact congrArg (fun z : P2 => some z.av) ((turnS (flip_ok hq false) 5 2).2 rfl)
    · refine (show _ = some ((quartS 3 (flipP false (⟨(⟨p_xa, p_xb, p_xk⟩ : N3), (⟨p_ya, p_yb, p_yk⟩ : N3)⟩ : P2)))).av from by kernel_rfl).trans ?_
      exact congrArg (fun z : P2 => some z.av) ((turnS (flip_ok hq false) 6 3).1 rfl)
    · refine (show _ = cond (pk (quartS 3 (flipP false (⟨(⟨p_xa, p_xb, p_xk⟩ : N3), (⟨p_ya, p_yb, p_yk⟩ : N3)⟩ : P2))).x (quartS 3 (flipP false (⟨(⟨p_xa, p_xb, p_xk⟩ : N3), (⟨p_ya, p_yb, p_yk⟩ : N3)⟩ : P2))).y) (cond (pkm (subF (quartS 3 (flipP false (⟨(⟨p_xa, p_xb, p_xk⟩ : N3), (⟨p_ya, p_yb, p_yk⟩ : N3)⟩ : P2))).x (quartS 3 (flipP false (⟨(⟨p_xa, p_xb, p_xk⟩ : N3), (⟨p_ya, p_yb, p_yk⟩ : N3)⟩ : P2))).y) hN) (cond (pk (quartS 3 (flipP false (⟨(⟨p_xa, p_xb, p_xk⟩ : N3), (⟨p_ya, p_yb, p_yk⟩ : N3)⟩ : P2))).x (quartS 3 (flipP false (⟨(⟨p_xa, p_xb, p_xk⟩ : N3), (⟨p_ya, p_yb, p_yk⟩ : N3)⟩ : P2))).y) (cond (pkm (addF (quartS 3 (flipP false (⟨(⟨p_xa, p_xb, p_xk⟩ : N3), (⟨p_ya, p_yb, p_yk⟩ : N3)⟩ : P2))).x (quartS 3 (flipP false (⟨(⟨p_xa, p_xb, p_xk⟩ : N3), (⟨p_ya, p_yb, p_yk⟩ : N3)⟩ : P2))).y) hN) (some (rot45 (quartS 3 (flipP false (⟨(⟨p_xa, p_xb, p_xk⟩ : N3), (⟨p_ya, p_yb, p_yk⟩ : N3)⟩ : P2)))).av) none) none) none) none from by kernel_rfl).trans ?_
      obtain ⟨c1, c2, c3⟩ := quartS_ok (flip_ok hq false) 3
      rw [c1, c2, c3]
      exact congrArg (fun z : P2 => some z.av) ((turnS (flip_ok hq false) 7 3).2 rfl)
theorem m106 : Meets Tryd.prog GLv 106 s106 := by
  refine meetsN mix0 glv G49 Tryd.func106 (by kernel_rfl) (by kernel_rfl) s106 fun args x h => ?_
  unfold s106 at h
  split at h
  · rename_i t f p_xa p_xb p_xk p_ya p_yb p_yk
    simp only [Option.some.injEq, Prod.mk.injEq] at h
    obtain ⟨hp, rfl⟩ := h
    exact ⟨_, _, by kernel_rfl, e106 t f p_xa p_xb p_xk p_ya p_yb p_yk hp⟩
  · cases h
abbrev Γ50 : List (Nat × Ctr) := (106, s106) :: Γ49
theorem G50 : Sound Tryd.prog GLv Γ50 := G49.cons m106

-- (impl.Motion).linear
def s109 : Ctr := fun
  | [.agg [.val (.int .i64 m_t), .val (.bool m_f), .val (.int .i64 m_xa), .val (.int .i64 m_xb), .val (.int .i64 m_xk), .val (.int .i64 m_ya), .val (.int .i64 m_yb), .val (.int .i64 m_yk)], .agg [.val (.int .i64 p_xa), .val (.int .i64 p_xb), .val (.int .i64 p_xk), .val (.int .i64 p_ya), .val (.int .i64 p_yb), .val (.int .i64 p_yk)]] => some (inB m_t 0 7 && okP (⟨(⟨p_xa, p_xb, p_xk⟩ : N3), (⟨p_ya, p_yb, p_yk⟩ : N3)⟩ : P2), (turnF m_t (flipP m_f (⟨(⟨p_xa, p_xb, p_xk⟩ : N3), (⟨p_ya, p_yb, p_yk⟩ : N3)⟩ : P2))).av)
  | _ => none

theorem e109 (m_t : Int) (m_f : Bool) (m_xa : Int) (m_xb : Int) (m_xk : Int) (m_ya : Int) (m_yb : Int) (m_yk : Int) (p_xa : Int) (p_xb : Int) (p_xk : Int) (p_ya : Int) (p_yb : Int) (p_yk : Int) (hp : (inB m_t 0 7 && okP (⟨(⟨p_xa, p_xb, p_xk⟩ : N3), (⟨p_ya, p_yb, p_yk⟩ : N3)⟩ : P2)) = true) : evN Tryd.prog GLv Γ50 (0) []  Tryd.f109 [.agg [.val (.int .i64 m_t), .val (.bool m_f), .val (.int .i64 m_xa), .val (.int .i64 m_xb), .val (.int .i64 m_xk), .val (.int .i64 m_ya), .val (.int .i64 m_yb), .val (.int .i64 m_yk)], .agg [.val (.int .i64 p_xa), .val (.int .i64 p_xb), .val (.int .i64 p_xk), .val (.int .i64 p_ya), .val (.int .i64 p_yb), .val (.int .i64 p_yk)]] = some ((turnF m_t (flipP m_f (⟨(⟨p_xa, p_xb, p_xk⟩ : N3), (⟨p_ya, p_yb, p_yk⟩ : N3)⟩ : P2))).av) := by
  have hq := (Bool.and_eq_true _ _ ▸ hp)
  have h1 : (inB m_t 0 7 && okP (flipP m_f (⟨(⟨p_xa, p_xb, p_xk⟩ : N3), (⟨p_ya, p_yb, p_yk⟩ : N3)⟩ : P2))) = true := by rw [hq.1, flip_ok hq.2 m_f]; rfl
  cases m_f with
  | true =>
    refine (show _ = cond (inB m_t 0 7 && okP (flipP true (⟨(⟨p_xa, p_xb, p_xk⟩ : N3), (⟨p_ya, p_yb, p_yk⟩ : N3)⟩ : P2))) (some (turnF m_t (flipP true (⟨(⟨p_xa, p_xb, p_xk⟩ : N3), (⟨p_ya, p_yb, p_yk⟩ : N3)⟩ : P2))).av) none from by kernel_rfl).trans ?_
    rw [h1]
    rfl
  | false =>
    refine (show _ = cond (inB m_t 0 7 && okP (flipP false (⟨(⟨p_xa, p_xb, p_xk⟩ : N3), (⟨p_ya, p_yb, p_yk⟩ : N3)⟩ : P2))) (some (turnF m_t (flipP false (⟨(⟨p_xa, p_xb, p_xk⟩ : N3), (⟨p_ya, p_yb, p_yk⟩ : N3)⟩ : P2))).av) none from by kernel_rfl).trans ?_
    rw [h1]
    rfl
theorem m109 : Meets Tryd.prog GLv 109 s109 := by
  refine meetsN mix0 glv G50 Tryd.func109 (by kernel_rfl) (by kernel_rfl) s109 fun args x h => ?_
  unfold s109 at h
  split at h
  · rename_i m_t m_f m_xa m_xb m_xk m_ya m_yb m_yk p_xa p_xb p_xk p_ya p_yb p_yk
    simp only [Option.some.injEq, Prod.mk.injEq] at h
    obtain ⟨hp, rfl⟩ := h
    exact ⟨_, _, by kernel_rfl, e109 m_t m_f m_xa m_xb m_xk m_ya m_yb m_yk p_xa p_xb p_xk p_ya p_yb p_yk hp⟩
  · cases h
abbrev Γ51 : List (Nat × Ctr) := (109, s109) :: Γ50
theorem G51 : Sound Tryd.prog GLv Γ51 := G50.cons m109

-- (impl.Motion).shift
def s104 : Ctr := fun
  | [.agg [.val (.int .i64 m_t), .val (.bool m_f), .val (.int .i64 m_xa), .val (.int .i64 m_xb), .val (.int .i64 m_xk), .val (.int .i64 m_ya), .val (.int .i64 m_yb), .val (.int .i64 m_yk)]] => some (true, (⟨⟨m_xa, m_xb, m_xk⟩, ⟨m_ya, m_yb, m_yk⟩⟩ : P2).av)
  | _ => none

theorem e104 (m_t : Int) (m_f : Bool) (m_xa : Int) (m_xb : Int) (m_xk : Int) (m_ya : Int) (m_yb : Int) (m_yk : Int) : evN Tryd.prog GLv Γ51 (0) []  Tryd.f104 [.agg [.val (.int .i64 m_t), .val (.bool m_f), .val (.int .i64 m_xa), .val (.int .i64 m_xb), .val (.int .i64 m_xk), .val (.int .i64 m_ya), .val (.int .i64 m_yb), .val (.int .i64 m_yk)]] = some ((⟨⟨m_xa, m_xb, m_xk⟩, ⟨m_ya, m_yb, m_yk⟩⟩ : P2).av) := by
  kernel_rfl
theorem m104 : Meets Tryd.prog GLv 104 s104 := by
  refine meetsN mix0 glv G51 Tryd.func104 (by kernel_rfl) (by kernel_rfl) s104 fun args x h => ?_
  unfold s104 at h
  split at h
  · rename_i m_t m_f m_xa m_xb m_xk m_ya m_yb m_yk
    simp only [Option.some.injEq, Prod.mk.injEq] at h
    obtain ⟨hp, rfl⟩ := h
    exact ⟨_, _, by kernel_rfl, e104 m_t m_f m_xa m_xb m_xk m_ya m_yb m_yk⟩
  · cases h
abbrev Γ52 : List (Nat × Ctr) := (104, s104) :: Γ51
theorem G52 : Sound Tryd.prog GLv Γ52 := G51.cons m104

-- spec.l04Of
def s70 : Ctr := fun
  | [.agg [.val (.int .i64 m_t), .val (.bool m_f), .val (.int .i64 m_xa), .val (.int .i64 m_xb), .val (.int .i64 m_xk), .val (.int .i64 m_ya), .val (.int .i64 m_yb), .val (.int .i64 m_yk)]] => some (true, .agg [.val (.int .i64 m_t), .val (.bool m_f), .val (.int .i64 m_xa), .val (.int .i64 m_xb), .val (.int .i64 m_xk), .val (.int .i64 m_ya), .val (.int .i64 m_yb), .val (.int .i64 m_yk)])
  | _ => none

theorem e70 (m_t : Int) (m_f : Bool) (m_xa : Int) (m_xb : Int) (m_xk : Int) (m_ya : Int) (m_yb : Int) (m_yk : Int) : evN Tryd.prog GLv Γ52 (0) []  Tryd.f70 [.agg [.val (.int .i64 m_t), .val (.bool m_f), .val (.int .i64 m_xa), .val (.int .i64 m_xb), .val (.int .i64 m_xk), .val (.int .i64 m_ya), .val (.int .i64 m_yb), .val (.int .i64 m_yk)]] = some (.agg [.val (.int .i64 m_t), .val (.bool m_f), .val (.int .i64 m_xa), .val (.int .i64 m_xb), .val (.int .i64 m_xk), .val (.int .i64 m_ya), .val (.int .i64 m_yb), .val (.int .i64 m_yk)]) := by
  kernel_rfl
theorem m70 : Meets Tryd.prog GLv 70 s70 := by
  refine meetsN mix0 glv G52 Tryd.func70 (by kernel_rfl) (by kernel_rfl) s70 fun args x h => ?_
  unfold s70 at h
  split at h
  · rename_i m_t m_f m_xa m_xb m_xk m_ya m_yb m_yk
    simp only [Option.some.injEq, Prod.mk.injEq] at h
    obtain ⟨hp, rfl⟩ := h
    exact ⟨_, _, by kernel_rfl, e70 m_t m_f m_xa m_xb m_xk m_ya m_yb m_yk⟩
  · cases h
abbrev Γ53 : List (Nat × Ctr) := (70, s70) :: Γ52
theorem G53 : Sound Tryd.prog GLv Γ53 := G52.cons m70

-- (impl.Motion).move
def s64 : Ctr := fun
  | [.agg [.val (.int .i64 m_t), .val (.bool m_f), .val (.int .i64 m_xa), .val (.int .i64 m_xb), .val (.int .i64 m_xk), .val (.int .i64 m_ya), .val (.int .i64 m_yb), .val (.int .i64 m_yk)], .agg [.val (.int .i64 p_xa), .val (.int .i64 p_xb), .val (.int .i64 p_xk), .val (.int .i64 p_ya), .val (.int .i64 p_yb), .val (.int .i64 p_yk)]] => some (okM m_t (⟨(⟨p_xa, p_xb, p_xk⟩ : N3), (⟨p_ya, p_yb, p_yk⟩ : N3)⟩ : P2) (⟨⟨m_xa, m_xb, m_xk⟩, ⟨m_ya, m_yb, m_yk⟩⟩ : P2), (moveF m_t m_f (⟨⟨m_xa, m_xb, m_xk⟩, ⟨m_ya, m_yb, m_yk⟩⟩ : P2) (⟨(⟨p_xa, p_xb, p_xk⟩ : N3), (⟨p_ya, p_yb, p_yk⟩ : N3)⟩ : P2)).av)
  | _ => none

theorem e64 (m_t : Int) (m_f : Bool) (m_xa : Int) (m_xb : Int) (m_xk : Int) (m_ya : Int) (m_yb : Int) (m_yk : Int) (p_xa : Int) (p_xb : Int) (p_xk : Int) (p_ya : Int) (p_yb : Int) (p_yk : Int) (hp : (okM m_t (⟨(⟨p_xa, p_xb, p_xk⟩ : N3), (⟨p_ya, p_yb, p_yk⟩ : N3)⟩ : P2) (⟨⟨m_xa, m_xb, m_xk⟩, ⟨m_ya, m_yb, m_yk⟩⟩ : P2)) = true) : evN Tryd.prog GLv Γ53 (0) []  Tryd.f64 [.agg [.val (.int .i64 m_t), .val (.bool m_f), .val (.int .i64 m_xa), .val (.int .i64 m_xb), .val (.int .i64 m_xk), .val (.int .i64 m_ya), .val (.int .i64 m_yb), .val (.int .i64 m_yk)], .agg [.val (.int .i64 p_xa), .val (.int .i64 p_xb), .val (.int .i64 p_xk), .val (.int .i64 p_ya), .val (.int .i64 p_yb), .val (.int .i64 p_yk)]] = some ((moveF m_t m_f (⟨⟨m_xa, m_xb, m_xk⟩, ⟨m_ya, m_yb, m_yk⟩⟩ : P2) (⟨(⟨p_xa, p_xb, p_xk⟩ : N3), (⟨p_ya, p_yb, p_yk⟩ : N3)⟩ : P2)).av) := by
  unfold okM at hp
  simp only [Bool.and_eq_true] at hp
  obtain ⟨h1, h2, h3⟩ := hp
  obtain ⟨k1, k2, k3, _⟩ := turn_pk (flip_ok h2 m_f) h3 m_t
  refine (show _ = cond (inB m_t 0 7 && okP (⟨(⟨p_xa, p_xb, p_xk⟩ : N3), (⟨p_ya, p_yb, p_yk⟩ : N3)⟩ : P2)) (cond (pkP (turnF m_t (flipP m_f (⟨(⟨p_xa, p_xb, p_xk⟩ : N3), (⟨p_ya, p_yb, p_yk⟩ : N3)⟩ : P2))) (⟨⟨m_xa, m_xb, m_xk⟩, ⟨m_ya, m_yb, m_yk⟩⟩ : P2)) (some (moveF m_t m_f (⟨⟨m_xa, m_xb, m_xk⟩, ⟨m_ya, m_yb, m_yk⟩⟩ : P2) (⟨(⟨p_xa, p_xb, p_xk⟩ : N3), (⟨p_ya, p_yb, p_yk⟩ : N3)⟩ : P2)).av) none) none from by kernel_rfl).trans ?_
  rw [h1, h2, k3]
  rfl
theorem m64 : Meets Tryd.prog GLv 64 s64 := by
  refine meetsN mix0 glv G53 Tryd.func64 (by kernel_rfl) (by kernel_rfl) s64 fun args x h => ?_
  unfold s64 at h
  split at h
  · rename_i m_t m_f m_xa m_xb m_xk m_ya m_yb m_yk p_xa p_xb p_xk p_ya p_yb p_yk
    simp only [Option.some.injEq, Prod.mk.injEq] at h
    obtain ⟨hp, rfl⟩ := h
    exact ⟨_, _, by kernel_rfl, e64 m_t m_f m_xa m_xb m_xk m_ya m_yb m_yk p_xa p_xb p_xk p_ya p_yb p_yk hp⟩
  · cases h
abbrev Γ54 : List (Nat × Ctr) := (64, s64) :: Γ53
theorem G54 : Sound Tryd.prog GLv Γ54 := G53.cons m64

-- spec.l04Move
def s112 : Ctr := fun
  | [.agg [.val (.int .i64 m_t), .val (.bool m_f), .val (.int .i64 m_xa), .val (.int .i64 m_xb), .val (.int .i64 m_xk), .val (.int .i64 m_ya), .val (.int .i64 m_yb), .val (.int .i64 m_yk)], .agg [.val (.int .i64 p_xa), .val (.int .i64 p_xb), .val (.int .i64 p_xk), .val (.int .i64 p_ya), .val (.int .i64 p_yb), .val (.int .i64 p_yk)]] => some (okM m_t (⟨(⟨p_xa, p_xb, p_xk⟩ : N3), (⟨p_ya, p_yb, p_yk⟩ : N3)⟩ : P2) (⟨⟨m_xa, m_xb, m_xk⟩, ⟨m_ya, m_yb, m_yk⟩⟩ : P2), (moveF m_t m_f (⟨⟨m_xa, m_xb, m_xk⟩, ⟨m_ya, m_yb, m_yk⟩⟩ : P2) (⟨(⟨p_xa, p_xb, p_xk⟩ : N3), (⟨p_ya, p_yb, p_yk⟩ : N3)⟩ : P2)).av)
  | _ => none

theorem e112 (m_t : Int) (m_f : Bool) (m_xa : Int) (m_xb : Int) (m_xk : Int) (m_ya : Int) (m_yb : Int) (m_yk : Int) (p_xa : Int) (p_xb : Int) (p_xk : Int) (p_ya : Int) (p_yb : Int) (p_yk : Int) (hp : (okM m_t (⟨(⟨p_xa, p_xb, p_xk⟩ : N3), (⟨p_ya, p_yb, p_yk⟩ : N3)⟩ : P2) (⟨⟨m_xa, m_xb, m_xk⟩, ⟨m_ya, m_yb, m_yk⟩⟩ : P2)) = true) : evN Tryd.prog GLv Γ54 (0) []  Tryd.f112 [.agg [.val (.int .i64 m_t), .val (.bool m_f), .val (.int .i64 m_xa), .val (.int .i64 m_xb), .val (.int .i64 m_xk), .val (.int .i64 m_ya), .val (.int .i64 m_yb), .val (.int .i64 m_yk)], .agg [.val (.int .i64 p_xa), .val (.int .i64 p_xb), .val (.int .i64 p_xk), .val (.int .i64 p_ya), .val (.int .i64 p_yb), .val (.int .i64 p_yk)]] = some ((moveF m_t m_f (⟨⟨m_xa, m_xb, m_xk⟩, ⟨m_ya, m_yb, m_yk⟩⟩ : P2) (⟨(⟨p_xa, p_xb, p_xk⟩ : N3), (⟨p_ya, p_yb, p_yk⟩ : N3)⟩ : P2)).av) := by
  unfold okM at hp
  simp only [Bool.and_eq_true] at hp
  obtain ⟨h1, h2, h3⟩ := hp
  obtain ⟨k1, k2, k3, _⟩ := turn_pk (flip_ok h2 m_f) h3 m_t
  refine (show _ = cond (inB m_t 0 7 && okP (⟨(⟨p_xa, p_xb, p_xk⟩ : N3), (⟨p_ya, p_yb, p_yk⟩ : N3)⟩ : P2)) (cond (pkP (turnF m_t (flipP m_f (⟨(⟨p_xa, p_xb, p_xk⟩ : N3), (⟨p_ya, p_yb, p_yk⟩ : N3)⟩ : P2))) (⟨⟨m_xa, m_xb, m_xk⟩, ⟨m_ya, m_yb, m_yk⟩⟩ : P2)) (some (moveF m_t m_f (⟨⟨m_xa, m_xb, m_xk⟩, ⟨m_ya, m_yb, m_yk⟩⟩ : P2) (⟨(⟨p_xa, p_xb, p_xk⟩ : N3), (⟨p_ya, p_yb, p_yk⟩ : N3)⟩ : P2)).av) none) none from by kernel_rfl).trans ?_
  rw [h1, h2, k3]
  rfl
theorem m112 : Meets Tryd.prog GLv 112 s112 := by
  refine meetsN mix0 glv G54 Tryd.func112 (by kernel_rfl) (by kernel_rfl) s112 fun args x h => ?_
  unfold s112 at h
  split at h
  · rename_i m_t m_f m_xa m_xb m_xk m_ya m_yb m_yk p_xa p_xb p_xk p_ya p_yb p_yk
    simp only [Option.some.injEq, Prod.mk.injEq] at h
    obtain ⟨hp, rfl⟩ := h
    exact ⟨_, _, by kernel_rfl, e112 m_t m_f m_xa m_xb m_xk m_ya m_yb m_yk p_xa p_xb p_xk p_ya p_yb p_yk hp⟩
  · cases h
abbrev Γ55 : List (Nat × Ctr) := (112, s112) :: Γ54
theorem G55 : Sound Tryd.prog GLv Γ55 := G54.cons m112

-- impl.ValidMotion
def s63 : Ctr := fun
  | [.agg [.val (.int .i64 m_t), .val (.bool m_f), .val (.int .i64 m_xa), .val (.int .i64 m_xb), .val (.int .i64 m_xk), .val (.int .i64 m_ya), .val (.int .i64 m_yb), .val (.int .i64 m_yk)]] => some (true, bv (inB m_t 0 7 && valP (⟨⟨m_xa, m_xb, m_xk⟩, ⟨m_ya, m_yb, m_yk⟩⟩ : P2)))
  | _ => none

theorem e63 (m_t : Int) (m_f : Bool) (m_xa : Int) (m_xb : Int) (m_xk : Int) (m_ya : Int) (m_yb : Int) (m_yk : Int) : evN Tryd.prog GLv Γ55 (0) []  Tryd.f63 [.agg [.val (.int .i64 m_t), .val (.bool m_f), .val (.int .i64 m_xa), .val (.int .i64 m_xb), .val (.int .i64 m_xk), .val (.int .i64 m_ya), .val (.int .i64 m_yb), .val (.int .i64 m_yk)]] = some (bv (inB m_t 0 7 && valP (⟨⟨m_xa, m_xb, m_xk⟩, ⟨m_ya, m_yb, m_yk⟩⟩ : P2))) := by
  refine (show _ = cond (inB m_t 0 7) ( cond (validB (N3.mk m_xa m_xb m_xk)) ( some (bv (validB (N3.mk m_ya m_yb m_yk))) ) ( some (bv (false)) ) ) ( some (bv (false)) ) from by kernel_rfl).trans ?_
  simp only [valP]
  cases inB m_t 0 7 <;> cases validB (⟨⟨m_xa, m_xb, m_xk⟩, ⟨m_ya, m_yb, m_yk⟩⟩ : P2).x <;> rfl
theorem m63 : Meets Tryd.prog GLv 63 s63 := by
  refine meetsN mix0 glv G55 Tryd.func63 (by kernel_rfl) (by kernel_rfl) s63 fun args x h => ?_
  unfold s63 at h
  split at h
  · rename_i m_t m_f m_xa m_xb m_xk m_ya m_yb m_yk
    simp only [Option.some.injEq, Prod.mk.injEq] at h
    obtain ⟨hp, rfl⟩ := h
    exact ⟨_, _, by kernel_rfl, e63 m_t m_f m_xa m_xb m_xk m_ya m_yb m_yk⟩
  · cases h
abbrev Γ56 : List (Nat × Ctr) := (63, s63) :: Γ55
theorem G56 : Sound Tryd.prog GLv Γ56 := G55.cons m63

-- spec.l04Ok
def s67 : Ctr := fun
  | [.agg [.val (.int .i64 m_t), .val (.bool m_f), .val (.int .i64 m_xa), .val (.int .i64 m_xb), .val (.int .i64 m_xk), .val (.int .i64 m_ya), .val (.int .i64 m_yb), .val (.int .i64 m_yk)]] => some (true, bv (inB m_t 0 7 && valP (⟨⟨m_xa, m_xb, m_xk⟩, ⟨m_ya, m_yb, m_yk⟩⟩ : P2)))
  | _ => none

theorem e67 (m_t : Int) (m_f : Bool) (m_xa : Int) (m_xb : Int) (m_xk : Int) (m_ya : Int) (m_yb : Int) (m_yk : Int) : evN Tryd.prog GLv Γ56 (0) []  Tryd.f67 [.agg [.val (.int .i64 m_t), .val (.bool m_f), .val (.int .i64 m_xa), .val (.int .i64 m_xb), .val (.int .i64 m_xk), .val (.int .i64 m_ya), .val (.int .i64 m_yb), .val (.int .i64 m_yk)]] = some (bv (inB m_t 0 7 && valP (⟨⟨m_xa, m_xb, m_xk⟩, ⟨m_ya, m_yb, m_yk⟩⟩ : P2))) := by
  refine (show _ = cond (inB m_t 0 7) ( cond (validB (N3.mk m_xa m_xb m_xk)) ( some (bv (validB (N3.mk m_ya m_yb m_yk))) ) ( some (bv (false)) ) ) ( some (bv (false)) ) from by kernel_rfl).trans ?_
  simp only [valP]
  cases inB m_t 0 7 <;> cases validB (⟨⟨m_xa, m_xb, m_xk⟩, ⟨m_ya, m_yb, m_yk⟩⟩ : P2).x <;> rfl
theorem m67 : Meets Tryd.prog GLv 67 s67 := by
  refine meetsN mix0 glv G56 Tryd.func67 (by kernel_rfl) (by kernel_rfl) s67 fun args x h => ?_
  unfold s67 at h
  split at h
  · rename_i m_t m_f m_xa m_xb m_xk m_ya m_yb m_yk
    simp only [Option.some.injEq, Prod.mk.injEq] at h
    obtain ⟨hp, rfl⟩ := h
    exact ⟨_, _, by kernel_rfl, e67 m_t m_f m_xa m_xb m_xk m_ya m_yb m_yk⟩
  · cases h
abbrev Γ57 : List (Nat × Ctr) := (67, s67) :: Γ56
theorem G57 : Sound Tryd.prog GLv Γ57 := G56.cons m67

-- impl.MovePoint
def s24 : Ctr := fun
  | [.agg [.val (.int .i64 m_t), .val (.bool m_f), .val (.int .i64 m_xa), .val (.int .i64 m_xb), .val (.int .i64 m_xk), .val (.int .i64 m_ya), .val (.int .i64 m_yb), .val (.int .i64 m_yk)], .agg [.val (.int .i64 p_xa), .val (.int .i64 p_xb), .val (.int .i64 p_xk), .val (.int .i64 p_ya), .val (.int .i64 p_yb), .val (.int .i64 p_yk)]] => some (true, rP (((inB m_t 0 7 && valP (⟨⟨m_xa, m_xb, m_xk⟩, ⟨m_ya, m_yb, m_yk⟩⟩ : P2)) && valP (⟨(⟨p_xa, p_xb, p_xk⟩ : N3), (⟨p_ya, p_yb, p_yk⟩ : N3)⟩ : P2)) && valP (redP (moveF m_t m_f (⟨⟨m_xa, m_xb, m_xk⟩, ⟨m_ya, m_yb, m_yk⟩⟩ : P2) (⟨(⟨p_xa, p_xb, p_xk⟩ : N3), (⟨p_ya, p_yb, p_yk⟩ : N3)⟩ : P2)))) (redP (moveF m_t m_f (⟨⟨m_xa, m_xb, m_xk⟩, ⟨m_ya, m_yb, m_yk⟩⟩ : P2) (⟨(⟨p_xa, p_xb, p_xk⟩ : N3), (⟨p_ya, p_yb, p_yk⟩ : N3)⟩ : P2))))
  | _ => none

theorem e24 (m_t : Int) (m_f : Bool) (m_xa : Int) (m_xb : Int) (m_xk : Int) (m_ya : Int) (m_yb : Int) (m_yk : Int) (p_xa : Int) (p_xb : Int) (p_xk : Int) (p_ya : Int) (p_yb : Int) (p_yk : Int) : evN Tryd.prog GLv Γ57 (0) []  Tryd.f24 [.agg [.val (.int .i64 m_t), .val (.bool m_f), .val (.int .i64 m_xa), .val (.int .i64 m_xb), .val (.int .i64 m_xk), .val (.int .i64 m_ya), .val (.int .i64 m_yb), .val (.int .i64 m_yk)], .agg [.val (.int .i64 p_xa), .val (.int .i64 p_xb), .val (.int .i64 p_xk), .val (.int .i64 p_ya), .val (.int .i64 p_yb), .val (.int .i64 p_yk)]] = some (rP (((inB m_t 0 7 && valP (⟨⟨m_xa, m_xb, m_xk⟩, ⟨m_ya, m_yb, m_yk⟩⟩ : P2)) && valP (⟨(⟨p_xa, p_xb, p_xk⟩ : N3), (⟨p_ya, p_yb, p_yk⟩ : N3)⟩ : P2)) && valP (redP (moveF m_t m_f (⟨⟨m_xa, m_xb, m_xk⟩, ⟨m_ya, m_yb, m_yk⟩⟩ : P2) (⟨(⟨p_xa, p_xb, p_xk⟩ : N3), (⟨p_ya, p_yb, p_yk⟩ : N3)⟩ : P2)))) (redP (moveF m_t m_f (⟨⟨m_xa, m_xb, m_xk⟩, ⟨m_ya, m_yb, m_yk⟩⟩ : P2) (⟨(⟨p_xa, p_xb, p_xk⟩ : N3), (⟨p_ya, p_yb, p_yk⟩ : N3)⟩ : P2)))) := by
  refine (show _ = cond (!(inB m_t 0 7 && valP (⟨⟨m_xa, m_xb, m_xk⟩, ⟨m_ya, m_yb, m_yk⟩⟩ : P2))) (some (rP false (⟨(⟨p_xa, p_xb, p_xk⟩ : N3), (⟨p_ya, p_yb, p_yk⟩ : N3)⟩ : P2))) (cond (!valP (⟨(⟨p_xa, p_xb, p_xk⟩ : N3), (⟨p_ya, p_yb, p_yk⟩ : N3)⟩ : P2)) (some (rP false (⟨(⟨p_xa, p_xb, p_xk⟩ : N3), (⟨p_ya, p_yb, p_yk⟩ : N3)⟩ : P2))) (cond (okM m_t (⟨(⟨p_xa, p_xb, p_xk⟩ : N3), (⟨p_ya, p_yb, p_yk⟩ : N3)⟩ : P2) (⟨⟨m_xa, m_xb, m_xk⟩, ⟨m_ya, m_yb, m_yk⟩⟩ : P2)) (cond (kB (moveF m_t m_f (⟨⟨m_xa, m_xb, m_xk⟩, ⟨m_ya, m_yb, m_yk⟩⟩ : P2) (⟨(⟨p_xa, p_xb, p_xk⟩ : N3), (⟨p_ya, p_yb, p_yk⟩ : N3)⟩ : P2)).x.k && kB (moveF m_t m_f (⟨⟨m_xa, m_xb, m_xk⟩, ⟨m_ya, m_yb, m_yk⟩⟩ : P2) (⟨(⟨p_xa, p_xb, p_xk⟩ : N3), (⟨p_ya, p_yb, p_yk⟩ : N3)⟩ : P2)).y.k) (some (rP (valP (redP (moveF m_t m_f (⟨⟨m_xa, m_xb, m_xk⟩, ⟨m_ya, m_yb, m_yk⟩⟩ : P2) (⟨(⟨p_xa, p_xb, p_xk⟩ : N3), (⟨p_ya, p_yb, p_yk⟩ : N3)⟩ : P2)))) (redP (moveF m_t m_f (⟨⟨m_xa, m_xb, m_xk⟩, ⟨m_ya, m_yb, m_yk⟩⟩ : P2) (⟨(⟨p_xa, p_xb, p_xk⟩ : N3), (⟨p_ya, p_yb, p_yk⟩ : N3)⟩ : P2))))) none) none)) from by kernel_rfl).trans ?_
  cases h1 : inB m_t 0 7 with
  | false => rfl
  | true =>
    cases h2 : valP (⟨⟨m_xa, m_xb, m_xk⟩, ⟨m_ya, m_yb, m_yk⟩⟩ : P2) with
    | false => rfl
    | true =>
      cases h3 : valP (⟨(⟨p_xa, p_xb, p_xk⟩ : N3), (⟨p_ya, p_yb, p_yk⟩ : N3)⟩ : P2) with
      | false => rfl
      | true =>
        obtain ⟨_, _, _, k4, k5⟩ := turn_pk (flip_ok (val_ok h3) m_f) (val_ok h2) m_t
        have k6 : okM m_t (⟨(⟨p_xa, p_xb, p_xk⟩ : N3), (⟨p_ya, p_yb, p_yk⟩ : N3)⟩ : P2) (⟨⟨m_xa, m_xb, m_xk⟩, ⟨m_ya, m_yb, m_yk⟩⟩ : P2) = true := by unfold okM; rw [h1, val_ok h2, val_ok h3]; rfl
        have k7 : (kB (moveF m_t m_f (⟨⟨m_xa, m_xb, m_xk⟩, ⟨m_ya, m_yb, m_yk⟩⟩ : P2) (⟨(⟨p_xa, p_xb, p_xk⟩ : N3), (⟨p_ya, p_yb, p_yk⟩ : N3)⟩ : P2)).x.k && kB (moveF m_t m_f (⟨⟨m_xa, m_xb, m_xk⟩, ⟨m_ya, m_yb, m_yk⟩⟩ : P2) (⟨(⟨p_xa, p_xb, p_xk⟩ : N3), (⟨p_ya, p_yb, p_yk⟩ : N3)⟩ : P2)).y.k) = true := by unfold moveF; rw [k4, k5]; rfl
        rw [k6, k7]
        rfl
theorem m24 : Meets Tryd.prog GLv 24 s24 := by
  refine meetsN mix0 glv G57 Tryd.func24 (by kernel_rfl) (by kernel_rfl) s24 fun args x h => ?_
  unfold s24 at h
  split at h
  · rename_i m_t m_f m_xa m_xb m_xk m_ya m_yb m_yk p_xa p_xb p_xk p_ya p_yb p_yk
    simp only [Option.some.injEq, Prod.mk.injEq] at h
    obtain ⟨hp, rfl⟩ := h
    exact ⟨_, _, by kernel_rfl, e24 m_t m_f m_xa m_xb m_xk m_ya m_yb m_yk p_xa p_xb p_xk p_ya p_yb p_yk⟩
  · cases h
abbrev Γ58 : List (Nat × Ctr) := (24, s24) :: Γ57
theorem G58 : Sound Tryd.prog GLv Γ58 := G57.cons m24

-- (impl.Motion).checked
def s58 : Ctr := fun
  | [.agg [.val (.int .i64 m_t), .val (.bool m_f), .val (.int .i64 m_xa), .val (.int .i64 m_xb), .val (.int .i64 m_xk), .val (.int .i64 m_ya), .val (.int .i64 m_yb), .val (.int .i64 m_yk)]] => some (kB m_xk && kB m_yk, rM (valP (redP (⟨⟨m_xa, m_xb, m_xk⟩, ⟨m_ya, m_yb, m_yk⟩⟩ : P2))) m_t m_f (redP (⟨⟨m_xa, m_xb, m_xk⟩, ⟨m_ya, m_yb, m_yk⟩⟩ : P2)))
  | _ => none

theorem e58 (m_t : Int) (m_f : Bool) (m_xa : Int) (m_xb : Int) (m_xk : Int) (m_ya : Int) (m_yb : Int) (m_yk : Int) (hp : (kB m_xk && kB m_yk) = true) : evN Tryd.prog GLv Γ58 (0) []  Tryd.f58 [.agg [.val (.int .i64 m_t), .val (.bool m_f), .val (.int .i64 m_xa), .val (.int .i64 m_xb), .val (.int .i64 m_xk), .val (.int .i64 m_ya), .val (.int .i64 m_yb), .val (.int .i64 m_yk)]] = some (rM (valP (redP (⟨⟨m_xa, m_xb, m_xk⟩, ⟨m_ya, m_yb, m_yk⟩⟩ : P2))) m_t m_f (redP (⟨⟨m_xa, m_xb, m_xk⟩, ⟨m_ya, m_yb, m_yk⟩⟩ : P2))) := by
  refine (show _ = cond (kB m_xk && kB m_yk) (cond (!valP (redP (⟨⟨m_xa, m_xb, m_xk⟩, ⟨m_ya, m_yb, m_yk⟩⟩ : P2))) (some (rM false m_t m_f (redP (⟨⟨m_xa, m_xb, m_xk⟩, ⟨m_ya, m_yb, m_yk⟩⟩ : P2)))) (some (rM true m_t m_f ((fun c : Bool => (selP c (redP (⟨⟨m_xa, m_xb, m_xk⟩, ⟨m_ya, m_yb, m_yk⟩⟩ : P2)))) (valP (redP (⟨⟨m_xa, m_xb, m_xk⟩, ⟨m_ya, m_yb, m_yk⟩⟩ : P2))))))) none from by kernel_rfl).trans ?_
  rw [hp]
  cases valP (redP (⟨⟨m_xa, m_xb, m_xk⟩, ⟨m_ya, m_yb, m_yk⟩⟩ : P2)) <;> rfl
theorem m58 : Meets Tryd.prog GLv 58 s58 := by
  refine meetsN mix0 glv G58 Tryd.func58 (by kernel_rfl) (by kernel_rfl) s58 fun args x h => ?_
  unfold s58 at h
  split at h
  · rename_i m_t m_f m_xa m_xb m_xk m_ya m_yb m_yk
    simp only [Option.some.injEq, Prod.mk.injEq] at h
    obtain ⟨hp, rfl⟩ := h
    exact ⟨_, _, by kernel_rfl, e58 m_t m_f m_xa m_xb m_xk m_ya m_yb m_yk hp⟩
  · cases h
abbrev Γ59 : List (Nat × Ctr) := (58, s58) :: Γ58
theorem G59 : Sound Tryd.prog GLv Γ59 := G58.cons m58

-- spec.l04Num
def s59 : Ctr := fun
  | [.agg [.val (.int .i64 m_t), .val (.bool m_f), .val (.int .i64 m_xa), .val (.int .i64 m_xb), .val (.int .i64 m_xk), .val (.int .i64 m_ya), .val (.int .i64 m_yb), .val (.int .i64 m_yk)]] => some (kB m_xk && kB m_yk, rM (valP (redP (⟨⟨m_xa, m_xb, m_xk⟩, ⟨m_ya, m_yb, m_yk⟩⟩ : P2))) m_t m_f (redP (⟨⟨m_xa, m_xb, m_xk⟩, ⟨m_ya, m_yb, m_yk⟩⟩ : P2)))
  | _ => none

theorem e59 (m_t : Int) (m_f : Bool) (m_xa : Int) (m_xb : Int) (m_xk : Int) (m_ya : Int) (m_yb : Int) (m_yk : Int) (hp : (kB m_xk && kB m_yk) = true) : evN Tryd.prog GLv Γ59 (0) []  Tryd.f59 [.agg [.val (.int .i64 m_t), .val (.bool m_f), .val (.int .i64 m_xa), .val (.int .i64 m_xb), .val (.int .i64 m_xk), .val (.int .i64 m_ya), .val (.int .i64 m_yb), .val (.int .i64 m_yk)]] = some (rM (valP (redP (⟨⟨m_xa, m_xb, m_xk⟩, ⟨m_ya, m_yb, m_yk⟩⟩ : P2))) m_t m_f (redP (⟨⟨m_xa, m_xb, m_xk⟩, ⟨m_ya, m_yb, m_yk⟩⟩ : P2))) := by
  refine (show _ = cond (kB m_xk && kB m_yk) (cond (!valP (redP (⟨⟨m_xa, m_xb, m_xk⟩, ⟨m_ya, m_yb, m_yk⟩⟩ : P2))) (some (rM false m_t m_f (redP (⟨⟨m_xa, m_xb, m_xk⟩, ⟨m_ya, m_yb, m_yk⟩⟩ : P2)))) (some (rM true m_t m_f ((fun c : Bool => (selP c (redP (⟨⟨m_xa, m_xb, m_xk⟩, ⟨m_ya, m_yb, m_yk⟩⟩ : P2)))) (valP (redP (⟨⟨m_xa, m_xb, m_xk⟩, ⟨m_ya, m_yb, m_yk⟩⟩ : P2))))))) none from by kernel_rfl).trans ?_
  rw [hp]
  cases valP (redP (⟨⟨m_xa, m_xb, m_xk⟩, ⟨m_ya, m_yb, m_yk⟩⟩ : P2)) <;> rfl
theorem m59 : Meets Tryd.prog GLv 59 s59 := by
  refine meetsN mix0 glv G59 Tryd.func59 (by kernel_rfl) (by kernel_rfl) s59 fun args x h => ?_
  unfold s59 at h
  split at h
  · rename_i m_t m_f m_xa m_xb m_xk m_ya m_yb m_yk
    simp only [Option.some.injEq, Prod.mk.injEq] at h
    obtain ⟨hp, rfl⟩ := h
    exact ⟨_, _, by kernel_rfl, e59 m_t m_f m_xa m_xb m_xk m_ya m_yb m_yk hp⟩
  · cases h
abbrev Γ60 : List (Nat × Ctr) := (59, s59) :: Γ59
theorem G60 : Sound Tryd.prog GLv Γ60 := G59.cons m59

-- (impl.Motion).then
def s65 : Ctr := fun
  | [.agg [.val (.int .i64 m_t), .val (.bool m_f), .val (.int .i64 m_xa), .val (.int .i64 m_xb), .val (.int .i64 m_xk), .val (.int .i64 m_ya), .val (.int .i64 m_yb), .val (.int .i64 m_yk)], .agg [.val (.int .i64 n_t), .val (.bool n_f), .val (.int .i64 n_xa), .val (.int .i64 n_xb), .val (.int .i64 n_xk), .val (.int .i64 n_ya), .val (.int .i64 n_yb), .val (.int .i64 n_yk)]] => some (inB m_t 0 7 && okM n_t (⟨⟨m_xa, m_xb, m_xk⟩, ⟨m_ya, m_yb, m_yk⟩⟩ : P2) (⟨⟨n_xa, n_xb, n_xk⟩, ⟨n_ya, n_yb, n_yk⟩⟩ : P2), mav (cmpT m_t n_t n_f) (m_f != n_f) (moveF n_t n_f (⟨⟨n_xa, n_xb, n_xk⟩, ⟨n_ya, n_yb, n_yk⟩⟩ : P2) (⟨⟨m_xa, m_xb, m_xk⟩, ⟨m_ya, m_yb, m_yk⟩⟩ : P2)))
  | _ => none

theorem e65 (m_t : Int) (m_f : Bool) (m_xa : Int) (m_xb : Int) (m_xk : Int) (m_ya : Int) (m_yb : Int) (m_yk : Int) (n_t : Int) (n_f : Bool) (n_xa : Int) (n_xb : Int) (n_xk : Int) (n_ya : Int) (n_yb : Int) (n_yk : Int) (hp : (inB m_t 0 7 && okM n_t (⟨⟨m_xa, m_xb, m_xk⟩, ⟨m_ya, m_yb, m_yk⟩⟩ : P2) (⟨⟨n_xa, n_xb, n_xk⟩, ⟨n_ya, n_yb, n_yk⟩⟩ : P2)) = true) : evN Tryd.prog GLv Γ60 (0) []  Tryd.f65 [.agg [.val (.int .i64 m_t), .val (.bool m_f), .val (.int .i64 m_xa), .val (.int .i64 m_xb), .val (.int .i64 m_xk), .val (.int .i64 m_ya), .val (.int .i64 m_yb), .val (.int .i64 m_yk)], .agg [.val (.int .i64 n_t), .val (.bool n_f), .val (.int .i64 n_xa), .val (.int .i64 n_xb), .val (.int .i64 n_xk), .val (.int .i64 n_ya), .val (.int .i64 n_yb), .val (.int .i64 n_yk)]] = some (mav (cmpT m_t n_t n_f) (m_f != n_f) (moveF n_t n_f (⟨⟨n_xa, n_xb, n_xk⟩, ⟨n_ya, n_yb, n_yk⟩⟩ : P2) (⟨⟨m_xa, m_xb, m_xk⟩, ⟨m_ya, m_yb, m_yk⟩⟩ : P2))) := by
  rw [Bool.and_eq_true] at hp
  obtain ⟨h1, h2⟩ := hp
  have h3 : inB n_t 0 7 = true := by unfold okM at h2; rw [Bool.and_eq_true] at h2; exact h2.1
  obtain ⟨c1, c2⟩ := cmp_impl h1 h3
  cases n_f with
  | true =>
    refine (show _ = cond (okM n_t (⟨⟨m_xa, m_xb, m_xk⟩, ⟨m_ya, m_yb, m_yk⟩⟩ : P2) (⟨⟨n_xa, n_xb, n_xk⟩, ⟨n_ya, n_yb, n_yk⟩⟩ : P2)) (some (mav (and64 (wr (wr (0 - m_t) + n_t)) 7) (m_f != true) (moveF n_t true (⟨⟨n_xa, n_xb, n_xk⟩, ⟨n_ya, n_yb, n_yk⟩⟩ : P2) (⟨⟨m_xa, m_xb, m_xk⟩, ⟨m_ya, m_yb, m_yk⟩⟩ : P2)))) none from by kernel_rfl).trans ?_
    rw [h2, c1]
    rfl
  | false =>
    refine (show _ = cond (okM n_t (⟨⟨m_xa, m_xb, m_xk⟩, ⟨m_ya, m_yb, m_yk⟩⟩ : P2) (⟨⟨n_xa, n_xb, n_xk⟩, ⟨n_ya, n_yb, n_yk⟩⟩ : P2)) (some (mav (and64 (wr (m_t + n_t)) 7) (m_f != false) (moveF n_t false (⟨⟨n_xa, n_xb, n_xk⟩, ⟨n_ya, n_yb, n_yk⟩⟩ : P2) (⟨⟨m_xa, m_xb, m_xk⟩, ⟨m_ya, m_yb, m_yk⟩⟩ : P2)))) none from by kernel_rfl).trans ?_
    rw [h2, c2]
    rfl
theorem m65 : Meets Tryd.prog GLv 65 s65 := by
  refine meetsN mix0 glv G60 Tryd.func65 (by kernel_rfl) (by kernel_rfl) s65 fun args x h => ?_
  unfold s65 at h
  split at h
  · rename_i m_t m_f m_xa m_xb m_xk m_ya m_yb m_yk n_t n_f n_xa n_xb n_xk n_ya n_yb n_yk
    simp only [Option.some.injEq, Prod.mk.injEq] at h
    obtain ⟨hp, rfl⟩ := h
    exact ⟨_, _, by kernel_rfl, e65 m_t m_f m_xa m_xb m_xk m_ya m_yb m_yk n_t n_f n_xa n_xb n_xk n_ya n_yb n_yk hp⟩
  · cases h
abbrev Γ61 : List (Nat × Ctr) := (65, s65) :: Γ60
theorem G61 : Sound Tryd.prog GLv Γ61 := G60.cons m65

-- impl.Compose
def s25 : Ctr := fun
  | [.agg [.val (.int .i64 m_t), .val (.bool m_f), .val (.int .i64 m_xa), .val (.int .i64 m_xb), .val (.int .i64 m_xk), .val (.int .i64 m_ya), .val (.int .i64 m_yb), .val (.int .i64 m_yk)], .agg [.val (.int .i64 n_t), .val (.bool n_f), .val (.int .i64 n_xa), .val (.int .i64 n_xb), .val (.int .i64 n_xk), .val (.int .i64 n_ya), .val (.int .i64 n_yb), .val (.int .i64 n_yk)]] => some (true, rM (((inB m_t 0 7 && valP (⟨⟨m_xa, m_xb, m_xk⟩, ⟨m_ya, m_yb, m_yk⟩⟩ : P2)) && (inB n_t 0 7 && valP (⟨⟨n_xa, n_xb, n_xk⟩, ⟨n_ya, n_yb, n_yk⟩⟩ : P2))) && valP (redP (moveF n_t n_f (⟨⟨n_xa, n_xb, n_xk⟩, ⟨n_ya, n_yb, n_yk⟩⟩ : P2) (⟨⟨m_xa, m_xb, m_xk⟩, ⟨m_ya, m_yb, m_yk⟩⟩ : P2)))) (cmpT m_t n_t n_f) (m_f != n_f) (redP (moveF n_t n_f (⟨⟨n_xa, n_xb, n_xk⟩, ⟨n_ya, n_yb, n_yk⟩⟩ : P2) (⟨⟨m_xa, m_xb, m_xk⟩, ⟨m_ya, m_yb, m_yk⟩⟩ : P2))))
  | _ => none

theorem e25 (m_t : Int) (m_f : Bool) (m_xa : Int) (m_xb : Int) (m_xk : Int) (m_ya : Int) (m_yb : Int) (m_yk : Int) (n_t : Int) (n_f : Bool) (n_xa : Int) (n_xb : Int) (n_xk : Int) (n_ya : Int) (n_yb : Int) (n_yk : Int) : evN Tryd.prog GLv Γ61 (0) []  Tryd.f25 [.agg [.val (.int .i64 m_t), .val (.bool m_f), .val (.int .i64 m_xa), .val (.int .i64 m_xb), .val (.int .i64 m_xk), .val (.int .i64 m_ya), .val (.int .i64 m_yb), .val (.int .i64 m_yk)], .agg [.val (.int .i64 n_t), .val (.bool n_f), .val (.int .i64 n_xa), .val (.int .i64 n_xb), .val (.int .i64 n_xk), .val (.int .i64 n_ya), .val (.int .i64 n_yb), .val (.int .i64 n_yk)]] = some (rM (((inB m_t 0 7 && valP (⟨⟨m_xa, m_xb, m_xk⟩, ⟨m_ya, m_yb, m_yk⟩⟩ : P2)) && (inB n_t 0 7 && valP (⟨⟨n_xa, n_xb, n_xk⟩, ⟨n_ya, n_yb, n_yk⟩⟩ : P2))) && valP (redP (moveF n_t n_f (⟨⟨n_xa, n_xb, n_xk⟩, ⟨n_ya, n_yb, n_yk⟩⟩ : P2) (⟨⟨m_xa, m_xb, m_xk⟩, ⟨m_ya, m_yb, m_yk⟩⟩ : P2)))) (cmpT m_t n_t n_f) (m_f != n_f) (redP (moveF n_t n_f (⟨⟨n_xa, n_xb, n_xk⟩, ⟨n_ya, n_yb, n_yk⟩⟩ : P2) (⟨⟨m_xa, m_xb, m_xk⟩, ⟨m_ya, m_yb, m_yk⟩⟩ : P2)))) := by
  refine (show _ = cond (!(inB m_t 0 7 && valP (⟨⟨m_xa, m_xb, m_xk⟩, ⟨m_ya, m_yb, m_yk⟩⟩ : P2))) (some (rM false m_t m_f (⟨⟨m_xa, m_xb, m_xk⟩, ⟨m_ya, m_yb, m_yk⟩⟩ : P2))) (cond (!(inB n_t 0 7 && valP (⟨⟨n_xa, n_xb, n_xk⟩, ⟨n_ya, n_yb, n_yk⟩⟩ : P2))) (some (rM false m_t m_f (⟨⟨m_xa, m_xb, m_xk⟩, ⟨m_ya, m_yb, m_yk⟩⟩ : P2))) (cond (inB m_t 0 7 && okM n_t (⟨⟨m_xa, m_xb, m_xk⟩, ⟨m_ya, m_yb, m_yk⟩⟩ : P2) (⟨⟨n_xa, n_xb, n_xk⟩, ⟨n_ya, n_yb, n_yk⟩⟩ : P2)) (cond (kB (moveF n_t n_f (⟨⟨n_xa, n_xb, n_xk⟩, ⟨n_ya, n_yb, n_yk⟩⟩ : P2) (⟨⟨m_xa, m_xb, m_xk⟩, ⟨m_ya, m_yb, m_yk⟩⟩ : P2)).x.k && kB (moveF n_t n_f (⟨⟨n_xa, n_xb, n_xk⟩, ⟨n_ya, n_yb, n_yk⟩⟩ : P2) (⟨⟨m_xa, m_xb, m_xk⟩, ⟨m_ya, m_yb, m_yk⟩⟩ : P2)).y.k) (some (rM (valP (redP (moveF n_t n_f (⟨⟨n_xa, n_xb, n_xk⟩, ⟨n_ya, n_yb, n_yk⟩⟩ : P2) (⟨⟨m_xa, m_xb, m_xk⟩, ⟨m_ya, m_yb, m_yk⟩⟩ : P2)))) (cmpT m_t n_t n_f) (m_f != n_f) (redP (moveF n_t n_f (⟨⟨n_xa, n_xb, n_xk⟩, ⟨n_ya, n_yb, n_yk⟩⟩ : P2) (⟨⟨m_xa, m_xb, m_xk⟩, ⟨m_ya, m_yb, m_yk⟩⟩ : P2))))) none) none)) from by kernel_rfl).trans ?_
  cases h1 : inB m_t 0 7 with
  | false => rfl
  | true =>
    cases h2 : valP (⟨⟨m_xa, m_xb, m_xk⟩, ⟨m_ya, m_yb, m_yk⟩⟩ : P2) with
    | false => rfl
    | true =>
      cases h3 : inB n_t 0 7 with
      | false => rfl
      | true =>
        cases h4 : valP (⟨⟨n_xa, n_xb, n_xk⟩, ⟨n_ya, n_yb, n_yk⟩⟩ : P2) with
        | false => rfl
        | true =>
          obtain ⟨_, _, _, k4, k5⟩ := turn_pk (flip_ok (val_ok h2) n_f) (val_ok h4) n_t
          have k6 : okM n_t (⟨⟨m_xa, m_xb, m_xk⟩, ⟨m_ya, m_yb, m_yk⟩⟩ : P2) (⟨⟨n_xa, n_xb, n_xk⟩, ⟨n_ya, n_yb, n_yk⟩⟩ : P2) = true := by unfold okM; rw [h3, val_ok h2, val_ok h4]; rfl
          have k7 : (kB (moveF n_t n_f (⟨⟨n_xa, n_xb, n_xk⟩, ⟨n_ya, n_yb, n_yk⟩⟩ : P2) (⟨⟨m_xa, m_xb, m_xk⟩, ⟨m_ya, m_yb, m_yk⟩⟩ : P2)).x.k && kB (moveF n_t n_f (⟨⟨n_xa, n_xb, n_xk⟩, ⟨n_ya, n_yb, n_yk⟩⟩ : P2) (⟨⟨m_xa, m_xb, m_xk⟩, ⟨m_ya, m_yb, m_yk⟩⟩ : P2)).y.k) = true := by unfold moveF; rw [k4, k5]; rfl
          rw [k6, k7]
          rfl
theorem m25 : Meets Tryd.prog GLv 25 s25 := by
  refine meetsN mix0 glv G61 Tryd.func25 (by kernel_rfl) (by kernel_rfl) s25 fun args x h => ?_
  unfold s25 at h
  split at h
  · rename_i m_t m_f m_xa m_xb m_xk m_ya m_yb m_yk n_t n_f n_xa n_xb n_xk n_ya n_yb n_yk
    simp only [Option.some.injEq, Prod.mk.injEq] at h
    obtain ⟨hp, rfl⟩ := h
    exact ⟨_, _, by kernel_rfl, e25 m_t m_f m_xa m_xb m_xk m_ya m_yb m_yk n_t n_f n_xa n_xb n_xk n_ya n_yb n_yk⟩
  · cases h
abbrev Γ62 : List (Nat × Ctr) := (25, s25) :: Γ61
theorem G62 : Sound Tryd.prog GLv Γ62 := G61.cons m25

-- spec.l02Foot
def s105 : Ctr := fun
  | [.agg [.val (.int .i64 l_d), .val (.int .i64 l_a), .val (.int .i64 l_b), .val (.int .i64 l_k)]] => some (inB l_d 0 7 && validB (⟨l_a, l_b, l_k⟩ : N3), (footF (nrm l_d) (⟨l_a, l_b, l_k⟩ : N3)).av)
  | _ => none

theorem e105 (l_d : Int) (l_a : Int) (l_b : Int) (l_k : Int) (hp : (inB l_d 0 7 && validB (⟨l_a, l_b, l_k⟩ : N3)) = true) : evN Tryd.prog GLv Γ62 (0) []  Tryd.f105 [.agg [.val (.int .i64 l_d), .val (.int .i64 l_a), .val (.int .i64 l_b), .val (.int .i64 l_k)]] = some ((footF (nrm l_d) (⟨l_a, l_b, l_k⟩ : N3)).av) := by
  rw [Bool.and_eq_true] at hp
  obtain ⟨h1, h2⟩ := hp
  obtain ⟨a1, a2, a3, a4, a5, a6, a7⟩ := mirror_same h1 h2
  have w1 := nrm_in h1
  refine (show _ = cond (inB (wr (l_d + 4)) 0 15) (cond (inB (wr (l_d + 4)) 0 15 && pkD (nrm l_d) (nrm l_d)) (cond (dvP (⟨l_a, l_b, l_k⟩ : N3) (dotF (nrm l_d) (nrm l_d))) (cond (pkm (dvF (⟨l_a, l_b, l_k⟩ : N3) (dotF (nrm l_d) (nrm l_d))) (nrm l_d).x) (cond (pkm (dvF (⟨l_a, l_b, l_k⟩ : N3) (dotF (nrm l_d) (nrm l_d))) (nrm l_d).y) (some (footF (nrm l_d) (⟨l_a, l_b, l_k⟩ : N3)).av) none) none) none) none) none from by kernel_rfl).trans ?_
  rw [w1, a2, a1, a3, a4]
  rfl
theorem m105 : Meets Tryd.prog GLv 105 s105 := by
  refine meetsN mix0 glv G62 Tryd.func105 (by kernel_rfl) (by kernel_rfl) s105 fun args x h => ?_
  unfold s105 at h
  split at h
  · rename_i l_d l_a l_b l_k
    simp only [Option.some.injEq, Prod.mk.injEq] at h
    obtain ⟨hp, rfl⟩ := h
    exact ⟨_, _, by kernel_rfl, e105 l_d l_a l_b l_k hp⟩
  · cases h
abbrev Γ63 : List (Nat × Ctr) := (105, s105) :: Γ62
theorem G63 : Sound Tryd.prog GLv Γ63 := G62.cons m105

-- spec.l04Reflect
def s60 : Ctr := fun
  | [.agg [.val (.int .i64 l_d), .val (.int .i64 l_a), .val (.int .i64 l_b), .val (.int .i64 l_k)]] => some (inB l_d 0 7 && validB (⟨l_a, l_b, l_k⟩ : N3), mav l_d true (rflI (nrm l_d) (⟨l_a, l_b, l_k⟩ : N3) zP))
  | _ => none

theorem e60 (l_d : Int) (l_a : Int) (l_b : Int) (l_k : Int) (hp : (inB l_d 0 7 && validB (⟨l_a, l_b, l_k⟩ : N3)) = true) : evN Tryd.prog GLv Γ63 (0) []  Tryd.f60 [.agg [.val (.int .i64 l_d), .val (.int .i64 l_a), .val (.int .i64 l_b), .val (.int .i64 l_k)]] = some (mav l_d true (rflI (nrm l_d) (⟨l_a, l_b, l_k⟩ : N3) zP)) := by
  rw [Bool.and_eq_true] at hp
  obtain ⟨h1, h2⟩ := hp
  obtain ⟨a1, a2, a3, a4, a5, a6, a7⟩ := mirror_same h1 h2
  have w1 := nrm_in h1
  rw [a7]
  have e8 : (l_d.tmod 8) = l_d := by rw [inB_iff] at h1; rw [Int.tmod_eq_emod_of_nonneg h1.1]; omega
  refine (show _ = cond (inB l_d 0 7 && validB (⟨l_a, l_b, l_k⟩ : N3)) (cond (inB (l_d.tmod 8) 0 7 && okP (footF (nrm l_d) (⟨l_a, l_b, l_k⟩ : N3))) (cond (pkP (footF (nrm l_d) (⟨l_a, l_b, l_k⟩ : N3)) (turnF (l_d.tmod 8) (flipP true (footF (nrm l_d) (⟨l_a, l_b, l_k⟩ : N3))))) (some (mav (l_d.tmod 8) true (subP (footF (nrm l_d) (⟨l_a, l_b, l_k⟩ : N3)) (turnF (l_d.tmod 8) (flipP true (footF (nrm l_d) (⟨l_a, l_b, l_k⟩ : N3))))))) none) none) none from by kernel_rfl).trans ?_
  rw [e8, h1, h2, a5, a6]
  rfl
theorem m60 : Meets Tryd.prog GLv 60 s60 := by
  refine meetsN mix0 glv G63 Tryd.func60 (by kernel_rfl) (by kernel_rfl) s60 fun args x h => ?_
  unfold s60 at h
  split at h
  · rename_i l_d l_a l_b l_k
    simp only [Option.some.injEq, Prod.mk.injEq] at h
    obtain ⟨hp, rfl⟩ := h
    exact ⟨_, _, by kernel_rfl, e60 l_d l_a l_b l_k hp⟩
  · cases h
abbrev Γ64 : List (Nat × Ctr) := (60, s60) :: Γ63
theorem G64 : Sound Tryd.prog GLv Γ64 := G63.cons m60

-- impl.mirror
def s57 : Ctr := fun
  | [.agg [.val (.int .i64 l_d), .val (.int .i64 l_a), .val (.int .i64 l_b), .val (.int .i64 l_k)]] => some (inB l_d 0 7 && validB (⟨l_a, l_b, l_k⟩ : N3), mav l_d true (rflI (nrm l_d) (⟨l_a, l_b, l_k⟩ : N3) zP))
  | _ => none

theorem e57 (l_d : Int) (l_a : Int) (l_b : Int) (l_k : Int) (hp : (inB l_d 0 7 && validB (⟨l_a, l_b, l_k⟩ : N3)) = true) : evN Tryd.prog GLv Γ64 (0) []  Tryd.f57 [.agg [.val (.int .i64 l_d), .val (.int .i64 l_a), .val (.int .i64 l_b), .val (.int .i64 l_k)]] = some (mav l_d true (rflI (nrm l_d) (⟨l_a, l_b, l_k⟩ : N3) zP)) := by
  rw [Bool.and_eq_true] at hp
  obtain ⟨h1, h2⟩ := hp
  refine (show _ = cond (inB l_d 0 7 && (validB (⟨l_a, l_b, l_k⟩ : N3) && valP zP)) (some (mav l_d true (rflI (nrm l_d) (⟨l_a, l_b, l_k⟩ : N3) zP))) none from by kernel_rfl).trans ?_
  rw [h1, h2]
  rfl
theorem m57 : Meets Tryd.prog GLv 57 s57 := by
  refine meetsN mix0 glv G64 Tryd.func57 (by kernel_rfl) (by kernel_rfl) s57 fun args x h => ?_
  unfold s57 at h
  split at h
  · rename_i l_d l_a l_b l_k
    simp only [Option.some.injEq, Prod.mk.injEq] at h
    obtain ⟨hp, rfl⟩ := h
    exact ⟨_, _, by kernel_rfl, e57 l_d l_a l_b l_k hp⟩
  · cases h
abbrev Γ65 : List (Nat × Ctr) := (57, s57) :: Γ64
theorem G65 : Sound Tryd.prog GLv Γ65 := G64.cons m57

-- impl.Reflection
def s20 : Ctr := fun
  | [.agg [.val (.int .i64 l_d), .val (.int .i64 l_a), .val (.int .i64 l_b), .val (.int .i64 l_k)]] => some (true, rM ((inB l_d 0 7 && validB (⟨l_a, l_b, l_k⟩ : N3)) && valP (redP (rflI (nrm l_d) (⟨l_a, l_b, l_k⟩ : N3) zP))) l_d true (redP (rflI (nrm l_d) (⟨l_a, l_b, l_k⟩ : N3) zP)))
  | _ => none

theorem e20 (l_d : Int) (l_a : Int) (l_b : Int) (l_k : Int) : evN Tryd.prog GLv Γ65 (0) []  Tryd.f20 [.agg [.val (.int .i64 l_d), .val (.int .i64 l_a), .val (.int .i64 l_b), .val (.int .i64 l_k)]] = some (rM ((inB l_d 0 7 && validB (⟨l_a, l_b, l_k⟩ : N3)) && valP (redP (rflI (nrm l_d) (⟨l_a, l_b, l_k⟩ : N3) zP))) l_d true (redP (rflI (nrm l_d) (⟨l_a, l_b, l_k⟩ : N3) zP))) := by
  refine (show _ = cond (!(inB l_d 0 7 && validB (⟨l_a, l_b, l_k⟩ : N3))) (some (rM false l_d true (rflI (nrm l_d) (⟨l_a, l_b, l_k⟩ : N3) zP))) (cond (inB l_d 0 7 && validB (⟨l_a, l_b, l_k⟩ : N3)) (cond (kB (rflI (nrm l_d) (⟨l_a, l_b, l_k⟩ : N3) zP).x.k && kB (rflI (nrm l_d) (⟨l_a, l_b, l_k⟩ : N3) zP).y.k) (some (rM (valP (redP (rflI (nrm l_d) (⟨l_a, l_b, l_k⟩ : N3) zP))) l_d true (redP (rflI (nrm l_d) (⟨l_a, l_b, l_k⟩ : N3) zP)))) none) none) from by kernel_rfl).trans ?_
  cases h1 : inB l_d 0 7 with
  | false => rfl
  | true =>
    cases h2 : validB (⟨l_a, l_b, l_k⟩ : N3) with
    | false => rfl
    | true =>
      obtain ⟨E, hn⟩ := nrm_all l_d h1
      obtain ⟨_, _, _, _, _, _, _, _, _, k1, k2⟩ := refl_same hn h2 (show valP zP = true from rfl)
      rw [k1, k2]
      rfl
theorem m20 : Meets Tryd.prog GLv 20 s20 := by
  refine meetsN mix0 glv G65 Tryd.func20 (by kernel_rfl) (by kernel_rfl) s20 fun args x h => ?_
  unfold s20 at h
  split at h
  · rename_i l_d l_a l_b l_k
    simp only [Option.some.injEq, Prod.mk.injEq] at h
    obtain ⟨hp, rfl⟩ := h
    exact ⟨_, _, by kernel_rfl, e20 l_d l_a l_b l_k⟩
  · cases h
abbrev Γ66 : List (Nat × Ctr) := (20, s20) :: Γ65
theorem G66 : Sound Tryd.prog GLv Γ66 := G65.cons m20

-- spec.Reflection
def s21 : Ctr := fun
  | [.agg [.val (.int .i64 l_d), .val (.int .i64 l_a), .val (.int .i64 l_b), .val (.int .i64 l_k)]] => some (true, rM ((inB l_d 0 7 && validB (⟨l_a, l_b, l_k⟩ : N3)) && valP (redP (rflI (nrm l_d) (⟨l_a, l_b, l_k⟩ : N3) zP))) l_d true (redP (rflI (nrm l_d) (⟨l_a, l_b, l_k⟩ : N3) zP)))
  | _ => none

theorem e21 (l_d : Int) (l_a : Int) (l_b : Int) (l_k : Int) : evN Tryd.prog GLv Γ66 (0) []  Tryd.f21 [.agg [.val (.int .i64 l_d), .val (.int .i64 l_a), .val (.int .i64 l_b), .val (.int .i64 l_k)]] = some (rM ((inB l_d 0 7 && validB (⟨l_a, l_b, l_k⟩ : N3)) && valP (redP (rflI (nrm l_d) (⟨l_a, l_b, l_k⟩ : N3) zP))) l_d true (redP (rflI (nrm l_d) (⟨l_a, l_b, l_k⟩ : N3) zP))) := by
  refine (show _ = cond (!(inB l_d 0 7 && validB (⟨l_a, l_b, l_k⟩ : N3))) (some (rM false l_d true (rflI (nrm l_d) (⟨l_a, l_b, l_k⟩ : N3) zP))) (cond (inB l_d 0 7 && validB (⟨l_a, l_b, l_k⟩ : N3)) (cond (kB (rflI (nrm l_d) (⟨l_a, l_b, l_k⟩ : N3) zP).x.k && kB (rflI (nrm l_d) (⟨l_a, l_b, l_k⟩ : N3) zP).y.k) (some (rM (valP (redP (rflI (nrm l_d) (⟨l_a, l_b, l_k⟩ : N3) zP))) l_d true (redP (rflI (nrm l_d) (⟨l_a, l_b, l_k⟩ : N3) zP)))) none) none) from by kernel_rfl).trans ?_
  cases h1 : inB l_d 0 7 with
  | false => rfl
  | true =>
    cases h2 : validB (⟨l_a, l_b, l_k⟩ : N3) with
    | false => rfl
    | true =>
      obtain ⟨E, hn⟩ := nrm_all l_d h1
      obtain ⟨_, _, _, _, _, _, _, _, _, k1, k2⟩ := refl_same hn h2 (show valP zP = true from rfl)
      rw [k1, k2]
      rfl
theorem m21 : Meets Tryd.prog GLv 21 s21 := by
  refine meetsN mix0 glv G66 Tryd.func21 (by kernel_rfl) (by kernel_rfl) s21 fun args x h => ?_
  unfold s21 at h
  split at h
  · rename_i l_d l_a l_b l_k
    simp only [Option.some.injEq, Prod.mk.injEq] at h
    obtain ⟨hp, rfl⟩ := h
    exact ⟨_, _, by kernel_rfl, e21 l_d l_a l_b l_k⟩
  · cases h
abbrev Γ67 : List (Nat × Ctr) := (21, s21) :: Γ66
theorem G67 : Sound Tryd.prog GLv Γ67 := G66.cons m21

end Go.Proofs.YtigmgpblnoecpaaDoor
