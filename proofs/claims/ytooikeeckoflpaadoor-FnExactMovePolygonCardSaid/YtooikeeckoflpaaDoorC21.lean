/- Contracts of the program's functions, by the evaluator. -/
import Derived.Test.YtooikeeckoflpaaDoorC20
import Derived.Test.YtooikeeckoflpaaDoorPlD
namespace Go.Proofs.YtooikeeckoflpaaDoor
open Go.Ev
set_option linter.unusedVariables false
set_option linter.unusedSimpArgs false
set_option maxRecDepth 100000

-- impl.rotate
def s116 : Ctr := fun
  | [.agg [.val (.int .i64 p_xa), .val (.int .i64 p_xb), .val (.int .i64 p_xk), .val (.int .i64 p_ya), .val (.int .i64 p_yb), .val (.int .i64 p_yk)], .val (.int .i64 t)] => some (inB t 0 7 && okP (⟨(⟨p_xa, p_xb, p_xk⟩ : N3), (⟨p_ya, p_yb, p_yk⟩ : N3)⟩ : P2), (turnF t (⟨(⟨p_xa, p_xb, p_xk⟩ : N3), (⟨p_ya, p_yb, p_yk⟩ : N3)⟩ : P2)).av)
  | _ => none

theorem e116 (p_xa : Int) (p_xb : Int) (p_xk : Int) (p_ya : Int) (p_yb : Int) (p_yk : Int) (t : Int) (hp : (inB t 0 7 && okP (⟨(⟨p_xa, p_xb, p_xk⟩ : N3), (⟨p_ya, p_yb, p_yk⟩ : N3)⟩ : P2)) = true) : evN Tryd.prog GLv Γ119 (0) []  Tryd.f116 [.agg [.val (.int .i64 p_xa), .val (.int .i64 p_xb), .val (.int .i64 p_xk), .val (.int .i64 p_ya), .val (.int .i64 p_yb), .val (.int .i64 p_yk)], .val (.int .i64 t)] = some ((turnF t (⟨(⟨p_xa, p_xb, p_xk⟩ : N3), (⟨p_ya, p_yb, p_yk⟩ : N3)⟩ : P2)).av) := by
  simp only [Bool.and_eq_true, inB_iff] at hp
  obtain ⟨⟨h0, h7⟩, hq⟩ := hp
  have ho := okP_iff.1 hq
  obtain ⟨a1, a2, a3, _⟩ := turn_pre ho.1 ho.2
  simp only at a1 a2 a3
  have ht : t = 0 ∨ t = 1 ∨ t = 2 ∨ t = 3 ∨ t = 4 ∨ t = 5 ∨ t = 6 ∨ t = 7 := by omega
  clear h0 h7
  rcases ht with rfl | rfl | rfl | rfl | rfl | rfl | rfl | rfl
  · refine (show _ = some (quartI 0 (⟨(⟨p_xa, p_xb, p_xk⟩ : N3), (⟨p_ya, p_yb, p_yk⟩ : N3)⟩ : P2)).av from by kernel_rfl).trans ?_
    exact congrArg (fun z : P2 => some z.av) ((turnI hq 0 0 (by decide)).1 rfl)
  · refine (show _ = cond (pk (⟨p_xa, p_xb, p_xk⟩ : N3) (⟨p_ya, p_yb, p_yk⟩ : N3)) (cond (pkm (subF (⟨p_xa, p_xb, p_xk⟩ : N3) (⟨p_ya, p_yb, p_yk⟩ : N3)) hN) (cond (pk (⟨p_xa, p_xb, p_xk⟩ : N3) (⟨p_ya, p_yb, p_yk⟩ : N3)) (cond (pkm (addF (⟨p_xa, p_xb, p_xk⟩ : N3) (⟨p_ya, p_yb, p_yk⟩ : N3)) hN) (some (quartI 0 (rot45 (⟨(⟨p_xa, p_xb, p_xk⟩ : N3), (⟨p_ya, p_yb, p_yk⟩ : N3)⟩ : P2))).av) none) none) none) none from by kernel_rfl).trans ?_
    rw [a1, a2, a3]
    exact congrArg (fun z : P2 => some z.av) ((turnI hq 1 0 (by decide)).2 rfl)
  · refine (show _ = some (quartI 1 (⟨(⟨p_xa, p_xb, p_xk⟩ : N3), (⟨p_ya, p_yb, p_yk⟩ : N3)⟩ : P2)).av from by kernel_rfl).trans ?_
    exact congrArg (fun z : P2 => some z.av) ((turnI hq 2 1 (by decide)).1 rfl)
  · refine (show _ = cond (pk (⟨p_xa, p_xb, p_xk⟩ : N3) (⟨p_ya, p_yb, p_yk⟩ : N3)) (cond (pkm (subF (⟨p_xa, p_xb, p_xk⟩ : N3) (⟨p_ya, p_yb, p_yk⟩ : N3)) hN) (cond (pk (⟨p_xa, p_xb, p_xk⟩ : N3) (⟨p_ya, p_yb, p_yk⟩ : N3)) (cond (pkm (addF (⟨p_xa, p_xb, p_xk⟩ : N3) (⟨p_ya, p_yb, p_yk⟩ : N3)) hN) (some (quartI 1 (rot45 (⟨(⟨p_xa, p_xb, p_xk⟩ : N3), (⟨p_ya, p_yb, p_yk⟩ : N3)⟩ : P2))).av) none) none) none) none from by kernel_rfl).trans ?_
    rw [a1, a2, a3]
    exact congrArg (fun z : P2 => some z.av) ((turnI hq 3 1 (by decide)).2 rfl)
  · refine (show _ = some (quartI 2 (⟨(⟨p_xa, p_xb, p_xk⟩ : N3), (⟨p_ya, p_yb, p_yk⟩ : N3)⟩ : P2)).av from by kernel_rfl).trans ?_
    exact congrArg (fun z : P2 => some z.av) ((turnI hq 4 2 (by decide)).1 rfl)
  · refine (show _ = cond (pk (⟨p_xa, p_xb, p_xk⟩ : N3) (⟨p_ya, p_yb, p_yk⟩ : N3)) (cond (pkm (subF (⟨p_xa, p_xb, p_xk⟩ : N3) (⟨p_ya, p_yb, p_yk⟩ : N3)) hN) (cond (pk (⟨p_xa, p_xb, p_xk⟩ : N3) (⟨p_ya, p_yb, p_yk⟩ : N3)) (cond (pkm (addF (⟨p_xa, p_xb, p_xk⟩ : N3) (⟨p_ya, p_yb, p_yk⟩ : N3)) hN) (some (quartI 2 (rot45 (⟨(⟨p_xa, p_xb, p_xk⟩ : N3), (⟨p_ya, p_yb, p_yk⟩ : N3)⟩ : P2))).av) none) none) none) none from by kernel_rfl).trans ?_
    rw [a1, a2, a3]
    exact congrArg (fun z : P2 => some z.av) ((turnI hq 5 2 (by decide)).2 rfl)
  · refine (show _ = some (quartI 3 (⟨(⟨p_xa, p_xb, p_xk⟩ : N3), (⟨p_ya, p_yb, p_yk⟩ : N3)⟩ : P2)).av from by kernel_rfl).trans ?_
    exact congrArg (fun z : P2 => some z.av) ((turnI hq 6 3 (by decide)).1 rfl)
  · refine (show _ = cond (pk (⟨p_xa, p_xb, p_xk⟩ : N3) (⟨p_ya, p_yb, p_yk⟩ : N3)) (cond (pkm (subF (⟨p_xa, p_xb, p_xk⟩ : N3) (⟨p_ya, p_yb, p_yk⟩ : N3)) hN) (cond (pk (⟨p_xa, p_xb, p_xk⟩ : N3) (⟨p_ya, p_yb, p_yk⟩ : N3)) (cond (pkm (addF (⟨p_xa, p_xb, p_xk⟩ : N3) (⟨p_ya, p_yb, p_yk⟩ : N3)) hN) (some (quartI 3 (rot45 (⟨(⟨p_xa, p_xb, p_xk⟩ : N3), (⟨p_ya, p_yb, p_yk⟩ : N3)⟩ : P2))).av) none) none) none) none from by kernel_rfl).trans ?_
    rw [a1, a2, a3]
    exact congrArg (fun z : P2 => some z.av) ((turnI hq 7 3 (by decide)).2 rfl)
theorem m116 : Meets Tryd.prog GLv 116 s116 := by
  refine meetsN mix0 glv G119 Tryd.func116 (by kernel_rfl) (by kernel_rfl) s116 fun args x h => ?_
  unfold s116 at h
  split at h
  · rename_i p_xa p_xb p_xk p_ya p_yb p_yk t
    simp only [Option.some.injEq, Prod.mk.injEq] at h
    obtain ⟨hp, rfl⟩ := h
    exact ⟨_, _, by kernel_rfl, e116 p_xa p_xb p_xk p_ya p_yb p_yk t hp⟩
  · cases h
abbrev Γ120 : List (Nat × Ctr) := (116, s116) :: Γ119
theorem G120 : Sound Tryd.prog GLv Γ120 := G119.cons m116

-- spec.l04Turned
def s94 : Ctr := fun
  | [.val (.int .i64 t), .val (.bool f), .agg [.val (.int .i64 p_xa), .val (.int .i64 p_xb), .val (.int .i64 p_xk), .val (.int .i64 p_ya), .val (.int .i64 p_yb), .val (.int .i64 p_yk)]] => some (inB t 0 7 && okP (⟨(⟨p_xa, p_xb, p_xk⟩ : N3), (⟨p_ya, p_yb, p_yk⟩ : N3)⟩ : P2), (turnF t (flipP f (⟨(⟨p_xa, p_xb, p_xk⟩ : N3), (⟨p_ya, p_yb, p_yk⟩ : N3)⟩ : P2))).av)
  | _ => none

theorem e94 (t : Int) (f : Bool) (p_xa : Int) (p_xb : Int) (p_xk : Int) (p_ya : Int) (p_yb : Int) (p_yk : Int) (hp : (inB t 0 7 && okP (⟨(⟨p_xa, p_xb, p_xk⟩ : N3), (⟨p_ya, p_yb, p_yk⟩ : N3)⟩ : P2)) = true) : evN Tryd.prog GLv Γ120 (5) [true, true, false, false, false, true, true, true]  Tryd.f94 [.val (.int .i64 t), .val (.bool f), .agg [.val (.int .i64 p_xa), .val (.int .i64 p_xb), .val (.int .i64 p_xk), .val (.int .i64 p_ya), .val (.int .i64 p_yb), .val (.int .i64 p_yk)]] = some ((turnF t (flipP f (⟨(⟨p_xa, p_xb, p_xk⟩ : N3), (⟨p_ya, p_yb, p_yk⟩ : N3)⟩ : P2))).av) := by
  cases f with
  | true =>
    simp only [Bool.and_eq_true, inB_iff] at hp
    obtain ⟨⟨h0, h7⟩, hq⟩ := hp
    have ho := okP_iff.1 hq
    obtain ⟨a1, a2, a3, _⟩ := turn_pre ho.1 ho.2
    simp only at a1 a2 a3
    have ht : t = 0 ∨ t = 1 ∨ t = 2 ∨ t = 3 ∨ t = 4 ∨ t = 5 ∨ t = 6 ∨ t = 7 := by omega
    clear h0 h7
    rcases ht with rfl | rfl | rfl | rfl | rfl | rfl | rfl | rfl
    · refine (show _ = some ((quartS 0 (flipP true (⟨(⟨p_xa, p_xb, p_xk⟩ : N3), (⟨p_ya, p_yb, p_yk⟩ : N3)⟩ : P2)))).av from by kernel_rfl).trans ?_
      exact congrArg (fun z : P2 => some z.av) ((turnS (flip_ok hq true) 0 0).1 rfl)
    · refine (show _ = cond (pk (quartS 0 (flipP true (⟨(⟨p_xa, p_xb, p_xk⟩ : N3), (⟨p_ya, p_yb, p_yk⟩ : N3)⟩ : P2))).x (quartS 0 (flipP true (⟨(⟨p_xa, p_xb, p_xk⟩ : N3), (⟨p_ya, p_yb, p_yk⟩ : N3)⟩ : P2))).y) (cond (pkm (subF (quartS 0 (flipP true (⟨(⟨p_xa, p_xb, p_xk⟩ : N3), (⟨p_ya, p_yb, p_yk⟩ : N3)⟩ : P2))).x (quartS 0 (flipP true (⟨(⟨p_xa, p_xb, p_xk⟩ : N3), (⟨p_ya, p_yb, p_yk⟩ : N3)⟩ : P2))).y) hN) (cond (pk (quartS 0 (flipP true (⟨(⟨p_xa, p_xb, p_xk⟩ : N3), (⟨p_ya, p_yb, p_yk⟩ : N3)⟩ : P2))).x (quartS 0 (flipP true (⟨(⟨p_xa, p_xb, p_xk⟩ : N3), (⟨p_ya, p_yb, p_yk⟩ : N3)⟩ : P2))).y) (cond (pkm (addF (quartS 0 (flipP true (⟨(⟨p_xa, p_xb, p_xk⟩ : N3), (⟨p_ya, p_yb, p_yk⟩ : N3)⟩ : P2))).x (quartS 0 (flipP true (⟨(⟨p_xa, p_xb, p_xk⟩ : N3), (⟨p_ya, p_yb, p_yk⟩ : N3)⟩ : P2))).y) hN) (some (rot45 (quartS 0 (flipP true (⟨(⟨p_xa, p_xb, p_xk⟩ : N3), (⟨p_ya, p_yb, p_yk⟩ : N3)⟩ : P2)))).av) none) none) none) none from by kernel_rfl).trans ?_
      obtain ⟨c1, c2, c3⟩ := quartS_ok (flip_ok hq true) 0
      rw [c1, c2, c3]
      exact congrArg (fun z : P2 => some z.av) ((turnS (flip_ok hq true) 1 0).2 rfl)
    · refine (show _ = some ((quartS 1 (flipP true (⟨(⟨p_xa, p_xb, p_xk⟩ : N3), (⟨p_ya, p_yb, p_yk⟩ : N3)⟩ : P2)))).av from by kernel_rfl).trans ?_
      exact congrArg (fun z : P2 => some z.av) ((turnS (flip_ok hq true) 2 1).1 rfl)
    · refine (show _ = cond (pk (quartS 1 (flipP true (⟨(⟨p_xa, p_xb, p_xk⟩ : N3), (⟨p_ya, p_yb, p_yk⟩ : N3)⟩ : P2))).x (quartS 1 (flipP true (⟨(⟨p_xa, p_xb, p_xk⟩ : N3), (⟨p_ya, p_yb, p_yk⟩ : N3)⟩ : P2))).y) (cond (pkm (subF (quartS 1 (flipP true (⟨(⟨p_xa, p_xb, p_xk⟩ : N3), (⟨p_ya, p_yb, p_yk⟩ : N3)⟩ : P2))).x (quartS 1 (flipP true (⟨(⟨p_xa, p_xb, p_xk⟩ : N3), (⟨p_ya, p_yb, p_yk⟩ : N3)⟩ : P2))).y) hN) (cond (pk (quartS 1 (flipP true (⟨(⟨p_xa, p_xb, p_xk⟩ : N3), (⟨p_ya, p_yb, p_yk⟩ : N3)⟩ : P2))).x (quartS 1 (flipP true (⟨(⟨p_xa, p_xb, p_xk⟩ : N3), (⟨p_ya, p_yb, p_yk⟩ : N3)⟩ : P2))).y) (cond (pkm (addF (quartS 1 (flipP true (⟨(⟨p_xa, p_xb, p_xk⟩ : N3), (⟨p_ya, p_yb, p_yk⟩ : N3)⟩ : P2))).x (quartS 1 (flipP true (⟨(⟨p_xa, p_xb, p_xk⟩ : N3), (⟨p_ya, p_yb, p_yk⟩ : N3)⟩ : P2))).y) hN) (some (rot45 (quartS 1 (flipP true (⟨(⟨p_xa, p_xb, p_xk⟩ : N3), (⟨p_ya, p_yb, p_yk⟩ : N3)⟩ : P2)))).av) none) none) none) none from by kernel_rfl).trans ?_
      obtain ⟨c1, c2, c3⟩ := quartS_ok (flip_ok hq true) 1
      rw [c1, c2, c3]
      exact congrArg (fun z : P2 => some z.av) ((turnS (flip_ok hq true) 3 1).2 rfl)
    · refine (show _ = some ((quartS 2 (flipP true (⟨(⟨p_xa, p_xb, p_xk⟩ : N3), (⟨p_ya, p_yb, p_yk⟩ : N3)⟩ : P2)))).av from by kernel_rfl).trans ?_
      exact congrArg (fun z : P2 => some z.av) ((turnS (flip_ok hq true) 4 2).1 rfl)
    · refine (show _ = cond (pk (quartS 2 (flipP true (⟨(⟨p_xa, p_xb, p_xk⟩ : N3), (⟨p_ya, p_yb, p_yk⟩ : N3)⟩ : P2))).x (quartS 2 (flipP true (⟨(⟨p_xa, p_xb, p_xk⟩ : N3), (⟨p_ya, p_yb, p_yk⟩ : N3)⟩ : P2))).y) (cond (pkm (subF (quartS 2 (flipP true (⟨(⟨p_xa, p_xb, p_xk⟩ : N3), (⟨p_ya, p_yb, p_yk⟩ : N3)⟩ : P2))).x (quartS 2 (flipP true (⟨(⟨p_xa, p_xb, p_xk⟩ : N3), (⟨p_ya, p_yb, p_yk⟩ : N3)⟩ : P2))).y) hN) (cond (pk (quartS 2 (flipP true (⟨(⟨p_xa, p_xb, p_xk⟩ : N3), (⟨p_ya, p_yb, p_yk⟩ : N3)⟩ : P2))).x (quartS 2 (flipP true (⟨(⟨p_xa, p_xb, p_xk⟩ : N3), (⟨p_ya, p_yb, p_yk⟩ : N3)⟩ : P2))).y) (cond (pkm (addF (quartS 2 (flipP true (⟨(⟨p_xa, p_xb, p_xk⟩ : N3), (⟨p_ya, p_yb, p_yk⟩ : N3)⟩ : P2))).x (quartS 2 (flipP true (⟨(⟨p_xa, p_xb, p_xk⟩ : N3), (⟨p_ya, p_yb, p_yk⟩ : N3)⟩ : P2))).y) hN) (some (rot45 (quartS 2 (flipP true (⟨(⟨p_xa, p_xb, p_xk⟩ : N3), (⟨p_ya, p_yb, p_yk⟩ : N3)⟩ : P2)))).av) none) none) none) none from by kernel_rfl).trans ?_
      obtain ⟨c1, c2, c3⟩ := quartS_ok (flip_ok hq true) 2
      rw [c1, c2, c3]
      exact congrArg (fun z : P2 => some z.av) ((turnS (flip_ok hq true) 5 2).2 rfl)
    · refine (show _ = some ((quartS 3 (flipP true (⟨(⟨p_xa, p_xb, p_xk⟩ : N3), (⟨p_ya, p_yb, p_yk⟩ : N3)⟩ : P2)))).av from by kernel_rfl).trans ?_
      exact congrArg (fun z : P2 => some z.av) ((turnS (flip_ok hq true) 6 3).1 rfl)
    · refine (show _ = cond (pk (quartS 3 (flipP true (⟨(⟨p_xa, p_xb, p_xk⟩ : N3), (⟨p_ya, p_yb, p_yk⟩ : N3)⟩ : P2))).x (quartS 3 (flipP true (⟨(⟨p_xa, p_xb, p_xk⟩ : N3), (⟨p_ya, p_yb, p_yk⟩ : N3)⟩ : P2))).y) (cond (pkm (subF (quartS 3 (flipP true (⟨(⟨p_xa, p_xb, p_xk⟩ : N3), (⟨p_ya, p_yb, p_yk⟩ : N3)⟩ : P2))).x (quartS 3 (flipP true (⟨(⟨p_xa, p_xb, p_xk⟩ : N3), (⟨p_ya, p_yb, p_yk⟩ : N3)⟩ : P2))).y) hN) (cond (pk (quartS 3 (flipP true (⟨(⟨p_xa, p_xb, p_xk⟩ : N3), (⟨p_ya, p_yb, p_yk⟩ : N3)⟩ : P2))).x (quartS 3 (flipP true (⟨(⟨p_xa, p_xb, p_xk⟩ : N3), (⟨p_ya, p_yb, p_yk⟩ : N3)⟩ : P2))).y) (cond (pkm (addF (quartS 3 (flipP true (⟨(⟨p_xa, p_xb, p_xk⟩ : N3), (⟨p_ya, p_yb, p_yk⟩ : N3)⟩ : P2))).x (quartS 3 (flipP true (⟨(⟨p_xa, p_xb, p_xk⟩ : N3), (⟨p_ya, p_yb, p_yk⟩ : N3)⟩ : P2))).y) hN) (some (rot45 (quartS 3 (flipP true (⟨(⟨p_xa, p_xb, p_xk⟩ : N3), (⟨p_ya, p_yb, p_yk⟩ : N3)⟩ : P2)))).av) none) none) none) none from by kernel_rfl).trans ?_
      obtain ⟨c1, c2, c3⟩ := quartS_ok (flip_ok hq true) 3
      rw [c1, c2, c3]
      exact congrArg (fun z : P2 => some z.av) ((turnS (flip_ok hq true) 7 3).2 rfl)
  | false =>
    simp only [Bool.and_eq_true, inB_iff] at hp
    obtain ⟨⟨h0, h7⟩, hq⟩ := hp
    have ho := okP_iff.1 hq
    obtain ⟨a1, a2, a3, _⟩ := turn_pre ho.1 ho.2
    simp only at a1 a2 a3
    have ht : t = 0 ∨ t = 1 ∨ t = 2 ∨ t = 3 ∨ t = 4 ∨ t = 5 ∨ t = 6 ∨ t = 7 := by omega
    clear h0 h7
    rcases ht with rfl | rfl | rfl | rfl | rfl | rfl | rfl | rfl
    · refine (show _ = some ((quartS 0 (flipP false (⟨(⟨p_xa, p_xb, p_xk⟩ : N3), (⟨p_ya, p_yb, p_yk⟩ : N3)⟩ : P2)))).av from by kernel_rfl).trans ?_
      exact congrArg (fun z : P2 => some z.av) ((turnS (flip_ok hq false) 0 0).1 rfl)
    · refine (show _ = cond (pk (quartS 0 (flipP false (⟨(⟨p_xa, p_xb, p_xk⟩ : N3), (⟨p_ya, p_yb, p_yk⟩ : N3)⟩ : P2))).x (quartS 0 (flipP false (⟨(⟨p_xa, p_xb, p_xk⟩ : N3), (⟨p_ya, p_yb, p_yk⟩ : N3)⟩ : P2))).y) (cond (pkm (subF (quartS 0 (flipP false (⟨(⟨p_xa, p_xb, p_xk⟩ : N3), (⟨p_ya, p_yb, p_yk⟩ : N3)⟩ : P2))).x (quartS 0 (flipP false (⟨(⟨p_xa, p_xb, p_xk⟩ : N3), (⟨p_ya, p_yb, p_yk⟩ : N3)⟩ : P2))).y) hN) (cond (pk (quartS 0 (flipP false (⟨(⟨p_xa, p_xb, p_xk⟩ : N3), (⟨p_ya, p_yb, p_yk⟩ : N3)⟩ : P2))).x (quartS 0 (flipP false (⟨(⟨p_xa, p_xb, p_xk⟩ : N3), (⟨p_ya, p_yb, p_yk⟩ : N3)⟩ : P2))).y) (cond (pkm (addF (quartS 0 (flipP false (⟨(⟨p_xa, p_xb, p_xk⟩ : N3), (⟨p_ya, p_yb, p_yk⟩ : N3)⟩ : P2))).x (quartS 0 (flipP false (⟨(⟨p_xa, p_xb, p_xk⟩ : N3), (⟨p_ya, p_yb, p_yk⟩ : N3)⟩ : P2))).y) hN) (some (rot45 (quartS 0 (flipP false (⟨(⟨p_xa, p_xb, p_xk⟩ : N3), (⟨p_ya, p_yb, p_yk⟩ : N3)⟩ : P2)))).av) none) none) none) none from by kernel_rfl).trans ?_
      obtain ⟨c1, c2, c3⟩ := quartS_ok (flip_ok hq false) 0
      rw [c1, c2, c3]
      exact congrArg (fun z : P2 => some z.av) ((turnS (flip_ok hq false) 1 0).2 rfl)
    · refine (show _ = some ((quartS 1 (flipP false (⟨(⟨p_xa, p_xb, p_xk⟩ : N3), (⟨p_ya, p_yb, p_yk⟩ : N3)⟩ : P2)))).av from by kernel_rfl).trans ?_
      exact congrArg (fun z : P2 => some z.av) ((turnS (flip_ok hq false) 2 1).1 rfl)
    · refine (show _ = cond (pk (quartS 1 (flipP false (⟨(⟨p_xa, p_xb, p_xk⟩ : N3), (⟨p_ya, p_yb, p_yk⟩ : N3)⟩ : P2))).x (quartS 1 (flipP false (⟨(⟨p_xa, p_xb, p_xk⟩ : N3), (⟨p_ya, p_yb, p_yk⟩ : N3)⟩ : P2))).y) (cond (pkm (subF (quartS 1 (flipP false (⟨(⟨p_xa, p_xb, p_xk⟩ : N3), (⟨p_ya, p_yb, p_yk⟩ : N3)⟩ : P2))).x (quartS 1 (flipP false (⟨(⟨p_xa, p_xb, p_xk⟩ : N3), (⟨p_ya, p_yb, p_yk⟩ : N3)⟩ : P2))).y) hN) (cond (pk (quartS 1 (flipP false (⟨(⟨p_xa, p_xb, p_xk⟩ : N3), (⟨p_ya, p_yb, p_yk⟩ : N3)⟩ : P2))).x (quartS 1 (flipP false (⟨(⟨p_xa, p_xb, p_xk⟩ : N3), (⟨p_ya, p_yb, p_yk⟩ : N3)⟩ : P2))).y) (cond (pkm (addF (quartS 1 (flipP false (⟨(⟨p_xa, p_xb, p_xk⟩ : N3), (⟨p_ya, p_yb, p_yk⟩ : N3)⟩ : P2))).x (quartS 1 (flipP false (⟨(⟨p_xa, p_xb, p_xk⟩ : N3), (⟨p_ya, p_yb, p_yk⟩ : N3)⟩ : P2))).y) hN) (some (rot45 (quartS 1 (flipP false (⟨(⟨p_xa, p_xb, p_xk⟩ : N3), (⟨p_ya, p_yb, p_yk⟩ : N3)⟩ : P2)))).av) none) none) none) none from by kernel_rfl).trans ?_
      obtain ⟨c1, c2, c3⟩ := quartS_ok (flip_ok hq false) 1
      rw [c1, c2, c3]
      exact congrArg (fun z : P2 => some z.av) ((turnS (flip_ok hq false) 3 1).2 rfl)
    · refine (show _ = some ((quartS 2 (flipP false (⟨(⟨p_xa, p_xb, p_xk⟩ : N3), (⟨p_ya, p_yb, p_yk⟩ : N3)⟩ : P2)))).av from by kernel_rfl).trans ?_
      exact congrArg (fun z : P2 => some z.av) ((turnS (flip_ok hq false) 4 2).1 rfl)
    · refine (show _ = cond (pk (quartS 2 (flipP false (⟨(⟨p_xa, p_xb, p_xk⟩ : N3), (⟨p_ya, p_yb, p_yk⟩ : N3)⟩ : P2))).x (quartS 2 (flipP false (⟨(⟨p_xa, p_xb, p_xk⟩ : N3), (⟨p_ya, p_yb, p_yk⟩ : N3)⟩ : P2))).y) (cond (pkm (subF (quartS 2 (flipP false (⟨(⟨p_xa, p_xb, p_xk⟩ : N3), (⟨p_ya, p_yb, p_yk⟩ : N3)⟩ : P2))).x (quartS 2 (flipP false (⟨(⟨p_xa, p_xb, p_xk⟩ : N3), (⟨p_ya, p_yb, p_yk⟩ : N3)⟩ : P2))).y) hN) (cond (pk (quartS 2 (flipP false (⟨(⟨p_xa, p_xb, p_xk⟩ : N3), (⟨p_ya, p_yb, p_yk⟩ : N3)⟩ : P2))).x (quartS 2 (flipP false (⟨(⟨p_xa, p_xb, p_xk⟩ : N3), (⟨p_ya, p_yb, p_yk⟩ : N3)⟩ : P2))).y) (cond (pkm (addF (quartS 2 (flipP false (⟨(⟨p_xa, p_xb, p_xk⟩ : N3), (⟨p_ya, p_yb, p_yk⟩ : N3)⟩ : P2))).x (quartS 2 (flipP false (⟨(⟨p_xa, p_xb, p_xk⟩ : N3), (⟨p_ya, p_yb, p_yk⟩ : N3)⟩ : P2))).y) hN) (some (rot45 (quartS 2 (flipP false (⟨(⟨p_xa, p_xb, p_xk⟩ : N3), (⟨p_ya, p_yb, p_yk⟩ : N3)⟩ : P2)))).av) none) none) none) none from by kernel_rfl).trans ?_
      obtain ⟨c1, c2, c3⟩ := quartS_ok (flip_ok hq false) 2
      rw [c1, c2, c3]
      exact congrArg (fun z : P2 => some z.av) ((turnS (flip_ok hq false) 5 2).2 rfl)
    · refine (show _ = some ((quartS 3 (flipP false (⟨(⟨p_xa, p_xb, p_xk⟩ : N3), (⟨p_ya, p_yb, p_yk⟩ : N3)⟩ : P2)))).av from by kernel_rfl).trans ?_
      exact congrArg (fun z : P2 => some z.av) ((turnS (flip_ok hq false) 6 3).1 rfl)
    · refine (show _ = cond (pk (quartS 3 (flipP false (⟨(⟨p_xa, p_xb, p_xk⟩ : N3), (⟨p_ya, p_yb, p_yk⟩ : N3)⟩ : P2))).x (quartS 3 (flipP false (⟨(⟨p_xa, p_xb, p_xk⟩ : N3), (⟨p_ya, p_yb, p_yk⟩ : N3)⟩ : P2))).y) (cond (pkm (subF (quartS 3 (flipP false (⟨(⟨p_xa, p_xb, p_xk⟩ : N3), (⟨p_ya, p_yb, p_yk⟩ : N3)⟩ : P2))).x (quartS 3 (flipP false (⟨(⟨p_xa, p_xb, p_xk⟩ : N3), (⟨p_ya, p_yb, p_yk⟩ : N3)⟩ : P2))).y) hN) (cond (pk (quartS 3 (flipP false (⟨(⟨p_xa, p_xb, p_xk⟩ : N3), (⟨p_ya, p_yb, p_yk⟩ : N3)⟩ : P2))).x (quartS 3 (flipP false (⟨(⟨p_xa, p_xb, p_xk⟩ : N3), (⟨p_ya, p_yb, p_yk⟩ : N3)⟩ : P2))).y) (cond (pkm (addF (quartS 3 (flipP false (⟨(⟨p_xa, p_xb, p_xk⟩ : N3), (⟨p_ya, p_yb, p_yk⟩ : N3)⟩ : P2))).x (quartS 3 (flipP false (⟨(⟨p_xa, p_xb, p_xk⟩ : N3), (⟨p_ya, p_yb, p_yk⟩ : N3)⟩ : P2))).y) hN) (some (rot45 (quartS 3 (flipP false (⟨(⟨p_xa, p_xb, p_xk⟩ : N3), (⟨p_ya, p_yb, p_yk⟩ : N3)⟩ : P2)))).av) none) none) none) none from by kernel_rfl).trans ?_
      obtain ⟨c1, c2, c3⟩ := quartS_ok (flip_ok hq false) 3
      rw [c1, c2, c3]
      exact congrArg (fun z : P2 => some z.av) ((turnS (flip_ok hq false) 7 3).2 rfl)
theorem m94 : Meets Tryd.prog GLv 94 s94 := by
  refine meetsN mix0 glv G120 Tryd.func94 (by kernel_rfl) (by kernel_rfl) s94 fun args x h => ?_
  unfold s94 at h
  split at h
  · rename_i t f p_xa p_xb p_xk p_ya p_yb p_yk
    simp only [Option.some.injEq, Prod.mk.injEq] at h
    obtain ⟨hp, rfl⟩ := h
    exact ⟨_, _, by kernel_rfl, e94 t f p_xa p_xb p_xk p_ya p_yb p_yk hp⟩
  · cases h
abbrev Γ121 : List (Nat × Ctr) := (94, s94) :: Γ120
theorem G121 : Sound Tryd.prog GLv Γ121 := G120.cons m94

-- (impl.Motion).linear
def s95 : Ctr := fun
  | [.agg [.val (.int .i64 m_t), .val (.bool m_f), .val (.int .i64 m_xa), .val (.int .i64 m_xb), .val (.int .i64 m_xk), .val (.int .i64 m_ya), .val (.int .i64 m_yb), .val (.int .i64 m_yk)], .agg [.val (.int .i64 p_xa), .val (.int .i64 p_xb), .val (.int .i64 p_xk), .val (.int .i64 p_ya), .val (.int .i64 p_yb), .val (.int .i64 p_yk)]] => some (inB m_t 0 7 && okP (⟨(⟨p_xa, p_xb, p_xk⟩ : N3), (⟨p_ya, p_yb, p_yk⟩ : N3)⟩ : P2), (turnF m_t (flipP m_f (⟨(⟨p_xa, p_xb, p_xk⟩ : N3), (⟨p_ya, p_yb, p_yk⟩ : N3)⟩ : P2))).av)
  | _ => none

theorem e95 (m_t : Int) (m_f : Bool) (m_xa : Int) (m_xb : Int) (m_xk : Int) (m_ya : Int) (m_yb : Int) (m_yk : Int) (p_xa : Int) (p_xb : Int) (p_xk : Int) (p_ya : Int) (p_yb : Int) (p_yk : Int) (hp : (inB m_t 0 7 && okP (⟨(⟨p_xa, p_xb, p_xk⟩ : N3), (⟨p_ya, p_yb, p_yk⟩ : N3)⟩ : P2)) = true) : evN Tryd.prog GLv Γ121 (0) []  Tryd.f95 [.agg [.val (.int .i64 m_t), .val (.bool m_f), .val (.int .i64 m_xa), .val (.int .i64 m_xb), .val (.int .i64 m_xk), .val (.int .i64 m_ya), .val (.int .i64 m_yb), .val (.int .i64 m_yk)], .agg [.val (.int .i64 p_xa), .val (.int .i64 p_xb), .val (.int .i64 p_xk), .val (.int .i64 p_ya), .val (.int .i64 p_yb), .val (.int .i64 p_yk)]] = some ((turnF m_t (flipP m_f (⟨(⟨p_xa, p_xb, p_xk⟩ : N3), (⟨p_ya, p_yb, p_yk⟩ : N3)⟩ : P2))).av) := by
  have hq := (Bool.and_eq_true _ _ ▸ hp)
  have h1 : (inB m_t 0 7 && okP (flipP m_f (⟨(⟨p_xa, p_xb, p_xk⟩ : N3), (⟨p_ya, p_yb, p_yk⟩ : N3)⟩ : P2))) = true := by rw [hq.1, flip_ok hq.2 m_f]; rfl
  cases m_f with
  | true =>
    refine (show _ = cond (inB m_t 0 7 && okP (flipP true (⟨(⟨p_xa, p_xb, p_xk⟩ : N3), (⟨p_ya, p_yb, p_yk⟩ : N3)⟩ : P2))) (some (turnF m_t (flipP true (⟨(⟨p_xa, p_xb, p_xk⟩ : N3), (⟨p_ya, p_yb, p_yk⟩ : N3)⟩ : P2))).av) none from by kernel_rfl).trans ?_
    rw [h1]
    rfl
  | false =>
    refine (show _ = cond (inB m_t 0 7 && okP (flipP false (⟨(⟨p_xa, p_xb, p_xk⟩ : N3), (⟨p_ya, p_yb, p_yk⟩ : N3)⟩ : P2))) (some (turnF m_t (flipP false (⟨(⟨p_xa, p_xb, p_xk⟩ : N3), (⟨p_ya, p_yb, p_yk⟩ : N3)⟩ : P2))).av) none from by kernel_rfl).trans ?_
    rw [h1]
    rfl
theorem m95 : Meets Tryd.prog GLv 95 s95 := by
  refine meetsN mix0 glv G121 Tryd.func95 (by kernel_rfl) (by kernel_rfl) s95 fun args x h => ?_
  unfold s95 at h
  split at h
  · rename_i m_t m_f m_xa m_xb m_xk m_ya m_yb m_yk p_xa p_xb p_xk p_ya p_yb p_yk
    simp only [Option.some.injEq, Prod.mk.injEq] at h
    obtain ⟨hp, rfl⟩ := h
    exact ⟨_, _, by kernel_rfl, e95 m_t m_f m_xa m_xb m_xk m_ya m_yb m_yk p_xa p_xb p_xk p_ya p_yb p_yk hp⟩
  · cases h
abbrev Γ122 : List (Nat × Ctr) := (95, s95) :: Γ121
theorem G122 : Sound Tryd.prog GLv Γ122 := G121.cons m95

-- (impl.Motion).shift
def s97 : Ctr := fun
  | [.agg [.val (.int .i64 m_t), .val (.bool m_f), .val (.int .i64 m_xa), .val (.int .i64 m_xb), .val (.int .i64 m_xk), .val (.int .i64 m_ya), .val (.int .i64 m_yb), .val (.int .i64 m_yk)]] => some (true, (⟨⟨m_xa, m_xb, m_xk⟩, ⟨m_ya, m_yb, m_yk⟩⟩ : P2).av)
  | _ => none

theorem e97 (m_t : Int) (m_f : Bool) (m_xa : Int) (m_xb : Int) (m_xk : Int) (m_ya : Int) (m_yb : Int) (m_yk : Int) : evN Tryd.prog GLv Γ122 (0) []  Tryd.f97 [.agg [.val (.int .i64 m_t), .val (.bool m_f), .val (.int .i64 m_xa), .val (.int .i64 m_xb), .val (.int .i64 m_xk), .val (.int .i64 m_ya), .val (.int .i64 m_yb), .val (.int .i64 m_yk)]] = some ((⟨⟨m_xa, m_xb, m_xk⟩, ⟨m_ya, m_yb, m_yk⟩⟩ : P2).av) := by
  kernel_rfl
theorem m97 : Meets Tryd.prog GLv 97 s97 := by
  refine meetsN mix0 glv G122 Tryd.func97 (by kernel_rfl) (by kernel_rfl) s97 fun args x h => ?_
  unfold s97 at h
  split at h
  · rename_i m_t m_f m_xa m_xb m_xk m_ya m_yb m_yk
    simp only [Option.some.injEq, Prod.mk.injEq] at h
    obtain ⟨hp, rfl⟩ := h
    exact ⟨_, _, by kernel_rfl, e97 m_t m_f m_xa m_xb m_xk m_ya m_yb m_yk⟩
  · cases h
abbrev Γ123 : List (Nat × Ctr) := (97, s97) :: Γ122
theorem G123 : Sound Tryd.prog GLv Γ123 := G122.cons m97

-- spec.l04Of
def s35 : Ctr := fun
  | [.agg [.val (.int .i64 m_t), .val (.bool m_f), .val (.int .i64 m_xa), .val (.int .i64 m_xb), .val (.int .i64 m_xk), .val (.int .i64 m_ya), .val (.int .i64 m_yb), .val (.int .i64 m_yk)]] => some (true, .agg [.val (.int .i64 m_t), .val (.bool m_f), .val (.int .i64 m_xa), .val (.int .i64 m_xb), .val (.int .i64 m_xk), .val (.int .i64 m_ya), .val (.int .i64 m_yb), .val (.int .i64 m_yk)])
  | _ => none

theorem e35 (m_t : Int) (m_f : Bool) (m_xa : Int) (m_xb : Int) (m_xk : Int) (m_ya : Int) (m_yb : Int) (m_yk : Int) : evN Tryd.prog GLv Γ123 (0) []  Tryd.f35 [.agg [.val (.int .i64 m_t), .val (.bool m_f), .val (.int .i64 m_xa), .val (.int .i64 m_xb), .val (.int .i64 m_xk), .val (.int .i64 m_ya), .val (.int .i64 m_yb), .val (.int .i64 m_yk)]] = some (.agg [.val (.int .i64 m_t), .val (.bool m_f), .val (.int .i64 m_xa), .val (.int .i64 m_xb), .val (.int .i64 m_xk), .val (.int .i64 m_ya), .val (.int .i64 m_yb), .val (.int .i64 m_yk)]) := by
  kernel_rfl
theorem m35 : Meets Tryd.prog GLv 35 s35 := by
  refine meetsN mix0 glv G123 Tryd.func35 (by kernel_rfl) (by kernel_rfl) s35 fun args x h => ?_
  unfold s35 at h
  split at h
  · rename_i m_t m_f m_xa m_xb m_xk m_ya m_yb m_yk
    simp only [Option.some.injEq, Prod.mk.injEq] at h
    obtain ⟨hp, rfl⟩ := h
    exact ⟨_, _, by kernel_rfl, e35 m_t m_f m_xa m_xb m_xk m_ya m_yb m_yk⟩
  · cases h
abbrev Γ124 : List (Nat × Ctr) := (35, s35) :: Γ123
theorem G124 : Sound Tryd.prog GLv Γ124 := G123.cons m35

-- laws.toMotion
def s14 : Ctr := fun
  | [.agg [.val (.int .i64 m_t), .val (.bool m_f), .val (.int .i64 m_xa), .val (.int .i64 m_xb), .val (.int .i64 m_xk), .val (.int .i64 m_ya), .val (.int .i64 m_yb), .val (.int .i64 m_yk)]] => some (true, .agg [.val (.int .i64 m_t), .val (.bool m_f), .val (.int .i64 m_xa), .val (.int .i64 m_xb), .val (.int .i64 m_xk), .val (.int .i64 m_ya), .val (.int .i64 m_yb), .val (.int .i64 m_yk)])
  | _ => none

theorem e14 (m_t : Int) (m_f : Bool) (m_xa : Int) (m_xb : Int) (m_xk : Int) (m_ya : Int) (m_yb : Int) (m_yk : Int) : evN Tryd.prog GLv Γ124 (0) []  Tryd.f14 [.agg [.val (.int .i64 m_t), .val (.bool m_f), .val (.int .i64 m_xa), .val (.int .i64 m_xb), .val (.int .i64 m_xk), .val (.int .i64 m_ya), .val (.int .i64 m_yb), .val (.int .i64 m_yk)]] = some (.agg [.val (.int .i64 m_t), .val (.bool m_f), .val (.int .i64 m_xa), .val (.int .i64 m_xb), .val (.int .i64 m_xk), .val (.int .i64 m_ya), .val (.int .i64 m_yb), .val (.int .i64 m_yk)]) := by
  kernel_rfl
theorem m14 : Meets Tryd.prog GLv 14 s14 := by
  refine meetsN mix0 glv G124 Tryd.func14 (by kernel_rfl) (by kernel_rfl) s14 fun args x h => ?_
  unfold s14 at h
  split at h
  · rename_i m_t m_f m_xa m_xb m_xk m_ya m_yb m_yk
    simp only [Option.some.injEq, Prod.mk.injEq] at h
    obtain ⟨hp, rfl⟩ := h
    exact ⟨_, _, by kernel_rfl, e14 m_t m_f m_xa m_xb m_xk m_ya m_yb m_yk⟩
  · cases h
abbrev Γ125 : List (Nat × Ctr) := (14, s14) :: Γ124
theorem G125 : Sound Tryd.prog GLv Γ125 := G124.cons m14

-- (impl.Motion).move
def s71 : Ctr := fun
  | [.agg [.val (.int .i64 m_t), .val (.bool m_f), .val (.int .i64 m_xa), .val (.int .i64 m_xb), .val (.int .i64 m_xk), .val (.int .i64 m_ya), .val (.int .i64 m_yb), .val (.int .i64 m_yk)], .agg [.val (.int .i64 p_xa), .val (.int .i64 p_xb), .val (.int .i64 p_xk), .val (.int .i64 p_ya), .val (.int .i64 p_yb), .val (.int .i64 p_yk)]] => some (okM m_t (⟨(⟨p_xa, p_xb, p_xk⟩ : N3), (⟨p_ya, p_yb, p_yk⟩ : N3)⟩ : P2) (⟨⟨m_xa, m_xb, m_xk⟩, ⟨m_ya, m_yb, m_yk⟩⟩ : P2), (moveF m_t m_f (⟨⟨m_xa, m_xb, m_xk⟩, ⟨m_ya, m_yb, m_yk⟩⟩ : P2) (⟨(⟨p_xa, p_xb, p_xk⟩ : N3), (⟨p_ya, p_yb, p_yk⟩ : N3)⟩ : P2)).av)
  | _ => none

theorem e71 (m_t : Int) (m_f : Bool) (m_xa : Int) (m_xb : Int) (m_xk : Int) (m_ya : Int) (m_yb : Int) (m_yk : Int) (p_xa : Int) (p_xb : Int) (p_xk : Int) (p_ya : Int) (p_yb : Int) (p_yk : Int) (hp : (okM m_t (⟨(⟨p_xa, p_xb, p_xk⟩ : N3), (⟨p_ya, p_yb, p_yk⟩ : N3)⟩ : P2) (⟨⟨m_xa, m_xb, m_xk⟩, ⟨m_ya, m_yb, m_yk⟩⟩ : P2)) = true) : evN Tryd.prog GLv Γ125 (0) []  Tryd.f71 [.agg [.val (.int .i64 m_t), .val (.bool m_f), .val (.int .i64 m_xa), .val (.int .i64 m_xb), .val (.int .i64 m_xk), .val (.int .i64 m_ya), .val (.int .i64 m_yb), .val (.int .i64 m_yk)], .agg [.val (.int .i64 p_xa), .val (.int .i64 p_xb), .val (.int .i64 p_xk), .val (.int .i64 p_ya), .val (.int .i64 p_yb), .val (.int .i64 p_yk)]] = some ((moveF m_t m_f (⟨⟨m_xa, m_xb, m_xk⟩, ⟨m_ya, m_yb, m_yk⟩⟩ : P2) (⟨(⟨p_xa, p_xb, p_xk⟩ : N3), (⟨p_ya, p_yb, p_yk⟩ : N3)⟩ : P2)).av) := by
  unfold okM at hp
  simp only [Bool.and_eq_true] at hp
  obtain ⟨h1, h2, h3⟩ := hp
  obtain ⟨k1, k2, k3, _⟩ := turn_pk (flip_ok h2 m_f) h3 m_t
  refine (show _ = cond (inB m_t 0 7 && okP (⟨(⟨p_xa, p_xb, p_xk⟩ : N3), (⟨p_ya, p_yb, p_yk⟩ : N3)⟩ : P2)) (cond (pkP (turnF m_t (flipP m_f (⟨(⟨p_xa, p_xb, p_xk⟩ : N3), (⟨p_ya, p_yb, p_yk⟩ : N3)⟩ : P2))) (⟨⟨m_xa, m_xb, m_xk⟩, ⟨m_ya, m_yb, m_yk⟩⟩ : P2)) (some (moveF m_t m_f (⟨⟨m_xa, m_xb, m_xk⟩, ⟨m_ya, m_yb, m_yk⟩⟩ : P2) (⟨(⟨p_xa, p_xb, p_xk⟩ : N3), (⟨p_ya, p_yb, p_yk⟩ : N3)⟩ : P2)).av) none) none from by kernel_rfl).trans ?_
  rw [h1, h2, k3]
  rfl
theorem m71 : Meets Tryd.prog GLv 71 s71 := by
  refine meetsN mix0 glv G125 Tryd.func71 (by kernel_rfl) (by kernel_rfl) s71 fun args x h => ?_
  unfold s71 at h
  split at h
  · rename_i m_t m_f m_xa m_xb m_xk m_ya m_yb m_yk p_xa p_xb p_xk p_ya p_yb p_yk
    simp only [Option.some.injEq, Prod.mk.injEq] at h
    obtain ⟨hp, rfl⟩ := h
    exact ⟨_, _, by kernel_rfl, e71 m_t m_f m_xa m_xb m_xk m_ya m_yb m_yk p_xa p_xb p_xk p_ya p_yb p_yk hp⟩
  · cases h
abbrev Γ126 : List (Nat × Ctr) := (71, s71) :: Γ125
theorem G126 : Sound Tryd.prog GLv Γ126 := G125.cons m71

-- spec.l04Move
def s69 : Ctr := fun
  | [.agg [.val (.int .i64 m_t), .val (.bool m_f), .val (.int .i64 m_xa), .val (.int .i64 m_xb), .val (.int .i64 m_xk), .val (.int .i64 m_ya), .val (.int .i64 m_yb), .val (.int .i64 m_yk)], .agg [.val (.int .i64 p_xa), .val (.int .i64 p_xb), .val (.int .i64 p_xk), .val (.int .i64 p_ya), .val (.int .i64 p_yb), .val (.int .i64 p_yk)]] => some (okM m_t (⟨(⟨p_xa, p_xb, p_xk⟩ : N3), (⟨p_ya, p_yb, p_yk⟩ : N3)⟩ : P2) (⟨⟨m_xa, m_xb, m_xk⟩, ⟨m_ya, m_yb, m_yk⟩⟩ : P2), (moveF m_t m_f (⟨⟨m_xa, m_xb, m_xk⟩, ⟨m_ya, m_yb, m_yk⟩⟩ : P2) (⟨(⟨p_xa, p_xb, p_xk⟩ : N3), (⟨p_ya, p_yb, p_yk⟩ : N3)⟩ : P2)).av)
  | _ => none

theorem e69 (m_t : Int) (m_f : Bool) (m_xa : Int) (m_xb : Int) (m_xk : Int) (m_ya : Int) (m_yb : Int) (m_yk : Int) (p_xa : Int) (p_xb : Int) (p_xk : Int) (p_ya : Int) (p_yb : Int) (p_yk : Int) (hp : (okM m_t (⟨(⟨p_xa, p_xb, p_xk⟩ : N3), (⟨p_ya, p_yb, p_yk⟩ : N3)⟩ : P2) (⟨⟨m_xa, m_xb, m_xk⟩, ⟨m_ya, m_yb, m_yk⟩⟩ : P2)) = true) : evN Tryd.prog GLv Γ126 (0) []  Tryd.f69 [.agg [.val (.int .i64 m_t), .val (.bool m_f), .val (.int .i64 m_xa), .val (.int .i64 m_xb), .val (.int .i64 m_xk), .val (.int .i64 m_ya), .val (.int .i64 m_yb), .val (.int .i64 m_yk)], .agg [.val (.int .i64 p_xa), .val (.int .i64 p_xb), .val (.int .i64 p_xk), .val (.int .i64 p_ya), .val (.int .i64 p_yb), .val (.int .i64 p_yk)]] = some ((moveF m_t m_f (⟨⟨m_xa, m_xb, m_xk⟩, ⟨m_ya, m_yb, m_yk⟩⟩ : P2) (⟨(⟨p_xa, p_xb, p_xk⟩ : N3), (⟨p_ya, p_yb, p_yk⟩ : N3)⟩ : P2)).av) := by
  unfold okM at hp
  simp only [Bool.and_eq_true] at hp
  obtain ⟨h1, h2, h3⟩ := hp
  obtain ⟨k1, k2, k3, _⟩ := turn_pk (flip_ok h2 m_f) h3 m_t
  refine (show _ = cond (inB m_t 0 7 && okP (⟨(⟨p_xa, p_xb, p_xk⟩ : N3), (⟨p_ya, p_yb, p_yk⟩ : N3)⟩ : P2)) (cond (pkP (turnF m_t (flipP m_f (⟨(⟨p_xa, p_xb, p_xk⟩ : N3), (⟨p_ya, p_yb, p_yk⟩ : N3)⟩ : P2))) (⟨⟨m_xa, m_xb, m_xk⟩, ⟨m_ya, m_yb, m_yk⟩⟩ : P2)) (some (moveF m_t m_f (⟨⟨m_xa, m_xb, m_xk⟩, ⟨m_ya, m_yb, m_yk⟩⟩ : P2) (⟨(⟨p_xa, p_xb, p_xk⟩ : N3), (⟨p_ya, p_yb, p_yk⟩ : N3)⟩ : P2)).av) none) none from by kernel_rfl).trans ?_
  rw [h1, h2, k3]
  rfl
theorem m69 : Meets Tryd.prog GLv 69 s69 := by
  refine meetsN mix0 glv G126 Tryd.func69 (by kernel_rfl) (by kernel_rfl) s69 fun args x h => ?_
  unfold s69 at h
  split at h
  · rename_i m_t m_f m_xa m_xb m_xk m_ya m_yb m_yk p_xa p_xb p_xk p_ya p_yb p_yk
    simp only [Option.some.injEq, Prod.mk.injEq] at h
    obtain ⟨hp, rfl⟩ := h
    exact ⟨_, _, by kernel_rfl, e69 m_t m_f m_xa m_xb m_xk m_ya m_yb m_yk p_xa p_xb p_xk p_ya p_yb p_yk hp⟩
  · cases h
abbrev Γ127 : List (Nat × Ctr) := (69, s69) :: Γ126
theorem G127 : Sound Tryd.prog GLv Γ127 := G126.cons m69

-- impl.ValidMotion
def s37 : Ctr := fun
  | [.agg [.val (.int .i64 m_t), .val (.bool m_f), .val (.int .i64 m_xa), .val (.int .i64 m_xb), .val (.int .i64 m_xk), .val (.int .i64 m_ya), .val (.int .i64 m_yb), .val (.int .i64 m_yk)]] => some (true, bv (inB m_t 0 7 && valP (⟨⟨m_xa, m_xb, m_xk⟩, ⟨m_ya, m_yb, m_yk⟩⟩ : P2)))
  | _ => none

theorem e37 (m_t : Int) (m_f : Bool) (m_xa : Int) (m_xb : Int) (m_xk : Int) (m_ya : Int) (m_yb : Int) (m_yk : Int) : evN Tryd.prog GLv Γ127 (0) []  Tryd.f37 [.agg [.val (.int .i64 m_t), .val (.bool m_f), .val (.int .i64 m_xa), .val (.int .i64 m_xb), .val (.int .i64 m_xk), .val (.int .i64 m_ya), .val (.int .i64 m_yb), .val (.int .i64 m_yk)]] = some (bv (inB m_t 0 7 && valP (⟨⟨m_xa, m_xb, m_xk⟩, ⟨m_ya, m_yb, m_yk⟩⟩ : P2))) := by
  refine (show _ = cond (inB m_t 0 7) ( cond (validB (N3.mk m_xa m_xb m_xk)) ( some (bv (validB (N3.mk m_ya m_yb m_yk))) ) ( some (bv (false)) ) ) ( some (bv (false)) ) from by kernel_rfl).trans ?_
  simp only [valP]
  cases inB m_t 0 7 <;> cases validB (⟨⟨m_xa, m_xb, m_xk⟩, ⟨m_ya, m_yb, m_yk⟩⟩ : P2).x <;> rfl
theorem m37 : Meets Tryd.prog GLv 37 s37 := by
  refine meetsN mix0 glv G127 Tryd.func37 (by kernel_rfl) (by kernel_rfl) s37 fun args x h => ?_
  unfold s37 at h
  split at h
  · rename_i m_t m_f m_xa m_xb m_xk m_ya m_yb m_yk
    simp only [Option.some.injEq, Prod.mk.injEq] at h
    obtain ⟨hp, rfl⟩ := h
    exact ⟨_, _, by kernel_rfl, e37 m_t m_f m_xa m_xb m_xk m_ya m_yb m_yk⟩
  · cases h
abbrev Γ128 : List (Nat × Ctr) := (37, s37) :: Γ127
theorem G128 : Sound Tryd.prog GLv Γ128 := G127.cons m37

-- spec.l04Ok
def s32 : Ctr := fun
  | [.agg [.val (.int .i64 m_t), .val (.bool m_f), .val (.int .i64 m_xa), .val (.int .i64 m_xb), .val (.int .i64 m_xk), .val (.int .i64 m_ya), .val (.int .i64 m_yb), .val (.int .i64 m_yk)]] => some (true, bv (inB m_t 0 7 && valP (⟨⟨m_xa, m_xb, m_xk⟩, ⟨m_ya, m_yb, m_yk⟩⟩ : P2)))
  | _ => none

theorem e32 (m_t : Int) (m_f : Bool) (m_xa : Int) (m_xb : Int) (m_xk : Int) (m_ya : Int) (m_yb : Int) (m_yk : Int) : evN Tryd.prog GLv Γ128 (0) []  Tryd.f32 [.agg [.val (.int .i64 m_t), .val (.bool m_f), .val (.int .i64 m_xa), .val (.int .i64 m_xb), .val (.int .i64 m_xk), .val (.int .i64 m_ya), .val (.int .i64 m_yb), .val (.int .i64 m_yk)]] = some (bv (inB m_t 0 7 && valP (⟨⟨m_xa, m_xb, m_xk⟩, ⟨m_ya, m_yb, m_yk⟩⟩ : P2))) := by
  refine (show _ = cond (inB m_t 0 7) ( cond (validB (N3.mk m_xa m_xb m_xk)) ( some (bv (validB (N3.mk m_ya m_yb m_yk))) ) ( some (bv (false)) ) ) ( some (bv (false)) ) from by kernel_rfl).trans ?_
  simp only [valP]
  cases inB m_t 0 7 <;> cases validB (⟨⟨m_xa, m_xb, m_xk⟩, ⟨m_ya, m_yb, m_yk⟩⟩ : P2).x <;> rfl
theorem m32 : Meets Tryd.prog GLv 32 s32 := by
  refine meetsN mix0 glv G128 Tryd.func32 (by kernel_rfl) (by kernel_rfl) s32 fun args x h => ?_
  unfold s32 at h
  split at h
  · rename_i m_t m_f m_xa m_xb m_xk m_ya m_yb m_yk
    simp only [Option.some.injEq, Prod.mk.injEq] at h
    obtain ⟨hp, rfl⟩ := h
    exact ⟨_, _, by kernel_rfl, e32 m_t m_f m_xa m_xb m_xk m_ya m_yb m_yk⟩
  · cases h
abbrev Γ129 : List (Nat × Ctr) := (32, s32) :: Γ128
theorem G129 : Sound Tryd.prog GLv Γ129 := G128.cons m32

-- impl.NormalPolygon
def s73 : Ctr := fun
  | [.arr a_n [.int .i64, .int .i64, .int .i64, .int .i64, .int .i64, .int .i64] a_c] => some (inB a_n 3 16 && allP a_n a_c, AV.tup [AV.row ((vpS a_n (nmR a_n a_c)) || (vpS a_n (nmR a_n (revC a_n a_c)))) 62 (cond ((vpS a_n (nmR a_n a_c)) || (vpS a_n (nmR a_n (revC a_n a_c)))) a_n 0) [.int .i64, .int .i64, .int .i64, .int .i64, .int .i64, .int .i64] (cond (vpS a_n (nmR a_n a_c)) (nmR a_n a_c) (cond (vpS a_n (nmR a_n (revC a_n a_c))) (nmR a_n (revC a_n a_c)) zeroC)), bv ((vpS a_n (nmR a_n a_c)) || (vpS a_n (nmR a_n (revC a_n a_c))))])
  | _ => none

theorem e73 (a_n : Nat) (a_c : Nat → Nat → Int) (hp : (inB a_n 3 16 && allP a_n a_c) = true) : evW Tryd.prog GLv Γ129 (5) (⟨[false, false, false, false, false, false, false, false, false, false, false, false, false, false, false, false, false, false, false, false, false, false, true, true, true], [], [(17, [0]), (29, [1])], 2, [some (62, [.int .i64, .int .i64, .int .i64, .int .i64, .int .i64, .int .i64]), none]⟩)  Tryd.f73 [.arr a_n [.int .i64, .int .i64, .int .i64, .int .i64, .int .i64, .int .i64] a_c] = some (AV.tup [AV.row ((vpS a_n (nmR a_n a_c)) || (vpS a_n (nmR a_n (revC a_n a_c)))) 62 (cond ((vpS a_n (nmR a_n a_c)) || (vpS a_n (nmR a_n (revC a_n a_c)))) a_n 0) [.int .i64, .int .i64, .int .i64, .int .i64, .int .i64, .int .i64] (cond (vpS a_n (nmR a_n a_c)) (nmR a_n a_c) (cond (vpS a_n (nmR a_n (revC a_n a_c))) (nmR a_n (revC a_n a_c)) zeroC)), bv ((vpS a_n (nmR a_n a_c)) || (vpS a_n (nmR a_n (revC a_n a_c))))]) := by
  rw [Bool.and_eq_true] at hp
  obtain ⟨hn, hv⟩ := hp
  have hn := inB_iff.1 hn
  refine (show _ = cond (Nat.ble a_n 1048576) (cond (!(allP a_n a_c)) (some (AV.tup [AV.row false 62 0 [.int .i64, .int .i64, .int .i64, .int .i64, .int .i64, .int .i64] fun _ _ => 0, bv false])) (cond (decide ((a_n : Int) > 16)) (some (AV.tup [AV.row false 62 0 [.int .i64, .int .i64, .int .i64, .int .i64, .int .i64, .int .i64] fun _ _ => 0, bv false])) (cond (inB (a_n : Int) 1 1000000) (cond (inB (a_n : Int) 1 1000000 && (Nat.beq a_n a_n && true)) (cond (inB (a_n : Int) 1 1000000 && cmA a_n a_c) (cond (Nat.ble (a_n) 1048576) (cond (vpI a_n (nmR a_n a_c)) (some (AV.tup [AV.row (true) 62 (a_n) [.int .i64, .int .i64, .int .i64, .int .i64, .int .i64, .int .i64] ((nmR a_n a_c)), bv true])) (cond (inB (a_n : Int) 1 1000000 && cmA a_n (revC a_n (catC 0 zeroC a_c))) (cond (Nat.ble (a_n) 1048576) (cond (vpI a_n (nmR a_n (revC a_n (catC 0 zeroC a_c)))) (some (AV.tup [AV.row (true) 62 (a_n) [.int .i64, .int .i64, .int .i64, .int .i64, .int .i64, .int .i64] ((nmR a_n (revC a_n (catC 0 zeroC a_c)))), bv true])) (some (AV.tup [AV.row false 62 0 [.int .i64, .int .i64, .int .i64, .int .i64, .int .i64, .int .i64] fun _ _ => 0, bv false]))) (none)) (none))) (none)) (none)) (none)) (none)))) (none) from by kernel_rfl).trans ?_
  rw [cat0, hv, cmA_of hv, cmA_of (allP_rev hv), vp_eq, vp_eq, show Nat.ble a_n 1048576 = true from Nat.ble_eq_true_of_le (by omega), show decide ((a_n : Int) > 16) = false from decide_eq_false (by omega), show inB (a_n : Int) 1 1000000 = true from inB_iff.2 (by omega), Nat.beq_refl]
  cases (vpS a_n (nmR a_n a_c)) with
  | true => rfl
  | false => cases (vpS a_n (nmR a_n (revC a_n a_c))) <;> rfl
theorem m73 : Meets Tryd.prog GLv 73 s73 := by
  refine meetsW mix0 G129 Tryd.func73 (by kernel_rfl) (by kernel_rfl) s73 fun args x h => ?_
  unfold s73 at h
  split at h
  · rename_i a_n a_c
    simp only [Option.some.injEq, Prod.mk.injEq] at h
    obtain ⟨hp, rfl⟩ := h
    exact ⟨_, _, by kernel_rfl, e73 a_n a_c hp⟩
  · cases h
abbrev Γ130 : List (Nat × Ctr) := (73, s73) :: Γ129
theorem G130 : Sound Tryd.prog GLv Γ130 := G129.cons m73

theorem mv_step (K n a_n i : Nat) (m : M8) (a_c d : Nat → Nat → Int) (lv : Bool) : runW Tryd.prog GLv Γ130 K ⟨[false, false, true, false, false, false, true, false, false, false, false, true, true, true], [], [(6, [0]), (29, [0]), (32, [1])], 2, [some (62, [.int .i64, .int .i64, .int .i64, .int .i64, .int .i64, .int .i64]), none]⟩ [m.av, .arr a_n [.int .i64, .int .i64, .int .i64, .int .i64, .int .i64, .int .i64] a_c] Tryd.f38 0 (n + 1) (st2 Tryd.f38.ntmps [.non, .non, .own 39 [iv m.t, bv m.f, iv m.s.x.a, iv m.s.x.b, iv m.s.x.k, iv m.s.y.a, iv m.s.y.b, iv m.s.y.k], .non, .non, .non, .sl Tryd.f38.ntmps (i), .non, .non, .non, .non, .arr a_n [.int .i64, .int .i64, .int .i64, .int .i64, .int .i64, .int .i64] a_c, iv (a_n : Int), iv ((i : Int))] [.row (lv) 62 (i) [.int .i64, .int .i64, .int .i64, .int .i64, .int .i64, .int .i64] (d), .non]) = cond (decide ((i : Int) < (a_n : Int))) (cond ((decide (0 ≤ (i : Int)) && decide ((i : Int) < (a_n : Int)))) (cond (okM m.t (pAt a_c i) m.s) (cond (kB (mwR m (pAt a_c i)).x.k && kB (mwR m (pAt a_c i)).y.k) (cond (!(valP (redP (mwR m (pAt a_c i))))) (some (AV.tup [AV.row false 62 0 [.int .i64, .int .i64, .int .i64, .int .i64, .int .i64, .int .i64] fun _ _ => 0, bv false])) (cond (Nat.ble ((i + 1) * 48) 140737488355328) (runW Tryd.prog GLv Γ130 K ⟨[false, false, true, false, false, false, true, false, false, false, false, true, true, true], [], [(6, [0]), (29, [0]), (32, [1])], 2, [some (62, [.int .i64, .int .i64, .int .i64, .int .i64, .int .i64, .int .i64]), none]⟩ [m.av, .arr a_n [.int .i64, .int .i64, .int .i64, .int .i64, .int .i64, .int .i64] a_c] Tryd.f38 0 n (st2 Tryd.f38.ntmps [.non, .non, .own 39 [iv m.t, bv m.f, iv m.s.x.a, iv m.s.x.b, iv m.s.x.k, iv m.s.y.a, iv m.s.y.b, iv m.s.y.k], .non, .non, .non, .sl Tryd.f38.ntmps (i + 1), .non, .non, .non, .non, .arr a_n [.int .i64, .int .i64, .int .i64, .int .i64, .int .i64, .int .i64] a_c, iv (a_n : Int), iv (wr ((i : Int) + 1))] [.row (true) 62 (i + 1) [.int .i64, .int .i64, .int .i64, .int .i64, .int .i64, .int .i64] (catC i d (listC [mgC m a_c i])), .non])) (none))) (none)) (none)) (none)) (cond (inB ((i : Nat) : Int) 3 16 && allP (i) (d)) (some (AV.tup [AV.row ((vpS (i) (nmR (i) (d))) || (vpS (i) (nmR (i) (revC (i) (d))))) 62 (cond ((vpS (i) (nmR (i) (d))) || (vpS (i) (nmR (i) (revC (i) (d))))) (i) 0) [.int .i64, .int .i64, .int .i64, .int .i64, .int .i64, .int .i64] (cond (vpS (i) (nmR (i) (d))) (nmR (i) (d)) (cond (vpS (i) (nmR (i) (revC (i) (d)))) (nmR (i) (revC (i) (d))) zeroC)), bv ((vpS (i) (nmR (i) (d))) || (vpS (i) (nmR (i) (revC (i) (d)))))])) (none)) := by kernel_rfl

theorem mv_run (K a_n : Nat) (m : M8) (a_c : Nat → Nat → Int) (hn : a_n ≤ 1000) (hm : m.valid = true) (hv : ∀ i, i < a_n → valP (pAt a_c i) = true) : ∀ (r i n : Nat) (d : Nat → Nat → Int) (lv : Bool), i + r = a_n → r < n → runW Tryd.prog GLv Γ130 K ⟨[false, false, true, false, false, false, true, false, false, false, false, true, true, true], [], [(6, [0]), (29, [0]), (32, [1])], 2, [some (62, [.int .i64, .int .i64, .int .i64, .int .i64, .int .i64, .int .i64]), none]⟩ [m.av, .arr a_n [.int .i64, .int .i64, .int .i64, .int .i64, .int .i64, .int .i64] a_c] Tryd.f38 0 n (st2 Tryd.f38.ntmps [.non, .non, .own 39 [iv m.t, bv m.f, iv m.s.x.a, iv m.s.x.b, iv m.s.x.k, iv m.s.y.a, iv m.s.y.b, iv m.s.y.k], .non, .non, .non, .sl Tryd.f38.ntmps (i), .non, .non, .non, .non, .arr a_n [.int .i64, .int .i64, .int .i64, .int .i64, .int .i64, .int .i64] a_c, iv (a_n : Int), iv ((i : Int))] [.row (lv) 62 (i) [.int .i64, .int .i64, .int .i64, .int .i64, .int .i64, .int .i64] (d), .non]) = cond (allF (fun j => valP (redP (mwR m (pAt a_c j)))) i r) (cond (inB ((a_n : Nat) : Int) 3 16 && allP (a_n) (appF (mgC m a_c) i r d)) (some (AV.tup [AV.row ((vpS (a_n) (nmR (a_n) (appF (mgC m a_c) i r d))) || (vpS (a_n) (nmR (a_n) (revC (a_n) (appF (mgC m a_c) i r d))))) 62 (cond ((vpS (a_n) (nmR (a_n) (appF (mgC m a_c) i r d))) || (vpS (a_n) (nmR (a_n) (revC (a_n) (appF (mgC m a_c) i r d))))) (a_n) 0) [.int .i64, .int .i64, .int .i64, .int .i64, .int .i64, .int .i64] (cond (vpS (a_n) (nmR (a_n) (appF (mgC m a_c) i r d))) (nmR (a_n) (appF (mgC m a_c) i r d)) (cond (vpS (a_n) (nmR (a_n) (revC (a_n) (appF (mgC m a_c) i r d)))) (nmR (a_n) (revC (a_n) (appF (mgC m a_c) i r d))) zeroC)), bv ((vpS (a_n) (nmR (a_n) (appF (mgC m a_c) i r d))) || (vpS (a_n) (nmR (a_n) (revC (a_n) (appF (mgC m a_c) i r d)))))])) (none)) (some (AV.tup [AV.row false 62 0 [.int .i64, .int .i64, .int .i64, .int .i64, .int .i64, .int .i64] fun _ _ => 0, bv false])) := by
  intro r
  induction r with
  | zero =>
    intro i n d lv h1 h2
    obtain ⟨n, rfl⟩ : ∃ n', n = n' + 1 := ⟨n - 1, by omega⟩
    rw [mv_step, nat_lt i a_n, show decide (i < a_n) = false by simp; omega, show i = a_n by omega]
    rfl
  | succ r ih =>
    intro i n d lv h1 h2
    obtain ⟨n, rfl⟩ : ∃ n', n = n' + 1 := ⟨n - 1, by omega⟩
    have hp := hv i (by omega)
    rw [mv_step, nat_nn, nat_lt i a_n, show decide (i < a_n) = true by simp; omega, mw_okM hm hp, (mw_low hm hp).2.2.2, show Nat.ble ((i + 1) * 48) 140737488355328 = true from Nat.ble_eq_true_of_le (by omega)]
    simp only [Bool.and_self, cond_true]
    rw [wr_succ (by omega), ih (i + 1) n _ true (by omega) (by omega)]
    simp only [allF]
    cases valP (redP (mwR m (pAt a_c i))) <;> rfl

-- (impl.Motion).polygon
def s38 : Ctr := fun
  | [.agg [.val (.int .i64 m_t), .val (.bool m_f), .val (.int .i64 m_xa), .val (.int .i64 m_xb), .val (.int .i64 m_xk), .val (.int .i64 m_ya), .val (.int .i64 m_yb), .val (.int .i64 m_yk)], .arr a_n [.int .i64, .int .i64, .int .i64, .int .i64, .int .i64, .int .i64] a_c] => some (mpV (⟨m_t, m_f, (⟨⟨m_xa, m_xb, m_xk⟩, ⟨m_ya, m_yb, m_yk⟩⟩ : P2)⟩ : M8) a_n a_c, AV.tup [AV.row (mpO (⟨m_t, m_f, (⟨⟨m_xa, m_xb, m_xk⟩, ⟨m_ya, m_yb, m_yk⟩⟩ : P2)⟩ : M8) a_n a_c) 62 (mpN (⟨m_t, m_f, (⟨⟨m_xa, m_xb, m_xk⟩, ⟨m_ya, m_yb, m_yk⟩⟩ : P2)⟩ : M8) a_n a_c) [.int .i64, .int .i64, .int .i64, .int .i64, .int .i64, .int .i64] (mpI (⟨m_t, m_f, (⟨⟨m_xa, m_xb, m_xk⟩, ⟨m_ya, m_yb, m_yk⟩⟩ : P2)⟩ : M8) a_n a_c), bv (mpO (⟨m_t, m_f, (⟨⟨m_xa, m_xb, m_xk⟩, ⟨m_ya, m_yb, m_yk⟩⟩ : P2)⟩ : M8) a_n a_c)])
  | _ => none

theorem e38 (m_t : Int) (m_f : Bool) (m_xa : Int) (m_xb : Int) (m_xk : Int) (m_ya : Int) (m_yb : Int) (m_yk : Int) (a_n : Nat) (a_c : Nat → Nat → Int) (hp : (mpV (⟨m_t, m_f, (⟨⟨m_xa, m_xb, m_xk⟩, ⟨m_ya, m_yb, m_yk⟩⟩ : P2)⟩ : M8) a_n a_c) = true) : evW Tryd.prog GLv Γ130 (a_n + 2) (⟨[false, false, true, false, false, false, true, false, false, false, false, true, true, true], [], [(6, [0]), (29, [0]), (32, [1])], 2, [some (62, [.int .i64, .int .i64, .int .i64, .int .i64, .int .i64, .int .i64]), none]⟩)  Tryd.f38 [.agg [.val (.int .i64 m_t), .val (.bool m_f), .val (.int .i64 m_xa), .val (.int .i64 m_xb), .val (.int .i64 m_xk), .val (.int .i64 m_ya), .val (.int .i64 m_yb), .val (.int .i64 m_yk)], .arr a_n [.int .i64, .int .i64, .int .i64, .int .i64, .int .i64, .int .i64] a_c] = some (AV.tup [AV.row (mpO (⟨m_t, m_f, (⟨⟨m_xa, m_xb, m_xk⟩, ⟨m_ya, m_yb, m_yk⟩⟩ : P2)⟩ : M8) a_n a_c) 62 (mpN (⟨m_t, m_f, (⟨⟨m_xa, m_xb, m_xk⟩, ⟨m_ya, m_yb, m_yk⟩⟩ : P2)⟩ : M8) a_n a_c) [.int .i64, .int .i64, .int .i64, .int .i64, .int .i64, .int .i64] (mpI (⟨m_t, m_f, (⟨⟨m_xa, m_xb, m_xk⟩, ⟨m_ya, m_yb, m_yk⟩⟩ : P2)⟩ : M8) a_n a_c), bv (mpO (⟨m_t, m_f, (⟨⟨m_xa, m_xb, m_xk⟩, ⟨m_ya, m_yb, m_yk⟩⟩ : P2)⟩ : M8) a_n a_c)]) := by
  have hp' := hp
  unfold mpV at hp'
  rw [Bool.and_eq_true] at hp'
  obtain ⟨hm, hv⟩ := hp'
  obtain ⟨h3, h16, ha⟩ := vpS_in hv
  refine (show _ = runW Tryd.prog GLv Γ130 (a_n + 2) ⟨[false, false, true, false, false, false, true, false, false, false, false, true, true, true], [], [(6, [0]), (29, [0]), (32, [1])], 2, [some (62, [.int .i64, .int .i64, .int .i64, .int .i64, .int .i64, .int .i64]), none]⟩ [(⟨m_t, m_f, (⟨⟨m_xa, m_xb, m_xk⟩, ⟨m_ya, m_yb, m_yk⟩⟩ : P2)⟩ : M8).av, .arr a_n [.int .i64, .int .i64, .int .i64, .int .i64, .int .i64, .int .i64] a_c] Tryd.f38 0 (a_n + 2) (st2 Tryd.f38.ntmps [.non, .non, .own 39 [iv (⟨m_t, m_f, (⟨⟨m_xa, m_xb, m_xk⟩, ⟨m_ya, m_yb, m_yk⟩⟩ : P2)⟩ : M8).t, bv (⟨m_t, m_f, (⟨⟨m_xa, m_xb, m_xk⟩, ⟨m_ya, m_yb, m_yk⟩⟩ : P2)⟩ : M8).f, iv (⟨m_t, m_f, (⟨⟨m_xa, m_xb, m_xk⟩, ⟨m_ya, m_yb, m_yk⟩⟩ : P2)⟩ : M8).s.x.a, iv (⟨m_t, m_f, (⟨⟨m_xa, m_xb, m_xk⟩, ⟨m_ya, m_yb, m_yk⟩⟩ : P2)⟩ : M8).s.x.b, iv (⟨m_t, m_f, (⟨⟨m_xa, m_xb, m_xk⟩, ⟨m_ya, m_yb, m_yk⟩⟩ : P2)⟩ : M8).s.x.k, iv (⟨m_t, m_f, (⟨⟨m_xa, m_xb, m_xk⟩, ⟨m_ya, m_yb, m_yk⟩⟩ : P2)⟩ : M8).s.y.a, iv (⟨m_t, m_f, (⟨⟨m_xa, m_xb, m_xk⟩, ⟨m_ya, m_yb, m_yk⟩⟩ : P2)⟩ : M8).s.y.b, iv (⟨m_t, m_f, (⟨⟨m_xa, m_xb, m_xk⟩, ⟨m_ya, m_yb, m_yk⟩⟩ : P2)⟩ : M8).s.y.k], .non, .non, .non, .sl Tryd.f38.ntmps (0), .non, .non, .non, .non, .arr a_n [.int .i64, .int .i64, .int .i64, .int .i64, .int .i64, .int .i64] a_c, iv (a_n : Int), iv (((0 : Nat) : Int))] [.row (false) 62 (0) [.int .i64, .int .i64, .int .i64, .int .i64, .int .i64, .int .i64] (zeroC), .non]) from by kernel_rfl).trans ?_
  rw [mv_run _ a_n (⟨m_t, m_f, (⟨⟨m_xa, m_xb, m_xk⟩, ⟨m_ya, m_yb, m_yk⟩⟩ : P2)⟩ : M8) a_c (by omega) hm (allP_iff.1 ha) a_n 0 _ zeroC false (by omega) (by omega), mg_cq, mw_cqB]
  cases hq : cqB a_n (mwD (⟨m_t, m_f, (⟨⟨m_xa, m_xb, m_xk⟩, ⟨m_ya, m_yb, m_yk⟩⟩ : P2)⟩ : M8) a_n a_c) with
  | false => unfold mpN mpI mpO; rw [hp, hq]; rfl
  | true =>
    have ho : mpO (⟨m_t, m_f, (⟨⟨m_xa, m_xb, m_xk⟩, ⟨m_ya, m_yb, m_yk⟩⟩ : P2)⟩ : M8) a_n a_c = true := by unfold mpO; rw [hp, hq]; rfl
    obtain ⟨k1, k2, k3⟩ := mp_norm ho
    rw [k1, k2]
    unfold mpN mpI
    rw [ho]
    cases m_f with
    | false => rfl
    | true => rw [k3 rfl]; rfl
theorem m38 : Meets Tryd.prog GLv 38 s38 := by
  refine meetsW mix0 G130 Tryd.func38 (by kernel_rfl) (by kernel_rfl) s38 fun args x h => ?_
  unfold s38 at h
  split at h
  · rename_i m_t m_f m_xa m_xb m_xk m_ya m_yb m_yk a_n a_c
    simp only [Option.some.injEq, Prod.mk.injEq] at h
    obtain ⟨hp, rfl⟩ := h
    exact ⟨_, _, by kernel_rfl, e38 m_t m_f m_xa m_xb m_xk m_ya m_yb m_yk a_n a_c hp⟩
  · cases h
abbrev Γ131 : List (Nat × Ctr) := (38, s38) :: Γ130
theorem G131 : Sound Tryd.prog GLv Γ131 := G130.cons m38

-- impl.MovePolygon
def s15 : Ctr := fun
  | [.agg [.val (.int .i64 m_t), .val (.bool m_f), .val (.int .i64 m_xa), .val (.int .i64 m_xb), .val (.int .i64 m_xk), .val (.int .i64 m_ya), .val (.int .i64 m_yb), .val (.int .i64 m_yk)], .arr a_n [.int .i64, .int .i64, .int .i64, .int .i64, .int .i64, .int .i64] a_c] => some (Nat.ble (a_n) 1048576, AV.tup [AV.row (mpO (⟨m_t, m_f, (⟨⟨m_xa, m_xb, m_xk⟩, ⟨m_ya, m_yb, m_yk⟩⟩ : P2)⟩ : M8) a_n a_c) 62 (mpN (⟨m_t, m_f, (⟨⟨m_xa, m_xb, m_xk⟩, ⟨m_ya, m_yb, m_yk⟩⟩ : P2)⟩ : M8) a_n a_c) [.int .i64, .int .i64, .int .i64, .int .i64, .int .i64, .int .i64] (mpI (⟨m_t, m_f, (⟨⟨m_xa, m_xb, m_xk⟩, ⟨m_ya, m_yb, m_yk⟩⟩ : P2)⟩ : M8) a_n a_c), bv (mpO (⟨m_t, m_f, (⟨⟨m_xa, m_xb, m_xk⟩, ⟨m_ya, m_yb, m_yk⟩⟩ : P2)⟩ : M8) a_n a_c)])
  | _ => none

theorem e15 (m_t : Int) (m_f : Bool) (m_xa : Int) (m_xb : Int) (m_xk : Int) (m_ya : Int) (m_yb : Int) (m_yk : Int) (a_n : Nat) (a_c : Nat → Nat → Int) (hp : (Nat.ble (a_n) 1048576) = true) : evW Tryd.prog GLv Γ131 (0) (⟨[], [], [(16, [0])], 1, [some (62, [.int .i64, .int .i64, .int .i64, .int .i64, .int .i64, .int .i64]), none]⟩)  Tryd.f15 [.agg [.val (.int .i64 m_t), .val (.bool m_f), .val (.int .i64 m_xa), .val (.int .i64 m_xb), .val (.int .i64 m_xk), .val (.int .i64 m_ya), .val (.int .i64 m_yb), .val (.int .i64 m_yk)], .arr a_n [.int .i64, .int .i64, .int .i64, .int .i64, .int .i64, .int .i64] a_c] = some (AV.tup [AV.row (mpO (⟨m_t, m_f, (⟨⟨m_xa, m_xb, m_xk⟩, ⟨m_ya, m_yb, m_yk⟩⟩ : P2)⟩ : M8) a_n a_c) 62 (mpN (⟨m_t, m_f, (⟨⟨m_xa, m_xb, m_xk⟩, ⟨m_ya, m_yb, m_yk⟩⟩ : P2)⟩ : M8) a_n a_c) [.int .i64, .int .i64, .int .i64, .int .i64, .int .i64, .int .i64] (mpI (⟨m_t, m_f, (⟨⟨m_xa, m_xb, m_xk⟩, ⟨m_ya, m_yb, m_yk⟩⟩ : P2)⟩ : M8) a_n a_c), bv (mpO (⟨m_t, m_f, (⟨⟨m_xa, m_xb, m_xk⟩, ⟨m_ya, m_yb, m_yk⟩⟩ : P2)⟩ : M8) a_n a_c)]) := by
  refine (show _ = cond (!(inB m_t 0 7 && valP (⟨⟨m_xa, m_xb, m_xk⟩, ⟨m_ya, m_yb, m_yk⟩⟩ : P2))) (some (AV.tup [AV.row false 62 0 [.int .i64, .int .i64, .int .i64, .int .i64, .int .i64, .int .i64] fun _ _ => 0, bv false])) (cond (Nat.ble (a_n) 1048576) (cond (!(vpI a_n a_c)) (some (AV.tup [AV.row false 62 0 [.int .i64, .int .i64, .int .i64, .int .i64, .int .i64, .int .i64] fun _ _ => 0, bv false])) (cond (mpV (⟨m_t, m_f, (⟨⟨m_xa, m_xb, m_xk⟩, ⟨m_ya, m_yb, m_yk⟩⟩ : P2)⟩ : M8) a_n a_c) (some (AV.tup [AV.row (mpO (⟨m_t, m_f, (⟨⟨m_xa, m_xb, m_xk⟩, ⟨m_ya, m_yb, m_yk⟩⟩ : P2)⟩ : M8) a_n a_c) 62 (mpN (⟨m_t, m_f, (⟨⟨m_xa, m_xb, m_xk⟩, ⟨m_ya, m_yb, m_yk⟩⟩ : P2)⟩ : M8) a_n a_c) [.int .i64, .int .i64, .int .i64, .int .i64, .int .i64, .int .i64] (mpI (⟨m_t, m_f, (⟨⟨m_xa, m_xb, m_xk⟩, ⟨m_ya, m_yb, m_yk⟩⟩ : P2)⟩ : M8) a_n a_c), bv (mpO (⟨m_t, m_f, (⟨⟨m_xa, m_xb, m_xk⟩, ⟨m_ya, m_yb, m_yk⟩⟩ : P2)⟩ : M8) a_n a_c)])) (none))) (none)) from by kernel_rfl).trans ?_
  rw [hp, vp_eq]
  cases hm : (inB m_t 0 7 && valP (⟨⟨m_xa, m_xb, m_xk⟩, ⟨m_ya, m_yb, m_yk⟩⟩ : P2)) with
  | false =>
    have hV : mpV (⟨m_t, m_f, (⟨⟨m_xa, m_xb, m_xk⟩, ⟨m_ya, m_yb, m_yk⟩⟩ : P2)⟩ : M8) a_n a_c = false := by unfold mpV M8.valid; rw [show (inB m_t 0 7 && valP (⟨⟨m_xa, m_xb, m_xk⟩, ⟨m_ya, m_yb, m_yk⟩⟩ : P2)) = false from hm]; rfl
    unfold mpN mpI mpO; rw [hV]; rfl
  | true =>
    cases hv : vpS a_n a_c with
    | false =>
      have hV : mpV (⟨m_t, m_f, (⟨⟨m_xa, m_xb, m_xk⟩, ⟨m_ya, m_yb, m_yk⟩⟩ : P2)⟩ : M8) a_n a_c = false := by unfold mpV; rw [hv, Bool.and_false]
      unfold mpN mpI mpO; rw [hV]; rfl
    | true =>
      have hV : mpV (⟨m_t, m_f, (⟨⟨m_xa, m_xb, m_xk⟩, ⟨m_ya, m_yb, m_yk⟩⟩ : P2)⟩ : M8) a_n a_c = true := by unfold mpV M8.valid; rw [hv, show (inB m_t 0 7 && valP (⟨⟨m_xa, m_xb, m_xk⟩, ⟨m_ya, m_yb, m_yk⟩⟩ : P2)) = true from hm]; rfl
      rw [hV]; rfl
theorem m15 : Meets Tryd.prog GLv 15 s15 := by
  refine meetsW mix0 G131 Tryd.func15 (by kernel_rfl) (by kernel_rfl) s15 fun args x h => ?_
  unfold s15 at h
  split at h
  · rename_i m_t m_f m_xa m_xb m_xk m_ya m_yb m_yk a_n a_c
    simp only [Option.some.injEq, Prod.mk.injEq] at h
    obtain ⟨hp, rfl⟩ := h
    exact ⟨_, _, by kernel_rfl, e15 m_t m_f m_xa m_xb m_xk m_ya m_yb m_yk a_n a_c hp⟩
  · cases h
abbrev Γ132 : List (Nat × Ctr) := (15, s15) :: Γ131
theorem G132 : Sound Tryd.prog GLv Γ132 := G131.cons m15

end Go.Proofs.YtooikeeckoflpaaDoor
