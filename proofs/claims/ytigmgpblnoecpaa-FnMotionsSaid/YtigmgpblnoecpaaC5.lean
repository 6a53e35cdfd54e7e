/- Contracts of the program's functions, by the evaluator. -/
import Derived.Test.YtigmgpblnoecpaaC4
import Derived.Test.YtigmgpblnoecpaaSrcC
namespace Go.Proofs.Ytigmgpblnoecpaa
open Go.Ev
set_option linter.unusedVariables false
set_option linter.unusedSimpArgs false
set_option maxRecDepth 100000

-- spec.l02Of
def s57 : Ctr := fun
  | [.agg [.val (.int .i64 p_xa), .val (.int .i64 p_xb), .val (.int .i64 p_xk), .val (.int .i64 p_ya), .val (.int .i64 p_yb), .val (.int .i64 p_yk)]] => some (true, (⟨(⟨p_xa, p_xb, p_xk⟩ : N3), (⟨p_ya, p_yb, p_yk⟩ : N3)⟩ : P2).av)
  | _ => none

theorem e57 (p_xa : Int) (p_xb : Int) (p_xk : Int) (p_ya : Int) (p_yb : Int) (p_yk : Int) : evN Try.prog GL0 Γ46 (0) []  Try.f57 [.agg [.val (.int .i64 p_xa), .val (.int .i64 p_xb), .val (.int .i64 p_xk), .val (.int .i64 p_ya), .val (.int .i64 p_yb), .val (.int .i64 p_yk)]] = some ((⟨(⟨p_xa, p_xb, p_xk⟩ : N3), (⟨p_ya, p_yb, p_yk⟩ : N3)⟩ : P2).av) := by
  kernel_rfl
theorem m57 : Meets Try.prog GL0 57 s57 := by
  refine meetsN mix0 gl0 G46 Try.func57 (by kernel_rfl) (by kernel_rfl) s57 fun args x h => ?_
  unfold s57 at h
  split at h
  · rename_i p_xa p_xb p_xk p_ya p_yb p_yk
    simp only [Option.some.injEq, Prod.mk.injEq] at h
    obtain ⟨hp, rfl⟩ := h
    exact ⟨_, _, by kernel_rfl, e57 p_xa p_xb p_xk p_ya p_yb p_yk⟩
  · cases h
abbrev Γ47 : List (Nat × Ctr) := (57, s57) :: Γ46
theorem G47 : Sound Try.prog GL0 Γ47 := G46.cons m57

-- impl.ValidPoint
def s51 : Ctr := fun
  | [.agg [.val (.int .i64 p_xa), .val (.int .i64 p_xb), .val (.int .i64 p_xk), .val (.int .i64 p_ya), .val (.int .i64 p_yb), .val (.int .i64 p_yk)]] => some (true, bv (valP (⟨(⟨p_xa, p_xb, p_xk⟩ : N3), (⟨p_ya, p_yb, p_yk⟩ : N3)⟩ : P2)))
  | _ => none

theorem e51 (p_xa : Int) (p_xb : Int) (p_xk : Int) (p_ya : Int) (p_yb : Int) (p_yk : Int) : evN Try.prog GL0 Γ47 (0) []  Try.f51 [.agg [.val (.int .i64 p_xa), .val (.int .i64 p_xb), .val (.int .i64 p_xk), .val (.int .i64 p_ya), .val (.int .i64 p_yb), .val (.int .i64 p_yk)]] = some (bv (valP (⟨(⟨p_xa, p_xb, p_xk⟩ : N3), (⟨p_ya, p_yb, p_yk⟩ : N3)⟩ : P2))) := by
  refine (show _ = cond (validB (N3.mk p_xa p_xb p_xk)) ( some (bv (validB (N3.mk p_ya p_yb p_yk))) ) ( some (bv (false)) ) from by kernel_rfl).trans ?_
  simp only [valP]
  cases validB (⟨p_xa, p_xb, p_xk⟩ : N3) <;> rfl
theorem m51 : Meets Try.prog GL0 51 s51 := by
  refine meetsN mix0 gl0 G47 Try.func51 (by kernel_rfl) (by kernel_rfl) s51 fun args x h => ?_
  unfold s51 at h
  split at h
  · rename_i p_xa p_xb p_xk p_ya p_yb p_yk
    simp only [Option.some.injEq, Prod.mk.injEq] at h
    obtain ⟨hp, rfl⟩ := h
    exact ⟨_, _, by kernel_rfl, e51 p_xa p_xb p_xk p_ya p_yb p_yk⟩
  · cases h
abbrev Γ48 : List (Nat × Ctr) := (51, s51) :: Γ47
theorem G48 : Sound Try.prog GL0 Γ48 := G47.cons m51

-- spec.l02Point
def s47 : Ctr := fun
  | [.agg [.val (.int .i64 p_xa), .val (.int .i64 p_xb), .val (.int .i64 p_xk), .val (.int .i64 p_ya), .val (.int .i64 p_yb), .val (.int .i64 p_yk)]] => some (true, bv (valP (⟨(⟨p_xa, p_xb, p_xk⟩ : N3), (⟨p_ya, p_yb, p_yk⟩ : N3)⟩ : P2)))
  | _ => none

theorem e47 (p_xa : Int) (p_xb : Int) (p_xk : Int) (p_ya : Int) (p_yb : Int) (p_yk : Int) : evN Try.prog GL0 Γ48 (0) []  Try.f47 [.agg [.val (.int .i64 p_xa), .val (.int .i64 p_xb), .val (.int .i64 p_xk), .val (.int .i64 p_ya), .val (.int .i64 p_yb), .val (.int .i64 p_yk)]] = some (bv (valP (⟨(⟨p_xa, p_xb, p_xk⟩ : N3), (⟨p_ya, p_yb, p_yk⟩ : N3)⟩ : P2))) := by
  refine (show _ = cond (validB (N3.mk p_xa p_xb p_xk)) ( some (bv (validB (N3.mk p_ya p_yb p_yk))) ) ( some (bv (false)) ) from by kernel_rfl).trans ?_
  simp only [valP]
  cases validB (⟨p_xa, p_xb, p_xk⟩ : N3) <;> rfl
theorem m47 : Meets Try.prog GL0 47 s47 := by
  refine meetsN mix0 gl0 G48 Try.func47 (by kernel_rfl) (by kernel_rfl) s47 fun args x h => ?_
  unfold s47 at h
  split at h
  · rename_i p_xa p_xb p_xk p_ya p_yb p_yk
    simp only [Option.some.injEq, Prod.mk.injEq] at h
    obtain ⟨hp, rfl⟩ := h
    exact ⟨_, _, by kernel_rfl, e47 p_xa p_xb p_xk p_ya p_yb p_yk⟩
  · cases h
abbrev Γ49 : List (Nat × Ctr) := (47, s47) :: Γ48
theorem G49 : Sound Try.prog GL0 Γ49 := G48.cons m47

-- (impl.Point).checked
def s53 : Ctr := fun
  | [.agg [.val (.int .i64 p_xa), .val (.int .i64 p_xb), .val (.int .i64 p_xk), .val (.int .i64 p_ya), .val (.int .i64 p_yb), .val (.int .i64 p_yk)]] => some (kB p_xk && kB p_yk, rP (valP (redP (⟨(⟨p_xa, p_xb, p_xk⟩ : N3), (⟨p_ya, p_yb, p_yk⟩ : N3)⟩ : P2))) (redP (⟨(⟨p_xa, p_xb, p_xk⟩ : N3), (⟨p_ya, p_yb, p_yk⟩ : N3)⟩ : P2)))
  | _ => none

theorem e53 (p_xa : Int) (p_xb : Int) (p_xk : Int) (p_ya : Int) (p_yb : Int) (p_yk : Int) (hp : (kB p_xk && kB p_yk) = true) : evN Try.prog GL0 Γ49 (0) []  Try.f53 [.agg [.val (.int .i64 p_xa), .val (.int .i64 p_xb), .val (.int .i64 p_xk), .val (.int .i64 p_ya), .val (.int .i64 p_yb), .val (.int .i64 p_yk)]] = some (rP (valP (redP (⟨(⟨p_xa, p_xb, p_xk⟩ : N3), (⟨p_ya, p_yb, p_yk⟩ : N3)⟩ : P2))) (redP (⟨(⟨p_xa, p_xb, p_xk⟩ : N3), (⟨p_ya, p_yb, p_yk⟩ : N3)⟩ : P2))) := by
  refine (show _ = cond (kB p_xk) ( cond (kB p_yk) ( cond (!chkB (N3.mk p_xa p_xb p_xk)) ( some ((.tup [(.agg [iv (0), iv (0), iv (0), iv (0), iv (0), iv (0)]), bv (false)])) ) ( cond (!chkB (N3.mk p_ya p_yb p_yk)) ( some ((.tup [(.agg [iv (0), iv (0), iv (0), iv (0), iv (0), iv (0)]), bv (false)])) ) ( some ((.tup [(.agg [iv (bif chkB (N3.mk p_xa p_xb p_xk) then (red (N3.mk p_xa p_xb p_xk)).1 else 0), iv (bif chkB (N3.mk p_xa p_xb p_xk) then (red (N3.mk p_xa p_xb p_xk)).2 else 0), iv (bif chkB (N3.mk p_xa p_xb p_xk) then (red (N3.mk p_xa p_xb p_xk)).3 else 0), iv (bif chkB (N3.mk p_ya p_yb p_yk) then (red (N3.mk p_ya p_yb p_yk)).1 else 0), iv (bif chkB (N3.mk p_ya p_yb p_yk) then (red (N3.mk p_ya p_yb p_yk)).2 else 0), iv (bif chkB (N3.mk p_ya p_yb p_yk) then (red (N3.mk p_ya p_yb p_yk)).3 else 0)]), bv (true)])) ) ) ) ( none ) ) ( none ) from by kernel_rfl).trans ?_
  rw [Bool.and_eq_true] at hp
  rw [hp.1, hp.2]
  simp only [valP, redP, rP, chkB, cond_true]
  cases validB (red (⟨p_xa, p_xb, p_xk⟩ : N3)) <;> cases validB (red (⟨p_ya, p_yb, p_yk⟩ : N3)) <;> rfl
theorem m53 : Meets Try.prog GL0 53 s53 := by
  refine meetsN mix0 gl0 G49 Try.func53 (by kernel_rfl) (by kernel_rfl) s53 fun args x h => ?_
  unfold s53 at h
  split at h
  · rename_i p_xa p_xb p_xk p_ya p_yb p_yk
    simp only [Option.some.injEq, Prod.mk.injEq] at h
    obtain ⟨hp, rfl⟩ := h
    exact ⟨_, _, by kernel_rfl, e53 p_xa p_xb p_xk p_ya p_yb p_yk hp⟩
  · cases h
abbrev Γ50 : List (Nat × Ctr) := (53, s53) :: Γ49
theorem G50 : Sound Try.prog GL0 Γ50 := G49.cons m53

-- spec.l02Num
def s54 : Ctr := fun
  | [.agg [.val (.int .i64 p_xa), .val (.int .i64 p_xb), .val (.int .i64 p_xk), .val (.int .i64 p_ya), .val (.int .i64 p_yb), .val (.int .i64 p_yk)]] => some (kB p_xk && kB p_yk, rP (valP (redP (⟨(⟨p_xa, p_xb, p_xk⟩ : N3), (⟨p_ya, p_yb, p_yk⟩ : N3)⟩ : P2))) (redP (⟨(⟨p_xa, p_xb, p_xk⟩ : N3), (⟨p_ya, p_yb, p_yk⟩ : N3)⟩ : P2)))
  | _ => none

theorem e54 (p_xa : Int) (p_xb : Int) (p_xk : Int) (p_ya : Int) (p_yb : Int) (p_yk : Int) (hp : (kB p_xk && kB p_yk) = true) : evN Try.prog GL0 Γ50 (0) []  Try.f54 [.agg [.val (.int .i64 p_xa), .val (.int .i64 p_xb), .val (.int .i64 p_xk), .val (.int .i64 p_ya), .val (.int .i64 p_yb), .val (.int .i64 p_yk)]] = some (rP (valP (redP (⟨(⟨p_xa, p_xb, p_xk⟩ : N3), (⟨p_ya, p_yb, p_yk⟩ : N3)⟩ : P2))) (redP (⟨(⟨p_xa, p_xb, p_xk⟩ : N3), (⟨p_ya, p_yb, p_yk⟩ : N3)⟩ : P2))) := by
  refine (show _ = cond (kB p_xk) ( cond (kB p_yk) ( cond (!chkB (N3.mk p_xa p_xb p_xk)) ( some ((.tup [(.agg [iv (0), iv (0), iv (0), iv (0), iv (0), iv (0)]), bv (false)])) ) ( cond (!chkB (N3.mk p_ya p_yb p_yk)) ( some ((.tup [(.agg [iv (0), iv (0), iv (0), iv (0), iv (0), iv (0)]), bv (false)])) ) ( some ((.tup [(.agg [iv (bif chkB (N3.mk p_xa p_xb p_xk) then (red (N3.mk p_xa p_xb p_xk)).1 else 0), iv (bif chkB (N3.mk p_xa p_xb p_xk) then (red (N3.mk p_xa p_xb p_xk)).2 else 0), iv (bif chkB (N3.mk p_xa p_xb p_xk) then (red (N3.mk p_xa p_xb p_xk)).3 else 0), iv (bif chkB (N3.mk p_ya p_yb p_yk) then (red (N3.mk p_ya p_yb p_yk)).1 else 0), iv (bif chkB (N3.mk p_ya p_yb p_yk) then (red (N3.mk p_ya p_yb p_yk)).2 else 0), iv (bif chkB (N3.mk p_ya p_yb p_yk) then (red (N3.mk p_ya p_yb p_yk)).3 else 0)]), bv (true)])) ) ) ) ( none ) ) ( none ) from by kernel_rfl).trans ?_
  rw [Bool.and_eq_true] at hp
  rw [hp.1, hp.2]
  simp only [valP, redP, rP, chkB, cond_true]
  cases validB (red (⟨p_xa, p_xb, p_xk⟩ : N3)) <;> cases validB (red (⟨p_ya, p_yb, p_yk⟩ : N3)) <;> rfl
theorem m54 : Meets Try.prog GL0 54 s54 := by
  refine meetsN mix0 gl0 G50 Try.func54 (by kernel_rfl) (by kernel_rfl) s54 fun args x h => ?_
  unfold s54 at h
  split at h
  · rename_i p_xa p_xb p_xk p_ya p_yb p_yk
    simp only [Option.some.injEq, Prod.mk.injEq] at h
    obtain ⟨hp, rfl⟩ := h
    exact ⟨_, _, by kernel_rfl, e54 p_xa p_xb p_xk p_ya p_yb p_yk hp⟩
  · cases h
abbrev Γ51 : List (Nat × Ctr) := (54, s54) :: Γ50
theorem G51 : Sound Try.prog GL0 Γ51 := G50.cons m54

-- (impl.Point).plus
def s73 : Ctr := fun
  | [.agg [.val (.int .i64 p_xa), .val (.int .i64 p_xb), .val (.int .i64 p_xk), .val (.int .i64 p_ya), .val (.int .i64 p_yb), .val (.int .i64 p_yk)], .agg [.val (.int .i64 q_xa), .val (.int .i64 q_xb), .val (.int .i64 q_xk), .val (.int .i64 q_ya), .val (.int .i64 q_yb), .val (.int .i64 q_yk)]] => some (pkP (⟨(⟨p_xa, p_xb, p_xk⟩ : N3), (⟨p_ya, p_yb, p_yk⟩ : N3)⟩ : P2) (⟨(⟨q_xa, q_xb, q_xk⟩ : N3), (⟨q_ya, q_yb, q_yk⟩ : N3)⟩ : P2), (addP (⟨(⟨p_xa, p_xb, p_xk⟩ : N3), (⟨p_ya, p_yb, p_yk⟩ : N3)⟩ : P2) (⟨(⟨q_xa, q_xb, q_xk⟩ : N3), (⟨q_ya, q_yb, q_yk⟩ : N3)⟩ : P2)).av)
  | _ => none

theorem e73 (p_xa : Int) (p_xb : Int) (p_xk : Int) (p_ya : Int) (p_yb : Int) (p_yk : Int) (q_xa : Int) (q_xb : Int) (q_xk : Int) (q_ya : Int) (q_yb : Int) (q_yk : Int) (hp : (pkP (⟨(⟨p_xa, p_xb, p_xk⟩ : N3), (⟨p_ya, p_yb, p_yk⟩ : N3)⟩ : P2) (⟨(⟨q_xa, q_xb, q_xk⟩ : N3), (⟨q_ya, q_yb, q_yk⟩ : N3)⟩ : P2)) = true) : evN Try.prog GL0 Γ51 (0) []  Try.f73 [.agg [.val (.int .i64 p_xa), .val (.int .i64 p_xb), .val (.int .i64 p_xk), .val (.int .i64 p_ya), .val (.int .i64 p_yb), .val (.int .i64 p_yk)], .agg [.val (.int .i64 q_xa), .val (.int .i64 q_xb), .val (.int .i64 q_xk), .val (.int .i64 q_ya), .val (.int .i64 q_yb), .val (.int .i64 q_yk)]] = some ((addP (⟨(⟨p_xa, p_xb, p_xk⟩ : N3), (⟨p_ya, p_yb, p_yk⟩ : N3)⟩ : P2) (⟨(⟨q_xa, q_xb, q_xk⟩ : N3), (⟨q_ya, q_yb, q_yk⟩ : N3)⟩ : P2)).av) := by
  unfold pkP at hp
  rw [Bool.and_eq_true] at hp
  refine (show _ = cond (pk (⟨p_xa, p_xb, p_xk⟩ : N3) (⟨q_xa, q_xb, q_xk⟩ : N3)) (cond (pk (⟨p_ya, p_yb, p_yk⟩ : N3) (⟨q_ya, q_yb, q_yk⟩ : N3)) (some (addP (⟨(⟨p_xa, p_xb, p_xk⟩ : N3), (⟨p_ya, p_yb, p_yk⟩ : N3)⟩ : P2) (⟨(⟨q_xa, q_xb, q_xk⟩ : N3), (⟨q_ya, q_yb, q_yk⟩ : N3)⟩ : P2)).av) none) none from by kernel_rfl).trans ?_
  rw [hp.1, hp.2]
  rfl
theorem m73 : Meets Try.prog GL0 73 s73 := by
  refine meetsN mix0 gl0 G51 Try.func73 (by kernel_rfl) (by kernel_rfl) s73 fun args x h => ?_
  unfold s73 at h
  split at h
  · rename_i p_xa p_xb p_xk p_ya p_yb p_yk q_xa q_xb q_xk q_ya q_yb q_yk
    simp only [Option.some.injEq, Prod.mk.injEq] at h
    obtain ⟨hp, rfl⟩ := h
    exact ⟨_, _, by kernel_rfl, e73 p_xa p_xb p_xk p_ya p_yb p_yk q_xa q_xb q_xk q_ya q_yb q_yk hp⟩
  · cases h
abbrev Γ52 : List (Nat × Ctr) := (73, s73) :: Γ51
theorem G52 : Sound Try.prog GL0 Γ52 := G51.cons m73

-- spec.l04Plus
def s74 : Ctr := fun
  | [.agg [.val (.int .i64 p_xa), .val (.int .i64 p_xb), .val (.int .i64 p_xk), .val (.int .i64 p_ya), .val (.int .i64 p_yb), .val (.int .i64 p_yk)], .agg [.val (.int .i64 q_xa), .val (.int .i64 q_xb), .val (.int .i64 q_xk), .val (.int .i64 q_ya), .val (.int .i64 q_yb), .val (.int .i64 q_yk)]] => some (pkP (⟨(⟨p_xa, p_xb, p_xk⟩ : N3), (⟨p_ya, p_yb, p_yk⟩ : N3)⟩ : P2) (⟨(⟨q_xa, q_xb, q_xk⟩ : N3), (⟨q_ya, q_yb, q_yk⟩ : N3)⟩ : P2), (addP (⟨(⟨p_xa, p_xb, p_xk⟩ : N3), (⟨p_ya, p_yb, p_yk⟩ : N3)⟩ : P2) (⟨(⟨q_xa, q_xb, q_xk⟩ : N3), (⟨q_ya, q_yb, q_yk⟩ : N3)⟩ : P2)).av)
  | _ => none

theorem e74 (p_xa : Int) (p_xb : Int) (p_xk : Int) (p_ya : Int) (p_yb : Int) (p_yk : Int) (q_xa : Int) (q_xb : Int) (q_xk : Int) (q_ya : Int) (q_yb : Int) (q_yk : Int) (hp : (pkP (⟨(⟨p_xa, p_xb, p_xk⟩ : N3), (⟨p_ya, p_yb, p_yk⟩ : N3)⟩ : P2) (⟨(⟨q_xa, q_xb, q_xk⟩ : N3), (⟨q_ya, q_yb, q_yk⟩ : N3)⟩ : P2)) = true) : evN Try.prog GL0 Γ52 (0) []  Try.f74 [.agg [.val (.int .i64 p_xa), .val (.int .i64 p_xb), .val (.int .i64 p_xk), .val (.int .i64 p_ya), .val (.int .i64 p_yb), .val (.int .i64 p_yk)], .agg [.val (.int .i64 q_xa), .val (.int .i64 q_xb), .val (.int .i64 q_xk), .val (.int .i64 q_ya), .val (.int .i64 q_yb), .val (.int .i64 q_yk)]] = some ((addP (⟨(⟨p_xa, p_xb, p_xk⟩ : N3), (⟨p_ya, p_yb, p_yk⟩ : N3)⟩ : P2) (⟨(⟨q_xa, q_xb, q_xk⟩ : N3), (⟨q_ya, q_yb, q_yk⟩ : N3)⟩ : P2)).av) := by
  unfold pkP at hp
  rw [Bool.and_eq_true] at hp
  refine (show _ = cond (pk (⟨p_xa, p_xb, p_xk⟩ : N3) (⟨q_xa, q_xb, q_xk⟩ : N3)) (cond (pk (⟨p_ya, p_yb, p_yk⟩ : N3) (⟨q_ya, q_yb, q_yk⟩ : N3)) (some (addP (⟨(⟨p_xa, p_xb, p_xk⟩ : N3), (⟨p_ya, p_yb, p_yk⟩ : N3)⟩ : P2) (⟨(⟨q_xa, q_xb, q_xk⟩ : N3), (⟨q_ya, q_yb, q_yk⟩ : N3)⟩ : P2)).av) none) none from by kernel_rfl).trans ?_
  rw [hp.1, hp.2]
  rfl
theorem m74 : Meets Try.prog GL0 74 s74 := by
  refine meetsN mix0 gl0 G52 Try.func74 (by kernel_rfl) (by kernel_rfl) s74 fun args x h => ?_
  unfold s74 at h
  split at h
  · rename_i p_xa p_xb p_xk p_ya p_yb p_yk q_xa q_xb q_xk q_ya q_yb q_yk
    simp only [Option.some.injEq, Prod.mk.injEq] at h
    obtain ⟨hp, rfl⟩ := h
    exact ⟨_, _, by kernel_rfl, e74 p_xa p_xb p_xk p_ya p_yb p_yk q_xa q_xb q_xk q_ya q_yb q_yk hp⟩
  · cases h
abbrev Γ53 : List (Nat × Ctr) := (74, s74) :: Γ52
theorem G53 : Sound Try.prog GL0 Γ53 := G52.cons m74

-- impl.rotate
def s79 : Ctr := fun
  | [.agg [.val (.int .i64 p_xa), .val (.int .i64 p_xb), .val (.int .i64 p_xk), .val (.int .i64 p_ya), .val (.int .i64 p_yb), .val (.int .i64 p_yk)], .val (.int .i64 t)] => some (inB t 0 7 && okP (⟨(⟨p_xa, p_xb, p_xk⟩ : N3), (⟨p_ya, p_yb, p_yk⟩ : N3)⟩ : P2), (turnF t (⟨(⟨p_xa, p_xb, p_xk⟩ : N3), (⟨p_ya, p_yb, p_yk⟩ : N3)⟩ : P2)).av)
  | _ => none

theorem e79 (p_xa : Int) (p_xb : Int) (p_xk : Int) (p_ya : Int) (p_yb : Int) (p_yk : Int) (t : Int) (hp : (inB t 0 7 && okP (⟨(⟨p_xa, p_xb, p_xk⟩ : N3), (⟨p_ya, p_yb, p_yk⟩ : N3)⟩ : P2)) = true) : evN Try.prog GL0 Γ53 (0) []  Try.f79 [.agg [.val (.int .i64 p_xa), .val (.int .i64 p_xb), .val (.int .i64 p_xk), .val (.int .i64 p_ya), .val (.int .i64 p_yb), .val (.int .i64 p_yk)], .val (.int .i64 t)] = some ((turnF t (⟨(⟨p_xa, p_xb, p_xk⟩ : N3), (⟨p_ya, p_yb, p_yk⟩ : N3)⟩ : P2)).av) := by
  simp only [Bool.and_eq_true, inB_iff] at hp
  obtain ⟨⟨h0, h7⟩, hq⟩ := hp
  have ho := okP_iff.1 hq
  obtain ⟨a1, a2, a3, _⟩ := turn_pre ho.1 ho.2
  simp only at a1 a2 a3
  have ht : t = 0 ∨ t = 1 ∨ t = 2 ∨ t = 3 ∨ t = 4 ∨ t = 5 ∨ t = 6 ∨ t = 7 := by omega
  clear h0 h7
  rcases ht with rfl | rfl | rfl | rfl | rfl | rfl | rfl | rfl
  · refine (show _ = some (quartI 0 (⟨(⟨p_xa, p_xb, p_xk⟩ : N3), (⟨p_ya, p_yb, p_yk⟩ : N3)⟩ : P2)).av from by kernel_rfl).trans ?_
    exact congrArg (fun z : P2 => some z.av) ((turnI hq 0 0 (by decide)).1 rfl)
  · refine (show _ = cond (pk (⟨p_xa, p_xb, p_xk⟩ : N3) (⟨p_ya, p_yb, p_yk⟩ : N3)) (cond (pkm (subF (⟨p_xa, p_xb, p_xk⟩ : N3) (⟨p_ya, p_yb, p_yk⟩ : N3)) hN) (cond (pk (⟨p_xa, p_xb, p_xk⟩ : N3) (⟨p_ya, p_yb, p_yk⟩ : N3)) (cond (pkm (addF (⟨p_xa, p_xb, p_xk⟩ : N3) (⟨p_ya, p_yb, p_yk⟩ : N3)) hN) (some (quartI 0 (rot45 (⟨(⟨p_xa, p_xb, p_xk⟩ : N3), (⟨p_ya, p_yb, p_yk⟩ : N3)⟩ : P2))).av) none) none) none) none from by kernel_rfl).trans ?_
    rw [a1, a2, a3]
    exact congrArg (fun z : P2 => some z.av) ((turnI hq 1 0 (by decide)).2 rfl)
  · refine (show _ = some (quartI 1 (⟨(⟨p_xa, p_xb, p_xk⟩ : N3), (⟨p_ya, p_yb, p_yk⟩ : N3)⟩ : P2)).av from by kernel_rfl).trans ?_
    exact congrArg (fun z : P2 => some z.av) ((turnI hq 2 1 (by decide)).1 rfl)
  · refine (show _ = cond (pk (⟨p_xa, p_xb, p_xk⟩ : N3) (⟨p_ya, p_yb, p_yk⟩ : N3)) (cond (pkm (subF (⟨p_xa, p_xb, p_xk⟩ : N3) (⟨p_ya, p_yb, p_yk⟩ : N3)) hN) (cond (pk (⟨p_xa, p_xb, p_xk⟩ : N3) (⟨p_ya, p_yb, p_yk⟩ : N3)) (cond (pkm (addF (⟨p_xa, p_xb, p_xk⟩ : N3) (⟨p_ya, p_yb, p_yk⟩ : N3)) hN) (some (quartI 1 (rot45 (⟨(⟨p_xa, p_xb, p_xk⟩ : N3), (⟨p_ya, p_yb, p_yk⟩ : N3)⟩ : P2))).av) none) none) none) none from by kernel_rfl).trans ?_
    rw [a1, a2, a3]
    exact congrArg (fun z : P2 => some z.av) ((turnI hq 3 1 (by decide)).2 rfl)
  · refine (show _ = some (quartI 2 (⟨(⟨p_xa, p_xb, p_xk⟩ : N3), (⟨p_ya, p_yb, p_yk⟩ : N3)⟩ : P2)).av from by kernel_rfl).trans ?_
    exact congrArg (fun z : P2 => some z.av) ((turnI hq 4 2 (by decide)).1 rfl)
  · refine (show _ = cond (pk (⟨p_xa, p_xb, p_xk⟩ : N3) (⟨p_ya, p_yb, p_yk⟩ : N3)) (cond (pkm (subF (⟨p_xa, p_xb, p_xk⟩ : N3) (⟨p_ya, p_yb, p_yk⟩ : N3)) hN) (cond (pk (⟨p_xa, p_xb, p_xk⟩ : N3) (⟨p_ya, p_yb, p_yk⟩ : N3)) (cond (pkm (addF (⟨p_xa, p_xb, p_xk⟩ : N3) (⟨p_ya, p_yb, p_yk⟩ : N3)) hN) (some (quartI 2 (rot45 (⟨(⟨p_xa, p_xb, p_xk⟩ : N3), (⟨p_ya, p_yb, p_yk⟩ : N3)⟩ : P2))).av) none) none) none) none from by kernel_rfl).trans ?_
    rw [a1, a2, a3]
    exact congrArg (fun z : P2 => some z.av) ((turnI hq 5 2 (by decide)).2 rfl)
  · refine (show _ = some (quartI 3 (⟨(⟨p_xa, p_xb, p_xk⟩ : N3), (⟨p_ya, p_yb, p_yk⟩ : N3)⟩ : P2)).av from by kernel_rfl).trans ?_
    exact congrArg (fun z : P2 => some z.av) ((turnI hq 6 3 (by decide)).1 rfl)
  · refine (show _ = cond (pk (⟨p_xa, p_xb, p_xk⟩ : N3) (⟨p_ya, p_yb, p_yk⟩ : N3)) (cond (pkm (subF (⟨p_xa, p_xb, p_xk⟩ : N3) (⟨p_ya, p_yb, p_yk⟩ : N3)) hN) (cond (pk (⟨p_xa, p_xb, p_xk⟩ : N3) (⟨p_ya, p_yb, p_yk⟩ : N3)) (cond (pkm (addF (⟨p_xa, p_xb, p_xk⟩ : N3) (⟨p_ya, p_yb, p_yk⟩ : N3)) hN) (some (quartI 3 (rot45 (⟨(⟨p_xa, p_xb, p_xk⟩ : N3), (⟨p_ya, p_yb, p_yk⟩ : N3)⟩ : P2))).av) none) none) none) none from by kernel_rfl).trans ?_
    rw [a1, a2, a3]
    exact congrArg (fun z : P2 => some z.av) ((turnI hq 7 3 (by decide)).2 rfl)
theorem m79 : Meets Try.prog GL0 79 s79 := by
  refine meetsN mix0 gl0 G53 Try.func79 (by kernel_rfl) (by kernel_rfl) s79 fun args x h => ?_
  unfold s79 at h
  split at h
  · rename_i p_xa p_xb p_xk p_ya p_yb p_yk t
    simp only [Option.some.injEq, Prod.mk.injEq] at h
    obtain ⟨hp, rfl⟩ := h
    exact ⟨_, _, by kernel_rfl, e79 p_xa p_xb p_xk p_ya p_yb p_yk t hp⟩
  · cases h
abbrev Γ54 : List (Nat × Ctr) := (79, s79) :: Γ53
theorem G54 : Sound Try.prog GL0 Γ54 := G53.cons m79

-- spec.l04Turned
def s75 : Ctr := fun
  | [.val (.int .i64 t), .val (.bool f), .agg [.val (.int .i64 p_xa), .val (.int .i64 p_xb), .val (.int .i64 p_xk), .val (.int .i64 p_ya), .val (.int .i64 p_yb), .val (.int .i64 p_yk)]] => some (inB t 0 7 && okP (⟨(⟨p_xa, p_xb, p_xk⟩ : N3), (⟨p_ya, p_yb, p_yk⟩ : N3)⟩ : P2), (turnF t (flipP f (⟨(⟨p_xa, p_xb, p_xk⟩ : N3), (⟨p_ya, p_yb, p_yk⟩ : N3)⟩ : P2))).av)
  | _ => none

theorem e75 (t : Int) (f : Bool) (p_xa : Int) (p_xb : Int) (p_xk : Int) (p_ya : Int) (p_yb : Int) (p_yk : Int) (hp : (inB t 0 7 && okP (⟨(⟨p_xa, p_xb, p_xk⟩ : N3), (⟨p_ya, p_yb, p_yk⟩ : N3)⟩ : P2)) = true) : evN Try.prog GL0 Γ54 (5) [true, true, false, false, false, true, true, true]  Try.f75 [.val (.int .i64 t), .val (.bool f), .agg [.val (.int .i64 p_xa), .val (.int .i64 p_xb), .val (.int .i64 p_xk), .val (.int .i64 p_ya), .val (.int .i64 p_yb), .val (.int .i64 p_yk)]] = some ((turnF t (flipP f (⟨(⟨p_xa, p_xb, p_xk⟩ : N3), (⟨p_ya, p_yb, p_yk⟩ : N3)⟩ : P2))).av) := by
  cases f with
  | true =>
    simp only [Bool.and_eq_true, inB_iff] at hp
    obtain ⟨⟨h0, h7⟩, hq⟩ := hp
    have ho := okP_iff.1 hq
    obtain ⟨a1, a2, a3, _⟩ := turn_pre ho.1 ho.2
    simp only at a1 a2 a3
    have ht : t = 0 ∨ t = 1 ∨ t = 2 ∨ t = 3 ∨ t = 4 ∨ t = 5 ∨ t = 6 ∨ t = 7 := by omega
    clear h0 h7
    rcases ht with rfl | rfl | rfl | rfl | rfl | rfl | rfl | rfl
    · refine (show _ = some ((quartS 0 (flipP true (⟨(⟨p_xa, p_xb, p_xk⟩ : N3), (⟨p_ya, p_yb, p_yk⟩ : N3)⟩ : P2)))).av from by kernel_rfl).trans ?_
      exact congrArg (fun z : P2 => some z.av) ((turnS (flip_ok hq true) 0 0).1 rfl)
    · refine (show _ = cond (pk (quartS 0 (flipP true (⟨(⟨p_xa, p_xb, p_xk⟩ : N3), (⟨p_ya, p_yb, p_yk⟩ : N3)⟩ : P2))).x (quartS 0 (flipP true (⟨(⟨p_xa, p_xb, p_xk⟩ : N3), (⟨p_ya, p_yb, p_yk⟩ : N3)⟩ : P2))).y) (cond (pkm (subF (quartS 0 (flipP true (⟨(⟨p_xa, p_xb, p_xk⟩ : N3), (⟨p_ya, p_yb, p_yk⟩ : N3)⟩ : P2))).x (quartS 0 (flipP true (⟨(⟨p_xa, p_xb, p_xk⟩ : N3), (⟨p_ya, p_yb, p_yk⟩ : N3)⟩ : P2))).y) hN) (cond (pk (quartS 0 (flipP true (⟨(⟨p_xa, p_xb, p_xk⟩ : N3), (⟨p_ya, p_yb, p_yk⟩ : N3)⟩ : P2))).x (quartS 0 (flipP true (⟨(⟨p_xa, p_xb, p_xk⟩ : N3), (⟨p_ya, p_yb, p_yk⟩ : N3)⟩ : P2))).y) (cond (pkm (addF (quartS 0 (flipP true (⟨(⟨p_xa, p_xb, p_xk⟩ : N3), (⟨p_ya, p_yb, p_yk⟩ : N3)⟩ : P2))).x (quartS 0 (flipP true (⟨(⟨p_xa, p_xb, p_xk⟩ : N3), (⟨p_ya, p_yb, p_yk⟩ : N3)⟩ : P2))).y) hN) (some (rot45 (quartS 0 (flipP true (⟨(⟨p_xa, p_xb, p_xk⟩ : N3), (⟨p_ya, p_yb, p_yk⟩ : N3)⟩ : P2)))).av) none) none) none) none from by kernel_rfl).trans ?_
      obtain ⟨c1, c2, c3⟩ := quartS_ok (flip_ok hq true) 0
      rw [c1, c2, c3]
      exact congrArg (fun z : P2 => some z.av) ((turnS (flip_ok hq true) 1 0).2 rfl)
    · refine (show _ = some ((quartS 1 (flipP true (⟨(⟨p_xa, p_xb, p_xk⟩ : N3), (⟨p_ya, p_yb, p_yk⟩ : N3)⟩ : P2)))).av from by kernel_rfl).trans ?_
      exact congrArg (fun z : P2 => some z.av) ((turnS (flip_ok hq true) 2 1).1 rfl)
    · refine (show _ = cond (pk (quartS 1 (flipP true (⟨(⟨p_xa, p_xb, p_xk⟩ : N3), (⟨p_ya, p_yb, p_yk⟩ : N3)⟩ : P2))).x (quartS 1 (flipP true (⟨(⟨p_xa, p_xb, p_xk⟩ : N3), (⟨p_ya, p_yb, p_yk⟩ : N3)⟩ : P2))).y) (cond (pkm (subF (quartS 1 (flipP true (⟨(⟨p_xa, p_xb, p_xk⟩ : N3), (⟨p_ya, p_yb, p_yk⟩ : N3)⟩ : P2))).x (quartS 1 (flipP true (⟨(⟨p_xa, p_xb, p_xk⟩ : N3), (⟨p_ya, p_yb, p_yk⟩ : N3)⟩ : P2))).y) hN) (cond (pk (quartS 1 (flipP true (⟨(⟨p_xa, p_xb, p_xk⟩ : N3), (⟨p_ya, p_yb, p_yk⟩ : N3)⟩ : P2))).x (quartS 1 (flipP true (⟨(⟨p_xa, p_xb, p_xk⟩ : N3), (⟨p_ya, p_yb, p_yk⟩ : N3)⟩ : P2))).y) (cond (pkm (addF (quartS 1 (flipP true (⟨(⟨p_xa, p_xb, p_xk⟩ : N3), (⟨p_ya, p_yb, p_yk⟩ : N3)⟩ : P2))).x (quartS 1 (flipP true (⟨(⟨p_xa, p_xb, p_xk⟩ : N3), (⟨p_ya, p_yb, p_yk⟩ : N3)⟩ : P2))).y) hN) (some (rot45 (quartS 1 (flipP true (⟨(⟨p_xa, p_xb, p_xk⟩ : N3), (⟨p_ya, p_yb, p_yk⟩ : N3)⟩ : P2)))).av) none) none) none) none from by kernel_rfl).trans ?_
      obtain ⟨c1, c2, c3⟩ := quartS_ok (flip_ok hq true) 1
      rw [c1, c2, c3]
      exact congrArg (fun z : P2 => some z.av) ((turnS (flip_ok hq true) 3 1).2 rfl)
    · refine (show _ = some ((quartS 2 (flipP true (⟨(⟨p_xa, p_xb, p_xk⟩ : N3), (⟨p_ya, p_yb, p_yk⟩ : N3)⟩ : P2)))).av from by kernel_rfl).trans ?_
      exact congrArg (fun z : P2 => some z.av) ((turnS (flip_ok hq true) 4 2).1 rfl)
    · refine (show _ = cond (pk (quartS 2 (flipP true (⟨(⟨p_xa, p_xb, p_xk⟩ : N3), (⟨p_ya, p_yb, p_yk⟩ : N3)⟩ : P2))).x (quartS 2 (flipP true (⟨(⟨p_xa, p_xb, p_xk⟩ : N3), (⟨p_ya, p_yb, p_yk⟩ : N3)⟩ : P2))).y) (cond (pkm (subF (quartS 2 (flipP true (⟨(⟨p_xa, p_xb, p_xk⟩ : N3), (⟨p_ya, p_yb, p_yk⟩ : N3)⟩ : P2))).x (quartS 2 (flipP true (⟨(⟨p_xa, p_xb, p_xk⟩ : N3), (⟨p_ya, p_yb, p_yk⟩ : N3)⟩ : P2))).y) hN) (cond (pk (quartS 2 (flipP true (⟨(⟨p_xa, p_xb, p_xk⟩ : N3), (⟨p_ya, p_yb, p_yk⟩ : N3)⟩ : P2))).x (quartS 2 (flipP true (⟨(⟨p_xa, p_xb, p_xk⟩ : N3), (⟨p_ya, p_yb, p_yk⟩ : N3)⟩ : P2))).y) (cond (pkm (addF (quartS 2 (flipP true (⟨(⟨p_xa, p_xb, p_xk⟩ : N3), (⟨p_ya, p_yb, p_yk⟩ : N3)⟩ : P2))).x (quartS 2 (flipP true (⟨(⟨p_xa, p_xb, p_xk⟩ : N3), (⟨p_ya, p_yb, p_yk⟩ : N3)⟩ : P2))).y) hN) (some (rot45 (quartS 2 (flipP true (⟨(⟨p_xa, p_xb, p_xk⟩ : N3), (⟨p_ya, p_yb, p_yk⟩ : N3)⟩ : P2)))).av) none) none) none) none from by kernel_rfl).trans ?_
      obtain ⟨c1, c2, c3⟩ := quartS_ok (flip_ok hq true) 2
      rw [c1, c2, c3]
      exact congrArg (fun z : P2 => some z.av) ((turnS (flip_ok hq true) 5 2).2 rfl)
    · refine (show _ = some ((quartS 3 (flipP true (⟨(⟨p_xa, p_xb, p_xk⟩ : N3), (⟨p_ya, p_yb, p_yk⟩ : N3)⟩ : P2)))).av from by kernel_rfl).trans ?_
      exact congrArg (fun z : P2 => some z.av) ((turnS (flip_ok hq true) 6 3).1 rfl)
    · refine (show _ = cond (pk (quartS 3 (flipP true (⟨(⟨p_xa, p_xb, p_xk⟩ : N3), (⟨p_ya, p_yb, p_yk⟩ : N3)⟩ : P2))).x (quartS 3 (flipP true (⟨(⟨p_xa, p_xb, p_xk⟩ : N3), (⟨p_ya, p_yb, p_yk⟩ : N3)⟩ : P2))).y) (cond (pkm (subF (quartS 3 (flipP true (⟨(⟨p_xa, p_xb, p_xk⟩ : N3), (⟨p_ya, p_yb, p_yk⟩ : N3)⟩ : P2))).x (quartS 3 (flipP true (⟨(⟨p_xa, p_xb, p_xk⟩ : N3), (⟨p_ya, p_yb, p_yk⟩ : N3)⟩ : P2))).y) hN) (cond (pk (quartS 3 (flipP true (⟨(⟨p_xa, p_xb, p_xk⟩ : N3), (⟨p_ya, p_yb, p_yk⟩ : N3)⟩ : P2))).x (quartS 3 (flipP true (⟨(⟨p_xa, p_xb, p_xk⟩ : N3), (⟨p_ya, p_yb, p_yk⟩ : N3)⟩ : P2))).y) (cond (pkm (addF (quartS 3 (flipP true (⟨(⟨p_xa, p_xb, p_xk⟩ : N3), (⟨p_ya, p_yb, p_yk⟩ : N3)⟩ : P2))).x (quartS 3 (flipP true (⟨(⟨p_xa, p_xb, p_xk⟩ : N3), (⟨p_ya, p_yb, p_yk⟩ : N3)⟩ : P2))).y) hN) (some (rot45 (quartS 3 (flipP true (⟨(⟨p_xa, p_xb, p_xk⟩ : N3), (⟨p_ya, p_yb, p_yk⟩ : N3)⟩ : P2)))).av) none) none) none) none from by kernel_rfl).trans ?_
      obtain ⟨c1, c2, c3⟩ := quartS_ok (flip_ok hq true) 3
      rw [c1, c2, c3]
      exact congrArg (fun z : P2 => some z.av) ((turnS (flip_ok hq true) 7 3).2 rfl)
  | false =>
    simp only [Bool.and_eq_true, inB_iff] at hp
    obtain ⟨⟨h0, h7⟩, hq⟩ := hp
    have ho := okP_iff.1 hq
    obtain ⟨a1, a2, a3, _⟩ := turn_pre ho.1 ho.2
    simp only at a1 a2 a3
    have ht : t = 0 ∨ t = 1 ∨ t = 2 ∨ t = 3 ∨ t = 4 ∨ t = 5 ∨ t = 6 ∨ t = 7 := by omega
    clear h0 h7
    rcases ht with rfl | rfl | rfl | rfl | rfl | rfl | rfl | rfl
    · refine (show _ = some ((quartS 0 (flipP false (⟨(⟨p_xa, p_xb, p_xk⟩ : N3), (⟨p_ya, p_yb, p_yk⟩ : N3)⟩ : P2)))).av from by kernel_rfl).trans ?_
      exact congrArg (fun z : P2 => some z.av) ((turnS (flip_ok hq false) 0 0).1 rfl)
    · refine (show _ = cond (pk (quartS 0 (flipP false (⟨(⟨p_xa, p_xb, p_xk⟩ : N3), (⟨p_ya, p_yb, p_yk⟩ : N3)⟩ : P2))).x (quartS 0 (flipP false (⟨(⟨p_xa, p_xb, p_xk⟩ : N3), (⟨p_ya, p_yb, p_yk⟩ : N3)⟩ : P2))).y) (cond (pkm (subF (quartS 0 (flipP false (⟨(⟨p_xa, p_xb, p_xk⟩ : N3), (⟨p_ya, p_yb, p_yk⟩ : N3)⟩ : P2))).x (quartS 0 (flipP false (⟨(⟨p_xa, p_xb, p_xk⟩ : N3), (⟨p_ya, p_yb, p_yk⟩ : N3)⟩ : P2))).y) hN) (cond (pk (quartS 0 (flipP false (⟨(⟨p_xa, p_xb, p_xk⟩ : N3), (⟨p_ya, p_yb, p_yk⟩ : N3)⟩ : P2))).x (quartS 0 (flipP false (⟨(⟨p_xa, p_xb, p_xk⟩ : N3), (⟨p_ya, p_yb, p_yk⟩ : N3)⟩ : P2))).y) (cond (pkm (addF (quartS 0 (flipP false (⟨(⟨p_xa, p_xb, p_xk⟩ : N3), (⟨p_ya, p_yb, p_yk⟩ : N3)⟩ : P2))).x (quartS 0 (flipP false (⟨(⟨p_xa, p_xb, p_xk⟩ : N3), (⟨p_ya, p_yb, p_yk⟩ : N3)⟩ : P2))).y) hN) (some (rot45 (quartS 0 (flipP false (⟨(⟨p_xa, p_xb, p_xk⟩ : N3), (⟨p_ya, p_yb, p_yk⟩ : N3)⟩ : P2)))).av) none) none) none) none from by kernel_rfl).trans ?_
      obtain ⟨c1, c2, c3⟩ := quartS_ok (flip_ok hq false) 0
      rw [c1, c2, c3]
      exact congrArg (fun z : P2 => some z.av) ((turnS (flip_ok hq false) 1 0).2 rfl)
    · refine (show _ = some ((quartS 1 (flipP false (⟨(⟨p_xa, p_xb, p_xk⟩ : N3), (⟨p_ya, p_yb, p_yk⟩ : N3)⟩ : P2)))).av from by kernel_rfl).trans ?_
      exact congrArg (fun z : P2 => some z.av) ((turnS (flip_ok hq false) 2 1).1 rfl)
    · refine (show _ = cond (pk (quartS 1 (flipP false (⟨(⟨p_xa, p_xb, p_xk⟩ : N3), (⟨p_ya, p_yb, p_yk⟩ : N3)⟩ : P2))).x (quartS 1 (flipP false (⟨(⟨p_xa, p_xb, p_xk⟩ : N3), (⟨p_ya, p_yb, p_yk⟩ : N3)⟩ : P2))).y) (cond (pkm (subF (quartS 1 (flipP false (⟨(⟨p_xa, p_xb, p_xk⟩ : N3), (⟨p_ya, p_yb, p_yk⟩ : N3)⟩ : P2))).x (quartS 1 (flipP false (⟨(⟨p_xa, p_xb, p_xk⟩ : N3), (⟨p_ya, p_yb, p_yk⟩ : N3)⟩ : P2))).y) hN) (cond (pk (quartS 1 (flipP false (⟨(⟨p_xa, p_xb, p_xk⟩ : N3), (⟨p_ya, p_yb, p_yk⟩ : N3)⟩ : P2))).x (quartS 1 (flipP false (⟨(⟨p_xa, p_xb, p_xk⟩ : N3), (⟨p_ya, p_yb, p_yk⟩ : N3)⟩ : P2))).y) (cond (pkm (addF (quartS 1 (flipP false (⟨(⟨p_xa, p_xb, p_xk⟩ : N3), (⟨p_ya, p_yb, p_yk⟩ : N3)⟩ : P2))).x (quartS 1 (flipP false (⟨(⟨p_xa, p_xb, p_xk⟩ : N3), (⟨p_ya, p_yb, p_yk⟩ : N3)⟩ : P2))).y) hN) (some (rot45 (quartS 1 (flipP false (⟨(⟨p_xa, p_xb, p_xk⟩ : N3), (⟨p_ya, p_yb, p_yk⟩ : N3)⟩ : P2)))).av) none) none) none) none from by kernel_rfl).trans ?_
      obtain ⟨c1, c2, c3⟩ := quartS_ok (flip_ok hq false) 1
      rw [c1, c2, c3]
      exact congrArg (fun z : P2 => some z.av) ((turnS (flip_ok hq false) 3 1).2 rfl)
    · refine (show _ = some ((quartS 2 (flipP false (⟨(⟨p_xa, p_xb, p_xk⟩ : N3), (⟨p_ya, p_yb, p_yk⟩ : N3)⟩ : P2)))).av from by kernel_rfl).trans ?_
      exact congrArg (fun z : P2 => some z.av) ((turnS (flip_ok hq false) 4 2).1 rfl)
    · refine (show _ = cond (pk (quartS 2 (flipP false (⟨(⟨p_xa, p_xb, p_xk⟩ : N3), (⟨p_ya, p_yb, p_yk⟩ : N3)⟩ : P2))).x (quartS 2 (flipP false (⟨(⟨p_xa, p_xb, p_xk⟩ : N3), (⟨p_ya, p_yb, p_yk⟩ : N3)⟩ : P2))).y) (cond (pkm (subF (quartS 2 (flipP false (⟨(⟨p_xa, p_xb, p_xk⟩ : N3), (⟨p_ya, p_yb, p_yk⟩ : N3)⟩ : P2))).x (quartS 2 (flipP false (⟨(⟨p_xa, p_xb, p_xk⟩ : N3), (⟨p_ya, p_yb, p_yk⟩ : N3)⟩ : P2))).y) hN) (cond (pk (quartS 2 (flipP false (⟨(⟨p_xa, p_xb, p_xk⟩ : N3), (⟨p_ya, p_yb, p_yk⟩ : N3)⟩ : P2))).x (quartS 2 (flipP false (⟨(⟨p_xa, p_xb, p_xk⟩ : N3), (⟨p_ya, p_yb, p_yk⟩ : N3)⟩ : P2))).y) (cond (pkm (addF (quartS 2 (flipP false (⟨(⟨p_xa, p_xb, p_xk⟩ : N3), (⟨p_ya, p_yb, p_yk⟩ : N3)⟩ : P2))).x (quartS 2 (flipP false (⟨(⟨p_xa, p_xb, p_xk⟩ : N3), (⟨p_ya, p_yb, p_yk⟩ : N3)⟩ : P2))).y) hN) (some (rot45 (quartS 2 (flipP false (⟨(⟨p_xa, p_xb, p_xk⟩ : N3), (⟨p_ya, p_yb, p_yk⟩ : N3)⟩ : P2)))).av) none) none) none) none from by kernel_rfl).trans ?_
      obtain ⟨c1, c2, c3⟩ := quartS_ok (flip_ok hq false) 2
      rw [c1, c2, c3]
      exact congrArg (fun z : P2 => some z.av) ((turnS (flip_ok hq false) 5 2).2 rfl)
    · refine (show _ = some ((quartS 3 (flipP false (⟨(⟨p_xa, p_xb, p_xk⟩ : N3), (⟨p_ya, p_yb, p_yk⟩ : N3)⟩ : P2)))).av from by kernel_rfl).trans ?_
      exact congrArg (fun z : P2 => some z.av) ((turnS (flip_ok hq false) 6 3).1 rfl)
    · refine (show _ = cond (pk (quartS 3 (flipP false (⟨(⟨p_xa, p_xb, p_xk⟩ : N3), (⟨p_ya, p_yb, p_yk⟩ : N3)⟩ : P2))).x (quartS 3 (flipP false (⟨(⟨p_xa, p_xb, p_xk⟩ : N3), (⟨p_ya, p_yb, p_yk⟩ : N3)⟩ : P2))).y) (cond (pkm (subF (quartS 3 (flipP false (⟨(⟨p_xa, p_xb, p_xk⟩ : N3), (⟨p_ya, p_yb, p_yk⟩ : N3)⟩ : P2))).x (quartS 3 (flipP false (⟨(⟨p_xa, p_xb, p_xk⟩ : N3), (⟨p_ya, p_yb, p_yk⟩ : N3)⟩ : P2))).y) hN) (cond (pk (quartS 3 (flipP false (⟨(⟨p_xa, p_xb, p_xk⟩ : N3), (⟨p_ya, p_yb, p_yk⟩ : N3)⟩ : P2))).x (quartS 3 (flipP false (⟨(⟨p_xa, p_xb, p_xk⟩ : N3), (⟨p_ya, p_yb, p_yk⟩ : N3)⟩ : P2))).y) (cond (pkm (addF (quartS 3 (flipP false (⟨(⟨p_xa, p_xb, p_xk⟩ : N3), (⟨p_ya, p_yb, p_yk⟩ : N3)⟩ : P2))).x (quartS 3 (flipP false (⟨(⟨p_xa, p_xb, p_xk⟩ : N3), (⟨p_ya, p_yb, p_yk⟩ : N3)⟩ : P2))).y) hN) (some (rot45 (quartS 3 (flipP false (⟨(⟨p_xa, p_xb, p_xk⟩ : N3), (⟨p_ya, p_yb, p_yk⟩ : N3)⟩ : P2)))).av) none) none) none) none from by kernel_rfl).trans ?_
      obtain ⟨c1, c2, c3⟩ := quartS_ok (flip_ok hq false) 3
      rw [c1, c2, c3]
      exact congrArg (fun z : P2 => some z.av) ((turnS (flip_ok hq false) 7 3).2 rfl)
theorem m75 : Meets Try.prog GL0 75 s75 := by
  refine meetsN mix0 gl0 G54 Try.func75 (by kernel_rfl) (by kernel_rfl) s75 fun args x h => ?_
  unfold s75 at h
  split at h
  · rename_i t f p_xa p_xb p_xk p_ya p_yb p_yk
    simp only [Option.some.injEq, Prod.mk.injEq] at h
    obtain ⟨hp, rfl⟩ := h
    exact ⟨_, _, by kernel_rfl, e75 t f p_xa p_xb p_xk p_ya p_yb p_yk hp⟩
  · cases h
abbrev Γ55 : List (Nat × Ctr) := (75, s75) :: Γ54
theorem G55 : Sound Try.prog GL0 Γ55 := G54.cons m75

-- (impl.Motion).linear
def s72 : Ctr := fun
  | [.agg [.val (.int .i64 m_t), .val (.bool m_f), .val (.int .i64 m_xa), .val (.int .i64 m_xb), .val (.int .i64 m_xk), .val (.int .i64 m_ya), .val (.int .i64 m_yb), .val (.int .i64 m_yk)], .agg [.val (.int .i64 p_xa), .val (.int .i64 p_xb), .val (.int .i64 p_xk), .val (.int .i64 p_ya), .val (.int .i64 p_yb), .val (.int .i64 p_yk)]] => some (inB m_t 0 7 && okP (⟨(⟨p_xa, p_xb, p_xk⟩ : N3), (⟨p_ya, p_yb, p_yk⟩ : N3)⟩ : P2), (turnF m_t (flipP m_f (⟨(⟨p_xa, p_xb, p_xk⟩ : N3), (⟨p_ya, p_yb, p_yk⟩ : N3)⟩ : P2))).av)
  | _ => none

theorem e72 (m_t : Int) (m_f : Bool) (m_xa : Int) (m_xb : Int) (m_xk : Int) (m_ya : Int) (m_yb : Int) (m_yk : Int) (p_xa : Int) (p_xb : Int) (p_xk : Int) (p_ya : Int) (p_yb : Int) (p_yk : Int) (hp : (inB m_t 0 7 && okP (⟨(⟨p_xa, p_xb, p_xk⟩ : N3), (⟨p_ya, p_yb, p_yk⟩ : N3)⟩ : P2)) = true) : evN Try.prog GL0 Γ55 (0) []  Try.f72 [.agg [.val (.int .i64 m_t), .val (.bool m_f), .val (.int .i64 m_xa), .val (.int .i64 m_xb), .val (.int .i64 m_xk), .val (.int .i64 m_ya), .val (.int .i64 m_yb), .val (.int .i64 m_yk)], .agg [.val (.int .i64 p_xa), .val (.int .i64 p_xb), .val (.int .i64 p_xk), .val (.int .i64 p_ya), .val (.int .i64 p_yb), .val (.int .i64 p_yk)]] = some ((turnF m_t (flipP m_f (⟨(⟨p_xa, p_xb, p_xk⟩ : N3), (⟨p_ya, p_yb, p_yk⟩ : N3)⟩ : P2))).av) := by
  have hq := (Bool.and_eq_true _ _ ▸ hp)
  have h1 : (inB m_t 0 7 && okP (flipP m_f (⟨(⟨p_xa, p_xb, p_xk⟩ : N3), (⟨p_ya, p_yb, p_yk⟩ : N3)⟩ : P2))) = true := by rw [hq.1, flip_ok hq.2 m_f]; rfl
  cases m_f with
  | true =>
    refine (show _ = cond (inB m_t 0 7 && okP (flipP true (⟨(⟨p_xa, p_xb, p_xk⟩ : N3), (⟨p_ya, p_yb, p_yk⟩ : N3)⟩ : P2))) (some (turnF m_t (flipP true (⟨(⟨p_xa, p_xb, p_xk⟩ : N3), (⟨p_ya, p_yb, p_yk⟩ : N3)⟩ : P2))).av) none from by kernel_rfl).trans ?_
    rw [h1]
    rfl
  | false =>
    refine (show _ = cond (inB m_t 0 7 && okP (flipP false (⟨(⟨p_xa, p_xb, p_xk⟩ : N3), (⟨p_ya, p_yb, p_yk⟩ : N3)⟩ : P2))) (some (turnF m_t (flipP false (⟨(⟨p_xa, p_xb, p_xk⟩ : N3), (⟨p_ya, p_yb, p_yk⟩ : N3)⟩ : P2))).av) none from by kernel_rfl).trans ?_
    rw [h1]
    rfl
theorem m72 : Meets Try.prog GL0 72 s72 := by
  refine meetsN mix0 gl0 G55 Try.func72 (by kernel_rfl) (by kernel_rfl) s72 fun args x h => ?_
  unfold s72 at h
  split at h
  · rename_i m_t m_f m_xa m_xb m_xk m_ya m_yb m_yk p_xa p_xb p_xk p_ya p_yb p_yk
    simp only [Option.some.injEq, Prod.mk.injEq] at h
    obtain ⟨hp, rfl⟩ := h
    exact ⟨_, _, by kernel_rfl, e72 m_t m_f m_xa m_xb m_xk m_ya m_yb m_yk p_xa p_xb p_xk p_ya p_yb p_yk hp⟩
  · cases h
abbrev Γ56 : List (Nat × Ctr) := (72, s72) :: Γ55
theorem G56 : Sound Try.prog GL0 Γ56 := G55.cons m72

-- (impl.Motion).shift
def s71 : Ctr := fun
  | [.agg [.val (.int .i64 m_t), .val (.bool m_f), .val (.int .i64 m_xa), .val (.int .i64 m_xb), .val (.int .i64 m_xk), .val (.int .i64 m_ya), .val (.int .i64 m_yb), .val (.int .i64 m_yk)]] => some (true, (⟨⟨m_xa, m_xb, m_xk⟩, ⟨m_ya, m_yb, m_yk⟩⟩ : P2).av)
  | _ => none

theorem e71 (m_t : Int) (m_f : Bool) (m_xa : Int) (m_xb : Int) (m_xk : Int) (m_ya : Int) (m_yb : Int) (m_yk : Int) : evN Try.prog GL0 Γ56 (0) []  Try.f71 [.agg [.val (.int .i64 m_t), .val (.bool m_f), .val (.int .i64 m_xa), .val (.int .i64 m_xb), .val (.int .i64 m_xk), .val (.int .i64 m_ya), .val (.int .i64 m_yb), .val (.int .i64 m_yk)]] = some ((⟨⟨m_xa, m_xb, m_xk⟩, ⟨m_ya, m_yb, m_yk⟩⟩ : P2).av) := by
  kernel_rfl
theorem m71 : Meets Try.prog GL0 71 s71 := by
  refine meetsN mix0 gl0 G56 Try.func71 (by kernel_rfl) (by kernel_rfl) s71 fun args x h => ?_
  unfold s71 at h
  split at h
  · rename_i m_t m_f m_xa m_xb m_xk m_ya m_yb m_yk
    simp only [Option.some.injEq, Prod.mk.injEq] at h
    obtain ⟨hp, rfl⟩ := h
    exact ⟨_, _, by kernel_rfl, e71 m_t m_f m_xa m_xb m_xk m_ya m_yb m_yk⟩
  · cases h
abbrev Γ57 : List (Nat × Ctr) := (71, s71) :: Γ56
theorem G57 : Sound Try.prog GL0 Γ57 := G56.cons m71

-- spec.l04Of
def s56 : Ctr := fun
  | [.agg [.val (.int .i64 m_t), .val (.bool m_f), .val (.int .i64 m_xa), .val (.int .i64 m_xb), .val (.int .i64 m_xk), .val (.int .i64 m_ya), .val (.int .i64 m_yb), .val (.int .i64 m_yk)]] => some (true, .agg [.val (.int .i64 m_t), .val (.bool m_f), .val (.int .i64 m_xa), .val (.int .i64 m_xb), .val (.int .i64 m_xk), .val (.int .i64 m_ya), .val (.int .i64 m_yb), .val (.int .i64 m_yk)])
  | _ => none

theorem e56 (m_t : Int) (m_f : Bool) (m_xa : Int) (m_xb : Int) (m_xk : Int) (m_ya : Int) (m_yb : Int) (m_yk : Int) : evN Try.prog GL0 Γ57 (0) []  Try.f56 [.agg [.val (.int .i64 m_t), .val (.bool m_f), .val (.int .i64 m_xa), .val (.int .i64 m_xb), .val (.int .i64 m_xk), .val (.int .i64 m_ya), .val (.int .i64 m_yb), .val (.int .i64 m_yk)]] = some (.agg [.val (.int .i64 m_t), .val (.bool m_f), .val (.int .i64 m_xa), .val (.int .i64 m_xb), .val (.int .i64 m_xk), .val (.int .i64 m_ya), .val (.int .i64 m_yb), .val (.int .i64 m_yk)]) := by
  kernel_rfl
theorem m56 : Meets Try.prog GL0 56 s56 := by
  refine meetsN mix0 gl0 G57 Try.func56 (by kernel_rfl) (by kernel_rfl) s56 fun args x h => ?_
  unfold s56 at h
  split at h
  · rename_i m_t m_f m_xa m_xb m_xk m_ya m_yb m_yk
    simp only [Option.some.injEq, Prod.mk.injEq] at h
    obtain ⟨hp, rfl⟩ := h
    exact ⟨_, _, by kernel_rfl, e56 m_t m_f m_xa m_xb m_xk m_ya m_yb m_yk⟩
  · cases h
abbrev Γ58 : List (Nat × Ctr) := (56, s56) :: Γ57
theorem G58 : Sound Try.prog GL0 Γ58 := G57.cons m56

-- (impl.Motion).move
def s52 : Ctr := fun
  | [.agg [.val (.int .i64 m_t), .val (.bool m_f), .val (.int .i64 m_xa), .val (.int .i64 m_xb), .val (.int .i64 m_xk), .val (.int .i64 m_ya), .val (.int .i64 m_yb), .val (.int .i64 m_yk)], .agg [.val (.int .i64 p_xa), .val (.int .i64 p_xb), .val (.int .i64 p_xk), .val (.int .i64 p_ya), .val (.int .i64 p_yb), .val (.int .i64 p_yk)]] => some (okM m_t (⟨(⟨p_xa, p_xb, p_xk⟩ : N3), (⟨p_ya, p_yb, p_yk⟩ : N3)⟩ : P2) (⟨⟨m_xa, m_xb, m_xk⟩, ⟨m_ya, m_yb, m_yk⟩⟩ : P2), (moveF m_t m_f (⟨⟨m_xa, m_xb, m_xk⟩, ⟨m_ya, m_yb, m_yk⟩⟩ : P2) (⟨(⟨p_xa, p_xb, p_xk⟩ : N3), (⟨p_ya, p_yb, p_yk⟩ : N3)⟩ : P2)).av)
  | _ => none

theorem e52 (m_t : Int) (m_f : Bool) (m_xa : Int) (m_xb : Int) (m_xk : Int) (m_ya : Int) (m_yb : Int) (m_yk : Int) (p_xa : Int) (p_xb : Int) (p_xk : Int) (p_ya : Int) (p_yb : Int) (p_yk : Int) (hp : (okM m_t (⟨(⟨p_xa, p_xb, p_xk⟩ : N3), (⟨p_ya, p_yb, p_yk⟩ : N3)⟩ : P2) (⟨⟨m_xa, m_xb, m_xk⟩, ⟨m_ya, m_yb, m_yk⟩⟩ : P2)) = true) : evN Try.prog GL0 Γ58 (0) []  Try.f52 [.agg [.val (.int .i64 m_t), .val (.bool m_f), .val (.int .i64 m_xa), .val (.int .i64 m_xb), .val (.int .i64 m_xk), .val (.int .i64 m_ya), .val (.int .i64 m_yb), .val (.int .i64 m_yk)], .agg [.val (.int .i64 p_xa), .val (.int .i64 p_xb), .val (.int .i64 p_xk), .val (.int .i64 p_ya), .val (.int .i64 p_yb), .val (.int .i64 p_yk)]] = some ((moveF m_t m_f (⟨⟨m_xa, m_xb, m_xk⟩, ⟨m_ya, m_yb, m_yk⟩⟩ : P2) (⟨(⟨p_xa, p_xb, p_xk⟩ : N3), (⟨p_ya, p_yb, p_yk⟩ : N3)⟩ : P2)).av) := by
  unfold okM at hp
  simp only [Bool.and_eq_true] at hp
  obtain ⟨h1, h2, h3⟩ := hp
  obtain ⟨k1, k2, k3, _⟩ := turn_pk (flip_ok h2 m_f) h3 m_t
  refine (show _ = cond (inB m_t 0 7 && okP (⟨(⟨p_xa, p_xb, p_xk⟩ : N3), (⟨p_ya, p_yb, p_yk⟩ : N3)⟩ : P2)) (cond (pkP (turnF m_t (flipP m_f (⟨(⟨p_xa, p_xb, p_xk⟩ : N3), (⟨p_ya, p_yb, p_yk⟩ : N3)⟩ : P2))) (⟨⟨m_xa, m_xb, m_xk⟩, ⟨m_ya, m_yb, m_yk⟩⟩ : P2)) (some (moveF m_t m_f (⟨⟨m_xa, m_xb, m_xk⟩, ⟨m_ya, m_yb, m_yk⟩⟩ : P2) (⟨(⟨p_xa, p_xb, p_xk⟩ : N3), (⟨p_ya, p_yb, p_yk⟩ : N3)⟩ : P2)).av) none) none from by kernel_rfl).trans ?_
  rw [h1, h2, k3]
  rfl
theorem m52 : Meets Try.prog GL0 52 s52 := by
  refine meetsN mix0 gl0 G58 Try.func52 (by kernel_rfl) (by kernel_rfl) s52 fun args x h => ?_
  unfold s52 at h
  split at h
  · rename_i m_t m_f m_xa m_xb m_xk m_ya m_yb m_yk p_xa p_xb p_xk p_ya p_yb p_yk
    simp only [Option.some.injEq, Prod.mk.injEq] at h
    obtain ⟨hp, rfl⟩ := h
    exact ⟨_, _, by kernel_rfl, e52 m_t m_f m_xa m_xb m_xk m_ya m_yb m_yk p_xa p_xb p_xk p_ya p_yb p_yk hp⟩
  · cases h
abbrev Γ59 : List (Nat × Ctr) := (52, s52) :: Γ58
theorem G59 : Sound Try.prog GL0 Γ59 := G58.cons m52

-- spec.l04Move
def s55 : Ctr := fun
  | [.agg [.val (.int .i64 m_t), .val (.bool m_f), .val (.int .i64 m_xa), .val (.int .i64 m_xb), .val (.int .i64 m_xk), .val (.int .i64 m_ya), .val (.int .i64 m_yb), .val (.int .i64 m_yk)], .agg [.val (.int .i64 p_xa), .val (.int .i64 p_xb), .val (.int .i64 p_xk), .val (.int .i64 p_ya), .val (.int .i64 p_yb), .val (.int .i64 p_yk)]] => some (okM m_t (⟨(⟨p_xa, p_xb, p_xk⟩ : N3), (⟨p_ya, p_yb, p_yk⟩ : N3)⟩ : P2) (⟨⟨m_xa, m_xb, m_xk⟩, ⟨m_ya, m_yb, m_yk⟩⟩ : P2), (moveF m_t m_f (⟨⟨m_xa, m_xb, m_xk⟩, ⟨m_ya, m_yb, m_yk⟩⟩ : P2) (⟨(⟨p_xa, p_xb, p_xk⟩ : N3), (⟨p_ya, p_yb, p_yk⟩ : N3)⟩ : P2)).av)
  | _ => none

theorem e55 (m_t : Int) (m_f : Bool) (m_xa : Int) (m_xb : Int) (m_xk : Int) (m_ya : Int) (m_yb : Int) (m_yk : Int) (p_xa : Int) (p_xb : Int) (p_xk : Int) (p_ya : Int) (p_yb : Int) (p_yk : Int) (hp : (okM m_t (⟨(⟨p_xa, p_xb, p_xk⟩ : N3), (⟨p_ya, p_yb, p_yk⟩ : N3)⟩ : P2) (⟨⟨m_xa, m_xb, m_xk⟩, ⟨m_ya, m_yb, m_yk⟩⟩ : P2)) = true) : evN Try.prog GL0 Γ59 (0) []  Try.f55 [.agg [.val (.int .i64 m_t), .val (.bool m_f), .val (.int .i64 m_xa), .val (.int .i64 m_xb), .val (.int .i64 m_xk), .val (.int .i64 m_ya), .val (.int .i64 m_yb), .val (.int .i64 m_yk)], .agg [.val (.int .i64 p_xa), .val (.int .i64 p_xb), .val (.int .i64 p_xk), .val (.int .i64 p_ya), .val (.int .i64 p_yb), .val (.int .i64 p_yk)]] = some ((moveF m_t m_f (⟨⟨m_xa, m_xb, m_xk⟩, ⟨m_ya, m_yb, m_yk⟩⟩ : P2) (⟨(⟨p_xa, p_xb, p_xk⟩ : N3), (⟨p_ya, p_yb, p_yk⟩ : N3)⟩ : P2)).av) := by
  unfold okM at hp
  simp only [Bool.and_eq_true] at hp
  obtain ⟨h1, h2, h3⟩ := hp
  obtain ⟨k1, k2, k3, _⟩ := turn_pk (flip_ok h2 m_f) h3 m_t
  refine (show _ = cond (inB m_t 0 7 && okP (⟨(⟨p_xa, p_xb, p_xk⟩ : N3), (⟨p_ya, p_yb, p_yk⟩ : N3)⟩ : P2)) (cond (pkP (turnF m_t (flipP m_f (⟨(⟨p_xa, p_xb, p_xk⟩ : N3), (⟨p_ya, p_yb, p_yk⟩ : N3)⟩ : P2))) (⟨⟨m_xa, m_xb, m_xk⟩, ⟨m_ya, m_yb, m_yk⟩⟩ : P2)) (some (moveF m_t m_f (⟨⟨m_xa, m_xb, m_xk⟩, ⟨m_ya, m_yb, m_yk⟩⟩ : P2) (⟨(⟨p_xa, p_xb, p_xk⟩ : N3), (⟨p_ya, p_yb, p_yk⟩ : N3)⟩ : P2)).av) none) none from by kernel_rfl).trans ?_
  rw [h1, h2, k3]
  rfl
theorem m55 : Meets Try.prog GL0 55 s55 := by
  refine meetsN mix0 gl0 G59 Try.func55 (by kernel_rfl) (by kernel_rfl) s55 fun args x h => ?_
  unfold s55 at h
  split at h
  · rename_i m_t m_f m_xa m_xb m_xk m_ya m_yb m_yk p_xa p_xb p_xk p_ya p_yb p_yk
    simp only [Option.some.injEq, Prod.mk.injEq] at h
    obtain ⟨hp, rfl⟩ := h
    exact ⟨_, _, by kernel_rfl, e55 m_t m_f m_xa m_xb m_xk m_ya m_yb m_yk p_xa p_xb p_xk p_ya p_yb p_yk hp⟩
  · cases h
abbrev Γ60 : List (Nat × Ctr) := (55, s55) :: Γ59
theorem G60 : Sound Try.prog GL0 Γ60 := G59.cons m55

-- impl.ValidMotion
def s48 : Ctr := fun
  | [.agg [.val (.int .i64 m_t), .val (.bool m_f), .val (.int .i64 m_xa), .val (.int .i64 m_xb), .val (.int .i64 m_xk), .val (.int .i64 m_ya), .val (.int .i64 m_yb), .val (.int .i64 m_yk)]] => some (true, bv (inB m_t 0 7 && valP (⟨⟨m_xa, m_xb, m_xk⟩, ⟨m_ya, m_yb, m_yk⟩⟩ : P2)))
  | _ => none

theorem e48 (m_t : Int) (m_f : Bool) (m_xa : Int) (m_xb : Int) (m_xk : Int) (m_ya : Int) (m_yb : Int) (m_yk : Int) : evN Try.prog GL0 Γ60 (0) []  Try.f48 [.agg [.val (.int .i64 m_t), .val (.bool m_f), .val (.int .i64 m_xa), .val (.int .i64 m_xb), .val (.int .i64 m_xk), .val (.int .i64 m_ya), .val (.int .i64 m_yb), .val (.int .i64 m_yk)]] = some (bv (inB m_t 0 7 && valP (⟨⟨m_xa, m_xb, m_xk⟩, ⟨m_ya, m_yb, m_yk⟩⟩ : P2))) := by
  refine (show _ = cond (inB m_t 0 7) ( cond (validB (N3.mk m_xa m_xb m_xk)) ( some (bv (validB (N3.mk m_ya m_yb m_yk))) ) ( some (bv (false)) ) ) ( some (bv (false)) ) from by kernel_rfl).trans ?_
  simp only [valP]
  cases inB m_t 0 7 <;> cases validB (⟨⟨m_xa, m_xb, m_xk⟩, ⟨m_ya, m_yb, m_yk⟩⟩ : P2).x <;> rfl
theorem m48 : Meets Try.prog GL0 48 s48 := by
  refine meetsN mix0 gl0 G60 Try.func48 (by kernel_rfl) (by kernel_rfl) s48 fun args x h => ?_
  unfold s48 at h
  split at h
  · rename_i m_t m_f m_xa m_xb m_xk m_ya m_yb m_yk
    simp only [Option.some.injEq, Prod.mk.injEq] at h
    obtain ⟨hp, rfl⟩ := h
    exact ⟨_, _, by kernel_rfl, e48 m_t m_f m_xa m_xb m_xk m_ya m_yb m_yk⟩
  · cases h
abbrev Γ61 : List (Nat × Ctr) := (48, s48) :: Γ60
theorem G61 : Sound Try.prog GL0 Γ61 := G60.cons m48

-- spec.l04Ok
def s46 : Ctr := fun
  | [.agg [.val (.int .i64 m_t), .val (.bool m_f), .val (.int .i64 m_xa), .val (.int .i64 m_xb), .val (.int .i64 m_xk), .val (.int .i64 m_ya), .val (.int .i64 m_yb), .val (.int .i64 m_yk)]] => some (true, bv (inB m_t 0 7 && valP (⟨⟨m_xa, m_xb, m_xk⟩, ⟨m_ya, m_yb, m_yk⟩⟩ : P2)))
  | _ => none

theorem e46 (m_t : Int) (m_f : Bool) (m_xa : Int) (m_xb : Int) (m_xk : Int) (m_ya : Int) (m_yb : Int) (m_yk : Int) : evN Try.prog GL0 Γ61 (0) []  Try.f46 [.agg [.val (.int .i64 m_t), .val (.bool m_f), .val (.int .i64 m_xa), .val (.int .i64 m_xb), .val (.int .i64 m_xk), .val (.int .i64 m_ya), .val (.int .i64 m_yb), .val (.int .i64 m_yk)]] = some (bv (inB m_t 0 7 && valP (⟨⟨m_xa, m_xb, m_xk⟩, ⟨m_ya, m_yb, m_yk⟩⟩ : P2))) := by
  refine (show _ = cond (inB m_t 0 7) ( cond (validB (N3.mk m_xa m_xb m_xk)) ( some (bv (validB (N3.mk m_ya m_yb m_yk))) ) ( some (bv (false)) ) ) ( some (bv (false)) ) from by kernel_rfl).trans ?_
  simp only [valP]
  cases inB m_t 0 7 <;> cases validB (⟨⟨m_xa, m_xb, m_xk⟩, ⟨m_ya, m_yb, m_yk⟩⟩ : P2).x <;> rfl
theorem m46 : Meets Try.prog GL0 46 s46 := by
  refine meetsN mix0 gl0 G61 Try.func46 (by kernel_rfl) (by kernel_rfl) s46 fun args x h => ?_
  unfold s46 at h
  split at h
  · rename_i m_t m_f m_xa m_xb m_xk m_ya m_yb m_yk
    simp only [Option.some.injEq, Prod.mk.injEq] at h
    obtain ⟨hp, rfl⟩ := h
    exact ⟨_, _, by kernel_rfl, e46 m_t m_f m_xa m_xb m_xk m_ya m_yb m_yk⟩
  · cases h
abbrev Γ62 : List (Nat × Ctr) := (46, s46) :: Γ61
theorem G62 : Sound Try.prog GL0 Γ62 := G61.cons m46

-- impl.MovePoint
def s23 : Ctr := fun
  | [.agg [.val (.int .i64 m_t), .val (.bool m_f), .val (.int .i64 m_xa), .val (.int .i64 m_xb), .val (.int .i64 m_xk), .val (.int .i64 m_ya), .val (.int .i64 m_yb), .val (.int .i64 m_yk)], .agg [.val (.int .i64 p_xa), .val (.int .i64 p_xb), .val (.int .i64 p_xk), .val (.int .i64 p_ya), .val (.int .i64 p_yb), .val (.int .i64 p_yk)]] => some (true, rP (((inB m_t 0 7 && valP (⟨⟨m_xa, m_xb, m_xk⟩, ⟨m_ya, m_yb, m_yk⟩⟩ : P2)) && valP (⟨(⟨p_xa, p_xb, p_xk⟩ : N3), (⟨p_ya, p_yb, p_yk⟩ : N3)⟩ : P2)) && valP (redP (moveF m_t m_f (⟨⟨m_xa, m_xb, m_xk⟩, ⟨m_ya, m_yb, m_yk⟩⟩ : P2) (⟨(⟨p_xa, p_xb, p_xk⟩ : N3), (⟨p_ya, p_yb, p_yk⟩ : N3)⟩ : P2)))) (redP (moveF m_t m_f (⟨⟨m_xa, m_xb, m_xk⟩, ⟨m_ya, m_yb, m_yk⟩⟩ : P2) (⟨(⟨p_xa, p_xb, p_xk⟩ : N3), (⟨p_ya, p_yb, p_yk⟩ : N3)⟩ : P2))))
  | _ => none

theorem e23 (m_t : Int) (m_f : Bool) (m_xa : Int) (m_xb : Int) (m_xk : Int) (m_ya : Int) (m_yb : Int) (m_yk : Int) (p_xa : Int) (p_xb : Int) (p_xk : Int) (p_ya : Int) (p_yb : Int) (p_yk : Int) : evN Try.prog GL0 Γ62 (0) []  Try.f23 [.agg [.val (.int .i64 m_t), .val (.bool m_f), .val (.int .i64 m_xa), .val (.int .i64 m_xb), .val (.int .i64 m_xk), .val (.int .i64 m_ya), .val (.int .i64 m_yb), .val (.int .i64 m_yk)], .agg [.val (.int .i64 p_xa), .val (.int .i64 p_xb), .val (.int .i64 p_xk), .val (.int .i64 p_ya), .val (.int .i64 p_yb), .val (.int .i64 p_yk)]] = some (rP (((inB m_t 0 7 && valP (⟨⟨m_xa, m_xb, m_xk⟩, ⟨m_ya, m_yb, m_yk⟩⟩ : P2)) && valP (⟨(⟨p_xa, p_xb, p_xk⟩ : N3), (⟨p_ya, p_yb, p_yk⟩ : N3)⟩ : P2)) && valP (redP (moveF m_t m_f (⟨⟨m_xa, m_xb, m_xk⟩, ⟨m_ya, m_yb, m_yk⟩⟩ : P2) (⟨(⟨p_xa, p_xb, p_xk⟩ : N3), (⟨p_ya, p_yb, p_yk⟩ : N3)⟩ : P2)))) (redP (moveF m_t m_f (⟨⟨m_xa, m_xb, m_xk⟩, ⟨m_ya, m_yb, m_yk⟩⟩ : P2) (⟨(⟨p_xa, p_xb, p_xk⟩ : N3), (⟨p_ya, p_yb, p_yk⟩ : N3)⟩ : P2)))) := by
  refine (show _ = cond (!(inB m_t 0 7 && valP (⟨⟨m_xa, m_xb, m_xk⟩, ⟨m_ya, m_yb, m_yk⟩⟩ : P2))) (some (rP false (⟨(⟨p_xa, p_xb, p_xk⟩ : N3), (⟨p_ya, p_yb, p_yk⟩ : N3)⟩ : P2))) (cond (!valP (⟨(⟨p_xa, p_xb, p_xk⟩ : N3), (⟨p_ya, p_yb, p_yk⟩ : N3)⟩ : P2)) (some (rP false (⟨(⟨p_xa, p_xb, p_xk⟩ : N3), (⟨p_ya, p_yb, p_yk⟩ : N3)⟩ : P2))) (cond (okM m_t (⟨(⟨p_xa, p_xb, p_xk⟩ : N3), (⟨p_ya, p_yb, p_yk⟩ : N3)⟩ : P2) (⟨⟨m_xa, m_xb, m_xk⟩, ⟨m_ya, m_yb, m_yk⟩⟩ : P2)) (cond (kB (moveF m_t m_f (⟨⟨m_xa, m_xb, m_xk⟩, ⟨m_ya, m_yb, m_yk⟩⟩ : P2) (⟨(⟨p_xa, p_xb, p_xk⟩ : N3), (⟨p_ya, p_yb, p_yk⟩ : N3)⟩ : P2)).x.k && kB (moveF m_t m_f (⟨⟨m_xa, m_xb, m_xk⟩, ⟨m_ya, m_yb, m_yk⟩⟩ : P2) (⟨(⟨p_xa, p_xb, p_xk⟩ : N3), (⟨p_ya, p_yb, p_yk⟩ : N3)⟩ : P2)).y.k) (some (rP (valP (redP (moveF m_t m_f (⟨⟨m_xa, m_xb, m_xk⟩, ⟨m_ya, m_yb, m_yk⟩⟩ : P2) (⟨(⟨p_xa, p_xb, p_xk⟩ : N3), (⟨p_ya, p_yb, p_yk⟩ : N3)⟩ : P2)))) (redP (moveF m_t m_f (⟨⟨m_xa, m_xb, m_xk⟩, ⟨m_ya, m_yb, m_yk⟩⟩ : P2) (⟨(⟨p_xa, p_xb, p_xk⟩ : N3), (⟨p_ya, p_yb, p_yk⟩ : N3)⟩ : P2))))) none) none)) from by kernel_rfl).trans ?_
  cases h1 : inB m_t 0 7 with
  | false => rfl
  | true =>
    cases h2 : valP (⟨⟨m_xa, m_xb, m_xk⟩, ⟨m_ya, m_yb, m_yk⟩⟩ : P2) with
    | false => rfl
    | true =>
      cases h3 : valP (⟨(⟨p_xa, p_xb, p_xk⟩ : N3), (⟨p_ya, p_yb, p_yk⟩ : N3)⟩ : P2) with
      | false => rfl
      | true =>
        obtain ⟨_, _, _, k4, k5⟩ := turn_pk (flip_ok (val_ok h3) m_f) (val_ok h2) m_t
        have k6 : okM m_t (⟨(⟨p_xa, p_xb, p_xk⟩ : N3), (⟨p_ya, p_yb, p_yk⟩ : N3)⟩ : P2) (⟨⟨m_xa, m_xb, m_xk⟩, ⟨m_ya, m_yb, m_yk⟩⟩ : P2) = true := by unfold okM; rw [h1, val_ok h2, val_ok h3]; rfl
        have k7 : (kB (moveF m_t m_f (⟨⟨m_xa, m_xb, m_xk⟩, ⟨m_ya, m_yb, m_yk⟩⟩ : P2) (⟨(⟨p_xa, p_xb, p_xk⟩ : N3), (⟨p_ya, p_yb, p_yk⟩ : N3)⟩ : P2)).x.k && kB (moveF m_t m_f (⟨⟨m_xa, m_xb, m_xk⟩, ⟨m_ya, m_yb, m_yk⟩⟩ : P2) (⟨(⟨p_xa, p_xb, p_xk⟩ : N3), (⟨p_ya, p_yb, p_yk⟩ : N3)⟩ : P2)).y.k) = true := by unfold moveF; rw [k4, k5]; rfl
        rw [k6, k7]
        rfl
theorem m23 : Meets Try.prog GL0 23 s23 := by
  refine meetsN mix0 gl0 G62 Try.func23 (by kernel_rfl) (by kernel_rfl) s23 fun args x h => ?_
  unfold s23 at h
  split at h
  · rename_i m_t m_f m_xa m_xb m_xk m_ya m_yb m_yk p_xa p_xb p_xk p_ya p_yb p_yk
    simp only [Option.some.injEq, Prod.mk.injEq] at h
    obtain ⟨hp, rfl⟩ := h
    exact ⟨_, _, by kernel_rfl, e23 m_t m_f m_xa m_xb m_xk m_ya m_yb m_yk p_xa p_xb p_xk p_ya p_yb p_yk⟩
  · cases h
abbrev Γ63 : List (Nat × Ctr) := (23, s23) :: Γ62
theorem G63 : Sound Try.prog GL0 Γ63 := G62.cons m23

-- spec.MovePoint
def s24 : Ctr := fun
  | [.agg [.val (.int .i64 m_t), .val (.bool m_f), .val (.int .i64 m_xa), .val (.int .i64 m_xb), .val (.int .i64 m_xk), .val (.int .i64 m_ya), .val (.int .i64 m_yb), .val (.int .i64 m_yk)], .agg [.val (.int .i64 p_xa), .val (.int .i64 p_xb), .val (.int .i64 p_xk), .val (.int .i64 p_ya), .val (.int .i64 p_yb), .val (.int .i64 p_yk)]] => some (true, rP (((inB m_t 0 7 && valP (⟨⟨m_xa, m_xb, m_xk⟩, ⟨m_ya, m_yb, m_yk⟩⟩ : P2)) && valP (⟨(⟨p_xa, p_xb, p_xk⟩ : N3), (⟨p_ya, p_yb, p_yk⟩ : N3)⟩ : P2)) && valP (redP (moveF m_t m_f (⟨⟨m_xa, m_xb, m_xk⟩, ⟨m_ya, m_yb, m_yk⟩⟩ : P2) (⟨(⟨p_xa, p_xb, p_xk⟩ : N3), (⟨p_ya, p_yb, p_yk⟩ : N3)⟩ : P2)))) (redP (moveF m_t m_f (⟨⟨m_xa, m_xb, m_xk⟩, ⟨m_ya, m_yb, m_yk⟩⟩ : P2) (⟨(⟨p_xa, p_xb, p_xk⟩ : N3), (⟨p_ya, p_yb, p_yk⟩ : N3)⟩ : P2))))
  | _ => none

theorem e24 (m_t : Int) (m_f : Bool) (m_xa : Int) (m_xb : Int) (m_xk : Int) (m_ya : Int) (m_yb : Int) (m_yk : Int) (p_xa : Int) (p_xb : Int) (p_xk : Int) (p_ya : Int) (p_yb : Int) (p_yk : Int) : evN Try.prog GL0 Γ63 (0) []  Try.f24 [.agg [.val (.int .i64 m_t), .val (.bool m_f), .val (.int .i64 m_xa), .val (.int .i64 m_xb), .val (.int .i64 m_xk), .val (.int .i64 m_ya), .val (.int .i64 m_yb), .val (.int .i64 m_yk)], .agg [.val (.int .i64 p_xa), .val (.int .i64 p_xb), .val (.int .i64 p_xk), .val (.int .i64 p_ya), .val (.int .i64 p_yb), .val (.int .i64 p_yk)]] = some (rP (((inB m_t 0 7 && valP (⟨⟨m_xa, m_xb, m_xk⟩, ⟨m_ya, m_yb, m_yk⟩⟩ : P2)) && valP (⟨(⟨p_xa, p_xb, p_xk⟩ : N3), (⟨p_ya, p_yb, p_yk⟩ : N3)⟩ : P2)) && valP (redP (moveF m_t m_f (⟨⟨m_xa, m_xb, m_xk⟩, ⟨m_ya, m_yb, m_yk⟩⟩ : P2) (⟨(⟨p_xa, p_xb, p_xk⟩ : N3), (⟨p_ya, p_yb, p_yk⟩ : N3)⟩ : P2)))) (redP (moveF m_t m_f (⟨⟨m_xa, m_xb, m_xk⟩, ⟨m_ya, m_yb, m_yk⟩⟩ : P2) (⟨(⟨p_xa, p_xb, p_xk⟩ : N3), (⟨p_ya, p_yb, p_yk⟩ : N3)⟩ : P2)))) := by
  refine (show _ = cond (!(inB m_t 0 7 && valP (⟨⟨m_xa, m_xb, m_xk⟩, ⟨m_ya, m_yb, m_yk⟩⟩ : P2))) (some (rP false (⟨(⟨p_xa, p_xb, p_xk⟩ : N3), (⟨p_ya, p_yb, p_yk⟩ : N3)⟩ : P2))) (cond (!valP (⟨(⟨p_xa, p_xb, p_xk⟩ : N3), (⟨p_ya, p_yb, p_yk⟩ : N3)⟩ : P2)) (some (rP false (⟨(⟨p_xa, p_xb, p_xk⟩ : N3), (⟨p_ya, p_yb, p_yk⟩ : N3)⟩ : P2))) (cond (okM m_t (⟨(⟨p_xa, p_xb, p_xk⟩ : N3), (⟨p_ya, p_yb, p_yk⟩ : N3)⟩ : P2) (⟨⟨m_xa, m_xb, m_xk⟩, ⟨m_ya, m_yb, m_yk⟩⟩ : P2)) (cond (kB (moveF m_t m_f (⟨⟨m_xa, m_xb, m_xk⟩, ⟨m_ya, m_yb, m_yk⟩⟩ : P2) (⟨(⟨p_xa, p_xb, p_xk⟩ : N3), (⟨p_ya, p_yb, p_yk⟩ : N3)⟩ : P2)).x.k && kB (moveF m_t m_f (⟨⟨m_xa, m_xb, m_xk⟩, ⟨m_ya, m_yb, m_yk⟩⟩ : P2) (⟨(⟨p_xa, p_xb, p_xk⟩ : N3), (⟨p_ya, p_yb, p_yk⟩ : N3)⟩ : P2)).y.k) (some (rP (valP (redP (moveF m_t m_f (⟨⟨m_xa, m_xb, m_xk⟩, ⟨m_ya, m_yb, m_yk⟩⟩ : P2) (⟨(⟨p_xa, p_xb, p_xk⟩ : N3), (⟨p_ya, p_yb, p_yk⟩ : N3)⟩ : P2)))) (redP (moveF m_t m_f (⟨⟨m_xa, m_xb, m_xk⟩, ⟨m_ya, m_yb, m_yk⟩⟩ : P2) (⟨(⟨p_xa, p_xb, p_xk⟩ : N3), (⟨p_ya, p_yb, p_yk⟩ : N3)⟩ : P2))))) none) none)) from by kernel_rfl).trans ?_
  cases h1 : inB m_t 0 7 with
  | false => rfl
  | true =>
    cases h2 : valP (⟨⟨m_xa, m_xb, m_xk⟩, ⟨m_ya, m_yb, m_yk⟩⟩ : P2) with
    | false => rfl
    | true =>
      cases h3 : valP (⟨(⟨p_xa, p_xb, p_xk⟩ : N3), (⟨p_ya, p_yb, p_yk⟩ : N3)⟩ : P2) with
      | false => rfl
      | true =>
        obtain ⟨_, _, _, k4, k5⟩ := turn_pk (flip_ok (val_ok h3) m_f) (val_ok h2) m_t
        have k6 : okM m_t (⟨(⟨p_xa, p_xb, p_xk⟩ : N3), (⟨p_ya, p_yb, p_yk⟩ : N3)⟩ : P2) (⟨⟨m_xa, m_xb, m_xk⟩, ⟨m_ya, m_yb, m_yk⟩⟩ : P2) = true := by unfold okM; rw [h1, val_ok h2, val_ok h3]; rfl
        have k7 : (kB (moveF m_t m_f (⟨⟨m_xa, m_xb, m_xk⟩, ⟨m_ya, m_yb, m_yk⟩⟩ : P2) (⟨(⟨p_xa, p_xb, p_xk⟩ : N3), (⟨p_ya, p_yb, p_yk⟩ : N3)⟩ : P2)).x.k && kB (moveF m_t m_f (⟨⟨m_xa, m_xb, m_xk⟩, ⟨m_ya, m_yb, m_yk⟩⟩ : P2) (⟨(⟨p_xa, p_xb, p_xk⟩ : N3), (⟨p_ya, p_yb, p_yk⟩ : N3)⟩ : P2)).y.k) = true := by unfold moveF; rw [k4, k5]; rfl
        rw [k6, k7]
        rfl
theorem m24 : Meets Try.prog GL0 24 s24 := by
  refine meetsN mix0 gl0 G63 Try.func24 (by kernel_rfl) (by kernel_rfl) s24 fun args x h => ?_
  unfold s24 at h
  split at h
  · rename_i m_t m_f m_xa m_xb m_xk m_ya m_yb m_yk p_xa p_xb p_xk p_ya p_yb p_yk
    simp only [Option.some.injEq, Prod.mk.injEq] at h
    obtain ⟨hp, rfl⟩ := h
    exact ⟨_, _, by kernel_rfl, e24 m_t m_f m_xa m_xb m_xk m_ya m_yb m_yk p_xa p_xb p_xk p_ya p_yb p_yk⟩
  · cases h
abbrev Γ64 : List (Nat × Ctr) := (24, s24) :: Γ63
theorem G64 : Sound Try.prog GL0 Γ64 := G63.cons m24

-- (impl.Motion).back
def s58 : Ctr := fun
  | [.agg [.val (.int .i64 m_t), .val (.bool m_f), .val (.int .i64 m_xa), .val (.int .i64 m_xb), .val (.int .i64 m_xk), .val (.int .i64 m_ya), .val (.int .i64 m_yb), .val (.int .i64 m_yk)]] => some (inB m_t 0 7 && okP (⟨⟨m_xa, m_xb, m_xk⟩, ⟨m_ya, m_yb, m_yk⟩⟩ : P2), mav (invT m_t m_f) m_f (invP m_t m_f (⟨⟨m_xa, m_xb, m_xk⟩, ⟨m_ya, m_yb, m_yk⟩⟩ : P2)))
  | _ => none

theorem e58 (m_t : Int) (m_f : Bool) (m_xa : Int) (m_xb : Int) (m_xk : Int) (m_ya : Int) (m_yb : Int) (m_yk : Int) (hp : (inB m_t 0 7 && okP (⟨⟨m_xa, m_xb, m_xk⟩, ⟨m_ya, m_yb, m_yk⟩⟩ : P2)) = true) : evN Try.prog GL0 Γ64 (0) []  Try.f58 [.agg [.val (.int .i64 m_t), .val (.bool m_f), .val (.int .i64 m_xa), .val (.int .i64 m_xb), .val (.int .i64 m_xk), .val (.int .i64 m_ya), .val (.int .i64 m_yb), .val (.int .i64 m_yk)]] = some (mav (invT m_t m_f) m_f (invP m_t m_f (⟨⟨m_xa, m_xb, m_xk⟩, ⟨m_ya, m_yb, m_yk⟩⟩ : P2))) := by
  simp only [Bool.and_eq_true] at hp
  obtain ⟨h1, h2⟩ := hp
  cases m_f with
  | true =>
    refine (show _ = cond (inB (m_t) 0 7 && okP ((⟨⟨m_xa, m_xb, m_xk⟩, ⟨m_ya, m_yb, m_yk⟩⟩ : P2))) (some (mav (m_t) true (negP (turnF (m_t) (flipP true (⟨⟨m_xa, m_xb, m_xk⟩, ⟨m_ya, m_yb, m_yk⟩⟩ : P2)))))) none from by kernel_rfl).trans ?_
    rw [h1, h2]
    rfl
  | false =>
    refine (show _ = cond (inB (and64 (wr (0 - m_t)) 7) 0 7 && okP ((⟨⟨m_xa, m_xb, m_xk⟩, ⟨m_ya, m_yb, m_yk⟩⟩ : P2))) (some (mav (and64 (wr (0 - m_t)) 7) false (negP (turnF (and64 (wr (0 - m_t)) 7) (flipP false (⟨⟨m_xa, m_xb, m_xk⟩, ⟨m_ya, m_yb, m_yk⟩⟩ : P2)))))) none from by kernel_rfl).trans ?_
    have h3 : inB ((8 - m_t) % 8) 0 7 = true := invT_in h1 false
    rw [inv_impl h1, h3, h2]
    rfl
theorem m58 : Meets Try.prog GL0 58 s58 := by
  refine meetsN mix0 gl0 G64 Try.func58 (by kernel_rfl) (by kernel_rfl) s58 fun args x h => ?_
  unfold s58 at h
  split at h
  · rename_i m_t m_f m_xa m_xb m_xk m_ya m_yb m_yk
    simp only [Option.some.injEq, Prod.mk.injEq] at h
    obtain ⟨hp, rfl⟩ := h
    exact ⟨_, _, by kernel_rfl, e58 m_t m_f m_xa m_xb m_xk m_ya m_yb m_yk hp⟩
  · cases h
abbrev Γ65 : List (Nat × Ctr) := (58, s58) :: Γ64
theorem G65 : Sound Try.prog GL0 Γ65 := G64.cons m58

-- (impl.Motion).checked
def s50 : Ctr := fun
  | [.agg [.val (.int .i64 m_t), .val (.bool m_f), .val (.int .i64 m_xa), .val (.int .i64 m_xb), .val (.int .i64 m_xk), .val (.int .i64 m_ya), .val (.int .i64 m_yb), .val (.int .i64 m_yk)]] => some (kB m_xk && kB m_yk, rM (valP (redP (⟨⟨m_xa, m_xb, m_xk⟩, ⟨m_ya, m_yb, m_yk⟩⟩ : P2))) m_t m_f (redP (⟨⟨m_xa, m_xb, m_xk⟩, ⟨m_ya, m_yb, m_yk⟩⟩ : P2)))
  | _ => none

theorem e50 (m_t : Int) (m_f : Bool) (m_xa : Int) (m_xb : Int) (m_xk : Int) (m_ya : Int) (m_yb : Int) (m_yk : Int) (hp : (kB m_xk && kB m_yk) = true) : evN Try.prog GL0 Γ65 (0) []  Try.f50 [.agg [.val (.int .i64 m_t), .val (.bool m_f), .val (.int .i64 m_xa), .val (.int .i64 m_xb), .val (.int .i64 m_xk), .val (.int .i64 m_ya), .val (.int .i64 m_yb), .val (.int .i64 m_yk)]] = some (rM (valP (redP (⟨⟨m_xa, m_xb, m_xk⟩, ⟨m_ya, m_yb, m_yk⟩⟩ : P2))) m_t m_f (redP (⟨⟨m_xa, m_xb, m_xk⟩, ⟨m_ya, m_yb, m_yk⟩⟩ : P2))) := by
  refine (show _ = cond (kB m_xk && kB m_yk) (cond (!valP (redP (⟨⟨m_xa, m_xb, m_xk⟩, ⟨m_ya, m_yb, m_yk⟩⟩ : P2))) (some (rM false m_t m_f (redP (⟨⟨m_xa, m_xb, m_xk⟩, ⟨m_ya, m_yb, m_yk⟩⟩ : P2)))) (some (rM true m_t m_f ((fun c : Bool => (selP c (redP (⟨⟨m_xa, m_xb, m_xk⟩, ⟨m_ya, m_yb, m_yk⟩⟩ : P2)))) (valP (redP (⟨⟨m_xa, m_xb, m_xk⟩, ⟨m_ya, m_yb, m_yk⟩⟩ : P2))))))) none from by kernel_rfl).trans ?_
  rw [hp]
  cases valP (redP (⟨⟨m_xa, m_xb, m_xk⟩, ⟨m_ya, m_yb, m_yk⟩⟩ : P2)) <;> rfl
theorem m50 : Meets Try.prog GL0 50 s50 := by
  refine meetsN mix0 gl0 G65 Try.func50 (by kernel_rfl) (by kernel_rfl) s50 fun args x h => ?_
  unfold s50 at h
  split at h
  · rename_i m_t m_f m_xa m_xb m_xk m_ya m_yb m_yk
    simp only [Option.some.injEq, Prod.mk.injEq] at h
    obtain ⟨hp, rfl⟩ := h
    exact ⟨_, _, by kernel_rfl, e50 m_t m_f m_xa m_xb m_xk m_ya m_yb m_yk hp⟩
  · cases h
abbrev Γ66 : List (Nat × Ctr) := (50, s50) :: Γ65
theorem G66 : Sound Try.prog GL0 Γ66 := G65.cons m50

-- impl.Invert
def s25 : Ctr := fun
  | [.agg [.val (.int .i64 m_t), .val (.bool m_f), .val (.int .i64 m_xa), .val (.int .i64 m_xb), .val (.int .i64 m_xk), .val (.int .i64 m_ya), .val (.int .i64 m_yb), .val (.int .i64 m_yk)]] => some (true, rM ((inB m_t 0 7 && valP (⟨⟨m_xa, m_xb, m_xk⟩, ⟨m_ya, m_yb, m_yk⟩⟩ : P2)) && valP (redP (invP m_t m_f (⟨⟨m_xa, m_xb, m_xk⟩, ⟨m_ya, m_yb, m_yk⟩⟩ : P2)))) (invT m_t m_f) m_f (redP (invP m_t m_f (⟨⟨m_xa, m_xb, m_xk⟩, ⟨m_ya, m_yb, m_yk⟩⟩ : P2))))
  | _ => none

theorem e25 (m_t : Int) (m_f : Bool) (m_xa : Int) (m_xb : Int) (m_xk : Int) (m_ya : Int) (m_yb : Int) (m_yk : Int) : evN Try.prog GL0 Γ66 (0) []  Try.f25 [.agg [.val (.int .i64 m_t), .val (.bool m_f), .val (.int .i64 m_xa), .val (.int .i64 m_xb), .val (.int .i64 m_xk), .val (.int .i64 m_ya), .val (.int .i64 m_yb), .val (.int .i64 m_yk)]] = some (rM ((inB m_t 0 7 && valP (⟨⟨m_xa, m_xb, m_xk⟩, ⟨m_ya, m_yb, m_yk⟩⟩ : P2)) && valP (redP (invP m_t m_f (⟨⟨m_xa, m_xb, m_xk⟩, ⟨m_ya, m_yb, m_yk⟩⟩ : P2)))) (invT m_t m_f) m_f (redP (invP m_t m_f (⟨⟨m_xa, m_xb, m_xk⟩, ⟨m_ya, m_yb, m_yk⟩⟩ : P2)))) := by
  refine (show _ = cond (!(inB m_t 0 7 && valP (⟨⟨m_xa, m_xb, m_xk⟩, ⟨m_ya, m_yb, m_yk⟩⟩ : P2))) (some (rM false m_t m_f (⟨⟨m_xa, m_xb, m_xk⟩, ⟨m_ya, m_yb, m_yk⟩⟩ : P2))) (cond (inB m_t 0 7 && okP (⟨⟨m_xa, m_xb, m_xk⟩, ⟨m_ya, m_yb, m_yk⟩⟩ : P2)) (cond (kB (invP m_t m_f (⟨⟨m_xa, m_xb, m_xk⟩, ⟨m_ya, m_yb, m_yk⟩⟩ : P2)).x.k && kB (invP m_t m_f (⟨⟨m_xa, m_xb, m_xk⟩, ⟨m_ya, m_yb, m_yk⟩⟩ : P2)).y.k) (some (rM (valP (redP (invP m_t m_f (⟨⟨m_xa, m_xb, m_xk⟩, ⟨m_ya, m_yb, m_yk⟩⟩ : P2)))) (invT m_t m_f) m_f (redP (invP m_t m_f (⟨⟨m_xa, m_xb, m_xk⟩, ⟨m_ya, m_yb, m_yk⟩⟩ : P2))))) none) none) from by kernel_rfl).trans ?_
  cases h1 : inB m_t 0 7 with
  | false => rfl
  | true =>
    cases h2 : valP (⟨⟨m_xa, m_xb, m_xk⟩, ⟨m_ya, m_yb, m_yk⟩⟩ : P2) with
    | false => rfl
    | true =>
      obtain ⟨k1, k2⟩ := invP_k (t := m_t) (f := m_f) (val_ok h2)
      rw [val_ok h2, k1, k2]
      rfl
theorem m25 : Meets Try.prog GL0 25 s25 := by
  refine meetsN mix0 gl0 G66 Try.func25 (by kernel_rfl) (by kernel_rfl) s25 fun args x h => ?_
  unfold s25 at h
  split at h
  · rename_i m_t m_f m_xa m_xb m_xk m_ya m_yb m_yk
    simp only [Option.some.injEq, Prod.mk.injEq] at h
    obtain ⟨hp, rfl⟩ := h
    exact ⟨_, _, by kernel_rfl, e25 m_t m_f m_xa m_xb m_xk m_ya m_yb m_yk⟩
  · cases h
abbrev Γ67 : List (Nat × Ctr) := (25, s25) :: Γ66
theorem G67 : Sound Try.prog GL0 Γ67 := G66.cons m25

-- (impl.Motion).then
def s49 : Ctr := fun
  | [.agg [.val (.int .i64 m_t), .val (.bool m_f), .val (.int .i64 m_xa), .val (.int .i64 m_xb), .val (.int .i64 m_xk), .val (.int .i64 m_ya), .val (.int .i64 m_yb), .val (.int .i64 m_yk)], .agg [.val (.int .i64 n_t), .val (.bool n_f), .val (.int .i64 n_xa), .val (.int .i64 n_xb), .val (.int .i64 n_xk), .val (.int .i64 n_ya), .val (.int .i64 n_yb), .val (.int .i64 n_yk)]] => some (inB m_t 0 7 && okM n_t (⟨⟨m_xa, m_xb, m_xk⟩, ⟨m_ya, m_yb, m_yk⟩⟩ : P2) (⟨⟨n_xa, n_xb, n_xk⟩, ⟨n_ya, n_yb, n_yk⟩⟩ : P2), mav (cmpT m_t n_t n_f) (m_f != n_f) (moveF n_t n_f (⟨⟨n_xa, n_xb, n_xk⟩, ⟨n_ya, n_yb, n_yk⟩⟩ : P2) (⟨⟨m_xa, m_xb, m_xk⟩, ⟨m_ya, m_yb, m_yk⟩⟩ : P2)))
  | _ => none

theorem e49 (m_t : Int) (m_f : Bool) (m_xa : Int) (m_xb : Int) (m_xk : Int) (m_ya : Int) (m_yb : Int) (m_yk : Int) (n_t : Int) (n_f : Bool) (n_xa : Int) (n_xb : Int) (n_xk : Int) (n_ya : Int) (n_yb : Int) (n_yk : Int) (hp : (inB m_t 0 7 && okM n_t (⟨⟨m_xa, m_xb, m_xk⟩, ⟨m_ya, m_yb, m_yk⟩⟩ : P2) (⟨⟨n_xa, n_xb, n_xk⟩, ⟨n_ya, n_yb, n_yk⟩⟩ : P2)) = true) : evN Try.prog GL0 Γ67 (0) []  Try.f49 [.agg [.val (.int .i64 m_t), .val (.bool m_f), .val (.int .i64 m_xa), .val (.int .i64 m_xb), .val (.int .i64 m_xk), .val (.int .i64 m_ya), .val (.int .i64 m_yb), .val (.int .i64 m_yk)], .agg [.val (.int .i64 n_t), .val (.bool n_f), .val (.int .i64 n_xa), .val (.int .i64 n_xb), .val (.int .i64 n_xk), .val (.int .i64 n_ya), .val (.int .i64 n_yb), .val (.int .i64 n_yk)]] = some (mav (cmpT m_t n_t n_f) (m_f != n_f) (moveF n_t n_f (⟨⟨n_xa, n_xb, n_xk⟩, ⟨n_ya, n_yb, n_yk⟩⟩ : P2) (⟨⟨m_xa, m_xb, m_xk⟩, ⟨m_ya, m_yb, m_yk⟩⟩ : P2))) := by
  rw [Bool.and_eq_true] at hp
  obtain ⟨h1, h2⟩ := hp
  have h3 : inB n_t 0 7 = true := by unfold okM at h2; rw [Bool.and_eq_true] at h2; exact h2.1
  obtain ⟨c1, c2⟩ := cmp_impl h1 h3
  cases n_f with
  | true =>
    refine (show _ = cond (okM n_t (⟨⟨m_xa, m_xb, m_xk⟩, ⟨m_ya, m_yb, m_yk⟩⟩ : P2) (⟨⟨n_xa, n_xb, n_xk⟩, ⟨n_ya, n_yb, n_yk⟩⟩ : P2)) (some (mav (and64 (wr (wr (0 - m_t) + n_t)) 7) (m_f != true) (moveF n_t true (⟨⟨n_xa, n_xb, n_xk⟩, ⟨n_ya, n_yb, n_yk⟩⟩ : P2) (⟨⟨m_xa, m_xb, m_xk⟩, ⟨m_ya, m_yb, m_yk⟩⟩ : P2)))) none from by kernel_rfl).trans ?_
    rw [h2, c1]
    rfl
  | false =>
    refine (show _ = cond (okM n_t (⟨⟨m_xa, m_xb, m_xk⟩, ⟨m_ya, m_yb, m_yk⟩⟩ : P2) (⟨⟨n_xa, n_xb, n_xk⟩, ⟨n_ya, n_yb, n_yk⟩⟩ : P2)) (some (mav (and64 (wr (m_t + n_t)) 7) (m_f != false) (moveF n_t false (⟨⟨n_xa, n_xb, n_xk⟩, ⟨n_ya, n_yb, n_yk⟩⟩ : P2) (⟨⟨m_xa, m_xb, m_xk⟩, ⟨m_ya, m_yb, m_yk⟩⟩ : P2)))) none from by kernel_rfl).trans ?_
    rw [h2, c2]
    rfl
theorem m49 : Meets Try.prog GL0 49 s49 := by
  refine meetsN mix0 gl0 G67 Try.func49 (by kernel_rfl) (by kernel_rfl) s49 fun args x h => ?_
  unfold s49 at h
  split at h
  · rename_i m_t m_f m_xa m_xb m_xk m_ya m_yb m_yk n_t n_f n_xa n_xb n_xk n_ya n_yb n_yk
    simp only [Option.some.injEq, Prod.mk.injEq] at h
    obtain ⟨hp, rfl⟩ := h
    exact ⟨_, _, by kernel_rfl, e49 m_t m_f m_xa m_xb m_xk m_ya m_yb m_yk n_t n_f n_xa n_xb n_xk n_ya n_yb n_yk hp⟩
  · cases h
abbrev Γ68 : List (Nat × Ctr) := (49, s49) :: Γ67
theorem G68 : Sound Try.prog GL0 Γ68 := G67.cons m49

-- impl.Compose
def s22 : Ctr := fun
  | [.agg [.val (.int .i64 m_t), .val (.bool m_f), .val (.int .i64 m_xa), .val (.int .i64 m_xb), .val (.int .i64 m_xk), .val (.int .i64 m_ya), .val (.int .i64 m_yb), .val (.int .i64 m_yk)], .agg [.val (.int .i64 n_t), .val (.bool n_f), .val (.int .i64 n_xa), .val (.int .i64 n_xb), .val (.int .i64 n_xk), .val (.int .i64 n_ya), .val (.int .i64 n_yb), .val (.int .i64 n_yk)]] => some (true, rM (((inB m_t 0 7 && valP (⟨⟨m_xa, m_xb, m_xk⟩, ⟨m_ya, m_yb, m_yk⟩⟩ : P2)) && (inB n_t 0 7 && valP (⟨⟨n_xa, n_xb, n_xk⟩, ⟨n_ya, n_yb, n_yk⟩⟩ : P2))) && valP (redP (moveF n_t n_f (⟨⟨n_xa, n_xb, n_xk⟩, ⟨n_ya, n_yb, n_yk⟩⟩ : P2) (⟨⟨m_xa, m_xb, m_xk⟩, ⟨m_ya, m_yb, m_yk⟩⟩ : P2)))) (cmpT m_t n_t n_f) (m_f != n_f) (redP (moveF n_t n_f (⟨⟨n_xa, n_xb, n_xk⟩, ⟨n_ya, n_yb, n_yk⟩⟩ : P2) (⟨⟨m_xa, m_xb, m_xk⟩, ⟨m_ya, m_yb, m_yk⟩⟩ : P2))))
  | _ => none

theorem e22 (m_t : Int) (m_f : Bool) (m_xa : Int) (m_xb : Int) (m_xk : Int) (m_ya : Int) (m_yb : Int) (m_yk : Int) (n_t : Int) (n_f : Bool) (n_xa : Int) (n_xb : Int) (n_xk : Int) (n_ya : Int) (n_yb : Int) (n_yk : Int) : evN Try.prog GL0 Γ68 (0) []  Try.f22 [.agg [.val (.int .i64 m_t), .val (.bool m_f), .val (.int .i64 m_xa), .val (.int .i64 m_xb), .val (.int .i64 m_xk), .val (.int .i64 m_ya), .val (.int .i64 m_yb), .val (.int .i64 m_yk)], .agg [.val (.int .i64 n_t), .val (.bool n_f), .val (.int .i64 n_xa), .val (.int .i64 n_xb), .val (.int .i64 n_xk), .val (.int .i64 n_ya), .val (.int .i64 n_yb), .val (.int .i64 n_yk)]] = some (rM (((inB m_t 0 7 && valP (⟨⟨m_xa, m_xb, m_xk⟩, ⟨m_ya, m_yb, m_yk⟩⟩ : P2)) && (inB n_t 0 7 && valP (⟨⟨n_xa, n_xb, n_xk⟩, ⟨n_ya, n_yb, n_yk⟩⟩ : P2))) && valP (redP (moveF n_t n_f (⟨⟨n_xa, n_xb, n_xk⟩, ⟨n_ya, n_yb, n_yk⟩⟩ : P2) (⟨⟨m_xa, m_xb, m_xk⟩, ⟨m_ya, m_yb, m_yk⟩⟩ : P2)))) (cmpT m_t n_t n_f) (m_f != n_f) (redP (moveF n_t n_f (⟨⟨n_xa, n_xb, n_xk⟩, ⟨n_ya, n_yb, n_yk⟩⟩ : P2) (⟨⟨m_xa, m_xb, m_xk⟩, ⟨m_ya, m_yb, m_yk⟩⟩ : P2)))) := by
  refine (show _ = cond (!(inB m_t 0 7 && valP (⟨⟨m_xa, m_xb, m_xk⟩, ⟨m_ya, m_yb, m_yk⟩⟩ : P2))) (some (rM false m_t m_f (⟨⟨m_xa, m_xb, m_xk⟩, ⟨m_ya, m_yb, m_yk⟩⟩ : P2))) (cond (!(inB n_t 0 7 && valP (⟨⟨n_xa, n_xb, n_xk⟩, ⟨n_ya, n_yb, n_yk⟩⟩ : P2))) (some (rM false m_t m_f (⟨⟨m_xa, m_xb, m_xk⟩, ⟨m_ya, m_yb, m_yk⟩⟩ : P2))) (cond (inB m_t 0 7 && okM n_t (⟨⟨m_xa, m_xb, m_xk⟩, ⟨m_ya, m_yb, m_yk⟩⟩ : P2) (⟨⟨n_xa, n_xb, n_xk⟩, ⟨n_ya, n_yb, n_yk⟩⟩ : P2)) (cond (kB (moveF n_t n_f (⟨⟨n_xa, n_xb, n_xk⟩, ⟨n_ya, n_yb, n_yk⟩⟩ : P2) (⟨⟨m_xa, m_xb, m_xk⟩, ⟨m_ya, m_yb, m_yk⟩⟩ : P2)).x.k && kB (moveF n_t n_f (⟨⟨n_xa, n_xb, n_xk⟩, ⟨n_ya, n_yb, n_yk⟩⟩ : P2) (⟨⟨m_xa, m_xb, m_xk⟩, ⟨m_ya, m_yb, m_yk⟩⟩ : P2)).y.k) (some (rM (valP (redP (moveF n_t n_f (⟨⟨n_xa, n_xb, n_xk⟩, ⟨n_ya, n_yb, n_yk⟩⟩ : P2) (⟨⟨m_xa, m_xb, m_xk⟩, ⟨m_ya, m_yb, m_yk⟩⟩ : P2)))) (cmpT m_t n_t n_f) (m_f != n_f) (redP (moveF n_t n_f (⟨⟨n_xa, n_xb, n_xk⟩, ⟨n_ya, n_yb, n_yk⟩⟩ : P2) (⟨⟨m_xa, m_xb, m_xk⟩, ⟨m_ya, m_yb, m_yk⟩⟩ : P2))))) none) none)) from by kernel_rfl).trans ?_
  cases h1 : inB m_t 0 7 with
  | false => rfl
  | true =>
    cases h2 : valP (⟨⟨m_xa, m_xb, m_xk⟩, ⟨m_ya, m_yb, m_yk⟩⟩ : P2) with
    | false => rfl
    | true =>
      cases h3 : inB n_t 0 7 with
      | false => rfl
      | true =>
        cases h4 : valP (⟨⟨n_xa, n_xb, n_xk⟩, ⟨n_ya, n_yb, n_yk⟩⟩ : P2) with
        | false => rfl
        | true =>
          obtain ⟨_, _, _, k4, k5⟩ := turn_pk (flip_ok (val_ok h2) n_f) (val_ok h4) n_t
          have k6 : okM n_t (⟨⟨m_xa, m_xb, m_xk⟩, ⟨m_ya, m_yb, m_yk⟩⟩ : P2) (⟨⟨n_xa, n_xb, n_xk⟩, ⟨n_ya, n_yb, n_yk⟩⟩ : P2) = true := by unfold okM; rw [h3, val_ok h2, val_ok h4]; rfl
          have k7 : (kB (moveF n_t n_f (⟨⟨n_xa, n_xb, n_xk⟩, ⟨n_ya, n_yb, n_yk⟩⟩ : P2) (⟨⟨m_xa, m_xb, m_xk⟩, ⟨m_ya, m_yb, m_yk⟩⟩ : P2)).x.k && kB (moveF n_t n_f (⟨⟨n_xa, n_xb, n_xk⟩, ⟨n_ya, n_yb, n_yk⟩⟩ : P2) (⟨⟨m_xa, m_xb, m_xk⟩, ⟨m_ya, m_yb, m_yk⟩⟩ : P2)).y.k) = true := by unfold moveF; rw [k4, k5]; rfl
          rw [k6, k7]
          rfl
theorem m22 : Meets Try.prog GL0 22 s22 := by
  refine meetsN mix0 gl0 G68 Try.func22 (by kernel_rfl) (by kernel_rfl) s22 fun args x h => ?_
  unfold s22 at h
  split at h
  · rename_i m_t m_f m_xa m_xb m_xk m_ya m_yb m_yk n_t n_f n_xa n_xb n_xk n_ya n_yb n_yk
    simp only [Option.some.injEq, Prod.mk.injEq] at h
    obtain ⟨hp, rfl⟩ := h
    exact ⟨_, _, by kernel_rfl, e22 m_t m_f m_xa m_xb m_xk m_ya m_yb m_yk n_t n_f n_xa n_xb n_xk n_ya n_yb n_yk⟩
  · cases h
abbrev Γ69 : List (Nat × Ctr) := (22, s22) :: Γ68
theorem G69 : Sound Try.prog GL0 Γ69 := G68.cons m22

-- spec.l01Bent
noncomputable def s69 : Ctr := fun
  | [.own 83 [.arr s_n [.int .u8] s_c, .val (.int .i64 s_p), .val (.int .u64 s_z)]] => some (pB 22 s_p, outS (bentV (⟨s_n, s_c, s_p, s_z⟩ : Src)).1.av (bentV (⟨s_n, s_c, s_p, s_z⟩ : Src)).2)
  | _ => none

theorem e69 (s_n : Nat) (s_c : Nat → Nat → Int) (s_p : Int) (s_z : Int) (hp : (pB 22 s_p) = true) : evN Try.prog GL0 Γ69 (0) []  Try.f69 [.own 83 [.arr s_n [.int .u8] s_c, .val (.int .i64 s_p), .val (.int .u64 s_z)]] = some (outS (bentV (⟨s_n, s_c, s_p, s_z⟩ : Src)).1.av (bentV (⟨s_n, s_c, s_p, s_z⟩ : Src)).2) := by
  exact (show _ = BF (⟨s_n, s_c, s_p, s_z⟩ : Src) from by kernel_rfl).trans (bent_dr.spec z3 (s := (⟨s_n, s_c, s_p, s_z⟩ : Src)) hp).1
theorem m69 : Meets Try.prog GL0 69 s69 := by
  refine meetsN mix0 gl0 G69 Try.func69 (by kernel_rfl) (by kernel_rfl) s69 fun args x h => ?_
  unfold s69 at h
  split at h
  · rename_i s_n s_c s_p s_z
    simp only [Option.some.injEq, Prod.mk.injEq] at h
    obtain ⟨hp, rfl⟩ := h
    exact ⟨_, _, by kernel_rfl, e69 s_n s_c s_p s_z hp⟩
  · cases h
noncomputable abbrev Γ70 : List (Nat × Ctr) := (69, s69) :: Γ69
theorem G70 : Sound Try.prog GL0 Γ70 := G69.cons m69

-- spec.l02DrawPoint
noncomputable def s70 : Ctr := fun
  | [.own 83 [.arr s_n [.int .u8] s_c, .val (.int .i64 s_p), .val (.int .u64 s_z)]] => some (pB 36 s_p, outS (pointV (⟨s_n, s_c, s_p, s_z⟩ : Src)).1.av (pointV (⟨s_n, s_c, s_p, s_z⟩ : Src)).2)
  | _ => none

theorem e70 (s_n : Nat) (s_c : Nat → Nat → Int) (s_p : Int) (s_z : Int) (hp : (pB 36 s_p) = true) : evN Try.prog GL0 Γ70 (0) []  Try.f70 [.own 83 [.arr s_n [.int .u8] s_c, .val (.int .i64 s_p), .val (.int .u64 s_z)]] = some (outS (pointV (⟨s_n, s_c, s_p, s_z⟩ : Src)).1.av (pointV (⟨s_n, s_c, s_p, s_z⟩ : Src)).2) := by
  exact (show _ = PF (⟨s_n, s_c, s_p, s_z⟩ : Src) from by kernel_rfl).trans (point_on (s := (⟨s_n, s_c, s_p, s_z⟩ : Src)) hp (by decide)).1
theorem m70 : Meets Try.prog GL0 70 s70 := by
  refine meetsN mix0 gl0 G70 Try.func70 (by kernel_rfl) (by kernel_rfl) s70 fun args x h => ?_
  unfold s70 at h
  split at h
  · rename_i s_n s_c s_p s_z
    simp only [Option.some.injEq, Prod.mk.injEq] at h
    obtain ⟨hp, rfl⟩ := h
    exact ⟨_, _, by kernel_rfl, e70 s_n s_c s_p s_z hp⟩
  · cases h
noncomputable abbrev Γ71 : List (Nat × Ctr) := (70, s70) :: Γ70
theorem G71 : Sound Try.prog GL0 Γ71 := G70.cons m70

-- spec.l02BentPoint
noncomputable def s45 : Ctr := fun
  | [.own 83 [.arr s_n [.int .u8] s_c, .val (.int .i64 s_p), .val (.int .u64 s_z)]] => some (pB 60 s_p, outS (bentPV (⟨s_n, s_c, s_p, s_z⟩ : Src)).1.av (bentPV (⟨s_n, s_c, s_p, s_z⟩ : Src)).2)
  | _ => none

theorem e45 (s_n : Nat) (s_c : Nat → Nat → Int) (s_p : Int) (s_z : Int) (hp : (pB 60 s_p) = true) : evN Try.prog GL0 Γ71 (0) []  Try.f45 [.own 83 [.arr s_n [.int .u8] s_c, .val (.int .i64 s_p), .val (.int .u64 s_z)]] = some (outS (bentPV (⟨s_n, s_c, s_p, s_z⟩ : Src)).1.av (bentPV (⟨s_n, s_c, s_p, s_z⟩ : Src)).2) := by
  exact (show _ = QF (⟨s_n, s_c, s_p, s_z⟩ : Src) from by kernel_rfl).trans (bentP_dr.spec ⟨z3, z3⟩ (s := (⟨s_n, s_c, s_p, s_z⟩ : Src)) hp).1
theorem m45 : Meets Try.prog GL0 45 s45 := by
  refine meetsN mix0 gl0 G71 Try.func45 (by kernel_rfl) (by kernel_rfl) s45 fun args x h => ?_
  unfold s45 at h
  split at h
  · rename_i s_n s_c s_p s_z
    simp only [Option.some.injEq, Prod.mk.injEq] at h
    obtain ⟨hp, rfl⟩ := h
    exact ⟨_, _, by kernel_rfl, e45 s_n s_c s_p s_z hp⟩
  · cases h
noncomputable abbrev Γ72 : List (Nat × Ctr) := (45, s45) :: Γ71
theorem G72 : Sound Try.prog GL0 Γ72 := G71.cons m45

-- spec.l04Draw
noncomputable def s68 : Ctr := fun
  | [.own 83 [.arr s_n [.int .u8] s_c, .val (.int .i64 s_p), .val (.int .u64 s_z)]] => some (pB 42 s_p, outS (motV (⟨s_n, s_c, s_p, s_z⟩ : Src)).1.av (motV (⟨s_n, s_c, s_p, s_z⟩ : Src)).2)
  | _ => none

theorem e68 (s_n : Nat) (s_c : Nat → Nat → Int) (s_p : Int) (s_z : Int) (hp : (pB 42 s_p) = true) : evN Try.prog GL0 Γ72 (0) []  Try.f68 [.own 83 [.arr s_n [.int .u8] s_c, .val (.int .i64 s_p), .val (.int .u64 s_z)]] = some (outS (motV (⟨s_n, s_c, s_p, s_z⟩ : Src)).1.av (motV (⟨s_n, s_c, s_p, s_z⟩ : Src)).2) := by
  exact (show _ = MF (⟨s_n, s_c, s_p, s_z⟩ : Src) from by kernel_rfl).trans (mot_dr.spec m0 (s := (⟨s_n, s_c, s_p, s_z⟩ : Src)) hp).1
theorem m68 : Meets Try.prog GL0 68 s68 := by
  refine meetsN mix0 gl0 G72 Try.func68 (by kernel_rfl) (by kernel_rfl) s68 fun args x h => ?_
  unfold s68 at h
  split at h
  · rename_i s_n s_c s_p s_z
    simp only [Option.some.injEq, Prod.mk.injEq] at h
    obtain ⟨hp, rfl⟩ := h
    exact ⟨_, _, by kernel_rfl, e68 s_n s_c s_p s_z hp⟩
  · cases h
noncomputable abbrev Γ73 : List (Nat × Ctr) := (68, s68) :: Γ72
theorem G73 : Sound Try.prog GL0 Γ73 := G72.cons m68

-- spec.l04Bent
noncomputable def s44 : Ctr := fun
  | [.own 83 [.arr s_n [.int .u8] s_c, .val (.int .i64 s_p), .val (.int .u64 s_z)]] => some (pB 70 s_p, outS (bentMV (⟨s_n, s_c, s_p, s_z⟩ : Src)).1.av (bentMV (⟨s_n, s_c, s_p, s_z⟩ : Src)).2)
  | _ => none

theorem e44 (s_n : Nat) (s_c : Nat → Nat → Int) (s_p : Int) (s_z : Int) (hp : (pB 70 s_p) = true) : evN Try.prog GL0 Γ73 (0) []  Try.f44 [.own 83 [.arr s_n [.int .u8] s_c, .val (.int .i64 s_p), .val (.int .u64 s_z)]] = some (outS (bentMV (⟨s_n, s_c, s_p, s_z⟩ : Src)).1.av (bentMV (⟨s_n, s_c, s_p, s_z⟩ : Src)).2) := by
  exact (show _ = NF (⟨s_n, s_c, s_p, s_z⟩ : Src) from by kernel_rfl).trans (bentM_dr.spec m0 (s := (⟨s_n, s_c, s_p, s_z⟩ : Src)) hp).1
theorem m44 : Meets Try.prog GL0 44 s44 := by
  refine meetsN mix0 gl0 G73 Try.func44 (by kernel_rfl) (by kernel_rfl) s44 fun args x h => ?_
  unfold s44 at h
  split at h
  · rename_i s_n s_c s_p s_z
    simp only [Option.some.injEq, Prod.mk.injEq] at h
    obtain ⟨hp, rfl⟩ := h
    exact ⟨_, _, by kernel_rfl, e44 s_n s_c s_p s_z hp⟩
  · cases h
noncomputable abbrev Γ74 : List (Nat × Ctr) := (44, s44) :: Γ73
theorem G74 : Sound Try.prog GL0 Γ74 := G73.cons m44

-- spec.DrawCompose
noncomputable def s18 : Ctr := fun
  | [.arr b_n [.int .u8] b_c] => some (true, .tup [(cpA (srcOf b_n b_c)).av, (cpB (srcOf b_n b_c)).av])
  | _ => none

theorem e18 (b_n : Nat) (b_c : Nat → Nat → Int) : evN Try.prog GL0 Γ74 (0) []  Try.f18 [.arr b_n [.int .u8] b_c] = some (.tup [(cpA (srcOf b_n b_c)).av, (cpB (srcOf b_n b_c)).av]) := by
  refine (show _ = cond (pB 70 (srcOf b_n b_c).p) (cond (pB 70 (bentMV (srcOf b_n b_c)).2.p) (some (.tup [(cpA (srcOf b_n b_c)).av, (cpB (srcOf b_n b_c)).av])) none) none from by kernel_rfl).trans ?_
  obtain ⟨h1, h2⟩ := cp_ok (s := (srcOf b_n b_c)) rfl
  rw [h1, pB_less h2 (by decide)]
  rfl
theorem m18 : Meets Try.prog GL0 18 s18 := by
  refine meetsN mix0 gl0 G74 Try.func18 (by kernel_rfl) (by kernel_rfl) s18 fun args x h => ?_
  unfold s18 at h
  split at h
  · rename_i b_n b_c
    simp only [Option.some.injEq, Prod.mk.injEq] at h
    obtain ⟨hp, rfl⟩ := h
    exact ⟨_, _, by kernel_rfl, e18 b_n b_c⟩
  · cases h
noncomputable abbrev Γ75 : List (Nat × Ctr) := (18, s18) :: Γ74
theorem G75 : Sound Try.prog GL0 Γ75 := G74.cons m18

-- spec.DrawMovePoint
noncomputable def s19 : Ctr := fun
  | [.arr b_n [.int .u8] b_c] => some (true, .tup [(cpA (srcOf b_n b_c)).av, (mpP (srcOf b_n b_c)).av])
  | _ => none

theorem e19 (b_n : Nat) (b_c : Nat → Nat → Int) : evN Try.prog GL0 Γ75 (0) []  Try.f19 [.arr b_n [.int .u8] b_c] = some (.tup [(cpA (srcOf b_n b_c)).av, (mpP (srcOf b_n b_c)).av]) := by
  refine (show _ = cond (pB 70 (srcOf b_n b_c).p) (cond (pB 60 (bentMV (srcOf b_n b_c)).2.p) (some (.tup [(cpA (srcOf b_n b_c)).av, (mpP (srcOf b_n b_c)).av])) none) none from by kernel_rfl).trans ?_
  obtain ⟨h1, h2⟩ := cp_ok (s := (srcOf b_n b_c)) rfl
  rw [h1, pB_less h2 (by decide)]
  rfl
theorem m19 : Meets Try.prog GL0 19 s19 := by
  refine meetsN mix0 gl0 G75 Try.func19 (by kernel_rfl) (by kernel_rfl) s19 fun args x h => ?_
  unfold s19 at h
  split at h
  · rename_i b_n b_c
    simp only [Option.some.injEq, Prod.mk.injEq] at h
    obtain ⟨hp, rfl⟩ := h
    exact ⟨_, _, by kernel_rfl, e19 b_n b_c⟩
  · cases h
noncomputable abbrev Γ76 : List (Nat × Ctr) := (19, s19) :: Γ75
theorem G76 : Sound Try.prog GL0 Γ76 := G75.cons m19

end Go.Proofs.Ytigmgpblnoecpaa
