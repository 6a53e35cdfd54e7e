/- Contracts of the program's functions, by the evaluator. -/
import Derived.Test.YtgcmdnfchhkckaaC2
import Derived.Test.YtgcmdnfchhkckaaNumC
namespace Go.Proofs.Ytgcmdnfchhkckaa
open Go.Ev
set_option linter.unusedVariables false
set_option linter.unusedSimpArgs false
set_option maxRecDepth 100000

-- laws.eqMotion
def s40 : Ctr := fun
  | [.agg [.val (.int .i64 m_t), .val (.bool m_f), .val (.int .i64 m_xa), .val (.int .i64 m_xb), .val (.int .i64 m_xk), .val (.int .i64 m_ya), .val (.int .i64 m_yb), .val (.int .i64 m_yk)], .agg [.val (.int .i64 n_t), .val (.bool n_f), .val (.int .i64 n_xa), .val (.int .i64 n_xb), .val (.int .i64 n_xk), .val (.int .i64 n_ya), .val (.int .i64 n_yb), .val (.int .i64 n_yk)]] => some (true, bv (eqM m_t n_t m_f n_f (⟨⟨m_xa, m_xb, m_xk⟩, ⟨m_ya, m_yb, m_yk⟩⟩ : P2) (⟨⟨n_xa, n_xb, n_xk⟩, ⟨n_ya, n_yb, n_yk⟩⟩ : P2)))
  | _ => none

theorem e40 (m_t : Int) (m_f : Bool) (m_xa : Int) (m_xb : Int) (m_xk : Int) (m_ya : Int) (m_yb : Int) (m_yk : Int) (n_t : Int) (n_f : Bool) (n_xa : Int) (n_xb : Int) (n_xk : Int) (n_ya : Int) (n_yb : Int) (n_yk : Int) : evN Try.prog GL0 Γ60 (0) [] Try.f40 [.agg [.val (.int .i64 m_t), .val (.bool m_f), .val (.int .i64 m_xa), .val (.int .i64 m_xb), .val (.int .i64 m_xk), .val (.int .i64 m_ya), .val (.int .i64 m_yb), .val (.int .i64 m_yk)], .agg [.val (.int .i64 n_t), .val (.bool n_f), .val (.int .i64 n_xa), .val (.int .i64 n_xb), .val (.int .i64 n_xk), .val (.int .i64 n_ya), .val (.int .i64 n_yb), .val (.int .i64 n_yk)]] = some (bv (eqM m_t n_t m_f n_f (⟨⟨m_xa, m_xb, m_xk⟩, ⟨m_ya, m_yb, m_yk⟩⟩ : P2) (⟨⟨n_xa, n_xb, n_xk⟩, ⟨n_ya, n_yb, n_yk⟩⟩ : P2))) := by
  refine (show _ = cond (m_t != n_t) ( some (bv (false)) ) ( cond (!m_f == n_f) ( some (bv (false)) ) ( cond (!eq3 (N3.mk m_xa m_xb m_xk) (N3.mk n_xa n_xb n_xk)) ( some (bv (false)) ) ( cond (!eq3 (N3.mk m_ya m_yb m_yk) (N3.mk n_ya n_yb n_yk)) ( some (bv (false)) ) ( some (bv (true)) ) ) ) ) from by kernel_rfl).trans ?_
  simp only [eqM, eqP]
  cases (m_t != n_t) <;> cases m_f <;> cases n_f <;> cases eq3 (⟨⟨m_xa, m_xb, m_xk⟩, ⟨m_ya, m_yb, m_yk⟩⟩ : P2).x (⟨⟨n_xa, n_xb, n_xk⟩, ⟨n_ya, n_yb, n_yk⟩⟩ : P2).x <;> cases eq3 (⟨⟨m_xa, m_xb, m_xk⟩, ⟨m_ya, m_yb, m_yk⟩⟩ : P2).y (⟨⟨n_xa, n_xb, n_xk⟩, ⟨n_ya, n_yb, n_yk⟩⟩ : P2).y <;> rfl
theorem m40 : Meets Try.prog GL0 40 s40 := by
  refine meetsN mix0 gl0 G60 Try.func40 (by kernel_rfl) (by kernel_rfl) s40 fun args x h => ?_
  unfold s40 at h
  split at h
  · rename_i m_t m_f m_xa m_xb m_xk m_ya m_yb m_yk n_t n_f n_xa n_xb n_xk n_ya n_yb n_yk
    simp only [Option.some.injEq, Prod.mk.injEq] at h
    obtain ⟨hp, rfl⟩ := h
    exact ⟨_, _, by kernel_rfl, e40 m_t m_f m_xa m_xb m_xk m_ya m_yb m_yk n_t n_f n_xa n_xb n_xk n_ya n_yb n_yk⟩
  · cases h
abbrev Γ61 : List (Nat × Ctr) := (40, s40) :: Γ60
theorem G61 : Sound Try.prog GL0 Γ61 := G60.cons m40

-- (impl.Motion).back
def s77 : Ctr := fun
  | [.agg [.val (.int .i64 m_t), .val (.bool m_f), .val (.int .i64 m_xa), .val (.int .i64 m_xb), .val (.int .i64 m_xk), .val (.int .i64 m_ya), .val (.int .i64 m_yb), .val (.int .i64 m_yk)]] => some (inB m_t 0 7 && okP (⟨⟨m_xa, m_xb, m_xk⟩, ⟨m_ya, m_yb, m_yk⟩⟩ : P2), mav (invT m_t m_f) m_f (invP m_t m_f (⟨⟨m_xa, m_xb, m_xk⟩, ⟨m_ya, m_yb, m_yk⟩⟩ : P2)))
  | _ => none

theorem e77 (m_t : Int) (m_f : Bool) (m_xa : Int) (m_xb : Int) (m_xk : Int) (m_ya : Int) (m_yb : Int) (m_yk : Int) (hp : (inB m_t 0 7 && okP (⟨⟨m_xa, m_xb, m_xk⟩, ⟨m_ya, m_yb, m_yk⟩⟩ : P2)) = true) : evN Try.prog GL0 Γ61 (0) [] Try.f77 [.agg [.val (.int .i64 m_t), .val (.bool m_f), .val (.int .i64 m_xa), .val (.int .i64 m_xb), .val (.int .i64 m_xk), .val (.int .i64 m_ya), .val (.int .i64 m_yb), .val (.int .i64 m_yk)]] = some (mav (invT m_t m_f) m_f (invP m_t m_f (⟨⟨m_xa, m_xb, m_xk⟩, ⟨m_ya, m_yb, m_yk⟩⟩ : P2))) := by
  simp only [Bool.and_eq_true] at hp
  obtain ⟨h1, h2⟩ := hp
  cases m_f with
  | true =>
    refine (show _ = cond (inB (m_t) 0 7 && okP ((⟨⟨m_xa, m_xb, m_xk⟩, ⟨m_ya, m_yb, m_yk⟩⟩ : P2))) (some (mav (m_t) true (negP (turnF (m_t) (flipP true (⟨⟨m_xa, m_xb, m_xk⟩, ⟨m_ya, m_yb, m_yk⟩⟩ : P2)))))) none from by kernel_rfl).trans ?_
    rw [h1, h2]
    rfl
  | false =>
    refine (show _ = cond (inB (and64 (wr (0 - m_t)) 7) 0 7 && okP ((⟨⟨m_xa, m_xb, m_xk⟩, ⟨m_ya, m_yb, m_yk⟩⟩ : P2))) (some (mav (and64 (wr (0 - m_t)) 7) false (negP (turnF (and64 (wr (0 - m_t)) 7) (flipP false (⟨⟨m_xa, m_xb, m_xk⟩, ⟨m_ya, m_yb, m_yk⟩⟩ : P2)))))) none from by kernel_rfl).trans ?_
    have h3 : inB ((8 - m_t) % 8) 0 7 = true := invT_in h1 false
    rw [inv_impl h1, h3, h2]
    rfl
theorem m77 : Meets Try.prog GL0 77 s77 := by
  refine meetsN mix0 gl0 G61 Try.func77 (by kernel_rfl) (by kernel_rfl) s77 fun args x h => ?_
  unfold s77 at h
  split at h
  · rename_i m_t m_f m_xa m_xb m_xk m_ya m_yb m_yk
    simp only [Option.some.injEq, Prod.mk.injEq] at h
    obtain ⟨hp, rfl⟩ := h
    exact ⟨_, _, by kernel_rfl, e77 m_t m_f m_xa m_xb m_xk m_ya m_yb m_yk hp⟩
  · cases h
abbrev Γ62 : List (Nat × Ctr) := (77, s77) :: Γ61
theorem G62 : Sound Try.prog GL0 Γ62 := G61.cons m77

-- spec.l04Invert
def s76 : Ctr := fun
  | [.agg [.val (.int .i64 m_t), .val (.bool m_f), .val (.int .i64 m_xa), .val (.int .i64 m_xb), .val (.int .i64 m_xk), .val (.int .i64 m_ya), .val (.int .i64 m_yb), .val (.int .i64 m_yk)]] => some (inB m_t 0 7 && okP (⟨⟨m_xa, m_xb, m_xk⟩, ⟨m_ya, m_yb, m_yk⟩⟩ : P2), mav (invT m_t m_f) m_f (invP m_t m_f (⟨⟨m_xa, m_xb, m_xk⟩, ⟨m_ya, m_yb, m_yk⟩⟩ : P2)))
  | _ => none

theorem e76 (m_t : Int) (m_f : Bool) (m_xa : Int) (m_xb : Int) (m_xk : Int) (m_ya : Int) (m_yb : Int) (m_yk : Int) (hp : (inB m_t 0 7 && okP (⟨⟨m_xa, m_xb, m_xk⟩, ⟨m_ya, m_yb, m_yk⟩⟩ : P2)) = true) : evN Try.prog GL0 Γ62 (0) [] Try.f76 [.agg [.val (.int .i64 m_t), .val (.bool m_f), .val (.int .i64 m_xa), .val (.int .i64 m_xb), .val (.int .i64 m_xk), .val (.int .i64 m_ya), .val (.int .i64 m_yb), .val (.int .i64 m_yk)]] = some (mav (invT m_t m_f) m_f (invP m_t m_f (⟨⟨m_xa, m_xb, m_xk⟩, ⟨m_ya, m_yb, m_yk⟩⟩ : P2))) := by
  simp only [Bool.and_eq_true] at hp
  obtain ⟨h1, h2⟩ := hp
  cases m_f with
  | true =>
    refine (show _ = cond (inB (m_t) 0 7 && okP ((⟨⟨m_xa, m_xb, m_xk⟩, ⟨m_ya, m_yb, m_yk⟩⟩ : P2))) (some (mav (m_t) true (negP (turnF (m_t) (flipP true (⟨⟨m_xa, m_xb, m_xk⟩, ⟨m_ya, m_yb, m_yk⟩⟩ : P2)))))) none from by kernel_rfl).trans ?_
    rw [h1, h2]
    rfl
  | false =>
    refine (show _ = cond (inB ((wr (8 - m_t)).tmod 8) 0 7 && okP ((⟨⟨m_xa, m_xb, m_xk⟩, ⟨m_ya, m_yb, m_yk⟩⟩ : P2))) (some (mav ((wr (8 - m_t)).tmod 8) false (negP (turnF ((wr (8 - m_t)).tmod 8) (flipP false (⟨⟨m_xa, m_xb, m_xk⟩, ⟨m_ya, m_yb, m_yk⟩⟩ : P2)))))) none from by kernel_rfl).trans ?_
    have h3 : inB ((8 - m_t) % 8) 0 7 = true := invT_in h1 false
    rw [inv_spec h1, h3, h2]
    rfl
theorem m76 : Meets Try.prog GL0 76 s76 := by
  refine meetsN mix0 gl0 G62 Try.func76 (by kernel_rfl) (by kernel_rfl) s76 fun args x h => ?_
  unfold s76 at h
  split at h
  · rename_i m_t m_f m_xa m_xb m_xk m_ya m_yb m_yk
    simp only [Option.some.injEq, Prod.mk.injEq] at h
    obtain ⟨hp, rfl⟩ := h
    exact ⟨_, _, by kernel_rfl, e76 m_t m_f m_xa m_xb m_xk m_ya m_yb m_yk hp⟩
  · cases h
abbrev Γ63 : List (Nat × Ctr) := (76, s76) :: Γ62
theorem G63 : Sound Try.prog GL0 Γ63 := G62.cons m76

-- (impl.Motion).checked
def s78 : Ctr := fun
  | [.agg [.val (.int .i64 m_t), .val (.bool m_f), .val (.int .i64 m_xa), .val (.int .i64 m_xb), .val (.int .i64 m_xk), .val (.int .i64 m_ya), .val (.int .i64 m_yb), .val (.int .i64 m_yk)]] => some (kB m_xk && kB m_yk, rM (valP (redP (⟨⟨m_xa, m_xb, m_xk⟩, ⟨m_ya, m_yb, m_yk⟩⟩ : P2))) m_t m_f (redP (⟨⟨m_xa, m_xb, m_xk⟩, ⟨m_ya, m_yb, m_yk⟩⟩ : P2)))
  | _ => none

theorem e78 (m_t : Int) (m_f : Bool) (m_xa : Int) (m_xb : Int) (m_xk : Int) (m_ya : Int) (m_yb : Int) (m_yk : Int) (hp : (kB m_xk && kB m_yk) = true) : evN Try.prog GL0 Γ63 (0) [] Try.f78 [.agg [.val (.int .i64 m_t), .val (.bool m_f), .val (.int .i64 m_xa), .val (.int .i64 m_xb), .val (.int .i64 m_xk), .val (.int .i64 m_ya), .val (.int .i64 m_yb), .val (.int .i64 m_yk)]] = some (rM (valP (redP (⟨⟨m_xa, m_xb, m_xk⟩, ⟨m_ya, m_yb, m_yk⟩⟩ : P2))) m_t m_f (redP (⟨⟨m_xa, m_xb, m_xk⟩, ⟨m_ya, m_yb, m_yk⟩⟩ : P2))) := by
  refine (show _ = cond (kB m_xk && kB m_yk) (cond (!valP (redP (⟨⟨m_xa, m_xb, m_xk⟩, ⟨m_ya, m_yb, m_yk⟩⟩ : P2))) (some (rM false m_t m_f (redP (⟨⟨m_xa, m_xb, m_xk⟩, ⟨m_ya, m_yb, m_yk⟩⟩ : P2)))) (some (rM true m_t m_f ((fun c : Bool => (selP c (redP (⟨⟨m_xa, m_xb, m_xk⟩, ⟨m_ya, m_yb, m_yk⟩⟩ : P2)))) (valP (redP (⟨⟨m_xa, m_xb, m_xk⟩, ⟨m_ya, m_yb, m_yk⟩⟩ : P2))))))) none from by kernel_rfl).trans ?_
  rw [hp]
  cases valP (redP (⟨⟨m_xa, m_xb, m_xk⟩, ⟨m_ya, m_yb, m_yk⟩⟩ : P2)) <;> rfl
theorem m78 : Meets Try.prog GL0 78 s78 := by
  refine meetsN mix0 gl0 G63 Try.func78 (by kernel_rfl) (by kernel_rfl) s78 fun args x h => ?_
  unfold s78 at h
  split at h
  · rename_i m_t m_f m_xa m_xb m_xk m_ya m_yb m_yk
    simp only [Option.some.injEq, Prod.mk.injEq] at h
    obtain ⟨hp, rfl⟩ := h
    exact ⟨_, _, by kernel_rfl, e78 m_t m_f m_xa m_xb m_xk m_ya m_yb m_yk hp⟩
  · cases h
abbrev Γ64 : List (Nat × Ctr) := (78, s78) :: Γ63
theorem G64 : Sound Try.prog GL0 Γ64 := G63.cons m78

-- spec.l04Num
def s75 : Ctr := fun
  | [.agg [.val (.int .i64 m_t), .val (.bool m_f), .val (.int .i64 m_xa), .val (.int .i64 m_xb), .val (.int .i64 m_xk), .val (.int .i64 m_ya), .val (.int .i64 m_yb), .val (.int .i64 m_yk)]] => some (kB m_xk && kB m_yk, rM (valP (redP (⟨⟨m_xa, m_xb, m_xk⟩, ⟨m_ya, m_yb, m_yk⟩⟩ : P2))) m_t m_f (redP (⟨⟨m_xa, m_xb, m_xk⟩, ⟨m_ya, m_yb, m_yk⟩⟩ : P2)))
  | _ => none

theorem e75 (m_t : Int) (m_f : Bool) (m_xa : Int) (m_xb : Int) (m_xk : Int) (m_ya : Int) (m_yb : Int) (m_yk : Int) (hp : (kB m_xk && kB m_yk) = true) : evN Try.prog GL0 Γ64 (0) [] Try.f75 [.agg [.val (.int .i64 m_t), .val (.bool m_f), .val (.int .i64 m_xa), .val (.int .i64 m_xb), .val (.int .i64 m_xk), .val (.int .i64 m_ya), .val (.int .i64 m_yb), .val (.int .i64 m_yk)]] = some (rM (valP (redP (⟨⟨m_xa, m_xb, m_xk⟩, ⟨m_ya, m_yb, m_yk⟩⟩ : P2))) m_t m_f (redP (⟨⟨m_xa, m_xb, m_xk⟩, ⟨m_ya, m_yb, m_yk⟩⟩ : P2))) := by
  refine (show _ = cond (kB m_xk && kB m_yk) (cond (!valP (redP (⟨⟨m_xa, m_xb, m_xk⟩, ⟨m_ya, m_yb, m_yk⟩⟩ : P2))) (some (rM false m_t m_f (redP (⟨⟨m_xa, m_xb, m_xk⟩, ⟨m_ya, m_yb, m_yk⟩⟩ : P2)))) (some (rM true m_t m_f ((fun c : Bool => (selP c (redP (⟨⟨m_xa, m_xb, m_xk⟩, ⟨m_ya, m_yb, m_yk⟩⟩ : P2)))) (valP (redP (⟨⟨m_xa, m_xb, m_xk⟩, ⟨m_ya, m_yb, m_yk⟩⟩ : P2))))))) none from by kernel_rfl).trans ?_
  rw [hp]
  cases valP (redP (⟨⟨m_xa, m_xb, m_xk⟩, ⟨m_ya, m_yb, m_yk⟩⟩ : P2)) <;> rfl
theorem m75 : Meets Try.prog GL0 75 s75 := by
  refine meetsN mix0 gl0 G64 Try.func75 (by kernel_rfl) (by kernel_rfl) s75 fun args x h => ?_
  unfold s75 at h
  split at h
  · rename_i m_t m_f m_xa m_xb m_xk m_ya m_yb m_yk
    simp only [Option.some.injEq, Prod.mk.injEq] at h
    obtain ⟨hp, rfl⟩ := h
    exact ⟨_, _, by kernel_rfl, e75 m_t m_f m_xa m_xb m_xk m_ya m_yb m_yk hp⟩
  · cases h
abbrev Γ65 : List (Nat × Ctr) := (75, s75) :: Γ64
theorem G65 : Sound Try.prog GL0 Γ65 := G64.cons m75

-- impl.Invert
def s39 : Ctr := fun
  | [.agg [.val (.int .i64 m_t), .val (.bool m_f), .val (.int .i64 m_xa), .val (.int .i64 m_xb), .val (.int .i64 m_xk), .val (.int .i64 m_ya), .val (.int .i64 m_yb), .val (.int .i64 m_yk)]] => some (true, rM ((inB m_t 0 7 && valP (⟨⟨m_xa, m_xb, m_xk⟩, ⟨m_ya, m_yb, m_yk⟩⟩ : P2)) && valP (redP (invP m_t m_f (⟨⟨m_xa, m_xb, m_xk⟩, ⟨m_ya, m_yb, m_yk⟩⟩ : P2)))) (invT m_t m_f) m_f (redP (invP m_t m_f (⟨⟨m_xa, m_xb, m_xk⟩, ⟨m_ya, m_yb, m_yk⟩⟩ : P2))))
  | _ => none

theorem e39 (m_t : Int) (m_f : Bool) (m_xa : Int) (m_xb : Int) (m_xk : Int) (m_ya : Int) (m_yb : Int) (m_yk : Int) : evN Try.prog GL0 Γ65 (0) [] Try.f39 [.agg [.val (.int .i64 m_t), .val (.bool m_f), .val (.int .i64 m_xa), .val (.int .i64 m_xb), .val (.int .i64 m_xk), .val (.int .i64 m_ya), .val (.int .i64 m_yb), .val (.int .i64 m_yk)]] = some (rM ((inB m_t 0 7 && valP (⟨⟨m_xa, m_xb, m_xk⟩, ⟨m_ya, m_yb, m_yk⟩⟩ : P2)) && valP (redP (invP m_t m_f (⟨⟨m_xa, m_xb, m_xk⟩, ⟨m_ya, m_yb, m_yk⟩⟩ : P2)))) (invT m_t m_f) m_f (redP (invP m_t m_f (⟨⟨m_xa, m_xb, m_xk⟩, ⟨m_ya, m_yb, m_yk⟩⟩ : P2)))) := by
  refine (show _ = cond (!(inB m_t 0 7 && valP (⟨⟨m_xa, m_xb, m_xk⟩, ⟨m_ya, m_yb, m_yk⟩⟩ : P2))) (some (rM false m_t m_f (⟨⟨m_xa, m_xb, m_xk⟩, ⟨m_ya, m_yb, m_yk⟩⟩ : P2))) (cond (inB m_t 0 7 && okP (⟨⟨m_xa, m_xb, m_xk⟩, ⟨m_ya, m_yb, m_yk⟩⟩ : P2)) (cond (kB (invP m_t m_f (⟨⟨m_xa, m_xb, m_xk⟩, ⟨m_ya, m_yb, m_yk⟩⟩ : P2)).x.k && kB (invP m_t m_f (⟨⟨m_xa, m_xb, m_xk⟩, ⟨m_ya, m_yb, m_yk⟩⟩ : P2)).y.k) (some (rM (valP (redP (invP m_t m_f (⟨⟨m_xa, m_xb, m_xk⟩, ⟨m_ya, m_yb, m_yk⟩⟩ : P2)))) (invT m_t m_f) m_f (redP (invP m_t m_f (⟨⟨m_xa, m_xb, m_xk⟩, ⟨m_ya, m_yb, m_yk⟩⟩ : P2))))) none) none) from by kernel_rfl).trans ?_
  cases h1 : inB m_t 0 7 with
  | false => rfl
  | true =>
    cases h2 : valP (⟨⟨m_xa, m_xb, m_xk⟩, ⟨m_ya, m_yb, m_yk⟩⟩ : P2) with
    | false => rfl
    | true =>
      obtain ⟨k1, k2⟩ := invP_k (t := m_t) (f := m_f) (val_ok h2)
      rw [val_ok h2, k1, k2]
      rfl
theorem m39 : Meets Try.prog GL0 39 s39 := by
  refine meetsN mix0 gl0 G65 Try.func39 (by kernel_rfl) (by kernel_rfl) s39 fun args x h => ?_
  unfold s39 at h
  split at h
  · rename_i m_t m_f m_xa m_xb m_xk m_ya m_yb m_yk
    simp only [Option.some.injEq, Prod.mk.injEq] at h
    obtain ⟨hp, rfl⟩ := h
    exact ⟨_, _, by kernel_rfl, e39 m_t m_f m_xa m_xb m_xk m_ya m_yb m_yk⟩
  · cases h
abbrev Γ66 : List (Nat × Ctr) := (39, s39) :: Γ65
theorem G66 : Sound Try.prog GL0 Γ66 := G65.cons m39

-- spec.Invert
def s38 : Ctr := fun
  | [.agg [.val (.int .i64 m_t), .val (.bool m_f), .val (.int .i64 m_xa), .val (.int .i64 m_xb), .val (.int .i64 m_xk), .val (.int .i64 m_ya), .val (.int .i64 m_yb), .val (.int .i64 m_yk)]] => some (true, rM ((inB m_t 0 7 && valP (⟨⟨m_xa, m_xb, m_xk⟩, ⟨m_ya, m_yb, m_yk⟩⟩ : P2)) && valP (redP (invP m_t m_f (⟨⟨m_xa, m_xb, m_xk⟩, ⟨m_ya, m_yb, m_yk⟩⟩ : P2)))) (invT m_t m_f) m_f (redP (invP m_t m_f (⟨⟨m_xa, m_xb, m_xk⟩, ⟨m_ya, m_yb, m_yk⟩⟩ : P2))))
  | _ => none

theorem e38 (m_t : Int) (m_f : Bool) (m_xa : Int) (m_xb : Int) (m_xk : Int) (m_ya : Int) (m_yb : Int) (m_yk : Int) : evN Try.prog GL0 Γ66 (0) [] Try.f38 [.agg [.val (.int .i64 m_t), .val (.bool m_f), .val (.int .i64 m_xa), .val (.int .i64 m_xb), .val (.int .i64 m_xk), .val (.int .i64 m_ya), .val (.int .i64 m_yb), .val (.int .i64 m_yk)]] = some (rM ((inB m_t 0 7 && valP (⟨⟨m_xa, m_xb, m_xk⟩, ⟨m_ya, m_yb, m_yk⟩⟩ : P2)) && valP (redP (invP m_t m_f (⟨⟨m_xa, m_xb, m_xk⟩, ⟨m_ya, m_yb, m_yk⟩⟩ : P2)))) (invT m_t m_f) m_f (redP (invP m_t m_f (⟨⟨m_xa, m_xb, m_xk⟩, ⟨m_ya, m_yb, m_yk⟩⟩ : P2)))) := by
  refine (show _ = cond (!(inB m_t 0 7 && valP (⟨⟨m_xa, m_xb, m_xk⟩, ⟨m_ya, m_yb, m_yk⟩⟩ : P2))) (some (rM false m_t m_f (⟨⟨m_xa, m_xb, m_xk⟩, ⟨m_ya, m_yb, m_yk⟩⟩ : P2))) (cond (inB m_t 0 7 && okP (⟨⟨m_xa, m_xb, m_xk⟩, ⟨m_ya, m_yb, m_yk⟩⟩ : P2)) (cond (kB (invP m_t m_f (⟨⟨m_xa, m_xb, m_xk⟩, ⟨m_ya, m_yb, m_yk⟩⟩ : P2)).x.k && kB (invP m_t m_f (⟨⟨m_xa, m_xb, m_xk⟩, ⟨m_ya, m_yb, m_yk⟩⟩ : P2)).y.k) (some (rM (valP (redP (invP m_t m_f (⟨⟨m_xa, m_xb, m_xk⟩, ⟨m_ya, m_yb, m_yk⟩⟩ : P2)))) (invT m_t m_f) m_f (redP (invP m_t m_f (⟨⟨m_xa, m_xb, m_xk⟩, ⟨m_ya, m_yb, m_yk⟩⟩ : P2))))) none) none) from by kernel_rfl).trans ?_
  cases h1 : inB m_t 0 7 with
  | false => rfl
  | true =>
    cases h2 : valP (⟨⟨m_xa, m_xb, m_xk⟩, ⟨m_ya, m_yb, m_yk⟩⟩ : P2) with
    | false => rfl
    | true =>
      obtain ⟨k1, k2⟩ := invP_k (t := m_t) (f := m_f) (val_ok h2)
      rw [val_ok h2, k1, k2]
      rfl
theorem m38 : Meets Try.prog GL0 38 s38 := by
  refine meetsN mix0 gl0 G66 Try.func38 (by kernel_rfl) (by kernel_rfl) s38 fun args x h => ?_
  unfold s38 at h
  split at h
  · rename_i m_t m_f m_xa m_xb m_xk m_ya m_yb m_yk
    simp only [Option.some.injEq, Prod.mk.injEq] at h
    obtain ⟨hp, rfl⟩ := h
    exact ⟨_, _, by kernel_rfl, e38 m_t m_f m_xa m_xb m_xk m_ya m_yb m_yk⟩
  · cases h
abbrev Γ67 : List (Nat × Ctr) := (38, s38) :: Γ66
theorem G67 : Sound Try.prog GL0 Γ67 := G66.cons m38

-- laws.FnExactInvert
def s12 : Ctr := fun
  | [.agg [.val (.int .i64 m_t), .val (.bool m_f), .val (.int .i64 m_xa), .val (.int .i64 m_xb), .val (.int .i64 m_xk), .val (.int .i64 m_ya), .val (.int .i64 m_yb), .val (.int .i64 m_yk)]] => some (true, bv true)
  | _ => none

theorem e12 (m_t : Int) (m_f : Bool) (m_xa : Int) (m_xb : Int) (m_xk : Int) (m_ya : Int) (m_yb : Int) (m_yk : Int) : evN Try.prog GL0 Γ67 (0) [] Try.f12 [.agg [.val (.int .i64 m_t), .val (.bool m_f), .val (.int .i64 m_xa), .val (.int .i64 m_xb), .val (.int .i64 m_xk), .val (.int .i64 m_ya), .val (.int .i64 m_yb), .val (.int .i64 m_yk)]] = some (bv true) := by
  refine (show _ = cond (!eqM (bif inB m_t 0 7 && valP (P2.mk (N3.mk m_xa m_xb m_xk) (N3.mk m_ya m_yb m_yk)) && valP (redP (invP m_t m_f (P2.mk (N3.mk m_xa m_xb m_xk) (N3.mk m_ya m_yb m_yk)))) then invT m_t m_f else 0) (bif inB m_t 0 7 && valP (P2.mk (N3.mk m_xa m_xb m_xk) (N3.mk m_ya m_yb m_yk)) && valP (redP (invP m_t m_f (P2.mk (N3.mk m_xa m_xb m_xk) (N3.mk m_ya m_yb m_yk)))) then invT m_t m_f else 0) (bif inB m_t 0 7 && valP (P2.mk (N3.mk m_xa m_xb m_xk) (N3.mk m_ya m_yb m_yk)) && valP (redP (invP m_t m_f (P2.mk (N3.mk m_xa m_xb m_xk) (N3.mk m_ya m_yb m_yk)))) then m_f else false) (bif inB m_t 0 7 && valP (P2.mk (N3.mk m_xa m_xb m_xk) (N3.mk m_ya m_yb m_yk)) && valP (redP (invP m_t m_f (P2.mk (N3.mk m_xa m_xb m_xk) (N3.mk m_ya m_yb m_yk)))) then m_f else false) (P2.mk (N3.mk (bif inB m_t 0 7 && valP (P2.mk (N3.mk m_xa m_xb m_xk) (N3.mk m_ya m_yb m_yk)) && valP (redP (invP m_t m_f (P2.mk (N3.mk m_xa m_xb m_xk) (N3.mk m_ya m_yb m_yk)))) then (red (negF (turnF (invT m_t m_f) (flipP m_f (P2.mk (N3.mk m_xa m_xb m_xk) (N3.mk m_ya m_yb m_yk)))).1)).1 else 0) (bif inB m_t 0 7 && valP (P2.mk (N3.mk m_xa m_xb m_xk) (N3.mk m_ya m_yb m_yk)) && valP (redP (invP m_t m_f (P2.mk (N3.mk m_xa m_xb m_xk) (N3.mk m_ya m_yb m_yk)))) then (red (negF (turnF (invT m_t m_f) (flipP m_f (P2.mk (N3.mk m_xa m_xb m_xk) (N3.mk m_ya m_yb m_yk)))).1)).2 else 0) (bif inB m_t 0 7 && valP (P2.mk (N3.mk m_xa m_xb m_xk) (N3.mk m_ya m_yb m_yk)) && valP (redP (invP m_t m_f (P2.mk (N3.mk m_xa m_xb m_xk) (N3.mk m_ya m_yb m_yk)))) then (red (negF (turnF (invT m_t m_f) (flipP m_f (P2.mk (N3.mk m_xa m_xb m_xk) (N3.mk m_ya m_yb m_yk)))).1)).3 else 0)) (N3.mk (bif inB m_t 0 7 && valP (P2.mk (N3.mk m_xa m_xb m_xk) (N3.mk m_ya m_yb m_yk)) && valP (redP (invP m_t m_f (P2.mk (N3.mk m_xa m_xb m_xk) (N3.mk m_ya m_yb m_yk)))) then (red (negF (turnF (invT m_t m_f) (flipP m_f (P2.mk (N3.mk m_xa m_xb m_xk) (N3.mk m_ya m_yb m_yk)))).2)).1 else 0) (bif inB m_t 0 7 && valP (P2.mk (N3.mk m_xa m_xb m_xk) (N3.mk m_ya m_yb m_yk)) && valP (redP (invP m_t m_f (P2.mk (N3.mk m_xa m_xb m_xk) (N3.mk m_ya m_yb m_yk)))) then (red (negF (turnF (invT m_t m_f) (flipP m_f (P2.mk (N3.mk m_xa m_xb m_xk) (N3.mk m_ya m_yb m_yk)))).2)).2 else 0) (bif inB m_t 0 7 && valP (P2.mk (N3.mk m_xa m_xb m_xk) (N3.mk m_ya m_yb m_yk)) && valP (redP (invP m_t m_f (P2.mk (N3.mk m_xa m_xb m_xk) (N3.mk m_ya m_yb m_yk)))) then (red (negF (turnF (invT m_t m_f) (flipP m_f (P2.mk (N3.mk m_xa m_xb m_xk) (N3.mk m_ya m_yb m_yk)))).2)).3 else 0))) (P2.mk (N3.mk (bif inB m_t 0 7 && valP (P2.mk (N3.mk m_xa m_xb m_xk) (N3.mk m_ya m_yb m_yk)) && valP (redP (invP m_t m_f (P2.mk (N3.mk m_xa m_xb m_xk) (N3.mk m_ya m_yb m_yk)))) then (red (negF (turnF (invT m_t m_f) (flipP m_f (P2.mk (N3.mk m_xa m_xb m_xk) (N3.mk m_ya m_yb m_yk)))).1)).1 else 0) (bif inB m_t 0 7 && valP (P2.mk (N3.mk m_xa m_xb m_xk) (N3.mk m_ya m_yb m_yk)) && valP (redP (invP m_t m_f (P2.mk (N3.mk m_xa m_xb m_xk) (N3.mk m_ya m_yb m_yk)))) then (red (negF (turnF (invT m_t m_f) (flipP m_f (P2.mk (N3.mk m_xa m_xb m_xk) (N3.mk m_ya m_yb m_yk)))).1)).2 else 0) (bif inB m_t 0 7 && valP (P2.mk (N3.mk m_xa m_xb m_xk) (N3.mk m_ya m_yb m_yk)) && valP (redP (invP m_t m_f (P2.mk (N3.mk m_xa m_xb m_xk) (N3.mk m_ya m_yb m_yk)))) then (red (negF (turnF (invT m_t m_f) (flipP m_f (P2.mk (N3.mk m_xa m_xb m_xk) (N3.mk m_ya m_yb m_yk)))).1)).3 else 0)) (N3.mk (bif inB m_t 0 7 && valP (P2.mk (N3.mk m_xa m_xb m_xk) (N3.mk m_ya m_yb m_yk)) && valP (redP (invP m_t m_f (P2.mk (N3.mk m_xa m_xb m_xk) (N3.mk m_ya m_yb m_yk)))) then (red (negF (turnF (invT m_t m_f) (flipP m_f (P2.mk (N3.mk m_xa m_xb m_xk) (N3.mk m_ya m_yb m_yk)))).2)).1 else 0) (bif inB m_t 0 7 && valP (P2.mk (N3.mk m_xa m_xb m_xk) (N3.mk m_ya m_yb m_yk)) && valP (redP (invP m_t m_f (P2.mk (N3.mk m_xa m_xb m_xk) (N3.mk m_ya m_yb m_yk)))) then (red (negF (turnF (invT m_t m_f) (flipP m_f (P2.mk (N3.mk m_xa m_xb m_xk) (N3.mk m_ya m_yb m_yk)))).2)).2 else 0) (bif inB m_t 0 7 && valP (P2.mk (N3.mk m_xa m_xb m_xk) (N3.mk m_ya m_yb m_yk)) && valP (redP (invP m_t m_f (P2.mk (N3.mk m_xa m_xb m_xk) (N3.mk m_ya m_yb m_yk)))) then (red (negF (turnF (invT m_t m_f) (flipP m_f (P2.mk (N3.mk m_xa m_xb m_xk) (N3.mk m_ya m_yb m_yk)))).2)).3 else 0)))) ( some (bv (false)) ) ( cond (!(inB m_t 0 7 && valP (P2.mk (N3.mk m_xa m_xb m_xk) (N3.mk m_ya m_yb m_yk)) && valP (redP (invP m_t m_f (P2.mk (N3.mk m_xa m_xb m_xk) (N3.mk m_ya m_yb m_yk))))) == (inB m_t 0 7 && valP (P2.mk (N3.mk m_xa m_xb m_xk) (N3.mk m_ya m_yb m_yk)) && valP (redP (invP m_t m_f (P2.mk (N3.mk m_xa m_xb m_xk) (N3.mk m_ya m_yb m_yk)))))) ( some (bv (false)) ) ( some (bv (true)) ) ) from by kernel_rfl).trans ?_
  simp only [eqM_self, bne_self_eq_false, beq_self_eq_true, cond_true, cond_false, Bool.not_true]
theorem m12 : Meets Try.prog GL0 12 s12 := by
  refine meetsN mix0 gl0 G67 Try.func12 (by kernel_rfl) (by kernel_rfl) s12 fun args x h => ?_
  unfold s12 at h
  split at h
  · rename_i m_t m_f m_xa m_xb m_xk m_ya m_yb m_yk
    simp only [Option.some.injEq, Prod.mk.injEq] at h
    obtain ⟨hp, rfl⟩ := h
    exact ⟨_, _, by kernel_rfl, e12 m_t m_f m_xa m_xb m_xk m_ya m_yb m_yk⟩
  · cases h
abbrev Γ68 : List (Nat × Ctr) := (12, s12) :: Γ67
theorem G68 : Sound Try.prog GL0 Γ68 := G67.cons m12

-- (impl.Motion).then
def s80 : Ctr := fun
  | [.agg [.val (.int .i64 m_t), .val (.bool m_f), .val (.int .i64 m_xa), .val (.int .i64 m_xb), .val (.int .i64 m_xk), .val (.int .i64 m_ya), .val (.int .i64 m_yb), .val (.int .i64 m_yk)], .agg [.val (.int .i64 n_t), .val (.bool n_f), .val (.int .i64 n_xa), .val (.int .i64 n_xb), .val (.int .i64 n_xk), .val (.int .i64 n_ya), .val (.int .i64 n_yb), .val (.int .i64 n_yk)]] => some (inB m_t 0 7 && okM n_t (⟨⟨m_xa, m_xb, m_xk⟩, ⟨m_ya, m_yb, m_yk⟩⟩ : P2) (⟨⟨n_xa, n_xb, n_xk⟩, ⟨n_ya, n_yb, n_yk⟩⟩ : P2), mav (cmpT m_t n_t n_f) (m_f != n_f) (moveF n_t n_f (⟨⟨n_xa, n_xb, n_xk⟩, ⟨n_ya, n_yb, n_yk⟩⟩ : P2) (⟨⟨m_xa, m_xb, m_xk⟩, ⟨m_ya, m_yb, m_yk⟩⟩ : P2)))
  | _ => none

theorem e80 (m_t : Int) (m_f : Bool) (m_xa : Int) (m_xb : Int) (m_xk : Int) (m_ya : Int) (m_yb : Int) (m_yk : Int) (n_t : Int) (n_f : Bool) (n_xa : Int) (n_xb : Int) (n_xk : Int) (n_ya : Int) (n_yb : Int) (n_yk : Int) (hp : (inB m_t 0 7 && okM n_t (⟨⟨m_xa, m_xb, m_xk⟩, ⟨m_ya, m_yb, m_yk⟩⟩ : P2) (⟨⟨n_xa, n_xb, n_xk⟩, ⟨n_ya, n_yb, n_yk⟩⟩ : P2)) = true) : evN Try.prog GL0 Γ68 (0) [] Try.f80 [.agg [.val (.int .i64 m_t), .val (.bool m_f), .val (.int .i64 m_xa), .val (.int .i64 m_xb), .val (.int .i64 m_xk), .val (.int .i64 m_ya), .val (.int .i64 m_yb), .val (.int .i64 m_yk)], .agg [.val (.int .i64 n_t), .val (.bool n_f), .val (.int .i64 n_xa), .val (.int .i64 n_xb), .val (.int .i64 n_xk), .val (.int .i64 n_ya), .val (.int .i64 n_yb), .val (.int .i64 n_yk)]] = some (mav (cmpT m_t n_t n_f) (m_f != n_f) (moveF n_t n_f (⟨⟨n_xa, n_xb, n_xk⟩, ⟨n_ya, n_yb, n_yk⟩⟩ : P2) (⟨⟨m_xa, m_xb, m_xk⟩, ⟨m_ya, m_yb, m_yk⟩⟩ : P2))) := by
  rw [Bool.and_eq_true] at hp
  obtain ⟨h1, h2⟩ := hp
  have h3 : inB n_t 0 7 = true := by unfold okM at h2; rw [Bool.and_eq_true] at h2; exact h2.1
  obtain ⟨c1, c2⟩ := cmp_impl h1 h3
  cases n_f with
  | true =>
    refine (show _ = cond (okM n_t (⟨⟨m_xa, m_xb, m_xk⟩, ⟨m_ya, m_yb, m_yk⟩⟩ : P2) (⟨⟨n_xa, n_xb, n_xk⟩, ⟨n_ya, n_yb, n_yk⟩⟩ : P2)) (some (mav (and64 (wr (wr (0 - m_t) + n_t)) 7) (m_f != true) (moveF n_t true (⟨⟨n_xa, n_xb, n_xk⟩, ⟨n_ya, n_yb, n_yk⟩⟩ : P2) (⟨⟨m_xa, m_xb, m_xk⟩, ⟨m_ya, m_yb, m_yk⟩⟩ : P2)))) none from by kernel_rfl).trans ?_
    rw [h2, c1]
    rfl
  | false =>
    refine (show _ = cond (okM n_t (⟨⟨m_xa, m_xb, m_xk⟩, ⟨m_ya, m_yb, m_yk⟩⟩ : P2) (⟨⟨n_xa, n_xb, n_xk⟩, ⟨n_ya, n_yb, n_yk⟩⟩ : P2)) (some (mav (and64 (wr (m_t + n_t)) 7) (m_f != false) (moveF n_t false (⟨⟨n_xa, n_xb, n_xk⟩, ⟨n_ya, n_yb, n_yk⟩⟩ : P2) (⟨⟨m_xa, m_xb, m_xk⟩, ⟨m_ya, m_yb, m_yk⟩⟩ : P2)))) none from by kernel_rfl).trans ?_
    rw [h2, c2]
    rfl
theorem m80 : Meets Try.prog GL0 80 s80 := by
  refine meetsN mix0 gl0 G68 Try.func80 (by kernel_rfl) (by kernel_rfl) s80 fun args x h => ?_
  unfold s80 at h
  split at h
  · rename_i m_t m_f m_xa m_xb m_xk m_ya m_yb m_yk n_t n_f n_xa n_xb n_xk n_ya n_yb n_yk
    simp only [Option.some.injEq, Prod.mk.injEq] at h
    obtain ⟨hp, rfl⟩ := h
    exact ⟨_, _, by kernel_rfl, e80 m_t m_f m_xa m_xb m_xk m_ya m_yb m_yk n_t n_f n_xa n_xb n_xk n_ya n_yb n_yk hp⟩
  · cases h
abbrev Γ69 : List (Nat × Ctr) := (80, s80) :: Γ68
theorem G69 : Sound Try.prog GL0 Γ69 := G68.cons m80

-- spec.l04Compose
def s79 : Ctr := fun
  | [.agg [.val (.int .i64 m_t), .val (.bool m_f), .val (.int .i64 m_xa), .val (.int .i64 m_xb), .val (.int .i64 m_xk), .val (.int .i64 m_ya), .val (.int .i64 m_yb), .val (.int .i64 m_yk)], .agg [.val (.int .i64 n_t), .val (.bool n_f), .val (.int .i64 n_xa), .val (.int .i64 n_xb), .val (.int .i64 n_xk), .val (.int .i64 n_ya), .val (.int .i64 n_yb), .val (.int .i64 n_yk)]] => some (inB m_t 0 7 && okM n_t (⟨⟨m_xa, m_xb, m_xk⟩, ⟨m_ya, m_yb, m_yk⟩⟩ : P2) (⟨⟨n_xa, n_xb, n_xk⟩, ⟨n_ya, n_yb, n_yk⟩⟩ : P2), mav (cmpT m_t n_t n_f) (m_f != n_f) (moveF n_t n_f (⟨⟨n_xa, n_xb, n_xk⟩, ⟨n_ya, n_yb, n_yk⟩⟩ : P2) (⟨⟨m_xa, m_xb, m_xk⟩, ⟨m_ya, m_yb, m_yk⟩⟩ : P2)))
  | _ => none

theorem e79 (m_t : Int) (m_f : Bool) (m_xa : Int) (m_xb : Int) (m_xk : Int) (m_ya : Int) (m_yb : Int) (m_yk : Int) (n_t : Int) (n_f : Bool) (n_xa : Int) (n_xb : Int) (n_xk : Int) (n_ya : Int) (n_yb : Int) (n_yk : Int) (hp : (inB m_t 0 7 && okM n_t (⟨⟨m_xa, m_xb, m_xk⟩, ⟨m_ya, m_yb, m_yk⟩⟩ : P2) (⟨⟨n_xa, n_xb, n_xk⟩, ⟨n_ya, n_yb, n_yk⟩⟩ : P2)) = true) : evN Try.prog GL0 Γ69 (0) [] Try.f79 [.agg [.val (.int .i64 m_t), .val (.bool m_f), .val (.int .i64 m_xa), .val (.int .i64 m_xb), .val (.int .i64 m_xk), .val (.int .i64 m_ya), .val (.int .i64 m_yb), .val (.int .i64 m_yk)], .agg [.val (.int .i64 n_t), .val (.bool n_f), .val (.int .i64 n_xa), .val (.int .i64 n_xb), .val (.int .i64 n_xk), .val (.int .i64 n_ya), .val (.int .i64 n_yb), .val (.int .i64 n_yk)]] = some (mav (cmpT m_t n_t n_f) (m_f != n_f) (moveF n_t n_f (⟨⟨n_xa, n_xb, n_xk⟩, ⟨n_ya, n_yb, n_yk⟩⟩ : P2) (⟨⟨m_xa, m_xb, m_xk⟩, ⟨m_ya, m_yb, m_yk⟩⟩ : P2))) := by
  rw [Bool.and_eq_true] at hp
  obtain ⟨h1, h2⟩ := hp
  have h3 : inB n_t 0 7 = true := by unfold okM at h2; rw [Bool.and_eq_true] at h2; exact h2.1
  obtain ⟨c1, c2⟩ := cmp_spec h1 h3
  cases n_f with
  | true =>
    refine (show _ = cond (okM n_t (⟨⟨m_xa, m_xb, m_xk⟩, ⟨m_ya, m_yb, m_yk⟩⟩ : P2) (⟨⟨n_xa, n_xb, n_xk⟩, ⟨n_ya, n_yb, n_yk⟩⟩ : P2)) (some (mav ((wr (wr (n_t - m_t) + 8)).tmod 8) (m_f != true) (moveF n_t true (⟨⟨n_xa, n_xb, n_xk⟩, ⟨n_ya, n_yb, n_yk⟩⟩ : P2) (⟨⟨m_xa, m_xb, m_xk⟩, ⟨m_ya, m_yb, m_yk⟩⟩ : P2)))) none from by kernel_rfl).trans ?_
    rw [h2, c1]
    rfl
  | false =>
    refine (show _ = cond (okM n_t (⟨⟨m_xa, m_xb, m_xk⟩, ⟨m_ya, m_yb, m_yk⟩⟩ : P2) (⟨⟨n_xa, n_xb, n_xk⟩, ⟨n_ya, n_yb, n_yk⟩⟩ : P2)) (some (mav ((wr (wr (n_t + m_t) + 8)).tmod 8) (m_f != false) (moveF n_t false (⟨⟨n_xa, n_xb, n_xk⟩, ⟨n_ya, n_yb, n_yk⟩⟩ : P2) (⟨⟨m_xa, m_xb, m_xk⟩, ⟨m_ya, m_yb, m_yk⟩⟩ : P2)))) none from by kernel_rfl).trans ?_
    rw [h2, c2]
    rfl
theorem m79 : Meets Try.prog GL0 79 s79 := by
  refine meetsN mix0 gl0 G69 Try.func79 (by kernel_rfl) (by kernel_rfl) s79 fun args x h => ?_
  unfold s79 at h
  split at h
  · rename_i m_t m_f m_xa m_xb m_xk m_ya m_yb m_yk n_t n_f n_xa n_xb n_xk n_ya n_yb n_yk
    simp only [Option.some.injEq, Prod.mk.injEq] at h
    obtain ⟨hp, rfl⟩ := h
    exact ⟨_, _, by kernel_rfl, e79 m_t m_f m_xa m_xb m_xk m_ya m_yb m_yk n_t n_f n_xa n_xb n_xk n_ya n_yb n_yk hp⟩
  · cases h
abbrev Γ70 : List (Nat × Ctr) := (79, s79) :: Γ69
theorem G70 : Sound Try.prog GL0 Γ70 := G69.cons m79

-- impl.Compose
def s42 : Ctr := fun
  | [.agg [.val (.int .i64 m_t), .val (.bool m_f), .val (.int .i64 m_xa), .val (.int .i64 m_xb), .val (.int .i64 m_xk), .val (.int .i64 m_ya), .val (.int .i64 m_yb), .val (.int .i64 m_yk)], .agg [.val (.int .i64 n_t), .val (.bool n_f), .val (.int .i64 n_xa), .val (.int .i64 n_xb), .val (.int .i64 n_xk), .val (.int .i64 n_ya), .val (.int .i64 n_yb), .val (.int .i64 n_yk)]] => some (true, rM (((inB m_t 0 7 && valP (⟨⟨m_xa, m_xb, m_xk⟩, ⟨m_ya, m_yb, m_yk⟩⟩ : P2)) && (inB n_t 0 7 && valP (⟨⟨n_xa, n_xb, n_xk⟩, ⟨n_ya, n_yb, n_yk⟩⟩ : P2))) && valP (redP (moveF n_t n_f (⟨⟨n_xa, n_xb, n_xk⟩, ⟨n_ya, n_yb, n_yk⟩⟩ : P2) (⟨⟨m_xa, m_xb, m_xk⟩, ⟨m_ya, m_yb, m_yk⟩⟩ : P2)))) (cmpT m_t n_t n_f) (m_f != n_f) (redP (moveF n_t n_f (⟨⟨n_xa, n_xb, n_xk⟩, ⟨n_ya, n_yb, n_yk⟩⟩ : P2) (⟨⟨m_xa, m_xb, m_xk⟩, ⟨m_ya, m_yb, m_yk⟩⟩ : P2))))
  | _ => none

theorem e42 (m_t : Int) (m_f : Bool) (m_xa : Int) (m_xb : Int) (m_xk : Int) (m_ya : Int) (m_yb : Int) (m_yk : Int) (n_t : Int) (n_f : Bool) (n_xa : Int) (n_xb : Int) (n_xk : Int) (n_ya : Int) (n_yb : Int) (n_yk : Int) : evN Try.prog GL0 Γ70 (0) [] Try.f42 [.agg [.val (.int .i64 m_t), .val (.bool m_f), .val (.int .i64 m_xa), .val (.int .i64 m_xb), .val (.int .i64 m_xk), .val (.int .i64 m_ya), .val (.int .i64 m_yb), .val (.int .i64 m_yk)], .agg [.val (.int .i64 n_t), .val (.bool n_f), .val (.int .i64 n_xa), .val (.int .i64 n_xb), .val (.int .i64 n_xk), .val (.int .i64 n_ya), .val (.int .i64 n_yb), .val (.int .i64 n_yk)]] = some (rM (((inB m_t 0 7 && valP (⟨⟨m_xa, m_xb, m_xk⟩, ⟨m_ya, m_yb, m_yk⟩⟩ : P2)) && (inB n_t 0 7 && valP (⟨⟨n_xa, n_xb, n_xk⟩, ⟨n_ya, n_yb, n_yk⟩⟩ : P2))) && valP (redP (moveF n_t n_f (⟨⟨n_xa, n_xb, n_xk⟩, ⟨n_ya, n_yb, n_yk⟩⟩ : P2) (⟨⟨m_xa, m_xb, m_xk⟩, ⟨m_ya, m_yb, m_yk⟩⟩ : P2)))) (cmpT m_t n_t n_f) (m_f != n_f) (redP (moveF n_t n_f (⟨⟨n_xa, n_xb, n_xk⟩, ⟨n_ya, n_yb, n_yk⟩⟩ : P2) (⟨⟨m_xa, m_xb, m_xk⟩, ⟨m_ya, m_yb, m_yk⟩⟩ : P2)))) := by
  refine (show _ = cond (!(inB m_t 0 7 && valP (⟨⟨m_xa, m_xb, m_xk⟩, ⟨m_ya, m_yb, m_yk⟩⟩ : P2))) (some (rM false m_t m_f (⟨⟨m_xa, m_xb, m_xk⟩, ⟨m_ya, m_yb, m_yk⟩⟩ : P2))) (cond (!(inB n_t 0 7 && valP (⟨⟨n_xa, n_xb, n_xk⟩, ⟨n_ya, n_yb, n_yk⟩⟩ : P2))) (some (rM false m_t m_f (⟨⟨m_xa, m_xb, m_xk⟩, ⟨m_ya, m_yb, m_yk⟩⟩ : P2))) (cond (inB m_t 0 7 && okM n_t (⟨⟨m_xa, m_xb, m_xk⟩, ⟨m_ya, m_yb, m_yk⟩⟩ : P2) (⟨⟨n_xa, n_xb, n_xk⟩, ⟨n_ya, n_yb, n_yk⟩⟩ : P2)) (cond (kB (moveF n_t n_f (⟨⟨n_xa, n_xb, n_xk⟩, ⟨n_ya, n_yb, n_yk⟩⟩ : P2) (⟨⟨m_xa, m_xb, m_xk⟩, ⟨m_ya, m_yb, m_yk⟩⟩ : P2)).x.k && kB (moveF n_t n_f (⟨⟨n_xa, n_xb, n_xk⟩, ⟨n_ya, n_yb, n_yk⟩⟩ : P2) (⟨⟨m_xa, m_xb, m_xk⟩, ⟨m_ya, m_yb, m_yk⟩⟩ : P2)).y.k) (some (rM (valP (redP (moveF n_t n_f (⟨⟨n_xa, n_xb, n_xk⟩, ⟨n_ya, n_yb, n_yk⟩⟩ : P2) (⟨⟨m_xa, m_xb, m_xk⟩, ⟨m_ya, m_yb, m_yk⟩⟩ : P2)))) (cmpT m_t n_t n_f) (m_f != n_f) (redP (moveF n_t n_f (⟨⟨n_xa, n_xb, n_xk⟩, ⟨n_ya, n_yb, n_yk⟩⟩ : P2) (⟨⟨m_xa, m_xb, m_xk⟩, ⟨m_ya, m_yb, m_yk⟩⟩ : P2))))) none) none)) from by kernel_rfl).trans ?_
  cases h1 : inB m_t 0 7 with
  | false => rfl
  | true =>
    cases h2 : valP (⟨⟨m_xa, m_xb, m_xk⟩, ⟨m_ya, m_yb, m_yk⟩⟩ : P2) with
    | false => rfl
    | true =>
      cases h3 : inB n_t 0 7 with
      | false => rfl
      | true =>
        cases h4 : valP (⟨⟨n_xa, n_xb, n_xk⟩, ⟨n_ya, n_yb, n_yk⟩⟩ : P2) with
        | false => rfl
        | true =>
          obtain ⟨_, _, _, k4, k5⟩ := turn_pk (flip_ok (val_ok h2) n_f) (val_ok h4) n_t
          have k6 : okM n_t (⟨⟨m_xa, m_xb, m_xk⟩, ⟨m_ya, m_yb, m_yk⟩⟩ : P2) (⟨⟨n_xa, n_xb, n_xk⟩, ⟨n_ya, n_yb, n_yk⟩⟩ : P2) = true := by unfold okM; rw [h3, val_ok h2, val_ok h4]; rfl
          have k7 : (kB (moveF n_t n_f (⟨⟨n_xa, n_xb, n_xk⟩, ⟨n_ya, n_yb, n_yk⟩⟩ : P2) (⟨⟨m_xa, m_xb, m_xk⟩, ⟨m_ya, m_yb, m_yk⟩⟩ : P2)).x.k && kB (moveF n_t n_f (⟨⟨n_xa, n_xb, n_xk⟩, ⟨n_ya, n_yb, n_yk⟩⟩ : P2) (⟨⟨m_xa, m_xb, m_xk⟩, ⟨m_ya, m_yb, m_yk⟩⟩ : P2)).y.k) = true := by unfold moveF; rw [k4, k5]; rfl
          rw [k6, k7]
          rfl
theorem m42 : Meets Try.prog GL0 42 s42 := by
  refine meetsN mix0 gl0 G70 Try.func42 (by kernel_rfl) (by kernel_rfl) s42 fun args x h => ?_
  unfold s42 at h
  split at h
  · rename_i m_t m_f m_xa m_xb m_xk m_ya m_yb m_yk n_t n_f n_xa n_xb n_xk n_ya n_yb n_yk
    simp only [Option.some.injEq, Prod.mk.injEq] at h
    obtain ⟨hp, rfl⟩ := h
    exact ⟨_, _, by kernel_rfl, e42 m_t m_f m_xa m_xb m_xk m_ya m_yb m_yk n_t n_f n_xa n_xb n_xk n_ya n_yb n_yk⟩
  · cases h
abbrev Γ71 : List (Nat × Ctr) := (42, s42) :: Γ70
theorem G71 : Sound Try.prog GL0 Γ71 := G70.cons m42

-- spec.Compose
def s41 : Ctr := fun
  | [.agg [.val (.int .i64 m_t), .val (.bool m_f), .val (.int .i64 m_xa), .val (.int .i64 m_xb), .val (.int .i64 m_xk), .val (.int .i64 m_ya), .val (.int .i64 m_yb), .val (.int .i64 m_yk)], .agg [.val (.int .i64 n_t), .val (.bool n_f), .val (.int .i64 n_xa), .val (.int .i64 n_xb), .val (.int .i64 n_xk), .val (.int .i64 n_ya), .val (.int .i64 n_yb), .val (.int .i64 n_yk)]] => some (true, rM (((inB m_t 0 7 && valP (⟨⟨m_xa, m_xb, m_xk⟩, ⟨m_ya, m_yb, m_yk⟩⟩ : P2)) && (inB n_t 0 7 && valP (⟨⟨n_xa, n_xb, n_xk⟩, ⟨n_ya, n_yb, n_yk⟩⟩ : P2))) && valP (redP (moveF n_t n_f (⟨⟨n_xa, n_xb, n_xk⟩, ⟨n_ya, n_yb, n_yk⟩⟩ : P2) (⟨⟨m_xa, m_xb, m_xk⟩, ⟨m_ya, m_yb, m_yk⟩⟩ : P2)))) (cmpT m_t n_t n_f) (m_f != n_f) (redP (moveF n_t n_f (⟨⟨n_xa, n_xb, n_xk⟩, ⟨n_ya, n_yb, n_yk⟩⟩ : P2) (⟨⟨m_xa, m_xb, m_xk⟩, ⟨m_ya, m_yb, m_yk⟩⟩ : P2))))
  | _ => none

theorem e41 (m_t : Int) (m_f : Bool) (m_xa : Int) (m_xb : Int) (m_xk : Int) (m_ya : Int) (m_yb : Int) (m_yk : Int) (n_t : Int) (n_f : Bool) (n_xa : Int) (n_xb : Int) (n_xk : Int) (n_ya : Int) (n_yb : Int) (n_yk : Int) : evN Try.prog GL0 Γ71 (0) [] Try.f41 [.agg [.val (.int .i64 m_t), .val (.bool m_f), .val (.int .i64 m_xa), .val (.int .i64 m_xb), .val (.int .i64 m_xk), .val (.int .i64 m_ya), .val (.int .i64 m_yb), .val (.int .i64 m_yk)], .agg [.val (.int .i64 n_t), .val (.bool n_f), .val (.int .i64 n_xa), .val (.int .i64 n_xb), .val (.int .i64 n_xk), .val (.int .i64 n_ya), .val (.int .i64 n_yb), .val (.int .i64 n_yk)]] = some (rM (((inB m_t 0 7 && valP (⟨⟨m_xa, m_xb, m_xk⟩, ⟨m_ya, m_yb, m_yk⟩⟩ : P2)) && (inB n_t 0 7 && valP (⟨⟨n_xa, n_xb, n_xk⟩, ⟨n_ya, n_yb, n_yk⟩⟩ : P2))) && valP (redP (moveF n_t n_f (⟨⟨n_xa, n_xb, n_xk⟩, ⟨n_ya, n_yb, n_yk⟩⟩ : P2) (⟨⟨m_xa, m_xb, m_xk⟩, ⟨m_ya, m_yb, m_yk⟩⟩ : P2)))) (cmpT m_t n_t n_f) (m_f != n_f) (redP (moveF n_t n_f (⟨⟨n_xa, n_xb, n_xk⟩, ⟨n_ya, n_yb, n_yk⟩⟩ : P2) (⟨⟨m_xa, m_xb, m_xk⟩, ⟨m_ya, m_yb, m_yk⟩⟩ : P2)))) := by
  refine (show _ = cond (!(inB m_t 0 7 && valP (⟨⟨m_xa, m_xb, m_xk⟩, ⟨m_ya, m_yb, m_yk⟩⟩ : P2))) (some (rM false m_t m_f (⟨⟨m_xa, m_xb, m_xk⟩, ⟨m_ya, m_yb, m_yk⟩⟩ : P2))) (cond (!(inB n_t 0 7 && valP (⟨⟨n_xa, n_xb, n_xk⟩, ⟨n_ya, n_yb, n_yk⟩⟩ : P2))) (some (rM false m_t m_f (⟨⟨m_xa, m_xb, m_xk⟩, ⟨m_ya, m_yb, m_yk⟩⟩ : P2))) (cond (inB m_t 0 7 && okM n_t (⟨⟨m_xa, m_xb, m_xk⟩, ⟨m_ya, m_yb, m_yk⟩⟩ : P2) (⟨⟨n_xa, n_xb, n_xk⟩, ⟨n_ya, n_yb, n_yk⟩⟩ : P2)) (cond (kB (moveF n_t n_f (⟨⟨n_xa, n_xb, n_xk⟩, ⟨n_ya, n_yb, n_yk⟩⟩ : P2) (⟨⟨m_xa, m_xb, m_xk⟩, ⟨m_ya, m_yb, m_yk⟩⟩ : P2)).x.k && kB (moveF n_t n_f (⟨⟨n_xa, n_xb, n_xk⟩, ⟨n_ya, n_yb, n_yk⟩⟩ : P2) (⟨⟨m_xa, m_xb, m_xk⟩, ⟨m_ya, m_yb, m_yk⟩⟩ : P2)).y.k) (some (rM (valP (redP (moveF n_t n_f (⟨⟨n_xa, n_xb, n_xk⟩, ⟨n_ya, n_yb, n_yk⟩⟩ : P2) (⟨⟨m_xa, m_xb, m_xk⟩, ⟨m_ya, m_yb, m_yk⟩⟩ : P2)))) (cmpT m_t n_t n_f) (m_f != n_f) (redP (moveF n_t n_f (⟨⟨n_xa, n_xb, n_xk⟩, ⟨n_ya, n_yb, n_yk⟩⟩ : P2) (⟨⟨m_xa, m_xb, m_xk⟩, ⟨m_ya, m_yb, m_yk⟩⟩ : P2))))) none) none)) from by kernel_rfl).trans ?_
  cases h1 : inB m_t 0 7 with
  | false => rfl
  | true =>
    cases h2 : valP (⟨⟨m_xa, m_xb, m_xk⟩, ⟨m_ya, m_yb, m_yk⟩⟩ : P2) with
    | false => rfl
    | true =>
      cases h3 : inB n_t 0 7 with
      | false => rfl
      | true =>
        cases h4 : valP (⟨⟨n_xa, n_xb, n_xk⟩, ⟨n_ya, n_yb, n_yk⟩⟩ : P2) with
        | false => rfl
        | true =>
          obtain ⟨_, _, _, k4, k5⟩ := turn_pk (flip_ok (val_ok h2) n_f) (val_ok h4) n_t
          have k6 : okM n_t (⟨⟨m_xa, m_xb, m_xk⟩, ⟨m_ya, m_yb, m_yk⟩⟩ : P2) (⟨⟨n_xa, n_xb, n_xk⟩, ⟨n_ya, n_yb, n_yk⟩⟩ : P2) = true := by unfold okM; rw [h3, val_ok h2, val_ok h4]; rfl
          have k7 : (kB (moveF n_t n_f (⟨⟨n_xa, n_xb, n_xk⟩, ⟨n_ya, n_yb, n_yk⟩⟩ : P2) (⟨⟨m_xa, m_xb, m_xk⟩, ⟨m_ya, m_yb, m_yk⟩⟩ : P2)).x.k && kB (moveF n_t n_f (⟨⟨n_xa, n_xb, n_xk⟩, ⟨n_ya, n_yb, n_yk⟩⟩ : P2) (⟨⟨m_xa, m_xb, m_xk⟩, ⟨m_ya, m_yb, m_yk⟩⟩ : P2)).y.k) = true := by unfold moveF; rw [k4, k5]; rfl
          rw [k6, k7]
          rfl
theorem m41 : Meets Try.prog GL0 41 s41 := by
  refine meetsN mix0 gl0 G71 Try.func41 (by kernel_rfl) (by kernel_rfl) s41 fun args x h => ?_
  unfold s41 at h
  split at h
  · rename_i m_t m_f m_xa m_xb m_xk m_ya m_yb m_yk n_t n_f n_xa n_xb n_xk n_ya n_yb n_yk
    simp only [Option.some.injEq, Prod.mk.injEq] at h
    obtain ⟨hp, rfl⟩ := h
    exact ⟨_, _, by kernel_rfl, e41 m_t m_f m_xa m_xb m_xk m_ya m_yb m_yk n_t n_f n_xa n_xb n_xk n_ya n_yb n_yk⟩
  · cases h
abbrev Γ72 : List (Nat × Ctr) := (41, s41) :: Γ71
theorem G72 : Sound Try.prog GL0 Γ72 := G71.cons m41

-- laws.FnExactCompose
def s13 : Ctr := fun
  | [.agg [.val (.int .i64 m_t), .val (.bool m_f), .val (.int .i64 m_xa), .val (.int .i64 m_xb), .val (.int .i64 m_xk), .val (.int .i64 m_ya), .val (.int .i64 m_yb), .val (.int .i64 m_yk)], .agg [.val (.int .i64 n_t), .val (.bool n_f), .val (.int .i64 n_xa), .val (.int .i64 n_xb), .val (.int .i64 n_xk), .val (.int .i64 n_ya), .val (.int .i64 n_yb), .val (.int .i64 n_yk)]] => some (true, bv true)
  | _ => none

theorem e13 (m_t : Int) (m_f : Bool) (m_xa : Int) (m_xb : Int) (m_xk : Int) (m_ya : Int) (m_yb : Int) (m_yk : Int) (n_t : Int) (n_f : Bool) (n_xa : Int) (n_xb : Int) (n_xk : Int) (n_ya : Int) (n_yb : Int) (n_yk : Int) : evN Try.prog GL0 Γ72 (0) [] Try.f13 [.agg [.val (.int .i64 m_t), .val (.bool m_f), .val (.int .i64 m_xa), .val (.int .i64 m_xb), .val (.int .i64 m_xk), .val (.int .i64 m_ya), .val (.int .i64 m_yb), .val (.int .i64 m_yk)], .agg [.val (.int .i64 n_t), .val (.bool n_f), .val (.int .i64 n_xa), .val (.int .i64 n_xb), .val (.int .i64 n_xk), .val (.int .i64 n_ya), .val (.int .i64 n_yb), .val (.int .i64 n_yk)]] = some (bv true) := by
  refine (show _ = cond (!eqM (bif inB m_t 0 7 && valP (P2.mk (N3.mk m_xa m_xb m_xk) (N3.mk m_ya m_yb m_yk)) && (inB n_t 0 7 && valP (P2.mk (N3.mk n_xa n_xb n_xk) (N3.mk n_ya n_yb n_yk))) && valP (redP (moveF n_t n_f (P2.mk (N3.mk n_xa n_xb n_xk) (N3.mk n_ya n_yb n_yk)) (P2.mk (N3.mk m_xa m_xb m_xk) (N3.mk m_ya m_yb m_yk)))) then cmpT m_t n_t n_f else 0) (bif inB m_t 0 7 && valP (P2.mk (N3.mk m_xa m_xb m_xk) (N3.mk m_ya m_yb m_yk)) && (inB n_t 0 7 && valP (P2.mk (N3.mk n_xa n_xb n_xk) (N3.mk n_ya n_yb n_yk))) && valP (redP (moveF n_t n_f (P2.mk (N3.mk n_xa n_xb n_xk) (N3.mk n_ya n_yb n_yk)) (P2.mk (N3.mk m_xa m_xb m_xk) (N3.mk m_ya m_yb m_yk)))) then cmpT m_t n_t n_f else 0) (bif inB m_t 0 7 && valP (P2.mk (N3.mk m_xa m_xb m_xk) (N3.mk m_ya m_yb m_yk)) && (inB n_t 0 7 && valP (P2.mk (N3.mk n_xa n_xb n_xk) (N3.mk n_ya n_yb n_yk))) && valP (redP (moveF n_t n_f (P2.mk (N3.mk n_xa n_xb n_xk) (N3.mk n_ya n_yb n_yk)) (P2.mk (N3.mk m_xa m_xb m_xk) (N3.mk m_ya m_yb m_yk)))) then m_f != n_f else false) (bif inB m_t 0 7 && valP (P2.mk (N3.mk m_xa m_xb m_xk) (N3.mk m_ya m_yb m_yk)) && (inB n_t 0 7 && valP (P2.mk (N3.mk n_xa n_xb n_xk) (N3.mk n_ya n_yb n_yk))) && valP (redP (moveF n_t n_f (P2.mk (N3.mk n_xa n_xb n_xk) (N3.mk n_ya n_yb n_yk)) (P2.mk (N3.mk m_xa m_xb m_xk) (N3.mk m_ya m_yb m_yk)))) then m_f != n_f else false) (P2.mk (N3.mk (bif inB m_t 0 7 && valP (P2.mk (N3.mk m_xa m_xb m_xk) (N3.mk m_ya m_yb m_yk)) && (inB n_t 0 7 && valP (P2.mk (N3.mk n_xa n_xb n_xk) (N3.mk n_ya n_yb n_yk))) && valP (redP (moveF n_t n_f (P2.mk (N3.mk n_xa n_xb n_xk) (N3.mk n_ya n_yb n_yk)) (P2.mk (N3.mk m_xa m_xb m_xk) (N3.mk m_ya m_yb m_yk)))) then (red (addF (turnF n_t (flipP n_f (P2.mk (N3.mk m_xa m_xb m_xk) (N3.mk m_ya m_yb m_yk)))).1 (N3.mk n_xa n_xb n_xk))).1 else 0) (bif inB m_t 0 7 && valP (P2.mk (N3.mk m_xa m_xb m_xk) (N3.mk m_ya m_yb m_yk)) && (inB n_t 0 7 && valP (P2.mk (N3.mk n_xa n_xb n_xk) (N3.mk n_ya n_yb n_yk))) && valP (redP (moveF n_t n_f (P2.mk (N3.mk n_xa n_xb n_xk) (N3.mk n_ya n_yb n_yk)) (P2.mk (N3.mk m_xa m_xb m_xk) (N3.mk m_ya m_yb m_yk)))) then (red (addF (turnF n_t (flipP n_f (P2.mk (N3.mk m_xa m_xb m_xk) (N3.mk m_ya m_yb m_yk)))).1 (N3.mk n_xa n_xb n_xk))).2 else 0) (bif inB m_t 0 7 && valP (P2.mk (N3.mk m_xa m_xb m_xk) (N3.mk m_ya m_yb m_yk)) && (inB n_t 0 7 && valP (P2.mk (N3.mk n_xa n_xb n_xk) (N3.mk n_ya n_yb n_yk))) && valP (redP (moveF n_t n_f (P2.mk (N3.mk n_xa n_xb n_xk) (N3.mk n_ya n_yb n_yk)) (P2.mk (N3.mk m_xa m_xb m_xk) (N3.mk m_ya m_yb m_yk)))) then (red (addF (turnF n_t (flipP n_f (P2.mk (N3.mk m_xa m_xb m_xk) (N3.mk m_ya m_yb m_yk)))).1 (N3.mk n_xa n_xb n_xk))).3 else 0)) (N3.mk (bif inB m_t 0 7 && valP (P2.mk (N3.mk m_xa m_xb m_xk) (N3.mk m_ya m_yb m_yk)) && (inB n_t 0 7 && valP (P2.mk (N3.mk n_xa n_xb n_xk) (N3.mk n_ya n_yb n_yk))) && valP (redP (moveF n_t n_f (P2.mk (N3.mk n_xa n_xb n_xk) (N3.mk n_ya n_yb n_yk)) (P2.mk (N3.mk m_xa m_xb m_xk) (N3.mk m_ya m_yb m_yk)))) then (red (addF (turnF n_t (flipP n_f (P2.mk (N3.mk m_xa m_xb m_xk) (N3.mk m_ya m_yb m_yk)))).2 (N3.mk n_ya n_yb n_yk))).1 else 0) (bif inB m_t 0 7 && valP (P2.mk (N3.mk m_xa m_xb m_xk) (N3.mk m_ya m_yb m_yk)) && (inB n_t 0 7 && valP (P2.mk (N3.mk n_xa n_xb n_xk) (N3.mk n_ya n_yb n_yk))) && valP (redP (moveF n_t n_f (P2.mk (N3.mk n_xa n_xb n_xk) (N3.mk n_ya n_yb n_yk)) (P2.mk (N3.mk m_xa m_xb m_xk) (N3.mk m_ya m_yb m_yk)))) then (red (addF (turnF n_t (flipP n_f (P2.mk (N3.mk m_xa m_xb m_xk) (N3.mk m_ya m_yb m_yk)))).2 (N3.mk n_ya n_yb n_yk))).2 else 0) (bif inB m_t 0 7 && valP (P2.mk (N3.mk m_xa m_xb m_xk) (N3.mk m_ya m_yb m_yk)) && (inB n_t 0 7 && valP (P2.mk (N3.mk n_xa n_xb n_xk) (N3.mk n_ya n_yb n_yk))) && valP (redP (moveF n_t n_f (P2.mk (N3.mk n_xa n_xb n_xk) (N3.mk n_ya n_yb n_yk)) (P2.mk (N3.mk m_xa m_xb m_xk) (N3.mk m_ya m_yb m_yk)))) then (red (addF (turnF n_t (flipP n_f (P2.mk (N3.mk m_xa m_xb m_xk) (N3.mk m_ya m_yb m_yk)))).2 (N3.mk n_ya n_yb n_yk))).3 else 0))) (P2.mk (N3.mk (bif inB m_t 0 7 && valP (P2.mk (N3.mk m_xa m_xb m_xk) (N3.mk m_ya m_yb m_yk)) && (inB n_t 0 7 && valP (P2.mk (N3.mk n_xa n_xb n_xk) (N3.mk n_ya n_yb n_yk))) && valP (redP (moveF n_t n_f (P2.mk (N3.mk n_xa n_xb n_xk) (N3.mk n_ya n_yb n_yk)) (P2.mk (N3.mk m_xa m_xb m_xk) (N3.mk m_ya m_yb m_yk)))) then (red (addF (turnF n_t (flipP n_f (P2.mk (N3.mk m_xa m_xb m_xk) (N3.mk m_ya m_yb m_yk)))).1 (N3.mk n_xa n_xb n_xk))).1 else 0) (bif inB m_t 0 7 && valP (P2.mk (N3.mk m_xa m_xb m_xk) (N3.mk m_ya m_yb m_yk)) && (inB n_t 0 7 && valP (P2.mk (N3.mk n_xa n_xb n_xk) (N3.mk n_ya n_yb n_yk))) && valP (redP (moveF n_t n_f (P2.mk (N3.mk n_xa n_xb n_xk) (N3.mk n_ya n_yb n_yk)) (P2.mk (N3.mk m_xa m_xb m_xk) (N3.mk m_ya m_yb m_yk)))) then (red (addF (turnF n_t (flipP n_f (P2.mk (N3.mk m_xa m_xb m_xk) (N3.mk m_ya m_yb m_yk)))).1 (N3.mk n_xa n_xb n_xk))).2 else 0) (bif inB m_t 0 7 && valP (P2.mk (N3.mk m_xa m_xb m_xk) (N3.mk m_ya m_yb m_yk)) && (inB n_t 0 7 && valP (P2.mk (N3.mk n_xa n_xb n_xk) (N3.mk n_ya n_yb n_yk))) && valP (redP (moveF n_t n_f (P2.mk (N3.mk n_xa n_xb n_xk) (N3.mk n_ya n_yb n_yk)) (P2.mk (N3.mk m_xa m_xb m_xk) (N3.mk m_ya m_yb m_yk)))) then (red (addF (turnF n_t (flipP n_f (P2.mk (N3.mk m_xa m_xb m_xk) (N3.mk m_ya m_yb m_yk)))).1 (N3.mk n_xa n_xb n_xk))).3 else 0)) (N3.mk (bif inB m_t 0 7 && valP (P2.mk (N3.mk m_xa m_xb m_xk) (N3.mk m_ya m_yb m_yk)) && (inB n_t 0 7 && valP (P2.mk (N3.mk n_xa n_xb n_xk) (N3.mk n_ya n_yb n_yk))) && valP (redP (moveF n_t n_f (P2.mk (N3.mk n_xa n_xb n_xk) (N3.mk n_ya n_yb n_yk)) (P2.mk (N3.mk m_xa m_xb m_xk) (N3.mk m_ya m_yb m_yk)))) then (red (addF (turnF n_t (flipP n_f (P2.mk (N3.mk m_xa m_xb m_xk) (N3.mk m_ya m_yb m_yk)))).2 (N3.mk n_ya n_yb n_yk))).1 else 0) (bif inB m_t 0 7 && valP (P2.mk (N3.mk m_xa m_xb m_xk) (N3.mk m_ya m_yb m_yk)) && (inB n_t 0 7 && valP (P2.mk (N3.mk n_xa n_xb n_xk) (N3.mk n_ya n_yb n_yk))) && valP (redP (moveF n_t n_f (P2.mk (N3.mk n_xa n_xb n_xk) (N3.mk n_ya n_yb n_yk)) (P2.mk (N3.mk m_xa m_xb m_xk) (N3.mk m_ya m_yb m_yk)))) then (red (addF (turnF n_t (flipP n_f (P2.mk (N3.mk m_xa m_xb m_xk) (N3.mk m_ya m_yb m_yk)))).2 (N3.mk n_ya n_yb n_yk))).2 else 0) (bif inB m_t 0 7 && valP (P2.mk (N3.mk m_xa m_xb m_xk) (N3.mk m_ya m_yb m_yk)) && (inB n_t 0 7 && valP (P2.mk (N3.mk n_xa n_xb n_xk) (N3.mk n_ya n_yb n_yk))) && valP (redP (moveF n_t n_f (P2.mk (N3.mk n_xa n_xb n_xk) (N3.mk n_ya n_yb n_yk)) (P2.mk (N3.mk m_xa m_xb m_xk) (N3.mk m_ya m_yb m_yk)))) then (red (addF (turnF n_t (flipP n_f (P2.mk (N3.mk m_xa m_xb m_xk) (N3.mk m_ya m_yb m_yk)))).2 (N3.mk n_ya n_yb n_yk))).3 else 0)))) ( some (bv (false)) ) ( cond (!(inB m_t 0 7 && valP (P2.mk (N3.mk m_xa m_xb m_xk) (N3.mk m_ya m_yb m_yk)) && (inB n_t 0 7 && valP (P2.mk (N3.mk n_xa n_xb n_xk) (N3.mk n_ya n_yb n_yk))) && valP (redP (moveF n_t n_f (P2.mk (N3.mk n_xa n_xb n_xk) (N3.mk n_ya n_yb n_yk)) (P2.mk (N3.mk m_xa m_xb m_xk) (N3.mk m_ya m_yb m_yk))))) == (inB m_t 0 7 && valP (P2.mk (N3.mk m_xa m_xb m_xk) (N3.mk m_ya m_yb m_yk)) && (inB n_t 0 7 && valP (P2.mk (N3.mk n_xa n_xb n_xk) (N3.mk n_ya n_yb n_yk))) && valP (redP (moveF n_t n_f (P2.mk (N3.mk n_xa n_xb n_xk) (N3.mk n_ya n_yb n_yk)) (P2.mk (N3.mk m_xa m_xb m_xk) (N3.mk m_ya m_yb m_yk)))))) ( some (bv (false)) ) ( some (bv (true)) ) ) from by kernel_rfl).trans ?_
  simp only [eqM_self, bne_self_eq_false, beq_self_eq_true, cond_true, cond_false, Bool.not_true]
theorem m13 : Meets Try.prog GL0 13 s13 := by
  refine meetsN mix0 gl0 G72 Try.func13 (by kernel_rfl) (by kernel_rfl) s13 fun args x h => ?_
  unfold s13 at h
  split at h
  · rename_i m_t m_f m_xa m_xb m_xk m_ya m_yb m_yk n_t n_f n_xa n_xb n_xk n_ya n_yb n_yk
    simp only [Option.some.injEq, Prod.mk.injEq] at h
    obtain ⟨hp, rfl⟩ := h
    exact ⟨_, _, by kernel_rfl, e13 m_t m_f m_xa m_xb m_xk m_ya m_yb m_yk n_t n_f n_xa n_xb n_xk n_ya n_yb n_yk⟩
  · cases h
abbrev Γ73 : List (Nat × Ctr) := (13, s13) :: Γ72
theorem G73 : Sound Try.prog GL0 Γ73 := G72.cons m13

end Go.Proofs.Ytgcmdnfchhkckaa
