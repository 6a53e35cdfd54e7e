/- Motions: composition and inverse. -/
import Derived.Test.YtooikeeckoflpaaDoorNumB
set_option linter.unusedVariables false
set_option linter.unusedSimpArgs false
namespace Go.Ev

theorem and64_7 (x : Int) : and64 x 7 = x % 8 := by
  unfold and64
  have e : (BitVec.ofInt IntKind.i64.bits x &&& BitVec.ofInt IntKind.i64.bits 7).toNat = (BitVec.ofInt 64 x).toNat % 8 := by
    rw [BitVec.toNat_and]
    show (BitVec.ofInt 64 x).toNat &&& 7 = _
    exact Nat.and_two_pow_sub_one_eq_mod _ 3
  rw [e]
  have h2 : (((BitVec.ofInt 64 x).toNat % 8 : Nat) : Int) = x % 8 := by
    rw [BitVec.toNat_ofInt]
    have : (0 : Int) ≤ x % ((2 ^ 64 : Nat) : Int) := Int.emod_nonneg _ (by decide)
    omega
  rw [h2]
  exact wr_in (by omega) (by omega)
def mav (t : Int) (f : Bool) (s : P2) : AV := .agg [.val (.int .i64 t), .val (.bool f), .val (.int .i64 s.x.a), .val (.int .i64 s.x.b), .val (.int .i64 s.x.k), .val (.int .i64 s.y.a), .val (.int .i64 s.y.b), .val (.int .i64 s.y.k)]
def rM (c : Bool) (t : Int) (f : Bool) (s : P2) : AV := .tup [mav (cond c t 0) (cond c f false) (selP c s), bv c]
def invT (t : Int) (f : Bool) : Int := cond f t ((8 - t) % 8)
def cmpT (t u : Int) (f : Bool) : Int := cond f ((u - t) % 8) ((u + t) % 8)
def negP (p : P2) : P2 := ⟨negF p.x, negF p.y⟩
def invP (t : Int) (f : Bool) (s : P2) : P2 := negP (turnF (invT t f) (flipP f s))
def eqM (t u : Int) (f g : Bool) (p q : P2) : Bool := cond (t != u) false (cond (f != g) false (eqP p q))
theorem eqM_self (t : Int) (f : Bool) (p : P2) : eqM t t f f p p = true := by simp [eqM, eqP_self]
theorem invT_in {t : Int} (h : inB t 0 7 = true) (f : Bool) : inB (invT t f) 0 7 = true := by
  rw [inB_iff] at *
  cases f <;> simp only [invT, cond_true, cond_false] <;> omega
theorem inv_impl {t : Int} (h : inB t 0 7 = true) : and64 (wr (0 - t)) 7 = (8 - t) % 8 := by
  rw [inB_iff] at h
  rw [and64_7, wr_in (by omega) (by omega)]
  omega
theorem inv_spec {t : Int} (h : inB t 0 7 = true) : (wr (8 - t)).tmod 8 = (8 - t) % 8 := by
  rw [inB_iff] at h
  rw [wr_in (by omega) (by omega)]
  exact Int.tmod_eq_emod_of_nonneg (by omega)
theorem cmp_impl {t u : Int} (h : inB t 0 7 = true) (h' : inB u 0 7 = true) : and64 (wr (wr (0 - t) + u)) 7 = (u - t) % 8 ∧ and64 (wr (t + u)) 7 = (u + t) % 8 := by
  rw [inB_iff] at *
  rw [and64_7, and64_7, wr_in (n := 0 - t) (by omega) (by omega), wr_in (n := 0 - t + u) (by omega) (by omega), wr_in (by omega) (by omega)]
  omega
theorem cmp_spec {t u : Int} (h : inB t 0 7 = true) (h' : inB u 0 7 = true) : (wr (wr (u - t) + 8)).tmod 8 = (u - t) % 8 ∧ (wr (wr (u + t) + 8)).tmod 8 = (u + t) % 8 := by
  rw [inB_iff] at *
  rw [wr_in (n := u - t) (by omega) (by omega), wr_in (n := u + t) (by omega) (by omega), wr_in (by omega) (by omega), wr_in (by omega) (by omega),
    Int.tmod_eq_emod_of_nonneg (by omega), Int.tmod_eq_emod_of_nonneg (by omega)]
  omega
theorem invP_k {t : Int} {f : Bool} {s : P2} (h : okP s = true) : kB (invP t f s).x.k = true ∧ kB (invP t f s).y.k = true := by
  have := turn_k (flip_ok h f) (invT t f)
  exact ⟨kB_iff.2 (by show _ ≤ (turnF (invT t f) (flipP f s)).x.k ∧ (turnF (invT t f) (flipP f s)).x.k ≤ _; omega), kB_iff.2 (by show _ ≤ (turnF (invT t f) (flipP f s)).y.k ∧ (turnF (invT t f) (flipP f s)).y.k ≤ _; omega)⟩
end Go.Ev
