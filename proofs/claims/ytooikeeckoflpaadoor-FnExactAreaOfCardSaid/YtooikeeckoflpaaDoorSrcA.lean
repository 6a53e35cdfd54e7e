/- The reference's source of choices: bytes, a place, a seed; what its readers give. -/
import Derived.Test.YtooikeeckoflpaaDoorSgnA
set_option linter.unusedVariables false
set_option linter.unusedSimpArgs false
namespace Go.Ev

structure Src where
  n : Nat
  c : Nat → Nat → Int
  p : Int
  z : Int
def u64w (x : Int) : Int := IntKind.u64.wrap x
def Src.cells (s : Src) : List AV := [.arr s.n [.int .u8] s.c, .val (.int .i64 s.p), .val (.int .u64 s.z)]
def outS (x : AV) (s : Src) : AV := .out x [.agg s.cells]
def nxZ (z b : Int) : Int := u64w (u64w (u64w (z * 6364136223846793005) + u64w b) + 1442695040888963407)
def nxB (s : Src) : Int := cond (decide (s.p < s.n)) (wr (s.c s.p.toNat 0 % 256)) 0
def hiZ (z : Int) : Int := wr (u64w ↑(BitVec.ofInt 64 (z.fdiv (2 ^ min (Int.toNat 40) 64)) &&& BitVec.ofInt 64 255).toNat)
def nxt (s : Src) : Int × Src :=
  (cond (decide (wr (s.p + 1) ≤ s.n)) (nxB s) (hiZ (nxZ s.z (nxB s))), ⟨s.n, s.c, wr (s.p + 1), nxZ s.z (nxB s)⟩)
/-- One step with the byte known. -/
def stp (b : Int) (s : Src) : Option AV :=
  cond (decide (wr (s.p + 1) ≤ s.n)) (some (outS (iv b) ⟨s.n, s.c, wr (s.p + 1), nxZ s.z b⟩)) (some (outS (iv (hiZ (nxZ s.z b))) ⟨s.n, s.c, wr (s.p + 1), nxZ s.z b⟩))
def pickV (m : Int) (s : Src) : Int × Src :=
  cond (decide (m ≤ 1)) (0, s) (cond (decide (m > 200)) ((wr (wr ((nxt s).1 * 256) + (nxt (nxt s).2).1)).tmod m, (nxt (nxt s).2).2) ((nxt s).1.tmod m, (nxt s).2))
/-- 'The place is 0 or more, and far from the end of the numbers': by so much. -/
def pB (k p : Int) : Bool := decide (0 ≤ p) && decide (p ≤ 4611686018427387904 - k)
theorem pB_iff {k p : Int} : pB k p = true ↔ 0 ≤ p ∧ p ≤ 4611686018427387904 - k := by simp [pB]
theorem nxt_p {s : Src} {k : Int} (h : pB k s.p = true) (hk : 1 ≤ k) : (nxt s).2.p = s.p + 1 ∧ pB (k - 1) (nxt s).2.p = true := by
  have h' := pB_iff.1 h
  have e : (nxt s).2.p = s.p + 1 := wr_in (by omega) (by omega)
  exact ⟨e, pB_iff.2 (by omega)⟩
theorem nxt_in {s : Src} : 0 ≤ (nxt s).1 ∧ (nxt s).1 < 256 := by
  have hb : 0 ≤ nxB s ∧ nxB s < 256 := by
    unfold nxB
    cases decide (s.p < s.n) with
    | false => exact ⟨Int.le_refl _, by show (0 : Int) < 256; decide⟩
    | true =>
      have h1 := Int.emod_nonneg (s.c s.p.toNat 0) (show (256 : Int) ≠ 0 by decide)
      have h2 := Int.emod_lt_of_pos (s.c s.p.toNat 0) (show (0 : Int) < 256 by decide)
      simp only [cond_true]
      rw [wr_in (by omega) (by omega)]
      exact ⟨h1, h2⟩
  have hh : ∀ z, 0 ≤ hiZ z ∧ hiZ z < 256 := fun z => by
    unfold hiZ
    have : (BitVec.ofInt 64 (z.fdiv (2 ^ min (Int.toNat 40) 64)) &&& BitVec.ofInt 64 255).toNat ≤ 255 := by
      rw [BitVec.toNat_and]
      exact Nat.and_le_right
    generalize (BitVec.ofInt 64 (z.fdiv (2 ^ min (Int.toNat 40) 64)) &&& BitVec.ofInt 64 255).toNat = m at this
    have e : u64w (m : Int) = m := by
      show IntKind.u64.wrap (m : Int) = m
      simp only [IntKind.wrap, IntKind.bits, IntKind.signed]
      simp
      omega
    rw [e, wr_in (by omega) (by omega)]
    omega
  unfold nxt
  cases decide (wr (s.p + 1) ≤ s.n) with
  | false => exact hh _
  | true => exact hb
theorem pick_p {s : Src} {k m : Int} (h : pB k s.p = true) (hk : 2 ≤ k) : pB (k - 2) (pickV m s).2.p = true := by
  have h' := pB_iff.1 h
  obtain ⟨a1, a2⟩ := nxt_p h (by omega)
  obtain ⟨b1, b2⟩ := nxt_p a2 (by omega)
  unfold pickV
  cases decide (m ≤ 1) with
  | true => exact pB_iff.2 (by simp only [cond_true]; omega)
  | false =>
    cases decide (m > 200) with
    | true => exact pB_iff.2 (by have := pB_iff.1 b2; simp only [cond_true, cond_false]; omega)
    | false => exact pB_iff.2 (by have := pB_iff.1 a2; simp only [cond_false]; omega)
theorem pick_in {s : Src} {m : Int} (hm : 1 ≤ m) : 0 ≤ (pickV m s).1 ∧ (pickV m s).1 < m := by
  have h1 := @nxt_in s
  have h2 := @nxt_in (nxt s).2
  unfold pickV
  cases e : decide (m ≤ 1) with
  | true => simp only [cond_true]; omega
  | false =>
    cases decide (m > 200) with
    | true =>
      simp only [cond_true, cond_false]
      rw [wr_in (n := (nxt s).1 * 256) (by omega) (by omega), wr_in (by omega) (by omega)]
      exact ⟨Int.tmod_nonneg _ (by omega), Int.tmod_lt_of_pos _ (by omega)⟩
    | false =>
      simp only [cond_false]
      exact ⟨Int.tmod_nonneg _ (by omega), Int.tmod_lt_of_pos _ (by omega)⟩
theorem pB_less {k l p : Int} (h : pB k p = true) (hl : l ≤ k) : pB l p = true := by
  have := pB_iff.1 h
  exact pB_iff.2 (by omega)
end Go.Ev
