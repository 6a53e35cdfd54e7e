/- Numbers, points and lists in plain Lean. -/
import Derived.Test.YtlcopddgplbdhaaGreatDoorEw
import Derived.Carry
import Derived.ChangeArms
import Derived.ChangeSlices
set_option linter.unusedVariables false
set_option linter.unusedSimpArgs false
/- Numbers (A + B r) / 2^K as the program and the reference compute them, with Go's wrap: one function for each of theirs. -/
namespace Go.Ev
theorem sm_inj {α β : Type} {a c : α} {b d : β} (h : some (a, b) = some (c, d)) : a = c /\ b = d := by
 cases h
 exact ⟨rfl, rfl⟩
def wr (n : Int) : Int := IntKind.i64.wrap n
structure N3 where
 a : Int
 b : Int
 k : Int
def N3.av (x : N3) : AV := .agg [.val (.int .i64 x.a), .val (.int .i64 x.b), .val (.int .i64 x.k)]
def z3 : N3 := ⟨0, 0, 0⟩
def bv (b : Bool) : AV := .val (.bool b)
@[match_pattern] def iv (n : Int) : AV := .val (.int .i64 n)
def stL (n : Nat) (l : List AV) : List AV := l ++ List.replicate (n - l.length) .non
def sel (c : Bool) (x : N3) : N3 := ⟨cond c x.a 0, cond c x.b 0, cond c x.k 0⟩
def inB (x lo hi : Int) : Bool := decide (x >= lo) && decide (x <= hi)
def and64 (x y : Int) : Int := IntKind.i64.wrap (BitVec.ofInt IntKind.i64.bits x &&& BitVec.ofInt IntKind.i64.bits y).toNat
def odd (x : Int) : Bool := decide (x % 2 = 1)
def validB (x : N3) : Bool := inB x.a (-131072) 131072 && (inB x.b (-131072) 131072 && (inB x.k 0 10 && (x.k == 0 || (odd x.a || odd x.b))))
def redF : Nat -> Int -> Int -> Int -> N3
 | 0, a, b, k => ⟨a, b, k⟩
 | n + 1, a, b, k => if k > 0 /\ odd a = false /\ odd b = false then
   redF n (wr (a.tdiv 2)) (wr (b.tdiv 2)) (if wr (a.tdiv 2) = 0 /\ wr (b.tdiv 2) = 0 then 0 else wr (k - 1))
  else ⟨a, b, k⟩
def red (x : N3) : N3 := redF (x.k.toNat + 1) x.a x.b x.k
def lowF : Nat -> Int -> Int -> Int -> N3
 | 0, a, b, k => ⟨a, b, k⟩
 | n + 1, a, b, k => if k > 0 /\ odd a = false /\ odd b = false then lowF n (wr (a.tdiv 2)) (wr (b.tdiv 2)) (wr (k - 1)) else ⟨a, b, k⟩
def low (x : N3) : N3 := if x.a = 0 /\ x.b = 0 then z3 else lowF (x.k.toNat + 1) x.a x.b x.k
def chkB (x : N3) : Bool := validB (red x)
def chk (x : N3) : N3 := sel (chkB x) (red x)
def kB (k : Int) : Bool := decide (0 <= k) && decide (k <= 1152921504606846976)
def pk (x y : N3) : Bool := kB x.k && kB y.k
def pkm (x y : N3) : Bool := decide (0 <= x.k) && (decide (0 <= y.k) && decide (x.k + y.k <= 1152921504606846976))
def mulR (x y : N3) : N3 := ⟨wr (wr (x.a * y.a) + wr (wr (2 * x.b) * y.b)), wr (wr (x.a * y.b) + wr (x.b * y.a)), wr (x.k + y.k)⟩
def mulF (x y : N3) : N3 := red (mulR x y)
def negF (x : N3) : N3 := ⟨wr (0 - x.a), wr (0 - x.b), x.k⟩
def gmax (x y : Int) : Int := if y > x then y else x
def shF (x d : Int) : Int := wr (x * 2 ^ min d.toNat 64)
def addR (x y : N3) : N3 := ⟨wr (shF x.a (wr (gmax x.k y.k - x.k)) + shF y.a (wr (gmax x.k y.k - y.k))), wr (shF x.b (wr (gmax x.k y.k - x.k)) + shF y.b (wr (gmax x.k y.k - y.k))), gmax x.k y.k⟩
def addF (x y : N3) : N3 := red (addR x y)
def subF (x y : N3) : N3 := addF x (negF y)
def halfF (x : N3) : N3 := red ⟨x.a, x.b, wr (x.k + 1)⟩
theorem wr_eq (n : Int) : wr n = if n % 18446744073709551616 >= 9223372036854775808 then n % 18446744073709551616 - 18446744073709551616 else n % 18446744073709551616 := by
 have : wr n = if (true && decide (n % 18446744073709551616 >= 9223372036854775808)) = true then n % 18446744073709551616 - 18446744073709551616 else n % 18446744073709551616 := rfl
 rw [this]
 simp
theorem wr_in {n : Int} (h : -9223372036854775808 <= n) (h' : n < 9223372036854775808) : wr n = n := by
 rw [wr_eq]
 split <;> omega
theorem wr_add (n : Int) : ∃ q : Int, wr n = n + 18446744073709551616 * q := by
 refine ⟨-((n + 9223372036854775808) / 18446744073709551616), ?_⟩
 rw [wr_eq]
 split <;> omega
theorem wr_congr {n m : Int} (h : ∃ q : Int, n = m + 18446744073709551616 * q) : wr n = wr m := by
 obtain ⟨q, rfl⟩ := h
 rw [wr_eq, wr_eq]
 have : (m + 18446744073709551616 * q) % 18446744073709551616 = m % 18446744073709551616 := by omega
 rw [this]
def dblI : Nat -> Int -> Int
 | 0, a => a
 | n + 1, a => dblI n (wr (a * 2))
theorem dblI_spec : ∀ (d : Nat) (a : Int), ∃ q : Int, dblI d a = a * 2 ^ d + 18446744073709551616 * q
 | 0, a => ⟨0, by simp [dblI]⟩
 | d + 1, a => by
  obtain ⟨q, hq⟩ := dblI_spec d (wr (a * 2))
  obtain ⟨p, hp⟩ := wr_add (a * 2)
  refine ⟨p * 2 ^ d + q, ?_⟩
  simp only [dblI]
  rw [hq, hp, Int.add_mul, Int.pow_succ]
  grind
theorem shF_spec (a : Int) (d : Nat) : ∃ q : Int, shF a d = a * 2 ^ d + 18446744073709551616 * q := by
 unfold shF
 obtain ⟨p, hp⟩ := wr_add (a * 2 ^ min ((d : Int).toNat) 64)
 rw [hp]
 simp only [Int.toNat_natCast]
 by_cases h : d <= 64
 ·rw [Nat.min_eq_left h]; exact ⟨p, rfl⟩
 ·rw [Nat.min_eq_right (by omega)]
  obtain ⟨e, rfl⟩ : ∃ e, d = e + 64 := ⟨d - 64, by omega⟩
  refine ⟨a + p - a * 2 ^ e, ?_⟩
  rw [Int.pow_add]
  have : (2 : Int) ^ 64 = 18446744073709551616 := by decide
  rw [this]
  grind
theorem shF_dbl (a c : Int) (d e : Nat) : wr (dblI d a + dblI e c) = wr (shF a d + shF c e) := by
 apply wr_congr
 obtain ⟨q1, h1⟩ := dblI_spec d a
 obtain ⟨q2, h2⟩ := dblI_spec e c
 obtain ⟨q3, h3⟩ := shF_spec a d
 obtain ⟨q4, h4⟩ := shF_spec c e
 exact ⟨q1 + q2 - q3 - q4, by rw [h1, h2, h3, h4]; omega⟩
theorem kB_iff {k : Int} : kB k = true ↔ 0 <= k /\ k <= 1152921504606846976 := by simp [kB]
theorem redF_succ (n : Nat) (a b k : Int) : redF (n + 1) a b k = if k > 0 /\ odd a = false /\ odd b = false then
      redF n (wr (a.tdiv 2)) (wr (b.tdiv 2)) (if wr (a.tdiv 2) = 0 /\ wr (b.tdiv 2) = 0 then 0 else wr (k - 1)) else ⟨a, b, k⟩ := rfl
theorem redF_zero : ∀ (m : Nat) (k : Int), k.toNat <= m -> redF (m + 1) 0 0 k = ⟨0, 0, if k > 0 then 0 else k⟩
 | 0, k, h => by
  have : ¬ k > 0 := by omega
  simp [redF, this]
 | m + 1, k, h => by
  unfold redF
  by_cases hk : k > 0
  ·rw [if_pos ⟨hk, rfl, rfl⟩]
   have e : wr (Int.tdiv 0 2) = 0 := rfl
   rw [e, if_pos ⟨rfl, rfl⟩, redF_zero m 0 (by omega)]
   simp [hk]
  ·rw [if_neg (fun h => hk h.1)]
   simp [hk]
theorem and64_one (x : Int) : and64 x 1 = x % 2 := by
 unfold and64
 have e : (BitVec.ofInt IntKind.i64.bits x &&& BitVec.ofInt IntKind.i64.bits 1).toNat = (BitVec.ofInt 64 x).toNat % 2 := by
  rw [BitVec.toNat_and]
  show (BitVec.ofInt 64 x).toNat &&& 1 = _
  exact Nat.and_one_is_mod _
 rw [e]
 have h2 : (((BitVec.ofInt 64 x).toNat % 2 : Nat) : Int) = x % 2 := by
  rw [BitVec.toNat_ofInt]
  have : (0 : Int) <= x % ((2 ^ 64 : Nat) : Int) := Int.emod_nonneg _ (by decide)
  omega
 rw [h2]
 exact wr_in (by omega) (by omega)
theorem and_eq (x : Int) (c : Int) : (IntKind.i64.wrap ((BitVec.ofInt 64 x &&& BitVec.ofInt 64 1).toNat : Int) == c) = decide (x % 2 = c) := by
 have : IntKind.i64.wrap ((BitVec.ofInt 64 x &&& BitVec.ofInt 64 1).toNat : Int) = x % 2 := and64_one x
 rw [this]
 rfl
theorem odd_zero (x : Int) : decide (x % 2 = 0) = !odd x := by
 unfold odd
 by_cases h : x % 2 = 1
 ·simp [h]
 ·have : x % 2 = 0 := by omega
  simp [this]
theorem tmod_zero (x : Int) : (x.tmod 2 == 0) = !odd x := by
 have : (x.tmod 2 == 0) = decide (x % 2 = 0) := by
  rw [Bool.eq_iff_iff]
  simp only [beq_iff_eq, decide_eq_true_eq]
  rw [<- Int.dvd_iff_tmod_eq_zero]
  omega
 rw [this, odd_zero]
theorem tmod_ne (x : Int) : (x.tmod 2 != 0) = odd x := by
 show (!(x.tmod 2 == 0)) = odd x
 rw [tmod_zero, Bool.not_not]
theorem pkm_kB {x y : N3} (h : pkm x y = true) : kB (wr (x.k + y.k)) = true := by
 simp [pkm] at h
 rw [wr_in (by omega) (by omega)]
 exact kB_iff.2 (by omega)
theorem pk_iff {x y : N3} : pk x y = true ↔ (0 <= x.k /\ x.k <= 1152921504606846976) /\ 0 <= y.k /\ y.k <= 1152921504606846976 := by
 simp only [pk, Bool.and_eq_true, kB_iff]
theorem pk_sh {x y : N3} (h : pk x y = true) : decide (0 <= wr (gmax x.k y.k - x.k)) = true /\ decide (0 <= wr (gmax x.k y.k - y.k)) = true /\ kB (gmax x.k y.k) = true := by
 obtain ⟨h1, h2⟩ := pk_iff.1 h
 have hg : gmax x.k y.k <= 1152921504606846976 /\ x.k <= gmax x.k y.k /\ y.k <= gmax x.k y.k := by unfold gmax; split <;> omega
 rw [wr_in (by omega) (by omega), wr_in (by omega) (by omega), kB_iff, decide_eq_true_eq, decide_eq_true_eq]
 omega
theorem addR_dbl {x y : N3} (h : pk x y = true) : (⟨wr (dblI (y.k - x.k).toNat x.a + dblI (x.k - y.k).toNat y.a), wr (dblI (y.k - x.k).toNat x.b + dblI (x.k - y.k).toNat y.b), x.k + (y.k - x.k).toNat⟩ : N3) = addR x y := by
 obtain ⟨h1, h2⟩ := pk_iff.1 h
 have e1 : wr (gmax x.k y.k - x.k) = ((y.k - x.k).toNat : Int) := by unfold gmax; split <;> (rw [wr_in (by omega) (by omega)]; omega)
 have e2 : wr (gmax x.k y.k - y.k) = ((x.k - y.k).toNat : Int) := by unfold gmax; split <;> (rw [wr_in (by omega) (by omega)]; omega)
 have e3 : gmax x.k y.k = x.k + (y.k - x.k).toNat := by unfold gmax; split <;> omega
 unfold addR
 rw [e1, e2, shF_dbl, shF_dbl, e3]
def eq3 (x y : N3) : Bool := cond (x.a != y.a) false (cond (x.b != y.b) false (cond (x.k != y.k) false true))
theorem eq3_self (x : N3) : eq3 x x = true := by simp [eq3]
theorem redF_k : ∀ (m : Nat) (a b k : Int), 0 <= k -> k <= 1152921504606846976 -> 0 <= (redF m a b k).k /\ (redF m a b k).k <= k
 | 0, a, b, k, h, _ => ⟨h, Int.le_refl _⟩
 | m + 1, a, b, k, h, h' => by
  rw [redF_succ]
  split
  ·rename_i hc
   have hw : wr (k - 1) = k - 1 := wr_in (by omega) (by omega)
   rw [hw]
   split
   ·have := redF_k m (wr (a.tdiv 2)) (wr (b.tdiv 2)) 0 (by omega) (by omega); omega
   ·have := redF_k m (wr (a.tdiv 2)) (wr (b.tdiv 2)) (k - 1) (by omega) (by omega); omega
  ·exact ⟨h, Int.le_refl _⟩
theorem red_k {x : N3} (h : kB x.k = true) : 0 <= (red x).k /\ (red x).k <= x.k := redF_k _ _ _ _ (kB_iff.1 h).1 (kB_iff.1 h).2
theorem validB_iff {x : N3} : validB x = true ↔ (-131072 <= x.a /\ x.a <= 131072) /\ (-131072 <= x.b /\ x.b <= 131072) /\ (0 <= x.k /\ x.k <= 10) /\ (x.k = 0 \/ odd x.a = true \/ odd x.b = true) := by
 simp only [validB, inB, Bool.and_eq_true, Bool.or_eq_true, decide_eq_true_eq, beq_iff_eq]
theorem gmax_bd (a b : Int) : a <= gmax a b /\ b <= gmax a b /\ (gmax a b = a \/ gmax a b = b) := by unfold gmax; split <;> omega
theorem addF_k {x y : N3} (h : pk x y = true) : 0 <= (addF x y).k /\ (addF x y).k <= gmax x.k y.k := red_k (pk_sh h).2.2
theorem mulF_k {x y : N3} (h : pkm x y = true) : 0 <= (mulF x y).k /\ (mulF x y).k <= x.k + y.k := by
 have h1 := red_k (x := mulR x y) (pkm_kB h)
 have h2 : wr (x.k + y.k) = x.k + y.k := by
  simp [pkm] at h
  exact wr_in (by omega) (by omega)
 unfold mulF
 have e : (mulR x y).k = wr (x.k + y.k) := rfl
 rw [e, h2] at h1
 exact h1
theorem vpk {x y : N3} (hx : validB x = true) (hy : validB y = true) : pk x y = true /\ pkm x y = true /\ kB (addF x y).k = true /\ kB (mulF x y).k = true /\ kB (subF x y).k = true := by
 obtain ⟨_, _, hx, _⟩ := validB_iff.1 hx
 obtain ⟨_, _, hy, _⟩ := validB_iff.1 hy
 have h1 : pk x y = true := pk_iff.2 (by omega)
 have h2 : pkm x y = true := by simp [pkm]; omega
 have h3 : pk x (negF y) = true := pk_iff.2 (by show _ /\ _ <= y.k /\ y.k <= _; omega)
 have a1 := addF_k h1
 have a2 := addF_k h3
 have a3 := mulF_k h2
 have g := gmax_bd x.k y.k
 have a2' : 0 <= (subF x y).k /\ (subF x y).k <= gmax x.k y.k := a2
 exact ⟨h1, h2, kB_iff.2 (by omega), kB_iff.2 (by omega), kB_iff.2 (by omega)⟩
end Go.Ev
/- Lists: loops over their elements, in plain Lean. -/
namespace Go.Ev
def allF (p : Nat -> Bool) : Nat -> Nat -> Bool
 | _, 0 => true
 | i, m + 1 => p i && allF p (i + 1) m
abbrev zeroC : NNI := fun _ _ => 0
@[match_pattern] abbrev K6x : List CK := [.int .i64, .int .i64, .int .i64, .int .i64, .int .i64, .int .i64]
def st2 (n : Nat) (l r : List AV) : List AV := l ++ List.replicate (n - l.length) .non ++ r
theorem wr_succ {i : Nat} (h : i < 4611686018427387904) : wr ((i : Int) + 1) = ((i + 1 : Nat) : Int) := by
 rw [wr_in (by omega) (by omega)]; simp
theorem nat_nn (i : Nat) : decide (0 <= (i : Int)) = true := by simp
theorem nat_lt (i n : Nat) : decide ((i : Int) < (n : Int)) = decide (i < n) := by simp
theorem allF_iff {p : Nat -> Bool} {m : Nat} : ∀ {i : Nat}, allF p i m = true ↔ ∀ j, i <= j -> j < i + m -> p j = true := by
 induction m with
 | zero => intro i; simp only [allF, true_iff]; intro j h1 h2; omega
 | succ m ih =>
  intro i
  simp only [allF, Bool.and_eq_true, ih]
  constructor
  ·rintro ⟨h1, h2⟩ j h3 h4
   by_cases e : j = i
   ·exact e ▸ h1
   ·exact h2 j (by omega) (by omega)
  ·intro h
   exact ⟨h i (Nat.le_refl _) (by omega), fun j h1 h2 => h j (by omega) (by omega)⟩
theorem allF_congr {p q : Nat -> Bool} {m : Nat} : ∀ {i : Nat}, (∀ j, i <= j -> j < i + m -> p j = q j) -> allF p i m = allF q i m := by
 induction m with
 | zero => intro i h; rfl
 | succ m ih => intro i h; simp only [allF]; rw [h i (Nat.le_refl _) (by omega), ih fun j h1 h2 => h j (by omega) (by omega)]
end Go.Ev
namespace Go.Ev
section
variable (P : Program) (GL : Nat -> AV) (Γ : List (Nat × Ctr)) (k : Nat) (cfg : Cfg)
end
end Go.Ev
namespace Go.Ev
def rowL (w : Nat) (c : NNI) (i : Nat) : List Int := (List.range w).map (c i)
end Go.Ev
namespace Go.Ev
def stK : Nat -> Int -> Int
 | 0, k => k
 | m + 1, k => stK m (wr (k + 1))
def hdR (c : NNI) (i : Nat) : Nat -> Nat -> Int -> Bool
 | _, 0, _ => true
 | j, m + 1, k => c i j == k && hdR c i (j + 1) m (wr (k + 1))
def hdK (w : Nat) (c : NNI) : Nat -> Nat -> Int -> Int
 | _, 0, k => k
 | i, m + 1, k => cond (hdR c i 0 w k) (hdK w c (i + 1) m (stK w k)) (-1)
end Go.Ev
/- A contract whose argument is a list of two lists. -/
namespace Go.Ev
open Go.RowKit
open Classical in
noncomputable def oneS (A : List AV) (X : AV) : Ctr := fun l => if l = A then some (true, X) else none
theorem meets_one {P : Program} {GL : Nat -> AV} {Γ : List (Nat × Ctr)} (hmix : P.follows .mixedOrders = true) (hΓ : Sound P GL Γ) {f : FuncId} {fn : Func} (hf : P.funcs[f]? = some fn)
  (hb : fn.body.isSome = true) (hn : (fn.name == "runtime.NumGoroutine") = false) {A : List AV} {X : AV} (k : Nat) (cfg : Cfg) (hle : Nat.ble A.length fn.ntmps = true) (hev : evW P GL Γ k cfg fn A = some X) : Meets P GL f (oneS A X) :=
 meetsW hmix hΓ hf hb hn _ fun args x h => by
  unfold oneS at h
  split at h
  ·rename_i e
   subst e
   cases h
   exact ⟨k, cfg, hle, hev⟩
  ·cases h
theorem Rep.lst2 {w : World} {B : Nat -> Prop} {g g' : Nat -> List AV} {v : Value} (h0 : g 0 = g' 0) (h1 : g 1 = g' 1) (h : Rep w B (.lst 2 1 g) v) : Rep w B (.lst 2 1 g') v := by
 have e : ∀ i, i < 2 -> g i = g' i := fun i hi => by
  rcases (show i = 0 \/ i = 1 by omega) with rfl | rfl
  ·exact h0
  ·exact h1
 cases h with
 | lst n k row b o cap f hB hn hk hc r =>
  exact .lst 2 1 g' b o cap f hB hn (fun i hi => by rw [<- e i hi]; exact hk i hi) hc (fun i j hi hj => by rw [<- e i hi]; exact r i j hi hj)
theorem Meets.lst2 {P : Program} {GL : Nat -> AV} {f : FuncId} {fn : Func} (hf : P.funcs[f]? = some fn) (hb : fn.body.isSome = true) (hn : (fn.name == "runtime.NumGoroutine") = false) {s : Ctr}
  (H : ∀ args x, s args = some (true, x) -> ∃ g g', args = [.lst 2 1 g] /\ g 0 = g' 0 /\ g 1 = g' 1 /\ Meets P GL f (oneS [.lst 2 1 g'] x)) : Meets P GL f s := by
 refine ⟨⟨fn, hf, hn, hb⟩, fun args x hs w B vs β hB hG hl hr hd => ?_⟩
 obtain ⟨g, g', rfl, h0, h1, hm⟩ := H args x hs
 have no : ∀ (q : Nat -> List AV) i, isOwn (([.lst 2 1 q] : List AV).getD i .non) = false := fun q i => by
  cases i with
  | zero => rfl
  | succ i => rfl
 have := hm.2 [.lst 2 1 g'] x (by unfold oneS; rw [if_pos rfl]) w B vs β hB hG hl (fun i hi => by
  have := hr i hi
  cases i with
  | zero =>
   have h : Rep w B (.lst 2 1 g) (vs.getD 0 undef) := this
   exact ArgOk.of_rep (h.lst2 h0 h1)
  | succ i => exact absurd hi (by simp)) (fun i j _ _ h _ _ => by rw [no] at h; cases h)
 refine this.mono fun e w' ⟨v, he, hbl, B', hB', hres, _⟩ => ⟨v, he, ?_, B', hB', hres, fun i hi => ?_⟩
 ·refine ⟨hbl.os, hbl.tape, hbl.output, hbl.size, fun k hk hX => hbl.block k hk fun ⟨i, _, h, _⟩ => ?_⟩
  rw [no] at h
  cases h
 ·cases i with
  | zero => exact trivial
  | succ i => exact absurd hi (by simp)
end Go.Ev
/- A contract's result in a weaker form: a list that is only read. -/
namespace Go.Ev
theorem Rep.toArr {w : World} {B : Nat -> Prop} {n k : Nat} {row : Nat -> List AV} {ks : List CK} {c : NNI} {v : Value} (hk : k = ks.length) (h : ∀ i, i < n -> row i = mkRow ks (c i)) (r : Rep w B (.lst n k row) v) : Rep w B (.arr n ks c) v := by
 refine .arr n ks c v ?_
 subst hk
 cases r with
 | nil k row a cap => exact .nil _ _ a cap
 | lst n k row b o cap f hB hn hk hc r =>
  exact .lst n _ _ b o cap f hB hn (fun i hi => by rw [<- h i hi]; exact hk i hi) hc (fun i j hi hj => by rw [<- h i hi]; exact r i j hi hj)
def asArr (n : Nat) (ks : List CK) (c : NNI) (y : AV) : Prop :=
 y = .arr n ks c \/ (∃ lv ty, y = .row lv ty n ks c) \/ ∃ row, y = .lst n ks.length row /\ ∀ i, i < n -> row i = mkRow ks (c i)
theorem res_arr {w w' : World} {B' : Nat -> Prop} {y : AV} {v : Value} {n : Nat} {ks : List CK} {c : NNI} (h : asArr n ks c y) (hr : ResOk w w' B' y v) :
  ∃ B'' : Nat -> Prop, (∀ b, B' b -> B'' b) /\ (∀ b, B'' b -> B' b \/ (w.heap.size <= b /\ b < w'.heap.size)) /\ ResOk w w' B'' (.arr n ks c) v := by
 rcases h with rfl | ⟨lv, ty, rfl⟩ | ⟨row, rfl, hrow⟩
 ·exact ⟨B', fun _ h => h, fun _ h => .inl h, hr⟩
 ·obtain ⟨b, h1, h2⟩ := hr
  cases lv with
  | true =>
   obtain ⟨cap, rfl, g1, g2, _, g3⟩ := h1 rfl
   refine ⟨fun x => B' x \/ x = b, fun _ h => .inl h, fun x h => ?_, 0, g3.rep (.inr rfl) (Nat.le_refl _)⟩
   rcases h with h | rfl
   ·exact .inl h
   ·exact .inr ⟨g1, g2⟩
  | false =>
   obtain ⟨rfl, a, rfl⟩ := h2 rfl
   exact ⟨B', fun _ h => h, fun _ h => .inl h, 0, .arr _ _ _ _ (.nil _ _ a 0)⟩
 ·obtain ⟨b, hr⟩ := hr
  exact ⟨B', fun _ h => h, fun _ h => .inl h, 0, Rep.toArr rfl hrow hr⟩
theorem OutOk.mono {w' : World} {B' B'' : Nat -> Prop} {b : Nat} {x y : AV} {v : Value} (h : OutOk w' B' b x y v) (hb : ∀ b, B' b -> B'' b) : OutOk w' B'' b x y v := by
 cases x with
 | own ty c =>
  obtain ⟨c', e, h⟩ := h
  exact ⟨c', e, h.mono hb⟩
 | _ => exact h
theorem Meets.arr {P : Program} {GL : Nat -> AV} {f : FuncId} {fn : Func} (hf : P.funcs[f]? = some fn) (hb : fn.body.isSome = true) (hn : (fn.name == "runtime.NumGoroutine") = false) {s : Ctr}
  (H : ∀ args x, s args = some (true, x) -> ∃ y n ks c, Meets P GL f (oneS args y) /\ (splitOut x).1 = .arr n ks c /\ asArr n ks c (splitOut y).1 /\ (splitOut x).2 = (splitOut y).2) : Meets P GL f s := by
 refine ⟨⟨fn, hf, hn, hb⟩, fun args x hs w B vs β hB hG hl hr hd => ?_⟩
 obtain ⟨y, n, ks, c, hm, e1, hy, e2⟩ := H args x hs
 have := hm.2 args y (by unfold oneS; rw [if_pos rfl]) w B vs β hB hG hl hr hd
 refine this.mono fun e w' ⟨v, he, hbl, B', hB', hres, hout⟩ => ?_
 obtain ⟨B'', b1, b2, hres'⟩ := res_arr hy hres
 refine ⟨v, he, hbl, B'', fun b hb => ?_, by rw [e1]; exact hres', fun i hi => by rw [e2]; exact (hout i hi).mono b1⟩
 rcases b2 b hb with h | ⟨h1, h2⟩
 ·exact hB' b h
 ·exact ⟨.inr h1, h2⟩
end Go.Ev
/- From a row's readings to what the evaluator knows: structs that hold lists. -/
namespace Go.Ev
open Go.RowKit
section
variable {H : Type} {enc : TypeId × Value -> H} {P : Program} {w : World} {base : Nat} {spare : Nat -> Bool} {held : Bool}
end
end Go.Ev
namespace Go.Ev
end Go.Ev
namespace Go.Ev
end Go.Ev
/- Certificates: their form, in plain Lean. -/
namespace Go.Ev
def idxF (p : Nat -> Bool) : NNI
 | _, 0 => -1
 | i, m + 1 => cond (p i) (i : Int) (idxF p (i + 1) m)
theorem idxF_ge {p : Nat -> Bool} {m : Nat} : ∀ {i : Nat}, decide (idxF p i m >= 0) = !(allF (fun j => !(p j)) i m) := by
 induction m with
 | zero => intro i; rfl
 | succ m ih =>
  intro i
  simp only [idxF, allF]
  by_cases h : p i = true
  ·simp [h]
  ·simpa [h] using ih
end Go.Ev
namespace Go.Ev
end Go.Ev
namespace Go.Ev
theorem rowSet_at (c : NNI) (i : Nat) (xs : List Int) (a j : Nat) : rowSet c i 0 xs a j = if a = i /\ j < xs.length then xs.getD j 0 else c a j := by
 have e : (Nat.beq a i && (Nat.ble 0 j && Nat.blt j (0 + xs.length))) = decide (a = i /\ j < xs.length) := by
  rw [Bool.eq_iff_iff]
  simp only [Bool.and_eq_true, Nat.beq_eq, Nat.ble_eq, Nat.blt, decide_eq_true_eq]
  omega
 unfold rowSet
 rw [e]
 by_cases h : a = i /\ j < xs.length
 ·rw [if_pos h, decide_eq_true h]; rfl
 ·rw [if_neg h, decide_eq_false h]
end Go.Ev
/- Numbers and points: what becomes of signs, and lowest form. -/
namespace Go.Ev
theorem redF_low : ∀ (m : Nat) (a b k : Int), 0 <= k -> k <= 1152921504606846976 -> k.toNat < m -> ¬ ((redF m a b k).k > 0 /\ odd (redF m a b k).a = false /\ odd (redF m a b k).b = false)
 | 0, a, b, k, _, _, h => by omega
 | m + 1, a, b, k, h0, h1, h => by
  rw [redF_succ]
  split
  ·rename_i hc
   have hw : wr (k - 1) = k - 1 := wr_in (by omega) (by omega)
   rw [hw]
   split
   ·rename_i hz
    by_cases hm : m = 0
    ·subst hm; omega
    ·exact redF_low m _ _ 0 (by omega) (by omega) (by omega)
   ·exact redF_low m _ _ (k - 1) (by omega) (by omega) (by omega)
  ·assumption
theorem red_fix {x : N3} (h : ¬ (x.k > 0 /\ odd x.a = false /\ odd x.b = false)) : red x = x := by
 unfold red
 rw [redF_succ, if_neg h]
def bdd (M : Int) (x : N3) : Prop := (-M <= x.a /\ x.a <= M) /\ (-M <= x.b /\ x.b <= M) /\ 0 <= x.k
theorem tdiv_two {a : Int} (h : odd a = false) : a.tdiv 2 = a / 2 /\ a = 2 * (a / 2) := by
 have h2 : ¬ a % 2 = 1 := by simpa [odd] using h
 have hd : (2 : Int) ∣ a := by omega
 exact ⟨Int.tdiv_eq_ediv_of_dvd hd, by omega⟩
theorem odd_neg (a : Int) : odd (-a) = odd a := by
 unfold odd
 have : ((-a) % 2 = 1) = (a % 2 = 1) := by apply propext; omega
 simp only [this]
theorem redF_bd : ∀ (m : Nat) (a b k M : Int), M < 9223372036854775808 -> -M <= a -> a <= M -> -M <= b -> b <= M -> (-M <= (redF m a b k).a /\ (redF m a b k).a <= M) /\ -M <= (redF m a b k).b /\ (redF m a b k).b <= M
 | 0, a, b, k, M, _, h1, h2, h3, h4 => ⟨⟨h1, h2⟩, h3, h4⟩
 | m + 1, a, b, k, M, hM, h1, h2, h3, h4 => by
  rw [redF_succ]
  split
  ·rename_i hc
   obtain ⟨ea, ea'⟩ := tdiv_two hc.2.1
   obtain ⟨eb, eb'⟩ := tdiv_two hc.2.2
   rw [ea, eb, wr_in (by omega) (by omega), wr_in (by omega) (by omega)]
   exact redF_bd m _ _ _ M hM (by omega) (by omega) (by omega) (by omega)
  ·exact ⟨⟨h1, h2⟩, h3, h4⟩
theorem redF_neg : ∀ (m : Nat) (a b k : Int), -9223372036854775808 < a -> a < 9223372036854775808 -> -9223372036854775808 < b -> b < 9223372036854775808 ->
  redF m (-a) (-b) k = ⟨-(redF m a b k).a, -(redF m a b k).b, (redF m a b k).k⟩
 | 0, a, b, k, _, _, _, _ => rfl
 | m + 1, a, b, k, h1, h2, h3, h4 => by
  rw [redF_succ, redF_succ m a b k, odd_neg, odd_neg]
  by_cases hc : k > 0 /\ odd a = false /\ odd b = false
  ·rw [if_pos hc, if_pos hc]
   obtain ⟨ea, ea'⟩ := tdiv_two hc.2.1
   obtain ⟨eb, eb'⟩ := tdiv_two hc.2.2
   rw [Int.neg_tdiv, Int.neg_tdiv, ea, eb]
   rw [wr_in (n := a / 2) (by omega) (by omega), wr_in (n := b / 2) (by omega) (by omega), wr_in (n := -(a / 2)) (by omega) (by omega), wr_in (n := -(b / 2)) (by omega) (by omega)]
   have hz : ((-(a / 2) = 0 /\ -(b / 2) = 0) = (a / 2 = 0 /\ b / 2 = 0)) := by apply propext; omega
   simp only [hz]
   exact redF_neg m _ _ _ (by omega) (by omega) (by omega) (by omega)
  ·rw [if_neg hc, if_neg hc]
def negX (x : N3) : N3 := ⟨-x.a, -x.b, x.k⟩
theorem negF_eq {M : Int} {x : N3} (hM : M < 9223372036854775808) (h : bdd M x) : negF x = negX x := by
 obtain ⟨h1, h2, _⟩ := h
 unfold negF negX
 rw [wr_in (by omega) (by omega), wr_in (by omega) (by omega), Int.zero_sub, Int.zero_sub]
theorem negX_bd {M : Int} {x : N3} (h : bdd M x) : bdd M (negX x) := by
 obtain ⟨h1, h2, h3⟩ := h
 exact ⟨by simp only [negX]; omega, by simp only [negX]; omega, h3⟩
theorem negX_negX (x : N3) : negX (negX x) = x := by simp [negX]
theorem red_neg {M : Int} {x : N3} (hM : M < 9223372036854775808) (h : bdd M x) : red (negX x) = negX (red x) := by
 obtain ⟨h1, h2, _⟩ := h
 exact redF_neg _ _ _ _ (by omega) (by omega) (by omega) (by omega)
theorem red_bd {M : Int} {x : N3} (hM : M < 9223372036854775808) (h : bdd M x) (hk : kB x.k = true) : bdd M (red x) := by
 obtain ⟨h1, h2, h3⟩ := h
 obtain ⟨a1, a2⟩ := redF_bd (x.k.toNat + 1) x.a x.b x.k M hM (by omega) (by omega) (by omega) (by omega)
 exact ⟨a1, a2, (red_k hk).1⟩
theorem pow_le {d n : Nat} (h : d <= n) : (2 : Int) ^ d <= 2 ^ n := by
 have : (2 : Nat) ^ d <= 2 ^ n := Nat.pow_le_pow_right (by decide) h
 exact_mod_cast this
theorem shF_in {a M : Int} {d : Nat} (hd : d <= 30) (h1 : -M <= a) (h2 : a <= M) (hM : M <= 1073741824) :
  shF a d = a * 2 ^ d /\ shF (-a) d = -(a * 2 ^ d) /\ -1152921504606846976 <= a * 2 ^ d /\ a * 2 ^ d <= 1152921504606846976 := by
 have hp : (0 : Int) < 2 ^ d := Int.pow_pos (by decide)
 have hq : (2 : Int) ^ d <= 2 ^ 30 := pow_le hd
 have e40 : (2 : Int) ^ 30 = 1073741824 := by decide
 rw [e40] at hq
 have l1 : a * 2 ^ d <= M * 2 ^ d := Int.mul_le_mul_of_nonneg_right h2 (by omega)
 have l2 : (-M) * 2 ^ d <= a * 2 ^ d := Int.mul_le_mul_of_nonneg_right h1 (by omega)
 rw [Int.neg_mul] at l2
 have l3 : M * 2 ^ d <= 1073741824 * 1073741824 := Int.mul_le_mul hM hq (by omega) (by decide)
 have e : ∀ b, shF b d = wr (b * 2 ^ d) := fun b => by
  unfold shF
  rw [show (d : Int).toNat = d from rfl, Nat.min_eq_left (by omega)]
 rw [e, e, Int.neg_mul]
 exact ⟨wr_in (by omega) (by omega), wr_in (by omega) (by omega), by omega, by omega⟩
theorem shF_le {a M : Int} {d K : Nat} (hd : d <= K) (h1 : -M <= a) (h2 : a <= M) : -(M * 2 ^ K) <= a * 2 ^ d /\ a * 2 ^ d <= M * 2 ^ K := by
 have hp : (0 : Int) < 2 ^ d := Int.pow_pos (by decide)
 have hq : (2 : Int) ^ d <= 2 ^ K := pow_le hd
 have hM : 0 <= M := by omega
 have l1 : a * 2 ^ d <= M * 2 ^ d := Int.mul_le_mul_of_nonneg_right h2 (by omega)
 have l2 : (-M) * 2 ^ d <= a * 2 ^ d := Int.mul_le_mul_of_nonneg_right h1 (by omega)
 have l3 : M * 2 ^ d <= M * 2 ^ K := Int.mul_le_mul_of_nonneg_left hq hM
 rw [Int.neg_mul] at l2
 omega
theorem addR_in {M : Int} {x y : N3} {K : Nat} (hK : K <= 30) (hM : M <= 1073741824) (hx : bdd M x) (hy : bdd M y) (kx : x.k <= K) (ky : y.k <= K) :
  addR (negX x) (negX y) = negX (addR x y) /\ bdd (2 * (M * 2 ^ K)) (addR x y) /\ 0 <= (addR x y).k /\ (addR x y).k <= K := by
 obtain ⟨x1, x2, x3⟩ := hx
 obtain ⟨y1, y2, y3⟩ := hy
 have hg := gmax_bd x.k y.k
 obtain ⟨d, hd⟩ : ∃ d : Nat, gmax x.k y.k - x.k = d := ⟨(gmax x.k y.k - x.k).toNat, by omega⟩
 obtain ⟨e, he⟩ : ∃ e : Nat, gmax x.k y.k - y.k = e := ⟨(gmax x.k y.k - y.k).toNat, by omega⟩
 have wd : wr (gmax x.k y.k - x.k) = d := by rw [hd]; exact wr_in (by omega) (by omega)
 have we : wr (gmax x.k y.k - y.k) = e := by rw [he]; exact wr_in (by omega) (by omega)
 have hdK : d <= K := by omega
 have heK : e <= K := by omega
 obtain ⟨a1, a2, a3, a4⟩ := shF_in (a := x.a) (M := M) (d := d) (by omega) x1.1 x1.2 hM
 obtain ⟨b1, b2, b3, b4⟩ := shF_in (a := x.b) (M := M) (d := d) (by omega) x2.1 x2.2 hM
 obtain ⟨c1, c2, c3, c4⟩ := shF_in (a := y.a) (M := M) (d := e) (by omega) y1.1 y1.2 hM
 obtain ⟨d1, d2, d3, d4⟩ := shF_in (a := y.b) (M := M) (d := e) (by omega) y2.1 y2.2 hM
 have s1 := shF_le (a := x.a) hdK x1.1 x1.2
 have s2 := shF_le (a := x.b) hdK x2.1 x2.2
 have s3 := shF_le (a := y.a) heK y1.1 y1.2
 have s4 := shF_le (a := y.b) heK y2.1 y2.2
 have eR : addR x y = ⟨x.a * 2 ^ d + y.a * 2 ^ e, x.b * 2 ^ d + y.b * 2 ^ e, gmax x.k y.k⟩ := by
  unfold addR
  rw [wd, we, a1, b1, c1, d1, wr_in (by omega) (by omega), wr_in (by omega) (by omega)]
 have eN : addR (negX x) (negX y) = ⟨-(x.a * 2 ^ d) + -(y.a * 2 ^ e), -(x.b * 2 ^ d) + -(y.b * 2 ^ e), gmax x.k y.k⟩ := by
  unfold addR negX
  simp only
  rw [wd, we, a2, b2, c2, d2, wr_in (by omega) (by omega), wr_in (by omega) (by omega)]
 refine ⟨?_, ?_, ?_, ?_⟩
 ·rw [eR, eN]
  show (⟨_, _, _⟩ : N3) = ⟨-(x.a * 2 ^ d + y.a * 2 ^ e), -(x.b * 2 ^ d + y.b * 2 ^ e), gmax x.k y.k⟩
  rw [Int.neg_add, Int.neg_add]
 ·rw [eR]
  refine ⟨?_, ?_, ?_⟩
  ·show _ <= x.a * 2 ^ d + y.a * 2 ^ e /\ x.a * 2 ^ d + y.a * 2 ^ e <= _; omega
  ·show _ <= x.b * 2 ^ d + y.b * 2 ^ e /\ x.b * 2 ^ d + y.b * 2 ^ e <= _; omega
  ·show 0 <= gmax x.k y.k; omega
 ·rw [eR]; show 0 <= gmax x.k y.k; omega
 ·rw [eR]; show gmax x.k y.k <= K; omega
theorem addF_in {M : Int} {x y : N3} {K : Nat} (hK : K <= 30) (hM : M <= 1073741824) (hM2 : 2 * (M * 2 ^ K) < 9223372036854775808) (hx : bdd M x) (hy : bdd M y) (kx : x.k <= K) (ky : y.k <= K) :
  addF (negX x) (negX y) = negX (addF x y) /\ bdd (2 * (M * 2 ^ K)) (addF x y) /\ 0 <= (addF x y).k /\ (addF x y).k <= K := by
 obtain ⟨h1, h2, h3, h4⟩ := addR_in hK hM hx hy kx ky
 have hkb : kB (addR x y).k = true := kB_iff.2 (by omega)
 have hk := red_k hkb
 unfold addF
 rw [h1, red_neg hM2 h2]
 exact ⟨rfl, red_bd hM2 h2 hkb, hk.1, by omega⟩
def hN : N3 := ⟨0, 1, 1⟩
theorem mulh {M : Int} {x : N3} (hM : M <= 4000000000000000000) (hx : bdd M x) (hk : x.k <= 1000) :
  mulF (negX x) hN = negX (mulF x hN) /\ bdd (2 * M) (mulF x hN) /\ 0 <= (mulF x hN).k /\ (mulF x hN).k <= x.k + 1 := by
 obtain ⟨x1, x2, x3⟩ := hx
 have e1 : mulR x hN = ⟨2 * x.b, x.a, x.k + 1⟩ := by
  unfold mulR hN
  simp only [Int.mul_zero, Int.mul_one]
  rw [wr_in (n := 2 * x.b) (by omega) (by omega), wr_in (n := 0) (by omega) (by omega), wr_in (n := x.a) (by omega) (by omega), wr_in (n := 2 * x.b) (by omega) (by omega), Int.zero_add, Int.add_zero,
   wr_in (n := 2 * x.b) (by omega) (by omega), wr_in (n := x.a) (by omega) (by omega), wr_in (n := x.k + 1) (by omega) (by omega)]
 have e2 : mulR (negX x) hN = ⟨-(2 * x.b), -x.a, x.k + 1⟩ := by
  unfold mulR hN negX
  simp only [Int.mul_zero, Int.mul_one]
  have e3 : 2 * -x.b = -(2 * x.b) := by omega
  rw [e3, wr_in (n := -(2 * x.b)) (by omega) (by omega), wr_in (n := 0) (by omega) (by omega), wr_in (n := -x.a) (by omega) (by omega), wr_in (n := -(2 * x.b)) (by omega) (by omega), Int.zero_add, Int.add_zero,
   wr_in (n := -(2 * x.b)) (by omega) (by omega), wr_in (n := -x.a) (by omega) (by omega), wr_in (n := x.k + 1) (by omega) (by omega)]
 have hb : bdd (2 * M) (mulR x hN) := by rw [e1]; exact ⟨by simp only; omega, by simp only; omega, by simp only; omega⟩
 have hk1 : (mulR x hN).k = x.k + 1 := by rw [e1]
 have hkb : kB (mulR x hN).k = true := kB_iff.2 (by omega)
 have hk' := red_k hkb
 have e4 : mulR (negX x) hN = negX (mulR x hN) := by rw [e1, e2]; rfl
 unfold mulF
 rw [e4, red_neg (M := 2 * M) (by omega) hb]
 exact ⟨rfl, red_bd (by omega) hb hkb, hk'.1, by omega⟩
structure P2 where
 x : N3
 y : N3
def P2.av (p : P2) : AV := .agg [.val (.int .i64 p.x.a), .val (.int .i64 p.x.b), .val (.int .i64 p.x.k), .val (.int .i64 p.y.a), .val (.int .i64 p.y.b), .val (.int .i64 p.y.k)]
def okN (x : N3) : Bool := (inB x.a (-67108864) 67108864 && inB x.b (-67108864) 67108864) && inB x.k 0 20
def okP (p : P2) : Bool := okN p.x && okN p.y
def selP (c : Bool) (p : P2) : P2 := ⟨sel c p.x, sel c p.y⟩
def rP (c : Bool) (p : P2) : AV := .tup [(selP c p).av, bv c]
def valP (p : P2) : Bool := validB p.x && validB p.y
def redP (p : P2) : P2 := ⟨red p.x, red p.y⟩
def eqP (p q : P2) : Bool := cond (eq3 p.x q.x) (eq3 p.y q.y) false
theorem eqP_self (p : P2) : eqP p p = true := by simp [eqP, eq3_self]
def addP (p q : P2) : P2 := ⟨addF p.x q.x, addF p.y q.y⟩
def pkP (p q : P2) : Bool := pk p.x q.x && pk p.y q.y
theorem okN_iff {x : N3} : okN x = true ↔ bdd 67108864 x /\ x.k <= 20 := by
 simp only [okN, inB, bdd, Bool.and_eq_true, decide_eq_true_eq]
 omega
theorem okN_neg {x : N3} (h : okN x = true) : okN (negX x) = true := by
 rw [okN_iff] at *
 exact ⟨negX_bd h.1, h.2⟩
theorem okN_negF {x : N3} (h : okN x = true) : negF x = negX x := negF_eq (M := 67108864) (by decide) (okN_iff.1 h).1
theorem okN_valid {x : N3} (h : validB x = true) : okN x = true := by
 obtain ⟨h1, h2, h3, _⟩ := validB_iff.1 h
 rw [okN_iff]
 exact ⟨⟨by omega, by omega, by omega⟩, by omega⟩
def rot90 (p : P2) : P2 := ⟨negX p.y, p.x⟩
def rot45 (p : P2) : P2 := ⟨mulF (subF p.x p.y) hN, mulF (addF p.x p.y) hN⟩
def rotQ : Nat -> P2 -> P2
 | 0, p => p
 | n + 1, p => rot90 (rotQ n p)
def turnF (t : Int) (p : P2) : P2 := rotQ (t.toNat / 2) (cond (t % 2 == 1) (rot45 p) p)
theorem pkm_iff {x y : N3} : pkm x y = true ↔ 0 <= x.k /\ 0 <= y.k /\ x.k + y.k <= 1152921504606846976 := by simp [pkm]
theorem turn_pre {x y : N3} (hx : okN x = true) (hy : okN y = true) : pk x y = true /\ pkm (subF x y) hN = true /\ pkm (addF x y) hN = true /\
  (bdd 281474976710656 (rot45 ⟨x, y⟩).x /\ (rot45 ⟨x, y⟩).x.k <= 21) /\ (bdd 281474976710656 (rot45 ⟨x, y⟩).y /\ (rot45 ⟨x, y⟩).y.k <= 21) := by
 obtain ⟨bx, kx⟩ := okN_iff.1 hx
 obtain ⟨by', ky⟩ := okN_iff.1 hy
 have e20 : (2 : Int) ^ 20 = 1048576 := by decide
 obtain ⟨_, a2, a3, a4⟩ := addF_in (K := 20) (M := 67108864) (by decide) (by decide) (by rw [e20]; decide) bx by' kx ky
 obtain ⟨_, s2, s3, s4⟩ := addF_in (K := 20) (M := 67108864) (by decide) (by decide) (by rw [e20]; decide) bx (negX_bd by') kx ky
 rw [e20] at a2 s2
 have es : subF x y = addF x (negX y) := by unfold subF; rw [okN_negF hy]
 rw [<- es] at s2 s3 s4
 obtain ⟨_, m2, m3, m4⟩ := mulh (M := 2 * (67108864 * 1048576)) (by decide) a2 (by omega)
 obtain ⟨_, n2, n3, n4⟩ := mulh (M := 2 * (67108864 * 1048576)) (by decide) s2 (by omega)
 have b1 := bx.2.2
 have b2 := by'.2.2
 refine ⟨pk_iff.2 (by omega), ?_, ?_, ⟨n2, by show _ <= (21 : Int); have : (rot45 ⟨x, y⟩).x.k = (mulF (subF x y) hN).k := rfl; omega⟩, m2, by have : (rot45 ⟨x, y⟩).y.k = (mulF (addF x y) hN).k := rfl; omega⟩
 ·exact pkm_iff.2 ⟨s3, by decide, by show (subF x y).k + (1 : Int) <= _; omega⟩
 ·exact pkm_iff.2 ⟨a3, by decide, by show (addF x y).k + (1 : Int) <= _; omega⟩
theorem negF_big {x : N3} (h : bdd 281474976710656 x /\ x.k <= 21) : negF x = negX x := negF_eq (by decide) h.1
def selN (c : Bool) (x y : N3) : N3 := ⟨cond c x.a y.a, cond c x.b y.b, cond c x.k y.k⟩
def flipP (f : Bool) (p : P2) : P2 := ⟨p.x, selN f (negF p.y) p.y⟩
def quartI : Nat -> P2 -> P2
 | 0, p => p
 | 1, p => ⟨negF p.y, p.x⟩
 | 2, p => ⟨negF p.x, negF p.y⟩
 | _, p => ⟨p.y, negF p.x⟩
theorem quartI_eq {p : P2} (hx : negF p.x = negX p.x) (hy : negF p.y = negX p.y) : ∀ q, q < 4 -> quartI q p = rotQ q p
 | 0, _ => rfl
 | 1, _ => by simp only [quartI, rotQ, rot90, hy]
 | 2, _ => by simp only [quartI, rotQ, rot90, hx, hy]
 | 3, _ => by simp only [quartI, rotQ, rot90, hx, negX_negX]
theorem okP_iff {p : P2} : okP p = true ↔ okN p.x = true /\ okN p.y = true := by simp [okP]
theorem turnI {p : P2} (h : okP p = true) (t : Int) (q : Nat) (hq : q < 4) : (t = 2 * q -> quartI q p = turnF t p) /\ (t = 2 * q + 1 -> quartI q (rot45 p) = turnF t p) := by
 have ho := okP_iff.1 h
 constructor
 ·intro e
  have e1 : t.toNat / 2 = q := by omega
  have e2 : (t % 2 == 1) = false := by simp; omega
  unfold turnF
  rw [e1, e2, quartI_eq (okN_negF ho.1) (okN_negF ho.2) q hq]
  rfl
 ·intro e
  have e1 : t.toNat / 2 = q := by omega
  have e2 : (t % 2 == 1) = true := by simp; omega
  obtain ⟨_, _, _, b1, b2⟩ := turn_pre ho.1 ho.2
  unfold turnF
  rw [e1, e2, quartI_eq (negF_big b1) (negF_big b2) q hq]
  rfl
theorem flip_ok {p : P2} (h : okP p = true) (f : Bool) : okP (flipP f p) = true := by
 have ho := okP_iff.1 h
 refine okP_iff.2 ⟨ho.1, ?_⟩
 cases f
 ·exact ho.2
 ·show okN (negF p.y) = true
  rw [okN_negF ho.2]
  exact okN_neg ho.2
theorem inB_iff {x lo hi : Int} : inB x lo hi = true ↔ lo <= x /\ x <= hi := by simp [inB]
theorem turn_k {p : P2} (h : okP p = true) (t : Int) : (0 <= (turnF t p).x.k /\ (turnF t p).x.k <= 21) /\ 0 <= (turnF t p).y.k /\ (turnF t p).y.k <= 21 := by
 have ho := okP_iff.1 h
 obtain ⟨_, _, _, b1, b2⟩ := turn_pre ho.1 ho.2
 have key : ∀ q (r : P2), (0 <= r.x.k /\ r.x.k <= 21) -> (0 <= r.y.k /\ r.y.k <= 21) -> (0 <= (rotQ q r).x.k /\ (rotQ q r).x.k <= 21) /\ 0 <= (rotQ q r).y.k /\ (rotQ q r).y.k <= 21 := by
  intro q r h1 h2
  induction q with
  | zero => exact ⟨h1, h2⟩
  | succ q ih => exact ⟨ih.2, ih.1⟩
 unfold turnF
 cases (t % 2 == 1) with
 | true => exact key _ _ ⟨b1.1.2.2, b1.2⟩ ⟨b2.1.2.2, b2.2⟩
 | false =>
  have c1 := okN_iff.1 ho.1
  have c2 := okN_iff.1 ho.2
  exact key _ p ⟨c1.1.2.2, Int.le_trans c1.2 (by decide)⟩ ⟨c2.1.2.2, Int.le_trans c2.2 (by decide)⟩
theorem turn_pk {p s : P2} (h : okP p = true) (hs : okP s = true) (t : Int) : pk (turnF t p).x s.x = true /\ pk (turnF t p).y s.y = true /\ pkP (turnF t p) s = true /\
  kB (addP (turnF t p) s).x.k = true /\ kB (addP (turnF t p) s).y.k = true := by
 have hk := turn_k h t
 have hs' := okP_iff.1 hs
 have c1 := okN_iff.1 hs'.1
 have c2 := okN_iff.1 hs'.2
 have n1 := c1.1.2.2
 have n2 := c2.1.2.2
 have a : pk (turnF t p).x s.x = true := pk_iff.2 (by omega)
 have b : pk (turnF t p).y s.y = true := pk_iff.2 (by omega)
 have a' := addF_k a
 have b' := addF_k b
 have g1 := gmax_bd (turnF t p).x.k s.x.k
 have g2 := gmax_bd (turnF t p).y.k s.y.k
 refine ⟨a, b, by simp [pkP, a, b], kB_iff.2 ⟨a'.1, ?_⟩, kB_iff.2 ⟨b'.1, ?_⟩⟩
 ·show (addF (turnF t p).x s.x).k <= _; omega
 ·show (addF (turnF t p).y s.y).k <= _; omega
theorem val_ok {p : P2} (h : valP p = true) : okP p = true := by
 simp only [valP, Bool.and_eq_true] at h
 exact okP_iff.2 ⟨okN_valid h.1, okN_valid h.2⟩
def moveF (t : Int) (f : Bool) (s p : P2) : P2 := addP (turnF t (flipP f p)) s
def okM (t : Int) (p s : P2) : Bool := inB t 0 7 && (okP p && okP s)
end Go.Ev
/- Motions: composition and inverse. -/
namespace Go.Ev
theorem and64_7 (x : Int) : and64 x 7 = x % 8 := by
 unfold and64
 have e : (BitVec.ofInt IntKind.i64.bits x &&& BitVec.ofInt IntKind.i64.bits 7).toNat = (BitVec.ofInt 64 x).toNat % 8 := by
  rw [BitVec.toNat_and]
  show (BitVec.ofInt 64 x).toNat &&& 7 = _
  exact Nat.and_two_pow_sub_one_eq_mod _ 3
 rw [e]
 have h2 : (((BitVec.ofInt 64 x).toNat % 8 : Nat) : Int) = x % 8 := by
  rw [BitVec.toNat_ofInt]
  have : (0 : Int) <= x % ((2 ^ 64 : Nat) : Int) := Int.emod_nonneg _ (by decide)
  omega
 rw [h2]
 exact wr_in (by omega) (by omega)
def mav (t : Int) (f : Bool) (s : P2) : AV := .agg [.val (.int .i64 t), .val (.bool f), .val (.int .i64 s.x.a), .val (.int .i64 s.x.b), .val (.int .i64 s.x.k), .val (.int .i64 s.y.a), .val (.int .i64 s.y.b), .val (.int .i64 s.y.k)]
def rM (c : Bool) (t : Int) (f : Bool) (s : P2) : AV := .tup [mav (cond c t 0) (cond c f false) (selP c s), bv c]
def invT (t : Int) (f : Bool) : Int := cond f t ((8 - t) % 8)
def cmpT (t u : Int) (f : Bool) : Int := cond f ((u - t) % 8) ((u + t) % 8)
def negP (p : P2) : P2 := ⟨negF p.x, negF p.y⟩
def invP (t : Int) (f : Bool) (s : P2) : P2 := negP (turnF (invT t f) (flipP f s))
theorem invT_in {t : Int} (h : inB t 0 7 = true) (f : Bool) : inB (invT t f) 0 7 = true := by
 rw [inB_iff] at *
 cases f <;> simp only [invT, cond_true, cond_false] <;> omega
theorem inv_impl {t : Int} (h : inB t 0 7 = true) : and64 (wr (0 - t)) 7 = (8 - t) % 8 := by
 rw [inB_iff] at h
 rw [and64_7, wr_in (by omega) (by omega)]
 omega
theorem invP_k {t : Int} {f : Bool} {s : P2} (h : okP s = true) : kB (invP t f s).x.k = true /\ kB (invP t f s).y.k = true := by
 have := turn_k (flip_ok h f) (invT t f)
 exact ⟨kB_iff.2 (by show _ <= (turnF (invT t f) (flipP f s)).x.k /\ (turnF (invT t f) (flipP f s)).x.k <= _; omega), kB_iff.2 (by show _ <= (turnF (invT t f) (flipP f s)).y.k /\ (turnF (invT t f) (flipP f s)).y.k <= _; omega)⟩
end Go.Ev
/- Quotients: the program's way and the reference's give the same number. -/
namespace Go.Ev
theorem red_zero {k : Int} (h : 0 <= k) : red ⟨0, 0, k⟩ = z3 := by
 have := redF_zero k.toNat k (Nat.le_refl _)
 unfold red
 simp only
 rw [this]
 have e : (if k > 0 then (0 : Int) else k) = 0 := by split <;> omega
 rw [e]
 rfl
theorem odd_two (a : Int) : odd (2 * a) = false := by unfold odd; simp
theorem red_dbl {a b k : Int} (h : 0 <= k) (hk : k < 1000000) (ha : -2305843009213693952 <= a /\ a <= 2305843009213693952) (hb : -2305843009213693952 <= b /\ b <= 2305843009213693952) : red ⟨2 * a, 2 * b, k + 1⟩ = red ⟨a, b, k⟩ := by
 by_cases hz : a = 0 /\ b = 0
 ·obtain ⟨rfl, rfl⟩ := hz
  show red ⟨0, 0, k + 1⟩ = _
  rw [red_zero h, red_zero (by omega)]
 ·unfold red
  simp only
  have e1 : (k + 1).toNat + 1 = (k.toNat + 1) + 1 := by omega
  rw [e1, redF_succ (k.toNat + 1), if_pos ⟨by omega, odd_two a, odd_two b⟩]
  have ea : (2 * a).tdiv 2 = a := by rw [Int.tdiv_eq_ediv_of_dvd ⟨a, rfl⟩]; omega
  have eb : (2 * b).tdiv 2 = b := by rw [Int.tdiv_eq_ediv_of_dvd ⟨b, rfl⟩]; omega
  rw [ea, eb, wr_in (n := a) (by omega) (by omega), wr_in (n := b) (by omega) (by omega), if_neg hz, wr_in (by omega) (by omega)]
  rw [show k + 1 - 1 = k by omega]
theorem red_scale : ∀ (j : Nat) {a b k : Int}, 0 <= k -> k + j < 1000000 -> (-2305843009213693952 <= a * 2 ^ j /\ a * 2 ^ j <= 2305843009213693952) -> (-2305843009213693952 <= b * 2 ^ j /\ b * 2 ^ j <= 2305843009213693952) ->
  red ⟨a * 2 ^ j, b * 2 ^ j, k + j⟩ = red ⟨a, b, k⟩
 | 0, a, b, k, _, _, _, _ => by simp
 | j + 1, a, b, k, h, hk, ha, hb => by
  have e : ∀ c : Int, c * 2 ^ (j + 1) = 2 * (c * 2 ^ j) := fun c => by rw [Int.pow_succ]; grind
  rw [e, e] at *
  have e2 : k + ((j + 1 : Nat) : Int) = (k + j) + 1 := by omega
  rw [e2, red_dbl (by omega) (by omega) (by omega) (by omega)]
  exact red_scale j h (by omega) (by omega) (by omega)
theorem redF_pow : ∀ (m : Nat) (a b k : Int), 0 <= k -> k <= 1152921504606846976 -> -9223372036854775808 <= a -> a < 9223372036854775808 -> -9223372036854775808 <= b -> b < 9223372036854775808 ->
  ∃ j : Nat, a = (redF m a b k).a * 2 ^ j /\ b = (redF m a b k).b * 2 ^ j /\ (redF m a b k).k + j = k
 | 0, a, b, k, _, _, _, _, _, _ => ⟨0, by simp [redF]⟩
 | m + 1, a, b, k, h0, h1, a1, a2, b1, b2 => by
  rw [redF_succ]
  split
  ·rename_i hc
   obtain ⟨ea, ea'⟩ := tdiv_two hc.2.1
   obtain ⟨eb, eb'⟩ := tdiv_two hc.2.2
   rw [ea, eb, wr_in (n := a / 2) (by omega) (by omega), wr_in (n := b / 2) (by omega) (by omega), wr_in (n := k - 1) (by omega) (by omega)]
   split
   ·rename_i hz
    obtain ⟨j, j1, j2, j3⟩ := redF_pow m (a / 2) (b / 2) 0 (by omega) (by omega) (by omega) (by omega) (by omega) (by omega)
    have hr : redF m (a / 2) (b / 2) 0 = ⟨0, 0, 0⟩ := by
     rw [hz.1, hz.2]
     cases m with
     | zero => rfl
     | succ m => have := redF_zero m 0 (by omega); simpa using this
    rw [hr]
    exact ⟨k.toNat, by show a = 0 * _; omega, by show b = 0 * _; omega, by show (0 : Int) + _ = k; omega⟩
   ·obtain ⟨j, j1, j2, j3⟩ := redF_pow m (a / 2) (b / 2) (k - 1) (by omega) (by omega) (by omega) (by omega) (by omega) (by omega)
    refine ⟨j + 1, ?_, ?_, by omega⟩
    ·rw [Int.pow_succ]; grind
    ·rw [Int.pow_succ]; grind
  ·exact ⟨0, by simp⟩
theorem red_pow {x : N3} (hk : kB x.k = true) (a1 : -9223372036854775808 <= x.a) (a2 : x.a < 9223372036854775808) (b1 : -9223372036854775808 <= x.b) (b2 : x.b < 9223372036854775808) :
  ∃ j : Nat, x.a = (red x).a * 2 ^ j /\ x.b = (red x).b * 2 ^ j /\ (red x).k + j = x.k := redF_pow _ _ _ _ (kB_iff.1 hk).1 (kB_iff.1 hk).2 a1 a2 b1 b2
def oddL : Nat -> Int -> Int -> Int × Int
 | 0, n, e => (n, e)
 | f + 1, n, e => if odd n = false then oddL f (n.tdiv 2) (e + 1) else (n, e)
theorem oddL_spec : ∀ (f : Nat) (n e : Int), n ≠ 0 -> n.natAbs < 2 ^ f -> odd (oddL f n e).1 = true /\ (oddL f n e).1 ≠ 0 /\ (oddL f n e).1.natAbs <= n.natAbs /\ e <= (oddL f n e).2 /\ (oddL f n e).2 <= e + f
 | 0, n, e, hn, hf => by simp at hf; omega
 | f + 1, n, e, hn, hf => by
  unfold oddL
  split
  ·rename_i h
   obtain ⟨h1, h2⟩ := tdiv_two h
   rw [h1]
   have hf' : (n / 2).natAbs < 2 ^ f := by rw [Nat.pow_succ] at hf; omega
   obtain ⟨a1, a2, a3, a4, a5⟩ := oddL_spec f (n / 2) (e + 1) (by omega) hf'
   exact ⟨a1, a2, by omega, by omega, by omega⟩
  ·rename_i h
   exact ⟨by simpa using h, hn, Nat.le_refl _, by show e <= e; omega, by show e <= e + _; omega⟩
theorem dvd_pow_odd {n a : Int} (hn : odd n = true) : ∀ (j : Nat), n ∣ a * 2 ^ j -> n ∣ a
 | 0, h => by simpa using h
 | j + 1, h => by
  refine dvd_pow_odd hn j ?_
  obtain ⟨c, hc⟩ := h
  rw [Int.pow_succ] at hc
  have h2 : n % 2 = 1 := by simpa [odd] using hn
  obtain ⟨m, hm⟩ : ∃ m, n = 2 * m + 1 := ⟨n / 2, by omega⟩
  -- a 2^j * 2 = n c: c is even
  have hc2 : a * 2 ^ j * 2 = n * c := by rw [<- hc]; grind
  obtain ⟨d, hd⟩ : ∃ d, c = 2 * d := ⟨a * 2 ^ j - m * c, by rw [hm] at hc2; grind⟩
  exact ⟨d, by rw [hd] at hc2; grind⟩
end Go.Ev
namespace Go.Ev
theorem mul_bd {a b A B : Int} (h1 : -A <= a) (h2 : a <= A) (h3 : -B <= b) (h4 : b <= B) : -(A * B) <= a * b /\ a * b <= A * B := by
 have hA : 0 <= A := by omega
 have hB : 0 <= B := by omega
 have e : (a * b).natAbs <= (A * B).natAbs := by
  rw [Int.natAbs_mul, Int.natAbs_mul]
  exact Nat.mul_le_mul (by omega) (by omega)
 have hAB : 0 <= A * B := Int.mul_nonneg hA hB
 omega
def dvNo : AV := .tup [z3.av, bv false]
def dvYes (r : N3) : AV := .tup [r.av, bv true]
def specEnd (R : Int -> Int -> Option AV) (n a b : Int) : Option AV :=
 cond (!(n == 0)) (cond (a.tmod n != 0) (some dvNo) (cond (!(n == 0)) (cond (b.tmod n != 0) (some dvNo) (cond (!(n == 0)) (cond (!(n == 0)) (R (wr (a.tdiv n)) (wr (b.tdiv n))) none) none)) none)) none
def divN (y : N3) : Int := wr (wr (y.a * y.a) - wr (wr (2 * y.b) * y.b))
def divC (y : N3) : N3 := ⟨y.a, wr (0 - y.b), 0⟩
def divT (x y : N3) : N3 := mulF x (divC y)
def dvOdd (y : N3) : Int := (oddL 60 (divN y) 0).1
def dvE (y : N3) : Int := (oddL 60 (divN y) 0).2
def dvK (x y : N3) : Int := (divT x y).k - y.k + dvE y
def dvOk (x y : N3) : Bool := cond (divN y == 0) false (cond ((divT x y).a.tmod (dvOdd y) != 0) false (!((divT x y).b.tmod (dvOdd y) != 0)))
def dvV (x y : N3) : N3 := cond (decide (dvK x y < 0))
 ⟨shF (wr ((divT x y).a.tdiv (dvOdd y))) (wr (0 - dvK x y)), shF (wr ((divT x y).b.tdiv (dvOdd y))) (wr (0 - dvK x y)), 0⟩ (red ⟨wr ((divT x y).a.tdiv (dvOdd y)), wr ((divT x y).b.tdiv (dvOdd y)), dvK x y⟩)
def dvR (x y : N3) : AV := .tup [(sel (dvOk x y) (dvV x y)).av, bv (dvOk x y)]
def dvP (x y : N3) : Bool := ((inB x.a (-8589934592) 8589934592 && inB x.b (-8589934592) 8589934592) && inB x.k 0 1000) && ((inB y.a (-131072) 131072 && inB y.b (-131072) 131072) && inB y.k 0 10)
theorem oddL_shift : ∀ (f : Nat) (n e : Int), oddL f n e = ((oddL f n 0).1, e + (oddL f n 0).2)
 | 0, n, e => by simp [oddL]
 | f + 1, n, e => by
  unfold oddL
  split
  ·rw [oddL_shift f _ (e + 1), oddL_shift f _ (0 + 1)]
   simp only [Prod.mk.injEq, true_and]
   omega
  ·simp
theorem dvP_iff {x y : N3} : dvP x y = true ↔ ((-8589934592 <= x.a /\ x.a <= 8589934592) /\ (-8589934592 <= x.b /\ x.b <= 8589934592) /\ 0 <= x.k /\ x.k <= 1000) /\ (-131072 <= y.a /\ y.a <= 131072) /\ (-131072 <= y.b /\ y.b <= 131072) /\ 0 <= y.k /\ y.k <= 10 := by
 simp only [dvP, Bool.and_eq_true, inB_iff, and_assoc]
def rawA (x y : N3) : Int := x.a * y.a - 2 * x.b * y.b
def rawB (x y : N3) : Int := x.b * y.a - x.a * y.b
theorem raw_bd {x y : N3} (h : dvP x y = true) : (-3377699720527872 <= rawA x y /\ rawA x y <= 3377699720527872) /\ (-3377699720527872 <= rawB x y /\ rawB x y <= 3377699720527872) /\
  wr (wr (x.a * y.a) - wr (wr (2 * x.b) * y.b)) = rawA x y /\ wr (wr (x.b * y.a) - wr (x.a * y.b)) = rawB x y /\ mulR x (divC y) = ⟨rawA x y, rawB x y, x.k⟩ /\
  divN y = y.a * y.a - 2 * y.b * y.b /\ (-51539607552 <= divN y /\ divN y <= 51539607552) := by
 obtain ⟨⟨⟨xa, xa'⟩, ⟨xb, xb'⟩, xk, xk'⟩, ⟨ya, ya'⟩, ⟨yb, yb'⟩, yk, yk'⟩ := dvP_iff.1 h
 have p1 := mul_bd xa xa' ya ya'
 have p2 := mul_bd xb xb' yb yb'
 have p3 := mul_bd xb xb' ya ya'
 have p4 := mul_bd xa xa' yb yb'
 have p5 := mul_bd ya ya' ya ya'
 have p6 := mul_bd yb yb' yb yb'
 have e1 : 2 * x.b * y.b = 2 * (x.b * y.b) := by grind
 have e2 : 2 * y.b * y.b = 2 * (y.b * y.b) := by grind
 have e3 : x.a * -y.b = -(x.a * y.b) := by grind
 have e4 : 2 * x.b * -y.b = -(2 * (x.b * y.b)) := by grind
 have w1 : wr (2 * x.b) = 2 * x.b := wr_in (by omega) (by omega)
 have w2 : wr (2 * y.b) = 2 * y.b := wr_in (by omega) (by omega)
 have w3 : wr (0 - y.b) = -y.b := by rw [Int.zero_sub]; exact wr_in (by omega) (by omega)
 have w4 : wr (x.a * y.a) = x.a * y.a := wr_in (by omega) (by omega)
 have w5 : wr (x.b * y.a) = x.b * y.a := wr_in (by omega) (by omega)
 have w6 : wr (x.a * y.b) = x.a * y.b := wr_in (by omega) (by omega)
 have w7 : wr (2 * x.b * y.b) = 2 * x.b * y.b := wr_in (by omega) (by omega)
 have w8 : wr (2 * x.b * -y.b) = 2 * x.b * -y.b := wr_in (by omega) (by omega)
 have w9 : wr (x.a * -y.b) = x.a * -y.b := wr_in (by omega) (by omega)
 have wa : wr (y.a * y.a) = y.a * y.a := wr_in (by omega) (by omega)
 have wb : wr (2 * y.b * y.b) = 2 * y.b * y.b := wr_in (by omega) (by omega)
 have hN : divN y = y.a * y.a - 2 * y.b * y.b := by unfold divN; rw [w2, wa, wb]; exact wr_in (by omega) (by omega)
 refine ⟨by unfold rawA; omega, by unfold rawB; omega, ?_, ?_, ?_, hN, by rw [hN]; omega⟩
 ·rw [w1, w4, w7]; exact wr_in (by omega) (by omega)
 ·rw [w5, w6]; exact wr_in (by omega) (by omega)
 ·unfold mulR divC rawA rawB
  simp only
  rw [w1, w3, w4, w5, w8, w9, wr_in (n := x.a * y.a + 2 * x.b * -y.b) (by omega) (by omega), wr_in (n := x.a * -y.b + x.b * y.a) (by omega) (by omega), wr_in (n := x.k + 0) (by omega) (by omega)]
  rw [e3, e4, e1]
  show (⟨_, _, _⟩ : N3) = ⟨_, _, _⟩
  congr 1 <;> omega
theorem tdiv_bd (a n : Int) : (a.tdiv n).natAbs <= a.natAbs := by
 rw [Int.natAbs_tdiv]
 exact Nat.div_le_self _ _
def decF : Nat -> Int -> Int -> Int -> N3
 | 0, a, b, k => ⟨a, b, k⟩
 | m + 1, a, b, k => if k > 0 then decF m a b (wr (k - 1)) else decF m (wr (a * 2)) (wr (b * 2)) k
theorem dblI_in : ∀ (d : Nat) (a : Int), -4611686018427387904 <= a * 2 ^ d -> a * 2 ^ d <= 4611686018427387904 -> dblI d a = a * 2 ^ d
 | 0, a, _, _ => by simp [dblI]
 | d + 1, a, h1, h2 => by
  have e : a * 2 ^ (d + 1) = (a * 2) * 2 ^ d := by rw [Int.pow_succ]; grind
  have hp : (0 : Int) < 2 ^ d := Int.pow_pos (by decide)
  have hb : -4611686018427387904 <= a * 2 /\ a * 2 <= 4611686018427387904 := by
   rw [e] at h1 h2
   generalize hq : (2 : Int) ^ d = q at *
   constructor
   ·apply Int.le_of_not_gt
    intro hc
    have : a * 2 * q <= a * 2 * 1 := Int.mul_le_mul_of_nonpos_left (by omega) (by omega)
    omega
   ·apply Int.le_of_not_gt
    intro hc
    have : a * 2 * 1 <= a * 2 * q := Int.mul_le_mul_of_nonneg_left (by omega) (by omega)
    omega
  simp only [dblI]
  rw [wr_in (by omega) (by omega), dblI_in d (a * 2) (by omega) (by omega), e]
theorem decF_spec : ∀ (m : Nat) (a b k : Int), 0 <= k -> k <= 1152921504606846976 -> decF m a b k = if (m : Int) <= k then ⟨a, b, k - m⟩ else ⟨dblI (m - k).toNat a, dblI (m - k).toNat b, 0⟩
 | 0, a, b, k, h, _ => by simp [decF, h]
 | m + 1, a, b, k, h, h' => by
  unfold decF
  by_cases hk : k > 0
  ·rw [if_pos hk, wr_in (by omega) (by omega), decF_spec m a b (k - 1) (by omega) (by omega)]
   by_cases hm : (m : Int) <= k - 1
   ·rw [if_pos hm, if_pos (by omega)]
    congr 1
    omega
   ·rw [if_neg hm, if_neg (by omega)]
    have : ((m : Int) - (k - 1)).toNat = (((m + 1 : Nat) : Int) - k).toNat := by omega
    rw [this]
  ·have hk0 : k = 0 := by omega
   subst hk0
   rw [if_neg hk, decF_spec m _ _ 0 (by omega) (by omega), if_neg (c := ((m + 1 : Nat) : Int) <= 0) (by omega)]
   have e1 : (((m + 1 : Nat) : Int) - 0).toNat = m + 1 := by omega
   rw [e1]
   by_cases hm : (m : Int) <= 0
   ·have : m = 0 := by omega
    subst this
    simp [dblI]
   ·rw [if_neg hm]
    have e2 : ((m : Int) - 0).toNat = m := by omega
    rw [e2]
    rfl
theorem shF_eq {a : Int} {d : Int} (h0 : 0 <= d) (hd : d <= 64) (h1 : -9223372036854775808 <= a * 2 ^ d.toNat) (h2 : a * 2 ^ d.toNat < 9223372036854775808) : shF a d = a * 2 ^ d.toNat := by
 unfold shF
 rw [Nat.min_eq_left (by omega)]
 exact wr_in h1 h2
theorem pow_bd {c M : Int} {d K : Nat} (hd : d <= K) (h1 : -M <= c) (h2 : c <= M) : -(M * 2 ^ K) <= c * 2 ^ d /\ c * 2 ^ d <= M * 2 ^ K := shF_le hd h1 h2
theorem odd_ne {n : Int} (h : odd n = true) : n ≠ 0 := fun e => by subst e; cases h
theorem dv_same {x y : N3} (h : dvP x y = true) (hn : divN y ≠ 0) : odd (dvOdd y) = true /\ (0 <= dvE y /\ dvE y <= 60) /\ (0 <= (divT x y).k /\ (divT x y).k <= 1000) /\
  ((rawA x y).tmod (dvOdd y) != 0) = ((divT x y).a.tmod (dvOdd y) != 0) /\ ((rawB x y).tmod (dvOdd y) != 0) = ((divT x y).b.tmod (dvOdd y) != 0) /\
  ((divT x y).a.tmod (dvOdd y) = 0 -> (divT x y).b.tmod (dvOdd y) = 0 ->
   red (decF y.k.toNat (wr ((rawA x y).tdiv (dvOdd y))) (wr ((rawB x y).tdiv (dvOdd y))) (x.k + dvE y)) = dvV x y) := by
 obtain ⟨ra, rb, _, _, hm, _, hN⟩ := raw_bd h
 obtain ⟨⟨_, _, xk, xk'⟩, _, _, yk, yk'⟩ := dvP_iff.1 h
 obtain ⟨o1, o2, o3, o4, o5⟩ := oddL_spec 60 (divN y) 0 hn (by
  have : (2 : Nat) ^ 60 = 1152921504606846976 := by decide
  omega)
 have hT : divT x y = red ⟨rawA x y, rawB x y, x.k⟩ := by unfold divT mulF; rw [hm]
 obtain ⟨j, j1, j2, j3⟩ := red_pow (x := ⟨rawA x y, rawB x y, x.k⟩) (kB_iff.2 ⟨xk, by show x.k <= _; omega⟩) (by show _ <= rawA x y; omega) (by show rawA x y < _; omega) (by show _ <= rawB x y; omega) (by show rawB x y < _; omega)
 rw [<- hT] at j1 j2 j3
 simp only at j1 j2 j3
 have tk := red_k (x := ⟨rawA x y, rawB x y, x.k⟩) (kB_iff.2 ⟨xk, by show x.k <= _; omega⟩)
 rw [<- hT] at tk
 simp only at tk
 change odd (dvOdd y) = true at o1
 change dvOdd y ≠ 0 at o2
 change 0 <= dvE y at o4
 change dvE y <= _ at o5
 have key : ∀ (r s : Int), r = s * 2 ^ j -> (r.tmod (dvOdd y) != 0) = (s.tmod (dvOdd y) != 0) := by
  intro r s e
  have : (r.tmod (dvOdd y) = 0) ↔ (s.tmod (dvOdd y) = 0) := by
   rw [<- Int.dvd_iff_tmod_eq_zero, <- Int.dvd_iff_tmod_eq_zero]
   constructor
   ·intro hd; rw [e] at hd; exact dvd_pow_odd o1 j hd
   ·intro hd; rw [e]; exact Int.dvd_mul_of_dvd_left hd
  rw [Bool.eq_iff_iff]
  simp [this]
 refine ⟨o1, ⟨o4, by omega⟩, ⟨tk.1, by omega⟩, key _ _ j1, key _ _ j2, fun za zb => ?_⟩
 obtain ⟨c, hc⟩ := Int.dvd_iff_tmod_eq_zero.2 za
 obtain ⟨d, hd⟩ := Int.dvd_iff_tmod_eq_zero.2 zb
 have qa : (divT x y).a.tdiv (dvOdd y) = c := by rw [hc]; exact Int.mul_tdiv_cancel_left _ o2
 have qb : (divT x y).b.tdiv (dvOdd y) = d := by rw [hd]; exact Int.mul_tdiv_cancel_left _ o2
 have ra' : (rawA x y).tdiv (dvOdd y) = c * 2 ^ j := by rw [j1, hc, Int.mul_assoc]; exact Int.mul_tdiv_cancel_left _ o2
 have rb' : (rawB x y).tdiv (dvOdd y) = d * 2 ^ j := by rw [j2, hd, Int.mul_assoc]; exact Int.mul_tdiv_cancel_left _ o2
 have ba := tdiv_bd (rawA x y) (dvOdd y)
 have bb := tdiv_bd (rawB x y) (dvOdd y)
 rw [ra'] at ba
 rw [rb'] at bb
 have hp : (1 : Int) <= 2 ^ j := by have : (0 : Int) < 2 ^ j := Int.pow_pos (by decide); omega
 have small : ∀ v : Int, (v * 2 ^ j).natAbs <= 3377699720527872 -> -3377699720527872 <= v /\ v <= 3377699720527872 := by
  intro v hv
  have : v.natAbs * 1 <= v.natAbs * (2 ^ j : Int).natAbs := Nat.mul_le_mul_left _ (by omega)
  rw [Int.natAbs_mul] at hv
  omega
 have sc := small c (by omega)
 have sd := small d (by omega)
 unfold dvV dvK
 rw [qa, qb, ra', rb', wr_in (n := c) (by omega) (by omega), wr_in (n := d) (by omega) (by omega), wr_in (n := c * 2 ^ j) (by omega) (by omega), wr_in (n := d * 2 ^ j) (by omega) (by omega)]
 rw [decF_spec _ _ _ _ (by omega) (by omega)]
 generalize hK : (divT x y).k - y.k + dvE y = K
 by_cases hK0 : K < 0
 ·have hw : wr (0 - K) = -K := by rw [Int.zero_sub]; exact wr_in (by omega) (by omega)
  rw [hw]
  simp only [hK0, decide_true, cond_true]
  obtain ⟨i, hi⟩ : ∃ i : Nat, -K = i := ⟨(-K).toNat, by omega⟩
  have e10 : (2 : Int) ^ 10 = 1024 := by decide
  have pc := pow_bd (c := c) (M := 3377699720527872) (d := i) (K := 10) (by omega) (by omega) (by omega)
  have pd := pow_bd (c := d) (M := 3377699720527872) (d := i) (K := 10) (by omega) (by omega) (by omega)
  rw [e10] at pc pd
  have s1 : shF c (-K) = c * 2 ^ i := by rw [hi]; exact shF_eq (by omega) (by omega) (by simp only [Int.toNat_natCast]; omega) (by simp only [Int.toNat_natCast]; omega)
  have s2 : shF d (-K) = d * 2 ^ i := by rw [hi]; exact shF_eq (by omega) (by omega) (by simp only [Int.toNat_natCast]; omega) (by simp only [Int.toNat_natCast]; omega)
  rw [s1, s2]
  by_cases hD : (y.k.toNat : Int) <= x.k + dvE y
  ·rw [if_pos hD]
   obtain ⟨D, hDe⟩ : ∃ D : Nat, x.k + dvE y - y.k.toNat = D := ⟨(x.k + dvE y - y.k.toNat).toNat, by omega⟩
   have hj : j = i + D := by omega
   rw [hDe]
   have e : ∀ v : Int, v * 2 ^ j = v * 2 ^ i * 2 ^ D := fun v => by rw [hj, Int.pow_add]; grind
   rw [e c, e d]
   have := red_scale D (a := c * 2 ^ i) (b := d * 2 ^ i) (k := 0) (by omega) (by omega) (by rw [<- e]; omega) (by rw [<- e]; omega)
   rw [Int.zero_add] at this
   rw [this]
   rfl
  ·rw [if_neg hD]
   obtain ⟨D, hDe⟩ : ∃ D : Nat, (y.k.toNat : Int) - (x.k + dvE y) = D := ⟨((y.k.toNat : Int) - (x.k + dvE y)).toNat, by omega⟩
   have hi2 : i = j + D := by omega
   rw [hDe]
   have e : ∀ v : Int, v * 2 ^ i = v * 2 ^ j * 2 ^ D := fun v => by rw [hi2, Int.pow_add]; grind
   have e' : (D : Int).toNat = D := rfl
   rw [e']
   rw [dblI_in D (c * 2 ^ j) (by rw [<- e]; omega) (by rw [<- e]; omega), dblI_in D (d * 2 ^ j) (by rw [<- e]; omega) (by rw [<- e]; omega), <- e, <- e]
   rfl
 ·have hD : (y.k.toNat : Int) <= x.k + dvE y := by omega
  rw [if_pos hD]
  simp only [hK0, decide_false, cond_false]
  have e : x.k + dvE y - (y.k.toNat : Int) = K + j := by omega
  rw [e]
  exact red_scale j (by omega) (by omega) (by omega) (by omega)
theorem specEnd_eq {x y : N3} (h : dvP x y = true) (hn : divN y ≠ 0) (R : Int -> Int -> Option AV) (hR : ∀ a b, R a b = some (dvYes (red (decF y.k.toNat a b (x.k + dvE y))))) :
  specEnd R (dvOdd y) (rawA x y) (rawB x y) = some (dvR x y) := by
 obtain ⟨o1, o2, o3, k1, k2, k3⟩ := dv_same h hn
 have hne : (dvOdd y == 0) = false := by simpa using odd_ne o1
 have hN : (divN y == 0) = false := by simpa using hn
 unfold specEnd dvR dvOk
 rw [hne, hN, k1, k2]
 cases ha : ((divT x y).a.tmod (dvOdd y) != 0) with
 | true => rfl
 | false =>
  cases hb : ((divT x y).b.tmod (dvOdd y) != 0) with
  | true => rfl
  | false =>
   simp only [Bool.not_false, cond_true, cond_false]
   rw [hR, k3 (by simpa using ha) (by simpa using hb)]
   rfl
end Go.Ev
/- Numbers as whole numbers over a fixed power of two: what sums, products and quotients are worth; lowest form is unique. -/
namespace Go.Ev
structure Val (S : Nat) (x : N3) (A B : Int) : Prop where
 k0 : 0 <= x.k
 kS : x.k <= S
 a : A = x.a * 2 ^ (S - x.k.toNat)
 b : B = x.b * 2 ^ (S - x.k.toNat)
def lowB (x : N3) : Prop := ¬ (x.k > 0 /\ odd x.a = false /\ odd x.b = false)
theorem pow_pos2 (n : Nat) : (1 : Int) <= 2 ^ n := by have : (0 : Int) < 2 ^ n := Int.pow_pos (by decide); omega
theorem abs_le_mul (a : Int) (n : Nat) : a.natAbs <= (a * 2 ^ n).natAbs := by
 rw [Int.natAbs_mul]
 have h := pow_pos2 n
 have : a.natAbs * 1 <= a.natAbs * (2 ^ n : Int).natAbs := Nat.mul_le_mul_left _ (by omega)
 omega
theorem Val.bd {S : Nat} {x : N3} {A B : Int} (h : Val S x A B) : x.a.natAbs <= A.natAbs /\ x.b.natAbs <= B.natAbs := by
 rw [h.a, h.b]
 exact ⟨abs_le_mul _ _, abs_le_mul _ _⟩
theorem wr_small {n : Int} (h : n.natAbs < 9223372036854775808) : wr n = n := wr_in (by omega) (by omega)
theorem wr_wr_add (u v : Int) : wr (wr u + wr v) = wr (u + v) := by
 obtain ⟨p, hp⟩ := wr_add u
 obtain ⟨q, hq⟩ := wr_add v
 exact wr_congr ⟨p + q, by rw [hp, hq]; omega⟩
theorem wr_wr_mul (u v : Int) : wr (wr u * v) = wr (u * v) := by
 obtain ⟨p, hp⟩ := wr_add u
 exact wr_congr ⟨p * v, by rw [hp]; grind⟩
theorem Val.red {S : Nat} {x : N3} {A B : Int} (h : Val S x A B) (hS : S <= 1000000) (hA : A.natAbs < 9223372036854775808) (hB : B.natAbs < 9223372036854775808) : Val S (red x) A B /\ lowB (red x) := by
 obtain ⟨b1, b2⟩ := h.bd
 have k0 := h.k0
 have kS := h.kS
 have hk : kB x.k = true := kB_iff.2 (by omega)
 obtain ⟨j, j1, j2, j3⟩ := red_pow hk (by omega) (by omega) (by omega) (by omega)
 have hr := red_k hk
 have e : S - (Go.Ev.red x).k.toNat = j + (S - x.k.toNat) := by omega
 refine ⟨⟨hr.1, by omega, ?_, ?_⟩, redF_low _ _ _ _ (by omega) (by omega) (by omega)⟩
 ·rw [e, Int.pow_add, <- Int.mul_assoc, <- j1]; exact h.a
 ·rw [e, Int.pow_add, <- Int.mul_assoc, <- j2]; exact h.b
theorem Val.addR {S : Nat} {x y : N3} {A B C D : Int} (h : Val S x A B) (g : Val S y C D) (hS : S <= 1000000) (hA : (A + C).natAbs < 9223372036854775808) (hB : (B + D).natAbs < 9223372036854775808) :
  Val S (addR x y) (A + C) (B + D) := by
 have hk := h.k0
 have hkS := h.kS
 have gk := g.k0
 have gkS := g.kS
 have hg := gmax_bd x.k y.k
 obtain ⟨d, hd⟩ : ∃ d : Nat, gmax x.k y.k - x.k = d := ⟨(gmax x.k y.k - x.k).toNat, by omega⟩
 obtain ⟨e, he⟩ : ∃ e : Nat, gmax x.k y.k - y.k = e := ⟨(gmax x.k y.k - y.k).toNat, by omega⟩
 have wd : wr (gmax x.k y.k - x.k) = d := by rw [hd]; exact wr_in (by omega) (by omega)
 have we : wr (gmax x.k y.k - y.k) = e := by rw [he]; exact wr_in (by omega) (by omega)
 have e1 : S - x.k.toNat = d + (S - (gmax x.k y.k).toNat) := by omega
 have e2 : S - y.k.toNat = e + (S - (gmax x.k y.k).toNat) := by omega
 have key : ∀ (a c : Int), (a * 2 ^ (S - x.k.toNat) + c * 2 ^ (S - y.k.toNat)).natAbs < 9223372036854775808 ->
   a * 2 ^ (S - x.k.toNat) + c * 2 ^ (S - y.k.toNat) = wr (shF a d + shF c e) * 2 ^ (S - (gmax x.k y.k).toNat) := by
  intro a c hb
  have e3 : a * 2 ^ (S - x.k.toNat) + c * 2 ^ (S - y.k.toNat) = (a * 2 ^ d + c * 2 ^ e) * 2 ^ (S - (gmax x.k y.k).toNat) := by
   rw [e1, e2, Int.pow_add, Int.pow_add, <- Int.mul_assoc, <- Int.mul_assoc, <- Int.add_mul]
  have h1 : (a * 2 ^ d + c * 2 ^ e).natAbs < 9223372036854775808 := by
   have := abs_le_mul (a * 2 ^ d + c * 2 ^ e) (S - (gmax x.k y.k).toNat)
   rw [<- e3] at this
   omega
  have h2 : wr (shF a d + shF c e) = a * 2 ^ d + c * 2 ^ e := by
   obtain ⟨p, hp⟩ := shF_spec a d
   obtain ⟨q, hq⟩ := shF_spec c e
   rw [wr_congr (m := a * 2 ^ d + c * 2 ^ e) ⟨p + q, by rw [hp, hq]; omega⟩, wr_small h1]
  rw [h2, e3]
 refine ⟨by show 0 <= gmax x.k y.k; omega, by show gmax x.k y.k <= _; omega, ?_, ?_⟩
 ·have := key x.a y.a (by rw [<- h.a, <- g.a]; exact hA)
  rw [<- h.a, <- g.a] at this
  rw [this]
  show _ = wr (shF x.a (wr (gmax x.k y.k - x.k)) + shF y.a (wr (gmax x.k y.k - y.k))) * _
  rw [wd, we]
  rfl
 ·have := key x.b y.b (by rw [<- h.b, <- g.b]; exact hB)
  rw [<- h.b, <- g.b] at this
  rw [this]
  show _ = wr (shF x.b (wr (gmax x.k y.k - x.k)) + shF y.b (wr (gmax x.k y.k - y.k))) * _
  rw [wd, we]
  rfl
theorem Val.add {S : Nat} {x y : N3} {A B C D : Int} (h : Val S x A B) (g : Val S y C D) (hS : S <= 1000000) (hA : (A + C).natAbs < 9223372036854775808) (hB : (B + D).natAbs < 9223372036854775808) :
  Val S (addF x y) (A + C) (B + D) /\ lowB (addF x y) := (h.addR g hS hA hB).red hS hA hB
theorem Val.mulR {S T : Nat} {x y : N3} {A B C D : Int} (h : Val S x A B) (g : Val T y C D) (hS : S + T <= 1000000) (hA : (A * C + 2 * B * D).natAbs < 9223372036854775808) (hB : (A * D + B * C).natAbs < 9223372036854775808) :
  Val (S + T) (mulR x y) (A * C + 2 * B * D) (A * D + B * C) := by
 have hk := h.k0
 have hkS := h.kS
 have gk := g.k0
 have gkS := g.kS
 have ek : wr (x.k + y.k) = x.k + y.k := wr_in (by omega) (by omega)
 have es : S + T - (x.k + y.k).toNat = (S - x.k.toNat) + (T - y.k.toNat) := by omega
 have key : ∀ (z p q : Int), z = p * 2 ^ (S + T - (x.k + y.k).toNat) -> p.natAbs <= z.natAbs := fun z p q e => by rw [e]; exact abs_le_mul _ _
 have ea : A * C + 2 * B * D = (x.a * y.a + 2 * x.b * y.b) * 2 ^ (S + T - (x.k + y.k).toNat) := by
  rw [h.a, h.b, g.a, g.b, es, Int.pow_add]
  grind
 have eb : A * D + B * C = (x.a * y.b + x.b * y.a) * 2 ^ (S + T - (x.k + y.k).toNat) := by
  rw [h.a, h.b, g.a, g.b, es, Int.pow_add]
  grind
 have wa : wr (wr (x.a * y.a) + wr (wr (2 * x.b) * y.b)) = x.a * y.a + 2 * x.b * y.b := by
  rw [wr_wr_mul, wr_wr_add]
  exact wr_small (Nat.lt_of_le_of_lt (key _ _ 0 ea) hA)
 have wb : wr (wr (x.a * y.b) + wr (x.b * y.a)) = x.a * y.b + x.b * y.a := by
  rw [wr_wr_add]
  exact wr_small (Nat.lt_of_le_of_lt (key _ _ 0 eb) hB)
 refine ⟨by show 0 <= wr (x.k + y.k); omega, by show wr (x.k + y.k) <= _; omega, ?_, ?_⟩
 ·show _ = wr (wr (x.a * y.a) + wr (wr (2 * x.b) * y.b)) * 2 ^ (S + T - (wr (x.k + y.k)).toNat)
  rw [wa, ek]; exact ea
 ·show _ = wr (wr (x.a * y.b) + wr (x.b * y.a)) * 2 ^ (S + T - (wr (x.k + y.k)).toNat)
  rw [wb, ek]; exact eb
theorem Val.mul {S T : Nat} {x y : N3} {A B C D : Int} (h : Val S x A B) (g : Val T y C D) (hS : S + T <= 1000000) (hA : (A * C + 2 * B * D).natAbs < 9223372036854775808) (hB : (A * D + B * C).natAbs < 9223372036854775808) :
  Val (S + T) (mulF x y) (A * C + 2 * B * D) (A * D + B * C) /\ lowB (mulF x y) := (h.mulR g hS hA hB).red hS hA hB
theorem Val.neg {S : Nat} {x : N3} {A B : Int} (h : Val S x A B) (hA : A.natAbs < 9223372036854775808) (hB : B.natAbs < 9223372036854775808) : Val S (negF x) (-A) (-B) := by
 obtain ⟨b1, b2⟩ := h.bd
 have e1 : wr (0 - x.a) = -x.a := by rw [Int.zero_sub]; exact wr_small (by omega)
 have e2 : wr (0 - x.b) = -x.b := by rw [Int.zero_sub]; exact wr_small (by omega)
 refine ⟨h.k0, h.kS, ?_, ?_⟩
 ·show _ = wr (0 - x.a) * 2 ^ (S - x.k.toNat)
  rw [e1, h.a, Int.neg_mul]
 ·show _ = wr (0 - x.b) * 2 ^ (S - x.k.toNat)
  rw [e2, h.b, Int.neg_mul]
theorem Val.sub {S : Nat} {x y : N3} {A B C D : Int} (h : Val S x A B) (g : Val S y C D) (hS : S <= 1000000) (hA : (A - C).natAbs < 9223372036854775808) (hB : (B - D).natAbs < 9223372036854775808)
  (hC : C.natAbs < 9223372036854775808) (hD : D.natAbs < 9223372036854775808) : Val S (subF x y) (A - C) (B - D) /\ lowB (subF x y) := by
 have := h.add (g.neg hC hD) hS (by rw [Int.add_neg_eq_sub]; exact hA) (by rw [Int.add_neg_eq_sub]; exact hB)
 rw [Int.add_neg_eq_sub, Int.add_neg_eq_sub] at this
 exact this
theorem Val.lift {S : Nat} {x : N3} {A B : Int} (h : Val S x A B) (j : Nat) : Val (S + j) x (A * 2 ^ j) (B * 2 ^ j) := by
 have hk := h.k0
 have hkS := h.kS
 have e : S + j - x.k.toNat = (S - x.k.toNat) + j := by omega
 refine ⟨h.k0, by omega, ?_, ?_⟩
 ·rw [e, Int.pow_add, <- Int.mul_assoc, <- h.a]
 ·rw [e, Int.pow_add, <- Int.mul_assoc, <- h.b]
theorem pow_cancel {a b : Int} {n : Nat} (h : a * 2 ^ n = b * 2 ^ n) : a = b := Int.eq_of_mul_eq_mul_right (by have := pow_pos2 n; omega) h
theorem Val.uniq {S : Nat} {x y : N3} {A B : Int} (h : Val S x A B) (g : Val S y A B) (hx : lowB x) (hy : lowB y) : x = y := by
 have key : ∀ {x y : N3}, Val S x A B -> Val S y A B -> lowB y -> y.k <= x.k := by
  intro x y h g hy
  rcases (show x.k < y.k \/ y.k <= x.k by omega) with hl | hl
  ·exfalso
   have hk := h.k0
   have hkS := h.kS
   have gk := g.k0
   have gkS := g.kS
   obtain ⟨j, hj⟩ : ∃ j : Nat, y.k = x.k + j + 1 := ⟨(y.k - x.k - 1).toNat, by omega⟩
   have e : S - x.k.toNat = (j + 1) + (S - y.k.toNat) := by omega
   have ev : ∀ (p q : Int), p * 2 ^ (S - x.k.toNat) = q * 2 ^ (S - y.k.toNat) -> odd q = false := by
    intro p q hpq
    rw [e, Int.pow_add, <- Int.mul_assoc] at hpq
    have := pow_cancel hpq
    rw [<- this, Int.pow_succ, <- Int.mul_assoc]
    unfold odd
    simp
   exact hy ⟨by omega, ev _ _ (h.a.symm.trans g.a), ev _ _ (h.b.symm.trans g.b)⟩
  ·exact hl
 have k1 := key h g hy
 have k2 := key g h hx
 have ek : x.k = y.k := by omega
 have ea := h.a.symm.trans g.a
 have eb := h.b.symm.trans g.b
 rw [ek] at ea eb
 have fa := pow_cancel ea
 have fb := pow_cancel eb
 cases x; cases y
 simp only at ek fa fb
 subst ek fa fb
 rfl
theorem Val.mk0 (a b : Int) : Val 0 ⟨a, b, 0⟩ a b := ⟨Int.le_refl _, Int.le_refl _, by simp, by simp⟩
theorem valid_low {x : N3} (h : validB x = true) : lowB x := by
 obtain ⟨_, _, _, h⟩ := validB_iff.1 h
 rintro ⟨h1, h2, h3⟩
 rcases h with h | h | h
 ·omega
 ·rw [h] at h2; cases h2
 ·rw [h] at h3; cases h3
theorem valid_val {x : N3} (h : validB x = true) : ∃ A B : Int, Val 10 x A B /\ A.natAbs <= 134217728 /\ B.natAbs <= 134217728 := by
 obtain ⟨h1, h2, h3, _⟩ := validB_iff.1 h
 have e : (2 : Int) ^ 10 = 1024 := by decide
 have p1 := shF_le (a := x.a) (M := 131072) (d := 10 - x.k.toNat) (K := 10) (by omega) h1.1 h1.2
 have p2 := shF_le (a := x.b) (M := 131072) (d := 10 - x.k.toNat) (K := 10) (by omega) h2.1 h2.2
 rw [e] at p1 p2
 exact ⟨_, _, ⟨h3.1, h3.2, rfl, rfl⟩, by omega, by omega⟩
theorem Val.div {S E : Nat} {x y : N3} {A B : Int} (h : Val S x A B) (hp : dvP x y = true) (yk : y.k = 0) (ho : dvOdd y = 1 \/ dvOdd y = -1) (hn : divN y ≠ 0) (hE : dvE y = E) (hS : S + E <= 1000)
  (hA : (A * y.a - 2 * B * y.b).natAbs < 9223372036854775808) (hB : (B * y.a - A * y.b).natAbs < 9223372036854775808) :
  dvOk x y = true /\ Val (S + E) (dvV x y) (dvOdd y * (A * y.a - 2 * B * y.b)) (dvOdd y * (B * y.a - A * y.b)) /\ lowB (dvV x y) := by
 obtain ⟨_, y1, y2, _⟩ := dvP_iff.1 hp
 have eC : divC y = ⟨y.a, -y.b, 0⟩ := by unfold divC; rw [Int.zero_sub, wr_in (by omega) (by omega)]
 have e1 : A * y.a + 2 * B * -y.b = A * y.a - 2 * B * y.b := by grind
 have e2 : A * -y.b + B * y.a = B * y.a - A * y.b := by grind
 obtain ⟨hT, _⟩ := h.mul (Val.mk0 y.a (-y.b)) (by omega) (by rw [e1]; exact hA) (by rw [e2]; exact hB)
 rw [<- eC, e1, e2] at hT
 change Val (S + 0) (divT x y) _ _ at hT
 rw [Nat.add_zero] at hT
 obtain ⟨t1, t2⟩ := hT.bd
 have tk := hT.k0
 have tkS := hT.kS
 have hm : ∀ z : Int, z.tmod (dvOdd y) = 0 := fun z => by rcases ho with e | e <;> rw [e] <;> simp
 have hd : ∀ z : Int, z.tdiv (dvOdd y) = dvOdd y * z := fun z => by rcases ho with e | e <;> rw [e] <;> simp
 have hab : ∀ z : Int, (dvOdd y * z).natAbs = z.natAbs := fun z => by rcases ho with e | e <;> rw [e] <;> simp
 have hN : (divN y == 0) = false := by simpa using hn
 refine ⟨?_, ?_⟩
 ·unfold dvOk
  rw [hN, hm, hm]
  rfl
 ·have hK : dvK x y = (divT x y).k + E := by unfold dvK; rw [yk, hE]; omega
  have hK0 : ¬ dvK x y < 0 := by omega
  unfold dvV
  simp only [hK0, decide_false, cond_false]
  rw [hd, hd, wr_small (by rw [hab]; omega), wr_small (by rw [hab]; omega)]
  have hv : Val (S + E) ⟨dvOdd y * (divT x y).a, dvOdd y * (divT x y).b, dvK x y⟩ (dvOdd y * (A * y.a - 2 * B * y.b)) (dvOdd y * (B * y.a - A * y.b)) := by
   have e : S + E - (dvK x y).toNat = S - (divT x y).k.toNat := by omega
   refine ⟨by show 0 <= dvK x y; omega, by show dvK x y <= _; omega, ?_, ?_⟩
   ·show _ = dvOdd y * (divT x y).a * 2 ^ (S + E - (dvK x y).toNat)
    rw [e, Int.mul_assoc (dvOdd y) (divT x y).a, <- hT.a]
   ·show _ = dvOdd y * (divT x y).b * 2 ^ (S + E - (dvK x y).toNat)
    rw [e, Int.mul_assoc (dvOdd y) (divT x y).b, <- hT.b]
  exact hv.red (by omega) (by rw [hab]; exact hA) (by rw [hab]; exact hB)
end Go.Ev
/- Lines: the vectors of the directions, the reflection of points, the common point. -/
namespace Go.Ev
def zP : P2 := ⟨z3, z3⟩
def vecT (d : Int) : P2 :=
 if d = 0 then ⟨⟨1, 0, 0⟩, ⟨0, 0, 0⟩⟩ else if d = 1 then ⟨⟨1, 0, 0⟩, ⟨-1, 1, 0⟩⟩ else if d = 2 then ⟨⟨1, 0, 0⟩, ⟨1, 0, 0⟩⟩ else if d = 3 then ⟨⟨-1, 1, 0⟩, ⟨1, 0, 0⟩⟩
 else if d = 4 then ⟨⟨0, 0, 0⟩, ⟨1, 0, 0⟩⟩ else if d = 5 then ⟨⟨1, -1, 0⟩, ⟨1, 0, 0⟩⟩ else if d = 6 then ⟨⟨-1, 0, 0⟩, ⟨1, 0, 0⟩⟩ else ⟨⟨-1, 0, 0⟩, ⟨-1, 1, 0⟩⟩
def vecP (d : Int) : P2 := if d >= 8 then ⟨negF (vecT (d - 8)).x, negF (vecT (d - 8)).y⟩ else vecT d
def dotF (p q : P2) : N3 := addF (mulF p.x q.x) (mulF p.y q.y)
def crsF (p q : P2) : N3 := subF (mulF p.x q.y) (mulF p.y q.x)
def pkD (p q : P2) : Bool := pkm p.x q.x && (pkm p.y q.y && pk (mulF p.x q.x) (mulF p.y q.y))
def pkC (p q : P2) : Bool := pkm p.x q.y && (pkm p.y q.x && pk (mulF p.x q.y) (mulF p.y q.x))
def timesF (p : P2) (n : N3) : P2 := ⟨mulF p.x n, mulF p.y n⟩
def pkT (p : P2) (n : N3) : Bool := pkm p.x n && pkm p.y n
def subP (p q : P2) : P2 := ⟨subF p.x q.x, subF p.y q.y⟩
def dvF (x y : N3) : N3 := sel (dvOk x y) (dvV x y)
def nrm (d : Int) : P2 := vecP (wr (d + 4))
def rflI (n : P2) (off : N3) (p : P2) : P2 := addP p (timesF n (addF (dvF (subF off (dotF n p)) (dotF n n)) (dvF (subF off (dotF n p)) (dotF n n))))
def rflS (n : P2) (off : N3) (p : P2) : P2 :=
 subP p ⟨mulF (addF (dvF (subF (dotF n p) off) (dotF n n)) (dvF (subF (dotF n p) off) (dotF n n))) n.x, mulF (addF (dvF (subF (dotF n p) off) (dotF n n)) (dvF (subF (dotF n p) off) (dotF n n))) n.y⟩
theorem abs_mul_le {a b : Int} {A B : Nat} (h : a.natAbs <= A) (g : b.natAbs <= B) : (a * b).natAbs <= A * B := by
 rw [Int.natAbs_mul]
 exact Nat.mul_le_mul h g
theorem lin1 {c e A B : Int} {M : Nat} (hc : c.natAbs <= 1) (he : e.natAbs <= 1) (hA : A.natAbs <= M) (hB : B.natAbs <= M) :
  (c * A + 2 * e * B).natAbs <= 3 * M /\ (c * B + e * A).natAbs <= 2 * M /\ (A * c + 2 * B * e).natAbs <= 3 * M /\ (A * e + B * c).natAbs <= 2 * M := by
 have h1 := abs_mul_le hc hA
 have h2 := abs_mul_le he hB
 have h3 := abs_mul_le hc hB
 have h4 := abs_mul_le he hA
 have e1 : 2 * e * B = 2 * (e * B) := by grind
 have e2 : A * c = c * A := by grind
 have e3 : 2 * B * e = 2 * (e * B) := by grind
 have e4 : A * e = e * A := by grind
 have e5 : B * c = c * B := by grind
 rw [e1, e2, e3, e4, e5]
 omega
theorem pk_val {S T : Nat} {x y : N3} {A B C D : Int} (h : Val S x A B) (g : Val T y C D) (hS : S <= 1000) (hT : T <= 1000) : pk x y = true /\ pkm x y = true := by
 have := h.k0
 have := h.kS
 have := g.k0
 have := g.kS
 exact ⟨pk_iff.2 (by omega), pkm_iff.2 (by omega)⟩
structure VB (S : Nat) (x : N3) (A B : Int) (M : Nat) : Prop where
 v : Val S x A B
 a : A.natAbs <= M
 b : B.natAbs <= M
theorem abs_add_le {a b : Int} {A B : Nat} (h : a.natAbs <= A) (g : b.natAbs <= B) : (a + b).natAbs <= A + B := Nat.le_trans (Int.natAbs_add_le a b) (Nat.add_le_add h g)
theorem abs_sub_le {a b : Int} {A B : Nat} (h : a.natAbs <= A) (g : b.natAbs <= B) : (a - b).natAbs <= A + B := by omega
section
variable {S : Nat} {x y : N3} {A B C D : Int} {M K : Nat}
theorem VB.add (h : VB S x A B M) (g : VB S y C D K) (hS : S <= 1000) (hM : M + K < 9223372036854775808) : VB S (addF x y) (A + C) (B + D) (M + K) /\ lowB (addF x y) := by
 have h1 := abs_add_le h.a g.a
 have h2 := abs_add_le h.b g.b
 obtain ⟨r, l⟩ := h.v.add g.v (Nat.le_trans hS (by decide)) (Nat.lt_of_le_of_lt h1 hM) (Nat.lt_of_le_of_lt h2 hM)
 exact ⟨⟨r, h1, h2⟩, l⟩
theorem VB.sub (h : VB S x A B M) (g : VB S y C D K) (hS : S <= 1000) (hM : M + K < 9223372036854775808) : VB S (subF x y) (A - C) (B - D) (M + K) /\ lowB (subF x y) := by
 have h1 := abs_sub_le h.a g.a
 have h2 := abs_sub_le h.b g.b
 have hK : K < 9223372036854775808 := Nat.lt_of_le_of_lt (Nat.le_add_left _ _) hM
 obtain ⟨r, l⟩ := h.v.sub g.v (Nat.le_trans hS (by decide)) (Nat.lt_of_le_of_lt h1 hM) (Nat.lt_of_le_of_lt h2 hM) (Nat.lt_of_le_of_lt g.a hK) (Nat.lt_of_le_of_lt g.b hK)
 exact ⟨⟨r, h1, h2⟩, l⟩
theorem two_three (M : Nat) : 2 * M <= 3 * M := by omega
theorem VB.vmul {c e : Int} (g : Val 0 y c e) (hc : c.natAbs <= 1) (he : e.natAbs <= 1) (h : VB S x A B M) (hS : S <= 1000) (hM : 3 * M < 9223372036854775808) :
  VB S (mulF y x) (c * A + 2 * e * B) (c * B + e * A) (3 * M) /\ lowB (mulF y x) := by
 obtain ⟨h1, h2, _, _⟩ := lin1 hc he h.a h.b
 have h3 := Nat.le_trans h2 (two_three M)
 obtain ⟨r, l⟩ := g.mul h.v (by rw [Nat.zero_add]; exact Nat.le_trans hS (by decide)) (Nat.lt_of_le_of_lt h1 hM) (Nat.lt_of_le_of_lt h3 hM)
 rw [Nat.zero_add] at r
 exact ⟨⟨r, h1, h3⟩, l⟩
theorem VB.mulv {c e : Int} (h : VB S x A B M) (g : Val 0 y c e) (hc : c.natAbs <= 1) (he : e.natAbs <= 1) (hS : S <= 1000) (hM : 3 * M < 9223372036854775808) :
  VB S (mulF x y) (A * c + 2 * B * e) (A * e + B * c) (3 * M) /\ lowB (mulF x y) := by
 obtain ⟨_, _, h1, h2⟩ := lin1 hc he h.a h.b
 have h3 := Nat.le_trans h2 (two_three M)
 obtain ⟨r, l⟩ := h.v.mul g (by rw [Nat.add_zero]; exact Nat.le_trans hS (by decide)) (Nat.lt_of_le_of_lt h1 hM) (Nat.lt_of_le_of_lt h3 hM)
 rw [Nat.add_zero] at r
 exact ⟨⟨r, h1, h3⟩, l⟩
theorem VB.pk (h : VB S x A B M) (g : VB S y C D K) (hS : S <= 1000) : pk x y = true := (pk_val h.v g.v hS hS).1
theorem VB.kB (h : VB S x A B M) (hS : S <= 1000) : Go.Ev.kB x.k = true := kB_iff.2 (by have := h.v.k0; have := h.v.kS; clear h; omega)
end
theorem dot_val {c1 e1 c2 e2 : Int} {S M : Nat} {p : P2} {X1 X2 Y1 Y2 : Int} (h1 : c1.natAbs <= 1) (h2 : e1.natAbs <= 1) (h3 : c2.natAbs <= 1) (h4 : e2.natAbs <= 1) (hx : VB S p.x X1 X2 M) (hy : VB S p.y Y1 Y2 M)
  (hS : S <= 1000) (hM : 3 * M + 3 * M < 9223372036854775808) :
  pkD ⟨⟨c1, e1, 0⟩, ⟨c2, e2, 0⟩⟩ p = true /\ (∃ A B, VB S (dotF ⟨⟨c1, e1, 0⟩, ⟨c2, e2, 0⟩⟩ p) A B (3 * M + 3 * M)) /\ lowB (dotF ⟨⟨c1, e1, 0⟩, ⟨c2, e2, 0⟩⟩ p) := by
 have hM3 : 3 * M < 9223372036854775808 := Nat.lt_of_le_of_lt (Nat.le_add_left _ _) hM
 obtain ⟨m1, _⟩ := VB.vmul (Val.mk0 c1 e1) h1 h2 hx hS hM3
 obtain ⟨m2, _⟩ := VB.vmul (Val.mk0 c2 e2) h3 h4 hy hS hM3
 obtain ⟨a1, a2⟩ := m1.add m2 hS hM
 have hd : dotF ⟨⟨c1, e1, 0⟩, ⟨c2, e2, 0⟩⟩ p = addF (mulF ⟨c1, e1, 0⟩ p.x) (mulF ⟨c2, e2, 0⟩ p.y) := rfl
 have hk : pkD ⟨⟨c1, e1, 0⟩, ⟨c2, e2, 0⟩⟩ p = (pkm ⟨c1, e1, 0⟩ p.x && (pkm ⟨c2, e2, 0⟩ p.y && Go.Ev.pk (mulF ⟨c1, e1, 0⟩ p.x) (mulF ⟨c2, e2, 0⟩ p.y))) := rfl
 rw [hd, hk]
 refine ⟨?_, ⟨_, _, a1⟩, a2⟩
 rw [(pk_val (Val.mk0 c1 e1) hx.v (by decide) hS).2, (pk_val (Val.mk0 c2 e2) hy.v (by decide) hS).2, m1.pk m2 hS]
 rfl
theorem dvP_val {S M : Nat} {x y : N3} {A B : Int} (h : VB S x A B M) (hM : M <= 8589934592) (hS : S <= 1000) (y1 : y.a.natAbs <= 4) (y2 : y.b.natAbs <= 4) (y3 : y.k = 0) : dvP x y = true := by
 obtain ⟨b1, b2⟩ := h.v.bd
 have b1 := Nat.le_trans b1 h.a
 have b2 := Nat.le_trans b2 h.b
 have := h.v.k0
 have := h.v.kS
 clear h
 exact dvP_iff.2 ⟨⟨by omega, by omega, by omega⟩, by omega, by omega, by omega⟩
theorem lin4 {c e A B : Int} {M : Nat} (hc : c.natAbs <= 4) (he : e.natAbs <= 4) (hA : A.natAbs <= M) (hB : B.natAbs <= M) : (A * c - 2 * B * e).natAbs <= 12 * M /\ (B * c - A * e).natAbs <= 12 * M := by
 have h1 := abs_mul_le hA hc
 have h2 := abs_mul_le hB he
 have h3 := abs_mul_le hB hc
 have h4 := abs_mul_le hA he
 have e1 : 2 * B * e = 2 * (B * e) := by grind
 rw [e1]
 clear hA hB hc he
 generalize A * c = u1 at *
 generalize B * e = u2 at *
 generalize B * c = u3 at *
 generalize A * e = u4 at *
 constructor <;> omega
theorem sgn_abs {o z : Int} (h : o = 1 \/ o = -1) : (o * z).natAbs = z.natAbs := by rcases h with rfl | rfl <;> simp
theorem dvF_ok {x y : N3} (h : dvOk x y = true) : dvF x y = dvV x y := by unfold dvF; rw [h]; rfl
theorem VB.div {S E M : Nat} {x y : N3} {A B : Int} (h : VB S x A B M) (y1 : y.a.natAbs <= 4) (y2 : y.b.natAbs <= 4) (yk : y.k = 0) (ho : dvOdd y = 1 \/ dvOdd y = -1) (hn : divN y ≠ 0) (hE : dvE y = E)
  (hS : S + E <= 1000) (hM : 12 * M < 9223372036854775808) (hM' : M <= 8589934592) :
  dvP x y = true /\ dvOk x y = true /\ VB (S + E) (dvF x y) (dvOdd y * (A * y.a - 2 * B * y.b)) (dvOdd y * (B * y.a - A * y.b)) (12 * M) /\ lowB (dvF x y) := by
 have hS' : S <= 1000 := Nat.le_trans (Nat.le_add_right _ _) hS
 have hp := dvP_val h hM' hS' y1 y2 yk
 obtain ⟨l1, l2⟩ := lin4 y1 y2 h.a h.b
 obtain ⟨k, v, w⟩ := h.v.div hp yk ho hn hE hS (Nat.lt_of_le_of_lt l1 hM) (Nat.lt_of_le_of_lt l2 hM)
 rw [<- dvF_ok k] at v w
 exact ⟨hp, k, ⟨v, by rw [sgn_abs ho]; exact l1, by rw [sgn_abs ho]; exact l2⟩, w⟩
structure Nrm (n : P2) (E : Nat) : Prop where
 c : ∃ c1 e1 c2 e2 : Int, n = ⟨⟨c1, e1, 0⟩, ⟨c2, e2, 0⟩⟩ /\ c1.natAbs <= 1 /\ e1.natAbs <= 1 /\ c2.natAbs <= 1 /\ e2.natAbs <= 1
 k : (dotF n n).k = 0
 a : (dotF n n).a.natAbs <= 4
 b : (dotF n n).b.natAbs <= 4
 o : dvOdd (dotF n n) = 1 \/ dvOdd (dotF n n) = -1
 z : divN (dotF n n) ≠ 0
 e : dvE (dotF n n) = E
 l : E <= 3
theorem nrm_all (d : Int) (h : inB d 0 7 = true) : ∃ E, Nrm (nrm d) E := by
 rw [inB_iff] at h
 have : d = 0 \/ d = 1 \/ d = 2 \/ d = 3 \/ d = 4 \/ d = 5 \/ d = 6 \/ d = 7 := by omega
 clear h
 rcases this with rfl | rfl | rfl | rfl | rfl | rfl | rfl | rfl
 ·exact ⟨0, ⟨0, 0, 1, 0, by kernel_rfl, by decide, by decide, by decide, by decide⟩, by decide, by decide, by decide, .inl (by decide), by decide, by decide, by decide⟩
 ·exact ⟨3, ⟨1, -1, 1, 0, by kernel_rfl, by decide, by decide, by decide, by decide⟩, by decide, by decide, by decide, .inl (by decide), by decide, by decide, by decide⟩
 ·exact ⟨2, ⟨-1, 0, 1, 0, by kernel_rfl, by decide, by decide, by decide, by decide⟩, by decide, by decide, by decide, .inl (by decide), by decide, by decide, by decide⟩
 ·exact ⟨3, ⟨-1, 0, -1, 1, by kernel_rfl, by decide, by decide, by decide, by decide⟩, by decide, by decide, by decide, .inl (by decide), by decide, by decide, by decide⟩
 ·exact ⟨0, ⟨-1, 0, 0, 0, by kernel_rfl, by decide, by decide, by decide, by decide⟩, by decide, by decide, by decide, .inl (by decide), by decide, by decide, by decide⟩
 ·exact ⟨3, ⟨-1, 0, 1, -1, by kernel_rfl, by decide, by decide, by decide, by decide⟩, by decide, by decide, by decide, .inl (by decide), by decide, by decide, by decide⟩
 ·exact ⟨2, ⟨-1, 0, -1, 0, by kernel_rfl, by decide, by decide, by decide, by decide⟩, by decide, by decide, by decide, .inl (by decide), by decide, by decide, by decide⟩
 ·exact ⟨3, ⟨1, -1, -1, 0, by kernel_rfl, by decide, by decide, by decide, by decide⟩, by decide, by decide, by decide, .inl (by decide), by decide, by decide, by decide⟩
theorem nrm_in {d : Int} (h : inB d 0 7 = true) : inB (wr (d + 4)) 0 15 = true := by
 rw [inB_iff] at h
 rw [inB_iff, wr_in (by omega) (by omega)]
 omega
theorem pow_le8 {E : Nat} (h : E <= 3) : (2 : Int) ^ E = 1 \/ (2 : Int) ^ E = 2 \/ (2 : Int) ^ E = 4 \/ (2 : Int) ^ E = 8 := by
 have : E = 0 \/ E = 1 \/ E = 2 \/ E = 3 := by omega
 rcases this with rfl | rfl | rfl | rfl <;> simp
theorem lift8 {S E : Nat} {x : N3} {A B : Int} {M : Nat} (h : VB S x A B M) (hE : E <= 3) : ∃ A' B', VB (S + E) x A' B' (8 * M) := by
 have h1 := h.a
 have h2 := h.b
 refine ⟨_, _, h.v.lift E, ?_, ?_⟩ <;> clear h <;> rcases pow_le8 hE with e | e | e | e <;> rw [e] <;> omega
theorem valid_vb {x : N3} (h : validB x = true) : ∃ A B, VB 10 x A B 134217728 := by
 obtain ⟨A, B, v, a, b⟩ := valid_val h
 exact ⟨A, B, v, a, b⟩
theorem refl_same {n : P2} {E : Nat} (hn : Nrm n E) {off : N3} {p : P2} (ho : validB off = true) (hp : valP p = true) :
  pkD n p = true /\ pkD n n = true /\ pk off (dotF n p) = true /\ pk (dotF n p) off = true /\ dvP (subF off (dotF n p)) (dotF n n) = true /\ dvP (subF (dotF n p) off) (dotF n n) = true /\
  (∀ q, q = dvF (subF off (dotF n p)) (dotF n n) -> pk q q = true /\ pkT n (addF q q) = true /\ pkP p (timesF n (addF q q)) = true) /\
  (∀ q, q = dvF (subF (dotF n p) off) (dotF n n) -> pk q q = true /\ pkm (addF q q) n.x = true /\ pkm (addF q q) n.y = true /\ pk p.x (mulF (addF q q) n.x) = true /\ pk p.y (mulF (addF q q) n.y) = true) /\
  rflI n off p = rflS n off p /\ kB (rflI n off p).x.k = true /\ kB (rflI n off p).y.k = true := by
 obtain ⟨⟨c1, e1, c2, e2, hnn, h1, h2, h3, h4⟩, nk, na, nb, no, nz, ne, nl⟩ := hn
 have hS3 : 10 + E <= 1000 := by clear na nb h1 h2 h3 h4; omega
 unfold valP at hp
 rw [Bool.and_eq_true] at hp
 obtain ⟨O1, O2, vo⟩ := valid_vb ho
 obtain ⟨X1, X2, vx⟩ := valid_vb hp.1
 obtain ⟨Y1, Y2, vy⟩ := valid_vb hp.2
 obtain ⟨kd, ⟨Da, Db, vd⟩, _⟩ := dot_val h1 h2 h3 h4 vx vy (by decide) (by decide)
 obtain ⟨kn, _⟩ := dot_val (p := ⟨⟨c1, e1, 0⟩, ⟨c2, e2, 0⟩⟩) (M := 1) h1 h2 h3 h4 ⟨Val.mk0 c1 e1, h1, h2⟩ ⟨Val.mk0 c2 e2, h3, h4⟩ (by decide) (by decide)
 rw [<- hnn] at kd vd kn
 have pk1 := vo.pk vd (by decide)
 have pk2 := vd.pk vo (by decide)
 obtain ⟨v1, _⟩ := vo.sub vd (by decide) (by decide)
 obtain ⟨v2, _⟩ := vd.sub vo (by decide) (by decide)
 obtain ⟨d1, k1, w1, _⟩ := v1.div na nb nk no nz ne hS3 (by decide) (by decide)
 obtain ⟨d2, k2, w2, _⟩ := v2.div na nb nk no nz ne hS3 (by decide) (by decide)
 have n1 : dvOdd (dotF n n) * ((Da - O1) * (dotF n n).a - 2 * (Db - O2) * (dotF n n).b) = -(dvOdd (dotF n n) * ((O1 - Da) * (dotF n n).a - 2 * (O2 - Db) * (dotF n n).b)) := by grind
 have n2 : dvOdd (dotF n n) * ((Db - O2) * (dotF n n).a - (Da - O1) * (dotF n n).b) = -(dvOdd (dotF n n) * ((O2 - Db) * (dotF n n).a - (O1 - Da) * (dotF n n).b)) := by grind
 rw [n1, n2] at w2
 clear n1 n2
 unfold rflI rflS
 generalize dvOdd (dotF n n) * ((O1 - Da) * (dotF n n).a - 2 * (O2 - Db) * (dotF n n).b) = Q1 at w1 w2
 generalize dvOdd (dotF n n) * ((O2 - Db) * (dotF n n).a - (O1 - Da) * (dotF n n).b) = Q2 at w1 w2
 generalize dvF (subF off (dotF n p)) (dotF n n) = qi at *
 generalize dvF (subF (dotF n p) off) (dotF n n) = qs at *
 obtain ⟨t1, _⟩ := w1.add w1 hS3 (by decide)
 obtain ⟨t2, _⟩ := w2.add w2 hS3 (by decide)
 have vx0 : Val 0 n.x c1 e1 := by rw [hnn]; exact Val.mk0 c1 e1
 have vy0 : Val 0 n.y c2 e2 := by rw [hnn]; exact Val.mk0 c2 e2
 obtain ⟨u1, _⟩ := VB.vmul vx0 h1 h2 t1 hS3 (by decide)
 obtain ⟨u2, _⟩ := VB.vmul vy0 h3 h4 t1 hS3 (by decide)
 obtain ⟨u3, _⟩ := t2.mulv vx0 h1 h2 hS3 (by decide)
 obtain ⟨u4, _⟩ := t2.mulv vy0 h3 h4 hS3 (by decide)
 obtain ⟨X1', X2', vx'⟩ := lift8 vx nl
 obtain ⟨Y1', Y2', vy'⟩ := lift8 vy nl
 obtain ⟨r1, r1l⟩ := vx'.add u1 hS3 (by decide)
 obtain ⟨r2, r2l⟩ := vy'.add u2 hS3 (by decide)
 obtain ⟨r3, r3l⟩ := vx'.sub u3 hS3 (by decide)
 obtain ⟨r4, r4l⟩ := vy'.sub u4 hS3 (by decide)
 have f1 : X1' - ((-Q1 + -Q1) * c1 + 2 * (-Q2 + -Q2) * e1) = X1' + (c1 * (Q1 + Q1) + 2 * e1 * (Q2 + Q2)) := by grind
 have f2 : X2' - ((-Q1 + -Q1) * e1 + (-Q2 + -Q2) * c1) = X2' + (c1 * (Q2 + Q2) + e1 * (Q1 + Q1)) := by grind
 have f3 : Y1' - ((-Q1 + -Q1) * c2 + 2 * (-Q2 + -Q2) * e2) = Y1' + (c2 * (Q1 + Q1) + 2 * e2 * (Q2 + Q2)) := by grind
 have f4 : Y2' - ((-Q1 + -Q1) * e2 + (-Q2 + -Q2) * c2) = Y2' + (c2 * (Q2 + Q2) + e2 * (Q1 + Q1)) := by grind
 rw [f1, f2] at r3
 rw [f3, f4] at r4
 refine ⟨kd, kn, pk1, pk2, d1, d2, fun q hq => ?_, fun q hq => ?_, ?_, ?_, ?_⟩
 ·subst hq
  refine ⟨w1.pk w1 hS3, ?_, ?_⟩
  ·unfold pkT
   rw [(pk_val vx0 t1.v (by decide) hS3).2, (pk_val vy0 t1.v (by decide) hS3).2]
   rfl
  ·unfold pkP timesF
   rw [vx'.pk u1 hS3, vy'.pk u2 hS3]
   rfl
 ·subst hq
  exact ⟨w2.pk w2 hS3, (pk_val t2.v vx0 hS3 (by decide)).2, (pk_val t2.v vy0 hS3 (by decide)).2, vx'.pk u3 hS3, vy'.pk u4 hS3⟩
 ·unfold addP subP timesF
  rw [r1.v.uniq r3.v r1l r3l, r2.v.uniq r4.v r2l r4l]
 ·exact r1.kB hS3
 ·exact r2.kB hS3
end Go.Ev
/- Lines: the common point of two lines. -/
namespace Go.Ev
def detB (i j : Int) : Bool :=
 pkC (nrm i) (nrm j) && ((crsF (nrm i) (nrm j)).k == 0 && (decide ((crsF (nrm i) (nrm j)).a.natAbs <= 4) && (decide ((crsF (nrm i) (nrm j)).b.natAbs <= 4) &&
  ((dvOdd (crsF (nrm i) (nrm j)) == 1 || dvOdd (crsF (nrm i) (nrm j)) == -1) && (!(divN (crsF (nrm i) (nrm j)) == 0) && (decide (0 <= dvE (crsF (nrm i) (nrm j))) && decide (dvE (crsF (nrm i) (nrm j)) <= 3)))))))
def dirs : List Int := [0, 1, 2, 3, 4, 5, 6, 7]
theorem det_dirs : (dirs.all fun i => dirs.all fun j => i == j || detB i j) = true := by kernel_rfl
theorem in_dirs {d : Int} (h : inB d 0 7 = true) : d ∈ dirs := by
 rw [inB_iff] at h
 have : d = 0 \/ d = 1 \/ d = 2 \/ d = 3 \/ d = 4 \/ d = 5 \/ d = 6 \/ d = 7 := by omega
 unfold dirs
 simp only [List.mem_cons, List.not_mem_nil, or_false]
 exact this
theorem det_all {i j : Int} (hi : inB i 0 7 = true) (hj : inB j 0 7 = true) (hne : (i == j) = false) : detB i j = true := by
 have h1 := List.all_eq_true.1 det_dirs i (in_dirs hi)
 have h2 := List.all_eq_true.1 h1 j (in_dirs hj)
 rw [hne, Bool.false_or] at h2
 exact h2
def mtX (i j : Int) (a b : N3) : N3 := subF (mulF a (nrm j).y) (mulF b (nrm i).y)
def mtY (i j : Int) (a b : N3) : N3 := subF (mulF b (nrm i).x) (mulF a (nrm j).x)
def mtP (i j : Int) (a b : N3) : P2 := ⟨dvF (mtX i j a b) (crsF (nrm i) (nrm j)), dvF (mtY i j a b) (crsF (nrm i) (nrm j))⟩
theorem meet_ok {i j : Int} {a b : N3} (hi : inB i 0 7 = true) (hj : inB j 0 7 = true) (hne : (i == j) = false) (ha : validB a = true) (hb : validB b = true) :
  pkC (nrm i) (nrm j) = true /\ (pkm a (nrm j).y = true /\ pkm b (nrm i).y = true /\ pk (mulF a (nrm j).y) (mulF b (nrm i).y) = true /\ dvP (mtX i j a b) (crsF (nrm i) (nrm j)) = true /\ dvOk (mtX i j a b) (crsF (nrm i) (nrm j)) = true) /\
  (pkm b (nrm i).x = true /\ pkm a (nrm j).x = true /\ pk (mulF b (nrm i).x) (mulF a (nrm j).x) = true /\ dvP (mtY i j a b) (crsF (nrm i) (nrm j)) = true /\ dvOk (mtY i j a b) (crsF (nrm i) (nrm j)) = true) /\
  kB (mtP i j a b).x.k = true /\ kB (mtP i j a b).y.k = true := by
 have hd := det_all hi hj hne
 unfold detB at hd
 simp only [Bool.and_eq_true, Bool.or_eq_true, decide_eq_true_eq, beq_iff_eq, Bool.not_eq_true', beq_eq_false_iff_ne] at hd
 obtain ⟨hc, hk, na, nb, no, nz, e0, e3⟩ := hd
 obtain ⟨E, hE⟩ : ∃ E : Nat, dvE (crsF (nrm i) (nrm j)) = E := ⟨(dvE (crsF (nrm i) (nrm j))).toNat, by omega⟩
 have hS : 10 + E <= 1000 := by clear na nb; omega
 obtain ⟨Ei, hni⟩ := nrm_all i hi
 obtain ⟨Ej, hnj⟩ := nrm_all j hj
 obtain ⟨⟨c1, e1, c2, e2, hn, h1, h2, h3, h4⟩, _⟩ := hni
 obtain ⟨⟨d1, f1, d2, f2, hm, g1, g2, g3, g4⟩, _⟩ := hnj
 have vix : Val 0 (nrm i).x c1 e1 := by rw [hn]; exact Val.mk0 c1 e1
 have viy : Val 0 (nrm i).y c2 e2 := by rw [hn]; exact Val.mk0 c2 e2
 have vjx : Val 0 (nrm j).x d1 f1 := by rw [hm]; exact Val.mk0 d1 f1
 have vjy : Val 0 (nrm j).y d2 f2 := by rw [hm]; exact Val.mk0 d2 f2
 obtain ⟨A1, A2, va⟩ := valid_vb ha
 obtain ⟨B1, B2, vb⟩ := valid_vb hb
 obtain ⟨p1, _⟩ := va.mulv vjy g3 g4 (by decide) (by decide)
 obtain ⟨p2, _⟩ := vb.mulv viy h3 h4 (by decide) (by decide)
 obtain ⟨p3, _⟩ := vb.mulv vix h1 h2 (by decide) (by decide)
 obtain ⟨p4, _⟩ := va.mulv vjx g1 g2 (by decide) (by decide)
 obtain ⟨q1, _⟩ := p1.sub p2 (by decide) (by decide)
 obtain ⟨q2, _⟩ := p3.sub p4 (by decide) (by decide)
 obtain ⟨r1, r2, r3, _⟩ := q1.div na nb hk no nz hE hS (by decide) (by decide)
 obtain ⟨s1, s2, s3, _⟩ := q2.div na nb hk no nz hE hS (by decide) (by decide)
 exact ⟨hc, ⟨(pk_val va.v vjy (by decide) (by decide)).2, (pk_val vb.v viy (by decide) (by decide)).2, p1.pk p2 (by decide), r1, r2⟩,
  ⟨(pk_val vb.v vix (by decide) (by decide)).2, (pk_val va.v vjx (by decide) (by decide)).2, p3.pk p4 (by decide), s1, s2⟩, r3.kB hS, s3.kB hS⟩
end Go.Ev
/- The reflection as a motion: the program's shift is the reference's. -/
namespace Go.Ev
section
variable {S : Nat} {x y : N3} {A B C D : Int} {M K : Nat}
theorem VB.hmul (h : VB S x A B M) (hS : S <= 1000) (hM : 2 * M < 9223372036854775808) : VB (S + 1) (mulF x hN) (2 * B) A (2 * M) /\ lowB (mulF x hN) := by
 have vh : Val 1 hN 0 1 := ⟨by decide, by decide, by decide, by decide⟩
 have e1 : A * 0 + 2 * B * 1 = 2 * B := by grind
 have e2 : A * 1 + B * 0 = A := by grind
 have h1 : (2 * B).natAbs <= 2 * M := by have := h.b; clear h; omega
 have h2 : A.natAbs <= 2 * M := by have := h.a; clear h; omega
 obtain ⟨r, l⟩ := h.v.mul vh (by clear h; omega) (by rw [e1]; exact Nat.lt_of_le_of_lt h1 hM) (by rw [e2]; exact Nat.lt_of_le_of_lt h2 hM)
 rw [e1, e2] at r
 exact ⟨⟨r, h1, h2⟩, l⟩
theorem VB.negX (h : VB S x A B M) : VB S (negX x) (-A) (-B) M := by
 refine ⟨⟨h.v.k0, h.v.kS, ?_, ?_⟩, by rw [Int.natAbs_neg]; exact h.a, by rw [Int.natAbs_neg]; exact h.b⟩
 ·show _ = -x.a * 2 ^ (S - x.k.toNat)
  rw [h.v.a, Int.neg_mul]
 ·show _ = -x.b * 2 ^ (S - x.k.toNat)
  rw [h.v.b, Int.neg_mul]
theorem VB.negF (h : VB S x A B M) (hM : M < 9223372036854775808) : VB S (negF x) (-A) (-B) M :=
 ⟨h.v.neg (Nat.lt_of_le_of_lt h.a hM) (Nat.lt_of_le_of_lt h.b hM), by rw [Int.natAbs_neg]; exact h.a, by rw [Int.natAbs_neg]; exact h.b⟩
theorem VB.lift1 (h : VB S x A B M) : VB (S + 1) x (2 * A) (2 * B) (2 * M) := by
 have h1 := h.a
 have h2 := h.b
 have hv := h.v.lift 1
 have e : ∀ z : Int, z * 2 ^ 1 = 2 * z := fun z => by omega
 rw [e, e] at hv
 exact ⟨hv, by clear h hv; omega, by clear h hv; omega⟩
theorem VB.more (h : VB S x A B M) (hK : M <= K) : VB S x A B K := ⟨h.v, Nat.le_trans h.a hK, Nat.le_trans h.b hK⟩
theorem vb_zero : VB S z3 0 0 M := ⟨⟨by decide, by show (0 : Int) <= S; omega, by show (0 : Int) = 0 * _; omega, by show (0 : Int) = 0 * _; omega⟩, Nat.zero_le _, Nat.zero_le _⟩
end
structure V4 where
 a : Int
 b : Int
 c : Int
 d : Int
def tvB (t X1 X2 Y1 Y2 : Int) : V4 := cond (t % 2 == 1) ⟨2 * (X2 - Y2), X1 - Y1, 2 * (X2 + Y2), X1 + Y1⟩ ⟨2 * X1, 2 * X2, 2 * Y1, 2 * Y2⟩
def tvR : Nat -> V4 -> V4
 | 0, v => v
 | n + 1, v => ⟨-(tvR n v).c, -(tvR n v).d, (tvR n v).a, (tvR n v).b⟩
theorem rotQ_vb {S M : Nat} {p : P2} {v : V4} (hx : VB S p.x v.a v.b M) (hy : VB S p.y v.c v.d M) : ∀ n, VB S (rotQ n p).x (tvR n v).a (tvR n v).b M /\ VB S (rotQ n p).y (tvR n v).c (tvR n v).d M
 | 0 => ⟨hx, hy⟩
 | n + 1 => by
  obtain ⟨h1, h2⟩ := rotQ_vb hx hy n
  exact ⟨h2.negX, h1⟩
theorem turn_vb {S M : Nat} {x y : N3} {X1 X2 Y1 Y2 : Int} (t : Int) (hx : VB S x X1 X2 M) (hy : VB S y Y1 Y2 M) (hS : S <= 1000) (hM : 2 * (M + M) < 9223372036854775808) :
  VB (S + 1) (turnF t ⟨x, y⟩).x (tvR (t.toNat / 2) (tvB t X1 X2 Y1 Y2)).a (tvR (t.toNat / 2) (tvB t X1 X2 Y1 Y2)).b (2 * (M + M)) /\
  VB (S + 1) (turnF t ⟨x, y⟩).y (tvR (t.toNat / 2) (tvB t X1 X2 Y1 Y2)).c (tvR (t.toNat / 2) (tvB t X1 X2 Y1 Y2)).d (2 * (M + M)) := by
 unfold turnF tvB
 have hMM : M + M < 9223372036854775808 := by clear hx hy; omega
 cases h : (t % 2 == 1) with
 | true =>
  simp only [cond_true]
  refine rotQ_vb (p := rot45 ⟨x, y⟩) ?_ ?_ _
  ·exact ((hx.sub hy hS hMM).1.hmul hS hM).1
  ·exact ((hx.add hy hS hMM).1.hmul hS hM).1
 | false =>
  simp only [cond_false]
  refine rotQ_vb (p := ⟨x, y⟩) (hx.lift1.more ?_) (hy.lift1.more ?_) _ <;> (clear hx hy; omega)
def footF (n : P2) (off : N3) : P2 := ⟨mulF (dvF off (dotF n n)) n.x, mulF (dvF off (dotF n n)) n.y⟩
end Go.Ev
