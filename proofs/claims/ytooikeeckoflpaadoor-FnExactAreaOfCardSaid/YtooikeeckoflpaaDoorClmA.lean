/- Certificates: their form, in plain Lean. -/
import Derived.Test.YtooikeeckoflpaaDoorLstA
set_option linter.unusedVariables false
set_option linter.unusedSimpArgs false
namespace Go.Ev

def nodeB (k v x r : Int) : Bool := cond (k == 1) (inB v 0 199 && (x == 0 && r == 0)) (cond (k == 2) ((inB v 0 199 && inB r 0 2999) && (x == 1 || x == -1)) (cond (k == 3) ((inB r 0 2999 && v == 0) && x == 0) false))
def nodeAt (d : Nat → Nat → Int) (i : Nat) : Bool := nodeB (d i 0) (d i 1) (d i 2) (d i 3)
def idxF (p : Nat → Bool) : Nat → Nat → Int
  | _, 0 => -1
  | i, m + 1 => cond (p i) (i : Int) (idxF p (i + 1) m)
theorem idxF_ge {p : Nat → Bool} {m : Nat} : ∀ {i : Nat}, decide (idxF p i m ≥ 0) = !(allF (fun j => !(p j)) i m) := by
  induction m with
  | zero => intro i; rfl
  | succ m ih =>
    intro i
    simp only [idxF, allF]
    by_cases h : p i = true
    · simp [h]
    · simpa [h] using ih
def sqF : Nat → Int → Int → Int
  | 0, _, _ => 0
  | m + 1, k, l => cond (k * k == l) k (sqF m (k + 1) l)
def sqO : Nat → Int → Int → Option AV
  | 0, _, _ => some (iv 0)
  | m + 1, k, l => cond (k * k == l) (some (iv k)) (sqO m (k + 1) l)
def sqP : Nat → Int → Int → Option AV
  | 0, _, _ => some (iv 0)
  | m + 1, k, l => cond (l == k * k) (some (iv k)) (sqP m (k + 1) l)
theorem sqO_eq (l : Int) : ∀ (m : Nat) (k : Int), sqO m k l = some (iv (sqF m k l)) := by
  intro m
  induction m with
  | zero => intro k; rfl
  | succ m ih => intro k; simp only [sqO, sqF]; cases k * k == l <;> simp [ih]
theorem sqP_eq (l : Int) : ∀ (m : Nat) (k : Int), sqP m k l = some (iv (sqF m k l)) := by
  intro m
  induction m with
  | zero => intro k; rfl
  | succ m ih =>
    intro k
    simp only [sqP, sqF]
    rw [show (l == k * k) = (k * k == l) from BEq.comm]
    cases k * k == l <;> simp [ih]
theorem sqF_in (l : Int) : ∀ (m : Nat) (k : Int), 1 ≤ k → sqF m k l = 0 ∨ (1 ≤ sqF m k l ∧ sqF m k l < k + m ∧ sqF m k l * sqF m k l = l) := by
  intro m
  induction m with
  | zero => intro k _; exact .inl rfl
  | succ m ih =>
    intro k hk
    simp only [sqF]
    cases h : k * k == l with
    | true => exact .inr ⟨hk, by simp only [cond_true]; omega, by simpa using h⟩
    | false =>
      simp only [cond_false]
      rcases ih (k + 1) (by omega) with h | ⟨h1, h2, h3⟩
      · exact .inl h
      · exact .inr ⟨h1, by omega, h3⟩
def sqN (n : Nat) : Nat := (sqF 24 1 n).toNat
theorem sqN_cast (n : Nat) : sqF 24 1 n = (sqN n : Int) := by
  unfold sqN
  rcases sqF_in n 24 1 (by omega) with h | ⟨h1, _, _⟩
  · rw [h]; rfl
  · omega
theorem sqN_le (n : Nat) : sqN n ≤ 24 := by
  have := sqN_cast n
  rcases sqF_in n 24 1 (by omega) with h | ⟨h1, h2, _⟩ <;> omega
theorem sqN_sq {n : Nat} (h : 0 < sqN n) : sqN n * sqN n = n := by
  have e := sqN_cast n
  rcases sqF_in n 24 1 (by omega) with h' | ⟨_, _, h3⟩
  · omega
  · rw [e] at h3
    exact Int.ofNat.inj (by simpa using h3)
/-- Is the element at row i, column k fit? -/
def pS (N : Nat) (c : Nat → Nat → Int) (i k : Nat) : Bool := inB (c (i * N + k) 0) (-1) 1 && (c (i * N + k) 0 == wr (0 - c (k * N + i) 0))
def ordI (N : Nat) (c : Nat → Nat → Int) : Bool := allF (fun i => allF (pS N c i) 0 N) 0 N
def ordS (N : Nat) (c : Nat → Nat → Int) : Bool := allF (fun i => allF (pS N c i) 0 (i + 1)) 0 N
theorem wr_mod (x : Int) : ∃ k : Int, wr x = x + k * 18446744073709551616 := by
  unfold wr
  simp only [IntKind.wrap, IntKind.bits, IntKind.signed]
  exact ⟨-((x + 9223372036854775808) / 18446744073709551616), by simp; omega⟩
theorem wr_rng (x : Int) : -9223372036854775808 ≤ wr x ∧ wr x < 9223372036854775808 := by
  unfold wr
  simp only [IntKind.wrap, IntKind.bits, IntKind.signed]
  simp; omega
theorem ord_eq (N : Nat) (c : Nat → Nat → Int) (hc : ∀ i, -9223372036854775808 ≤ c i 0 ∧ c i 0 < 9223372036854775808) : ordS N c = ordI N c := by
  have flip : ∀ i k, pS N c i k = true → pS N c k i = true := fun i k h => by
    simp only [pS, Bool.and_eq_true, beq_iff_eq, inB, decide_eq_true_eq] at h ⊢
    obtain ⟨⟨h1, h2⟩, h3⟩ := h
    obtain ⟨q, hq⟩ := wr_mod (0 - c (k * N + i) 0)
    have := hc (k * N + i)
    have hw : wr (0 - c (i * N + k) 0) = 0 - c (i * N + k) 0 := wr_in (by omega) (by omega)
    rw [hw]
    omega
  rw [Bool.eq_iff_iff, ordS, ordI, allF_iff, allF_iff]
  constructor
  · intro h i h1 h2
    refine allF_iff.2 fun k h3 h4 => ?_
    by_cases e : k ≤ i
    · exact allF_iff.1 (h i h1 h2) k h3 (by omega)
    · exact flip k i (allF_iff.1 (h k (by omega) (by omega)) i (by omega) (by omega))
  · intro h i h1 h2
    exact allF_iff.2 fun k h3 h4 => allF_iff.1 (h i h1 h2) k h3 (by omega)
theorem idx_cast {i N k : Nat} (h1 : i ≤ 1000) (h2 : N ≤ 1000) (h3 : k ≤ 1000) : wr (wr ((i : Int) * (N : Int)) + (k : Int)) = ((i * N + k : Nat) : Int) := by
  have : i * N ≤ 1000 * 1000 := Nat.mul_le_mul h1 h2
  have e : (i : Int) * (N : Int) = ((i * N : Nat) : Int) := by simp
  rw [e, wr_in (n := ((i * N : Nat) : Int)) (by omega) (by omega), wr_in (by omega) (by omega)]
  simp
theorem idx_lt {i N k : Nat} (h1 : i < N) (h2 : k < N) : i * N + k < N * N := by
  have : (i + 1) * N ≤ N * N := Nat.mul_le_mul_right N h1
  rw [Nat.add_mul, Nat.one_mul] at this
  omega
def certB (o : Bool) (k a b : Int) (n m : Nat) (d : Nat → Nat → Int) : Bool :=
  !((!(k == 1) && decide ((n : Int) > 0)) || (!(k == 4) && decide ((m : Int) > 0))) && cond (k == 1) (a == 0 && (b == 0 && o))
    (cond (k == 2) (inB a 0 39 && inB b 1 3) (cond (k == 3) (inB b 0 69 && inB a 0 (wr (b - 1))) (cond (k == 4) (a == 0 && (b == 0 && (inB m 1 500 && allF (nodeAt d) 0 m))) false)))
def clV (o : Bool) (k a b : Int) (n m : Nat) (d : Nat → Nat → Int) : Int := cond (certB o k a b n m d) (cond (k == 1) 1 (-1)) 0
def ordVS (n : Nat) (c : Nat → Nat → Int) : Bool := ordS (sqN n) c && decide ((sqN n : Int) > 0)
def ordVI (n : Nat) (c : Nat → Nat → Int) : Bool := ordI (sqN n) c && decide ((sqN n : Int) > 0)
def szT (n m : Nat) (l : Int) : Int := cond (decide (szF n l < 0)) (-1) (cond (decide (szF m (szF n l) < 0)) (-1) (szF m (szF n l)))
/-- A guard before a form of checks. -/
theorem guard_ok {k : Int} {n m : Nat} {x : Bool} (f : Bool → Option AV) (F3 : Option AV) (h : F3 = f x) (o : Bool) : cond (!(k == 1)) (cond (decide ((n : Int) > 0)) (f false) (cond (!(k == 4)) (cond (decide ((m : Int) > 0)) (f false) F3) F3)) (cond (!(k == 4)) (cond (decide ((m : Int) > 0)) (f false) F3) F3)
    = f (!((!(k == 1) && decide ((n : Int) > 0)) || (!(k == 4) && decide ((m : Int) > 0))) && x) := by
  subst h
  cases k == 1 <;> cases decide ((n : Int) > 0) <;> cases k == 4 <;> cases decide ((m : Int) > 0) <;> rfl
theorem joint_eq (a b : Int) : (inB a 0 69 && (inB b 0 69 && decide (a < b))) = (inB b 0 69 && inB a 0 (wr (b - 1))) := by
  rw [Bool.eq_iff_iff]
  simp only [Bool.and_eq_true, inB, decide_eq_true_eq]
  constructor
  · rintro ⟨⟨h1, h2⟩, ⟨h3, h4⟩, h5⟩
    rw [wr_in (by omega) (by omega)]
    omega
  · rintro ⟨⟨h3, h4⟩, h1, h2⟩
    rw [wr_in (by omega) (by omega)] at h2
    omega
end Go.Ev
namespace Go.Ev
theorem nodeI_eq (v x y z : Int) : cond (!(inB x 0 199)) (some (bv false)) (cond (!(inB z 0 2999)) (some (bv false)) (cond (v == 1) (cond (y == 0) (some (bv (z == 0))) (some (bv false))) (cond (v == 2) (some (bv (y == 1 || y == -1))) (cond (v == 3) (cond (x == 0) (some (bv (y == 0))) (some (bv false))) (some (bv false)))))) = some (bv (nodeB v x y z)) := by
  unfold nodeB
  by_cases h1 : v = 1
  · subst h1
    by_cases hz : z = 0
    · subst hz; cases inB x 0 199 <;> cases y == 0 <;> rfl
    · have : (z == 0) = false := by simpa using hz
      rw [this]
      cases inB x 0 199 <;> cases inB z 0 2999 <;> cases y == 0 <;> rfl
  · have e1 : (v == 1) = false := by simpa using h1
    rw [e1]
    by_cases h3 : v = 3
    · subst h3
      by_cases hx : x = 0
      · subst hx; cases inB z 0 2999 <;> cases y == 0 <;> rfl
      · have : (x == 0) = false := by simpa using hx
        rw [this]
        cases inB x 0 199 <;> cases inB z 0 2999 <;> cases y == 0 <;> rfl
    · have e3 : (v == 3) = false := by simpa using h3
      rw [e3]
      cases v == 2 <;> cases inB x 0 199 <;> cases inB z 0 2999 <;> rfl
end Go.Ev
namespace Go.Ev
theorem szT_ok {n m : Nat} (h1 : n ≤ 9223372036854775807) (h2 : m ≤ 9223372036854775807) (h : 0 ≤ szT n m 1048576) : n ≤ 1048576 ∧ m ≤ 1048576 := by
  unfold szT at h
  by_cases e : szF n 1048576 < 0
  · rw [show decide (szF n 1048576 < 0) = true from decide_eq_true e] at h
    simp at h
  · obtain ⟨a1, a2⟩ := szF_ok (n := n) (l := 1048576) (by omega) (by omega) h1 (by omega)
    rw [show decide (szF n 1048576 < 0) = false from decide_eq_false e] at h
    by_cases e2 : szF m (szF n 1048576) < 0
    · rw [show decide (szF m (szF n 1048576) < 0) = true from decide_eq_true e2] at h
      simp at h
    · obtain ⟨b1, b2⟩ := szF_ok (n := m) (l := szF n 1048576) (by omega) (by omega) h2 (by omega)
      omega
theorem rowSet_at (c : Nat → Nat → Int) (i : Nat) (xs : List Int) (a j : Nat) : rowSet c i 0 xs a j = if a = i ∧ j < xs.length then xs.getD j 0 else c a j := by
  have e : (Nat.beq a i && (Nat.ble 0 j && Nat.blt j (0 + xs.length))) = decide (a = i ∧ j < xs.length) := by
    rw [Bool.eq_iff_iff]
    simp only [Bool.and_eq_true, Nat.beq_eq, Nat.ble_eq, Nat.blt, decide_eq_true_eq]
    omega
  unfold rowSet
  rw [e]
  by_cases h : a = i ∧ j < xs.length
  · rw [if_pos h, decide_eq_true h]; rfl
  · rw [if_neg h, decide_eq_false h]
theorem setsF_at (g : Nat → List Int) : ∀ (m i : Nat) (d : Nat → Nat → Int) (a j : Nat), setsF g i m d a j = if i ≤ a ∧ a < i + m ∧ j < (g a).length then (g a).getD j 0 else d a j := by
  intro m
  induction m with
  | zero => intro i d a j; rw [if_neg (by omega)]; rfl
  | succ m ih =>
    intro i d a j
    simp only [setsF]
    rw [ih]
    by_cases h1 : i + 1 ≤ a ∧ a < i + 1 + m ∧ j < (g a).length
    · rw [if_pos h1, if_pos (by omega)]
    · rw [if_neg h1]
      rw [rowSet_at]
      by_cases e : a = i
      · subst e
        by_cases hj : j < (g a).length
        · rw [if_pos ⟨rfl, hj⟩, if_pos (by omega)]
        · rw [if_neg (fun h => hj h.2), if_neg (by omega)]
      · rw [if_neg (fun h => e h.1), if_neg (by omega)]
theorem cpC_at {w n : Nat} (c : Nat → Nat → Int) {a j : Nat} : cpC w n c a j = if a < n ∧ j < w then c a j else 0 := by
  unfold cpC
  rw [setsF_at]
  have hl : (rowL w c a).length = w := by simp [rowL]
  by_cases h : a < n ∧ j < w
  · rw [if_pos (by omega), if_pos h]
    simp [rowL, List.getD, h.2]
  · rw [if_neg (by omega), if_neg h]
theorem cp1_rng {n : Nat} {c : Nat → Nat → Int} (h : allF (fun i => inB (c i 0) (-9223372036854775808) 9223372036854775807) 0 n = true) (i : Nat) : -9223372036854775808 ≤ cpC 1 n c i 0 ∧ cpC 1 n c i 0 < 9223372036854775808 := by
  rw [cpC_at]
  split
  · rename_i g
    have := allF_iff.1 h i (Nat.zero_le _) (by omega)
    simp only [inB, Bool.and_eq_true, decide_eq_true_eq] at this
    omega
  · omega
theorem ordV_eq (n : Nat) (c : Nat → Nat → Int) (hc : ∀ i, -9223372036854775808 ≤ c i 0 ∧ c i 0 < 9223372036854775808) : ordVS n c = ordVI n c := by
  unfold ordVS ordVI
  rw [ord_eq _ _ hc]
end Go.Ev
