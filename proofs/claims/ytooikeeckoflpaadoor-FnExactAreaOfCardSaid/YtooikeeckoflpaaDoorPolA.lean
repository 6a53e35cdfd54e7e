/- Polygons: corners as rows of six numbers; the checks of both sides, in plain Lean. -/
import Derived.Test.YtooikeeckoflpaaDoorFrlC
import Derived.Test.YtooikeeckoflpaaDoorClmA
set_option linter.unusedVariables false
set_option linter.unusedSimpArgs false
namespace Go.Ev

def pAt (c : Nat → Nat → Int) (i : Nat) : P2 := ⟨⟨c i 0, c i 1, c i 2⟩, ⟨c i 3, c i 4, c i 5⟩⟩
def dirA (n : Nat) (c : Nat → Nat → Int) (i : Nat) : Int := dirV (pAt c i) (pAt c ((i + 1) % n))
def cpP (p q : P2) : Int := cond (sgF (subF p.x q.x) != 0) (sgF (subF p.x q.x)) (sgF (subF p.y q.y))
def lcF (c : Nat → Nat → Int) : Nat → Nat → Nat → Nat
  | _, 0, l => l
  | i, m + 1, l => lcF c (i + 1) m (cond (decide (cpP (pAt c i) (pAt c l) < 0)) i l)
/-- The turns as the program adds them up. -/
def cvF (n : Nat) (c : Nat → Nat → Int) : Nat → Nat → Int → Int → Bool
  | _, 0, _, s => s == 16
  | i, m + 1, b, s => cond (decide (dirA n c i < 0)) false (cond (decide (b < 0)) false (cond (!(inB (wr (dirA n c i - b) % 16) 1 7)) false (cvF n c (i + 1) m (dirA n c i) (wr (s + wr (dirA n c i - b) % 16)))))
def allP (n : Nat) (c : Nat → Nat → Int) : Bool := allF (fun i => valP (pAt c i)) 0 n
def cvI (n : Nat) (c : Nat → Nat → Int) : Bool := cvF n c 0 n (dirV (pAt c (n - 1)) (pAt c 0)) 0
def vpI (n : Nat) (c : Nat → Nat → Int) : Bool := inB n 3 16 && (allP n c && (cvI n c && ((lcF c 0 n 0 : Nat) : Int) == 0))
/-- Rows that are appended one by one. -/
def appF (g : Nat → List Int) : Nat → Nat → (Nat → Nat → Int) → Nat → Nat → Int
  | _, 0, d => d
  | i, m + 1, d => appF g (i + 1) m (catC i d (listC [g i]))
def wideC (n : Nat) (c : Nat → Nat → Int) : Nat → Nat → Int := appF (rowL 6 c) 0 n zeroC
def ltz (x : Int) : Bool := decide (x < 0)
def okD (n : Nat) (c : Nat → Nat → Int) : Bool := allF (fun i => !(ltz (dirA n c i))) 0 n
def oneC (x : Int) : Nat → Nat → Int := fun i _ => [x].getD i 0
def appO (g : Nat → Int) : Nat → Nat → (Nat → Nat → Int) → Nat → Nat → Int
  | _, 0, d => d
  | i, m + 1, d => appO g (i + 1) m (catC i d (oneC (g i)))
def sidC (n : Nat) (c : Nat → Nat → Int) : Nat → Nat → Int := appO (dirA n c) 0 n zeroC
/-- The turns as the reference adds them up; e: the directions of the sides. -/
def cvS (n : Nat) (e : Nat → Nat → Int) : Nat → Nat → Int → Bool
  | _, 0, s => s == 16
  | i, m + 1, s => cond (!(inB (wr (e ((i + 1) % n) 0 - e i 0) % 16) 1 7)) false (cvS n e (i + 1) m (wr (s + wr (e ((i + 1) % n) 0 - e i 0) % 16)))
def befS (c : Nat → Nat → Int) (i : Nat) : Bool := valP (pAt c i) && (decide (i = 0) || decide (cpP (pAt c 0) (pAt c i) < 0))
def vpS (n : Nat) (c : Nat → Nat → Int) : Bool := cond (decide ((n : Int) < 3)) false (cond (decide ((n : Int) > 16)) false (allF (befS c) 0 n && (okD n c && cvS n (sidC n c) 0 n 0)))
theorem tmod_cast (a b : Nat) : Int.tmod (a : Int) (b : Int) = ((a % b : Nat) : Int) := by
  rw [Int.tmod_eq_emod_of_nonneg (by omega)]
  simp
theorem blt_false {a k : Nat} (h : ¬ a < k) : Nat.blt a k = false := by
  cases e : Nat.blt a k with
  | false => rfl
  | true => exact absurd (Nat.le_of_ble_eq_true e) (by omega)
theorem catC_at (k : Nat) (d : Nat → Nat → Int) (g : List Int) (a j : Nat) : catC k d (listC [g]) a j = if a < k then d a j else if a = k then g.getD j 0 else 0 := by
  unfold catC
  by_cases h : a < k
  · rw [if_pos h, show Nat.blt a k = true from Nat.ble_eq_true_of_le h]
  · rw [if_neg h, blt_false h]
    by_cases e : a = k
    · subst e; rw [if_pos rfl]; simp [listC, List.getD]
    · rw [if_neg e]
      obtain ⟨q, hq⟩ : ∃ q, a - k = q + 1 := ⟨a - k - 1, by omega⟩
      simp [listC, List.getD, hq]
theorem appF_at (g : Nat → List Int) : ∀ (m i : Nat) (d : Nat → Nat → Int) (a j : Nat), a < i + m → appF g i m d a j = if i ≤ a then (g a).getD j 0 else d a j := by
  intro m
  induction m with
  | zero => intro i d a j h; rw [if_neg (by omega)]; rfl
  | succ m ih =>
    intro i d a j h
    simp only [appF]
    rw [ih (i + 1) _ a j (by omega)]
    by_cases h1 : i + 1 ≤ a
    · rw [if_pos h1, if_pos (by omega)]
    · rw [if_neg h1, catC_at]
      by_cases h2 : a < i
      · rw [if_pos h2, if_neg (by omega)]
      · rw [if_neg h2, if_pos (by omega), if_pos (by omega)]
        rw [show a = i by omega]
theorem catO_at (k : Nat) (d : Nat → Nat → Int) (x : Int) (a j : Nat) : catC k d (oneC x) a j = if a < k then d a j else if a = k then x else 0 := by
  unfold catC
  by_cases h : a < k
  · rw [if_pos h, show Nat.blt a k = true from Nat.ble_eq_true_of_le h]
  · rw [if_neg h, blt_false h]
    by_cases e : a = k
    · subst e; rw [if_pos rfl]; simp [oneC, List.getD]
    · rw [if_neg e]
      obtain ⟨q, hq⟩ : ∃ q, a - k = q + 1 := ⟨a - k - 1, by omega⟩
      simp [oneC, List.getD, hq]
theorem appO_at (g : Nat → Int) : ∀ (m i : Nat) (d : Nat → Nat → Int) (a j : Nat), a < i + m → appO g i m d a j = if i ≤ a then g a else d a j := by
  intro m
  induction m with
  | zero => intro i d a j h; rw [if_neg (by omega)]; rfl
  | succ m ih =>
    intro i d a j h
    simp only [appO]
    rw [ih (i + 1) _ a j (by omega)]
    by_cases h1 : i + 1 ≤ a
    · rw [if_pos h1, if_pos (by omega)]
    · rw [if_neg h1, catO_at]
      by_cases h2 : a < i
      · rw [if_pos h2, if_neg (by omega)]
      · rw [if_neg h2, if_pos (by omega), if_pos (by omega)]
        rw [show a = i by omega]
theorem wide_at {n : Nat} {c : Nat → Nat → Int} {i : Nat} (h : i < n) : pAt (wideC n c) i = pAt c i := by
  have e : ∀ j, j < 6 → wideC n c i j = c i j := fun j hj => by
    unfold wideC
    rw [appF_at _ _ _ _ _ _ (by omega), if_pos (Nat.zero_le _)]
    simp [rowL, List.getD, hj]
  simp only [pAt, e 0 (by decide), e 1 (by decide), e 2 (by decide), e 3 (by decide), e 4 (by decide), e 5 (by decide)]
theorem dirA_wide {n : Nat} {c : Nat → Nat → Int} {i : Nat} (h : i < n) : dirA n (wideC n c) i = dirA n c i := by
  unfold dirA
  rw [wide_at h, wide_at (Nat.mod_lt _ (by omega))]
theorem sid_at {n : Nat} {c : Nat → Nat → Int} {i : Nat} (h : i < n) : sidC n c i 0 = dirA n c i := by
  unfold sidC
  rw [appO_at _ _ _ _ _ _ (by omega), if_pos (Nat.zero_le _)]
end Go.Ev
namespace Go.Ev
theorem allP_iff {n : Nat} {c : Nat → Nat → Int} : allP n c = true ↔ ∀ i, i < n → valP (pAt c i) = true := by
  unfold allP
  rw [allF_iff]
  exact ⟨fun h i hi => h i (Nat.zero_le _) (by omega), fun h i _ hi => h i (by omega)⟩
end Go.Ev
namespace Go.Ev
theorem appF_congr {g g' : Nat → List Int} : ∀ (m i : Nat) (d : Nat → Nat → Int), (∀ j, i ≤ j → j < i + m → g j = g' j) → appF g i m d = appF g' i m d := by
  intro m
  induction m with
  | zero => intro i d h; rfl
  | succ m ih => intro i d h; simp only [appF]; rw [h i (Nat.le_refl _) (by omega), ih (i + 1) _ fun j h1 h2 => h j (by omega) (by omega)]
theorem appO_congr {g g' : Nat → Int} : ∀ (m i : Nat) (d : Nat → Nat → Int), (∀ j, i ≤ j → j < i + m → g j = g' j) → appO g i m d = appO g' i m d := by
  intro m
  induction m with
  | zero => intro i d h; rfl
  | succ m ih => intro i d h; simp only [appO]; rw [h i (Nat.le_refl _) (by omega), ih (i + 1) _ fun j h1 h2 => h j (by omega) (by omega)]
theorem sidC_wide (n : Nat) (c : Nat → Nat → Int) : sidC n (wideC n c) = sidC n c := by
  unfold sidC
  exact appO_congr _ _ _ fun j _ hj => by rw [dirA_wide (by omega)]
theorem okD_wide (n : Nat) (c : Nat → Nat → Int) : okD n (wideC n c) = okD n c := by
  unfold okD
  exact allF_congr fun j _ hj => by rw [dirA_wide (by omega)]
theorem allP_wide {n : Nat} {c : Nat → Nat → Int} : allP n (wideC n c) = allP n c := by
  unfold allP
  exact allF_congr fun j _ hj => by rw [wide_at (by omega)]
theorem dirA_in {n : Nat} {c : Nat → Nat → Int} (hn : 0 < n) (hv : ∀ i, i < n → valP (pAt c i) = true) {i : Nat} (hi : i < n) : inB (dirA n c i) 0 15 = true ∨ dirA n c i = -1 :=
  (dir_back (hv i hi) (hv _ (Nat.mod_lt _ hn))).2.2
theorem dirA_ok {n : Nat} {c : Nat → Nat → Int} (hn : 0 < n) (hv : ∀ i, i < n → valP (pAt c i) = true) (ho : okD n c = true) {i : Nat} (hi : i < n) : inB (dirA n c i) 0 15 = true := by
  rcases dirA_in hn hv hi with h | h
  · exact h
  · have := allF_iff.1 ho i (Nat.zero_le _) (by omega)
    rw [h] at this
    cases this
end Go.Ev
namespace Go.Ev
/-- A difference, cell by cell: for the kernel's sake. -/
def sP (p q : P2) : P2 := ⟨⟨(subP p q).x.a, (subP p q).x.b, (subP p q).x.k⟩, ⟨(subP p q).y.a, (subP p q).y.b, (subP p q).y.k⟩⟩
theorem sP_eq (p q : P2) : sP p q = subP p q := rfl
end Go.Ev
