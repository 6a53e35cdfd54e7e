/- Lists: loops over their elements, in plain Lean. -/
import Derived.Test.YtooikeeckoflpaaDoorNumA
set_option linter.unusedVariables false
set_option linter.unusedSimpArgs false
namespace Go.Ev

def allF (p : Nat → Bool) : Nat → Nat → Bool
  | _, 0 => true
  | i, m + 1 => p i && allF p (i + 1) m
def setsF (g : Nat → List Int) : Nat → Nat → (Nat → Nat → Int) → Nat → Nat → Int
  | _, 0, d => d
  | i, m + 1, d => setsF g (i + 1) m (rowSet d i 0 (g i))
abbrev zeroC : Nat → Nat → Int := fun _ _ => 0
/-- A frame: the temporaries, then the slots. -/
def st2 (n : Nat) (l r : List AV) : List AV := l ++ List.replicate (n - l.length) .non ++ r
theorem wr_succ {i : Nat} (h : i < 4611686018427387904) : wr ((i : Int) + 1) = ((i + 1 : Nat) : Int) := by
  rw [wr_in (by omega) (by omega)]; simp
theorem nat_nn (i : Nat) : decide (0 ≤ (i : Int)) = true := by simp
theorem nat_lt (i n : Nat) : decide ((i : Int) < (n : Int)) = decide (i < n) := by simp
theorem nat_ge0 (i : Nat) : decide ((i : Int) ≥ 0) = true := by simp

theorem allF_iff {p : Nat → Bool} {m : Nat} : ∀ {i : Nat}, allF p i m = true ↔ ∀ j, i ≤ j → j < i + m → p j = true := by
  induction m with
  | zero => intro i; simp only [allF, true_iff]; intro j h1 h2; omega
  | succ m ih =>
    intro i
    simp only [allF, Bool.and_eq_true, ih]
    constructor
    · rintro ⟨h1, h2⟩ j h3 h4
      by_cases e : j = i
      · exact e ▸ h1
      · exact h2 j (by omega) (by omega)
    · intro h
      exact ⟨h i (Nat.le_refl _) (by omega), fun j h1 h2 => h j (by omega) (by omega)⟩
/-- Are two lists equal in w cells of n elements? -/
def eqR (w : Nat) (c d : Nat → Nat → Int) (i : Nat) : Bool := allF (fun j => c i j == d i j) 0 w
def eqC (w n : Nat) (c : Nat → Nat → Int) (m : Nat) (d : Nat → Nat → Int) : Bool := decide (n = m) && allF (eqR w c d) 0 n
theorem eqR_self (w : Nat) (c : Nat → Nat → Int) (i : Nat) : eqR w c c i = true := allF_iff.2 fun j _ _ => by simp
theorem eqC_self (w n : Nat) (c : Nat → Nat → Int) : eqC w n c n c = true := by
  simp only [eqC, decide_true, Bool.true_and]
  exact allF_iff.2 fun j _ _ => eqR_self w c j
theorem allF_congr {p q : Nat → Bool} {m : Nat} : ∀ {i : Nat}, (∀ j, i ≤ j → j < i + m → p j = q j) → allF p i m = allF q i m := by
  induction m with
  | zero => intro i h; rfl
  | succ m ih => intro i h; simp only [allF]; rw [h i (Nat.le_refl _) (by omega), ih fun j h1 h2 => h j (by omega) (by omega)]
end Go.Ev
namespace Go.Ev
section
variable (P : Program) (GL : Nat → AV) (Γ : List (Nat × Ctr)) (k : Nat) (cfg : Cfg)
/-- As 'loops', where a loop in a loop goes on with the outer loop's m rounds left. -/
def loopsM (n v m : Nat) : Code → Kont → List (Code × Kont)
  | .seq x y, K => loopsM n v m x (kSeq (fun s => evC P GL Γ n v k cfg y s K) K) ++ loopsM n v m y K
  | .cond _ x y, K => loopsM n v m x K ++ loopsM n v m y K
  | .block id c, K => loopsM n v m c (kBlock id K)
  | .loop c, K => (c, K) :: loopsM n v m c (fun e s' => match e with
    | .norm => evL (forget n v cfg.keep) (evC P GL Γ n v k cfg c) m (forget n v cfg.keep s') K
    | .exit id => K (.exit id) s'
    | .ret => K .ret s')
  | _, _ => []
def loopV (args : List AV) (fn : Func) (i m : Nat) : Code × Kont := (loopsM P GL Γ k (cfg.at (vOf fn args)) fn.ntmps (vOf fn args) m (fn.body.getD .skip) (kFin P GL fn.ntmps (vOf fn args) cfg fn.results.toList args)).getD i (.skip, fun _ _ => none)
/-- Loop number i, a loop in a loop: m rounds left of the outer one. -/
def runV (args : List AV) (fn : Func) (i m n : Nat) (s : List AV) : Option AV :=
  evL (forget fn.ntmps (vOf fn args) cfg.keep) (evC P GL Γ fn.ntmps (vOf fn args) k (cfg.at (vOf fn args)) (loopV P GL Γ k cfg args fn i m).1) n s (loopV P GL Γ k cfg args fn i m).2
end
end Go.Ev
namespace Go.Ev
def szF (n : Nat) (l : Int) : Int := cond (decide (wr (l - (n : Int)) < 0)) (-1) (wr (l - (n : Int)))
def rowL (w : Nat) (c : Nat → Nat → Int) (i : Nat) : List Int := (List.range w).map (c i)
def cpC (w n : Nat) (c : Nat → Nat → Int) : Nat → Nat → Int := setsF (rowL w c) 0 n zeroC
theorem nat_beq (a b : Nat) : ((a : Int) == (b : Int)) = decide (a = b) := by
  by_cases h : a = b
  · subst h; simp
  · have : (a : Int) ≠ (b : Int) := by omega
    simp [h, this]
theorem szF_ok {n : Nat} {l : Int} (h0 : 0 ≤ l) (hl : l < 4611686018427387904) (hn : n ≤ 9223372036854775807) (h : 0 ≤ szF n l) : (n : Int) ≤ l ∧ szF n l = l - n := by
  unfold szF at h ⊢
  rw [wr_in (by omega) (by omega)] at h ⊢
  by_cases e : l - (n : Int) < 0
  · simp [e] at h
  · exact ⟨by omega, by simp [e]⟩
end Go.Ev
