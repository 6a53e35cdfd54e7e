/- A verified evaluator of Go functions over the kit's wp rules: soundness once, then each contract by a computation. -/
import Derived.Below
import Derived.Orders
import Derived.KernelRfl
import Derived.Laws.Cells
import Derived.DeepKeys
import Derived.Laws.Rows
import Derived.Laws.CopyRow
import Derived.Carry
import Derived.ChangeArms
import Derived.ChangeSlices
set_option linter.unusedVariables false
set_option linter.unusedSimpArgs false
/- A verified evaluator for Go functions over the kit's wp rules: abstract values, the relation to memory, its steadiness. -/
namespace Go.Ev
open Go.RowKit

/-- The kinds of cells that a list's elements are made of. -/
inductive CK where
  | int (k : IntKind)
  | bool
/-- What is known of a temporary. -/
inductive AV where
  | non
  | val (v : Value)
  | agg (l : List AV)
  | tup (l : List AV)
  | lst (n k : Nat) (row : Nat → List AV)
  | eptr (c : List AV)
  | own (t : TypeId) (c : List AV)
  | ref (g off : Nat)
  | vown (t : TypeId) (c : List AV)
  | out (x : AV) (os : List AV)
  | arr (n : Nat) (ks : List CK) (c : Nat → Nat → Int)

def mkCell : CK → Int → Value
  | .int .u8, x => .int .u8 (x % 256)
  | .int k, x => .int k x
  | .bool, x => .bool (!(x == 0))
def mkRow : List CK → (Nat → Int) → List AV
  | [], _ => []
  | k :: ks, f => .val (mkCell k (f 0)) :: mkRow ks fun j => f (j + 1)
/-- What a value known so looks like in memory; 'B': the blocks that it may lie in. -/
inductive Rep (w : World) (B : Nat → Prop) : AV → Value → Prop where
  | non (v : Value) : Rep w B .non v
  | val (v : Value) : Rep w B (.val v) v
  | agg (l : List AV) (cs : List Value) (h : l.length = cs.length) (r : ∀ i, i < l.length → Rep w B (l.getD i .non) (cs.getD i undef)) : Rep w B (.agg l) (.agg ⟨cs⟩)
  | tup (l : List AV) (cs : List Value) (h : l.length = cs.length) (r : ∀ i, i < l.length → Rep w B (l.getD i .non) (cs.getD i undef)) : Rep w B (.tup l) (.tuple ⟨cs⟩)
  | nil (k : Nat) (row : Nat → List AV) (a : Option Addr) (cap : Nat) : Rep w B (.lst 0 k row) (.slice a 0 cap)
  | lst (n k : Nat) (row : Nat → List AV) (b o cap : Nat) (f : Nat → Nat → Value) (hB : B b) (hk : ∀ i, i < n → (row i).length = k)
      (hc : ∀ i j, i < n → j < k → w.cell? ⟨b, o + i * k + j, none⟩ = some (f i j)) (r : ∀ i j, i < n → j < k → Rep w B ((row i).getD j .non) (f i j)) :
      Rep w B (.lst n k row) (.slice (some ⟨b, o, none⟩) n cap)
  | eptr (c : List AV) (b o : Nat) (f : Nat → Value) (hB : B b)
      (hc : ∀ j, j < c.length → w.cell? ⟨b, o + j, none⟩ = some (f j)) (r : ∀ j, j < c.length → Rep w B (c.getD j .non) (f j)) :
      Rep w B (.eptr c) (.pointer (some ⟨b, o, none⟩))
  | arr (n : Nat) (ks : List CK) (c : Nat → Nat → Int) (v : Value) (h : Rep w B (.lst n ks.length fun i => mkRow ks (c i)) v) : Rep w B (.arr n ks c) v

theorem cell_same {w w' : World} {b o : Nat} (h : w'.heap[b]? = w.heap[b]?) : w'.cell? ⟨b, o, none⟩ = w.cell? ⟨b, o, none⟩ := by
  unfold World.cell?
  rw [show (⟨b, o, none⟩ : Addr).block = b from rfl, h]

theorem Rep.mono {w w' : World} {B B' : Nat → Prop} {x : AV} {v : Value} (h : Rep w B x v) (hb : ∀ b, B b → B' b ∧ w'.heap[b]? = w.heap[b]?) : Rep w' B' x v := by
  induction h with
  | non v => exact .non v
  | val v => exact .val v
  | agg l cs h r ih => exact .agg l cs h ih
  | tup l cs h r ih => exact .tup l cs h ih
  | nil k row a cap => exact .nil k row a cap
  | lst n k row b o cap f hB hk hc r ih => exact .lst n k row b o cap f (hb b hB).1 hk (fun i j hi hj => (cell_same (hb b hB).2).trans (hc i j hi hj)) ih
  | eptr c b o f hB hc r ih => exact .eptr c b o f (hb b hB).1 (fun j hj => (cell_same (hb b hB).2).trans (hc j hj)) ih
  | arr n ks c v h ih => exact .arr n ks c v ih

def isOwn : AV → Bool
  | .own _ _ => true
  | .vown _ _ => true
  | _ => false
def isRef : AV → Bool
  | .ref _ _ => true
  | _ => false

/-- The blocks that a known value may lie in: not those of the boxes. -/
def NB (B : Nat → Prop) (base : Nat) (σ : Nat → AV) (ρ : Nat → Nat) (w : World) (b : Nat) : Prop :=
  (B b ∨ base ≤ b) ∧ b < w.heap.size ∧ ∀ t, isOwn (σ t) = true → ρ t ≠ b

/-- Below block number B the world w' is as w was, but for the blocks X. -/
structure BelowX (B : Nat) (X : Nat → Prop) (w w' : World) : Prop where
  os : w'.os = w.os
  tape : w'.tape = w.tape
  output : w'.output = w.output
  size : w.heap.size ≤ w'.heap.size
  block : ∀ k, k < B → ¬ X k → w'.heap[k]? = w.heap[k]?
theorem BelowX.refl (B : Nat) (X : Nat → Prop) (w : World) : BelowX B X w w := ⟨rfl, rfl, rfl, Nat.le_refl _, fun _ _ _ => rfl⟩
theorem BelowX.plain {B : Nat} {X : Nat → Prop} {w w' : World} (h : BelowX B X w w') (hX : ∀ b, ¬ X b) : Below B w w' := ⟨h.os, h.tape, h.output, h.size, fun k hk => h.block k hk (hX k)⟩

/-- The frame: so many temporaries; behind them the slots of the boxes that came in by pointer; those boxes. -/
structure Ext where
  n : Nat
  X : Nat → Prop
  px : Nat → Nat

/-- The relation between what is known and what is. -/
structure Rr (E : Ext) (N : Nat) (B : Nat → Prop) (w0 : World) (ρ : Nat → Nat) (σ : Nat → AV) (a : Act) (w : World) : Prop where
  dfr : a.defers = []
  siz : a.tmps.size = E.n
  out : ∀ t, N ≤ t → σ t = .non
  blw : BelowX w0.heap.size E.X w0 w
  own : ∀ t ty c, σ t = .own ty c → a.eval (.tmp t) = .pointer (some ⟨ρ t, 0, none⟩) ∧ w0.heap.size ≤ ρ t ∧
    ∃ cs : List Value, w.heap[ρ t]? = some (.cells ⟨cs⟩ ty (0, 0)) ∧ c.length = cs.length ∧ ∀ i, i < c.length → Rep w (NB B w0.heap.size σ ρ w) (c.getD i .non) (cs.getD i undef)
  inj : ∀ t t', isOwn (σ t) = true → isOwn (σ t') = true → ρ t = ρ t' → t = t'
  ref : ∀ t g off, σ t = .ref g off → a.eval (.tmp t) = .pointer (some ⟨ρ g, off, none⟩) ∧ isOwn (σ g) = true
  rep : ∀ t, isOwn (σ t) = false → isRef (σ t) = false → Rep w (NB B w0.heap.size σ ρ w) (σ t) (a.eval (.tmp t))
  vow : ∀ t ty c, σ t = .vown ty c → E.X (ρ t) ∧
    ∃ cs : List Value, w.heap[ρ t]? = some (.cells ⟨cs⟩ ty (0, 0)) ∧ c.length = cs.length ∧ ∀ i, i < c.length → Rep w (NB B w0.heap.size σ ρ w) (c.getD i .non) (cs.getD i undef)
  vir : ∀ t, E.n ≤ t → t < N → isOwn (σ t) = true ∧ ρ t = E.px t

/-- A value without memory, as known. -/
def ofCell : Value → AV
  | .slice none 0 0 => .lst 0 0 fun _ => []
  | v => .val v
def ofVal : Value → AV
  | .agg ⟨l⟩ => .agg (l.map ofCell)
  | .tuple ⟨l⟩ => match l with
    | [] => .val (.tuple #[])
    | l => .tup (l.map fun v => match v with | .agg ⟨l⟩ => .agg (l.map ofCell) | v => ofCell v)
  | v => ofCell v

theorem rep_ofCell {w : World} {B : Nat → Prop} (v : Value) : Rep w B (ofCell v) v := by
  unfold ofCell
  split
  · exact .nil _ _ _ _
  · exact .val _

theorem rep_list {w : World} {B : Nat → Prop} (f : Value → AV) (hf : ∀ v, Rep w B (f v) v) (l : List Value) : ∀ i, i < (l.map f).length → Rep w B ((l.map f).getD i .non) (l.getD i undef) := by
  intro i hi
  have hi' : i < l.length := by simpa using hi
  simp only [List.getD, List.getElem?_map, List.getElem?_eq_getElem hi', Option.map_some, Option.getD_some]
  exact hf _

theorem rep_ofVal {w : World} {B : Nat → Prop} (v : Value) : Rep w B (ofVal v) v := by
  unfold ofVal
  split
  · exact .agg _ _ (by simp) (rep_list _ rep_ofCell _)
  · split
    · exact .val _
    · refine .tup _ _ (by simp) (rep_list _ (fun v => ?_) _)
      split
      · exact .agg _ _ (by simp) (rep_list _ rep_ofCell _)
      · exact rep_ofCell _
  · exact rep_ofCell _

/-- The value of what is known whole and lies in no memory. -/
def cellV : AV → Option Value
  | .val v => some v
  | _ => none
def cellsV : List AV → Option (List Value)
  | [] => some []
  | x :: l => match cellV x with
    | some v => match cellsV l with
      | some vs => some (v :: vs)
      | none => none
    | none => none
def toV : AV → Option Value
  | .val v => some v
  | .agg l => match cellsV l with
    | some vs => some (.agg ⟨vs⟩)
    | none => none
  | _ => none

theorem cellsV_rep {w : World} {B : Nat → Prop} : ∀ (l : List AV) (vs cs : List Value), cellsV l = some vs → l.length = cs.length → (∀ i, i < l.length → Rep w B (l.getD i .non) (cs.getD i undef)) → vs = cs
  | [], vs, cs, h, hl, r => by
    simp only [cellsV, Option.some.injEq] at h
    subst h
    cases cs with
    | nil => rfl
    | cons c cs => simp at hl
  | x :: l, vs, cs, h, hl, r => by
    cases cs with
    | nil => simp at hl
    | cons c cs =>
      unfold cellsV at h
      split at h
      · rename_i v hv
        split at h
        · rename_i ws hws
          simp only [Option.some.injEq] at h
          subst h
          have h0 := r 0 (by simp)
          simp only [List.getD_cons_zero] at h0
          have e0 : v = c := by
            cases x <;> simp only [cellV, reduceCtorEq, Option.some.injEq] at hv
            subst hv
            cases h0
            rfl
          have e1 := cellsV_rep l ws cs hws (by simpa using hl) (fun i hi => by have := r (i + 1) (by simpa using hi); simpa using this)
          rw [e0, e1]
        · cases h
      · cases h

theorem toV_rep {w : World} {B : Nat → Prop} {x : AV} {v u : Value} (h : toV x = some v) (r : Rep w B x u) : u = v := by
  cases x with
  | val y =>
    simp only [toV, Option.some.injEq] at h
    subst h
    cases r
    rfl
  | agg l =>
    unfold toV at h
    simp only at h
    split at h
    · rename_i vs hvs
      simp only [Option.some.injEq] at h
      subst h
      cases r with
      | agg l cs hl hr => rw [cellsV_rep l vs cs hvs hl hr]
    · cases h
  | _ => simp [toV] at h

end Go.Ev

/- The evaluator of single operations and its soundness. -/
namespace Go.Ev
open Go.RowKit

/-- A step of the model's own that looks at no memory. -/
def pv {α : Type} (P : Program) : Sem α → Option α
  | .pure a => some a
  | .program k => pv P (k P)
  | .mark _ k => pv P k
  | _ => none

theorem pv_run {α : Type} {P : Program} (s : Sem α) : ∀ (x : α), pv P s = some x → ∀ w, s.run P w = .ok x w := by
  induction s with
  | pure a => intro x h w; simp only [pv, Option.some.injEq] at h; subst h; rfl
  | program k ih => intro x h w; exact ih P x h w
  | mark m k ih => intro x h w; exact ih x h w
  | _ => intro x h; simp [pv] at h

def evA (GL σ : Nat → AV) : Operand → AV
  | .tmp t => match σ t with
    | .own _ _ => .ref t 0
    | .vown _ _ => .non
    | x => x
  | .const v => ofVal v
  | .global g => GL g
  | .func f => .val (.func (.func f) #[] #[])

/-- The cells of a box. -/
def boxC : AV → Option (List AV)
  | .own _ c => some c
  | .vown _ c => some c
  | _ => none
def reBox : AV → List AV → AV
  | .own t _, c => .own t c
  | .vown t _, c => .vown t c
  | x, _ => x
/-- A contract's value: the result, and what the boxes hold that came in by pointer. -/
def splitOut : AV → AV × List AV
  | .out x os => (x, os)
  | x => (x, [])
/-- An argument as a contract takes it: a pointer to a box's begin becomes the box. -/
def argV (σ : Nat → AV) : AV → Option AV
  | .ref g k => match Nat.beq k 0 with
    | true => match σ g with
      | .own t c => some (.own t c)
      | .vown t c => some (.own t c)
      | _ => none
    | false => none
  | x => some x
def argsV (σ : Nat → AV) : List AV → Option (List AV)
  | [] => some []
  | x :: l => match argV σ x with
    | some y => match argsV σ l with
      | some ys => some (y :: ys)
      | none => none
    | none => none
def gsOf : List AV → List Nat
  | [] => []
  | .ref g _ :: l => g :: gsOf l
  | _ :: l => gsOf l
def memB (g : Nat) : List Nat → Bool
  | [] => false
  | x :: l => match Nat.beq x g with
    | true => true
    | false => memB g l
def nodupB : List Nat → Bool
  | [] => true
  | x :: l => match memB x l with
    | true => false
    | false => nodupB l
/-- What is written back. -/
def outU (σ : Nat → AV) : List AV → List AV → Option (List (Nat × AV))
  | [], _ => some []
  | .ref g _ :: as, .agg c :: os => match outU σ as os with
    | some u => some ((g, reBox (σ g) c) :: u)
    | none => none
  | .ref _ _ :: _, _ => none
  | _ :: as, _ :: os => outU σ as os
  | _ :: as, [] => outU σ as []

def opsOf : Op → Option (List Operand)
  | .move x | .assign x | .box _ x | .load _ x | .nilCheck x | .unOp _ _ x | .convert _ _ x | .fieldAddr _ x _ | .field _ x _ | .extract x _ => some [x]
  | .alloc _ => some []
  | .pick c a b => some [c, a, b]
  | .build _ ps | .buildSlice _ _ ps => some (ps.toList.map (·.2))
  | .store _ a v | .binOp _ _ a v _ | .indexAddr _ a v | .index _ a v => some [a, v]
  | .call c => some ((match c.callee with | .value f => [f] | .invoke r _ => [r] | .builtin _ => []) ++ c.args.toList)
  | _ => none

theorem opsOf_spec {o : Op} {l : List Operand} (h : opsOf o = some l) : (∀ cs b, o ≠ .select cs b) ∧ ∀ x ∈ o.operands, x ∈ l := by
  cases o <;> simp only [opsOf, reduceCtorEq, Option.some.injEq] at h <;> (try subst h) <;> refine ⟨fun _ _ => by simp, ?_⟩
  all_goals first
    | (simp [Op.operands]; done)
    | skip
  case call c =>
    simp only [Op.operands, Call.operands]
    cases c.callee <;> simp

def rhoOf (GL σ : Nat → AV) (x : Operand) : Value := match toV (evA GL σ x) with
  | some v => v
  | none => undef
def allV (GL σ : Nat → AV) : List Operand → Bool
  | [] => true
  | x :: l => match toV (evA GL σ x) with
    | some _ => allV GL σ l
    | none => false

/-- An operation on values that lie in no memory: the model's own step. -/
def gen (P : Program) (GL σ : Nat → AV) (o : Oper) : Option AV :=
  match opsOf o.op with
  | some l => match allV GL σ l with
    | true => match pv P (execOp (rhoOf GL σ) o) with
      | some (.value v) => some (ofVal v)
      | _ => none
    | false => none
  | none => none

/-- What a contract says of a call: a condition, and the result under it. -/
abbrev Ctr := List AV → Option (Bool × AV)
def find (Γ : List (Nat × Ctr)) (f : Nat) : Option Ctr := match Γ with
  | [] => none
  | (g, s) :: Γ => match Nat.beq g f with
    | true => some s
    | false => find Γ f

def setD (N : Nat) (σ : Nat → AV) (o : Oper) (x : AV) : Option (List (Nat × AV)) := match o.dst with
  | none => some []
  | some d => match isOwn (σ d), Nat.blt d N with
    | false, true => some [(d, x)]
    | _, _ => none
def ret (c : Bool) (u : Option (List (Nat × AV))) : Option (Bool × List (Nat × AV)) := match u with
  | some u => some (c, u)
  | none => none

/-- The cells of a value. -/
def flat : AV → Option (List AV)
  | .agg l => some l
  | .val (.agg _) => none
  | .val v => some [.val v]
  | .lst n k r => some [.lst n k r]
  | .arr n ks c => some [.arr n ks c]
  | _ => none
/-- A list of known kinds, row by row. -/
def unArr : AV → AV
  | .arr n ks c => .lst n ks.length fun i => mkRow ks (c i)
  | x => x
def intsOf : List Value → Option (List Int)
  | [] => some []
  | .int .i64 x :: l => match intsOf l with
    | some xs => some (x :: xs)
    | none => none
  | _ => none
def sliceAV (n s : Nat) (cells : List Value) : AV := match Nat.beq s 1, intsOf cells with
  | true, some xs => .arr n [.int .i64] fun i _ => xs.getD i 0
  | _, _ => .lst n s fun i => ((cells.drop (i * s)).take s).map ofCell
/-- Are these each the value of one cell? -/
def allOne : List AV → Bool
  | [] => true
  | .val v :: l => match v.oneCell' with
    | true => allOne l
    | false => false
  | .lst _ _ _ :: l => allOne l
  | .arr _ _ _ :: l => allOne l
  | _ => false
def fieldOff (P : Program) (st : TypeId) (f : Nat) : Option (Nat × TypeId) := match P.underlying st with
  | some (.struct fs) => match fs[f]? with
    | some fd => match pv P (sizeOf fd.type) with
      | some 0 => none
      | some _ => some (fd.offset, fd.type)
      | none => none
    | none => none
  | _ => none
/-- A value of a type out of cells. -/
def ldAV (P : Program) (ty : TypeId) (c : List AV) : Option AV := match pv P (isAgg ty) with
  | some true => match pv P (sizeOf ty) with
    | some n => match Nat.ble n c.length with
      | true => some (.agg (c.take n))
      | false => none
    | none => none
  | some false => match c with
    | x :: _ => some x
    | [] => none
  | none => none
def splice (c : List AV) (k : Nat) (l : List AV) : List AV := c.take k ++ l ++ c.drop (k + l.length)
def bindSet (N : Nat) (σ : Nat → AV) (o : Oper) (c : Bool) : Option AV → Option (Bool × List (Nat × AV))
  | some x => ret c (setD N σ o x)
  | none => none
def elemSz (P : Program) (t : TypeId) : Option Nat := match P.underlying t with
  | some (.slice e) => pv P (sizeOf e)
  | _ => none
def arrOf (P : Program) (t : TypeId) : Option (Nat × Nat) := match P.underlying t with
  | some (.array n e) => match pv P (sizeOf e) with
    | some s => match Nat.ble n 1 with
      | true => none
      | false => some (n, s)
    | none => none
  | _ => none
/-- The cells of a new slice. -/
def bldS (P : Program) (t : TypeId) (n : Nat) (ps : Array (Nat × Value)) : Option (List Value × Nat × TypeId) := match P.underlying t with
  | some (.slice e) => match pv P (sizeOf e), pv P (zeroValue e) with
    | some s, some z => match Nat.ble (n * s) (2 ^ 24), Nat.beq (n * s) 0 with
      | true, false => match Instr.fill (fun i => some (i * s, s)) ((Array.range (n * s)).map (z.cells[· % z.cells.size]!)) ps.toList with
        | some cells => match Nat.beq cells.toList.length (n * s) with
          | true => some (cells.toList, s, e)
          | false => none
        | none => none
      | _, _ => none
    | _, _ => none
  | _ => none
/-- The cells of a new struct. -/
def fillA (pl : Array (Nat × Nat)) : List AV → List (Nat × AV) → Option (List AV)
  | c, [] => some c
  | c, (i, x) :: l => match pl[i]?, flat x with
    | some (off, size), some xs => match Nat.beq xs.length size, Nat.ble (off + xs.length) c.length with
      | true, true => fillA pl (splice c off xs) l
      | _, _ => none
    | _, _ => none
def bldA (P : Program) (GL σ : Nat → AV) (t : TypeId) (ps : List (Nat × Operand)) : Option AV := match P.underlying t with
  | some (.struct fs) => match pv P (zeroValue t), pv P (fs.mapM fun f => do pure (f.offset, ← sizeOf f.type)) with
    | some z, some pl => match fillA pl (z.cells.toList.map ofCell) (ps.map fun p => (p.1, evA GL σ p.2)) with
      | some l => some (.agg l)
      | none => none
    | _, _ => none
  | _ => none
def isAggV : AV → Bool
  | .agg _ => true
  | .val (.agg _) => true
  | _ => false
/-- Are two values of a type of numbers, bools and structs of such equal? -/
def eqFs (P : Program) (f : TypeId → Value → Value → Option Bool) (xs ys : Array Value) : List Field → Option Bool
  | [] => some true
  | fd :: l => match fd.name == "_", pv P (part fd.type xs fd.offset), pv P (part fd.type ys fd.offset) with
    | false, some a, some b => match f fd.type a b, eqFs P f xs ys l with
      | some c, some r => some (c && r)
      | _, _ => none
    | _, _, _ => none
def eqT (P : Program) : Nat → TypeId → Value → Value → Option Bool
  | 0, _, _, _ => none
  | n + 1, t, x, y => match P.underlying t, x, y with
    | some (.int _), .int k a, .int k' b => match decide (k = k') with
      | true => some (a == b)
      | false => none
    | some .bool, .bool a, .bool b => some (a == b)
    | some (.struct fs), .agg xs, .agg ys => match P.stoodInHeld t with
      | false => eqFs P (eqT P n) xs ys fs.toList
      | true => none
    | _, _, _ => none
def eqA (P : Program) (op : BinOp) (t : TypeId) (x y : Option Value) : Option AV := match x, y with
  | some (.agg xs), some (.agg ys) => match P.eqGuardType P.depth t, eqT P 8 t (.agg xs) (.agg ys) with
    | false, some b => match op with
      | .eql => some (.val (.bool b))
      | .neq => some (.val (.bool (!b)))
      | _ => none
    | _, _ => none
  | _, _ => none
def noRefs : List AV → Bool
  | [] => true
  | .ref _ _ :: _ => false
  | _ :: l => noRefs l

def callOf (GL : Nat → AV) (Γ : List (Nat × Ctr)) (N : Nat) (σ : Nat → AV) (o : Oper) (g : Nat) (args : List Operand) : Option (Bool × List (Nat × AV)) :=
  match find Γ g with
  | some s => match argsV σ (args.map (evA GL σ)), nodupB (gsOf (args.map (evA GL σ))) with
    | some as, true => match s as with
      | some (c, x) => match outU σ (args.map (evA GL σ)) (splitOut x).2, setD N σ o (splitOut x).1 with
        | some ou, some u => some (c, u ++ ou)
        | _, _ => none
      | none => none
    | _, _ => none
  | none => none

/-- One operation. -/
def evOp (P : Program) (GL : Nat → AV) (Γ : List (Nat × Ctr)) (N : Nat) (σ : Nat → AV) (o : Oper) : Option (Bool × List (Nat × AV)) :=
  match o.op with
  | .move x | .assign x => bindSet N σ o true (some (evA GL σ x))
  | .nilCheck x => match evA GL σ x with
    | .ref g k => bindSet N σ o true (some (.ref g k))
    | .eptr c => bindSet N σ o true (some (.eptr c))
    | _ => none
  | .box ty x => match flat (evA GL σ x) with
    | some l => bindSet N σ o true (some (.own ty l))
    | none => none
  | .alloc ty => match pv P (zeroValue ty) with
    | some z => bindSet N σ o true (some (.own ty (z.cells.toList.map ofCell)))
    | none => none
  | .fieldAddr st x f => match fieldOff P st f with
    | some (off, _) => match evA GL σ x with
      | .ref g k => bindSet N σ o true (some (.ref g (k + off)))
      | .eptr c => bindSet N σ o true (some (.eptr (c.drop off)))
      | _ => none
    | none => none
  | .load ty x => match evA GL σ x with
    | .ref g k => match boxC (σ g) with
      | some c => bindSet N σ o true (ldAV P ty (c.drop k))
      | none => none
    | .eptr c => bindSet N σ o true (ldAV P ty c)
    | _ => none
  | .store ty x v => match o.dst with
    | some _ => none
    | none => match flat (evA GL σ v) with
      | none => none
      | some l => match evA GL σ x with
        | .ref g k => match boxC (σ g) with
          | some c => match pv P (sizeOf ty) with
            | some n => match Nat.beq n l.length, Nat.ble (k + l.length) c.length, allOne l with
              | true, true, true => some (true, [(g, reBox (σ g) (splice c k l))])
              | _, _, _ => none
            | none => none
          | none => none
        | _ => none
  | .extract x i => match evA GL σ x with
    | .tup l => match Nat.blt i l.length with
      | true => bindSet N σ o true (some (l.getD i .non))
      | false => none
    | _ => none
  | .field ty x f => match evA GL σ x with
    | .agg l => match fieldOff P ty f with
      | some (off, ft) => bindSet N σ o true (ldAV P ft (l.drop off))
      | none => none
    | _ => none
  | .binOp op t x y yt => match op, evA GL σ x, evA GL σ y with
    | .quo, .val (.int .i64 a), .val (.int .i64 b) => bindSet N σ o (!(b == 0)) (some (.val (.int .i64 (IntKind.i64.wrap (a.tdiv b)))))
    | .rem, .val (.int .i64 a), .val (.int .i64 b) => bindSet N σ o (!(b == 0)) (some (.val (.int .i64 (a.tmod b))))
    | .shl, .val (.int .i64 a), .val (.int .i64 b) => bindSet N σ o (decide (0 ≤ b)) (some (.val (.int .i64 (IntKind.i64.wrap (a * 2 ^ min b.toNat 64)))))
    | .shr, .val (.int .i64 a), .val (.int .i64 b) => bindSet N σ o (decide (0 ≤ b)) (some (.val (.int .i64 (a.fdiv (2 ^ min b.toNat 64)))))
    | _, _, _ => match isAggV (evA GL σ x) with
      | true => bindSet N σ o true (eqA P op t (toV (evA GL σ x)) (toV (evA GL σ y)))
      | false => bindSet N σ o true (gen P GL σ o)
  | .indexAddr t x i => match unArr (evA GL σ x), evA GL σ i with
    | .lst n k row, .val (.int .i64 j) => match elemSz P t with
      | some k' => match Nat.beq k k' with
        | true => bindSet N σ o (decide (0 ≤ j) && decide (j < (n : Int))) (some (.eptr (row j.toNat)))
        | false => none
      | none => none
    | .eptr c, .val (.int .i64 j) => match arrOf P t with
      | some (n, s) => bindSet N σ o (decide (0 ≤ j) && decide (j < (n : Int))) (some (.eptr (c.drop (j.toNat * s))))
      | none => none
    | .ref g k, .val (.int .i64 j) => match arrOf P t with
      | some (n, s) => bindSet N σ o (decide (0 ≤ j) && decide (j < (n : Int))) (some (.ref g (k + j.toNat * s)))
      | none => none
    | _, _ => none
  | .call c => match c.callee with
    | .value (.func g) => callOf GL Γ N σ o g c.args.toList
    | .builtin .len => match c.args.toList with
      | [x] => match unArr (evA GL σ x) with
        | .lst n _ _ => match c.argTypes.toList with
          | t :: _ => match P.underlying t with
            | some (.slice _) => bindSet N σ o true (some (.val (.int .i64 n)))
            | _ => none
          | [] => none
        | _ => bindSet N σ o true (gen P GL σ o)
      | _ => none
    | .builtin .max => bindSet N σ o true (gen P GL σ o)
    | .builtin .min => bindSet N σ o true (gen P GL σ o)
    | _ => none
  | .unOp _ _ _ | .convert _ _ _ | .pick _ _ _ | .index _ _ _ => bindSet N σ o true (gen P GL σ o)
  | .build t ps => match gen P GL σ o with
    | some x => bindSet N σ o true (some x)
    | none => bindSet N σ o true (bldA P GL σ t ps.toList)
  | .buildSlice t n ps => match allV GL σ (ps.toList.map (·.2)) with
    | true => match bldS P t n (ps.map fun (i, x) => (i, rhoOf GL σ x)) with
      | some (cells, s, _) => bindSet N σ o true (some (sliceAV n s cells))
      | none => none
    | false => none
  | _ => none

def look (ups : List (Nat × AV)) (t : Nat) : Option AV := match ups with
  | [] => none
  | (d, x) :: ups => match Nat.beq d t with
    | true => some x
    | false => look ups t
def upd (σ : Nat → AV) (ups : List (Nat × AV)) (t : Nat) : AV := (look ups t).getD (σ t)

/-- A box and what it holds. -/
def Boxed (w : World) (B : Nat → Prop) (b : Nat) (ty : TypeId) (c : List AV) : Prop :=
  ∃ cs : List Value, w.heap[b]? = some (.cells ⟨cs⟩ ty (0, 0)) ∧ c.length = cs.length ∧ ∀ i, i < c.length → Rep w B (c.getD i .non) (cs.getD i undef)
/-- An argument: a value known so, or a pointer to a box of its own. -/
def ArgOk (w : World) (B : Nat → Prop) (b : Nat) (x : AV) (v : Value) : Prop := match x with
  | .own ty c => v = .pointer (some ⟨b, 0, none⟩) ∧ ¬ B b ∧ Boxed w B b ty c
  | x => Rep w B x v
/-- A result: a value known so, or a pointer to a new box. -/
def ResOk (w w' : World) (B' : Nat → Prop) (x : AV) (v : Value) : Prop := match x with
  | .own ty c => ∃ b, v = .pointer (some ⟨b, 0, none⟩) ∧ w.heap.size ≤ b ∧ ¬ B' b ∧ Boxed w' B' b ty c
  | x => Rep w' B' x v
/-- What the contracts say. -/
def Meets (P : Program) (GL : Nat → AV) (f : FuncId) (s : Ctr) : Prop :=
  (∃ fn, P.funcs[f]? = some fn ∧ (fn.name == "runtime.NumGoroutine") = false ∧ fn.body.isSome = true) ∧
  ∀ (args : List AV) (x : AV), s args = some (true, x) → ∀ (w : World) (B : Nat → Prop) (vs : List Value) (β : Nat → Nat), (∀ b, B b → b < w.heap.size) →
    (∀ g, Rep w B (GL g) (.pointer (some ⟨g, 0, none⟩))) → args.length = vs.length → (∀ i, i < args.length → ArgOk w B (β i) (args.getD i .non) (vs.getD i undef)) →
    (∀ i j, i < args.length → j < args.length → isOwn (args.getD i .non) = true → isOwn (args.getD j .non) = true → β i = β j → i = j) →
    Calls P f ⟨vs⟩ w fun e w' => ∃ v, e = .returned v ∧ BelowX w.heap.size (fun b => ∃ i, i < args.length ∧ isOwn (args.getD i .non) = true ∧ b = β i) w w' ∧
      ∃ B' : Nat → Prop, (∀ b, B' b → (B b ∨ w.heap.size ≤ b) ∧ b < w'.heap.size) ∧ ResOk w w' B' (splitOut x).1 v ∧
        ∀ i ty c, i < args.length → args.getD i .non = .own ty c → ∃ c', (splitOut x).2.getD i .non = .agg c' ∧ Boxed w' B' (β i) ty c'
def Sound (P : Program) (GL : Nat → AV) (Γ : List (Nat × Ctr)) : Prop := ∀ f s, find Γ f = some s → Meets P GL f s

section
variable {P : Program} {GL : Nat → AV} {Γ : List (Nat × Ctr)} {E : Ext} {N : Nat} {B : Nat → Prop} {w0 w : World} {ρ : Nat → Nat} {σ : Nat → AV} {a : Act}

theorem isOwn_iff {x : AV} : isOwn x = true ↔ (∃ ty c, x = .own ty c) ∨ ∃ ty c, x = .vown ty c := by cases x <;> simp [isOwn]
theorem lt_of_cells {w : World} {b : Nat} {x : Obj} (h : w.heap[b]? = some x) : b < w.heap.size := by
  rcases Nat.lt_or_ge b w.heap.size with h' | h'
  · exact h'
  · rw [Array.getElem?_eq_none h'] at h; cases h
theorem Rr.lt (hR : Rr E N B w0 ρ σ a w) {t : Nat} (h : isOwn (σ t) = true) : ρ t < w.heap.size := by
  rcases isOwn_iff.1 h with ⟨ty, c, e⟩ | ⟨ty, c, e⟩
  · obtain ⟨_, _, cs, e3, _⟩ := hR.own t ty c e
    exact lt_of_cells e3
  · obtain ⟨_, cs, e3, _⟩ := hR.vow t ty c e
    exact lt_of_cells e3
theorem Rr.apart (hR : Rr E N B w0 ρ σ a w) {t b : Nat} (h : isOwn (σ t) = true) (hb : b < w0.heap.size ∧ ¬ E.X b) : ρ t ≠ b := by
  intro e
  rcases isOwn_iff.1 h with ⟨ty, c, e'⟩ | ⟨ty, c, e'⟩
  · have := (hR.own t ty c e').2.1
    omega
  · exact hb.2 (e ▸ (hR.vow t ty c e').1)
theorem Rr.ltn (hR : Rr E N B w0 ρ σ a w) {t : Nat} (ht : t < N) (h : isOwn (σ t) = false) : t < E.n := by
  rcases Nat.lt_or_ge t E.n with h' | h'
  · exact h'
  · have := (hR.vir t h' ht).1
    rw [h] at this
    cases this
theorem isRef_iff {x : AV} : isRef x = true ↔ ∃ g k, x = .ref g k := by cases x <;> simp [isRef]

theorem evA_own {t : Nat} {ty : TypeId} {c : List AV} (h : σ t = .own ty c) : evA GL σ (.tmp t) = .ref t 0 := by
  simp only [evA, h]
theorem evA_tmp {t : Nat} (h : isOwn (σ t) = false) : evA GL σ (.tmp t) = σ t := by
  simp only [evA]
  split
  · rename_i e; rw [e] at h; cases h
  · rename_i e; rw [e] at h; cases h
  · rfl

/-- An operand is as it is known. -/
theorem evA_spec (hR : Rr E N B w0 ρ σ a w) (hG : ∀ g, Rep w0 B (GL g) (.pointer (some ⟨g, 0, none⟩))) (hB : ∀ b, B b → b < w0.heap.size ∧ ¬ E.X b) (x : Operand) :
    (∃ g k, evA GL σ x = .ref g k ∧ a.eval x = .pointer (some ⟨ρ g, k, none⟩) ∧ isOwn (σ g) = true) ∨
    (isRef (evA GL σ x) = false ∧ isOwn (evA GL σ x) = false ∧ Rep w (NB B w0.heap.size σ ρ w) (evA GL σ x) (a.eval x)) := by
  cases x with
  | tmp t =>
    by_cases ho : isOwn (σ t) = true
    · rcases isOwn_iff.1 ho with ⟨ty, c, e⟩ | ⟨ty, c, e⟩
      · rw [evA_own e]
        exact .inl ⟨t, 0, rfl, (hR.own t ty c e).1, ho⟩
      · have e' : evA GL σ (.tmp t) = .non := by simp only [evA, e]
        rw [e']
        exact .inr ⟨rfl, rfl, .non _⟩
    · rw [evA_tmp (by simpa using ho)]
      by_cases hr : isRef (σ t) = true
      · obtain ⟨g, k, e⟩ := isRef_iff.1 hr
        rw [e]
        exact .inl ⟨g, k, rfl, (hR.ref t g k e).1, (hR.ref t g k e).2⟩
      · have h := hR.rep t (by simpa using ho) (by simpa using hr)
        exact .inr ⟨by simpa using hr, by simpa using ho, h⟩
  | const v =>
    refine .inr ⟨?_, ?_, rep_ofVal v⟩
    · have := rep_ofVal (w := w) (B := B) v; revert this; simp only [evA]; cases ofVal v <;> intro h <;> first | rfl | cases h
    · have := rep_ofVal (w := w) (B := B) v; revert this; simp only [evA]; cases ofVal v <;> intro h <;> first | rfl | cases h
  | global g =>
    have hg := hG g
    refine .inr ⟨?_, ?_, ?_⟩
    · revert hg; simp only [evA]; cases GL g <;> intro h <;> first | rfl | cases h
    · revert hg; simp only [evA]; cases GL g <;> intro h <;> first | rfl | cases h
    · exact hg.mono fun b hb => ⟨⟨.inl hb, Nat.lt_of_lt_of_le (hB b hb).1 hR.blw.size, fun t ht e => hR.apart ht (hB b hb) e⟩, hR.blw.block b (hB b hb).1 (hB b hb).2⟩
  | func f => exact .inr ⟨rfl, rfl, .val _⟩

theorem evA_ref (hR : Rr E N B w0 ρ σ a w) (hG : ∀ g, Rep w0 B (GL g) (.pointer (some ⟨g, 0, none⟩))) (hB : ∀ b, B b → b < w0.heap.size ∧ ¬ E.X b) {x : Operand} {g k : Nat} (h : evA GL σ x = .ref g k) :
    a.eval x = .pointer (some ⟨ρ g, k, none⟩) ∧ isOwn (σ g) = true := by
  rcases evA_spec hR hG hB x with ⟨g', k', e, h1, h2⟩ | ⟨h1, h2, h3⟩
  · rw [h] at e; cases e; exact ⟨h1, h2⟩
  · rw [h] at h1; cases h1

theorem evA_rep (hR : Rr E N B w0 ρ σ a w) (hG : ∀ g, Rep w0 B (GL g) (.pointer (some ⟨g, 0, none⟩))) (hB : ∀ b, B b → b < w0.heap.size ∧ ¬ E.X b) {x : Operand} (h : isRef (evA GL σ x) = false) :
    isOwn (evA GL σ x) = false ∧ Rep w (NB B w0.heap.size σ ρ w) (evA GL σ x) (a.eval x) := by
  rcases evA_spec hR hG hB x with ⟨g', k', e, h1, h2⟩ | ⟨h1, h2, h3⟩
  · rw [e] at h; cases h
  · exact ⟨h2, h3⟩

theorem toV_eval (hR : Rr E N B w0 ρ σ a w) (hG : ∀ g, Rep w0 B (GL g) (.pointer (some ⟨g, 0, none⟩))) (hB : ∀ b, B b → b < w0.heap.size ∧ ¬ E.X b) {x : Operand} {v : Value} (h : toV (evA GL σ x) = some v) : a.eval x = v := by
  have hr : isRef (evA GL σ x) = false := by cases e : evA GL σ x <;> simp_all [toV, isRef]
  exact toV_rep h (evA_rep hR hG hB hr).2

theorem allV_spec : ∀ (l : List Operand), allV GL σ l = true → ∀ x ∈ l, ∃ v, toV (evA GL σ x) = some v
  | [], _, x, hx => by cases hx
  | y :: l, h, x, hx => by
    unfold allV at h
    split at h
    · rename_i v hv
      rcases List.mem_cons.1 hx with rfl | hx
      · exact ⟨v, hv⟩
      · exact allV_spec l h x hx
    · cases h

/-- A generic operation runs as evaluated. -/
theorem gen_run (hR : Rr E N B w0 ρ σ a w) (hG : ∀ g, Rep w0 B (GL g) (.pointer (some ⟨g, 0, none⟩))) (hB : ∀ b, B b → b < w0.heap.size ∧ ¬ E.X b) {o : Oper} {x : AV} (h : gen P GL σ o = some x) :
    ∃ v, (execOp a.eval o).run P w = .ok (.value v) w ∧ x = ofVal v := by
  unfold gen at h
  split at h
  · rename_i l hl
    split at h
    · rename_i hv
      split at h
      · rename_i v he
        cases h
        refine ⟨v, ?_, rfl⟩
        rw [execOp_congr (ρ' := rhoOf GL σ) o (opsOf_spec hl).1 fun x hx => ?_]
        · exact pv_run _ _ he w
        · obtain ⟨u, hu⟩ := allV_spec l hv x ((opsOf_spec hl).2 x hx)
          rw [toV_eval hR hG hB hu]
          simp [rhoOf, hu]
      · cases h
    · cases h
  · cases h

theorem beq_ne {d t : Nat} (h : d ≠ t) : Nat.beq d t = false := by
  cases e : Nat.beq d t with
  | false => rfl
  | true => exact absurd (Nat.eq_of_beq_eq_true e) h
theorem eval_put_same {d : Nat} {v : Value} (hd : d < a.tmps.size) : (a.put (some d) v).eval (.tmp d) = v := by
  simp [Act.eval, Act.put, hd]
theorem eval_put_ne {d t : Nat} {v : Value} (h : t ≠ d) : (a.put (some d) v).eval (.tmp t) = a.eval (.tmp t) :=
  Act.eval_put (fun e he hx => by cases he; cases hx; exact h rfl)
theorem put_size {d : Option Tmp} {v : Value} : (a.put d v).tmps.size = a.tmps.size := by cases d <;> simp [Act.put]
theorem put_defers {d : Option Tmp} {v : Value} : (a.put d v).defers = a.defers := by cases d <;> rfl

theorem upd_one_same {d : Nat} {x : AV} : upd σ [(d, x)] d = x := by simp [upd, look]
theorem upd_one_ne {d t : Nat} {x : AV} (h : t ≠ d) : upd σ [(d, x)] t = σ t := by
  simp [upd, look, beq_ne (Ne.symm h)]
theorem upd_nil : upd σ [] = σ := rfl

/-- The relation behind a step that turned no known memory and laid no box: a new world, one temporary written. -/
theorem Rr.put (hR : Rr E N B w0 ρ σ a w) {w' : World} (hb : BelowX w0.heap.size E.X w0 w') (hw : ∀ b, b < w.heap.size → w'.heap[b]? = w.heap[b]?) (hs : w.heap.size ≤ w'.heap.size)
    {o : Oper} {x : AV} {u : List (Nat × AV)} {v : Value} (hu : setD N σ o x = some u)
    (hx : (∃ g k, x = .ref g k ∧ v = .pointer (some ⟨ρ g, k, none⟩) ∧ isOwn (σ g) = true) ∨ (isRef x = false ∧ isOwn x = false ∧ Rep w' (NB B w0.heap.size σ ρ w') x v)) :
    Rr E N B w0 ρ (upd σ u) (a.put o.dst v) w' := by
  have step : ∀ y u, Rep w (NB B w0.heap.size σ ρ w) y u → Rep w' (NB B w0.heap.size σ ρ w') y u := fun y u h =>
    h.mono fun b ⟨h1, h2, h3⟩ => ⟨⟨h1, Nat.lt_of_lt_of_le h2 hs, h3⟩, hw b h2⟩
  unfold setD at hu
  split at hu
  · rename_i hd
    cases hu
    rw [hd, upd_nil]
    refine ⟨hR.dfr, hR.siz, hR.out, hb, fun t ty c e => ?_, hR.inj, hR.ref, fun t h1 h2 => step _ _ (hR.rep t h1 h2), fun t ty c e => ?_, hR.vir⟩
    · obtain ⟨e1, e2, cs, e3, e4, e5⟩ := hR.own t ty c e
      exact ⟨e1, e2, cs, (hw _ (lt_of_cells e3)).trans e3, e4, fun i hi => step _ _ (e5 i hi)⟩
    · obtain ⟨e1, cs, e3, e4, e5⟩ := hR.vow t ty c e
      exact ⟨e1, cs, (hw _ (lt_of_cells e3)).trans e3, e4, fun i hi => step _ _ (e5 i hi)⟩
  · rename_i d hd
    split at hu
    · rename_i ho hlt
      cases hu
      rw [hd]
      have hdN : d < N := Nat.le_of_ble_eq_true hlt
      have hds : d < a.tmps.size := by rw [hR.siz]; exact hR.ltn hdN ho
      have hxo : isOwn x = false := by
        rcases hx with ⟨g, k, rfl, _⟩ | ⟨_, h, _⟩
        · rfl
        · exact h
      have own_iff : ∀ t, isOwn (upd σ [(d, x)] t) = isOwn (σ t) := fun t => by
        by_cases h : t = d
        · subst h; rw [upd_one_same, hxo, ho]
        · rw [upd_one_ne h]
      have nb : ∀ b, NB B w0.heap.size σ ρ w' b → NB B w0.heap.size (upd σ [(d, x)]) ρ w' b := fun b ⟨h1, h2, h3⟩ => ⟨h1, h2, fun t ht => h3 t (by rw [← own_iff]; exact ht)⟩
      have step' : ∀ y u, Rep w' (NB B w0.heap.size σ ρ w') y u → Rep w' (NB B w0.heap.size (upd σ [(d, x)]) ρ w') y u := fun y u h => h.mono fun b hb => ⟨nb b hb, rfl⟩
      refine ⟨(put_defers).trans hR.dfr, put_size.trans hR.siz, fun t ht => ?_, hb, fun t ty c e => ?_, fun t t' h1 h2 => hR.inj t t' (by rwa [own_iff] at h1) (by rwa [own_iff] at h2), fun t g k e => ?_, fun t h1 h2 => ?_, fun t ty c e => ?_, fun t h1 h2 => ⟨by rw [own_iff]; exact (hR.vir t h1 h2).1, (hR.vir t h1 h2).2⟩⟩
      · rw [upd_one_ne (fun h => by subst h; exact absurd ht (Nat.not_le_of_lt hdN))]; exact hR.out t ht
      · have htd : t ≠ d := fun h => by
          subst h; rw [upd_one_same] at e; rw [e] at hxo; cases hxo
        rw [upd_one_ne htd] at e
        obtain ⟨e1, e2, cs, e3, e4, e5⟩ := hR.own t ty c e
        exact ⟨(eval_put_ne htd).trans e1, e2, cs, (hw _ (lt_of_cells e3)).trans e3, e4, fun i hi => step' _ _ (step _ _ (e5 i hi))⟩
      · by_cases h : t = d
        · subst h
          rw [upd_one_same] at e
          rcases hx with ⟨g', k', rfl, hv, hg⟩ | ⟨h1, _, _⟩
          · cases e
            exact ⟨(eval_put_same hds).trans hv, by rw [own_iff]; exact hg⟩
          · rw [e] at h1; cases h1
        · rw [upd_one_ne h] at e
          obtain ⟨e1, e2⟩ := hR.ref t g k e
          exact ⟨(eval_put_ne h).trans e1, by rw [own_iff]; exact e2⟩
      · by_cases h : t = d
        · subst h
          rw [upd_one_same] at h1 h2 ⊢
          rcases hx with ⟨g', k', rfl, hv, hg⟩ | ⟨_, _, h3⟩
          · cases h2
          · rw [eval_put_same hds]; exact step' _ _ h3
        · rw [upd_one_ne h] at h1 h2 ⊢
          rw [eval_put_ne h]
          exact step' _ _ (step _ _ (hR.rep t h1 h2))
      · have htd : t ≠ d := fun h => by
          subst h; rw [upd_one_same] at e; rw [e] at hxo; cases hxo
        rw [upd_one_ne htd] at e
        obtain ⟨e1, cs, e3, e4, e5⟩ := hR.vow t ty c e
        exact ⟨e1, cs, (hw _ (lt_of_cells e3)).trans e3, e4, fun i hi => step' _ _ (step _ _ (e5 i hi))⟩
    · cases hu
end

end Go.Ev

/- Soundness of the evaluation of one operation. -/
namespace Go.Ev
open Go.RowKit

theorem Rep.notOwn {w : World} {B : Nat → Prop} {x : AV} {v : Value} (h : Rep w B x v) : isOwn x = false ∧ isRef x = false := by cases h <;> exact ⟨rfl, rfl⟩

theorem addr_add (b k n : Nat) : (⟨b, k, none⟩ : Addr).add n = ⟨b, k + n, none⟩ := by
  unfold Addr.add
  split
  · rename_i h; subst h; rfl
  · rfl

section
variable {P : Program} {GL : Nat → AV} {Γ : List (Nat × Ctr)} {E : Ext} {N : Nat} {B : Nat → Prop} {w0 w : World} {ρ : Nat → Nat} {σ : Nat → AV} {a : Act} {o : Oper}
  {K : Act → World → Prop} {Q : Exit → Act → World → Prop} {u : List (Nat × AV)}

theorem wp_value {v : Value} {w' : World} (h : (execOp a.eval o).run P w = .ok (.value v) w') (hK : K (a.put o.dst v) w') : o.wp P a w K Q := by
  unfold Oper.wp
  rw [h]
  exact hK

theorem bindSet_spec {c : Bool} {x : Option AV} (h : bindSet N σ o c x = some (true, u)) : c = true ∧ ∃ y, x = some y ∧ setD N σ o y = some u := by
  unfold bindSet at h
  split at h
  · rename_i y
    unfold ret at h
    split at h
    · rename_i u' hu
      simp only [Option.some.injEq, Prod.mk.injEq] at h
      obtain ⟨rfl, rfl⟩ := h
      exact ⟨rfl, _, rfl, hu⟩
    · cases h
  · cases h

/-- A step that lays no box and turns no memory. -/
theorem wp_still (hR : Rr E N B w0 ρ σ a w) {y : AV} (hu : setD N σ o y = some u) {v : Value} (hrun : (execOp a.eval o).run P w = .ok (.value v) w)
    (hx : (∃ g k, y = .ref g k ∧ v = .pointer (some ⟨ρ g, k, none⟩) ∧ isOwn (σ g) = true) ∨ (isRef y = false ∧ isOwn y = false ∧ Rep w (NB B w0.heap.size σ ρ w) y v))
    (hK : ∀ ρ' a' w', Rr E N B w0 ρ' (upd σ u) a' w' → K a' w') : o.wp P a w K Q :=
  wp_value hrun (hK _ _ _ (hR.put hR.blw (fun _ _ => rfl) (Nat.le_refl _) hu hx))

def tyC : AV → Option TypeId
  | .own t _ => some t
  | .vown t _ => some t
  | _ => none
theorem Boxed.mono {B1 B2 : Nat → Prop} {b : Nat} {ty : TypeId} {c : List AV} (h : Boxed w B1 b ty c) (hb : ∀ b, B1 b → B2 b) : Boxed w B2 b ty c := by
  obtain ⟨cs, h1, h2, h3⟩ := h
  exact ⟨cs, h1, h2, fun i hi => (h3 i hi).mono fun b h => ⟨hb b h, rfl⟩⟩
theorem reBox_own {x : AV} {c c' : List AV} {ty : TypeId} (h : reBox x c = .own ty c') (hx : isOwn x = true) : c = c' ∧ ∃ c0, x = .own ty c0 := by
  cases x <;> simp [reBox, isOwn] at h hx
  exact ⟨h.2, _, by rw [h.1]⟩
theorem reBox_vown {x : AV} {c c' : List AV} {ty : TypeId} (h : reBox x c = .vown ty c') (hx : isOwn x = true) : c = c' ∧ ∃ c0, x = .vown ty c0 := by
  cases x <;> simp [reBox, isOwn] at h hx
  exact ⟨h.2, _, by rw [h.1]⟩
theorem isOwn_reBox {x : AV} {c : List AV} : isOwn (reBox x c) = isOwn x := by cases x <;> rfl
theorem tyC_own {x : AV} {ty : TypeId} (h : tyC x = some ty) : isOwn x = true := by cases x <;> simp [tyC, isOwn] at h ⊢

/-- The relation behind a step that lays at most one new box, and writes to boxes. -/
theorem Rr.call (hR : Rr E N B w0 ρ σ a w) {w' : World} (hos : w'.os = w.os) (htp : w'.tape = w.tape) (hop : w'.output = w.output) (hs : w.heap.size ≤ w'.heap.size)
    (hw : ∀ b, b < w.heap.size → (∀ t, isOwn (σ t) = true → ρ t ≠ b) → w'.heap[b]? = w.heap[b]?)
    {B' : Nat → Prop} (hB' : ∀ b, B' b → (NB B w0.heap.size σ ρ w b ∨ w.heap.size ≤ b) ∧ b < w'.heap.size)
    {ou : List (Nat × AV)} (h1 : ∀ t y, look ou t = some y → ∃ ty c, tyC (σ t) = some ty ∧ y = reBox (σ t) c ∧ Boxed w' B' (ρ t) ty c)
    (h2 : ∀ t, isOwn (σ t) = true → look ou t = none → w'.heap[ρ t]? = w.heap[ρ t]?)
    {x : AV} {v : Value} {u : List (Nat × AV)} (hx : ResOk w w' B' x v) (hu : setD N σ o x = some u) :
    ∃ ρ', Rr E N B w0 ρ' (upd σ (u ++ ou)) (a.put o.dst v) w' := by
  obtain ⟨bx, hbx⟩ : ∃ bx, ∀ ty c, x = .own ty c → v = .pointer (some ⟨bx, 0, none⟩) ∧ w.heap.size ≤ bx ∧ ¬ B' bx ∧ Boxed w' B' bx ty c := by
    cases x with
    | own ty c => obtain ⟨b, h⟩ := hx; exact ⟨b, fun _ _ e => by cases e; exact h⟩
    | _ => exact ⟨0, fun _ _ e => by cases e⟩
  have hxr : (∃ ty c, x = .own ty c) ∨ (isOwn x = false ∧ isRef x = false ∧ Rep w' B' x v) := by
    cases x with
    | own ty c => exact .inl ⟨ty, c, rfl⟩
    | _ => have hx' : Rep w' B' _ v := hx
           exact .inr ⟨hx'.notOwn.1, hx'.notOwn.2, hx'⟩
  have hd : ∀ t, (o.dst = some t ∧ isOwn (σ t) = false ∧ t < E.n ∧ t < N ∧ upd σ (u ++ ou) t = x ∧ (a.put o.dst v).eval (.tmp t) = v) ∨
      (o.dst ≠ some t ∧ upd σ (u ++ ou) t = (look ou t).getD (σ t) ∧ (a.put o.dst v).eval (.tmp t) = a.eval (.tmp t)) := by
    intro t
    unfold setD at hu
    split at hu
    · rename_i hd
      cases hu
      exact .inr ⟨by rw [hd]; simp, rfl, by rw [hd]; rfl⟩
    · rename_i d hd
      split at hu
      · rename_i ho hlt
        cases hu
        have hdN : d < N := Nat.le_of_ble_eq_true hlt
        have hde := hR.ltn hdN ho
        by_cases h : t = d
        · subst h
          refine .inl ⟨hd, ho, hde, hdN, ?_, ?_⟩
          · simp [upd, look]
          · rw [hd]; exact eval_put_same (by rw [hR.siz]; exact hde)
        · refine .inr ⟨by rw [hd]; intro e; cases e; exact h rfl, ?_, by rw [hd]; exact eval_put_ne h⟩
          simp only [upd, List.cons_append, List.nil_append, look, beq_ne (Ne.symm h)]
      · cases hu
  obtain ⟨ρ', pd, pn⟩ : ∃ ρ' : Nat → Nat, (∀ t, o.dst = some t → ρ' t = bx) ∧ ∀ t, o.dst ≠ some t → ρ' t = ρ t :=
    ⟨fun t => if o.dst = some t then bx else ρ t, fun t h => if_pos h, fun t h => if_neg h⟩
  have lko : ∀ t y, look ou t = some y → isOwn (σ t) = true ∧ isOwn y = true := fun t y h => by
    obtain ⟨ty, c, e1, e2, _⟩ := h1 t y h
    have := tyC_own e1
    exact ⟨this, by rw [e2, isOwn_reBox]; exact this⟩
  have gd : ∀ t, isOwn ((look ou t).getD (σ t)) = isOwn (σ t) := fun t => by
    cases h : look ou t with
    | none => rfl
    | some y => rw [(lko t y h).1]; exact (lko t y h).2
  have gd' : ∀ t, isOwn (σ t) = false → (look ou t).getD (σ t) = σ t := fun t ht => by
    cases h : look ou t with
    | none => rfl
    | some y => rw [(lko t y h).1] at ht; cases ht
  have ow : ∀ t, isOwn (upd σ (u ++ ou) t) = true → (o.dst = some t ∧ (∃ ty c, x = .own ty c) ∧ ρ' t = bx) ∨ (o.dst ≠ some t ∧ isOwn (σ t) = true ∧ ρ' t = ρ t) := fun t ht => by
    rcases hd t with ⟨e1, e2, e3, e4, e5, e6⟩ | ⟨e1, e2, e3⟩
    · rw [e5] at ht
      rcases hxr with h | ⟨h, _, _⟩
      · exact .inl ⟨e1, h, pd t e1⟩
      · rw [h] at ht; cases ht
    · rw [e2, gd] at ht
      exact .inr ⟨e1, ht, pn t e1⟩
  have wo : ∀ t, isOwn (σ t) = true → o.dst ≠ some t ∧ isOwn (upd σ (u ++ ou) t) = true ∧ ρ' t = ρ t := fun t ht => by
    rcases hd t with ⟨e1, e2, e3, e4, e5, e6⟩ | ⟨e1, e2, e3⟩
    · rw [ht] at e2; cases e2
    · exact ⟨e1, by rw [e2, gd]; exact ht, pn t e1⟩
  have nb : ∀ b, NB B w0.heap.size σ ρ w b → NB B w0.heap.size (upd σ (u ++ ou)) ρ' w' b := fun b ⟨k1, k2, k3⟩ =>
    ⟨k1, Nat.lt_of_lt_of_le k2 hs, fun t ht => by
      rcases ow t ht with ⟨e1, ⟨ty, c, e2⟩, e3⟩ | ⟨e1, e2, e3⟩
      · rw [e3]; have := (hbx ty c e2).2.1; omega
      · rw [e3]; exact k3 t e2⟩
  have nb' : ∀ b, B' b → NB B w0.heap.size (upd σ (u ++ ou)) ρ' w' b := fun b hb => by
    obtain ⟨k1, k2⟩ := hB' b hb
    refine ⟨?_, k2, fun t ht => ?_⟩
    · rcases k1 with k1 | k1
      · exact k1.1
      · exact .inr (Nat.le_trans hR.blw.size k1)
    · rcases ow t ht with ⟨e1, ⟨ty, c, e2⟩, e3⟩ | ⟨e1, e2, e3⟩
      · rw [e3]; intro e; subst e; exact (hbx ty c e2).2.2.1 hb
      · rw [e3]
        rcases k1 with k1 | k1
        · exact k1.2.2 t e2
        · have := hR.lt e2; omega
  have step : ∀ y u', Rep w (NB B w0.heap.size σ ρ w) y u' → Rep w' (NB B w0.heap.size (upd σ (u ++ ou)) ρ' w') y u' := fun y u' h =>
    h.mono fun b hb => ⟨nb b hb, hw b hb.2.1 hb.2.2⟩
  refine ⟨ρ', (put_defers).trans hR.dfr, put_size.trans hR.siz, fun t ht => ?_, ⟨hos.trans hR.blw.os, htp.trans hR.blw.tape, hop.trans hR.blw.output, Nat.le_trans hR.blw.size hs, fun k hk hX => ?_⟩,
    fun t ty c e => ?_, fun t t' k1 k2 k3 => ?_, fun t g k e => ?_, fun t k1 k2 => ?_, fun t ty c e => ?_, fun t k1 k2 => ?_⟩
  · have hn := hR.out t ht
    rcases hd t with ⟨e1, e2, e3, e4, e5, e6⟩ | ⟨e1, e2, e3⟩
    · exact absurd e4 (Nat.not_lt_of_le ht)
    · rw [e2, gd' t (by rw [hn]; rfl)]; exact hn
  · exact (hw k (Nat.lt_of_lt_of_le hk hR.blw.size) fun t ht => hR.apart ht ⟨hk, hX⟩).trans (hR.blw.block k hk hX)
  · rcases hd t with ⟨e1, e2, e3, e4, e5, e6⟩ | ⟨e1, e2, e3⟩
    · rw [e5] at e
      obtain ⟨f1, f2, f3, f4⟩ := hbx ty c e
      rw [e6, pd t e1]
      exact ⟨f1, Nat.le_trans hR.blw.size f2, f4.mono nb'⟩
    · rw [e2] at e
      rw [e3, pn t e1]
      cases hl : look ou t with
      | none =>
        rw [hl] at e
        have e : σ t = .own ty c := e
        obtain ⟨f1, f2, cs, f3, f4, f5⟩ := hR.own t ty c e
        exact ⟨f1, f2, cs, (h2 t (by rw [e]; rfl) hl).trans f3, f4, fun i hi => step _ _ (f5 i hi)⟩
      | some y =>
        rw [hl] at e
        have e : y = .own ty c := e
        obtain ⟨ty', c', g1, g2, g3⟩ := h1 t y hl
        rw [g2] at e
        obtain ⟨rfl, c0, e0⟩ := reBox_own e (lko t y hl).1
        have : ty' = ty := by rw [e0] at g1; cases g1; rfl
        subst this
        obtain ⟨f1, f2, _⟩ := hR.own t _ _ e0
        exact ⟨f1, f2, g3.mono nb'⟩
  · rcases ow t k1 with ⟨e1, ⟨ty, c, e2⟩, e3⟩ | ⟨e1, e2, e3⟩
    · rcases ow t' k2 with ⟨e1', _, e3'⟩ | ⟨e1', e2', e3'⟩
      · rw [e1] at e1'; cases e1'; rfl
      · exfalso
        have := (hbx ty c e2).2.1
        have := hR.lt e2'
        rw [e3, e3'] at k3
        omega
    · rcases ow t' k2 with ⟨e1', ⟨ty, c, e2'⟩, e3'⟩ | ⟨e1', e2', e3'⟩
      · exfalso
        have := (hbx ty c e2').2.1
        have := hR.lt e2
        rw [e3, e3'] at k3
        omega
      · rw [e3, e3'] at k3
        exact hR.inj t t' e2 e2' k3
  · rcases hd t with ⟨e1, e2, e3, e4, e5, e6⟩ | ⟨e1, e2, e3⟩
    · exfalso
      rw [e5] at e
      rcases hxr with ⟨ty, c, h⟩ | ⟨_, h, _⟩
      · rw [h] at e; cases e
      · rw [e] at h; cases h
    · have ho : isOwn (σ t) = false := by
        cases h : isOwn (σ t) with
        | false => rfl
        | true => have := gd t; rw [h, ← e2, e] at this; cases this
      rw [e2, gd' t ho] at e
      obtain ⟨f1, f2⟩ := hR.ref t g k e
      rw [e3, (wo g f2).2.2]
      exact ⟨f1, (wo g f2).2.1⟩
  · rcases hd t with ⟨e1, e2, e3, e4, e5, e6⟩ | ⟨e1, e2, e3⟩
    · rw [e5] at k1 ⊢
      rw [e6]
      rcases hxr with ⟨ty, c, h⟩ | ⟨_, _, h⟩
      · rw [h] at k1; cases k1
      · exact h.mono fun b hb => ⟨nb' b hb, rfl⟩
    · rw [e2] at k1 k2 ⊢
      rw [gd] at k1
      rw [gd' t k1] at k2 ⊢
      rw [e3]
      exact step _ _ (hR.rep t k1 k2)
  · rcases hd t with ⟨e1, e2, e3, e4, e5, e6⟩ | ⟨e1, e2, e3⟩
    · exfalso
      rw [e5] at e
      rcases hxr with ⟨ty, c, h⟩ | ⟨h, _, _⟩
      · rw [h] at e; cases e
      · rw [e] at h; cases h
    · rw [e2] at e
      rw [pn t e1]
      cases hl : look ou t with
      | none =>
        rw [hl] at e
        have e : σ t = .vown ty c := e
        obtain ⟨f1, cs, f3, f4, f5⟩ := hR.vow t ty c e
        exact ⟨f1, cs, (h2 t (by rw [e]; rfl) hl).trans f3, f4, fun i hi => step _ _ (f5 i hi)⟩
      | some y =>
        rw [hl] at e
        have e : y = .vown ty c := e
        obtain ⟨ty', c', g1, g2, g3⟩ := h1 t y hl
        rw [g2] at e
        obtain ⟨rfl, c0, e0⟩ := reBox_vown e (lko t y hl).1
        have : ty' = ty := by rw [e0] at g1; cases g1; rfl
        subst this
        exact ⟨(hR.vow t _ _ e0).1, g3.mono nb'⟩
  · have h := hR.vir t k1 k2
    obtain ⟨f1, f2, f3⟩ := wo t h.1
    exact ⟨f2, f3.trans h.2⟩

/-- A new box. -/
theorem Rr.newBox (hR : Rr E N B w0 ρ σ a w) {ty : TypeId} {l : List AV} {cs : List Value} (hl : l.length = cs.length)
    (hr : ∀ i, i < l.length → Rep w (NB B w0.heap.size σ ρ w) (l.getD i .non) (cs.getD i undef)) (hu : setD N σ o (.own ty l) = some u) :
    ∃ ρ', Rr E N B w0 ρ' (upd σ u) (a.put o.dst (.pointer (some ⟨w.heap.size, 0, none⟩))) { w with heap := w.heap.push (.cells ⟨cs⟩ ty (0, 0)) } := by
  have hw : ∀ b, b < w.heap.size → (w.heap.push (.cells ⟨cs⟩ ty (0, 0)))[b]? = w.heap[b]? := fun b hb => by rw [Array.getElem?_push, if_neg (by omega)]
  have hnew : (w.heap.push (.cells ⟨cs⟩ ty (0, 0)))[w.heap.size]? = some (.cells ⟨cs⟩ ty (0, 0)) := by simp
  have := hR.call (o := o) (w' := { w with heap := w.heap.push (.cells ⟨cs⟩ ty (0, 0)) }) (B' := NB B w0.heap.size σ ρ w) (ou := []) (x := .own ty l)
    (v := .pointer (some ⟨w.heap.size, 0, none⟩)) (u := u) rfl rfl rfl (by simp) (fun b hb _ => hw b hb) (fun b hb => ⟨.inl hb, by have := hb.2.1; simp; omega⟩) (fun t y h => by cases h)
    (fun t ht _ => hw _ (hR.lt ht)) ⟨w.heap.size, rfl, Nat.le_refl _, fun h => Nat.lt_irrefl _ h.2.1, cs, hnew, hl, fun i hi => (hr i hi).mono fun b hb => ⟨hb, hw b hb.2.1⟩⟩ hu
  rw [List.append_nil] at this
  exact this

theorem flat_rep {Bb : Nat → Prop} {x : AV} {l : List AV} {v : Value} (h : flat x = some l) (r : Rep w Bb x v) :
    ∃ cs : List Value, v.cells = ⟨cs⟩ ∧ l.length = cs.length ∧ ∀ i, i < l.length → Rep w Bb (l.getD i .non) (cs.getD i undef) := by
  have one : ∀ (y : AV) (u : Value), Rep w Bb y u → ∀ i, i < [y].length → Rep w Bb ([y].getD i .non) ([u].getD i undef) := fun y u r i hi => by
    have : i = 0 := by simpa using hi
    subst this
    exact r
  cases x with
  | agg l' =>
    simp only [flat, Option.some.injEq] at h
    subst h
    cases r with
    | agg l cs hl hr => exact ⟨cs, rfl, hl, hr⟩
  | val y =>
    cases r
    cases v with
    | agg z => simp [flat] at h
    | _ =>
      simp only [flat, Option.some.injEq] at h
      subst h
      exact ⟨[_], rfl, rfl, one _ _ (.val _)⟩
  | lst n k row =>
    simp only [flat, Option.some.injEq] at h
    subst h
    cases r with
    | nil => exact ⟨[_], rfl, rfl, one _ _ (.nil _ _ _ _)⟩
    | lst _ _ _ b o cap f hB hk hc r => exact ⟨[_], rfl, rfl, one _ _ (.lst _ _ _ b o cap f hB hk hc r)⟩
  | arr n ks c =>
    simp only [flat, Option.some.injEq] at h
    subst h
    have hv : v.cells = ⟨[v]⟩ := by cases r with | arr _ _ _ _ r => cases r <;> rfl
    exact ⟨[v], hv, rfl, one _ _ r⟩
  | _ => simp [flat] at h

/-- A load of known cells. -/
theorem ldAV_run {Bb : Nat → Prop} {ty : TypeId} {c : List AV} {x : AV} (h : ldAV P ty c = some x) {b k : Nat} (f : Nat → Value)
    (hc : ∀ j, j < c.length → w.cell? ⟨b, k + j, none⟩ = some (f j)) (hr : ∀ j, j < c.length → Rep w Bb (c.getD j .non) (f j)) :
    ∃ v, (loadVar ty ⟨b, k, none⟩).run P w = .ok v w ∧ Rep w Bb x v := by
  unfold ldAV at h
  split at h
  · rename_i ha
    split at h
    · rename_i n hn
      split at h
      · rename_i hle
        cases h
        have hle' : n ≤ c.length := Nat.le_of_ble_eq_true hle
        refine ⟨.agg ((List.range n).map f).toArray, ?_, ?_⟩
        · simp only [loadVar, Sem.run_bind, pv_run _ _ ha, Result.andThen_ok, if_true, pv_run _ _ hn]
          rw [run_loadCells w ⟨b, k, none⟩ n f (fun j hj => by rw [addr_add]; exact hc j (by omega))]
          rfl
        · refine .agg _ _ (by simp; omega) fun i hi => ?_
          have hi' : i < n := by simp at hi; omega
          have e1 : (c.take n).getD i .non = c.getD i .non := by simp [List.getD, List.getElem?_take, hi']
          have e2 : ((List.range n).map f).getD i undef = f i := by simp [List.getD, hi']
          rw [e1, e2]
          exact hr i (by omega)
      · cases h
    · cases h
  · rename_i ha
    split at h
    · rename_i y l
      cases h
      refine ⟨f 0, ?_, by have := hr 0 (by simp); simpa using this⟩
      have h0 := hc 0 (by simp)
      simp only [Nat.add_zero] at h0
      simp [loadVar, pv_run _ _ ha, h0]
    · cases h
  · cases h

theorem box_cells (hR : Rr E N B w0 ρ σ a w) {g : Nat} {c : List AV} (e : boxC (σ g) = some c) :
    isOwn (σ g) = true ∧ ∃ ty, tyC (σ g) = some ty ∧ Boxed w (NB B w0.heap.size σ ρ w) (ρ g) ty c := by
  cases h : σ g with
  | own ty c' =>
    rw [h] at e
    cases e
    exact ⟨rfl, ty, rfl, (hR.own g ty _ h).2.2⟩
  | vown ty c' =>
    rw [h] at e
    cases e
    exact ⟨rfl, ty, rfl, (hR.vow g ty _ h).2⟩
  | _ => rw [h] at e; cases e
theorem own_cells (hR : Rr E N B w0 ρ σ a w) {g : Nat} {c : List AV} (e : boxC (σ g) = some c) :
    ∃ f : Nat → Value, (∀ j, j < c.length → w.cell? ⟨ρ g, j, none⟩ = some (f j)) ∧ ∀ j, j < c.length → Rep w (NB B w0.heap.size σ ρ w) (c.getD j .non) (f j) := by
  obtain ⟨_, ty, _, cs, e3, e4, e5⟩ := box_cells hR e
  refine ⟨fun j => cs.getD j undef, fun j hj => ?_, fun j hj => e5 j hj⟩
  have hj' : j < cs.length := by omega
  simp [World.cell?, e3, hj', List.getD]

theorem getD_drop' (c : List AV) (k j : Nat) : (c.drop k).getD j .non = c.getD (k + j) .non := by simp [List.getD, List.getElem?_drop]

theorem allOne_spec {Bb : Nat → Prop} : ∀ (l : List AV) (cs : List Value), allOne l = true → l.length = cs.length → (∀ i, i < l.length → Rep w Bb (l.getD i .non) (cs.getD i undef)) → ∀ v ∈ cs, v.oneCell' = true
  | [], cs, _, hl, _, v, hv => by cases cs <;> simp_all
  | x :: l, cs, h, hl, hr, v, hv => by
    cases cs with
    | nil => simp at hl
    | cons c cs =>
      have h0 := hr 0 (by simp)
      simp only [List.getD_cons_zero] at h0
      have ht : allOne l = true → ∀ v ∈ cs, v.oneCell' = true := fun h => allOne_spec l cs h (by simpa using hl) fun i hi => by
        have := hr (i + 1) (by simpa using hi)
        simpa using this
      cases x with
      | val y =>
        unfold allOne at h
        split at h
        · rename_i hy
          cases h0
          rcases List.mem_cons.1 hv with rfl | hv
          · exact hy
          · exact ht h v hv
        · cases h
      | lst n k row =>
        have hc : c.oneCell' = true := by cases h0 <;> rfl
        rcases List.mem_cons.1 hv with rfl | hv
        · exact hc
        · exact ht h v hv
      | arr n ks cf =>
        have hc : c.oneCell' = true := by cases h0 with | arr _ _ _ _ r => cases r <;> rfl
        rcases List.mem_cons.1 hv with rfl | hv
        · exact hc
        · exact ht h v hv
      | _ => simp [allOne] at h

theorem splice_length {α : Type} (c l : List α) (k : Nat) (h : k + l.length ≤ c.length) : (c.take k ++ l ++ c.drop (k + l.length)).length = c.length := by
  simp
  omega
theorem splice_getD {α : Type} (c l : List α) (k i : Nat) (d : α) (h : k + l.length ≤ c.length) :
    (c.take k ++ l ++ c.drop (k + l.length)).getD i d = if i < k then c.getD i d else if i < k + l.length then l.getD (i - k) d else c.getD i d := by
  simp only [List.getD]
  by_cases h1 : i < k
  · rw [if_pos h1, List.append_assoc, List.getElem?_append_left (by simp; omega), List.getElem?_take, if_pos h1]
  · rw [if_neg h1]
    by_cases h2 : i < k + l.length
    · rw [if_pos h2, List.append_assoc, List.getElem?_append_right (by simp; omega), List.getElem?_append_left (by simp; omega)]
      simp [show min k c.length = k by omega]
    · rw [if_neg h2, List.getElem?_append_right (by simp; omega), List.getElem?_drop]
      congr 2
      simp [show min k c.length = k by omega]
      omega

/-- A store into a box. -/
theorem Rr.store (hR : Rr E N B w0 ρ σ a w) {g k : Nat} {t0 : TypeId} {c l : List AV} {vs cs : List Value} (e : boxC (σ g) = some c) (hle : k + l.length ≤ c.length) (hd : o.dst = none)
    (hcs : w.heap[ρ g]? = some (.cells ⟨cs⟩ t0 (0, 0))) (hl : l.length = vs.length) (hr : ∀ i, i < l.length → Rep w (NB B w0.heap.size σ ρ w) (l.getD i .non) (vs.getD i undef)) :
    ∃ ρ', Rr E N B w0 ρ' (upd σ [(g, reBox (σ g) (splice c k l))]) a (w.setRow (ρ g) (cs.take k ++ vs ++ cs.drop (k + vs.length)).toArray) := by
  obtain ⟨hgo, ty, hty, cs', g3, g4, g5⟩ := box_cells hR e
  have hcs' : cs' = cs ∧ ty = t0 := by rw [hcs] at g3; cases g3; exact ⟨rfl, rfl⟩
  obtain ⟨rfl, rfl⟩ := hcs'
  have hw : ∀ b, b ≠ ρ g → (w.setRow (ρ g) (cs'.take k ++ vs ++ cs'.drop (k + vs.length)).toArray).heap[b]? = w.heap[b]? := fun b hb => by
    simp only [World.setRow, Array.getElem?_modify]
    rw [if_neg (Ne.symm hb)]
  have hsz : (w.setRow (ρ g) (cs'.take k ++ vs ++ cs'.drop (k + vs.length)).toArray).heap.size = w.heap.size := by simp [World.setRow]
  have hg := setRow_heap w (ρ g) _ (cs'.take k ++ vs ++ cs'.drop (k + vs.length)).toArray ty (0, 0) hcs
  have step : ∀ y u, Rep w (NB B w0.heap.size σ ρ w) y u → Rep (w.setRow (ρ g) (cs'.take k ++ vs ++ cs'.drop (k + vs.length)).toArray) (NB B w0.heap.size σ ρ w) y u := fun y u h =>
    h.mono fun b hb => ⟨hb, hw b (Ne.symm (hb.2.2 g hgo))⟩
  have := hR.call (o := o) (w' := w.setRow (ρ g) (cs'.take k ++ vs ++ cs'.drop (k + vs.length)).toArray) (B' := NB B w0.heap.size σ ρ w) (ou := [(g, reBox (σ g) (splice c k l))]) (x := .non)
    (v := undef) (u := []) rfl rfl rfl (by rw [hsz]; exact Nat.le_refl _) (fun b hb h => hw b (Ne.symm (h g hgo))) (fun b hb => ⟨.inl hb, by rw [hsz]; exact hb.2.1⟩) (fun t y h => ?_)
    (fun t ht h => ?_) (Rep.non _) (by unfold setD; rw [hd])
  · rw [hd] at this
    exact this
  · have htg : t = g ∧ reBox (σ g) (splice c k l) = y := by
      unfold look at h
      split at h
      · rename_i hb
        cases h
        exact ⟨(Nat.eq_of_beq_eq_true hb).symm, rfl⟩
      · cases h
    obtain ⟨rfl, rfl⟩ := htg
    refine ⟨ty, _, hty, rfl, _, hg, ?_, fun i hi => ?_⟩
    · unfold splice
      rw [splice_length _ _ _ hle, splice_length _ _ _ (by omega)]
      exact g4
    · unfold splice at hi ⊢
      rw [splice_length _ _ _ hle] at hi
      rw [splice_getD _ _ _ _ _ hle, splice_getD _ _ _ _ _ (by omega)]
      by_cases h1 : i < k
      · rw [if_pos h1, if_pos h1]; exact step _ _ (g5 i hi)
      · rw [if_neg h1, if_neg h1]
        by_cases h2 : i < k + l.length
        · rw [if_pos h2, if_pos (by omega)]; exact step _ _ (hr _ (by omega))
        · rw [if_neg h2, if_neg (by omega)]; exact step _ _ (g5 i hi)
  · have htg : t ≠ g := fun e => by subst e; simp [look] at h
    exact hw _ fun e => htg (hR.inj t g ht hgo e)
end
end Go.Ev

/- Soundness of the evaluation of one operation: all cases; its guard. -/
namespace Go.Ev
open Go.RowKit

section
variable {P : Program} {GL : Nat → AV} {Γ : List (Nat × Ctr)} {E : Ext} {N : Nat} {B : Nat → Prop} {w0 w : World} {ρ : Nat → Nat} {σ : Nat → AV} {a : Act} {o : Oper}
  {K : Act → World → Prop} {Q : Exit → Act → World → Prop} {u : List (Nat × AV)}

theorem wp_gen (hR : Rr E N B w0 ρ σ a w) (hG : ∀ g, Rep w0 B (GL g) (.pointer (some ⟨g, 0, none⟩))) (hB : ∀ b, B b → b < w0.heap.size ∧ ¬ E.X b)
    (h : bindSet N σ o true (gen P GL σ o) = some (true, u)) (hK : ∀ ρ' a' w', Rr E N B w0 ρ' (upd σ u) a' w' → K a' w') : o.wp P a w K Q := by
  obtain ⟨_, y, hy, hu⟩ := bindSet_spec h
  obtain ⟨v, hrun, rfl⟩ := gen_run hR hG hB hy
  have hr := rep_ofVal (w := w) (B := NB B w0.heap.size σ ρ w) v
  exact wp_still hR hu hrun (.inr ⟨hr.notOwn.2, hr.notOwn.1, hr⟩) hK

theorem wp_int {b : BinOp} {t yt : TypeId} {x y : Operand} {p q r : Int} {c : Bool} (hR : Rr E N B w0 ρ σ a w) (hG : ∀ g, Rep w0 B (GL g) (.pointer (some ⟨g, 0, none⟩))) (hB : ∀ b, B b → b < w0.heap.size ∧ ¬ E.X b)
    (ho : o.op = .binOp b t x y yt) (hx : evA GL σ x = .val (.int .i64 p)) (hy : evA GL σ y = .val (.int .i64 q))
    (h : bindSet N σ o c (some (.val (.int .i64 r))) = some (true, u))
    (hop : c = true → (do eqGuard b t x y (.int .i64 p) (.int .i64 q); binOp b t (.int .i64 p) (.int .i64 q)).run P w = .ok (.int .i64 r) w)
    (hK : ∀ ρ' a' w', Rr E N B w0 ρ' (upd σ u) a' w' → K a' w') : o.wp P a w K Q := by
  obtain ⟨hc, z, hz, hu⟩ := bindSet_spec h
  cases hz
  have ex : a.eval x = .int .i64 p := toV_eval hR hG hB (by rw [hx]; rfl)
  have ey : a.eval y = .int .i64 q := toV_eval hR hG hB (by rw [hy]; rfl)
  refine wp_still hR hu (v := .int .i64 r) ?_ (.inr ⟨rfl, rfl, .val _⟩) hK
  obtain ⟨dst, op, type, pos, after, guard⟩ := o
  simp only at ho
  subst ho
  simp only [execOp, ex, ey, Sem.run_bind]
  have := hop hc
  simp only [Sem.run_bind] at this
  rw [this]
  rfl

theorem noRefs_spec : ∀ {l : List AV}, noRefs l = true → ∀ x ∈ l, isRef x = false
  | [], _, x, hx => by cases hx
  | y :: l, h, x, hx => by
    have h' : noRefs l = true ∧ isRef y = false := by
      cases y <;> first | exact ⟨h, rfl⟩ | cases h
    rcases List.mem_cons.1 hx with e | hx
    · rw [e]; exact h'.2
    · exact noRefs_spec h'.1 x hx

theorem callFunc_run {g : Nat} {fn : Func} {args : Array Value} (hf : P.funcs[g]? = some fn) (hnm : (fn.name == "runtime.NumGoroutine") = false) (hbd : fn.body.isSome = true) :
    (callFunc g args).run P w = .ok (.enter g args) w := by
  unfold callFunc
  rw [Sem.run_bind, show (program : Sem Program).run P w = .ok P w from rfl, Result.andThen_ok]
  simp only [hf, hnm, Bool.false_eq_true, if_false]
  rw [if_neg (by cases h : fn.body <;> simp_all)]
  rfl

theorem argV_spec {x y : AV} (h : argV σ x = some y) : (∃ g ty c, x = .ref g 0 ∧ y = .own ty c ∧ boxC (σ g) = some c ∧ tyC (σ g) = some ty) ∨ (isRef x = false ∧ y = x) := by
  cases x with
  | ref g k =>
    unfold argV at h
    simp only at h
    split at h
    · rename_i hk
      have hk' : k = 0 := Nat.eq_of_beq_eq_true hk
      subst hk'
      split at h
      · rename_i t c e
        cases h
        exact .inl ⟨g, t, c, rfl, rfl, by rw [e]; rfl, by rw [e]; rfl⟩
      · rename_i t c e
        cases h
        exact .inl ⟨g, t, c, rfl, rfl, by rw [e]; rfl, by rw [e]; rfl⟩
      · cases h
    · cases h
  | _ => cases h; exact .inr ⟨rfl, rfl⟩
theorem argsV_spec : ∀ {xs as : List AV}, argsV σ xs = some as → as.length = xs.length ∧ ∀ i, i < xs.length → argV σ (xs.getD i .non) = some (as.getD i .non)
  | [], as, h => by cases h; exact ⟨rfl, fun i hi => by simp at hi⟩
  | x :: xs, as, h => by
    unfold argsV at h
    split at h
    · rename_i y hy
      split at h
      · rename_i ys hys
        cases h
        obtain ⟨h1, h2⟩ := argsV_spec hys
        refine ⟨by simp [h1], fun i hi => ?_⟩
        cases i with
        | zero => simpa using hy
        | succ i => simpa using h2 i (by simpa using hi)
      · cases h
    · cases h
theorem mem_gsOf {g k : Nat} : ∀ {xs : List AV} {i : Nat}, xs.getD i .non = .ref g k → g ∈ gsOf xs
  | [], i, h => by simp at h
  | x :: xs, 0, h => by
    have h : x = .ref g k := by simpa using h
    subst h
    simp [gsOf]
  | x :: xs, i + 1, h => by
    have := mem_gsOf (xs := xs) (i := i) (by simpa using h)
    cases x <;> simp [gsOf, this]
theorem memB_spec {g : Nat} : ∀ {l : List Nat}, memB g l = false → g ∉ l
  | [], _ => by simp
  | x :: l, h => by
    unfold memB at h
    split at h
    · cases h
    · rename_i hx
      have := memB_spec h
      simp only [List.mem_cons, not_or]
      exact ⟨fun e => (by rw [e, Nat.beq_refl] at hx; cases hx), this⟩
theorem nodup_spec {g k k' : Nat} : ∀ {xs : List AV} {i j : Nat}, nodupB (gsOf xs) = true → xs.getD i .non = .ref g k → xs.getD j .non = .ref g k' → i = j
  | [], i, j, _, h, _ => by simp at h
  | x :: xs, 0, 0, _, _, _ => rfl
  | x :: xs, 0, j + 1, hn, h1, h2 => by
    exfalso
    have h1 : x = .ref g k := by simpa using h1
    subst h1
    have h2 : g ∈ gsOf xs := mem_gsOf (i := j) (by simpa using h2)
    simp only [gsOf, nodupB] at hn
    split at hn
    · cases hn
    · rename_i hm
      exact memB_spec hm h2
  | x :: xs, i + 1, 0, hn, h1, h2 => by
    exfalso
    have h2 : x = .ref g k' := by simpa using h2
    subst h2
    have h1 : g ∈ gsOf xs := mem_gsOf (i := i) (by simpa using h1)
    simp only [gsOf, nodupB] at hn
    split at hn
    · cases hn
    · rename_i hm
      exact memB_spec hm h1
  | x :: xs, i + 1, j + 1, hn, h1, h2 => by
    have hn' : nodupB (gsOf xs) = true := by
      cases x <;> simp only [gsOf] at hn <;> try exact hn
      unfold nodupB at hn
      split at hn
      · cases hn
      · exact hn
    have := nodup_spec (i := i) (j := j) hn' (by simpa using h1) (by simpa using h2)
    omega
theorem outU_spec {t : Nat} : ∀ {xs os : List AV} {ou : List (Nat × AV)}, outU σ xs os = some ou →
    (∀ y, look ou t = some y → ∃ i k c, i < xs.length ∧ xs.getD i .non = .ref t k ∧ os.getD i .non = .agg c ∧ y = reBox (σ t) c) ∧
    (look ou t = none → ∀ i k, xs.getD i .non ≠ .ref t k)
  | [], os, ou, h => by
    cases h
    exact ⟨fun y h => (by cases h), fun _ i k h => (by simp at h)⟩
  | x :: xs, os, ou, h => by
    have skip : ∀ os', isRef x = false → outU σ xs os' = some ou → (∀ i, os.getD (i + 1) .non = os'.getD i .non) →
        (∀ y, look ou t = some y → ∃ i k c, i < (x :: xs).length ∧ (x :: xs).getD i .non = .ref t k ∧ os.getD i .non = .agg c ∧ y = reBox (σ t) c) ∧
        (look ou t = none → ∀ i k, (x :: xs).getD i .non ≠ .ref t k) := fun os' hx h' ho => by
      obtain ⟨h1, h2⟩ := outU_spec (t := t) h'
      refine ⟨fun y hy => ?_, fun hn i k => ?_⟩
      · obtain ⟨i, k, c, e1, e2, e3, e4⟩ := h1 y hy
        exact ⟨i + 1, k, c, by simpa using e1, by simpa using e2, by rw [ho]; exact e3, e4⟩
      · cases i with
        | zero => intro e; have e : x = .ref t k := by simpa using e
                  rw [e] at hx; cases hx
        | succ i => simpa using h2 hn i k
    unfold outU at h
    split at h
    · rename_i heq; cases heq
    · rename_i g k as c os' heq
      cases heq
      split at h
      · rename_i u hu
        cases h
        obtain ⟨h1, h2⟩ := outU_spec (t := t) hu
        by_cases hg : g = t
        · subst hg
          refine ⟨fun y hy => ?_, fun hn => ?_⟩
          · simp only [look, Nat.beq_refl] at hy
            cases hy
            exact ⟨0, k, c, by simp, by simp, by simp, rfl⟩
          · simp only [look, Nat.beq_refl] at hn
            cases hn
        · refine ⟨fun y hy => ?_, fun hn i k' => ?_⟩
          · simp only [look, beq_ne hg] at hy
            obtain ⟨i, k', c', e1, e2, e3, e4⟩ := h1 y hy
            exact ⟨i + 1, k', c', by simpa using e1, by simpa using e2, by simpa using e3, e4⟩
          · simp only [look, beq_ne hg] at hn
            cases i with
            | zero => intro e; have e : AV.ref g k = .ref t k' := by simpa using e
                      cases e; exact hg rfl
            | succ i => simpa using h2 hn i k'
      · cases h
    · cases h
    · rename_i heq
      cases heq
      exact skip _ (by cases x <;> first | rfl | simp_all) h (fun i => by simp)
    · rename_i heq
      cases heq
      exact skip [] (by cases x <;> first | rfl | simp_all) h (fun i => by simp)
theorem ArgOk.of_rep {Bb : Nat → Prop} {b : Nat} {x : AV} {v : Value} (h : Rep w Bb x v) : ArgOk w Bb b x v := by cases h <;> constructor <;> assumption

theorem wp_call (hΓ : Sound P GL Γ) (hR : Rr E N B w0 ρ σ a w) (hG : ∀ g, Rep w0 B (GL g) (.pointer (some ⟨g, 0, none⟩))) (hB : ∀ b, B b → b < w0.heap.size ∧ ¬ E.X b)
    {g : Nat} {args : Array Operand} {ts : Array TypeId} (ho : o.op = .call ⟨.value (.func g), args, ts⟩) (h : callOf GL Γ N σ o g args.toList = some (true, u))
    (hK : ∀ ρ' a' w', Rr E N B w0 ρ' (upd σ u) a' w' → K a' w') : o.wp P a w K Q := by
  unfold callOf at h
  split at h
  · rename_i s hs
    split at h
    · rename_i as has hnd
      split at h
      case h_2 => cases h
      rename_i cc y hy
      split at h
      case h_2 => cases h
      rename_i ou u0 hou hu
      cases h
      obtain ⟨⟨fn, hf, hnm, hbd⟩, hc⟩ := hΓ g s hs
      obtain ⟨hlen, hav⟩ := argsV_spec has
      have hg' : ∀ g, Rep w (NB B w0.heap.size σ ρ w) (GL g) (.pointer (some ⟨g, 0, none⟩)) := fun g => by
        have := (evA_rep (x := .global g) hR hG hB (by have := (hG g).notOwn.2; simpa [evA] using this)).2
        simpa [evA, Act.eval] using this
      have hlen' : as.length = args.toList.length := by rw [hlen]; simp
      -- each argument
      have arg : ∀ i, i < as.length → (∃ t ty c, (args.toList.map (evA GL σ)).getD i .non = .ref t 0 ∧ as.getD i .non = .own ty c ∧ boxC (σ t) = some c ∧ tyC (σ t) = some ty ∧
            (args.toList.map a.eval).getD i undef = .pointer (some ⟨ρ t, 0, none⟩)) ∨
          (isRef ((args.toList.map (evA GL σ)).getD i .non) = false ∧ isOwn (as.getD i .non) = false ∧ Rep w (NB B w0.heap.size σ ρ w) (as.getD i .non) ((args.toList.map a.eval).getD i undef)) := by
        intro i hi
        have hi' : i < args.toList.length := by omega
        have e1 : (args.toList.map (evA GL σ)).getD i .non = evA GL σ args.toList[i] := by simp only [List.getD, List.getElem?_map, List.getElem?_eq_getElem hi', Option.map_some, Option.getD_some]
        have e2 : (args.toList.map a.eval).getD i undef = a.eval args.toList[i] := by simp only [List.getD, List.getElem?_map, List.getElem?_eq_getElem hi', Option.map_some, Option.getD_some]
        rcases argV_spec (hav i (by omega)) with ⟨t, ty, c, f1, f2, f3, f4⟩ | ⟨f1, f2⟩
        · refine .inl ⟨t, ty, c, f1, f2, f3, f4, ?_⟩
          rw [e2]
          exact (evA_ref hR hG hB (e1 ▸ f1)).1
        · rw [f2, e1, e2]
          rw [e1] at f1
          obtain ⟨g1, g2⟩ := evA_rep hR hG hB f1
          exact .inr ⟨f1, g1, g2⟩
      let β : Nat → Nat := fun i => match (args.toList.map (evA GL σ)).getD i .non with
        | .ref t _ => ρ t
        | _ => 0
      have hβ : ∀ i t k, (args.toList.map (evA GL σ)).getD i .non = .ref t k → β i = ρ t := fun i t k e => by simp only [β, e]
      have hcall := hc as y hy w (NB B w0.heap.size σ ρ w) (args.toList.map a.eval) β (fun b hb => hb.2.1) hg' (by simpa using hlen') (fun i hi => by
        rcases arg i hi with ⟨t, ty, c, f1, f2, f3, f4, f5⟩ | ⟨f1, f2, f3⟩
        · rw [f2, f5, hβ i t 0 f1]
          obtain ⟨g1, ty', g2, g3⟩ := box_cells hR f3
          rw [f4] at g2
          cases g2
          exact ⟨rfl, fun hb => hb.2.2 t g1 rfl, g3⟩
        · exact ArgOk.of_rep f3) (fun i j hi hj oi oj e => by
        rcases arg i hi with ⟨t, ty, c, f1, f2, f3, f4, f5⟩ | ⟨f1, f2, f3⟩
        · rcases arg j hj with ⟨t', ty', c', f1', f2', f3', f4', f5'⟩ | ⟨f1', f2', f3'⟩
          · rw [hβ i t 0 f1, hβ j t' 0 f1'] at e
            have := hR.inj t t' (box_cells hR f3).1 (box_cells hR f3').1 e
            subst this
            exact nodup_spec hnd f1 f1'
          · rw [oj] at f2'; cases f2'
        · rw [oi] at f2; cases f2)
      have hrun : (execOp a.eval o).run P w = .ok (.enter g ⟨args.toList.map a.eval⟩) w := by
        obtain ⟨dst, op, type, pos, after, guard⟩ := o
        simp only at ho
        subst ho
        have e : (⟨args.toList.map a.eval⟩ : Array Value) = args.map a.eval := by
          apply Array.ext'
          simp
        have := callFunc_run (P := P) (w := w) (args := args.map a.eval) hf hnm hbd
        rw [e]
        simpa [execOp, resolve, Act.eval, Deferred.ofValue, invoke] using this
      unfold Oper.wp
      rw [hrun]
      show Calls P g _ w _
      refine hcall.mono ?_
      rintro e w' ⟨v, rfl, hbw, B', hB', hres, hout⟩
      have hX : ∀ b, (∃ i, i < as.length ∧ isOwn (as.getD i .non) = true ∧ b = β i) → ∃ i t, (args.toList.map (evA GL σ)).getD i .non = .ref t 0 ∧ isOwn (σ t) = true ∧ b = ρ t := by
        rintro b ⟨i, hi, hio, rfl⟩
        rcases arg i hi with ⟨t, ty, c, f1, f2, f3, f4, f5⟩ | ⟨f1, f2, f3⟩
        · exact ⟨i, t, f1, tyC_own f4, hβ i t 0 f1⟩
        · rw [hio] at f2; cases f2
      obtain ⟨ρ', hR'⟩ := hR.call (o := o) hbw.os hbw.tape hbw.output hbw.size (fun b hb hn => hbw.block b hb fun hx => by
          obtain ⟨i, t, _, h2, h3⟩ := hX b hx
          exact hn t h2 h3.symm) hB' (ou := ou) (fun t z hz => by
          obtain ⟨i, k, c, e1, e2, e3, e4⟩ := (outU_spec (t := t) hou).1 z hz
          have hi : i < as.length := by rw [hlen]; exact e1
          rcases arg i hi with ⟨t', ty, c', f1, f2, f3, f4, f5⟩ | ⟨f1, f2, f3⟩
          · rw [e2] at f1
            cases f1
            obtain ⟨c2, g1, g2⟩ := hout i ty c' hi f2
            rw [e3] at g1
            cases g1
            rw [hβ i t 0 e2] at g2
            exact ⟨ty, c, f4, e4, g2⟩
          · rw [e2] at f1; cases f1) (fun t ht hn => hbw.block _ (hR.lt ht) fun hx => by
          obtain ⟨i, t', h1, h2, h3⟩ := hX _ hx
          have := hR.inj t t' ht h2 h3
          subst this
          exact (outU_spec (t := t) hou).2 hn i 0 h1) hres hu
      exact hK _ _ _ hR'
    · cases h
  · cases h

theorem unArr_rep {Bb : Nat → Prop} {x : AV} {v : Value} (h : Rep w Bb x v) : Rep w Bb (unArr x) v := by
  cases h with
  | arr n ks c v h => exact h
  | _ => constructor <;> assumption
theorem unArr_lst {x : AV} {n k : Nat} {row : Nat → List AV} (h : unArr x = .lst n k row) : isRef x = false := by cases x <;> first | rfl | cases h
theorem unArr_ref {x : AV} {g k : Nat} (h : unArr x = .ref g k) : x = .ref g k := by cases x <;> first | exact h | cases h
theorem unArr_eptr {x : AV} {c : List AV} (h : unArr x = .eptr c) : x = .eptr c := by cases x <;> first | exact h | cases h
theorem intsOf_spec : ∀ {l : List Value} {xs : List Int}, intsOf l = some xs → ∀ i, i < l.length → l.getD i undef = .int .i64 (xs.getD i 0)
  | [], xs, h, i, hi => by simp at hi
  | v :: l, xs, h, i, hi => by
    unfold intsOf at h
    split at h
    · rename_i heq; cases heq
    · rename_i x l' heq
      cases heq
      split at h
      · rename_i ys hys
        cases h
        cases i with
        | zero => rfl
        | succ i => simpa using intsOf_spec hys i (by simpa using hi)
      · cases h
    · cases h

theorem arr_run {t : TypeId} {n s b k : Nat} {j : Int} (h : arrOf P t = some (n, s)) (hj : (decide (0 ≤ j) && decide (j < (n : Int))) = true) :
    (Instr.indexAt t (.pointer (some ⟨b, k, none⟩)) (.int .i64 j)).run P w = .ok (.pointer (some ⟨b, k + j.toNat * s, none⟩)) w := by
  unfold arrOf at h
  split at h
  · rename_i m e he
    split at h
    · rename_i s' hs
      split at h
      · cases h
      · rename_i hle
        cases h
        have hn : ¬ n ≤ 1 := fun hh => by rw [Nat.ble_eq_true_of_le hh] at hle; cases hle
        simp only [Bool.and_eq_true, decide_eq_true_eq] at hj
        have hun : (underlying t).run P w = .ok (.array n e) w := by simp [underlying, program, Sem.run, he]
        simp [Instr.indexAt, asIntOf, hun, Instr.sureAddr, hn, hj, pv_run _ _ hs, addr_add]
    · cases h
  · cases h

theorem bldS_run {t : TypeId} {n : Nat} {ps : Array (Nat × Value)} {cells : List Value} {s : Nat} {e : TypeId} (h : bldS P t n ps = some (cells, s, e)) :
    cells.length = n * s ∧ (Instr.buildSlice t n ps).run P w = .ok (.slice (some ⟨w.heap.size, 0, none⟩) n n) { w with heap := w.heap.push (.cells ⟨cells⟩ e (0, 0)) } := by
  unfold bldS at h
  split at h
  · rename_i e' he
    split at h
    · rename_i s' z hs hz
      split at h
      · rename_i h1 h2
        split at h
        · rename_i cs hf
          split at h
          · rename_i hl
            simp only [Option.some.injEq, Prod.mk.injEq] at h
            obtain ⟨rfl, rfl, rfl⟩ := h
            have hun : (underlying t).run P w = .ok (.slice e') w := by simp [underlying, program, Sem.run, he]
            have h1' : ¬ n * s' > 2 ^ 24 := by have := Nat.le_of_ble_eq_true h1; omega
            have h2' : ¬ n * s' = 0 := fun hh => by rw [hh] at h2; cases h2
            refine ⟨Nat.eq_of_beq_eq_true hl, ?_⟩
            simp only [Instr.buildSlice, Sem.run_bind, hun, Result.andThen_ok, pv_run _ _ hs, if_neg h1', if_neg h2', pv_run _ _ hz]
            simp only [Sem.run_pure, Result.andThen_ok, hf]
            simp [newRow, newObj, Sem.run]
          · cases h
        · cases h
      · cases h
    · cases h
  · cases h

theorem eqT_run : ∀ (n d : Nat) (t : TypeId) (x y : Value) (b : Bool), eqT P n t x y = some b → (Op.equalIn (d + n) t x y).run P w = .ok b w
  | 0, _, _, _, _, _, h => by cases h
  | n + 1, d, t, x, y, b, h => by
    have fields : ∀ (xs ys : Array Value) (l : List Field) (b : Bool), eqFs P (eqT P n) xs ys l = some b → (Op.eqFields (d + n) xs ys l).run P w = .ok b w := by
      intro xs ys l
      induction l with
      | nil => intro b h; cases h; simp [Op.eqFields]
      | cons fd l ih =>
        intro b h
        unfold eqFs at h
        split at h
        · rename_i a c hn ha hc
          split at h
          · rename_i e r he hr
            cases h
            have hn' : fd.name ≠ "_" := by simpa using hn
            have p3 := eqT_run n d fd.type a c e he
            simp only [Op.eqFields, hn', ne_eq, not_false_eq_true, if_true, Sem.run_bind, pv_run _ _ ha, pv_run _ _ hc, p3, Result.andThen_ok]
            cases e with
            | true => simpa using ih r hr
            | false => simp
          · cases h
        · cases h
    unfold eqT at h
    split at h
    · rename_i q k a k' c hu
      split at h
      · rename_i hk
        cases h
        have hk : k = k' := by simpa using hk
        subst hk
        simp [← Nat.add_assoc, Op.equalIn, underlying, program, Sem.run, hu]
      · cases h
    · rename_i a c hu
      cases h
      simp [← Nat.add_assoc, Op.equalIn, underlying, program, Sem.run, hu]
    · rename_i fs xs ys hu
      split at h
      · rename_i hs
        have hfs : P.fieldsOf t = fs := by simp [Program.fieldsOf, hu]
        rw [show d + (n + 1) = (d + n) + 1 from rfl, Go.run_equalIn_struct w (d + n) t xs ys (by rw [hfs]; exact hu) hs, hfs]
        exact fields xs ys fs.toList b h
      · cases h
    · cases h
theorem eqA_run {op : BinOp} {t yt : TypeId} {x y : Operand} {vx vy : Option Value} {z : AV} (h : eqA P op t vx vy = some z) :
    ∃ xs ys v, vx = some (.agg xs) ∧ vy = some (.agg ys) ∧ z = .val v ∧ (do eqGuard op t x y (.agg xs) (.agg ys); binOp op t (.agg xs) (.agg ys)).run P w = .ok v w := by
  unfold eqA at h
  split at h
  · rename_i xs ys
    split at h
    · rename_i b hg he
      have hr := eqT_run (P := P) (w := w) 8 9992 t _ _ b he
      have hr' : (Op.equal t (.agg xs) (.agg ys)).run P w = .ok b w := hr
      split at h
      · cases h
        exact ⟨xs, ys, .bool b, rfl, rfl, rfl, by simp [eqGuard, program, Sem.run, hg, binOp, hr']⟩
      · cases h
        exact ⟨xs, ys, .bool (!b), rfl, rfl, rfl, by simp [eqGuard, program, Sem.run, hg, binOp, hr']⟩
      · cases h
    · cases h
  · cases h

theorem fold_splice : ∀ (l : List Value) (k : Nat) (cs : Array Value) (off : Nat), off + k + l.length ≤ cs.size →
    ((l.zipIdx k).foldl (fun (cs : Array Value) (p : Value × Nat) => cs.setIfInBounds (off + p.2) p.1) cs).toList = cs.toList.take (off + k) ++ l ++ cs.toList.drop (off + k + l.length)
  | [], k, cs, off, h => by simp
  | x :: l, k, cs, off, h => by
    simp only [List.length_cons] at h
    rw [List.zipIdx_cons, List.foldl_cons, fold_splice l (k + 1) _ off (by simp; omega)]
    simp only [Array.toList_setIfInBounds, List.length_cons]
    have hlt : off + k < cs.toList.length := by simp; omega
    have hm : off + (k + 1) = off + k + 1 := by omega
    have e1 : (cs.toList.set (off + k) x).take (off + k + 1) = cs.toList.take (off + k) ++ [x] := by
      rw [List.set_eq_take_append_cons_drop, if_pos hlt]
      have hl : (cs.toList.take (off + k)).length = off + k := by simp; omega
      rw [List.take_append, List.take_of_length_le (by omega), hl]
      simp
    have e2 : (cs.toList.set (off + k) x).drop (off + k + 1 + l.length) = cs.toList.drop (off + k + (l.length + 1)) := by
      apply List.ext_getElem?
      intro i
      rw [List.getElem?_drop, List.getElem?_drop, List.getElem?_set_ne (by omega)]
      congr 1
      omega
    rw [hm, e1, e2]
    simp

theorem fill_spec {Bb : Nat → Prop} {ρ' : Operand → Value} {ev : Operand → AV} (pl : Array (Nat × Nat)) : ∀ (ps : List (Nat × Operand)) (c l : List AV) (cs : Array Value),
    (∀ p ∈ ps, ∀ xs, flat (ev p.2) = some xs → Rep w Bb (ev p.2) (ρ' p.2)) → c.length = cs.toList.length → (∀ i, i < c.length → Rep w Bb (c.getD i .non) (cs.toList.getD i undef)) →
    fillA pl c (ps.map fun p => (p.1, ev p.2)) = some l →
    ∃ cs' : Array Value, Instr.fill (pl[·]?) cs (ps.map fun p => (p.1, ρ' p.2)) = some cs' ∧ l.length = cs'.toList.length ∧ ∀ i, i < l.length → Rep w Bb (l.getD i .non) (cs'.toList.getD i undef)
  | [], c, l, cs, _, hl, hr, h => by
    cases h
    exact ⟨cs, rfl, hl, hr⟩
  | (i, x) :: ps, c, l, cs, hp, hl, hr, h => by
    simp only [List.map_cons, fillA] at h
    split at h
    · rename_i off size xs hpl hfl
      split at h
      · rename_i h1 h2
        have h1 := Nat.eq_of_beq_eq_true h1
        have h2 := Nat.le_of_ble_eq_true h2
        obtain ⟨vs, e1, e2, e3⟩ := flat_rep hfl (hp (i, x) (by simp) xs hfl)
        have hfold : ((ρ' x).cells.zipIdx.foldl (fun (cs : Array Value) (p : Value × Nat) => cs.setIfInBounds (off + p.2) p.1) cs).toList = cs.toList.take off ++ vs ++ cs.toList.drop (off + vs.length) := by
          rw [e1, ← Array.foldl_toList, Array.toList_zipIdx]
          have := fold_splice vs 0 cs off (by have : cs.toList.length = cs.size := by simp
                                              omega)
          simpa using this
        have hle : off + xs.length ≤ c.length := h2
        obtain ⟨cs', g1, g2, g3⟩ := fill_spec pl ps (splice c off xs) l _ (fun p hp' => hp p (by simp [hp'])) (by
            rw [hfold]
            unfold splice
            rw [splice_length _ _ _ hle, splice_length _ _ _ (by omega)]
            exact hl) (fun j hj => by
            rw [hfold]
            unfold splice at hj ⊢
            rw [splice_length _ _ _ hle] at hj
            rw [splice_getD _ _ _ _ _ hle, splice_getD _ _ _ _ _ (by omega)]
            by_cases q1 : j < off
            · rw [if_pos q1, if_pos q1]; exact hr j hj
            · rw [if_neg q1, if_neg q1]
              by_cases q2 : j < off + xs.length
              · rw [if_pos q2, if_pos (by omega)]; exact e3 _ (by omega)
              · rw [if_neg q2, if_neg (by omega)]; exact hr j hj) h
        refine ⟨cs', ?_, g2, g3⟩
        simp only [List.map_cons, Instr.fill]
        rw [hpl]
        simp only
        have hc1 : (ρ' x).cells.size = size := by rw [e1]; simp; omega
        have hc2 : ¬ off + size > cs.size := by have : cs.toList.length = cs.size := by simp
                                                omega
        rw [if_neg (by simp [hc1]; omega)]
        exact g1
      · cases h
    · cases h

theorem evOp_sound (hΓ : Sound P GL Γ) (hR : Rr E N B w0 ρ σ a w) (hG : ∀ g, Rep w0 B (GL g) (.pointer (some ⟨g, 0, none⟩))) (hB : ∀ b, B b → b < w0.heap.size ∧ ¬ E.X b)
    (h : evOp P GL Γ N σ o = some (true, u)) (hK : ∀ ρ' a' w', Rr E N B w0 ρ' (upd σ u) a' w' → K a' w') : o.wp P a w K Q := by
  have sp : ∀ x, (∃ g k, evA GL σ x = .ref g k ∧ a.eval x = .pointer (some ⟨ρ g, k, none⟩) ∧ isOwn (σ g) = true) ∨
      (isRef (evA GL σ x) = false ∧ isOwn (evA GL σ x) = false ∧ Rep w (NB B w0.heap.size σ ρ w) (evA GL σ x) (a.eval x)) := evA_spec hR hG hB
  have rf : ∀ x g k, evA GL σ x = .ref g k → a.eval x = .pointer (some ⟨ρ g, k, none⟩) ∧ isOwn (σ g) = true := fun x g k => evA_ref hR hG hB
  have rp : ∀ x, isRef (evA GL σ x) = false → Rep w (NB B w0.heap.size σ ρ w) (evA GL σ x) (a.eval x) := fun x h => (evA_rep hR hG hB h).2
  unfold evOp at h
  split at h
  · -- move
    rename_i x ho
    obtain ⟨_, y, hy, hu⟩ := bindSet_spec h
    cases hy
    exact wp_still hR hu (v := a.eval x) (by simp [execOp, ho]) (sp x) hK
  · -- assign
    rename_i x ho
    obtain ⟨_, y, hy, hu⟩ := bindSet_spec h
    cases hy
    exact wp_still hR hu (v := a.eval x) (by simp [execOp, ho]) (sp x) hK
  · -- nilCheck
    rename_i x ho
    split at h
    · rename_i g k e
      obtain ⟨_, y, hy, hu⟩ := bindSet_spec h
      cases hy
      obtain ⟨e1, e2⟩ := rf x g k e
      exact wp_still hR hu (v := a.eval x) (by simp [execOp, ho, e1]) (.inl ⟨g, k, rfl, e1, e2⟩) hK
    · rename_i c e
      obtain ⟨_, y, hy, hu⟩ := bindSet_spec h
      cases hy
      have hr := rp x (by rw [e]; rfl)
      rw [e] at hr
      refine wp_still hR hu (v := a.eval x) ?_ (.inr ⟨rfl, rfl, hr⟩) hK
      generalize hv : a.eval x = v at hr
      cases hr
      simp [execOp, ho, hv]
    · cases h
  · -- box
    rename_i ty x ho
    split at h
    · rename_i l hl
      obtain ⟨_, y, hy, hu⟩ := bindSet_spec h
      cases hy
      have hr := rp x (by cases e : evA GL σ x <;> rw [e] at hl <;> first | rfl | simp [flat] at hl)
      obtain ⟨cs, e1, e2, e3⟩ := flat_rep hl hr
      obtain ⟨ρ', hR'⟩ := hR.newBox (ty := ty) e2 e3 hu
      refine wp_value (v := .pointer (some ⟨w.heap.size, 0, none⟩)) (w' := { w with heap := w.heap.push (.cells ⟨cs⟩ ty (0, 0)) }) ?_ (hK _ _ _ hR')
      simp [execOp, ho, Instr.box, newVar, newRow, newObj, Sem.run, e1]
    · cases h
  · -- alloc
    rename_i ty ho
    split at h
    · rename_i z hz
      obtain ⟨_, y, hy, hu⟩ := bindSet_spec h
      cases hy
      obtain ⟨ρ', hR'⟩ := hR.newBox (ty := ty) (cs := z.cells.toList) (by simp) (rep_list _ (fun v => rep_ofCell v) _) hu
      refine wp_value (v := .pointer (some ⟨w.heap.size, 0, none⟩)) (w' := { w with heap := w.heap.push (.cells ⟨z.cells.toList⟩ ty (0, 0)) }) ?_ (hK _ _ _ hR')
      simp [execOp, ho, Instr.alloc, pv_run _ _ hz, newVar, newRow, newObj, Sem.run]
    · cases h
  · -- fieldAddr
    rename_i st x f ho
    split at h
    · rename_i off ft hf
      have hfp : ∀ b k, (Instr.fieldAt st (.pointer (some ⟨b, k, none⟩)) f).run P w = .ok (.pointer (some ⟨b, k + off, none⟩)) w := by
        intro b k
        unfold fieldOff at hf
        split at hf
        · rename_i fs hfs
          split at hf
          · rename_i fd hfd
            split at hf
            · cases hf
            · rename_i n hn0 hn
              cases hf
              have hun : (underlying st).run P w = .ok (.struct fs) w := by simp [underlying, program, Sem.run, hfs]
              have hne : n ≠ 0 := fun hh => hn0 hh
              simp [Instr.fieldAt, hun, hfd, Instr.sureAddr, fieldPlace, pv_run _ _ hn, hne, addr_add]
            · cases hf
          · cases hf
        · cases hf
      split at h
      · rename_i g k e
        obtain ⟨_, y, hy, hu⟩ := bindSet_spec h
        cases hy
        obtain ⟨e1, e2⟩ := rf x g k e
        refine wp_still hR hu (v := .pointer (some ⟨ρ g, k + off, none⟩)) ?_ (.inl ⟨g, k + off, rfl, rfl, e2⟩) hK
        simp [execOp, ho, e1, hfp]
      · rename_i c e
        obtain ⟨_, y, hy, hu⟩ := bindSet_spec h
        cases hy
        have hr := rp x (by rw [e]; rfl)
        rw [e] at hr
        generalize hv : a.eval x = v at hr
        cases hr with
        | eptr c b k ff hBb hc hr =>
          refine wp_still hR hu (v := .pointer (some ⟨b, k + off, none⟩)) ?_ (.inr ⟨rfl, rfl, ?_⟩) hK
          · simp [execOp, ho, hv, hfp]
          · refine .eptr _ b (k + off) (fun j => ff (off + j)) hBb (fun j hj => ?_) (fun j hj => ?_)
            · rw [show k + off + j = k + (off + j) by omega]; exact hc _ (by simp at hj; omega)
            · rw [getD_drop']; exact hr _ (by simp at hj; omega)
      · cases h
    · cases h
  · -- load
    rename_i ty x ho
    split at h
    · rename_i g k e
      obtain ⟨e1, e2⟩ := rf x g k e
      split at h
      · rename_i c hc
        obtain ⟨_, y, hy, hu⟩ := bindSet_spec h
        obtain ⟨ff, h1, h2⟩ := own_cells hR hc
        obtain ⟨v, hv, hr⟩ := ldAV_run (w := w) (b := ρ g) (k := k) hy (fun j => ff (k + j)) (fun j hj => h1 _ (by simp at hj; omega)) (fun j hj => by rw [getD_drop']; exact h2 _ (by simp at hj; omega))
        refine wp_still hR hu (v := v) ?_ (.inr ⟨hr.notOwn.2, hr.notOwn.1, hr⟩) hK
        simp [execOp, ho, e1, Instr.loadAt, Instr.sureAddr, hv]
      · cases h
    · rename_i c e
      obtain ⟨_, y, hy, hu⟩ := bindSet_spec h
      have hr := rp x (by rw [e]; rfl)
      rw [e] at hr
      generalize hv : a.eval x = v at hr
      cases hr with
      | eptr c b k ff hBb hc hr =>
        obtain ⟨v, hv', hr'⟩ := ldAV_run (w := w) hy ff hc hr
        refine wp_still hR hu (v := v) ?_ (.inr ⟨hr'.notOwn.2, hr'.notOwn.1, hr'⟩) hK
        simp [execOp, ho, hv, Instr.loadAt, Instr.sureAddr, hv']
    · cases h
  · -- store
    rename_i ty x y ho
    split at h
    · cases h
    · rename_i hd
      split at h
      · cases h
      · rename_i l hl
        split at h
        · rename_i g k e
          obtain ⟨e1, e2⟩ := rf x g k e
          split at h
          · rename_i c hc
            split at h
            · rename_i n hn
              split at h
              · rename_i hn1 hn2 hn3
                cases h
                have hr := rp y (by cases e : evA GL σ y <;> rw [e] at hl <;> first | rfl | simp [flat] at hl)
                obtain ⟨vs, f1, f2, f3⟩ := flat_rep hl hr
                obtain ⟨_, t0, _, cs, g3, g4, _⟩ := box_cells hR hc
                have hle : k + l.length ≤ c.length := Nat.le_of_ble_eq_true hn2
                obtain ⟨ρ', hR'⟩ := hR.store (o := o) hc hle hd g3 f2 f3
                have hnl : n = l.length := Nat.eq_of_beq_eq_true hn1
                have hst : (storeVar ty ⟨ρ g, k, none⟩ (a.eval y)).run P w = .ok () (w.setRow (ρ g) (cs.take k ++ vs ++ cs.drop (k + vs.length)).toArray) := by
                  have h1 := run_storeCells_at (P := P) (ρ g) k t0 vs 0 ⟨cs⟩ w g3 (by simp; omega) (allOne_spec l vs hn3 f2 f3)
                  simp only [Nat.add_zero] at h1
                  simp only [storeVar, Sem.run_bind, pv_run _ _ hn, Result.andThen_ok, f1]
                  rw [if_neg (by simp; omega)]
                  exact h1
                unfold Oper.wp
                have hrun : (execOp a.eval o).run P w = .ok .skip (w.setRow (ρ g) (cs.take k ++ vs ++ cs.drop (k + vs.length)).toArray) := by
                  simp [execOp, ho, e1, Instr.storeAt, Instr.sureAddr, hst]
                rw [hrun]
                show K (a.put o.dst undef) _
                rw [hd]
                exact hK _ _ _ hR'
              · cases h
            · cases h
          · cases h
        · cases h
  · -- extract
    rename_i x i ho
    split at h
    · rename_i l e
      split at h
      · rename_i hi
        obtain ⟨_, y, hy, hu⟩ := bindSet_spec h
        cases hy
        have hr := rp x (by rw [e]; rfl)
        rw [e] at hr
        generalize hv : a.eval x = v at hr
        cases hr with
        | tup l cs hl hr =>
          have hi' : i < l.length := Nat.le_of_ble_eq_true hi
          have hic : i < cs.length := by omega
          have hr' := hr i hi'
          refine wp_still hR hu (v := cs.getD i undef) ?_ (.inr ⟨hr'.notOwn.2, hr'.notOwn.1, hr'⟩) hK
          simp [execOp, ho, hv, Instr.extract, hic, List.getD]
      · cases h
    · cases h
  · -- field
    rename_i ty x f ho
    split at h
    · rename_i l e
      split at h
      · rename_i off ft hf
        obtain ⟨_, y, hy, hu⟩ := bindSet_spec h
        have hr := rp x (by rw [e]; rfl)
        rw [e] at hr
        generalize hv : a.eval x = v at hr
        cases hr with
        | agg l cs hl hr =>
          unfold fieldOff at hf
          split at hf
          · rename_i fs hfs
            split at hf
            · rename_i fd hfd
              split at hf
              · cases hf
              · rename_i n hn0 hn
                cases hf
                have hun : (underlying ty).run P w = .ok (.struct fs) w := by simp [underlying, program, Sem.run, hfs]
                unfold ldAV at hy
                split at hy
                · rename_i ha
                  rw [hn] at hy
                  simp only at hy
                  split at hy
                  · rename_i hle
                    cases hy
                    have hle' : n ≤ (l.drop fd.offset).length := Nat.le_of_ble_eq_true hle
                    refine wp_still hR hu (v := .agg ⟨(cs.drop fd.offset).take n⟩) ?_ (.inr ⟨rfl, rfl, ?_⟩) hK
                    · simp [execOp, ho, hv, Instr.field, hun, hfd, asAgg, part, pv_run _ _ ha, pv_run _ _ hn, List.extract_eq_take_drop]
                    · refine .agg _ _ (by simp; omega) fun i hi => ?_
                      have hi' : i < n := by simp at hi; omega
                      have e1 : ((l.drop fd.offset).take n).getD i .non = l.getD (fd.offset + i) .non := by simp [List.getD, List.getElem?_take, hi', List.getElem?_drop]
                      have e2 : ((cs.drop fd.offset).take n).getD i undef = cs.getD (fd.offset + i) undef := by simp [List.getD, List.getElem?_take, hi', List.getElem?_drop]
                      rw [e1, e2]
                      exact hr _ (by simp at hle'; omega)
                  · cases hy
                · rename_i ha
                  split at hy
                  · rename_i z l' hdl
                    cases hy
                    have hlen : fd.offset < l.length := by
                      have := congrArg List.length hdl
                      simp at this
                      omega
                    have hz : y = l.getD fd.offset .non := by
                      have := getD_drop' l fd.offset 0
                      rw [hdl] at this
                      simpa using this
                    have hr' := hr _ hlen
                    rw [← hz] at hr'
                    refine wp_still hR hu (v := cs.getD fd.offset undef) ?_ (.inr ⟨hr'.notOwn.2, hr'.notOwn.1, hr'⟩) hK
                    have hlc : fd.offset < cs.length := by omega
                    simp [execOp, ho, hv, Instr.field, hun, hfd, asAgg, part, pv_run _ _ ha, hlc, List.getD]
                  · cases hy
                · cases hy
              · cases hf
            · cases hf
          · cases hf
      · cases h
    · cases h
  · -- binOp
    rename_i op t x y yt ho
    split at h
    · rename_i p q hx hy
      exact wp_int hR hG hB ho hx hy h (fun hc => by
        have : ¬ q = 0 := by simpa using hc
        simp [eqGuard, binOp, Op.intDiv, this]) hK
    · rename_i p q hx hy
      exact wp_int hR hG hB ho hx hy h (fun hc => by
        have : ¬ q = 0 := by simpa using hc
        simp [eqGuard, binOp, Op.intDiv, this]) hK
    · rename_i p q hx hy
      exact wp_int hR hG hB ho hx hy h (fun hc => by
        have : ¬ q < 0 := by simpa using hc
        simp [eqGuard, binOp, Op.shift, this, IntKind.bits]) hK
    · rename_i p q hx hy
      exact wp_int hR hG hB ho hx hy h (fun hc => by
        have : ¬ q < 0 := by simpa using hc
        simp [eqGuard, binOp, Op.shift, this, IntKind.bits]) hK
    · split at h
      case h_2 => exact wp_gen hR hG hB h hK
      · obtain ⟨_, z, hz, hu⟩ := bindSet_spec h
        obtain ⟨xs, ys, v, h1, h2, rfl, hrun⟩ := eqA_run (w := w) (x := x) (y := y) (yt := yt) hz
        have ex := toV_eval hR hG hB h1
        have ey := toV_eval hR hG hB h2
        refine wp_still hR hu (v := v) ?_ (.inr ⟨rfl, rfl, .val _⟩) hK
        simp only [execOp, ho, ex, ey, Sem.run_bind]
        simp only [Sem.run_bind] at hrun
        rw [hrun]
        rfl
  · -- indexAddr
    rename_i t x i ho
    split at h
    · rename_i n k row j hx hi
      split at h
      · rename_i k' hk'
        split at h
        · rename_i hkk
          obtain ⟨hc, y, hy, hu⟩ := bindSet_spec h
          cases hy
          have hkk' : k = k' := Nat.eq_of_beq_eq_true hkk
          subst hkk'
          simp only [Bool.and_eq_true, decide_eq_true_eq] at hc
          have hr := unArr_rep (rp x (unArr_lst hx))
          rw [hx] at hr
          have ei : a.eval i = .int .i64 j := toV_eval hR hG hB (by rw [hi]; rfl)
          generalize hv : a.eval x = v at hr
          unfold elemSz at hk'
          split at hk'
          · rename_i el hel
            have hun : (underlying t).run P w = .ok (.slice el) w := by simp [underlying, program, Sem.run, hel]
            cases hr with
            | nil => omega
            | lst _ _ _ b off cap ff hBb hk hcl hr =>
              have hj : j.toNat < n := by omega
              refine wp_still hR hu (v := .pointer (some ⟨b, off + j.toNat * k, none⟩)) ?_ (.inr ⟨rfl, rfl, ?_⟩) hK
              · simp [execOp, ho, hv, ei, Instr.indexAt, asIntOf, hun, hc, pv_run _ _ hk', addr_add]
              · refine .eptr _ b _ (ff j.toNat) hBb (fun q hq => hcl _ _ hj (by rw [hk _ hj] at hq; exact hq)) (fun q hq => hr _ _ hj (by rw [hk _ hj] at hq; exact hq))
          · cases hk'
        · cases h
      · cases h
    · rename_i c j hx hi
      split at h
      · rename_i n s hns
        obtain ⟨hc, y, hy, hu⟩ := bindSet_spec h
        cases hy
        have ei : a.eval i = .int .i64 j := toV_eval hR hG hB (by rw [hi]; rfl)
        have hx := unArr_eptr hx
        have hr := rp x (by rw [hx]; rfl)
        rw [hx] at hr
        generalize hv : a.eval x = v at hr
        cases hr with
        | eptr c b k ff hBb hcl hr =>
          refine wp_still hR hu (v := .pointer (some ⟨b, k + j.toNat * s, none⟩)) ?_ (.inr ⟨rfl, rfl, ?_⟩) hK
          · simp [execOp, ho, hv, ei, arr_run hns hc]
          · refine .eptr _ b _ (fun q => ff (j.toNat * s + q)) hBb (fun q hq => ?_) (fun q hq => ?_)
            · rw [Nat.add_assoc]; exact hcl _ (by simp at hq; omega)
            · rw [getD_drop']; exact hr _ (by simp at hq; omega)
      · cases h
    · rename_i g k j hx hi
      split at h
      · rename_i n s hns
        obtain ⟨hc, y, hy, hu⟩ := bindSet_spec h
        cases hy
        have ei : a.eval i = .int .i64 j := toV_eval hR hG hB (by rw [hi]; rfl)
        obtain ⟨e1, e2⟩ := rf x g k (unArr_ref hx)
        refine wp_still hR hu (v := .pointer (some ⟨ρ g, k + j.toNat * s, none⟩)) ?_ (.inl ⟨g, _, rfl, rfl, e2⟩) hK
        simp [execOp, ho, e1, ei, arr_run hns hc]
      · cases h
    · cases h
  · -- call
    rename_i c ho
    obtain ⟨callee, args, ts⟩ := c
    simp only at h
    split at h
    · exact wp_call hΓ hR hG hB ho h hK
    · split at h
      · rename_i x hargs
        split at h
        · rename_i n k row e
          split at h
          · rename_i t ts' hts
            split at h
            · rename_i el hel
              obtain ⟨_, y, hy, hu⟩ := bindSet_spec h
              cases hy
              have hr := unArr_rep (rp x (unArr_lst e))
              rw [e] at hr
              have hun : (underlying t).run P w = .ok (.slice el) w := by simp [underlying, program, Sem.run, hel]
              have hargs' : args = #[x] := by apply Array.ext'; simpa using hargs
              have hts0 : ts[0]? = some t := by
                have : ts.toList[0]? = some t := by rw [hts]; rfl
                simpa using this
              subst hargs'
              refine wp_still hR hu (v := .int .i64 n) ?_ (.inr ⟨rfl, rfl, .val _⟩) hK
              generalize hv : a.eval x = v at hr
              cases hr <;> simp [execOp, ho, resolve, invoke, builtin, Builtin.len_, hts0, hv, hun, goInt]
            · cases h
          · cases h
        · exact wp_gen hR hG hB h hK
      · cases h
    · exact wp_gen hR hG hB h hK
    · exact wp_gen hR hG hB h hK
    · cases h
  · exact wp_gen hR hG hB h hK
  · exact wp_gen hR hG hB h hK
  · exact wp_gen hR hG hB h hK
  · exact wp_gen hR hG hB h hK
  · -- build
    rename_i t ps ho
    split at h
    · rename_i x hx
      rw [← hx] at h
      exact wp_gen hR hG hB h hK
    · obtain ⟨_, y, hy, hu⟩ := bindSet_spec h
      unfold bldA at hy
      split at hy
      · rename_i fs hfs
        split at hy
        · rename_i z pl hz hpl
          split at hy
          · rename_i l hl
            cases hy
            have hun : (underlying t).run P w = .ok (.struct fs) w := by simp [underlying, program, Sem.run, hfs]
            obtain ⟨cs', g1, g2, g3⟩ := fill_spec (w := w) (Bb := NB B w0.heap.size σ ρ w) (ρ' := a.eval) pl ps.toList _ l z.cells (fun p hp xs hxs => rp p.2 (by cases e : evA GL σ p.2 <;> rw [e] at hxs <;> first | rfl | simp [flat] at hxs)) (by simp)
              (rep_list _ (fun v => rep_ofCell v) _) hl
            refine wp_still hR hu (v := .agg cs') ?_ (.inr ⟨rfl, rfl, .agg _ cs'.toList g2 g3⟩) hK
            have hm : (ps.map fun p => (p.1, a.eval p.2)).toList = ps.toList.map fun p => (p.1, a.eval p.2) := by simp
            simp only [execOp, ho, Sem.run_bind, Instr.build, pv_run _ _ hz, Result.andThen_ok, hun, pv_run _ _ hpl, hm, g1]
            rfl
          · cases hy
        · cases hy
      · cases hy
  · -- buildSlice
    rename_i t n ps ho
    split at h
    · rename_i hall
      split at h
      · rename_i cells s e hb
        obtain ⟨_, y, hy, hu⟩ := bindSet_spec h
        cases hy
        obtain ⟨hlen, hrun⟩ := bldS_run (w := w) hb
        have hpush : ∀ b, b < w.heap.size → (w.heap.push (.cells ⟨cells⟩ e (0, 0)))[b]? = w.heap[b]? := fun b hb => by rw [Array.getElem?_push, if_neg (by omega)]
        have hnew : (w.heap.push (.cells ⟨cells⟩ e (0, 0)))[w.heap.size]? = some (.cells ⟨cells⟩ e (0, 0)) := by simp
        have hb' : BelowX w0.heap.size E.X w0 { w with heap := w.heap.push (.cells ⟨cells⟩ e (0, 0)) } :=
          ⟨hR.blw.os, hR.blw.tape, hR.blw.output, by have := hR.blw.size; simp; omega, fun k hk hX => (hpush k (Nat.lt_of_lt_of_le hk hR.blw.size)).trans (hR.blw.block k hk hX)⟩
        have hlt : ∀ i j, i < n → j < s → i * s + j < cells.length := fun i j hi hj => by
          rw [hlen]
          calc i * s + j < i * s + s := by omega
            _ = (i + 1) * s := by rw [Nat.add_mul, Nat.one_mul]
            _ ≤ n * s := Nat.mul_le_mul_right _ hi
        have hmap : ps.map (fun (i, x) => (i, rhoOf GL σ x)) = ps.map (fun (i, x) => (i, a.eval x)) := by
          apply Array.map_congr_left
          rintro ⟨i, x⟩ hx
          obtain ⟨v, hv⟩ := allV_spec _ hall x (List.mem_map.2 ⟨(i, x), by simpa using hx, rfl⟩)
          simp only [Prod.mk.injEq, true_and]
          rw [toV_eval hR hG hB hv]
          simp [rhoOf, hv]
        rw [hmap] at hrun
        have hout : ∀ t, isOwn (σ t) = true → ρ t ≠ w.heap.size := fun t ht => by
          have := hR.lt ht
          omega
        have hnb : NB B w0.heap.size σ ρ { w with heap := w.heap.push (.cells ⟨cells⟩ e (0, 0)) } w.heap.size := ⟨.inr hR.blw.size, by simp, hout⟩
        have hcell : ∀ i j, i < n → j < s → ({ w with heap := w.heap.push (.cells ⟨cells⟩ e (0, 0)) } : World).cell? ⟨w.heap.size, 0 + i * s + j, none⟩ = some (cells.getD (i * s + j) undef) := fun i j hi hj => by
          have h1 := hlt i j hi hj
          simp only [World.cell?, hnew]
          simp [List.getD, h1]
        have hrep : Rep { w with heap := w.heap.push (.cells ⟨cells⟩ e (0, 0)) } (NB B w0.heap.size σ ρ { w with heap := w.heap.push (.cells ⟨cells⟩ e (0, 0)) }) (sliceAV n s cells) (.slice (some ⟨w.heap.size, 0, none⟩) n n) := by
          unfold sliceAV
          split
          · rename_i xs hs1 hxs
            have hs1 : s = 1 := Nat.eq_of_beq_eq_true hs1
            subst hs1
            refine .arr _ _ _ _ (.lst _ _ _ _ 0 _ (fun i j => cells.getD (i * 1 + j) undef) hnb (fun i hi => rfl) hcell (fun i j hi hj => ?_))
            have hj : j = 0 := by simpa using hj
            subst hj
            rw [intsOf_spec hxs _ (hlt i 0 hi (by omega))]
            rw [show i * 1 + 0 = i by omega]
            exact .val _
          · refine .lst _ _ _ _ 0 _ (fun i j => cells.getD (i * s + j) undef) hnb (fun i hi => ?_) hcell (fun i j hi hj => ?_)
            · have : i * s + s ≤ cells.length := by
                rw [hlen]
                calc i * s + s = (i + 1) * s := by rw [Nat.add_mul, Nat.one_mul]
                  _ ≤ n * s := Nat.mul_le_mul_right _ hi
              simp; omega
            · have h1 := hlt i j hi hj
              have e1 : (((cells.drop (i * s)).take s).map ofCell).getD j .non = ofCell (cells.getD (i * s + j) undef) := by
                simp [List.getD, List.getElem?_take, hj, List.getElem?_drop, h1]
              rw [e1]
              exact rep_ofCell _
        refine wp_value (v := .slice (some ⟨w.heap.size, 0, none⟩) n n) (w' := { w with heap := w.heap.push (.cells ⟨cells⟩ e (0, 0)) }) ?_
          (hK _ _ _ (hR.put hb' hpush (by simp) hu (.inr ⟨hrep.notOwn.2, hrep.notOwn.1, hrep⟩)))
        simp only [execOp, ho, Sem.run_bind, hrun]
        rfl
      · cases h
    · cases h
  · cases h
end
end Go.Ev

/- Guards; what an operation looks at; whatever order a region draws, the outcome is that of the text's order. -/
namespace Go.Ev
open Go.RowKit

def dstAt (ops : Array Oper) (j : Nat) : Option Nat := match ops[j]? with
  | some o => o.dst
  | none => none
def evG (P : Program) (GL : Nat → AV) (Γ : List (Nat × Ctr)) (N : Nat) (ops : Array Oper) (σ : Nat → AV) (o : Oper) : Option (Bool × List (Nat × AV)) :=
  match o.guard with
  | none => evOp P GL Γ N σ o
  | some (j, want) => match dstAt ops j with
    | some t => match σ t with
      | .val (.bool b) => match b == want with
        | true => evOp P GL Γ N σ o
        | false => ret true (setD N σ o (.val undef))
      | .val (.tuple _) => ret true (setD N σ o (.val undef))
      | _ => none
    | none => none

def tmpsOf : List Operand → List Nat
  | [] => []
  | .tmp t :: l => t :: tmpsOf l
  | _ :: l => tmpsOf l
def sites (σ : Nat → AV) : List Nat → List Nat
  | [] => []
  | t :: l => match σ t with
    | .ref g _ => g :: sites σ l
    | _ => sites σ l
def touched (ops : Array Oper) (o : Oper) : List Nat :=
  (match opsOf o.op with | some l => tmpsOf l | none => []) ++ (match o.guard with | some (j, _) => (match dstAt ops j with | some t => [t] | none => []) | none => []) ++ (match o.dst with | some d => [d] | none => [])
def rdOf (ops : Array Oper) (σ : Nat → AV) (o : Oper) : List Nat := touched ops o ++ sites σ (touched ops o)

theorem mem_tmpsOf {t : Nat} : ∀ {l : List Operand}, Operand.tmp t ∈ l → t ∈ tmpsOf l
  | x :: l, h => by
    rcases List.mem_cons.1 h with rfl | h
    · simp [tmpsOf]
    · have := mem_tmpsOf h
      cases x <;> simp [tmpsOf, this]
theorem mem_sites {σ : Nat → AV} {t g k : Nat} : ∀ {l : List Nat}, t ∈ l → σ t = .ref g k → g ∈ sites σ l
  | x :: l, h, e => by
    rcases List.mem_cons.1 h with rfl | h
    · simp [sites, e]
    · have := mem_sites h e
      unfold sites
      split <;> simp [this]

section
variable {P : Program} {GL : Nat → AV} {Γ : List (Nat × Ctr)} {N : Nat} {σ σ' : Nat → AV} {o : Oper} {ops : Array Oper}

theorem sites_congr : ∀ {l : List Nat}, (∀ t ∈ l, σ' t = σ t) → sites σ' l = sites σ l
  | [], _ => rfl
  | x :: l, h => by
    have h1 := h x (by simp)
    have h2 := sites_congr (l := l) fun t ht => h t (by simp [ht])
    unfold sites
    rw [h1, h2]

theorem evA_congr {x : Operand} (h : ∀ t, x = .tmp t → σ' t = σ t) : evA GL σ' x = evA GL σ x := by
  cases x with
  | tmp t => simp only [evA, h t rfl]
  | _ => rfl

theorem setD_congr {x : AV} (h : ∀ d, o.dst = some d → σ' d = σ d) : setD N σ' o x = setD N σ o x := by
  unfold setD
  split
  · rfl
  · rename_i d hd; rw [h d hd]
theorem bindSet_congr {c : Bool} {x : Option AV} (h : ∀ d, o.dst = some d → σ' d = σ d) : bindSet N σ' o c x = bindSet N σ o c x := by
  unfold bindSet
  split
  · rw [setD_congr h]
  · rfl

theorem allV_congr : ∀ {l : List Operand}, (∀ x ∈ l, evA GL σ' x = evA GL σ x) → allV GL σ' l = allV GL σ l
  | [], _ => rfl
  | x :: l, h => by
    unfold allV
    rw [h x (by simp), allV_congr fun y hy => h y (by simp [hy])]

theorem gen_congr (h : ∀ l, opsOf o.op = some l → ∀ x ∈ l, evA GL σ' x = evA GL σ x) : gen P GL σ' o = gen P GL σ o := by
  unfold gen
  cases hl : opsOf o.op with
  | none => rfl
  | some l =>
    have h := h l hl
    have ha : allV GL σ' l = allV GL σ l := by
      clear hl
      induction l with
      | nil => rfl
      | cons x l ih =>
        unfold allV
        rw [h x (by simp), ih fun y hy => h y (by simp [hy])]
    simp only [ha]
    have he : execOp (rhoOf GL σ') o = execOp (rhoOf GL σ) o := execOp_congr o (opsOf_spec hl).1 fun x hx => by
      unfold rhoOf
      rw [h x ((opsOf_spec hl).2 x hx)]
    rw [he]

theorem argsV_congr : ∀ {xs : List AV}, (∀ x ∈ xs, ∀ g k, x = .ref g k → σ' g = σ g) → argsV σ' xs = argsV σ xs
  | [], _ => rfl
  | x :: xs, h => by
    have h1 : argV σ' x = argV σ x := by
      cases x with
      | ref g k => simp only [argV, h _ (by simp) g k rfl]
      | _ => rfl
    unfold argsV
    rw [h1, argsV_congr fun y hy => h y (by simp [hy])]
theorem outU_congr : ∀ {xs os : List AV}, (∀ x ∈ xs, ∀ g k, x = .ref g k → σ' g = σ g) → outU σ' xs os = outU σ xs os
  | [], _, _ => rfl
  | x :: xs, os, h => by
    have ih := fun os' => outU_congr (xs := xs) (os := os') fun y hy => h y (by simp [hy])
    cases x with
    | ref g k =>
      have := h _ (by simp) g k rfl
      cases os with
      | nil => rfl
      | cons z zs =>
        cases z with
        | agg c => simp only [outU, ih, this]
        | _ => rfl
    | _ => cases os <;> simp only [outU, ih]
theorem bldA_congr {t : TypeId} {ps : List (Nat × Operand)} (h : ∀ x ∈ ps.map (·.2), evA GL σ' x = evA GL σ x) : bldA P GL σ' t ps = bldA P GL σ t ps := by
  have : ps.map (fun p => (p.1, evA GL σ' p.2)) = ps.map (fun p => (p.1, evA GL σ p.2)) := List.map_congr_left fun p hp => by rw [h p.2 (List.mem_map.2 ⟨p, hp, rfl⟩)]
  unfold bldA
  rw [this]
theorem callOf_congr {g : Nat} {args : List Operand} (h : ∀ x ∈ args, evA GL σ' x = evA GL σ x) (hs : ∀ x ∈ args, ∀ g k, evA GL σ x = .ref g k → σ' g = σ g)
    (hd : ∀ d, o.dst = some d → σ' d = σ d) : callOf GL Γ N σ' o g args = callOf GL Γ N σ o g args := by
  have hs' : ∀ x ∈ args.map (evA GL σ), ∀ g k, x = .ref g k → σ' g = σ g := fun x hx g k e => by
    obtain ⟨y, hy, rfl⟩ := List.mem_map.1 hx
    exact hs y hy g k e
  unfold callOf
  rw [List.map_congr_left h]
  simp only [setD_congr hd, argsV_congr hs', outU_congr hs']

theorem evOp_congr (h : ∀ l, opsOf o.op = some l → ∀ x ∈ l, evA GL σ' x = evA GL σ x) (hs : ∀ l, opsOf o.op = some l → ∀ x ∈ l, ∀ g k, evA GL σ x = .ref g k → σ' g = σ g)
    (hd : ∀ d, o.dst = some d → σ' d = σ d) : evOp P GL Γ N σ' o = evOp P GL Γ N σ o := by
  have hg : gen P GL σ' o = gen P GL σ o := gen_congr h
  have hb : ∀ c x, bindSet N σ' o c x = bindSet N σ o c x := fun c x => bindSet_congr hd
  unfold evOp
  obtain ⟨dst, op, type, pos, after, guard⟩ := o
  simp only at h hs hd ⊢
  cases op <;> simp only [opsOf, Option.some.injEq, forall_eq', List.mem_cons, List.not_mem_nil, or_false, forall_eq_or_imp, forall_eq, reduceCtorEq, false_implies, implies_true] at h hs <;> simp only [hb, hg, h] <;> (try rfl)
  case load t x =>
    cases e : evA GL σ x with
    | ref g k => simp only [hs g k e]
    | _ => rfl
  case store t x v =>
    cases e : evA GL σ x with
    | ref g k => simp only [hs.1 g k e]
    | _ => rfl
  case build t ps =>
    rw [bldA_congr fun x hx => h x hx]
  case buildSlice t n ps =>
    rw [allV_congr h]
    have hm : ps.map (fun x => (x.fst, rhoOf GL σ' x.snd)) = ps.map (fun x => (x.fst, rhoOf GL σ x.snd)) := by
      apply Array.map_congr_left
      intro x hx
      unfold rhoOf
      rw [h x.2 (List.mem_map.2 ⟨x, by simpa using hx, rfl⟩)]
    rw [hm]
  case call c =>
    obtain ⟨callee, args, ts⟩ := c
    simp only at h hs ⊢
    have hargs : ∀ x ∈ args.toList, evA GL σ' x = evA GL σ x := fun x hx => h x (by simp [hx])
    have hsites : ∀ x ∈ args.toList, ∀ g k, evA GL σ x = .ref g k → σ' g = σ g := fun x hx => hs x (by simp [hx])
    cases callee with
    | value f =>
      cases f with
      | func g => exact callOf_congr hargs hsites hd
      | _ => rfl
    | invoke r m => rfl
    | builtin b =>
      cases b <;> simp only [hb, hg]
      case len =>
        split
        · rename_i x hx
          rw [hargs x (by rw [hx]; simp)]
        · rfl

theorem rd_view (h : ∀ t ∈ rdOf ops σ o, σ' t = σ t) : (∀ l, opsOf o.op = some l → ∀ x ∈ l, evA GL σ' x = evA GL σ x) ∧
    (∀ l, opsOf o.op = some l → ∀ x ∈ l, ∀ g k, evA GL σ x = .ref g k → (∀ g', GL g' ≠ .ref g k) → σ' g = σ g) ∧ (∀ d, o.dst = some d → σ' d = σ d) ∧
    (∀ j want, o.guard = some (j, want) → ∀ t, dstAt ops j = some t → σ' t = σ t) := by
  have ht : ∀ l, opsOf o.op = some l → ∀ t, Operand.tmp t ∈ l → t ∈ touched ops o := fun l hl t hx => by
    unfold touched
    rw [hl]
    simp [mem_tmpsOf hx]
  refine ⟨fun l hl x hx => evA_congr fun t e => ?_, fun l hl x hx g k e hgl => ?_, fun d hd => ?_, fun j want hg t hj => ?_⟩
  · subst e
    exact h t (List.mem_append_left _ (ht l hl t hx))
  · cases x with
    | tmp t =>
      have htt := ht l hl t hx
      by_cases ho : isOwn (σ t) = true
      · rcases isOwn_iff.1 ho with ⟨ty, c, e'⟩ | ⟨ty, c, e'⟩
        · rw [evA_own e'] at e
          have hgt : t = g := by cases e; rfl
          rw [← hgt]
          exact h t (List.mem_append_left _ htt)
        · simp only [evA, e', reduceCtorEq] at e
      · have e' : σ t = .ref g k := by rw [evA_tmp (by simpa using ho)] at e; exact e
        exact h g (List.mem_append_right _ (mem_sites htt e'))
    | const v =>
      have := (rep_ofVal (w := default) (B := fun _ => True) v).notOwn.2
      simp only [evA] at e
      rw [e] at this
      cases this
    | global g' => exact absurd e (hgl g')
    | func f => cases e
  · exact h d (List.mem_append_left _ (by unfold touched; rw [hd]; simp))
  · exact h t (List.mem_append_left _ (by unfold touched; rw [hg]; simp only [hj]; simp))

theorem evG_congr (hGL : ∀ g' g k, GL g' ≠ .ref g k) (h : ∀ t ∈ rdOf ops σ o, σ' t = σ t) : evG P GL Γ N ops σ' o = evG P GL Γ N ops σ o := by
  obtain ⟨h1, h2, h3, h4⟩ := rd_view (GL := GL) h
  have he : evOp P GL Γ N σ' o = evOp P GL Γ N σ o := evOp_congr h1 (fun l hl x hx g k e => h2 l hl x hx g k e fun g' => hGL g' g k) h3
  unfold evG
  split
  · exact he
  · rename_i j want hg
    split
    · rename_i t ht
      rw [h4 j want hg t ht, he, setD_congr h3]
    · rfl

/-- What is written lies in the frame. -/
theorem setD_lt {x : AV} {u : List (Nat × AV)} (h : setD N σ o x = some u) : ∀ p ∈ u, p.1 < N := by
  unfold setD at h
  split at h
  · cases h; simp
  · split at h
    · rename_i hlt
      cases h
      intro p hp
      simp at hp
      subst hp
      exact Nat.le_of_ble_eq_true hlt
    · cases h
theorem bindSet_lt {c c' : Bool} {x : Option AV} {u : List (Nat × AV)} (h : bindSet N σ o c x = some (c', u)) : ∀ p ∈ u, p.1 < N := by
  unfold bindSet at h
  split at h
  · unfold ret at h
    split at h
    · rename_i u' hu
      cases h
      exact setD_lt hu
    · cases h
  · cases h

theorem outU_own : ∀ {xs os : List AV} {ou : List (Nat × AV)}, (∀ x ∈ xs, ∀ g k, x = .ref g k → isOwn (σ g) = true) → outU σ xs os = some ou → ∀ p ∈ ou, isOwn (σ p.1) = true
  | [], os, ou, _, h => by cases h; simp
  | x :: xs, os, ou, hx, h => by
    have ih := fun os' ou' => outU_own (xs := xs) (os := os') (ou := ou') fun y hy => hx y (by simp [hy])
    unfold outU at h
    split at h
    · rename_i heq; cases heq
    · rename_i g k as c os' heq
      cases heq
      split at h
      · rename_i u hu
        cases h
        intro p hp
        rcases List.mem_cons.1 hp with rfl | hp
        · exact hx _ (by simp) g k rfl
        · exact ih _ _ hu p hp
      · cases h
    · cases h
    · rename_i heq
      cases heq
      exact ih _ _ h
    · rename_i heq
      cases heq
      exact ih _ _ h
theorem argsV_own : ∀ {xs as : List AV}, argsV σ xs = some as → ∀ x ∈ xs, ∀ g k, x = .ref g k → isOwn (σ g) = true
  | [], as, _, x, hx => by cases hx
  | y :: xs, as, h, x, hx => by
    unfold argsV at h
    split at h
    · rename_i z hz
      split at h
      · rename_i zs hzs
        rcases List.mem_cons.1 hx with rfl | hx
        · rintro g k rfl
          rcases argV_spec hz with ⟨g', ty, c, e1, e2, e3, e4⟩ | ⟨e1, e2⟩
          · cases e1; exact tyC_own e4
          · cases e1
        · exact argsV_own hzs x hx
      · cases h
    · cases h

theorem evOp_lt {u : List (Nat × AV)} (hN : ∀ t, N ≤ t → σ t = .non) {c : Bool} (h : evOp P GL Γ N σ o = some (c, u)) : ∀ p ∈ u, p.1 < N := by
  have hown : ∀ t, isOwn (σ t) = true → t < N := fun t ht => by
    rcases Nat.lt_or_ge t N with h' | h'
    · exact h'
    · rw [hN t h'] at ht; cases ht
  have hcall : ∀ g args, callOf GL Γ N σ o g args = some (c, u) → ∀ p ∈ u, p.1 < N := by
    intro g args h
    unfold callOf at h
    split at h
    · split at h
      · rename_i as has hnd
        split at h
        · split at h
          · rename_i ou u0 hou hu
            cases h
            intro p hp
            rcases List.mem_append.1 hp with hp | hp
            · exact setD_lt hu p hp
            · exact hown _ (outU_own (argsV_own has) hou p hp)
          · cases h
        · cases h
      · cases h
    · cases h
  unfold evOp at h
  repeat' (first | exact bindSet_lt h | exact hcall _ _ h | (cases h; done) | split at h)
  all_goals
    rename_i hb _ _ _ _ _ _ _
    cases h
    intro p hp
    simp only [List.mem_singleton] at hp
    subst hp
    refine hown _ ?_
    cases e : σ _ <;> simp_all [boxC, isOwn]
end
end Go.Ev

/- Regions: in the text's order, and in whatever order. -/
namespace Go.Ev
open Go.RowKit

/-- What is known behind those of the first m operations that L names. -/
def got (U : Nat → List (Nat × AV)) (σ : Nat → AV) (L : Nat → Bool) : Nat → Nat → AV
  | 0, t => σ t
  | m + 1, t => if L m = true then (look (U m) t).getD (got U σ L m t) else got U σ L m t

theorem got_succ {U : Nat → List (Nat × AV)} {σ : Nat → AV} {L : Nat → Bool} {m : Nat} (h : L m = true) : got U σ L (m + 1) = upd (got U σ L m) (U m) := by
  funext t
  simp [got, h, upd]

theorem look_none {t : Nat} : ∀ {u : List (Nat × AV)}, (∀ p ∈ u, p.1 ≠ t) → look u t = none
  | [], _ => rfl
  | (d, x) :: u, h => by
    have h1 := h (d, x) (by simp)
    have h2 := look_none (u := u) fun p hp => h p (by simp [hp])
    simp only [look, beq_ne h1, h2]

/-- The outcome of those of L is the same in whatever order, if whoever conflicts is ordered. -/
theorem got_read {U : Nat → List (Nat × AV)} {σ : Nat → AV} {L : Nat → Bool} {n i t : Nat} (hi : i < n)
    (h1 : ∀ j, j < i → (∃ p ∈ U j, p.1 = t) → L j = true) (h2 : ∀ j, i ≤ j → j < n → L j = true → ∀ p ∈ U j, p.1 ≠ t) :
    got U σ L n t = got U σ (fun _ => true) i t := by
  have a : ∀ m, m ≤ i → got U σ L m t = got U σ (fun _ => true) m t := by
    intro m
    induction m with
    | zero => intro _; rfl
    | succ m ih =>
      intro hm
      have ih := ih (by omega)
      by_cases hL : L m = true
      · simp [got, hL, ih]
      · have hn : look (U m) t = none := look_none fun p hp e => hL (h1 m (by omega) ⟨p, hp, e⟩)
        simp [got, hL, ih, hn]
  have b : ∀ m, i ≤ m → m ≤ n → got U σ L m t = got U σ L i t := by
    intro m
    induction m with
    | zero => intro h _; have : i = 0 := by omega
              subst this; rfl
    | succ m ih =>
      intro h hm
      by_cases hm' : i = m + 1
      · subst hm'; rfl
      · have ih := ih (by omega) (by omega)
        by_cases hL : L m = true
        · have hn : look (U m) t = none := look_none (h2 m (by omega) (by omega) hL)
          simp [got, hL, ih, hn]
        · simp [got, hL, ih]
  rw [b n (by omega) (Nat.le_refl n), a i (Nat.le_refl i)]

theorem got_write {U : Nat → List (Nat × AV)} {σ : Nat → AV} {L : Nat → Bool} {n i : Nat} (hi : i < n) (hL : L i = false)
    (h2 : ∀ j, i < j → j < n → L j = true → ∀ p ∈ U j, ∀ q ∈ U i, p.1 ≠ q.1) :
    got U σ (fun j => L j || j == i) n = upd (got U σ L n) (U i) := by
  funext t
  have a : ∀ m, m ≤ i → got U σ (fun j => L j || j == i) m t = got U σ L m t := by
    intro m
    induction m with
    | zero => intro _; rfl
    | succ m ih =>
      intro hm
      have ih := ih (by omega)
      have hne : (m == i) = false := by simp; omega
      simp [got, ih, hne]
  have b : ∀ m, i < m → m ≤ n → got U σ (fun j => L j || j == i) m t = (look (U i) t).getD (got U σ L m t) := by
    intro m
    induction m with
    | zero => intro h; omega
    | succ m ih =>
      intro h hm
      by_cases hmi : m = i
      · subst hmi
        simp [got, hL, a m (Nat.le_refl m)]
      · have ih := ih (by omega) (by omega)
        have hne : (m == i) = false := by simp; omega
        by_cases hLm : L m = true
        · cases hl : look (U i) t with
          | none => simp [got, hLm, ih, hl]
          | some x =>
            have hq : ∃ q ∈ U i, q.1 = t := by
              cases Classical.em (∃ q ∈ U i, q.1 = t) with
              | inl h => exact h
              | inr h => have := look_none (t := t) (u := U i) (fun p hp e => h ⟨p, hp, e⟩); rw [hl] at this; cases this
            obtain ⟨q, hq, e⟩ := hq
            have hn : look (U m) t = none := look_none fun p hp e' => h2 m (by omega) (by omega) hLm p hp q hq (e'.trans e.symm)
            simp [got, hLm, ih, hl, hn]
        · simp [got, hLm, ih, hne]
  rw [b n hi (Nat.le_refl n)]
  rfl

section
variable {P : Program} {GL : Nat → AV} {Γ : List (Nat × Ctr)} {E : Ext} {N : Nat} {B : Nat → Prop} {w0 w : World} {ρ : Nat → Nat} {σ : Nat → AV} {a : Act} {o : Oper} {ops : Array Oper}
  {K : Act → World → Prop} {Q : Exit → Act → World → Prop} {u : List (Nat × AV)}

/-- An operation with its guard. -/
theorem evG_sound (hΓ : Sound P GL Γ) (hR : Rr E N B w0 ρ σ a w) (hG : ∀ g, Rep w0 B (GL g) (.pointer (some ⟨g, 0, none⟩))) (hB : ∀ b, B b → b < w0.heap.size ∧ ¬ E.X b)
    (h : evG P GL Γ N ops σ o = some (true, u)) (hK : ∀ ρ' a' w', Rr E N B w0 ρ' (upd σ u) a' w' → K a' w') :
    if Region.wanted o (yielded ops a.tmps) = true then o.wp P a w K Q ∨ (o.asks P a w ∧ LetsOut Q) else K (a.put o.dst undef) w := by
  unfold evG at h
  split at h
  · rename_i hg
    rw [if_pos (by simp [Region.wanted, hg])]
    exact .inl (evOp_sound hΓ hR hG hB h hK)
  · rename_i j want hg
    split at h
    · rename_i t ht
      split at h
      · rename_i b hb
        have htN : t < N := by
          rcases Nat.lt_or_ge t N with h' | h'
          · exact h'
          · have := hR.out t h'; rw [hb] at this; cases this
        have hv := hR.rep t (by rw [hb]; rfl) (by rw [hb]; rfl)
        rw [hb] at hv
        have hv' : a.tmps[t]? = some (.bool b) := by
          have hs : t < a.tmps.size := by rw [hR.siz]; exact hR.ltn htN (by rw [hb]; rfl)
          have e : a.eval (.tmp t) = a.tmps[t] := by simp [Act.eval, hs]
          rw [e] at hv
          generalize hx : a.tmps[t] = x at hv
          cases hv
          simp [hs, hx]
        have hy : yielded ops a.tmps j = some b := by
          unfold dstAt at ht
          unfold yielded
          split at ht
          · rename_i oj hoj
            simp [hoj, ht, hv']
          · cases ht
        split at h
        · rename_i he
          rw [if_pos (by simp [Region.wanted, hg, hy]; simpa using he)]
          exact .inl (evOp_sound hΓ hR hG hB h hK)
        · rename_i he
          rw [if_neg (by simp [Region.wanted, hg, hy]; simpa using he)]
          unfold ret at h
          split at h
          · rename_i u' hu
            cases h
            exact hK _ _ _ (hR.put hR.blw (fun _ _ => rfl) (Nat.le_refl _) hu (.inr ⟨rfl, rfl, .val _⟩))
          · cases h
      · rename_i b hb
        have htN : t < N := by
          rcases Nat.lt_or_ge t N with h' | h'
          · exact h'
          · have := hR.out t h'; rw [hb] at this; cases this
        have hv := hR.rep t (by rw [hb]; rfl) (by rw [hb]; rfl)
        rw [hb] at hv
        have hv' : a.tmps[t]? = some (.tuple b) := by
          have hs : t < a.tmps.size := by rw [hR.siz]; exact hR.ltn htN (by rw [hb]; rfl)
          have e : a.eval (.tmp t) = a.tmps[t] := by simp [Act.eval, hs]
          rw [e] at hv
          generalize hx : a.tmps[t] = x at hv
          cases hv
          simp [hs, hx]
        have hy : yielded ops a.tmps j = none := by
          unfold dstAt at ht
          unfold yielded
          split at ht
          · rename_i oj hoj
            simp [hoj, ht, hv']
          · cases ht
        rw [if_neg (by simp [Region.wanted, hg, hy])]
        unfold ret at h
        split at h
        · rename_i u' hu
          cases h
          exact hK _ _ _ (hR.put hR.blw (fun _ _ => rfl) (Nat.le_refl _) hu (.inr ⟨rfl, rfl, .val _⟩))
        · cases h
      · cases h
    · cases h

theorem evG_op (hΓ : Sound P GL Γ) (hR : Rr E N B w0 ρ σ a w) (hG : ∀ g, Rep w0 B (GL g) (.pointer (some ⟨g, 0, none⟩))) (hB : ∀ b, B b → b < w0.heap.size ∧ ¬ E.X b)
    {i : Nat} (hi : ops[i]? = some o) (h : evG P GL Γ N ops σ o = some (true, u)) (hK : ∀ ρ' a' w', Rr E N B w0 ρ' (upd σ u) a' w' → K a' w') : wpOp P ops Q i K a w := by
  have := evG_sound (Q := Q) hΓ hR hG hB h hK
  unfold wpOp
  simp only [hi]
  exact this

/-- The text's order: one list of steps. -/
structure Steps' (P : Program) (GL : Nat → AV) (Γ : List (Nat × Ctr)) (N : Nat) (ops : Array Oper) (σ : Nat → AV) (U : Nat → List (Nat × AV)) : Prop where
  step : ∀ i o, ops[i]? = some o → evG P GL Γ N ops (got U σ (fun _ => true) i) o = some (true, U i)

theorem wp_in_order (hΓ : Sound P GL Γ) (hG : ∀ g, Rep w0 B (GL g) (.pointer (some ⟨g, 0, none⟩))) (hB : ∀ b, B b → b < w0.heap.size ∧ ¬ E.X b) {U : Nat → List (Nat × AV)}
    (hs : Steps' P GL Γ N ops σ U) (hQ : ∀ ρ' a' w', Rr E N B w0 ρ' (got U σ (fun _ => true) ops.size) a' w' → Q .normal a' w') :
    ∀ (d m : Nat), m + d = ops.size → ∀ ρ a w, Rr E N B w0 ρ (got U σ (fun _ => true) m) a w → wpOps P ops Q (List.range' m d) a w
  | 0, m, hm, ρ, a, w, hR => by
    have : m = ops.size := by omega
    subst this
    exact hQ _ _ _ hR
  | d + 1, m, hm, ρ, a, w, hR => by
    rw [List.range'_succ, wpOps_cons]
    have hlt : m < ops.size := by omega
    refine evG_op hΓ hR hG hB (Array.getElem?_eq_getElem hlt) (hs.step m _ (Array.getElem?_eq_getElem hlt)) fun ρ' a' w' hR' => ?_
    exact wp_in_order hΓ hG hB hs hQ d (m + 1) (by omega) ρ' a' w' (by rw [got_succ rfl]; exact hR')

/-- Whatever order: 'anc j i': i comes before j in every order. -/
theorem wp_any_order (hGL : ∀ g' g k, GL g' ≠ .ref g k) (hΓ : Sound P GL Γ) (hG : ∀ g, Rep w0 B (GL g) (.pointer (some ⟨g, 0, none⟩))) (hB : ∀ b, B b → b < w0.heap.size ∧ ¬ E.X b) {U : Nat → List (Nat × AV)}
    (hs : Steps' P GL Γ N ops σ U) (anc : Nat → Nat → Prop)
    (hedge : ∀ i o, ops[i]? = some o → ∀ e ∈ o.after, Region.binds .any e = true → e.on < i)
    (hanc : ∀ (L : Nat → Bool), (∀ i o, ops[i]? = some o → L i = true → ∀ e ∈ o.after, Region.binds .any e = true → L e.on = true) → ∀ j i, j < ops.size → anc j i → L j = true → L i = true)
    (hww : ∀ i j, i < j → j < ops.size → (∃ p ∈ U i, ∃ q ∈ U j, p.1 = q.1) → anc j i)
    (hwr : ∀ i j o, i < j → ops[j]? = some o → (∃ p ∈ U i, p.1 ∈ rdOf ops (got U σ (fun _ => true) j) o) → anc j i)
    (hrw : ∀ i j o, i < j → j < ops.size → ops[i]? = some o → (∃ p ∈ U j, p.1 ∈ rdOf ops (got U σ (fun _ => true) i) o) → anc j i)
    (hancr : ∀ i, i < ops.size → ∀ (L : Nat → Bool), (∀ o, ops[i]? = some o → ∀ e ∈ o.after, Region.binds .any e = true → L e.on = true) →
      (∀ i o, ops[i]? = some o → L i = true → ∀ e ∈ o.after, Region.binds .any e = true → L e.on = true) → ∀ j, anc i j → L j = true)
    (hQ : ∀ ρ' a' w', Rr E N B w0 ρ' (got U σ (fun _ => true) ops.size) a' w' → Q .normal a' w') :
    ∀ (fuel : Nat) (listed : Array Bool) (ρ : Nat → Nat) (a : Act) (w : World), listed.size = ops.size → (listed.toList.countP (· == false)) ≤ fuel →
      (∀ i o, ops[i]? = some o → listed.getD i false = true → ∀ e ∈ o.after, Region.binds .any e = true → listed.getD e.on false = true) →
      Rr E N B w0 ρ (got U σ (fun i => listed.getD i false) ops.size) a w → wpAny P .any ops Q fuel listed a w := by
  -- when none is ready, all are listed
  have hall : ∀ (listed : Array Bool), listed.size = ops.size → Region.ready .any ops listed = [] → ∀ i, i < ops.size → listed.getD i false = true := by
    intro listed hsz hr i
    induction i using Nat.strongRecOn with
    | _ i ih =>
      intro hi
      cases hli : listed.getD i false with
      | true => rfl
      | false =>
        exfalso
        have hm : i ∈ Region.ready .any ops listed := by
          rw [mem_ready]
          refine ⟨?_, ops[i], Array.getElem?_eq_getElem hi, fun e he hb => ih e.on (hedge i _ (Array.getElem?_eq_getElem hi) e he hb) ?_⟩
          · have hil : i < listed.size := by omega
            simp [hil] at hli ⊢
            exact hli
          · have := hedge i _ (Array.getElem?_eq_getElem hi) e he hb
            omega
        rw [hr] at hm
        cases hm
  have hdone : ∀ (listed : Array Bool) ρ a w, listed.size = ops.size → Region.ready .any ops listed = [] → Rr E N B w0 ρ (got U σ (fun i => listed.getD i false) ops.size) a w → Q .normal a w := by
    intro listed ρ a w hsz hr hR
    have h := hall listed hsz hr
    have e : ∀ m, m ≤ ops.size → got U σ (fun i => listed.getD i false) m = got U σ (fun _ => true) m := by
      intro m
      induction m with
      | zero => intro _; rfl
      | succ m ih =>
        intro hm
        rw [got_succ (h m (by omega)), got_succ rfl, ih (by omega)]
    rw [e _ (Nat.le_refl _)] at hR
    exact hQ _ _ _ hR
  intro fuel
  induction fuel with
  | zero =>
    intro listed ρ a w hsz hc hcl hR
    have hr : Region.ready .any ops listed = [] := by
      cases hr : Region.ready .any ops listed with
      | nil => rfl
      | cons i l =>
        exfalso
        have hm : i ∈ Region.ready .any ops listed := by rw [hr]; simp
        rw [mem_ready] at hm
        obtain ⟨h0, o, ho, _⟩ := hm
        have hi : i < listed.size := by rw [hsz]; exact (Array.getElem?_eq_some_iff.1 ho).1
        have : listed.toList.countP (· == false) = 0 := by omega
        rw [List.countP_eq_zero] at this
        have := this listed[i] (by simp)
        simp [hi] at h0
        simp [h0] at this
    exact ⟨hr, hdone listed ρ a w hsz hr hR⟩
  | succ fuel ih =>
    intro listed ρ a w hsz hc hcl hR
    refine ⟨fun hr => hdone listed ρ a w hsz hr hR, fun i hi => ?_⟩
    rw [mem_ready] at hi
    obtain ⟨h0, o, ho, hre⟩ := hi
    have hin : i < ops.size := (Array.getElem?_eq_some_iff.1 ho).1
    have hil : i < listed.size := by omega
    have hLi : listed.getD i false = false := by simp [hil] at h0 ⊢; exact h0
    have hancI : ∀ j, anc i j → listed.getD j false = true := hancr i hin (fun i => listed.getD i false) (fun o' ho' e he hb => by rw [ho] at ho'; cases ho'; exact hre e he hb) hcl
    have hlater : ∀ j, j < ops.size → listed.getD j false = true → anc j i → False := fun j hj hL ha => by
      have := hanc (fun i => listed.getD i false) hcl j i hj ha hL
      rw [hLi] at this
      cases this
    have hrd : ∀ t ∈ rdOf ops (got U σ (fun _ => true) i) o, got U σ (fun i => listed.getD i false) ops.size t = got U σ (fun _ => true) i t := fun t ht =>
      got_read hin (fun j hj ⟨p, hp, e⟩ => hancI j (hwr j i o hj ho ⟨p, hp, e ▸ ht⟩)) (fun j hij hj hL p hp e => by
        rcases Nat.lt_or_ge i j with h | h
        · exact hlater j hj hL (hrw i j o h hj ho ⟨p, hp, e ▸ ht⟩)
        · have : j = i := by omega
          subst this
          rw [hLi] at hL
          cases hL)
    have hev : evG P GL Γ N ops (got U σ (fun i => listed.getD i false) ops.size) o = some (true, U i) := by
      rw [evG_congr hGL hrd]
      exact hs.step i o ho
    refine evG_op hΓ hR hG hB ho hev fun ρ' a' w' hR' => ?_
    have hset : ∀ j, (listed.setIfInBounds i true).getD j false = (listed.getD j false || j == i) := fun j => by
      by_cases h : j = i
      · subst h; simp [hil]
      · have hne : (j == i) = false := by simpa using h
        rw [hne, Bool.or_false, getD_set_ne false (Ne.symm h)]
    refine ih (listed.setIfInBounds i true) ρ' a' w' (by simp [hsz]) ?_ ?_ ?_
    · have : (listed.setIfInBounds i true).toList.countP (· == false) + 1 = listed.toList.countP (· == false) := by
        rw [Array.toList_setIfInBounds]
        have e1 : listed.toList = listed.toList.take i ++ listed.toList[i]'(by simpa using hil) :: listed.toList.drop (i + 1) := by
          rw [List.getElem_cons_drop, List.take_append_drop]
        have e2 : listed.toList.set i true = listed.toList.take i ++ true :: listed.toList.drop (i + 1) := List.set_eq_take_append_cons_drop .. |>.trans (if_pos (by simpa using hil))
        have e3 : listed.toList[i]'(by simpa using hil) = false := by
          simp [hil] at hLi
          simpa using hLi
        rw [e2]
        conv => rhs; rw [e1]
        rw [List.countP_append, List.countP_append, List.countP_cons_of_neg (by simp), List.countP_cons_of_pos (by simp [e3])]
        omega
      omega
    · intro j oj hoj hLj e he hb
      rw [hset] at hLj ⊢
      rw [Bool.or_eq_true] at hLj
      rcases hLj with h | h
      · rw [hcl j oj hoj h e he hb]; rfl
      · have : j = i := by simpa using h
        subst this
        rw [ho] at hoj
        cases hoj
        rw [hre e he hb]; rfl
    · have : (fun j => (listed.setIfInBounds i true).getD j false) = (fun j => listed.getD j false || j == i) := funext hset
      rw [this, got_write hin hLi fun j hij hj hL p hp q hq e => hlater j hj hL (hww i j hij hj ⟨q, hq, p, hp, e.symm⟩)]
      exact hR'
end
end Go.Ev

/- The evaluator of regions on lists, and its soundness. -/
namespace Go.Ev
open Go.RowKit

def at' (s : List AV) (t : Nat) : AV := s.getD t .non
def setAll : List AV → List (Nat × AV) → List AV
  | s, [] => s
  | s, (d, x) :: u => (setAll s u).set d x

theorem at_setAll {s : List AV} : ∀ {u : List (Nat × AV)}, (∀ p ∈ u, p.1 < s.length) → (setAll s u).length = s.length ∧ at' (setAll s u) = upd (at' s) u
  | [], _ => ⟨rfl, rfl⟩
  | (d, x) :: u, h => by
    obtain ⟨h1, h2⟩ := at_setAll (s := s) (u := u) fun p hp => h p (by simp [hp])
    have hd : d < s.length := h (d, x) (by simp)
    refine ⟨by simp [setAll, h1], ?_⟩
    funext t
    simp only [setAll, at', List.getD]
    by_cases ht : d = t
    · subst ht
      rw [List.getElem?_set_self (by omega)]
      simp [upd, look]
    · rw [List.getElem?_set_ne ht]
      have := congrFun h2 t
      simp only [at', List.getD] at this
      rw [this]
      simp only [upd, look, beq_ne ht]

def bitsOf : List Nat → Nat
  | [] => 0
  | t :: l => Nat.lor (2 ^ t) (bitsOf l)
theorem bitsOf_spec {t : Nat} : ∀ {l : List Nat}, t ∈ l → (bitsOf l).testBit t = true
  | x :: l, h => by
    show (2 ^ x ||| bitsOf l).testBit t = true
    rw [Nat.testBit_or]
    rcases List.mem_cons.1 h with rfl | h
    · simp [Nat.testBit_two_pow_self]
    · simp [bitsOf_spec h]
theorem bits_disjoint {l m : List Nat} (h : Nat.land (bitsOf l) (bitsOf m) = 0) {t : Nat} (h1 : t ∈ l) (h2 : t ∈ m) : False := by
  have : (bitsOf l &&& bitsOf m).testBit t = true := by rw [Nat.testBit_and, bitsOf_spec h1, bitsOf_spec h2]; rfl
  rw [show bitsOf l &&& bitsOf m = 0 from h] at this
  simp at this

/-- What one operation reads and writes, as masks. -/
abbrev Foot := Nat × Nat

section
variable (P : Program) (GL : Nat → AV) (Γ : List (Nat × Ctr)) (ops : Array Oper)

def runOps : List Oper → List AV → Option (List AV × List Foot)
  | [], s => some (s, [])
  | o :: l, s => match evG P GL Γ s.length ops (at' s) o with
    | some (true, u) => match runOps l (setAll s u) with
      | some (s', tr) => some (s', (bitsOf (rdOf ops (at' s) o), bitsOf (u.map (·.1))) :: tr)
      | none => none
    | _ => none

def foot (d : Bool) (s : List AV) (o : Oper) (u : List (Nat × AV)) (tr : List Foot) : List Foot := match d with
  | true => (bitsOf (rdOf ops (at' s) o), bitsOf (u.map (·.1))) :: tr
  | false => tr
def afterOp (d : Bool) (s : List AV) (o : Oper) (tr : List Foot) (K : List AV → List Foot → Option AV) : Option (Bool × List (Nat × AV)) → Option AV
  | some (c, u) => cond c (K (setAll s u) (foot ops d s o u tr)) none
  | none => none
/-- The operations one behind the other; a guard that isn't known parts the ways. -/
def cpsOps (d : Bool) : List Oper → List AV → List Foot → (List AV → List Foot → Option AV) → Option AV
  | [], s, tr, K => K s tr
  | o :: l, s, tr, K => match o.guard with
    | none => afterOp ops d s o tr (fun s' tr' => cpsOps d l s' tr' K) (evOp P GL Γ s.length (at' s) o)
    | some (j, want) => match dstAt ops j with
      | some t => match at' s t with
        | .val (.bool b) => cond b
          (match want with
            | true => afterOp ops d (s.set t (.val (.bool true))) o tr (fun s' tr' => cpsOps d l s' tr' K) (evOp P GL Γ s.length (at' (s.set t (.val (.bool true)))) o)
            | false => afterOp ops d (s.set t (.val (.bool true))) o tr (fun s' tr' => cpsOps d l s' tr' K) (ret true (setD s.length (at' (s.set t (.val (.bool true)))) o (.val undef))))
          (match want with
            | false => afterOp ops d (s.set t (.val (.bool false))) o tr (fun s' tr' => cpsOps d l s' tr' K) (evOp P GL Γ s.length (at' (s.set t (.val (.bool false)))) o)
            | true => afterOp ops d (s.set t (.val (.bool false))) o tr (fun s' tr' => cpsOps d l s' tr' K) (ret true (setD s.length (at' (s.set t (.val (.bool false)))) o (.val undef))))
        | .val (.tuple _) => afterOp ops d s o tr (fun s' tr' => cpsOps d l s' tr' K) (ret true (setD s.length (at' s) o (.val undef)))
        | _ => none
      | none => none
end

section
variable {P : Program} {GL : Nat → AV} {Γ : List (Nat × Ctr)} {ops : Array Oper}

theorem at_out {s : List AV} {t : Nat} (h : s.length ≤ t) : at' s t = .non := by simp [at', List.getD, List.getElem?_eq_none h]
theorem set_self {s : List AV} {t : Nat} {x : AV} (h : at' s t = x) : s.set t x = s := by
  apply List.ext_getElem?
  intro i
  by_cases hi : t = i
  · subst hi
    by_cases hl : t < s.length
    · rw [List.getElem?_set_self hl]
      simp [at', List.getD, hl] at h
      simp [hl, h]
    · rw [List.getElem?_eq_none (by simp; omega), List.getElem?_eq_none (by omega)]
  · rw [List.getElem?_set_ne hi]

theorem evG_lt {N : Nat} {σ : Nat → AV} {o : Oper} {u : List (Nat × AV)} {c : Bool} (hN : ∀ t, N ≤ t → σ t = .non) (h : evG P GL Γ N ops σ o = some (c, u)) : ∀ p ∈ u, p.1 < N := by
  unfold evG at h
  split at h
  · exact evOp_lt hN h
  · split at h
    · split at h
      · split at h
        · exact evOp_lt hN h
        · unfold ret at h
          split at h
          · rename_i hu
            cases h
            exact setD_lt hu
          · cases h
      · unfold ret at h
        split at h
        · rename_i hu
          cases h
          exact setD_lt hu
        · cases h
      · cases h
    · cases h

def joinTr : Bool → List Foot → List Foot → List Foot
  | true, tr', tr => tr'.reverse ++ tr
  | false, _, tr => tr
theorem cpsOps_run {d : Bool} {x : AV} : ∀ (l : List Oper) (s : List AV) (tr : List Foot) (K : List AV → List Foot → Option AV), cpsOps P GL Γ ops d l s tr K = some x →
    ∃ s' tr', runOps P GL Γ ops l s = some (s', tr') ∧ K s' (joinTr d tr' tr) = some x
  | [], s, tr, K, h => ⟨s, [], rfl, by cases d <;> exact h⟩
  | o :: l, s, tr, K, h => by
    have key : ∀ r, evG P GL Γ s.length ops (at' s) o = r → afterOp ops d s o tr (fun s' tr' => cpsOps P GL Γ ops d l s' tr' K) r = some x →
        ∃ s' tr', runOps P GL Γ ops (o :: l) s = some (s', tr') ∧ K s' (joinTr d tr' tr) = some x := by
      intro r hr h
      unfold afterOp at h
      split at h
      · rename_i c u
        cases c with
        | false => cases h
        | true =>
          obtain ⟨s', tr', h1, h2⟩ := cpsOps_run l _ _ K h
          refine ⟨s', (bitsOf (rdOf ops (at' s) o), bitsOf (u.map (·.1))) :: tr', by simp only [runOps, hr, h1], ?_⟩
          cases d with
          | false => exact h2
          | true => simpa [foot, joinTr] using h2
      · cases h
    unfold cpsOps at h
    split at h
    · rename_i hg
      exact key _ (by simp [evG, hg]) h
    · rename_i j want hg
      split at h
      · rename_i t ht
        split at h
        · rename_i b hb
          have hs := set_self hb
          cases b with
          | true =>
            simp only [cond_true, hs] at h
            cases want with
            | true => exact key _ (by simp [evG, hg, ht, hb]) h
            | false => exact key _ (by simp [evG, hg, ht, hb]) h
          | false =>
            simp only [cond_false, hs] at h
            cases want with
            | true => exact key _ (by simp [evG, hg, ht, hb]) h
            | false => exact key _ (by simp [evG, hg, ht, hb]) h
        · rename_i b hb
          exact key _ (by simp [evG, hg, ht, hb]) h
        · cases h
      · cases h

theorem got_cons {U : List (List (Nat × AV))} {u : List (Nat × AV)} {σ : Nat → AV} : ∀ i, got (fun j => (u :: U).getD j []) σ (fun _ => true) (i + 1) = got (fun j => U.getD j []) (upd σ u) (fun _ => true) i
  | 0 => by
    rw [got_succ rfl]
    rfl
  | i + 1 => by
    rw [got_succ rfl, got_cons i, got_succ rfl]
    rfl

theorem runOps_steps : ∀ (l : List Oper) (s s' : List AV) (tr : List Foot), runOps P GL Γ ops l s = some (s', tr) →
    ∃ us : List (List (Nat × AV)), s'.length = s.length ∧ tr.length = l.length ∧ at' s' = got (fun j => us.getD j []) (at' s) (fun _ => true) l.length ∧
      ∀ i o, l[i]? = some o → evG P GL Γ s.length ops (got (fun j => us.getD j []) (at' s) (fun _ => true) i) o = some (true, us.getD i []) ∧
        tr[i]? = some (bitsOf (rdOf ops (got (fun j => us.getD j []) (at' s) (fun _ => true) i) o), bitsOf ((us.getD i []).map (·.1)))
  | [], s, s', tr, h => by
    simp only [runOps, Option.some.injEq, Prod.mk.injEq] at h
    obtain ⟨rfl, rfl⟩ := h
    exact ⟨[], rfl, rfl, rfl, fun i o h => by simp at h⟩
  | o :: l, s, s', tr, h => by
    unfold runOps at h
    split at h
    · rename_i u hu
      split at h
      · rename_i s1 tr1 h1
        cases h
        obtain ⟨hl, ha⟩ := at_setAll (s := s) (u := u) (evG_lt (fun t ht => at_out ht) hu)
        obtain ⟨us, e1, e2, e3, e4⟩ := runOps_steps l _ _ _ h1
        refine ⟨u :: us, e1.trans hl, by simp [e2], ?_, fun i o' hi => ?_⟩
        · rw [List.length_cons, got_cons, ← ha]; exact e3
        · cases i with
          | zero =>
            simp only [List.getElem?_cons_zero, Option.some.injEq] at hi
            subst hi
            exact ⟨hu, rfl⟩
          | succ i =>
            simp only [List.getElem?_cons_succ] at hi ⊢
            obtain ⟨f1, f2⟩ := e4 i o' hi
            rw [got_cons, ← ha, ← hl]
            exact ⟨f1, f2⟩
      · cases h
    · cases h

/-! Who comes before whom in every order. -/
def direct (m : List Nat) : List Edge → Nat
  | [] => 0
  | e :: es => match Region.binds .any e with
    | true => Nat.lor (Nat.lor (2 ^ e.on) (m.getD e.on 0)) (direct m es)
    | false => direct m es
def masks (m : List Nat) : List Oper → List Nat
  | [] => m
  | o :: l => masks (m ++ [direct m o.after.toList]) l
def edgesOk (i : Nat) : List Oper → Bool
  | [] => true
  | o :: l => match o.after.toList.all fun e => !Region.binds .any e || Nat.blt e.on i with
    | true => edgesOk (i + 1) l
    | false => false
/-- Operation number i (it reads r, writes w) against those behind it. -/
def okBehind (i r w : Nat) : List Foot → List Nat → Bool
  | (r', w') :: tr, m :: ms => match Nat.beq (Nat.land w (Nat.lor r' w')) 0 && Nat.beq (Nat.land w' r) 0 || Nat.testBit m i with
    | true => okBehind i r w tr ms
    | false => false
  | _, _ => true
def okPairs (i : Nat) : List Foot → List Nat → Bool
  | (r, w) :: tr, _ :: ms => match okBehind i r w tr ms with
    | true => okPairs (i + 1) tr ms
    | false => false
  | _, _ => true
def okOrder (ops : Array Oper) (tr : List Foot) : Bool := edgesOk 0 ops.toList && okPairs 0 tr (masks [] ops.toList)

theorem edgesOk_spec : ∀ (l : List Oper) (i : Nat), edgesOk i l = true → ∀ j o, l[j]? = some o → ∀ e ∈ o.after, Region.binds .any e = true → e.on < i + j
  | [], _, _, j, o, h => by simp at h
  | x :: l, i, h, j, o, hj => by
    unfold edgesOk at h
    split at h
    · rename_i hx
      cases j with
      | zero =>
        simp only [List.getElem?_cons_zero, Option.some.injEq] at hj
        subst hj
        intro e he hb
        have := List.all_eq_true.1 hx e (by simpa using he)
        simp only [hb, Bool.not_true, Bool.false_or] at this
        exact Nat.le_of_ble_eq_true this
      | succ j =>
        simp only [List.getElem?_cons_succ] at hj
        intro e he hb
        have := edgesOk_spec l (i + 1) h j o hj e he hb
        omega
    · cases h

theorem okBehind_spec {i r w : Nat} : ∀ (tr : List Foot) (ms : List Nat), okBehind i r w tr ms = true → ∀ (j r' w' m : Nat), tr[j]? = some (r', w') → ms[j]? = some m →
    (Nat.land w (Nat.lor r' w') = 0 ∧ Nat.land w' r = 0) ∨ Nat.testBit m i = true
  | [], _, _, j, _, _, _, h, _ => by simp at h
  | _ :: _, [], _, j, _, _, _, _, h => by simp at h
  | (r1, w1) :: tr, m1 :: ms, h, j, r', w', m, h1, h2 => by
    unfold okBehind at h
    split at h
    · rename_i hx
      cases j with
      | zero =>
        simp only [List.getElem?_cons_zero, Option.some.injEq] at h1 h2
        cases h1
        subst h2
        rw [Bool.or_eq_true, Bool.and_eq_true] at hx
        exact hx.imp (fun ⟨a, b⟩ => ⟨Nat.eq_of_beq_eq_true a, Nat.eq_of_beq_eq_true b⟩) id
      | succ j => exact okBehind_spec tr ms h j r' w' m (by simpa using h1) (by simpa using h2)
    · cases h

theorem okPairs_spec : ∀ (tr : List Foot) (ms : List Nat) (k : Nat), okPairs k tr ms = true → ∀ (i j r w r' w' m : Nat), i < j → tr[i]? = some (r, w) → tr[j]? = some (r', w') → ms[j]? = some m →
    (Nat.land w (Nat.lor r' w') = 0 ∧ Nat.land w' r = 0) ∨ Nat.testBit m (k + i) = true
  | [], _, _, _, i, j, _, _, _, _, _, _, h, _, _ => by simp at h
  | _ :: _, [], _, _, i, j, _, _, _, _, _, _, _, _, h => by simp at h
  | (r1, w1) :: tr, m1 :: ms, k, h, i, j, r, w, r', w', m, hij, h1, h2, h3 => by
    unfold okPairs at h
    split at h
    · rename_i hx
      cases j with
      | zero => omega
      | succ j =>
        cases i with
        | zero =>
          simp only [List.getElem?_cons_zero, Option.some.injEq] at h1
          cases h1
          exact okBehind_spec tr ms hx j r' w' m (by simpa using h2) (by simpa using h3)
        | succ i =>
          have := okPairs_spec tr ms (k + 1) h i j r w r' w' m (by omega) (by simpa using h1) (by simpa using h2) (by simpa using h3)
          rw [show k + (i + 1) = k + 1 + i by omega]
          exact this
    · cases h

/-- A mask names none but those that come before. -/
def MaskOk (ops : Array Oper) (j m : Nat) : Prop := ∀ i, Nat.testBit m i = true → ∀ (L : Nat → Bool),
  (∀ i o, ops[i]? = some o → L i = true → ∀ e ∈ o.after, Region.binds .any e = true → L e.on = true) →
  (∀ o, ops[j]? = some o → ∀ e ∈ o.after, Region.binds .any e = true → L e.on = true) → L i = true

theorem direct_spec {ops : Array Oper} {m : List Nat} (hm : ∀ j, j < m.length → MaskOk ops j (m.getD j 0)) (L : Nat → Bool)
    (hL : ∀ i o, ops[i]? = some o → L i = true → ∀ e ∈ o.after, Region.binds .any e = true → L e.on = true) :
    ∀ (es : List Edge), (∀ e ∈ es, Region.binds .any e = true → L e.on = true) → ∀ i, Nat.testBit (direct m es) i = true → L i = true
  | [], _, i, h => by simp [direct] at h
  | e :: es, he, i, h => by
    have ih := direct_spec hm L hL es (fun e h => he e (by simp [h])) i
    unfold direct at h
    split at h
    · rename_i hb
      have hon := he e (by simp) hb
      change ((2 ^ e.on ||| m.getD e.on 0) ||| direct m es).testBit i = true at h
      rw [Nat.testBit_or, Nat.testBit_or, Bool.or_eq_true, Bool.or_eq_true] at h
      rcases h with (h | h) | h
      · have : i = e.on := by
          rw [Nat.testBit_two_pow] at h
          have : e.on = i := by simpa using h
          exact this.symm
        rw [this]; exact hon
      · by_cases hlt : e.on < m.length
        · exact hm e.on hlt i h L hL (fun o ho => hL e.on o ho hon)
        · simp [List.getD, List.getElem?_eq_none (Nat.le_of_not_lt hlt)] at h
      · exact ih h
    · exact ih h

theorem masks_spec {ops : Array Oper} : ∀ (l : List Oper) (m : List Nat), (∀ j o, l[j]? = some o → ops[m.length + j]? = some o) → (∀ j, j < m.length → MaskOk ops j (m.getD j 0)) →
    (masks m l).length = m.length + l.length ∧ ∀ j, j < (masks m l).length → MaskOk ops j ((masks m l).getD j 0)
  | [], m, _, hm => ⟨rfl, hm⟩
  | o :: l, m, hl, hm => by
    have hm' : ∀ j, j < (m ++ [direct m o.after.toList]).length → MaskOk ops j ((m ++ [direct m o.after.toList]).getD j 0) := by
      intro j hj
      by_cases h : j < m.length
      · have e : (m ++ [direct m o.after.toList]).getD j 0 = m.getD j 0 := by simp [List.getD, List.getElem?_append_left h]
        rw [e]; exact hm j h
      · have hj' : j = m.length := by simp at hj; omega
        subst hj'
        have e : (m ++ [direct m o.after.toList]).getD m.length 0 = direct m o.after.toList := by simp [List.getD]
        rw [e]
        intro i hi L hL hd
        have ho : ops[m.length]? = some o := hl 0 o (by simp)
        exact direct_spec hm L hL o.after.toList (fun e he hb => hd o ho e (by simpa using he) hb) i hi
    have ih := masks_spec l (m ++ [direct m o.after.toList]) (fun j o' hj => by
      have := hl (j + 1) o' (by simpa using hj)
      rw [show (m ++ [direct m o.after.toList]).length + j = m.length + (j + 1) by simp; omega]
      exact this) hm'
    unfold masks
    refine ⟨?_, ih.2⟩
    rw [ih.1]
    simp
    omega

variable {E : Ext} {B : Nat → Prop} {w0 w : World} {ρ : Nat → Nat} {a : Act} {Q : Exit → Act → World → Prop}

/-- A region, drawn or not. -/
theorem region_sound (hmix : P.follows .mixedOrders = true) (hGL : ∀ g' g k, GL g' ≠ .ref g k) (hΓ : Sound P GL Γ) (hG : ∀ g, Rep w0 B (GL g) (.pointer (some ⟨g, 0, none⟩))) (hB : ∀ b, B b → b < w0.heap.size ∧ ¬ E.X b)
    {s s' : List AV} {tr : List Foot} {id : Nat} {draw : Bool} (hrun : runOps P GL Γ ops ops.toList s = some (s', tr)) (hok : draw = true → okOrder ops tr = true)
    (hR : Rr E s.length B w0 ρ (at' s) a w) (hQ : ∀ ρ' a' w', Rr E s.length B w0 ρ' (at' s') a' w' → Q .normal a' w') : (Code.region id ops draw).wp P Q a w := by
  obtain ⟨us, e1, e2, e3, e4⟩ := runOps_steps _ _ _ _ hrun
  have hst : Steps' P GL Γ s.length ops (at' s) (fun j => us.getD j []) := ⟨fun i o ho => (e4 i o (by simpa using ho)).1⟩
  have hQ' : ∀ ρ' a' w', Rr E s.length B w0 ρ' (got (fun j => us.getD j []) (at' s) (fun _ => true) ops.size) a' w' → Q .normal a' w' := fun ρ' a' w' h => hQ ρ' a' w' (by rw [e3]; simpa using h)
  cases draw with
  | false =>
    refine wp_region ?_
    rw [List.range_eq_range']
    exact wp_in_order hΓ hG hB hst hQ' ops.size 0 (by omega) ρ a w hR
  | true =>
    have hok := hok rfl
    unfold okOrder at hok
    rw [Bool.and_eq_true] at hok
    obtain ⟨hk1, hk2⟩ := hok
    have hedge : ∀ i o, ops[i]? = some o → ∀ e ∈ o.after, Region.binds .any e = true → e.on < i := fun i o ho e he hb => by
      have := edgesOk_spec _ 0 hk1 i o (by simpa using ho) e he hb
      omega
    obtain ⟨hml, hms⟩ := masks_spec (ops := ops) ops.toList [] (fun j o hj => by simpa using hj) (fun j hj => by simp at hj)
    simp only [List.length_nil, Nat.zero_add, Array.length_toList] at hml
    have pair : ∀ i j oi oj, i < j → ops[i]? = some oi → ops[j]? = some oj →
        (∀ p ∈ us.getD i [], ∀ t, (t ∈ rdOf ops (got (fun j => us.getD j []) (at' s) (fun _ => true) j) oj ∨ t ∈ (us.getD j []).map (·.1)) → p.1 ≠ t) ∧
          (∀ p ∈ us.getD j [], p.1 ∉ rdOf ops (got (fun j => us.getD j []) (at' s) (fun _ => true) i) oi) ∨ Nat.testBit ((masks [] ops.toList).getD j 0) i = true := by
      intro i j oi oj hij hoi hoj
      have hj : j < ops.size := (Array.getElem?_eq_some_iff.1 hoj).1
      have ti := (e4 i oi (by simpa using hoi)).2
      have tj := (e4 j oj (by simpa using hoj)).2
      have hm : (masks [] ops.toList)[j]? = some ((masks [] ops.toList).getD j 0) := by
        have : j < (masks [] ops.toList).length := by omega
        simp [List.getD, this]
      have := okPairs_spec _ _ 0 hk2 i j _ _ _ _ _ hij ti tj hm
      rw [Nat.zero_add] at this
      refine this.imp (fun ⟨h1, h2⟩ => ⟨fun p hp t ht e => ?_, fun p hp hin => ?_⟩) (fun h => h)
      · have hb1 : (bitsOf ((us.getD i []).map (·.1))).testBit t = true := bitsOf_spec (List.mem_map.2 ⟨p, hp, e⟩)
        have hb2 : (bitsOf (rdOf ops (got (fun j => us.getD j []) (at' s) (fun _ => true) j) oj) ||| bitsOf ((us.getD j []).map (·.1))).testBit t = true := by
          rw [Nat.testBit_or]
          rcases ht with ht | ht
          · rw [bitsOf_spec ht]; rfl
          · rw [bitsOf_spec ht]; simp
        have : (bitsOf ((us.getD i []).map (·.1)) &&& (bitsOf (rdOf ops (got (fun j => us.getD j []) (at' s) (fun _ => true) j) oj) ||| bitsOf ((us.getD j []).map (·.1)))).testBit t = true := by
          rw [Nat.testBit_and, hb1, hb2]; rfl
        rw [show bitsOf ((us.getD i []).map (·.1)) &&& (bitsOf (rdOf ops (got (fun j => us.getD j []) (at' s) (fun _ => true) j) oj) ||| bitsOf ((us.getD j []).map (·.1))) = 0 from h1] at this
        simp at this
      · exact bits_disjoint h2 (List.mem_map.2 ⟨p, hp, rfl⟩) hin
    have hmk : ∀ j, j < ops.size → MaskOk ops j ((masks [] ops.toList).getD j 0) := fun j hj => hms j (by omega)
    refine wp_region_any hmix ?_
    have hR' : Rr E s.length B w0 ρ (at' s) a { w with drawn := w.drawn + 1 } := by
      refine ⟨hR.dfr, hR.siz, hR.out, ⟨hR.blw.os, hR.blw.tape, hR.blw.output, hR.blw.size, hR.blw.block⟩, fun t ty c e => ?_, hR.inj, hR.ref, fun t h1 h2 => (hR.rep t h1 h2).mono fun b hb => ⟨hb, rfl⟩, fun t ty c e => ?_, hR.vir⟩
      · obtain ⟨f1, f2, cs, f3, f4, f5⟩ := hR.own t ty c e
        exact ⟨f1, f2, cs, f3, f4, fun i hi => (f5 i hi).mono fun b hb => ⟨hb, rfl⟩⟩
      · obtain ⟨f1, cs, f3, f4, f5⟩ := hR.vow t ty c e
        exact ⟨f1, cs, f3, f4, fun i hi => (f5 i hi).mono fun b hb => ⟨hb, rfl⟩⟩
    refine wp_any_order (U := fun j => us.getD j []) (σ := at' s) hGL hΓ hG hB hst (fun j i => Nat.testBit ((masks [] ops.toList).getD j 0) i = true) hedge ?_ ?_ ?_ ?_ ?_ hQ' ops.size (Array.replicate ops.size false) ρ a _ (by simp) ?_ ?_ ?_
    · intro L hL j i hj ha hLj
      exact hmk j hj i ha L hL (fun o ho => hL j o ho hLj)
    · rintro i j hij hj ⟨p, hp, q, hq, e⟩
      rcases pair i j _ _ hij (Array.getElem?_eq_getElem (by omega)) (Array.getElem?_eq_getElem hj) with ⟨h, _⟩ | h
      · exact absurd e (h p hp q.1 (.inr (List.mem_map.2 ⟨q, hq, rfl⟩)))
      · exact h
    · rintro i j o hij ho ⟨p, hp, hin⟩
      have hj : j < ops.size := (Array.getElem?_eq_some_iff.1 ho).1
      rcases pair i j _ _ hij (Array.getElem?_eq_getElem (by omega)) ho with ⟨h, _⟩ | h
      · exact absurd rfl (h p hp p.1 (.inl hin))
      · exact h
    · rintro i j o hij hj ho ⟨p, hp, hin⟩
      rcases pair i j _ _ hij ho (Array.getElem?_eq_getElem hj) with ⟨_, h⟩ | h
      · exact absurd hin (h p hp)
      · exact h
    · intro i hi L hd hL j ha
      exact hmk i hi j ha L hL hd
    · simp [List.countP_replicate]
    · intro i o ho h
      have hi : i < ops.size := (Array.getElem?_eq_some_iff.1 ho).1
      simp [hi] at h
    · have e : ∀ m, got (fun j => us.getD j []) (at' s) (fun i => (Array.replicate ops.size false).getD i false) m = at' s := by
        intro m
        induction m with
        | zero => rfl
        | succ m ih =>
          funext t
          have : (Array.replicate ops.size false).getD m false = false := by
            by_cases h : m < ops.size <;> simp [h]
          simp only [got, this, Bool.false_eq_true, if_false]
          exact congrFun ih t
      rw [e]
      exact hR'
end
end Go.Ev

/- The evaluator of code, and the contract of a function that it evaluates. -/
namespace Go.Ev
open Go.RowKit

inductive Ex where
  | norm
  | exit (id : Nat)
  | ret

abbrev Kont := Ex → List AV → Option AV
def evL (F : List AV → List AV) (body : List AV → Kont → Option AV) : Nat → List AV → Kont → Option AV
  | 0, _, _ => none
  | n + 1, s, K => body s fun e s' => match e with
    | .norm => evL F body n (F s') K
    | .exit id => K (.exit id) s'
    | .ret => K .ret s'
def maskL : List Bool → List AV → List AV
  | true :: k, x :: s => x :: maskL k s
  | false :: k, _ :: s => .non :: maskL k s
  | [], s => s.map fun _ => .non
  | _, [] => []
def fixRef (s : List AV) : AV → AV
  | .ref g k => (match isOwn (at' s g) with | true => .ref g k | false => .non)
  | x => x
def fixRefs (s : List AV) : List AV → List AV
  | [] => []
  | x :: l => fixRef s x :: fixRefs s l
/-- What is kept at a loop's head: the slots of the boxes that came in by pointer stay. -/
def maskN (n : Nat) (keep : List Bool) (s : List AV) : List AV := maskL keep (s.take n) ++ s.drop n
def forget (n : Nat) (keep : List Bool) (s : List AV) : List AV := fixRefs (maskN n keep s) (maskN n keep s)

/-- The frame's begin: a box that came in by pointer becomes a slot behind the temporaries. -/
def inits (n : Nat) : Nat → List AV → List AV
  | _, [] => []
  | j, .own _ _ :: l => .ref (n + j) 0 :: inits n (j + 1) l
  | j, x :: l => x :: inits n j l
def virts : List AV → List AV
  | [] => []
  | .own t c :: l => .vown t c :: virts l
  | _ :: l => virts l
def owns : Nat → List AV → List Nat
  | _, [] => []
  | i, .own _ _ :: l => i :: owns (i + 1) l
  | i, _ :: l => owns (i + 1) l
/-- What the boxes hold at the end. -/
def outsOf (s : List AV) (n : Nat) : Nat → List AV → Option (List AV)
  | _, [] => some []
  | j, .own ty _ :: l => match at' s (n + j) with
    | .vown ty' c => match Nat.beq ty ty', outsOf s n (j + 1) l with
      | true, some os => some (.agg c :: os)
      | _, _ => none
    | _ => none
  | j, _ :: l => match outsOf s n j l with
    | some os => some (.non :: os)
    | none => none

def lit (s : List AV) (c : Operand) (b : Bool) : List AV := match c with
  | .tmp t => s.set t (.val (.bool b))
  | _ => s

section
variable (P : Program) (GL : Nat → AV) (Γ : List (Nat × Ctr)) (n k : Nat) (keep : List Bool) (cuts : List (Nat × List Bool))

/-- A region, its operations one behind the other. -/
def evRg (ops : Array Oper) (draw : Bool) (s : List AV) (K : Kont) : Option AV := cpsOps P GL Γ ops draw ops.toList s [] fun s' tr => match draw with
  | true => (match okOrder ops tr.reverse with
    | true => K .norm s'
    | false => none)
  | false => K .norm s'
def cutAt : List (Nat × List Bool) → Nat → Option (List Bool)
  | [], _ => none
  | (i, kp) :: l, id => match Nat.beq i id with
    | true => some kp
    | false => cutAt l id
def evC : Code → List AV → Kont → Option AV
  | .skip, s, K => K .norm s
  | .region id ops draw, s, K => match cutAt cuts id with
    | some kp => evRg P GL Γ ops draw (forget n kp s) K
    | none => evRg P GL Γ ops draw s K
  | .seq x y, s, K => evC x s fun e s' => match e with
    | .norm => evC y s' K
    | .exit id => K (.exit id) s'
    | .ret => K .ret s'
  | .cond c x y, s, K => match evA GL (at' s) c with
    | .val (.bool b) => cond b (evC x (lit s c true) K) (evC y (lit s c false) K)
    | _ => none
  | .block id c, s, K => evC c s fun e s' => match e with
    | .norm => K .norm s'
    | .exit i => (match Nat.beq i id with
      | true => K .norm s'
      | false => K (.exit i) s')
    | .ret => K .ret s'
  | .loop c, s, K => evL (forget n keep) (evC c) k (forget n keep s) K
  | .exit id, s, K => K (.exit id) s
  | .ret, s, K => K .ret s
  | _, _, _ => none

def evRes1 (s : List AV) : ResultVar → Option AV
  | .tmp t => match at' s t with
    | .own _ _ => none
    | .vown _ _ => none
    | .ref _ _ => none
    | x => some x
  | .cell t ty => match evA GL (at' s) (.tmp t) with
    | .ref g k => match at' s g with
      | .own _ c => ldAV P ty (c.drop k)
      | _ => none
    | _ => none
def evResL (s : List AV) : List ResultVar → Option (List AV)
  | [] => some []
  | r :: l => match evRes1 P GL s r with
    | some x => match evResL s l with
      | some xs => some (x :: xs)
      | none => none
    | none => none
def evRes0 (s : List AV) (l : List ResultVar) : Option AV := match evResL P GL s l with
  | some [x] => some x
  | some xs => some (.tup xs)
  | none => none
def ownAt (s : List AV) : List ResultVar → Option AV
  | [.tmp t] => match at' s t with
    | .own ty c => some (.own ty c)
    | .ref g k => match Nat.beq k 0, at' s g with
      | true, .own ty c => some (.own ty c)
      | _, _ => none
    | _ => none
  | _ => none
def evRes (s : List AV) (l : List ResultVar) : Option AV := match ownAt s l with
  | some x => some x
  | none => evRes0 P GL s l
/-- The end: the result, and what the boxes hold that came in by pointer. -/
def evFin (res : List ResultVar) (args s : List AV) : Option AV := match evRes P GL s res with
  | some x => match virts args with
    | [] => some x
    | _ => match outsOf s n 0 args with
      | some os => some (.out x os)
      | none => none
  | none => none

def evF (res : List ResultVar) (c : Code) (args : List AV) : Option AV :=
  evC P GL Γ n k keep cuts c (inits n 0 args ++ List.replicate (n - args.length) .non ++ virts args) fun e s => match e with
    | .norm => evFin P GL n res args s
    | .ret => evFin P GL n res args s
    | .exit _ => none
end

section
variable {P : Program} {GL : Nat → AV} {Γ : List (Nat × Ctr)} {E : Ext} {k : Nat} {keep : List Bool} {cuts : List (Nat × List Bool)} {B : Nat → Prop} {w0 : World} {N : Nat}

theorem maskL_length : ∀ (keep : List Bool) (s : List AV), (maskL keep s).length = s.length
  | true :: k, x :: s => by simp [maskL, maskL_length k s]
  | false :: k, x :: s => by simp [maskL, maskL_length k s]
  | [], s => by simp [maskL]
  | true :: k, [] => rfl
  | false :: k, [] => rfl
theorem maskL_at : ∀ (keep : List Bool) (s : List AV) (t : Nat), at' (maskL keep s) t = at' s t ∨ at' (maskL keep s) t = .non
  | true :: k, x :: s, 0 => .inl rfl
  | true :: k, x :: s, t + 1 => by simpa [maskL, at'] using maskL_at k s t
  | false :: k, x :: s, 0 => .inr rfl
  | false :: k, x :: s, t + 1 => by simpa [maskL, at'] using maskL_at k s t
  | [], s, t => by
    refine .inr ?_
    by_cases h : t < s.length <;> simp [maskL, at', List.getD, h]
  | true :: k, [], t => .inl rfl
  | false :: k, [], t => .inl rfl
theorem fixRefs_length (s : List AV) : ∀ l, (fixRefs s l).length = l.length
  | [] => rfl
  | x :: l => by simp [fixRefs, fixRefs_length s l]
theorem fixRefs_at (s : List AV) : ∀ (l : List AV) (t : Nat), (at' (fixRefs s l) t = at' l t ∧ ∀ g k, at' l t = .ref g k → isOwn (at' s g) = true) ∨ (at' (fixRefs s l) t = .non ∧ isOwn (at' l t) = false)
  | [], t => .inl ⟨rfl, fun g k h => by simp [at'] at h⟩
  | x :: l, 0 => by
    have e1 : at' (x :: l) 0 = x := rfl
    have e2 : at' (fixRefs s (x :: l)) 0 = fixRef s x := rfl
    rw [e1, e2]
    cases x with
    | ref g k =>
      simp only [fixRef]
      cases h : isOwn (at' s g) with
      | true => exact .inl ⟨rfl, fun g' k' e => by cases e; exact h⟩
      | false => exact .inr ⟨rfl, rfl⟩
    | _ => exact .inl ⟨rfl, fun g' k' e => by cases e⟩
  | x :: l, t + 1 => by simpa [fixRefs, at'] using fixRefs_at s l t
theorem maskN_length {n : Nat} (s : List AV) : (maskN n keep s).length = s.length := by simp [maskN, maskL_length]; omega
theorem forget_length {n : Nat} (s : List AV) : (forget n keep s).length = s.length := by rw [forget, fixRefs_length, maskN_length]
theorem maskN_at {n : Nat} (s : List AV) (t : Nat) : (at' (maskN n keep s) t = at' s t ∨ at' (maskN n keep s) t = .non) ∧ (n ≤ t → at' (maskN n keep s) t = at' s t) := by
  have hl : (maskL keep (s.take n)).length = min n s.length := by simp [maskL_length]
  have h2 : min n s.length ≤ t → n ≤ t → at' (maskN n keep s) t = at' s t := fun h h' => by
    simp only [maskN, at', List.getD]
    rw [List.getElem?_append_right (by omega), List.getElem?_drop, hl]
    by_cases hs : n ≤ s.length
    · rw [show n + (t - min n s.length) = t by omega]
    · rw [List.getElem?_eq_none (by omega), List.getElem?_eq_none (by omega)]
  refine ⟨?_, fun h => h2 (by omega) h⟩
  by_cases h : t < n
  · by_cases h' : t < s.length
    · have e1 : at' (maskN n keep s) t = at' (maskL keep (s.take n)) t := by
        simp only [maskN, at', List.getD]
        rw [List.getElem?_append_left (by omega)]
      have e2 : at' (s.take n) t = at' s t := by simp [at', List.getD, List.getElem?_take, h]
      rw [e1, ← e2]
      exact maskL_at keep (s.take n) t
    · refine .inr ?_
      rw [at_out]
      rw [maskN_length]; omega
  · exact .inl (h2 (by omega) (by omega))

/-- To know less is to know. -/
theorem Rr.less {ρ : Nat → Nat} {σ σ' : Nat → AV} {a : Act} {w : World} (hR : Rr E N B w0 ρ σ a w) (h : ∀ t, σ' t = σ t ∨ σ' t = .non) (hr : ∀ t g k, σ' t = .ref g k → isOwn (σ' g) = true)
    (hv : ∀ t, E.n ≤ t → t < N → σ' t = σ t) : Rr E N B w0 ρ σ' a w := by
  have ow : ∀ t, isOwn (σ' t) = true → isOwn (σ t) = true := fun t ht => by
    rcases h t with e | e
    · rw [← e]; exact ht
    · rw [e] at ht; cases ht
  have step : ∀ y u, Rep w (NB B w0.heap.size σ ρ w) y u → Rep w (NB B w0.heap.size σ' ρ w) y u := fun y u hy => hy.mono fun b ⟨h1, h2, h3⟩ => ⟨⟨h1, h2, fun t ht => h3 t (ow t ht)⟩, rfl⟩
  refine ⟨hR.dfr, hR.siz, fun t ht => ?_, hR.blw, fun t ty c e => ?_, fun t t' h1 h2 => hR.inj t t' (ow t h1) (ow t' h2), fun t g k e => ?_, fun t h1 h2 => ?_, fun t ty c e => ?_, fun t h1 h2 => by rw [hv t h1 h2]; exact hR.vir t h1 h2⟩
  · rcases h t with e | e
    · rw [e]; exact hR.out t ht
    · exact e
  · rcases h t with e' | e'
    · rw [e] at e'
      obtain ⟨f1, f2, cs, f3, f4, f5⟩ := hR.own t ty c e'.symm
      exact ⟨f1, f2, cs, f3, f4, fun i hi => step _ _ (f5 i hi)⟩
    · rw [e] at e'; cases e'
  · rcases h t with e' | e'
    · rw [e] at e'
      exact ⟨(hR.ref t g k e'.symm).1, hr t g k e⟩
    · rw [e] at e'; cases e'
  · rcases h t with e' | e'
    · rw [e'] at h1 h2 ⊢
      exact step _ _ (hR.rep t h1 h2)
    · rw [e']; exact .non _
  · rcases h t with e' | e'
    · rw [e] at e'
      obtain ⟨f1, cs, f3, f4, f5⟩ := hR.vow t ty c e'.symm
      exact ⟨f1, cs, f3, f4, fun i hi => step _ _ (f5 i hi)⟩
    · rw [e] at e'; cases e'

theorem Rr.forget {ρ : Nat → Nat} {s : List AV} {a : Act} {w : World} (hR : Rr E N B w0 ρ (at' s) a w) : Rr E N B w0 ρ (at' (forget E.n keep s)) a w := by
  refine hR.less (fun t => ?_) (fun t g k e => ?_) (fun t h1 h2 => ?_)
  · unfold Ev.forget
    rcases fixRefs_at (maskN E.n keep s) (maskN E.n keep s) t with ⟨e, _⟩ | ⟨e, _⟩
    · rw [e]; exact (maskN_at s t).1
    · exact .inr e
  · unfold Ev.forget at e ⊢
    rcases fixRefs_at (maskN E.n keep s) (maskN E.n keep s) t with ⟨e', h⟩ | ⟨e', _⟩
    · rw [e'] at e
      have hg := h g k e
      rcases fixRefs_at (maskN E.n keep s) (maskN E.n keep s) g with ⟨e2, _⟩ | ⟨_, e2⟩
      · rw [e2]; exact hg
      · rw [hg] at e2; cases e2
    · rw [e'] at e; cases e
  · unfold Ev.forget
    have hm := (maskN_at (keep := keep) s t).2 h1
    rcases fixRefs_at (maskN E.n keep s) (maskN E.n keep s) t with ⟨e, _⟩ | ⟨_, e⟩
    · rw [e, hm]
    · rw [hm, (hR.vir t h1 h2).1] at e; cases e

theorem lit_eq {σ : List AV} {c : Operand} {b : Bool} (h : evA GL (at' σ) c = .val (.bool b)) : lit σ c b = σ := by
  cases c with
  | tmp t =>
    have : at' σ t = .val (.bool b) := by
      revert h
      simp only [evA]
      split
      · intro h; cases h
      · intro h; cases h
      · exact id
    exact set_self this
  | _ => rfl

theorem evC_sound (hmix : P.follows .mixedOrders = true) (hGL : ∀ g' g k, GL g' ≠ .ref g k) (hΓ : Sound P GL Γ) (hG : ∀ g, Rep w0 B (GL g) (.pointer (some ⟨g, 0, none⟩))) (hB : ∀ b, B b → b < w0.heap.size ∧ ¬ E.X b) {x : AV} :
    ∀ (c : Code) (s : List AV) (K : Kont), evC P GL Γ E.n k keep cuts c s K = some x → ∀ (Q : Exit → Act → World → Prop), s.length = N →
      (∀ s' ρ' a' w', K .norm s' = some x → s'.length = N → Rr E N B w0 ρ' (at' s') a' w' → Q .normal a' w') →
      (∀ id s' ρ' a' w', K (.exit id) s' = some x → s'.length = N → Rr E N B w0 ρ' (at' s') a' w' → Q (.exit id) a' w') →
      (∀ s' ρ' a' w', K .ret s' = some x → s'.length = N → Rr E N B w0 ρ' (at' s') a' w' → Q .ret a' w') →
      ∀ ρ a w, Rr E N B w0 ρ (at' s) a w → c.wp P Q a w := by
  intro c
  induction c with
  | skip => intro s K h Q hN h1 _ _ ρ a w hR; exact wp_skip (h1 _ _ _ _ h hN hR)
  | region id ops draw =>
    intro s K h Q hN h1 _ _ ρ a w hR
    have key : ∀ s, s.length = N → Rr E N B w0 ρ (at' s) a w → evRg P GL Γ ops draw s K = some x → (Code.region id ops draw).wp P Q a w := by
      intro s hN hR h
      unfold evRg at h
      obtain ⟨s', tr, hrun, hK⟩ := cpsOps_run _ _ _ _ h
      subst hN
      have hl : s'.length = s.length := by obtain ⟨_, e, _⟩ := runOps_steps _ _ _ _ hrun; exact e
      cases draw with
      | false => exact region_sound hmix hGL hΓ hG hB hrun (fun h => by cases h) hR fun ρ' a' w' hR' => h1 _ _ _ _ hK hl hR'
      | true =>
        simp only [joinTr, List.append_nil, List.reverse_reverse] at hK
        split at hK
        · rename_i hok
          exact region_sound hmix hGL hΓ hG hB hrun (fun _ => hok) hR fun ρ' a' w' hR' => h1 _ _ _ _ hK hl hR'
        · cases hK
    unfold evC at h
    split at h
    · exact key _ (by rw [forget_length]; exact hN) hR.forget h
    · exact key s hN hR h
  | seq c d ihc ihd =>
    intro s K h Q hN h1 h2 h3 ρ a w hR
    unfold evC at h
    refine wp_seq (ihc s _ h _ hN ?_ ?_ ?_ ρ a w hR)
    · intro s' ρ' a' w' hk hl hR'
      exact ihd s' K hk Q hl h1 h2 h3 ρ' a' w' hR'
    · intro id s' ρ' a' w' hk hl hR'
      exact h2 id s' ρ' a' w' hk hl hR'
    · intro s' ρ' a' w' hk hl hR'
      exact h3 s' ρ' a' w' hk hl hR'
  | cond c t e iht ihe =>
    intro s K h Q hN h1 h2 h3 ρ a w hR
    unfold evC at h
    split at h
    · rename_i b hb
      have hv : a.eval c = .bool b := toV_eval hR hG hB (by rw [hb]; rfl)
      have hl := lit_eq hb
      cases b with
      | true =>
        simp only [cond_true, hl] at h
        exact wp_cond_true hv (iht s K h Q hN h1 h2 h3 ρ a w hR)
      | false =>
        simp only [cond_false, hl] at h
        exact wp_cond_false hv (ihe s K h Q hN h1 h2 h3 ρ a w hR)
    · cases h
  | block id c ih =>
    intro s K h Q hN h1 h2 h3 ρ a w hR
    unfold evC at h
    refine wp_block (ih s _ h _ hN ?_ ?_ ?_ ρ a w hR)
    · intro s' ρ' a' w' hk hl hR'
      exact h1 s' ρ' a' w' hk hl hR'
    · intro i s' ρ' a' w' hk hl hR'
      simp only at hk
      show if i = id then Q .normal a' w' else Q (.exit i) a' w'
      split at hk
      · rename_i hi
        rw [if_pos (Nat.eq_of_beq_eq_true hi)]
        exact h1 s' ρ' a' w' hk hl hR'
      · rename_i hi
        rw [if_neg (Nat.ne_of_beq_eq_false hi)]
        exact h2 i s' ρ' a' w' hk hl hR'
    · intro s' ρ' a' w' hk hl hR'
      exact h3 s' ρ' a' w' hk hl hR'
  | loop c ih =>
    intro s K h Q hN h1 h2 h3 ρ a w hR
    unfold evC at h
    let G : Nat → Act → World → Prop := fun m a w => ∃ s ρ, evL (forget E.n keep) (evC P GL Γ E.n k keep cuts c) m s K = some x ∧ s.length = N ∧ Rr E N B w0 ρ (at' s) a w
    have hμ : ∃ μ : Act → World → Nat, ∀ a w m, G m a w → G (μ a w) a w ∧ μ a w ≤ m := by
      have : ∀ a w, ∃ n, ∀ m, G m a w → G n a w ∧ n ≤ m := by
        intro a w
        by_cases hex : ∃ m, G m a w
        · obtain ⟨m, hm⟩ := hex
          induction m using Nat.strongRecOn with
          | _ m ihm =>
            by_cases hlt : ∃ m', m' < m ∧ G m' a w
            · obtain ⟨m', h', hg⟩ := hlt
              exact ihm m' h' hg
            · exact ⟨m, fun m' hm' => ⟨hm, Nat.le_of_not_lt fun hh => hlt ⟨m', hh, hm'⟩⟩⟩
        · exact ⟨0, fun m hm => absurd ⟨m, hm⟩ hex⟩
      exact ⟨fun a w => Classical.choose (this a w), fun a w => Classical.choose_spec (this a w)⟩
    obtain ⟨μ, hμ⟩ := hμ
    refine wp_loop (fun a w => ∃ m, G m a w) μ ⟨k, _, ρ, h, by rw [forget_length]; exact hN, hR.forget⟩ fun a w hI => ?_
    obtain ⟨m, hm⟩ := hI
    obtain ⟨⟨s1, ρ1, e1, e2, e3⟩, hle⟩ := hμ a w m hm
    cases hμ0 : μ a w with
    | zero => rw [hμ0] at e1; cases e1
    | succ n =>
      rw [hμ0] at e1
      unfold evL at e1
      refine ih s1 _ e1 _ e2 ?_ ?_ ?_ ρ1 a w e3
      · intro s' ρ' a' w' hk hl hR'
        have hg : G n a' w' := ⟨_, ρ', hk, by rw [forget_length]; exact hl, hR'.forget⟩
        refine ⟨⟨n, hg⟩, ?_⟩
        have := (hμ a' w' n hg).2
        omega
      · intro id s' ρ' a' w' hk hl hR'
        exact h2 id s' ρ' a' w' hk hl hR'
      · intro s' ρ' a' w' hk hl hR'
        exact h3 s' ρ' a' w' hk hl hR'
  | exit id => intro s K h Q hN _ h2 _ ρ a w hR; exact wp_exit (h2 _ _ _ _ _ h hN hR)
  | ret => intro s K h Q hN _ _ h3 ρ a w hR; exact wp_ret (h3 _ _ _ _ h hN hR)
  | _ => intro s K h; simp [evC] at h

def resOne (tmps : Array Value) : ResultVar → Sem Value
  | .tmp t => pure (tmps.getD t undef)
  | .cell b t => do loadVar t (← asAddr (tmps.getD b undef))

theorem evRes1_spec {ρ : Nat → Nat} {s : List AV} {a : Act} {w : World} (hR : Rr E N B w0 ρ (at' s) a w) (hG : ∀ g, Rep w0 B (GL g) (.pointer (some ⟨g, 0, none⟩))) (hB : ∀ b, B b → b < w0.heap.size ∧ ¬ E.X b)
    {r : ResultVar} {x : AV} (h : evRes1 P GL s r = some x) :
    ∃ v, (resOne a.tmps r).run P w = .ok v w ∧ Rep w (NB B w0.heap.size (at' s) ρ w) x v := by
  cases r with
  | tmp t =>
    refine ⟨a.tmps.getD t undef, rfl, ?_⟩
    simp only [evRes1] at h
    have hx : at' s t = x ∧ isOwn (at' s t) = false ∧ isRef (at' s t) = false := by
      cases e : at' s t <;> rw [e] at h <;> simp_all [isOwn, isRef]
    have := hR.rep t hx.2.1 hx.2.2
    rw [hx.1] at this
    exact this
  | cell t ty =>
    simp only [evRes1] at h
    split at h
    · rename_i g k' e
      obtain ⟨e1, e2⟩ := evA_ref hR hG hB e
      split at h
      · rename_i t0 c hc
        obtain ⟨ff, h1, h2⟩ := own_cells (c := c) hR (by rw [hc]; rfl)
        obtain ⟨v, hv, hr⟩ := ldAV_run (w := w) (b := ρ g) (k := k') h (fun j => ff (k' + j)) (fun j hj => h1 _ (by simp at hj; omega)) (fun j hj => by rw [getD_drop']; exact h2 _ (by simp at hj; omega))
        refine ⟨v, ?_, hr⟩
        have e1' : a.tmps.getD t undef = .pointer (some ⟨ρ g, k', none⟩) := e1
        simp only [resOne, e1', asAddr, Sem.run_bind, Sem.run_pure, Result.andThen_ok, hv]
      · cases h
    · cases h

theorem evRes0_spec {ρ : Nat → Nat} {s : List AV} {a : Act} {w : World} (hR : Rr E N B w0 ρ (at' s) a w) (hG : ∀ g, Rep w0 B (GL g) (.pointer (some ⟨g, 0, none⟩))) (hB : ∀ b, B b → b < w0.heap.size ∧ ¬ E.X b)
    {fn : Func} {x : AV} (h : evRes0 P GL s fn.results.toList = some x) : ∃ v, (results fn a.tmps).run P w = .ok v w ∧ Rep w (NB B w0.heap.size (at' s) ρ w) x v := by
  have key : ∀ (l : List ResultVar) (xs : List AV), evResL P GL s l = some xs → ∃ vs : List Value,
      (l.mapM (resOne a.tmps)).run P w = .ok vs w ∧
      xs.length = vs.length ∧ ∀ i, i < xs.length → Rep w (NB B w0.heap.size (at' s) ρ w) (xs.getD i .non) (vs.getD i undef) := by
    intro l
    induction l with
    | nil =>
      intro xs h
      simp only [evResL, Option.some.injEq] at h
      subst h
      exact ⟨[], rfl, rfl, fun i hi => by simp at hi⟩
    | cons r l ih =>
      intro xs h
      unfold evResL at h
      split at h
      · rename_i y hy
        split at h
        · rename_i ys hys
          cases h
          obtain ⟨v, hv, hr⟩ := evRes1_spec hR hG hB hy
          obtain ⟨vs, hvs, hl, hrs⟩ := ih ys hys
          refine ⟨v :: vs, ?_, by simp [hl], fun i hi => ?_⟩
          · rw [List.mapM_cons]
            simp only [Sem.run_bind, hv, Result.andThen_ok, hvs, Sem.run_pure]
          · cases i with
            | zero => exact hr
            | succ i => exact hrs i (by simpa using hi)
        · cases h
      · cases h
  unfold evRes0 at h
  have hm : ∀ (xs : List AV), evResL P GL s fn.results.toList = some xs → ∃ vs : List Value, (results fn a.tmps).run P w = .ok (if h : (⟨vs⟩ : Array Value).size = 1 then (⟨vs⟩ : Array Value)[0] else .tuple ⟨vs⟩) w ∧
      xs.length = vs.length ∧ ∀ i, i < xs.length → Rep w (NB B w0.heap.size (at' s) ρ w) (xs.getD i .non) (vs.getD i undef) := by
    intro xs hxs
    obtain ⟨vs, hvs, hl, hr⟩ := key _ xs hxs
    refine ⟨vs, ?_, hl, hr⟩
    have e : results fn a.tmps = (do let vs ← fn.results.mapM (resOne a.tmps); pure (if h : vs.size = 1 then vs[0] else .tuple vs)) := by
      unfold results
      congr 1
    rw [e, Array.mapM_eq_mapM_toList]
    simp only [Sem.run_bind, Sem.run_map, hvs, Result.andThen_ok, Sem.run_pure]
  split at h
  · rename_i y hy
    cases h
    obtain ⟨vs, hvs, hl, hr⟩ := hm _ hy
    match vs, hl with
    | [v], _ =>
      refine ⟨v, ?_, hr 0 (by simp)⟩
      simpa using hvs
  · rename_i xs hne hxs
    cases h
    obtain ⟨vs, hvs, hl, hr⟩ := hm _ hxs
    refine ⟨.tuple ⟨vs⟩, ?_, .tup _ _ hl hr⟩
    have : ¬ (⟨vs⟩ : Array Value).size = 1 := by
      intro h1
      have h1' : xs.length = 1 := by rw [hl]; simpa using h1
      match xs, h1' with
      | [y], _ => exact hne y rfl
    rw [hvs, dif_neg this]
  · cases h

theorem evRes_spec {ρ : Nat → Nat} {s : List AV} {a : Act} {w : World} (hR : Rr E N B w0 ρ (at' s) a w) (hG : ∀ g, Rep w0 B (GL g) (.pointer (some ⟨g, 0, none⟩))) (hB : ∀ b, B b → b < w0.heap.size ∧ ¬ E.X b)
    {fn : Func} {x : AV} (h : evRes P GL s fn.results.toList = some x) : splitOut x = (x, []) ∧ ∃ v, (results fn a.tmps).run P w = .ok v w ∧ ResOk w0 w (NB B w0.heap.size (at' s) ρ w) x v := by
  unfold evRes at h
  split at h
  · rename_i y hy
    cases h
    unfold ownAt at hy
    split at hy
    · rename_i t hres
      split at hy
      · rename_i ty c e
        cases hy
        obtain ⟨f1, f2, f3⟩ := hR.own t ty c e
        refine ⟨rfl, .pointer (some ⟨ρ t, 0, none⟩), ?_, ρ t, rfl, f2, fun hb => hb.2.2 t (by rw [e]; rfl) rfl, f3⟩
        have e1 : a.tmps.getD t undef = .pointer (some ⟨ρ t, 0, none⟩) := f1
        have e2 : fn.results = #[.tmp t] := by apply Array.ext'; simpa using hres
        simp [results, e2, ← e1]
      · rename_i g k e
        split at hy
        · rename_i ty c hk eg
          cases hy
          have hk : k = 0 := Nat.eq_of_beq_eq_true hk
          subst hk
          obtain ⟨f1, f2, f3⟩ := hR.own g ty c eg
          have f0 := (hR.ref t g 0 e).1
          refine ⟨rfl, .pointer (some ⟨ρ g, 0, none⟩), ?_, ρ g, rfl, f2, fun hb => hb.2.2 g (by rw [eg]; rfl) rfl, f3⟩
          have e1 : a.tmps.getD t undef = .pointer (some ⟨ρ g, 0, none⟩) := f0
          have e2 : fn.results = #[.tmp t] := by apply Array.ext'; simpa using hres
          simp [results, e2, ← e1]
        · cases hy
      · cases hy
    · cases hy
  · obtain ⟨v, hv, hr⟩ := evRes0_spec hR hG hB h
    refine ⟨by cases hr <;> rfl, v, hv, ?_⟩
    cases hr <;> constructor <;> assumption

theorem inits_at (n : Nat) : ∀ (args : List AV) (j i : Nat),
    (∃ ty c m, args.getD i .non = .own ty c ∧ (inits n j args).getD i .non = .ref (n + (j + m)) 0 ∧ m < (virts args).length ∧ ∀ k, (owns k args).getD m 0 = k + i) ∨
    ((∀ ty c, args.getD i .non ≠ .own ty c) ∧ (inits n j args).getD i .non = args.getD i .non)
  | [], j, i => .inr ⟨fun ty c h => (by simp at h), rfl⟩
  | x :: l, j, 0 => by
    cases x with
    | own ty c => exact .inl ⟨ty, c, 0, rfl, rfl, by simp [virts], fun k => rfl⟩
    | _ => exact .inr ⟨fun ty c h => (by cases h), rfl⟩
  | x :: l, j, i + 1 => by
    cases x with
    | own ty c =>
      rcases inits_at n l (j + 1) i with ⟨ty, c, m, h1, h2, h3, h4⟩ | ⟨h1, h2⟩
      · refine .inl ⟨ty, c, m + 1, by simpa using h1, ?_, by simp [virts]; omega, fun k => ?_⟩
        · rw [show j + (m + 1) = j + 1 + m by omega]; simpa [inits] using h2
        · rw [show k + (i + 1) = k + 1 + i by omega]; simpa [owns] using h4 (k + 1)
      · exact .inr ⟨fun ty c => by simpa using h1 ty c, by simpa [inits] using h2⟩
    | _ =>
      rcases inits_at n l j i with ⟨ty, c, m, h1, h2, h3, h4⟩ | ⟨h1, h2⟩
      · refine .inl ⟨ty, c, m, by simpa using h1, by simpa [inits] using h2, by simpa [virts] using h3, fun k => ?_⟩
        rw [show k + (i + 1) = k + 1 + i by omega]; simpa [owns] using h4 (k + 1)
      · exact .inr ⟨fun ty c => by simpa using h1 ty c, by simpa [inits] using h2⟩
theorem inits_length (n : Nat) : ∀ (args : List AV) (j : Nat), (inits n j args).length = args.length
  | [], j => rfl
  | x :: l, j => by cases x <;> simp [inits, inits_length n l]
theorem inits_own (n : Nat) (args : List AV) (j i : Nat) (ha : ∀ i ty c, args.getD i .non ≠ .vown ty c) : isOwn ((inits n j args).getD i .non) = false := by
  rcases inits_at n args j i with ⟨ty, c, m, h1, h2, h3, h4⟩ | ⟨h1, h2⟩
  · rw [h2]; rfl
  · rw [h2]
    cases h : args.getD i .non with
    | own ty c => exact absurd h (h1 ty c)
    | vown ty c => exact absurd h (ha i ty c)
    | _ => rfl
theorem virts_at : ∀ (args : List AV) (m : Nat), m < (virts args).length →
    ∃ i ty c, i < args.length ∧ args.getD i .non = .own ty c ∧ (virts args).getD m .non = .vown ty c ∧ ∀ k, (owns k args).getD m 0 = k + i
  | [], m, h => by simp [virts] at h
  | x :: l, m, h => by
    have go : ∀ m', m' < (virts l).length → (virts (x :: l)).getD m .non = (virts l).getD m' .non → (∀ k, (owns k (x :: l)).getD m 0 = (owns (k + 1) l).getD m' 0) →
        ∃ i ty c, i < (x :: l).length ∧ (x :: l).getD i .non = .own ty c ∧ (virts (x :: l)).getD m .non = .vown ty c ∧ ∀ k, (owns k (x :: l)).getD m 0 = k + i := fun m' h' e1 e2 => by
      obtain ⟨i, ty, c, g1, g2, g3, g4⟩ := virts_at l m' h'
      exact ⟨i + 1, ty, c, by simpa using g1, by simpa using g2, by rw [e1]; exact g3, fun k => by rw [e2, g4]; omega⟩
    cases x with
    | own ty c =>
      cases m with
      | zero => exact ⟨0, ty, c, by simp, rfl, rfl, fun k => rfl⟩
      | succ m => exact go m (by simpa [virts] using h) (by simp [virts]) (fun k => by simp [owns])
    | _ => exact go m (by simpa [virts] using h) (by simp [virts]) (fun k => by simp [owns])
theorem owns_ge : ∀ (args : List AV) (k m : Nat), m < (virts args).length → k ≤ (owns k args).getD m 0
  | args, k, m, h => by
    obtain ⟨i, _, _, _, _, _, h4⟩ := virts_at args m h
    rw [h4]; omega
theorem owns_inj : ∀ (args : List AV) (k m m' : Nat), m < (virts args).length → m' < (virts args).length → (owns k args).getD m 0 = (owns k args).getD m' 0 → m = m'
  | [], k, m, m', h, _, _ => by simp [virts] at h
  | x :: l, k, m, m', h, h', e => by
    cases x with
    | own ty c =>
      simp only [virts, List.length_cons] at h h'
      cases m with
      | zero =>
        cases m' with
        | zero => rfl
        | succ m' =>
          exfalso
          simp only [owns, List.getD_cons_zero, List.getD_cons_succ] at e
          have := owns_ge l (k + 1) m' (by omega)
          omega
      | succ m =>
        cases m' with
        | zero =>
          exfalso
          simp only [owns, List.getD_cons_zero, List.getD_cons_succ] at e
          have := owns_ge l (k + 1) m (by omega)
          omega
        | succ m' =>
          simp only [owns, List.getD_cons_succ] at e
          rw [owns_inj l (k + 1) m m' (by omega) (by omega) e]
    | _ => exact owns_inj l (k + 1) m m' (by simpa [virts] using h) (by simpa [virts] using h') (by simpa [owns] using e)
theorem outsOf_at {s : List AV} {n : Nat} : ∀ (args : List AV) (j : Nat) (os : List AV), outsOf s n j args = some os → ∀ i ty c, args.getD i .non = .own ty c →
    ∃ m c', m < (virts args).length ∧ at' s (n + (j + m)) = .vown ty c' ∧ os.getD i .non = .agg c' ∧ ∀ k, (owns k args).getD m 0 = k + i
  | [], j, os, h, i, ty, c, hi => by simp at hi
  | x :: l, j, os, h, i, ty, c, hi => by
    by_cases hx : ∃ t0 c0, x = .own t0 c0
    · obtain ⟨t0, c0, rfl⟩ := hx
      unfold outsOf at h
      split at h
      · rename_i ty' c' hs
        split at h
        · rename_i os' hb ho
          cases h
          cases i with
          | zero =>
            have hi : AV.own t0 c0 = .own ty c := by simpa using hi
            cases hi
            have := Nat.eq_of_beq_eq_true hb
            subst this
            exact ⟨0, c', by simp [virts], hs, rfl, fun k => rfl⟩
          | succ i =>
            obtain ⟨m, c2, g1, g2, g3, g4⟩ := outsOf_at l (j + 1) os' ho i ty c (by simpa using hi)
            refine ⟨m + 1, c2, by simp [virts]; omega, by rw [show j + (m + 1) = j + 1 + m by omega]; exact g2, by simpa using g3, fun k => ?_⟩
            rw [show k + (i + 1) = k + 1 + i by omega]; simpa [owns] using g4 (k + 1)
        · cases h
      · cases h
    · have key : ∃ os', outsOf s n j l = some os' ∧ os = .non :: os' := by
        cases x with
        | own t0 c0 => exact absurd ⟨t0, c0, rfl⟩ hx
        | _ =>
          unfold outsOf at h
          split at h
          · rename_i os' ho
            cases h
            exact ⟨os', ho, rfl⟩
          · cases h
      obtain ⟨os', ho, rfl⟩ := key
      cases i with
      | zero => exact absurd ⟨ty, c, by simpa using hi⟩ hx
      | succ i =>
        obtain ⟨m, c2, g1, g2, g3, g4⟩ := outsOf_at l j os' ho i ty c (by simpa using hi)
        refine ⟨m, c2, ?_, g2, by simpa using g3, fun k => ?_⟩
        · cases x <;> first | (exact absurd ⟨_, _, rfl⟩ hx) | simpa [virts] using g1
        · rw [show k + (i + 1) = k + 1 + i by omega]
          cases x <;> first | (exact absurd ⟨_, _, rfl⟩ hx) | simpa [owns] using g4 (k + 1)

/-- **A function that the evaluator evaluates meets its contract.** -/
theorem meets (hmix : P.follows .mixedOrders = true) (hGL : ∀ g' g k, GL g' ≠ .ref g k) (hΓ : Sound P GL Γ) {f : FuncId} {fn : Func} {c : Code} (hf : P.funcs[f]? = some fn) (hc : fn.body = some c) (hn : (fn.name == "runtime.NumGoroutine") = false)
    (s : Ctr) (h : ∀ args x, s args = some (true, x) → ∃ k keep cuts, args.length ≤ fn.ntmps ∧ evF P GL Γ fn.ntmps k keep cuts fn.results.toList c args = some x) : Meets P GL f s := by
  refine ⟨⟨fn, hf, hn, by rw [hc]; rfl⟩, fun args x hs w B vs β hB hG hl hr hinj => ?_⟩
  obtain ⟨k, keep, cuts, hle, he⟩ := h args x hs
  refine calls_of_wp hf hc ?_
  unfold evF at he
  have argc : ∀ i, i < args.length → (∃ ty c, args.getD i .non = .own ty c ∧ vs.getD i undef = .pointer (some ⟨β i, 0, none⟩) ∧ ¬ B (β i) ∧ Boxed w B (β i) ty c) ∨
      (isOwn (args.getD i .non) = false ∧ isRef (args.getD i .non) = false ∧ Rep w B (args.getD i .non) (vs.getD i undef)) := fun i hi => by
    have := hr i hi
    cases e : args.getD i .non with
    | own ty c => rw [e] at this; exact .inl ⟨ty, c, rfl, this.1, this.2.1, this.2.2⟩
    | _ => rw [e] at this
           have h' : Rep w B _ (vs.getD i undef) := this
           exact .inr ⟨h'.notOwn.1, h'.notOwn.2, h'⟩
  have hnv : ∀ i ty c, args.getD i .non ≠ .vown ty c := fun i ty c e => by
    rcases Nat.lt_or_ge i args.length with hi | hi
    · rcases argc i hi with ⟨_, _, h1, _⟩ | ⟨h1, _⟩
      · rw [h1] at e; cases e
      · rw [e] at h1; cases h1
    · simp [List.getD, List.getElem?_eq_none hi] at e
  let M := fn.ntmps + (virts args).length
  let s0 := inits fn.ntmps 0 args ++ List.replicate (fn.ntmps - args.length) AV.non ++ virts args
  have hfront : (inits fn.ntmps 0 args ++ List.replicate (fn.ntmps - args.length) AV.non).length = fn.ntmps := by simp [inits_length]; omega
  have hN : s0.length = M := by simp only [s0, M]; rw [List.length_append, hfront]
  have at1 : ∀ t, t < fn.ntmps → at' s0 t = (inits fn.ntmps 0 args).getD t .non := fun t ht => by
    simp only [s0, at', List.getD]
    rw [List.getElem?_append_left (by rw [hfront]; exact ht)]
    by_cases h : t < args.length
    · rw [List.getElem?_append_left (by rw [inits_length]; exact h)]
    · rw [List.getElem?_append_right (by rw [inits_length]; omega), List.getElem?_eq_none (l := inits fn.ntmps 0 args) (by rw [inits_length]; omega), List.getElem?_replicate]
      split <;> rfl
  have at2 : ∀ m, at' s0 (fn.ntmps + m) = (virts args).getD m .non := fun m => by
    simp only [s0, at', List.getD]
    rw [List.getElem?_append_right (by rw [hfront]; omega), hfront]
    simp
  let px : Nat → Nat := fun t => β ((owns 0 args).getD (t - fn.ntmps) 0)
  have hpx : ∀ m i, (∀ k, (owns k args).getD m 0 = k + i) → px (fn.ntmps + m) = β i := fun m i h => by
    simp only [px, Nat.add_sub_cancel_left, h 0, Nat.zero_add]
  let E : Ext := ⟨fn.ntmps, fun b => ∃ i, i < args.length ∧ isOwn (args.getD i .non) = true ∧ b = β i, px⟩
  have ownAt : ∀ t, isOwn (at' s0 t) = true → ∃ m i ty c, t = fn.ntmps + m ∧ m < (virts args).length ∧ i < args.length ∧ args.getD i .non = .own ty c ∧ at' s0 t = .vown ty c ∧ (∀ k, (owns k args).getD m 0 = k + i) ∧ px t = β i := fun t ht => by
    rcases Nat.lt_or_ge t fn.ntmps with h | h
    · rw [at1 t h, inits_own _ _ _ _ hnv] at ht; cases ht
    · obtain ⟨m, rfl⟩ : ∃ m, t = fn.ntmps + m := ⟨t - fn.ntmps, by omega⟩
      rcases Nat.lt_or_ge m (virts args).length with hm | hm
      · obtain ⟨i, ty, c, g1, g2, g3, g4⟩ := virts_at args m hm
        exact ⟨m, i, ty, c, rfl, hm, g1, g2, by rw [at2]; exact g3, g4, hpx m i g4⟩
      · rw [at2] at ht
        simp [List.getD, List.getElem?_eq_none hm, isOwn] at ht
  have hBX : ∀ b, B b → b < w.heap.size ∧ ¬ E.X b := fun b hb => ⟨hB b hb, fun ⟨i, hi, ho, e⟩ => by
    rcases argc i hi with ⟨_, _, _, _, h3, _⟩ | ⟨h1, _⟩
    · exact h3 (e ▸ hb)
    · rw [ho] at h1; cases h1⟩
  have evl : ∀ t, t < args.length → Act.eval { tmps := (⟨vs⟩ : Array Value) ++ Array.replicate (fn.ntmps - (⟨vs⟩ : Array Value).size) undef, defers := [] } (.tmp t) = vs.getD t undef := fun t h => by
    have hv : t < vs.length := by omega
    simp [Act.eval, List.getD, Array.getElem?_append, hv]
  have nb : ∀ b, B b → NB B w.heap.size (at' s0) px w b := fun b hb => ⟨.inl hb, hB b hb, fun t ht => by
    obtain ⟨m, i, ty, c, _, _, g1, g2, _, _, g4⟩ := ownAt t ht
    rw [g4]
    intro e
    exact (hBX b hb).2 ⟨i, g1, by rw [g2]; rfl, e.symm⟩⟩
  have fin : ∀ s' ρ' a' w', evFin P GL fn.ntmps fn.results.toList args s' = some x → s'.length = M → Rr E M B w ρ' (at' s') a' w' →
      a'.defers = [] ∧ ∃ v, (results fn a'.tmps).run P w' = .ok v w' ∧ ∃ v', Ending.returned v = .returned v' ∧ BelowX w.heap.size E.X w w' ∧
        ∃ B' : Nat → Prop, (∀ b, B' b → (B b ∨ w.heap.size ≤ b) ∧ b < w'.heap.size) ∧ ResOk w w' B' (splitOut x).1 v' ∧
        ∀ i ty c, i < args.length → args.getD i .non = .own ty c → ∃ c', (splitOut x).2.getD i .non = .agg c' ∧ Boxed w' B' (β i) ty c' := by
    intro s' ρ' a' w' hk hl' hR'
    unfold evFin at hk
    split at hk
    · rename_i y hy
      obtain ⟨hsp, v, hv, hres⟩ := evRes_spec hR' hG hBX hy
      refine ⟨hR'.dfr, v, hv, v, rfl, hR'.blw, NB B w.heap.size (at' s') ρ' w', fun b hb => ⟨hb.1, hb.2.1⟩, ?_⟩
      split at hk
      · rename_i hvirt
        cases hk
        rw [hsp]
        refine ⟨hres, fun i ty c hi e => ?_⟩
        rcases inits_at fn.ntmps args 0 i with ⟨_, _, m, _, _, h3, _⟩ | ⟨h1, _⟩
        · rw [hvirt] at h3; simp at h3
        · exact absurd e (h1 ty c)
      · split at hk
        · rename_i os hos
          cases hk
          refine ⟨hres, fun i ty c hi e => ?_⟩
          obtain ⟨m, c', g1, g2, g3, g4⟩ := outsOf_at args 0 os hos i ty c e
          rw [Nat.zero_add] at g2
          refine ⟨c', g3, ?_⟩
          have h1 := (hR'.vow _ _ _ g2).2
          have h2 := (hR'.vir (fn.ntmps + m) (Nat.le_add_right _ _) (by simp only [M]; omega)).2
          rw [h2, show E.px (fn.ntmps + m) = β i from hpx m i g4] at h1
          exact h1
        · cases hk
    · cases hk
  refine evC_sound (E := E) (N := M) (w0 := w) (B := B) hmix hGL hΓ hG hBX c _ _ he _ hN ?_ ?_ ?_ px _ _ ?_
  · intro s' ρ' a' w' hk hl' hR'
    exact fin s' ρ' a' w' hk hl' hR'
  · intro id s' ρ' a' w' hk
    cases hk
  · intro s' ρ' a' w' hk hl' hR'
    exact fin s' ρ' a' w' hk hl' hR'
  · change Rr E M B w px (at' s0) _ w
    refine ⟨rfl, by simp [E]; omega, fun t ht => at_out (by rw [hN]; exact ht), BelowX.refl _ _ _, fun t ty c e => ?_, fun t t' h1 h2 e => ?_, fun t g k e => ?_, fun t h1 h2 => ?_, fun t ty c e => ?_, fun t h1 h2 => ?_⟩
    · obtain ⟨_, _, _, _, _, _, _, _, g, _⟩ := ownAt t (by rw [e]; rfl)
      rw [e] at g; cases g
    · obtain ⟨m, i, ty, c, f1, f2, f3, f4, f5, f6, f7⟩ := ownAt t h1
      obtain ⟨m', i', ty', c', f1', f2', f3', f4', f5', f6', f7'⟩ := ownAt t' h2
      rw [f7, f7'] at e
      have := hinj i i' f3 f3' (by rw [f4]; rfl) (by rw [f4']; rfl) e
      subst this
      have := owns_inj args 0 m m' f2 f2' (by rw [f6, f6'])
      rw [f1, f1', this]
    · rcases Nat.lt_or_ge t fn.ntmps with h | h
      · rw [at1 t h] at e
        rcases inits_at fn.ntmps args 0 t with ⟨ty, c, m, g1, g2, g3, g4⟩ | ⟨g1, g2⟩
        · rw [g2] at e
          cases e
          have hta : t < args.length := by
            rcases Nat.lt_or_ge t args.length with h' | h'
            · exact h'
            · simp [List.getD, List.getElem?_eq_none h'] at g1
          rw [Nat.zero_add]
          refine ⟨?_, ?_⟩
          · rw [evl t hta, hpx m t g4]
            rcases argc t hta with ⟨_, _, _, k1, _⟩ | ⟨k1, _⟩
            · exact k1
            · rw [g1] at k1; cases k1
          · rw [at2]
            obtain ⟨_, _, _, _, _, k3, _⟩ := virts_at args m g3
            rw [k3]; rfl
        · exfalso
          rw [g2] at e
          have hta : t < args.length := by
            rcases Nat.lt_or_ge t args.length with h' | h'
            · exact h'
            · simp [List.getD, List.getElem?_eq_none h'] at e
          rcases argc t hta with ⟨ty, c, k1, _⟩ | ⟨_, k1, _⟩
          · exact g1 ty c k1
          · rw [e] at k1; cases k1
      · exfalso
        obtain ⟨m, rfl⟩ : ∃ m, t = fn.ntmps + m := ⟨t - fn.ntmps, by omega⟩
        rw [at2] at e
        rcases Nat.lt_or_ge m (virts args).length with hm | hm
        · obtain ⟨_, _, _, _, _, k3, _⟩ := virts_at args m hm
          rw [k3] at e; cases e
        · simp [List.getD, List.getElem?_eq_none hm] at e
    · rcases Nat.lt_or_ge t fn.ntmps with h | h
      · rw [at1 t h] at h1 h2 ⊢
        rcases inits_at fn.ntmps args 0 t with ⟨ty, c, m, g1, g2, g3, g4⟩ | ⟨g1, g2⟩
        · rw [g2] at h2; cases h2
        · rw [g2]
          rcases Nat.lt_or_ge t args.length with hta | hta
          · rcases argc t hta with ⟨ty, c, k1, _⟩ | ⟨_, _, k1⟩
            · exact absurd k1 (g1 ty c)
            · rw [evl t hta]
              exact k1.mono fun b hb => ⟨nb b hb, rfl⟩
          · rw [show args.getD t .non = .non by simp [List.getD, List.getElem?_eq_none hta]]
            exact .non _
      · obtain ⟨m, rfl⟩ : ∃ m, t = fn.ntmps + m := ⟨t - fn.ntmps, by omega⟩
        rw [at2] at h1 ⊢
        rcases Nat.lt_or_ge m (virts args).length with hm | hm
        · obtain ⟨_, _, _, _, _, k3, _⟩ := virts_at args m hm
          rw [k3] at h1; cases h1
        · rw [show (virts args).getD m .non = .non by simp [List.getD, List.getElem?_eq_none hm]]
          exact .non _
    · obtain ⟨m, i, ty', c', f1, f2, f3, f4, f5, f6, f7⟩ := ownAt t (by rw [e]; rfl)
      rw [e] at f5
      cases f5
      refine ⟨⟨i, f3, by rw [f4]; rfl, f7⟩, ?_⟩
      rw [f7]
      rcases argc i f3 with ⟨ty2, c2, k1, _, _, k4⟩ | ⟨k1, _⟩
      · rw [f4] at k1
        cases k1
        exact k4.mono nb
      · rw [f4] at k1; cases k1
    · obtain ⟨m, rfl⟩ : ∃ m, t = fn.ntmps + m := ⟨t - fn.ntmps, by have : E.n = fn.ntmps := rfl; omega⟩
      refine ⟨?_, rfl⟩
      rw [at2]
      obtain ⟨_, _, _, _, _, k3, _⟩ := virts_at args m (by simp only [M] at h2; omega)
      rw [k3]; rfl

/-- One contract more. -/
theorem Sound.cons (hΓ : Sound P GL Γ) {f : FuncId} {s : Ctr} (h : Meets P GL f s) : Sound P GL ((f, s) :: Γ) := by
  intro g t hg
  unfold find at hg
  split at hg
  · rename_i he
    cases hg
    rw [← Nat.eq_of_beq_eq_true he]
    exact h
  · exact hΓ g t hg
theorem Sound.nil : Sound P GL [] := fun f s h => by cases h
end
end Go.Ev

/- Loops of a function, found by their number. -/
namespace Go.Ev
open Go.RowKit
def kSeq (f : List AV → Option AV) (K : Kont) : Kont := fun e s' => match e with
  | .norm => f s'
  | .exit id => K (.exit id) s'
  | .ret => K .ret s'
def kBlock (id : Nat) (K : Kont) : Kont := fun e s' => match e with
  | .norm => K .norm s'
  | .exit i => (match Nat.beq i id with
    | true => K .norm s'
    | false => K (.exit i) s')
  | .ret => K .ret s'
section
variable (P : Program) (GL : Nat → AV) (Γ : List (Nat × Ctr)) (n k : Nat) (keep : List Bool) (cuts : List (Nat × List Bool))
/-- All loops of a code: each one's body and what follows it. -/
def loops : Code → Kont → List (Code × Kont)
  | .seq x y, K => loops x (kSeq (fun s => evC P GL Γ n k keep cuts y s K) K) ++ loops y K
  | .cond _ x y, K => loops x K ++ loops y K
  | .block id c, K => loops c (kBlock id K)
  | .loop c, K => (c, K) :: loops c (fun e s' => match e with
    | .norm => none
    | .exit id => K (.exit id) s'
    | .ret => K .ret s')
  | _, _ => []
/-- All regions of a code outside its loops: from each one's begin on. -/
def spots : Code → Kont → List (Nat × (List AV → Option AV))
  | .seq x y, K => spots x (kSeq (fun s => evC P GL Γ n k keep cuts y s K) K) ++ spots y K
  | .cond _ x y, K => spots x K ++ spots y K
  | .block id c, K => spots c (kBlock id K)
  | .region id ops draw, K => [(id, fun s => evRg P GL Γ ops draw s K)]
  | _, _ => []
def spotAt : List (Nat × (List AV → Option AV)) → Nat → List AV → Option AV
  | [], _, _ => none
  | (i, f) :: l, id, s => match Nat.beq i id with
    | true => f s
    | false => spotAt l id s
def kFin (res : List ResultVar) (args : List AV) : Kont := fun e s => match e with
  | .norm => evFin P GL n res args s
  | .ret => evFin P GL n res args s
  | .exit _ => none
end
section
variable (P : Program) (GL : Nat → AV) (Γ : List (Nat × Ctr)) (k : Nat) (keep : List Bool)
def loopX (args : List AV) (fn : Func) (i : Nat) : Code × Kont := (loops P GL Γ fn.ntmps k keep [] (fn.body.getD .skip) (kFin P GL fn.ntmps fn.results.toList args)).getD i (.skip, fun _ _ => none)
def loopN (fn : Func) (i : Nat) : Code × Kont := loopX P GL Γ k keep [] fn i
/-- The same for a function with boxes that came in by pointer: 'args' tells which. -/
def runX (args : List AV) (fn : Func) (i n : Nat) (s : List AV) : Option AV := evL (forget fn.ntmps keep) (evC P GL Γ fn.ntmps k keep [] (loopX P GL Γ k keep args fn i).1) n s (loopX P GL Γ k keep args fn i).2
/-- Loop number i of a function, from a state at its head. -/
def runL (fn : Func) (i n : Nat) (s : List AV) : Option AV := evL (forget fn.ntmps keep) (evC P GL Γ fn.ntmps k keep [] (loopN P GL Γ k keep fn i).1) n s (loopN P GL Γ k keep fn i).2
/-- One round of it. -/
def roundL (fn : Func) (i : Nat) (s : List AV) (K : Kont) : Option AV := evC P GL Γ fn.ntmps k keep [] (loopN P GL Γ k keep fn i).1 s K
/-- A function. -/
def evN (fn : Func) (args : List AV) : Option AV := evF P GL Γ fn.ntmps k keep [] fn.results.toList (fn.body.getD .skip) args
/-- A function, with cuts: at the regions named, all but what is kept is forgotten. -/
def evM (cuts : List (Nat × List Bool)) (fn : Func) (args : List AV) : Option AV := evF P GL Γ fn.ntmps k keep cuts fn.results.toList (fn.body.getD .skip) args
/-- From region number i on. -/
def fromR (cuts : List (Nat × List Bool)) (args : List AV) (fn : Func) (i : Nat) (s : List AV) : Option AV :=
  spotAt (spots P GL Γ fn.ntmps k keep cuts (fn.body.getD .skip) (kFin P GL fn.ntmps fn.results.toList args)) i s
end
theorem meetsM {P : Program} {GL : Nat → AV} {Γ : List (Nat × Ctr)} (hmix : P.follows .mixedOrders = true) (hGL : ∀ g' g k, GL g' ≠ .ref g k) (hΓ : Sound P GL Γ) {f : FuncId} {fn : Func} (hf : P.funcs[f]? = some fn)
    (hb : fn.body.isSome = true) (hn : (fn.name == "runtime.NumGoroutine") = false) (s : Ctr)
    (h : ∀ args x, s args = some (true, x) → ∃ k keep cuts, Nat.ble args.length fn.ntmps = true ∧ evM P GL Γ k keep cuts fn args = some x) : Meets P GL f s := by
  cases hc : fn.body with
  | none => rw [hc] at hb; cases hb
  | some c =>
    refine meets hmix hGL hΓ hf hc hn s fun args x hs => ?_
    obtain ⟨k, keep, cuts, h1, h2⟩ := h args x hs
    refine ⟨k, keep, cuts, Nat.le_of_ble_eq_true h1, ?_⟩
    unfold evM at h2
    rw [hc] at h2
    exact h2
theorem meetsN {P : Program} {GL : Nat → AV} {Γ : List (Nat × Ctr)} (hmix : P.follows .mixedOrders = true) (hGL : ∀ g' g k, GL g' ≠ .ref g k) (hΓ : Sound P GL Γ) {f : FuncId} {fn : Func} (hf : P.funcs[f]? = some fn)
    (hb : fn.body.isSome = true) (hn : (fn.name == "runtime.NumGoroutine") = false) (s : Ctr)
    (h : ∀ args x, s args = some (true, x) → ∃ k keep, Nat.ble args.length fn.ntmps = true ∧ evN P GL Γ k keep fn args = some x) : Meets P GL f s :=
  meetsM hmix hGL hΓ hf hb hn s fun args x hs => by
    obtain ⟨k, keep, h1, h2⟩ := h args x hs
    exact ⟨k, keep, [], h1, h2⟩
/-- For the rows: without boxes that come in or go out. -/
theorem Meets.plain {P : Program} {GL : Nat → AV} {f : FuncId} {s : Ctr} (h : Meets P GL f s) (args : List AV) (x : AV) (hx : isOwn x = false ∧ splitOut x = (x, [])) (hs : s args = some (true, x)) (w : World) (B : Nat → Prop) (vs : List Value)
    (hB : ∀ b, B b → b < w.heap.size) (hG : ∀ g, Rep w B (GL g) (.pointer (some ⟨g, 0, none⟩))) (hl : args.length = vs.length) (hr : ∀ i, i < args.length → Rep w B (args.getD i .non) (vs.getD i undef)) :
    Calls P f ⟨vs⟩ w fun e w' => ∃ v, e = .returned v ∧ Below w.heap.size w w' ∧ Rep w' (fun b => (B b ∨ w.heap.size ≤ b) ∧ b < w'.heap.size) x v := by
  have hno : ∀ i, i < args.length → isOwn (args.getD i .non) = false := fun i hi => (hr i hi).notOwn.1
  refine (h.2 args x hs w B vs (fun _ => 0) hB hG hl (fun i hi => ArgOk.of_rep (hr i hi)) (fun i j hi _ ho _ _ => by rw [hno i hi] at ho; cases ho)).mono ?_
  rintro e w' ⟨v, rfl, hb, B', hB', hres, _⟩
  refine ⟨v, rfl, hb.plain fun b ⟨i, hi, ho, _⟩ => (by rw [hno i hi] at ho; cases ho), ?_⟩
  rw [hx.2] at hres
  have hres' : Rep w' B' x v := by
    cases x with
    | own ty c => cases hx.1
    | _ => exact hres
  exact hres'.mono fun b hb => ⟨hB' b hb, rfl⟩
end Go.Ev

/- From a row's readings to what the evaluator knows: structs of numbers, bools and strings. -/
namespace Go.Ev
open Go.RowKit

inductive LK where
  | int (k : IntKind)
  | bool
  | str
/-- The cells of a value of these kinds. -/
def Fits : List LK → List Value → Prop
  | [], [] => True
  | .int k :: ks, v :: vs => (∃ x, v = .int k x ∧ (Lit.int k x).wf = true) ∧ Fits ks vs
  | .bool :: ks, v :: vs => (∃ b, v = .bool b) ∧ Fits ks vs
  | .str :: ks, v :: vs => (∃ s, v = .string s ∧ s.size ≤ maxLen) ∧ Fits ks vs
  | _, _ => False
theorem Fits.append : ∀ {ks ls : List LK} {vs ws : List Value}, Fits ks vs → Fits ls ws → Fits (ks ++ ls) (vs ++ ws)
  | [], ls, [], ws, _, h => h
  | .int k :: ks, ls, v :: vs, ws, ⟨h1, h2⟩, h => ⟨h1, h2.append h⟩
  | .bool :: ks, ls, v :: vs, ws, ⟨h1, h2⟩, h => ⟨h1, h2.append h⟩
  | .str :: ks, ls, v :: vs, ws, ⟨h1, h2⟩, h => ⟨h1, h2.append h⟩
  | [], ls, v :: vs, ws, h, _ => h.elim
  | .int k :: ks, ls, [], ws, h, _ => h.elim
  | .bool :: ks, ls, [], ws, h, _ => h.elim
  | .str :: ks, ls, [], ws, h, _ => h.elim

theorem Fits.intc {k : IntKind} {ks : List LK} : ∀ {cs : List Value}, Fits (.int k :: ks) cs → ∃ x vs, cs = .int k x :: vs ∧ (Lit.int k x).wf = true ∧ Fits ks vs
  | v :: vs, ⟨⟨x, h, hw⟩, h2⟩ => ⟨x, vs, by rw [h], hw, h2⟩
theorem Fits.boolc {ks : List LK} : ∀ {cs : List Value}, Fits (.bool :: ks) cs → ∃ b vs, cs = .bool b :: vs ∧ Fits ks vs
  | v :: vs, ⟨⟨x, h⟩, h2⟩ => ⟨x, vs, by rw [h], h2⟩
theorem Fits.nilc : ∀ {cs : List Value}, Fits [] cs → cs = []
  | [], _ => rfl
/-- The kinds of a type's cells, if it is made of these alone and lies without gaps. -/
def fieldsK (f : TypeId → Option (List LK)) (size : TypeId → Nat) (off : Nat) : List Field → Option (List LK)
  | [] => some []
  | fd :: fs => match Nat.beq fd.offset off, f fd.type with
    | true, some ks => match fieldsK f size (off + size fd.type) fs with
      | some ls => some (ks ++ ls)
      | none => none
    | _, _ => none
def sumK (size : TypeId → Nat) : List Field → Nat
  | [] => 0
  | fd :: fs => size fd.type + sumK size fs
def flatK (P : Program) : Nat → TypeId → Option (List LK)
  | 0, _ => none
  | n + 1, t => match P.underlying t with
    | some (.int k) => some [.int k]
    | some .bool => some [.bool]
    | some .string => some [.str]
    | some (.struct fs) => match Nat.beq (sumK P.cellsOf fs.toList) (P.cellsOf t) with
      | true => fieldsK (flatK P n) P.cellsOf 0 fs.toList
      | false => none
    | _ => none

section
variable {H : Type} {enc : TypeId × Value → H} {P : Program} {w : World} {base : Nat} {spare : Nat → Bool} {held : Bool}

theorem trod_flat : ∀ (n : Nat) (t : TypeId) (ks : List LK), flatK P n t = some ks → ∀ (fuel : Nat) (cs : List Value) (d : DataW H) (ps : List MemPlace),
    DataW.trod enc P w base spare held fuel t cs = some (d, ps) → Fits ks cs ∧ ps = [] ∧ ∀ w' spare', DataW.trod enc P w' base spare' held fuel t cs = some (d, ps)
  | 0, _, _, h, _, _, _, _, _ => by cases h
  | n + 1, t, ks, h, 0, cs, d, ps, hd => by simp [DataW.trod] at hd
  | n + 1, t, ks, h, fuel + 1, cs, d, ps, hd => by
    unfold flatK at h
    split at h
    · rename_i k hu
      cases h
      obtain ⟨x, rfl, hx, hw⟩ := DataW.trod_int hu hd
      cases hx
      exact ⟨⟨⟨x, rfl, hw⟩, trivial⟩, rfl, fun w' spare' => by unfold DataW.trod; rw [hu]; simp [hw]⟩
    · rename_i hu
      cases h
      unfold DataW.trod at hd
      rw [hu] at hd
      simp only at hd
      split at hd <;> simp_all
      rename_i b
      exact ⟨⟨⟨b, rfl⟩, trivial⟩, fun w' spare' => by unfold DataW.trod; rw [hu]; simp [hd]⟩
    · rename_i hu
      cases h
      unfold DataW.trod at hd
      rw [hu] at hd
      simp only at hd
      split at hd <;> simp_all
      rename_i s
      exact ⟨⟨⟨s, rfl, hd.1⟩, trivial⟩, fun w' spare' => by unfold DataW.trod; rw [hu]; simp [hd]⟩
    · rename_i fs hu
      split at h
      · rename_i hsz
        have hsz' := Nat.eq_of_beq_eq_true hsz
        unfold DataW.trod at hd
        rw [hu] at hd
        simp only at hd
        split at hd
        · rename_i hlen
          simp only [Option.map_eq_some_iff, Prod.mk.injEq] at hd
          obtain ⟨xs, hxs, hdd, hps⟩ := hd
          have key : ∀ (l : List Field) (off : Nat) (ls : List LK) (ys : List (DataW H × List MemPlace)), fieldsK (flatK P n) P.cellsOf off l = some ls →
              (l.mapM fun f => DataW.trod enc P w base spare held fuel f.type ((cs.drop f.offset).take (P.cellsOf f.type))) = some ys → off + sumK P.cellsOf l = cs.length →
              Fits ls (cs.drop off) ∧ ys.flatMap (·.2) = [] ∧ ∀ w' spare', (l.mapM fun f => DataW.trod enc P w' base spare' held fuel f.type ((cs.drop f.offset).take (P.cellsOf f.type))) = some ys := by
            intro l
            induction l with
            | nil =>
              intro off ls ys h1 h2 h3
              simp only [fieldsK, Option.some.injEq] at h1
              subst h1
              simp only [List.mapM_nil] at h2
              cases h2
              simp only [sumK] at h3
              rw [List.drop_eq_nil_of_le (by omega)]
              exact ⟨trivial, rfl, fun _ _ => rfl⟩
            | cons fd l ih =>
              intro off ls ys h1 h2 h3
              unfold fieldsK at h1
              split at h1
              · rename_i k1 ho hk
                split at h1
                · rename_i l1 hl1
                  cases h1
                  have ho' := Nat.eq_of_beq_eq_true ho
                  rw [List.mapM_cons] at h2
                  simp only [Option.bind_eq_bind, Option.bind_eq_some_iff, Option.pure_def, Option.some.injEq] at h2
                  obtain ⟨y, hy, ys', hys, rfl⟩ := h2
                  simp only [sumK] at h3
                  obtain ⟨d', p'⟩ := y
                  rw [ho'] at hy
                  obtain ⟨f1, f2, f3⟩ := trod_flat n fd.type k1 hk fuel _ d' p' hy
                  obtain ⟨g1, g2, g3⟩ := ih _ _ _ hl1 hys (by omega)
                  have e : cs.drop off = (cs.drop off).take (P.cellsOf fd.type) ++ cs.drop (off + P.cellsOf fd.type) := by
                    rw [← List.drop_drop, List.take_append_drop]
                  refine ⟨by rw [e]; exact f1.append g1, by simp [f2, g2], fun w' spare' => ?_⟩
                  rw [List.mapM_cons, ho', f3 w' spare', g3 w' spare']
                  rfl
                · cases h1
              · cases h1
          obtain ⟨a1, a2, a3⟩ := key fs.toList 0 ks xs h hxs (by omega)
          refine ⟨by simpa using a1, by rw [← hps]; exact a2, fun w' spare' => ?_⟩
          unfold DataW.trod
          rw [hu]
          simp only [hlen, if_true, a3 w' spare', Option.map_some, Option.some.injEq, Prod.mk.injEq]
          exact ⟨hdd, hps⟩
        · cases hd
      · cases h
    · cases h

theorem rep_vals {B : Nat → Prop} (vs : List Value) : Rep w B (.agg (vs.map .val)) (.agg ⟨vs⟩) :=
  .agg _ _ (by simp) (rep_list .val (fun v => .val v) vs)
theorem reps_nil {B : Nat → Prop} : ∀ i, i < ([] : List AV).length → Rep w B (([] : List AV).getD i .non) (([] : List Value).getD i undef) := fun i hi => by simp at hi
theorem reps_cons {B : Nat → Prop} {x : AV} {v : Value} {xs : List AV} {vs : List Value} (h : Rep w B x v) (hs : ∀ i, i < xs.length → Rep w B (xs.getD i .non) (vs.getD i undef)) :
    ∀ i, i < (x :: xs).length → Rep w B ((x :: xs).getD i .non) ((v :: vs).getD i undef)
  | 0, _ => h
  | i + 1, hi => hs i (by simpa using hi)

/-- A struct argument, read flat. -/
theorem agg_flat {t : TypeId} {ks : List LK} {v : Value} {d : DataW H} {ps : List MemPlace} {n : Nat} (hk : flatK P n t = some ks) {fs : Array Field} (hu : P.underlying t = some (.struct fs)) {r : Reach} {b0 : Nat}
    (hv : Value.okWide P w r b0 t v) (h : DataW.Trod enc P w base spare held t v d ps) : ∃ cs : List Value, v = .agg ⟨cs⟩ ∧ Fits ks cs ∧ ps = [] ∧ ∀ w' spare', DataW.Trod enc P w' base spare' held t v d ps := by
  unfold Value.okWide at hv
  rw [hu] at hv
  obtain ⟨⟨cs⟩, rfl, _, _⟩ := hv
  obtain ⟨fuel, hf⟩ := h
  obtain ⟨a1, a2, a3⟩ := trod_flat n t ks hk fuel _ d ps hf
  exact ⟨cs, rfl, a1, a2, fun w' spare' => ⟨fuel, a3 w' spare'⟩⟩

theorem mkCell_wf {k : IntKind} {x : Int} (h : (Lit.int k x).wf = true) : mkCell (.int k) x = .int k x := by
  cases k with
  | u8 =>
    simp only [Lit.wf, IntKind.min, IntKind.max, Bool.and_eq_true, decide_eq_true_eq] at h
    have h1 : 0 ≤ x ∧ x ≤ 255 := by simpa [IntKind.bits, IntKind.signed] using h
    simp only [mkCell]
    rw [Int.emod_eq_of_lt (by omega) (by omega)]
  | _ => rfl
/-- A list of whole numbers that came in. -/
theorem open_arr {t e : TypeId} {k : IntKind} {v : Value} {d : DataW H} {ps : List MemPlace} {r : Reach} {b0 : Nat} (ht : P.underlying t = some (.slice e)) (he : P.underlying e = some (.int k)) (hc : P.cellsOf e = 1)
    (hv : Value.okWide P w r b0 t v) (h : DataW.Trod enc P w base spare held t v d ps) : ∃ (n : Nat) (c : Nat → Nat → Int), n ≤ maxLen ∧ Rep w (fun b => b < w.heap.size) (.arr n [.int k] c) v := by
  obtain ⟨a0, len, cap, rfl⟩ := WideShapes.okWide_slice ht hv
  obtain ⟨fuel, hf⟩ := h
  rcases ChangeShapes.open_ints ht he hc hf with ⟨hcs, _⟩ | ⟨a, len', cap', zs, hcs, _, hl, hm, hz, _, hcell, hw⟩
  · have hcs : [Value.slice a0 len cap] = [.slice none 0 0] := hcs
    cases hcs
    exact ⟨0, fun _ _ => 0, Nat.zero_le _, .arr _ _ _ _ (.nil _ _ _ _)⟩
  · have hcs : [Value.slice a0 len cap] = [.slice (some a) len' cap'] := hcs
    cases hcs
    by_cases hn : len = 0
    · subst hn
      exact ⟨0, fun _ _ => 0, Nat.zero_le _, .arr _ _ _ _ (.nil _ _ _ _)⟩
    · have hzl : len ≤ zs.length := by rw [hz]; split <;> omega
      obtain ⟨b, o, sp⟩ := a
      have h0 := hcell 0 (by omega)
      have hb : b < w.heap.size := by
        rcases Nat.lt_or_ge b w.heap.size with h' | h'
        · exact h'
        · simp [World.cell?, Addr.add, Array.getElem?_eq_none h'] at h0
      have hsp : sp = none := by
        cases sp with
        | none => rfl
        | some s =>
          exfalso
          simp only [Addr.add, if_true, World.cell?] at h0
          split at h0
          · simp at h0
          · cases h0
      subst hsp
      refine ⟨len, fun i _ => zs.getD i 0, by omega, .arr _ _ _ _ (.lst _ _ _ b o cap (fun i _ => .int k (zs.getD i 0)) hb (fun i hi => rfl) (fun i j hi hj => ?_) (fun i j hi hj => ?_))⟩
      · have hj : j = 0 := by simpa using hj
        subst hj
        have := hcell i (by omega)
        rw [addr_add] at this
        rw [show o + i * [CK.int k].length + 0 = o + i by simp]
        exact this
      · have hj : j = 0 := by simpa using hj
        subst hj
        have hwz : (Lit.int k (zs.getD i 0)).wf = true := hw _ (by
          have : zs.getD i 0 = zs[i] := by simp [List.getD, show i < zs.length by omega]
          rw [this]
          exact List.getElem_mem _)
        show Rep w _ (.val (mkCell (.int k) (zs.getD i 0))) _
        rw [mkCell_wf hwz]
        exact .val _
end
end Go.Ev
