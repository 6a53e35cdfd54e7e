/- A verified evaluator of Go functions over the kit's wp rules: soundness once, then each contract by a computation; single operations. -/
import Derived.Below
import Derived.Orders
import Derived.KernelRfl
import Derived.Laws.Cells
import Derived.DeepKeys
import Derived.Laws.Rows
import Derived.Laws.CopyRow
import Derived.Laws.Slices
import Derived.Laws.Cover3
import Derived.Laws.AppendOwn
import Derived.Laws.MakeOwn
import Derived.Laws.BytesString
import Derived.Laws.BytesArg
set_option linter.unusedVariables false
set_option linter.unusedSimpArgs false
/- A verified evaluator for Go functions over the kit's wp rules: abstract values, the relation to memory. Second form: with rows that the function makes and writes (slots). -/
namespace Go.Ev
abbrev kx0 : List Bool := [false, true, true]
abbrev kx1 : List Bool := [true, false, false, true, false, false, true, true, true]
abbrev kx2 : List Bool := [false, false, false, true, true, true, true, true, true]
abbrev kx3 : List Bool := [false, false, true, true, true]
abbrev kx4 : List Bool := [false, false, false, false, false, true, false, false, false, false, false, true]
abbrev kx5 : List Bool := [false, true, false, true]
abbrev kx6 : List Bool := [true, true, false, false, false, true, false, true, true]
abbrev kx7 : List Bool := [true, true, false, false, false, false, false, true, true]
abbrev kx8 : List Bool := [true, false, false, true, true, true, false, false, false, false, false, false, false, false, false, false, false, false, false, false, false, false, false, true, true, true]
abbrev kx9 : List Bool := [true, false, true, true]
abbrev kx10 : List Bool := [true, false, false, true, true]
abbrev kx11 : List Bool := [true, false, false, true, true, true]
abbrev kx12 : List Bool := [false, true, false, false, false, true, true]
abbrev NNI := Nat -> Nat -> Int
open Go.RowKit
inductive CK where
 | int (k : IntKind)
 | bool
 | str
def encL : List UInt8 -> Nat
 | [] => 0
 | b :: l => encL l * 256 + b.toNat + 1
def decL : Nat -> Nat -> List UInt8
 | 0, _ => []
 | _, 0 => []
 | f + 1, n + 1 => UInt8.ofNat (n % 256) :: decL f (n / 256)
def encS (s : ByteArray) : Int := (encL s.data.toList : Int)
def decS (z : Int) : ByteArray := ⟨(decL z.toNat z.toNat).toArray⟩
theorem decL_encL : ∀ (l : List UInt8) (f : Nat), encL l <= f -> decL f (encL l) = l
 | [], f, _ => by cases f <;> rfl
 | b :: l, f, h => by
  unfold encL at h ⊢
  obtain ⟨f, rfl⟩ : ∃ f', f = f' + 1 := ⟨f - 1, by omega⟩
  have hb : b.toNat < 256 := b.toNat_lt
  show UInt8.ofNat ((encL l * 256 + b.toNat) % 256) :: decL f ((encL l * 256 + b.toNat) / 256) = _
  rw [show (encL l * 256 + b.toNat) % 256 = b.toNat by omega, show (encL l * 256 + b.toNat) / 256 = encL l by omega, decL_encL l f (by omega), UInt8.ofNat_toNat]
theorem decS_encS (s : ByteArray) : decS (encS s) = s := by
 unfold decS encS
 rw [Int.toNat_natCast, decL_encL _ _ (Nat.le_refl _)]
inductive AV where
 | non
 | val (v : Value)
 | agg (l : List AV)
 | tup (l : List AV)
 | lst (n k : Nat) (row : Nat -> List AV)
 | eptr (c : List AV)
 | own (t : TypeId) (c : List AV)
 | ref (g off : Nat)
 | vown (t : TypeId) (c : List AV)
 | out (x : AV) (os : List AV)
 | arr (n : Nat) (ks : List CK) (c : NNI)
 | nils
 | sl (g n : Nat)
 | rf (g i j : Nat)
 | row (lv : Bool) (ty : TypeId) (m : Nat) (ks : List CK) (c : NNI)
def mkCell : CK -> Int -> Value
 | .int .u8, x => .int .u8 (x % 256)
 | .int k, x => .int k x
 | .bool, x => .bool (!(x == 0))
 | .str, x => .string (decS x)
def mkRow : List CK -> (Nat -> Int) -> List AV
 | [], _ => []
 | k :: ks, f => .val (mkCell k (f 0)) :: mkRow ks fun j => f (j + 1)
inductive Rep (w : World) (B : Nat -> Prop) : AV -> Value -> Prop where
 | non (v : Value) : Rep w B .non v
 | val (v : Value) : Rep w B (.val v) v
 | agg (l : List AV) (cs : List Value) (h : l.length = cs.length) (r : ∀ i, i < l.length -> Rep w B (l.getD i .non) (cs.getD i undef)) : Rep w B (.agg l) (.agg ⟨cs⟩)
 | tup (l : List AV) (cs : List Value) (h : l.length = cs.length) (r : ∀ i, i < l.length -> Rep w B (l.getD i .non) (cs.getD i undef)) : Rep w B (.tup l) (.tuple ⟨cs⟩)
 | nil (k : Nat) (row : Nat -> List AV) (a : Option Addr) (cap : Nat) : Rep w B (.lst 0 k row) (.slice a 0 cap)
 | nils (a : Option Addr) : Rep w B .nils (.slice a 0 0)
 | lst (n k : Nat) (row : Nat -> List AV) (b o cap : Nat) (f : Nat -> Nat -> Value) (hB : B b) (hn : n <= cap) (hk : ∀ i, i < n -> (row i).length = k)
   (hc : ∀ i j, i < n -> j < k -> w.cell? ⟨b, o + i * k + j, none⟩ = some (f i j)) (r : ∀ i j, i < n -> j < k -> Rep w B ((row i).getD j .non) (f i j)) :
   Rep w B (.lst n k row) (.slice (some ⟨b, o, none⟩) n cap)
 | eptr (c : List AV) (b o : Nat) (f : Nat -> Value) (hB : B b)
   (hc : ∀ j, j < c.length -> w.cell? ⟨b, o + j, none⟩ = some (f j)) (r : ∀ j, j < c.length -> Rep w B (c.getD j .non) (f j)) :
   Rep w B (.eptr c) (.pointer (some ⟨b, o, none⟩))
 | arr (n : Nat) (ks : List CK) (c : NNI) (v : Value) (h : Rep w B (.lst n ks.length fun i => mkRow ks (c i)) v) : Rep w B (.arr n ks c) v
theorem cell_same {w w' : World} {b o : Nat} (h : w'.heap[b]? = w.heap[b]?) : w'.cell? ⟨b, o, none⟩ = w.cell? ⟨b, o, none⟩ := by
 unfold World.cell?
 rw [show (⟨b, o, none⟩ : Addr).block = b from rfl, h]
theorem Rep.mono {w w' : World} {B B' : Nat -> Prop} {x : AV} {v : Value} (h : Rep w B x v) (hb : ∀ b, B b -> B' b /\ w'.heap[b]? = w.heap[b]?) : Rep w' B' x v := by
 induction h with
 | non v => exact .non v
 | val v => exact .val v
 | agg l cs h r ih => exact .agg l cs h ih
 | tup l cs h r ih => exact .tup l cs h ih
 | nil k row a cap => exact .nil k row a cap
 | nils a => exact .nils a
 | lst n k row b o cap f hB hn hk hc r ih => exact .lst n k row b o cap f (hb b hB).1 hn hk (fun i j hi hj => (cell_same (hb b hB).2).trans (hc i j hi hj)) ih
 | eptr c b o f hB hc r ih => exact .eptr c b o f (hb b hB).1 (fun j hj => (cell_same (hb b hB).2).trans (hc j hj)) ih
 | arr n ks c v h ih => exact .arr n ks c v ih
structure GOk (w : World) (B : Nat -> Prop) (GL : Nat -> AV) : Prop where
 rep : ∀ g, Rep w B (GL g) (.pointer (some ⟨g, 0, none⟩))
 all : ∀ g c, GL g = .eptr c -> ∃ cs ty z, w.heap[g]? = some (.cells cs ty z) /\ cs.size = c.length
theorem GOk.mono {w w' : World} {B B' : Nat -> Prop} {GL : Nat -> AV} (h : GOk w B GL) (hb : ∀ b, B b -> B' b /\ w'.heap[b]? = w.heap[b]?) : GOk w' B' GL := by
 refine ⟨fun g => (h.rep g).mono hb, fun g c e => ?_⟩
 obtain ⟨cs, ty, z, h1, h2⟩ := h.all g c e
 have hr := h.rep g
 rw [e] at hr
 cases hr with
 | eptr _ _ _ _ hB _ _ => exact ⟨cs, ty, z, (hb g hB).2.trans h1, h2⟩
theorem GOk.none {w : World} {B : Nat -> Prop} : GOk w B fun _ => .non := ⟨fun _ => .non _, fun _ _ h => by cases h⟩
def isOwn : AV -> Bool
 | .own _ _ => true
 | .vown _ _ => true
 | .row lv _ _ _ _ => lv
 | _ => false
def isBox : AV -> Bool
 | .own _ _ => true
 | .vown _ _ => true
 | _ => false
def isSlot : AV -> Bool
 | .own _ _ => true
 | .vown _ _ => true
 | .row _ _ _ _ _ => true
 | _ => false
def isRep : AV -> Bool
 | .non => true
 | .val _ => true
 | .agg _ => true
 | .lst _ _ _ => true
 | .eptr _ => true
 | .arr _ _ _ => true
 | .nils => true
 | _ => false
theorem isBox_own {x : AV} (h : isBox x = true) : isOwn x = true := by cases x <;> simp_all [isBox, isOwn]
theorem isOwn_slot {x : AV} (h : isOwn x = true) : isSlot x = true := by cases x <;> simp_all [isSlot, isOwn]
def isRef : AV -> Bool
 | .ref _ _ => true
 | _ => false
structure Gh where
 b : Nat -> Nat
 F : Nat -> Prop
def zOk (z : Nat × Nat) (n : Nat) : Prop := z = (0, 0) \/ n <= z.1
def Rowed (w : World) (b : Nat) (ty : TypeId) (cap m : Nat) (ks : List CK) (c : NNI) : Prop :=
 ∃ (cs : List Value) (z : Nat × Nat), w.heap[b]? = some (.cells ⟨cs⟩ ty z) /\ zOk z cs.length /\ cs.length = cap * ks.length /\ m <= cap /\ cap <= maxLen /\ 0 < ks.length /\
  ∀ i j, i < m -> j < ks.length -> cs.getD (i * ks.length + j) undef = mkCell (ks.getD j .bool) (c i j)
structure BelowX (B : Nat) (X : Nat -> Prop) (w w' : World) : Prop where
 os : w'.os = w.os
 tape : w'.tape = w.tape
 output : w'.output = w.output
 size : w.heap.size <= w'.heap.size
 block : ∀ k, k < B -> ¬ X k -> w'.heap[k]? = w.heap[k]?
theorem BelowX.refl (B : Nat) (X : Nat -> Prop) (w : World) : BelowX B X w w := ⟨rfl, rfl, rfl, Nat.le_refl _, fun _ _ _ => rfl⟩
theorem BelowX.plain {B : Nat} {X : Nat -> Prop} {w w' : World} (h : BelowX B X w w') (hX : ∀ b, ¬ X b) : Below B w w' := ⟨h.os, h.tape, h.output, h.size, fun k hk => h.block k hk (hX k)⟩
structure Ext where
 n : Nat
 v : Nat
 X : Nat -> Prop
 px : Nat -> Nat
 sh : Nat -> Option (Bool × TypeId × Nat × List CK)
 cz : Nat -> Nat
def csz (w : World) (b : Nat) : Nat := match w.heap[b]? with
 | some (.cells cs _ _) => cs.size
 | _ => 0
def shp : AV -> Option (Bool × TypeId × Nat × List CK)
 | .row lv ty m ks _ => some (lv, ty, m, ks)
 | _ => none
def SlOk (w : World) (ρ : Gh) (σ : Nat -> AV) (g n : Nat) (v : Value) : Prop :=
 ∃ lv ty m ks c, σ g = .row lv ty m ks c /\ n <= m /\ (lv = true -> ∃ cap, v = .slice (some ⟨ρ.b g, 0, none⟩) n cap /\ Rowed w (ρ.b g) ty cap m ks c) /\ (lv = false -> n = 0 /\ ∃ a, v = .slice a 0 0)
def RfOk (w : World) (ρ : Gh) (σ : Nat -> AV) (g i j : Nat) (v : Value) : Prop :=
 ∃ ty m ks c, σ g = .row true ty m ks c /\ i < m /\ v = .pointer (some ⟨ρ.b g, i * ks.length + j, none⟩)
def VOk1 (w : World) (ρ : Gh) (σ : Nat -> AV) (x : AV) (v : Value) : Prop := match x with
 | .ref g k => v = .pointer (some ⟨ρ.b g, k, none⟩) /\ isBox (σ g) = true
 | .sl g n => SlOk w ρ σ g n v
 | .rf g i j => RfOk w ρ σ g i j v
 | x => Rep w ρ.F x v
def VOk (w : World) (ρ : Gh) (σ : Nat -> AV) (x : AV) (v : Value) : Prop := match x with
 | .tup l => ∃ cs : List Value, v = .tuple ⟨cs⟩ /\ l.length = cs.length /\ ∀ i, i < l.length -> VOk1 w ρ σ (l.getD i .non) (cs.getD i undef)
 | x => VOk1 w ρ σ x v
structure Rr (E : Ext) (N : Nat) (B : Nat -> Prop) (w0 : World) (ρ : Gh) (σ : Nat -> AV) (a : Act) (w : World) : Prop where
 dfr : a.defers = []
 siz : a.tmps.size = E.n
 out : ∀ t, N <= t -> σ t = .non
 blw : BelowX w0.heap.size E.X w0 w
 bf : ∀ b, B b -> ρ.F b
 frz : ∀ b, ρ.F b -> (B b \/ w0.heap.size <= b) /\ b < w.heap.size /\ ∀ t, isOwn (σ t) = true -> ρ.b t ≠ b
 own : ∀ t ty c, σ t = .own ty c -> a.eval (.tmp t) = .pointer (some ⟨ρ.b t, 0, none⟩) /\ w0.heap.size <= ρ.b t /\
  ∃ cs : List Value, w.heap[ρ.b t]? = some (.cells ⟨cs⟩ ty (0, 0)) /\ c.length = cs.length /\ ∀ i, i < c.length -> Rep w ρ.F (c.getD i .non) (cs.getD i undef)
 inj : ∀ t t', isOwn (σ t) = true -> isOwn (σ t') = true -> ρ.b t = ρ.b t' -> t = t'
 val : ∀ t, isSlot (σ t) = false -> VOk w ρ σ (σ t) (a.eval (.tmp t))
 vow : ∀ t ty c, σ t = .vown ty c -> E.X (ρ.b t) /\
  ∃ cs : List Value, w.heap[ρ.b t]? = some (.cells ⟨cs⟩ ty (0, 0)) /\ c.length = cs.length /\ ∀ i, i < c.length -> Rep w ρ.F (c.getD i .non) (cs.getD i undef)
 row : ∀ g lv ty m ks c, σ g = .row lv ty m ks c -> E.n <= g /\ (lv = false -> m = 0) /\ (lv = true -> ((w0.heap.size <= ρ.b g /\ E.v <= g) \/ (E.X (ρ.b g) /\ g < E.v)) /\ ∃ cap, Rowed w (ρ.b g) ty cap m ks c)
 vir : ∀ t, E.n <= t -> t < E.v -> isSlot (σ t) = true /\ ρ.b t = E.px t /\ shp (σ t) = E.sh t /\ (isOwn (σ t) = true -> isBox (σ t) = false -> csz w (ρ.b t) = E.cz t)
 vle : E.n <= E.v /\ E.v <= N
def ofCell : Value -> AV := fun v => .val v
def ofVal : Value -> AV
 | .agg ⟨l⟩ => .agg (l.map ofCell)
 | .tuple ⟨l⟩ => match l with
  | [] => .val (.tuple #[])
  | l => .tup (l.map fun v => match v with | .agg ⟨l⟩ => .agg (l.map ofCell) | v => ofCell v)
 | v => ofCell v
theorem rep_ofCell {w : World} {B : Nat -> Prop} (v : Value) : Rep w B (ofCell v) v := by
 exact .val _
theorem rep_list {w : World} {B : Nat -> Prop} (f : Value -> AV) (hf : ∀ v, Rep w B (f v) v) (l : List Value) : ∀ i, i < (l.map f).length -> Rep w B ((l.map f).getD i .non) (l.getD i undef) := by
 intro i hi
 have hi' : i < l.length := by simpa using hi
 simp only [List.getD, List.getElem?_map, List.getElem?_eq_getElem hi', Option.map_some, Option.getD_some]
 exact hf _
theorem rep_ofVal {w : World} {B : Nat -> Prop} (v : Value) : Rep w B (ofVal v) v := by
 unfold ofVal
 split
 ·exact .agg _ _ (by simp) (rep_list _ rep_ofCell _)
 ·split
  ·exact .val _
  ·refine .tup _ _ (by simp) (rep_list _ (fun v => ?_) _)
   split
   ·exact .agg _ _ (by simp) (rep_list _ rep_ofCell _)
   ·exact rep_ofCell _
 ·exact rep_ofCell _
def cellV : AV -> Option Value
 | .val v => some v
 | _ => none
def cellsV : List AV -> Option (List Value)
 | [] => some []
 | x :: l => match cellV x with
  | some v => match cellsV l with
   | some vs => some (v :: vs)
   | none => none
  | none => none
def toV : AV -> Option Value
 | .val v => some v
 | .agg l => match cellsV l with
  | some vs => some (.agg ⟨vs⟩)
  | none => none
 | _ => none
theorem cellsV_rep {w : World} {B : Nat -> Prop} : ∀ (l : List AV) (vs cs : List Value), cellsV l = some vs -> l.length = cs.length -> (∀ i, i < l.length -> Rep w B (l.getD i .non) (cs.getD i undef)) -> vs = cs
 | [], vs, cs, h, hl, r => by
  simp only [cellsV, Option.some.injEq] at h
  subst h
  cases cs with
  | nil => rfl
  | cons c cs => simp at hl
 | x :: l, vs, cs, h, hl, r => by
  cases cs with
  | nil => simp at hl
  | cons c cs =>
   unfold cellsV at h
   split at h
   ·rename_i v hv
    split at h
    ·rename_i ws hws
     simp only [Option.some.injEq] at h
     subst h
     have h0 := r 0 (by simp)
     simp only [List.getD_cons_zero] at h0
     have e0 : v = c := by
      cases x <;> simp only [cellV, reduceCtorEq, Option.some.injEq] at hv
      subst hv
      cases h0
      rfl
     have e1 := cellsV_rep l ws cs hws (by simpa using hl) (fun i hi => by have := r (i + 1) (by simpa using hi); simpa using this)
     rw [e0, e1]
    ·cases h
   ·cases h
theorem toV_rep {w : World} {B : Nat -> Prop} {x : AV} {v u : Value} (h : toV x = some v) (r : Rep w B x u) : u = v := by
 cases x with
 | val y =>
  simp only [toV, Option.some.injEq] at h
  subst h
  cases r
  rfl
 | agg l =>
  unfold toV at h
  simp only at h
  split at h
  ·rename_i vs hvs
   simp only [Option.some.injEq] at h
   subst h
   cases r with
   | agg l cs hl hr => rw [cellsV_rep l vs cs hvs hl hr]
  ·cases h
 | _ => simp [toV] at h
end Go.Ev
/- The evaluator of single operations and its soundness. -/
namespace Go.Ev
open Go.RowKit
def pv {α : Type} (P : Program) : Sem α -> Option α
 | .pure a => some a
 | .program k => pv P (k P)
 | .mark _ k => pv P k
 | _ => none
theorem pv_run {α : Type} {P : Program} (s : Sem α) : ∀ (x : α), pv P s = some x -> ∀ w, s.run P w = .ok x w := by
 induction s with
 | pure a => intro x h w; simp only [pv, Option.some.injEq] at h; subst h; rfl
 | program k ih => intro x h w; exact ih P x h w
 | mark m k ih => intro x h w; exact ih x h w
 | _ => intro x h; simp [pv] at h
def evA (GL σ : Nat -> AV) : Operand -> AV
 | .tmp t => match σ t with
  | .own _ _ => .ref t 0
  | .vown _ _ => .non
  | .row _ _ _ _ _ => .non
  | x => x
 | .const v => ofVal v
 | .global g => GL g
 | .func f => .val (.func (.func f) #[] #[])
def boxC : AV -> Option (List AV)
 | .own _ c => some c
 | .vown _ c => some c
 | _ => none
def reBox : AV -> List AV -> AV
 | .own t _, c => .own t c
 | .vown t _, c => .vown t c
 | x, _ => x
def splitOut : AV -> AV × List AV
 | .out x os => (x, os)
 | x => (x, [])
def argV (σ : Nat -> AV) : AV -> Option AV
 | .ref g k => match Nat.beq k 0 with
  | true => match σ g with
   | .own t c => some (.own t c)
   | .vown t c => some (.own t c)
   | _ => none
  | false => none
 | .sl g n => match σ g with
  | .row _ _ _ ks c => some (.arr n ks c)
  | _ => none
 | .rf _ _ _ => none
 | .tup _ => none
 | x => some x
def argsV (σ : Nat -> AV) : List AV -> Option (List AV)
 | [] => some []
 | x :: l => match argV σ x with
  | some y => match argsV σ l with
   | some ys => some (y :: ys)
   | none => none
  | none => none
def gsOf : List AV -> List Nat
 | [] => []
 | .ref g _ :: l => g :: gsOf l
 | _ :: l => gsOf l
def hasSl : List AV -> Bool
 | [] => false
 | .sl _ _ :: _ => true
 | _ :: l => hasSl l
def allVal : List AV -> Bool
 | [] => true
 | .val _ :: l => allVal l
 | _ => false
def memFree1 : AV -> Bool
 | .val _ => true
 | .non => true
 | .agg l => allVal l
 | .row _ _ _ _ _ => true
 | _ => false
def allFree : List AV -> Bool
 | [] => true
 | x :: l => match memFree1 x with
  | true => allFree l
  | false => false
def memFree : AV -> Bool
 | .tup l => allFree l
 | x => memFree1 x
def fz1 : AV -> AV
 | .row _ _ m ks c => .arr m ks c
 | x => x
def fz2 : AV -> AV
 | .row _ _ m ks c => .arr m ks c
 | .own _ _ => .non
 | x => x
def isNil {α : Type} : List α -> Bool
 | [] => true
 | _ => false
def fz : AV -> AV
 | .tup l => .tup (l.map fz2)
 | x => fz1 x
def memB (g : Nat) : List Nat -> Bool
 | [] => false
 | x :: l => match Nat.beq x g with
  | true => true
  | false => memB g l
def nodupB : List Nat -> Bool
 | [] => true
 | x :: l => match memB x l with
  | true => false
  | false => nodupB l
def outU (σ : Nat -> AV) : List AV -> List AV -> Option (List (Nat × AV))
 | [], _ => some []
 | .ref g _ :: as, .agg c :: os => match outU σ as os with
  | some u => some ((g, reBox (σ g) c) :: u)
  | none => none
 | .ref _ _ :: _, _ => none
 | _ :: as, _ :: os => outU σ as os
 | _ :: as, [] => outU σ as []
def opsOf : Op -> Option (List Operand)
 | .move x | .assign x | .box _ x | .load _ x | .nilCheck x | .unOp _ _ x | .convert _ _ x | .fieldAddr _ x _ | .field _ x _ | .extract x _ => some [x]
 | .alloc _ => some []
 | .pick c a b => some [c, a, b]
 | .build _ ps | .buildSlice _ _ ps => some (ps.toList.map (·.2))
 | .store _ a v | .binOp _ _ a v _ | .indexAddr _ a v | .index _ a v | .makeSlice _ a v => some [a, v]
 | .slice _ x l h m => some ([x] ++ l.toList ++ h.toList ++ m.toList)
 | .call c => some ((match c.callee with | .value f => [f] | .invoke r _ => [r] | .builtin _ => []) ++ c.args.toList)
 | _ => none
theorem opsOf_spec {o : Op} {l : List Operand} (h : opsOf o = some l) : (∀ cs b, o ≠ .select cs b) /\ ∀ x ∈ o.operands, x ∈ l := by
 cases o <;> simp only [opsOf, reduceCtorEq, Option.some.injEq] at h <;> (try subst h) <;> refine ⟨fun _ _ => by simp, ?_⟩
 all_goals first
  | (simp [Op.operands]; done)
  | skip
 case call c =>
  simp only [Op.operands, Call.operands]
  cases c.callee <;> simp
def rhoOf (GL σ : Nat -> AV) (x : Operand) : Value := match toV (evA GL σ x) with
 | some v => v
 | none => undef
def allV (GL σ : Nat -> AV) : List Operand -> Bool
 | [] => true
 | x :: l => match toV (evA GL σ x) with
  | some _ => allV GL σ l
  | none => false
def gen (P : Program) (GL σ : Nat -> AV) (o : Oper) : Option AV :=
 match opsOf o.op with
 | some l => match allV GL σ l with
  | true => match pv P (execOp (rhoOf GL σ) o) with
   | some (.value v) => some (ofVal v)
   | _ => none
  | false => none
 | none => none
abbrev Ctr := List AV -> Option (Bool × AV)
def find (Γ : List (Nat × Ctr)) (f : Nat) : Option Ctr := match Γ with
 | [] => none
 | (g, s) :: Γ => match Nat.beq g f with
  | true => some s
  | false => find Γ f
def setD (N : Nat) (σ : Nat -> AV) (o : Oper) (x : AV) : Option (List (Nat × AV)) := match o.dst with
 | none => some []
 | some d => match isOwn (σ d), Nat.blt d N with
  | false, true => some [(d, x)]
  | _, _ => none
def ret (c : Bool) (u : Option (List (Nat × AV))) : Option (Bool × List (Nat × AV)) := match u with
 | some u => some (c, u)
 | none => none
def flat : AV -> Option (List AV)
 | .agg l => some l
 | .val (.agg _) => none
 | .val v => some [.val v]
 | .lst n k r => some [.lst n k r]
 | .arr n ks c => some [.arr n ks c]
 | .nils => some [.nils]
 | _ => none
def unArr : AV -> AV
 | .arr n ks c => .lst n ks.length fun i => mkRow ks (c i)
 | .nils => .lst 0 0 fun _ => []
 | .val (.slice none 0 0) => .lst 0 0 fun _ => []
 | x => x
def intsOf : List Value -> Option (List Int)
 | [] => some []
 | .int .i64 x :: l => match intsOf l with
  | some xs => some (x :: xs)
  | none => none
 | _ => none
def sliceAV (n s : Nat) (cells : List Value) : AV := match Nat.beq s 1, intsOf cells with
 | true, some xs => .arr n [.int .i64] fun i _ => xs.getD i 0
 | _, _ => .lst n s fun i => ((cells.drop (i * s)).take s).map ofCell
def allOne : List AV -> Bool
 | [] => true
 | .val v :: l => match v.oneCell' with
  | true => allOne l
  | false => false
 | .lst _ _ _ :: l => allOne l
 | .arr _ _ _ :: l => allOne l
 | .nils :: l => allOne l
 | _ => false
def cellI : CK -> AV -> Option Int
 | .int .u8, .val (.int .u8 x) => match decide (0 <= x) && decide (x < 256) with
  | true => some x
  | false => none
 | .int .u8, _ => none
 | .int k, .val (.int k' x) => match decide (k = k') with
  | true => some x
  | false => none
 | .bool, .val (.bool b) => some (cond b 1 0)
 | .str, .val (.string s) => some (encS s)
 | _, _ => none
def cellsI : List CK -> List AV -> Option (List Int)
 | _, [] => some []
 | k :: ks, x :: l => match cellI k x with
  | some v => match cellsI ks l with
   | some vs => some (v :: vs)
   | none => none
  | none => none
 | [], _ :: _ => none
def rowSet (c : NNI) (i j : Nat) (xs : List Int) : NNI := fun i' j' => match Nat.beq i' i && (Nat.ble j j' && Nat.blt j' (j + xs.length)) with
 | true => xs.getD (j' - j) 0
 | false => c i' j'
def fieldOff (P : Program) (st : TypeId) (f : Nat) : Option (Nat × TypeId) := match P.underlying st with
 | some (.struct fs) => match fs[f]? with
  | some fd => match pv P (sizeOf fd.type) with
   | some 0 => none
   | some _ => some (fd.offset, fd.type)
   | none => none
  | none => none
 | _ => none
def ldAV (P : Program) (ty : TypeId) (c : List AV) : Option AV := match pv P (isAgg ty) with
 | some true => match pv P (sizeOf ty) with
  | some n => match Nat.ble n c.length with
   | true => some (.agg (c.take n))
   | false => none
  | none => none
 | some false => match c with
  | x :: _ => some x
  | [] => none
 | none => none
def splice (c : List AV) (k : Nat) (l : List AV) : List AV := c.take k ++ l ++ c.drop (k + l.length)
def bindSet (N : Nat) (σ : Nat -> AV) (o : Oper) (c : Bool) : Option AV -> Option (Bool × List (Nat × AV))
 | some x => ret c (setD N σ o x)
 | none => none
def elemSz (P : Program) (t : TypeId) : Option Nat := match P.underlying t with
 | some (.slice e) => pv P (sizeOf e)
 | _ => none
def arrOf (P : Program) (t : TypeId) : Option (Nat × Nat) := match P.underlying t with
 | some (.array n e) => match pv P (sizeOf e) with
  | some s => match Nat.ble n 1 with
   | true => none
   | false => some (n, s)
  | none => none
 | _ => none
def bldS (P : Program) (t : TypeId) (n : Nat) (ps : Array (Nat × Value)) : Option (List Value × Nat × TypeId) := match P.underlying t with
 | some (.slice e) => match pv P (sizeOf e), pv P (zeroValue e) with
  | some s, some z => match Nat.ble (n * s) (2 ^ 24), Nat.beq (n * s) 0 with
   | true, false => match Instr.fill (fun i => some (i * s, s)) ((Array.range (n * s)).map (z.cells[· % z.cells.size]!)) ps.toList with
    | some cells => match Nat.beq cells.toList.length (n * s) with
     | true => some (cells.toList, s, e)
     | false => none
    | none => none
   | _, _ => none
  | _, _ => none
 | _ => none
def fillA (pl : Array (Nat × Nat)) : List AV -> List (Nat × AV) -> Option (List AV)
 | c, [] => some c
 | c, (i, x) :: l => match pl[i]?, flat x with
  | some (off, size), some xs => match Nat.beq xs.length size, Nat.ble (off + xs.length) c.length with
   | true, true => fillA pl (splice c off xs) l
   | _, _ => none
  | _, _ => none
def bldA (P : Program) (GL σ : Nat -> AV) (t : TypeId) (ps : List (Nat × Operand)) : Option AV := match P.underlying t with
 | some (.struct fs) => match pv P (zeroValue t), pv P (fs.mapM fun f => do pure (f.offset, <- sizeOf f.type)) with
  | some z, some pl => match fillA pl (z.cells.toList.map ofCell) (ps.map fun p => (p.1, evA GL σ p.2)) with
   | some l => some (.agg l)
   | none => none
  | _, _ => none
 | _ => none
def isAggV : AV -> Bool
 | .agg _ => true
 | .val (.agg _) => true
 | _ => false
def eqFs (P : Program) (f : TypeId -> Value -> Value -> Option Bool) (xs ys : Array Value) : List Field -> Option Bool
 | [] => some true
 | fd :: l => match fd.name == "_", pv P (part fd.type xs fd.offset), pv P (part fd.type ys fd.offset) with
  | false, some a, some b => match f fd.type a b, eqFs P f xs ys l with
   | some c, some r => some (c && r)
   | _, _ => none
  | _, _, _ => none
def eqT (P : Program) : Nat -> TypeId -> Value -> Value -> Option Bool
 | 0, _, _, _ => none
 | n + 1, t, x, y => match P.underlying t, x, y with
  | some (.int _), .int k a, .int k' b => match decide (k = k') with
   | true => some (a == b)
   | false => none
  | some .bool, .bool a, .bool b => some (a == b)
  | some (.struct fs), .agg xs, .agg ys => match P.stoodInHeld t with
   | false => eqFs P (eqT P n) xs ys fs.toList
   | true => none
  | _, _, _ => none
def eqA (P : Program) (op : BinOp) (t : TypeId) (x y : Option Value) : Option AV := match x, y with
 | some (.agg xs), some (.agg ys) => match P.eqGuardType P.depth t, eqT P 8 t (.agg xs) (.agg ys) with
  | false, some b => match op with
   | .eql => some (.val (.bool b))
   | .neq => some (.val (.bool (!b)))
   | _ => none
  | _, _ => none
 | _, _ => none
def callOf (GL : Nat -> AV) (Γ : List (Nat × Ctr)) (N : Nat) (σ : Nat -> AV) (o : Oper) (g : Nat) (args : List Operand) : Option (Bool × List (Nat × AV)) :=
 match find Γ g with
 | some s => match argsV σ (args.map (evA GL σ)), nodupB (gsOf (args.map (evA GL σ))) with
  | some as, true => match s as with
   | some (c, x) => match !hasSl (args.map (evA GL σ)) || (memFree (splitOut x).1 && isNil (gsOf (args.map (evA GL σ)))) with
    | true => match outU σ (args.map (evA GL σ)) (splitOut x).2, setD N σ o (fz (splitOut x).1) with
     | some ou, some u => some (c, u ++ ou)
     | _, _ => none
    | false => none
   | none => none
  | _, _ => none
 | none => none
def intOf (GL σ : Nat -> AV) : Option Operand -> Option Int
 | some x => match evA GL σ x with
  | .val (.int .i64 v) => some v
  | _ => none
 | none => none
def slcOf (P : Program) (GL σ : Nat -> AV) (t : TypeId) (x : AV) (l h m : Option Operand) : Option (Bool × AV) := match m with
 | some _ => none
 | none => match elemSz P t, x with
  | some k, .arr n ks c => match Nat.beq k ks.length, l, h with
   | true, none, some _ => match intOf GL σ h with
    | some b => some (decide (0 <= b) && decide (b <= (n : Int)), .arr b.toNat ks c)
    | none => none
   | true, some _, none => match intOf GL σ l with
    | some a => some (decide (0 <= a) && decide (a <= (n : Int)), .arr (n - a.toNat) ks fun i => c (i + a.toNat))
    | none => none
   | true, some _, some _ => match intOf GL σ l, intOf GL σ h with
    | some a, some b => some (decide (0 <= a) && (decide (a <= b) && decide (b <= (n : Int))), .arr (b.toNat - a.toNat) ks fun i => c (i + a.toNat))
    | _, _ => none
   | _, _, _ => none
  | some k, .lst n k' r => match Nat.beq k k', l, h with
   | true, none, some _ => match intOf GL σ h with
    | some b => some (decide (0 <= b) && decide (b <= (n : Int)), .lst b.toNat k' r)
    | none => none
   | true, some _, none => match intOf GL σ l with
    | some a => some (decide (0 <= a) && decide (a <= (n : Int)), .lst (n - a.toNat) k' fun i => r (i + a.toNat))
    | none => none
   | true, some _, some _ => match intOf GL σ l, intOf GL σ h with
    | some a, some b => some (decide (0 <= a) && (decide (a <= b) && decide (b <= (n : Int))), .lst (b.toNat - a.toNat) k' fun i => r (i + a.toNat))
    | _, _ => none
   | _, _, _ => none
  | _, _ => none
def isNilC (GL σ : Nat -> AV) (y : Operand) : Bool := match evA GL σ y with
 | .val (.slice none 0 0) => true
 | _ => false
def nilEq (P : Program) (t : TypeId) (x : AV) (nil : Bool) : Option (Bool × AV) := match nil, unArr x with
 | true, .lst n _ _ => match elemSz P t with
  | some _ => some (decide (0 < n), .val (.bool false))
  | none => none
 | _, _ => none
def bindSet2 (N : Nat) (σ : Nat -> AV) (o : Oper) : Option (Bool × AV) -> Option (Bool × List (Nat × AV))
 | some (c, x) => ret c (setD N σ o x)
 | none => none
def flats (GL σ : Nat -> AV) : List (Nat × Operand) -> Nat -> Option (List (List AV))
 | [], _ => some []
 | (i, x) :: l, j => match Nat.beq i j, flat (evA GL σ x) with
  | true, some c => match flats GL σ l (j + 1) with
   | some cs => some (c :: cs)
   | none => none
  | _, _ => none
def allLen (k : Nat) : List (List AV) -> Bool
 | [] => true
 | c :: l => match Nat.beq c.length k, allOne c with
  | true, true => allLen k l
  | _, _ => false
def bldL (P : Program) (GL σ : Nat -> AV) (t : TypeId) (n : Nat) (ps : List (Nat × Operand)) : Option AV := match elemSz P t, flats GL σ ps 0 with
 | some k, some cs => match Nat.beq cs.length n, allLen k cs, Nat.ble (n * k) (2 ^ 24), Nat.beq (n * k) 0 with
  | true, true, true, false => match pv P (zeroValue (P.elem t)) with
   | some _ => some (.lst n k fun i => cs.getD i [])
   | none => none
  | _, _, _, _ => none
 | _, _ => none
def funOf : AV -> Option Nat
 | .val (.func (.func g) ⟨[]⟩ ⟨[]⟩) => some g
 | _ => none
def evOp0 (P : Program) (GL : Nat -> AV) (Γ : List (Nat × Ctr)) (N : Nat) (σ : Nat -> AV) (o : Oper) : Option (Bool × List (Nat × AV)) :=
 match o.op with
 | .move x | .assign x => bindSet N σ o true (some (evA GL σ x))
 | .nilCheck x => match evA GL σ x with
  | .ref g k => bindSet N σ o true (some (.ref g k))
  | .eptr c => bindSet N σ o true (some (.eptr c))
  | .rf g i j => bindSet N σ o true (some (.rf g i j))
  | _ => none
 | .box ty x => match flat (evA GL σ x) with
  | some l => bindSet N σ o true (some (.own ty l))
  | none => none
 | .alloc ty => match pv P (zeroValue ty) with
  | some z => bindSet N σ o true (some (.own ty (z.cells.toList.map ofCell)))
  | none => none
 | .fieldAddr st x f => match fieldOff P st f with
  | some (off, _) => match evA GL σ x with
   | .ref g k => bindSet N σ o true (some (.ref g (k + off)))
   | .eptr c => bindSet N σ o true (some (.eptr (c.drop off)))
   | .rf g i j => bindSet N σ o true (some (.rf g i (j + off)))
   | _ => none
  | none => none
 | .load ty x => match evA GL σ x with
  | .ref g k => match boxC (σ g) with
   | some c => bindSet N σ o true (ldAV P ty (c.drop k))
   | none => none
  | .eptr c => bindSet N σ o true (ldAV P ty c)
  | .rf g i j => match σ g with
   | .row _ _ _ ks c => bindSet N σ o true (ldAV P ty ((mkRow ks (c i)).drop j))
   | _ => none
  | _ => none
 | .store ty x v => match o.dst with
  | some _ => none
  | none => match flat (evA GL σ v) with
   | none => none
   | some l => match evA GL σ x with
    | .ref g k => match boxC (σ g) with
     | some c => match pv P (sizeOf ty) with
      | some n => match Nat.beq n l.length, Nat.ble (k + l.length) c.length, allOne l with
       | true, true, true => some (true, [(g, reBox (σ g) (splice c k l))])
       | _, _, _ => none
      | none => none
     | none => none
    | .rf g i j => match σ g with
     | .row lv t m ks c => match pv P (sizeOf ty), cellsI (ks.drop j) l with
      | some n, some xs => match Nat.beq n l.length, Nat.ble (j + l.length) ks.length with
       | true, true => some (true, [(g, .row lv t m ks (rowSet c i j xs))])
       | _, _ => none
      | _, _ => none
     | _ => none
    | _ => none
 | .extract x i => match evA GL σ x with
  | .tup l => match Nat.blt i l.length with
   | true => bindSet N σ o true (some (l.getD i .non))
   | false => none
  | _ => none
 | .field ty x f => match evA GL σ x with
  | .agg l => match fieldOff P ty f with
   | some (off, ft) => bindSet N σ o true (ldAV P ft (l.drop off))
   | none => none
  | _ => none
 | .binOp op t x y yt => match op, evA GL σ x, evA GL σ y with
  | .quo, .val (.int .i64 a), .val (.int .i64 b) => bindSet N σ o (!(b == 0)) (some (.val (.int .i64 (IntKind.i64.wrap (a.tdiv b)))))
  | .rem, .val (.int .i64 a), .val (.int .i64 b) => bindSet N σ o (!(b == 0)) (some (.val (.int .i64 (a.tmod b))))
  | .shl, .val (.int .i64 a), .val (.int .i64 b) => bindSet N σ o (decide (0 <= b)) (some (.val (.int .i64 (IntKind.i64.wrap (a * 2 ^ min b.toNat 64)))))
  | .shr, .val (.int .i64 a), .val (.int .i64 b) => bindSet N σ o (decide (0 <= b)) (some (.val (.int .i64 (a.fdiv (2 ^ min b.toNat 64)))))
  | .eql, x', _ => match nilEq P t x' (isNilC GL σ y) with
   | some r => bindSet2 N σ o (some r)
   | none => match isAggV (evA GL σ x) with
    | true => bindSet N σ o true (eqA P op t (toV (evA GL σ x)) (toV (evA GL σ y)))
    | false => bindSet N σ o true (gen P GL σ o)
  | _, _, _ => match isAggV (evA GL σ x) with
   | true => bindSet N σ o true (eqA P op t (toV (evA GL σ x)) (toV (evA GL σ y)))
   | false => bindSet N σ o true (gen P GL σ o)
 | .slice t x l h m => match slcOf P GL σ t (evA GL σ x) l h m with
  | some r => bindSet2 N σ o (some r)
  | none => bindSet N σ o true (gen P GL σ o)
 | .indexAddr t x i => match unArr (evA GL σ x), evA GL σ i with
  | .sl g n, .val (.int .i64 j) => match σ g, elemSz P t with
   | .row _ _ _ ks _, some k => match Nat.beq k ks.length with
    | true => bindSet N σ o (decide (0 <= j) && decide (j < (n : Int))) (some (.rf g j.toNat 0))
    | false => none
   | _, _ => none
  | .lst n k row, .val (.int .i64 j) => match elemSz P t with
   | some k' => match Nat.beq k k' with
    | true => bindSet N σ o (decide (0 <= j) && decide (j < (n : Int))) (some (.eptr (row j.toNat)))
    | false => none
   | none => none
  | .eptr c, .val (.int .i64 j) => match arrOf P t with
   | some (n, s) => bindSet N σ o (decide (0 <= j) && decide (j < (n : Int))) (some (.eptr (c.drop (j.toNat * s))))
   | none => none
  | .ref g k, .val (.int .i64 j) => match arrOf P t with
   | some (n, s) => bindSet N σ o (decide (0 <= j) && decide (j < (n : Int))) (some (.ref g (k + j.toNat * s)))
   | none => none
  | _, _ => none
 | .call c => match c.callee with
  | .value (.func g) => callOf GL Γ N σ o g c.args.toList
  | .value (.tmp t) => match funOf (evA GL σ (.tmp t)) with
   | some g => callOf GL Γ N σ o g c.args.toList
   | none => none
  | .builtin .len => match c.args.toList with
   | [x] => match unArr (evA GL σ x) with
    | .lst n _ _ => match c.argTypes.toList with
     | t :: _ => match P.underlying t with
      | some (.slice _) => bindSet N σ o true (some (.val (.int .i64 n)))
      | _ => none
     | [] => none
    | .sl _ n => match c.argTypes.toList with
     | t :: _ => match P.underlying t with
      | some (.slice _) => bindSet N σ o true (some (.val (.int .i64 n)))
      | _ => none
     | [] => none
    | _ => bindSet N σ o true (gen P GL σ o)
   | _ => none
  | .builtin .max => bindSet N σ o true (gen P GL σ o)
  | .builtin .min => bindSet N σ o true (gen P GL σ o)
  | .builtin .cap => bindSet N σ o true (gen P GL σ o)
  | _ => none
 | .unOp _ _ _ | .convert _ _ _ | .pick _ _ _ | .index _ _ _ => bindSet N σ o true (gen P GL σ o)
 | .build t ps => match gen P GL σ o with
  | some x => bindSet N σ o true (some x)
  | none => bindSet N σ o true (bldA P GL σ t ps.toList)
 | .buildSlice t n ps => match allV GL σ (ps.toList.map (·.2)) with
  | true => match bldS P t n (ps.map fun (i, x) => (i, rhoOf GL σ x)) with
   | some (cells, s, _) => bindSet N σ o true (some (sliceAV n s cells))
   | none => match n, ps.toList, elemSz P t with
    | 0, [], some _ => bindSet N σ o true (some .nils)
    | _, _, _ => none
  | false => bindSet N σ o true (bldL P GL σ t n ps.toList)
 | _ => none
def byteA (s : ByteArray) (i : Nat) : Int := ((s.data.toList.getD i 0).toNat : Int)
def u8Row (row : Nat -> List AV) : Nat -> Nat -> Option (List Int)
 | _, 0 => some []
 | i, n + 1 => match row i with
  | [.val (.int .u8 v)] => match u8Row row (i + 1) n with
   | some l => some (v :: l)
   | none => none
  | _ => none
def u8S (ns : List Int) : ByteArray := ⟨(ns.map fun n => UInt8.ofNat n.toNat).toArray⟩
def u8C (n : Nat) (c : NNI) : ByteArray := u8S ((List.range n).map fun i => c i 0 % 256)
def strOp (P : Program) (GL σ : Nat -> AV) (o : Oper) : Option (Bool × AV) := match o.op with
 | .binOp .add _ x y _ => match evA GL σ x, evA GL σ y with
  | .val (.string a), .val (.string b) => some (Nat.ble (a.size + b.size) 9223372036854775807, .val (.string (a ++ b)))
  | _, _ => none
 | .index t x i => match evA GL σ x, evA GL σ i, P.underlying t with
  | .val (.string s), .val (.int .i64 j), some .string => some (decide (0 <= j) && decide (j < (s.size : Int)), .val (.int .u8 (byteA s j.toNat)))
  | _, _, _ => none
 | .slice t x l h none => match evA GL σ x, P.underlying t with
  | .val (.string s), some .string => match l, h with
   | none, some _ => match intOf GL σ h with
    | some b => some (decide (0 <= b) && decide (b <= (s.size : Int)), .val (.string (s.extract 0 b.toNat)))
    | none => none
   | some _, none => match intOf GL σ l with
    | some a => some (decide (0 <= a) && decide (a <= (s.size : Int)), .val (.string (s.extract a.toNat s.size)))
    | none => none
   | some _, some _ => match intOf GL σ l, intOf GL σ h with
    | some a, some b => some (decide (0 <= a) && (decide (a <= b) && decide (b <= (s.size : Int))), .val (.string (s.extract a.toNat b.toNat)))
    | _, _ => none
   | none, none => none
  | _, _ => none
 | .convert src dst x => match P.underlying src, P.underlying dst, evA GL σ x with
  | some (.slice e), some .string, .lst (n + 1) k row => match P.underlying e, Nat.beq k 1, u8Row row 0 (n + 1) with
   | some (.int .u8), true, some l => some (true, .val (.string (u8S l)))
   | _, _, _ => none
  | some (.slice e), some .string, .arr n [.int .u8] c => match P.underlying e with
   | some (.int .u8) => some (true, .val (.string (u8C n c)))
   | _ => none
  | _, _, _ => none
 | _ => none
def evOp (P : Program) (GL : Nat -> AV) (Γ : List (Nat × Ctr)) (N : Nat) (σ : Nat -> AV) (o : Oper) : Option (Bool × List (Nat × AV)) := match strOp P GL σ o with
 | some r => bindSet2 N σ o (some r)
 | none => evOp0 P GL Γ N σ o
def look (ups : List (Nat × AV)) (t : Nat) : Option AV := match ups with
 | [] => none
 | (d, x) :: ups => match Nat.beq d t with
  | true => some x
  | false => look ups t
def upd (σ : Nat -> AV) (ups : List (Nat × AV)) (t : Nat) : AV := (look ups t).getD (σ t)
def Boxed (w : World) (B : Nat -> Prop) (b : Nat) (ty : TypeId) (c : List AV) : Prop :=
 ∃ cs : List Value, w.heap[b]? = some (.cells ⟨cs⟩ ty (0, 0)) /\ c.length = cs.length /\ ∀ i, i < c.length -> Rep w B (c.getD i .non) (cs.getD i undef)
def ArgOk (w : World) (B : Nat -> Prop) (b : Nat) (x : AV) (v : Value) : Prop := match x with
 | .own ty c => v = .pointer (some ⟨b, 0, none⟩) /\ ¬ B b /\ Boxed w B b ty c
 | .row lv ty n ks c => (lv = true -> ∃ cap, v = .slice (some ⟨b, 0, none⟩) n cap /\ ¬ B b /\ Rowed w b ty cap n ks c) /\ (lv = false -> n = 0 /\ ∃ a, v = .slice a 0 0)
 | x => Rep w B x v
def ResOk1 (w w' : World) (B' : Nat -> Prop) (b : Nat) (x : AV) (v : Value) : Prop := match x with
 | .own ty c => v = .pointer (some ⟨b, 0, none⟩) /\ w.heap.size <= b /\ ¬ B' b /\ Boxed w' B' b ty c
 | .row lv ty n ks c => (lv = true -> ∃ cap, v = .slice (some ⟨b, 0, none⟩) n cap /\ w.heap.size <= b /\ b < w'.heap.size /\ ¬ B' b /\ Rowed w' b ty cap n ks c) /\ (lv = false -> n = 0 /\ ∃ a, v = .slice a 0 0)
 | x => Rep w' B' x v
def ResOk (w w' : World) (B' : Nat -> Prop) (x : AV) (v : Value) : Prop := match x with
 | .tup l => ∃ (cs : List Value) (β : Nat -> Nat), v = .tuple ⟨cs⟩ /\ l.length = cs.length /\ (∀ i, i < l.length -> ResOk1 w w' B' (β i) (l.getD i .non) (cs.getD i undef)) /\
   ∀ i j, i < l.length -> j < l.length -> isOwn (l.getD i .non) = true -> isOwn (l.getD j .non) = true -> β i = β j -> i = j
 | x => ∃ b, ResOk1 w w' B' b x v
def OutOk (w' : World) (B' : Nat -> Prop) (b : Nat) (x y : AV) (v : Value) : Prop := match x with
 | .own ty _ => ∃ c', y = .agg c' /\ Boxed w' B' b ty c'
 | .row lv ty n ks _ => ∃ c', y = .row lv ty n ks c' /\ (lv = true -> ∀ cap, v = .slice (some ⟨b, 0, none⟩) n cap -> Rowed w' b ty cap n ks c')
 | _ => True
def Meets (P : Program) (GL : Nat -> AV) (f : FuncId) (s : Ctr) : Prop :=
 (∃ fn, P.funcs[f]? = some fn /\ (fn.name == "runtime.NumGoroutine") = false /\ fn.body.isSome = true) /\
 ∀ (args : List AV) (x : AV), s args = some (true, x) -> ∀ (w : World) (B : Nat -> Prop) (vs : List Value) (β : Nat -> Nat), (∀ b, B b -> b < w.heap.size) ->
  (GOk w B GL) -> args.length = vs.length -> (∀ i, i < args.length -> ArgOk w B (β i) (args.getD i .non) (vs.getD i undef)) ->
  (∀ i j, i < args.length -> j < args.length -> isOwn (args.getD i .non) = true -> isOwn (args.getD j .non) = true -> β i = β j -> i = j) ->
  Calls P f ⟨vs⟩ w fun e w' => ∃ v, e = .returned v /\ BelowX w.heap.size (fun b => ∃ i, i < args.length /\ isOwn (args.getD i .non) = true /\ b = β i) w w' /\
   ∃ B' : Nat -> Prop, (∀ b, B' b -> (B b \/ w.heap.size <= b) /\ b < w'.heap.size) /\ ResOk w w' B' (splitOut x).1 v /\
    ∀ i, i < args.length -> OutOk w' B' (β i) (args.getD i .non) ((splitOut x).2.getD i .non) (vs.getD i undef)
def Sound (P : Program) (GL : Nat -> AV) (Γ : List (Nat × Ctr)) : Prop := ∀ f s, find Γ f = some s -> Meets P GL f s
theorem Rep.notOwn {w : World} {B : Nat -> Prop} {x : AV} {v : Value} (h : Rep w B x v) : isSlot x = false := by cases h <;> rfl
theorem Rep.vok1 {w : World} {ρ : Gh} {σ : Nat -> AV} {x : AV} {v : Value} (h : Rep w ρ.F x v) : VOk1 w ρ σ x v := by
 cases h <;> constructor <;> assumption
theorem VOk.one {w : World} {ρ : Gh} {σ : Nat -> AV} {x : AV} {v : Value} (hx : ∀ l, x ≠ .tup l) : VOk w ρ σ x v = VOk1 w ρ σ x v := by
 cases x <;> first | rfl | exact absurd rfl (hx _)
theorem Rep.vok {w : World} {ρ : Gh} {σ : Nat -> AV} {x : AV} {v : Value} (h : Rep w ρ.F x v) : VOk w ρ σ x v := by
 by_cases hx : ∃ l, x = .tup l
 ·obtain ⟨l, rfl⟩ := hx
  cases h with
  | tup l cs h r => exact ⟨cs, rfl, h, fun i hi => (r i hi).vok1⟩
 ·rw [VOk.one fun l e => hx ⟨l, e⟩]
  exact h.vok1
theorem VOk.rep {w : World} {ρ : Gh} {σ : Nat -> AV} {x : AV} {v : Value} (h : VOk w ρ σ x v) (hx : isRep x = true) : Rep w ρ.F x v := by
 cases x <;> first | exact h | (simp [isRep] at hx)
section
variable {P : Program} {GL : Nat -> AV} {Γ : List (Nat × Ctr)} {E : Ext} {N : Nat} {B : Nat -> Prop} {w0 w : World} {ρ : Gh} {σ : Nat -> AV} {a : Act}
theorem isOwn_iff {x : AV} : isOwn x = true ↔ (∃ ty c, x = .own ty c) \/ (∃ ty c, x = .vown ty c) \/ ∃ ty m ks c, x = .row true ty m ks c := by
 cases x with
 | row lv ty m ks c => cases lv <;> simp [isOwn]
 | _ => simp [isOwn]
theorem lt_of_cells {w : World} {b : Nat} {x : Obj} (h : w.heap[b]? = some x) : b < w.heap.size := by
 rcases Nat.lt_or_ge b w.heap.size with h' | h'
 ·exact h'
 ·rw [Array.getElem?_eq_none h'] at h; cases h
theorem csz_same {w w' : World} {b : Nat} (h : w'.heap[b]? = w.heap[b]?) : csz w' b = csz w b := by unfold csz; rw [h]
theorem Rowed.csz {w : World} {b ty cap m ks c} (h : Rowed w b ty cap m ks c) : csz w b = cap * ks.length := by
 obtain ⟨cs, z, h1, _, h2, _⟩ := h
 unfold Ev.csz
 rw [h1]
 exact h2
theorem Rowed.lt {b ty cap m ks c} (h : Rowed w b ty cap m ks c) : b < w.heap.size := by
 obtain ⟨cs, z, h, _⟩ := h
 exact lt_of_cells h
theorem Rr.lt (hR : Rr E N B w0 ρ σ a w) {t : Nat} (h : isOwn (σ t) = true) : ρ.b t < w.heap.size := by
 rcases isOwn_iff.1 h with ⟨ty, c, e⟩ | ⟨ty, c, e⟩ | ⟨ty, m, ks, c, e⟩
 ·obtain ⟨_, _, cs, e3, _⟩ := hR.own t ty c e
  exact lt_of_cells e3
 ·obtain ⟨_, cs, e3, _⟩ := hR.vow t ty c e
  exact lt_of_cells e3
 ·obtain ⟨_, _, h⟩ := hR.row t true ty m ks c e
  obtain ⟨_, _, h⟩ := h rfl
  exact h.lt
theorem Rr.apart (hR : Rr E N B w0 ρ σ a w) {t b : Nat} (h : isOwn (σ t) = true) (hb : b < w0.heap.size /\ ¬ E.X b) : ρ.b t ≠ b := by
 intro e
 rcases isOwn_iff.1 h with ⟨ty, c, e'⟩ | ⟨ty, c, e'⟩ | ⟨ty, m, ks, c, e'⟩
 ·have := (hR.own t ty c e').2.1
  omega
 ·exact hb.2 (e ▸ (hR.vow t ty c e').1)
 ·rcases ((hR.row t true ty m ks c e').2.2 rfl).1 with h | h
  ·omega
  ·exact hb.2 (e ▸ h.1)
theorem evA_own {t : Nat} {ty : TypeId} {c : List AV} (h : σ t = .own ty c) : evA GL σ (.tmp t) = .ref t 0 := by
 simp only [evA, h]
theorem evA_tmp {t : Nat} (h : isSlot (σ t) = false) : evA GL σ (.tmp t) = σ t := by
 simp only [evA]
 split <;> first | rfl | (rename_i e; rw [e] at h; cases h)
theorem evA_vok (hR : Rr E N B w0 ρ σ a w) (hG : GOk w0 B GL) (hB : ∀ b, B b -> b < w0.heap.size /\ ¬ E.X b) (x : Operand) :
  VOk w ρ σ (evA GL σ x) (a.eval x) := by
 cases x with
 | tmp t =>
  by_cases ho : isSlot (σ t) = true
  ·cases e : σ t with
   | own ty c => rw [evA_own e]; exact ⟨(hR.own t ty c e).1, by rw [e]; rfl⟩
   | vown ty c =>
    have e' : evA GL σ (.tmp t) = .non := by simp only [evA, e]
    rw [e']; exact Rep.non _
   | row lv ty m ks c =>
    have e' : evA GL σ (.tmp t) = .non := by simp only [evA, e]
    rw [e']; exact Rep.non _
   | _ => rw [e] at ho; cases ho
  ·rw [evA_tmp (by simpa using ho)]
   exact hR.val t (by simpa using ho)
 | const v => exact (rep_ofVal v).vok
 | global g =>
  have hg := hG.rep g
  exact (hg.mono fun b hb => ⟨hR.bf b hb, hR.blw.block b (hB b hb).1 (hB b hb).2⟩).vok
 | func f => exact Rep.val _
theorem evA_ns (hR : Rr E N B w0 ρ σ a w) (hG : GOk w0 B GL) (hB : ∀ b, B b -> b < w0.heap.size /\ ¬ E.X b) (x : Operand) : isSlot (evA GL σ x) = false := by
 cases x with
 | tmp t =>
  by_cases ho : isSlot (σ t) = true
  ·cases e : σ t <;> simp only [evA, e] <;> first | rfl | (rw [e] at ho; cases ho)
  ·rw [evA_tmp (by simpa using ho)]; simpa using ho
 | const v => exact (rep_ofVal (w := w) (B := B) v).notOwn
 | global g => exact (hG.rep g).notOwn
 | func f => rfl
theorem evA_ref (hR : Rr E N B w0 ρ σ a w) (hG : GOk w0 B GL) (hB : ∀ b, B b -> b < w0.heap.size /\ ¬ E.X b) {x : Operand} {g k : Nat} (h : evA GL σ x = .ref g k) :
  a.eval x = .pointer (some ⟨ρ.b g, k, none⟩) /\ isBox (σ g) = true := by
 have := evA_vok hR hG hB x
 rw [h] at this
 exact this
theorem evA_rep (hR : Rr E N B w0 ρ σ a w) (hG : GOk w0 B GL) (hB : ∀ b, B b -> b < w0.heap.size /\ ¬ E.X b) {x : Operand} (h : isRep (evA GL σ x) = true) :
  Rep w ρ.F (evA GL σ x) (a.eval x) := (evA_vok hR hG hB x).rep h
theorem toV_isRep {x : AV} {v : Value} (h : toV x = some v) : isRep x = true := by cases x <;> simp_all [toV, isRep]
theorem toV_eval (hR : Rr E N B w0 ρ σ a w) (hG : GOk w0 B GL) (hB : ∀ b, B b -> b < w0.heap.size /\ ¬ E.X b) {x : Operand} {v : Value} (h : toV (evA GL σ x) = some v) : a.eval x = v :=
 toV_rep h (evA_rep hR hG hB (toV_isRep h))
theorem allV_spec : ∀ (l : List Operand), allV GL σ l = true -> ∀ x ∈ l, ∃ v, toV (evA GL σ x) = some v
 | [], _, x, hx => by cases hx
 | y :: l, h, x, hx => by
  unfold allV at h
  split at h
  ·rename_i v hv
   rcases List.mem_cons.1 hx with rfl | hx
   ·exact ⟨v, hv⟩
   ·exact allV_spec l h x hx
  ·cases h
theorem gen_run (hR : Rr E N B w0 ρ σ a w) (hG : GOk w0 B GL) (hB : ∀ b, B b -> b < w0.heap.size /\ ¬ E.X b) {o : Oper} {x : AV} (h : gen P GL σ o = some x) :
  ∃ v, (execOp a.eval o).run P w = .ok (.value v) w /\ x = ofVal v := by
 unfold gen at h
 split at h
 ·rename_i l hl
  split at h
  ·rename_i hv
   split at h
   ·rename_i v he
    cases h
    refine ⟨v, ?_, rfl⟩
    rw [execOp_congr (ρ' := rhoOf GL σ) o (opsOf_spec hl).1 fun x hx => ?_]
    ·exact pv_run _ _ he w
    ·obtain ⟨u, hu⟩ := allV_spec l hv x ((opsOf_spec hl).2 x hx)
     rw [toV_eval hR hG hB hu]
     simp [rhoOf, hu]
   ·cases h
  ·cases h
 ·cases h
theorem beq_ne {d t : Nat} (h : d ≠ t) : Nat.beq d t = false := by
 cases e : Nat.beq d t with
 | false => rfl
 | true => exact absurd (Nat.eq_of_beq_eq_true e) h
theorem eval_put_same {d : Nat} {v : Value} (hd : d < a.tmps.size) : (a.put (some d) v).eval (.tmp d) = v := by
 simp [Act.eval, Act.put, hd]
theorem eval_put_ne {d t : Nat} {v : Value} (h : t ≠ d) : (a.put (some d) v).eval (.tmp t) = a.eval (.tmp t) :=
 Act.eval_put (fun e he hx => by cases he; cases hx; exact h rfl)
theorem put_size {d : Option Tmp} {v : Value} : (a.put d v).tmps.size = a.tmps.size := by cases d <;> simp [Act.put]
theorem put_defers {d : Option Tmp} {v : Value} : (a.put d v).defers = a.defers := by cases d <;> rfl
theorem upd_one_same {d : Nat} {x : AV} : upd σ [(d, x)] d = x := by simp [upd, look]
theorem upd_one_ne {d t : Nat} {x : AV} (h : t ≠ d) : upd σ [(d, x)] t = σ t := by
 simp [upd, look, beq_ne (Ne.symm h)]
theorem upd_nil : upd σ [] = σ := rfl
theorem Rr.step (hR : Rr E N B w0 ρ σ a w) {ρ' : Gh} {σ' : Nat -> AV} {w' : World} {d : Option Tmp} {v : Value}
  (hb : BelowX w0.heap.size E.X w0 w')
  (hout : ∀ t, N <= t -> σ' t = .non)
  (hF : ∀ b, ρ.F b -> ρ'.F b) (hFw : ∀ b, ρ.F b -> w'.heap[b]? = w.heap[b]?)
  (hfrz : ∀ b, ρ'.F b -> (B b \/ w0.heap.size <= b) /\ b < w'.heap.size /\ ∀ t, isOwn (σ' t) = true -> ρ'.b t ≠ b)
  (hinj : ∀ t t', isOwn (σ' t) = true -> isOwn (σ' t') = true -> ρ'.b t = ρ'.b t' -> t = t')
  (hval : ∀ t, isSlot (σ' t) = false -> VOk w' ρ' σ' (σ' t) ((a.put d v).eval (.tmp t)))
  (hown : ∀ t ty c, σ' t = .own ty c -> (a.put d v).eval (.tmp t) = .pointer (some ⟨ρ'.b t, 0, none⟩) /\ w0.heap.size <= ρ'.b t /\ Boxed w' ρ'.F (ρ'.b t) ty c)
  (hvow : ∀ t ty c, σ' t = .vown ty c -> E.X (ρ'.b t) /\ Boxed w' ρ'.F (ρ'.b t) ty c)
  (hrow : ∀ g lv ty m ks c, σ' g = .row lv ty m ks c -> E.n <= g /\ (lv = false -> m = 0) /\ (lv = true -> ((w0.heap.size <= ρ'.b g /\ E.v <= g) \/ (E.X (ρ'.b g) /\ g < E.v)) /\ ∃ cap, Rowed w' (ρ'.b g) ty cap m ks c))
  (hvir : ∀ t, E.n <= t -> t < E.v -> isSlot (σ' t) = true /\ ρ'.b t = E.px t /\ shp (σ' t) = E.sh t /\ (isOwn (σ' t) = true -> isBox (σ' t) = false -> csz w' (ρ'.b t) = E.cz t)) : Rr E N B w0 ρ' σ' (a.put d v) w' :=
 ⟨put_defers.trans hR.dfr, put_size.trans hR.siz, hout, hb, fun b hb => hF b (hR.bf b hb), hfrz, hown, hinj, hval, hvow, hrow, hvir, hR.vle⟩
theorem SlOk.mono {w' : World} {ρ' : Gh} {σ' : Nat -> AV} {g n : Nat} {v : Value} (h : SlOk w ρ σ g n v) (hs : σ' g = σ g) (hb : isOwn (σ g) = true -> ρ'.b g = ρ.b g /\ w'.heap[ρ.b g]? = w.heap[ρ.b g]?) : SlOk w' ρ' σ' g n v := by
 obtain ⟨lv, ty, m, ks, c, h1, h2, h3, h4⟩ := h
 refine ⟨lv, ty, m, ks, c, hs.trans h1, h2, fun hl => ?_, h4⟩
 obtain ⟨cap, e, cs, r⟩ := h3 hl
 obtain ⟨e1, e2⟩ := hb (by rw [h1]; exact hl)
 exact ⟨cap, by rw [e1]; exact e, cs, by rw [e1, e2]; exact r⟩
theorem RfOk.mono {w' : World} {ρ' : Gh} {σ' : Nat -> AV} {g i j : Nat} {v : Value} (h : RfOk w ρ σ g i j v) (hs : σ' g = σ g) (hb : isOwn (σ g) = true -> ρ'.b g = ρ.b g) : RfOk w' ρ' σ' g i j v := by
 obtain ⟨ty, m, ks, c, h1, h2, h3⟩ := h
 exact ⟨ty, m, ks, c, hs.trans h1, h2, by rw [hb (by rw [h1]; rfl)]; exact h3⟩
def siteOf : AV -> Option Nat
 | .ref g _ => some g
 | .sl g _ => some g
 | .rf g _ _ => some g
 | _ => none
def sitesOf : AV -> List Nat
 | .tup l => l.filterMap siteOf
 | x => (siteOf x).toList
theorem VOk1.mono {w' : World} {ρ' : Gh} {σ' : Nat -> AV} {x : AV} {v : Value} (h : VOk1 w ρ σ x v) (hF : ∀ b, ρ.F b -> ρ'.F b /\ w'.heap[b]? = w.heap[b]?)
  (hs : ∀ g, siteOf x = some g -> (isBox (σ g) = true -> isBox (σ' g) = true /\ ρ'.b g = ρ.b g) /\ (isBox (σ g) = false -> σ' g = σ g /\ (isOwn (σ g) = true -> ρ'.b g = ρ.b g /\ w'.heap[ρ.b g]? = w.heap[ρ.b g]?))) : VOk1 w' ρ' σ' x v := by
 cases x with
 | ref g k =>
  obtain ⟨h1, h2⟩ := h
  obtain ⟨k1, k2⟩ := (hs g rfl).1 h2
  exact ⟨by rw [k2]; exact h1, k1⟩
 | sl g n =>
  have hb : isBox (σ g) = false := by obtain ⟨lv, ty, m, ks, c, h1, _⟩ := h; rw [h1]; rfl
  obtain ⟨k1, k2⟩ := (hs g rfl).2 hb
  exact SlOk.mono h k1 k2
 | rf g i j =>
  have hb : isBox (σ g) = false := by obtain ⟨ty, m, ks, c, h1, _⟩ := h; rw [h1]; rfl
  obtain ⟨k1, k2⟩ := (hs g rfl).2 hb
  exact RfOk.mono (w := w) (w' := w') h k1 fun h => (k2 h).1
 | _ => exact Rep.mono h hF
theorem VOk.mono {w' : World} {ρ' : Gh} {σ' : Nat -> AV} {x : AV} {v : Value} (h : VOk w ρ σ x v) (hF : ∀ b, ρ.F b -> ρ'.F b /\ w'.heap[b]? = w.heap[b]?)
  (hs : ∀ g, g ∈ sitesOf x -> (isBox (σ g) = true -> isBox (σ' g) = true /\ ρ'.b g = ρ.b g) /\ (isBox (σ g) = false -> σ' g = σ g /\ (isOwn (σ g) = true -> ρ'.b g = ρ.b g /\ w'.heap[ρ.b g]? = w.heap[ρ.b g]?))) : VOk w' ρ' σ' x v := by
 cases x with
 | tup l =>
  obtain ⟨cs, h1, h2, h3⟩ := h
  refine ⟨cs, h1, h2, fun i hi => (h3 i hi).mono hF fun g hg => hs g ?_⟩
  have : l.getD i .non ∈ l := by simp [List.getD, hi]
  exact List.mem_filterMap.2 ⟨_, this, hg⟩
 | _ =>
  rw [VOk.one (fun l e => by cases e)] at h ⊢
  exact VOk1.mono h hF fun g hg => hs g (by simp [sitesOf, hg])
theorem Rr.put (hR : Rr E N B w0 ρ σ a w) {w' : World} (hb : BelowX w0.heap.size E.X w0 w') (hw : ∀ b, b < w.heap.size -> w'.heap[b]? = w.heap[b]?) (hs : w.heap.size <= w'.heap.size)
  {ρ' : Gh} (hρ : ρ'.b = ρ.b) (hF : ∀ b, ρ.F b -> ρ'.F b) (hF' : ∀ b, ρ'.F b -> ρ.F b \/ (w.heap.size <= b /\ b < w'.heap.size))
  {o : Oper} {x : AV} {u : List (Nat × AV)} {v : Value} (hu : setD E.n σ o x = some u) (hx : isSlot x = false /\ VOk w' ρ' σ x v) :
  Rr E N B w0 ρ' (upd σ u) (a.put o.dst v) w' := by
 have hlt := fun b (h : ρ.F b) => (hR.frz b h).2.1
 have hFw := fun b (h : ρ.F b) => hw b (hlt b h)
 have box : ∀ b ty c, Boxed w ρ.F b ty c -> Boxed w' ρ'.F b ty c := fun b ty c ⟨cs, e3, e4, e5⟩ => ⟨cs, (hw _ (lt_of_cells e3)).trans e3, e4, fun i hi => (e5 i hi).mono fun b hb => ⟨hF b hb, hFw b hb⟩⟩
 have rowd : ∀ b ty cap m ks c, Rowed w b ty cap m ks c -> Rowed w' b ty cap m ks c := fun b ty cap m ks c ⟨cs, z, e3, e4⟩ => ⟨cs, z, (hw _ (lt_of_cells e3)).trans e3, e4⟩
 have frz : ∀ σ' : Nat -> AV, (∀ t, isOwn (σ' t) = isOwn (σ t)) -> ∀ b, ρ'.F b -> (B b \/ w0.heap.size <= b) /\ b < w'.heap.size /\ ∀ t, isOwn (σ' t) = true -> ρ'.b t ≠ b := fun σ' h b hb' => by
  rcases hF' b hb' with h1 | h1
  ·obtain ⟨g1, g2, g3⟩ := hR.frz b h1
   exact ⟨g1, Nat.lt_of_lt_of_le g2 hs, fun t ht => by rw [hρ]; exact g3 t (by rw [<- h]; exact ht)⟩
  ·exact ⟨.inr (Nat.le_trans hR.blw.size h1.1), h1.2, fun t ht => by
    rw [hρ]; have := hR.lt (t := t) (by rw [<- h]; exact ht); omega⟩
 have site : ∀ (σ' : Nat -> AV) (g : Nat), (isSlot (σ g) = true -> σ' g = σ g) -> isSlot (σ g) = true ->
   (isBox (σ g) = true -> isBox (σ' g) = true /\ ρ'.b g = ρ.b g) /\ (isBox (σ g) = false -> σ' g = σ g /\ (isOwn (σ g) = true -> ρ'.b g = ρ.b g /\ w'.heap[ρ.b g]? = w.heap[ρ.b g]?)) := fun σ' g h h' =>
  ⟨fun hb => ⟨by rw [h h']; exact hb, by rw [hρ]⟩, fun _ => ⟨h h', fun ho => ⟨by rw [hρ], hw _ (hR.lt ho)⟩⟩⟩
 have vmono : ∀ (σ' : Nat -> AV), (∀ g, isSlot (σ g) = true -> σ' g = σ g) -> ∀ y u, VOk w ρ σ y u -> VOk w' ρ' σ' y u := fun σ' h y u hy => by
  have key : ∀ y u, VOk1 w ρ σ y u -> VOk1 w' ρ' σ' y u := fun y u hy => hy.mono (fun b hb => ⟨hF b hb, hFw b hb⟩) fun g hg => by
   have hsl : isSlot (σ g) = true := by
    cases y <;> simp only [siteOf, Option.some.injEq, reduceCtorEq] at hg <;> subst hg
    ·exact isOwn_slot (isBox_own hy.2)
    ·obtain ⟨lv, ty, m, ks, c, h1, _⟩ := hy; rw [h1]; rfl
    ·obtain ⟨ty, m, ks, c, h1, _⟩ := hy; rw [h1]; rfl
   exact site σ' g (h g) hsl
  cases y with
  | tup l => obtain ⟨cs, h1, h2, h3⟩ := hy; exact ⟨cs, h1, h2, fun i hi => key _ _ (h3 i hi)⟩
  | _ => rw [VOk.one (fun l e => by cases e)] at hy ⊢; exact key _ _ hy
 unfold setD at hu
 split at hu
 ·rename_i hd
  cases hu
  rw [hd, upd_nil]
  exact hR.step (d := none) hb hR.out hF hFw (frz σ fun _ => rfl) (fun t t' h1 h2 h3 => hR.inj t t' h1 h2 (by rw [hρ] at h3; exact h3)) (fun t ht => vmono σ (fun _ _ => rfl) _ _ (hR.val t ht))
   (fun t ty c e => by obtain ⟨f1, f2, f3⟩ := hR.own t ty c e; exact ⟨by rw [hρ]; exact f1, by rw [hρ]; exact f2, by rw [hρ]; exact box _ _ _ f3⟩)
   (fun t ty c e => by obtain ⟨f1, f2⟩ := hR.vow t ty c e; exact ⟨by rw [hρ]; exact f1, by rw [hρ]; exact box _ _ _ f2⟩)
   (fun g lv ty m ks c e => by obtain ⟨f1, f2, f3⟩ := hR.row g lv ty m ks c e; exact ⟨f1, f2, fun h => by obtain ⟨k1, cap, k2⟩ := f3 h; rw [hρ]; exact ⟨k1, cap, rowd _ _ _ _ _ _ k2⟩⟩)
   (fun t h1 h2 => by obtain ⟨f1, f2, f3, f4⟩ := hR.vir t h1 h2; rw [hρ]; exact ⟨f1, f2, f3, fun ho hb => (csz_same (hw _ (hR.lt ho))).trans (f4 ho hb)⟩)
 ·rename_i d hd
  split at hu
  ·rename_i ho hlt'
   cases hu
   rw [hd]
   have hdn : d < E.n := Nat.le_of_ble_eq_true hlt'
   have hds : d < a.tmps.size := by rw [hR.siz]; exact hdn
   have hdslot : isSlot (σ d) = false := by
    cases h : isSlot (σ d) with
    | false => rfl
    | true =>
     cases e : σ d with
     | own ty c => rw [e] at ho; cases ho
     | vown ty c => rw [e] at ho; cases ho
     | row lv ty m ks c => exact absurd hdn (Nat.not_lt_of_le (hR.row d lv ty m ks c e).1)
     | _ => rw [e] at h; cases h
   have hxs := hx.1
   have hxo : isOwn x = false := by cases h : isOwn x with
    | false => rfl
    | true => rw [isOwn_slot h] at hxs; cases hxs
   have keep : ∀ g, isSlot (σ g) = true -> upd σ [(d, x)] g = σ g := fun g hg => upd_one_ne (fun e => by subst e; rw [hg] at hdslot; cases hdslot)
   have own_iff : ∀ t, isOwn (upd σ [(d, x)] t) = isOwn (σ t) := fun t => by
    by_cases h : t = d
    ·subst h; rw [upd_one_same, hxo, ho]
    ·rw [upd_one_ne h]
   have slot_ne : ∀ t, isSlot (upd σ [(d, x)] t) = true -> t ≠ d := fun t ht e => by subst e; rw [upd_one_same, hxs] at ht; cases ht
   refine hR.step (d := some d) hb (fun t ht => ?_) hF hFw (frz _ own_iff) (fun t t' h1 h2 h3 => hR.inj t t' (by rwa [own_iff] at h1) (by rwa [own_iff] at h2) (by rw [hρ] at h3; exact h3)) (fun t ht => ?_) (fun t ty c e => ?_) (fun t ty c e => ?_) (fun g lv ty m ks c e => ?_) (fun t h1 h2 => ?_)
   ·rw [upd_one_ne (fun h => by subst h; exact absurd hdn (Nat.not_lt_of_le (Nat.le_trans hR.vle.1 (Nat.le_trans hR.vle.2 ht))))]; exact hR.out t ht
   ·by_cases h : t = d
    ·subst h
     rw [upd_one_same, eval_put_same hds]
     have hx2 := hx.2
     have key : ∀ y u, VOk1 w' ρ' σ y u -> VOk1 w' ρ' (upd σ [(t, x)]) y u := fun y u hy => hy.mono (fun b hb => ⟨hb, rfl⟩) fun g hg => by
      have hsl : isSlot (σ g) = true := by
       cases y <;> simp only [siteOf, Option.some.injEq, reduceCtorEq] at hg <;> subst hg
       ·exact isOwn_slot (isBox_own hy.2)
       ·obtain ⟨lv, ty, m, ks, c, h1, _⟩ := hy; rw [h1]; rfl
       ·obtain ⟨ty, m, ks, c, h1, _⟩ := hy; rw [h1]; rfl
      rw [keep g hsl]
      exact ⟨fun h => ⟨h, rfl⟩, fun _ => ⟨rfl, fun _ => ⟨rfl, rfl⟩⟩⟩
     cases x with
     | tup l => obtain ⟨cs, h1, h2, h3⟩ := hx2; exact ⟨cs, h1, h2, fun i hi => key _ _ (h3 i hi)⟩
     | _ => rw [VOk.one (fun l e => by cases e)] at hx2 ⊢; exact key _ _ hx2
    ·rw [upd_one_ne h] at ht ⊢
     rw [eval_put_ne h]
     exact vmono _ keep _ _ (hR.val t ht)
   ·have htd := slot_ne t (by rw [e]; rfl)
    rw [upd_one_ne htd] at e
    obtain ⟨f1, f2, f3⟩ := hR.own t ty c e
    exact ⟨by rw [hρ, eval_put_ne htd]; exact f1, by rw [hρ]; exact f2, by rw [hρ]; exact box _ _ _ f3⟩
   ·have htd := slot_ne t (by rw [e]; rfl)
    rw [upd_one_ne htd] at e
    obtain ⟨f1, f2⟩ := hR.vow t ty c e
    exact ⟨by rw [hρ]; exact f1, by rw [hρ]; exact box _ _ _ f2⟩
   ·have htd := slot_ne g (by rw [e]; rfl)
    rw [upd_one_ne htd] at e
    obtain ⟨f1, f2, f3⟩ := hR.row g lv ty m ks c e
    exact ⟨f1, f2, fun h => by obtain ⟨k1, cap, k2⟩ := f3 h; rw [hρ]; exact ⟨k1, cap, rowd _ _ _ _ _ _ k2⟩⟩
   ·obtain ⟨f1, f2, f3, f4⟩ := hR.vir t h1 h2
    rw [keep t f1, hρ]
    exact ⟨f1, f2, f3, fun ho hb => (csz_same (hw _ (hR.lt ho))).trans (f4 ho hb)⟩
  ·cases hu
theorem Rr.put0 (hR : Rr E N B w0 ρ σ a w) {o : Oper} {x : AV} {u : List (Nat × AV)} {v : Value} (hu : setD E.n σ o x = some u) (hx : isSlot x = false /\ VOk w ρ σ x v) :
  Rr E N B w0 ρ (upd σ u) (a.put o.dst v) w := hR.put hR.blw (fun _ _ => rfl) (Nat.le_refl _) rfl (fun _ h => h) (fun _ h => .inl h) hu hx
end
end Go.Ev
/- Soundness of the evaluation of one operation. -/
namespace Go.Ev
open Go.RowKit
theorem addr_add (b k n : Nat) : (⟨b, k, none⟩ : Addr).add n = ⟨b, k + n, none⟩ := by
 unfold Addr.add
 split
 ·rename_i h; subst h; rfl
 ·rfl
section
variable {P : Program} {GL : Nat -> AV} {Γ : List (Nat × Ctr)} {E : Ext} {N : Nat} {B : Nat -> Prop} {w0 w : World} {ρ : Gh} {σ : Nat -> AV} {a : Act} {o : Oper}
 {K : Act -> World -> Prop} {Q : Exit -> Act -> World -> Prop} {u : List (Nat × AV)}
theorem wp_value {v : Value} {w' : World} (h : (execOp a.eval o).run P w = .ok (.value v) w') (hK : K (a.put o.dst v) w') : o.wp P a w K Q := by
 unfold Oper.wp
 rw [h]
 exact hK
theorem bindSet_spec {c : Bool} {x : Option AV} (h : bindSet N σ o c x = some (true, u)) : c = true /\ ∃ y, x = some y /\ setD N σ o y = some u := by
 unfold bindSet at h
 split at h
 ·rename_i y
  unfold ret at h
  split at h
  ·rename_i u' hu
   simp only [Option.some.injEq, Prod.mk.injEq] at h
   obtain ⟨rfl, rfl⟩ := h
   exact ⟨rfl, _, rfl, hu⟩
  ·cases h
 ·cases h
theorem wp_still (hR : Rr E N B w0 ρ σ a w) {y : AV} (hu : setD E.n σ o y = some u) {v : Value} (hrun : (execOp a.eval o).run P w = .ok (.value v) w)
  (hx : isSlot y = false /\ VOk w ρ σ y v)
  (hK : ∀ ρ' a' w', Rr E N B w0 ρ' (upd σ u) a' w' -> K a' w') : o.wp P a w K Q :=
 wp_value hrun (hK _ _ _ (hR.put0 hu hx))
theorem wp_stillR (hR : Rr E N B w0 ρ σ a w) {y : AV} (hu : setD E.n σ o y = some u) {v : Value} (hrun : (execOp a.eval o).run P w = .ok (.value v) w)
  (hx : Rep w ρ.F y v)
  (hK : ∀ ρ' a' w', Rr E N B w0 ρ' (upd σ u) a' w' -> K a' w') : o.wp P a w K Q :=
 wp_still hR hu hrun ⟨hx.notOwn, hx.vok⟩ hK
def tyC : AV -> Option TypeId
 | .own t _ => some t
 | .vown t _ => some t
 | _ => none
theorem Boxed.mono {B1 B2 : Nat -> Prop} {b : Nat} {ty : TypeId} {c : List AV} (h : Boxed w B1 b ty c) (hb : ∀ b, B1 b -> B2 b) : Boxed w B2 b ty c := by
 obtain ⟨cs, h1, h2, h3⟩ := h
 exact ⟨cs, h1, h2, fun i hi => (h3 i hi).mono fun b h => ⟨hb b h, rfl⟩⟩
theorem reBox_own {x : AV} {c c' : List AV} {ty : TypeId} (h : reBox x c = .own ty c') (hx : isBox x = true) : c = c' /\ ∃ c0, x = .own ty c0 := by
 cases x <;> simp [reBox, isBox] at h hx
 exact ⟨h.2, _, by rw [h.1]⟩
theorem reBox_vown {x : AV} {c c' : List AV} {ty : TypeId} (h : reBox x c = .vown ty c') (hx : isBox x = true) : c = c' /\ ∃ c0, x = .vown ty c0 := by
 cases x <;> simp [reBox, isBox] at h hx
 exact ⟨h.2, _, by rw [h.1]⟩
theorem isOwn_reBox {x : AV} {c : List AV} : isOwn (reBox x c) = isOwn x := by cases x <;> rfl
theorem isBox_reBox {x : AV} {c : List AV} : isBox (reBox x c) = isBox x := by cases x <;> rfl
theorem isSlot_reBox {x : AV} {c : List AV} : isSlot (reBox x c) = isSlot x := by cases x <;> rfl
theorem tyC_own {x : AV} {ty : TypeId} (h : tyC x = some ty) : isBox x = true := by cases x <;> simp [tyC, isBox] at h ⊢
theorem Rr.call (hR : Rr E N B w0 ρ σ a w) {w' : World} (hos : w'.os = w.os) (htp : w'.tape = w.tape) (hop : w'.output = w.output) (hs : w.heap.size <= w'.heap.size)
  (hw : ∀ b, b < w.heap.size -> (∀ t, isOwn (σ t) = true -> ρ.b t ≠ b) -> w'.heap[b]? = w.heap[b]?)
  {B' : Nat -> Prop} (hB' : ∀ b, B' b -> (ρ.F b \/ w.heap.size <= b) /\ b < w'.heap.size)
  {ou : List (Nat × AV)} (h1 : ∀ t y, look ou t = some y -> (∃ ty c, tyC (σ t) = some ty /\ y = reBox (σ t) c /\ Boxed w' B' (ρ.b t) ty c) \/
   ∃ lv ty m ks c c', σ t = .row lv ty m ks c /\ y = .row lv ty m ks c' /\ (lv = true -> ∀ cap, Rowed w (ρ.b t) ty cap m ks c -> Rowed w' (ρ.b t) ty cap m ks c'))
  (h2 : ∀ t, isOwn (σ t) = true -> look ou t = none -> w'.heap[ρ.b t]? = w.heap[ρ.b t]?)
  {x : AV} {v : Value} {u : List (Nat × AV)} (hx : (∃ ty c b, x = .own ty c /\ v = .pointer (some ⟨b, 0, none⟩) /\ w.heap.size <= b /\ ¬ B' b /\ Boxed w' B' b ty c) \/ Rep w' B' x v) (hu : setD E.n σ o x = some u) :
  ∃ β : Nat -> Nat, (∀ t, o.dst ≠ some t -> β t = ρ.b t) /\ Rr E N B w0 ⟨β, fun b => ρ.F b \/ B' b⟩ (upd σ (u ++ ou)) (a.put o.dst v) w' := by
 obtain ⟨bx, hbx⟩ : ∃ bx, ∀ ty c, x = .own ty c -> v = .pointer (some ⟨bx, 0, none⟩) /\ w.heap.size <= bx /\ ¬ B' bx /\ Boxed w' B' bx ty c := by
  rcases hx with ⟨ty, c, b, rfl, h⟩ | h
  ·exact ⟨b, fun _ _ e => by cases e; exact h⟩
  ·exact ⟨0, fun ty c e => by subst e; cases h⟩
 have hxr : (∃ ty c, x = .own ty c) \/ (isSlot x = false /\ Rep w' B' x v) := by
  rcases hx with ⟨ty, c, b, rfl, h⟩ | h
  ·exact .inl ⟨ty, c, rfl⟩
  ·exact .inr ⟨h.notOwn, h⟩
 have hd : ∀ t, (o.dst = some t /\ isSlot (σ t) = false /\ t < E.n /\ upd σ (u ++ ou) t = x /\ (a.put o.dst v).eval (.tmp t) = v) \/
   (o.dst ≠ some t /\ upd σ (u ++ ou) t = (look ou t).getD (σ t) /\ (a.put o.dst v).eval (.tmp t) = a.eval (.tmp t)) := by
  intro t
  unfold setD at hu
  split at hu
  ·rename_i hd
   cases hu
   exact .inr ⟨by rw [hd]; simp, rfl, by rw [hd]; rfl⟩
  ·rename_i d hd
   split at hu
   ·rename_i ho hlt
    cases hu
    have hde : d < E.n := Nat.le_of_ble_eq_true hlt
    have hds : isSlot (σ d) = false := by
     cases h : isSlot (σ d) with
     | false => rfl
     | true =>
      cases e : σ d with
      | own ty c => rw [e] at ho; cases ho
      | vown ty c => rw [e] at ho; cases ho
      | row lv ty m ks c => exact absurd hde (Nat.not_lt_of_le (hR.row d lv ty m ks c e).1)
      | _ => rw [e] at h; cases h
    by_cases h : t = d
    ·subst h
     refine .inl ⟨hd, hds, hde, ?_, ?_⟩
     ·simp [upd, look]
     ·rw [hd]; exact eval_put_same (by rw [hR.siz]; exact hde)
    ·refine .inr ⟨by rw [hd]; intro e; cases e; exact h rfl, ?_, by rw [hd]; exact eval_put_ne h⟩
     simp only [upd, List.cons_append, List.nil_append, look, beq_ne (Ne.symm h)]
   ·cases hu
 obtain ⟨β, pd, pn⟩ : ∃ β : Nat -> Nat, (∀ t, o.dst = some t -> β t = bx) /\ ∀ t, o.dst ≠ some t -> β t = ρ.b t :=
  ⟨fun t => if o.dst = some t then bx else ρ.b t, fun t h => if_pos h, fun t h => if_neg h⟩
 have lks : ∀ t y, look ou t = some y -> isSlot (σ t) = true /\ isOwn y = isOwn (σ t) /\ isSlot y = isSlot (σ t) /\ isBox y = isBox (σ t) := fun t y h => by
  rcases h1 t y h with ⟨ty, c, e1, e2, _⟩ | ⟨lv, ty, m, ks, c, c', e1, e2, _⟩
  ·exact ⟨isOwn_slot (isBox_own (tyC_own e1)), by rw [e2, isOwn_reBox], by rw [e2, isSlot_reBox], by rw [e2, isBox_reBox]⟩
  ·rw [e1, e2]; exact ⟨rfl, rfl, rfl, rfl⟩
 have lkb : ∀ t y, look ou t = some y -> isBox (σ t) = true -> ∃ ty c, tyC (σ t) = some ty /\ y = reBox (σ t) c /\ Boxed w' B' (ρ.b t) ty c := fun t y h hb => by
  rcases h1 t y h with h | ⟨lv, ty, m, ks, c, c', e1, e2, _⟩
  ·exact h
  ·rw [e1] at hb; cases hb
 have gdo : ∀ t, isOwn ((look ou t).getD (σ t)) = isOwn (σ t) := fun t => by
  cases h : look ou t with
  | none => rfl
  | some y => exact (lks t y h).2.1
 have gds : ∀ t, isSlot ((look ou t).getD (σ t)) = isSlot (σ t) := fun t => by
  cases h : look ou t with
  | none => rfl
  | some y => exact (lks t y h).2.2.1
 have gdb : ∀ t, isBox ((look ou t).getD (σ t)) = isBox (σ t) := fun t => by
  cases h : look ou t with
  | none => rfl
  | some y => exact (lks t y h).2.2.2
 have gdh : ∀ t, shp ((look ou t).getD (σ t)) = shp (σ t) := fun t => by
  cases h : look ou t with
  | none => rfl
  | some y =>
   rcases h1 t y h with ⟨ty, c, e1, e2, _⟩ | ⟨lv, ty, m, ks, c, c', e1, e2, _⟩
   ·rw [e2]
    cases hx : σ t <;> first | rfl | (rw [hx] at e1; cases e1)
   ·rw [e1, e2]; rfl
 have gd' : ∀ t, isSlot (σ t) = false -> (look ou t).getD (σ t) = σ t := fun t ht => by
  cases h : look ou t with
  | none => rfl
  | some y => rw [(lks t y h).1] at ht; cases ht
 have ow : ∀ t, isOwn (upd σ (u ++ ou) t) = true -> (o.dst = some t /\ (∃ ty c, x = .own ty c) /\ β t = bx) \/ (o.dst ≠ some t /\ isOwn (σ t) = true /\ β t = ρ.b t) := fun t ht => by
  rcases hd t with ⟨e1, e2, e3, e5, e6⟩ | ⟨e1, e2, e3⟩
  ·rw [e5] at ht
   rcases hxr with h | ⟨h, _⟩
   ·exact .inl ⟨e1, h, pd t e1⟩
   ·rw [isOwn_slot ht] at h; cases h
  ·rw [e2, gdo] at ht
   exact .inr ⟨e1, ht, pn t e1⟩
 have ws : ∀ t, isSlot (σ t) = true -> o.dst ≠ some t /\ upd σ (u ++ ou) t = (look ou t).getD (σ t) /\ β t = ρ.b t := fun t ht => by
  rcases hd t with ⟨e1, e2, e3, e5, e6⟩ | ⟨e1, e2, e3⟩
  ·rw [ht] at e2; cases e2
  ·exact ⟨e1, e2, pn t e1⟩
 have bn : ∀ b, ρ.F b -> ρ.F b \/ B' b := fun b h => .inl h
 have hFw : ∀ b, ρ.F b -> w'.heap[b]? = w.heap[b]? := fun b h => hw b (hR.frz b h).2.1 (hR.frz b h).2.2
 have vmono : ∀ y u', VOk w ρ σ y u' -> VOk w' ⟨β, fun b => ρ.F b \/ B' b⟩ (upd σ (u ++ ou)) y u' := fun y u' hy => by
  have key : ∀ y u', VOk1 w ρ σ y u' -> VOk1 w' ⟨β, fun b => ρ.F b \/ B' b⟩ (upd σ (u ++ ou)) y u' := fun y u' hy => by
   cases y with
   | ref g k =>
    obtain ⟨k1, k2⟩ := hy
    obtain ⟨e1, e2, e3⟩ := ws g (isOwn_slot (isBox_own k2))
    exact ⟨by show _ = Value.pointer (some ⟨β g, k, none⟩); rw [e3]; exact k1, by rw [e2, gdb]; exact k2⟩
   | sl g n =>
    obtain ⟨lv, ty, m, ks, c, f1, f2, f3, f4⟩ := hy
    obtain ⟨e1, e2, e3⟩ := ws g (by rw [f1]; rfl)
    cases hl : look ou g with
    | none =>
     rw [hl] at e2
     refine ⟨lv, ty, m, ks, c, e2.trans f1, f2, fun h => ?_, f4⟩
     obtain ⟨cap, k1, cs, zz, k2, k3⟩ := f3 h
     exact ⟨cap, by show _ = Value.slice (some ⟨β g, 0, none⟩) n cap; rw [e3]; exact k1, cs, zz, by show w'.heap[β g]? = _; rw [e3]; exact (h2 g (by rw [f1]; exact h) hl).trans k2, k3⟩
    | some y =>
     rcases h1 g y hl with ⟨ty', c', q1, _⟩ | ⟨lv', ty', m', ks', c0, c', q1, q2, q3⟩
     ·rw [f1] at q1; cases q1
     ·rw [f1] at q1
      cases q1
      rw [hl, q2] at e2
      refine ⟨lv, ty, m, ks, c', e2, f2, fun h => ?_, f4⟩
      obtain ⟨cap, k1, k2⟩ := f3 h
      exact ⟨cap, by show _ = Value.slice (some ⟨β g, 0, none⟩) n cap; rw [e3]; exact k1, by show Rowed w' (β g) _ _ _ _ _; rw [e3]; exact q3 h cap k2⟩
   | rf g i j =>
    obtain ⟨ty, m, ks, c, f1, f2, f3⟩ := hy
    obtain ⟨e1, e2, e3⟩ := ws g (by rw [f1]; rfl)
    have f3' : u' = .pointer (some ⟨β g, i * ks.length + j, none⟩) := by rw [e3]; exact f3
    cases hl : look ou g with
    | none => rw [hl] at e2; exact ⟨ty, m, ks, c, e2.trans f1, f2, f3'⟩
    | some y =>
     rcases h1 g y hl with ⟨ty', c', q1, _⟩ | ⟨lv', ty', m', ks', c0, c', q1, q2, q3⟩
     ·rw [f1] at q1; cases q1
     ·rw [f1] at q1
      cases q1
      rw [hl, q2] at e2
      exact ⟨ty, m, ks, c', e2, f2, f3'⟩
   | _ => exact Rep.mono hy fun b hb => ⟨.inl hb, hFw b hb⟩
  cases y with
  | tup l => obtain ⟨cs, h1, h2, h3⟩ := hy; exact ⟨cs, h1, h2, fun i hi => key _ _ (h3 i hi)⟩
  | _ => rw [VOk.one (fun l e => by cases e)] at hy ⊢; exact key _ _ hy
 have bmono : ∀ b ty c, Boxed w' B' b ty c -> Boxed w' (fun b => ρ.F b \/ B' b) b ty c := fun b ty c h => h.mono fun b h => .inr h
 have box : ∀ t ty c, Boxed w ρ.F (ρ.b t) ty c -> w'.heap[ρ.b t]? = w.heap[ρ.b t]? -> Boxed w' (fun b => ρ.F b \/ B' b) (ρ.b t) ty c := fun t ty c ⟨cs, f3, f4, f5⟩ e =>
  ⟨cs, e.trans f3, f4, fun i hi => (f5 i hi).mono fun b hb => ⟨.inl hb, hFw b hb⟩⟩
 refine ⟨β, pn, hR.step ⟨hos.trans hR.blw.os, htp.trans hR.blw.tape, hop.trans hR.blw.output, Nat.le_trans hR.blw.size hs, fun k hk hX => ?_⟩ (fun t ht => ?_) (fun b h => .inl h) hFw (fun b hb => ?_)
  (fun t t' k1 k2 k3 => ?_) (fun t ht => ?_) (fun t ty c e => ?_) (fun t ty c e => ?_) (fun g lv ty m ks c e => ?_) (fun t k1 k2 => ?_)⟩
 ·exact (hw k (Nat.lt_of_lt_of_le hk hR.blw.size) fun t ht => hR.apart ht ⟨hk, hX⟩).trans (hR.blw.block k hk hX)
 ·have hn := hR.out t ht
  rcases hd t with ⟨e1, e2, e3, e5, e6⟩ | ⟨e1, e2, e3⟩
  ·exact absurd e3 (Nat.not_lt_of_le (Nat.le_trans hR.vle.1 (Nat.le_trans hR.vle.2 ht)))
  ·rw [e2, gd' t (by rw [hn]; rfl)]; exact hn
 ·rcases hb with hb | hb
  ·obtain ⟨k1, k2, k3⟩ := hR.frz b hb
   refine ⟨k1, Nat.lt_of_lt_of_le k2 hs, fun t ht => ?_⟩
   rcases ow t ht with ⟨e1, ⟨ty, c, e2⟩, e3⟩ | ⟨e1, e2, e3⟩
   ·show β t ≠ b
    rw [e3]; have := (hbx ty c e2).2.1; omega
   ·show β t ≠ b
    rw [e3]; exact k3 t e2
  ·obtain ⟨k1, k2⟩ := hB' b hb
   refine ⟨?_, k2, fun t ht => ?_⟩
   ·rcases k1 with k1 | k1
    ·exact (hR.frz b k1).1
    ·exact .inr (Nat.le_trans hR.blw.size k1)
   ·rcases ow t ht with ⟨e1, ⟨ty, c, e2⟩, e3⟩ | ⟨e1, e2, e3⟩
    ·show β t ≠ b
     rw [e3]; intro e; subst e; exact (hbx ty c e2).2.2.1 hb
    ·show β t ≠ b
     rw [e3]
     rcases k1 with k1 | k1
     ·exact (hR.frz b k1).2.2 t e2
     ·have := hR.lt e2; omega
 ·have k3 : β t = β t' := k3
  rcases ow t k1 with ⟨e1, ⟨ty, c, e2⟩, e3⟩ | ⟨e1, e2, e3⟩
  ·rcases ow t' k2 with ⟨e1', _, e3'⟩ | ⟨e1', e2', e3'⟩
   ·rw [e1] at e1'; cases e1'; rfl
   ·exfalso
    have := (hbx ty c e2).2.1
    have := hR.lt e2'
    rw [e3, e3'] at k3
    omega
  ·rcases ow t' k2 with ⟨e1', ⟨ty, c, e2'⟩, e3'⟩ | ⟨e1', e2', e3'⟩
   ·exfalso
    have := (hbx ty c e2').2.1
    have := hR.lt e2
    rw [e3, e3'] at k3
    omega
   ·rw [e3, e3'] at k3
    exact hR.inj t t' e2 e2' k3
 ·rcases hd t with ⟨e1, e2, e3, e5, e6⟩ | ⟨e1, e2, e3⟩
  ·rw [e5] at ht ⊢
   rw [e6]
   rcases hxr with ⟨ty, c, h⟩ | ⟨_, h⟩
   ·rw [h] at ht; cases ht
   ·exact Rep.vok (h.mono fun b hb => ⟨.inr hb, rfl⟩)
  ·rw [e2] at ht ⊢
   rw [gds] at ht
   rw [gd' t ht, e3]
   exact vmono _ _ (hR.val t ht)
 ·rcases hd t with ⟨e1, e2, e3, e5, e6⟩ | ⟨e1, e2, e3⟩
  ·rw [e5] at e
   obtain ⟨f1, f2, f3, f4⟩ := hbx ty c e
   show _ = Value.pointer (some ⟨β t, 0, none⟩) /\ w0.heap.size <= β t /\ Boxed w' _ (β t) ty c
   rw [e6, pd t e1]
   exact ⟨f1, Nat.le_trans hR.blw.size f2, bmono _ _ _ f4⟩
  ·rw [e2] at e
   show _ = Value.pointer (some ⟨β t, 0, none⟩) /\ w0.heap.size <= β t /\ Boxed w' _ (β t) ty c
   rw [e3, pn t e1]
   cases hl : look ou t with
   | none =>
    rw [hl] at e
    have e : σ t = .own ty c := e
    obtain ⟨f1, f2, f3⟩ := hR.own t ty c e
    exact ⟨f1, f2, box t ty c f3 (h2 t (by rw [e]; rfl) hl)⟩
   | some y =>
    rw [hl] at e
    have e : y = .own ty c := e
    have hb : isBox (σ t) = true := by rw [<- (lks t y hl).2.2.2, e]; rfl
    obtain ⟨ty', c', g1, g2, g3⟩ := lkb t y hl hb
    rw [g2] at e
    obtain ⟨rfl, c0, e0⟩ := reBox_own e hb
    have : ty' = ty := by rw [e0] at g1; cases g1; rfl
    subst this
    obtain ⟨f1, f2, _⟩ := hR.own t _ _ e0
    exact ⟨f1, f2, bmono _ _ _ g3⟩
 ·rcases hd t with ⟨e1, e2, e3, e5, e6⟩ | ⟨e1, e2, e3⟩
  ·exfalso
   rw [e5] at e
   rcases hxr with ⟨ty, c, h⟩ | ⟨h, _⟩
   ·rw [h] at e; cases e
   ·rw [e] at h; cases h
  ·rw [e2] at e
   show E.X (β t) /\ Boxed w' _ (β t) ty c
   rw [pn t e1]
   cases hl : look ou t with
   | none =>
    rw [hl] at e
    have e : σ t = .vown ty c := e
    obtain ⟨f1, f3⟩ := hR.vow t ty c e
    exact ⟨f1, box t ty c f3 (h2 t (by rw [e]; rfl) hl)⟩
   | some y =>
    rw [hl] at e
    have e : y = .vown ty c := e
    have hb : isBox (σ t) = true := by rw [<- (lks t y hl).2.2.2, e]; rfl
    obtain ⟨ty', c', g1, g2, g3⟩ := lkb t y hl hb
    rw [g2] at e
    obtain ⟨rfl, c0, e0⟩ := reBox_vown e hb
    have : ty' = ty := by rw [e0] at g1; cases g1; rfl
    subst this
    exact ⟨(hR.vow t _ _ e0).1, bmono _ _ _ g3⟩
 ·rcases hd g with ⟨e1, e2, e3, e5, e6⟩ | ⟨e1, e2, e3⟩
  ·exfalso
   rw [e5] at e
   rcases hxr with ⟨ty, c, h⟩ | ⟨h, _⟩
   ·rw [h] at e; cases e
   ·rw [e] at h; cases h
  ·rw [e2] at e
   show E.n <= g /\ (lv = false -> m = 0) /\ (lv = true -> ((w0.heap.size <= β g /\ E.v <= g) \/ (E.X (β g) /\ g < E.v)) /\ ∃ cap, Rowed w' (β g) ty cap m ks c)
   rw [pn g e1]
   cases hl : look ou g with
   | none =>
    rw [hl] at e
    have e : σ g = .row lv ty m ks c := e
    obtain ⟨f1, f2, f3⟩ := hR.row g lv ty m ks c e
    refine ⟨f1, f2, fun hl' => ?_⟩
    obtain ⟨g1, cap, cs, zz, g2, g3⟩ := f3 hl'
    exact ⟨g1, cap, cs, zz, (h2 g (by rw [e]; exact hl') hl).trans g2, g3⟩
   | some y =>
    rw [hl] at e
    have e : y = .row lv ty m ks c := e
    rcases h1 g y hl with ⟨ty', c', q1, q2, _⟩ | ⟨lv', ty', m', ks', c0, c', q1, q2, q3⟩
    ·exfalso
     have := isBox_reBox (x := σ g) (c := c')
     rw [<- q2, e, tyC_own q1] at this
     cases this
    ·rw [e] at q2
     cases q2
     obtain ⟨f1, f2, f3⟩ := hR.row g lv ty m ks c0 q1
     refine ⟨f1, f2, fun hl' => ?_⟩
     obtain ⟨g1, cap, g2⟩ := f3 hl'
     exact ⟨g1, cap, q3 hl' cap g2⟩
 ·obtain ⟨f1, f2⟩ := hR.vir t k1 k2
  obtain ⟨g1, g2, g3⟩ := ws t f1
  refine ⟨by rw [g2, gds]; exact f1, g3.trans f2.1, by rw [g2, gdh]; exact f2.2.1, fun ho hb => ?_⟩
  rw [g2, gdo] at ho
  rw [g2, gdb] at hb
  show csz w' (β t) = _
  rw [g3, <- f2.2.2 ho hb]
  cases hl : look ou t with
  | none => exact csz_same (h2 t ho hl)
  | some y =>
   rcases h1 t y hl with ⟨ty, c, e1, _⟩ | ⟨lv, ty, m, ks, c, c', e1, e2, e3⟩
   ·rw [tyC_own e1] at hb; cases hb
   ·rw [e1] at ho
    obtain ⟨_, _, q⟩ := hR.row t _ _ _ _ _ e1
    obtain ⟨_, cap, q⟩ := q ho
    rw [q.csz, (e3 ho cap q).csz]
theorem Rr.newBox (hR : Rr E N B w0 ρ σ a w) {ty : TypeId} {l : List AV} {cs : List Value} (hl : l.length = cs.length)
  (hr : ∀ i, i < l.length -> Rep w ρ.F (l.getD i .non) (cs.getD i undef)) (hu : setD E.n σ o (.own ty l) = some u) :
  ∃ ρ', Rr E N B w0 ρ' (upd σ u) (a.put o.dst (.pointer (some ⟨w.heap.size, 0, none⟩))) { w with heap := w.heap.push (.cells ⟨cs⟩ ty (0, 0)) } := by
 have hw : ∀ b, b < w.heap.size -> (w.heap.push (.cells ⟨cs⟩ ty (0, 0)))[b]? = w.heap[b]? := fun b hb => by rw [Array.getElem?_push, if_neg (by omega)]
 have hnew : (w.heap.push (.cells ⟨cs⟩ ty (0, 0)))[w.heap.size]? = some (.cells ⟨cs⟩ ty (0, 0)) := by simp
 have := hR.call (o := o) (w' := { w with heap := w.heap.push (.cells ⟨cs⟩ ty (0, 0)) }) (B' := ρ.F) (ou := []) (x := .own ty l)
  (v := .pointer (some ⟨w.heap.size, 0, none⟩)) (u := u) rfl rfl rfl (by simp) (fun b hb _ => hw b hb) (fun b hb => ⟨.inl hb, by have := (hR.frz b hb).2.1; simp; omega⟩) (fun t y h => by cases h)
  (fun t ht _ => hw _ (hR.lt ht)) (.inl ⟨ty, l, w.heap.size, rfl, rfl, Nat.le_refl _, fun h => Nat.lt_irrefl _ (hR.frz _ h).2.1, cs, hnew, hl, fun i hi => (hr i hi).mono fun b hb => ⟨hb, hw b (hR.frz b hb).2.1⟩⟩) hu
 rw [List.append_nil] at this
 obtain ⟨β, _, h⟩ := this
 exact ⟨_, h⟩
theorem flat_rep {Bb : Nat -> Prop} {x : AV} {l : List AV} {v : Value} (h : flat x = some l) (r : Rep w Bb x v) :
  ∃ cs : List Value, v.cells = ⟨cs⟩ /\ l.length = cs.length /\ ∀ i, i < l.length -> Rep w Bb (l.getD i .non) (cs.getD i undef) := by
 have one : ∀ (y : AV) (u : Value), Rep w Bb y u -> ∀ i, i < [y].length -> Rep w Bb ([y].getD i .non) ([u].getD i undef) := fun y u r i hi => by
  have : i = 0 := by simpa using hi
  subst this
  exact r
 cases x with
 | agg l' =>
  simp only [flat, Option.some.injEq] at h
  subst h
  cases r with
  | agg l cs hl hr => exact ⟨cs, rfl, hl, hr⟩
 | val y =>
  cases r
  cases v with
  | agg z => simp [flat] at h
  | _ =>
   simp only [flat, Option.some.injEq] at h
   subst h
   exact ⟨[_], rfl, rfl, one _ _ (.val _)⟩
 | lst n k row =>
  simp only [flat, Option.some.injEq] at h
  subst h
  cases r with
  | nil => exact ⟨[_], rfl, rfl, one _ _ (.nil _ _ _ _)⟩
  | lst _ _ _ b o cap f hB hn hk hc r => exact ⟨[_], rfl, rfl, one _ _ (.lst _ _ _ b o cap f hB hn hk hc r)⟩
 | arr n ks c =>
  simp only [flat, Option.some.injEq] at h
  subst h
  have hv : v.cells = ⟨[v]⟩ := by cases r with | arr _ _ _ _ r => cases r <;> rfl
  exact ⟨[v], hv, rfl, one _ _ r⟩
 | nils =>
  simp only [flat, Option.some.injEq] at h
  subst h
  cases r with | nils a => exact ⟨[_], rfl, rfl, one _ _ (.nils a)⟩
 | _ => simp [flat] at h
theorem ldAV_run {Bb : Nat -> Prop} {ty : TypeId} {c : List AV} {x : AV} (h : ldAV P ty c = some x) {b k : Nat} (f : Nat -> Value)
  (hc : ∀ j, j < c.length -> w.cell? ⟨b, k + j, none⟩ = some (f j)) (hr : ∀ j, j < c.length -> Rep w Bb (c.getD j .non) (f j)) :
  ∃ v, (loadVar ty ⟨b, k, none⟩).run P w = .ok v w /\ Rep w Bb x v := by
 unfold ldAV at h
 split at h
 ·rename_i ha
  split at h
  ·rename_i n hn
   split at h
   ·rename_i hle
    cases h
    have hle' : n <= c.length := Nat.le_of_ble_eq_true hle
    refine ⟨.agg ((List.range n).map f).toArray, ?_, ?_⟩
    ·simp only [loadVar, Sem.run_bind, pv_run _ _ ha, Result.andThen_ok, if_true, pv_run _ _ hn]
     rw [run_loadCells w ⟨b, k, none⟩ n f (fun j hj => by rw [addr_add]; exact hc j (by omega))]
     rfl
    ·refine .agg _ _ (by simp; omega) fun i hi => ?_
     have hi' : i < n := by simp at hi; omega
     have e1 : (c.take n).getD i .non = c.getD i .non := by simp [List.getD, List.getElem?_take, hi']
     have e2 : ((List.range n).map f).getD i undef = f i := by simp [List.getD, hi']
     rw [e1, e2]
     exact hr i (by omega)
   ·cases h
  ·cases h
 ·rename_i ha
  split at h
  ·rename_i y l
   cases h
   refine ⟨f 0, ?_, by have := hr 0 (by simp); simpa using this⟩
   have h0 := hc 0 (by simp)
   simp only [Nat.add_zero] at h0
   simp [loadVar, pv_run _ _ ha, h0]
  ·cases h
 ·cases h
theorem box_cells (hR : Rr E N B w0 ρ σ a w) {g : Nat} {c : List AV} (e : boxC (σ g) = some c) :
  isBox (σ g) = true /\ ∃ ty, tyC (σ g) = some ty /\ Boxed w ρ.F (ρ.b g) ty c := by
 cases h : σ g with
 | own ty c' =>
  rw [h] at e
  cases e
  exact ⟨rfl, ty, rfl, (hR.own g ty _ h).2.2⟩
 | vown ty c' =>
  rw [h] at e
  cases e
  exact ⟨rfl, ty, rfl, (hR.vow g ty _ h).2⟩
 | _ => rw [h] at e; cases e
theorem own_cells (hR : Rr E N B w0 ρ σ a w) {g : Nat} {c : List AV} (e : boxC (σ g) = some c) :
  ∃ f : Nat -> Value, (∀ j, j < c.length -> w.cell? ⟨ρ.b g, j, none⟩ = some (f j)) /\ ∀ j, j < c.length -> Rep w ρ.F (c.getD j .non) (f j) := by
 obtain ⟨_, ty, _, cs, e3, e4, e5⟩ := box_cells hR e
 refine ⟨fun j => cs.getD j undef, fun j hj => ?_, fun j hj => e5 j hj⟩
 have hj' : j < cs.length := by omega
 simp [World.cell?, e3, hj', List.getD]
theorem getD_drop' (c : List AV) (k j : Nat) : (c.drop k).getD j .non = c.getD (k + j) .non := by simp [List.getD, List.getElem?_drop]
theorem allOne_spec {Bb : Nat -> Prop} : ∀ (l : List AV) (cs : List Value), allOne l = true -> l.length = cs.length -> (∀ i, i < l.length -> Rep w Bb (l.getD i .non) (cs.getD i undef)) -> ∀ v ∈ cs, v.oneCell' = true
 | [], cs, _, hl, _, v, hv => by cases cs <;> simp_all
 | x :: l, cs, h, hl, hr, v, hv => by
  cases cs with
  | nil => simp at hl
  | cons c cs =>
   have h0 := hr 0 (by simp)
   simp only [List.getD_cons_zero] at h0
   have ht : allOne l = true -> ∀ v ∈ cs, v.oneCell' = true := fun h => allOne_spec l cs h (by simpa using hl) fun i hi => by
    have := hr (i + 1) (by simpa using hi)
    simpa using this
   cases x with
   | val y =>
    unfold allOne at h
    split at h
    ·rename_i hy
     cases h0
     rcases List.mem_cons.1 hv with rfl | hv
     ·exact hy
     ·exact ht h v hv
    ·cases h
   | lst n k row =>
    have hc : c.oneCell' = true := by cases h0 <;> rfl
    rcases List.mem_cons.1 hv with rfl | hv
    ·exact hc
    ·exact ht h v hv
   | arr n ks cf =>
    have hc : c.oneCell' = true := by cases h0 with | arr _ _ _ _ r => cases r <;> rfl
    rcases List.mem_cons.1 hv with rfl | hv
    ·exact hc
    ·exact ht h v hv
   | nils =>
    have hc : c.oneCell' = true := by cases h0 with | nils a => rfl
    rcases List.mem_cons.1 hv with rfl | hv
    ·exact hc
    ·exact ht h v hv
   | _ => simp [allOne] at h
theorem splice_length {α : Type} (c l : List α) (k : Nat) (h : k + l.length <= c.length) : (c.take k ++ l ++ c.drop (k + l.length)).length = c.length := by
 simp
 omega
theorem splice_getD {α : Type} (c l : List α) (k i : Nat) (d : α) (h : k + l.length <= c.length) :
  (c.take k ++ l ++ c.drop (k + l.length)).getD i d = if i < k then c.getD i d else if i < k + l.length then l.getD (i - k) d else c.getD i d := by
 simp only [List.getD]
 by_cases h1 : i < k
 ·rw [if_pos h1, List.append_assoc, List.getElem?_append_left (by simp; omega), List.getElem?_take, if_pos h1]
 ·rw [if_neg h1]
  by_cases h2 : i < k + l.length
  ·rw [if_pos h2, List.append_assoc, List.getElem?_append_right (by simp; omega), List.getElem?_append_left (by simp; omega)]
   simp [show min k c.length = k by omega]
  ·rw [if_neg h2, List.getElem?_append_right (by simp; omega), List.getElem?_drop]
   congr 2
   simp [show min k c.length = k by omega]
   omega
theorem Rr.store (hR : Rr E N B w0 ρ σ a w) {g k : Nat} {t0 : TypeId} {c l : List AV} {vs cs : List Value} (e : boxC (σ g) = some c) (hle : k + l.length <= c.length) (hd : o.dst = none)
  (hcs : w.heap[ρ.b g]? = some (.cells ⟨cs⟩ t0 (0, 0))) (hl : l.length = vs.length) (hr : ∀ i, i < l.length -> Rep w ρ.F (l.getD i .non) (vs.getD i undef)) :
  ∃ ρ', Rr E N B w0 ρ' (upd σ [(g, reBox (σ g) (splice c k l))]) a (w.setRow (ρ.b g) (cs.take k ++ vs ++ cs.drop (k + vs.length)).toArray) := by
 obtain ⟨hgo, ty, hty, cs', g3, g4, g5⟩ := box_cells hR e
 have hcs' : cs' = cs /\ ty = t0 := by rw [hcs] at g3; cases g3; exact ⟨rfl, rfl⟩
 obtain ⟨rfl, rfl⟩ := hcs'
 have hw : ∀ b, b ≠ ρ.b g -> (w.setRow (ρ.b g) (cs'.take k ++ vs ++ cs'.drop (k + vs.length)).toArray).heap[b]? = w.heap[b]? := fun b hb => by
  simp only [World.setRow, Array.getElem?_modify]
  rw [if_neg (Ne.symm hb)]
 have hsz : (w.setRow (ρ.b g) (cs'.take k ++ vs ++ cs'.drop (k + vs.length)).toArray).heap.size = w.heap.size := by simp [World.setRow]
 have hg := setRow_heap w (ρ.b g) _ (cs'.take k ++ vs ++ cs'.drop (k + vs.length)).toArray ty (0, 0) hcs
 have step : ∀ y u, Rep w ρ.F y u -> Rep (w.setRow (ρ.b g) (cs'.take k ++ vs ++ cs'.drop (k + vs.length)).toArray) (ρ.F) y u := fun y u h =>
  h.mono fun b hb => ⟨hb, hw b (Ne.symm ((hR.frz b hb).2.2 g (isBox_own hgo)))⟩
 have := hR.call (o := o) (w' := w.setRow (ρ.b g) (cs'.take k ++ vs ++ cs'.drop (k + vs.length)).toArray) (B' := ρ.F) (ou := [(g, reBox (σ g) (splice c k l))]) (x := .non)
  (v := undef) (u := []) rfl rfl rfl (by rw [hsz]; exact Nat.le_refl _) (fun b hb h => hw b (Ne.symm (h g (isBox_own hgo)))) (fun b hb => ⟨.inl hb, by rw [hsz]; exact (hR.frz b hb).2.1⟩) (fun t y h => ?_)
  (fun t ht h => ?_) (.inr (Rep.non _)) (by unfold setD; rw [hd])
 ·rw [hd] at this
  obtain ⟨β, _, h⟩ := this
  exact ⟨_, h⟩
 ·have htg : t = g /\ reBox (σ g) (splice c k l) = y := by
   unfold look at h
   split at h
   ·rename_i hb
    cases h
    exact ⟨(Nat.eq_of_beq_eq_true hb).symm, rfl⟩
   ·cases h
  obtain ⟨rfl, rfl⟩ := htg
  refine .inl ⟨ty, _, hty, rfl, _, hg, ?_, fun i hi => ?_⟩
  ·unfold splice
   rw [splice_length _ _ _ hle, splice_length _ _ _ (by omega)]
   exact g4
  ·unfold splice at hi ⊢
   rw [splice_length _ _ _ hle] at hi
   rw [splice_getD _ _ _ _ _ hle, splice_getD _ _ _ _ _ (by omega)]
   by_cases h1 : i < k
   ·rw [if_pos h1, if_pos h1]; exact step _ _ (g5 i hi)
   ·rw [if_neg h1, if_neg h1]
    by_cases h2 : i < k + l.length
    ·rw [if_pos h2, if_pos (by omega)]; exact step _ _ (hr _ (by omega))
    ·rw [if_neg h2, if_neg (by omega)]; exact step _ _ (g5 i hi)
 ·have htg : t ≠ g := fun e => by subst e; simp [look] at h
  exact hw _ fun e => htg (hR.inj t g ht (isBox_own hgo) e)
end
end Go.Ev
/- Soundness of the evaluation of one operation: all cases; its guard. -/
namespace Go.Ev
open Go.RowKit
section
variable {P : Program} {GL : Nat -> AV} {Γ : List (Nat × Ctr)} {E : Ext} {N : Nat} {B : Nat -> Prop} {w0 w : World} {ρ : Gh} {σ : Nat -> AV} {a : Act} {o : Oper}
 {K : Act -> World -> Prop} {Q : Exit -> Act -> World -> Prop} {u : List (Nat × AV)}
theorem wp_gen (hR : Rr E N B w0 ρ σ a w) (hG : GOk w0 B GL) (hB : ∀ b, B b -> b < w0.heap.size /\ ¬ E.X b)
  (h : bindSet E.n σ o true (gen P GL σ o) = some (true, u)) (hK : ∀ ρ' a' w', Rr E N B w0 ρ' (upd σ u) a' w' -> K a' w') : o.wp P a w K Q := by
 obtain ⟨_, y, hy, hu⟩ := bindSet_spec h
 obtain ⟨v, hrun, rfl⟩ := gen_run hR hG hB hy
 exact wp_stillR hR hu hrun (rep_ofVal v) hK
theorem wp_int {b : BinOp} {t yt : TypeId} {x y : Operand} {p q r : Int} {c : Bool} (hR : Rr E N B w0 ρ σ a w) (hG : GOk w0 B GL) (hB : ∀ b, B b -> b < w0.heap.size /\ ¬ E.X b)
  (ho : o.op = .binOp b t x y yt) (hx : evA GL σ x = .val (.int .i64 p)) (hy : evA GL σ y = .val (.int .i64 q))
  (h : bindSet E.n σ o c (some (.val (.int .i64 r))) = some (true, u))
  (hop : c = true -> (do eqGuard b t x y (.int .i64 p) (.int .i64 q); binOp b t (.int .i64 p) (.int .i64 q)).run P w = .ok (.int .i64 r) w)
  (hK : ∀ ρ' a' w', Rr E N B w0 ρ' (upd σ u) a' w' -> K a' w') : o.wp P a w K Q := by
 obtain ⟨hc, z, hz, hu⟩ := bindSet_spec h
 cases hz
 have ex : a.eval x = .int .i64 p := toV_eval hR hG hB (by rw [hx]; rfl)
 have ey : a.eval y = .int .i64 q := toV_eval hR hG hB (by rw [hy]; rfl)
 refine wp_stillR hR hu (v := .int .i64 r) ?_ (.val _) hK
 obtain ⟨dst, op, type, pos, after, guard⟩ := o
 simp only at ho
 subst ho
 simp only [execOp, ex, ey, Sem.run_bind]
 have := hop hc
 simp only [Sem.run_bind] at this
 rw [this]
 rfl
theorem callFunc_run {g : Nat} {fn : Func} {args : Array Value} (hf : P.funcs[g]? = some fn) (hnm : (fn.name == "runtime.NumGoroutine") = false) (hbd : fn.body.isSome = true) :
  (callFunc g args).run P w = .ok (.enter g args) w := by
 unfold callFunc
 rw [Sem.run_bind, show (program : Sem Program).run P w = .ok P w from rfl, Result.andThen_ok]
 simp only [hf, hnm, Bool.false_eq_true, if_false]
 rw [if_neg (by cases h : fn.body <;> simp_all)]
 rfl
theorem argV_spec {x y : AV} (h : argV σ x = some y) : (∃ g ty c, x = .ref g 0 /\ y = .own ty c /\ boxC (σ g) = some c /\ tyC (σ g) = some ty) \/
  (∃ g n lv ty m ks c, x = .sl g n /\ σ g = .row lv ty m ks c /\ y = .arr n ks c) \/ (isRef x = false /\ (∀ g n, x ≠ .sl g n) /\ (∀ g i j, x ≠ .rf g i j) /\ (∀ l, x ≠ .tup l) /\ y = x) := by
 cases x with
 | ref g k =>
  unfold argV at h
  simp only at h
  split at h
  ·rename_i hk
   have hk' : k = 0 := Nat.eq_of_beq_eq_true hk
   subst hk'
   split at h
   ·rename_i t c e
    cases h
    exact .inl ⟨g, t, c, rfl, rfl, by rw [e]; rfl, by rw [e]; rfl⟩
   ·rename_i t c e
    cases h
    exact .inl ⟨g, t, c, rfl, rfl, by rw [e]; rfl, by rw [e]; rfl⟩
   ·cases h
  ·cases h
 | sl g n =>
  unfold argV at h
  simp only at h
  split at h
  ·rename_i lv ty m ks c e
   cases h
   exact .inr (.inl ⟨g, n, lv, ty, m, ks, c, rfl, e, rfl⟩)
  ·cases h
 | rf g i j => cases h
 | tup l => cases h
 | _ => cases h; exact .inr (.inr ⟨rfl, fun _ _ h => (by cases h), fun _ _ _ h => (by cases h), fun _ h => (by cases h), rfl⟩)
theorem argsV_spec : ∀ {xs as : List AV}, argsV σ xs = some as -> as.length = xs.length /\ ∀ i, i < xs.length -> argV σ (xs.getD i .non) = some (as.getD i .non)
 | [], as, h => by cases h; exact ⟨rfl, fun i hi => by simp at hi⟩
 | x :: xs, as, h => by
  unfold argsV at h
  split at h
  ·rename_i y hy
   split at h
   ·rename_i ys hys
    cases h
    obtain ⟨h1, h2⟩ := argsV_spec hys
    refine ⟨by simp [h1], fun i hi => ?_⟩
    cases i with
    | zero => simpa using hy
    | succ i => simpa using h2 i (by simpa using hi)
   ·cases h
  ·cases h
theorem mem_gsOf {g k : Nat} : ∀ {xs : List AV} {i : Nat}, xs.getD i .non = .ref g k -> g ∈ gsOf xs
 | [], i, h => by simp at h
 | x :: xs, 0, h => by
  have h : x = .ref g k := by simpa using h
  subst h
  simp [gsOf]
 | x :: xs, i + 1, h => by
  have := mem_gsOf (xs := xs) (i := i) (by simpa using h)
  cases x <;> simp [gsOf, this]
theorem memB_spec {g : Nat} : ∀ {l : List Nat}, memB g l = false -> g ∉ l
 | [], _ => by simp
 | x :: l, h => by
  unfold memB at h
  split at h
  ·cases h
  ·rename_i hx
   have := memB_spec h
   simp only [List.mem_cons, not_or]
   exact ⟨fun e => (by rw [e, Nat.beq_refl] at hx; cases hx), this⟩
theorem nodup_spec {g k k' : Nat} : ∀ {xs : List AV} {i j : Nat}, nodupB (gsOf xs) = true -> xs.getD i .non = .ref g k -> xs.getD j .non = .ref g k' -> i = j
 | [], i, j, _, h, _ => by simp at h
 | x :: xs, 0, 0, _, _, _ => rfl
 | x :: xs, 0, j + 1, hn, h1, h2 => by
  exfalso
  have h1 : x = .ref g k := by simpa using h1
  subst h1
  have h2 : g ∈ gsOf xs := mem_gsOf (i := j) (by simpa using h2)
  simp only [gsOf, nodupB] at hn
  split at hn
  ·cases hn
  ·rename_i hm
   exact memB_spec hm h2
 | x :: xs, i + 1, 0, hn, h1, h2 => by
  exfalso
  have h2 : x = .ref g k' := by simpa using h2
  subst h2
  have h1 : g ∈ gsOf xs := mem_gsOf (i := i) (by simpa using h1)
  simp only [gsOf, nodupB] at hn
  split at hn
  ·cases hn
  ·rename_i hm
   exact memB_spec hm h1
 | x :: xs, i + 1, j + 1, hn, h1, h2 => by
  have hn' : nodupB (gsOf xs) = true := by
   cases x <;> simp only [gsOf] at hn <;> try exact hn
   unfold nodupB at hn
   split at hn
   ·cases hn
   ·exact hn
  have := nodup_spec (i := i) (j := j) hn' (by simpa using h1) (by simpa using h2)
  omega
theorem outU_spec {t : Nat} : ∀ {xs os : List AV} {ou : List (Nat × AV)}, outU σ xs os = some ou ->
  (∀ y, look ou t = some y -> ∃ i k c, i < xs.length /\ xs.getD i .non = .ref t k /\ os.getD i .non = .agg c /\ y = reBox (σ t) c) /\
  (look ou t = none -> ∀ i k, xs.getD i .non ≠ .ref t k)
 | [], os, ou, h => by
  cases h
  exact ⟨fun y h => (by cases h), fun _ i k h => (by simp at h)⟩
 | x :: xs, os, ou, h => by
  have skip : ∀ os', isRef x = false -> outU σ xs os' = some ou -> (∀ i, os.getD (i + 1) .non = os'.getD i .non) ->
    (∀ y, look ou t = some y -> ∃ i k c, i < (x :: xs).length /\ (x :: xs).getD i .non = .ref t k /\ os.getD i .non = .agg c /\ y = reBox (σ t) c) /\
    (look ou t = none -> ∀ i k, (x :: xs).getD i .non ≠ .ref t k) := fun os' hx h' ho => by
   obtain ⟨h1, h2⟩ := outU_spec (t := t) h'
   refine ⟨fun y hy => ?_, fun hn i k => ?_⟩
   ·obtain ⟨i, k, c, e1, e2, e3, e4⟩ := h1 y hy
    exact ⟨i + 1, k, c, by simpa using e1, by simpa using e2, by rw [ho]; exact e3, e4⟩
   ·cases i with
    | zero => intro e; have e : x = .ref t k := by simpa using e
              rw [e] at hx; cases hx
    | succ i => simpa using h2 hn i k
  unfold outU at h
  split at h
  ·rename_i heq; cases heq
  ·rename_i g k as c os' heq
   cases heq
   split at h
   ·rename_i u hu
    cases h
    obtain ⟨h1, h2⟩ := outU_spec (t := t) hu
    by_cases hg : g = t
    ·subst hg
     refine ⟨fun y hy => ?_, fun hn => ?_⟩
     ·simp only [look, Nat.beq_refl] at hy
      cases hy
      exact ⟨0, k, c, by simp, by simp, by simp, rfl⟩
     ·simp only [look, Nat.beq_refl] at hn
      cases hn
    ·refine ⟨fun y hy => ?_, fun hn i k' => ?_⟩
     ·simp only [look, beq_ne hg] at hy
      obtain ⟨i, k', c', e1, e2, e3, e4⟩ := h1 y hy
      exact ⟨i + 1, k', c', by simpa using e1, by simpa using e2, by simpa using e3, e4⟩
     ·simp only [look, beq_ne hg] at hn
      cases i with
      | zero => intro e; have e : AV.ref g k = .ref t k' := by simpa using e
                cases e; exact hg rfl
      | succ i => simpa using h2 hn i k'
   ·cases h
  ·cases h
  ·rename_i heq
   cases heq
   exact skip _ (by cases x <;> first | rfl | simp_all) h (fun i => by simp)
  ·rename_i heq
   cases heq
   exact skip [] (by cases x <;> first | rfl | simp_all) h (fun i => by simp)
theorem ArgOk.of_rep {Bb : Nat -> Prop} {b : Nat} {x : AV} {v : Value} (h : Rep w Bb x v) : ArgOk w Bb b x v := by cases h <;> constructor <;> assumption
theorem mkRow_length : ∀ (ks : List CK) (f : Nat -> Int), (mkRow ks f).length = ks.length
 | [], _ => rfl
 | k :: ks, f => by simp [mkRow, mkRow_length ks]
theorem mkRow_getD : ∀ (ks : List CK) (f : Nat -> Int) (j : Nat), j < ks.length -> (mkRow ks f).getD j .non = .val (mkCell (ks.getD j .bool) (f j))
 | [], _, j, h => by simp at h
 | k :: ks, f, 0, _ => rfl
 | k :: ks, f, j + 1, h => by
  have := mkRow_getD ks (fun j => f (j + 1)) j (by simpa using h)
  simpa [mkRow] using this
theorem storeCells_z (P : Program) (g o : Nat) (t : TypeId) (z : Nat × Nat) : ∀ (vs : List Value) (i : Nat) (cur : Array Value) (w : World), w.heap[g]? = some (.cells cur t z) -> zOk z cur.size -> o + i + vs.length <= cur.size -> (∀ v ∈ vs, v.oneCell' = true) ->
  (storeCells ⟨g, o, none⟩ vs i).run P w = .ok () (w.setRow g (cur.toList.take (o + i) ++ vs ++ cur.toList.drop (o + i + vs.length)).toArray)
 | [], i, cur, w, hg, _, _, _ => by
  simp only [storeCells, List.append_nil, List.length_nil, Nat.add_zero, List.take_append_drop, Array.toArray_toList]
  rw [setRow_self w g cur t z hg]
  rfl
 | v :: rest, i, cur, w, hg, hz, hl, h1 => by
  have hi : o + i < cur.size := by simp at hl; omega
  have hadd : (⟨g, o, none⟩ : Addr).add i = ⟨g, o + i, none⟩ := by unfold Addr.add; split <;> simp_all
  have hcell : w.cell? ⟨g, o + i, none⟩ = some cur[o + i] := by simp [World.cell?, hg, hi]
  have hfro : w.frozen? ⟨g, o + i, none⟩ = false := by
   obtain ⟨lo, hi'⟩ := z
   simp only [World.frozen?, hg, Bool.and_eq_false_iff, decide_eq_false_iff_not]
   rcases hz with hz | hz
   ·cases hz
    right
    omega
   ·left
    have hz : cur.size <= lo := hz
    omega
  have hst : (store ((⟨g, o, none⟩ : Addr).add i) v).run P w = .ok () (w.setRow g (cur.setIfInBounds (o + i) v)) := by
   rw [hadd, run_store P w _ v _ (h1 v (by simp)), hcell]
   simp [hfro, setCell_eq_setRow w g (o + i) cur t z v hg]
  have ih := storeCells_z P g o t z rest (i + 1) (cur.setIfInBounds (o + i) v) (w.setRow g (cur.setIfInBounds (o + i) v)) (setRow_heap w g cur _ t _ hg) (by simpa using hz) (by simp at hl ⊢; omega) (fun x hx => h1 x (by simp [hx]))
  simp only [storeCells, Sem.run_bind, hst, Result.andThen_ok, ih, setRow_setRow]
  congr 3
  have e := list_seg_step cur.toList (o + i) v rest (by simp at hl ⊢; omega)
  simpa [Array.toList_setIfInBounds, Nat.add_assoc] using e
theorem Rowed.cell {w : World} {b ty cap m ks c} (h : Rowed w b ty cap m ks c) {i j : Nat} (hi : i < m) (hj : j < ks.length) : w.cell? ⟨b, i * ks.length + j, none⟩ = some (mkCell (ks.getD j .bool) (c i j)) := by
 obtain ⟨cs, z, h1, _, h2, h3, h4, h5, h6⟩ := h
 have hlt : i * ks.length + j < cs.length := by
  rw [h2]
  calc i * ks.length + j < i * ks.length + ks.length := by omega
   _ = (i + 1) * ks.length := by rw [Nat.add_mul, Nat.one_mul]
   _ <= cap * ks.length := Nat.mul_le_mul_right _ (by omega)
 have := h6 i j hi hj
 simp only [World.cell?, h1]
 simp [List.getD, hlt] at this ⊢
 exact this
theorem Rowed.rep {w : World} {b ty cap m ks c} {Bb : Nat -> Prop} (h : Rowed w b ty cap m ks c) (hb : Bb b) {n : Nat} (hn : n <= m) : Rep w Bb (.arr n ks c) (.slice (some ⟨b, 0, none⟩) n cap) := by
 have hm : m <= cap := by obtain ⟨cs, z, h1, _, h2, h3, _⟩ := h; exact h3
 refine .arr _ _ _ _ (.lst _ _ _ b 0 cap (fun i j => mkCell (ks.getD j .bool) (c i j)) hb (by omega) (fun i hi => mkRow_length _ _) (fun i j hi hj => ?_) (fun i j hi hj => ?_))
 ·rw [Nat.zero_add]; exact h.cell (by omega) hj
 ·rw [mkRow_getD _ _ _ hj]; exact .val _
theorem SlOk.rep {w : World} {g n : Nat} {v : Value} {Bb : Nat -> Prop} (h : SlOk w ρ σ g n v) {lv ty m ks c} (e : σ g = .row lv ty m ks c) (hb : lv = true -> Bb (ρ.b g)) : Rep w Bb (.arr n ks c) v := by
 obtain ⟨lv', ty', m', ks', c', h1, h2, h3, h4⟩ := h
 rw [e] at h1
 cases h1
 cases lv with
 | true =>
  obtain ⟨cap, rfl, hr⟩ := h3 rfl
  exact hr.rep (hb rfl) h2
 | false =>
  obtain ⟨rfl, a, rfl⟩ := h4 rfl
  exact .arr _ _ _ _ (.nil _ _ _ _)
theorem allVal_spec : ∀ {l : List AV}, allVal l = true -> ∀ i, i < l.length -> ∃ v, l.getD i .non = .val v
 | [], _, i, hi => by simp at hi
 | x :: l, h, i, hi => by
  cases x with
  | val v =>
   cases i with
   | zero => exact ⟨v, rfl⟩
   | succ i => simpa using allVal_spec (l := l) h i (by simpa using hi)
  | _ => cases h
theorem memFree1_rep {B1 B2 : Nat -> Prop} {x : AV} {v : Value} (h : memFree1 x = true) (r : Rep w B1 x v) : Rep w B2 x v := by
 cases r with
 | non v => exact .non v
 | val v => exact .val v
 | agg l cs hl hr =>
  refine .agg l cs hl fun i hi => ?_
  obtain ⟨u, hu⟩ := allVal_spec h i hi
  have := hr i hi
  rw [hu] at this ⊢
  cases this
  exact .val _
 | _ => cases h
theorem allFree_spec : ∀ {l : List AV}, allFree l = true -> ∀ i, i < l.length -> memFree1 (l.getD i .non) = true
 | [], _, i, hi => by simp at hi
 | x :: l, h, i, hi => by
  unfold allFree at h
  split at h
  ·rename_i hx
   cases i with
   | zero => exact hx
   | succ i => simpa using allFree_spec (l := l) h i (by simpa using hi)
  ·cases h
theorem ResOk1.frz {w' : World} {B' B2 : Nat -> Prop} {b : Nat} {x : AV} {v : Value} (h : ResOk1 w w' B' b x v) (hb : isOwn x = true -> B2 b) (hm : (∀ b, B' b -> B2 b) \/ memFree1 x = true) :
  Rep w' B2 (fz2 x) v := by
 have go : Rep w' B' x v -> Rep w' B2 x v := fun h => by
  rcases hm with hm | hm
  ·exact h.mono fun b hb => ⟨hm b hb, rfl⟩
  ·exact memFree1_rep hm h
 cases x with
 | own ty c => exact .non _
 | row lv ty n ks c =>
  cases lv with
  | true =>
   obtain ⟨cap, rfl, h1, h2, h3, h4⟩ := h.1 rfl
   exact h4.rep (hb rfl) (Nat.le_refl _)
  | false =>
   obtain ⟨rfl, a, rfl⟩ := h.2 rfl
   exact .arr _ _ _ _ (.nil _ _ _ _)
 | _ => exact go h
theorem notOwn_slot {x : AV} (h : isSlot x = false) : isOwn x = false := by
 cases x <;> first | rfl | cases h
theorem fz2_box {x : AV} (h : isBox x = true) : fz2 x = .non \/ ∃ ty c, x = .vown ty c := by cases x <;> simp_all [isBox, fz2]
theorem rest_rep {x : AV} (f1 : isRef x = false) (f2 : ∀ g n, x ≠ .sl g n) (f3 : ∀ g i j, x ≠ .rf g i j) (f4 : ∀ l, x ≠ .tup l) (h : isSlot x = false) : isRep x = true \/ ∃ y os, x = .out y os := by
 cases x with
 | ref g k => cases f1
 | sl g n => exact absurd rfl (f2 g n)
 | rf g i j => exact absurd rfl (f3 g i j)
 | tup l => exact absurd rfl (f4 l)
 | out y os => exact .inr ⟨y, os, rfl⟩
 | own t c => cases h
 | vown t c => cases h
 | row lv ty m ks c => cases h
 | _ => exact .inl rfl
theorem fz_own {x : AV} {ty : TypeId} {c : List AV} (h : fz x = .own ty c) (hm : memFree x = true) : False := by
 cases x <;> simp [fz, fz1, memFree, memFree1] at h hm
theorem ResOk.frz {w' : World} {B' : Nat -> Prop} {x : AV} {v : Value} (h : ResOk w w' B' x v) (hB' : ∀ b, B' b -> b < w'.heap.size) :
  ∃ β : Nat -> Prop, (∀ b, β b -> w.heap.size <= b /\ b < w'.heap.size) /\
   ∀ B2 : Nat -> Prop, (∀ b, β b -> B2 b) -> ((∀ b, B' b -> B2 b) \/ (memFree x = true /\ ∀ b, B2 b -> β b)) -> (∀ b, B2 b -> B' b \/ β b) ->
    (∃ ty c b, fz x = .own ty c /\ v = .pointer (some ⟨b, 0, none⟩) /\ w.heap.size <= b /\ ¬ B2 b /\ ((∀ b, B' b -> B2 b) -> Boxed w' B2 b ty c)) \/ Rep w' B2 (fz x) v := by
 have key : ∀ (b : Nat) (x : AV) (v : Value), ResOk1 w w' B' b x v -> (isOwn x = true -> isBox x = false -> w.heap.size <= b /\ b < w'.heap.size) := fun b x v h ho hb => by
  cases x with
  | row lv ty n ks c =>
   have ho : lv = true := ho
   obtain ⟨cap, _, h1, h2, _⟩ := h.1 ho
   exact ⟨h1, h2⟩
  | own ty c => cases hb
  | vown ty c => cases hb
  | _ => cases ho
 by_cases ht : ∃ l, x = .tup l
 ·obtain ⟨l, rfl⟩ := ht
  obtain ⟨cs, bs, rfl, h1, h2, h3⟩ := h
  refine ⟨fun b => ∃ i, i < l.length /\ isOwn (l.getD i .non) = true /\ isBox (l.getD i .non) = false /\ b = bs i, ?_, fun B2 k1 k2 k3 => .inr ?_⟩
  ·rintro b ⟨i, hi, ho, hb, rfl⟩
   exact key _ _ _ (h2 i hi) ho hb
  ·refine .tup _ _ (by simpa using h1) fun i hi => ?_
   have hi' : i < l.length := by simpa using hi
   have e : (l.map fz2).getD i .non = fz2 (l.getD i .non) := by simp [List.getD, hi']
   show Rep w' B2 ((l.map fz2).getD i .non) _
   rw [e]
   by_cases hb : isBox (l.getD i .non) = true
   ·rcases fz2_box hb with h | ⟨ty, c, h⟩
    ·rw [h]; exact .non _
    ·have := h2 i hi'
     rw [h] at this
     exact absurd this (fun h : Rep w' B' (.vown ty c) _ => by cases h)
   ·exact (h2 i hi').frz (fun ho => k1 _ ⟨i, hi', ho, by simpa using hb, rfl⟩) (k2.imp id fun h => allFree_spec h.1 i hi')
 ·have h' : ∃ b, ResOk1 w w' B' b x v := by cases x <;> first | exact h | exact absurd ⟨_, rfl⟩ ht
  obtain ⟨b, h⟩ := h'
  refine ⟨fun b' => isOwn x = true /\ isBox x = false /\ b' = b, ?_, fun B2 k1 k2 k3 => ?_⟩
  ·rintro b' ⟨ho, hb, rfl⟩
   exact key _ _ _ h ho hb
  ·by_cases hb : isBox x = true
   ·cases x with
    | own ty c =>
     obtain ⟨f1, f2, f3, f4⟩ := h
     refine .inl ⟨ty, c, b, rfl, f1, f2, fun hb2 => ?_, fun h => f4.mono h⟩
     rcases k3 b hb2 with h | h
     ·exact f3 h
     ·cases h.2.1
    | vown ty c => exact absurd h (fun h : Rep w' B' (.vown ty c) _ => by cases h)
    | _ => cases hb
   ·have e : fz x = fz2 x := by cases x <;> first | rfl | exact absurd ⟨_, rfl⟩ ht | exact absurd rfl hb
    rw [e]
    refine .inr (h.frz (fun ho => k1 _ ⟨ho, by simpa using hb, rfl⟩) (k2.imp id fun h => ?_))
    have h := h.1
    cases x <;> first | exact h | exact absurd ⟨_, rfl⟩ ht
theorem hasSl_spec : ∀ {l : List AV}, hasSl l = false -> ∀ i g n, l.getD i .non ≠ .sl g n
 | [], _, i, g, n, h => by simp at h
 | x :: l, h, 0, g, n, e => by
  have e : x = .sl g n := by simpa using e
  subst e
  cases h
 | x :: l, h, i + 1, g, n, e => by
  have h' : hasSl l = false := by cases x <;> first | exact h | cases h
  exact hasSl_spec h' i g n (by simpa using e)
theorem wp_call (hΓ : Sound P GL Γ) (hR : Rr E N B w0 ρ σ a w) (hG : GOk w0 B GL) (hB : ∀ b, B b -> b < w0.heap.size /\ ¬ E.X b)
  {g : Nat} {f : Operand} {args : Array Operand} {ts : Array TypeId} (hf : a.eval f = .func (.func g) #[] #[]) (ho : o.op = .call ⟨.value f, args, ts⟩) (h : callOf GL Γ E.n σ o g args.toList = some (true, u))
  (hK : ∀ ρ' a' w', Rr E N B w0 ρ' (upd σ u) a' w' -> K a' w') : o.wp P a w K Q := by
 unfold callOf at h
 split at h
 ·rename_i s hs
  split at h
  ·rename_i as has hnd
   split at h
   case h_2 => cases h
   rename_i cc y hy
   split at h
   case h_2 => cases h
   rename_i hbr
   split at h
   case h_2 => cases h
   rename_i ou u0 hou hu
   cases h
   obtain ⟨⟨fn, hfn, hnm, hbd⟩, hc⟩ := hΓ g s hs
   obtain ⟨hlen, hav⟩ := argsV_spec has
   let xs := args.toList.map (evA GL σ)
   let Bc : Nat -> Prop := fun b => ρ.F b \/ (hasSl xs = true /\ ∃ g, isOwn (σ g) = true /\ isBox (σ g) = false /\ b = ρ.b g)
   have hBc : ∀ b, ρ.F b -> Bc b := fun b h => .inl h
   have hBlt : ∀ b, Bc b -> b < w.heap.size := fun b hb => by
    rcases hb with hb | ⟨_, g, h1, _, rfl⟩
    ·exact (hR.frz b hb).2.1
    ·exact hR.lt h1
   have hg' : GOk w Bc GL := by
    exact hG.mono fun b hb => ⟨.inl (hR.bf b hb), hR.blw.block b (hB b hb).1 (hB b hb).2⟩
   have hlen' : as.length = args.toList.length := by rw [hlen]; simp
   -- each argument
   have arg : ∀ i, i < as.length -> (∃ t ty c, (args.toList.map (evA GL σ)).getD i .non = .ref t 0 /\ as.getD i .non = .own ty c /\ boxC (σ t) = some c /\ tyC (σ t) = some ty /\
         (args.toList.map a.eval).getD i undef = .pointer (some ⟨ρ.b t, 0, none⟩)) \/
     (isRef ((args.toList.map (evA GL σ)).getD i .non) = false /\ isOwn (as.getD i .non) = false /\ Rep w Bc (as.getD i .non) ((args.toList.map a.eval).getD i undef)) := by
    intro i hi
    have hi' : i < args.toList.length := by omega
    have e1 : (args.toList.map (evA GL σ)).getD i .non = evA GL σ args.toList[i] := by simp only [List.getD, List.getElem?_map, List.getElem?_eq_getElem hi', Option.map_some, Option.getD_some]
    have e2 : (args.toList.map a.eval).getD i undef = a.eval args.toList[i] := by simp only [List.getD, List.getElem?_map, List.getElem?_eq_getElem hi', Option.map_some, Option.getD_some]
    rcases argV_spec (hav i (by omega)) with ⟨t, ty, c, f1, f2, f3, f4⟩ | ⟨t, n, lv, ty, m, ks, c, f1, f2, f3⟩ | ⟨f1, f2, f3, f4, f5⟩
    ·refine .inl ⟨t, ty, c, f1, f2, f3, f4, ?_⟩
     rw [e2]
     exact (evA_ref hR hG hB (e1 ▸ f1)).1
    ·refine .inr ⟨by rw [f1]; rfl, by rw [f3]; rfl, ?_⟩
     rw [f3, e2]
     have hv := evA_vok hR hG hB args.toList[i]
     rw [<- e1, f1] at hv
     exact SlOk.rep (hv : SlOk w ρ σ t n _) f2 fun hl => .inr ⟨by
      cases hh : hasSl xs with
      | true => rfl
      | false => exact absurd f1 (hasSl_spec hh i t n), t, by rw [f2]; exact hl, by rw [f2]; rfl, rfl⟩
    ·rw [f5, e1, e2]
     rw [e1] at f1 f2 f3 f4
     have hv := evA_vok hR hG hB args.toList[i]
     have hns := evA_ns hR hG hB args.toList[i]
     rcases rest_rep f1 f2 f3 f4 hns with hrep | ⟨x, os, e⟩
     ·have hr := hv.rep hrep
      exact .inr ⟨f1, notOwn_slot hr.notOwn, hr.mono fun b hb => ⟨.inl hb, rfl⟩⟩
     ·rw [e] at hv
      exact absurd hv (fun h : Rep w ρ.F (.out x os) _ => by cases h)
   let β : Nat -> Nat := fun i => match (args.toList.map (evA GL σ)).getD i .non with
    | .ref t _ => ρ.b t
    | _ => 0
   have hβ : ∀ i t k, (args.toList.map (evA GL σ)).getD i .non = .ref t k -> β i = ρ.b t := fun i t k e => by simp only [β, e]
   have boxNB : ∀ t, isBox (σ t) = true -> ¬ Bc (ρ.b t) := fun t ht hb => by
    rcases hb with hb | ⟨_, g, h1, h2, h3⟩
    ·exact (hR.frz _ hb).2.2 t (isBox_own ht) rfl
    ·have := hR.inj t g (isBox_own ht) h1 h3
     subst this
     rw [ht] at h2; cases h2
   have hcall := hc as y hy w Bc (args.toList.map a.eval) β hBlt hg' (by simpa using hlen') (fun i hi => by
    rcases arg i hi with ⟨t, ty, c, f1, f2, f3, f4, f5⟩ | ⟨f1, f2, f3⟩
    ·rw [f2, f5, hβ i t 0 f1]
     obtain ⟨g1, ty', g2, g3⟩ := box_cells hR f3
     rw [f4] at g2
     cases g2
     exact ⟨rfl, boxNB t g1, g3.mono hBc⟩
    ·exact ArgOk.of_rep f3) (fun i j hi hj oi oj e => by
    rcases arg i hi with ⟨t, ty, c, f1, f2, f3, f4, f5⟩ | ⟨f1, f2, f3⟩
    ·rcases arg j hj with ⟨t', ty', c', f1', f2', f3', f4', f5'⟩ | ⟨f1', f2', f3'⟩
     ·rw [hβ i t 0 f1, hβ j t' 0 f1'] at e
      have := hR.inj t t' (isBox_own (box_cells hR f3).1) (isBox_own (box_cells hR f3').1) e
      subst this
      exact nodup_spec hnd f1 f1'
     ·rw [oj] at f2'; cases f2'
    ·rw [oi] at f2; cases f2)
   have hrun : (execOp a.eval o).run P w = .ok (.enter g ⟨args.toList.map a.eval⟩) w := by
    obtain ⟨dst, op, type, pos, after, guard⟩ := o
    simp only at ho
    subst ho
    have e : (⟨args.toList.map a.eval⟩ : Array Value) = args.map a.eval := by
     apply Array.ext'
     simp
    have := callFunc_run (P := P) (w := w) (args := args.map a.eval) hfn hnm hbd
    rw [e]
    simpa [execOp, resolve, hf, Deferred.ofValue, invoke] using this
   unfold Oper.wp
   rw [hrun]
   show Calls P g _ w _
   refine hcall.mono ?_
   rintro e w' ⟨v, rfl, hbw, B', hB', hres, hout⟩
   have hX : ∀ b, (∃ i, i < as.length /\ isOwn (as.getD i .non) = true /\ b = β i) -> ∃ i t, (args.toList.map (evA GL σ)).getD i .non = .ref t 0 /\ isBox (σ t) = true /\ b = ρ.b t := by
    rintro b ⟨i, hi, hio, rfl⟩
    rcases arg i hi with ⟨t, ty, c, f1, f2, f3, f4, f5⟩ | ⟨f1, f2, f3⟩
    ·exact ⟨i, t, f1, tyC_own f4, hβ i t 0 f1⟩
    ·rw [hio] at f2; cases f2
   obtain ⟨γ, hγ, hfz⟩ := hres.frz fun b hb => (hB' b hb).2
   have hsl : hasSl xs = false \/ (memFree (splitOut y).1 = true /\ isNil (gsOf xs) = true) := by
    cases hh : hasSl xs with
    | false => exact .inl rfl
    | true =>
     refine .inr ?_
     have : (!hasSl xs || (memFree (splitOut y).1 && isNil (gsOf xs))) = true := hbr
     rw [hh] at this
     simpa using this
   let B2 : Nat -> Prop := fun b => γ b \/ (hasSl xs = false /\ B' b)
   have hB2 : ∀ b, B2 b -> (ρ.F b \/ w.heap.size <= b) /\ b < w'.heap.size := fun b hb => by
    rcases hb with hb | ⟨h0, hb⟩
    ·exact ⟨.inr (hγ b hb).1, (hγ b hb).2⟩
    ·obtain ⟨h1, h2⟩ := hB' b hb
     refine ⟨?_, h2⟩
     rcases h1 with (h1 | ⟨h1, _⟩) | h1
     ·exact .inl h1
     ·rw [h0] at h1; cases h1
     ·exact .inr h1
   obtain ⟨ρ', _, hR'⟩ := hR.call (o := o) hbw.os hbw.tape hbw.output hbw.size (fun b hb hn => hbw.block b hb fun hx => by
     obtain ⟨i, t, _, h2, h3⟩ := hX b hx
     exact hn t (isBox_own h2) h3.symm) hB2 (ou := ou) (fun t z hz => by
     obtain ⟨i, k, c, e1, e2, e3, e4⟩ := (outU_spec (t := t) hou).1 z hz
     have hi : i < as.length := by rw [hlen]; exact e1
     have hs0 : hasSl xs = false := by
      rcases hsl with h | ⟨_, h⟩
      ·exact h
      ·have := mem_gsOf e2
       cases hg : gsOf xs with
       | nil => rw [show gsOf (args.toList.map (evA GL σ)) = [] from hg] at this; cases this
       | cons x l => rw [hg] at h; cases h
     rcases arg i hi with ⟨t', ty, c', f1, f2, f3, f4, f5⟩ | ⟨f1, f2, f3⟩
     ·rw [e2] at f1
      cases f1
      have ho := hout i hi
      rw [f2] at ho
      obtain ⟨c2, g1, g2⟩ := ho
      rw [e3] at g1
      cases g1
      rw [hβ i t 0 e2] at g2
      exact .inl ⟨ty, c, f4, e4, g2.mono fun b hb => .inr ⟨hs0, hb⟩⟩
     ·rw [e2] at f1; cases f1) (fun t ht hn => hbw.block _ (hR.lt ht) fun hx => by
     obtain ⟨i, t', h1, h2, h3⟩ := hX _ hx
     have := hR.inj t t' ht (isBox_own h2) h3
     subst this
     exact (outU_spec (t := t) hou).2 hn i 0 h1) (x := fz (splitOut y).1) (v := v) (by
     rcases hsl with h0 | ⟨h0, h1⟩
     ·rcases hfz B2 (fun b h => .inl h) (.inl fun b h => .inr ⟨h0, h⟩) (fun b h => h.elim .inr fun h => .inl h.2) with ⟨ty, c, b, e1, e2, e3, e4, e5⟩ | h
      ·exact .inl ⟨ty, c, b, e1, e2, e3, e4, e5 fun b h => .inr ⟨h0, h⟩⟩
      ·exact .inr h
     ·by_cases hh : hasSl xs = false
      ·rcases hfz B2 (fun b h => .inl h) (.inl fun b h => .inr ⟨hh, h⟩) (fun b h => h.elim .inr fun h => .inl h.2) with ⟨ty, c, b, e1, e2, e3, e4, e5⟩ | h
       ·exact .inl ⟨ty, c, b, e1, e2, e3, e4, e5 fun b h => .inr ⟨hh, h⟩⟩
       ·exact .inr h
      ·have hB2' : ∀ b, B2 b -> γ b := fun b h => h.elim id fun h => absurd h.1 hh
       rcases hfz B2 (fun b h => .inl h) (.inr ⟨h0, hB2'⟩) (fun b h => .inr (hB2' b h)) with ⟨ty, c, b, e1, e2, e3, e4, e5⟩ | h
       ·exact absurd (fz_own e1 h0) id
       ·exact .inr h) hu
   exact hK _ _ _ hR'
  ·cases h
 ·cases h
theorem unArr_rep {Bb : Nat -> Prop} {x : AV} {v : Value} (h : Rep w Bb x v) : Rep w Bb (unArr x) v := by
 unfold unArr
 split
 ·cases h with | arr n ks c v h => exact h
 ·cases h with | nils a => exact .nil _ _ _ _
 ·cases h; exact .nil _ _ _ _
 ·exact h
theorem unArr_lst {x : AV} {n k : Nat} {row : Nat -> List AV} (h : unArr x = .lst n k row) : isRep x = true := by
 unfold unArr at h
 split at h
 ·rfl
 ·rfl
 ·rfl
 ·rw [h]; rfl
theorem unArr_ref {x : AV} {g k : Nat} (h : unArr x = .ref g k) : x = .ref g k := by
 unfold unArr at h
 split at h <;> first | exact h | cases h
theorem unArr_eptr {x : AV} {c : List AV} (h : unArr x = .eptr c) : x = .eptr c := by
 unfold unArr at h
 split at h <;> first | exact h | cases h
theorem unArr_sl {x : AV} {g n : Nat} (h : unArr x = .sl g n) : x = .sl g n := by
 unfold unArr at h
 split at h <;> first | exact h | cases h
theorem slc_val {n k b o cap lo hi : Nat} (h1 : lo <= hi) (h2 : hi <= n) (hn : n <= cap) {F : Nat -> Prop} {r : Nat -> List AV} {f : Nat -> Nat -> Value} (hB : F b) (hk : ∀ i, i < n -> (r i).length = k)
  (hc : ∀ i j, i < n -> j < k -> w.cell? ⟨b, o + i * k + j, none⟩ = some (f i j)) (hr : ∀ i j, i < n -> j < k -> Rep w F ((r i).getD j .non) (f i j)) :
  Rep w F (.lst (hi - lo) k fun i => r (i + lo)) (sliced (some ⟨b, o, none⟩) lo hi cap k) := by
 unfold sliced
 by_cases hc0 : cap = lo
 ·have : hi - lo = 0 := by omega
  rw [this]
  exact .nil _ _ _ _
 ·rw [if_neg hc0]
  simp only [Option.map_some, addr_add]
  refine .lst _ _ _ b (o + lo * k) _ (fun i j => f (i + lo) j) hB (by omega) (fun i hi => hk _ (by omega)) (fun i j hi hj => ?_) (fun i j hi hj => hr _ _ (by omega) hj)
  have := hc (i + lo) j (by omega) hj
  rw [show o + lo * k + i * k + j = o + (i + lo) * k + j by rw [Nat.add_mul]; omega]
  exact this
theorem slc_rep {n k cap lo hi : Nat} {a : Option Addr} (h1 : lo <= hi) (h2 : hi <= n) {F : Nat -> Prop} {r : Nat -> List AV} (h : Rep w F (.lst n k r) (.slice a n cap)) :
  Rep w F (.lst (hi - lo) k fun i => r (i + lo)) (sliced a lo hi cap k) /\ n <= cap := by
 cases h with
 | nil k row a cap =>
  have e : hi = 0 := by omega
  subst e
  have e : lo = 0 := by omega
  subst e
  exact ⟨.nil _ _ _ _, Nat.zero_le _⟩
 | lst _ _ _ b o cap f hB hn hk hc hr => exact ⟨slc_val h1 h2 hn hB hk hc hr, hn⟩
theorem rep_lst_val {F : Nat -> Prop} {n k : Nat} {r : Nat -> List AV} {v : Value} (h : Rep w F (.lst n k r) v) : ∃ a cap, v = .slice a n cap := by
 cases h with
 | nil k row a cap => exact ⟨a, cap, rfl⟩
 | lst _ _ _ b o cap f hB hn hk hc hr => exact ⟨_, cap, rfl⟩
theorem elemSz_spec {t : TypeId} {k : Nat} (h : elemSz P t = some k) : P.underlying t = some (.slice (P.elem t)) /\ pv P (sizeOf (P.elem t)) = some k := by
 unfold elemSz at h
 split at h
 ·rename_i e he
  have : P.elem t = e := by simp [Program.elem, he]
  rw [this]
  exact ⟨he, h⟩
 ·cases h
theorem intsOf_spec : ∀ {l : List Value} {xs : List Int}, intsOf l = some xs -> ∀ i, i < l.length -> l.getD i undef = .int .i64 (xs.getD i 0)
 | [], xs, h, i, hi => by simp at hi
 | v :: l, xs, h, i, hi => by
  unfold intsOf at h
  split at h
  ·rename_i heq; cases heq
  ·rename_i x l' heq
   cases heq
   split at h
   ·rename_i ys hys
    cases h
    cases i with
    | zero => rfl
    | succ i => simpa using intsOf_spec hys i (by simpa using hi)
   ·cases h
  ·cases h
theorem arr_run {t : TypeId} {n s b k : Nat} {j : Int} (h : arrOf P t = some (n, s)) (hj : (decide (0 <= j) && decide (j < (n : Int))) = true) :
  (Instr.indexAt t (.pointer (some ⟨b, k, none⟩)) (.int .i64 j)).run P w = .ok (.pointer (some ⟨b, k + j.toNat * s, none⟩)) w := by
 unfold arrOf at h
 split at h
 ·rename_i m e he
  split at h
  ·rename_i s' hs
   split at h
   ·cases h
   ·rename_i hle
    cases h
    have hn : ¬ n <= 1 := fun hh => by rw [Nat.ble_eq_true_of_le hh] at hle; cases hle
    simp only [Bool.and_eq_true, decide_eq_true_eq] at hj
    have hun : (underlying t).run P w = .ok (.array n e) w := by simp [underlying, program, Sem.run, he]
    simp [Instr.indexAt, asIntOf, hun, Instr.sureAddr, hn, hj, pv_run _ _ hs, addr_add]
  ·cases h
 ·cases h
theorem bldS_run {t : TypeId} {n : Nat} {ps : Array (Nat × Value)} {cells : List Value} {s : Nat} {e : TypeId} (h : bldS P t n ps = some (cells, s, e)) :
  cells.length = n * s /\ (Instr.buildSlice t n ps).run P w = .ok (.slice (some ⟨w.heap.size, 0, none⟩) n n) { w with heap := w.heap.push (.cells ⟨cells⟩ e (0, 0)) } := by
 unfold bldS at h
 split at h
 ·rename_i e' he
  split at h
  ·rename_i s' z hs hz
   split at h
   ·rename_i h1 h2
    split at h
    ·rename_i cs hf
     split at h
     ·rename_i hl
      simp only [Option.some.injEq, Prod.mk.injEq] at h
      obtain ⟨rfl, rfl, rfl⟩ := h
      have hun : (underlying t).run P w = .ok (.slice e') w := by simp [underlying, program, Sem.run, he]
      have h1' : ¬ n * s' > 2 ^ 24 := by have := Nat.le_of_ble_eq_true h1; omega
      have h2' : ¬ n * s' = 0 := fun hh => by rw [hh] at h2; cases h2
      refine ⟨Nat.eq_of_beq_eq_true hl, ?_⟩
      simp only [Instr.buildSlice, Sem.run_bind, hun, Result.andThen_ok, pv_run _ _ hs, if_neg h1', if_neg h2', pv_run _ _ hz]
      simp only [Sem.run_pure, Result.andThen_ok, hf]
      simp [newRow, newObj, Sem.run]
     ·cases h
    ·cases h
   ·cases h
  ·cases h
 ·cases h
theorem eqT_run : ∀ (n d : Nat) (t : TypeId) (x y : Value) (b : Bool), eqT P n t x y = some b -> (Op.equalIn (d + n) t x y).run P w = .ok b w
 | 0, _, _, _, _, _, h => by cases h
 | n + 1, d, t, x, y, b, h => by
  have fields : ∀ (xs ys : Array Value) (l : List Field) (b : Bool), eqFs P (eqT P n) xs ys l = some b -> (Op.eqFields (d + n) xs ys l).run P w = .ok b w := by
   intro xs ys l
   induction l with
   | nil => intro b h; cases h; simp [Op.eqFields]
   | cons fd l ih =>
    intro b h
    unfold eqFs at h
    split at h
    ·rename_i a c hn ha hc
     split at h
     ·rename_i e r he hr
      cases h
      have hn' : fd.name ≠ "_" := by simpa using hn
      have p3 := eqT_run n d fd.type a c e he
      simp only [Op.eqFields, hn', ne_eq, not_false_eq_true, if_true, Sem.run_bind, pv_run _ _ ha, pv_run _ _ hc, p3, Result.andThen_ok]
      cases e with
      | true => simpa using ih r hr
      | false => simp
     ·cases h
    ·cases h
  unfold eqT at h
  split at h
  ·rename_i q k a k' c hu
   split at h
   ·rename_i hk
    cases h
    have hk : k = k' := by simpa using hk
    subst hk
    simp [<- Nat.add_assoc, Op.equalIn, underlying, program, Sem.run, hu]
   ·cases h
  ·rename_i a c hu
   cases h
   simp [<- Nat.add_assoc, Op.equalIn, underlying, program, Sem.run, hu]
  ·rename_i fs xs ys hu
   split at h
   ·rename_i hs
    have hfs : P.fieldsOf t = fs := by simp [Program.fieldsOf, hu]
    rw [show d + (n + 1) = (d + n) + 1 from rfl, Go.run_equalIn_struct w (d + n) t xs ys (by rw [hfs]; exact hu) hs, hfs]
    exact fields xs ys fs.toList b h
   ·cases h
  ·cases h
theorem eqA_run {op : BinOp} {t yt : TypeId} {x y : Operand} {vx vy : Option Value} {z : AV} (h : eqA P op t vx vy = some z) :
  ∃ xs ys v, vx = some (.agg xs) /\ vy = some (.agg ys) /\ z = .val v /\ (do eqGuard op t x y (.agg xs) (.agg ys); binOp op t (.agg xs) (.agg ys)).run P w = .ok v w := by
 unfold eqA at h
 split at h
 ·rename_i xs ys
  split at h
  ·rename_i b hg he
   have hr := eqT_run (P := P) (w := w) 8 9992 t _ _ b he
   have hr' : (Op.equal t (.agg xs) (.agg ys)).run P w = .ok b w := hr
   split at h
   ·cases h
    exact ⟨xs, ys, .bool b, rfl, rfl, rfl, by simp [eqGuard, program, Sem.run, hg, binOp, hr']⟩
   ·cases h
    exact ⟨xs, ys, .bool (!b), rfl, rfl, rfl, by simp [eqGuard, program, Sem.run, hg, binOp, hr']⟩
   ·cases h
  ·cases h
 ·cases h
theorem fold_splice : ∀ (l : List Value) (k : Nat) (cs : Array Value) (off : Nat), off + k + l.length <= cs.size ->
  ((l.zipIdx k).foldl (fun (cs : Array Value) (p : Value × Nat) => cs.setIfInBounds (off + p.2) p.1) cs).toList = cs.toList.take (off + k) ++ l ++ cs.toList.drop (off + k + l.length)
 | [], k, cs, off, h => by simp
 | x :: l, k, cs, off, h => by
  simp only [List.length_cons] at h
  rw [List.zipIdx_cons, List.foldl_cons, fold_splice l (k + 1) _ off (by simp; omega)]
  simp only [Array.toList_setIfInBounds, List.length_cons]
  have hlt : off + k < cs.toList.length := by simp; omega
  have hm : off + (k + 1) = off + k + 1 := by omega
  have e1 : (cs.toList.set (off + k) x).take (off + k + 1) = cs.toList.take (off + k) ++ [x] := by
   rw [List.set_eq_take_append_cons_drop, if_pos hlt]
   have hl : (cs.toList.take (off + k)).length = off + k := by simp; omega
   rw [List.take_append, List.take_of_length_le (by omega), hl]
   simp
  have e2 : (cs.toList.set (off + k) x).drop (off + k + 1 + l.length) = cs.toList.drop (off + k + (l.length + 1)) := by
   apply List.ext_getElem?
   intro i
   rw [List.getElem?_drop, List.getElem?_drop, List.getElem?_set_ne (by omega)]
   congr 1
   omega
  rw [hm, e1, e2]
  simp
theorem fill_spec {Bb : Nat -> Prop} {ρ' : Operand -> Value} {ev : Operand -> AV} (pl : Array (Nat × Nat)) : ∀ (ps : List (Nat × Operand)) (c l : List AV) (cs : Array Value),
  (∀ p ∈ ps, ∀ xs, flat (ev p.2) = some xs -> Rep w Bb (ev p.2) (ρ' p.2)) -> c.length = cs.toList.length -> (∀ i, i < c.length -> Rep w Bb (c.getD i .non) (cs.toList.getD i undef)) ->
  fillA pl c (ps.map fun p => (p.1, ev p.2)) = some l ->
  ∃ cs' : Array Value, Instr.fill (pl[·]?) cs (ps.map fun p => (p.1, ρ' p.2)) = some cs' /\ l.length = cs'.toList.length /\ ∀ i, i < l.length -> Rep w Bb (l.getD i .non) (cs'.toList.getD i undef)
 | [], c, l, cs, _, hl, hr, h => by
  cases h
  exact ⟨cs, rfl, hl, hr⟩
 | (i, x) :: ps, c, l, cs, hp, hl, hr, h => by
  simp only [List.map_cons, fillA] at h
  split at h
  ·rename_i off size xs hpl hfl
   split at h
   ·rename_i h1 h2
    have h1 := Nat.eq_of_beq_eq_true h1
    have h2 := Nat.le_of_ble_eq_true h2
    obtain ⟨vs, e1, e2, e3⟩ := flat_rep hfl (hp (i, x) (by simp) xs hfl)
    have hfold : ((ρ' x).cells.zipIdx.foldl (fun (cs : Array Value) (p : Value × Nat) => cs.setIfInBounds (off + p.2) p.1) cs).toList = cs.toList.take off ++ vs ++ cs.toList.drop (off + vs.length) := by
     rw [e1, <- Array.foldl_toList, Array.toList_zipIdx]
     have := fold_splice vs 0 cs off (by have : cs.toList.length = cs.size := by simp
                                         omega)
     simpa using this
    have hle : off + xs.length <= c.length := h2
    obtain ⟨cs', g1, g2, g3⟩ := fill_spec pl ps (splice c off xs) l _ (fun p hp' => hp p (by simp [hp'])) (by
      rw [hfold]
      unfold splice
      rw [splice_length _ _ _ hle, splice_length _ _ _ (by omega)]
      exact hl) (fun j hj => by
      rw [hfold]
      unfold splice at hj ⊢
      rw [splice_length _ _ _ hle] at hj
      rw [splice_getD _ _ _ _ _ hle, splice_getD _ _ _ _ _ (by omega)]
      by_cases q1 : j < off
      ·rw [if_pos q1, if_pos q1]; exact hr j hj
      ·rw [if_neg q1, if_neg q1]
       by_cases q2 : j < off + xs.length
       ·rw [if_pos q2, if_pos (by omega)]; exact e3 _ (by omega)
       ·rw [if_neg q2, if_neg (by omega)]; exact hr j hj) h
    refine ⟨cs', ?_, g2, g3⟩
    simp only [List.map_cons, Instr.fill]
    rw [hpl]
    simp only
    have hc1 : (ρ' x).cells.size = size := by rw [e1]; simp; omega
    have hc2 : ¬ off + size > cs.size := by have : cs.toList.length = cs.size := by simp
                                            omega
    rw [if_neg (by simp [hc1]; omega)]
    exact g1
   ·cases h
  ·cases h
theorem cellI_spec {Bb : Nat -> Prop} {k : CK} {x : AV} {z : Int} {v : Value} (h : cellI k x = some z) (r : Rep w Bb x v) : v = mkCell k z /\ v.oneCell' = true := by
 unfold cellI at h
 split at h
 ·rename_i y
  split at h
  ·rename_i hy
   cases h
   cases r
   simp only [Bool.and_eq_true, decide_eq_true_eq] at hy
   exact ⟨by show _ = Value.int .u8 (z % 256); rw [Int.emod_eq_of_lt hy.1 hy.2], rfl⟩
  ·cases h
 ·cases h
 ·rename_i k k' y _ hk
  split at h
  ·rename_i hk'
   cases h
   have hk' : k = k' := by simpa using hk'
   subst hk'
   cases r
   have e : mkCell (.int k) z = .int k z := by
    cases k <;> first | rfl | exact (hk rfl).elim
   exact And.intro e.symm rfl
  ·cases h
 ·rename_i b
  cases h
  cases r
  exact ⟨by cases b <;> rfl, rfl⟩
 ·rename_i s
  cases h
  cases r
  exact ⟨by show _ = Value.string (decS (encS s)); rw [decS_encS], rfl⟩
 ·cases h
theorem cellsI_spec {Bb : Nat -> Prop} : ∀ {ks : List CK} {l : List AV} {xs : List Int} {vs : List Value}, cellsI ks l = some xs -> l.length = vs.length -> (∀ i, i < l.length -> Rep w Bb (l.getD i .non) (vs.getD i undef)) ->
  xs.length = l.length /\ (∀ i, i < l.length -> vs.getD i undef = mkCell (ks.getD i .bool) (xs.getD i 0)) /\ ∀ v ∈ vs, v.oneCell' = true
 | ks, [], xs, vs, h, hl, hr => by
  unfold cellsI at h
  cases h
  cases vs with
  | nil => exact ⟨rfl, fun i hi => by simp at hi, fun v hv => by cases hv⟩
  | cons v vs => simp at hl
 | [], x :: l, xs, vs, h, hl, hr => by cases h
 | k :: ks, x :: l, xs, vs, h, hl, hr => by
  cases vs with
  | nil => simp at hl
  | cons v vs =>
   unfold cellsI at h
   split at h
   ·rename_i z hz
    split at h
    ·rename_i zs hzs
     cases h
     have h0 := hr 0 (by simp)
     simp only [List.getD_cons_zero] at h0
     obtain ⟨e1, e2⟩ := cellI_spec hz h0
     obtain ⟨f1, f2, f3⟩ := cellsI_spec (vs := vs) hzs (by simpa using hl) fun i hi => by
      have := hr (i + 1) (by simpa using hi)
      simpa using this
     refine ⟨by simp [f1], fun i hi => ?_, fun u hu => ?_⟩
     ·cases i with
      | zero => simpa using e1
      | succ i => simpa using f2 i (by simpa using hi)
     ·rcases List.mem_cons.1 hu with rfl | hu
      ·exact e2
      ·exact f3 u hu
    ·cases h
   ·cases h
theorem rowSet_cell {ks : List CK} {c : NNI} {cs vs : List Value} {m i j i' j' : Nat} {l : List AV} {xs : List Int} (g6 : ∀ i j, i < m -> j < ks.length -> cs.getD (i * ks.length + j) undef = mkCell (ks.getD j .bool) (c i j))
  (hi' : i' < m) (hj' : j' < ks.length) (hle : j + vs.length <= ks.length) (hl : l.length = vs.length) (q1 : xs.length = l.length) (q2 : ∀ q, q < l.length -> vs.getD q undef = mkCell ((ks.drop j).getD q .bool) (xs.getD q 0)) :
  (if i' * ks.length + j' < i * ks.length + j then cs.getD (i' * ks.length + j') undef else if i' * ks.length + j' < i * ks.length + j + vs.length then vs.getD (i' * ks.length + j' - (i * ks.length + j)) undef else cs.getD (i' * ks.length + j') undef) =
   mkCell (ks.getD j' .bool) (rowSet c i j xs i' j') := by
 unfold rowSet
 by_cases he : i' = i
 ·subst he
  rw [Nat.beq_refl, Bool.true_and]
  by_cases h1 : j' < j
  ·rw [if_pos (by omega), show Nat.ble j j' = false by cases h : Nat.ble j j' with
    | false => rfl
    | true => have := Nat.le_of_ble_eq_true h; omega]
   exact g6 _ _ hi' hj'
  ·rw [if_neg (by omega), show Nat.ble j j' = true from Nat.ble_eq_true_of_le (by omega), Bool.true_and]
   by_cases h2 : j' < j + vs.length
   ·rw [if_pos (by omega), show Nat.blt j' (j + xs.length) = true from Nat.ble_eq_true_of_le (by omega)]
    rw [show i' * ks.length + j' - (i' * ks.length + j) = j' - j by omega, q2 _ (by omega)]
    congr 1
    simp [List.getD, List.getElem?_drop, show j + (j' - j) = j' by omega]
   ·rw [if_neg (by omega), show Nat.blt j' (j + xs.length) = false by cases h : Nat.blt j' (j + xs.length) with
     | false => rfl
     | true => have := Nat.le_of_ble_eq_true h; omega]
    exact g6 _ _ hi' hj'
 ·rw [beq_ne he, Bool.false_and]
  have hlt : i' * ks.length + j' < i * ks.length + j \/ i * ks.length + j + vs.length <= i' * ks.length + j' := by
   rcases Nat.lt_or_ge i' i with h | h
   ·left
    have : (i' + 1) * ks.length <= i * ks.length := Nat.mul_le_mul_right _ h
    rw [Nat.add_mul, Nat.one_mul] at this
    omega
   ·right
    have : (i + 1) * ks.length <= i' * ks.length := Nat.mul_le_mul_right _ (by omega)
    rw [Nat.add_mul, Nat.one_mul] at this
    omega
  rcases hlt with h | h
  ·rw [if_pos h]; exact g6 _ _ hi' hj'
  ·rw [if_neg (by omega), if_neg (by omega)]; exact g6 _ _ hi' hj'
theorem Rr.rowPut (hR : Rr E N B w0 ρ σ a w) {g : Nat} {lv : Bool} {ty : TypeId} {m : Nat} {ks : List CK} {c c' : NNI} (e : σ g = .row lv ty m ks c) {w' : World}
  (hw : ∀ b, (lv = true -> b ≠ ρ.b g) -> w'.heap[b]? = w.heap[b]?) (hs : w'.heap.size = w.heap.size) (hos : w'.os = w.os) (htp : w'.tape = w.tape) (hop : w'.output = w.output)
  (hrow : lv = true -> ∀ cap, Rowed w (ρ.b g) ty cap m ks c -> Rowed w' (ρ.b g) ty cap m ks c') : Rr E N B w0 ρ (upd σ [(g, .row lv ty m ks c')]) a w' := by
 have go : lv = true -> isOwn (σ g) = true := fun h => by rw [e]; exact h
 have hFw : ∀ b, ρ.F b -> w'.heap[b]? = w.heap[b]? := fun b hb => hw b fun h e' => (hR.frz b hb).2.2 g (go h) e'.symm
 have hgN : g < N := by
  rcases Nat.lt_or_ge g N with h | h
  ·exact h
  ·have := hR.out g h; rw [e] at this; cases this
 have oi : ∀ t, isOwn (upd σ [(g, .row lv ty m ks c')] t) = isOwn (σ t) := fun t => by
  by_cases h : t = g
  ·subst h; rw [upd_one_same, e]; rfl
  ·rw [upd_one_ne h]
 have ob : ∀ t, t ≠ g -> isOwn (σ t) = true -> w'.heap[ρ.b t]? = w.heap[ρ.b t]? := fun t ht ho => hw _ fun h e' => ht (hR.inj t g ho (go h) e')
 have vm1 : ∀ y u, VOk1 w ρ σ y u -> VOk1 w' ρ (upd σ [(g, .row lv ty m ks c')]) y u := fun y u hy => by
  by_cases hg : siteOf y = some g
  ·cases y <;> simp only [siteOf, Option.some.injEq, reduceCtorEq] at hg <;> subst hg
   ·have := hy.2; rw [e] at this; cases this
   ·obtain ⟨lv1, ty1, m1, ks1, c1, h1, h2, h3, h4⟩ := hy
    rw [e] at h1
    cases h1
    exact ⟨_, _, _, _, _, upd_one_same, h2, fun h => by obtain ⟨cap, k1, k2⟩ := h3 h; exact ⟨cap, k1, hrow h cap k2⟩, h4⟩
   ·obtain ⟨ty1, m1, ks1, c1, h1, h2, h3⟩ := hy
    rw [e] at h1
    cases h1
    exact ⟨_, _, _, _, upd_one_same, h2, h3⟩
  ·refine hy.mono (fun b hb => ⟨hb, hFw b hb⟩) fun g' hg' => ?_
   have hne : g' ≠ g := fun h => hg (by rw [hg', h])
   rw [upd_one_ne hne]
   exact ⟨fun h => ⟨h, rfl⟩, fun _ => ⟨rfl, fun ho => ⟨rfl, ob g' hne ho⟩⟩⟩
 have vm : ∀ y u, VOk w ρ σ y u -> VOk w' ρ (upd σ [(g, .row lv ty m ks c')]) y u := fun y u hy => by
  cases y with
  | tup l => obtain ⟨cs, h1, h2, h3⟩ := hy; exact ⟨cs, h1, h2, fun i hi => vm1 _ _ (h3 i hi)⟩
  | _ => rw [VOk.one (fun l e => by cases e)] at hy ⊢; exact vm1 _ _ hy
 have box : ∀ t ty c, t ≠ g -> isOwn (σ t) = true -> Boxed w ρ.F (ρ.b t) ty c -> Boxed w' ρ.F (ρ.b t) ty c := fun t ty c ht ho ⟨cs, f3, f4, f5⟩ =>
  ⟨cs, (ob t ht ho).trans f3, f4, fun i hi => (f5 i hi).mono fun b hb => ⟨hb, hFw b hb⟩⟩
 have ne : ∀ t x, upd σ [(g, .row lv ty m ks c')] t = x -> (∀ l t m k c, x ≠ .row l t m k c) -> t ≠ g := fun t x h hx hh => by subst hh; rw [upd_one_same] at h; exact hx _ _ _ _ _ h.symm
 have key := hR.step (ρ' := ρ) (σ' := upd σ [(g, .row lv ty m ks c')]) (w' := w') (d := none) (v := undef) ⟨hos.trans hR.blw.os, htp.trans hR.blw.tape, hop.trans hR.blw.output, by rw [hs]; exact hR.blw.size, fun k hk hX => ?_⟩ (fun t ht => ?_) (fun b h => h) hFw (fun b hb => ?_)
  (fun t t' k1 k2 k3 => hR.inj t t' (by rwa [oi] at k1) (by rwa [oi] at k2) k3) (fun t ht => ?_) (fun t ty1 c1 e1 => ?_) (fun t ty1 c1 e1 => ?_) (fun g1 lv1 ty1 m1 ks1 c1 e1 => ?_) (fun t k1 k2 => ?_)
 ·exact key
 ·refine (hw k fun h e' => ?_).trans (hR.blw.block k hk hX)
  exact hR.apart (go h) ⟨hk, hX⟩ e'.symm
 ·rw [upd_one_ne (fun h => by subst h; omega)]; exact hR.out t ht
 ·obtain ⟨k1, k2, k3⟩ := hR.frz b hb
  exact ⟨k1, by rw [hs]; exact k2, fun t ht => k3 t (by rwa [oi] at ht)⟩
 ·by_cases h : t = g
  ·subst h; rw [upd_one_same] at ht; cases ht
  ·rw [upd_one_ne h] at ht ⊢
   exact vm _ _ (hR.val t ht)
 ·have hne := ne t _ e1 (fun _ _ _ _ _ h => by cases h)
  rw [upd_one_ne hne] at e1
  obtain ⟨f1, f2, f3⟩ := hR.own t ty1 c1 e1
  exact ⟨f1, f2, box _ _ _ hne (by rw [e1]; rfl) f3⟩
 ·have hne := ne t _ e1 (fun _ _ _ _ _ h => by cases h)
  rw [upd_one_ne hne] at e1
  obtain ⟨f1, f2⟩ := hR.vow t ty1 c1 e1
  exact ⟨f1, box _ _ _ hne (by rw [e1]; rfl) f2⟩
 ·by_cases h : g1 = g
  ·subst h
   rw [upd_one_same] at e1
   cases e1
   obtain ⟨f1, f2, f3⟩ := hR.row g1 lv ty m ks c e
   exact ⟨f1, f2, fun hl => by obtain ⟨k1, cap, k2⟩ := f3 hl; exact ⟨k1, cap, hrow hl cap k2⟩⟩
  ·rw [upd_one_ne h] at e1
   obtain ⟨f1, f2, f3⟩ := hR.row g1 lv1 ty1 m1 ks1 c1 e1
   exact ⟨f1, f2, fun hl => by obtain ⟨k1, cap, cs, zz, k2, k3⟩ := f3 hl; exact ⟨k1, cap, cs, zz, (ob g1 h (by rw [e1]; exact hl)).trans k2, k3⟩⟩
 ·obtain ⟨f1, f2, f3, f4⟩ := hR.vir t k1 k2
  by_cases h : t = g
  ·subst h
   rw [upd_one_same]
   refine ⟨rfl, f2, by rw [<- f3, e]; rfl, fun ho hb => ?_⟩
   have ho : lv = true := ho
   obtain ⟨_, _, q⟩ := hR.row t _ _ _ _ _ e
   obtain ⟨_, cap, q⟩ := q ho
   rw [<- f4 (by rw [e]; exact ho) (by rw [e]; rfl), q.csz, (hrow ho cap q).csz]
  ·rw [upd_one_ne h]; exact ⟨f1, f2, f3, fun ho hb => (csz_same (ob t h ho)).trans (f4 ho hb)⟩
theorem intOf_eval (hR : Rr E N B w0 ρ σ a w) (hG : GOk w0 B GL) (hB : ∀ b, B b -> b < w0.heap.size /\ ¬ E.X b) {x : Operand} {v : Int} (h : intOf GL σ (some x) = some v) : a.eval x = .int .i64 v := by
 unfold intOf at h
 simp only at h
 split at h
 ·rename_i e
  cases h
  exact toV_eval hR hG hB (by rw [e]; rfl)
 ·cases h
theorem bindSet2_spec {r : Bool × AV} (h : bindSet2 N σ o (some r) = some (true, u)) : r.1 = true /\ setD N σ o r.2 = some u := by
 unfold bindSet2 at h
 simp only at h
 unfold ret at h
 split at h
 ·rename_i u' hu
  cases h' : r.1 with
  | false => rw [h'] at h; cases h
  | true => rw [h'] at h; cases h; exact ⟨rfl, hu⟩
 ·cases h
theorem slc_sound (hR : Rr E N B w0 ρ σ a w) (hG : GOk w0 B GL) (hB : ∀ b, B b -> b < w0.heap.size /\ ¬ E.X b) {t : TypeId} {x : Operand} {l h m : Option Operand}
  (ho : o.op = .slice t x l h m) {r : Bool × AV} (hr : slcOf P GL σ t (evA GL σ x) l h m = some r) (hh : bindSet2 E.n σ o (some r) = some (true, u))
  (hK : ∀ ρ' a' w', Rr E N B w0 ρ' (upd σ u) a' w' -> K a' w') : o.wp P a w K Q := by
 obtain ⟨hc, hu⟩ := bindSet2_spec hh
 have fin : ∀ (n k lo hi : Nat) (row : Nat -> List AV), Rep w ρ.F (.lst n k row) (a.eval x) -> elemSz P t = some k -> lo <= hi -> hi <= n ->
   (∀ (ad : Option Addr) (cap : Nat), n <= cap -> (Instr.slice t (.slice ad n cap) (l.map a.eval) (h.map a.eval) none).run P w = ((sizeOf (P.elem t)).run P w).andThen fun s w => .ok (sliced ad lo hi cap s) w) ->
   m = none -> (∀ v, Rep w ρ.F (.lst (hi - lo) k fun i => row (i + lo)) v -> Rep w ρ.F r.2 v) -> o.wp P a w K Q := by
  intro n k lo hi row hrep hsz h1 h2 hrun hm hfin
  obtain ⟨ht, hs⟩ := elemSz_spec hsz
  obtain ⟨ad, cap, hv⟩ := rep_lst_val hrep
  rw [hv] at hrep
  obtain ⟨h3, h4⟩ := slc_rep h1 h2 hrep
  refine wp_stillR hR hu (v := sliced ad lo hi cap k) ?_ (hfin _ h3) hK
  have e1 := hrun ad cap h4
  subst hm
  have e2 : (Instr.sliceAt t (.slice ad n cap) (l.map a.eval) (h.map a.eval) none).run P w = .ok (sliced ad lo hi cap k) w := by
   rw [run_sliceAt_slice _ _ _ _ _ _ ht, e1, pv_run _ _ hs]
   rfl
  simp only [execOp, ho, hv, Option.map_none, Sem.run_bind, e2, Result.andThen_ok]
  rfl
 unfold slcOf at hr
 split at hr
 ·cases hr
 ·split at hr
  ·rename_i k n ks c hsz hx
   have hrep := evA_rep (x := x) hR hG hB (by rw [hx]; rfl)
   rw [hx] at hrep
   have hrep' : Rep w ρ.F (.lst n ks.length fun i => mkRow ks (c i)) (a.eval x) := by cases hrep with | arr _ _ _ _ h => exact h
   have fz : ∀ (n' lo : Nat) v, Rep w ρ.F (.lst n' ks.length fun i => mkRow ks (c (i + lo))) v -> Rep w ρ.F (.arr n' ks fun i => c (i + lo)) v := fun n' lo v h => .arr _ _ _ _ h
   split at hr
   ·rename_i hi hk
    split at hr
    ·rename_i b hb
     cases hr
     have hk := Nat.eq_of_beq_eq_true hk
     subst hk
     simp only [Bool.and_eq_true, decide_eq_true_eq] at hc
     have eh := intOf_eval hR hG hB hb
     refine fin n _ 0 b.toNat _ hrep' hsz (Nat.zero_le _) (by omega) (fun ad cap hcap => ?_) rfl (fun v hv => fz _ 0 v (by simpa using hv))
     simp only [Option.map_none, Option.map_some, eh]
     exact run_slice_h (P := P) w t ad n cap (elemSz_spec hsz).1 .i64 b (by omega) (by omega)
    ·cases hr
   ·rename_i lo hk
    split at hr
    ·rename_i b hb
     cases hr
     have hk := Nat.eq_of_beq_eq_true hk
     subst hk
     simp only [Bool.and_eq_true, decide_eq_true_eq] at hc
     have eh := intOf_eval hR hG hB hb
     refine fin n _ b.toNat n _ hrep' hsz (by omega) (Nat.le_refl _) (fun ad cap hcap => ?_) rfl (fun v hv => fz _ _ v hv)
     simp only [Option.map_none, Option.map_some, eh]
     exact run_slice_l (P := P) w t ad n cap (elemSz_spec hsz).1 .i64 b (by omega) (by omega)
    ·cases hr
   ·rename_i lo hi hk
    split at hr
    ·rename_i b b2 hb hb2
     cases hr
     have hk := Nat.eq_of_beq_eq_true hk
     subst hk
     simp only [Bool.and_eq_true, decide_eq_true_eq] at hc
     have eh := intOf_eval hR hG hB hb
     have eh2 := intOf_eval hR hG hB hb2
     refine fin n _ b.toNat b2.toNat _ hrep' hsz (by omega) (by omega) (fun ad cap hcap => ?_) rfl (fun v hv => fz _ _ v hv)
     simp only [Option.map_none, Option.map_some, eh, eh2]
     exact run_slice_lh (P := P) w t ad n cap (elemSz_spec hsz).1 .i64 .i64 b b2 (by omega) (by omega) (by omega)
    ·cases hr
   ·cases hr
  ·rename_i k n k' row hsz hx
   have hrep := evA_rep (x := x) hR hG hB (by rw [hx]; rfl)
   rw [hx] at hrep
   split at hr
   ·rename_i hi hk
    split at hr
    ·rename_i b hb
     cases hr
     have hk := Nat.eq_of_beq_eq_true hk
     subst hk
     simp only [Bool.and_eq_true, decide_eq_true_eq] at hc
     have eh := intOf_eval hR hG hB hb
     refine fin n _ 0 b.toNat _ hrep hsz (Nat.zero_le _) (by omega) (fun ad cap hcap => ?_) rfl (fun v hv => (by simpa using hv))
     simp only [Option.map_none, Option.map_some, eh]
     exact run_slice_h (P := P) w t ad n cap (elemSz_spec hsz).1 .i64 b (by omega) (by omega)
    ·cases hr
   ·rename_i lo hk
    split at hr
    ·rename_i b hb
     cases hr
     have hk := Nat.eq_of_beq_eq_true hk
     subst hk
     simp only [Bool.and_eq_true, decide_eq_true_eq] at hc
     have eh := intOf_eval hR hG hB hb
     refine fin n _ b.toNat n _ hrep hsz (by omega) (Nat.le_refl _) (fun ad cap hcap => ?_) rfl (fun v hv => hv)
     simp only [Option.map_none, Option.map_some, eh]
     exact run_slice_l (P := P) w t ad n cap (elemSz_spec hsz).1 .i64 b (by omega) (by omega)
    ·cases hr
   ·rename_i lo hi hk
    split at hr
    ·rename_i b b2 hb hb2
     cases hr
     have hk := Nat.eq_of_beq_eq_true hk
     subst hk
     simp only [Bool.and_eq_true, decide_eq_true_eq] at hc
     have eh := intOf_eval hR hG hB hb
     have eh2 := intOf_eval hR hG hB hb2
     refine fin n _ b.toNat b2.toNat _ hrep hsz (by omega) (by omega) (fun ad cap hcap => ?_) rfl (fun v hv => hv)
     simp only [Option.map_none, Option.map_some, eh, eh2]
     exact run_slice_lh (P := P) w t ad n cap (elemSz_spec hsz).1 .i64 .i64 b b2 (by omega) (by omega) (by omega)
    ·cases hr
   ·cases hr
  ·cases hr
theorem flats_len : ∀ {l : List (Nat × Operand)} {j : Nat} {cs : List (List AV)}, flats GL σ l j = some cs -> cs.length = l.length
 | [], _, _, h => by cases h; rfl
 | (i, x) :: l, j, cs, h => by
  unfold flats at h
  split at h
  ·split at h
   ·rename_i cs' h'
    cases h
    simp [flats_len h']
   ·cases h
  ·cases h
theorem flatten_at {k : Nat} : ∀ (vss : List (List Value)), (∀ q, q < vss.length -> (vss.getD q []).length = k) -> ∀ i j, i < vss.length -> j < k -> vss.flatten[i * k + j]? = some ((vss.getD i []).getD j undef)
 | [], _, i, j, hi, _ => by simp at hi
 | v :: vss, h, 0, j, hi, hj => by
  have h0 : v.length = k := by simpa using h 0 (by simp)
  rw [List.flatten_cons, Nat.zero_mul, Nat.zero_add, List.getElem?_append_left (by omega)]
  simp [List.getD, show j < v.length by omega]
 | v :: vss, h, i + 1, j, hi, hj => by
  have h0 : v.length = k := by simpa using h 0 (by simp)
  rw [List.flatten_cons, List.getElem?_append_right (by rw [Nat.add_mul]; omega), show (i + 1) * k + j - v.length = i * k + j by rw [Nat.add_mul]; omega]
  have := flatten_at vss (fun q hq => by simpa using h (q + 1) (by simpa using hq)) i j (by simpa using hi) hj
  simpa using this
theorem flats_spec {Bb : Nat -> Prop} {ev : Operand -> Value} (hr : ∀ x c, flat (evA GL σ x) = some c -> Rep w Bb (evA GL σ x) (ev x)) : ∀ (l : List (Nat × Operand)) (j : Nat) (cs : List (List AV)) (cells : Array Value) (s : Nat), flats GL σ l j = some cs -> allLen s cs = true -> (j + l.length) * s <= cells.size ->
  ∃ vss : List (List Value), vss.length = cs.length /\ cs.length = l.length /\ (∀ q, q < cs.length -> (vss.getD q []).length = s /\ (cs.getD q []).length = s /\ ∀ i, i < s -> Rep w Bb ((cs.getD q []).getD i .non) ((vss.getD q []).getD i undef)) /\
   ∃ cells', Instr.fill (fun i => some (i * s, s)) cells (l.map fun p => (p.1, ev p.2)) = some cells' /\ cells'.toList = cells.toList.take (j * s) ++ vss.flatten ++ cells.toList.drop ((j + l.length) * s)
 | [], j, cs, cells, s, h, _, hle => by
  cases h
  exact ⟨[], rfl, rfl, fun q hq => by simp at hq, cells, rfl, by simp⟩
 | (i, x) :: l, j, cs, cells, s, h, ha, hle => by
  unfold flats at h
  split at h
  ·rename_i c hi hc
   split at h
   ·rename_i cs' h'
    cases h
    have hi := Nat.eq_of_beq_eq_true hi
    subst hi
    unfold allLen at ha
    split at ha
    ·rename_i hcl _
     have hcl := Nat.eq_of_beq_eq_true hcl
     obtain ⟨vs, e1, e2, e3⟩ := flat_rep hc (hr x c hc)
     have hle' : i * s + s <= cells.size := by
      have : (i + 1) * s <= (i + (l.length + 1)) * s := Nat.mul_le_mul_right _ (by omega)
      rw [Nat.add_mul, Nat.one_mul] at this
      simp only [List.length_cons] at hle
      omega
     have hfold : ((ev x).cells.zipIdx.foldl (fun (cs : Array Value) (p : Value × Nat) => cs.setIfInBounds (i * s + p.2) p.1) cells).toList = cells.toList.take (i * s) ++ vs ++ cells.toList.drop (i * s + vs.length) := by
      rw [e1, <- Array.foldl_toList, Array.toList_zipIdx]
      have := fold_splice vs 0 cells (i * s) (by omega)
      simpa using this
     have hsz : ((ev x).cells.zipIdx.foldl (fun (cs : Array Value) (p : Value × Nat) => cs.setIfInBounds (i * s + p.2) p.1) cells).toList.length = cells.toList.length := by
      rw [hfold]
      exact splice_length _ _ _ (by simp; omega)
     obtain ⟨vss, f1, f2, f3, cells', f4, f5⟩ := flats_spec hr l (i + 1) cs' _ s h' ha (by
      have hsz' : ((ev x).cells.zipIdx.foldl (fun (cs : Array Value) (p : Value × Nat) => cs.setIfInBounds (i * s + p.2) p.1) cells).size = cells.size := by simpa using hsz
      rw [hsz', show i + 1 + l.length = i + (l.length + 1) by omega]
      exact hle)
     refine ⟨vs :: vss, by simp [f1], by simp [f2], fun q hq => ?_, cells', ?_, ?_⟩
     ·cases q with
      | zero => exact ⟨by simp; omega, by simpa using hcl, fun i hi => by simpa using e3 i (by omega)⟩
      | succ q => simpa using f3 q (by simpa using hq)
     ·simp only [List.map_cons, Instr.fill]
      have hc1 : (ev x).cells.size = s := by rw [e1]; simp; omega
      rw [if_neg (by simp [hc1]; omega)]
      exact f4
     ·rw [f5, hfold, List.flatten_cons]
      have h1 : (cells.toList.take (i * s) ++ vs ++ cells.toList.drop (i * s + vs.length)).take ((i + 1) * s) = cells.toList.take (i * s) ++ vs := by
       have : (cells.toList.take (i * s) ++ vs).length = (i + 1) * s := by simp [Nat.add_mul]; omega
       rw [<- this]
       exact List.take_left
      have h2 : (cells.toList.take (i * s) ++ vs ++ cells.toList.drop (i * s + vs.length)).drop ((i + 1 + l.length) * s) = cells.toList.drop ((i + (l.length + 1)) * s) := by
       have hl : (cells.toList.take (i * s) ++ vs).length = (i + 1) * s := by simp [Nat.add_mul]; omega
       have hge : (i + 1) * s <= (i + 1 + l.length) * s := Nat.mul_le_mul_right _ (by omega)
       rw [List.drop_append, hl, List.drop_eq_nil_of_le (by omega), List.nil_append, List.drop_drop]
       congr 1
       rw [show i + (l.length + 1) = i + 1 + l.length by omega]
       have : (i + 1) * s = i * s + s := by rw [Nat.add_mul, Nat.one_mul]
       omega
      rw [h1, h2]
      simp only [List.length_cons, List.append_assoc]
    ·cases ha
   ·cases h
  ·cases h
theorem evOp0_sound (hΓ : Sound P GL Γ) (hR : Rr E N B w0 ρ σ a w) (hG : GOk w0 B GL) (hB : ∀ b, B b -> b < w0.heap.size /\ ¬ E.X b)
  (h : evOp0 P GL Γ E.n σ o = some (true, u)) (hK : ∀ ρ' a' w', Rr E N B w0 ρ' (upd σ u) a' w' -> K a' w') : o.wp P a w K Q := by
 have sp : ∀ x, isSlot (evA GL σ x) = false /\ VOk w ρ σ (evA GL σ x) (a.eval x) := fun x => ⟨evA_ns hR hG hB x, evA_vok hR hG hB x⟩
 have rf : ∀ x g k, evA GL σ x = .ref g k -> a.eval x = .pointer (some ⟨ρ.b g, k, none⟩) /\ isBox (σ g) = true := fun x g k => evA_ref hR hG hB
 have rp : ∀ x, isRep (evA GL σ x) = true -> Rep w ρ.F (evA GL σ x) (a.eval x) := fun x h => evA_rep hR hG hB h
 have rr : ∀ x g i j, evA GL σ x = .rf g i j -> ∃ ty m ks c cap, σ g = .row true ty m ks c /\ i < m /\ a.eval x = .pointer (some ⟨ρ.b g, i * ks.length + j, none⟩) /\ Rowed w (ρ.b g) ty cap m ks c := fun x g i j e => by
  have h := evA_vok hR hG hB x
  rw [e] at h
  obtain ⟨ty, m, ks, c, h1, h2, h3⟩ := h
  obtain ⟨_, _, h4⟩ := hR.row g _ _ _ _ _ h1
  obtain ⟨_, cap, h5⟩ := h4 rfl
  exact ⟨ty, m, ks, c, cap, h1, h2, h3, h5⟩
 have sl : ∀ x g n, evA GL σ x = .sl g n -> SlOk w ρ σ g n (a.eval x) := fun x g n e => by
  have h := evA_vok hR hG hB x
  rw [e] at h
  exact h
 unfold evOp0 at h
 split at h
 ·-- move
  rename_i x ho
  obtain ⟨_, y, hy, hu⟩ := bindSet_spec h
  cases hy
  exact wp_still hR hu (v := a.eval x) (by simp [execOp, ho]) (sp x) hK
 ·-- assign
  rename_i x ho
  obtain ⟨_, y, hy, hu⟩ := bindSet_spec h
  cases hy
  exact wp_still hR hu (v := a.eval x) (by simp [execOp, ho]) (sp x) hK
 ·-- nilCheck
  rename_i x ho
  split at h
  ·rename_i g k e
   obtain ⟨_, y, hy, hu⟩ := bindSet_spec h
   cases hy
   obtain ⟨e1, e2⟩ := rf x g k e
   exact wp_still hR hu (v := a.eval x) (by simp [execOp, ho, e1]) ⟨rfl, e1, e2⟩ hK
  ·rename_i c e
   obtain ⟨_, y, hy, hu⟩ := bindSet_spec h
   cases hy
   have hr := rp x (by rw [e]; rfl)
   rw [e] at hr
   refine wp_stillR hR hu (v := a.eval x) ?_ hr hK
   generalize hv : a.eval x = v at hr
   cases hr
   simp [execOp, ho, hv]
  ·rename_i g i j e
   obtain ⟨_, y, hy, hu⟩ := bindSet_spec h
   cases hy
   obtain ⟨ty, m, ks, c, cap, e1, e2, e3, e4⟩ := rr x g i j e
   exact wp_still hR hu (v := a.eval x) (by simp [execOp, ho, e3]) ⟨rfl, ty, m, ks, c, e1, e2, e3⟩ hK
  ·cases h
 ·-- box
  rename_i ty x ho
  split at h
  ·rename_i l hl
   obtain ⟨_, y, hy, hu⟩ := bindSet_spec h
   cases hy
   have hr := rp x (by cases e : evA GL σ x <;> rw [e] at hl <;> first | rfl | simp [flat] at hl)
   obtain ⟨cs, e1, e2, e3⟩ := flat_rep hl hr
   obtain ⟨ρ', hR'⟩ := hR.newBox (ty := ty) e2 e3 hu
   refine wp_value (v := .pointer (some ⟨w.heap.size, 0, none⟩)) (w' := { w with heap := w.heap.push (.cells ⟨cs⟩ ty (0, 0)) }) ?_ (hK _ _ _ hR')
   simp [execOp, ho, Instr.box, newVar, newRow, newObj, Sem.run, e1]
  ·cases h
 ·-- alloc
  rename_i ty ho
  split at h
  ·rename_i z hz
   obtain ⟨_, y, hy, hu⟩ := bindSet_spec h
   cases hy
   obtain ⟨ρ', hR'⟩ := hR.newBox (ty := ty) (cs := z.cells.toList) (by simp) (rep_list _ (fun v => rep_ofCell v) _) hu
   refine wp_value (v := .pointer (some ⟨w.heap.size, 0, none⟩)) (w' := { w with heap := w.heap.push (.cells ⟨z.cells.toList⟩ ty (0, 0)) }) ?_ (hK _ _ _ hR')
   simp [execOp, ho, Instr.alloc, pv_run _ _ hz, newVar, newRow, newObj, Sem.run]
  ·cases h
 ·-- fieldAddr
  rename_i st x f ho
  split at h
  ·rename_i off ft hf
   have hfp : ∀ b k, (Instr.fieldAt st (.pointer (some ⟨b, k, none⟩)) f).run P w = .ok (.pointer (some ⟨b, k + off, none⟩)) w := by
    intro b k
    unfold fieldOff at hf
    split at hf
    ·rename_i fs hfs
     split at hf
     ·rename_i fd hfd
      split at hf
      ·cases hf
      ·rename_i n hn0 hn
       cases hf
       have hun : (underlying st).run P w = .ok (.struct fs) w := by simp [underlying, program, Sem.run, hfs]
       have hne : n ≠ 0 := fun hh => hn0 hh
       simp [Instr.fieldAt, hun, hfd, Instr.sureAddr, fieldPlace, pv_run _ _ hn, hne, addr_add]
      ·cases hf
     ·cases hf
    ·cases hf
   split at h
   ·rename_i g k e
    obtain ⟨_, y, hy, hu⟩ := bindSet_spec h
    cases hy
    obtain ⟨e1, e2⟩ := rf x g k e
    refine wp_still hR hu (v := .pointer (some ⟨ρ.b g, k + off, none⟩)) ?_ ⟨rfl, rfl, e2⟩ hK
    simp [execOp, ho, e1, hfp]
   ·rename_i c e
    obtain ⟨_, y, hy, hu⟩ := bindSet_spec h
    cases hy
    have hr := rp x (by rw [e]; rfl)
    rw [e] at hr
    generalize hv : a.eval x = v at hr
    cases hr with
    | eptr c b k ff hBb hc hr =>
     refine wp_stillR hR hu (v := .pointer (some ⟨b, k + off, none⟩)) ?_ ?_ hK
     ·simp [execOp, ho, hv, hfp]
     ·refine .eptr _ b (k + off) (fun j => ff (off + j)) hBb (fun j hj => ?_) (fun j hj => ?_)
      ·rw [show k + off + j = k + (off + j) by omega]; exact hc _ (by simp at hj; omega)
      ·rw [getD_drop']; exact hr _ (by simp at hj; omega)
   ·rename_i g i j e
    obtain ⟨_, y, hy, hu⟩ := bindSet_spec h
    cases hy
    obtain ⟨ty, m, ks, c, cap, e1, e2, e3, e4⟩ := rr x g i j e
    refine wp_still hR hu (v := .pointer (some ⟨ρ.b g, i * ks.length + (j + off), none⟩)) ?_ ⟨rfl, ty, m, ks, c, e1, e2, rfl⟩ hK
    simp [execOp, ho, e3, hfp, Nat.add_assoc]
   ·cases h
  ·cases h
 ·-- load
  rename_i ty x ho
  split at h
  ·rename_i g k e
   obtain ⟨e1, e2⟩ := rf x g k e
   split at h
   ·rename_i c hc
    obtain ⟨_, y, hy, hu⟩ := bindSet_spec h
    obtain ⟨ff, h1, h2⟩ := own_cells hR hc
    obtain ⟨v, hv, hr⟩ := ldAV_run (w := w) (b := ρ.b g) (k := k) hy (fun j => ff (k + j)) (fun j hj => h1 _ (by simp at hj; omega)) (fun j hj => by rw [getD_drop']; exact h2 _ (by simp at hj; omega))
    refine wp_stillR hR hu (v := v) ?_ hr hK
    simp [execOp, ho, e1, Instr.loadAt, Instr.sureAddr, hv]
   ·cases h
  ·rename_i c e
   obtain ⟨_, y, hy, hu⟩ := bindSet_spec h
   have hr := rp x (by rw [e]; rfl)
   rw [e] at hr
   generalize hv : a.eval x = v at hr
   cases hr with
   | eptr c b k ff hBb hc hr =>
    obtain ⟨v, hv', hr'⟩ := ldAV_run (w := w) hy ff hc hr
    refine wp_stillR hR hu (v := v) ?_ hr' hK
    simp [execOp, ho, hv, Instr.loadAt, Instr.sureAddr, hv']
  ·rename_i g i j e
   split at h
   ·rename_i lv0 ty0 m0 ks c0 eg
    obtain ⟨_, y, hy, hu⟩ := bindSet_spec h
    obtain ⟨ty', m, ks', c, cap, e1, e2, e3, e4⟩ := rr x g i j e
    rw [eg] at e1
    cases e1
    obtain ⟨v, hv, hr⟩ := ldAV_run (w := w) (Bb := ρ.F) (b := ρ.b g) (k := i * ks.length + j) hy (fun q => mkCell (ks.getD (j + q) .bool) (c0 i (j + q))) (fun q hq => by
     rw [Nat.add_assoc]
     exact e4.cell e2 (by simp [mkRow_length] at hq; omega)) (fun q hq => by
     rw [getD_drop', mkRow_getD _ _ _ (by simp [mkRow_length] at hq; omega)]
     exact .val _)
    refine wp_stillR hR hu (v := v) ?_ hr hK
    simp [execOp, ho, e3, Instr.loadAt, Instr.sureAddr, hv]
   ·cases h
  ·cases h
 ·-- store
  rename_i ty x y ho
  split at h
  ·cases h
  ·rename_i hd
   split at h
   ·cases h
   ·rename_i l hl
    split at h
    ·rename_i g k e
     obtain ⟨e1, e2⟩ := rf x g k e
     split at h
     ·rename_i c hc
      split at h
      ·rename_i n hn
       split at h
       ·rename_i hn1 hn2 hn3
        cases h
        have hr := rp y (by cases e : evA GL σ y <;> rw [e] at hl <;> first | rfl | simp [flat] at hl)
        obtain ⟨vs, f1, f2, f3⟩ := flat_rep hl hr
        obtain ⟨_, t0, _, cs, g3, g4, _⟩ := box_cells hR hc
        have hle : k + l.length <= c.length := Nat.le_of_ble_eq_true hn2
        obtain ⟨ρ', hR'⟩ := hR.store (o := o) hc hle hd g3 f2 f3
        have hnl : n = l.length := Nat.eq_of_beq_eq_true hn1
        have hst : (storeVar ty ⟨ρ.b g, k, none⟩ (a.eval y)).run P w = .ok () (w.setRow (ρ.b g) (cs.take k ++ vs ++ cs.drop (k + vs.length)).toArray) := by
         have h1 := run_storeCells_at (P := P) (ρ.b g) k t0 vs 0 ⟨cs⟩ w g3 (by simp; omega) (allOne_spec l vs hn3 f2 f3)
         simp only [Nat.add_zero] at h1
         simp only [storeVar, Sem.run_bind, pv_run _ _ hn, Result.andThen_ok, f1]
         rw [if_neg (by simp; omega)]
         exact h1
        unfold Oper.wp
        have hrun : (execOp a.eval o).run P w = .ok .skip (w.setRow (ρ.b g) (cs.take k ++ vs ++ cs.drop (k + vs.length)).toArray) := by
         simp [execOp, ho, e1, Instr.storeAt, Instr.sureAddr, hst]
        rw [hrun]
        show K (a.put o.dst undef) _
        rw [hd]
        exact hK _ _ _ hR'
       ·cases h
      ·cases h
     ·cases h
    ·rename_i g i j e
     split at h
     ·rename_i lv0 ty0 m0 ks c0 eg
      split at h
      ·rename_i n xs hn hxs
       split at h
       ·rename_i hnl hjl
        cases h
        have hjl := Nat.le_of_ble_eq_true hjl
        obtain ⟨ty', m, ks', c, cap, e1, e2, e3, e4⟩ := rr x g i j e
        rw [eg] at e1
        cases e1
        have hr := rp y (by cases e : evA GL σ y <;> rw [e] at hl <;> first | rfl | simp [flat] at hl)
        obtain ⟨vs, f1, f2, f3⟩ := flat_rep hl hr
        obtain ⟨q1, q2, q3⟩ := cellsI_spec hxs f2 f3
        obtain ⟨cs, z, g1, gz, g2, g3, g4, g5, g6⟩ := e4
        have hnl : n = l.length := Nat.eq_of_beq_eq_true hnl
        have hle : i * ks.length + j + vs.length <= cs.length := by
         rw [g2]
         calc i * ks.length + j + vs.length <= i * ks.length + ks.length := by omega
          _ = (i + 1) * ks.length := by rw [Nat.add_mul, Nat.one_mul]
          _ <= cap * ks.length := Nat.mul_le_mul_right _ (by omega)
        have hst : (storeVar ty ⟨ρ.b g, i * ks.length + j, none⟩ (a.eval y)).run P w = .ok () (w.setRow (ρ.b g) (cs.take (i * ks.length + j) ++ vs ++ cs.drop (i * ks.length + j + vs.length)).toArray) := by
         have h1 := storeCells_z (P := P) (ρ.b g) (i * ks.length + j) ty0 z vs 0 ⟨cs⟩ w g1 gz (by simp; omega) q3
         simp only [Nat.add_zero] at h1
         simp only [storeVar, Sem.run_bind, pv_run _ _ hn, Result.andThen_ok, f1]
         rw [if_neg (by simp; omega)]
         exact h1
        unfold Oper.wp
        have hrun : (execOp a.eval o).run P w = .ok .skip (w.setRow (ρ.b g) (cs.take (i * ks.length + j) ++ vs ++ cs.drop (i * ks.length + j + vs.length)).toArray) := by
         simp [execOp, ho, e3, Instr.storeAt, Instr.sureAddr, hst]
        rw [hrun]
        show K (a.put o.dst undef) _
        rw [hd]
        refine hK _ _ _ (hR.rowPut eg (fun b hb => ?_) (by simp [World.setRow]) rfl rfl rfl fun _ cap' hrow => ?_)
        ·simp only [World.setRow, Array.getElem?_modify]
         rw [if_neg (Ne.symm (hb rfl))]
        ·obtain ⟨cs', z', k1, kz, k2, k3, k4, k5, k6⟩ := hrow
         rw [g1] at k1
         cases k1
         refine ⟨_, _, setRow_heap w (ρ.b g) _ _ ty0 z g1, by rw [splice_length _ _ _ hle]; exact kz, by rw [splice_length _ _ _ hle]; exact k2, k3, k4, k5, fun i' j' hi' hj' => ?_⟩
         rw [splice_getD _ _ _ _ _ hle]
         exact rowSet_cell g6 hi' hj' (by omega) f2 q1 q2
       ·cases h
      ·cases h
     ·cases h
    ·cases h
 ·-- extract
  rename_i x i ho
  split at h
  ·rename_i l e
   split at h
   ·rename_i hi
    obtain ⟨_, y, hy, hu⟩ := bindSet_spec h
    cases hy
    have hr := (sp x).2
    rw [e] at hr
    obtain ⟨cs, hv, hl, hr⟩ := hr
    have hi' : i < l.length := Nat.le_of_ble_eq_true hi
    have hic : i < cs.length := by omega
    have hr' := hr i hi'
    have hns : isSlot (l.getD i .non) = false /\ VOk w ρ σ (l.getD i .non) (cs.getD i undef) := by
     cases hx : l.getD i .non <;> rw [hx] at hr' <;> first
      | exact ⟨rfl, hr'⟩
      | exact ⟨rfl, Rep.vok (ρ := ρ) (show Rep w ρ.F _ _ from hr')⟩
      | exact absurd (show Rep w ρ.F _ _ from hr') (fun h => by cases h)
    refine wp_still hR hu (v := cs.getD i undef) ?_ hns hK
    simp [execOp, ho, hv, Instr.extract, hic, List.getD]
   ·cases h
  ·cases h
 ·-- field
  rename_i ty x f ho
  split at h
  ·rename_i l e
   split at h
   ·rename_i off ft hf
    obtain ⟨_, y, hy, hu⟩ := bindSet_spec h
    have hr := rp x (by rw [e]; rfl)
    rw [e] at hr
    generalize hv : a.eval x = v at hr
    cases hr with
    | agg l cs hl hr =>
     unfold fieldOff at hf
     split at hf
     ·rename_i fs hfs
      split at hf
      ·rename_i fd hfd
       split at hf
       ·cases hf
       ·rename_i n hn0 hn
        cases hf
        have hun : (underlying ty).run P w = .ok (.struct fs) w := by simp [underlying, program, Sem.run, hfs]
        unfold ldAV at hy
        split at hy
        ·rename_i ha
         rw [hn] at hy
         simp only at hy
         split at hy
         ·rename_i hle
          cases hy
          have hle' : n <= (l.drop fd.offset).length := Nat.le_of_ble_eq_true hle
          refine wp_stillR hR hu (v := .agg ⟨(cs.drop fd.offset).take n⟩) ?_ ?_ hK
          ·simp [execOp, ho, hv, Instr.field, hun, hfd, asAgg, part, pv_run _ _ ha, pv_run _ _ hn, List.extract_eq_take_drop]
          ·refine .agg _ _ (by simp; omega) fun i hi => ?_
           have hi' : i < n := by simp at hi; omega
           have e1 : ((l.drop fd.offset).take n).getD i .non = l.getD (fd.offset + i) .non := by simp [List.getD, List.getElem?_take, hi', List.getElem?_drop]
           have e2 : ((cs.drop fd.offset).take n).getD i undef = cs.getD (fd.offset + i) undef := by simp [List.getD, List.getElem?_take, hi', List.getElem?_drop]
           rw [e1, e2]
           exact hr _ (by simp at hle'; omega)
         ·cases hy
        ·rename_i ha
         split at hy
         ·rename_i z l' hdl
          cases hy
          have hlen : fd.offset < l.length := by
           have := congrArg List.length hdl
           simp at this
           omega
          have hz : y = l.getD fd.offset .non := by
           have := getD_drop' l fd.offset 0
           rw [hdl] at this
           simpa using this
          have hr' := hr _ hlen
          rw [<- hz] at hr'
          refine wp_stillR hR hu (v := cs.getD fd.offset undef) ?_ hr' hK
          have hlc : fd.offset < cs.length := by omega
          simp [execOp, ho, hv, Instr.field, hun, hfd, asAgg, part, pv_run _ _ ha, hlc, List.getD]
         ·cases hy
        ·cases hy
       ·cases hf
      ·cases hf
     ·cases hf
   ·cases h
  ·cases h
 ·-- binOp
  rename_i op t x y yt ho
  split at h
  ·rename_i p q hx hy
   exact wp_int hR hG hB ho hx hy h (fun hc => by
    have : ¬ q = 0 := by simpa using hc
    simp [eqGuard, binOp, Op.intDiv, this]) hK
  ·rename_i p q hx hy
   exact wp_int hR hG hB ho hx hy h (fun hc => by
    have : ¬ q = 0 := by simpa using hc
    simp [eqGuard, binOp, Op.intDiv, this]) hK
  ·rename_i p q hx hy
   exact wp_int hR hG hB ho hx hy h (fun hc => by
    have : ¬ q < 0 := by simpa using hc
    simp [eqGuard, binOp, Op.shift, this, IntKind.bits]) hK
  ·rename_i p q hx hy
   exact wp_int hR hG hB ho hx hy h (fun hc => by
    have : ¬ q < 0 := by simpa using hc
    simp [eqGuard, binOp, Op.shift, this, IntKind.bits]) hK
  ·split at h
   ·rename_i r hr
    unfold bindSet2 at h
    have hnil : ∃ n k row k', unArr (evA GL σ x) = .lst n k row /\ isNilC GL σ y = true /\ elemSz P t = some k' /\ r = (decide (0 < n), .val (.bool false)) := by
     unfold nilEq at hr
     split at hr
     ·rename_i n k row hy hx
      split at hr
      ·rename_i k' hk'
       cases hr
       exact ⟨n, k, row, k', hx, hy, hk', rfl⟩
      ·cases hr
     ·cases hr
    obtain ⟨n, k, row, k', hx, hy, hk', rfl⟩ := hnil
    simp only at h
    unfold ret at h
    split at h
    ·rename_i u' hu
     simp only [Option.some.injEq, Prod.mk.injEq] at h
     obtain ⟨hn, rfl⟩ := h
     have hn : 0 < n := by simpa using hn
     have hrx := unArr_rep (rp x (unArr_lst hx))
     rw [hx] at hrx
     have hyv : a.eval y = .slice none 0 0 := by
      unfold isNilC at hy
      split at hy
      ·rename_i e
       exact toV_eval hR hG hB (by rw [e]; rfl)
      ·cases hy
     generalize hv : a.eval x = v at hrx
     cases hrx with
     | nil => omega
     | lst _ _ _ b off cap ff hBb hn hk hcl hr =>
      refine wp_stillR hR hu (v := .bool false) ?_ (.val _) hK
      have he := run_equal_slice_nil w t (P.elem t) (some ⟨b, off, none⟩) n cap (elemSz_spec hk').1
      simp [execOp, ho, hv, hyv, eqGuard, binOp, he]
    ·cases h
   ·split at h
    case h_2 => exact wp_gen hR hG hB h hK
    ·obtain ⟨_, z, hz, hu⟩ := bindSet_spec h
     obtain ⟨xs, ys, v, h1, h2, rfl, hrun⟩ := eqA_run (w := w) (x := x) (y := y) (yt := yt) hz
     have ex := toV_eval hR hG hB h1
     have ey := toV_eval hR hG hB h2
     refine wp_stillR hR hu (v := v) ?_ (.val _) hK
     simp only [execOp, ho, ex, ey, Sem.run_bind]
     simp only [Sem.run_bind] at hrun
     rw [hrun]
     rfl
  ·split at h
   case h_2 => exact wp_gen hR hG hB h hK
   ·obtain ⟨_, z, hz, hu⟩ := bindSet_spec h
    obtain ⟨xs, ys, v, h1, h2, rfl, hrun⟩ := eqA_run (w := w) (x := x) (y := y) (yt := yt) hz
    have ex := toV_eval hR hG hB h1
    have ey := toV_eval hR hG hB h2
    refine wp_stillR hR hu (v := v) ?_ (.val _) hK
    simp only [execOp, ho, ex, ey, Sem.run_bind]
    simp only [Sem.run_bind] at hrun
    rw [hrun]
    rfl
 ·-- slice
  rename_i t x lo hi mx ho
  split at h
  ·rename_i r hr
   exact slc_sound hR hG hB ho hr h hK
  ·exact wp_gen hR hG hB h hK
 ·-- indexAddr
  rename_i t x i ho
  split at h
  ·rename_i g n j hx hi
   split at h
   ·rename_i lv ty m ks c k eg hk
    split at h
    ·rename_i hkk
     obtain ⟨hc, y, hy, hu⟩ := bindSet_spec h
     cases hy
     have hkk' : k = ks.length := Nat.eq_of_beq_eq_true hkk
     subst hkk'
     simp only [Bool.and_eq_true, decide_eq_true_eq] at hc
     obtain ⟨lv', ty', m', ks', c', h1, h2, h3, h4⟩ := sl x g n (unArr_sl hx)
     rw [eg] at h1
     cases h1
     have ei : a.eval i = .int .i64 j := toV_eval hR hG hB (by rw [hi]; rfl)
     cases lv with
     | false => have := (h4 rfl).1; omega
     | true =>
      obtain ⟨cap, hv, _⟩ := h3 rfl
      obtain ⟨ht, hsz⟩ := elemSz_spec hk
      have hun : (underlying t).run P w = .ok (.slice (P.elem t)) w := by simp [underlying, program, Sem.run, ht]
      refine wp_still hR hu (v := .pointer (some ⟨ρ.b g, j.toNat * ks.length + 0, none⟩)) ?_ ⟨rfl, ty, m, ks, c, eg, by omega, rfl⟩ hK
      simp [execOp, ho, hv, ei, Instr.indexAt, asIntOf, hun, hc, pv_run _ _ hsz, addr_add]
    ·cases h
   ·cases h
  ·rename_i n k row j hx hi
   split at h
   ·rename_i k' hk'
    split at h
    ·rename_i hkk
     obtain ⟨hc, y, hy, hu⟩ := bindSet_spec h
     cases hy
     have hkk' : k = k' := Nat.eq_of_beq_eq_true hkk
     subst hkk'
     simp only [Bool.and_eq_true, decide_eq_true_eq] at hc
     have hr := unArr_rep (rp x (unArr_lst hx))
     rw [hx] at hr
     have ei : a.eval i = .int .i64 j := toV_eval hR hG hB (by rw [hi]; rfl)
     generalize hv : a.eval x = v at hr
     unfold elemSz at hk'
     split at hk'
     ·rename_i el hel
      have hun : (underlying t).run P w = .ok (.slice el) w := by simp [underlying, program, Sem.run, hel]
      cases hr with
      | nil => omega
      | lst _ _ _ b off cap ff hBb hn hk hcl hr =>
       have hj : j.toNat < n := by omega
       refine wp_stillR hR hu (v := .pointer (some ⟨b, off + j.toNat * k, none⟩)) ?_ ?_ hK
       ·simp [execOp, ho, hv, ei, Instr.indexAt, asIntOf, hun, hc, pv_run _ _ hk', addr_add]
       ·refine .eptr _ b _ (ff j.toNat) hBb (fun q hq => hcl _ _ hj (by rw [hk _ hj] at hq; exact hq)) (fun q hq => hr _ _ hj (by rw [hk _ hj] at hq; exact hq))
     ·cases hk'
    ·cases h
   ·cases h
  ·rename_i c j hx hi
   split at h
   ·rename_i n s hns
    obtain ⟨hc, y, hy, hu⟩ := bindSet_spec h
    cases hy
    have ei : a.eval i = .int .i64 j := toV_eval hR hG hB (by rw [hi]; rfl)
    have hx := unArr_eptr hx
    have hr := rp x (by rw [hx]; rfl)
    rw [hx] at hr
    generalize hv : a.eval x = v at hr
    cases hr with
    | eptr c b k ff hBb hcl hr =>
     refine wp_stillR hR hu (v := .pointer (some ⟨b, k + j.toNat * s, none⟩)) ?_ ?_ hK
     ·simp [execOp, ho, hv, ei, arr_run hns hc]
     ·refine .eptr _ b _ (fun q => ff (j.toNat * s + q)) hBb (fun q hq => ?_) (fun q hq => ?_)
      ·rw [Nat.add_assoc]; exact hcl _ (by simp at hq; omega)
      ·rw [getD_drop']; exact hr _ (by simp at hq; omega)
   ·cases h
  ·rename_i g k j hx hi
   split at h
   ·rename_i n s hns
    obtain ⟨hc, y, hy, hu⟩ := bindSet_spec h
    cases hy
    have ei : a.eval i = .int .i64 j := toV_eval hR hG hB (by rw [hi]; rfl)
    obtain ⟨e1, e2⟩ := rf x g k (unArr_ref hx)
    refine wp_still hR hu (v := .pointer (some ⟨ρ.b g, k + j.toNat * s, none⟩)) ?_ ⟨rfl, rfl, e2⟩ hK
    simp [execOp, ho, e1, ei, arr_run hns hc]
   ·cases h
  ·cases h
 ·-- call
  rename_i c ho
  obtain ⟨callee, args, ts⟩ := c
  simp only at h
  split at h
  ·exact wp_call hΓ hR hG hB rfl ho h hK
  ·split at h
   ·rename_i t _ g e
    have e' : evA GL σ (.tmp t) = .val (.func (.func g) #[] #[]) := by
     unfold funOf at e
     split at e
     ·rename_i hx; cases e; exact hx
     ·cases e
    exact wp_call hΓ hR hG hB (toV_eval hR hG hB (by rw [e']; rfl)) ho h hK
   ·cases h
  ·split at h
   ·rename_i x hargs
    split at h
    ·rename_i n k row e
     split at h
     ·rename_i t ts' hts
      split at h
      ·rename_i el hel
       obtain ⟨_, y, hy, hu⟩ := bindSet_spec h
       cases hy
       have hr := unArr_rep (rp x (unArr_lst e))
       rw [e] at hr
       have hun : (underlying t).run P w = .ok (.slice el) w := by simp [underlying, program, Sem.run, hel]
       have hargs' : args = #[x] := by apply Array.ext'; simpa using hargs
       have hts0 : ts[0]? = some t := by
        have : ts.toList[0]? = some t := by rw [hts]; rfl
        simpa using this
       subst hargs'
       refine wp_stillR hR hu (v := .int .i64 n) ?_ (.val _) hK
       generalize hv : a.eval x = v at hr
       cases hr <;> simp [execOp, ho, resolve, invoke, builtin, Builtin.len_, hts0, hv, hun, goInt]
      ·cases h
     ·cases h
    ·rename_i g n e
     split at h
     ·rename_i t ts' hts
      split at h
      ·rename_i el hel
       obtain ⟨_, y, hy, hu⟩ := bindSet_spec h
       cases hy
       have hun : (underlying t).run P w = .ok (.slice el) w := by simp [underlying, program, Sem.run, hel]
       have hargs' : args = #[x] := by apply Array.ext'; simpa using hargs
       have hts0 : ts[0]? = some t := by
        have : ts.toList[0]? = some t := by rw [hts]; rfl
        simpa using this
       subst hargs'
       obtain ⟨lv', ty', m', ks', c', h1, h2, h3, h4⟩ := sl x g n (unArr_sl e)
       refine wp_stillR hR hu (v := .int .i64 n) ?_ (.val _) hK
       cases lv' with
       | false =>
        obtain ⟨rfl, q, hv⟩ := h4 rfl
        simp [execOp, ho, resolve, invoke, builtin, Builtin.len_, hts0, hv, hun, goInt]
       | true =>
        obtain ⟨cap, hv, _⟩ := h3 rfl
        simp [execOp, ho, resolve, invoke, builtin, Builtin.len_, hts0, hv, hun, goInt]
      ·cases h
     ·cases h
    ·exact wp_gen hR hG hB h hK
   ·cases h
  ·exact wp_gen hR hG hB h hK
  ·exact wp_gen hR hG hB h hK
  ·exact wp_gen hR hG hB h hK
  ·cases h
 ·exact wp_gen hR hG hB h hK
 ·exact wp_gen hR hG hB h hK
 ·exact wp_gen hR hG hB h hK
 ·exact wp_gen hR hG hB h hK
 ·-- build
  rename_i t ps ho
  split at h
  ·rename_i x hx
   rw [<- hx] at h
   exact wp_gen hR hG hB h hK
  ·obtain ⟨_, y, hy, hu⟩ := bindSet_spec h
   unfold bldA at hy
   split at hy
   ·rename_i fs hfs
    split at hy
    ·rename_i z pl hz hpl
     split at hy
     ·rename_i l hl
      cases hy
      have hun : (underlying t).run P w = .ok (.struct fs) w := by simp [underlying, program, Sem.run, hfs]
      obtain ⟨cs', g1, g2, g3⟩ := fill_spec (w := w) (Bb := ρ.F) (ρ' := a.eval) pl ps.toList _ l z.cells (fun p hp xs hxs => rp p.2 (by cases e : evA GL σ p.2 <;> rw [e] at hxs <;> first | rfl | simp [flat] at hxs)) (by simp)
       (rep_list _ (fun v => rep_ofCell v) _) hl
      refine wp_stillR hR hu (v := .agg cs') ?_ (.agg _ cs'.toList g2 g3) hK
      have hm : (ps.map fun p => (p.1, a.eval p.2)).toList = ps.toList.map fun p => (p.1, a.eval p.2) := by simp
      simp only [execOp, ho, Sem.run_bind, Instr.build, pv_run _ _ hz, Result.andThen_ok, hun, pv_run _ _ hpl, hm, g1]
      rfl
     ·cases hy
    ·cases hy
   ·cases hy
 ·-- buildSlice
  rename_i t n ps ho
  split at h
  ·rename_i hall
   split at h
   ·rename_i cells s e hb
    obtain ⟨_, y, hy, hu⟩ := bindSet_spec h
    cases hy
    obtain ⟨hlen, hrun⟩ := bldS_run (w := w) hb
    have hpush : ∀ b, b < w.heap.size -> (w.heap.push (.cells ⟨cells⟩ e (0, 0)))[b]? = w.heap[b]? := fun b hb => by rw [Array.getElem?_push, if_neg (by omega)]
    have hnew : (w.heap.push (.cells ⟨cells⟩ e (0, 0)))[w.heap.size]? = some (.cells ⟨cells⟩ e (0, 0)) := by simp
    have hb' : BelowX w0.heap.size E.X w0 { w with heap := w.heap.push (.cells ⟨cells⟩ e (0, 0)) } :=
     ⟨hR.blw.os, hR.blw.tape, hR.blw.output, by have := hR.blw.size; simp; omega, fun k hk hX => (hpush k (Nat.lt_of_lt_of_le hk hR.blw.size)).trans (hR.blw.block k hk hX)⟩
    have hlt : ∀ i j, i < n -> j < s -> i * s + j < cells.length := fun i j hi hj => by
     rw [hlen]
     calc i * s + j < i * s + s := by omega
      _ = (i + 1) * s := by rw [Nat.add_mul, Nat.one_mul]
      _ <= n * s := Nat.mul_le_mul_right _ hi
    have hmap : ps.map (fun (i, x) => (i, rhoOf GL σ x)) = ps.map (fun (i, x) => (i, a.eval x)) := by
     apply Array.map_congr_left
     rintro ⟨i, x⟩ hx
     obtain ⟨v, hv⟩ := allV_spec _ hall x (List.mem_map.2 ⟨(i, x), by simpa using hx, rfl⟩)
     simp only [Prod.mk.injEq, true_and]
     rw [toV_eval hR hG hB hv]
     simp [rhoOf, hv]
    rw [hmap] at hrun
    have hcell : ∀ i j, i < n -> j < s -> ({ w with heap := w.heap.push (.cells ⟨cells⟩ e (0, 0)) } : World).cell? ⟨w.heap.size, 0 + i * s + j, none⟩ = some (cells.getD (i * s + j) undef) := fun i j hi hj => by
     have h1 := hlt i j hi hj
     simp only [World.cell?, hnew]
     simp [List.getD, h1]
    have hrep : Rep { w with heap := w.heap.push (.cells ⟨cells⟩ e (0, 0)) } (fun b => ρ.F b \/ b = w.heap.size) (sliceAV n s cells) (.slice (some ⟨w.heap.size, 0, none⟩) n n) := by
     unfold sliceAV
     split
     ·rename_i xs hs1 hxs
      have hs1 : s = 1 := Nat.eq_of_beq_eq_true hs1
      subst hs1
      refine .arr _ _ _ _ (.lst _ _ _ _ 0 _ (fun i j => cells.getD (i * 1 + j) undef) (.inr rfl) (Nat.le_refl _) (fun i hi => rfl) hcell (fun i j hi hj => ?_))
      have hj : j = 0 := by simpa using hj
      subst hj
      rw [intsOf_spec hxs _ (hlt i 0 hi (by omega))]
      rw [show i * 1 + 0 = i by omega]
      exact .val _
     ·refine .lst _ _ _ _ 0 _ (fun i j => cells.getD (i * s + j) undef) (.inr rfl) (Nat.le_refl _) (fun i hi => ?_) hcell (fun i j hi hj => ?_)
      ·have : i * s + s <= cells.length := by
        rw [hlen]
        calc i * s + s = (i + 1) * s := by rw [Nat.add_mul, Nat.one_mul]
         _ <= n * s := Nat.mul_le_mul_right _ hi
       simp; omega
      ·have h1 := hlt i j hi hj
       have e1 : (((cells.drop (i * s)).take s).map ofCell).getD j .non = ofCell (cells.getD (i * s + j) undef) := by
        simp [List.getD, List.getElem?_take, hj, List.getElem?_drop, h1]
       rw [e1]
       exact rep_ofCell _
    refine wp_value (v := .slice (some ⟨w.heap.size, 0, none⟩) n n) (w' := { w with heap := w.heap.push (.cells ⟨cells⟩ e (0, 0)) }) ?_
     (hK _ _ _ (hR.put (ρ' := ⟨ρ.b, fun b => ρ.F b \/ b = w.heap.size⟩) hb' hpush (by simp) rfl (fun b h => .inl h) (fun b h => h.imp id fun h => ⟨by omega, by subst h; simp⟩) hu ⟨hrep.notOwn, hrep.vok⟩))
    simp only [execOp, ho, Sem.run_bind, hrun]
    rfl
   ·split at h
    ·rename_i hps hk hbld
     obtain ⟨_, y, hy, hu⟩ := bindSet_spec h
     cases hy
     obtain ⟨ht, hs⟩ := elemSz_spec hk
     have hun : (underlying t).run P w = .ok (.slice (P.elem t)) w := by simp [underlying, program, Sem.run, ht]
     have hps : ps = #[] := by apply Array.ext'; simpa using hps
     subst hps
     have hpush : ∀ b, b < w.heap.size -> (w.heap.push (.cells #[] (P.elem t) (0, 0)))[b]? = w.heap[b]? := fun b hb => by rw [Array.getElem?_push, if_neg (by omega)]
     refine wp_value (v := .slice (some ⟨w.heap.size, 0, none⟩) 0 0) (w' := { w with heap := w.heap.push (.cells #[] (P.elem t) (0, 0)) }) ?_
      (hK _ _ _ (hR.put (ρ' := ρ) (w' := { w with heap := w.heap.push (.cells #[] (P.elem t) (0, 0)) }) ⟨hR.blw.os, hR.blw.tape, hR.blw.output, by have := hR.blw.size; simp; omega, fun k hk hX => (hpush k (Nat.lt_of_lt_of_le hk hR.blw.size)).trans (hR.blw.block k hk hX)⟩ hpush (by simp) rfl (fun b h => h) (fun b h => .inl h) hu ⟨rfl, Rep.nils _⟩))
     simp [execOp, ho, Instr.buildSlice, hun, pv_run _ _ hs, newRow, newObj, Sem.run, Instr.fill, show Array.range 0 = #[] from rfl]
    ·cases h
  ·obtain ⟨_, y, hy, hu⟩ := bindSet_spec h
   unfold bldL at hy
   split at hy
   ·rename_i k cs hk hcs
    split at hy
    ·rename_i h1 h2 h3 h4
     split at hy
     case h_2 => cases hy
     rename_i z hz
     cases hy
     have h1 := Nat.eq_of_beq_eq_true h1
     have h3' : ¬ n * k > 2 ^ 24 := by have := Nat.le_of_ble_eq_true h3; omega
     have h4' : ¬ n * k = 0 := fun hh => by rw [hh] at h4; cases h4
     obtain ⟨ht, hs⟩ := elemSz_spec hk
     have hun : (underlying t).run P w = .ok (.slice (P.elem t)) w := by simp [underlying, program, Sem.run, ht]
     obtain ⟨vss, q1, q2, q3, cells', q4, q5⟩ := flats_spec (w := w) (Bb := ρ.F) (ev := a.eval) (fun x c hx => rp x (by cases e : evA GL σ x <;> rw [e] at hx <;> first | rfl | simp [flat] at hx)) ps.toList 0 cs ((Array.range (n * k)).map (z.cells[· % z.cells.size]!)) k hcs h2 (by have := flats_len hcs; simp only [Array.size_map, Array.size_range]; rw [<- this, h1, Nat.zero_add]; exact Nat.le_refl _)
     have hlen : cells'.toList = vss.flatten := by
      rw [q5]
      have : ((Array.range (n * k)).map (z.cells[· % z.cells.size]!)).toList.length = n * k := by simp
      rw [Nat.zero_mul, List.take_zero, List.nil_append, List.drop_eq_nil_of_le (by rw [this, Nat.zero_add, <- q2, h1]; exact Nat.le_refl _), List.append_nil]
     have hpush : ∀ b, b < w.heap.size -> (w.heap.push (.cells cells' (P.elem t) (0, 0)))[b]? = w.heap[b]? := fun b hb => by rw [Array.getElem?_push, if_neg (by omega)]
     have hrep : Rep { w with heap := w.heap.push (.cells cells' (P.elem t) (0, 0)) } (fun b => ρ.F b \/ b = w.heap.size) (.lst n k fun i => cs.getD i []) (.slice (some ⟨w.heap.size, 0, none⟩) n n) := by
      refine .lst _ _ _ _ 0 _ (fun i j => (vss.getD i []).getD j undef) (.inr rfl) (Nat.le_refl _) (fun i hi => (q3 i (by omega)).2.1) (fun i j hi hj => ?_) (fun i j hi hj => ((q3 i (by omega)).2.2 j hj).mono fun b hb => ⟨.inl hb, hpush b (hR.frz b hb).2.1⟩)
      have e1 : (w.heap.push (.cells cells' (P.elem t) (0, 0)))[w.heap.size]? = some (.cells cells' (P.elem t) (0, 0)) := by simp
      have e2 : cells'[i * k + j]? = some ((vss.getD i []).getD j undef) := by
       have := flatten_at (k := k) vss (fun q hq => (q3 q (by omega)).1) i j (by omega) hj
       rw [<- hlen] at this
       simpa using this
      simp only [World.cell?, Nat.zero_add, e1]
      simp [e2]
     refine wp_value (v := .slice (some ⟨w.heap.size, 0, none⟩) n n) (w' := { w with heap := w.heap.push (.cells cells' (P.elem t) (0, 0)) }) ?_
      (hK _ _ _ (hR.put (w' := { w with heap := w.heap.push (.cells cells' (P.elem t) (0, 0)) }) (ρ' := ⟨ρ.b, fun b => ρ.F b \/ b = w.heap.size⟩) ⟨hR.blw.os, hR.blw.tape, hR.blw.output, by have := hR.blw.size; simp; omega, fun k hk hX => (hpush k (Nat.lt_of_lt_of_le hk hR.blw.size)).trans (hR.blw.block k hk hX)⟩ hpush (by simp) rfl (fun b h => .inl h) (fun b h => h.imp id fun h => ⟨by omega, by subst h; simp⟩) hu ⟨hrep.notOwn, hrep.vok⟩))
     have hm : (ps.map fun (i, x) => (i, a.eval x)).toList = ps.toList.map fun p => (p.1, a.eval p.2) := by simp
     simp only [execOp, ho, Instr.buildSlice, Sem.run_bind, hun, Result.andThen_ok, pv_run _ _ hs, if_neg h3', if_neg h4', pv_run _ _ hz]
     simp only [Sem.run_pure, Result.andThen_ok, hm, q4]
     simp [newRow, newObj, Sem.run]
    ·cases hy
   ·cases hy
 ·cases h
theorem u8Row_spec {row : Nat -> List AV} : ∀ {n i : Nat} {l : List Int}, u8Row row i n = some l -> l.length = n /\ ∀ j, j < n -> row (i + j) = [.val (.int .u8 (l.getD j 0))]
 | 0, i, l, h => by cases h; exact ⟨rfl, fun j hj => by omega⟩
 | n + 1, i, l, h => by
  unfold u8Row at h
  split at h
  ·rename_i v hv
   split at h
   ·rename_i l' hl
    cases h
    obtain ⟨e1, e2⟩ := u8Row_spec hl
    refine ⟨by simp [e1], fun j hj => ?_⟩
    cases j with
    | zero => exact hv
    | succ j =>
     have := e2 j (by omega)
     rw [show i + 1 + j = i + (j + 1) by omega] at this
     exact this
   ·cases h
  ·cases h
theorem str_run (hR : Rr E N B w0 ρ σ a w) (hG : GOk w0 B GL) (hB : ∀ b, B b -> b < w0.heap.size /\ ¬ E.X b) {r : Bool × AV} (hr : strOp P GL σ o = some r) (hc : r.1 = true) :
  ∃ v, (execOp a.eval o).run P w = .ok (.value v) w /\ Rep w ρ.F r.2 v := by
 obtain ⟨dst, op, type, pos, after, guard⟩ := o
 unfold strOp at hr
 simp only at hr
 split at hr
 ·rename_i t x y yt
  split at hr
  ·rename_i s1 s2 hx hy
   cases hr
   have ex : a.eval x = .string s1 := toV_eval hR hG hB (by rw [hx]; rfl)
   have ey : a.eval y = .string s2 := toV_eval hR hG hB (by rw [hy]; rfl)
   refine ⟨.string (s1 ++ s2), ?_, .val _⟩
   have hc := Nat.le_of_ble_eq_true hc
   simp only [execOp, ex, ey, Sem.run_bind, binOp_string_add, eqGuard, Op.stringOp]
   rw [if_neg (c := ((s1.size + s2.size : Nat) : Int) > IntKind.i64.max) (fun h => by have h : ((s1.size + s2.size : Nat) : Int) > 9223372036854775807 := h; omega)]
   rfl
  ·cases hr
 ·rename_i t x i
  split at hr
  ·rename_i s j hx hi ht
   cases hr
   have ex : a.eval x = .string s := toV_eval hR hG hB (by rw [hx]; rfl)
   have ei : a.eval i = .int .i64 j := toV_eval hR hG hB (by rw [hi]; rfl)
   simp only [Bool.and_eq_true, decide_eq_true_eq] at hc
   have e := run_index_string (P := P) (w := w) t s .i64 j ht
   rw [dif_pos hc] at e
   refine ⟨_, ?_, .val _⟩
   simp only [execOp, ex, ei, Sem.run_bind, e]
   have hb : byteA s j.toNat = (((s[j.toNat]'(by omega)).toNat : Nat) : Int) := by
    unfold byteA
    rw [List.getD_eq_getElem?_getD, Array.getElem?_toList, Array.getElem?_eq_getElem (show j.toNat < s.data.size by have := hc.2; simp only [ByteArray.size] at this; omega)]
    rfl
   rw [hb]
   rfl
  ·cases hr
 ·rename_i t x l h
  split at hr
  ·rename_i s hx ht
   have ex : a.eval x = .string s := toV_eval hR hG hB (by rw [hx]; rfl)
   have fin : ∀ (lo hi : Option Value) (v : Value), lo = l.map a.eval -> hi = h.map a.eval -> (Instr.slice t (.string s) lo hi none).run P w = .ok v w -> (execOp a.eval ⟨dst, .slice t x l h none, type, pos, after, guard⟩).run P w = .ok (.value v) w := by
    intro lo hi v e1 e2 e3
    subst e1; subst e2
    simp only [execOp, ex, Option.map_none, Sem.run_bind, run_sliceAt_string _ _ _ _ _ _ ht, e3]
    rfl
   split at hr
   ·rename_i hh
    split at hr
    ·rename_i b hb
     cases hr
     have eh := intOf_eval hR hG hB hb
     simp only [Bool.and_eq_true, decide_eq_true_eq] at hc
     refine ⟨_, fin none (some (.int .i64 b)) _ rfl (by rw [Option.map_some, eh]) ?_, .val _⟩
     simp [Instr.slice, Instr.sliceBounds, Instr.sliceBound, asIntOf, run_underlying ht, hc]
    ·cases hr
   ·rename_i ll
    split at hr
    ·rename_i b hb
     cases hr
     have eh := intOf_eval hR hG hB hb
     simp only [Bool.and_eq_true, decide_eq_true_eq] at hc
     refine ⟨_, fin (some (.int .i64 b)) none _ (by rw [Option.map_some, eh]) rfl ?_, .val _⟩
     simp [Instr.slice, Instr.sliceBounds, Instr.sliceBound, asIntOf, run_underlying ht, hc]
    ·cases hr
   ·rename_i ll hh
    split at hr
    ·rename_i b b2 hb hb2
     cases hr
     have eh := intOf_eval hR hG hB hb
     have eh2 := intOf_eval hR hG hB hb2
     simp only [Bool.and_eq_true, decide_eq_true_eq] at hc
     refine ⟨_, fin (some (.int .i64 b)) (some (.int .i64 b2)) _ (by rw [Option.map_some, eh]) (by rw [Option.map_some, eh2]) ?_, .val _⟩
     have h0 : 0 <= b2 := by omega
     simp [Instr.slice, Instr.sliceBounds, Instr.sliceBound, asIntOf, run_underlying ht, hc, h0]
     intro h4
     exact absurd h4 (by omega)
    ·cases hr
   ·cases hr
  ·cases hr
 ·rename_i src dst x
  split at hr
  ·rename_i e n k row hs hd hx
   split at hr
   ·rename_i l he hk hl
    cases hr
    have hk := Nat.eq_of_beq_eq_true hk
    subst hk
    have hrep := evA_rep (x := x) hR hG hB (by rw [hx]; rfl)
    rw [hx] at hrep
    obtain ⟨u1, u2⟩ := u8Row_spec hl
    refine ⟨.string (u8S l), ?_, .val _⟩
    generalize hv : a.eval x = v at hrep
    cases hrep with
    | lst _ _ _ b o cap f hBb hn hk2 hc hr2 =>
     have key : ∀ a v, Rep w ρ.F (.val a) v -> v = a := fun a v h => by cases h; rfl
     have hcell : ∀ j v, (l.map (Value.int .u8))[j]? = some v -> w.cell? ((⟨b, o, none⟩ : Addr).add j) = some v := fun j v hj => by
      have hjl : j < l.length := by
       have := (List.getElem?_eq_some_iff.1 hj).1
       simpa using this
      have h1 := hc j 0 (by omega) (by omega)
      have h2 := hr2 j 0 (by omega) (by omega)
      have h3 := u2 j (by omega)
      rw [Nat.zero_add] at h3
      rw [h3] at h2
      have h4 := key _ _ h2
      have h5 : v = .int .u8 (l.getD j 0) := by
       rw [List.getElem?_map, List.getElem?_eq_getElem hjl] at hj
       simp only [Option.map_some, Option.some.injEq] at hj
       rw [<- hj, List.getD_eq_getElem?_getD, List.getElem?_eq_getElem hjl]
       rfl
      rw [h5, <- h4]
      rw [show (⟨b, o, none⟩ : Addr).add j = ⟨b, o + j * 1 + 0, none⟩ by simp [Addr.add]]
      exact h1
     have hload := run_loadCells_list (P := P) w (⟨b, o, none⟩ : Addr) (l.map (Value.int .u8)) hcell
     rw [List.length_map, u1] at hload
     have hb := run_bytesToString (P := P) w (⟨b, o, none⟩ : Addr) (n + 1) cap l hload
     simp only [execOp, hv, Sem.run_bind, run_convert_bytes_string w src dst e _ _ _ hs he hd, hb]
     have hf : l.foldl (fun r n => r.push (UInt8.ofNat n.toNat)) ByteArray.empty = u8S l := by
      rw [foldl_push_bytes]
      unfold u8S
      simp
     rw [hf]
     rfl
   ·cases hr
  ·rename_i e n c hs hd hx
   split at hr
   ·rename_i he
    cases hr
    have hrep := evA_rep (x := x) hR hG hB (by rw [hx]; rfl)
    rw [hx] at hrep
    refine ⟨.string (u8C n c), ?_, .val _⟩
    have fin : ∀ (l : List Int), l.foldl (fun r n => r.push (UInt8.ofNat n.toNat)) ByteArray.empty = u8S l := fun l => by
     rw [foldl_push_bytes]
     unfold u8S
     simp
    generalize hv : a.eval x = v at hrep
    cases hrep with
    | arr _ _ _ _ hrep =>
     cases hrep with
     | nil _ _ ad cap =>
      cases ad with
      | none =>
       simp only [execOp, hv, Sem.run_bind, run_convert_bytes_nil w src e hs he _ _ dst hd]
       rfl
      | some ad =>
       have hload : (loadCells ad 0).run P w = .ok ([].map (Value.int .u8)).toArray w := by simp [loadCells, loadCellsFrom]
       have hb := run_bytesToString (P := P) w ad 0 cap [] hload
       simp only [execOp, hv, Sem.run_bind, run_convert_bytes_string w src dst e _ _ _ hs he hd, hb]
       rfl
     | lst _ _ _ b o cap f hBb hn hk2 hc hr2 =>
      have key : ∀ a v, Rep w ρ.F (.val a) v -> v = a := fun a v h => by cases h; rfl
      have hcell : ∀ j v, (((List.range n).map fun i => c i 0 % 256).map (Value.int .u8))[j]? = some v -> w.cell? ((⟨b, o, none⟩ : Addr).add j) = some v := fun j v hj => by
       have hjl : j < n := by
        have := (List.getElem?_eq_some_iff.1 hj).1
        simpa using this
       have h1 := hc j 0 hjl (by decide)
       have h2 := hr2 j 0 hjl (by decide)
       have h4 := key _ _ h2
       have h5 : v = .int .u8 (c j 0 % 256) := by
        rw [List.getElem?_map, List.getElem?_map, List.getElem?_range hjl] at hj
        simp only [Option.map_some, Option.some.injEq] at hj
        exact hj.symm
       rw [h5]
       rw [show (⟨b, o, none⟩ : Addr).add j = ⟨b, o + j * 1 + 0, none⟩ by simp [Addr.add]]
       rw [h4] at h1
       exact h1
      have hload := run_loadCells_list (P := P) w (⟨b, o, none⟩ : Addr) (((List.range n).map fun i => c i 0 % 256).map (Value.int .u8)) hcell
      rw [List.length_map, List.length_map, List.length_range] at hload
      have hb := run_bytesToString (P := P) w (⟨b, o, none⟩ : Addr) n cap _ hload
      simp only [execOp, hv, Sem.run_bind, run_convert_bytes_string w src dst e _ _ _ hs he hd, hb]
      rw [fin]
      rfl
   ·cases hr
  ·cases hr
 ·cases hr
theorem evOp_sound (hΓ : Sound P GL Γ) (hR : Rr E N B w0 ρ σ a w) (hG : GOk w0 B GL) (hB : ∀ b, B b -> b < w0.heap.size /\ ¬ E.X b)
  (h : evOp P GL Γ E.n σ o = some (true, u)) (hK : ∀ ρ' a' w', Rr E N B w0 ρ' (upd σ u) a' w' -> K a' w') : o.wp P a w K Q := by
 unfold evOp at h
 split at h
 ·rename_i r hr
  obtain ⟨hc, hu⟩ := bindSet2_spec h
  obtain ⟨v, h1, h2⟩ := str_run hR hG hB hr hc
  exact wp_stillR hR hu h1 h2 hK
 ·exact evOp0_sound hΓ hR hG hB h hK
end
end Go.Ev
/- Guards; what an operation looks at; whatever order a region draws, the outcome is that of the text's order. -/
namespace Go.Ev
open Go.RowKit
def dstAt (ops : Array Oper) (j : Nat) : Option Nat := match ops[j]? with
 | some o => o.dst
 | none => none
def evG (P : Program) (GL : Nat -> AV) (Γ : List (Nat × Ctr)) (N : Nat) (ops : Array Oper) (σ : Nat -> AV) (o : Oper) : Option (Bool × List (Nat × AV)) :=
 match o.guard with
 | none => evOp P GL Γ N σ o
 | some (j, want) => match dstAt ops j with
  | some t => match σ t with
   | .val (.bool b) => match b == want with
    | true => evOp P GL Γ N σ o
    | false => ret true (setD N σ o (.val undef))
   | .val (.tuple _) => ret true (setD N σ o (.val undef))
   | _ => none
  | none => none
def tmpsOf : List Operand -> List Nat
 | [] => []
 | .tmp t :: l => t :: tmpsOf l
 | _ :: l => tmpsOf l
def sites (σ : Nat -> AV) : List Nat -> List Nat
 | [] => []
 | t :: l => match σ t with
  | .ref g _ => g :: sites σ l
  | .sl g _ => g :: sites σ l
  | .rf g _ _ => g :: sites σ l
  | _ => sites σ l
def touched (ops : Array Oper) (o : Oper) : List Nat :=
 (match opsOf o.op with | some l => tmpsOf l | none => []) ++ (match o.guard with | some (j, _) => (match dstAt ops j with | some t => [t] | none => []) | none => []) ++ (match o.dst with | some d => [d] | none => [])
def looks : Op -> Bool
 | .move _ => false
 | .assign _ => false
 | .indexAddr _ _ _ => false
 | _ => true
def rdOf (ops : Array Oper) (σ : Nat -> AV) (o : Oper) : List Nat := touched ops o ++ (match looks o.op with | true => sites σ (touched ops o) | false => [])
theorem mem_tmpsOf {t : Nat} : ∀ {l : List Operand}, Operand.tmp t ∈ l -> t ∈ tmpsOf l
 | x :: l, h => by
  rcases List.mem_cons.1 h with rfl | h
  ·simp [tmpsOf]
  ·have := mem_tmpsOf h
   cases x <;> simp [tmpsOf, this]
theorem mem_sites {σ : Nat -> AV} {t g : Nat} : ∀ {l : List Nat}, t ∈ l -> siteOf (σ t) = some g -> g ∈ sites σ l
 | x :: l, h, e => by
  rcases List.mem_cons.1 h with rfl | h
  ·unfold sites
   cases hx : σ t <;> rw [hx] at e <;> simp only [siteOf, reduceCtorEq, Option.some.injEq] at e <;> subst e <;> simp
  ·have := mem_sites h e
   unfold sites
   split <;> simp [this]
section
variable {P : Program} {GL : Nat -> AV} {Γ : List (Nat × Ctr)} {N : Nat} {σ σ' : Nat -> AV} {o : Oper} {ops : Array Oper}
theorem evA_congr {x : Operand} (h : ∀ t, x = .tmp t -> σ' t = σ t) : evA GL σ' x = evA GL σ x := by
 cases x with
 | tmp t => simp only [evA, h t rfl]
 | _ => rfl
theorem setD_congr {x : AV} (h : ∀ d, o.dst = some d -> σ' d = σ d) : setD N σ' o x = setD N σ o x := by
 unfold setD
 split
 ·rfl
 ·rename_i d hd; rw [h d hd]
theorem bindSet_congr {c : Bool} {x : Option AV} (h : ∀ d, o.dst = some d -> σ' d = σ d) : bindSet N σ' o c x = bindSet N σ o c x := by
 unfold bindSet
 split
 ·rw [setD_congr h]
 ·rfl
theorem allV_congr : ∀ {l : List Operand}, (∀ x ∈ l, evA GL σ' x = evA GL σ x) -> allV GL σ' l = allV GL σ l
 | [], _ => rfl
 | x :: l, h => by
  unfold allV
  rw [h x (by simp), allV_congr fun y hy => h y (by simp [hy])]
theorem gen_congr (h : ∀ l, opsOf o.op = some l -> ∀ x ∈ l, evA GL σ' x = evA GL σ x) : gen P GL σ' o = gen P GL σ o := by
 unfold gen
 cases hl : opsOf o.op with
 | none => rfl
 | some l =>
  have h := h l hl
  have ha : allV GL σ' l = allV GL σ l := by
   clear hl
   induction l with
   | nil => rfl
   | cons x l ih =>
    unfold allV
    rw [h x (by simp), ih fun y hy => h y (by simp [hy])]
  simp only [ha]
  have he : execOp (rhoOf GL σ') o = execOp (rhoOf GL σ) o := execOp_congr o (opsOf_spec hl).1 fun x hx => by
   unfold rhoOf
   rw [h x ((opsOf_spec hl).2 x hx)]
  rw [he]
theorem argsV_congr : ∀ {xs : List AV}, (∀ x ∈ xs, ∀ g, siteOf x = some g -> σ' g = σ g) -> argsV σ' xs = argsV σ xs
 | [], _ => rfl
 | x :: xs, h => by
  have h1 : argV σ' x = argV σ x := by
   cases x with
   | ref g k => simp only [argV, h (.ref g k) (by simp) g rfl]
   | sl g n => simp only [argV, h (.sl g n) (by simp) g rfl]
   | _ => rfl
  unfold argsV
  rw [h1, argsV_congr fun y hy => h y (by simp [hy])]
theorem outU_congr : ∀ {xs os : List AV}, (∀ x ∈ xs, ∀ g, siteOf x = some g -> σ' g = σ g) -> outU σ' xs os = outU σ xs os
 | [], _, _ => rfl
 | x :: xs, os, h => by
  have ih := fun os' => outU_congr (xs := xs) (os := os') fun y hy => h y (by simp [hy])
  cases x with
  | ref g k =>
   have := h (.ref g k) (by simp) g rfl
   cases os with
   | nil => rfl
   | cons z zs =>
    cases z with
    | agg c => simp only [outU, ih, this]
    | _ => rfl
  | _ => cases os <;> simp only [outU, ih]
theorem bldA_congr {t : TypeId} {ps : List (Nat × Operand)} (h : ∀ x ∈ ps.map (·.2), evA GL σ' x = evA GL σ x) : bldA P GL σ' t ps = bldA P GL σ t ps := by
 have : ps.map (fun p => (p.1, evA GL σ' p.2)) = ps.map (fun p => (p.1, evA GL σ p.2)) := List.map_congr_left fun p hp => by rw [h p.2 (List.mem_map.2 ⟨p, hp, rfl⟩)]
 unfold bldA
 rw [this]
theorem callOf_congr {g : Nat} {args : List Operand} (h : ∀ x ∈ args, evA GL σ' x = evA GL σ x) (hs : ∀ x ∈ args, ∀ g, siteOf (evA GL σ x) = some g -> σ' g = σ g)
  (hd : ∀ d, o.dst = some d -> σ' d = σ d) : callOf GL Γ N σ' o g args = callOf GL Γ N σ o g args := by
 have hs' : ∀ x ∈ args.map (evA GL σ), ∀ g, siteOf x = some g -> σ' g = σ g := fun x hx g e => by
  obtain ⟨y, hy, rfl⟩ := List.mem_map.1 hx
  exact hs y hy g e
 unfold callOf
 rw [List.map_congr_left h]
 simp only [setD_congr hd, argsV_congr hs', outU_congr hs']
theorem intOf_congr {l : Option Operand} (h : ∀ x, l = some x -> evA GL σ' x = evA GL σ x) : intOf GL σ' l = intOf GL σ l := by
 cases l with
 | none => rfl
 | some x => simp only [intOf, h x rfl]
theorem shp_row {x : AV} {lv : Bool} {ty : TypeId} {m : Nat} {ks : List CK} (h : shp x = some (lv, ty, m, ks)) : ∃ c, x = .row lv ty m ks c := by
 cases x <;> simp only [shp, reduceCtorEq, Option.some.injEq, Prod.mk.injEq] at h
 obtain ⟨rfl, rfl, rfl, rfl⟩ := h
 exact ⟨_, rfl⟩
theorem evOp0_congr (h : ∀ l, opsOf o.op = some l -> ∀ x ∈ l, evA GL σ' x = evA GL σ x) (hs : looks o.op = true -> ∀ l, opsOf o.op = some l -> ∀ x ∈ l, ∀ g, siteOf (evA GL σ x) = some g -> σ' g = σ g)
  (hz : ∀ l, opsOf o.op = some l -> ∀ x ∈ l, ∀ g n, evA GL σ x = .sl g n -> shp (σ' g) = shp (σ g))
  (hd : ∀ d, o.dst = some d -> σ' d = σ d) : evOp0 P GL Γ N σ' o = evOp0 P GL Γ N σ o := by
 have hg : gen P GL σ' o = gen P GL σ o := gen_congr h
 have hb : ∀ c x, bindSet N σ' o c x = bindSet N σ o c x := fun c x => bindSet_congr hd
 have hb2 : ∀ r, bindSet2 N σ' o r = bindSet2 N σ o r := fun r => by
  unfold bindSet2
  split
  ·rw [setD_congr hd]
  ·rfl
 unfold evOp0
 obtain ⟨dst, op, type, pos, after, guard⟩ := o
 simp only at h hs hz hd ⊢
 cases op <;> simp only [opsOf, looks, forall_const, Bool.false_eq_true, Option.some.injEq, forall_eq', List.mem_cons, List.not_mem_nil, or_false, forall_eq_or_imp, forall_eq, reduceCtorEq, false_implies, implies_true] at h hs hz <;> simp only [hb, hb2, hg, h] <;> (try rfl)
 case load t x =>
  cases e : evA GL σ x with
  | ref g k => simp only [hs g (by rw [e]; rfl)]
  | rf g i j => simp only [hs g (by rw [e]; rfl)]
  | _ => rfl
 case store t x v =>
  cases e : evA GL σ x with
  | ref g k => simp only [hs.1 g (by rw [e]; rfl)]
  | rf g i j => simp only [hs.1 g (by rw [e]; rfl)]
  | _ => rfl
 case binOp op t x y yt =>
  have hn : isNilC GL σ' y = isNilC GL σ y := by unfold isNilC; rw [h.2]
  simp only [hn]
 case slice t x l hh m =>
  have hl : intOf GL σ' l = intOf GL σ l := intOf_congr fun y hy => h y (by simp [hy])
  have hh' : intOf GL σ' hh = intOf GL σ hh := intOf_congr fun y hy => h y (by simp [hy])
  rw [h x (by simp)]
  unfold slcOf
  simp only [hl, hh']
 case indexAddr t x i =>
  have key : ∀ g n, unArr (evA GL σ x) = .sl g n -> shp (σ' g) = shp (σ g) := fun g n e => hz.1 g n (unArr_sl e)
  generalize unArr (evA GL σ x) = X at key
  generalize evA GL σ i = Y
  cases Y with
  | val v =>
   cases v with
   | int k j =>
    cases k with
    | i64 =>
     cases X with
     | sl g n =>
      have k := key g n rfl
      simp only
      cases e : σ g with
      | row lv ty m ks c =>
       rw [e] at k
       obtain ⟨c', e'⟩ := shp_row k
       rw [e']
       cases elemSz P t <;> rfl
      | _ =>
       rw [e] at k
       cases e' : σ' g with
       | row lv ty m ks c => rw [e'] at k; cases k
       | _ => rfl
     | _ => rfl
    | _ => cases X <;> rfl
   | _ => cases X <;> rfl
  | _ => cases X <;> rfl
 case build t ps =>
  rw [bldA_congr fun x hx => h x hx]
 case buildSlice t n ps =>
  rw [allV_congr h]
  have hm : ps.map (fun x => (x.fst, rhoOf GL σ' x.snd)) = ps.map (fun x => (x.fst, rhoOf GL σ x.snd)) := by
   apply Array.map_congr_left
   intro x hx
   unfold rhoOf
   rw [h x.2 (List.mem_map.2 ⟨x, by simpa using hx, rfl⟩)]
  rw [hm]
  have hf : ∀ (l : List (Nat × Operand)) (j : Nat), (∀ p ∈ l, evA GL σ' p.2 = evA GL σ p.2) -> flats GL σ' l j = flats GL σ l j := by
   intro l
   induction l with
   | nil => intro j _; rfl
   | cons p l ih =>
    intro j hp
    obtain ⟨i, x⟩ := p
    unfold flats
    rw [hp (i, x) (by simp), ih (j + 1) fun p hp' => hp p (by simp [hp'])]
  have hbl : bldL P GL σ' t n ps.toList = bldL P GL σ t n ps.toList := by
   unfold bldL
   rw [hf _ _ fun p hp => h p.2 (List.mem_map.2 ⟨p, hp, rfl⟩)]
  simp only [hbl]
 case call c =>
  obtain ⟨callee, args, ts⟩ := c
  simp only at h hs ⊢
  have hargs : ∀ x ∈ args.toList, evA GL σ' x = evA GL σ x := fun x hx => h x (by simp [hx])
  have hsites : ∀ x ∈ args.toList, ∀ g, siteOf (evA GL σ x) = some g -> σ' g = σ g := fun x hx => hs x (by simp [hx])
  cases callee with
  | value f =>
   cases f with
   | func g => exact callOf_congr hargs hsites hd
   | tmp t =>
    have e := h (.tmp t) (by simp)
    simp only [e]
    split
    ·exact callOf_congr hargs hsites hd
    ·rfl
   | _ => rfl
  | invoke r m => rfl
  | builtin b =>
   cases b <;> simp only [hb, hg]
   case len =>
    split
    ·rename_i x hx
     rw [hargs x (by rw [hx]; simp)]
    ·rfl
theorem strOp_congr (h : ∀ l, opsOf o.op = some l -> ∀ x ∈ l, evA GL σ' x = evA GL σ x) : strOp P GL σ' o = strOp P GL σ o := by
 unfold strOp
 obtain ⟨dst, op, type, pos, after, guard⟩ := o
 simp only at h ⊢
 cases op <;> try rfl
 case binOp b t x y yt =>
  cases b <;> try rfl
  simp only [h _ rfl x (by simp), h _ rfl y (by simp)]
 case index t x i => simp only [h _ rfl x (by simp), h _ rfl i (by simp)]
 case convert s d x => simp only [h _ rfl x (by simp)]
 case slice t x l hh m =>
  cases m with
  | some _ => rfl
  | none =>
   have h0 := h _ rfl
   simp only [h0 x (by simp), intOf_congr (l := l) fun y hy => h0 y (by simp [hy]), intOf_congr (l := hh) fun y hy => h0 y (by simp [hy])]
theorem evOp_congr (h : ∀ l, opsOf o.op = some l -> ∀ x ∈ l, evA GL σ' x = evA GL σ x) (hs : looks o.op = true -> ∀ l, opsOf o.op = some l -> ∀ x ∈ l, ∀ g, siteOf (evA GL σ x) = some g -> σ' g = σ g)
  (hz : ∀ l, opsOf o.op = some l -> ∀ x ∈ l, ∀ g n, evA GL σ x = .sl g n -> shp (σ' g) = shp (σ g))
  (hd : ∀ d, o.dst = some d -> σ' d = σ d) : evOp P GL Γ N σ' o = evOp P GL Γ N σ o := by
 unfold evOp
 rw [strOp_congr h, evOp0_congr h hs hz hd]
 cases strOp P GL σ o with
 | none => rfl
 | some r => simp only [bindSet2, setD_congr hd]
theorem rep_site {w : World} {Bb : Nat -> Prop} {x : AV} {v : Value} (h : Rep w Bb x v) : siteOf x = none := by cases h <;> rfl
theorem rd_view (h : ∀ t ∈ rdOf ops σ o, σ' t = σ t) : (∀ l, opsOf o.op = some l -> ∀ x ∈ l, evA GL σ' x = evA GL σ x) /\
  (looks o.op = true -> ∀ l, opsOf o.op = some l -> ∀ x ∈ l, ∀ g, siteOf (evA GL σ x) = some g -> (∀ g', siteOf (GL g') = none) -> σ' g = σ g) /\ (∀ d, o.dst = some d -> σ' d = σ d) /\
  (∀ j want, o.guard = some (j, want) -> ∀ t, dstAt ops j = some t -> σ' t = σ t) := by
 have ht : ∀ l, opsOf o.op = some l -> ∀ t, Operand.tmp t ∈ l -> t ∈ touched ops o := fun l hl t hx => by
  unfold touched
  rw [hl]
  simp [mem_tmpsOf hx]
 refine ⟨fun l hl x hx => evA_congr fun t e => ?_, fun hlk l hl x hx g e hgl => ?_, fun d hd => ?_, fun j want hg t hj => ?_⟩
 ·subst e
  exact h t (List.mem_append_left _ (ht l hl t hx))
 ·cases x with
  | tmp t =>
   have htt := ht l hl t hx
   by_cases ho : isSlot (σ t) = true
   ·cases e' : σ t with
    | own ty c =>
     rw [evA_own e'] at e
     have hgt : t = g := by simpa [siteOf] using e
     rw [<- hgt]
     exact h t (List.mem_append_left _ htt)
    | vown ty c => simp only [evA, e', siteOf, reduceCtorEq] at e
    | row lv ty m ks c => simp only [evA, e', siteOf, reduceCtorEq] at e
    | _ => rw [e'] at ho; cases ho
   ·rw [evA_tmp (by simpa using ho)] at e
    exact h g (List.mem_append_right _ (by rw [hlk]; exact mem_sites htt e))
  | const v =>
   have := rep_site (rep_ofVal (w := default) (B := fun _ => True) v)
   simp only [evA] at e
   rw [e] at this
   cases this
  | global g' =>
   have := hgl g'
   simp only [evA] at e
   rw [e] at this
   cases this
  | func f => cases e
 ·exact h d (List.mem_append_left _ (by unfold touched; rw [hd]; simp))
 ·exact h t (List.mem_append_left _ (by unfold touched; rw [hg]; simp only [hj]; simp))
theorem evG_congr (hGL : ∀ g', siteOf (GL g') = none) (h : ∀ t ∈ rdOf ops σ o, σ' t = σ t) (hz : ∀ t g n, σ' t = .sl g n -> shp (σ' g) = shp (σ g)) : evG P GL Γ N ops σ' o = evG P GL Γ N ops σ o := by
 obtain ⟨h1, h2, h3, h4⟩ := rd_view (GL := GL) h
 have he : evOp P GL Γ N σ' o = evOp P GL Γ N σ o := evOp_congr h1 (fun hlk l hl x hx g e => h2 hlk l hl x hx g e hGL) (fun l hl x hx g n e => by
  rw [<- h1 l hl x hx] at e
  cases x with
  | tmp t =>
   refine hz t g n ?_
   cases e' : σ' t with
   | own ty c => rw [evA_own e'] at e; cases e
   | vown ty c => simp only [evA, e', reduceCtorEq] at e
   | row lv ty m ks c => simp only [evA, e', reduceCtorEq] at e
   | _ => simp only [evA, e'] at e; exact e
  | const v =>
   have := rep_site (rep_ofVal (w := default) (B := fun _ => True) v)
   simp only [evA] at e
   rw [e] at this
   cases this
  | global g' =>
   have := hGL g'
   simp only [evA] at e
   rw [e] at this
   cases this
  | func f => cases e) h3
 unfold evG
 split
 ·exact he
 ·rename_i j want hg
  split
  ·rename_i t ht
   rw [h4 j want hg t ht, he, setD_congr h3]
  ·rfl
theorem setD_lt {x : AV} {u : List (Nat × AV)} (h : setD N σ o x = some u) : ∀ p ∈ u, p.1 < N := by
 unfold setD at h
 split at h
 ·cases h; simp
 ·split at h
  ·rename_i hlt
   cases h
   intro p hp
   simp at hp
   subst hp
   exact Nat.le_of_ble_eq_true hlt
  ·cases h
theorem bindSet2_lt {c' : Bool} {r : Option (Bool × AV)} {u : List (Nat × AV)} (h : bindSet2 N σ o r = some (c', u)) : ∀ p ∈ u, p.1 < N := by
 unfold bindSet2 at h
 split at h
 ·unfold ret at h
  split at h
  ·rename_i u' hu
   cases h
   exact setD_lt hu
  ·cases h
 ·cases h
theorem bindSet_lt {c c' : Bool} {x : Option AV} {u : List (Nat × AV)} (h : bindSet N σ o c x = some (c', u)) : ∀ p ∈ u, p.1 < N := by
 unfold bindSet at h
 split at h
 ·unfold ret at h
  split at h
  ·rename_i u' hu
   cases h
   exact setD_lt hu
  ·cases h
 ·cases h
theorem outU_own : ∀ {xs os : List AV} {ou : List (Nat × AV)}, (∀ x ∈ xs, ∀ g k, x = .ref g k -> isOwn (σ g) = true) -> outU σ xs os = some ou -> ∀ p ∈ ou, isOwn (σ p.1) = true
 | [], os, ou, _, h => by cases h; simp
 | x :: xs, os, ou, hx, h => by
  have ih := fun os' ou' => outU_own (xs := xs) (os := os') (ou := ou') fun y hy => hx y (by simp [hy])
  unfold outU at h
  split at h
  ·rename_i heq; cases heq
  ·rename_i g k as c os' heq
   cases heq
   split at h
   ·rename_i u hu
    cases h
    intro p hp
    rcases List.mem_cons.1 hp with rfl | hp
    ·exact hx _ (by simp) g k rfl
    ·exact ih _ _ hu p hp
   ·cases h
  ·cases h
  ·rename_i heq
   cases heq
   exact ih _ _ h
  ·rename_i heq
   cases heq
   exact ih _ _ h
theorem argsV_own : ∀ {xs as : List AV}, argsV σ xs = some as -> ∀ x ∈ xs, ∀ g k, x = .ref g k -> isOwn (σ g) = true
 | [], as, _, x, hx => by cases hx
 | y :: xs, as, h, x, hx => by
  unfold argsV at h
  split at h
  ·rename_i z hz
   split at h
   ·rename_i zs hzs
    rcases List.mem_cons.1 hx with rfl | hx
    ·rintro g k rfl
     rcases argV_spec hz with ⟨g', ty, c, e1, e2, e3, e4⟩ | ⟨g', n, lv, ty, m, ks, c, e1, _⟩ | ⟨e1, _⟩
     ·cases e1; exact isBox_own (tyC_own e4)
     ·cases e1
     ·cases e1
    ·exact argsV_own hzs x hx
   ·cases h
  ·cases h
theorem evOp0_lt {M : Nat} {u : List (Nat × AV)} (hM : N <= M) (hN : ∀ t, M <= t -> σ t = .non) {c : Bool} (h : evOp0 P GL Γ N σ o = some (c, u)) : ∀ p ∈ u, p.1 < M := by
 have hslot : ∀ t, isSlot (σ t) = true -> t < M := fun t ht => by
  rcases Nat.lt_or_ge t M with h' | h'
  ·exact h'
  ·rw [hN t h'] at ht; cases ht
 have hown : ∀ t, isOwn (σ t) = true -> t < M := fun t ht => hslot t (isOwn_slot ht)
 have hcall : ∀ g args, callOf GL Γ N σ o g args = some (c, u) -> ∀ p ∈ u, p.1 < M := by
  intro g args h
  unfold callOf at h
  split at h
  ·split at h
   ·rename_i as has hnd
    split at h
    ·split at h
     ·split at h
      ·rename_i ou u0 hou hu
       cases h
       intro p hp
       rcases List.mem_append.1 hp with hp | hp
       ·exact Nat.lt_of_lt_of_le (setD_lt hu p hp) hM
       ·exact hown _ (outU_own (argsV_own has) hou p hp)
      ·cases h
     ·cases h
    ·cases h
   ·cases h
  ·cases h
 unfold evOp0 at h
 repeat' (first | exact fun p hp => Nat.lt_of_lt_of_le (bindSet_lt h p hp) hM | exact fun p hp => Nat.lt_of_lt_of_le (bindSet2_lt h p hp) hM | exact hcall _ _ h | (cases h; done) | split at h)
 all_goals
  rename_i hb _ _ _ _ _ _ _
  cases h
  intro p hp
  simp only [List.mem_singleton] at hp
  subst hp
  refine hslot _ ?_
  cases e : σ _ <;> simp_all [boxC, isSlot]
theorem evOp_lt {M : Nat} {u : List (Nat × AV)} (hM : N <= M) (hN : ∀ t, M <= t -> σ t = .non) {c : Bool} (h : evOp P GL Γ N σ o = some (c, u)) : ∀ p ∈ u, p.1 < M := by
 unfold evOp at h
 split at h
 ·exact fun p hp => Nat.lt_of_lt_of_le (bindSet2_lt h p hp) hM
 ·exact evOp0_lt hM hN h
theorem shp_reBox {x : AV} {c : List AV} : shp (reBox x c) = shp x := by cases x <;> rfl
theorem outU_shp : ∀ {xs os : List AV} {ou : List (Nat × AV)}, outU σ xs os = some ou -> ∀ p ∈ ou, shp p.2 = shp (σ p.1)
 | [], os, ou, h => by cases h; simp
 | x :: xs, os, ou, h => by
  have ih := fun os' ou' => outU_shp (xs := xs) (os := os') (ou := ou')
  unfold outU at h
  split at h
  ·rename_i heq; cases heq
  ·rename_i g k as c os' heq
   cases heq
   split at h
   ·rename_i u hu
    cases h
    intro p hp
    rcases List.mem_cons.1 hp with rfl | hp
    ·exact shp_reBox
    ·exact ih _ _ hu p hp
   ·cases h
  ·cases h
  ·rename_i heq
   cases heq
   exact ih _ _ h
  ·rename_i heq
   cases heq
   exact ih _ _ h
theorem evOp0_shp {u : List (Nat × AV)} {c : Bool} (h : evOp0 P GL Γ N σ o = some (c, u)) : ∀ p ∈ u, N <= p.1 -> shp p.2 = shp (σ p.1) := by
 have hcall : ∀ g args, callOf GL Γ N σ o g args = some (c, u) -> ∀ p ∈ u, N <= p.1 -> shp p.2 = shp (σ p.1) := by
  intro g args h
  unfold callOf at h
  split at h
  ·split at h
   ·rename_i as has hnd
    split at h
    ·split at h
     ·split at h
      ·rename_i ou u0 hou hu
       cases h
       intro p hp hn
       rcases List.mem_append.1 hp with hp | hp
       ·exact absurd (setD_lt hu p hp) (Nat.not_lt_of_le hn)
       ·exact outU_shp hou p hp
      ·cases h
     ·cases h
    ·cases h
   ·cases h
  ·cases h
 unfold evOp0 at h
 repeat' (first | exact fun p hp hn => absurd (bindSet_lt h p hp) (Nat.not_lt_of_le hn) | exact fun p hp hn => absurd (bindSet2_lt h p hp) (Nat.not_lt_of_le hn) | exact hcall _ _ h | (cases h; done) | split at h)
 all_goals
  cases h
  intro p hp _
  simp only [List.mem_singleton] at hp
  subst hp
  first
  | exact shp_reBox
  | (simp only; simp_all [shp])
theorem evOp_shp {u : List (Nat × AV)} {c : Bool} (h : evOp P GL Γ N σ o = some (c, u)) : ∀ p ∈ u, N <= p.1 -> shp p.2 = shp (σ p.1) := by
 unfold evOp at h
 split at h
 ·exact fun p hp hn => absurd (bindSet2_lt h p hp) (Nat.not_lt_of_le hn)
 ·exact evOp0_shp h
theorem evG_shp {u : List (Nat × AV)} {c : Bool} (h : evG P GL Γ N ops σ o = some (c, u)) : ∀ p ∈ u, N <= p.1 -> shp p.2 = shp (σ p.1) := by
 have hret : ∀ c' x, ret c' (setD N σ o x) = some (c, u) -> ∀ p ∈ u, N <= p.1 -> shp p.2 = shp (σ p.1) := fun c' x h p hp hn => by
  unfold ret at h
  split at h
  ·rename_i u' hu
   cases h
   exact absurd (setD_lt hu p hp) (Nat.not_lt_of_le hn)
  ·cases h
 unfold evG at h
 split at h
 ·exact evOp_shp h
 ·split at h
  ·split at h
   ·split at h
    ·exact evOp_shp h
    ·exact hret _ _ h
   ·exact hret _ _ h
   ·cases h
  ·cases h
end
end Go.Ev
/- Regions: in the text's order, and in whatever order. -/
namespace Go.Ev
open Go.RowKit
def got (U : Nat -> List (Nat × AV)) (σ : Nat -> AV) (L : Nat -> Bool) : Nat -> Nat -> AV
 | 0, t => σ t
 | m + 1, t => if L m = true then (look (U m) t).getD (got U σ L m t) else got U σ L m t
theorem got_succ {U : Nat -> List (Nat × AV)} {σ : Nat -> AV} {L : Nat -> Bool} {m : Nat} (h : L m = true) : got U σ L (m + 1) = upd (got U σ L m) (U m) := by
 funext t
 simp [got, h, upd]
theorem look_none {t : Nat} : ∀ {u : List (Nat × AV)}, (∀ p ∈ u, p.1 ≠ t) -> look u t = none
 | [], _ => rfl
 | (d, x) :: u, h => by
  have h1 := h (d, x) (by simp)
  have h2 := look_none (u := u) fun p hp => h p (by simp [hp])
  simp only [look, beq_ne h1, h2]
theorem got_read {U : Nat -> List (Nat × AV)} {σ : Nat -> AV} {L : Nat -> Bool} {n i t : Nat} (hi : i < n)
  (h1 : ∀ j, j < i -> (∃ p ∈ U j, p.1 = t) -> L j = true) (h2 : ∀ j, i <= j -> j < n -> L j = true -> ∀ p ∈ U j, p.1 ≠ t) :
  got U σ L n t = got U σ (fun _ => true) i t := by
 have a : ∀ m, m <= i -> got U σ L m t = got U σ (fun _ => true) m t := by
  intro m
  induction m with
  | zero => intro _; rfl
  | succ m ih =>
   intro hm
   have ih := ih (by omega)
   by_cases hL : L m = true
   ·simp [got, hL, ih]
   ·have hn : look (U m) t = none := look_none fun p hp e => hL (h1 m (by omega) ⟨p, hp, e⟩)
    simp [got, hL, ih, hn]
 have b : ∀ m, i <= m -> m <= n -> got U σ L m t = got U σ L i t := by
  intro m
  induction m with
  | zero => intro h _; have : i = 0 := by omega
            subst this; rfl
  | succ m ih =>
   intro h hm
   by_cases hm' : i = m + 1
   ·subst hm'; rfl
   ·have ih := ih (by omega) (by omega)
    by_cases hL : L m = true
    ·have hn : look (U m) t = none := look_none (h2 m (by omega) (by omega) hL)
     simp [got, hL, ih, hn]
    ·simp [got, hL, ih]
 rw [b n (by omega) (Nat.le_refl n), a i (Nat.le_refl i)]
theorem got_write {U : Nat -> List (Nat × AV)} {σ : Nat -> AV} {L : Nat -> Bool} {n i : Nat} (hi : i < n) (hL : L i = false)
  (h2 : ∀ j, i < j -> j < n -> L j = true -> ∀ p ∈ U j, ∀ q ∈ U i, p.1 ≠ q.1) :
  got U σ (fun j => L j || j == i) n = upd (got U σ L n) (U i) := by
 funext t
 have a : ∀ m, m <= i -> got U σ (fun j => L j || j == i) m t = got U σ L m t := by
  intro m
  induction m with
  | zero => intro _; rfl
  | succ m ih =>
   intro hm
   have ih := ih (by omega)
   have hne : (m == i) = false := by simp; omega
   simp [got, ih, hne]
 have b : ∀ m, i < m -> m <= n -> got U σ (fun j => L j || j == i) m t = (look (U i) t).getD (got U σ L m t) := by
  intro m
  induction m with
  | zero => intro h; omega
  | succ m ih =>
   intro h hm
   by_cases hmi : m = i
   ·subst hmi
    simp [got, hL, a m (Nat.le_refl m)]
   ·have ih := ih (by omega) (by omega)
    have hne : (m == i) = false := by simp; omega
    by_cases hLm : L m = true
    ·cases hl : look (U i) t with
     | none => simp [got, hLm, ih, hl]
     | some x =>
      have hq : ∃ q ∈ U i, q.1 = t := by
       cases Classical.em (∃ q ∈ U i, q.1 = t) with
       | inl h => exact h
       | inr h => have := look_none (t := t) (u := U i) (fun p hp e => h ⟨p, hp, e⟩); rw [hl] at this; cases this
      obtain ⟨q, hq, e⟩ := hq
      have hn : look (U m) t = none := look_none fun p hp e' => h2 m (by omega) (by omega) hLm p hp q hq (e'.trans e.symm)
      simp [got, hLm, ih, hl, hn]
    ·simp [got, hLm, ih, hne]
 rw [b n hi (Nat.le_refl n)]
 rfl
theorem look_in {t : Nat} {x : AV} : ∀ {u : List (Nat × AV)}, look u t = some x -> (t, x) ∈ u
 | (d, y) :: u, h => by
  unfold look at h
  split at h
  ·rename_i hd
   cases h
   rw [Nat.eq_of_beq_eq_true hd]
   simp
  ·exact List.mem_cons_of_mem _ (look_in h)
theorem got_shp {U : Nat -> List (Nat × AV)} {σ : Nat -> AV} {N n : Nat} (h : ∀ i, i < n -> ∀ p ∈ U i, N <= p.1 -> shp p.2 = shp (got U σ (fun _ => true) i p.1)) :
  ∀ (L : Nat -> Bool) m, m <= n -> ∀ g, N <= g -> shp (got U σ L m g) = shp (σ g) := by
 have a : ∀ m, m <= n -> ∀ g, N <= g -> shp (got U σ (fun _ => true) m g) = shp (σ g) := by
  intro m
  induction m with
  | zero => intro _ g _; rfl
  | succ m ih =>
   intro hm g hg
   simp only [got, if_true]
   cases hl : look (U m) g with
   | none => exact ih (by omega) g hg
   | some x => exact (h m (by omega) (g, x) (look_in hl) hg).trans (ih (by omega) g hg)
 intro L m
 induction m with
 | zero => intro _ g _; rfl
 | succ m ih =>
  intro hm g hg
  simp only [got]
  split
  ·cases hl : look (U m) g with
   | none => exact ih (by omega) g hg
   | some x => exact (h m (by omega) (g, x) (look_in hl) hg).trans (a m (by omega) g hg)
  ·exact ih (by omega) g hg
section
variable {P : Program} {GL : Nat -> AV} {Γ : List (Nat × Ctr)} {E : Ext} {N : Nat} {B : Nat -> Prop} {w0 w : World} {ρ : Gh} {σ : Nat -> AV} {a : Act} {o : Oper} {ops : Array Oper}
 {K : Act -> World -> Prop} {Q : Exit -> Act -> World -> Prop} {u : List (Nat × AV)}
theorem evG_sound (hΓ : Sound P GL Γ) (hR : Rr E N B w0 ρ σ a w) (hG : GOk w0 B GL) (hB : ∀ b, B b -> b < w0.heap.size /\ ¬ E.X b)
  (h : evG P GL Γ E.n ops σ o = some (true, u)) (hK : ∀ ρ' a' w', Rr E N B w0 ρ' (upd σ u) a' w' -> K a' w') :
  if Region.wanted o (yielded ops a.tmps) = true then o.wp P a w K Q \/ (o.asks P a w /\ LetsOut Q) else K (a.put o.dst undef) w := by
 unfold evG at h
 split at h
 ·rename_i hg
  rw [if_pos (by simp [Region.wanted, hg])]
  exact .inl (evOp_sound hΓ hR hG hB h hK)
 ·rename_i j want hg
  split at h
  ·rename_i t ht
   split at h
   ·rename_i b hb
    have hv := hR.val t (by rw [hb]; rfl)
    rw [hb] at hv
    have hv' : a.tmps[t]? = some (.bool b) := by
     have e : a.eval (.tmp t) = a.tmps.getD t undef := rfl
     rw [e] at hv
     by_cases hs : t < a.tmps.size
     ·generalize hx : a.tmps.getD t undef = x at hv
      cases (show Rep w ρ.F (.val (.bool b)) x from hv)
      simp [Array.getD, hs] at hx
      simp [hs, hx]
     ·have hx : a.tmps.getD t undef = undef := by simp [Array.getD, hs]
      rw [hx] at hv
      exact absurd (show Rep w ρ.F (.val (.bool b)) undef from hv) (fun h => by cases h)
    have hy : yielded ops a.tmps j = some b := by
     unfold dstAt at ht
     unfold yielded
     split at ht
     ·rename_i oj hoj
      simp [hoj, ht, hv']
     ·cases ht
    split at h
    ·rename_i he
     rw [if_pos (by simp [Region.wanted, hg, hy]; simpa using he)]
     exact .inl (evOp_sound hΓ hR hG hB h hK)
    ·rename_i he
     rw [if_neg (by simp [Region.wanted, hg, hy]; simpa using he)]
     unfold ret at h
     split at h
     ·rename_i u' hu
      cases h
      exact hK _ _ _ (hR.put0 hu ⟨rfl, Rep.val _⟩)
     ·cases h
   ·rename_i b hb
    have hv := hR.val t (by rw [hb]; rfl)
    rw [hb] at hv
    have hv' : ∀ c, a.tmps[t]? ≠ some (.bool c) := by
     intro c hc
     have e : a.eval (.tmp t) = a.tmps.getD t undef := rfl
     rw [e] at hv
     have hs : t < a.tmps.size := by
      rcases Nat.lt_or_ge t a.tmps.size with h | h
      ·exact h
      ·rw [Array.getElem?_eq_none h] at hc; cases hc
     have hx : a.tmps.getD t undef = .bool c := by
      simp [hs] at hc
      simp [Array.getD, hs, hc]
     rw [hx] at hv
     exact absurd (show Rep w ρ.F (.val (.tuple b)) (.bool c) from hv) (fun h => by cases h)
    have hy : yielded ops a.tmps j = none := by
     unfold dstAt at ht
     unfold yielded
     split at ht
     ·rename_i oj hoj
      rw [hoj]
      show (match oj.dst.bind (a.tmps[·]?) with | some (.bool b) => some b | _ => none) = none
      rw [ht]
      show (match a.tmps[t]? with | some (.bool b) => some b | _ => none) = none
      split
      ·rename_i c hc
       exact absurd hc (hv' c)
      ·rfl
     ·cases ht
    rw [if_neg (by simp [Region.wanted, hg, hy])]
    unfold ret at h
    split at h
    ·rename_i u' hu
     cases h
     exact hK _ _ _ (hR.put0 hu ⟨rfl, Rep.val _⟩)
    ·cases h
   ·cases h
  ·cases h
theorem evG_op (hΓ : Sound P GL Γ) (hR : Rr E N B w0 ρ σ a w) (hG : GOk w0 B GL) (hB : ∀ b, B b -> b < w0.heap.size /\ ¬ E.X b)
  {i : Nat} (hi : ops[i]? = some o) (h : evG P GL Γ E.n ops σ o = some (true, u)) (hK : ∀ ρ' a' w', Rr E N B w0 ρ' (upd σ u) a' w' -> K a' w') : wpOp P ops Q i K a w := by
 have := evG_sound (Q := Q) hΓ hR hG hB h hK
 unfold wpOp
 simp only [hi]
 exact this
structure Steps' (P : Program) (GL : Nat -> AV) (Γ : List (Nat × Ctr)) (N : Nat) (ops : Array Oper) (σ : Nat -> AV) (U : Nat -> List (Nat × AV)) : Prop where
 step : ∀ i o, ops[i]? = some o -> evG P GL Γ N ops (got U σ (fun _ => true) i) o = some (true, U i)
theorem wp_in_order (hΓ : Sound P GL Γ) (hG : GOk w0 B GL) (hB : ∀ b, B b -> b < w0.heap.size /\ ¬ E.X b) {U : Nat -> List (Nat × AV)}
  (hs : Steps' P GL Γ E.n ops σ U) (hQ : ∀ ρ' a' w', Rr E N B w0 ρ' (got U σ (fun _ => true) ops.size) a' w' -> Q .normal a' w') :
  ∀ (d m : Nat), m + d = ops.size -> ∀ ρ a w, Rr E N B w0 ρ (got U σ (fun _ => true) m) a w -> wpOps P ops Q (List.range' m d) a w
 | 0, m, hm, ρ, a, w, hR => by
  have : m = ops.size := by omega
  subst this
  exact hQ _ _ _ hR
 | d + 1, m, hm, ρ, a, w, hR => by
  rw [List.range'_succ, wpOps_cons]
  have hlt : m < ops.size := by omega
  refine evG_op hΓ hR hG hB (Array.getElem?_eq_getElem hlt) (hs.step m _ (Array.getElem?_eq_getElem hlt)) fun ρ' a' w' hR' => ?_
  exact wp_in_order hΓ hG hB hs hQ d (m + 1) (by omega) ρ' a' w' (by rw [got_succ rfl]; exact hR')
theorem wp_any_order (hGL : ∀ g', siteOf (GL g') = none) (hΓ : Sound P GL Γ) (hG : GOk w0 B GL) (hB : ∀ b, B b -> b < w0.heap.size /\ ¬ E.X b) {U : Nat -> List (Nat × AV)}
  (hs : Steps' P GL Γ E.n ops σ U) (anc : Nat -> Nat -> Prop)
  (hedge : ∀ i o, ops[i]? = some o -> ∀ e ∈ o.after, Region.binds .any e = true -> e.on < i)
  (hanc : ∀ (L : Nat -> Bool), (∀ i o, ops[i]? = some o -> L i = true -> ∀ e ∈ o.after, Region.binds .any e = true -> L e.on = true) -> ∀ j i, j < ops.size -> anc j i -> L j = true -> L i = true)
  (hww : ∀ i j, i < j -> j < ops.size -> (∃ p ∈ U i, ∃ q ∈ U j, p.1 = q.1) -> anc j i)
  (hwr : ∀ i j o, i < j -> ops[j]? = some o -> (∃ p ∈ U i, p.1 ∈ rdOf ops (got U σ (fun _ => true) j) o) -> anc j i)
  (hrw : ∀ i j o, i < j -> j < ops.size -> ops[i]? = some o -> (∃ p ∈ U j, p.1 ∈ rdOf ops (got U σ (fun _ => true) i) o) -> anc j i)
  (hancr : ∀ i, i < ops.size -> ∀ (L : Nat -> Bool), (∀ o, ops[i]? = some o -> ∀ e ∈ o.after, Region.binds .any e = true -> L e.on = true) ->
   (∀ i o, ops[i]? = some o -> L i = true -> ∀ e ∈ o.after, Region.binds .any e = true -> L e.on = true) -> ∀ j, anc i j -> L j = true)
  (hQ : ∀ ρ' a' w', Rr E N B w0 ρ' (got U σ (fun _ => true) ops.size) a' w' -> Q .normal a' w') :
  ∀ (fuel : Nat) (listed : Array Bool) (ρ : Gh) (a : Act) (w : World), listed.size = ops.size -> (listed.toList.countP (· == false)) <= fuel ->
   (∀ i o, ops[i]? = some o -> listed.getD i false = true -> ∀ e ∈ o.after, Region.binds .any e = true -> listed.getD e.on false = true) ->
   Rr E N B w0 ρ (got U σ (fun i => listed.getD i false) ops.size) a w -> wpAny P .any ops Q fuel listed a w := by
 -- when none is ready, all are listed
 have hall : ∀ (listed : Array Bool), listed.size = ops.size -> Region.ready .any ops listed = [] -> ∀ i, i < ops.size -> listed.getD i false = true := by
  intro listed hsz hr i
  induction i using Nat.strongRecOn with
  | _ i ih =>
   intro hi
   cases hli : listed.getD i false with
   | true => rfl
   | false =>
    exfalso
    have hm : i ∈ Region.ready .any ops listed := by
     rw [mem_ready]
     refine ⟨?_, ops[i], Array.getElem?_eq_getElem hi, fun e he hb => ih e.on (hedge i _ (Array.getElem?_eq_getElem hi) e he hb) ?_⟩
     ·have hil : i < listed.size := by omega
      simp [hil] at hli ⊢
      exact hli
     ·have := hedge i _ (Array.getElem?_eq_getElem hi) e he hb
      omega
    rw [hr] at hm
    cases hm
 have hdone : ∀ (listed : Array Bool) ρ a w, listed.size = ops.size -> Region.ready .any ops listed = [] -> Rr E N B w0 ρ (got U σ (fun i => listed.getD i false) ops.size) a w -> Q .normal a w := by
  intro listed ρ a w hsz hr hR
  have h := hall listed hsz hr
  have e : ∀ m, m <= ops.size -> got U σ (fun i => listed.getD i false) m = got U σ (fun _ => true) m := by
   intro m
   induction m with
   | zero => intro _; rfl
   | succ m ih =>
    intro hm
    rw [got_succ (h m (by omega)), got_succ rfl, ih (by omega)]
  rw [e _ (Nat.le_refl _)] at hR
  exact hQ _ _ _ hR
 intro fuel
 induction fuel with
 | zero =>
  intro listed ρ a w hsz hc hcl hR
  have hr : Region.ready .any ops listed = [] := by
   cases hr : Region.ready .any ops listed with
   | nil => rfl
   | cons i l =>
    exfalso
    have hm : i ∈ Region.ready .any ops listed := by rw [hr]; simp
    rw [mem_ready] at hm
    obtain ⟨h0, o, ho, _⟩ := hm
    have hi : i < listed.size := by rw [hsz]; exact (Array.getElem?_eq_some_iff.1 ho).1
    have : listed.toList.countP (· == false) = 0 := by omega
    rw [List.countP_eq_zero] at this
    have := this listed[i] (by simp)
    simp [hi] at h0
    simp [h0] at this
  exact ⟨hr, hdone listed ρ a w hsz hr hR⟩
 | succ fuel ih =>
  intro listed ρ a w hsz hc hcl hR
  refine ⟨fun hr => hdone listed ρ a w hsz hr hR, fun i hi => ?_⟩
  rw [mem_ready] at hi
  obtain ⟨h0, o, ho, hre⟩ := hi
  have hin : i < ops.size := (Array.getElem?_eq_some_iff.1 ho).1
  have hil : i < listed.size := by omega
  have hLi : listed.getD i false = false := by simp [hil] at h0 ⊢; exact h0
  have hancI : ∀ j, anc i j -> listed.getD j false = true := hancr i hin (fun i => listed.getD i false) (fun o' ho' e he hb => by rw [ho] at ho'; cases ho'; exact hre e he hb) hcl
  have hlater : ∀ j, j < ops.size -> listed.getD j false = true -> anc j i -> False := fun j hj hL ha => by
   have := hanc (fun i => listed.getD i false) hcl j i hj ha hL
   rw [hLi] at this
   cases this
  have hrd : ∀ t ∈ rdOf ops (got U σ (fun _ => true) i) o, got U σ (fun i => listed.getD i false) ops.size t = got U σ (fun _ => true) i t := fun t ht =>
   got_read hin (fun j hj ⟨p, hp, e⟩ => hancI j (hwr j i o hj ho ⟨p, hp, e ▸ ht⟩)) (fun j hij hj hL p hp e => by
    rcases Nat.lt_or_ge i j with h | h
    ·exact hlater j hj hL (hrw i j o h hj ho ⟨p, hp, e ▸ ht⟩)
    ·have : j = i := by omega
     subst this
     rw [hLi] at hL
     cases hL)
  have hev : evG P GL Γ E.n ops (got U σ (fun i => listed.getD i false) ops.size) o = some (true, U i) := by
   have hU : ∀ i, i < ops.size -> ∀ p ∈ U i, E.n <= p.1 -> shp p.2 = shp (got U σ (fun _ => true) i p.1) := fun i hi => evG_shp (hs.step i _ (Array.getElem?_eq_getElem hi))
   rw [evG_congr hGL hrd fun t g n e => by
    have hv := hR.val t (by rw [e]; rfl)
    rw [e] at hv
    obtain ⟨lv, ty, m, ks, c, h1, _⟩ := hv
    have hg := (hR.row g lv ty m ks c h1).1
    rw [got_shp hU _ _ (Nat.le_refl _) g hg, got_shp hU _ _ (Nat.le_of_lt hin) g hg]]
   exact hs.step i o ho
  refine evG_op hΓ hR hG hB ho hev fun ρ' a' w' hR' => ?_
  have hset : ∀ j, (listed.setIfInBounds i true).getD j false = (listed.getD j false || j == i) := fun j => by
   by_cases h : j = i
   ·subst h; simp [hil]
   ·have hne : (j == i) = false := by simpa using h
    rw [hne, Bool.or_false, getD_set_ne false (Ne.symm h)]
  refine ih (listed.setIfInBounds i true) ρ' a' w' (by simp [hsz]) ?_ ?_ ?_
  ·have : (listed.setIfInBounds i true).toList.countP (· == false) + 1 = listed.toList.countP (· == false) := by
    rw [Array.toList_setIfInBounds]
    have e1 : listed.toList = listed.toList.take i ++ listed.toList[i]'(by simpa using hil) :: listed.toList.drop (i + 1) := by
     rw [List.getElem_cons_drop, List.take_append_drop]
    have e2 : listed.toList.set i true = listed.toList.take i ++ true :: listed.toList.drop (i + 1) := List.set_eq_take_append_cons_drop .. |>.trans (if_pos (by simpa using hil))
    have e3 : listed.toList[i]'(by simpa using hil) = false := by
     simp [hil] at hLi
     simpa using hLi
    rw [e2]
    conv => rhs; rw [e1]
    rw [List.countP_append, List.countP_append, List.countP_cons_of_neg (by simp), List.countP_cons_of_pos (by simp [e3])]
    omega
   omega
  ·intro j oj hoj hLj e he hb
   rw [hset] at hLj ⊢
   rw [Bool.or_eq_true] at hLj
   rcases hLj with h | h
   ·rw [hcl j oj hoj h e he hb]; rfl
   ·have : j = i := by simpa using h
    subst this
    rw [ho] at hoj
    cases hoj
    rw [hre e he hb]; rfl
  ·have : (fun j => (listed.setIfInBounds i true).getD j false) = (fun j => listed.getD j false || j == i) := funext hset
   rw [this, got_write hin hLi fun j hij hj hL p hp q hq e => hlater j hj hL (hww i j hij hj ⟨q, hq, p, hp, e.symm⟩)]
   exact hR'
end
end Go.Ev
/- The evaluator of regions on lists, and its soundness. -/
namespace Go.Ev
open Go.RowKit
def at' (s : List AV) (t : Nat) : AV := s.getD t .non
def setAll : List AV -> List (Nat × AV) -> List AV
 | s, [] => s
 | s, (d, x) :: u => (setAll s u).set d x
theorem at_setAll {s : List AV} : ∀ {u : List (Nat × AV)}, (∀ p ∈ u, p.1 < s.length) -> (setAll s u).length = s.length /\ at' (setAll s u) = upd (at' s) u
 | [], _ => ⟨rfl, rfl⟩
 | (d, x) :: u, h => by
  obtain ⟨h1, h2⟩ := at_setAll (s := s) (u := u) fun p hp => h p (by simp [hp])
  have hd : d < s.length := h (d, x) (by simp)
  refine ⟨by simp [setAll, h1], ?_⟩
  funext t
  simp only [setAll, at', List.getD]
  by_cases ht : d = t
  ·subst ht
   rw [List.getElem?_set_self (by omega)]
   simp [upd, look]
  ·rw [List.getElem?_set_ne ht]
   have := congrFun h2 t
   simp only [at', List.getD] at this
   rw [this]
   simp only [upd, look, beq_ne ht]
def bitsOf : List Nat -> Nat
 | [] => 0
 | t :: l => Nat.lor (2 ^ t) (bitsOf l)
theorem bitsOf_spec {t : Nat} : ∀ {l : List Nat}, t ∈ l -> (bitsOf l).testBit t = true
 | x :: l, h => by
  show (2 ^ x ||| bitsOf l).testBit t = true
  rw [Nat.testBit_or]
  rcases List.mem_cons.1 h with rfl | h
  ·simp [Nat.testBit_two_pow_self]
  ·simp [bitsOf_spec h]
theorem bits_disjoint {l m : List Nat} (h : Nat.land (bitsOf l) (bitsOf m) = 0) {t : Nat} (h1 : t ∈ l) (h2 : t ∈ m) : False := by
 have : (bitsOf l &&& bitsOf m).testBit t = true := by rw [Nat.testBit_and, bitsOf_spec h1, bitsOf_spec h2]; rfl
 rw [show bitsOf l &&& bitsOf m = 0 from h] at this
 simp at this
abbrev Foot := Nat × Nat
section
variable (P : Program) (GL : Nat -> AV) (Γ : List (Nat × Ctr)) (n : Nat) (ops : Array Oper)
def runOps : List Oper -> List AV -> Option (List AV × List Foot)
 | [], s => some (s, [])
 | o :: l, s => match evG P GL Γ n ops (at' s) o with
  | some (true, u) => match runOps l (setAll s u) with
   | some (s', tr) => some (s', (bitsOf (rdOf ops (at' s) o), bitsOf (u.map (·.1))) :: tr)
   | none => none
  | _ => none
def foot (d : Bool) (s : List AV) (o : Oper) (u : List (Nat × AV)) (tr : List Foot) : List Foot := match d with
 | true => (bitsOf (rdOf ops (at' s) o), bitsOf (u.map (·.1))) :: tr
 | false => tr
def afterOp (d : Bool) (s : List AV) (o : Oper) (tr : List Foot) (K : List AV -> List Foot -> Option AV) : Option (Bool × List (Nat × AV)) -> Option AV
 | some (c, u) => cond c (K (setAll s u) (foot ops d s o u tr)) none
 | none => none
def cpsOps (d : Bool) : List Oper -> List AV -> List Foot -> (List AV -> List Foot -> Option AV) -> Option AV
 | [], s, tr, K => K s tr
 | o :: l, s, tr, K => match o.guard with
  | none => afterOp ops d s o tr (fun s' tr' => cpsOps d l s' tr' K) (evOp P GL Γ n (at' s) o)
  | some (j, want) => match dstAt ops j with
   | some t => match at' s t with
    | .val (.bool b) => cond b
     (match want with
      | true => afterOp ops d (s.set t (.val (.bool true))) o tr (fun s' tr' => cpsOps d l s' tr' K) (evOp P GL Γ n (at' (s.set t (.val (.bool true)))) o)
      | false => afterOp ops d (s.set t (.val (.bool true))) o tr (fun s' tr' => cpsOps d l s' tr' K) (ret true (setD n (at' (s.set t (.val (.bool true)))) o (.val undef))))
     (match want with
      | false => afterOp ops d (s.set t (.val (.bool false))) o tr (fun s' tr' => cpsOps d l s' tr' K) (evOp P GL Γ n (at' (s.set t (.val (.bool false)))) o)
      | true => afterOp ops d (s.set t (.val (.bool false))) o tr (fun s' tr' => cpsOps d l s' tr' K) (ret true (setD n (at' (s.set t (.val (.bool false)))) o (.val undef))))
    | .val (.tuple _) => afterOp ops d s o tr (fun s' tr' => cpsOps d l s' tr' K) (ret true (setD n (at' s) o (.val undef)))
    | _ => none
   | none => none
end
section
variable {P : Program} {GL : Nat -> AV} {Γ : List (Nat × Ctr)} {n : Nat} {ops : Array Oper}
theorem at_out {s : List AV} {t : Nat} (h : s.length <= t) : at' s t = .non := by simp [at', List.getD, List.getElem?_eq_none h]
theorem set_self {s : List AV} {t : Nat} {x : AV} (h : at' s t = x) : s.set t x = s := by
 apply List.ext_getElem?
 intro i
 by_cases hi : t = i
 ·subst hi
  by_cases hl : t < s.length
  ·rw [List.getElem?_set_self hl]
   simp [at', List.getD, hl] at h
   simp [hl, h]
  ·rw [List.getElem?_eq_none (by simp; omega), List.getElem?_eq_none (by omega)]
 ·rw [List.getElem?_set_ne hi]
theorem evG_lt {N M : Nat} {σ : Nat -> AV} {o : Oper} {u : List (Nat × AV)} {c : Bool} (hM : N <= M) (hN : ∀ t, M <= t -> σ t = .non) (h : evG P GL Γ N ops σ o = some (c, u)) : ∀ p ∈ u, p.1 < M := by
 have hs : ∀ {x : AV} {u : List (Nat × AV)}, setD N σ o x = some u -> ∀ p ∈ u, p.1 < M := fun h p hp => Nat.lt_of_lt_of_le (setD_lt h p hp) hM
 unfold evG at h
 split at h
 ·exact evOp_lt hM hN h
 ·split at h
  ·split at h
   ·split at h
    ·exact evOp_lt hM hN h
    ·unfold ret at h
     split at h
     ·rename_i hu
      cases h
      exact hs hu
     ·cases h
   ·unfold ret at h
    split at h
    ·rename_i hu
     cases h
     exact hs hu
    ·cases h
   ·cases h
  ·cases h
def joinTr : Bool -> List Foot -> List Foot -> List Foot
 | true, tr', tr => tr'.reverse ++ tr
 | false, _, tr => tr
theorem cpsOps_run {d : Bool} {x : AV} : ∀ (l : List Oper) (s : List AV) (tr : List Foot) (K : List AV -> List Foot -> Option AV), cpsOps P GL Γ n ops d l s tr K = some x ->
  ∃ s' tr', runOps P GL Γ n ops l s = some (s', tr') /\ K s' (joinTr d tr' tr) = some x
 | [], s, tr, K, h => ⟨s, [], rfl, by cases d <;> exact h⟩
 | o :: l, s, tr, K, h => by
  have key : ∀ r, evG P GL Γ n ops (at' s) o = r -> afterOp ops d s o tr (fun s' tr' => cpsOps P GL Γ n ops d l s' tr' K) r = some x ->
    ∃ s' tr', runOps P GL Γ n ops (o :: l) s = some (s', tr') /\ K s' (joinTr d tr' tr) = some x := by
   intro r hr h
   unfold afterOp at h
   split at h
   ·rename_i c u
    cases c with
    | false => cases h
    | true =>
     obtain ⟨s', tr', h1, h2⟩ := cpsOps_run l _ _ K h
     refine ⟨s', (bitsOf (rdOf ops (at' s) o), bitsOf (u.map (·.1))) :: tr', by simp only [runOps, hr, h1], ?_⟩
     cases d with
     | false => exact h2
     | true => simpa [foot, joinTr] using h2
   ·cases h
  unfold cpsOps at h
  split at h
  ·rename_i hg
   exact key _ (by simp [evG, hg]) h
  ·rename_i j want hg
   split at h
   ·rename_i t ht
    split at h
    ·rename_i b hb
     have hs := set_self hb
     cases b with
     | true =>
      simp only [cond_true, hs] at h
      cases want with
      | true => exact key _ (by simp [evG, hg, ht, hb]) h
      | false => exact key _ (by simp [evG, hg, ht, hb]) h
     | false =>
      simp only [cond_false, hs] at h
      cases want with
      | true => exact key _ (by simp [evG, hg, ht, hb]) h
      | false => exact key _ (by simp [evG, hg, ht, hb]) h
    ·rename_i b hb
     exact key _ (by simp [evG, hg, ht, hb]) h
    ·cases h
   ·cases h
theorem got_cons {U : List (List (Nat × AV))} {u : List (Nat × AV)} {σ : Nat -> AV} : ∀ i, got (fun j => (u :: U).getD j []) σ (fun _ => true) (i + 1) = got (fun j => U.getD j []) (upd σ u) (fun _ => true) i
 | 0 => by
  rw [got_succ rfl]
  rfl
 | i + 1 => by
  rw [got_succ rfl, got_cons i, got_succ rfl]
  rfl
theorem runOps_steps : ∀ (l : List Oper) (s s' : List AV) (tr : List Foot), n <= s.length -> runOps P GL Γ n ops l s = some (s', tr) ->
  ∃ us : List (List (Nat × AV)), s'.length = s.length /\ tr.length = l.length /\ at' s' = got (fun j => us.getD j []) (at' s) (fun _ => true) l.length /\
   ∀ i o, l[i]? = some o -> evG P GL Γ n ops (got (fun j => us.getD j []) (at' s) (fun _ => true) i) o = some (true, us.getD i []) /\
    tr[i]? = some (bitsOf (rdOf ops (got (fun j => us.getD j []) (at' s) (fun _ => true) i) o), bitsOf ((us.getD i []).map (·.1)))
 | [], s, s', tr, _, h => by
  simp only [runOps, Option.some.injEq, Prod.mk.injEq] at h
  obtain ⟨rfl, rfl⟩ := h
  exact ⟨[], rfl, rfl, rfl, fun i o h => by simp at h⟩
 | o :: l, s, s', tr, hn, h => by
  unfold runOps at h
  split at h
  ·rename_i u hu
   split at h
   ·rename_i s1 tr1 h1
    cases h
    obtain ⟨hl, ha⟩ := at_setAll (s := s) (u := u) (evG_lt hn (fun t ht => at_out ht) hu)
    obtain ⟨us, e1, e2, e3, e4⟩ := runOps_steps l _ _ _ (by rw [hl]; exact hn) h1
    refine ⟨u :: us, e1.trans hl, by simp [e2], ?_, fun i o' hi => ?_⟩
    ·rw [List.length_cons, got_cons, <- ha]; exact e3
    ·cases i with
     | zero =>
      simp only [List.getElem?_cons_zero, Option.some.injEq] at hi
      subst hi
      exact ⟨hu, rfl⟩
     | succ i =>
      simp only [List.getElem?_cons_succ] at hi ⊢
      obtain ⟨f1, f2⟩ := e4 i o' hi
      rw [got_cons, <- ha]
      exact ⟨f1, f2⟩
   ·cases h
  ·cases h
def direct (m : List Nat) : List Edge -> Nat
 | [] => 0
 | e :: es => match Region.binds .any e with
  | true => Nat.lor (Nat.lor (2 ^ e.on) (m.getD e.on 0)) (direct m es)
  | false => direct m es
def masks (m : List Nat) : List Oper -> List Nat
 | [] => m
 | o :: l => masks (m ++ [direct m o.after.toList]) l
def edgesOk (i : Nat) : List Oper -> Bool
 | [] => true
 | o :: l => match o.after.toList.all fun e => !Region.binds .any e || Nat.blt e.on i with
  | true => edgesOk (i + 1) l
  | false => false
def okBehind (i r w : Nat) : List Foot -> List Nat -> Bool
 | (r', w') :: tr, m :: ms => match Nat.beq (Nat.land w (Nat.lor r' w')) 0 && Nat.beq (Nat.land w' r) 0 || Nat.testBit m i with
  | true => okBehind i r w tr ms
  | false => false
 | _, _ => true
def okPairs (i : Nat) : List Foot -> List Nat -> Bool
 | (r, w) :: tr, _ :: ms => match okBehind i r w tr ms with
  | true => okPairs (i + 1) tr ms
  | false => false
 | _, _ => true
def okOrder (ops : Array Oper) (tr : List Foot) : Bool := edgesOk 0 ops.toList && okPairs 0 tr (masks [] ops.toList)
theorem edgesOk_spec : ∀ (l : List Oper) (i : Nat), edgesOk i l = true -> ∀ j o, l[j]? = some o -> ∀ e ∈ o.after, Region.binds .any e = true -> e.on < i + j
 | [], _, _, j, o, h => by simp at h
 | x :: l, i, h, j, o, hj => by
  unfold edgesOk at h
  split at h
  ·rename_i hx
   cases j with
   | zero =>
    simp only [List.getElem?_cons_zero, Option.some.injEq] at hj
    subst hj
    intro e he hb
    have := List.all_eq_true.1 hx e (by simpa using he)
    simp only [hb, Bool.not_true, Bool.false_or] at this
    exact Nat.le_of_ble_eq_true this
   | succ j =>
    simp only [List.getElem?_cons_succ] at hj
    intro e he hb
    have := edgesOk_spec l (i + 1) h j o hj e he hb
    omega
  ·cases h
theorem okBehind_spec {i r w : Nat} : ∀ (tr : List Foot) (ms : List Nat), okBehind i r w tr ms = true -> ∀ (j r' w' m : Nat), tr[j]? = some (r', w') -> ms[j]? = some m ->
  (Nat.land w (Nat.lor r' w') = 0 /\ Nat.land w' r = 0) \/ Nat.testBit m i = true
 | [], _, _, j, _, _, _, h, _ => by simp at h
 | _ :: _, [], _, j, _, _, _, _, h => by simp at h
 | (r1, w1) :: tr, m1 :: ms, h, j, r', w', m, h1, h2 => by
  unfold okBehind at h
  split at h
  ·rename_i hx
   cases j with
   | zero =>
    simp only [List.getElem?_cons_zero, Option.some.injEq] at h1 h2
    cases h1
    subst h2
    rw [Bool.or_eq_true, Bool.and_eq_true] at hx
    exact hx.imp (fun ⟨a, b⟩ => ⟨Nat.eq_of_beq_eq_true a, Nat.eq_of_beq_eq_true b⟩) id
   | succ j => exact okBehind_spec tr ms h j r' w' m (by simpa using h1) (by simpa using h2)
  ·cases h
theorem okPairs_spec : ∀ (tr : List Foot) (ms : List Nat) (k : Nat), okPairs k tr ms = true -> ∀ (i j r w r' w' m : Nat), i < j -> tr[i]? = some (r, w) -> tr[j]? = some (r', w') -> ms[j]? = some m ->
  (Nat.land w (Nat.lor r' w') = 0 /\ Nat.land w' r = 0) \/ Nat.testBit m (k + i) = true
 | [], _, _, _, i, j, _, _, _, _, _, _, h, _, _ => by simp at h
 | _ :: _, [], _, _, i, j, _, _, _, _, _, _, _, _, h => by simp at h
 | (r1, w1) :: tr, m1 :: ms, k, h, i, j, r, w, r', w', m, hij, h1, h2, h3 => by
  unfold okPairs at h
  split at h
  ·rename_i hx
   cases j with
   | zero => omega
   | succ j =>
    cases i with
    | zero =>
     simp only [List.getElem?_cons_zero, Option.some.injEq] at h1
     cases h1
     exact okBehind_spec tr ms hx j r' w' m (by simpa using h2) (by simpa using h3)
    | succ i =>
     have := okPairs_spec tr ms (k + 1) h i j r w r' w' m (by omega) (by simpa using h1) (by simpa using h2) (by simpa using h3)
     rw [show k + (i + 1) = k + 1 + i by omega]
     exact this
  ·cases h
def MaskOk (ops : Array Oper) (j m : Nat) : Prop := ∀ i, Nat.testBit m i = true -> ∀ (L : Nat -> Bool),
 (∀ i o, ops[i]? = some o -> L i = true -> ∀ e ∈ o.after, Region.binds .any e = true -> L e.on = true) ->
 (∀ o, ops[j]? = some o -> ∀ e ∈ o.after, Region.binds .any e = true -> L e.on = true) -> L i = true
theorem direct_spec {ops : Array Oper} {m : List Nat} (hm : ∀ j, j < m.length -> MaskOk ops j (m.getD j 0)) (L : Nat -> Bool)
  (hL : ∀ i o, ops[i]? = some o -> L i = true -> ∀ e ∈ o.after, Region.binds .any e = true -> L e.on = true) :
  ∀ (es : List Edge), (∀ e ∈ es, Region.binds .any e = true -> L e.on = true) -> ∀ i, Nat.testBit (direct m es) i = true -> L i = true
 | [], _, i, h => by simp [direct] at h
 | e :: es, he, i, h => by
  have ih := direct_spec hm L hL es (fun e h => he e (by simp [h])) i
  unfold direct at h
  split at h
  ·rename_i hb
   have hon := he e (by simp) hb
   change ((2 ^ e.on ||| m.getD e.on 0) ||| direct m es).testBit i = true at h
   rw [Nat.testBit_or, Nat.testBit_or, Bool.or_eq_true, Bool.or_eq_true] at h
   rcases h with (h | h) | h
   ·have : i = e.on := by
     rw [Nat.testBit_two_pow] at h
     have : e.on = i := by simpa using h
     exact this.symm
    rw [this]; exact hon
   ·by_cases hlt : e.on < m.length
    ·exact hm e.on hlt i h L hL (fun o ho => hL e.on o ho hon)
    ·simp [List.getD, List.getElem?_eq_none (Nat.le_of_not_lt hlt)] at h
   ·exact ih h
  ·exact ih h
theorem masks_spec {ops : Array Oper} : ∀ (l : List Oper) (m : List Nat), (∀ j o, l[j]? = some o -> ops[m.length + j]? = some o) -> (∀ j, j < m.length -> MaskOk ops j (m.getD j 0)) ->
  (masks m l).length = m.length + l.length /\ ∀ j, j < (masks m l).length -> MaskOk ops j ((masks m l).getD j 0)
 | [], m, _, hm => ⟨rfl, hm⟩
 | o :: l, m, hl, hm => by
  have hm' : ∀ j, j < (m ++ [direct m o.after.toList]).length -> MaskOk ops j ((m ++ [direct m o.after.toList]).getD j 0) := by
   intro j hj
   by_cases h : j < m.length
   ·have e : (m ++ [direct m o.after.toList]).getD j 0 = m.getD j 0 := by simp [List.getD, List.getElem?_append_left h]
    rw [e]; exact hm j h
   ·have hj' : j = m.length := by simp at hj; omega
    subst hj'
    have e : (m ++ [direct m o.after.toList]).getD m.length 0 = direct m o.after.toList := by simp [List.getD]
    rw [e]
    intro i hi L hL hd
    have ho : ops[m.length]? = some o := hl 0 o (by simp)
    exact direct_spec hm L hL o.after.toList (fun e he hb => hd o ho e (by simpa using he) hb) i hi
  have ih := masks_spec l (m ++ [direct m o.after.toList]) (fun j o' hj => by
   have := hl (j + 1) o' (by simpa using hj)
   rw [show (m ++ [direct m o.after.toList]).length + j = m.length + (j + 1) by simp; omega]
   exact this) hm'
  unfold masks
  refine ⟨?_, ih.2⟩
  rw [ih.1]
  simp
  omega
variable {E : Ext} {B : Nat -> Prop} {w0 w : World} {ρ : Gh} {a : Act} {Q : Exit -> Act -> World -> Prop}
theorem Rep.drawn {Bb : Nat -> Prop} {x : AV} {v : Value} (h : Rep w Bb x v) : Rep { w with drawn := w.drawn + 1 } Bb x v := h.mono fun b hb => ⟨hb, rfl⟩
theorem Rr.drawn {N : Nat} {σ : Nat -> AV} (hR : Rr E N B w0 ρ σ a w) : Rr E N B w0 ρ σ a { w with drawn := w.drawn + 1 } := by
 have h := hR.step (ρ' := ρ) (σ' := σ) (w' := { w with drawn := w.drawn + 1 }) (d := none) (v := undef) ⟨hR.blw.os, hR.blw.tape, hR.blw.output, hR.blw.size, hR.blw.block⟩ hR.out (fun _ h => h) (fun _ _ => rfl) hR.frz hR.inj
  (fun t ht => (hR.val t ht).mono (fun b hb => ⟨hb, rfl⟩) fun g _ => ⟨fun h => ⟨h, rfl⟩, fun _ => ⟨rfl, fun _ => ⟨rfl, rfl⟩⟩⟩)
  (fun t ty c e => by obtain ⟨f1, f2, cs, f3, f4, f5⟩ := hR.own t ty c e; exact ⟨f1, f2, cs, f3, f4, fun i hi => (f5 i hi).drawn⟩)
  (fun t ty c e => by obtain ⟨f1, cs, f3, f4, f5⟩ := hR.vow t ty c e; exact ⟨f1, cs, f3, f4, fun i hi => (f5 i hi).drawn⟩)
  hR.row (fun t h1 h2 => hR.vir t h1 h2)
 exact h
theorem region_sound (hmix : P.follows .mixedOrders = true) (hΓ : Sound P GL Γ) (hG : GOk w0 B GL) (hB : ∀ b, B b -> b < w0.heap.size /\ ¬ E.X b)
  {s s' : List AV} {tr : List Foot} {id : Nat} {draw : Bool} (hrun : runOps P GL Γ E.n ops ops.toList s = some (s', tr)) (hok : draw = true -> okOrder ops tr = true)
  (hR : Rr E s.length B w0 ρ (at' s) a w) (hQ : ∀ ρ' a' w', Rr E s.length B w0 ρ' (at' s') a' w' -> Q .normal a' w') : (Code.region id ops draw).wp P Q a w := by
 have hGL : ∀ g', siteOf (GL g') = none := fun g' => rep_site (hG.rep g')
 obtain ⟨us, e1, e2, e3, e4⟩ := runOps_steps _ _ _ _ (Nat.le_trans hR.vle.1 hR.vle.2) hrun
 have hst : Steps' P GL Γ E.n ops (at' s) (fun j => us.getD j []) := ⟨fun i o ho => (e4 i o (by simpa using ho)).1⟩
 have hQ' : ∀ ρ' a' w', Rr E s.length B w0 ρ' (got (fun j => us.getD j []) (at' s) (fun _ => true) ops.size) a' w' -> Q .normal a' w' := fun ρ' a' w' h => hQ ρ' a' w' (by rw [e3]; simpa using h)
 cases draw with
 | false =>
  refine wp_region ?_
  rw [List.range_eq_range']
  exact wp_in_order hΓ hG hB hst hQ' ops.size 0 (by omega) ρ a w hR
 | true =>
  have hok := hok rfl
  unfold okOrder at hok
  rw [Bool.and_eq_true] at hok
  obtain ⟨hk1, hk2⟩ := hok
  have hedge : ∀ i o, ops[i]? = some o -> ∀ e ∈ o.after, Region.binds .any e = true -> e.on < i := fun i o ho e he hb => by
   have := edgesOk_spec _ 0 hk1 i o (by simpa using ho) e he hb
   omega
  obtain ⟨hml, hms⟩ := masks_spec (ops := ops) ops.toList [] (fun j o hj => by simpa using hj) (fun j hj => by simp at hj)
  simp only [List.length_nil, Nat.zero_add, Array.length_toList] at hml
  have pair : ∀ i j oi oj, i < j -> ops[i]? = some oi -> ops[j]? = some oj ->
    (∀ p ∈ us.getD i [], ∀ t, (t ∈ rdOf ops (got (fun j => us.getD j []) (at' s) (fun _ => true) j) oj \/ t ∈ (us.getD j []).map (·.1)) -> p.1 ≠ t) /\
     (∀ p ∈ us.getD j [], p.1 ∉ rdOf ops (got (fun j => us.getD j []) (at' s) (fun _ => true) i) oi) \/ Nat.testBit ((masks [] ops.toList).getD j 0) i = true := by
   intro i j oi oj hij hoi hoj
   have hj : j < ops.size := (Array.getElem?_eq_some_iff.1 hoj).1
   have ti := (e4 i oi (by simpa using hoi)).2
   have tj := (e4 j oj (by simpa using hoj)).2
   have hm : (masks [] ops.toList)[j]? = some ((masks [] ops.toList).getD j 0) := by
    have : j < (masks [] ops.toList).length := by omega
    simp [List.getD, this]
   have := okPairs_spec _ _ 0 hk2 i j _ _ _ _ _ hij ti tj hm
   rw [Nat.zero_add] at this
   refine this.imp (fun ⟨h1, h2⟩ => ⟨fun p hp t ht e => ?_, fun p hp hin => ?_⟩) (fun h => h)
   ·have hb1 : (bitsOf ((us.getD i []).map (·.1))).testBit t = true := bitsOf_spec (List.mem_map.2 ⟨p, hp, e⟩)
    have hb2 : (bitsOf (rdOf ops (got (fun j => us.getD j []) (at' s) (fun _ => true) j) oj) ||| bitsOf ((us.getD j []).map (·.1))).testBit t = true := by
     rw [Nat.testBit_or]
     rcases ht with ht | ht
     ·rw [bitsOf_spec ht]; rfl
     ·rw [bitsOf_spec ht]; simp
    have : (bitsOf ((us.getD i []).map (·.1)) &&& (bitsOf (rdOf ops (got (fun j => us.getD j []) (at' s) (fun _ => true) j) oj) ||| bitsOf ((us.getD j []).map (·.1)))).testBit t = true := by
     rw [Nat.testBit_and, hb1, hb2]; rfl
    rw [show bitsOf ((us.getD i []).map (·.1)) &&& (bitsOf (rdOf ops (got (fun j => us.getD j []) (at' s) (fun _ => true) j) oj) ||| bitsOf ((us.getD j []).map (·.1))) = 0 from h1] at this
    simp at this
   ·exact bits_disjoint h2 (List.mem_map.2 ⟨p, hp, rfl⟩) hin
  have hmk : ∀ j, j < ops.size -> MaskOk ops j ((masks [] ops.toList).getD j 0) := fun j hj => hms j (by omega)
  refine wp_region_any hmix ?_
  have hR' : Rr E s.length B w0 ρ (at' s) a { w with drawn := w.drawn + 1 } := hR.drawn
  refine wp_any_order (U := fun j => us.getD j []) (σ := at' s) hGL hΓ hG hB hst (fun j i => Nat.testBit ((masks [] ops.toList).getD j 0) i = true) hedge ?_ ?_ ?_ ?_ ?_ hQ' ops.size (Array.replicate ops.size false) ρ a _ (by simp) ?_ ?_ ?_
  ·intro L hL j i hj ha hLj
   exact hmk j hj i ha L hL (fun o ho => hL j o ho hLj)
  ·rintro i j hij hj ⟨p, hp, q, hq, e⟩
   rcases pair i j _ _ hij (Array.getElem?_eq_getElem (by omega)) (Array.getElem?_eq_getElem hj) with ⟨h, _⟩ | h
   ·exact absurd e (h p hp q.1 (.inr (List.mem_map.2 ⟨q, hq, rfl⟩)))
   ·exact h
  ·rintro i j o hij ho ⟨p, hp, hin⟩
   have hj : j < ops.size := (Array.getElem?_eq_some_iff.1 ho).1
   rcases pair i j _ _ hij (Array.getElem?_eq_getElem (by omega)) ho with ⟨h, _⟩ | h
   ·exact absurd rfl (h p hp p.1 (.inl hin))
   ·exact h
  ·rintro i j o hij hj ho ⟨p, hp, hin⟩
   rcases pair i j _ _ hij ho (Array.getElem?_eq_getElem hj) with ⟨_, h⟩ | h
   ·exact absurd hin (h p hp)
   ·exact h
  ·intro i hi L hd hL j ha
   exact hmk i hi j ha L hL hd
  ·simp [List.countP_replicate]
  ·intro i o ho h
   have hi : i < ops.size := (Array.getElem?_eq_some_iff.1 ho).1
   simp [hi] at h
  ·have e : ∀ m, got (fun j => us.getD j []) (at' s) (fun i => (Array.replicate ops.size false).getD i false) m = at' s := by
    intro m
    induction m with
    | zero => rfl
    | succ m ih =>
     funext t
     have : (Array.replicate ops.size false).getD m false = false := by
      by_cases h : m < ops.size <;> simp [h]
     simp only [got, this, Bool.false_eq_true, if_false]
     exact congrFun ih t
   rw [e]
   exact hR'
end
end Go.Ev
