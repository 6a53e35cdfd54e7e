/- A verified evaluator of Go functions over the kit's wp rules: rows that are made and written, code, contracts. -/
import Derived.Test.YtlcopddgplbdhaaGreatDoorEv
import Derived.Lib.AppendZeros
import Derived.Lib.AppendStr
import Derived.Carry
import Derived.ChangeArms
import Derived.ChangeSlices
set_option linter.unusedVariables false
set_option linter.unusedSimpArgs false
/- Steps that turn the frame as a whole: rows made, grown, written by callees; rows that nobody will write to any more. -/
namespace Go.Ev
open Go.RowKit
def kindsZ : List Value -> Option (List CK)
 | [] => some []
 | .int k 0 :: l => match kindsZ l with
  | some ks => some (.int k :: ks)
  | none => none
 | .bool false :: l => match kindsZ l with
  | some ks => some (.bool :: ks)
  | none => none
 | .string ⟨⟨[]⟩⟩ :: l => match kindsZ l with
  | some ks => some (.str :: ks)
  | none => none
 | _ => none
def einf (P : Program) (e : TypeId) : Option (List CK × Nat) := match P.info? e with
 | some i => match i.zero with
  | some z => match kindsZ z.cells.toList with
   | some ks => match Nat.beq i.size ks.length, Nat.beq i.size 0, Nat.beq i.bytes 0 with
    | true, false, false => some (ks, i.bytes)
    | _, _, _ => none
   | none => none
  | none => none
 | none => none
def ckB : CK -> CK -> Bool
 | .bool, .bool => true
 | .str, .str => true
 | .int k, .int k' => decide (k = k')
 | _, _ => false
def cksB : List CK -> List CK -> Bool
 | [], [] => true
 | k :: ks, l :: ls => match ckB k l with
  | true => cksB ks ls
  | false => false
 | _, _ => false
def hits (g : Nat) (x : AV) : Bool := match siteOf x with
 | some g' => Nat.beq g' g
 | none => false
def anyHits (g : Nat) : List AV -> Bool
 | [] => false
 | x :: l => match hits g x with
  | true => true
  | false => anyHits g l
def kill1 (g : Nat) (x : AV) : AV := match x with
 | .tup l => (match anyHits g l with | true => .non | false => .tup l)
 | x => (match hits g x with | true => .non | false => x)
def mapL (f : AV -> AV) : List AV -> List AV
 | [] => []
 | x :: l => f x :: mapL f l
def putRow (s : List AV) (g : Nat) (x : AV) (d : Option (Nat × Nat)) : List AV := match d with
 | some (d, m) => ((mapL (kill1 g) s).set g x).set d (.sl g m)
 | none => (mapL (kill1 g) s).set g x
def frz0 (g : Nat) (ks : List CK) (c : NNI) : AV -> AV
 | .sl g' n => (match Nat.beq g' g with | true => .arr n ks c | false => .sl g' n)
 | .rf g' i j => (match Nat.beq g' g with | true => .non | false => .rf g' i j)
 | .ref g' k => (match Nat.beq g' g with | true => .non | false => .ref g' k)
 | x => x
def frz1 (g : Nat) (ks : List CK) (c : NNI) : AV -> AV
 | .tup l => .tup (mapL (frz0 g ks c) l)
 | x => frz0 g ks c x
def frzS (g : Nat) (s : List AV) : List AV := match at' s g with
 | .row _ _ _ ks c => (mapL (frz1 g ks c) s).set g .non
 | _ => s
def catC (n : Nat) (c c2 : NNI) : NNI := fun i j => match Nat.blt i n with
 | true => c i j
 | false => c2 (i - n) j
def slotsOf : List (Nat × List Nat) -> Option Tmp -> List Nat
 | [], _ => []
 | _, none => []
 | (d, gs) :: l, some t => match Nat.beq d t with
  | true => gs
  | false => slotsOf l (some t)
def elemOf (P : Program) (t : TypeId) : Option TypeId := match P.underlying t with
 | some (.slice e) => some e
 | _ => none
def rowsI (ks : List CK) (r : Nat -> List AV) : Nat -> Nat -> Option (List (List Int))
 | _, 0 => some []
 | i, n + 1 => match cellsI ks (r i), Nat.beq (r i).length ks.length with
  | some xs, true => match rowsI ks r (i + 1) n with
   | some l => some (xs :: l)
   | none => none
  | _, _ => none
def listC (l : List (List Int)) : NNI := fun i j => (l.getD i []).getD j 0
def itemsOf (ks : List CK) (s : List AV) : AV -> Option (Nat × (NNI))
 | .arr m ks' c => match cksB ks' ks with
  | true => some (m, c)
  | false => none
 | .sl g m => match at' s g with
  | .row _ _ _ ks' c => (match cksB ks' ks with
   | true => some (m, c)
   | false => none)
  | _ => none
 | .lst m k r => match Nat.beq k ks.length, rowsI ks r 0 m with
  | true, some l => some (m, listC l)
  | _, _ => none
 | .nils => some (0, fun _ _ => 0)
 | .val (.slice none 0 0) => some (0, fun _ _ => 0)
 | _ => none
def baseOf (v : Nat) (e : TypeId) (ks : List CK) (gs : List Nat) (s : List AV) : AV -> Option (Nat × Bool × Nat × (NNI))
 | .sl g n => match at' s g with
  | .row lv e' _ ks' c => (match Nat.beq e' e, cksB ks' ks, Nat.ble v g with
   | true, true, true => some (g, lv, n, c)
   | _, _, _ => none)
  | _ => none
 | .nils => match gs with
  | g :: _ => some (g, false, 0, fun _ _ => 0)
  | [] => none
 | .val (.slice none 0 0) => match gs with
  | g :: _ => some (g, false, 0, fun _ _ => 0)
  | [] => none
 | _ => none
section
variable (P : Program) (GL : Nat -> AV) (Γ : List (Nat × Ctr)) (n v : Nat) (sm : List (Nat × List Nat))
def okSlot (s : List AV) (g d : Nat) : Bool := Nat.ble v g && (Nat.blt g s.length && (Nat.blt d n && !isOwn (at' s d)))
def isNilS (GL σ : Nat -> AV) (y : Operand) : Bool := match evA GL σ y with
 | .val (.slice none 0 0) => true
 | .nils => true
 | _ => false
def nilS (s : List AV) (o : Oper) (x : Operand) : Option (Bool × List AV) := match slotsOf sm o.dst, o.dst, isNilS GL (at' s) x, elemOf P o.type with
 | g :: _, some d, true, some e => match einf P e, okSlot n v s g d with
  | some (ks, _), true => some (true, putRow s g (.row false e 0 ks fun _ _ => 0) (some (d, 0)))
  | _, _ => none
 | _, _, _, _ => none
def dropS (g : Nat) (s : List AV) : List AV := (mapL (kill1 g) s).set g .non
def moveS (s : List AV) (o : Oper) (x : Operand) : Option (Bool × List AV) := match slotsOf sm o.dst, o.dst, evA GL (at' s) x with
 | g :: _, some d, .sl g' k => match at' s g', okSlot n v s g d, Nat.ble v g', Nat.beq g' g with
  | .row lv ty m ks c, true, true, false => some (true, putRow (dropS g' s) g (.row lv ty m ks c) (some (d, k)))
  | _, _, _, _ => none
 | _, _, _ => none
def makeS (s : List AV) (o : Oper) (t : TypeId) (l c : Operand) : Option (Bool × List AV) := match slotsOf sm o.dst, o.dst, elemOf P t with
 | g :: _, some d, some e => match einf P e, okSlot n v s g d, intOf GL (at' s) (some l), intOf GL (at' s) (some c) with
  | some (ks, by'), true, some L, some C => some (decide (0 <= L) && (decide (L <= C) && decide (C * by' <= 140737488355328)), putRow s g (.row true e L.toNat ks fun _ _ => 0) (some (d, L.toNat)))
  | _, _, _, _ => none
 | _, _, _ => none
def appS (s : List AV) (o : Oper) (args : List Operand) (ts : List TypeId) : Option (Bool × List AV) := match args, ts, o.dst with
 | [b, x], [t, t'], some d => match elemOf P t with
  | some e => match einf P e with
   | some (ks, by') => match Nat.beq t' t, baseOf v e ks (slotsOf sm o.dst) s (evA GL (at' s) b) with
    | true, some (g, lv, k, c) => match itemsOf ks s (evA GL (at' s) x), okSlot n v s g d with
     | some (m, c2), true => some (Nat.ble ((k + m) * by') 140737488355328, putRow s g (.row (Nat.blt 0 m || lv) e (k + m) ks (catC k c c2)) (some (d, k + m)))
     | _, _ => none
    | false, some (g, false, 0, _) => match isNilC GL (at' s) b, P.underlying t', intOf GL (at' s) (some x), okSlot n v s g d with
     | true, some (.int _), some L, true => some (decide (0 < L) && decide (L * by' <= 140737488355328), putRow s g (.row true e L.toNat ks fun _ _ => 0) (some (d, L.toNat)))
     | _, _, _, _ => none
    | _, _ => none
   | none => none
  | none => none
 | _, _, _ => none
def buildS (s : List AV) (o : Oper) (t : TypeId) (m : Nat) (ps : Array (Nat × Operand)) : Option (Bool × List AV) := match slotsOf sm o.dst, o.dst, elemOf P t, allV GL (at' s) (ps.toList.map (·.2)) with
 | g :: _, some d, some e, true => match einf P e, okSlot n v s g d, bldS P t m (ps.map fun (i, x) => (i, rhoOf GL (at' s) x)) with
  | some (ks, _), true, some (cells, z, e') => match Nat.beq e' e, Nat.beq z ks.length, rowsI ks (fun i => ((cells.drop (i * z)).take z).map ofCell) 0 m, Nat.ble m 140737488355328 with
   | true, true, some l, true => some (true, putRow s g (.row true e m ks (listC l)) (some (d, m)))
   | _, _, _, _ => none
  | _, _, _ => none
 | _, _, _, _ => none
def markS (s : List AV) (o : Oper) (src dst : TypeId) (x : Operand) : Option (Bool × List AV) := match evA GL (at' s) x, Nat.beq src dst, elemOf P dst with
 | .sl g k, true, some e => match at' s g, P.underlying e with
  | .row true _ _ _ _, some (.int .u8) => match bindSet n (at' s) o true (some (.sl g k)) with
   | some (c', u) => some (c', setAll s u)
   | none => none
  | _, _ => none
 | _, _, _ => none
def appT (s : List AV) (o : Oper) (args : List Operand) (ts : List TypeId) : Option (Bool × List AV) := match args, ts, o.dst with
 | [b, x], [t, t'], some d => match elemOf P t, P.underlying t', evA GL (at' s) x with
  | some e, some .string, .val (.string q) => match einf P e with
   | some (ks, by') => match cksB ks [.int .u8], baseOf v e ks (slotsOf sm o.dst) s (evA GL (at' s) b) with
    | true, some (g, lv, k, c) => match okSlot n v s g d with
     | true => some (Nat.ble ((k + q.size) * by') 140737488355328, putRow s g (.row (lv || Nat.blt 0 q.size) e (k + q.size) ks (catC k c fun i _ => byteA q i)) (some (d, k + q.size)))
     | false => none
    | _, _ => none
   | none => none
  | _, _, _ => none
 | _, _, _ => none
def shortSz (t : TypeId) : Bool := match pv P (sizeOf (P.elem t)) with
 | some _ => true
 | none => false
def shortS (s : List AV) (o : Oper) (t : TypeId) (x : Operand) (l h m : Option Operand) : Option (Bool × List AV) := match l, m, evA GL (at' s) x, intOf GL (at' s) h, elemOf P t, shortSz P t with
 | none, none, .sl g k, some H, some _, true => match bindSet n (at' s) o (decide (0 <= H) && decide (H <= (k : Int))) (some (.sl g H.toNat)) with
  | some (c, u) => some (c, setAll s u)
  | none => none
 | _, _, _, _, _, _ => none
def placeL : List AV -> List Nat -> Option (List AV × List (Nat × AV))
 | [], _ => some ([], [])
 | .row lv ty m ks c :: l, g :: gs => match placeL l gs with
  | some (l', rs) => some (.sl g m :: l', (g, .row lv ty m ks c) :: rs)
  | none => none
 | .row _ _ _ _ _ :: _, [] => none
 | .own _ _ :: _, _ => none
 | x :: l, gs => match placeL l gs with
  | some (l', rs) => some (x :: l', rs)
  | none => none
def placeX : AV -> List Nat -> Option (AV × List (Nat × AV))
 | .tup l, gs => match placeL l gs with
  | some (l', rs) => some (.tup l', rs)
  | none => none
 | .row lv ty m ks c, g :: _ => some (.sl g m, [(g, .row lv ty m ks c)])
 | _, _ => none
def putRows : List (Nat × AV) -> List AV -> List AV
 | [], s => s
 | (g, x) :: l, s => putRows l (putRow s g x none)
def okRows (s : List AV) : List (Nat × AV) -> Bool
 | [] => true
 | (g, _) :: l => match Nat.ble v g && Nat.blt g s.length with
  | true => okRows s l
  | false => false
def callN (s : List AV) (o : Oper) (g : Nat) (args : List Operand) : Option (Bool × List AV) := match find Γ g, slotsOf sm o.dst, o.dst with
 | some f, g0 :: gs, some d => match argsV (at' s) (args.map (evA GL (at' s))), nodupB (gsOf (args.map (evA GL (at' s)))) with
  | some as, true => match f as with
   | some (c, x) => match !hasSl (args.map (evA GL (at' s))) || (memFree (splitOut x).1 && isNil (gsOf (args.map (evA GL (at' s))))) with
    | true => match placeX (splitOut x).1 (g0 :: gs), outU (at' s) (args.map (evA GL (at' s))) (splitOut x).2, okSlot n v s g0 d with
     | some (y, rs), some ou, true => match nodupB (rs.map (·.1)), okRows v s rs with
      | true, true => some (c, (putRows rs (setAll s ((d, .non) :: ou))).set d y)
      | _, _ => none
     | _, _, _ => none
    | false => none
   | none => none
  | _, _ => none
 | _, _, _ => none
def argO (σ : Nat -> AV) : AV -> Option AV
 | .sl g n => match σ g with
  | .row lv ty _ ks c => some (.row lv ty n ks c)
  | _ => none
 | .ref _ _ => none
 | .rf _ _ _ => none
 | .tup _ => none
 | x => some x
def argsO (σ : Nat -> AV) : List AV -> Option (List AV)
 | [] => some []
 | x :: l => match argO σ x with
  | some y => match argsO σ l with
   | some ys => some (y :: ys)
   | none => none
  | none => none
def slsOf : List AV -> List Nat
 | [] => []
 | .sl g _ :: l => g :: slsOf l
 | _ :: l => slsOf l
def fullB (σ : Nat -> AV) : List AV -> Bool
 | [] => true
 | .sl g n :: l => (match σ g with
  | .row _ _ m _ _ => Nat.beq n m
  | _ => false) && fullB σ l
 | _ :: l => fullB σ l
def outO (σ : Nat -> AV) : List AV -> List AV -> Option (List (Nat × AV))
 | [], _ => some []
 | .sl g _ :: as, .row _ _ _ _ c' :: os => match σ g, outO σ as os with
  | .row lv ty m ks _, some u => some ((g, .row lv ty m ks c') :: u)
  | _, _ => none
 | .sl _ _ :: _, _ => none
 | _ :: as, _ :: os => outO σ as os
 | _ :: as, [] => outO σ as []
def callO (s : List AV) (o : Oper) (g : Nat) (args : List Operand) : Option (Bool × List AV) := match find Γ g with
 | some f => match argsO (at' s) (args.map (evA GL (at' s))), nodupB (slsOf (args.map (evA GL (at' s)))) with
  | some as, true => match f as with
   | some (c, x) => match isBox (splitOut x).1, outO (at' s) (args.map (evA GL (at' s))) (splitOut x).2, setD n (at' s) o (fz (splitOut x).1) with
    | false, some ou, some u => some (c && fullB (at' s) (args.map (evA GL (at' s))), setAll s (u ++ ou))
    | _, _, _ => none
   | none => none
  | _, _ => none
 | none => none
def plainS (s : List AV) (o : Oper) : Option (Bool × List AV) := match evOp P GL Γ n (at' s) o with
 | some (c, u) => some (c, setAll s u)
 | none => none
def slOps (s : List AV) : List Operand -> List Nat
 | [] => []
 | x :: l => match evA GL (at' s) x with
  | .sl g _ => g :: slOps s l
  | _ => slOps s l
def frzAll (s : List AV) : List Nat -> Option (List AV)
 | [] => some s
 | g :: l => match Nat.ble v g with
  | true => frzAll (frzS g s) l
  | false => none
def frzOp (s : List AV) (o : Oper) : Option (Bool × List AV) := match opsOf o.op with
 | some l => match slOps GL s l with
  | [] => none
  | gs => match frzAll v s gs with
   | some s' => plainS P GL Γ n s' o
   | none => none
 | none => none
def orElse : Option (Bool × List AV) -> Option (Bool × List AV) -> Option (Bool × List AV)
 | some r, _ => some r
 | none, r => r
def evS (s : List AV) (o : Oper) : Option (Bool × List AV) := match o.op with
 | .assign x => orElse (nilS P GL n v sm s o x) (orElse (moveS GL n v sm s o x) (orElse (plainS P GL Γ n s o) (frzOp P GL Γ n v s o)))
 | .makeSlice t l c => makeS P GL n v sm s o t l c
 | .buildSlice t m ps => orElse (buildS P GL n v sm s o t m ps) (orElse (plainS P GL Γ n s o) (frzOp P GL Γ n v s o))
 | .convert src dst x => orElse (markS P GL n s o src dst x) (orElse (plainS P GL Γ n s o) (frzOp P GL Γ n v s o))
 | .slice t x l h m => orElse (shortS P GL n s o t x l h m) (orElse (plainS P GL Γ n s o) (frzOp P GL Γ n v s o))
 | .call c => match c.callee with
  | .builtin .append => orElse (appT P GL n v sm s o c.args.toList c.argTypes.toList) (appS P GL n v sm s o c.args.toList c.argTypes.toList)
  | .value (.func g) => orElse (callN GL Γ n v sm s o g c.args.toList) (orElse (plainS P GL Γ n s o) (orElse (callO GL Γ n s o g c.args.toList) (frzOp P GL Γ n v s o)))
  | _ => orElse (plainS P GL Γ n s o) (frzOp P GL Γ n v s o)
 | _ => orElse (plainS P GL Γ n s o) (frzOp P GL Γ n v s o)
end
theorem at_mapL {f : AV -> AV} (hf : f .non = .non) : ∀ (s : List AV) (t : Nat), at' (mapL f s) t = f (at' s t)
 | [], t => by simp [mapL, at', hf]
 | x :: s, 0 => rfl
 | x :: s, t + 1 => by simpa [mapL, at'] using at_mapL hf s t
theorem mapL_length {f : AV -> AV} : ∀ (s : List AV), (mapL f s).length = s.length
 | [] => rfl
 | x :: s => by simp [mapL, mapL_length s]
theorem at_set {s : List AV} {g : Nat} {x : AV} (hg : g < s.length) (t : Nat) : at' (s.set g x) t = if t = g then x else at' s t := by
 simp only [at', List.getD]
 by_cases h : t = g
 ·subst h; rw [if_pos rfl, List.getElem?_set_self hg]; rfl
 ·rw [if_neg h, List.getElem?_set_ne (Ne.symm h)]
theorem kill1_non {g : Nat} : kill1 g .non = .non := rfl
theorem kill1_slot {g : Nat} {x : AV} (h : isSlot x = true) : kill1 g x = x := by cases x <;> first | rfl | cases h
theorem kill1_ns {g : Nat} {x : AV} : isSlot (kill1 g x) = isSlot x := by
 unfold kill1
 split
 ·split <;> rfl
 ·split
  ·rename_i h
   cases x <;> first | rfl | cases h
  ·rfl
theorem kill1_own {g : Nat} {x : AV} : isOwn (kill1 g x) = isOwn x := by
 unfold kill1
 split
 ·split <;> rfl
 ·split
  ·rename_i h
   cases x <;> first | rfl | cases h
  ·rfl
theorem anyHits_spec {g : Nat} : ∀ {l : List AV}, anyHits g l = false -> ∀ i, i < l.length -> hits g (l.getD i .non) = false
 | [], _, i, hi => by simp at hi
 | x :: l, h, i, hi => by
  unfold anyHits at h
  split at h
  ·cases h
  ·rename_i hx
   cases i with
   | zero => exact hx
   | succ i => simpa using anyHits_spec h i (by simpa using hi)
theorem hits_spec {g g' : Nat} {x : AV} (h : hits g x = false) (hx : siteOf x = some g') : g' ≠ g := by
 unfold hits at h
 rw [hx] at h
 intro e
 subst e
 simp at h
section
variable {P : Program} {GL : Nat -> AV} {Γ : List (Nat × Ctr)} {E : Ext} {N : Nat} {B : Nat -> Prop} {w0 w : World} {ρ : Gh} {σ : Nat -> AV} {a : Act} {o : Oper}
 {K : Act -> World -> Prop} {Q : Exit -> Act -> World -> Prop}
theorem Rr.slot (hR : Rr E N B w0 ρ σ a w) {g : Nat} (hg : E.v <= g /\ g < N) {w' : World} (hos : w'.os = w.os) (htp : w'.tape = w.tape) (hop : w'.output = w.output) (hs : w.heap.size <= w'.heap.size)
  (hw : ∀ b, b < w.heap.size -> (isOwn (σ g) = true -> b ≠ ρ.b g) -> w'.heap[b]? = w.heap[b]?) {lv : Bool} {ty : TypeId} {m : Nat} {ks : List CK} {c : NNI} {b' : Nat}
  (hb : lv = true -> w0.heap.size <= b' /\ ¬ ρ.F b' /\ ∀ t, t ≠ g -> isOwn (σ t) = true -> ρ.b t ≠ b') (hm : lv = false -> m = 0) (hrow : lv = true -> ∃ cap, Rowed w' b' ty cap m ks c)
  {d : Option Tmp} {v : Value} {k : Nat} (hd : ∀ d', d = some d' -> d' < E.n /\ isOwn (σ d') = false) (hv : ∀ d', d = some d' -> k <= m /\ (lv = true -> ∃ cap, v = .slice (some ⟨b', 0, none⟩) k cap /\ Rowed w' b' ty cap m ks c) /\ (lv = false -> k = 0 /\ ∃ a, v = .slice a 0 0)) :
  Rr E N B w0 ⟨fun t => if t = g then b' else ρ.b t, ρ.F⟩ (fun t => if d = some t then .sl g k else if t = g then .row lv ty m ks c else kill1 g (σ t)) (a.put d v) w' := by
 have hdg : d ≠ some g := fun h => by
  exact absurd (hd g h).1 (Nat.not_lt_of_le (Nat.le_trans hR.vle.1 hg.1))
 have hds : ∀ d', d = some d' -> isSlot (σ d') = false := fun d' h => by
  obtain ⟨h1, h2⟩ := hd d' h
  cases h3 : isSlot (σ d') with
  | false => rfl
  | true =>
   cases e : σ d' with
   | own ty c => rw [e] at h2; cases h2
   | vown ty c => rw [e] at h2; cases h2
   | row lv ty m ks c => exact absurd h1 (Nat.not_lt_of_le (hR.row d' lv ty m ks c e).1)
   | _ => rw [e] at h3; cases h3
 have cs : ∀ t, (d = some t /\ t ≠ g /\ isSlot (σ t) = false) \/ (d ≠ some t /\ t = g) \/ (d ≠ some t /\ t ≠ g) := fun t => by
  by_cases h : d = some t
  ·exact .inl ⟨h, fun e => hdg (e ▸ h), hds t h⟩
  ·by_cases h' : t = g
   ·exact .inr (.inl ⟨h, h'⟩)
   ·exact .inr (.inr ⟨h, h'⟩)
 let σ' : Nat -> AV := fun t => if d = some t then .sl g k else if t = g then .row lv ty m ks c else kill1 g (σ t)
 let ρ' : Gh := ⟨fun t => if t = g then b' else ρ.b t, ρ.F⟩
 have σd : ∀ t, d = some t -> σ' t = .sl g k := fun t h => if_pos h
 have σg : σ' g = .row lv ty m ks c := by show (if d = some g then _ else if g = g then _ else _) = _; rw [if_neg hdg, if_pos rfl]
 have σo : ∀ t, d ≠ some t -> t ≠ g -> σ' t = kill1 g (σ t) := fun t h1 h2 => by show (if d = some t then _ else if t = g then _ else _) = _; rw [if_neg h1, if_neg h2]
 have ρg : ρ'.b g = b' := if_pos rfl
 have ρo : ∀ t, t ≠ g -> ρ'.b t = ρ.b t := fun t h => if_neg h
 have ho : ∀ t, isOwn (σ' t) = true -> (t = g /\ lv = true) \/ (t ≠ g /\ isOwn (σ t) = true) := fun t ht => by
  rcases cs t with ⟨h1, h2, h3⟩ | ⟨h1, h2⟩ | ⟨h1, h2⟩
  ·rw [σd t h1] at ht; cases ht
  ·subst h2; rw [σg] at ht; exact .inl ⟨rfl, ht⟩
  ·rw [σo t h1 h2, kill1_own] at ht; exact .inr ⟨h2, ht⟩
 have wo : ∀ t, t ≠ g -> isSlot (σ t) = true -> σ' t = σ t := fun t h1 h2 => by
  have : d ≠ some t := fun h => by rw [hds t h] at h2; cases h2
  rw [σo t this h1, kill1_slot h2]
 have hoth : ∀ t, t ≠ g -> isOwn (σ t) = true -> w'.heap[ρ.b t]? = w.heap[ρ.b t]? := fun t h1 h2 => hw _ (hR.lt h2) fun h e => h1 (hR.inj t g h2 h e)
 have hFw : ∀ b, ρ.F b -> w'.heap[b]? = w.heap[b]? := fun b h => hw b (hR.frz b h).2.1 fun ho e => (hR.frz b h).2.2 g ho e.symm
 have v1 : ∀ y u, hits g y = false -> VOk1 w ρ σ y u -> VOk1 w' ρ' σ' y u := fun y u hh hy => hy.mono (fun b hb => ⟨hb, hFw b hb⟩) fun g' hg' => by
  have hne := hits_spec hh hg'
  have hsl : isSlot (σ g') = true := by
   cases y <;> simp only [siteOf, Option.some.injEq, reduceCtorEq] at hg' <;> subst hg'
   ·exact isOwn_slot (isBox_own hy.2)
   ·obtain ⟨lv, ty, m, ks, c, h1, _⟩ := hy; rw [h1]; rfl
   ·obtain ⟨ty, m, ks, c, h1, _⟩ := hy; rw [h1]; rfl
  rw [wo g' hne hsl]
  exact ⟨fun h => ⟨h, ρo g' hne⟩, fun _ => ⟨rfl, fun ho => ⟨ρo g' hne, hoth g' hne ho⟩⟩⟩
 have box : ∀ t ty c, t ≠ g -> isOwn (σ t) = true -> Boxed w ρ.F (ρ.b t) ty c -> Boxed w' ρ.F (ρ.b t) ty c := fun t ty c h1 h2 ⟨cs, f3, f4, f5⟩ =>
  ⟨cs, (hoth t h1 h2).trans f3, f4, fun i hi => (f5 i hi).mono fun b hb => ⟨hb, hFw b hb⟩⟩
 refine hR.step (ρ' := ρ') (σ' := σ') ⟨hos.trans hR.blw.os, htp.trans hR.blw.tape, hop.trans hR.blw.output, Nat.le_trans hR.blw.size hs, fun q hq hX => ?_⟩ (fun t ht => ?_) (fun b h => h) hFw (fun b hb' => ?_)
  (fun t t' k1 k2 k3 => ?_) (fun t ht => ?_) (fun t ty1 c1 e => ?_) (fun t ty1 c1 e => ?_) (fun t lv1 ty1 m1 ks1 c1 e => ?_) (fun t k1 k2 => ?_)
 ·exact (hw q (Nat.lt_of_lt_of_le hq hR.blw.size) fun ho e => hR.apart ho ⟨hq, hX⟩ e.symm).trans (hR.blw.block q hq hX)
 ·rw [σo t (fun h => absurd (hd t h).1 (Nat.not_lt_of_le (Nat.le_trans hR.vle.1 (Nat.le_trans hR.vle.2 ht)))) (fun h => by subst h; exact absurd hg.2 (Nat.not_lt_of_le ht)), hR.out t ht]; rfl
 ·obtain ⟨k1, k2, k3⟩ := hR.frz b hb'
  refine ⟨k1, Nat.lt_of_lt_of_le k2 hs, fun t ht => ?_⟩
  rcases ho t ht with ⟨rfl, hl⟩ | ⟨h1, h2⟩
  ·rw [ρg]; intro e; subst e; exact (hb hl).2.1 hb'
  ·rw [ρo t h1]; exact k3 t h2
 ·rcases ho t k1 with ⟨rfl, hl⟩ | ⟨h1, h2⟩
  ·rcases ho t' k2 with ⟨rfl, _⟩ | ⟨h1', h2'⟩
   ·rfl
   ·rw [ρg, ρo t' h1'] at k3
    exact absurd k3.symm ((hb hl).2.2 t' h1' h2')
  ·rcases ho t' k2 with ⟨rfl, hl⟩ | ⟨h1', h2'⟩
   ·rw [ρg, ρo t h1] at k3
    exact absurd k3 ((hb hl).2.2 t h1 h2)
   ·rw [ρo t h1, ρo t' h1'] at k3
    exact hR.inj t t' h2 h2' k3
 ·rcases cs t with ⟨h1, h2, h3⟩ | ⟨h1, h2⟩ | ⟨h1, h2⟩
  ·rw [σd t h1]
   subst h1
   rw [eval_put_same (by rw [hR.siz]; exact (hd t rfl).1)]
   obtain ⟨q1, q2, q3⟩ := hv t rfl
   exact ⟨lv, ty, m, ks, c, σg, q1, fun hl => by rw [ρg]; exact q2 hl, q3⟩
  ·subst h2; rw [σg] at ht; cases ht
  ·rw [σo t h1 h2] at ht ⊢
   rw [kill1_ns] at ht
   have he : (a.put d v).eval (.tmp t) = a.eval (.tmp t) := by
    cases d with
    | none => rfl
    | some d => exact eval_put_ne (fun e => h1 (by rw [e]))
   rw [he]
   have hy := hR.val t ht
   unfold kill1
   split
   ·rename_i l e
    split
    ·exact Rep.non _
    ·rename_i hh
     rw [e] at hy
     obtain ⟨cs, q1, q2, q3⟩ := hy
     exact ⟨cs, q1, q2, fun i hi => v1 _ _ (anyHits_spec hh i hi) (q3 i hi)⟩
   ·rename_i hnt
    split
    ·exact Rep.non _
    ·rename_i hh
     rw [VOk.one hnt] at hy ⊢
     exact v1 _ _ hh hy
 ·have hne : t ≠ g := fun h => by subst h; rw [σg] at e; cases e
  have hdt : d ≠ some t := fun h => by rw [σd t h] at e; cases e
  have e' := e
  rw [σo t hdt hne] at e
  have hsl : isSlot (σ t) = true := by rw [<- kill1_ns (g := g), e]; rfl
  rw [kill1_slot hsl] at e
  obtain ⟨f1, f2, f3⟩ := hR.own t ty1 c1 e
  have he : (a.put d v).eval (.tmp t) = a.eval (.tmp t) := by
   cases d with
   | none => rfl
   | some d => exact eval_put_ne (fun e => hdt (by rw [e]))
  rw [ρo t hne, he]
  exact ⟨f1, f2, box _ _ _ hne (by rw [e]; rfl) f3⟩
 ·have hne : t ≠ g := fun h => by subst h; rw [σg] at e; cases e
  have hdt : d ≠ some t := fun h => by rw [σd t h] at e; cases e
  rw [σo t hdt hne] at e
  have hsl : isSlot (σ t) = true := by rw [<- kill1_ns (g := g), e]; rfl
  rw [kill1_slot hsl] at e
  obtain ⟨f1, f2⟩ := hR.vow t ty1 c1 e
  rw [ρo t hne]
  exact ⟨f1, box _ _ _ hne (by rw [e]; rfl) f2⟩
 ·by_cases hne : t = g
  ·subst hne
   rw [σg] at e
   cases e
   rw [ρg]
   exact ⟨Nat.le_trans hR.vle.1 hg.1, hm, fun hl => ⟨.inl ⟨(hb hl).1, hg.1⟩, hrow hl⟩⟩
  ·have hdt : d ≠ some t := fun h => by rw [σd t h] at e; cases e
   rw [σo t hdt hne] at e
   have hsl : isSlot (σ t) = true := by rw [<- kill1_ns (g := g), e]; rfl
   rw [kill1_slot hsl] at e
   obtain ⟨f1, f2, f3⟩ := hR.row t lv1 ty1 m1 ks1 c1 e
   rw [ρo t hne]
   exact ⟨f1, f2, fun hl => by obtain ⟨q1, cap, cs, zz, q2, q3⟩ := f3 hl; exact ⟨q1, cap, cs, zz, (hoth t hne (by rw [e]; exact hl)).trans q2, q3⟩⟩
 ·have hne : t ≠ g := fun h => by omega
  obtain ⟨f1, f2, f3, f4⟩ := hR.vir t k1 k2
  rw [wo t hne f1, ρo t hne]
  exact ⟨f1, f2, f3, fun ho hb => (csz_same (hoth t hne ho)).trans (f4 ho hb)⟩
theorem Rr.setV (hR : Rr E N B w0 ρ σ a w) {d : Nat} {x : AV} (hd : d < E.n /\ isOwn (σ d) = false) (hx : isSlot x = false /\ VOk w ρ σ x (a.eval (.tmp d))) : Rr E N B w0 ρ (fun t => if t = d then x else σ t) a w := by
 have hds : isSlot (σ d) = false := by
  cases h3 : isSlot (σ d) with
  | false => rfl
  | true =>
   cases e : σ d with
   | own ty c => have := hd.2; rw [e] at this; cases this
   | vown ty c => have := hd.2; rw [e] at this; cases this
   | row lv ty m ks c => exact absurd hd.1 (Nat.not_lt_of_le (hR.row d lv ty m ks c e).1)
   | _ => rw [e] at h3; cases h3
 have so : ∀ t, isSlot (σ t) = true -> (if t = d then x else σ t) = σ t := fun t h => if_neg fun e => by subst e; rw [hds] at h; cases h
 have os : ∀ t, isSlot (if t = d then x else σ t) = true -> (if t = d then x else σ t) = σ t := fun t h => by
  by_cases e : t = d
  ·rw [if_pos e, hx.1] at h; cases h
  ·rw [if_neg e]
 have vm : ∀ y u, VOk w ρ σ y u -> VOk w ρ (fun t => if t = d then x else σ t) y u := fun y u hy => by
  have key : ∀ y u, VOk1 w ρ σ y u -> VOk1 w ρ (fun t => if t = d then x else σ t) y u := fun y u hy => hy.mono (fun b hb => ⟨hb, rfl⟩) fun g hg => by
   have hsl : isSlot (σ g) = true := by
    cases y <;> simp only [siteOf, Option.some.injEq, reduceCtorEq] at hg <;> subst hg
    ·exact isOwn_slot (isBox_own hy.2)
    ·obtain ⟨lv, ty, m, ks, c, h1, _⟩ := hy; rw [h1]; rfl
    ·obtain ⟨ty, m, ks, c, h1, _⟩ := hy; rw [h1]; rfl
   rw [so g hsl]
   exact ⟨fun h => ⟨h, rfl⟩, fun _ => ⟨rfl, fun _ => ⟨rfl, rfl⟩⟩⟩
  cases y with
  | tup l => obtain ⟨cs, h1, h2, h3⟩ := hy; exact ⟨cs, h1, h2, fun i hi => key _ _ (h3 i hi)⟩
  | _ => rw [VOk.one (fun l e => by cases e)] at hy ⊢; exact key _ _ hy
 have h := hR.step (ρ' := ρ) (σ' := fun t => if t = d then x else σ t) (w' := w) (d := none) (v := undef) hR.blw (fun t ht => ?_) (fun _ h => h) (fun _ _ => rfl) (fun b hb => ?_)
  (fun t t' k1 k2 k3 => ?_) (fun t ht => ?_) (fun t ty c e => ?_) (fun t ty c e => ?_) (fun t lv ty m ks c e => ?_) (fun t k1 k2 => ?_)
 ·exact h
 ·show (if t = d then x else σ t) = .non
  rw [if_neg (fun e => by have := hR.vle; omega)]; exact hR.out t ht
 ·obtain ⟨k1, k2, k3⟩ := hR.frz b hb
  exact ⟨k1, k2, fun t ht => k3 t (by rw [<- os t (isOwn_slot ht)]; exact ht)⟩
 ·exact hR.inj t t' (by rw [<- os t (isOwn_slot k1)]; exact k1) (by rw [<- os t' (isOwn_slot k2)]; exact k2) k3
 ·show VOk w ρ _ (if t = d then x else σ t) _
  by_cases e : t = d
  ·subst e; rw [if_pos rfl]; exact vm _ _ hx.2
  ·have ht : isSlot (if t = d then x else σ t) = false := ht
   rw [if_neg e] at ht ⊢
   exact vm _ _ (hR.val t ht)
 ·have e : (if t = d then x else σ t) = .own ty c := e
  rw [os t (by rw [e]; rfl)] at e
  exact hR.own t ty c e
 ·have e : (if t = d then x else σ t) = .vown ty c := e
  rw [os t (by rw [e]; rfl)] at e
  exact hR.vow t ty c e
 ·have e : (if t = d then x else σ t) = .row lv ty m ks c := e
  rw [os t (by rw [e]; rfl)] at e
  exact hR.row t lv ty m ks c e
 ·show isSlot (if t = d then x else σ t) = true /\ _
  obtain ⟨f1, f2⟩ := hR.vir t k1 k2
  rw [so t f1]
  exact ⟨f1, f2⟩
end
end Go.Ev
/- Rows made and grown: what the model's operations do. -/
namespace Go.Ev
open Go.RowKit
theorem mkCell_one (k : CK) (x : Int) : (mkCell k x).oneCell' = true := by
 cases k with
 | int k => cases k <;> rfl
 | bool => rfl
 | str => rfl
def cellsOf (ks : List CK) (n : Nat) (c : NNI) : List Value := (List.range (n * ks.length)).map fun q => mkCell (ks.getD (q % ks.length) .bool) (c (q / ks.length) (q % ks.length))
theorem cellsOf_length (ks : List CK) (n : Nat) (c : NNI) : (cellsOf ks n c).length = n * ks.length := by simp [cellsOf]
theorem cellsOf_at {ks : List CK} {n : Nat} {c : NNI} {i j : Nat} (hi : i < n) (hj : j < ks.length) : (cellsOf ks n c)[i * ks.length + j]? = some (mkCell (ks.getD j .bool) (c i j)) := by
 have hlt : i * ks.length + j < n * ks.length := by
  calc i * ks.length + j < i * ks.length + ks.length := by omega
   _ = (i + 1) * ks.length := by rw [Nat.add_mul, Nat.one_mul]
   _ <= n * ks.length := Nat.mul_le_mul_right _ hi
 have e1 : (i * ks.length + j) / ks.length = i := by
  rw [Nat.mul_comm, Nat.mul_add_div (by omega), Nat.div_eq_of_lt hj]; rfl
 have e2 : (i * ks.length + j) % ks.length = j := by
  rw [Nat.mul_comm, Nat.mul_add_mod, Nat.mod_eq_of_lt hj]
 simp only [cellsOf, List.getElem?_map, List.getElem?_range hlt, Option.map_some, e1, e2]
theorem cellsOf_some {ks : List CK} {n : Nat} {c : NNI} {q : Nat} {u : Value} (h : (cellsOf ks n c)[q]? = some u) : ∃ i j, i < n /\ j < ks.length /\ q = i * ks.length + j /\ u = mkCell (ks.getD j .bool) (c i j) := by
 have hq : q < n * ks.length := by
  have := (List.getElem?_eq_some_iff.1 h).1
  rwa [cellsOf_length] at this
 have hk : 0 < ks.length := by
  rcases Nat.eq_zero_or_pos ks.length with h0 | h0
  ·rw [h0] at hq; omega
  ·exact h0
 have hi : q / ks.length < n := (Nat.div_lt_iff_lt_mul hk).2 hq
 have hj : q % ks.length < ks.length := Nat.mod_lt _ hk
 have hqe : q = q / ks.length * ks.length + q % ks.length := by rw [Nat.mul_comm]; exact (Nat.div_add_mod q _).symm
 refine ⟨_, _, hi, hj, hqe, ?_⟩
 have := cellsOf_at (c := c) hi hj
 rw [<- hqe, h] at this
 exact Option.some.inj this
theorem cellsOf_one {ks : List CK} {n : Nat} {c : NNI} : ∀ u ∈ cellsOf ks n c, u.oneCell' = true := by
 intro u hu
 obtain ⟨q, _, rfl⟩ := List.mem_map.1 hu
 exact mkCell_one _ _
theorem kindsZ_spec : ∀ {l : List Value} {ks : List CK}, kindsZ l = some ks -> ks.length = l.length /\ ∀ j, j < l.length -> l.getD j undef = mkCell (ks.getD j .bool) 0
 | [], ks, h => by cases h; exact ⟨rfl, fun j hj => by simp at hj⟩
 | x :: l, ks, h => by
  unfold kindsZ at h
  split at h
  ·rename_i heq; cases heq
  ·rename_i k l' heq
   cases heq
   split at h
   ·rename_i ks' h'
    cases h
    obtain ⟨h1, h2⟩ := kindsZ_spec h'
    refine ⟨by simp [h1], fun j hj => ?_⟩
    cases j with
    | zero => cases k <;> rfl
    | succ j => simpa using h2 j (by simpa using hj)
   ·cases h
  ·rename_i l' heq
   cases heq
   split at h
   ·rename_i ks' h'
    cases h
    obtain ⟨h1, h2⟩ := kindsZ_spec h'
    refine ⟨by simp [h1], fun j hj => ?_⟩
    cases j with
    | zero => rfl
    | succ j => simpa using h2 j (by simpa using hj)
   ·cases h
  ·rename_i l' heq
   cases heq
   split at h
   ·rename_i ks' h'
    cases h
    obtain ⟨h1, h2⟩ := kindsZ_spec h'
    refine ⟨by simp [h1], fun j hj => ?_⟩
    cases j with
    | zero => rfl
    | succ j => simpa using h2 j (by simpa using hj)
   ·cases h
  ·cases h
theorem einf_spec {P : Program} {e : TypeId} {ks : List CK} {by' : Nat} (h : einf P e = some (ks, by')) :
  ∃ i z, P.info? e = some i /\ i.zero = some z /\ i.size = ks.length /\ i.bytes = by' /\ z.cells.size = ks.length /\ (∀ j, j < ks.length -> z.cells.toList.getD j undef = mkCell (ks.getD j .bool) 0) /\ 0 < ks.length /\ 0 < by' := by
 unfold einf at h
 split at h
 ·rename_i i hi
  split at h
  ·rename_i z hz
   split at h
   ·rename_i ks' hk
    split at h
    ·rename_i h1 h2 h3
     cases h
     obtain ⟨k1, k2⟩ := kindsZ_spec hk
     have h1 := Nat.eq_of_beq_eq_true h1
     have h2 : i.size ≠ 0 := fun hh => by rw [hh] at h2; cases h2
     have h3 : i.bytes ≠ 0 := fun hh => by rw [hh] at h3; cases h3
     have hl : z.cells.size = ks.length := by rw [k1]; simp
     exact ⟨i, z, hi, hz, h1, rfl, hl, fun j hj => k2 j (by rw [<- k1]; exact hj), by omega, by omega⟩
    ·cases h
   ·cases h
  ·cases h
 ·cases h
theorem ckB_spec {k l : CK} (h : ckB k l = true) : k = l := by
 cases k <;> cases l <;> simp_all [ckB]
theorem cksB_spec : ∀ {ks ls : List CK}, cksB ks ls = true -> ks = ls
 | [], [], _ => rfl
 | [], _ :: _, h => by cases h
 | _ :: _, [], h => by cases h
 | k :: ks, l :: ls, h => by
  unfold cksB at h
  split at h
  ·rename_i hk
   rw [ckB_spec hk, cksB_spec h]
  ·cases h
theorem elemOf_spec {P : Program} {t e : TypeId} (h : elemOf P t = some e) : P.underlying t = some (.slice e) := by
 unfold elemOf at h
 split at h
 ·cases h; assumption
 ·cases h
theorem Rowed.cells {w : World} {b ty cap m ks c} (h : Rowed w b ty cap m ks c) {n : Nat} (hn : n <= m) : ∀ q u, (cellsOf ks n c)[q]? = some u -> w.cell? ((⟨b, 0, none⟩ : Addr).add q) = some u := by
 intro q u hu
 obtain ⟨i, j, hi, hj, rfl, rfl⟩ := cellsOf_some hu
 rw [addr_add, Nat.zero_add]
 exact h.cell (by omega) hj
def Stands (w : World) (ks : List CK) (m : Nat) (c2 : NNI) (v : Value) : Prop :=
 ∃ a cap, v = .slice a m cap /\ (0 < m -> ∃ ad, a = some ad /\ ∀ q u, (cellsOf ks m c2)[q]? = some u -> w.cell? (ad.add q) = some u)
theorem rowed_cat {w : World} {b : Nat} {ty : TypeId} {cap n m : Nat} {ks : List CK} {c c2 : NNI} {cs rest : List Value} {z : Nat × Nat} (hb : w.heap[b]? = some (.cells ⟨cs⟩ ty z)) (hz : zOk z cs.length) (hcs : cs = cellsOf ks n c ++ cellsOf ks m c2 ++ rest)
  (hl : cs.length = cap * ks.length) (h1 : n + m <= cap) (h2 : cap <= maxLen) (h3 : 0 < ks.length) : Rowed w b ty cap (n + m) ks (catC n c c2) := by
 refine ⟨cs, z, hb, hz, hl, h1, h2, h3, fun i j hi hj => ?_⟩
 have key : cs[i * ks.length + j]? = some (mkCell (ks.getD j .bool) (catC n c c2 i j)) := by
  unfold catC
  have hlt : ∀ N, i < N -> i * ks.length + j < N * ks.length := fun N hN => by
   calc i * ks.length + j < i * ks.length + ks.length := by omega
    _ = (i + 1) * ks.length := by rw [Nat.add_mul, Nat.one_mul]
    _ <= N * ks.length := Nat.mul_le_mul_right _ hN
  by_cases h : i < n
  ·rw [show Nat.blt i n = true from Nat.ble_eq_true_of_le h, hcs, List.append_assoc, List.getElem?_append_left (by rw [cellsOf_length]; exact hlt n h)]
   exact cellsOf_at h hj
  ·rw [show Nat.blt i n = false by cases h' : Nat.blt i n with
    | false => rfl
    | true => exact absurd (Nat.le_of_ble_eq_true h') h, hcs, List.append_assoc, List.getElem?_append_right (by rw [cellsOf_length]; have := Nat.mul_le_mul_right ks.length (show n <= i by omega); omega),
    List.getElem?_append_left (by
     rw [cellsOf_length, cellsOf_length]
     have h1 := Nat.mul_le_mul_right ks.length (show n <= i by omega)
     have h2 := hlt (n + m) hi
     rw [Nat.add_mul] at h2
     omega), cellsOf_length]
   have e : i * ks.length + j - n * ks.length = (i - n) * ks.length + j := by
    rw [Nat.sub_mul]
    have := Nat.mul_le_mul_right ks.length (show n <= i by omega)
    omega
   rw [e]
   exact cellsOf_at (by omega) hj
 simp only [List.getD, key, Option.getD_some]
section
variable {P : Program} {w : World}
theorem app_zero (t ty e : TypeId) (i : TypeInfo) (ht : P.underlying t = some (.slice e)) (hi : P.info? e = some i) (a a2 : Option Addr) (n cap c2 : Nat) (hn : n <= cap) :
  (Builtin.append_ #[t, t] ty #[.slice a n cap, .slice a2 0 c2]).run P w = .ok (.slice a n cap) w := by
 cases a2 <;> cases a <;> simp [Builtin.append_, run_underlying ht, sizeOf, typeInfo, hi, Builtin.lenOf, Builtin.firstCells, hn, storeCells, loadCells, loadCellsFrom]
theorem app_gen {ts : Array TypeId} {ty e : TypeId} {ks : List CK} {by' : Nat} {i : TypeInfo} {z : Value} (hi : P.info? e = some i) (hsz : i.size = ks.length) (hbs : i.bytes = by') (hzs : z.cells.size = ks.length) (hk : 0 < ks.length) (hby0 : 0 < by') {lv : Bool} {bv xv : Value} {b k m : Nat} {c c2 : NNI}
  (H0 : m = 0 -> ∀ a n cap, n <= cap -> (Builtin.append_ ts ty #[.slice a n cap, xv]).run P w = .ok (.slice a n cap) w)
  (Hr : 0 < m -> ∀ cap cs zz, w.heap[b]? = some (.cells ⟨cs⟩ e zz) -> zOk zz cs.length -> k + m <= cap -> k * i.size + (cellsOf ks m c2).length <= cs.length ->
   (Builtin.append_ ts ty #[.slice (some ⟨b, 0, none⟩) k cap, xv]).run P w = .ok (.slice (some ⟨b, 0, none⟩) (k + m) cap) (w.setRow b (cs.take (k * i.size) ++ cellsOf ks m c2 ++ cs.drop (k * i.size + (cellsOf ks m c2).length)).toArray))
  (Hg : 0 < m -> ∀ (a : Addr) (k cap : Nat) (olds : List Value), olds.length = k * i.size -> (∀ j v, olds[j]? = some v -> w.cell? (a.add j) = some v) -> cap < k + m -> (k + m) * by' <= 140737488355328 -> ((k + m : Nat) : Int) <= 9223372036854775807 ->
   (Builtin.append_ ts ty #[.slice (some a) k cap, xv]).run P w = .ok (.slice (some ⟨w.heap.size, 0, none⟩) (k + m) (grownCap w (k + m) cap e))
    (w.drew.alloc (.cells (olds.toArray ++ (cellsOf ks m c2).toArray ++ Builtin.zeroCells z.cells (grownCap w (k + m) cap e - (k + m))) e)))
  (Hn : 0 < m -> ((m : Nat) : Int) <= 9223372036854775807 -> m * by' <= 140737488355328 -> (Builtin.append_ ts ty #[.slice none 0 0, xv]).run P w = .ok (.slice (some ⟨w.heap.size, 0, none⟩) m (grownCap w m 0 e)) (w.drew.alloc (.cells ((cellsOf ks m c2).toArray ++ Builtin.zeroCells z.cells (grownCap w m 0 e - m)) e)))
  (hb : (lv = true -> ∃ cap m0, bv = .slice (some ⟨b, 0, none⟩) k cap /\ Rowed w b e cap m0 ks c /\ k <= m0) /\ (lv = false -> k = 0 /\ ∃ a, bv = .slice a 0 0)) (hby : (k + m) * by' <= 140737488355328) :
  ∃ v' w' b', (Builtin.append_ ts ty #[bv, xv]).run P w = .ok v' w' /\ w'.os = w.os /\ w'.tape = w.tape /\ w'.output = w.output /\ w.heap.size <= w'.heap.size /\
   (∀ q, q < w.heap.size -> (lv = true -> q ≠ b) -> w'.heap[q]? = w.heap[q]?) /\ ((lv = true /\ b' = b) \/ w.heap.size <= b') /\
   ((Nat.blt 0 m || lv) = true -> ∃ cap, v' = .slice (some ⟨b', 0, none⟩) (k + m) cap /\ Rowed w' b' e cap (k + m) ks (catC k c c2)) /\ ((Nat.blt 0 m || lv) = false -> k + m = 0 /\ ∃ a, v' = .slice a 0 0) := by
 have h63 : k + m <= 140737488355328 := Nat.le_trans (Nat.le_mul_of_pos_right _ hby0) hby
 have hmax : k + m <= maxLen := by simp only [maxLen]; omega
 have hcap : ∀ old, k + m <= grownCap w (k + m) old e /\ grownCap w (k + m) old e <= maxLen := fun old => ⟨grownCap_ge w (k + m) old e, grownCap_le_maxLen w (k + m) old e hmax⟩
 by_cases hm : m = 0
 ·subst hm
  cases lv with
  | true =>
   obtain ⟨cap, m0, rfl, hr, hkm⟩ := hb.1 rfl
   obtain ⟨cs, zz, q1, qz, q2, q3, q4, q5, q6⟩ := hr
   refine ⟨_, w, b, H0 rfl _ _ _ (by omega), rfl, rfl, rfl, Nat.le_refl _, fun _ _ _ => rfl, .inl ⟨rfl, rfl⟩, fun _ => ⟨cap, rfl, ?_⟩, fun h => by cases h⟩
   refine ⟨cs, zz, q1, qz, q2, by omega, q4, q5, fun i j hi hj => ?_⟩
   rw [q6 i j (by omega) hj]
   unfold catC
   rw [show Nat.blt i k = true from Nat.ble_eq_true_of_le (by omega)]
  | false =>
   obtain ⟨rfl, a, rfl⟩ := hb.2 rfl
   exact ⟨_, w, w.heap.size, H0 rfl _ _ _ (Nat.le_refl _), rfl, rfl, rfl, Nat.le_refl _, fun _ _ _ => rfl, .inr (Nat.le_refl _), fun h => (by cases h), fun _ => ⟨rfl, a, rfl⟩⟩
 ·have hm0 : 0 < m := by omega
  have hlv : (Nat.blt 0 m || lv) = true := by rw [show Nat.blt 0 m = true from Nat.ble_eq_true_of_le (by omega)]; rfl
  have hl : (cellsOf ks m c2).length = m * i.size := by rw [cellsOf_length, hsz]
  -- a new block
  have grown : ∀ (old : Nat) (olds : List Value), olds = cellsOf ks k c -> ∀ w1 : World, w1 = w.drew.alloc (.cells (olds.toArray ++ (cellsOf ks m c2).toArray ++ Builtin.zeroCells z.cells (grownCap w (k + m) old e - (k + m))) e) ->
    w1.os = w.os /\ w1.tape = w.tape /\ w1.output = w.output /\ w.heap.size <= w1.heap.size /\ (∀ q, q < w.heap.size -> w1.heap[q]? = w.heap[q]?) /\ Rowed w1 w.heap.size e (grownCap w (k + m) old e) (k + m) ks (catC k c c2) := by
   intro old olds ho w1 hw1
   subst hw1
   subst ho
   refine ⟨rfl, rfl, rfl, by simp, fun q hq => heap_alloc_old w.drew _ _ hq, ?_⟩
   have hnew : (w.drew.alloc (.cells ((cellsOf ks k c).toArray ++ (cellsOf ks m c2).toArray ++ Builtin.zeroCells z.cells (grownCap w (k + m) old e - (k + m))) e)).heap[w.heap.size]? =
     some (.cells ⟨cellsOf ks k c ++ cellsOf ks m c2 ++ (Builtin.zeroCells z.cells (grownCap w (k + m) old e - (k + m))).toList⟩ e (0, 0)) := by
    rw [show w.heap.size = w.drew.heap.size from rfl, heap_alloc_new w.drew]
    congr 2
    apply Array.ext'
    simp
   refine rowed_cat hnew (.inl rfl) rfl ?_ (hcap old).1 (hcap old).2 hk
   simp only [List.length_append, cellsOf_length, Array.length_toList, size_zeroCells, hzs]
   rw [<- Nat.add_mul, <- Nat.add_mul]
   congr 1
   have := (hcap old).1
   omega
  cases lv with
  | true =>
   obtain ⟨cap, m0, rfl, hr, hkm⟩ := hb.1 rfl
   by_cases hroom : k + m <= cap
   ·obtain ⟨cs, zz, q1, qz, q2, q3, q4, q5, q6⟩ := hr
    have hfit : k * i.size + (cellsOf ks m c2).length <= cs.length := by
     rw [hl, hsz, <- Nat.add_mul]
     rw [q2]
     exact Nat.mul_le_mul_right _ hroom
    have hrun := Hr hm0 cap cs zz q1 qz hroom hfit
    refine ⟨_, _, b, hrun, rfl, rfl, rfl, by simp [World.setRow], fun q _ hq => ?_, .inl ⟨rfl, rfl⟩, fun _ => ⟨cap, rfl, ?_⟩, fun h => by rw [hlv] at h; cases h⟩
    ·simp only [World.setRow, Array.getElem?_modify]
     rw [if_neg (Ne.symm (hq rfl))]
    ·have htake : cs.take (k * ks.length) = cellsOf ks k c := by
      apply List.ext_getElem?
      intro q
      have hle : k * ks.length <= cs.length := by rw [q2]; exact Nat.mul_le_mul_right _ (by omega)
      by_cases hq : q < k * ks.length
      ·have hdm : q / ks.length < k := (Nat.div_lt_iff_lt_mul hk).2 hq
       have hmm : q % ks.length < ks.length := Nat.mod_lt _ hk
       have hqe : q = q / ks.length * ks.length + q % ks.length := by rw [Nat.mul_comm]; exact (Nat.div_add_mod q _).symm
       have h1 := q6 _ _ (Nat.lt_of_lt_of_le hdm hkm) hmm
       have h2 := cellsOf_at (c := c) hdm hmm
       rw [<- hqe] at h1 h2
       rw [List.getElem?_take, if_pos hq, h2]
       have hlt : q < cs.length := by omega
       simp [List.getD, hlt] at h1 ⊢
       exact h1
      ·rw [List.getElem?_eq_none (by simp; omega), List.getElem?_eq_none (by rw [cellsOf_length]; omega)]
     have hset := setRow_heap w b _ ((cs.take (k * i.size) ++ cellsOf ks m c2 ++ cs.drop (k * i.size + (cellsOf ks m c2).length)).toArray) e zz q1
     refine rowed_cat (rest := cs.drop (k * i.size + (cellsOf ks m c2).length)) hset (by rw [splice_length _ _ _ hfit]; exact qz) (by rw [hsz, htake]) ?_ hroom q4 hk
     rw [splice_length _ _ _ hfit]
     exact q2
   ·have hgrow := Hg hm0 ⟨b, 0, none⟩ k cap (cellsOf ks k c) (by rw [cellsOf_length, hsz]) (hr.cells hkm) (by omega) hby (by omega)
    obtain ⟨f1, f2, f3, f4, f5, f6⟩ := grown cap _ rfl _ rfl
    exact ⟨_, _, w.heap.size, hgrow, f1, f2, f3, f4, fun q hq _ => f5 q hq, .inr (Nat.le_refl _), fun _ => ⟨_, rfl, f6⟩, fun h => by rw [hlv] at h; cases h⟩
  | false =>
   obtain ⟨rfl, a, rfl⟩ := hb.2 rfl
   have h0 : cellsOf ks 0 c = [] := by simp [cellsOf]
   cases a with
   | none =>
    have hnil := Hn hm0 (by omega) (by rw [Nat.zero_add] at hby; exact hby)
    obtain ⟨f1, f2, f3, f4, f5, f6⟩ := grown 0 [] h0.symm _ rfl
    simp only [Nat.zero_add, List.nil_append, Array.empty_append, show ([] : List Value).toArray = #[] from rfl] at f1 f2 f3 f4 f5 f6 hnil
    refine ⟨_, _, w.heap.size, hnil, f1, f2, f3, f4, fun q hq _ => f5 q hq, .inr (Nat.le_refl _), fun _ => ⟨_, by rw [Nat.zero_add], ?_⟩, fun h => by rw [hlv] at h; cases h⟩
    rw [Nat.zero_add]
    exact f6
   | some a =>
    have hgrow := Hg hm0 a 0 0 (cellsOf ks 0 c) (by rw [h0]; simp) (fun j v h => by rw [h0] at h; simp at h) (by omega) hby (by omega)
    obtain ⟨f1, f2, f3, f4, f5, f6⟩ := grown 0 _ rfl _ rfl
    exact ⟨_, _, w.heap.size, hgrow, f1, f2, f3, f4, fun q hq _ => f5 q hq, .inr (Nat.le_refl _), fun _ => ⟨_, rfl, f6⟩, fun h => by rw [hlv] at h; cases h⟩
theorem room_run (t ty e : TypeId) (i : TypeInfo) (ht : P.underlying t = some (.slice e)) (hi : P.info? e = some i) (g sLen sCap : Nat) (cs : List Value) (z : Nat × Nat) (hg : w.heap[g]? = some (.cells ⟨cs⟩ e z)) (hz : zOk z cs.length)
  (a : Addr) (m c : Nat) (news : List Value) (hl : news.length = m * i.size) (hnews : ∀ j u, news[j]? = some u -> w.cell? (a.add j) = some u) (h1 : ∀ u ∈ news, u.oneCell' = true) (hroom : sLen + m <= sCap) (hfit : sLen * i.size + news.length <= cs.length) :
  (Builtin.append_ #[t, t] ty #[.slice (some ⟨g, 0, none⟩) sLen sCap, .slice (some a) m c]).run P w =
   .ok (.slice (some ⟨g, 0, none⟩) (sLen + m) sCap) (w.setRow g (cs.take (sLen * i.size) ++ news ++ cs.drop (sLen * i.size + news.length)).toArray) := by
 have hf := run_firstCells_some (P := P) w i.size m a m c news hl hnews
 have hst := storeCells_z P g (sLen * i.size) e z news 0 ⟨cs⟩ w hg hz (by simpa using hfit) h1
 simp only [Nat.add_zero] at hst
 simp [Builtin.append_, run_underlying ht, sizeOf, typeInfo, hi, Builtin.lenOf, hroom, hf, Addr.add_lit, hst]
theorem app_run {t ty e : TypeId} {ks : List CK} {by' : Nat} (ht : P.underlying t = some (.slice e)) (hinf : einf P e = some (ks, by')) {lv : Bool} {bv xv : Value} {b k m : Nat} {c c2 : NNI}
  (hb : (lv = true -> ∃ cap m0, bv = .slice (some ⟨b, 0, none⟩) k cap /\ Rowed w b e cap m0 ks c /\ k <= m0) /\ (lv = false -> k = 0 /\ ∃ a, bv = .slice a 0 0)) (hx : Stands w ks m c2 xv) (hby : (k + m) * by' <= 140737488355328) :
  ∃ v' w' b', (Builtin.append_ #[t, t] ty #[bv, xv]).run P w = .ok v' w' /\ w'.os = w.os /\ w'.tape = w.tape /\ w'.output = w.output /\ w.heap.size <= w'.heap.size /\
   (∀ q, q < w.heap.size -> (lv = true -> q ≠ b) -> w'.heap[q]? = w.heap[q]?) /\ ((lv = true /\ b' = b) \/ w.heap.size <= b') /\
   ((Nat.blt 0 m || lv) = true -> ∃ cap, v' = .slice (some ⟨b', 0, none⟩) (k + m) cap /\ Rowed w' b' e cap (k + m) ks (catC k c c2)) /\ ((Nat.blt 0 m || lv) = false -> k + m = 0 /\ ∃ a, v' = .slice a 0 0) := by
 obtain ⟨i, z, hi, hz, hsz, hbs, hzs, hzc, hk, hby0⟩ := einf_spec hinf
 obtain ⟨xa, xc, rfl, hx⟩ := hx
 have hl : (cellsOf ks m c2).length = m * i.size := by rw [cellsOf_length, hsz]
 refine app_gen (ts := #[t, t]) (z := z) hi hsz hbs hzs hk hby0 (fun h a n cap hn => ?_) (fun h cap cs zz q1 qz hroom hfit => ?_) (fun h a k cap olds ho hol hc hb' h63 => ?_) (fun h h63 hb' => ?_) hb hby
 ·subst h
  exact app_zero t ty e i ht hi _ _ _ _ _ hn
 ·obtain ⟨ad, rfl, hnews⟩ := hx h
  exact room_run t ty e i ht hi b k cap cs zz q1 qz ad m xc (cellsOf ks m c2) hl hnews cellsOf_one hroom hfit
 ·obtain ⟨ad, rfl, hnews⟩ := hx h
  exact run_append_grow (P := P) w t ty e i z ht hi hz a k cap olds ho hol ad m xc (cellsOf ks m c2) hl hnews hc h63 (by rw [hbs]; exact growslice_fits (by omega) hb')
 ·obtain ⟨ad, rfl, hnews⟩ := hx h
  exact run_append_nil (P := P) w t ty e i z ht hi hz ad m xc (cellsOf ks m c2) hl hnews h (by omega) (by rw [hbs]; omega)
theorem strCells_of (q : ByteArray) : Lib.strCells q = cellsOf [.int .u8] q.size fun i _ => byteA q i := by
 apply List.ext_getElem?
 intro j
 by_cases hj : j < q.size
 ·have h2 := cellsOf_at (ks := [.int .u8]) (c := fun i _ => byteA q i) hj (show 0 < ([CK.int .u8] : List CK).length by decide)
  have e : j * ([CK.int .u8] : List CK).length + 0 = j := by simp
  rw [e] at h2
  rw [h2]
  have hlt : j < q.data.toList.length := by rw [Array.length_toList]; exact hj
  unfold Lib.strCells
  rw [List.getElem?_map, List.getElem?_eq_getElem hlt]
  show some (Value.int .u8 _) = some (Value.int .u8 (byteA q j % 256))
  unfold byteA
  rw [List.getD_eq_getElem?_getD, List.getElem?_eq_getElem hlt]
  have hb : (q.data.toList[j]).toNat < 256 := (q.data.toList[j]).toNat_lt
  rw [Option.getD_some, Int.emod_eq_of_lt (by omega) (by omega)]
 ·rw [List.getElem?_eq_none (by rw [Lib.strCells_length]; omega), List.getElem?_eq_none (by rw [cellsOf_length]; simp; omega)]
theorem appT_run {t t' ty e : TypeId} {by' : Nat} (ht : P.underlying t = some (.slice e)) (ht' : P.underlying t' = some .string) (hinf : einf P e = some ([.int .u8], by')) {lv : Bool} {bv : Value} {q : ByteArray} {b k : Nat} {c : NNI}
  (hb : (lv = true -> ∃ cap m0, bv = .slice (some ⟨b, 0, none⟩) k cap /\ Rowed w b e cap m0 [.int .u8] c /\ k <= m0) /\ (lv = false -> k = 0 /\ ∃ a, bv = .slice a 0 0)) (hby : (k + q.size) * by' <= 140737488355328) :
  ∃ v' w' b', (Builtin.append_ #[t, t'] ty #[bv, .string q]).run P w = .ok v' w' /\ w'.os = w.os /\ w'.tape = w.tape /\ w'.output = w.output /\ w.heap.size <= w'.heap.size /\
   (∀ q, q < w.heap.size -> (lv = true -> q ≠ b) -> w'.heap[q]? = w.heap[q]?) /\ ((lv = true /\ b' = b) \/ w.heap.size <= b') /\
   ((Nat.blt 0 q.size || lv) = true -> ∃ cap, v' = .slice (some ⟨b', 0, none⟩) (k + q.size) cap /\ Rowed w' b' e cap (k + q.size) [.int .u8] (catC k c fun i _ => byteA q i)) /\ ((Nat.blt 0 q.size || lv) = false -> k + q.size = 0 /\ ∃ a, v' = .slice a 0 0) := by
 obtain ⟨i, z, hi, hz, hsz, hbs, hzs, hzc, hk, hby0⟩ := einf_spec hinf
 have hsz1 : i.size = 1 := hsz
 have hl : (cellsOf [.int .u8] q.size fun i _ => byteA q i).length = q.size * i.size := by rw [cellsOf_length, hsz]
 refine app_gen (ts := #[t, t']) (z := z) (c2 := fun i _ => byteA q i) hi hsz hbs hzs hk hby0 (fun h a n cap hn => ?_) (fun h cap cs zz q1 qz hroom hfit => ?_) (fun h a k cap olds ho hol hc hb' h63 => ?_) (fun h h63 hb' => ?_) hb hby
 ·have hq : q = ⟨#[]⟩ := by
   cases q with
   | mk d =>
    have : d.size = 0 := h
    rw [Array.eq_empty_of_size_eq_zero this]
  subst hq
  cases a <;> simp [Builtin.append_, run_underlying ht, run_underlying ht', sizeOf, typeInfo, hi, Builtin.lenOf, Builtin.firstCells, hn, storeCells, ByteArray.size]
 ·rw [<- strCells_of] at hfit ⊢
  have hf := Lib.run_firstCells_string (P := P) w 1 q
  have hst := storeCells_z P b (k * i.size) e zz (Lib.strCells q) 0 ⟨cs⟩ w q1 qz (by simpa using hfit) (Lib.strCells_oneCell q)
  simp only [Nat.add_zero] at hst
  rw [hsz1] at hst ⊢
  simp [Builtin.append_, run_underlying ht, run_underlying ht', sizeOf, typeInfo, hi, hsz1, Builtin.lenOf, hroom, hf, Addr.add_lit]
  simp at hst
  rw [hst]
  rfl
 ·rw [<- strCells_of]
  exact Lib.run_append_grow_string (P := P) w t t' ty e i z ht ht' hi hz a k cap olds ho hol q hc h63 (by rw [hbs]; exact growslice_fits (by omega) hb')
 ·rw [<- strCells_of]
  have := run_append_nil_string (P := P) w t t' ty e i z ht ht' hi hz q h (by omega) (by rw [hbs]; omega)
  rw [this]
  congr 4
  apply Array.ext'
  simp [Lib.strCells]
theorem zeros_at {z : Array Value} {ks : List CK} (hzs : z.size = ks.length) (hzc : ∀ j, j < ks.length -> z.toList.getD j undef = mkCell (ks.getD j .bool) 0) {f : Nat -> Value} (hf : ∀ q, f q = z[q % z.size]!) {i j : Nat} (hj : j < ks.length) : f (i * ks.length + j) = mkCell (ks.getD j .bool) 0 := by
 rw [hf, hzs, Nat.mul_comm, Nat.mul_add_mod, Nat.mod_eq_of_lt hj]
 have := hzc j hj
 have hlt : j < z.size := by omega
 simp [List.getD, hlt] at this
 simp [hlt, this]
theorem zeros_run {t tn ty e : TypeId} {ks : List CK} {by' : Nat} (ht : P.underlying t = some (.slice e)) {kn : IntKind} (htn : P.underlying tn = some (.int kn)) (hinf : einf P e = some (ks, by')) {L : Int} (h0 : 0 < L) (hby : L * by' <= 140737488355328) :
  ∃ v' w', (Builtin.append_ #[t, tn] ty #[.slice none 0 0, .int .i64 L]).run P w = .ok v' w' /\ w'.os = w.os /\ w'.tape = w.tape /\ w'.output = w.output /\ w.heap.size <= w'.heap.size /\ (∀ q, q < w.heap.size -> w'.heap[q]? = w.heap[q]?) /\
   ∃ cap, v' = .slice (some ⟨w.heap.size, 0, none⟩) L.toNat cap /\ Rowed w' w.heap.size e cap L.toNat ks fun _ _ => 0 := by
 obtain ⟨i, z, hi, hz, hsz, hbs, hzs, hzc, hk, hby0⟩ := einf_spec hinf
 obtain ⟨n, rfl⟩ : ∃ n : Nat, L = n := ⟨L.toNat, by omega⟩
 have hbyn : n * by' <= 140737488355328 := by
  have h : ((n * by' : Nat) : Int) <= 140737488355328 := by rw [Int.natCast_mul]; exact hby
  omega
 have h63 : n <= 140737488355328 := Nat.le_trans (Nat.le_mul_of_pos_right _ hby0) hbyn
 have hrun := Lib.run_append_nil_zeros (P := P) w t tn ty e i z .i64 kn ht htn hi hz n (by omega) (by rw [hsz]; exact hk) (by omega) (by rw [hbs]; omega)
 have hge := grownCap_ge w n 0 e
 have hle := grownCap_le_maxLen w n 0 e (by simp only [maxLen]; omega)
 refine ⟨_, _, hrun, rfl, rfl, rfl, by simp, fun q hq => heap_alloc_old w.drew _ _ hq, _, by rw [Int.toNat_natCast], ?_⟩
 rw [Int.toNat_natCast]
 have hnew : (w.drew.alloc (.cells (Builtin.zeroCells z.cells n ++ Builtin.zeroCells z.cells (grownCap w n 0 e - n)) e)).heap[w.heap.size]? =
   some (.cells ⟨(Builtin.zeroCells z.cells n).toList ++ (Builtin.zeroCells z.cells (grownCap w n 0 e - n)).toList⟩ e (0, 0)) := by
  rw [show w.heap.size = w.drew.heap.size from rfl, heap_alloc_new w.drew]
  congr 2
  apply Array.ext'
  simp
 refine ⟨_, _, hnew, .inl rfl, ?_, hge, hle, hk, fun i j hi' hj => ?_⟩
 ·simp only [List.length_append, Array.length_toList, size_zeroCells, hzs]
  rw [<- Nat.add_mul]
  congr 1
  omega
 ·have hlt : i * ks.length + j < n * ks.length := by
   calc i * ks.length + j < i * ks.length + ks.length := by omega
    _ = (i + 1) * ks.length := by rw [Nat.add_mul, Nat.one_mul]
    _ <= n * ks.length := Nat.mul_le_mul_right _ hi'
  have hz' := zeros_at hzs hzc (f := fun q => z.cells[q % z.cells.size]!) (fun _ => rfl) (i := i) hj
  rw [<- hz']
  simp only [List.getD]
  have hsz' : (Builtin.zeroCells z.cells n).toList.length = n * ks.length := by
   have h1 := size_zeroCells z.cells n
   rw [hzs] at h1
   exact (Array.length_toList (xs := Builtin.zeroCells z.cells n)).trans h1
  rw [List.getElem?_append_left (by omega)]
  simp [Builtin.zeroCells, hzs, hlt]
theorem make_run {t e : TypeId} {ks : List CK} {by' : Nat} (ht : P.underlying t = some (.slice e)) (hinf : einf P e = some (ks, by')) {L C : Int} (h0 : 0 <= L) (hLC : L <= C) (hby : C * by' <= 140737488355328) :
  ∃ v' w', (Instr.makeSlice t (.int .i64 L) (.int .i64 C)).run P w = .ok v' w' /\ w'.os = w.os /\ w'.tape = w.tape /\ w'.output = w.output /\ w.heap.size <= w'.heap.size /\ (∀ q, q < w.heap.size -> w'.heap[q]? = w.heap[q]?) /\
   ∃ cap, v' = .slice (some ⟨w.heap.size, 0, none⟩) L.toNat cap /\ Rowed w' w.heap.size e cap L.toNat ks fun _ _ => 0 := by
 obtain ⟨i, z, hi, hz, hsz, hbs, hzs, hzc, hk, hby0⟩ := einf_spec hinf
 obtain ⟨n, rfl⟩ : ∃ n : Nat, C = n := ⟨C.toNat, by omega⟩
 have hbyn : n * by' <= 140737488355328 := by
  have h : ((n * by' : Nat) : Int) <= 140737488355328 := by rw [Int.natCast_mul]; exact hby
  omega
 have h63 : n <= 140737488355328 := Nat.le_trans (Nat.le_mul_of_pos_right _ hby0) hbyn
 have hrun := run_make (P := P) w t e i z ht hi hz .i64 .i64 L n h0 hLC (by rw [hbs, Int.mul_comm]; omega) (by omega)
 rw [Int.toNat_natCast] at hrun
 refine ⟨_, _, hrun, rfl, rfl, rfl, by simp, fun q hq => heap_alloc_old w _ _ hq, n, rfl, ?_⟩
 refine ⟨(madeCells z.cells (n * i.size)).toList, (0, 0), ?_, .inl rfl, ?_, by omega, by simp only [maxLen]; omega, hk, fun i' j hi' hj => ?_⟩
 ·rw [heap_alloc_new]
 ·rw [Array.length_toList, size_madeCells, hsz]
 ·have hlt : i' * ks.length + j < n * ks.length := by
   calc i' * ks.length + j < i' * ks.length + ks.length := by omega
    _ = (i' + 1) * ks.length := by rw [Nat.add_mul, Nat.one_mul]
    _ <= n * ks.length := Nat.mul_le_mul_right _ (by omega)
  have hz' := zeros_at hzs hzc (f := fun q => z.cells[q % z.cells.size]!) (fun _ => rfl) (i := i') hj
  rw [<- hz']
  simp only [List.getD]
  simp [madeCells, hsz, hlt]
end
end Go.Ev
/- The sequential steps are sound. -/
namespace Go.Ev
open Go.RowKit
section
variable {P : Program} {GL : Nat -> AV} {Γ : List (Nat × Ctr)} {E : Ext} {N : Nat} {B : Nat -> Prop} {w0 w : World} {ρ : Gh} {s s' : List AV} {a : Act} {o : Oper} {sm : List (Nat × List Nat)}
 {K : Act -> World -> Prop} {Q : Exit -> Act -> World -> Prop}
theorem putRow_length (s : List AV) (g : Nat) (x : AV) (d : Option (Nat × Nat)) : (putRow s g x d).length = s.length := by
 cases d <;> simp [putRow, mapL_length]
theorem if_dst {α : Type} {d t : Nat} {x y : α} : (if (some d : Option Tmp) = some t then x else y) = if t = d then x else y := by
 by_cases h : t = d
 ·rw [if_pos h, if_pos (by rw [h])]
 ·rw [if_neg h, if_neg (fun e => h (by cases e; rfl))]
theorem at_putRow {g d k : Nat} {x : AV} (hg : g < s.length) (hd : d < s.length) : at' (putRow s g x (some (d, k))) = fun t => if (some d : Option Tmp) = some t then .sl g k else if t = g then x else kill1 g (at' s t) := by
 funext t
 unfold putRow
 simp only
 rw [at_set (by simp [mapL_length]; exact hd), at_set (by rw [mapL_length]; exact hg), at_mapL kill1_non]
 exact if_dst.symm
theorem at_putRow0 {g k : Nat} {x : AV} (hg : g < s.length) : at' (putRow s g x none) = fun t => if (none : Option Tmp) = some t then .sl g k else if t = g then x else kill1 g (at' s t) := by
 funext t
 unfold putRow
 simp only
 rw [at_set (by rw [mapL_length]; exact hg), at_mapL kill1_non]
 exact (if_neg (fun h => by cases h)).symm
theorem okSlot_spec {n v g d : Nat} (h : okSlot n v s g d = true) : v <= g /\ g < s.length /\ d < n /\ isOwn (at' s d) = false := by
 simp only [okSlot, Bool.and_eq_true, Bool.not_eq_true'] at h
 exact ⟨Nat.le_of_ble_eq_true h.1, Nat.le_of_ble_eq_true h.2.1, Nat.le_of_ble_eq_true h.2.2.1, h.2.2.2⟩
theorem isNilC_eval (hR : Rr E N B w0 ρ (at' s) a w) (hG : GOk w0 B GL) (hB : ∀ b, B b -> b < w0.heap.size /\ ¬ E.X b) {y : Operand} (hy : isNilC GL (at' s) y = true) : a.eval y = .slice none 0 0 := by
 unfold isNilC at hy
 split at hy
 ·rename_i e
  exact toV_eval hR hG hB (by rw [e]; rfl)
 ·cases hy
theorem isNilS_eval (hR : Rr E N B w0 ρ (at' s) a w) (hG : GOk w0 B GL) (hB : ∀ b, B b -> b < w0.heap.size /\ ¬ E.X b) {y : Operand} (hy : isNilS GL (at' s) y = true) : ∃ p, a.eval y = .slice p 0 0 := by
 unfold isNilS at hy
 split at hy
 ·rename_i e
  exact ⟨none, toV_eval hR hG hB (by rw [e]; rfl)⟩
 ·rename_i e
  have := evA_rep hR hG hB (x := y) (by rw [e]; rfl)
  rw [e] at this
  generalize a.eval y = v at this
  cases this with
  | nils p => exact ⟨p, rfl⟩
 ·cases hy
theorem nilS_sound (hR : Rr E N B w0 ρ (at' s) a w) (hl : s.length = N) (hG : GOk w0 B GL) (hB : ∀ b, B b -> b < w0.heap.size /\ ¬ E.X b) {x : Operand} (ho : o.op = .assign x)
  (h : nilS P GL E.n E.v sm s o x = some (true, s')) (hK : ∀ ρ' a' w', s'.length = N -> Rr E N B w0 ρ' (at' s') a' w' -> K a' w') : o.wp P a w K Q := by
 unfold nilS at h
 split at h
 ·rename_i g _ d e _ hd hn he
  split at h
  ·rename_i ks by' hinf hok
   cases h
   obtain ⟨k1, k2, k3, k4⟩ := okSlot_spec hok
   obtain ⟨pa, hnil⟩ := isNilS_eval hR hG hB hn
   have hdl : d < s.length := Nat.lt_of_lt_of_le k3 (by have := hR.vle; omega)
   have hs := hR.slot (g := g) ⟨k1, by omega⟩ (w' := w) rfl rfl rfl (Nat.le_refl _) (fun _ _ _ => rfl) (lv := false) (ty := e) (m := 0) (ks := ks) (c := fun _ _ => 0) (b' := 0) (fun h => by cases h) (fun _ => rfl) (fun h => by cases h)
    (d := some d) (v := .slice pa 0 0) (k := 0) (fun d' h => by cases h; exact ⟨k3, k4⟩) (fun d' _ => ⟨Nat.le_refl _, fun h => (by cases h), fun _ => ⟨rfl, pa, rfl⟩⟩)
   rw [<- at_putRow k2 hdl] at hs
   refine wp_value (v := .slice pa 0 0) (w' := w) (by simp [execOp, ho, hnil]) (hK _ _ _ (by rw [putRow_length]; exact hl) (by rw [hd]; exact hs))
  ·cases h
 ·cases h
theorem fresh_slot (hR : Rr E N B w0 ρ (at' s) a w) {g b' : Nat} (hb : w.heap.size <= b') : w0.heap.size <= b' /\ ¬ ρ.F b' /\ ∀ t, t ≠ g -> isOwn (at' s t) = true -> ρ.b t ≠ b' :=
 ⟨Nat.le_trans hR.blw.size hb, fun h => by have := (hR.frz _ h).2.1; omega, fun t _ ht => by have := hR.lt ht; omega⟩
theorem Rr.less {ρ : Gh} {σ σ' : Nat -> AV} {a : Act} {w : World} (hR : Rr E N B w0 ρ σ a w) (h : ∀ t, σ' t = σ t \/ σ' t = .non) (hr : ∀ t g, g ∈ sitesOf (σ' t) -> σ' g = σ g)
  (hv : ∀ t, E.n <= t -> t < E.v -> σ' t = σ t) : Rr E N B w0 ρ σ' a w := by
 have sl : ∀ t, isSlot (σ' t) = true -> σ' t = σ t := fun t ht => by
  rcases h t with e | e
  ·exact e
  ·rw [e] at ht; cases ht
 have key := hR.step (ρ' := ρ) (σ' := σ') (w' := w) (d := none) (v := undef) hR.blw (fun t ht => ?_) (fun _ h => h) (fun _ _ => rfl) (fun b hb => ?_)
  (fun t t' k1 k2 k3 => ?_) (fun t ht => ?_) (fun t ty c e => ?_) (fun t ty c e => ?_) (fun t lv ty m ks c e => ?_) (fun t k1 k2 => ?_)
 ·exact key
 ·rcases h t with e | e
  ·rw [e]; exact hR.out t ht
  ·exact e
 ·obtain ⟨k1, k2, k3⟩ := hR.frz b hb
  exact ⟨k1, k2, fun t ht => k3 t (by rw [<- sl t (isOwn_slot ht)]; exact ht)⟩
 ·exact hR.inj t t' (by rw [<- sl t (isOwn_slot k1)]; exact k1) (by rw [<- sl t' (isOwn_slot k2)]; exact k2) k3
 ·rcases h t with e | e
  ·have hr' := fun g hg => hr t g hg
   rw [e] at ht hr' ⊢
   exact (hR.val t ht).mono (fun b hb => ⟨hb, rfl⟩) fun g hg => by
    rw [hr' g hg]
    exact ⟨fun h => ⟨h, rfl⟩, fun _ => ⟨rfl, fun _ => ⟨rfl, rfl⟩⟩⟩
  ·rw [e]; exact Rep.non _
 ·rw [sl t (by rw [e]; rfl)] at e; exact hR.own t ty c e
 ·rw [sl t (by rw [e]; rfl)] at e; exact hR.vow t ty c e
 ·rw [sl t (by rw [e]; rfl)] at e; exact hR.row t lv ty m ks c e
 ·rw [hv t k1 k2]; exact hR.vir t k1 k2
theorem kill1_or (g : Nat) (x : AV) : kill1 g x = x \/ kill1 g x = .non := by
 unfold kill1
 split
 ·split
  ·exact .inr rfl
  ·exact .inl rfl
 ·split
  ·exact .inr rfl
  ·exact .inl rfl
theorem kill1_sites {g g0 : Nat} {x : AV} (h : g0 ∈ sitesOf (kill1 g x)) : g0 ≠ g /\ g0 ∈ sitesOf x := by
 unfold kill1 at h
 split at h
 ·rename_i l
  split at h
  ·simp [sitesOf, siteOf] at h
  ·rename_i hh
   refine ⟨fun e => ?_, h⟩
   subst e
   obtain ⟨y, hy, e⟩ := List.mem_filterMap.1 h
   obtain ⟨i, hi, rfl⟩ := List.getElem_of_mem hy
   have := anyHits_spec hh i hi
   simp [List.getD, hi, hits, e] at this
 ·rename_i hnt
  split at h
  ·simp [sitesOf, siteOf] at h
  ·rename_i hh
   refine ⟨fun e => ?_, h⟩
   subst e
   have e : siteOf x = some g0 := by cases x <;> simp_all [sitesOf]
   simp [hits, e] at hh
theorem VOk1.slot {w : World} {ρ : Gh} {σ : Nat -> AV} {x : AV} {u : Value} {g : Nat} (h : VOk1 w ρ σ x u) (hg : siteOf x = some g) : isSlot (σ g) = true := by
 cases x <;> simp only [siteOf, Option.some.injEq, reduceCtorEq] at hg <;> subst hg
 ·exact isOwn_slot (isBox_own h.2)
 ·obtain ⟨lv, ty, m, ks, c, h1, _⟩ := h; rw [h1]; rfl
 ·obtain ⟨ty, m, ks, c, h1, _⟩ := h; rw [h1]; rfl
theorem VOk.slot {w : World} {ρ : Gh} {σ : Nat -> AV} {x : AV} {u : Value} {g : Nat} (h : VOk w ρ σ x u) (hg : g ∈ sitesOf x) : isSlot (σ g) = true := by
 by_cases ht : ∃ l, x = .tup l
 ·obtain ⟨l, rfl⟩ := ht
  obtain ⟨cs, _, _, q⟩ := h
  obtain ⟨y, hy, e⟩ := List.mem_filterMap.1 hg
  obtain ⟨i, hi, rfl⟩ := List.getElem_of_mem hy
  have := q i hi
  simp only [List.getD, List.getElem?_eq_getElem hi, Option.getD_some] at this
  exact VOk1.slot this e
 ·have hn : ∀ l, x ≠ .tup l := fun l e => ht ⟨l, e⟩
  rw [VOk.one hn] at h
  have e : siteOf x = some g := by cases x <;> simp_all [sitesOf]
  exact h.slot e
theorem at_dropS {g : Nat} (hg : g < s.length) (t : Nat) : at' (dropS g s) t = if t = g then .non else kill1 g (at' s t) := by
 unfold dropS
 rw [at_set (by rw [mapL_length]; exact hg), at_mapL kill1_non]
theorem dropS_length (g : Nat) (s : List AV) : (dropS g s).length = s.length := by simp [dropS, mapL_length]
theorem Rr.dropS (hR : Rr E N B w0 ρ (at' s) a w) {g : Nat} (hv : E.v <= g) (hg : g < s.length) : Rr E N B w0 ρ (at' (dropS g s)) a w := by
 refine hR.less (fun t => ?_) (fun t g0 h0 => ?_) (fun t k1 k2 => ?_)
 ·rw [at_dropS hg]
  by_cases h : t = g
  ·rw [if_pos h]; exact .inr rfl
  ·rw [if_neg h]; exact kill1_or g _
 ·rw [at_dropS hg] at h0
  by_cases h : t = g
  ·rw [if_pos h] at h0; simp [sitesOf, siteOf] at h0
  ·rw [if_neg h] at h0
   obtain ⟨h1, h2⟩ := kill1_sites h0
   have hs : isSlot (at' s t) = false := by
    cases hx : isSlot (at' s t) with
    | false => rfl
    | true => exfalso; revert h2; cases e : at' s t <;> rw [e] at hx <;> first | (simp [sitesOf, siteOf]; done) | cases hx
   have := (hR.val t hs).slot h2
   rw [at_dropS hg, if_neg h1, kill1_slot this]
 ·rw [at_dropS hg, if_neg (by omega), kill1_slot (hR.vir t k1 k2).1]
theorem moveS_sound (hR : Rr E N B w0 ρ (at' s) a w) (hl : s.length = N) (hG : GOk w0 B GL) (hB : ∀ b, B b -> b < w0.heap.size /\ ¬ E.X b) {x : Operand} (ho : o.op = .assign x)
  (h : moveS GL E.n E.v sm s o x = some (true, s')) (hK : ∀ ρ' a' w', s'.length = N -> Rr E N B w0 ρ' (at' s') a' w' -> K a' w') : o.wp P a w K Q := by
 unfold moveS at h
 split at h
 ·rename_i g _ d g' k _ hd hx
  split at h
  ·rename_i lv ty m ks c e hok hv hne
   cases h
   obtain ⟨k1, k2, k3, k4⟩ := okSlot_spec hok
   have hv := Nat.le_of_ble_eq_true hv
   have hne : g' ≠ g := fun e => by subst e; rw [Nat.beq_refl] at hne; cases hne
   have hlt : g' < s.length := by
    apply Decidable.byContradiction
    intro hh
    rw [at_out (by omega)] at e
    cases e
   have hsl := evA_vok hR hG hB x
   rw [hx] at hsl
   obtain ⟨lv', ty', m', ks', c', q1, q2, q3, q4⟩ := (hsl : SlOk w ρ (at' s) g' k (a.eval x))
   rw [e] at q1
   cases q1
   obtain ⟨r1, r2, r3⟩ := hR.row g' _ _ _ _ _ e
   have hD := hR.dropS hv hlt
   have hdl : d < s.length := Nat.lt_of_lt_of_le k3 (by have := hR.vle; omega)
   have own : ∀ t, isOwn (at' (dropS g' s) t) = true -> t ≠ g' /\ isOwn (at' s t) = true := fun t ht => by
    rw [at_dropS hlt] at ht
    by_cases h : t = g'
    ·rw [if_pos h] at ht; cases ht
    ·rw [if_neg h, kill1_own] at ht; exact ⟨h, ht⟩
   have hs := hD.slot (g := g) ⟨k1, by omega⟩ (w' := w) rfl rfl rfl (Nat.le_refl _) (fun _ _ _ => rfl) (lv := lv) (ty := ty) (m := m) (ks := ks) (c := c) (b' := ρ.b g')
    (fun hlv => by
     have hown : isOwn (at' s g') = true := by rw [e, hlv]; rfl
     refine ⟨?_, fun hF => (hR.frz _ hF).2.2 g' hown rfl, fun t _ ht e => (own t ht).1 (hR.inj t g' (own t ht).2 hown e)⟩
     rcases (r3 hlv).1 with h | h
     ·exact h.1
     ·exact absurd hv (Nat.not_le_of_lt h.2)) r2 (fun hlv => (r3 hlv).2)
    (d := some d) (v := a.eval x) (k := k) (fun d' h => by
     cases h
     refine ⟨k3, ?_⟩
     cases ho : isOwn (at' (dropS g' s) d) with
     | false => rfl
     | true => rw [(own d ho).2] at k4; cases k4) (fun d' _ => ⟨q2, q3, q4⟩)
   rw [<- at_putRow (by rw [dropS_length]; exact k2) (by rw [dropS_length]; exact hdl)] at hs
   refine wp_value (v := a.eval x) (w' := w) (by simp [execOp, ho]) (hK _ _ _ (by rw [putRow_length, dropS_length]; exact hl) (by rw [hd]; exact hs))
  ·cases h
 ·cases h
theorem makeS_sound (hR : Rr E N B w0 ρ (at' s) a w) (hl : s.length = N) (hG : GOk w0 B GL) (hB : ∀ b, B b -> b < w0.heap.size /\ ¬ E.X b) {t : TypeId} {l c : Operand} (ho : o.op = .makeSlice t l c)
  (h : makeS P GL E.n E.v sm s o t l c = some (true, s')) (hK : ∀ ρ' a' w', s'.length = N -> Rr E N B w0 ρ' (at' s') a' w' -> K a' w') : o.wp P a w K Q := by
 unfold makeS at h
 split at h
 ·rename_i g _ d e _ hd he
  split at h
  ·rename_i ks by' L C hinf hok hL hC
   simp only [Option.some.injEq, Prod.mk.injEq, Bool.and_eq_true, decide_eq_true_eq] at h
   obtain ⟨⟨c1, c2, c3⟩, rfl⟩ := h
   obtain ⟨k1, k2, k3, k4⟩ := okSlot_spec hok
   have hdl : d < s.length := Nat.lt_of_lt_of_le k3 (by have := hR.vle; omega)
   have eL := intOf_eval hR hG hB hL
   have eC := intOf_eval hR hG hB hC
   obtain ⟨v', w', hrun, f1, f2, f3, f4, f5, cap, rfl, f6⟩ := make_run (w := w) (elemOf_spec he) hinf c1 c2 c3
   have hs := hR.slot (g := g) ⟨k1, by omega⟩ (w' := w') f1 f2 f3 f4 (fun q hq _ => f5 q hq) (lv := true) (ty := e) (m := L.toNat) (ks := ks) (c := fun _ _ => 0) (b' := w.heap.size) (fun _ => fresh_slot hR (Nat.le_refl _)) (fun h => by cases h) (fun _ => ⟨cap, f6⟩)
    (d := some d) (v := .slice (some ⟨w.heap.size, 0, none⟩) L.toNat cap) (k := L.toNat) (fun d' h => by cases h; exact ⟨k3, k4⟩) (fun d' _ => ⟨Nat.le_refl _, fun _ => ⟨cap, rfl, f6⟩, fun h => by cases h⟩)
   rw [<- at_putRow k2 hdl] at hs
   refine wp_value (w' := w') ?_ (hK _ _ _ (by rw [putRow_length]; exact hl) (by rw [hd]; exact hs))
   simp only [execOp, ho, eL, eC, Sem.run_bind, hrun, Result.andThen_ok]
   rfl
  ·cases h
 ·cases h
theorem rowsI_spec {Bb : Nat -> Prop} {ks : List CK} {r : Nat -> List AV} {f : Nat -> Nat -> Value} : ∀ (n i : Nat) (l : List (List Int)), rowsI ks r i n = some l -> (∀ q j, i <= q -> q < i + n -> j < (r q).length -> Rep w Bb ((r q).getD j .non) (f q j)) ->
  ∀ q j, q < n -> j < ks.length -> f (i + q) j = mkCell (ks.getD j .bool) (listC l q j)
 | 0, i, l, h, _, q, j, hq, _ => by omega
 | n + 1, i, l, h, hr, q, j, hq, hj => by
  unfold rowsI at h
  split at h
  ·rename_i xs hxs hlen
   split at h
   ·rename_i l' hl'
    cases h
    have hlen := Nat.eq_of_beq_eq_true hlen
    cases q with
    | zero =>
     obtain ⟨_, h2, _⟩ := cellsI_spec (w := w) (Bb := Bb) (vs := (List.range (r i).length).map (f i)) hxs (by simp) (fun j hj => by
      have := hr i j (Nat.le_refl _) (by omega) hj
      simpa [List.getD, hj] using this)
     have := h2 j (by omega)
     have hj' : j < (r i).length := by omega
     simp only [List.getD, List.getElem?_map, List.getElem?_range hj', Option.map_some, Option.getD_some] at this
     simpa [listC, List.getD] using this
    | succ q =>
     have := rowsI_spec n (i + 1) l' hl' (fun q j h1 h2 h3 => hr q j (by omega) (by omega) h3) q j (by omega) hj
     rw [show i + (q + 1) = i + 1 + q by omega, this]
     simp [listC]
   ·cases h
  ·cases h
theorem itemsOf_spec (hR : Rr E N B w0 ρ (at' s) a w) {ks : List CK} {x : AV} {v : Value} {m : Nat} {c2 : NNI} (h : itemsOf ks s x = some (m, c2)) (hv : VOk w ρ (at' s) x v) : Stands w ks m c2 v := by
 unfold itemsOf at h
 split at h
 ·rename_i m' ks' c
  split at h
  ·rename_i hk
   cases h
   have hk := cksB_spec hk
   subst hk
   have hv : Rep w ρ.F (.arr m ks' c2) v := hv
   cases hv with
   | arr _ _ _ _ hv =>
    cases hv with
    | nil => exact ⟨_, _, rfl, fun h => by omega⟩
    | lst _ _ _ b o cap f hB hn hk hc hr =>
     refine ⟨_, cap, rfl, fun _ => ⟨_, rfl, fun q u hu => ?_⟩⟩
     obtain ⟨i, j, hi, hj, rfl, rfl⟩ := cellsOf_some hu
     have h1 := hr i j hi hj
     rw [mkRow_getD _ _ _ hj] at h1
     have h2 := hc i j hi hj
     rw [addr_add, <- Nat.add_assoc, h2]
     generalize f i j = u at h1
     cases h1
     rfl
  ·cases h
 ·rename_i g m'
  split at h
  ·rename_i lv ty m0 ks' c e
   split at h
   ·rename_i hk
    cases h
    have hk := cksB_spec hk
    subst hk
    have hv : SlOk w ρ (at' s) g m v := hv
    obtain ⟨lv', ty', m1, ks1, c1, h1, h2, h3, h4⟩ := hv
    rw [e] at h1
    cases h1
    cases lv with
    | false =>
     obtain ⟨rfl, a', rfl⟩ := h4 rfl
     exact ⟨a', 0, rfl, fun h => by omega⟩
    | true =>
     obtain ⟨cap, rfl, hr⟩ := h3 rfl
     exact ⟨_, cap, rfl, fun _ => ⟨_, rfl, hr.cells h2⟩⟩
   ·cases h
  ·cases h
 ·rename_i m' k r
  split at h
  ·rename_i l hk hl
   cases h
   have hk := Nat.eq_of_beq_eq_true hk
   subst hk
   have hv : Rep w ρ.F (.lst m ks.length r) v := hv
   cases hv with
   | nil => exact ⟨_, _, rfl, fun h => by omega⟩
   | lst _ _ _ b o cap f hB hn hk hc hr =>
    refine ⟨_, cap, rfl, fun _ => ⟨_, rfl, fun q u hu => ?_⟩⟩
    obtain ⟨i, j, hi, hj, rfl, rfl⟩ := cellsOf_some hu
    have h2 := hc i j hi hj
    have h1 := rowsI_spec (w := w) (Bb := ρ.F) (f := f) m 0 l hl (fun q j _ hq hj => hr q j (by omega) (by rw [hk q (by omega)] at hj; exact hj)) i j hi hj
    rw [Nat.zero_add] at h1
    rw [addr_add, <- Nat.add_assoc, h2, h1]
  ·cases h
 ·cases h
  have hv : Rep w ρ.F .nils v := hv
  cases hv with
  | nils a => exact ⟨a, 0, rfl, fun h => by omega⟩
 ·cases h
  have hv : Rep w ρ.F (.val (.slice none 0 0)) v := hv
  cases hv
  exact ⟨none, 0, rfl, fun h => by omega⟩
 ·cases h
theorem baseOf_spec {v0 : Nat} (hR : Rr E N B w0 ρ (at' s) a w) {e : TypeId} {ks : List CK} {gs : List Nat} {x : AV} {v : Value} {g k : Nat} {lv : Bool} {c : NNI} (h : baseOf v0 e ks gs s x = some (g, lv, k, c)) (hv : VOk w ρ (at' s) x v) :
  (lv = true -> isOwn (at' s g) = true /\ (∃ cap m0, v = .slice (some ⟨ρ.b g, 0, none⟩) k cap /\ Rowed w (ρ.b g) e cap m0 ks c /\ k <= m0) /\ ∃ ty' m' ks' c', at' s g = .row true ty' m' ks' c') /\ (lv = false -> k = 0 /\ ∃ a, v = .slice a 0 0) := by
 unfold baseOf at h
 split at h
 ·rename_i g' n
  split at h
  ·rename_i lv' e' m ks' c' eg
   split at h
   ·rename_i h1 h2 h3
    cases h
    have h1 := Nat.eq_of_beq_eq_true h1
    have h2 := cksB_spec h2
    subst h1 h2
    have hv : SlOk w ρ (at' s) g k v := hv
    obtain ⟨lv', ty', m1, ks1, c1, q1, q2, q3, q4⟩ := hv
    rw [eg] at q1
    cases q1
    refine ⟨fun hl => ⟨by rw [eg]; exact hl, ?_, _, _, _, _, by rw [eg, hl]⟩, q4⟩
    obtain ⟨cap, f1, f2⟩ := q3 hl
    exact ⟨cap, m, f1, f2, q2⟩
   ·cases h
  ·cases h
 ·split at h
  ·cases h
   have hv : Rep w ρ.F .nils v := hv
   cases hv with
   | nils a => exact ⟨fun h => (by cases h), fun _ => ⟨rfl, a, rfl⟩⟩
  ·cases h
 ·split at h
  ·cases h
   have hv : Rep w ρ.F (.val (.slice none 0 0)) v := hv
   cases hv
   exact ⟨fun h => (by cases h), fun _ => ⟨rfl, none, rfl⟩⟩
  ·cases h
 ·cases h
theorem appT_sound (hR : Rr E N B w0 ρ (at' s) a w) (hl : s.length = N) (hG : GOk w0 B GL) (hB : ∀ b, B b -> b < w0.heap.size /\ ¬ E.X b) {args : Array Operand} {ts : Array TypeId} (ho : o.op = .call ⟨.builtin .append, args, ts⟩)
  (h : appT P GL E.n E.v sm s o args.toList ts.toList = some (true, s')) (hK : ∀ ρ' a' w', s'.length = N -> Rr E N B w0 ρ' (at' s') a' w' -> K a' w') : o.wp P a w K Q := by
 unfold appT at h
 split at h
 ·rename_i b x t t' d hargs hts hd
  have hargs' : args = #[b, x] := by apply Array.ext'; simpa using hargs
  have hts' : ts = #[t, t'] := by apply Array.ext'; simpa using hts
  subst hargs' hts'
  split at h
  ·rename_i e q he ht' hx
   split at h
   ·rename_i ks by' hinf
    split at h
    ·rename_i g lv k c hks hbase
     have hks := cksB_spec hks
     subst hks
     split at h
     ·rename_i hok
      simp only [Option.some.injEq, Prod.mk.injEq] at h
      obtain ⟨hc, rfl⟩ := h
      have hby := Nat.le_of_ble_eq_true hc
      obtain ⟨k1, k2, k3, k4⟩ := okSlot_spec hok
      have hdl : d < s.length := Nat.lt_of_lt_of_le k3 (by have := hR.vle; omega)
      have hbv := baseOf_spec hR hbase (evA_vok hR hG hB b)
      have ex : a.eval x = .string q := toV_eval hR hG hB (by rw [hx]; rfl)
      obtain ⟨v', w', b', hrun, f1, f2, f3, f4, f5, f6, f7, f8⟩ := appT_run (P := P) (ty := o.type) (b := ρ.b g) (q := q) (elemOf_spec he) ht' hinf ⟨fun h => (hbv.1 h).2.1, hbv.2⟩ hby
      rw [Bool.or_comm] at f7 f8
      have hs := hR.slot (g := g) ⟨k1, by omega⟩ (w' := w') f1 f2 f3 f4 (fun q hq hne => f5 q hq fun hlv => hne (hbv.1 hlv).1) (lv := lv || Nat.blt 0 q.size) (ty := e) (m := k + q.size) (ks := [.int .u8]) (c := catC k c fun i _ => byteA q i) (b' := b')
       (fun _ => by
        rcases f6 with ⟨hlv, rfl⟩ | h
        ·have hown := (hbv.1 hlv).1
         refine ⟨?_, fun hF => (hR.frz _ hF).2.2 g hown rfl, fun t ht1 ht2 e => ht1 (hR.inj t g ht2 hown e)⟩
         obtain ⟨ty', m', ks', c', e'⟩ := (hbv.1 hlv).2.2
         rcases ((hR.row _ _ _ _ _ _ e').2.2 rfl).1 with h | h
         ·exact h.1
         ·exact absurd k1 (Nat.not_le_of_lt h.2)
        ·exact fresh_slot hR h)
       (fun h => (f8 h).1) (fun h => by obtain ⟨cap, _, q⟩ := f7 h; exact ⟨cap, q⟩)
       (d := some d) (v := v') (k := k + q.size) (fun d' h => by cases h; exact ⟨k3, k4⟩) (fun d' _ => ⟨Nat.le_refl _, f7, f8⟩)
      rw [<- at_putRow k2 hdl] at hs
      refine wp_value (v := v') (w' := w') ?_ (hK _ _ _ (by rw [putRow_length]; exact hl) (by rw [hd]; exact hs))
      simp [execOp, ho, resolve, invoke, builtin, hrun, ex, Result.andThen]
     ·cases h
    ·cases h
   ·cases h
  ·cases h
 ·cases h
theorem buildS_sound (hR : Rr E N B w0 ρ (at' s) a w) (hl : s.length = N) (hG : GOk w0 B GL) (hB : ∀ b, B b -> b < w0.heap.size /\ ¬ E.X b) {t : TypeId} {m : Nat} {ps : Array (Nat × Operand)} (ho : o.op = .buildSlice t m ps)
  (h : buildS P GL E.n E.v sm s o t m ps = some (true, s')) (hK : ∀ ρ' a' w', s'.length = N -> Rr E N B w0 ρ' (at' s') a' w' -> K a' w') : o.wp P a w K Q := by
 unfold buildS at h
 split at h
 ·rename_i g _ d e _ hd he hall
  split at h
  ·rename_i ks by' cells z e' hinf hok hb
   split at h
   ·rename_i l h1 h2 hrows hm
    cases h
    have h1 := Nat.eq_of_beq_eq_true h1
    have h2 := Nat.eq_of_beq_eq_true h2
    have hm := Nat.le_of_ble_eq_true hm
    subst h1 h2
    obtain ⟨k1, k2, k3, k4⟩ := okSlot_spec hok
    obtain ⟨i, zv, hi, hz, hsz, hbs, hzs, hzc, hk, hby0⟩ := einf_spec hinf
    have hdl : d < s.length := Nat.lt_of_lt_of_le k3 (by have := hR.vle; omega)
    obtain ⟨hlen, hrun⟩ := bldS_run (w := w) hb
    have hmap : ps.map (fun (i, x) => (i, rhoOf GL (at' s) x)) = ps.map (fun (i, x) => (i, a.eval x)) := by
     apply Array.map_congr_left
     rintro ⟨i, x⟩ hx
     obtain ⟨v, hv⟩ := allV_spec _ hall x (List.mem_map.2 ⟨(i, x), by simpa using hx, rfl⟩)
     simp only [Prod.mk.injEq, true_and]
     rw [toV_eval hR hG hB hv]
     simp [rhoOf, hv]
    rw [hmap] at hrun
    have hpush : ∀ b, b < w.heap.size -> (w.heap.push (.cells ⟨cells⟩ e' (0, 0)))[b]? = w.heap[b]? := fun b hb => by rw [Array.getElem?_push, if_neg (by omega)]
    have hnew : (w.heap.push (.cells ⟨cells⟩ e' (0, 0)))[w.heap.size]? = some (.cells ⟨cells⟩ e' (0, 0)) := by simp
    have hlt : ∀ i j, i < m -> j < ks.length -> i * ks.length + j < cells.length := fun i j hi hj => by
     rw [hlen]
     calc i * ks.length + j < i * ks.length + ks.length := by omega
      _ = (i + 1) * ks.length := by rw [Nat.add_mul, Nat.one_mul]
      _ <= m * ks.length := Nat.mul_le_mul_right _ hi
    have f6 : Rowed { w with heap := w.heap.push (.cells ⟨cells⟩ e' (0, 0)) } w.heap.size e' m m ks (listC l) := by
     refine ⟨cells, (0, 0), hnew, .inl rfl, hlen, Nat.le_refl _, by simp only [maxLen]; omega, hk, fun i j hi hj => ?_⟩
     have := rowsI_spec (w := w) (Bb := ρ.F) (f := fun i j => cells.getD (i * ks.length + j) undef) m 0 l hrows (fun q j _ hq hj => by
      have hjk : j < ks.length := by simp at hj; omega
      have h1 := hlt q j (by omega) hjk
      have e1 : (((cells.drop (q * ks.length)).take ks.length).map ofCell).getD j .non = ofCell (cells.getD (q * ks.length + j) undef) := by
       simp [List.getD, List.getElem?_take, hjk, List.getElem?_drop, h1]
      rw [e1]
      exact rep_ofCell _) i j hi hj
     rw [Nat.zero_add] at this
     exact this
    have hs := hR.slot (g := g) ⟨k1, by omega⟩ (w' := { w with heap := w.heap.push (.cells ⟨cells⟩ e' (0, 0)) }) rfl rfl rfl (by simp) (fun q hq _ => hpush q hq) (lv := true) (ty := e') (m := m) (ks := ks) (c := listC l) (b' := w.heap.size)
     (fun _ => fresh_slot hR (Nat.le_refl _)) (fun h => by cases h) (fun _ => ⟨m, f6⟩)
     (d := some d) (v := .slice (some ⟨w.heap.size, 0, none⟩) m m) (k := m) (fun d' h => by cases h; exact ⟨k3, k4⟩) (fun d' _ => ⟨Nat.le_refl _, fun _ => ⟨m, rfl, f6⟩, fun h => by cases h⟩)
    rw [<- at_putRow k2 hdl] at hs
    refine wp_value (w' := { w with heap := w.heap.push (.cells ⟨cells⟩ e' (0, 0)) }) ?_ (hK _ _ _ (by rw [putRow_length]; exact hl) (by rw [hd]; exact hs))
    simp only [execOp, ho, Sem.run_bind, hrun]
    rfl
   ·cases h
  ·cases h
 ·cases h
theorem markS_sound (hR : Rr E N B w0 ρ (at' s) a w) (hl : s.length = N) (hG : GOk w0 B GL) (hB : ∀ b, B b -> b < w0.heap.size /\ ¬ E.X b) {src dst : TypeId} {x : Operand} (ho : o.op = .convert src dst x)
  (h : markS P GL E.n s o src dst x = some (true, s')) (hK : ∀ ρ' a' w', s'.length = N -> Rr E N B w0 ρ' (at' s') a' w' -> K a' w') : o.wp P a w K Q := by
 unfold markS at h
 split at h
 ·rename_i g k e hx hsd he
  have hsd := Nat.eq_of_beq_eq_true hsd
  subst hsd
  split at h
  ·rename_i ty m0 ks c0 eg hu8
   split at h
   ·rename_i c u hb
    cases h
    obtain ⟨hc, y, hy, hu⟩ := bindSet_spec hb
    cases hy
    obtain ⟨h1, h2⟩ := at_setAll (s := s) (u := u) (fun p hp => Nat.lt_of_lt_of_le (setD_lt hu p hp) (by have := hR.vle; omega))
    have hv := evA_vok hR hG hB x
    rw [hx] at hv
    obtain ⟨lv, ty', m1, ks', c1, q1, q2, q3, q4⟩ := hv
    rw [eg] at q1
    cases q1
    obtain ⟨cap, ev, hr⟩ := q3 rfl
    obtain ⟨cs, z, g1, gz, g2, g3⟩ := hr
    have ht := elemOf_spec he
    have hsh : w.shape? (ρ.b g) = some (ty, cs.length) := by simp [World.shape?, g1]
    have hcv : (convert src src (.slice (some ⟨ρ.b g, 0, none⟩) k cap)).run P w = .ok (.slice (some ⟨ρ.b g, 0, none⟩) k cap) (w.freeze ⟨ρ.b g, cs.length, none⟩ 1) := by
     simp [convert, run_underlying ht, run_underlying hu8, markStringish, hsh]
    have hfz : ∃ z', zOk z' cs.length /\ (w.freeze ⟨ρ.b g, cs.length, none⟩ 1).heap[ρ.b g]? = some (.cells ⟨cs⟩ ty z') := by
     obtain ⟨lo, hi⟩ := z
     refine ⟨if lo == hi then (cs.length, cs.length + 1) else (min lo cs.length, max hi (cs.length + 1)), ?_, ?_⟩
     ·right
      rcases gz with gz | gz
      ·cases gz
       exact Nat.le_refl _
      ·have gz : cs.length <= lo := gz
       split
       ·exact Nat.le_refl _
       ·show cs.length <= min lo cs.length
        omega
     ·simp only [World.freeze, if_neg (show ¬ (1 : Nat) = 0 by decide), Array.getElem?_modify, if_true, g1, Option.map_some]
    obtain ⟨z', hz', hg'⟩ := hfz
    have hw : ∀ b, b ≠ ρ.b g -> (w.freeze ⟨ρ.b g, cs.length, none⟩ 1).heap[b]? = w.heap[b]? := fun b hb => by
     simp only [World.freeze, if_neg (show ¬ (1 : Nat) = 0 by decide), Array.getElem?_modify]
     rw [if_neg (Ne.symm hb)]
    have hR1 := hR.rowPut eg (w' := w.freeze ⟨ρ.b g, cs.length, none⟩ 1) (c' := c0) (fun b hb => hw b (hb rfl)) (by simp [World.freeze]) rfl rfl rfl (fun _ cap' hrow => by
     obtain ⟨cs', z2, j1, jz, j2⟩ := hrow
     rw [g1] at j1
     cases j1
     exact ⟨cs, z', hg', hz', j2⟩)
    have hsame : upd (at' s) [(g, .row true ty m0 ks c0)] = at' s := by
     funext t
     by_cases e : t = g
     ·subst e; rw [upd_one_same, eg]
     ·rw [upd_one_ne e]
    rw [hsame] at hR1
    refine wp_value (v := .slice (some ⟨ρ.b g, 0, none⟩) k cap) (w' := w.freeze ⟨ρ.b g, cs.length, none⟩ 1) ?_ (hK _ _ _ (h1.trans hl) (by
     rw [h2]
     exact hR1.put0 hu ⟨rfl, true, ty, m0, ks, c0, eg, q2, fun _ => ⟨cap, rfl, cs, z', hg', hz', g2, g3⟩, fun h => by cases h⟩))
    simp only [execOp, ho, ev, Sem.run_bind, hcv]
    rfl
   ·cases h
  ·cases h
 ·cases h
theorem appS_sound (hR : Rr E N B w0 ρ (at' s) a w) (hl : s.length = N) (hG : GOk w0 B GL) (hB : ∀ b, B b -> b < w0.heap.size /\ ¬ E.X b) {args : Array Operand} {ts : Array TypeId} (ho : o.op = .call ⟨.builtin .append, args, ts⟩)
  (h : appS P GL E.n E.v sm s o args.toList ts.toList = some (true, s')) (hK : ∀ ρ' a' w', s'.length = N -> Rr E N B w0 ρ' (at' s') a' w' -> K a' w') : o.wp P a w K Q := by
 unfold appS at h
 split at h
 ·rename_i b x t t' d hargs hts hd
  have hargs' : args = #[b, x] := by apply Array.ext'; simpa using hargs
  have hts' : ts = #[t, t'] := by apply Array.ext'; simpa using hts
  subst hargs' hts'
  split at h
  ·rename_i e he
   split at h
   ·rename_i ks by' hinf
    split at h
    ·rename_i g lv k c htt hbase
     have htt := Nat.eq_of_beq_eq_true htt
     subst htt
     split at h
     ·rename_i m c2 hit hok
      simp only [Option.some.injEq, Prod.mk.injEq] at h
      obtain ⟨hc, rfl⟩ := h
      have hby := Nat.le_of_ble_eq_true hc
      obtain ⟨k1, k2, k3, k4⟩ := okSlot_spec hok
      have hdl : d < s.length := Nat.lt_of_lt_of_le k3 (by have := hR.vle; omega)
      have hbv := baseOf_spec hR hbase (evA_vok hR hG hB b)
      have hxv := itemsOf_spec hR hit (evA_vok hR hG hB x)
      obtain ⟨v', w', b', hrun, f1, f2, f3, f4, f5, f6, f7, f8⟩ := app_run (P := P) (ty := o.type) (b := ρ.b g) (elemOf_spec he) hinf ⟨fun h => (hbv.1 h).2.1, hbv.2⟩ hxv hby
      have hs := hR.slot (g := g) ⟨k1, by omega⟩ (w' := w') f1 f2 f3 f4 (fun q hq hne => f5 q hq fun hlv => hne (hbv.1 hlv).1) (lv := Nat.blt 0 m || lv) (ty := e) (m := k + m) (ks := ks) (c := catC k c c2) (b' := b')
       (fun _ => by
        rcases f6 with ⟨hlv, rfl⟩ | h
        ·have hown := (hbv.1 hlv).1
         refine ⟨?_, fun hF => (hR.frz _ hF).2.2 g hown rfl, fun t ht1 ht2 e => ht1 (hR.inj t g ht2 hown e)⟩
         obtain ⟨ty', m', ks', c', e'⟩ := (hbv.1 hlv).2.2
         rcases ((hR.row _ _ _ _ _ _ e').2.2 rfl).1 with h | h
         ·exact h.1
         ·exact absurd k1 (Nat.not_le_of_lt h.2)
        ·exact fresh_slot hR h)
       (fun h => (f8 h).1) (fun h => by obtain ⟨cap, _, q⟩ := f7 h; exact ⟨cap, q⟩)
       (d := some d) (v := v') (k := k + m) (fun d' h => by cases h; exact ⟨k3, k4⟩) (fun d' _ => ⟨Nat.le_refl _, f7, f8⟩)
      rw [<- at_putRow k2 hdl] at hs
      refine wp_value (v := v') (w' := w') ?_ (hK _ _ _ (by rw [putRow_length]; exact hl) (by rw [hd]; exact hs))
      simp [execOp, ho, resolve, invoke, builtin, hrun, Result.andThen]
     ·cases h
    ·rename_i g _ htt hbase
     split at h
     ·rename_i kn L hn htn hL hok
      simp only [Option.some.injEq, Prod.mk.injEq, Bool.and_eq_true, decide_eq_true_eq] at h
      obtain ⟨⟨c1, c2⟩, rfl⟩ := h
      obtain ⟨k1, k2, k3, k4⟩ := okSlot_spec hok
      have hdl : d < s.length := Nat.lt_of_lt_of_le k3 (by have := hR.vle; omega)
      have eb := isNilC_eval hR hG hB hn
      have eL := intOf_eval hR hG hB hL
      obtain ⟨v', w', hrun, f1, f2, f3, f4, f5, cap, rfl, f6⟩ := zeros_run (P := P) (w := w) (ty := o.type) (elemOf_spec he) htn hinf c1 c2
      have hs := hR.slot (g := g) ⟨k1, by omega⟩ (w' := w') f1 f2 f3 f4 (fun q hq _ => f5 q hq) (lv := true) (ty := e) (m := L.toNat) (ks := ks) (c := fun _ _ => 0) (b' := w.heap.size) (fun _ => fresh_slot hR (Nat.le_refl _)) (fun h => by cases h) (fun _ => ⟨cap, f6⟩)
       (d := some d) (v := .slice (some ⟨w.heap.size, 0, none⟩) L.toNat cap) (k := L.toNat) (fun d' h => by cases h; exact ⟨k3, k4⟩) (fun d' _ => ⟨Nat.le_refl _, fun _ => ⟨cap, rfl, f6⟩, fun h => by cases h⟩)
      rw [<- at_putRow k2 hdl] at hs
      refine wp_value (w' := w') ?_ (hK _ _ _ (by rw [putRow_length]; exact hl) (by rw [hd]; exact hs))
      simp [execOp, ho, resolve, invoke, builtin, eb, eL, hrun, Result.andThen]
     ·cases h
    ·cases h
   ·cases h
  ·cases h
 ·cases h
theorem plainS_sound (hΓ : Sound P GL Γ) (hR : Rr E N B w0 ρ (at' s) a w) (hl : s.length = N) (hG : GOk w0 B GL) (hB : ∀ b, B b -> b < w0.heap.size /\ ¬ E.X b)
  (h : plainS P GL Γ E.n s o = some (true, s')) (hK : ∀ ρ' a' w', s'.length = N -> Rr E N B w0 ρ' (at' s') a' w' -> K a' w') : o.wp P a w K Q := by
 unfold plainS at h
 split at h
 ·rename_i c u hu
  cases h
  obtain ⟨h1, h2⟩ := at_setAll (s := s) (u := u) (evOp_lt (M := s.length) (by have := hR.vle; omega) (fun t ht => at_out ht) hu)
  exact evOp_sound hΓ hR hG hB hu fun ρ' a' w' hR' => hK ρ' a' w' (h1.trans hl) (by rw [h2]; exact hR')
 ·cases h
theorem shortS_sound (hR : Rr E N B w0 ρ (at' s) a w) (hl : s.length = N) (hG : GOk w0 B GL) (hB : ∀ b, B b -> b < w0.heap.size /\ ¬ E.X b) {t : TypeId} {x : Operand} {l h' m : Option Operand} (ho : o.op = .slice t x l h' m)
  (h : shortS P GL E.n s o t x l h' m = some (true, s')) (hK : ∀ ρ' a' w', s'.length = N -> Rr E N B w0 ρ' (at' s') a' w' -> K a' w') : o.wp P a w K Q := by
 unfold shortS at h
 split at h
 ·rename_i g k H e hx hH he hs
  split at h
  ·rename_i c u hb
   cases h
   obtain ⟨hc, y, hy, hu⟩ := bindSet_spec hb
   cases hy
   simp only [Bool.and_eq_true, decide_eq_true_eq] at hc
   obtain ⟨h1, h2⟩ := at_setAll (s := s) (u := u) (fun p hp => Nat.lt_of_lt_of_le (setD_lt hu p hp) (by have := hR.vle; omega))
   have hv := evA_vok hR hG hB x
   rw [hx] at hv
   obtain ⟨lv, ty, m0, ks, c0, q1, q2, q3, q4⟩ := hv
   have ht := elemOf_spec he
   have hte : P.underlying t = some (.slice (P.elem t)) := by rw [ht]; simp [Program.elem, ht]
   cases h' with
   | none => cases hH
   | some hop =>
    have eH := intOf_eval hR hG hB hH
    have hsz : ∃ sz, pv P (sizeOf (P.elem t)) = some sz := by
     unfold shortSz at hs
     cases hp : pv P (sizeOf (P.elem t)) with
     | none => rw [hp] at hs; cases hs
     | some sz => exact ⟨sz, rfl⟩
    obtain ⟨sz, hsz⟩ := hsz
    have run : ∀ ad cap, a.eval x = .slice ad k cap -> k <= cap -> (execOp a.eval o).run P w = .ok (.value (sliced ad 0 H.toNat cap sz)) w := fun ad cap e hk => by
     have e1 := run_slice_h (P := P) w t ad k cap hte .i64 H (by omega) (by omega)
     simp only [execOp, ho, e, Option.map_none, Option.map_some, eH, Sem.run_bind, run_sliceAt_slice _ _ _ _ _ _ hte, e1, pv_run _ _ hsz]
     rfl
    cases lv with
    | false =>
     obtain ⟨rfl, ad, e⟩ := q4 rfl
     have hH0 : H.toNat = 0 := by omega
     refine wp_value (run ad 0 e (Nat.le_refl _)) (hK _ _ _ (h1.trans hl) (by
      rw [h2]
      exact hR.put0 hu ⟨rfl, false, ty, m0, ks, c0, q1, by omega, fun h => (by cases h), fun _ => ⟨hH0, ad, by rw [hH0]; rfl⟩⟩))
    | true =>
     obtain ⟨cap, e, hr⟩ := q3 rfl
     have hm : m0 <= cap := by obtain ⟨cs, _, _, _, _, h, _⟩ := hr; exact h
     refine wp_value (run _ cap e (by omega)) (hK _ _ _ (h1.trans hl) (by
      rw [h2]
      refine hR.put0 hu ⟨rfl, true, ty, m0, ks, c0, q1, by omega, fun _ => ⟨cap, ?_, hr⟩, fun h => by cases h⟩
      unfold sliced
      split
      ·simp
      ·simp [addr_add]))
  ·cases h
 ·cases h
end
end Go.Ev
/- The sequential steps are sound: calls; all of them. -/
namespace Go.Ev
open Go.RowKit
theorem frz0_tup {g : Nat} {ks c} {x : AV} (h : ∀ l, x ≠ .tup l) : ∀ l, frz0 g ks c x ≠ .tup l := by
 intro l e
 unfold frz0 at e
 split at e
 ·split at e <;> cases e
 ·split at e <;> cases e
 ·split at e <;> cases e
 ·exact h l e
theorem frz0_ns {g : Nat} {ks c} {x : AV} : isSlot (frz0 g ks c x) = isSlot x := by
 unfold frz0
 split <;> first | rfl | (split <;> rfl)
theorem frz1_ns {g : Nat} {ks c} {x : AV} : isSlot (frz1 g ks c x) = isSlot x := by
 unfold frz1
 split
 ·rfl
 ·exact frz0_ns
theorem frz1_slot {g : Nat} {ks c} {x : AV} (h : isSlot x = true) : frz1 g ks c x = x := by cases x <;> first | rfl | cases h
theorem mapL_getD {f : AV -> AV} (hf : f .non = .non) (l : List AV) (i : Nat) : (mapL f l).getD i .non = f (l.getD i .non) := at_mapL hf l i
section
variable {P : Program} {GL : Nat -> AV} {Γ : List (Nat × Ctr)} {E : Ext} {N : Nat} {B : Nat -> Prop} {w0 w : World} {ρ : Gh} {s s' : List AV} {a : Act} {o : Oper} {sm : List (Nat × List Nat)}
 {K : Act -> World -> Prop} {Q : Exit -> Act -> World -> Prop}
theorem frzS_length {g : Nat} : (frzS g s).length = s.length := by
 unfold frzS
 split
 ·simp [mapL_length]
 ·rfl
theorem Rr.frzS (hR : Rr E N B w0 ρ (at' s) a w) (hl : s.length = N) {g : Nat} (hg : E.v <= g) : ∃ ρ', Rr E N B w0 ρ' (at' (frzS g s)) a w := by
 unfold Ev.frzS
 split
 case h_2 => exact ⟨_, hR⟩
 rename_i lv ty m ks c e
 have hgN : g < N := by
  rcases Nat.lt_or_ge g N with h | h
  ·exact h
  ·have := hR.out g h; rw [e] at this; cases this
 have eσ : at' ((mapL (frz1 g ks c) s).set g .non) = fun t => if t = g then .non else frz1 g ks c (at' s t) := by
  funext t
  rw [at_set (by rw [mapL_length, hl]; exact hgN), at_mapL rfl]
 rw [eσ]
 let σ' : Nat -> AV := fun t => if t = g then .non else frz1 g ks c (at' s t)
 let F' : Nat -> Prop := fun b => ρ.F b \/ (lv = true /\ b = ρ.b g)
 have σg : σ' g = .non := if_pos rfl
 have σo : ∀ t, t ≠ g -> σ' t = frz1 g ks c (at' s t) := fun t h => if_neg h
 have so : ∀ t, isSlot (σ' t) = true -> t ≠ g /\ σ' t = at' s t /\ isSlot (at' s t) = true := fun t h => by
  by_cases ht : t = g
  ·subst ht; rw [σg] at h; cases h
  ·rw [σo t ht, frz1_ns] at h
   exact ⟨ht, by rw [σo t ht, frz1_slot h], h⟩
 have os : ∀ t, t ≠ g -> isSlot (at' s t) = true -> σ' t = at' s t := fun t h1 h2 => by rw [σo t h1, frz1_slot h2]
 have hF : ∀ b, ρ.F b -> F' b := fun b h => .inl h
 have v1 : ∀ y u, VOk1 w ρ (at' s) y u -> VOk1 w ⟨ρ.b, F'⟩ σ' (frz0 g ks c y) u := fun y u hy => by
  have keep : ∀ y, (∀ g', siteOf y = some g' -> g' ≠ g) -> VOk1 w ρ (at' s) y u -> VOk1 w ⟨ρ.b, F'⟩ σ' y u := fun y hne hy => hy.mono (fun b hb => ⟨hF b hb, rfl⟩) fun g' hg' => by
   have hsl : isSlot (at' s g') = true := by
    cases y <;> simp only [siteOf, Option.some.injEq, reduceCtorEq] at hg' <;> subst hg'
    ·exact isOwn_slot (isBox_own hy.2)
    ·obtain ⟨lv, ty, m, ks, c, h1, _⟩ := hy; rw [h1]; rfl
    ·obtain ⟨ty, m, ks, c, h1, _⟩ := hy; rw [h1]; rfl
   rw [os g' (hne g' hg') hsl]
   exact ⟨fun h => ⟨h, rfl⟩, fun _ => ⟨rfl, fun _ => ⟨rfl, rfl⟩⟩⟩
  cases y with
  | sl g' n =>
   simp only [frz0]
   split
   ·rename_i hh
    have hh := Nat.eq_of_beq_eq_true hh
    subst hh
    exact SlOk.rep (hy : SlOk w ρ (at' s) g' n u) e fun hl => .inr ⟨hl, rfl⟩
   ·rename_i hh
    exact keep _ (fun g2 h2 => by cases h2; exact Nat.ne_of_beq_eq_false hh) hy
  | rf g' i j =>
   simp only [frz0]
   split
   ·exact Rep.non _
   ·rename_i hh
    exact keep _ (fun g2 h2 => by cases h2; exact Nat.ne_of_beq_eq_false hh) hy
  | ref g' k =>
   simp only [frz0]
   split
   ·exact Rep.non _
   ·rename_i hh
    exact keep _ (fun g2 h2 => by cases h2; exact Nat.ne_of_beq_eq_false hh) hy
  | _ => exact keep _ (fun g' h => by cases h) hy
 have h := hR.step (ρ' := ⟨ρ.b, F'⟩) (σ' := σ') (w' := w) (d := none) (v := undef) hR.blw (fun t ht => ?_) hF (fun _ _ => rfl) (fun b hb => ?_)
  (fun t t' k1 k2 k3 => ?_) (fun t ht => ?_) (fun t ty1 c1 e1 => ?_) (fun t ty1 c1 e1 => ?_) (fun t lv1 ty1 m1 ks1 c1 e1 => ?_) (fun t k1 k2 => ?_)
 ·exact ⟨_, h⟩
 ·rw [σo t (fun h => by subst h; exact absurd hgN (Nat.not_lt_of_le ht)), hR.out t ht]; rfl
 ·rcases hb with hb | ⟨hlv, rfl⟩
  ·obtain ⟨k1, k2, k3⟩ := hR.frz b hb
   exact ⟨k1, k2, fun t ht => by
    obtain ⟨q1, q2, q3⟩ := so t (isOwn_slot ht)
    exact k3 t (by rw [<- q2]; exact ht)⟩
  ·have hown : isOwn (at' s g) = true := by rw [e]; exact hlv
   refine ⟨?_, hR.lt hown, fun t ht => ?_⟩
   ·have := ((hR.row g lv ty m ks c e).2.2 hlv).1
    rcases this with h | h
    ·exact .inr h.1
    ·exact absurd hg (Nat.not_le_of_lt h.2)
   ·obtain ⟨q1, q2, q3⟩ := so t (isOwn_slot ht)
    exact fun h => q1 (hR.inj t g (by rw [<- q2]; exact ht) hown h)
 ·obtain ⟨q1, q2, q3⟩ := so t (isOwn_slot k1)
  obtain ⟨q1', q2', q3'⟩ := so t' (isOwn_slot k2)
  exact hR.inj t t' (by rw [<- q2]; exact k1) (by rw [<- q2']; exact k2) k3
 ·by_cases hne : t = g
  ·subst hne; rw [σg]; exact Rep.non _
  ·rw [σo t hne] at ht ⊢
   rw [frz1_ns] at ht
   have hy := hR.val t ht
   show VOk w ⟨ρ.b, F'⟩ σ' (frz1 g ks c (at' s t)) (a.eval (.tmp t))
   generalize at' s t = y at hy
   cases y with
   | tup l =>
    obtain ⟨cs, q1, q2, q3⟩ := hy
    refine ⟨cs, q1, by rw [mapL_length]; exact q2, fun i hi => ?_⟩
    rw [mapL_getD rfl]
    exact v1 _ _ (q3 i (by rw [mapL_length] at hi; exact hi))
   | _ =>
    rw [VOk.one (fun l e => by cases e)] at hy
    have := v1 _ _ hy
    unfold frz1
    rw [VOk.one (frz0_tup (fun l e => by cases e))]
    exact this
 ·obtain ⟨q1, q2, q3⟩ := so t (by rw [e1]; rfl)
  rw [q2] at e1
  obtain ⟨f1, f2, cs, f3, f4, f5⟩ := hR.own t ty1 c1 e1
  exact ⟨f1, f2, cs, f3, f4, fun i hi => (f5 i hi).mono fun b hb => ⟨hF b hb, rfl⟩⟩
 ·obtain ⟨q1, q2, q3⟩ := so t (by rw [e1]; rfl)
  rw [q2] at e1
  obtain ⟨f1, cs, f3, f4, f5⟩ := hR.vow t ty1 c1 e1
  exact ⟨f1, cs, f3, f4, fun i hi => (f5 i hi).mono fun b hb => ⟨hF b hb, rfl⟩⟩
 ·obtain ⟨q1, q2, q3⟩ := so t (by rw [e1]; rfl)
  rw [q2] at e1
  exact hR.row t lv1 ty1 m1 ks1 c1 e1
 ·obtain ⟨f1, f2⟩ := hR.vir t k1 k2
  have hne : t ≠ g := fun h => by omega
  rw [os t hne f1]
  exact ⟨f1, f2⟩
theorem wp_callB (hΓ : Sound P GL Γ) (hR : Rr E N B w0 ρ (at' s) a w) (hG : GOk w0 B GL) (hB : ∀ b, B b -> b < w0.heap.size /\ ¬ E.X b)
  {g : Nat} {f : Operand} {args : Array Operand} {ts : Array TypeId} (hf : a.eval f = .func (.func g) #[] #[]) (ho : o.op = .call ⟨.value f, args, ts⟩) {s0 : Ctr} (hs : find Γ g = some s0) {as : List AV} (has : argsV (at' s) (args.toList.map (evA GL (at' s))) = some as)
  (hnd : nodupB (gsOf (args.toList.map (evA GL (at' s)))) = true) {y : AV} (hy : s0 as = some (true, y)) {ou : List (Nat × AV)} (hou : outU (at' s) (args.toList.map (evA GL (at' s))) (splitOut y).2 = some ou)
  (hret : ∀ v w' (B' : Nat -> Prop), w'.os = w.os -> w'.tape = w.tape -> w'.output = w.output -> w.heap.size <= w'.heap.size -> (∀ b, b < w.heap.size -> (∀ t, isOwn (at' s t) = true -> ρ.b t ≠ b) -> w'.heap[b]? = w.heap[b]?) ->
   (∀ b, B' b -> ((ρ.F b \/ hasSl (args.toList.map (evA GL (at' s))) = true) \/ w.heap.size <= b) /\ b < w'.heap.size) -> ResOk w w' B' (splitOut y).1 v ->
   (∀ t z, look ou t = some z -> ∃ ty c, tyC (at' s t) = some ty /\ z = reBox (at' s t) c /\ Boxed w' B' (ρ.b t) ty c) -> (∀ t, isOwn (at' s t) = true -> look ou t = none -> w'.heap[ρ.b t]? = w.heap[ρ.b t]?) -> K (a.put o.dst v) w') : o.wp P a w K Q := by
 revert hR has hnd hou hret
 generalize at' s = σ
 intro hR has hnd hou hret
 obtain ⟨⟨fn, hfn, hnm, hbd⟩, hc⟩ := hΓ g s0 hs
 obtain ⟨hlen, hav⟩ := argsV_spec has
 let xs := args.toList.map (evA GL σ)
 let Bc : Nat -> Prop := fun b => ρ.F b \/ (hasSl xs = true /\ ∃ g, isOwn (σ g) = true /\ isBox (σ g) = false /\ b = ρ.b g)
 have hBc : ∀ b, ρ.F b -> Bc b := fun b h => .inl h
 have hBlt : ∀ b, Bc b -> b < w.heap.size := fun b hb => by
  rcases hb with hb | ⟨_, g, h1, _, rfl⟩
  ·exact (hR.frz b hb).2.1
  ·exact hR.lt h1
 have hg' : GOk w Bc GL := by
  exact hG.mono fun b hb => ⟨.inl (hR.bf b hb), hR.blw.block b (hB b hb).1 (hB b hb).2⟩
 have hlen' : as.length = args.toList.length := by rw [hlen]; simp
 -- each argument
 have arg : ∀ i, i < as.length -> (∃ t ty c, (args.toList.map (evA GL σ)).getD i .non = .ref t 0 /\ as.getD i .non = .own ty c /\ boxC (σ t) = some c /\ tyC (σ t) = some ty /\
       (args.toList.map a.eval).getD i undef = .pointer (some ⟨ρ.b t, 0, none⟩)) \/
   (isRef ((args.toList.map (evA GL σ)).getD i .non) = false /\ isOwn (as.getD i .non) = false /\ Rep w Bc (as.getD i .non) ((args.toList.map a.eval).getD i undef)) := by
  intro i hi
  have hi' : i < args.toList.length := by omega
  have e1 : (args.toList.map (evA GL σ)).getD i .non = evA GL σ args.toList[i] := by simp only [List.getD, List.getElem?_map, List.getElem?_eq_getElem hi', Option.map_some, Option.getD_some]
  have e2 : (args.toList.map a.eval).getD i undef = a.eval args.toList[i] := by simp only [List.getD, List.getElem?_map, List.getElem?_eq_getElem hi', Option.map_some, Option.getD_some]
  rcases argV_spec (hav i (by omega)) with ⟨t, ty, c, f1, f2, f3, f4⟩ | ⟨t, n, lv, ty, m, ks, c, f1, f2, f3⟩ | ⟨f1, f2, f3, f4, f5⟩
  ·refine .inl ⟨t, ty, c, f1, f2, f3, f4, ?_⟩
   rw [e2]
   exact (evA_ref hR hG hB (e1 ▸ f1)).1
  ·refine .inr ⟨by rw [f1]; rfl, by rw [f3]; rfl, ?_⟩
   rw [f3, e2]
   have hv := evA_vok hR hG hB args.toList[i]
   rw [<- e1, f1] at hv
   exact SlOk.rep (hv : SlOk w ρ σ t n _) f2 fun hl => .inr ⟨by
    cases hh : hasSl xs with
    | true => rfl
    | false => exact absurd f1 (hasSl_spec hh i t n), t, by rw [f2]; exact hl, by rw [f2]; rfl, rfl⟩
  ·rw [f5, e1, e2]
   rw [e1] at f1 f2 f3 f4
   have hv := evA_vok hR hG hB args.toList[i]
   have hns := evA_ns hR hG hB args.toList[i]
   rcases rest_rep f1 f2 f3 f4 hns with hrep | ⟨x, os, e⟩
   ·have hr := hv.rep hrep
    exact .inr ⟨f1, notOwn_slot hr.notOwn, hr.mono fun b hb => ⟨.inl hb, rfl⟩⟩
   ·rw [e] at hv
    exact absurd hv (fun h : Rep w ρ.F (.out x os) _ => by cases h)
 let β : Nat -> Nat := fun i => match (args.toList.map (evA GL σ)).getD i .non with
  | .ref t _ => ρ.b t
  | _ => 0
 have hβ : ∀ i t k, (args.toList.map (evA GL σ)).getD i .non = .ref t k -> β i = ρ.b t := fun i t k e => by simp only [β, e]
 have boxNB : ∀ t, isBox (σ t) = true -> ¬ Bc (ρ.b t) := fun t ht hb => by
  rcases hb with hb | ⟨_, g, h1, h2, h3⟩
  ·exact (hR.frz _ hb).2.2 t (isBox_own ht) rfl
  ·have := hR.inj t g (isBox_own ht) h1 h3
   subst this
   rw [ht] at h2; cases h2
 have hcall := hc as y hy w Bc (args.toList.map a.eval) β hBlt hg' (by simpa using hlen') (fun i hi => by
  rcases arg i hi with ⟨t, ty, c, f1, f2, f3, f4, f5⟩ | ⟨f1, f2, f3⟩
  ·rw [f2, f5, hβ i t 0 f1]
   obtain ⟨g1, ty', g2, g3⟩ := box_cells hR f3
   rw [f4] at g2
   cases g2
   exact ⟨rfl, boxNB t g1, g3.mono hBc⟩
  ·exact ArgOk.of_rep f3) (fun i j hi hj oi oj e => by
  rcases arg i hi with ⟨t, ty, c, f1, f2, f3, f4, f5⟩ | ⟨f1, f2, f3⟩
  ·rcases arg j hj with ⟨t', ty', c', f1', f2', f3', f4', f5'⟩ | ⟨f1', f2', f3'⟩
   ·rw [hβ i t 0 f1, hβ j t' 0 f1'] at e
    have := hR.inj t t' (isBox_own (box_cells hR f3).1) (isBox_own (box_cells hR f3').1) e
    subst this
    exact nodup_spec hnd f1 f1'
   ·rw [oj] at f2'; cases f2'
  ·rw [oi] at f2; cases f2)
 have hrun : (execOp a.eval o).run P w = .ok (.enter g ⟨args.toList.map a.eval⟩) w := by
  obtain ⟨dst, op, type, pos, after, guard⟩ := o
  simp only at ho
  subst ho
  have e : (⟨args.toList.map a.eval⟩ : Array Value) = args.map a.eval := by
   apply Array.ext'
   simp
  have := callFunc_run (P := P) (w := w) (args := args.map a.eval) hfn hnm hbd
  rw [e]
  simpa [execOp, resolve, hf, Deferred.ofValue, invoke] using this
 unfold Oper.wp
 rw [hrun]
 show Calls P g _ w _
 refine hcall.mono ?_
 rintro e w' ⟨v, rfl, hbw, B', hB', hres, hout⟩
 have hX : ∀ b, (∃ i, i < as.length /\ isOwn (as.getD i .non) = true /\ b = β i) -> ∃ i t, (args.toList.map (evA GL σ)).getD i .non = .ref t 0 /\ isBox (σ t) = true /\ b = ρ.b t := by
  rintro b ⟨i, hi, hio, rfl⟩
  rcases arg i hi with ⟨t, ty, c, f1, f2, f3, f4, f5⟩ | ⟨f1, f2, f3⟩
  ·exact ⟨i, t, f1, tyC_own f4, hβ i t 0 f1⟩
  ·rw [hio] at f2; cases f2
 exact hret v w' B' hbw.os hbw.tape hbw.output hbw.size (fun b hb hn => hbw.block b hb fun hx => by
   obtain ⟨i, t, _, h2, h3⟩ := hX b hx
   exact hn t (isBox_own h2) h3.symm) (fun b hb => by
   obtain ⟨h1, h2⟩ := hB' b hb
   refine ⟨?_, h2⟩
   rcases h1 with (h1 | ⟨h1, _⟩) | h1
   ·exact .inl (.inl h1)
   ·exact .inl (.inr h1)
   ·exact .inr h1) hres (fun t z hz => by
   obtain ⟨i, k, c, e1, e2, e3, e4⟩ := (outU_spec (t := t) hou).1 z hz
   have hi : i < as.length := by rw [hlen]; exact e1
   rcases arg i hi with ⟨t', ty, c', f1, f2, f3, f4, f5⟩ | ⟨f1, f2, f3⟩
   ·rw [e2] at f1
    cases f1
    have ho := hout i hi
    rw [f2] at ho
    obtain ⟨c2, g1, g2⟩ := ho
    rw [e3] at g1
    cases g1
    rw [hβ i t 0 e2] at g2
    exact ⟨ty, c, f4, e4, g2⟩
   ·rw [e2] at f1; cases f1) (fun t ht hn => hbw.block _ (hR.lt ht) fun hx => by
   obtain ⟨i, t', h1, h2, h3⟩ := hX _ hx
   have := hR.inj t t' ht (isBox_own h2) h3
   subst this
   exact (outU_spec (t := t) hou).2 hn i 0 h1)
def Placed (w w' : World) (B' : Nat -> Prop) (l : List AV) (rs : List (Nat × AV)) (l' : List AV) (cs : List Value) (bs : Nat -> Nat) : Prop :=
  ∃ γ : Nat -> Nat, (∀ p ∈ rs, ∃ lv ty m ks c, p.2 = .row lv ty m ks c /\ (lv = false -> m = 0) /\ (lv = true -> w.heap.size <= γ p.1 /\ γ p.1 < w'.heap.size /\ ¬ B' (γ p.1) /\ ∃ cap, Rowed w' (γ p.1) ty cap m ks c)) /\
   (∀ p ∈ rs, isOwn p.2 = true -> ∃ i, i < l.length /\ isOwn (l.getD i .non) = true /\ γ p.1 = bs i) /\ (∀ p ∈ rs, ∀ p' ∈ rs, isOwn p.2 = true -> isOwn p'.2 = true -> γ p.1 = γ p'.1 -> p.1 = p'.1) /\ l'.length = cs.length /\
   ∀ (σ' : Nat -> AV) (ρ' : Gh), (∀ p ∈ rs, σ' p.1 = p.2 /\ (isOwn p.2 = true -> ρ'.b p.1 = γ p.1)) -> ((∀ b, B' b -> ρ'.F b) \/ allFree l = true) -> ∀ i, i < l'.length -> VOk1 w' ρ' σ' (l'.getD i .non) (cs.getD i undef)
theorem placeL_spec {w' : World} {B' : Nat -> Prop} : ∀ (l : List AV) (gs : List Nat) (l' : List AV) (rs : List (Nat × AV)) (cs : List Value) (bs : Nat -> Nat), placeL l gs = some (l', rs) -> l.length = cs.length ->
  (∀ i, i < l.length -> ResOk1 w w' B' (bs i) (l.getD i .non) (cs.getD i undef)) -> (∀ i j, i < l.length -> j < l.length -> isOwn (l.getD i .non) = true -> isOwn (l.getD j .non) = true -> bs i = bs j -> i = j) -> nodupB (rs.map (·.1)) = true ->
  Placed w w' B' l rs l' cs bs
 | [], gs, l', rs, cs, bs, h, hl, hr, hinj, hnd => by
  cases h
  cases cs with
  | nil => exact ⟨bs, fun p hp => (by cases hp), fun p hp => (by cases hp), fun p hp => (by cases hp), rfl, fun _ _ _ _ i hi => absurd hi (Nat.not_lt_zero _)⟩
  | cons c cs => simp at hl
 | x :: l, gs, l', rs, cs, bs, h, hl, hr, hinj, hnd => by
  cases cs with
  | nil => simp at hl
  | cons v cs =>
   have h0 := hr 0 (by simp)
   simp only [List.getD_cons_zero] at h0
   have hr' : ∀ i, i < l.length -> ResOk1 w w' B' (bs (i + 1)) (l.getD i .non) (cs.getD i undef) := fun i hi => by simpa using hr (i + 1) (by simpa using hi)
   have hinj' : ∀ i j, i < l.length -> j < l.length -> isOwn (l.getD i .non) = true -> isOwn (l.getD j .non) = true -> bs (i + 1) = bs (j + 1) -> i = j := fun i j hi hj h1 h2 h3 => by
    have := hinj (i + 1) (j + 1) (by simpa using hi) (by simpa using hj) (by simpa using h1) (by simpa using h2) h3
    omega
   -- a plain element
   have plain : ∀ l2 rs2, placeL l gs = some (l2, rs2) -> l' = x :: l2 -> rs = rs2 -> (∀ lv ty m ks c, x ≠ .row lv ty m ks c) -> (∀ t c, x ≠ .own t c) -> Placed w w' B' (x :: l) rs l' (v :: cs) bs := fun l2 rs2 hp e1 e2 hx1 hx2 => by
    subst e1 e2
    obtain ⟨γ, g1, g2, g3, g4, g5⟩ := placeL_spec l gs l2 rs cs (fun i => bs (i + 1)) hp (by simpa using hl) hr' hinj' hnd
    have hrep : Rep w' B' x v := by cases x <;> first | exact h0 | exact absurd rfl (hx1 _ _ _ _ _) | exact absurd rfl (hx2 _ _)
    exact ⟨γ, g1, fun p hp ho => by obtain ⟨i, q1, q2, q3⟩ := g2 p hp ho; exact ⟨i + 1, by simpa using q1, by simpa using q2, q3⟩, g3, by simp [g4], fun σ' ρ' q1 q2 i hi => by
     cases i with
     | zero =>
      simp only [List.getD_cons_zero]
      refine Rep.vok1 ?_
      rcases q2 with q2 | q2
      ·exact hrep.mono fun b hb => ⟨q2 b hb, rfl⟩
      ·unfold allFree at q2
       split at q2
       ·rename_i hm; exact memFree1_rep hm hrep
       ·cases q2
     | succ i =>
      simp only [List.getD_cons_succ]
      refine g5 σ' ρ' q1 (q2.imp id fun q2 => ?_) i (by simpa using hi)
      unfold allFree at q2
      split at q2
      ·exact q2
      ·cases q2⟩
   by_cases hrow : ∃ lv ty m ks c g gs', x = .row lv ty m ks c /\ gs = g :: gs'
   ·obtain ⟨lv, ty, m, ks, c, g, gs', rfl, rfl⟩ := hrow
    simp only [placeL] at h
    split at h
    ·rename_i l2 rs2 hp
     cases h
     simp only [List.map_cons] at hnd
     have hnd' : memB g (rs2.map (·.1)) = false /\ nodupB (rs2.map (·.1)) = true := by
      unfold nodupB at hnd
      split at hnd
      ·cases hnd
      ·exact ⟨by assumption, hnd⟩
     have hne : ∀ p ∈ rs2, p.1 ≠ g := fun p hp e => memB_spec hnd'.1 (e ▸ List.mem_map.2 ⟨p, hp, rfl⟩)
     obtain ⟨γ, g1, g2, g3, g4, g5⟩ := placeL_spec l gs' l2 rs2 cs (fun i => bs (i + 1)) hp (by simpa using hl) hr' hinj' hnd'.2
     have γo : ∀ p ∈ rs2, (if p.1 = g then bs 0 else γ p.1) = γ p.1 := fun p hp => if_neg (hne p hp)
     refine ⟨fun t => if t = g then bs 0 else γ t, fun p hp => ?_, fun p hp ho => ?_, fun p hp p' hp' ho ho' he => ?_, by simp [g4], fun σ' ρ' q1 q2 i hi => ?_⟩
     ·rcases List.mem_cons.1 hp with rfl | hp
      ·refine ⟨lv, ty, m, ks, c, rfl, fun h => (h0.2 h).1, fun h => ?_⟩
       obtain ⟨cap, _, k1, k2, k3, k4⟩ := h0.1 h
       simp only [if_true]
       exact ⟨k1, k2, k3, cap, k4⟩
      ·simp only [γo p hp]
       exact g1 p hp
     ·rcases List.mem_cons.1 hp with rfl | hp
      ·exact ⟨0, by simp, ho, by simp⟩
      ·obtain ⟨i, q1, q2, q3⟩ := g2 p hp ho
       exact ⟨i + 1, by simpa using q1, by simpa using q2, by simp only [γo p hp]; exact q3⟩
     ·rcases List.mem_cons.1 hp with rfl | hp
      ·rcases List.mem_cons.1 hp' with rfl | hp'
       ·rfl
       ·exfalso
        obtain ⟨i, q1, q2, q3⟩ := g2 p' hp' ho'
        simp only [if_true, γo p' hp'] at he
        have := hinj 0 (i + 1) (by simp) (by simpa using q1) ho (by simpa using q2) (by rw [he, q3])
        omega
      ·rcases List.mem_cons.1 hp' with rfl | hp'
       ·exfalso
        obtain ⟨i, q1, q2, q3⟩ := g2 p hp ho
        simp only [if_true, γo p hp] at he
        have := hinj 0 (i + 1) (by simp) (by simpa using q1) ho' (by simpa using q2) (by rw [<- he, q3])
        omega
       ·simp only [γo p hp, γo p' hp'] at he
        exact g3 p hp p' hp' ho ho' he
     ·cases i with
      | zero =>
       simp only [List.getD_cons_zero]
       obtain ⟨k1, k2⟩ := q1 (g, .row lv ty m ks c) (by simp)
       refine ⟨lv, ty, m, ks, c, k1, Nat.le_refl _, fun h => ?_, h0.2⟩
       obtain ⟨cap, e, _, _, _, k4⟩ := h0.1 h
       have : ρ'.b g = bs 0 := by rw [k2 h]; simp
       rw [this]
       exact ⟨cap, e, k4⟩
      | succ i =>
       simp only [List.getD_cons_succ]
       refine g5 σ' ρ' (fun p hp => ?_) (q2.imp id fun q2 => ?_) i (by simpa using hi)
       ·have := q1 p (by simp [hp])
        simp only [γo p hp] at this
        exact this
       ·unfold allFree at q2
        split at q2
        ·exact q2
        ·cases q2
    ·cases h
   ·have key : ∃ l2 rs2, placeL l gs = some (l2, rs2) /\ l' = x :: l2 /\ rs = rs2 /\ (∀ lv ty m ks c, x ≠ .row lv ty m ks c) /\ (∀ t c, x ≠ .own t c) := by
     cases x with
     | row lv ty m ks c =>
      cases gs with
      | nil => simp [placeL] at h
      | cons g gs' => exact absurd ⟨_, _, _, _, _, _, _, rfl, rfl⟩ hrow
     | own t c => simp [placeL] at h
     | _ =>
      simp only [placeL] at h
      split at h
      ·rename_i l2 rs2 hp
       cases h
       exact ⟨l2, _, hp, rfl, rfl, fun _ _ _ _ _ e => (by cases e), fun _ _ e => (by cases e)⟩
      ·cases h
    obtain ⟨l2, rs2, k1, k2, k3, k4, k5⟩ := key
    exact plain l2 rs2 k1 k2 k3 k4 k5
theorem placeX_spec {w' : World} {B' : Nat -> Prop} {x y : AV} {v : Value} {gs : List Nat} {rs : List (Nat × AV)} (hx : placeX x gs = some (y, rs)) (h : ResOk w w' B' x v) (hnd : nodupB (rs.map (·.1)) = true) :
  ∃ γ : Nat -> Nat, (∀ p ∈ rs, ∃ lv ty m ks c, p.2 = .row lv ty m ks c /\ (lv = false -> m = 0) /\ (lv = true -> w.heap.size <= γ p.1 /\ γ p.1 < w'.heap.size /\ ¬ B' (γ p.1) /\ ∃ cap, Rowed w' (γ p.1) ty cap m ks c)) /\
   (∀ p ∈ rs, ∀ p' ∈ rs, isOwn p.2 = true -> isOwn p'.2 = true -> γ p.1 = γ p'.1 -> p.1 = p'.1) /\
   ∀ (σ' : Nat -> AV) (ρ' : Gh), (∀ p ∈ rs, σ' p.1 = p.2 /\ (isOwn p.2 = true -> ρ'.b p.1 = γ p.1)) -> ((∀ b, B' b -> ρ'.F b) \/ memFree x = true) -> isSlot y = false /\ VOk w' ρ' σ' y v := by
 cases x with
 | tup l =>
  obtain ⟨cs, bs, rfl, h1, h2, h3⟩ := h
  simp only [placeX] at hx
  split at hx
  ·rename_i l' rs' hp
   cases hx
   obtain ⟨γ, g1, g2, g3, g4, g5⟩ := placeL_spec l gs l' rs cs bs hp h1 h2 h3 hnd
   exact ⟨γ, g1, g3, fun σ' ρ' q1 q2 => ⟨rfl, cs, rfl, g4, g5 σ' ρ' q1 q2⟩⟩
  ·cases hx
 | row lv ty m ks c =>
  cases gs with
  | nil => simp [placeX] at hx
  | cons g gs =>
   simp only [placeX, Option.some.injEq, Prod.mk.injEq] at hx
   obtain ⟨rfl, rfl⟩ := hx
   obtain ⟨b, h⟩ := h
   refine ⟨fun _ => b, fun p hp => ?_, fun p hp p' hp' _ _ _ => ?_, fun σ' ρ' q1 q2 => ⟨rfl, ?_⟩⟩
   ·obtain rfl := List.mem_singleton.1 hp
    refine ⟨lv, ty, m, ks, c, rfl, fun hl => (h.2 hl).1, fun hl => ?_⟩
    obtain ⟨cap, _, k1, k2, k3, k4⟩ := h.1 hl
    exact ⟨k1, k2, k3, cap, k4⟩
   ·rw [List.mem_singleton.1 hp, List.mem_singleton.1 hp']
   ·obtain ⟨k1, k2⟩ := q1 (g, .row lv ty m ks c) (by simp)
    refine ⟨lv, ty, m, ks, c, k1, Nat.le_refl _, fun hl => ?_, h.2⟩
    obtain ⟨cap, e, _, _, _, k4⟩ := h.1 hl
    have : ρ'.b g = b := k2 hl
    rw [this]
    exact ⟨cap, e, k4⟩
 | _ => simp [placeX] at hx
theorem putRows_length : ∀ (rs : List (Nat × AV)) (s : List AV), (putRows rs s).length = s.length
 | [], s => rfl
 | (g, x) :: l, s => by rw [putRows, putRows_length l, putRow_length]
theorem putRows_sound {a : Act} : ∀ (rs : List (Nat × AV)) (s : List AV) (ρ : Gh) (γ : Nat -> Nat), Rr E N B w0 ρ (at' s) a w -> s.length = N -> (∀ p ∈ rs, E.v <= p.1 /\ p.1 < N) -> nodupB (rs.map (·.1)) = true ->
  (∀ p ∈ rs, ∃ lv ty m ks c, p.2 = .row lv ty m ks c /\ (lv = false -> m = 0) /\ (lv = true -> w0.heap.size <= γ p.1 /\ ¬ ρ.F (γ p.1) /\ (∀ t, isOwn (at' s t) = true -> ρ.b t ≠ γ p.1) /\ ∃ cap, Rowed w (γ p.1) ty cap m ks c)) ->
  (∀ p ∈ rs, ∀ p' ∈ rs, isOwn p.2 = true -> isOwn p'.2 = true -> γ p.1 = γ p'.1 -> p.1 = p'.1) ->
  ∃ ρ', Rr E N B w0 ρ' (at' (putRows rs s)) a w /\ ρ'.F = ρ.F /\ (∀ p ∈ rs, at' (putRows rs s) p.1 = p.2 /\ (isOwn p.2 = true -> ρ'.b p.1 = γ p.1)) /\
   (∀ t, t ∉ rs.map (·.1) -> isSlot (at' s t) = true -> at' (putRows rs s) t = at' s t /\ ρ'.b t = ρ.b t) /\ (∀ t, t ∉ rs.map (·.1) -> isOwn (at' s t) = false -> isOwn (at' (putRows rs s) t) = false)
 | [], s, ρ, γ, hR, hl, _, _, _, _ => ⟨ρ, hR, rfl, fun p hp => (by cases hp), fun t _ _ => ⟨rfl, rfl⟩, fun t _ h => h⟩
 | (g, x) :: l, s, ρ, γ, hR, hl, hg, hnd, hr, hinj => by
  have hnd' : memB g (l.map (·.1)) = false /\ nodupB (l.map (·.1)) = true := by
   simp only [List.map_cons] at hnd
   unfold nodupB at hnd
   split at hnd
   ·cases hnd
   ·exact ⟨by assumption, hnd⟩
  have hgn : g ∉ l.map (·.1) := memB_spec hnd'.1
  obtain ⟨lv, ty, m, ks, c, e, hm, hb⟩ := hr (g, x) (by simp)
  have e : x = .row lv ty m ks c := e
  subst e
  obtain ⟨k1, k2⟩ := hg (g, .row lv ty m ks c) (by simp)
  have hs := hR.slot (g := g) ⟨k1, k2⟩ (w' := w) rfl rfl rfl (Nat.le_refl _) (fun _ _ _ => rfl) (lv := lv) (ty := ty) (m := m) (ks := ks) (c := c) (b' := γ g)
   (fun h => by obtain ⟨q1, q2, q3, _⟩ := hb h; exact ⟨q1, q2, fun t _ ht => q3 t ht⟩) hm (fun h => (hb h).2.2.2) (d := none) (v := undef) (k := 0) (fun d' h => by cases h) (fun d' h => by cases h)
  have hs' : Rr E N B w0 ⟨fun t => if t = g then γ g else ρ.b t, ρ.F⟩ (at' (putRow s g (.row lv ty m ks c) none)) a w := by
   rw [at_putRow0 (k := 0) (by rw [hl]; exact k2)]
   exact hs
  have eσ : ∀ t, at' (putRow s g (.row lv ty m ks c) none) t = if t = g then .row lv ty m ks c else kill1 g (at' s t) := fun t => by
   rw [at_putRow0 (k := 0) (by rw [hl]; exact k2)]
   exact if_neg (fun h => by cases h)
  obtain ⟨ρ', r1, r2, r3, r4, r5⟩ := putRows_sound l (putRow s g (.row lv ty m ks c) none) _ γ hs' (by rw [putRow_length]; exact hl) (fun p hp => hg p (by simp [hp])) hnd'.2 (fun p hp => by
   obtain ⟨lv1, ty1, m1, ks1, c1, e1, hm1, hb1⟩ := hr p (by simp [hp])
   refine ⟨lv1, ty1, m1, ks1, c1, e1, hm1, fun h => ?_⟩
   obtain ⟨q1, q2, q3, q4⟩ := hb1 h
   refine ⟨q1, q2, fun t ht => ?_, q4⟩
   rw [eσ] at ht
   by_cases htg : t = g
   ·subst htg
    rw [if_pos rfl] at ht
    simp only [if_true]
    intro h2
    have := hinj (t, .row lv ty m ks c) (by simp) p (by simp [hp]) ht (by rw [e1]; exact h) h2
    exact hgn (List.mem_map.2 ⟨p, hp, this.symm⟩)
   ·rw [if_neg htg, kill1_own] at ht
    simp only [if_neg htg]
    exact q3 t ht) (fun p hp p' hp' => hinj p (by simp [hp]) p' (by simp [hp']))
  refine ⟨ρ', r1, r2, fun p hp => ?_, fun t ht hsl => ?_, fun t ht ho => ?_⟩
  ·rcases List.mem_cons.1 hp with rfl | hp
   ·obtain ⟨q1, q2⟩ := r4 g hgn (by rw [eσ, if_pos rfl]; rfl)
    refine ⟨by show at' (putRows l _) g = _; rw [q1, eσ, if_pos rfl], fun _ => ?_⟩
    rw [q2]
    exact if_pos rfl
   ·exact r3 p hp
  ·simp only [List.map_cons, List.mem_cons, not_or] at ht
   have e1 : at' (putRow s g (.row lv ty m ks c) none) t = at' s t := by rw [eσ, if_neg ht.1, kill1_slot hsl]
   obtain ⟨q1, q2⟩ := r4 t ht.2 (by rw [e1]; exact hsl)
   exact ⟨by show at' (putRows l _) t = _; rw [q1, e1], by rw [q2]; exact if_neg ht.1⟩
  ·simp only [List.map_cons, List.mem_cons, not_or] at ht
   exact r5 t ht.2 (by rw [eσ, if_neg ht.1, kill1_own]; exact ho)
theorem okRows_spec {v : Nat} : ∀ {rs : List (Nat × AV)}, okRows v s rs = true -> ∀ p ∈ rs, v <= p.1 /\ p.1 < s.length
 | [], _, p, hp => by cases hp
 | (g, x) :: l, h, p, hp => by
  unfold okRows at h
  split at h
  ·rename_i hh
   rw [Bool.and_eq_true] at hh
   rcases List.mem_cons.1 hp with rfl | hp
   ·exact ⟨Nat.le_of_ble_eq_true hh.1, Nat.le_of_ble_eq_true hh.2⟩
   ·exact okRows_spec h p hp
  ·cases h
theorem callN_sound (hΓ : Sound P GL Γ) (hR : Rr E N B w0 ρ (at' s) a w) (hl : s.length = N) (hG : GOk w0 B GL) (hB : ∀ b, B b -> b < w0.heap.size /\ ¬ E.X b)
  {g : Nat} {args : Array Operand} {ts : Array TypeId} (ho : o.op = .call ⟨.value (.func g), args, ts⟩)
  (h : callN GL Γ E.n E.v sm s o g args.toList = some (true, s')) (hK : ∀ ρ' a' w', s'.length = N -> Rr E N B w0 ρ' (at' s') a' w' -> K a' w') : o.wp P a w K Q := by
 unfold callN at h
 split at h
 case h_2 => cases h
 rename_i f g0 gs d hf _ hd
 split at h
 case h_2 => cases h
 rename_i as has hnd
 split at h
 case h_2 => cases h
 rename_i c x hx
 split at h
 case h_2 => cases h
 rename_i hbr
 split at h
 case h_2 => cases h
 rename_i y rs ou hpl hou hok
 split at h
 case h_2 => cases h
 rename_i hnr hor
 simp only [Option.some.injEq, Prod.mk.injEq] at h
 obtain ⟨rfl, rfl⟩ := h
 obtain ⟨k1, k2, k3, k4⟩ := okSlot_spec hok
 have hdl : d < s.length := Nat.lt_of_lt_of_le k3 (by have := hR.vle; omega)
 refine wp_callB hΓ hR hG hB rfl ho hf has hnd hx hou fun v w' B' e1 e2 e3 e4 e5 e6 e7 e8 e9 => ?_
 have hB0 : ∀ b, B' b -> b < w'.heap.size := fun b hb => (e6 b hb).2
 obtain ⟨γ, g1, g2, g3⟩ := placeX_spec hpl e7 hnr
 have hsl : hasSl (args.toList.map (evA GL (at' s))) = false \/ (memFree (splitOut x).1 = true /\ isNil (gsOf (args.toList.map (evA GL (at' s)))) = true) := by
  cases hh : hasSl (args.toList.map (evA GL (at' s))) with
  | false => exact .inl rfl
  | true =>
   refine .inr ?_
   rw [hh] at hbr
   simpa using hbr
 let B2 : Nat -> Prop := fun b => hasSl (args.toList.map (evA GL (at' s))) = false /\ B' b
 have hB2 : ∀ b, B2 b -> (ρ.F b \/ w.heap.size <= b) /\ b < w'.heap.size := fun b ⟨h0, hb⟩ => by
  obtain ⟨h1, h2⟩ := e6 b hb
  refine ⟨?_, h2⟩
  rcases h1 with (h1 | h1) | h1
  ·exact .inl h1
  ·rw [h0] at h1; cases h1
  ·exact .inr h1
 obtain ⟨β, hβ, hR'⟩ := hR.call (o := o) e1 e2 e3 e4 e5 hB2 (ou := ou) (fun t z hz => by
  obtain ⟨ty, c, q1, q2, q3⟩ := e8 t z hz
  have hs0 : hasSl (args.toList.map (evA GL (at' s))) = false := by
   rcases hsl with h | ⟨_, h⟩
   ·exact h
   ·obtain ⟨i, k, c, r1, r2, _⟩ := (outU_spec (t := t) hou).1 z hz
    have := mem_gsOf r2
    cases hg : gsOf (args.toList.map (evA GL (at' s))) with
    | nil => rw [hg] at this; cases this
    | cons x l => rw [hg] at h; cases h
  exact .inl ⟨ty, c, q1, q2, q3.mono fun b hb => ⟨hs0, hb⟩⟩) e9 (x := .non) (v := v) (u := [(d, .non)]) (.inr (Rep.non v)) (by
   unfold setD
   rw [hd]
   simp only
   rw [k4, show Nat.blt d E.n = true from Nat.ble_eq_true_of_le k3])
 have hlt : ∀ p ∈ [(d, AV.non)] ++ ou, p.1 < s.length := fun p hp => by
  rcases List.mem_append.1 hp with hp | hp
  ·rw [List.mem_singleton.1 hp]; exact hdl
  ·have := outU_own (argsV_own has) hou p hp
   rcases Nat.lt_or_ge p.1 s.length with h | h
   ·exact h
   ·rw [at_out h] at this; cases this
 obtain ⟨l1, l2⟩ := at_setAll (s := s) (u := [(d, .non)] ++ ou) hlt
 rw [<- l2] at hR'
 have hdn : at' (setAll s ((d, .non) :: ou)) d = .non := by
  have := congrFun l2 d
  rw [show setAll s ((d, .non) :: ou) = setAll s ([(d, .non)] ++ ou) from rfl, this]
  simp [upd, look]
 have hownlt : ∀ t, isOwn (at' (setAll s ([(d, .non)] ++ ou)) t) = true -> β t < w.heap.size := fun t ht => by
  have htd : t ≠ d := fun h => by subst h; rw [show setAll s ([(t, .non)] ++ ou) = setAll s ((t, .non) :: ou) from rfl, hdn] at ht; cases ht
  rw [hβ t (by rw [hd]; intro h; cases h; exact htd rfl)]
  refine hR.lt ?_
  rw [l2] at ht
  simp only [upd, List.cons_append, List.nil_append, look, beq_ne (Ne.symm htd)] at ht
  cases hlk : look ou t with
  | none => rw [hlk] at ht; exact ht
  | some z =>
   obtain ⟨ty, c, q1, _⟩ := e8 t z hlk
   exact isBox_own (tyC_own q1)
 obtain ⟨ρ', r1, r2, r3, r4, r5⟩ := putRows_sound rs (setAll s ([(d, .non)] ++ ou)) _ γ hR' (l1.trans hl) (fun p hp => by rw [<- hl]; exact okRows_spec hor p hp) hnr (fun p hp => by
  obtain ⟨lv, ty, m, ks, c, q1, q2, q3⟩ := g1 p hp
  refine ⟨lv, ty, m, ks, c, q1, q2, fun h => ?_⟩
  obtain ⟨s1, s2, s3, s4⟩ := q3 h
  exact ⟨Nat.le_trans hR.blw.size s1, fun hF => by
   rcases hF with hF | hF
   ·have := (hR.frz _ hF).2.1; omega
   ·exact s3 hF.2, fun t ht => by have := hownlt t ht; show β t ≠ _; omega, s4⟩) g2
 have hdr : d ∉ rs.map (·.1) := fun hm => by
  obtain ⟨p, hp, e⟩ := List.mem_map.1 hm
  have := (okRows_spec hor p hp).1
  exact absurd k3 (Nat.not_lt_of_le (Nat.le_trans hR.vle.1 (e ▸ this)))
 obtain ⟨hys, hyv⟩ := g3 (at' (putRows rs (setAll s ([(d, .non)] ++ ou)))) ρ' r3 (by
  rcases hsl with h0 | ⟨h0, _⟩
  ·exact .inl fun b hb => by rw [r2]; exact .inr ⟨h0, hb⟩
  ·exact .inr h0)
 have hev : (a.put o.dst v).eval (.tmp d) = v := by rw [hd]; exact eval_put_same (by rw [hR.siz]; exact k3)
 have hfin := r1.setV (d := d) (x := y) ⟨k3, r5 d hdr (by rw [show setAll s ([(d, .non)] ++ ou) = setAll s ((d, .non) :: ou) from rfl, hdn]; rfl)⟩ ⟨hys, by rw [hev]; exact hyv⟩
 have hlen : d < (putRows rs (setAll s ([(d, .non)] ++ ou))).length := by rw [putRows_length, l1]; exact hdl
 refine hK _ _ _ ?_ (show Rr E N B w0 ρ' (at' ((putRows rs (setAll s ([(d, .non)] ++ ou))).set d y)) _ _ from ?_)
 ·rw [List.length_set, putRows_length]
  exact l1.trans hl
 ·have : at' ((putRows rs (setAll s ([(d, .non)] ++ ou))).set d y) = fun t => if t = d then y else at' (putRows rs (setAll s ([(d, .non)] ++ ou))) t := funext fun t => at_set hlen t
  rw [this]
  exact hfin
end
end Go.Ev
/- The sequential steps are sound: calls that write to rows; all steps together; a region in the text's order. -/
namespace Go.Ev
open Go.RowKit
def thenS (K : List AV -> Option AV) : Option (Bool × List AV) -> Option AV
 | some (c, s) => cond c (K s) none
 | none => none
def seqOps (P : Program) (GL : Nat -> AV) (Γ : List (Nat × Ctr)) (n v : Nat) (sm : List (Nat × List Nat)) (ops : Array Oper) : List Oper -> List AV -> (List AV -> Option AV) -> Option AV
 | [], s, K => K s
 | o :: l, s, K => match o.guard with
  | none => thenS (fun s' => seqOps P GL Γ n v sm ops l s' K) (evS P GL Γ n v sm s o)
  | some (j, want) => match dstAt ops j with
   | some t => match at' s t with
    | .val (.bool b) => cond b
     (match want with
      | true => thenS (fun s' => seqOps P GL Γ n v sm ops l s' K) (evS P GL Γ n v sm (s.set t (.val (.bool true))) o)
      | false => (match setD n (at' (s.set t (.val (.bool true)))) o (.val undef) with | some u => seqOps P GL Γ n v sm ops l (setAll (s.set t (.val (.bool true))) u) K | none => none))
     (match want with
      | false => thenS (fun s' => seqOps P GL Γ n v sm ops l s' K) (evS P GL Γ n v sm (s.set t (.val (.bool false))) o)
      | true => (match setD n (at' (s.set t (.val (.bool false)))) o (.val undef) with | some u => seqOps P GL Γ n v sm ops l (setAll (s.set t (.val (.bool false))) u) K | none => none))
    | .val (.tuple _) => (match setD n (at' s) o (.val undef) with | some u => seqOps P GL Γ n v sm ops l (setAll s u) K | none => none)
    | _ => none
   | none => none
section
variable {P : Program} {GL : Nat -> AV} {Γ : List (Nat × Ctr)} {E : Ext} {N : Nat} {B : Nat -> Prop} {w0 w : World} {ρ : Gh} {σ : Nat -> AV} {s s' : List AV} {a : Act} {o : Oper} {sm : List (Nat × List Nat)}
 {K : Act -> World -> Prop} {Q : Exit -> Act -> World -> Prop}
theorem look_mem {p : Nat × AV} : ∀ {u : List (Nat × AV)}, p ∈ u -> look u p.1 = none -> False
 | (d, x) :: u, hp, h => by
  unfold look at h
  split at h
  ·cases h
  ·rename_i hd
   rcases List.mem_cons.1 hp with rfl | hp
   ·simp at hd
   ·exact look_mem hp h
theorem argO_spec {x y : AV} (h : argO σ x = some y) : (∃ g n lv ty m ks c, x = .sl g n /\ σ g = .row lv ty m ks c /\ y = .row lv ty n ks c) \/ (isRef x = false /\ (∀ g n, x ≠ .sl g n) /\ (∀ g i j, x ≠ .rf g i j) /\ (∀ l, x ≠ .tup l) /\ y = x) := by
 cases x with
 | sl g n =>
  unfold argO at h
  simp only at h
  split at h
  ·rename_i lv ty m ks c e
   cases h
   exact .inl ⟨g, n, lv, ty, m, ks, c, rfl, e, rfl⟩
  ·cases h
 | ref g k => cases h
 | rf g i j => cases h
 | tup l => cases h
 | _ => cases h; exact .inr ⟨rfl, fun _ _ h => (by cases h), fun _ _ _ h => (by cases h), fun _ h => (by cases h), rfl⟩
theorem argsO_spec : ∀ {xs as : List AV}, argsO σ xs = some as -> as.length = xs.length /\ ∀ i, i < xs.length -> argO σ (xs.getD i .non) = some (as.getD i .non)
 | [], as, h => by cases h; exact ⟨rfl, fun i hi => by simp at hi⟩
 | x :: xs, as, h => by
  unfold argsO at h
  split at h
  ·rename_i y hy
   split at h
   ·rename_i ys hys
    cases h
    obtain ⟨h1, h2⟩ := argsO_spec hys
    refine ⟨by simp [h1], fun i hi => ?_⟩
    cases i with
    | zero => simpa using hy
    | succ i => simpa using h2 i (by simpa using hi)
   ·cases h
  ·cases h
theorem mem_slsOf {g n : Nat} : ∀ {xs : List AV} {i : Nat}, xs.getD i .non = .sl g n -> g ∈ slsOf xs
 | [], i, h => by simp at h
 | x :: xs, 0, h => by
  have h : x = .sl g n := by simpa using h
  subst h
  simp [slsOf]
 | x :: xs, i + 1, h => by
  have := mem_slsOf (xs := xs) (i := i) (by simpa using h)
  cases x <;> simp [slsOf, this]
theorem slsOf_nodup {g n n' : Nat} : ∀ {xs : List AV} {i j : Nat}, nodupB (slsOf xs) = true -> xs.getD i .non = .sl g n -> xs.getD j .non = .sl g n' -> i = j
 | [], i, j, _, h, _ => by simp at h
 | x :: xs, 0, 0, _, _, _ => rfl
 | x :: xs, 0, j + 1, hn, h1, h2 => by
  exfalso
  have h1 : x = .sl g n := by simpa using h1
  subst h1
  have h2 : g ∈ slsOf xs := mem_slsOf (i := j) (by simpa using h2)
  simp only [slsOf, nodupB] at hn
  split at hn
  ·cases hn
  ·rename_i hm
   exact memB_spec hm h2
 | x :: xs, i + 1, 0, hn, h1, h2 => by
  exfalso
  have h2 : x = .sl g n' := by simpa using h2
  subst h2
  have h1 : g ∈ slsOf xs := mem_slsOf (i := i) (by simpa using h1)
  simp only [slsOf, nodupB] at hn
  split at hn
  ·cases hn
  ·rename_i hm
   exact memB_spec hm h1
 | x :: xs, i + 1, j + 1, hn, h1, h2 => by
  have hn' : nodupB (slsOf xs) = true := by
   cases x <;> simp only [slsOf] at hn <;> try exact hn
   unfold nodupB at hn
   split at hn
   ·cases hn
   ·exact hn
  have := slsOf_nodup (i := i) (j := j) hn' (by simpa using h1) (by simpa using h2)
  omega
theorem fullB_spec : ∀ {xs : List AV}, fullB σ xs = true -> ∀ i g n, xs.getD i .non = .sl g n -> ∃ lv ty ks c, σ g = .row lv ty n ks c
 | [], _, i, g, n, h => by simp at h
 | x :: xs, h, i, g, n, e => by
  have hx : fullB σ xs = true := by
   cases x <;> simp only [fullB, Bool.and_eq_true] at h <;> first | exact h | exact h.2
  cases i with
  | zero =>
   have e : x = .sl g n := by simpa using e
   subst e
   simp only [fullB, Bool.and_eq_true] at h
   have h1 := h.1
   split at h1
   ·rename_i lv ty m ks c e
    have := Nat.eq_of_beq_eq_true h1
    subst this
    exact ⟨lv, ty, ks, c, e⟩
   ·cases h1
  | succ i => exact fullB_spec hx i g n (by simpa using e)
theorem outO_spec {t : Nat} : ∀ {xs os : List AV} {ou : List (Nat × AV)}, outO σ xs os = some ou -> nodupB (slsOf xs) = true ->
  (∀ z, look ou t = some z -> ∃ i n lv ty m ks c l2 t2 m2 k2 c', i < xs.length /\ xs.getD i .non = .sl t n /\ σ t = .row lv ty m ks c /\ os.getD i .non = .row l2 t2 m2 k2 c' /\ z = .row lv ty m ks c') /\ (look ou t = none -> ∀ i n, xs.getD i .non ≠ .sl t n)
 | [], os, ou, h, _ => by
  cases h
  exact ⟨fun z h => (by cases h), fun _ i n h => (by simp at h)⟩
 | x :: xs, os, ou, h, hn => by
  have skip : ∀ os', (∀ g n, x ≠ .sl g n) -> outO σ xs os' = some ou -> nodupB (slsOf xs) = true -> (∀ i, os.getD (i + 1) .non = os'.getD i .non) ->
    (∀ z, look ou t = some z -> ∃ i n lv ty m ks c l2 t2 m2 k2 c', i < (x :: xs).length /\ (x :: xs).getD i .non = .sl t n /\ σ t = .row lv ty m ks c /\ os.getD i .non = .row l2 t2 m2 k2 c' /\ z = .row lv ty m ks c') /\ (look ou t = none -> ∀ i n, (x :: xs).getD i .non ≠ .sl t n) := fun os' hx h' hn' ho => by
   obtain ⟨h1, h2⟩ := outO_spec (t := t) h' hn'
   refine ⟨fun z hz => ?_, fun hl i n => ?_⟩
   ·obtain ⟨i, n, lv, ty, m, ks, c, l2, t2, m2, k2, c', e1, e2, e3, e4, e5⟩ := h1 z hz
    exact ⟨i + 1, n, lv, ty, m, ks, c, l2, t2, m2, k2, c', by simpa using e1, by simpa using e2, e3, by rw [ho]; exact e4, e5⟩
   ·cases i with
    | zero => intro e; exact hx t n (by simpa using e)
    | succ i => simpa using h2 hl i n
  unfold outO at h
  split at h
  ·rename_i heq; cases heq
  ·rename_i g n0 as l2 t2 m2 k2 c' os' heq
   cases heq
   split at h
   ·rename_i lv ty m ks c u eg hu
    cases h
    have hn' : memB g (slsOf xs) = false /\ nodupB (slsOf xs) = true := by
     simp only [slsOf] at hn
     unfold nodupB at hn
     split at hn
     ·cases hn
     ·exact ⟨by assumption, hn⟩
    obtain ⟨h1, h2⟩ := outO_spec (t := t) hu hn'.2
    by_cases hg : g = t
    ·subst hg
     refine ⟨fun z hz => ?_, fun hl => ?_⟩
     ·simp only [look, Nat.beq_refl] at hz
      cases hz
      exact ⟨0, n0, lv, ty, m, ks, c, l2, t2, m2, k2, c', by simp, by simp, eg, by simp, rfl⟩
     ·simp only [look, Nat.beq_refl] at hl
      cases hl
    ·refine ⟨fun z hz => ?_, fun hl i n => ?_⟩
     ·simp only [look, beq_ne hg] at hz
      obtain ⟨i, n, lv, ty, m, ks, c, l2, t2, m2, k2, c', e1, e2, e3, e4, e5⟩ := h1 z hz
      exact ⟨i + 1, n, lv, ty, m, ks, c, l2, t2, m2, k2, c', by simpa using e1, by simpa using e2, e3, by simpa using e4, e5⟩
     ·simp only [look, beq_ne hg] at hl
      cases i with
      | zero => intro e; have e : AV.sl g n0 = .sl t n := by simpa using e
                cases e; exact hg rfl
      | succ i => simpa using h2 hl i n
   ·cases h
  ·cases h
  ·rename_i hx1 hx2 heq
   cases heq
   have hns : ∀ g n, x ≠ .sl g n := fun g n e => by first | exact hx2 _ _ e | exact hx1 _ _ e
   exact skip _ hns h (by cases x <;> simp only [slsOf] at hn <;> first | exact hn | exact absurd rfl (hns _ _)) (fun i => by simp)
  ·rename_i hx1 heq
   cases heq
   have hns : ∀ g n, x ≠ .sl g n := fun g n e => hx1 _ _ e
   exact skip [] hns h (by cases x <;> simp only [slsOf] at hn <;> first | exact hn | exact absurd rfl (hns _ _)) (fun i => by simp)
theorem callO_sound (hΓ : Sound P GL Γ) (hR : Rr E N B w0 ρ (at' s) a w) (hl : s.length = N) (hG : GOk w0 B GL) (hB : ∀ b, B b -> b < w0.heap.size /\ ¬ E.X b)
  {g : Nat} {args : Array Operand} {ts : Array TypeId} (ho : o.op = .call ⟨.value (.func g), args, ts⟩)
  (h : callO GL Γ E.n s o g args.toList = some (true, s')) (hK : ∀ ρ' a' w', s'.length = N -> Rr E N B w0 ρ' (at' s') a' w' -> K a' w') : o.wp P a w K Q := by
 unfold callO at h
 split at h
 case h_2 => cases h
 rename_i f hf
 split at h
 case h_2 => cases h
 rename_i as has hnd
 split at h
 case h_2 => cases h
 rename_i c y hy
 split at h
 case h_2 => cases h
 rename_i ou u hbx hou hu
 simp only [Option.some.injEq, Prod.mk.injEq, Bool.and_eq_true] at h
 obtain ⟨⟨rfl, hfull⟩, rfl⟩ := h
 obtain ⟨⟨fn, hfn, hnm, hbd⟩, hc⟩ := hΓ g f hf
 obtain ⟨hlen, hav⟩ := argsO_spec has
 have hlen' : as.length = args.toList.length := by rw [hlen]; simp
 have hg' : GOk w ρ.F GL := hG.mono fun b hb => ⟨hR.bf b hb, hR.blw.block b (hB b hb).1 (hB b hb).2⟩
 have arg : ∀ i, i < as.length -> (∃ t n lv ty ks c, (args.toList.map (evA GL (at' s))).getD i .non = .sl t n /\ at' s t = .row lv ty n ks c /\ as.getD i .non = .row lv ty n ks c /\ SlOk w ρ (at' s) t n ((args.toList.map a.eval).getD i undef)) \/
   ((∀ t n, (args.toList.map (evA GL (at' s))).getD i .non ≠ .sl t n) /\ isOwn (as.getD i .non) = false /\ Rep w ρ.F (as.getD i .non) ((args.toList.map a.eval).getD i undef)) := by
  intro i hi
  have hi' : i < args.toList.length := by omega
  have e1 : (args.toList.map (evA GL (at' s))).getD i .non = evA GL (at' s) args.toList[i] := by simp only [List.getD, List.getElem?_map, List.getElem?_eq_getElem hi', Option.map_some, Option.getD_some]
  have e2 : (args.toList.map a.eval).getD i undef = a.eval args.toList[i] := by simp only [List.getD, List.getElem?_map, List.getElem?_eq_getElem hi', Option.map_some, Option.getD_some]
  have hv := evA_vok hR hG hB args.toList[i]
  rcases argO_spec (hav i (by omega)) with ⟨t, n, lv, ty, m, ks, c, f1, f2, f3⟩ | ⟨f1, f2, f3, f4, f5⟩
  ·obtain ⟨lv', ty', ks', c', q⟩ := fullB_spec hfull i t n f1
   rw [f2] at q
   cases q
   refine .inl ⟨t, n, _, _, _, _, f1, f2, f3, ?_⟩
   rw [e2]
   rw [<- e1, f1] at hv
   exact hv
  ·rw [f5, e1, e2]
   rw [e1] at f1 f2 f3 f4
   rcases rest_rep f1 f2 f3 f4 (evA_ns hR hG hB args.toList[i]) with hrep | ⟨x, os, e⟩
   ·have hr := hv.rep hrep
    exact .inr ⟨f2, notOwn_slot hr.notOwn, hr⟩
   ·rw [e] at hv
    exact absurd hv (fun h : Rep w ρ.F (.out x os) _ => by cases h)
 let β : Nat -> Nat := fun i => match (args.toList.map (evA GL (at' s))).getD i .non with
  | .sl t _ => ρ.b t
  | _ => 0
 have hβ : ∀ i t n, (args.toList.map (evA GL (at' s))).getD i .non = .sl t n -> β i = ρ.b t := fun i t n e => by simp only [β, e]
 have ownt : ∀ i, i < as.length -> isOwn (as.getD i .non) = true -> ∃ t n ty ks c, (args.toList.map (evA GL (at' s))).getD i .non = .sl t n /\ at' s t = .row true ty n ks c /\ isOwn (at' s t) = true := fun i hi hio => by
  rcases arg i hi with ⟨t, n, lv, ty, ks, c, f1, f2, f3, f4⟩ | ⟨f1, f2, f3⟩
  ·rw [f3] at hio
   have : lv = true := hio
   subst this
   exact ⟨t, n, ty, ks, c, f1, f2, by rw [f2]; rfl⟩
  ·rw [hio] at f2; cases f2
 have hcall := hc as y hy w ρ.F (args.toList.map a.eval) β (fun b hb => (hR.frz b hb).2.1) hg' (by simpa using hlen') (fun i hi => by
  rcases arg i hi with ⟨t, n, lv, ty, ks, c, f1, f2, f3, f4⟩ | ⟨f1, f2, f3⟩
  ·rw [f3, hβ i t n f1]
   obtain ⟨lv', ty', m', ks', c', q1, q2, q3, q4⟩ := f4
   rw [f2] at q1
   cases q1
   refine ⟨fun h => ?_, q4⟩
   obtain ⟨cap, r1, r2⟩ := q3 h
   exact ⟨cap, r1, fun hF => (hR.frz _ hF).2.2 t (by rw [f2]; exact h) rfl, r2⟩
  ·exact ArgOk.of_rep f3) (fun i j hi hj oi oj e => by
  obtain ⟨t, n, ty, ks, c, f1, f2, f3⟩ := ownt i hi oi
  obtain ⟨t', n', ty', ks', c', f1', f2', f3'⟩ := ownt j hj oj
  rw [hβ i t n f1, hβ j t' n' f1'] at e
  have := hR.inj t t' f3 f3' e
  subst this
  exact slsOf_nodup hnd f1 f1')
 have hrun : (execOp a.eval o).run P w = .ok (.enter g ⟨args.toList.map a.eval⟩) w := by
  obtain ⟨dst, op, type, pos, after, guard⟩ := o
  simp only at ho
  subst ho
  have e : (⟨args.toList.map a.eval⟩ : Array Value) = args.map a.eval := by
   apply Array.ext'
   simp
  have := callFunc_run (P := P) (w := w) (args := args.map a.eval) hfn hnm hbd
  rw [e]
  simpa [execOp, resolve, show a.eval (.func g) = .func (.func g) #[] #[] from rfl, Deferred.ofValue, invoke] using this
 unfold Oper.wp
 rw [hrun]
 show Calls P g _ w _
 refine hcall.mono ?_
 rintro e w' ⟨v, rfl, hbw, B', hB', hres, hout⟩
 have hX : ∀ b, (∃ i, i < as.length /\ isOwn (as.getD i .non) = true /\ b = β i) -> ∃ i t n, (args.toList.map (evA GL (at' s))).getD i .non = .sl t n /\ isOwn (at' s t) = true /\ b = ρ.b t := by
  rintro b ⟨i, hi, hio, rfl⟩
  obtain ⟨t, n, ty, ks, c, f1, f2, f3⟩ := ownt i hi hio
  exact ⟨i, t, n, f1, f3, hβ i t n f1⟩
 obtain ⟨γ, hγ, hfz⟩ := hres.frz fun b hb => (hB' b hb).2
 let B2 : Nat -> Prop := fun b => γ b \/ B' b
 have hB2 : ∀ b, B2 b -> (ρ.F b \/ w.heap.size <= b) /\ b < w'.heap.size := fun b hb => by
  rcases hb with hb | hb
  ·exact ⟨.inr (hγ b hb).1, (hγ b hb).2⟩
  ·exact hB' b hb
 obtain ⟨β', _, hR'⟩ := hR.call (o := o) hbw.os hbw.tape hbw.output hbw.size (fun b hb hn => hbw.block b hb fun hx => by
   obtain ⟨i, t, n, _, h2, h3⟩ := hX b hx
   exact hn t h2 h3.symm) hB2 (ou := ou) (fun t z hz => by
   obtain ⟨i, n, lv, ty, m, ks, c, l2, t2, m2, k2, c', q1, q2, q3, q4, q5⟩ := (outO_spec (t := t) hou hnd).1 z hz
   have hi : i < as.length := by rw [hlen]; exact q1
   refine .inr ⟨lv, ty, m, ks, c, c', q3, q5, fun hlv cap hrow => ?_⟩
   rcases arg i hi with ⟨t', n', lv', ty', ks', c2, f1, f2, f3, f4⟩ | ⟨f1, _, _⟩
   ·rw [q2] at f1
    cases f1
    rw [q3] at f2
    cases f2
    have ho := hout i hi
    rw [f3] at ho
    obtain ⟨c3, r1, r2⟩ := ho
    rw [q4] at r1
    cases r1
    obtain ⟨lv1, ty1, m1, ks1, c1, s1, s2, s3, s4⟩ := f4
    rw [q3] at s1
    cases s1
    obtain ⟨cap1, t1, t2⟩ := s3 hlv
    have hcap : cap1 = cap := by
     obtain ⟨cs, _, a1, _, a2, _, _, a5, _⟩ := hrow
     obtain ⟨cs', _, b1, _, b2, _⟩ := t2
     rw [a1] at b1
     cases b1
     rw [a2] at b2
     exact (Nat.eq_of_mul_eq_mul_right a5 b2).symm
    subst hcap
    have := r2 hlv cap1 (by rw [hβ i t _ q2]; exact t1)
    rw [hβ i t _ q2] at this
    exact this
   ·exact absurd q2 (f1 t n)) (fun t ht hn => hbw.block _ (hR.lt ht) fun hx => by
   obtain ⟨i, t', n, h1, h2, h3⟩ := hX _ hx
   have := hR.inj t t' ht h2 h3
   subst this
   exact (outO_spec (t := t) hou hnd).2 hn i n h1) (x := fz (splitOut y).1) (v := v) (by
   rcases hfz B2 (fun b h => .inl h) (.inl fun b h => .inr h) (fun b h => h.symm) with ⟨ty, c, b, q1, q2, q3, q4, q5⟩ | h
   ·exact .inl ⟨ty, c, b, q1, q2, q3, q4, q5 fun b h => .inr h⟩
   ·exact .inr h) hu
 obtain ⟨l1, l2⟩ := at_setAll (s := s) (u := u ++ ou) (fun p hp => by
  rcases List.mem_append.1 hp with hp | hp
  ·exact Nat.lt_of_lt_of_le (setD_lt hu p hp) (by have := hR.vle; omega)
  ·rcases Nat.lt_or_ge p.1 s.length with h | h
   ·exact h
   ·exfalso
    have hz : ∃ z, look ou p.1 = some z := by
     cases hh : look ou p.1 with
     | some z => exact ⟨z, rfl⟩
     | none => exact absurd hp (fun hp => look_mem hp hh)
    obtain ⟨z, hz⟩ := hz
    obtain ⟨i, n, lv, ty, m, ks, c, _, _, _, _, c', _, _, q3, _, _⟩ := (outO_spec (t := p.1) hou hnd).1 z hz
    rw [at_out h] at q3
    cases q3)
 exact hK _ _ _ (l1.trans hl) (by rw [l2]; exact hR')
theorem frzAll_sound : ∀ (gs : List Nat) (s s' : List AV) (ρ : Gh), Rr E N B w0 ρ (at' s) a w -> s.length = N -> frzAll E.v s gs = some s' -> ∃ ρ', Rr E N B w0 ρ' (at' s') a w /\ s'.length = N
 | [], s, s', ρ, hR, hl, h => by cases h; exact ⟨ρ, hR, hl⟩
 | g :: gs, s, s', ρ, hR, hl, h => by
  unfold frzAll at h
  split at h
  ·rename_i hg
   obtain ⟨ρ1, h1⟩ := hR.frzS hl (Nat.le_of_ble_eq_true hg)
   exact frzAll_sound gs _ s' ρ1 h1 (frzS_length.trans hl) h
  ·cases h
theorem orElse_spec {x y : Option (Bool × List AV)} {r : Bool × List AV} (h : orElse x y = some r) : x = some r \/ y = some r := by
 cases x with
 | none => exact .inr h
 | some z => exact .inl h
theorem frzOp_sound (hΓ : Sound P GL Γ) (hR : Rr E N B w0 ρ (at' s) a w) (hl : s.length = N) (hG : GOk w0 B GL) (hB : ∀ b, B b -> b < w0.heap.size /\ ¬ E.X b)
  (h : frzOp P GL Γ E.n E.v s o = some (true, s')) (hK : ∀ ρ' a' w', s'.length = N -> Rr E N B w0 ρ' (at' s') a' w' -> K a' w') : o.wp P a w K Q := by
 unfold frzOp at h
 split at h
 ·split at h
  ·cases h
  ·split at h
   ·rename_i s1 h1
    obtain ⟨ρ1, hR1, hl1⟩ := frzAll_sound _ _ _ _ hR hl h1
    exact plainS_sound hΓ hR1 hl1 hG hB h hK
   ·cases h
 ·cases h
theorem evS_sound (hΓ : Sound P GL Γ) (hR : Rr E N B w0 ρ (at' s) a w) (hl : s.length = N) (hG : GOk w0 B GL) (hB : ∀ b, B b -> b < w0.heap.size /\ ¬ E.X b)
  (h : evS P GL Γ E.n E.v sm s o = some (true, s')) (hK : ∀ ρ' a' w', s'.length = N -> Rr E N B w0 ρ' (at' s') a' w' -> K a' w') : o.wp P a w K Q := by
 have pf : orElse (plainS P GL Γ E.n s o) (frzOp P GL Γ E.n E.v s o) = some (true, s') -> o.wp P a w K Q := fun h => by
  rcases orElse_spec h with h | h
  ·exact plainS_sound hΓ hR hl hG hB h hK
  ·exact frzOp_sound hΓ hR hl hG hB h hK
 unfold evS at h
 split at h
 ·rename_i x ho
  rcases orElse_spec h with h | h
  ·exact nilS_sound hR hl hG hB ho h hK
  ·rcases orElse_spec h with h | h
   ·exact moveS_sound hR hl hG hB ho h hK
   ·exact pf h
 ·rename_i t l c ho
  exact makeS_sound hR hl hG hB ho h hK
 ·rename_i t m ps ho
  rcases orElse_spec h with h | h
  ·exact buildS_sound hR hl hG hB ho h hK
  ·exact pf h
 ·rename_i src dst x ho
  rcases orElse_spec h with h | h
  ·exact markS_sound hR hl hG hB ho h hK
  ·exact pf h
 ·rename_i t x l hh m ho
  rcases orElse_spec h with h | h
  ·exact shortS_sound hR hl hG hB ho h hK
  ·exact pf h
 ·rename_i c ho
  obtain ⟨callee, args, ts⟩ := c
  simp only at h
  split at h
  ·rcases orElse_spec h with h | h
   ·exact appT_sound hR hl hG hB ho h hK
   ·exact appS_sound hR hl hG hB ho h hK
  ·rcases orElse_spec h with h | h
   ·exact callN_sound hΓ hR hl hG hB ho h hK
   ·rcases orElse_spec h with h | h
    ·exact plainS_sound hΓ hR hl hG hB h hK
    ·rcases orElse_spec h with h | h
     ·exact callO_sound hΓ hR hl hG hB ho h hK
     ·exact frzOp_sound hΓ hR hl hG hB h hK
  ·exact pf h
 ·exact pf h
theorem thenS_spec {K : List AV -> Option AV} {r : Option (Bool × List AV)} {x : AV} (h : thenS K r = some x) : ∃ s, r = some (true, s) /\ K s = some x := by
 unfold thenS at h
 split at h
 ·rename_i c s
  cases c with
  | true => exact ⟨s, rfl, h⟩
  | false => cases h
 ·cases h
theorem skip_put {Kp : Act -> World -> Prop} {u : List (Nat × AV)} (hR : Rr E N B w0 ρ (at' s) a w) (hl : s.length = N) (hu : setD E.n (at' s) o (.val undef) = some u) : Rr E N B w0 ρ (at' (setAll s u)) (a.put o.dst undef) w /\ (setAll s u).length = N := by
 obtain ⟨l1, l2⟩ := at_setAll (s := s) (u := u) (fun p hp => Nat.lt_of_lt_of_le (setD_lt hu p hp) (by have := hR.vle; omega))
 exact ⟨by rw [l2]; exact hR.put0 hu ⟨rfl, Rep.val _⟩, l1.trans hl⟩
theorem seqOps_sound (hΓ : Sound P GL Γ) (hG : GOk w0 B GL) (hB : ∀ b, B b -> b < w0.heap.size /\ ¬ E.X b) {ops : Array Oper} {x : AV} {Kc : List AV -> Option AV} {Q : Exit -> Act -> World -> Prop}
  (hQ : ∀ s' ρ' a' w', Kc s' = some x -> s'.length = N -> Rr E N B w0 ρ' (at' s') a' w' -> Q .normal a' w') :
  ∀ (l : List Oper) (m : Nat) (s : List AV) (ρ : Gh) (a : Act) (w : World), (∀ i o, l[i]? = some o -> ops[m + i]? = some o) -> m + l.length = ops.size -> s.length = N -> Rr E N B w0 ρ (at' s) a w ->
   seqOps P GL Γ E.n E.v sm ops l s Kc = some x -> wpOps P ops Q (List.range' m l.length) a w
 | [], m, s, ρ, a, w, _, _, hl, hR, h => hQ _ _ _ _ h hl hR
 | o :: l, m, s, ρ, a, w, hi, hm, hl, hR, h => by
  have ho : ops[m]? = some o := by simpa using hi 0 o (by simp)
  have next : ∀ (s' : List AV) (ρ' : Gh) (a' : Act) (w' : World), s'.length = N -> Rr E N B w0 ρ' (at' s') a' w' -> seqOps P GL Γ E.n E.v sm ops l s' Kc = some x -> wpOps P ops Q (List.range' (m + 1) l.length) a' w' := fun s' ρ' a' w' h1 h2 h3 =>
   seqOps_sound hΓ hG hB hQ l (m + 1) s' ρ' a' w' (fun i o' h' => by
    have := hi (i + 1) o' (by simpa using h')
    rw [show m + 1 + i = m + (i + 1) by omega]; exact this) (by simp at hm; omega) h1 h2 h3
  rw [List.length_cons, List.range'_succ, wpOps_cons]
  unfold wpOp
  simp only [ho]
  have run : ∀ (s0 : List AV), s0 = s -> thenS (fun s' => seqOps P GL Γ E.n E.v sm ops l s' Kc) (evS P GL Γ E.n E.v sm s0 o) = some x -> o.wp P a w (wpOps P ops Q (List.range' (m + 1) l.length)) Q := fun s0 e hh => by
   rw [e] at hh
   obtain ⟨s1, h1, h2⟩ := thenS_spec hh
   exact evS_sound hΓ hR hl hG hB h1 fun ρ' a' w' k1 k2 => next s1 ρ' a' w' k1 k2 h2
  have skip : ∀ (s0 : List AV), s0 = s -> (match setD E.n (at' s0) o (.val undef) with | some u => seqOps P GL Γ E.n E.v sm ops l (setAll s0 u) Kc | none => none) = some x -> wpOps P ops Q (List.range' (m + 1) l.length) (a.put o.dst undef) w := fun s0 e hh => by
   rw [e] at hh
   split at hh
   ·rename_i u hu
    obtain ⟨k1, k2⟩ := skip_put (Kp := fun _ _ => True) hR hl hu
    exact next _ _ _ _ k2 k1 hh
   ·cases hh
  unfold seqOps at h
  split at h
  ·rename_i hg
   rw [if_pos (by simp [Region.wanted, hg])]
   exact .inl (run s rfl h)
  ·rename_i j want hg
   split at h
   ·rename_i t ht
    split at h
    ·rename_i b hb
     have hs := set_self hb
     have hv := hR.val t (by rw [hb]; rfl)
     rw [hb] at hv
     have hv' : a.tmps[t]? = some (.bool b) := by
      have e : a.eval (.tmp t) = a.tmps.getD t undef := rfl
      rw [e] at hv
      by_cases hs : t < a.tmps.size
      ·generalize hx : a.tmps.getD t undef = x at hv
       cases (show Rep w ρ.F (.val (.bool b)) x from hv)
       simp [Array.getD, hs] at hx
       simp [hs, hx]
      ·have hx : a.tmps.getD t undef = undef := by simp [Array.getD, hs]
       rw [hx] at hv
       exact absurd (show Rep w ρ.F (.val (.bool b)) undef from hv) (fun h => by cases h)
     have hy : yielded ops a.tmps j = some b := by
      unfold dstAt at ht
      unfold yielded
      split at ht
      ·rename_i oj hoj
       simp [hoj, ht, hv']
      ·cases ht
     cases b with
     | true =>
      simp only [cond_true] at h
      cases want with
      | true =>
       rw [if_pos (by simp [Region.wanted, hg, hy])]
       exact .inl (run _ hs h)
      | false =>
       rw [if_neg (by simp [Region.wanted, hg, hy])]
       exact skip _ hs h
     | false =>
      simp only [cond_false] at h
      cases want with
      | true =>
       rw [if_neg (by simp [Region.wanted, hg, hy])]
       exact skip _ hs h
      | false =>
       rw [if_pos (by simp [Region.wanted, hg, hy])]
       exact .inl (run _ hs h)
    ·rename_i b hb
     have hv := hR.val t (by rw [hb]; rfl)
     rw [hb] at hv
     have hv' : ∀ c, a.tmps[t]? ≠ some (.bool c) := by
      intro c hc
      have e : a.eval (.tmp t) = a.tmps.getD t undef := rfl
      rw [e] at hv
      have hs : t < a.tmps.size := by
       rcases Nat.lt_or_ge t a.tmps.size with h | h
       ·exact h
       ·rw [Array.getElem?_eq_none h] at hc; cases hc
      have hx : a.tmps.getD t undef = .bool c := by
       simp [hs] at hc
       simp [Array.getD, hs, hc]
      rw [hx] at hv
      exact absurd (show Rep w ρ.F (.val (.tuple b)) (.bool c) from hv) (fun h => by cases h)
     have hy : yielded ops a.tmps j = none := by
      unfold dstAt at ht
      unfold yielded
      split at ht
      ·rename_i oj hoj
       rw [hoj]
       show (match oj.dst.bind (a.tmps[·]?) with | some (.bool b) => some b | _ => none) = none
       rw [ht]
       show (match a.tmps[t]? with | some (.bool b) => some b | _ => none) = none
       split
       ·rename_i c hc
        exact absurd hc (hv' c)
       ·rfl
      ·cases ht
     rw [if_neg (by simp [Region.wanted, hg, hy])]
     exact skip s rfl h
    ·cases h
   ·cases h
end
end Go.Ev
/- A drawn region whose last operations have one order alone: these are run as in the text. -/
namespace Go.Ev
open Go.RowKit
def hasSm (sm : List (Nat × List Nat)) : List Oper -> Bool
 | [] => false
 | o :: l => match slotsOf sm o.dst with
  | [] => hasSm sm l
  | _ :: _ => true
def rigidB (i : Nat) : List Nat -> Bool
 | [] => true
 | m :: ms => match Nat.beq (Nat.land m (2 ^ i - 1)) (2 ^ i - 1) with
  | true => rigidB (i + 1) ms
  | false => false
def rigidAt : Nat -> List Nat -> Nat
 | i, [] => i
 | i, m :: ms => match rigidB i (m :: ms) with
  | true => i
  | false => rigidAt (i + 1) ms
def cutOf (sm : List (Nat × List Nat)) (ops : Array Oper) : Option Nat := match sm with
 | [] => none
 | _ :: _ => match hasSm sm (ops.toList.drop (rigidAt 0 (masks [] ops.toList))) with
  | true => some (rigidAt 0 (masks [] ops.toList))
  | false => none
def okCut (ops : Array Oper) (k : Nat) (tr : List Foot) : Bool := Nat.ble k ops.toList.length && (edgesOk 0 ops.toList && (okPairs 0 tr ((masks [] ops.toList).take k) && rigidB k ((masks [] ops.toList).drop k)))
theorem rigidB_spec : ∀ (l : List Nat) (i : Nat), rigidB i l = true -> ∀ j m, l[j]? = some m -> ∀ b, b < i + j -> Nat.testBit m b = true
 | [], i, _, j, m, h => by simp at h
 | x :: l, i, h, j, m, hj => by
  unfold rigidB at h
  split at h
  ·rename_i hx
   have hx := Nat.eq_of_beq_eq_true hx
   cases j with
   | zero =>
    simp only [List.getElem?_cons_zero, Option.some.injEq] at hj
    subst hj
    intro b hb
    have : (x &&& (2 ^ i - 1)).testBit b = (2 ^ i - 1).testBit b := by rw [show x &&& (2 ^ i - 1) = 2 ^ i - 1 from hx]
    rw [Nat.testBit_and, Nat.testBit_two_pow_sub_one] at this
    have hb' : b < i := by omega
    simpa [hb'] using this
   | succ j =>
    simp only [List.getElem?_cons_succ] at hj
    intro b hb
    exact rigidB_spec l (i + 1) h j m hj b (by omega)
  ·cases h
section
variable {P : Program} {GL : Nat -> AV} {Γ : List (Nat × Ctr)} {E : Ext} {N : Nat} {B : Nat -> Prop} {w0 w : World} {ρ : Gh} {σ : Nat -> AV} {a : Act} {ops : Array Oper} {Q : Exit -> Act -> World -> Prop}
theorem first_all {listed : Array Bool} {m : Nat} (hsz : listed.size = ops.size) (hL : ∀ i, i < ops.size -> listed.getD i false = decide (i < m)) (i : Nat) : listed.getD i false = true -> i < m := fun h => by
 by_cases hi : i < ops.size
 ·rw [hL i hi] at h; exact of_decide_eq_true h
 ·have : listed.size <= i := by omega
  simp [this] at h
theorem tail_any (anc : Nat -> Nat -> Prop) (hedge : ∀ i o, ops[i]? = some o -> ∀ e ∈ o.after, Region.binds .any e = true -> e.on < i)
  (hancr : ∀ i, i < ops.size -> ∀ (L : Nat -> Bool), (∀ o, ops[i]? = some o -> ∀ e ∈ o.after, Region.binds .any e = true -> L e.on = true) ->
   (∀ i o, ops[i]? = some o -> L i = true -> ∀ e ∈ o.after, Region.binds .any e = true -> L e.on = true) -> ∀ j, anc i j -> L j = true)
  {k : Nat} (hrig : ∀ j, k <= j -> j < ops.size -> ∀ i, i < j -> anc j i) :
  ∀ (d m fuel : Nat) (listed : Array Bool) (a : Act) (w : World), m + d = ops.size -> k <= m -> listed.size = ops.size -> d <= fuel -> (∀ i, i < ops.size -> listed.getD i false = decide (i < m)) ->
   wpOps P ops Q (List.range' m d) a w -> wpAny P .any ops Q fuel listed a w := by
 intro d
 induction d with
 | zero =>
  intro m fuel listed a w hm hk hsz hf hL h
  have hr : Region.ready .any ops listed = [] := by
   cases hr : Region.ready .any ops listed with
   | nil => rfl
   | cons i l =>
    exfalso
    have hi : i ∈ Region.ready .any ops listed := by rw [hr]; simp
    rw [mem_ready] at hi
    obtain ⟨h0, o, ho, _⟩ := hi
    have hin : i < ops.size := (Array.getElem?_eq_some_iff.1 ho).1
    have := hL i hin
    have hil : i < listed.size := by omega
    simp [hil] at h0 this
    rw [h0] at this
    have := of_decide_eq_false this.symm
    omega
  cases fuel with
  | zero => exact ⟨hr, h⟩
  | succ f => exact ⟨fun _ => h, fun i hi => by rw [hr] at hi; cases hi⟩
 | succ d ih =>
  intro m fuel listed a w hm hk hsz hf hL h
  obtain ⟨f, rfl⟩ : ∃ f, fuel = f + 1 := ⟨fuel - 1, by omega⟩
  have hmlt : m < ops.size := by omega
  have hcl : ∀ i o, ops[i]? = some o -> listed.getD i false = true -> ∀ e ∈ o.after, Region.binds .any e = true -> listed.getD e.on false = true := fun i o ho hi e he hb => by
   have h1 := first_all hsz hL i hi
   have h2 := hedge i o ho e he hb
   rw [hL _ (by omega)]
   exact decide_eq_true (by omega)
  refine ⟨fun hr => ?_, fun i hi => ?_⟩
  ·exfalso
   have : m ∈ Region.ready .any ops listed := by
    rw [mem_ready]
    refine ⟨?_, ops[m], Array.getElem?_eq_getElem hmlt, fun e he hb => ?_⟩
    ·have hml : m < listed.size := by omega
     have := hL m hmlt
     simp [hml] at this ⊢
     exact this
    ·have h2 := hedge m _ (Array.getElem?_eq_getElem hmlt) e he hb
     rw [hL _ (by omega)]
     exact decide_eq_true (by omega)
   rw [hr] at this
   cases this
  ·rw [mem_ready] at hi
   obtain ⟨h0, o, ho, hre⟩ := hi
   have hin : i < ops.size := (Array.getElem?_eq_some_iff.1 ho).1
   have hil : i < listed.size := by omega
   have hLi : listed.getD i false = false := by simp [hil] at h0 ⊢; exact h0
   have him : i = m := by
    have h1 := hL i hin
    rw [hLi] at h1
    have h2 := of_decide_eq_false h1.symm
    rcases Nat.lt_or_ge m i with h3 | h3
    ·exfalso
     have := hancr i hin (fun i => listed.getD i false) (fun o' ho' e he hb => by rw [ho] at ho'; cases ho'; exact hre e he hb) hcl m (hrig i (by omega) hin m h3)
     have h4 := hL m hmlt
     rw [h4] at this
     have := of_decide_eq_true this
     omega
    ·omega
   subst him
   rw [List.range'_succ, wpOps_cons] at h
   refine wpOp_mono (fun a' w' h' => ih (i + 1) f (listed.setIfInBounds i true) a' w' (by omega) (by omega) (by simp [hsz]) (by omega) (fun j hj => ?_) h') h
   by_cases e : j = i
   ·subst e; simp [hil]
   ·rw [getD_set_ne false (Ne.symm e), hL j hj]
    by_cases h5 : j < i
    ·rw [decide_eq_true h5, decide_eq_true (by omega)]
    ·rw [decide_eq_false h5, decide_eq_false (by omega)]
theorem got_tail {U : Nat -> List (Nat × AV)} {k : Nat} (hU : ∀ i, k <= i -> U i = []) (L : Nat -> Bool) : ∀ m, k <= m -> got U σ L m = got U σ L k := by
 intro m
 induction m with
 | zero => intro h; rw [show k = 0 by omega]
 | succ m ih =>
  intro h
  by_cases e : k = m + 1
  ·rw [e]
  ·rw [<- ih (by omega)]
   funext t
   simp only [got]
   split
   ·rw [hU m (by omega)]; rfl
   ·rfl
theorem got_upto {U : Nat -> List (Nat × AV)} {L L' : Nat -> Bool} : ∀ m, (∀ i, i < m -> L i = L' i) -> got U σ L m = got U σ L' m := by
 intro m
 induction m with
 | zero => intro _; rfl
 | succ m ih => intro h; funext t; simp only [got]; rw [ih fun i hi => h i (by omega), h m (by omega)]
theorem wp_any_pre (hGL : ∀ g', siteOf (GL g') = none) (hΓ : Sound P GL Γ) (hG : GOk w0 B GL) (hB : ∀ b, B b -> b < w0.heap.size /\ ¬ E.X b) {U : Nat -> List (Nat × AV)} {k : Nat} (hk : k <= ops.size)
  (hs : ∀ i o, i < k -> ops[i]? = some o -> evG P GL Γ E.n ops (got U σ (fun _ => true) i) o = some (true, U i)) (hU : ∀ i, k <= i -> U i = []) (anc : Nat -> Nat -> Prop)
  (hedge : ∀ i o, ops[i]? = some o -> ∀ e ∈ o.after, Region.binds .any e = true -> e.on < i)
  (hanc : ∀ (L : Nat -> Bool), (∀ i o, ops[i]? = some o -> L i = true -> ∀ e ∈ o.after, Region.binds .any e = true -> L e.on = true) -> ∀ j i, j < ops.size -> anc j i -> L j = true -> L i = true)
  (hww : ∀ i j, i < j -> j < k -> (∃ p ∈ U i, ∃ q ∈ U j, p.1 = q.1) -> anc j i)
  (hwr : ∀ i j o, i < j -> j < k -> ops[j]? = some o -> (∃ p ∈ U i, p.1 ∈ rdOf ops (got U σ (fun _ => true) j) o) -> anc j i)
  (hrw : ∀ i j o, i < j -> j < k -> ops[i]? = some o -> (∃ p ∈ U j, p.1 ∈ rdOf ops (got U σ (fun _ => true) i) o) -> anc j i)
  (hancr : ∀ i, i < ops.size -> ∀ (L : Nat -> Bool), (∀ o, ops[i]? = some o -> ∀ e ∈ o.after, Region.binds .any e = true -> L e.on = true) ->
   (∀ i o, ops[i]? = some o -> L i = true -> ∀ e ∈ o.after, Region.binds .any e = true -> L e.on = true) -> ∀ j, anc i j -> L j = true)
  (hrig : ∀ j, k <= j -> j < ops.size -> ∀ i, i < j -> anc j i)
  (hQ : ∀ ρ' a' w', Rr E N B w0 ρ' (got U σ (fun _ => true) k) a' w' -> wpOps P ops Q (List.range' k (ops.size - k)) a' w') :
  ∀ (fuel : Nat) (listed : Array Bool) (ρ : Gh) (a : Act) (w : World), listed.size = ops.size -> (listed.toList.countP (· == false)) <= fuel ->
   (∀ i o, ops[i]? = some o -> listed.getD i false = true -> ∀ e ∈ o.after, Region.binds .any e = true -> listed.getD e.on false = true) -> (∀ j, k <= j -> listed.getD j false = false) ->
   Rr E N B w0 ρ (got U σ (fun i => listed.getD i false) ops.size) a w -> wpAny P .any ops Q fuel listed a w := by
 have hgo : ∀ (fuel : Nat) (listed : Array Bool) ρ a w, listed.size = ops.size -> (listed.toList.countP (· == false)) <= fuel -> (∀ j, k <= j -> listed.getD j false = false) -> (∀ i, i < k -> listed.getD i false = true) ->
   Rr E N B w0 ρ (got U σ (fun i => listed.getD i false) ops.size) a w -> wpAny P .any ops Q fuel listed a w := by
  intro fuel listed ρ a w hsz hc hnt hall hR
  have e1 : got U σ (fun i => listed.getD i false) ops.size = got U σ (fun _ => true) k := by
   rw [got_tail hU _ _ hk]
   exact got_upto k fun i hi => hall i hi
  rw [e1] at hR
  have hL : ∀ i, i < ops.size -> listed.getD i false = decide (i < k) := fun i hi => by
   by_cases h : i < k
   ·rw [hall i h, decide_eq_true h]
   ·rw [hnt i (by omega), decide_eq_false h]
  have hcnt : ops.size - k <= listed.toList.countP (· == false) := by
   have h1 : listed.toList = listed.toList.take k ++ listed.toList.drop k := (List.take_append_drop _ _).symm
   rw [h1, List.countP_append]
   have h2 : (listed.toList.drop k).countP (· == false) = (listed.toList.drop k).length := List.countP_eq_length.2 fun x hx => by
    obtain ⟨j, hj, rfl⟩ := List.mem_iff_getElem.1 hx
    rw [List.getElem_drop]
    simp only [List.length_drop, Array.length_toList] at hj
    have := hnt (k + j) (by omega)
    have hlt : k + j < listed.size := by omega
    simp [hlt] at this
    simp [this]
   rw [h2]
   simp
   omega
  exact tail_any anc hedge hancr hrig (ops.size - k) k fuel listed a w (by omega) (Nat.le_refl _) hsz (by omega) hL (hQ _ _ _ hR)
 intro fuel
 induction fuel with
 | zero =>
  intro listed ρ a w hsz hc hcl hnt hR
  refine hgo 0 listed ρ a w hsz hc hnt (fun i hi => ?_) hR
  have h0 : listed.toList.countP (· == false) = 0 := by omega
  rw [List.countP_eq_zero] at h0
  have hil : i < listed.size := by omega
  have := h0 listed[i] (by simp)
  simp [hil]
  simpa using this
 | succ fuel ih =>
  intro listed ρ a w hsz hc hcl hnt hR
  by_cases hall : ∀ i, i < k -> listed.getD i false = true
  ·exact hgo _ listed ρ a w hsz hc hnt hall hR
  have hex : ∃ i, i < k /\ listed.getD i false = false /\ ∀ i', i' < i -> listed.getD i' false = true := by
   have : ∀ n, n <= k -> (∀ i, i < n -> listed.getD i false = true) \/ ∃ i, i < k /\ listed.getD i false = false /\ ∀ i', i' < i -> listed.getD i' false = true := by
    intro n
    induction n with
    | zero => intro _; exact .inl fun i hi => by omega
    | succ n ihn =>
     intro hn
     rcases ihn (by omega) with h | h
     ·cases hb : listed.getD n false with
      | true =>
      refine .inl fun i hi => ?_
      by_cases e : i = n
      ·exact e ▸ hb
      ·exact h i (by omega)
      | false => exact .inr ⟨n, by omega, hb, h⟩
     ·exact .inr h
   rcases this k (Nat.le_refl _) with h | h
   ·exact absurd h hall
   ·exact h
  obtain ⟨i0, hi0, hb0, hmin⟩ := hex
  refine ⟨fun hr => ?_, fun i hi => ?_⟩
  ·exfalso
   have hlt : i0 < ops.size := by omega
   have : i0 ∈ Region.ready .any ops listed := by
    rw [mem_ready]
    refine ⟨?_, ops[i0], Array.getElem?_eq_getElem hlt, fun e he hb => hmin _ (hedge i0 _ (Array.getElem?_eq_getElem hlt) e he hb)⟩
    have hml : i0 < listed.size := by omega
    simp [hml] at hb0 ⊢
    exact hb0
   rw [hr] at this
   cases this
  rw [mem_ready] at hi
  obtain ⟨h0, o, ho, hre⟩ := hi
  have hin : i < ops.size := (Array.getElem?_eq_some_iff.1 ho).1
  have hil : i < listed.size := by omega
  have hLi : listed.getD i false = false := by simp [hil] at h0 ⊢; exact h0
  have hancI : ∀ j, anc i j -> listed.getD j false = true := hancr i hin (fun i => listed.getD i false) (fun o' ho' e he hb => by rw [ho] at ho'; cases ho'; exact hre e he hb) hcl
  have hik : i < k := by
   rcases Nat.lt_or_ge i k with h | h
   ·exact h
   ·have := hancI i0 (hrig i h hin i0 (by omega))
    rw [hb0] at this
    cases this
  have hlater : ∀ j, j < ops.size -> listed.getD j false = true -> anc j i -> False := fun j hj hL ha => by
   have := hanc (fun i => listed.getD i false) hcl j i hj ha hL
   rw [hLi] at this
   cases this
  have hjk : ∀ j, listed.getD j false = true -> j < k := fun j hL => by
   rcases Nat.lt_or_ge j k with h | h
   ·exact h
   ·rw [hnt j h] at hL; cases hL
  have hrd : ∀ t ∈ rdOf ops (got U σ (fun _ => true) i) o, got U σ (fun i => listed.getD i false) ops.size t = got U σ (fun _ => true) i t := fun t ht =>
   got_read hin (fun j hj ⟨p, hp, e⟩ => hancI j (hwr j i o hj hik ho ⟨p, hp, e ▸ ht⟩)) (fun j hij hj hL p hp e => by
    rcases Nat.lt_or_ge i j with h | h
    ·exact hlater j hj hL (hrw i j o h (hjk j hL) ho ⟨p, hp, e ▸ ht⟩)
    ·have : j = i := by omega
     subst this
     rw [hLi] at hL
     cases hL)
  have hev : evG P GL Γ E.n ops (got U σ (fun i => listed.getD i false) ops.size) o = some (true, U i) := by
   have hUs : ∀ i, i < ops.size -> ∀ p ∈ U i, E.n <= p.1 -> shp p.2 = shp (got U σ (fun _ => true) i p.1) := fun i hi => by
    by_cases h : i < k
    ·exact evG_shp (hs i _ h (Array.getElem?_eq_getElem hi))
    ·rw [hU i (Nat.le_of_not_lt h)]; simp
   rw [evG_congr hGL hrd fun t g n e => by
    have hv := hR.val t (by rw [e]; rfl)
    rw [e] at hv
    obtain ⟨lv, ty, m, ks, c, h1, _⟩ := hv
    have hg := (hR.row g lv ty m ks c h1).1
    rw [got_shp hUs _ _ (Nat.le_refl _) g hg, got_shp hUs _ _ (Nat.le_of_lt hin) g hg]]
   exact hs i o hik ho
  refine evG_op hΓ hR hG hB ho hev fun ρ' a' w' hR' => ?_
  have hset : ∀ j, (listed.setIfInBounds i true).getD j false = (listed.getD j false || j == i) := fun j => by
   by_cases h : j = i
   ·subst h; simp [hil]
   ·have hne : (j == i) = false := by simpa using h
    rw [hne, Bool.or_false, getD_set_ne false (Ne.symm h)]
  refine ih (listed.setIfInBounds i true) ρ' a' w' (by simp [hsz]) ?_ ?_ ?_ ?_
  ·have : (listed.setIfInBounds i true).toList.countP (· == false) + 1 = listed.toList.countP (· == false) := by
    rw [Array.toList_setIfInBounds]
    have e1 : listed.toList = listed.toList.take i ++ listed.toList[i]'(by simpa using hil) :: listed.toList.drop (i + 1) := by
     rw [List.getElem_cons_drop, List.take_append_drop]
    have e2 : listed.toList.set i true = listed.toList.take i ++ true :: listed.toList.drop (i + 1) := List.set_eq_take_append_cons_drop .. |>.trans (if_pos (by simpa using hil))
    have e3 : listed.toList[i]'(by simpa using hil) = false := by
     simp [hil] at hLi
     simpa using hLi
    rw [e2]
    conv => rhs; rw [e1]
    rw [List.countP_append, List.countP_append, List.countP_cons_of_neg (by simp), List.countP_cons_of_pos (by simp [e3])]
    omega
   omega
  ·intro j oj hoj hLj e he hb
   rw [hset] at hLj ⊢
   rw [Bool.or_eq_true] at hLj
   rcases hLj with h | h
   ·rw [hcl j oj hoj h e he hb]; rfl
   ·have : j = i := by simpa using h
    subst this
    rw [ho] at hoj
    cases hoj
    rw [hre e he hb]; rfl
  ·intro j hj
   rw [hset, hnt j hj]
   have : (j == i) = false := by simp; omega
   rw [this]; rfl
  ·have : (fun j => (listed.setIfInBounds i true).getD j false) = (fun j => listed.getD j false || j == i) := funext hset
   rw [this, got_write hin hLi fun j hij hj hL p hp q hq e => hlater j hj hL (hww i j hij (hjk j hL) ⟨q, hq, p, hp, e.symm⟩)]
   exact hR'
theorem region_tail (hmix : P.follows .mixedOrders = true) (hΓ : Sound P GL Γ) (hG : GOk w0 B GL) (hB : ∀ b, B b -> b < w0.heap.size /\ ¬ E.X b)
  {s s' : List AV} {tr : List Foot} {id k : Nat} (hrun : runOps P GL Γ E.n ops (ops.toList.take k) s = some (s', tr)) (hok : okCut ops k tr = true)
  (hR : Rr E s.length B w0 ρ (at' s) a w) (hQ : ∀ ρ' a' w', Rr E s.length B w0 ρ' (at' s') a' w' -> wpOps P ops Q (List.range' k (ops.size - k)) a' w') : (Code.region id ops true).wp P Q a w := by
 have hGL : ∀ g', siteOf (GL g') = none := fun g' => rep_site (hG.rep g')
 unfold okCut at hok
 simp only [Bool.and_eq_true] at hok
 obtain ⟨hkl, hk1, hk2, hk3⟩ := hok
 have hkl : k <= ops.size := by simpa using Nat.le_of_ble_eq_true hkl
 have htl : (ops.toList.take k).length = k := by simp; omega
 obtain ⟨us, e1, e2, e3, e4⟩ := runOps_steps _ _ _ _ (Nat.le_trans hR.vle.1 hR.vle.2) hrun
 rw [htl] at e2 e3
 have tk : ∀ i o, i < k -> ops[i]? = some o -> (ops.toList.take k)[i]? = some o := fun i o hi ho => by
  rw [List.getElem?_take, if_pos hi]; simpa using ho
 let U : Nat -> List (Nat × AV) := fun j => if j < k then us.getD j [] else []
 have hUlt : ∀ j, j < k -> U j = us.getD j [] := fun j h => if_pos h
 have hUge : ∀ j, k <= j -> U j = [] := fun j h => if_neg (by omega)
 have hgU : ∀ m, m <= k -> got U (at' s) (fun _ => true) m = got (fun j => us.getD j []) (at' s) (fun _ => true) m := by
  intro m
  induction m with
  | zero => intro _; rfl
  | succ m ih => intro h; funext t; simp only [got]; rw [ih (by omega), hUlt m (by omega)]
 have hedge : ∀ i o, ops[i]? = some o -> ∀ e ∈ o.after, Region.binds .any e = true -> e.on < i := fun i o ho e he hb => by
  have := edgesOk_spec _ 0 hk1 i o (by simpa using ho) e he hb
  omega
 obtain ⟨hml, hms⟩ := masks_spec (ops := ops) ops.toList [] (fun j o hj => by simpa using hj) (fun j hj => by simp at hj)
 simp only [List.length_nil, Nat.zero_add, Array.length_toList] at hml
 have hmk : ∀ j, j < ops.size -> MaskOk ops j ((masks [] ops.toList).getD j 0) := fun j hj => hms j (by omega)
 have pair : ∀ i j oi oj, i < j -> j < k -> ops[i]? = some oi -> ops[j]? = some oj ->
   (∀ p ∈ us.getD i [], ∀ t, (t ∈ rdOf ops (got (fun j => us.getD j []) (at' s) (fun _ => true) j) oj \/ t ∈ (us.getD j []).map (·.1)) -> p.1 ≠ t) /\
    (∀ p ∈ us.getD j [], p.1 ∉ rdOf ops (got (fun j => us.getD j []) (at' s) (fun _ => true) i) oi) \/ Nat.testBit ((masks [] ops.toList).getD j 0) i = true := by
  intro i j oi oj hij hjk hoi hoj
  have hj : j < ops.size := (Array.getElem?_eq_some_iff.1 hoj).1
  have ti := (e4 i oi (tk i oi (by omega) hoi)).2
  have tj := (e4 j oj (tk j oj hjk hoj)).2
  have hm : ((masks [] ops.toList).take k)[j]? = some ((masks [] ops.toList).getD j 0) := by
   have : j < (masks [] ops.toList).length := by omega
   rw [List.getElem?_take, if_pos hjk]
   simp [List.getD, this]
  have := okPairs_spec _ _ 0 hk2 i j _ _ _ _ _ hij ti tj hm
  rw [Nat.zero_add] at this
  refine this.imp (fun ⟨h1, h2⟩ => ⟨fun p hp t ht e => ?_, fun p hp hin => ?_⟩) (fun h => h)
  ·have hb1 : (bitsOf ((us.getD i []).map (·.1))).testBit t = true := bitsOf_spec (List.mem_map.2 ⟨p, hp, e⟩)
   have hb2 : (bitsOf (rdOf ops (got (fun j => us.getD j []) (at' s) (fun _ => true) j) oj) ||| bitsOf ((us.getD j []).map (·.1))).testBit t = true := by
    rw [Nat.testBit_or]
    rcases ht with ht | ht
    ·rw [bitsOf_spec ht]; rfl
    ·rw [bitsOf_spec ht]; simp
   have : (bitsOf ((us.getD i []).map (·.1)) &&& (bitsOf (rdOf ops (got (fun j => us.getD j []) (at' s) (fun _ => true) j) oj) ||| bitsOf ((us.getD j []).map (·.1)))).testBit t = true := by
    rw [Nat.testBit_and, hb1, hb2]; rfl
   rw [show bitsOf ((us.getD i []).map (·.1)) &&& (bitsOf (rdOf ops (got (fun j => us.getD j []) (at' s) (fun _ => true) j) oj) ||| bitsOf ((us.getD j []).map (·.1))) = 0 from h1] at this
   simp at this
  ·exact bits_disjoint h2 (List.mem_map.2 ⟨p, hp, rfl⟩) hin
 refine wp_region_any hmix ?_
 have hR' : Rr E s.length B w0 ρ (at' s) a { w with drawn := w.drawn + 1 } := hR.drawn
 refine wp_any_pre (N := s.length) (U := U) (σ := at' s) hGL hΓ hG hB hkl (fun i o hi ho => ?_) hUge (fun j i => Nat.testBit ((masks [] ops.toList).getD j 0) i = true) hedge ?_ ?_ ?_ ?_ ?_ ?_ ?_ ops.size (Array.replicate ops.size false) ρ a _ (by simp) ?_ ?_ ?_ ?_
 ·rw [hgU i (by omega), hUlt i hi]
  exact (e4 i o (tk i o hi ho)).1
 ·intro L hL j i hj ha hLj
  exact hmk j hj i ha L hL (fun o ho => hL j o ho hLj)
 ·rintro i j hij hj ⟨p, hp, q, hq, e⟩
  rw [hUlt i (by omega)] at hp
  rw [hUlt j hj] at hq
  rcases pair i j _ _ hij hj (Array.getElem?_eq_getElem (by omega)) (Array.getElem?_eq_getElem (by omega)) with ⟨h, _⟩ | h
  ·exact absurd e (h p hp q.1 (.inr (List.mem_map.2 ⟨q, hq, rfl⟩)))
  ·exact h
 ·rintro i j o hij hj ho ⟨p, hp, hin⟩
  rw [hUlt i (by omega)] at hp
  rw [hgU j (by omega)] at hin
  rcases pair i j _ _ hij hj (Array.getElem?_eq_getElem (by omega)) ho with ⟨h, _⟩ | h
  ·exact absurd rfl (h p hp p.1 (.inl hin))
  ·exact h
 ·rintro i j o hij hj ho ⟨p, hp, hin⟩
  rw [hUlt j hj] at hp
  rw [hgU i (by omega)] at hin
  rcases pair i j _ _ hij hj ho (Array.getElem?_eq_getElem (by omega)) with ⟨_, h⟩ | h
  ·exact absurd hin (h p hp)
  ·exact h
 ·intro i hi L hd hL j ha
  exact hmk i hi j ha L hL hd
 ·intro j hj hjs i hij
  have hm : ((masks [] ops.toList).drop k)[j - k]? = some ((masks [] ops.toList).getD j 0) := by
   have : j < (masks [] ops.toList).length := by omega
   rw [List.getElem?_drop, show k + (j - k) = j by omega]
   simp [List.getD, this]
  exact rigidB_spec _ k hk3 (j - k) _ hm i (by omega)
 ·intro ρ' a' w' h
  refine hQ ρ' a' w' ?_
  rw [e3, <- hgU k (Nat.le_refl _)]
  exact h
 ·simp [List.countP_replicate]
 ·intro i o ho h
  have hi : i < ops.size := (Array.getElem?_eq_some_iff.1 ho).1
  simp [hi] at h
 ·intro j _
  by_cases hj : j < ops.size
  ·simp [hj]
  ·simp [hj]
 ·have e : ∀ m, got U (at' s) (fun i => (Array.replicate ops.size false).getD i false) m = at' s := by
   intro m
   induction m with
   | zero => rfl
   | succ m ih =>
    funext t
    have hf : (Array.replicate ops.size false).getD m false = false := by
     by_cases hm : m < ops.size <;> simp [hm]
    simp only [got, hf, ih]
    rfl
  rw [e]
  exact hR'
end
end Go.Ev
/- A drawn region in which new rows are made among operations that have several orders: each order is run, all must end alike. -/
namespace Go.Ev
open Go.RowKit
def linEx (ops : Array Oper) : Nat -> Array Bool -> List (List Nat)
 | 0, listed => match Region.ready .any ops listed with
  | [] => [[]]
  | _ :: _ => [[ops.size]]
 | f + 1, listed => match Region.ready .any ops listed with
  | [] => [[]]
  | i :: l => (i :: l).flatMap fun i => (linEx ops f (listed.setIfInBounds i true)).map (i :: ·)
def runPi (P : Program) (GL : Nat -> AV) (Γ : List (Nat × Ctr)) (n v : Nat) (sm : List (Nat × List Nat)) (ops : Array Oper) : List Nat -> List AV -> (List AV -> Option AV) -> Option AV
 | [], s, K => K s
 | i :: l, s, K => match ops[i]? with
  | some o => thenS (fun s' => runPi P GL Γ n v sm ops l s' K) (evS P GL Γ n v sm s o)
  | none => none
noncomputable def allSame (l : List (Option AV)) : Option AV := match l with
 | [] => none
 | x :: l => @ite _ (∀ y ∈ l, y = x) (Classical.propDecidable _) x none
theorem allSame_spec {l : List (Option AV)} {x : AV} (h : allSame l = some x) : ∀ y ∈ l, y = some x := by
 cases l with
 | nil => cases h
 | cons y l =>
  have h : @ite _ (∀ z ∈ l, z = y) (Classical.propDecidable _) y none = some x := h
  by_cases hh : ∀ z ∈ l, z = y
  ·rw [if_pos hh] at h
   intro z hz
   rcases List.mem_cons.1 hz with e | hz
   ·rw [e, h]
   ·rw [hh z hz, h]
  ·rw [if_neg hh] at h
   cases h
theorem allSame_rep {x : Option AV} (n : Nat) : allSame (List.replicate (n + 1) x) = x := by
 rw [List.replicate_succ]
 show @ite _ (∀ z ∈ List.replicate n x, z = x) (Classical.propDecidable _) x none = x
 rw [if_pos fun y hy => (List.mem_replicate.1 hy).2]
def noGuard : List Oper -> Bool
 | [] => true
 | o :: l => match o.guard with
  | none => noGuard l
  | some _ => false
def manyOf (sm : List (Nat × List Nat)) (ops : Array Oper) : Bool := match sm with
 | [] => false
 | _ :: _ => hasSm sm (ops.toList.take (rigidAt 0 (masks [] ops.toList)))
def rowsIx (v : Nat) : Nat -> List AV -> List Nat
 | _, [] => []
 | i, x :: l => match x, Nat.ble v i with
  | .row _ _ _ _ _, true => i :: rowsIx v (i + 1) l
  | _, _ => rowsIx v (i + 1) l
noncomputable def evAny (P : Program) (GL : Nat -> AV) (Γ : List (Nat × Ctr)) (n v : Nat) (sm : List (Nat × List Nat)) (ops : Array Oper) (s : List AV) (K : List AV -> Option AV) : Option AV := match noGuard ops.toList, frzAll v s (rowsIx v 0 s) with
 | true, some s => allSame ((linEx ops ops.size (Array.replicate ops.size false)).map fun π => runPi P GL Γ n v sm ops π s K)
 | _, _ => none
theorem noGuard_spec : ∀ {l : List Oper}, noGuard l = true -> ∀ o ∈ l, o.guard = none
 | [], _, o, h => by cases h
 | x :: l, hn, o, h => by
  unfold noGuard at hn
  split at hn
  ·rename_i hx
   rcases List.mem_cons.1 h with rfl | h
   ·exact hx
   ·exact noGuard_spec hn o h
  ·cases hn
theorem linEx_ne (ops : Array Oper) : ∀ (f : Nat) (listed : Array Bool), linEx ops f listed ≠ []
 | 0, listed => by
  unfold linEx
  split <;> simp
 | f + 1, listed => by
  unfold linEx
  split
  ·simp
  ·rename_i i l _
   intro h
   rw [List.flatMap_cons] at h
   have := (List.append_eq_nil_iff.1 h).1
   rw [List.map_eq_nil_iff] at this
   exact linEx_ne ops f _ this
section
variable {P : Program} {GL : Nat -> AV} {Γ : List (Nat × Ctr)} {E : Ext} {N : Nat} {B : Nat -> Prop} {w0 w : World} {ρ : Gh} {a : Act} {s : List AV} {ops : Array Oper} {sm : List (Nat × List Nat)} {Q : Exit -> Act -> World -> Prop}
theorem any_orders (hΓ : Sound P GL Γ) (hG : GOk w0 B GL) (hB : ∀ b, B b -> b < w0.heap.size /\ ¬ E.X b) {x : AV} {Kc : List AV -> Option AV} (hn : noGuard ops.toList = true)
  (hQ : ∀ s' ρ' a' w', Kc s' = some x -> s'.length = N -> Rr E N B w0 ρ' (at' s') a' w' -> Q .normal a' w') :
  ∀ (f : Nat) (listed : Array Bool) (s : List AV) (ρ : Gh) (a : Act) (w : World), (∀ π ∈ linEx ops f listed, runPi P GL Γ E.n E.v sm ops π s Kc = some x) -> s.length = N -> Rr E N B w0 ρ (at' s) a w -> wpAny P .any ops Q f listed a w := by
 intro f
 induction f with
 | zero =>
  intro listed s ρ a w h hl hR
  unfold linEx at h
  split at h
  ·rename_i hr
   exact ⟨hr, hQ _ _ _ _ (h [] (by simp)) hl hR⟩
  ·have := h [ops.size] (by simp)
   simp [runPi] at this
 | succ f ih =>
  intro listed s ρ a w h hl hR
  unfold linEx at h
  split at h
  ·rename_i hr
   refine ⟨fun _ => hQ _ _ _ _ (h [] (by simp)) hl hR, fun i hi => ?_⟩
   rw [hr] at hi
   cases hi
  ·rename_i j l hr
   refine ⟨fun h0 => (by rw [hr] at h0; cases h0), fun i hi => ?_⟩
   have hi' := hi
   rw [mem_ready] at hi
   obtain ⟨_, o, ho, _⟩ := hi
   have hrun : ∀ π ∈ linEx ops f (listed.setIfInBounds i true), runPi P GL Γ E.n E.v sm ops (i :: π) s Kc = some x := fun π hπ => by
    refine h _ (List.mem_flatMap.2 ⟨i, ?_, List.mem_map.2 ⟨π, hπ, rfl⟩⟩)
    rw [<- hr]
    exact hi'
   obtain ⟨π0, hπ0⟩ : ∃ π0, π0 ∈ linEx ops f (listed.setIfInBounds i true) := List.exists_mem_of_ne_nil _ (linEx_ne ops f _)
   have hst : ∀ π ∈ linEx ops f (listed.setIfInBounds i true), ∃ s1, evS P GL Γ E.n E.v sm s o = some (true, s1) /\ runPi P GL Γ E.n E.v sm ops π s1 Kc = some x := fun π hπ => by
    have := hrun π hπ
    unfold runPi at this
    rw [ho] at this
    exact thenS_spec this
   obtain ⟨s1, h1, _⟩ := hst π0 hπ0
   have hs1 : ∀ π ∈ linEx ops f (listed.setIfInBounds i true), runPi P GL Γ E.n E.v sm ops π s1 Kc = some x := fun π hπ => by
    obtain ⟨s2, h2, h3⟩ := hst π hπ
    rw [h1] at h2
    cases h2
    exact h3
   have hg := noGuard_spec hn o (by simpa using Array.mem_of_getElem? ho)
   unfold wpOp
   simp only [ho]
   rw [if_pos (by simp [Region.wanted, hg])]
   exact .inl (evS_sound hΓ hR hl hG hB h1 fun ρ' a' w' k1 k2 => ih _ s1 ρ' a' w' hs1 k1 k2)
theorem any_sound (hmix : P.follows .mixedOrders = true) (hΓ : Sound P GL Γ) (hG : GOk w0 B GL) (hB : ∀ b, B b -> b < w0.heap.size /\ ¬ E.X b) {x : AV} {Kc : List AV -> Option AV} {id : Nat}
  (hQ : ∀ s' ρ' a' w', Kc s' = some x -> s'.length = N -> Rr E N B w0 ρ' (at' s') a' w' -> Q .normal a' w')
  (hl : s.length = N) (hR : Rr E N B w0 ρ (at' s) a w) (h : evAny P GL Γ E.n E.v sm ops s Kc = some x) : (Code.region id ops true).wp P Q a w := by
 unfold evAny at h
 split at h
 ·rename_i s1 hn hf
  obtain ⟨ρ1, hR1, hl1⟩ := frzAll_sound _ _ _ _ hR hl hf
  refine wp_region_any hmix ?_
  refine any_orders (sm := sm) hΓ hG hB hn hQ ops.size _ s1 ρ1 a _ (fun π hπ => ?_) hl1 hR1.drawn
  exact allSame_spec h _ (List.mem_map.2 ⟨π, hπ, rfl⟩)
 ·cases h
end
end Go.Ev
/- The evaluator of code, and the contract of a function that it evaluates. -/
namespace Go.Ev
open Go.RowKit
inductive Ex where
 | norm
 | exit (id : Nat)
 | ret
abbrev Kont := Ex -> List AV -> Option AV
def evL (F : List AV -> List AV) (body : List AV -> Kont -> Option AV) : Nat -> List AV -> Kont -> Option AV
 | 0, _, _ => none
 | n + 1, s, K => body s fun e s' => match e with
  | .norm => evL F body n (F s') K
  | .exit id => K (.exit id) s'
  | .ret => K .ret s'
def maskL : List Bool -> List AV -> List AV
 | true :: k, x :: s => x :: maskL k s
 | false :: k, _ :: s => .non :: maskL k s
 | [], s => s.map fun _ => .non
 | _, [] => []
def siteOk (s : List AV) (x : AV) : Bool := match siteOf x with
 | some g => isSlot (at' s g)
 | none => true
def sitesOk (s : List AV) : List AV -> Bool
 | [] => true
 | x :: l => match siteOk s x with
  | true => sitesOk s l
  | false => false
def fixRef (s : List AV) (x : AV) : AV := match x with
 | .tup l => (match sitesOk s l with | true => .tup l | false => .non)
 | x => (match siteOk s x with | true => x | false => .non)
def fixRefs (s : List AV) : List AV -> List AV
 | [] => []
 | x :: l => fixRef s x :: fixRefs s l
def maskN (n : Nat) (keep : List Bool) (s : List AV) : List AV := maskL keep (s.take n) ++ s.drop n
def hitsT (g : Nat) : AV -> Bool
 | .tup l => anyHits g l
 | x => hits g x
def anyRef (g : Nat) : List AV -> Bool
 | [] => false
 | x :: l => match hitsT g x with
  | true => true
  | false => anyRef g l
def gcL (v : Nat) (s : List AV) : Nat -> List AV -> List AV
 | _, [] => []
 | i, x :: l => (match Nat.ble v i, anyRef i s with | true, false => (match isSlot x with | true => .non | false => x) | _, _ => x) :: gcL v s (i + 1) l
def forget (n v : Nat) (keep : List Bool) (s : List AV) : List AV := gcL v (fixRefs (maskN n keep s) (maskN n keep s)) 0 (fixRefs (maskN n keep s) (maskN n keep s))
def isArg : AV -> Bool
 | .own _ _ => true
 | .row _ _ _ _ _ => true
 | _ => false
def refA (g : Nat) : AV -> AV
 | .row _ _ m _ _ => .sl g m
 | _ => .ref g 0
def vrtA : AV -> AV
 | .own t c => .vown t c
 | x => x
def inits (n : Nat) : Nat -> List AV -> List AV
 | _, [] => []
 | j, x :: l => match isArg x with
  | true => refA (n + j) x :: inits n (j + 1) l
  | false => x :: inits n j l
def virts : List AV -> List AV
 | [] => []
 | x :: l => match isArg x with
  | true => vrtA x :: virts l
  | false => virts l
def owns : Nat -> List AV -> List Nat
 | _, [] => []
 | i, x :: l => match isArg x with
  | true => i :: owns (i + 1) l
  | false => owns (i + 1) l
def outsOf (s : List AV) (n : Nat) : Nat -> List AV -> Option (List AV)
 | _, [] => some []
 | j, .own ty _ :: l => match at' s (n + j) with
  | .vown ty' c => match Nat.beq ty ty', outsOf s n (j + 1) l with
   | true, some os => some (.agg c :: os)
   | _, _ => none
  | _ => none
 | j, .row _ _ _ _ _ :: l => match at' s (n + j) with
  | .row lv ty m ks c => match outsOf s n (j + 1) l with
   | some os => some (.row lv ty m ks c :: os)
   | none => none
  | _ => none
 | j, _ :: l => match outsOf s n j l with
  | some os => some (.non :: os)
  | none => none
def lit (s : List AV) (c : Operand) (b : Bool) : List AV := match c with
 | .tmp t => s.set t (.val (.bool b))
 | _ => s
structure Cfg where
 keep : List Bool
 cuts : List (Nat × List Bool)
 sm : List (Nat × List Nat)
 sp : Nat
 nr : List (Option (TypeId × List CK))
section
variable (P : Program) (GL : Nat -> AV) (Γ : List (Nat × Ctr)) (n v k : Nat) (cfg : Cfg)
noncomputable def evRg (ops : Array Oper) (draw : Bool) (s : List AV) (K : Kont) : Option AV := match draw with
 | true => match manyOf cfg.sm ops with
  | true => evAny P GL Γ n v cfg.sm ops s (K .norm)
  | false => match cutOf cfg.sm ops with
   | none => cpsOps P GL Γ n ops true ops.toList s [] fun s' tr => match okOrder ops tr.reverse with
    | true => K .norm s'
    | false => none
   | some k => cpsOps P GL Γ n ops true (ops.toList.take k) s [] fun s' tr => match okCut ops k tr.reverse with
    | true => seqOps P GL Γ n v cfg.sm ops (ops.toList.drop k) s' (K .norm)
    | false => none
 | false => seqOps P GL Γ n v cfg.sm ops ops.toList s (K .norm)
def cutAt : List (Nat × List Bool) -> Nat -> Option (List Bool)
 | [], _ => none
 | (i, kp) :: l, id => match Nat.beq i id with
  | true => some kp
  | false => cutAt l id
noncomputable def evC : Code -> List AV -> Kont -> Option AV
 | .skip, s, K => K .norm s
 | .region id ops draw, s, K => match cutAt cfg.cuts id with
  | some kp => evRg P GL Γ n v cfg ops draw (forget n v kp s) K
  | none => evRg P GL Γ n v cfg ops draw s K
 | .seq x y, s, K => evC x s fun e s' => match e with
  | .norm => evC y s' K
  | .exit id => K (.exit id) s'
  | .ret => K .ret s'
 | .cond c x y, s, K => match evA GL (at' s) c with
  | .val (.bool b) => cond b (evC x (lit s c true) K) (evC y (lit s c false) K)
  | _ => none
 | .block id c, s, K => evC c s fun e s' => match e with
  | .norm => K .norm s'
  | .exit i => (match Nat.beq i id with
   | true => K .norm s'
   | false => K (.exit i) s')
  | .ret => K .ret s'
 | .loop c, s, K => evL (forget n v cfg.keep) (evC c) k (forget n v cfg.keep s) K
 | .exit id, s, K => K (.exit id) s
 | .ret, s, K => K .ret s
 | _, _, _ => none
def evRes1 (s : List AV) (nr : Option (TypeId × List CK)) : ResultVar -> Option (AV × Option Nat)
 | .tmp t => match at' s t with
  | .own _ _ => none
  | .vown _ _ => none
  | .row _ _ _ _ _ => none
  | .ref _ _ => none
  | .rf _ _ _ => none
  | .tup _ => none
  | .sl g m => match Nat.ble v g, at' s g with
   | true, .row lv ty _ ks c => some (.row lv ty m ks c, some g)
   | _, _ => none
  | .val (.slice none 0 0) => match nr with
   | some (ty, ks) => some (.row false ty 0 ks fun _ _ => 0, none)
   | none => some (.val (.slice none 0 0), none)
  | .nils => match nr with
   | some (ty, ks) => some (.row false ty 0 ks fun _ _ => 0, none)
   | none => some (.nils, none)
  | x => some (x, none)
 | .cell t ty => match evA GL (at' s) (.tmp t) with
  | .ref g k => match at' s g with
   | .own _ c => match ldAV P ty (c.drop k) with
    | some x => match isRep x with
     | true => some (x, none)
     | false => none
    | none => none
   | _ => none
  | _ => none
def evResL (s : List AV) : List (Option (TypeId × List CK)) -> List ResultVar -> Option (List AV × List Nat)
 | _, [] => some ([], [])
 | nr, r :: l => match evRes1 P GL v s nr.head?.join r with
  | some (x, og) => match evResL s nr.tail l with
   | some (xs, gs) => match og with
    | none => some (x :: xs, gs)
    | some g => match memB g gs with
     | false => some (x :: xs, g :: gs)
     | true => none
   | none => none
  | none => none
def evRes0 (s : List AV) (l : List ResultVar) : Option AV := match evResL P GL v s cfg.nr l with
 | some ([x], _) => some x
 | some (xs, _) => some (.tup xs)
 | none => none
def ownAt (s : List AV) : List ResultVar -> Option AV
 | [.tmp t] => match at' s t with
  | .own ty c => some (.own ty c)
  | .ref g k => match Nat.beq k 0, at' s g with
   | true, .own ty c => some (.own ty c)
   | _, _ => none
  | _ => none
 | _ => none
def evRes (s : List AV) (l : List ResultVar) : Option AV := match ownAt s l with
 | some x => some x
 | none => evRes0 P GL v cfg s l
def evFin (res : List ResultVar) (args s : List AV) : Option AV := match evRes P GL v cfg s res with
 | some x => match virts args with
  | [] => some x
  | _ => match outsOf s n 0 args with
   | some os => some (.out x os)
   | none => none
 | none => none
end
def shiftSm (v : Nat) : List (Nat × List Nat) -> List (Nat × List Nat)
 | [] => []
 | (d, gs) :: l => (d, gs.map (v + ·)) :: shiftSm v l
def Cfg.at (cfg : Cfg) (v : Nat) : Cfg := { cfg with sm := shiftSm v cfg.sm }
noncomputable def evF (P : Program) (GL : Nat -> AV) (Γ : List (Nat × Ctr)) (n k : Nat) (cfg : Cfg) (res : List ResultVar) (c : Code) (args : List AV) : Option AV :=
 evC P GL Γ n (n + (virts args).length) k (cfg.at (n + (virts args).length)) c (inits n 0 args ++ List.replicate (n - args.length) .non ++ virts args ++ List.replicate cfg.sp .non) fun e s => match e with
  | .norm => evFin P GL n (n + (virts args).length) cfg res args s
  | .ret => evFin P GL n (n + (virts args).length) cfg res args s
  | .exit _ => none
section
variable {P : Program} {GL : Nat -> AV} {Γ : List (Nat × Ctr)} {E : Ext} {k : Nat} {keep : List Bool} {cfg : Cfg} {B : Nat -> Prop} {w0 : World} {N : Nat}
theorem maskL_length : ∀ (keep : List Bool) (s : List AV), (maskL keep s).length = s.length
 | true :: k, x :: s => by simp [maskL, maskL_length k s]
 | false :: k, x :: s => by simp [maskL, maskL_length k s]
 | [], s => by simp [maskL]
 | true :: k, [] => rfl
 | false :: k, [] => rfl
theorem maskL_at : ∀ (keep : List Bool) (s : List AV) (t : Nat), at' (maskL keep s) t = at' s t \/ at' (maskL keep s) t = .non
 | true :: k, x :: s, 0 => .inl rfl
 | true :: k, x :: s, t + 1 => by simpa [maskL, at'] using maskL_at k s t
 | false :: k, x :: s, 0 => .inr rfl
 | false :: k, x :: s, t + 1 => by simpa [maskL, at'] using maskL_at k s t
 | [], s, t => by
  refine .inr ?_
  by_cases h : t < s.length <;> simp [maskL, at', List.getD, h]
 | true :: k, [], t => .inl rfl
 | false :: k, [], t => .inl rfl
theorem fixRefs_length (s : List AV) : ∀ l, (fixRefs s l).length = l.length
 | [] => rfl
 | x :: l => by simp [fixRefs, fixRefs_length s l]
theorem sitesOk_spec {s : List AV} : ∀ {l : List AV}, sitesOk s l = true -> ∀ g, g ∈ l.filterMap siteOf -> isSlot (at' s g) = true
 | [], _, g, h => by simp at h
 | x :: l, h, g, hg => by
  unfold sitesOk at h
  split at h
  ·rename_i hx
   rw [List.filterMap_cons] at hg
   split at hg
   ·exact sitesOk_spec h g hg
   ·rename_i g' hg'
    rcases List.mem_cons.1 hg with rfl | hg
    ·unfold siteOk at hx
     rw [hg'] at hx
     exact hx
    ·exact sitesOk_spec h g hg
  ·cases h
theorem fixRef_spec (s : List AV) (x : AV) : (fixRef s x = x /\ ∀ g, g ∈ sitesOf x -> isSlot (at' s g) = true) \/ (fixRef s x = .non /\ isSlot x = false) := by
 unfold fixRef
 split
 ·split
  ·rename_i h
   exact .inl ⟨rfl, fun g hg => sitesOk_spec h g hg⟩
  ·exact .inr ⟨rfl, rfl⟩
 ·rename_i hnt
  split
  ·rename_i h
   refine .inl ⟨rfl, fun g hg => ?_⟩
   have hg' : siteOf x = some g := by
    cases x <;> simp_all [sitesOf]
   unfold siteOk at h
   rw [hg'] at h
   exact h
  ·rename_i h
   refine .inr ⟨rfl, ?_⟩
   cases x <;> first | rfl | (simp [siteOk, siteOf] at h)
theorem fixRefs_at (s : List AV) : ∀ (l : List AV) (t : Nat), at' (fixRefs s l) t = fixRef s (at' l t)
 | [], t => by
  have : at' ([] : List AV) t = .non := by simp [at']
  simp only [fixRefs, this]
  rfl
 | x :: l, 0 => rfl
 | x :: l, t + 1 => by simpa [fixRefs, at'] using fixRefs_at s l t
theorem gcL_length (v : Nat) (s : List AV) : ∀ (l : List AV) (i : Nat), (gcL v s i l).length = l.length
 | [], _ => rfl
 | x :: l, i => by simp [gcL, gcL_length v s l]
theorem gcL_at (v : Nat) (s : List AV) : ∀ (l : List AV) (i t : Nat), at' (gcL v s i l) t = at' l t \/ (at' (gcL v s i l) t = .non /\ isSlot (at' l t) = true /\ v <= i + t /\ anyRef (i + t) s = false)
 | [], i, t => .inl (by simp [gcL])
 | x :: l, i, 0 => by
  simp only [gcL, at', List.getD_cons_zero]
  split
  ·rename_i h1 h2
   split
   ·rename_i h3
    exact .inr ⟨rfl, h3, Nat.le_of_ble_eq_true h1, h2⟩
   ·exact .inl rfl
  ·exact .inl rfl
 | x :: l, i, t + 1 => by
  have := gcL_at v s l (i + 1) t
  rw [show i + (t + 1) = i + 1 + t by omega]
  simpa [gcL, at'] using this
theorem anyRef_spec {g : Nat} : ∀ {s : List AV}, anyRef g s = false -> ∀ t, g ∉ sitesOf (at' s t)
 | [], _, t => by simp [at', sitesOf, siteOf]
 | x :: s, h, t => by
  unfold anyRef at h
  split at h
  ·cases h
  ·rename_i hx
   cases t with
   | zero =>
    show g ∉ sitesOf x
    intro hg
    unfold hitsT at hx
    split at hx
    ·rename_i l
     obtain ⟨y, hy, e⟩ := List.mem_filterMap.1 hg
     obtain ⟨i, hi, rfl⟩ := List.getElem_of_mem hy
     have := anyHits_spec hx i hi
     simp [List.getD, hi, hits, e] at this
    ·rename_i hnt
     have e : siteOf x = some g := by cases x <;> simp_all [sitesOf]
     simp [hits, e] at hx
   | succ t => simpa [at'] using anyRef_spec h t
theorem maskN_length {n : Nat} (s : List AV) : (maskN n keep s).length = s.length := by simp [maskN, maskL_length]; omega
theorem forget_length {n v : Nat} (s : List AV) : (forget n v keep s).length = s.length := by rw [forget, gcL_length, fixRefs_length, maskN_length]
theorem maskN_at {n : Nat} (s : List AV) (t : Nat) : (at' (maskN n keep s) t = at' s t \/ at' (maskN n keep s) t = .non) /\ (n <= t -> at' (maskN n keep s) t = at' s t) := by
 have hl : (maskL keep (s.take n)).length = min n s.length := by simp [maskL_length]
 have h2 : min n s.length <= t -> n <= t -> at' (maskN n keep s) t = at' s t := fun h h' => by
  simp only [maskN, at', List.getD]
  rw [List.getElem?_append_right (by omega), List.getElem?_drop, hl]
  by_cases hs : n <= s.length
  ·rw [show n + (t - min n s.length) = t by omega]
  ·rw [List.getElem?_eq_none (by omega), List.getElem?_eq_none (by omega)]
 refine ⟨?_, fun h => h2 (by omega) h⟩
 by_cases h : t < n
 ·by_cases h' : t < s.length
  ·have e1 : at' (maskN n keep s) t = at' (maskL keep (s.take n)) t := by
    simp only [maskN, at', List.getD]
    rw [List.getElem?_append_left (by omega)]
   have e2 : at' (s.take n) t = at' s t := by simp [at', List.getD, List.getElem?_take, h]
   rw [e1, <- e2]
   exact maskL_at keep (s.take n) t
  ·refine .inr ?_
   rw [at_out]
   rw [maskN_length]; omega
 ·exact .inl (h2 (by omega) (by omega))
theorem Rr.forget {ρ : Gh} {s : List AV} {a : Act} {w : World} (hR : Rr E N B w0 ρ (at' s) a w) : Rr E N B w0 ρ (at' (forget E.n E.v keep s)) a w := by
 let m := maskN E.n keep s
 let f := fixRefs m m
 have hf : ∀ t, at' f t = fixRef m (at' m t) := fun t => fixRefs_at m m t
 have hfm : ∀ t, isSlot (at' m t) = true -> at' f t = at' m t := fun t ht => by
  rcases fixRef_spec m (at' m t) with ⟨e, _⟩ | ⟨_, e⟩
  ·rw [hf, e]
  ·rw [ht] at e; cases e
 have h1 : Rr E N B w0 ρ (at' f) a w := by
  refine hR.less (fun t => ?_) (fun t g hg => ?_) (fun t k1 k2 => ?_)
  ·rcases fixRef_spec m (at' m t) with ⟨e, _⟩ | ⟨e, _⟩
   ·rw [hf, e]; exact (maskN_at s t).1
   ·rw [hf, e]; exact .inr rfl
  ·rcases fixRef_spec m (at' m t) with ⟨e, h⟩ | ⟨e, _⟩
   ·rw [hf, e] at hg
    have hs := h g hg
    rw [hfm g hs]
    rcases (maskN_at (n := E.n) (keep := keep) s g).1 with e | e
    ·exact e
    ·have : at' m g = .non := e
     rw [this] at hs; cases hs
   ·rw [hf, e] at hg
    simp [sitesOf, siteOf] at hg
  ·have e := (maskN_at (keep := keep) s t).2 k1
   have : isSlot (at' m t) = true := by show isSlot (at' (maskN E.n keep s) t) = true; rw [e]; exact (hR.vir t k1 k2).1
   rw [hfm t this]
   exact e
 have hsub : ∀ t, at' (gcL E.v f 0 f) t = at' f t \/ (at' (gcL E.v f 0 f) t = .non /\ isSlot (at' f t) = true /\ E.v <= t /\ anyRef t f = false) := fun t => by
  have := gcL_at E.v f f 0 t
  rwa [Nat.zero_add] at this
 show Rr E N B w0 ρ (at' (gcL E.v f 0 f)) a w
 refine h1.less (fun t => (hsub t).imp id fun h => h.1) (fun t g hg => ?_) (fun t k1 k2 => ?_)
 ·rcases hsub g with e | ⟨_, _, _, e⟩
  ·exact e
  ·exfalso
   rcases hsub t with e' | ⟨e', _⟩
   ·rw [e'] at hg; exact anyRef_spec e t hg
   ·rw [e'] at hg; simp [sitesOf, siteOf] at hg
 ·rcases hsub t with e | ⟨_, _, e, _⟩
  ·exact e
  ·omega
theorem lit_eq {σ : List AV} {c : Operand} {b : Bool} (h : evA GL (at' σ) c = .val (.bool b)) : lit σ c b = σ := by
 cases c with
 | tmp t =>
  have : at' σ t = .val (.bool b) := by
   revert h
   simp only [evA]
   split <;> first | (intro h; cases h; done) | exact id
  exact set_self this
 | _ => rfl
theorem evC_sound (hmix : P.follows .mixedOrders = true) (hΓ : Sound P GL Γ) (hG : GOk w0 B GL) (hB : ∀ b, B b -> b < w0.heap.size /\ ¬ E.X b) {x : AV} :
  ∀ (c : Code) (s : List AV) (K : Kont), evC P GL Γ E.n E.v k cfg c s K = some x -> ∀ (Q : Exit -> Act -> World -> Prop), s.length = N ->
   (∀ s' ρ' a' w', K .norm s' = some x -> s'.length = N -> Rr E N B w0 ρ' (at' s') a' w' -> Q .normal a' w') ->
   (∀ id s' ρ' a' w', K (.exit id) s' = some x -> s'.length = N -> Rr E N B w0 ρ' (at' s') a' w' -> Q (.exit id) a' w') ->
   (∀ s' ρ' a' w', K .ret s' = some x -> s'.length = N -> Rr E N B w0 ρ' (at' s') a' w' -> Q .ret a' w') ->
   ∀ ρ a w, Rr E N B w0 ρ (at' s) a w -> c.wp P Q a w := by
 intro c
 induction c with
 | skip => intro s K h Q hN h1 _ _ ρ a w hR; exact wp_skip (h1 _ _ _ _ h hN hR)
 | region id ops draw =>
  intro s K h Q hN h1 _ _ ρ a w hR
  have key : ∀ s, s.length = N -> Rr E N B w0 ρ (at' s) a w -> evRg P GL Γ E.n E.v cfg ops draw s K = some x -> (Code.region id ops draw).wp P Q a w := by
   intro s hN hR h
   unfold evRg at h
   split at h
   ·split at h
    ·exact any_sound hmix hΓ hG hB (fun s' ρ' a' w' hk hl hR' => h1 s' ρ' a' w' hk hl hR') hN hR h
    split at h
    ·obtain ⟨s', tr, hrun, hK⟩ := cpsOps_run _ _ _ _ h
     subst hN
     have hl : s'.length = s.length := by obtain ⟨_, e, _⟩ := runOps_steps _ _ _ _ (by have := hR.vle; omega) hrun; exact e
     simp only [joinTr, List.append_nil, List.reverse_reverse] at hK
     split at hK
     ·rename_i hok
      exact region_sound hmix hΓ hG hB hrun (fun _ => hok) hR fun ρ' a' w' hR' => h1 _ _ _ _ hK hl hR'
     ·cases hK
    ·rename_i k hk
     obtain ⟨s', tr, hrun, hK⟩ := cpsOps_run _ _ _ _ h
     subst hN
     have hl : s'.length = s.length := by obtain ⟨_, e, _⟩ := runOps_steps _ _ _ _ (by have := hR.vle; omega) hrun; exact e
     simp only [joinTr, List.append_nil, List.reverse_reverse] at hK
     split at hK
     ·rename_i hok
      have hkl : k <= ops.size := by
       unfold okCut at hok
       rw [Bool.and_eq_true] at hok
       simpa using Nat.le_of_ble_eq_true hok.1
      refine region_tail hmix hΓ hG hB hrun hok hR fun ρ' a' w' hR' => ?_
      have := seqOps_sound (ops := ops) hΓ hG hB (fun s' ρ' a' w' hk hl hR' => h1 s' ρ' a' w' hk hl hR') (ops.toList.drop k) k s' ρ' a' w' (fun i o hi => by
       rw [List.getElem?_drop] at hi; simpa using hi) (by simp; omega) hl hR' hK
      simpa using this
     ·cases hK
   ·refine wp_region ?_
    rw [List.range_eq_range']
    have := seqOps_sound (ops := ops) hΓ hG hB (fun s' ρ' a' w' hk hl hR' => h1 s' ρ' a' w' hk hl hR') ops.toList 0 s ρ a w (fun i o hi => by simpa using hi) (by simp) hN hR h
    simpa using this
  unfold evC at h
  split at h
  ·exact key _ (by rw [forget_length]; exact hN) hR.forget h
  ·exact key s hN hR h
 | seq c d ihc ihd =>
  intro s K h Q hN h1 h2 h3 ρ a w hR
  unfold evC at h
  refine wp_seq (ihc s _ h _ hN ?_ ?_ ?_ ρ a w hR)
  ·intro s' ρ' a' w' hk hl hR'
   exact ihd s' K hk Q hl h1 h2 h3 ρ' a' w' hR'
  ·intro id s' ρ' a' w' hk hl hR'
   exact h2 id s' ρ' a' w' hk hl hR'
  ·intro s' ρ' a' w' hk hl hR'
   exact h3 s' ρ' a' w' hk hl hR'
 | cond c t e iht ihe =>
  intro s K h Q hN h1 h2 h3 ρ a w hR
  unfold evC at h
  split at h
  ·rename_i b hb
   have hv : a.eval c = .bool b := toV_eval hR hG hB (by rw [hb]; rfl)
   have hl := lit_eq hb
   cases b with
   | true =>
    simp only [cond_true, hl] at h
    exact wp_cond_true hv (iht s K h Q hN h1 h2 h3 ρ a w hR)
   | false =>
    simp only [cond_false, hl] at h
    exact wp_cond_false hv (ihe s K h Q hN h1 h2 h3 ρ a w hR)
  ·cases h
 | block id c ih =>
  intro s K h Q hN h1 h2 h3 ρ a w hR
  unfold evC at h
  refine wp_block (ih s _ h _ hN ?_ ?_ ?_ ρ a w hR)
  ·intro s' ρ' a' w' hk hl hR'
   exact h1 s' ρ' a' w' hk hl hR'
  ·intro i s' ρ' a' w' hk hl hR'
   simp only at hk
   show if i = id then Q .normal a' w' else Q (.exit i) a' w'
   split at hk
   ·rename_i hi
    rw [if_pos (Nat.eq_of_beq_eq_true hi)]
    exact h1 s' ρ' a' w' hk hl hR'
   ·rename_i hi
    rw [if_neg (Nat.ne_of_beq_eq_false hi)]
    exact h2 i s' ρ' a' w' hk hl hR'
  ·intro s' ρ' a' w' hk hl hR'
   exact h3 s' ρ' a' w' hk hl hR'
 | loop c ih =>
  intro s K h Q hN h1 h2 h3 ρ a w hR
  unfold evC at h
  let G : Nat -> Act -> World -> Prop := fun m a w => ∃ s ρ, evL (forget E.n E.v cfg.keep) (evC P GL Γ E.n E.v k cfg c) m s K = some x /\ s.length = N /\ Rr E N B w0 ρ (at' s) a w
  have hμ : ∃ μ : Act -> World -> Nat, ∀ a w m, G m a w -> G (μ a w) a w /\ μ a w <= m := by
   have : ∀ a w, ∃ n, ∀ m, G m a w -> G n a w /\ n <= m := by
    intro a w
    by_cases hex : ∃ m, G m a w
    ·obtain ⟨m, hm⟩ := hex
     induction m using Nat.strongRecOn with
     | _ m ihm =>
      by_cases hlt : ∃ m', m' < m /\ G m' a w
      ·obtain ⟨m', h', hg⟩ := hlt
       exact ihm m' h' hg
      ·exact ⟨m, fun m' hm' => ⟨hm, Nat.le_of_not_lt fun hh => hlt ⟨m', hh, hm'⟩⟩⟩
    ·exact ⟨0, fun m hm => absurd ⟨m, hm⟩ hex⟩
   exact ⟨fun a w => Classical.choose (this a w), fun a w => Classical.choose_spec (this a w)⟩
  obtain ⟨μ, hμ⟩ := hμ
  refine wp_loop (fun a w => ∃ m, G m a w) μ ⟨k, _, ρ, h, by rw [forget_length]; exact hN, hR.forget⟩ fun a w hI => ?_
  obtain ⟨m, hm⟩ := hI
  obtain ⟨⟨s1, ρ1, e1, e2, e3⟩, hle⟩ := hμ a w m hm
  cases hμ0 : μ a w with
  | zero => rw [hμ0] at e1; cases e1
  | succ n =>
   rw [hμ0] at e1
   unfold evL at e1
   refine ih s1 _ e1 _ e2 ?_ ?_ ?_ ρ1 a w e3
   ·intro s' ρ' a' w' hk hl hR'
    have hg : G n a' w' := ⟨_, ρ', hk, by rw [forget_length]; exact hl, hR'.forget⟩
    refine ⟨⟨n, hg⟩, ?_⟩
    have := (hμ a' w' n hg).2
    omega
   ·intro id s' ρ' a' w' hk hl hR'
    exact h2 id s' ρ' a' w' hk hl hR'
   ·intro s' ρ' a' w' hk hl hR'
    exact h3 s' ρ' a' w' hk hl hR'
 | exit id => intro s K h Q hN _ h2 _ ρ a w hR; exact wp_exit (h2 _ _ _ _ _ h hN hR)
 | ret => intro s K h Q hN _ _ h3 ρ a w hR; exact wp_ret (h3 _ _ _ _ h hN hR)
 | _ => intro s K h; simp [evC] at h
def resOne (tmps : Array Value) : ResultVar -> Sem Value
 | .tmp t => pure (tmps.getD t undef)
 | .cell b t => do loadVar t (<- asAddr (tmps.getD b undef))
def Res1Ok (w0 w : World) (ρ : Gh) (x : AV) (og : Option Nat) (v : Value) : Prop := match og with
 | none => ∀ b, isOwn x = false /\ isBox x = false /\ ResOk1 w0 w ρ.F b x v
 | some g => ResOk1 w0 w ρ.F (ρ.b g) x v
theorem isRep_box {x : AV} (h : isRep x = true) : isBox x = false := by cases x <;> first | rfl | cases h
theorem isRep_tup {x : AV} (h : isRep x = true) : ∀ l, x ≠ .tup l := fun l e => by subst e; cases h
theorem isRep_res {w0 w : World} {F : Nat -> Prop} {b : Nat} {x : AV} {v : Value} (h : isRep x = true) (hr : Rep w F x v) : ResOk1 w0 w F b x v := by cases x <;> first | exact hr | cases h
theorem evRes1_spec {ρ : Gh} {s : List AV} {a : Act} {w : World} (hR : Rr E N B w0 ρ (at' s) a w) (hG : GOk w0 B GL) (hB : ∀ b, B b -> b < w0.heap.size /\ ¬ E.X b)
  {nr : Option (TypeId × List CK)} {r : ResultVar} {x : AV} {og : Option Nat} (h : evRes1 P GL E.v s nr r = some (x, og)) :
  ∃ v, (resOne a.tmps r).run P w = .ok v w /\ Res1Ok w0 w ρ x og v /\ isBox x = false /\ (∀ l, x ≠ .tup l) /\ (∀ g, og = some g -> ∃ lv ty m ks c, at' s g = .row lv ty m ks c /\ isOwn x = lv) := by
 have plain : ∀ (x : AV) (v : Value), isRep x = true -> Rep w ρ.F x v -> Res1Ok w0 w ρ x none v := fun x v hx hr b => ⟨notOwn_slot hr.notOwn, isRep_box hx, isRep_res hx hr⟩
 cases r with
 | tmp t =>
  refine ⟨a.tmps.getD t undef, rfl, ?_⟩
  simp only [evRes1] at h
  have ev : isSlot (at' s t) = false -> VOk w ρ (at' s) (at' s t) (a.tmps.getD t undef) := fun h => hR.val t h
  split at h <;> (try (cases h; done))
  ·rename_i g m e
   split at h
   ·rename_i lv ty m' ks c hv eg
    cases h
    have hy := ev (by rw [e]; rfl)
    rw [e] at hy
    obtain ⟨lv', ty', m1, ks1, c1, h1, h2, h3, h4⟩ := hy
    rw [eg] at h1
    cases h1
    refine ⟨⟨fun hl => ?_, h4⟩, rfl, fun l h => (by cases h), fun g' hg => (by cases hg; exact ⟨lv, ty, m', ks, c, eg, rfl⟩)⟩
    obtain ⟨cap, k1, cs, zz, k2, kz, k3, k4, k5, k6, k7⟩ := h3 hl
    have hown : isOwn (at' s g) = true := by rw [eg]; exact hl
    have hge : w0.heap.size <= ρ.b g := by
     rcases ((hR.row g _ _ _ _ _ eg).2.2 hl).1 with h | h
     ·exact h.1
     ·exact absurd (Nat.le_of_ble_eq_true hv) (Nat.not_le_of_lt h.2)
    exact ⟨cap, k1, hge, hR.lt hown, fun hF => (hR.frz _ hF).2.2 g hown rfl, cs, zz, k2, kz, k3, by omega, k5, k6, fun i j hi hj => k7 i j (by omega) hj⟩
   ·cases h
  ·rename_i e
   have hy := ev (by rw [e]; rfl)
   rw [e] at hy
   have hy : Rep w ρ.F (.val (.slice none 0 0)) _ := hy
   split at h
   ·cases h
    generalize a.tmps.getD t undef = u at hy
    cases hy
    exact ⟨fun b => ⟨rfl, rfl, fun h => (by cases h), fun _ => ⟨rfl, none, rfl⟩⟩, rfl, fun l h => (by cases h), fun g h => (by cases h)⟩
   ·cases h
    exact ⟨plain _ _ rfl hy, rfl, fun l h => (by cases h), fun g h => (by cases h)⟩
  ·rename_i e
   have hy := ev (by rw [e]; rfl)
   rw [e] at hy
   have hy : Rep w ρ.F .nils _ := hy
   split at h
   ·cases h
    generalize a.tmps.getD t undef = u at hy
    cases hy with
    | nils a' => exact ⟨fun b => ⟨rfl, rfl, fun h => (by cases h), fun _ => ⟨rfl, a', rfl⟩⟩, rfl, fun l h => (by cases h), fun g h => (by cases h)⟩
   ·cases h
    exact ⟨plain _ _ rfl hy, rfl, fun l h => (by cases h), fun g h => (by cases h)⟩
  ·rename_i n1 n2 n3 n4 n5 n6 n7 n8 n9
   cases h
   have hns : isSlot (at' s t) = false := by
    cases e : at' s t <;> first | rfl | exact absurd e (n1 _ _) | exact absurd e (n2 _ _) | exact absurd e (n3 _ _ _ _ _)
   have hy := ev hns
   have hrep : isRep (at' s t) = true \/ ∃ y os, at' s t = .out y os := rest_rep (by
    cases e : at' s t <;> first | rfl | exact absurd e (n4 _ _)) (fun g n e => n7 g n e) (fun g i j e => n5 g i j e) (fun l e => n6 l e) hns
   rcases hrep with hrep | ⟨y, os, e⟩
   ·exact ⟨plain _ _ hrep (hy.rep hrep), isRep_box hrep, fun l e => n6 l e, fun g h => (by cases h)⟩
   ·rw [e] at hy
    exact absurd (show Rep w ρ.F (.out y os) _ from hy) (fun h => by cases h)
 | cell t ty =>
  simp only [evRes1] at h
  split at h
  ·rename_i g k' e
   obtain ⟨e1, e2⟩ := evA_ref hR hG hB e
   split at h
   ·rename_i t0 c hc
    split at h
    ·rename_i x' hx'
     split at h
     ·rename_i hrep
      cases h
      obtain ⟨ff, h1, h2⟩ := own_cells (c := c) hR (by rw [hc]; rfl)
      obtain ⟨v, hv, hr⟩ := ldAV_run (w := w) (b := ρ.b g) (k := k') hx' (fun j => ff (k' + j)) (fun j hj => h1 _ (by simp at hj; omega)) (fun j hj => by rw [getD_drop']; exact h2 _ (by simp at hj; omega))
      refine ⟨v, ?_, plain _ _ hrep hr, isRep_box hrep, isRep_tup hrep, fun g h => (by cases h)⟩
      have e1' : a.tmps.getD t undef = .pointer (some ⟨ρ.b g, k', none⟩) := e1
      simp only [resOne, e1', asAddr, Sem.run_bind, Sem.run_pure, Result.andThen_ok, hv]
     ·cases h
    ·cases h
   ·cases h
  ·cases h
end
end Go.Ev
/- A function that the evaluator evaluates meets its contract. -/
namespace Go.Ev
open Go.RowKit
section
variable {P : Program} {GL : Nat -> AV} {Γ : List (Nat × Ctr)} {E : Ext} {k : Nat} {keep : List Bool} {cfg : Cfg} {B : Nat -> Prop} {w0 : World} {N : Nat}
theorem evResL_spec {ρ : Gh} {s : List AV} {a : Act} {w : World} (hR : Rr E N B w0 ρ (at' s) a w) (hG : GOk w0 B GL) (hB : ∀ b, B b -> b < w0.heap.size /\ ¬ E.X b) :
  ∀ (l : List ResultVar) (nr : List (Option (TypeId × List CK))) (xs : List AV) (gs : List Nat), evResL P GL E.v s nr l = some (xs, gs) -> ∃ (vs : List Value) (β : Nat -> Nat),
   (l.mapM (resOne a.tmps)).run P w = .ok vs w /\ xs.length = vs.length /\ (∀ i, i < xs.length -> ResOk1 w0 w ρ.F (β i) (xs.getD i .non) (vs.getD i undef) /\ isBox (xs.getD i .non) = false /\ (∀ l, xs.getD i .non ≠ .tup l)) /\
   (∀ i, i < xs.length -> isOwn (xs.getD i .non) = true -> ∃ g, g ∈ gs /\ β i = ρ.b g /\ isOwn (at' s g) = true) /\ (∀ i j, i < xs.length -> j < xs.length -> isOwn (xs.getD i .non) = true -> isOwn (xs.getD j .non) = true -> β i = β j -> i = j)
 | [], nr, xs, gs, h => by
  cases h
  exact ⟨[], fun _ => 0, rfl, rfl, fun i hi => absurd hi (Nat.not_lt_zero _), fun i hi => absurd hi (Nat.not_lt_zero _), fun i j hi => absurd hi (Nat.not_lt_zero _)⟩
 | r :: l, nr, xs, gs, h => by
  unfold evResL at h
  split at h
  ·rename_i x og hx
   split at h
   ·rename_i xs' gs' hl
    obtain ⟨v, hv, hr, hb, ht, hg⟩ := evRes1_spec hR hG hB hx
    obtain ⟨vs, β, k1, k2, k3, k4, k5⟩ := evResL_spec hR hG hB l _ xs' gs' hl
    have hrun : ((r :: l).mapM (resOne a.tmps)).run P w = .ok (v :: vs) w := by
     rw [List.mapM_cons]
     simp only [Sem.run_bind, hv, Result.andThen_ok, k1, Sem.run_pure]
    split at h
    ·cases h
     refine ⟨v :: vs, fun i => match i with | 0 => 0 | i + 1 => β i, hrun, by simp [k2], fun i hi => ?_, fun i hi ho => ?_, fun i j hi hj oi oj he => ?_⟩
     ·cases i with
      | zero => exact ⟨(hr 0).2.2, hb, ht⟩
      | succ i => simpa using k3 i (by simpa using hi)
     ·cases i with
      | zero => have := (hr 0).1; simp only [List.getD_cons_zero] at ho; rw [ho] at this; cases this
      | succ i => simpa using k4 i (by simpa using hi) (by simpa using ho)
     ·cases i with
      | zero => have := (hr 0).1; simp only [List.getD_cons_zero] at oi; rw [oi] at this; cases this
      | succ i =>
       cases j with
       | zero => have := (hr 0).1; simp only [List.getD_cons_zero] at oj; rw [oj] at this; cases this
       | succ j => have := k5 i j (by simpa using hi) (by simpa using hj) (by simpa using oi) (by simpa using oj) he; omega
    ·rename_i g
     split at h
     ·rename_i hm
      cases h
      obtain ⟨lv, ty, m, ks, c, eg, ho⟩ := hg g rfl
      have hng := memB_spec hm
      have hr : ResOk1 w0 w ρ.F (ρ.b g) x v := hr
      have hown : isOwn x = true -> isOwn (at' s g) = true := fun h => by rw [eg]; rw [ho] at h; exact h
      refine ⟨v :: vs, fun i => match i with | 0 => ρ.b g | i + 1 => β i, hrun, by simp [k2], fun i hi => ?_, fun i hi ho => ?_, fun i j hi hj oi oj he => ?_⟩
      ·cases i with
       | zero => exact ⟨hr, hb, ht⟩
       | succ i => simpa using k3 i (by simpa using hi)
      ·cases i with
       | zero => exact ⟨g, by simp, rfl, hown (by simpa using ho)⟩
       | succ i =>
        obtain ⟨g', q1, q2, q3⟩ := k4 i (by simpa using hi) (by simpa using ho)
        exact ⟨g', by simp [q1], q2, q3⟩
      ·cases i with
       | zero =>
        cases j with
        | zero => rfl
        | succ j =>
         exfalso
         obtain ⟨g', q1, q2, q3⟩ := k4 j (by simpa using hj) (by simpa using oj)
         have he : ρ.b g = β j := he
         have := hR.inj g g' (hown (by simpa using oi)) q3 (he.trans q2)
         exact hng (this ▸ q1)
       | succ i =>
        cases j with
        | zero =>
         exfalso
         obtain ⟨g', q1, q2, q3⟩ := k4 i (by simpa using hi) (by simpa using oi)
         have he : β i = ρ.b g := he
         have := hR.inj g g' (hown (by simpa using oj)) q3 (he.symm.trans q2)
         exact hng (this ▸ q1)
        | succ j => have := k5 i j (by simpa using hi) (by simpa using hj) (by simpa using oi) (by simpa using oj) he; omega
     ·cases h
   ·cases h
  ·cases h
theorem ResOk.of1 {w' : World} {F : Nat -> Prop} {b : Nat} {x : AV} {v : Value} (h : ResOk1 w0 w' F b x v) (ht : ∀ l, x ≠ .tup l) : ResOk w0 w' F x v := by
 cases x <;> first | exact ⟨b, h⟩ | exact absurd rfl (ht _)
theorem evRes0_spec {ρ : Gh} {s : List AV} {a : Act} {w : World} (hR : Rr E N B w0 ρ (at' s) a w) (hG : GOk w0 B GL) (hB : ∀ b, B b -> b < w0.heap.size /\ ¬ E.X b)
  {fn : Func} {x : AV} (h : evRes0 P GL E.v cfg s fn.results.toList = some x) : splitOut x = (x, []) /\ ∃ v, (results fn a.tmps).run P w = .ok v w /\ ResOk w0 w ρ.F x v := by
 have hm : ∀ (xs : List AV) (vs : List Value), (fn.results.toList.mapM (resOne a.tmps)).run P w = .ok vs w -> (results fn a.tmps).run P w = .ok (if h : (⟨vs⟩ : Array Value).size = 1 then (⟨vs⟩ : Array Value)[0] else .tuple ⟨vs⟩) w := by
  intro xs vs hvs
  have e : results fn a.tmps = (do let vs <- fn.results.mapM (resOne a.tmps); pure (if h : vs.size = 1 then vs[0] else .tuple vs)) := by
   unfold results
   congr 1
  rw [e, Array.mapM_eq_mapM_toList]
  simp only [Sem.run_bind, Sem.run_map, hvs, Result.andThen_ok, Sem.run_pure]
 unfold evRes0 at h
 split at h
 ·rename_i y gs hy
  cases h
  obtain ⟨vs, β, k1, k2, k3, k4, k5⟩ := evResL_spec hR hG hB _ _ _ _ hy
  obtain ⟨q1, q2, q3⟩ := k3 0 (by simp)
  match vs, k2 with
  | [v], _ =>
   refine ⟨?_, v, by simpa using hm [x] [v] k1, ResOk.of1 q1 q3⟩
   have q1 : ResOk1 w0 w ρ.F (β 0) x v := q1
   cases x <;> first | rfl | exact absurd (show Rep w ρ.F (.out _ _) v from q1) (fun h => by cases h)
 ·rename_i xs gs hne hxs
  cases h
  obtain ⟨vs, β, k1, k2, k3, k4, k5⟩ := evResL_spec hR hG hB _ _ _ _ hxs
  refine ⟨rfl, .tuple ⟨vs⟩, ?_, vs, β, rfl, k2, fun i hi => (k3 i hi).1, k5⟩
  have : ¬ (⟨vs⟩ : Array Value).size = 1 := by
   intro h1
   have h1' : xs.length = 1 := by rw [k2]; simpa using h1
   match xs, h1' with
   | [y], _ => exact hne y rfl
  rw [hm xs vs k1, dif_neg this]
 ·cases h
theorem evRes_spec {ρ : Gh} {s : List AV} {a : Act} {w : World} (hR : Rr E N B w0 ρ (at' s) a w) (hG : GOk w0 B GL) (hB : ∀ b, B b -> b < w0.heap.size /\ ¬ E.X b)
  {fn : Func} {x : AV} (h : evRes P GL E.v cfg s fn.results.toList = some x) : splitOut x = (x, []) /\ ∃ v, (results fn a.tmps).run P w = .ok v w /\ ResOk w0 w ρ.F x v := by
 unfold evRes at h
 split at h
 ·rename_i y hy
  cases h
  unfold ownAt at hy
  split at hy
  ·rename_i t hres
   split at hy
   ·rename_i ty c e
    cases hy
    obtain ⟨f1, f2, f3⟩ := hR.own t ty c e
    refine ⟨rfl, .pointer (some ⟨ρ.b t, 0, none⟩), ?_, ρ.b t, rfl, f2, fun hb => (hR.frz _ hb).2.2 t (by rw [e]; rfl) rfl, f3⟩
    have e1 : a.tmps.getD t undef = .pointer (some ⟨ρ.b t, 0, none⟩) := f1
    have e2 : fn.results = #[.tmp t] := by apply Array.ext'; simpa using hres
    simp [results, e2, <- e1]
   ·rename_i g k e
    split at hy
    ·rename_i ty c hk eg
     cases hy
     have hk : k = 0 := Nat.eq_of_beq_eq_true hk
     subst hk
     obtain ⟨f1, f2, f3⟩ := hR.own g ty c eg
     have hv := hR.val t (by rw [e]; rfl)
     rw [e] at hv
     have f0 : a.eval (.tmp t) = .pointer (some ⟨ρ.b g, 0, none⟩) := hv.1
     refine ⟨rfl, .pointer (some ⟨ρ.b g, 0, none⟩), ?_, ρ.b g, rfl, f2, fun hb => (hR.frz _ hb).2.2 g (by rw [eg]; rfl) rfl, f3⟩
     have e1 : a.tmps.getD t undef = .pointer (some ⟨ρ.b g, 0, none⟩) := f0
     have e2 : fn.results = #[.tmp t] := by apply Array.ext'; simpa using hres
     simp [results, e2, <- e1]
    ·cases hy
   ·cases hy
  ·cases hy
 ·exact evRes0_spec hR hG hB h
theorem inits_at (n : Nat) : ∀ (args : List AV) (j i : Nat),
  (∃ m, isArg (args.getD i .non) = true /\ (inits n j args).getD i .non = refA (n + (j + m)) (args.getD i .non) /\ m < (virts args).length /\ (virts args).getD m .non = vrtA (args.getD i .non) /\ i < args.length /\ ∀ k, (owns k args).getD m 0 = k + i) \/
  (isArg (args.getD i .non) = false /\ (inits n j args).getD i .non = args.getD i .non)
 | [], j, i => .inr ⟨by simp [isArg], rfl⟩
 | x :: l, j, 0 => by
  cases hx : isArg x with
  | true => exact .inl ⟨0, hx, by simp [inits, hx], by simp [virts, hx], by simp [virts, hx], by simp, fun k => by simp [owns, hx]⟩
  | false => exact .inr ⟨hx, by simp [inits, hx]⟩
 | x :: l, j, i + 1 => by
  cases hx : isArg x with
  | true =>
   rcases inits_at n l (j + 1) i with ⟨m, h1, h2, h3, h4, h5, h6⟩ | ⟨h1, h2⟩
   ·refine .inl ⟨m + 1, by simpa using h1, ?_, by simp [virts, hx]; omega, by simpa [virts, hx] using h4, by simpa using h5, fun k => ?_⟩
    ·rw [show j + (m + 1) = j + 1 + m by omega]; simpa [inits, hx] using h2
    ·rw [show k + (i + 1) = k + 1 + i by omega]; simpa [owns, hx] using h6 (k + 1)
   ·exact .inr ⟨by simpa using h1, by simpa [inits, hx] using h2⟩
  | false =>
   rcases inits_at n l j i with ⟨m, h1, h2, h3, h4, h5, h6⟩ | ⟨h1, h2⟩
   ·refine .inl ⟨m, by simpa using h1, by simpa [inits, hx] using h2, by simpa [virts, hx] using h3, by simpa [virts, hx] using h4, by simpa using h5, fun k => ?_⟩
    rw [show k + (i + 1) = k + 1 + i by omega]; simpa [owns, hx] using h6 (k + 1)
   ·exact .inr ⟨by simpa using h1, by simpa [inits, hx] using h2⟩
theorem inits_length (n : Nat) : ∀ (args : List AV) (j : Nat), (inits n j args).length = args.length
 | [], j => rfl
 | x :: l, j => by cases hx : isArg x <;> simp [inits, hx, inits_length n l]
theorem virts_at : ∀ (args : List AV) (m : Nat), m < (virts args).length ->
  ∃ i, i < args.length /\ isArg (args.getD i .non) = true /\ (virts args).getD m .non = vrtA (args.getD i .non) /\ ∀ k, (owns k args).getD m 0 = k + i
 | [], m, h => by simp [virts] at h
 | x :: l, m, h => by
  cases hx : isArg x with
  | true =>
   cases m with
   | zero => exact ⟨0, by simp, hx, by simp [virts, hx], fun k => by simp [owns, hx]⟩
   | succ m =>
    obtain ⟨i, g1, g2, g3, g4⟩ := virts_at l m (by simpa [virts, hx] using h)
    exact ⟨i + 1, by simpa using g1, by simpa using g2, by simpa [virts, hx] using g3, fun k => by simp only [owns, hx, List.getD_cons_succ]; rw [g4]; omega⟩
  | false =>
   obtain ⟨i, g1, g2, g3, g4⟩ := virts_at l m (by simpa [virts, hx] using h)
   exact ⟨i + 1, by simpa using g1, by simpa using g2, by simpa [virts, hx] using g3, fun k => by simp only [owns, hx]; rw [g4]; omega⟩
theorem owns_inj : ∀ (args : List AV) (k m m' : Nat), m < (virts args).length -> m' < (virts args).length -> (owns k args).getD m 0 = (owns k args).getD m' 0 -> m = m'
 | [], k, m, m', h, _, _ => by simp [virts] at h
 | x :: l, k, m, m', h, h', e => by
  have ge : ∀ k m, m < (virts l).length -> k <= (owns k l).getD m 0 := fun k m h => by
   obtain ⟨i, _, _, _, h4⟩ := virts_at l m h
   rw [h4]; omega
  cases hx : isArg x with
  | true =>
   simp only [virts, hx, List.length_cons] at h h'
   simp only [owns, hx] at e
   cases m with
   | zero =>
    cases m' with
    | zero => rfl
    | succ m' =>
     exfalso
     simp only [List.getD_cons_zero, List.getD_cons_succ] at e
     have := ge (k + 1) m' (by omega)
     omega
   | succ m =>
    cases m' with
    | zero =>
     exfalso
     simp only [List.getD_cons_zero, List.getD_cons_succ] at e
     have := ge (k + 1) m (by omega)
     omega
    | succ m' =>
     simp only [List.getD_cons_succ] at e
     rw [owns_inj l (k + 1) m m' (by omega) (by omega) e]
  | false => exact owns_inj l (k + 1) m m' (by simpa [virts, hx] using h) (by simpa [virts, hx] using h') (by simpa [owns, hx] using e)
def outF : AV -> AV
 | .vown _ c => .agg c
 | x => x
theorem outsOf_at {s : List AV} {n : Nat} : ∀ (args : List AV) (j : Nat) (os : List AV), outsOf s n j args = some os -> ∀ i, isArg (args.getD i .non) = true ->
  ∃ m, m < (virts args).length /\ os.getD i .non = outF (at' s (n + (j + m))) /\ (∀ ty c, args.getD i .non = .own ty c -> ∃ c', at' s (n + (j + m)) = .vown ty c') /\
   (∀ lv ty m' ks c, args.getD i .non = .row lv ty m' ks c -> ∃ lv ty m' ks c', at' s (n + (j + m)) = .row lv ty m' ks c') /\ ∀ k, (owns k args).getD m 0 = k + i
 | [], j, os, h, i, hi => by simp [isArg] at hi
 | x :: l, j, os, h, i, hi => by
  have shift : ∀ (j' : Nat) (os' : List AV) (d : Nat), outsOf s n j' l = some os' -> (∀ i, os.getD (i + 1) .non = os'.getD i .non) -> (∀ m, j' + m = j + (m + d)) -> (virts (x :: l)).length = (virts l).length + d -> (∀ k m, (owns k (x :: l)).getD (m + d) 0 = (owns (k + 1) l).getD m 0) -> ∀ i, isArg ((x :: l).getD (i + 1) .non) = true ->
    ∃ m, m < (virts (x :: l)).length /\ os.getD (i + 1) .non = outF (at' s (n + (j + m))) /\ (∀ ty c, (x :: l).getD (i + 1) .non = .own ty c -> ∃ c', at' s (n + (j + m)) = .vown ty c') /\
     (∀ lv ty m' ks c, (x :: l).getD (i + 1) .non = .row lv ty m' ks c -> ∃ lv ty m' ks c', at' s (n + (j + m)) = .row lv ty m' ks c') /\ ∀ k, (owns k (x :: l)).getD m 0 = k + (i + 1) := by
   intro j' os' d ho e1 e2 e3 e4 i hi
   obtain ⟨m, g1, g2, g3, g4, g5⟩ := outsOf_at l j' os' ho i (by simpa using hi)
   refine ⟨m + d, by omega, by rw [e1, g2, e2], fun ty c h => ?_, fun lv ty m' ks c h => ?_, fun k => by rw [e4, g5]; omega⟩
   ·obtain ⟨c', q⟩ := g3 ty c (by simpa using h); exact ⟨c', by rw [<- e2]; exact q⟩
   ·obtain ⟨a1, a2, a3, a4, a5, q⟩ := g4 lv ty m' ks c (by simpa using h); exact ⟨a1, a2, a3, a4, a5, by rw [<- e2]; exact q⟩
  cases x with
  | own t0 c0 =>
   simp only [outsOf] at h
   split at h
   ·rename_i ty' c' hs
    split at h
    ·rename_i os' hb ho
     cases h
     cases i with
     | zero =>
      have hb := Nat.eq_of_beq_eq_true hb
      subst hb
      exact ⟨0, by simp [virts, isArg], by rw [Nat.add_zero, hs]; rfl, fun ty c h => by
       have h : AV.own t0 c0 = .own ty c := by simpa using h
       cases h
       exact ⟨c', by rw [Nat.add_zero]; exact hs⟩, fun _ _ _ _ _ h => by simp at h, fun k => by simp [owns, isArg]⟩
     | succ i => exact shift (j + 1) os' 1 ho (fun i => by simp) (fun m => by omega) (by simp [virts, isArg]) (fun k m => by simp [owns, isArg]) i hi
    ·cases h
   ·cases h
  | row lv0 t0 m0 k0 c0 =>
   simp only [outsOf] at h
   split at h
   ·rename_i lv ty m ks c hs
    split at h
    ·rename_i os' ho
     cases h
     cases i with
     | zero => exact ⟨0, by simp [virts, isArg], by rw [Nat.add_zero, hs]; rfl, fun _ _ h => by simp at h, fun _ _ _ _ _ _ => ⟨lv, ty, m, ks, c, by rw [Nat.add_zero]; exact hs⟩, fun k => by simp [owns, isArg]⟩
     | succ i => exact shift (j + 1) os' 1 ho (fun i => by simp) (fun m => by omega) (by simp [virts, isArg]) (fun k m => by simp [owns, isArg]) i hi
    ·cases h
   ·cases h
  | _ =>
   simp only [outsOf] at h
   split at h
   ·rename_i os' ho
    cases h
    cases i with
    | zero => simp [isArg] at hi
    | succ i => exact shift j os' 0 ho (fun i => by simp) (fun m => by omega) (by simp [virts, isArg]) (fun k m => by simp [owns, isArg]) i hi
   ·cases h
theorem vrtA_own {x : AV} {ty : TypeId} {c : List AV} : vrtA x = .own ty c -> False := by cases x <;> simp [vrtA]
theorem vrtA_slot {x : AV} (h : isArg x = true) : isSlot (vrtA x) = true := by cases x <;> simp_all [vrtA, isArg, isSlot]
theorem refA_slot {n : Nat} {x : AV} : isSlot (refA n x) = false := by cases x <;> rfl
theorem meets (hmix : P.follows .mixedOrders = true) (hΓ : Sound P GL Γ) {f : FuncId} {fn : Func} {c : Code} (hf : P.funcs[f]? = some fn) (hc : fn.body = some c) (hn : (fn.name == "runtime.NumGoroutine") = false)
  (s : Ctr) (h : ∀ args x, s args = some (true, x) -> ∃ k cfg, args.length <= fn.ntmps /\ evF P GL Γ fn.ntmps k cfg fn.results.toList c args = some x) : Meets P GL f s := by
 refine ⟨⟨fn, hf, hn, by rw [hc]; rfl⟩, fun args x hs w B vs β hB hG hl hr hinj => ?_⟩
 obtain ⟨k, cfg, hle, he⟩ := h args x hs
 refine calls_of_wp hf hc ?_
 unfold evF at he
 have argc : ∀ i, i < args.length -> (isArg (args.getD i .non) = true /\ ((∃ ty c, args.getD i .non = .own ty c /\ vs.getD i undef = .pointer (some ⟨β i, 0, none⟩) /\ ¬ B (β i) /\ Boxed w B (β i) ty c) \/
       ∃ lv ty n ks c, args.getD i .non = .row lv ty n ks c /\ (lv = true -> ∃ cap, vs.getD i undef = .slice (some ⟨β i, 0, none⟩) n cap /\ ¬ B (β i) /\ Rowed w (β i) ty cap n ks c) /\ (lv = false -> n = 0 /\ ∃ a, vs.getD i undef = .slice a 0 0))) \/
   (isArg (args.getD i .non) = false /\ Rep w B (args.getD i .non) (vs.getD i undef)) := fun i hi => by
  have := hr i hi
  cases e : args.getD i .non with
  | own ty c => rw [e] at this; exact .inl ⟨rfl, .inl ⟨ty, c, rfl, this.1, this.2.1, this.2.2⟩⟩
  | row lv ty n ks c => rw [e] at this; exact .inl ⟨rfl, .inr ⟨lv, ty, n, ks, c, rfl, this.1, this.2⟩⟩
  | _ => rw [e] at this
         exact .inr ⟨rfl, this⟩
 let V := fn.ntmps + (virts args).length
 let M := V + cfg.sp
 let s0 := inits fn.ntmps 0 args ++ List.replicate (fn.ntmps - args.length) AV.non ++ virts args ++ List.replicate cfg.sp AV.non
 have hfront : (inits fn.ntmps 0 args ++ List.replicate (fn.ntmps - args.length) AV.non).length = fn.ntmps := by simp [inits_length]; omega
 have hfront2 : (inits fn.ntmps 0 args ++ List.replicate (fn.ntmps - args.length) AV.non ++ virts args).length = V := by simp only [V]; rw [List.length_append, hfront]
 have hN : s0.length = M := by simp only [s0, M]; rw [List.length_append, hfront2]; simp
 have at1 : ∀ t, t < fn.ntmps -> at' s0 t = (inits fn.ntmps 0 args).getD t .non := fun t ht => by
  simp only [s0, at', List.getD]
  rw [List.getElem?_append_left (by rw [hfront2]; simp only [V]; omega), List.getElem?_append_left (by rw [hfront]; exact ht)]
  by_cases h : t < args.length
  ·rw [List.getElem?_append_left (by rw [inits_length]; exact h)]
  ·rw [List.getElem?_append_right (by rw [inits_length]; omega), List.getElem?_eq_none (l := inits fn.ntmps 0 args) (by rw [inits_length]; omega), List.getElem?_replicate]
   split <;> rfl
 have at2 : ∀ m, at' s0 (fn.ntmps + m) = (virts args).getD m .non := fun m => by
  simp only [s0, at', List.getD]
  by_cases hm : m < (virts args).length
  ·rw [List.getElem?_append_left (by rw [hfront2]; simp only [V]; omega), List.getElem?_append_right (by rw [hfront]; omega), hfront]
   simp
  ·rw [List.getElem?_append_right (by rw [hfront2]; simp only [V]; omega), List.getElem?_eq_none (l := virts args) (by omega), List.getElem?_replicate]
   split <;> rfl
 let px : Nat -> Nat := fun t => β ((owns 0 args).getD (t - fn.ntmps) 0)
 have hpx : ∀ m i, (∀ k, (owns k args).getD m 0 = k + i) -> px (fn.ntmps + m) = β i := fun m i h => by
  simp only [px, Nat.add_sub_cancel_left, h 0, Nat.zero_add]
 let E : Ext := ⟨fn.ntmps, V, fun b => ∃ i, i < args.length /\ isOwn (args.getD i .non) = true /\ b = β i, px, fun t => shp (at' s0 t), fun t => csz w (px t)⟩
 have nslot : ∀ i, i < args.length -> isArg (args.getD i .non) = false -> isSlot (args.getD i .non) = false := fun i hi h => by
  rcases argc i hi with ⟨h', _⟩ | ⟨_, h'⟩
  ·rw [h] at h'; cases h'
  ·exact h'.notOwn
 have slotAt : ∀ t, isSlot (at' s0 t) = true -> ∃ m i, t = fn.ntmps + m /\ m < (virts args).length /\ i < args.length /\ isArg (args.getD i .non) = true /\ at' s0 t = vrtA (args.getD i .non) /\ (∀ k, (owns k args).getD m 0 = k + i) /\ px t = β i := fun t ht => by
  rcases Nat.lt_or_ge t fn.ntmps with h | h
  ·exfalso
   rw [at1 t h] at ht
   rcases inits_at fn.ntmps args 0 t with ⟨m, h1, h2, _⟩ | ⟨h1, h2⟩
   ·rw [h2] at ht
    rw [refA_slot] at ht
    cases ht
   ·rw [h2] at ht
    rcases Nat.lt_or_ge t args.length with hta | hta
    ·rw [nslot t hta h1] at ht; cases ht
    ·simp [List.getD, List.getElem?_eq_none hta, isSlot] at ht
  ·obtain ⟨m, rfl⟩ : ∃ m, t = fn.ntmps + m := ⟨t - fn.ntmps, by omega⟩
   rcases Nat.lt_or_ge m (virts args).length with hm | hm
   ·obtain ⟨i, g1, g2, g3, g4⟩ := virts_at args m hm
    exact ⟨m, i, rfl, hm, g1, g2, by rw [at2]; exact g3, g4, hpx m i g4⟩
   ·rw [at2] at ht
    simp [List.getD, List.getElem?_eq_none hm, isSlot] at ht
 have vrtOwn : ∀ x, isArg x = true -> isOwn (vrtA x) = isOwn x := fun x hx => by cases x <;> first | rfl | cases hx
 have hBX : ∀ b, B b -> b < w.heap.size /\ ¬ E.X b := fun b hb => ⟨hB b hb, fun ⟨i, hi, ho, e⟩ => by
  rcases argc i hi with ⟨_, ⟨_, _, _, _, h3, _⟩ | ⟨lv, ty, n, ks, c, e1, h3, _⟩⟩ | ⟨_, h1⟩
  ·exact h3 (e ▸ hb)
  ·rw [e1] at ho
   obtain ⟨_, _, h4, _⟩ := h3 ho
   exact h4 (e ▸ hb)
  ·rw [notOwn_slot h1.notOwn] at ho; cases ho⟩
 have evl : ∀ t, t < args.length -> Act.eval { tmps := (⟨vs⟩ : Array Value) ++ Array.replicate (fn.ntmps - (⟨vs⟩ : Array Value).size) undef, defers := [] } (.tmp t) = vs.getD t undef := fun t h => by
  have hv : t < vs.length := by omega
  simp [Act.eval, List.getD, Array.getElem?_append, hv]
 have fin : ∀ s' ρ' a' w', evFin P GL fn.ntmps V cfg fn.results.toList args s' = some x -> s'.length = M -> Rr E M B w ρ' (at' s') a' w' ->
   a'.defers = [] /\ ∃ v, (results fn a'.tmps).run P w' = .ok v w' /\ ∃ v', Ending.returned v = .returned v' /\ BelowX w.heap.size E.X w w' /\
    ∃ B' : Nat -> Prop, (∀ b, B' b -> (B b \/ w.heap.size <= b) /\ b < w'.heap.size) /\ ResOk w w' B' (splitOut x).1 v' /\
    ∀ i, i < args.length -> OutOk w' B' (β i) (args.getD i .non) ((splitOut x).2.getD i .non) (vs.getD i undef) := by
  intro s' ρ' a' w' hk hl' hR'
  unfold evFin at hk
  split at hk
  ·rename_i y hy
   obtain ⟨hsp, v, hv, hres⟩ := evRes_spec (E := E) hR' hG hBX hy
   refine ⟨hR'.dfr, v, hv, v, rfl, hR'.blw, ρ'.F, fun b hb => ⟨(hR'.frz b hb).1, (hR'.frz b hb).2.1⟩, ?_⟩
   have out : ∀ (os : List AV), outsOf s' fn.ntmps 0 args = some os -> ∀ i, i < args.length -> OutOk w' ρ'.F (β i) (args.getD i .non) (os.getD i .non) (vs.getD i undef) := fun os hos i hi => by
    rcases argc i hi with ⟨ha, h⟩ | ⟨ha, h⟩
    ·obtain ⟨m, g1, g2, g3, g4, g5⟩ := outsOf_at args 0 os hos i ha
     rw [Nat.zero_add] at g2 g3 g4
     have hvir := hR'.vir (fn.ntmps + m) (Nat.le_add_right _ _) (by show fn.ntmps + m < V; simp only [V]; omega)
     have hb : ρ'.b (fn.ntmps + m) = β i := hvir.2.1.trans (hpx m i g5)
     rcases h with ⟨ty, c, e, _⟩ | ⟨lv, ty, n, ks, c, e, q1, q2⟩
     ·rw [e]
      obtain ⟨c', q⟩ := g3 ty c e
      have h1 := (hR'.vow _ _ _ q).2
      rw [hb] at h1
      exact ⟨c', by rw [g2, q]; rfl, h1⟩
     ·rw [e]
      obtain ⟨lv', ty', n', ks', c', q⟩ := g4 lv ty n ks c e
      have hs := hvir.2.2
      obtain ⟨i', r1, r2, r3, r4⟩ := virts_at args m g1
      have : i' = i := by have h1 := r4 0; have h2 := g5 0; omega
      subst this
      have hs0 : at' s0 (fn.ntmps + m) = .row lv ty n ks c := by rw [at2, r3, e]; rfl
      have hsh : shp (at' s' (fn.ntmps + m)) = shp (at' s0 (fn.ntmps + m)) := hs.1
      have hcz := hs.2
      rw [q, hs0] at hsh
      simp only [shp, Option.some.injEq, Prod.mk.injEq] at hsh
      obtain ⟨rfl, rfl, rfl, rfl⟩ := hsh
      refine ⟨c', by rw [g2, q]; rfl, fun hlv cap hcap => ?_⟩
      obtain ⟨_, _, z⟩ := hR'.row _ _ _ _ _ _ q
      obtain ⟨_, cap', z⟩ := z hlv
      rw [hb] at z
      obtain ⟨cap0, y1, _, y3⟩ := q1 hlv
      rw [y1] at hcap
      cases hcap
      have hcz := hcz (by rw [q]; exact hlv) (by rw [q]; rfl)
      have hcz' : csz w' (ρ'.b (fn.ntmps + m)) = csz w (px (fn.ntmps + m)) := hcz
      rw [hb, hpx m _ g5, z.csz, y3.csz] at hcz'
      have hk0 : 0 < ks'.length := by obtain ⟨_, _, _, _, _, _, _, h, _⟩ := z; exact h
      have : cap' = cap := Nat.eq_of_mul_eq_mul_right hk0 hcz'
      subst this
      exact z
    ·cases hx : args.getD i .non <;> rw [hx] at ha <;> first | trivial | cases ha
   split at hk
   ·rename_i hvirt
    cases hk
    rw [hsp]
    refine ⟨hres, fun i hi => ?_⟩
    rcases argc i hi with ⟨ha, h⟩ | ⟨ha, h⟩
    ·rcases inits_at fn.ntmps args 0 i with ⟨m, _, _, h3, _⟩ | ⟨h1, _⟩
     ·rw [hvirt] at h3; simp at h3
     ·rw [ha] at h1; cases h1
    ·cases hx : args.getD i .non <;> rw [hx] at ha <;> first | trivial | cases ha
   ·split at hk
    ·rename_i os hos
     cases hk
     exact ⟨hres, out os hos⟩
    ·cases hk
  ·cases hk
 refine evC_sound (E := E) (N := M) (w0 := w) (B := B) hmix hΓ hG hBX c _ _ he _ hN ?_ ?_ ?_ ⟨px, B⟩ _ _ ?_
 ·intro s' ρ' a' w' hk hl' hR'
  exact fin s' ρ' a' w' hk hl' hR'
 ·intro id s' ρ' a' w' hk
  cases hk
 ·intro s' ρ' a' w' hk hl' hR'
  exact fin s' ρ' a' w' hk hl' hR'
 ·change Rr E M B w ⟨px, B⟩ (at' s0) _ w
  refine ⟨rfl, by simp [E]; omega, fun t ht => at_out (by rw [hN]; exact ht), BelowX.refl _ _ _, fun _ h => h, fun b hb => ⟨.inl hb, hB b hb, fun t ht => ?_⟩, fun t ty c e => ?_, fun t t' h1 h2 e => ?_, fun t ht => ?_, fun t ty c e => ?_, fun g lv ty m ks c e => ?_, fun t h1 h2 => ?_, ⟨Nat.le_add_right _ _, Nat.le_add_right _ _⟩⟩
  ·obtain ⟨m, i, _, _, g1, g2, g3, _, g4⟩ := slotAt t (isOwn_slot ht)
   show px t ≠ b
   rw [g4]
   intro e
   rw [g3, vrtOwn _ g2] at ht
   exact (hBX b hb).2 ⟨i, g1, ht, e.symm⟩
  ·obtain ⟨m, i, _, _, g1, g2, g3, _, g4⟩ := slotAt t (by rw [e]; rfl)
   rw [e] at g3
   exact (vrtA_own g3.symm).elim
  ·obtain ⟨m, i, f1, f2, f3, f4, f5, f6, f7⟩ := slotAt t (isOwn_slot h1)
   obtain ⟨m', i', f1', f2', f3', f4', f5', f6', f7'⟩ := slotAt t' (isOwn_slot h2)
   have e : px t = px t' := e
   rw [f7, f7'] at e
   rw [f5, vrtOwn _ f4] at h1
   rw [f5', vrtOwn _ f4'] at h2
   have := hinj i i' f3 f3' h1 h2 e
   subst this
   have := owns_inj args 0 m m' f2 f2' (by rw [f6, f6'])
   rw [f1, f1', this]
  ·rcases Nat.lt_or_ge t fn.ntmps with h | h
   ·rw [at1 t h] at ht ⊢
    rcases inits_at fn.ntmps args 0 t with ⟨m, g1, g2, g3, g4, g5, g6⟩ | ⟨g1, g2⟩
    ·rw [g2, Nat.zero_add, evl t g5]
     have hs : at' s0 (fn.ntmps + m) = vrtA (args.getD t .non) := by rw [at2]; exact g4
     rcases argc t g5 with ⟨_, ⟨ty, c, e, k1, _⟩ | ⟨lv, ty, n, ks, c, e, k1, k2⟩⟩ | ⟨k1, _⟩
     ·rw [e] at hs ⊢
      refine ⟨?_, by rw [hs]; rfl⟩
      show _ = Value.pointer (some ⟨px (fn.ntmps + m), 0, none⟩)
      rw [hpx m t g6]
      exact k1
     ·rw [e] at hs ⊢
      refine ⟨lv, ty, n, ks, c, hs, Nat.le_refl _, fun hl => ?_, k2⟩
      obtain ⟨cap, q1, q2, q3⟩ := k1 hl
      refine ⟨cap, ?_, ?_⟩
      ·show _ = Value.slice (some ⟨px (fn.ntmps + m), 0, none⟩) n cap
       rw [hpx m t g6]; exact q1
      ·show Rowed w (px (fn.ntmps + m)) _ _ _ _ _
       rw [hpx m t g6]; exact q3
     ·rw [g1] at k1; cases k1
    ·rw [g2]
     rcases Nat.lt_or_ge t args.length with hta | hta
     ·rcases argc t hta with ⟨k1, _⟩ | ⟨_, k1⟩
      ·rw [g1] at k1; cases k1
      ·rw [evl t hta]
       exact Rep.vok (ρ := ⟨px, B⟩) k1
     ·rw [show args.getD t .non = .non by simp [List.getD, List.getElem?_eq_none hta]]
      exact Rep.non _
   ·obtain ⟨m, rfl⟩ : ∃ m, t = fn.ntmps + m := ⟨t - fn.ntmps, by omega⟩
    rw [at2] at ht ⊢
    rcases Nat.lt_or_ge m (virts args).length with hm | hm
    ·exfalso
     obtain ⟨i, k1, k2, k3, _⟩ := virts_at args m hm
     rw [k3, vrtA_slot k2] at ht
     cases ht
    ·rw [show (virts args).getD m .non = .non by simp [List.getD, List.getElem?_eq_none hm]]
     exact Rep.non _
  ·obtain ⟨m, i, f1, f2, f3, f4, f5, f6, f7⟩ := slotAt t (by rw [e]; rfl)
   rw [e] at f5
   rcases argc i f3 with ⟨_, ⟨ty', c', e', k1, k2, k3⟩ | ⟨lv, ty', n, ks, c', e', _⟩⟩ | ⟨k1, _⟩
   ·rw [e'] at f5
    cases f5
    refine ⟨⟨i, f3, by rw [e']; rfl, f7⟩, ?_⟩
    show Boxed w B (px t) ty c
    rw [f7]
    exact k3
   ·rw [e'] at f5; cases f5
   ·rw [f4] at k1; cases k1
  ·obtain ⟨m', i, f1, f2, f3, f4, f5, f6, f7⟩ := slotAt g (by rw [e]; rfl)
   rw [e] at f5
   rcases argc i f3 with ⟨_, ⟨ty', c', e', k1, k2, k3⟩ | ⟨lv', ty', n, ks', c', e', k1, k2⟩⟩ | ⟨k1, _⟩
   ·rw [e'] at f5; cases f5
   ·rw [e'] at f5
    cases f5
    refine ⟨by rw [f1]; exact Nat.le_add_right _ _, fun h => (k2 h).1, fun h => ⟨.inr ⟨⟨i, f3, by rw [e']; exact h, f7⟩, ?_⟩, ?_⟩⟩
    ·show g < V
     simp only [V]
     omega
    ·obtain ⟨cap, _, _, q3⟩ := k1 h
     refine ⟨cap, ?_⟩
     show Rowed w (px g) ty cap m ks c
     rw [f7]
     exact q3
   ·rw [f4] at k1; cases k1
  ·obtain ⟨m, rfl⟩ : ∃ m, t = fn.ntmps + m := ⟨t - fn.ntmps, by have : E.n = fn.ntmps := rfl; omega⟩
   refine ⟨?_, rfl, rfl, fun _ _ => rfl⟩
   rw [at2]
   obtain ⟨i, k1, k2, k3, _⟩ := virts_at args m (by have h2 : fn.ntmps + m < V := h2; simp only [V] at h2; omega)
   rw [k3]
   exact vrtA_slot k2
theorem Sound.cons (hΓ : Sound P GL Γ) {f : FuncId} {s : Ctr} (h : Meets P GL f s) : Sound P GL ((f, s) :: Γ) := by
 intro g t hg
 unfold find at hg
 split at hg
 ·rename_i he
  cases hg
  rw [<- Nat.eq_of_beq_eq_true he]
  exact h
 ·exact hΓ g t hg
theorem Sound.nil : Sound P GL [] := fun f s h => by cases h
end
end Go.Ev
/- Loops of a function, found by their number. -/
namespace Go.Ev
open Go.RowKit
def kSeq (f : List AV -> Option AV) (K : Kont) : Kont := fun e s' => match e with
 | .norm => f s'
 | .exit id => K (.exit id) s'
 | .ret => K .ret s'
def kBlock (id : Nat) (K : Kont) : Kont := fun e s' => match e with
 | .norm => K .norm s'
 | .exit i => (match Nat.beq i id with
  | true => K .norm s'
  | false => K (.exit i) s')
 | .ret => K .ret s'
section
variable (P : Program) (GL : Nat -> AV) (Γ : List (Nat × Ctr)) (n v k : Nat) (cfg : Cfg)
noncomputable def loops : Code -> Kont -> List (Code × Kont)
 | .seq x y, K => loops x (kSeq (fun s => evC P GL Γ n v k cfg y s K) K) ++ loops y K
 | .cond _ x y, K => loops x K ++ loops y K
 | .block id c, K => loops c (kBlock id K)
 | .loop c, K => (c, K) :: loops c (fun e s' => match e with
  | .norm => none
  | .exit id => K (.exit id) s'
  | .ret => K .ret s')
 | _, _ => []
noncomputable def spots : Code -> Kont -> List (Nat × (List AV -> Option AV))
 | .seq x y, K => spots x (kSeq (fun s => evC P GL Γ n v k cfg y s K) K) ++ spots y K
 | .cond _ x y, K => spots x K ++ spots y K
 | .block id c, K => spots c (kBlock id K)
 | .region id ops draw, K => [(id, fun s => evRg P GL Γ n v cfg ops draw s K)]
 | _, _ => []
def spotAt : List (Nat × (List AV -> Option AV)) -> Nat -> List AV -> Option AV
 | [], _, _ => none
 | (i, f) :: l, id, s => match Nat.beq i id with
  | true => f s
  | false => spotAt l id s
def kFin (res : List ResultVar) (args : List AV) : Kont := fun e s => match e with
 | .norm => evFin P GL n v cfg res args s
 | .ret => evFin P GL n v cfg res args s
 | .exit _ => none
end
def vOf (fn : Func) (args : List AV) : Nat := fn.ntmps + (virts args).length
section
variable (P : Program) (GL : Nat -> AV) (Γ : List (Nat × Ctr)) (k : Nat) (cfg : Cfg)
noncomputable def loopW (args : List AV) (fn : Func) (i : Nat) : Code × Kont := (loops P GL Γ fn.ntmps (vOf fn args) k (cfg.at (vOf fn args)) (fn.body.getD .skip) (kFin P GL fn.ntmps (vOf fn args) cfg fn.results.toList args)).getD i (.skip, fun _ _ => none)
noncomputable def runW (args : List AV) (fn : Func) (i n : Nat) (s : List AV) : Option AV :=
 evL (forget fn.ntmps (vOf fn args) cfg.keep) (evC P GL Γ fn.ntmps (vOf fn args) k (cfg.at (vOf fn args)) (loopW P GL Γ k cfg args fn i).1) n s (loopW P GL Γ k cfg args fn i).2
noncomputable def evW (fn : Func) (args : List AV) : Option AV := evF P GL Γ fn.ntmps k cfg fn.results.toList (fn.body.getD .skip) args
noncomputable def fromW (args : List AV) (fn : Func) (i : Nat) (s : List AV) : Option AV :=
 spotAt (spots P GL Γ fn.ntmps (vOf fn args) k (cfg.at (vOf fn args)) (fn.body.getD .skip) (kFin P GL fn.ntmps (vOf fn args) cfg fn.results.toList args)) i s
end
abbrev cfgK (keep : List Bool) : Cfg := ⟨keep, [], [], 0, []⟩
section
variable (P : Program) (GL : Nat -> AV) (Γ : List (Nat × Ctr)) (k : Nat) (keep : List Bool)
noncomputable abbrev runL (fn : Func) (i n : Nat) (s : List AV) : Option AV := runW P GL Γ k (cfgK keep) [] fn i n s
noncomputable abbrev evN (fn : Func) (args : List AV) : Option AV := evW P GL Γ k (cfgK keep) fn args
end
theorem meetsW {P : Program} {GL : Nat -> AV} {Γ : List (Nat × Ctr)} (hmix : P.follows .mixedOrders = true) (hΓ : Sound P GL Γ) {f : FuncId} {fn : Func} (hf : P.funcs[f]? = some fn)
  (hb : fn.body.isSome = true) (hn : (fn.name == "runtime.NumGoroutine") = false) (s : Ctr)
  (h : ∀ args x, s args = some (true, x) -> ∃ k cfg, Nat.ble args.length fn.ntmps = true /\ evW P GL Γ k cfg fn args = some x) : Meets P GL f s := by
 cases hc : fn.body with
 | none => rw [hc] at hb; cases hb
 | some c =>
  refine meets hmix hΓ hf hc hn s fun args x hs => ?_
  obtain ⟨k, cfg, h1, h2⟩ := h args x hs
  refine ⟨k, cfg, Nat.le_of_ble_eq_true h1, ?_⟩
  unfold evW at h2
  rw [hc] at h2
  exact h2
theorem meetsN {P : Program} {GL : Nat -> AV} {Γ : List (Nat × Ctr)} (hmix : P.follows .mixedOrders = true) (_hGL : ∀ g' g k, GL g' ≠ .ref g k) (hΓ : Sound P GL Γ) {f : FuncId} {fn : Func} (hf : P.funcs[f]? = some fn)
  (hb : fn.body.isSome = true) (hn : (fn.name == "runtime.NumGoroutine") = false) (s : Ctr)
  (h : ∀ args x, s args = some (true, x) -> ∃ k keep, Nat.ble args.length fn.ntmps = true /\ evN P GL Γ k keep fn args = some x) : Meets P GL f s :=
 meetsW hmix hΓ hf hb hn s fun args x hs => by
  obtain ⟨k, keep, h1, h2⟩ := h args x hs
  exact ⟨k, _, h1, h2⟩
theorem Meets.plain {P : Program} {GL : Nat -> AV} {f : FuncId} {s : Ctr} (h : Meets P GL f s) (args : List AV) (x : AV) (hx : isRep x = true /\ splitOut x = (x, [])) (hs : s args = some (true, x)) (w : World) (B : Nat -> Prop) (vs : List Value)
  (hB : ∀ b, B b -> b < w.heap.size) (hG : GOk w B GL) (hl : args.length = vs.length) (hr : ∀ i, i < args.length -> Rep w B (args.getD i .non) (vs.getD i undef)) :
  Calls P f ⟨vs⟩ w fun e w' => ∃ v, e = .returned v /\ Below w.heap.size w w' /\ Rep w' (fun b => (B b \/ w.heap.size <= b) /\ b < w'.heap.size) x v := by
 have hno : ∀ i, i < args.length -> isOwn (args.getD i .non) = false := fun i hi => notOwn_slot (hr i hi).notOwn
 refine (h.2 args x hs w B vs (fun _ => 0) hB hG hl (fun i hi => ArgOk.of_rep (hr i hi)) (fun i j hi _ ho _ _ => by rw [hno i hi] at ho; cases ho)).mono ?_
 rintro e w' ⟨v, rfl, hb, B', hB', hres, _⟩
 refine ⟨v, rfl, hb.plain fun b ⟨i, hi, ho, _⟩ => (by rw [hno i hi] at ho; cases ho), ?_⟩
 rw [hx.2] at hres
 have hres' : Rep w' B' x v := by
  cases x <;> first | (obtain ⟨b, h⟩ := hres; exact h) | (have := hx.1; cases this)
 exact hres'.mono fun b hb => ⟨hB' b hb, rfl⟩
end Go.Ev
/- From a row's readings to what the evaluator knows: structs of numbers, bools and strings. -/
namespace Go.Ev
open Go.RowKit
inductive LK where
 | int (k : IntKind)
 | bool
 | str
def Fits : List LK -> List Value -> Prop
 | [], [] => True
 | .int k :: ks, v :: vs => (∃ x, v = .int k x /\ (Lit.int k x).wf = true) /\ Fits ks vs
 | .bool :: ks, v :: vs => (∃ b, v = .bool b) /\ Fits ks vs
 | .str :: ks, v :: vs => (∃ s, v = .string s /\ s.size <= maxLen) /\ Fits ks vs
 | _, _ => False
theorem Fits.append : ∀ {ks ls : List LK} {vs ws : List Value}, Fits ks vs -> Fits ls ws -> Fits (ks ++ ls) (vs ++ ws)
 | [], ls, [], ws, _, h => h
 | .int k :: ks, ls, v :: vs, ws, ⟨h1, h2⟩, h => ⟨h1, h2.append h⟩
 | .bool :: ks, ls, v :: vs, ws, ⟨h1, h2⟩, h => ⟨h1, h2.append h⟩
 | .str :: ks, ls, v :: vs, ws, ⟨h1, h2⟩, h => ⟨h1, h2.append h⟩
 | [], ls, v :: vs, ws, h, _ => h.elim
 | .int k :: ks, ls, [], ws, h, _ => h.elim
 | .bool :: ks, ls, [], ws, h, _ => h.elim
 | .str :: ks, ls, [], ws, h, _ => h.elim
def sumK (size : TypeId -> Nat) : List Field -> Nat
 | [] => 0
 | fd :: fs => size fd.type + sumK size fs
section
variable {H : Type} {enc : TypeId × Value -> H} {P : Program} {w : World} {base : Nat} {spare : Nat -> Bool} {held : Bool}
theorem reps_nil {B : Nat -> Prop} : ∀ i, i < ([] : List AV).length -> Rep w B (([] : List AV).getD i .non) (([] : List Value).getD i undef) := fun i hi => by simp at hi
theorem reps_cons {B : Nat -> Prop} {x : AV} {v : Value} {xs : List AV} {vs : List Value} (h : Rep w B x v) (hs : ∀ i, i < xs.length -> Rep w B (xs.getD i .non) (vs.getD i undef)) :
  ∀ i, i < (x :: xs).length -> Rep w B ((x :: xs).getD i .non) ((v :: vs).getD i undef)
 | 0, _ => h
 | i + 1, hi => hs i (by simpa using hi)
theorem mkCell_wf {k : IntKind} {x : Int} (h : (Lit.int k x).wf = true) : mkCell (.int k) x = .int k x := by
 cases k with
 | u8 =>
  simp only [Lit.wf, IntKind.min, IntKind.max, Bool.and_eq_true, decide_eq_true_eq] at h
  have h1 : 0 <= x /\ x <= 255 := by simpa [IntKind.bits, IntKind.signed] using h
  simp only [mkCell]
  rw [Int.emod_eq_of_lt (by omega) (by omega)]
 | _ => rfl
theorem open_arr {t e : TypeId} {k : IntKind} {v : Value} {d : DataW H} {ps : List MemPlace} {r : Reach} {b0 : Nat} (ht : P.underlying t = some (.slice e)) (he : P.underlying e = some (.int k)) (hc : P.cellsOf e = 1)
  (hv : Value.okWide P w r b0 t v) (h : DataW.Trod enc P w base spare held t v d ps) : ∃ (n : Nat) (c : NNI), n <= maxLen /\ Rep w (fun b => b < w.heap.size) (.arr n [.int k] c) v := by
 obtain ⟨a0, len, cap, rfl⟩ := WideShapes.okWide_slice ht hv
 obtain ⟨fuel, hf⟩ := h
 rcases ChangeShapes.open_ints ht he hc hf with ⟨hcs, _⟩ | ⟨a, len', cap', zs, hcs, _, hl, hm, hz, _, hcell, hw⟩
 ·have hcs : [Value.slice a0 len cap] = [.slice none 0 0] := hcs
  cases hcs
  exact ⟨0, fun _ _ => 0, Nat.zero_le _, .arr _ _ _ _ (.nil _ _ _ _)⟩
 ·have hcs : [Value.slice a0 len cap] = [.slice (some a) len' cap'] := hcs
  cases hcs
  by_cases hn : len = 0
  ·subst hn
   exact ⟨0, fun _ _ => 0, Nat.zero_le _, .arr _ _ _ _ (.nil _ _ _ _)⟩
  ·have hzl : len <= zs.length := by rw [hz]; split <;> omega
   obtain ⟨b, o, sp⟩ := a
   have h0 := hcell 0 (by omega)
   have hb : b < w.heap.size := by
    rcases Nat.lt_or_ge b w.heap.size with h' | h'
    ·exact h'
    ·simp [World.cell?, Addr.add, Array.getElem?_eq_none h'] at h0
   have hsp : sp = none := by
    cases sp with
    | none => rfl
    | some s =>
     exfalso
     simp only [Addr.add, if_true, World.cell?] at h0
     split at h0
     ·simp at h0
     ·cases h0
   subst hsp
   refine ⟨len, fun i _ => zs.getD i 0, by omega, .arr _ _ _ _ (.lst _ _ _ b o cap (fun i _ => .int k (zs.getD i 0)) hb hl (fun i hi => rfl) (fun i j hi hj => ?_) (fun i j hi hj => ?_))⟩
   ·have hj : j = 0 := by simpa using hj
    subst hj
    have := hcell i (by omega)
    rw [addr_add] at this
    rw [show o + i * [CK.int k].length + 0 = o + i by simp]
    exact this
   ·have hj : j = 0 := by simpa using hj
    subst hj
    have hwz : (Lit.int k (zs.getD i 0)).wf = true := hw _ (by
     have : zs.getD i 0 = zs[i] := by simp [List.getD, show i < zs.length by omega]
     rw [this]
     exact List.getElem_mem _)
    show Rep w _ (.val (mkCell (.int k) (zs.getD i 0))) _
    rw [mkCell_wf hwz]
    exact .val _
end
end Go.Ev
