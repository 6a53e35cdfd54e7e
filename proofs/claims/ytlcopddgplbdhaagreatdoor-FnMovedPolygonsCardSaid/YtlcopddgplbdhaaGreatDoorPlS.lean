/- Texts: the library's contracts, texts of numbers. -/
import Derived.Test.YtlcopddgplbdhaaGreatDoorPlB
import Derived.Lib.LaidTab
import Derived.Lib.ItoaMem
import Derived.Lib.ParseIntB
import Derived.Lib.Bytealg
import Derived.Lib.BitFns
import Derived.Lib.ItoaLen
import Derived.Laws.BitsLemmas
import Derived.Laws.Bits64
import Derived.Lib.Join
set_option linter.unusedVariables false
set_option linter.unusedSimpArgs false
/- Contracts of library functions whose arguments and results lie in no memory, from what the kit's shelf proves of them. -/
namespace Go.Ev
open Go.RowKit
section
variable {P : Program} {GL : Nat -> AV}
def valsOf : List AV -> Option (List Value)
 | [] => some []
 | .val v :: l => match valsOf l with
  | some vs => some (v :: vs)
  | none => none
 | _ => none
theorem valsOf_spec : ∀ {l : List AV} {vs : List Value}, valsOf l = some vs -> l = vs.map .val
 | [], vs, h => by cases h; rfl
 | x :: l, vs, h => by
  unfold valsOf at h
  split at h
  ·rename_i h0; cases h0
  ·rename_i v l' h0
   cases h0
   split at h
   ·rename_i vs' h1
    cases h
    rw [valsOf_spec h1]
    rfl
   ·cases h
  ·cases h
def one1 : AV -> Option Value
 | .val v => some v
 | .agg l => match valsOf l with
  | some vs => some (.agg ⟨vs⟩)
  | none => none
 | _ => none
def ones1 : List AV -> Option (List Value)
 | [] => some []
 | x :: l => match one1 x, ones1 l with
  | some v, some vs => some (v :: vs)
  | _, _ => none
def resV : AV -> Option Value
 | .tup l => match ones1 l with
  | some vs => some (.tuple ⟨vs⟩)
  | none => none
 | x => one1 x
theorem getD_map_val {vs : List Value} {i : Nat} (h : i < vs.length) : (vs.map AV.val).getD i .non = .val (vs.getD i undef) := by
 simp [List.getD, h]
theorem rep_one1 {w : World} {B : Nat -> Prop} {x : AV} {v : Value} (h : one1 x = some v) : isRep x = true /\ Rep w B x v := by
 unfold one1 at h
 split at h
 ·cases h
  exact ⟨rfl, .val _⟩
 ·split at h
  ·rename_i l vs hv
   cases h
   have e := valsOf_spec hv
   subst e
   refine ⟨rfl, .agg _ _ (by simp) fun i hi => ?_⟩
   have hi' : i < vs.length := by simpa using hi
   rw [getD_map_val hi']
   exact .val _
  ·cases h
 ·cases h
theorem ones1_spec : ∀ {l : List AV} {vs : List Value}, ones1 l = some vs -> l.length = vs.length /\ ∀ i, i < l.length -> one1 (l.getD i .non) = some (vs.getD i undef)
 | [], vs, h => by cases h; exact ⟨rfl, fun i hi => by simp at hi⟩
 | x :: l, vs, h => by
  unfold ones1 at h
  split at h
  ·rename_i v vs' h1 h2
   cases h
   obtain ⟨e1, e2⟩ := ones1_spec h2
   refine ⟨by simp [e1], fun i hi => ?_⟩
   cases i with
   | zero => exact h1
   | succ i => exact e2 i (by simpa using hi)
  ·cases h
theorem resOk1_rep {w w' : World} {B' : Nat -> Prop} {b : Nat} {x : AV} {v : Value} (hx : isRep x = true) (h : Rep w' B' x v) : ResOk1 w w' B' b x v := by
 cases x <;> first | exact h | cases hx
theorem Meets.shelf {f : FuncId} {s : Ctr} (hf : ∃ fn, P.funcs[f]? = some fn /\ (fn.name == "runtime.NumGoroutine") = false /\ fn.body.isSome = true)
  (h : ∀ args x, s args = some (true, x) -> ∃ (ys : List Value) (v : Value), args = ys.map .val /\ resV x = some v /\ ∀ (w : World) (B : Nat -> Prop), GOk w B GL ->
   Calls P f ⟨ys⟩ w fun e w' => e = .returned v /\ Below w.heap.size w w') : Meets P GL f s := by
 refine ⟨hf, fun args x hs w B vs β hB hG hl hargs _ => ?_⟩
 obtain ⟨ys, v, rfl, hx, hc⟩ := h args x hs
 have hv : vs = ys := by
  refine List.ext_getElem (by simpa using hl.symm) fun i h1 h2 => ?_
  have := hargs i (by simpa using h2)
  rw [getD_map_val h2] at this
  have key : ∀ a v, Rep w B (.val a) v -> v = a := fun a v h => by cases h; rfl
  have := key _ _ this
  simpa [List.getD, h1, h2] using this
 subst hv
 have nown : ∀ i, isOwn ((vs.map AV.val).getD i .non) = false := fun i => by
  by_cases hi : i < vs.length
  ·rw [getD_map_val hi]; rfl
  ·simp [List.getD, hi, isOwn]
 refine (hc w B hG).mono ?_
 rintro e w' ⟨rfl, hb⟩
 refine ⟨v, rfl, ⟨hb.os, hb.tape, hb.output, hb.size, fun k hk _ => hb.block k hk⟩, fun b => B b, fun b hb' => ⟨.inl hb', Nat.lt_of_lt_of_le (hB b hb') hb.size⟩, ?_, fun i hi => ?_⟩
 ·cases x with
  | tup l =>
   unfold resV at hx
   simp only at hx
   split at hx
   ·rename_i us hu
    cases hx
    obtain ⟨hlen, hall⟩ := ones1_spec hu
    refine ⟨us, fun _ => 0, rfl, hlen, fun i hi => ?_, fun i j hi _ ho => ?_⟩
    ·obtain ⟨r1, r2⟩ := rep_one1 (w := w') (B := B) (hall i hi)
     exact resOk1_rep r1 r2
    ·obtain ⟨_, r2⟩ := rep_one1 (w := w') (B := B) (hall i hi)
     have ho : isOwn (l.getD i .non) = true := ho
     rw [notOwn_slot r2.notOwn] at ho
     cases ho
   ·cases hx
  | val v' => exact ⟨0, (rep_one1 (w := w') (B := B) (x := .val v') hx).2⟩
  | agg l => exact ⟨0, (rep_one1 (w := w') (B := B) (x := .agg l) hx).2⟩
  | _ => simp [resV, one1] at hx
 ·have hi' : i < vs.length := by simpa using hi
  rw [getD_map_val hi']
  trivial
theorem tabIs_of {w : World} {B : Nat -> Prop} {name : String} {k : IntKind} {zs : List Int} {g : Nat} (hn : P.globalNamed name = some g) (hg : GL g = .eptr (zs.map fun z => .val (.int k z))) (h : GOk w B GL) : Lib.TabIs P w name k zs := by
 obtain ⟨cs, ty, z, h1, h2⟩ := h.all g _ hg
 have hr := h.rep g
 rw [hg] at hr
 unfold Lib.TabIs World.var?
 rw [hn]
 simp only [Option.bind_some, h1, Option.some.injEq]
 simp only [List.length_map] at h2
 cases hr with
 | eptr _ _ _ f hB hc r =>
  refine Array.ext (by simp [h2]) fun i k1 k2 => ?_
  have hi : i < zs.length := by omega
  have e1 := hc i (by simpa using hi)
  have e2 := r i (by simpa using hi)
  have key : ∀ a v, Rep w B (.val a) v -> v = a := fun a v h => by cases h; rfl
  have e3 : (zs.map fun z => AV.val (.int k z)).getD i .non = .val (.int k zs[i]) := by simp [List.getD, hi]
  rw [e3] at e2
  have e4 := key _ _ e2
  unfold World.cell? at e1
  simp only [h1, Nat.zero_add, Option.isSome_none, Bool.false_eq_true, if_false] at e1
  rw [Array.getElem?_eq_getElem k1, Option.some.injEq] at e1
  rw [e1, e4]
  simp
def pmX (x : Int) : Bool := x == 43 || x == 45
def pmCell (i : Nat) : AV := .val (.bool (Nat.beq i 43 || Nat.beq i 45))
def pmOne (i : Nat) : AV -> Bool
 | .val (.bool b) => b == (Nat.beq i 43 || Nat.beq i 45)
 | _ => false
def pmTest : Nat -> List AV -> Bool
 | _, [] => true
 | i, x :: l => pmOne i x && pmTest (i + 1) l
theorem pmOne_spec {i : Nat} {x : AV} (h : pmOne i x = true) : x = pmCell i := by
 unfold pmOne at h
 split at h
 ·rw [eq_of_beq h]; rfl
 ·cases h
theorem pmTest_spec : ∀ {l : List AV} {i : Nat}, pmTest i l = true -> ∀ j, j < l.length -> l.getD j .non = pmCell (i + j)
 | [], i, _, j, hj => by simp at hj
 | x :: l, i, h, j, hj => by
  unfold pmTest at h
  rw [Bool.and_eq_true] at h
  cases j with
  | zero => exact pmOne_spec h.1
  | succ j =>
   have := pmTest_spec h.2 j (by simpa using hj)
   rw [List.getD_cons_succ, this, show i + 1 + j = i + (j + 1) by omega]
def ctSet : Ctr := fun
 | [.own t c, .val (.int .u8 x)] => some (inB x 0 255 && (Nat.beq c.length 256 && pmTest 0 c), .out (.val (.bool (pmX x))) [.agg c, .non])
 | _ => none
theorem Meets.contains {f : FuncId} (hf : ∃ fn, P.funcs[f]? = some fn /\ (fn.name == "runtime.NumGoroutine") = false /\ fn.body.isSome = true)
  (h : ∀ (b : Nat) (x : UInt8) (v : Bool) (w : World), w.cell? ⟨b, x.toNat, none⟩ = some (.bool v) -> Calls P f #[.pointer (some ⟨b, 0, none⟩), .int .u8 x.toNat] w fun e w' => e = .returned (.bool v) /\ w' = w) :
  Meets P GL f ctSet := by
 refine ⟨hf, fun args x hs w B vs β hB hG hl hargs hinj => ?_⟩
 clear hinj
 unfold ctSet at hs
 split at hs
 ·rename_i t c x'
  simp only [Option.some.injEq, Prod.mk.injEq, Bool.and_eq_true] at hs
  obtain ⟨⟨hx, hn, ht⟩, rfl⟩ := hs
  have hx := inB_iff.1 hx
  have hn := Nat.eq_of_beq_eq_true hn
  obtain ⟨v0, v1, rfl⟩ : ∃ v0 v1, vs = [v0, v1] := by
   match vs, hl with
   | [a, b], _ => exact ⟨a, b, rfl⟩
  obtain ⟨e0, hB0, cs, hh, hlen, hrep⟩ := hargs 0 (by simp)
  have e1 : Rep w B (.val (.int .u8 x')) v1 := hargs 1 (by simp)
  have key : ∀ a v, Rep w B (.val a) v -> v = a := fun a v h => by cases h; rfl
  have e1 := key _ _ e1
  have e0 : v0 = _ := e0
  subst e0; subst e1
  obtain ⟨u, hu⟩ : ∃ u : UInt8, (u.toNat : Int) = x' := ⟨UInt8.ofNat x'.toNat, by rw [UInt8.toNat_ofNat']; omega⟩
  have hi : u.toNat < c.length := by omega
  have hc := hrep u.toNat hi
  rw [pmTest_spec ht _ hi, Nat.zero_add] at hc
  have hc := key _ _ hc
  have hv : (Nat.beq u.toNat 43 || Nat.beq u.toNat 45) = pmX x' := by
   unfold pmX
   have k : ∀ n : Nat, Nat.beq u.toNat n = (x' == (n : Int)) := fun n => by
    rw [Bool.eq_iff_iff, beq_iff_eq, <- hu]
    exact ⟨fun h => by rw [Nat.eq_of_beq_eq_true h], fun h => by rw [Int.ofNat.inj h]; exact Nat.beq_refl _⟩
   rw [k 43, k 45]
   rfl
  have cell : w.cell? ⟨β 0, u.toNat, none⟩ = some (.bool (pmX x')) := by
   unfold World.cell?
   rw [show (⟨β 0, u.toNat, none⟩ : Addr).block = β 0 from rfl, hh]
   have hl2 : u.toNat < cs.length := by omega
   simp only [List.getD, List.getElem?_eq_getElem hl2, Option.getD_some] at hc
   simp [hl2, hc, hv]
  refine (show Calls P f ⟨[.pointer (some ⟨β 0, 0, none⟩), .int .u8 x']⟩ w _ from hu ▸ h (β 0) u (pmX x') w cell).mono ?_
  rintro e w' ⟨rfl, rfl⟩
  refine ⟨_, rfl, BelowX.refl _ _ _, B, fun b hb => ⟨.inl hb, hB b hb⟩, ⟨0, .val _⟩, fun i hi => ?_⟩
  match i, hi with
  | 0, _ => exact ⟨c, rfl, cs, hh, hlen, hrep⟩
  | 1, _ => trivial
 ·cases hs
end
end Go.Ev
/- Texts of numbers, in plain Lean: what is written is read back. -/
namespace Go.Ev
open Go.Lib
def isDg (b : UInt8) : Prop := 48 <= b.toNat /\ b.toNat <= 57
theorem dg_ofNat {d : Nat} (h : d < 10) : (UInt8.ofNat (48 + d)).toNat = 48 + d := by
 rw [UInt8.toNat_ofNat']
 omega
theorem dd_ne (u : Nat) : decDigits u ≠ [] := by
 rw [decDigits]
 split <;> simp
theorem dd_dg (u : Nat) : ∀ b ∈ decDigits u, isDg b := by
 induction u using Nat.strongRecOn with
 | _ u ih =>
  rw [decDigits]
  split
  ·rename_i h
   intro b hb
   simp only [List.mem_singleton] at hb
   subst hb
   unfold isDg
   rw [dg_ofNat h]
   omega
  ·rename_i h
   intro b hb
   rcases List.mem_append.1 hb with hb | hb
   ·exact ih _ (by omega) b hb
   ·simp only [List.mem_singleton] at hb
    subst hb
    unfold isDg
    rw [dg_ofNat (Nat.mod_lt _ (by decide))]
    have := Nat.mod_lt u (show 0 < 10 by decide)
    omega
theorem pu_app (M : Nat) : ∀ (l m : List UInt8) (acc : Nat), parseUintM M acc (l ++ m) = match parseUintM M acc l with
  | .ok a => parseUintM M a m
  | .syntax => .syntax
  | .range => .range
 | [], m, acc => rfl
 | c :: r, m, acc => by
  simp only [List.cons_append, parseUintM]
  split
  ·split
   ·rfl
   ·split
    ·rfl
    ·exact pu_app M r m _
  ·rfl
theorem pu_one {M acc d : Nat} (hd : d < 10) (h1 : acc < 1844674407370955162) (h2 : acc * 10 + d <= M) : parseUintM M acc [UInt8.ofNat (48 + d)] = .ok (acc * 10 + d) := by
 simp only [parseUintM, dg_ofNat hd]
 rw [if_pos (by omega), if_neg (by omega), if_neg (by omega)]
 congr 1
 omega
theorem pu_dd {M u : Nat} (h1 : u <= 1152921504606846976) (h2 : u <= M) : parseUintM M 0 (decDigits u) = .ok u := by
 induction u using Nat.strongRecOn with
 | _ u ih =>
  rw [decDigits]
  split
  ·rename_i h
   rw [pu_one h (by omega) (by omega)]
   congr 1
   omega
  ·rename_i h
   rw [pu_app, ih (u / 10) (by omega) (by omega) (by omega)]
   simp only
   rw [pu_one (Nat.mod_lt _ (by decide)) (by omega) (by omega)]
   congr 1
   omega
theorem pub_dd {u : Nat} (h1 : u <= 1152921504606846976) : parseUintB 64 (decDigits u) = .ok u := by
 unfold parseUintB
 rw [if_neg (dd_ne u)]
 exact pu_dd h1 (by omega)
theorem dg_cons {u : Nat} : ∃ c r, decDigits u = c :: r /\ isDg c := by
 cases h : decDigits u with
 | nil => exact absurd h (dd_ne u)
 | cons c r => exact ⟨c, r, rfl, dd_dg u c (by rw [h]; exact List.mem_cons_self ..)⟩
theorem parse_itoa {v : Int} (h : v.natAbs <= 1152921504606846976) : parseIntB 64 (itoa v) = .ok v := by
 unfold itoa
 by_cases c : v < 0
 ·rw [if_pos c]
  unfold parseIntB
  simp only
  rw [show (45 : UInt8).toNat = 45 from rfl, if_pos (.inr rfl), pub_dd h]
  simp only
  rw [if_neg (by simp), if_neg (by omega)]
  simp
  omega
 ·rw [if_neg c]
  have hn : v.toNat = v.natAbs := by omega
  obtain ⟨d, r, e, hd⟩ := dg_cons (u := v.toNat)
  rw [e]
  unfold parseIntB
  simp only
  unfold isDg at hd
  rw [if_neg (by omega), <- e, pub_dd (by omega)]
  simp only
  rw [if_neg (by omega), if_neg (by omega), if_neg (by omega)]
  congr 1
  omega
theorem itoa_parts (v : Int) : ∃ l : List UInt8, l ≠ [] /\ (∀ b ∈ l, isDg b) /\ ((0 <= v /\ itoa v = l) \/ (v < 0 /\ itoa v = 45 :: l)) := by
 unfold itoa
 by_cases c : v < 0
 ·exact ⟨_, dd_ne v.natAbs, dd_dg _, .inr ⟨c, if_pos c⟩⟩
 ·exact ⟨_, dd_ne v.toNat, dd_dg _, .inl ⟨by omega, if_neg c⟩⟩
theorem itoa_byte (v : Int) : ∀ b ∈ itoa v, b = 45 \/ isDg b := by
 obtain ⟨l, _, h, ⟨_, e⟩ | ⟨_, e⟩⟩ := itoa_parts v
 ·rw [e]; exact fun b hb => .inr (h b hb)
 ·rw [e]
  intro b hb
  rcases List.mem_cons.1 hb with rfl | hb
  ·exact .inl rfl
  ·exact .inr (h b hb)
theorem itoa_last (v : Int) : ∃ l c, itoa v = l ++ [c] /\ isDg c := by
 obtain ⟨l, h0, h, e⟩ := itoa_parts v
 have hl := List.dropLast_concat_getLast h0
 have hc := h _ (List.getLast_mem h0)
 rcases e with ⟨_, e⟩ | ⟨_, e⟩
 ·exact ⟨l.dropLast, l.getLast h0, by rw [e, hl], hc⟩
 ·exact ⟨45 :: l.dropLast, l.getLast h0, by rw [e, List.cons_append, hl], hc⟩
theorem hasSuf_snoc (l : List UInt8) (c d : UInt8) : hasSuffix (l ++ [c]) [d] = (c == d) := by
 unfold hasSuffix
 rw [Bool.eq_iff_iff, List.isSuffixOf_iff_suffix, beq_iff_eq]
 constructor
 ·rintro ⟨t, ht⟩
  have := List.append_inj_right' ht rfl
  simpa using this.symm
 ·rintro rfl
  exact ⟨l, rfl⟩
theorem trimSuf_yes (l : List UInt8) (c : UInt8) : trimSuffix (l ++ [c]) [c] = l := by
 unfold trimSuffix
 rw [hasSuf_snoc, beq_self_eq_true, if_pos rfl]
 simp
theorem trimSuf_no (l : List UInt8) {c d : UInt8} (h : c ≠ d) : trimSuffix (l ++ [c]) [d] = l ++ [c] := by
 unfold trimSuffix
 rw [hasSuf_snoc, beq_eq_false_iff_ne.2 h, if_neg (by decide)]
theorem trimPre_yes (l : List UInt8) (c : UInt8) : trimPrefix (c :: l) [c] = l := by
 unfold trimPrefix hasPrefix
 simp [List.isPrefixOf]
theorem trimPre_no (l : List UInt8) {c d : UInt8} (h : c ≠ d) : trimPrefix (c :: l) [d] = c :: l := by
 unfold trimPrefix hasPrefix
 rw [if_neg]
 simp [List.isPrefixOf]
 exact fun e => h e.symm
theorem ib_none : ∀ {l : List UInt8} {c : UInt8}, c ∉ l -> indexByte l c = -1
 | [], _, _ => rfl
 | b :: l, c, h => by
  simp only [List.mem_cons, not_or] at h
  unfold indexByte
  rw [ib_none h.2, if_neg (by simpa using fun e => h.1 e.symm)]
  rfl
theorem ib_at : ∀ {l m : List UInt8} {c : UInt8}, c ∉ l -> indexByte (l ++ c :: m) c = (l.length : Int)
 | [], m, c, _ => by simp [indexByte]
 | b :: l, m, c, h => by
  simp only [List.mem_cons, not_or] at h
  rw [List.cons_append]
  unfold indexByte
  rw [ib_at h.2, if_neg (by simpa using fun e => h.1 e.symm), if_neg (by simp only [beq_iff_eq]; omega)]
  simp
def isPM (b : UInt8) : Bool := b == 43 || b == 45
def lastF (l : List UInt8) : Nat -> Int
 | 0 => -1
 | i + 1 => if isPM (l.getD i 0) then (i : Int) else lastF l i
def lastPM (l : List UInt8) : Int := lastF l l.length
theorem lastF_none {l : List UInt8} : ∀ {i : Nat}, (∀ j, j < i -> isPM (l.getD j 0) = false) -> lastF l i = -1
 | 0, _ => rfl
 | i + 1, h => by
  unfold lastF
  rw [h i (by omega), if_neg (by decide)]
  exact lastF_none fun j hj => h j (by omega)
theorem lastF_at {l : List UInt8} {k : Nat} (hk : isPM (l.getD k 0) = true) : ∀ {i : Nat}, k < i -> (∀ j, k < j -> j < i -> isPM (l.getD j 0) = false) -> lastF l i = (k : Int)
 | 0, h, _ => by omega
 | i + 1, h, hj => by
  unfold lastF
  by_cases e : k = i
  ·subst e
   rw [if_pos hk]
  ·rw [hj i (by omega) (by omega), if_neg (by decide)]
   exact lastF_at hk (by omega) fun j h1 h2 => hj j h1 (by omega)
theorem dg_pm {b : UInt8} (h : isDg b) : isPM b = false := by
 unfold isDg at h
 unfold isPM
 rw [Bool.or_eq_false_iff]
 constructor <;> (rw [beq_eq_false_iff_ne]; rintro rfl; revert h; decide)
theorem getD_dg {l : List UInt8} (h : ∀ b ∈ l, isDg b) {i : Nat} (hi : i < l.length) : isPM (l.getD i 0) = false := by
 refine dg_pm (h _ ?_)
 simp [List.getD, hi]
theorem last_num (v : Int) : lastPM (itoa v) <= 0 := by
 obtain ⟨l, _, h, ⟨_, e⟩ | ⟨_, e⟩⟩ := itoa_parts v
 ·rw [e]
  unfold lastPM
  rw [lastF_none fun j hj => getD_dg h hj]
  decide
 ·rw [e]
  unfold lastPM
  rw [lastF_at (k := 0) rfl (by simp) fun j h1 h2 => ?_]
  ·decide
  ·obtain ⟨j, rfl⟩ : ∃ j', j = j' + 1 := ⟨j - 1, by omega⟩
   rw [List.getD_cons_succ]
   exact getD_dg h (by simpa using h2)
theorem last_sum {a l : List UInt8} {s : UInt8} (hs : isPM s = true) (h : ∀ b ∈ l, isDg b) : lastPM (a ++ s :: l) = (a.length : Int) := by
 unfold lastPM
 refine lastF_at (k := a.length) (by simp [List.getD, hs]) (by simp) fun j h1 h2 => ?_
 obtain ⟨j, rfl⟩ : ∃ j', j = a.length + 1 + j' := ⟨j - (a.length + 1), by omega⟩
 have hj : j < l.length := by simp at h2; omega
 have e : (a ++ s :: l).getD (a.length + 1 + j) 0 = l.getD j 0 := by
  rw [List.getD_eq_getElem?_getD, List.getD_eq_getElem?_getD, List.getElem?_append_right (by omega), show a.length + 1 + j - a.length = j + 1 by omega, List.getElem?_cons_succ]
 rw [e]
 exact getD_dg h hj
end Go.Ev
/- The text of a number, and what reading it gives, in plain Lean. -/
namespace Go.Ev
open Go.Lib
def sgnL (b : Int) : List UInt8 := cond (decide (b < 0)) [45] [43]
def absI (b : Int) : Int := cond (decide (b < 0)) (-b) b
def innL (a b : Int) : List UInt8 := cond (a == 0 && !(b == 0)) (itoa b ++ [114]) (cond (!(b == 0)) (itoa a ++ ((sgnL b ++ itoa (absI b)) ++ [114])) (itoa a))
def corL (a b : Int) (kz : Bool) : List UInt8 := cond (!(a == 0) && (!(b == 0) && !kz)) (([40] ++ innL a b) ++ [41]) (innL a b)
def numL (a b : Int) (k : Nat) : List UInt8 := cond (k == 0) (corL a b true) (corL a b false ++ ([47] ++ itoa ((2 ^ k : Nat) : Int)))
def pN (s : List UInt8) : Int := match parseIntB 64 s with
 | .ok v => v
 | _ => 0
def pO (s : List UInt8) : Bool := match parseIntB 64 s with
 | .ok v => Nat.ble v.natAbs 1152921504606846976
 | _ => false
theorem pO_abs {s : List UInt8} (h : pO s = true) : Nat.ble (pN s).natAbs 9223372036854775807 = true := by
 unfold pO at h
 unfold pN
 split at h
 ·have := Nat.le_of_ble_eq_true h
  exact Nat.ble_eq_true_of_le (by omega)
 ·cases h
def prT (s : List UInt8) : List UInt8 := trimSuffix s [114]
def prI (s : List UInt8) : Nat := (lastPM (prT s)).toNat
def prA (s : List UInt8) : Int := cond (!(hasSuffix s [114])) (pN s) (cond (decide (lastPM (prT s) <= 0)) 0 (pN ((prT s).take (prI s))))
def prB (s : List UInt8) : Int := cond (!(hasSuffix s [114])) 0 (cond (decide (lastPM (prT s) <= 0)) (pN (prT s)) (pN (trimPrefix ((prT s).drop (prI s)) [43])))
def prO (s : List UInt8) : Bool := cond (!(hasSuffix s [114])) (pO s) (cond (decide (lastPM (prT s) <= 0)) (pO (prT s)) (pO ((prT s).take (prI s)) && pO (trimPrefix ((prT s).drop (prI s)) [43])))
theorem pN_itoa {v : Int} (h : v.natAbs <= 1152921504606846976) : pN (itoa v) = v /\ pO (itoa v) = true := by
 unfold pN pO
 rw [parse_itoa h]
 exact ⟨rfl, Nat.ble_eq_true_of_le h⟩
theorem dg_ne {b c : UInt8} (h : isDg b) (hc : ¬ isDg c) : b ≠ c := fun e => hc (e ▸ h)
theorem absI_eq (b : Int) : absI b = (b.natAbs : Int) := by
 unfold absI
 by_cases h : b < 0
 ·rw [decide_eq_true h]; simp only [cond_true]; omega
 ·rw [decide_eq_false h]; simp only [cond_false]; omega
theorem itoa_abs (b : Int) : itoa (absI b) = decDigits b.natAbs := by rw [absI_eq, itoa_nonneg]
theorem inn_0 (a : Int) : innL a 0 = itoa a := by
 unfold innL
 rw [show ((0 : Int) == 0) = true from rfl, Bool.not_true, Bool.and_false]
 rfl
theorem inn_a {b : Int} (h : b ≠ 0) : innL 0 b = itoa b ++ [114] := by
 unfold innL
 rw [show ((0 : Int) == 0) = true from rfl, show (b == 0) = false from beq_eq_false_iff_ne.2 h]
 rfl
theorem inn_ab {a b : Int} (ha : a ≠ 0) (h : b ≠ 0) : innL a b = (itoa a ++ (sgnL b ++ itoa (absI b))) ++ [114] := by
 unfold innL
 rw [show (a == 0) = false from beq_eq_false_iff_ne.2 ha, show (b == 0) = false from beq_eq_false_iff_ne.2 h, List.append_assoc (itoa a)]
 rfl
theorem pr_inn {a b : Int} (ha : a.natAbs <= 1152921504606846976) (hb : b.natAbs <= 1152921504606846976) : prA (innL a b) = a /\ prB (innL a b) = b /\ prO (innL a b) = true := by
 by_cases b0 : b = 0
 ·subst b0
  have e := inn_0 a
  obtain ⟨l, c, e2, hc⟩ := itoa_last a
  have hs : hasSuffix (itoa a) [114] = false := by rw [e2, hasSuf_snoc, beq_eq_false_iff_ne]; exact dg_ne hc (by unfold isDg; decide)
  obtain ⟨p1, p2⟩ := pN_itoa ha
  unfold prA prB prO
  rw [e, hs]
  exact ⟨p1, rfl, p2⟩
 ·by_cases a0 : a = 0
  ·subst a0
   have e := inn_a b0
   have ht : prT (innL 0 b) = itoa b := by unfold prT; rw [e, trimSuf_yes]
   have hs : hasSuffix (innL 0 b) [114] = true := by rw [e, hasSuf_snoc]; rfl
   obtain ⟨p1, p2⟩ := pN_itoa hb
   unfold prA prB prO
   rw [ht, hs, decide_eq_true (last_num b)]
   exact ⟨rfl, p1, p2⟩
  ·have e := inn_ab a0 b0
   have ht : prT (innL a b) = itoa a ++ (sgnL b ++ itoa (absI b)) := by unfold prT; rw [e, trimSuf_yes]
   have hs : hasSuffix (innL a b) [114] = true := by rw [e, hasSuf_snoc]; rfl
   obtain ⟨s, hs1, hs2⟩ : ∃ s, sgnL b = [s] /\ isPM s = true := by
    unfold sgnL
    cases decide (b < 0)
    ·exact ⟨43, rfl, rfl⟩
    ·exact ⟨45, rfl, rfl⟩
   have hl : lastPM (prT (innL a b)) = ((itoa a).length : Int) := by
    rw [ht, hs1, List.singleton_append]
    exact last_sum hs2 (by rw [itoa_abs]; exact dd_dg _)
   have hne : 0 < (itoa a).length := by obtain ⟨l, c, e2, _⟩ := itoa_last a; rw [e2]; simp
   have hi : prI (innL a b) = (itoa a).length := by unfold prI; rw [hl]; simp
   have hd : trimPrefix (sgnL b ++ itoa (absI b)) [43] = itoa b := by
    rw [itoa_abs]
    unfold sgnL
    by_cases hb0 : b < 0
    ·rw [decide_eq_true hb0, cond_true, List.singleton_append, trimPre_no _ (by decide)]
     unfold itoa
     rw [if_pos hb0]
    ·rw [decide_eq_false hb0, cond_false, List.singleton_append, trimPre_yes]
     unfold itoa
     rw [if_neg hb0, show b.natAbs = b.toNat by omega]
   obtain ⟨p1, p2⟩ := pN_itoa ha
   obtain ⟨q1, q2⟩ := pN_itoa hb
   unfold prA prB prO
   rw [hs, hl, hi, ht, decide_eq_false (show ¬ (((itoa a).length : Nat) : Int) <= 0 by omega), List.take_left, List.drop_left, hd, p1, p2, q1, q2]
   exact ⟨rfl, rfl, rfl⟩
theorem inn_ends (a b : Int) : ∃ c l, innL a b = c :: l /\ (c = 45 \/ isDg c) /\ ∃ l' d, innL a b = l' ++ [d] /\ (d = 114 \/ isDg d) := by
 have first : ∀ v : Int, ∀ m, ∃ c l, itoa v ++ m = c :: l /\ (c = 45 \/ isDg c) := fun v m => by
  obtain ⟨l, c, e, _⟩ := itoa_last v
  cases h : itoa v with
  | nil => rw [h] at e; simp at e
  | cons x r => exact ⟨x, r ++ m, rfl, itoa_byte v x (by rw [h]; exact List.mem_cons_self ..)⟩
 by_cases b0 : b = 0
 ·subst b0
  have e := inn_0 a
  obtain ⟨c, l, h1, h2⟩ := first a []
  obtain ⟨l', d, h3, h4⟩ := itoa_last a
  rw [List.append_nil] at h1
  exact ⟨c, l, by rw [e, h1], h2, l', d, by rw [e, h3], .inr h4⟩
 ·by_cases a0 : a = 0
  ·subst a0
   have e := inn_a b0
   obtain ⟨c, l, h1, h2⟩ := first b [114]
   exact ⟨c, l, by rw [e, h1], h2, itoa b, 114, e, .inl rfl⟩
  ·have e := inn_ab a0 b0
   obtain ⟨c, l, h1, h2⟩ := first a ((sgnL b ++ itoa (absI b)) ++ [114])
   exact ⟨c, l, by rw [e, List.append_assoc, h1], h2, _, 114, e, .inl rfl⟩
def stripL (s : List UInt8) : List UInt8 := trimSuffix (trimPrefix s [40]) [41]
theorem strip_cor (a b : Int) (kz : Bool) : stripL (corL a b kz) = innL a b := by
 obtain ⟨c, l, e1, hc, l', d, e2, hd⟩ := inn_ends a b
 have n1 : c ≠ 40 := by
  rcases hc with rfl | hc
  ·decide
  ·exact dg_ne hc (by unfold isDg; decide)
 have n2 : d ≠ 41 := by
  rcases hd with rfl | hd
  ·decide
  ·exact dg_ne hd (by unfold isDg; decide)
 unfold stripL corL
 cases (!(a == 0) && (!(b == 0) && !kz))
 ·rw [cond_false, show trimPrefix (innL a b) [40] = innL a b by rw [e1, trimPre_no _ n1], e2, trimSuf_no _ n2]
 ·rw [cond_true, List.append_assoc, List.singleton_append, trimPre_yes, trimSuf_yes]
theorem inn_byte (a b : Int) : ∀ x ∈ innL a b, x = 45 \/ isDg x \/ x = 114 \/ x = 43 := by
 have k1 : ∀ v : Int, ∀ x ∈ itoa v, x = 45 \/ isDg x \/ x = 114 \/ x = 43 := fun v x hx => by
  rcases itoa_byte v x hx with h | h
  ·exact .inl h
  ·exact .inr (.inl h)
 have k2 : ∀ x ∈ sgnL b, x = 45 \/ isDg x \/ x = 114 \/ x = 43 := fun x hx => by
  unfold sgnL at hx
  cases h : decide (b < 0) <;> rw [h] at hx <;> simp only [cond_true, cond_false, List.mem_singleton] at hx <;> subst hx
  ·exact .inr (.inr (.inr rfl))
  ·exact .inl rfl
 have k3 : ∀ x ∈ ([114] : List UInt8), x = 45 \/ isDg x \/ x = 114 \/ x = 43 := fun x hx => by
  simp only [List.mem_singleton] at hx
  exact .inr (.inr (.inl hx))
 intro x hx
 by_cases b0 : b = 0
 ·rw [b0, inn_0] at hx
  exact k1 _ x hx
 ·by_cases a0 : a = 0
  ·rw [a0, inn_a b0] at hx
   rcases List.mem_append.1 hx with hx | hx
   ·exact k1 _ x hx
   ·exact k3 x hx
  ·rw [inn_ab a0 b0] at hx
   rcases List.mem_append.1 hx with hx | hx
   ·rcases List.mem_append.1 hx with hx | hx
    ·exact k1 _ x hx
    ·rcases List.mem_append.1 hx with hx | hx
     ·exact k2 x hx
     ·exact k1 _ x hx
   ·exact k3 x hx
theorem cor_byte (a b : Int) (kz : Bool) : ∀ x ∈ corL a b kz, x = 45 \/ isDg x \/ x = 114 \/ x = 43 \/ x = 40 \/ x = 41 := by
 have k := inn_byte a b
 intro x hx
 unfold corL at hx
 have k' : x ∈ innL a b -> x = 45 \/ isDg x \/ x = 114 \/ x = 43 \/ x = 40 \/ x = 41 := fun h => by
  rcases k x h with h | h | h | h
  ·exact .inl h
  ·exact .inr (.inl h)
  ·exact .inr (.inr (.inl h))
  ·exact .inr (.inr (.inr (.inl h)))
 cases h : (!(a == 0) && (!(b == 0) && !kz)) <;> rw [h] at hx
 ·exact k' hx
 ·rw [cond_true] at hx
  rcases List.mem_append.1 hx with hx | hx
  ·rcases List.mem_append.1 hx with hx | hx
   ·simp only [List.mem_singleton] at hx; subst hx; simp
   ·exact k' hx
  ·simp only [List.mem_singleton] at hx; subst hx; simp
theorem cor_slash (a b : Int) (kz : Bool) : (47 : UInt8) ∉ corL a b kz := fun h => by
 rcases cor_byte a b kz _ h with h | h | h | h | h | h
 all_goals first | (revert h; decide) | (unfold isDg at h; revert h; decide)
def rdI (s : List UInt8) : Int := indexByte s 47
def rdBody (s : List UInt8) : List UInt8 := cond (decide (rdI s >= 0)) (s.take (rdI s).toNat) s
def rdPow (s : List UInt8) : List UInt8 := cond (decide (rdI s >= 0)) (s.drop ((rdI s).toNat + 1)) []
theorem rd_num (a b : Int) (k : Nat) : rdBody (numL a b k) = corL a b (k == 0) /\ (k = 0 -> rdI (numL a b k) = -1) /\ (k ≠ 0 -> 0 <= rdI (numL a b k) /\ rdPow (numL a b k) = itoa ((2 ^ k : Nat) : Int)) := by
 by_cases h : k = 0
 ·subst h
  have e : numL a b 0 = corL a b true := rfl
  have hi : rdI (numL a b 0) = -1 := by unfold rdI; rw [e]; exact ib_none (cor_slash a b true)
  refine ⟨?_, fun _ => hi, fun h => absurd rfl h⟩
  unfold rdBody
  rw [hi]
  exact e
 ·have hk : (k == 0) = false := by simpa using h
  have e : numL a b k = corL a b false ++ 47 :: itoa ((2 ^ k : Nat) : Int) := by unfold numL; rw [hk]; rfl
  have hi : rdI (numL a b k) = ((corL a b false).length : Int) := by unfold rdI; rw [e]; exact ib_at (cor_slash a b false)
  refine ⟨?_, fun h' => absurd h' h, fun _ => ⟨by omega, ?_⟩⟩
  ·unfold rdBody
   rw [hi, hk, decide_eq_true (show (((corL a b false).length : Nat) : Int) >= 0 by omega), cond_true, e]
   simp
  ·unfold rdPow
   rw [hi, decide_eq_true (show (((corL a b false).length : Nat) : Int) >= 0 by omega), cond_true, e]
   simp
end Go.Ev
/- Reading the text of a number gives that number, in plain Lean. -/
namespace Go.Ev
open Go.Lib
def rdK (s : List UInt8) : Int := cond (decide (rdI s >= 0)) ((bitLen (pN (rdPow s) % 18446744073709551616).toNat : Int) - 1) 0
def rdA (s : List UInt8) : Int := prA (stripL (rdBody s))
def rdB (s : List UInt8) : Int := prB (stripL (rdBody s))
def rdO (s : List UInt8) : Bool := prO (stripL (rdBody s)) && cond (decide (rdI s >= 0)) (pO (rdPow s)) true
theorem read_num {a b : Int} {k : Nat} (ha : a.natAbs <= 1152921504606846976) (hb : b.natAbs <= 1152921504606846976) (hk : k <= 30) : rdA (numL a b k) = a /\ rdB (numL a b k) = b /\ rdK (numL a b k) = (k : Int) /\ rdO (numL a b k) = true := by
 obtain ⟨h1, h2, h3⟩ := rd_num a b k
 obtain ⟨p1, p2, p3⟩ := pr_inn ha hb
 unfold rdA rdB rdK rdO
 rw [h1, strip_cor, p1, p2, p3]
 by_cases z : k = 0
 ·rw [h2 z, z]
  exact ⟨rfl, rfl, rfl, rfl⟩
 ·obtain ⟨q1, q2⟩ := h3 z
  have hp : (2 ^ k : Nat) <= 1152921504606846976 := Nat.le_trans (Nat.pow_le_pow_right (by decide) hk) (by decide)
  obtain ⟨e1, e2⟩ := pN_itoa (v := ((2 ^ k : Nat) : Int)) (by rw [Int.natAbs_natCast]; exact hp)
  rw [decide_eq_true (show rdI (numL a b k) >= 0 from q1), q2, e1, e2]
  refine ⟨rfl, rfl, ?_, rfl⟩
  rw [cond_true]
  have key : ∀ k : Nat, k <= 30 -> ((bitLen (((2 ^ k : Nat) : Int) % 18446744073709551616).toNat : Nat) : Int) - 1 = (k : Int) := by
   intro k hk
   have : ∀ k : Fin 31, ((bitLen (((2 ^ k.val : Nat) : Int) % 18446744073709551616).toNat : Nat) : Int) - 1 = (k.val : Int) := by decide +kernel
   exact this ⟨k, by omega⟩
  exact key k hk
end Go.Ev
/- Strings as lists of bytes: helpers for contracts. -/
namespace Go.Ev
open Go.Lib
theorem ba_app (u v : List UInt8) : (⟨u.toArray⟩ : ByteArray) ++ ⟨v.toArray⟩ = ⟨(u ++ v).toArray⟩ := by
 apply ByteArray.ext
 show ((⟨u.toArray⟩ : ByteArray).append ⟨v.toArray⟩).data = _
 rw [ByteArray.append_eq, ByteArray.data_append]
 simp
theorem ba_size (u : List UInt8) : (⟨u.toArray⟩ : ByteArray).size = u.length := by simp [ByteArray.size]
theorem nb {n : Nat} (h : n <= 4611686018427387904) : Nat.ble n 9223372036854775807 = true := Nat.ble_eq_true_of_le (by omega)
theorem cond_yes {c : Bool} {x y : Option AV} (h : c = true) : cond c x y = x := by rw [h]; rfl
theorem itoa_len {v : Int} (h : v.natAbs <= 1152921504606846976) : (itoa v).length <= 21 := itoa_length_le v (by omega) (by omega)
theorem pow_wr {k : Int} (h0 : 0 <= k) (h : k <= 30) : wr (1 * 2 ^ min k.toNat 64) = ((2 ^ k.toNat : Nat) : Int) := by
 obtain ⟨n, rfl⟩ : ∃ n : Nat, k = (n : Int) := ⟨k.toNat, by omega⟩
 have hp : (2 ^ n : Nat) <= 1073741824 := Nat.le_trans (Nat.pow_le_pow_right (by decide) (show n <= 30 by omega)) (by decide)
 rw [Int.toNat_natCast, Nat.min_eq_left (by omega), Int.one_mul, show ((2 : Int) ^ n) = ((2 ^ n : Nat) : Int) by simp]
 generalize (2 ^ n : Nat) = m at hp
 exact wr_in (by omega) (by omega)
theorem pow_nb {k : Int} (h0 : 0 <= k) (h : k <= 30) : (((2 ^ k.toNat : Nat) : Int)).natAbs <= 1152921504606846976 := by
 rw [Int.natAbs_natCast]
 exact Nat.le_trans (Nat.pow_le_pow_right (by decide) (show k.toNat <= 30 by omega)) (by decide)
end Go.Ev
/- Strings as lists of bytes: parts, the last sign. -/
namespace Go.Ev
open Go.Lib
theorem ba_eta (s : ByteArray) : (⟨s.data.toList.toArray⟩ : ByteArray) = s := by obtain ⟨⟨l⟩⟩ := s; rfl
theorem ba_of {s : ByteArray} {l : List UInt8} (h : s.data.toList = l) : s = ⟨l.toArray⟩ := by rw [<- h, ba_eta]
theorem ex_ba (s : ByteArray) (a b : Nat) : s.extract a b = ⟨((s.data.toList.drop a).take (b - a)).toArray⟩ := ba_of (extract_data s a b)
theorem sz_eq (s : ByteArray) : s.size = s.data.toList.length := Go.Lib.size_eq s
theorem ib_lt : ∀ (l : List UInt8) (c : UInt8), indexByte l c < (l.length : Int)
 | [], c => by unfold indexByte; decide
 | b :: l, c => by
  have := ib_lt l c
  unfold indexByte
  rw [List.length_cons]
  split
  ·omega
  ·split <;> omega
theorem tl_eq (s : ByteArray) : s.toList = s.data.toList := ByteArray.toList_eq s
theorem ib_pm (b : UInt8) : decide (indexByte [43, 45] b >= 0) = isPM b := by
 by_cases h1 : b = 43
 ·subst h1; rfl
 ·by_cases h2 : b = 45
  ·subst h2; rfl
  ·rw [ib_none (by simp [h1, h2])]
   unfold isPM
   rw [beq_eq_false_iff_ne.2 h1, beq_eq_false_iff_ne.2 h2]
   rfl
theorem byte_u8 (s : ByteArray) (i : Nat) : (byteA s i).toNat.toUInt8 = s.data.toList.getD i 0 := by
 unfold byteA
 simp
theorem byte_rng (s : ByteArray) (i : Nat) : 0 <= byteA s i /\ byteA s i <= 255 := by
 unfold byteA
 have := UInt8.toNat_lt (s.data.toList.getD i 0)
 omega
theorem pmX_byte (s : ByteArray) (i : Nat) : pmX (byteA s i) = isPM (s.data.toList.getD i 0) := by
 unfold pmX isPM byteA
 generalize s.data.toList.getD i 0 = b
 have k : ∀ n : UInt8, (((b.toNat : Nat) : Int) == ((n.toNat : Nat) : Int)) = (b == n) := fun n => by
  rw [Bool.eq_iff_iff, beq_iff_eq, beq_iff_eq]
  exact ⟨fun h => UInt8.toNat_inj.1 (Int.ofNat.inj h), fun h => by rw [h]⟩
 have k1 := k 43
 have k2 := k 45
 rw [<- k1, <- k2]
 rfl
def ascL (l : List UInt8) : Bool := l.all fun b => Nat.blt b.toNat 128
theorem asc_at {l : List UInt8} (h : ascL l = true) {i : Nat} (hi : i < l.length) : (l.getD i 0).toNat < 128 := by
 unfold ascL at h
 have := List.all_eq_true.1 h (l[i]) (List.getElem_mem hi)
 have h2 : Nat.ble (l[i].toNat + 1) 128 = true := this
 have := Nat.le_of_ble_eq_true h2
 rw [List.getD_eq_getElem?_getD, List.getElem?_eq_getElem hi]
 exact this
theorem byte_ex {s : ByteArray} {i : Nat} (h0 : 0 < i) (hi : i <= s.size) : (s.extract 0 i).size = i /\ byteA (s.extract 0 i) (i - 1) = byteA s (i - 1) := by
 have e := ex_ba s 0 i
 have hl := sz_eq s
 constructor
 ·rw [e, ba_size]
  simp
  omega
 ·unfold byteA
  rw [e]
  simp only [List.drop_zero, Nat.sub_zero, List.getD_eq_getElem?_getD]
  rw [List.getElem?_take_of_lt (by omega)]
end Go.Ev
/- Strings as lists of bytes: lengths. -/
namespace Go.Ev
open Go.Lib
theorem ts_pre (s p : List UInt8) : ∃ n, trimSuffix s p = s.take n := by
 unfold trimSuffix
 split
 ·exact ⟨_, rfl⟩
 ·exact ⟨s.length, by simp⟩
theorem tp_suf (s p : List UInt8) : ∃ n, trimPrefix s p = s.drop n := by
 unfold trimPrefix
 split
 ·exact ⟨_, rfl⟩
 ·exact ⟨0, by simp⟩
theorem tp_len (s p : List UInt8) : (trimPrefix s p).length <= s.length := by
 obtain ⟨n, e⟩ := tp_suf s p
 rw [e, List.length_drop]
 omega
theorem ts_len (s p : List UInt8) : (trimSuffix s p).length <= s.length := by
 obtain ⟨n, e⟩ := ts_pre s p
 rw [e, List.length_take]
 omega
theorem asc_sub {l m : List UInt8} (h : ascL l = true) (hm : ∀ b ∈ m, b ∈ l) : ascL m = true := by
 unfold ascL at *
 exact List.all_eq_true.2 fun b hb => List.all_eq_true.1 h b (hm b hb)
theorem ts_asc {l : List UInt8} (h : ascL l = true) (p : List UInt8) : ascL (trimSuffix l p) = true := by
 obtain ⟨n, e⟩ := ts_pre l p
 rw [e]
 exact asc_sub h fun b hb => List.mem_of_mem_take hb
theorem tp_asc {l : List UInt8} (h : ascL l = true) (p : List UInt8) : ascL (trimPrefix l p) = true := by
 obtain ⟨n, e⟩ := tp_suf l p
 rw [e]
 exact asc_sub h fun b hb => List.mem_of_mem_drop hb
theorem tr_len (s : ByteArray) (h : ascL s.data.toList = true) : s.size = s.data.toList.length /\ ascL (trimSuffix s.data.toList [114]) = true /\ (trimSuffix s.data.toList [114]).length <= s.size :=
 ⟨sz_eq s, ts_asc h _, by rw [sz_eq]; exact ts_len _ _⟩
theorem lastF_bd (l : List UInt8) : ∀ i, -1 <= lastF l i /\ lastF l i < (i : Int)
 | 0 => by unfold lastF; decide
 | i + 1 => by
  have := lastF_bd l i
  rw [show lastF l (i + 1) = if isPM (l.getD i 0) then (i : Int) else lastF l i from rfl]
  split <;> omega
theorem lastPM_bd (l : List UInt8) : -1 <= lastPM l /\ lastPM l < (l.length : Int) := lastF_bd l l.length
theorem bl_le : ∀ f x, bitLenAux f x <= f
 | 0, x => by unfold bitLenAux; exact Nat.le_refl _
 | f + 1, x => by
  have := bl_le f (x / 2)
  unfold bitLenAux
  split <;> omega
theorem body_in (l : List UInt8) : (rdBody l).length <= l.length /\ ∀ b ∈ rdBody l, b ∈ l := by
 unfold rdBody
 cases decide (rdI l >= 0)
 ·exact ⟨Nat.le_refl _, fun b h => h⟩
 ·exact ⟨by rw [cond_true, List.length_take]; omega, fun b h => List.mem_of_mem_take h⟩
theorem pow_len (l : List UInt8) : (rdPow l).length <= l.length := by
 unfold rdPow
 cases decide (rdI l >= 0)
 ·simp
 ·rw [cond_true, List.length_drop]; omega
def rdX (l : List UInt8) : N3 := ⟨rdA l, rdB l, rdK l⟩
def rdY (l : List UInt8) : Bool := validB (rdX l) && (numL (rdA l) (rdB l) (rdK l).toNat == l)
def rdV (l : List UInt8) : AV := .tup [.agg [iv (cond (rdY l) (rdA l) 0), iv (cond (rdY l) (rdB l) 0), iv (cond (rdY l) (rdK l) 0)], bv (rdY l)]
theorem rdK_wr {l : List UInt8} (h : rdI l >= 0) : wr ((bitLen (IntKind.u64.wrap (pN (rdPow l))).toNat : Int) - 1) = rdK l := by
 have := bl_le 64 (IntKind.u64.wrap (pN (rdPow l))).toNat
 have hb : bitLen (IntKind.u64.wrap (pN (rdPow l))).toNat <= 64 := this
 unfold rdK
 rw [decide_eq_true h, cond_true, wr_in (by omega) (by omega), IntKind.wrap_u64]
theorem rd_back {x : N3} (h : validB x = true) : rdO (numL x.a x.b x.k.toNat) = true /\ rdY (numL x.a x.b x.k.toNat) = true /\ rdX (numL x.a x.b x.k.toNat) = x := by
 obtain ⟨ha, hb, hk, _⟩ := validB_iff.1 h
 obtain ⟨r1, r2, r3, r4⟩ := read_num (a := x.a) (b := x.b) (k := x.k.toNat) (by omega) (by omega) (by omega)
 have hX : rdX (numL x.a x.b x.k.toNat) = x := by
  unfold rdX
  rw [r1, r2, r3]
  cases x
  simp only [N3.mk.injEq, true_and]
  simp only at hk
  omega
 refine ⟨r4, ?_, hX⟩
 unfold rdY
 rw [hX, h, r1, r2, r3, Int.toNat_natCast, beq_self_eq_true]
 rfl
theorem num_small {x : N3} (h : validB x = true) : (numL x.a x.b x.k.toNat).length <= 200 /\ ascL (numL x.a x.b x.k.toNat) = true := by
 obtain ⟨ha, hb, hk, _⟩ := validB_iff.1 h
 have la := itoa_len (v := x.a) (by omega)
 have lb := itoa_len (v := x.b) (by omega)
 have ab := absI_eq x.b
 have lc := itoa_len (v := absI x.b) (by omega)
 have lp := itoa_len (pow_nb hk.1 (show x.k <= 30 by omega))
 have li : (innL x.a x.b).length <= 100 := by
  by_cases b0 : x.b = 0
  ·rw [b0, inn_0]; omega
  ·by_cases a0 : x.a = 0
   ·rw [a0, inn_a b0]; simp; omega
   ·rw [inn_ab a0 b0]
    have : (sgnL x.b).length = 1 := by unfold sgnL; cases decide (x.b < 0) <;> rfl
    simp only [List.length_append, List.length_cons, List.length_nil, this]
    omega
 have lcor : ∀ kz, (corL x.a x.b kz).length <= 102 := fun kz => by
  unfold corL
  cases (!(x.a == 0) && (!(x.b == 0) && !kz)) <;> simp only [cond_true, cond_false, List.length_append, List.length_cons, List.length_nil] <;> omega
 have asc : ∀ b : UInt8, b = 45 \/ isDg b \/ b = 114 \/ b = 43 \/ b = 40 \/ b = 41 \/ b = 47 -> Nat.blt b.toNat 128 = true := fun b hb => by
  refine Nat.ble_eq_true_of_le ?_
  rcases hb with rfl | hb | rfl | rfl | rfl | rfl | rfl <;> first | decide | (unfold isDg at hb; omega)
 have acor : ∀ kz, ∀ b ∈ corL x.a x.b kz, Nat.blt b.toNat 128 = true := fun kz b hb => asc b (by
  rcases cor_byte x.a x.b kz b hb with h | h | h | h | h | h
  ·exact .inl h
  ·exact .inr (.inl h)
  ·exact .inr (.inr (.inl h))
  ·exact .inr (.inr (.inr (.inl h)))
  ·exact .inr (.inr (.inr (.inr (.inl h))))
  ·exact .inr (.inr (.inr (.inr (.inr (.inl h))))))
 unfold numL ascL
 cases (x.k.toNat == 0)
 ·rw [cond_false]
  have l2 := lcor false
  refine ⟨by simp only [List.length_append, List.length_cons, List.length_nil]; omega, List.all_eq_true.2 fun b hb => ?_⟩
  rcases List.mem_append.1 hb with hb | hb
  ·exact acor false b hb
  ·rcases List.mem_append.1 hb with hb | hb
   ·simp only [List.mem_singleton] at hb
    exact asc b (by simp [hb])
   ·rcases itoa_byte _ b hb with h | h
    ·exact asc b (.inl h)
    ·exact asc b (.inr (.inl h))
 ·rw [cond_true]
  have l2 := lcor true
  exact ⟨by omega, List.all_eq_true.2 (acor true)⟩
end Go.Ev
/- The laws of addition and multiplication, and the text of a number: what the statement on numbers asks, in plain Lean. -/
namespace Go.Ev
open Go.Lib
end Go.Ev
/- Recursive functions: a contract by rounds; decimal digits. -/
namespace Go.Ev
open Go.Lib
end Go.Ev
/- Lists of texts: joined. -/
namespace Go.Ev
open Go.RowKit
def strsC (n : Nat) (c : NNI) : List (List UInt8) := (List.range n).map fun i => (decS (c i 0)).data.toList
def joinS : Ctr := fun
 | [.arr n [.str] c, .val (.string sep)] => some (Nat.ble n 140737488355328 && Nat.ble (Lib.join (strsC n c) sep.data.toList).length 140737488355328, .val (.string ⟨(Lib.join (strsC n c) sep.data.toList).toArray⟩))
 | _ => none
section
variable {P : Program} {GL : Nat -> AV}
theorem Meets.join {f : FuncId} (hf : ∃ fn, P.funcs[f]? = some fn /\ (fn.name == "runtime.NumGoroutine") = false /\ fn.body.isSome = true)
  (h0 : ∀ (a : Option Addr) (c : Nat) (sep : ByteArray) (w : World), Calls P f #[.slice a 0 c, .string sep] w fun e w' => e = .returned (.string ⟨#[]⟩) /\ w' = w)
  (h : ∀ (bk o c : Nat) (xs : List ByteArray) (sep : ByteArray) (w : World), (∀ (j : Nat) x, xs[j]? = some x -> w.cell? ⟨bk, o + j, none⟩ = some (.string x)) -> bk < w.heap.size -> xs.length <= 140737488355328 -> xs.length <= c ->
   (Lib.join (xs.map (·.data.toList)) sep.data.toList).length <= 140737488355328 ->
   Calls P f #[.slice (some ⟨bk, o, none⟩) xs.length c, .string sep] w fun e w' => e = .returned (.string ⟨(Lib.join (xs.map (·.data.toList)) sep.data.toList).toArray⟩) /\ Below w.heap.size w w') : Meets P GL f joinS := by
 refine ⟨hf, fun args x hs w B vs β hB hG hl hargs hinj => ?_⟩
 clear hinj
 unfold joinS at hs
 split at hs
 ·rename_i n c sep
  simp only [Option.some.injEq, Prod.mk.injEq, Bool.and_eq_true] at hs
  obtain ⟨⟨hn, hlen⟩, rfl⟩ := hs
  have hn := Nat.le_of_ble_eq_true hn
  have hlen := Nat.le_of_ble_eq_true hlen
  obtain ⟨v0, v1, rfl⟩ : ∃ v0 v1, vs = [v0, v1] := by
   match vs, hl with
   | [a, b], _ => exact ⟨a, b, rfl⟩
  have e0 : Rep w B (.arr n [.str] c) v0 := hargs 0 (by simp)
  have e1 : Rep w B (.val (.string sep)) v1 := hargs 1 (by simp)
  have key : ∀ a v, Rep w B (.val a) v -> v = a := fun a v h => by cases h; rfl
  have e1 := key _ _ e1
  subst e1
  have go : Calls P f ⟨[v0, .string sep]⟩ w fun e w' => e = .returned (.string ⟨(Lib.join (strsC n c) sep.data.toList).toArray⟩) /\ Below w.heap.size w w' := by
   cases e0 with
   | arr _ _ _ _ e0 =>
    cases e0 with
    | nil _ _ a cap =>
     refine (h0 a cap sep w).mono ?_
     rintro e w' ⟨rfl, rfl⟩
     exact ⟨rfl, Below.refl _ _⟩
    | lst _ _ _ b o cap g hBb hcap hk hc hr =>
     have hx : strsC n c = ((List.range n).map fun i => decS (c i 0)).map (·.data.toList) := by
      unfold strsC
      rw [List.map_map]
      rfl
     have hll : ((List.range n).map fun i => decS (c i 0)).length = n := by simp
     have := h b o cap ((List.range n).map fun i => decS (c i 0)) sep w (fun j x hj => by
      have hjn : j < n := by
       have := (List.getElem?_eq_some_iff.1 hj).1
       simpa using this
      rw [List.getElem?_map, List.getElem?_range hjn] at hj
      cases hj
      have h1 := hc j 0 hjn (by decide)
      have h2 := key _ _ (hr j 0 hjn (by decide))
      rw [h2] at h1
      have e : o + j = o + j * ([CK.str] : List CK).length + 0 := by show _ = o + j * 1 + 0; omega
      rw [e]
      exact h1) (hB b hBb) (by rw [hll]; exact hn) (by rw [hll]; exact hcap) (by rw [<- hx]; exact hlen)
     rw [hll, <- hx] at this
     exact this
  refine go.mono ?_
  rintro e w' ⟨rfl, hb⟩
  refine ⟨_, rfl, ⟨hb.os, hb.tape, hb.output, hb.size, fun k hk _ => hb.block k hk⟩, fun b => B b, fun b hb' => ⟨.inl hb', Nat.lt_of_lt_of_le (hB b hb') hb.size⟩, ⟨0, .val _⟩, fun i hi => ?_⟩
  match i, hi with
  | 0, _ => trivial
  | 1, _ => trivial
 ·cases hs
end
open Go.Lib
end Go.Ev
/- Certificates' texts: what the checks give. -/
namespace Go.Ev
open Go.RowKit Go.Lib
end Go.Ev
/- Texts of points and motions: what is written is read back. -/
namespace Go.Ev
open Go.RowKit Go.Lib
def n3L (x : N3) : List UInt8 := numL x.a x.b x.k.toNat
def ptL (p : P2) : List UInt8 := ((([40] ++ n3L p.x) ++ [44]) ++ n3L p.y) ++ [41]
def mtL (m : M8) : List UInt8 := (([cond m.f 102 114] ++ itoa m.t) ++ [32]) ++ ptL m.s
theorem num_byte (a b : Int) (k : Nat) : ∀ x ∈ numL a b k, x ≠ 44 /\ x ≠ 32 := by
 have hb : ∀ kz, ∀ x ∈ corL a b kz, x ≠ 44 /\ x ≠ 32 := fun kz x hx => by
  rcases cor_byte a b kz x hx with rfl | h | rfl | rfl | rfl | rfl
  ·decide
  ·exact ⟨dg_ne h (by unfold isDg; decide), dg_ne h (by unfold isDg; decide)⟩
  ·decide
  ·decide
  ·decide
  ·decide
 intro x hx
 unfold numL at hx
 cases hk : k == 0 with
 | true => rw [hk, cond_true] at hx; exact hb _ x hx
 | false =>
  rw [hk, cond_false] at hx
  rcases List.mem_append.1 hx with h | h
  ·exact hb _ x h
  ·rcases List.mem_append.1 h with h | h
   ·rw [List.mem_singleton] at h; subst h; decide
   ·rcases itoa_byte _ x h with rfl | h
    ·decide
    ·exact ⟨dg_ne h (by unfold isDg; decide), dg_ne h (by unfold isDg; decide)⟩
def cutF (s p : List UInt8) : Bool := decide (indexByte s (p.headD 0) >= 0)
def cutA (s p : List UInt8) : List UInt8 := cond (cutF s p) (s.take (indexByte s (p.headD 0)).toNat) s
def cutR (s p : List UInt8) : List UInt8 := cond (cutF s p) (s.drop ((indexByte s (p.headD 0)).toNat + 1)) []
theorem cut_at {l m : List UInt8} {c : UInt8} (h : c ∉ l) : cutF (l ++ c :: m) [c] = true /\ cutA (l ++ c :: m) [c] = l /\ cutR (l ++ c :: m) [c] = m := by
 have e : indexByte (l ++ c :: m) (([c] : List UInt8).headD 0) = (l.length : Int) := ib_at h
 have hf : cutF (l ++ c :: m) [c] = true := by unfold cutF; rw [e]; simp
 refine ⟨hf, ?_, ?_⟩
 ·unfold cutA
  rw [hf, e, cond_true, Int.toNat_natCast, List.take_left]
 ·unfold cutR
  rw [hf, e, cond_true, Int.toNat_natCast, List.drop_append]
  simp
theorem hasPre_yes (l : List UInt8) (c : UInt8) : hasPrefix (c :: l) [c] = true := by
 unfold hasPrefix
 simp
theorem hasSuf_yes (l : List UInt8) (c : UInt8) : hasSuffix (l ++ [c]) [c] = true := by rw [hasSuf_snoc]; simp
theorem pt_parts (p : P2) : hasPrefix (ptL p) [40] = true /\ trimPrefix (ptL p) [40] = ((n3L p.x ++ [44]) ++ n3L p.y) ++ [41] /\ hasSuffix (((n3L p.x ++ [44]) ++ n3L p.y) ++ [41]) [41] = true /\
  trimSuffix (((n3L p.x ++ [44]) ++ n3L p.y) ++ [41]) [41] = (n3L p.x ++ [44]) ++ n3L p.y /\ cutF ((n3L p.x ++ [44]) ++ n3L p.y) [44] = true /\ cutA ((n3L p.x ++ [44]) ++ n3L p.y) [44] = n3L p.x /\ cutR ((n3L p.x ++ [44]) ++ n3L p.y) [44] = n3L p.y := by
 have e : ptL p = 40 :: (((n3L p.x ++ [44]) ++ n3L p.y) ++ [41]) := by unfold ptL; simp only [List.append_assoc, List.singleton_append, List.cons_append, List.nil_append]
 have e2 : (n3L p.x ++ [44]) ++ n3L p.y = n3L p.x ++ 44 :: n3L p.y := by simp only [List.append_assoc, List.singleton_append]
 obtain ⟨c1, c2, c3⟩ := cut_at (l := n3L p.x) (m := n3L p.y) (c := 44) (fun h => (num_byte _ _ _ _ h).1 rfl)
 refine ⟨by rw [e]; exact hasPre_yes _ _, by rw [e]; exact trimPre_yes _ _, hasSuf_yes _ _, trimSuf_yes _ _, ?_, ?_, ?_⟩
 ·rw [e2]; exact c1
 ·rw [e2]; exact c2
 ·rw [e2]; exact c3
theorem num_back {x : N3} (h : validB x = true) : rdO (n3L x) = true /\ rdY (n3L x) = true /\ rdX (n3L x) = x := rd_back h
theorem num_len {x : N3} (h : validB x = true) : (n3L x).length <= 200 /\ ascL (n3L x) = true := num_small h
theorem num_inj {x y : N3} (hx : validB x = true) (hy : validB y = true) (h : n3L x = n3L y) : x = y := by
 rw [<- (num_back hx).2.2, <- (num_back hy).2.2, h]
theorem pt_inj {p q : P2} (hp : valP p = true) (hq : valP q = true) (h : ptL p = ptL q) : p = q := by
 unfold valP at hp hq
 rw [Bool.and_eq_true] at hp hq
 obtain ⟨_, a1, _, a2, _, a3, a4⟩ := pt_parts p
 obtain ⟨_, b1, _, b2, _, b3, b4⟩ := pt_parts q
 have e1 : ((n3L p.x ++ [44]) ++ n3L p.y) ++ [41] = ((n3L q.x ++ [44]) ++ n3L q.y) ++ [41] := by rw [<- a1, <- b1, h]
 have e2 : (n3L p.x ++ [44]) ++ n3L p.y = (n3L q.x ++ [44]) ++ n3L q.y := by rw [<- a2, <- b2, e1]
 have ex : p.x = q.x := num_inj hp.1 hq.1 (by rw [<- a3, <- b3, e2])
 have ey : p.y = q.y := num_inj hp.2 hq.2 (by rw [<- a4, <- b4, e2])
 cases p
 cases q
 exact congr (congrArg P2.mk ex) ey
theorem pt_len {p : P2} (hp : valP p = true) : (ptL p).length <= 403 := by
 unfold valP at hp
 rw [Bool.and_eq_true] at hp
 have h1 := (num_len hp.1).1
 have h2 := (num_len hp.2).1
 unfold ptL
 simp only [List.length_append, List.length_cons, List.length_nil]
 omega
theorem turn_dg {t : Int} (h : inB t 0 7 = true) : itoa t = [UInt8.ofNat (48 + t.toNat)] /\ (UInt8.ofNat (48 + t.toNat)).toNat = 48 + t.toNat := by
 rcases t8 h with rfl | rfl | rfl | rfl | rfl | rfl | rfl | rfl <;> exact ⟨by decide +kernel, by decide⟩
def mtH (m : M8) : List UInt8 := [cond m.f 102 114, UInt8.ofNat (48 + m.t.toNat)]
theorem mt_parts {m : M8} (h : m.valid = true) : mtL m = mtH m ++ 32 :: ptL m.s /\ cutF (mtL m) [32] = true /\ cutA (mtL m) [32] = mtH m /\ cutR (mtL m) [32] = ptL m.s := by
 have h' := h
 unfold M8.valid at h'
 rw [Bool.and_eq_true] at h'
 obtain ⟨d1, d2⟩ := turn_dg h'.1
 have hi := inB_iff.1 h'.1
 have e : mtL m = mtH m ++ 32 :: ptL m.s := by
  unfold mtL mtH
  rw [d1]
  simp only [List.append_assoc, List.singleton_append, List.cons_append, List.nil_append]
 have hn : (32 : UInt8) ∉ mtH m := fun hm => by
  unfold mtH at hm
  rcases List.mem_cons.1 hm with h1 | h1
  ·revert h1
   cases m.f <;> decide
  ·rw [List.mem_singleton] at h1
   have := congrArg UInt8.toNat h1
   rw [d2] at this
   have h32 : (32 : UInt8).toNat = 32 := rfl
   omega
 obtain ⟨c1, c2, c3⟩ := cut_at (m := ptL m.s) hn
 rw [e]
 exact ⟨rfl, c1, c2, c3⟩
theorem mt_inj {m k : M8} (hm : m.valid = true) (hk : k.valid = true) (h : mtL m = mtL k) : m = k := by
 obtain ⟨_, _, a1, a2⟩ := mt_parts hm
 obtain ⟨_, _, b1, b2⟩ := mt_parts hk
 have h1 : mtH m = mtH k := by rw [<- a1, <- b1, h]
 have h2 : ptL m.s = ptL k.s := by rw [<- a2, <- b2, h]
 unfold M8.valid at hm hk
 rw [Bool.and_eq_true] at hm hk
 have es := pt_inj hm.2 hk.2 h2
 unfold mtH at h1
 simp only [List.cons.injEq, and_true] at h1
 have i1 := inB_iff.1 hm.1
 have i2 := inB_iff.1 hk.1
 have et := congrArg UInt8.toNat h1.2
 rw [(turn_dg hm.1).2, (turn_dg hk.1).2] at et
 have ef : m.f = k.f := by
  have h3 := h1.1
  revert h3
  cases m.f <;> cases k.f <;> decide
 have et' : m.t = k.t := by omega
 cases m
 cases k
 simp only at es ef et'
 rw [es, ef, et']
theorem mt_len {m : M8} (hm : m.valid = true) : (mtL m).length <= 450 := by
 rw [(mt_parts hm).1]
 unfold M8.valid at hm
 rw [Bool.and_eq_true] at hm
 have := pt_len hm.2
 unfold mtH
 simp only [List.length_append, List.length_cons, List.length_nil]
 omega
open Classical in
noncomputable def isPt (s : List UInt8) : Bool := decide (∃ p : P2, valP p = true /\ ptL p = s)
open Classical in
noncomputable def ptOf (s : List UInt8) : P2 := if h : ∃ p : P2, valP p = true /\ ptL p = s then h.choose else ⟨z3, z3⟩
open Classical in
noncomputable def isMt (s : List UInt8) : Bool := decide (∃ m : M8, m.valid = true /\ mtL m = s)
open Classical in
noncomputable def mtOf (s : List UInt8) : M8 := if h : ∃ m : M8, m.valid = true /\ mtL m = s then h.choose else m0
open Classical in
theorem pt_ex {s : List UInt8} (h : isPt s = true) : valP (ptOf s) = true /\ ptL (ptOf s) = s := by
 have h := of_decide_eq_true h
 unfold ptOf
 rw [dif_pos h]
 exact h.choose_spec
open Classical in
theorem mt_ex {s : List UInt8} (h : isMt s = true) : (mtOf s).valid = true /\ mtL (mtOf s) = s := by
 have h := of_decide_eq_true h
 unfold mtOf
 rw [dif_pos h]
 exact h.choose_spec
open Classical in
theorem pt_of {p : P2} (h : valP p = true) : isPt (ptL p) = true /\ ptOf (ptL p) = p := by
 have h1 : isPt (ptL p) = true := decide_eq_true ⟨p, h, rfl⟩
 obtain ⟨h2, h3⟩ := pt_ex h1
 exact ⟨h1, pt_inj h2 h h3⟩
open Classical in
theorem mt_of {m : M8} (h : m.valid = true) : isMt (mtL m) = true /\ mtOf (mtL m) = m := by
 have h1 : isMt (mtL m) = true := decide_eq_true ⟨m, h, rfl⟩
 obtain ⟨h2, h3⟩ := mt_ex h1
 exact ⟨h1, mt_inj h2 h h3⟩
end Go.Ev
