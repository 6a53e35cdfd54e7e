/- From a listed variable's reading to its cells: arrays and structs of whole numbers. -/
import Derived.Test.YtlcopddgplbdhaaGreatDoorEw
import Derived.LaidLaws
import Derived.LaidHandle
import Derived.MakeChecks
import Derived.OpenShut
set_option linter.unusedVariables false
set_option linter.unusedSimpArgs false
namespace Go.Ev
open Go.RowKit
section
variable {H : Type}
def fieldsD (f : TypeId -> DataW H -> Option (List Value)) (size : TypeId -> Nat) (off : Nat) : List Field -> List (DataW H) -> Option (List Value)
 | [], [] => some []
 | fd :: fs, d :: ds => match Nat.beq fd.offset off, f fd.type d with
  | true, some l => match fieldsD f size (off + size fd.type) fs ds with
   | some ls => some (l ++ ls)
   | none => none
  | _, _ => none
 | _, _ => none
def elemsD (f : DataW H -> Option (List Value)) : List (DataW H) -> Option (List Value)
 | [] => some []
 | d :: ds => match f d with
  | some l => match elemsD f ds with
   | some ls => some (l ++ ls)
   | none => none
  | none => none
def cellsD (P : Program) : Nat -> TypeId -> DataW H -> Option (List Value)
 | 0, _, _ => none
 | n + 1, t, d => match P.underlying t with
  | some (.int _) => match d with
   | .lit (.int k v) => some [.int k v]
   | _ => none
  | some .string => match d with
   | .lit (.string s) => some [.string ⟨s.toArray⟩]
   | _ => none
  | some (.struct fs) => match d with
   | .agg ds => match Nat.beq (sumK P.cellsOf fs.toList) (P.cellsOf t) with
    | true => fieldsD (cellsD P n) P.cellsOf 0 fs.toList ds
    | false => none
   | _ => none
  | some (.array m e) => match d with
   | .agg ds => match Nat.beq (m * P.cellsOf e) (P.cellsOf t) with
    | true => elemsD (cellsD P n e) ds
    | false => none
   | _ => none
  | _ => none
variable {enc : TypeId × Value -> H} {P : Program} {w : World} {base : Nat} {spare : Nat -> Bool} {held : Bool}
theorem trod_cells : ∀ (n : Nat) (t : TypeId) (d : DataW H) (l : List Value), cellsD P n t d = some l -> ∀ (fuel : Nat) (cs : List Value) (ps : List MemPlace),
  DataW.trod enc P w base spare held fuel t cs = some (d, ps) -> cs = l
 | 0, _, _, _, h, _, _, _, _ => by cases h
 | n + 1, t, d, l, h, 0, cs, ps, hd => by simp [DataW.trod] at hd
 | n + 1, t, d, l, h, fuel + 1, cs, ps, hd => by
  unfold cellsD at h
  split at h
  ·rename_i k hu
   obtain ⟨x, rfl, hx, hw⟩ := DataW.trod_int hu hd
   cases hx
   cases h
   rfl
  ·rename_i hu
   obtain ⟨s, rfl, hx, _⟩ := DataW.trod_string hu hd
   cases hx
   cases h
   rfl
  ·rename_i fs hu
   split at h
   ·rename_i ds
    split at h
    ·rename_i hsz
     have hsz' := Nat.eq_of_beq_eq_true hsz
     unfold DataW.trod at hd
     rw [hu] at hd
     simp only at hd
     split at hd
     ·rename_i hlen
      simp only [Option.map_eq_some_iff, Prod.mk.injEq, DataW.agg.injEq] at hd
      obtain ⟨xs, hxs, hdd, hps⟩ := hd
      have key : ∀ (fl : List Field) (off : Nat) (ls : List Value) (ys : List (DataW H × List MemPlace)), fieldsD (cellsD P n) P.cellsOf off fl (ys.map (·.1)) = some ls ->
        (fl.mapM fun f => DataW.trod enc P w base spare held fuel f.type ((cs.drop f.offset).take (P.cellsOf f.type))) = some ys -> off + sumK P.cellsOf fl = cs.length ->
        cs.drop off = ls := by
       intro fl
       induction fl with
       | nil =>
        intro off ls ys h1 h2 h3
        simp only [List.mapM_nil] at h2
        cases h2
        simp only [List.map_nil, fieldsD, Option.some.injEq] at h1
        subst h1
        simp only [sumK] at h3
        exact List.drop_eq_nil_of_le (by omega)
       | cons fd fl ih =>
        intro off ls ys h1 h2 h3
        rw [List.mapM_cons] at h2
        simp only [Option.bind_eq_bind, Option.bind_eq_some_iff, Option.pure_def, Option.some.injEq] at h2
        obtain ⟨y, hy, ys', hys, rfl⟩ := h2
        rw [List.map_cons] at h1
        unfold fieldsD at h1
        split at h1
        ·rename_i l1 ho hl1
         split at h1
         ·rename_i l2 hl2
          cases h1
          have ho' := Nat.eq_of_beq_eq_true ho
          simp only [sumK] at h3
          obtain ⟨d', p'⟩ := y
          rw [ho'] at hy
          have f1 := trod_cells n fd.type d' l1 hl1 fuel _ p' hy
          have f2 := ih _ _ _ hl2 hys (by omega)
          have e : cs.drop off = (cs.drop off).take (P.cellsOf fd.type) ++ cs.drop (off + P.cellsOf fd.type) := by
           rw [<- List.drop_drop, List.take_append_drop]
          rw [e, f1, f2]
         ·cases h1
        ·cases h1
      have := key fs.toList 0 l xs (by rw [hdd]; exact h) hxs (by omega)
      simpa using this
     ·cases hd
    ·cases h
   ·cases h
  ·rename_i m e hu
   split at h
   ·rename_i ds
    split at h
    ·rename_i hsz
     have hsz' := Nat.eq_of_beq_eq_true hsz
     obtain ⟨xs, m1, hm1, hx, hl, hn, hel⟩ := DataW.trod_array hu hd
     simp only [Prod.mk.injEq, DataW.agg.injEq] at hx
     have key : ∀ (r : List (DataW H)) (i : Nat) (ls : List Value), ds.drop i = r -> i + r.length = m -> elemsD (cellsD P n e) r = some ls -> cs.drop (i * P.cellsOf e) = ls := by
      intro r
      induction r with
      | nil =>
       intro i ls h1 h2 h3
       simp only [elemsD, Option.some.injEq] at h3
       subst h3
       simp only [List.length_nil, Nat.add_zero] at h2
       subst h2
       exact List.drop_eq_nil_of_le (by omega)
      | cons y r ih =>
       intro i ls h1 h2 h3
       unfold elemsD at h3
       split at h3
       ·rename_i l1 hl1
        split at h3
        ·rename_i l2 hl2
         cases h3
         simp only [List.length_cons] at h2
         have hi : i < m := by omega
         have hi' : i < xs.length := by omega
         have hy : y = (xs[i]).1 := by
          have hz : ds[i]? = some y := by
           have : (ds.drop i)[0]? = some y := by rw [h1]; rfl
           simpa using this
          rw [hx.1] at hz
          simp [List.getElem?_map, List.getElem?_eq_getElem hi'] at hz
          exact hz.symm
         have ht := hel i hi
         rw [List.getElem?_eq_getElem hi'] at ht
         have f1 := trod_cells n e y l1 hl1 m1 _ (xs[i]).2 (by rw [ht, hy])
         have f2 := ih (i + 1) l2 (by rw [<- List.drop_drop, h1]; rfl) (by omega) hl2
         have e' : cs.drop (i * P.cellsOf e) = (cs.drop (i * P.cellsOf e)).take (P.cellsOf e) ++ cs.drop ((i + 1) * P.cellsOf e) := by
          rw [Nat.add_mul, Nat.one_mul, <- List.drop_drop, List.take_append_drop]
         rw [e', f1, f2]
        ·cases h3
       ·cases h3
     have hlen : ds.length = m := by rw [hx.1, List.length_map]; exact hn
     have := key ds 0 l rfl (by omega) h
     simpa using this
    ·cases h
   ·cases h
  ·cases h
end
end Go.Ev
