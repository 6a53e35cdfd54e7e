/- From a row's readings to what the evaluator knows: structs that hold lists. -/
import Derived.Test.YtooikeeckoflpaaNumA
set_option linter.unusedVariables false
set_option linter.unusedSimpArgs false
namespace Go.Ev
open Go.RowKit
section
variable {H : Type} {enc : TypeId × Value → H} {P : Program} {w : World} {base : Nat} {spare : Nat → Bool} {held : Bool}
/-- A struct that came in: its cells, and each field read. -/
theorem open_struct {t : TypeId} {v : Value} {d : DataW H} {ps : List MemPlace} {fs : Array Field} (hu : P.underlying t = some (.struct fs)) {r : Reach} {b0 : Nat}
    (hv : Value.okWide P w r b0 t v) (h : DataW.Trod enc P w base spare held t v d ps) : ∃ cs : List Value, v = .agg ⟨cs⟩ ∧ cs.length = P.cellsOf t ∧
      ∃ fuel, ∀ (i : Nat) (f : Field), fs[i]? = some f → ∃ x, DataW.trod enc P w base spare held fuel f.type ((cs.drop f.offset).take (P.cellsOf f.type)) = some x := by
  unfold Value.okWide at hv
  rw [hu] at hv
  obtain ⟨⟨cs⟩, rfl, _, _⟩ := hv
  obtain ⟨fuel, hf⟩ := h
  obtain ⟨xs, n, _, _, h1, h2, h3⟩ := DataW.trod_struct hu hf
  refine ⟨cs, rfl, h1, n, fun i f hi => ?_⟩
  have hi' : i < fs.size := by
    rcases Nat.lt_or_ge i fs.size with h' | h'
    · exact h'
    · rw [Array.getElem?_eq_none h'] at hi; cases hi
  exact ⟨xs[i], (h3 i f hi).trans (List.getElem?_eq_getElem (by omega))⟩
theorem struct_at {fs : Array Field} {fuel : Nat} {cs : List Value} (hF : ∀ (i : Nat) (f : Field), fs[i]? = some f → ∃ x, DataW.trod enc P w base spare held fuel f.type ((cs.drop f.offset).take (P.cellsOf f.type)) = some x) (i ft off sz : Nat)
    (h : (fs[i]?).map (fun f => (f.type, f.offset)) = some (ft, off)) (hs : P.cellsOf ft = sz) : ∃ x, DataW.trod enc P w base spare held fuel ft ((cs.drop off).take sz) = some x := by
  rw [Option.map_eq_some_iff] at h
  obtain ⟨f, h1, h2⟩ := h
  cases h2
  obtain ⟨x, hx⟩ := hF i f h1
  exact ⟨x, hs ▸ hx⟩
theorem open_intC {t : TypeId} {k : IntKind} {cs : List Value} {x : DataW H × List MemPlace} {fuel : Nat} (ht : P.underlying t = some (.int k))
    (hf : DataW.trod enc P w base spare held fuel t cs = some x) : ∃ i : Int, cs = [.int k i] ∧ (Lit.int k i).wf = true := by
  cases fuel with
  | zero => simp [DataW.trod] at hf
  | succ n =>
    obtain ⟨i, h1, _, h2⟩ := DataW.trod_int ht hf
    exact ⟨i, h1, h2⟩
/-- A list of flat structs in a struct that came in. -/
theorem open_rowsC {t e : TypeId} {lk : List LK} {ks : List CK} {cs : List Value} {x : DataW H × List MemPlace} {fuel : Nat} {n0 : Nat} (ht : P.underlying t = some (.slice e)) (hk : flatK P n0 e = some lk) (hc : cksOf lk = some ks) (hsz : Nat.beq (P.cellsOf e) ks.length = true) (hk0' : Nat.beq ks.length 0 = false)
    (hf : DataW.trod enc P w base spare held fuel t cs = some x) : ∃ (v : Value) (n : Nat) (c : Nat → Nat → Int), cs = [v] ∧ n ≤ maxLen ∧ Rep w (fun b => b < w.heap.size) (.arr n ks c) v ∧
      ∀ i j k, i < n → j < ks.length → ks.getD j .bool = .int k → (Lit.int k (c i j)).wf = true := by
  have hsz := Nat.eq_of_beq_eq_true hsz
  rcases DataW.trod_slice ht hf with ⟨hcs, _⟩ | ⟨a, len, cap, elems, rest, m, _, hcs, _, _, hl, hm, hlen, hel, _, _⟩
  · subst hcs
    exact ⟨_, 0, fun _ _ => 0, rfl, Nat.zero_le _, .arr _ _ _ _ (.nil _ _ _ _), fun i j k hi => absurd hi (Nat.not_lt_zero _)⟩
  · subst hcs
    by_cases hn : len = 0
    · subst hn
      exact ⟨_, 0, fun _ _ => 0, rfl, Nat.zero_le _, .arr _ _ _ _ (.nil _ _ _ _), fun i j k hi => absurd hi (Nat.not_lt_zero _)⟩
    · have each : ∀ i, i < len → ∃ f : Nat → Int, ∀ j, j < ks.length → w.cell? ((a.add (i * ks.length)).add j) = some (mkCell (ks.getD j .bool) (f j)) ∧ ∀ k, ks.getD j .bool = .int k → (Lit.int k (f j)).wf = true := fun i hi => by
        have h1 := hel i hi
        rw [List.getElem?_eq_getElem (by omega), Option.bind_eq_some_iff] at h1
        obtain ⟨cs', h2, h3⟩ := h1
        obtain ⟨q1, q2⟩ := cells?_at h2
        obtain ⟨f1, _, _⟩ := trod_flat n0 e lk hk m cs' (elems[i]).1 (elems[i]).2 h3
        obtain ⟨f, f2⟩ := fits_ints hc f1
        rw [hsz] at q1 q2
        refine ⟨f, fun j hj => ?_⟩
        obtain ⟨g1, g2⟩ := f2 j hj
        refine ⟨?_, g2⟩
        rw [q2 j hj, ← g1]
        simp [List.getD, show j < cs'.length by omega]
      have hk0 : 0 < ks.length ∨ ks.length = 0 := by omega
      rcases hk0 with hk0 | hk0
      · have hb : a.block < w.heap.size ∧ a.spot = none := by
          obtain ⟨f, h1⟩ := each 0 (by omega)
          have h0 := (h1 0 hk0).1
          obtain ⟨b, o, sp⟩ := a
          have e0 : ((⟨b, o, sp⟩ : Addr).add (0 * ks.length)).add 0 = ⟨b, o, sp⟩ := by simp [Addr.add]
          rw [e0] at h0
          constructor
          · rcases Nat.lt_or_ge b w.heap.size with h' | h'
            · exact h'
            · simp [World.cell?, Array.getElem?_eq_none h'] at h0
          · cases sp with
            | none => rfl
            | some s =>
              exfalso
              simp only [World.cell?] at h0
              split at h0 <;> simp at h0
        obtain ⟨b, o, sp⟩ := a
        obtain ⟨hb, rfl⟩ := hb
        let c : Nat → Nat → Int := fun i => if hi : i < len then Classical.choose (each i hi) else fun _ => 0
        have hcc : ∀ i, (hi : i < len) → ∀ j, j < ks.length → w.cell? (((⟨b, o, none⟩ : Addr).add (i * ks.length)).add j) = some (mkCell (ks.getD j .bool) (c i j)) ∧ ∀ k, ks.getD j .bool = .int k → (Lit.int k (c i j)).wf = true := fun i hi j hj => by
          have := Classical.choose_spec (each i hi) j hj
          simp only [c, dif_pos hi]
          exact this
        refine ⟨_, len, c, rfl, by omega, .arr _ _ _ _ (.lst _ _ _ b o cap (fun i j => mkCell (ks.getD j .bool) (c i j)) hb hl (fun i hi => mkRow_length _ _) (fun i j hi hj => ?_) (fun i j hi hj => ?_)), fun i j k hi hj => (hcc i hi j hj).2 k⟩
        · have := (hcc i hi j hj).1
          rw [addr_add, addr_add] at this
          exact this
        · rw [mkRow_getD _ _ _ hj]; exact .val _
      · rw [hk0] at hk0'; cases hk0'
end
end Go.Ev
namespace Go.Ev
theorem wf_rng {x : Int} (h : (Lit.int .i64 x).wf = true) : inB x (-9223372036854775808) 9223372036854775807 = true := by
  simp only [Lit.wf, IntKind.min, IntKind.max, Bool.and_eq_true, decide_eq_true_eq] at h
  simp only [inB, Bool.and_eq_true, decide_eq_true_eq]
  simpa [IntKind.bits, IntKind.signed] using h
end Go.Ev
namespace Go.Ev
theorem len1 {α : Type} {l : List α} (h : l.length = 1) : ∃ a0, l = [a0] := match l, h with
  | [a0], _ => ⟨a0, rfl⟩
theorem len2 {α : Type} {l : List α} (h : l.length = 2) : ∃ a0 a1, l = [a0, a1] := match l, h with
  | [a0, a1], _ => ⟨a0, a1, rfl⟩
theorem len3 {α : Type} {l : List α} (h : l.length = 3) : ∃ a0 a1 a2, l = [a0, a1, a2] := match l, h with
  | [a0, a1, a2], _ => ⟨a0, a1, a2, rfl⟩
theorem len4 {α : Type} {l : List α} (h : l.length = 4) : ∃ a0 a1 a2 a3, l = [a0, a1, a2, a3] := match l, h with
  | [a0, a1, a2, a3], _ => ⟨a0, a1, a2, a3, rfl⟩
theorem len5 {α : Type} {l : List α} (h : l.length = 5) : ∃ a0 a1 a2 a3 a4, l = [a0, a1, a2, a3, a4] := match l, h with
  | [a0, a1, a2, a3, a4], _ => ⟨a0, a1, a2, a3, a4, rfl⟩
theorem len6 {α : Type} {l : List α} (h : l.length = 6) : ∃ a0 a1 a2 a3 a4 a5, l = [a0, a1, a2, a3, a4, a5] := match l, h with
  | [a0, a1, a2, a3, a4, a5], _ => ⟨a0, a1, a2, a3, a4, a5, rfl⟩
theorem len7 {α : Type} {l : List α} (h : l.length = 7) : ∃ a0 a1 a2 a3 a4 a5 a6, l = [a0, a1, a2, a3, a4, a5, a6] := match l, h with
  | [a0, a1, a2, a3, a4, a5, a6], _ => ⟨a0, a1, a2, a3, a4, a5, a6, rfl⟩
end Go.Ev
