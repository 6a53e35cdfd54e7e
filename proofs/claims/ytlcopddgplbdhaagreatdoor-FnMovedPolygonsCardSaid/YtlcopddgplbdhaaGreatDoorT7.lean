/- Contracts of the program's functions, by the evaluator. -/
import Derived.Test.YtlcopddgplbdhaaGreatDoorT6
import Derived.Test.YtlcopddgplbdhaaGreatDoorPlS
namespace Go.Proofs.YtlcopddgplbdhaaGreatDoor
open Go.Ev Go.RowKit
set_option linter.unusedVariables false
set_option linter.unusedSimpArgs false
set_option maxRecDepth 100000
-- strings.CutPrefix
noncomputable def s48 : Ctr := fun
 | [.val (.string s), .val (.string p)] => some (true, .tup [.val (.string ⟨(Go.Lib.trimPrefix s.data.toList p.data.toList).toArray⟩), bv (Go.Lib.hasPrefix s.data.toList p.data.toList)])
 | _ => none
theorem m48 : MT 48 s48 := by
 refine Meets.shelf ⟨_, Tryz.func48, by kernel_rfl, by kernel_rfl⟩ fun args x h => ?_
 unfold s48 at h
 split at h
 ·rename_i s p
  simp only [Option.some.injEq, Prod.mk.injEq, Bool.and_eq_true, beq_iff_eq, decide_eq_true_eq] at h
  obtain ⟨hp, rfl⟩ := h
  refine ⟨[.string s, .string p], .tuple #[.string ⟨(Go.Lib.trimPrefix s.data.toList p.data.toList).toArray⟩, .bool (Go.Lib.hasPrefix s.data.toList p.data.toList)], rfl, rfl, fun w B hG => ?_⟩
  refine (show Calls Tryz.prog _ _ w _ from Any.strings_CutPrefix Tryz.lays103 s p w).mono ?_
  rintro e w' ⟨rfl, rfl⟩
  exact ⟨rfl, Below.refl _ _⟩
 ·cases h
noncomputable abbrev Γ136 : LC := (48, s48) :: Γ135
theorem G136 : SD Γ136 := G135.cons m48
-- internal/stringslite.Cut
noncomputable def s47g : Ctr := fun
 | [.val (.string s), .val (.string p)] => some (Nat.beq p.size 1 && Nat.ble s.size 1000000, .tup [.val (.string ⟨(cutA s.data.toList p.data.toList).toArray⟩), .val (.string ⟨(cutR s.data.toList p.data.toList).toArray⟩), bv (cutF s.data.toList p.data.toList)])
 | _ => none
theorem e47g (s : ByteArray) (p : ByteArray) (hp : (Nat.beq p.size 1 && Nat.ble s.size 1000000) = true) : evN Tryz.prog GLv Γ136 (0) []  Tryz.f47 [.val (.string s), .val (.string p)] = some (.tup [.val (.string ⟨(cutA s.data.toList p.data.toList).toArray⟩), .val (.string ⟨(cutR s.data.toList p.data.toList).toArray⟩), bv (cutF s.data.toList p.data.toList)]) := by
 rw [Bool.and_eq_true] at hp
 have hz := Nat.eq_of_beq_eq_true hp.1
 have hs := Nat.le_of_ble_eq_true hp.2
 have hl := ib_lt s.data.toList (p.data.toList.headD 0)
 rw [<- sz_eq] at hl
 refine (show _ = cond (Nat.beq p.size 1) (cond (decide ((Go.Lib.indexByte s.data.toList (p.data.toList.headD 0)) >= 0)) (cond (decide (0 <= (Go.Lib.indexByte s.data.toList (p.data.toList.headD 0))) && decide ((Go.Lib.indexByte s.data.toList (p.data.toList.headD 0)) <= (s.size : Int))) (cond (decide (0 <= (wr ((Go.Lib.indexByte s.data.toList (p.data.toList.headD 0)) + (p.size : Int)))) && decide ((wr ((Go.Lib.indexByte s.data.toList (p.data.toList.headD 0)) + (p.size : Int))) <= (s.size : Int))) (some (.tup [.val (.string (s.extract 0 (Go.Lib.indexByte s.data.toList (p.data.toList.headD 0)).toNat)), .val (.string (s.extract (wr ((Go.Lib.indexByte s.data.toList (p.data.toList.headD 0)) + (p.size : Int))).toNat s.size)), bv true])) none) none) (some (.tup [.val (.string s), .val (.string ⟨([]).toArray⟩), bv false]))) none from by kernel_rfl).trans ?_
 rw [hp.1, cond_true]
 unfold cutA cutR cutF
 by_cases h : (Go.Lib.indexByte s.data.toList (p.data.toList.headD 0)) >= 0
 ·rw [hz, show ((1 : Nat) : Int) = 1 from rfl, wr_in (by omega) (by omega), decide_eq_true h, decide_eq_true (show (Go.Lib.indexByte s.data.toList (p.data.toList.headD 0)) <= (s.size : Int) by omega), decide_eq_true (show 0 <= (Go.Lib.indexByte s.data.toList (p.data.toList.headD 0)) + 1 by omega), decide_eq_true (show (Go.Lib.indexByte s.data.toList (p.data.toList.headD 0)) + 1 <= (s.size : Int) by omega), ex_ba, ex_ba, sz_eq]
  simp only [Bool.and_self, cond_true, List.drop_zero, Nat.sub_zero]
  rw [show ((Go.Lib.indexByte s.data.toList (p.data.toList.headD 0)) + 1).toNat = (Go.Lib.indexByte s.data.toList (p.data.toList.headD 0)).toNat + 1 by omega, List.take_of_length_le (l := List.drop ((Go.Lib.indexByte s.data.toList (p.data.toList.headD 0)).toNat + 1) s.data.toList) (by rw [List.length_drop]; exact Nat.le_refl _)]
 ·rw [decide_eq_false h]
  simp only [cond_false]
  try rw [ba_eta]
theorem m47g : MT 47 s47g := by
 refine meetsN mix0 glv G136 Tryz.func47 (by kernel_rfl) (by kernel_rfl) s47g fun args x h => ?_
 unfold s47g at h
 split at h
 ·rename_i s p
  obtain ⟨hp, rfl⟩ := sm_inj h
  exact ⟨_, _, by kernel_rfl, e47g s p hp⟩
 ·cases h
noncomputable abbrev Γ137 : LC := (47, s47g) :: Γ136
theorem G137 : SD Γ137 := G136.cons m47g
-- strings.Cut
noncomputable def s19g : Ctr := fun
 | [.val (.string s), .val (.string p)] => some (Nat.beq p.size 1 && Nat.ble s.size 1000000, .tup [.val (.string ⟨(cutA s.data.toList p.data.toList).toArray⟩), .val (.string ⟨(cutR s.data.toList p.data.toList).toArray⟩), bv (cutF s.data.toList p.data.toList)])
 | _ => none
theorem e19g (s : ByteArray) (p : ByteArray) (hp : (Nat.beq p.size 1 && Nat.ble s.size 1000000) = true) : evN Tryz.prog GLv Γ137 (0) []  Tryz.f19 [.val (.string s), .val (.string p)] = some (.tup [.val (.string ⟨(cutA s.data.toList p.data.toList).toArray⟩), .val (.string ⟨(cutR s.data.toList p.data.toList).toArray⟩), bv (cutF s.data.toList p.data.toList)]) := by
 refine (show _ = cond (Nat.beq p.size 1 && Nat.ble s.size 1000000) (some (.tup [.val (.string ⟨(cutA s.data.toList p.data.toList).toArray⟩), .val (.string ⟨(cutR s.data.toList p.data.toList).toArray⟩), bv (cutF s.data.toList p.data.toList)])) none from by kernel_rfl).trans ?_
 rw [hp]
 rfl
theorem m19g : MT 19 s19g := by
 refine meetsN mix0 glv G137 Tryz.func19 (by kernel_rfl) (by kernel_rfl) s19g fun args x h => ?_
 unfold s19g at h
 split at h
 ·rename_i s p
  obtain ⟨hp, rfl⟩ := sm_inj h
  exact ⟨_, _, by kernel_rfl, e19g s p hp⟩
 ·cases h
noncomputable abbrev Γ138 : LC := (19, s19g) :: Γ137
theorem G138 : SD Γ138 := G137.cons m19g
-- impl.pointText
noncomputable def s54 : Ctr := fun
 | [.agg [iv p_xa, iv p_xb, iv p_xk, iv p_ya, iv p_yb, iv p_yk]] => some (valP (⟨⟨p_xa, p_xb, p_xk⟩, ⟨p_ya, p_yb, p_yk⟩⟩ : P2), .val (.string ⟨(ptL (⟨⟨p_xa, p_xb, p_xk⟩, ⟨p_ya, p_yb, p_yk⟩⟩ : P2)).toArray⟩))
 | _ => none
theorem e54 (p_xa : Int) (p_xb : Int) (p_xk : Int) (p_ya : Int) (p_yb : Int) (p_yk : Int) (hp : (valP (⟨⟨p_xa, p_xb, p_xk⟩, ⟨p_ya, p_yb, p_yk⟩⟩ : P2)) = true) : evN Tryz.prog GLv Γ138 (0) []  Tryz.f54 [.agg [iv p_xa, iv p_xb, iv p_xk, iv p_ya, iv p_yb, iv p_yk]] = some (.val (.string ⟨(ptL (⟨⟨p_xa, p_xb, p_xk⟩, ⟨p_ya, p_yb, p_yk⟩⟩ : P2)).toArray⟩)) := by
 have hv := hp
 unfold valP at hv
 rw [Bool.and_eq_true] at hv
 have l1 := (num_len hv.1).1
 have l2 := (num_len hv.2).1
 simp only at l1 l2
 refine (show _ = cond (validB (⟨⟨p_xa, p_xb, p_xk⟩, ⟨p_ya, p_yb, p_yk⟩⟩ : P2).x) (cond (Nat.ble (((⟨([40]).toArray⟩ : ByteArray)).size + ((⟨(n3L (⟨⟨p_xa, p_xb, p_xk⟩, ⟨p_ya, p_yb, p_yk⟩⟩ : P2).x).toArray⟩ : ByteArray)).size) 9223372036854775807) (cond (Nat.ble ((((⟨([40]).toArray⟩ : ByteArray) ++ (⟨(n3L (⟨⟨p_xa, p_xb, p_xk⟩, ⟨p_ya, p_yb, p_yk⟩⟩ : P2).x).toArray⟩ : ByteArray))).size + ((⟨([44]).toArray⟩ : ByteArray)).size) 9223372036854775807) (cond (validB (⟨⟨p_xa, p_xb, p_xk⟩, ⟨p_ya, p_yb, p_yk⟩⟩ : P2).y) (cond (Nat.ble (((((⟨([40]).toArray⟩ : ByteArray) ++ (⟨(n3L (⟨⟨p_xa, p_xb, p_xk⟩, ⟨p_ya, p_yb, p_yk⟩⟩ : P2).x).toArray⟩ : ByteArray)) ++ (⟨([44]).toArray⟩ : ByteArray))).size + ((⟨(n3L (⟨⟨p_xa, p_xb, p_xk⟩, ⟨p_ya, p_yb, p_yk⟩⟩ : P2).y).toArray⟩ : ByteArray)).size) 9223372036854775807) (cond (Nat.ble ((((((⟨([40]).toArray⟩ : ByteArray) ++ (⟨(n3L (⟨⟨p_xa, p_xb, p_xk⟩, ⟨p_ya, p_yb, p_yk⟩⟩ : P2).x).toArray⟩ : ByteArray)) ++ (⟨([44]).toArray⟩ : ByteArray)) ++ (⟨(n3L (⟨⟨p_xa, p_xb, p_xk⟩, ⟨p_ya, p_yb, p_yk⟩⟩ : P2).y).toArray⟩ : ByteArray))).size + ((⟨([41]).toArray⟩ : ByteArray)).size) 9223372036854775807) (some (.val (.string (((((⟨([40]).toArray⟩ : ByteArray) ++ (⟨(n3L (⟨⟨p_xa, p_xb, p_xk⟩, ⟨p_ya, p_yb, p_yk⟩⟩ : P2).x).toArray⟩ : ByteArray)) ++ (⟨([44]).toArray⟩ : ByteArray)) ++ (⟨(n3L (⟨⟨p_xa, p_xb, p_xk⟩, ⟨p_ya, p_yb, p_yk⟩⟩ : P2).y).toArray⟩ : ByteArray)) ++ (⟨([41]).toArray⟩ : ByteArray))))) (none)) (none)) (none)) (none)) (none)) (none) from by kernel_rfl).trans ?_
 rw [hv.1, hv.2, cond_true]
 simp only [ba_app, ba_size, List.length_append, List.length_cons, List.length_nil]
 refine (cond_yes (nb (by omega))).trans ?_
 refine (cond_yes (nb (by omega))).trans ?_
 refine (cond_yes rfl).trans ?_
 refine (cond_yes (nb (by omega))).trans ?_
 exact (cond_yes (nb (by omega)))
theorem m54 : MT 54 s54 := by
 refine meetsN mix0 glv G138 Tryz.func54 (by kernel_rfl) (by kernel_rfl) s54 fun args x h => ?_
 unfold s54 at h
 split at h
 ·rename_i p_xa p_xb p_xk p_ya p_yb p_yk
  obtain ⟨hp, rfl⟩ := sm_inj h
  exact ⟨_, _, by kernel_rfl, e54 p_xa p_xb p_xk p_ya p_yb p_yk hp⟩
 ·cases h
noncomputable abbrev Γ139 : LC := (54, s54) :: Γ138
theorem G139 : SD Γ139 := G138.cons m54
-- impl.motionText
noncomputable def s22 : Ctr := fun
 | [.agg [iv m_t, .val (.bool m_f), iv m_xa, iv m_xb, iv m_xk, iv m_ya, iv m_yb, iv m_yk]] => some ((⟨m_t, m_f, (⟨⟨m_xa, m_xb, m_xk⟩, ⟨m_ya, m_yb, m_yk⟩⟩ : P2)⟩ : M8).valid, .val (.string ⟨(mtL (⟨m_t, m_f, (⟨⟨m_xa, m_xb, m_xk⟩, ⟨m_ya, m_yb, m_yk⟩⟩ : P2)⟩ : M8)).toArray⟩))
 | _ => none
theorem e22 (m_t : Int) (m_f : Bool) (m_xa : Int) (m_xb : Int) (m_xk : Int) (m_ya : Int) (m_yb : Int) (m_yk : Int) (hp : ((⟨m_t, m_f, (⟨⟨m_xa, m_xb, m_xk⟩, ⟨m_ya, m_yb, m_yk⟩⟩ : P2)⟩ : M8).valid) = true) : evN Tryz.prog GLv Γ139 (0) []  Tryz.f22 [.agg [iv m_t, .val (.bool m_f), iv m_xa, iv m_xb, iv m_xk, iv m_ya, iv m_yb, iv m_yk]] = some (.val (.string ⟨(mtL (⟨m_t, m_f, (⟨⟨m_xa, m_xb, m_xk⟩, ⟨m_ya, m_yb, m_yk⟩⟩ : P2)⟩ : M8)).toArray⟩)) := by
 have hv := hp
 unfold M8.valid at hv
 rw [Bool.and_eq_true] at hv
 have hi := inB_iff.1 hv.1
 simp only at hi
 have l1 := pt_len hv.2
 have la := itoa_len (v := m_t) (by omega)
 simp only at l1
 cases m_f with
 | true =>
  refine (show _ = cond (Nat.ble (m_t).natAbs 9223372036854775807) (cond (Nat.ble (((⟨([102]).toArray⟩ : ByteArray)).size + ((⟨(Go.Lib.itoa m_t).toArray⟩ : ByteArray)).size) 9223372036854775807) (cond (Nat.ble ((((⟨([102]).toArray⟩ : ByteArray) ++ (⟨(Go.Lib.itoa m_t).toArray⟩ : ByteArray))).size + ((⟨([32]).toArray⟩ : ByteArray)).size) 9223372036854775807) (cond (valP (⟨m_t, true, (⟨⟨m_xa, m_xb, m_xk⟩, ⟨m_ya, m_yb, m_yk⟩⟩ : P2)⟩ : M8).s) (cond (Nat.ble (((((⟨([102]).toArray⟩ : ByteArray) ++ (⟨(Go.Lib.itoa m_t).toArray⟩ : ByteArray)) ++ (⟨([32]).toArray⟩ : ByteArray))).size + ((⟨(ptL (⟨m_t, true, (⟨⟨m_xa, m_xb, m_xk⟩, ⟨m_ya, m_yb, m_yk⟩⟩ : P2)⟩ : M8).s).toArray⟩ : ByteArray)).size) 9223372036854775807) (some (.val (.string ((((⟨([102]).toArray⟩ : ByteArray) ++ (⟨(Go.Lib.itoa m_t).toArray⟩ : ByteArray)) ++ (⟨([32]).toArray⟩ : ByteArray)) ++ (⟨(ptL (⟨m_t, true, (⟨⟨m_xa, m_xb, m_xk⟩, ⟨m_ya, m_yb, m_yk⟩⟩ : P2)⟩ : M8).s).toArray⟩ : ByteArray))))) (none)) (none)) (none)) (none)) (none) from by kernel_rfl).trans ?_
  rw [hv.2]
  simp only [ba_app, ba_size, List.length_append, List.length_cons, List.length_nil]
  refine (cond_yes (nb (by omega))).trans ?_
  refine (cond_yes (nb (by omega))).trans ?_
  refine (cond_yes (nb (by omega))).trans ?_
  refine (cond_yes rfl).trans ?_
  exact (cond_yes (nb (by omega)))
 | false =>
  refine (show _ = cond (Nat.ble (m_t).natAbs 9223372036854775807) (cond (Nat.ble (((⟨([114]).toArray⟩ : ByteArray)).size + ((⟨(Go.Lib.itoa m_t).toArray⟩ : ByteArray)).size) 9223372036854775807) (cond (Nat.ble ((((⟨([114]).toArray⟩ : ByteArray) ++ (⟨(Go.Lib.itoa m_t).toArray⟩ : ByteArray))).size + ((⟨([32]).toArray⟩ : ByteArray)).size) 9223372036854775807) (cond (valP (⟨m_t, false, (⟨⟨m_xa, m_xb, m_xk⟩, ⟨m_ya, m_yb, m_yk⟩⟩ : P2)⟩ : M8).s) (cond (Nat.ble (((((⟨([114]).toArray⟩ : ByteArray) ++ (⟨(Go.Lib.itoa m_t).toArray⟩ : ByteArray)) ++ (⟨([32]).toArray⟩ : ByteArray))).size + ((⟨(ptL (⟨m_t, false, (⟨⟨m_xa, m_xb, m_xk⟩, ⟨m_ya, m_yb, m_yk⟩⟩ : P2)⟩ : M8).s).toArray⟩ : ByteArray)).size) 9223372036854775807) (some (.val (.string ((((⟨([114]).toArray⟩ : ByteArray) ++ (⟨(Go.Lib.itoa m_t).toArray⟩ : ByteArray)) ++ (⟨([32]).toArray⟩ : ByteArray)) ++ (⟨(ptL (⟨m_t, false, (⟨⟨m_xa, m_xb, m_xk⟩, ⟨m_ya, m_yb, m_yk⟩⟩ : P2)⟩ : M8).s).toArray⟩ : ByteArray))))) (none)) (none)) (none)) (none)) (none) from by kernel_rfl).trans ?_
  rw [hv.2]
  simp only [ba_app, ba_size, List.length_append, List.length_cons, List.length_nil]
  refine (cond_yes (nb (by omega))).trans ?_
  refine (cond_yes (nb (by omega))).trans ?_
  refine (cond_yes (nb (by omega))).trans ?_
  refine (cond_yes rfl).trans ?_
  exact (cond_yes (nb (by omega)))
theorem m22 : MT 22 s22 := by
 refine meetsN mix0 glv G139 Tryz.func22 (by kernel_rfl) (by kernel_rfl) s22 fun args x h => ?_
 unfold s22 at h
 split at h
 ·rename_i m_t m_f m_xa m_xb m_xk m_ya m_yb m_yk
  obtain ⟨hp, rfl⟩ := sm_inj h
  exact ⟨_, _, by kernel_rfl, e22 m_t m_f m_xa m_xb m_xk m_ya m_yb m_yk hp⟩
 ·cases h
noncomputable abbrev Γ140 : LC := (22, s22) :: Γ139
theorem G140 : SD Γ140 := G139.cons m22
-- impl.MotionText
noncomputable def s8 : Ctr := fun
 | [.agg [iv m_t, .val (.bool m_f), iv m_xa, iv m_xb, iv m_xk, iv m_ya, iv m_yb, iv m_yk]] => some (true, .val (.string ⟨(cond (⟨m_t, m_f, (⟨⟨m_xa, m_xb, m_xk⟩, ⟨m_ya, m_yb, m_yk⟩⟩ : P2)⟩ : M8).valid (mtL (⟨m_t, m_f, (⟨⟨m_xa, m_xb, m_xk⟩, ⟨m_ya, m_yb, m_yk⟩⟩ : P2)⟩ : M8)) []).toArray⟩))
 | _ => none
theorem e8 (m_t : Int) (m_f : Bool) (m_xa : Int) (m_xb : Int) (m_xk : Int) (m_ya : Int) (m_yb : Int) (m_yk : Int) : evN Tryz.prog GLv Γ140 (0) []  Tryz.f8 [.agg [iv m_t, .val (.bool m_f), iv m_xa, iv m_xb, iv m_xk, iv m_ya, iv m_yb, iv m_yk]] = some (.val (.string ⟨(cond (⟨m_t, m_f, (⟨⟨m_xa, m_xb, m_xk⟩, ⟨m_ya, m_yb, m_yk⟩⟩ : P2)⟩ : M8).valid (mtL (⟨m_t, m_f, (⟨⟨m_xa, m_xb, m_xk⟩, ⟨m_ya, m_yb, m_yk⟩⟩ : P2)⟩ : M8)) []).toArray⟩)) := by
 refine (show _ = cond (!((⟨m_t, m_f, (⟨⟨m_xa, m_xb, m_xk⟩, ⟨m_ya, m_yb, m_yk⟩⟩ : P2)⟩ : M8).valid)) (some (.val (.string ⟨([]).toArray⟩))) (cond ((⟨m_t, m_f, (⟨⟨m_xa, m_xb, m_xk⟩, ⟨m_ya, m_yb, m_yk⟩⟩ : P2)⟩ : M8).valid) (some (.val (.string ⟨(mtL (⟨m_t, m_f, (⟨⟨m_xa, m_xb, m_xk⟩, ⟨m_ya, m_yb, m_yk⟩⟩ : P2)⟩ : M8)).toArray⟩))) none) from by kernel_rfl).trans ?_
 cases (⟨m_t, m_f, (⟨⟨m_xa, m_xb, m_xk⟩, ⟨m_ya, m_yb, m_yk⟩⟩ : P2)⟩ : M8).valid <;> rfl
theorem m8 : MT 8 s8 := by
 refine meetsN mix0 glv G140 Tryz.func8 (by kernel_rfl) (by kernel_rfl) s8 fun args x h => ?_
 unfold s8 at h
 split at h
 ·rename_i m_t m_f m_xa m_xb m_xk m_ya m_yb m_yk
  obtain ⟨hp, rfl⟩ := sm_inj h
  exact ⟨_, _, by kernel_rfl, e8 m_t m_f m_xa m_xb m_xk m_ya m_yb m_yk⟩
 ·cases h
noncomputable abbrev Γ141 : LC := (8, s8) :: Γ140
theorem G141 : SD Γ141 := G140.cons m8
-- impl.ReadPoint
noncomputable def s20 : Ctr := fun
 | [.val (.string s)] => some (isPt s.data.toList, .tup [.agg [iv (ptOf s.data.toList).x.a, iv (ptOf s.data.toList).x.b, iv (ptOf s.data.toList).x.k, iv (ptOf s.data.toList).y.a, iv (ptOf s.data.toList).y.b, iv (ptOf s.data.toList).y.k], bv true])
 | _ => none
theorem e20 (s : ByteArray) (hp : (isPt s.data.toList) = true) : evN Tryz.prog GLv Γ141 (0) []  Tryz.f20 [.val (.string s)] = some (.tup [.agg [iv (ptOf s.data.toList).x.a, iv (ptOf s.data.toList).x.b, iv (ptOf s.data.toList).x.k, iv (ptOf s.data.toList).y.a, iv (ptOf s.data.toList).y.b, iv (ptOf s.data.toList).y.k], bv true]) := by
 obtain ⟨hv, hl⟩ := pt_ex hp
 refine (show _ = cond (Nat.ble (⟨((Go.Lib.trimPrefix s.data.toList [40])).toArray⟩ : ByteArray).size 9223372036854775807) (cond (Nat.beq (⟨([44]).toArray⟩ : ByteArray).size 1 && Nat.ble (⟨((Go.Lib.trimSuffix (Go.Lib.trimPrefix s.data.toList [40]) [41])).toArray⟩ : ByteArray).size 1000000) (cond (rdO (cutA (Go.Lib.trimSuffix (Go.Lib.trimPrefix s.data.toList [40]) [41]) [44]) && (Nat.ble (⟨((cutA (Go.Lib.trimSuffix (Go.Lib.trimPrefix s.data.toList [40]) [41]) [44])).toArray⟩ : ByteArray).size 1000000 && ascL (cutA (Go.Lib.trimSuffix (Go.Lib.trimPrefix s.data.toList [40]) [41]) [44]))) (cond (rdO (cutR (Go.Lib.trimSuffix (Go.Lib.trimPrefix s.data.toList [40]) [41]) [44]) && (Nat.ble (⟨((cutR (Go.Lib.trimSuffix (Go.Lib.trimPrefix s.data.toList [40]) [41]) [44])).toArray⟩ : ByteArray).size 1000000 && ascL (cutR (Go.Lib.trimSuffix (Go.Lib.trimPrefix s.data.toList [40]) [41]) [44]))) (cond (!(Go.Lib.hasPrefix s.data.toList [40])) (some (.tup [.agg [iv 0, iv 0, iv 0, iv 0, iv 0, iv 0], bv false])) (cond (!(Go.Lib.hasSuffix (Go.Lib.trimPrefix s.data.toList [40]) [41])) (some (.tup [.agg [iv 0, iv 0, iv 0, iv 0, iv 0, iv 0], bv false])) (cond (!(cutF (Go.Lib.trimSuffix (Go.Lib.trimPrefix s.data.toList [40]) [41]) [44])) (some (.tup [.agg [iv 0, iv 0, iv 0, iv 0, iv 0, iv 0], bv false])) (cond (!(rdY (cutA (Go.Lib.trimSuffix (Go.Lib.trimPrefix s.data.toList [40]) [41]) [44]))) (some (.tup [.agg [iv 0, iv 0, iv 0, iv 0, iv 0, iv 0], bv false])) (cond (!(rdY (cutR (Go.Lib.trimSuffix (Go.Lib.trimPrefix s.data.toList [40]) [41]) [44]))) (some (.tup [.agg [iv 0, iv 0, iv 0, iv 0, iv 0, iv 0], bv false])) (some (.tup [.agg [iv (cond (rdY (cutA (Go.Lib.trimSuffix (Go.Lib.trimPrefix s.data.toList [40]) [41]) [44])) (rdA (cutA (Go.Lib.trimSuffix (Go.Lib.trimPrefix s.data.toList [40]) [41]) [44])) 0), iv (cond (rdY (cutA (Go.Lib.trimSuffix (Go.Lib.trimPrefix s.data.toList [40]) [41]) [44])) (rdB (cutA (Go.Lib.trimSuffix (Go.Lib.trimPrefix s.data.toList [40]) [41]) [44])) 0), iv (cond (rdY (cutA (Go.Lib.trimSuffix (Go.Lib.trimPrefix s.data.toList [40]) [41]) [44])) (rdK (cutA (Go.Lib.trimSuffix (Go.Lib.trimPrefix s.data.toList [40]) [41]) [44])) 0), iv (cond (rdY (cutR (Go.Lib.trimSuffix (Go.Lib.trimPrefix s.data.toList [40]) [41]) [44])) (rdA (cutR (Go.Lib.trimSuffix (Go.Lib.trimPrefix s.data.toList [40]) [41]) [44])) 0), iv (cond (rdY (cutR (Go.Lib.trimSuffix (Go.Lib.trimPrefix s.data.toList [40]) [41]) [44])) (rdB (cutR (Go.Lib.trimSuffix (Go.Lib.trimPrefix s.data.toList [40]) [41]) [44])) 0), iv (cond (rdY (cutR (Go.Lib.trimSuffix (Go.Lib.trimPrefix s.data.toList [40]) [41]) [44])) (rdK (cutR (Go.Lib.trimSuffix (Go.Lib.trimPrefix s.data.toList [40]) [41]) [44])) 0)], bv true]))))))) none) none) none) none from by kernel_rfl).trans ?_
 generalize (ptOf s.data.toList) = q at hv hl
 clear hp
 obtain rfl := ba_of hl.symm
 rw [show (⟨(ptL q).toArray⟩ : ByteArray).data.toList = ptL q from rfl]
 obtain ⟨a1, a2, a3, a4, a5, a6, a7⟩ := pt_parts q
 have hv' := hv
 unfold valP at hv'
 rw [Bool.and_eq_true] at hv'
 obtain ⟨x1, x2, x3⟩ := num_back hv'.1
 obtain ⟨y1, y2, y3⟩ := num_back hv'.2
 obtain ⟨l1, l2⟩ := num_len hv'.1
 obtain ⟨m1, m2⟩ := num_len hv'.2
 rw [a1, a2, a3, a4, a5, a6, a7, x1, x2, y1, y2, l2, m2, ba_size, ba_size, ba_size, ba_size, ba_size,
  show rdA (n3L q.x) = q.x.a from congrArg N3.a x3, show rdB (n3L q.x) = q.x.b from congrArg N3.b x3, show rdK (n3L q.x) = q.x.k from congrArg N3.k x3,
  show rdA (n3L q.y) = q.y.a from congrArg N3.a y3, show rdB (n3L q.y) = q.y.b from congrArg N3.b y3, show rdK (n3L q.y) = q.y.k from congrArg N3.k y3]
 simp only [List.length_append, List.length_cons, List.length_nil]
 refine (cond_yes (nb (by omega))).trans ?_
 refine (cond_yes (by rw [show Nat.ble _ 1000000 = true from Nat.ble_eq_true_of_le (by omega)]; rfl)).trans ?_
 refine (cond_yes (by rw [show Nat.ble _ 1000000 = true from Nat.ble_eq_true_of_le (by omega)]; rfl)).trans ?_
 refine (cond_yes (by rw [show Nat.ble _ 1000000 = true from Nat.ble_eq_true_of_le (by omega)]; rfl)).trans ?_
 rfl
theorem m20 : MT 20 s20 := by
 refine meetsN mix0 glv G141 Tryz.func20 (by kernel_rfl) (by kernel_rfl) s20 fun args x h => ?_
 unfold s20 at h
 split at h
 ·rename_i s
  obtain ⟨hp, rfl⟩ := sm_inj h
  exact ⟨_, _, by kernel_rfl, e20 s hp⟩
 ·cases h
noncomputable abbrev Γ142 : LC := (20, s20) :: Γ141
theorem G142 : SD Γ142 := G141.cons m20
-- impl.ReadMotion
noncomputable def s7 : Ctr := fun
 | [.val (.string s)] => some (isMt s.data.toList, .tup [.agg [iv (mtOf s.data.toList).t, bv (mtOf s.data.toList).f, iv (mtOf s.data.toList).s.x.a, iv (mtOf s.data.toList).s.x.b, iv (mtOf s.data.toList).s.x.k, iv (mtOf s.data.toList).s.y.a, iv (mtOf s.data.toList).s.y.b, iv (mtOf s.data.toList).s.y.k], bv true])
 | _ => none
theorem e7 (s : ByteArray) (hp : (isMt s.data.toList) = true) : evN Tryz.prog GLv Γ142 (0) []  Tryz.f7 [.val (.string s)] = some (.tup [.agg [iv (mtOf s.data.toList).t, bv (mtOf s.data.toList).f, iv (mtOf s.data.toList).s.x.a, iv (mtOf s.data.toList).s.x.b, iv (mtOf s.data.toList).s.x.k, iv (mtOf s.data.toList).s.y.a, iv (mtOf s.data.toList).s.y.b, iv (mtOf s.data.toList).s.y.k], bv true]) := by
 obtain ⟨hv, hl⟩ := mt_ex hp
 refine (show _ = cond (Nat.beq (⟨([32]).toArray⟩ : ByteArray).size 1 && Nat.ble s.size 1000000) (cond (isPt (cutR s.data.toList [32])) (cond (((⟨((cutA s.data.toList [32])).toArray⟩ : ByteArray).size : Int) != 2) (some (.tup [.agg [iv 0, bv false, iv 0, iv 0, iv 0, iv 0, iv 0, iv 0], bv false])) (cond (decide (0 <= (1 : Int)) && decide ((1 : Int) < ((⟨((cutA s.data.toList [32])).toArray⟩ : ByteArray).size : Int))) (cond (decide (0 <= (0 : Int)) && decide ((0 : Int) < ((⟨((cutA s.data.toList [32])).toArray⟩ : ByteArray).size : Int))) (cond (!((⟨wr (IntKind.i64.wrap (byteA (⟨((cutA s.data.toList [32])).toArray⟩ : ByteArray) 1) - 48), byteA (⟨((cutA s.data.toList [32])).toArray⟩ : ByteArray) 0 == 102, (ptOf (cutR s.data.toList [32]))⟩ : M8).valid)) (some (.tup [.agg [iv 0, bv false, iv 0, iv 0, iv 0, iv 0, iv 0, iv 0], bv false])) (cond ((⟨wr (IntKind.i64.wrap (byteA (⟨((cutA s.data.toList [32])).toArray⟩ : ByteArray) 1) - 48), byteA (⟨((cutA s.data.toList [32])).toArray⟩ : ByteArray) 0 == 102, (ptOf (cutR s.data.toList [32]))⟩ : M8).valid) (cond (!((⟨(mtL (⟨wr (IntKind.i64.wrap (byteA (⟨((cutA s.data.toList [32])).toArray⟩ : ByteArray) 1) - 48), byteA (⟨((cutA s.data.toList [32])).toArray⟩ : ByteArray) 0 == 102, (ptOf (cutR s.data.toList [32]))⟩ : M8)).toArray⟩ : ByteArray).toList == s.toList)) (some (.tup [.agg [iv 0, bv false, iv 0, iv 0, iv 0, iv 0, iv 0, iv 0], bv false])) (some (.tup [.agg [iv (⟨wr (IntKind.i64.wrap (byteA (⟨((cutA s.data.toList [32])).toArray⟩ : ByteArray) 1) - 48), byteA (⟨((cutA s.data.toList [32])).toArray⟩ : ByteArray) 0 == 102, (ptOf (cutR s.data.toList [32]))⟩ : M8).t, bv (⟨wr (IntKind.i64.wrap (byteA (⟨((cutA s.data.toList [32])).toArray⟩ : ByteArray) 1) - 48), byteA (⟨((cutA s.data.toList [32])).toArray⟩ : ByteArray) 0 == 102, (ptOf (cutR s.data.toList [32]))⟩ : M8).f, iv (⟨wr (IntKind.i64.wrap (byteA (⟨((cutA s.data.toList [32])).toArray⟩ : ByteArray) 1) - 48), byteA (⟨((cutA s.data.toList [32])).toArray⟩ : ByteArray) 0 == 102, (ptOf (cutR s.data.toList [32]))⟩ : M8).s.x.a, iv (⟨wr (IntKind.i64.wrap (byteA (⟨((cutA s.data.toList [32])).toArray⟩ : ByteArray) 1) - 48), byteA (⟨((cutA s.data.toList [32])).toArray⟩ : ByteArray) 0 == 102, (ptOf (cutR s.data.toList [32]))⟩ : M8).s.x.b, iv (⟨wr (IntKind.i64.wrap (byteA (⟨((cutA s.data.toList [32])).toArray⟩ : ByteArray) 1) - 48), byteA (⟨((cutA s.data.toList [32])).toArray⟩ : ByteArray) 0 == 102, (ptOf (cutR s.data.toList [32]))⟩ : M8).s.x.k, iv (⟨wr (IntKind.i64.wrap (byteA (⟨((cutA s.data.toList [32])).toArray⟩ : ByteArray) 1) - 48), byteA (⟨((cutA s.data.toList [32])).toArray⟩ : ByteArray) 0 == 102, (ptOf (cutR s.data.toList [32]))⟩ : M8).s.y.a, iv (⟨wr (IntKind.i64.wrap (byteA (⟨((cutA s.data.toList [32])).toArray⟩ : ByteArray) 1) - 48), byteA (⟨((cutA s.data.toList [32])).toArray⟩ : ByteArray) 0 == 102, (ptOf (cutR s.data.toList [32]))⟩ : M8).s.y.b, iv (⟨wr (IntKind.i64.wrap (byteA (⟨((cutA s.data.toList [32])).toArray⟩ : ByteArray) 1) - 48), byteA (⟨((cutA s.data.toList [32])).toArray⟩ : ByteArray) 0 == 102, (ptOf (cutR s.data.toList [32]))⟩ : M8).s.y.k], bv true]))) none)) none) none)) none) none from by kernel_rfl).trans ?_
 generalize (mtOf s.data.toList) = q at hv hl
 clear hp
 obtain rfl := ba_of hl.symm
 rw [show (⟨(mtL q).toArray⟩ : ByteArray).data.toList = mtL q from rfl]
 obtain ⟨_, _, a3, a4⟩ := mt_parts hv
 have hv' := hv
 unfold M8.valid at hv'
 rw [Bool.and_eq_true] at hv'
 obtain ⟨p1, p2⟩ := pt_of hv'.2
 have hi := inB_iff.1 hv'.1
 rw [a3, a4, p1, p2]
 have e : (⟨wr (IntKind.i64.wrap (byteA ⟨(mtH q).toArray⟩ 1) - 48), byteA ⟨(mtH q).toArray⟩ 0 == 102, q.s⟩ : M8) = q := by
  have e1 : byteA ⟨(mtH q).toArray⟩ 1 = ((UInt8.ofNat (48 + q.t.toNat)).toNat : Int) := rfl
  have e0 : byteA ⟨(mtH q).toArray⟩ 0 = ((cond q.f 102 114 : UInt8).toNat : Int) := rfl
  rw [e1, e0, (turn_dg hv'.1).2]
  have w1 : IntKind.i64.wrap ((48 + q.t.toNat : Nat) : Int) = ((48 + q.t.toNat : Nat) : Int) := wr_in (by omega) (by omega)
  rw [w1, wr_in (by omega) (by omega)]
  have f1 : (((cond q.f 102 114 : UInt8).toNat : Int) == 102) = q.f := by cases q.f <;> decide
  rw [f1, show ((48 + q.t.toNat : Nat) : Int) - 48 = q.t by omega]
 have hlen := mt_len hv
 refine (cond_yes (by rw [ba_size, ba_size, show Nat.ble _ 1000000 = true from Nat.ble_eq_true_of_le (by omega)]; rfl)).trans ?_
 refine (cond_yes rfl).trans ?_
 rw [show (((⟨(mtH q).toArray⟩ : ByteArray).size : Int) != 2) = false from rfl, cond_false]
 refine (cond_yes rfl).trans ?_
 refine (cond_yes rfl).trans ?_
 rw [e, hv]
 simp only [Bool.not_true, cond_false, cond_true, beq_self_eq_true]
theorem m7 : MT 7 s7 := by
 refine meetsN mix0 glv G142 Tryz.func7 (by kernel_rfl) (by kernel_rfl) s7 fun args x h => ?_
 unfold s7 at h
 split at h
 ·rename_i s
  obtain ⟨hp, rfl⟩ := sm_inj h
  exact ⟨_, _, by kernel_rfl, e7 s hp⟩
 ·cases h
noncomputable abbrev Γ143 : LC := (7, s7) :: Γ142
theorem G143 : SD Γ143 := G142.cons m7
end Go.Proofs.YtlcopddgplbdhaaGreatDoor
