/- Contracts of the program's functions, by the evaluator. -/
import Derived.Test.YtlcopddgplbdhaaGreatDoorT3
import Derived.Test.YtlcopddgplbdhaaGreatDoorPlS
namespace Go.Proofs.YtlcopddgplbdhaaGreatDoor
open Go.Ev Go.RowKit
set_option linter.unusedVariables false
set_option linter.unusedSimpArgs false
set_option maxRecDepth 100000
abbrev cfT40 : Cfg := ⟨[true, true, false, false, false, false, true, false, true, false, false, false, false, true], [], [], 0, []⟩
theorem lb_step (K n : Nat) (i : Int) (s : ByteArray) : runW Tryz.prog GLv Γ132 K cfT40 [.val (.string s), .val (.string (⟨[43, 45].toArray⟩ : ByteArray))] Tryz.f118 2 (n + 1) (stL Tryz.f118.ntmps [.val (.string s), .val (.string (⟨[43, 45].toArray⟩ : ByteArray)), .non, .non, .non, .non, .non, .non, .non, .non, .non, .non, .non, iv (i)]) = cond (decide (i > 0)) (cond (decide (0 <= i) && decide (i <= (s.size : Int))) (cond ((Nat.ble 1 (s.extract 0 i.toNat).size && Nat.ble (s.extract 0 i.toNat).size 1000000) && decide ((byteA (s.extract 0 i.toNat) ((s.extract 0 i.toNat).size - 1)) < 128)) (cond (decide (0 <= (byteA (s.extract 0 i.toNat) ((s.extract 0 i.toNat).size - 1))) && decide ((byteA (s.extract 0 i.toNat) ((s.extract 0 i.toNat).size - 1)) < 128)) (cond (decide (Go.Lib.indexByte [43, 45] (byteA (s.extract 0 i.toNat) ((s.extract 0 i.toNat).size - 1)).toNat.toUInt8 >= 0)) (some (iv (wr (i - 1)))) (runW Tryz.prog GLv Γ132 K cfT40 [.val (.string s), .val (.string (⟨[43, 45].toArray⟩ : ByteArray))] Tryz.f118 2 n (stL Tryz.f118.ntmps [.val (.string s), .val (.string (⟨[43, 45].toArray⟩ : ByteArray)), .non, .non, .non, .non, .non, .non, .non, .non, .non, .non, .non, iv (wr (i - 1))]))) none) none) none) (some (iv (-1))) := by kernel_rfl
theorem la_step (K n : Nat) (i : Int) (s : ByteArray) : runW Tryz.prog GLv Γ132 K cfT40 [.val (.string s), .val (.string (⟨[43, 45].toArray⟩ : ByteArray))] Tryz.f118 0 (n + 1) (stL Tryz.f118.ntmps [.val (.string s), .val (.string (⟨[43, 45].toArray⟩ : ByteArray)), .non, .non, .non, .non, .own 161 ((List.range 256).map pmCell), .non, iv (i), .non, .non, .non, .non, .non]) = cond (decide (i >= 0)) (cond (decide (0 <= i) && decide (i < (s.size : Int))) (cond (inB (byteA s i.toNat) 0 255 && (Nat.beq ((List.range 256).map pmCell).length 256 && pmTest 0 ((List.range 256).map pmCell))) (cond (pmX (byteA s i.toNat)) (some (iv i)) (runW Tryz.prog GLv Γ132 K cfT40 [.val (.string s), .val (.string (⟨[43, 45].toArray⟩ : ByteArray))] Tryz.f118 0 n (stL Tryz.f118.ntmps [.val (.string s), .val (.string (⟨[43, 45].toArray⟩ : ByteArray)), .non, .non, .non, .non, .own 161 ((List.range 256).map pmCell), .non, iv (wr (i - 1)), .non, .non, .non, .non, .non]))) none) none) (some (iv (-1))) := by kernel_rfl
theorem lb_run (K : Nat) (s : ByteArray) (hs : s.size <= 1000000) (ha : ascL s.data.toList = true) : ∀ (i n : Nat), i <= s.size -> i < n -> runW Tryz.prog GLv Γ132 K cfT40 [.val (.string s), .val (.string (⟨[43, 45].toArray⟩ : ByteArray))] Tryz.f118 2 n (stL Tryz.f118.ntmps [.val (.string s), .val (.string (⟨[43, 45].toArray⟩ : ByteArray)), .non, .non, .non, .non, .non, .non, .non, .non, .non, .non, .non, iv ((i : Int))]) = some (iv (lastF s.data.toList i)) := by
 intro i
 induction i with
 | zero =>
  intro n _ h2
  obtain ⟨n, rfl⟩ : ∃ n', n = n' + 1 := ⟨n - 1, by omega⟩
  rw [lb_step]
  rfl
 | succ i ih =>
  intro n h1 h2
  obtain ⟨n, rfl⟩ : ∃ n', n = n' + 1 := ⟨n - 1, by omega⟩
  obtain ⟨e1, e2⟩ := byte_ex (s := s) (i := i + 1) (by omega) h1
  have hb := asc_at ha (show i < s.data.toList.length by rw [<- sz_eq]; omega)
  have hv : byteA s i = ((s.data.toList.getD i 0).toNat : Int) := rfl
  rw [lb_step, Int.toNat_natCast, e1, e2, show i + 1 - 1 = i by omega, decide_eq_true (show ((i + 1 : Nat) : Int) > 0 by omega), decide_eq_true (show (0 : Int) <= ((i + 1 : Nat) : Int) by omega), decide_eq_true (show ((i + 1 : Nat) : Int) <= (s.size : Int) by omega),
   show Nat.ble 1 (i + 1) = true from Nat.ble_eq_true_of_le (by omega), show Nat.ble (i + 1) 1000000 = true from Nat.ble_eq_true_of_le (by omega), decide_eq_true (show byteA s i < 128 by omega), decide_eq_true (show 0 <= byteA s i by omega), ib_pm, byte_u8, wr_in (by omega) (by omega)]
  simp only [Bool.and_self, cond_true]
  rw [show ((i + 1 : Nat) : Int) - 1 = (i : Int) by omega, ih n (by omega) (by omega)]
  rw [show lastF s.data.toList (i + 1) = if isPM (s.data.toList.getD i 0) then (i : Int) else lastF s.data.toList i from rfl]
  cases isPM (s.data.toList.getD i 0) <;> simp
theorem pm_all : (Nat.beq ((List.range 256).map pmCell).length 256 && pmTest 0 ((List.range 256).map pmCell)) = true := by kernel_rfl
theorem la_run (K : Nat) (s : ByteArray) (hs : s.size <= 1000000) : ∀ (i n : Nat), i <= s.size -> i < n -> runW Tryz.prog GLv Γ132 K cfT40 [.val (.string s), .val (.string (⟨[43, 45].toArray⟩ : ByteArray))] Tryz.f118 0 n (stL Tryz.f118.ntmps [.val (.string s), .val (.string (⟨[43, 45].toArray⟩ : ByteArray)), .non, .non, .non, .non, .own 161 ((List.range 256).map pmCell), .non, iv ((i : Int) - 1), .non, .non, .non, .non, .non]) = some (iv (lastF s.data.toList i)) := by
 intro i
 induction i with
 | zero =>
  intro n _ h2
  obtain ⟨n, rfl⟩ : ∃ n', n = n' + 1 := ⟨n - 1, by omega⟩
  rw [la_step]
  rfl
 | succ i ih =>
  intro n h1 h2
  obtain ⟨n, rfl⟩ : ∃ n', n = n' + 1 := ⟨n - 1, by omega⟩
  obtain ⟨b0, b1⟩ := byte_rng s i
  have k := ih n (by omega) (by omega)
  rw [la_step, show ((i + 1 : Nat) : Int) - 1 = (i : Int) by omega, Int.toNat_natCast, decide_eq_true (show (i : Int) >= 0 by omega), decide_eq_true (show (i : Int) < (s.size : Int) by omega), pm_all, pmX_byte, show inB (byteA s i) 0 255 = true from inB_iff.2 (by omega), wr_in (by omega) (by omega)]
  simp only [Bool.and_self, cond_true]
  rw [k]
  rw [show lastF s.data.toList (i + 1) = if isPM (s.data.toList.getD i 0) then (i : Int) else lastF s.data.toList i from rfl]
  cases isPM (s.data.toList.getD i 0) <;> simp
-- strings.LastIndexAny
noncomputable def s118 : Ctr := fun
 | [.val (.string s), .val (.string p)] => some (p.data.toList == [43, 45] && (Nat.ble s.size 1000000 && ascL s.data.toList), iv (lastPM s.data.toList))
 | _ => none
theorem e118 (s : ByteArray) (p : ByteArray) (hp : (p.data.toList == [43, 45] && (Nat.ble s.size 1000000 && ascL s.data.toList)) = true) : evW Tryz.prog GLv Γ132 (s.size + 2) (cfT40)  Tryz.f118 [.val (.string s), .val (.string p)] = some (iv (lastPM s.data.toList)) := by
 simp only [Bool.and_eq_true, beq_iff_eq] at hp
 obtain ⟨h0, h1, h2⟩ := hp
 obtain rfl := ba_of h0
 have h1 := Nat.le_of_ble_eq_true h1
 refine (show _ = cond ((⟨[43, 45].toArray⟩ : ByteArray).toList == (⟨[].toArray⟩ : ByteArray).toList) (some (iv (-1))) (cond (((s.size : Nat) : Int) == 1) (cond ((decide (0 <= (0 : Int)) && decide ((0 : Int) < (s.size : Int)))) (cond (decide (IntKind.i32.wrap (byteA s (0 : Int).toNat) >= 128)) (none) (cond (decide (0 <= IntKind.i32.wrap (byteA s (0 : Int).toNat)) && decide (IntKind.i32.wrap (byteA s (0 : Int).toNat) < 128)) (cond (decide (Go.Lib.indexByte [43, 45] (IntKind.i32.wrap (byteA s (0 : Int).toNat)).toNat.toUInt8 >= 0)) (some (iv 0)) (some (iv (-1)))) none)) none) (cond (decide (8 < ((s.size : Nat) : Int))) (runW Tryz.prog GLv Γ132 (s.size + 2) cfT40 [.val (.string s), .val (.string (⟨[43, 45].toArray⟩ : ByteArray))] Tryz.f118 0 (s.size + 2) (stL Tryz.f118.ntmps [.val (.string s), .val (.string (⟨[43, 45].toArray⟩ : ByteArray)), .non, .non, .non, .non, .own 161 ((List.range 256).map pmCell), .non, iv (wr (((s.size : Nat) : Int) - 1)), .non, .non, .non, .non, .non])) (runW Tryz.prog GLv Γ132 (s.size + 2) cfT40 [.val (.string s), .val (.string (⟨[43, 45].toArray⟩ : ByteArray))] Tryz.f118 2 (s.size + 2) (stL Tryz.f118.ntmps [.val (.string s), .val (.string (⟨[43, 45].toArray⟩ : ByteArray)), .non, .non, .non, .non, .non, .non, .non, .non, .non, .non, .non, iv (((s.size : Nat) : Int))])))) from by kernel_rfl).trans ?_
 rw [show ((⟨[43, 45].toArray⟩ : ByteArray).toList == (⟨[].toArray⟩ : ByteArray).toList) = false by rw [tl_eq, tl_eq]; rfl]
 simp only [cond_false]
 by_cases c1 : ((s.size : Nat) : Int) = 1
 ·rw [show (((s.size : Nat) : Int) == 1) = true by rw [c1]; rfl]
  have hs : s.size = 1 := by omega
  have hb := asc_at h2 (show 0 < s.data.toList.length by rw [<- sz_eq]; omega)
  have hv : byteA s 0 = ((s.data.toList.getD 0 0).toNat : Int) := rfl
  have hw : IntKind.i32.wrap (byteA s (0 : Int).toNat) = byteA s 0 := by rw [IntKind.wrap_i32, Int.toNat_zero]; omega
  rw [hw, ib_pm, byte_u8, decide_eq_false (show ¬ byteA s 0 >= 128 by omega), decide_eq_true (show byteA s 0 < 128 by omega), decide_eq_true (show 0 <= byteA s 0 by omega), decide_eq_true (show (0 : Int) < (s.size : Int) by omega)]
  unfold lastPM
  rw [<- sz_eq, hs, show lastF s.data.toList 1 = if isPM (s.data.toList.getD 0 0) then ((0 : Nat) : Int) else -1 from rfl]
  cases isPM (s.data.toList.getD 0 0) <;> rfl
 ·rw [show (((s.size : Nat) : Int) == 1) = false by rw [beq_eq_false_iff_ne]; exact c1]
  simp only [cond_false]
  unfold lastPM
  rw [<- sz_eq]
  by_cases c2 : 8 < ((s.size : Nat) : Int)
  ·rw [decide_eq_true c2, wr_in (by omega) (by omega), cond_true]
   exact la_run _ s h1 s.size _ (Nat.le_refl _) (by omega)
  ·rw [decide_eq_false c2, cond_false]
   exact lb_run _ s h1 h2 s.size _ (Nat.le_refl _) (by omega)
theorem m118 : MT 118 s118 := by
 refine meetsW mix0 G132 Tryz.func118 (by kernel_rfl) (by kernel_rfl) s118 fun args x h => ?_
 unfold s118 at h
 split at h
 ·rename_i s p
  obtain ⟨hp, rfl⟩ := sm_inj h
  exact ⟨_, _, by kernel_rfl, e118 s p hp⟩
 ·cases h
noncomputable abbrev Γ133 : LC := (118, s118) :: Γ132
theorem G133 : SD Γ133 := G132.cons m118
end Go.Proofs.YtlcopddgplbdhaaGreatDoor
