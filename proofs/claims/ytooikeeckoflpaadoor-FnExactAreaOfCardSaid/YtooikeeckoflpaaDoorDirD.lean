/- Directions under turns and flips. -/
import Derived.Test.YtooikeeckoflpaaDoorMeetC
set_option linter.unusedVariables false
set_option linter.unusedSimpArgs false
namespace Go.Ev

/-- (A', B') is (A, B) times 2, r or 2r. -/
def Times (A B A' B' : Int) : Prop := (A' = 2 * A ∧ B' = 2 * B) ∨ (A' = 2 * B ∧ B' = A) ∨ (A' = 4 * B ∧ B' = 2 * A)
theorem Times.sg {A B A' B' : Int} (h : Times A B A' B') : sgZ A' B' = sgZ A B := by
  have h2 : ∀ A B : Int, sgZ (2 * A) (2 * B) = sgZ A B := fun A B => by
    have := sgZ_scale A B 1
    rw [Int.pow_one, Int.mul_comm A, Int.mul_comm B] at this
    exact this
  have hr : ∀ A B : Int, sgZ (2 * B) A = sgZ A B := fun A B => by
    have := sgZ_mul 0 1 A B
    rw [show (0 : Int) * A + 2 * 1 * B = 2 * B by omega, show (0 : Int) * B + 1 * A = A by omega, show sgZ 0 1 = 1 from rfl, Int.one_mul] at this
    exact this
  rcases h with ⟨rfl, rfl⟩ | ⟨rfl, rfl⟩ | ⟨rfl, rfl⟩
  · exact h2 A B
  · exact hr _ B
  · rw [show 4 * B = 2 * (2 * B) by omega, h2, hr]
theorem Times.zero {A B A' B' : Int} (h : Times A B A' B') (h1 : A = 0) (h2 : B = 0) : A' = 0 ∧ B' = 0 := by
  rcases h with ⟨e, e'⟩ | ⟨e, e'⟩ | ⟨e, e'⟩ <;> omega
theorem Times.neg {A B A' B' : Int} (h : Times A B A' B') : Times (-A) (-B) (-A') (-B') := by
  rcases h with ⟨e, e'⟩ | ⟨e, e'⟩ | ⟨e, e'⟩
  · exact .inl (by omega)
  · exact .inr (.inl (by omega))
  · exact .inr (.inr (by omega))
theorem vC1_8 : vC1 8 = -1 := rfl
theorem vE1_8 : vE1 8 = 0 := rfl
theorem vC2_8 : vC2 8 = 0 := rfl
theorem vE2_8 : vE2 8 = 0 := rfl
theorem vC1_9 : vC1 9 = -1 := rfl
theorem vE1_9 : vE1 9 = 0 := rfl
theorem vC2_9 : vC2 9 = 1 := rfl
theorem vE2_9 : vE2 9 = -1 := rfl
/-- A turn by 45 degrees: two directions on. -/
theorem turn_low {e : Int} (he : inB e 0 7 = true) (w : V4) : Times (dtA e w) (dtB e w) (dtA (e + 2) (tv 1 w)) (dtB (e + 2) (tv 1 w)) ∧ Times (crA e w) (crB e w) (crA (e + 2) (tv 1 w)) (crB (e + 2) (tv 1 w)) := by
  unfold dtA dtB crA crB
  rw [(tv_all w).2.1]
  rcases t8 he with rfl | rfl | rfl | rfl | rfl | rfl | rfl | rfl
  · rw [show (0 : Int) + 2 = 2 from rfl]
    simp only [vC1_0, vE1_0, vC2_0, vE2_0, vC1_2, vE1_2, vC2_2, vE2_2]
    exact ⟨.inr (.inr (by omega)), .inr (.inr (by omega))⟩
  · rw [show (1 : Int) + 2 = 3 from rfl]
    simp only [vC1_1, vE1_1, vC2_1, vE2_1, vC1_3, vE1_3, vC2_3, vE2_3]
    exact ⟨.inl (by omega), .inl (by omega)⟩
  · rw [show (2 : Int) + 2 = 4 from rfl]
    simp only [vC1_2, vE1_2, vC2_2, vE2_2, vC1_4, vE1_4, vC2_4, vE2_4]
    exact ⟨.inr (.inl (by omega)), .inr (.inl (by omega))⟩
  · rw [show (3 : Int) + 2 = 5 from rfl]
    simp only [vC1_3, vE1_3, vC2_3, vE2_3, vC1_5, vE1_5, vC2_5, vE2_5]
    exact ⟨.inl (by omega), .inl (by omega)⟩
  · rw [show (4 : Int) + 2 = 6 from rfl]
    simp only [vC1_4, vE1_4, vC2_4, vE2_4, vC1_6, vE1_6, vC2_6, vE2_6]
    exact ⟨.inr (.inr (by omega)), .inr (.inr (by omega))⟩
  · rw [show (5 : Int) + 2 = 7 from rfl]
    simp only [vC1_5, vE1_5, vC2_5, vE2_5, vC1_7, vE1_7, vC2_7, vE2_7]
    exact ⟨.inl (by omega), .inl (by omega)⟩
  · rw [show (6 : Int) + 2 = 8 from rfl]
    simp only [vC1_6, vE1_6, vC2_6, vE2_6, vC1_8, vE1_8, vC2_8, vE2_8]
    exact ⟨.inr (.inl (by omega)), .inr (.inl (by omega))⟩
  · rw [show (7 : Int) + 2 = 9 from rfl]
    simp only [vC1_7, vE1_7, vC2_7, vE2_7, vC1_9, vE1_9, vC2_9, vE2_9]
    exact ⟨.inl (by omega), .inl (by omega)⟩
theorem turn_all {e : Int} (he : inB e 0 15 = true) (w : V4) : Times (dtA e w) (dtB e w) (dtA ((e + 2) % 16) (tv 1 w)) (dtB ((e + 2) % 16) (tv 1 w)) ∧ Times (crA e w) (crB e w) (crA ((e + 2) % 16) (tv 1 w)) (crB ((e + 2) % 16) (tv 1 w)) := by
  have h := inB_iff.1 he
  by_cases h8 : e < 8
  · rw [show (e + 2) % 16 = e + 2 by omega]
    exact turn_low (inB_iff.2 (by omega)) w
  · have hd : inB (e - 8) 0 7 = true := inB_iff.2 (by omega)
    obtain ⟨t1, t2⟩ := turn_low hd w
    obtain ⟨a1, a2, a3, a4⟩ := opp_all hd w
    rw [show e - 8 + 8 = e by omega] at a1 a2 a3 a4
    rw [a1, a2, a3, a4]
    have fin : dtA ((e + 2) % 16) (tv 1 w) = -dtA (e - 8 + 2) (tv 1 w) ∧ dtB ((e + 2) % 16) (tv 1 w) = -dtB (e - 8 + 2) (tv 1 w) ∧ crA ((e + 2) % 16) (tv 1 w) = -crA (e - 8 + 2) (tv 1 w) ∧ crB ((e + 2) % 16) (tv 1 w) = -crB (e - 8 + 2) (tv 1 w) := by
      by_cases h14 : e < 14
      · have hd2 : inB (e - 8 + 2) 0 7 = true := inB_iff.2 (by omega)
        obtain ⟨b1, b2, b3, b4⟩ := opp_all hd2 (tv 1 w)
        rw [show (e + 2) % 16 = e - 8 + 2 + 8 by omega]
        exact ⟨b3, b4, b1, b2⟩
      · have hd2 : inB (e - 14) 0 7 = true := inB_iff.2 (by omega)
        obtain ⟨b1, b2, b3, b4⟩ := opp_all hd2 (tv 1 w)
        rw [show (e + 2) % 16 = e - 14 by omega, show e - 8 + 2 = e - 14 + 8 by omega]
        exact ⟨by omega, by omega, by omega, by omega⟩
    rw [fin.1, fin.2.1, fin.2.2.1, fin.2.2.2]
    exact ⟨t1.neg, t2.neg⟩
theorem isDir_turn1 {e : Int} {w : V4} (he : inB e 0 15 = true) (h : isDir e w) : isDir ((e + 2) % 16) (tv 1 w) := by
  obtain ⟨t1, t2⟩ := turn_all he w
  obtain ⟨z1, z2⟩ := t2.zero h.1 h.2.1
  exact ⟨z1, z2, by rw [t1.sg]; exact h.2.2⟩
theorem isDir_db {e : Int} {w : V4} : isDir e (db w) ↔ isDir e w := by
  have h1 : crA e (db w) = 2 * crA e w := by unfold crA db; grind
  have h2 : crB e (db w) = 2 * crB e w := by unfold crB db; grind
  have h3 : dtA e (db w) = 2 * dtA e w := by unfold dtA db; grind
  have h4 : dtB e (db w) = 2 * dtB e w := by unfold dtB db; grind
  have hs : sgZ (2 * dtA e w) (2 * dtB e w) = sgZ (dtA e w) (dtB e w) := Times.sg (.inl ⟨rfl, rfl⟩)
  unfold isDir
  rw [h1, h2, h3, h4, hs]
  constructor <;> rintro ⟨a, b, c⟩ <;> exact ⟨by omega, by omega, c⟩
theorem isDir_turn {e : Int} {w : V4} (he : inB e 0 15 = true) (h : isDir e w) : ∀ n : Nat, n < 8 → isDir ((e + 2 * n) % 16) (tv n w)
  | 0, _ => by
    have h' := inB_iff.1 he
    rw [show (e + 2 * ((0 : Nat) : Int)) % 16 = e by omega, show ((0 : Nat) : Int) = 0 from rfl, (tv_all w).1]
    exact isDir_db.2 h
  | n + 1, hn => by
    have ih := isDir_turn he h n (by omega)
    have hb : inB ((e + 2 * n) % 16) 0 15 = true := inB_iff.2 (by omega)
    have k := isDir_turn1 hb ih
    have ht : inB (n : Int) 0 7 = true := inB_iff.2 (by omega)
    rw [tv_one ht, show ((n : Int) + 1) % 8 = ((n + 1 : Nat) : Int) by omega] at k
    have k := isDir_db.1 k
    rw [show (((e + 2 * n) % 16) + 2) % 16 = (e + 2 * ((n + 1 : Nat) : Int)) % 16 by omega] at k
    exact k
/-- A flip: the direction's negative. -/
theorem flip_low {e : Int} (he : inB e 0 7 = true) (w : V4) : dtA ((16 - e) % 16) (fl true w) = dtA e w ∧ dtB ((16 - e) % 16) (fl true w) = dtB e w ∧ crA ((16 - e) % 16) (fl true w) = -crA e w ∧ crB ((16 - e) % 16) (fl true w) = -crB e w := by
  have hv : vC1 ((16 - e) % 16) = vC1 e ∧ vE1 ((16 - e) % 16) = vE1 e ∧ vC2 ((16 - e) % 16) = -vC2 e ∧ vE2 ((16 - e) % 16) = -vE2 e := by
    rcases t8 he with rfl | rfl | rfl | rfl | rfl | rfl | rfl | rfl <;> decide
  obtain ⟨h1, h2, h3, h4⟩ := hv
  unfold dtA dtB crA crB fl
  rw [h1, h2, h3, h4]
  refine ⟨?_, ?_, ?_, ?_⟩ <;> simp only [cond_true] <;> grind
end Go.Ev
