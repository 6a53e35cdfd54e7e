/- Contracts of the program's functions, by the evaluator. -/
import Derived.Test.YtkmeacninbnmaaaDoorU4
import Derived.Test.YtkmeacninbnmaaaDoorPlS
namespace Go.Proofs.YtkmeacninbnmaaaDoor
open Go.Ev Go.RowKit
set_option linter.unusedVariables false
set_option linter.unusedSimpArgs false
set_option maxRecDepth 100000

-- impl.CertificateText
def s8 : Ctr := fun
  | [.agg [.val (.int .i64 c_k), .val (.int .i64 c_a), .val (.int .i64 c_b), .arr a_n [.int .i64] a_c, .arr d_n [.int .i64, .int .i64, .int .i64, .int .i64] d_c]] => some (Nat.ble d_n 1048576, .val (.string ⟨(cond (certB (ordVI a_n a_c) c_k c_a c_b a_n d_n d_c) (certL c_k c_a c_b (sqN a_n) a_c d_n d_c) []).toArray⟩))
  | _ => none

theorem e8 (c_k : Int) (c_a : Int) (c_b : Int) (a_n : Nat) (a_c : Nat → Nat → Int) (d_n : Nat) (d_c : Nat → Nat → Int) (hp : (Nat.ble d_n 1048576) = true) : evN Tryd.prog GLv Γ62 (0) []  Tryd.f8 [.agg [.val (.int .i64 c_k), .val (.int .i64 c_a), .val (.int .i64 c_b), .arr a_n [.int .i64] a_c, .arr d_n [.int .i64, .int .i64, .int .i64, .int .i64] d_c]] = some (.val (.string ⟨(cond (certB (ordVI a_n a_c) c_k c_a c_b a_n d_n d_c) (certL c_k c_a c_b (sqN a_n) a_c d_n d_c) []).toArray⟩)) := by
  refine (show _ = cond (Nat.ble d_n 1048576) (cond (!(certB (ordVI a_n a_c) c_k c_a c_b a_n d_n d_c)) (some (.val (.string ⟨([]).toArray⟩))) (cond (certB (ordVI a_n a_c) c_k c_a c_b a_n d_n d_c) (some (.val (.string ⟨(certL c_k c_a c_b (sqN a_n) a_c d_n d_c).toArray⟩))) (none))) (none) from by kernel_rfl).trans ?_
  rw [hp]
  cases certB (ordVI a_n a_c) c_k c_a c_b a_n d_n d_c <;> rfl
theorem m8 : Meets Tryd.prog GLv 8 s8 := by
  refine meetsN mix0 glv G62 Tryd.func8 (by kernel_rfl) (by kernel_rfl) s8 fun args x h => ?_
  unfold s8 at h
  split at h
  · rename_i c_k c_a c_b a_n a_c d_n d_c
    simp only [Option.some.injEq, Prod.mk.injEq] at h
    obtain ⟨hp, rfl⟩ := h
    exact ⟨_, _, by kernel_rfl, e8 c_k c_a c_b a_n a_c d_n d_c hp⟩
  · cases h
abbrev Γ63 : List (Nat × Ctr) := (8, s8) :: Γ62
theorem G63 : Sound Tryd.prog GLv Γ63 := G62.cons m8

-- spec.CertificateText
def s6 : Ctr := fun
  | [.agg [.val (.int .i64 c_k), .val (.int .i64 c_a), .val (.int .i64 c_b), .arr a_n [.int .i64] a_c, .arr d_n [.int .i64, .int .i64, .int .i64, .int .i64] d_c]] => some (Nat.ble d_n 1048576 && (ordVS a_n a_c == ordVI a_n a_c), .val (.string ⟨(cond (certB (ordVI a_n a_c) c_k c_a c_b a_n d_n d_c) (certL c_k c_a c_b (sqN a_n) a_c d_n d_c) []).toArray⟩))
  | _ => none

theorem e6 (c_k : Int) (c_a : Int) (c_b : Int) (a_n : Nat) (a_c : Nat → Nat → Int) (d_n : Nat) (d_c : Nat → Nat → Int) (hp : (Nat.ble d_n 1048576 && (ordVS a_n a_c == ordVI a_n a_c)) = true) : evN Tryd.prog GLv Γ63 (0) []  Tryd.f6 [.agg [.val (.int .i64 c_k), .val (.int .i64 c_a), .val (.int .i64 c_b), .arr a_n [.int .i64] a_c, .arr d_n [.int .i64, .int .i64, .int .i64, .int .i64] d_c]] = some (.val (.string ⟨(cond (certB (ordVI a_n a_c) c_k c_a c_b a_n d_n d_c) (certL c_k c_a c_b (sqN a_n) a_c d_n d_c) []).toArray⟩)) := by
  rw [Bool.and_eq_true, beq_iff_eq] at hp
  refine (show _ = cond (Nat.ble d_n 1048576) (cond (!(certB (ordVS a_n a_c) c_k c_a c_b a_n d_n d_c)) (some (.val (.string ⟨([]).toArray⟩))) (cond (certB (ordVI a_n a_c) c_k c_a c_b a_n d_n d_c) (some (.val (.string ⟨(certL c_k c_a c_b (sqN a_n) a_c d_n d_c).toArray⟩))) (none))) (none) from by kernel_rfl).trans ?_
  rw [hp.1, hp.2]
  cases certB (ordVI a_n a_c) c_k c_a c_b a_n d_n d_c <;> rfl
theorem m6 : Meets Tryd.prog GLv 6 s6 := by
  refine meetsN mix0 glv G63 Tryd.func6 (by kernel_rfl) (by kernel_rfl) s6 fun args x h => ?_
  unfold s6 at h
  split at h
  · rename_i c_k c_a c_b a_n a_c d_n d_c
    simp only [Option.some.injEq, Prod.mk.injEq] at h
    obtain ⟨hp, rfl⟩ := h
    exact ⟨_, _, by kernel_rfl, e6 c_k c_a c_b a_n a_c d_n d_c hp⟩
  · cases h
abbrev Γ64 : List (Nat × Ctr) := (6, s6) :: Γ63
theorem G64 : Sound Tryd.prog GLv Γ64 := G63.cons m6

-- laws.szCertificate
def s5 : Ctr := fun
  | [.agg [.val (.int .i64 a_k), .val (.int .i64 a_a), .val (.int .i64 a_b), .arr a_n [.int .i64] a_c, .arr a_m [.int .i64, .int .i64, .int .i64, .int .i64] a_d], .val (.int .i64 l)] => some (true, iv (szT a_n a_m l))
  | _ => none

theorem e5 (a_k : Int) (a_a : Int) (a_b : Int) (a_n : Nat) (a_c : Nat → Nat → Int) (a_m : Nat) (a_d : Nat → Nat → Int) (l : Int) : evN Tryd.prog GLv Γ64 (0) []  Tryd.f5 [.agg [.val (.int .i64 a_k), .val (.int .i64 a_a), .val (.int .i64 a_b), .arr a_n [.int .i64] a_c, .arr a_m [.int .i64, .int .i64, .int .i64, .int .i64] a_d], .val (.int .i64 l)] = some (iv (szT a_n a_m l)) := by
  refine (show _ = cond (decide (szF a_n l < 0)) (some (iv (-1))) (cond (decide (szF a_m (szF a_n l) < 0)) (some (iv (-1))) (some (iv (szF a_m (szF a_n l))))) from by kernel_rfl).trans ?_
  unfold szT
  cases decide (szF a_n l < 0) <;> cases decide (szF a_m (szF a_n l) < 0) <;> rfl
theorem m5 : Meets Tryd.prog GLv 5 s5 := by
  refine meetsN mix0 glv G64 Tryd.func5 (by kernel_rfl) (by kernel_rfl) s5 fun args x h => ?_
  unfold s5 at h
  split at h
  · rename_i a_k a_a a_b a_n a_c a_m a_d l
    simp only [Option.some.injEq, Prod.mk.injEq] at h
    obtain ⟨hp, rfl⟩ := h
    exact ⟨_, _, by kernel_rfl, e5 a_k a_a a_b a_n a_c a_m a_d l⟩
  · cases h
abbrev Γ65 : List (Nat × Ctr) := (5, s5) :: Γ64
theorem G65 : Sound Tryd.prog GLv Γ65 := G64.cons m5

-- laws.toCertificate
def s7 : Ctr := fun
  | [.agg [.val (.int .i64 a_k), .val (.int .i64 a_a), .val (.int .i64 a_b), .arr a_n [.int .i64] a_c, .arr a_m [.int .i64, .int .i64, .int .i64, .int .i64] a_d]] => some (Nat.ble a_n 1048576 && Nat.ble a_m 1048576, .agg [.val (.int .i64 a_k), .val (.int .i64 a_a), .val (.int .i64 a_b), .arr a_n [.int .i64] (cpC 1 a_n a_c), .arr a_m [.int .i64, .int .i64, .int .i64, .int .i64] (cpC 4 a_m a_d)])
  | _ => none

theorem e7 (a_k : Int) (a_a : Int) (a_b : Int) (a_n : Nat) (a_c : Nat → Nat → Int) (a_m : Nat) (a_d : Nat → Nat → Int) (hp : (Nat.ble a_n 1048576 && Nat.ble a_m 1048576) = true) : evN Tryd.prog GLv Γ65 (0) []  Tryd.f7 [.agg [.val (.int .i64 a_k), .val (.int .i64 a_a), .val (.int .i64 a_b), .arr a_n [.int .i64] a_c, .arr a_m [.int .i64, .int .i64, .int .i64, .int .i64] a_d]] = some (.agg [.val (.int .i64 a_k), .val (.int .i64 a_a), .val (.int .i64 a_b), .arr a_n [.int .i64] (cpC 1 a_n a_c), .arr a_m [.int .i64, .int .i64, .int .i64, .int .i64] (cpC 4 a_m a_d)]) := by
  simp only [Bool.and_eq_true] at hp
  refine (show _ = cond (Nat.ble a_n 1048576) (cond (Nat.ble a_m 1048576) (some (.agg [.val (.int .i64 a_k), .val (.int .i64 a_a), .val (.int .i64 a_b), .arr a_n [.int .i64] (cpC 1 a_n a_c), .arr a_m [.int .i64, .int .i64, .int .i64, .int .i64] (cpC 4 a_m a_d)])) (none)) (none) from by kernel_rfl).trans ?_
  rw [hp.1, hp.2]
  rfl
theorem m7 : Meets Tryd.prog GLv 7 s7 := by
  refine meetsN mix0 glv G65 Tryd.func7 (by kernel_rfl) (by kernel_rfl) s7 fun args x h => ?_
  unfold s7 at h
  split at h
  · rename_i a_k a_a a_b a_n a_c a_m a_d
    simp only [Option.some.injEq, Prod.mk.injEq] at h
    obtain ⟨hp, rfl⟩ := h
    exact ⟨_, _, by kernel_rfl, e7 a_k a_a a_b a_n a_c a_m a_d hp⟩
  · cases h
abbrev Γ66 : List (Nat × Ctr) := (7, s7) :: Γ65
theorem G66 : Sound Tryd.prog GLv Γ66 := G65.cons m7

-- laws.eqCertificate
def s9 : Ctr := fun
  | [.agg [.val (.int .i64 a_k), .val (.int .i64 a_a), .val (.int .i64 a_b), .arr a_n [.int .i64] a_c, .arr a_m [.int .i64, .int .i64, .int .i64, .int .i64] a_d], .agg [.val (.int .i64 b_k), .val (.int .i64 b_a), .val (.int .i64 b_b), .arr b_n [.int .i64] b_c, .arr b_m [.int .i64, .int .i64, .int .i64, .int .i64] b_d]] => some (Nat.ble a_n 1048576 && Nat.ble a_m 1048576, bv (a_k == b_k && (a_a == b_a && (a_b == b_b && (eqC 1 a_n a_c b_n b_c && (eqC 4 a_m a_d b_m b_d && true))))))
  | _ => none

theorem e9 (a_k : Int) (a_a : Int) (a_b : Int) (a_n : Nat) (a_c : Nat → Nat → Int) (a_m : Nat) (a_d : Nat → Nat → Int) (b_k : Int) (b_a : Int) (b_b : Int) (b_n : Nat) (b_c : Nat → Nat → Int) (b_m : Nat) (b_d : Nat → Nat → Int) (hp : (Nat.ble a_n 1048576 && Nat.ble a_m 1048576) = true) : evN Tryd.prog GLv Γ66 (0) []  Tryd.f9 [.agg [.val (.int .i64 a_k), .val (.int .i64 a_a), .val (.int .i64 a_b), .arr a_n [.int .i64] a_c, .arr a_m [.int .i64, .int .i64, .int .i64, .int .i64] a_d], .agg [.val (.int .i64 b_k), .val (.int .i64 b_a), .val (.int .i64 b_b), .arr b_n [.int .i64] b_c, .arr b_m [.int .i64, .int .i64, .int .i64, .int .i64] b_d]] = some (bv (a_k == b_k && (a_a == b_a && (a_b == b_b && (eqC 1 a_n a_c b_n b_c && (eqC 4 a_m a_d b_m b_d && true)))))) := by
  simp only [Bool.and_eq_true] at hp
  refine (show _ = cond (!(a_k == b_k)) (some (bv false)) (cond (!(a_a == b_a)) (some (bv false)) (cond (!(a_b == b_b)) (some (bv false)) (cond (Nat.ble a_n 1048576) (cond (!(eqC 1 a_n a_c b_n b_c)) (some (bv false)) (cond (Nat.ble a_m 1048576) (cond (!(eqC 4 a_m a_d b_m b_d)) (some (bv false)) (some (bv true))) (none))) (none)))) from by kernel_rfl).trans ?_
  rw [hp.1, hp.2]
  cases a_k == b_k <;> cases a_a == b_a <;> cases a_b == b_b <;> cases eqC 1 a_n a_c b_n b_c <;> cases eqC 4 a_m a_d b_m b_d <;> rfl
theorem m9 : Meets Tryd.prog GLv 9 s9 := by
  refine meetsN mix0 glv G66 Tryd.func9 (by kernel_rfl) (by kernel_rfl) s9 fun args x h => ?_
  unfold s9 at h
  split at h
  · rename_i a_k a_a a_b a_n a_c a_m a_d b_k b_a b_b b_n b_c b_m b_d
    simp only [Option.some.injEq, Prod.mk.injEq] at h
    obtain ⟨hp, rfl⟩ := h
    exact ⟨_, _, by kernel_rfl, e9 a_k a_a a_b a_n a_c a_m a_d b_k b_a b_b b_n b_c b_m b_d hp⟩
  · cases h
abbrev Γ67 : List (Nat × Ctr) := (9, s9) :: Γ66
theorem G67 : Sound Tryd.prog GLv Γ67 := G66.cons m9

-- laws.FnExactCertificateText
def s3 : Ctr := fun
  | [.agg [.val (.int .i64 a_k), .val (.int .i64 a_a), .val (.int .i64 a_b), .arr a_n [.int .i64] a_c, .arr a_m [.int .i64, .int .i64, .int .i64, .int .i64] a_d]] => some (Nat.ble a_n 9223372036854775807 && (Nat.ble a_m 9223372036854775807 && allF (fun i => inB (a_c i 0) (-9223372036854775808) 9223372036854775807) 0 a_n), bv true)
  | _ => none

theorem e3 (a_k : Int) (a_a : Int) (a_b : Int) (a_n : Nat) (a_c : Nat → Nat → Int) (a_m : Nat) (a_d : Nat → Nat → Int) (hp : (Nat.ble a_n 9223372036854775807 && (Nat.ble a_m 9223372036854775807 && allF (fun i => inB (a_c i 0) (-9223372036854775808) 9223372036854775807) 0 a_n)) = true) : evN Tryd.prog GLv Γ67 (0) []  Tryd.f3 [.agg [.val (.int .i64 a_k), .val (.int .i64 a_a), .val (.int .i64 a_b), .arr a_n [.int .i64] a_c, .arr a_m [.int .i64, .int .i64, .int .i64, .int .i64] a_d]] = some (bv true) := by
  simp only [Bool.and_eq_true] at hp
  obtain ⟨h1, h2, h3⟩ := hp
  have h1 := Nat.le_of_ble_eq_true h1
  have h2 := Nat.le_of_ble_eq_true h2
  refine (show _ = cond (decide (szT a_n a_m 1048576 < 0)) (some (bv true)) (cond ((Nat.ble a_n 1048576 && Nat.ble a_m 1048576)) (cond ((Nat.ble a_m 1048576 && (ordVS a_n (cpC 1 a_n a_c) == ordVI a_n (cpC 1 a_n a_c)))) (cond ((Nat.ble a_n 1048576 && Nat.ble a_m 1048576)) (cond (Nat.ble a_m 1048576) (cond (!((⟨(cond (certB (ordVI a_n (cpC 1 a_n a_c)) a_k a_a a_b a_n a_m (cpC 4 a_m a_d)) (certL a_k a_a a_b (sqN a_n) (cpC 1 a_n a_c) a_m (cpC 4 a_m a_d)) []).toArray⟩ : ByteArray).toList == (⟨(cond (certB (ordVI a_n (cpC 1 a_n a_c)) a_k a_a a_b a_n a_m (cpC 4 a_m a_d)) (certL a_k a_a a_b (sqN a_n) (cpC 1 a_n a_c) a_m (cpC 4 a_m a_d)) []).toArray⟩ : ByteArray).toList)) (some (bv false)) (cond ((Nat.ble a_n 1048576 && Nat.ble a_m 1048576)) (cond ((Nat.ble a_n 1048576 && Nat.ble a_m 1048576)) (cond (!(a_k == a_k && (a_a == a_a && (a_b == a_b && (eqC 1 a_n (cpC 1 a_n a_c) a_n (cpC 1 a_n a_c) && (eqC 4 a_m (cpC 4 a_m a_d) a_m (cpC 4 a_m a_d) && true)))))) (some (bv false)) (some (bv true))) (none)) (none))) (none)) (none)) (none)) (none)) from by kernel_rfl).trans ?_
  by_cases hs : szT a_n a_m 1048576 < 0
  · rw [show decide (szT a_n a_m 1048576 < 0) = true from decide_eq_true hs]; rfl
  · obtain ⟨k1, k2⟩ := szT_ok h1 h2 (by omega)
    have q1 : Nat.ble a_n 1048576 = true := Nat.ble_eq_true_of_le k1
    have q2 : Nat.ble a_m 1048576 = true := Nat.ble_eq_true_of_le k2
    rw [show decide (szT a_n a_m 1048576 < 0) = false from decide_eq_false hs, q1, q2, ordV_eq a_n _ (cp1_rng h3)]
    simp only [cond_true, cond_false, Bool.and_self, beq_self_eq_true, eqC_self, Bool.not_true, Bool.true_and]
theorem m3 : Meets Tryd.prog GLv 3 s3 := by
  refine meetsN mix0 glv G67 Tryd.func3 (by kernel_rfl) (by kernel_rfl) s3 fun args x h => ?_
  unfold s3 at h
  split at h
  · rename_i a_k a_a a_b a_n a_c a_m a_d
    simp only [Option.some.injEq, Prod.mk.injEq] at h
    obtain ⟨hp, rfl⟩ := h
    exact ⟨_, _, by kernel_rfl, e3 a_k a_a a_b a_n a_c a_m a_d hp⟩
  · cases h
abbrev Γ68 : List (Nat × Ctr) := (3, s3) :: Γ67
theorem G68 : Sound Tryd.prog GLv Γ68 := G67.cons m3

end Go.Proofs.YtkmeacninbnmaaaDoor
