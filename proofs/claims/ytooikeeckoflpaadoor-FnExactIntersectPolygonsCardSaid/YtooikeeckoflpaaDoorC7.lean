/- Contracts of the program's functions, by the evaluator. -/
import Derived.Test.YtooikeeckoflpaaDoorC6
import Derived.Test.YtooikeeckoflpaaDoorPlD
namespace Go.Proofs.YtooikeeckoflpaaDoor
open Go.Ev
set_option linter.unusedVariables false
set_option linter.unusedSimpArgs false
set_option maxRecDepth 100000

-- laws.szPointS
def s7 : Ctr := fun
  | [.arr a_n [.int .i64, .int .i64, .int .i64, .int .i64, .int .i64, .int .i64] a_c, .val (.int .i64 l)] => some (true, iv (szF a_n l))
  | _ => none

theorem e7 (a_n : Nat) (a_c : Nat → Nat → Int) (l : Int) : evN Tryd.prog GLv Γ79 (0) []  Tryd.f7 [.arr a_n [.int .i64, .int .i64, .int .i64, .int .i64, .int .i64, .int .i64] a_c, .val (.int .i64 l)] = some (iv (szF a_n l)) := by
  refine (show _ = cond (decide (wr (l - (a_n : Int)) < 0)) (some (iv (-1))) (some (iv (wr (l - (a_n : Int))))) from by kernel_rfl).trans ?_
  unfold szF
  cases decide (wr (l - (a_n : Int)) < 0) <;> rfl
theorem m7 : Meets Tryd.prog GLv 7 s7 := by
  refine meetsN mix0 glv G79 Tryd.func7 (by kernel_rfl) (by kernel_rfl) s7 fun args x h => ?_
  unfold s7 at h
  split at h
  · rename_i a_n a_c l
    simp only [Option.some.injEq, Prod.mk.injEq] at h
    obtain ⟨hp, rfl⟩ := h
    exact ⟨_, _, by kernel_rfl, e7 a_n a_c l⟩
  · cases h
abbrev Γ80 : List (Nat × Ctr) := (7, s7) :: Γ79
theorem G80 : Sound Tryd.prog GLv Γ80 := G79.cons m7

-- laws.toPointS
def s9 : Ctr := fun
  | [.arr a_n [.int .i64, .int .i64, .int .i64, .int .i64, .int .i64, .int .i64] a_c] => some (Nat.ble a_n 1048576, .row true 62 a_n [.int .i64, .int .i64, .int .i64, .int .i64, .int .i64, .int .i64] (cpC 6 a_n a_c))
  | _ => none

theorem r9_step (K n a_n : Nat) (a_c d : Nat → Nat → Int) (i : Nat) : runW Tryd.prog GLv Γ80 K ⟨[true, false, false, true, true], [], [(7, [0])], 1, []⟩ [.arr a_n [.int .i64, .int .i64, .int .i64, .int .i64, .int .i64, .int .i64] a_c] Tryd.f9 0 (n + 1) (st2 Tryd.f9.ntmps [.arr a_n [.int .i64, .int .i64, .int .i64, .int .i64, .int .i64, .int .i64] a_c, .non, .non, .sl Tryd.f9.ntmps a_n, iv ((i : Int))] [.row true 62 a_n [.int .i64, .int .i64, .int .i64, .int .i64, .int .i64, .int .i64] (d)]) = cond (decide ((i : Int) < (a_n : Int))) (cond (decide (0 ≤ (i : Int)) && decide ((i : Int) < (a_n : Int))) (cond (decide (0 ≤ (i : Int)) && decide ((i : Int) < (a_n : Int))) (runW Tryd.prog GLv Γ80 K ⟨[true, false, false, true, true], [], [(7, [0])], 1, []⟩ [.arr a_n [.int .i64, .int .i64, .int .i64, .int .i64, .int .i64, .int .i64] a_c] Tryd.f9 0 n (st2 Tryd.f9.ntmps [.arr a_n [.int .i64, .int .i64, .int .i64, .int .i64, .int .i64, .int .i64] a_c, .non, .non, .sl Tryd.f9.ntmps a_n, iv (wr ((i : Int) + 1))] [.row true 62 a_n [.int .i64, .int .i64, .int .i64, .int .i64, .int .i64, .int .i64] (rowSet d i 0 (rowL 6 a_c i))])) none) none) (some (.row true 62 a_n [.int .i64, .int .i64, .int .i64, .int .i64, .int .i64, .int .i64] (d))) := by kernel_rfl
theorem r9_run (K a_n : Nat) (a_c : Nat → Nat → Int) (hn : a_n ≤ 1048576) : ∀ (m i : Nat) (d : Nat → Nat → Int) (n : Nat), i + m = a_n → m < n → runW Tryd.prog GLv Γ80 K ⟨[true, false, false, true, true], [], [(7, [0])], 1, []⟩ [.arr a_n [.int .i64, .int .i64, .int .i64, .int .i64, .int .i64, .int .i64] a_c] Tryd.f9 0 n (st2 Tryd.f9.ntmps [.arr a_n [.int .i64, .int .i64, .int .i64, .int .i64, .int .i64, .int .i64] a_c, .non, .non, .sl Tryd.f9.ntmps a_n, iv ((i : Int))] [.row true 62 a_n [.int .i64, .int .i64, .int .i64, .int .i64, .int .i64, .int .i64] (d)]) = some (.row true 62 a_n [.int .i64, .int .i64, .int .i64, .int .i64, .int .i64, .int .i64] (setsF (rowL 6 a_c) i m d)) := by
  intro m
  induction m with
  | zero =>
    intro i d n h1 h2
    obtain ⟨n, rfl⟩ : ∃ n', n = n' + 1 := ⟨n - 1, by omega⟩
    rw [r9_step, nat_lt, show decide (i < a_n) = false by simp; omega]
    rfl
  | succ m ih =>
    intro i d n h1 h2
    obtain ⟨n, rfl⟩ : ∃ n', n = n' + 1 := ⟨n - 1, by omega⟩
    rw [r9_step, nat_nn, nat_lt, show decide (i < a_n) = true by simp; omega]
    simp only [Bool.and_self, cond_true]
    rw [wr_succ (by omega), ih (i + 1) _ n (by omega) (by omega)]
    rfl

theorem e9 (a_n : Nat) (a_c : Nat → Nat → Int) (hp : (Nat.ble a_n 1048576) = true) : evW Tryd.prog GLv Γ80 (a_n + 2) (⟨[true, false, false, true, true], [], [(7, [0])], 1, []⟩)  Tryd.f9 [.arr a_n [.int .i64, .int .i64, .int .i64, .int .i64, .int .i64, .int .i64] a_c] = some (.row true 62 a_n [.int .i64, .int .i64, .int .i64, .int .i64, .int .i64, .int .i64] (cpC 6 a_n a_c)) := by
  have hn := Nat.le_of_ble_eq_true hp
  refine (show _ = cond (decide (0 ≤ (a_n : Int)) && (decide ((a_n : Int) ≤ (a_n : Int)) && decide ((a_n : Int) * 48 ≤ 140737488355328))) (runW Tryd.prog GLv Γ80 (a_n + 2) ⟨[true, false, false, true, true], [], [(7, [0])], 1, []⟩ [.arr a_n [.int .i64, .int .i64, .int .i64, .int .i64, .int .i64, .int .i64] a_c] Tryd.f9 0 (a_n + 2) (st2 Tryd.f9.ntmps [.arr a_n [.int .i64, .int .i64, .int .i64, .int .i64, .int .i64, .int .i64] a_c, .non, .non, .sl Tryd.f9.ntmps a_n, iv (((0 : Nat) : Int))] [.row true 62 a_n [.int .i64, .int .i64, .int .i64, .int .i64, .int .i64, .int .i64] (zeroC)])) none from by kernel_rfl).trans ?_
  rw [nat_nn, show decide ((a_n : Int) ≤ (a_n : Int)) = true by simp, show decide ((a_n : Int) * 48 ≤ 140737488355328) = true by simp; omega]
  exact r9_run _ a_n a_c hn a_n 0 _ _ (by omega) (by omega)
theorem m9 : Meets Tryd.prog GLv 9 s9 := by
  refine meetsW mix0 G80 Tryd.func9 (by kernel_rfl) (by kernel_rfl) s9 fun args x h => ?_
  unfold s9 at h
  split at h
  · rename_i a_n a_c
    simp only [Option.some.injEq, Prod.mk.injEq] at h
    obtain ⟨hp, rfl⟩ := h
    exact ⟨_, _, by kernel_rfl, e9 a_n a_c hp⟩
  · cases h
abbrev Γ81 : List (Nat × Ctr) := (9, s9) :: Γ80
theorem G81 : Sound Tryd.prog GLv Γ81 := G80.cons m9

-- laws.eqPointS
def s12 : Ctr := fun
  | [.arr a_n [.int .i64, .int .i64, .int .i64, .int .i64, .int .i64, .int .i64] a_c, .arr b_n [.int .i64, .int .i64, .int .i64, .int .i64, .int .i64, .int .i64] b_c] => some (Nat.ble a_n 1048576, bv (eqPS a_n a_c b_n b_c))
  | _ => none

theorem r12_step (K n a_n b_n : Nat) (a_c b_c : Nat → Nat → Int) (i : Nat) : runW Tryd.prog GLv Γ81 K (cfgK [true, true, false, false, false, true]) [.arr a_n [.int .i64, .int .i64, .int .i64, .int .i64, .int .i64, .int .i64] a_c, .arr b_n [.int .i64, .int .i64, .int .i64, .int .i64, .int .i64, .int .i64] b_c] Tryd.f12 0 (n + 1) (stL Tryd.f12.ntmps [.arr a_n [.int .i64, .int .i64, .int .i64, .int .i64, .int .i64, .int .i64] a_c, .arr b_n [.int .i64, .int .i64, .int .i64, .int .i64, .int .i64, .int .i64] b_c, .non, .non, .non, iv ((i : Int))]) = cond (decide ((i : Int) < (a_n : Int))) (cond (decide (0 ≤ (i : Int)) && decide ((i : Int) < (a_n : Int))) (cond (decide (0 ≤ (i : Int)) && decide ((i : Int) < (b_n : Int))) (cond (!(eqP (pAt a_c i) (pAt b_c i))) (some (bv false)) (runW Tryd.prog GLv Γ81 K (cfgK [true, true, false, false, false, true]) [.arr a_n [.int .i64, .int .i64, .int .i64, .int .i64, .int .i64, .int .i64] a_c, .arr b_n [.int .i64, .int .i64, .int .i64, .int .i64, .int .i64, .int .i64] b_c] Tryd.f12 0 n (stL Tryd.f12.ntmps [.arr a_n [.int .i64, .int .i64, .int .i64, .int .i64, .int .i64, .int .i64] a_c, .arr b_n [.int .i64, .int .i64, .int .i64, .int .i64, .int .i64, .int .i64] b_c, .non, .non, .non, iv (wr ((i : Int) + 1))]))) none) none) (some (bv true)) := by kernel_rfl
theorem r12_run (K a_n b_n : Nat) (a_c b_c : Nat → Nat → Int) (hn : a_n ≤ 1048576) (he : a_n = b_n) : ∀ (m i : Nat) (n : Nat), i + m = a_n → m < n → runW Tryd.prog GLv Γ81 K (cfgK [true, true, false, false, false, true]) [.arr a_n [.int .i64, .int .i64, .int .i64, .int .i64, .int .i64, .int .i64] a_c, .arr b_n [.int .i64, .int .i64, .int .i64, .int .i64, .int .i64, .int .i64] b_c] Tryd.f12 0 n (stL Tryd.f12.ntmps [.arr a_n [.int .i64, .int .i64, .int .i64, .int .i64, .int .i64, .int .i64] a_c, .arr b_n [.int .i64, .int .i64, .int .i64, .int .i64, .int .i64, .int .i64] b_c, .non, .non, .non, iv ((i : Int))]) = some (bv (allF (fun i => eqP (pAt a_c i) (pAt b_c i)) i m)) := by
  intro m
  induction m with
  | zero =>
    intro i n h1 h2
    obtain ⟨n, rfl⟩ : ∃ n', n = n' + 1 := ⟨n - 1, by omega⟩
    rw [r12_step, nat_lt i a_n, show decide (i < a_n) = false by simp; omega]
    rfl
  | succ m ih =>
    intro i n h1 h2
    obtain ⟨n, rfl⟩ : ∃ n', n = n' + 1 := ⟨n - 1, by omega⟩
    rw [r12_step, nat_nn, nat_lt i a_n, nat_lt i b_n, show decide (i < a_n) = true by simp; omega, show decide (i < b_n) = true by simp; omega]
    simp only [Bool.and_self, cond_true]
    rw [wr_succ (by omega), ih (i + 1) n (by omega) (by omega)]
    simp only [allF]
    cases (eqP (pAt a_c i) (pAt b_c i)) <;> rfl

theorem e12 (a_n : Nat) (a_c : Nat → Nat → Int) (b_n : Nat) (b_c : Nat → Nat → Int) (hp : (Nat.ble a_n 1048576) = true) : evN Tryd.prog GLv Γ81 (a_n + 2) [true, true, false, false, false, true]  Tryd.f12 [.arr a_n [.int .i64, .int .i64, .int .i64, .int .i64, .int .i64, .int .i64] a_c, .arr b_n [.int .i64, .int .i64, .int .i64, .int .i64, .int .i64, .int .i64] b_c] = some (bv (eqPS a_n a_c b_n b_c)) := by
  have hn := Nat.le_of_ble_eq_true hp
  refine (show _ = cond (!((a_n : Int) == (b_n : Int))) (some (bv false)) (runW Tryd.prog GLv Γ81 (a_n + 2) (cfgK [true, true, false, false, false, true]) [.arr a_n [.int .i64, .int .i64, .int .i64, .int .i64, .int .i64, .int .i64] a_c, .arr b_n [.int .i64, .int .i64, .int .i64, .int .i64, .int .i64, .int .i64] b_c] Tryd.f12 0 (a_n + 2) (stL Tryd.f12.ntmps [.arr a_n [.int .i64, .int .i64, .int .i64, .int .i64, .int .i64, .int .i64] a_c, .arr b_n [.int .i64, .int .i64, .int .i64, .int .i64, .int .i64, .int .i64] b_c, .non, .non, .non, iv (((0 : Nat) : Int))])) from by kernel_rfl).trans ?_
  unfold eqPS
  rw [nat_beq]
  cases h : decide (a_n = b_n) with
  | false => rfl
  | true => exact r12_run _ a_n b_n a_c b_c hn (of_decide_eq_true h) a_n 0 _ (by omega) (by omega)
theorem m12 : Meets Tryd.prog GLv 12 s12 := by
  refine meetsN mix0 glv G81 Tryd.func12 (by kernel_rfl) (by kernel_rfl) s12 fun args x h => ?_
  unfold s12 at h
  split at h
  · rename_i a_n a_c b_n b_c
    simp only [Option.some.injEq, Prod.mk.injEq] at h
    obtain ⟨hp, rfl⟩ := h
    exact ⟨_, _, by kernel_rfl, e12 a_n a_c b_n b_c hp⟩
  · cases h
abbrev Γ82 : List (Nat × Ctr) := (12, s12) :: Γ81
theorem G82 : Sound Tryd.prog GLv Γ82 := G81.cons m12

-- impl.area
def s29 : Ctr := fun
  | [.arr a_n [.int .i64, .int .i64, .int .i64, .int .i64, .int .i64, .int .i64] a_c] => some (inB a_n 1 16 && allP a_n a_c, (arC a_n a_c).av)
  | _ => none

theorem r29_step (K n a_n : Nat) (a_c : Nat → Nat → Int) (i : Nat) (s : N3) : runW Tryd.prog GLv Γ82 K (cfgK [true, false, true, true, false, false, true, true, true]) [.arr a_n [.int .i64, .int .i64, .int .i64, .int .i64, .int .i64, .int .i64] a_c] Tryd.f29 0 (n + 1) (stL Tryd.f29.ntmps [.arr a_n [.int .i64, .int .i64, .int .i64, .int .i64, .int .i64, .int .i64] a_c, .non, .own 25 [iv 0, iv 0, iv 0], .own 25 [iv s.a, iv s.b, iv s.k], .non, .non, .arr a_n [.int .i64, .int .i64, .int .i64, .int .i64, .int .i64, .int .i64] a_c, iv (a_n : Int), iv ((i : Int))]) = cond (decide ((i : Int) < (a_n : Int))) (cond ((decide (0 ≤ (i : Int)) && decide ((i : Int) < (a_n : Int)))) (cond (!((a_n : Int) == 0)) (cond ((decide (0 ≤ (((wr ((i : Int) + 1)).tmod (a_n : Int)) : Int)) && decide ((((wr ((i : Int) + 1)).tmod (a_n : Int)) : Int) < (a_n : Int)))) (cond (pkC (pAt a_c i) (pAt a_c ((wr ((i : Int) + 1)).tmod (a_n : Int)).toNat)) (cond (pk s (crsF (pAt a_c i) (pAt a_c ((wr ((i : Int) + 1)).tmod (a_n : Int)).toNat))) (runW Tryd.prog GLv Γ82 K (cfgK [true, false, true, true, false, false, true, true, true]) [.arr a_n [.int .i64, .int .i64, .int .i64, .int .i64, .int .i64, .int .i64] a_c] Tryd.f29 0 n (stL Tryd.f29.ntmps [.arr a_n [.int .i64, .int .i64, .int .i64, .int .i64, .int .i64, .int .i64] a_c, .non, .own 25 [iv 0, iv 0, iv 0], .own 25 [iv (addF s (crsF (pAt a_c i) (pAt a_c ((wr ((i : Int) + 1)).tmod (a_n : Int)).toNat))).a, iv (addF s (crsF (pAt a_c i) (pAt a_c ((wr ((i : Int) + 1)).tmod (a_n : Int)).toNat))).b, iv (addF s (crsF (pAt a_c i) (pAt a_c ((wr ((i : Int) + 1)).tmod (a_n : Int)).toNat))).k], .non, .non, .arr a_n [.int .i64, .int .i64, .int .i64, .int .i64, .int .i64, .int .i64] a_c, iv (a_n : Int), iv (wr ((i : Int) + 1))])) (none)) (none)) (none)) (none)) (none)) ((cond (kB (wr (s.k + 1))) (some (halfF s).av) none)) := by kernel_rfl
theorem r29_run (K a_n : Nat) (a_c : Nat → Nat → Int) (h0 : 0 < a_n) (hn : a_n ≤ 16) (hv : ∀ i, i < a_n → valP (pAt a_c i) = true) : ∀ (m i n : Nat) (s : N3) (A B : Int), i + m = a_n → m < n → VB 20 s A B (i * 108086391056891904) → runW Tryd.prog GLv Γ82 K (cfgK [true, false, true, true, false, false, true, true, true]) [.arr a_n [.int .i64, .int .i64, .int .i64, .int .i64, .int .i64, .int .i64] a_c] Tryd.f29 0 n (stL Tryd.f29.ntmps [.arr a_n [.int .i64, .int .i64, .int .i64, .int .i64, .int .i64, .int .i64] a_c, .non, .own 25 [iv 0, iv 0, iv 0], .own 25 [iv s.a, iv s.b, iv s.k], .non, .non, .arr a_n [.int .i64, .int .i64, .int .i64, .int .i64, .int .i64, .int .i64] a_c, iv (a_n : Int), iv ((i : Int))]) = (cond (kB (wr ((arF a_n a_c i m s).k + 1))) (some (halfF (arF a_n a_c i m s)).av) none) := by
  intro m
  induction m with
  | zero =>
    intro i n s A B h1 h3 hs
    obtain ⟨n, rfl⟩ : ∃ n', n = n' + 1 := ⟨n - 1, by omega⟩
    rw [r29_step, nat_lt i a_n, show decide (i < a_n) = false by simp; omega]
    rfl
  | succ m ih =>
    intro i n s A B h1 h3 hs
    obtain ⟨n, rfl⟩ : ∃ n', n = n' + 1 := ⟨n - 1, by omega⟩
    have hm : (i + 1) % a_n < a_n := Nat.mod_lt _ h0
    obtain ⟨q1, A', B', q2⟩ := ar_vb (n := a_n) (c := a_c) hs (by omega) (hv i (by omega)) (hv _ hm)
    obtain ⟨_, g1, g2, g3, g4⟩ := crs_vb (hv i (by omega)) (hv _ hm)
    rw [r29_step, wr_succ (by omega), tmod_cast]
    simp only [Int.toNat_natCast]
    rw [nat_nn, nat_nn, nat_lt i a_n, nat_lt _ a_n, show decide (i < a_n) = true by simp; omega, show decide ((i + 1) % a_n < a_n) = true by simpa using hm, show (!((a_n : Int) == 0)) = true by simp; omega]
    rw [show pkC (pAt a_c i) (pAt a_c ((i + 1) % a_n)) = true by unfold pkC; rw [g1, g2, g4]; rfl, q1]
    simp only [Bool.and_self, cond_true]
    rw [ih (i + 1) n _ A' B' (by omega) (by omega) q2]
    rfl

theorem e29 (a_n : Nat) (a_c : Nat → Nat → Int) (hp : (inB a_n 1 16 && allP a_n a_c) = true) : evN Tryd.prog GLv Γ82 (a_n + 2) [true, false, true, true, false, false, true, true, true]  Tryd.f29 [.arr a_n [.int .i64, .int .i64, .int .i64, .int .i64, .int .i64, .int .i64] a_c] = some ((arC a_n a_c).av) := by
  simp only [Bool.and_eq_true, inB_iff] at hp
  obtain ⟨hn, hv⟩ := hp
  have hv := allP_iff.1 hv
  refine (show _ = runW Tryd.prog GLv Γ82 (a_n + 2) (cfgK [true, false, true, true, false, false, true, true, true]) [.arr a_n [.int .i64, .int .i64, .int .i64, .int .i64, .int .i64, .int .i64] a_c] Tryd.f29 0 (a_n + 2) (stL Tryd.f29.ntmps [.arr a_n [.int .i64, .int .i64, .int .i64, .int .i64, .int .i64, .int .i64] a_c, .non, .own 25 [iv 0, iv 0, iv 0], .own 25 [iv z3.a, iv z3.b, iv z3.k], .non, .non, .arr a_n [.int .i64, .int .i64, .int .i64, .int .i64, .int .i64, .int .i64] a_c, iv (a_n : Int), iv (((0 : Nat) : Int))]) from by kernel_rfl).trans ?_
  rw [r29_run _ a_n a_c (by omega) (by omega) hv a_n 0 _ z3 0 0 (by omega) (by omega) z_vb, (ar_half (by omega) (by omega) hv).1]
  rfl
theorem m29 : Meets Tryd.prog GLv 29 s29 := by
  refine meetsN mix0 glv G82 Tryd.func29 (by kernel_rfl) (by kernel_rfl) s29 fun args x h => ?_
  unfold s29 at h
  split at h
  · rename_i a_n a_c
    simp only [Option.some.injEq, Prod.mk.injEq] at h
    obtain ⟨hp, rfl⟩ := h
    exact ⟨_, _, by kernel_rfl, e29 a_n a_c hp⟩
  · cases h
abbrev Γ83 : List (Nat × Ctr) := (29, s29) :: Γ82
theorem G83 : Sound Tryd.prog GLv Γ83 := G82.cons m29

-- spec.l07Area
def s24 : Ctr := fun
  | [.arr a_n [.int .i64, .int .i64, .int .i64, .int .i64, .int .i64, .int .i64] a_c] => some (inB a_n 1 16 && allP a_n a_c, (arF a_n a_c 0 a_n z3).av)
  | _ => none

theorem r24_step (K n a_n : Nat) (a_c : Nat → Nat → Int) (i : Nat) (s : N3) : runW Tryd.prog GLv Γ83 K (cfgK [true, false, true, true, true]) [.arr a_n [.int .i64, .int .i64, .int .i64, .int .i64, .int .i64, .int .i64] a_c] Tryd.f24 0 (n + 1) (stL Tryd.f24.ntmps [.arr a_n [.int .i64, .int .i64, .int .i64, .int .i64, .int .i64, .int .i64] a_c, .non, .own 56 [iv 0, iv 0, iv 0], .own 56 [iv s.a, iv s.b, iv s.k], iv ((i : Int))]) = cond (decide ((i : Int) < (a_n : Int))) (cond ((decide (0 ≤ (i : Int)) && decide ((i : Int) < (a_n : Int)))) (cond (!((a_n : Int) == 0)) (cond ((decide (0 ≤ (((wr ((i : Int) + 1)).tmod (a_n : Int)) : Int)) && decide ((((wr ((i : Int) + 1)).tmod (a_n : Int)) : Int) < (a_n : Int)))) (cond (pkm (pAt a_c i).x (pAt a_c ((wr ((i : Int) + 1)).tmod (a_n : Int)).toNat).y) (cond (pkm (pAt a_c ((wr ((i : Int) + 1)).tmod (a_n : Int)).toNat).x (pAt a_c i).y) (cond (pk (mulF (pAt a_c i).x (pAt a_c ((wr ((i : Int) + 1)).tmod (a_n : Int)).toNat).y) (mulF (pAt a_c ((wr ((i : Int) + 1)).tmod (a_n : Int)).toNat).x (pAt a_c i).y)) (cond (pk s (subF (mulF (pAt a_c i).x (pAt a_c ((wr ((i : Int) + 1)).tmod (a_n : Int)).toNat).y) (mulF (pAt a_c ((wr ((i : Int) + 1)).tmod (a_n : Int)).toNat).x (pAt a_c i).y))) (runW Tryd.prog GLv Γ83 K (cfgK [true, false, true, true, true]) [.arr a_n [.int .i64, .int .i64, .int .i64, .int .i64, .int .i64, .int .i64] a_c] Tryd.f24 0 n (stL Tryd.f24.ntmps [.arr a_n [.int .i64, .int .i64, .int .i64, .int .i64, .int .i64, .int .i64] a_c, .non, .own 56 [iv 0, iv 0, iv 0], .own 56 [iv (addF s (subF (mulF (pAt a_c i).x (pAt a_c ((wr ((i : Int) + 1)).tmod (a_n : Int)).toNat).y) (mulF (pAt a_c ((wr ((i : Int) + 1)).tmod (a_n : Int)).toNat).x (pAt a_c i).y))).a, iv (addF s (subF (mulF (pAt a_c i).x (pAt a_c ((wr ((i : Int) + 1)).tmod (a_n : Int)).toNat).y) (mulF (pAt a_c ((wr ((i : Int) + 1)).tmod (a_n : Int)).toNat).x (pAt a_c i).y))).b, iv (addF s (subF (mulF (pAt a_c i).x (pAt a_c ((wr ((i : Int) + 1)).tmod (a_n : Int)).toNat).y) (mulF (pAt a_c ((wr ((i : Int) + 1)).tmod (a_n : Int)).toNat).x (pAt a_c i).y))).k], iv (wr ((i : Int) + 1))])) (none)) (none)) (none)) (none)) (none)) (none)) (none)) ((some s.av)) := by kernel_rfl
theorem r24_run (K a_n : Nat) (a_c : Nat → Nat → Int) (h0 : 0 < a_n) (hn : a_n ≤ 16) (hv : ∀ i, i < a_n → valP (pAt a_c i) = true) : ∀ (m i n : Nat) (s : N3) (A B : Int), i + m = a_n → m < n → VB 20 s A B (i * 108086391056891904) → runW Tryd.prog GLv Γ83 K (cfgK [true, false, true, true, true]) [.arr a_n [.int .i64, .int .i64, .int .i64, .int .i64, .int .i64, .int .i64] a_c] Tryd.f24 0 n (stL Tryd.f24.ntmps [.arr a_n [.int .i64, .int .i64, .int .i64, .int .i64, .int .i64, .int .i64] a_c, .non, .own 56 [iv 0, iv 0, iv 0], .own 56 [iv s.a, iv s.b, iv s.k], iv ((i : Int))]) = (some (arF a_n a_c i m s).av) := by
  intro m
  induction m with
  | zero =>
    intro i n s A B h1 h3 hs
    obtain ⟨n, rfl⟩ : ∃ n', n = n' + 1 := ⟨n - 1, by omega⟩
    rw [r24_step, nat_lt i a_n, show decide (i < a_n) = false by simp; omega]
    rfl
  | succ m ih =>
    intro i n s A B h1 h3 hs
    obtain ⟨n, rfl⟩ : ∃ n', n = n' + 1 := ⟨n - 1, by omega⟩
    have hm : (i + 1) % a_n < a_n := Nat.mod_lt _ h0
    obtain ⟨q1, A', B', q2⟩ := ar_vb (n := a_n) (c := a_c) hs (by omega) (hv i (by omega)) (hv _ hm)
    obtain ⟨_, g1, g2, g3, g4⟩ := crs_vb (hv i (by omega)) (hv _ hm)
    rw [r24_step, wr_succ (by omega), tmod_cast]
    simp only [Int.toNat_natCast]
    rw [nat_nn, nat_nn, nat_lt i a_n, nat_lt _ a_n, show decide (i < a_n) = true by simp; omega, show decide ((i + 1) % a_n < a_n) = true by simpa using hm, show (!((a_n : Int) == 0)) = true by simp; omega]
    rw [g1, g3, mulF_comm (pAt a_c ((i + 1) % a_n)).x (pAt a_c i).y, g4, show subF (mulF (pAt a_c i).x (pAt a_c ((i + 1) % a_n)).y) (mulF (pAt a_c i).y (pAt a_c ((i + 1) % a_n)).x) = crsF (pAt a_c i) (pAt a_c ((i + 1) % a_n)) from rfl, q1]
    simp only [Bool.and_self, cond_true]
    rw [ih (i + 1) n _ A' B' (by omega) (by omega) q2]
    rfl

theorem e24 (a_n : Nat) (a_c : Nat → Nat → Int) (hp : (inB a_n 1 16 && allP a_n a_c) = true) : evN Tryd.prog GLv Γ83 (a_n + 2) [true, false, true, true, true]  Tryd.f24 [.arr a_n [.int .i64, .int .i64, .int .i64, .int .i64, .int .i64, .int .i64] a_c] = some ((arF a_n a_c 0 a_n z3).av) := by
  simp only [Bool.and_eq_true, inB_iff] at hp
  obtain ⟨hn, hv⟩ := hp
  have hv := allP_iff.1 hv
  refine (show _ = runW Tryd.prog GLv Γ83 (a_n + 2) (cfgK [true, false, true, true, true]) [.arr a_n [.int .i64, .int .i64, .int .i64, .int .i64, .int .i64, .int .i64] a_c] Tryd.f24 0 (a_n + 2) (stL Tryd.f24.ntmps [.arr a_n [.int .i64, .int .i64, .int .i64, .int .i64, .int .i64, .int .i64] a_c, .non, .own 56 [iv 0, iv 0, iv 0], .own 56 [iv z3.a, iv z3.b, iv z3.k], iv (((0 : Nat) : Int))]) from by kernel_rfl).trans ?_
  rw [r24_run _ a_n a_c (by omega) (by omega) hv a_n 0 _ z3 0 0 (by omega) (by omega) z_vb]
theorem m24 : Meets Tryd.prog GLv 24 s24 := by
  refine meetsN mix0 glv G83 Tryd.func24 (by kernel_rfl) (by kernel_rfl) s24 fun args x h => ?_
  unfold s24 at h
  split at h
  · rename_i a_n a_c
    simp only [Option.some.injEq, Prod.mk.injEq] at h
    obtain ⟨hp, rfl⟩ := h
    exact ⟨_, _, by kernel_rfl, e24 a_n a_c hp⟩
  · cases h
abbrev Γ84 : List (Nat × Ctr) := (24, s24) :: Γ83
theorem G84 : Sound Tryd.prog GLv Γ84 := G83.cons m24

end Go.Proofs.YtooikeeckoflpaaDoor
