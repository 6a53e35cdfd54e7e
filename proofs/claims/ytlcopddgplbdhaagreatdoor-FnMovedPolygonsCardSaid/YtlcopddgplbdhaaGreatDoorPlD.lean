/- Polygons in plain Lean. -/
import Derived.Test.YtlcopddgplbdhaaGreatDoorPlC
set_option linter.unusedVariables false
set_option linter.unusedSimpArgs false
/- Signs of numbers with wide cells: products of two words. -/
namespace Go.Ev
theorem and_mask64 {x : Int} (h : 0 <= x) (h' : x < 18446744073709551616) : ((BitVec.ofInt 64 x &&& BitVec.ofInt 64 4294967295).toNat : Int) = x % 4294967296 := by
 obtain ⟨n, rfl⟩ : ∃ n : Nat, x = n := ⟨x.toNat, by omega⟩
 rw [BitVec.toNat_and]
 have e1 : (BitVec.ofInt 64 (n : Int)).toNat = n := by
  rw [BitVec.toNat_ofInt]
  have : ((n : Int) % (2 ^ 64 : Nat)).toNat = n := by
   rw [Int.emod_eq_of_lt (by omega) (by omega)]
   omega
  exact this
 have e2 : (BitVec.ofInt 64 4294967295).toNat = 2 ^ 32 - 1 := by decide
 rw [e1, e2, Nat.and_two_pow_sub_one_eq_mod]
 omega
theorem mul_bd64 {a b M N : Int} (ha : 0 <= a) (ha' : a <= M) (hb : 0 <= b) (hb' : b <= N) : 0 <= a * b /\ a * b <= M * N := ⟨Int.mul_nonneg ha hb, Int.mul_le_mul ha' hb' hb (by omega)⟩
theorem mul64_wide {x y : Int} (hx : 0 <= x) (hx' : x < 9223372036854775808) (hy : 0 <= y) (hy' : y < 9223372036854775808) :
  IntKind.u64.wrap (IntKind.u64.wrap (IntKind.u64.wrap (x.fdiv (2 ^ min (Int.toNat 32) 64) * y.fdiv (2 ^ min (Int.toNat 32) 64)) +
    (IntKind.u64.wrap (IntKind.u64.wrap (x.fdiv (2 ^ min (Int.toNat 32) 64) * IntKind.u64.wrap ↑(BitVec.ofInt 64 y &&& BitVec.ofInt 64 4294967295).toNat) +
            (IntKind.u64.wrap (IntKind.u64.wrap ↑(BitVec.ofInt 64 x &&& BitVec.ofInt 64 4294967295).toNat * IntKind.u64.wrap ↑(BitVec.ofInt 64 y &&& BitVec.ofInt 64 4294967295).toNat)).fdiv
             (2 ^ min (Int.toNat 32) 64))).fdiv (2 ^ min (Int.toNat 32) 64)) +
  (IntKind.u64.wrap (IntKind.u64.wrap ↑(BitVec.ofInt 64 (IntKind.u64.wrap (IntKind.u64.wrap (x.fdiv (2 ^ min (Int.toNat 32) 64) * IntKind.u64.wrap ↑(BitVec.ofInt 64 y &&& BitVec.ofInt 64 4294967295).toNat) +
                        (IntKind.u64.wrap (IntKind.u64.wrap ↑(BitVec.ofInt 64 x &&& BitVec.ofInt 64 4294967295).toNat * IntKind.u64.wrap ↑(BitVec.ofInt 64 y &&& BitVec.ofInt 64 4294967295).toNat)).fdiv
                         (2 ^ min (Int.toNat 32) 64))) &&& BitVec.ofInt 64 4294967295).toNat +
          IntKind.u64.wrap (IntKind.u64.wrap ↑(BitVec.ofInt 64 x &&& BitVec.ofInt 64 4294967295).toNat * y.fdiv (2 ^ min (Int.toNat 32) 64)))).fdiv (2 ^ min (Int.toNat 32) 64)) = x * y / 18446744073709551616 /\
  IntKind.u64.wrap (x * y) = x * y % 18446744073709551616 := by
 have hp : (2 : Int) ^ min (Int.toNat 32) 64 = 4294967296 := by decide
 have fd : ∀ z : Int, z.fdiv 4294967296 = z / 4294967296 := fun z => Int.fdiv_eq_ediv_of_nonneg _ (by decide)
 have hw : ∀ z : Int, IntKind.u64.wrap z = z % 18446744073709551616 := fun z => by
  simp only [IntKind.wrap, IntKind.bits, IntKind.signed]; simp
 rw [hp, and_mask64 hx (by omega), and_mask64 hy (by omega), u64_in (n := x % 4294967296) (by omega) (by omega), u64_in (n := y % 4294967296) (by omega) (by omega)]
 simp only [fd]
 have ex : x = x / 4294967296 * 4294967296 + x % 4294967296 := by omega
 have ey : y = y / 4294967296 * 4294967296 + y % 4294967296 := by omega
 have b1 : 0 <= x / 4294967296 /\ x / 4294967296 <= 2147483647 := by omega
 have b2 : 0 <= y / 4294967296 /\ y / 4294967296 <= 2147483647 := by omega
 have b3 : 0 <= x % 4294967296 /\ x % 4294967296 <= 4294967295 := by omega
 have b4 : 0 <= y % 4294967296 /\ y % 4294967296 <= 4294967295 := by omega
 refine ⟨?_, hw _⟩
 have exy : x * y = (x / 4294967296) * (y / 4294967296) * 18446744073709551616 + ((x / 4294967296) * (y % 4294967296) + (x % 4294967296) * (y / 4294967296)) * 4294967296 + (x % 4294967296) * (y % 4294967296) := by
  conv => lhs; rw [ex, ey]
  grind
 rw [exy]
 have p1 := mul_bd64 b1.1 b1.2 b2.1 b2.2
 have p2 := mul_bd64 b1.1 b1.2 b4.1 b4.2
 have p3 := mul_bd64 b3.1 b3.2 b2.1 b2.2
 have p4 := mul_bd64 b3.1 b3.2 b4.1 b4.2
 clear exy ex ey
 generalize (x / 4294967296) * (y / 4294967296) = A at *
 generalize (x / 4294967296) * (y % 4294967296) = B at *
 generalize (x % 4294967296) * (y / 4294967296) = C at *
 generalize (x % 4294967296) * (y % 4294967296) = W at *
 rw [u64_in (n := W) (by omega) (by omega), u64_in (n := B) (by omega) (by omega), u64_in (n := B + W / 4294967296) (by omega) (by omega), and_mask64 (x := B + W / 4294967296) (by omega) (by omega), u64_in (n := (B + W / 4294967296) % 4294967296) (by omega) (by omega),
  u64_in (n := C) (by omega) (by omega), u64_in (n := (B + W / 4294967296) % 4294967296 + C) (by omega) (by omega), u64_in (n := A) (by omega) (by omega), u64_in (n := A + (B + W / 4294967296) / 4294967296) (by omega) (by omega), u64_in (by omega) (by omega)]
 omega
theorem ofInt_nat {n : Nat} (h : n < 18446744073709551616) : (BitVec.ofInt 64 (n : Int)).toNat = n := by
 rw [BitVec.toNat_ofInt]
 have : ((n : Int) % (2 ^ 64 : Nat)).toNat = n := by
  rw [Int.emod_eq_of_lt (by omega) (by omega)]
  omega
 exact this
theorem or_bit {h b : Int} (h0 : 0 <= h) (h1 : h < 9223372036854775808) (hb : b = 0 \/ b = 1) : ((BitVec.ofInt 64 (2 * h) ||| BitVec.ofInt 64 b).toNat : Int) = 2 * h + b := by
 obtain ⟨n, rfl⟩ : ∃ n : Nat, h = n := ⟨h.toNat, by omega⟩
 obtain ⟨m, rfl⟩ : ∃ m : Nat, b = m := ⟨b.toNat, by omega⟩
 rw [BitVec.toNat_or, show 2 * (n : Int) = ((2 * n : Nat) : Int) by omega, ofInt_nat (by omega), ofInt_nat (by omega)]
 have hm : m < 2 := by omega
 have := Nat.shiftLeft_add_eq_or_of_lt (i := 1) (show m < 2 ^ 1 by omega) n
 rw [Nat.shiftLeft_eq] at this
 rw [show 2 * n = n * 2 ^ 1 by omega, <- this]
 omega
def sW (x : Int) : Bool := inB x (-2305843009213693952) 2305843009213693952
theorem sW_iff {x : Int} : sW x = true ↔ -2305843009213693952 <= x /\ x <= 2305843009213693952 := by simp [sW, inB]
theorem absV_wide {x : Int} (h : sW x = true) : absV x = x.natAbs := by
 have h := sW_iff.1 h
 unfold absV
 rw [wr_in (by omega) (by omega)]
 split <;> omega
theorem sq_wide {x : Int} (h : sW x = true) : 0 <= x * x /\ x * x <= 2305843009213693952 * 2305843009213693952 := by
 have h' := sW_iff.1 h
 refine ⟨sq_nonneg x, ?_⟩
 rcases Int.le_total 0 x with g | g
 ·exact Int.mul_le_mul h'.2 h'.2 g (by decide)
 ·have e : x * x = -x * -x := by grind
  rw [e]
  exact Int.mul_le_mul (by omega) (by omega) (by omega) (by decide)
theorem gt_wide {X Y : Int} (hX : 0 <= X) (hX' : X <= 2305843009213693952 * 2305843009213693952) (hY : 0 <= Y) (hY' : Y <= 2305843009213693952 * 2305843009213693952) :
  IntKind.u64.wrap ↑(BitVec.ofInt 64 (IntKind.u64.wrap (Y / 18446744073709551616 * 2 ^ min (Int.toNat 1) 64)) ||| BitVec.ofInt 64 ((Y % 18446744073709551616).fdiv (2 ^ min (Int.toNat 63) 64))).toNat = 2 * Y / 18446744073709551616 /\
  IntKind.u64.wrap (Y % 18446744073709551616 * 2 ^ min (Int.toNat 1) 64) = 2 * Y % 18446744073709551616 := by
 have e1 : (2 : Int) ^ min (Int.toNat 1) 64 = 2 := by decide
 have e2 : (2 : Int) ^ min (Int.toNat 63) 64 = 9223372036854775808 := by decide
 have hw : ∀ z : Int, IntKind.u64.wrap z = z % 18446744073709551616 := fun z => by
  simp only [IntKind.wrap, IntKind.bits, IntKind.signed]; simp
 rw [e1, e2, Int.fdiv_eq_ediv_of_nonneg _ (by decide), u64_in (n := Y / 18446744073709551616 * 2) (by omega) (by omega), show Y / 18446744073709551616 * 2 = 2 * (Y / 18446744073709551616) by omega, or_bit (by omega) (by omega) (by omega)]
 constructor
 ·rw [u64_in (by omega) (by omega)]; omega
 ·rw [hw]; omega
theorem lex_gt {X Z : Int} : cond (decide (X / 18446744073709551616 > Z / 18446744073709551616)) true (cond (X / 18446744073709551616 == Z / 18446744073709551616) (decide (X % 18446744073709551616 > Z % 18446744073709551616)) false) = decide (X > Z) := by
 by_cases h : X / 18446744073709551616 > Z / 18446744073709551616
 ·rw [decide_eq_true h, decide_eq_true (show X > Z by omega)]; rfl
 ·rw [decide_eq_false h]
  by_cases e : X / 18446744073709551616 = Z / 18446744073709551616
  ·rw [show (X / 18446744073709551616 == Z / 18446744073709551616) = true by simpa using e]
   simp only [cond_true, cond_false]
   congr 1
   exact propext ⟨fun _ => by omega, fun _ => by omega⟩
  ·rw [show (X / 18446744073709551616 == Z / 18446744073709551616) = false by simpa using e, decide_eq_false (show ¬ X > Z by omega)]; rfl
end Go.Ev
namespace Go.Ev
theorem u64w_mod (z : Int) : u64w z = z % 18446744073709551616 := by
 show IntKind.u64.wrap z = _
 simp only [IntKind.wrap, IntKind.bits, IntKind.signed]; simp
theorem sqT_wide {u : Int} (h : 0 <= u) (h' : u <= 2305843009213693952) : sqT u = some (.tup [wv (u * u / 18446744073709551616), wv (u * u % 18446744073709551616)]) := by
 have hp : (2 : Int) ^ min (Int.toNat 32) 64 = 4294967296 := by decide
 have fd : ∀ z : Int, z.fdiv 4294967296 = z / 4294967296 := fun z => Int.fdiv_eq_ediv_of_nonneg _ (by decide)
 have el : lo32 u = u % 4294967296 := by unfold lo32 u64w; rw [and_mask64 h (by omega), u64_in (by omega) (by omega)]
 have eh : hi32 u = u / 4294967296 := by unfold hi32; rw [hp, fd]
 have b1 : 0 <= u / 4294967296 /\ u / 4294967296 <= 536870912 := by omega
 have b3 : 0 <= u % 4294967296 /\ u % 4294967296 <= 4294967295 := by omega
 have p1 := mul_bd64 b1.1 b1.2 b1.1 b1.2
 have p2 := mul_bd64 b3.1 b3.2 b1.1 b1.2
 have p4 := mul_bd64 b3.1 b3.2 b3.1 b3.2
 have exy : u * u = (u / 4294967296) * (u / 4294967296) * 18446744073709551616 + 2 * ((u % 4294967296) * (u / 4294967296)) * 4294967296 + (u % 4294967296) * (u % 4294967296) := by
  have eu : u = u / 4294967296 * 4294967296 + u % 4294967296 := by omega
  conv => lhs; rw [eu]
  grind
 have em : md32 u = 2 * ((u % 4294967296) * (u / 4294967296)) := by
  unfold md32
  rw [el, eh]
  simp only [u64w_mod]
  have : 2 * (u % 4294967296) * (u / 4294967296) = 2 * ((u % 4294967296) * (u / 4294967296)) := by grind
  rw [Int.emod_eq_of_lt (a := 2 * (u % 4294967296)) (by omega) (by omega), this, Int.emod_eq_of_lt (by omega) (by omega)]
 have es : sm32 u = (2 * ((u % 4294967296) * (u / 4294967296)) * 4294967296 + (u % 4294967296) * (u % 4294967296)) % 18446744073709551616 := by
  unfold sm32
  rw [em, el]
  simp only [u64w_mod, hp]
  omega
 unfold sqT
 rw [em, es, el, eh, hp, fd, exy]
 simp only [u64w_mod]
 generalize (u / 4294967296) * (u / 4294967296) = A at *
 generalize (u % 4294967296) * (u / 4294967296) = B at *
 generalize (u % 4294967296) * (u % 4294967296) = W at *
 clear exy em es el eh
 by_cases hc : (2 * B * 4294967296 + W) % 18446744073709551616 < W % 18446744073709551616
 ·rw [decide_eq_true hc, cond_true]
  refine congrArg some (congrArg AV.tup (congr (congrArg List.cons (congrArg wv ?_)) (congrArg (fun z => [z]) (congrArg wv ?_)))) <;> omega
 ·rw [decide_eq_false hc, cond_false]
  refine congrArg some (congrArg AV.tup (congr (congrArg List.cons (congrArg wv ?_)) (congrArg (fun z => [z]) (congrArg wv ?_)))) <;> omega
theorem sq_wideT {x : Int} (h : sW x = true) : cond (decide (x < 0)) (sqT (u64w (wr (0 - x)))) (sqT (u64w x)) = some (.tup [wv (x * x / 18446744073709551616), wv (x * x % 18446744073709551616)]) := by
 have h' := sW_iff.1 h
 by_cases hx : x < 0
 ·have e : x * x = (0 - x) * (0 - x) := by grind
  rw [decide_eq_true hx, cond_true, wr_in (by omega) (by omega), u64w_mod, Int.emod_eq_of_lt (by omega) (by omega), sqT_wide (by omega) (by omega), e]
 ·rw [decide_eq_false hx, cond_false, u64w_mod, Int.emod_eq_of_lt (by omega) (by omega), sqT_wide (by omega) (by omega)]
theorem less_wide {X Y : Int} (hY : 0 <= Y) (hY' : Y <= 2305843009213693952 * 2305843009213693952) :
  cond (decide (X / 18446744073709551616 < u64w (u64w (Y / 18446744073709551616 * 2) + (Y % 18446744073709551616).fdiv (2 ^ min (Int.toNat 63) 64)))) (some (bv true))
   (cond (X / 18446744073709551616 == u64w (u64w (Y / 18446744073709551616 * 2) + (Y % 18446744073709551616).fdiv (2 ^ min (Int.toNat 63) 64))) (some (bv (decide (X % 18446744073709551616 < u64w (Y % 18446744073709551616 * 2))))) (some (bv false))) = some (bv (decide (X < 2 * Y))) := by
 have e2 : (2 : Int) ^ min (Int.toNat 63) 64 = 9223372036854775808 := by decide
 have k1 : u64w (u64w (Y / 18446744073709551616 * 2) + (Y % 18446744073709551616).fdiv (2 ^ min (Int.toNat 63) 64)) = 2 * Y / 18446744073709551616 := by
  rw [e2, Int.fdiv_eq_ediv_of_nonneg _ (by decide)]
  simp only [u64w_mod]
  omega
 have k2 : u64w (Y % 18446744073709551616 * 2) = 2 * Y % 18446744073709551616 := by rw [u64w_mod]; omega
 rw [k1, k2]
 generalize 2 * Y = Z
 by_cases h : X / 18446744073709551616 < Z / 18446744073709551616
 ·rw [decide_eq_true h, decide_eq_true (show X < Z by omega)]; rfl
 ·rw [decide_eq_false h]
  by_cases e : X / 18446744073709551616 = Z / 18446744073709551616
  ·rw [show (X / 18446744073709551616 == Z / 18446744073709551616) = true by simpa using e]
   simp only [cond_true, cond_false]
   refine congrArg (fun b => some (bv b)) ?_
   congr 1
   exact propext ⟨fun _ => by omega, fun _ => by omega⟩
  ·rw [show (X / 18446744073709551616 == Z / 18446744073709551616) = false by simpa using e, decide_eq_false (show ¬ X < Z by omega)]; rfl
end Go.Ev
namespace Go.Ev
theorem abs_w {x : Int} (h : sW x = true) : IntKind.u64.wrap (absV x) = absV x /\ (decide (0 <= absV x) && decide (absV x < 9223372036854775808)) = true /\ absV x * absV x = x * x := by
 have h' := sW_iff.1 h
 have e := absV_wide h
 rw [e]
 refine ⟨u64_in (by omega) (by omega), ?_, ?_⟩
 ·rw [Bool.and_eq_true]; exact ⟨decide_eq_true (by omega), decide_eq_true (by omega)⟩
 ·rcases Int.natAbs_eq x with g | g
  ·rw [<- g]
  ·have : (x.natAbs : Int) = -x := by omega
   rw [this]; grind
end Go.Ev
namespace Go.Ev
def cmW (x y : N3) : Bool := pk x y && (sW (subF x y).a && sW (subF x y).b)
end Go.Ev
namespace Go.Ev
def cmP (p q : P2) : Bool := cmW p.x q.x && cmW p.y q.y
end Go.Ev
/- Polygons: corners as rows of six numbers; the checks of both sides, in plain Lean. -/
namespace Go.Ev
def pAt (c : NNI) (i : Nat) : P2 := ⟨⟨c i 0, c i 1, c i 2⟩, ⟨c i 3, c i 4, c i 5⟩⟩
def dirA (n : Nat) (c : NNI) (i : Nat) : Int := dirV (pAt c i) (pAt c ((i + 1) % n))
def cpP (p q : P2) : Int := cond (sgF (subF p.x q.x) != 0) (sgF (subF p.x q.x)) (sgF (subF p.y q.y))
def lcF (c : NNI) : Nat -> Nat -> Nat -> Nat
 | _, 0, l => l
 | i, m + 1, l => lcF c (i + 1) m (cond (decide (cpP (pAt c i) (pAt c l) < 0)) i l)
def cvF (n : Nat) (c : NNI) : Nat -> Nat -> Int -> Int -> Bool
 | _, 0, _, s => s == 16
 | i, m + 1, b, s => cond (decide (dirA n c i < 0)) false (cond (decide (b < 0)) false (cond (!(inB (wr (dirA n c i - b) % 16) 1 7)) false (cvF n c (i + 1) m (dirA n c i) (wr (s + wr (dirA n c i - b) % 16)))))
def allP (n : Nat) (c : NNI) : Bool := allF (fun i => valP (pAt c i)) 0 n
def cvI (n : Nat) (c : NNI) : Bool := cvF n c 0 n (dirV (pAt c (n - 1)) (pAt c 0)) 0
def vpI (n : Nat) (c : NNI) : Bool := inB n 3 16 && (allP n c && (cvI n c && ((lcF c 0 n 0 : Nat) : Int) == 0))
def appF (g : Nat -> List Int) : Nat -> Nat -> (NNI) -> NNI
 | _, 0, d => d
 | i, m + 1, d => appF g (i + 1) m (catC i d (listC [g i]))
def wideC (n : Nat) (c : NNI) : NNI := appF (rowL 6 c) 0 n zeroC
def ltz (x : Int) : Bool := decide (x < 0)
def okD (n : Nat) (c : NNI) : Bool := allF (fun i => !(ltz (dirA n c i))) 0 n
def oneC (x : Int) : NNI := fun i _ => [x].getD i 0
def appO (g : Nat -> Int) : Nat -> Nat -> (NNI) -> NNI
 | _, 0, d => d
 | i, m + 1, d => appO g (i + 1) m (catC i d (oneC (g i)))
def sidC (n : Nat) (c : NNI) : NNI := appO (dirA n c) 0 n zeroC
def cvS (n : Nat) (e : NNI) : Nat -> Nat -> Int -> Bool
 | _, 0, s => s == 16
 | i, m + 1, s => cond (!(inB (wr (e ((i + 1) % n) 0 - e i 0) % 16) 1 7)) false (cvS n e (i + 1) m (wr (s + wr (e ((i + 1) % n) 0 - e i 0) % 16)))
def befS (c : NNI) (i : Nat) : Bool := valP (pAt c i) && (decide (i = 0) || decide (cpP (pAt c 0) (pAt c i) < 0))
def vpS (n : Nat) (c : NNI) : Bool := cond (decide ((n : Int) < 3)) false (cond (decide ((n : Int) > 16)) false (allF (befS c) 0 n && (okD n c && cvS n (sidC n c) 0 n 0)))
theorem tmod_cast (a b : Nat) : Int.tmod (a : Int) (b : Int) = ((a % b : Nat) : Int) := by
 rw [Int.tmod_eq_emod_of_nonneg (by omega)]
 simp
theorem blt_false {a k : Nat} (h : ¬ a < k) : Nat.blt a k = false := by
 cases e : Nat.blt a k with
 | false => rfl
 | true => exact absurd (Nat.le_of_ble_eq_true e) (by omega)
theorem catC_at (k : Nat) (d : NNI) (g : List Int) (a j : Nat) : catC k d (listC [g]) a j = if a < k then d a j else if a = k then g.getD j 0 else 0 := by
 unfold catC
 by_cases h : a < k
 ·rw [if_pos h, show Nat.blt a k = true from Nat.ble_eq_true_of_le h]
 ·rw [if_neg h, blt_false h]
  by_cases e : a = k
  ·subst e; rw [if_pos rfl]; simp [listC, List.getD]
  ·rw [if_neg e]
   obtain ⟨q, hq⟩ : ∃ q, a - k = q + 1 := ⟨a - k - 1, by omega⟩
   simp [listC, List.getD, hq]
theorem appF_at (g : Nat -> List Int) : ∀ (m i : Nat) (d : NNI) (a j : Nat), a < i + m -> appF g i m d a j = if i <= a then (g a).getD j 0 else d a j := by
 intro m
 induction m with
 | zero => intro i d a j h; rw [if_neg (by omega)]; rfl
 | succ m ih =>
  intro i d a j h
  simp only [appF]
  rw [ih (i + 1) _ a j (by omega)]
  by_cases h1 : i + 1 <= a
  ·rw [if_pos h1, if_pos (by omega)]
  ·rw [if_neg h1, catC_at]
   by_cases h2 : a < i
   ·rw [if_pos h2, if_neg (by omega)]
   ·rw [if_neg h2, if_pos (by omega), if_pos (by omega)]
    rw [show a = i by omega]
theorem catO_at (k : Nat) (d : NNI) (x : Int) (a j : Nat) : catC k d (oneC x) a j = if a < k then d a j else if a = k then x else 0 := by
 unfold catC
 by_cases h : a < k
 ·rw [if_pos h, show Nat.blt a k = true from Nat.ble_eq_true_of_le h]
 ·rw [if_neg h, blt_false h]
  by_cases e : a = k
  ·subst e; rw [if_pos rfl]; simp [oneC, List.getD]
  ·rw [if_neg e]
   obtain ⟨q, hq⟩ : ∃ q, a - k = q + 1 := ⟨a - k - 1, by omega⟩
   simp [oneC, List.getD, hq]
theorem appO_at (g : Nat -> Int) : ∀ (m i : Nat) (d : NNI) (a j : Nat), a < i + m -> appO g i m d a j = if i <= a then g a else d a j := by
 intro m
 induction m with
 | zero => intro i d a j h; rw [if_neg (by omega)]; rfl
 | succ m ih =>
  intro i d a j h
  simp only [appO]
  rw [ih (i + 1) _ a j (by omega)]
  by_cases h1 : i + 1 <= a
  ·rw [if_pos h1, if_pos (by omega)]
  ·rw [if_neg h1, catO_at]
   by_cases h2 : a < i
   ·rw [if_pos h2, if_neg (by omega)]
   ·rw [if_neg h2, if_pos (by omega), if_pos (by omega)]
    rw [show a = i by omega]
theorem wide_at {n : Nat} {c : NNI} {i : Nat} (h : i < n) : pAt (wideC n c) i = pAt c i := by
 have e : ∀ j, j < 6 -> wideC n c i j = c i j := fun j hj => by
  unfold wideC
  rw [appF_at _ _ _ _ _ _ (by omega), if_pos (Nat.zero_le _)]
  simp [rowL, List.getD, hj]
 simp only [pAt, e 0 (by decide), e 1 (by decide), e 2 (by decide), e 3 (by decide), e 4 (by decide), e 5 (by decide)]
theorem dirA_wide {n : Nat} {c : NNI} {i : Nat} (h : i < n) : dirA n (wideC n c) i = dirA n c i := by
 unfold dirA
 rw [wide_at h, wide_at (Nat.mod_lt _ (by omega))]
theorem sid_at {n : Nat} {c : NNI} {i : Nat} (h : i < n) : sidC n c i 0 = dirA n c i := by
 unfold sidC
 rw [appO_at _ _ _ _ _ _ (by omega), if_pos (Nat.zero_le _)]
end Go.Ev
namespace Go.Ev
theorem allP_iff {n : Nat} {c : NNI} : allP n c = true ↔ ∀ i, i < n -> valP (pAt c i) = true := by
 unfold allP
 rw [allF_iff]
 exact ⟨fun h i hi => h i (Nat.zero_le _) (by omega), fun h i _ hi => h i (by omega)⟩
end Go.Ev
namespace Go.Ev
theorem appF_congr {g g' : Nat -> List Int} : ∀ (m i : Nat) (d : NNI), (∀ j, i <= j -> j < i + m -> g j = g' j) -> appF g i m d = appF g' i m d := by
 intro m
 induction m with
 | zero => intro i d h; rfl
 | succ m ih => intro i d h; simp only [appF]; rw [h i (Nat.le_refl _) (by omega), ih (i + 1) _ fun j h1 h2 => h j (by omega) (by omega)]
theorem appO_congr {g g' : Nat -> Int} : ∀ (m i : Nat) (d : NNI), (∀ j, i <= j -> j < i + m -> g j = g' j) -> appO g i m d = appO g' i m d := by
 intro m
 induction m with
 | zero => intro i d h; rfl
 | succ m ih => intro i d h; simp only [appO]; rw [h i (Nat.le_refl _) (by omega), ih (i + 1) _ fun j h1 h2 => h j (by omega) (by omega)]
theorem sidC_wide (n : Nat) (c : NNI) : sidC n (wideC n c) = sidC n c := by
 unfold sidC
 exact appO_congr _ _ _ fun j _ hj => by rw [dirA_wide (by omega)]
theorem okD_wide (n : Nat) (c : NNI) : okD n (wideC n c) = okD n c := by
 unfold okD
 exact allF_congr fun j _ hj => by rw [dirA_wide (by omega)]
theorem allP_wide {n : Nat} {c : NNI} : allP n (wideC n c) = allP n c := by
 unfold allP
 exact allF_congr fun j _ hj => by rw [wide_at (by omega)]
theorem dirA_in {n : Nat} {c : NNI} (hn : 0 < n) (hv : ∀ i, i < n -> valP (pAt c i) = true) {i : Nat} (hi : i < n) : inB (dirA n c i) 0 15 = true \/ dirA n c i = -1 :=
 (dir_back (hv i hi) (hv _ (Nat.mod_lt _ hn))).2.2
theorem dirA_ok {n : Nat} {c : NNI} (hn : 0 < n) (hv : ∀ i, i < n -> valP (pAt c i) = true) (ho : okD n c = true) {i : Nat} (hi : i < n) : inB (dirA n c i) 0 15 = true := by
 rcases dirA_in hn hv hi with h | h
 ·exact h
 ·have := allF_iff.1 ho i (Nat.zero_le _) (by omega)
  rw [h] at this
  cases this
end Go.Ev
namespace Go.Ev
def sP (p q : P2) : P2 := ⟨⟨(subP p q).x.a, (subP p q).x.b, (subP p q).x.k⟩, ⟨(subP p q).y.a, (subP p q).y.b, (subP p q).y.k⟩⟩
theorem sP_eq (p q : P2) : sP p q = subP p q := rfl
end Go.Ev
/- Sums of positive numbers; a closed way of turns has no corner twice. -/
namespace Go.Ev
theorem sq_lt_of {x y : Int} (hy : 0 <= y) (h : y < x) : y * y < x * x := by
 have h1 : y * y <= y * x := Int.mul_le_mul_of_nonneg_left (by omega) hy
 have h2 : y * x < x * x := Int.mul_lt_mul_of_pos_right h (by omega)
 omega
theorem prod_le {x y z w : Int} (hy : 0 <= y) (hw : 0 <= w) (h1 : x * x <= 2 * (y * y)) (h2 : z * z <= 2 * (w * w)) : x * z <= 2 * (y * w) := by
 rcases Int.lt_or_le (2 * (y * w)) (x * z) with h | h
 ·exfalso
  have h3 := sq_lt_of (by have := Int.mul_nonneg hy hw; omega) h
  have e1 : x * z * (x * z) = (x * x) * (z * z) := by grind
  have e2 : 2 * (y * w) * (2 * (y * w)) = (2 * (y * y)) * (2 * (w * w)) := by grind
  have h4 : (x * x) * (z * z) <= (2 * (y * y)) * (2 * (w * w)) := Int.mul_le_mul h1 h2 (sq_nonneg z) (by have := sq_nonneg y; omega)
  omega
 ·exact h
theorem prod_ge {x y z w : Int} (hx : 0 <= x) (hz : 0 <= z) (h1 : 2 * (y * y) <= x * x) (h2 : 2 * (w * w) <= z * z) : 2 * (y * w) <= x * z := by
 rcases Int.lt_or_le (x * z) (2 * (y * w)) with h | h
 ·exfalso
  have h3 := sq_lt_of (Int.mul_nonneg hx hz) h
  have e1 : x * z * (x * z) = (x * x) * (z * z) := by grind
  have e2 : 2 * (y * w) * (2 * (y * w)) = (2 * (y * y)) * (2 * (w * w)) := by grind
  have h4 : (2 * (y * y)) * (2 * (w * w)) <= (x * x) * (z * z) := Int.mul_le_mul h1 h2 (by have := sq_nonneg w; omega) (sq_nonneg x)
  omega
 ·exact h
def posZ (a b : Int) : Prop := (2 * (b * b) < a * a /\ 0 < a) \/ (a * a < 2 * (b * b) /\ 0 < b)
theorem sgZ_posZ {a b : Int} : 0 < sgZ a b ↔ posZ a b := by
 unfold posZ
 have sg : ∀ x : Int, 0 < x.sign ↔ 0 < x := fun x => Int.sign_pos_iff
 rcases sgZ_cases a b with ⟨h1, h2⟩ | ⟨h1, h2⟩ | ⟨h1, h2, h3⟩
 ·rw [h2, sg]
  omega
 ·rw [h2, sg]
  omega
 ·rw [h3]
  subst h1 h2
  omega
theorem neg_sq (x : Int) : -x * -x = x * x := by grind
theorem posZ_add12 {a b c d : Int} (h1 : 2 * (b * b) < a * a) (h2 : 0 < a) (h3 : c * c < 2 * (d * d)) (h4 : 0 < d) : posZ (a + c) (b + d) := by
 have e1 : (a + c) * (a + c) = a * a + 2 * (a * c) + c * c := by grind
 have e2 : (b + d) * (b + d) = b * b + 2 * (b * d) + d * d := by grind
 rcases Int.lt_trichotomy (2 * ((b + d) * (b + d))) ((a + c) * (a + c)) with h | h | h
 ·refine .inl ⟨h, ?_⟩
  rcases Int.lt_or_le 0 (a + c) with h5 | h5
  ·exact h5
  ·exfalso
   have n1 := neg_sq b
   have n2 := neg_sq (a + c)
   have k := prod_ge (x := a) (z := -(a + c)) (y := -b) (w := b + d) (by omega) (by omega) (by omega) (by omega)
   have e3 : a * -(a + c) = -(a * a) - a * c := by grind
   have e4 : -b * (b + d) = -(b * b) - b * d := by grind
   omega
 ·obtain ⟨g1, g2⟩ := nm_zero h.symm
  have : a * a = c * c := by rw [show c = -a by omega]; grind
  have : b * b = d * d := by rw [show d = -b by omega]; grind
  omega
 ·refine .inr ⟨h, ?_⟩
  rcases Int.lt_or_le 0 (b + d) with h5 | h5
  ·exact h5
  ·exfalso
   have n1 := neg_sq c
   have n2 := neg_sq (b + d)
   have k := prod_le (x := -c) (y := d) (z := a + c) (w := -(b + d)) (by omega) (by omega) (by omega) (by omega)
   have e3 : -c * (a + c) = -(a * c) - c * c := by grind
   have e4 : d * -(b + d) = -(b * d) - d * d := by grind
   omega
theorem posZ_add {a b c d : Int} (h : posZ a b) (g : posZ c d) : posZ (a + c) (b + d) := by
 have e1 : (a + c) * (a + c) = a * a + 2 * (a * c) + c * c := by grind
 have e2 : (b + d) * (b + d) = b * b + 2 * (b * d) + d * d := by grind
 rcases h with ⟨h1, h2⟩ | ⟨h1, h2⟩
 ·rcases g with ⟨h3, h4⟩ | ⟨h3, h4⟩
  ·have k := prod_ge (x := a) (z := c) (y := b) (w := d) (by omega) (by omega) (by omega) (by omega)
   exact .inl ⟨by omega, by omega⟩
  ·exact posZ_add12 h1 h2 h3 h4
 ·rcases g with ⟨h3, h4⟩ | ⟨h3, h4⟩
  ·have := posZ_add12 h3 h4 h1 h2
   rwa [Int.add_comm c a, Int.add_comm d b] at this
  ·have k := prod_le (x := a) (z := c) (y := b) (w := d) (by omega) (by omega) (by omega) (by omega)
   exact .inr ⟨by omega, by omega⟩
def nnZ (a b : Int) : Prop := (a = 0 /\ b = 0) \/ posZ a b
theorem nnZ_add {a b c d : Int} (h : nnZ a b) (g : nnZ c d) : nnZ (a + c) (b + d) := by
 rcases h with ⟨rfl, rfl⟩ | h
 ·simpa using g
 ·rcases g with ⟨rfl, rfl⟩ | g
  ·rw [Int.add_zero, Int.add_zero]; exact .inr h
  ·exact .inr (posZ_add h g)
theorem pos_nn {a b c d : Int} (h : posZ a b) (g : nnZ c d) : posZ (a + c) (b + d) := by
 rcases g with ⟨rfl, rfl⟩ | g
 ·simpa using h
 ·exact posZ_add h g
theorem posZ_ne {a b : Int} (h : posZ a b) : ¬ (a = 0 /\ b = 0) := fun ⟨h1, h2⟩ => by
 subst h1 h2
 rcases h with ⟨_, h⟩ | ⟨_, h⟩ <;> omega
end Go.Ev
namespace Go.Ev
def vecV (d : Int) : V4 := ⟨vC1 d, vE1 d, vC2 d, vE2 d⟩
def sbV (u v : V4) : V4 := ⟨u.a - v.a, u.b - v.b, u.c - v.c, u.d - v.d⟩
theorem dt_sb (e : Int) (u v : V4) : dtA e (sbV u v) = dtA e u - dtA e v /\ dtB e (sbV u v) = dtB e u - dtB e v := by
 unfold dtA dtB sbV
 constructor <;> grind
theorem par_id (x1 x2 y1 y2 a b c d p q r s : Int) :
  (x1 * x1 + 2 * x2 * x2 + (y1 * y1 + 2 * y2 * y2)) * (p * a + 2 * q * b + (r * c + 2 * s * d)) + 2 * (x1 * x2 + x2 * x1 + (y1 * y2 + y2 * y1)) * (p * b + q * a + (r * d + s * c))
  = (x1 * a + 2 * x2 * b + (y1 * c + 2 * y2 * d)) * (p * x1 + 2 * q * x2 + (r * y1 + 2 * s * y2)) + 2 * (x1 * b + x2 * a + (y1 * d + y2 * c)) * (p * x2 + q * x1 + (r * y2 + s * y1))
   + (x1 * c + 2 * x2 * d - (y1 * a + 2 * y2 * b)) * (x1 * r + 2 * x2 * s - (y1 * p + 2 * y2 * q)) + 2 * (x1 * d + x2 * c - (y1 * b + y2 * a)) * (x1 * s + x2 * r - (y1 * q + y2 * p)) := by grind
theorem par_id2 (x1 x2 y1 y2 a b c d p q r s : Int) :
  (x1 * x1 + 2 * x2 * x2 + (y1 * y1 + 2 * y2 * y2)) * (p * b + q * a + (r * d + s * c)) + (x1 * x2 + x2 * x1 + (y1 * y2 + y2 * y1)) * (p * a + 2 * q * b + (r * c + 2 * s * d))
  = (x1 * a + 2 * x2 * b + (y1 * c + 2 * y2 * d)) * (p * x2 + q * x1 + (r * y2 + s * y1)) + (x1 * b + x2 * a + (y1 * d + y2 * c)) * (p * x1 + 2 * q * x2 + (r * y1 + 2 * s * y2))
   + (x1 * c + 2 * x2 * d - (y1 * a + 2 * y2 * b)) * (x1 * s + x2 * r - (y1 * q + y2 * p)) + (x1 * d + x2 * c - (y1 * b + y2 * a)) * (x1 * r + 2 * x2 * s - (y1 * p + 2 * y2 * q)) := by grind
def dirs16 : List Int := [0, 1, 2, 3, 4, 5, 6, 7, 8, 9, 10, 11, 12, 13, 14, 15]
theorem in_dirs16 {d : Int} (h : inB d 0 15 = true) : d ∈ dirs16 := by
 rcases d16 h with rfl | rfl | rfl | rfl | rfl | rfl | rfl | rfl | rfl | rfl | rfl | rfl | rfl | rfl | rfl | rfl <;> decide
theorem len_all : (dirs16.all fun e => sgD e (vecV e) == 1) = true := by decide +kernel
theorem sgD_dir {e f : Int} {w : V4} (he : inB e 0 15 = true) (h : isDir e w) : sgD f w = sgD f (vecV e) := by
 obtain ⟨h1, h2, h3⟩ := h
 have n1 : sgD e (vecV e) = 1 := by simpa using List.all_eq_true.1 len_all e (in_dirs16 he)
 have k1 := par_id (vC1 e) (vE1 e) (vC2 e) (vE2 e) w.a w.b w.c w.d (vC1 f) (vE1 f) (vC2 f) (vE2 f)
 have k2 := par_id2 (vC1 e) (vE1 e) (vC2 e) (vE2 e) w.a w.b w.c w.d (vC1 f) (vE1 f) (vC2 f) (vE2 f)
 have g1 : dtA e (vecV e) * dtA f w + 2 * dtB e (vecV e) * dtB f w = dtA e w * dtA f (vecV e) + 2 * dtB e w * dtB f (vecV e) := by
  have c1 : vC1 e * w.c + 2 * vE1 e * w.d - (vC2 e * w.a + 2 * vE2 e * w.b) = 0 := h1
  have c2 : vC1 e * w.d + vE1 e * w.c - (vC2 e * w.b + vE2 e * w.a) = 0 := h2
  rw [c1, c2] at k1
  simp only [Int.mul_zero, Int.zero_mul, Int.add_zero] at k1
  exact k1
 have g2 : dtA e (vecV e) * dtB f w + dtB e (vecV e) * dtA f w = dtA e w * dtB f (vecV e) + dtB e w * dtA f (vecV e) := by
  have c1 : vC1 e * w.c + 2 * vE1 e * w.d - (vC2 e * w.a + 2 * vE2 e * w.b) = 0 := h1
  have c2 : vC1 e * w.d + vE1 e * w.c - (vC2 e * w.b + vE2 e * w.a) = 0 := h2
  rw [c1, c2] at k2
  simp only [Int.mul_zero, Int.zero_mul, Int.add_zero] at k2
  exact k2
 have m1 := sgZ_mul (dtA e (vecV e)) (dtB e (vecV e)) (dtA f w) (dtB f w)
 have m2 := sgZ_mul (dtA e w) (dtB e w) (dtA f (vecV e)) (dtB f (vecV e))
 rw [g1, g2, m2] at m1
 have s1 : sgZ (dtA e w) (dtB e w) = 1 := by have := sgZ_bd (dtA e w) (dtB e w); omega
 have s2 : sgZ (dtA e (vecV e)) (dtB e (vecV e)) = 1 := n1
 rw [s1, s2, Int.one_mul, Int.one_mul] at m1
 exact m1.symm
theorem turn_tab : (dirs16.all fun p => dirs16.all fun e => (!(inB ((e - p) % 16) 1 7) || sgD ((p + 4) % 16) (vecV e) == 1) && (!((e - p) % 16 == 0 || (e - p) % 16 == 8) || sgD ((p + 4) % 16) (vecV e) == 0)) = true := by decide +kernel
theorem turn_pos {p e : Int} {w : V4} (hp : inB p 0 15 = true) (he : inB e 0 15 = true) (h : isDir e w) :
  (inB ((e - p) % 16) 1 7 = true -> posZ (dtA ((p + 4) % 16) w) (dtB ((p + 4) % 16) w)) /\ (inB ((e - p) % 16) 0 8 = true -> nnZ (dtA ((p + 4) % 16) w) (dtB ((p + 4) % 16) w)) := by
 have t := List.all_eq_true.1 (List.all_eq_true.1 turn_tab p (in_dirs16 hp)) e (in_dirs16 he)
 simp only [Bool.and_eq_true, Bool.or_eq_true, Bool.not_eq_true'] at t
 obtain ⟨t1, t2⟩ := t
 rw [<- sgD_dir he h] at t1 t2
 have f1 : inB ((e - p) % 16) 1 7 = true -> posZ (dtA ((p + 4) % 16) w) (dtB ((p + 4) % 16) w) := fun g => by
  rcases t1 with t1 | t1
  ·rw [g] at t1; cases t1
  ·refine sgZ_posZ.1 ?_
   have : sgD ((p + 4) % 16) w = 1 := by simpa using t1
   show 0 < sgD ((p + 4) % 16) w
   omega
 refine ⟨f1, fun g => ?_⟩
 have g' := inB_iff.1 g
 by_cases k : inB ((e - p) % 16) 1 7 = true
 ·exact .inr (f1 k)
 ·have k' : ¬ (1 <= (e - p) % 16 /\ (e - p) % 16 <= 7) := fun q => k (inB_iff.2 q)
  rcases t2 with t2 | t2
  ·exfalso
   have : ¬ ((e - p) % 16 = 0 \/ (e - p) % 16 = 8) := by simpa using t2
   omega
  ·have : sgD ((p + 4) % 16) w = 0 := by simpa using t2
   exact .inl (sgZ_eq_zero this)
theorem way_pos {V : Nat -> V4} {D A : Nat -> Int} {p : Nat} {n : Nat} (hD : ∀ k, k < n -> inB (D k) 0 15 = true /\ isDir (D k) (sbV (V (k + 1)) (V k))) (hA : ∀ k, k < n -> p <= k -> (D k - D p) % 16 = (A k - A p) % 16) (h1 : inB (A (p + 1) - A p) 1 7 = true) (hp : p < n) :
  ∀ m, p + 2 + m <= n -> (∀ k, p <= k -> k < p + 2 + m -> 0 <= A k - A p /\ A k - A p <= 8) -> posZ (dtA ((D p + 4) % 16) (V (p + 2 + m)) - dtA ((D p + 4) % 16) (V p)) (dtB ((D p + 4) % 16) (V (p + 2 + m)) - dtB ((D p + 4) % 16) (V p)) := by
 have one : ∀ k, p <= k -> k < n -> (0 <= A k - A p /\ A k - A p <= 8) -> nnZ (dtA ((D p + 4) % 16) (V (k + 1)) - dtA ((D p + 4) % 16) (V k)) (dtB ((D p + 4) % 16) (V (k + 1)) - dtB ((D p + 4) % 16) (V k)) := fun k h2 h3 h4 => by
  have := (turn_pos (hD p hp).1 (hD k h3).1 (hD k h3).2).2 (by rw [hA k h3 h2]; exact inB_iff.2 (by omega))
  rwa [(dt_sb _ _ _).1, (dt_sb _ _ _).2] at this
 intro m
 induction m with
 | zero =>
  intro hn hr
  have a0 := one p (Nat.le_refl _) hp ⟨by omega, by omega⟩
  have b1 := inB_iff.1 h1
  have a1 : posZ (dtA ((D p + 4) % 16) (V (p + 1 + 1)) - dtA ((D p + 4) % 16) (V (p + 1))) (dtB ((D p + 4) % 16) (V (p + 1 + 1)) - dtB ((D p + 4) % 16) (V (p + 1))) := by
   have := (turn_pos (hD p hp).1 (hD (p + 1) (by omega)).1 (hD (p + 1) (by omega)).2).1 (by rw [hA (p + 1) (by omega) (by omega)]; exact inB_iff.2 (by omega))
   rwa [(dt_sb _ _ _).1, (dt_sb _ _ _).2] at this
  have := pos_nn a1 a0
  rw [show p + 2 + 0 = p + 1 + 1 by omega]
  rwa [show ∀ x y z : Int, x - y + (y - z) = x - z by intros; omega, show ∀ x y z : Int, x - y + (y - z) = x - z by intros; omega] at this
 | succ m ih =>
  intro hn hr
  have a0 := ih (by omega) fun k h2 h3 => hr k h2 (by omega)
  have a1 := one (p + 2 + m) (by omega) (by omega) (hr _ (by omega) (by omega))
  have := pos_nn a0 a1
  rw [show p + 2 + (m + 1) = p + 2 + m + 1 by omega]
  rwa [show ∀ x y z : Int, y - z + (x - y) = x - z by intros; omega, show ∀ x y z : Int, y - z + (x - y) = x - z by intros; omega] at this
theorem way_ne {V : Nat -> V4} {D A : Nat -> Int} {p q n : Nat} (hD : ∀ k, k < n -> inB (D k) 0 15 = true /\ isDir (D k) (sbV (V (k + 1)) (V k))) (hA : ∀ k, k < n -> p <= k -> (D k - D p) % 16 = (A k - A p) % 16) (hT : ∀ k, k < n -> inB (A (k + 1) - A k) 1 7 = true) (hpq : p < q) (hq : q <= n)
  (hr : A (q - 1) - A p <= 8) : V q ≠ V p := by
 intro e
 have mono : ∀ m k, k + m <= n -> A k <= A (k + m) := by
  intro m
  induction m with
  | zero => intro k _; exact Int.le_refl _
  | succ m ih => intro k h; have := ih k (by omega); have := inB_iff.1 (hT (k + m) (by omega)); rw [show k + (m + 1) = k + m + 1 by omega]; omega
 by_cases h1 : q = p + 1
 ·subst h1
  refine isDir_ne (hD p (by omega)).2 ?_
  rw [e]
  simp [sbV]
 ·have := way_pos hD hA (hT p (by omega)) (by omega) (q - p - 2) (by omega) (fun k h2 h3 => by
   have g1 := mono (k - p) p (by omega)
   have g2 := mono (q - 1 - k) k (by omega)
   rw [show p + (k - p) = k by omega] at g1
   rw [show k + (q - 1 - k) = q - 1 by omega] at g2
   omega)
  rw [show p + 2 + (q - p - 2) = q by omega, e] at this
  exact posZ_ne this ⟨by omega, by omega⟩
theorem closed_ne {V : Nat -> V4} {D A : Nat -> Int} {n : Nat} (hD : ∀ k, k < n -> inB (D k) 0 15 = true /\ isDir (D k) (sbV (V (k + 1)) (V k))) (hA : ∀ p k, k < n -> p <= k -> (D k - D p) % 16 = (A k - A p) % 16) (hT : ∀ k, k < n -> inB (A (k + 1) - A k) 1 7 = true)
  (hn : A n - A 0 = 16) (hc : V n = V 0) {j : Nat} (h0 : 0 < j) (hj : j < n) : V j ≠ V 0 := by
 intro e
 have a1 : ¬ A (j - 1) - A 0 <= 8 := fun h => way_ne hD (hA 0) hT h0 (by omega) h e
 have a2 : ¬ A (n - 1) - A j <= 8 := fun h => way_ne hD (hA j) hT hj (Nat.le_refl _) h (hc.trans e.symm)
 have b1 := inB_iff.1 (hT (j - 1) (by omega))
 have b2 := inB_iff.1 (hT (n - 1) (by omega))
 rw [show j - 1 + 1 = j by omega] at b1
 rw [show n - 1 + 1 = n by omega] at b2
 omega
end Go.Ev
/- The two checks of a polygon agree. -/
namespace Go.Ev
def sumN (t : Nat -> Int) : Nat -> Int
 | 0 => 0
 | k + 1 => sumN t k + t k
theorem sumN_shift (t : Nat -> Int) : ∀ m, sumN t (m + 1) = t 0 + sumN (fun j => t (j + 1)) m := by
 intro m
 induction m with
 | zero => simp [sumN]
 | succ m ih =>
  have e : sumN t (m + 1 + 1) = sumN t (m + 1) + t (m + 1) := rfl
  rw [e, ih]
  simp only [sumN]
  omega
theorem sumN_congr {t u : Nat -> Int} : ∀ m, (∀ j, j < m -> t j = u j) -> sumN t m = sumN u m := by
 intro m
 induction m with
 | zero => intro _; rfl
 | succ m ih => intro h; simp only [sumN]; rw [ih fun j hj => h j (by omega), h m (by omega)]
def tuS (n : Nat) (e : NNI) (j : Nat) : Int := wr (e ((j + 1) % n) 0 - e j 0) % 16
theorem cvS_iff (n : Nat) (e : NNI) : ∀ (m i : Nat) (s : Int), i + m <= 1000 -> 0 <= s -> s <= 7 * i -> (cvS n e i m s = true ↔ (∀ j, i <= j -> j < i + m -> inB (tuS n e j) 1 7 = true) /\ s + (sumN (tuS n e) (i + m) - sumN (tuS n e) i) = 16) := by
 intro m
 induction m with
 | zero =>
  intro i s h0 h1 h2
  simp only [cvS, beq_iff_eq, Nat.add_zero, Int.sub_self, Int.add_zero]
  exact ⟨fun h => ⟨fun j h3 h4 => by omega, h⟩, fun h => h.2⟩
 | succ m ih =>
  intro i s h0 h1 h2
  have hs : cvS n e i (m + 1) s = cond (!(inB (tuS n e i) 1 7)) false (cvS n e (i + 1) m (wr (s + tuS n e i))) := rfl
  rw [hs]
  have hsum : sumN (tuS n e) (i + 1) = sumN (tuS n e) i + tuS n e i := rfl
  cases hb : inB (tuS n e i) 1 7 with
  | false =>
   simp only [Bool.not_false, cond_true, Bool.false_eq_true, false_iff]
   intro h
   have := h.1 i (Nat.le_refl _) (by omega)
   rw [hb] at this
   cases this
  | true =>
   have hb' := inB_iff.1 hb
   simp only [Bool.not_true, cond_false]
   rw [wr_in (n := s + tuS n e i) (by omega) (by omega), ih (i + 1) _ (by omega) (by omega) (by omega), show i + 1 + m = i + (m + 1) by omega, hsum]
   constructor
   ·rintro ⟨g1, g2⟩
    refine ⟨fun j h3 h4 => ?_, by omega⟩
    by_cases hj : j = i
    ·exact hj ▸ hb
    ·exact g1 j (by omega) (by omega)
   ·rintro ⟨g1, g2⟩
    exact ⟨fun j h3 h4 => g1 j (by omega) (by omega), by omega⟩
def bfI (n : Nat) (c : NNI) : Nat -> Int
 | 0 => dirV (pAt c (n - 1)) (pAt c 0)
 | j + 1 => dirA n c j
def tuI (n : Nat) (c : NNI) (j : Nat) : Int := wr (dirA n c j - bfI n c j) % 16
theorem cvF_iff (n : Nat) (c : NNI) : ∀ (m i : Nat) (s : Int), i + m <= 1000 -> 0 <= s -> s <= 7 * i -> (cvF n c i m (bfI n c i) s = true ↔ (∀ j, i <= j -> j < i + m -> 0 <= dirA n c j /\ 0 <= bfI n c j /\ inB (tuI n c j) 1 7 = true) /\ s + (sumN (tuI n c) (i + m) - sumN (tuI n c) i) = 16) := by
 intro m
 induction m with
 | zero =>
  intro i s h0 h1 h2
  simp only [cvF, beq_iff_eq, Nat.add_zero, Int.sub_self, Int.add_zero]
  exact ⟨fun h => ⟨fun j h3 h4 => by omega, h⟩, fun h => h.2⟩
 | succ m ih =>
  intro i s h0 h1 h2
  have hs : cvF n c i (m + 1) (bfI n c i) s = cond (decide (dirA n c i < 0)) false (cond (decide (bfI n c i < 0)) false (cond (!(inB (tuI n c i) 1 7)) false (cvF n c (i + 1) m (bfI n c (i + 1)) (wr (s + tuI n c i))))) := rfl
  rw [hs]
  have hsum : sumN (tuI n c) (i + 1) = sumN (tuI n c) i + tuI n c i := rfl
  by_cases hd : dirA n c i < 0
  ·rw [show decide (dirA n c i < 0) = true from decide_eq_true hd]
   simp only [cond_true, Bool.false_eq_true, false_iff]
   intro h
   have := (h.1 i (Nat.le_refl _) (by omega)).1
   omega
  ·rw [show decide (dirA n c i < 0) = false from decide_eq_false hd]
   by_cases hbf : bfI n c i < 0
   ·rw [show decide (bfI n c i < 0) = true from decide_eq_true hbf]
    simp only [cond_true, cond_false, Bool.false_eq_true, false_iff]
    intro h
    have := (h.1 i (Nat.le_refl _) (by omega)).2.1
    omega
   ·rw [show decide (bfI n c i < 0) = false from decide_eq_false hbf]
    cases hb : inB (tuI n c i) 1 7 with
    | false =>
     simp only [Bool.not_false, cond_true, cond_false, Bool.false_eq_true, false_iff]
     intro h
     have := (h.1 i (Nat.le_refl _) (by omega)).2.2
     rw [hb] at this
     cases this
    | true =>
     have hb' := inB_iff.1 hb
     simp only [Bool.not_true, cond_false]
     rw [wr_in (n := s + tuI n c i) (by omega) (by omega), ih (i + 1) _ (by omega) (by omega) (by omega), show i + 1 + m = i + (m + 1) by omega, hsum]
     constructor
     ·rintro ⟨g1, g2⟩
      refine ⟨fun j h3 h4 => ?_, by omega⟩
      by_cases hj : j = i
      ·exact hj ▸ ⟨by omega, by omega, hb⟩
      ·exact g1 j (by omega) (by omega)
     ·rintro ⟨g1, g2⟩
      exact ⟨fun j h3 h4 => g1 j (by omega) (by omega), by omega⟩
theorem bf_dir {n : Nat} {c : NNI} (h0 : 0 < n) {j : Nat} (hj : j < n) : bfI n c j = dirA n c ((j + (n - 1)) % n) := by
 cases j with
 | zero =>
  rw [Nat.zero_add, Nat.mod_eq_of_lt (by omega)]
  show dirV (pAt c (n - 1)) (pAt c 0) = dirV (pAt c (n - 1)) (pAt c ((n - 1 + 1) % n))
  rw [show n - 1 + 1 = n by omega, Nat.mod_self]
 | succ j =>
  rw [show j + 1 + (n - 1) = j + n by omega, Nat.add_mod_right, Nat.mod_eq_of_lt (by omega)]
  rfl
theorem tuI_succ {n : Nat} {c : NNI} {j : Nat} (hj : j + 1 < n) : tuI n c (j + 1) = tuS n (sidC n c) j := by
 unfold tuI tuS
 rw [Nat.mod_eq_of_lt hj, sid_at hj, sid_at (i := j) (by omega)]
 rfl
theorem tuI_zero {n : Nat} {c : NNI} (h0 : 0 < n) : tuI n c 0 = tuS n (sidC n c) (n - 1) := by
 unfold tuI tuS
 rw [sid_at (i := n - 1) (by omega), show n - 1 + 1 = n by omega, Nat.mod_self, sid_at h0, bf_dir h0 h0, Nat.zero_add, Nat.mod_eq_of_lt (by omega)]
theorem cv_eq {n : Nat} {c : NNI} (h0 : 0 < n) (hn : n <= 16) : cvI n c = (okD n c && cvS n (sidC n c) 0 n 0) := by
 rw [Bool.eq_iff_iff, Bool.and_eq_true]
 have k1 : cvI n c = cvF n c 0 n (bfI n c 0) 0 := rfl
 rw [k1, cvF_iff n c n 0 0 (by omega) (by omega) (by omega), cvS_iff n _ n 0 0 (by omega) (by omega) (by omega)]
 have hsum : sumN (tuI n c) n = sumN (tuS n (sidC n c)) n := by
  obtain ⟨m, rfl⟩ : ∃ m, n = m + 1 := ⟨n - 1, by omega⟩
  rw [sumN_shift, tuI_zero h0, sumN_congr m (u := tuS (m + 1) (sidC (m + 1) c)) fun j hj => tuI_succ (by omega)]
  simp only [Nat.add_sub_cancel, sumN]
  omega
 have hok : okD n c = true ↔ ∀ j, j < n -> 0 <= dirA n c j := by
  unfold okD
  rw [allF_iff]
  constructor
  ·intro h j hj
   have := h j (Nat.zero_le _) (by omega)
   simp only [ltz, Bool.not_eq_true', decide_eq_false_iff_not] at this
   omega
  ·intro h j _ hj
   have := h j (by omega)
   simp only [ltz, Bool.not_eq_true', decide_eq_false_iff_not]
   omega
 rw [hok]
 simp only [Nat.zero_add, sumN, Int.sub_zero, hsum]
 constructor
 ·rintro ⟨g1, g2⟩
  refine ⟨fun j hj => (g1 j (Nat.zero_le _) hj).1, fun j _ hj => ?_, g2⟩
  by_cases e : j + 1 < n
  ·rw [<- tuI_succ e]
   exact (g1 (j + 1) (Nat.zero_le _) e).2.2
  ·rw [show j = n - 1 by omega, <- tuI_zero h0]
   exact (g1 0 (Nat.zero_le _) h0).2.2
 ·rintro ⟨g1, g2, g3⟩
  refine ⟨fun j _ hj => ⟨g1 j hj, ?_, ?_⟩, g3⟩
  ·rw [bf_dir h0 hj]
   exact g1 _ (Nat.mod_lt _ h0)
  ·cases j with
   | zero => rw [tuI_zero h0]; exact g2 _ (Nat.zero_le _) (by omega)
   | succ j => rw [tuI_succ hj]; exact g2 j (Nat.zero_le _) (by omega)
theorem cp_val {p q : P2} {v u : V4} (hp : valP p = true) (hq : valP q = true) (h : PV 10 p v 134217728) (g : PV 10 q u 134217728) :
  cpP p q = cond (sgZ (v.a - u.a) (v.b - u.b) != 0) (sgZ (v.a - u.a) (v.b - u.b)) (sgZ (v.c - u.c) (v.d - u.d)) := by
 have k1 := (sub_val h.x.v h.x.a h.x.b g.x.v g.x.a g.x.b)
 have k2 := (sub_val h.y.v h.y.a h.y.b g.y.v g.y.a g.y.b)
 unfold cpP
 rw [k1.1.sg, k2.1.sg]
def difV (v u : V4) : Int := cond (sgZ (v.a - u.a) (v.b - u.b) != 0) (sgZ (v.a - u.a) (v.b - u.b)) (sgZ (v.c - u.c) (v.d - u.d))
theorem dif_neg (v u : V4) : difV u v = -difV v u := by
 unfold difV
 have e1 : sgZ (u.a - v.a) (u.b - v.b) = -sgZ (v.a - u.a) (v.b - u.b) := by rw [<- sgZ_minus]; congr 1 <;> omega
 have e2 : sgZ (u.c - v.c) (u.d - v.d) = -sgZ (v.c - u.c) (v.d - u.d) := by rw [<- sgZ_minus]; congr 1 <;> omega
 rw [e1, e2]
 by_cases h : sgZ (v.a - u.a) (v.b - u.b) = 0
 ·simp [h]
 ·have : (sgZ (v.a - u.a) (v.b - u.b) != 0) = true := by simpa using h
  have h2 : (-sgZ (v.a - u.a) (v.b - u.b) != 0) = true := by simp; omega
  rw [this, h2]
  rfl
theorem dif_zero {v u : V4} (h : difV v u = 0) : v = u := by
 unfold difV at h
 by_cases h1 : sgZ (v.a - u.a) (v.b - u.b) = 0
 ·rw [show (sgZ (v.a - u.a) (v.b - u.b) != 0) = false by simp [h1]] at h
  simp only [cond_false] at h
  obtain ⟨a1, a2⟩ := sgZ_eq_zero h1
  obtain ⟨b1, b2⟩ := sgZ_eq_zero h
  obtain ⟨va, vb, vc, vd⟩ := v
  obtain ⟨ua, ub, uc, ud⟩ := u
  simp only at a1 a2 b1 b2
  rw [show va = ua by omega, show vb = ub by omega, show vc = uc by omega, show vd = ud by omega]
 ·rw [show (sgZ (v.a - u.a) (v.b - u.b) != 0) = true by simpa using h1] at h
  exact absurd h h1
theorem pv_uniq10 {p : P2} {v u : V4} {M K : Nat} (h : PV 10 p v M) (g : PV 10 p u K) : v = u := by
 obtain ⟨a1, a2⟩ := val_same h.x.v g.x.v
 obtain ⟨b1, b2⟩ := val_same h.y.v g.y.v
 obtain ⟨va, vb, vc, vd⟩ := v
 obtain ⟨ua, ub, uc, ud⟩ := u
 simp only at a1 a2 b1 b2
 rw [a1, a2, b1, b2]
theorem cp_dif {p q : P2} {v u : V4} (hp : valP p = true) (hq : valP q = true) (h : PV 10 p v 134217728) (g : PV 10 q u 134217728) : cpP p q = difV v u := cp_val hp hq h g
theorem lc_pos (c : NNI) : ∀ (m i l : Nat), 0 < i -> 0 < l -> 0 < lcF c i m l := by
 intro m
 induction m with
 | zero => intro i l _ h; exact h
 | succ m ih =>
  intro i l hi hl
  simp only [lcF]
  cases decide (cpP (pAt c i) (pAt c l) < 0) with
  | true => exact ih (i + 1) i (by omega) hi
  | false => exact ih (i + 1) l (by omega) hl
theorem lc_zero (c : NNI) : ∀ (m i : Nat), 0 < i -> (lcF c i m 0 = 0 ↔ ∀ j, i <= j -> j < i + m -> ¬ cpP (pAt c j) (pAt c 0) < 0) := by
 intro m
 induction m with
 | zero => intro i _; exact ⟨fun _ j h1 h2 => by omega, fun _ => rfl⟩
 | succ m ih =>
  intro i hi
  simp only [lcF]
  by_cases h : cpP (pAt c i) (pAt c 0) < 0
  ·rw [show decide (cpP (pAt c i) (pAt c 0) < 0) = true from decide_eq_true h]
   have := lc_pos c m (i + 1) i (by omega) hi
   simp only [cond_true]
   exact ⟨fun e => by omega, fun g => absurd h (g i (Nat.le_refl _) (by omega))⟩
  ·rw [show decide (cpP (pAt c i) (pAt c 0) < 0) = false from decide_eq_false h, cond_false, ih (i + 1) (by omega)]
   constructor
   ·intro g j h1 h2
    by_cases e : j = i
    ·exact e ▸ h
    ·exact g j (by omega) (by omega)
   ·exact fun g j h1 h2 => g j (by omega) (by omega)
theorem lc_least {n : Nat} (c : NNI) (h0 : 0 < n) : lcF c 0 n 0 = 0 ↔ ∀ j, 0 < j -> j < n -> ¬ cpP (pAt c j) (pAt c 0) < 0 := by
 obtain ⟨m, rfl⟩ : ∃ m, n = m + 1 := ⟨n - 1, by omega⟩
 have e : lcF c 0 (m + 1) 0 = lcF c 1 m 0 := by
  simp only [lcF]
  cases decide (cpP (pAt c 0) (pAt c 0) < 0) <;> rfl
 rw [e, lc_zero c m 1 (by omega)]
 exact ⟨fun g j h1 h2 => g j (by omega) (by omega), fun g j h1 h2 => g j (by omega) (by omega)⟩
theorem corner_ne {n : Nat} {c : NNI} (h0 : 0 < n) (hn : n <= 16) (hv : ∀ i, i < n -> valP (pAt c i) = true) (hd : okD n c = true) (hc : cvS n (sidC n c) 0 n 0 = true) {j : Nat} (hj : 0 < j) (hjn : j < n) {v u : V4}
  (g0 : PV 10 (pAt c 0) v 134217728) (g1 : PV 10 (pAt c j) u 134217728) : u ≠ v := by
 obtain ⟨k1, k2⟩ := (cvS_iff n _ n 0 0 (by omega) (by omega) (by omega)).1 hc
 simp only [Nat.zero_add, sumN, Int.sub_zero] at k1 k2
 have ex : ∀ i, ∃ w, i < n -> PV 10 (pAt c i) w 134217728 := fun i => by
  by_cases h : i < n
  ·obtain ⟨w, hw⟩ := valP_pv (hv i h)
   exact ⟨w, fun _ => hw⟩
  ·exact ⟨v, fun g => absurd g h⟩
 let F : Nat -> V4 := fun i => Classical.choose (ex i)
 have hF : ∀ i, i < n -> PV 10 (pAt c i) (F i) 134217728 := fun i h => Classical.choose_spec (ex i) h
 have hdir : ∀ i, i < n -> inB (dirA n c i) 0 15 = true := fun i h => dirA_ok h0 hv hd h
 have tS : ∀ i, i < n -> tuS n (sidC n c) i = (dirA n c ((i + 1) % n) - dirA n c i) % 16 := fun i h => by
  unfold tuS
  have q1 := inB_iff.1 (hdir i h)
  have q2 := inB_iff.1 (hdir _ (Nat.mod_lt (i + 1) h0))
  rw [sid_at h, sid_at (Nat.mod_lt _ h0), wr_in (by omega) (by omega)]
 have step : ∀ k, k < n -> inB (dirA n c k) 0 15 = true /\ isDir (dirA n c k) (sbV (F ((k + 1) % n)) (F (k % n))) := fun k h => by
  refine ⟨hdir k h, ?_⟩
  have hm := Nat.mod_lt (k + 1) h0
  obtain ⟨a, b, ha, hb, hw, _⟩ := way_of (hv k h) (hv _ hm)
  have ea := pv_uniq10 ha (hF k h)
  have eb := pv_uniq10 hb (hF _ hm)
  subst ea eb
  rw [Nat.mod_eq_of_lt h]
  rcases dirV_spec hw with ⟨_, q⟩ | ⟨q, _⟩
  ·exact q
  ·have := inB_iff.1 (hdir k h)
   have e : dirA n c k = -1 := q
   omega
 have rel : ∀ k, k < n -> (dirA n c k - dirA n c 0 - sumN (tuS n (sidC n c)) k) % 16 = 0 := by
  intro k
  induction k with
  | zero => intro _; simp [sumN]
  | succ k ih =>
   intro h
   have i1 := ih (by omega)
   have t := tS k (by omega)
   rw [Nat.mod_eq_of_lt h] at t
   simp only [sumN]
   omega
 have := closed_ne (V := fun k => F (k % n)) (D := dirA n c) (A := sumN (tuS n (sidC n c))) (n := n) step (fun p k h1 h2 => by
  have r1 := rel k h1
  have r2 := rel p (by omega)
  omega) (fun k h => by
  simp only [sumN]
  have := k1 k (Nat.zero_le _) h
  rwa [show ∀ x y : Int, x + y - x = y by intros; omega]) (by simp only [sumN]; omega) (by simp) hj hjn
 simp only [Nat.zero_mod, Nat.mod_eq_of_lt hjn] at this
 have e0 := pv_uniq10 g0 (hF 0 h0)
 have e1 := pv_uniq10 g1 (hF j hjn)
 subst e0 e1
 exact this
theorem vp_eq (n : Nat) (c : NNI) : vpI n c = vpS n c := by
 unfold vpI vpS
 by_cases h3 : (n : Int) < 3
 ·rw [show decide ((n : Int) < 3) = true from decide_eq_true h3, show inB (n : Int) 3 16 = false by
   cases h : inB (n : Int) 3 16 with
   | false => rfl
   | true => have := inB_iff.1 h; omega]
  rfl
 rw [show decide ((n : Int) < 3) = false from decide_eq_false h3]
 by_cases h16 : (n : Int) > 16
 ·rw [show decide ((n : Int) > 16) = true from decide_eq_true h16, show inB (n : Int) 3 16 = false by
   cases h : inB (n : Int) 3 16 with
   | false => rfl
   | true => have := inB_iff.1 h; omega]
  rfl
 rw [show decide ((n : Int) > 16) = false from decide_eq_false h16, show inB (n : Int) 3 16 = true from inB_iff.2 (by omega)]
 have h0 : 0 < n := by omega
 simp only [cond_false, Bool.true_and]
 rw [cv_eq h0 (by omega), Bool.eq_iff_iff]
 simp only [Bool.and_eq_true, beq_iff_eq, allF_iff, befS, Bool.or_eq_true, decide_eq_true_eq]
 have lz : (((lcF c 0 n 0 : Nat) : Int) = 0) ↔ lcF c 0 n 0 = 0 := by omega
 rw [lz, lc_least c h0, allP_iff]
 constructor
 ·rintro ⟨hv, ⟨hd, hc⟩, hl⟩
  refine ⟨fun i _ hi => ⟨hv i (by omega), ?_⟩, hd, hc⟩
  by_cases e : i = 0
  ·exact .inl e
  ·right
   obtain ⟨v, g0⟩ := valP_pv (hv 0 h0)
   obtain ⟨u, g1⟩ := valP_pv (hv i (by omega))
   have ne := corner_ne h0 (by omega) hv hd hc (by omega) (by omega) g0 g1
   have l1 := hl i (by omega) (by omega)
   rw [cp_dif (hv i (by omega)) (hv 0 h0) g1 g0] at l1
   rw [cp_dif (hv 0 h0) (hv i (by omega)) g0 g1, dif_neg]
   have : difV u v ≠ 0 := fun h => ne (dif_zero h)
   omega
 ·rintro ⟨hb, hd, hc⟩
  have hv : ∀ i, i < n -> valP (pAt c i) = true := fun i hi => (hb i (Nat.zero_le _) (by omega)).1
  refine ⟨hv, ⟨hd, hc⟩, fun j h1 h2 => ?_⟩
  obtain ⟨v, g0⟩ := valP_pv (hv 0 h0)
  obtain ⟨u, g1⟩ := valP_pv (hv j h2)
  rcases (hb j (Nat.zero_le _) (by omega)).2 with e | e
  ·omega
  ·rw [cp_dif (hv 0 h0) (hv j h2) g0 g1] at e
   rw [cp_dif (hv j h2) (hv 0 h0) g1 g0, dif_neg]
   omega
end Go.Ev
namespace Go.Ev
end Go.Ev
namespace Go.Ev
def eqPS (n : Nat) (c : NNI) (m : Nat) (d : NNI) : Bool := decide (n = m) && allF (fun i => eqP (pAt c i) (pAt d i)) 0 n
end Go.Ev
namespace Go.Ev
theorem vpS_in {n : Nat} {c : NNI} (h : vpS n c = true) : 3 <= n /\ n <= 16 /\ allP n c = true := by
 have h2 := h
 rw [<- vp_eq] at h2
 unfold vpI at h2
 simp only [Bool.and_eq_true] at h2
 have := inB_iff.1 h2.1
 exact ⟨by omega, by omega, h2.2.1⟩
end Go.Ev
/- Polygons that are turned, reversed, moved. -/
namespace Go.Ev
def rotC (n k : Nat) (c : NNI) : NNI := catC (n - k) (catC 0 zeroC fun i => c (i + k)) c
theorem lc_one (n : Nat) (c : NNI) (h : 0 < n) : lcF c 1 (n - 1) 0 = lcF c 0 n 0 := by
 obtain ⟨m, rfl⟩ : ∃ m, n = m + 1 := ⟨n - 1, by omega⟩
 simp only [lcF, Nat.add_sub_cancel]
 cases decide (cpP (pAt c 0) (pAt c 0) < 0) <;> rfl
theorem lc_lt (c : NNI) : ∀ (m i l n : Nat), i + m <= n -> l < n -> lcF c i m l < n := by
 intro m
 induction m with
 | zero => intro i l n _ h; exact h
 | succ m ih =>
  intro i l n h1 h2
  simp only [lcF]
  cases decide (cpP (pAt c i) (pAt c l) < 0) with
  | true => exact ih (i + 1) i n (by omega) (by omega)
  | false => exact ih (i + 1) l n (by omega) h2
end Go.Ev
namespace Go.Ev
def swC (d : NNI) (i j : Nat) : NNI := rowSet (rowSet d i 0 (rowL 6 d j)) j 0 (rowL 6 d i)
def rvF : Nat -> Nat -> Nat -> (NNI) -> NNI
 | 0, _, _, d => d
 | m + 1, i, j, d => cond (decide (i < j)) (rvF m (i + 1) (j - 1) (swC d i j)) d
def revC (n : Nat) (d : NNI) : NNI := rvF n 0 (n - 1) d
theorem swC_at (d : NNI) (i j a b : Nat) (hb : b < 6) : swC d i j a b = if a = j then d i b else if a = i then d j b else d a b := by
 unfold swC
 rw [rowSet_at, rowSet_at]
 have hl : ∀ x, (rowL 6 d x).length = 6 := fun x => by simp [rowL]
 have hg : ∀ x, (rowL 6 d x).getD b 0 = d x b := fun x => by simp [rowL, List.getD, hb]
 rw [hl, hl, hg, hg]
 by_cases h1 : a = j
 ·rw [if_pos ⟨h1, hb⟩, if_pos h1]
 ·rw [if_neg (fun h => h1 h.1), if_neg h1]
  by_cases h2 : a = i
  ·rw [if_pos ⟨h2, hb⟩, if_pos h2]
  ·rw [if_neg (fun h => h2 h.1), if_neg h2]
theorem rvF_at : ∀ (m i j : Nat) (d : NNI) (a b : Nat), b < 6 -> j <= i + m -> rvF m i j d a b = if i <= a /\ a <= j then d (i + j - a) b else d a b := by
 intro m
 induction m with
 | zero =>
  intro i j d a b hb hm
  by_cases h : i <= a /\ a <= j
  ·rw [if_pos h, show i + j - a = a by omega]; rfl
  ·rw [if_neg h]; rfl
 | succ m ih =>
  intro i j d a b hb hm
  simp only [rvF]
  by_cases hij : i < j
  ·rw [decide_eq_true hij, cond_true, ih _ _ _ _ _ hb (by omega)]
   by_cases h : i + 1 <= a /\ a <= j - 1
   ·rw [if_pos h, if_pos (by omega), swC_at _ _ _ _ _ hb, if_neg (by omega), if_neg (by omega), show i + 1 + (j - 1) - a = i + j - a by omega]
   ·rw [if_neg h, swC_at _ _ _ _ _ hb]
    by_cases e : a = j
    ·rw [if_pos e, if_pos (by omega), show i + j - a = i by omega]
    ·rw [if_neg e]
     by_cases e2 : a = i
     ·rw [if_pos e2, if_pos (by omega), show i + j - a = j by omega]
     ·rw [if_neg e2, if_neg (by omega)]
  ·rw [decide_eq_false hij, cond_false]
   by_cases h : i <= a /\ a <= j
   ·rw [if_pos h, show i + j - a = a by omega]
   ·rw [if_neg h]
theorem revC_at {n : Nat} (d : NNI) {a b : Nat} (hb : b < 6) (ha : a < n) : revC n d a b = d (n - 1 - a) b := by
 unfold revC
 rw [rvF_at _ _ _ _ _ _ hb (by omega), if_pos (by omega), Nat.zero_add]
theorem rotC_at {n k : Nat} (c : NNI) (hk : k < n) {a : Nat} (ha : a < n) (b : Nat) : rotC n k c a b = c ((a + k) % n) b := by
 unfold rotC catC
 by_cases h : a < n - k
 ·rw [show Nat.blt a (n - k) = true from Nat.ble_eq_true_of_le h]
  simp only
  rw [blt_false (by omega : ¬ a < 0), Nat.mod_eq_of_lt (by omega)]
  rfl
 ·rw [blt_false h, Nat.mod_eq_sub_mod (by omega), Nat.mod_eq_of_lt (by omega), show a - (n - k) = a + k - n by omega]
theorem pAt_congr {c d : NNI} {i j : Nat} (h : ∀ b, b < 6 -> c i b = d j b) : pAt c i = pAt d j := by
 simp only [pAt, h 0 (by decide), h 1 (by decide), h 2 (by decide), h 3 (by decide), h 4 (by decide), h 5 (by decide)]
theorem rev_pAt {n : Nat} (d : NNI) {a : Nat} (ha : a < n) : pAt (revC n d) a = pAt d (n - 1 - a) := pAt_congr fun b hb => revC_at d hb ha
theorem rot_pAt {n k : Nat} (c : NNI) (hk : k < n) {a : Nat} (ha : a < n) : pAt (rotC n k c) a = pAt c ((a + k) % n) := pAt_congr fun b _ => rotC_at c hk ha b
end Go.Ev
namespace Go.Ev
def cmA (n : Nat) (c : NNI) : Bool := allF (fun i => allF (fun j => cmP (pAt c i) (pAt c j)) 0 n) 0 n
theorem cmA_iff {n : Nat} {c : NNI} : cmA n c = true ↔ ∀ i j, i < n -> j < n -> cmP (pAt c i) (pAt c j) = true := by
 unfold cmA
 rw [allF_iff]
 constructor
 ·exact fun h i j hi hj => allF_iff.1 (h i (Nat.zero_le _) (by omega)) j (Nat.zero_le _) (by omega)
 ·exact fun h i _ hi => allF_iff.2 fun j _ hj => h i j (by omega) (by omega)
end Go.Ev
/- Meets of lines beyond the limits. -/
namespace Go.Ev
def nbB (x : N3) : Bool := decide (0 <= x.k /\ x.k <= 10) && decide ((x.a * 2 ^ (10 - x.k.toNat)).natAbs <= 1073741824 /\ (x.b * 2 ^ (10 - x.k.toNat)).natAbs <= 1073741824)
theorem nbB_vb {x : N3} (h : nbB x = true) : ∃ A B, VB 10 x A B 1073741824 := by
 unfold nbB at h
 simp only [Bool.and_eq_true, decide_eq_true_eq] at h
 obtain ⟨⟨h1, h2⟩, h3, h4⟩ := h
 exact ⟨_, _, ⟨h1, by omega, rfl, rfl⟩, h3, h4⟩
theorem vb_nbB {x : N3} {A B : Int} {M : Nat} (h : VB 10 x A B M) (hM : M <= 1073741824) : nbB x = true := by
 obtain ⟨⟨k0, kS, ea, eb⟩, ha, hb⟩ := h
 unfold nbB
 simp only [Bool.and_eq_true, decide_eq_true_eq]
 refine ⟨⟨k0, by omega⟩, ?_, ?_⟩
 ·rw [<- ea]; omega
 ·rw [<- eb]; omega
theorem meet_wide {i j : Int} {a b : N3} (hi : inB i 0 7 = true) (hj : inB j 0 7 = true) (hne : (i == j) = false) (ha : nbB a = true) (hb : nbB b = true) :
  pkC (nrm i) (nrm j) = true /\ (pkm a (nrm j).y = true /\ pkm b (nrm i).y = true /\ pk (mulF a (nrm j).y) (mulF b (nrm i).y) = true /\ dvP (mtX i j a b) (crsF (nrm i) (nrm j)) = true /\ dvOk (mtX i j a b) (crsF (nrm i) (nrm j)) = true) /\
  (pkm b (nrm i).x = true /\ pkm a (nrm j).x = true /\ pk (mulF b (nrm i).x) (mulF a (nrm j).x) = true /\ dvP (mtY i j a b) (crsF (nrm i) (nrm j)) = true /\ dvOk (mtY i j a b) (crsF (nrm i) (nrm j)) = true) /\
  ∃ E : Nat, E <= 3 /\ (∃ A B, VB (10 + E) (mtP i j a b).x A B 77309411328) /\ (∃ A B, VB (10 + E) (mtP i j a b).y A B 77309411328) := by
 have hd := det_all hi hj hne
 unfold detB at hd
 simp only [Bool.and_eq_true, Bool.or_eq_true, decide_eq_true_eq, beq_iff_eq, Bool.not_eq_true', beq_eq_false_iff_ne] at hd
 obtain ⟨hc, hk, na, nb, no, nz, e0, e3⟩ := hd
 obtain ⟨E, hE⟩ : ∃ E : Nat, dvE (crsF (nrm i) (nrm j)) = E := ⟨(dvE (crsF (nrm i) (nrm j))).toNat, by omega⟩
 have hS : 10 + E <= 1000 := by clear na nb; omega
 obtain ⟨Ei, hni⟩ := nrm_all i hi
 obtain ⟨Ej, hnj⟩ := nrm_all j hj
 obtain ⟨⟨c1, e1, c2, e2, hn, h1, h2, h3, h4⟩, _⟩ := hni
 obtain ⟨⟨d1, f1, d2, f2, hm, g1, g2, g3, g4⟩, _⟩ := hnj
 have vix : Val 0 (nrm i).x c1 e1 := by rw [hn]; exact Val.mk0 c1 e1
 have viy : Val 0 (nrm i).y c2 e2 := by rw [hn]; exact Val.mk0 c2 e2
 have vjx : Val 0 (nrm j).x d1 f1 := by rw [hm]; exact Val.mk0 d1 f1
 have vjy : Val 0 (nrm j).y d2 f2 := by rw [hm]; exact Val.mk0 d2 f2
 obtain ⟨A1, A2, va⟩ := nbB_vb ha
 obtain ⟨B1, B2, vb⟩ := nbB_vb hb
 obtain ⟨p1, _⟩ := va.mulv vjy g3 g4 (by decide) (by decide)
 obtain ⟨p2, _⟩ := vb.mulv viy h3 h4 (by decide) (by decide)
 obtain ⟨p3, _⟩ := vb.mulv vix h1 h2 (by decide) (by decide)
 obtain ⟨p4, _⟩ := va.mulv vjx g1 g2 (by decide) (by decide)
 obtain ⟨q1, _⟩ := p1.sub p2 (by decide) (by decide)
 obtain ⟨q2, _⟩ := p3.sub p4 (by decide) (by decide)
 obtain ⟨r1, r2, r3, _⟩ := q1.div na nb hk no nz hE hS (by decide) (by decide)
 obtain ⟨s1, s2, s3, _⟩ := q2.div na nb hk no nz hE hS (by decide) (by decide)
 exact ⟨hc, ⟨(pk_val va.v vjy (by decide) (by decide)).2, (pk_val vb.v viy (by decide) (by decide)).2, p1.pk p2 (by decide), r1, r2⟩,
  ⟨(pk_val vb.v vix (by decide) (by decide)).2, (pk_val va.v vjx (by decide) (by decide)).2, p3.pk p4 (by decide), s1, s2⟩, E, by clear na nb; omega, ⟨_, _, r3⟩, ⟨_, _, s3⟩⟩
end Go.Ev
namespace Go.Ev
theorem nrm16 {d : Int} (h : inB d 0 7 = true) : vecP (wr (d + 4) % 16) = nrm d /\ inB (wr (d + 4)) 0 19 = true := by
 have h' := inB_iff.1 h
 unfold nrm
 rw [wr_in (by omega) (by omega), Int.emod_eq_of_lt (by omega) (by omega)]
 exact ⟨rfl, inB_iff.2 (by omega)⟩
end Go.Ev
/- The part of a polygon on a side of a line: one recursion for both sides. -/
namespace Go.Ev
def sgL (l : Ln) (p : P2) : Int := sgF (subF (dotF (nrm l.d) p) l.o)
def sgP (l : Ln) (p : P2) : Bool := (inB (wr (l.d + 4)) 0 15) && ((pkD (nrm l.d) p) && ((pk (dotF (nrm l.d) p) l.o) && (sB (subF (dotF (nrm l.d) p) l.o).a && sB (subF (dotF (nrm l.d) p) l.o).b)))
def cell6 (p : P2) : List Int := [p.x.a, p.x.b, p.x.k, p.y.a, p.y.b, p.y.k]
def cutX (l : Ln) (p q : P2) : P2 := mtP (dirV p q % 8) l.d (offV (dirV p q % 8) p) l.o
def cutB (l : Ln) (p q : P2) : Bool := (inB (dirV p q % 8) 0 7 && inB l.d 0 7) && ((!(dirV p q % 8 == l.d)) && (nbB (offV (dirV p q % 8) p) && nbB l.o))
def gez (x : Int) : Bool := decide (x >= 0)
def gtz (x : Int) : Bool := decide (x > 0)
structure Hf where
 m : Nat
 d : NNI
 lv : Bool
 has : Bool
def hfA (l : Ln) (sd : Int) (p : P2) : Int := wr (sd * sgL l p)
def hf1 (l : Ln) (sd : Int) (c : NNI) (i : Nat) (s : Hf) : Hf :=
 cond (gez (hfA l sd (pAt c i))) ⟨s.m + 1, catC s.m s.d (listC [rowL 6 c i]), true, s.has || gtz (hfA l sd (pAt c i))⟩ s
def hf2 (l : Ln) (sd : Int) (p q : P2) (s : Hf) : Hf :=
 cond (ltz (wr (hfA l sd p * hfA l sd q))) ⟨s.m + 1, catC s.m s.d (listC [cell6 (cutX l p q)]), true, s.has⟩ s
def hfF (l : Ln) (sd : Int) (n : Nat) (c : NNI) : Nat -> Nat -> Hf -> Hf
 | _, 0, s => s
 | i, r + 1, s => hfF l sd n c (i + 1) r (hf2 l sd (pAt c i) (pAt c ((i + 1) % n)) (hf1 l sd c i s))
end Go.Ev
namespace Go.Ev
structure HfOk (l : Ln) (sd : Int) (n : Nat) (c : NNI) : Prop where
 v : ∀ i, i < n -> valP (pAt c i) = true
 s : ∀ i, i < n -> sgP l (pAt c i) = true
 d : ∀ i, i < n -> inB (dirA n c i) 0 15 = true
 b : ∀ i, i < n -> ltz (wr (hfA l sd (pAt c i) * hfA l sd (pAt c ((i + 1) % n)))) = true -> cutB l (pAt c i) (pAt c ((i + 1) % n)) = true
theorem hf1_m (l : Ln) (sd : Int) (c : NNI) (i : Nat) (s : Hf) : (hf1 l sd c i s).m <= s.m + 1 := by
 unfold hf1
 cases gez (hfA l sd (pAt c i)) with
 | true => exact Nat.le_refl _
 | false => exact Nat.le_succ _
theorem hf2_m (l : Ln) (sd : Int) (p q : P2) (s : Hf) : (hf2 l sd p q s).m <= s.m + 1 := by
 unfold hf2
 cases ltz (wr (hfA l sd p * hfA l sd q)) with
 | true => exact Nat.le_refl _
 | false => exact Nat.le_succ _
theorem hfF_m (l : Ln) (sd : Int) (n : Nat) (c : NNI) : ∀ (r i : Nat) (s : Hf), (hfF l sd n c i r s).m <= s.m + 2 * r := by
 intro r
 induction r with
 | zero => intro i s; exact Nat.le_refl _
 | succ r ih =>
  intro i s
  have h1 := hf1_m l sd c i s
  have h2 := hf2_m l sd (pAt c i) (pAt c ((i + 1) % n)) (hf1 l sd c i s)
  have h3 := ih (i + 1) (hf2 l sd (pAt c i) (pAt c ((i + 1) % n)) (hf1 l sd c i s))
  simp only [hfF]
  omega
end Go.Ev
namespace Go.Ev
def hfS (l : Ln) (sd : Int) (n : Nat) (c : NNI) : Hf := hfF l sd n c 0 n ⟨0, zeroC, false, false⟩
def hfB (l : Ln) (sd : Int) (n : Nat) (c : NNI) : Bool :=
 allP n c && (allF (fun i => sgP l (pAt c i)) 0 n && (allF (fun i => inB (dirA n c i) 0 15) 0 n && (allF (fun i => !(ltz (wr (hfA l sd (pAt c i) * hfA l sd (pAt c ((i + 1) % n))))) || cutB l (pAt c i) (pAt c ((i + 1) % n))) 0 n &&
  (!(hfS l sd n c).has || (inB ((hfS l sd n c).m : Int) 1 1000000 && cmA (hfS l sd n c).m (hfS l sd n c).d)))))
theorem hfB_ok {l : Ln} {sd : Int} {n : Nat} {c : NNI} (h : hfB l sd n c = true) : HfOk l sd n c /\ ((hfS l sd n c).has = true -> (inB ((hfS l sd n c).m : Int) 1 1000000 && cmA (hfS l sd n c).m (hfS l sd n c).d) = true) := by
 unfold hfB at h
 rw [Bool.and_eq_true, Bool.and_eq_true, Bool.and_eq_true, Bool.and_eq_true, allF_iff, allF_iff, allF_iff] at h
 obtain ⟨h1, h2, h3, h4, h5⟩ := h
 refine ⟨⟨allP_iff.1 h1, fun i hi => h2 i (Nat.zero_le _) (by omega), fun i hi => h3 i (Nat.zero_le _) (by omega), fun i hi hb => ?_⟩, fun hh => ?_⟩
 ·have := h4 i (Nat.zero_le _) (by omega)
  rw [hb] at this
  simpa using this
 ·rw [hh] at h5
  simpa using h5
end Go.Ev
namespace Go.Ev
def sgQ (l : Ln) (p : P2) : Bool := (inB (wr (l.d + 4)) 0 15 && pkD (nrm l.d) p) && ((pk (dotF (nrm l.d) p) l.o) && (sB (subF (dotF (nrm l.d) p) l.o).a && sB (subF (dotF (nrm l.d) p) l.o).b))
theorem sgQ_eq (l : Ln) (p : P2) : sgQ l p = sgP l p := by unfold sgQ sgP; rw [Bool.and_assoc]
theorem gtz_of {x : Int} (h : gez x = false) : gtz x = false := by
 unfold gez at h
 unfold gtz
 have := of_decide_eq_false h
 exact decide_eq_false (by omega)
end Go.Ev
namespace Go.Ev
def cqC (c : NNI) (i : Nat) : List Int := cell6 (selP (valP (redP (pAt c i))) (redP (pAt c i)))
def cqB (n : Nat) (c : NNI) : Bool := allF (fun i => valP (redP (pAt c i))) 0 n
def cqK (c : NNI) (i : Nat) : Bool := kB (pAt c i).x.k && kB (pAt c i).y.k
def cqD (n : Nat) (c : NNI) : NNI := appF (cqC c) 0 n zeroC
end Go.Ev
namespace Go.Ev
theorem cqD_at {n : Nat} {c : NNI} {i : Nat} (h : i < n) : pAt (cqD n c) i = selP (valP (redP (pAt c i))) (redP (pAt c i)) := by
 have e : ∀ j, cqD n c i j = (cqC c i).getD j 0 := fun j => by
  unfold cqD
  rw [appF_at _ _ _ _ _ _ (by omega), if_pos (Nat.zero_le _)]
 simp only [pAt, e]
 rfl
theorem cqD_val {n : Nat} {c : NNI} (h : cqB n c = true) : allP n (cqD n c) = true := by
 refine allP_iff.2 fun i hi => ?_
 have := allF_iff.1 h i (Nat.zero_le _) (by omega)
 rw [cqD_at hi, this]
 exact this
end Go.Ev
/- Sides of a line and of a polygon, by values. -/
namespace Go.Ev
theorem off_val {d : Int} {p : P2} {v : V4} (hd : inB d 0 7 = true) (h : PV 10 p v 134217728) : VB 10 (offV d p) (dtA (d + 4) v) (dtB (d + 4) v) 805306368 /\ lowB (offV d p) := by
 have hd' := inB_iff.1 hd
 have e : nrm d = vecP (d + 4) := by unfold nrm; rw [wr_in (by omega) (by omega)]
 have vv := vv_all (d := d + 4) (inB_iff.2 (by omega))
 unfold offV
 rw [e, vv.eq]
 obtain ⟨m1, _⟩ := VB.vmul (Val.mk0 (vC1 (d + 4)) (vE1 (d + 4))) vv.h1 vv.h2 h.x (by decide) (by decide)
 obtain ⟨m2, _⟩ := VB.vmul (Val.mk0 (vC2 (d + 4)) (vE2 (d + 4))) vv.h3 vv.h4 h.y (by decide) (by decide)
 obtain ⟨a1, a2⟩ := m1.add m2 (by decide) (by decide)
 refine ⟨?_, a2⟩
 have ea : dtA (d + 4) v = vC1 (d + 4) * v.a + 2 * vE1 (d + 4) * v.b + (vC2 (d + 4) * v.c + 2 * vE2 (d + 4) * v.d) := rfl
 have eb : dtB (d + 4) v = vC1 (d + 4) * v.b + vE1 (d + 4) * v.a + (vC2 (d + 4) * v.d + vE2 (d + 4) * v.c) := rfl
 rw [ea, eb]
 exact a1
theorem off_nb {d : Int} {p : P2} (hd : inB d 0 7 = true) (hp : valP p = true) : nbB (offV d p) = true := by
 obtain ⟨v, h⟩ := valP_pv hp
 exact vb_nbB (off_val hd h).1 (by decide)
theorem val_nb {x : N3} (h : validB x = true) : nbB x = true := by
 obtain ⟨A, B, h⟩ := valid_vb h
 exact vb_nbB h (by decide)
end Go.Ev
namespace Go.Ev
theorem sgL_val {l : Ln} {p : P2} {v : V4} {O1 O2 : Int} (hd : inB l.d 0 7 = true) (h : PV 10 p v 134217728) (ho : VB 10 l.o O1 O2 134217728) : sgL l p = sgZ (dtA (l.d + 4) v - O1) (dtB (l.d + 4) v - O2) :=
 ((off_val hd h).1.sub ho (by decide) (by decide)).1.v.sg
theorem dt_para {d D : Int} {w : V4} (hd : inB d 0 7 = true) (hD : inB D 0 15 = true) (he : D % 8 = d) (h : isDir D w) : dtA (d + 4) w = 0 /\ dtB (d + 4) w = 0 := by
 have hd' := inB_iff.1 hd
 have hD' := inB_iff.1 hD
 have hp := perp16 (d := d) (inB_iff.2 (by omega)) w
 rw [Int.emod_eq_of_lt (by omega) (by omega)] at hp
 rw [hp.1, hp.2]
 obtain ⟨h1, h2, _⟩ := h
 rcases (show D = d \/ D = d + 8 by omega) with e | e
 ·rw [<- e]; exact ⟨h1, h2⟩
 ·obtain ⟨o1, o2, _, _⟩ := opp_all hd w
  rw [e, o1] at h1
  rw [e, o2] at h2
  exact ⟨by omega, by omega⟩
theorem sg_same {l : Ln} {p q : P2} (hl : l.valid = true) (hp : valP p = true) (hq : valP q = true) (hD : inB (dirV p q) 0 15 = true) (he : dirV p q % 8 = l.d) : sgL l p = sgL l q := by
 unfold Ln.valid at hl
 rw [Bool.and_eq_true] at hl
 obtain ⟨O1, O2, ho⟩ := valid_vb hl.2
 obtain ⟨v, u, h, g, hw, _⟩ := way_of hp hq
 rcases dirV_spec hw with ⟨_, k⟩ | ⟨k, _⟩
 ·obtain ⟨e1, e2⟩ := dt_para hl.1 hD he k
  have s := dt_sb (l.d + 4) u v
  have e1' : dtA (l.d + 4) (sbV u v) = 0 := e1
  have e2' : dtB (l.d + 4) (sbV u v) = 0 := e2
  rw [s.1] at e1'
  rw [s.2] at e2'
  rw [sgL_val hl.1 h ho, sgL_val hl.1 g ho, show dtA (l.d + 4) v = dtA (l.d + 4) u by omega, show dtB (l.d + 4) v = dtB (l.d + 4) u by omega]
 ·have := inB_iff.1 hD
  omega
end Go.Ev
namespace Go.Ev
theorem sgL_bd (l : Ln) (p : P2) : -1 <= sgL l p /\ sgL l p <= 1 := sgZ_bd _ _
theorem hfA_bd {l : Ln} {sd : Int} (hs : sd = 1 \/ sd = -1) (p : P2) : hfA l sd p = sd * sgL l p /\ -1 <= hfA l sd p /\ hfA l sd p <= 1 := by
 have b := sgL_bd l p
 unfold hfA
 rcases hs with rfl | rfl
 ·rw [wr_in (by omega) (by omega)]; omega
 ·rw [wr_in (by omega) (by omega)]; omega
theorem cut_ok {l : Ln} {sd : Int} {p q : P2} (hs : sd = 1 \/ sd = -1) (hl : l.valid = true) (hp : valP p = true) (hq : valP q = true) (hD : inB (dirV p q) 0 15 = true) (hn : ltz (wr (hfA l sd p * hfA l sd q)) = true) : cutB l p q = true := by
 have hD' := inB_iff.1 hD
 have hl' := hl
 unfold Ln.valid at hl'
 rw [Bool.and_eq_true] at hl'
 have d8 : inB (dirV p q % 8) 0 7 = true := inB_iff.2 (by omega)
 unfold cutB
 rw [d8, hl'.1, off_nb d8 hp, val_nb hl'.2]
 simp only [Bool.and_self, Bool.and_true, Bool.true_and, Bool.not_eq_true', beq_eq_false_iff_ne]
 intro e
 have es := sg_same hl hp hq hD e
 obtain ⟨a1, a2, a3⟩ := hfA_bd (l := l) hs p
 obtain ⟨b1, _, _⟩ := hfA_bd (l := l) hs q
 rw [b1, <- es, <- a1] at hn
 unfold ltz at hn
 have hn := of_decide_eq_true hn
 have sq : 0 <= hfA l sd p * hfA l sd p := sq_nonneg _
 rcases (show hfA l sd p = -1 \/ hfA l sd p = 0 \/ hfA l sd p = 1 by omega) with h | h | h <;> rw [h] at hn <;> revert hn <;> decide
end Go.Ev
namespace Go.Ev
structure Near (p : P2) : Prop where
 x : ∃ A B, VB 13 p.x A B 618475290624
 y : ∃ A B, VB 13 p.y A B 618475290624
theorem near_cm {x y : N3} (hx : ∃ A B, VB 13 x A B 618475290624) (hy : ∃ A B, VB 13 y A B 618475290624) : cmW x y = true := by
 obtain ⟨A, B, h⟩ := hx
 obtain ⟨C, D, g⟩ := hy
 have s := (h.sub g (by decide) (by decide)).1
 obtain ⟨b1, b2⟩ := s.v.bd
 have a1 := s.a
 have a2 := s.b
 unfold cmW
 rw [h.pk g (by decide), Bool.true_and, Bool.and_eq_true]
 exact ⟨sW_iff.2 (by omega), sW_iff.2 (by omega)⟩
theorem Near.cm {p q : P2} (h : Near p) (g : Near q) : cmP p q = true := by
 unfold cmP
 rw [near_cm h.x g.x, near_cm h.y g.y]
 rfl
theorem lift13 {S : Nat} {x : N3} {A B : Int} {M : Nat} (h : VB S x A B M) (h1 : 10 <= S) (h2 : S <= 13) (hM : 8 * M <= 618475290624) : ∃ A' B', VB 13 x A' B' 618475290624 := by
 obtain ⟨E, rfl⟩ : ∃ E, S = 13 - E := ⟨13 - S, by omega⟩
 obtain ⟨A', B', g⟩ := lift8 (E := E) h (by omega)
 rw [show 13 - E + E = 13 by omega] at g
 exact ⟨A', B', g.v, Nat.le_trans g.a hM, Nat.le_trans g.b hM⟩
theorem near_valid {p : P2} (h : valP p = true) : Near p := by
 obtain ⟨v, hv⟩ := valP_pv h
 exact ⟨lift13 hv.x (by decide) (by decide) (by decide), lift13 hv.y (by decide) (by decide) (by decide)⟩
theorem near_cut {l : Ln} {p q : P2} (h : cutB l p q = true) : Near (cutX l p q) := by
 unfold cutB at h
 simp only [Bool.and_eq_true, Bool.not_eq_true'] at h
 obtain ⟨⟨h1, h2⟩, h3, h4, h5⟩ := h
 obtain ⟨_, _, _, E, hE, ⟨A, B, hx⟩, ⟨C, D, hy⟩⟩ := meet_wide h1 h2 h3 h4 h5
 exact ⟨lift13 hx (by omega) (by omega) (by decide), lift13 hy (by omega) (by omega) (by decide)⟩
end Go.Ev
namespace Go.Ev
def AllNear (m : Nat) (d : NNI) : Prop := ∀ i, i < m -> Near (pAt d i)
theorem AllNear.push {m : Nat} {d : NNI} {g : List Int} {p : P2} (h : AllNear m d) (hp : Near p) (hg : g = cell6 p) : AllNear (m + 1) (catC m d (listC [g])) := by
 intro i hi
 by_cases e : i < m
 ·rw [show pAt (catC m d (listC [g])) i = pAt d i from pAt_congr fun b _ => by rw [catC_at, if_pos e]]
  exact h i e
 ·have e' : i = m := by omega
  have : pAt (catC m d (listC [g])) i = p := by
   subst hg
   simp only [pAt, catC_at, e, e', if_true, if_false, Nat.lt_irrefl]
   rfl
  rw [this]
  exact hp
theorem cell_row (c : NNI) (i : Nat) : rowL 6 c i = cell6 (pAt c i) := rfl
theorem hf_near {l : Ln} {sd : Int} {n : Nat} {c : NNI} (ok : HfOk l sd n c) : ∀ (r i : Nat) (s : Hf), i + r = n -> AllNear s.m s.d -> AllNear (hfF l sd n c i r s).m (hfF l sd n c i r s).d := by
 intro r
 induction r with
 | zero => intro i s _ h; exact h
 | succ r ih =>
  intro i s hi h
  simp only [hfF]
  refine ih (i + 1) _ (by omega) ?_
  have h1 : AllNear (hf1 l sd c i s).m (hf1 l sd c i s).d := by
   unfold hf1
   cases gez (hfA l sd (pAt c i)) with
   | true => exact h.push (near_valid (ok.v i (by omega))) (cell_row c i)
   | false => exact h
  unfold hf2
  cases hB : ltz (wr (hfA l sd (pAt c i) * hfA l sd (pAt c ((i + 1) % n)))) with
  | true => exact h1.push (near_cut (ok.b i (by omega) hB)) rfl
  | false => exact h1
end Go.Ev
namespace Go.Ev
theorem hf_has {l : Ln} {sd : Int} {n : Nat} {c : NNI} : ∀ (r i : Nat) (s : Hf), (s.has = true -> 1 <= s.m) -> (hfF l sd n c i r s).has = true -> 1 <= (hfF l sd n c i r s).m := by
 intro r
 induction r with
 | zero => intro i s h; exact h
 | succ r ih =>
  intro i s h
  simp only [hfF]
  refine ih (i + 1) _ ?_
  have h1 : (hf1 l sd c i s).has = true -> 1 <= (hf1 l sd c i s).m := by
   unfold hf1
   cases gez (hfA l sd (pAt c i)) with
   | true => intro _; exact Nat.succ_le_succ (Nat.zero_le _)
   | false => exact h
  unfold hf2
  cases ltz (wr (hfA l sd (pAt c i) * hfA l sd (pAt c ((i + 1) % n)))) with
  | true => intro _; exact Nat.succ_le_succ (Nat.zero_le _)
  | false => exact h1
theorem hfB_valid {l : Ln} {sd : Int} {n : Nat} {c : NNI} (hs : sd = 1 \/ sd = -1) (hl : l.valid = true) (hv : vpS n c = true) : hfB l sd n c = true := by
 obtain ⟨h3, h16, hp⟩ := vpS_in hv
 have hv' := allP_iff.1 hp
 have ho : okD n c = true := by
  unfold vpS at hv
  rw [show decide ((n : Int) < 3) = false from decide_eq_false (by omega), show decide ((n : Int) > 16) = false from decide_eq_false (by omega)] at hv
  simp only [cond_false, Bool.and_eq_true] at hv
  exact hv.2.1
 have hl' := hl
 unfold Ln.valid at hl'
 rw [Bool.and_eq_true] at hl'
 have hd : ∀ i, i < n -> inB (dirA n c i) 0 15 = true := fun i hi => dirA_ok (by omega) hv' ho hi
 have hsg : ∀ i, i < n -> sgP l (pAt c i) = true := fun i hi => by
  obtain ⟨k1, k2, k3, k4⟩ := side_ok hl'.1 hl'.2 (hv' i hi)
  unfold sgP
  rw [k1, k2, k3, k4]
  rfl
 have hb : ∀ i, i < n -> ltz (wr (hfA l sd (pAt c i) * hfA l sd (pAt c ((i + 1) % n)))) = true -> cutB l (pAt c i) (pAt c ((i + 1) % n)) = true := fun i hi h =>
  cut_ok hs hl (hv' i hi) (hv' _ (Nat.mod_lt _ (by omega))) (hd i hi) h
 have ok : HfOk l sd n c := ⟨hv', hsg, hd, hb⟩
 unfold hfB
 simp only [Bool.and_eq_true, allF_iff]
 refine ⟨hp, fun i _ hi => hsg i (by omega), fun i _ hi => hd i (by omega), fun i _ hi => ?_, ?_⟩
 ·cases h : ltz (wr (hfA l sd (pAt c i) * hfA l sd (pAt c ((i + 1) % n)))) with
  | false => rfl
  | true => rw [hb i (by omega) h]; rfl
 ·cases hh : (hfS l sd n c).has with
  | false => rfl
  | true =>
   have near : AllNear (hfS l sd n c).m (hfS l sd n c).d := hf_near ok n 0 ⟨0, zeroC, false, false⟩ (by omega) fun i hi => absurd hi (Nat.not_lt_zero _)
   have hm1 : 1 <= (hfS l sd n c).m := hf_has n 0 ⟨0, zeroC, false, false⟩ (fun h => by cases h) hh
   have hm2 : (hfS l sd n c).m <= 0 + 2 * n := hfF_m l sd n c n 0 ⟨0, zeroC, false, false⟩
   rw [show inB ((hfS l sd n c).m : Int) 1 1000000 = true from inB_iff.2 (by omega), cmA_iff.2 fun i j hi hj => (near i hi).cm (near j hj)]
   rfl
end Go.Ev
/- A polygon cut by a line: both sides give the same parts. -/
namespace Go.Ev
theorem meet_low {i j : Int} {a b : N3} (hi : inB i 0 7 = true) (hj : inB j 0 7 = true) (hne : (i == j) = false) (ha : nbB a = true) (hb : nbB b = true) : lowB (mtP i j a b).x /\ lowB (mtP i j a b).y := by
 have hd := det_all hi hj hne
 unfold detB at hd
 simp only [Bool.and_eq_true, Bool.or_eq_true, decide_eq_true_eq, beq_iff_eq, Bool.not_eq_true', beq_eq_false_iff_ne] at hd
 obtain ⟨hc, hk, na, nb, no, nz, e0, e3⟩ := hd
 obtain ⟨E, hE⟩ : ∃ E : Nat, dvE (crsF (nrm i) (nrm j)) = E := ⟨(dvE (crsF (nrm i) (nrm j))).toNat, by omega⟩
 have hS : 10 + E <= 1000 := by clear na nb; omega
 obtain ⟨Ei, hni⟩ := nrm_all i hi
 obtain ⟨Ej, hnj⟩ := nrm_all j hj
 obtain ⟨⟨c1, e1, c2, e2, hn, h1, h2, h3, h4⟩, _⟩ := hni
 obtain ⟨⟨d1, f1, d2, f2, hm, g1, g2, g3, g4⟩, _⟩ := hnj
 have vix : Val 0 (nrm i).x c1 e1 := by rw [hn]; exact Val.mk0 c1 e1
 have viy : Val 0 (nrm i).y c2 e2 := by rw [hn]; exact Val.mk0 c2 e2
 have vjx : Val 0 (nrm j).x d1 f1 := by rw [hm]; exact Val.mk0 d1 f1
 have vjy : Val 0 (nrm j).y d2 f2 := by rw [hm]; exact Val.mk0 d2 f2
 obtain ⟨A1, A2, va⟩ := nbB_vb ha
 obtain ⟨B1, B2, vb⟩ := nbB_vb hb
 obtain ⟨p1, _⟩ := va.mulv vjy g3 g4 (by decide) (by decide)
 obtain ⟨p2, _⟩ := vb.mulv viy h3 h4 (by decide) (by decide)
 obtain ⟨p3, _⟩ := vb.mulv vix h1 h2 (by decide) (by decide)
 obtain ⟨p4, _⟩ := va.mulv vjx g1 g2 (by decide) (by decide)
 obtain ⟨q1, _⟩ := p1.sub p2 (by decide) (by decide)
 obtain ⟨q2, _⟩ := p3.sub p4 (by decide) (by decide)
 obtain ⟨_, _, _, l1⟩ := q1.div na nb hk no nz hE hS (by decide) (by decide)
 obtain ⟨_, _, _, l2⟩ := q2.div na nb hk no nz hE hS (by decide) (by decide)
 exact ⟨l1, l2⟩
theorem cut_low {l : Ln} {p q : P2} (h : cutB l p q = true) : redP (cutX l p q) = cutX l p q := by
 unfold cutB at h
 simp only [Bool.and_eq_true, Bool.not_eq_true'] at h
 obtain ⟨⟨h1, h2⟩, h3, h4, h5⟩ := h
 obtain ⟨l1, l2⟩ := meet_low h1 h2 h3 h4 h5
 exact redP_low l1 l2
theorem val_low {p : P2} (h : valP p = true) : redP p = p := by
 obtain ⟨l1, l2⟩ := valP_low h
 exact redP_low l1 l2
end Go.Ev
namespace Go.Ev
def AllQ (Q : P2 -> Prop) (m : Nat) (d : NNI) : Prop := ∀ i, i < m -> Q (pAt d i)
theorem AllQ.push {Q : P2 -> Prop} {m : Nat} {d : NNI} {g : List Int} {p : P2} (h : AllQ Q m d) (hp : Q p) (hg : g = cell6 p) : AllQ Q (m + 1) (catC m d (listC [g])) := by
 intro i hi
 by_cases e : i < m
 ·rw [show pAt (catC m d (listC [g])) i = pAt d i from pAt_congr fun b _ => by rw [catC_at, if_pos e]]
  exact h i e
 ·have e' : i = m := by omega
  have : pAt (catC m d (listC [g])) i = p := by
   subst hg
   simp only [pAt, catC_at, e, e', if_true, if_false, Nat.lt_irrefl]
   rfl
  rw [this]
  exact hp
theorem hf_all {Q : P2 -> Prop} {l : Ln} {sd : Int} {n : Nat} {c : NNI} (ok : HfOk l sd n c) (hv : ∀ p, valP p = true -> Q p) (hc : ∀ p q, cutB l p q = true -> Q (cutX l p q)) : ∀ (r i : Nat) (s : Hf), i + r = n -> AllQ Q s.m s.d -> AllQ Q (hfF l sd n c i r s).m (hfF l sd n c i r s).d := by
 intro r
 induction r with
 | zero => intro i s _ h; exact h
 | succ r ih =>
  intro i s hi h
  simp only [hfF]
  refine ih (i + 1) _ (by omega) ?_
  have h1 : AllQ Q (hf1 l sd c i s).m (hf1 l sd c i s).d := by
   unfold hf1
   cases gez (hfA l sd (pAt c i)) with
   | true => exact h.push (hv _ (ok.v i (by omega))) (cell_row c i)
   | false => exact h
  unfold hf2
  cases hB : ltz (wr (hfA l sd (pAt c i) * hfA l sd (pAt c ((i + 1) % n)))) with
  | true => exact h1.push (hc _ _ (ok.b i (by omega) hB)) rfl
  | false => exact h1
theorem hf_low {l : Ln} {sd : Int} {n : Nat} {c : NNI} (ok : HfOk l sd n c) : ∀ i, i < (hfS l sd n c).m -> redP (pAt (hfS l sd n c).d i) = pAt (hfS l sd n c).d i /\ Near (pAt (hfS l sd n c).d i) :=
 hf_all (Q := fun p => redP p = p /\ Near p) ok (fun _ h => ⟨val_low h, near_valid h⟩) (fun _ _ h => ⟨cut_low h, near_cut h⟩) n 0 ⟨0, zeroC, false, false⟩ (by omega) fun i hi => absurd hi (Nat.not_lt_zero _)
end Go.Ev
namespace Go.Ev
theorem rot_surj {n k i : Nat} (hk : k < n) (hi : i < n) : ∃ a, a < n /\ (a + k) % n = i := by
 by_cases h : k <= i
 ·exact ⟨i - k, by omega, by rw [show i - k + k = i by omega, Nat.mod_eq_of_lt hi]⟩
 ·exact ⟨i + n - k, by omega, by rw [show i + n - k + k = i + n by omega, Nat.add_mod_right, Nat.mod_eq_of_lt hi]⟩
theorem allF_rot {n k : Nat} {c : NNI} (hk : k < n) (f : P2 -> Bool) : allF (fun i => f (pAt (rotC n k c) i)) 0 n = allF (fun i => f (pAt c i)) 0 n := by
 rw [Bool.eq_iff_iff, allF_iff, allF_iff]
 constructor
 ·intro h i _ hi
  obtain ⟨a, ha, e⟩ := rot_surj hk (show i < n by omega)
  have := h a (Nat.zero_le _) (by omega)
  rw [rot_pAt c hk ha, e] at this
  exact this
 ·intro h a _ ha
  rw [rot_pAt c hk (by omega)]
  exact h _ (Nat.zero_le _) (by have := Nat.mod_lt (a + k) (show n > 0 by omega); omega)
theorem lcF_congr {c d : NNI} {n : Nat} (h : ∀ j, j < n -> pAt c j = pAt d j) : ∀ (m i l : Nat), i + m <= n -> l < n -> lcF c i m l = lcF d i m l := by
 intro m
 induction m with
 | zero => intro i l _ _; rfl
 | succ m ih =>
  intro i l h1 h2
  simp only [lcF]
  rw [h i (by omega), h l h2]
  cases decide (cpP (pAt d i) (pAt d l) < 0) with
  | true => exact ih (i + 1) i (by omega) (by omega)
  | false => exact ih (i + 1) l (by omega) h2
def ptN (l : Ln) (sd : Int) (n : Nat) (c : NNI) : Nat := cond (hfS l sd n c).has (hfS l sd n c).m 0
def ptI (l : Ln) (sd : Int) (n : Nat) (c : NNI) : NNI := cond (hfS l sd n c).has (rotC (hfS l sd n c).m (lcF (hfS l sd n c).d 0 (hfS l sd n c).m 0) (hfS l sd n c).d) zeroC
def ptS (l : Ln) (sd : Int) (n : Nat) (c : NNI) : NNI := cond (hfS l sd n c).has (hfS l sd n c).d zeroC
def ctD (n : Nat) (c : NNI) : NNI := rotC n (lcF (cqD n c) 0 n 0) (cqD n c)
theorem allK_of {n : Nat} {c : NNI} (h : ∀ i, i < n -> Near (pAt c i)) : allF (cqK c) 0 n = true := by
 refine allF_iff.2 fun i _ hi => ?_
 obtain ⟨⟨_, _, hx⟩, _, _, hy⟩ := h i (by omega)
 have x0 := hx.v.k0
 have x1 := hx.v.kS
 have y0 := hy.v.k0
 have y1 := hy.v.kS
 unfold cqK kB
 rw [Bool.and_eq_true, Bool.and_eq_true, Bool.and_eq_true, decide_eq_true_eq, decide_eq_true_eq, decide_eq_true_eq, decide_eq_true_eq]
 omega
theorem turn_same {m : Nat} {d : NNI} (hm : 0 < m) (h : ∀ i, i < m -> redP (pAt d i) = pAt d i) :
  cqB m (rotC m (lcF d 0 m 0) d) = cqB m d /\ (cqB m d = true -> ∀ i, i < m -> pAt (cqD m (rotC m (lcF d 0 m 0) d)) i = pAt (ctD m d) i) := by
 have hk := lc_lt d m 0 0 m (by omega) hm
 refine ⟨allF_rot hk fun p => valP (redP p), fun hq i hi => ?_⟩
 have hv : ∀ j, j < m -> valP (redP (pAt d j)) = true := fun j hj => allF_iff.1 hq j (Nat.zero_le _) (by omega)
 have hc : ∀ j, j < m -> pAt (cqD m d) j = pAt d j := fun j hj => by rw [cqD_at hj, hv j hj]; exact h j hj
 have hj : (i + lcF d 0 m 0) % m < m := Nat.mod_lt _ hm
 unfold ctD
 rw [cqD_at hi, rot_pAt d hk hi, hv _ hj, lcF_congr hc m 0 0 (by omega) hm, rot_pAt _ hk hi, hc _ hj]
 exact h _ hj
theorem pt_same {l : Ln} {sd : Int} {n : Nat} {c : NNI} (hs : sd = 1 \/ sd = -1) (hl : l.valid = true) (hv : vpS n c = true) :
  ptN l sd n c <= 2 * n /\ allF (cqK (ptI l sd n c)) 0 (ptN l sd n c) = true /\ allF (cqK (ptS l sd n c)) 0 (ptN l sd n c) = true /\
  cqB (ptN l sd n c) (ptI l sd n c) = cqB (ptN l sd n c) (ptS l sd n c) /\
  (cqB (ptN l sd n c) (ptS l sd n c) = true -> ∀ i, i < ptN l sd n c -> pAt (cqD (ptN l sd n c) (ptI l sd n c)) i = pAt (ctD (ptN l sd n c) (ptS l sd n c)) i) := by
 obtain ⟨ok, _⟩ := hfB_ok (hfB_valid hs hl hv)
 have hm2 : (hfS l sd n c).m <= 0 + 2 * n := hfF_m l sd n c n 0 ⟨0, zeroC, false, false⟩
 have low := hf_low ok
 cases hh : (hfS l sd n c).has with
 | false =>
  rw [show ptN l sd n c = 0 by unfold ptN; rw [hh]; rfl]
  exact ⟨Nat.zero_le _, rfl, rfl, rfl, fun _ i hi => absurd hi (Nat.not_lt_zero _)⟩
 | true =>
  have hm1 : 1 <= (hfS l sd n c).m := hf_has n 0 ⟨0, zeroC, false, false⟩ (fun h => by cases h) hh
  rw [show ptN l sd n c = (hfS l sd n c).m by unfold ptN; rw [hh]; rfl, show ptS l sd n c = (hfS l sd n c).d by unfold ptS; rw [hh]; rfl,
   show ptI l sd n c = rotC (hfS l sd n c).m (lcF (hfS l sd n c).d 0 (hfS l sd n c).m 0) (hfS l sd n c).d by unfold ptI; rw [hh]; rfl]
  have hk := lc_lt (hfS l sd n c).d (hfS l sd n c).m 0 0 (hfS l sd n c).m (by omega) hm1
  obtain ⟨t1, t2⟩ := turn_same hm1 fun i hi => (low i hi).1
  exact ⟨by omega, allK_of fun i hi => by rw [rot_pAt _ hk hi]; exact (low _ (Nat.mod_lt _ hm1)).2, allK_of fun i hi => (low i hi).2, t1, t2⟩
end Go.Ev
namespace Go.Ev
theorem hfF_congr {l : Ln} {sd : Int} {n : Nat} {c d : NNI} (h : ∀ i, i < n -> pAt c i = pAt d i) : ∀ (r i : Nat) (s : Hf), i + r = n -> hfF l sd n c i r s = hfF l sd n d i r s := by
 intro r
 induction r with
 | zero => intro i s _; rfl
 | succ r ih =>
  intro i s hi
  simp only [hfF]
  have hj : (i + 1) % n < n := Nat.mod_lt _ (by omega)
  have e1 : hf1 l sd c i s = hf1 l sd d i s := by
   unfold hf1
   rw [cell_row, cell_row, h i (by omega)]
  rw [e1, h i (by omega), h _ hj]
  exact ih (i + 1) _ (by omega)
theorem hfS_wide (l : Ln) (sd : Int) (n : Nat) (c : NNI) : hfS l sd n (wideC n c) = hfS l sd n c := hfF_congr (fun i hi => wide_at hi) n 0 _ (by omega)
theorem ptN_wide (l : Ln) (sd : Int) (n : Nat) (c : NNI) : ptN l sd n (wideC n c) = ptN l sd n c := by unfold ptN; rw [hfS_wide]
theorem ptS_wide (l : Ln) (sd : Int) (n : Nat) (c : NNI) : ptS l sd n (wideC n c) = ptS l sd n c := by unfold ptS; rw [hfS_wide]
theorem vpS_wide (n : Nat) (c : NNI) : vpS n (wideC n c) = vpS n c := by
 unfold vpS
 rw [okD_wide, sidC_wide]
 by_cases h3 : (n : Int) < 3
 ·rw [decide_eq_true h3]; rfl
 ·rw [show allF (befS (wideC n c)) 0 n = allF (befS c) 0 n from allF_congr fun j _ hj => by unfold befS; rw [wide_at (by omega), wide_at (by omega)]]
def cutV (l : Ln) (n : Nat) (c : NNI) : Bool := vpS n c && l.valid
def cutK (l : Ln) (n : Nat) (c : NNI) : Bool := cqB (ptN l 1 n c) (ptS l 1 n c) && cqB (ptN l (-1) n c) (ptS l (-1) n c)
def cutO (l : Ln) (n : Nat) (c : NNI) : Bool := cutV l n c && cutK l n c
def cutN (l : Ln) (sd : Int) (n : Nat) (c : NNI) : Nat := cond (cutO l n c) (ptN l sd n c) 0
def cutI (l : Ln) (sd : Int) (n : Nat) (c : NNI) : NNI := cond (cutO l n c) (cqD (ptN l sd n c) (ptI l sd n c)) zeroC
def cutT (l : Ln) (sd : Int) (n : Nat) (c : NNI) : NNI := cond (cutO l n c && Nat.blt 0 (ptN l sd n c)) (ctD (ptN l sd n c) (ptS l sd n c)) zeroC
theorem cut_same {l : Ln} {sd : Int} {n : Nat} {c : NNI} (hs : sd = 1 \/ sd = -1) : cutN l sd n c <= 32 /\ eqPS (cutN l sd n c) (cutI l sd n c) (cutN l sd n c) (cutT l sd n c) = true := by
 cases ho : cutO l n c with
 | false =>
  rw [show cutN l sd n c = 0 by unfold cutN; rw [ho]; rfl]
  exact ⟨by decide, rfl⟩
 | true =>
  have ho' := ho
  unfold cutO cutV cutK at ho'
  simp only [Bool.and_eq_true] at ho'
  obtain ⟨⟨hv, hl⟩, k1, k2⟩ := ho'
  obtain ⟨h1, _, _, _, h5⟩ := pt_same hs hl hv
  have hk : cqB (ptN l sd n c) (ptS l sd n c) = true := by
   rcases hs with rfl | rfl
   ·exact k1
   ·exact k2
  obtain ⟨_, h16, _⟩ := vpS_in hv
  rw [show cutN l sd n c = ptN l sd n c by unfold cutN; rw [ho]; rfl, show cutI l sd n c = cqD (ptN l sd n c) (ptI l sd n c) by unfold cutI; rw [ho]; rfl]
  refine ⟨by omega, ?_⟩
  unfold eqPS
  rw [decide_eq_true rfl, Bool.true_and]
  refine allF_iff.2 fun i _ hi => ?_
  rw [show cutT l sd n c = ctD (ptN l sd n c) (ptS l sd n c) by unfold cutT; rw [ho, show Nat.blt 0 (ptN l sd n c) = true from Nat.ble_eq_true_of_le (by omega)]; rfl, h5 hk i (by omega)]
  exact eqP_self _
end Go.Ev
/- Polygons that are turned, reversed and moved are polygons. -/
namespace Go.Ev
def trn (n : Nat) (c : NNI) (i : Nat) : Int := (dirA n c ((i + 1) % n) - dirA n c i) % 16
structure CV (n : Nat) (c : NNI) : Prop where
 d : ∀ i, i < n -> inB (dirA n c i) 0 15 = true
 t : ∀ i, i < n -> inB (trn n c i) 1 7 = true
 s : sumN (trn n c) n = 16
theorem ok_iff {n : Nat} {c : NNI} (h0 : 0 < n) (hv : ∀ i, i < n -> valP (pAt c i) = true) : okD n c = true ↔ ∀ i, i < n -> inB (dirA n c i) 0 15 = true := by
 refine ⟨fun h i hi => dirA_ok h0 hv h hi, fun h => ?_⟩
 unfold okD
 refine allF_iff.2 fun i _ hi => ?_
 have := inB_iff.1 (h i (by omega))
 unfold ltz
 rw [decide_eq_false (by omega)]
 rfl
theorem tuS_trn {n : Nat} {c : NNI} (h : ∀ i, i < n -> inB (dirA n c i) 0 15 = true) {i : Nat} (hi : i < n) : tuS n (sidC n c) i = trn n c i := by
 unfold tuS trn
 have hm := Nat.mod_lt (i + 1) (show n > 0 by omega)
 have q1 := inB_iff.1 (h i hi)
 have q2 := inB_iff.1 (h _ hm)
 rw [sid_at hi, sid_at hm, wr_in (by omega) (by omega)]
theorem cv_iff {n : Nat} {c : NNI} (h0 : 0 < n) (hn : n <= 16) (hv : ∀ i, i < n -> valP (pAt c i) = true) : (okD n c && cvS n (sidC n c) 0 n 0) = true ↔ CV n c := by
 rw [Bool.and_eq_true, ok_iff h0 hv, cvS_iff n _ n 0 0 (by omega) (by omega) (by omega)]
 simp only [Nat.zero_add, sumN, Int.sub_zero]
 constructor
 ·rintro ⟨h1, h2, h3⟩
  have e := sumN_congr (t := tuS n (sidC n c)) (u := trn n c) n fun j hj => tuS_trn h1 hj
  exact ⟨h1, fun i hi => by rw [<- tuS_trn h1 hi]; exact h2 i (Nat.zero_le _) hi, by omega⟩
 ·rintro ⟨h1, h2, h3⟩
  have e := sumN_congr (t := tuS n (sidC n c)) (u := trn n c) n fun j hj => tuS_trn h1 hj
  exact ⟨h1, fun i _ hi => by rw [tuS_trn h1 hi]; exact h2 i hi, by omega⟩
theorem vp_iff {n : Nat} {c : NNI} : vpS n c = true ↔ (3 <= n /\ n <= 16) /\ (∀ i, i < n -> valP (pAt c i) = true) /\ CV n c /\ ∀ j, 0 < j -> j < n -> ¬ cpP (pAt c j) (pAt c 0) < 0 := by
 rw [<- vp_eq]
 unfold vpI
 rw [Bool.and_eq_true, Bool.and_eq_true, Bool.and_eq_true, inB_iff, allP_iff]
 constructor
 ·rintro ⟨h1, h2, h3, h4⟩
  have h0 : 0 < n := by omega
  rw [cv_eq h0 (by omega), cv_iff h0 (by omega) h2] at h3
  have h4 : ((lcF c 0 n 0 : Nat) : Int) = 0 := by simpa using h4
  exact ⟨by omega, h2, h3, (lc_least c h0).1 (by omega)⟩
 ·rintro ⟨h1, h2, h3, h4⟩
  have h0 : 0 < n := by omega
  refine ⟨by omega, h2, ?_, ?_⟩
  ·rw [cv_eq h0 (by omega), cv_iff h0 (by omega) h2]; exact h3
  ·rw [(lc_least c h0).2 h4]; rfl
end Go.Ev
namespace Go.Ev
theorem sgZ_lt {a b : Int} : sgZ a b < 0 ↔ posZ (-a) (-b) := by
 rw [<- sgZ_posZ, sgZ_minus]
 omega
theorem dif_lt {v u : V4} : difV v u < 0 ↔ posZ (u.a - v.a) (u.b - v.b) \/ ((u.a = v.a /\ u.b = v.b) /\ posZ (u.c - v.c) (u.d - v.d)) := by
 unfold difV
 have e1 : sgZ (v.a - u.a) (v.b - u.b) < 0 ↔ posZ (u.a - v.a) (u.b - v.b) := by rw [sgZ_lt, show -(v.a - u.a) = u.a - v.a by omega, show -(v.b - u.b) = u.b - v.b by omega]
 have e2 : sgZ (v.c - u.c) (v.d - u.d) < 0 ↔ posZ (u.c - v.c) (u.d - v.d) := by rw [sgZ_lt, show -(v.c - u.c) = u.c - v.c by omega, show -(v.d - u.d) = u.d - v.d by omega]
 by_cases h : sgZ (v.a - u.a) (v.b - u.b) = 0
 ·obtain ⟨a1, a2⟩ := sgZ_eq_zero h
  rw [h]
  simp only [bne_self_eq_false, cond_false]
  rw [e2]
  constructor
  ·exact fun k => .inr ⟨⟨by omega, by omega⟩, k⟩
  ·rintro (k | ⟨_, k⟩)
   ·exact absurd ⟨by omega, by omega⟩ (posZ_ne k)
   ·exact k
 ·rw [show (sgZ (v.a - u.a) (v.b - u.b) != 0) = true by simpa using h, cond_true, e1]
  constructor
  ·exact fun k => .inl k
  ·rintro (k | ⟨⟨k1, k2⟩, _⟩)
   ·exact k
   ·exfalso
    refine h ?_
    rw [show v.a - u.a = 0 by omega, show v.b - u.b = 0 by omega, sgZ_zero]
theorem posZ_tr {a b c d e f : Int} (h : posZ (c - a) (d - b)) (g : posZ (e - c) (f - d)) : posZ (e - a) (f - b) := by
 have := posZ_add h g
 rwa [show c - a + (e - c) = e - a by omega, show d - b + (f - d) = f - b by omega] at this
theorem dif_trans {u v w : V4} (h : difV u v < 0) (g : difV v w < 0) : difV u w < 0 := by
 rw [dif_lt] at h g ⊢
 rcases h with h | ⟨⟨h1, h2⟩, h3⟩
 ·rcases g with g | ⟨⟨g1, g2⟩, g3⟩
  ·exact .inl (posZ_tr h g)
  ·left; rw [g1, g2]; exact h
 ·rcases g with g | ⟨⟨g1, g2⟩, g3⟩
  ·left; rw [<- h1, <- h2]; exact g
  ·exact .inr ⟨⟨by omega, by omega⟩, posZ_tr h3 g3⟩
theorem dif_self (v : V4) : difV v v = 0 := by
 have := dif_neg v v
 omega
theorem lc_le {n : Nat} {c : NNI} {F : Nat -> V4} (hF : ∀ i j, i < n -> j < n -> cpP (pAt c i) (pAt c j) = difV (F i) (F j)) : ∀ (m i l : Nat), i + m <= n -> l < n -> (∀ j, j < i -> ¬ difV (F j) (F l) < 0) -> ∀ j, j < i + m -> ¬ difV (F j) (F (lcF c i m l)) < 0 := by
 intro m
 induction m with
 | zero => intro i l _ _ h j hj; exact h j (by omega)
 | succ m ih =>
  intro i l h1 h2 h j hj
  simp only [lcF]
  rw [hF i l (by omega) h2]
  by_cases hc : difV (F i) (F l) < 0
  ·rw [decide_eq_true hc, cond_true]
   refine ih (i + 1) i (by omega) (by omega) (fun k hk => ?_) j (by omega)
   by_cases e : k = i
   ·subst e; rw [dif_self]; omega
   ·exact fun q => h k (by omega) (dif_trans q hc)
  ·rw [decide_eq_false hc, cond_false]
   refine ih (i + 1) l (by omega) h2 (fun k hk => ?_) j (by omega)
   by_cases e : k = i
   ·subst e; exact hc
   ·exact h k (by omega)
theorem val_ex {n : Nat} {c : NNI} (hv : ∀ i, i < n -> valP (pAt c i) = true) : ∃ F : Nat -> V4, ∀ i, i < n -> PV 10 (pAt c i) (F i) 134217728 := by
 have ex : ∀ i, ∃ w, i < n -> PV 10 (pAt c i) w 134217728 := fun i => by
  by_cases h : i < n
  ·obtain ⟨w, hw⟩ := valP_pv (hv i h)
   exact ⟨w, fun _ => hw⟩
  ·exact ⟨⟨0, 0, 0, 0⟩, fun g => absurd g h⟩
 exact ⟨fun i => Classical.choose (ex i), fun i h => Classical.choose_spec (ex i) h⟩
theorem lc_min {n : Nat} {c : NNI} (hv : ∀ i, i < n -> valP (pAt c i) = true) {j : Nat} (hj : j < n) : ¬ cpP (pAt c j) (pAt c (lcF c 0 n 0)) < 0 := by
 obtain ⟨F, hF⟩ := val_ex hv
 have h2 : ∀ i j, i < n -> j < n -> cpP (pAt c i) (pAt c j) = difV (F i) (F j) := fun i j hi hj => cp_dif (hv i hi) (hv j hj) (hF i hi) (hF j hj)
 have hl := lc_lt c n 0 0 n (by omega) (by omega)
 rw [h2 j _ hj hl]
 exact lc_le h2 n 0 0 (by omega) (by omega) (fun k hk => absurd hk (Nat.not_lt_zero _)) j (by omega)
end Go.Ev
namespace Go.Ev
theorem mod_add_one {n i k : Nat} : ((i + 1) % n + k) % n = ((i + k) % n + 1) % n := by
 rw [Nat.mod_add_mod, Nat.mod_add_mod]
 congr 1
 omega
theorem dirA_rot {n k : Nat} {c : NNI} (hk : k < n) {i : Nat} (hi : i < n) : dirA n (rotC n k c) i = dirA n c ((i + k) % n) := by
 unfold dirA
 rw [rot_pAt c hk hi, rot_pAt c hk (Nat.mod_lt _ (by omega)), mod_add_one]
theorem trn_rot {n k : Nat} {c : NNI} (hk : k < n) {i : Nat} (hi : i < n) : trn n (rotC n k c) i = trn n c ((i + k) % n) := by
 unfold trn
 rw [dirA_rot hk hi, dirA_rot hk (Nat.mod_lt _ (by omega)), mod_add_one]
theorem sum_rot (f : Nat -> Int) {n : Nat} (h0 : 0 < n) : ∀ k, sumN (fun i => f ((i + k) % n)) n = sumN f n := by
 intro k
 induction k with
 | zero => exact sumN_congr n fun j hj => by rw [Nat.add_zero, Nat.mod_eq_of_lt hj]
 | succ k ih =>
  have h1 := sumN_shift (fun i => f ((i + k) % n)) n
  have h2 : sumN (fun i => f ((i + k) % n)) (n + 1) = sumN (fun i => f ((i + k) % n)) n + f ((n + k) % n) := rfl
  rw [h2, ih] at h1
  simp only [Nat.zero_add, Nat.add_mod_left] at h1
  have h3 : sumN (fun i => f ((i + (k + 1)) % n)) n = sumN (fun j => f ((j + 1 + k) % n)) n := sumN_congr n fun j _ => by rw [show j + (k + 1) = j + 1 + k by omega]
  rw [h3]
  omega
theorem CV.rot {n k : Nat} {c : NNI} (h : CV n c) (hk : k < n) : CV n (rotC n k c) := by
 refine ⟨fun i hi => ?_, fun i hi => ?_, ?_⟩
 ·rw [dirA_rot hk hi]; exact h.d _ (Nat.mod_lt _ (by omega))
 ·rw [trn_rot hk hi]; exact h.t _ (Nat.mod_lt _ (by omega))
 ·rw [sumN_congr n fun j hj => trn_rot hk hj, sum_rot (trn n c) (by omega)]; exact h.s
theorem CV.back {n k : Nat} {c : NNI} (h : CV n (rotC n k c)) (hk : k < n) : CV n c := by
 refine ⟨fun i hi => ?_, fun i hi => ?_, ?_⟩
 ·obtain ⟨a, ha, e⟩ := rot_surj hk hi
  have := h.d a ha
  rwa [dirA_rot hk ha, e] at this
 ·obtain ⟨a, ha, e⟩ := rot_surj hk hi
  have := h.t a ha
  rwa [trn_rot hk ha, e] at this
 ·have := h.s
  rwa [sumN_congr n fun j hj => trn_rot hk hj, sum_rot (trn n c) (by omega)] at this
theorem vp_rot {n : Nat} {c : NNI} (h3 : 3 <= n) (hn : n <= 16) (hv : ∀ i, i < n -> valP (pAt c i) = true) (h : CV n c) : vpS n (rotC n (lcF c 0 n 0) c) = true := by
 have hk := lc_lt c n 0 0 n (by omega) (by omega)
 refine vp_iff.2 ⟨⟨h3, hn⟩, fun i hi => ?_, h.rot hk, fun j _ hj => ?_⟩
 ·rw [rot_pAt c hk hi]; exact hv _ (Nat.mod_lt _ (by omega))
 ·rw [rot_pAt c hk hj, rot_pAt c hk (show 0 < n by omega), Nat.zero_add, Nat.mod_eq_of_lt hk]
  exact lc_min hv (Nat.mod_lt _ (by omega))
theorem vp_rot_no {n : Nat} {c : NNI} (h0 : 0 < n) (h : ¬ CV n c) : vpS n (rotC n (lcF c 0 n 0) c) = false := by
 cases hv : vpS n (rotC n (lcF c 0 n 0) c) with
 | false => rfl
 | true => exact absurd ((vp_iff.1 hv).2.2.1.back (lc_lt c n 0 0 n (by omega) h0)) h
end Go.Ev
namespace Go.Ev
theorem sum_rev (f : Nat -> Int) : ∀ n, sumN (fun i => f (n - 1 - i)) n = sumN f n := by
 intro n
 induction n with
 | zero => rfl
 | succ n ih =>
  rw [sumN_shift]
  simp only [sumN]
  rw [show f (n + 1 - 1 - 0) = f n by congr 1, sumN_congr n (u := fun i => f (n - 1 - i)) fun j hj => by congr 1; omega, ih]
  omega
theorem dirA_rev {n : Nat} {c : NNI} (hv : ∀ i, i < n -> valP (pAt c i) = true) (hd : ∀ i, i < n -> inB (dirA n c i) 0 15 = true) {i : Nat} (hi : i < n) : dirA n (revC n c) i = (dirA n c ((n - 1 - i + (n - 1)) % n) + 8) % 16 := by
 have hm := Nat.mod_lt (i + 1) (show n > 0 by omega)
 have key : ∀ j, j < n -> n - 1 - i = (j + 1) % n -> n - 1 - (i + 1) % n = j -> dirA n (revC n c) i = (dirA n c j + 8) % 16 := fun j hj e1 e2 => by
  have hj2 := Nat.mod_lt (j + 1) (show n > 0 by omega)
  have hb := (dir_back (hv j hj) (hv _ hj2)).2.1 (hd j hj)
  unfold dirA
  rw [rev_pAt c hi, rev_pAt c hm, e1, e2]
  exact hb
 by_cases e : i + 1 < n
 ·have e3 : n - 1 - i + (n - 1) = n - 2 - i + n := by omega
  rw [e3, Nat.add_mod_right, Nat.mod_eq_of_lt (by omega)]
  refine key _ (by omega) ?_ ?_
  ·rw [show n - 2 - i + 1 = n - 1 - i by omega, Nat.mod_eq_of_lt (by omega)]
  ·rw [Nat.mod_eq_of_lt e]; omega
 ·have e1 : i = n - 1 := by omega
  rw [show n - 1 - i + (n - 1) = n - 1 by omega, Nat.mod_eq_of_lt (show n - 1 < n by omega)]
  refine key _ (by omega) ?_ ?_
  ·rw [show n - 1 + 1 = n by omega, Nat.mod_self]; omega
  ·rw [show i + 1 = n by omega, Nat.mod_self]; omega
theorem trn_rev {n : Nat} {c : NNI} (hv : ∀ i, i < n -> valP (pAt c i) = true) (hd : ∀ i, i < n -> inB (dirA n c i) 0 15 = true) {i : Nat} (hi : i < n) : trn n (revC n c) i = (-(trn n c ((n - 1 - i + (n - 1) + (n - 1)) % n))) % 16 := by
 have h0 : 0 < n := by omega
 have hm := Nat.mod_lt (i + 1) h0
 have e1 : (n - 1 - (i + 1) % n + (n - 1)) % n = (n - 1 - i + (n - 1) + (n - 1)) % n := by
  by_cases e : i + 1 < n
  ·rw [Nat.mod_eq_of_lt e, show n - 1 - i + (n - 1) + (n - 1) = n - 1 - (i + 1) + (n - 1) + n by omega, Nat.add_mod_right]
  ·rw [show i + 1 = n by omega, Nat.mod_self, show n - 1 - i + (n - 1) + (n - 1) = n - 1 - 0 + (n - 1) by omega]
 have e2 : ((n - 1 - i + (n - 1) + (n - 1)) % n + 1) % n = (n - 1 - i + (n - 1)) % n := by
  rw [Nat.mod_add_mod, show n - 1 - i + (n - 1) + (n - 1) + 1 = n - 1 - i + (n - 1) + n by omega, Nat.add_mod_right]
 unfold trn
 rw [dirA_rev hv hd hi, dirA_rev hv hd hm, e1, e2]
 omega
end Go.Ev
namespace Go.Ev
def mwR (m : M8) (p : P2) : P2 := moveF m.t m.f m.s p
def mwD (m : M8) (n : Nat) (c : NNI) : NNI := appF (fun i => cell6 (mwR m (pAt c i))) 0 n zeroC
def flI (f : Bool) (n i : Nat) : Nat := cond f (n - 1 - i) i
def mwS (m : M8) (n : Nat) (c : NNI) : NNI := appF (fun i => cell6 (mwR m (pAt c (flI m.f n i)))) 0 n zeroC
theorem app6_at {g : Nat -> P2} {n i : Nat} (h : i < n) : pAt (appF (fun i => cell6 (g i)) 0 n zeroC) i = g i := by
 have e : ∀ j, appF (fun i => cell6 (g i)) 0 n zeroC i j = (cell6 (g i)).getD j 0 := fun j => by rw [appF_at _ _ _ _ _ _ (by omega), if_pos (Nat.zero_le _)]
 simp only [pAt, e]
 rfl
theorem mwD_at (m : M8) {n : Nat} (c : NNI) {i : Nat} (h : i < n) : pAt (mwD m n c) i = mwR m (pAt c i) := app6_at h
theorem mwS_at (m : M8) {n : Nat} (c : NNI) {i : Nat} (h : i < n) : pAt (mwS m n c) i = mwR m (pAt c (flI m.f n i)) := app6_at (g := fun i => mwR m (pAt c (flI m.f n i))) h
theorem flI_lt {f : Bool} {n i : Nat} (h : i < n) : flI f n i < n := by cases f <;> simp only [flI, cond_true, cond_false] <;> omega
theorem flI_flI {f : Bool} {n i : Nat} (h : i < n) : flI f n (flI f n i) = i := by cases f <;> simp only [flI, cond_true, cond_false] <;> omega
theorem mw_low {m : M8} {p : P2} (hm : m.valid = true) (hp : valP p = true) : redP (mwR m p) = mwR m p /\ mvO m p = valP (mwR m p) /\ (valP (mwR m p) = true -> mvP m p = mwR m p) /\ (kB (mwR m p).x.k && kB (mwR m p).y.k) = true := by
 obtain ⟨v, hv⟩ := valP_pv hp
 have hm' := hm
 unfold M8.valid at hm'
 rw [Bool.and_eq_true] at hm'
 obtain ⟨w, hw⟩ := valP_pv hm'.2
 obtain ⟨k1, k2, _, _⟩ := mv_val (m := m) (Nat.le_refl _) hv hw
 have e : mvO m p = valP (mwR m p) := by
  unfold mvO
  rw [k2]
  unfold M8.valid at hm
  rw [hm, hp]
  rfl
 refine ⟨k2, e, fun h => ?_, ?_⟩
 ·unfold mvP
  rw [e, h, k2]
  rfl
 ·show (kB (moveF m.t m.f m.s p).x.k && kB (moveF m.t m.f m.s p).y.k) = true
  rw [k1.x.kB (by decide), k1.y.kB (by decide)]
  rfl
theorem dirM_sub {m : M8} {d e : Int} : (dirM m e - dirM m d) % 16 = (cond m.f (d - e) (e - d)) % 16 := by
 unfold dirM
 cases m.f <;> simp only [cond_true, cond_false] <;> omega
theorem mw_dir {m : M8} {n : Nat} {c : NNI} (hm : m.valid = true) (hv : ∀ i, i < n -> valP (pAt c i) = true) (hq : ∀ i, i < n -> valP (mwR m (pAt c i)) = true) (hd : ∀ i, i < n -> inB (dirA n c i) 0 15 = true) {i : Nat} (hi : i < n) :
  dirA n (mwD m n c) i = dirM m (dirA n c i) := by
 have hj := Nat.mod_lt (i + 1) (show n > 0 by omega)
 obtain ⟨_, a2, a3, _⟩ := mw_low hm (hv i hi)
 obtain ⟨_, b2, b3, _⟩ := mw_low hm (hv _ hj)
 have := inB_iff.1 (hd i hi)
 have k := (ml_dir (m := m) hm (hv i hi) (hv _ hj) (by rw [a2]; exact hq i hi) (by rw [b2]; exact hq _ hj) (fun h => by
  have h' : dirA n c i < 0 := h
  omega)).1
 rw [a3 (hq i hi), b3 (hq _ hj)] at k
 unfold dirA
 rw [mwD_at m c hi, mwD_at m c hj]
 exact k
end Go.Ev
namespace Go.Ev
theorem cat0 (d c : NNI) : catC 0 d c = c := by
 funext i j
 unfold catC
 rw [blt_false (Nat.not_lt_zero i)]
 rfl
def nmR (n : Nat) (c : NNI) : NNI := rotC n (lcF c 0 n 0) c
theorem allF_flI {f : Bool} {n : Nat} (p : Nat -> Bool) : allF (fun i => p (flI f n i)) 0 n = allF p 0 n := by
 rw [Bool.eq_iff_iff, allF_iff, allF_iff]
 constructor
 ·intro h i _ hi
  have := h (flI f n i) (Nat.zero_le _) (by have := flI_lt (f := f) (show i < n by omega); omega)
  rwa [flI_flI (by omega)] at this
 ·intro h i _ hi
  exact h _ (Nat.zero_le _) (by have := flI_lt (f := f) (show i < n by omega); omega)
structure Mw (m : M8) (n : Nat) (c : NNI) : Prop where
 k1 : allF (cqK (mwD m n c)) 0 n = true
 k2 : allF (cqK (mwS m n c)) 0 n = true
 b : cqB n (mwS m n c) = cqB n (mwD m n c)
 e : cqB n (mwD m n c) = true -> (∀ i, i < n -> valP (mwR m (pAt c i)) = true) /\ (∀ i, i < n -> pAt (cqD n (mwD m n c)) i = mwR m (pAt c i)) /\ ∀ i, i < n -> pAt (cqD n (mwS m n c)) i = mwR m (pAt c (flI m.f n i))
theorem mw_all {m : M8} {n : Nat} {c : NNI} (hm : m.valid = true) (hv : ∀ i, i < n -> valP (pAt c i) = true) : Mw m n c := by
 have b1 : cqB n (mwD m n c) = allF (fun i => valP (mwR m (pAt c i))) 0 n := allF_congr fun i _ hi => by rw [mwD_at m c (by omega), (mw_low hm (hv i (by omega))).1]
 have b2 : cqB n (mwS m n c) = allF (fun i => valP (mwR m (pAt c (flI m.f n i)))) 0 n := allF_congr fun i _ hi => by rw [mwS_at m c (by omega), (mw_low hm (hv _ (flI_lt (by omega)))).1]
 refine ⟨allF_iff.2 fun i _ hi => ?_, allF_iff.2 fun i _ hi => ?_, ?_, fun h => ?_⟩
 ·unfold cqK; rw [mwD_at m c (by omega)]; exact (mw_low hm (hv i (by omega))).2.2.2
 ·unfold cqK; rw [mwS_at m c (by omega)]; exact (mw_low hm (hv _ (flI_lt (by omega)))).2.2.2
 ·rw [b1, b2]; exact allF_flI fun i => valP (mwR m (pAt c i))
 ·have hq : ∀ i, i < n -> valP (mwR m (pAt c i)) = true := fun i hi => by rw [b1] at h; exact allF_iff.1 h i (Nat.zero_le _) (by omega)
  refine ⟨hq, fun i hi => ?_, fun i hi => ?_⟩
  ·rw [cqD_at hi, mwD_at m c hi, (mw_low hm (hv i hi)).1, hq i hi]; rfl
  ·rw [cqD_at hi, mwS_at m c hi, (mw_low hm (hv _ (flI_lt hi))).1, hq _ (flI_lt hi)]; rfl
theorem dirA_congr {n : Nat} {c d : NNI} (h : ∀ i, i < n -> pAt c i = pAt d i) {i : Nat} (hi : i < n) : dirA n c i = dirA n d i := by
 unfold dirA
 rw [h i hi, h _ (Nat.mod_lt _ (by omega))]
theorem mw_cv {m : M8} {n : Nat} {c : NNI} (h0 : 0 < n) (hm : m.valid = true) (hv : ∀ i, i < n -> valP (pAt c i) = true) (cv : CV n c) (hq : cqB n (mwD m n c) = true) :
  (m.f = false -> CV n (cqD n (mwD m n c))) /\ (m.f = true -> ¬ CV n (cqD n (mwD m n c)) /\ CV n (revC n (cqD n (mwD m n c)))) := by
 obtain ⟨hp, he, _⟩ := (mw_all hm hv).e hq
 have dE : ∀ i, i < n -> dirA n (cqD n (mwD m n c)) i = dirM m (dirA n c i) := fun i hi => by
  rw [dirA_congr (d := mwD m n c) (fun j hj => by rw [he j hj, mwD_at m c hj]) hi]
  exact mw_dir hm hv hp cv.d hi
 have tE : ∀ i, i < n -> trn n (cqD n (mwD m n c)) i = (cond m.f (dirA n c i - dirA n c ((i + 1) % n)) (dirA n c ((i + 1) % n) - dirA n c i)) % 16 := fun i hi => by
  unfold trn
  rw [dE i hi, dE _ (Nat.mod_lt _ h0), dirM_sub]
 have dI : ∀ i, i < n -> inB (dirA n (cqD n (mwD m n c)) i) 0 15 = true := fun i hi => by rw [dE i hi]; exact dirM_in m _
 refine ⟨fun hf => ⟨dI, fun i hi => ?_, ?_⟩, fun hf => ⟨fun h => ?_, ?_⟩⟩
 ·rw [tE i hi, hf]; exact cv.t i hi
 ·rw [sumN_congr n (u := trn n c) fun j hj => by rw [tE j hj, hf]; rfl]; exact cv.s
 ·have := inB_iff.1 (h.t 0 h0)
  rw [tE 0 h0, hf] at this
  have t := inB_iff.1 (cv.t 0 h0)
  unfold trn at t
  simp only [cond_true] at this
  omega
 ·have vE : ∀ i, i < n -> valP (pAt (cqD n (mwD m n c)) i) = true := fun i hi => by rw [he i hi]; exact hp i hi
  have tR : ∀ i, i < n -> trn n (revC n (cqD n (mwD m n c))) i = trn n c ((n - 1 - i + (n - 1) + (n - 1)) % n) := fun i hi => by
   have hj : (n - 1 - i + (n - 1) + (n - 1)) % n < n := Nat.mod_lt _ h0
   rw [trn_rev vE dI hi, tE _ hj, hf]
   have t := inB_iff.1 (cv.t _ hj)
   unfold trn at t ⊢
   simp only [cond_true]
   omega
  refine ⟨fun i hi => ?_, fun i hi => ?_, ?_⟩
  ·rw [dirA_rev vE dI hi]; exact inB_iff.2 (by omega)
  ·rw [tR i hi]; exact cv.t _ (Nat.mod_lt _ h0)
  ·rw [sumN_congr n fun j hj => tR j hj]
   have e1 : sumN (fun i => trn n c ((n - 1 - i + (n - 1) + (n - 1)) % n)) n = sumN (fun i => (fun i => trn n c ((i + ((n - 1) + (n - 1))) % n)) (n - 1 - i)) n := sumN_congr n fun j _ => by
    simp only
    rw [Nat.add_assoc]
   rw [e1, sum_rev (fun i => trn n c ((i + ((n - 1) + (n - 1))) % n)) n, sum_rot (trn n c) h0]
   exact cv.s
end Go.Ev
namespace Go.Ev
def mpV (m : M8) (n : Nat) (c : NNI) : Bool := m.valid && vpS n c
def mpO (m : M8) (n : Nat) (c : NNI) : Bool := mpV m n c && cqB n (mwD m n c)
def mpN (m : M8) (n : Nat) (c : NNI) : Nat := cond (mpO m n c) n 0
def mpI (m : M8) (n : Nat) (c : NNI) : NNI := cond (mpO m n c) (cond m.f (nmR n (revC n (cqD n (mwD m n c)))) (nmR n (cqD n (mwD m n c)))) zeroC
theorem mp_norm {m : M8} {n : Nat} {c : NNI} (h : mpO m n c = true) : (inB (n : Int) 3 16 && allP n (cqD n (mwD m n c))) = true /\
  vpS n (nmR n (cqD n (mwD m n c))) = !m.f /\ (m.f = true -> vpS n (nmR n (revC n (cqD n (mwD m n c)))) = true) := by
 unfold mpO mpV at h
 simp only [Bool.and_eq_true] at h
 obtain ⟨⟨hm, hv⟩, hq⟩ := h
 obtain ⟨⟨h3, h16⟩, hv', cv, _⟩ := vp_iff.1 hv
 obtain ⟨hp, he, _⟩ := (mw_all hm hv').e hq
 obtain ⟨c1, c2⟩ := mw_cv (by omega) hm hv' cv hq
 have vE : ∀ i, i < n -> valP (pAt (cqD n (mwD m n c)) i) = true := fun i hi => by rw [he i hi]; exact hp i hi
 refine ⟨?_, ?_, fun hf => ?_⟩
 ·rw [Bool.and_eq_true]; exact ⟨inB_iff.2 (by omega), allP_iff.2 vE⟩
 ·cases hf : m.f with
  | true => exact vp_rot_no (by omega) (c2 hf).1
  | false => exact vp_rot h3 h16 vE (c1 hf)
 ·exact vp_rot h3 h16 (fun i hi => by rw [rev_pAt _ hi]; exact vE _ (by omega)) (c2 hf).2
end Go.Ev
namespace Go.Ev
theorem cmA_of {n : Nat} {c : NNI} (h : allP n c = true) : cmA n c = true :=
 cmA_iff.2 fun i j hi hj => (near_valid (allP_iff.1 h i hi)).cm (near_valid (allP_iff.1 h j hj))
theorem allP_rev {n : Nat} {c : NNI} (h : allP n c = true) : allP n (revC n c) = true :=
 allP_iff.2 fun i hi => by rw [rev_pAt _ hi]; exact allP_iff.1 h _ (by omega)
def mgC (m : M8) (c : NNI) (i : Nat) : List Int := cell6 (selP (valP (redP (mwR m (pAt c i)))) (redP (mwR m (pAt c i))))
theorem mg_cq (m : M8) (n : Nat) (c : NNI) : appF (mgC m c) 0 n zeroC = cqD n (mwD m n c) :=
 appF_congr n 0 zeroC fun j _ hj => by unfold mgC cqC; rw [mwD_at m c (by omega)]
theorem mw_okM {m : M8} {p : P2} (hm : m.valid = true) (hp : valP p = true) : okM m.t p m.s = true := by
 unfold M8.valid at hm
 rw [Bool.and_eq_true] at hm
 unfold okM
 rw [hm.1, val_ok hm.2, val_ok hp]
 rfl
theorem mw_cqB {m : M8} {n : Nat} {c : NNI} : allF (fun j => valP (redP (mwR m (pAt c j)))) 0 n = cqB n (mwD m n c) := allF_congr fun j _ hj => by rw [mwD_at m c (by omega)]
end Go.Ev
