/-
  Numbers of 128 bits in plain Lean.
-/
import Derived.Test.YtipgdalebkhgpaaModCfg
import Derived.Test.YtipgdalebkhgpaaModMsg
import Derived.Test.YtipgdalebkhgpaaFw26
set_option maxRecDepth 20000
namespace Go.Proofs.Ytipgdalebkhgpaa
open Go Go.RowKit Fw

/-- The two words of a number. -/
def wideC (n : Nat) : List Value := [.int .u64 ((n / 18446744073709551616 : Nat) : Int), .int .u64 ((n % 18446744073709551616 : Nat) : Int)]
theorem and32 (n : Nat) : n &&& 4294967295 = n % 4294967296 := Nat.and_two_pow_sub_one_eq_mod n 32
theorem or32 {x y : Nat} (h : y < 4294967296) : x * 4294967296 ||| y = x * 4294967296 + y := by
  have := Nat.shiftLeft_add_eq_or_of_lt (a := x) (b := y) (i := 32) h
  rw [Nat.shiftLeft_eq] at this
  exact this.symm
theorem mul_bound {a b A B : Nat} (ha : a ≤ A) (hb : b ≤ B) : a * b ≤ A * B := Nat.mul_le_mul ha hb
/-- The four products. -/
theorem mul_parts (a b : Nat) : a * b = (a / 4294967296) * (b / 4294967296) * 18446744073709551616 + ((a / 4294967296) * (b % 4294967296) + (a % 4294967296) * (b / 4294967296)) * 4294967296 + (a % 4294967296) * (b % 4294967296) := by
  have h1 : a = (a / 4294967296) * 4294967296 + a % 4294967296 := by omega
  have h2 : b = (b / 4294967296) * 4294967296 + b % 4294967296 := by omega
  generalize a / 4294967296 = a1 at *
  generalize a % 4294967296 = a0 at *
  generalize b / 4294967296 = b1 at *
  generalize b % 4294967296 = b0 at *
  subst h1 h2
  grind
end Go.Proofs.Ytipgdalebkhgpaa
namespace Go.Proofs.Ytipgdalebkhgpaa
open Go Go.RowKit Fw
theorem size_eq {a : Int} (ha : -9223372036854775808 ≤ a ∧ a ≤ 9223372036854775807) : IntKind.u64.wrap (IntKind.i64.wrap ((if a < 0 then -a - 1 else a) - sgn a)) = ((a.natAbs : Nat) : Int) := by
  unfold IntKind.wrap sgn
  simp [IntKind.signed, IntKind.bits]
  split <;> split <;> omega
/-- Where a is not below 0, the sign of what both have in common is b's, but for 0. -/
theorem sign_mul {a b : Int} (ha : 0 ≤ a ∧ a ≤ 9223372036854775807) (hb : -9223372036854775808 ≤ b ∧ b ≤ 9223372036854775807) : sgn (IntKind.i64.wrap ((BitVec.ofInt 64 a ^^^ BitVec.ofInt 64 b).toNat : Int)) = if b < 0 then -1 else 0 := by
  have h := xor_neg (a := a) (b := b) (by omega) hb
  unfold sgn
  by_cases h2 : b < 0
  · rw [if_pos h2, if_pos (h.2 (by omega))]
  · rw [if_neg h2, if_neg (fun h3 => by have := h.1 h3; omega)]
theorem mul_abs {a b : Int} (ha : 0 ≤ a ∧ a ≤ 1099511627776) (hb : -4096 ≤ b ∧ b ≤ 4096) : a.natAbs * b.natAbs ≤ 4503599627370496 ∧ (a * b = if b < 0 then -((a.natAbs * b.natAbs : Nat) : Int) else ((a.natAbs * b.natAbs : Nat) : Int)) := by
  refine ⟨Nat.le_trans (Nat.mul_le_mul (show a.natAbs ≤ 1099511627776 by omega) (show b.natAbs ≤ 4096 by omega)) (by decide), ?_⟩
  rw [Int.natCast_mul]
  split
  · rw [show ((a.natAbs : Nat) : Int) = a by omega, show ((b.natAbs : Nat) : Int) = -b by omega]
    rw [Int.mul_neg, Int.neg_neg]
  · rw [show ((a.natAbs : Nat) : Int) = a by omega, show ((b.natAbs : Nat) : Int) = b by omega]
theorem add_no {a b : Int} (ha : i64R a) (hb : i64R b) (hs : i64R (a + b)) :
    ¬ IntKind.i64.wrap ((BitVec.ofInt IntKind.i64.bits (IntKind.i64.wrap ((BitVec.ofInt IntKind.i64.bits a ^^^ BitVec.ofInt IntKind.i64.bits (a + b)).toNat : Int)) &&& BitVec.ofInt IntKind.i64.bits (IntKind.i64.wrap ((BitVec.ofInt IntKind.i64.bits b ^^^ BitVec.ofInt IntKind.i64.bits (a + b)).toNat : Int))).toNat : Int) < 0 := by
  have e : IntKind.i64.bits = 64 := rfl
  rw [e]
  have h1 := xor_neg ha hs
  have h2 := xor_neg hb hs
  have r1 := wrapI_range (BitVec.ofInt 64 a ^^^ BitVec.ofInt 64 (a + b))
  have r2 := wrapI_range (BitVec.ofInt 64 b ^^^ BitVec.ofInt 64 (a + b))
  generalize IntKind.i64.wrap ((BitVec.ofInt 64 a ^^^ BitVec.ofInt 64 (a + b)).toNat : Int) = u at *
  generalize IntKind.i64.wrap ((BitVec.ofInt 64 b ^^^ BitVec.ofInt 64 (a + b)).toNat : Int) = v at *
  have h := BitVec.msb_eq_toInt (x := BitVec.ofInt 64 u &&& BitVec.ofInt 64 v)
  rw [BitVec.msb_and, msb_of r1, msb_of r2] at h
  rw [wrapI]
  intro hneg
  rw [decide_eq_true hneg] at h
  simp only [Bool.and_eq_true, decide_eq_true_eq] at h
  have := h1.1 h.1
  have := h2.1 h.2
  unfold i64R at *
  omega
end Go.Proofs.Ytipgdalebkhgpaa
namespace Go.Proofs.Ytipgdalebkhgpaa
open Go Go.RowKit Fw
theorem add_res {m n hi lo : Nat} {b : Bool} (h1 : hi = ((m + n) % 340282366920938463463374607431768211456) / 18446744073709551616) (h2 : lo = ((m + n) % 340282366920938463463374607431768211456) % 18446744073709551616) (h3 : b = decide (m + n < 340282366920938463463374607431768211456)) :
    mkRes [.agg [.int .u64 (hi : Int), .int .u64 (lo : Int)].toArray, .bool b] = .tuple #[.agg (wideC ((m + n) % 340282366920938463463374607431768211456)).toArray, .bool (decide (m + n < 340282366920938463463374607431768211456))] := by
  subst h1 h2 h3
  rfl
theorem xor_m {a mn : Int} (ha : i64R a) (h : mn = -1 ∨ mn = 0) : IntKind.i64.wrap ((BitVec.ofInt IntKind.i64.bits a ^^^ BitVec.ofInt IntKind.i64.bits mn).toNat : Int) = if mn = -1 then -a - 1 else a := by
  have e : IntKind.i64.bits = 64 := rfl
  rw [e, wrapI]
  rcases h with rfl | rfl
  · have e1 : BitVec.ofInt 64 (-1) = BitVec.allOnes 64 := by decide
    have e2 := ofInt_toInt ha
    rw [if_pos rfl, e1, BitVec.xor_allOnes, BitVec.toInt_not]
    rw [BitVec.toInt_eq_toNat_cond] at e2
    have := (BitVec.ofInt 64 a).isLt
    unfold i64R at ha
    split at e2 <;> simp only [Int.bmod] <;> omega
  · have e1 : BitVec.ofInt 64 0 = 0#64 := by decide
    rw [if_neg (by decide), e1, BitVec.xor_zero, ofInt_toInt ha]
end Go.Proofs.Ytipgdalebkhgpaa
