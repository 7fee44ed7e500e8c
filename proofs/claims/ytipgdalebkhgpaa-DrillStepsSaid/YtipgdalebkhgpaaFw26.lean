/-
  Bits of whole numbers; unsigned numbers as Nats.
-/
import Derived.Test.YtipgdalebkhgpaaFw25
set_option linter.unusedVariables false
namespace Go.Proofs.Ytipgdalebkhgpaa.Fw
open Go Go.RowKit

section
variable {K : Kx} {r : Option Nat} {H : List Ent} {Q : Post}
variable {t : TypeId} {x y : Operand} {k : IntKind} {a b : Int}
theorem R.xor : Runs K H (binS .xor t x y (.int k a) (.int k b)) (.int k (k.wrap (BitVec.ofInt k.bits a ^^^ BitVec.ofInt k.bits b).toNat)) := .of fun w => run_bin _ _ _ _ _ _ _ _ w (by simp [binOp, Op.intBits])
theorem R.and : Runs K H (binS .and t x y (.int k a) (.int k b)) (.int k (k.wrap (BitVec.ofInt k.bits a &&& BitVec.ofInt k.bits b).toNat)) := .of fun w => run_bin _ _ _ _ _ _ _ _ w (by simp [binOp, Op.intBits])
theorem R.or : Runs K H (binS .or t x y (.int k a) (.int k b)) (.int k (k.wrap (BitVec.ofInt k.bits a ||| BitVec.ofInt k.bits b).toNat)) := .of fun w => run_bin _ _ _ _ _ _ _ _ w (by simp [binOp, Op.intBits])

theorem wrapU (n : Nat) (h : n < 18446744073709551616) : IntKind.u64.wrap (n : Int) = (n : Int) := by
  unfold IntKind.wrap
  simp [IntKind.signed, IntKind.bits]
  omega
theorem wrapU_mod (n : Nat) : IntKind.u64.wrap (n : Int) = ((n % 18446744073709551616 : Nat) : Int) := by
  unfold IntKind.wrap
  simp [IntKind.signed, IntKind.bits]
theorem ofIntU (n : Nat) (h : n < 18446744073709551616) : (BitVec.ofInt 64 (n : Int)).toNat = n := by
  rw [BitVec.toNat_ofInt]
  omega
variable {m n : Nat}
theorem R.addU : Runs K H (binS .add t x y (.int .u64 (m : Int)) (.int .u64 (n : Int))) (.int .u64 (((m + n) % 18446744073709551616 : Nat) : Int)) := by
  have h := R.add (K := K) (H := H) (t := t) (x := x) (y := y) (k := .u64) (a := (m : Int)) (b := (n : Int))
  rwa [← Int.natCast_add, wrapU_mod] at h
theorem R.mulU : Runs K H (binS .mul t x y (.int .u64 (m : Int)) (.int .u64 (n : Int))) (.int .u64 (((m * n) % 18446744073709551616 : Nat) : Int)) := by
  have h := R.mul (K := K) (H := H) (t := t) (x := x) (y := y) (k := .u64) (a := (m : Int)) (b := (n : Int))
  rwa [← Int.natCast_mul, wrapU_mod] at h
theorem R.subU (hm : m < 18446744073709551616) (hn : n < 18446744073709551616) : Runs K H (binS .sub t x y (.int .u64 (m : Int)) (.int .u64 (n : Int))) (.int .u64 (((m + 18446744073709551616 - n) % 18446744073709551616 : Nat) : Int)) := by
  have h := R.sub (K := K) (H := H) (t := t) (x := x) (y := y) (k := .u64) (a := (m : Int)) (b := (n : Int))
  rwa [show IntKind.u64.wrap ((m : Int) - (n : Int)) = (((m + 18446744073709551616 - n) % 18446744073709551616 : Nat) : Int) by
    unfold IntKind.wrap
    simp [IntKind.signed, IntKind.bits]
    omega] at h
theorem R.andU (hm : m < 18446744073709551616) (hn : n < 18446744073709551616) : Runs K H (binS .and t x y (.int .u64 (m : Int)) (.int .u64 (n : Int))) (.int .u64 ((m &&& n : Nat) : Int)) := by
  have h := R.and (K := K) (H := H) (t := t) (x := x) (y := y) (k := .u64) (a := (m : Int)) (b := (n : Int))
  have e : (BitVec.ofInt IntKind.u64.bits (m : Int) &&& BitVec.ofInt IntKind.u64.bits (n : Int)).toNat = m &&& n := by
    rw [BitVec.toNat_and]
    exact congr (congrArg _ (ofIntU m hm)) (ofIntU n hn)
  rw [e, wrapU _ (Nat.lt_of_le_of_lt Nat.and_le_left hm)] at h
  exact h
theorem R.orU (hm : m < 18446744073709551616) (hn : n < 18446744073709551616) : Runs K H (binS .or t x y (.int .u64 (m : Int)) (.int .u64 (n : Int))) (.int .u64 ((m ||| n : Nat) : Int)) := by
  have h := R.or (K := K) (H := H) (t := t) (x := x) (y := y) (k := .u64) (a := (m : Int)) (b := (n : Int))
  have e : (BitVec.ofInt IntKind.u64.bits (m : Int) ||| BitVec.ofInt IntKind.u64.bits (n : Int)).toNat = m ||| n := by
    rw [BitVec.toNat_or]
    exact congr (congrArg _ (ofIntU m hm)) (ofIntU n hn)
  rw [e, wrapU _ (Nat.or_lt_two_pow (n := 64) hm hn)] at h
  exact h
/-- Shifts, by less than a word. -/
theorem R.shrU {k' : IntKind} (hn : n ≤ 64) : Runs K H (binS .shr t x y (.int .u64 (m : Int)) (.int k' (n : Int))) (.int .u64 ((m / 2 ^ n : Nat) : Int)) := by
  have h := R.shr (K := K) (H := H) (t := t) (x := x) (y := y) (k := .u64) (k' := k') (a := (m : Int)) (b := (n : Int)) (by omega)
  have e : (m : Int).fdiv (2 ^ (Nat.min (n : Int).toNat IntKind.u64.bits)) = ((m / 2 ^ n : Nat) : Int) := by
    have e1 : Nat.min (n : Int).toNat IntKind.u64.bits = n := by
      exact Nat.min_eq_left hn
    rw [e1, Int.fdiv_eq_ediv_of_nonneg _ (Int.le_of_lt (Int.pow_pos (by decide)))]
    simp
  rw [e] at h
  exact h
theorem R.shlU {k' : IntKind} (hn : n ≤ 64) : Runs K H (binS .shl t x y (.int .u64 (m : Int)) (.int k' (n : Int))) (.int .u64 ((m * 2 ^ n % 18446744073709551616 : Nat) : Int)) := by
  have h := R.shl (K := K) (H := H) (t := t) (x := x) (y := y) (k := .u64) (k' := k') (a := (m : Int)) (b := (n : Int)) (by omega)
  have e1 : Nat.min (n : Int).toNat IntKind.u64.bits = n := by
    exact Nat.min_eq_left hn
  rw [e1, show (m : Int) * 2 ^ n = ((m * 2 ^ n : Nat) : Int) by simp, wrapU_mod] at h
  exact h
/-- The value told otherwise. -/
theorem R.as {s : Sem Next} {u v : Value} (h : Runs K H s u) (e : u = v) : Runs K H s v := e ▸ h
theorem R.asI {s : Sem Next} {kk : IntKind} {u v : Int} (h : Runs K H s (.int kk u)) (e : u = v) : Runs K H s (.int kk v) := e ▸ h

/-! ### Signed numbers -/
theorem wrapI (v : BitVec 64) : IntKind.i64.wrap (v.toNat : Int) = v.toInt := by
  unfold IntKind.wrap
  rw [BitVec.toInt_eq_toNat_cond]
  have := v.isLt
  simp [IntKind.signed, IntKind.bits]
  omega
theorem ofInt_toInt {a : Int} (h : -9223372036854775808 ≤ a ∧ a ≤ 9223372036854775807) : (BitVec.ofInt 64 a).toInt = a := by
  rw [BitVec.toInt_ofInt]
  simp only [Int.bmod]
  omega
theorem msb_of {a : Int} (h : -9223372036854775808 ≤ a ∧ a ≤ 9223372036854775807) : (BitVec.ofInt 64 a).msb = decide (a < 0) := by
  rw [BitVec.msb_eq_toInt, ofInt_toInt h]
/-- A number's sign, as -1 or 0. -/
def sgn (a : Int) : Int := if a < 0 then -1 else 0
theorem fdiv63 {a : Int} (h : -9223372036854775808 ≤ a ∧ a ≤ 9223372036854775807) : a.fdiv (2 ^ 63) = sgn a := by
  rw [Int.fdiv_eq_ediv_of_nonneg _ (by decide)]
  unfold sgn
  split <;> omega
theorem xor_sgn {a : Int} (h : -9223372036854775808 ≤ a ∧ a ≤ 9223372036854775807) : IntKind.i64.wrap ((BitVec.ofInt 64 a ^^^ BitVec.ofInt 64 (sgn a)).toNat : Int) = if a < 0 then -a - 1 else a := by
  rw [wrapI]
  unfold sgn
  split
  · have e : BitVec.ofInt 64 (-1) = BitVec.allOnes 64 := by decide
    have : ((BitVec.ofInt 64 a).toNat : Int) = a + 18446744073709551616 := by
      rw [BitVec.toNat_ofInt]; omega
    rw [e, BitVec.xor_allOnes, BitVec.toInt_not, this]
    simp only [Int.bmod]
    omega
  · have e : BitVec.ofInt 64 0 = 0#64 := by decide
    rw [e, BitVec.xor_zero, ofInt_toInt h]
theorem xor_neg {a b : Int} (ha : -9223372036854775808 ≤ a ∧ a ≤ 9223372036854775807) (hb : -9223372036854775808 ≤ b ∧ b ≤ 9223372036854775807) : (IntKind.i64.wrap ((BitVec.ofInt 64 a ^^^ BitVec.ofInt 64 b).toNat : Int) < 0) ↔ (a < 0 ↔ ¬ b < 0) := by
  have h := BitVec.msb_eq_toInt (x := BitVec.ofInt 64 a ^^^ BitVec.ofInt 64 b)
  rw [BitVec.msb_xor, msb_of ha, msb_of hb] at h
  rw [wrapI]
  by_cases h1 : a < 0 <;> by_cases h2 : b < 0 <;> simp [h1, h2] at h ⊢ <;> omega
theorem wrapI_range (v : BitVec 64) : -9223372036854775808 ≤ IntKind.i64.wrap (v.toNat : Int) ∧ IntKind.i64.wrap (v.toNat : Int) ≤ 9223372036854775807 := by
  rw [wrapI]
  have h1 := v.le_toInt
  have h2 := v.toInt_lt
  simp at h1 h2
  omega
end
end Go.Proofs.Ytipgdalebkhgpaa.Fw
