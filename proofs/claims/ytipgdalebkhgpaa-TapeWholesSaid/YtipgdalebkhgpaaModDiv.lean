/-
  Division of wide numbers, in plain Lean.
-/
import Derived.Test.YtipgdalebkhgpaaModBits
set_option maxRecDepth 20000
namespace Go.Proofs.Ytipgdalebkhgpaa
open Go Go.RowKit Fw

/-- How many bits a number has. -/
def bl (n : Nat) : Nat := if n = 0 then 0 else n.log2 + 1
theorem bl_step {n : Nat} (h : n ≠ 0) : bl n = bl (n / 2) + 1 := by
  unfold bl
  rw [if_neg h, Nat.log2_def]
  by_cases h2 : 2 ≤ n
  · rw [if_pos h2, if_neg (by omega)]
  · rw [if_neg h2, if_pos (by omega)]
theorem bl_lt {n : Nat} : n < 2 ^ bl n := by
  unfold bl
  split
  · subst_vars; decide
  · exact Nat.lt_log2_self
theorem bl_le {n : Nat} (h : n < 18446744073709551616) : bl n ≤ 64 := by
  unfold bl
  split
  · omega
  · rename_i h0
    have := (Nat.log2_lt h0 (k := 64)).2 (by simpa using h)
    omega
/-- How many bits a wide number has. -/
def lenW (N : Nat) : Nat := if N / 18446744073709551616 ≠ 0 then 64 + bl (N / 18446744073709551616) else bl (N % 18446744073709551616)
theorem lenW_le {N : Nat} (h : N < 340282366920938463463374607431768211456) : lenW N ≤ 128 := by
  have h1 := bl_le (n := N / 18446744073709551616) (by omega)
  have h2 := bl_le (n := N % 18446744073709551616) (by omega)
  unfold lenW
  split <;> omega
theorem lenW_lt {N : Nat} : N < 2 ^ lenW N := by
  unfold lenW
  split
  · rename_i h
    have := bl_lt (n := N / 18446744073709551616)
    rw [Nat.pow_add]
    have h2 : N / 18446744073709551616 + 1 ≤ 2 ^ bl (N / 18446744073709551616) := this
    have h3 := Nat.mul_le_mul_left 18446744073709551616 h2
    rw [show (2 : Nat) ^ 64 = 18446744073709551616 from rfl]
    omega
  · have := bl_lt (n := N % 18446744073709551616)
    rw [Nat.mod_eq_of_lt (by omega)] at this ⊢
    exact this
/-- The lower word of a number shifted to the right; its lowest bit is all that counts. -/
def rA (N n : Nat) : Nat := if n = 0 then N / 18446744073709551616 else if 64 ≤ n then 0 else N / 18446744073709551616 / 2 ^ n
def rB (N n : Nat) : Nat := if n = 0 then N % 18446744073709551616 else if 64 ≤ n then N / 18446744073709551616 / 2 ^ (n - 64) else (N % 18446744073709551616 / 2 ^ n) ||| (N / 18446744073709551616 * 2 ^ (64 - n) % 18446744073709551616)
def rightC (N n : Nat) : List Value := [.int .u64 (rA N n : Int), .int .u64 (rB N n : Int)]
theorem mod64_bit {a j : Nat} (hj : j < 64) : (a % 18446744073709551616).testBit j = a.testBit j := by
  rw [show (18446744073709551616 : Nat) = 2 ^ 64 from rfl, Nat.testBit_mod_two_pow, decide_eq_true hj, Bool.true_and]
theorem rB_bit {N n : Nat} : rB N n &&& 1 = (N.testBit n).toNat := by
  rw [Nat.and_one_is_mod, ← Nat.pow_one 2, show rB N n % 2 ^ 1 = ((rB N n).testBit 0).toNat by rw [Nat.toNat_testBit]; simp]
  congr 1
  unfold rB
  split
  · subst_vars; exact mod64_bit (by decide)
  · split
    · rw [Nat.testBit_div_two_pow, div_bit]
      congr 1; omega
    · rw [Nat.testBit_or, Nat.testBit_div_two_pow, mod64_bit (by omega), mod64_bit (by omega), left_bit, decide_eq_false (by omega), Bool.false_and, Bool.or_false, Nat.zero_add]
theorem rB_lt {N n : Nat} (h : N < 340282366920938463463374607431768211456) : rB N n < 18446744073709551616 := by
  unfold rB
  split
  · omega
  · split
    · exact Nat.lt_of_le_of_lt (Nat.div_le_self _ _) (by omega)
    · exact Nat.or_lt_two_pow (n := 64) (Nat.lt_of_le_of_lt (Nat.div_le_self _ _) (by omega)) (by omega)
theorem wide_or (x y : Nat) : (x ||| y) / 18446744073709551616 = x / 18446744073709551616 ||| y / 18446744073709551616 ∧ (x ||| y) % 18446744073709551616 = x % 18446744073709551616 ||| y % 18446744073709551616 :=
  ⟨Nat.or_div_two_pow (n := 64), Nat.or_mod_two_pow (n := 64)⟩
/-- The quotient's bits from k on. -/
def qN (N d k : Nat) : Nat := N / d / 2 ^ k * 2 ^ k
theorem qN_step {N d k : Nat} : qN N d k = qN N d (k + 1) ||| (if (N / d).testBit k = true then 2 ^ k else 0) := by
  have h := half (a := N / d) (k := k)
  have e : qN N d (k + 1) = (N / d / 2 ^ (k + 1)) <<< (k + 1) := (Nat.shiftLeft_eq _ _).symm
  have h3 : 2 ^ k < 2 ^ (k + 1) := Nat.pow_lt_pow_right (by decide) (by omega)
  split <;> rename_i hb
  · rw [e, ← Nat.shiftLeft_add_eq_or_of_lt h3, Nat.shiftLeft_eq]
    unfold qN
    rw [h, hb, Nat.pow_succ, Bool.toNat_true, Nat.add_mul, Nat.one_mul, Nat.mul_comm 2, Nat.mul_assoc, Nat.mul_comm 2]
  · rw [Nat.or_zero]
    unfold qN
    rw [h, Bool.eq_false_iff.2 hb, Nat.pow_succ, Bool.toNat_false, Nat.add_zero, Nat.mul_comm 2, Nat.mul_assoc, Nat.mul_comm 2]
theorem qN_lt {N d k : Nat} (h : N < 340282366920938463463374607431768211456) : qN N d k < 340282366920938463463374607431768211456 :=
  Nat.lt_of_le_of_lt (Nat.div_mul_le_self _ _) (Nat.lt_of_le_of_lt (Nat.div_le_self _ _) h)
theorem pow_wide {k : Nat} (h : 64 ≤ k) (h2 : k < 128) : 2 ^ k / 18446744073709551616 = 2 ^ (k - 64) ∧ 2 ^ k % 18446744073709551616 = 0 := by
  have e : 2 ^ k = 2 ^ (k - 64) * 18446744073709551616 := by rw [show (18446744073709551616 : Nat) = 2 ^ 64 from rfl, ← Nat.pow_add]; congr 1; omega
  rw [e]
  exact ⟨Nat.mul_div_cancel _ (by decide), Nat.mul_mod_left _ _⟩
theorem dbl_or {r : Nat} {t : Bool} : r * 2 ^ 1 % 18446744073709551616 ||| t.toNat = r * 2 % 18446744073709551616 + t.toNat := by
  have h := Nat.shiftLeft_add_eq_or_of_lt (a := r * 2 % 18446744073709551616 / 2) (b := t.toNat) (i := 1) (by cases t <;> decide)
  rw [Nat.shiftLeft_eq, Nat.pow_one, show r * 2 % 18446744073709551616 / 2 * 2 = r * 2 % 18446744073709551616 by omega] at h
  rw [Nat.pow_one]
  exact h.symm
end Go.Proofs.Ytipgdalebkhgpaa
