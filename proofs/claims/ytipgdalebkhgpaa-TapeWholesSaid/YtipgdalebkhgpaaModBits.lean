/-
  Numbers as 128 bits.
-/
import Derived.Test.YtipgdalebkhgpaaModWide
import Derived.Test.YtipgdalebkhgpaaTab
set_option maxRecDepth 20000
namespace Go.Proofs.Ytipgdalebkhgpaa
open Go Go.RowKit Fw

def bitsF (f : Nat → Bool) : List Value := (List.range 128).map fun i => .bool (f i)
def bitsL (n : Nat) : List Value := bitsF n.testBit
theorem bitsF_len {f : Nat → Bool} : (bitsF f).length = 128 := by simp [bitsF]
theorem bitsF_get {f : Nat → Bool} {o i : Nat} (ho : o = i) (hi : i < 128) : (bitsF f)[o]? = some (.bool (f i)) := by
  subst ho
  simp [bitsF, hi]
theorem bitsL_get {n o i : Nat} (ho : o = i) (hi : i < 128) : (bitsL n)[o]? = some (.bool (n.testBit i)) := bitsF_get ho hi
theorem bitsF_congr {f g : Nat → Bool} (h : ∀ j, j < 128 → f j = g j) : bitsF f = bitsF g := by
  unfold bitsF
  apply List.map_congr_left
  intro j hj
  rw [h j (by simpa using hj)]
theorem bitsF_set {f g : Nat → Bool} {o i : Nat} {b : Bool} (ho : o = i) (h : ∀ j, j < 128 → g j = if j = i then b else f j) : (bitsF f).set o (.bool b) = bitsF g := by
  subst ho
  apply List.ext_getElem?
  intro j
  by_cases hj : j < 128
  · rw [bitsF_get rfl hj, h j hj]
    by_cases e : j = o
    · subst e
      rw [List.getElem?_set_self (by rw [bitsF_len]; exact hj), if_pos rfl]
    · rw [List.getElem?_set_ne (fun e' => e e'.symm), bitsF_get rfl hj, if_neg e]
  · rw [List.getElem?_eq_none (by rw [List.length_set, bitsF_len]; omega), List.getElem?_eq_none (by rw [bitsF_len]; omega)]
theorem bitsF_L {f : Nat → Bool} {n : Nat} (h : ∀ j, j < 128 → f j = n.testBit j) : bitsF f = bitsL n := bitsF_congr h
theorem bz : zeroL Try.prog 176 = some (bitsF fun _ => false) := by kernel_rfl
theorem allOne_bits {f : Nat → Bool} : allOne (bitsF f) = true := by
  have : ∀ l : List Value, (∀ v, v ∈ l → v.oneCell' = true) → allOne l = true := by
    intro l
    induction l with
    | nil => intro _; rfl
    | cons v l ih => intro h; unfold allOne; rw [h v List.mem_cons_self]; exact ih fun u hu => h u (List.mem_cons_of_mem _ hu)
  refine this _ fun v hv => ?_
  simp only [bitsF, List.mem_map] at hv
  obtain ⟨i, _, rfl⟩ := hv
  rfl
theorem bit_dec {n i : Nat} : decide ((((n / 2 ^ i) &&& 1 : Nat) : Int) = 1) = n.testBit i := by
  rw [Nat.testBit_eq_decide_div_mod_eq, Nat.and_one_is_mod]
  exact decide_eq_decide.2 (by omega)
theorem conc_bit {h l j : Nat} (hl : l < 18446744073709551616) : (h * 18446744073709551616 + l).testBit j = if j < 64 then l.testBit j else h.testBit (j - 64) := by
  have := Nat.testBit_two_pow_mul_add h (b := l) (i := 64) hl j
  rwa [Nat.mul_comm] at this
theorem mod_bit {n i : Nat} : n % 2 ^ (i + 1) = n % 2 ^ i + 2 ^ i * (n.testBit i).toNat := by
  rw [Nat.pow_succ, Nat.mod_mul, Nat.toNat_testBit]
theorem or_bit {x i : Nat} (h : x < 2 ^ i) : x ||| 2 ^ i = x + 2 ^ i := by
  have := Nat.shiftLeft_add_eq_or_of_lt (a := 1) (b := x) (i := i) h
  rw [Nat.shiftLeft_eq, Nat.one_mul] at this
  rw [Nat.or_comm, ← this, Nat.add_comm]
theorem pow_lt64 {i : Nat} (h : i < 64) : 2 ^ i < 18446744073709551616 := by
  have := Nat.pow_lt_pow_right (a := 2) (by decide) h
  simpa using this
end Go.Proofs.Ytipgdalebkhgpaa
namespace Go.Proofs.Ytipgdalebkhgpaa
open Go Go.RowKit Fw
theorem div_bit {n i : Nat} : (n / 18446744073709551616).testBit i = n.testBit (64 + i) := by
  have := @Nat.testBit_div_two_pow 64 n i
  rwa [Nat.add_comm] at this
theorem tb_nat (b : Bool) : b.toNat = if b = true then 1 else 0 := by cases b <;> rfl
theorem tmod_dec {n : Nat} : decide (((n : Nat) : Int).tmod 2 = 1) = decide (n % 2 = 1) :=
  decide_eq_decide.2 (by rw [Int.tmod_eq_emod_of_nonneg (by omega)]; omega)
/-- One step of an addition, bit by bit. -/
theorem add_step (a b i : Nat) : ((a + b).testBit i = decide (((a.testBit i).toNat + (b.testBit i).toNat + (decide (2 ^ i ≤ a % 2 ^ i + b % 2 ^ i)).toNat) % 2 = 1)) ∧
    (decide (2 ^ (i + 1) ≤ a % 2 ^ (i + 1) + b % 2 ^ (i + 1)) = decide (1 < (a.testBit i).toNat + (b.testBit i).toNat + (decide (2 ^ i ≤ a % 2 ^ i + b % 2 ^ i)).toNat)) := by
  have hp := Nat.two_pow_pos i
  have h1 := Nat.mod_lt a hp
  have h2 := Nat.mod_lt b hp
  rw [mod_bit, mod_bit, Nat.pow_succ]
  have hsum : (a + b).testBit i = decide (((a / 2 ^ i + b / 2 ^ i + (decide (2 ^ i ≤ a % 2 ^ i + b % 2 ^ i)).toNat)) % 2 = 1) := by
    rw [Nat.testBit_eq_decide_div_mod_eq]
    have : (a + b) / 2 ^ i = a / 2 ^ i + b / 2 ^ i + (decide (2 ^ i ≤ a % 2 ^ i + b % 2 ^ i)).toNat := by
      rw [Nat.add_div hp]
      by_cases h : 2 ^ i ≤ a % 2 ^ i + b % 2 ^ i <;> simp [h]
    rw [this]
  constructor
  · rw [hsum]
    apply decide_eq_decide.2
    have e1 : (a.testBit i).toNat = a / 2 ^ i % 2 := Nat.toNat_testBit a i
    have e2 : (b.testBit i).toNat = b / 2 ^ i % 2 := Nat.toNat_testBit b i
    omega
  · apply decide_eq_decide.2
    generalize 2 ^ i = P at *
    by_cases h : P ≤ a % P + b % P <;> cases a.testBit i <;> cases b.testBit i <;> simp [h] <;> omega
end Go.Proofs.Ytipgdalebkhgpaa
namespace Go.Proofs.Ytipgdalebkhgpaa
open Go Go.RowKit Fw
theorem not_bit {b j : Nat} (hb : b < 340282366920938463463374607431768211456) : (340282366920938463463374607431768211455 - b).testBit j = (decide (j < 128) && !b.testBit j) := by
  have := Nat.testBit_two_pow_sub_succ (x := b) (n := 128) hb j
  rwa [show 2 ^ 128 - (b + 1) = 340282366920938463463374607431768211455 - b by omega] at this
theorem left_bit {a n j : Nat} : (a * 2 ^ n).testBit j = (decide (n ≤ j) && a.testBit (j - n)) := by
  rw [← Nat.shiftLeft_eq, Nat.testBit_shiftLeft]
theorem mod128_bit {a j : Nat} (hj : j < 128) : (a % 340282366920938463463374607431768211456).testBit j = a.testBit j := by
  rw [show (340282366920938463463374607431768211456 : Nat) = 2 ^ 128 from rfl, Nat.testBit_mod_two_pow, decide_eq_true hj, Bool.true_and]
end Go.Proofs.Ytipgdalebkhgpaa
namespace Go.Proofs.Ytipgdalebkhgpaa
open Go Go.RowKit Fw
/-- How two numbers stand to one another. -/
def cmpN (a b : Nat) : Int := if a < b then -1 else if a = b then 0 else 1
theorem cmp_le {a b : Nat} : decide (0 ≤ cmpN a b) = decide (b ≤ a) := decide_eq_decide.2 (by unfold cmpN; repeat' split <;> omega)
theorem cmp_ge {a b : Nat} : 0 ≤ cmpN a b ↔ b ≤ a := by unfold cmpN; repeat' split <;> omega
theorem dbl_bit {x j : Nat} {t : Bool} : (2 * x + t.toNat).testBit j = if j = 0 then t else (2 * x).testBit j := by
  cases j with
  | zero => rw [if_pos rfl, Nat.testBit_zero]; cases t <;> simp
  | succ j =>
    rw [if_neg (by omega), Nat.testBit_succ, Nat.testBit_succ]
    congr 1
    cases t <;> simp <;> omega
theorem half {a k : Nat} : a / 2 ^ k = 2 * (a / 2 ^ (k + 1)) + (a.testBit k).toNat := by
  have h : a / 2 ^ (k + 1) = a / 2 ^ k / 2 := by rw [Nat.pow_succ, Nat.div_div_eq_div_mul]
  have := Nat.toNat_testBit a k
  omega
theorem cmp_gt {a b k : Nat} (h : b / 2 ^ k < a / 2 ^ k) : cmpN a b = 1 := by
  have : b < a := Nat.lt_of_not_le fun h2 => by have := Nat.div_le_div_right (c := 2 ^ k) h2; omega
  unfold cmpN; rw [if_neg (by omega), if_neg (by omega)]
theorem cmp_lt {a b k : Nat} (h : a / 2 ^ k < b / 2 ^ k) : cmpN a b = -1 := by
  have : a < b := Nat.lt_of_not_le fun h2 => by have := Nat.div_le_div_right (c := 2 ^ k) h2; omega
  unfold cmpN; rw [if_pos (by omega)]
theorem mul_step {a b i : Nat} (ha : a < 18446744073709551616) (hb : b < 18446744073709551616) (hi : i < 64) :
    (0 * 18446744073709551616 + a) * 2 ^ i % 340282366920938463463374607431768211456 = a * 2 ^ i ∧ a * (b % 2 ^ i) + a * 2 ^ i < 340282366920938463463374607431768211456 ∧
    a * (b % 2 ^ (i + 1)) = a * (b % 2 ^ i) + (if b.testBit i = true then a * 2 ^ i else 0) := by
  have hp := pow_lt64 hi
  have h1 : a * 2 ^ i ≤ 18446744073709551615 * 9223372036854775808 := Nat.mul_le_mul (by omega) (by have := Nat.pow_le_pow_right (n := 2) (by decide) (show i ≤ 63 by omega); simpa using this)
  have h2 : a * (b % 2 ^ i) ≤ a * 2 ^ i := Nat.mul_le_mul_left _ (Nat.le_of_lt (Nat.mod_lt _ (Nat.two_pow_pos i)))
  refine ⟨by rw [Nat.zero_mul, Nat.zero_add, Nat.mod_eq_of_lt (by omega)], by omega, ?_⟩
  rw [mod_bit, Nat.mul_add]
  split <;> rename_i h
  · rw [h]; simp
  · rw [Bool.eq_false_iff.2 h]; simp
/-- One step of a division, bit by bit. -/
theorem div_step {n d k : Nat} (hd : 0 < d) : 2 * (n / 2 ^ (k + 1) % d) + (n.testBit k).toNat < 2 * d ∧
    n / 2 ^ k % d = (if d ≤ 2 * (n / 2 ^ (k + 1) % d) + (n.testBit k).toNat then 2 * (n / 2 ^ (k + 1) % d) + (n.testBit k).toNat - d else 2 * (n / 2 ^ (k + 1) % d) + (n.testBit k).toNat) ∧
    (n / d).testBit k = decide (d ≤ 2 * (n / 2 ^ (k + 1) % d) + (n.testBit k).toNat) := by
  have hX := half (a := n) (k := k)
  have hb := Bool.toNat_le (n.testBit k)
  generalize (n.testBit k).toNat = t at *
  generalize hx : n / 2 ^ (k + 1) = X at *
  have hr := Nat.mod_lt X hd
  have hq := Nat.div_add_mod X d
  have e : n / d / 2 ^ k = n / 2 ^ k / d := by rw [Nat.div_div_eq_div_mul, Nat.div_div_eq_div_mul, Nat.mul_comm]
  have e2 : n / 2 ^ k = (2 * (X % d) + t) + d * (2 * (X / d)) := by rw [hX, Nat.mul_left_comm]; omega
  refine ⟨by omega, ?_, ?_⟩
  · rw [e2, Nat.add_mul_mod_self_left]
    split
    · rw [Nat.mod_eq_sub_mod (by omega), Nat.mod_eq_of_lt (by omega)]
    · rw [Nat.mod_eq_of_lt (by omega)]
  · rw [Nat.testBit_eq_decide_div_mod_eq, e, e2, Nat.add_mul_div_left _ _ hd]
    by_cases h : d ≤ 2 * (X % d) + t
    · rw [Nat.div_eq_of_lt_le (k := 1) (by omega) (by omega)]
      exact decide_eq_decide.2 (by omega)
    · rw [Nat.div_eq_of_lt (by omega)]
      exact decide_eq_decide.2 (by omega)
end Go.Proofs.Ytipgdalebkhgpaa
