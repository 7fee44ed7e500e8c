/-
  Numbers as bytes, in plain Lean.
-/
import Derived.Test.YtipgdalebkhgpaaModOrd
import Derived.Test.YtipgdalebkhgpaaFw29
set_option maxRecDepth 20000
set_option linter.unusedVariables false
namespace Go.Proofs.Ytipgdalebkhgpaa
open Go Go.RowKit Fw

def u8s (l : List Nat) : List (List Value) := l.map fun n : Nat => [.int .u8 (n : Int)]
theorem u8s_len {l : List Nat} : (u8s l).length = l.length := by simp [u8s]
theorem u8s_app {l m : List Nat} : u8s l ++ u8s m = u8s (l ++ m) := by simp [u8s]
theorem u8s_ne {l : List Nat} : ∀ x, x ∈ u8s l → x ≠ [] := map_ne fun _ => List.cons_ne_nil _ _
theorem u8s_one {l : List Nat} : ∀ x, x ∈ u8s l → x.length = 1 ∧ ∀ u, u ∈ x → u.oneCell' = true := by
  intro x hx
  simp only [u8s, List.mem_map] at hx
  obtain ⟨n, _, rfl⟩ := hx
  exact ⟨rfl, allOne_spec rfl⟩
/-- A number in groups of seven bits, at most f of them with another behind. -/
def numF : Nat → Nat → List Nat
  | 0, n => [n % 256]
  | f + 1, n => if n < 128 then [n] else (n % 128 + 128) :: numF f (n / 128)
def numB (n : Nat) : List Nat := numF 10 n
theorem numF_len : ∀ {f n : Nat}, (numF f n).length ≤ f + 1
  | 0, n => Nat.le_refl _
  | f + 1, n => by
    unfold numF
    split
    · simp
    · have := numF_len (f := f) (n := n / 128)
      simp only [List.length_cons]; omega
theorem numF_stop {f n : Nat} (h : n < 128) : numF f n = [n] := by
  cases f with
  | zero => simp only [numF]; rw [Nat.mod_eq_of_lt (by omega)]
  | succ f => simp only [numF]; rw [if_pos h]
theorem numF_more {f n : Nat} (h : ¬ n < 128) : numF (f + 1) n = (n % 128 + 128) :: numF f (n / 128) := by
  simp only [numF]; rw [if_neg h]
/-- The last k bytes of a number. -/
def beB (n : Nat) : Nat → List Nat
  | 0 => []
  | k + 1 => (n / 256 ^ k % 256) :: beB n k
theorem beB_len {n k : Nat} : (beB n k).length = k := by
  induction k with
  | zero => rfl
  | succ k ih => simp [beB, ih]
/-- The bytes of a command. -/
def cmdB (c : Cmd) : List Nat :=
  [c.kind.toNat, c.sym.toNat] ++ numB c.id_.toNat ++ (if c.kind = 1 then numB c.owner.toNat ++ [c.side.toNat, c.typ.toNat, c.flags.toNat] else []) ++ (if c.kind ≠ 2 then beB (2 * c.price.toNat) 8 ++ beB (2 * c.qty.toNat) 8 else [])
/-- A command that is told of. -/
structure CmdOk (c : Cmd) : Prop where
  kind : c.kind = 1 ∨ (c.kind = 2 ∧ c.owner = 0 ∧ c.side = 0 ∧ c.typ = 0 ∧ c.price = 0 ∧ c.qty = 0 ∧ c.flags = 0)
  sym : 0 ≤ c.sym ∧ c.sym ≤ 255
  id_ : 0 ≤ c.id_ ∧ c.id_ ≤ 1000000
  owner : 0 ≤ c.owner ∧ c.owner ≤ 1000
  side : 0 ≤ c.side ∧ c.side ≤ 1
  typ : c.kind = 1 → 1 ≤ c.typ ∧ c.typ ≤ 5
  flags : 0 ≤ c.flags ∧ c.flags ≤ 7
  price : 0 ≤ c.price ∧ c.price ≤ 1099511627776
  qty : 0 ≤ c.qty ∧ c.qty ≤ 1000
theorem or128 {x : Nat} : (x % 256 ||| 128) = x % 128 + 128 := by
  have h1 : x % 256 = 128 * (x / 128 % 2) + x % 128 := by omega
  have h2 := Nat.shiftLeft_add_eq_or_of_lt (a := 1) (b := x % 128) (i := 7) (Nat.mod_lt _ (by decide))
  rw [show 1 <<< 7 = 128 from rfl] at h2
  rcases Nat.mod_two_eq_zero_or_one (x / 128) with h | h
  · rw [h1, h, Nat.mul_zero, Nat.zero_add, Nat.or_comm, ← h2, Nat.add_comm]
  · rw [h1, h, Nat.mul_one, h2, Nat.or_assoc, Nat.or_comm (x % 128), ← Nat.or_assoc, Nat.or_self, ← h2, Nat.add_comm]
theorem u8s_cell {l : List Nat} : ∀ x, x ∈ u8s l → x.length = 1 := fun x hx => (u8s_one x hx).1
theorem wrap8 (n : Nat) : IntKind.u8.wrap (n : Int) = ((n % 256 : Nat) : Int) := by
  unfold IntKind.wrap
  simp [IntKind.signed, IntKind.bits]
theorem w8 {x : Int} (h : 0 ≤ x ∧ x ≤ 255) : IntKind.u8.wrap x = ((x.toNat : Nat) : Int) := by
  rw [show x = ((x.toNat : Nat) : Int) by omega, wrap8]
  omega
theorem w64 {x : Int} (h : 0 ≤ x ∧ x ≤ 9223372036854775807) : IntKind.u64.wrap x = ((x.toNat : Nat) : Int) := by
  rw [show x = ((x.toNat : Nat) : Int) by omega, wrapU _ (by omega)]
  omega
theorem or8 (y : Nat) : IntKind.u8.wrap ((BitVec.ofInt IntKind.u8.bits ((y % 256 : Nat) : Int) ||| BitVec.ofInt IntKind.u8.bits 128).toNat : Int) = ((y % 128 + 128 : Nat) : Int) := by
  have e : (BitVec.ofInt IntKind.u8.bits ((y % 256 : Nat) : Int) ||| BitVec.ofInt IntKind.u8.bits 128).toNat = y % 256 ||| 128 := by
    rw [BitVec.toNat_or]
    congr 1
    show (BitVec.ofInt 8 ((y % 256 : Nat) : Int)).toNat = _
    rw [BitVec.toNat_ofInt]
    omega
  rw [e, or128, wrap8, Nat.mod_eq_of_lt (by omega)]
theorem xor0 (n : Nat) (h : n < 18446744073709551616) : IntKind.u64.wrap ((BitVec.ofInt IntKind.u64.bits (n : Int) ^^^ BitVec.ofInt IntKind.u64.bits 0).toNat : Int) = (n : Int) := by
  have e : (BitVec.ofInt IntKind.u64.bits (n : Int) ^^^ BitVec.ofInt IntKind.u64.bits 0).toNat = n := by
    rw [BitVec.toNat_xor]
    show (BitVec.ofInt 64 (n : Int)).toNat ^^^ (BitVec.ofInt 64 0).toNat = _
    rw [ofIntU n h, show (BitVec.ofInt 64 0).toNat = 0 from rfl, Nat.xor_zero]
  rw [e, wrapU n h]
/-- The steps of a number's groups. -/
theorem num_step {f y : Nat} {m T : List Nat} (h : m ++ numF f y = T) (hy : y < 128 ^ (f + 1)) (h2 : ¬ y < 128) : ∃ g, f = g + 1 ∧ (m ++ [y % 128 + 128]) ++ numF g (y / 128) = T ∧ y / 128 < 128 ^ (g + 1) := by
  cases f with
  | zero => omega
  | succ g =>
    refine ⟨g, rfl, ?_, ?_⟩
    · rw [← h, numF_more h2, List.append_assoc]; rfl
    · rw [Nat.pow_succ] at hy
      exact (Nat.div_lt_iff_lt_mul (by decide)).2 hy
theorem num_end {f y : Nat} {m T : List Nat} (h : m ++ numF f y = T) (h2 : y < 128) : m ++ [y] = T := by
  rw [← h, numF_stop h2]
theorem numB_len {n : Nat} : (numB n).length ≤ 11 := numF_len
theorem shr8 (x j : Nat) : x / 2 ^ (8 * j) = x / 256 ^ j := by rw [Nat.pow_mul]
theorem be_quo (x i : Nat) : x / 256 ^ i / 256 = x / 256 ^ (i + 1) := by rw [Nat.div_div_eq_div_mul, Nat.pow_succ]
theorem cmdB_len {c : Cmd} : (cmdB c).length ≤ 60 := by
  unfold cmdB
  have h1 := numB_len (n := c.id_.toNat)
  have h2 := numB_len (n := c.owner.toNat)
  split <;> split <;> simp [beB_len] <;> omega
theorem cmdB_ne {c : Cmd} : cmdB c ≠ [] := by
  unfold cmdB
  simp
/-- A step, but for its frame's value. -/
structure Stp where
  (kind sym n : Int) (fr : List Nat)
def stpC (s : Stp) (v : Value) : List Value := [.int .i64 s.kind, .int .i64 s.sym, .int .i64 s.n, v]
end Go.Proofs.Ytipgdalebkhgpaa
