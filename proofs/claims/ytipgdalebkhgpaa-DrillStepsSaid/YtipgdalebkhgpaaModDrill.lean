/-
  drill's dice in plain Lean.
-/
import Derived.Test.YtipgdalebkhgpaaModLim
set_option maxRecDepth 20000
namespace Go.Proofs.Ytipgdalebkhgpaa
open Go Fw

def diceNext (x : Int) : Int := IntKind.u64.wrap (IntKind.u64.wrap (x * 6364136223846793005) + 1442695040888963407)
def diceThrow (x n : Int) : Int := (IntKind.i64.wrap ((diceNext x).fdiv (2 ^ 33))).tmod n
theorem diceNext_nonneg (x : Int) : 0 ≤ diceNext x := by
  unfold diceNext IntKind.wrap
  simp [IntKind.signed, IntKind.bits]
  omega
theorem u64_in (n : Int) (h : 0 ≤ n ∧ n ≤ 18446744073709551615) : IntKind.u64.wrap n = n := by
  unfold IntKind.wrap
  simp [IntKind.signed, IntKind.bits]
  omega
theorem diceNext_le (x : Int) : diceNext x ≤ 18446744073709551615 := by
  unfold diceNext IntKind.wrap
  simp [IntKind.signed, IntKind.bits]
  omega
theorem dice_quo (x : Int) : IntKind.u64.wrap ((IntKind.u64.wrap (IntKind.u64.wrap (x * 6364136223846793005) + 1442695040888963407)).tdiv 8589934592) = (diceNext x).fdiv (2 ^ 33) := by
  have h1 := diceNext_nonneg x
  have h2 := diceNext_le x
  show IntKind.u64.wrap ((diceNext x).tdiv 8589934592) = _
  rw [Int.tdiv_eq_ediv_of_nonneg h1, Int.fdiv_eq_ediv_of_nonneg _ (by decide)]
  rw [u64_in _ (by omega)]
  rfl
/-- A row of the session's table. -/
structure TRow where
  at_ : Int
  phase : Int
def TRow.cells (r : TRow) : List Value := [.int .i64 r.at_, .int .i64 r.phase]
def trows (l : List TRow) : List (List Value) := l.map TRow.cells
theorem trows_get {l : List TRow} {i : Nat} {x : TRow} (h : l[i]? = some x) : (trows l)[((i : Nat) : Int).toNat]? = some x.cells := by simp [trows, h]
theorem trows_ne {l : List TRow} : ∀ x, x ∈ trows l → x ≠ [] := map_ne fun _ => List.cons_ne_nil _ _
theorem trows_len {l : List TRow} : (trows l).length = l.length := by simp [trows]
/-- The first place of a list of which p holds, or -1. -/
def findI {α : Type} (p : α → Bool) (l : List α) : Int := match l.findIdx? p with | some i => i | none => -1
theorem findI_at {α : Type} {p : α → Bool} {l : List α} {i : Nat} {x : α} (h : l[i]? = some x) (hp : p x = true) (hb : ∀ j y, j < i → l[j]? = some y → p y = false) : findI p l = i := by
  have : l.findIdx? p = some i := by
    rw [List.findIdx?_eq_some_iff_getElem]
    obtain ⟨hlt, he⟩ := List.getElem?_eq_some_iff.1 h
    refine ⟨hlt, by rw [he]; exact hp, fun j hj => ?_⟩
    have := hb j _ hj (List.getElem?_eq_getElem (by omega))
    rw [this]
    simp
  simp [findI, this]
theorem findI_none {α : Type} {p : α → Bool} {l : List α} (hb : ∀ (j : Nat) (y : α), l[j]? = some y → p y = false) : findI p l = -1 := by
  have : l.findIdx? p = none := by
    rw [List.findIdx?_eq_none_iff]
    intro x hx
    obtain ⟨j, hj⟩ := List.getElem?_of_mem hx
    exact hb j x hj
  simp [findI, this]
def isCont (r : TRow) : Bool := decide (r.phase = 2)
def startAt (l : List TRow) : Int × Bool := match l.findIdx? isCont with | some i => (match l[i]? with | some r => (r.at_, true) | none => (0, false)) | none => (0, false)
theorem startAt_neg {l : List TRow} (h : findI isCont l < 0) : startAt l = (0, false) := by
  unfold findI at h
  unfold startAt
  cases hf : l.findIdx? isCont with
  | none => rfl
  | some i => rw [hf] at h; simp at h; omega
theorem startAt_pos {l : List TRow} (h : ¬ findI isCont l < 0) : ∃ (i : Nat) (x : TRow), l[i]? = some x ∧ findI isCont l = i ∧ startAt l = (x.at_, true) := by
  unfold findI at h ⊢
  unfold startAt
  cases hf : l.findIdx? isCont with
  | none => rw [hf] at h; simp at h
  | some i =>
    have hlt := (List.findIdx?_eq_some_iff_getElem.1 hf).1
    refine ⟨i, l[i], List.getElem?_eq_getElem hlt, rfl, ?_⟩
    simp [List.getElem?_eq_getElem hlt]
/-- The configuration of the statements' example. -/
def plainSym : Sym := ⟨5, 1000, 2000, 500, 20, 100, 3, 10, 5, 2, 500, 500, 1, 40, 12, 1000⟩
def plainRows : List TRow := [⟨5, 1⟩, ⟨10, 2⟩, ⟨500, 0⟩]
end Go.Proofs.Ytipgdalebkhgpaa
