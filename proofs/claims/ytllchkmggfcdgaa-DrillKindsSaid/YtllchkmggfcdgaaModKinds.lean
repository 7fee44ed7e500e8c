/-
  The kinds' names; lists of strings.
-/
import Derived.Test.YtllchkmggfcdgaaModDrill
import Derived.Test.YtllchkmggfcdgaaFw22
set_option maxRecDepth 20000
namespace Go.Proofs.Ytllchkmggfcdgaa
open Go Go.RowKit Fw

def strs (l : List ByteArray) : List (List Value) := l.map fun x => [.string x]
theorem strs_get {l : List ByteArray} {i : Nat} {x : ByteArray} (h : l[i]? = some x) : (strs l)[((i : Nat) : Int).toNat]? = some [.string x] := by simp [strs, h]
theorem strs_len {l : List ByteArray} : (strs l).length = l.length := by simp [strs]
theorem strs_ne {l : List ByteArray} : ∀ x, x ∈ strs l → x ≠ [] := map_ne fun _ => List.cons_ne_nil _ _
def kindNames : List ByteArray := [⟨#[99, 97, 108, 109]⟩, ⟨#[99, 114, 97, 115, 104]⟩, ⟨#[114, 97, 108, 108, 121]⟩, ⟨#[99, 114, 111, 115, 115, 101, 100]⟩, ⟨#[119, 105, 108, 100]⟩]
/-- What slices.All yields of a list of strings. -/
def strsAll (l : List ByteArray) : List (List Value) := l.mapIdx fun i s => [.int .i64 i, .string s]
theorem strsAll_get {l : List ByteArray} {i : Nat} {x : ByteArray} (h : l[i]? = some x) : (strsAll l)[i]? = some [.int .i64 i, .string x] := by simp [strsAll, h]
theorem strsAll_inv {l : List ByteArray} {i : Nat} {vs : List Value} (h : (strsAll l)[i]? = some vs) : ∃ x, l[i]? = some x ∧ vs = [.int .i64 i, .string x] := by
  simp only [strsAll, List.getElem?_mapIdx, Option.map_eq_some_iff] at h
  obtain ⟨x, hx, rfl⟩ := h
  exact ⟨x, hx, rfl⟩
theorem strsAll_len {l : List ByteArray} : (strsAll l).length = l.length := by simp [strsAll]
end Go.Proofs.Ytllchkmggfcdgaa
