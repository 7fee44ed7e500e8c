/-
  The document's table: a list of rows.
-/
import Derived.Test.YtllchkmggfcdgaaModCmp
import Derived.Test.YtllchkmggfcdgaaFw17
set_option maxRecDepth 20000
set_option linter.unusedVariables false
namespace Go.Proofs.Ytllchkmggfcdgaa
open Go Fw
noncomputable def rowT (a b : List Msg) (i k : Nat) : List Int := (List.range (b.length + 1)).map fun c => if k ≤ c then ((lcs (a.drop i) (b.drop c) : Nat) : Int) else 0
theorem rowT_len (a b : List Msg) (i k : Nat) : (rowT a b i k).length = b.length + 1 := by simp [rowT]
theorem rowT_get {a b : List Msg} {i k c : Nat} (hc : c ≤ b.length) : (rowT a b i k)[c]? = some (if k ≤ c then ((lcs (a.drop i) (b.drop c) : Nat) : Int) else 0) := by
  simp [rowT, List.getElem?_range (show c < b.length + 1 by omega)]
theorem rowT_at {a b : List Msg} {i k c : Nat} (hc : c ≤ b.length) (hk : k ≤ c) : (rowT a b i k)[c]? = some ((lcs (a.drop i) (b.drop c) : Nat) : Int) := by
  rw [rowT_get hc, if_pos hk]
theorem rowT_start (a b : List Msg) (i : Nat) : rowT a b i (b.length + 1) = List.replicate (b.length + 1) 0 := by
  apply List.ext_getElem?
  intro j
  by_cases hj : j ≤ b.length
  · rw [rowT_get hj, if_neg (by omega), List.getElem?_replicate, if_pos (by omega)]
  · rw [List.getElem?_eq_none (by rw [rowT_len]; omega), List.getElem?_eq_none (by simp; omega)]
theorem rowT_set {a b : List Msg} {i k : Nat} (hk : k ≤ b.length) : (rowT a b i (k + 1)).set k ((lcs (a.drop i) (b.drop k) : Nat) : Int) = rowT a b i k := by
  apply List.ext_getElem?
  intro j
  rw [List.getElem?_set, rowT_len]
  by_cases hj : j ≤ b.length
  · rw [rowT_get hj, rowT_get hj]
    by_cases h : k = j
    · subst h
      rw [if_pos rfl, if_pos (by omega), if_pos (Nat.le_refl _)]
    · rw [if_neg h]
      congr 1
      by_cases h1 : k + 1 ≤ j
      · rw [if_pos h1, if_pos (by omega)]
      · rw [if_neg h1, if_neg (by omega)]
  · rw [List.getElem?_eq_none (by rw [rowT_len]; omega), List.getElem?_eq_none (by rw [rowT_len]; omega), if_neg (by omega)]
theorem rowT_same {a b : List Msg} {i k : Nat} (h : i = a.length ∨ k = b.length) : rowT a b i (k + 1) = rowT a b i k := by
  unfold rowT
  apply List.map_congr_left
  intro c hc
  by_cases h1 : k + 1 ≤ c
  · rw [if_pos h1, if_pos (by omega)]
  · rw [if_neg h1]
    by_cases h2 : k ≤ c
    · rw [if_pos h2]
      rcases h with rfl | h
      · rw [List.drop_length, lcs_nil_left]; rfl
      · have : c = b.length := by omega
        rw [this, List.drop_length, lcs_nil_right]; rfl
    · rw [if_neg h2]
/-- The rows from i on. -/
noncomputable def bagR (a b : List Msg) (E : Nat) : Nat → List Value → List Ent
  | _, [] => []
  | i, v :: vs => Ent.row v 1 (ints (rowT a b i 0)) E :: bagR a b E (i + 1) vs
theorem bagR_mem {a b : List Msg} {E : Nat} : ∀ {vs : List Value} {i j : Nat} {v : Value}, vs[j]? = some v → Ent.row v 1 (ints (rowT a b (i + j) 0)) E ∈ bagR a b E i vs
  | [], i, j, v, h => by simp at h
  | u :: vs, i, 0, v, h => by simp at h; subst h; exact List.mem_cons_self
  | u :: vs, i, j + 1, v, h => by
    have := bagR_mem (a := a) (b := b) (E := E) (vs := vs) (i := i + 1) (j := j) (v := v) (by simpa using h)
    rw [show i + (j + 1) = i + 1 + j by omega]
    exact List.mem_cons_of_mem _ this
def vals1 (l : List Value) : List (List Value) := l.map fun x => [x]
theorem vals1_len (l : List Value) : (vals1 l).length = l.length := by simp [vals1]
theorem vals1_get {l : List Value} {i : Nat} {x : Value} (h : l[i]? = some x) : (vals1 l)[i]? = some [x] := by simp [vals1, h]
/-- The outer row while rows from i on are there. -/
def outer (i : Nat) (vs : List Value) : List (List Value) := List.replicate i [.slice none 0 0] ++ vals1 vs
theorem outer_len (i : Nat) (vs : List Value) : (outer i vs).length = i + vs.length := by simp [outer, vals1]
theorem outer_at {i : Nat} {vs : List Value} {j : Nat} {v : Value} (h : vs[j]? = some v) : (outer i vs)[i + j]? = some [v] := by
  unfold outer
  rw [List.getElem?_append_right (by simp), List.length_replicate, Nat.add_sub_cancel_left]
  exact vals1_get h
theorem outer_nil {i j : Nat} {vs : List Value} (h : j < i) : (outer i vs)[j]? = some [.slice none 0 0] := by
  unfold outer
  rw [List.getElem?_append_left (by simpa using h), List.getElem?_replicate, if_pos h]
theorem outer_set (i : Nat) (vs : List Value) (v : Value) : (outer (i + 1) vs).set i [v] = outer i (v :: vs) := by
  unfold outer
  rw [List.replicate_succ', List.append_assoc, List.set_append_right _ _ (by simp)]
  simp [vals1]
def longB (a b : List Msg) : Bool := decide (300 < a.length ∨ 300 < b.length)
end Go.Proofs.Ytllchkmggfcdgaa
namespace Go.Proofs.Ytllchkmggfcdgaa
open Go Fw
theorem pushRow {K : Kx} {a b : List Msg} {E i : Nat} {v : Value} {vs : List Value} (o : Ent) : Imp K [o, Ent.row v 1 (ints (rowT a b i 0)) E, Ent.bag (bagR a b E (i + 1) vs)] [o, Ent.bag (bagR a b E i (v :: vs))] := by
  have h1 : Imp K [o, Ent.row v 1 (ints (rowT a b i 0)) E, Ent.bag (bagR a b E (i + 1) vs)] [Ent.row v 1 (ints (rowT a b i 0)) E, Ent.bag (bagR a b E (i + 1) vs), o] :=
    Imp.perm (by
      refine (List.Perm.swap _ _ _).trans (List.Perm.cons _ ?_)
      exact List.Perm.swap _ _ _)
  exact (h1.trans Imp.bagPush).trans (Imp.perm (List.Perm.swap _ _ _))
end Go.Proofs.Ytllchkmggfcdgaa
namespace Go.Proofs.Ytllchkmggfcdgaa
open Go Fw
open Classical in
noncomputable def sameEB (a b : List Edit) : Bool := decide (a = b)
theorem Edit.inj {a b : Edit} : a.cells = b.cells ↔ a = b := by
  constructor
  · intro h
    cases a
    cases b
    simp [Edit.cells] at h
    simp_all
  · intro h
    rw [h]
theorem nextE_keep {a b : List Msg} {i k : Nat} (h : sameAt a b i k) : nextE a b i k = ⟨0, i, k⟩ := by unfold nextE; exact if_pos h
theorem nextE_drop {a b : List Msg} {i k : Nat} (h : ¬ sameAt a b i k) (h2 : k = b.length ∨ (i < a.length ∧ lcs (a.drop i) (b.drop (k + 1)) ≤ lcs (a.drop (i + 1)) (b.drop k))) : nextE a b i k = ⟨1, i, k⟩ := by unfold nextE; exact (if_neg h).trans (if_pos h2)
theorem nextE_add {a b : List Msg} {i k : Nat} (h : ¬ sameAt a b i k) (h2 : ¬ (k = b.length ∨ (i < a.length ∧ lcs (a.drop i) (b.drop (k + 1)) ≤ lcs (a.drop (i + 1)) (b.drop k)))) : nextE a b i k = ⟨2, i, k⟩ := by unfold nextE; exact (if_neg h).trans (if_neg h2)
end Go.Proofs.Ytllchkmggfcdgaa
namespace Go.Proofs.Ytllchkmggfcdgaa
open Go Fw
theorem outer0_at {vs : List Value} {j : Nat} {v : Value} (h : vs[j]? = some v) : (outer 0 vs)[((j : Nat) : Int).toNat]? = some [v] := by
  have := outer_at (i := 0) h
  rwa [Nat.zero_add] at this
theorem bagR0_mem {a b : List Msg} {E : Nat} {vs : List Value} {j : Nat} {v : Value} (h : vs[j]? = some v) : Ent.row v 1 (ints (rowT a b j 0)) E ∈ bagR a b E 0 vs := by
  have := bagR_mem (a := a) (b := b) (E := E) (i := 0) h
  rwa [Nat.zero_add] at this
end Go.Proofs.Ytllchkmggfcdgaa
