/-
  compare in plain Lean: what two lists have in common, and the edits.
-/
import Derived.Test.YtllchkmggfcdgaaModLim
import Derived.Test.YtllchkmggfcdgaaFw16
set_option maxRecDepth 20000
set_option linter.unusedVariables false
set_option linter.unusedSimpArgs false
namespace Go.Proofs.Ytllchkmggfcdgaa
open Go Fw

structure Msg where
  (kind sym seq tick id_ with_ price qty code : Int)
def Msg.cells (m : Msg) : List Value := [.int .i64 m.kind, .int .i64 m.sym, .int .i64 m.seq, .int .i64 m.tick, .int .i64 m.id_, .int .i64 m.with_, .int .i64 m.price, .int .i64 m.qty, .int .i64 m.code]
theorem Msg.inj {a b : Msg} : a.cells = b.cells ↔ a = b := by
  constructor
  · intro h
    cases a
    cases b
    simp [Msg.cells] at h
    simp_all
  · intro h
    rw [h]
noncomputable instance : DecidableEq Msg := fun a b => Classical.propDecidable _
def msgs (l : List Msg) : List (List Value) := l.map Msg.cells
theorem msgs_get {l : List Msg} {i : Nat} {x : Msg} (h : l[i]? = some x) : (msgs l)[((i : Nat) : Int).toNat]? = some x.cells := by simp [msgs, h]
theorem msgs_ne {l : List Msg} : ∀ x, x ∈ msgs l → x ≠ [] := map_ne fun _ => List.cons_ne_nil _ _
theorem msgs_len {l : List Msg} : (msgs l).length = l.length := by simp [msgs]
theorem msgs_of {els : List (List Value)} (h : ∀ l, l ∈ els → fitsR [.int .i64, .int .i64, .int .i64, .int .i64, .int .i64, .int .i64, .int .i64, .int .i64, .int .i64] l) : ∃ xs, els = msgs xs := by
  obtain ⟨xs, h1, _⟩ := els_map Msg.cells (fun _ => True) els fun l hl => by
    obtain ⟨a0, r, rfl, _, h1⟩ := (h l hl).i64
    obtain ⟨a1, r, rfl, _, h2⟩ := h1.i64
    obtain ⟨a2, r, rfl, _, h3⟩ := h2.i64
    obtain ⟨a3, r, rfl, _, h4⟩ := h3.i64
    obtain ⟨a4, r, rfl, _, h5⟩ := h4.i64
    obtain ⟨a5, r, rfl, _, h6⟩ := h5.i64
    obtain ⟨a6, r, rfl, _, h7⟩ := h6.i64
    obtain ⟨a7, r, rfl, _, h8⟩ := h7.i64
    obtain ⟨a8, r, rfl, _, h9⟩ := h8.i64
    obtain rfl := h9.nil
    exact ⟨⟨a0, a1, a2, a3, a4, a5, a6, a7, a8⟩, rfl, trivial⟩
  exact ⟨xs, h1⟩

/-- How much two lists have in common. -/
noncomputable def lcs : List Msg → List Msg → Nat
  | [], _ => 0
  | _ :: _, [] => 0
  | x :: a, y :: b => if x = y then lcs a b + 1 else max (lcs a (y :: b)) (lcs (x :: a) b)
termination_by a b => a.length + b.length
theorem lcs_nil_left (b : List Msg) : lcs [] b = 0 := by unfold lcs; rfl
theorem lcs_nil_right (a : List Msg) : lcs a [] = 0 := by cases a <;> unfold lcs <;> rfl
theorem lcs_cons (x y : Msg) (a b : List Msg) : lcs (x :: a) (y :: b) = if x = y then lcs a b + 1 else max (lcs a (y :: b)) (lcs (x :: a) b) := by
  conv => lhs; unfold lcs
theorem lcs_le : ∀ (a b : List Msg), lcs a b ≤ a.length ∧ lcs a b ≤ b.length
  | [], b => by simp [lcs_nil_left]
  | x :: a, [] => by simp [lcs_nil_right]
  | x :: a, y :: b => by
    rw [lcs_cons]
    have h1 := lcs_le a b
    have h2 := lcs_le a (y :: b)
    have h3 := lcs_le (x :: a) b
    simp only [List.length_cons] at h1 h2 h3 ⊢
    split <;> omega
termination_by a b => a.length + b.length
theorem lcs_comm : ∀ (a b : List Msg), lcs a b = lcs b a
  | [], b => by rw [lcs_nil_left, lcs_nil_right]
  | x :: a, [] => by rw [lcs_nil_left, lcs_nil_right]
  | x :: a, y :: b => by
    rw [lcs_cons, lcs_cons, lcs_comm a b, lcs_comm a (y :: b), lcs_comm (x :: a) b]
    by_cases h : x = y
    · rw [if_pos h, if_pos h.symm]
    · rw [if_neg h, if_neg (fun e => h e.symm), Nat.max_comm]
termination_by a b => a.length + b.length
theorem lcs_self : ∀ (a : List Msg), lcs a a = a.length
  | [] => lcs_nil_left _
  | x :: a => by rw [lcs_cons, if_pos rfl, lcs_self a]; rfl

/-! ### The table -/
noncomputable def tabV (a b : List Msg) (p : Nat) : Int := (lcs (a.drop (p / (b.length + 1))) (b.drop (p % (b.length + 1))) : Nat)
/-- The table, filled from place q on. -/
noncomputable def tabL (a b : List Msg) (q : Nat) : List Int := (List.range ((a.length + 1) * (b.length + 1))).map fun p => if q ≤ p then tabV a b p else 0
theorem tabL_len (a b : List Msg) (q : Nat) : (tabL a b q).length = (a.length + 1) * (b.length + 1) := by simp [tabL]
theorem tabL_get {a b : List Msg} {q p : Nat} (hp : p < (a.length + 1) * (b.length + 1)) : (tabL a b q)[p]? = some (if q ≤ p then tabV a b p else 0) := by
  simp [tabL, List.getElem?_range hp]
theorem divmod {W i k : Nat} (hk : k < W) : (i * W + k) / W = i ∧ (i * W + k) % W = k := by
  constructor
  · rw [Nat.mul_comm, Nat.mul_add_div (by omega), Nat.div_eq_of_lt hk, Nat.add_zero]
  · rw [Nat.mul_comm, Nat.mul_add_mod, Nat.mod_eq_of_lt hk]
theorem tabV_at {a b : List Msg} {i k : Nat} (hk : k ≤ b.length) : tabV a b (i * (b.length + 1) + k) = (lcs (a.drop i) (b.drop k) : Nat) := by
  unfold tabV
  obtain ⟨h1, h2⟩ := divmod (W := b.length + 1) (i := i) (k := k) (by omega)
  rw [h1, h2]
theorem tab_lt {a b : List Msg} {i k : Nat} (hi : i ≤ a.length) (hk : k ≤ b.length) : i * (b.length + 1) + k < (a.length + 1) * (b.length + 1) := by
  have : (i + 1) * (b.length + 1) ≤ (a.length + 1) * (b.length + 1) := Nat.mul_le_mul_right _ (by omega)
  rw [Nat.succ_mul] at this
  omega
theorem tab_get {a b : List Msg} {q i k : Nat} (hi : i ≤ a.length) (hk : k ≤ b.length) (hq : q ≤ i * (b.length + 1) + k) : (tabL a b q)[i * (b.length + 1) + k]? = some ((lcs (a.drop i) (b.drop k) : Nat) : Int) := by
  rw [tabL_get (tab_lt hi hk), if_pos hq, tabV_at hk]
theorem tabL_set {a b : List Msg} {i k : Nat} (hi : i ≤ a.length) (hk : k ≤ b.length) : (tabL a b (i * (b.length + 1) + k + 1)).set (i * (b.length + 1) + k) ((lcs (a.drop i) (b.drop k) : Nat) : Int) = tabL a b (i * (b.length + 1) + k) := by
  apply List.ext_getElem?
  intro j
  rw [List.getElem?_set]
  by_cases hj : j < (a.length + 1) * (b.length + 1)
  · rw [tabL_get hj, tabL_get hj, tabL_len]
    by_cases h : i * (b.length + 1) + k = j
    · subst h
      simp [tab_lt hi hk, tabV_at hk]
    · rw [if_neg h]
      congr 1
      by_cases h1 : i * (b.length + 1) + k + 1 ≤ j
      · rw [if_pos h1, if_pos (by omega)]
      · rw [if_neg h1, if_neg (by omega)]
  · rw [List.getElem?_eq_none (by rw [tabL_len]; omega), List.getElem?_eq_none (by rw [tabL_len]; omega)]
    have := tab_lt (a := a) (b := b) hi hk
    rw [if_neg (by omega)]
theorem tabL_same {a b : List Msg} {q q' : Nat} (hq : q ≤ q') (h : ∀ p, q ≤ p → p < q' → p < (a.length + 1) * (b.length + 1) → tabV a b p = 0) : tabL a b q' = tabL a b q := by
  unfold tabL
  apply List.map_congr_left
  intro p hp
  rw [List.mem_range] at hp
  by_cases h1 : q' ≤ p
  · rw [if_pos h1, if_pos (by omega)]
  · rw [if_neg h1]
    by_cases h2 : q ≤ p
    · rw [if_pos h2, h p h2 (by omega) hp]
    · rw [if_neg h2]
theorem tabL_row {a b : List Msg} (i : Nat) : tabL a b ((i + 1) * (b.length + 1)) = tabL a b (i * (b.length + 1) + b.length) := by
  refine tabL_same (by rw [Nat.succ_mul]; omega) fun p h1 h2 h3 => ?_
  have : p = i * (b.length + 1) + b.length := by rw [Nat.succ_mul] at h2; omega
  rw [this, tabV_at (Nat.le_refl _), List.drop_length, lcs_nil_right]
  rfl
theorem tabL_start (a b : List Msg) : tabL a b (a.length * (b.length + 1)) = List.replicate ((a.length + 1) * (b.length + 1)) 0 := by
  have h1 : tabL a b ((a.length + 1) * (b.length + 1)) = tabL a b (a.length * (b.length + 1)) := by
    refine tabL_same (by rw [Nat.succ_mul]; omega) fun p h1 h2 h3 => ?_
    have hd : p / (b.length + 1) = a.length := by
      apply Nat.div_eq_of_lt_le
      · exact h1
      · exact h3
    unfold tabV
    rw [hd, List.drop_length, lcs_nil_left]
    rfl
  rw [← h1]
  apply List.ext_getElem?
  intro j
  by_cases hj : j < (a.length + 1) * (b.length + 1)
  · rw [tabL_get hj, if_neg (by omega), List.getElem?_replicate, if_pos hj]
  · rw [List.getElem?_eq_none (by rw [tabL_len]; omega), List.getElem?_eq_none (by simp; omega)]
theorem drop_cons {α : Type} {l : List α} {i : Nat} {x : α} (h : l[i]? = some x) : l.drop i = x :: l.drop (i + 1) := by
  obtain ⟨hlt, he⟩ := List.getElem?_eq_some_iff.1 h
  rw [List.drop_eq_getElem_cons hlt, he]
theorem lcs_step {a b : List Msg} {i k : Nat} {x y : Msg} (hx : a[i]? = some x) (hy : b[k]? = some y) :
    lcs (a.drop i) (b.drop k) = if x = y then lcs (a.drop (i + 1)) (b.drop (k + 1)) + 1 else max (lcs (a.drop (i + 1)) (b.drop k)) (lcs (a.drop i) (b.drop (k + 1))) := by
  rw [drop_cons hx, drop_cons hy, lcs_cons, ← drop_cons hx, ← drop_cons hy]

/-! ### The edits -/
structure Edit where
  (op a b : Int)
def Edit.cells (e : Edit) : List Value := [.int .i64 e.op, .int .i64 e.a, .int .i64 e.b]
def edits (l : List Edit) : List (List Value) := l.map Edit.cells
/-- The edit at two places. -/
noncomputable def nextE (a b : List Msg) (i k : Nat) : Edit :=
  if i < a.length ∧ k < b.length ∧ a[i]? = b[k]? then ⟨0, i, k⟩
  else if k = b.length ∨ (i < a.length ∧ lcs (a.drop i) (b.drop (k + 1)) ≤ lcs (a.drop (i + 1)) (b.drop k)) then ⟨1, i, k⟩
  else ⟨2, i, k⟩
end Go.Proofs.Ytllchkmggfcdgaa
namespace Go.Proofs.Ytllchkmggfcdgaa
open Go Fw
theorem cast_mul2 (a b : List Msg) : (((a.length + 1) * (b.length + 1) : Nat) : Int) = ((a.length : Int) + 1) * ((b.length : Int) + 1) := by push_cast; rfl
theorem mul_nat {a b : List Msg} (ha : a.length ≤ 310) (hb : b.length ≤ 310) : (a.length + 1) * (b.length + 1) ≤ 100000 := by
  have := Nat.mul_le_mul (show a.length + 1 ≤ 311 by omega) (show b.length + 1 ≤ 311 by omega)
  omega
theorem mul_in {a b : List Msg} (ha : a.length ≤ 310) (hb : b.length ≤ 310) : -9223372036854775808 ≤ ((a.length : Int) + 1) * ((b.length : Int) + 1) ∧ ((a.length : Int) + 1) * ((b.length : Int) + 1) ≤ 9223372036854775807 := by
  have := mul_nat ha hb
  rw [← cast_mul2]
  omega
theorem mul_le300 {i : Nat} {b : List Msg} (hi : i ≤ 311) (hb : b.length ≤ 310) : (i : Int) * ((b.length : Int) + 1) ≤ 100000 := by
  have h := Nat.mul_le_mul hi (show b.length + 1 ≤ 311 by omega)
  have : ((i * (b.length + 1) : Nat) : Int) = (i : Int) * ((b.length : Int) + 1) := by push_cast; rfl
  rw [← this]
  omega
theorem ints_rep (n : Nat) : ints (List.replicate n 0) = List.replicate n [.int .i64 0] := by simp [ints]
theorem ints_set (l : List Int) (i : Nat) (x : Int) : ints (l.set i x) = (ints l).set i [.int .i64 x] := by simp [ints, List.map_set]
theorem ints_at (l : List Int) (i : Nat) : (ints l)[i]? = (l[i]?).map fun x => [.int .i64 x] := by simp [ints]
theorem edits_len {l : List Edit} : (edits l).length = l.length := by simp [edits]
end Go.Proofs.Ytllchkmggfcdgaa
namespace Go.Proofs.Ytllchkmggfcdgaa
open Go Fw
def stepI (e : Edit) (i : Nat) : Nat := if e.op = 2 then i else i + 1
def stepK (e : Edit) (k : Nat) : Nat := if e.op = 1 then k else k + 1
noncomputable def restE (a b : List Msg) : Nat → Nat → Nat → List Edit
  | 0, _, _ => []
  | n + 1, i, k => if i = a.length ∧ k = b.length then [] else nextE a b i k :: restE a b n (stepI (nextE a b i k) i) (stepK (nextE a b i k) k)
noncomputable def editsOf (a b : List Msg) : List Edit := if 300 < a.length ∨ 300 < b.length then [] else restE a b (a.length + b.length) 0 0
theorem restE_len (a b : List Msg) : ∀ n i k, (restE a b n i k).length ≤ n
  | 0, _, _ => by simp [restE]
  | n + 1, i, k => by
    unfold restE
    split
    · simp
    · simpa using restE_len a b n _ _
theorem next_ok {a b : List Msg} {i k : Nat} (hi : i ≤ a.length) (hk : k ≤ b.length) (hne : ¬ (i = a.length ∧ k = b.length)) :
    stepI (nextE a b i k) i ≤ a.length ∧ stepK (nextE a b i k) k ≤ b.length ∧ (a.length - stepI (nextE a b i k) i) + (b.length - stepK (nextE a b i k) k) < (a.length - i) + (b.length - k) ∧
    ((nextE a b i k).op = 0 ∨ (nextE a b i k).op = 1 ∨ (nextE a b i k).op = 2) := by
  unfold nextE
  split
  · rename_i h; simp [stepI, stepK]; omega
  · rename_i h
    split
    · rename_i h2
      have : i < a.length := by rcases h2 with h2 | h2 <;> omega
      simp [stepI, stepK]; omega
    · rename_i h2
      have : k < b.length := by
        rcases Nat.lt_or_ge k b.length with h3 | h3
        · exact h3
        · exact absurd (Or.inl (by omega)) h2
      simp [stepI, stepK]; omega
def sameAt (a b : List Msg) (i k : Nat) : Prop := i < a.length ∧ k < b.length ∧ a[i]? = b[k]?
def fitsE (a b : List Msg) (e : Edit) (i k : Nat) : Prop := e.a = i ∧ e.b = k ∧ ((e.op = 0 ∧ sameAt a b i k) ∨ (e.op = 1 ∧ i < a.length) ∨ (e.op = 2 ∧ k < b.length))
noncomputable instance (a b : List Msg) (i k : Nat) : Decidable (sameAt a b i k) := Classical.propDecidable _
noncomputable instance (a b : List Msg) (e : Edit) (i k : Nat) : Decidable (fitsE a b e i k) := Classical.propDecidable _
noncomputable def applyE (a b : List Msg) : List Edit → Nat → Nat → List Msg → Option (List Msg × Nat × Nat)
  | [], i, k, out => some (out, i, k)
  | e :: l, i, k, out => if fitsE a b e i k then applyE a b l (stepI e i) (stepK e k) (if e.op = 1 then out else out ++ b[k]?.toList) else none
noncomputable def applyR (a b : List Msg) (l : List Edit) : List Msg × Bool :=
  match applyE a b l 0 0 [] with
  | some (out, i, k) => if i < a.length ∨ k < b.length then ([], false) else (out, true)
  | none => ([], false)
theorem edits_get {l : List Edit} {i : Nat} {x : Edit} (h : l[i]? = some x) : (edits l)[((i : Nat) : Int).toNat]? = some x.cells := by simp [edits, h]
theorem edits_ne {l : List Edit} : ∀ x, x ∈ edits l → x ≠ [] := map_ne fun _ => List.cons_ne_nil _ _
theorem edits_app (l : List Edit) (e : Edit) : edits l ++ [e.cells] = edits (l ++ [e]) := by simp [edits]
theorem msgs_app (l : List Msg) (e : Msg) : msgs l ++ [e.cells] = msgs (l ++ [e]) := by simp [msgs]
/-- The edits lead from the one list to the other one. -/
theorem apply_rest (a b : List Msg) : ∀ n i k, i ≤ a.length → k ≤ b.length → (a.length - i) + (b.length - k) ≤ n →
    applyE a b (restE a b n i k) i k (b.take k) = some (b, a.length, b.length)
  | 0, i, k, hi, hk, hn => by
    have h1 : i = a.length := by omega
    have h2 : k = b.length := by omega
    subst h1 h2
    simp [restE, applyE]
  | n + 1, i, k, hi, hk, hn => by
    unfold restE
    split
    · rename_i h
      obtain ⟨rfl, rfl⟩ := h
      simp [applyE]
    · rename_i h
      obtain ⟨h1, h2, h3, h4⟩ := next_ok hi hk h
      have ih := apply_rest a b n _ _ h1 h2 (by omega)
      unfold applyE
      have hf : fitsE a b (nextE a b i k) i k := by
        unfold nextE
        split
        · rename_i h5; exact ⟨rfl, rfl, .inl ⟨rfl, h5⟩⟩
        · split
          · rename_i h6
            exact ⟨rfl, rfl, .inr (.inl ⟨rfl, by rcases h6 with h6 | h6 <;> omega⟩)⟩
          · rename_i h6
            refine ⟨rfl, rfl, .inr (.inr ⟨rfl, ?_⟩)⟩
            rcases Nat.lt_or_ge k b.length with h7 | h7
            · exact h7
            · exact absurd (Or.inl (by omega)) h6
      rw [if_pos hf]
      rw [← ih]
      congr 1
      by_cases h5 : (nextE a b i k).op = 1
      · rw [if_pos h5]; simp [stepK, h5]
      · rw [if_neg h5]
        have hkl : k < b.length := by
          obtain ⟨_, _, h6⟩ := hf
          rcases h6 with h6 | h6 | h6
          · exact h6.2.2.1
          · exact absurd h6.1 h5
          · exact h6.2
        rw [show stepK (nextE a b i k) k = k + 1 from if_neg h5, List.take_add_one]
theorem apply_edits {a b : List Msg} (ha : a.length ≤ 300) (hb : b.length ≤ 300) : applyR a b (editsOf a b) = (b, true) := by
  unfold applyR editsOf
  rw [if_neg (by omega)]
  have h := apply_rest a b (a.length + b.length) 0 0 (by omega) (by omega) (by omega)
  rw [List.take_zero] at h
  rw [h]
  simp
/-- How many edits keep. -/
def kept (l : List Edit) : Nat := (l.filter fun e => decide (e.op = 0)).length
theorem kept_rest (a b : List Msg) : ∀ n i k, i ≤ a.length → k ≤ b.length → (a.length - i) + (b.length - k) ≤ n →
    kept (restE a b n i k) = lcs (a.drop i) (b.drop k) ∧ (restE a b n i k).length + lcs (a.drop i) (b.drop k) = (a.length - i) + (b.length - k)
  | 0, i, k, hi, hk, hn => by
    have h1 : i = a.length := by omega
    have h2 : k = b.length := by omega
    subst h1 h2
    simp [restE, kept, lcs_nil_left]
  | n + 1, i, k, hi, hk, hn => by
    unfold restE
    split
    · rename_i h
      obtain ⟨rfl, rfl⟩ := h
      simp [kept, lcs_nil_left]
    · rename_i h
      obtain ⟨h1, h2, h3, h4⟩ := next_ok hi hk h
      obtain ⟨ih1, ih2⟩ := kept_rest a b n _ _ h1 h2 (by omega)
      revert ih1 ih2 h1 h2 h3
      unfold nextE
      split
      · rename_i h5
        intro h1 h2 h3 ih1 ih2
        simp [stepI, stepK, kept] at h1 h2 h3
        obtain ⟨x, hx⟩ := get_ex h5.1
        obtain ⟨y, hy⟩ := get_ex h5.2.1
        have hxy : x = y := by
          have := h5.2.2
          rw [hx, hy] at this
          exact Option.some.inj this
        have hl := lcs_step hx hy
        rw [if_pos hxy] at hl
        simp [stepI, stepK, kept] at ih1 ih2 ⊢
        omega
      · rename_i h5
        split
        · rename_i h6
          intro h1 h2 h3 ih1 ih2
          simp [stepI, stepK, kept] at h1 h2 h3 ih1 ih2 ⊢
          rcases h6 with h6 | h6
          · subst h6
            simp [lcs_nil_right] at ih1 ih2 ⊢
            exact ⟨by first | exact ih1 | omega, by omega⟩
          · by_cases hkb : k = b.length
            · subst hkb
              simp [lcs_nil_right] at ih1 ih2 ⊢
              exact ⟨by first | exact ih1 | omega, by omega⟩
            · obtain ⟨x, hx⟩ := get_ex h6.1
              obtain ⟨y, hy⟩ := get_ex (l := b) (i := k) (by omega)
              have hxy : x ≠ y := fun e => h5 ⟨h6.1, by omega, by rw [hx, hy, e]⟩
              have hl := lcs_step hx hy
              rw [if_neg hxy] at hl
              omega
        · rename_i h6
          intro h1 h2 h3 ih1 ih2
          simp [stepI, stepK, kept] at h1 h2 h3 ih1 ih2 ⊢
          by_cases hia : i = a.length
          · subst hia
            simp [lcs_nil_left] at ih1 ih2 ⊢
            have : k < b.length := by omega
            exact ⟨by first | exact ih1 | omega, by omega⟩
          · have hkb : k < b.length := by
              rcases Nat.lt_or_ge k b.length with h7 | h7
              · exact h7
              · exact absurd (Or.inl (by omega)) h6
            obtain ⟨x, hx⟩ := get_ex (l := a) (i := i) (by omega)
            obtain ⟨y, hy⟩ := get_ex hkb
            have hxy : x ≠ y := fun e => h5 ⟨by omega, hkb, by rw [hx, hy, e]⟩
            have hl := lcs_step hx hy
            rw [if_neg hxy] at hl
            have h8 : lcs (a.drop (i + 1)) (b.drop k) < lcs (a.drop i) (b.drop (k + 1)) := by
              rcases Nat.lt_or_ge (lcs (a.drop (i + 1)) (b.drop k)) (lcs (a.drop i) (b.drop (k + 1))) with h9 | h9
              · exact h9
              · exact absurd (Or.inr ⟨by omega, h9⟩) h6
            omega
end Go.Proofs.Ytllchkmggfcdgaa
namespace Go.Proofs.Ytllchkmggfcdgaa
open Go Fw
def mm (n : Int) : Msg := ⟨0, 0, 0, 0, n, 0, 0, 0, 0⟩
theorem mm_inj {a b : Int} : mm a = mm b ↔ a = b := by simp [mm]
theorem alive_edits : editsOf [mm 1, mm 2] [mm 2, mm 3] = [⟨1, 0, 0⟩, ⟨0, 1, 0⟩, ⟨2, 2, 1⟩] := by
  simp [editsOf, restE, nextE, stepI, stepK, lcs_cons, lcs_nil_left, lcs_nil_right, mm_inj]
open Classical in
noncomputable def sameB (a b : List Msg) : Bool := decide (a = b)
end Go.Proofs.Ytllchkmggfcdgaa
namespace Go.Proofs.Ytllchkmggfcdgaa
open Go Fw
theorem fits_step {a b : List Msg} {e : Edit} {i k : Nat} (hi : i ≤ a.length) (hk : k ≤ b.length) (h : fitsE a b e i k) : stepI e i ≤ a.length ∧ stepK e k ≤ b.length := by
  obtain ⟨_, _, h⟩ := h
  unfold stepI stepK
  rcases h with ⟨h1, h2, h3, _⟩ | ⟨h1, h2⟩ | ⟨h1, h2⟩
  · rw [if_neg (by omega), if_neg (by omega)]; omega
  · rw [if_neg (by omega), if_pos h1]; omega
  · rw [if_pos h1, if_neg (by omega)]; omega
theorem fits_k {a b : List Msg} {e : Edit} {i k : Nat} (h : fitsE a b e i k) (ho : e.op ≠ 1) : k < b.length := by
  obtain ⟨_, _, h⟩ := h
  rcases h with ⟨h1, h2, h3, _⟩ | ⟨h1, h2⟩ | ⟨h1, h2⟩
  · exact h3
  · exact absurd h1 ho
  · exact h2
theorem applyE_step {a b : List Msg} {l : List Edit} {j i k : Nat} {out : List Msg} {e : Edit} (he : l[j]? = some e) (h : fitsE a b e i k) :
    applyE a b (l.drop j) i k out = applyE a b (l.drop (j + 1)) (stepI e i) (stepK e k) (if e.op = 1 then out else out ++ b[k]?.toList) := by
  rw [drop_cons he]
  conv => lhs; unfold applyE
  rw [if_pos h]
theorem applyE_stop {a b : List Msg} {l : List Edit} {j i k : Nat} {out : List Msg} {e : Edit} (he : l[j]? = some e) (h : ¬ fitsE a b e i k) (h0 : applyE a b (l.drop j) i k out = applyE a b l 0 0 []) : applyR a b l = ([], false) := by
  have h1 : applyE a b (e :: l.drop (j + 1)) i k out = none := by
    conv => lhs; unfold applyE
    rw [if_neg h]
  rw [drop_cons he, h1] at h0
  unfold applyR
  rw [← h0]
theorem applyE_end {a b : List Msg} {l : List Edit} {j i k : Nat} {out : List Msg} (hj : l.length ≤ j) (h0 : applyE a b (l.drop j) i k out = applyE a b l 0 0 []) : applyR a b l = if i < a.length ∨ k < b.length then ([], false) else (out, true) := by
  rw [List.drop_of_length_le hj] at h0
  unfold applyR
  rw [← h0]
  rfl
end Go.Proofs.Ytllchkmggfcdgaa
namespace Go.Proofs.Ytllchkmggfcdgaa
theorem kept_take {l : List Edit} {i : Nat} {e : Edit} (h : l[i]? = some e) : kept (l.take (i + 1)) = kept (l.take i) + (if e.op = 0 then 1 else 0) := by
  rw [List.take_add_one, h]
  unfold kept
  rw [List.filter_append, List.length_append]
  by_cases h0 : e.op = 0 <;> simp [h0]
theorem kept_le (l : List Edit) : kept l ≤ l.length := List.length_filter_le _ _
end Go.Proofs.Ytllchkmggfcdgaa
namespace Go.Proofs.Ytllchkmggfcdgaa
open Go Fw
theorem apply_leaf {a b : List Msg} {e : Edit} {i k : Nat} {x y : Msg} (hx : a[i]? = some x) (hy : b[k]? = some y) (h0 : e.op = 0) (ha : e.a = i) (hb : e.b = k) (hi : i < a.length) (hk : k < b.length) : x.cells ≠ y.cells ↔ ¬ fitsE a b e i k := by
  refine ⟨fun h hf => ?_, fun h e2 => h ⟨ha, hb, .inl ⟨h0, hi, hk, by rw [hx, hy, Msg.inj.1 e2]⟩⟩⟩
  obtain ⟨_, _, h3⟩ := hf
  rcases h3 with ⟨_, _, _, h6⟩ | h3 | h3
  · exact h (Msg.inj.2 (Option.some.inj (by rw [← hx, ← hy]; exact h6)))
  · omega
  · omega
end Go.Proofs.Ytllchkmggfcdgaa
namespace Go.Proofs.Ytllchkmggfcdgaa
open Go Fw
theorem edits_of {els : List (List Value)} (h : ∀ l, l ∈ els → fitsR [.int .i64, .int .i64, .int .i64] l) : ∃ xs, els = edits xs := by
  obtain ⟨xs, h1, _⟩ := els_map Edit.cells (fun _ => True) els fun l hl => by
    obtain ⟨a0, r, rfl, _, h1⟩ := (h l hl).i64
    obtain ⟨a1, r, rfl, _, h2⟩ := h1.i64
    obtain ⟨a2, r, rfl, _, h3⟩ := h2.i64
    obtain rfl := h3.nil
    exact ⟨⟨a0, a1, a2⟩, rfl, trivial⟩
  exact ⟨xs, h1⟩
end Go.Proofs.Ytllchkmggfcdgaa
