/-
  Values of the program as Lean structures; the limit state's functions in plain Lean.
-/
import Derived.Test.YtipgdalebkhgpaaFw14
set_option maxRecDepth 20000
namespace Go.Proofs.Ytipgdalebkhgpaa
open Go

structure LSt where
  on : Bool
  since : Int
def LSt.cells (s : LSt) : List Value := [.bool s.on, .int .i64 s.since]

structure Sym where
  (grid ref static dyn window move limit pause ext maxExt collar widen self_ slots levels short : Int)
def Sym.cells (s : Sym) : List Value := [.int .i64 s.grid, .int .i64 s.ref, .int .i64 s.static, .int .i64 s.dyn, .int .i64 s.window, .int .i64 s.move, .int .i64 s.limit, .int .i64 s.pause, .int .i64 s.ext, .int .i64 s.maxExt, .int .i64 s.collar, .int .i64 s.widen, .int .i64 s.self_, .int .i64 s.slots, .int .i64 s.levels, .int .i64 s.short]

def limNext (st : LSt) (tick : Int) (touches : Bool) : LSt := if touches then (if st.on then st else ⟨true, tick⟩) else ⟨false, 0⟩
def limDue (st : LSt) (s : Sym) : Int := if st.on then IntKind.i64.wrap (st.since + s.limit) else 0
end Go.Proofs.Ytipgdalebkhgpaa
set_option maxRecDepth 20000
namespace Go.Proofs.Ytipgdalebkhgpaa
open Go Fw
/-- The cells of whole numbers. -/
def ints (l : List Int) : List (List Value) := l.map fun x => [.int .i64 x]
def bools (l : List Bool) : List (List Value) := l.map fun x => [.bool x]
theorem get_ex {α : Type} {l : List α} {i : Nat} (h : i < l.length) : ∃ x, l[i]? = some x := ⟨_, List.getElem?_eq_getElem h⟩
theorem ints_get {l : List Int} {i : Nat} {x : Int} (h : l[i]? = some x) : (ints l)[((i : Nat) : Int).toNat]? = some [.int .i64 x] := by simp [ints, h]
theorem bools_get {l : List Bool} {i : Nat} {x : Bool} (h : l[i]? = some x) : (bools l)[((i : Nat) : Int).toNat]? = some [.bool x] := by simp [bools, h]
theorem map_ne {α : Type} {f : α → List Value} (hf : ∀ a, f a ≠ []) {l : List α} : ∀ x, x ∈ l.map f → x ≠ [] := by
  intro x hx
  obtain ⟨a, _, rfl⟩ := List.mem_map.1 hx
  exact hf a
theorem ints_ne {l : List Int} : ∀ x, x ∈ ints l → x ≠ [] := map_ne fun _ => List.cons_ne_nil _ _
theorem bools_ne {l : List Bool} : ∀ x, x ∈ bools l → x ≠ [] := map_ne fun _ => List.cons_ne_nil _ _
theorem ints_len {l : List Int} : (ints l).length = l.length := by simp [ints]
theorem bools_len {l : List Bool} : (bools l).length = l.length := by simp [bools]

/-- What limit's statements ask of ticks. -/
def Light21 (s : Sym) (ts : List Int) : Prop := (∀ t, t ∈ ts → 0 ≤ t ∧ t ≤ 1152921504606846976) ∧ 1 ≤ s.limit ∧ s.limit ≤ 1099511627776
open Classical in
noncomputable def light21 (s : Sym) (ts : List Int) : Bool := decide (Light21 s ts)
def limFires (st : LSt) (s : Sym) (tick : Int) : Bool := st.on && decide (limDue st s ≤ tick)
def limLeft (st : LSt) (s : Sym) (tick : Int) : Int := if st.on then (if limDue st s ≤ tick then 0 else IntKind.i64.wrap (limDue st s - tick)) else -1
def limLeftR (st : LSt) (s : Sym) (tick : Int) : Int := if st.on then max (IntKind.i64.wrap (limDue st s - tick)) 0 else -1
end Go.Proofs.Ytipgdalebkhgpaa
set_option maxRecDepth 20000
namespace Go.Proofs.Ytipgdalebkhgpaa
theorem max_if (a b : Int) : (if b > a then b else a) = max a b := by
  by_cases h : b > a
  · rw [if_pos h]; omega
  · rw [if_neg h]; omega
theorem min_if (a b : Int) : (if b < a then b else a) = min a b := by
  by_cases h : b < a
  · rw [if_pos h]; omega
  · rw [if_neg h]; omega
end Go.Proofs.Ytipgdalebkhgpaa
set_option maxRecDepth 20000
namespace Go.Proofs.Ytipgdalebkhgpaa
open Go
theorem light21_iff {s : Sym} {ts : List Int} : light21 s ts = true ↔ Light21 s ts := by simp [light21]
theorem limDue_eq {st : LSt} {s : Sym} (h1 : 0 ≤ st.since ∧ st.since ≤ 1152921504606846976) (h2 : 1 ≤ s.limit ∧ s.limit ≤ 1099511627776) : limDue st s = if st.on then st.since + s.limit else 0 := by
  unfold limDue
  rw [IntWalk.i64_in _ (by omega)]
theorem lim_left {st : LSt} {s : Sym} {tick : Int} (h1 : 0 ≤ st.since ∧ st.since ≤ 1152921504606846976) (h2 : 1 ≤ s.limit ∧ s.limit ≤ 1099511627776) (h3 : 0 ≤ tick ∧ tick ≤ 1152921504606846976) :
    limLeft st s tick = limLeftR st s tick := by
  unfold limLeft limLeftR
  rw [limDue_eq h1 h2]
  cases st.on with
  | false => rfl
  | true =>
    simp only [if_true]
    rw [IntWalk.i64_in _ (by omega)]
    split <;> omega
theorem lim_fires {st : LSt} {s : Sym} {tick : Int} (h1 : 0 ≤ st.since ∧ st.since ≤ 1152921504606846976) (h2 : 1 ≤ s.limit ∧ s.limit ≤ 1099511627776) (h3 : 0 ≤ tick ∧ tick ≤ 1152921504606846976) :
    limFires st s tick = decide (limLeftR st s tick = 0) := by
  unfold limFires limLeftR
  rw [limDue_eq h1 h2]
  cases st.on with
  | false => rfl
  | true =>
    simp only [if_true, Bool.true_and]
    rw [IntWalk.i64_in _ (by omega)]
    congr 1
    apply propext
    omega
theorem limNext_since {st : LSt} {tick : Int} {b : Bool} {B : Int} (h1 : 0 ≤ st.since ∧ st.since ≤ B) (h3 : 0 ≤ tick ∧ tick ≤ B) : 0 ≤ (limNext st tick b).since ∧ (limNext st tick b).since ≤ B := by
  unfold limNext
  split
  · split
    · exact h1
    · exact h3
  · exact ⟨Int.le_refl _, by simp; omega⟩
end Go.Proofs.Ytipgdalebkhgpaa
set_option maxRecDepth 20000
namespace Go.Proofs.Ytipgdalebkhgpaa
open Go Fw
theorem LSt.of {l : List Value} (h : fitsR [.bool, .int .i64] l) : ∃ s : LSt, l = s.cells := by
  obtain ⟨a, r, rfl, h1⟩ := h.bool
  obtain ⟨b, r, rfl, _, h2⟩ := h1.i64
  obtain rfl := h2.nil
  exact ⟨⟨a, b⟩, rfl⟩
theorem Sym.of {l : List Value} (h : fitsR [.int .i64, .int .i64, .int .i64, .int .i64, .int .i64, .int .i64, .int .i64, .int .i64, .int .i64, .int .i64, .int .i64, .int .i64, .int .i64, .int .i64, .int .i64, .int .i64] l) : ∃ s : Sym, l = s.cells := by
  obtain ⟨a0, r, rfl, _, h1⟩ := h.i64
  obtain ⟨a1, r, rfl, _, h2⟩ := h1.i64
  obtain ⟨a2, r, rfl, _, h3⟩ := h2.i64
  obtain ⟨a3, r, rfl, _, h4⟩ := h3.i64
  obtain ⟨a4, r, rfl, _, h5⟩ := h4.i64
  obtain ⟨a5, r, rfl, _, h6⟩ := h5.i64
  obtain ⟨a6, r, rfl, _, h7⟩ := h6.i64
  obtain ⟨a7, r, rfl, _, h8⟩ := h7.i64
  obtain ⟨a8, r, rfl, _, h9⟩ := h8.i64
  obtain ⟨a9, r, rfl, _, h10⟩ := h9.i64
  obtain ⟨a10, r, rfl, _, h11⟩ := h10.i64
  obtain ⟨a11, r, rfl, _, h12⟩ := h11.i64
  obtain ⟨a12, r, rfl, _, h13⟩ := h12.i64
  obtain ⟨a13, r, rfl, _, h14⟩ := h13.i64
  obtain ⟨a14, r, rfl, _, h15⟩ := h14.i64
  obtain ⟨a15, r, rfl, _, h16⟩ := h15.i64
  obtain rfl := h16.nil
  exact ⟨⟨a0, a1, a2, a3, a4, a5, a6, a7, a8, a9, a10, a11, a12, a13, a14, a15⟩, rfl⟩
theorem ints_of {els : List (List Value)} (h : ∀ l, l ∈ els → fitsR [.int .i64] l) : ∃ xs, els = ints xs ∧ ∀ x, x ∈ xs → -9223372036854775808 ≤ x ∧ x ≤ 9223372036854775807 :=
  els_map (fun x => [.int .i64 x]) (fun x => -9223372036854775808 ≤ x ∧ x ≤ 9223372036854775807) els fun l hl => by
    obtain ⟨a, r, rfl, hw, h2⟩ := (h l hl).i64
    obtain rfl := h2.nil
    exact ⟨a, rfl, hw⟩
theorem bools_of {els : List (List Value)} (h : ∀ l, l ∈ els → fitsR [.bool] l) : ∃ xs, els = bools xs := by
  obtain ⟨xs, h1, _⟩ := els_map (fun x => [.bool x]) (fun _ => True) els fun l hl => by
    obtain ⟨a, r, rfl, h2⟩ := (h l hl).bool
    obtain rfl := h2.nil
    exact ⟨a, rfl, trivial⟩
  exact ⟨xs, h1⟩
end Go.Proofs.Ytipgdalebkhgpaa
