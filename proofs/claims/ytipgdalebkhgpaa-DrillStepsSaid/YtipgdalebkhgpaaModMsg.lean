/-
  Messages.
-/
import Derived.Test.YtipgdalebkhgpaaModLim
set_option maxRecDepth 20000
namespace Go.Proofs.Ytipgdalebkhgpaa
open Go Go.RowKit Fw

structure Msg where
  (kind sym seq tick id_ with_ price qty code : Int)
def Msg.cells (m : Msg) : List Value := [.int .i64 m.kind, .int .i64 m.sym, .int .i64 m.seq, .int .i64 m.tick, .int .i64 m.id_, .int .i64 m.with_, .int .i64 m.price, .int .i64 m.qty, .int .i64 m.code]
def msgs (l : List Msg) : List (List Value) := l.map Msg.cells
theorem msgs_get {l : List Msg} {i : Nat} {x : Msg} (h : l[i]? = some x) : (msgs l)[((i : Nat) : Int).toNat]? = some x.cells := by simp [msgs, h]
theorem msgs_ne {l : List Msg} : ∀ x, x ∈ msgs l → x ≠ [] := map_ne fun _ => List.cons_ne_nil _ _
theorem msgs_len {l : List Msg} : (msgs l).length = l.length := by simp [msgs]
/-- Numbers in their range. -/
def i64R (n : Int) : Prop := -9223372036854775808 ≤ n ∧ n ≤ 9223372036854775807
structure Msg.ok (m : Msg) : Prop where
  sym : i64R m.sym
  seq : i64R m.seq
  tick : i64R m.tick
  price : i64R m.price
  qty : i64R m.qty
theorem Msg.of {l : List Value} (h : fitsR [.int .i64, .int .i64, .int .i64, .int .i64, .int .i64, .int .i64, .int .i64, .int .i64, .int .i64] l) : ∃ m : Msg, l = m.cells ∧ m.ok := by
  obtain ⟨a0, r, rfl, _, h1⟩ := h.i64
  obtain ⟨a1, r, rfl, w1, h2⟩ := h1.i64
  obtain ⟨a2, r, rfl, w2, h3⟩ := h2.i64
  obtain ⟨a3, r, rfl, w3, h4⟩ := h3.i64
  obtain ⟨a4, r, rfl, _, h5⟩ := h4.i64
  obtain ⟨a5, r, rfl, _, h6⟩ := h5.i64
  obtain ⟨a6, r, rfl, w6, h7⟩ := h6.i64
  obtain ⟨a7, r, rfl, w7, h8⟩ := h7.i64
  obtain ⟨a8, r, rfl, _, h9⟩ := h8.i64
  obtain rfl := h9.nil
  exact ⟨⟨a0, a1, a2, a3, a4, a5, a6, a7, a8⟩, rfl, ⟨w1, w2, w3, w6, w7⟩⟩
theorem msgs_of {els : List (List Value)} (h : ∀ l, l ∈ els → fitsR [.int .i64, .int .i64, .int .i64, .int .i64, .int .i64, .int .i64, .int .i64, .int .i64, .int .i64] l) : ∃ xs, els = msgs xs ∧ ∀ x, x ∈ xs → x.ok :=
  els_map Msg.cells Msg.ok els fun l hl => Msg.of (h l hl)
end Go.Proofs.Ytipgdalebkhgpaa
