/-
  The watch in plain Lean.
-/
import Derived.Test.YtipgdalebkhgpaaModCfg
import Derived.Test.YtipgdalebkhgpaaModMsg
import Derived.Test.YtipgdalebkhgpaaFw25
set_option maxRecDepth 20000
namespace Go.Proofs.Ytipgdalebkhgpaa
open Go Go.RowKit Fw

structure Know where
  (phase blo bhi clo chi dl t0 t1 t2 t3 : Int)
def Know.cells (k : Know) : List Value := [.int .i64 k.phase, .int .i64 k.blo, .int .i64 k.bhi, .int .i64 k.clo, .int .i64 k.chi, .int .i64 k.dl, .int .i64 k.t0, .int .i64 k.t1, .int .i64 k.t2, .int .i64 k.t3]
def Know.zero : Know := ⟨0, 0, 0, 0, 0, 0, 0, 0, 0, 0⟩
/-- A symbol, and what is known of it. -/
structure Wk where
  s : Sym
  k : Know
def Wk.cells (x : Wk) : List Value := x.s.cells ++ x.k.cells
def wks (l : List Wk) : List (List Value) := l.map Wk.cells
def kns (l : List Wk) : List (List Value) := l.map fun x => x.k.cells
theorem wks_len {l : List Wk} : (wks l).length = l.length := by simp [wks]
theorem kns_len {l : List Wk} : (kns l).length = l.length := by simp [kns]
theorem wks_ne {l : List Wk} : ∀ x, x ∈ wks l → x ≠ [] := map_ne fun x => List.cons_ne_nil _ _
theorem kns_ne {l : List Wk} : ∀ x, x ∈ kns l → x ≠ [] := map_ne fun x => List.cons_ne_nil _ _
theorem wks_get {l : List Wk} {i : Nat} {x : Wk} (h : l[i]? = some x) : (wks l)[((i : Nat) : Int).toNat]? = some x.cells := by simp [wks, h]
theorem kns_get {l : List Wk} {i : Nat} {x : Wk} (h : l[i]? = some x) : (kns l)[((i : Nat) : Int).toNat]? = some x.k.cells := by simp [kns, h]
theorem wks_at {l : List Wk} {i : Nat} {x : Wk} (h : l[i]? = some x) : (wks l)[i]? = some x.cells := by simp [wks, h]
theorem kns_at {l : List Wk} {i : Nat} {x : Wk} (h : l[i]? = some x) : (kns l)[i]? = some x.k.cells := by simp [kns, h]
theorem wks_up {l : List Wk} {i : Nat} {x : Wk} {cs : List Value} (h : x.cells = cs) : (wks l).set i cs = wks (l.set i x) := by subst h; simp [wks, List.map_set]
theorem kns_up {l : List Wk} {i : Nat} {x : Wk} {cs : List Value} (h : x.k.cells = cs) : (kns l).set i cs = kns (l.set i x) := by subst h; simp [kns, List.map_set]
structure Wst where
  (seq tick : Int)
  l : List Wk
/-- The address of what is known of a symbol. -/
def ofP (g : Nat) (st : Wst) (sym : Int) : Option Addr := if 0 ≤ sym ∧ sym < st.l.length then some ⟨g, 0 + sym.toNat * 26, none⟩ else none
def lateW (st : Wst) (tick : Int) : Bool := decide (tick < st.tick) || st.l.any fun x => decide (x.k.dl ≠ 0 ∧ x.k.dl < tick)
def openW (k : Know) (code : Int) : Bool := if code = 1 then decide (k.phase = 2) else if code = 3 then decide (k.phase = 1) || decide (k.phase = 4) else if code = 2 then decide (k.phase = 4) else false
def inBand (lo hi p : Int) : Bool := decide (lo ≤ p ∧ p ≤ hi)
def inW (k : Know) (m : Msg) : Bool := if m.code = 1 then inBand k.blo k.bhi m.price else if m.code = 2 then inBand k.clo k.chi m.price else inBand 1 maxP m.price
def globalM (m : Msg) : Bool := decide (m.kind = 2) || decide (m.kind = 9)
@[reducible] def trM (m : Msg) : Bool := decide (m.kind = 3)
def inSym (st : Wst) (sym : Int) : Bool := decide (0 ≤ sym ∧ sym < st.l.length)
/-- What is known of a symbol; nothing, where there is none. -/
def knOf (st : Wst) (sym : Int) : Know := if 0 ≤ sym then (match st.l[sym.toNat]? with | some x => x.k | none => Know.zero) else Know.zero
/-- A trade's fault. -/
def trF (k : Know) (m : Msg) : Int := if 1 ≤ m.qty then if openW k m.code then if inW k m then 0 else 11 else 10 else 9
/-- A message's fault. -/
def ckW (st : Wst) (m : Msg) : Int :=
  if m.seq = IntKind.i64.wrap (st.seq + 1) then
    if lateW st m.tick then 15 else
    if inSym st m.sym then (if trM m then trF (knOf st m.sym) m else 0) else if globalM m then 0 else 5
  else 4
def Know.tr (k : Know) (i : Nat) : Int := if i = 0 then k.t0 else if i = 1 then k.t1 else if i = 2 then k.t2 else k.t3
def Know.setTr (k : Know) (i : Nat) (v : Int) : Know := if i = 0 then { k with t0 := v } else if i = 1 then { k with t1 := v } else if i = 2 then { k with t2 := v } else { k with t3 := v }
def Know.traded (k : Know) (q : Int) (i : Nat) : Know := (k.setTr 0 (IntKind.i64.wrap (k.tr 0 + q))).setTr i (IntKind.i64.wrap ((k.setTr 0 (IntKind.i64.wrap (k.tr 0 + q))).tr i + q))
def Know.status (k : Know) (s : Sym) (m : Msg) : Know :=
  if m.code = 3 then { k with phase := m.code, dl := IntKind.i64.wrap (m.tick + boundF s) } else if m.code = 4 ∨ m.code = 5 then { k with phase := m.code } else { k with phase := m.code, dl := 0 }
def Wk.put (x : Wk) (m : Msg) : Wk :=
  if m.kind = 3 then { x with k := x.k.traded m.qty m.code.toNat }
  else if m.kind = 5 then { x with k := { x.k with blo := m.price, bhi := m.qty } }
  else if m.kind = 8 then { x with k := { x.k with clo := m.price, chi := m.qty } }
  else if m.kind = 6 then { x with k := x.k.status x.s m }
  else x
def Wk.level (q : Int) (x : Wk) : Wk := if x.k.dl ≠ 0 then { x with k := { x.k with dl := IntKind.i64.wrap (x.k.dl + q) } } else x
def levelW (l : List Wk) (m : Msg) : List Wk := if m.code = 1 ∨ m.code = 2 then l.map (Wk.level m.qty) else l
def setW (l : List Wk) (sym : Int) (m : Msg) : List Wk := match l[sym.toNat]? with | some x => l.set sym.toNat (x.put m) | none => l
def putW (st : Wst) (m : Msg) : Wst :=
  if ckW st m = 0 then ⟨m.seq, m.tick, if m.kind = 9 then levelW st.l m else if m.kind = 2 then st.l else setW st.l m.sym m⟩ else st

theorem ofP_at {g : Nat} {st : Wst} {sym : Int} {j : Nat} {x : Wk} (hs : sym = j) (hx : st.l[j]? = some x) : ofP g st sym = some ⟨g, j * 26, none⟩ := by
  subst hs
  have hlt := (List.getElem?_eq_some_iff.1 hx).1
  unfold ofP
  rw [if_pos (by omega)]
  simp
theorem ofP_no {g : Nat} {st : Wst} {sym : Int} (h : inSym st sym = false) : ofP g st sym = none := by
  unfold inSym at h
  unfold ofP
  rw [if_neg (by simpa using h)]
theorem inSym_at {st : Wst} {sym : Int} (h : inSym st sym = true) : ∃ (j : Nat) (x : Wk), sym = j ∧ st.l[j]? = some x := by
  simp only [inSym, decide_eq_true_eq] at h
  exact ⟨sym.toNat, st.l[sym.toNat]'(by omega), by omega, List.getElem?_eq_getElem _⟩
theorem inSym_of {st : Wst} {sym : Int} {j : Nat} {x : Wk} (hs : sym = j) (hx : st.l[j]? = some x) : inSym st sym = true := by
  have hlt := (List.getElem?_eq_some_iff.1 hx).1
  simp [inSym]
  omega
theorem knOf_at {st : Wst} {sym : Int} {j : Nat} {x : Wk} (hs : sym = j) (hx : st.l[j]? = some x) : knOf st sym = x.k := by
  subst hs
  simp [knOf, hx]
theorem knOf_no {st : Wst} {sym : Int} (h : inSym st sym = false) : knOf st sym = Know.zero := by
  simp only [inSym, decide_eq_false_iff_not] at h
  unfold knOf
  split
  · rw [List.getElem?_eq_none (by omega)]
  · rfl
theorem setW_at {l : List Wk} {sym : Int} {j : Nat} {x : Wk} {m : Msg} (hs : sym = j) (hx : l[j]? = some x) : setW l sym m = l.set j (x.put m) := by
  subst hs
  simp [setW, hx]
/-- Where a message is right, and is not of the whole market, its symbol is there. -/
theorem ckW_in {st : Wst} {m : Msg} (h : ckW st m = 0) (h2 : m.kind ≠ 2) (h9 : m.kind ≠ 9) : ∃ (j : Nat) (x : Wk), m.sym = j ∧ st.l[j]? = some x := by
  refine inSym_at ?_
  cases hi : inSym st m.sym with
  | true => rfl
  | false =>
    have hg : globalM m = false := by simp [globalM, h2, h9]
    unfold ckW at h
    rw [hi, hg] at h
    simp only [Bool.false_eq_true, if_false] at h
    split at h
    · split at h <;> cases h
    · cases h
theorem ckW_trade {st : Wst} {m : Msg} {j : Nat} {x : Wk} (h : ckW st m = 0) (h3 : m.kind = 3) (hs : m.sym = j) (hx : st.l[j]? = some x) : ∃ i : Nat, m.code = i ∧ 1 ≤ i ∧ i ≤ 3 := by
  unfold ckW at h
  rw [inSym_of hs hx, knOf_at hs hx] at h
  simp only [trM, h3, decide_true, if_true] at h
  split at h
  · split at h
    · cases h
    · unfold trF at h
      split at h
      · split at h
        · rename_i ho
          unfold openW at ho
          by_cases h1 : m.code = 1
          · exact ⟨1, h1, by omega, by omega⟩
          · by_cases h4 : m.code = 3
            · exact ⟨3, h4, by omega, by omega⟩
            · by_cases h5 : m.code = 2
              · exact ⟨2, h5, by omega, by omega⟩
              · simp [h1, h4, h5] at ho
        · cases h
      · cases h
  · cases h
theorem Wk.cells_tr {x : Wk} {o i : Nat} (ho : o = 22 + i) (hi : i < 4) : x.cells[o]? = some (.int .i64 (x.k.tr i)) := by
  subst ho
  rcases i with _ | _ | _ | _ | i <;> first | rfl | omega
theorem Know.cells_tr {k : Know} {o i : Nat} (ho : o = 6 + i) (hi : i < 4) : k.cells[o]? = some (.int .i64 (k.tr i)) := by
  subst ho
  rcases i with _ | _ | _ | _ | i <;> first | rfl | omega
theorem Wk.set_tr {x : Wk} {o i : Nat} {v : Int} (ho : o = 22 + i) (hi : i < 4) : x.cells.set o (.int .i64 v) = ({ x with k := x.k.setTr i v } : Wk).cells := by
  subst ho
  rcases i with _ | _ | _ | _ | i <;> first | rfl | omega
theorem Know.set_tr {k : Know} {o i : Nat} {v : Int} (ho : o = 6 + i) (hi : i < 4) : k.cells.set o (.int .i64 v) = (k.setTr i v).cells := by
  subst ho
  rcases i with _ | _ | _ | _ | i <;> first | rfl | omega
/-- The watch's block and row, as they are read. -/
def WatA (bw g n c : Nat) (st : Wst) (w : World) : Prop := Blk w bw [.slice (some ⟨g, 0, none⟩) n c, .int .i64 st.seq, .int .i64 st.tick] 143 ∧ RdS w (.slice (some ⟨g, 0, none⟩) n c) 26 (wks st.l)
theorem WatA.stab {bw g n c : Nat} {st : Wst} : Stab (WatA bw g n c st) := Stab.and Stab.blk (Stab.rd wks_ne)
/-- The program's rules, one behind the other. -/
def ckRules (st : Wst) (m : Msg) : Int :=
  if decide (m.seq = IntKind.i64.wrap (st.seq + 1)) then
    if !lateW st m.tick then
      if inSym st m.sym || globalM m then
        if !trM m || decide (1 ≤ m.qty) then
          if !trM m || openW (knOf st m.sym) m.code then
            if !trM m || inW (knOf st m.sym) m then 0 else 11
          else 10
        else 9
      else 5
    else 15
  else 4
theorem ckRules_eq (st : Wst) (m : Msg) : ckRules st m = ckW st m := by
  unfold ckRules ckW trF
  by_cases h1 : m.seq = IntKind.i64.wrap (st.seq + 1)
  · simp only [h1, decide_true, if_true]
    cases h2 : lateW st m.tick
    · simp only [Bool.not_false, if_true, Bool.false_eq_true, if_false]
      cases h3 : inSym st m.sym
      · simp only [Bool.false_or, Bool.false_eq_true, if_false]
        cases h4 : globalM m
        · simp
        · have h5 : trM m = false := by
            simp only [globalM, Bool.or_eq_true, decide_eq_true_eq] at h4
            simp [trM]
            omega
          simp [h5]
      · simp only [Bool.true_or, if_true]
        cases h5 : trM m <;> simp
    · simp
  · simp [h1]
end Go.Proofs.Ytipgdalebkhgpaa
namespace Go.Proofs.Ytipgdalebkhgpaa
open Go Go.RowKit Fw
theorem price_one {p : Int} (h : i64R p) : priceF p 1 = 0 ↔ 1 ≤ p ∧ p ≤ maxP := by
  unfold i64R at h
  unfold priceF maxP
  rw [if_neg (by omega)]
  split
  · omega
  · rw [downF_eq (by omega) (by omega) (by omega)]
    split <;> omega
end Go.Proofs.Ytipgdalebkhgpaa
namespace Go.Proofs.Ytipgdalebkhgpaa
open Go Go.RowKit Fw
theorem lateW_yes {st : Wst} {tick : Int} {i : Nat} {x : Wk} (hx : st.l[i]? = some x) (h : x.k.dl ≠ 0 ∧ x.k.dl < tick) : lateW st tick = true := by
  have : (st.l.any fun x => decide (x.k.dl ≠ 0 ∧ x.k.dl < tick)) = true := List.any_eq_true.2 ⟨x, List.mem_of_getElem? hx, by simpa using h⟩
  simp only [lateW, this, Bool.or_true]
theorem lateW_no {st : Wst} {tick : Int} (h1 : ¬ tick < st.tick) (h : ∀ (j : Nat) x, j < st.l.length → st.l[j]? = some x → ¬ (x.k.dl ≠ 0 ∧ x.k.dl < tick)) : lateW st tick = false := by
  have : (st.l.any fun x => decide (x.k.dl ≠ 0 ∧ x.k.dl < tick)) = false := by
    rw [List.any_eq_false]
    intro x hx
    obtain ⟨j, hj⟩ := List.getElem?_of_mem hx
    have := h j x (List.getElem?_eq_some_iff.1 hj).1 hj
    simpa using this
  simp only [lateW, this, Bool.or_false]
  exact decide_eq_false h1
end Go.Proofs.Ytipgdalebkhgpaa
