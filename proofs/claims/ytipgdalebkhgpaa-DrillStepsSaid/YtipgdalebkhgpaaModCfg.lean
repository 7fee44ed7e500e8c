/-
  Configurations in plain Lean.
-/
import Derived.Test.YtipgdalebkhgpaaModDrill
import Derived.Test.YtipgdalebkhgpaaFw23
set_option maxRecDepth 20000
namespace Go.Proofs.Ytipgdalebkhgpaa
open Go Go.RowKit Fw

def inB (n lo hi : Int) : Bool := decide (lo ≤ n ∧ n ≤ hi)
def allB (lo hi : Int) (l : List Int) : Bool := l.all fun n => inB n lo hi
theorem inB_iff {n lo hi : Int} : inB n lo hi = true ↔ lo ≤ n ∧ n ≤ hi := by simp [inB]
theorem inB_no {n lo hi : Int} : inB n lo hi = false ↔ ¬ (lo ≤ n ∧ n ≤ hi) := by simp [inB]
theorem allB_of {lo hi : Int} {l : List Int} : findI (fun n => decide (n < lo) || decide (hi < n)) l < 0 ↔ allB lo hi l = true := by
  unfold findI allB
  cases hf : l.findIdx? (fun n => decide (n < lo) || decide (hi < n)) with
  | none =>
    rw [List.findIdx?_eq_none_iff] at hf
    simp only [List.all_eq_true]
    refine ⟨fun _ x hx => ?_, fun _ => by decide⟩
    have := hf x hx
    simp at this
    rw [inB_iff]
    omega
  | some i =>
    obtain ⟨hlt, hp, _⟩ := List.findIdx?_eq_some_iff_getElem.1 hf
    simp only [List.all_eq_true]
    refine ⟨fun h => by omega, fun h => ?_⟩
    have := h _ (List.getElem_mem hlt)
    rw [inB_iff] at this
    simp at hp
    omega
abbrev maxP : Int := 1099511627776
def downF (p g : Int) : Int := if p < 0 ∨ g < 1 then 0 else IntKind.i64.wrap (IntKind.i64.wrap (p.tdiv g) * g)
def priceF (p g : Int) : Int := if g < 1 then 1 else if p < 1 ∨ maxP < p then 9 else if downF p g ≠ p then 8 else 0
theorem i64_in (n : Int) (h : -9223372036854775808 ≤ n ∧ n ≤ 9223372036854775807) : IntKind.i64.wrap n = n := by
  unfold IntKind.wrap
  simp [IntKind.signed, IntKind.bits]
  omega
theorem downF_eq {p g : Int} (h0 : 0 ≤ p) (h1 : p ≤ 9223372036854775807) (hg : 1 ≤ g) : downF p g = p - p % g := by
  unfold downF
  rw [if_neg (by omega), Int.tdiv_eq_ediv_of_nonneg h0]
  have h2 := Int.ediv_nonneg h0 (by omega : 0 ≤ g)
  have h3 := Int.ediv_le_self g h0
  rw [i64_in (p / g) (by omega)]
  have h4 : p / g * g = p - p % g := by
    have := Int.ediv_mul_add_emod p g
    omega
  rw [h4]
  have h5 := Int.emod_nonneg p (by omega : g ≠ 0)
  have h6 := Int.emod_lt_of_pos p (by omega : 0 < g)
  have h7 : 0 ≤ p / g * g := Int.mul_nonneg h2 (by omega)
  exact i64_in _ (by omega)
theorem priceF_zero {p g : Int} (hp : inB p 1 maxP = true) (hg : inB g 1 maxP = true) : priceF p g = 0 ↔ p.tmod g = 0 := by
  rw [inB_iff] at hp hg
  unfold maxP at hp hg
  unfold priceF maxP
  rw [if_neg (by omega), if_neg (by omega), downF_eq (by omega) (by omega) (by omega), Int.tmod_eq_emod_of_nonneg (by omega)]
  split <;> omega
def part (n : Int) : Bool := inB n 0 9999
def ticksB (n : Int) : Bool := inB n 1 maxP
/-- What is wrong first with a symbol. -/
def symFault (s : Sym) : Int :=
  if inB s.grid 1 maxP && inB s.ref 1 maxP then
    if s.ref.tmod s.grid = 0 then
      if part s.static && part s.dyn && part s.move && part s.collar && part s.widen && part s.short then
        if ticksB s.window && ticksB s.limit && ticksB s.pause && ticksB s.ext && inB s.maxExt 0 10 && inB s.self_ 0 3 && inB s.slots 1 500 && inB s.levels 1 200 then
          if s.dyn ≤ s.static then 0 else 11
        else 9
      else 9
    else 8
  else 9
/-- A rule: a function value, the fault, whether it holds. -/
structure Rul where
  f : FuncId
  caps : List Value
  fault : Int
  ok : Bool
def Rul.cells (r : Rul) : List Value := [.func (.func r.f) #[] r.caps.toArray, .int .i64 r.fault]
def ruls (l : List Rul) : List (List Value) := l.map Rul.cells
theorem ruls_get {l : List Rul} {i : Nat} {x : Rul} (h : l[i]? = some x) : (ruls l)[((i : Nat) : Int).toNat]? = some x.cells := by simp [ruls, h]
theorem ruls_ne {l : List Rul} : ∀ x, x ∈ ruls l → x ≠ [] := map_ne fun _ => List.cons_ne_nil _ _
theorem ruls_len {l : List Rul} : (ruls l).length = l.length := by simp [ruls]
def firstFault : List Rul → Int
  | [] => 0
  | r :: l => if r.ok then firstFault l else r.fault
theorem firstFault_at : ∀ {l : List Rul} {i : Nat} {x : Rul}, l[i]? = some x → x.ok = false → (∀ j y, j < i → l[j]? = some y → y.ok = true) → firstFault l = x.fault
  | [], i, x, h, _, _ => by simp at h
  | r :: l, 0, x, h, hx, _ => by
    simp at h
    subst h
    simp [firstFault, hx]
  | r :: l, i + 1, x, h, hx, hb => by
    have h0 := hb 0 r (by omega) rfl
    simp only [firstFault, h0, if_true]
    exact firstFault_at (by simpa using h) hx fun j y hj hy => hb (j + 1) y (by omega) (by simpa using hy)
theorem firstFault_none : ∀ {l : List Rul}, (∀ (j : Nat) y, l[j]? = some y → y.ok = true) → firstFault l = 0
  | [], _ => rfl
  | r :: l, h => by
    have h0 := h 0 r rfl
    simp only [firstFault, h0, if_true]
    exact firstFault_none fun j y hy => h (j + 1) y (by simpa using hy)
/-- What is wrong first with a symbol, by the program's rules. -/
def symRules (s : Sym) : Int :=
  if allB 1 maxP [s.grid, s.ref] then
    if decide (priceF s.ref s.grid = 0) then
      if allB 0 9999 [s.static, s.dyn, s.move, s.collar, s.widen, s.short] then
        if allB 1 maxP [s.window, s.limit, s.pause, s.ext] then
          if allB 0 10 [s.maxExt] && allB 0 3 [s.self_] then
            if allB 1 500 [s.slots] && allB 1 200 [s.levels] then
              if decide (s.dyn ≤ s.static) then 0 else 11
            else 9
          else 9
        else 9
      else 9
    else 8
  else 9
theorem symRules_eq (s : Sym) : symRules s = symFault s := by
  unfold symRules symFault
  simp only [allB, List.all_cons, List.all_nil, Bool.and_true]
  by_cases h1 : (inB s.grid 1 maxP && inB s.ref 1 maxP) = true
  · rw [if_pos h1, if_pos h1]
    rw [Bool.and_eq_true] at h1
    have hp := priceF_zero h1.2 h1.1
    by_cases h2 : s.ref.tmod s.grid = 0
    · rw [if_pos h2, if_pos (by simpa using hp.2 h2)]
      simp only [part, ticksB, Bool.and_assoc]
      split
      · cases ha : inB s.window 1 maxP <;> cases hb : inB s.limit 1 maxP <;> cases hc : inB s.pause 1 maxP <;> cases hd : inB s.ext 1 maxP <;> cases he : inB s.maxExt 0 10 <;> cases hf : inB s.self_ 0 3 <;> simp
      · rfl
    · rw [if_neg h2, if_neg (by simpa using fun h => h2 (hp.1 h))]
  · rw [if_neg h1, if_neg h1]
def syms (l : List Sym) : List (List Value) := l.map Sym.cells
theorem syms_get {l : List Sym} {i : Nat} {x : Sym} (h : l[i]? = some x) : (syms l)[((i : Nat) : Int).toNat]? = some x.cells := by simp [syms, h]
theorem syms_ne {l : List Sym} : ∀ x, x ∈ syms l → x ≠ [] := map_ne fun _ => List.cons_ne_nil _ _
theorem syms_len {l : List Sym} : (syms l).length = l.length := by simp [syms]
/-- A configuration but for its lists. -/
structure Cfg where
  syms : List Sym
  rows : List TRow
  (index f0 f1 f2 h0 h1 : Int)
/-- The first number below n of which g is not 0. -/
def scanN (n : Nat) (g : Nat → Int) : Option Nat := (List.range n).find? fun i => g i != 0
theorem scanN_at {n i : Nat} {g : Nat → Int} (hi : i < n) (h : g i ≠ 0) (hb : ∀ j, j < i → g j = 0) : scanN n g = some i := by
  unfold scanN
  rw [List.find?_range_eq_some]
  refine ⟨by simpa using h, by simpa using hi, fun j hj => by simpa using hb j hj⟩
theorem scanN_none {n : Nat} {g : Nat → Int} (hb : ∀ j, j < n → g j = 0) : scanN n g = none := by
  unfold scanN
  rw [List.find?_eq_none]
  intro x hx
  simpa using hb x (by simpa using hx)
def symG (l : List Sym) (i : Nat) : Int := match l[i]? with | some s => symFault s | none => 0
def prevAt (l : List TRow) (i : Nat) : Int := if i = 0 then -1 else match l[i - 1]? with | some p => p.at_ | none => -1
/-- What is wrong with row i of a table. -/
def rowG (l : List TRow) (i : Nat) : Int :=
  match l[i]? with
  | some r => if r.at_ ≤ prevAt l i ∨ 1125899906842624 < r.at_ then 9 else if inB r.phase 0 2 then 0 else 10
  | none => 0
def fallsB (c : Cfg) : Bool := allB 1 9999 [c.f0, c.f1, c.f2] && decide (c.f0 < c.f1) && decide (c.f1 < c.f2)
def restF (c : Cfg) : Int := if inB c.index 1 maxP then if fallsB c then if inB c.h0 1 maxP && inB c.h1 1 maxP then 0 else 9 else 9 else 9
def tableF (l : List TRow) : Int × Int :=
  if inB l.length 1 20 then (match scanN l.length (rowG l) with | some i => (rowG l i, (i : Int)) | none => (0, 0)) else (9, 0)
/-- What is wrong first with a configuration, and where. -/
def cfgFault (c : Cfg) : Int × Int :=
  if inB c.syms.length 1 8 then
    match scanN c.syms.length (symG c.syms) with
    | some i => (symG c.syms i, (i : Int))
    | none => if (tableF c.rows).1 ≠ 0 then tableF c.rows else (restF c, 0)
  else (9, 0)
def boundF (s : Sym) : Int := if symFault s ≠ 0 then 0 else IntKind.i64.wrap (s.pause + IntKind.i64.wrap (s.ext * IntKind.i64.wrap (s.maxExt + 1)))
end Go.Proofs.Ytipgdalebkhgpaa
namespace Go.Proofs.Ytipgdalebkhgpaa
open Go Go.RowKit Fw
theorem restF_eq (c : Cfg) : (if allB 1 maxP [c.index] = true then if fallsB c = true then if allB 1 maxP [c.h0, c.h1] = true then 0 else 9 else 9 else (9 : Int)) = restF c := by
  unfold restF
  simp only [allB, List.all_cons, List.all_nil, Bool.and_true]
theorem symG_at {l : List Sym} {i : Nat} {s : Sym} (h : l[i]? = some s) : symG l i = symFault s := by simp [symG, h]
theorem rowG_at {l : List TRow} {i : Nat} {x : TRow} (h : l[i]? = some x) : rowG l i = if x.at_ ≤ prevAt l i ∨ 1125899906842624 < x.at_ then 9 else if inB x.phase 0 2 then 0 else 10 := by simp [rowG, h]
theorem prevAt_succ {l : List TRow} {i : Nat} {x : TRow} (h : l[i]? = some x) : prevAt l (i + 1) = x.at_ := by simp [prevAt, h]
/-- Where all rows ahead are right, the ones behind are not below 0. -/
theorem prevAt_ge {l : List TRow} {i : Nat} (hb : ∀ j, j < i → rowG l j = 0) : -1 ≤ prevAt l i := by
  induction i with
  | zero => simp [prevAt]
  | succ i ih =>
    have h1 := ih fun j hj => hb j (by omega)
    have h2 := hb i (by omega)
    cases hx : l[i]? with
    | none => simp [prevAt, hx]
    | some x =>
      rw [prevAt_succ hx]
      rw [rowG_at hx] at h2
      split at h2
      · cases h2
      · omega
theorem cfgFault_len {c : Cfg} (h : inB c.syms.length 1 8 = false) : cfgFault c = (9, 0) := by simp [cfgFault, h]
theorem cfgFault_sym {c : Cfg} {i : Nat} {s : Sym} (h : inB c.syms.length 1 8 = true) (hi : c.syms[i]? = some s) (hf : symFault s ≠ 0) (hb : ∀ j, j < i → symG c.syms j = 0) : cfgFault c = (symFault s, (i : Int)) := by
  have hlt := (List.getElem?_eq_some_iff.1 hi).1
  simp only [cfgFault, h, if_true, scanN_at hlt (by rw [symG_at hi]; exact hf) hb, symG_at hi]
theorem cfgFault_table {c : Cfg} (h : inB c.syms.length 1 8 = true) (hb : ∀ j, j < c.syms.length → symG c.syms j = 0) (ht : (tableF c.rows).1 ≠ 0) : cfgFault c = tableF c.rows := by
  simp only [cfgFault, h, if_true, scanN_none hb, if_pos ht]
theorem cfgFault_rest {c : Cfg} (h : inB c.syms.length 1 8 = true) (hb : ∀ j, j < c.syms.length → symG c.syms j = 0) (ht : (tableF c.rows).1 = 0) : cfgFault c = (restF c, 0) := by
  simp only [cfgFault, h, if_true, scanN_none hb]
  rw [if_neg (fun h => h ht)]
theorem tableF_len {l : List TRow} (h : inB l.length 1 20 = false) : tableF l = (9, 0) := by simp [tableF, h]
theorem tableF_at {l : List TRow} {i : Nat} (h : inB l.length 1 20 = true) (hi : i < l.length) (hf : rowG l i ≠ 0) (hb : ∀ j, j < i → rowG l j = 0) : tableF l = (rowG l i, (i : Int)) := by
  simp only [tableF, h, if_true, scanN_at hi hf hb]
theorem tableF_none {l : List TRow} (h : inB l.length 1 20 = true) (hb : ∀ j, j < l.length → rowG l j = 0) : tableF l = (0, 0) := by
  simp only [tableF, h, if_true, scanN_none hb]
/-- The cells of a configuration whose lists are x, y. -/
def Cfg.cells (c : Cfg) (x y : Value) : List Value := [x, y, .int .i64 c.index, .int .i64 c.f0, .int .i64 c.f1, .int .i64 c.f2, .int .i64 c.h0, .int .i64 c.h1]
def Cfg.at (c : Cfg) (x y : Value) (w : World) : Prop := RdS w x 16 (Go.Proofs.Ytipgdalebkhgpaa.syms c.syms) ∧ RdS w y 2 (trows c.rows)
theorem Cfg.at_stab {c : Cfg} {x y : Value} : Stab (c.at x y) := Stab.and (Stab.rd syms_ne) (Stab.rd trows_ne)
def Cfg.fall (c : Cfg) (i : Nat) : Int := if i = 0 then c.f0 else if i = 1 then c.f1 else c.f2
def fallG (c : Cfg) (i : Nat) : Int := if inB (c.fall i) 1 9999 = false ∨ (0 < i ∧ c.fall i ≤ c.fall (i - 1)) then 9 else 0
theorem Cfg.cells_fall {c : Cfg} {x y : Value} {o i : Nat} (ho : o = 3 + i) (hi : i < 3) : (c.cells x y)[o]? = some (.int .i64 (c.fall i)) := by
  subst ho
  rcases i with _ | _ | _ | i
  · rfl
  · rfl
  · rfl
  · omega
theorem falls_iff {c : Cfg} : fallsB c = true ↔ ∀ j, j < 3 → fallG c j = 0 := by
  have h0 : fallG c 0 = 0 ↔ inB c.f0 1 9999 = true := by simp [fallG, Cfg.fall]
  have h1 : fallG c 1 = 0 ↔ inB c.f1 1 9999 = true ∧ c.f0 < c.f1 := by simp [fallG, Cfg.fall]
  have h2 : fallG c 2 = 0 ↔ inB c.f2 1 9999 = true ∧ c.f1 < c.f2 := by simp [fallG, Cfg.fall]
  simp only [fallsB, allB, List.all_cons, List.all_nil, Bool.and_true, Bool.and_eq_true, decide_eq_true_eq]
  constructor
  · rintro ⟨⟨⟨a, b, d⟩, e⟩, f⟩ j hj
    rcases j with _ | _ | _ | j
    · exact h0.2 a
    · exact h1.2 ⟨b, e⟩
    · exact h2.2 ⟨d, f⟩
    · omega
  · intro h
    have a := h0.1 (h 0 (by omega))
    have b := h1.1 (h 1 (by omega))
    have d := h2.1 (h 2 (by omega))
    exact ⟨⟨⟨a, b.1, d.1⟩, b.2⟩, d.2⟩
theorem falls_no {c : Cfg} {j : Nat} (hj : j < 3) (h : fallG c j ≠ 0) : fallsB c = false := by
  cases hf : fallsB c with
  | false => rfl
  | true => exact absurd (falls_iff.1 hf j hj) h
def lightC (c : Cfg) : Bool := decide (c.syms.length ≤ 20) && decide (c.rows.length ≤ 40)
end Go.Proofs.Ytipgdalebkhgpaa
