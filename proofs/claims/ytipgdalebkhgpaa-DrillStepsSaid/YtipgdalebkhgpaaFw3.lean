/-
  The regions that draw their order: one order of our own ('compD': what only reads as early as it can; behind what acts, what was read is asked again), and that every order comes to the same.
-/
import Derived.Test.YtipgdalebkhgpaaFw2
namespace Go.Proofs.Ytipgdalebkhgpaa.Fw
open Go Go.RowKit

/-! ### What lies ahead of what -/
def bfOne (acc : List Nat) (o : Oper) : Nat :=
  o.after.toList.foldl (fun s e => bif Region.binds .any e then s ||| (2 ^ e.on ||| acc.getD e.on 0) else s) 0
def bfGo : List Nat → List Oper → List Nat
  | acc, [] => acc
  | acc, o :: r => bfGo (acc ++ [bfOne acc o]) r
def bf (ops : Array Oper) : List Nat := bfGo [] ops.toList

/-- A set of operations that holds, with each, all that it waits for. -/
def Closed (ops : Array Oper) (D : Nat → Prop) : Prop := ∀ i o, ops[i]? = some o → D i → ∀ e, e ∈ o.after.toList → Region.binds .any e = true → D e.on

theorem bfOne_sound {D : Nat → Prop} {acc : List Nat} (hacc : ∀ i m, acc[i]? = some m → D i → ∀ j, m.testBit j = true → D j) (o : Oper)
    (ho : ∀ e, e ∈ o.after.toList → Region.binds .any e = true → D e.on) (j : Nat) (hj : (bfOne acc o).testBit j = true) : D j := by
  unfold bfOne at hj
  generalize hl : o.after.toList = l at hj ho
  clear hl
  have key : ∀ (l : List Edge) (s : Nat), (∀ j, s.testBit j = true → D j) → (∀ e, e ∈ l → Region.binds .any e = true → D e.on) →
      ∀ j, (l.foldl (fun s e => bif Region.binds .any e then s ||| (2 ^ e.on ||| acc.getD e.on 0) else s) s).testBit j = true → D j := by
    intro l
    induction l with
    | nil => intro s hs _ j hj; exact hs j hj
    | cons e r ih =>
      intro s hs he j hj
      rw [List.foldl_cons] at hj
      refine ih _ ?_ (fun e' he' => he e' (List.mem_cons_of_mem _ he')) j hj
      intro j hj
      cases hb : Region.binds .any e with
      | false => rw [hb] at hj; exact hs j hj
      | true =>
        rw [hb, cond_true, Nat.testBit_or, Nat.testBit_or] at hj
        have hon := he e List.mem_cons_self hb
        simp only [Bool.or_eq_true] at hj
        rcases hj with hj | hj | hj
        · exact hs j hj
        · rw [Nat.testBit_two_pow] at hj
          simp at hj
          exact hj ▸ hon
        · cases hx : acc[e.on]? with
          | none => simp [List.getD_eq_getElem?_getD, hx] at hj
          | some m =>
            rw [List.getD_eq_getElem?_getD, hx, Option.getD_some] at hj
            exact hacc _ _ hx hon j hj
  exact key l 0 (fun j hj => by simp at hj) ho j hj

theorem bfGo_sound {D : Nat → Prop} : ∀ (lo : List Oper) (acc : List Nat), (∀ i m, acc[i]? = some m → D i → ∀ j, m.testBit j = true → D j) →
    (∀ i o, lo[i]? = some o → D (acc.length + i) → ∀ e, e ∈ o.after.toList → Region.binds .any e = true → D e.on) →
    ∀ i m, (bfGo acc lo)[i]? = some m → D i → ∀ j, m.testBit j = true → D j
  | [], acc, hacc, _ => hacc
  | o :: r, acc, hacc, ho => by
    refine bfGo_sound r _ ?_ ?_
    · intro i m hi hD j hj
      by_cases hlt : i < acc.length
      · rw [List.getElem?_append_left hlt] at hi
        exact hacc i m hi hD j hj
      · rw [List.getElem?_append_right (by omega)] at hi
        have h0 : i - acc.length = 0 := by
          cases hz : i - acc.length with
          | zero => rfl
          | succ k => rw [hz] at hi; simp at hi
        rw [h0] at hi
        simp at hi
        subst hi
        have hi' : i = acc.length + 0 := by omega
        exact bfOne_sound hacc o (ho 0 o rfl (hi' ▸ hD)) j hj
    · intro i o' hi hD
      refine ho (i + 1) o' (by simpa using hi) ?_
      have e : (acc ++ [bfOne acc o]).length + i = acc.length + (i + 1) := by simp; omega
      exact e ▸ hD

theorem bf_sound {ops : Array Oper} {D : Nat → Prop} (hD : Closed ops D) {i m : Nat} (hi : (bf ops)[i]? = some m) (h : D i) : ∀ j, m.testBit j = true → D j :=
  bfGo_sound (D := D) ops.toList [] (fun i m h => by simp at h) (fun i o ho hd => hD i o (by simpa using ho) (by simpa using hd)) i m hi h

theorem bfGo_length : ∀ (lo : List Oper) (acc : List Nat), (bfGo acc lo).length = acc.length + lo.length
  | [], acc => rfl
  | o :: r, acc => by rw [bfGo, bfGo_length r]; simp; omega

/-! ### One row an operation: its number, the operation, what lies ahead, whether it only reads -/
structure Row where
  i : Nat
  o : Oper
  b : Nat
  q : Bool

def quietOp : Op → Bool
  | .move _ | .assign _ | .makeFunc .. | .pick .. | .build .. | .convert .. | .load .. | .nilCheck _ | .binOp .. | .unOp .. | .slice .. | .fieldAddr .. | .field .. | .indexAddr .. | .index .. | .lookup .. | .extract .. => true
  | .call ⟨.builtin b, _, _⟩ => match b with | .len | .cap | .max | .min => true | _ => false
  | _ => false
/-- It hangs on nothing but its operands. -/
def pureOp : Op → Bool
  | .move _ | .assign _ | .makeFunc .. => true
  | _ => false

def looks (ops : Array Oper) (o : Oper) : List Nat := o.looksAt ops
/-- May it be taken as early as its operands are there: nobody writes its slot but it, and who looks at its slot comes behind. -/
def freeQ (ops : Array Oper) (bs : List Nat) (i : Nat) (o : Oper) : Bool :=
  quietOp o.op &&
  match o.dst with
  | none => true
  | some d => ops.toList.zipIdx.all fun p => (bif Nat.beq p.2 i then !memN d (looks ops p.1) else (match p.1.dst with | some x => !Nat.beq x d | none => true) && (!memN d (looks ops p.1) || (bs.getD p.2 0).testBit i))

def rows (ops : Array Oper) : List Row :=
  let bs := bf ops
  ops.toList.zipIdx.map fun p => ⟨p.2, p.1, bs.getD p.2 0, freeQ ops bs p.2 p.1⟩

/-- What acts and what only reads: the slot that the one writes is none that the other looks at, or one waits for the other. -/
def okLoud (ops : Array Oper) (rs : List Row) : Bool :=
  rs.all fun x => x.q || rs.all fun y => !y.q || (match x.o.dst with
    | none => true
    | some d => !memN d (looks ops y.o) || y.b.testBit x.i || x.b.testBit y.i)
def okEdges (ops : Array Oper) : Bool := ops.toList.zipIdx.all fun p => p.1.after.toList.all fun e => !Region.binds .any e || Nat.blt e.on p.2

/-- What was read and may still have to come: whose it is, its guard, what it runs, what it gave. -/
structure Pd where
  i : Nat
  g : Option (Value × Bool)
  s : Sem Next
  v : Value

def sub (b m : Nat) : Bool := Nat.beq (b &&& m) b

def chks : List Pd → Prog → Prog
  | [], p => p
  | x :: r, p => .chk x.g x.s x.v (chks r p)

/-- An operation that only reads, taken early. -/
def compQ (N : Nat) (ops : Array Oper) (i : Nat) (o : Oper) (e : Env) (k : Env → Option Pd → Prog) : Prog :=
  bif okDst N o.dst && o.op.operands.toList.all e.knows then
    match nodeOf e.val o.op o.type with
    | none => .fail
    | some nd =>
      match o.guard with
      | none =>
        match nd with
        | .pure v => k (e.put o.dst v) none
        | .sem _ s => .op true s fun v => k (e.put o.dst v) (some ⟨i, none, s, v⟩)
      | some (j, want) =>
        match (ops[j]?).bind (·.dst) with
        | none => .fail
        | some d =>
          match e.get d with
          | none => .fail
          | some g =>
            match nd with
            | .pure v => .gop g want true (pure (.value v)) fun v => k (e.put o.dst v) none
            | .sem _ s => .gop g want true s fun v => k (e.put o.dst v) (some ⟨i, some (g, want), s, v⟩)
  else .fail

def findQ (m : Nat) : List Row → Option Row
  | [] => none
  | x :: r => bif x.q && !m.testBit x.i && sub x.b m then some x else findQ m r
def findL (m : Nat) : List Row → List Row
  | [] => []
  | x :: r => bif !x.q && !m.testBit x.i && sub x.b m then x :: findL m r else findL m r
def allIn (m : Nat) : List Row → Bool
  | [] => true
  | x :: r => m.testBit x.i && allIn m r
def putPd : Option Pd → List Pd → List Pd
  | none, l => l
  | some p, l => p :: l

/-- Whichever of them comes first. -/
def altP (g : Row → Prog) : List Row → Prog
  | [] => .fail
  | [x] => g x
  | x :: r => .alt (g x) (altP g r)
theorem altP_mem {P : Program} {r : Option Nat} {Ds : List Nat} {Q : List Nat → Ex → List Value → World → Prop} {w : World} {g : Row → Prog} {x : Row} : ∀ {l : List Row}, x ∈ l → (altP g l).wp P r Ds Q w → (g x).wp P r Ds Q w
  | [y], hx, h => by
    cases hx with
    | head => exact h
    | tail _ hx => cases hx
  | y :: z :: l, hx, h => by
    cases hx with
    | head => exact h.1
    | tail _ hx => exact altP_mem hx h.2

def compD (N : Nat) (ops : Array Oper) (rs : List Row) : Nat → Nat → List Pd → Env → (Env → Prog) → Prog
  | 0, m, _, e, k => bif allIn m rs then k e else .fail
  | f + 1, m, pd, e, k =>
    match findQ m rs with
    | some x => compQ N ops x.i x.o e fun e' p => compD N ops rs f (m ||| 2 ^ x.i) (putPd p pd) e' k
    | none =>
      match findL m rs with
      | [] => bif allIn m rs then k e else .fail
      | x :: l => altP (fun x =>
        compOp N ops x.o e fun e' => chks (pd.filter fun p => !x.b.testBit p.i) (compD N ops rs f (m ||| 2 ^ x.i) (pd.filter fun p => !x.b.testBit p.i) e' k)) (x :: l)

def compDraw (N : Nat) (ops : Array Oper) (e : Env) (k : Env → Prog) : Prog :=
  let rs := rows ops
  bif okLoud ops rs && okEdges ops then compD N ops rs ops.size 0 [] e k else .fail
end Go.Proofs.Ytipgdalebkhgpaa.Fw
