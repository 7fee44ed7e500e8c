/-
  A function's code as a term with bound variables in the place of slots ('Prog'), made from the code by 'comp'; what a Prog achieves ('Prog.wp'); and that the code achieves it ('comp_sound').
-/
import Derived.RangeFuncNested
import Derived.OrdersIn
import Derived.KernelRfl
namespace Go.Proofs.Ytipgdalebkhgpaa.Fw
open Go Go.RowKit

/-- How a piece of code is left. -/
inductive Ex where
  | normal
  | exit (id : Nat)
  | ret

def Ex.code : Ex → Code
  | .normal => .skip
  | .exit id => .exit id
  | .ret => .ret

inductive Prog where
  | done (x : Ex) (vs : List Value)
  | op (q : Bool) (s : Sem Next) (k : Value → Prog)
  | gop (g : Value) (want q : Bool) (s : Sem Next) (k : Value → Prog)
  | chk (g : Option (Value × Bool)) (s : Sem Next) (v : Value) (p : Prog)
  | ite (c : Value) (t e : Prog)
  | bind (p : Prog) (k : List Value → Prog)
  | block (id : Nat) (p : Prog)
  | loop (vs : List Value) (body : List Value → Prog)
  | rangeF (f : Value) (n : Nat) (body : List Value → Prog) (k : Ex → Prog)
  | begin (p : Prog)
  | draw (p : Prog)
  | alt (p q : Prog)
  | fail

def exK (n r : Prog) (x : Nat → Prog) : Ex → Prog
  | .normal => n
  | .ret => r
  | .exit id => x id

/-- A loop's record in a state. -/
def lp (L : Loop) (s : LoopState) (j : Option Code) : Obj := .loop { L with state := s, pending := j }

def vS (s : Sem Value) : Sem Next := do pure (.value (← s))
def uS (s : Sem Unit) : Sem Next := do s; pure .skip
def callS (f : Value) (args : List Value) : Sem Next := do let d ← Deferred.ofValue f args.toArray; invoke d.target d.args
def nilS (v : Value) : Sem Next :=
    match v with
    | .pointer none | .nilIface | .nilFunc => runtimePanic .nilDeref
    | .func (.method name) first captured =>
      match (first[0]? : Option Value) with
      | some .nilIface => runtimePanic .nilDeref
      | some (.iface t w) => do
        if (← nilAhead ((← program).types.size + Made.depth) t w name) != some false then
          unsupported (.noEntry "op/nilCheck.the method's receiver behind this interface value is a nil pointer, or cannot be seen to be none, and the arguments act or may panic (ledger 612)")
        pure (.value (.func (.method name) first captured))
      | _ => pure (.value (.func (.method name) first captured))
    | x => pure (.value x)
def binS (op : BinOp) (t : TypeId) (x y : Operand) (a b : Value) : Sem Next := vS (do eqGuard op t x y a b; binOp op t a b)
def pickS (c a b : Value) : Sem Next := do pure (.value (if ← asBool c then a else b))
def bltS (b : Builtin) (argTypes : Array TypeId) (type : TypeId) (consts : Array Bool) (args : List Value) : Sem Next := builtin b argTypes type consts args.toArray

def isB (g : Value) (b : Bool) : Bool := match g with | .bool c => c == b | _ => false

/-- What an operation comes to. -/
def opU (P : Program) (R : Value → World → Prop) : Result Next → Prop
  | .ok (.value v) w => R v w
  | .ok .skip w => R undef w
  | .ok (.enter f args) w => Calls P f args w fun e w' => ∃ v, e = .returned v ∧ R v w'
  | .ok (.round l f tmps assign body) w => RoundIn Fence.wide 0 P l f tmps assign body w fun e w' => ∃ v, e = .returned v ∧ R v w'
  | _ => False

/-- An operation that leaves the world alone (q), or any. -/
def opW (P : Program) (q : Bool) (s : Sem Next) (R : Value → World → Prop) (w : World) : Prop :=
  bif q then ∃ v, s.run P w = .ok (.value v) w ∧ R v w else opU P R (s.run P w)

def Prog.wp (P : Program) : Prog → Option Nat → List Nat → (List Nat → Ex → List Value → World → Prop) → World → Prop
  | .done x vs, _, Ds, Q, w => Q Ds x vs w
  | .op q s k, r, Ds, Q, w => opW P q s (fun v w' => (k v).wp P r Ds Q w') w
  | .gop g want q s k, r, Ds, Q, w => (isB g want = true → opW P q s (fun v w' => (k v).wp P r Ds Q w') w) ∧ (isB g want = false → (k undef).wp P r Ds Q w)
  | .chk g s v p, r, Ds, Q, w => ((∀ x b, g = some (x, b) → isB x b = true) → s.run P w = .ok (.value v) w) ∧ p.wp P r Ds Q w
  | .ite c t e, r, Ds, Q, w => ∃ b, c = .bool b ∧ (b = true → t.wp P r Ds Q w) ∧ (b = false → e.wp P r Ds Q w)
  | .bind p k, r, Ds, Q, w => p.wp P r Ds (fun Ds' x vs w' => match x with | .normal => (k vs).wp P r Ds' Q w' | x => Q Ds' x vs w') w
  | .block id p, r, Ds, Q, w => p.wp P r Ds (fun Ds' x vs w' => match x with | .exit id' => (id' = id → Q Ds' .normal vs w') ∧ (id' ≠ id → Q Ds' (.exit id') vs w') | x => Q Ds' x vs w') w
  | .loop vs body, r, Ds, Q, w => ∃ I : Nat → List Nat → List Value → World → Prop, (∃ n, I n Ds vs w) ∧ ∀ n Ds vs w, I n Ds vs w →
      (body vs).wp P r Ds (fun Ds' x vs' w' => match x with | .normal => ∃ m, m < n ∧ I m Ds' vs' w' | x => Q Ds' x vs' w') w
  | .rangeF f n body k, r, Ds, Q, w =>
      ∃ gf lb, f = .func (.func gf) #[] lb ∧ (∀ args w, (callFunc gf args).run P w = .ok (.enter gf args) w) ∧
      (∀ l0, r = some l0 → ∃ rc, w.heap[l0]? = some (.loop rc)) ∧
      ∀ (l D : Nat) (w1 : World) (L : Loop), Below w.heap.size w w1 → w.heap.size ≤ l → w1.heap.size = (match r with | none => w.heap.size + 2 | some _ => w.heap.size + 1) →
        (r = none → w.heap.size ≤ D ∧ D ≠ l ∧ w1.heap[D]? = some (.deferred (some []))) → w1.heap[l]? = some (lp L .ready none) →
        (∀ vs w R, vs.length = n → w.heap[l]? = some (lp L .ready none) →
            (body vs).wp P (some l) Ds (fun _ x _ w' => w'.heap[l]? = some (lp L .busy none) ∧
              (match x with | .normal => R (.bool true) (w'.putObj l (lp L .ready none)) | x => R (.bool false) (w'.putObj l (lp L .done (some x.code))))) w →
            opU P R ((Instr.yield l vs.toArray).run P w)) →
        Calls P gf (#[.func (.yield l) #[] #[]] ++ lb) w1 fun e w3 => ∃ v, e = .returned v ∧
          ((w3.heap[l]? = some (lp L .ready none) ∧ (k .normal).wp P r (match r with | none => D :: Ds | some _ => Ds) Q (w3.putObj l (lp L .exhausted none))) ∨
           ∃ x : Ex, x.code ≠ .skip ∧ w3.heap[l]? = some (lp L .done (some x.code)) ∧ (k x).wp P r (match r with | none => D :: Ds | some _ => Ds) Q (w3.putObj l (lp L .exhausted (some x.code))))
  | .begin p, r, Ds, Q, w => ∃ l L, r = some l ∧ w.heap[l]? = some (lp L .ready none) ∧ p.wp P r Ds Q (w.putObj l (lp L .busy none))
  | .draw p, r, Ds, Q, w => ∀ d, p.wp P r Ds Q { w with drawn := d }
  | .alt p q, r, Ds, Q, w => p.wp P r Ds Q w ∧ q.wp P r Ds Q w
  | .fail, _, _, _, _ => False

/-! ### The slots' values, as far as they are known -/
abbrev Env := List (Nat × Value)
def Env.get : Env → Nat → Option Value
  | [], _ => none
  | (a, v) :: r, t => bif Nat.beq a t then some v else Env.get r t
def Env.val (e : Env) : Operand → Value
  | .tmp t => (e.get t).getD undef
  | .const v => v
  | .global g => .pointer (some ⟨g, 0, none⟩)
  | .func f => .func (.func f) #[] #[]
def Env.knows (e : Env) : Operand → Bool
  | .tmp t => (e.get t).isSome
  | _ => true
def Env.put (e : Env) : Option Nat → Value → Env
  | none, _ => e
  | some d, v => (d, v) :: e
def memN (t : Nat) : List Nat → Bool
  | [] => false
  | a :: r => bif Nat.beq a t then true else memN t r
theorem beq_ne {a t : Nat} (h : a ≠ t) : Nat.beq a t = false := by
  cases hb : Nat.beq a t with
  | false => rfl
  | true => exact absurd (Nat.eq_of_beq_eq_true hb) h
def Env.forget (e : Env) (W : List Nat) : Env := e.filter fun p => !memN p.1 W
def Env.vals (e : Env) : List Nat → Option (List Value)
  | [] => some []
  | t :: r => match e.get t, e.vals r with
    | some v, some vs => some (v :: vs)
    | _, _ => none
def Env.lay (e : Env) : List Nat → List Value → Env
  | t :: r, vs => (t, vs.headD undef) :: Env.lay e r vs.tail
  | [], _ => e

structure EnvOk (N : Nat) (e : Env) (a : Act) : Prop where
  size : a.tmps.size = N
  get : ∀ t v, e.get t = some v → a.tmps.getD t undef = v

theorem memN_iff (t : Nat) (l : List Nat) : memN t l = true ↔ t ∈ l := by
  induction l with
  | nil => simp [memN]
  | cons a r ih =>
    by_cases h : a = t
    · subst h; simp [memN]
    · have hb : Nat.beq a t = false := beq_ne h
      have h' : ¬ t = a := fun e => h e.symm
      simp [memN, hb, ih, h']

theorem EnvOk.val {N : Nat} {e : Env} {a : Act} (h : EnvOk N e a) (x : Operand) (hx : e.knows x = true) : a.eval x = e.val x := by
  cases x with
  | tmp t =>
    simp only [Env.knows, Option.isSome_iff_exists] at hx
    obtain ⟨v, hv⟩ := hx
    simp only [Act.eval, Env.val, hv, Option.getD_some]
    exact h.get t v hv
  | _ => rfl

theorem getD_set (xs : Array Value) (d t : Nat) (v : Value) (hd : d < xs.size) : (xs.setIfInBounds d v).getD t undef = if t = d then v else xs.getD t undef := by
  by_cases h : t = d
  · subst h
    simp [hd]
  · rw [if_neg h]
    simp [Array.getElem?_setIfInBounds_ne (fun e => h e.symm)]

theorem EnvOk.put {N : Nat} {e : Env} {a : Act} (h : EnvOk N e a) (d : Option Nat) (v : Value) (hd : ∀ x, d = some x → x < N) : EnvOk N (e.put d v) (a.put d v) := by
  cases d with
  | none => exact h
  | some d =>
    have hd' : d < a.tmps.size := by rw [h.size]; exact hd d rfl
    refine ⟨by simp [Act.put, h.size], fun t u hu => ?_⟩
    simp only [Act.put]
    rw [getD_set _ _ _ _ hd']
    simp only [Env.put, Env.get] at hu
    by_cases ht : t = d
    · subst ht
      simp at hu
      simp [hu]
    · have hb : Nat.beq d t = false := beq_ne fun e => ht e.symm
      rw [hb, cond_false] at hu
      rw [if_neg ht]
      exact h.get t u hu

theorem Env.get_forget (e : Env) (W : List Nat) (t : Nat) (v : Value) (h : (e.forget W).get t = some v) : t ∉ W ∧ e.get t = some v := by
  induction e with
  | nil => simp [Env.forget, Env.get] at h
  | cons p r ih =>
    obtain ⟨a, u⟩ := p
    by_cases hm : memN a W = true
    · have : (Env.forget ((a, u) :: r) W) = Env.forget r W := by simp [Env.forget, hm]
      rw [this] at h
      obtain ⟨h1, h2⟩ := ih h
      refine ⟨h1, ?_⟩
      have : a ≠ t := fun e => h1 (e ▸ (memN_iff a W).1 hm)
      have hb : Nat.beq a t = false := beq_ne this
      simp only [Env.get, hb, cond_false]
      exact h2
    · have hm' : memN a W = false := by simpa using hm
      have : (Env.forget ((a, u) :: r) W) = (a, u) :: Env.forget r W := by simp [Env.forget, hm']
      rw [this] at h
      simp only [Env.get] at h ⊢
      by_cases ht : a = t
      · subst ht
        simp at h ⊢
        refine ⟨fun hw => ?_, h⟩
        rw [(memN_iff a W).2 hw] at hm'
        cases hm'
      · have hb : Nat.beq a t = false := beq_ne ht
        rw [hb, cond_false] at h ⊢
        exact ih h

/-- What lies outside W is as it was. -/
def SameBut (W : List Nat) (a a' : Act) : Prop := a'.tmps.size = a.tmps.size ∧ ∀ t, t ∉ W → a'.tmps.getD t undef = a.tmps.getD t undef
theorem SameBut.refl (W : List Nat) (a : Act) : SameBut W a a := ⟨rfl, fun _ _ => rfl⟩
theorem SameBut.trans {W W' : List Nat} {a b c : Act} (h : SameBut W a b) (k : SameBut W' b c) : SameBut (W ++ W') a c :=
  ⟨k.1.trans h.1, fun t ht => by
    simp only [List.mem_append, not_or] at ht
    exact (k.2 t ht.2).trans (h.2 t ht.1)⟩
theorem SameBut.mono {W W' : List Nat} {a b : Act} (h : SameBut W a b) (hW : ∀ t, t ∈ W → t ∈ W') : SameBut W' a b := ⟨h.1, fun t ht => h.2 t (fun hw => ht (hW t hw))⟩
theorem SameBut.put (a : Act) (d : Option Nat) (v : Value) : SameBut d.toList a (a.put d v) := by
  cases d with
  | none => exact SameBut.refl _ _
  | some d =>
    refine ⟨by simp [Act.put], fun t ht => ?_⟩
    have h : d ≠ t := fun e => ht (by simp [e])
    simp [Act.put, Array.getElem?_setIfInBounds_ne h]

theorem EnvOk.forget {N : Nat} {e : Env} {a a' : Act} (h : EnvOk N e a) (W : List Nat) (hs : SameBut W a a') : EnvOk N (e.forget W) a' :=
  ⟨hs.1.trans h.size, fun t v hv => by
    obtain ⟨h1, h2⟩ := Env.get_forget e W t v hv
    exact (hs.2 t h1).trans (h.get t v h2)⟩

def Env.layIn (e : Env) : List Nat → List Value → Env
  | [], _ => e
  | t :: r, vs => Env.layIn ((t, vs.headD undef) :: e) r vs.tail

theorem EnvOk.layIn {N : Nat} {d : List Deferred} : ∀ (ps : List Nat) (vs : List Value) (e : Env) (tmps : Array Value), EnvOk N e ⟨tmps, d⟩ → ps.length = vs.length → (∀ p, p ∈ ps → p < N) →
    EnvOk N (e.layIn ps vs) ⟨(ps.zip vs).foldl (fun t (x : Nat × Value) => t.setIfInBounds x.1 x.2) tmps, d⟩
  | [], vs, e, tmps, h, _, _ => by simpa [Env.layIn] using h
  | t :: r, [], e, tmps, h, hl, _ => by simp at hl
  | t :: r, v :: vs, e, tmps, h, hl, hN => by
    simp only [Env.layIn, List.headD_cons, List.tail_cons, List.zip_cons_cons, List.foldl_cons]
    refine EnvOk.layIn r vs _ _ ?_ (by simpa using hl) (fun p hp => hN p (List.mem_cons_of_mem _ hp))
    exact h.put (some t) v fun x hx => by cases hx; exact hN _ List.mem_cons_self

/-- The slots of a list hold these values. -/
def Holds (a : Act) (L : List Nat) (vs : List Value) : Prop := vs = L.map fun t => a.tmps.getD t undef

theorem EnvOk.vals {N : Nat} {e : Env} {a : Act} (h : EnvOk N e a) : ∀ (L : List Nat) (vs : List Value), e.vals L = some vs → Holds a L vs
  | [], vs, hv => by simp [Env.vals] at hv; subst hv; rfl
  | t :: r, vs, hv => by
    simp only [Env.vals] at hv
    split at hv
    · rename_i v vs' h1 h2
      have ih := EnvOk.vals h r vs' h2
      simp at hv
      subst hv
      simp only [Holds, List.map_cons]
      rw [h.get t v h1]
      exact congrArg _ ih
    · cases hv

theorem EnvOk.lay {N : Nat} {e : Env} {a : Act} (h : EnvOk N e a) : ∀ (L : List Nat) (vs : List Value), Holds a L vs → EnvOk N (e.lay L vs) a
  | [], _, _ => h
  | t :: r, vs, hv => by
    subst hv
    have ih := EnvOk.lay h r _ rfl
    refine ⟨h.size, fun u v hu => ?_⟩
    simp only [Env.lay, List.map_cons, List.headD_cons, List.tail_cons, Env.get] at hu
    by_cases ht : t = u
    · subst ht
      simp at hu
      simpa using hu
    · have hb : Nat.beq t u = false := beq_ne ht
      rw [hb, cond_false] at hu
      exact ih.get u v hu
end Go.Proofs.Ytipgdalebkhgpaa.Fw
