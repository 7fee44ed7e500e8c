/-
  The walk's rules: entries picked, loads, stores, new blocks, calls, loops.
-/
import Derived.Test.YtipgdalebkhgpaaFw7
import Derived.WalkKit
namespace Go.Proofs.Ytipgdalebkhgpaa.Fw
open Go Go.RowKit

/-- Block b is a row of these cells. -/
def Ent.cells (b : Nat) (cs : List Value) (T : TypeId) : Ent := Ent.obj b (.cells cs.toArray T (0, 0))

/-- One entry of a list, and what the list is with another one in its place. -/
inductive Pick : List Ent → Ent → (Ent → List Ent) → Prop where
  | here {e : Ent} {H : List Ent} : Pick (e :: H) e (fun x => x :: H)
  | there {a e : Ent} {H : List Ent} {f : Ent → List Ent} : Pick H e f → Pick (a :: H) e (fun x => a :: f x)

theorem Pick.mem {H : List Ent} {e : Ent} {f : Ent → List Ent} (h : Pick H e f) : e ∈ H := by
  induction h with
  | here => exact List.mem_cons_self
  | there _ ih => exact List.mem_cons_of_mem _ ih
theorem Pick.split {H : List Ent} {e : Ent} {f : Ent → List Ent} (h : Pick H e f) : ∃ A B, H = A ++ e :: B ∧ ∀ x, f x = A ++ x :: B := by
  induction h with
  | @here e H => exact ⟨[], H, rfl, fun _ => rfl⟩
  | @there a e H f _ ih =>
    obtain ⟨A, B, rfl, hf⟩ := ih
    exact ⟨a :: A, B, rfl, fun x => congrArg (a :: ·) (hf x)⟩

section
variable {K : Kx} {r : Option Nat} {H : List Ent} {Q : Post} {Ds : List Nat} {w : World}

theorem St.lt_mark (h : St K Ds w H) {D : Nat} (hD : D ∈ Ds) : D < w.heap.size := (Array.getElem?_eq_some_iff.1 (h.marks D hD).1).1

/-- A world that is as w below its end. -/
theorem St.below {w' : World} (h : St K Ds w H) (hb : Below w.heap.size w w') : St K Ds w' H where
  os := hb.os.trans h.os
  tape := hb.tape.trans h.tape
  output := hb.output.trans h.output
  size := Nat.le_trans h.size hb.size
  frame := fun b hlt hF => (hb.block b (Nat.lt_of_lt_of_le hlt h.size)).trans (h.frame b hlt hF)
  ents := fun e he => e.loc w w' (fun b hf => hb.block b (e.inb w (h.ents e he) b hf)) (h.ents e he)
  own := h.own
  disj := h.disj
  nodup := h.nodup
  marks := fun D hD => ⟨(hb.block D (h.lt_mark hD)).trans (h.marks D hD).1, (h.marks D hD).2⟩

/-- A new block. -/
theorem St.alloc (h : St K Ds w H) (o : Obj) : St K Ds (w.alloc o) (Ent.obj w.heap.size o :: H) where
  os := h.os
  tape := h.tape
  output := h.output
  size := Nat.le_trans h.size (by simp)
  frame := fun b hlt hF => (Below.heap_alloc w o b (Nat.lt_of_lt_of_le hlt h.size)).trans (h.frame b hlt hF)
  ents := fun e he => by
    cases he with
    | head => exact World.alloc_heap_new w o
    | tail _ he => exact e.loc w _ (fun b hf => Below.heap_alloc w o b (e.inb w (h.ents e he) b hf)) (h.ents e he)
  own := fun e he b hb => by
    cases he with
    | head => exact .inr (hb ▸ h.size)
    | tail _ he => exact h.own e he b hb
  disj := List.pairwise_cons.2 ⟨fun e he b hb hf => by
    have := e.inb w (h.ents e he) b hf
    have hb' : b = w.heap.size := hb
    omega, h.disj⟩
  nodup := h.nodup
  marks := fun D hD => ⟨(Below.heap_alloc w o D (h.lt_mark hD)).trans (h.marks D hD).1, (h.marks D hD).2.1, fun e he hf => by
    cases he with
    | head =>
      have h1 := h.lt_mark hD
      have h2 : D = w.heap.size := hf
      omega
    | tail _ he => exact (h.marks D hD).2.2 e he hf⟩

/-- Some blocks turn: those of an entry. -/
theorem St.turn {w' : World} {e e' : Ent} {f : Ent → List Ent} (h : St K Ds w H) (hp : Pick H e f) (hos : w'.os = w.os) (htape : w'.tape = w.tape) (hout : w'.output = w.output) (hsize : w.heap.size ≤ w'.heap.size)
    (hfoot : ∀ b, e'.foot b → e.foot b ∨ w.heap.size ≤ b) (hblock : ∀ b, b < w.heap.size → ¬ e.foot b → w'.heap[b]? = w.heap[b]?) (he' : e'.holds w') : St K Ds w' (f e') := by
  obtain ⟨A, B, rfl, hf⟩ := hp.split
  rw [hf]
  have hd := h.disj
  rw [List.pairwise_append, List.pairwise_cons] at hd
  obtain ⟨hA, ⟨heB, hB⟩, hAB⟩ := hd
  have hmemE : e ∈ A ++ e :: B := List.mem_append_right _ List.mem_cons_self
  have hold : ∀ x, x ∈ A ∨ x ∈ B → x ∈ A ++ e :: B ∧ (∀ b, x.foot b → ¬ e.foot b) := by
    rintro x (hx | hx)
    · exact ⟨List.mem_append_left _ hx, fun b hb => hAB x hx e List.mem_cons_self b hb⟩
    · exact ⟨List.mem_append_right _ (List.mem_cons_of_mem _ hx), fun b hb hb' => heB x hx b hb' hb⟩
  have hsplit : ∀ x, x ∈ A ++ e' :: B → x = e' ∨ (x ∈ A ∨ x ∈ B) := by
    intro x hx
    rcases List.mem_append.1 hx with hx | hx
    · exact .inr (.inl hx)
    · cases hx with
      | head => exact .inl rfl
      | tail _ hx => exact .inr (.inr hx)
  have hnew : ∀ x, x ∈ A ∨ x ∈ B → ∀ b, e'.foot b → ¬ x.foot b := by
    intro x hx b hb hxb
    rcases hfoot b hb with h1 | h1
    · exact (hold x hx).2 b hxb h1
    · have := x.inb w (h.ents x (hold x hx).1) b hxb
      omega
  refine ⟨hos.trans h.os, htape.trans h.tape, hout.trans h.output, Nat.le_trans h.size hsize, ?_, ?_, ?_, ?_, h.nodup, ?_⟩
  · intro b hlt hF
    refine (hblock b (Nat.lt_of_lt_of_le hlt h.size) fun hb => ?_).trans (h.frame b hlt hF)
    rcases h.own e hmemE b hb with h1 | h1
    · exact hF h1
    · omega
  · intro x hx
    rcases hsplit x hx with rfl | hx
    · exact he'
    · obtain ⟨h1, h2⟩ := hold x hx
      exact x.loc w w' (fun b hb => hblock b (x.inb w (h.ents x h1) b hb) (h2 b hb)) (h.ents x h1)
  · intro x hx b hb
    rcases hsplit x hx with rfl | hx
    · rcases hfoot b hb with h1 | h1
      · exact h.own e hmemE b h1
      · exact .inr (Nat.le_trans h.size h1)
    · exact h.own x (hold x hx).1 b hb
  · rw [List.pairwise_append, List.pairwise_cons]
    refine ⟨hA, ⟨fun x hx => hnew x (.inr hx), hB⟩, fun x hx y hy => ?_⟩
    cases hy with
    | head => exact fun b hb hb' => hnew x (.inl hx) b hb' hb
    | tail _ hy => exact hAB x hx y (List.mem_cons_of_mem _ hy)
  · intro D hD
    obtain ⟨h1, h2, h3⟩ := h.marks D hD
    refine ⟨(hblock D (h.lt_mark hD) (h3 e hmemE)).trans h1, h2, fun x hx hxD => ?_⟩
    rcases hsplit x hx with rfl | hx
    · rcases hfoot D hxD with h4 | h4
      · exact h3 e hmemE h4
      · have := h.lt_mark hD; omega
    · exact h3 x (hold x hx).1 hxD

theorem St.drew (h : St K Ds w H) (d : Nat) : St K Ds { w with drawn := d } H :=
  ⟨h.os, h.tape, h.output, h.size, h.frame, fun e he => e.loc w _ (fun _ _ => rfl) (h.ents e he), h.own, h.disj, h.nodup, h.marks⟩

/-- Entries may be let go. -/
theorem St.sub {H' : List Ent} (h : St K Ds w H) (hs : H'.Sublist H) : St K Ds w H' :=
  ⟨h.os, h.tape, h.output, h.size, h.frame, fun e he => h.ents e (hs.subset he), fun e he => h.own e (hs.subset he), h.disj.sublist hs, h.nodup, fun D hD => ⟨(h.marks D hD).1, (h.marks D hD).2.1, fun e he => (h.marks D hD).2.2 e (hs.subset he)⟩⟩

def Imp (K : Kx) (H H' : List Ent) : Prop := ∀ Ds w, St K Ds w H → St K Ds w H'
theorem Imp.refl (H : List Ent) : Imp K H H := fun _ _ h => h
theorem Imp.sub {H' : List Ent} (hs : H'.Sublist H) : Imp K H H' := fun _ _ h => h.sub hs

theorem J.imp {H' : List Ent} {p : Prog} (hi : Imp K H H') (h : J K r H' p Q) : J K r H p Q := fun Ds w hs => h Ds w (hi Ds w hs)
theorem J.weak {p : Prog} {Q' : Post} (hq : ∀ x vs H', Q' x vs H' → ∃ H'', Imp K H' H'' ∧ Q x vs H'') (h : J K r H p Q') : J K r H p Q := fun Ds w hs =>
  Prog.wp_mono p r Ds _ _ w (fun Ds' x vs w' ⟨H', h1, h2⟩ => by obtain ⟨H'', h3, h4⟩ := hq x vs H' h1; exact ⟨H'', h4, h3 _ _ h2⟩) (h Ds w hs)

theorem J.draw {p : Prog} (h : J K r H p Q) : J K r H (.draw p) Q := fun Ds _ hs d => h Ds _ (hs.drew d)

theorem J.block {id : Nat} {p : Prog} (h : J K r H p fun x vs H' => match x with | .exit id' => (id' = id → Q .normal vs H') ∧ (id' ≠ id → Q (.exit id') vs H') | x => Q x vs H') : J K r H (.block id p) Q := by
  intro Ds w hs
  refine Prog.wp_mono p r Ds _ _ w ?_ (h Ds w hs)
  rintro Ds' x vs w' ⟨H', hq, hs'⟩
  cases x with
  | exit id' => exact ⟨fun e => ⟨H', hq.1 e, hs'⟩, fun e => ⟨H', hq.2 e, hs'⟩⟩
  | normal => exact ⟨H', hq, hs'⟩
  | ret => exact ⟨H', hq, hs'⟩

/-- A loop: a ghost state a, what the slots and the heap are at it, a measure. -/
theorem J.loop {α : Type} (I : α → Prop) (V : α → List Value) (E : α → List Ent) (μ : α → Nat) (a0 : α) {vs : List Value} {body : List Value → Prog} (h0 : I a0) (hv : vs = V a0) (hE : Imp K H (E a0))
    (hb : ∀ a, I a → J K r (E a) (body (V a)) fun x vs' H' => match x with | .normal => ∃ a', I a' ∧ vs' = V a' ∧ Imp K H' (E a') ∧ μ a' < μ a | x => Q x vs' H') : J K r H (.loop vs body) Q := by
  intro Ds w hs
  refine ⟨fun n Ds vs w => ∃ a, I a ∧ μ a = n ∧ vs = V a ∧ St K Ds w (E a), ⟨_, a0, h0, rfl, hv, hE Ds w hs⟩, ?_⟩
  rintro n Ds vs w ⟨a, ha, rfl, rfl, hs⟩
  refine Prog.wp_mono _ r Ds _ _ w ?_ (hb a ha Ds w hs)
  rintro Ds' x vs' w' ⟨H', hq, hs'⟩
  cases x with
  | normal => obtain ⟨a', h1, h2, h3, h4⟩ := hq; exact ⟨_, h4, a', h1, rfl, h2, h3 _ _ hs'⟩
  | exit id => exact ⟨H', hq, hs'⟩
  | ret => exact ⟨H', hq, hs'⟩

/-! ### Operations that make or turn blocks -/
theorem J.opA {s : Sem Next} {k : Value → Prog} {o : Obj} {mk : Nat → Value} (h : ∀ Ds w, St K Ds w H → s.run K.P w = .ok (.value (mk w.heap.size)) (w.alloc o))
    (hk : ∀ b, J K r (Ent.obj b o :: H) (k (mk b)) Q) : J K r H (.op false s k) Q := by
  intro Ds w hs
  show opU _ _ _
  rw [h Ds w hs]
  exact hk _ Ds _ (hs.alloc o)

theorem J.opT {s : Sem Next} {k : Value → Prog} {b : Nat} {o o' : Obj} {f : Ent → List Ent} {v : Value} (hp : Pick H (Ent.obj b o) f)
    (h : ∀ Ds w, St K Ds w H → w.heap[b]? = some o → (s.run K.P w = .ok (.value v) (w.putObj b o') ∨ s.run K.P w = .ok .skip (w.putObj b o') ∧ v = undef)) (hk : J K r (f (Ent.obj b o')) (k v) Q) : J K r H (.op false s k) Q := by
  intro Ds w hs
  have hb := hs.ents _ hp.mem
  have hlt : b < w.heap.size := (Array.getElem?_eq_some_iff.1 hb).1
  have hs' : St K Ds (w.putObj b o') (f (Ent.obj b o')) := by
    refine hs.turn hp rfl rfl rfl (by simp) (fun x hx => .inl hx) (fun x _ hx => World.putObj_heap_other hx) ?_
    exact World.putObj_heap_same hlt
  show opU _ _ _
  rcases h Ds w hs hb with h1 | ⟨h1, rfl⟩
  · rw [h1]; exact hk Ds _ hs'
  · rw [h1]; exact hk Ds _ hs'

/-! ### Calls -/
def Enters (P : Program) (g : FuncId) : Prop := ∀ args w, (callFunc g args).run P w = .ok (.enter g args) w
theorem enters_of {P : Program} {g : FuncId} {fn : Func} (hf : P.funcs[g]? = some fn) (h : (!(fn.name == "runtime.NumGoroutine") && fn.body.isSome) = true) : Enters P g := by
  intro args w
  rw [Bool.and_eq_true] at h
  obtain ⟨h1, h2⟩ := h
  have h1' : (fn.name == "runtime.NumGoroutine") = false := by simpa using h1
  have h2' : fn.body.isNone = false := by cases hb : fn.body <;> simp_all
  unfold callFunc
  simp only [Sem.run_bind, run_program, Result.andThen_ok, hf, h1', h2', Bool.false_eq_true, if_false]
  rfl

/-- The entries of H, and no word on anything else: a callee's start. -/
structure Sep (w : World) (H : List Ent) : Prop where
  ents : ∀ e, e ∈ H → e.holds w
  disj : H.Pairwise fun e e' => ∀ b, e.foot b → ¬ e'.foot b

def footOf (H : List Ent) (b : Nat) : Prop := ∃ e, e ∈ H ∧ e.foot b

/-- A function's contract: at worlds of which Pre holds, and where the entries H0 lie; the answer, and the entries then. -/
def Fn (P : Program) (g : FuncId) (args : List Value) (Pre : World → Prop) (H0 : List Ent) (R : Value → List Ent → Prop) : Prop :=
  ∀ w, Pre w → Sep w H0 → Calls P g args.toArray w fun e w' => ∃ v, e = .returned v ∧ ∃ H1, R v H1 ∧ St ⟨P, w, footOf H0⟩ [] w' H1

theorem St.call {Hc Hr H1 : List Ent} {w' : World} (h : St K Ds w (Hc ++ Hr)) (h1 : St ⟨K.P, w, footOf Hc⟩ [] w' H1) : St K Ds w' (H1 ++ Hr) := by
  have hd := h.disj
  rw [List.pairwise_append] at hd
  obtain ⟨hC, hR, hCR⟩ := hd
  have hmC : ∀ e, e ∈ Hc → e ∈ Hc ++ Hr := fun e he => List.mem_append_left _ he
  have hmR : ∀ e, e ∈ Hr → e ∈ Hc ++ Hr := fun e he => List.mem_append_right _ he
  have hsame : ∀ e, e ∈ Hr → ∀ b, e.foot b → w'.heap[b]? = w.heap[b]? := by
    intro e he b hb
    refine h1.frame b (e.inb w (h.ents e (hmR e he)) b hb) ?_
    rintro ⟨x, hx, hxb⟩
    exact hCR x hx e he b hxb hb
  refine ⟨h1.os.trans h.os, h1.tape.trans h.tape, h1.output.trans h.output, Nat.le_trans h.size h1.size, ?_, ?_, ?_, ?_, h.nodup, ?_⟩
  · intro b hlt hF
    refine (h1.frame b (Nat.lt_of_lt_of_le hlt h.size) ?_).trans (h.frame b hlt hF)
    rintro ⟨x, hx, hxb⟩
    rcases h.own x (hmC x hx) b hxb with h2 | h2
    · exact hF h2
    · omega
  · intro e he
    rcases List.mem_append.1 he with he | he
    · exact h1.ents e he
    · exact e.loc w w' (hsame e he) (h.ents e (hmR e he))
  · intro e he b hb
    rcases List.mem_append.1 he with he | he
    · rcases h1.own e he b hb with ⟨x, hx, hxb⟩ | h2
      · exact h.own x (hmC x hx) b hxb
      · exact .inr (Nat.le_trans h.size h2)
    · exact h.own e (hmR e he) b hb
  · rw [List.pairwise_append]
    refine ⟨h1.disj, hR, fun e he e' he' b hb hb' => ?_⟩
    rcases h1.own e he b hb with ⟨x, hx, hxb⟩ | h2
    · exact hCR x hx e' he' b hxb hb'
    · have := e'.inb w (h.ents e' (hmR e' he')) b hb'
      have h3 : w.heap.size ≤ b := h2
      omega
  · intro D hD
    obtain ⟨m1, m2, m3⟩ := h.marks D hD
    have hlt := h.lt_mark hD
    refine ⟨(h1.frame D hlt ?_).trans m1, m2, fun e he heD => ?_⟩
    · rintro ⟨x, hx, hxb⟩
      exact m3 x (hmC x hx) hxb
    · rcases List.mem_append.1 he with he | he
      · rcases h1.own e he D heD with ⟨x, hx, hxb⟩ | h2
        · exact m3 x (hmC x hx) hxb
        · have h3 : w.heap.size ≤ D := h2
          omega
      · exact m3 e (hmR e he) heD

theorem run_callS {P : Program} {g : FuncId} (hen : Enters P g) (first cap : Array Value) (args : List Value) (w : World) :
    (callS (.func (.func g) first cap) args).run P w = .ok (.enter g (first ++ args.toArray ++ cap)) w := by
  unfold callS
  simp only [Deferred.ofValue, Sem.run_bind, Sem.run_pure, Result.andThen_ok, invoke]
  exact hen _ w

/-- A call by its contract. The rest of the entries: Hr. -/
theorem J.call {g : FuncId} {first cap : Array Value} {args fargs : List Value} {k : Value → Prog} {Pre : World → Prop} {Hc Hr : List Ent} {R : Value → List Ent → Prop} (hen : Enters K.P g)
    (hfn : Fn K.P g fargs Pre Hc R) (hargs : first ++ args.toArray ++ cap = fargs.toArray) (hH : Imp K H (Hc ++ Hr)) (hpre : ∀ Ds w, St K Ds w H → Pre w) (hk : ∀ v H1, R v H1 → J K r (H1 ++ Hr) (k v) Q) :
    J K r H (.op false (callS (.func (.func g) first cap) args) k) Q := by
  intro Ds w hs
  show opU _ _ _
  rw [run_callS hen, hargs]
  have hs' := hH Ds w hs
  have hd := hs'.disj
  rw [List.pairwise_append] at hd
  refine Calls.mono (hfn w (hpre Ds w hs) ⟨fun e he => hs'.ents e (List.mem_append_left _ he), hd.1⟩) ?_
  rintro e w' ⟨v, rfl, H1, hR, h1⟩
  exact ⟨v, rfl, hk v H1 hR Ds w' (hs'.call h1)⟩

/-- A call that turns nothing that was there: what it makes comes ahead. -/
theorem J.call0 {g : FuncId} {first cap : Array Value} {args fargs : List Value} {k : Value → Prog} {Pre : World → Prop} {R : Value → List Ent → Prop} (hen : Enters K.P g)
    (hfn : Fn K.P g fargs Pre [] R) (hargs : first ++ args.toArray ++ cap = fargs.toArray) (hpre : ∀ Ds w, St K Ds w H → Pre w) (hk : ∀ v H1, R v H1 → J K r (H1 ++ H) (k v) Q) :
    J K r H (.op false (callS (.func (.func g) first cap) args) k) Q :=
  J.call (Hc := []) (Hr := H) hen hfn hargs (Imp.refl H) hpre hk

/-! ### A function's contract out of its Prog -/
def okFn (fn : Func) (cx : Cx) (n : Nat) : Bool := fn.body.isSome && Nat.beq cx.N fn.ntmps && Nat.ble n fn.ntmps && cx.res == fn.results.toList.map resSlot

/-- What a function owes at its return: its results' slots, the results' values out of them. -/
def RetQ (P : Program) (K : Kx) (rs : List ResultVar) (R : Value → List Ent → Prop) : Post := fun x vs H' => x = .ret ∧ ∃ v, (∀ w, St K [] w H' → (resS rs vs).run P w = .ok v w) ∧ R v H'

theorem St.takeAll : ∀ {Ds : List Nat} {w : World}, St K Ds w H → St K [] (takeAll Ds w) H
  | [], w, h => h
  | D :: r, w, h => by
    refine St.takeAll (Ds := r) ⟨h.os, h.tape, h.output, Nat.le_trans h.size (by simp), ?_, ?_, h.own, h.disj, (List.nodup_cons.1 h.nodup).2, ?_⟩
    · intro b hlt hF
      obtain ⟨m1, m2, m3⟩ := h.marks D List.mem_cons_self
      rw [World.putObj_heap_other (by omega)]
      exact h.frame b hlt hF
    · intro e he
      refine e.loc w _ (fun b hb => World.putObj_heap_other fun e' => ?_) (h.ents e he)
      subst e'
      exact (h.marks b List.mem_cons_self).2.2 e he hb
    · intro D' hD'
      have hne : D' ≠ D := fun e => (List.nodup_cons.1 h.nodup).1 (e ▸ hD')
      obtain ⟨m1, m2, m3⟩ := h.marks D' (List.mem_cons_of_mem _ hD')
      exact ⟨(World.putObj_heap_other hne).trans m1, m2, m3⟩

theorem fn_of_J {P : Program} (hm : P.follows .mixedOrders = true) {g : FuncId} {fn : Func} {cx : Cx} {args : List Value} {p : Prog} (hf : P.funcs[g]? = some fn) (hok : okFn fn cx args.length = true)
    (hp : comp cx (bodyC fn) false [] (env0 0 args) (fun e => retP cx false e) = p) {Pre : World → Prop} {H0 : List Ent} {R : Value → List Ent → Prop}
    (h : ∀ w, Pre w → J ⟨P, w, footOf H0⟩ none H0 p (RetQ P ⟨P, w, footOf H0⟩ fn.results.toList R)) : Fn P g args Pre H0 R := by
  intro w hpre hsep
  simp only [okFn, Bool.and_eq_true] at hok
  obtain ⟨⟨⟨hb, hN⟩, ha⟩, hr⟩ := hok
  obtain ⟨c, hc⟩ := Option.isSome_iff_exists.1 hb
  have hbc : bodyC fn = c := by simp [bodyC, hc]
  have hs : St ⟨P, w, footOf H0⟩ [] w H0 :=
    ⟨rfl, rfl, rfl, Nat.le_refl _, fun _ _ _ => rfl, hsep.ents, fun e he b hb => .inl ⟨e, he, hb⟩, hsep.disj, List.nodup_nil, fun D hD => by cases hD⟩
  have hj := h w hpre [] w hs
  rw [← hp, hbc] at hj
  refine Calls.mono (calls_of_comp hm hf hc (Nat.eq_of_beq_eq_true hN) (by simpa using hr) (Nat.le_of_ble_eq_true ha) (R := fun v w' => ∃ H1, R v H1 ∧ St ⟨P, w, footOf H0⟩ [] w' H1) (Prog.wp_mono _ _ _ _ _ _ ?_ hj)) (fun e w' h => h)
  rintro Ds x vs w' ⟨H', ⟨hx, v, hv, hR⟩, hs'⟩
  have ht := hs'.takeAll
  exact ⟨hx, hs'.nodup, fun D hD => (hs'.marks D hD).1, v, hv _ ht, H', hR, ht⟩
end
end Go.Proofs.Ytipgdalebkhgpaa.Fw
