/-
  A function's contract out of its Prog; assertions on the heap as lists of entries ('Ent', 'St'), and the rules of the walk ('J').
-/
import Derived.Test.YtipgdalebkhgpaaFw6
namespace Go.Proofs.Ytipgdalebkhgpaa.Fw
open Go Go.RowKit

/-! ### A function's results, and its marks -/
def resSlot : ResultVar → Nat
  | .tmp t => t
  | .cell a _ => a
def resS (rs : List ResultVar) (vs : List Value) : Sem Value := do
  let us ← (rs.zip vs).mapM fun p => match p.1 with
    | .tmp _ => pure p.2
    | .cell _ t => do loadVar t (← asAddr p.2)
  pure (match us with | [u] => u | us => .tuple us.toArray)

theorem bind_congr_fst {α β : Type} {x y : Sem α} {f g : α → Sem β} (h : x = y) (hf : f = g) : (x >>= f) = (y >>= g) := by rw [h, hf]
theorem resS_eq (fn : Func) (a : Act) (vs : List Value) (h : Holds a (fn.results.toList.map resSlot) vs) : results fn a.tmps = resS fn.results.toList vs := by
  unfold results resS
  have key : ∀ (rs : List ResultVar) (vs : List Value), Holds a (rs.map resSlot) vs →
      (rs.mapM fun (x : ResultVar) => match x with | .tmp t => (pure (a.tmps.getD t undef) : Sem Value) | .cell b t => do loadVar t (← asAddr (a.tmps.getD b undef))) =
        ((rs.zip vs).mapM fun p => match p.1 with | .tmp _ => (pure p.2 : Sem Value) | .cell _ t => do loadVar t (← asAddr p.2)) := by
    intro rs
    induction rs with
    | nil => intro vs h; rfl
    | cons x rs ih =>
      intro vs h
      unfold Holds at h
      subst h
      simp only [List.map_cons, List.zip_cons_cons, List.mapM_cons]
      rw [ih _ rfl]
      cases x <;> rfl
  rw [Array.mapM_eq_mapM_toList]
  simp only [bind_map_left]
  refine bind_congr_fst (key _ _ h) ?_
  funext us
  cases us with
  | nil => rfl
  | cons u us =>
    cases us with
    | nil => rfl
    | cons u' us => simp

def takeAll : List Nat → World → World
  | [], w => w
  | D :: r, w => takeAll r (w.putObj D (.deferred none))

theorem leaves_marks {P : Program} {fn : Func} {tmps : Array Value} {R : Ending → World → Prop} : ∀ (Ds : List Nat) (w : World), Ds.Nodup → (∀ D, D ∈ Ds → w.heap[D]? = some (.deferred (some []))) →
    (∃ v, (results fn tmps).run P (takeAll Ds w) = .ok v (takeAll Ds w) ∧ R (.returned v) (takeAll Ds w)) → LeavesInM Fence.wide 0 P fn tmps R (Ds.map mkD) .returning w
  | [], w, _, _, h => h
  | D :: r, w, hn, hD, h => by
    refine ⟨by simp, .inl ⟨D, w.putObj D (.deferred none), rfl, run_takeDeferred (hD D List.mem_cons_self), ?_⟩⟩
    refine leaves_marks r _ (List.nodup_cons.1 hn).2 (fun D' h' => ?_) h
    have hne : D' ≠ D := fun e => (List.nodup_cons.1 hn).1 (e ▸ h')
    rw [World.putObj_heap_other hne]
    exact hD D' (List.mem_cons_of_mem _ h')

/-- What a function's Prog owes at its return. -/
def FinOk (P : Program) (rs : List ResultVar) (R : Value → World → Prop) (Ds : List Nat) (x : Ex) (vs : List Value) (w : World) : Prop :=
  x = .ret ∧ Ds.Nodup ∧ (∀ D, D ∈ Ds → w.heap[D]? = some (.deferred (some []))) ∧ ∃ v, (resS rs vs).run P (takeAll Ds w) = .ok v (takeAll Ds w) ∧ R v (takeAll Ds w)

def env0 : Nat → List Value → Env
  | _, [] => []
  | i, v :: r => (i, v) :: env0 (i + 1) r

theorem env0_get : ∀ (l : List Value) (i t : Nat) (v : Value), (env0 i l).get t = some v → ∃ j, t = i + j ∧ l[j]? = some v
  | [], i, t, v, h => by simp [env0, Env.get] at h
  | u :: r, i, t, v, h => by
    simp only [env0, Env.get] at h
    by_cases ht : i = t
    · subst ht; simp at h; exact ⟨0, rfl, by simp [h]⟩
    · rw [beq_ne ht, cond_false] at h
      obtain ⟨j, h1, h2⟩ := env0_get r (i + 1) t v h
      exact ⟨j + 1, by omega, by simpa using h2⟩

def bodyC (fn : Func) : Code := fn.body.getD .skip

theorem calls_of_comp {P : Program} (hm : P.follows .mixedOrders = true) {f : FuncId} {fn : Func} {c : Code} {cx : Cx} (hf : P.funcs[f]? = some fn) (hb : fn.body = some c) (hN : cx.N = fn.ntmps)
    (hres : cx.res = fn.results.toList.map resSlot) {args : List Value} (hargs : args.length ≤ fn.ntmps) {w : World} {R : Value → World → Prop}
    (h : (comp cx c false [] (env0 0 args) (fun e => retP cx false e)).wp P none [] (FinOk P fn.results.toList R) w) : Calls P f args.toArray w fun e w' => ∃ v, e = .returned v ∧ R v w' := by
  refine (callsIn_wide (n := 0)).1 (callsIn_of_wp_marks hf hb trivial ?_)
  have hfin : ∀ (vs : List Value) (a' : Act) (w' : World) (Ds' : List Nat), FinOk P fn.results.toList R Ds' .ret vs w' → DOk false Ds' a' → Holds a' cx.res vs →
      LeavesInM Fence.wide 0 P fn a'.tmps (fun e w' => ∃ v, e = .returned v ∧ R v w') a'.defers .returning w' := by
    rintro vs a' w' Ds' ⟨-, hn, hD, v, hv, hR⟩ hd hh
    have hd' : a'.defers = Ds'.map mkD := hd
    rw [hd']
    refine leaves_marks Ds' w' hn hD ⟨v, ?_, v, rfl, hR⟩
    rw [resS_eq fn a' vs (hres ▸ hh)]
    exact hv
  refine comp_sound hm c false [] none _ (bodyPostM Fence.wide 0 P fn fun e w' => ∃ v, e = .returned v ∧ R v w') 0 _ _ _ w [] rfl (fun _ _ _ h => h) ⟨by simp [hN]; omega, fun t v hv => ?_⟩ rfl h ?_ ?_ ?_
  · obtain ⟨j, rfl, hj⟩ := env0_get args 0 t v hv
    have hlt := (List.getElem?_eq_some_iff.1 hj).1
    rw [Nat.zero_add, Array.getD_eq_getD_getElem?, Array.getElem?_append_left (by simpa using hlt)]
    simp [hj]
  · intro e' a' w' Ds' he' hs hd hh
    obtain ⟨vs, hq, hL⟩ := retP_sound he' hh
    exact hfin vs a' w' Ds' hq hd (hL rfl)
  · rintro id vs a' w' Ds' ⟨hx, -⟩
    cases hx
  · intro vs a' w' Ds' hq hd hL
    exact hfin vs a' w' Ds' hq hd (hL rfl)

theorem Prog.wp_mono {P : Program} : ∀ (p : Prog) (r : Option Nat) (Ds : List Nat) (Q1 Q2 : List Nat → Ex → List Value → World → Prop) (w : World), (∀ Ds x vs w, Q1 Ds x vs w → Q2 Ds x vs w) → p.wp P r Ds Q1 w → p.wp P r Ds Q2 w := by
  intro p
  induction p with
  | done x vs => exact fun r Ds Q1 Q2 w hq h => hq _ _ _ _ h
  | op q s k ih =>
    intro r Ds Q1 Q2 w hq h
    cases q with
    | true => obtain ⟨v, hv, h⟩ := h; exact ⟨v, hv, ih v r Ds Q1 Q2 w hq h⟩
    | false =>
      revert h
      show opU _ _ _ → opU _ _ _
      generalize s.run P w = res
      intro h
      unfold opU at h ⊢
      split at h
      · exact ih _ r Ds Q1 Q2 _ hq h
      · exact ih _ r Ds Q1 Q2 _ hq h
      · exact Calls.mono h fun e w' ⟨v, hv, hr⟩ => ⟨v, hv, ih _ r Ds Q1 Q2 _ hq hr⟩
      · exact RoundIn.mono h fun e w' ⟨v, hv, hr⟩ => ⟨v, hv, ih _ r Ds Q1 Q2 _ hq hr⟩
      · exact h.elim
  | gop g want q s k ih =>
    intro r Ds Q1 Q2 w hq h
    refine ⟨fun hg => ?_, fun hg => ih _ r Ds Q1 Q2 w hq (h.2 hg)⟩
    have h := h.1 hg
    cases q with
    | true => obtain ⟨v, hv, h⟩ := h; exact ⟨v, hv, ih v r Ds Q1 Q2 w hq h⟩
    | false =>
      revert h
      show opU _ _ _ → opU _ _ _
      generalize s.run P w = res
      intro h
      unfold opU at h ⊢
      split at h
      · exact ih _ r Ds Q1 Q2 _ hq h
      · exact ih _ r Ds Q1 Q2 _ hq h
      · exact Calls.mono h fun e w' ⟨v, hv, hr⟩ => ⟨v, hv, ih _ r Ds Q1 Q2 _ hq hr⟩
      · exact RoundIn.mono h fun e w' ⟨v, hv, hr⟩ => ⟨v, hv, ih _ r Ds Q1 Q2 _ hq hr⟩
      · exact h.elim
  | chk g s v p ih => exact fun r Ds Q1 Q2 w hq h => ⟨h.1, ih r Ds Q1 Q2 w hq h.2⟩
  | ite c t e iht ihe =>
    intro r Ds Q1 Q2 w hq h
    obtain ⟨b, hb, h1, h2⟩ := h
    exact ⟨b, hb, fun hh => iht r Ds Q1 Q2 w hq (h1 hh), fun hh => ihe r Ds Q1 Q2 w hq (h2 hh)⟩
  | bind p k ihp ihk =>
    intro r Ds Q1 Q2 w hq h
    refine ihp r Ds _ _ w (fun Ds' x vs w' hh => ?_) h
    cases x <;> first | exact ihk vs r Ds' Q1 Q2 w' hq hh | exact hq _ _ _ _ hh
  | block id p ih =>
    intro r Ds Q1 Q2 w hq h
    refine ih r Ds _ _ w (fun Ds' x vs w' hh => ?_) h
    cases x with
    | exit id' => exact ⟨fun e => hq _ _ _ _ (hh.1 e), fun e => hq _ _ _ _ (hh.2 e)⟩
    | normal => exact hq _ _ _ _ hh
    | ret => exact hq _ _ _ _ hh
  | loop vs body ih =>
    intro r Ds Q1 Q2 w hq h
    obtain ⟨I, h0, hI⟩ := h
    refine ⟨I, h0, fun n Ds vs w hn => ih vs r Ds _ _ w (fun Ds' x vs' w' hh => ?_) (hI n Ds vs w hn)⟩
    cases x <;> first | exact hh | exact hq _ _ _ _ hh
  | rangeF f n body k ihb ihk =>
    intro r Ds Q1 Q2 w hq h
    obtain ⟨gf, lb, h1, h2, h3, h4⟩ := h
    refine ⟨gf, lb, h1, h2, h3, fun l D w1 L e1 e2 e3 e4 e5 e6 => Calls.mono (h4 l D w1 L e1 e2 e3 e4 e5 e6) ?_⟩
    rintro e w3 ⟨v, rfl, hh⟩
    refine ⟨v, rfl, ?_⟩
    rcases hh with ⟨g1, g2⟩ | ⟨x, g0, g1, g2⟩
    · exact .inl ⟨g1, ihk _ r _ Q1 Q2 _ hq g2⟩
    · exact .inr ⟨x, g0, g1, ihk _ r _ Q1 Q2 _ hq g2⟩
  | begin p ih => exact fun r Ds Q1 Q2 w hq ⟨l, L, h1, h2, h3⟩ => ⟨l, L, h1, h2, ih r Ds Q1 Q2 _ hq h3⟩
  | draw p ih => exact fun r Ds Q1 Q2 w hq h d => ih r Ds Q1 Q2 _ hq (h d)
  | alt p q ihp ihq => exact fun r Ds Q1 Q2 w hq h => ⟨ihp r Ds Q1 Q2 w hq h.1, ihq r Ds Q1 Q2 w hq h.2⟩
  | fail => exact fun r Ds Q1 Q2 w hq h => h

/-! ### Entries: what is known of some blocks -/
structure Ent where
  foot : Nat → Prop
  holds : World → Prop
  loc : ∀ w w' : World, (∀ b, foot b → w'.heap[b]? = w.heap[b]?) → holds w → holds w'
  inb : ∀ w, holds w → ∀ b, foot b → b < w.heap.size

/-- Block b is this object. -/
def Ent.obj (b : Nat) (o : Obj) : Ent where
  foot := fun x => x = b
  holds := fun w => w.heap[b]? = some o
  loc := fun _ _ h hw => (h b rfl).trans hw
  inb := fun _ hw _ hx => hx ▸ (Array.getElem?_eq_some_iff.1 hw).1

structure Kx where
  P : Program
  W : World
  F0 : Nat → Prop

/-- World w, come from W: the entries hold, each for itself; outside F0 and what is new all is as it was. -/
structure St (K : Kx) (Ds : List Nat) (w : World) (H : List Ent) : Prop where
  os : w.os = K.W.os
  tape : w.tape = K.W.tape
  output : w.output = K.W.output
  size : K.W.heap.size ≤ w.heap.size
  frame : ∀ b, b < K.W.heap.size → ¬ K.F0 b → w.heap[b]? = K.W.heap[b]?
  ents : ∀ e, e ∈ H → e.holds w
  own : ∀ e, e ∈ H → ∀ b, e.foot b → K.F0 b ∨ K.W.heap.size ≤ b
  disj : H.Pairwise fun e e' => ∀ b, e.foot b → ¬ e'.foot b
  nodup : Ds.Nodup
  marks : ∀ D, D ∈ Ds → w.heap[D]? = some (.deferred (some [])) ∧ K.W.heap.size ≤ D ∧ ∀ e, e ∈ H → ¬ e.foot D

abbrev Post := Ex → List Value → List Ent → Prop

def J (K : Kx) (r : Option Nat) (H : List Ent) (p : Prog) (Q : Post) : Prop :=
  ∀ Ds w, St K Ds w H → p.wp K.P r Ds (fun Ds' x vs w' => ∃ H', Q x vs H' ∧ St K Ds' w' H') w

section
variable {K : Kx} {r : Option Nat} {H : List Ent} {Q : Post}

theorem J.done {x : Ex} {vs : List Value} (h : Q x vs H) : J K r H (.done x vs) Q := fun _ _ hs => ⟨H, h, hs⟩

theorem J.alt {p q : Prog} (hp : J K r H p Q) (hq : J K r H q Q) : J K r H (.alt p q) Q := fun Ds w hs => ⟨hp Ds w hs, hq Ds w hs⟩

/-- At H, s gives v and leaves all as it is. -/
def Runs (K : Kx) (H : List Ent) (s : Sem Next) (v : Value) : Prop := ∀ Ds w, St K Ds w H → s.run K.P w = .ok (.value v) w

theorem J.op {q : Bool} {s : Sem Next} {v : Value} {k : Value → Prog} (h : Runs K H s v) (hk : J K r H (k v) Q) : J K r H (.op q s k) Q := by
  intro Ds w hs
  cases q with
  | true => exact ⟨v, h Ds w hs, hk Ds w hs⟩
  | false =>
    show opU _ _ _
    rw [h Ds w hs]
    exact hk Ds w hs

theorem J.gopT {g : Value} {want q : Bool} {s : Sem Next} {k : Value → Prog} (hg : isB g want = true) (h : J K r H (.op q s k) Q) : J K r H (.gop g want q s k) Q :=
  fun Ds w hs => ⟨fun _ => h Ds w hs, (fun hf => by rw [hg] at hf; cases hf)⟩
theorem J.gopF {g : Value} {want q : Bool} {s : Sem Next} {k : Value → Prog} (hg : isB g want = false) (h : J K r H (k undef) Q) : J K r H (.gop g want q s k) Q :=
  fun Ds w hs => ⟨(fun ht => by rw [hg] at ht; cases ht), fun _ => h Ds w hs⟩
theorem J.chkR {g : Option (Value × Bool)} {s : Sem Next} {v : Value} {p : Prog} (h : Runs K H s v) (hp : J K r H p Q) : J K r H (.chk g s v p) Q :=
  fun Ds w hs => ⟨fun _ => h Ds w hs, hp Ds w hs⟩
theorem J.chkF {g : Value} {b : Bool} {s : Sem Next} {v : Value} {p : Prog} (hg : isB g b = false) (hp : J K r H p Q) : J K r H (.chk (some (g, b)) s v p) Q :=
  fun Ds w hs => ⟨(fun hx => by have := hx g b rfl; rw [hg] at this; cases this), hp Ds w hs⟩
theorem J.iteT {t e : Prog} (h : J K r H t Q) : J K r H (.ite (.bool true) t e) Q := fun Ds w hs => ⟨true, rfl, fun _ => h Ds w hs, (fun hf => by cases hf)⟩
theorem J.iteF {t e : Prog} (h : J K r H e Q) : J K r H (.ite (.bool false) t e) Q := fun Ds w hs => ⟨false, rfl, (fun hf => by cases hf), fun _ => h Ds w hs⟩
theorem J.iteB {b : Bool} {t e : Prog} (ht : b = true → J K r H t Q) (he : b = false → J K r H e Q) : J K r H (.ite (.bool b) t e) Q :=
  fun Ds w hs => ⟨b, rfl, fun hb => ht hb Ds w hs, fun hb => he hb Ds w hs⟩
theorem J.bind {p : Prog} {k : List Value → Prog} (h : J K r H p fun x vs H' => match x with | .normal => J K r H' (k vs) Q | x => Q x vs H') : J K r H (.bind p k) Q := by
  intro Ds w hs
  refine Prog.wp_mono p r Ds _ _ w ?_ (h Ds w hs)
  rintro Ds' x vs w' ⟨H', hq, hs'⟩
  cases x with
  | normal => exact hq Ds' w' hs'
  | exit id => exact ⟨H', hq, hs'⟩
  | ret => exact ⟨H', hq, hs'⟩
end
end Go.Proofs.Ytipgdalebkhgpaa.Fw
