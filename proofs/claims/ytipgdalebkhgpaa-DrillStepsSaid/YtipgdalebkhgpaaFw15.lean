/-
  Entries taken out of a list; functions that take entries, and leave others.
-/
import Derived.Test.YtipgdalebkhgpaaFw12
set_option linter.unusedVariables false
namespace Go.Proofs.Ytipgdalebkhgpaa.Fw
open Go Go.RowKit

/-- One entry taken out. -/
inductive Out : List Ent → Ent → List Ent → Prop where
  | here {e : Ent} {H : List Ent} : Out (e :: H) e H
  | there {a e : Ent} {H H' : List Ent} : Out H e H' → Out (a :: H) e (a :: H')
theorem Out.cells {b : Nat} {cs cs' : List Value} {T : TypeId} {H : List Ent} (h : cs = cs') : Out (Ent.cells b cs T :: H) (Ent.cells b cs' T) H := h ▸ .here
theorem Out.row {v : Value} {sz : Nat} {els els' : List (List Value)} {T : TypeId} {H : List Ent} (h : els = els') : Out (Ent.row v sz els T :: H) (Ent.row v sz els' T) H := h ▸ .here
/-- Some entries taken out; what is left. -/
inductive Take : List Ent → List Ent → List Ent → Prop where
  | nil {H : List Ent} : Take H [] H
  | cons {H H' es Hr : List Ent} {e : Ent} : Out H e H' → Take H' es Hr → Take H (e :: es) Hr

/-- Some entries are there. -/
inductive Has : List Ent → List Ent → Prop where
  | nil {H : List Ent} : Has H []
  | cons {H H' es : List Ent} {e : Ent} : Out H e H' → Has H' es → Has H (e :: es)
theorem Has.take {H es : List Ent} (h : Has H es) : ∃ Hr, Take H es Hr := by
  induction h with
  | nil => exact ⟨_, .nil⟩
  | cons h1 _ ih => obtain ⟨Hr, ih⟩ := ih; exact ⟨Hr, .cons h1 ih⟩
theorem Out.perm {H H' : List Ent} {e : Ent} (h : Out H e H') : H.Perm (e :: H') := by
  induction h with
  | here => exact List.Perm.refl _
  | there _ ih => exact (List.Perm.cons _ ih).trans (List.Perm.swap _ _ _)
theorem Take.perm {H es Hr : List Ent} (h : Take H es Hr) : H.Perm (es ++ Hr) := by
  induction h with
  | nil => exact List.Perm.refl _
  | cons h1 _ ih => exact h1.perm.trans (List.Perm.cons _ ih)

section
variable {K : Kx} {r : Option Nat} {H : List Ent} {Q : Post} {Ds : List Nat} {w : World}
theorem St.perm {H' : List Ent} (h : St K Ds w H) (hp : H.Perm H') : St K Ds w H' :=
  ⟨h.os, h.tape, h.output, h.size, h.frame, fun e he => h.ents e (hp.mem_iff.2 he), fun e he => h.own e (hp.mem_iff.2 he),
    hp.pairwise h.disj (fun h b hb hb' => h b hb' hb), h.nodup, fun D hD => ⟨(h.marks D hD).1, (h.marks D hD).2.1, fun e he => (h.marks D hD).2.2 e (hp.mem_iff.2 he)⟩⟩
theorem Imp.perm {H' : List Ent} (hp : H.Perm H') : Imp K H H' := fun _ _ h => h.perm hp
theorem Imp.take {es : List Ent} (h : Has H es) : Imp K H es := fun _ _ hs => by
  obtain ⟨Hr, h⟩ := h.take
  exact (hs.perm h.perm).sub (List.sublist_append_left es Hr)
theorem Imp.trans {H' H'' : List Ent} (h : Imp K H H') (h' : Imp K H' H'') : Imp K H H'' := fun Ds w hs => h' Ds w (h Ds w hs)

/-- A function that takes the entries Hc, and leaves others: R tells the answer, and which. -/
def FnT (P : Program) (g : FuncId) (args : List Value) (Pre : World → Prop) (Hc : List Ent) (R : Value → List Ent → Prop) : Prop := Fn P g args Pre Hc (fun v H1 => ∃ es, Has H1 es ∧ R v es)

theorem J.callT {g : FuncId} {first cap : Array Value} {args fargs : List Value} {k : Value → Prog} {Pre : World → Prop} {Hc Hr : List Ent} {R : Value → List Ent → Prop} (hen : Enters K.P g)
    (hfn : FnT K.P g fargs Pre Hc R) (hargs : first ++ args.toArray ++ cap = fargs.toArray) (hpre : ∀ Ds w, St K Ds w H → Pre w) (hT : Take H Hc Hr) (hk : ∀ v es, R v es → J K r (es ++ Hr) (k v) Q) :
    J K r H (.op false (callS (.func (.func g) first cap) args) k) Q :=
  J.call (Hc := Hc) (Hr := Hr) hen hfn hargs (Imp.perm hT.perm) hpre fun v H1 ⟨es, h1, h2⟩ => by
    obtain ⟨Hr', h1⟩ := h1.take
    exact J.imp (fun Ds w hs => (hs.perm (h1.perm.append_right Hr)).sub (by
      rw [List.append_assoc]
      exact List.Sublist.append (List.Sublist.refl es) (List.sublist_append_right Hr' Hr))) (hk v es h2)

/-- A contract that turns nothing, as one that takes nothing. -/
theorem FnE.t {P : Program} {g : FuncId} {args : List Value} {Pre : World → Prop} {e : Value} (h : FnE P g args Pre e) : FnT P g args Pre [] (fun v es => v = e ∧ es = []) := by
  intro w hp hs
  refine Calls.mono (h w hp hs) ?_
  rintro r w' ⟨v, rfl, H1, hv, hs'⟩
  exact ⟨v, rfl, H1, ⟨[], Has.nil, hv, rfl⟩, hs'⟩

theorem RetQ.t1 {P : Program} {t : Nat} {v : Value} {R : Value → List Ent → Prop} {es : List Ent} (hT : Has H es) (h : R v es) : RetQ P K [.tmp t] (fun v H1 => ∃ es, Has H1 es ∧ R v es) .ret [v] H := ⟨rfl, v, fun _ _ => rfl, es, hT, h⟩
theorem RetQ.t0 {P : Program} {R : Value → List Ent → Prop} {es : List Ent} (hT : Has H es) (h : R (.tuple #[]) es) : RetQ P K [] (fun v H1 => ∃ es, Has H1 es ∧ R v es) .ret [] H := ⟨rfl, _, fun _ _ => rfl, es, hT, h⟩
theorem RetQ.t2 {P : Program} {t t' : Nat} {v v' : Value} {R : Value → List Ent → Prop} {es : List Ent} (hT : Has H es) (h : R (.tuple #[v, v']) es) : RetQ P K [.tmp t, .tmp t'] (fun v H1 => ∃ es, Has H1 es ∧ R v es) .ret [v, v'] H := ⟨rfl, _, fun _ _ => rfl, es, hT, h⟩
theorem RetQ.t3 {P : Program} {t t' t'' : Nat} {v v' v'' : Value} {R : Value → List Ent → Prop} {es : List Ent} (hT : Has H es) (h : R (.tuple #[v, v', v'']) es) : RetQ P K [.tmp t, .tmp t', .tmp t''] (fun v H1 => ∃ es, Has H1 es ∧ R v es) .ret [v, v', v''] H := ⟨rfl, _, fun _ _ => rfl, es, hT, h⟩
theorem RetQ.tc {c T n b : Nat} {l : List Value} {f : Ent → List Ent} {R : Value → List Ent → Prop} {es : List Ent} (hT : aggN K.P T n = true) (hp : Pick H (Ent.cells b l T) f) (hl : l.length = n) (ht : Has H es) (h : R (.agg l.toArray) es) :
    RetQ K.P K [.cell c T] (fun v H1 => ∃ es, Has H1 es ∧ R v es) .ret [.pointer (some ⟨b, 0, none⟩)] H := ⟨rfl, _, fun w hs => res_cell hT hl (hs.ents _ hp.mem), es, ht, h⟩

theorem J.opBT {q : Bool} {s : Sem Next} {c : Bool} {k : Value → Prog} (h : Runs K H s (.bool c)) (hc : c = true) (hk : J K r H (k (.bool true)) Q) : J K r H (.op q s k) Q := J.op (hc ▸ h) hk
theorem J.opBF {q : Bool} {s : Sem Next} {c : Bool} {k : Value → Prog} (h : Runs K H s (.bool c)) (hc : c = false) (hk : J K r H (k (.bool false)) Q) : J K r H (.op q s k) Q := J.op (hc ▸ h) hk

/-- A test of several operations that turn entries, as one. -/
theorem J.bindBH (c : Prop) [Decidable c] (H2 : List Ent) {p : Prog} {k : List Value → Prog} (h : J K r H p fun x vs H' => x = .normal ∧ vs = [.bool (decide c)] ∧ Imp K H' H2)
    (ht : c → J K r H2 (k [.bool true]) Q) (hf : ¬ c → J K r H2 (k [.bool false]) Q) : J K r H (.bind p k) Q := by
  refine J.bind (J.weak ?_ h)
  rintro x vs H' ⟨rfl, rfl, hi⟩
  refine ⟨H2, hi, ?_⟩
  by_cases hc : c
  · rw [decide_eq_true hc]; exact ht hc
  · rw [decide_eq_false hc]; exact hf hc

/-! ### Pointers -/
theorem run_binP (P : Program) (op : BinOp) (t : TypeId) (x y : Operand) (a b : Option Addr) (w : World) {v : Value} (h : (binOp op t (.pointer a) (.pointer b)).run P w = .ok v w) : (binS op t x y (.pointer a) (.pointer b)).run P w = .ok (.value v) w := by
  refine vS_run ?_
  have he : (eqGuard op t x y (.pointer a) (.pointer b)).run P w = .ok () w := by
    unfold eqGuard
    cases op <;> rfl
  simp only [Sem.run_bind, he, Result.andThen_ok, h]
theorem run_eqP {P : Program} (d : Nat) {t e : TypeId} (h : P.underlying t = some (.pointer e)) (a : Option Addr) (w : World) : (Op.equalIn (d + 1) t (.pointer a) (.pointer none)).run P w = .ok a.isNone w := by
  cases a <;> simp [Op.equalIn, run_und h]
theorem R.isNil {t e : TypeId} {x y : Operand} {a : Option Addr} (h : K.P.underlying t = some (.pointer e)) : Runs K H (binS .eql t x y (.pointer a) (.pointer none)) (.bool a.isNone) := .of fun w => run_binP _ _ _ _ _ _ _ _ (by
  simp only [binOp, Op.equal, Op.maxDepth, Sem.run_bind, run_eqP 9999 h a w, Result.andThen_ok, Sem.run_pure])
theorem R.notNil {t e : TypeId} {x y : Operand} {a : Option Addr} (h : K.P.underlying t = some (.pointer e)) : Runs K H (binS .neq t x y (.pointer a) (.pointer none)) (.bool a.isSome) := .of fun w => run_binP _ _ _ _ _ _ _ _ (by
  simp only [binOp, Op.equal, Op.maxDepth, Sem.run_bind, run_eqP 9999 h a w, Result.andThen_ok, Sem.run_pure]
  cases a <;> rfl)
/-! ### Strings -/
theorem run_binStr (P : Program) (op : BinOp) (t : TypeId) (x y : Operand) (a b : ByteArray) (w : World) {v : Value} (h : (binOp op t (.string a) (.string b)).run P w = .ok v w) : (binS op t x y (.string a) (.string b)).run P w = .ok (.value v) w := by
  refine vS_run ?_
  have he : (eqGuard op t x y (.string a) (.string b)).run P w = .ok () w := by
    unfold eqGuard
    cases op <;> rfl
  simp only [Sem.run_bind, he, Result.andThen_ok, h]
theorem R.eqlS {t : TypeId} {x y : Operand} {a b : ByteArray} (h : K.P.underlying t = some .string) : Runs K H (binS .eql t x y (.string a) (.string b)) (.bool (a.toList == b.toList)) := .of fun w => run_binStr _ _ _ _ _ _ _ _ (by
  simp only [binOp, Op.stringOp, Sem.run_pure])
theorem R.neqS {t : TypeId} {x y : Operand} {a b : ByteArray} (h : K.P.underlying t = some .string) : Runs K H (binS .neq t x y (.string a) (.string b)) (.bool (!(a.toList == b.toList))) := .of fun w => run_binStr _ _ _ _ _ _ _ _ (by
  simp only [binOp, Op.stringOp, Sem.run_pure])
end
end Go.Proofs.Ytipgdalebkhgpaa.Fw
