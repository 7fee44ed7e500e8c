/-
  Functions whose answer is one value; returns; max, min, shifts; cases of a guard.
-/
import Derived.Test.YtipgdalebkhgpaaFw11
set_option linter.unusedVariables false
namespace Go.Proofs.Ytipgdalebkhgpaa.Fw
open Go Go.RowKit

/-- A function that answers e, and turns nothing. -/
def FnE (P : Program) (g : FuncId) (args : List Value) (Pre : World → Prop) (e : Value) : Prop := Fn P g args Pre [] (fun v _ => v = e)

section
variable {K : Kx} {r : Option Nat} {H : List Ent} {Q : Post}

theorem J.callE {g : FuncId} {first cap : Array Value} {args fargs : List Value} {k : Value → Prog} {Pre : World → Prop} {e : Value} (hen : Enters K.P g)
    (hfn : FnE K.P g fargs Pre e) (hargs : first ++ args.toArray ++ cap = fargs.toArray) (hpre : ∀ Ds w, St K Ds w H → Pre w) (hk : J K r H (k e) Q) :
    J K r H (.op false (callS (.func (.func g) first cap) args) k) Q :=
  J.call0 hen hfn hargs hpre fun v H1 hv => J.imp (Imp.sub (List.sublist_append_right H1 H)) (by rw [hv]; exact hk)

theorem J.callG {g : FuncId} {first cap : Array Value} {args fargs : List Value} {k : Value → Prog} {Pre : World → Prop} {R : Value → List Ent → Prop} (hen : Enters K.P g)
    (hfn : Fn K.P g fargs Pre [] R) (hargs : first ++ args.toArray ++ cap = fargs.toArray) (hpre : ∀ Ds w, St K Ds w H → Pre w) (hk : ∀ v H1, R v H1 → J K r (H1 ++ H) (k v) Q) :
    J K r H (.op false (callS (.func (.func g) first cap) args) k) Q := J.call0 hen hfn hargs hpre hk

/-- At a return. -/
theorem RetQ.e0 {P : Program} {e : Value} (h : .tuple #[] = e) : RetQ P K [] (fun v _ => v = e) .ret [] H := ⟨rfl, _, fun _ _ => rfl, h⟩
theorem RetQ.e1 {P : Program} {t : Nat} {v e : Value} (h : v = e) : RetQ P K [.tmp t] (fun v _ => v = e) .ret [v] H := ⟨rfl, v, fun _ _ => rfl, h⟩
theorem RetQ.e2 {P : Program} {t t' : Nat} {v v' e : Value} (h : .tuple #[v, v'] = e) : RetQ P K [.tmp t, .tmp t'] (fun v _ => v = e) .ret [v, v'] H := ⟨rfl, _, fun _ _ => rfl, h⟩
theorem RetQ.e3 {P : Program} {t t' t'' : Nat} {v v' v'' e : Value} (h : .tuple #[v, v', v''] = e) : RetQ P K [.tmp t, .tmp t', .tmp t''] (fun v _ => v = e) .ret [v, v', v''] H := ⟨rfl, _, fun _ _ => rfl, h⟩
theorem RetQ.c {c T n b : Nat} {l : List Value} {f : Ent → List Ent} {e : Value} (hT : aggN K.P T n = true) (hp : Pick H (Ent.cells b l T) f) (hl : l.length = n) (h : .agg l.toArray = e) :
    RetQ K.P K [.cell c T] (fun v _ => v = e) .ret [.pointer (some ⟨b, 0, none⟩)] H := ⟨rfl, _, fun w hs => res_cell hT hl (hs.ents _ hp.mem), h⟩
theorem RetQ.r1 {P : Program} {t : Nat} {v : Value} {R : Value → List Ent → Prop} (h : R v H) : RetQ P K [.tmp t] R .ret [v] H := ⟨rfl, v, fun _ _ => rfl, h⟩
theorem RetQ.r2 {P : Program} {t t' : Nat} {v v' : Value} {R : Value → List Ent → Prop} (h : R (.tuple #[v, v']) H) : RetQ P K [.tmp t, .tmp t'] R .ret [v, v'] H := ⟨rfl, _, fun _ _ => rfl, h⟩
theorem RetQ.rc {c T n b : Nat} {l : List Value} {f : Ent → List Ent} {R : Value → List Ent → Prop} (hT : aggN K.P T n = true) (hp : Pick H (Ent.cells b l T) f) (hl : l.length = n) (h : R (.agg l.toArray) H) :
    RetQ K.P K [.cell c T] R .ret [.pointer (some ⟨b, 0, none⟩)] H := ⟨rfl, _, fun w hs => res_cell hT hl (hs.ents _ hp.mem), h⟩

theorem R.max {ts : Array TypeId} {ty : Nat} {cs : Array Bool} {kk : IntKind} {a b : Int} : Runs K H (bltS .max ts ty cs [.int kk a, .int kk b]) (.int kk (if b > a then b else a)) := .of fun w => by
  show (builtin .max ts ty cs #[_, _]).run K.P w = _
  simp [builtin, Builtin.max_, Builtin.max2]
theorem R.min {ts : Array TypeId} {ty : Nat} {cs : Array Bool} {kk : IntKind} {a b : Int} : Runs K H (bltS .min ts ty cs [.int kk a, .int kk b]) (.int kk (if b < a then b else a)) := .of fun w => by
  show (builtin .min ts ty cs #[_, _]).run K.P w = _
  simp [builtin, Builtin.min_, Builtin.min2]
theorem R.shr {t : TypeId} {x y : Operand} {k k' : IntKind} {a b : Int} (hb : 0 ≤ b) : Runs K H (binS .shr t x y (.int k a) (.int k' b)) (.int k (a.fdiv (2 ^ (Nat.min b.toNat k.bits)))) := .of fun w => vS_run (by
  have he : (eqGuard .shr t x y (.int k a) (.int k' b)).run K.P w = .ok () w := rfl
  have : ¬ b < 0 := by omega
  simp only [Sem.run_bind, he, Result.andThen_ok, binOp, Op.shift, this, if_false]
  rfl)
theorem R.shl {t : TypeId} {x y : Operand} {k k' : IntKind} {a b : Int} (hb : 0 ≤ b) : Runs K H (binS .shl t x y (.int k a) (.int k' b)) (.int k (k.wrap (a * 2 ^ (Nat.min b.toNat k.bits)))) := .of fun w => vS_run (by
  have he : (eqGuard .shl t x y (.int k a) (.int k' b)).run K.P w = .ok () w := rfl
  have : ¬ b < 0 := by omega
  simp only [Sem.run_bind, he, Result.andThen_ok, binOp, Op.shift, this, if_false]
  rfl)
end
end Go.Proofs.Ytipgdalebkhgpaa.Fw
namespace Go.Proofs.Ytipgdalebkhgpaa.Fw
open Go Go.RowKit
/-- A part whose ends are told by R; what follows, once. -/
theorem J.bindJ {K : Kx} {r : Option Nat} {H : List Ent} {Q : Post} {p : Prog} {k : List Value → Prog} (R : List Value → List Ent → Prop) (h : J K r H p fun x vs H' => match x with | .normal => R vs H' | x => Q x vs H')
    (hk : ∀ vs H', R vs H' → J K r H' (k vs) Q) : J K r H (.bind p k) Q := by
  refine J.bind (J.weak ?_ h)
  intro x vs H' hq
  cases x with
  | normal => exact ⟨H', Imp.refl _, hk vs H' hq⟩
  | exit id => exact ⟨H', Imp.refl _, hq⟩
  | ret => exact ⟨H', Imp.refl _, hq⟩
end Go.Proofs.Ytipgdalebkhgpaa.Fw
namespace Go.Proofs.Ytipgdalebkhgpaa.Fw
open Go Go.RowKit
/-- A loop that leaves the entries as they are. -/
theorem J.loopH {K : Kx} {r : Option Nat} {H : List Ent} {Q : Post} {α : Type} (I : α → Prop) (V : α → List Value) (μ : α → Nat) (a0 : α) {vs : List Value} {body : List Value → Prog} (h0 : I a0) (hv : vs = V a0)
    (hb : ∀ a, I a → J K r H (body (V a)) fun x vs' H' => match x with | .normal => ∃ a', I a' ∧ vs' = V a' ∧ Imp K H' H ∧ μ a' < μ a | x => Q x vs' H') : J K r H (.loop vs body) Q :=
  J.loop I V (fun _ => H) μ a0 h0 hv (Imp.refl _) hb
end Go.Proofs.Ytipgdalebkhgpaa.Fw
