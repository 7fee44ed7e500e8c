/-
  Range over a function: a loop's record, its body's begin, and the yield.
-/
import Derived.Test.YtipgdalebkhgpaaFw18
set_option linter.unusedVariables false
namespace Go.Proofs.Ytipgdalebkhgpaa.Fw
open Go Go.RowKit

section
variable {K : Kx} {r : Option Nat} {H : List Ent} {Q : Post}

theorem St.put {Ds : List Nat} {w : World} {l : Nat} {o o' : Obj} {f : Ent → List Ent} (hs : St K Ds w H) (hp : Pick H (Ent.obj l o) f) : St K Ds (w.putObj l o') (f (Ent.obj l o')) := by
  have hb := hs.ents _ hp.mem
  have hlt : l < w.heap.size := (Array.getElem?_eq_some_iff.1 hb).1
  exact hs.turn hp rfl rfl rfl (by simp) (fun x hx => .inl hx) (fun x _ hx => World.putObj_heap_other hx) (World.putObj_heap_same hlt)
theorem St.unmark {Ds : List Nat} {w : World} (hs : St K Ds w H) : St K [] w H :=
  ⟨hs.os, hs.tape, hs.output, hs.size, hs.frame, hs.ents, hs.own, hs.disj, List.nodup_nil, fun D hD => (by cases hD)⟩
theorem St.fresh {P : Program} {w : World} (h : Sep w H) : St ⟨P, w, footOf H⟩ [] w H :=
  ⟨rfl, rfl, rfl, Nat.le_refl _, fun _ _ _ => rfl, h.ents, fun e he b hb => .inl ⟨e, he, hb⟩, h.disj, List.nodup_nil, fun D hD => (by cases hD)⟩
theorem St.sep {Ds : List Nat} {w : World} (hs : St K Ds w H) : Sep w H := ⟨hs.ents, hs.disj⟩

theorem J.begin {l : Nat} {L : Loop} {f : Ent → List Ent} {p : Prog} (hp : Pick H (Ent.obj l (lp L .ready none)) f) (h : J K (some l) (f (Ent.obj l (lp L .busy none))) p Q) : J K (some l) H (.begin p) Q :=
  fun Ds w hs => ⟨l, L, rfl, hs.ents _ hp.mem, h Ds _ (hs.put hp)⟩

/-- What a yield to this loop comes to, out of what its body achieves. -/
def YOk (P : Program) (l : Nat) (L : Loop) (n : Nat) (body : List Value → Prog) : Prop := ∀ (vs : List Value) (w : World) (R : Value → World → Prop), vs.length = n → w.heap[l]? = some (lp L .ready none) →
  (body vs).wp P (some l) [] (fun _ x _ w' => w'.heap[l]? = some (lp L .busy none) ∧
    (match x with | .normal => R (.bool true) (w'.putObj l (lp L .ready none)) | x => R (.bool false) (w'.putObj l (lp L .done (some x.code))))) w →
  opU P R ((Instr.yield l vs.toArray).run P w)

theorem run_yieldS {P : Program} (l : Nat) (vs : List Value) (w : World) : (callS (.func (.yield l) #[] #[]) vs).run P w = (Instr.yield l vs.toArray).run P w := by
  unfold callS
  simp [Deferred.ofValue, invoke]

theorem J.yield {l n : Nat} {L : Loop} {body : List Value → Prog} {vs : List Value} {k : Value → Prog} {Hb Hr : List Ent} {PreB : World → Prop} {QB : Ex → List Ent → Prop} (hY : YOk K.P l L n body) (hlen : vs.length = n)
    (hT : Take H (Ent.obj l (lp L .ready none) :: Hb) Hr) (hpre : ∀ Ds w, St K Ds w H → PreB w)
    (hb : ∀ w0, Sep w0 (Ent.obj l (lp L .ready none) :: Hb) → PreB w0 → J ⟨K.P, w0, footOf (Ent.obj l (lp L .ready none) :: Hb)⟩ (some l) (Ent.obj l (lp L .ready none) :: Hb) (body vs) fun x _ H' => ∃ H2, Take H' [Ent.obj l (lp L .busy none)] H2 ∧ QB x H2)
    (ht : ∀ H2, QB .normal H2 → J K r (Ent.obj l (lp L .ready none) :: H2 ++ Hr) (k (.bool true)) Q)
    (hf : ∀ x H2, x ≠ .normal → QB x H2 → J K r (Ent.obj l (lp L .done (some x.code)) :: H2 ++ Hr) (k (.bool false)) Q) :
    J K r H (.op false (callS (.func (.yield l) #[] #[]) vs) k) Q := by
  intro Ds w hs
  show opU _ _ _
  rw [run_yieldS]
  have hs' := hs.perm hT.perm
  have hsc := (hs'.sub (List.sublist_append_left _ _)).sep
  refine hY vs w _ hlen (hs'.ents _ (List.mem_append_left _ List.mem_cons_self)) ?_
  refine Prog.wp_mono _ _ _ _ _ _ ?_ (hb w hsc (hpre Ds w hs) [] w (St.fresh hsc))
  rintro Ds' x vs' w' ⟨H', ⟨H2, hTk, hQ⟩, hst⟩
  have h2 := (hst.unmark).perm hTk.perm
  have hbz := h2.ents _ List.mem_cons_self
  refine ⟨hbz, ?_⟩
  have hput : ∀ o', St ⟨K.P, w, footOf (Ent.obj l (lp L .ready none) :: Hb)⟩ [] (w'.putObj l o') (Ent.obj l o' :: H2) := fun o' => h2.put Pick.here
  cases x with
  | normal => exact ht H2 hQ Ds _ (hs'.call (hput _))
  | exit id => exact hf _ H2 (fun e => by cases e) hQ Ds _ (hs'.call (hput _))
  | ret => exact hf _ H2 (fun e => by cases e) hQ Ds _ (hs'.call (hput _))
end
end Go.Proofs.Ytipgdalebkhgpaa.Fw
