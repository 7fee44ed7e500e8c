/-
  A function's results, whatever their slots: values and cells.
-/
import Derived.Test.YtipgdalebkhgpaaFw21
set_option linter.unusedVariables false
namespace Go.Proofs.Ytipgdalebkhgpaa.Fw
open Go Go.RowKit

def mkRes : List Value → Value
  | [u] => u
  | us => .tuple us.toArray
theorem loadVar_agg {P : Program} {T T' n b : Nat} {l : List Value} {w : World} (hT : aggN P T n = true) (hl : l.length = n) (hb : w.heap[b]? = some (.cells l.toArray T' (0, 0))) : (loadVar T ⟨b, 0, none⟩).run P w = .ok (.agg l.toArray) w := by
  have h := run_loadAt_agg (P := P) hT (a := ⟨b, 0, none⟩) (l := l) (w := w) hl (fun j v hj => by
    rw [add_block, Nat.zero_add]
    exact (cell_block hb j).trans hj)
  unfold vS Instr.loadAt at h
  simp only [Instr.sureAddr, Sem.run_bind, Sem.run_pure, Result.andThen_ok] at h
  revert h
  cases (loadVar T ⟨b, 0, none⟩).run P w <;> intro h <;> simp_all [Result.andThen]
theorem loadVar_one {P : Program} {T T' b : Nat} {l : List Value} {v : Value} {w : World} (hT : one P T = true) (hv : l[0]? = some v) (hb : w.heap[b]? = some (.cells l.toArray T' (0, 0))) : (loadVar T ⟨b, 0, none⟩).run P w = .ok v w := by
  have h := run_loadAt_one (P := P) hT (a := ⟨b, 0, none⟩) (v := v) (w := w) ((cell_block hb 0).trans hv)
  unfold vS Instr.loadAt at h
  simp only [Instr.sureAddr, Sem.run_bind, Sem.run_pure, Result.andThen_ok] at h
  revert h
  cases (loadVar T ⟨b, 0, none⟩).run P w <;> intro h <;> simp_all [Result.andThen]

/-- The results' values us, out of their slots vs. -/
inductive ResOk (P : Program) (H : List Ent) : List ResultVar → List Value → List Value → Prop where
  | nil : ResOk P H [] [] []
  | tmp {rs : List ResultVar} {vs us : List Value} {t : Nat} {v : Value} : ResOk P H rs vs us → ResOk P H (.tmp t :: rs) (v :: vs) (v :: us)
  | cellA {rs : List ResultVar} {vs us l : List Value} {c T T' n b : Nat} {f : Ent → List Ent} : aggN P T n = true → Pick H (Ent.cells b l T') f → l.length = n → ResOk P H rs vs us → ResOk P H (.cell c T :: rs) (.pointer (some ⟨b, 0, none⟩) :: vs) (.agg l.toArray :: us)
  | cell1 {rs : List ResultVar} {vs us l : List Value} {c T T' b : Nat} {v : Value} {f : Ent → List Ent} : one P T = true → Pick H (Ent.cells b l T') f → l[0]? = some v → ResOk P H rs vs us → ResOk P H (.cell c T :: rs) (.pointer (some ⟨b, 0, none⟩) :: vs) (v :: us)

section
variable {K : Kx} {H : List Ent}
theorem ResOk.run {rs : List ResultVar} {vs us : List Value} (h : ResOk K.P H rs vs us) {w : World} (hs : St K [] w H) : (resS rs vs).run K.P w = .ok (mkRes us) w := by
  have ha : ∀ a, asAddr (.pointer (some a)) = pure a := fun _ => rfl
  have key : ((rs.zip vs).mapM fun (p : ResultVar × Value) => match p.1 with | .tmp _ => (pure p.2 : Sem Value) | .cell _ t => do loadVar t (← asAddr p.2)).run K.P w = .ok us w := by
    induction h with
    | nil => rfl
    | tmp h ih => simp only [List.zip_cons_cons, List.mapM_cons, Sem.run_bind, Sem.run_pure, Result.andThen_ok, ih]
    | cellA hT hp hl h ih =>
      simp only [List.zip_cons_cons, List.mapM_cons, Sem.run_bind, Sem.run_pure, Result.andThen_ok, ha, loadVar_agg hT hl (hs.ents _ hp.mem), ih]
    | cell1 hT hp hv h ih =>
      simp only [List.zip_cons_cons, List.mapM_cons, Sem.run_bind, Sem.run_pure, Result.andThen_ok, ha, loadVar_one hT hv (hs.ents _ hp.mem), ih]
  have e : (resS rs vs).run K.P w = (((rs.zip vs).mapM fun (p : ResultVar × Value) => match p.1 with | .tmp _ => (pure p.2 : Sem Value) | .cell _ t => do loadVar t (← asAddr p.2)) >>= fun us => (pure (match us with | [u] => u | us => .tuple us.toArray) : Sem Value)).run K.P w := rfl
  rw [e, Sem.run_bind, key]
  unfold mkRes
  rfl
theorem RetQ.g {rs : List ResultVar} {vs us : List Value} {R : Value → List Ent → Prop} (h : ResOk K.P H rs vs us) (hR : R (mkRes us) H) : RetQ K.P K rs R .ret vs H := ⟨rfl, _, fun w hs => h.run hs, hR⟩
/-- .. of a contract that tells the value alone. -/
theorem RetQ.ge {rs : List ResultVar} {vs us : List Value} {e : Value} (h : ResOk K.P H rs vs us) (hR : mkRes us = e) : RetQ K.P K rs (fun v _ => v = e) .ret vs H := RetQ.g h hR
/-- .. of a contract that leaves entries. -/
theorem RetQ.gt {rs : List ResultVar} {vs us : List Value} {R : Value → List Ent → Prop} {es : List Ent} (h : ResOk K.P H rs vs us) (hT : Has H es) (hR : R (mkRes us) es) : RetQ K.P K rs (fun v H1 => ∃ es, Has H1 es ∧ R v es) .ret vs H := RetQ.g h ⟨es, hT, hR⟩

/-- The end of a body of a loop over an iterator. -/
theorem Has.busy {es : List Ent} {l : Nat} {L : Loop} : Take (Ent.obj l (lp L .busy none) :: es) [Ent.obj l (lp L .busy none)] es := .cons .here .nil
end
end Go.Proofs.Ytipgdalebkhgpaa.Fw
