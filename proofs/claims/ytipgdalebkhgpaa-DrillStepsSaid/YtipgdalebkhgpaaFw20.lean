/-
  Range over a function: the loop.
-/
import Derived.Test.YtipgdalebkhgpaaFw19
set_option linter.unusedVariables false
namespace Go.Proofs.Ytipgdalebkhgpaa.Fw
open Go Go.RowKit

section
variable {K : Kx} {H : List Ent} {Q : Post} {Ds : List Nat} {w : World}

theorem St.addNew {l : Nat} {o : Obj} (hs : St K Ds w H) (hl : K.W.heap.size ≤ l) (hf : ∀ e, e ∈ H → ¬ e.foot l) (hd : l ∉ Ds) (h : w.heap[l]? = some o) : St K Ds w (Ent.obj l o :: H) := by
  refine ⟨hs.os, hs.tape, hs.output, hs.size, hs.frame, ?_, ?_, ?_, hs.nodup, ?_⟩
  · intro e he
    cases he with
    | head => exact h
    | tail _ he => exact hs.ents e he
  · intro e he b hb
    cases he with
    | head => have hb' : b = l := hb; subst hb'; exact .inr hl
    | tail _ he => exact hs.own e he b hb
  · refine List.pairwise_cons.2 ⟨fun e he b hb hb2 => ?_, hs.disj⟩
    have hb' : b = l := hb
    subst hb'
    exact hf e he hb2
  · intro D hD
    refine ⟨(hs.marks D hD).1, (hs.marks D hD).2.1, fun e he hfo => ?_⟩
    cases he with
    | head => have hb' : D = l := hfo; subst hb'; exact hd hD
    | tail _ he => exact (hs.marks D hD).2.2 e he hfo
theorem St.addMark {D : Nat} (hs : St K Ds w H) (hl : K.W.heap.size ≤ D) (hf : ∀ e, e ∈ H → ¬ e.foot D) (hd : D ∉ Ds) (h : w.heap[D]? = some (.deferred (some []))) : St K (D :: Ds) w H :=
  ⟨hs.os, hs.tape, hs.output, hs.size, hs.frame, hs.ents, hs.own, hs.disj, List.nodup_cons.2 ⟨hd, hs.nodup⟩, fun D' hD' => by
    cases hD' with
    | head => exact ⟨h, hl, hf⟩
    | tail _ h' => exact hs.marks D' h'⟩

theorem J.rangeF {gf : FuncId} {lb : Array Value} {n : Nat} {body : List Value → Prog} {kk : Ex → Prog} {QN : List Ent → Prop} {QX : Ex → List Ent → Prop} (hen : Enters K.P gf)
    (hit : ∀ (l : Nat) (L : Loop) (w1 : World), YOk K.P l L n body → (∃ Ds, St K Ds w1 (Ent.obj l (lp L .ready none) :: H)) →
      Calls K.P gf (#[.func (.yield l) #[] #[]] ++ lb) w1 fun e w3 => ∃ v, e = .returned v ∧ ∃ H1, St ⟨K.P, w1, footOf (Ent.obj l (lp L .ready none) :: H)⟩ [] w3 H1 ∧
        ((∃ H2, Take H1 [Ent.obj l (lp L .ready none)] H2 ∧ QN H2) ∨ ∃ x H2, x.code ≠ .skip ∧ Take H1 [Ent.obj l (lp L .done (some x.code))] H2 ∧ QX x H2))
    (hN : ∀ H2, QN H2 → J K none H2 (kk .normal) Q) (hX : ∀ x H2, QX x H2 → J K none H2 (kk x) Q) :
    J K none H (.rangeF (.func (.func gf) #[] lb) n body kk) Q := by
  intro Ds w hs
  refine ⟨gf, lb, rfl, hen, (fun l0 h => by cases h), ?_⟩
  intro l D w1 L hbel hl hsz hD hrec hy
  obtain ⟨hD1, hD2, hD3⟩ := hD rfl
  have h1 := hs.below hbel
  have hnew : ∀ b, w.heap.size ≤ b → ∀ e, e ∈ H → ¬ e.foot b := fun b hb e he hf => by
    have := e.inb w (hs.ents e he) b hf
    omega
  have hmk : ∀ b, w.heap.size ≤ b → b ∉ Ds := fun b hb hm => by
    have := hs.lt_mark hm
    omega
  have h2 : St K Ds w1 (Ent.obj l (lp L .ready none) :: H) := h1.addNew (Nat.le_trans hs.size hl) (hnew l hl) (hmk l hl) hrec
  have h3 : St K (D :: Ds) w1 (Ent.obj l (lp L .ready none) :: H) := h2.addMark (Nat.le_trans hs.size hD1) (fun e he hf => by
    cases he with
    | head => exact hD2 hf
    | tail _ he => exact hnew D hD1 e he hf) (hmk D hD1) hD3
  have hY : YOk K.P l L n body := fun vs w R a b c => hy vs w R a b (Prog.wp_Ds _ _ [] Ds _ _ _ (fun _ _ _ _ _ h => h) c)
  refine Calls.mono (hit l L w1 hY ⟨Ds, h2⟩) ?_
  rintro e w3 ⟨v, rfl, H1, hst, hcase⟩
  have h4 : St K (D :: Ds) w3 (H1 ++ []) := St.call (Hr := []) (by rw [List.append_nil]; exact h3) hst
  rw [List.append_nil] at h4
  refine ⟨v, rfl, ?_⟩
  rcases hcase with ⟨H2, hT, hq⟩ | ⟨x, H2, hx, hT, hq⟩
  · have h5 := h4.perm hT.perm
    exact .inl ⟨h5.ents _ List.mem_cons_self, hN H2 hq _ _ ((h5.put (o' := lp L .exhausted none) Pick.here).sub (List.sublist_cons_self _ _))⟩
  · have h5 := h4.perm hT.perm
    exact .inr ⟨x, hx, h5.ents _ List.mem_cons_self, hX x H2 hq _ _ ((h5.put (o' := lp L .exhausted (some x.code)) Pick.here).sub (List.sublist_cons_self _ _))⟩
end
end Go.Proofs.Ytipgdalebkhgpaa.Fw
