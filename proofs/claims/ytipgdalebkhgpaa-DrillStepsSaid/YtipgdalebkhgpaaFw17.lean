/-
  Many entries as one.
-/
import Derived.Test.YtipgdalebkhgpaaFw16
set_option linter.unusedVariables false
namespace Go.Proofs.Ytipgdalebkhgpaa.Fw
open Go Go.RowKit

def Ent.bag (es : List Ent) : Ent where
  foot := fun b => ∃ e, e ∈ es ∧ e.foot b
  holds := fun w => (∀ e, e ∈ es → e.holds w) ∧ es.Pairwise fun (e e' : Ent) => ∀ b : Nat, e.foot b → ¬ e'.foot b
  loc := fun w w' h hw => ⟨fun e he => e.loc w w' (fun b hb => h b ⟨e, he, hb⟩) (hw.1 e he), hw.2⟩
  inb := fun w hw b ⟨e, he, hb⟩ => e.inb w (hw.1 e he) b hb

section
variable {K : Kx} {r : Option Nat} {H : List Ent} {Q : Post}

theorem Imp.bagNil : Imp K H (Ent.bag [] :: H) := fun Ds w hs => by
  refine ⟨hs.os, hs.tape, hs.output, hs.size, hs.frame, ?_, ?_, ?_, hs.nodup, ?_⟩
  · intro e he
    cases he with
    | head => exact ⟨fun e he => (by cases he), List.Pairwise.nil⟩
    | tail _ he => exact hs.ents e he
  · intro e he b hb
    cases he with
    | head => obtain ⟨x, hx, _⟩ := hb; cases hx
    | tail _ he => exact hs.own e he b hb
  · exact List.pairwise_cons.2 ⟨fun e _ b hb => (by obtain ⟨x, hx, _⟩ := hb; cases hx), hs.disj⟩
  · intro D hD
    refine ⟨(hs.marks D hD).1, (hs.marks D hD).2.1, fun e he hf => ?_⟩
    cases he with
    | head => obtain ⟨x, hx, _⟩ := hf; cases hx
    | tail _ he => exact (hs.marks D hD).2.2 e he hf
theorem Imp.bagPush {e : Ent} {es : List Ent} : Imp K (e :: Ent.bag es :: H) (Ent.bag (e :: es) :: H) := fun Ds w hs => by
  have hd := hs.disj
  rw [List.pairwise_cons, List.pairwise_cons] at hd
  obtain ⟨h1, h2, h3⟩ := hd
  have hb := hs.ents (Ent.bag es) (by simp)
  have he := hs.ents e (by simp)
  refine ⟨hs.os, hs.tape, hs.output, hs.size, hs.frame, ?_, ?_, ?_, hs.nodup, ?_⟩
  · intro x hx
    cases hx with
    | head =>
      refine ⟨fun y hy => ?_, List.pairwise_cons.2 ⟨fun y hy b hb1 hb2 => h1 (Ent.bag es) (by simp) b hb1 ⟨y, hy, hb2⟩, hb.2⟩⟩
      cases hy with
      | head => exact he
      | tail _ hy => exact hb.1 y hy
    | tail _ hx => exact hs.ents x (List.mem_cons_of_mem _ (List.mem_cons_of_mem _ hx))
  · intro x hx b hxb
    cases hx with
    | head =>
      obtain ⟨y, hy, hyb⟩ := hxb
      cases hy with
      | head => exact hs.own e (by simp) b hyb
      | tail _ hy => exact hs.own (Ent.bag es) (by simp) b ⟨y, hy, hyb⟩
    | tail _ hx => exact hs.own x (List.mem_cons_of_mem _ (List.mem_cons_of_mem _ hx)) b hxb
  · refine List.pairwise_cons.2 ⟨fun x hx b hxb => ?_, h3⟩
    obtain ⟨y, hy, hyb⟩ := hxb
    cases hy with
    | head => exact h1 x (List.mem_cons_of_mem _ hx) b hyb
    | tail _ hy => exact h2 x hx b ⟨y, hy, hyb⟩
  · intro D hD
    obtain ⟨m1, m2, m3⟩ := hs.marks D hD
    refine ⟨m1, m2, fun x hx hf => ?_⟩
    cases hx with
    | head =>
      obtain ⟨y, hy, hyb⟩ := hf
      cases hy with
      | head => exact m3 e (by simp) hyb
      | tail _ hy => exact m3 (Ent.bag es) (by simp) ⟨y, hy, hyb⟩
    | tail _ hx => exact m3 x (List.mem_cons_of_mem _ (List.mem_cons_of_mem _ hx)) hf
theorem SeeS.bag {v : Value} {sz : Nat} {els : List (List Value)} {E : TypeId} {es : List Ent} {f : Ent → List Ent} (hp : Pick H (Ent.bag es) f) (hm : Ent.row v sz els E ∈ es) : SeeS K H v sz els := fun _ w hs =>
  have h := (hs.ents _ hp.mem).1 _ hm
  ownsRow_rd h.1 h.2
end
end Go.Proofs.Ytipgdalebkhgpaa.Fw
