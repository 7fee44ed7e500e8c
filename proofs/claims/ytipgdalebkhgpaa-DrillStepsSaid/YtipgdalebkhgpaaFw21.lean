/-
  Range over a function: iterators told by the row of what they yield.
-/
import Derived.Test.YtipgdalebkhgpaaFw20
set_option linter.unusedVariables false
namespace Go.Proofs.Ytipgdalebkhgpaa.Fw
open Go Go.RowKit

/-- A loop's record that waits for the next yield. -/
abbrev rdy (l : Nat) (L : Loop) : Ent := Ent.obj l (lp L .ready none)

/-- What a body owes at what comes as number k: I, what holds ahead of number k; IX, what holds where it is left. -/
def BodyOk (P : Program) (l : Nat) (L : Loop) (w1 : World) (H0 : List Ent) (body : List Value → Prog) (xs : List (List Value)) (I : Nat → List Ent → Prop) (IX : Ex → List Ent → Prop) : Prop :=
  ∀ (k : Nat) (vs : List Value) (Hk : List Ent) (w0 : World), xs[k]? = some vs → I k Hk → Sep w0 (rdy l L :: Hk) → St ⟨P, w1, footOf (rdy l L :: H0)⟩ [] w0 (rdy l L :: Hk) →
    J ⟨P, w0, footOf (rdy l L :: Hk)⟩ (some l) (rdy l L :: Hk) (body vs) fun x _ H' => ∃ H2, Take H' [Ent.obj l (lp L .busy none)] H2 ∧ match x with | .normal => I (k + 1) H2 | x => IX x H2

def IterEnd (l : Nat) (L : Loop) (n : Nat) (I : Nat → List Ent → Prop) (IX : Ex → List Ent → Prop) (H1 : List Ent) : Prop :=
  (∃ H2, Take H1 [rdy l L] H2 ∧ I n H2) ∨ ∃ x H2, x ≠ .normal ∧ Take H1 [Ent.obj l (lp L .done (some x.code))] H2 ∧ IX x H2

/-- The function gf, with lb captured, yields xs, one behind the other. -/
def IterOk (P : Program) (gf : FuncId) (lb : List Value) (xs : List (List Value)) (n : Nat) (PreI : World → (Nat → Prop) → Prop) : Prop :=
  ∀ (l : Nat) (L : Loop) (w1 : World) (body : List Value → Prog) (I : Nat → List Ent → Prop) (IX : Ex → List Ent → Prop) (H0 : List Ent),
    YOk P l L n body → I 0 H0 → BodyOk P l L w1 H0 body xs I IX → Sep w1 (rdy l L :: H0) → PreI w1 (footOf (rdy l L :: H0)) →
    Calls P gf (.func (.yield l) #[] #[] :: lb).toArray w1 fun e w3 => ∃ v, e = .returned v ∧ ∃ H1, IterEnd l L xs.length I IX H1 ∧ St ⟨P, w1, footOf (rdy l L :: H0)⟩ [] w3 H1

section
variable {K : Kx} {H : List Ent} {Q : Post}

theorem Out.append {H Hr H' : List Ent} {e : Ent} (h : Out H e H') : Out (H ++ Hr) e (H' ++ Hr) := by
  induction h with
  | here => exact .here
  | there _ ih => exact .there ih
theorem Take.append {H es H' : List Ent} (Hr : List Ent) (h : Take H es H') : Take (H ++ Hr) es (H' ++ Hr) := by
  induction h with
  | nil => exact .nil
  | cons h1 _ ih => exact .cons h1.append ih

theorem Take.all : ∀ {H : List Ent}, Take H H []
  | [] => .nil
  | _ :: _ => .cons .here Take.all
theorem Take.split : ∀ {A B : List Ent}, Take (A ++ B) A B
  | [], _ => .nil
  | _ :: _, _ => .cons .here Take.split

theorem Ex.code_ne {x : Ex} (h : x ≠ .normal) : x.code ≠ .skip := by
  cases x with
  | normal => exact absurd rfl h
  | exit id => exact fun e => by cases e
  | ret => exact fun e => by cases e

/-- A loop over an iterator. Hc: entries that the body does not see. -/
theorem J.rangeI {gf : FuncId} {lb : List Value} {xs : List (List Value)} {n : Nat} {PreI : World → (Nat → Prop) → Prop} {body : List Value → Prog} {kk : Ex → Prog} (I : Nat → List Ent → Prop) (IX : Ex → List Ent → Prop) {Hc H0 : List Ent}
    (hen : Enters K.P gf) (hit : IterOk K.P gf lb xs n PreI) (hT : Take H Hc H0) (h0 : I 0 H0) (hpre : ∀ Ds w F, St K Ds w H → (∀ e, e ∈ Hc → ∀ b, e.foot b → ¬ F b) → (∀ b, F b → K.F0 b ∨ K.W.heap.size ≤ b) → PreI w F)
    (hb : ∀ (l : Nat) (L : Loop) (w1 : World) (Ds : List Nat), St K Ds w1 (rdy l L :: H0) → BodyOk K.P l L w1 H0 body xs I IX)
    (hN : ∀ H2, I xs.length H2 → J K none (H2 ++ Hc) (kk .normal) Q) (hX : ∀ x H2, x ≠ .normal → IX x H2 → J K none (H2 ++ Hc) (kk x) Q) :
    J K none H (.rangeF (.func (.func gf) #[] lb.toArray) n body kk) Q := by
  refine J.rangeF (QN := fun H2 => ∃ H3, H2 = H3 ++ Hc ∧ I xs.length H3) (QX := fun x H2 => ∃ H3, H2 = H3 ++ Hc ∧ x ≠ .normal ∧ IX x H3) hen ?_ ?_ ?_
  · rintro l L w1 hY ⟨Ds, hs⟩
    have hp : (rdy l L :: H).Perm ((rdy l L :: H0) ++ Hc) := by
      refine (List.Perm.cons _ (hT.perm.trans List.perm_append_comm)).trans ?_
      exact List.Perm.refl _
    have hs1 := hs.perm hp
    have hs0 : St K Ds w1 (rdy l L :: H0) := hs1.sub (List.sublist_append_left _ _)
    have hs2 : St K Ds w1 H := hs.sub (List.sublist_cons_self _ _)
    have hF : ∀ e, e ∈ Hc → ∀ b, e.foot b → ¬ footOf (rdy l L :: H0) b := by
      rintro e he b hb ⟨e', he', hb'⟩
      have hd := hs1.disj
      rw [List.pairwise_append] at hd
      exact hd.2.2 e' he' e he b hb' hb
    have hF2 : ∀ b, footOf (rdy l L :: H0) b → K.F0 b ∨ K.W.heap.size ≤ b := fun b ⟨e', he', hb'⟩ => hs0.own e' he' b hb'
    have hc := hit l L w1 body I IX H0 hY h0 (hb l L w1 Ds hs0) hs0.sep (hpre Ds w1 _ hs2 hF hF2)
    have he : #[Value.func (.yield l) #[] #[]] ++ lb.toArray = (.func (.yield l) #[] #[] :: lb).toArray := by simp
    rw [he]
    refine Calls.mono hc ?_
    rintro e w3 ⟨v, rfl, H1, hend, hst⟩
    have hfr : St ⟨K.P, w1, footOf (rdy l L :: H)⟩ [] w1 ((rdy l L :: H0) ++ Hc) := (St.fresh hs.sep).perm hp
    have hcall := hfr.call hst
    refine ⟨v, rfl, H1 ++ Hc, hcall, ?_⟩
    rcases hend with ⟨H2, ht, hi⟩ | ⟨x, H2, hx, ht, hi⟩
    · exact .inl ⟨H2 ++ Hc, ht.append Hc, H2, rfl, hi⟩
    · exact .inr ⟨x, H2 ++ Hc, Ex.code_ne hx, ht.append Hc, H2, rfl, hx, hi⟩
  · rintro H2 ⟨H3, rfl, hi⟩
    exact hN H3 hi
  · rintro x H2 ⟨H3, rfl, hx, hi⟩
    exact hX x H3 hx hi

/-- A yield, in an iterator that is to be told so. -/
theorem J.yieldI {r : Option Nat} {k n l : Nat} {L : Loop} {w1 : World} {H0 Hk Hr : List Ent} {vs : List Value} {xs : List (List Value)} {body : List Value → Prog} {kk : Value → Prog} {I : Nat → List Ent → Prop} {IX : Ex → List Ent → Prop}
    (hY : YOk K.P l L n body) (hK : K = ⟨K.P, w1, footOf (rdy l L :: H0)⟩) (hB : BodyOk K.P l L w1 H0 body xs I IX) (hx : xs[k]? = some vs) (hlen : vs.length = n) (hT : Take H (rdy l L :: Hk) Hr) (hI : I k Hk)
    (ht : ∀ H2, I (k + 1) H2 → J K r (rdy l L :: H2 ++ Hr) (kk (.bool true)) Q)
    (hf : ∀ x H2, x ≠ .normal → IX x H2 → J K r (Ent.obj l (lp L .done (some x.code)) :: H2 ++ Hr) (kk (.bool false)) Q) :
    J K r H (.op false (callS (.func (.yield l) #[] #[]) vs) kk) Q := by
  refine J.yield (Hb := Hk) (Hr := Hr) (PreB := fun w0 => St ⟨K.P, w1, footOf (rdy l L :: H0)⟩ [] w0 (rdy l L :: Hk)) (QB := fun x H2 => match x with | .normal => I (k + 1) H2 | x => IX x H2) hY hlen hT ?_ ?_ ht ?_
  · intro Ds w hs
    have h2 := ((hs.perm hT.perm).sub (List.sublist_append_left _ _)).unmark
    rw [hK] at h2
    exact h2
  · intro w0 hsep hst
    exact hB k vs Hk w0 hx hI hsep hst
  · intro x H2 hx hq
    cases x with
    | normal => exact absurd rfl hx
    | exit id => exact hf _ H2 hx hq
    | ret => exact hf _ H2 hx hq
end
end Go.Proofs.Ytipgdalebkhgpaa.Fw
