/-
  Calls that answer a Bool; blocks that are only read, at whatever frame; slices written out.
-/
import Derived.Test.YtipgdalebkhgpaaFw22
set_option linter.unusedVariables false
namespace Go.Proofs.Ytipgdalebkhgpaa.Fw
open Go Go.RowKit

/-- World w' has all that w has, as it was. -/
def Ext (w w' : World) : Prop := ∀ b, b < w.heap.size → w'.heap[b]? = w.heap[b]?
def Stab (Pre : World → Prop) : Prop := ∀ w w', Ext w w' → Pre w → Pre w'
theorem St.ext {P : Program} {W w : World} {Ds : List Nat} {H : List Ent} (hs : St ⟨P, W, footOf []⟩ Ds w H) : Ext W w := fun b hb => hs.frame b hb not_foot
theorem Blk.ext {b : Nat} {cs : List Value} {T : TypeId} {w w' : World} (h : Blk w b cs T) (hx : Ext w w') : Blk w' b cs T := (hx b (Array.getElem?_eq_some_iff.1 h).1).trans h
theorem Stab.blk {b : Nat} {cs : List Value} {T : TypeId} : Stab fun w => Blk w b cs T := fun _ _ hx h => h.ext hx
theorem Stab.and {A B : World → Prop} (ha : Stab A) (hb : Stab B) : Stab fun w => A w ∧ B w := fun w w' hx h => ⟨ha w w' hx h.1, hb w w' hx h.2⟩
theorem Stab.triv : Stab fun _ => True := fun _ _ _ h => h
theorem Stab.rd {v : Value} {sz : Nat} {els : List (List Value)} (hl : ∀ l, l ∈ els → l ≠ []) : Stab fun w => RdS w v sz els := fun w w' hx h => by
  rcases h.under hl with rfl | hu
  · obtain ⟨a, c, rfl, hm, h⟩ := h
    exact ⟨a, c, rfl, hm, fun i l hi => by simp at hi⟩
  · exact h.keep fun b hb => hx b (hu b hb)

def arrT (P : Program) (T n E sz : Nat) : Bool :=
  match P.underlying T, P.info? E with
  | some (.array m e), some i => Nat.beq m n && Nat.beq e E && Nat.beq i.size sz
  | _, _ => false
theorem arrT_spec {P : Program} {T n E sz : Nat} (h : arrT P T n E sz = true) : P.underlying T = some (.array n E) ∧ ∃ i, P.info? E = some i ∧ i.size = sz := by
  unfold arrT at h
  split at h
  · rename_i m e i h1 h2
    simp only [Bool.and_eq_true] at h
    obtain ⟨⟨h3, h4⟩, h5⟩ := h
    have e1 := Nat.eq_of_beq_eq_true h3
    have e2 := Nat.eq_of_beq_eq_true h4
    subst e1 e2
    exact ⟨h1, i, h2, Nat.eq_of_beq_eq_true h5⟩
  · cases h

section
variable {K : Kx} {r : Option Nat} {H : List Ent} {Q : Post}

/-- A block of the start that no entry has. -/
theorem Blk.at {b : Nat} {cs : List Value} {T : TypeId} (h : Blk K.W b cs T) (hF : ¬ K.F0 b) {Ds : List Nat} {w : World} (hs : St K Ds w H) : Blk w b cs T := (hs.frame b (Array.getElem?_eq_some_iff.1 h).1 hF).trans h
theorem Blk.at0 {P : Program} {W : World} {b : Nat} {cs : List Value} {T : TypeId} (h : Blk W b cs T) {Ds : List Nat} {w : World} (hs : St ⟨P, W, footOf []⟩ Ds w H) : Blk w b cs T := h.ext hs.ext
theorem R.ldBk {T T' b o : Nat} {cs : List Value} {v : Value} (hb : Blk K.W b cs T') (hF : ¬ K.F0 b) (hT : one K.P T = true) (hv : cs[o]? = some v) : Runs K H (vS (Instr.loadAt T (.pointer (some ⟨b, o, none⟩)))) v :=
  R.ldW hT ((cell_block hb o).trans hv) hF
theorem R.ldBkA {T T' n b o : Nat} {cs l : List Value} (hb : Blk K.W b cs T') (hF : ¬ K.F0 b) (hT : aggN K.P T n = true) (hl : (cs.drop o).take n = l) (hn : l.length = n) : Runs K H (vS (Instr.loadAt T (.pointer (some ⟨b, o, none⟩)))) (.agg l.toArray) :=
  R.ldWA hT hn (fun j v hj => by
    rw [add_block]
    refine (cell_block hb (o + j)).trans ?_
    rw [← hl] at hj
    rw [List.getElem?_take] at hj
    split at hj
    · rw [List.getElem?_drop] at hj; exact hj
    · cases hj) hF

/-- A call that answers a Bool: part at it. -/
theorem J.callEB {g : FuncId} {first cap : Array Value} {args fargs : List Value} {k : Value → Prog} {Pre : World → Prop} {c : Bool} (hen : Enters K.P g)
    (hfn : FnE K.P g fargs Pre (.bool c)) (hargs : first ++ args.toArray ++ cap = fargs.toArray) (hpre : ∀ Ds w, St K Ds w H → Pre w)
    (ht : c = true → J K r H (k (.bool true)) Q) (hf : c = false → J K r H (k (.bool false)) Q) :
    J K r H (.op false (callS (.func (.func g) first cap) args) k) Q := by
  refine J.callE hen hfn hargs hpre ?_
  cases c
  · exact hf rfl
  · exact ht rfl

/-- Cells as whole numbers. -/
inductive IntsOf : List Value → List Int → Prop where
  | nil : IntsOf [] []
  | cons {x : Int} {cs : List Value} {l : List Int} : IntsOf cs l → IntsOf (.int .i64 x :: cs) (x :: l)
theorem IntsOf.get {cs : List Value} {l : List Int} (h : IntsOf cs l) : ∀ (i : Nat) (x : Int), l[i]? = some x → cs[i]? = some (.int .i64 x) := by
  induction h with
  | nil => intro i x hx; simp at hx
  | cons h ih =>
    intro i x hx
    cases i with
    | zero => simp at hx; subst hx; rfl
    | succ i => exact ih i x (by simpa using hx)
theorem IntsOf.len {cs : List Value} {l : List Int} (h : IntsOf cs l) : cs.length = l.length := by
  induction h with
  | nil => rfl
  | cons h ih => simp [ih]
/-- A slice over a block of whole numbers. -/
theorem SeeS.ints {b n c : Nat} {cs : List Value} {l : List Int} {T : TypeId} {f : Ent → List Ent} (hp : Pick H (Ent.cells b cs T) f) (hl : IntsOf cs l) (hn : l.length = n) (hm : n ≤ maxLen) : SeeS K H (.slice (some ⟨b, 0, none⟩) n c) 1 (l.map fun x => [.int .i64 x]) :=
  SeeS.cells hp (by simpa using hn) hm fun i x hi j u hj => by
    simp only [List.getElem?_map, Option.map_eq_some_iff] at hi
    obtain ⟨y, hy, rfl⟩ := hi
    cases j with
    | zero => simp at hj; subst hj; simpa using hl.get i y hy
    | succ j => simp at hj
/-- A slice over a block that is written out. -/
theorem SeeS.lit {b n c sz : Nat} {cs : List Value} {els : List (List Value)} {T : TypeId} {f : Ent → List Ent} (hp : Pick H (Ent.cells b cs T) f) (hc : els.flatten = cs) (hsz : ∀ l, l ∈ els → l.length = sz) (hn : els.length = n) (hm : n ≤ maxLen) : SeeS K H (.slice (some ⟨b, 0, none⟩) n c) sz els :=
  SeeS.cells hp hn hm fun i x hi j u hj => by
    rw [← hc]
    exact flatten_getElem els i x j u hsz hi hj
/-- An array's element. -/
theorem R.ixA {T n E sz b o : Nat} {kk : IntKind} {i : Int} (hT : arrT K.P T n E sz = true) (h0 : 0 ≤ i) (hi : i < n) : Runs K H (vS (Instr.indexAt T (.pointer (some ⟨b, o, none⟩)) (.int kk i))) (.pointer (some ⟨b, o + i.toNat * sz, none⟩)) := .of fun w => by
  refine vS_run ?_
  obtain ⟨h1, inf, hinf, h2⟩ := arrT_spec hT
  unfold Instr.indexAt
  simp [asIntOf, run_und h1, Instr.sureAddr, h0, hi, sizeOf, typeInfo, hinf, h2, add_block]
theorem Runs.bool {s : Sem Next} {c : Bool} {b : Bool} (h : Runs K H s (.bool c)) (hc : c = b) : Runs K H s (.bool b) := hc ▸ h
/-- .. part at a test, as hypotheses on the Bool. -/
theorem J.gopQ {g : Value} {want q : Bool} {s : Sem Next} {k : Value → Prog} (hg : isB g want = true) (h : J K r H (.op q s k) Q) : J K r H (.gop g want q s k) Q := J.gopT hg h
end
end Go.Proofs.Ytipgdalebkhgpaa.Fw
