/-
  Slices of the start that lie outside the entries a callee gets.
-/
import Derived.Test.YtipgdalebkhgpaaFw24
set_option linter.unusedVariables false
namespace Go.Proofs.Ytipgdalebkhgpaa.Fw
open Go Go.RowKit

/-- v reads as els, and does not lie in F. -/
def RdF (w : World) (v : Value) (sz : Nat) (els : List (List Value)) (F : Nat → Prop) : Prop := RdS w v sz els ∧ (els = [] ∨ ∀ b, v.ownBlock = some b → ¬ F b)
theorem RdF.base {w : World} {v : Value} {sz : Nat} {els : List (List Value)} (h : RdS w v sz els) : RdF w v sz els (footOf []) := ⟨h, .inr fun _ _ => not_foot⟩

section
variable {K : Kx} {r : Option Nat} {H Hc : List Ent} {Q : Post}
theorem RdF.now {Ds : List Nat} {w : World} {v : Value} {sz : Nat} {els : List (List Value)} (h : RdF K.W v sz els K.F0) (hl : ∀ l, l ∈ els → l ≠ []) (hs : St K Ds w H) : RdS w v sz els := by
  obtain ⟨h1, h2⟩ := h
  rcases h1.under hl with rfl | hu
  · obtain ⟨a, c, rfl, hm, h⟩ := h1
    exact ⟨a, c, rfl, hm, fun i l hi => by simp at hi⟩
  · rcases h2 with rfl | h2
    · obtain ⟨a, c, rfl, hm, h⟩ := h1
      exact ⟨a, c, rfl, hm, fun i l hi => by simp at hi⟩
    · exact h1.keep fun b hb => hs.frame b (hu b hb) (h2 b hb)
theorem SeeS.ofF {v : Value} {sz : Nat} {els : List (List Value)} (h : RdF K.W v sz els K.F0) (hl : ∀ l, l ∈ els → l ≠ []) : SeeS K H v sz els := fun _ _ hs => h.now hl hs
/-- .. for a callee that gets Hc. -/
theorem RdF.arg {Ds : List Nat} {w : World} {v : Value} {sz : Nat} {els : List (List Value)} (h : RdF K.W v sz els K.F0) (hl : ∀ l, l ∈ els → l ≠ []) (hs : St K Ds w H) (hsub : ∀ e, e ∈ Hc → e ∈ H) : RdF w v sz els (footOf Hc) := by
  refine ⟨h.now hl hs, ?_⟩
  obtain ⟨h1, h2⟩ := h
  rcases h1.under hl with he | hu
  · exact .inl he
  · rcases h2 with he | h2
    · exact .inl he
    · refine .inr fun b hb ⟨e, he, hf⟩ => ?_
      rcases hs.own e (hsub e he) b hf with h3 | h3
      · exact h2 b hb h3
      · have := hu b hb
        omega
/-- .. what the row is then told otherwise. -/
theorem J.stRowU {T E sz g n c j off o : Nat} {els els' : List (List Value)} {l : List Value} {f : Ent → List Ent} {v : Value} {k : Value → Prog} (hT : sizeB K.P T 1 = true) (hp : Pick H (Ent.row (.slice (some ⟨g, 0, none⟩) n c) sz els E) f) (hj : els[j]? = some l) (ho : o = j * sz + off) (hoff : off < l.length) (hv : v.oneCell' = true)
    (he : els.set j (l.set off v) = els') (hk : J K r (f (Ent.row (.slice (some ⟨g, 0, none⟩) n c) sz els' E)) (k undef) Q) : J K r H (.op false (uS (Instr.storeAt T (.pointer (some ⟨g, o, none⟩)) v)) k) Q := by
  subst he
  exact J.stRow hT hp hj ho hoff hv hk
theorem J.stRowAU {T E sz m g n c j off o : Nat} {els els' : List (List Value)} {l vs : List Value} {f : Ent → List Ent} {k : Value → Prog} (hT : sizeB K.P T m = true) (hp : Pick H (Ent.row (.slice (some ⟨g, 0, none⟩) n c) sz els E) f) (hj : els[j]? = some l) (ho : o = j * sz + off) (hvs : vs.length = m) (hoff : off + m ≤ l.length) (hv : allOne vs = true)
    (he : els.set j (putAt l off vs) = els') (hk : J K r (f (Ent.row (.slice (some ⟨g, 0, none⟩) n c) sz els' E)) (k undef) Q) : J K r H (.op false (uS (Instr.storeAt T (.pointer (some ⟨g, o, none⟩)) (.agg vs.toArray))) k) Q := by
  subst he
  exact J.stRowA hT hp hj ho hvs hoff hv hk
theorem R.ixN {T E sz by_ g n c i : Nat} {kk : IntKind} (hT : slT K.P T E sz by_ = true) (hi : i < n) : Runs K H (vS (Instr.indexAt T (.slice (some ⟨g, 0, none⟩) n c) (.int kk (i : Int)))) (.pointer (some ⟨g, i * sz, none⟩)) := by
  have h := R.ixS (K := K) (H := H) (g := g) (o := 0) (n := n) (c := c) (kk := kk) (i := (i : Int)) hT (by omega) (by omega)
  rwa [show 0 + ((i : Nat) : Int).toNat * sz = i * sz by simp] at h
theorem Upd.set : ∀ {l : List Value} {n : Nat} {v : Value}, n < l.length → Upd l n v (l.set n v)
  | [], n, v, h => by simp at h
  | x :: l, 0, v, h => .zero
  | x :: l, n + 1, v, h => .succ (Upd.set (by simpa using h))
/-- A store into an entry, told by what the cells are then. -/
theorem J.stS {T T' b o : Nat} {cs cs' : List Value} {f : Ent → List Ent} {v : Value} {k : Value → Prog} (hT : sizeB K.P T 1 = true) (hp : Pick H (Ent.cells b cs T') f) (ho : o < cs.length) (hv : v.oneCell' = true) (he : cs.set o v = cs')
    (hk : J K r (f (Ent.cells b cs' T')) (k undef) Q) : J K r H (.op false (uS (Instr.storeAt T (.pointer (some ⟨b, o, none⟩)) v)) k) Q := by
  subst he
  exact J.st hT hp (Upd.set ho) hv hk
theorem J.stSA {T T' m b o : Nat} {cs cs' vs : List Value} {f : Ent → List Ent} {k : Value → Prog} (hT : sizeB K.P T m = true) (hp : Pick H (Ent.cells b cs T') f) (hvs : vs.length = m) (ho : o + m ≤ cs.length) (hv : allOne vs = true) (he : putAt cs o vs = cs')
    (hk : J K r (f (Ent.cells b cs' T')) (k undef) Q) : J K r H (.op false (uS (Instr.storeAt T (.pointer (some ⟨b, o, none⟩)) (.agg vs.toArray))) k) Q := by
  subst he
  exact J.stA hT hp hvs (UpdN.putAt vs cs o (by omega)) hv hk
/-- A row of one's own that is not empty. -/
theorem Row.shape {a : Option Addr} {n c sz E : Nat} {els : List (List Value)} {f : Ent → List Ent} (hp : Pick H (Ent.row (.slice a n c) sz els E) f) (hne : els ≠ []) {Ds : List Nat} {w : World} (hs : St K Ds w H) : ∃ g, a = some ⟨g, 0, none⟩ ∧ n = els.length := by
  obtain ⟨h1, ⟨h2, h3⟩ | ⟨g, cap, cur, hv, _⟩⟩ := (hs.ents _ hp.mem).1
  · exact absurd (List.length_eq_zero_iff.1 h3) hne
  · cases hv
    exact ⟨g, rfl, rfl⟩
theorem Row.n {g n c sz E : Nat} {els : List (List Value)} {f : Ent → List Ent} (hp : Pick H (Ent.row (.slice (some ⟨g, 0, none⟩) n c) sz els E) f) {Ds : List Nat} {w : World} (hs : St K Ds w H) : n = els.length := by
  obtain ⟨h1, ⟨h2, h3⟩ | ⟨g, cap, cur, hv, _⟩⟩ := (hs.ents _ hp.mem).1
  · cases h2
  · cases hv
    rfl
theorem Row.le {a : Option Addr} {n c sz E : Nat} {els : List (List Value)} {f : Ent → List Ent} (hp : Pick H (Ent.row (.slice a n c) sz els E) f) {Ds : List Nat} {w : World} (hs : St K Ds w H) : els.length ≤ maxLen := (SeeS.row hp Ds w hs).le
end
end Go.Proofs.Ytipgdalebkhgpaa.Fw
