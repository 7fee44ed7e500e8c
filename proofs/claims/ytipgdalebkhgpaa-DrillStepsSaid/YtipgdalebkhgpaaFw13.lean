/-
  From the reading of a row's arguments to what is known of them; from a contract to a row's 'post'.
-/
import Derived.Test.YtipgdalebkhgpaaFw12
import Derived.ProofKit
import Derived.Carry
import Derived.OpenShut
set_option linter.unusedVariables false
namespace Go.Proofs.Ytipgdalebkhgpaa.Fw
open Go Go.RowKit Go.ChangeShapes Go.WideShapes

/-! ### A contract's frame -/
theorem FnE.calls {P : Program} {g : FuncId} {args : List Value} {Pre : World → Prop} {e : Value} (h : FnE P g args Pre e) {W : World} (hp : Pre W) :
    Calls P g args.toArray W fun r w' => r = .returned e ∧ Below W.heap.size W w' := by
  refine Calls.mono (h W hp ⟨(by intro e he; cases he), List.Pairwise.nil⟩) ?_
  rintro r w' ⟨v, rfl, H1, rfl, hs⟩
  exact ⟨rfl, ⟨hs.os, hs.tape, hs.output, hs.size, fun k hk => hs.frame k hk (fun ⟨e, he, _⟩ => by cases he)⟩⟩

/-! ### What an argument's cells are -/
def opnFs (P : Program) (r : TypeId → List Value → Prop) (cs : List Value) : List Field → Prop
  | [] => True
  | f :: fs => r f.type ((cs.drop f.offset).take (P.cellsOf f.type)) ∧ opnFs P r cs fs
def opn (P : Program) (W : World) : Nat → TypeId → List Value → Prop
  | 0, _, _ => False
  | n + 1, t, cs =>
    match P.underlying t with
    | some .bool => ∃ b, cs = [.bool b]
    | some (.int k) => ∃ x, cs = [.int k x] ∧ (Lit.int k x).wf = true
    | some .string => ∃ s : ByteArray, cs = [.string s] ∧ s.size ≤ maxLen
    | some (.slice e) => ∃ v els, cs = [v] ∧ RdS W v (P.cellsOf e) els ∧ ∀ l, l ∈ els → l.length = P.cellsOf e ∧ opn P W n e l
    | some (.struct fs) => cs.length = P.cellsOf t ∧ opnFs P (opn P W n) cs fs.toList
    | some (.array m e) => cs.length = P.cellsOf t ∧ ∀ i, i < m → opn P W n e ((cs.drop (i * P.cellsOf e)).take (P.cellsOf e))
    | _ => True

theorem mapM_mem {α β : Type} {f : α → Option β} : ∀ {l : List α} {r : List β}, l.mapM f = some r → ∀ x, x ∈ l → ∃ y, f x = some y
  | [], _, _, x, hx => by cases hx
  | a :: l, r, h, x, hx => by
    rw [List.mapM_cons] at h
    cases ha : f a with
    | none => rw [ha] at h; cases h
    | some b =>
      rw [ha] at h
      cases hl : l.mapM f with
      | none => rw [hl] at h; cases h
      | some bs =>
        cases hx with
        | head => exact ⟨b, ha⟩
        | tail _ hx => exact mapM_mem hl x hx
theorem mapM_len {α β : Type} {f : α → Option β} : ∀ {l : List α} {r : List β}, l.mapM f = some r → r.length = l.length
  | [], r, h => by cases h; rfl
  | a :: l, r, h => by
    rw [List.mapM_cons] at h
    cases ha : f a with
    | none => rw [ha] at h; cases h
    | some b =>
      rw [ha] at h
      cases hl : l.mapM f with
      | none => rw [hl] at h; cases h
      | some bs =>
        rw [hl] at h
        cases h
        simp [mapM_len hl]

theorem mapM_at {α β : Type} {f : α → Option β} : ∀ {l : List α} {r : List β}, l.mapM f = some r → ∀ (i : Nat) x, l[i]? = some x → ∃ y, f x = some y ∧ r[i]? = some y
  | [], _, _, i, x, hx => by simp at hx
  | a :: l, r, h, i, x, hx => by
    rw [List.mapM_cons] at h
    cases ha : f a with
    | none => rw [ha] at h; cases h
    | some b =>
      rw [ha] at h
      cases hl : l.mapM f with
      | none => rw [hl] at h; cases h
      | some bs =>
        rw [hl] at h
        cases h
        cases i with
        | zero => simp at hx; subst hx; exact ⟨b, ha, rfl⟩
        | succ i => obtain ⟨y, h1, h2⟩ := mapM_at hl i x (by simpa using hx); exact ⟨y, h1, by simpa using h2⟩

theorem cells?_spec {w : World} {base n : Nat} {a : Addr} {cs : List Value} (h : w.cells? base a n = some cs) : cs.length = n ∧ ∀ j u, cs[j]? = some u → w.cell? (a.add j) = some u := by
  unfold World.cells? at h
  split at h
  · have hl := mapM_len h
    rw [List.length_range] at hl
    refine ⟨hl, fun j u hj => ?_⟩
    have hjn : j < n := by
      have := (List.getElem?_eq_some_iff.1 hj).1
      omega
    obtain ⟨y, h1, h2⟩ := mapM_at h j j (by simp [hjn])
    rw [hj] at h2
    cases h2
    exact h1
  · cases h

theorem spot_none {w : World} {a : Addr} {u : Value} (h : w.cell? a = some u) : a.spot = none := by
  unfold World.cell? at h
  split at h
  · split at h
    · cases h
    · rename_i hn
      cases hs : a.spot with
      | none => rfl
      | some x => rw [hs] at hn; simp at hn
  · cases h

section
variable {Hh : Type} {enc : TypeId × Value → Hh} {P : Program} {W : World} {sp : Nat → Bool} {held : Bool}

theorem opn_slice' {n : Nat} {e : TypeId} {a : Addr} {len : Nat} {elems : List (DataW Hh × List MemPlace)} (ih : ∀ cs x, DataW.trod enc P W 0 sp held n e cs = some x → opn P W n e cs) (hz : 0 < P.cellsOf e) (hm : len ≤ maxLen) (hlen : elems.length = len)
    (h : ∀ i, i < len → (W.cells? 0 (a.add (i * P.cellsOf e)) (P.cellsOf e)).bind (DataW.trod enc P W 0 sp held n e) = elems[i]?) :
    ∀ cap, ∃ els, RdS W (.slice (some a) len cap) (P.cellsOf e) els ∧ ∀ l, l ∈ els → l.length = P.cellsOf e ∧ opn P W n e l := by
  intro cap
  have hcell : ∀ i, i < len → ∃ cs x, W.cells? 0 (a.add (i * P.cellsOf e)) (P.cellsOf e) = some cs ∧ DataW.trod enc P W 0 sp held n e cs = some x := by
    intro i hi
    have hy := h i hi
    rw [List.getElem?_eq_getElem (by omega), Option.bind_eq_some_iff] at hy
    obtain ⟨cs, h1, h2⟩ := hy
    exact ⟨cs, _, h1, h2⟩
  refine ⟨(List.range len).map fun i => (W.cells? 0 (a.add (i * P.cellsOf e)) (P.cellsOf e)).getD [], ⟨some a, cap, by simp, by simpa using hm, fun i l hi => ?_⟩, ?_⟩
  · have hlen : i < len := by
      have := (List.getElem?_eq_some_iff.1 hi).1
      simpa using this
    obtain ⟨cs, x, h1, h2⟩ := hcell i hlen
    simp [hlen, h1] at hi
    subst hi
    obtain ⟨hl, hc⟩ := cells?_spec h1
    have h0 : 0 < cs.length := by omega
    have hsp : a.spot = none := by
      obtain ⟨cs0, x0, h10, _⟩ := hcell 0 (by omega)
      obtain ⟨hl0, hcc⟩ := cells?_spec h10
      have := hcc 0 _ (List.getElem?_eq_getElem (by omega : 0 < cs0.length))
      have e1 : (a.add (0 * P.cellsOf e)).add 0 = a := by simp [Addr.add]
      rw [e1] at this
      exact spot_none this
    obtain ⟨b, o, s⟩ := a
    simp only at hsp
    subst hsp
    refine ⟨b, o, rfl, fun j u hj => ?_⟩
    have := hc j u hj
    rwa [add_block, add_block] at this
  · intro l hl
    rw [List.mem_map] at hl
    obtain ⟨i, hi, rfl⟩ := hl
    obtain ⟨cs, x, h1, h2⟩ := hcell i (by simpa using hi)
    rw [h1]
    exact ⟨(cells?_spec h1).1, ih _ _ h2⟩

theorem opn_of_trod (hz : ∀ t e, t < P.types.size → P.underlying t = some (.slice e) → 0 < P.cellsOf e) (K : Kids P (· < P.types.size)) : ∀ (n : Nat) (t : TypeId) (cs : List Value) (x : DataW Hh × List MemPlace), t < P.types.size →
    DataW.trod enc P W 0 sp held n t cs = some x → opn P W n t cs
  | 0, _, _, _, _, h => by cases h
  | n + 1, t, cs, x, ht, h => by
    unfold opn
    cases hu : P.underlying t with
    | none => trivial
    | some d =>
      cases d with
      | bool => obtain ⟨b, hb, _⟩ := DataW.trod_bool hu h; exact ⟨b, hb⟩
      | int k => obtain ⟨b, hb, _, hw⟩ := DataW.trod_int hu h; exact ⟨b, hb, hw⟩
      | string => obtain ⟨b, hb, _, hw⟩ := DataW.trod_string hu h; exact ⟨b, hb, hw⟩
      | slice e =>
        rcases DataW.trod_slice hu h with ⟨rfl, _⟩ | ⟨a, len, cap, elems, rest, m, hn, rfl, _, _, h1, h2, h3, h4, _⟩
        · exact ⟨_, [], rfl, ⟨none, 0, rfl, Nat.zero_le _, fun i l hi => by simp at hi⟩, fun l hl => by cases hl⟩
        · cases hn
          have hte : e < P.types.size := K.slice ht hu
          obtain ⟨els, h5, h6⟩ := opn_slice' (fun cs x hx => opn_of_trod hz K n e cs x hte hx) (hz _ _ ht hu) (Nat.le_trans h1 h2) h3 h4 cap
          exact ⟨_, els, rfl, h5, h6⟩
      | struct fs =>
        obtain ⟨xs, m, hn, _, hl, hxs, hf⟩ := DataW.trod_struct hu h
        cases hn
        refine ⟨hl, ?_⟩
        have key : ∀ (l : List Field), (∀ f, f ∈ l → f ∈ fs.toList) → opnFs P (opn P W n) cs l := by
          intro l
          induction l with
          | nil => intro _; trivial
          | cons f l ihl =>
            intro hm
            refine ⟨?_, ihl fun g hg => hm g (List.mem_cons_of_mem _ hg)⟩
            obtain ⟨i, hi⟩ := List.getElem?_of_mem (hm f List.mem_cons_self)
            rw [Array.getElem?_toList] at hi
            have hif := hf i f hi
            have hlt := (Array.getElem?_eq_some_iff.1 hi).1
            rw [List.getElem?_eq_getElem (by omega)] at hif
            exact opn_of_trod hz K n _ _ _ ((K.struct ht hu).1 f (hm f List.mem_cons_self)) hif
        exact key _ fun f hf => hf
      | array m e =>
        obtain ⟨xs, m', hn, _, hl, hxs, hf⟩ := DataW.trod_array hu h
        cases hn
        refine ⟨hl, fun i hi => ?_⟩
        have hif := hf i hi
        rw [List.getElem?_eq_getElem (by omega)] at hif
        exact opn_of_trod hz K n _ _ _ (K.array ht hu).1 hif
      | _ => trivial
end

/-! ### Structs of plain fields -/
/-- A leaf's value, in its range. -/
def Leaf.okR : Leaf → Value → Prop
  | .int k, v => ∃ n, v = .int k n ∧ (Lit.int k n).wf = true
  | .bool, v => ∃ b, v = .bool b
  | .str, v => ∃ s : ByteArray, v = .string s ∧ s.size ≤ maxLen
def fitsR : List Leaf → List Value → Prop
  | [], [] => True
  | l :: L, v :: vs => l.okR v ∧ fitsR L vs
  | _, _ => False
theorem fitsR.append : ∀ {A B : List Leaf} {x y : List Value}, fitsR A x → fitsR B y → fitsR (A ++ B) (x ++ y)
  | [], _, [], _, _, h => h
  | _ :: _, _, _ :: _, _, h, h' => ⟨h.1, fitsR.append h.2 h'⟩
  | [], _, _ :: _, _, h, _ => h.elim
  | _ :: _, _, [], _, h, _ => h.elim

section
variable {P : Program} {W : World}
theorem cellsOf_eq {T n : Nat} (h : ∃ i, P.info? T = some i ∧ i.size = n) : P.cellsOf T = n := by
  obtain ⟨i, h1, h2⟩ := h
  simp [Program.cellsOf, h1, h2]
theorem fits_of_opn : ∀ (d n : Nat) (T : TypeId) (a : Bool) (L : List Leaf) (cs : List Value), leavesF P d T = some (a, L) → opn P W n T cs → (P.cellsOf T = L.length → fitsR L cs)
  | 0, _, _, _, _, _, h, _, _ => by cases h
  | _ + 1, 0, _, _, _, _, _, h, _ => h.elim
  | d + 1, n + 1, T, a, L, cs, h, ho, hsz => by
    unfold leavesF at h
    unfold opn at ho
    cases hu : P.underlying T with
    | none => rw [hu] at h; cases h
    | some e =>
      rw [hu] at h ho
      cases e <;> simp at h
      · obtain ⟨rfl, rfl⟩ := h
        obtain ⟨b, rfl⟩ := ho
        exact ⟨⟨b, rfl⟩, trivial⟩
      · obtain ⟨rfl, rfl⟩ := h
        obtain ⟨b, rfl, hw⟩ := ho
        exact ⟨⟨b, rfl, hw⟩, trivial⟩
      · obtain ⟨rfl, rfl⟩ := h
        obtain ⟨b, rfl, hw⟩ := ho
        exact ⟨⟨b, rfl, hw⟩, trivial⟩
      · rename_i fs
        simp only at ho
        cases hst : P.stoodInHeld T with
        | true => rw [hst] at h; cases h
        | false =>
          rw [hst] at h
          simp at h
          split at h
          · rename_i l' hl'
            cases h
            obtain ⟨hlen, hfs⟩ := ho
            have key : ∀ (l : List Field) (off : Nat) (L : List Leaf), fieldsL P (leavesF P d) off l = some L → opnFs P (opn P W n) cs l → cs.length = off + L.length → fitsR L (cs.drop off) := by
              intro l
              induction l with
              | nil =>
                intro off L hL _ hc
                cases hL
                rw [List.drop_of_length_le (by simpa using Nat.le_of_eq hc)]
                trivial
              | cons f l ihl =>
                intro off L hL ho hc
                unfold fieldsL at hL
                cases hb : (f.name == "_" || !(Nat.beq f.offset off)) with
                | true => rw [hb] at hL; cases hL
                | false =>
                  rw [hb, cond_false] at hL
                  have hoff : f.offset = off := by
                    rw [Bool.or_eq_false_iff] at hb
                    exact Nat.eq_of_beq_eq_true (by simpa using hb.2)
                  cases hl : leavesF P d f.type with
                  | none => rw [hl] at hL; cases hL
                  | some al =>
                    obtain ⟨a', l1⟩ := al
                    cases hi : P.info? f.type with
                    | none => rw [hl, hi] at hL; cases hL
                    | some i =>
                      rw [hl, hi] at hL
                      simp only at hL
                      cases hs : Nat.beq i.size l1.length with
                      | false => rw [hs] at hL; cases hL
                      | true =>
                        rw [hs, cond_true] at hL
                        cases hr : fieldsL P (leavesF P d) (off + l1.length) l with
                        | none => rw [hr] at hL; cases hL
                        | some r =>
                          rw [hr] at hL
                          cases hL
                          rw [List.length_append] at hc
                          have hcell : P.cellsOf f.type = l1.length := cellsOf_eq ⟨i, hi, Nat.eq_of_beq_eq_true hs⟩
                          have h1 := fits_of_opn d n f.type a' l1 _ hl ho.1 hcell
                          have h2 := ihl (off + l1.length) r hr ho.2 (by omega)
                          rw [hoff, hcell] at h1
                          have := fitsR.append h1 h2
                          rwa [← List.drop_drop, List.take_append_drop] at this
            have := key fs.toList 0 L hl' hfs (by rw [hlen, hsz, Nat.zero_add])
            simpa using this
          · cases h
end

/-! ### The row -/
section
variable {Hh : Type} {enc : TypeId × Value → Hh} {P : Program}
theorem below_trodAll (hl : laidOutB P = true) {W W' : World} (hb : Below W.heap.size W W') : ∀ {ts : List TypeId} {vs : List Value} {ds : List (DataW Hh)} {ps : List MemPlace}, (∀ t, t ∈ ts → P.readableRec t = true ∧ t < P.types.size) →
    DataW.TrodAll enc P W 0 (fun _ => true) true ts vs ds ps → (∀ x, x ∈ ps → x.block < W.heap.size) → DataW.TrodAll enc P W' 0 (fun b => decide (b < W.heap.size)) true ts vs ds ps
  | [], [], [], _, _, h, _ => h
  | t :: ts, v :: vs, d :: ds, ps, ht, ⟨p, q, h1, h2, e⟩, hlt => by
    subst e
    exact ⟨p, q, Below.trod hl (ht t List.mem_cons_self).1 (ht t List.mem_cons_self).2 h1 hb (fun x hx => hlt x (List.mem_append_left _ hx)),
      below_trodAll hl hb (fun t h => ht t (List.mem_cons_of_mem _ h)) h2 (fun x hx => hlt x (List.mem_append_right _ hx)), rfl⟩

/-- A row 'whatever the input: true; the input reads as it did'. -/
theorem post_true (hl : laidOutB P = true) {fn : Func} {s : ChangeSpec} (hv : s.vars = []) (hrd : ∀ t, t ∈ fn.params.toList → P.readableRec t = true ∧ t < P.types.size) {W W' : World} {args : Array Value} {ds gs : List (DataW Hh)} {before : List MemPlace} {tb : TypeId}
    (hs : s.fn Hh (ds ++ gs) = { results := [.lit (.bool true)], args := ds }) (hr : fn.resultTypes = #[tb]) (htb : P.underlying tb = some .bool)
    (hW : DataW.Whole enc P fn.params.toList s.vars false W args.toList ds gs before) (hb : Below W.heap.size W W') : s.post enc P fn false true false false W args (.bool true) W' := by
  have hW' := hW
  obtain ⟨p, q, hA, hV, rfl, hfz, hnd⟩ := hW
  rw [hv] at hV
  obtain ⟨rfl, rfl⟩ := trodVars_none hV
  have hlt : ∀ x, x ∈ p → x.block < W.heap.size := fun x hx => hW'.lt x (List.mem_append_left _ hx)
  refine ⟨ds, [], p ++ [], [], p, [], hW', ?_, ?_, ?_, Below.frame hb _, fun h => by cases h⟩
  · rw [hs, hr]
    exact trodAll_mk1 (shut_bool htb true)
  · rw [hs]
    exact below_trodAll hl hb hrd hA hlt
  · rw [hs, hv]
    rfl
end
end Go.Proofs.Ytipgdalebkhgpaa.Fw
