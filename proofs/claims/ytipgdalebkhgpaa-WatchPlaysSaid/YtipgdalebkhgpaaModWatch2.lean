/-
  The rules of the watch's check, each by its contract.
-/
import Derived.Test.YtipgdalebkhgpaaW1
set_option maxRecDepth 20000
namespace Go.Proofs.Ytipgdalebkhgpaa
open Go Go.RowKit Fw

theorem FnE.pre {P : Program} {g : FuncId} {args : List Value} {Pre Pre' : World → Prop} {e : Value} (h : FnE P g args Pre e) (hp : ∀ w, Pre' w → Pre w) : FnE P g args Pre' e := fun w hw hs => h w (hp w hw) hs
/-- What check's closures read. -/
def CkG (bm b2 b5 b6 bw g n c : Nat) (m : Msg) (st : Wst) (w : World) : Prop :=
  Blk w bm m.cells 46 ∧ Blk w b2 [.pointer (some ⟨bw, 0, none⟩)] 74 ∧ Blk w b5 [.pointer (ofP g st m.sym)] 146 ∧ Blk w b6 [.bool (trM m)] 4 ∧ WatA bw g n c st w
theorem CkG.stab {bm b2 b5 b6 bw g n c : Nat} {m : Msg} {st : Wst} : Stab (CkG bm b2 b5 b6 bw g n c m st) :=
  Stab.and Stab.blk (Stab.and Stab.blk (Stab.and Stab.blk (Stab.and Stab.blk WatA.stab)))
def ckRuls (bm b2 b5 b6 g : Nat) (m : Msg) (st : Wst) : List Rul :=
  [⟨101, [.pointer (some ⟨bm, 0, none⟩), .pointer (some ⟨b2, 0, none⟩)], 4, decide (m.seq = IntKind.i64.wrap (st.seq + 1))⟩,
   ⟨102, [.pointer (some ⟨b2, 0, none⟩), .pointer (some ⟨bm, 0, none⟩)], 15, !lateW st m.tick⟩,
   ⟨104, [.pointer (some ⟨b5, 0, none⟩), .pointer (some ⟨bm, 0, none⟩)], 5, (ofP g st m.sym).isSome || globalM m⟩,
   ⟨106, [.pointer (some ⟨b6, 0, none⟩), .pointer (some ⟨bm, 0, none⟩)], 9, !trM m || decide (1 ≤ m.qty)⟩,
   ⟨107, [.pointer (some ⟨b6, 0, none⟩), .pointer (some ⟨b5, 0, none⟩), .pointer (some ⟨bm, 0, none⟩)], 10, !trM m || openW (knOf st m.sym) m.code⟩,
   ⟨109, [.pointer (some ⟨b6, 0, none⟩), .pointer (some ⟨b5, 0, none⟩), .pointer (some ⟨bm, 0, none⟩)], 11, !trM m || inW (knOf st m.sym) m⟩]
theorem ofP_isSome {g : Nat} {st : Wst} {sym : Int} : (ofP g st sym).isSome = inSym st sym := by
  unfold ofP inSym
  split <;> simp_all
theorem ckRuls_eq (bm b2 b5 b6 g : Nat) (m : Msg) (st : Wst) : firstFault (ckRuls bm b2 b5 b6 g m st) = ckW st m := by
  rw [← ckRules_eq]
  simp only [ckRuls, firstFault, ckRules, ofP_isSome]
theorem ckRuls_ok {bm b2 b5 b6 bw g n c : Nat} {m : Msg} {st : Wst} (hm : m.ok) : ∀ (i : Nat) (r : Rul), (ckRuls bm b2 b5 b6 g m st)[i]? = some r → (∀ (j : Nat) y, j < i → (ckRuls bm b2 b5 b6 g m st)[j]? = some y → y.ok = true) →
    Enters Try.prog r.f ∧ FnE Try.prog r.f r.caps (CkG bm b2 b5 b6 bw g n c m st) (.bool r.ok) := by
  intro i r hr hb
  have hin : trM m = true → 3 ≤ i → ∃ (j : Nat) (x : Wk), m.sym = j ∧ st.l[j]? = some x := by
    intro ht hi
    have h2 := hb 2 _ (by omega) rfl
    simp only [ofP_isSome, Bool.or_eq_true] at h2
    rcases h2 with h2 | h2
    · exact inSym_at h2
    · simp only [trM, decide_eq_true_eq] at ht
      simp [globalM, ht] at h2
  rcases i with _ | _ | _ | _ | _ | _ | i
  · cases hr
    exact ⟨en101, FnE.pre (s101 bm b2 m bw g n c st) fun w h => ⟨h.1, h.2.1, h.2.2.2.2⟩⟩
  · cases hr
    exact ⟨en102, FnE.pre (s102 bm b2 m bw g n c st) fun w h => ⟨h.1, h.2.1, h.2.2.2.2⟩⟩
  · cases hr
    exact ⟨en104, FnE.pre (s104 bm b5 m (ofP g st m.sym)) fun w h => ⟨h.1, h.2.2.1⟩⟩
  · cases hr
    exact ⟨en106, FnE.pre (s106 bm b6 m (trM m)) fun w h => ⟨h.1, h.2.2.2.1⟩⟩
  · cases hr
    refine ⟨en107, ?_⟩
    cases ht : trM m with
    | false => exact FnE.pre (s107no bm b5 b6 m (ofP g st m.sym)) fun w h => ⟨h.1, ht ▸ h.2.2.2.1, h.2.2.1⟩
    | true =>
      obtain ⟨j, x, hs, hx⟩ := hin ht (by omega)
      rw [knOf_at hs hx]
      exact FnE.pre (s107yes bm b5 b6 m hm.price g n c j st.l x hx) fun w h => ⟨h.1, ht ▸ h.2.2.2.1, ofP_at (g := g) hs hx ▸ h.2.2.1, h.2.2.2.2.2⟩
  · cases hr
    refine ⟨en109, ?_⟩
    cases ht : trM m with
    | false => exact FnE.pre (s109no bm b5 b6 m (ofP g st m.sym)) fun w h => ⟨h.1, ht ▸ h.2.2.2.1, h.2.2.1⟩
    | true =>
      obtain ⟨j, x, hs, hx⟩ := hin ht (by omega)
      rw [knOf_at hs hx]
      exact FnE.pre (s109yes bm b5 b6 m hm.price g n c j st.l x hx) fun w h => ⟨h.1, ht ▸ h.2.2.2.1, ofP_at (g := g) hs hx ▸ h.2.2.1, h.2.2.2.2.2⟩
  · simp [ckRuls] at hr
/-- What the watch's functions that turn it are given. -/
abbrev WatH (bw g n c : Nat) (st : Wst) : List Ent := [Ent.cells bw [.slice (some ⟨g, 0, none⟩) n c, .int .i64 st.seq, .int .i64 st.tick] 143, Ent.row (.slice (some ⟨g, 0, none⟩) n c) 26 (wks st.l) 145]
theorem levelW_step {l : List Wk} {q : Int} {i : Nat} {x : Wk} (hx : l[i]? = some x) : ((l.take i).map (Wk.level q) ++ l.drop i).set i (x.level q) = (l.take (i + 1)).map (Wk.level q) ++ l.drop (i + 1) := by
  have hlt := (List.getElem?_eq_some_iff.1 hx).1
  have hd : l.drop i = x :: l.drop (i + 1) := by
    rw [List.drop_eq_getElem_cons hlt]
    congr 1
    exact (List.getElem?_eq_some_iff.1 hx).2
  rw [hd, List.take_add_one, hx]
  have h1 : ((l.take i).map (Wk.level q)).length = i := by simp; omega
  rw [List.set_append_right _ _ (by omega), h1, Nat.sub_self, List.set_cons_zero]
  simp
theorem levelW_at {l : List Wk} {q : Int} {i : Nat} {x : Wk} (hx : l[i]? = some x) : ((l.take i).map (Wk.level q) ++ l.drop i)[i]? = some x := by
  have hlt := (List.getElem?_eq_some_iff.1 hx).1
  rw [List.getElem?_append_right (by simp; omega)]
  simp
  rw [show i + (i - min i l.length) = i by omega]
  exact hx
theorem levelW_same {l : List Wk} {q : Int} {i : Nat} {x : Wk} (hx : l[i]? = some x) (h : x.k.dl = 0) : (l.take i).map (Wk.level q) ++ l.drop i = (l.take (i + 1)).map (Wk.level q) ++ l.drop (i + 1) := by
  rw [← levelW_step hx]
  have : x.level q = x := by simp [Wk.level, h]
  rw [this]
  apply List.ext_getElem?
  intro j
  by_cases hj : j = i
  · subst hj
    have h2 := levelW_at (q := q) hx
    rw [List.getElem?_set_self (List.getElem?_eq_some_iff.1 h2).1, h2]
  · rw [List.getElem?_set_ne (fun e => hj e.symm)]
end Go.Proofs.Ytipgdalebkhgpaa
namespace Go.Proofs.Ytipgdalebkhgpaa
open Go Go.RowKit Fw
theorem putW_set {st : Wst} {m : Msg} {j : Nat} {x y : Wk} (hck : ckW st m = 0) (h9 : m.kind ≠ 9) (h2 : m.kind ≠ 2) (hs : m.sym = j) (hx : st.l[j]? = some x) (hy : x.put m = y) : putW st m = ⟨m.seq, m.tick, st.l.set j y⟩ := by
  unfold putW
  rw [if_pos hck, if_neg h9, if_neg h2, setW_at hs hx, hy]
theorem set_same {α : Type} {l : List α} {j : Nat} {x : α} (hx : l[j]? = some x) : l.set j x = l := by
  apply List.ext_getElem?
  intro q
  by_cases hq : q = j
  · subst hq; rw [List.getElem?_set_self (List.getElem?_eq_some_iff.1 hx).1, hx]
  · rw [List.getElem?_set_ne (fun e => hq e.symm)]
end Go.Proofs.Ytipgdalebkhgpaa
namespace Go.Proofs.Ytipgdalebkhgpaa
open Go Go.RowKit Fw
def newKs (l : List Sym) : List Wk := l.map fun s => ⟨s, Know.zero⟩
def newW (c : Cfg) : Wst := ⟨0, 0, newKs c.syms⟩
theorem newKs_app {l : List Sym} {i : Nat} {s : Sym} (h : l[i]? = some s) : wks (newKs (l.take i)) ++ [s.cells ++ Know.zero.cells] = wks (newKs (l.take (i + 1))) := by
  rw [List.take_add_one, h]
  simp [newKs, wks, Wk.cells]
theorem newKs_len {l : List Sym} : (newKs l).length = l.length := by simp [newKs]
theorem wks_lens {l : List Wk} : ∀ x, x ∈ wks l → x.length = 26 ∧ ∀ u, u ∈ x → u.oneCell' = true := by
  intro x hx
  obtain ⟨y, _, rfl⟩ := List.mem_map.1 hx
  refine ⟨rfl, allOne_spec ?_⟩
  rfl
theorem cfg_len {c : Cfg} (h : (cfgFault c).1 = 0) : 1 ≤ c.syms.length ∧ c.syms.length ≤ 8 := by
  cases hl : inB c.syms.length 1 8 with
  | true => rw [inB_iff] at hl; omega
  | false => rw [cfgFault_len hl] at h; cases h
end Go.Proofs.Ytipgdalebkhgpaa
namespace Go.Proofs.Ytipgdalebkhgpaa
open Go Go.RowKit Fw
/-- The reference's block and row, as they are read. -/
def RatA (br gr nr cr : Nat) (st : Wst) (x y : Value) (c : Cfg) (w : World) : Prop := Blk w br (c.cells x y ++ [.slice (some ⟨gr, 0, none⟩) nr cr, .int .i64 st.seq, .int .i64 st.tick]) 83 ∧ RdS w (.slice (some ⟨gr, 0, none⟩) nr cr) 10 (kns st.l)
theorem RatA.stab {br gr nr cr : Nat} {st : Wst} {x y : Value} {c : Cfg} : Stab (RatA br gr nr cr st x y c) := Stab.and Stab.blk (Stab.rd kns_ne)
end Go.Proofs.Ytipgdalebkhgpaa
