/-
  The reference's watch: its block and row as entries.
-/
import Derived.Test.YtipgdalebkhgpaaW4
set_option maxRecDepth 20000
namespace Go.Proofs.Ytipgdalebkhgpaa
open Go Go.RowKit Fw
abbrev RatH (br gr nr cr : Nat) (st : Wst) (x y : Value) (c : Cfg) : List Ent := [Ent.cells br (c.cells x y ++ [.slice (some ⟨gr, 0, none⟩) nr cr, .int .i64 st.seq, .int .i64 st.tick]) 83, Ent.row (.slice (some ⟨gr, 0, none⟩) nr cr) 10 (kns st.l) 88]
theorem kns_new {l : List Sym} : List.replicate l.length Know.zero.cells = kns (newKs l) := by
  induction l with
  | nil => rfl
  | cons s l ih => rw [List.length_cons, List.replicate_succ, ih]; rfl
theorem sym_of {l : List Wk} {ss : List Sym} (h : l.map Wk.s = ss) {j : Nat} {x : Wk} (hx : l[j]? = some x) : ss[j]? = some x.s := by
  rw [← h]
  simp [hx]
theorem putW_syms {st : Wst} {m : Msg} : (putW st m).l.map Wk.s = st.l.map Wk.s := by
  have hlev : ∀ q x, (Wk.level q x).s = x.s := fun q x => by unfold Wk.level; split <;> rfl
  have hput : ∀ (x : Wk), (x.put m).s = x.s := fun x => by unfold Wk.put; split <;> (try split) <;> (try split) <;> (try split) <;> rfl
  unfold putW
  split
  · simp only []
    split
    · unfold levelW
      split
      · rw [List.map_map]
        congr 1
        funext x
        exact hlev _ _
      · rfl
    · split
      · rfl
      · unfold setW
        split
        · rename_i x hx
          rw [List.map_set, hput]
          exact set_same (by simp [hx])
        · rfl
  · rfl
theorem putW_seq {st : Wst} {m : Msg} {B : Int} (h : 0 ≤ st.seq ∧ st.seq ≤ B) (hB : B < 1152921504606846976) : 0 ≤ (putW st m).seq ∧ (putW st m).seq ≤ B + 1 := by
  unfold putW
  split
  · rename_i hck
    have : m.seq = IntKind.i64.wrap (st.seq + 1) := by
      unfold ckW at hck
      split at hck
      · assumption
      · cases hck
    rw [i64_in _ (by omega)] at this
    simp only []
    omega
  · omega
end Go.Proofs.Ytipgdalebkhgpaa
