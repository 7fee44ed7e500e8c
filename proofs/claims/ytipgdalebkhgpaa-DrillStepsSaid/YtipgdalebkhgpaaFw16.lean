/-
  Rows made, and stores into them; blocks that are only read.
-/
import Derived.Test.YtipgdalebkhgpaaFw15
import Derived.Laws.OwnMore
set_option linter.unusedVariables false
namespace Go.Proofs.Ytipgdalebkhgpaa.Fw
open Go Go.RowKit

theorem flatten_set {sz : Nat} : ∀ (els : List (List Value)) (j off : Nat) (l : List Value) (v : Value), (∀ l, l ∈ els → l.length = sz) → els[j]? = some l → off < l.length → (els.set j (l.set off v)).flatten = els.flatten.set (j * sz + off) v
  | [], j, off, l, v, _, h, _ => by simp at h
  | x :: els, 0, off, l, v, hl, h, ho => by
    simp at h
    subst h
    simp only [List.set_cons_zero, List.flatten_cons, Nat.zero_mul, Nat.zero_add]
    rw [List.set_append_left _ _ ho]
  | x :: els, j + 1, off, l, v, hl, h, ho => by
    have h0 := hl x List.mem_cons_self
    simp only [List.set_cons_succ, List.flatten_cons]
    rw [flatten_set els j off l v (fun l h => hl l (List.mem_cons_of_mem _ h)) (by simpa using h) ho]
    rw [List.set_append_right _ _ (by rw [h0, Nat.succ_mul]; omega), h0]
    congr 2
    rw [Nat.succ_mul]; omega

theorem replicate_flat (n : Nat) (z : Value) : List.replicate n z = (List.replicate n [z]).flatten := by
  induction n with
  | zero => rfl
  | succ n ih => rw [List.replicate_succ, List.replicate_succ, List.flatten_cons, ← ih]; rfl
section
variable {K : Kx} {r : Option Nat} {H : List Ent} {Q : Post}

/-- A new slice of n zeros. -/
theorem J.make1 {T E by_ n : Nat} {z : Value} {kl kc : IntKind} {k : Value → Prog} (hT : slT K.P T E 1 by_ = true) (hz : zeroL K.P E = some [z]) (hb : by_ * n ≤ 281474976710656) (hm : n ≤ maxLen)
    (hk : ∀ b, J K r (Ent.row (.slice (some ⟨b, 0, none⟩) n n) 1 (List.replicate n [z]) E :: H) (k (.slice (some ⟨b, 0, none⟩) n n)) Q) : J K r H (.op false (vS (Instr.makeSlice T (.int kl (n : Int)) (.int kc (n : Int)))) k) Q := by
  intro Ds w hs
  obtain ⟨hu, hsz, inf, zv, hinf, h2, h3, h4, h5⟩ := slT_spec hT
  have hzc : zv.cells.toList = [z] := by
    unfold zeroL at hz
    rw [hinf] at hz
    simp only [h4, Option.map_some] at hz
    exact Option.some.inj hz
  have hzc' : zv.cells = #[z] := by
    rw [← Array.toArray_toList (xs := zv.cells), hzc]
  obtain ⟨w', hrun, hown, hg⟩ := run_make_full (P := K.P) w 0 T E inf zv 1 hu hinf h4 h2 kl kc n (by rw [h3]; exact hb) hm (Nat.zero_le _)
  show opU _ _ _
  rw [vS_run hrun]
  refine hk w.heap.size Ds w' ?_
  have hcells : (madeCells zv.cells (n * 1)).toList = (List.replicate n [z]).flatten := by
    rw [hzc', toList_madeCells_one, Nat.mul_one]
    exact replicate_flat n z
  have hnew : (Ent.row (.slice (some ⟨w.heap.size, 0, none⟩) n n) 1 (List.replicate n [z]) E).holds w' := by
    refine ⟨?_, fun l hl => by rw [List.mem_replicate] at hl; rw [hl.2]; rfl⟩
    rw [List.length_replicate, ← hcells]
    exact hown
  have hlt : ∀ e, e ∈ H → ∀ b, e.foot b → b < w.heap.size := fun e he b hb => e.inb w (hs.ents e he) b hb
  refine ⟨hg.os.trans hs.os, hg.tape.trans hs.tape, hg.output.trans hs.output, Nat.le_trans hs.size hg.size, ?_, ?_, ?_, ?_, hs.nodup, ?_⟩
  · exact fun b hb hF => (hg.block b (Nat.lt_of_lt_of_le hb hs.size) (by simp)).trans (hs.frame b hb hF)
  · intro e he
    cases he with
    | head => exact hnew
    | tail _ he => exact e.loc w w' (fun b hb => hg.block b (hlt e he b hb) (by simp)) (hs.ents e he)
  · intro e he b hb
    cases he with
    | head =>
      have : some w.heap.size = some b := hb
      cases this
      exact .inr hs.size
    | tail _ he => exact hs.own e he b hb
  · refine List.pairwise_cons.2 ⟨fun e he b hb hf => ?_, hs.disj⟩
    have : some w.heap.size = some b := hb
    cases this
    exact absurd (hlt e he _ hf) (Nat.lt_irrefl _)
  · intro D hD
    have hl := hs.lt_mark hD
    refine ⟨(hg.block D hl (by simp)).trans (hs.marks D hD).1, (hs.marks D hD).2.1, fun e he hf => ?_⟩
    cases he with
    | head =>
      have : some w.heap.size = some D := hf
      cases this
      exact absurd hl (Nat.lt_irrefl _)
    | tail _ he => exact (hs.marks D hD).2.2 e he hf

/-- The address of an element of one's own row. -/
theorem J.ixO {T E sz by_ n c : Nat} {q : Bool} {kk : IntKind} {i : Int} {a : Option Addr} {els : List (List Value)} {f : Ent → List Ent} {k : Value → Prog} (hT : slT K.P T E sz by_ = true) (hp : Pick H (Ent.row (.slice a n c) sz els E) f) (h0 : 0 ≤ i) (hi : i.toNat < els.length)
    (hk : ∀ g, a = some ⟨g, 0, none⟩ → J K r H (k (.pointer (some ⟨g, i.toNat * sz, none⟩))) Q) : J K r H (.op q (vS (Instr.indexAt T (.slice a n c) (.int kk i))) k) Q := by
  intro Ds w hs
  obtain ⟨h1, hsz, inf, z, hinf, h2, -⟩ := slT_spec hT
  have hh := (hs.ents _ hp.mem).1
  rcases hh with ⟨_, ⟨_, h⟩ | ⟨g, cap, cur, hv, _⟩⟩
  · omega
  · cases hv
    have hrun : (vS (Instr.indexAt T (.slice (some ⟨g, 0, none⟩) els.length c) (.int kk i))).run K.P w = .ok (.value (.pointer (some ⟨g, i.toNat * sz, none⟩))) w := by
      refine vS_run ?_
      unfold Instr.indexAt
      have hlt : i < els.length := by omega
      simp [asIntOf, run_und h1, h0, hlt, sizeOf, typeInfo, hinf, h2, add_block]
    have hj := hk g rfl Ds w hs
    cases q with
    | true => exact ⟨_, hrun, hj⟩
    | false =>
      show opU _ _ _
      rw [hrun]
      exact hj

/-- A store of one cell into an element of one's own row. -/
theorem J.stRow {T E sz g n c j off o : Nat} {els : List (List Value)} {l : List Value} {f : Ent → List Ent} {v : Value} {k : Value → Prog} (hT : sizeB K.P T 1 = true) (hp : Pick H (Ent.row (.slice (some ⟨g, 0, none⟩) n c) sz els E) f) (hj : els[j]? = some l) (ho : o = j * sz + off) (hoff : off < l.length) (hv : v.oneCell' = true)
    (hk : J K r (f (Ent.row (.slice (some ⟨g, 0, none⟩) n c) sz (els.set j (l.set off v)) E)) (k undef) Q) : J K r H (.op false (uS (Instr.storeAt T (.pointer (some ⟨g, o, none⟩)) v)) k) Q := by
  intro Ds w hs
  obtain ⟨hrow, hlens⟩ := hs.ents _ hp.mem
  obtain ⟨h1, ⟨h2, _⟩ | ⟨g', cap, cur, hv', h4, h5, h6, h7, h8, h9⟩⟩ := hrow
  · cases h2
  · cases hv'
    have hjl : l.length = sz := hlens l (List.mem_of_getElem? hj)
    have hjlt : j < els.length := (List.getElem?_eq_some_iff.1 hj).1
    have hlt2 : j * sz + off < els.length * sz := by
      have : (j + 1) * sz ≤ els.length * sz := Nat.mul_le_mul_right sz hjlt
      rw [Nat.succ_mul] at this
      omega
    have hcl : o < cur.toList.length := by
      have h9' := congrArg List.length h9
      rw [List.length_take, h1] at h9'
      rw [ho]
      omega
    have hb : w.heap[g]? = some (.cells cur.toList.toArray E (0, 0)) := by rw [Array.toArray_toList]; exact h5
    have hrun : (uS (Instr.storeAt T (.pointer (some ⟨g, o, none⟩)) v)).run K.P w = .ok .skip (w.putObj g (.cells (cur.toList.set o v).toArray E (0, 0))) := by
      refine uS_run ?_
      unfold Instr.storeAt
      have hc : v.cells = #[v] := by cases v <;> first | rfl | (simp [Value.oneCell'] at hv)
      simp only [Instr.sureAddr, Sem.run_bind, Sem.run_pure, Result.andThen_ok, storeVar, run_sizeOf hT, hc]
      simp only [List.size_toArray, List.length_cons, List.length_nil, ne_eq, not_true_eq_false, if_false, storeCells, Sem.run_bind, add_block, Nat.add_zero]
      rw [run_store_block hb hcl hv]
      rfl
    show opU _ _ _
    rw [hrun]
    have hglt : g < w.heap.size := (Array.getElem?_eq_some_iff.1 h5).1
    refine hk Ds _ (hs.turn hp rfl rfl rfl (by simp) (fun x hx => .inl hx) (fun x _ hx => World.putObj_heap_other (fun e => hx (by subst e; rfl))) ⟨⟨?_,   .inr ⟨g, c, (cur.toList.set o v).toArray, ?_, Nat.zero_le _, World.putObj_heap_same hglt, ?_, h7, ?_, ?_⟩⟩, ?_⟩)
    · rw [flatten_set els j off l v hlens hj hoff, List.length_set, List.length_set]
      exact h1
    · rw [List.length_set]
    · rw [List.length_set]; exact h6
    · simpa using h8
    · rw [List.length_set, flatten_set els j off l v hlens hj hoff, ← h9, ho]
      simp [List.take_set]
    · intro x hx
      rcases List.mem_or_eq_of_mem_set hx with hx | rfl
      · exact hlens x hx
      · rw [List.length_set]; exact hjl

theorem R.maxI {ts : Array TypeId} {ty : Nat} {cs : Array Bool} {kk : IntKind} {a b : Int} : Runs K H (bltS .max ts ty cs [.int kk a, .int kk b]) (.int kk (Max.max a b)) := by
  have := R.max (K := K) (H := H) (ts := ts) (ty := ty) (cs := cs) (kk := kk) (a := a) (b := b)
  rwa [show (if b > a then b else a) = Max.max a b by split <;> omega] at this
theorem R.minI {ts : Array TypeId} {ty : Nat} {cs : Array Bool} {kk : IntKind} {a b : Int} : Runs K H (bltS .min ts ty cs [.int kk a, .int kk b]) (.int kk (Min.min a b)) := by
  have := R.min (K := K) (H := H) (ts := ts) (ty := ty) (cs := cs) (kk := kk) (a := a) (b := b)
  rwa [show (if b < a then b else a) = Min.min a b by split <;> omega] at this
theorem R.maxN {ts : Array TypeId} {ty : Nat} {cs : Array Bool} {kk : IntKind} {a b : Nat} : Runs K H (bltS .max ts ty cs [.int kk (a : Int), .int kk (b : Int)]) (.int kk ((Max.max a b : Nat) : Int)) := by
  have := R.maxI (K := K) (H := H) (ts := ts) (ty := ty) (cs := cs) (kk := kk) (a := a) (b := b)
  rwa [show Max.max (a : Int) (b : Int) = ((Max.max a b : Nat) : Int) by omega] at this
theorem R.minN {ts : Array TypeId} {ty : Nat} {cs : Array Bool} {kk : IntKind} {a b : Nat} : Runs K H (bltS .min ts ty cs [.int kk (a : Int), .int kk (b : Int)]) (.int kk ((Min.min a b : Nat) : Int)) := by
  have := R.minI (K := K) (H := H) (ts := ts) (ty := ty) (cs := cs) (kk := kk) (a := a) (b := b)
  rwa [show Min.min (a : Int) (b : Int) = ((Min.min a b : Nat) : Int) by omega] at this
/-- The length, told otherwise. -/
theorem R.lenN {T E sz by_ ty n : Nat} {cs : Array Bool} {v : Value} {els : List (List Value)} (hT : slT K.P T E sz by_ = true) (h : SeeS K H v sz els) (hn : els.length = n) : Runs K H (bltS .len #[T] ty cs [v]) (.int .i64 n) := by
  subst hn
  exact R.len hT h

/-! ### Blocks that are only read -/
def Blk (W : World) (b : Nat) (cs : List Value) (T : TypeId) : Prop := W.heap[b]? = some (.cells cs.toArray T (0, 0))
theorem not_foot {b : Nat} : ¬ footOf [] b := fun ⟨_, h, _⟩ => by cases h
theorem R.ldB {P : Program} {W : World} {T T' b o : Nat} {cs : List Value} {v : Value} (hb : Blk W b cs T') (hT : one P T = true) (hv : cs[o]? = some v) : Runs ⟨P, W, footOf []⟩ H (vS (Instr.loadAt T (.pointer (some ⟨b, o, none⟩)))) v :=
  R.ldW hT ((cell_block hb o).trans hv) not_foot
theorem R.ldBA {P : Program} {W : World} {T T' n b : Nat} {cs : List Value} (hb : Blk W b cs T') (hT : aggN P T n = true) (hn : cs.length = n) : Runs ⟨P, W, footOf []⟩ H (vS (Instr.loadAt T (.pointer (some ⟨b, 0, none⟩)))) (.agg cs.toArray) :=
  R.ldWA hT hn (fun j v hj => by rw [add_block, Nat.zero_add]; exact (cell_block hb j).trans hj) not_foot
theorem Blk.of {b : Nat} {cs : List Value} {T : TypeId} {f : Ent → List Ent} (hp : Pick H (Ent.cells b cs T) f) {Ds : List Nat} {w : World} (hs : St K Ds w H) : Blk w b cs T := hs.ents _ hp.mem
theorem SeeS.at {v : Value} {sz : Nat} {els : List (List Value)} (h : SeeS K H v sz els) {Ds : List Nat} {w : World} (hs : St K Ds w H) : RdS w v sz els := h Ds w hs
end
end Go.Proofs.Ytipgdalebkhgpaa.Fw
namespace Go.Proofs.Ytipgdalebkhgpaa.Fw
open Go Go.RowKit
theorem RdS.shape {w : World} {v : Value} {sz : Nat} {els : List (List Value)} (h : RdS w v sz els) : ∃ a n c, v = .slice a n c := by
  obtain ⟨a, c, hv, _⟩ := h
  exact ⟨a, _, c, hv⟩
end Go.Proofs.Ytipgdalebkhgpaa.Fw
