/-
  The walk's rules for single operations.
-/
import Derived.Test.YtipgdalebkhgpaaFw8
import Derived.Laws.StructEq
import Derived.Laws.Cells
import Derived.IntWalk
set_option linter.unusedVariables false
namespace Go.Proofs.Ytipgdalebkhgpaa.Fw
open Go Go.RowKit

def one (P : Program) (T : TypeId) : Bool :=
  match P.underlying T, P.info? T with
  | some (.struct _), _ | some (.array _ _), _ => false
  | some _, some i => Nat.beq i.size 1
  | _, _ => false
def aggN (P : Program) (T n : TypeId) : Bool :=
  match P.underlying T, P.info? T with
  | some (.struct _), some i => Nat.beq i.size n
  | some (.array _ _), some i => Nat.beq i.size n
  | _, _ => false

theorem vS_run {P : Program} {s : Sem Value} {v : Value} {w w' : World} (h : s.run P w = .ok v w') : (vS s).run P w = .ok (.value v) w' := by
  unfold vS
  simp only [Sem.run_bind, h, Result.andThen_ok, Sem.run_pure]
theorem uS_run {P : Program} {s : Sem Unit} {w w' : World} (h : s.run P w = .ok () w') : (uS s).run P w = .ok .skip w' := by
  unfold uS
  simp only [Sem.run_bind, h, Result.andThen_ok, Sem.run_pure]

theorem run_isAgg_one {P : Program} {T : TypeId} (h : one P T = true) (w : World) : (isAgg T).run P w = .ok false w := by
  unfold one at h
  unfold isAgg underlying
  simp only [Sem.run_bind, run_program, Result.andThen_ok]
  cases hu : P.underlying T with
  | none => rw [hu] at h; simp at h
  | some d => rw [hu] at h; cases d <;> first | rfl | (simp at h)
theorem run_isAgg_agg {P : Program} {T n : TypeId} (h : aggN P T n = true) (w : World) : (isAgg T).run P w = .ok true w := by
  unfold aggN at h
  unfold isAgg underlying
  simp only [Sem.run_bind, run_program, Result.andThen_ok]
  cases hu : P.underlying T with
  | none => rw [hu] at h; simp at h
  | some d => rw [hu] at h; cases d <;> first | rfl | (simp at h)
theorem run_sizeOf_agg {P : Program} {T n : TypeId} (h : aggN P T n = true) (w : World) : (sizeOf T).run P w = .ok n w := by
  unfold aggN at h
  unfold sizeOf typeInfo
  simp only [Sem.run_bind, run_program, Result.andThen_ok]
  cases hi : P.info? T with
  | none =>
    rw [hi] at h
    split at h <;> simp_all
  | some i =>
    rw [hi] at h
    have : i.size = n := by
      split at h <;> simp_all
    simp [this]
theorem run_sizeOf_one {P : Program} {T : TypeId} (h : one P T = true) (w : World) : (sizeOf T).run P w = .ok 1 w := by
  unfold one at h
  unfold sizeOf typeInfo
  simp only [Sem.run_bind, run_program, Result.andThen_ok]
  cases hi : P.info? T with
  | none =>
    rw [hi] at h
    split at h <;> simp_all
  | some i =>
    rw [hi] at h
    have : i.size = 1 := by
      split at h <;> simp_all
    simp [this]

theorem run_loadAt_one {P : Program} {T : TypeId} (hT : one P T = true) {a : Addr} {v : Value} {w : World} (h : w.cell? a = some v) : (vS (Instr.loadAt T (.pointer (some a)))).run P w = .ok (.value v) w := by
  refine vS_run ?_
  unfold Instr.loadAt
  simp only [Instr.sureAddr, Sem.run_bind, Sem.run_pure, Result.andThen_ok, loadVar, run_isAgg_one hT, Bool.false_eq_true, if_false, run_load, h]
theorem run_loadAt_agg {P : Program} {T n : TypeId} (hT : aggN P T n = true) {a : Addr} {l : List Value} {w : World} (hl : l.length = n) (h : ∀ j v, l[j]? = some v → w.cell? (a.add j) = some v) :
    (vS (Instr.loadAt T (.pointer (some a)))).run P w = .ok (.value (.agg l.toArray)) w := by
  refine vS_run ?_
  unfold Instr.loadAt
  simp only [Instr.sureAddr, Sem.run_bind, Sem.run_pure, Result.andThen_ok, loadVar, run_isAgg_agg hT, if_true, run_sizeOf_agg hT]
  have := run_loadCells_list (P := P) (w := w) a l h
  rw [hl] at this
  rw [this]
  rfl

theorem cell_block {w : World} {b : Nat} {cs : List Value} {T : TypeId} (h : w.heap[b]? = some (.cells cs.toArray T (0, 0))) (o : Nat) : w.cell? ⟨b, o, none⟩ = cs[o]? := by
  simp [World.cell?, h]

theorem add_block (b o j : Nat) : (⟨b, o, none⟩ : Addr).add j = ⟨b, o + j, none⟩ := by
  unfold Addr.add
  split
  · rename_i h; subst h; rfl
  · rfl

section
variable {K : Kx} {r : Option Nat} {H : List Ent} {Q : Post}

theorem Runs.of {s : Sem Next} {v : Value} (h : ∀ w, s.run K.P w = .ok (.value v) w) : Runs K H s v := fun _ w _ => h w

/-- A load of one cell of an entry. -/
theorem R.ld {T T' b o : Nat} {cs : List Value} {f : Ent → List Ent} {v : Value} (hT : one K.P T = true) (hp : Pick H (Ent.cells b cs T') f) (hv : cs[o]? = some v) : Runs K H (vS (Instr.loadAt T (.pointer (some ⟨b, o, none⟩)))) v :=
  fun _ _ hs => run_loadAt_one hT ((cell_block (hs.ents _ hp.mem) o).trans hv)
/-- A load of a whole entry. -/
theorem R.ldA {T T' n b : Nat} {cs : List Value} {f : Ent → List Ent} (hT : aggN K.P T n = true) (hp : Pick H (Ent.cells b cs T') f) (hn : cs.length = n) : Runs K H (vS (Instr.loadAt T (.pointer (some ⟨b, 0, none⟩)))) (.agg cs.toArray) :=
  fun _ w hs => run_loadAt_agg hT hn fun j v hj => by
    rw [add_block, Nat.zero_add]
    exact (cell_block (hs.ents _ hp.mem) j).trans hj
/-- A load of a part of an entry. -/
theorem R.ldP {T T' n b o : Nat} {cs l : List Value} {f : Ent → List Ent} (hT : aggN K.P T n = true) (hp : Pick H (Ent.cells b cs T') f) (hl : (cs.drop o).take n = l) (hn : l.length = n) : Runs K H (vS (Instr.loadAt T (.pointer (some ⟨b, o, none⟩)))) (.agg l.toArray) :=
  fun _ w hs => run_loadAt_agg hT hn fun j v hj => by
    rw [add_block]
    refine (cell_block (hs.ents _ hp.mem) (o + j)).trans ?_
    rw [← hl] at hj
    rw [List.getElem?_take] at hj
    split at hj
    · rw [List.getElem?_drop] at hj; exact hj
    · cases hj

/-! ### What was there at the start, and stays -/
theorem R.ldW {T : Nat} {a : Addr} {v : Value} (hT : one K.P T = true) (hc : K.W.cell? a = some v) (hF : ¬ K.F0 a.block) : Runs K H (vS (Instr.loadAt T (.pointer (some a)))) v :=
  fun _ w hs => run_loadAt_one hT ((World.cell?_of_block (hs.frame _ (World.block_lt_of_cell? _ _ hc) hF)).trans hc)
theorem R.ldWA {T n : Nat} {a : Addr} {l : List Value} (hT : aggN K.P T n = true) (hn : l.length = n) (hc : ∀ j v, l[j]? = some v → K.W.cell? (a.add j) = some v) (hF : ¬ K.F0 a.block) : Runs K H (vS (Instr.loadAt T (.pointer (some a)))) (.agg l.toArray) :=
  fun _ w hs => run_loadAt_agg hT hn fun j v hj => by
    have h1 := hc j v hj
    have hb : (a.add j).block = a.block := by unfold Addr.add; split <;> rfl
    exact (World.cell?_of_block (hs.frame _ (World.block_lt_of_cell? _ _ h1) (hb ▸ hF))).trans h1

/-! ### New blocks -/
theorem J.box {T : Nat} {v : Value} {k : Value → Prog} (hk : ∀ b, J K r (Ent.cells b v.cells.toList T :: H) (k (.pointer (some ⟨b, 0, none⟩))) Q) : J K r H (.op false (vS (Instr.box T v)) k) Q :=
  J.opA (o := .cells v.cells T) (mk := fun b => .pointer (some ⟨b, 0, none⟩)) (fun _ w _ => rfl) (fun b => by
    have := hk b
    unfold Ent.cells at this
    rwa [Array.toArray_toList] at this)
theorem J.boxA {T : Nat} {l : List Value} {k : Value → Prog} (hk : ∀ b, J K r (Ent.cells b l T :: H) (k (.pointer (some ⟨b, 0, none⟩))) Q) : J K r H (.op false (vS (Instr.box T (.agg l.toArray))) k) Q :=
  J.box hk
def zeroL (P : Program) (T : TypeId) : Option (List Value) := match P.info? T with | some i => i.zero.map fun z => z.cells.toList | none => none
theorem run_zeroValue {P : Program} {T : TypeId} {l : List Value} (h : zeroL P T = some l) (w : World) : ∃ z, (zeroValue T).run P w = .ok z w ∧ z.cells = l.toArray := by
  unfold zeroL at h
  cases hi : P.info? T with
  | none => rw [hi] at h; cases h
  | some i =>
    rw [hi] at h
    simp only [Option.map_eq_some_iff] at h
    obtain ⟨z, hz, hl⟩ := h
    refine ⟨z, ?_, by rw [← hl]⟩
    unfold zeroValue typeInfo
    simp only [Sem.run_bind, run_program, Result.andThen_ok, hi, Sem.run_pure, hz]
theorem J.alloc {T : Nat} {l : List Value} {k : Value → Prog} (hz : zeroL K.P T = some l) (hk : ∀ b, J K r (Ent.cells b l T :: H) (k (.pointer (some ⟨b, 0, none⟩))) Q) : J K r H (.op false (vS (Instr.alloc T true (.tuple #[]))) k) Q :=
  J.opA (o := .cells l.toArray T) (mk := fun b => .pointer (some ⟨b, 0, none⟩)) (fun _ w _ => by
    obtain ⟨z, h1, h2⟩ := run_zeroValue hz w
    refine vS_run ?_
    unfold Instr.alloc
    simp only [Sem.run_bind, h1, Result.andThen_ok, newVar, newRow, run_newObj, Sem.run_pure, h2]
    rfl) hk

/-! ### Stores -/
/-- A list with another element at a place. -/
inductive Upd : List Value → Nat → Value → List Value → Prop where
  | zero {x v : Value} {l : List Value} : Upd (x :: l) 0 v (v :: l)
  | succ {x v : Value} {l l' : List Value} {n : Nat} : Upd l n v l' → Upd (x :: l) (n + 1) v (x :: l')
theorem Upd.eq {l l' : List Value} {n : Nat} {v : Value} (h : Upd l n v l') : l' = l.set n v ∧ n < l.length := by
  induction h with
  | zero => exact ⟨rfl, by simp⟩
  | succ _ ih => exact ⟨by rw [ih.1]; rfl, by simpa using ih.2⟩
/-- A list with a row of other elements from a place on. -/
inductive UpdN : List Value → Nat → List Value → List Value → Prop where
  | nil {l : List Value} {n : Nat} : UpdN l n [] l
  | cons {l l' l'' vs : List Value} {n : Nat} {v : Value} : Upd l n v l' → UpdN l' (n + 1) vs l'' → UpdN l n (v :: vs) l''

theorem setCell_putObj {w : World} {b : Nat} {cs : List Value} {T : TypeId} (h : w.heap[b]? = some (.cells cs.toArray T (0, 0))) (o : Nat) (v : Value) :
    w.setCell ⟨b, o, none⟩ v = w.putObj b (.cells (cs.set o v).toArray T (0, 0)) := by
  obtain ⟨hlt, hb⟩ := Array.getElem?_eq_some_iff.1 h
  unfold World.setCell World.putObj
  congr 1
  apply Array.ext
  · simp
  · intro i h1 h2
    by_cases hi : i = b
    · subst hi
      simp [Array.getElem_modify, hb]
    · have hne : b ≠ i := fun e => hi e.symm
      rw [Array.getElem_modify, if_neg hne, Array.getElem_setIfInBounds_ne _ hne]

theorem run_store_block {P : Program} {w : World} {b o : Nat} {cs : List Value} {T : TypeId} (h : w.heap[b]? = some (.cells cs.toArray T (0, 0))) (ho : o < cs.length) {v : Value} (hv : v.oneCell' = true) :
    (store ⟨b, o, none⟩ v).run P w = .ok () (w.putObj b (.cells (cs.set o v).toArray T (0, 0))) := by
  rw [run_store P w _ v .plain hv, cell_block h o, List.getElem?_eq_getElem ho]
  simp only [World.frozen?, h]
  simp [setCell_putObj h]

theorem putObj_putObj (w : World) (b : Nat) (o o' : Obj) : (w.putObj b o).putObj b o' = w.putObj b o' := by
  unfold World.putObj
  have : (w.heap.setIfInBounds b o).setIfInBounds b o' = w.heap.setIfInBounds b o' := by
    apply Array.ext_getElem?
    intro i
    by_cases hi : b = i
    · subst hi
      by_cases hb : b < w.heap.size
      · rw [Array.getElem?_setIfInBounds_self_of_lt (by simpa using hb), Array.getElem?_setIfInBounds_self_of_lt hb]
      · rw [Array.getElem?_eq_none (by simpa using hb), Array.getElem?_eq_none (by simpa using hb)]
    · rw [Array.getElem?_setIfInBounds_ne hi, Array.getElem?_setIfInBounds_ne hi, Array.getElem?_setIfInBounds_ne hi]
  rw [this]

theorem putObj_self {w : World} {b : Nat} {o : Obj} (h : w.heap[b]? = some o) : w.putObj b o = w := by
  unfold World.putObj
  have : w.heap.setIfInBounds b o = w.heap := by
    apply Array.ext_getElem?
    intro i
    by_cases hi : b = i
    · subst hi
      rw [Array.getElem?_setIfInBounds_self_of_lt (Array.getElem?_eq_some_iff.1 h).1, h]
    · rw [Array.getElem?_setIfInBounds_ne hi]
  rw [this]

theorem run_storeCells {P : Program} {b : Nat} {T : TypeId} : ∀ (vs : List Value) (i o : Nat) (cs cs' : List Value) (w : World), UpdN cs (o + i) vs cs' → w.heap[b]? = some (.cells cs.toArray T (0, 0)) → (∀ v, v ∈ vs → v.oneCell' = true) →
    (storeCells ⟨b, o, none⟩ vs i).run P w = .ok () (w.putObj b (.cells cs'.toArray T (0, 0)))
  | [], i, o, cs, cs', w, hu, h, _ => by
    cases hu
    unfold storeCells
    rw [putObj_self h]
    rfl
  | v :: vs, i, o, cs, cs', w, hu, h, h1 => by
    cases hu with
    | @cons _ l' _ _ _ _ hu1 hu2 =>
      obtain ⟨rfl, hlt⟩ := hu1.eq
      unfold storeCells
      rw [add_block]
      simp only [Sem.run_bind, run_store_block h hlt (h1 v List.mem_cons_self), Result.andThen_ok]
      have hb' : (w.putObj b (.cells (cs.set (o + i) v).toArray T (0, 0))).heap[b]? = some (.cells (cs.set (o + i) v).toArray T (0, 0)) := World.putObj_heap_same (Array.getElem?_eq_some_iff.1 h).1
      rw [run_storeCells vs (i + 1) o _ cs' _ (by rw [← Nat.add_assoc]; exact hu2) hb' (fun u hu => h1 u (List.mem_cons_of_mem _ hu)), putObj_putObj]

def sizeB (P : Program) (T n : TypeId) : Bool := match P.info? T with | some i => Nat.beq i.size n | none => false
theorem run_sizeOf {P : Program} {T n : TypeId} (h : sizeB P T n = true) (w : World) : (sizeOf T).run P w = .ok n w := by
  unfold sizeB at h
  unfold sizeOf typeInfo
  simp only [Sem.run_bind, run_program, Result.andThen_ok]
  cases hi : P.info? T with
  | none => rw [hi] at h; cases h
  | some i =>
    rw [hi] at h
    simp [Nat.eq_of_beq_eq_true h]

/-- A store of one cell into an entry. -/
theorem J.st {T T' b o : Nat} {cs cs' : List Value} {f : Ent → List Ent} {v : Value} {k : Value → Prog} (hT : sizeB K.P T 1 = true) (hp : Pick H (Ent.cells b cs T') f) (hu : Upd cs o v cs') (hv : v.oneCell' = true)
    (hk : J K r (f (Ent.cells b cs' T')) (k undef) Q) : J K r H (.op false (uS (Instr.storeAt T (.pointer (some ⟨b, o, none⟩)) v)) k) Q := by
  refine J.opT (o' := .cells cs'.toArray T' (0, 0)) hp (fun Ds w _ hb => .inr ⟨uS_run ?_, rfl⟩) hk
  obtain ⟨rfl, hlt⟩ := hu.eq
  unfold Instr.storeAt
  have hc : v.cells = #[v] := by cases v <;> first | rfl | (simp [Value.oneCell'] at hv)
  simp only [Instr.sureAddr, Sem.run_bind, Sem.run_pure, Result.andThen_ok, storeVar, run_sizeOf hT, hc]
  simp only [List.size_toArray, List.length_cons, List.length_nil, ne_eq, not_true_eq_false, if_false, storeCells, Sem.run_bind, add_block, Nat.add_zero]
  rw [run_store_block hb hlt hv]
  rfl
def allOne : List Value → Bool
  | [] => true
  | v :: r => bif v.oneCell' then allOne r else false
theorem allOne_spec : ∀ {l : List Value}, allOne l = true → ∀ v, v ∈ l → v.oneCell' = true
  | v :: r, h, u, hu => by
    unfold allOne at h
    cases hv : v.oneCell' with
    | false => rw [hv] at h; cases h
    | true =>
      rw [hv] at h
      cases hu with
      | head => exact hv
      | tail _ hu => exact allOne_spec h u hu
/-- A store of a struct into an entry. -/
theorem J.stA {T T' n b o : Nat} {cs cs' l : List Value} {f : Ent → List Ent} {k : Value → Prog} (hT : sizeB K.P T n = true) (hp : Pick H (Ent.cells b cs T') f) (hl : l.length = n) (hu : UpdN cs o l cs') (hv : allOne l = true)
    (hk : J K r (f (Ent.cells b cs' T')) (k undef) Q) : J K r H (.op false (uS (Instr.storeAt T (.pointer (some ⟨b, o, none⟩)) (.agg l.toArray))) k) Q := by
  refine J.opT (o' := .cells cs'.toArray T' (0, 0)) hp (fun Ds w _ hb => .inr ⟨uS_run ?_, rfl⟩) hk
  unfold Instr.storeAt
  simp only [Instr.sureAddr, Sem.run_bind, Sem.run_pure, Result.andThen_ok, storeVar, run_sizeOf hT, Value.cells]
  simp only [List.size_toArray, hl, ne_eq, not_true_eq_false, if_false]
  exact run_storeCells l 0 o cs cs' w (by simpa using hu) hb (allOne_spec hv)
/-- .. over the whole of it. -/
theorem J.stW {T T' n b : Nat} {cs l : List Value} {f : Ent → List Ent} {k : Value → Prog} (hT : sizeB K.P T n = true) (hp : Pick H (Ent.cells b cs T') f) (hl : l.length = n) (hc : cs.length = n) (hv : allOne l = true)
    (hk : J K r (f (Ent.cells b l T')) (k undef) Q) : J K r H (.op false (uS (Instr.storeAt T (.pointer (some ⟨b, 0, none⟩)) (.agg l.toArray))) k) Q := by
  have key : ∀ (l cs pre : List Value), l.length = cs.length → UpdN (pre ++ cs) pre.length l (pre ++ l) := by
    intro l
    induction l with
    | nil => intro cs pre h; cases cs with | nil => exact .nil | cons _ _ => simp at h
    | cons v l ih =>
      intro cs pre h
      cases cs with
      | nil => simp at h
      | cons c cs =>
        have hu : Upd (pre ++ c :: cs) pre.length v (pre ++ v :: cs) := by
          clear h ih
          induction pre with
          | nil => exact .zero
          | cons p pre ihp => exact .succ ihp
        refine .cons hu ?_
        have := ih cs (pre ++ [v]) (by simpa using h)
        simpa using this
  exact J.stA hT hp hl (key l cs [] (hl.trans hc.symm)) hv hk

/-! ### Numbers -/
theorem run_bin (P : Program) (op : BinOp) (t : TypeId) (x y : Operand) (k : IntKind) (a b : Int) (w : World) {v : Value} (h : (binOp op t (.int k a) (.int k b)).run P w = .ok v w) : (binS op t x y (.int k a) (.int k b)).run P w = .ok (.value v) w := by
  refine vS_run ?_
  have he : (eqGuard op t x y (.int k a) (.int k b)).run P w = .ok () w := by
    unfold eqGuard
    cases op <;> rfl
  simp only [Sem.run_bind, he, Result.andThen_ok, h]

variable {t : TypeId} {x y : Operand} {k : IntKind} {a b : Int}
theorem R.add : Runs K H (binS .add t x y (.int k a) (.int k b)) (.int k (k.wrap (a + b))) := .of fun w => run_bin _ _ _ _ _ _ _ _ w (by simp [binOp, Op.intArith])
theorem R.sub : Runs K H (binS .sub t x y (.int k a) (.int k b)) (.int k (k.wrap (a - b))) := .of fun w => run_bin _ _ _ _ _ _ _ _ w (by simp [binOp, Op.intArith])
theorem R.mul : Runs K H (binS .mul t x y (.int k a) (.int k b)) (.int k (k.wrap (a * b))) := .of fun w => run_bin _ _ _ _ _ _ _ _ w (by simp [binOp, Op.intArith])
theorem R.add64 (h : -9223372036854775808 ≤ a + b ∧ a + b ≤ 9223372036854775807) : Runs K H (binS .add t x y (.int .i64 a) (.int .i64 b)) (.int .i64 (a + b)) := by
  have := R.add (K := K) (H := H) (t := t) (x := x) (y := y) (k := .i64) (a := a) (b := b)
  rwa [IntWalk.i64_in _ h] at this
theorem R.sub64 (h : -9223372036854775808 ≤ a - b ∧ a - b ≤ 9223372036854775807) : Runs K H (binS .sub t x y (.int .i64 a) (.int .i64 b)) (.int .i64 (a - b)) := by
  have := R.sub (K := K) (H := H) (t := t) (x := x) (y := y) (k := .i64) (a := a) (b := b)
  rwa [IntWalk.i64_in _ h] at this
theorem R.mul64 (h : -9223372036854775808 ≤ a * b ∧ a * b ≤ 9223372036854775807) : Runs K H (binS .mul t x y (.int .i64 a) (.int .i64 b)) (.int .i64 (a * b)) := by
  have := R.mul (K := K) (H := H) (t := t) (x := x) (y := y) (k := .i64) (a := a) (b := b)
  rwa [IntWalk.i64_in _ h] at this
theorem R.quo (hb : b ≠ 0) : Runs K H (binS .quo t x y (.int k a) (.int k b)) (.int k (k.wrap (a.tdiv b))) := .of fun w => run_bin _ _ _ _ _ _ _ _ w (by simp [binOp, Op.intDiv, hb])
theorem R.rem (hb : b ≠ 0) : Runs K H (binS .rem t x y (.int k a) (.int k b)) (.int k (a.tmod b)) := .of fun w => run_bin _ _ _ _ _ _ _ _ w (by simp [binOp, Op.intDiv, hb])
theorem R.lss : Runs K H (binS .lss t x y (.int k a) (.int k b)) (.bool (decide (a < b))) := .of fun w => run_bin _ _ _ _ _ _ _ _ w (by simp [binOp, Op.intCmp])
theorem R.leq : Runs K H (binS .leq t x y (.int k a) (.int k b)) (.bool (decide (a ≤ b))) := .of fun w => run_bin _ _ _ _ _ _ _ _ w (by simp [binOp, Op.intCmp])
theorem R.gtr : Runs K H (binS .gtr t x y (.int k a) (.int k b)) (.bool (decide (b < a))) := .of fun w => run_bin _ _ _ _ _ _ _ _ w (by simp [binOp, Op.intCmp])
theorem R.geq : Runs K H (binS .geq t x y (.int k a) (.int k b)) (.bool (decide (b ≤ a))) := .of fun w => run_bin _ _ _ _ _ _ _ _ w (by simp [binOp, Op.intCmp])
theorem R.eql : Runs K H (binS .eql t x y (.int k a) (.int k b)) (.bool (decide (a = b))) := .of fun w => run_bin _ _ _ _ _ _ _ _ w (by simp [binOp, Op.intCmp]; rfl)
theorem R.neq : Runs K H (binS .neq t x y (.int k a) (.int k b)) (.bool (decide (a ≠ b))) := .of fun w => run_bin _ _ _ _ _ _ _ _ w (by simp [binOp, Op.intCmp]; rfl)
theorem R.not {c : Bool} : Runs K H (vS (Op.unary .not (.bool c))) (.bool (!c)) := .of fun w => rfl
theorem R.notD {c : Prop} [Decidable c] : Runs K H (vS (Op.unary .not (.bool (decide c)))) (.bool (decide (¬ c))) := .of fun w => by
  rw [show decide (¬ c) = !decide c by simp]; rfl
theorem R.neg : Runs K H (vS (Op.unary .neg (.int k a))) (.int k (k.wrap (0 - a))) := .of fun w => rfl
theorem R.pickT {u v : Value} : Runs K H (pickS (.bool true) u v) u := .of fun w => rfl
theorem R.pickF {u v : Value} : Runs K H (pickS (.bool false) u v) v := .of fun w => rfl
theorem R.pick {c : Bool} {u v : Value} : Runs K H (pickS (.bool c) u v) (if c then u else v) := .of fun w => by cases c <;> rfl
theorem R.pure {v : Value} : Runs K H (pure (.value v)) v := .of fun w => rfl
theorem R.nil {a : Addr} : Runs K H (nilS (.pointer (some a))) (.pointer (some a)) := .of fun w => rfl
theorem R.ext {vs : Array Value} {i : Nat} {v : Value} (h : vs[i]? = some v) : Runs K H (vS (Instr.extract (.tuple vs) i)) v := .of fun w => by
  refine vS_run ?_
  unfold Instr.extract
  simp [h]

/-- Part at a test. -/
theorem J.opD {q : Bool} {s : Sem Next} {c : Prop} {_ : Decidable c} {k : Value → Prog} (h : Runs K H s (.bool (decide c))) (ht : c → J K r H (k (.bool true)) Q) (hf : ¬ c → J K r H (k (.bool false)) Q) : J K r H (.op q s k) Q := by
  by_cases hc : c
  · have h' := h; rw [decide_eq_true hc] at h'; exact J.op h' (ht hc)
  · have h' := h; rw [decide_eq_false hc] at h'; exact J.op h' (hf hc)
theorem J.opB {q : Bool} {s : Sem Next} {c : Bool} {k : Value → Prog} (h : Runs K H s (.bool c)) (ht : c = true → J K r H (k (.bool true)) Q) (hf : c = false → J K r H (k (.bool false)) Q) : J K r H (.op q s k) Q := by
  cases c
  · exact J.op h (hf rfl)
  · exact J.op h (ht rfl)
/-- A test that is known. -/
theorem J.opDT {q : Bool} {s : Sem Next} {c : Prop} {_ : Decidable c} {k : Value → Prog} (h : Runs K H s (.bool (decide c))) (hc : c) (hk : J K r H (k (.bool true)) Q) : J K r H (.op q s k) Q := by
  rw [decide_eq_true hc] at h; exact J.op h hk
theorem J.opDF {q : Bool} {s : Sem Next} {c : Prop} {_ : Decidable c} {k : Value → Prog} (h : Runs K H s (.bool (decide c))) (hc : ¬ c) (hk : J K r H (k (.bool false)) Q) : J K r H (.op q s k) Q := by
  rw [decide_eq_false hc] at h; exact J.op h hk
end
end Go.Proofs.Ytipgdalebkhgpaa.Fw
