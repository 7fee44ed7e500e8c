/-
  Rows: elements loaded and stored by their address; rows made of structs; '==' of an array with itself.
-/
import Derived.Test.YtipgdalebkhgpaaFw23
set_option linter.unusedVariables false
set_option linter.unusedSimpArgs false
namespace Go.Proofs.Ytipgdalebkhgpaa.Fw
open Go Go.RowKit

theorem RdS.cellAt {w : World} {g n c sz j off o : Nat} {els : List (List Value)} {l : List Value} {v : Value} (h : RdS w (.slice (some ⟨g, 0, none⟩) n c) sz els) (hj : els[j]? = some l) (ho : o = j * sz + off) (hv : l[off]? = some v) : w.cell? ⟨g, o, none⟩ = some v := by
  obtain ⟨a, c', hs, -, h⟩ := h
  cases hs
  obtain ⟨b, o', hab, hb⟩ := h j l hj
  cases hab
  have := hb off v hv
  rw [Nat.zero_add] at this
  rw [ho]
  exact this
theorem RdS.len {w : World} {a : Option Addr} {n c sz : Nat} {els : List (List Value)} (h : RdS w (.slice a n c) sz els) : els.length = n := by
  obtain ⟨a', c', hs, _⟩ := h
  cases hs
  rfl

section
variable {K : Kx} {r : Option Nat} {H : List Ent} {Q : Post}

/-- The address of an element, by itself. -/
theorem R.ixS {T E sz by_ g o n c : Nat} {kk : IntKind} {i : Int} (hT : slT K.P T E sz by_ = true) (h0 : 0 ≤ i) (hi : i < n) : Runs K H (vS (Instr.indexAt T (.slice (some ⟨g, o, none⟩) n c) (.int kk i))) (.pointer (some ⟨g, o + i.toNat * sz, none⟩)) := .of fun w => by
  obtain ⟨h1, hsz, inf, z, hinf, h2, -⟩ := slT_spec hT
  refine vS_run ?_
  unfold Instr.indexAt
  simp [asIntOf, run_und h1, h0, hi, sizeOf, typeInfo, hinf, h2, add_block]
theorem R.lenS {T E sz by_ ty : Nat} {cs : Array Bool} {a : Option Addr} {n c : Nat} (hT : slT K.P T E sz by_ = true) : Runs K H (bltS .len #[T] ty cs [.slice a n c]) (.int .i64 n) := .of fun w => by
  obtain ⟨h1, _⟩ := slT_spec hT
  show (builtin .len #[T] ty cs #[_]).run K.P w = _
  simp [builtin, Builtin.len_, run_und h1, goInt]

/-- Loads out of a row that an entry has. -/
theorem R.ldRow {T E sz g n c j off o : Nat} {els : List (List Value)} {l : List Value} {v : Value} {f : Ent → List Ent} (hT : one K.P T = true) (hp : Pick H (Ent.row (.slice (some ⟨g, 0, none⟩) n c) sz els E) f) (hj : els[j]? = some l) (ho : o = j * sz + off) (hv : l[off]? = some v) : Runs K H (vS (Instr.loadAt T (.pointer (some ⟨g, o, none⟩)))) v :=
  fun Ds w hs => run_loadAt_one hT ((SeeS.row hp Ds w hs).cellAt hj ho hv)
theorem R.ldRowA {T m E sz g n c j off o : Nat} {els : List (List Value)} {l l' : List Value} {f : Ent → List Ent} (hT : aggN K.P T m = true) (hp : Pick H (Ent.row (.slice (some ⟨g, 0, none⟩) n c) sz els E) f) (hj : els[j]? = some l) (ho : o = j * sz + off) (hl : (l.drop off).take m = l') (hn : l'.length = m) : Runs K H (vS (Instr.loadAt T (.pointer (some ⟨g, o, none⟩)))) (.agg l'.toArray) :=
  fun Ds w hs => run_loadAt_agg hT hn fun i v hi => by
    rw [add_block]
    refine (SeeS.row hp Ds w hs).cellAt (off := off + i) hj (by omega) ?_
    rw [← hl, List.getElem?_take] at hi
    split at hi
    · rwa [List.getElem?_drop] at hi
    · cases hi
/-- Loads out of a row that was there at the start. -/
theorem R.ldRd {T sz g n c j off o : Nat} {els : List (List Value)} {l : List Value} {v : Value} (hT : one K.P T = true) (h : RdS K.W (.slice (some ⟨g, 0, none⟩) n c) sz els) (hF : ¬ K.F0 g) (hj : els[j]? = some l) (ho : o = j * sz + off) (hv : l[off]? = some v) : Runs K H (vS (Instr.loadAt T (.pointer (some ⟨g, o, none⟩)))) v :=
  R.ldW hT (h.cellAt hj ho hv) hF
theorem R.ldRdA {T m sz g n c j off o : Nat} {els : List (List Value)} {l l' : List Value} (hT : aggN K.P T m = true) (h : RdS K.W (.slice (some ⟨g, 0, none⟩) n c) sz els) (hF : ¬ K.F0 g) (hj : els[j]? = some l) (ho : o = j * sz + off) (hl : (l.drop off).take m = l') (hn : l'.length = m) : Runs K H (vS (Instr.loadAt T (.pointer (some ⟨g, o, none⟩)))) (.agg l'.toArray) :=
  R.ldWA hT hn (fun i v hi => by
    rw [add_block]
    refine h.cellAt (off := off + i) hj (by omega) ?_
    rw [← hl, List.getElem?_take] at hi
    split at hi
    · rwa [List.getElem?_drop] at hi
    · cases hi) hF

/-- The cells of l' in the place of l's from off on. -/
def putAt : List Value → Nat → List Value → List Value
  | l, _, [] => l
  | l, off, v :: vs => putAt (l.set off v) (off + 1) vs
theorem putAt_len : ∀ (vs : List Value) (l : List Value) (off : Nat), (putAt l off vs).length = l.length
  | [], _, _ => rfl
  | v :: vs, l, off => by rw [putAt, putAt_len vs, List.length_set]
theorem UpdN.putAt : ∀ (vs l : List Value) (off : Nat), off + vs.length ≤ l.length → UpdN l off vs (putAt l off vs)
  | [], _, _, _ => .nil
  | v :: vs, l, off, h => by
    have hset : ∀ (l : List Value) (off : Nat), off < l.length → Upd l off v (l.set off v) := by
      intro l
      induction l with
      | nil => intro off h; simp at h
      | cons x l ih =>
        intro off h
        cases off with
        | zero => exact .zero
        | succ off => exact .succ (ih off (by simpa using h))
    simp only [List.length_cons] at h
    exact .cons (hset l off (by omega)) (UpdN.putAt vs _ _ (by rw [List.length_set]; omega))
theorem flatten_putAt {sz : Nat} {els : List (List Value)} {j : Nat} : ∀ (vs l : List Value) (els' : List (List Value)) (off : Nat), (∀ l, l ∈ els' → l.length = sz) → els'[j]? = some l → off + vs.length ≤ l.length →
    (els'.set j (putAt l off vs)).flatten = putAt els'.flatten (j * sz + off) vs
  | [], l, els', off, hl, hj, ho => by
    rw [putAt, putAt]
    congr 1
    apply List.ext_getElem?
    intro i
    by_cases h : i = j
    · subst h; rw [List.getElem?_set_self (List.getElem?_eq_some_iff.1 hj).1, hj]
    · rw [List.getElem?_set_ne (fun e => h e.symm)]
  | v :: vs, l, els', off, hl, hj, ho => by
    simp only [List.length_cons] at ho
    have hlt := (List.getElem?_eq_some_iff.1 hj).1
    have hls : l.length = sz := hl l (List.mem_of_getElem? hj)
    have h1 := flatten_set els' j off l v hl hj (by omega)
    have h2 := flatten_putAt (sz := sz) (els := els) (j := j) vs (l.set off v) (els'.set j (l.set off v)) (off + 1) (fun x hx => by
      rcases List.mem_or_eq_of_mem_set hx with hx | rfl
      · exact hl x hx
      · rw [List.length_set]; exact hls) (List.getElem?_set_self hlt) (by rw [List.length_set]; omega)
    rw [List.set_set] at h2
    rw [putAt, putAt, h2, h1, Nat.add_assoc]

/-- A store of a struct into an element of one's own row. -/
theorem J.stRowA {T E sz m g n c j off o : Nat} {els : List (List Value)} {l vs : List Value} {f : Ent → List Ent} {k : Value → Prog} (hT : sizeB K.P T m = true) (hp : Pick H (Ent.row (.slice (some ⟨g, 0, none⟩) n c) sz els E) f) (hj : els[j]? = some l) (ho : o = j * sz + off) (hvs : vs.length = m) (hoff : off + m ≤ l.length) (hv : allOne vs = true)
    (hk : J K r (f (Ent.row (.slice (some ⟨g, 0, none⟩) n c) sz (els.set j (putAt l off vs)) E)) (k undef) Q) : J K r H (.op false (uS (Instr.storeAt T (.pointer (some ⟨g, o, none⟩)) (.agg vs.toArray))) k) Q := by
  intro Ds w hs
  obtain ⟨hrow, hlens⟩ := hs.ents _ hp.mem
  obtain ⟨h1, ⟨h2, _⟩ | ⟨g', cap, cur, hv', h4, h5, h6, h7, h8, h9⟩⟩ := hrow
  · cases h2
  · cases hv'
    have hjl : l.length = sz := hlens l (List.mem_of_getElem? hj)
    have hjlt : j < els.length := (List.getElem?_eq_some_iff.1 hj).1
    have hlt2 : j * sz + off + m ≤ els.length * sz := by
      have : (j + 1) * sz ≤ els.length * sz := Nat.mul_le_mul_right sz hjlt
      rw [Nat.succ_mul] at this
      omega
    have hcl : els.length * sz ≤ cur.toList.length := by
      have h9' := congrArg List.length h9
      rw [List.length_take, h1] at h9'
      omega
    have hb : w.heap[g]? = some (.cells cur.toList.toArray E (0, 0)) := by rw [Array.toArray_toList]; exact h5
    have hrun : (uS (Instr.storeAt T (.pointer (some ⟨g, o, none⟩)) (.agg vs.toArray))).run K.P w = .ok .skip (w.putObj g (.cells (putAt cur.toList o vs).toArray E (0, 0))) := by
      refine uS_run ?_
      unfold Instr.storeAt
      simp only [Instr.sureAddr, Sem.run_bind, Sem.run_pure, Result.andThen_ok, storeVar, run_sizeOf hT, Value.cells]
      simp only [List.size_toArray, hvs, ne_eq, not_true_eq_false, if_false]
      exact run_storeCells vs 0 o _ _ w (by simpa using UpdN.putAt vs cur.toList o (by omega)) hb (allOne_spec hv)
    show opU _ _ _
    rw [hrun]
    have hglt : g < w.heap.size := (Array.getElem?_eq_some_iff.1 h5).1
    have hfp := flatten_putAt (sz := sz) (els := els) (j := j) vs l els off hlens hj (by omega)
    have htake : ∀ (vs : List Value) (xs : List Value) (o N : Nat), (putAt xs o vs).take N = putAt (xs.take N) o vs := by
      intro vs
      induction vs with
      | nil => intros; rfl
      | cons v vs ih => intro xs o N; rw [putAt, putAt, ih, List.take_set]
    refine hk Ds _ (hs.turn hp rfl rfl rfl (by simp) (fun x hx => .inl hx) (fun x _ hx => World.putObj_heap_other (fun e => hx (by subst e; rfl))) ⟨⟨?_, .inr ⟨g, c, (putAt cur.toList o vs).toArray, ?_, Nat.zero_le _, World.putObj_heap_same hglt, ?_, h7, ?_, ?_⟩⟩, ?_⟩)
    · rw [hfp, putAt_len, List.length_set]
      exact h1
    · rw [List.length_set]
    · rw [List.length_set]; exact h6
    · simpa [putAt_len] using h8
    · rw [List.length_set, hfp, ← h9, ← ho]
      exact htake _ _ _ _
    · intro x hx
      rcases List.mem_or_eq_of_mem_set hx with hx | rfl
      · exact hlens x hx
      · rw [putAt_len]; exact hjl

theorem madeCells_flat (z : List Value) (hz : 0 < z.length) (n : Nat) : (madeCells z.toArray (n * z.length)).toList = (List.replicate n z).flatten := by
  apply List.ext_getElem?
  intro i
  by_cases hi : i < n * z.length
  · have h1 : i / z.length < n := (Nat.div_lt_iff_lt_mul hz).2 hi
    have h2 : i % z.length < z.length := Nat.mod_lt _ hz
    have h3 := flatten_getElem (List.replicate n z) (i / z.length) z (i % z.length) _ (fun l hl => by rw [List.mem_replicate] at hl; rw [hl.2]) (by rw [List.getElem?_replicate, if_pos h1]) (List.getElem?_eq_getElem h2)
    have h4 : i / z.length * z.length + i % z.length = i := by rw [Nat.mul_comm]; exact Nat.div_add_mod i z.length
    rw [h4] at h3
    rw [h3]
    simp [madeCells, hi, h2]
  · rw [List.getElem?_eq_none (by simp [madeCells]; omega), List.getElem?_eq_none (by simp; omega)]

/-- A new slice of n zeros, of structs. -/
theorem J.makeN {T E sz by_ n : Nat} {z : List Value} {kl kc : IntKind} {k : Value → Prog} (hT : slT K.P T E sz by_ = true) (hz : zeroL K.P E = some z) (hzl : z.length = sz) (hb : by_ * n ≤ 281474976710656) (hm : n ≤ maxLen)
    (hk : ∀ b, J K r (Ent.row (.slice (some ⟨b, 0, none⟩) n n) sz (List.replicate n z) E :: H) (k (.slice (some ⟨b, 0, none⟩) n n)) Q) : J K r H (.op false (vS (Instr.makeSlice T (.int kl (n : Int)) (.int kc (n : Int)))) k) Q := by
  intro Ds w hs
  obtain ⟨hu, hsz, inf, zv, hinf, h2, h3, h4, h5⟩ := slT_spec hT
  have hzc : zv.cells.toList = z := by
    unfold zeroL at hz
    rw [hinf] at hz
    simp only [h4, Option.map_some] at hz
    exact Option.some.inj hz
  have hzc' : zv.cells = z.toArray := by rw [← hzc, Array.toArray_toList]
  obtain ⟨w', hrun, hown, hg⟩ := run_make_full (P := K.P) w 0 T E inf zv sz hu hinf h4 h2 kl kc n (by rw [h3]; exact hb) hm (Nat.zero_le _)
  show opU _ _ _
  rw [vS_run hrun]
  refine hk w.heap.size Ds w' ?_
  have hcells : (madeCells zv.cells (n * sz)).toList = (List.replicate n z).flatten := by
    rw [hzc', ← hzl]
    exact madeCells_flat z (by omega) n
  have hnew : (Ent.row (.slice (some ⟨w.heap.size, 0, none⟩) n n) sz (List.replicate n z) E).holds w' := by
    refine ⟨?_, fun l hl => by rw [List.mem_replicate] at hl; rw [hl.2]; exact hzl⟩
    rw [List.length_replicate, ← hcells]
    exact hown
  have hlt : ∀ e, e ∈ H → ∀ b, e.foot b → b < w.heap.size := fun e he b hb => e.inb w (hs.ents e he) b hb
  refine ⟨hg.os.trans hs.os, hg.tape.trans hs.tape, hg.output.trans hs.output, Nat.le_trans hs.size hg.size, ?_, ?_, ?_, ?_, hs.nodup, ?_⟩
  · exact fun b hb hF => (hg.block b (Nat.lt_of_lt_of_le hb hs.size) (by simp)).trans (hs.frame b hb hF)
  · intro e he
    cases he with
    | head => exact hnew
    | tail _ he => exact e.loc w w' (fun b hb => hg.block b (hlt e he b hb) (by simp)) (hs.ents e he)
  · intro e he b hb
    cases he with
    | head =>
      have : some w.heap.size = some b := hb
      cases this
      exact .inr hs.size
    | tail _ he => exact hs.own e he b hb
  · refine List.pairwise_cons.2 ⟨fun e he b hb hf => ?_, hs.disj⟩
    have : some w.heap.size = some b := hb
    cases this
    exact absurd (hlt e he _ hf) (Nat.lt_irrefl _)
  · intro D hD
    have hl := hs.lt_mark hD
    refine ⟨(hg.block D hl (by simp)).trans (hs.marks D hD).1, (hs.marks D hD).2.1, fun e he hf => ?_⟩
    cases he with
    | head =>
      have : some w.heap.size = some D := hf
      cases this
      exact absurd hl (Nat.lt_irrefl _)
    | tail _ he => exact (hs.marks D hD).2.2 e he hf

/-- An array of four whole numbers against itself. -/
theorem equal4 {P : Program} {T E : Nat} {a b c d : Int} (hT : arrT P T 4 E 1 = true) (hE : P.underlying E = some (.int .i64)) (w : World) :
    (Op.equalIn 10000 T (.agg #[.int .i64 a, .int .i64 b, .int .i64 c, .int .i64 d]) (.agg #[.int .i64 a, .int .i64 b, .int .i64 c, .int .i64 d])).run P w = .ok true w := by
  obtain ⟨h1, inf, hinf, h2⟩ := arrT_spec hT
  have hag : (isAgg E).run P w = .ok false w := by
    unfold isAgg underlying
    simp only [Sem.run_bind, run_program, Result.andThen_ok, hE, Sem.run_pure]
  have hpart : ∀ (i : Nat) (v : Value), (#[Value.int .i64 a, .int .i64 b, .int .i64 c, .int .i64 d] : Array Value)[i]? = some v → (part E #[Value.int .i64 a, .int .i64 b, .int .i64 c, .int .i64 d] i).run P w = .ok v w := by
    intro i v hv
    unfold part
    simp only [Sem.run_bind, hag, Result.andThen_ok, Bool.false_eq_true, if_false, hv, Sem.run_pure]
  have heq : ∀ x : Int, (Op.equalIn 9999 E (.int .i64 x) (.int .i64 x)).run P w = .ok true w := fun x => by
    rw [run_equalIn_int w 9998 E .i64 .i64 x x hE]
    simp
  rw [show (10000 : Nat) = 9999 + 1 from rfl, Op.equalIn]
  simp only [Sem.run_bind, run_und h1, Result.andThen_ok, sizeOf, typeInfo, run_program, hinf, Sem.run_pure, h2]
  simp [Std.Legacy.Range.forIn_eq_forIn_range', hpart 0 _ rfl, hpart 1 _ rfl, hpart 2 _ rfl, hpart 3 _ rfl, heq, List.range']
theorem R.ne4 {T E : Nat} {x y : Operand} {a b c d : Int} (hT : arrT K.P T 4 E 1 = true) (hE : K.P.underlying E = some (.int .i64)) (hm : K.P.eqGuardType K.P.depth T = false) :
    Runs K H (binS .neq T x y (.agg [.int .i64 a, .int .i64 b, .int .i64 c, .int .i64 d].toArray) (.agg [.int .i64 a, .int .i64 b, .int .i64 c, .int .i64 d].toArray)) (.bool false) := .of fun w => by
  refine vS_run ?_
  simp only [Sem.run_bind, run_eqGuard_agg w _ T x y _ _ hm, Result.andThen_ok, run_neq_struct, equal4 hT hE w]
  rfl
theorem R.eq4 {T E : Nat} {x y : Operand} {a b c d : Int} (hT : arrT K.P T 4 E 1 = true) (hE : K.P.underlying E = some (.int .i64)) (hm : K.P.eqGuardType K.P.depth T = false) :
    Runs K H (binS .eql T x y (.agg [.int .i64 a, .int .i64 b, .int .i64 c, .int .i64 d].toArray) (.agg [.int .i64 a, .int .i64 b, .int .i64 c, .int .i64 d].toArray)) (.bool true) := .of fun w => by
  refine vS_run ?_
  simp only [Sem.run_bind, run_eqGuard_agg w _ T x y _ _ hm, Result.andThen_ok, run_eql_struct, equal4 hT hE w]
end
end Go.Proofs.Ytipgdalebkhgpaa.Fw
