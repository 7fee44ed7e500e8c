/-
  Contracts of functions.
-/
import Derived.Test.YtipgdalebkhgpaaTerms1
import Derived.Test.YtipgdalebkhgpaaTerms2
import Derived.Test.YtipgdalebkhgpaaTab
import Derived.Test.YtipgdalebkhgpaaModWatch2
set_option maxRecDepth 100000
set_option maxHeartbeats 4000000
set_option linter.unusedVariables false
set_option linter.unusedSimpArgs false
namespace Go.Proofs.Ytipgdalebkhgpaa
open Go Go.RowKit Fw
/-- damper/watch.first -/
theorem s100 (v : Value) (l : List Rul) (PG : World → Prop) (hst : Stab PG) (hg : ∀ (i : Nat) r, l[i]? = some r → (∀ (j : Nat) y, j < i → l[j]? = some y → y.ok = true) → Enters Try.prog r.f ∧ FnE Try.prog r.f r.caps PG (.bool r.ok)) :
    FnE Try.prog 100 [v] (fun w => RdS w v 2 (ruls l) ∧ PG w) (.int .i64 (firstFault l)) := by
  refine fn_of_J (cx := cx100) hmix Try.func100 (by kernel_rfl) (eq100 _) fun w hw => ?_
  have hS : ∀ H, SeeS ⟨Try.prog, w, footOf []⟩ H v 2 (ruls l) := fun H => SeeS.ofW0 hw.1 ruls_ne
  have hm := hw.1.le
  simp only [ruls_len, maxLen] at hm
  refine J.op (R.lenN sl201 (hS _) ruls_len) ?_ -- @t6 bltS .len #[201] 3 #[false] [a0]
  refine J.bind ?_ -- @tv_1 bind tv_1 ([2])
  refine J.block ?_
  -- @tx loop [(.int .i64 0), (.int .i64 0)]
  refine J.loopH (α := Nat) (fun i => i ≤ l.length ∧ ∀ j y, j < i → l[j]? = some y → y.ok = true) (fun i => [.int .i64 0, .int .i64 i]) (fun i => l.length - i) 0 ⟨Nat.zero_le _, fun j y h => absurd h (Nat.not_lt_zero j)⟩ rfl ?_
  rintro i ⟨hi, hall⟩
  try simp only [List.headD_cons, List.tail_cons]
  refine J.opD R.lss (fun ht8 => ?_) (fun ht8 => ?_) -- @t8 binS .lss 3 (.tmp 7) (.tmp 6) (tx.tail.headD undef) t6
  · skip
    refine J.iteT ?_
    refine J.bind ?_ -- @tv bind tv ([2])
    refine J.block ?_
    have hlt : i < l.length := by omega
    obtain ⟨x, hx⟩ := get_ex hlt
    refine J.ixW sl201 hS (by omega) (ruls_get hx) fun b o hkt9 => ?_ -- @t9 ix a0 (tx.tail.headD undef)
    refine J.op (R.ldKA ag171 (hkt9 _) rfl) ?_ -- @t10 vS (Instr.loadAt 171 t9)
    refine J.alloc z171 fun bt4 => ?_
    refine J.stW sz171 (by with_reducible repeat (first | exact Pick.here | apply Pick.there)) rfl rfl rfl ?_ -- @tu uS (Instr.storeAt 171 t4 t10)
    refine J.op fa171_0 ?_
    refine J.op (R.ld o23 (by with_reducible repeat (first | exact Pick.here | apply Pick.there)) rfl) ?_ -- @t12 vS (Instr.loadAt 23 t11)
    refine J.callEB (hg i x hx hall).1 (hg i x hx hall).2 (by simp) (fun _ _ hs => hst _ _ hs.ext hw.2) (fun ht13 => ?_) (fun ht13 => ?_) -- @t13 callS t12 []
    · skip
      refine J.op (v := .bool false) R.not ?_
      refine J.iteF ?_
      refine J.done ?_ -- then tv = [(tx.headD undef)]
      refine J.op (R.add64 (by omega)) ?_ -- @t17 binS .add 3 (.tmp 7) (.const (.int .i64 1)) (tx.tail.headD undef) (.int .i64 1)
      -- @again[(tv.headDundef),t17]
      refine J.done ⟨i + 1, ⟨by omega, fun j y hj hjt => ?_⟩, rfl, Imp.take (by (try dsimp only); repeat (first | exact Has.nil | refine Has.cons (by repeat (first | (with_reducible exact Out.here) | ((with_reducible refine Out.cells ?_); first | rfl | (simp; done)) | ((with_reducible refine Out.row ?_); first | rfl | (simp; done)) | (with_reducible apply Out.there))) ?_)), by omega⟩
      rcases Nat.lt_succ_iff_lt_or_eq.1 hj with hj | rfl
      · exact hall j y hj hjt
      · rw [hx] at hjt; cases hjt; exact ht13
    · skip
      refine J.op (v := .bool true) R.not ?_
      refine J.iteT ?_
      refine J.op fa171_1 ?_
      refine J.op (R.ld o25 (by with_reducible repeat (first | exact Pick.here | apply Pick.there)) rfl) ?_ -- @t16 vS (Instr.loadAt 25 t15)
      -- @ret[t16]
      exact J.done (RetQ.ge (.tmp (.nil)) (by rw [firstFault_at hx ht13 hall]; rfl))
  · skip
    refine J.iteF ?_
    refine J.done ⟨fun _ => ?_, fun h => absurd rfl h⟩ -- exit [(tx.headD undef)]
    -- @ret[(.int.i640)]
    exact J.done (RetQ.ge (.tmp (.nil)) (by rw [firstFault_none (fun j y hj => hall j y (by have := (List.getElem?_eq_some_iff.1 hj).1; omega) hj)]; rfl))

/-- (*damper/watch.Watch).check -/
theorem s71 (bw g n c : Nat) (st : Wst) (m : Msg) (hm : m.ok) :
    FnE Try.prog 71 [.pointer (some ⟨bw, 0, none⟩), .agg m.cells.toArray] (WatA bw g n c st) (.int .i64 (ckW st m)) := by
  refine fn_of_J (cx := cx71) hmix Try.func71 (by kernel_rfl) (eq71 _ _) fun w hw => ?_
  refine J.box1 rfl fun bt2 => ?_
  refine J.boxA fun bt3 => ?_
  refine J.op (R.ld o74 (by with_reducible repeat (first | exact Pick.here | apply Pick.there)) rfl) ?_ -- @t7 vS (Instr.loadAt 74 t2)
  refine J.op fa46_1 ?_
  refine J.op (R.ld o3 (by with_reducible repeat (first | exact Pick.here | apply Pick.there)) rfl) ?_ -- @t9 vS (Instr.loadAt 3 t8)
  refine J.callE en72 (s72 bw g n c st _) rfl (fun _ _ hs => WatA.stab _ _ hs.ext hw) ?_ -- @t10 callS (.func (.func 72) #[] #[]) [t7, t9]
  refine J.alloc z146 fun bt5 => ?_
  refine J.st sz146 (by with_reducible repeat (first | exact Pick.here | apply Pick.there)) (by repeat (first | exact .zero | exact .nil | apply Upd.succ | apply UpdN.cons)) rfl ?_ -- @tu uS (Instr.storeAt 146 t5 t10)
  refine J.op fa46_0 ?_
  refine J.op (R.ld o3 (by with_reducible repeat (first | exact Pick.here | apply Pick.there)) rfl) ?_ -- @t12 vS (Instr.loadAt 3 t11)
  refine J.op R.eql ?_ -- @t13 binS .eql 3 (.tmp 12) (.const (.int .i64 3)) t12 (.int .i64 3)
  refine J.alloc z4 fun bt6 => ?_
  refine J.st sz4 (by with_reducible repeat (first | exact Pick.here | apply Pick.there)) (by repeat (first | exact .zero | exact .nil | apply Upd.succ | apply UpdN.cons)) rfl ?_ -- @tu_1 uS (Instr.storeAt 4 t6 t13)
  refine J.op bd171_0_1 ?_ -- @t15 vS (Instr.build 171 #[(0, (.func (.func 101) #[] #[t3, t2])), (1, (.int .i64 4))])
  refine J.op bd171_0_1 ?_ -- @t17 vS (Instr.build 171 #[(0, (.func (.func 102) #[] #[t2, t3])), (1, (.int .i64 15))])
  refine J.op bd171_0_1 ?_ -- @t19 vS (Instr.build 171 #[(0, (.func (.func 104) #[] #[t5, t3])), (1, (.int .i64 5))])
  refine J.op bd171_0_1 ?_ -- @t21 vS (Instr.build 171 #[(0, (.func (.func 106) #[] #[t6, t3])), (1, (.int .i64 9))])
  refine J.op bd171_0_1 ?_ -- @t23 vS (Instr.build 171 #[(0, (.func (.func 107) #[] #[t6, t5, t3])), (1, (.int .i64 10))])
  refine J.op bd171_0_1 ?_ -- @t25 vS (Instr.build 171 #[(0, (.func (.func 109) #[] #[t6, t5, t3])), (1, (.int .i64 11))])
  refine J.bs bs201_6 fun bt26 => ?_ -- @t26 vS (Instr.buildSlice 201 6 #[(0, t15), (1, t17), (2, t19), (3, t21), (4, t23), (5, t25)])
  refine J.callE en100 (s100 _ (ckRuls bt3 bt2 bt5 bt6 g m st) (CkG bt3 bt2 bt5 bt6 bw g n c m st) CkG.stab (ckRuls_ok hm)) rfl (fun _ _ hs => ⟨SeeS.lit (els := ruls (ckRuls bt3 bt2 bt5 bt6 g m st)) (by with_reducible repeat (first | exact Pick.here | apply Pick.there)) (by rfl) (by intro l hl; simp [ruls, ckRuls, Rul.cells] at hl; rcases hl with rfl | rfl | rfl | rfl | rfl | rfl <;> rfl) (by rfl) (by decide) _ _ hs, Blk.of (by with_reducible repeat (first | exact Pick.here | apply Pick.there)) hs, Blk.of (by with_reducible repeat (first | exact Pick.here | apply Pick.there)) hs, Blk.of (by with_reducible repeat (first | exact Pick.here | apply Pick.there)) hs, Blk.of (by with_reducible repeat (first | exact Pick.here | apply Pick.there)) hs, WatA.stab _ _ hs.ext hw⟩) ?_ -- @t27 callS (.func (.func 100) #[] #[]) [t26]
  -- @ret[t27]
  exact J.done (RetQ.ge (.tmp (.nil)) (by rw [ckRuls_eq]; rfl))

/-- (*damper/watch.Watch).Phase -/
theorem s41 (bw g n c : Nat) (st : Wst) (sym : Int) :
    FnE Try.prog 41 [.pointer (some ⟨bw, 0, none⟩), .int .i64 sym] (WatA bw g n c st) (.int .i64 (knOf st sym).phase) := by
  refine fn_of_J (cx := cx41) hmix Try.func41 (by kernel_rfl) (eq41 _ _) fun w hw => ?_
  refine J.callE en72 (s72 bw g n c st _) rfl (fun _ _ hs => WatA.stab _ _ hs.ext hw) ?_
  rw [show Value.pointer (ofP g st sym) = .pointer (ofP g st sym) from rfl] -- @t8 callS (.func (.func 72) #[] #[]) [a0, a1]
  refine J.opB (R.notNil pt146) (fun ht10 => ?_) (fun ht10 => ?_) -- @t10 binS .neq 146 (.tmp 9) (.const (.pointer none)) t8 (.pointer none)
  · skip
    refine J.iteT ?_
    obtain ⟨j, x, hsym, hx⟩ := inSym_at (st := st) (sym := sym) (by rw [← ofP_isSome (g := g)]; exact ht10)
    rw [ofP_at hsym hx]
    refine J.op R.nil ?_ -- @t12 nilS t8
    refine J.op fa145_1 ?_
    refine J.op (R.ldRd o3 hw.2 not_foot (wks_at hx) (off := 16) rfl rfl) ?_ -- @t14 vS (Instr.loadAt 3 t13)
    -- @ret[t14]
    exact J.done (RetQ.ge (.tmp (.nil)) (by rw [knOf_at hsym hx]; rfl))
  · skip
    refine J.iteF ?_
    -- @ret[(.int.i640)]
    exact J.done (RetQ.ge (.tmp (.nil)) (by rw [knOf_no (by rw [← ofP_isSome (g := g)]; exact ht10)]; rfl))

/-- (*damper/watch.Watch).Phase -/
theorem s41nil (sym : Int) :
    FnE Try.prog 41 [.pointer none, .int .i64 sym] (fun _ => True) (.int .i64 0) := by
  refine fn_of_J (cx := cx41) hmix Try.func41 (by kernel_rfl) (eq41 _ _) fun w hw => ?_
  refine J.callE en72 (s72nil _) rfl (fun _ _ _ => trivial) ?_ -- @t8 callS (.func (.func 72) #[] #[]) [a0, a1]
  refine J.opBF (R.notNil pt146) (by rfl) ?_ -- @t10
  refine J.iteF ?_
  -- @ret[(.int.i640)]
  exact J.done (RetQ.ge (.tmp (.nil)) (by first | rfl | (simp [mkRes, *]; done) | (simp_all [mkRes]; done) | (simp_all [mkRes]; first | omega | (rw [decide_eq_false_iff_not]; omega) | (rw [decide_eq_true_iff]; omega)) | (simp only [mkRes]; (repeat' split) <;> first | rfl | omega | (simp_all; done) | (simp_all; omega))))

/-- (*damper/watch.Watch).Deadline -/
theorem s43 (bw g n c : Nat) (st : Wst) (sym : Int) :
    FnE Try.prog 43 [.pointer (some ⟨bw, 0, none⟩), .int .i64 sym] (WatA bw g n c st) (.int .i64 (knOf st sym).dl) := by
  refine fn_of_J (cx := cx43) hmix Try.func43 (by kernel_rfl) (eq43 _ _) fun w hw => ?_
  refine J.callE en72 (s72 bw g n c st _) rfl (fun _ _ hs => WatA.stab _ _ hs.ext hw) ?_
  rw [show Value.pointer (ofP g st sym) = .pointer (ofP g st sym) from rfl] -- @t8 callS (.func (.func 72) #[] #[]) [a0, a1]
  refine J.opB (R.notNil pt146) (fun ht10 => ?_) (fun ht10 => ?_) -- @t10 binS .neq 146 (.tmp 9) (.const (.pointer none)) t8 (.pointer none)
  · skip
    refine J.iteT ?_
    obtain ⟨j, x, hsym, hx⟩ := inSym_at (st := st) (sym := sym) (by rw [← ofP_isSome (g := g)]; exact ht10)
    rw [ofP_at hsym hx]
    refine J.op R.nil ?_ -- @t12 nilS t8
    refine J.op fa145_4 ?_
    refine J.op (R.ldRd o2 hw.2 not_foot (wks_at hx) (off := 21) rfl rfl) ?_ -- @t14 vS (Instr.loadAt 2 t13)
    -- @ret[t14]
    exact J.done (RetQ.ge (.tmp (.nil)) (by rw [knOf_at hsym hx]; rfl))
  · skip
    refine J.iteF ?_
    -- @ret[(.int.i640)]
    exact J.done (RetQ.ge (.tmp (.nil)) (by rw [knOf_no (by rw [← ofP_isSome (g := g)]; exact ht10)]; rfl))

/-- (*damper/watch.Watch).Deadline -/
theorem s43nil (sym : Int) :
    FnE Try.prog 43 [.pointer none, .int .i64 sym] (fun _ => True) (.int .i64 0) := by
  refine fn_of_J (cx := cx43) hmix Try.func43 (by kernel_rfl) (eq43 _ _) fun w hw => ?_
  refine J.callE en72 (s72nil _) rfl (fun _ _ _ => trivial) ?_ -- @t8 callS (.func (.func 72) #[] #[]) [a0, a1]
  refine J.opBF (R.notNil pt146) (by rfl) ?_ -- @t10
  refine J.iteF ?_
  -- @ret[(.int.i640)]
  exact J.done (RetQ.ge (.tmp (.nil)) (by first | rfl | (simp [mkRes, *]; done) | (simp_all [mkRes]; done) | (simp_all [mkRes]; first | omega | (rw [decide_eq_false_iff_not]; omega) | (rw [decide_eq_true_iff]; omega)) | (simp only [mkRes]; (repeat' split) <;> first | rfl | omega | (simp_all; done) | (simp_all; omega))))

/-- (*damper/watch.Watch).Band -/
theorem s42 (bw g n c : Nat) (st : Wst) (sym : Int) :
    FnE Try.prog 42 [.pointer (some ⟨bw, 0, none⟩), .int .i64 sym] (WatA bw g n c st) (.agg [.int .i64 (knOf st sym).blo, .int .i64 (knOf st sym).bhi].toArray) := by
  refine fn_of_J (cx := cx42) hmix Try.func42 (by kernel_rfl) (eq42 _ _) fun w hw => ?_
  refine J.alloc z85 fun bt4 => ?_
  refine J.callE en72 (s72 bw g n c st _) rfl (fun _ _ hs => WatA.stab _ _ hs.ext hw) ?_
  rw [show Value.pointer (ofP g st sym) = .pointer (ofP g st sym) from rfl] -- @t8 callS (.func (.func 72) #[] #[]) [a0, a1]
  refine J.opB (R.notNil pt146) (fun ht10 => ?_) (fun ht10 => ?_) -- @t10 binS .neq 146 (.tmp 9) (.const (.pointer none)) t8 (.pointer none)
  · skip
    refine J.iteT ?_
    obtain ⟨j, x, hsym, hx⟩ := inSym_at (st := st) (sym := sym) (by rw [← ofP_isSome (g := g)]; exact ht10)
    rw [ofP_at hsym hx]
    refine J.op R.nil ?_ -- @t12 nilS t8
    refine J.op fa145_2 ?_
    refine J.op (R.ldRdA ag85 hw.2 not_foot (wks_at hx) (off := 17) rfl rfl rfl) ?_ -- @t14 vS (Instr.loadAt 85 t13)
    refine J.stW sz85 (by with_reducible repeat (first | exact Pick.here | apply Pick.there)) rfl rfl rfl ?_ -- @tu uS (Instr.storeAt 85 t4 t14)
    -- @ret[t4]
    exact J.done (RetQ.ge (.cellA ag85 (by with_reducible repeat (first | exact Pick.here | apply Pick.there)) rfl (.nil)) (by rw [knOf_at hsym hx]; rfl))
  · skip
    refine J.iteF ?_
    refine J.op (R.ldA ag85 (by with_reducible repeat (first | exact Pick.here | apply Pick.there)) rfl) ?_ -- @t15 vS (Instr.loadAt 85 t4)
    refine J.stW sz85 (by with_reducible repeat (first | exact Pick.here | apply Pick.there)) rfl rfl rfl ?_ -- @tu_1 uS (Instr.storeAt 85 t4 t15)
    -- @ret[t4]#2
    exact J.done (RetQ.ge (.cellA ag85 (by with_reducible repeat (first | exact Pick.here | apply Pick.there)) rfl (.nil)) (by rw [knOf_no (by rw [← ofP_isSome (g := g)]; exact ht10)]; rfl))

/-- (*damper/watch.Watch).Band -/
theorem s42nil (sym : Int) :
    FnE Try.prog 42 [.pointer none, .int .i64 sym] (fun _ => True) (.agg [.int .i64 0, .int .i64 0].toArray) := by
  refine fn_of_J (cx := cx42) hmix Try.func42 (by kernel_rfl) (eq42 _ _) fun w hw => ?_
  refine J.alloc z85 fun bt4 => ?_
  refine J.callE en72 (s72nil _) rfl (fun _ _ _ => trivial) ?_ -- @t8 callS (.func (.func 72) #[] #[]) [a0, a1]
  refine J.opBF (R.notNil pt146) (by rfl) ?_ -- @t10
  refine J.iteF ?_
  refine J.op (R.ldA ag85 (by with_reducible repeat (first | exact Pick.here | apply Pick.there)) rfl) ?_ -- @t15 vS (Instr.loadAt 85 t4)
  refine J.stW sz85 (by with_reducible repeat (first | exact Pick.here | apply Pick.there)) rfl rfl rfl ?_ -- @tu_1 uS (Instr.storeAt 85 t4 t15)
  -- @ret[t4]
  exact J.done (RetQ.ge (.cellA ag85 (by with_reducible repeat (first | exact Pick.here | apply Pick.there)) rfl (.nil)) (by first | rfl | (simp [mkRes, *]; done) | (simp_all [mkRes]; done) | (simp_all [mkRes]; first | omega | (rw [decide_eq_false_iff_not]; omega) | (rw [decide_eq_true_iff]; omega)) | (simp only [mkRes]; (repeat' split) <;> first | rfl | omega | (simp_all; done) | (simp_all; omega))))

/-- (*damper/watch.Watch).Trades -/
theorem s44 (bw g n c : Nat) (st : Wst) (sym : Int) :
    FnE Try.prog 44 [.pointer (some ⟨bw, 0, none⟩), .int .i64 sym] (WatA bw g n c st) (.agg [.int .i64 (knOf st sym).t0, .int .i64 (knOf st sym).t1, .int .i64 (knOf st sym).t2, .int .i64 (knOf st sym).t3].toArray) := by
  refine fn_of_J (cx := cx44) hmix Try.func44 (by kernel_rfl) (eq44 _ _) fun w hw => ?_
  refine J.alloc z86 fun bt4 => ?_
  refine J.callE en72 (s72 bw g n c st _) rfl (fun _ _ hs => WatA.stab _ _ hs.ext hw) ?_
  rw [show Value.pointer (ofP g st sym) = .pointer (ofP g st sym) from rfl] -- @t8 callS (.func (.func 72) #[] #[]) [a0, a1]
  refine J.opB (R.notNil pt146) (fun ht10 => ?_) (fun ht10 => ?_) -- @t10 binS .neq 146 (.tmp 9) (.const (.pointer none)) t8 (.pointer none)
  · skip
    refine J.iteT ?_
    obtain ⟨j, x, hsym, hx⟩ := inSym_at (st := st) (sym := sym) (by rw [← ofP_isSome (g := g)]; exact ht10)
    rw [ofP_at hsym hx]
    refine J.op R.nil ?_ -- @t12 nilS t8
    refine J.op fa145_5 ?_
    refine J.op (R.ldRdA ag86 hw.2 not_foot (wks_at hx) (off := 22) rfl rfl rfl) ?_ -- @t14 vS (Instr.loadAt 86 t13)
    refine J.stW sz86 (by with_reducible repeat (first | exact Pick.here | apply Pick.there)) rfl rfl rfl ?_ -- @tu uS (Instr.storeAt 86 t4 t14)
    -- @ret[t4]
    exact J.done (RetQ.ge (.cellA ag86 (by with_reducible repeat (first | exact Pick.here | apply Pick.there)) rfl (.nil)) (by rw [knOf_at hsym hx]; rfl))
  · skip
    refine J.iteF ?_
    refine J.op (R.ldA ag86 (by with_reducible repeat (first | exact Pick.here | apply Pick.there)) rfl) ?_ -- @t15 vS (Instr.loadAt 86 t4)
    refine J.stW sz86 (by with_reducible repeat (first | exact Pick.here | apply Pick.there)) rfl rfl rfl ?_ -- @tu_1 uS (Instr.storeAt 86 t4 t15)
    -- @ret[t4]#2
    exact J.done (RetQ.ge (.cellA ag86 (by with_reducible repeat (first | exact Pick.here | apply Pick.there)) rfl (.nil)) (by rw [knOf_no (by rw [← ofP_isSome (g := g)]; exact ht10)]; rfl))

/-- (*damper/watch.Watch).Trades -/
theorem s44nil (sym : Int) :
    FnE Try.prog 44 [.pointer none, .int .i64 sym] (fun _ => True) (.agg [.int .i64 0, .int .i64 0, .int .i64 0, .int .i64 0].toArray) := by
  refine fn_of_J (cx := cx44) hmix Try.func44 (by kernel_rfl) (eq44 _ _) fun w hw => ?_
  refine J.alloc z86 fun bt4 => ?_
  refine J.callE en72 (s72nil _) rfl (fun _ _ _ => trivial) ?_ -- @t8 callS (.func (.func 72) #[] #[]) [a0, a1]
  refine J.opBF (R.notNil pt146) (by rfl) ?_ -- @t10
  refine J.iteF ?_
  refine J.op (R.ldA ag86 (by with_reducible repeat (first | exact Pick.here | apply Pick.there)) rfl) ?_ -- @t15 vS (Instr.loadAt 86 t4)
  refine J.stW sz86 (by with_reducible repeat (first | exact Pick.here | apply Pick.there)) rfl rfl rfl ?_ -- @tu_1 uS (Instr.storeAt 86 t4 t15)
  -- @ret[t4]
  exact J.done (RetQ.ge (.cellA ag86 (by with_reducible repeat (first | exact Pick.here | apply Pick.there)) rfl (.nil)) (by first | rfl | (simp [mkRes, *]; done) | (simp_all [mkRes]; done) | (simp_all [mkRes]; first | omega | (rw [decide_eq_false_iff_not]; omega) | (rw [decide_eq_true_iff]; omega)) | (simp only [mkRes]; (repeat' split) <;> first | rfl | omega | (simp_all; done) | (simp_all; omega))))
end Go.Proofs.Ytipgdalebkhgpaa
