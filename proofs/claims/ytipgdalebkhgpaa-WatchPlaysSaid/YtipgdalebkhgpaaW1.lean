/-
  Contracts of functions.
-/
import Derived.Test.YtipgdalebkhgpaaTerms1
import Derived.Test.YtipgdalebkhgpaaTerms2
import Derived.Test.YtipgdalebkhgpaaTab
import Derived.Test.YtipgdalebkhgpaaG1
import Derived.Test.YtipgdalebkhgpaaModWatch
set_option maxRecDepth 100000
set_option maxHeartbeats 4000000
set_option linter.unusedVariables false
set_option linter.unusedSimpArgs false
namespace Go.Proofs.Ytipgdalebkhgpaa
open Go Go.RowKit Fw
/-- damper/band.Clip -/
theorem s169 (lo hi p : Int) :
    FnE Try.prog 169 [.agg [.int .i64 lo, .int .i64 hi].toArray, .int .i64 p] (fun _ => True) (.tuple (if hi < lo then #[.int .i64 0, .bool false] else #[.int .i64 (min (max p lo) hi), .bool true])) := by
  refine fn_of_J (cx := cx169) hmix Try.func169 (by kernel_rfl) (eq169 _ _) fun w hw => ?_
  refine J.boxA fun bt2 => ?_
  refine J.op fa85_1 ?_
  refine J.op (R.ld o2 (by with_reducible repeat (first | exact Pick.here | apply Pick.there)) rfl) ?_ -- @t7 vS (Instr.loadAt 2 t6)
  refine J.op fa85_0 ?_
  refine J.op (R.ld o2 (by with_reducible repeat (first | exact Pick.here | apply Pick.there)) rfl) ?_ -- @t9 vS (Instr.loadAt 2 t8)
  refine J.opD R.lss (fun ht10 => ?_) (fun ht10 => ?_) -- @t10 binS .lss 2 (.tmp 7) (.tmp 9) t7 t9
  · skip
    refine J.iteT ?_
    -- @ret[(.int.i640),(.boolfalse)]
    exact J.done (RetQ.ge (.tmp (.tmp (.nil))) (by rw [if_pos ht10]; rfl))
  · skip
    refine J.iteF ?_
    refine J.op fa85_0 ?_
    refine J.op (R.ld o2 (by with_reducible repeat (first | exact Pick.here | apply Pick.there)) rfl) ?_ -- @t13 vS (Instr.loadAt 2 t12)
    refine J.op R.maxI ?_ -- @t14 bltS .max #[2, 2] 2 #[false, false] [a1, t13]
    refine J.op fa85_1 ?_
    refine J.op (R.ld o2 (by with_reducible repeat (first | exact Pick.here | apply Pick.there)) rfl) ?_ -- @t16 vS (Instr.loadAt 2 t15)
    refine J.op R.minI ?_ -- @t17 bltS .min #[2, 2] 2 #[false, false] [t14, t16]
    -- @ret[t17,(.booltrue)]
    exact J.done (RetQ.ge (.tmp (.tmp (.nil))) (by rw [if_neg ht10]; simp only [mkRes, Int.max_comm, Int.min_comm]))

/-- damper/band.In -/
theorem s144 (lo hi p : Int) :
    FnE Try.prog 144 [.agg [.int .i64 lo, .int .i64 hi].toArray, .int .i64 p] (fun _ => True) (.bool (inBand lo hi p)) := by
  refine fn_of_J (cx := cx144) hmix Try.func144 (by kernel_rfl) (eq144 _ _) fun w hw => ?_
  refine J.boxA fun bt2 => ?_
  refine J.op (R.ldA ag85 (by with_reducible repeat (first | exact Pick.here | apply Pick.there)) rfl) ?_ -- @t8 vS (Instr.loadAt 85 t2)
  refine J.callE en169 (s169 _ _ _) rfl (fun _ _ _ => trivial) ?_ -- @t10 callS (.func (.func 169) #[] #[]) [t8, a1]
  by_cases hlh : hi < lo
  · rw [if_pos hlh]
    refine J.op (R.ext rfl) ?_
    refine J.op (R.ext rfl) ?_
    refine J.bind ?_
    refine J.gopF rfl ?_
    refine J.gopF rfl ?_
    refine J.gopF rfl ?_
    refine J.op R.pickF ?_
    refine J.done ?_
    exact J.done (RetQ.ge (.tmp .nil) (by simp [mkRes, inBand]; omega))
  rw [if_neg hlh]
  refine J.op (R.ext rfl) ?_ -- @t11 vS (Instr.extract t10 0)
  refine J.op (R.ext rfl) ?_ -- @t12 vS (Instr.extract t10 1)
  refine J.bind ?_ -- @tv bind tv ([4])
  refine J.gopT rfl ?_
  refine J.op R.pure ?_
  refine J.gopT rfl ?_
  refine J.op R.pure ?_
  refine J.gopT rfl ?_
  refine J.op R.eql ?_ -- @t17 binS .eql 2 (.tmp 15) (.tmp 16) t15 t16
  refine J.op R.pickT ?_ -- @t18 pickS t12 t17 (.bool false)
  refine J.done ?_ -- then tv = [t18]
  -- @ret[(tv.headDundef)]
  exact J.done (RetQ.ge (.tmp (.nil)) (by simp only [mkRes, inBand, Value.bool.injEq, List.headD_cons]; first | (exact decide_eq_decide.2 (by omega)) | (symm; rw [decide_eq_true_iff]; omega) | (symm; rw [decide_eq_false_iff_not]; omega)))

/-- damper/damperref20.In -/
theorem s145 (lo hi p : Int) :
    FnE Try.prog 145 [.agg [.int .i64 lo, .int .i64 hi].toArray, .int .i64 p] (fun _ => True) (.bool (inBand lo hi p)) := by
  refine fn_of_J (cx := cx145) hmix Try.func145 (by kernel_rfl) (eq145 _ _) fun w hw => ?_
  refine J.boxA fun bt2 => ?_
  refine J.bind ?_ -- @tv bind tv ([4])
  refine J.op fa85_0 ?_
  refine J.op (R.ld o2 (by with_reducible repeat (first | exact Pick.here | apply Pick.there)) rfl) ?_ -- @t7 vS (Instr.loadAt 2 t6)
  refine J.opD R.geq (fun ht8 => ?_) (fun ht8 => ?_) -- @t8 binS .geq 2 (.tmp 5) (.tmp 7) a1 t7
  · skip
    refine J.gopT rfl ?_
    refine J.op R.pure ?_
    refine J.gopT rfl ?_
    refine J.op fa85_1 ?_
    refine J.gopT rfl ?_
    refine J.op (R.ld o2 (by with_reducible repeat (first | exact Pick.here | apply Pick.there)) rfl) ?_ -- @t12 vS (Instr.loadAt 2 t11)
    refine J.gopT rfl ?_
    refine J.op R.leq ?_ -- @t13 binS .leq 2 (.tmp 10) (.tmp 12) t10 t12
    refine J.op R.pickT ?_ -- @t14 pickS t8 t13 (.bool false)
    refine J.done ?_ -- then tv = [t14]
    -- @ret[(tv.headDundef)]
    exact J.done (RetQ.ge (.tmp (.nil)) (by first | rfl | (simp [inBand, mkRes, *]; done) | (simp_all [inBand, mkRes]; done) | (simp_all [inBand, mkRes]; first | omega | (rw [decide_eq_false_iff_not]; omega) | (rw [decide_eq_true_iff]; omega)) | (simp only [inBand, mkRes]; (repeat' split) <;> first | rfl | omega | (simp_all; done) | (simp_all; omega))))
  · skip
    refine J.gopF rfl ?_
    refine J.gopF rfl ?_
    refine J.gopF rfl ?_
    refine J.gopF rfl ?_
    refine J.op R.pickF ?_ -- @t14 pickS t8 t13 (.bool false)
    refine J.done ?_ -- then tv = [t14]
    -- @ret[(tv.headDundef)]
    exact J.done (RetQ.ge (.tmp (.nil)) (by first | rfl | (simp [inBand, mkRes, *]; done) | (simp_all [inBand, mkRes]; done) | (simp_all [inBand, mkRes]; first | omega | (rw [decide_eq_false_iff_not]; omega) | (rw [decide_eq_true_iff]; omega)) | (simp only [inBand, mkRes]; (repeat' split) <;> first | rfl | omega | (simp_all; done) | (simp_all; omega))))

/-- (*damper/watch.Watch).of -/
theorem s72 (bw g n c : Nat) (st : Wst) (sym : Int) :
    FnE Try.prog 72 [.pointer (some ⟨bw, 0, none⟩), .int .i64 sym] (WatA bw g n c st) (.pointer (ofP g st sym)) := by
  refine fn_of_J (cx := cx72) hmix Try.func72 (by kernel_rfl) (eq72 _ _) fun w hw => ?_
  have hS : ∀ H, SeeS ⟨Try.prog, w, footOf []⟩ H (.slice (some ⟨g, 0, none⟩) n c) 26 (wks st.l) := fun H => SeeS.ofW0 hw.2 wks_ne
  have hm := hw.2.le
  have hn := hw.2.len
  simp only [wks_len, maxLen] at hm hn
  subst hn
  refine J.bindB (¬ (0 ≤ sym ∧ sym < st.l.length)) ?_ (fun hbtv => ?_) (fun hbtv => ?_) -- @tv
  · skip
    refine J.opBF (R.isNil pt74) (by simp) ?_ -- @t6
    refine J.gopT rfl ?_
    refine J.op R.pure ?_
    refine J.gopT rfl ?_
    refine J.opD R.lss (fun ht9 => ?_) (fun ht9 => ?_) -- @t9 binS .lss 3 (.tmp 8) (.const (.int .i64 0)) t8 (.int .i64 0)
    · skip
      refine J.op R.pickF ?_ -- @t10 pickS t6 (.bool true) t9
      refine J.gopF rfl ?_
      refine J.gopF rfl ?_
      refine J.gopF rfl ?_
      refine J.gopF rfl ?_
      refine J.gopF rfl ?_
      refine J.gopF rfl ?_
      refine J.gopF rfl ?_
      refine J.op R.pickT ?_ -- @t19 pickS t10 (.bool true) t18
      exact J.done ⟨rfl, by simp only [List.cons.injEq, Value.bool.injEq, and_true]; first | (symm; rw [decide_eq_true_iff]; omega) | exact decide_eq_decide.2 (by omega), rfl⟩ -- @leaf[t19]
    · skip
      refine J.op R.pickF ?_ -- @t10 pickS t6 (.bool true) t9
      refine J.gopT rfl ?_
      refine J.op R.pure ?_
      refine J.gopT rfl ?_
      refine J.op R.pure ?_
      refine J.gopT rfl ?_
      refine J.op R.nil ?_ -- @t14 nilS t13
      refine J.gopT rfl ?_
      refine J.op fa143_0 ?_
      refine J.gopT rfl ?_
      refine J.op (R.ldBk hw.1 not_foot o141 rfl) ?_ -- @t16 vS (Instr.loadAt 141 t15)
      refine J.gopT rfl ?_
      refine J.op (R.lenS sl141) ?_ -- @t17 bltS .len #[141] 3 #[false] [t16]
      refine J.gopT rfl ?_
      refine J.op R.geq ?_ -- @t18 binS .geq 3 (.tmp 12) (.tmp 17) t12 t17
      refine J.op R.pickF ?_ -- @t19 pickS t10 (.bool true) t18
      exact J.done ⟨rfl, by simp only [List.cons.injEq, Value.bool.injEq, and_true]; first | (symm; rw [decide_eq_true_iff]; omega) | exact decide_eq_decide.2 (by omega), rfl⟩ -- @leaf[t19]
  · skip
    refine J.iteT ?_
    -- @ret[(.pointernone)]
    exact J.done (RetQ.ge (.tmp (.nil)) (by unfold ofP; rw [if_neg hbtv]; rfl))
  · skip
    refine J.iteF ?_
    refine J.op R.nil ?_ -- @t21 nilS a0
    refine J.op fa143_0 ?_
    refine J.op (R.ldBk hw.1 not_foot o141 rfl) ?_ -- @t23 vS (Instr.loadAt 141 t22)
    refine J.op (R.ixS sl141 (by omega) (by omega)) ?_ -- @t25 ix t23 a1
    -- @ret[t25]
    exact J.done (RetQ.ge (.tmp (.nil)) (by unfold ofP; rw [if_pos (Classical.not_not.1 hbtv)]; rfl))

/-- (*damper/watch.Watch).of -/
theorem s72nil (sym : Int) :
    FnE Try.prog 72 [.pointer none, .int .i64 sym] (fun _ => True) (.pointer none) := by
  refine fn_of_J (cx := cx72) hmix Try.func72 (by kernel_rfl) (eq72 _ _) fun w hw => ?_
  refine J.bindB (True) ?_ (fun hbtv => ?_) (fun hbtv => ?_) -- @tv
  · skip
    refine J.opBT (R.isNil pt74) (by rfl) ?_ -- @t6
    refine J.gopF rfl ?_
    refine J.gopF rfl ?_
    refine J.op R.pickT ?_ -- @t10 pickS t6 (.bool true) t9
    refine J.gopF rfl ?_
    refine J.gopF rfl ?_
    refine J.gopF rfl ?_
    refine J.gopF rfl ?_
    refine J.gopF rfl ?_
    refine J.gopF rfl ?_
    refine J.gopF rfl ?_
    refine J.op R.pickT ?_ -- @t19 pickS t10 (.bool true) t18
    exact J.done ⟨rfl, by simp [*], rfl⟩ -- @leaf[t19]
  · skip
    refine J.iteT ?_
    -- @ret[(.pointernone)]
    exact J.done (RetQ.ge (.tmp (.nil)) (by first | rfl | (simp [mkRes, *]; done) | (simp_all [mkRes]; done) | (simp_all [mkRes]; first | omega | (rw [decide_eq_false_iff_not]; omega) | (rw [decide_eq_true_iff]; omega)) | (simp only [mkRes]; (repeat' split) <;> first | rfl | omega | (simp_all; done) | (simp_all; omega))))
  · exact absurd trivial hbtv

/-- (*damper/watch.Watch).late -/
theorem s103 (bw g n c : Nat) (st : Wst) (tick : Int) :
    FnE Try.prog 103 [.pointer (some ⟨bw, 0, none⟩), .int .i64 tick] (WatA bw g n c st) (.bool (lateW st tick)) := by
  refine fn_of_J (cx := cx103) hmix Try.func103 (by kernel_rfl) (eq103 _ _) fun w hw => ?_
  have hS : ∀ H, SeeS ⟨Try.prog, w, footOf []⟩ H (.slice (some ⟨g, 0, none⟩) n c) 26 (wks st.l) := fun H => SeeS.ofW0 hw.2 wks_ne
  have hm := hw.2.le
  have hn := hw.2.len
  simp only [wks_len, maxLen] at hm hn
  subst hn
  refine J.op R.nil ?_ -- @t9 nilS a0
  refine J.op fa143_2 ?_
  refine J.op (R.ldBk hw.1 not_foot o2 rfl) ?_ -- @t11 vS (Instr.loadAt 2 t10)
  refine J.opD R.lss (fun ht12 => ?_) (fun ht12 => ?_) -- @t12 binS .lss 2 (.tmp 7) (.tmp 11) a1 t11
  · skip
    refine J.iteT ?_
    -- @ret[(.booltrue)]
    exact J.done (RetQ.ge (.tmp (.nil)) (by first | rfl | (simp [lateW, mkRes, *]; done) | (simp_all [lateW, mkRes]; done) | (simp_all [lateW, mkRes]; first | omega | (rw [decide_eq_false_iff_not]; omega) | (rw [decide_eq_true_iff]; omega)) | (simp only [lateW, mkRes]; (repeat' split) <;> first | rfl | omega | (simp_all; done) | (simp_all; omega))))
  · skip
    refine J.iteF ?_
    refine J.op R.nil ?_ -- @t14 nilS a0
    refine J.op fa143_0 ?_
    refine J.op (R.ldBk hw.1 not_foot o141 rfl) ?_ -- @t16 vS (Instr.loadAt 141 t15)
    refine J.op (R.lenS sl141) ?_ -- @t17 bltS .len #[141] 3 #[false] [t16]
    refine J.bind ?_ -- @tv_2 bind tv_2 ([4])
    refine J.block ?_
    -- @tx loop [(.bool false), (.int .i64 0)]
    refine J.loopH (α := Nat) (fun i => i ≤ st.l.length ∧ ∀ j x, j < i → st.l[j]? = some x → ¬ (x.k.dl ≠ 0 ∧ x.k.dl < tick)) (fun i => [.bool false, .int .i64 i]) (fun i => st.l.length - i) 0 ⟨Nat.zero_le _, fun j x h => absurd h (Nat.not_lt_zero j)⟩ rfl ?_
    rintro i ⟨hi, hall⟩
    try simp only [List.headD_cons, List.tail_cons]
    refine J.opD R.lss (fun ht19 => ?_) (fun ht19 => ?_) -- @t19 binS .lss 3 (.tmp 18) (.tmp 17) (tx.tail.headD undef) t17
    · skip
      refine J.iteT ?_
      refine J.bind ?_ -- @tv_1 bind tv_1 ([4])
      refine J.block ?_
      obtain ⟨x, hx⟩ := get_ex (l := st.l) (i := i) (by omega)
      refine J.ixW sl141 hS (by omega) (wks_get hx) fun b o hkt20 => ?_ -- @t20 ix t16 (tx.tail.headD undef)
      refine J.op (R.ldKA ag145 (hkt20 _) rfl) ?_ -- @t21 vS (Instr.loadAt 145 t20)
      refine J.alloc z145 fun bt6 => ?_
      refine J.stW sz145 (by with_reducible repeat (first | exact Pick.here | apply Pick.there)) rfl rfl rfl ?_ -- @tu uS (Instr.storeAt 145 t6 t21)
      refine J.bindBH ((x.k.dl ≠ 0 ∧ x.k.dl < tick)) ([]) ?_ (fun hbtv => ?_) (fun hbtv => ?_) -- @tv
      · skip
        refine J.op fa145_4 ?_
        refine J.op (R.ld o2 (by with_reducible repeat (first | exact Pick.here | apply Pick.there)) rfl) ?_ -- @t23 vS (Instr.loadAt 2 t22)
        refine J.opD R.neq (fun ht24 => ?_) (fun ht24 => ?_) -- @t24 binS .neq 2 (.tmp 23) (.const (.int .i64 0)) t23 (.int .i64 0)
        · skip
          refine J.gopT rfl ?_
          refine J.op R.pure ?_
          refine J.gopT rfl ?_
          refine J.op fa145_4 ?_
          refine J.gopT rfl ?_
          refine J.op (R.ld o2 (by with_reducible repeat (first | exact Pick.here | apply Pick.there)) rfl) ?_ -- @t28 vS (Instr.loadAt 2 t27)
          refine J.gopT rfl ?_
          refine J.op R.gtr ?_ -- @t29 binS .gtr 2 (.tmp 26) (.tmp 28) t26 t28
          refine J.op R.pickT ?_ -- @t30 pickS t24 t29 (.bool false)
          exact J.done ⟨rfl, by simp [*], Imp.take (by (try dsimp only); repeat (first | exact Has.nil | refine Has.cons (by repeat (first | (with_reducible exact Out.here) | ((with_reducible refine Out.cells ?_); first | rfl | (simp; done)) | ((with_reducible refine Out.row ?_); first | rfl | (simp; done)) | (with_reducible apply Out.there))) ?_))⟩ -- @leaf[t30]
        · skip
          refine J.gopF rfl ?_
          refine J.gopF rfl ?_
          refine J.gopF rfl ?_
          refine J.gopF rfl ?_
          refine J.op R.pickF ?_ -- @t30 pickS t24 t29 (.bool false)
          exact J.done ⟨rfl, by simp [*], Imp.take (by (try dsimp only); repeat (first | exact Has.nil | refine Has.cons (by repeat (first | (with_reducible exact Out.here) | ((with_reducible refine Out.cells ?_); first | rfl | (simp; done)) | ((with_reducible refine Out.row ?_); first | rfl | (simp; done)) | (with_reducible apply Out.there))) ?_))⟩ -- @leaf[t30]
      · skip
        refine J.iteT ?_
        -- @ret[(.booltrue)]#2
        exact J.done (RetQ.ge (.tmp (.nil)) (by rw [lateW_yes hx hbtv]; rfl))
      · skip
        refine J.iteF ?_
        refine J.done ?_ -- then tv_1 = [(tx.headD undef)]
        refine J.op (R.add64 (by omega)) ?_ -- @t31 binS .add 3 (.tmp 18) (.const (.int .i64 1)) (tx.tail.headD undef) (.int .i64 1)
        -- @again[(tv_1.headDundef),t31]
        refine J.done ⟨i + 1, ⟨by omega, fun j y hj hjt => ?_⟩, rfl, Imp.take (by (try dsimp only); repeat (first | exact Has.nil | refine Has.cons (by repeat (first | (with_reducible exact Out.here) | ((with_reducible refine Out.cells ?_); first | rfl | (simp; done)) | ((with_reducible refine Out.row ?_); first | rfl | (simp; done)) | (with_reducible apply Out.there))) ?_)), by omega⟩
        rcases Nat.lt_succ_iff_lt_or_eq.1 hj with hj | rfl
        · exact hall j y hj hjt
        · rw [hx] at hjt; cases hjt; exact hbtv
    · skip
      refine J.iteF ?_
      refine J.done ⟨fun _ => ?_, fun h => absurd rfl h⟩ -- exit [(tx.headD undef)]
      -- @ret[(.boolfalse)]
      exact J.done (RetQ.ge (.tmp (.nil)) (by rw [lateW_no ht12 (fun j x hj => hall j x (by omega))]; rfl))

/-- damper/watch.global -/
theorem s105 (m : Msg) :
    FnE Try.prog 105 [.agg m.cells.toArray] (fun _ => True) (.bool (globalM m)) := by
  refine fn_of_J (cx := cx105) hmix Try.func105 (by kernel_rfl) (eq105 _) fun w hw => ?_
  refine J.boxA fun bt1 => ?_
  refine J.bind ?_ -- @tv bind tv ([2])
  refine J.op fa46_0 ?_
  refine J.op (R.ld o3 (by with_reducible repeat (first | exact Pick.here | apply Pick.there)) rfl) ?_ -- @t4 vS (Instr.loadAt 3 t3)
  refine J.opD R.eql (fun ht5 => ?_) (fun ht5 => ?_) -- @t5 binS .eql 3 (.tmp 4) (.const (.int .i64 2)) t4 (.int .i64 2)
  · skip
    refine J.gopF rfl ?_
    refine J.gopF rfl ?_
    refine J.gopF rfl ?_
    refine J.op R.pickT ?_ -- @t10 pickS t5 (.bool true) t9
    refine J.done ?_ -- then tv = [t10]
    -- @ret[(tv.headDundef)]
    exact J.done (RetQ.ge (.tmp (.nil)) (by first | rfl | (simp [globalM, mkRes, *]; done) | (simp_all [globalM, mkRes]; done) | (simp_all [globalM, mkRes]; first | omega | (rw [decide_eq_false_iff_not]; omega) | (rw [decide_eq_true_iff]; omega)) | (simp only [globalM, mkRes]; (repeat' split) <;> first | rfl | omega | (simp_all; done) | (simp_all; omega))))
  · skip
    refine J.gopT rfl ?_
    refine J.op fa46_0 ?_
    refine J.gopT rfl ?_
    refine J.op (R.ld o3 (by with_reducible repeat (first | exact Pick.here | apply Pick.there)) rfl) ?_ -- @t8 vS (Instr.loadAt 3 t7)
    refine J.gopT rfl ?_
    refine J.op R.eql ?_ -- @t9 binS .eql 3 (.tmp 8) (.const (.int .i64 9)) t8 (.int .i64 9)
    refine J.op R.pickF ?_ -- @t10 pickS t5 (.bool true) t9
    refine J.done ?_ -- then tv = [t10]
    -- @ret[(tv.headDundef)]
    exact J.done (RetQ.ge (.tmp (.nil)) (by first | rfl | (simp [globalM, mkRes, *]; done) | (simp_all [globalM, mkRes]; done) | (simp_all [globalM, mkRes]; first | omega | (rw [decide_eq_false_iff_not]; omega) | (rw [decide_eq_true_iff]; omega)) | (simp only [globalM, mkRes]; (repeat' split) <;> first | rfl | omega | (simp_all; done) | (simp_all; omega))))

/-- (*damper/watch.known).open -/
theorem s108 (g n c j : Nat) (l : List Wk) (x : Wk) (hx : l[j]? = some x) (code : Int) :
    FnE Try.prog 108 [.pointer (some ⟨g, j * 26, none⟩), .int .i64 code] (fun w => RdS w (.slice (some ⟨g, 0, none⟩) n c) 26 (wks l)) (.bool (openW x.k code)) := by
  refine fn_of_J (cx := cx108) hmix Try.func108 (by kernel_rfl) (eq108 _ _) fun w hw => ?_
  refine J.bind ?_ -- @tv_3 bind tv_3 ([4])
  refine J.block ?_
  refine J.bind ?_ -- @tv_2 bind tv_2 ([4])
  refine J.block ?_
  refine J.bind ?_ -- @tv_1 bind tv_1 ([4])
  refine J.block ?_
  refine J.bind ?_ -- @tv bind tv ([])
  refine J.block ?_
  refine J.opD R.eql (fun ht7 => ?_) (fun ht7 => ?_) -- @t7 binS .eql 3 (.tmp 5) (.const (.int .i64 1)) a1 (.int .i64 1)
  · skip
    refine J.iteT ?_
    refine J.done ⟨fun _ => ?_, fun h => absurd rfl h⟩ -- exit []
    refine J.op R.nil ?_ -- @t13 nilS a0
    refine J.op fa145_1 ?_
    refine J.op (R.ldRd o3 hw not_foot (wks_at hx) (off := 16) rfl rfl) ?_ -- @t15 vS (Instr.loadAt 3 t14)
    refine J.op R.eql ?_ -- @t16 binS .eql 3 (.tmp 15) (.const (.int .i64 2)) t15 (.int .i64 2)
    -- @ret[t16]
    exact J.done (RetQ.ge (.tmp (.nil)) (by first | rfl | (simp [openW, mkRes, *]; done) | (simp_all [openW, mkRes]; done) | (simp_all [openW, mkRes]; first | omega | (rw [decide_eq_false_iff_not]; omega) | (rw [decide_eq_true_iff]; omega)) | (simp only [openW, mkRes]; (repeat' split) <;> first | rfl | omega | (simp_all; done) | (simp_all; omega))))
  · skip
    refine J.iteF ?_
    refine J.opD R.eql (fun ht9 => ?_) (fun ht9 => ?_) -- @t9 binS .eql 3 (.tmp 5) (.const (.int .i64 3)) a1 (.int .i64 3)
    · skip
      refine J.iteT ?_
      refine J.done ⟨fun h => absurd h (by decide), fun _ => ⟨fun _ => ?_, fun h => absurd rfl h⟩⟩ -- exit [(.bool false)]
      refine J.op R.nil ?_ -- @t18 nilS a0
      refine J.op fa145_1 ?_
      refine J.op (R.ldRd o3 hw not_foot (wks_at hx) (off := 16) rfl rfl) ?_ -- @t20 vS (Instr.loadAt 3 t19)
      refine J.opD R.eql (fun ht21 => ?_) (fun ht21 => ?_) -- @t21 binS .eql 3 (.tmp 20) (.const (.int .i64 1)) t20 (.int .i64 1)
      · skip
        refine J.iteT ?_
        -- @ret[(.booltrue)]
        exact J.done (RetQ.ge (.tmp (.nil)) (by first | rfl | (simp [openW, mkRes, *]; done) | (simp_all [openW, mkRes]; done) | (simp_all [openW, mkRes]; first | omega | (rw [decide_eq_false_iff_not]; omega) | (rw [decide_eq_true_iff]; omega)) | (simp only [openW, mkRes]; (repeat' split) <;> first | rfl | omega | (simp_all; done) | (simp_all; omega))))
      · skip
        refine J.iteF ?_
        refine J.done ?_ -- then tv_2 = [(tv_1.headD undef)]
        refine J.op R.nil ?_ -- @t23 nilS a0
        refine J.op fa145_1 ?_
        refine J.op (R.ldRd o3 hw not_foot (wks_at hx) (off := 16) rfl rfl) ?_ -- @t25 vS (Instr.loadAt 3 t24)
        refine J.op R.eql ?_ -- @t26 binS .eql 3 (.tmp 25) (.const (.int .i64 4)) t25 (.int .i64 4)
        -- @ret[t26]
        exact J.done (RetQ.ge (.tmp (.nil)) (by first | rfl | (simp [openW, mkRes, *]; done) | (simp_all [openW, mkRes]; done) | (simp_all [openW, mkRes]; first | omega | (rw [decide_eq_false_iff_not]; omega) | (rw [decide_eq_true_iff]; omega)) | (simp only [openW, mkRes]; (repeat' split) <;> first | rfl | omega | (simp_all; done) | (simp_all; omega))))
    · skip
      refine J.iteF ?_
      refine J.opD R.eql (fun ht11 => ?_) (fun ht11 => ?_) -- @t11 binS .eql 3 (.tmp 5) (.const (.int .i64 2)) a1 (.int .i64 2)
      · skip
        refine J.iteT ?_
        refine J.done ⟨fun h => absurd h (by decide), fun _ => ⟨fun h => absurd h (by decide), fun _ => ⟨fun _ => ?_, fun h => absurd rfl h⟩⟩⟩ -- exit [(.bool false)]
        refine J.op R.nil ?_ -- @t23 nilS a0
        refine J.op fa145_1 ?_
        refine J.op (R.ldRd o3 hw not_foot (wks_at hx) (off := 16) rfl rfl) ?_ -- @t25 vS (Instr.loadAt 3 t24)
        refine J.op R.eql ?_ -- @t26 binS .eql 3 (.tmp 25) (.const (.int .i64 4)) t25 (.int .i64 4)
        -- @ret[t26]
        exact J.done (RetQ.ge (.tmp (.nil)) (by first | rfl | (simp [openW, mkRes, *]; done) | (simp_all [openW, mkRes]; done) | (simp_all [openW, mkRes]; first | omega | (rw [decide_eq_false_iff_not]; omega) | (rw [decide_eq_true_iff]; omega)) | (simp only [openW, mkRes]; (repeat' split) <;> first | rfl | omega | (simp_all; done) | (simp_all; omega))))
      · skip
        refine J.iteF ?_
        refine J.done ⟨fun h => absurd h (by decide), fun _ => ⟨fun h => absurd h (by decide), fun _ => ⟨fun h => absurd h (by decide), fun _ => ⟨fun _ => ?_, fun h => absurd rfl h⟩⟩⟩⟩ -- exit [(.bool false)]
        -- @ret[(.boolfalse)]
        exact J.done (RetQ.ge (.tmp (.nil)) (by first | rfl | (simp [openW, mkRes, *]; done) | (simp_all [openW, mkRes]; done) | (simp_all [openW, mkRes]; first | omega | (rw [decide_eq_false_iff_not]; omega) | (rw [decide_eq_true_iff]; omega)) | (simp only [openW, mkRes]; (repeat' split) <;> first | rfl | omega | (simp_all; done) | (simp_all; omega))))

/-- (*damper/watch.known).in -/
theorem s110 (g n c j : Nat) (l : List Wk) (x : Wk) (hx : l[j]? = some x) (m : Msg) (hp : i64R m.price) :
    FnE Try.prog 110 [.pointer (some ⟨g, j * 26, none⟩), .agg m.cells.toArray] (fun w => RdS w (.slice (some ⟨g, 0, none⟩) n c) 26 (wks l)) (.bool (inW x.k m)) := by
  refine fn_of_J (cx := cx110) hmix Try.func110 (by kernel_rfl) (eq110 _ _) fun w hw => ?_
  refine J.boxA fun bt3 => ?_
  refine J.op fa46_8 ?_
  refine J.op (R.ld o3 (by with_reducible repeat (first | exact Pick.here | apply Pick.there)) rfl) ?_ -- @t6 vS (Instr.loadAt 3 t5)
  refine J.bind ?_ -- @tv bind tv ([4])
  refine J.block ?_
  refine J.opD R.eql (fun ht8 => ?_) (fun ht8 => ?_) -- @t8 binS .eql 3 (.tmp 6) (.const (.int .i64 1)) t6 (.int .i64 1)
  · skip
    refine J.iteT ?_
    refine J.draw ?_
    refine J.op R.nil ?_ -- @t10 nilS a0
    refine J.op fa145_2 ?_
    refine J.op (R.ldRdA ag85 hw not_foot (wks_at hx) (off := 17) rfl rfl rfl) ?_ -- @t12 vS (Instr.loadAt 85 t11)
    refine J.op fa46_6 ?_
    refine J.op (R.ld o2 (by with_reducible repeat (first | exact Pick.here | apply Pick.there)) rfl) ?_ -- @t14 vS (Instr.loadAt 2 t13)
    refine J.callE en144 (s144 _ _ _) rfl (fun _ _ _ => trivial) ?_ -- @t15 callS (.func (.func 144) #[] #[]) [t12, t14]
    -- @ret[t15]
    exact J.done (RetQ.ge (.tmp (.nil)) (by first | rfl | (simp [inW, mkRes, *]; done) | (simp_all [inW, mkRes]; done) | (simp_all [inW, mkRes]; first | omega | (rw [decide_eq_false_iff_not]; omega) | (rw [decide_eq_true_iff]; omega)) | (simp only [inW, mkRes]; (repeat' split) <;> first | rfl | omega | (simp_all; done) | (simp_all; omega))))
  · skip
    refine J.iteF ?_
    refine J.opD R.eql (fun ht17 => ?_) (fun ht17 => ?_) -- @t17 binS .eql 3 (.tmp 6) (.const (.int .i64 2)) t6 (.int .i64 2)
    · skip
      refine J.iteT ?_
      refine J.draw ?_
      refine J.op R.nil ?_ -- @t19 nilS a0
      refine J.op fa145_3 ?_
      refine J.op (R.ldRdA ag85 hw not_foot (wks_at hx) (off := 19) rfl rfl rfl) ?_ -- @t21 vS (Instr.loadAt 85 t20)
      refine J.op fa46_6 ?_
      refine J.op (R.ld o2 (by with_reducible repeat (first | exact Pick.here | apply Pick.there)) rfl) ?_ -- @t23 vS (Instr.loadAt 2 t22)
      refine J.callE en144 (s144 _ _ _) rfl (fun _ _ _ => trivial) ?_ -- @t24 callS (.func (.func 144) #[] #[]) [t21, t23]
      -- @ret[t24]
      exact J.done (RetQ.ge (.tmp (.nil)) (by first | rfl | (simp [inW, mkRes, *]; done) | (simp_all [inW, mkRes]; done) | (simp_all [inW, mkRes]; first | omega | (rw [decide_eq_false_iff_not]; omega) | (rw [decide_eq_true_iff]; omega)) | (simp only [inW, mkRes]; (repeat' split) <;> first | rfl | omega | (simp_all; done) | (simp_all; omega))))
    · skip
      refine J.iteF ?_
      refine J.done ?_ -- then tv = [(.bool false)]
      refine J.op fa46_6 ?_
      refine J.op (R.ld o2 (by with_reducible repeat (first | exact Pick.here | apply Pick.there)) rfl) ?_ -- @t26 vS (Instr.loadAt 2 t25)
      refine J.callE en78 (s78 _ _) rfl (fun _ _ _ => trivial) ?_ -- @t27 callS (.func (.func 78) #[] #[]) [t26, (.int .i64 1)]
      refine J.op R.eql ?_ -- @t28 binS .eql 25 (.tmp 27) (.const (.int .i64 0)) t27 (.int .i64 0)
      -- @ret[t28]
      exact J.done (RetQ.ge (.tmp (.nil)) (by simp only [mkRes, inW, if_neg ht8, if_neg ht17, Value.bool.injEq, inBand]; exact decide_eq_decide.2 (price_one hp)))

/-- (*damper/watch.Watch).check$1 -/
theorem s101 (bm b2 : Nat) (m : Msg) (bw g n c : Nat) (st : Wst) :
    FnE Try.prog 101 [.pointer (some ⟨bm, 0, none⟩), .pointer (some ⟨b2, 0, none⟩)] (fun w => Blk w bm m.cells 46 ∧ Blk w b2 [.pointer (some ⟨bw, 0, none⟩)] 74 ∧ WatA bw g n c st w) (.bool (decide (m.seq = IntKind.i64.wrap (st.seq + 1)))) := by
  refine fn_of_J (cx := cx101) hmix Try.func101 (by kernel_rfl) (eq101 _ _) fun w hw => ?_
  refine J.draw ?_
  refine J.op fa46_2 ?_
  refine J.op (R.ldBk hw.1 not_foot o2 rfl) ?_ -- @t4 vS (Instr.loadAt 2 t3)
  refine J.op (R.ldBk hw.2.1 not_foot o74 rfl) ?_ -- @t5 vS (Instr.loadAt 74 a1)
  refine J.op R.nil ?_ -- @t6 nilS t5
  refine J.op fa143_1 ?_
  refine J.op (R.ldBk hw.2.2.1 not_foot o2 rfl) ?_ -- @t8 vS (Instr.loadAt 2 t7)
  refine J.op R.add ?_ -- @t9 binS .add 2 (.tmp 8) (.const (.int .i64 1)) t8 (.int .i64 1)
  refine J.op R.eql ?_ -- @t10 binS .eql 2 (.tmp 4) (.tmp 9) t4 t9
  -- @ret[t10]
  exact J.done (RetQ.ge (.tmp (.nil)) (by first | rfl | (simp [mkRes, *]; done) | (simp_all [mkRes]; done) | (simp_all [mkRes]; first | omega | (rw [decide_eq_false_iff_not]; omega) | (rw [decide_eq_true_iff]; omega)) | (simp only [mkRes]; (repeat' split) <;> first | rfl | omega | (simp_all; done) | (simp_all; omega))))

/-- (*damper/watch.Watch).check$2 -/
theorem s102 (bm b2 : Nat) (m : Msg) (bw g n c : Nat) (st : Wst) :
    FnE Try.prog 102 [.pointer (some ⟨b2, 0, none⟩), .pointer (some ⟨bm, 0, none⟩)] (fun w => Blk w bm m.cells 46 ∧ Blk w b2 [.pointer (some ⟨bw, 0, none⟩)] 74 ∧ WatA bw g n c st w) (.bool (!lateW st m.tick)) := by
  refine fn_of_J (cx := cx102) hmix Try.func102 (by kernel_rfl) (eq102 _ _) fun w hw => ?_
  refine J.op (R.ldBk hw.2.1 not_foot o74 rfl) ?_ -- @t3 vS (Instr.loadAt 74 a0)
  refine J.op fa46_3 ?_
  refine J.op (R.ldBk hw.1 not_foot o2 rfl) ?_ -- @t5 vS (Instr.loadAt 2 t4)
  refine J.callE en103 (s103 bw g n c st _) rfl (fun _ _ hs => WatA.stab _ _ hs.ext hw.2.2) ?_ -- @t6 callS (.func (.func 103) #[] #[]) [t3, t5]
  refine J.op R.not ?_ -- @t7 vS (Op.unary .not t6)
  -- @ret[t7]
  exact J.done (RetQ.ge (.tmp (.nil)) (by first | rfl | (simp [mkRes, *]; done) | (simp_all [mkRes]; done) | (simp_all [mkRes]; first | omega | (rw [decide_eq_false_iff_not]; omega) | (rw [decide_eq_true_iff]; omega)) | (simp only [mkRes]; (repeat' split) <;> first | rfl | omega | (simp_all; done) | (simp_all; omega))))

/-- (*damper/watch.Watch).check$3 -/
theorem s104 (bm b5 : Nat) (m : Msg) (p : Option Addr) :
    FnE Try.prog 104 [.pointer (some ⟨b5, 0, none⟩), .pointer (some ⟨bm, 0, none⟩)] (fun w => Blk w bm m.cells 46 ∧ Blk w b5 [.pointer p] 146) (.bool (p.isSome || globalM m)) := by
  refine fn_of_J (cx := cx104) hmix Try.func104 (by kernel_rfl) (eq104 _ _) fun w hw => ?_
  refine J.bind ?_ -- @tv bind tv ([2])
  refine J.op (R.ldBk hw.2 not_foot o146 rfl) ?_ -- @t3 vS (Instr.loadAt 146 a0)
  refine J.opB (R.notNil pt146) (fun ht4 => ?_) (fun ht4 => ?_) -- @t4 binS .neq 146 (.tmp 3) (.const (.pointer none)) t3 (.pointer none)
  · skip
    refine J.gopF rfl ?_
    refine J.gopF rfl ?_
    refine J.op R.pickT ?_ -- @t8 pickS t4 (.bool true) t7
    refine J.done ?_ -- then tv = [t8]
    -- @ret[(tv.headDundef)]
    exact J.done (RetQ.ge (.tmp (.nil)) (by first | rfl | (simp [mkRes, *]; done) | (simp_all [mkRes]; done) | (simp_all [mkRes]; first | omega | (rw [decide_eq_false_iff_not]; omega) | (rw [decide_eq_true_iff]; omega)) | (simp only [mkRes]; (repeat' split) <;> first | rfl | omega | (simp_all; done) | (simp_all; omega))))
  · skip
    refine J.gopT rfl ?_
    refine J.op (R.ldBkA hw.1 not_foot ag46 rfl rfl) ?_ -- @t6 vS (Instr.loadAt 46 a1)
    refine J.gopT rfl ?_
    refine J.callEB en105 (s105 m) rfl (fun _ _ _ => trivial) (fun ht7 => ?_) (fun ht7 => ?_) -- @t7 callS (.func (.func 105) #[] #[]) [t6]
    · skip
      refine J.op R.pickF ?_ -- @t8 pickS t4 (.bool true) t7
      refine J.done ?_ -- then tv = [t8]
      -- @ret[(tv.headDundef)]
      exact J.done (RetQ.ge (.tmp (.nil)) (by first | rfl | (simp [mkRes, *]; done) | (simp_all [mkRes]; done) | (simp_all [mkRes]; first | omega | (rw [decide_eq_false_iff_not]; omega) | (rw [decide_eq_true_iff]; omega)) | (simp only [mkRes]; (repeat' split) <;> first | rfl | omega | (simp_all; done) | (simp_all; omega))))
    · skip
      refine J.op R.pickF ?_ -- @t8 pickS t4 (.bool true) t7
      refine J.done ?_ -- then tv = [t8]
      -- @ret[(tv.headDundef)]
      exact J.done (RetQ.ge (.tmp (.nil)) (by first | rfl | (simp [mkRes, *]; done) | (simp_all [mkRes]; done) | (simp_all [mkRes]; first | omega | (rw [decide_eq_false_iff_not]; omega) | (rw [decide_eq_true_iff]; omega)) | (simp only [mkRes]; (repeat' split) <;> first | rfl | omega | (simp_all; done) | (simp_all; omega))))

/-- (*damper/watch.Watch).check$4 -/
theorem s106 (bm b6 : Nat) (m : Msg) (tr : Bool) :
    FnE Try.prog 106 [.pointer (some ⟨b6, 0, none⟩), .pointer (some ⟨bm, 0, none⟩)] (fun w => Blk w bm m.cells 46 ∧ Blk w b6 [.bool tr] 4) (.bool (!tr || decide (1 ≤ m.qty))) := by
  refine fn_of_J (cx := cx106) hmix Try.func106 (by kernel_rfl) (eq106 _ _) fun w hw => ?_
  refine J.bind ?_ -- @tv bind tv ([2])
  refine J.op (R.ldBk hw.2 not_foot o4 rfl) ?_ -- @t3 vS (Instr.loadAt 4 a0)
  refine J.opB R.not (fun ht4 => ?_) (fun ht4 => ?_) -- @t4 vS (Op.unary .not t3)
  · skip
    refine J.gopF rfl ?_
    refine J.gopF rfl ?_
    refine J.gopF rfl ?_
    refine J.op R.pickT ?_ -- @t9 pickS t4 (.bool true) t8
    refine J.done ?_ -- then tv = [t9]
    -- @ret[(tv.headDundef)]
    exact J.done (RetQ.ge (.tmp (.nil)) (by first | rfl | (simp [mkRes, *]; done) | (simp_all [mkRes]; done) | (simp_all [mkRes]; first | omega | (rw [decide_eq_false_iff_not]; omega) | (rw [decide_eq_true_iff]; omega)) | (simp only [mkRes]; (repeat' split) <;> first | rfl | omega | (simp_all; done) | (simp_all; omega))))
  · skip
    refine J.gopT rfl ?_
    refine J.op fa46_7 ?_
    refine J.gopT rfl ?_
    refine J.op (R.ldBk hw.1 not_foot o2 rfl) ?_ -- @t7 vS (Instr.loadAt 2 t6)
    refine J.gopT rfl ?_
    refine J.op R.geq ?_ -- @t8 binS .geq 2 (.tmp 7) (.const (.int .i64 1)) t7 (.int .i64 1)
    refine J.op R.pickF ?_ -- @t9 pickS t4 (.bool true) t8
    refine J.done ?_ -- then tv = [t9]
    -- @ret[(tv.headDundef)]
    exact J.done (RetQ.ge (.tmp (.nil)) (by first | rfl | (simp [mkRes, *]; done) | (simp_all [mkRes]; done) | (simp_all [mkRes]; first | omega | (rw [decide_eq_false_iff_not]; omega) | (rw [decide_eq_true_iff]; omega)) | (simp only [mkRes]; (repeat' split) <;> first | rfl | omega | (simp_all; done) | (simp_all; omega))))

/-- (*damper/watch.Watch).check$5 -/
theorem s107no (bm b5 b6 : Nat) (m : Msg) (p : Option Addr) :
    FnE Try.prog 107 [.pointer (some ⟨b6, 0, none⟩), .pointer (some ⟨b5, 0, none⟩), .pointer (some ⟨bm, 0, none⟩)] (fun w => Blk w bm m.cells 46 ∧ Blk w b6 [.bool false] 4 ∧ Blk w b5 [.pointer p] 146) (.bool true) := by
  refine fn_of_J (cx := cx107) hmix Try.func107 (by kernel_rfl) (eq107 _ _ _) fun w hw => ?_
  refine J.bind ?_ -- @tv bind tv ([3])
  refine J.op (R.ldBk hw.2.1 not_foot o4 rfl) ?_ -- @t4 vS (Instr.loadAt 4 a0)
  refine J.opBT R.not (by rfl) ?_ -- @t5
  refine J.gopF rfl ?_
  refine J.gopF rfl ?_
  refine J.gopF rfl ?_
  refine J.gopF rfl ?_
  refine J.op R.pickT ?_ -- @t11 pickS t5 (.bool true) t10
  refine J.done ?_ -- then tv = [t11]
  -- @ret[(tv.headDundef)]
  exact J.done (RetQ.ge (.tmp (.nil)) (by first | rfl | (simp [mkRes, *]; done) | (simp_all [mkRes]; done) | (simp_all [mkRes]; first | omega | (rw [decide_eq_false_iff_not]; omega) | (rw [decide_eq_true_iff]; omega)) | (simp only [mkRes]; (repeat' split) <;> first | rfl | omega | (simp_all; done) | (simp_all; omega))))

/-- (*damper/watch.Watch).check$5 -/
theorem s107yes (bm b5 b6 : Nat) (m : Msg) (hp : i64R m.price) (g n c j : Nat) (l : List Wk) (x : Wk) (hx : l[j]? = some x) :
    FnE Try.prog 107 [.pointer (some ⟨b6, 0, none⟩), .pointer (some ⟨b5, 0, none⟩), .pointer (some ⟨bm, 0, none⟩)] (fun w => Blk w bm m.cells 46 ∧ Blk w b6 [.bool true] 4 ∧ Blk w b5 [.pointer (some ⟨g, j * 26, none⟩)] 146 ∧ RdS w (.slice (some ⟨g, 0, none⟩) n c) 26 (wks l)) (.bool (openW x.k m.code)) := by
  refine fn_of_J (cx := cx107) hmix Try.func107 (by kernel_rfl) (eq107 _ _ _) fun w hw => ?_
  refine J.bind ?_ -- @tv bind tv ([3])
  refine J.op (R.ldBk hw.2.1 not_foot o4 rfl) ?_ -- @t4 vS (Instr.loadAt 4 a0)
  refine J.opBF R.not (by rfl) ?_ -- @t5
  refine J.gopT rfl ?_
  refine J.op (R.ldBk hw.2.2.1 not_foot o146 rfl) ?_ -- @t7 vS (Instr.loadAt 146 a1)
  refine J.gopT rfl ?_
  refine J.op fa46_8 ?_
  refine J.gopT rfl ?_
  refine J.op (R.ldBk hw.1 not_foot o3 rfl) ?_ -- @t9 vS (Instr.loadAt 3 t8)
  refine J.gopT rfl ?_
  refine J.callE en108 (s108 g n c j l x hx _) rfl (fun _ _ hs => Stab.rd wks_ne _ _ hs.ext hw.2.2.2) ?_ -- @t10 callS (.func (.func 108) #[] #[]) [t7, t9]
  refine J.op R.pickF ?_ -- @t11 pickS t5 (.bool true) t10
  refine J.done ?_ -- then tv = [t11]
  -- @ret[(tv.headDundef)]
  exact J.done (RetQ.ge (.tmp (.nil)) (by first | rfl | (simp [mkRes, *]; done) | (simp_all [mkRes]; done) | (simp_all [mkRes]; first | omega | (rw [decide_eq_false_iff_not]; omega) | (rw [decide_eq_true_iff]; omega)) | (simp only [mkRes]; (repeat' split) <;> first | rfl | omega | (simp_all; done) | (simp_all; omega))))

/-- (*damper/watch.Watch).check$6 -/
theorem s109no (bm b5 b6 : Nat) (m : Msg) (p : Option Addr) :
    FnE Try.prog 109 [.pointer (some ⟨b6, 0, none⟩), .pointer (some ⟨b5, 0, none⟩), .pointer (some ⟨bm, 0, none⟩)] (fun w => Blk w bm m.cells 46 ∧ Blk w b6 [.bool false] 4 ∧ Blk w b5 [.pointer p] 146) (.bool true) := by
  refine fn_of_J (cx := cx109) hmix Try.func109 (by kernel_rfl) (eq109 _ _ _) fun w hw => ?_
  refine J.bind ?_ -- @tv bind tv ([3])
  refine J.op (R.ldBk hw.2.1 not_foot o4 rfl) ?_ -- @t4 vS (Instr.loadAt 4 a0)
  refine J.opBT R.not (by rfl) ?_ -- @t5
  refine J.gopF rfl ?_
  refine J.gopF rfl ?_
  refine J.gopF rfl ?_
  refine J.op R.pickT ?_ -- @t10 pickS t5 (.bool true) t9
  refine J.done ?_ -- then tv = [t10]
  -- @ret[(tv.headDundef)]
  exact J.done (RetQ.ge (.tmp (.nil)) (by first | rfl | (simp [mkRes, *]; done) | (simp_all [mkRes]; done) | (simp_all [mkRes]; first | omega | (rw [decide_eq_false_iff_not]; omega) | (rw [decide_eq_true_iff]; omega)) | (simp only [mkRes]; (repeat' split) <;> first | rfl | omega | (simp_all; done) | (simp_all; omega))))

/-- (*damper/watch.Watch).check$6 -/
theorem s109yes (bm b5 b6 : Nat) (m : Msg) (hp : i64R m.price) (g n c j : Nat) (l : List Wk) (x : Wk) (hx : l[j]? = some x) :
    FnE Try.prog 109 [.pointer (some ⟨b6, 0, none⟩), .pointer (some ⟨b5, 0, none⟩), .pointer (some ⟨bm, 0, none⟩)] (fun w => Blk w bm m.cells 46 ∧ Blk w b6 [.bool true] 4 ∧ Blk w b5 [.pointer (some ⟨g, j * 26, none⟩)] 146 ∧ RdS w (.slice (some ⟨g, 0, none⟩) n c) 26 (wks l)) (.bool (inW x.k m)) := by
  refine fn_of_J (cx := cx109) hmix Try.func109 (by kernel_rfl) (eq109 _ _ _) fun w hw => ?_
  refine J.bind ?_ -- @tv bind tv ([3])
  refine J.op (R.ldBk hw.2.1 not_foot o4 rfl) ?_ -- @t4 vS (Instr.loadAt 4 a0)
  refine J.opBF R.not (by rfl) ?_ -- @t5
  refine J.gopT rfl ?_
  refine J.op (R.ldBk hw.2.2.1 not_foot o146 rfl) ?_ -- @t7 vS (Instr.loadAt 146 a1)
  refine J.gopT rfl ?_
  refine J.op (R.ldBkA hw.1 not_foot ag46 rfl rfl) ?_ -- @t8 vS (Instr.loadAt 46 a2)
  refine J.gopT rfl ?_
  refine J.callE en110 (s110 g n c j l x hx m hp) rfl (fun _ _ hs => Stab.rd wks_ne _ _ hs.ext hw.2.2.2) ?_ -- @t9 callS (.func (.func 110) #[] #[]) [t7, t8]
  refine J.op R.pickF ?_ -- @t10 pickS t5 (.bool true) t9
  refine J.done ?_ -- then tv = [t10]
  -- @ret[(tv.headDundef)]
  exact J.done (RetQ.ge (.tmp (.nil)) (by first | rfl | (simp [mkRes, *]; done) | (simp_all [mkRes]; done) | (simp_all [mkRes]; first | omega | (rw [decide_eq_false_iff_not]; omega) | (rw [decide_eq_true_iff]; omega)) | (simp only [mkRes]; (repeat' split) <;> first | rfl | omega | (simp_all; done) | (simp_all; omega))))
end Go.Proofs.Ytipgdalebkhgpaa
