/-
  Contracts of functions.
-/
import Derived.Test.YtllchkmggfcdgaaTerms
import Derived.Test.YtllchkmggfcdgaaTab
import Derived.Test.YtllchkmggfcdgaaModLim
set_option maxRecDepth 100000
set_option linter.unusedVariables false
set_option linter.unusedSimpArgs false
namespace Go.Proofs.Ytllchkmggfcdgaa
open Go Go.RowKit Fw
/-- (damper/limit.clock).due -/
theorem s39 (st : LSt) (n : Int) :
    FnE Try.prog 39 [.agg [.bool st.on, .int .i64 st.since, .int .i64 n].toArray] (fun _ => True) (.int .i64 (IntKind.i64.wrap (st.since + n))) := by
  refine fn_of_J (cx := cx39) hmix Try.func39 (by kernel_rfl) (eq39 _) fun w hw => ?_
  refine J.boxA fun bt1 => ?_
  refine J.op fa85_0 ?_
  refine J.op fa29_1 ?_
  refine J.op (R.ld o2 (by with_reducible repeat (first | exact Pick.here | apply Pick.there)) rfl) ?_ -- @t5 vS (Instr.loadAt 2 t4)
  refine J.op fa85_1 ?_
  refine J.op (R.ld o2 (by with_reducible repeat (first | exact Pick.here | apply Pick.there)) rfl) ?_ -- @t7 vS (Instr.loadAt 2 t6)
  refine J.op R.add ?_ -- @t8 binS .add 2 (.tmp 5) (.tmp 7) t5 t7
  -- @ret[t8]
  exact J.done (RetQ.e1 (by first | rfl | (simp [*]; done) | (simp_all []; done) | skip))

/-- damper/limit.Next -/
theorem s12 (st : LSt) (tick : Int) (touches : Bool) :
    FnE Try.prog 12 [.agg st.cells.toArray, .int .i64 tick, .bool touches] (fun _ => True) (.agg (limNext st tick touches).cells.toArray) := by
  refine fn_of_J (cx := cx12) hmix Try.func12 (by kernel_rfl) (eq12 _ _ _) fun w hw => ?_
  refine J.boxA fun bt3 => ?_
  refine J.alloc z29 fun bt6 => ?_
  refine J.opB R.not (fun ht8 => ?_) (fun ht8 => ?_) -- @t8 vS (Op.unary .not a2)
  · skip
    refine J.iteT ?_
    refine J.op bd29 ?_
    refine J.stW sz29 (by with_reducible repeat (first | exact Pick.here | apply Pick.there)) rfl rfl rfl ?_ -- @tu uS (Instr.storeAt 29 t6 t9)
    -- @ret[t6]
    exact J.done (RetQ.c ag29 (by with_reducible repeat (first | exact Pick.here | apply Pick.there)) rfl (by first | rfl | (simp [limNext, LSt.cells, *]; done) | (simp_all [limNext, LSt.cells]; done) | skip))
  · skip
    refine J.iteF ?_
    refine J.bindB (st.on = false) ?_ (fun hbtv => ?_) (fun hbtv => ?_) -- @tv
    · skip
      refine J.op (R.ldA ag29 (by with_reducible repeat (first | exact Pick.here | apply Pick.there)) rfl) ?_ -- @t10 vS (Instr.loadAt 29 t3)
      refine J.op bd29 ?_
      refine J.opD (R.eqA gt29 (by repeat (first | exact trivial | refine ⟨⟨_, rfl⟩, ?_⟩)) (by repeat (first | exact trivial | refine ⟨⟨_, rfl⟩, ?_⟩))) (fun ht12 => ?_) (fun ht12 => ?_) -- @t12 binS .eql 29 (.tmp 10) (.tmp 11) t10 t11
      · skip
        refine J.gopF rfl ?_
        refine J.gopF rfl ?_
        refine J.gopF rfl ?_
        refine J.op R.pickT ?_
        exact J.done ⟨rfl, by simp_all [LSt.cells], rfl⟩ -- @leaf[t17]
      · skip
        refine J.gopT rfl ?_
        refine J.op fa29_0 ?_
        refine J.gopT rfl ?_
        refine J.op (R.ld o4 (by with_reducible repeat (first | exact Pick.here | apply Pick.there)) rfl) ?_ -- @t15 vS (Instr.loadAt 4 t14)
        refine J.gopT rfl ?_
        refine J.op R.not ?_
        refine J.op R.pickF ?_
        exact J.done ⟨rfl, by cases st.on <;> rfl, rfl⟩ -- @leaf[t17]#2
    · skip
      refine J.iteT ?_
      refine J.op bd29_0_1 ?_
      refine J.stW sz29 (by with_reducible repeat (first | exact Pick.here | apply Pick.there)) rfl rfl rfl ?_ -- @tu_1 uS (Instr.storeAt 29 t6 t19)
      -- @ret[t6]
      exact J.done (RetQ.c ag29 (by with_reducible repeat (first | exact Pick.here | apply Pick.there)) rfl (by first | rfl | (simp [limNext, LSt.cells, *]; done) | (simp_all [limNext, LSt.cells]; done) | skip))
    · skip
      refine J.iteF ?_
      refine J.op (R.ldA ag29 (by with_reducible repeat (first | exact Pick.here | apply Pick.there)) rfl) ?_ -- @t20 vS (Instr.loadAt 29 t3)
      refine J.stW sz29 (by with_reducible repeat (first | exact Pick.here | apply Pick.there)) rfl rfl rfl ?_ -- @tu_2 uS (Instr.storeAt 29 t6 t20)
      -- @ret[t6]
      exact J.done (RetQ.c ag29 (by with_reducible repeat (first | exact Pick.here | apply Pick.there)) rfl (by first | rfl | (simp [limNext, LSt.cells, *]; done) | (simp_all [limNext, LSt.cells]; done) | skip))

/-- damper/damperref21.Next -/
theorem s13 (st : LSt) (tick : Int) (touches : Bool) :
    FnE Try.prog 13 [.agg st.cells.toArray, .int .i64 tick, .bool touches] (fun _ => True) (.agg (limNext st tick touches).cells.toArray) := by
  refine fn_of_J (cx := cx13) hmix Try.func13 (by kernel_rfl) (eq13 _ _ _) fun w hw => ?_
  refine J.boxA fun bt3 => ?_
  refine J.alloc z30 fun bt6 => ?_
  refine J.bind ?_ -- @tv bind tv ([])
  refine J.block ?_
  refine J.opB R.not (fun ht9 => ?_) (fun ht9 => ?_) -- @t9 vS (Op.unary .not a2)
  · skip
    refine J.iteT ?_
    refine J.op bd30 ?_
    refine J.stW sz30 (by with_reducible repeat (first | exact Pick.here | apply Pick.there)) rfl rfl rfl ?_ -- @tu uS (Instr.storeAt 30 t6 t10)
    -- @ret[t6]
    exact J.done (RetQ.c ag30 (by with_reducible repeat (first | exact Pick.here | apply Pick.there)) rfl (by first | rfl | (simp [limNext, LSt.cells, *]; done) | (simp_all [limNext, LSt.cells]; done) | skip))
  · skip
    refine J.iteF ?_
    refine J.op fa30_0 ?_
    refine J.op (R.ld o4 (by with_reducible repeat (first | exact Pick.here | apply Pick.there)) rfl) ?_ -- @t13 vS (Instr.loadAt 4 t12)
    refine J.iteB (fun hct13 => ?_) (fun hct13 => ?_) -- ite t13
    · skip
      refine J.op (R.ldA ag30 (by with_reducible repeat (first | exact Pick.here | apply Pick.there)) rfl) ?_ -- @t14 vS (Instr.loadAt 30 t3)
      refine J.stW sz30 (by with_reducible repeat (first | exact Pick.here | apply Pick.there)) rfl rfl rfl ?_ -- @tu_1 uS (Instr.storeAt 30 t6 t14)
      -- @ret[t6]
      exact J.done (RetQ.c ag30 (by with_reducible repeat (first | exact Pick.here | apply Pick.there)) rfl (by first | rfl | (simp [limNext, LSt.cells, *]; done) | (simp_all [limNext, LSt.cells]; done) | skip))
    · skip
      refine J.done ?_ -- then tv = []
      refine J.op bd30_0_1 ?_
      refine J.stW sz30 (by with_reducible repeat (first | exact Pick.here | apply Pick.there)) rfl rfl rfl ?_ -- @tu_2 uS (Instr.storeAt 30 t6 t16)
      -- @ret[t6]
      exact J.done (RetQ.c ag30 (by with_reducible repeat (first | exact Pick.here | apply Pick.there)) rfl (by first | rfl | (simp [limNext, LSt.cells, *]; done) | (simp_all [limNext, LSt.cells]; done) | skip))

/-- damper/damperlaw21.own -/
theorem s14 (st : LSt) :
    FnE Try.prog 14 [.agg st.cells.toArray] (fun _ => True) (.agg st.cells.toArray) := by
  refine fn_of_J (cx := cx14) hmix Try.func14 (by kernel_rfl) (eq14 _) fun w hw => ?_
  refine J.boxA fun bt1 => ?_
  refine J.alloc z29 fun bt2 => ?_
  refine J.op fa30_0 ?_
  refine J.op (R.ld o4 (by with_reducible repeat (first | exact Pick.here | apply Pick.there)) rfl) ?_ -- @t4 vS (Instr.loadAt 4 t3)
  refine J.op fa30_1 ?_
  refine J.op (R.ld o2 (by with_reducible repeat (first | exact Pick.here | apply Pick.there)) rfl) ?_ -- @t6 vS (Instr.loadAt 2 t5)
  refine J.op bd29_0_1 ?_
  refine J.stW sz29 (by with_reducible repeat (first | exact Pick.here | apply Pick.there)) rfl rfl rfl ?_ -- @tu uS (Instr.storeAt 29 t2 t7)
  -- @ret[t2]
  exact J.done (RetQ.c ag29 (by with_reducible repeat (first | exact Pick.here | apply Pick.there)) rfl (by first | rfl | (simp [LSt.cells, *]; done) | (simp_all [LSt.cells]; done) | skip))

/-- damper/limit.Due -/
theorem s21 (st : LSt) (s : Sym) :
    FnE Try.prog 21 [.agg st.cells.toArray, .agg s.cells.toArray] (fun _ => True) (.tuple #[.int .i64 (limDue st s), .bool st.on]) := by
  refine fn_of_J (cx := cx21) hmix Try.func21 (by kernel_rfl) (eq21 _ _) fun w hw => ?_
  refine J.boxA fun bt2 => ?_
  refine J.boxA fun bt3 => ?_
  refine J.op (R.ldA ag29 (by with_reducible repeat (first | exact Pick.here | apply Pick.there)) rfl) ?_ -- @t7 vS (Instr.loadAt 29 t2)
  refine J.op fa23_6 ?_
  refine J.op (R.ld o2 (by with_reducible repeat (first | exact Pick.here | apply Pick.there)) rfl) ?_ -- @t9 vS (Instr.loadAt 2 t8)
  refine J.op bd85_0_1 ?_
  refine J.alloc z85 fun bt6 => ?_
  refine J.stW sz85 (by with_reducible repeat (first | exact Pick.here | apply Pick.there)) rfl rfl rfl ?_ -- @tu uS (Instr.storeAt 85 t6 t10)
  refine J.op fa85_0 ?_
  refine J.op fa29_0 ?_
  refine J.op (R.ld o4 (by with_reducible repeat (first | exact Pick.here | apply Pick.there)) rfl) ?_ -- @t13 vS (Instr.loadAt 4 t12)
  refine J.opB R.not (fun ht14 => ?_) (fun ht14 => ?_) -- @t14 vS (Op.unary .not t13)
  · skip
    refine J.iteT ?_
    -- @ret[(.int.i640),(.boolfalse)]
    exact J.done (RetQ.e2 (by first | rfl | (simp [limDue, *]; done) | (simp_all [limDue]; done) | skip))
  · skip
    refine J.iteF ?_
    refine J.op (R.ldA ag85 (by with_reducible repeat (first | exact Pick.here | apply Pick.there)) rfl) ?_ -- @t15 vS (Instr.loadAt 85 t6)
    refine J.callE en39 (s39 _ _) rfl (fun _ _ _ => trivial) ?_ -- @t16 callS (.func (.func 39) #[] #[]) [t15]
    -- @ret[t16,(.booltrue)]
    exact J.done (RetQ.e2 (by first | rfl | (simp [limDue, *]; done) | (simp_all [limDue]; done) | skip))

/-- damper/damperref21.Due -/
theorem s22 (st : LSt) (s : Sym) :
    FnE Try.prog 22 [.agg st.cells.toArray, .agg s.cells.toArray] (fun _ => True) (.tuple #[.int .i64 (limDue st s), .bool st.on]) := by
  refine fn_of_J (cx := cx22) hmix Try.func22 (by kernel_rfl) (eq22 _ _) fun w hw => ?_
  refine J.boxA fun bt2 => ?_
  refine J.boxA fun bt3 => ?_
  refine J.op fa30_0 ?_
  refine J.op (R.ld o4 (by with_reducible repeat (first | exact Pick.here | apply Pick.there)) rfl) ?_ -- @t7 vS (Instr.loadAt 4 t6)
  refine J.opB R.not (fun ht8 => ?_) (fun ht8 => ?_) -- @t8 vS (Op.unary .not t7)
  · skip
    refine J.iteT ?_
    -- @ret[(.int.i640),(.boolfalse)]
    exact J.done (RetQ.e2 (by first | rfl | (simp [limDue, *]; done) | (simp_all [limDue]; done) | skip))
  · skip
    refine J.iteF ?_
    refine J.op fa30_1 ?_
    refine J.op (R.ld o2 (by with_reducible repeat (first | exact Pick.here | apply Pick.there)) rfl) ?_ -- @t10 vS (Instr.loadAt 2 t9)
    refine J.op fa23_6 ?_
    refine J.op (R.ld o2 (by with_reducible repeat (first | exact Pick.here | apply Pick.there)) rfl) ?_ -- @t12 vS (Instr.loadAt 2 t11)
    refine J.op R.add ?_ -- @t13 binS .add 2 (.tmp 10) (.tmp 12) t10 t12
    -- @ret[t13,(.booltrue)]
    exact J.done (RetQ.e2 (by first | rfl | (simp [limDue, *]; done) | (simp_all [limDue]; done) | skip))

/-- damper/limit.Fires -/
theorem s15 (st : LSt) (s : Sym) (tick : Int) :
    FnE Try.prog 15 [.agg st.cells.toArray, .agg s.cells.toArray, .int .i64 tick] (fun _ => True) (.bool (limFires st s tick)) := by
  refine fn_of_J (cx := cx15) hmix Try.func15 (by kernel_rfl) (eq15 _ _ _) fun w hw => ?_
  refine J.boxA fun bt3 => ?_
  refine J.boxA fun bt4 => ?_
  refine J.op (R.ldA ag29 (by with_reducible repeat (first | exact Pick.here | apply Pick.there)) rfl) ?_ -- @t10 vS (Instr.loadAt 29 t3)
  refine J.op (R.ldA ag23 (by with_reducible repeat (first | exact Pick.here | apply Pick.there)) rfl) ?_ -- @t11 vS (Instr.loadAt 23 t4)
  refine J.callE en21 (s21 _ _) rfl (fun _ _ _ => trivial) ?_ -- @t12 callS (.func (.func 21) #[] #[]) [t10, t11]
  refine J.op (R.ext rfl) ?_ -- @t13 vS (Instr.extract t12 0)
  refine J.op (R.ext rfl) ?_ -- @t14 vS (Instr.extract t12 1)
  refine J.bindB (limFires st s tick = true) ?_ (fun hbtv => ?_) (fun hbtv => ?_) -- @tv
  · skip
    cases hgt14 : st.on -- @case:t14 case t14
    case false =>
      refine J.gopF rfl ?_
      refine J.gopF rfl ?_
      refine J.gopF rfl ?_
      refine J.op R.pickF ?_
      exact J.done ⟨rfl, by simp [limFires, *], rfl⟩ -- @leaf[t20]
    case true =>
      refine J.gopT rfl ?_
      refine J.op R.pure ?_
      refine J.gopT rfl ?_
      refine J.op R.pure ?_
      refine J.gopT rfl ?_
      refine J.op R.geq ?_ -- @t19 binS .geq 2 (.tmp 17) (.tmp 18) t17 t18
      refine J.op R.pickT ?_
      exact J.done ⟨rfl, by simp [limFires, *], rfl⟩ -- @leaf[t20]
  · skip
    -- @ret[(tv.headDundef)]
    exact J.done (RetQ.e1 (by first | rfl | (simp [limFires, *]; done) | (simp_all [limFires]; done) | skip))
  · skip
    -- @ret[(tv.headDundef)]
    exact J.done (RetQ.e1 (by first | rfl | (simp [limFires, *]; done) | (simp_all [limFires]; done) | skip))

/-- damper/limit.Left -/
theorem s23 (st : LSt) (s : Sym) (tick : Int) :
    FnE Try.prog 23 [.agg st.cells.toArray, .agg s.cells.toArray, .int .i64 tick] (fun _ => True) (.int .i64 (limLeft st s tick)) := by
  refine fn_of_J (cx := cx23) hmix Try.func23 (by kernel_rfl) (eq23 _ _ _) fun w hw => ?_
  refine J.boxA fun bt3 => ?_
  refine J.boxA fun bt4 => ?_
  refine J.op (R.ldA ag29 (by with_reducible repeat (first | exact Pick.here | apply Pick.there)) rfl) ?_ -- @t8 vS (Instr.loadAt 29 t3)
  refine J.op fa23_6 ?_
  refine J.op (R.ld o2 (by with_reducible repeat (first | exact Pick.here | apply Pick.there)) rfl) ?_ -- @t10 vS (Instr.loadAt 2 t9)
  refine J.op bd85_0_1 ?_
  refine J.bind ?_ -- @tv bind tv ([6])
  refine J.block ?_
  refine J.op fa29_0 ?_
  refine J.op (R.ld o4 (by with_reducible repeat (first | exact Pick.here | apply Pick.there)) rfl) ?_ -- @t15 vS (Instr.loadAt 4 t14)
  refine J.opB R.not (fun ht16 => ?_) (fun ht16 => ?_) -- @t16 vS (Op.unary .not t15)
  · skip
    refine J.iteT ?_
    -- @ret[(.int.i64(-1))]
    exact J.done (RetQ.e1 (by first | rfl | (simp [limLeft, limFires, limDue, *]; done) | (simp_all [limLeft, limFires, limDue]; done) | skip))
  · skip
    refine J.iteF ?_
    refine J.op (R.ldA ag29 (by with_reducible repeat (first | exact Pick.here | apply Pick.there)) rfl) ?_ -- @t18 vS (Instr.loadAt 29 t3)
    refine J.op (R.ldA ag23 (by with_reducible repeat (first | exact Pick.here | apply Pick.there)) rfl) ?_ -- @t19 vS (Instr.loadAt 23 t4)
    refine J.callE en15 (s15 _ _ _) rfl (fun _ _ _ => trivial) ?_ -- @t21 callS (.func (.func 15) #[] #[]) [t18, t19, a2]
    refine J.iteB (fun hct21 => ?_) (fun hct21 => ?_) -- ite t21
    · skip
      -- @ret[(.int.i640)]
      exact J.done (RetQ.e1 (by first | rfl | (simp [limLeft, limFires, limDue, *]; done) | (simp_all [limLeft, limFires, limDue]; done) | skip))
    · skip
      refine J.done ?_ -- then tv = [(.int .i64 0)]
      refine J.callE en39 (s39 _ _) rfl (fun _ _ _ => trivial) ?_ -- @t23 callS (.func (.func 39) #[t11] #[]) []
      refine J.op R.sub ?_ -- @t25 binS .sub 2 (.tmp 23) (.tmp 24) t23 a2
      -- @ret[t25]
      have h1 : st.on = true := by simpa using ht16
      have h2 : ¬ limDue st s ≤ tick := by simpa [limFires, h1] using hct21
      exact J.done (RetQ.e1 (by simp only [limLeft, h1, if_true, if_neg h2]; simp only [limDue, h1, if_true]))

/-- damper/damperref21.Left -/
theorem s24 (st : LSt) (s : Sym) (tick : Int) :
    FnE Try.prog 24 [.agg st.cells.toArray, .agg s.cells.toArray, .int .i64 tick] (fun _ => True) (.int .i64 (limLeftR st s tick)) := by
  refine fn_of_J (cx := cx24) hmix Try.func24 (by kernel_rfl) (eq24 _ _ _) fun w hw => ?_
  refine J.boxA fun bt3 => ?_
  refine J.boxA fun bt4 => ?_
  refine J.op fa30_0 ?_
  refine J.op (R.ld o4 (by with_reducible repeat (first | exact Pick.here | apply Pick.there)) rfl) ?_ -- @t8 vS (Instr.loadAt 4 t7)
  refine J.opB R.not (fun ht9 => ?_) (fun ht9 => ?_) -- @t9 vS (Op.unary .not t8)
  · skip
    refine J.iteT ?_
    -- @ret[(.int.i64(-1))]
    exact J.done (RetQ.e1 (by first | rfl | (simp [limLeftR, limDue, *]; done) | (simp_all [limLeftR, limDue]; done) | skip))
  · skip
    refine J.iteF ?_
    refine J.op fa30_1 ?_
    refine J.op (R.ld o2 (by with_reducible repeat (first | exact Pick.here | apply Pick.there)) rfl) ?_ -- @t11 vS (Instr.loadAt 2 t10)
    refine J.op fa23_6 ?_
    refine J.op (R.ld o2 (by with_reducible repeat (first | exact Pick.here | apply Pick.there)) rfl) ?_ -- @t13 vS (Instr.loadAt 2 t12)
    refine J.op R.add ?_ -- @t14 binS .add 2 (.tmp 11) (.tmp 13) t11 t13
    refine J.op R.sub ?_ -- @t16 binS .sub 2 (.tmp 14) (.tmp 15) t14 a2
    refine J.op R.max ?_
    -- @ret[t17]
    have h1 : st.on = true := by simpa using ht9
    exact J.done (RetQ.e1 (by simp only [limLeftR, limDue, h1, if_true, max_if]))

/-- damper/damperref21.Fires -/
theorem s16 (st : LSt) (s : Sym) (tick : Int) :
    FnE Try.prog 16 [.agg st.cells.toArray, .agg s.cells.toArray, .int .i64 tick] (fun _ => True) (.bool (decide (limLeftR st s tick = 0))) := by
  refine fn_of_J (cx := cx16) hmix Try.func16 (by kernel_rfl) (eq16 _ _ _) fun w hw => ?_
  refine J.boxA fun bt3 => ?_
  refine J.boxA fun bt4 => ?_
  refine J.op (R.ldA ag30 (by with_reducible repeat (first | exact Pick.here | apply Pick.there)) rfl) ?_ -- @t7 vS (Instr.loadAt 30 t3)
  refine J.op (R.ldA ag23 (by with_reducible repeat (first | exact Pick.here | apply Pick.there)) rfl) ?_ -- @t8 vS (Instr.loadAt 23 t4)
  refine J.callE en24 (s24 _ _ _) rfl (fun _ _ _ => trivial) ?_ -- @t10 callS (.func (.func 24) #[] #[]) [t7, t8, a2]
  refine J.op R.eql ?_ -- @t11 binS .eql 2 (.tmp 10) (.const (.int .i64 0)) t10 (.int .i64 0)
  -- @ret[t11]
  exact J.done (RetQ.e1 (by first | rfl | (simp [*]; done) | (simp_all []; done) | skip))

/-- damper/damperlaw21.Light -/
theorem s10 (s : Sym) (v : Value) (ts : List Int) :
    FnE Try.prog 10 [.agg s.cells.toArray, v] (fun w => RdS w v 1 (ints ts)) (.bool (light21 s ts)) := by
  refine fn_of_J (cx := cx10) hmix Try.func10 (by kernel_rfl) (eq10 _ _) fun w hw => ?_
  have hS : ∀ H, SeeS ⟨Try.prog, w, footOf []⟩ H v 1 (ints ts) := fun H => SeeS.ofW0 hw ints_ne
  have hm := hw.le
  simp only [ints_len, maxLen] at hm
  refine J.boxA fun bt2 => ?_
  refine J.bind ?_ -- @tv_2 bind tv_2 ([4])
  refine J.block ?_
  -- @tx loop [(.bool false), (.int .i64 0)]
  refine J.loopH (α := Nat) (fun i => i ≤ ts.length ∧ ∀ j t, j < i → ts[j]? = some t → 0 ≤ t ∧ t ≤ 1152921504606846976) (fun i => [.bool false, .int .i64 i]) (fun i => ts.length - i) 0 ⟨Nat.zero_le _, fun j t h => absurd h (Nat.not_lt_zero j)⟩ rfl ?_
  rintro i ⟨hi, hall⟩
  refine J.op (R.len sl24 (by first | apply_assumption | exact SeeS.row (by with_reducible repeat (first | exact Pick.here | apply Pick.there)))) ?_
  refine J.opD R.lss (fun ht9 => ?_) (fun ht9 => ?_) -- @t9 binS .lss 3 (.tmp 6) (.tmp 8) (tx.tail.headD undef) t8
  · skip
    refine J.iteT ?_
    rw [ints_len] at ht9
    have hlt : i < ts.length := by omega
    obtain ⟨x, hx⟩ := get_ex hlt
    refine J.bind ?_ -- @tv_1 bind tv_1 ([4])
    refine J.block ?_
    refine J.bindB (¬ (0 ≤ x ∧ x ≤ 1152921504606846976)) ?_ (fun hbtv => ?_) (fun hbtv => ?_) -- @tv
    · skip
      refine J.ixW sl24 hS (by omega) (ints_get hx) fun b o hkt14 => ?_ -- @t14 ix a1 (tx.tail.headD undef)
      refine J.op (R.ldK0 o2 (hkt14 _)) ?_ -- @t15 vS (Instr.loadAt 2 t14)
      refine J.opD R.lss (fun ht16 => ?_) (fun ht16 => ?_) -- @t16 binS .lss 2 (.tmp 15) (.const (.int .i64 0)) t15 (.int .i64 0)
      · skip
        refine J.gopF rfl ?_
        refine J.gopF rfl ?_
        refine J.gopF rfl ?_
        refine J.gopF rfl ?_
        refine J.gopF rfl ?_
        refine J.op R.pickT ?_
        exact J.done ⟨rfl, by simp; omega, rfl⟩ -- @leaf[t23]
      · skip
        refine J.gopT rfl ?_
        refine J.op R.pure ?_
        refine J.gopT rfl ?_
        refine J.op R.pure ?_
        refine J.gopT rfl ?_
        refine J.ixW sl24 hS (by omega) (ints_get hx) fun b o hkt20 => ?_ -- @t20 ix t18 t19
        refine J.gopT rfl ?_
        refine J.op (R.ldK0 o2 (hkt20 _)) ?_ -- @t21 vS (Instr.loadAt 2 t20)
        refine J.gopT rfl ?_
        refine J.op R.gtr ?_ -- @t22 binS .gtr 2 (.tmp 21) (.const (.int .i64 1152921504606846976)) t21 (.int .i64 1152921504606846976)
        refine J.op R.pickF ?_
        exact J.done ⟨rfl, by simp; omega, rfl⟩ -- @leaf[t23]
    · skip
      refine J.iteT ?_
      -- @ret[(.boolfalse)]
      refine J.done (RetQ.e1 ?_)
      have hn : ¬ Light21 s ts := fun h => hbtv (h.1 x (List.mem_of_getElem? hx))
      simp [light21, hn]
    · skip
      refine J.iteF ?_
      refine J.done ?_ -- then tv_1 = [(tx.headD undef)]
      refine J.op (R.add64 (by omega)) ?_ -- @t11 binS .add 3 (.tmp 10) (.const (.int .i64 1)) (tx.tail.headD undef) (.int .i64 1)
      -- @again[(tv_1.headDundef),t11]
      refine J.done ⟨i + 1, ⟨hlt, fun j t hj hjt => ?_⟩, rfl, Imp.refl _, by omega⟩
      rcases Nat.lt_succ_iff_lt_or_eq.1 hj with hj | rfl
      · exact hall j t hj hjt
      · rw [hx] at hjt; cases hjt; exact Decidable.not_not.1 hbtv
  · skip
    refine J.iteF ?_
    refine J.done ⟨fun _ => ?_, fun h => absurd rfl h⟩ -- exit [(tx.headD undef)]
    rw [ints_len] at ht9
    have hall' : ∀ t, t ∈ ts → 0 ≤ t ∧ t ≤ 1152921504606846976 := fun t ht => by
      obtain ⟨j, hj⟩ := List.getElem?_of_mem ht
      exact hall j t (by have := (List.getElem?_eq_some_iff.1 hj).1; omega) hj
    refine J.bindB (1 ≤ s.limit ∧ s.limit ≤ 1099511627776) ?_ (fun hbtv_3 => ?_) (fun hbtv_3 => ?_) -- @tv_3
    · skip
      refine J.op fa23_6 ?_
      refine J.op (R.ld o2 (by with_reducible repeat (first | exact Pick.here | apply Pick.there)) rfl) ?_ -- @t25 vS (Instr.loadAt 2 t24)
      refine J.opD R.geq (fun ht26 => ?_) (fun ht26 => ?_) -- @t26 binS .geq 2 (.tmp 25) (.const (.int .i64 1)) t25 (.int .i64 1)
      · skip
        refine J.gopT rfl ?_
        refine J.op fa23_6 ?_
        refine J.gopT rfl ?_
        refine J.op (R.ld o2 (by with_reducible repeat (first | exact Pick.here | apply Pick.there)) rfl) ?_ -- @t29 vS (Instr.loadAt 2 t28)
        refine J.gopT rfl ?_
        refine J.op R.leq ?_ -- @t30 binS .leq 2 (.tmp 29) (.const (.int .i64 1099511627776)) t29 (.int .i64 1099511627776)
        refine J.op R.pickT ?_
        exact J.done ⟨rfl, by simp [*], rfl⟩ -- @leaf[t31]
      · skip
        refine J.gopF rfl ?_
        refine J.gopF rfl ?_
        refine J.gopF rfl ?_
        refine J.op R.pickF ?_
        exact J.done ⟨rfl, by simp [*], rfl⟩ -- @leaf[t31]
    · skip
      -- @ret[(tv_3.headDundef)]
      exact J.done (RetQ.e1 (by simp [light21, Light21, hbtv_3]; exact hall'))
    · skip
      -- @ret[(tv_3.headDundef)]#2
      exact J.done (RetQ.e1 (by show Value.bool false = _; simp [light21, Light21, hbtv_3]))

/-- damper/damperlaw21.alive -/
theorem s11  :
    FnE Try.prog 11 [] (fun _ => True) (.bool true) := by
  refine fn_of_J (cx := cx11) hmix Try.func11 (by kernel_rfl) (eq11) fun w hw => ?_
  refine J.op bd23_6 ?_
  refine J.alloc z23 fun bt1 => ?_
  refine J.stW sz23 (by with_reducible repeat (first | exact Pick.here | apply Pick.there)) rfl rfl rfl ?_ -- @tu uS (Instr.storeAt 23 t1 t4)
  refine J.op bd29_0_1 ?_
  refine J.op (R.ldA ag23 (by with_reducible repeat (first | exact Pick.here | apply Pick.there)) rfl) ?_ -- @t7 vS (Instr.loadAt 23 t1)
  refine J.callE en21 (s21 ⟨true, 10⟩ ⟨0,0,0,0,0,0,3,0,0,0,0,0,0,0,0,0⟩) rfl (fun _ _ _ => trivial) ?_ -- @t8 callS (.func (.func 21) #[] #[]) [t6, t7]
  refine J.op (R.ext rfl) ?_ -- @t9 vS (Instr.extract t8 0)
  refine J.op (R.ext rfl) ?_ -- @t10 vS (Instr.extract t8 1)
  refine J.bindB (True) ?_ (fun hbtv => ?_) (fun hbtv => ?_) -- @tv
  · skip
    refine J.gopT rfl ?_
    refine J.op R.pure ?_
    refine J.gopT rfl ?_
    refine J.opDT R.eql (by decide) ?_ -- @t14
    refine J.op R.pickT ?_
    refine J.gopT rfl ?_
    refine J.op bd29 ?_
    refine J.gopT rfl ?_
    refine J.callE en12 (s12 ⟨false, 0⟩ _ _) rfl (fun _ _ _ => trivial) ?_ -- @t18 callS (.func (.func 12) #[] #[]) [t17, (.int .i64 4), (.bool true)]
    refine J.gopT rfl ?_
    refine J.op bd29_0_1 ?_
    refine J.gopT rfl ?_
    refine J.opDT (R.eqA gt29 (by repeat (first | exact trivial | refine ⟨⟨_, rfl⟩, ?_⟩)) (by repeat (first | exact trivial | refine ⟨⟨_, rfl⟩, ?_⟩))) (by rfl) ?_ -- @t20
    refine J.op R.pickT ?_
    exact J.done ⟨rfl, by simp [*], rfl⟩ -- @leaf[t21]
  · skip
    -- @ret[(tv.headDundef)]
    exact J.done (RetQ.e1 (by first | rfl | (simp [*]; done) | (simp_all []; done) | skip))
  · exact absurd trivial hbtv

/-- damper/damperlaw21.LimitStates -/
theorem s5 (st : LSt) (s : Sym) (tick : Int) (touches : Bool) :
    FnE Try.prog 5 [.agg st.cells.toArray, .agg s.cells.toArray, .int .i64 tick, .bool touches] (fun _ => True) (.bool true) := by
  refine fn_of_J (cx := cx5) hmix Try.func5 (by kernel_rfl) (eq5 _ _ _ _) fun w hw => ?_
  refine J.boxA fun bt4 => ?_
  refine J.boxA fun bt5 => ?_
  refine J.op (R.ldA ag23 (by with_reducible repeat (first | exact Pick.here | apply Pick.there)) rfl) ?_ -- @t13 vS (Instr.loadAt 23 t5)
  refine J.op fa30_1 ?_
  refine J.op (R.ld o2 (by with_reducible repeat (first | exact Pick.here | apply Pick.there)) rfl) ?_ -- @t15 vS (Instr.loadAt 2 t14)
  refine J.bs (cs := [.int .i64 st.since, .int .i64 tick]) (E := 2) (fun w => by kernel_rfl) fun bt17 => ?_ -- @t17 vS (Instr.buildSlice 24 2 #[(0, t15), (1, a2)])
  refine J.callE en10 (s10 _ _ [st.since, tick]) rfl (SeeS.cells Pick.here rfl (by decide) (by intro i l hi j u hj; rcases i with _ | _ | i <;> simp [ints] at hi <;> subst hi <;> rcases j with _ | j <;> simp at hj <;> subst hj <;> rfl)) ?_ -- @t18 callS (.func (.func 10) #[] #[]) [t13, t17]
  refine J.opB R.not (fun ht19 => ?_) (fun ht19 => ?_) -- @t19 vS (Op.unary .not t18)
  · skip
    refine J.iteT ?_
    refine J.callE en11 (s11) rfl (fun _ _ _ => trivial) ?_ -- @t20 callS (.func (.func 11) #[] #[]) []
    -- @ret[t20]
    exact J.done (RetQ.e1 (by first | rfl | (simp [*]; done) | (simp_all []; done) | skip))
  · skip
    refine J.iteF ?_
    refine J.draw ?_
    refine J.op (R.ldA ag30 (by with_reducible repeat (first | exact Pick.here | apply Pick.there)) rfl) ?_ -- @t22 vS (Instr.loadAt 30 t4)
    refine J.op (R.ldA ag23 (by with_reducible repeat (first | exact Pick.here | apply Pick.there)) rfl) ?_ -- @t24 vS (Instr.loadAt 23 t5)
    have hl : Light21 s [st.since, tick] := light21_iff.1 (by simpa using ht19)
    have hs := hl.1 st.since (by simp)
    have ht := hl.1 tick (by simp)
    refine J.callE en14 (s14 _) rfl (fun _ _ _ => trivial) ?_ -- @t23 callS (.func (.func 14) #[] #[]) [t22]
    refine J.chkR (R.ldA ag23 (by with_reducible repeat (first | exact Pick.here | apply Pick.there)) rfl) ?_ -- @chk:t24 vS (Instr.loadAt 23 t5)
    refine J.callE en21 (s21 _ _) rfl (fun _ _ _ => trivial) ?_ -- @t25 callS (.func (.func 21) #[] #[]) [t23, t24]
    refine J.op (R.ext rfl) ?_ -- @t26 vS (Instr.extract t25 0)
    refine J.op (R.ext rfl) ?_ -- @t27 vS (Instr.extract t25 1)
    refine J.op (R.ldA ag30 (by with_reducible repeat (first | exact Pick.here | apply Pick.there)) rfl) ?_ -- @t29 vS (Instr.loadAt 30 t4)
    refine J.op (R.ldA ag23 (by with_reducible repeat (first | exact Pick.here | apply Pick.there)) rfl) ?_ -- @t30 vS (Instr.loadAt 23 t5)
    refine J.callE en22 (s22 _ _) rfl (fun _ _ _ => trivial) ?_ -- @t31 callS (.func (.func 22) #[] #[]) [t29, t30]
    refine J.op (R.ext rfl) ?_ -- @t32 vS (Instr.extract t31 0)
    refine J.op (R.ext rfl) ?_ -- @t33 vS (Instr.extract t31 1)
    refine J.bindB (True) ?_ (fun hbtv => ?_) (fun hbtv => ?_) -- @tv
    · skip
      refine J.draw ?_
      refine J.op (R.ldA ag30 (by with_reducible repeat (first | exact Pick.here | apply Pick.there)) rfl) ?_ -- @t34 vS (Instr.loadAt 30 t4)
      refine J.op (R.ldA ag30 (by with_reducible repeat (first | exact Pick.here | apply Pick.there)) rfl) ?_ -- @t39 vS (Instr.loadAt 30 t4)
      refine J.callE en14 (s14 _) rfl (fun _ _ _ => trivial) ?_ -- @t35 callS (.func (.func 14) #[] #[]) [t34]
      refine J.chkR (R.ldA ag30 (by with_reducible repeat (first | exact Pick.here | apply Pick.there)) rfl) ?_ -- @chk:t39 vS (Instr.loadAt 30 t4)
      refine J.callE en12 (s12 _ _ _) rfl (fun _ _ _ => trivial) ?_ -- @t38 callS (.func (.func 12) #[] #[]) [t35, a2, a3]
      refine J.chkR (R.ldA ag30 (by with_reducible repeat (first | exact Pick.here | apply Pick.there)) rfl) ?_ -- @chk:t39 vS (Instr.loadAt 30 t4)
      refine J.callE en13 (s13 _ _ _) rfl (fun _ _ _ => trivial) ?_ -- @t42 callS (.func (.func 13) #[] #[]) [t39, a2, a3]
      refine J.callE en14 (s14 _) rfl (fun _ _ _ => trivial) ?_ -- @t43 callS (.func (.func 14) #[] #[]) [t42]
      refine J.opDT (R.eqA gt29 (by repeat (first | exact trivial | refine ⟨⟨_, rfl⟩, ?_⟩)) (by repeat (first | exact trivial | refine ⟨⟨_, rfl⟩, ?_⟩))) (by rfl) ?_ -- @t44
      refine J.gopT rfl ?_
      refine J.op R.pure ?_
      refine J.gopT rfl ?_
      refine J.op R.pure ?_
      refine J.gopT rfl ?_
      refine J.opDT R.eql (by rfl) ?_ -- @t48
      refine J.op R.pickT ?_
      refine J.gopT rfl ?_
      refine J.op R.pure ?_
      refine J.gopT rfl ?_
      refine J.op R.pure ?_
      refine J.gopT rfl ?_
      refine J.opDT (R.eqlB bl4) (by rfl) ?_ -- @t53
      refine J.op R.pickT ?_
      refine J.gopT rfl ?_
      refine J.op (R.ldA ag30 (by with_reducible repeat (first | exact Pick.here | apply Pick.there)) rfl) ?_ -- @t56 vS (Instr.loadAt 30 t4)
      refine J.gopT rfl ?_
      refine J.op (R.ldA ag23 (by with_reducible repeat (first | exact Pick.here | apply Pick.there)) rfl) ?_ -- @t58 vS (Instr.loadAt 23 t5)
      refine J.gopT rfl ?_
      refine J.op R.pure ?_
      refine J.gopT rfl ?_
      refine J.op (R.ldA ag30 (by with_reducible repeat (first | exact Pick.here | apply Pick.there)) rfl) ?_ -- @t61 vS (Instr.loadAt 30 t4)
      refine J.gopT rfl ?_
      refine J.op (R.ldA ag23 (by with_reducible repeat (first | exact Pick.here | apply Pick.there)) rfl) ?_ -- @t62 vS (Instr.loadAt 23 t5)
      refine J.gopT rfl ?_
      refine J.op R.pure ?_
      refine J.gopT rfl ?_
      refine J.callE en14 (s14 _) rfl (fun _ _ _ => trivial) ?_ -- @t57 callS (.func (.func 14) #[] #[]) [t56]
      refine J.chkR (R.ldA ag23 (by with_reducible repeat (first | exact Pick.here | apply Pick.there)) rfl) ?_ -- @chk:t62 vS (Instr.loadAt 23 t5)
      refine J.chkR (R.ldA ag30 (by with_reducible repeat (first | exact Pick.here | apply Pick.there)) rfl) ?_ -- @chk:t61 vS (Instr.loadAt 30 t4)
      refine J.chkR (R.ldA ag23 (by with_reducible repeat (first | exact Pick.here | apply Pick.there)) rfl) ?_ -- @chk:t58 vS (Instr.loadAt 23 t5)
      refine J.gopT rfl ?_
      refine J.callE en15 (s15 _ _ _) rfl (fun _ _ _ => trivial) ?_ -- @t60 callS (.func (.func 15) #[] #[]) [t57, t58, t59]
      refine J.chkR (R.ldA ag23 (by with_reducible repeat (first | exact Pick.here | apply Pick.there)) rfl) ?_ -- @chk:t62 vS (Instr.loadAt 23 t5)
      refine J.chkR (R.ldA ag30 (by with_reducible repeat (first | exact Pick.here | apply Pick.there)) rfl) ?_ -- @chk:t61 vS (Instr.loadAt 30 t4)
      refine J.gopT rfl ?_
      refine J.callE en16 (s16 _ _ _) rfl (fun _ _ _ => trivial) ?_ -- @t64 callS (.func (.func 16) #[] #[]) [t61, t62, t63]
      refine J.gopT rfl ?_
      refine J.opDT (R.eqlB bl4) (by exact lim_fires hs hl.2 ht) ?_ -- @t65
      refine J.op R.pickT ?_
      refine J.gopT rfl ?_
      refine J.op (R.ldA ag30 (by with_reducible repeat (first | exact Pick.here | apply Pick.there)) rfl) ?_ -- @t68 vS (Instr.loadAt 30 t4)
      refine J.gopT rfl ?_
      refine J.op (R.ldA ag23 (by with_reducible repeat (first | exact Pick.here | apply Pick.there)) rfl) ?_ -- @t70 vS (Instr.loadAt 23 t5)
      refine J.gopT rfl ?_
      refine J.op R.pure ?_
      refine J.gopT rfl ?_
      refine J.op (R.ldA ag30 (by with_reducible repeat (first | exact Pick.here | apply Pick.there)) rfl) ?_ -- @t73 vS (Instr.loadAt 30 t4)
      refine J.gopT rfl ?_
      refine J.op (R.ldA ag23 (by with_reducible repeat (first | exact Pick.here | apply Pick.there)) rfl) ?_ -- @t74 vS (Instr.loadAt 23 t5)
      refine J.gopT rfl ?_
      refine J.op R.pure ?_
      refine J.gopT rfl ?_
      refine J.callE en14 (s14 _) rfl (fun _ _ _ => trivial) ?_ -- @t69 callS (.func (.func 14) #[] #[]) [t68]
      refine J.chkR (R.ldA ag23 (by with_reducible repeat (first | exact Pick.here | apply Pick.there)) rfl) ?_ -- @chk:t74 vS (Instr.loadAt 23 t5)
      refine J.chkR (R.ldA ag30 (by with_reducible repeat (first | exact Pick.here | apply Pick.there)) rfl) ?_ -- @chk:t73 vS (Instr.loadAt 30 t4)
      refine J.chkR (R.ldA ag23 (by with_reducible repeat (first | exact Pick.here | apply Pick.there)) rfl) ?_ -- @chk:t70 vS (Instr.loadAt 23 t5)
      refine J.gopT rfl ?_
      refine J.callE en23 (s23 _ _ _) rfl (fun _ _ _ => trivial) ?_ -- @t72 callS (.func (.func 23) #[] #[]) [t69, t70, t71]
      refine J.chkR (R.ldA ag23 (by with_reducible repeat (first | exact Pick.here | apply Pick.there)) rfl) ?_ -- @chk:t74 vS (Instr.loadAt 23 t5)
      refine J.chkR (R.ldA ag30 (by with_reducible repeat (first | exact Pick.here | apply Pick.there)) rfl) ?_ -- @chk:t73 vS (Instr.loadAt 30 t4)
      refine J.gopT rfl ?_
      refine J.callE en24 (s24 _ _ _) rfl (fun _ _ _ => trivial) ?_ -- @t76 callS (.func (.func 24) #[] #[]) [t73, t74, t75]
      refine J.gopT rfl ?_
      refine J.opDT R.eql (by exact lim_left hs hl.2 ht) ?_ -- @t77
      refine J.op R.pickT ?_
      refine J.gopT rfl ?_
      refine J.callE en11 (s11) rfl (fun _ _ _ => trivial) ?_ -- @t80 callS (.func (.func 11) #[] #[]) []
      refine J.op R.pickT ?_
      exact J.done ⟨rfl, by simp [*], rfl⟩ -- @leaf[t81]
    · skip
      -- @ret[(tv.headDundef)]
      exact J.done (RetQ.e1 (by first | rfl | (simp [*]; done) | (simp_all []; done) | skip))
    · exact absurd trivial hbtv

/-- damper/damperlaw21.LimitPlays -/
theorem s3 (s : Sym) (v u : Value) (gs : List Int) (ts : List Bool) :
    FnE Try.prog 3 [.agg s.cells.toArray, v, u] (fun w => RdS w v 1 (ints gs) ∧ RdS w u 1 (bools ts)) (.bool true) := by
  refine fn_of_J (cx := cx3) hmix Try.func3 (by kernel_rfl) (eq3 _ _ _) fun w hw => ?_
  have hS : ∀ H, SeeS ⟨Try.prog, w, footOf []⟩ H v 1 (ints gs) := fun H => SeeS.ofW0 hw.1 ints_ne
  have hU : ∀ H, SeeS ⟨Try.prog, w, footOf []⟩ H u 1 (bools ts) := fun H => SeeS.ofW0 hw.2 bools_ne
  refine J.boxA fun bt3 => ?_
  refine J.bindB (light21 s [] = false ∨ 100 < gs.length) ?_ (fun hbtv => ?_) (fun hbtv => ?_) -- @tv
  · skip
    refine J.op (R.ldA ag23 (by with_reducible repeat (first | exact Pick.here | apply Pick.there)) rfl) ?_ -- @t11 vS (Instr.loadAt 23 t3)
    refine J.callE en10 (s10 _ _ []) rfl (fun _ _ _ => ⟨none, 0, rfl, Nat.zero_le _, fun i l hi => by simp [ints] at hi⟩) ?_ -- @t12 callS (.func (.func 10) #[] #[]) [t11, (.slice none 0 0)]
    refine J.opB R.not (fun ht13 => ?_) (fun ht13 => ?_) -- @t13 vS (Op.unary .not t12)
    · skip
      refine J.gopF rfl ?_
      refine J.gopF rfl ?_
      refine J.gopF rfl ?_
      refine J.op R.pickT ?_
      exact J.done ⟨rfl, by simp at ht13; simp [ht13], rfl⟩ -- @leaf[t18]
    · skip
      refine J.gopT rfl ?_
      refine J.op R.pure ?_
      refine J.gopT rfl ?_
      refine J.op (R.len sl24 (by first | apply_assumption | exact SeeS.row (by with_reducible repeat (first | exact Pick.here | apply Pick.there)))) ?_
      refine J.gopT rfl ?_
      refine J.op R.gtr ?_ -- @t17 binS .gtr 3 (.tmp 16) (.const (.int .i64 100)) t16 (.int .i64 100)
      refine J.op R.pickF ?_
      exact J.done ⟨rfl, by simp at ht13; simp [ht13, ints_len]; omega, rfl⟩ -- @leaf[t18]#2
  · skip
    refine J.iteT ?_
    refine J.callE en11 (s11) rfl (fun _ _ _ => trivial) ?_ -- @t19 callS (.func (.func 11) #[] #[]) []
    -- @ret[t19]
    exact J.done (RetQ.e1 (by first | rfl | (simp [*]; done) | (simp_all []; done) | skip))
  · skip
    refine J.iteF ?_
    refine J.op bd29 ?_
    refine J.alloc z29 fun bt7 => ?_
    refine J.stW sz29 (by with_reducible repeat (first | exact Pick.here | apply Pick.there)) rfl rfl rfl ?_ -- @tu uS (Instr.storeAt 29 t7 t20)
    refine J.op bd30 ?_
    refine J.alloc z30 fun bt8 => ?_
    refine J.stW sz30 (by with_reducible repeat (first | exact Pick.here | apply Pick.there)) rfl rfl rfl ?_ -- @tu_1 uS (Instr.storeAt 30 t8 t21)
    have hl : Light21 s [] := light21_iff.1 (by cases h : light21 s [] with | false => exact absurd (Or.inl h) hbtv | true => rfl)
    have hg : gs.length ≤ 100 := by
      rcases Nat.lt_or_ge 100 gs.length with h | h
      · exact absurd (Or.inr h) hbtv
      · exact h
    refine J.bind ?_ -- @tv_5 bind tv_5 ([6])
    refine J.block ?_
    -- @tx loop [(.int .i64 0), (.bool false), (.int .i64 0)]
    refine J.loop (α := Nat × Int × LSt) (fun (i, tick, st) => i ≤ gs.length ∧ 0 ≤ tick ∧ tick ≤ i * 1125899906842624 ∧ 0 ≤ st.since ∧ st.since ≤ 1152921504606846976) (fun (i, tick, st) => [.int .i64 tick, .bool false, .int .i64 i])
      (fun (i, tick, st) => [Ent.cells bt8 st.cells 30, Ent.cells bt7 st.cells 29, Ent.cells bt3 s.cells 23]) (fun (i, _, _) => gs.length - i) (0, 0, ⟨false, 0⟩) ⟨Nat.zero_le _, by decide⟩ rfl (Imp.refl _) ?_
    rintro ⟨i, tick, st⟩ ⟨hi, ht0, ht1, hs0, hs1⟩
    refine J.bindB (i < gs.length ∧ i < ts.length) ?_ (fun hbtv_1 => ?_) (fun hbtv_1 => ?_) -- @tv_1
    · skip
      refine J.op (R.len sl24 (by first | apply_assumption | exact SeeS.row (by with_reducible repeat (first | exact Pick.here | apply Pick.there)))) ?_
      refine J.opD R.lss (fun ht25 => ?_) (fun ht25 => ?_) -- @t25 binS .lss 3 (.tmp 22) (.tmp 24) (tx.tail.tail.headD undef) t24
      · skip
        refine J.gopT rfl ?_
        refine J.op R.pure ?_
        refine J.gopT rfl ?_
        refine J.op R.pure ?_
        refine J.gopT rfl ?_
        refine J.op (R.len sl25 (by first | apply_assumption | exact SeeS.row (by with_reducible repeat (first | exact Pick.here | apply Pick.there)))) ?_
        refine J.gopT rfl ?_
        refine J.op R.lss ?_ -- @t30 binS .lss 3 (.tmp 27) (.tmp 29) t27 t29
        refine J.op R.pickT ?_
        exact J.done ⟨rfl, by rw [ints_len] at ht25; simp [bools_len]; omega, rfl⟩ -- @leaf[t31]
      · skip
        refine J.gopF rfl ?_
        refine J.gopF rfl ?_
        refine J.gopF rfl ?_
        refine J.gopF rfl ?_
        refine J.op R.pickF ?_
        exact J.done ⟨rfl, by rw [ints_len] at ht25; simp; omega, rfl⟩ -- @leaf[t31]#2
    · skip
      refine J.iteT ?_
      obtain ⟨x, hx⟩ := get_ex hbtv_1.1
      obtain ⟨t, ht⟩ := get_ex hbtv_1.2
      refine J.bind ?_ -- @tv_4 bind tv_4 ([6, 9])
      refine J.block ?_
      refine J.bindB (¬ (0 ≤ x ∧ x ≤ 1125899906842624)) ?_ (fun hbtv_2 => ?_) (fun hbtv_2 => ?_) -- @tv_2
      · skip
        refine J.ixW sl24 hS (by omega) (ints_get hx) fun b o hkt36 => ?_ -- @t36 ix a1 (tx.tail.tail.headD undef)
        refine J.op (R.ldK0 o2 (hkt36 _)) ?_ -- @t37 vS (Instr.loadAt 2 t36)
        refine J.opD R.lss (fun ht38 => ?_) (fun ht38 => ?_) -- @t38 binS .lss 2 (.tmp 37) (.const (.int .i64 0)) t37 (.int .i64 0)
        · skip
          refine J.gopF rfl ?_
          refine J.gopF rfl ?_
          refine J.gopF rfl ?_
          refine J.gopF rfl ?_
          refine J.gopF rfl ?_
          refine J.op R.pickT ?_
          exact J.done ⟨rfl, by simp; omega, rfl⟩ -- @leaf[t45]
        · skip
          refine J.gopT rfl ?_
          refine J.op R.pure ?_
          refine J.gopT rfl ?_
          refine J.op R.pure ?_
          refine J.gopT rfl ?_
          refine J.ixW sl24 hS (by omega) (ints_get hx) fun b o hkt42 => ?_ -- @t42 ix t40 t41
          refine J.gopT rfl ?_
          refine J.op (R.ldK0 o2 (hkt42 _)) ?_ -- @t43 vS (Instr.loadAt 2 t42)
          refine J.gopT rfl ?_
          refine J.op R.gtr ?_ -- @t44 binS .gtr 2 (.tmp 43) (.const (.int .i64 1125899906842624)) t43 (.int .i64 1125899906842624)
          refine J.op R.pickF ?_
          exact J.done ⟨rfl, by simp; omega, rfl⟩ -- @leaf[t45]
      · skip
        refine J.iteT ?_
        refine J.callE en11 (s11) rfl (fun _ _ _ => trivial) ?_ -- @t46 callS (.func (.func 11) #[] #[]) []
        -- @ret[t46]
        exact J.done (RetQ.e1 (by first | rfl | (simp [*]; done) | (simp_all []; done) | skip))
      · skip
        refine J.iteF ?_
        refine J.ixW sl24 hS (by omega) (ints_get hx) fun b o hkt50 => ?_ -- @t50 ix a1 (tx.tail.tail.headD undef)
        refine J.op (R.ldK0 o2 (hkt50 _)) ?_ -- @t51 vS (Instr.loadAt 2 t50)
        have hx2 := Decidable.not_not.1 hbtv_2
        have hsum : 0 ≤ tick + x ∧ tick + x ≤ 1152921504606846976 := by omega
        refine J.op (R.add64 (by omega)) ?_ -- @t52 binS .add 2 (.tmp 47) (.tmp 51) (tx.headD undef) t51
        refine J.draw ?_
        refine J.op (R.ldA ag29 (by with_reducible repeat (first | exact Pick.here | apply Pick.there)) rfl) ?_ -- @t53 vS (Instr.loadAt 29 t7)
        refine J.ixW sl25 hU (by omega) (bools_get ht) fun b o hkt57 => ?_ -- @t57 ix a2 (tx.tail.tail.headD undef)
        refine J.op (R.ldK0 o4 (hkt57 _)) ?_ -- @t58 vS (Instr.loadAt 4 t57)
        refine J.callE en12 (s12 _ _ _) rfl (fun _ _ _ => trivial) ?_ -- @t59 callS (.func (.func 12) #[] #[]) [t53, t52, t58]
        refine J.stW sz29 (by with_reducible repeat (first | exact Pick.here | apply Pick.there)) rfl rfl rfl ?_ -- @tu_2 uS (Instr.storeAt 29 t7 t59)
        refine J.draw ?_
        refine J.op (R.ldA ag30 (by with_reducible repeat (first | exact Pick.here | apply Pick.there)) rfl) ?_ -- @t60 vS (Instr.loadAt 30 t8)
        refine J.ixW sl25 hU (by omega) (bools_get ht) fun b o hkt64 => ?_ -- @t64 ix a2 (tx.tail.tail.headD undef)
        refine J.op (R.ldK0 o4 (hkt64 _)) ?_ -- @t65 vS (Instr.loadAt 4 t64)
        refine J.callE en13 (s13 _ _ _) rfl (fun _ _ _ => trivial) ?_ -- @t66 callS (.func (.func 13) #[] #[]) [t60, t52, t65]
        refine J.stW sz30 (by with_reducible repeat (first | exact Pick.here | apply Pick.there)) rfl rfl rfl ?_ -- @tu_3 uS (Instr.storeAt 30 t8 t66)
        have hn := limNext_since (b := t) ⟨hs0, hs1⟩ hsum
        refine J.bindB (False) ?_ (fun hbtv_3 => ?_) (fun hbtv_3 => ?_) -- @tv_3
        · skip
          refine J.draw ?_
          refine J.op (R.ldA ag29 (by with_reducible repeat (first | exact Pick.here | apply Pick.there)) rfl) ?_ -- @t67 vS (Instr.loadAt 29 t7)
          refine J.op (R.ldA ag30 (by with_reducible repeat (first | exact Pick.here | apply Pick.there)) rfl) ?_ -- @t68 vS (Instr.loadAt 30 t8)
          refine J.callE en14 (s14 _) rfl (fun _ _ _ => trivial) ?_ -- @t69 callS (.func (.func 14) #[] #[]) [t68]
          refine J.chkR (R.ldA ag29 (by with_reducible repeat (first | exact Pick.here | apply Pick.there)) rfl) ?_ -- @chk:t67 vS (Instr.loadAt 29 t7)
          refine J.opDF (R.neA gt29 (by repeat (first | exact trivial | refine ⟨⟨_, rfl⟩, ?_⟩)) (by repeat (first | exact trivial | refine ⟨⟨_, rfl⟩, ?_⟩))) (by simp) ?_ -- @t70
          refine J.gopT rfl ?_
          refine J.op (R.ldA ag29 (by with_reducible repeat (first | exact Pick.here | apply Pick.there)) rfl) ?_ -- @t72 vS (Instr.loadAt 29 t7)
          refine J.gopT rfl ?_
          refine J.op (R.ldA ag23 (by with_reducible repeat (first | exact Pick.here | apply Pick.there)) rfl) ?_ -- @t73 vS (Instr.loadAt 23 t3)
          refine J.gopT rfl ?_
          refine J.op R.pure ?_
          refine J.gopT rfl ?_
          refine J.op (R.ldA ag30 (by with_reducible repeat (first | exact Pick.here | apply Pick.there)) rfl) ?_ -- @t76 vS (Instr.loadAt 30 t8)
          refine J.gopT rfl ?_
          refine J.op (R.ldA ag23 (by with_reducible repeat (first | exact Pick.here | apply Pick.there)) rfl) ?_ -- @t77 vS (Instr.loadAt 23 t3)
          refine J.gopT rfl ?_
          refine J.op R.pure ?_
          refine J.gopT rfl ?_
          refine J.callE en15 (s15 _ _ _) rfl (fun _ _ _ => trivial) ?_ -- @t75 callS (.func (.func 15) #[] #[]) [t72, t73, t74]
          refine J.chkR (R.ldA ag23 (by with_reducible repeat (first | exact Pick.here | apply Pick.there)) rfl) ?_ -- @chk:t77 vS (Instr.loadAt 23 t3)
          refine J.chkR (R.ldA ag30 (by with_reducible repeat (first | exact Pick.here | apply Pick.there)) rfl) ?_ -- @chk:t76 vS (Instr.loadAt 30 t8)
          refine J.gopT rfl ?_
          refine J.callE en16 (s16 _ _ _) rfl (fun _ _ _ => trivial) ?_ -- @t79 callS (.func (.func 16) #[] #[]) [t76, t77, t78]
          refine J.gopT rfl ?_
          refine J.opDF (R.neqB bl4) (by have := lim_fires hn hl.2 hsum; simp [this]) ?_ -- @t80
          refine J.op R.pickF ?_
          exact J.done ⟨rfl, by simp, rfl⟩ -- @leaf[t81]
        · exact hbtv_3.elim
        · skip
          refine J.iteF ?_
          refine J.done ?_ -- then tv_4 = [(tx.tail.headD undef), t52]
          refine J.op (R.add64 (by omega)) ?_ -- @t33 binS .add 3 (.tmp 32) (.const (.int .i64 1)) (tx.tail.tail.headD undef) (.int .i64 1)
          -- @again[(tv_4.tail.headDundef),(tv_4.headDundef),t33]
          exact J.done ⟨(i + 1, tick + x, limNext st (tick + x) t), ⟨by omega, hsum.1, by omega, hn⟩, rfl, Imp.refl _, by simp only []; omega⟩
    · skip
      refine J.iteF ?_
      refine J.done ⟨fun _ => ?_, fun h => absurd rfl h⟩ -- exit [(tx.tail.headD undef)]
      refine J.callE en11 (s11) rfl (fun _ _ _ => trivial) ?_ -- @t82 callS (.func (.func 11) #[] #[]) []
      -- @ret[t82]
      exact J.done (RetQ.e1 (by first | rfl | (simp [*]; done) | (simp_all []; done) | skip))
end Go.Proofs.Ytllchkmggfcdgaa
