/-
  Contracts of functions.
-/
import Derived.Test.YtllchkmggfcdgaaTerms
import Derived.Test.YtllchkmggfcdgaaTab
import Derived.Test.YtllchkmggfcdgaaC1
set_option maxRecDepth 100000
set_option linter.unusedVariables false
set_option linter.unusedSimpArgs false
namespace Go.Proofs.Ytllchkmggfcdgaa
open Go Go.RowKit Fw
/-- damper/damperlaw38.alive -/
theorem s27  :
    FnE Try.prog 27 [] (fun _ => True) (.bool true) := by
  refine fn_of_J (cx := cx27) hmix Try.func27 (by kernel_rfl) (eq27) fun w hw => ?_
  refine J.op bd89_4 ?_ -- @t5 vS (Instr.build 89 #[(4, (.int .i64 1))])
  refine J.op bd89_4 ?_ -- @t6 vS (Instr.build 89 #[(4, (.int .i64 2))])
  refine J.op bd89_4 ?_ -- @t7 vS (Instr.build 89 #[(4, (.int .i64 3))])
  refine J.alloc z89 fun bt1 => ?_
  refine J.alloc z89 fun bt2 => ?_
  refine J.alloc z89 fun bt3 => ?_
  refine J.stW sz89 (by with_reducible repeat (first | exact Pick.here | apply Pick.there)) rfl rfl rfl ?_ -- @tu uS (Instr.storeAt 89 t1 t5)
  refine J.stW sz89 (by with_reducible repeat (first | exact Pick.here | apply Pick.there)) rfl rfl rfl ?_ -- @tu_1 uS (Instr.storeAt 89 t2 t6)
  refine J.stW sz89 (by with_reducible repeat (first | exact Pick.here | apply Pick.there)) rfl rfl rfl ?_ -- @tu_2 uS (Instr.storeAt 89 t3 t7)
  refine J.op (R.ldA ag89 (by with_reducible repeat (first | exact Pick.here | apply Pick.there)) rfl) ?_ -- @t8 vS (Instr.loadAt 89 t1)
  refine J.op (R.ldA ag89 (by with_reducible repeat (first | exact Pick.here | apply Pick.there)) rfl) ?_ -- @t9 vS (Instr.loadAt 89 t2)
  refine J.bs (cs := (mm 1).cells ++ (mm 2).cells) (E := 89) (fun w => by kernel_rfl) fun bt10 => ?_ -- @t10 vS (Instr.buildSlice 57 2 #[(0, t8), (1, t9)])
  refine J.op (R.ldA ag89 (by with_reducible repeat (first | exact Pick.here | apply Pick.there)) rfl) ?_ -- @t11 vS (Instr.loadAt 89 t2)
  refine J.op (R.ldA ag89 (by with_reducible repeat (first | exact Pick.here | apply Pick.there)) rfl) ?_ -- @t12 vS (Instr.loadAt 89 t3)
  refine J.bs (cs := (mm 2).cells ++ (mm 3).cells) (E := 89) (fun w => by kernel_rfl) fun bt13 => ?_ -- @t13 vS (Instr.buildSlice 57 2 #[(0, t11), (1, t12)])
  refine J.callT en32 (s32 _ _ _ _ _ _ [mm 1, mm 2] [mm 2, mm 3] (by decide) (by decide)) rfl (fun _ _ hs => ⟨SeeS.cells (els := msgs [mm 1, mm 2]) (by with_reducible repeat (first | exact Pick.here | apply Pick.there)) rfl (by decide) (by intro i l hi j u hj; rcases i with _ | _ | i <;> simp [msgs] at hi <;> subst hi <;> (rcases j with _ | _ | _ | _ | _ | _ | _ | _ | _ | j <;> simp [Msg.cells] at hj <;> subst hj <;> rfl)) _ _ hs, SeeS.cells (els := msgs [mm 2, mm 3]) (by with_reducible repeat (first | exact Pick.here | apply Pick.there)) rfl (by decide) (by intro i l hi j u hj; rcases i with _ | _ | i <;> simp [msgs] at hi <;> subst hi <;> (rcases j with _ | _ | _ | _ | _ | _ | _ | _ | _ | j <;> simp [Msg.cells] at hj <;> subst hj <;> rfl)) _ _ hs⟩) Take.nil (fun v es hv => ?_)
  obtain ⟨oa, on, oc, rfl, rfl⟩ := hv
  simp only [List.cons_append, List.nil_append] -- @t14 callS (.func (.func 32) #[] #[]) [t10, t13]
  refine J.bindB (True) ?_ (fun hbtv => ?_) (fun hbtv => ?_) -- @tv
  · skip
    refine J.op (R.lenN sl62 (SeeS.row (E := 68) (by with_reducible repeat (first | exact Pick.here | apply Pick.there))) (by rw [alive_edits]; try rfl)) ?_ -- @t16 bltS .len #[62] 3 #[false] [t14]
    refine J.opDT R.eql (by rfl) ?_ -- @t17
    refine J.gopT rfl ?_
    refine J.op R.pure ?_
    refine J.gopT rfl ?_
    refine J.ix sl62 (SeeS.row (E := 68) (by with_reducible repeat (first | exact Pick.here | apply Pick.there))) (by decide) (by rw [alive_edits]; try rfl) fun gb go hkt20 => ?_ -- @t20 ix t19 (.int .i64 0)
    refine J.gopT rfl ?_
    refine J.op (R.ldKA ag68 (hkt20) rfl) ?_ -- @t21 vS (Instr.loadAt 68 t20)
    refine J.gopT rfl ?_
    refine J.op bd68_0 ?_ -- @t22 vS (Instr.build 68 #[(0, (.int .i64 1))])
    refine J.gopT rfl ?_
    refine J.opDT (R.eqA gt68 (by repeat (first | exact trivial | refine ⟨⟨_, rfl⟩, ?_⟩)) (by repeat (first | exact trivial | refine ⟨⟨_, rfl⟩, ?_⟩))) (by rfl) ?_ -- @t23
    refine J.op R.pickT ?_ -- @t24 pickS t17 t23 (.bool false)
    refine J.gopT rfl ?_
    refine J.op R.pure ?_
    refine J.gopT rfl ?_
    refine J.ix sl62 (SeeS.row (E := 68) (by with_reducible repeat (first | exact Pick.here | apply Pick.there))) (by decide) (by rw [alive_edits]; try rfl) fun gb go hkt27 => ?_ -- @t27 ix t26 (.int .i64 1)
    refine J.gopT rfl ?_
    refine J.op (R.ldKA ag68 (hkt27) rfl) ?_ -- @t28 vS (Instr.loadAt 68 t27)
    refine J.gopT rfl ?_
    refine J.op bd68_1 ?_ -- @t29 vS (Instr.build 68 #[(1, (.int .i64 1))])
    refine J.gopT rfl ?_
    refine J.opDT (R.eqA gt68 (by repeat (first | exact trivial | refine ⟨⟨_, rfl⟩, ?_⟩)) (by repeat (first | exact trivial | refine ⟨⟨_, rfl⟩, ?_⟩))) (by rfl) ?_ -- @t30
    refine J.op R.pickT ?_ -- @t31 pickS t24 t30 (.bool false)
    refine J.gopT rfl ?_
    refine J.op R.pure ?_
    refine J.gopT rfl ?_
    refine J.ix sl62 (SeeS.row (E := 68) (by with_reducible repeat (first | exact Pick.here | apply Pick.there))) (by decide) (by rw [alive_edits]; try rfl) fun gb go hkt34 => ?_ -- @t34 ix t33 (.int .i64 2)
    refine J.gopT rfl ?_
    refine J.op (R.ldKA ag68 (hkt34) rfl) ?_ -- @t35 vS (Instr.loadAt 68 t34)
    refine J.gopT rfl ?_
    refine J.op bd68_0_1_2 ?_ -- @t36 vS (Instr.build 68 #[(0, (.int .i64 2)), (1, (.int .i64 2)), (2, (.int .i64 1))])
    refine J.gopT rfl ?_
    refine J.opDT (R.eqA gt68 (by repeat (first | exact trivial | refine ⟨⟨_, rfl⟩, ?_⟩)) (by repeat (first | exact trivial | refine ⟨⟨_, rfl⟩, ?_⟩))) (by rfl) ?_ -- @t37
    refine J.op R.pickT ?_ -- @t38 pickS t31 t37 (.bool false)
    exact J.done ⟨rfl, by simp [*], rfl⟩ -- @leaf[t38]
  · skip
    -- @ret[(tv.headDundef)]
    exact J.done (RetQ.e1 (by first | rfl | (simp [*]; done) | (simp_all []; done) | skip))
  · exact absurd trivial hbtv

/-- damper/damperref06.Lists -/
theorem s36 (v u : Value) (a b : List Msg) :
    FnE Try.prog 36 [v, u] (fun w => RdS w v 9 (msgs a) ∧ RdS w u 9 (msgs b)) (.bool (sameB a b)) := by
  refine fn_of_J (cx := cx36) hmix Try.func36 (by kernel_rfl) (eq36 _ _) fun w hw => ?_
  have hA : ∀ H, SeeS ⟨Try.prog, w, footOf []⟩ H v 9 (msgs a) := fun H => SeeS.ofW0 hw.1 msgs_ne
  have hB : ∀ H, SeeS ⟨Try.prog, w, footOf []⟩ H u 9 (msgs b) := fun H => SeeS.ofW0 hw.2 msgs_ne
  have hm := hw.1.le
  simp only [msgs_len, maxLen] at hm
  refine J.op (R.lenN sl57 (by first | apply_assumption | exact SeeS.row (by with_reducible repeat (first | exact Pick.here | apply Pick.there))) (by first | exact ints_len | exact bools_len | exact msgs_len | exact trows_len | exact edits_len | rfl)) ?_ -- @t7 bltS .len #[57] 3 #[false] [a0]
  refine J.op (R.lenN sl57 (by first | apply_assumption | exact SeeS.row (by with_reducible repeat (first | exact Pick.here | apply Pick.there))) (by first | exact ints_len | exact bools_len | exact msgs_len | exact trows_len | exact edits_len | rfl)) ?_ -- @t9 bltS .len #[57] 3 #[false] [a1]
  refine J.opD R.neq (fun ht10 => ?_) (fun ht10 => ?_) -- @t10 binS .neq 3 (.tmp 7) (.tmp 9) t7 t9
  · skip
    refine J.iteT ?_
    -- @ret[(.boolfalse)]
    have hne : ¬ a = b := fun e => ht10 (by rw [e])
    exact J.done (RetQ.e1 (by simp [sameB, hne]))
  · skip
    refine J.iteF ?_
    refine J.bind ?_ -- @tv_1 bind tv_1 ([4])
    refine J.block ?_
    -- @tx loop [(.bool false), (.int .i64 0)]
    refine J.loopH (α := Nat) (fun i => i ≤ a.length ∧ ∀ j, j < i → a[j]? = b[j]?) (fun i => [.bool false, .int .i64 i]) (fun i => a.length - i) 0 ⟨Nat.zero_le _, fun j h => absurd h (Nat.not_lt_zero j)⟩ rfl ?_
    rintro i ⟨hi, hall⟩
    try simp only [List.headD_cons, List.tail_cons]
    refine J.op (R.lenN sl57 (by first | apply_assumption | exact SeeS.row (by with_reducible repeat (first | exact Pick.here | apply Pick.there))) (by first | exact ints_len | exact bools_len | exact msgs_len | exact trows_len | exact edits_len | rfl)) ?_ -- @t13 bltS .len #[57] 3 #[false] [a0]
    refine J.opD R.lss (fun ht14 => ?_) (fun ht14 => ?_) -- @t14 binS .lss 3 (.tmp 11) (.tmp 13) (tx.tail.headD undef) t13
    · skip
      refine J.iteT ?_
      obtain ⟨x, hx⟩ := get_ex (l := a) (i := i) (by omega)
      obtain ⟨y, hy⟩ := get_ex (l := b) (i := i) (by omega)
      refine J.bind ?_ -- @tv bind tv ([4])
      refine J.block ?_
      refine J.draw ?_
      refine J.ixW sl57 hA (by omega) (msgs_get hx) fun gb go hkt19 => ?_ -- @t19 ix a0 (tx.tail.headD undef)
      refine J.op (R.ldKA ag89 (hkt19 _) rfl) ?_ -- @t20 vS (Instr.loadAt 89 t19)
      refine J.ixW sl57 hB (by omega) (msgs_get hy) fun gb go hkt23 => ?_ -- @t23 ix a1 (tx.tail.headD undef)
      refine J.op (R.ldKA ag89 (hkt23 _) rfl) ?_ -- @t24 vS (Instr.loadAt 89 t23)
      refine J.opD (R.neA gt89 (by repeat (first | exact trivial | refine ⟨⟨_, rfl⟩, ?_⟩)) (by repeat (first | exact trivial | refine ⟨⟨_, rfl⟩, ?_⟩))) (fun ht25 => ?_) (fun ht25 => ?_) -- @t25 binS .neq 89 (.tmp 20) (.tmp 24) t20 t24
      · skip
        refine J.iteT ?_
        -- @ret[(.boolfalse)]#2
        have hne : ¬ a = b := fun e => ht25 (by rw [e, hy] at hx; cases hx; rfl)
        exact J.done (RetQ.e1 (by simp [sameB, hne]))
      · skip
        refine J.iteF ?_
        refine J.done ?_ -- then tv = [(tx.headD undef)]
        refine J.op (R.add64 (by omega)) ?_ -- @t16 binS .add 3 (.tmp 15) (.const (.int .i64 1)) (tx.tail.headD undef) (.int .i64 1)
        -- @again[(tv.headDundef),t16]
        refine J.done ⟨i + 1, ⟨by omega, fun j hj => ?_⟩, rfl, Imp.refl _, by omega⟩
        rcases Nat.lt_succ_iff_lt_or_eq.1 hj with hj | rfl
        · exact hall j hj
        · rw [hx, hy, Msg.inj.1 (Classical.not_not.1 ht25)]
    · skip
      refine J.iteF ?_
      refine J.done ⟨fun _ => ?_, fun h => absurd rfl h⟩ -- exit [(tx.headD undef)]
      -- @ret[(.booltrue)]
      have he : a = b := List.ext_getElem? (fun j => by
        rcases Nat.lt_or_ge j i with h | h
        · exact hall j h
        · rw [List.getElem?_eq_none (by omega), List.getElem?_eq_none (by omega)])
      exact J.done (RetQ.e1 (by simp [sameB, he]))

/-- damper/compare.fits -/
theorem s46 (va vb : Value) (a b : List Msg) (e : Edit) (i k : Nat) :
    FnE Try.prog 46 [va, vb, .agg e.cells.toArray, .int .i64 i, .int .i64 k] (fun w => RdS w va 9 (msgs a) ∧ RdS w vb 9 (msgs b)) (.bool (decide (fitsE a b e i k))) := by
  refine fn_of_J (cx := cx46) hmix Try.func46 (by kernel_rfl) (eq46 _ _ _ _ _) fun w hw => ?_
  have hA : ∀ H, SeeS ⟨Try.prog, w, footOf []⟩ H va 9 (msgs a) := fun H => SeeS.ofW0 hw.1 msgs_ne
  have hB : ∀ H, SeeS ⟨Try.prog, w, footOf []⟩ H vb 9 (msgs b) := fun H => SeeS.ofW0 hw.2 msgs_ne
  refine J.boxA fun bt7 => ?_
  refine J.bindB (¬ (e.a = i ∧ e.b = k)) ?_ (fun hbtv => ?_) (fun hbtv => ?_) -- @tv
  · skip
    refine J.op fa68_1 ?_
    refine J.op (R.ld o3 (by with_reducible repeat (first | exact Pick.here | apply Pick.there)) rfl) ?_ -- @t12 vS (Instr.loadAt 3 t11)
    refine J.opD R.neq (fun ht14 => ?_) (fun ht14 => ?_) -- @t14 binS .neq 3 (.tmp 12) (.tmp 13) t12 a3
    · skip
      refine J.gopF rfl ?_
      refine J.gopF rfl ?_
      refine J.gopF rfl ?_
      refine J.gopF rfl ?_
      refine J.op R.pickT ?_ -- @t20 pickS t14 (.bool true) t19
      exact J.done ⟨rfl, congrArg (fun x => [Value.bool x]) (by simp; omega), rfl⟩ -- @leaf[t20]
    · skip
      refine J.gopT rfl ?_
      refine J.op fa68_2 ?_
      refine J.gopT rfl ?_
      refine J.op (R.ld o3 (by with_reducible repeat (first | exact Pick.here | apply Pick.there)) rfl) ?_ -- @t17 vS (Instr.loadAt 3 t16)
      refine J.gopT rfl ?_
      refine J.op R.pure ?_
      refine J.gopT rfl ?_
      refine J.op R.neq ?_ -- @t19 binS .neq 3 (.tmp 17) (.tmp 18) t17 t18
      refine J.op R.pickF ?_ -- @t20 pickS t14 (.bool true) t19
      exact J.done ⟨rfl, congrArg (fun x => [Value.bool x]) (decide_eq_decide.2 (by omega)), rfl⟩ -- @leaf[t20]#2
  · skip
    refine J.iteT ?_
    -- @ret[(.boolfalse)]
    have hn : ¬ fitsE a b e i k := fun h => hbtv ⟨h.1, h.2.1⟩
    exact J.done (RetQ.e1 (by simp [hn]))
  · skip
    refine J.iteF ?_
    refine J.op fa68_0 ?_
    refine J.op (R.ld o3 (by with_reducible repeat (first | exact Pick.here | apply Pick.there)) rfl) ?_ -- @t22 vS (Instr.loadAt 3 t21)
    refine J.bind ?_ -- @tv_2 bind tv_2 ([10])
    refine J.block ?_
    have hab := Decidable.not_not.1 hbtv
    refine J.opD R.eql (fun ht24 => ?_) (fun ht24 => ?_) -- @t24 binS .eql 3 (.tmp 22) (.const (.int .i64 0)) t22 (.int .i64 0)
    · skip
      refine J.iteT ?_
      refine J.bindB (sameAt a b i k) ?_ (fun hbtv_1 => ?_) (fun hbtv_1 => ?_) -- @tv_1
      · skip
        refine J.draw ?_
        refine J.op (R.lenN sl57 (by first | apply_assumption | exact SeeS.row (by with_reducible repeat (first | exact Pick.here | apply Pick.there))) (by first | exact ints_len | exact bools_len | exact msgs_len | exact trows_len | exact edits_len | rfl)) ?_ -- @t27 bltS .len #[57] 3 #[false] [a0]
        refine J.opD R.lss (fun ht28 => ?_) (fun ht28 => ?_) -- @t28 binS .lss 3 (.tmp 25) (.tmp 27) a3 t27
        · skip
          refine J.gopT rfl ?_
          refine J.op R.pure ?_
          refine J.gopT rfl ?_
          refine J.op R.pure ?_
          refine J.gopT rfl ?_
          refine J.op (R.lenN sl57 (by first | apply_assumption | exact SeeS.row (by with_reducible repeat (first | exact Pick.here | apply Pick.there))) (by first | exact ints_len | exact bools_len | exact msgs_len | exact trows_len | exact edits_len | rfl)) ?_ -- @t32 bltS .len #[57] 3 #[false] [t31]
          refine J.gopT rfl ?_
          refine J.opD R.lss (fun ht33 => ?_) (fun ht33 => ?_) -- @t33 binS .lss 3 (.tmp 30) (.tmp 32) t30 t32
          · skip
            refine J.op R.pickT ?_ -- @t34 pickS t28 t33 (.bool false)
            refine J.gopT rfl ?_
            refine J.op R.pure ?_
            refine J.gopT rfl ?_
            refine J.op R.pure ?_
            refine J.gopT rfl ?_
            obtain ⟨x, hx⟩ := get_ex (l := a) (i := i) (by omega)
            refine J.ixW sl57 hA (by omega) (msgs_get hx) fun gb go hkt38 => ?_ -- @t38 ix t36 t37
            refine J.gopT rfl ?_
            refine J.op (R.ldKA ag89 (hkt38 _) rfl) ?_ -- @t39 vS (Instr.loadAt 89 t38)
            refine J.gopT rfl ?_
            refine J.op R.pure ?_
            refine J.gopT rfl ?_
            refine J.op R.pure ?_
            refine J.gopT rfl ?_
            obtain ⟨y, hy⟩ := get_ex (l := b) (i := k) (by omega)
            refine J.ixW sl57 hB (by omega) (msgs_get hy) fun gb go hkt42 => ?_ -- @t42 ix t40 t41
            refine J.gopT rfl ?_
            refine J.op (R.ldKA ag89 (hkt42 _) rfl) ?_ -- @t43 vS (Instr.loadAt 89 t42)
            refine J.gopT rfl ?_
            refine J.op (R.eqA gt89 (by repeat (first | exact trivial | refine ⟨⟨_, rfl⟩, ?_⟩)) (by repeat (first | exact trivial | refine ⟨⟨_, rfl⟩, ?_⟩))) ?_ -- @t44 binS .eql 89 (.tmp 39) (.tmp 43) t39 t43
            refine J.op R.pickT ?_ -- @t45 pickS t34 t44 (.bool false)
            exact J.done ⟨rfl, congrArg (fun x => [Value.bool x]) (decide_eq_decide.2 ⟨fun h => ⟨by omega, by omega, by rw [hx, hy, Msg.inj.1 h]⟩, fun h => Msg.inj.2 (Option.some.inj (by rw [← hx, ← hy]; exact h.2.2))⟩), rfl⟩ -- @leaf[t45]
          · skip
            refine J.op R.pickT ?_ -- @t34 pickS t28 t33 (.bool false)
            refine J.gopF rfl ?_
            refine J.gopF rfl ?_
            refine J.gopF rfl ?_
            refine J.gopF rfl ?_
            refine J.gopF rfl ?_
            refine J.gopF rfl ?_
            refine J.gopF rfl ?_
            refine J.gopF rfl ?_
            refine J.gopF rfl ?_
            refine J.op R.pickF ?_ -- @t45 pickS t34 t44 (.bool false)
            have hn : ¬ sameAt a b i k := fun h => by have := h.1; have := h.2.1; omega
            exact J.done ⟨rfl, by simp [hn], rfl⟩ -- @leaf[t45]#2
        · skip
          refine J.gopF rfl ?_
          refine J.gopF rfl ?_
          refine J.gopF rfl ?_
          refine J.gopF rfl ?_
          refine J.op R.pickF ?_ -- @t34 pickS t28 t33 (.bool false)
          refine J.gopF rfl ?_
          refine J.gopF rfl ?_
          refine J.gopF rfl ?_
          refine J.gopF rfl ?_
          refine J.gopF rfl ?_
          refine J.gopF rfl ?_
          refine J.gopF rfl ?_
          refine J.gopF rfl ?_
          refine J.gopF rfl ?_
          refine J.op R.pickF ?_ -- @t45 pickS t34 t44 (.bool false)
          have hn : ¬ sameAt a b i k := fun h => by have := h.1; have := h.2.1; omega
          exact J.done ⟨rfl, by simp [hn], rfl⟩ -- @leaf[t45]#3
      · skip
        -- @ret[(tv_1.headDundef)]
        have hf : fitsE a b e i k := ⟨hab.1, hab.2, .inl ⟨ht24, hbtv_1⟩⟩
        exact J.done (RetQ.e1 (by simp [hf]))
      · skip
        -- @ret[(tv_1.headDundef)]#2
        have hf : ¬ fitsE a b e i k := fun h => by
          obtain ⟨_, _, h⟩ := h
          rcases h with h | h | h
          · exact hbtv_1 h.2
          · have := h.1; omega
          · have := h.1; omega
        exact J.done (RetQ.e1 (by simp [hf]))
    · skip
      refine J.iteF ?_
      refine J.opD R.eql (fun ht47 => ?_) (fun ht47 => ?_) -- @t47 binS .eql 3 (.tmp 22) (.const (.int .i64 1)) t22 (.int .i64 1)
      · skip
        refine J.iteT ?_
        refine J.op (R.lenN sl57 (by first | apply_assumption | exact SeeS.row (by with_reducible repeat (first | exact Pick.here | apply Pick.there))) (by first | exact ints_len | exact bools_len | exact msgs_len | exact trows_len | exact edits_len | rfl)) ?_ -- @t50 bltS .len #[57] 3 #[false] [a0]
        refine J.op R.lss ?_ -- @t51 binS .lss 3 (.tmp 48) (.tmp 50) a3 t50
        -- @ret[t51]
        exact J.done (RetQ.e1 (congrArg Value.bool (decide_eq_decide.2 ⟨fun h => ⟨hab.1, hab.2, .inr (.inl ⟨ht47, by omega⟩)⟩, fun h => by obtain ⟨_, _, h⟩ := h; rcases h with h | h | h <;> omega⟩)))
      · skip
        refine J.iteF ?_
        refine J.opD R.eql (fun ht53 => ?_) (fun ht53 => ?_) -- @t53 binS .eql 3 (.tmp 22) (.const (.int .i64 2)) t22 (.int .i64 2)
        · skip
          refine J.iteT ?_
          refine J.op (R.lenN sl57 (by first | apply_assumption | exact SeeS.row (by with_reducible repeat (first | exact Pick.here | apply Pick.there))) (by first | exact ints_len | exact bools_len | exact msgs_len | exact trows_len | exact edits_len | rfl)) ?_ -- @t56 bltS .len #[57] 3 #[false] [a1]
          refine J.op R.lss ?_ -- @t57 binS .lss 3 (.tmp 54) (.tmp 56) a4 t56
          -- @ret[t57]
          exact J.done (RetQ.e1 (congrArg Value.bool (decide_eq_decide.2 ⟨fun h => ⟨hab.1, hab.2, .inr (.inr ⟨ht53, by omega⟩)⟩, fun h => by obtain ⟨_, _, h⟩ := h; rcases h with h | h | h <;> omega⟩)))
        · skip
          refine J.iteF ?_
          refine J.done ?_ -- then tv_2 = [(.bool false)]
          -- @ret[(.boolfalse)]#2
          have hf : ¬ fitsE a b e i k := fun h => by
            obtain ⟨_, _, h⟩ := h
            rcases h with h | h | h <;> omega
          exact J.done (RetQ.e1 (by simp [hf]))
end Go.Proofs.Ytllchkmggfcdgaa
