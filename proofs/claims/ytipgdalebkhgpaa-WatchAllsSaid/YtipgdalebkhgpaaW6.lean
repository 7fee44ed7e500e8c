/-
  Contracts of functions.
-/
import Derived.Test.YtipgdalebkhgpaaTerms1
import Derived.Test.YtipgdalebkhgpaaTerms2
import Derived.Test.YtipgdalebkhgpaaTab
import Derived.Test.YtipgdalebkhgpaaModWatch4
import Derived.Test.YtipgdalebkhgpaaD1
set_option maxRecDepth 100000
set_option maxHeartbeats 4000000
set_option linter.unusedVariables false
set_option linter.unusedSimpArgs false
namespace Go.Proofs.Ytipgdalebkhgpaa
open Go Go.RowKit Fw
/-- damper/damperlaw07.Light -/
theorem s22 (x y : Value) (c : Cfg) :
    FnE Try.prog 22 [.agg (c.cells x y).toArray] (c.at x y) (.bool (lightC c)) := by
  refine fn_of_J (cx := cx22) hmix Try.func22 (by kernel_rfl) (eq22 _) fun w hw => ?_
  have hX : ∀ H, SeeS ⟨Try.prog, w, footOf []⟩ H x 16 (syms c.syms) := fun H => SeeS.ofW0 hw.1 syms_ne
  have hY : ∀ H, SeeS ⟨Try.prog, w, footOf []⟩ H y 2 (trows c.rows) := fun H => SeeS.ofW0 hw.2 trows_ne
  have hm := hw.1.le
  simp only [syms_len, maxLen] at hm
  have hm2 := hw.2.le
  simp only [trows_len, maxLen] at hm2
  refine J.boxA fun bt1 => ?_
  refine J.bind ?_ -- @tv bind tv ([2])
  refine J.op fa53_0 ?_
  refine J.op (R.ld o48 (by with_reducible repeat (first | exact Pick.here | apply Pick.there)) rfl) ?_ -- @t4 vS (Instr.loadAt 48 t3)
  refine J.op (R.lenN sl48 (hX _) syms_len) ?_ -- @t5 bltS .len #[48] 3 #[false] [t4]
  refine J.opD R.leq (fun ht6 => ?_) (fun ht6 => ?_) -- @t6 binS .leq 3 (.tmp 5) (.const (.int .i64 20)) t5 (.int .i64 20)
  · skip
    refine J.gopT rfl ?_
    refine J.op fa53_1 ?_
    refine J.gopT rfl ?_
    refine J.op (R.ld o49 (by with_reducible repeat (first | exact Pick.here | apply Pick.there)) rfl) ?_ -- @t9 vS (Instr.loadAt 49 t8)
    refine J.gopT rfl ?_
    refine J.op (R.lenN sl49 (hY _) trows_len) ?_ -- @t10 bltS .len #[49] 3 #[false] [t9]
    refine J.gopT rfl ?_
    refine J.op R.leq ?_ -- @t11 binS .leq 3 (.tmp 10) (.const (.int .i64 40)) t10 (.int .i64 40)
    refine J.op R.pickT ?_ -- @t12 pickS t6 t11 (.bool false)
    refine J.done ?_ -- then tv = [t12]
    -- @ret[(tv.headDundef)]
    exact J.done (RetQ.ge (.tmp (.nil)) (by simp only [mkRes, lightC, Value.bool.injEq, List.headD_cons]; first | (rw [decide_eq_true (show c.syms.length ≤ 20 by omega), Bool.true_and]; exact decide_eq_decide.2 (by omega)) | (rw [decide_eq_false (show ¬ c.syms.length ≤ 20 by omega)]; rfl)))
  · skip
    refine J.gopF rfl ?_
    refine J.gopF rfl ?_
    refine J.gopF rfl ?_
    refine J.gopF rfl ?_
    refine J.op R.pickF ?_ -- @t12 pickS t6 t11 (.bool false)
    refine J.done ?_ -- then tv = [t12]
    -- @ret[(tv.headDundef)]
    exact J.done (RetQ.ge (.tmp (.nil)) (by simp only [mkRes, lightC, Value.bool.injEq, List.headD_cons]; first | (rw [decide_eq_true (show c.syms.length ≤ 20 by omega), Bool.true_and]; exact decide_eq_decide.2 (by omega)) | (rw [decide_eq_false (show ¬ c.syms.length ≤ 20 by omega)]; rfl)))

/-- damper/damperlaw32.light -/
theorem s34 (x y lv : Value) (c : Cfg) (l : List Msg) :
    FnE Try.prog 34 [.agg (c.cells x y).toArray, lv] (fun w => c.at x y w ∧ RdS w lv 9 (msgs l)) (.bool (lightW c l)) := by
  refine fn_of_J (cx := cx34) hmix Try.func34 (by kernel_rfl) (eq34 _ _) fun w hw => ?_
  have hL : ∀ H, SeeS ⟨Try.prog, w, footOf []⟩ H lv 9 (msgs l) := fun H => SeeS.ofW0 hw.2 msgs_ne
  have hlm := hw.2.le
  simp only [msgs_len, maxLen] at hlm
  refine J.boxA fun bt2 => ?_
  refine J.bindBH (¬ (lightC c = true ∧ l.length ≤ 120)) ([Ent.cells bt2 (c.cells x y) 53]) ?_ (fun hbtv => ?_) (fun hbtv => ?_) -- @tv
  · skip
    refine J.op (R.ldA ag53 (by with_reducible repeat (first | exact Pick.here | apply Pick.there)) rfl) ?_ -- @t6 vS (Instr.loadAt 53 t2)
    refine J.callEB en22 (s22 x y c) rfl (fun _ _ hs => Cfg.at_stab _ _ hs.ext hw.1) (fun ht7 => ?_) (fun ht7 => ?_) -- @t7 callS (.func (.func 22) #[] #[]) [t6]
    · skip
      refine J.op (v := .bool false) R.not ?_
      refine J.gopT rfl ?_
      refine J.op R.pure ?_
      refine J.gopT rfl ?_
      refine J.op (R.lenN sl22 (hL _) msgs_len) ?_ -- @t11 bltS .len #[22] 3 #[false] [t10]
      refine J.gopT rfl ?_
      refine J.op R.gtr ?_ -- @t12 binS .gtr 3 (.tmp 11) (.const (.int .i64 120)) t11 (.int .i64 120)
      refine J.op R.pickF ?_ -- @t13 pickS t8 (.bool true) t12
      exact J.done ⟨rfl, by first | (simp [ht7]; done) | (simp only [List.cons.injEq, Value.bool.injEq, and_true]; exact decide_eq_decide.2 (by rw [ht7]; constructor; (intro h h2; have := h2.2; omega); (intro h; by_cases h2 : l.length ≤ 120; exact absurd ⟨rfl, h2⟩ h; omega))), Imp.take (by (try dsimp only); repeat (first | exact Has.nil | refine Has.cons (by repeat (first | (with_reducible exact Out.here) | ((with_reducible refine Out.cells ?_); first | rfl | (simp; done)) | ((with_reducible refine Out.row ?_); first | rfl | (simp; done)) | (with_reducible apply Out.there))) ?_))⟩ -- @leaf[t13]
    · skip
      refine J.op (v := .bool true) R.not ?_
      refine J.gopF rfl ?_
      refine J.gopF rfl ?_
      refine J.gopF rfl ?_
      refine J.op R.pickT ?_ -- @t13 pickS t8 (.bool true) t12
      exact J.done ⟨rfl, by first | (simp [ht7]; done) | (simp only [List.cons.injEq, Value.bool.injEq, and_true]; exact decide_eq_decide.2 (by rw [ht7]; constructor; (intro h h2; have := h2.2; omega); (intro h; by_cases h2 : l.length ≤ 120; exact absurd ⟨rfl, h2⟩ h; omega))), Imp.take (by (try dsimp only); repeat (first | exact Has.nil | refine Has.cons (by repeat (first | (with_reducible exact Out.here) | ((with_reducible refine Out.cells ?_); first | rfl | (simp; done)) | ((with_reducible refine Out.row ?_); first | rfl | (simp; done)) | (with_reducible apply Out.there))) ?_))⟩ -- @leaf[t13]
  · skip
    refine J.iteT ?_
    -- @ret[(.boolfalse)]
    exact J.done (RetQ.ge (.tmp (.nil)) (by simp only [mkRes, lightW, Value.bool.injEq]; symm; cases hc : lightC c with
      | false => rfl
      | true => have : ¬ l.length ≤ 120 := fun h => hbtv ⟨hc, h⟩; simp [this]))
  · skip
    refine J.iteF ?_
    refine J.bind ?_ -- @tv_3 bind tv_3 ([4])
    refine J.block ?_
    -- @tx loop [(.bool false), (.int .i64 0)]
    refine J.loopH (α := Nat) (fun i => i ≤ l.length ∧ ∀ j m, j < i → l[j]? = some m → badM m = false) (fun i => [.bool false, .int .i64 i]) (fun i => l.length - i) 0 ⟨Nat.zero_le _, fun j m h => absurd h (Nat.not_lt_zero j)⟩ rfl ?_
    rintro i ⟨hi, hall⟩
    try simp only [List.headD_cons, List.tail_cons]
    refine J.op (R.lenN sl22 (hL _) msgs_len) ?_ -- @t16 bltS .len #[22] 3 #[false] [a1]
    refine J.opD R.lss (fun ht17 => ?_) (fun ht17 => ?_) -- @t17 binS .lss 3 (.tmp 14) (.tmp 16) (tx.tail.headD undef) t16
    · skip
      refine J.iteT ?_
      refine J.bind ?_ -- @tv_2 bind tv_2 ([4])
      refine J.block ?_
      obtain ⟨m, hm⟩ := get_ex (l := l) (i := i) (by omega)
      refine J.bindBH (badM m = true) ([Ent.cells bt2 (c.cells x y) 53]) ?_ (fun hbtv_1 => ?_) (fun hbtv_1 => ?_) -- @tv_1
      · skip
        refine J.ixW sl22 hL (by omega) (msgs_get hm) fun b o hkt22 => ?_ -- @t22 ix a1 (tx.tail.headD undef)
        refine J.op fa46_2 ?_
        refine J.op (R.ldK o2 (hkt22 _) rfl) ?_ -- @t24 vS (Instr.loadAt 2 t23)
        refine J.opD R.lss (fun ht25 => ?_) (fun ht25 => ?_) -- @t25 binS .lss 2 (.tmp 24) (.const (.int .i64 (-1152921504606846976))) t24 (.int .i64 (-1152921504606846976))
        · skip
          refine J.gopF rfl ?_
          refine J.gopF rfl ?_
          refine J.gopF rfl ?_
          refine J.gopF rfl ?_
          refine J.gopF rfl ?_
          refine J.gopF rfl ?_
          refine J.op R.pickT ?_ -- @t33 pickS t25 (.bool true) t32
          refine J.gopF rfl ?_
          refine J.gopF rfl ?_
          refine J.gopF rfl ?_
          refine J.gopF rfl ?_
          refine J.gopF rfl ?_
          refine J.gopF rfl ?_
          refine J.op R.pickT ?_ -- @t41 pickS t33 (.bool true) t40
          refine J.gopF rfl ?_
          refine J.gopF rfl ?_
          refine J.gopF rfl ?_
          refine J.gopF rfl ?_
          refine J.gopF rfl ?_
          refine J.gopF rfl ?_
          refine J.op R.pickT ?_ -- @t49 pickS t41 (.bool true) t48
          refine J.gopF rfl ?_
          refine J.gopF rfl ?_
          refine J.gopF rfl ?_
          refine J.gopF rfl ?_
          refine J.gopF rfl ?_
          refine J.gopF rfl ?_
          refine J.op R.pickT ?_ -- @t57 pickS t49 (.bool true) t56
          exact J.done ⟨rfl, by simp [badM, *], Imp.take (by (try dsimp only); repeat (first | exact Has.nil | refine Has.cons (by repeat (first | (with_reducible exact Out.here) | ((with_reducible refine Out.cells ?_); first | rfl | (simp; done)) | ((with_reducible refine Out.row ?_); first | rfl | (simp; done)) | (with_reducible apply Out.there))) ?_))⟩ -- @leaf[t57]
        · skip
          refine J.gopT rfl ?_
          refine J.op R.pure ?_
          refine J.gopT rfl ?_
          refine J.op R.pure ?_
          refine J.gopT rfl ?_
          refine J.ixW sl22 hL (by omega) (msgs_get hm) fun b o hkt29 => ?_ -- @t29 ix t27 t28
          refine J.gopT rfl ?_
          refine J.op fa46_3 ?_
          refine J.gopT rfl ?_
          refine J.op (R.ldK o2 (hkt29 _) rfl) ?_ -- @t31 vS (Instr.loadAt 2 t30)
          refine J.gopT rfl ?_
          refine J.opD R.lss (fun ht32 => ?_) (fun ht32 => ?_) -- @t32 binS .lss 2 (.tmp 31) (.const (.int .i64 (-1152921504606846976))) t31 (.int .i64 (-1152921504606846976))
          · skip
            refine J.op R.pickF ?_ -- @t33 pickS t25 (.bool true) t32
            refine J.gopF rfl ?_
            refine J.gopF rfl ?_
            refine J.gopF rfl ?_
            refine J.gopF rfl ?_
            refine J.gopF rfl ?_
            refine J.gopF rfl ?_
            refine J.op R.pickT ?_ -- @t41 pickS t33 (.bool true) t40
            refine J.gopF rfl ?_
            refine J.gopF rfl ?_
            refine J.gopF rfl ?_
            refine J.gopF rfl ?_
            refine J.gopF rfl ?_
            refine J.gopF rfl ?_
            refine J.op R.pickT ?_ -- @t49 pickS t41 (.bool true) t48
            refine J.gopF rfl ?_
            refine J.gopF rfl ?_
            refine J.gopF rfl ?_
            refine J.gopF rfl ?_
            refine J.gopF rfl ?_
            refine J.gopF rfl ?_
            refine J.op R.pickT ?_ -- @t57 pickS t49 (.bool true) t56
            exact J.done ⟨rfl, by simp [badM, *], Imp.take (by (try dsimp only); repeat (first | exact Has.nil | refine Has.cons (by repeat (first | (with_reducible exact Out.here) | ((with_reducible refine Out.cells ?_); first | rfl | (simp; done)) | ((with_reducible refine Out.row ?_); first | rfl | (simp; done)) | (with_reducible apply Out.there))) ?_))⟩ -- @leaf[t57]
          · skip
            refine J.op R.pickF ?_ -- @t33 pickS t25 (.bool true) t32
            refine J.gopT rfl ?_
            refine J.op R.pure ?_
            refine J.gopT rfl ?_
            refine J.op R.pure ?_
            refine J.gopT rfl ?_
            refine J.ixW sl22 hL (by omega) (msgs_get hm) fun b o hkt37 => ?_ -- @t37 ix t35 t36
            refine J.gopT rfl ?_
            refine J.op fa46_3 ?_
            refine J.gopT rfl ?_
            refine J.op (R.ldK o2 (hkt37 _) rfl) ?_ -- @t39 vS (Instr.loadAt 2 t38)
            refine J.gopT rfl ?_
            refine J.opD R.gtr (fun ht40 => ?_) (fun ht40 => ?_) -- @t40 binS .gtr 2 (.tmp 39) (.const (.int .i64 1152921504606846976)) t39 (.int .i64 1152921504606846976)
            · skip
              refine J.op R.pickF ?_ -- @t41 pickS t33 (.bool true) t40
              refine J.gopF rfl ?_
              refine J.gopF rfl ?_
              refine J.gopF rfl ?_
              refine J.gopF rfl ?_
              refine J.gopF rfl ?_
              refine J.gopF rfl ?_
              refine J.op R.pickT ?_ -- @t49 pickS t41 (.bool true) t48
              refine J.gopF rfl ?_
              refine J.gopF rfl ?_
              refine J.gopF rfl ?_
              refine J.gopF rfl ?_
              refine J.gopF rfl ?_
              refine J.gopF rfl ?_
              refine J.op R.pickT ?_ -- @t57 pickS t49 (.bool true) t56
              exact J.done ⟨rfl, by simp [badM, *], Imp.take (by (try dsimp only); repeat (first | exact Has.nil | refine Has.cons (by repeat (first | (with_reducible exact Out.here) | ((with_reducible refine Out.cells ?_); first | rfl | (simp; done)) | ((with_reducible refine Out.row ?_); first | rfl | (simp; done)) | (with_reducible apply Out.there))) ?_))⟩ -- @leaf[t57]
            · skip
              refine J.op R.pickF ?_ -- @t41 pickS t33 (.bool true) t40
              refine J.gopT rfl ?_
              refine J.op R.pure ?_
              refine J.gopT rfl ?_
              refine J.op R.pure ?_
              refine J.gopT rfl ?_
              refine J.ixW sl22 hL (by omega) (msgs_get hm) fun b o hkt45 => ?_ -- @t45 ix t43 t44
              refine J.gopT rfl ?_
              refine J.op fa46_7 ?_
              refine J.gopT rfl ?_
              refine J.op (R.ldK o2 (hkt45 _) rfl) ?_ -- @t47 vS (Instr.loadAt 2 t46)
              refine J.gopT rfl ?_
              refine J.opD R.lss (fun ht48 => ?_) (fun ht48 => ?_) -- @t48 binS .lss 2 (.tmp 47) (.const (.int .i64 (-1125899906842624))) t47 (.int .i64 (-1125899906842624))
              · skip
                refine J.op R.pickF ?_ -- @t49 pickS t41 (.bool true) t48
                refine J.gopF rfl ?_
                refine J.gopF rfl ?_
                refine J.gopF rfl ?_
                refine J.gopF rfl ?_
                refine J.gopF rfl ?_
                refine J.gopF rfl ?_
                refine J.op R.pickT ?_ -- @t57 pickS t49 (.bool true) t56
                exact J.done ⟨rfl, by simp [badM, *], Imp.take (by (try dsimp only); repeat (first | exact Has.nil | refine Has.cons (by repeat (first | (with_reducible exact Out.here) | ((with_reducible refine Out.cells ?_); first | rfl | (simp; done)) | ((with_reducible refine Out.row ?_); first | rfl | (simp; done)) | (with_reducible apply Out.there))) ?_))⟩ -- @leaf[t57]
              · skip
                refine J.op R.pickF ?_ -- @t49 pickS t41 (.bool true) t48
                refine J.gopT rfl ?_
                refine J.op R.pure ?_
                refine J.gopT rfl ?_
                refine J.op R.pure ?_
                refine J.gopT rfl ?_
                refine J.ixW sl22 hL (by omega) (msgs_get hm) fun b o hkt53 => ?_ -- @t53 ix t51 t52
                refine J.gopT rfl ?_
                refine J.op fa46_7 ?_
                refine J.gopT rfl ?_
                refine J.op (R.ldK o2 (hkt53 _) rfl) ?_ -- @t55 vS (Instr.loadAt 2 t54)
                refine J.gopT rfl ?_
                refine J.op R.gtr ?_ -- @t56 binS .gtr 2 (.tmp 55) (.const (.int .i64 1125899906842624)) t55 (.int .i64 1125899906842624)
                refine J.op R.pickF ?_ -- @t57 pickS t49 (.bool true) t56
                exact J.done ⟨rfl, by simp [badM, *], Imp.take (by (try dsimp only); repeat (first | exact Has.nil | refine Has.cons (by repeat (first | (with_reducible exact Out.here) | ((with_reducible refine Out.cells ?_); first | rfl | (simp; done)) | ((with_reducible refine Out.row ?_); first | rfl | (simp; done)) | (with_reducible apply Out.there))) ?_))⟩ -- @leaf[t57]
      · skip
        refine J.iteT ?_
        -- @ret[(.boolfalse)]#2
        exact J.done (RetQ.ge (.tmp (.nil)) (by rw [lightW_bad hm hbtv_1]; rfl))
      · skip
        refine J.iteF ?_
        refine J.done ?_ -- then tv_2 = [(tx.headD undef)]
        refine J.op (R.add64 (by omega)) ?_ -- @t19 binS .add 3 (.tmp 18) (.const (.int .i64 1)) (tx.tail.headD undef) (.int .i64 1)
        -- @again[(tv_2.headDundef),t19]
        refine J.done ⟨i + 1, ⟨by omega, fun j y hj hjt => ?_⟩, rfl, Imp.take (by (try dsimp only); repeat (first | exact Has.nil | refine Has.cons (by repeat (first | (with_reducible exact Out.here) | ((with_reducible refine Out.cells ?_); first | rfl | (simp; done)) | ((with_reducible refine Out.row ?_); first | rfl | (simp; done)) | (with_reducible apply Out.there))) ?_)), by omega⟩
        rcases Nat.lt_succ_iff_lt_or_eq.1 hj with hj | rfl
        · exact hall j y hj hjt
        · rw [hm] at hjt; cases hjt; exact Bool.eq_false_iff.2 hbtv_1
    · skip
      refine J.iteF ?_
      refine J.done ⟨fun _ => ?_, fun h => absurd rfl h⟩ -- exit [(tx.headD undef)]
      -- @ret[(.booltrue)]
      exact J.done (RetQ.ge (.tmp (.nil)) (by have hh := Classical.not_not.1 hbtv; rw [lightW_ok hh.1 hh.2 (fun j m hj => hall j m (by omega))]; rfl))

/-- damper/watch.All -/
theorem s45 (xa ya : Option Addr) (xn xc yn yc : Nat) (lv : Value) (c : Cfg) (l : List Msg) (hll : l.length ≤ 120) (hok : ∀ m, m ∈ l → m.ok) :
    FnE Try.prog 45 [.agg (c.cells (.slice xa xn xc) (.slice ya yn yc)).toArray, lv] (fun w => c.at (.slice xa xn xc) (.slice ya yn yc) w ∧ RdS w lv 9 (msgs l)) (.tuple #[.int .i64 (allR c l).1, .int .i64 (allR c l).2]) := by
  refine fn_of_J (cx := cx45) hmix Try.func45 (by kernel_rfl) (eq45 _ _) fun w hw => ?_
  have hL : ∀ H, SeeS ⟨Try.prog, w, footOf []⟩ H lv 9 (msgs l) := fun H => SeeS.ofW0 hw.2 msgs_ne
  refine J.boxA fun bt2 => ?_
  refine J.op (R.ldA ag53 (by with_reducible repeat (first | exact Pick.here | apply Pick.there)) rfl) ?_ -- @t13 vS (Instr.loadAt 53 t2)
  by_cases hc : (cfgFault c).1 = 0 -- J.callEB -- @t14 callS (.func (.func 36) #[] #[]) [t13]
  · refine J.callT en36 (New_ok hc) rfl (fun _ _ hs => Cfg.at_stab _ _ hs.ext hw.1) Take.nil (fun v es hv => ?_)
    obtain ⟨bw, g, n, cc, rfl, rfl⟩ := hv
    simp only [List.cons_append, List.nil_append, WatH]
    refine J.op (R.ext rfl) ?_ -- @t15 vS (Instr.extract t14 0)
    refine J.op (R.ext rfl) ?_ -- @t16 vS (Instr.extract t14 1)
    refine J.opDF R.neq (by simp) ?_ -- @t18
    refine J.iteF ?_
    refine J.op (R.lenN sl22 (hL _) msgs_len) ?_ -- @t23 bltS .len #[22] 3 #[false] [a1]
    refine J.bind ?_ -- @tv_1 bind tv_1 ([4, 5])
    refine J.block ?_
    -- @tx loop [(.int .i64 0), (.int .i64 0), (.int .i64 0)]
    refine J.loop (α := Nat × Wst) (fun (i, st) => i ≤ l.length ∧ allW (newW c) l 0 = allW st (l.drop i) i) (fun (i, _) => [.int .i64 0, .int .i64 0, .int .i64 i]) (fun (i, st) => [Ent.cells bw [.slice (some ⟨g, 0, none⟩) n cc, .int .i64 st.seq, .int .i64 st.tick] 143, Ent.row (.slice (some ⟨g, 0, none⟩) n cc) 26 (wks st.l) 145, Ent.cells bt2 (c.cells (.slice xa xn xc) (.slice ya yn yc)) 53]) (fun (i, _) => l.length - i) (0, newW c) ⟨Nat.zero_le _, rfl⟩ rfl (Imp.take (by (try dsimp only); repeat (first | exact Has.nil | refine Has.cons (by repeat (first | (with_reducible exact Out.here) | ((with_reducible refine Out.cells ?_); first | rfl | (simp; done)) | ((with_reducible refine Out.row ?_); first | rfl | (simp; done)) | (with_reducible apply Out.there))) ?_))) ?_
    rintro ⟨i, st⟩ ⟨hi, hall⟩
    dsimp only at hi hall ⊢
    try simp only [List.headD_cons, List.tail_cons]
    refine J.opD R.lss (fun ht25 => ?_) (fun ht25 => ?_) -- @t25 binS .lss 3 (.tmp 24) (.tmp 23) (tx.tail.tail.headD undef) t23
    · skip
      refine J.iteT ?_
      refine J.bind ?_ -- @tv bind tv ([4, 5])
      refine J.block ?_
      obtain ⟨m, hm⟩ := get_ex (l := l) (i := i) (by omega)
      refine J.ixW sl22 hL (by omega) (msgs_get hm) fun b o hkt27 => ?_ -- @t27 ix a1 (tx.tail.tail.headD undef)
      refine J.op (R.ldKA ag46 (hkt27 _) rfl) ?_ -- @t28 vS (Instr.loadAt 46 t27)
      refine J.alloc z46 fun bt10 => ?_
      refine J.stW sz46 (by with_reducible repeat (first | exact Pick.here | apply Pick.there)) rfl rfl rfl ?_ -- @tu uS (Instr.storeAt 46 t10 t28)
      refine J.op (R.ldA ag46 (by with_reducible repeat (first | exact Pick.here | apply Pick.there)) rfl) ?_ -- @t30 vS (Instr.loadAt 46 t10)
      refine J.callT en38 (s38 bw g n cc st m (hok m (List.mem_of_getElem? hm))) rfl (fun _ _ _ => trivial) (Take.cons (by (try dsimp only); repeat (first | (with_reducible exact Out.here) | ((with_reducible refine Out.cells ?_); first | rfl | (simp; done)) | ((with_reducible refine Out.row ?_); first | rfl | (simp; done)) | (with_reducible apply Out.there))) (Take.cons (by (try dsimp only); repeat (first | (with_reducible exact Out.here) | ((with_reducible refine Out.cells ?_); first | rfl | (simp; done)) | ((with_reducible refine Out.row ?_); first | rfl | (simp; done)) | (with_reducible apply Out.there))) Take.nil)) (fun v es hv => ?_)
      obtain ⟨rfl, rfl⟩ := hv
      simp only [List.cons_append, List.nil_append, WatH] -- @t31 callS (.func (.func 38) #[t15] #[]) [t30]
      refine J.opD R.neq (fun ht33 => ?_) (fun ht33 => ?_) -- @t33 binS .neq 25 (.tmp 32) (.const (.int .i64 0)) t31 (.int .i64 0)
      · skip
        refine J.iteT ?_
        -- @ret[(tx.tail.tail.headDundef),t31]
        exact J.done (RetQ.ge (.tmp (.tmp (.nil))) (by rw [show allR c l = _ from if_pos hc, hall, allW_bad hm ht33]; rfl))
      · skip
        refine J.iteF ?_
        refine J.done ?_ -- then tv = [(tx.headD undef), (tx.tail.headD undef)]
        refine J.op (R.add64 (by omega)) ?_ -- @t36 binS .add 3 (.tmp 24) (.const (.int .i64 1)) (tx.tail.tail.headD undef) (.int .i64 1)
        -- @again[(tv.headDundef),(tv.tail.headDundef),t36]
        exact J.done ⟨(i + 1, putW st m), ⟨by dsimp only; omega, by dsimp only; rw [hall, allW_next hm (Classical.not_not.1 ht33)]⟩, rfl, Imp.take (by (try dsimp only); repeat (first | exact Has.nil | refine Has.cons (by repeat (first | (with_reducible exact Out.here) | ((with_reducible refine Out.cells ?_); first | rfl | (simp; done)) | ((with_reducible refine Out.row ?_); first | rfl | (simp; done)) | (with_reducible apply Out.there))) ?_)), by dsimp only; omega⟩
    · skip
      refine J.iteF ?_
      refine J.done ⟨fun _ => ?_, fun h => absurd rfl h⟩ -- exit [(tx.headD undef), (tx.tail.headD undef)]
      refine J.op (R.lenN sl22 (hL _) msgs_len) ?_ -- @t38 bltS .len #[22] 3 #[false] [a1]
      -- @ret[t38,(.int.i640)]
      obtain rfl : i = l.length := by omega
      exact J.done (RetQ.ge (.tmp (.tmp .nil)) (by rw [show allR c l = _ from if_pos hc, hall, List.drop_length]; rfl))
  · refine J.callT en36 (New_bad hc) rfl (fun _ _ hs => Cfg.at_stab _ _ hs.ext hw.1) Take.nil (fun v es hv => ?_)
    obtain ⟨rfl, rfl⟩ := hv
    simp only [List.cons_append, List.nil_append]
    refine J.op (R.ext rfl) ?_ -- @t15 vS (Instr.extract t14 0)
    refine J.op (R.ext rfl) ?_ -- @t16 vS (Instr.extract t14 1)
    refine J.opDT R.neq (by exact hc) ?_ -- @t18#2
    refine J.iteT ?_
    -- @ret[(.int.i64(-1)),t16]
    exact J.done (RetQ.ge (.tmp (.tmp (.nil))) (by simp [mkRes, allR, hc]))

/-- damper/damperref32.All -/
theorem s46 (xa ya : Option Addr) (xn xc yn yc : Nat) (lv : Value) (c : Cfg) (l : List Msg) (hll : l.length ≤ 120) (hok : ∀ m, m ∈ l → m.ok) (hsq : ∀ m, m ∈ l → -1152921504606846976 ≤ m.seq) :
    FnE Try.prog 46 [.agg (c.cells (.slice xa xn xc) (.slice ya yn yc)).toArray, lv] (fun w => c.at (.slice xa xn xc) (.slice ya yn yc) w ∧ RdS w lv 9 (msgs l)) (.tuple #[.int .i64 (allR c l).1, .int .i64 (allR c l).2]) := by
  refine fn_of_J (cx := cx46) hmix Try.func46 (by kernel_rfl) (eq46 _ _) fun w hw => ?_
  have hL : ∀ H, SeeS ⟨Try.prog, w, footOf []⟩ H lv 9 (msgs l) := fun H => SeeS.ofW0 hw.2 msgs_ne
  have hRX : RdF w (.slice xa xn xc) 16 (syms c.syms) (footOf []) := RdF.base hw.1.1
  refine J.boxA fun bt2 => ?_
  refine J.op (R.ldA ag53 (by with_reducible repeat (first | exact Pick.here | apply Pick.there)) rfl) ?_ -- @t11 vS (Instr.loadAt 53 t2)
  by_cases hc : (cfgFault c).1 = 0 -- J.callEB -- @t12 callS (.func (.func 37) #[] #[]) [t11]
  · refine J.callT en37 (Ref_ok hc) rfl (fun _ _ hs => Cfg.at_stab _ _ hs.ext hw.1) Take.nil (fun v es hv => ?_)
    obtain ⟨br, gr, nr, cr, rfl, rfl⟩ := hv
    simp only [List.cons_append, List.nil_append, RatH]
    refine J.op (R.ext rfl) ?_ -- @t13 vS (Instr.extract t12 0)
    refine J.op (R.ext rfl) ?_ -- @t14 vS (Instr.extract t12 1)
    refine J.opDF R.neq (by simp) ?_ -- @t16
    refine J.iteF ?_
    refine J.bind ?_ -- @tv_1 bind tv_1 ([4, 5])
    refine J.block ?_
    -- @tx loop [(.int .i64 0), (.int .i64 0), (.int .i64 0)]
    refine J.loop (α := Nat × Wst) (fun (i, st) => i ≤ l.length ∧ allW (newW c) l 0 = allW st (l.drop i) i ∧ 0 ≤ st.seq ∧ st.seq ≤ i ∧ st.l.map Wk.s = c.syms) (fun (i, _) => [.int .i64 0, .int .i64 0, .int .i64 i]) (fun (i, st) => [Ent.cells br (c.cells (.slice xa xn xc) (.slice ya yn yc) ++ [.slice (some ⟨gr, 0, none⟩) nr cr, .int .i64 st.seq, .int .i64 st.tick]) 83, Ent.row (.slice (some ⟨gr, 0, none⟩) nr cr) 10 (kns st.l) 88, Ent.cells bt2 (c.cells (.slice xa xn xc) (.slice ya yn yc)) 53]) (fun (i, _) => l.length - i) (0, newW c) ⟨Nat.zero_le _, rfl, Int.le_refl _, Int.le_refl _, new_syms⟩ rfl (Imp.take (by (try dsimp only); repeat (first | exact Has.nil | refine Has.cons (by repeat (first | (with_reducible exact Out.here) | ((with_reducible refine Out.cells ?_); first | rfl | (simp; done)) | ((with_reducible refine Out.row ?_); first | rfl | (simp; done)) | (with_reducible apply Out.there))) ?_))) ?_
    rintro ⟨i, st⟩ ⟨hi, hall, hq0, hq1, hsy⟩
    dsimp only at hi hall hq0 hq1 hsy ⊢
    try simp only [List.headD_cons, List.tail_cons]
    refine J.op (R.lenN sl22 (hL _) msgs_len) ?_ -- @t20 bltS .len #[22] 3 #[false] [a1]
    refine J.opD R.lss (fun ht21 => ?_) (fun ht21 => ?_) -- @t21 binS .lss 3 (.tmp 18) (.tmp 20) (tx.tail.tail.headD undef) t20
    · skip
      refine J.iteT ?_
      refine J.bind ?_ -- @tv bind tv ([4, 5])
      refine J.block ?_
      obtain ⟨m, hm⟩ := get_ex (l := l) (i := i) (by omega)
      have hmm := List.mem_of_getElem? hm
      refine J.ixW sl22 hL (by omega) (msgs_get hm) fun b o hkt27 => ?_ -- @t27 ix a1 (tx.tail.tail.headD undef)
      refine J.op (R.ldKA ag46 (hkt27 _) rfl) ?_ -- @t28 vS (Instr.loadAt 46 t27)
      refine J.callT en39 (s39 br gr nr cr st (.slice xa xn xc) (.slice ya yn yc) c m (hok m hmm) ⟨hq0, by omega⟩ (hsq m hmm) hsy) rfl (fun _ _ hs => RdF.arg hRX syms_ne hs (by simp)) (Take.cons (by (try dsimp only); repeat (first | (with_reducible exact Out.here) | ((with_reducible refine Out.cells ?_); first | rfl | (simp; done)) | ((with_reducible refine Out.row ?_); first | rfl | (simp; done)) | (with_reducible apply Out.there))) (Take.cons (by (try dsimp only); repeat (first | (with_reducible exact Out.here) | ((with_reducible refine Out.cells ?_); first | rfl | (simp; done)) | ((with_reducible refine Out.row ?_); first | rfl | (simp; done)) | (with_reducible apply Out.there))) Take.nil)) (fun v es hv => ?_)
      obtain ⟨rfl, rfl⟩ := hv
      simp only [List.cons_append, List.nil_append, RatH]
      have hpq := putW_seq (m := m) (B := i) ⟨hq0, hq1⟩ (by omega) -- @t29 callS (.func (.func 39) #[] #[]) [t13, t28]
      refine J.opD R.neq (fun ht31 => ?_) (fun ht31 => ?_) -- @t31 binS .neq 25 (.tmp 30) (.const (.int .i64 0)) t29 (.int .i64 0)
      · skip
        refine J.iteT ?_
        -- @ret[(tx.tail.tail.headDundef),t29]
        exact J.done (RetQ.ge (.tmp (.tmp (.nil))) (by rw [show allR c l = _ from if_pos hc, hall, allW_bad hm ht31]; rfl))
      · skip
        refine J.iteF ?_
        refine J.done ?_ -- then tv = [(tx.headD undef), (tx.tail.headD undef)]
        refine J.op (R.add64 (by omega)) ?_ -- @t23 binS .add 3 (.tmp 22) (.const (.int .i64 1)) (tx.tail.tail.headD undef) (.int .i64 1)
        -- @again[(tv.headDundef),(tv.tail.headDundef),t23]
        exact J.done ⟨(i + 1, putW st m), ⟨by dsimp only; omega, by dsimp only; rw [hall, allW_next hm (Classical.not_not.1 ht31)], hpq.1, by dsimp only; omega, by dsimp only; rw [putW_syms]; exact hsy⟩, rfl, Imp.take (by (try dsimp only); repeat (first | exact Has.nil | refine Has.cons (by repeat (first | (with_reducible exact Out.here) | ((with_reducible refine Out.cells ?_); first | rfl | (simp; done)) | ((with_reducible refine Out.row ?_); first | rfl | (simp; done)) | (with_reducible apply Out.there))) ?_)), by dsimp only; omega⟩
    · skip
      refine J.iteF ?_
      refine J.done ⟨fun _ => ?_, fun h => absurd rfl h⟩ -- exit [(tx.headD undef), (tx.tail.headD undef)]
      refine J.op (R.lenN sl22 (hL _) msgs_len) ?_ -- @t35 bltS .len #[22] 3 #[false] [a1]
      -- @ret[t35,(.int.i640)]
      obtain rfl : i = l.length := by omega
      exact J.done (RetQ.ge (.tmp (.tmp .nil)) (by rw [show allR c l = _ from if_pos hc, hall, List.drop_length]; rfl))
  · refine J.callT en37 (Ref_bad hc) rfl (fun _ _ hs => Cfg.at_stab _ _ hs.ext hw.1) Take.nil (fun v es hv => ?_)
    obtain ⟨rfl, rfl⟩ := hv
    simp only [List.cons_append, List.nil_append]
    refine J.op (R.ext rfl) ?_ -- @t13 vS (Instr.extract t12 0)
    refine J.op (R.ext rfl) ?_ -- @t14 vS (Instr.extract t12 1)
    refine J.opDT R.neq (by exact hc) ?_ -- @t16#2
    refine J.iteT ?_
    -- @ret[(.int.i64(-1)),t14]
    exact J.done (RetQ.ge (.tmp (.tmp (.nil))) (by simp [mkRes, allR, hc]))

/-- damper/damperlaw32.alive -/
theorem s35  :
    FnE Try.prog 35 [] (fun _ => True) (.bool true) := by
  refine fn_of_J (cx := cx35) hmix Try.func35 (by kernel_rfl) (eq35) fun w hw => ?_
  refine J.callT en57 (s57 1 (by decide)) rfl (fun _ _ _ => trivial) Take.nil (fun v es hv => ?_)
  obtain ⟨a, m, c, g0, rfl, rfl⟩ := hv
  simp only [List.cons_append, List.nil_append]
  rw [show List.replicate 1 plainSym.cells = syms plainCfg.syms from rfl] -- @t6 callS (.func (.func 57) #[] #[]) [(.int .i64 1)]
  refine J.callT en36 (New_ok (x := .slice a m c) (y := .slice (some ⟨g0, 0, none⟩) 3 3) (c := plainCfg) plain_ok) rfl (fun _ _ hs => ⟨SeeS.row (by with_reducible repeat (first | exact Pick.here | apply Pick.there)) _ _ hs, SeeS.cells (els := trows plainRows) (by with_reducible repeat (first | exact Pick.here | apply Pick.there)) rfl (by decide) (by intro i l hi j u hj; rcases i with _ | _ | _ | i <;> simp [trows, plainRows] at hi <;> subst hi <;> rcases j with _ | _ | j <;> simp [TRow.cells] at hj <;> subst hj <;> rfl) _ _ hs⟩) Take.nil (fun v es hv => ?_)
  obtain ⟨bw, g, n, cc, rfl, rfl⟩ := hv
  simp only [List.cons_append, List.nil_append, WatH] -- @t7 callS (.func (.func 36) #[] #[]) [t6]
  refine J.op (R.ext rfl) ?_ -- @t8 vS (Instr.extract t7 0)
  refine J.op (R.ext rfl) ?_ -- @t9 vS (Instr.extract t7 1)
  refine J.op bd46_0_2_3_8 ?_ -- @t11 vS (Instr.build 46 #[(0, (.int .i64 6)), (2, (.int .i64 1)), (3, (.int .i64 3)), (8, (.int .i64 3))])
  refine J.callT en38 (s38 bw g n cc (newW plainCfg) plainM1 ⟨by unfold i64R; decide, by unfold i64R; decide, by unfold i64R; decide, by unfold i64R; decide, by unfold i64R; decide⟩) rfl (fun _ _ _ => trivial) (Take.cons (by (try dsimp only); repeat (first | (with_reducible exact Out.here) | ((with_reducible refine Out.cells ?_); first | rfl | (simp; done)) | ((with_reducible refine Out.row ?_); first | rfl | (simp; done)) | (with_reducible apply Out.there))) (Take.cons (by (try dsimp only); repeat (first | (with_reducible exact Out.here) | ((with_reducible refine Out.cells ?_); first | rfl | (simp; done)) | ((with_reducible refine Out.row ?_); first | rfl | (simp; done)) | (with_reducible apply Out.there))) Take.nil)) (fun v es hv => ?_)
  obtain ⟨rfl, rfl⟩ := hv
  simp only [List.cons_append, List.nil_append, WatH]
  rw [plain_ck1] -- @t12 callS (.func (.func 38) #[] #[]) [t8, t11]
  refine J.op bd46_0_2_3_7_6_8 ?_ -- @t14 vS (Instr.build 46 #[(0, (.int .i64 3)), (2, (.int .i64 2)), (3, (.int .i64 3)), (7, (.int .i64 1)), (6, (.int .i64 1000)), (8, (.int .i64 1))])
  refine J.callT en38 (s38 bw g n cc (putW (newW plainCfg) plainM1) plainM2 ⟨by unfold i64R; decide, by unfold i64R; decide, by unfold i64R; decide, by unfold i64R; decide, by unfold i64R; decide⟩) rfl (fun _ _ _ => trivial) (Take.cons (by (try dsimp only); repeat (first | (with_reducible exact Out.here) | ((with_reducible refine Out.cells ?_); first | rfl | (simp; done)) | ((with_reducible refine Out.row ?_); first | rfl | (simp; done)) | (with_reducible apply Out.there))) (Take.cons (by (try dsimp only); repeat (first | (with_reducible exact Out.here) | ((with_reducible refine Out.cells ?_); first | rfl | (simp; done)) | ((with_reducible refine Out.row ?_); first | rfl | (simp; done)) | (with_reducible apply Out.there))) Take.nil)) (fun v es hv => ?_)
  obtain ⟨rfl, rfl⟩ := hv
  simp only [List.cons_append, List.nil_append, WatH]
  rw [plain_ck2] -- @t15 callS (.func (.func 38) #[] #[]) [t8, t14]
  refine J.bind ?_ -- @tv bind tv ([0])
  refine J.opDT R.eql (by rfl) ?_ -- @t17
  refine J.gopT rfl ?_
  refine J.op R.pure ?_
  refine J.gopT rfl ?_
  refine J.opDT R.eql (by rfl) ?_ -- @t20
  refine J.op R.pickT ?_ -- @t21 pickS t17 t20 (.bool false)
  refine J.gopT rfl ?_
  refine J.op R.pure ?_
  refine J.gopT rfl ?_
  refine J.opDT R.eql (by rfl) ?_ -- @t24
  refine J.op R.pickT ?_ -- @t25 pickS t21 t24 (.bool false)
  refine J.gopT rfl ?_
  refine J.op R.pure ?_
  refine J.gopT rfl ?_
  refine J.callE en41 (s41 bw g n cc _ 0) rfl (fun _ _ hs => ⟨Blk.of (by with_reducible repeat (first | exact Pick.here | apply Pick.there)) hs, SeeS.row (by with_reducible repeat (first | exact Pick.here | apply Pick.there)) _ _ hs⟩) ?_
  rw [plain_ph] -- @t28 callS (.func (.func 41) #[] #[]) [t27, (.int .i64 0)]
  refine J.gopT rfl ?_
  refine J.opDT R.eql (by rfl) ?_ -- @t29
  refine J.op R.pickT ?_ -- @t30 pickS t25 t29 (.bool false)
  refine J.gopT rfl ?_
  refine J.op R.pure ?_
  refine J.gopT rfl ?_
  refine J.callE en43 (s43 bw g n cc _ 0) rfl (fun _ _ hs => ⟨Blk.of (by with_reducible repeat (first | exact Pick.here | apply Pick.there)) hs, SeeS.row (by with_reducible repeat (first | exact Pick.here | apply Pick.there)) _ _ hs⟩) ?_
  rw [plain_dl] -- @t33 callS (.func (.func 43) #[] #[]) [t32, (.int .i64 0)]
  refine J.gopT rfl ?_
  refine J.opDT R.eql (by rfl) ?_ -- @t34
  refine J.op R.pickT ?_ -- @t35 pickS t30 t34 (.bool false)
  refine J.done ?_ -- then tv = [t35]
  -- @ret[(tv.headDundef)]
  exact J.done (RetQ.ge (.tmp (.nil)) (by first | rfl | (simp [mkRes, *]; done) | (simp_all [mkRes]; done) | (simp_all [mkRes]; first | omega | (rw [decide_eq_false_iff_not]; omega) | (rw [decide_eq_true_iff]; omega)) | (simp only [mkRes]; (repeat' split) <;> first | rfl | omega | (simp_all; done) | (simp_all; omega))))

/-- damper/damperlaw32.WatchNils -/
theorem s9 (m : Msg) :
    FnE Try.prog 9 [.agg m.cells.toArray] (fun _ => True) (.bool true) := by
  refine fn_of_J (cx := cx9) hmix Try.func9 (by kernel_rfl) (eq9 _) fun w hw => ?_
  refine J.boxA fun bt1 => ?_
  refine J.bind ?_ -- @tv bind tv ([2])
  refine J.op (R.ldA ag46 (by with_reducible repeat (first | exact Pick.here | apply Pick.there)) rfl) ?_ -- @t5 vS (Instr.loadAt 46 t1)
  refine J.callE en38 (s38nil m) rfl (fun _ _ _ => trivial) ?_ -- @t6 callS (.func (.func 38) #[] #[]) [(.pointer none), t5]
  refine J.opDT R.eql (by rfl) ?_ -- @t7
  refine J.gopT rfl ?_
  refine J.op R.pure ?_
  refine J.gopT rfl ?_
  refine J.callE en41 (s41nil 0) rfl (fun _ _ _ => trivial) ?_ -- @t10 callS (.func (.func 41) #[] #[]) [t9, (.int .i64 0)]
  refine J.gopT rfl ?_
  refine J.opDT R.eql (by rfl) ?_ -- @t11
  refine J.op R.pickT ?_ -- @t12 pickS t7 t11 (.bool false)
  refine J.gopT rfl ?_
  refine J.op R.pure ?_
  refine J.gopT rfl ?_
  refine J.callE en42 (s42nil 0) rfl (fun _ _ _ => trivial) ?_ -- @t15 callS (.func (.func 42) #[] #[]) [t14, (.int .i64 0)]
  refine J.gopT rfl ?_
  refine J.op bd85 ?_ -- @t16 vS (Instr.build 85 #[])
  refine J.gopT rfl ?_
  refine J.opDT (R.eqA gt85 (by repeat (first | exact trivial | refine ⟨⟨_, rfl⟩, ?_⟩)) (by repeat (first | exact trivial | refine ⟨⟨_, rfl⟩, ?_⟩))) (by rfl) ?_ -- @t17
  refine J.op R.pickT ?_ -- @t18 pickS t12 t17 (.bool false)
  refine J.gopT rfl ?_
  refine J.op R.pure ?_
  refine J.gopT rfl ?_
  refine J.callE en43 (s43nil 0) rfl (fun _ _ _ => trivial) ?_ -- @t21 callS (.func (.func 43) #[] #[]) [t20, (.int .i64 0)]
  refine J.gopT rfl ?_
  refine J.opDT R.eql (by rfl) ?_ -- @t22
  refine J.op R.pickT ?_ -- @t23 pickS t18 t22 (.bool false)
  refine J.gopT rfl ?_
  refine J.op R.pure ?_
  refine J.gopT rfl ?_
  refine J.callE en44 (s44nil 0) rfl (fun _ _ _ => trivial) ?_ -- @t26 callS (.func (.func 44) #[] #[]) [t25, (.int .i64 0)]
  refine J.gopT rfl ?_
  refine J.op bd86 ?_ -- @t27 vS (Instr.build 86 #[])
  refine J.gopT rfl ?_
  refine J.op (R.eq4 ar86 (by kernel_rfl) (by kernel_rfl)) ?_ -- @t28
  refine J.op R.pickT ?_ -- @t29 pickS t23 t28 (.bool false)
  refine J.gopT rfl ?_
  refine J.callE en35 (s35) rfl (fun _ _ _ => trivial) ?_ -- @t31 callS (.func (.func 35) #[] #[]) []
  refine J.op R.pickT ?_ -- @t32 pickS t29 t31 (.bool false)
  refine J.done ?_ -- then tv = [t32]
  -- @ret[(tv.headDundef)]
  exact J.done (RetQ.ge (.tmp (.nil)) (by first | rfl | (simp [mkRes, *]; done) | (simp_all [mkRes]; done) | (simp_all [mkRes]; first | omega | (rw [decide_eq_false_iff_not]; omega) | (rw [decide_eq_true_iff]; omega)) | (simp only [mkRes]; (repeat' split) <;> first | rfl | omega | (simp_all; done) | (simp_all; omega))))

/-- damper/damperlaw32.WatchAlls -/
theorem s10 (xa ya : Option Addr) (xn xc yn yc : Nat) (lv : Value) (c : Cfg) (l : List Msg) (hok : ∀ m, m ∈ l → m.ok) :
    FnE Try.prog 10 [.agg (c.cells (.slice xa xn xc) (.slice ya yn yc)).toArray, lv] (fun w => c.at (.slice xa xn xc) (.slice ya yn yc) w ∧ RdS w lv 9 (msgs l)) (.bool true) := by
  refine fn_of_J (cx := cx10) hmix Try.func10 (by kernel_rfl) (eq10 _ _) fun w hw => ?_
  refine J.boxA fun bt2 => ?_
  refine J.op (R.ldA ag53 (by with_reducible repeat (first | exact Pick.here | apply Pick.there)) rfl) ?_ -- @t9 vS (Instr.loadAt 53 t2)
  refine J.callEB en34 (s34 _ _ lv c l) rfl (fun _ _ hs => ⟨Cfg.at_stab _ _ hs.ext hw.1, Stab.rd msgs_ne _ _ hs.ext hw.2⟩) (fun ht11 => ?_) (fun ht11 => ?_) -- @t11 callS (.func (.func 34) #[] #[]) [t9, a1]
  · skip
    refine J.op (v := .bool false) R.not ?_
    refine J.iteF ?_
    refine J.op (R.ldA ag53 (by with_reducible repeat (first | exact Pick.here | apply Pick.there)) rfl) ?_ -- @t15 vS (Instr.loadAt 53 t2)
    obtain ⟨hll, hsq⟩ := lightW_inv ht11
    have hsq2 : ∀ m, m ∈ l → -1152921504606846976 ≤ m.seq := fun m hm => by
      obtain ⟨j, hj⟩ := List.getElem?_of_mem hm
      exact hsq j m hj
    refine J.callE en45 (s45 _ _ _ _ _ _ lv c l hll hok) rfl (fun _ _ hs => ⟨Cfg.at_stab _ _ hs.ext hw.1, Stab.rd msgs_ne _ _ hs.ext hw.2⟩) ?_ -- @t17 callS (.func (.func 45) #[] #[]) [t15, a1]
    refine J.op (R.ext rfl) ?_ -- @t18 vS (Instr.extract t17 0)
    refine J.op (R.ext rfl) ?_ -- @t19 vS (Instr.extract t17 1)
    refine J.op (R.ldA ag53 (by with_reducible repeat (first | exact Pick.here | apply Pick.there)) rfl) ?_ -- @t21 vS (Instr.loadAt 53 t2)
    refine J.callE en46 (s46 _ _ _ _ _ _ lv c l hll hok hsq2) rfl (fun _ _ hs => ⟨Cfg.at_stab _ _ hs.ext hw.1, Stab.rd msgs_ne _ _ hs.ext hw.2⟩) ?_ -- @t23 callS (.func (.func 46) #[] #[]) [t21, a1]
    refine J.op (R.ext rfl) ?_ -- @t24 vS (Instr.extract t23 0)
    refine J.op (R.ext rfl) ?_ -- @t25 vS (Instr.extract t23 1)
    refine J.bind ?_ -- @tv bind tv ([4])
    refine J.opDT R.eql (by rfl) ?_ -- @t28
    refine J.gopT rfl ?_
    refine J.op R.pure ?_
    refine J.gopT rfl ?_
    refine J.op R.pure ?_
    refine J.gopT rfl ?_
    refine J.opDT R.eql (by rfl) ?_ -- @t32
    refine J.op R.pickT ?_ -- @t33 pickS t28 t32 (.bool false)
    refine J.gopT rfl ?_
    refine J.callE en35 (s35) rfl (fun _ _ _ => trivial) ?_ -- @t35 callS (.func (.func 35) #[] #[]) []
    refine J.op R.pickT ?_ -- @t36 pickS t33 t35 (.bool false)
    refine J.done ?_ -- then tv = [t36]
    -- @ret[(tv.headDundef)]
    exact J.done (RetQ.ge (.tmp (.nil)) (by first | rfl | (simp [mkRes, *]; done) | (simp_all [mkRes]; done) | (simp_all [mkRes]; first | omega | (rw [decide_eq_false_iff_not]; omega) | (rw [decide_eq_true_iff]; omega)) | (simp only [mkRes]; (repeat' split) <;> first | rfl | omega | (simp_all; done) | (simp_all; omega))))
  · skip
    refine J.op (v := .bool true) R.not ?_
    refine J.iteT ?_
    refine J.callE en35 (s35) rfl (fun _ _ _ => trivial) ?_ -- @t13 callS (.func (.func 35) #[] #[]) []
    -- @ret[t13]
    exact J.done (RetQ.ge (.tmp (.nil)) (by first | rfl | (simp [mkRes, *]; done) | (simp_all [mkRes]; done) | (simp_all [mkRes]; first | omega | (rw [decide_eq_false_iff_not]; omega) | (rw [decide_eq_true_iff]; omega)) | (simp only [mkRes]; (repeat' split) <;> first | rfl | omega | (simp_all; done) | (simp_all; omega))))

/-- damper/damperlaw32.WatchPlays -/
theorem s8 (xa ya : Option Addr) (xn xc yn yc : Nat) (lv : Value) (c : Cfg) (l : List Msg) (hok : ∀ m, m ∈ l → m.ok) :
    FnE Try.prog 8 [.agg (c.cells (.slice xa xn xc) (.slice ya yn yc)).toArray, lv] (fun w => c.at (.slice xa xn xc) (.slice ya yn yc) w ∧ RdS w lv 9 (msgs l)) (.bool true) := by
  refine fn_of_J (cx := cx8) hmix Try.func8 (by kernel_rfl) (eq8 _ _) fun w hw => ?_
  have hL : ∀ H, SeeS ⟨Try.prog, w, footOf []⟩ H lv 9 (msgs l) := fun H => SeeS.ofW0 hw.2 msgs_ne
  have hRX : RdF w (.slice xa xn xc) 16 (syms c.syms) (footOf []) := RdF.base hw.1.1
  refine J.boxA fun bt2 => ?_
  refine J.op (R.ldA ag53 (by with_reducible repeat (first | exact Pick.here | apply Pick.there)) rfl) ?_ -- @t12 vS (Instr.loadAt 53 t2)
  refine J.callEB en34 (s34 _ _ lv c l) rfl (fun _ _ hs => ⟨Cfg.at_stab _ _ hs.ext hw.1, Stab.rd msgs_ne _ _ hs.ext hw.2⟩) (fun ht14 => ?_) (fun ht14 => ?_) -- @t14 callS (.func (.func 34) #[] #[]) [t12, a1]
  · skip
    refine J.op (v := .bool false) R.not ?_
    refine J.iteF ?_
    obtain ⟨hll, hsq⟩ := lightW_inv ht14
    refine J.op (R.ldA ag53 (by with_reducible repeat (first | exact Pick.here | apply Pick.there)) rfl) ?_ -- @t18 vS (Instr.loadAt 53 t2)
    by_cases hc : (cfgFault c).1 = 0 -- J.callEB -- @t19 callS (.func (.func 36) #[] #[]) [t18]
    · refine J.callT en36 (New_ok hc) rfl (fun _ _ hs => Cfg.at_stab _ _ hs.ext hw.1) Take.nil (fun v es hv => ?_)
      obtain ⟨bw, g, n, cc, rfl, rfl⟩ := hv
      simp only [List.cons_append, List.nil_append, WatH]
      refine J.op (R.ext rfl) ?_ -- @t20 vS (Instr.extract t19 0)
      refine J.op (R.ext rfl) ?_ -- @t21 vS (Instr.extract t19 1)
      refine J.op (R.ldA ag53 (by with_reducible repeat (first | exact Pick.here | apply Pick.there)) rfl) ?_ -- @t23 vS (Instr.loadAt 53 t2)
      refine J.callT en37 (Ref_ok hc) rfl (fun _ _ hs => Cfg.at_stab _ _ hs.ext hw.1) Take.nil (fun v es hv => ?_)
      obtain ⟨br, gr, nr, cr, rfl, rfl⟩ := hv
      simp only [List.cons_append, List.nil_append, RatH] -- @t24 callS (.func (.func 37) #[] #[]) [t23]
      refine J.op (R.ext rfl) ?_ -- @t25 vS (Instr.extract t24 0)
      refine J.op (R.ext rfl) ?_ -- @t26 vS (Instr.extract t24 1)
      refine J.opDF R.neq (by simp) ?_ -- @t29
      refine J.iteF ?_
      refine J.opDF R.neq (by simp) ?_ -- @t31
      refine J.iteF ?_
      refine J.bind ?_ -- @tv_5 bind tv_5 ([4])
      refine J.block ?_
      -- @tx loop [(.bool false), (.int .i64 0)]
      refine J.loop (α := Nat × Wst) (fun (i, st) => i ≤ l.length ∧ 0 ≤ st.seq ∧ st.seq ≤ i ∧ st.l.map Wk.s = c.syms) (fun (i, _) => [.bool false, .int .i64 i]) (fun (i, st) => [Ent.cells bw [.slice (some ⟨g, 0, none⟩) n cc, .int .i64 st.seq, .int .i64 st.tick] 143, Ent.row (.slice (some ⟨g, 0, none⟩) n cc) 26 (wks st.l) 145, Ent.cells br (c.cells (.slice xa xn xc) (.slice ya yn yc) ++ [.slice (some ⟨gr, 0, none⟩) nr cr, .int .i64 st.seq, .int .i64 st.tick]) 83, Ent.row (.slice (some ⟨gr, 0, none⟩) nr cr) 10 (kns st.l) 88, Ent.cells bt2 (c.cells (.slice xa xn xc) (.slice ya yn yc)) 53]) (fun (i, _) => l.length - i) (0, newW c) ⟨Nat.zero_le _, Int.le_refl _, Int.le_refl _, new_syms⟩ rfl (Imp.take (by (try dsimp only); repeat (first | exact Has.nil | refine Has.cons (by repeat (first | (with_reducible exact Out.here) | ((with_reducible refine Out.cells ?_); first | rfl | (simp; done)) | ((with_reducible refine Out.row ?_); first | rfl | (simp; done)) | (with_reducible apply Out.there))) ?_))) ?_
      rintro ⟨i, st⟩ ⟨hi, hq0, hq1, hsy⟩
      dsimp only at hi hq0 hq1 hsy ⊢
      try simp only [List.headD_cons, List.tail_cons]
      refine J.op (R.lenN sl22 (hL _) msgs_len) ?_ -- @t39 bltS .len #[22] 3 #[false] [a1]
      refine J.opD R.lss (fun ht40 => ?_) (fun ht40 => ?_) -- @t40 binS .lss 3 (.tmp 37) (.tmp 39) (tx.tail.headD undef) t39
      · skip
        refine J.iteT ?_
        refine J.bind ?_ -- @tv_4 bind tv_4 ([4])
        refine J.block ?_
        refine J.draw ?_
        obtain ⟨m, hm⟩ := get_ex (l := l) (i := i) (by omega)
        have hmm := List.mem_of_getElem? hm
        refine J.ixW sl22 hL (by omega) (msgs_get hm) fun b o hkt46 => ?_ -- @t46 ix a1 (tx.tail.headD undef)
        refine J.op (R.ldKA ag46 (hkt46 _) rfl) ?_ -- @t47 vS (Instr.loadAt 46 t46)
        refine J.ixWR sl22 hL (by omega) (msgs_get hm) fun b o hkt52 hR52 => ?_ -- @t52 ix a1 (tx.tail.headD undef)
        refine J.op (R.ldKA ag46 (hkt52 _) rfl) ?_ -- @t53 vS (Instr.loadAt 46 t52)
        refine J.callT en38 (s38 bw g n cc st m (hok m hmm)) rfl (fun _ _ _ => trivial) (Take.cons (by (try dsimp only); repeat (first | (with_reducible exact Out.here) | ((with_reducible refine Out.cells ?_); first | rfl | (simp; done)) | ((with_reducible refine Out.row ?_); first | rfl | (simp; done)) | (with_reducible apply Out.there))) (Take.cons (by (try dsimp only); repeat (first | (with_reducible exact Out.here) | ((with_reducible refine Out.cells ?_); first | rfl | (simp; done)) | ((with_reducible refine Out.row ?_); first | rfl | (simp; done)) | (with_reducible apply Out.there))) Take.nil)) (fun v es hv => ?_)
        obtain ⟨rfl, rfl⟩ := hv
        simp only [List.cons_append, List.nil_append, WatH] -- @t48 callS (.func (.func 38) #[] #[]) [t20, t47]
        refine J.chkR (R.ldKA ag46 (hkt52 _) rfl) ?_ -- @chk:t53 vS (Instr.loadAt 46 t52)
        refine J.chkR (hR52 _) ?_ -- @chk:t52 vS (Instr.indexAt 22 a1 (tx.tail.headD undef))
        refine J.callT en39 (s39 br gr nr cr st (.slice xa xn xc) (.slice ya yn yc) c m (hok m hmm) ⟨hq0, by omega⟩ (hsq i m hm) hsy) rfl (fun _ _ hs => RdF.arg hRX syms_ne hs (by simp)) (Take.cons (by (try dsimp only); repeat (first | (with_reducible exact Out.here) | ((with_reducible refine Out.cells ?_); first | rfl | (simp; done)) | ((with_reducible refine Out.row ?_); first | rfl | (simp; done)) | (with_reducible apply Out.there))) (Take.cons (by (try dsimp only); repeat (first | (with_reducible exact Out.here) | ((with_reducible refine Out.cells ?_); first | rfl | (simp; done)) | ((with_reducible refine Out.row ?_); first | rfl | (simp; done)) | (with_reducible apply Out.there))) Take.nil)) (fun v es hv => ?_)
        obtain ⟨rfl, rfl⟩ := hv
        simp only [List.cons_append, List.nil_append, RatH]
        have hpq := putW_seq (m := m) (B := i) ⟨hq0, hq1⟩ (by omega) -- @t54 callS (.func (.func 39) #[] #[]) [t25, t53]
        refine J.opDF R.neq (by simp) ?_ -- @t55
        refine J.iteF ?_
        refine J.bind ?_ -- @tv_3 bind tv_3 ([4])
        refine J.block ?_
        refine J.fact (φ := nr = (kns (putW st m).l).length ∧ (kns (putW st m).l).length ≤ maxLen) (fun _ _ hs => ⟨Row.n (by with_reducible repeat (first | exact Pick.here | apply Pick.there)) hs, Row.le (by with_reducible repeat (first | exact Pick.here | apply Pick.there)) hs⟩) fun hnl => ?_
        obtain ⟨hn, hlm⟩ := hnl
        have hnr : nr ≤ 8 := by
          have h1 := congrArg List.length (putW_syms (st := st) (m := m))
          have h2 := congrArg List.length hsy
          simp only [List.length_map] at h1 h2
          have := cfg_len hc
          rw [hn, kns_len]
          omega
        -- @tx_1 loop [(tx.headD undef), (.int .i64 (-1))]
        refine J.loopH (α := Nat) (fun k => k ≤ nr + 2) (fun k => [.bool false, .int .i64 ((k : Int) - 1)]) (fun k => nr + 2 - k) 0 (Nat.zero_le _) rfl ?_
        rintro k hk
        try simp only [List.headD_cons, List.tail_cons]
        refine J.op R.nil ?_ -- @t58 nilS t25
        refine J.op fa83_1 ?_
        refine J.op (R.ld o81 (by with_reducible repeat (first | exact Pick.here | apply Pick.there)) rfl) ?_ -- @t60 vS (Instr.loadAt 81 t59)
        refine J.op (R.lenS sl81) ?_ -- @t61 bltS .len #[81] 3 #[false] [t60]
        refine J.opD R.leq (fun ht62 => ?_) (fun ht62 => ?_) -- @t62 binS .leq 3 (.tmp 56) (.tmp 61) (tx_1.tail.headD undef) t61
        · skip
          refine J.iteT ?_
          refine J.bind ?_ -- @tv_2 bind tv_2 ([4])
          refine J.block ?_
          refine J.callE en40 (s40 br gr nr cr (putW st m) (.slice xa xn xc) (.slice ya yn yc) c _) rfl (fun _ _ hs => ⟨Blk.of (by with_reducible repeat (first | exact Pick.here | apply Pick.there)) hs, SeeS.row (by with_reducible repeat (first | exact Pick.here | apply Pick.there)) _ _ hs⟩) ?_ -- @t67 callS (.func (.func 40) #[] #[]) [t25, (tx_1.tail.headD undef)]
          refine J.alloc z88 fun bt11 => ?_
          refine J.stW sz88 (by with_reducible repeat (first | exact Pick.here | apply Pick.there)) rfl rfl rfl ?_ -- @tu uS (Instr.storeAt 88 t11 t67)
          refine J.bind ?_ -- @tv_1 bind tv_1 ([97])
          refine J.draw ?_
          refine J.op fa88_0 ?_
          refine J.op (R.ld o3 (by with_reducible repeat (first | exact Pick.here | apply Pick.there)) rfl) ?_ -- @t72 vS (Instr.loadAt 3 t71)
          refine J.callE en41 (s41 bw g n cc (putW st m) _) rfl (fun _ _ hs => ⟨Blk.of (by with_reducible repeat (first | exact Pick.here | apply Pick.there)) hs, SeeS.row (by with_reducible repeat (first | exact Pick.here | apply Pick.there)) _ _ hs⟩) ?_ -- @t70 callS (.func (.func 41) #[] #[]) [t20, (tx_1.tail.headD undef)]
          refine J.chkR (R.ld o3 (by with_reducible repeat (first | exact Pick.here | apply Pick.there)) rfl) ?_ -- @chk:t72 vS (Instr.loadAt 3 t71)
          refine J.chkR fa88_0 ?_ -- @chk:t71 vS (Instr.fieldAt 88 t11 0)
          refine J.opDF R.neq (by simp) ?_ -- @t73
          refine J.gopT rfl ?_
          refine J.op R.pure ?_
          refine J.gopT rfl ?_
          refine J.op R.pure ?_
          refine J.gopT rfl ?_
          refine J.op fa88_1 ?_
          refine J.gopT rfl ?_
          refine J.op (R.ldP ag85 (by with_reducible repeat (first | exact Pick.here | apply Pick.there)) rfl rfl) ?_ -- @t79 vS (Instr.loadAt 85 t78)
          refine J.gopT rfl ?_
          refine J.callE en42 (s42 bw g n cc (putW st m) _) rfl (fun _ _ hs => ⟨Blk.of (by with_reducible repeat (first | exact Pick.here | apply Pick.there)) hs, SeeS.row (by with_reducible repeat (first | exact Pick.here | apply Pick.there)) _ _ hs⟩) ?_ -- @t77 callS (.func (.func 42) #[] #[]) [t75, t76]
          refine J.chkR (R.ldP ag85 (by with_reducible repeat (first | exact Pick.here | apply Pick.there)) rfl rfl) ?_ -- @chk:t79 vS (Instr.loadAt 85 t78)
          refine J.chkR fa88_1 ?_ -- @chk:t78 vS (Instr.fieldAt 88 t11 1)
          refine J.gopT rfl ?_
          refine J.opDF (R.neA gt85 (by repeat (first | exact trivial | refine ⟨⟨_, rfl⟩, ?_⟩)) (by repeat (first | exact trivial | refine ⟨⟨_, rfl⟩, ?_⟩))) (by exact fun h => h rfl) ?_ -- @t80
          refine J.op R.pickF ?_ -- @t81 pickS t73 (.bool true) t80
          refine J.gopT rfl ?_
          refine J.op R.pure ?_
          refine J.gopT rfl ?_
          refine J.op R.pure ?_
          refine J.gopT rfl ?_
          refine J.op fa88_3 ?_
          refine J.gopT rfl ?_
          refine J.op (R.ld o2 (by with_reducible repeat (first | exact Pick.here | apply Pick.there)) rfl) ?_ -- @t87 vS (Instr.loadAt 2 t86)
          refine J.gopT rfl ?_
          refine J.callE en43 (s43 bw g n cc (putW st m) _) rfl (fun _ _ hs => ⟨Blk.of (by with_reducible repeat (first | exact Pick.here | apply Pick.there)) hs, SeeS.row (by with_reducible repeat (first | exact Pick.here | apply Pick.there)) _ _ hs⟩) ?_ -- @t85 callS (.func (.func 43) #[] #[]) [t83, t84]
          refine J.chkR (R.ld o2 (by with_reducible repeat (first | exact Pick.here | apply Pick.there)) rfl) ?_ -- @chk:t87 vS (Instr.loadAt 2 t86)
          refine J.chkR fa88_3 ?_ -- @chk:t86 vS (Instr.fieldAt 88 t11 3)
          refine J.gopT rfl ?_
          refine J.opDF R.neq (by simp) ?_ -- @t88
          refine J.op R.pickF ?_ -- @t89 pickS t81 (.bool true) t88
          refine J.gopT rfl ?_
          refine J.op R.pure ?_
          refine J.gopT rfl ?_
          refine J.op R.pure ?_
          refine J.gopT rfl ?_
          refine J.op fa88_4 ?_
          refine J.gopT rfl ?_
          refine J.op (R.ldP ag86 (by with_reducible repeat (first | exact Pick.here | apply Pick.there)) rfl rfl) ?_ -- @t95 vS (Instr.loadAt 86 t94)
          refine J.gopT rfl ?_
          refine J.callE en44 (s44 bw g n cc (putW st m) _) rfl (fun _ _ hs => ⟨Blk.of (by with_reducible repeat (first | exact Pick.here | apply Pick.there)) hs, SeeS.row (by with_reducible repeat (first | exact Pick.here | apply Pick.there)) _ _ hs⟩) ?_ -- @t93 callS (.func (.func 44) #[] #[]) [t91, t92]
          refine J.chkR (R.ldP ag86 (by with_reducible repeat (first | exact Pick.here | apply Pick.there)) rfl rfl) ?_ -- @chk:t95 vS (Instr.loadAt 86 t94)
          refine J.chkR fa88_4 ?_ -- @chk:t94 vS (Instr.fieldAt 88 t11 4)
          refine J.gopT rfl ?_
          refine J.op (R.ne4 ar86 (by kernel_rfl) (by kernel_rfl)) ?_ -- @t96 binS .neq 86 (.tmp 93) (.tmp 95) t93 t95
          refine J.op R.pickF ?_ -- @t97 pickS t89 (.bool true) t96
          refine J.done ?_ -- then tv_1 = [t97]
          refine J.iteB (fun hctv_1headDundef => ?_) (fun hctv_1headDundef => ?_) -- ite (tv_1.headD undef)
          · try simp only [List.headD_cons, List.tail_cons, decide_eq_true_eq] at hctv_1headDundef
            -- @ret[(.boolfalse)]
            exact J.done (RetQ.ge (.tmp (.nil)) (by first | rfl | (simp [mkRes, *]; done) | (simp_all [mkRes]; done) | (simp_all [mkRes]; first | omega | (rw [decide_eq_false_iff_not]; omega) | (rw [decide_eq_true_iff]; omega)) | (simp only [mkRes]; (repeat' split) <;> first | rfl | omega | (simp_all; done) | (simp_all; omega))))
          · try simp only [List.headD_cons, List.tail_cons, decide_eq_false_iff_not] at hctv_1headDundef
            refine J.done ?_ -- then tv_2 = [(tx_1.headD undef)]
            refine J.op (R.add64 (by omega)) ?_ -- @t64 binS .add 3 (.tmp 63) (.const (.int .i64 1)) (tx_1.tail.headD undef) (.int .i64 1)
            -- @again[(tv_2.headDundef),t64]
            refine J.done ⟨k + 1, by omega, by rw [show ((k : Int) - 1 + 1) = ((k + 1 : Nat) : Int) - 1 by omega]; rfl, Imp.take (by (try dsimp only); repeat (first | exact Has.nil | refine Has.cons (by repeat (first | (with_reducible exact Out.here) | ((with_reducible refine Out.cells ?_); first | rfl | (simp; done)) | ((with_reducible refine Out.row ?_); first | rfl | (simp; done)) | (with_reducible apply Out.there))) ?_)), by omega⟩
        · skip
          refine J.iteF ?_
          refine J.done ⟨fun _ => ?_, fun h => absurd rfl h⟩ -- exit [(tx_1.headD undef)]
          refine J.done ?_ -- then tv_4 = [(tv_3.headD undef)]
          refine J.op (R.add64 (by omega)) ?_ -- @t42 binS .add 3 (.tmp 41) (.const (.int .i64 1)) (tx.tail.headD undef) (.int .i64 1)
          -- @again[(tv_4.headDundef),t42]
          exact J.done ⟨(i + 1, putW st m), ⟨by dsimp only; omega, hpq.1, by dsimp only; omega, by dsimp only; rw [putW_syms]; exact hsy⟩, rfl, Imp.take (by (try dsimp only); repeat (first | exact Has.nil | refine Has.cons (by repeat (first | (with_reducible exact Out.here) | ((with_reducible refine Out.cells ?_); first | rfl | (simp; done)) | ((with_reducible refine Out.row ?_); first | rfl | (simp; done)) | (with_reducible apply Out.there))) ?_)), by dsimp only; omega⟩
      · skip
        refine J.iteF ?_
        refine J.done ⟨fun _ => ?_, fun h => absurd rfl h⟩ -- exit [(tx.headD undef)]
        refine J.callE en35 (s35) rfl (fun _ _ _ => trivial) ?_ -- @t98 callS (.func (.func 35) #[] #[]) []
        -- @ret[t98]
        exact J.done (RetQ.ge (.tmp (.nil)) (by first | rfl | (simp [mkRes, *]; done) | (simp_all [mkRes]; done) | (simp_all [mkRes]; first | omega | (rw [decide_eq_false_iff_not]; omega) | (rw [decide_eq_true_iff]; omega)) | (simp only [mkRes]; (repeat' split) <;> first | rfl | omega | (simp_all; done) | (simp_all; omega))))
    · refine J.callT en36 (New_bad hc) rfl (fun _ _ hs => Cfg.at_stab _ _ hs.ext hw.1) Take.nil (fun v es hv => ?_)
      obtain ⟨rfl, rfl⟩ := hv
      simp only [List.cons_append, List.nil_append]
      refine J.op (R.ext rfl) ?_ -- @t20 vS (Instr.extract t19 0)
      refine J.op (R.ext rfl) ?_ -- @t21 vS (Instr.extract t19 1)
      refine J.op (R.ldA ag53 (by with_reducible repeat (first | exact Pick.here | apply Pick.there)) rfl) ?_ -- @t23 vS (Instr.loadAt 53 t2)
      refine J.callT en37 (Ref_bad hc) rfl (fun _ _ hs => Cfg.at_stab _ _ hs.ext hw.1) Take.nil (fun v es hv => ?_)
      obtain ⟨rfl, rfl⟩ := hv
      simp only [List.cons_append, List.nil_append] -- @t24#2 callS (.func (.func 37) #[] #[]) [t23]
      refine J.op (R.ext rfl) ?_ -- @t25 vS (Instr.extract t24 0)
      refine J.op (R.ext rfl) ?_ -- @t26 vS (Instr.extract t24 1)
      refine J.opDF R.neq (by simp) ?_ -- @t29#2
      refine J.iteF ?_
      refine J.opDT R.neq (by exact hc) ?_ -- @t31#2
      refine J.iteT ?_
      refine J.bind ?_ -- @tv bind tv ([4])
      refine J.opBT (R.isNil pt74) (by rfl) ?_ -- @t33
      refine J.gopT rfl ?_
      refine J.callE en35 (s35) rfl (fun _ _ _ => trivial) ?_ -- @t35 callS (.func (.func 35) #[] #[]) []
      refine J.op R.pickT ?_ -- @t36 pickS t33 t35 (.bool false)
      refine J.done ?_ -- then tv = [t36]
      -- @ret[(tv.headDundef)]
      exact J.done (RetQ.ge (.tmp (.nil)) (by first | rfl | (simp [mkRes, *]; done) | (simp_all [mkRes]; done) | (simp_all [mkRes]; first | omega | (rw [decide_eq_false_iff_not]; omega) | (rw [decide_eq_true_iff]; omega)) | (simp only [mkRes]; (repeat' split) <;> first | rfl | omega | (simp_all; done) | (simp_all; omega))))
  · skip
    refine J.op (v := .bool true) R.not ?_
    refine J.iteT ?_
    refine J.callE en35 (s35) rfl (fun _ _ _ => trivial) ?_ -- @t16 callS (.func (.func 35) #[] #[]) []
    -- @ret[t16]
    exact J.done (RetQ.ge (.tmp (.nil)) (by first | rfl | (simp [mkRes, *]; done) | (simp_all [mkRes]; done) | (simp_all [mkRes]; first | omega | (rw [decide_eq_false_iff_not]; omega) | (rw [decide_eq_true_iff]; omega)) | (simp only [mkRes]; (repeat' split) <;> first | rfl | omega | (simp_all; done) | (simp_all; omega))))
end Go.Proofs.Ytipgdalebkhgpaa
