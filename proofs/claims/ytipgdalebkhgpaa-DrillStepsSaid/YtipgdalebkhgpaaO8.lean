/-
  Contracts of functions.
-/
import Derived.Test.YtipgdalebkhgpaaTerms1
import Derived.Test.YtipgdalebkhgpaaTerms2
import Derived.Test.YtipgdalebkhgpaaTab
import Derived.Test.YtipgdalebkhgpaaO6
import Derived.Test.YtipgdalebkhgpaaO7
set_option maxRecDepth 100000
set_option maxHeartbeats 4000000
set_option linter.unusedVariables false
set_option linter.unusedSimpArgs false
namespace Go.Proofs.Ytipgdalebkhgpaa
open Go Go.RowKit Fw
/-- damper/damperref03.Same -/
theorem s69 (u v : Value) (l : List Nat) :
    FnE Try.prog 69 [u, v] (fun w => RdS w u 1 (u8s l) ∧ RdS w v 1 (u8s l)) (.bool true) := by
  refine fn_of_J (cx := cx69) hmix Try.func69 (by kernel_rfl) (eq69 _ _) fun w hw => ?_
  have hA : ∀ H, SeeS ⟨Try.prog, w, footOf []⟩ H u 1 ((l.map fun n : Nat => (n : Int)).map fun n => [.int .u8 n]) := fun H => u8s_ints ▸ SeeS.ofW0 hw.1 u8s_ne
  have hB : ∀ H, SeeS ⟨Try.prog, w, footOf []⟩ H v 1 ((l.map fun n : Nat => (n : Int)).map fun n => [.int .u8 n]) := fun H => u8s_ints ▸ SeeS.ofW0 hw.2 u8s_ne
  refine J.op (R.toStr (E := 5) (by kernel_rfl) (by kernel_rfl) st9 (hA _)) ?_ -- @t6 vS (convert 130 9 a0)
  refine J.op (R.toStr (E := 5) (by kernel_rfl) (by kernel_rfl) st9 (hB _)) ?_ -- @t8 vS (convert 130 9 a1)
  refine J.opBT (R.eqlS st9) (by exact beq_self_eq_true _) ?_ -- @t9
  -- @ret[t9]
  exact J.done (RetQ.ge (.tmp (.nil)) (rfl))

/-- damper/damperref29.Same -/
theorem s33 (va vb : Value) (la lb : List (Stp × Value)) (h : la.map Prod.fst = lb.map Prod.fst) :
    FnE Try.prog 33 [va, vb] (fun w => RdS w va 4 (stRow la) ∧ RdS w vb 4 (stRow lb) ∧ (∀ p, p ∈ la → RdS w p.2 1 (u8s p.1.fr)) ∧ ∀ p, p ∈ lb → RdS w p.2 1 (u8s p.1.fr)) (.bool true) := by
  refine fn_of_J (cx := cx33) hmix Try.func33 (by kernel_rfl) (eq33 _ _) fun w hw => ?_
  have hA : ∀ H, SeeS ⟨Try.prog, w, footOf []⟩ H va 4 (stRow la) := fun H => SeeS.ofW0 hw.1 stRow_ne
  have hB : ∀ H, SeeS ⟨Try.prog, w, footOf []⟩ H vb 4 (stRow lb) := fun H => SeeS.ofW0 hw.2.1 stRow_ne
  have hlen : la.length = lb.length := by simpa using congrArg List.length h
  have hm := hw.1.le
  simp only [stRow_len, maxLen] at hm
  refine J.op (R.lenN sl67 (hA _) stRow_len) ?_ -- @t7 bltS .len #[67] 3 #[false] [a0]
  refine J.op (R.lenN sl67 (hB _) stRow_len) ?_ -- @t9 bltS .len #[67] 3 #[false] [a1]
  refine J.opDF R.neq (by omega) ?_ -- @t10
  refine J.iteF ?_
  refine J.bind ?_ -- @tv_2 bind tv_2 ([4])
  refine J.block ?_
  -- @tx loop [(.bool false), (.int .i64 0)]
  refine J.loopH (α := Nat) (fun i => i ≤ la.length) (fun i => [.bool false, .int .i64 ((i : Nat) : Int)]) (fun i => la.length - i) 0 (Nat.zero_le _) rfl ?_
  rintro i hi
  try simp only [List.headD_cons, List.tail_cons]
  refine J.op (R.lenN sl67 (hA _) stRow_len) ?_ -- @t13 bltS .len #[67] 3 #[false] [a0]
  refine J.opD R.lss (fun ht14 => ?_) (fun ht14 => ?_) -- @t14 binS .lss 3 (.tmp 11) (.tmp 13) (tx.tail.headD undef) t13
  · skip
    refine J.iteT ?_
    refine J.bind ?_ -- @tv_1 bind tv_1 ([4])
    refine J.block ?_
    refine J.bind ?_ -- @tv bind tv ([67])
    refine J.draw ?_
    obtain ⟨s, u, v, hx, hy⟩ := st_at h (i := i) (by omega)
    refine J.ixW sl67 hA (by omega) (stRow_get hx) fun bq oq hkt19 => ?_ -- @t19 ix a0 (tx.tail.headD undef)
    refine J.op fa132_0 ?_
    refine J.op (R.ldK0 o3 (hkt19 _)) ?_ -- @t21 vS (Instr.loadAt 3 t20)
    refine J.ixW sl67 hB (by omega) (stRow_get hy) fun bq oq hkt24 => ?_ -- @t24 ix a1 (tx.tail.headD undef)
    refine J.op fa132_0 ?_
    refine J.op (R.ldK0 o3 (hkt24 _)) ?_ -- @t26 vS (Instr.loadAt 3 t25)
    refine J.opDF R.neq (by omega) ?_ -- @t27
    refine J.gopT rfl ?_
    refine J.op R.pure ?_
    refine J.gopT rfl ?_
    refine J.op R.pure ?_
    refine J.gopT rfl ?_
    refine J.ixW sl67 hA (by omega) (stRow_get hx) fun bq oq hkt31 => ?_ -- @t31 ix t29 t30
    refine J.gopT rfl ?_
    refine J.op fa132_1 ?_
    refine J.gopT rfl ?_
    refine J.op (R.ldK o3 (hkt31 _) rfl) ?_ -- @t33 vS (Instr.loadAt 3 t32)
    refine J.gopT rfl ?_
    refine J.op R.pure ?_
    refine J.gopT rfl ?_
    refine J.op R.pure ?_
    refine J.gopT rfl ?_
    refine J.ixW sl67 hB (by omega) (stRow_get hy) fun bq oq hkt36 => ?_ -- @t36 ix t34 t35
    refine J.gopT rfl ?_
    refine J.op fa132_1 ?_
    refine J.gopT rfl ?_
    refine J.op (R.ldK o3 (hkt36 _) rfl) ?_ -- @t38 vS (Instr.loadAt 3 t37)
    refine J.gopT rfl ?_
    refine J.opDF R.neq (by omega) ?_ -- @t39
    refine J.op R.pickF ?_ -- @t40 pickS t27 (.bool true) t39
    refine J.gopT rfl ?_
    refine J.op R.pure ?_
    refine J.gopT rfl ?_
    refine J.op R.pure ?_
    refine J.gopT rfl ?_
    refine J.ixW sl67 hA (by omega) (stRow_get hx) fun bq oq hkt44 => ?_ -- @t44 ix t42 t43
    refine J.gopT rfl ?_
    refine J.op fa132_2 ?_
    refine J.gopT rfl ?_
    refine J.op (R.ldK o2 (hkt44 _) rfl) ?_ -- @t46 vS (Instr.loadAt 2 t45)
    refine J.gopT rfl ?_
    refine J.op R.pure ?_
    refine J.gopT rfl ?_
    refine J.op R.pure ?_
    refine J.gopT rfl ?_
    refine J.ixW sl67 hB (by omega) (stRow_get hy) fun bq oq hkt49 => ?_ -- @t49 ix t47 t48
    refine J.gopT rfl ?_
    refine J.op fa132_2 ?_
    refine J.gopT rfl ?_
    refine J.op (R.ldK o2 (hkt49 _) rfl) ?_ -- @t51 vS (Instr.loadAt 2 t50)
    refine J.gopT rfl ?_
    refine J.opDF R.neq (by omega) ?_ -- @t52
    refine J.op R.pickF ?_ -- @t53 pickS t40 (.bool true) t52
    refine J.gopT rfl ?_
    refine J.op R.pure ?_
    refine J.gopT rfl ?_
    refine J.op R.pure ?_
    refine J.gopT rfl ?_
    refine J.ixW sl67 hA (by omega) (stRow_get hx) fun bq oq hkt57 => ?_ -- @t57 ix t55 t56
    refine J.gopT rfl ?_
    refine J.op fa132_3 ?_
    refine J.gopT rfl ?_
    refine J.op (R.ldK o130 (hkt57 _) rfl) ?_ -- @t59 vS (Instr.loadAt 130 t58)
    refine J.gopT rfl ?_
    refine J.op R.pure ?_
    refine J.gopT rfl ?_
    refine J.op R.pure ?_
    refine J.gopT rfl ?_
    refine J.ixW sl67 hB (by omega) (stRow_get hy) fun bq oq hkt62 => ?_ -- @t62 ix t60 t61
    refine J.gopT rfl ?_
    refine J.op fa132_3 ?_
    refine J.gopT rfl ?_
    refine J.op (R.ldK o130 (hkt62 _) rfl) ?_ -- @t64 vS (Instr.loadAt 130 t63)
    refine J.gopT rfl ?_
    refine J.callE en69 (s69 u v s.fr) rfl (fun _ _ hs => ⟨SeeS.ofW0 (hw.2.2.1 _ (List.mem_of_getElem? hx)) u8s_ne _ _ hs, SeeS.ofW0 (hw.2.2.2 _ (List.mem_of_getElem? hy)) u8s_ne _ _ hs⟩) ?_ -- @t65 callS (.func (.func 69) #[] #[]) [t59, t64]
    refine J.gopT rfl ?_
    refine J.op (v := .bool false) R.not ?_
    refine J.op R.pickF ?_ -- @t67 pickS t53 (.bool true) t66
    refine J.done ?_ -- then tv = [t67]
    refine J.iteF ?_
    refine J.done ?_ -- then tv_1 = [(tx.headD undef)]
    refine J.op (R.add64 (by omega)) ?_ -- @t16 binS .add 3 (.tmp 15) (.const (.int .i64 1)) (tx.tail.headD undef) (.int .i64 1)
    -- @again[(tv_1.headDundef),t16]
    exact J.done ⟨i + 1, by omega, rfl, Imp.refl _, by omega⟩
  · skip
    refine J.iteF ?_
    refine J.done ⟨fun _ => ?_, fun h => absurd rfl h⟩ -- exit [(tx.headD undef)]
    -- @ret[(.booltrue)]
    exact J.done (RetQ.ge (.tmp (.nil)) (rfl))

/-- damper/damperlaw37.DrillSteps -/
theorem s7 (xa ya : Option Addr) (xn xc yn yc : Nat) (c : Cfg) (kind x n : Int) :
    FnE Try.prog 7 [.agg (c.cells (.slice xa xn xc) (.slice ya yn yc)).toArray, .int .i64 kind, .int .u64 x, .int .i64 n] (c.at (.slice xa xn xc) (.slice ya yn yc)) (.bool true) := by
  refine fn_of_J (cx := cx7) hmix Try.func7 (by kernel_rfl) (eq7 _ _ _ _) fun w hw => ?_
  refine J.boxA fun bt4 => ?_
  refine J.op (R.ldA ag53 (by with_reducible repeat (first | exact Pick.here | apply Pick.there)) rfl) ?_ -- @t17 vS (Instr.loadAt 53 t4)
  refine J.callEB en22 (s22 _ _ c) rfl (fun _ _ hs => Cfg.at_stab _ _ hs.ext hw) (fun ht18 => ?_) (fun ht18 => ?_) -- @t18 callS (.func (.func 22) #[] #[]) [t17]
  · skip
    refine J.op (v := .bool false) R.not ?_
    refine J.iteF ?_
    refine J.op (R.ldA ag53 (by with_reducible repeat (first | exact Pick.here | apply Pick.there)) rfl) ?_ -- @t22 vS (Instr.loadAt 53 t4)
    refine J.callT en29 (s29 xa ya xn xc yn yc c kind x n) rfl (fun _ _ hs => Cfg.at_stab _ _ hs.ext hw) Take.nil (fun v es hv => ?_)
    obtain ⟨pa, pn, pc, pl, hpl, rfl, rfl⟩ := hv
    simp only [List.cons_append, List.nil_append] -- @t26 callS (.func (.func 29) #[] #[]) [t22, a1, a2, a3]
    refine J.op (R.ext rfl) ?_ -- @t27 vS (Instr.extract t26 0)
    refine J.op (R.ext rfl) ?_ -- @t28 vS (Instr.extract t26 1)
    refine J.op (R.ldA ag53 (by with_reducible repeat (first | exact Pick.here | apply Pick.there)) rfl) ?_ -- @t30 vS (Instr.loadAt 53 t4)
    refine J.callT en30 (s30 xa ya xn xc yn yc c kind x n) rfl (fun _ _ hs => Cfg.at_stab _ _ hs.ext hw) Take.nil (fun v es hv => ?_)
    obtain ⟨qa, qn, qc, ql, hql, rfl, rfl⟩ := hv
    simp only [List.cons_append, List.nil_append] -- @t34 callS (.func (.func 30) #[] #[]) [t30, a1, a2, a3]
    refine J.op (R.ext rfl) ?_ -- @t35 vS (Instr.extract t34 0)
    refine J.op (R.ext rfl) ?_ -- @t36 vS (Instr.extract t34 1)
    refine J.op (R.ldA ag53 (by with_reducible repeat (first | exact Pick.here | apply Pick.there)) rfl) ?_ -- @t38 vS (Instr.loadAt 53 t4)
    refine J.callE en31 (s31 xa xn xc (.slice ya yn yc) c.index c.f0 c.f1 c.f2 c.h0 c.h1 c.rows) rfl (fun _ _ hs => (Cfg.at_stab _ _ hs.ext hw).2) ?_ -- @t39 callS (.func (.func 31) #[] #[]) [t38]
    refine J.op (R.ext rfl) ?_ -- @t40 vS (Instr.extract t39 0)
    refine J.op (R.ext rfl) ?_ -- @t41 vS (Instr.extract t39 1)
    refine J.op (R.ldA ag53 (by with_reducible repeat (first | exact Pick.here | apply Pick.there)) rfl) ?_ -- @t43 vS (Instr.loadAt 53 t4)
    refine J.callE en32 (s32 xa xn xc (.slice ya yn yc) c.index c.f0 c.f1 c.f2 c.h0 c.h1 c.rows) rfl (fun _ _ hs => (Cfg.at_stab _ _ hs.ext hw).2) ?_ -- @t44 callS (.func (.func 32) #[] #[]) [t43]
    refine J.op (R.ext rfl) ?_ -- @t45 vS (Instr.extract t44 0)
    refine J.op (R.ext rfl) ?_ -- @t46 vS (Instr.extract t44 1)
    refine J.bind ?_ -- @tv bind tv ([8])
    refine J.callE en33 (s33 (.slice pa pn pc) (.slice qa qn qc) pl ql (hpl.trans hql.symm)) rfl (fun _ _ hs => ⟨SeeS.row (E := 132) (by with_reducible repeat (first | exact Pick.here | apply Pick.there)) _ _ hs, SeeS.row (E := 132) (by with_reducible repeat (first | exact Pick.here | apply Pick.there)) _ _ hs, fun p hp => SeeS.bag (by with_reducible repeat (first | exact Pick.here | apply Pick.there)) (stBag_mem (E := 5) (l := pl) hp) _ _ hs, fun p hp => SeeS.bag (by with_reducible repeat (first | exact Pick.here | apply Pick.there)) (stBag_mem (E := 5) (l := ql) hp) _ _ hs⟩) ?_ -- @t49 callS (.func (.func 33) #[] #[]) [t27, t35]
    refine J.gopT rfl ?_
    refine J.op R.pure ?_
    refine J.gopT rfl ?_
    refine J.op R.pure ?_
    refine J.gopT rfl ?_
    refine J.opDT R.eql (by rfl) ?_ -- @t53
    refine J.op R.pickT ?_ -- @t54 pickS t49 t53 (.bool false)
    refine J.gopT rfl ?_
    refine J.op R.pure ?_
    refine J.gopT rfl ?_
    refine J.op R.pure ?_
    refine J.gopT rfl ?_
    refine J.opDT R.eql (by rfl) ?_ -- @t58
    refine J.op R.pickT ?_ -- @t59 pickS t54 t58 (.bool false)
    refine J.gopT rfl ?_
    refine J.op R.pure ?_
    refine J.gopT rfl ?_
    refine J.op R.pure ?_
    refine J.gopT rfl ?_
    refine J.opDT (R.eqlB bl4) (by simp) ?_ -- @t63
    refine J.op R.pickT ?_ -- @t64 pickS t59 t63 (.bool false)
    refine J.gopT rfl ?_
    refine J.callE en23 (s23) rfl (fun _ _ _ => trivial) ?_ -- @t66 callS (.func (.func 23) #[] #[]) []
    refine J.op R.pickT ?_ -- @t67 pickS t64 t66 (.bool false)
    refine J.done ?_ -- then tv = [t67]
    -- @ret[(tv.headDundef)]
    exact J.done (RetQ.ge (.tmp (.nil)) (rfl))
  · skip
    refine J.op (v := .bool true) R.not ?_
    refine J.iteT ?_
    refine J.callE en23 (s23) rfl (fun _ _ _ => trivial) ?_ -- @t20 callS (.func (.func 23) #[] #[]) []
    -- @ret[t20]
    exact J.done (RetQ.ge (.tmp (.nil)) (by first | rfl | (simp [mkRes, *]; done) | (simp_all [mkRes]; done) | (simp_all [mkRes]; first | omega | (rw [decide_eq_false_iff_not]; omega) | (rw [decide_eq_true_iff]; omega)) | (simp only [mkRes]; (repeat' split) <;> first | rfl | omega | (simp_all; done) | (simp_all; omega))))
end Go.Proofs.Ytipgdalebkhgpaa
