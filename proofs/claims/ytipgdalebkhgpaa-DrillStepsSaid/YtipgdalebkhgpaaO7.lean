/-
  Contracts of functions.
-/
import Derived.Test.YtipgdalebkhgpaaTerms1
import Derived.Test.YtipgdalebkhgpaaTerms2
import Derived.Test.YtipgdalebkhgpaaTab
import Derived.Test.YtipgdalebkhgpaaO5
import Derived.Test.YtipgdalebkhgpaaO1
import Derived.Test.YtipgdalebkhgpaaD1
import Derived.Test.YtipgdalebkhgpaaG1
set_option maxRecDepth 100000
set_option maxHeartbeats 4000000
set_option linter.unusedVariables false
set_option linter.unusedSimpArgs false
namespace Go.Proofs.Ytipgdalebkhgpaa
open Go Go.RowKit Fw
/-- damper/damperref37.Steps -/
theorem s30 (xa ya : Option Addr) (xn xc yn yc : Nat) (c : Cfg) (kind x n : Int) :
    FnT Try.prog 30 [.agg (c.cells (.slice xa xn xc) (.slice ya yn yc)).toArray, .int .i64 kind, .int .u64 x, .int .i64 n] (c.at (.slice xa xn xc) (.slice ya yn yc)) [] (fun v es => ∃ a m cc l, l.map Prod.fst = stepsM c kind x n ∧ v = .tuple #[.slice a m cc, .int .i64 (stepsF c kind n)] ∧ es = [Ent.row (.slice a m cc) 4 (stRow (l)) 132, Ent.bag (stBag 5 (l))]) := by
  refine fn_of_J (cx := cx30) hmix Try.func30 (by kernel_rfl) (eq30 _ _ _ _) fun w hw => ?_
  have hX : ∀ H, SeeS ⟨Try.prog, w, footOf []⟩ H (.slice xa xn xc) 16 (syms c.syms) := fun H => SeeS.ofW0 hw.1 syms_ne
  refine J.boxA fun bt4 => ?_
  refine J.op (R.ldA ag53 (by with_reducible repeat (first | exact Pick.here | apply Pick.there)) rfl) ?_ -- @t21 vS (Instr.loadAt 53 t4)
  refine J.callE en62 (s62 _ _ c) rfl (fun _ _ hs => Cfg.at_stab _ _ hs.ext hw) ?_ -- @t22 callS (.func (.func 62) #[] #[]) [t21]
  refine J.op (R.ext rfl) ?_ -- @t23 vS (Instr.extract t22 0)
  refine J.op (R.ext rfl) ?_ -- @t24 vS (Instr.extract t22 1)
  refine J.opD R.neq (fun ht26 => ?_) (fun ht26 => ?_) -- @t26 binS .neq 25 (.tmp 25) (.const (.int .i64 0)) t23 (.int .i64 0)
  · skip
    refine J.iteT ?_
    have hR : rightF c kind = (cfgFault c).1 := if_pos ht26
    have hF : stepsF c kind n = (cfgFault c).1 := by unfold stepsF; rw [hR, if_pos ht26]
    refine J.nilRow (sz := 4) (E := 132) ?_
    refine J.imp Imp.bagNil ?_
    -- @ret[(.slicenone00),t23]
    refine J.done (RetQ.gt (es := [Ent.row (.slice none 0 0) 4 [] 132, Ent.bag []]) (.tmp (.tmp (.nil))) ?_ ?_)
    · exact (by (try dsimp only); repeat (first | exact Has.nil | refine Has.cons (by repeat (first | (with_reducible exact Out.here) | ((with_reducible refine Out.cells ?_); first | rfl | (simp; done)) | ((with_reducible refine Out.row ?_); first | rfl | (simp; done)) | (with_reducible apply Out.there))) ?_))
    · exact ⟨none, 0, 0, [], by rw [stepsM, if_neg (by rw [hF]; exact ht26)]; rfl, by rw [hF]; rfl, rfl⟩
  · skip
    refine J.iteF ?_
    refine J.bindB (kind < 0 ∨ 4 < kind ∨ n < 0 ∨ 500 < n) ?_ (fun hbtv => ?_) (fun hbtv => ?_) -- @tv
    · skip
      refine J.opD R.lss (fun ht29 => ?_) (fun ht29 => ?_) -- @t29 binS .lss 3 (.tmp 28) (.const (.int .i64 0)) a1 (.int .i64 0)
      · skip
        refine J.gopF rfl ?_
        refine J.gopF rfl ?_
        refine J.op R.pickT ?_ -- @t33 pickS t29 (.bool true) t32
        refine J.gopF rfl ?_
        refine J.gopF rfl ?_
        refine J.op R.pickT ?_ -- @t37 pickS t33 (.bool true) t36
        refine J.gopF rfl ?_
        refine J.gopF rfl ?_
        refine J.op R.pickT ?_ -- @t41 pickS t37 (.bool true) t40
        exact J.done ⟨rfl, by simp only [List.cons.injEq, Value.bool.injEq, and_true]; first | (symm; rw [decide_eq_true_iff]; omega) | (symm; rw [decide_eq_false_iff_not]; omega) | exact decide_eq_decide.2 (by omega), rfl⟩ -- @leaf[t41]
      · skip
        refine J.gopT rfl ?_
        refine J.op R.pure ?_
        refine J.gopT rfl ?_
        refine J.opD R.gtr (fun ht32 => ?_) (fun ht32 => ?_) -- @t32 binS .gtr 3 (.tmp 31) (.const (.int .i64 4)) t31 (.int .i64 4)
        · skip
          refine J.op R.pickF ?_ -- @t33 pickS t29 (.bool true) t32
          refine J.gopF rfl ?_
          refine J.gopF rfl ?_
          refine J.op R.pickT ?_ -- @t37 pickS t33 (.bool true) t36
          refine J.gopF rfl ?_
          refine J.gopF rfl ?_
          refine J.op R.pickT ?_ -- @t41 pickS t37 (.bool true) t40
          exact J.done ⟨rfl, by simp only [List.cons.injEq, Value.bool.injEq, and_true]; first | (symm; rw [decide_eq_true_iff]; omega) | (symm; rw [decide_eq_false_iff_not]; omega) | exact decide_eq_decide.2 (by omega), rfl⟩ -- @leaf[t41]
        · skip
          refine J.op R.pickF ?_ -- @t33 pickS t29 (.bool true) t32
          refine J.gopT rfl ?_
          refine J.op R.pure ?_
          refine J.gopT rfl ?_
          refine J.opD R.lss (fun ht36 => ?_) (fun ht36 => ?_) -- @t36 binS .lss 3 (.tmp 35) (.const (.int .i64 0)) t35 (.int .i64 0)
          · skip
            refine J.op R.pickF ?_ -- @t37 pickS t33 (.bool true) t36
            refine J.gopF rfl ?_
            refine J.gopF rfl ?_
            refine J.op R.pickT ?_ -- @t41 pickS t37 (.bool true) t40
            exact J.done ⟨rfl, by simp only [List.cons.injEq, Value.bool.injEq, and_true]; first | (symm; rw [decide_eq_true_iff]; omega) | (symm; rw [decide_eq_false_iff_not]; omega) | exact decide_eq_decide.2 (by omega), rfl⟩ -- @leaf[t41]
          · skip
            refine J.op R.pickF ?_ -- @t37 pickS t33 (.bool true) t36
            refine J.gopT rfl ?_
            refine J.op R.pure ?_
            refine J.gopT rfl ?_
            refine J.op R.gtr ?_ -- @t40 binS .gtr 3 (.tmp 39) (.const (.int .i64 500)) t39 (.int .i64 500)
            refine J.op R.pickF ?_ -- @t41 pickS t37 (.bool true) t40
            exact J.done ⟨rfl, by simp only [List.cons.injEq, Value.bool.injEq, and_true]; first | (symm; rw [decide_eq_true_iff]; omega) | (symm; rw [decide_eq_false_iff_not]; omega) | exact decide_eq_decide.2 (by omega), rfl⟩ -- @leaf[t41]
    · skip
      refine J.iteT ?_
      have hF : stepsF c kind n = 1 := by unfold stepsF rightF; rw [if_neg ht26]; (repeat' split) <;> omega
      refine J.nilRow (sz := 4) (E := 132) ?_
      refine J.imp Imp.bagNil ?_
      -- @ret[(.slicenone00),(.int.i641)]
      refine J.done (RetQ.gt (es := [Ent.row (.slice none 0 0) 4 [] 132, Ent.bag []]) (.tmp (.tmp (.nil))) ?_ ?_)
      · exact (by (try dsimp only); repeat (first | exact Has.nil | refine Has.cons (by repeat (first | (with_reducible exact Out.here) | ((with_reducible refine Out.cells ?_); first | rfl | (simp; done)) | ((with_reducible refine Out.row ?_); first | rfl | (simp; done)) | (with_reducible apply Out.there))) ?_))
      · exact ⟨none, 0, 0, [], by rw [stepsM, if_neg (by rw [hF]; decide)]; rfl, by rw [hF]; rfl, rfl⟩
    · skip
      refine J.iteF ?_
      refine J.op bd60_0 ?_ -- @t43 vS (Instr.build 60 #[(0, a2)])
      refine J.boxA fun bt44 => ?_
      refine J.op (R.ldA ag53 (by with_reducible repeat (first | exact Pick.here | apply Pick.there)) rfl) ?_ -- @t46 vS (Instr.loadAt 53 t4)
      have hrf : rightF c kind = 0 := by unfold rightF; rw [if_neg ht26, if_neg (by omega)]
      have hF : stepsF c kind n = 0 := by unfold stepsF; rw [if_neg (fun h => h hrf), if_neg (by omega)]
      obtain ⟨hc, hk0, hk4⟩ := right_ok hrf
      obtain ⟨s0, h00⟩ := get_ex (l := c.syms) (i := 0) (by have := clen hc; omega)
      have hs0 : symAt c 0 = s0 := by simp [symAt, h00]
      have hsg := syms_get h00
      obtain ⟨hg, hr, -⟩ := sym_range (sym_ok hc h00)
      have hix := index_range hc
      have hq : c.index.tdiv 100 = c.index / 100 := Int.tdiv_eq_ediv_of_nonneg (by omega)
      refine J.callE en32 (s32 xa xn xc (.slice ya yn yc) c.index c.f0 c.f1 c.f2 c.h0 c.h1 c.rows) rfl (fun _ _ hs => (Cfg.at_stab _ _ hs.ext hw).2) ?_ -- @t47 callS (.func (.func 32) #[] #[]) [t46]
      refine J.op (R.ext rfl) ?_ -- @t48 vS (Instr.extract t47 0)
      refine J.op (R.ext rfl) ?_ -- @t49 vS (Instr.extract t47 1)
      refine J.op bd132_0_2 ?_ -- @t51 vS (Instr.build 132 #[(0, (.int .i64 2)), (2, t48)])
      refine J.bsR (els := stRow [(⟨2, 0, (startAt c.rows).1, []⟩, .slice none 0 0)]) bs67_1 rfl (fun l hl => (stRow_lit l hl).1) rfl (by decide) fun bt52 => ?_ -- @t52 vS (Instr.buildSlice 67 1 #[(0, t51)])
      refine J.op fa53_0 ?_
      refine J.op (R.ld o48 (by with_reducible repeat (first | exact Pick.here | apply Pick.there)) rfl) ?_ -- @t54 vS (Instr.loadAt 48 t53)
      refine J.ixW sl48 hX (by omega) hsg fun bq oq hkt55 => ?_ -- @t55 ix t54 (.int .i64 0)
      refine J.op (R.ldKA ag123 (hkt55 _) rfl) ?_ -- @t56 vS (Instr.loadAt 123 t55)
      refine J.alloc z123 fun bt16 => ?_
      refine J.stSA sz123 (by with_reducible repeat (first | exact Pick.here | apply Pick.there)) rfl (Nat.le_of_ble_eq_true rfl) rfl (cs' := s0.cells) rfl ?_ -- @tu uS (Instr.storeAt 123 t16 t56)
      refine J.bind ?_ -- @tv_8 bind tv_8 ([15])
      refine J.block ?_
      -- @tx loop [t52, (.int .i64 0)]
      refine J.imp Imp.bagNil ?_
      refine J.nilRow (sz := 1) (E := 5) ?_
      refine J.imp (stPush (E := 5) (l := []) (s := ⟨2, 0, (startAt c.rows).1, []⟩) (v := .slice none 0 0)) ?_
      refine J.loop (α := Nat × List (Stp × Value) × Option Addr × Nat × Nat) (fun (i, l, _) => (i : Int) ≤ n ∧ l.map Prod.fst = stepsL c kind x i) (fun (i, _, a, m, cc) => [.slice a m cc, .int .i64 ((i : Nat) : Int)]) (fun (i, l, a, m, cc) => [Ent.row (.slice a m cc) 4 (stRow (l)) 132, Ent.bag (stBag 5 (l)), Ent.cells bt44 [.int .u64 (dn (stepsK x i) x)] 60, Ent.cells bt4 (c.cells (.slice xa xn xc) (.slice ya yn yc)) 53, Ent.cells bt16 s0.cells 123]) (fun (i, _) => n.toNat - i) (0, [] ++ [(⟨2, 0, (startAt c.rows).1, []⟩, .slice none 0 0)], some ⟨bt52, 0, none⟩, 1, 1) ⟨by omega, rfl⟩ rfl (Imp.take (by (try dsimp only); repeat (first | exact Has.nil | refine Has.cons (by repeat (first | (with_reducible exact Out.here) | ((with_reducible refine Out.cells ?_); first | rfl | (simp; done)) | ((with_reducible refine Out.row ?_); first | rfl | (simp; done)) | (with_reducible apply Out.there))) ?_))) ?_
      rintro ⟨i, l, a, m, cc⟩ ⟨hi, hl⟩
      dsimp only at hi hl ⊢
      have hll : l.length = i + 1 := by have := congrArg List.length hl; rwa [List.length_map, stepsL_len] at this
      try simp only [List.headD_cons, List.tail_cons]
      refine J.opD R.lss (fun ht59 => ?_) (fun ht59 => ?_) -- @t59 binS .lss 3 (.tmp 57) (.tmp 58) (tx.tail.headD undef) a3
      · skip
        refine J.iteT ?_
        refine J.bind ?_ -- @tv_7 bind tv_7 ([15])
        refine J.block ?_
        refine J.op bd132 ?_ -- @t62 vS (Instr.build 132 #[])
        refine J.alloc z132 fun bt18 => ?_
        refine J.stW sz132 (by with_reducible repeat (first | exact Pick.here | apply Pick.there)) rfl rfl rfl ?_ -- @tu_1 uS (Instr.storeAt 132 t18 t62)
        have r3 := th_range (k := stepsK x i + 1) (x := x) (n := 3) (by decide)
        have ri := th_range (k := stepsK x i + 1) (x := x) (n := i + 1) (by omega)
        have r25 := th_range (k := stepsK x i + 1) (x := x) (n := 25) (by decide)
        have r5 := th_range (k := stepsK x i + 1) (x := x) (n := 5) (by decide)
        have m25 := mul_band (g := c.index.tdiv 100) (m := 24) (by omega) (show 0 ≤ th (stepsK x i + 1) x 25 ∧ th (stepsK x i + 1) x 25 ≤ 24 by omega)
        have m5 := mul_band (g := s0.grid) (m := 4) (by omega) (show 0 ≤ th (stepsK x i + 1) x 5 ∧ th (stepsK x i + 1) x 5 ≤ 4 by omega)
        have r10 := th_range (k := stepsK x i) (x := x) (n := 10) (by decide)
        refine J.callT en28 (RefNext_pos bt44 x 10 (stepsK x i) (by decide)) rfl (fun _ _ _ => trivial) (Take.cons (by (try dsimp only); repeat (first | (with_reducible exact Out.here) | ((with_reducible refine Out.cells ?_); first | rfl | (simp; done)) | ((with_reducible refine Out.row ?_); first | rfl | (simp; done)) | (with_reducible apply Out.there))) Take.nil) (fun v es hv => ?_)
        obtain ⟨rfl, rfl⟩ := hv
        simp only [List.cons_append, List.nil_append] -- @t64 callS (.func (.func 28) #[] #[]) [t44, (.int .i64 10)]
        refine J.bind ?_ -- @tv_6 bind tv_6 ([])
        refine J.block ?_
        refine J.opD R.lss (fun ht77 => ?_) (fun ht77 => ?_) -- @t77 binS .lss 2 (.tmp 76) (.const (.int .i64 6)) t64 (.int .i64 6)
        · skip
          refine J.bind ?_ -- @tv_5 bind tv_5 ([])
          refine J.iteT ?_
          refine J.op (R.ldA ag53 (by with_reducible repeat (first | exact Pick.here | apply Pick.there)) rfl) ?_ -- @t79 vS (Instr.loadAt 53 t4)
          have hok : ordOk c kind i = true := by unfold ordOk; simp; omega
          refine J.callT en26 (s26 bt44 (stepsK x i + 1) x (.slice xa xn xc) (.slice ya yn yc) c kind i) rfl (fun _ _ hs => ⟨RdF.arg (RdF.base hw.1) syms_ne hs (by simp [dn]), RdF.arg (RdF.base hw.2) trows_ne hs (by simp [dn])⟩) (Take.cons (by (try dsimp only); repeat (first | (with_reducible exact Out.here) | ((with_reducible refine Out.cells ?_); first | rfl | (simp; done)) | ((with_reducible refine Out.row ?_); first | rfl | (simp; done)) | (with_reducible apply Out.there))) Take.nil) (fun v es hv => ?_)
          obtain ⟨rfl, rfl⟩ := hv
          simp only [List.cons_append, List.nil_append] -- @t83 callS (.func (.func 26) #[] #[]) [t79, t44, a1, (tx.tail.headD undef)]
          refine J.callT en66 (s66 (ordM (stepsK x i + 1) c kind i x) (ord_ok hok (by omega))) rfl (fun _ _ _ => trivial) Take.nil (fun v es ht84 => ?_)
          obtain ⟨at84, nt84, ct84, rfl, rfl⟩ := ht84
          simp only [List.cons_append, List.nil_append] -- @t84 callS (.func (.func 66) #[] #[]) [t83]
          refine J.op (R.ext rfl) ?_ -- @t85 vS (Instr.extract t84 0)
          refine J.op (R.ext rfl) ?_ -- @t86 vS (Instr.extract t84 1)
          refine J.stSA sz132 (by with_reducible repeat (first | exact Pick.here | apply Pick.there)) rfl (Nat.le_of_ble_eq_true rfl) rfl (cs' := stpC ⟨1, 0, 0, cmdB (ordM (stepsK x i + 1) c kind i x)⟩ (.slice at84 nt84 ct84)) rfl ?_ -- @tu_2 uS (Instr.storeAt 132 t18 t85)
          refine J.done ?_ -- then tv_5 = []
          refine J.done ?_ -- then tv_6 = []
          refine J.op (R.ldA ag132 (by with_reducible repeat (first | exact Pick.here | apply Pick.there)) rfl) ?_ -- @t127 vS (Instr.loadAt 132 t18)
          refine J.bs bs67_1 fun bt128 => ?_ -- @t128 vS (Instr.buildSlice 67 1 #[(0, t127)])
          refine J.append sl67 (by with_reducible repeat (first | exact Pick.here | apply Pick.there)) (SeeS.lit (els := [stpC ⟨1, 0, 0, cmdB (ordM (stepsK x i + 1) c kind i x)⟩ (.slice at84 nt84 ct84)]) (by with_reducible repeat (first | exact Pick.here | apply Pick.there)) (by rfl) (fun l hl => (stRow_lit l hl).1) (by rfl) (by decide)) stRow_lit (by rw [stRow_len]; simp; omega) (by rw [stRow_len]; simp [maxLen]; omega) fun at129 nt129 ct129 => ?_
          rw [stRow_snoc] -- @t129 bltS .append #[67, 67] 67 #[false, false] [(tx.headD undef), t128]
          refine J.done ?_ -- then tv_7 = [t129]
          refine J.op (R.add64 (by omega)) ?_ -- @t61 binS .add 3 (.tmp 60) (.const (.int .i64 1)) (tx.tail.headD undef) (.int .i64 1)
          -- @again[(tv_7.headDundef),t61]
          have hs : ⟨1, 0, 0, cmdB (ordM (stepsK x i + 1) c kind i x)⟩ = stpM (stepsK x i) c kind i x := by unfold stpM; rw [if_neg (by omega)]
          have hk : stepsK x (i + 1) = ordN (stepsK x i + 1) c kind i := by rw [show ordN (stepsK x i + 1) c kind i = stepsK x i + 1 + 7 from if_pos hok]; exact if_neg (by omega)
          refine J.imp (Imp.take (es := [Ent.row (.slice at84 nt84 ct84) 1 (u8s (cmdB (ordM (stepsK x i + 1) c kind i x))) 5, Ent.bag (stBag 5 (l)), Ent.row (.slice at129 nt129 ct129) 4 (stRow (l ++ [(⟨1, 0, 0, cmdB (ordM (stepsK x i + 1) c kind i x)⟩, .slice at84 nt84 ct84)])) 132, Ent.cells bt44 [.int .u64 (dn (ordN (stepsK x i + 1) c kind i) x)] 60, Ent.cells bt4 (c.cells (.slice xa xn xc) (.slice ya yn yc)) 53, Ent.cells bt16 s0.cells 123]) (by (try dsimp only); repeat (first | exact Has.nil | refine Has.cons (by repeat (first | (with_reducible exact Out.here) | ((with_reducible refine Out.cells ?_); first | rfl | (simp; done)) | ((with_reducible refine Out.row ?_); first | rfl | (simp; done)) | (with_reducible apply Out.there))) ?_))) ?_
          refine J.imp (stPush (E := 5) (l := l) (s := ⟨1, 0, 0, cmdB (ordM (stepsK x i + 1) c kind i x)⟩) (v := .slice at84 nt84 ct84)) ?_
          exact J.done ⟨(i + 1, l ++ [(⟨1, 0, 0, cmdB (ordM (stepsK x i + 1) c kind i x)⟩, .slice at84 nt84 ct84)], at129, nt129, ct129), ⟨by dsimp only; omega, st_snoc hl hs⟩, rfl, by dsimp only; rw [hk]; exact Imp.take (by (try dsimp only); repeat (first | exact Has.nil | refine Has.cons (by repeat (first | (with_reducible exact Out.here) | ((with_reducible refine Out.cells ?_); first | rfl | (simp; done)) | ((with_reducible refine Out.row ?_); first | rfl | (simp; done)) | (with_reducible apply Out.there))) ?_)), by dsimp only; omega⟩
        · skip
          refine J.bind ?_ -- @tv_5 bind tv_5 ([])
          refine J.iteF ?_
          refine J.opD R.lss (fun ht89 => ?_) (fun ht89 => ?_) -- @t89 binS .lss 2 (.tmp 88) (.const (.int .i64 8)) t64 (.int .i64 8)
          · skip
            refine J.bind ?_ -- @tv_4 bind tv_4 ([])
            refine J.iteT ?_
            refine J.callT en28 (RefNext_pos bt44 x 3 (stepsK x i + 1) (by decide)) rfl (fun _ _ _ => trivial) (Take.cons (by (try dsimp only); repeat (first | (with_reducible exact Out.here) | ((with_reducible refine Out.cells ?_); first | rfl | (simp; done)) | ((with_reducible refine Out.row ?_); first | rfl | (simp; done)) | (with_reducible apply Out.there))) Take.nil) (fun v es hv => ?_)
            obtain ⟨rfl, rfl⟩ := hv
            simp only [List.cons_append, List.nil_append] -- @t91 callS (.func (.func 28) #[] #[]) [t44, (.int .i64 3)]
            refine J.op (R.asI R.add (v := th (stepsK x i + 1) x 3 + 1) (by rw [i64_in _ (by omega)]; omega)) ?_ -- @t92 binS .add 2 (.const (.int .i64 1)) (.tmp 91) (.int .i64 1) t91
            refine J.op bd132_0_2 ?_ -- @t93 vS (Instr.build 132 #[(0, (.int .i64 2)), (2, t92)])
            refine J.stSA sz132 (by with_reducible repeat (first | exact Pick.here | apply Pick.there)) rfl (Nat.le_of_ble_eq_true rfl) rfl (cs' := stpC ⟨2, 0, th (stepsK x i + 1) x 3 + 1, []⟩ (.slice none 0 0)) rfl ?_ -- @tu_3 uS (Instr.storeAt 132 t18 t93)
            refine J.done ?_ -- then tv_4 = []
            refine J.done ?_ -- then tv_5 = []
            refine J.done ?_ -- then tv_6 = []
            refine J.op (R.ldA ag132 (by with_reducible repeat (first | exact Pick.here | apply Pick.there)) rfl) ?_ -- @t127 vS (Instr.loadAt 132 t18)
            refine J.bs bs67_1 fun bt128 => ?_ -- @t128 vS (Instr.buildSlice 67 1 #[(0, t127)])
            refine J.append sl67 (by with_reducible repeat (first | exact Pick.here | apply Pick.there)) (SeeS.lit (els := [stpC ⟨2, 0, th (stepsK x i + 1) x 3 + 1, []⟩ (.slice none 0 0)]) (by with_reducible repeat (first | exact Pick.here | apply Pick.there)) (by rfl) (fun l hl => (stRow_lit l hl).1) (by rfl) (by decide)) stRow_lit (by rw [stRow_len]; simp; omega) (by rw [stRow_len]; simp [maxLen]; omega) fun at129 nt129 ct129 => ?_
            rw [stRow_snoc] -- @t129#2 bltS .append #[67, 67] 67 #[false, false] [(tx.headD undef), t128]
            refine J.done ?_ -- then tv_7 = [t129]
            refine J.op (R.add64 (by omega)) ?_ -- @t61 binS .add 3 (.tmp 60) (.const (.int .i64 1)) (tx.tail.headD undef) (.int .i64 1)
            -- @again[(tv_7.headDundef),t61]#2
            refine J.nilRow (sz := 1) (E := 5) ?_
            have hs : ⟨2, 0, th (stepsK x i + 1) x 3 + 1, []⟩ = stpM (stepsK x i) c kind i x := by unfold stpM; rw [if_pos (by omega)]; unfold othM; rw [if_pos ht89]
            have hk : stepsK x (i + 1) = stepsK x i + 1 + 1 := by exact if_pos (by omega)
            refine J.imp (Imp.take (es := [Ent.row (.slice none 0 0) 1 (u8s ([])) 5, Ent.bag (stBag 5 (l)), Ent.row (.slice at129 nt129 ct129) 4 (stRow (l ++ [(⟨2, 0, th (stepsK x i + 1) x 3 + 1, []⟩, .slice none 0 0)])) 132, Ent.cells bt44 [.int .u64 (dn (stepsK x i + 1 + 1) x)] 60, Ent.cells bt4 (c.cells (.slice xa xn xc) (.slice ya yn yc)) 53, Ent.cells bt16 s0.cells 123]) (by (try dsimp only); repeat (first | exact Has.nil | refine Has.cons (by repeat (first | (with_reducible exact Out.here) | ((with_reducible refine Out.cells ?_); first | rfl | (simp; done)) | ((with_reducible refine Out.row ?_); first | rfl | (simp; done)) | (with_reducible apply Out.there))) ?_))) ?_
            refine J.imp (stPush (E := 5) (l := l) (s := ⟨2, 0, th (stepsK x i + 1) x 3 + 1, []⟩) (v := .slice none 0 0)) ?_
            exact J.done ⟨(i + 1, l ++ [(⟨2, 0, th (stepsK x i + 1) x 3 + 1, []⟩, .slice none 0 0)], at129, nt129, ct129), ⟨by dsimp only; omega, st_snoc hl hs⟩, rfl, by dsimp only; rw [hk]; exact Imp.take (by (try dsimp only); repeat (first | exact Has.nil | refine Has.cons (by repeat (first | (with_reducible exact Out.here) | ((with_reducible refine Out.cells ?_); first | rfl | (simp; done)) | ((with_reducible refine Out.row ?_); first | rfl | (simp; done)) | (with_reducible apply Out.there))) ?_)), by dsimp only; omega⟩
          · skip
            refine J.bind ?_ -- @tv_4 bind tv_4 ([])
            refine J.iteF ?_
            refine J.opD R.eql (fun ht96 => ?_) (fun ht96 => ?_) -- @t96 binS .eql 2 (.tmp 95) (.const (.int .i64 8)) t64 (.int .i64 8)
            · skip
              refine J.bind ?_ -- @tv_3 bind tv_3 ([])
              refine J.iteT ?_
              refine J.op (R.add64 (by omega)) ?_ -- @t100 binS .add 2 (.tmp 99) (.const (.int .i64 1)) (tx.tail.headD undef) (.int .i64 1)
              refine J.callT en28 (RefNext_pos bt44 x (i + 1) (stepsK x i + 1) (by omega)) rfl (fun _ _ _ => trivial) (Take.cons (by (try dsimp only); repeat (first | (with_reducible exact Out.here) | ((with_reducible refine Out.cells ?_); first | rfl | (simp; done)) | ((with_reducible refine Out.row ?_); first | rfl | (simp; done)) | (with_reducible apply Out.there))) Take.nil) (fun v es hv => ?_)
              obtain ⟨rfl, rfl⟩ := hv
              simp only [List.cons_append, List.nil_append] -- @t101 callS (.func (.func 28) #[] #[]) [t44, t100]
              refine J.op (R.asI R.add (v := th (stepsK x i + 1) x (i + 1) + 1) (by rw [i64_in _ (by omega)]; omega)) ?_ -- @t102 binS .add 2 (.const (.int .i64 1)) (.tmp 101) (.int .i64 1) t101
              refine J.op bd62_0_2 ?_ -- @t103 vS (Instr.build 62 #[(0, (.int .i64 2)), (2, t102)])
              refine J.callT en66 (s66 (cancelC (th (stepsK x i + 1) x (i + 1) + 1)) (cancel_ok (by omega))) rfl (fun _ _ _ => trivial) Take.nil (fun v es ht104 => ?_)
              obtain ⟨at104, nt104, ct104, rfl, rfl⟩ := ht104
              simp only [List.cons_append, List.nil_append] -- @t104 callS (.func (.func 66) #[] #[]) [t103]
              refine J.op (R.ext rfl) ?_ -- @t105 vS (Instr.extract t104 0)
              refine J.op (R.ext rfl) ?_ -- @t106 vS (Instr.extract t104 1)
              refine J.stSA sz132 (by with_reducible repeat (first | exact Pick.here | apply Pick.there)) rfl (Nat.le_of_ble_eq_true rfl) rfl (cs' := stpC ⟨1, 0, 0, cmdB (cancelC (th (stepsK x i + 1) x (i + 1) + 1))⟩ (.slice at104 nt104 ct104)) rfl ?_ -- @tu_4 uS (Instr.storeAt 132 t18 t105)
              refine J.done ?_ -- then tv_3 = []
              refine J.done ?_ -- then tv_4 = []
              refine J.done ?_ -- then tv_5 = []
              refine J.done ?_ -- then tv_6 = []
              refine J.op (R.ldA ag132 (by with_reducible repeat (first | exact Pick.here | apply Pick.there)) rfl) ?_ -- @t127 vS (Instr.loadAt 132 t18)
              refine J.bs bs67_1 fun bt128 => ?_ -- @t128 vS (Instr.buildSlice 67 1 #[(0, t127)])
              refine J.append sl67 (by with_reducible repeat (first | exact Pick.here | apply Pick.there)) (SeeS.lit (els := [stpC ⟨1, 0, 0, cmdB (cancelC (th (stepsK x i + 1) x (i + 1) + 1))⟩ (.slice at104 nt104 ct104)]) (by with_reducible repeat (first | exact Pick.here | apply Pick.there)) (by rfl) (fun l hl => (stRow_lit l hl).1) (by rfl) (by decide)) stRow_lit (by rw [stRow_len]; simp; omega) (by rw [stRow_len]; simp [maxLen]; omega) fun at129 nt129 ct129 => ?_
              rw [stRow_snoc] -- @t129#3 bltS .append #[67, 67] 67 #[false, false] [(tx.headD undef), t128]
              refine J.done ?_ -- then tv_7 = [t129]
              refine J.op (R.add64 (by omega)) ?_ -- @t61 binS .add 3 (.tmp 60) (.const (.int .i64 1)) (tx.tail.headD undef) (.int .i64 1)
              -- @again[(tv_7.headDundef),t61]#3
              have hs : ⟨1, 0, 0, cmdB (cancelC (th (stepsK x i + 1) x (i + 1) + 1))⟩ = stpM (stepsK x i) c kind i x := by unfold stpM; rw [if_pos (by omega)]; unfold othM; rw [if_neg ht89, if_pos ht96]
              have hk : stepsK x (i + 1) = stepsK x i + 1 + 1 := by exact if_pos (by omega)
              refine J.imp (Imp.take (es := [Ent.row (.slice at104 nt104 ct104) 1 (u8s (cmdB (cancelC (th (stepsK x i + 1) x (i + 1) + 1)))) 5, Ent.bag (stBag 5 (l)), Ent.row (.slice at129 nt129 ct129) 4 (stRow (l ++ [(⟨1, 0, 0, cmdB (cancelC (th (stepsK x i + 1) x (i + 1) + 1))⟩, .slice at104 nt104 ct104)])) 132, Ent.cells bt44 [.int .u64 (dn (stepsK x i + 1 + 1) x)] 60, Ent.cells bt4 (c.cells (.slice xa xn xc) (.slice ya yn yc)) 53, Ent.cells bt16 s0.cells 123]) (by (try dsimp only); repeat (first | exact Has.nil | refine Has.cons (by repeat (first | (with_reducible exact Out.here) | ((with_reducible refine Out.cells ?_); first | rfl | (simp; done)) | ((with_reducible refine Out.row ?_); first | rfl | (simp; done)) | (with_reducible apply Out.there))) ?_))) ?_
              refine J.imp (stPush (E := 5) (l := l) (s := ⟨1, 0, 0, cmdB (cancelC (th (stepsK x i + 1) x (i + 1) + 1))⟩) (v := .slice at104 nt104 ct104)) ?_
              exact J.done ⟨(i + 1, l ++ [(⟨1, 0, 0, cmdB (cancelC (th (stepsK x i + 1) x (i + 1) + 1))⟩, .slice at104 nt104 ct104)], at129, nt129, ct129), ⟨by dsimp only; omega, st_snoc hl hs⟩, rfl, by dsimp only; rw [hk]; exact Imp.take (by (try dsimp only); repeat (first | exact Has.nil | refine Has.cons (by repeat (first | (with_reducible exact Out.here) | ((with_reducible refine Out.cells ?_); first | rfl | (simp; done)) | ((with_reducible refine Out.row ?_); first | rfl | (simp; done)) | (with_reducible apply Out.there))) ?_)), by dsimp only; omega⟩
            · skip
              refine J.bind ?_ -- @tv_3 bind tv_3 ([])
              refine J.iteF ?_
              refine J.bindB (kind = 4 ∧ (i : Int).tmod 7 = 0) ?_ (fun hbtv_1 => ?_) (fun hbtv_1 => ?_) -- @tv_1
              · skip
                refine J.opD R.eql (fun ht109 => ?_) (fun ht109 => ?_) -- @t109 binS .eql 3 (.tmp 108) (.const (.int .i64 4)) a1 (.int .i64 4)
                · skip
                  refine J.gopT rfl ?_
                  refine J.op R.pure ?_
                  refine J.gopT rfl ?_
                  refine J.op (R.rem (by first | decide | assumption | omega)) ?_ -- @t112 binS .rem 3 (.tmp 111) (.const (.int .i64 7)) t111 (.int .i64 7)
                  refine J.gopT rfl ?_
                  refine J.op R.eql ?_ -- @t113 binS .eql 3 (.tmp 112) (.const (.int .i64 0)) t112 (.int .i64 0)
                  refine J.op R.pickT ?_ -- @t114 pickS t109 t113 (.bool false)
                  exact J.done ⟨rfl, by simp only [List.cons.injEq, Value.bool.injEq, and_true]; first | (symm; rw [decide_eq_true_iff]; omega) | (symm; rw [decide_eq_false_iff_not]; omega) | exact decide_eq_decide.2 (by omega), rfl⟩ -- @leaf[t114]
                · skip
                  refine J.gopF rfl ?_
                  refine J.gopF rfl ?_
                  refine J.gopF rfl ?_
                  refine J.op R.pickF ?_ -- @t114 pickS t109 t113 (.bool false)
                  exact J.done ⟨rfl, by simp only [List.cons.injEq, Value.bool.injEq, and_true]; first | (symm; rw [decide_eq_true_iff]; omega) | (symm; rw [decide_eq_false_iff_not]; omega) | exact decide_eq_decide.2 (by omega), rfl⟩ -- @leaf[t114]
              · skip
                refine J.bind ?_ -- @tv_2 bind tv_2 ([])
                refine J.iteT ?_
                refine J.draw ?_
                refine J.op fa53_2 ?_
                refine J.op (R.ld o2 (by with_reducible repeat (first | exact Pick.here | apply Pick.there)) rfl) ?_ -- @t116 vS (Instr.loadAt 2 t115)
                refine J.op fa53_2 ?_
                refine J.op (R.ld o2 (by with_reducible repeat (first | exact Pick.here | apply Pick.there)) rfl) ?_ -- @t118 vS (Instr.loadAt 2 t117)
                refine J.op (R.asI (R.quo (by decide)) (v := c.index.tdiv 100) (i64_in _ (by omega))) ?_ -- @t119 binS .quo 2 (.tmp 118) (.const (.int .i64 100)) t118 (.int .i64 100)
                refine J.callT en28 (RefNext_pos bt44 x 25 (stepsK x i + 1) (by decide)) rfl (fun _ _ _ => trivial) (Take.cons (by (try dsimp only); repeat (first | (with_reducible exact Out.here) | ((with_reducible refine Out.cells ?_); first | rfl | (simp; done)) | ((with_reducible refine Out.row ?_); first | rfl | (simp; done)) | (with_reducible apply Out.there))) Take.nil) (fun v es hv => ?_)
                obtain ⟨rfl, rfl⟩ := hv
                simp only [List.cons_append, List.nil_append] -- @t121 callS (.func (.func 28) #[] #[]) [t44, (.int .i64 25)]
                refine J.chkR (R.asI (R.quo (by decide)) (v := c.index.tdiv 100) (i64_in _ (by omega))) ?_ -- @chk:t119 binS .quo 2 (.tmp 118) (.const (.int .i64 100)) t118 (.int .i64 100)
                refine J.chkR (R.ld o2 (by with_reducible repeat (first | exact Pick.here | apply Pick.there)) rfl) ?_ -- @chk:t118 vS (Instr.loadAt 2 t117)
                refine J.chkR fa53_2 ?_ -- @chk:t117 vS (Instr.fieldAt 53 t4 2)
                refine J.chkR (R.ld o2 (by with_reducible repeat (first | exact Pick.here | apply Pick.there)) rfl) ?_ -- @chk:t116 vS (Instr.loadAt 2 t115)
                refine J.chkR fa53_2 ?_ -- @chk:t115 vS (Instr.fieldAt 53 t4 2)
                refine J.op (R.asI R.mul (v := c.index.tdiv 100 * th (stepsK x i + 1) x 25) (i64_in _ (by omega))) ?_ -- @t122 binS .mul 2 (.tmp 119) (.tmp 121) t119 t121
                refine J.op (R.sub64 (by omega)) ?_ -- @t123 binS .sub 2 (.tmp 116) (.tmp 122) t116 t122
                refine J.op R.maxI ?_ -- @t124 bltS .max #[2, 2] 2 #[false, true] [t123, (.int .i64 1)]
                refine J.op bd132_0_2 ?_ -- @t125 vS (Instr.build 132 #[(0, (.int .i64 3)), (2, t124)])
                refine J.stSA sz132 (by with_reducible repeat (first | exact Pick.here | apply Pick.there)) rfl (Nat.le_of_ble_eq_true rfl) rfl (cs' := stpC ⟨3, 0, max (c.index - c.index.tdiv 100 * th (stepsK x i + 1) x 25) 1, []⟩ (.slice none 0 0)) rfl ?_ -- @tu_5 uS (Instr.storeAt 132 t18 t125)
                refine J.done ?_ -- then tv_2 = []
                refine J.done ?_ -- then tv_3 = []
                refine J.done ?_ -- then tv_4 = []
                refine J.done ?_ -- then tv_5 = []
                refine J.done ?_ -- then tv_6 = []
                refine J.op (R.ldA ag132 (by with_reducible repeat (first | exact Pick.here | apply Pick.there)) rfl) ?_ -- @t127 vS (Instr.loadAt 132 t18)
                refine J.bs bs67_1 fun bt128 => ?_ -- @t128 vS (Instr.buildSlice 67 1 #[(0, t127)])
                refine J.append sl67 (by with_reducible repeat (first | exact Pick.here | apply Pick.there)) (SeeS.lit (els := [stpC ⟨3, 0, max (c.index - c.index.tdiv 100 * th (stepsK x i + 1) x 25) 1, []⟩ (.slice none 0 0)]) (by with_reducible repeat (first | exact Pick.here | apply Pick.there)) (by rfl) (fun l hl => (stRow_lit l hl).1) (by rfl) (by decide)) stRow_lit (by rw [stRow_len]; simp; omega) (by rw [stRow_len]; simp [maxLen]; omega) fun at129 nt129 ct129 => ?_
                rw [stRow_snoc] -- @t129#4 bltS .append #[67, 67] 67 #[false, false] [(tx.headD undef), t128]
                refine J.done ?_ -- then tv_7 = [t129]
                refine J.op (R.add64 (by omega)) ?_ -- @t61 binS .add 3 (.tmp 60) (.const (.int .i64 1)) (tx.tail.headD undef) (.int .i64 1)
                -- @again[(tv_7.headDundef),t61]#4
                refine J.nilRow (sz := 1) (E := 5) ?_
                have hs : ⟨3, 0, max (c.index - c.index.tdiv 100 * th (stepsK x i + 1) x 25) 1, []⟩ = stpM (stepsK x i) c kind i x := by unfold stpM; rw [if_pos (by omega)]; unfold othM; rw [if_neg ht89, if_neg ht96, if_pos hbtv_1]
                have hk : stepsK x (i + 1) = stepsK x i + 1 + 1 := by exact if_pos (by omega)
                refine J.imp (Imp.take (es := [Ent.row (.slice none 0 0) 1 (u8s ([])) 5, Ent.bag (stBag 5 (l)), Ent.row (.slice at129 nt129 ct129) 4 (stRow (l ++ [(⟨3, 0, max (c.index - c.index.tdiv 100 * th (stepsK x i + 1) x 25) 1, []⟩, .slice none 0 0)])) 132, Ent.cells bt44 [.int .u64 (dn (stepsK x i + 1 + 1) x)] 60, Ent.cells bt4 (c.cells (.slice xa xn xc) (.slice ya yn yc)) 53, Ent.cells bt16 s0.cells 123]) (by (try dsimp only); repeat (first | exact Has.nil | refine Has.cons (by repeat (first | (with_reducible exact Out.here) | ((with_reducible refine Out.cells ?_); first | rfl | (simp; done)) | ((with_reducible refine Out.row ?_); first | rfl | (simp; done)) | (with_reducible apply Out.there))) ?_))) ?_
                refine J.imp (stPush (E := 5) (l := l) (s := ⟨3, 0, max (c.index - c.index.tdiv 100 * th (stepsK x i + 1) x 25) 1, []⟩) (v := .slice none 0 0)) ?_
                exact J.done ⟨(i + 1, l ++ [(⟨3, 0, max (c.index - c.index.tdiv 100 * th (stepsK x i + 1) x 25) 1, []⟩, .slice none 0 0)], at129, nt129, ct129), ⟨by dsimp only; omega, st_snoc hl hs⟩, rfl, by dsimp only; rw [hk]; exact Imp.take (by (try dsimp only); repeat (first | exact Has.nil | refine Has.cons (by repeat (first | (with_reducible exact Out.here) | ((with_reducible refine Out.cells ?_); first | rfl | (simp; done)) | ((with_reducible refine Out.row ?_); first | rfl | (simp; done)) | (with_reducible apply Out.there))) ?_)), by dsimp only; omega⟩
              · skip
                refine J.bind ?_ -- @tv_2 bind tv_2 ([])
                refine J.iteF ?_
                refine J.draw ?_
                refine J.op fa123_1 ?_
                refine J.op (R.ld o2 (by with_reducible repeat (first | exact Pick.here | apply Pick.there)) rfl) ?_ -- @t66 vS (Instr.loadAt 2 t65)
                refine J.op fa123_0 ?_
                refine J.op (R.ld o2 (by with_reducible repeat (first | exact Pick.here | apply Pick.there)) rfl) ?_ -- @t68 vS (Instr.loadAt 2 t67)
                refine J.callT en28 (RefNext_pos bt44 x 5 (stepsK x i + 1) (by decide)) rfl (fun _ _ _ => trivial) (Take.cons (by (try dsimp only); repeat (first | (with_reducible exact Out.here) | ((with_reducible refine Out.cells ?_); first | rfl | (simp; done)) | ((with_reducible refine Out.row ?_); first | rfl | (simp; done)) | (with_reducible apply Out.there))) Take.nil) (fun v es hv => ?_)
                obtain ⟨rfl, rfl⟩ := hv
                simp only [List.cons_append, List.nil_append] -- @t70 callS (.func (.func 28) #[] #[]) [t44, (.int .i64 5)]
                refine J.chkR (R.ld o2 (by with_reducible repeat (first | exact Pick.here | apply Pick.there)) rfl) ?_ -- @chk:t68 vS (Instr.loadAt 2 t67)
                refine J.chkR fa123_0 ?_ -- @chk:t67 vS (Instr.fieldAt 123 t16 0)
                refine J.chkR (R.ld o2 (by with_reducible repeat (first | exact Pick.here | apply Pick.there)) rfl) ?_ -- @chk:t66 vS (Instr.loadAt 2 t65)
                refine J.chkR fa123_1 ?_ -- @chk:t65 vS (Instr.fieldAt 123 t16 1)
                refine J.op (R.asI R.mul (v := s0.grid * th (stepsK x i + 1) x 5) (i64_in _ (by omega))) ?_ -- @t71 binS .mul 2 (.tmp 68) (.tmp 70) t68 t70
                refine J.op (R.sub64 (by omega)) ?_ -- @t72 binS .sub 2 (.tmp 66) (.tmp 71) t66 t71
                refine J.op R.maxI ?_ -- @t73 bltS .max #[2, 2] 2 #[false, true] [t72, (.int .i64 0)]
                refine J.op bd132_0_2 ?_ -- @t74 vS (Instr.build 132 #[(0, (.int .i64 4)), (2, t73)])
                refine J.stSA sz132 (by with_reducible repeat (first | exact Pick.here | apply Pick.there)) rfl (Nat.le_of_ble_eq_true rfl) rfl (cs' := stpC ⟨4, 0, max (s0.ref - s0.grid * th (stepsK x i + 1) x 5) 0, []⟩ (.slice none 0 0)) rfl ?_ -- @tu_6 uS (Instr.storeAt 132 t18 t74)
                refine J.done ?_ -- then tv_2 = []
                refine J.done ?_ -- then tv_3 = []
                refine J.done ?_ -- then tv_4 = []
                refine J.done ?_ -- then tv_5 = []
                refine J.done ?_ -- then tv_6 = []
                refine J.op (R.ldA ag132 (by with_reducible repeat (first | exact Pick.here | apply Pick.there)) rfl) ?_ -- @t127 vS (Instr.loadAt 132 t18)
                refine J.bs bs67_1 fun bt128 => ?_ -- @t128 vS (Instr.buildSlice 67 1 #[(0, t127)])
                refine J.append sl67 (by with_reducible repeat (first | exact Pick.here | apply Pick.there)) (SeeS.lit (els := [stpC ⟨4, 0, max (s0.ref - s0.grid * th (stepsK x i + 1) x 5) 0, []⟩ (.slice none 0 0)]) (by with_reducible repeat (first | exact Pick.here | apply Pick.there)) (by rfl) (fun l hl => (stRow_lit l hl).1) (by rfl) (by decide)) stRow_lit (by rw [stRow_len]; simp; omega) (by rw [stRow_len]; simp [maxLen]; omega) fun at129 nt129 ct129 => ?_
                rw [stRow_snoc] -- @t129#5 bltS .append #[67, 67] 67 #[false, false] [(tx.headD undef), t128]
                refine J.done ?_ -- then tv_7 = [t129]
                refine J.op (R.add64 (by omega)) ?_ -- @t61 binS .add 3 (.tmp 60) (.const (.int .i64 1)) (tx.tail.headD undef) (.int .i64 1)
                -- @again[(tv_7.headDundef),t61]#5
                refine J.nilRow (sz := 1) (E := 5) ?_
                have hs : ⟨4, 0, max (s0.ref - s0.grid * th (stepsK x i + 1) x 5) 0, []⟩ = stpM (stepsK x i) c kind i x := by unfold stpM; rw [if_pos (by omega)]; unfold othM; rw [if_neg ht89, if_neg ht96, if_neg hbtv_1, hs0]
                have hk : stepsK x (i + 1) = stepsK x i + 1 + 1 := by exact if_pos (by omega)
                refine J.imp (Imp.take (es := [Ent.row (.slice none 0 0) 1 (u8s ([])) 5, Ent.bag (stBag 5 (l)), Ent.row (.slice at129 nt129 ct129) 4 (stRow (l ++ [(⟨4, 0, max (s0.ref - s0.grid * th (stepsK x i + 1) x 5) 0, []⟩, .slice none 0 0)])) 132, Ent.cells bt44 [.int .u64 (dn (stepsK x i + 1 + 1) x)] 60, Ent.cells bt4 (c.cells (.slice xa xn xc) (.slice ya yn yc)) 53, Ent.cells bt16 s0.cells 123]) (by (try dsimp only); repeat (first | exact Has.nil | refine Has.cons (by repeat (first | (with_reducible exact Out.here) | ((with_reducible refine Out.cells ?_); first | rfl | (simp; done)) | ((with_reducible refine Out.row ?_); first | rfl | (simp; done)) | (with_reducible apply Out.there))) ?_))) ?_
                refine J.imp (stPush (E := 5) (l := l) (s := ⟨4, 0, max (s0.ref - s0.grid * th (stepsK x i + 1) x 5) 0, []⟩) (v := .slice none 0 0)) ?_
                exact J.done ⟨(i + 1, l ++ [(⟨4, 0, max (s0.ref - s0.grid * th (stepsK x i + 1) x 5) 0, []⟩, .slice none 0 0)], at129, nt129, ct129), ⟨by dsimp only; omega, st_snoc hl hs⟩, rfl, by dsimp only; rw [hk]; exact Imp.take (by (try dsimp only); repeat (first | exact Has.nil | refine Has.cons (by repeat (first | (with_reducible exact Out.here) | ((with_reducible refine Out.cells ?_); first | rfl | (simp; done)) | ((with_reducible refine Out.row ?_); first | rfl | (simp; done)) | (with_reducible apply Out.there))) ?_)), by dsimp only; omega⟩
      · skip
        refine J.iteF ?_
        refine J.done ⟨fun _ => ?_, fun h => absurd rfl h⟩ -- exit [(tx.headD undef)]
        -- @ret[(tv_8.headDundef),(.int.i640)]
        refine J.done (RetQ.gt (es := [Ent.row (.slice a m cc) 4 (stRow (l)) 132, Ent.bag (stBag 5 (l))]) (.tmp (.tmp (.nil))) ?_ ?_)
        · exact (by (try dsimp only); repeat (first | exact Has.nil | refine Has.cons (by repeat (first | (with_reducible exact Out.here) | ((with_reducible refine Out.cells ?_); first | rfl | (simp; done)) | ((with_reducible refine Out.row ?_); first | rfl | (simp; done)) | (with_reducible apply Out.there))) ?_))
        · exact ⟨a, m, cc, l, by rw [stepsM, if_pos hF, show n.toNat = i by omega]; exact hl, by rw [hF]; rfl, rfl⟩
end Go.Proofs.Ytipgdalebkhgpaa
