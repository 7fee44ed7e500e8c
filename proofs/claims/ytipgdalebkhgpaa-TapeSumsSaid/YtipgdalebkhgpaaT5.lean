/-
  Contracts of functions.
-/
import Derived.Test.YtipgdalebkhgpaaTerms1
import Derived.Test.YtipgdalebkhgpaaTerms2
import Derived.Test.YtipgdalebkhgpaaTab
import Derived.Test.YtipgdalebkhgpaaModSums
import Derived.Test.YtipgdalebkhgpaaT4
import Derived.Test.YtipgdalebkhgpaaT3
import Derived.Test.YtipgdalebkhgpaaT1
import Derived.Test.YtipgdalebkhgpaaB2
set_option maxRecDepth 100000
set_option maxHeartbeats 4000000
set_option linter.unusedVariables false
set_option linter.unusedSimpArgs false
namespace Go.Proofs.Ytipgdalebkhgpaa
open Go Go.RowKit Fw
/-- damper/damperlaw34.TapeSums -/
theorem s4 (v : Value) (l : List Msg) (sym width : Int) (hok : ∀ m, m ∈ l → i64R m.tick) (hwd : i64R width) :
    FnE Try.prog 4 [v, .int .i64 sym, .int .i64 width] (fun w => RdS w v 9 (msgs l)) (.bool true) := by
  refine fn_of_J (cx := cx4) hmix Try.func4 (by kernel_rfl) (eq4 _ _ _) fun w hw => ?_
  have hS : ∀ H, SeeS ⟨Try.prog, w, footOf []⟩ H v 9 (msgs l) := fun H => SeeS.ofW0 hw msgs_ne
  have hm := hw.le
  simp only [msgs_len, maxLen] at hm
  refine J.bindB ((150 < l.length ∨ width < 1)) ?_ (fun hbtv => ?_) (fun hbtv => ?_) -- @tv
  · skip
    refine J.op (R.lenN sl22 (hS _) msgs_len) ?_ -- @t14 bltS .len #[22] 3 #[false] [a0]
    refine J.opD R.gtr (fun ht15 => ?_) (fun ht15 => ?_) -- @t15 binS .gtr 3 (.tmp 14) (.const (.int .i64 150)) t14 (.int .i64 150)
    · skip
      refine J.gopF rfl ?_
      refine J.gopF rfl ?_
      refine J.op R.pickT ?_ -- @t19 pickS t15 (.bool true) t18
      exact J.done ⟨rfl, by simp only [List.cons.injEq, Value.bool.injEq, and_true]; first | (symm; rw [decide_eq_true_iff]; omega) | (symm; rw [decide_eq_false_iff_not]; omega) | exact decide_eq_decide.2 (by omega), rfl⟩ -- @leaf[t19]
    · skip
      refine J.gopT rfl ?_
      refine J.op R.pure ?_
      refine J.gopT rfl ?_
      refine J.op R.lss ?_ -- @t18 binS .lss 2 (.tmp 17) (.const (.int .i64 1)) t17 (.int .i64 1)
      refine J.op R.pickF ?_ -- @t19 pickS t15 (.bool true) t18
      exact J.done ⟨rfl, by simp only [List.cons.injEq, Value.bool.injEq, and_true]; first | (symm; rw [decide_eq_true_iff]; omega) | (symm; rw [decide_eq_false_iff_not]; omega) | exact decide_eq_decide.2 (by omega), rfl⟩ -- @leaf[t19]
  · skip
    refine J.iteT ?_
    refine J.callE en11 (s11) rfl (fun _ _ _ => trivial) ?_ -- @t20 callS (.func (.func 11) #[] #[]) []
    -- @ret[t20]
    exact J.done (RetQ.ge (.tmp (.nil)) (by first | rfl | (simp [mkRes, *]; done) | (simp_all [mkRes]; done) | (simp_all [mkRes]; first | omega | (rw [decide_eq_false_iff_not]; omega) | (rw [decide_eq_true_iff]; omega)) | (simp only [mkRes]; (repeat' split) <;> first | rfl | omega | (simp_all; done) | (simp_all; omega))))
  · skip
    refine J.iteF ?_
    have hXl := cts_len (sym := sym) (l := l)
    have hXo : Cok (cts sym l) := cts_ok hok
    obtain ⟨gs, hg1, hg2, hg3⟩ := bars_grp (w := width) (by omega) hXo
    have hgl : (gAll gs).length ≤ 150 := by rw [hg2]; omega
    have hiff := gBars_nil hg3
    have hsum := sums hg3 hgl
    rw [hg2] at hiff hsum
    refine J.callE en15 (s15 v l sym (by omega) hok) rfl (fun _ _ hs => hS _ _ _ hs) ?_ -- @t24 callS (.func (.func 15) #[] #[]) [a0, a1]
    refine J.op (R.ext rfl) ?_ -- @t25 vS (Instr.extract t24 0)
    refine J.op (R.ext rfl) ?_ -- @t26 vS (Instr.extract t24 1)
    refine J.alloc z32 fun bt7 => ?_
    refine J.stW sz32 (by with_reducible repeat (first | exact Pick.here | apply Pick.there)) rfl rfl rfl ?_ -- @tu uS (Instr.storeAt 32 t7 t25)
    refine J.callT en12 (s12 v l sym width (by omega) hok hwd) rfl (fun _ _ hs => hS _ _ _ hs) Take.nil (fun v2 es hv => ?_)
    obtain ⟨at31, nt31, ct31, rfl, rfl⟩ := hv
    simp only [List.cons_append, List.nil_append]
    rw [show faultW width = 0 from if_neg (by omega), show barsF width (cts sym l) = gBars gs by rw [← hg1]; exact if_neg (by omega)] -- @t31 callS (.func (.func 12) #[] #[]) [a0, a1, a2]
    refine J.op (R.ext rfl) ?_ -- @t32 vS (Instr.extract t31 0)
    refine J.op (R.ext rfl) ?_ -- @t33 vS (Instr.extract t31 1)
    refine J.bind ?_ -- @tv_1 bind tv_1 ([42])
    refine J.opDF R.neq (by simp) ?_ -- @t35
    refine J.gopT rfl ?_
    refine J.op R.pure ?_
    refine J.gopT rfl ?_
    refine J.op R.pure ?_
    refine J.gopT rfl ?_
    refine J.op (R.lenN sl24 (SeeS.row (v := .slice at31 nt31 ct31) (E := 32) (by with_reducible repeat (first | exact Pick.here | apply Pick.there))) bars_len) ?_ -- @t39 bltS .len #[24] 3 #[false] [t38]
    refine J.gopT rfl ?_
    refine J.op R.gtr ?_ -- @t40 binS .gtr 3 (.tmp 39) (.const (.int .i64 0)) t39 (.int .i64 0)
    refine J.gopT rfl ?_
    refine J.opDF (R.neqB bl4) (by exact fun h => h (decide_eq_decide.2 hiff)) ?_ -- @t41
    refine J.op R.pickF ?_ -- @t42 pickS t35 (.bool true) t41
    refine J.done ?_ -- then tv_1 = [t42]
    refine J.iteF ?_
    refine J.alloc z32 fun bt11 => ?_
    refine J.bind ?_ -- @tv_4 bind tv_4 ([6])
    refine J.block ?_
    -- @tx loop [(.bool false), (.int .i64 0)]
    refine J.loop (α := Nat) (fun i => i ≤ (gBars gs).length) (fun i => [.bool false, .int .i64 i]) (fun i => [Ent.cells bt11 (mergeAll ((gBars gs).take i)).cells 32, Ent.row (.slice at31 nt31 ct31) 8 (bars (gBars gs)) 32, Ent.cells bt7 (wholeM (cts sym l)).cells 32]) (fun i => (gBars gs).length - i) 0 (Nat.zero_le _) rfl ?_ ?_
    · rw [List.take_zero]
      exact Imp.take (by (try dsimp only); repeat (first | exact Has.nil | refine Has.cons (by repeat (first | (with_reducible exact Out.here) | ((with_reducible refine Out.cells ?_); first | rfl | (simp; done)) | ((with_reducible refine Out.row ?_); first | rfl | (simp; done)) | (with_reducible apply Out.there))) ?_))
    rintro i hi
    try simp only [List.headD_cons, List.tail_cons]
    refine J.op (R.lenN sl24 (SeeS.row (v := .slice at31 nt31 ct31) (E := 32) (by with_reducible repeat (first | exact Pick.here | apply Pick.there))) bars_len) ?_ -- @t45 bltS .len #[24] 3 #[false] [t32]
    refine J.opD R.lss (fun ht46 => ?_) (fun ht46 => ?_) -- @t46 binS .lss 3 (.tmp 43) (.tmp 45) (tx.tail.headD undef) t45
    · skip
      refine J.iteT ?_
      refine J.bind ?_ -- @tv_3 bind tv_3 ([6])
      refine J.block ?_
      refine J.bind ?_ -- @tv_2 bind tv_2 ([116])
      refine J.draw ?_
      have hgb : (gBars gs).length = gs.length := by simp [gBars]
      obtain ⟨g, hg⟩ := get_ex (l := gs) (i := i) (by omega)
      have hgm := List.mem_of_getElem? hg
      obtain ⟨hbok, f1, f2, f3, f4, f5, f6⟩ := bar_of (w := width) (by omega) (hg3 g hgm) (Nat.le_trans (gAll_mem hgm) hgl)
      have hag := (agg_take hg3 hgl (i := i) (by omega)).ok (gAll_ok fun y hy => hg3 y (List.mem_of_mem_take hy)) (Nat.le_trans gAll_take hgl)
      have hx : (gBars gs)[i]? = some (barOf g.1 g.2) := by simp [gBars, hg]
      generalize barOf g.1 g.2 = b at hbok f1 f2 f3 f4 f5 f6 hx
      refine J.fact (φ := ∃ g, at31 = some ⟨g, 0, none⟩ ∧ nt31 = (bars (gBars gs)).length ∧ (gBars gs).length ≤ 9223372036854775807) (fun _ _ hs => ?_) fun hg => ?_
      · have hml := Row.le (a := at31) (n := nt31) (c := ct31) (E := 32) (els := bars (gBars gs)) (by with_reducible repeat (first | exact Pick.here | apply Pick.there)) hs
        rw [bars_len, maxLen] at hml
        obtain ⟨g, h1, h2⟩ := Row.shape (a := at31) (n := nt31) (c := ct31) (E := 32) (els := bars (gBars gs)) (by with_reducible repeat (first | exact Pick.here | apply Pick.there)) (by intro h; have h2 : (bars (gBars gs)).length = 0 := (by rw [h]; rfl); rw [bars_len] at h2; omega) hs
        exact ⟨g, h1, h2, by omega⟩
      obtain ⟨gat31, rfl, rfl, hmlat31⟩ := hg
      refine J.op (R.ixN sl24 (i := i) (by rw [bars_len]; omega)) ?_ -- @t51 ix t32 (tx.tail.headD undef)
      refine J.op fa32_7 ?_
      refine J.op (R.ldRow o2 (by with_reducible repeat (first | exact Pick.here | apply Pick.there)) (bars_at hx) (off := 7) rfl rfl) ?_ -- @t53 vS (Instr.loadAt 2 t52)
      refine J.op (R.ixN sl24 (i := i) (by rw [bars_len]; omega)) ?_ -- @t56 ix t32 (tx.tail.headD undef)
      refine J.op fa32_3 ?_
      refine J.op (R.ldRow o2 (by with_reducible repeat (first | exact Pick.here | apply Pick.there)) (bars_at hx) (off := 3) rfl rfl) ?_ -- @t58 vS (Instr.loadAt 2 t57)
      refine J.opDF R.lss (by omega) ?_ -- @t59
      refine J.gopT rfl ?_
      refine J.op R.pure ?_
      refine J.gopT rfl ?_
      refine J.op R.pure ?_
      refine J.gopT rfl ?_
      refine J.op (R.ixN sl24 (i := i) (by rw [bars_len]; omega)) ?_ -- @t63 ix t61 t62
      refine J.gopT rfl ?_
      refine J.op fa32_7 ?_
      refine J.gopT rfl ?_
      refine J.op (R.ldRow o2 (by with_reducible repeat (first | exact Pick.here | apply Pick.there)) (bars_at hx) (off := 7) rfl rfl) ?_ -- @t65 vS (Instr.loadAt 2 t64)
      refine J.gopT rfl ?_
      refine J.op R.pure ?_
      refine J.gopT rfl ?_
      refine J.op R.pure ?_
      refine J.gopT rfl ?_
      refine J.op (R.ixN sl24 (i := i) (by rw [bars_len]; omega)) ?_ -- @t68 ix t66 t67
      refine J.gopT rfl ?_
      refine J.op fa32_2 ?_
      refine J.gopT rfl ?_
      refine J.op (R.ldRow o2 (by with_reducible repeat (first | exact Pick.here | apply Pick.there)) (bars_at hx) (off := 2) rfl rfl) ?_ -- @t70 vS (Instr.loadAt 2 t69)
      refine J.gopT rfl ?_
      refine J.opDF R.gtr (by omega) ?_ -- @t71
      refine J.op R.pickF ?_ -- @t72 pickS t59 (.bool true) t71
      refine J.gopT rfl ?_
      refine J.op R.pure ?_
      refine J.gopT rfl ?_
      refine J.op R.pure ?_
      refine J.gopT rfl ?_
      refine J.op (R.ixN sl24 (i := i) (by rw [bars_len]; omega)) ?_ -- @t76 ix t74 t75
      refine J.gopT rfl ?_
      refine J.op fa32_1 ?_
      refine J.gopT rfl ?_
      refine J.op (R.ldRow o2 (by with_reducible repeat (first | exact Pick.here | apply Pick.there)) (bars_at hx) (off := 1) rfl rfl) ?_ -- @t78 vS (Instr.loadAt 2 t77)
      refine J.gopT rfl ?_
      refine J.op R.pure ?_
      refine J.gopT rfl ?_
      refine J.op R.pure ?_
      refine J.gopT rfl ?_
      refine J.op (R.ixN sl24 (i := i) (by rw [bars_len]; omega)) ?_ -- @t81 ix t79 t80
      refine J.gopT rfl ?_
      refine J.op fa32_3 ?_
      refine J.gopT rfl ?_
      refine J.op (R.ldRow o2 (by with_reducible repeat (first | exact Pick.here | apply Pick.there)) (bars_at hx) (off := 3) rfl rfl) ?_ -- @t83 vS (Instr.loadAt 2 t82)
      refine J.gopT rfl ?_
      refine J.opDF R.lss (by omega) ?_ -- @t84
      refine J.op R.pickF ?_ -- @t85 pickS t72 (.bool true) t84
      refine J.gopT rfl ?_
      refine J.op R.pure ?_
      refine J.gopT rfl ?_
      refine J.op R.pure ?_
      refine J.gopT rfl ?_
      refine J.op (R.ixN sl24 (i := i) (by rw [bars_len]; omega)) ?_ -- @t89 ix t87 t88
      refine J.gopT rfl ?_
      refine J.op fa32_4 ?_
      refine J.gopT rfl ?_
      refine J.op (R.ldRow o2 (by with_reducible repeat (first | exact Pick.here | apply Pick.there)) (bars_at hx) (off := 4) rfl rfl) ?_ -- @t91 vS (Instr.loadAt 2 t90)
      refine J.gopT rfl ?_
      refine J.op R.pure ?_
      refine J.gopT rfl ?_
      refine J.op R.pure ?_
      refine J.gopT rfl ?_
      refine J.op (R.ixN sl24 (i := i) (by rw [bars_len]; omega)) ?_ -- @t94 ix t92 t93
      refine J.gopT rfl ?_
      refine J.op fa32_2 ?_
      refine J.gopT rfl ?_
      refine J.op (R.ldRow o2 (by with_reducible repeat (first | exact Pick.here | apply Pick.there)) (bars_at hx) (off := 2) rfl rfl) ?_ -- @t96 vS (Instr.loadAt 2 t95)
      refine J.gopT rfl ?_
      refine J.opDF R.gtr (by omega) ?_ -- @t97
      refine J.op R.pickF ?_ -- @t98 pickS t85 (.bool true) t97
      refine J.gopT rfl ?_
      refine J.op R.pure ?_
      refine J.gopT rfl ?_
      refine J.op R.pure ?_
      refine J.gopT rfl ?_
      refine J.op (R.ixN sl24 (i := i) (by rw [bars_len]; omega)) ?_ -- @t102 ix t100 t101
      refine J.gopT rfl ?_
      refine J.op fa32_0 ?_
      refine J.gopT rfl ?_
      refine J.op (R.ldRow o2 (by with_reducible repeat (first | exact Pick.here | apply Pick.there)) (bars_at hx) (off := 0) rfl rfl) ?_ -- @t104 vS (Instr.loadAt 2 t103)
      refine J.gopT rfl ?_
      refine J.op R.pure ?_
      refine J.gopT rfl ?_
      refine J.op (R.rem (by first | decide | assumption | omega)) ?_ -- @t106 binS .rem 2 (.tmp 104) (.tmp 105) t104 t105
      refine J.gopT rfl ?_
      refine J.opDF R.neq (by exact fun h => h f5) ?_ -- @t107
      refine J.op R.pickF ?_ -- @t108 pickS t98 (.bool true) t107
      refine J.gopT rfl ?_
      refine J.op R.pure ?_
      refine J.gopT rfl ?_
      refine J.op R.pure ?_
      refine J.gopT rfl ?_
      refine J.op (R.ixN sl24 (i := i) (by rw [bars_len]; omega)) ?_ -- @t112 ix t110 t111
      refine J.gopT rfl ?_
      refine J.op fa32_6 ?_
      refine J.gopT rfl ?_
      refine J.op (R.ldRow o3 (by with_reducible repeat (first | exact Pick.here | apply Pick.there)) (bars_at hx) (off := 6) rfl rfl) ?_ -- @t114 vS (Instr.loadAt 3 t113)
      refine J.gopT rfl ?_
      refine J.opDF R.lss (by omega) ?_ -- @t115
      refine J.op R.pickF ?_ -- @t116 pickS t108 (.bool true) t115
      refine J.done ?_ -- then tv_2 = [t116]
      refine J.iteF ?_
      refine J.draw ?_
      refine J.op (R.ldA ag32 (by with_reducible repeat (first | exact Pick.here | apply Pick.there)) rfl) ?_ -- @t117 vS (Instr.loadAt 32 t11)
      refine J.op (R.ixN sl24 (i := i) (by rw [bars_len]; omega)) ?_ -- @t120 ix t32 (tx.tail.headD undef)
      refine J.op (R.ldRowA ag32 (by with_reducible repeat (first | exact Pick.here | apply Pick.there)) (bars_at hx) (off := 0) rfl rfl rfl) ?_ -- @t121 vS (Instr.loadAt 32 t120)
      refine J.callE en16 (s16 (mergeAll ((gBars gs).take i)) b hag hbok) rfl (fun _ _ _ => trivial) ?_ -- @t122 callS (.func (.func 16) #[] #[]) [t117, t121]
      refine J.stW sz32 (by with_reducible repeat (first | exact Pick.here | apply Pick.there)) rfl rfl rfl ?_ -- @tu_1 uS (Instr.storeAt 32 t11 t122)
      refine J.done ?_ -- then tv_3 = [(tx.headD undef)]
      refine J.op (R.add64 (by omega)) ?_ -- @t48 binS .add 3 (.tmp 47) (.const (.int .i64 1)) (tx.tail.headD undef) (.int .i64 1)
      -- @again[(tv_3.headDundef),t48]
      exact J.done ⟨i + 1, by omega, rfl, by rw [mergeAll_take hx]; exact Imp.take (by (try dsimp only); repeat (first | exact Has.nil | refine Has.cons (by repeat (first | (with_reducible exact Out.here) | ((with_reducible refine Out.cells ?_); first | rfl | (simp; done)) | ((with_reducible refine Out.row ?_); first | rfl | (simp; done)) | (with_reducible apply Out.there))) ?_)), by omega⟩
    · skip
      refine J.iteF ?_
      refine J.done ⟨fun _ => ?_, fun h => absurd rfl h⟩ -- exit [(tx.headD undef)]
      refine J.bind ?_ -- @tv_5 bind tv_5 ([6])
      refine J.op fa32_5 ?_
      obtain rfl : i = (gBars gs).length := by omega
      rw [List.take_length]
      refine J.op (R.ld o2 (by with_reducible repeat (first | exact Pick.here | apply Pick.there)) rfl) ?_ -- @t124 vS (Instr.loadAt 2 t123)
      refine J.op fa32_5 ?_
      refine J.op (R.ld o2 (by with_reducible repeat (first | exact Pick.here | apply Pick.there)) rfl) ?_ -- @t126 vS (Instr.loadAt 2 t125)
      refine J.opDT R.eql (by exact hsum.1) ?_ -- @t127
      refine J.gopT rfl ?_
      refine J.op fa32_6 ?_
      refine J.gopT rfl ?_
      refine J.op (R.ld o3 (by with_reducible repeat (first | exact Pick.here | apply Pick.there)) rfl) ?_ -- @t130 vS (Instr.loadAt 3 t129)
      refine J.gopT rfl ?_
      refine J.op fa32_6 ?_
      refine J.gopT rfl ?_
      refine J.op (R.ld o3 (by with_reducible repeat (first | exact Pick.here | apply Pick.there)) rfl) ?_ -- @t132 vS (Instr.loadAt 3 t131)
      refine J.gopT rfl ?_
      refine J.opDT R.eql (by exact hsum.2.1) ?_ -- @t133
      refine J.op R.pickT ?_ -- @t134 pickS t127 t133 (.bool false)
      refine J.gopT rfl ?_
      refine J.op fa32_2 ?_
      refine J.gopT rfl ?_
      refine J.op (R.ld o2 (by with_reducible repeat (first | exact Pick.here | apply Pick.there)) rfl) ?_ -- @t137 vS (Instr.loadAt 2 t136)
      refine J.gopT rfl ?_
      refine J.op fa32_2 ?_
      refine J.gopT rfl ?_
      refine J.op (R.ld o2 (by with_reducible repeat (first | exact Pick.here | apply Pick.there)) rfl) ?_ -- @t139 vS (Instr.loadAt 2 t138)
      refine J.gopT rfl ?_
      refine J.opDT R.eql (by exact hsum.2.2.1) ?_ -- @t140
      refine J.op R.pickT ?_ -- @t141 pickS t134 t140 (.bool false)
      refine J.gopT rfl ?_
      refine J.op fa32_3 ?_
      refine J.gopT rfl ?_
      refine J.op (R.ld o2 (by with_reducible repeat (first | exact Pick.here | apply Pick.there)) rfl) ?_ -- @t144 vS (Instr.loadAt 2 t143)
      refine J.gopT rfl ?_
      refine J.op fa32_3 ?_
      refine J.gopT rfl ?_
      refine J.op (R.ld o2 (by with_reducible repeat (first | exact Pick.here | apply Pick.there)) rfl) ?_ -- @t146 vS (Instr.loadAt 2 t145)
      refine J.gopT rfl ?_
      refine J.opDT R.eql (by exact hsum.2.2.2.1) ?_ -- @t147
      refine J.op R.pickT ?_ -- @t148 pickS t141 t147 (.bool false)
      refine J.gopT rfl ?_
      refine J.op fa32_1 ?_
      refine J.gopT rfl ?_
      refine J.op (R.ld o2 (by with_reducible repeat (first | exact Pick.here | apply Pick.there)) rfl) ?_ -- @t151 vS (Instr.loadAt 2 t150)
      refine J.gopT rfl ?_
      refine J.op fa32_1 ?_
      refine J.gopT rfl ?_
      refine J.op (R.ld o2 (by with_reducible repeat (first | exact Pick.here | apply Pick.there)) rfl) ?_ -- @t153 vS (Instr.loadAt 2 t152)
      refine J.gopT rfl ?_
      refine J.opDT R.eql (by exact hsum.2.2.2.2.1) ?_ -- @t154
      refine J.op R.pickT ?_ -- @t155 pickS t148 t154 (.bool false)
      refine J.gopT rfl ?_
      refine J.op fa32_4 ?_
      refine J.gopT rfl ?_
      refine J.op (R.ld o2 (by with_reducible repeat (first | exact Pick.here | apply Pick.there)) rfl) ?_ -- @t158 vS (Instr.loadAt 2 t157)
      refine J.gopT rfl ?_
      refine J.op fa32_4 ?_
      refine J.gopT rfl ?_
      refine J.op (R.ld o2 (by with_reducible repeat (first | exact Pick.here | apply Pick.there)) rfl) ?_ -- @t160 vS (Instr.loadAt 2 t159)
      refine J.gopT rfl ?_
      refine J.opDT R.eql (by exact hsum.2.2.2.2.2) ?_ -- @t161
      refine J.op R.pickT ?_ -- @t162 pickS t155 t161 (.bool false)
      refine J.gopT rfl ?_
      refine J.callE en11 (s11) rfl (fun _ _ _ => trivial) ?_ -- @t164 callS (.func (.func 11) #[] #[]) []
      refine J.op R.pickT ?_ -- @t165 pickS t162 t164 (.bool false)
      refine J.done ?_ -- then tv_5 = [t165]
      -- @ret[(tv_5.headDundef)]
      exact J.done (RetQ.ge (.tmp (.nil)) (by first | rfl | (simp [mkRes, *]; done) | (simp_all [mkRes]; done) | (simp_all [mkRes]; first | omega | (rw [decide_eq_false_iff_not]; omega) | (rw [decide_eq_true_iff]; omega)) | (simp only [mkRes]; (repeat' split) <;> first | rfl | omega | (simp_all; done) | (simp_all; omega))))
end Go.Proofs.Ytipgdalebkhgpaa
