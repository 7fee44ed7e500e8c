/-
  The functions of the program as Progs; each the one that comp makes of its code.
-/
import Derived.Test.YtipgdalebkhgpaaChecked
import Derived.Test.YtipgdalebkhgpaaFw7
set_option maxRecDepth 100000
set_option linter.unusedVariables false
namespace Go.Proofs.Ytipgdalebkhgpaa
open Go Go.RowKit Fw Prog
/-- damper/damperlaw34.TapeBars -/
def p3 (a0 : Value) (a1 : Value) (a2 : Value) : Prog :=
  .op true (bltS .len #[22] 3 #[false] [a0]) fun t13 =>
  .op true (binS .gtr 3 (.tmp 13) (.const (.int .i64 150)) t13 (.int .i64 150)) fun t14 =>
  .ite t14
    (
    .op false (callS (.func (.func 11) #[] #[]) []) fun t15 =>
    .done .ret [t15]
    )
    (
    .op false (callS (.func (.func 12) #[] #[]) [a0, a1, a2]) fun t20 =>
    .op true (vS (Instr.extract t20 0)) fun t21 =>
    .op true (vS (Instr.extract t20 1)) fun t22 =>
    .op false (callS (.func (.func 13) #[] #[]) [a0, a1, a2]) fun t27 =>
    .op true (vS (Instr.extract t27 0)) fun t28 =>
    .op true (vS (Instr.extract t27 1)) fun t29 =>
    .bind
      (
      .op true (binS .neq 25 (.tmp 30) (.tmp 31) t22 t29) fun t32 =>
      .gop t32 false true ((pure (.value t21))) fun t34 =>
      .gop t32 false true (bltS .len #[24] 3 #[false] [t34]) fun t35 =>
      .gop t32 false true ((pure (.value t28))) fun t36 =>
      .gop t32 false true (bltS .len #[28] 3 #[false] [t36]) fun t37 =>
      .gop t32 false true (binS .neq 3 (.tmp 35) (.tmp 37) t35 t37) fun t38 =>
      .op true (pickS t32 (.bool true) t38) fun t39 =>
      .done .normal [t39]
      ) fun tv =>
    .ite (tv.headD undef)
      (
      .done .ret [(.bool false)]
      )
      (
      .bind
        (
        .block 0 <|
        .loop [(.bool false), (.int .i64 0)] fun tx =>
        .op true (bltS .len #[24] 3 #[false] [t21]) fun t42 =>
        .op true (binS .lss 3 (.tmp 40) (.tmp 42) (tx.tail.headD undef) t42) fun t43 =>
        .ite t43
          (
          .bind
            (
            .block 1 <|
            .draw <|
            .op true (vS (Instr.indexAt 24 t21 (tx.tail.headD undef))) fun t48 =>
            .op true (vS (Instr.loadAt 32 t48)) fun t49 =>
            .op true (vS (Instr.indexAt 28 t28 (tx.tail.headD undef))) fun t52 =>
            .op true (vS (Instr.loadAt 34 t52)) fun t53 =>
            .op false (callS (.func (.func 14) #[] #[]) [t53]) fun t54 =>
            .chk none (vS (Instr.loadAt 32 t48)) t49 <|
            .chk none (vS (Instr.indexAt 24 t21 (tx.tail.headD undef))) t48 <|
            .op true (binS .neq 32 (.tmp 49) (.tmp 54) t49 t54) fun t55 =>
            .ite t55
              (
              .done .ret [(.bool false)]
              )
              (
              .done .normal [(tx.headD undef)]
              )
            ) fun tv_1 =>
          .op true (binS .add 3 (.tmp 44) (.const (.int .i64 1)) (tx.tail.headD undef) (.int .i64 1)) fun t45 =>
          .done .normal [(tv_1.headD undef), t45]
          )
          (
          .done (.exit 0) [(tx.headD undef)]
          )
        ) fun tv_2 =>
      .op false (callS (.func (.func 11) #[] #[]) []) fun t56 =>
      .done .ret [t56]
      )
    )
def cx3 : Cx := { N := 57, res := [6], blk := [(0, [6]), (1, [6])], reg := [(5, [39])] }
theorem eq3 (a0 : Value) (a1 : Value) (a2 : Value) : comp cx3 (bodyC Try.f3) false [] (env0 0 [a0, a1, a2]) (fun e => retP cx3 false e) = p3 a0 a1 a2 := by kernel_rfl

/-- damper/damperlaw34.TapeSums -/
def p4 (a0 : Value) (a1 : Value) (a2 : Value) : Prog :=
  .bind
    (
    .op true (bltS .len #[22] 3 #[false] [a0]) fun t14 =>
    .op true (binS .gtr 3 (.tmp 14) (.const (.int .i64 150)) t14 (.int .i64 150)) fun t15 =>
    .gop t15 false true ((pure (.value a2))) fun t17 =>
    .gop t15 false true (binS .lss 2 (.tmp 17) (.const (.int .i64 1)) t17 (.int .i64 1)) fun t18 =>
    .op true (pickS t15 (.bool true) t18) fun t19 =>
    .done .normal [t19]
    ) fun tv =>
  .ite (tv.headD undef)
    (
    .op false (callS (.func (.func 11) #[] #[]) []) fun t20 =>
    .done .ret [t20]
    )
    (
    .op false (callS (.func (.func 15) #[] #[]) [a0, a1]) fun t24 =>
    .op true (vS (Instr.extract t24 0)) fun t25 =>
    .op true (vS (Instr.extract t24 1)) fun t26 =>
    .op false (vS (Instr.alloc 32 true (.tuple #[]))) fun t7 =>
    .op false (uS (Instr.storeAt 32 t7 t25)) fun tu =>
    .op false (callS (.func (.func 12) #[] #[]) [a0, a1, a2]) fun t31 =>
    .op true (vS (Instr.extract t31 0)) fun t32 =>
    .op true (vS (Instr.extract t31 1)) fun t33 =>
    .bind
      (
      .op true (binS .neq 25 (.tmp 34) (.const (.int .i64 0)) t33 (.int .i64 0)) fun t35 =>
      .gop t35 false true ((pure (.value t26))) fun t37 =>
      .gop t35 false true ((pure (.value t32))) fun t38 =>
      .gop t35 false true (bltS .len #[24] 3 #[false] [t38]) fun t39 =>
      .gop t35 false true (binS .gtr 3 (.tmp 39) (.const (.int .i64 0)) t39 (.int .i64 0)) fun t40 =>
      .gop t35 false true (binS .neq 4 (.tmp 37) (.tmp 40) t37 t40) fun t41 =>
      .op true (pickS t35 (.bool true) t41) fun t42 =>
      .done .normal [t42]
      ) fun tv_1 =>
    .ite (tv_1.headD undef)
      (
      .done .ret [(.bool false)]
      )
      (
      .op false (vS (Instr.alloc 32 true (.tuple #[]))) fun t11 =>
      .bind
        (
        .block 0 <|
        .loop [(.bool false), (.int .i64 0)] fun tx =>
        .op true (bltS .len #[24] 3 #[false] [t32]) fun t45 =>
        .op true (binS .lss 3 (.tmp 43) (.tmp 45) (tx.tail.headD undef) t45) fun t46 =>
        .ite t46
          (
          .bind
            (
            .block 1 <|
            .bind
              (
              .draw <|
              .op true (vS (Instr.indexAt 24 t32 (tx.tail.headD undef))) fun t51 =>
              .op true (vS (Instr.fieldAt 32 t51 7)) fun t52 =>
              .op true (vS (Instr.loadAt 2 t52)) fun t53 =>
              .op true (vS (Instr.indexAt 24 t32 (tx.tail.headD undef))) fun t56 =>
              .op true (vS (Instr.fieldAt 32 t56 3)) fun t57 =>
              .op true (vS (Instr.loadAt 2 t57)) fun t58 =>
              .op true (binS .lss 2 (.tmp 53) (.tmp 58) t53 t58) fun t59 =>
              .gop t59 false true ((pure (.value t32))) fun t61 =>
              .gop t59 false true ((pure (.value (tx.tail.headD undef)))) fun t62 =>
              .gop t59 false true (vS (Instr.indexAt 24 t61 t62)) fun t63 =>
              .gop t59 false true (vS (Instr.fieldAt 32 t63 7)) fun t64 =>
              .gop t59 false true (vS (Instr.loadAt 2 t64)) fun t65 =>
              .gop t59 false true ((pure (.value t32))) fun t66 =>
              .gop t59 false true ((pure (.value (tx.tail.headD undef)))) fun t67 =>
              .gop t59 false true (vS (Instr.indexAt 24 t66 t67)) fun t68 =>
              .gop t59 false true (vS (Instr.fieldAt 32 t68 2)) fun t69 =>
              .gop t59 false true (vS (Instr.loadAt 2 t69)) fun t70 =>
              .gop t59 false true (binS .gtr 2 (.tmp 65) (.tmp 70) t65 t70) fun t71 =>
              .op true (pickS t59 (.bool true) t71) fun t72 =>
              .gop t72 false true ((pure (.value t32))) fun t74 =>
              .gop t72 false true ((pure (.value (tx.tail.headD undef)))) fun t75 =>
              .gop t72 false true (vS (Instr.indexAt 24 t74 t75)) fun t76 =>
              .gop t72 false true (vS (Instr.fieldAt 32 t76 1)) fun t77 =>
              .gop t72 false true (vS (Instr.loadAt 2 t77)) fun t78 =>
              .gop t72 false true ((pure (.value t32))) fun t79 =>
              .gop t72 false true ((pure (.value (tx.tail.headD undef)))) fun t80 =>
              .gop t72 false true (vS (Instr.indexAt 24 t79 t80)) fun t81 =>
              .gop t72 false true (vS (Instr.fieldAt 32 t81 3)) fun t82 =>
              .gop t72 false true (vS (Instr.loadAt 2 t82)) fun t83 =>
              .gop t72 false true (binS .lss 2 (.tmp 78) (.tmp 83) t78 t83) fun t84 =>
              .op true (pickS t72 (.bool true) t84) fun t85 =>
              .gop t85 false true ((pure (.value t32))) fun t87 =>
              .gop t85 false true ((pure (.value (tx.tail.headD undef)))) fun t88 =>
              .gop t85 false true (vS (Instr.indexAt 24 t87 t88)) fun t89 =>
              .gop t85 false true (vS (Instr.fieldAt 32 t89 4)) fun t90 =>
              .gop t85 false true (vS (Instr.loadAt 2 t90)) fun t91 =>
              .gop t85 false true ((pure (.value t32))) fun t92 =>
              .gop t85 false true ((pure (.value (tx.tail.headD undef)))) fun t93 =>
              .gop t85 false true (vS (Instr.indexAt 24 t92 t93)) fun t94 =>
              .gop t85 false true (vS (Instr.fieldAt 32 t94 2)) fun t95 =>
              .gop t85 false true (vS (Instr.loadAt 2 t95)) fun t96 =>
              .gop t85 false true (binS .gtr 2 (.tmp 91) (.tmp 96) t91 t96) fun t97 =>
              .op true (pickS t85 (.bool true) t97) fun t98 =>
              .gop t98 false true ((pure (.value t32))) fun t100 =>
              .gop t98 false true ((pure (.value (tx.tail.headD undef)))) fun t101 =>
              .gop t98 false true (vS (Instr.indexAt 24 t100 t101)) fun t102 =>
              .gop t98 false true (vS (Instr.fieldAt 32 t102 0)) fun t103 =>
              .gop t98 false true (vS (Instr.loadAt 2 t103)) fun t104 =>
              .gop t98 false true ((pure (.value a2))) fun t105 =>
              .gop t98 false true (binS .rem 2 (.tmp 104) (.tmp 105) t104 t105) fun t106 =>
              .gop t98 false true (binS .neq 2 (.tmp 106) (.const (.int .i64 0)) t106 (.int .i64 0)) fun t107 =>
              .op true (pickS t98 (.bool true) t107) fun t108 =>
              .gop t108 false true ((pure (.value t32))) fun t110 =>
              .gop t108 false true ((pure (.value (tx.tail.headD undef)))) fun t111 =>
              .gop t108 false true (vS (Instr.indexAt 24 t110 t111)) fun t112 =>
              .gop t108 false true (vS (Instr.fieldAt 32 t112 6)) fun t113 =>
              .gop t108 false true (vS (Instr.loadAt 3 t113)) fun t114 =>
              .gop t108 false true (binS .lss 3 (.tmp 114) (.const (.int .i64 1)) t114 (.int .i64 1)) fun t115 =>
              .op true (pickS t108 (.bool true) t115) fun t116 =>
              .done .normal [t116]
              ) fun tv_2 =>
            .ite (tv_2.headD undef)
              (
              .done .ret [(.bool false)]
              )
              (
              .draw <|
              .op true (vS (Instr.loadAt 32 t11)) fun t117 =>
              .op true (vS (Instr.indexAt 24 t32 (tx.tail.headD undef))) fun t120 =>
              .op true (vS (Instr.loadAt 32 t120)) fun t121 =>
              .op false (callS (.func (.func 16) #[] #[]) [t117, t121]) fun t122 =>
              .op false (uS (Instr.storeAt 32 t11 t122)) fun tu_1 =>
              .done .normal [(tx.headD undef)]
              )
            ) fun tv_3 =>
          .op true (binS .add 3 (.tmp 47) (.const (.int .i64 1)) (tx.tail.headD undef) (.int .i64 1)) fun t48 =>
          .done .normal [(tv_3.headD undef), t48]
          )
          (
          .done (.exit 0) [(tx.headD undef)]
          )
        ) fun tv_4 =>
      .bind
        (
        .op true (vS (Instr.fieldAt 32 t11 5)) fun t123 =>
        .op true (vS (Instr.loadAt 2 t123)) fun t124 =>
        .op true (vS (Instr.fieldAt 32 t7 5)) fun t125 =>
        .op true (vS (Instr.loadAt 2 t125)) fun t126 =>
        .op true (binS .eql 2 (.tmp 124) (.tmp 126) t124 t126) fun t127 =>
        .gop t127 true true (vS (Instr.fieldAt 32 t11 6)) fun t129 =>
        .gop t127 true true (vS (Instr.loadAt 3 t129)) fun t130 =>
        .gop t127 true true (vS (Instr.fieldAt 32 t7 6)) fun t131 =>
        .gop t127 true true (vS (Instr.loadAt 3 t131)) fun t132 =>
        .gop t127 true true (binS .eql 3 (.tmp 130) (.tmp 132) t130 t132) fun t133 =>
        .op true (pickS t127 t133 (.bool false)) fun t134 =>
        .gop t134 true true (vS (Instr.fieldAt 32 t11 2)) fun t136 =>
        .gop t134 true true (vS (Instr.loadAt 2 t136)) fun t137 =>
        .gop t134 true true (vS (Instr.fieldAt 32 t7 2)) fun t138 =>
        .gop t134 true true (vS (Instr.loadAt 2 t138)) fun t139 =>
        .gop t134 true true (binS .eql 2 (.tmp 137) (.tmp 139) t137 t139) fun t140 =>
        .op true (pickS t134 t140 (.bool false)) fun t141 =>
        .gop t141 true true (vS (Instr.fieldAt 32 t11 3)) fun t143 =>
        .gop t141 true true (vS (Instr.loadAt 2 t143)) fun t144 =>
        .gop t141 true true (vS (Instr.fieldAt 32 t7 3)) fun t145 =>
        .gop t141 true true (vS (Instr.loadAt 2 t145)) fun t146 =>
        .gop t141 true true (binS .eql 2 (.tmp 144) (.tmp 146) t144 t146) fun t147 =>
        .op true (pickS t141 t147 (.bool false)) fun t148 =>
        .gop t148 true true (vS (Instr.fieldAt 32 t11 1)) fun t150 =>
        .gop t148 true true (vS (Instr.loadAt 2 t150)) fun t151 =>
        .gop t148 true true (vS (Instr.fieldAt 32 t7 1)) fun t152 =>
        .gop t148 true true (vS (Instr.loadAt 2 t152)) fun t153 =>
        .gop t148 true true (binS .eql 2 (.tmp 151) (.tmp 153) t151 t153) fun t154 =>
        .op true (pickS t148 t154 (.bool false)) fun t155 =>
        .gop t155 true true (vS (Instr.fieldAt 32 t11 4)) fun t157 =>
        .gop t155 true true (vS (Instr.loadAt 2 t157)) fun t158 =>
        .gop t155 true true (vS (Instr.fieldAt 32 t7 4)) fun t159 =>
        .gop t155 true true (vS (Instr.loadAt 2 t159)) fun t160 =>
        .gop t155 true true (binS .eql 2 (.tmp 158) (.tmp 160) t158 t160) fun t161 =>
        .op true (pickS t155 t161 (.bool false)) fun t162 =>
        .gop t162 true false (callS (.func (.func 11) #[] #[]) []) fun t164 =>
        .op true (pickS t162 t164 (.bool false)) fun t165 =>
        .done .normal [t165]
        ) fun tv_5 =>
      .done .ret [(tv_5.headD undef)]
      )
    )
def cx4 : Cx := { N := 166, res := [6], blk := [(0, [6]), (1, [6])], reg := [(1, [19]), (5, [42]), (11, [116]), (14, [6])] }
theorem eq4 (a0 : Value) (a1 : Value) (a2 : Value) : comp cx4 (bodyC Try.f4) false [] (env0 0 [a0, a1, a2]) (fun e => retP cx4 false e) = p4 a0 a1 a2 := by kernel_rfl

/-- damper/damperlaw34.TapeWholes -/
def p5 (a0 : Value) (a1 : Value) (a2 : Value) : Prog :=
  .op true (bltS .len #[22] 3 #[false] [a0]) fun t18 =>
  .op true (binS .gtr 3 (.tmp 18) (.const (.int .i64 150)) t18 (.int .i64 150)) fun t19 =>
  .ite t19
    (
    .op false (callS (.func (.func 11) #[] #[]) []) fun t20 =>
    .done .ret [t20]
    )
    (
    .op false (callS (.func (.func 15) #[] #[]) [a0, a1]) fun t24 =>
    .op true (vS (Instr.extract t24 0)) fun t25 =>
    .op true (vS (Instr.extract t24 1)) fun t26 =>
    .op false (vS (Instr.alloc 32 true (.tuple #[]))) fun t7 =>
    .op false (uS (Instr.storeAt 32 t7 t25)) fun tu =>
    .op false (callS (.func (.func 17) #[] #[]) [a0, a1]) fun t30 =>
    .op true (vS (Instr.extract t30 0)) fun t31 =>
    .op true (vS (Instr.extract t30 1)) fun t32 =>
    .op false (vS (Instr.alloc 34 true (.tuple #[]))) fun t9 =>
    .op false (uS (Instr.storeAt 34 t9 t31)) fun tu_1 =>
    .op false (callS (.func (.func 18) #[] #[]) [a0, a1]) fun t36 =>
    .op true (vS (Instr.extract t36 0)) fun t37 =>
    .op true (vS (Instr.extract t36 1)) fun t38 =>
    .op false (callS (.func (.func 19) #[] #[]) [a0, a1]) fun t42 =>
    .op true (vS (Instr.extract t42 0)) fun t43 =>
    .op true (vS (Instr.extract t42 1)) fun t44 =>
    .op false (callS (.func (.func 20) #[] #[]) [a0, a1]) fun t47 =>
    .bind
      (
      .block 0 <|
      .loop [(.bool false), (.int .i64 0)] fun tx =>
      .op true (bltS .len #[22] 3 #[false] [a0]) fun t50 =>
      .op true (binS .lss 3 (.tmp 48) (.tmp 50) (tx.tail.headD undef) t50) fun t51 =>
      .ite t51
        (
        .bind
          (
          .block 1 <|
          .draw <|
          .op true (vS (Instr.indexAt 22 a0 (tx.tail.headD undef))) fun t57 =>
          .op true (vS (Instr.fieldAt 46 t57 6)) fun t58 =>
          .op true (vS (Instr.loadAt 2 t58)) fun t59 =>
          .op true (vS (Instr.lookup 43 t47 t59 false)) fun t60 =>
          .op true (vS (Instr.indexAt 22 a0 (tx.tail.headD undef))) fun t65 =>
          .op true (vS (Instr.fieldAt 46 t65 6)) fun t66 =>
          .op true (vS (Instr.loadAt 2 t66)) fun t67 =>
          .op false (callS (.func (.func 21) #[] #[]) [a0, a1, t67]) fun t68 =>
          .chk none (vS (Instr.lookup 43 t47 t59 false)) t60 <|
          .chk none (vS (Instr.loadAt 2 t58)) t59 <|
          .chk none (vS (Instr.fieldAt 46 t57 6)) t58 <|
          .chk none (vS (Instr.indexAt 22 a0 (tx.tail.headD undef))) t57 <|
          .op true (binS .neq 2 (.tmp 60) (.tmp 68) t60 t68) fun t69 =>
          .ite t69
            (
            .done .ret [(.bool false)]
            )
            (
            .done .normal [(tx.headD undef)]
            )
          ) fun tv =>
        .op true (binS .add 3 (.tmp 52) (.const (.int .i64 1)) (tx.tail.headD undef) (.int .i64 1)) fun t53 =>
        .done .normal [(tv.headD undef), t53]
        )
        (
        .done (.exit 0) [(tx.headD undef)]
        )
      ) fun tv_1 =>
    .bind
      (
      .draw <|
      .op true (vS (Instr.loadAt 32 t7)) fun t70 =>
      .op true (vS (Instr.loadAt 34 t9)) fun t71 =>
      .op false (callS (.func (.func 14) #[] #[]) [t71]) fun t72 =>
      .chk none (vS (Instr.loadAt 32 t7)) t70 <|
      .op true (binS .eql 32 (.tmp 70) (.tmp 72) t70 t72) fun t73 =>
      .gop t73 true true ((pure (.value t26))) fun t75 =>
      .gop t73 true true ((pure (.value t32))) fun t76 =>
      .gop t73 true true (binS .eql 4 (.tmp 75) (.tmp 76) t75 t76) fun t77 =>
      .op true (pickS t73 t77 (.bool false)) fun t78 =>
      .gop t78 true true ((pure (.value t37))) fun t80 =>
      .gop t78 true true ((pure (.value t43))) fun t81 =>
      .gop t78 true true (binS .eql 2 (.tmp 80) (.tmp 81) t80 t81) fun t82 =>
      .op true (pickS t78 t82 (.bool false)) fun t83 =>
      .gop t83 true true ((pure (.value t38))) fun t85 =>
      .gop t83 true true ((pure (.value t44))) fun t86 =>
      .gop t83 true true (binS .eql 4 (.tmp 85) (.tmp 86) t85 t86) fun t87 =>
      .op true (pickS t83 t87 (.bool false)) fun t88 =>
      .gop t88 true true ((pure (.value t47))) fun t90 =>
      .gop t88 true true ((pure (.value a2))) fun t91 =>
      .gop t88 true true (vS (Instr.lookup 43 t90 t91 false)) fun t92 =>
      .gop t88 true true ((pure (.value a0))) fun t93 =>
      .gop t88 true true ((pure (.value a1))) fun t94 =>
      .gop t88 true true ((pure (.value a2))) fun t95 =>
      .gop t88 true false (callS (.func (.func 21) #[] #[]) [t93, t94, t95]) fun t96 =>
      .chk (some (t88, true)) (vS (Instr.lookup 43 t90 t91 false)) t92 <|
      .gop t88 true true (binS .eql 2 (.tmp 92) (.tmp 96) t92 t96) fun t97 =>
      .op true (pickS t88 t97 (.bool false)) fun t98 =>
      .gop t98 true false (callS (.func (.func 11) #[] #[]) []) fun t100 =>
      .op true (pickS t98 t100 (.bool false)) fun t101 =>
      .done .normal [t101]
      ) fun tv_2 =>
    .done .ret [(tv_2.headD undef)]
    )
def cx5 : Cx := { N := 102, res := [6], blk := [(0, [6]), (1, [6])], reg := [(13, [6])] }
theorem eq5 (a0 : Value) (a1 : Value) (a2 : Value) : comp cx5 (bodyC Try.f5) false [] (env0 0 [a0, a1, a2]) (fun e => retP cx5 false e) = p5 a0 a1 a2 := by kernel_rfl

/-- damper/damperlaw37.DrillOrders -/
def p6 (a0 : Value) (a1 : Value) (a2 : Value) (a3 : Value) : Prog :=
  .op false (vS (Instr.box 53 a0)) fun t4 =>
  .op true (vS (Instr.loadAt 53 t4)) fun t11 =>
  .op false (callS (.func (.func 22) #[] #[]) [t11]) fun t12 =>
  .op true (vS (Op.unary .not t12)) fun t13 =>
  .ite t13
    (
    .op false (callS (.func (.func 23) #[] #[]) []) fun t14 =>
    .done .ret [t14]
    )
    (
    .op false (callS (.func (.func 24) #[] #[]) [a1]) fun t16 =>
    .op true (vS (Instr.build 60 #[(0, a1)])) fun t18 =>
    .op false (vS (Instr.box 60 t18)) fun t19 =>
    .bind
      (
      .draw <|
      .op true (vS (Instr.loadAt 53 t4)) fun t20 =>
      .op true (vS (Instr.loadAt 53 t4)) fun t25 =>
      .op false (callS (.func (.func 25) #[] #[]) [t20, t16, a2, a3]) fun t24 =>
      .chk none (vS (Instr.loadAt 53 t4)) t25 <|
      .op false (callS (.func (.func 26) #[] #[]) [t25, t19, a2, a3]) fun t29 =>
      .op true (binS .eql 62 (.tmp 24) (.tmp 29) t24 t29) fun t30 =>
      .gop t30 true true ((pure (.value t16))) fun t32 =>
      .gop t30 true true ((pure (.value t19))) fun t34 =>
      .gop t30 true false (callS (.func (.func 27) #[] #[]) [t32, (.int .i64 1000)]) fun t33 =>
      .gop t30 true false (callS (.func (.func 28) #[] #[]) [t34, (.int .i64 1000)]) fun t35 =>
      .gop t30 true true (binS .eql 2 (.tmp 33) (.tmp 35) t33 t35) fun t36 =>
      .op true (pickS t30 t36 (.bool false)) fun t37 =>
      .gop t37 true true (vS (Instr.loadAt 53 t4)) fun t39 =>
      .gop t37 true true ((pure (.value a2))) fun t40 =>
      .gop t37 true true ((pure (.value a3))) fun t41 =>
      .gop t37 true true (vS (Instr.build 62 #[])) fun t43 =>
      .gop t37 true false (callS (.func (.func 25) #[] #[]) [t39, (.pointer none), t40, t41]) fun t42 =>
      .chk (some (t37, true)) (vS (Instr.build 62 #[])) t43 <|
      .gop t37 true true (binS .eql 62 (.tmp 42) (.tmp 43) t42 t43) fun t44 =>
      .op true (pickS t37 t44 (.bool false)) fun t45 =>
      .gop t45 true false (callS (.func (.func 23) #[] #[]) []) fun t47 =>
      .op true (pickS t45 t47 (.bool false)) fun t48 =>
      .done .normal [t48]
      ) fun tv =>
    .done .ret [(tv.headD undef)]
    )
def cx6 : Cx := { N := 49, res := [8], reg := [(5, [8])] }
theorem eq6 (a0 : Value) (a1 : Value) (a2 : Value) (a3 : Value) : comp cx6 (bodyC Try.f6) false [] (env0 0 [a0, a1, a2, a3]) (fun e => retP cx6 false e) = p6 a0 a1 a2 a3 := by kernel_rfl

/-- damper/damperlaw37.DrillSteps -/
def p7 (a0 : Value) (a1 : Value) (a2 : Value) (a3 : Value) : Prog :=
  .op false (vS (Instr.box 53 a0)) fun t4 =>
  .op true (vS (Instr.loadAt 53 t4)) fun t17 =>
  .op false (callS (.func (.func 22) #[] #[]) [t17]) fun t18 =>
  .op true (vS (Op.unary .not t18)) fun t19 =>
  .ite t19
    (
    .op false (callS (.func (.func 23) #[] #[]) []) fun t20 =>
    .done .ret [t20]
    )
    (
    .op true (vS (Instr.loadAt 53 t4)) fun t22 =>
    .op false (callS (.func (.func 29) #[] #[]) [t22, a1, a2, a3]) fun t26 =>
    .op true (vS (Instr.extract t26 0)) fun t27 =>
    .op true (vS (Instr.extract t26 1)) fun t28 =>
    .op true (vS (Instr.loadAt 53 t4)) fun t30 =>
    .op false (callS (.func (.func 30) #[] #[]) [t30, a1, a2, a3]) fun t34 =>
    .op true (vS (Instr.extract t34 0)) fun t35 =>
    .op true (vS (Instr.extract t34 1)) fun t36 =>
    .op true (vS (Instr.loadAt 53 t4)) fun t38 =>
    .op false (callS (.func (.func 31) #[] #[]) [t38]) fun t39 =>
    .op true (vS (Instr.extract t39 0)) fun t40 =>
    .op true (vS (Instr.extract t39 1)) fun t41 =>
    .op true (vS (Instr.loadAt 53 t4)) fun t43 =>
    .op false (callS (.func (.func 32) #[] #[]) [t43]) fun t44 =>
    .op true (vS (Instr.extract t44 0)) fun t45 =>
    .op true (vS (Instr.extract t44 1)) fun t46 =>
    .bind
      (
      .op false (callS (.func (.func 33) #[] #[]) [t27, t35]) fun t49 =>
      .gop t49 true true ((pure (.value t28))) fun t51 =>
      .gop t49 true true ((pure (.value t36))) fun t52 =>
      .gop t49 true true (binS .eql 25 (.tmp 51) (.tmp 52) t51 t52) fun t53 =>
      .op true (pickS t49 t53 (.bool false)) fun t54 =>
      .gop t54 true true ((pure (.value t40))) fun t56 =>
      .gop t54 true true ((pure (.value t45))) fun t57 =>
      .gop t54 true true (binS .eql 2 (.tmp 56) (.tmp 57) t56 t57) fun t58 =>
      .op true (pickS t54 t58 (.bool false)) fun t59 =>
      .gop t59 true true ((pure (.value t41))) fun t61 =>
      .gop t59 true true ((pure (.value t46))) fun t62 =>
      .gop t59 true true (binS .eql 4 (.tmp 61) (.tmp 62) t61 t62) fun t63 =>
      .op true (pickS t59 t63 (.bool false)) fun t64 =>
      .gop t64 true false (callS (.func (.func 23) #[] #[]) []) fun t66 =>
      .op true (pickS t64 t66 (.bool false)) fun t67 =>
      .done .normal [t67]
      ) fun tv =>
    .done .ret [(tv.headD undef)]
    )
def cx7 : Cx := { N := 68, res := [8], reg := [(7, [8])] }
theorem eq7 (a0 : Value) (a1 : Value) (a2 : Value) (a3 : Value) : comp cx7 (bodyC Try.f7) false [] (env0 0 [a0, a1, a2, a3]) (fun e => retP cx7 false e) = p7 a0 a1 a2 a3 := by kernel_rfl

/-- damper/damperlaw32.WatchPlays -/
def p8 (a0 : Value) (a1 : Value) : Prog :=
  .op false (vS (Instr.box 53 a0)) fun t2 =>
  .op true (vS (Instr.loadAt 53 t2)) fun t12 =>
  .op false (callS (.func (.func 34) #[] #[]) [t12, a1]) fun t14 =>
  .op true (vS (Op.unary .not t14)) fun t15 =>
  .ite t15
    (
    .op false (callS (.func (.func 35) #[] #[]) []) fun t16 =>
    .done .ret [t16]
    )
    (
    .op true (vS (Instr.loadAt 53 t2)) fun t18 =>
    .op false (callS (.func (.func 36) #[] #[]) [t18]) fun t19 =>
    .op true (vS (Instr.extract t19 0)) fun t20 =>
    .op true (vS (Instr.extract t19 1)) fun t21 =>
    .op true (vS (Instr.loadAt 53 t2)) fun t23 =>
    .op false (callS (.func (.func 37) #[] #[]) [t23]) fun t24 =>
    .op true (vS (Instr.extract t24 0)) fun t25 =>
    .op true (vS (Instr.extract t24 1)) fun t26 =>
    .op true (binS .neq 25 (.tmp 27) (.tmp 28) t21 t26) fun t29 =>
    .ite t29
      (
      .done .ret [(.bool false)]
      )
      (
      .op true (binS .neq 25 (.tmp 30) (.const (.int .i64 0)) t26 (.int .i64 0)) fun t31 =>
      .ite t31
        (
        .bind
          (
          .op true (binS .eql 74 (.tmp 32) (.const (.pointer none)) t20 (.pointer none)) fun t33 =>
          .gop t33 true false (callS (.func (.func 35) #[] #[]) []) fun t35 =>
          .op true (pickS t33 t35 (.bool false)) fun t36 =>
          .done .normal [t36]
          ) fun tv =>
        .done .ret [(tv.headD undef)]
        )
        (
        .bind
          (
          .block 0 <|
          .loop [(.bool false), (.int .i64 0)] fun tx =>
          .op true (bltS .len #[22] 3 #[false] [a1]) fun t39 =>
          .op true (binS .lss 3 (.tmp 37) (.tmp 39) (tx.tail.headD undef) t39) fun t40 =>
          .ite t40
            (
            .bind
              (
              .block 1 <|
              .draw <|
              .op true (vS (Instr.indexAt 22 a1 (tx.tail.headD undef))) fun t46 =>
              .op true (vS (Instr.loadAt 46 t46)) fun t47 =>
              .op true (vS (Instr.indexAt 22 a1 (tx.tail.headD undef))) fun t52 =>
              .op true (vS (Instr.loadAt 46 t52)) fun t53 =>
              .op false (callS (.func (.func 38) #[] #[]) [t20, t47]) fun t48 =>
              .chk none (vS (Instr.loadAt 46 t52)) t53 <|
              .chk none (vS (Instr.indexAt 22 a1 (tx.tail.headD undef))) t52 <|
              .op false (callS (.func (.func 39) #[] #[]) [t25, t53]) fun t54 =>
              .op true (binS .neq 25 (.tmp 48) (.tmp 54) t48 t54) fun t55 =>
              .ite t55
                (
                .done .ret [(.bool false)]
                )
                (
                .bind
                  (
                  .block 2 <|
                  .loop [(tx.headD undef), (.int .i64 (-1))] fun tx_1 =>
                  .op true (nilS t25) fun t58 =>
                  .op true (vS (Instr.fieldAt 83 t58 1)) fun t59 =>
                  .op true (vS (Instr.loadAt 81 t59)) fun t60 =>
                  .op true (bltS .len #[81] 3 #[false] [t60]) fun t61 =>
                  .op true (binS .leq 3 (.tmp 56) (.tmp 61) (tx_1.tail.headD undef) t61) fun t62 =>
                  .ite t62
                    (
                    .bind
                      (
                      .block 3 <|
                      .op false (callS (.func (.func 40) #[] #[]) [t25, (tx_1.tail.headD undef)]) fun t67 =>
                      .op false (vS (Instr.alloc 88 true (.tuple #[]))) fun t11 =>
                      .op false (uS (Instr.storeAt 88 t11 t67)) fun tu =>
                      .bind
                        (
                        .draw <|
                        .op true (vS (Instr.fieldAt 88 t11 0)) fun t71 =>
                        .op true (vS (Instr.loadAt 3 t71)) fun t72 =>
                        .op false (callS (.func (.func 41) #[] #[]) [t20, (tx_1.tail.headD undef)]) fun t70 =>
                        .chk none (vS (Instr.loadAt 3 t71)) t72 <|
                        .chk none (vS (Instr.fieldAt 88 t11 0)) t71 <|
                        .op true (binS .neq 3 (.tmp 70) (.tmp 72) t70 t72) fun t73 =>
                        .gop t73 false true ((pure (.value t20))) fun t75 =>
                        .gop t73 false true ((pure (.value (tx_1.tail.headD undef)))) fun t76 =>
                        .gop t73 false true (vS (Instr.fieldAt 88 t11 1)) fun t78 =>
                        .gop t73 false true (vS (Instr.loadAt 85 t78)) fun t79 =>
                        .gop t73 false false (callS (.func (.func 42) #[] #[]) [t75, t76]) fun t77 =>
                        .chk (some (t73, false)) (vS (Instr.loadAt 85 t78)) t79 <|
                        .chk (some (t73, false)) (vS (Instr.fieldAt 88 t11 1)) t78 <|
                        .gop t73 false true (binS .neq 85 (.tmp 77) (.tmp 79) t77 t79) fun t80 =>
                        .op true (pickS t73 (.bool true) t80) fun t81 =>
                        .gop t81 false true ((pure (.value t20))) fun t83 =>
                        .gop t81 false true ((pure (.value (tx_1.tail.headD undef)))) fun t84 =>
                        .gop t81 false true (vS (Instr.fieldAt 88 t11 3)) fun t86 =>
                        .gop t81 false true (vS (Instr.loadAt 2 t86)) fun t87 =>
                        .gop t81 false false (callS (.func (.func 43) #[] #[]) [t83, t84]) fun t85 =>
                        .chk (some (t81, false)) (vS (Instr.loadAt 2 t86)) t87 <|
                        .chk (some (t81, false)) (vS (Instr.fieldAt 88 t11 3)) t86 <|
                        .gop t81 false true (binS .neq 2 (.tmp 85) (.tmp 87) t85 t87) fun t88 =>
                        .op true (pickS t81 (.bool true) t88) fun t89 =>
                        .gop t89 false true ((pure (.value t20))) fun t91 =>
                        .gop t89 false true ((pure (.value (tx_1.tail.headD undef)))) fun t92 =>
                        .gop t89 false true (vS (Instr.fieldAt 88 t11 4)) fun t94 =>
                        .gop t89 false true (vS (Instr.loadAt 86 t94)) fun t95 =>
                        .gop t89 false false (callS (.func (.func 44) #[] #[]) [t91, t92]) fun t93 =>
                        .chk (some (t89, false)) (vS (Instr.loadAt 86 t94)) t95 <|
                        .chk (some (t89, false)) (vS (Instr.fieldAt 88 t11 4)) t94 <|
                        .gop t89 false true (binS .neq 86 (.tmp 93) (.tmp 95) t93 t95) fun t96 =>
                        .op true (pickS t89 (.bool true) t96) fun t97 =>
                        .done .normal [t97]
                        ) fun tv_1 =>
                      .ite (tv_1.headD undef)
                        (
                        .done .ret [(.bool false)]
                        )
                        (
                        .done .normal [(tx_1.headD undef)]
                        )
                      ) fun tv_2 =>
                    .op true (binS .add 3 (.tmp 63) (.const (.int .i64 1)) (tx_1.tail.headD undef) (.int .i64 1)) fun t64 =>
                    .done .normal [(tv_2.headD undef), t64]
                    )
                    (
                    .done (.exit 2) [(tx_1.headD undef)]
                    )
                  ) fun tv_3 =>
                .done .normal [(tv_3.headD undef)]
                )
              ) fun tv_4 =>
            .op true (binS .add 3 (.tmp 41) (.const (.int .i64 1)) (tx.tail.headD undef) (.int .i64 1)) fun t42 =>
            .done .normal [(tv_4.headD undef), t42]
            )
            (
            .done (.exit 0) [(tx.headD undef)]
            )
          ) fun tv_5 =>
        .op false (callS (.func (.func 35) #[] #[]) []) fun t98 =>
        .done .ret [t98]
        )
      )
    )
def cx8 : Cx := { N := 99, res := [4], blk := [(0, [4]), (1, [4]), (2, [4]), (3, [4])], reg := [(8, [4]), (18, [97])] }
theorem eq8 (a0 : Value) (a1 : Value) : comp cx8 (bodyC Try.f8) false [] (env0 0 [a0, a1]) (fun e => retP cx8 false e) = p8 a0 a1 := by kernel_rfl

/-- damper/damperlaw32.WatchNils -/
def p9 (a0 : Value) : Prog :=
  .op false (vS (Instr.box 46 a0)) fun t1 =>
  .bind
    (
    .op true (vS (Instr.loadAt 46 t1)) fun t5 =>
    .op false (callS (.func (.func 38) #[] #[]) [(.pointer none), t5]) fun t6 =>
    .op true (binS .eql 25 (.tmp 6) (.const (.int .i64 1)) t6 (.int .i64 1)) fun t7 =>
    .gop t7 true true ((pure (.value (.pointer none)))) fun t9 =>
    .gop t7 true false (callS (.func (.func 41) #[] #[]) [t9, (.int .i64 0)]) fun t10 =>
    .gop t7 true true (binS .eql 3 (.tmp 10) (.const (.int .i64 0)) t10 (.int .i64 0)) fun t11 =>
    .op true (pickS t7 t11 (.bool false)) fun t12 =>
    .gop t12 true true ((pure (.value (.pointer none)))) fun t14 =>
    .gop t12 true false (callS (.func (.func 42) #[] #[]) [t14, (.int .i64 0)]) fun t15 =>
    .gop t12 true true (vS (Instr.build 85 #[])) fun t16 =>
    .gop t12 true true (binS .eql 85 (.tmp 15) (.tmp 16) t15 t16) fun t17 =>
    .op true (pickS t12 t17 (.bool false)) fun t18 =>
    .gop t18 true true ((pure (.value (.pointer none)))) fun t20 =>
    .gop t18 true false (callS (.func (.func 43) #[] #[]) [t20, (.int .i64 0)]) fun t21 =>
    .gop t18 true true (binS .eql 2 (.tmp 21) (.const (.int .i64 0)) t21 (.int .i64 0)) fun t22 =>
    .op true (pickS t18 t22 (.bool false)) fun t23 =>
    .gop t23 true true ((pure (.value (.pointer none)))) fun t25 =>
    .gop t23 true false (callS (.func (.func 44) #[] #[]) [t25, (.int .i64 0)]) fun t26 =>
    .gop t23 true true (vS (Instr.build 86 #[])) fun t27 =>
    .gop t23 true true (binS .eql 86 (.tmp 26) (.tmp 27) t26 t27) fun t28 =>
    .op true (pickS t23 t28 (.bool false)) fun t29 =>
    .gop t29 true false (callS (.func (.func 35) #[] #[]) []) fun t31 =>
    .op true (pickS t29 t31 (.bool false)) fun t32 =>
    .done .normal [t32]
    ) fun tv =>
  .done .ret [(tv.headD undef)]
def cx9 : Cx := { N := 33, res := [2], reg := [(2, [2])] }
theorem eq9 (a0 : Value) : comp cx9 (bodyC Try.f9) false [] (env0 0 [a0]) (fun e => retP cx9 false e) = p9 a0 := by kernel_rfl

/-- damper/damperlaw32.WatchAlls -/
def p10 (a0 : Value) (a1 : Value) : Prog :=
  .op false (vS (Instr.box 53 a0)) fun t2 =>
  .op true (vS (Instr.loadAt 53 t2)) fun t9 =>
  .op false (callS (.func (.func 34) #[] #[]) [t9, a1]) fun t11 =>
  .op true (vS (Op.unary .not t11)) fun t12 =>
  .ite t12
    (
    .op false (callS (.func (.func 35) #[] #[]) []) fun t13 =>
    .done .ret [t13]
    )
    (
    .op true (vS (Instr.loadAt 53 t2)) fun t15 =>
    .op false (callS (.func (.func 45) #[] #[]) [t15, a1]) fun t17 =>
    .op true (vS (Instr.extract t17 0)) fun t18 =>
    .op true (vS (Instr.extract t17 1)) fun t19 =>
    .op true (vS (Instr.loadAt 53 t2)) fun t21 =>
    .op false (callS (.func (.func 46) #[] #[]) [t21, a1]) fun t23 =>
    .op true (vS (Instr.extract t23 0)) fun t24 =>
    .op true (vS (Instr.extract t23 1)) fun t25 =>
    .bind
      (
      .op true (binS .eql 3 (.tmp 26) (.tmp 27) t18 t24) fun t28 =>
      .gop t28 true true ((pure (.value t19))) fun t30 =>
      .gop t28 true true ((pure (.value t25))) fun t31 =>
      .gop t28 true true (binS .eql 25 (.tmp 30) (.tmp 31) t30 t31) fun t32 =>
      .op true (pickS t28 t32 (.bool false)) fun t33 =>
      .gop t33 true false (callS (.func (.func 35) #[] #[]) []) fun t35 =>
      .op true (pickS t33 t35 (.bool false)) fun t36 =>
      .done .normal [t36]
      ) fun tv =>
    .done .ret [(tv.headD undef)]
    )
def cx10 : Cx := { N := 37, res := [4], reg := [(5, [4])] }
theorem eq10 (a0 : Value) (a1 : Value) : comp cx10 (bodyC Try.f10) false [] (env0 0 [a0, a1]) (fun e => retP cx10 false e) = p10 a0 a1 := by kernel_rfl

/-- damper/damperlaw34.alive -/
def p11 : Prog :=
  .op true (vS (Instr.build 46 #[(0, (.int .i64 3)), (6, (.int .i64 100)), (7, (.int .i64 1)), (3, (.int .i64 4))])) fun t4 =>
  .op true (vS (Instr.build 46 #[(0, (.int .i64 3)), (6, (.int .i64 104)), (7, (.int .i64 3)), (3, (.int .i64 6))])) fun t5 =>
  .op false (vS (Instr.buildSlice 22 2 #[(0, t4), (1, t5)])) fun t6 =>
  .op false (callS (.func (.func 15) #[] #[]) [t6, (.int .i64 0)]) fun t7 =>
  .op true (vS (Instr.extract t7 0)) fun t8 =>
  .op true (vS (Instr.extract t7 1)) fun t9 =>
  .op false (vS (Instr.alloc 32 true (.tuple #[]))) fun t1 =>
  .op false (uS (Instr.storeAt 32 t1 t8)) fun tu =>
  .bind
    (
    .gop t9 true true (vS (Instr.loadAt 32 t1)) fun t12 =>
    .gop t9 true true (vS (Instr.build 32 #[(0, (.int .i64 4)), (1, (.int .i64 100)), (2, (.int .i64 104)), (3, (.int .i64 100)), (4, (.int .i64 104)), (5, (.int .i64 4)), (6, (.int .i64 2)), (7, (.int .i64 103))])) fun t13 =>
    .gop t9 true true (binS .eql 32 (.tmp 12) (.tmp 13) t12 t13) fun t14 =>
    .op true (pickS t9 t14 (.bool false)) fun t15 =>
    .done .normal [t15]
    ) fun tv =>
  .done .ret [(tv.headD undef)]
def cx11 : Cx := { N := 16, res := [0], reg := [(2, [0])] }
theorem eq11 : comp cx11 (bodyC Try.f11) false [] (env0 0 []) (fun e => retP cx11 false e) = p11 := by kernel_rfl

/-- damper/tape.Bars -/
def p12 (a0 : Value) (a1 : Value) (a2 : Value) : Prog :=
  .op false (vS (Instr.box 2 a2)) fun t5 =>
  .op false (vS (Instr.alloc 24 true (.tuple #[]))) fun t6 =>
  .op true (vS (Instr.loadAt 2 t5)) fun t11 =>
  .op true (binS .lss 2 (.tmp 11) (.const (.int .i64 1)) t11 (.int .i64 1)) fun t12 =>
  .ite t12
    (
    .op false (uS (Instr.storeAt 24 t6 (.slice none 0 0))) fun tu =>
    .done .ret [t6, (.int .i64 9)]
    )
    (
    .op false (vS (Instr.alloc 100 true (.tuple #[]))) fun t8 =>
    .op false (callS (.func (.func 47) #[] #[]) [a0, a1]) fun t15 =>
    .bind
      (
      .block 0 <|
      .rangeF t15 1 (fun ty =>
          .op false (vS (Instr.alloc 46 true (.tuple #[]))) fun t9 =>
          .op false (uS (Instr.storeAt 46 t9 (ty.headD undef))) fun tu_1 =>
          .begin <|
          .bind
            (
            .block 1 <|
            .draw <|
            .op true (vS (Instr.fieldAt 46 t9 3)) fun t17 =>
            .op true (vS (Instr.loadAt 2 t17)) fun t18 =>
            .op true (vS (Instr.loadAt 2 t5)) fun t19 =>
            .op true (binS .quo 2 (.tmp 18) (.tmp 19) t18 t19) fun t20 =>
            .op true (vS (Instr.loadAt 2 t5)) fun t21 =>
            .op true (binS .mul 2 (.tmp 20) (.tmp 21) t20 t21) fun t22 =>
            .bind
              (
              .op true (vS (Instr.fieldAt 100 t8 0)) fun t23 =>
              .op true (vS (Instr.fieldAt 32 t23 6)) fun t24 =>
              .op true (vS (Instr.loadAt 3 t24)) fun t25 =>
              .op true (binS .eql 3 (.tmp 25) (.const (.int .i64 0)) t25 (.int .i64 0)) fun t26 =>
              .gop t26 false true (vS (Instr.fieldAt 100 t8 0)) fun t28 =>
              .gop t26 false true (vS (Instr.fieldAt 32 t28 0)) fun t29 =>
              .gop t26 false true (vS (Instr.loadAt 2 t29)) fun t30 =>
              .gop t26 false true ((pure (.value t22))) fun t31 =>
              .gop t26 false true (binS .eql 2 (.tmp 30) (.tmp 31) t30 t31) fun t32 =>
              .op true (pickS t26 (.bool true) t32) fun t33 =>
              .done .normal [t33]
              ) fun tv =>
            .ite (tv.headD undef)
              (
              .op true (vS (Instr.loadAt 46 t9)) fun t35 =>
              .op false (callS (.func (.func 48) #[] #[]) [t8, t22, t35]) fun t36 =>
              .done (.exit 1) []
              )
              (
              .draw <|
              .op true (vS (Instr.loadAt 24 t6)) fun t37 =>
              .op false (callS (.func (.func 49) #[] #[]) [t8]) fun t38 =>
              .chk none (vS (Instr.loadAt 24 t6)) t37 <|
              .op false (vS (Instr.buildSlice 24 1 #[(0, t38)])) fun t39 =>
              .chk none (vS (Instr.loadAt 24 t6)) t37 <|
              .op false (bltS .append #[24, 24] 24 #[false, false] [t37, t39]) fun t40 =>
              .op false (uS (Instr.storeAt 24 t6 t40)) fun tu_2 =>
              .op true (vS (Instr.build 100 #[])) fun t41 =>
              .op false (uS (Instr.storeAt 100 t8 t41)) fun tu_3 =>
              .op true (vS (Instr.loadAt 46 t9)) fun t43 =>
              .op false (callS (.func (.func 48) #[] #[]) [t8, t22, t43]) fun t44 =>
              .done .normal []
              )
            ) fun tv_1 =>
          .done .normal []
        )
        (exK (
          .done .normal []
        ) (
          .done .ret [t6, (.int .i64 0)]
        ) fun id =>
          bif Nat.beq 1 id then (
            .fail
          ) else
          .fail)
      ) fun tv_2 =>
    .op true (vS (Instr.fieldAt 100 t8 0)) fun t45 =>
    .op true (vS (Instr.fieldAt 32 t45 6)) fun t46 =>
    .op true (vS (Instr.loadAt 3 t46)) fun t47 =>
    .op true (binS .gtr 3 (.tmp 47) (.const (.int .i64 0)) t47 (.int .i64 0)) fun t48 =>
    .bind
      (
      .ite t48
        (
        .draw <|
        .op true (vS (Instr.loadAt 24 t6)) fun t49 =>
        .op false (callS (.func (.func 49) #[] #[]) [t8]) fun t50 =>
        .chk none (vS (Instr.loadAt 24 t6)) t49 <|
        .op false (vS (Instr.buildSlice 24 1 #[(0, t50)])) fun t51 =>
        .chk none (vS (Instr.loadAt 24 t6)) t49 <|
        .op false (bltS .append #[24, 24] 24 #[false, false] [t49, t51]) fun t52 =>
        .op false (uS (Instr.storeAt 24 t6 t52)) fun tu_4 =>
        .done .normal []
        )
        (
        .done .normal []
        )
      ) fun tv_3 =>
    .op true (vS (Instr.loadAt 24 t6)) fun t53 =>
    .op false (uS (Instr.storeAt 24 t6 t53)) fun tu_5 =>
    .done .ret [t6, (.int .i64 0)]
    )
def cx12 : Cx := { N := 54, res := [6, 7], reg := [(7, [33])] }
theorem eq12 (a0 : Value) (a1 : Value) (a2 : Value) : comp cx12 (bodyC Try.f12) false [] (env0 0 [a0, a1, a2]) (fun e => retP cx12 false e) = p12 a0 a1 a2 := by kernel_rfl

/-- damper/damperref34.Bars -/
def p13 (a0 : Value) (a1 : Value) (a2 : Value) : Prog :=
  .op true (binS .lss 2 (.tmp 13) (.const (.int .i64 1)) a2 (.int .i64 1)) fun t14 =>
  .ite t14
    (
    .done .ret [(.slice none 0 0), (.int .i64 9)]
    )
    (
    .op false (callS (.func (.func 50) #[] #[]) [a0, a1]) fun t17 =>
    .bind
      (
      .block 0 <|
      .loop [(.slice none 0 0), (.int .i64 0)] fun tx =>
      .op true (bltS .len #[22] 3 #[false] [t17]) fun t20 =>
      .op true (binS .lss 3 (.tmp 18) (.tmp 20) (tx.tail.headD undef) t20) fun t21 =>
      .ite t21
        (
        .bind
          (
          .block 1 <|
          .draw <|
          .op true (vS (Instr.indexAt 22 t17 (tx.tail.headD undef))) fun t24 =>
          .op true (vS (Instr.fieldAt 46 t24 3)) fun t25 =>
          .op true (vS (Instr.loadAt 2 t25)) fun t26 =>
          .op true (vS (Instr.indexAt 22 t17 (tx.tail.headD undef))) fun t29 =>
          .op true (vS (Instr.fieldAt 46 t29 3)) fun t30 =>
          .op true (vS (Instr.loadAt 2 t30)) fun t31 =>
          .op true (binS .rem 2 (.tmp 31) (.tmp 32) t31 a2) fun t33 =>
          .op true (binS .sub 2 (.tmp 26) (.tmp 33) t26 t33) fun t34 =>
          .bind
            (
            .block 2 <|
            .loop [(tx.tail.headD undef)] fun tx_1 =>
            .bind
              (
              .draw <|
              .op true (bltS .len #[22] 3 #[false] [t17]) fun t38 =>
              .op true (binS .lss 3 (.tmp 36) (.tmp 38) (tx_1.headD undef) t38) fun t39 =>
              .gop t39 true true ((pure (.value t17))) fun t41 =>
              .gop t39 true true ((pure (.value (tx_1.headD undef)))) fun t42 =>
              .gop t39 true true (vS (Instr.indexAt 22 t41 t42)) fun t43 =>
              .gop t39 true true (vS (Instr.fieldAt 46 t43 3)) fun t44 =>
              .gop t39 true true (vS (Instr.loadAt 2 t44)) fun t45 =>
              .gop t39 true true ((pure (.value t17))) fun t46 =>
              .gop t39 true true ((pure (.value (tx_1.headD undef)))) fun t47 =>
              .gop t39 true true (vS (Instr.indexAt 22 t46 t47)) fun t48 =>
              .gop t39 true true (vS (Instr.fieldAt 46 t48 3)) fun t49 =>
              .gop t39 true true (vS (Instr.loadAt 2 t49)) fun t50 =>
              .gop t39 true true ((pure (.value a2))) fun t51 =>
              .gop t39 true true (binS .rem 2 (.tmp 50) (.tmp 51) t50 t51) fun t52 =>
              .gop t39 true true (binS .sub 2 (.tmp 45) (.tmp 52) t45 t52) fun t53 =>
              .gop t39 true true ((pure (.value t34))) fun t54 =>
              .gop t39 true true (binS .eql 2 (.tmp 53) (.tmp 54) t53 t54) fun t55 =>
              .op true (pickS t39 t55 (.bool false)) fun t56 =>
              .done .normal [t56]
              ) fun tv =>
            .ite (tv.headD undef)
              (
              .bind
                (
                .block 3 <|
                .op true (binS .add 3 (.tmp 57) (.const (.int .i64 1)) (tx_1.headD undef) (.int .i64 1)) fun t58 =>
                .done .normal [t58]
                ) fun tv_1 =>
              .done .normal [(tv_1.headD undef)]
              )
              (
              .done (.exit 2) [(tx_1.headD undef)]
              )
            ) fun tv_2 =>
          .op true (vS (Instr.sliceAt 22 t17 (some (tx.tail.headD undef)) (some (tv_2.headD undef)) none)) fun t63 =>
          .op false (callS (.func (.func 51) #[] #[]) [t63, t34]) fun t65 =>
          .op false (vS (Instr.buildSlice 28 1 #[(0, t65)])) fun t66 =>
          .op false (bltS .append #[28, 28] 28 #[false, false] [(tx.headD undef), t66]) fun t67 =>
          .done .normal [t67, (tv_2.headD undef)]
          ) fun tv_3 =>
        .done .normal [(tv_3.headD undef), (tv_3.tail.headD undef)]
        )
        (
        .done (.exit 0) [(tx.headD undef)]
        )
      ) fun tv_4 =>
    .done .ret [(tv_4.headD undef), (.int .i64 0)]
    )
def cx13 : Cx := { N := 70, res := [6, 7], blk := [(0, [9]), (1, [9, 10]), (2, [12]), (3, [12])], reg := [(9, [56])] }
theorem eq13 (a0 : Value) (a1 : Value) (a2 : Value) : comp cx13 (bodyC Try.f13) false [] (env0 0 [a0, a1, a2]) (fun e => retP cx13 false e) = p13 a0 a1 a2 := by kernel_rfl

/-- damper/damperlaw34.own -/
def p14 (a0 : Value) : Prog :=
  .op false (vS (Instr.box 34 a0)) fun t1 =>
  .op false (vS (Instr.alloc 32 true (.tuple #[]))) fun t2 =>
  .op true (vS (Instr.fieldAt 34 t1 0)) fun t3 =>
  .op true (vS (Instr.loadAt 2 t3)) fun t4 =>
  .op true (vS (Instr.fieldAt 34 t1 1)) fun t5 =>
  .op true (vS (Instr.loadAt 2 t5)) fun t6 =>
  .op true (vS (Instr.fieldAt 34 t1 2)) fun t7 =>
  .op true (vS (Instr.loadAt 2 t7)) fun t8 =>
  .op true (vS (Instr.fieldAt 34 t1 3)) fun t9 =>
  .op true (vS (Instr.loadAt 2 t9)) fun t10 =>
  .op true (vS (Instr.fieldAt 34 t1 4)) fun t11 =>
  .op true (vS (Instr.loadAt 2 t11)) fun t12 =>
  .op true (vS (Instr.fieldAt 34 t1 5)) fun t13 =>
  .op true (vS (Instr.loadAt 2 t13)) fun t14 =>
  .op true (vS (Instr.fieldAt 34 t1 6)) fun t15 =>
  .op true (vS (Instr.loadAt 3 t15)) fun t16 =>
  .op true (vS (Instr.fieldAt 34 t1 7)) fun t17 =>
  .op true (vS (Instr.loadAt 2 t17)) fun t18 =>
  .op true (vS (Instr.build 32 #[(0, t4), (1, t6), (2, t8), (3, t10), (4, t12), (5, t14), (6, t16), (7, t18)])) fun t19 =>
  .op false (uS (Instr.storeAt 32 t2 t19)) fun tu =>
  .done .ret [t2]
def cx14 : Cx := { N := 20, res := [2] }
theorem eq14 (a0 : Value) : comp cx14 (bodyC Try.f14) false [] (env0 0 [a0]) (fun e => retP cx14 false e) = p14 a0 := by kernel_rfl

/-- damper/tape.Whole -/
def p15 (a0 : Value) (a1 : Value) : Prog :=
  .op false (vS (Instr.alloc 32 true (.tuple #[]))) fun t4 =>
  .op false (vS (Instr.alloc 100 true (.tuple #[]))) fun t6 =>
  .op false (callS (.func (.func 47) #[] #[]) [a0, a1]) fun t11 =>
  .bind
    (
    .block 0 <|
    .rangeF t11 1 (fun ty =>
        .op false (vS (Instr.alloc 46 true (.tuple #[]))) fun t7 =>
        .op false (uS (Instr.storeAt 46 t7 (ty.headD undef))) fun tu =>
        .begin <|
        .bind
          (
          .block 1 <|
          .op true (vS (Instr.fieldAt 46 t7 3)) fun t13 =>
          .op true (vS (Instr.loadAt 2 t13)) fun t14 =>
          .op true (vS (Instr.fieldAt 100 t6 0)) fun t15 =>
          .op true (vS (Instr.fieldAt 32 t15 6)) fun t16 =>
          .op true (vS (Instr.loadAt 3 t16)) fun t17 =>
          .op true (binS .gtr 3 (.tmp 17) (.const (.int .i64 0)) t17 (.int .i64 0)) fun t18 =>
          .bind
            (
            .ite t18
              (
              .op true (vS (Instr.fieldAt 100 t6 0)) fun t19 =>
              .op true (vS (Instr.fieldAt 32 t19 0)) fun t20 =>
              .op true (vS (Instr.loadAt 2 t20)) fun t21 =>
              .done .normal [t21]
              )
              (
              .done .normal [t14]
              )
            ) fun tv =>
          .op true (vS (Instr.loadAt 46 t7)) fun t23 =>
          .op false (callS (.func (.func 48) #[] #[]) [t6, (tv.headD undef), t23]) fun t24 =>
          .done .normal []
          ) fun tv_1 =>
        .done .normal []
      )
      (exK (
        .done .normal []
      ) (
        .done .ret [t4, (.bool false)]
      ) fun id =>
        .fail)
    ) fun tv_2 =>
  .op true (vS (Instr.fieldAt 100 t6 0)) fun t25 =>
  .op true (vS (Instr.fieldAt 32 t25 6)) fun t26 =>
  .op true (vS (Instr.loadAt 3 t26)) fun t27 =>
  .op true (binS .eql 3 (.tmp 27) (.const (.int .i64 0)) t27 (.int .i64 0)) fun t28 =>
  .ite t28
    (
    .op true (vS (Instr.build 32 #[])) fun t29 =>
    .op false (uS (Instr.storeAt 32 t4 t29)) fun tu_1 =>
    .done .ret [t4, (.bool false)]
    )
    (
    .op false (callS (.func (.func 49) #[] #[]) [t6]) fun t30 =>
    .op false (uS (Instr.storeAt 32 t4 t30)) fun tu_2 =>
    .done .ret [t4, (.bool true)]
    )
def cx15 : Cx := { N := 31, res := [4, 5], cnd := [(18, [8])] }
theorem eq15 (a0 : Value) (a1 : Value) : comp cx15 (bodyC Try.f15) false [] (env0 0 [a0, a1]) (fun e => retP cx15 false e) = p15 a0 a1 := by kernel_rfl

/-- damper/tape.Merge -/
def p16 (a0 : Value) (a1 : Value) : Prog :=
  .op false (vS (Instr.box 32 a0)) fun t2 =>
  .op false (vS (Instr.box 32 a1)) fun t3 =>
  .op false (vS (Instr.alloc 32 true (.tuple #[]))) fun t4 =>
  .bind
    (
    .block 0 <|
    .op true (vS (Instr.fieldAt 32 t2 6)) fun t8 =>
    .op true (vS (Instr.loadAt 3 t8)) fun t9 =>
    .op true (binS .eql 3 (.tmp 9) (.const (.int .i64 0)) t9 (.int .i64 0)) fun t10 =>
    .ite t10
      (
      .op true (vS (Instr.loadAt 32 t3)) fun t11 =>
      .op false (uS (Instr.storeAt 32 t4 t11)) fun tu =>
      .done .ret [t4]
      )
      (
      .op true (vS (Instr.fieldAt 32 t3 6)) fun t13 =>
      .op true (vS (Instr.loadAt 3 t13)) fun t14 =>
      .op true (binS .eql 3 (.tmp 14) (.const (.int .i64 0)) t14 (.int .i64 0)) fun t15 =>
      .ite t15
        (
        .op true (vS (Instr.loadAt 32 t2)) fun t16 =>
        .op false (uS (Instr.storeAt 32 t4 t16)) fun tu_1 =>
        .done .ret [t4]
        )
        (
        .done .normal []
        )
      )
    ) fun tv =>
  .draw <|
  .op true (vS (Instr.fieldAt 32 t2 7)) fun t18 =>
  .op true (vS (Instr.loadAt 2 t18)) fun t19 =>
  .op true (vS (convert 2 54 t19)) fun t20 =>
  .op true (vS (Instr.fieldAt 32 t2 5)) fun t21 =>
  .op true (vS (Instr.loadAt 2 t21)) fun t22 =>
  .op true (vS (convert 2 54 t22)) fun t23 =>
  .op true (vS (Instr.fieldAt 32 t3 7)) fun t25 =>
  .op true (vS (Instr.loadAt 2 t25)) fun t26 =>
  .op true (vS (convert 2 54 t26)) fun t27 =>
  .op true (vS (Instr.fieldAt 32 t3 5)) fun t28 =>
  .op true (vS (Instr.loadAt 2 t28)) fun t29 =>
  .op true (vS (convert 2 54 t29)) fun t30 =>
  .alt
    (
    .op false (callS (.func (.func 52) #[] #[]) [t20, t23]) fun t24 =>
    .chk none (vS (convert 2 54 t29)) t30 <|
    .chk none (vS (Instr.loadAt 2 t28)) t29 <|
    .chk none (vS (Instr.fieldAt 32 t3 5)) t28 <|
    .chk none (vS (convert 2 54 t26)) t27 <|
    .chk none (vS (Instr.loadAt 2 t25)) t26 <|
    .chk none (vS (Instr.fieldAt 32 t3 7)) t25 <|
    .alt
      (
      .op false (callS (.func (.func 52) #[] #[]) [t27, t30]) fun t31 =>
      .alt
        (
        .op false (callS (.func (.func 53) #[] #[]) [t24, t31]) fun t32 =>
        .op true (vS (Instr.extract t32 0)) fun t33 =>
        .op true (vS (Instr.extract t32 1)) fun t34 =>
        .op false (vS (Instr.alloc 98 true (.tuple #[]))) fun t5 =>
        .chk none (vS (Instr.extract t32 1)) t34 <|
        .chk none (vS (Instr.extract t32 0)) t33 <|
        .op false (uS (Instr.storeAt 98 t5 t33)) fun tu_2 =>
        .chk none (vS (Instr.extract t32 1)) t34 <|
        .draw <|
        .op true (vS (Instr.fieldAt 32 t2 2)) fun t35 =>
        .op true (vS (Instr.loadAt 2 t35)) fun t36 =>
        .op true (vS (Instr.fieldAt 32 t3 2)) fun t37 =>
        .op true (vS (Instr.loadAt 2 t37)) fun t38 =>
        .op true (bltS .max #[2, 2] 2 #[false, false] [t36, t38]) fun t39 =>
        .op true (vS (Instr.fieldAt 32 t2 3)) fun t40 =>
        .op true (vS (Instr.loadAt 2 t40)) fun t41 =>
        .op true (vS (Instr.fieldAt 32 t3 3)) fun t42 =>
        .op true (vS (Instr.loadAt 2 t42)) fun t43 =>
        .op true (bltS .min #[2, 2] 2 #[false, false] [t41, t43]) fun t44 =>
        .op true (vS (Instr.fieldAt 32 t3 4)) fun t45 =>
        .op true (vS (Instr.loadAt 2 t45)) fun t46 =>
        .op true (vS (Instr.fieldAt 32 t2 2)) fun t47 =>
        .op false (uS (Instr.storeAt 2 t47 t39)) fun tu_3 =>
        .chk none (vS (Instr.loadAt 2 t45)) t46 <|
        .chk none (vS (Instr.fieldAt 32 t3 4)) t45 <|
        .chk none (bltS .min #[2, 2] 2 #[false, false] [t41, t43]) t44 <|
        .chk none (vS (Instr.loadAt 2 t42)) t43 <|
        .chk none (vS (Instr.fieldAt 32 t3 3)) t42 <|
        .op true (vS (Instr.fieldAt 32 t2 3)) fun t48 =>
        .op false (uS (Instr.storeAt 2 t48 t44)) fun tu_4 =>
        .chk none (vS (Instr.loadAt 2 t45)) t46 <|
        .chk none (vS (Instr.fieldAt 32 t3 4)) t45 <|
        .op true (vS (Instr.fieldAt 32 t2 4)) fun t49 =>
        .op false (uS (Instr.storeAt 2 t49 t46)) fun tu_5 =>
        .op true (vS (Instr.fieldAt 32 t2 5)) fun t50 =>
        .op true (vS (Instr.loadAt 2 t50)) fun t51 =>
        .op true (vS (Instr.fieldAt 32 t3 5)) fun t52 =>
        .op true (vS (Instr.loadAt 2 t52)) fun t53 =>
        .op true (binS .add 2 (.tmp 51) (.tmp 53) t51 t53) fun t54 =>
        .op true (vS (Instr.fieldAt 32 t2 5)) fun t55 =>
        .op false (uS (Instr.storeAt 2 t55 t54)) fun tu_6 =>
        .op true (vS (Instr.fieldAt 32 t2 6)) fun t56 =>
        .op true (vS (Instr.loadAt 3 t56)) fun t57 =>
        .op true (vS (Instr.fieldAt 32 t3 6)) fun t58 =>
        .op true (vS (Instr.loadAt 3 t58)) fun t59 =>
        .op true (binS .add 3 (.tmp 57) (.tmp 59) t57 t59) fun t60 =>
        .op true (vS (Instr.fieldAt 32 t2 6)) fun t61 =>
        .op false (uS (Instr.storeAt 3 t61 t60)) fun tu_7 =>
        .op true (vS (Instr.fieldAt 32 t2 7)) fun t62 =>
        .op false (uS (Instr.storeAt 2 t62 (.int .i64 0))) fun tu_8 =>
        .op true (vS (Instr.fieldAt 32 t2 5)) fun t63 =>
        .op true (vS (Instr.loadAt 2 t63)) fun t64 =>
        .op true (binS .gtr 2 (.tmp 64) (.const (.int .i64 0)) t64 (.int .i64 0)) fun t65 =>
        .bind
          (
          .ite t65
            (
            .op true (vS (Instr.loadAt 98 t5)) fun t66 =>
            .op true (vS (Instr.fieldAt 32 t2 5)) fun t67 =>
            .op true (vS (Instr.loadAt 2 t67)) fun t68 =>
            .op false (callS (.func (.func 54) #[] #[]) [t66, t68]) fun t69 =>
            .op true (vS (Instr.fieldAt 32 t2 7)) fun t70 =>
            .op false (uS (Instr.storeAt 2 t70 t69)) fun tu_9 =>
            .done .normal []
            )
            (
            .done .normal []
            )
          ) fun tv_1 =>
        .op true (vS (Instr.loadAt 32 t2)) fun t71 =>
        .op false (uS (Instr.storeAt 32 t4 t71)) fun tu_10 =>
        .done .ret [t4]
        )
        (
        .op false (vS (Instr.alloc 98 true (.tuple #[]))) fun t5_1 =>
        .op false (callS (.func (.func 53) #[] #[]) [t24, t31]) fun t32_1 =>
        .op true (vS (Instr.extract t32_1 0)) fun t33_1 =>
        .op true (vS (Instr.extract t32_1 1)) fun t34_1 =>
        .op false (uS (Instr.storeAt 98 t5_1 t33_1)) fun tu_11 =>
        .chk none (vS (Instr.extract t32_1 1)) t34_1 <|
        .draw <|
        .op true (vS (Instr.fieldAt 32 t2 2)) fun t35_1 =>
        .op true (vS (Instr.loadAt 2 t35_1)) fun t36_1 =>
        .op true (vS (Instr.fieldAt 32 t3 2)) fun t37_1 =>
        .op true (vS (Instr.loadAt 2 t37_1)) fun t38_1 =>
        .op true (bltS .max #[2, 2] 2 #[false, false] [t36_1, t38_1]) fun t39_1 =>
        .op true (vS (Instr.fieldAt 32 t2 3)) fun t40_1 =>
        .op true (vS (Instr.loadAt 2 t40_1)) fun t41_1 =>
        .op true (vS (Instr.fieldAt 32 t3 3)) fun t42_1 =>
        .op true (vS (Instr.loadAt 2 t42_1)) fun t43_1 =>
        .op true (bltS .min #[2, 2] 2 #[false, false] [t41_1, t43_1]) fun t44_1 =>
        .op true (vS (Instr.fieldAt 32 t3 4)) fun t45_1 =>
        .op true (vS (Instr.loadAt 2 t45_1)) fun t46_1 =>
        .op true (vS (Instr.fieldAt 32 t2 2)) fun t47_1 =>
        .op false (uS (Instr.storeAt 2 t47_1 t39_1)) fun tu_12 =>
        .chk none (vS (Instr.loadAt 2 t45_1)) t46_1 <|
        .chk none (vS (Instr.fieldAt 32 t3 4)) t45_1 <|
        .chk none (bltS .min #[2, 2] 2 #[false, false] [t41_1, t43_1]) t44_1 <|
        .chk none (vS (Instr.loadAt 2 t42_1)) t43_1 <|
        .chk none (vS (Instr.fieldAt 32 t3 3)) t42_1 <|
        .op true (vS (Instr.fieldAt 32 t2 3)) fun t48_1 =>
        .op false (uS (Instr.storeAt 2 t48_1 t44_1)) fun tu_13 =>
        .chk none (vS (Instr.loadAt 2 t45_1)) t46_1 <|
        .chk none (vS (Instr.fieldAt 32 t3 4)) t45_1 <|
        .op true (vS (Instr.fieldAt 32 t2 4)) fun t49_1 =>
        .op false (uS (Instr.storeAt 2 t49_1 t46_1)) fun tu_14 =>
        .op true (vS (Instr.fieldAt 32 t2 5)) fun t50_1 =>
        .op true (vS (Instr.loadAt 2 t50_1)) fun t51_1 =>
        .op true (vS (Instr.fieldAt 32 t3 5)) fun t52_1 =>
        .op true (vS (Instr.loadAt 2 t52_1)) fun t53_1 =>
        .op true (binS .add 2 (.tmp 51) (.tmp 53) t51_1 t53_1) fun t54_1 =>
        .op true (vS (Instr.fieldAt 32 t2 5)) fun t55_1 =>
        .op false (uS (Instr.storeAt 2 t55_1 t54_1)) fun tu_15 =>
        .op true (vS (Instr.fieldAt 32 t2 6)) fun t56_1 =>
        .op true (vS (Instr.loadAt 3 t56_1)) fun t57_1 =>
        .op true (vS (Instr.fieldAt 32 t3 6)) fun t58_1 =>
        .op true (vS (Instr.loadAt 3 t58_1)) fun t59_1 =>
        .op true (binS .add 3 (.tmp 57) (.tmp 59) t57_1 t59_1) fun t60_1 =>
        .op true (vS (Instr.fieldAt 32 t2 6)) fun t61_1 =>
        .op false (uS (Instr.storeAt 3 t61_1 t60_1)) fun tu_16 =>
        .op true (vS (Instr.fieldAt 32 t2 7)) fun t62_1 =>
        .op false (uS (Instr.storeAt 2 t62_1 (.int .i64 0))) fun tu_17 =>
        .op true (vS (Instr.fieldAt 32 t2 5)) fun t63_1 =>
        .op true (vS (Instr.loadAt 2 t63_1)) fun t64_1 =>
        .op true (binS .gtr 2 (.tmp 64) (.const (.int .i64 0)) t64_1 (.int .i64 0)) fun t65_1 =>
        .bind
          (
          .ite t65_1
            (
            .op true (vS (Instr.loadAt 98 t5_1)) fun t66_1 =>
            .op true (vS (Instr.fieldAt 32 t2 5)) fun t67_1 =>
            .op true (vS (Instr.loadAt 2 t67_1)) fun t68_1 =>
            .op false (callS (.func (.func 54) #[] #[]) [t66_1, t68_1]) fun t69_1 =>
            .op true (vS (Instr.fieldAt 32 t2 7)) fun t70_1 =>
            .op false (uS (Instr.storeAt 2 t70_1 t69_1)) fun tu_18 =>
            .done .normal []
            )
            (
            .done .normal []
            )
          ) fun tv_2 =>
        .op true (vS (Instr.loadAt 32 t2)) fun t71_1 =>
        .op false (uS (Instr.storeAt 32 t4 t71_1)) fun tu_19 =>
        .done .ret [t4]
        )
      )
      (
      .op false (vS (Instr.alloc 98 true (.tuple #[]))) fun t5_2 =>
      .chk none (vS (convert 2 54 t29)) t30 <|
      .chk none (vS (Instr.loadAt 2 t28)) t29 <|
      .chk none (vS (Instr.fieldAt 32 t3 5)) t28 <|
      .chk none (vS (convert 2 54 t26)) t27 <|
      .chk none (vS (Instr.loadAt 2 t25)) t26 <|
      .chk none (vS (Instr.fieldAt 32 t3 7)) t25 <|
      .op false (callS (.func (.func 52) #[] #[]) [t27, t30]) fun t31_1 =>
      .op false (callS (.func (.func 53) #[] #[]) [t24, t31_1]) fun t32_2 =>
      .op true (vS (Instr.extract t32_2 0)) fun t33_2 =>
      .op true (vS (Instr.extract t32_2 1)) fun t34_2 =>
      .op false (uS (Instr.storeAt 98 t5_2 t33_2)) fun tu_20 =>
      .chk none (vS (Instr.extract t32_2 1)) t34_2 <|
      .draw <|
      .op true (vS (Instr.fieldAt 32 t2 2)) fun t35_2 =>
      .op true (vS (Instr.loadAt 2 t35_2)) fun t36_2 =>
      .op true (vS (Instr.fieldAt 32 t3 2)) fun t37_2 =>
      .op true (vS (Instr.loadAt 2 t37_2)) fun t38_2 =>
      .op true (bltS .max #[2, 2] 2 #[false, false] [t36_2, t38_2]) fun t39_2 =>
      .op true (vS (Instr.fieldAt 32 t2 3)) fun t40_2 =>
      .op true (vS (Instr.loadAt 2 t40_2)) fun t41_2 =>
      .op true (vS (Instr.fieldAt 32 t3 3)) fun t42_2 =>
      .op true (vS (Instr.loadAt 2 t42_2)) fun t43_2 =>
      .op true (bltS .min #[2, 2] 2 #[false, false] [t41_2, t43_2]) fun t44_2 =>
      .op true (vS (Instr.fieldAt 32 t3 4)) fun t45_2 =>
      .op true (vS (Instr.loadAt 2 t45_2)) fun t46_2 =>
      .op true (vS (Instr.fieldAt 32 t2 2)) fun t47_2 =>
      .op false (uS (Instr.storeAt 2 t47_2 t39_2)) fun tu_21 =>
      .chk none (vS (Instr.loadAt 2 t45_2)) t46_2 <|
      .chk none (vS (Instr.fieldAt 32 t3 4)) t45_2 <|
      .chk none (bltS .min #[2, 2] 2 #[false, false] [t41_2, t43_2]) t44_2 <|
      .chk none (vS (Instr.loadAt 2 t42_2)) t43_2 <|
      .chk none (vS (Instr.fieldAt 32 t3 3)) t42_2 <|
      .op true (vS (Instr.fieldAt 32 t2 3)) fun t48_2 =>
      .op false (uS (Instr.storeAt 2 t48_2 t44_2)) fun tu_22 =>
      .chk none (vS (Instr.loadAt 2 t45_2)) t46_2 <|
      .chk none (vS (Instr.fieldAt 32 t3 4)) t45_2 <|
      .op true (vS (Instr.fieldAt 32 t2 4)) fun t49_2 =>
      .op false (uS (Instr.storeAt 2 t49_2 t46_2)) fun tu_23 =>
      .op true (vS (Instr.fieldAt 32 t2 5)) fun t50_2 =>
      .op true (vS (Instr.loadAt 2 t50_2)) fun t51_2 =>
      .op true (vS (Instr.fieldAt 32 t3 5)) fun t52_2 =>
      .op true (vS (Instr.loadAt 2 t52_2)) fun t53_2 =>
      .op true (binS .add 2 (.tmp 51) (.tmp 53) t51_2 t53_2) fun t54_2 =>
      .op true (vS (Instr.fieldAt 32 t2 5)) fun t55_2 =>
      .op false (uS (Instr.storeAt 2 t55_2 t54_2)) fun tu_24 =>
      .op true (vS (Instr.fieldAt 32 t2 6)) fun t56_2 =>
      .op true (vS (Instr.loadAt 3 t56_2)) fun t57_2 =>
      .op true (vS (Instr.fieldAt 32 t3 6)) fun t58_2 =>
      .op true (vS (Instr.loadAt 3 t58_2)) fun t59_2 =>
      .op true (binS .add 3 (.tmp 57) (.tmp 59) t57_2 t59_2) fun t60_2 =>
      .op true (vS (Instr.fieldAt 32 t2 6)) fun t61_2 =>
      .op false (uS (Instr.storeAt 3 t61_2 t60_2)) fun tu_25 =>
      .op true (vS (Instr.fieldAt 32 t2 7)) fun t62_2 =>
      .op false (uS (Instr.storeAt 2 t62_2 (.int .i64 0))) fun tu_26 =>
      .op true (vS (Instr.fieldAt 32 t2 5)) fun t63_2 =>
      .op true (vS (Instr.loadAt 2 t63_2)) fun t64_2 =>
      .op true (binS .gtr 2 (.tmp 64) (.const (.int .i64 0)) t64_2 (.int .i64 0)) fun t65_2 =>
      .bind
        (
        .ite t65_2
          (
          .op true (vS (Instr.loadAt 98 t5_2)) fun t66_2 =>
          .op true (vS (Instr.fieldAt 32 t2 5)) fun t67_2 =>
          .op true (vS (Instr.loadAt 2 t67_2)) fun t68_2 =>
          .op false (callS (.func (.func 54) #[] #[]) [t66_2, t68_2]) fun t69_2 =>
          .op true (vS (Instr.fieldAt 32 t2 7)) fun t70_2 =>
          .op false (uS (Instr.storeAt 2 t70_2 t69_2)) fun tu_27 =>
          .done .normal []
          )
          (
          .done .normal []
          )
        ) fun tv_3 =>
      .op true (vS (Instr.loadAt 32 t2)) fun t71_2 =>
      .op false (uS (Instr.storeAt 32 t4 t71_2)) fun tu_28 =>
      .done .ret [t4]
      )
    )
    (
    .op false (vS (Instr.alloc 98 true (.tuple #[]))) fun t5_3 =>
    .chk none (vS (convert 2 54 t29)) t30 <|
    .chk none (vS (Instr.loadAt 2 t28)) t29 <|
    .chk none (vS (Instr.fieldAt 32 t3 5)) t28 <|
    .chk none (vS (convert 2 54 t26)) t27 <|
    .chk none (vS (Instr.loadAt 2 t25)) t26 <|
    .chk none (vS (Instr.fieldAt 32 t3 7)) t25 <|
    .chk none (vS (convert 2 54 t22)) t23 <|
    .chk none (vS (Instr.loadAt 2 t21)) t22 <|
    .chk none (vS (Instr.fieldAt 32 t2 5)) t21 <|
    .chk none (vS (convert 2 54 t19)) t20 <|
    .chk none (vS (Instr.loadAt 2 t18)) t19 <|
    .chk none (vS (Instr.fieldAt 32 t2 7)) t18 <|
    .op false (callS (.func (.func 52) #[] #[]) [t20, t23]) fun t24_1 =>
    .chk none (vS (convert 2 54 t29)) t30 <|
    .chk none (vS (Instr.loadAt 2 t28)) t29 <|
    .chk none (vS (Instr.fieldAt 32 t3 5)) t28 <|
    .chk none (vS (convert 2 54 t26)) t27 <|
    .chk none (vS (Instr.loadAt 2 t25)) t26 <|
    .chk none (vS (Instr.fieldAt 32 t3 7)) t25 <|
    .op false (callS (.func (.func 52) #[] #[]) [t27, t30]) fun t31_2 =>
    .op false (callS (.func (.func 53) #[] #[]) [t24_1, t31_2]) fun t32_3 =>
    .op true (vS (Instr.extract t32_3 0)) fun t33_3 =>
    .op true (vS (Instr.extract t32_3 1)) fun t34_3 =>
    .op false (uS (Instr.storeAt 98 t5_3 t33_3)) fun tu_29 =>
    .chk none (vS (Instr.extract t32_3 1)) t34_3 <|
    .draw <|
    .op true (vS (Instr.fieldAt 32 t2 2)) fun t35_3 =>
    .op true (vS (Instr.loadAt 2 t35_3)) fun t36_3 =>
    .op true (vS (Instr.fieldAt 32 t3 2)) fun t37_3 =>
    .op true (vS (Instr.loadAt 2 t37_3)) fun t38_3 =>
    .op true (bltS .max #[2, 2] 2 #[false, false] [t36_3, t38_3]) fun t39_3 =>
    .op true (vS (Instr.fieldAt 32 t2 3)) fun t40_3 =>
    .op true (vS (Instr.loadAt 2 t40_3)) fun t41_3 =>
    .op true (vS (Instr.fieldAt 32 t3 3)) fun t42_3 =>
    .op true (vS (Instr.loadAt 2 t42_3)) fun t43_3 =>
    .op true (bltS .min #[2, 2] 2 #[false, false] [t41_3, t43_3]) fun t44_3 =>
    .op true (vS (Instr.fieldAt 32 t3 4)) fun t45_3 =>
    .op true (vS (Instr.loadAt 2 t45_3)) fun t46_3 =>
    .op true (vS (Instr.fieldAt 32 t2 2)) fun t47_3 =>
    .op false (uS (Instr.storeAt 2 t47_3 t39_3)) fun tu_30 =>
    .chk none (vS (Instr.loadAt 2 t45_3)) t46_3 <|
    .chk none (vS (Instr.fieldAt 32 t3 4)) t45_3 <|
    .chk none (bltS .min #[2, 2] 2 #[false, false] [t41_3, t43_3]) t44_3 <|
    .chk none (vS (Instr.loadAt 2 t42_3)) t43_3 <|
    .chk none (vS (Instr.fieldAt 32 t3 3)) t42_3 <|
    .op true (vS (Instr.fieldAt 32 t2 3)) fun t48_3 =>
    .op false (uS (Instr.storeAt 2 t48_3 t44_3)) fun tu_31 =>
    .chk none (vS (Instr.loadAt 2 t45_3)) t46_3 <|
    .chk none (vS (Instr.fieldAt 32 t3 4)) t45_3 <|
    .op true (vS (Instr.fieldAt 32 t2 4)) fun t49_3 =>
    .op false (uS (Instr.storeAt 2 t49_3 t46_3)) fun tu_32 =>
    .op true (vS (Instr.fieldAt 32 t2 5)) fun t50_3 =>
    .op true (vS (Instr.loadAt 2 t50_3)) fun t51_3 =>
    .op true (vS (Instr.fieldAt 32 t3 5)) fun t52_3 =>
    .op true (vS (Instr.loadAt 2 t52_3)) fun t53_3 =>
    .op true (binS .add 2 (.tmp 51) (.tmp 53) t51_3 t53_3) fun t54_3 =>
    .op true (vS (Instr.fieldAt 32 t2 5)) fun t55_3 =>
    .op false (uS (Instr.storeAt 2 t55_3 t54_3)) fun tu_33 =>
    .op true (vS (Instr.fieldAt 32 t2 6)) fun t56_3 =>
    .op true (vS (Instr.loadAt 3 t56_3)) fun t57_3 =>
    .op true (vS (Instr.fieldAt 32 t3 6)) fun t58_3 =>
    .op true (vS (Instr.loadAt 3 t58_3)) fun t59_3 =>
    .op true (binS .add 3 (.tmp 57) (.tmp 59) t57_3 t59_3) fun t60_3 =>
    .op true (vS (Instr.fieldAt 32 t2 6)) fun t61_3 =>
    .op false (uS (Instr.storeAt 3 t61_3 t60_3)) fun tu_34 =>
    .op true (vS (Instr.fieldAt 32 t2 7)) fun t62_3 =>
    .op false (uS (Instr.storeAt 2 t62_3 (.int .i64 0))) fun tu_35 =>
    .op true (vS (Instr.fieldAt 32 t2 5)) fun t63_3 =>
    .op true (vS (Instr.loadAt 2 t63_3)) fun t64_3 =>
    .op true (binS .gtr 2 (.tmp 64) (.const (.int .i64 0)) t64_3 (.int .i64 0)) fun t65_3 =>
    .bind
      (
      .ite t65_3
        (
        .op true (vS (Instr.loadAt 98 t5_3)) fun t66_3 =>
        .op true (vS (Instr.fieldAt 32 t2 5)) fun t67_3 =>
        .op true (vS (Instr.loadAt 2 t67_3)) fun t68_3 =>
        .op false (callS (.func (.func 54) #[] #[]) [t66_3, t68_3]) fun t69_3 =>
        .op true (vS (Instr.fieldAt 32 t2 7)) fun t70_3 =>
        .op false (uS (Instr.storeAt 2 t70_3 t69_3)) fun tu_36 =>
        .done .normal []
        )
        (
        .done .normal []
        )
      ) fun tv_4 =>
    .op true (vS (Instr.loadAt 32 t2)) fun t71_3 =>
    .op false (uS (Instr.storeAt 32 t4 t71_3)) fun tu_37 =>
    .done .ret [t4]
    )
def cx16 : Cx := { N := 72, res := [4] }
theorem eq16 (a0 : Value) (a1 : Value) : comp cx16 (bodyC Try.f16) false [] (env0 0 [a0, a1]) (fun e => retP cx16 false e) = p16 a0 a1 := by kernel_rfl

/-- damper/damperref34.Whole -/
def p17 (a0 : Value) (a1 : Value) : Prog :=
  .op false (vS (Instr.alloc 34 true (.tuple #[]))) fun t4 =>
  .op false (callS (.func (.func 50) #[] #[]) [a0, a1]) fun t9 =>
  .op true (bltS .len #[22] 3 #[false] [t9]) fun t11 =>
  .op true (binS .eql 3 (.tmp 11) (.const (.int .i64 0)) t11 (.int .i64 0)) fun t12 =>
  .ite t12
    (
    .op true (vS (Instr.build 34 #[])) fun t13 =>
    .op false (uS (Instr.storeAt 34 t4 t13)) fun tu =>
    .done .ret [t4, (.bool false)]
    )
    (
    .op true (vS (Instr.indexAt 22 t9 (.int .i64 0))) fun t16 =>
    .op true (vS (Instr.fieldAt 46 t16 3)) fun t17 =>
    .op true (vS (Instr.loadAt 2 t17)) fun t18 =>
    .op false (callS (.func (.func 51) #[] #[]) [t9, t18]) fun t19 =>
    .op false (uS (Instr.storeAt 34 t4 t19)) fun tu_1 =>
    .done .ret [t4, (.bool true)]
    )
def cx17 : Cx := { N := 20, res := [4, 5] }
theorem eq17 (a0 : Value) (a1 : Value) : comp cx17 (bodyC Try.f17) false [] (env0 0 [a0, a1]) (fun e => retP cx17 false e) = p17 a0 a1 := by kernel_rfl

/-- damper/tape.Busiest -/
def p18 (a0 : Value) (a1 : Value) : Prog :=
  .op false (callS (.func (.func 20) #[] #[]) [a0, a1]) fun t12 =>
  .op false (callS (.func (.func 56) #[] #[]) [t12]) fun t14 =>
  .op false (callS (.func (.func 55) #[] #[]) [t14]) fun t15 =>
  .op true (bltS .len #[112] 3 #[false] [t15]) fun t17 =>
  .bind
    (
    .block 0 <|
    .loop [(.int .i64 0), (.int .i64 0)] fun tx =>
    .op true (binS .lss 3 (.tmp 18) (.tmp 17) (tx.tail.headD undef) t17) fun t19 =>
    .ite t19
      (
      .bind
        (
        .block 1 <|
        .op true (vS (Instr.indexAt 112 t15 (tx.tail.headD undef))) fun t21 =>
        .op true (vS (Instr.loadAt 2 t21)) fun t22 =>
        .bind
          (
          .op true (binS .eql 3 (.tmp 23) (.const (.int .i64 0)) (tx.tail.headD undef) (.int .i64 0)) fun t24 =>
          .gop t24 false true ((pure (.value t12))) fun t26 =>
          .gop t24 false true ((pure (.value t22))) fun t27 =>
          .gop t24 false true (vS (Instr.lookup 43 t26 t27 false)) fun t28 =>
          .gop t24 false true ((pure (.value t12))) fun t29 =>
          .gop t24 false true ((pure (.value (tx.headD undef)))) fun t30 =>
          .gop t24 false true (vS (Instr.lookup 43 t29 t30 false)) fun t31 =>
          .gop t24 false true (binS .gtr 2 (.tmp 28) (.tmp 31) t28 t31) fun t32 =>
          .op true (pickS t24 (.bool true) t32) fun t33 =>
          .done .normal [t33]
          ) fun tv =>
        .bind
          (
          .ite (tv.headD undef)
            (
            .done .normal [t22]
            )
            (
            .done .normal [(tx.headD undef)]
            )
          ) fun tv_1 =>
        .done .normal [(tv_1.headD undef)]
        ) fun tv_2 =>
      .op true (binS .add 3 (.tmp 18) (.const (.int .i64 1)) (tx.tail.headD undef) (.int .i64 1)) fun t35 =>
      .done .normal [(tv_2.headD undef), t35]
      )
      (
      .done (.exit 0) [(tx.headD undef)]
      )
    ) fun tv_3 =>
  .op true (bltS .len #[112] 3 #[false] [t15]) fun t38 =>
  .op true (binS .gtr 3 (.tmp 38) (.const (.int .i64 0)) t38 (.int .i64 0)) fun t39 =>
  .done .ret [(tv_3.headD undef), t39]
def cx18 : Cx := { N := 40, res := [4, 5], blk := [(0, [4]), (1, [4])], cnd := [(33, [4])], reg := [(6, [33])] }
theorem eq18 (a0 : Value) (a1 : Value) : comp cx18 (bodyC Try.f18) false [] (env0 0 [a0, a1]) (fun e => retP cx18 false e) = p18 a0 a1 := by kernel_rfl

/-- damper/damperref34.Busiest -/
def p19 (a0 : Value) (a1 : Value) : Prog :=
  .op false (callS (.func (.func 50) #[] #[]) [a0, a1]) fun t13 =>
  .bind
    (
    .block 0 <|
    .loop [(.int .i64 0), (.int .i64 0), (.int .i64 0)] fun tx =>
    .op true (bltS .len #[22] 3 #[false] [t13]) fun t16 =>
    .op true (binS .lss 3 (.tmp 14) (.tmp 16) (tx.tail.tail.headD undef) t16) fun t17 =>
    .ite t17
      (
      .bind
        (
        .block 1 <|
        .op true (vS (Instr.indexAt 22 t13 (tx.tail.tail.headD undef))) fun t24 =>
        .op true (vS (Instr.fieldAt 46 t24 6)) fun t25 =>
        .op true (vS (Instr.loadAt 2 t25)) fun t26 =>
        .op false (callS (.func (.func 21) #[] #[]) [a0, a1, t26]) fun t27 =>
        .bind
          (
          .op true (binS .gtr 2 (.tmp 28) (.tmp 29) t27 (tx.tail.headD undef)) fun t30 =>
          .gop t30 false true ((pure (.value t27))) fun t32 =>
          .gop t30 false true ((pure (.value (tx.tail.headD undef)))) fun t33 =>
          .gop t30 false true (binS .eql 2 (.tmp 32) (.tmp 33) t32 t33) fun t34 =>
          .gop t30 false true ((pure (.value t34))) fun t35 =>
          .gop t35 true true ((pure (.value t13))) fun t36 =>
          .gop t35 true true ((pure (.value (tx.tail.tail.headD undef)))) fun t37 =>
          .gop t35 true true (vS (Instr.indexAt 22 t36 t37)) fun t38 =>
          .gop t35 true true (vS (Instr.fieldAt 46 t38 6)) fun t39 =>
          .gop t35 true true (vS (Instr.loadAt 2 t39)) fun t40 =>
          .gop t35 true true ((pure (.value (tx.headD undef)))) fun t41 =>
          .gop t35 true true (binS .lss 2 (.tmp 40) (.tmp 41) t40 t41) fun t42 =>
          .gop t30 false true (pickS t35 t42 (.bool false)) fun t43 =>
          .op true (pickS t30 (.bool true) t43) fun t44 =>
          .done .normal [t44]
          ) fun tv =>
        .bind
          (
          .ite (tv.headD undef)
            (
            .op true (vS (Instr.indexAt 22 t13 (tx.tail.tail.headD undef))) fun t47 =>
            .op true (vS (Instr.fieldAt 46 t47 6)) fun t48 =>
            .op true (vS (Instr.loadAt 2 t48)) fun t49 =>
            .done .normal [t49, t27]
            )
            (
            .done .normal [(tx.headD undef), (tx.tail.headD undef)]
            )
          ) fun tv_1 =>
        .done .normal [(tv_1.headD undef), (tv_1.tail.headD undef)]
        ) fun tv_2 =>
      .op true (binS .add 3 (.tmp 18) (.const (.int .i64 1)) (tx.tail.tail.headD undef) (.int .i64 1)) fun t19 =>
      .done .normal [(tv_2.headD undef), (tv_2.tail.headD undef), t19]
      )
      (
      .done (.exit 0) [(tx.headD undef)]
      )
    ) fun tv_3 =>
  .op true (bltS .len #[22] 3 #[false] [t13]) fun t53 =>
  .op true (binS .gtr 3 (.tmp 53) (.const (.int .i64 0)) t53 (.int .i64 0)) fun t54 =>
  .done .ret [(tv_3.headD undef), t54]
def cx19 : Cx := { N := 55, res := [4, 5], blk := [(0, [7]), (1, [7, 8])], cnd := [(44, [7, 8])], reg := [(7, [44])] }
theorem eq19 (a0 : Value) (a1 : Value) : comp cx19 (bodyC Try.f19) false [] (env0 0 [a0, a1]) (fun e => retP cx19 false e) = p19 a0 a1 := by kernel_rfl

/-- damper/tape.Volumes -/
def p20 (a0 : Value) (a1 : Value) : Prog :=
  .op false (vS (Instr.makeMap 43 none)) fun t7 =>
  .op false (vS (Instr.alloc 43 true (.tuple #[]))) fun t5 =>
  .op false (uS (Instr.storeAt 43 t5 t7)) fun tu =>
  .op false (callS (.func (.func 47) #[] #[]) [a0, a1]) fun t10 =>
  .bind
    (
    .block 0 <|
    .rangeF t10 1 (fun ty =>
        .op false (vS (Instr.alloc 46 true (.tuple #[]))) fun t6 =>
        .op false (uS (Instr.storeAt 46 t6 (ty.headD undef))) fun tu_1 =>
        .begin <|
        .bind
          (
          .block 1 <|
          .op true (vS (Instr.loadAt 43 t5)) fun t12 =>
          .op true (vS (Instr.fieldAt 46 t6 6)) fun t13 =>
          .op true (vS (Instr.loadAt 2 t13)) fun t14 =>
          .op true (vS (Instr.lookup 43 t12 t14 false)) fun t15 =>
          .op true (vS (Instr.fieldAt 46 t6 7)) fun t16 =>
          .op true (vS (Instr.loadAt 2 t16)) fun t17 =>
          .op true (binS .add 2 (.tmp 15) (.tmp 17) t15 t17) fun t18 =>
          .op false (uS (Instr.mapUpdate 43 t12 t14 t18)) fun tu_2 =>
          .done .normal []
          ) fun tv =>
        .done .normal []
      )
      (exK (
        .done .normal []
      ) (
        .done .ret [(.map none)]
      ) fun id =>
        .fail)
    ) fun tv_1 =>
  .op true (vS (Instr.loadAt 43 t5)) fun t19 =>
  .done .ret [t19]
def cx20 : Cx := { N := 20, res := [4] }
theorem eq20 (a0 : Value) (a1 : Value) : comp cx20 (bodyC Try.f20) false [] (env0 0 [a0, a1]) (fun e => retP cx20 false e) = p20 a0 a1 := by kernel_rfl

/-- damper/damperref34.Volume -/
def p21 (a0 : Value) (a1 : Value) (a2 : Value) : Prog :=
  .op false (callS (.func (.func 50) #[] #[]) [a0, a1]) fun t12 =>
  .bind
    (
    .block 0 <|
    .loop [(.int .i64 0), (.int .i64 0)] fun tx =>
    .op true (bltS .len #[22] 3 #[false] [t12]) fun t15 =>
    .op true (binS .lss 3 (.tmp 13) (.tmp 15) (tx.tail.headD undef) t15) fun t16 =>
    .ite t16
      (
      .bind
        (
        .block 1 <|
        .op true (vS (Instr.indexAt 22 t12 (tx.tail.headD undef))) fun t21 =>
        .op true (vS (Instr.fieldAt 46 t21 6)) fun t22 =>
        .op true (vS (Instr.loadAt 2 t22)) fun t23 =>
        .op true (binS .eql 2 (.tmp 23) (.tmp 24) t23 a2) fun t25 =>
        .bind
          (
          .ite t25
            (
            .op true (vS (Instr.indexAt 22 t12 (tx.tail.headD undef))) fun t29 =>
            .op true (vS (Instr.fieldAt 46 t29 7)) fun t30 =>
            .op true (vS (Instr.loadAt 2 t30)) fun t31 =>
            .op true (binS .add 2 (.tmp 26) (.tmp 31) (tx.headD undef) t31) fun t32 =>
            .done .normal [t32]
            )
            (
            .done .normal [(tx.headD undef)]
            )
          ) fun tv =>
        .done .normal [(tv.headD undef)]
        ) fun tv_1 =>
      .op true (binS .add 3 (.tmp 17) (.const (.int .i64 1)) (tx.tail.headD undef) (.int .i64 1)) fun t18 =>
      .done .normal [(tv_1.headD undef), t18]
      )
      (
      .done (.exit 0) [(tx.headD undef)]
      )
    ) fun tv_2 =>
  .done .ret [(tv_2.headD undef)]
def cx21 : Cx := { N := 34, res := [6], blk := [(0, [8]), (1, [8])], cnd := [(25, [8])] }
theorem eq21 (a0 : Value) (a1 : Value) (a2 : Value) : comp cx21 (bodyC Try.f21) false [] (env0 0 [a0, a1, a2]) (fun e => retP cx21 false e) = p21 a0 a1 a2 := by kernel_rfl

/-- damper/damperlaw07.Light -/
def p22 (a0 : Value) : Prog :=
  .op false (vS (Instr.box 53 a0)) fun t1 =>
  .bind
    (
    .op true (vS (Instr.fieldAt 53 t1 0)) fun t3 =>
    .op true (vS (Instr.loadAt 48 t3)) fun t4 =>
    .op true (bltS .len #[48] 3 #[false] [t4]) fun t5 =>
    .op true (binS .leq 3 (.tmp 5) (.const (.int .i64 20)) t5 (.int .i64 20)) fun t6 =>
    .gop t6 true true (vS (Instr.fieldAt 53 t1 1)) fun t8 =>
    .gop t6 true true (vS (Instr.loadAt 49 t8)) fun t9 =>
    .gop t6 true true (bltS .len #[49] 3 #[false] [t9]) fun t10 =>
    .gop t6 true true (binS .leq 3 (.tmp 10) (.const (.int .i64 40)) t10 (.int .i64 40)) fun t11 =>
    .op true (pickS t6 t11 (.bool false)) fun t12 =>
    .done .normal [t12]
    ) fun tv =>
  .done .ret [(tv.headD undef)]
def cx22 : Cx := { N := 13, res := [2], reg := [(1, [2])] }
theorem eq22 (a0 : Value) : comp cx22 (bodyC Try.f22) false [] (env0 0 [a0]) (fun e => retP cx22 false e) = p22 a0 := by kernel_rfl

/-- damper/damperlaw37.alive -/
def p23 : Prog :=
  .op false (callS (.func (.func 57) #[] #[]) [(.int .i64 1)]) fun t4 =>
  .op false (callS (.func (.func 31) #[] #[]) [t4]) fun t5 =>
  .op true (vS (Instr.extract t5 0)) fun t6 =>
  .op true (vS (Instr.extract t5 1)) fun t7 =>
  .bind
    (
    .op false (callS (.func (.func 24) #[] #[]) [(.int .u64 1)]) fun t8 =>
    .op false (callS (.func (.func 27) #[] #[]) [t8, (.int .i64 10)]) fun t9 =>
    .op true (binS .eql 2 (.tmp 9) (.const (.int .i64 4)) t9 (.int .i64 4)) fun t10 =>
    .gop t10 true true ((pure (.value t6))) fun t12 =>
    .gop t10 true true (binS .eql 2 (.tmp 12) (.const (.int .i64 10)) t12 (.int .i64 10)) fun t13 =>
    .op true (pickS t10 t13 (.bool false)) fun t14 =>
    .gop t14 true true ((pure (.value t7))) fun t16 =>
    .op true (pickS t14 t16 (.bool false)) fun t17 =>
    .done .normal [t17]
    ) fun tv =>
  .done .ret [(tv.headD undef)]
def cx23 : Cx := { N := 18, res := [0], reg := [(2, [0])] }
theorem eq23 : comp cx23 (bodyC Try.f23) false [] (env0 0 []) (fun e => retP cx23 false e) = p23 := by kernel_rfl

/-- damper/drill.New -/
def p24 (a0 : Value) : Prog :=
  .op true (vS (Instr.build 119 #[(0, a0)])) fun t4 =>
  .op false (vS (Instr.box 119 t4)) fun t5 =>
  .done .ret [t5]
def cx24 : Cx := { N := 6, res := [2] }
theorem eq24 (a0 : Value) : comp cx24 (bodyC Try.f24) false [] (env0 0 [a0]) (fun e => retP cx24 false e) = p24 a0 := by kernel_rfl

/-- damper/drill.Order -/
def p25 (a0 : Value) (a1 : Value) (a2 : Value) (a3 : Value) : Prog :=
  .op false (vS (Instr.box 53 a0)) fun t4 =>
  .op false (vS (Instr.alloc 62 true (.tuple #[]))) fun t8 =>
  .bind
    (
    .op true (binS .eql 56 (.tmp 11) (.const (.pointer none)) a1 (.pointer none)) fun t12 =>
    .gop t12 false true (vS (Instr.loadAt 53 t4)) fun t14 =>
    .gop t12 false true ((pure (.value a2))) fun t15 =>
    .gop t12 false false (callS (.func (.func 58) #[] #[]) [t14, t15]) fun t16 =>
    .gop t12 false true (binS .neq 25 (.tmp 16) (.const (.int .i64 0)) t16 (.int .i64 0)) fun t17 =>
    .op true (pickS t12 (.bool true) t17) fun t18 =>
    .gop t18 false true ((pure (.value a3))) fun t20 =>
    .gop t18 false true (binS .lss 3 (.tmp 20) (.const (.int .i64 0)) t20 (.int .i64 0)) fun t21 =>
    .op true (pickS t18 (.bool true) t21) fun t22 =>
    .gop t22 false true ((pure (.value a3))) fun t24 =>
    .gop t22 false true (binS .gtr 3 (.tmp 24) (.const (.int .i64 2000)) t24 (.int .i64 2000)) fun t25 =>
    .op true (pickS t22 (.bool true) t25) fun t26 =>
    .done .normal [t26]
    ) fun tv =>
  .ite (tv.headD undef)
    (
    .op true (vS (Instr.loadAt 62 t8)) fun t27 =>
    .op false (uS (Instr.storeAt 62 t8 t27)) fun tu =>
    .done .ret [t8]
    )
    (
    .op true (binS .add 3 (.tmp 30) (.const (.int .i64 1)) a3 (.int .i64 1)) fun t31 =>
    .op true (vS (Instr.fieldAt 62 t8 0)) fun t32 =>
    .op false (uS (Instr.storeAt 3 t32 (.int .i64 1))) fun tu_1 =>
    .op true (vS (Instr.fieldAt 62 t8 2)) fun t33 =>
    .op false (uS (Instr.storeAt 2 t33 t31)) fun tu_2 =>
    .op true (vS (Instr.fieldAt 53 t4 0)) fun t35 =>
    .op true (vS (Instr.loadAt 48 t35)) fun t36 =>
    .op true (bltS .len #[48] 3 #[false] [t36]) fun t37 =>
    .op false (callS (.func (.func 27) #[a1] #[]) [t37]) fun t38 =>
    .op true (vS (Instr.fieldAt 62 t8 1)) fun t39 =>
    .op false (uS (Instr.storeAt 3 t39 t38)) fun tu_3 =>
    .op false (callS (.func (.func 27) #[a1] #[]) [(.int .i64 2)]) fun t41 =>
    .op true (vS (Instr.fieldAt 62 t8 4)) fun t42 =>
    .op false (uS (Instr.storeAt 3 t42 t41)) fun tu_4 =>
    .draw <|
    .op true (vS (Instr.fieldAt 53 t4 0)) fun t43 =>
    .op true (vS (Instr.loadAt 48 t43)) fun t44 =>
    .op true (vS (Instr.fieldAt 62 t8 1)) fun t45 =>
    .op true (vS (Instr.loadAt 3 t45)) fun t46 =>
    .op true (vS (Instr.indexAt 48 t44 t46)) fun t47 =>
    .op true (vS (Instr.loadAt 123 t47)) fun t48 =>
    .op true (vS (Instr.fieldAt 62 t8 4)) fun t52 =>
    .op true (vS (Instr.loadAt 3 t52)) fun t53 =>
    .op false (callS (.func (.func 60) #[] #[]) [a1, a2, a3, t53]) fun t54 =>
    .chk none (vS (Instr.loadAt 123 t47)) t48 <|
    .chk none (vS (Instr.indexAt 48 t44 t46)) t47 <|
    .chk none (vS (Instr.loadAt 3 t45)) t46 <|
    .chk none (vS (Instr.fieldAt 62 t8 1)) t45 <|
    .chk none (vS (Instr.loadAt 48 t43)) t44 <|
    .chk none (vS (Instr.fieldAt 53 t4 0)) t43 <|
    .op false (callS (.func (.func 59) #[] #[]) [t48, t54]) fun t55 =>
    .op true (vS (Instr.fieldAt 62 t8 6)) fun t56 =>
    .op false (uS (Instr.storeAt 2 t56 t55)) fun tu_5 =>
    .op false (callS (.func (.func 27) #[a1] #[]) [(.int .i64 9)]) fun t58 =>
    .op true (binS .add 2 (.tmp 58) (.const (.int .i64 1)) t58 (.int .i64 1)) fun t59 =>
    .op true (vS (Instr.fieldAt 62 t8 7)) fun t60 =>
    .op false (uS (Instr.storeAt 2 t60 t59)) fun tu_6 =>
    .op false (callS (.func (.func 27) #[a1] #[]) [(.int .i64 4)]) fun t62 =>
    .op true (vS (Instr.fieldAt 62 t8 3)) fun t63 =>
    .op false (uS (Instr.storeAt 3 t63 t62)) fun tu_7 =>
    .op false (callS (.func (.func 61) #[] #[]) [a1, a2]) fun t66 =>
    .op true (vS (Instr.fieldAt 62 t8 5)) fun t67 =>
    .op false (uS (Instr.storeAt 3 t67 t66)) fun tu_8 =>
    .op true (vS (Instr.fieldAt 62 t8 5)) fun t68 =>
    .op true (vS (Instr.loadAt 3 t68)) fun t69 =>
    .op true (binS .eql 3 (.tmp 69) (.const (.int .i64 2)) t69 (.int .i64 2)) fun t70 =>
    .bind
      (
      .ite t70
        (
        .op true (vS (Instr.fieldAt 62 t8 6)) fun t71 =>
        .op false (uS (Instr.storeAt 2 t71 (.int .i64 0))) fun tu_9 =>
        .done .normal []
        )
        (
        .done .normal []
        )
      ) fun tv_1 =>
    .op true (vS (Instr.build 125 #[(0, (.int .i64 4)), (1, (.int .i64 1))])) fun t72 =>
    .op false (vS (Instr.alloc 125 true (.tuple #[]))) fun t10 =>
    .op false (uS (Instr.storeAt 125 t10 t72)) fun tu_10 =>
    .op false (callS (.func (.func 27) #[a1] #[]) [(.int .i64 6)]) fun t74 =>
    .op true (vS (Instr.indexAt 125 t10 t74)) fun t75 =>
    .op true (vS (Instr.loadAt 3 t75)) fun t76 =>
    .op true (vS (Instr.fieldAt 62 t8 8)) fun t77 =>
    .op false (uS (Instr.storeAt 3 t77 t76)) fun tu_11 =>
    .op true (vS (Instr.loadAt 62 t8)) fun t78 =>
    .op false (uS (Instr.storeAt 62 t8 t78)) fun tu_12 =>
    .done .ret [t8]
    )
def cx25 : Cx := { N := 79, res := [8], reg := [(1, [26])] }
theorem eq25 (a0 : Value) (a1 : Value) (a2 : Value) (a3 : Value) : comp cx25 (bodyC Try.f25) false [] (env0 0 [a0, a1, a2, a3]) (fun e => retP cx25 false e) = p25 a0 a1 a2 a3 := by kernel_rfl

/-- damper/damperref37.Order -/
def p26 (a0 : Value) (a1 : Value) (a2 : Value) (a3 : Value) : Prog :=
  .op false (vS (Instr.box 53 a0)) fun t4 =>
  .op false (vS (Instr.alloc 62 true (.tuple #[]))) fun t8 =>
  .op true (vS (Instr.loadAt 53 t4)) fun t16 =>
  .op false (callS (.func (.func 62) #[] #[]) [t16]) fun t17 =>
  .op true (vS (Instr.extract t17 0)) fun t18 =>
  .op true (vS (Instr.extract t17 1)) fun t19 =>
  .bind
    (
    .op true (binS .neq 25 (.tmp 20) (.const (.int .i64 0)) t18 (.int .i64 0)) fun t21 =>
    .gop t21 false true ((pure (.value a2))) fun t23 =>
    .gop t21 false true (binS .lss 3 (.tmp 23) (.const (.int .i64 0)) t23 (.int .i64 0)) fun t24 =>
    .op true (pickS t21 (.bool true) t24) fun t25 =>
    .gop t25 false true ((pure (.value a2))) fun t27 =>
    .gop t25 false true (binS .gtr 3 (.tmp 27) (.const (.int .i64 4)) t27 (.int .i64 4)) fun t28 =>
    .op true (pickS t25 (.bool true) t28) fun t29 =>
    .gop t29 false true ((pure (.value a3))) fun t31 =>
    .gop t29 false true (binS .lss 3 (.tmp 31) (.const (.int .i64 0)) t31 (.int .i64 0)) fun t32 =>
    .op true (pickS t29 (.bool true) t32) fun t33 =>
    .gop t33 false true ((pure (.value a3))) fun t35 =>
    .gop t33 false true (binS .gtr 3 (.tmp 35) (.const (.int .i64 2000)) t35 (.int .i64 2000)) fun t36 =>
    .op true (pickS t33 (.bool true) t36) fun t37 =>
    .done .normal [t37]
    ) fun tv =>
  .ite (tv.headD undef)
    (
    .op true (vS (Instr.build 62 #[])) fun t38 =>
    .op false (uS (Instr.storeAt 62 t8 t38)) fun tu =>
    .done .ret [t8]
    )
    (
    .op true (binS .add 2 (.tmp 39) (.const (.int .i64 1)) a3 (.int .i64 1)) fun t40 =>
    .op true (vS (Instr.build 62 #[(0, (.int .i64 1)), (2, t40)])) fun t41 =>
    .op false (vS (Instr.alloc 62 true (.tuple #[]))) fun t11 =>
    .op false (uS (Instr.storeAt 62 t11 t41)) fun tu_1 =>
    .op true (vS (Instr.fieldAt 53 t4 0)) fun t43 =>
    .op true (vS (Instr.loadAt 48 t43)) fun t44 =>
    .op true (bltS .len #[48] 3 #[false] [t44]) fun t45 =>
    .op false (callS (.func (.func 28) #[] #[]) [a1, t45]) fun t46 =>
    .op true (vS (Instr.fieldAt 62 t11 1)) fun t47 =>
    .op false (uS (Instr.storeAt 3 t47 t46)) fun tu_2 =>
    .op true (vS (Instr.fieldAt 53 t4 0)) fun t48 =>
    .op true (vS (Instr.loadAt 48 t48)) fun t49 =>
    .op true (vS (Instr.fieldAt 62 t11 1)) fun t50 =>
    .op true (vS (Instr.loadAt 3 t50)) fun t51 =>
    .op true (vS (Instr.indexAt 48 t49 t51)) fun t52 =>
    .op true (vS (Instr.loadAt 123 t52)) fun t53 =>
    .op false (vS (Instr.alloc 123 true (.tuple #[]))) fun t12 =>
    .op false (uS (Instr.storeAt 123 t12 t53)) fun tu_3 =>
    .op false (callS (.func (.func 28) #[] #[]) [a1, (.int .i64 2)]) fun t55 =>
    .op true (vS (Instr.fieldAt 62 t11 4)) fun t56 =>
    .op false (uS (Instr.storeAt 3 t56 t55)) fun tu_4 =>
    .draw <|
    .op true (vS (Instr.fieldAt 123 t12 1)) fun t57 =>
    .op true (vS (Instr.loadAt 2 t57)) fun t58 =>
    .op true (vS (Instr.fieldAt 123 t12 0)) fun t59 =>
    .op true (vS (Instr.loadAt 2 t59)) fun t60 =>
    .op true (binS .quo 2 (.tmp 58) (.tmp 60) t58 t60) fun t61 =>
    .op true (vS (Instr.fieldAt 62 t11 4)) fun t65 =>
    .op true (vS (Instr.loadAt 3 t65)) fun t66 =>
    .op false (callS (.func (.func 63) #[] #[]) [a1, a2, a3, t66]) fun t67 =>
    .chk none (binS .quo 2 (.tmp 58) (.tmp 60) t58 t60) t61 <|
    .chk none (vS (Instr.loadAt 2 t59)) t60 <|
    .chk none (vS (Instr.fieldAt 123 t12 0)) t59 <|
    .chk none (vS (Instr.loadAt 2 t57)) t58 <|
    .chk none (vS (Instr.fieldAt 123 t12 1)) t57 <|
    .op true (binS .add 2 (.tmp 61) (.tmp 67) t61 t67) fun t68 =>
    .draw <|
    .op true (vS (Instr.fieldAt 123 t12 0)) fun t69 =>
    .op true (vS (Instr.loadAt 2 t69)) fun t70 =>
    .op true (vS (Instr.fieldAt 123 t12 0)) fun t72 =>
    .op true (vS (Instr.loadAt 2 t72)) fun t73 =>
    .op true (binS .quo 2 (.const (.int .i64 1099511627776)) (.tmp 73) (.int .i64 1099511627776) t73) fun t74 =>
    .op true (bltS .min #[2, 2] 2 #[false, false] [t68, t74]) fun t75 =>
    .op true (bltS .max #[2, 2] 2 #[false, true] [t75, (.int .i64 1)]) fun t76 =>
    .op true (binS .mul 2 (.tmp 70) (.tmp 76) t70 t76) fun t77 =>
    .op true (vS (Instr.fieldAt 62 t11 6)) fun t78 =>
    .op false (uS (Instr.storeAt 2 t78 t77)) fun tu_5 =>
    .op false (callS (.func (.func 28) #[] #[]) [a1, (.int .i64 9)]) fun t80 =>
    .op true (binS .add 2 (.const (.int .i64 1)) (.tmp 80) (.int .i64 1) t80) fun t81 =>
    .op true (vS (Instr.fieldAt 62 t11 7)) fun t82 =>
    .op false (uS (Instr.storeAt 2 t82 t81)) fun tu_6 =>
    .op false (callS (.func (.func 28) #[] #[]) [a1, (.int .i64 4)]) fun t84 =>
    .op true (vS (Instr.fieldAt 62 t11 3)) fun t85 =>
    .op false (uS (Instr.storeAt 3 t85 t84)) fun tu_7 =>
    .op true (vS (Instr.fieldAt 62 t11 5)) fun t86 =>
    .op false (uS (Instr.storeAt 3 t86 (.int .i64 1))) fun tu_8 =>
    .op false (callS (.func (.func 28) #[] #[]) [a1, (.int .i64 8)]) fun t88 =>
    .bind
      (
      .block 0 <|
      .op true (binS .eql 2 (.tmp 90) (.const (.int .i64 0)) t88 (.int .i64 0)) fun t91 =>
      .bind
        (
        .ite t91
          (
          .op true (vS (Instr.fieldAt 62 t11 5)) fun t92 =>
          .op false (uS (Instr.storeAt 3 t92 (.int .i64 3))) fun tu_9 =>
          .done .normal []
          )
          (
          .op true (binS .eql 2 (.tmp 94) (.const (.int .i64 1)) t88 (.int .i64 1)) fun t95 =>
          .bind
            (
            .ite t95
              (
              .op true (vS (Instr.fieldAt 62 t11 5)) fun t96 =>
              .op false (uS (Instr.storeAt 3 t96 (.int .i64 5))) fun tu_10 =>
              .done .normal []
              )
              (
              .bind
                (
                .op true (binS .eql 2 (.tmp 98) (.const (.int .i64 2)) t88 (.int .i64 2)) fun t99 =>
                .gop t99 true true ((pure (.value a2))) fun t101 =>
                .gop t99 true true (binS .eql 3 (.tmp 101) (.const (.int .i64 4)) t101 (.int .i64 4)) fun t102 =>
                .op true (pickS t99 t102 (.bool false)) fun t103 =>
                .done .normal [t103]
                ) fun tv_1 =>
              .bind
                (
                .ite (tv_1.headD undef)
                  (
                  .op true (vS (Instr.fieldAt 62 t11 5)) fun t104 =>
                  .op false (uS (Instr.storeAt 3 t104 (.int .i64 2))) fun tu_11 =>
                  .op true (vS (Instr.fieldAt 62 t11 6)) fun t105 =>
                  .op false (uS (Instr.storeAt 2 t105 (.int .i64 0))) fun tu_12 =>
                  .done .normal []
                  )
                  (
                  .done .normal []
                  )
                ) fun tv_2 =>
              .done .normal []
              )
            ) fun tv_3 =>
          .done .normal []
          )
        ) fun tv_4 =>
      .done .normal []
      ) fun tv_5 =>
    .op false (callS (.func (.func 28) #[] #[]) [a1, (.int .i64 6)]) fun t107 =>
    .bind
      (
      .block 1 <|
      .op true (binS .eql 2 (.tmp 107) (.const (.int .i64 0)) t107 (.int .i64 0)) fun t109 =>
      .bind
        (
        .ite t109
          (
          .op true (vS (Instr.fieldAt 62 t11 8)) fun t110 =>
          .op false (uS (Instr.storeAt 3 t110 (.int .i64 4))) fun tu_13 =>
          .done .normal []
          )
          (
          .op true (binS .eql 2 (.tmp 107) (.const (.int .i64 1)) t107 (.int .i64 1)) fun t112 =>
          .bind
            (
            .ite t112
              (
              .op true (vS (Instr.fieldAt 62 t11 8)) fun t113 =>
              .op false (uS (Instr.storeAt 3 t113 (.int .i64 1))) fun tu_14 =>
              .done .normal []
              )
              (
              .done .normal []
              )
            ) fun tv_6 =>
          .done .normal []
          )
        ) fun tv_7 =>
      .done .normal []
      ) fun tv_8 =>
    .op true (vS (Instr.loadAt 62 t11)) fun t114 =>
    .op false (uS (Instr.storeAt 62 t8 t114)) fun tu_15 =>
    .done .ret [t8]
    )
def cx26 : Cx := { N := 115, res := [8], reg := [(2, [37]), (18, [97])] }
theorem eq26 (a0 : Value) (a1 : Value) (a2 : Value) (a3 : Value) : comp cx26 (bodyC Try.f26) false [] (env0 0 [a0, a1, a2, a3]) (fun e => retP cx26 false e) = p26 a0 a1 a2 a3 := by kernel_rfl

/-- (*damper/drill.Dice).Next -/
def p27 (a0 : Value) (a1 : Value) : Prog :=
  .bind
    (
    .op true (binS .eql 56 (.tmp 5) (.const (.pointer none)) a0 (.pointer none)) fun t6 =>
    .gop t6 false true ((pure (.value a1))) fun t8 =>
    .gop t6 false true (binS .lss 2 (.tmp 8) (.const (.int .i64 1)) t8 (.int .i64 1)) fun t9 =>
    .op true (pickS t6 (.bool true) t9) fun t10 =>
    .done .normal [t10]
    ) fun tv =>
  .ite (tv.headD undef)
    (
    .done .ret [(.int .i64 0)]
    )
    (
    .op true (nilS a0) fun t13 =>
    .op true (vS (Instr.fieldAt 119 t13 0)) fun t14 =>
    .op true (vS (Instr.loadAt 54 t14)) fun t15 =>
    .op true (binS .mul 54 (.tmp 15) (.const (.int .u64 6364136223846793005)) t15 (.int .u64 6364136223846793005)) fun t16 =>
    .op true (binS .add 54 (.tmp 16) (.const (.int .u64 1442695040888963407)) t16 (.int .u64 1442695040888963407)) fun t17 =>
    .op true (nilS a0) fun t18 =>
    .op true (vS (Instr.fieldAt 119 t18 0)) fun t19 =>
    .op false (uS (Instr.storeAt 54 t19 t17)) fun tu =>
    .op true (nilS a0) fun t21 =>
    .op true (vS (Instr.fieldAt 119 t21 0)) fun t22 =>
    .op true (vS (Instr.loadAt 54 t22)) fun t23 =>
    .op true (binS .shr 54 (.tmp 23) (.const (.int .u64 33)) t23 (.int .u64 33)) fun t24 =>
    .op true (vS (convert 54 2 t24)) fun t25 =>
    .op true (binS .rem 2 (.tmp 25) (.tmp 26) t25 a1) fun t27 =>
    .done .ret [t27]
    )
def cx27 : Cx := { N := 28, res := [4], reg := [(1, [10])] }
theorem eq27 (a0 : Value) (a1 : Value) : comp cx27 (bodyC Try.f27) false [] (env0 0 [a0, a1]) (fun e => retP cx27 false e) = p27 a0 a1 := by kernel_rfl

/-- (*damper/damperref37.Dice).Next -/
def p28 (a0 : Value) (a1 : Value) : Prog :=
  .op true (binS .lss 2 (.tmp 5) (.const (.int .i64 1)) a1 (.int .i64 1)) fun t6 =>
  .ite t6
    (
    .done .ret [(.int .i64 0)]
    )
    (
    .op true (nilS a0) fun t9 =>
    .op true (vS (Instr.fieldAt 60 t9 0)) fun t10 =>
    .op true (vS (Instr.loadAt 54 t10)) fun t11 =>
    .op true (binS .mul 54 (.tmp 11) (.const (.int .u64 6364136223846793005)) t11 (.int .u64 6364136223846793005)) fun t12 =>
    .op true (binS .add 54 (.tmp 12) (.const (.int .u64 1442695040888963407)) t12 (.int .u64 1442695040888963407)) fun t13 =>
    .op true (nilS a0) fun t14 =>
    .op true (vS (Instr.fieldAt 60 t14 0)) fun t15 =>
    .op false (uS (Instr.storeAt 54 t15 t13)) fun tu =>
    .op true (nilS a0) fun t17 =>
    .op true (vS (Instr.fieldAt 60 t17 0)) fun t18 =>
    .op true (vS (Instr.loadAt 54 t18)) fun t19 =>
    .op true (binS .quo 54 (.tmp 19) (.const (.int .u64 8589934592)) t19 (.int .u64 8589934592)) fun t20 =>
    .op true (vS (convert 54 2 t20)) fun t21 =>
    .op true (binS .rem 2 (.tmp 21) (.tmp 22) t21 a1) fun t23 =>
    .done .ret [t23]
    )
def cx28 : Cx := { N := 24, res := [4] }
theorem eq28 (a0 : Value) (a1 : Value) : comp cx28 (bodyC Try.f28) false [] (env0 0 [a0, a1]) (fun e => retP cx28 false e) = p28 a0 a1 := by kernel_rfl

/-- damper/drill.Steps -/
def p29 (a0 : Value) (a1 : Value) (a2 : Value) (a3 : Value) : Prog :=
  .op false (vS (Instr.box 53 a0)) fun t4 =>
  .op true (vS (Instr.loadAt 53 t4)) fun t17 =>
  .op false (callS (.func (.func 58) #[] #[]) [t17, a1]) fun t19 =>
  .op true (binS .neq 25 (.tmp 20) (.const (.int .i64 0)) t19 (.int .i64 0)) fun t21 =>
  .ite t21
    (
    .done .ret [(.slice none 0 0), t19]
    )
    (
    .bind
      (
      .op true (binS .lss 3 (.tmp 23) (.const (.int .i64 0)) a3 (.int .i64 0)) fun t24 =>
      .gop t24 false true ((pure (.value a3))) fun t26 =>
      .gop t24 false true (binS .gtr 3 (.tmp 26) (.const (.int .i64 500)) t26 (.int .i64 500)) fun t27 =>
      .op true (pickS t24 (.bool true) t27) fun t28 =>
      .done .normal [t28]
      ) fun tv =>
    .ite (tv.headD undef)
      (
      .done .ret [(.slice none 0 0), (.int .i64 1)]
      )
      (
      .op false (callS (.func (.func 24) #[] #[]) [a2]) fun t30 =>
      .op true (vS (Instr.loadAt 53 t4)) fun t32 =>
      .op false (callS (.func (.func 31) #[] #[]) [t32]) fun t33 =>
      .op true (vS (Instr.extract t33 0)) fun t34 =>
      .op true (vS (Instr.extract t33 1)) fun t35 =>
      .op true (vS (Instr.build 132 #[(0, (.int .i64 2)), (2, t34)])) fun t38 =>
      .op false (vS (Instr.buildSlice 67 1 #[(0, t38)])) fun t39 =>
      .op false (bltS .append #[67, 67] 67 #[false, false] [(.slice none 0 0), t39]) fun t40 =>
      .bind
        (
        .block 0 <|
        .loop [t40, (.int .i64 0)] fun tx =>
        .op true (binS .lss 3 (.tmp 42) (.tmp 41) (tx.tail.headD undef) a3) fun t43 =>
        .ite t43
          (
          .bind
            (
            .block 1 <|
            .op false (callS (.func (.func 27) #[] #[]) [t30, (.int .i64 10)]) fun t46 =>
            .op true (binS .geq 2 (.tmp 47) (.const (.int .i64 6)) t46 (.int .i64 6)) fun t48 =>
            .ite t48
              (
              .op true (vS (Instr.loadAt 53 t4)) fun t51 =>
              .op false (callS (.func (.func 64) #[] #[]) [t30, t51, a1, (tx.tail.headD undef), t46]) fun t55 =>
              .op false (vS (Instr.buildSlice 67 1 #[(0, t55)])) fun t56 =>
              .op false (bltS .append #[67, 67] 67 #[false, false] [(tx.headD undef), t56]) fun t57 =>
              .done (.exit 1) [t57]
              )
              (
              .op true (vS (Instr.loadAt 53 t4)) fun t59 =>
              .op false (callS (.func (.func 25) #[] #[]) [t59, t30, a1, (tx.tail.headD undef)]) fun t63 =>
              .op false (callS (.func (.func 65) #[] #[]) [t63]) fun t64 =>
              .op true (vS (Instr.extract t64 0)) fun t65 =>
              .op true (vS (Instr.extract t64 1)) fun t66 =>
              .op false (vS (Instr.alloc 132 true (.tuple #[]))) fun t15 =>
              .op false (uS (Instr.storeAt 132 t15 t65)) fun tu =>
              .op true (vS (Instr.loadAt 132 t15)) fun t68 =>
              .op false (vS (Instr.buildSlice 67 1 #[(0, t68)])) fun t69 =>
              .op false (bltS .append #[67, 67] 67 #[false, false] [(tx.headD undef), t69]) fun t70 =>
              .done .normal [t70]
              )
            ) fun tv_1 =>
          .op true (binS .add 3 (.tmp 42) (.const (.int .i64 1)) (tx.tail.headD undef) (.int .i64 1)) fun t71 =>
          .done .normal [(tv_1.headD undef), t71]
          )
          (
          .done (.exit 0) [(tx.headD undef)]
          )
        ) fun tv_2 =>
      .done .ret [(tv_2.headD undef), (.int .i64 0)]
      )
    )
def cx29 : Cx := { N := 73, res := [8, 9], blk := [(0, [8]), (1, [8])], reg := [(4, [28])] }
theorem eq29 (a0 : Value) (a1 : Value) (a2 : Value) (a3 : Value) : comp cx29 (bodyC Try.f29) false [] (env0 0 [a0, a1, a2, a3]) (fun e => retP cx29 false e) = p29 a0 a1 a2 a3 := by kernel_rfl

/-- damper/damperref37.Steps -/
def p30 (a0 : Value) (a1 : Value) (a2 : Value) (a3 : Value) : Prog :=
  .op false (vS (Instr.box 53 a0)) fun t4 =>
  .op true (vS (Instr.loadAt 53 t4)) fun t21 =>
  .op false (callS (.func (.func 62) #[] #[]) [t21]) fun t22 =>
  .op true (vS (Instr.extract t22 0)) fun t23 =>
  .op true (vS (Instr.extract t22 1)) fun t24 =>
  .op true (binS .neq 25 (.tmp 25) (.const (.int .i64 0)) t23 (.int .i64 0)) fun t26 =>
  .ite t26
    (
    .done .ret [(.slice none 0 0), t23]
    )
    (
    .bind
      (
      .op true (binS .lss 3 (.tmp 28) (.const (.int .i64 0)) a1 (.int .i64 0)) fun t29 =>
      .gop t29 false true ((pure (.value a1))) fun t31 =>
      .gop t29 false true (binS .gtr 3 (.tmp 31) (.const (.int .i64 4)) t31 (.int .i64 4)) fun t32 =>
      .op true (pickS t29 (.bool true) t32) fun t33 =>
      .gop t33 false true ((pure (.value a3))) fun t35 =>
      .gop t33 false true (binS .lss 3 (.tmp 35) (.const (.int .i64 0)) t35 (.int .i64 0)) fun t36 =>
      .op true (pickS t33 (.bool true) t36) fun t37 =>
      .gop t37 false true ((pure (.value a3))) fun t39 =>
      .gop t37 false true (binS .gtr 3 (.tmp 39) (.const (.int .i64 500)) t39 (.int .i64 500)) fun t40 =>
      .op true (pickS t37 (.bool true) t40) fun t41 =>
      .done .normal [t41]
      ) fun tv =>
    .ite (tv.headD undef)
      (
      .done .ret [(.slice none 0 0), (.int .i64 1)]
      )
      (
      .op true (vS (Instr.build 60 #[(0, a2)])) fun t43 =>
      .op false (vS (Instr.box 60 t43)) fun t44 =>
      .op true (vS (Instr.loadAt 53 t4)) fun t46 =>
      .op false (callS (.func (.func 32) #[] #[]) [t46]) fun t47 =>
      .op true (vS (Instr.extract t47 0)) fun t48 =>
      .op true (vS (Instr.extract t47 1)) fun t49 =>
      .op true (vS (Instr.build 132 #[(0, (.int .i64 2)), (2, t48)])) fun t51 =>
      .op false (vS (Instr.buildSlice 67 1 #[(0, t51)])) fun t52 =>
      .op true (vS (Instr.fieldAt 53 t4 0)) fun t53 =>
      .op true (vS (Instr.loadAt 48 t53)) fun t54 =>
      .op true (vS (Instr.indexAt 48 t54 (.int .i64 0))) fun t55 =>
      .op true (vS (Instr.loadAt 123 t55)) fun t56 =>
      .op false (vS (Instr.alloc 123 true (.tuple #[]))) fun t16 =>
      .op false (uS (Instr.storeAt 123 t16 t56)) fun tu =>
      .bind
        (
        .block 0 <|
        .loop [t52, (.int .i64 0)] fun tx =>
        .op true (binS .lss 3 (.tmp 57) (.tmp 58) (tx.tail.headD undef) a3) fun t59 =>
        .ite t59
          (
          .bind
            (
            .block 1 <|
            .op true (vS (Instr.build 132 #[])) fun t62 =>
            .op false (vS (Instr.alloc 132 true (.tuple #[]))) fun t18 =>
            .op false (uS (Instr.storeAt 132 t18 t62)) fun tu_1 =>
            .op false (callS (.func (.func 28) #[] #[]) [t44, (.int .i64 10)]) fun t64 =>
            .bind
              (
              .block 2 <|
              .op true (binS .lss 2 (.tmp 76) (.const (.int .i64 6)) t64 (.int .i64 6)) fun t77 =>
              .bind
                (
                .ite t77
                  (
                  .op true (vS (Instr.loadAt 53 t4)) fun t79 =>
                  .op false (callS (.func (.func 26) #[] #[]) [t79, t44, a1, (tx.tail.headD undef)]) fun t83 =>
                  .op false (callS (.func (.func 66) #[] #[]) [t83]) fun t84 =>
                  .op true (vS (Instr.extract t84 0)) fun t85 =>
                  .op true (vS (Instr.extract t84 1)) fun t86 =>
                  .op false (uS (Instr.storeAt 132 t18 t85)) fun tu_2 =>
                  .done .normal []
                  )
                  (
                  .op true (binS .lss 2 (.tmp 88) (.const (.int .i64 8)) t64 (.int .i64 8)) fun t89 =>
                  .bind
                    (
                    .ite t89
                      (
                      .op false (callS (.func (.func 28) #[] #[]) [t44, (.int .i64 3)]) fun t91 =>
                      .op true (binS .add 2 (.const (.int .i64 1)) (.tmp 91) (.int .i64 1) t91) fun t92 =>
                      .op true (vS (Instr.build 132 #[(0, (.int .i64 2)), (2, t92)])) fun t93 =>
                      .op false (uS (Instr.storeAt 132 t18 t93)) fun tu_3 =>
                      .done .normal []
                      )
                      (
                      .op true (binS .eql 2 (.tmp 95) (.const (.int .i64 8)) t64 (.int .i64 8)) fun t96 =>
                      .bind
                        (
                        .ite t96
                          (
                          .op true (binS .add 2 (.tmp 99) (.const (.int .i64 1)) (tx.tail.headD undef) (.int .i64 1)) fun t100 =>
                          .op false (callS (.func (.func 28) #[] #[]) [t44, t100]) fun t101 =>
                          .op true (binS .add 2 (.const (.int .i64 1)) (.tmp 101) (.int .i64 1) t101) fun t102 =>
                          .op true (vS (Instr.build 62 #[(0, (.int .i64 2)), (2, t102)])) fun t103 =>
                          .op false (callS (.func (.func 66) #[] #[]) [t103]) fun t104 =>
                          .op true (vS (Instr.extract t104 0)) fun t105 =>
                          .op true (vS (Instr.extract t104 1)) fun t106 =>
                          .op false (uS (Instr.storeAt 132 t18 t105)) fun tu_4 =>
                          .done .normal []
                          )
                          (
                          .bind
                            (
                            .op true (binS .eql 3 (.tmp 108) (.const (.int .i64 4)) a1 (.int .i64 4)) fun t109 =>
                            .gop t109 true true ((pure (.value (tx.tail.headD undef)))) fun t111 =>
                            .gop t109 true true (binS .rem 3 (.tmp 111) (.const (.int .i64 7)) t111 (.int .i64 7)) fun t112 =>
                            .gop t109 true true (binS .eql 3 (.tmp 112) (.const (.int .i64 0)) t112 (.int .i64 0)) fun t113 =>
                            .op true (pickS t109 t113 (.bool false)) fun t114 =>
                            .done .normal [t114]
                            ) fun tv_1 =>
                          .bind
                            (
                            .ite (tv_1.headD undef)
                              (
                              .draw <|
                              .op true (vS (Instr.fieldAt 53 t4 2)) fun t115 =>
                              .op true (vS (Instr.loadAt 2 t115)) fun t116 =>
                              .op true (vS (Instr.fieldAt 53 t4 2)) fun t117 =>
                              .op true (vS (Instr.loadAt 2 t117)) fun t118 =>
                              .op true (binS .quo 2 (.tmp 118) (.const (.int .i64 100)) t118 (.int .i64 100)) fun t119 =>
                              .op false (callS (.func (.func 28) #[] #[]) [t44, (.int .i64 25)]) fun t121 =>
                              .chk none (binS .quo 2 (.tmp 118) (.const (.int .i64 100)) t118 (.int .i64 100)) t119 <|
                              .chk none (vS (Instr.loadAt 2 t117)) t118 <|
                              .chk none (vS (Instr.fieldAt 53 t4 2)) t117 <|
                              .chk none (vS (Instr.loadAt 2 t115)) t116 <|
                              .chk none (vS (Instr.fieldAt 53 t4 2)) t115 <|
                              .op true (binS .mul 2 (.tmp 119) (.tmp 121) t119 t121) fun t122 =>
                              .op true (binS .sub 2 (.tmp 116) (.tmp 122) t116 t122) fun t123 =>
                              .op true (bltS .max #[2, 2] 2 #[false, true] [t123, (.int .i64 1)]) fun t124 =>
                              .op true (vS (Instr.build 132 #[(0, (.int .i64 3)), (2, t124)])) fun t125 =>
                              .op false (uS (Instr.storeAt 132 t18 t125)) fun tu_5 =>
                              .done .normal []
                              )
                              (
                              .draw <|
                              .op true (vS (Instr.fieldAt 123 t16 1)) fun t65 =>
                              .op true (vS (Instr.loadAt 2 t65)) fun t66 =>
                              .op true (vS (Instr.fieldAt 123 t16 0)) fun t67 =>
                              .op true (vS (Instr.loadAt 2 t67)) fun t68 =>
                              .op false (callS (.func (.func 28) #[] #[]) [t44, (.int .i64 5)]) fun t70 =>
                              .chk none (vS (Instr.loadAt 2 t67)) t68 <|
                              .chk none (vS (Instr.fieldAt 123 t16 0)) t67 <|
                              .chk none (vS (Instr.loadAt 2 t65)) t66 <|
                              .chk none (vS (Instr.fieldAt 123 t16 1)) t65 <|
                              .op true (binS .mul 2 (.tmp 68) (.tmp 70) t68 t70) fun t71 =>
                              .op true (binS .sub 2 (.tmp 66) (.tmp 71) t66 t71) fun t72 =>
                              .op true (bltS .max #[2, 2] 2 #[false, true] [t72, (.int .i64 0)]) fun t73 =>
                              .op true (vS (Instr.build 132 #[(0, (.int .i64 4)), (2, t73)])) fun t74 =>
                              .op false (uS (Instr.storeAt 132 t18 t74)) fun tu_6 =>
                              .done .normal []
                              )
                            ) fun tv_2 =>
                          .done .normal []
                          )
                        ) fun tv_3 =>
                      .done .normal []
                      )
                    ) fun tv_4 =>
                  .done .normal []
                  )
                ) fun tv_5 =>
              .done .normal []
              ) fun tv_6 =>
            .op true (vS (Instr.loadAt 132 t18)) fun t127 =>
            .op false (vS (Instr.buildSlice 67 1 #[(0, t127)])) fun t128 =>
            .op false (bltS .append #[67, 67] 67 #[false, false] [(tx.headD undef), t128]) fun t129 =>
            .done .normal [t129]
            ) fun tv_7 =>
          .op true (binS .add 3 (.tmp 60) (.const (.int .i64 1)) (tx.tail.headD undef) (.int .i64 1)) fun t61 =>
          .done .normal [(tv_7.headD undef), t61]
          )
          (
          .done (.exit 0) [(tx.headD undef)]
          )
        ) fun tv_8 =>
      .done .ret [(tv_8.headD undef), (.int .i64 0)]
      )
    )
def cx30 : Cx := { N := 131, res := [8, 9], blk := [(0, [15]), (1, [15])], reg := [(4, [41]), (22, [107])] }
theorem eq30 (a0 : Value) (a1 : Value) (a2 : Value) (a3 : Value) : comp cx30 (bodyC Try.f30) false [] (env0 0 [a0, a1, a2, a3]) (fun e => retP cx30 false e) = p30 a0 a1 a2 a3 := by kernel_rfl

/-- damper/drill.Start -/
def p31 (a0 : Value) : Prog :=
  .op false (vS (Instr.box 53 a0)) fun t1 =>
  .op true (vS (Instr.fieldAt 53 t1 1)) fun t5 =>
  .op true (vS (Instr.loadAt 49 t5)) fun t6 =>
  .op false (callS (.func (.func 67) #[] #[]) [t6, (.func (.func 68) #[] #[])]) fun t7 =>
  .op true (binS .lss 3 (.tmp 8) (.const (.int .i64 0)) t7 (.int .i64 0)) fun t9 =>
  .ite t9
    (
    .done .ret [(.int .i64 0), (.bool false)]
    )
    (
    .op true (vS (Instr.fieldAt 53 t1 1)) fun t10 =>
    .op true (vS (Instr.loadAt 49 t10)) fun t11 =>
    .op true (vS (Instr.indexAt 49 t11 t7)) fun t13 =>
    .op true (vS (Instr.fieldAt 138 t13 0)) fun t14 =>
    .op true (vS (Instr.loadAt 2 t14)) fun t15 =>
    .done .ret [t15, (.bool true)]
    )
def cx31 : Cx := { N := 16, res := [2, 3] }
theorem eq31 (a0 : Value) : comp cx31 (bodyC Try.f31) false [] (env0 0 [a0]) (fun e => retP cx31 false e) = p31 a0 := by kernel_rfl

/-- damper/damperref37.Start -/
def p32 (a0 : Value) : Prog :=
  .op false (vS (Instr.box 53 a0)) fun t1 =>
  .bind
    (
    .block 0 <|
    .loop [(.int .i64 0), (.bool false), (.int .i64 0)] fun tx =>
    .op true (vS (Instr.fieldAt 53 t1 1)) fun t6 =>
    .op true (vS (Instr.loadAt 49 t6)) fun t7 =>
    .op true (bltS .len #[49] 3 #[false] [t7]) fun t8 =>
    .op true (binS .lss 3 (.tmp 5) (.tmp 8) (tx.tail.tail.headD undef) t8) fun t9 =>
    .ite t9
      (
      .bind
        (
        .block 1 <|
        .op true (vS (Instr.fieldAt 53 t1 1)) fun t12 =>
        .op true (vS (Instr.loadAt 49 t12)) fun t13 =>
        .op true (vS (Instr.indexAt 49 t13 (tx.tail.tail.headD undef))) fun t15 =>
        .op true (vS (Instr.fieldAt 138 t15 1)) fun t16 =>
        .op true (vS (Instr.loadAt 3 t16)) fun t17 =>
        .op true (binS .eql 3 (.tmp 17) (.const (.int .i64 2)) t17 (.int .i64 2)) fun t18 =>
        .ite t18
          (
          .op true (vS (Instr.fieldAt 53 t1 1)) fun t19 =>
          .op true (vS (Instr.loadAt 49 t19)) fun t20 =>
          .op true (vS (Instr.indexAt 49 t20 (tx.tail.tail.headD undef))) fun t22 =>
          .op true (vS (Instr.fieldAt 138 t22 0)) fun t23 =>
          .op true (vS (Instr.loadAt 2 t23)) fun t24 =>
          .done .ret [t24, (.bool true)]
          )
          (
          .done .normal [(tx.headD undef), (tx.tail.headD undef)]
          )
        ) fun tv =>
      .op true (binS .add 3 (.tmp 10) (.const (.int .i64 1)) (tx.tail.tail.headD undef) (.int .i64 1)) fun t11 =>
      .done .normal [(tv.headD undef), (tv.tail.headD undef), t11]
      )
      (
      .done (.exit 0) [(tx.headD undef), (tx.tail.headD undef)]
      )
    ) fun tv_1 =>
  .done .ret [(.int .i64 0), (.bool false)]
def cx32 : Cx := { N := 25, res := [2, 3], blk := [(0, [2, 3]), (1, [2, 3])] }
theorem eq32 (a0 : Value) : comp cx32 (bodyC Try.f32) false [] (env0 0 [a0]) (fun e => retP cx32 false e) = p32 a0 := by kernel_rfl

/-- damper/damperref29.Same -/
def p33 (a0 : Value) (a1 : Value) : Prog :=
  .op true (bltS .len #[67] 3 #[false] [a0]) fun t7 =>
  .op true (bltS .len #[67] 3 #[false] [a1]) fun t9 =>
  .op true (binS .neq 3 (.tmp 7) (.tmp 9) t7 t9) fun t10 =>
  .ite t10
    (
    .done .ret [(.bool false)]
    )
    (
    .bind
      (
      .block 0 <|
      .loop [(.bool false), (.int .i64 0)] fun tx =>
      .op true (bltS .len #[67] 3 #[false] [a0]) fun t13 =>
      .op true (binS .lss 3 (.tmp 11) (.tmp 13) (tx.tail.headD undef) t13) fun t14 =>
      .ite t14
        (
        .bind
          (
          .block 1 <|
          .bind
            (
            .draw <|
            .op true (vS (Instr.indexAt 67 a0 (tx.tail.headD undef))) fun t19 =>
            .op true (vS (Instr.fieldAt 132 t19 0)) fun t20 =>
            .op true (vS (Instr.loadAt 3 t20)) fun t21 =>
            .op true (vS (Instr.indexAt 67 a1 (tx.tail.headD undef))) fun t24 =>
            .op true (vS (Instr.fieldAt 132 t24 0)) fun t25 =>
            .op true (vS (Instr.loadAt 3 t25)) fun t26 =>
            .op true (binS .neq 3 (.tmp 21) (.tmp 26) t21 t26) fun t27 =>
            .gop t27 false true ((pure (.value a0))) fun t29 =>
            .gop t27 false true ((pure (.value (tx.tail.headD undef)))) fun t30 =>
            .gop t27 false true (vS (Instr.indexAt 67 t29 t30)) fun t31 =>
            .gop t27 false true (vS (Instr.fieldAt 132 t31 1)) fun t32 =>
            .gop t27 false true (vS (Instr.loadAt 3 t32)) fun t33 =>
            .gop t27 false true ((pure (.value a1))) fun t34 =>
            .gop t27 false true ((pure (.value (tx.tail.headD undef)))) fun t35 =>
            .gop t27 false true (vS (Instr.indexAt 67 t34 t35)) fun t36 =>
            .gop t27 false true (vS (Instr.fieldAt 132 t36 1)) fun t37 =>
            .gop t27 false true (vS (Instr.loadAt 3 t37)) fun t38 =>
            .gop t27 false true (binS .neq 3 (.tmp 33) (.tmp 38) t33 t38) fun t39 =>
            .op true (pickS t27 (.bool true) t39) fun t40 =>
            .gop t40 false true ((pure (.value a0))) fun t42 =>
            .gop t40 false true ((pure (.value (tx.tail.headD undef)))) fun t43 =>
            .gop t40 false true (vS (Instr.indexAt 67 t42 t43)) fun t44 =>
            .gop t40 false true (vS (Instr.fieldAt 132 t44 2)) fun t45 =>
            .gop t40 false true (vS (Instr.loadAt 2 t45)) fun t46 =>
            .gop t40 false true ((pure (.value a1))) fun t47 =>
            .gop t40 false true ((pure (.value (tx.tail.headD undef)))) fun t48 =>
            .gop t40 false true (vS (Instr.indexAt 67 t47 t48)) fun t49 =>
            .gop t40 false true (vS (Instr.fieldAt 132 t49 2)) fun t50 =>
            .gop t40 false true (vS (Instr.loadAt 2 t50)) fun t51 =>
            .gop t40 false true (binS .neq 2 (.tmp 46) (.tmp 51) t46 t51) fun t52 =>
            .op true (pickS t40 (.bool true) t52) fun t53 =>
            .gop t53 false true ((pure (.value a0))) fun t55 =>
            .gop t53 false true ((pure (.value (tx.tail.headD undef)))) fun t56 =>
            .gop t53 false true (vS (Instr.indexAt 67 t55 t56)) fun t57 =>
            .gop t53 false true (vS (Instr.fieldAt 132 t57 3)) fun t58 =>
            .gop t53 false true (vS (Instr.loadAt 130 t58)) fun t59 =>
            .gop t53 false true ((pure (.value a1))) fun t60 =>
            .gop t53 false true ((pure (.value (tx.tail.headD undef)))) fun t61 =>
            .gop t53 false true (vS (Instr.indexAt 67 t60 t61)) fun t62 =>
            .gop t53 false true (vS (Instr.fieldAt 132 t62 3)) fun t63 =>
            .gop t53 false true (vS (Instr.loadAt 130 t63)) fun t64 =>
            .gop t53 false false (callS (.func (.func 69) #[] #[]) [t59, t64]) fun t65 =>
            .gop t53 false true (vS (Op.unary .not t65)) fun t66 =>
            .op true (pickS t53 (.bool true) t66) fun t67 =>
            .done .normal [t67]
            ) fun tv =>
          .ite (tv.headD undef)
            (
            .done .ret [(.bool false)]
            )
            (
            .done .normal [(tx.headD undef)]
            )
          ) fun tv_1 =>
        .op true (binS .add 3 (.tmp 15) (.const (.int .i64 1)) (tx.tail.headD undef) (.int .i64 1)) fun t16 =>
        .done .normal [(tv_1.headD undef), t16]
        )
        (
        .done (.exit 0) [(tx.headD undef)]
        )
      ) fun tv_2 =>
    .done .ret [(.bool true)]
    )
def cx33 : Cx := { N := 68, res := [4], blk := [(0, [4]), (1, [4])], reg := [(6, [67])] }
theorem eq33 (a0 : Value) (a1 : Value) : comp cx33 (bodyC Try.f33) false [] (env0 0 [a0, a1]) (fun e => retP cx33 false e) = p33 a0 a1 := by kernel_rfl

/-- damper/damperlaw32.light -/
def p34 (a0 : Value) (a1 : Value) : Prog :=
  .op false (vS (Instr.box 53 a0)) fun t2 =>
  .bind
    (
    .op true (vS (Instr.loadAt 53 t2)) fun t6 =>
    .op false (callS (.func (.func 22) #[] #[]) [t6]) fun t7 =>
    .op true (vS (Op.unary .not t7)) fun t8 =>
    .gop t8 false true ((pure (.value a1))) fun t10 =>
    .gop t8 false true (bltS .len #[22] 3 #[false] [t10]) fun t11 =>
    .gop t8 false true (binS .gtr 3 (.tmp 11) (.const (.int .i64 120)) t11 (.int .i64 120)) fun t12 =>
    .op true (pickS t8 (.bool true) t12) fun t13 =>
    .done .normal [t13]
    ) fun tv =>
  .ite (tv.headD undef)
    (
    .done .ret [(.bool false)]
    )
    (
    .bind
      (
      .block 0 <|
      .loop [(.bool false), (.int .i64 0)] fun tx =>
      .op true (bltS .len #[22] 3 #[false] [a1]) fun t16 =>
      .op true (binS .lss 3 (.tmp 14) (.tmp 16) (tx.tail.headD undef) t16) fun t17 =>
      .ite t17
        (
        .bind
          (
          .block 1 <|
          .bind
            (
            .op true (vS (Instr.indexAt 22 a1 (tx.tail.headD undef))) fun t22 =>
            .op true (vS (Instr.fieldAt 46 t22 2)) fun t23 =>
            .op true (vS (Instr.loadAt 2 t23)) fun t24 =>
            .op true (binS .lss 2 (.tmp 24) (.const (.int .i64 (-1152921504606846976))) t24 (.int .i64 (-1152921504606846976))) fun t25 =>
            .gop t25 false true ((pure (.value a1))) fun t27 =>
            .gop t25 false true ((pure (.value (tx.tail.headD undef)))) fun t28 =>
            .gop t25 false true (vS (Instr.indexAt 22 t27 t28)) fun t29 =>
            .gop t25 false true (vS (Instr.fieldAt 46 t29 3)) fun t30 =>
            .gop t25 false true (vS (Instr.loadAt 2 t30)) fun t31 =>
            .gop t25 false true (binS .lss 2 (.tmp 31) (.const (.int .i64 (-1152921504606846976))) t31 (.int .i64 (-1152921504606846976))) fun t32 =>
            .op true (pickS t25 (.bool true) t32) fun t33 =>
            .gop t33 false true ((pure (.value a1))) fun t35 =>
            .gop t33 false true ((pure (.value (tx.tail.headD undef)))) fun t36 =>
            .gop t33 false true (vS (Instr.indexAt 22 t35 t36)) fun t37 =>
            .gop t33 false true (vS (Instr.fieldAt 46 t37 3)) fun t38 =>
            .gop t33 false true (vS (Instr.loadAt 2 t38)) fun t39 =>
            .gop t33 false true (binS .gtr 2 (.tmp 39) (.const (.int .i64 1152921504606846976)) t39 (.int .i64 1152921504606846976)) fun t40 =>
            .op true (pickS t33 (.bool true) t40) fun t41 =>
            .gop t41 false true ((pure (.value a1))) fun t43 =>
            .gop t41 false true ((pure (.value (tx.tail.headD undef)))) fun t44 =>
            .gop t41 false true (vS (Instr.indexAt 22 t43 t44)) fun t45 =>
            .gop t41 false true (vS (Instr.fieldAt 46 t45 7)) fun t46 =>
            .gop t41 false true (vS (Instr.loadAt 2 t46)) fun t47 =>
            .gop t41 false true (binS .lss 2 (.tmp 47) (.const (.int .i64 (-1125899906842624))) t47 (.int .i64 (-1125899906842624))) fun t48 =>
            .op true (pickS t41 (.bool true) t48) fun t49 =>
            .gop t49 false true ((pure (.value a1))) fun t51 =>
            .gop t49 false true ((pure (.value (tx.tail.headD undef)))) fun t52 =>
            .gop t49 false true (vS (Instr.indexAt 22 t51 t52)) fun t53 =>
            .gop t49 false true (vS (Instr.fieldAt 46 t53 7)) fun t54 =>
            .gop t49 false true (vS (Instr.loadAt 2 t54)) fun t55 =>
            .gop t49 false true (binS .gtr 2 (.tmp 55) (.const (.int .i64 1125899906842624)) t55 (.int .i64 1125899906842624)) fun t56 =>
            .op true (pickS t49 (.bool true) t56) fun t57 =>
            .done .normal [t57]
            ) fun tv_1 =>
          .ite (tv_1.headD undef)
            (
            .done .ret [(.bool false)]
            )
            (
            .done .normal [(tx.headD undef)]
            )
          ) fun tv_2 =>
        .op true (binS .add 3 (.tmp 18) (.const (.int .i64 1)) (tx.tail.headD undef) (.int .i64 1)) fun t19 =>
        .done .normal [(tv_2.headD undef), t19]
        )
        (
        .done (.exit 0) [(tx.headD undef)]
        )
      ) fun tv_3 =>
    .done .ret [(.bool true)]
    )
def cx34 : Cx := { N := 58, res := [4], blk := [(0, [4]), (1, [4])], reg := [(1, [13]), (6, [57])] }
theorem eq34 (a0 : Value) (a1 : Value) : comp cx34 (bodyC Try.f34) false [] (env0 0 [a0, a1]) (fun e => retP cx34 false e) = p34 a0 a1 := by kernel_rfl

/-- damper/damperlaw32.alive -/
def p35 : Prog :=
  .op false (callS (.func (.func 57) #[] #[]) [(.int .i64 1)]) fun t6 =>
  .op false (callS (.func (.func 36) #[] #[]) [t6]) fun t7 =>
  .op true (vS (Instr.extract t7 0)) fun t8 =>
  .op true (vS (Instr.extract t7 1)) fun t9 =>
  .op true (vS (Instr.build 46 #[(0, (.int .i64 6)), (2, (.int .i64 1)), (3, (.int .i64 3)), (8, (.int .i64 3))])) fun t11 =>
  .op false (callS (.func (.func 38) #[] #[]) [t8, t11]) fun t12 =>
  .op true (vS (Instr.build 46 #[(0, (.int .i64 3)), (2, (.int .i64 2)), (3, (.int .i64 3)), (7, (.int .i64 1)), (6, (.int .i64 1000)), (8, (.int .i64 1))])) fun t14 =>
  .op false (callS (.func (.func 38) #[] #[]) [t8, t14]) fun t15 =>
  .bind
    (
    .op true (binS .eql 25 (.tmp 16) (.const (.int .i64 0)) t9 (.int .i64 0)) fun t17 =>
    .gop t17 true true ((pure (.value t12))) fun t19 =>
    .gop t17 true true (binS .eql 25 (.tmp 19) (.const (.int .i64 0)) t19 (.int .i64 0)) fun t20 =>
    .op true (pickS t17 t20 (.bool false)) fun t21 =>
    .gop t21 true true ((pure (.value t15))) fun t23 =>
    .gop t21 true true (binS .eql 25 (.tmp 23) (.const (.int .i64 10)) t23 (.int .i64 10)) fun t24 =>
    .op true (pickS t21 t24 (.bool false)) fun t25 =>
    .gop t25 true true ((pure (.value t8))) fun t27 =>
    .gop t25 true false (callS (.func (.func 41) #[] #[]) [t27, (.int .i64 0)]) fun t28 =>
    .gop t25 true true (binS .eql 3 (.tmp 28) (.const (.int .i64 3)) t28 (.int .i64 3)) fun t29 =>
    .op true (pickS t25 t29 (.bool false)) fun t30 =>
    .gop t30 true true ((pure (.value t8))) fun t32 =>
    .gop t30 true false (callS (.func (.func 43) #[] #[]) [t32, (.int .i64 0)]) fun t33 =>
    .gop t30 true true (binS .eql 2 (.tmp 33) (.const (.int .i64 28)) t33 (.int .i64 28)) fun t34 =>
    .op true (pickS t30 t34 (.bool false)) fun t35 =>
    .done .normal [t35]
    ) fun tv =>
  .done .ret [(tv.headD undef)]
def cx35 : Cx := { N := 36, res := [0], reg := [(4, [0])] }
theorem eq35 : comp cx35 (bodyC Try.f35) false [] (env0 0 []) (fun e => retP cx35 false e) = p35 := by kernel_rfl

/-- damper/watch.New -/
def p36 (a0 : Value) : Prog :=
  .op false (vS (Instr.box 53 a0)) fun t1 =>
  .op true (vS (Instr.loadAt 53 t1)) fun t10 =>
  .op false (callS (.func (.func 70) #[] #[]) [t10]) fun t11 =>
  .op true (vS (Instr.extract t11 0)) fun t12 =>
  .op true (vS (Instr.extract t11 1)) fun t13 =>
  .op true (binS .neq 25 (.tmp 14) (.const (.int .i64 0)) t12 (.int .i64 0)) fun t15 =>
  .ite t15
    (
    .done .ret [(.pointer none), t12]
    )
    (
    .op true (vS (Instr.build 143 #[])) fun t17 =>
    .op false (vS (Instr.box 143 t17)) fun t18 =>
    .op true (vS (Instr.fieldAt 53 t1 0)) fun t19 =>
    .op true (vS (Instr.loadAt 48 t19)) fun t20 =>
    .op true (bltS .len #[48] 3 #[false] [t20]) fun t21 =>
    .bind
      (
      .block 0 <|
      .loop [(.int .i64 0)] fun tx =>
      .op true (binS .lss 3 (.tmp 22) (.tmp 21) (tx.headD undef) t21) fun t23 =>
      .ite t23
        (
        .bind
          (
          .block 1 <|
          .op true (vS (Instr.indexAt 48 t20 (tx.headD undef))) fun t24 =>
          .op true (vS (Instr.loadAt 123 t24)) fun t25 =>
          .op false (vS (Instr.alloc 123 true (.tuple #[]))) fun t8 =>
          .op false (uS (Instr.storeAt 123 t8 t25)) fun tu =>
          .draw <|
          .op true (nilS t18) fun t28 =>
          .op true (vS (Instr.fieldAt 143 t28 0)) fun t29 =>
          .op true (vS (Instr.loadAt 141 t29)) fun t30 =>
          .op true (vS (Instr.loadAt 123 t8)) fun t31 =>
          .op true (vS (Instr.build 145 #[(0, t31)])) fun t32 =>
          .op false (vS (Instr.buildSlice 141 1 #[(0, t32)])) fun t33 =>
          .chk none (vS (Instr.loadAt 141 t29)) t30 <|
          .chk none (vS (Instr.fieldAt 143 t28 0)) t29 <|
          .chk none (nilS t18) t28 <|
          .op false (bltS .append #[141, 141] 141 #[false, false] [t30, t33]) fun t34 =>
          .op true (nilS t18) fun t35 =>
          .op true (vS (Instr.fieldAt 143 t35 0)) fun t36 =>
          .op false (uS (Instr.storeAt 141 t36 t34)) fun tu_1 =>
          .done .normal []
          ) fun tv =>
        .op true (binS .add 3 (.tmp 22) (.const (.int .i64 1)) (tx.headD undef) (.int .i64 1)) fun t37 =>
        .done .normal [t37]
        )
        (
        .done (.exit 0) []
        )
      ) fun tv_1 =>
    .done .ret [t18, (.int .i64 0)]
    )
def cx36 : Cx := { N := 39, res := [2, 3] }
theorem eq36 (a0 : Value) : comp cx36 (bodyC Try.f36) false [] (env0 0 [a0]) (fun e => retP cx36 false e) = p36 a0 := by kernel_rfl

/-- damper/damperref32.New -/
def p37 (a0 : Value) : Prog :=
  .op false (vS (Instr.box 53 a0)) fun t1 =>
  .op true (vS (Instr.loadAt 53 t1)) fun t7 =>
  .op false (callS (.func (.func 62) #[] #[]) [t7]) fun t8 =>
  .op true (vS (Instr.extract t8 0)) fun t9 =>
  .op true (vS (Instr.extract t8 1)) fun t10 =>
  .op true (binS .neq 25 (.tmp 11) (.const (.int .i64 0)) t9 (.int .i64 0)) fun t12 =>
  .ite t12
    (
    .done .ret [(.pointer none), t9]
    )
    (
    .draw <|
    .op true (vS (Instr.loadAt 53 t1)) fun t14 =>
    .op true (vS (Instr.fieldAt 53 t1 0)) fun t15 =>
    .op true (vS (Instr.loadAt 48 t15)) fun t16 =>
    .op true (bltS .len #[48] 3 #[false] [t16]) fun t17 =>
    .op false (vS (Instr.makeSlice 81 t17 t17)) fun t18 =>
    .chk none (vS (Instr.loadAt 53 t1)) t14 <|
    .op true (vS (Instr.build 83 #[(0, t14), (1, t18)])) fun t19 =>
    .op false (vS (Instr.box 83 t19)) fun t20 =>
    .done .ret [t20, (.int .i64 0)]
    )
def cx37 : Cx := { N := 21, res := [2, 3] }
theorem eq37 (a0 : Value) : comp cx37 (bodyC Try.f37) false [] (env0 0 [a0]) (fun e => retP cx37 false e) = p37 a0 := by kernel_rfl

/-- (*damper/watch.Watch).Put -/
def p38 (a0 : Value) (a1 : Value) : Prog :=
  .op false (vS (Instr.box 46 a1)) fun t3 =>
  .op true (binS .eql 74 (.tmp 7) (.const (.pointer none)) a0 (.pointer none)) fun t8 =>
  .ite t8
    (
    .done .ret [(.int .i64 1)]
    )
    (
    .op true (vS (Instr.loadAt 46 t3)) fun t10 =>
    .op false (callS (.func (.func 71) #[] #[]) [a0, t10]) fun t11 =>
    .op true (binS .neq 25 (.tmp 12) (.const (.int .i64 0)) t11 (.int .i64 0)) fun t13 =>
    .ite t13
      (
      .done .ret [t11]
      )
      (
      .draw <|
      .op true (vS (Instr.fieldAt 46 t3 2)) fun t17 =>
      .op true (vS (Instr.loadAt 2 t17)) fun t18 =>
      .op true (vS (Instr.fieldAt 46 t3 3)) fun t19 =>
      .op true (vS (Instr.loadAt 2 t19)) fun t20 =>
      .op true (nilS a0) fun t21 =>
      .op true (vS (Instr.fieldAt 143 t21 1)) fun t22 =>
      .op false (uS (Instr.storeAt 2 t22 t18)) fun tu =>
      .chk none (vS (Instr.loadAt 2 t19)) t20 <|
      .chk none (vS (Instr.fieldAt 46 t3 3)) t19 <|
      .op true (nilS a0) fun t23 =>
      .op true (vS (Instr.fieldAt 143 t23 2)) fun t24 =>
      .op false (uS (Instr.storeAt 2 t24 t20)) fun tu_1 =>
      .op true (vS (Instr.fieldAt 46 t3 1)) fun t26 =>
      .op true (vS (Instr.loadAt 3 t26)) fun t27 =>
      .op false (callS (.func (.func 72) #[] #[]) [a0, t27]) fun t28 =>
      .op true (vS (Instr.fieldAt 46 t3 0)) fun t29 =>
      .op true (vS (Instr.loadAt 3 t29)) fun t30 =>
      .bind
        (
        .block 0 <|
        .op true (binS .eql 3 (.tmp 30) (.const (.int .i64 9)) t30 (.int .i64 9)) fun t32 =>
        .bind
          (
          .ite t32
            (
            .op true (vS (Instr.loadAt 46 t3)) fun t34 =>
            .op false (callS (.func (.func 73) #[] #[]) [a0, t34]) fun t35 =>
            .done .normal []
            )
            (
            .op true (binS .eql 3 (.tmp 30) (.const (.int .i64 3)) t30 (.int .i64 3)) fun t37 =>
            .bind
              (
              .ite t37
                (
                .draw <|
                .op true (nilS t28) fun t39 =>
                .op true (vS (Instr.fieldAt 145 t39 5)) fun t40 =>
                .op true (vS (Instr.indexAt 86 t40 (.int .i64 0))) fun t41 =>
                .op true (vS (Instr.loadAt 2 t41)) fun t42 =>
                .op true (vS (Instr.fieldAt 46 t3 7)) fun t43 =>
                .op true (vS (Instr.loadAt 2 t43)) fun t44 =>
                .op true (binS .add 2 (.tmp 42) (.tmp 44) t42 t44) fun t45 =>
                .op true (nilS t28) fun t46 =>
                .op true (vS (Instr.fieldAt 145 t46 5)) fun t47 =>
                .op true (vS (Instr.indexAt 86 t47 (.int .i64 0))) fun t48 =>
                .op false (uS (Instr.storeAt 2 t48 t45)) fun tu_2 =>
                .draw <|
                .op true (vS (Instr.fieldAt 46 t3 8)) fun t50 =>
                .op true (vS (Instr.loadAt 3 t50)) fun t51 =>
                .op true (nilS t28) fun t52 =>
                .op true (vS (Instr.fieldAt 145 t52 5)) fun t53 =>
                .op true (vS (Instr.indexAt 86 t53 t51)) fun t54 =>
                .op true (vS (Instr.loadAt 2 t54)) fun t55 =>
                .op true (vS (Instr.fieldAt 46 t3 7)) fun t56 =>
                .op true (vS (Instr.loadAt 2 t56)) fun t57 =>
                .op true (binS .add 2 (.tmp 55) (.tmp 57) t55 t57) fun t58 =>
                .op true (nilS t28) fun t59 =>
                .op true (vS (Instr.fieldAt 145 t59 5)) fun t60 =>
                .op true (vS (Instr.indexAt 86 t60 t51)) fun t61 =>
                .op false (uS (Instr.storeAt 2 t61 t58)) fun tu_3 =>
                .done .normal []
                )
                (
                .op true (binS .eql 3 (.tmp 30) (.const (.int .i64 5)) t30 (.int .i64 5)) fun t63 =>
                .bind
                  (
                  .ite t63
                    (
                    .op true (vS (Instr.fieldAt 46 t3 6)) fun t65 =>
                    .op true (vS (Instr.loadAt 2 t65)) fun t66 =>
                    .op true (vS (Instr.fieldAt 46 t3 7)) fun t67 =>
                    .op true (vS (Instr.loadAt 2 t67)) fun t68 =>
                    .op true (vS (Instr.build 85 #[(0, t66), (1, t68)])) fun t69 =>
                    .op true (nilS t28) fun t70 =>
                    .op true (vS (Instr.fieldAt 145 t70 2)) fun t71 =>
                    .op false (uS (Instr.storeAt 85 t71 t69)) fun tu_4 =>
                    .done .normal []
                    )
                    (
                    .op true (binS .eql 3 (.tmp 30) (.const (.int .i64 8)) t30 (.int .i64 8)) fun t73 =>
                    .bind
                      (
                      .ite t73
                        (
                        .op true (vS (Instr.fieldAt 46 t3 6)) fun t75 =>
                        .op true (vS (Instr.loadAt 2 t75)) fun t76 =>
                        .op true (vS (Instr.fieldAt 46 t3 7)) fun t77 =>
                        .op true (vS (Instr.loadAt 2 t77)) fun t78 =>
                        .op true (vS (Instr.build 85 #[(0, t76), (1, t78)])) fun t79 =>
                        .op true (nilS t28) fun t80 =>
                        .op true (vS (Instr.fieldAt 145 t80 3)) fun t81 =>
                        .op false (uS (Instr.storeAt 85 t81 t79)) fun tu_5 =>
                        .done .normal []
                        )
                        (
                        .op true (binS .eql 3 (.tmp 30) (.const (.int .i64 6)) t30 (.int .i64 6)) fun t83 =>
                        .bind
                          (
                          .ite t83
                            (
                            .op true (vS (Instr.loadAt 46 t3)) fun t85 =>
                            .op false (callS (.func (.func 74) #[] #[]) [t28, t85]) fun t86 =>
                            .done .normal []
                            )
                            (
                            .done .normal []
                            )
                          ) fun tv =>
                        .done .normal []
                        )
                      ) fun tv_1 =>
                    .done .normal []
                    )
                  ) fun tv_2 =>
                .done .normal []
                )
              ) fun tv_3 =>
            .done .normal []
            )
          ) fun tv_4 =>
        .done .normal []
        ) fun tv_5 =>
      .done .ret [(.int .i64 0)]
      )
    )
def cx38 : Cx := { N := 87, res := [4] }
theorem eq38 (a0 : Value) (a1 : Value) : comp cx38 (bodyC Try.f38) false [] (env0 0 [a0, a1]) (fun e => retP cx38 false e) = p38 a0 a1 := by kernel_rfl

/-- (*damper/damperref32.Watch).Put -/
def p39 (a0 : Value) (a1 : Value) : Prog :=
  .op false (vS (Instr.box 46 a1)) fun t3 =>
  .op true (vS (Instr.loadAt 46 t3)) fun t9 =>
  .op false (callS (.func (.func 75) #[] #[]) [a0, t9]) fun t10 =>
  .op true (binS .neq 25 (.tmp 11) (.const (.int .i64 0)) t10 (.int .i64 0)) fun t12 =>
  .ite t12
    (
    .done .ret [t10]
    )
    (
    .op true (vS (Instr.fieldAt 46 t3 2)) fun t15 =>
    .op true (vS (Instr.loadAt 2 t15)) fun t16 =>
    .op true (nilS a0) fun t17 =>
    .op true (vS (Instr.fieldAt 83 t17 2)) fun t18 =>
    .op false (uS (Instr.storeAt 2 t18 t16)) fun tu =>
    .op true (vS (Instr.fieldAt 46 t3 3)) fun t20 =>
    .op true (vS (Instr.loadAt 2 t20)) fun t21 =>
    .op true (nilS a0) fun t22 =>
    .op true (vS (Instr.fieldAt 83 t22 3)) fun t23 =>
    .op false (uS (Instr.storeAt 2 t23 t21)) fun tu_1 =>
    .bind
      (
      .op true (vS (Instr.fieldAt 46 t3 0)) fun t24 =>
      .op true (vS (Instr.loadAt 3 t24)) fun t25 =>
      .op true (binS .eql 3 (.tmp 25) (.const (.int .i64 9)) t25 (.int .i64 9)) fun t26 =>
      .gop t26 true true (vS (Instr.fieldAt 46 t3 8)) fun t28 =>
      .gop t26 true true (vS (Instr.loadAt 3 t28)) fun t29 =>
      .gop t26 true true (binS .eql 3 (.tmp 29) (.const (.int .i64 1)) t29 (.int .i64 1)) fun t30 =>
      .gop t26 true true ((pure (.value t30))) fun t31 =>
      .gop t31 false true (vS (Instr.fieldAt 46 t3 8)) fun t32 =>
      .gop t31 false true (vS (Instr.loadAt 3 t32)) fun t33 =>
      .gop t31 false true (binS .eql 3 (.tmp 33) (.const (.int .i64 2)) t33 (.int .i64 2)) fun t34 =>
      .gop t26 true true (pickS t31 (.bool true) t34) fun t35 =>
      .op true (pickS t26 t35 (.bool false)) fun t36 =>
      .done .normal [t36]
      ) fun tv =>
    .bind
      (
      .ite (tv.headD undef)
        (
        .bind
          (
          .block 0 <|
          .loop [(.int .i64 0)] fun tx =>
          .op true (nilS a0) fun t39 =>
          .op true (vS (Instr.fieldAt 83 t39 1)) fun t40 =>
          .op true (vS (Instr.loadAt 81 t40)) fun t41 =>
          .op true (bltS .len #[81] 3 #[false] [t41]) fun t42 =>
          .op true (binS .lss 3 (.tmp 37) (.tmp 42) (tx.headD undef) t42) fun t43 =>
          .ite t43
            (
            .bind
              (
              .block 1 <|
              .op true (nilS a0) fun t47 =>
              .op true (vS (Instr.fieldAt 83 t47 1)) fun t48 =>
              .op true (vS (Instr.loadAt 81 t48)) fun t49 =>
              .op true (vS (Instr.indexAt 81 t49 (tx.headD undef))) fun t51 =>
              .op true (vS (Instr.fieldAt 88 t51 3)) fun t52 =>
              .op true (vS (Instr.loadAt 2 t52)) fun t53 =>
              .op true (binS .neq 2 (.tmp 53) (.const (.int .i64 0)) t53 (.int .i64 0)) fun t54 =>
              .bind
                (
                .ite t54
                  (
                  .draw <|
                  .op true (nilS a0) fun t56 =>
                  .op true (vS (Instr.fieldAt 83 t56 1)) fun t57 =>
                  .op true (vS (Instr.loadAt 81 t57)) fun t58 =>
                  .op true (nilS a0) fun t61 =>
                  .op true (vS (Instr.fieldAt 83 t61 1)) fun t62 =>
                  .op true (vS (Instr.loadAt 81 t62)) fun t63 =>
                  .op true (vS (Instr.indexAt 81 t63 (tx.headD undef))) fun t65 =>
                  .op true (vS (Instr.fieldAt 88 t65 3)) fun t66 =>
                  .op true (vS (Instr.loadAt 2 t66)) fun t67 =>
                  .op true (vS (Instr.fieldAt 46 t3 7)) fun t68 =>
                  .op true (vS (Instr.loadAt 2 t68)) fun t69 =>
                  .op true (binS .add 2 (.tmp 67) (.tmp 69) t67 t69) fun t70 =>
                  .op true (vS (Instr.indexAt 81 t58 (tx.headD undef))) fun t71 =>
                  .op true (vS (Instr.fieldAt 88 t71 3)) fun t72 =>
                  .op false (uS (Instr.storeAt 2 t72 t70)) fun tu_2 =>
                  .done .normal []
                  )
                  (
                  .done .normal []
                  )
                ) fun tv_1 =>
              .done .normal []
              ) fun tv_2 =>
            .op true (binS .add 3 (.tmp 44) (.const (.int .i64 1)) (tx.headD undef) (.int .i64 1)) fun t45 =>
            .done .normal [t45]
            )
            (
            .done (.exit 0) []
            )
          ) fun tv_3 =>
        .done .normal []
        )
        (
        .done .normal []
        )
      ) fun tv_4 =>
    .bind
      (
      .op true (vS (Instr.fieldAt 46 t3 0)) fun t73 =>
      .op true (vS (Instr.loadAt 3 t73)) fun t74 =>
      .op true (binS .eql 3 (.tmp 74) (.const (.int .i64 2)) t74 (.int .i64 2)) fun t75 =>
      .gop t75 false true (vS (Instr.fieldAt 46 t3 0)) fun t77 =>
      .gop t75 false true (vS (Instr.loadAt 3 t77)) fun t78 =>
      .gop t75 false true (binS .eql 3 (.tmp 78) (.const (.int .i64 9)) t78 (.int .i64 9)) fun t79 =>
      .op true (pickS t75 (.bool true) t79) fun t80 =>
      .done .normal [t80]
      ) fun tv_5 =>
    .ite (tv_5.headD undef)
      (
      .done .ret [(.int .i64 0)]
      )
      (
      .draw <|
      .op true (nilS a0) fun t82 =>
      .op true (vS (Instr.fieldAt 83 t82 1)) fun t83 =>
      .op true (vS (Instr.loadAt 81 t83)) fun t84 =>
      .op true (vS (Instr.fieldAt 46 t3 1)) fun t85 =>
      .op true (vS (Instr.loadAt 3 t85)) fun t86 =>
      .op true (vS (Instr.indexAt 81 t84 t86)) fun t87 =>
      .op true (vS (Instr.loadAt 88 t87)) fun t88 =>
      .op false (vS (Instr.alloc 88 true (.tuple #[]))) fun t7 =>
      .chk none (vS (Instr.loadAt 88 t87)) t88 <|
      .chk none (vS (Instr.indexAt 81 t84 t86)) t87 <|
      .chk none (vS (Instr.loadAt 3 t85)) t86 <|
      .chk none (vS (Instr.fieldAt 46 t3 1)) t85 <|
      .chk none (vS (Instr.loadAt 81 t83)) t84 <|
      .chk none (vS (Instr.fieldAt 83 t82 1)) t83 <|
      .chk none (nilS a0) t82 <|
      .op false (uS (Instr.storeAt 88 t7 t88)) fun tu_3 =>
      .op true (vS (Instr.fieldAt 46 t3 0)) fun t89 =>
      .op true (vS (Instr.loadAt 3 t89)) fun t90 =>
      .bind
        (
        .block 2 <|
        .op true (binS .eql 3 (.tmp 90) (.const (.int .i64 3)) t90 (.int .i64 3)) fun t92 =>
        .bind
          (
          .ite t92
            (
            .op true (vS (Instr.fieldAt 88 t7 4)) fun t93 =>
            .op true (vS (Instr.indexAt 86 t93 (.int .i64 0))) fun t94 =>
            .op true (vS (Instr.loadAt 2 t94)) fun t95 =>
            .op true (vS (Instr.fieldAt 46 t3 7)) fun t96 =>
            .op true (vS (Instr.loadAt 2 t96)) fun t97 =>
            .op true (binS .add 2 (.tmp 95) (.tmp 97) t95 t97) fun t98 =>
            .op true (vS (Instr.fieldAt 88 t7 4)) fun t99 =>
            .op true (vS (Instr.indexAt 86 t99 (.int .i64 0))) fun t100 =>
            .op false (uS (Instr.storeAt 2 t100 t98)) fun tu_4 =>
            .draw <|
            .op true (vS (Instr.fieldAt 46 t3 8)) fun t101 =>
            .op true (vS (Instr.loadAt 3 t101)) fun t102 =>
            .op true (vS (Instr.fieldAt 46 t3 8)) fun t103 =>
            .op true (vS (Instr.loadAt 3 t103)) fun t104 =>
            .op true (vS (Instr.fieldAt 88 t7 4)) fun t105 =>
            .op true (vS (Instr.indexAt 86 t105 t104)) fun t106 =>
            .op true (vS (Instr.loadAt 2 t106)) fun t107 =>
            .op true (vS (Instr.fieldAt 46 t3 7)) fun t108 =>
            .op true (vS (Instr.loadAt 2 t108)) fun t109 =>
            .op true (binS .add 2 (.tmp 107) (.tmp 109) t107 t109) fun t110 =>
            .op true (vS (Instr.fieldAt 88 t7 4)) fun t111 =>
            .op true (vS (Instr.indexAt 86 t111 t102)) fun t112 =>
            .op false (uS (Instr.storeAt 2 t112 t110)) fun tu_5 =>
            .done .normal []
            )
            (
            .op true (binS .eql 3 (.tmp 90) (.const (.int .i64 5)) t90 (.int .i64 5)) fun t114 =>
            .bind
              (
              .ite t114
                (
                .op true (vS (Instr.fieldAt 46 t3 6)) fun t115 =>
                .op true (vS (Instr.loadAt 2 t115)) fun t116 =>
                .op true (vS (Instr.fieldAt 46 t3 7)) fun t117 =>
                .op true (vS (Instr.loadAt 2 t117)) fun t118 =>
                .op true (vS (Instr.build 85 #[(0, t116), (1, t118)])) fun t119 =>
                .op true (vS (Instr.fieldAt 88 t7 1)) fun t120 =>
                .op false (uS (Instr.storeAt 85 t120 t119)) fun tu_6 =>
                .done .normal []
                )
                (
                .op true (binS .eql 3 (.tmp 90) (.const (.int .i64 8)) t90 (.int .i64 8)) fun t122 =>
                .bind
                  (
                  .ite t122
                    (
                    .op true (vS (Instr.fieldAt 46 t3 6)) fun t123 =>
                    .op true (vS (Instr.loadAt 2 t123)) fun t124 =>
                    .op true (vS (Instr.fieldAt 46 t3 7)) fun t125 =>
                    .op true (vS (Instr.loadAt 2 t125)) fun t126 =>
                    .op true (vS (Instr.build 85 #[(0, t124), (1, t126)])) fun t127 =>
                    .op true (vS (Instr.fieldAt 88 t7 2)) fun t128 =>
                    .op false (uS (Instr.storeAt 85 t128 t127)) fun tu_7 =>
                    .done .normal []
                    )
                    (
                    .op true (binS .eql 3 (.tmp 90) (.const (.int .i64 6)) t90 (.int .i64 6)) fun t130 =>
                    .bind
                      (
                      .ite t130
                        (
                        .op true (vS (Instr.fieldAt 46 t3 8)) fun t131 =>
                        .op true (vS (Instr.loadAt 3 t131)) fun t132 =>
                        .op true (vS (Instr.fieldAt 88 t7 0)) fun t133 =>
                        .op false (uS (Instr.storeAt 3 t133 t132)) fun tu_8 =>
                        .op true (vS (Instr.fieldAt 46 t3 8)) fun t134 =>
                        .op true (vS (Instr.loadAt 3 t134)) fun t135 =>
                        .op true (binS .eql 3 (.tmp 135) (.const (.int .i64 3)) t135 (.int .i64 3)) fun t136 =>
                        .bind
                          (
                          .ite t136
                            (
                            .draw <|
                            .op true (vS (Instr.fieldAt 46 t3 3)) fun t137 =>
                            .op true (vS (Instr.loadAt 2 t137)) fun t138 =>
                            .op true (nilS a0) fun t140 =>
                            .op true (vS (Instr.fieldAt 83 t140 0)) fun t141 =>
                            .op true (vS (Instr.fieldAt 53 t141 0)) fun t142 =>
                            .op true (vS (Instr.loadAt 48 t142)) fun t143 =>
                            .op true (vS (Instr.fieldAt 46 t3 1)) fun t144 =>
                            .op true (vS (Instr.loadAt 3 t144)) fun t145 =>
                            .op true (vS (Instr.indexAt 48 t143 t145)) fun t146 =>
                            .op true (vS (Instr.loadAt 123 t146)) fun t147 =>
                            .op false (callS (.func (.func 76) #[] #[]) [t147]) fun t148 =>
                            .chk none (vS (Instr.loadAt 2 t137)) t138 <|
                            .chk none (vS (Instr.fieldAt 46 t3 3)) t137 <|
                            .op true (binS .add 2 (.tmp 138) (.tmp 148) t138 t148) fun t149 =>
                            .op true (vS (Instr.fieldAt 88 t7 3)) fun t150 =>
                            .op false (uS (Instr.storeAt 2 t150 t149)) fun tu_9 =>
                            .done .normal []
                            )
                            (
                            .bind
                              (
                              .op true (vS (Instr.fieldAt 46 t3 8)) fun t151 =>
                              .op true (vS (Instr.loadAt 3 t151)) fun t152 =>
                              .op true (binS .neq 3 (.tmp 152) (.const (.int .i64 4)) t152 (.int .i64 4)) fun t153 =>
                              .gop t153 true true (vS (Instr.fieldAt 46 t3 8)) fun t155 =>
                              .gop t153 true true (vS (Instr.loadAt 3 t155)) fun t156 =>
                              .gop t153 true true (binS .neq 3 (.tmp 156) (.const (.int .i64 5)) t156 (.int .i64 5)) fun t157 =>
                              .op true (pickS t153 t157 (.bool false)) fun t158 =>
                              .done .normal [t158]
                              ) fun tv_6 =>
                            .bind
                              (
                              .ite (tv_6.headD undef)
                                (
                                .op true (vS (Instr.fieldAt 88 t7 3)) fun t159 =>
                                .op false (uS (Instr.storeAt 2 t159 (.int .i64 0))) fun tu_10 =>
                                .done .normal []
                                )
                                (
                                .done .normal []
                                )
                              ) fun tv_7 =>
                            .done .normal []
                            )
                          ) fun tv_8 =>
                        .done .normal []
                        )
                        (
                        .done .normal []
                        )
                      ) fun tv_9 =>
                    .done .normal []
                    )
                  ) fun tv_10 =>
                .done .normal []
                )
              ) fun tv_11 =>
            .done .normal []
            )
          ) fun tv_12 =>
        .done .normal []
        ) fun tv_13 =>
      .draw <|
      .op true (nilS a0) fun t161 =>
      .op true (vS (Instr.fieldAt 83 t161 1)) fun t162 =>
      .op true (vS (Instr.loadAt 81 t162)) fun t163 =>
      .op true (vS (Instr.fieldAt 46 t3 1)) fun t164 =>
      .op true (vS (Instr.loadAt 3 t164)) fun t165 =>
      .op true (vS (Instr.loadAt 88 t7)) fun t166 =>
      .op true (vS (Instr.indexAt 81 t163 t165)) fun t167 =>
      .op false (uS (Instr.storeAt 88 t167 t166)) fun tu_11 =>
      .done .ret [(.int .i64 0)]
      )
    )
def cx39 : Cx := { N := 168, res := [4], reg := [(6, [36]), (12, [80]), (27, [158])] }
theorem eq39 (a0 : Value) (a1 : Value) : comp cx39 (bodyC Try.f39) false [] (env0 0 [a0, a1]) (fun e => retP cx39 false e) = p39 a0 a1 := by kernel_rfl

/-- (*damper/damperref32.Watch).Of -/
def p40 (a0 : Value) (a1 : Value) : Prog :=
  .op false (vS (Instr.alloc 88 true (.tuple #[]))) fun t4 =>
  .bind
    (
    .op true (binS .lss 3 (.tmp 5) (.const (.int .i64 0)) a1 (.int .i64 0)) fun t6 =>
    .gop t6 false true ((pure (.value a1))) fun t8 =>
    .gop t6 false true ((pure (.value a0))) fun t9 =>
    .gop t6 false true (nilS t9) fun t10 =>
    .gop t6 false true (vS (Instr.fieldAt 83 t10 1)) fun t11 =>
    .gop t6 false true (vS (Instr.loadAt 81 t11)) fun t12 =>
    .gop t6 false true (bltS .len #[81] 3 #[false] [t12]) fun t13 =>
    .gop t6 false true (binS .geq 3 (.tmp 8) (.tmp 13) t8 t13) fun t14 =>
    .op true (pickS t6 (.bool true) t14) fun t15 =>
    .done .normal [t15]
    ) fun tv =>
  .ite (tv.headD undef)
    (
    .op true (vS (Instr.build 88 #[])) fun t16 =>
    .op false (uS (Instr.storeAt 88 t4 t16)) fun tu =>
    .done .ret [t4]
    )
    (
    .op true (nilS a0) fun t18 =>
    .op true (vS (Instr.fieldAt 83 t18 1)) fun t19 =>
    .op true (vS (Instr.loadAt 81 t19)) fun t20 =>
    .op true (vS (Instr.indexAt 81 t20 a1)) fun t22 =>
    .op true (vS (Instr.loadAt 88 t22)) fun t23 =>
    .op false (uS (Instr.storeAt 88 t4 t23)) fun tu_1 =>
    .done .ret [t4]
    )
def cx40 : Cx := { N := 24, res := [4], reg := [(1, [15])] }
theorem eq40 (a0 : Value) (a1 : Value) : comp cx40 (bodyC Try.f40) false [] (env0 0 [a0, a1]) (fun e => retP cx40 false e) = p40 a0 a1 := by kernel_rfl

/-- (*damper/watch.Watch).Phase -/
def p41 (a0 : Value) (a1 : Value) : Prog :=
  .op false (callS (.func (.func 72) #[] #[]) [a0, a1]) fun t8 =>
  .op true (binS .neq 146 (.tmp 9) (.const (.pointer none)) t8 (.pointer none)) fun t10 =>
  .ite t10
    (
    .op true (nilS t8) fun t12 =>
    .op true (vS (Instr.fieldAt 145 t12 1)) fun t13 =>
    .op true (vS (Instr.loadAt 3 t13)) fun t14 =>
    .done .ret [t14]
    )
    (
    .done .ret [(.int .i64 0)]
    )
def cx41 : Cx := { N := 15, res := [4] }
theorem eq41 (a0 : Value) (a1 : Value) : comp cx41 (bodyC Try.f41) false [] (env0 0 [a0, a1]) (fun e => retP cx41 false e) = p41 a0 a1 := by kernel_rfl

/-- (*damper/watch.Watch).Band -/
def p42 (a0 : Value) (a1 : Value) : Prog :=
  .op false (vS (Instr.alloc 85 true (.tuple #[]))) fun t4 =>
  .op false (callS (.func (.func 72) #[] #[]) [a0, a1]) fun t8 =>
  .op true (binS .neq 146 (.tmp 9) (.const (.pointer none)) t8 (.pointer none)) fun t10 =>
  .ite t10
    (
    .op true (nilS t8) fun t12 =>
    .op true (vS (Instr.fieldAt 145 t12 2)) fun t13 =>
    .op true (vS (Instr.loadAt 85 t13)) fun t14 =>
    .op false (uS (Instr.storeAt 85 t4 t14)) fun tu =>
    .done .ret [t4]
    )
    (
    .op true (vS (Instr.loadAt 85 t4)) fun t15 =>
    .op false (uS (Instr.storeAt 85 t4 t15)) fun tu_1 =>
    .done .ret [t4]
    )
def cx42 : Cx := { N := 16, res := [4] }
theorem eq42 (a0 : Value) (a1 : Value) : comp cx42 (bodyC Try.f42) false [] (env0 0 [a0, a1]) (fun e => retP cx42 false e) = p42 a0 a1 := by kernel_rfl

/-- (*damper/watch.Watch).Deadline -/
def p43 (a0 : Value) (a1 : Value) : Prog :=
  .op false (callS (.func (.func 72) #[] #[]) [a0, a1]) fun t8 =>
  .op true (binS .neq 146 (.tmp 9) (.const (.pointer none)) t8 (.pointer none)) fun t10 =>
  .ite t10
    (
    .op true (nilS t8) fun t12 =>
    .op true (vS (Instr.fieldAt 145 t12 4)) fun t13 =>
    .op true (vS (Instr.loadAt 2 t13)) fun t14 =>
    .done .ret [t14]
    )
    (
    .done .ret [(.int .i64 0)]
    )
def cx43 : Cx := { N := 15, res := [4] }
theorem eq43 (a0 : Value) (a1 : Value) : comp cx43 (bodyC Try.f43) false [] (env0 0 [a0, a1]) (fun e => retP cx43 false e) = p43 a0 a1 := by kernel_rfl

/-- (*damper/watch.Watch).Trades -/
def p44 (a0 : Value) (a1 : Value) : Prog :=
  .op false (vS (Instr.alloc 86 true (.tuple #[]))) fun t4 =>
  .op false (callS (.func (.func 72) #[] #[]) [a0, a1]) fun t8 =>
  .op true (binS .neq 146 (.tmp 9) (.const (.pointer none)) t8 (.pointer none)) fun t10 =>
  .ite t10
    (
    .op true (nilS t8) fun t12 =>
    .op true (vS (Instr.fieldAt 145 t12 5)) fun t13 =>
    .op true (vS (Instr.loadAt 86 t13)) fun t14 =>
    .op false (uS (Instr.storeAt 86 t4 t14)) fun tu =>
    .done .ret [t4]
    )
    (
    .op true (vS (Instr.loadAt 86 t4)) fun t15 =>
    .op false (uS (Instr.storeAt 86 t4 t15)) fun tu_1 =>
    .done .ret [t4]
    )
def cx44 : Cx := { N := 16, res := [4] }
theorem eq44 (a0 : Value) (a1 : Value) : comp cx44 (bodyC Try.f44) false [] (env0 0 [a0, a1]) (fun e => retP cx44 false e) = p44 a0 a1 := by kernel_rfl

/-- damper/watch.All -/
def p45 (a0 : Value) (a1 : Value) : Prog :=
  .op false (vS (Instr.box 53 a0)) fun t2 =>
  .op true (vS (Instr.loadAt 53 t2)) fun t13 =>
  .op false (callS (.func (.func 36) #[] #[]) [t13]) fun t14 =>
  .op true (vS (Instr.extract t14 0)) fun t15 =>
  .op true (vS (Instr.extract t14 1)) fun t16 =>
  .op true (binS .neq 25 (.tmp 17) (.const (.int .i64 0)) t16 (.int .i64 0)) fun t18 =>
  .ite t18
    (
    .done .ret [(.int .i64 (-1)), t16]
    )
    (
    .op true (bltS .len #[22] 3 #[false] [a1]) fun t23 =>
    .bind
      (
      .block 0 <|
      .loop [(.int .i64 0), (.int .i64 0), (.int .i64 0)] fun tx =>
      .op true (binS .lss 3 (.tmp 24) (.tmp 23) (tx.tail.tail.headD undef) t23) fun t25 =>
      .ite t25
        (
        .bind
          (
          .block 1 <|
          .op true (vS (Instr.indexAt 22 a1 (tx.tail.tail.headD undef))) fun t27 =>
          .op true (vS (Instr.loadAt 46 t27)) fun t28 =>
          .op false (vS (Instr.alloc 46 true (.tuple #[]))) fun t10 =>
          .op false (uS (Instr.storeAt 46 t10 t28)) fun tu =>
          .op true (vS (Instr.loadAt 46 t10)) fun t30 =>
          .op false (callS (.func (.func 38) #[t15] #[]) [t30]) fun t31 =>
          .op true (binS .neq 25 (.tmp 32) (.const (.int .i64 0)) t31 (.int .i64 0)) fun t33 =>
          .ite t33
            (
            .done .ret [(tx.tail.tail.headD undef), t31]
            )
            (
            .done .normal [(tx.headD undef), (tx.tail.headD undef)]
            )
          ) fun tv =>
        .op true (binS .add 3 (.tmp 24) (.const (.int .i64 1)) (tx.tail.tail.headD undef) (.int .i64 1)) fun t36 =>
        .done .normal [(tv.headD undef), (tv.tail.headD undef), t36]
        )
        (
        .done (.exit 0) [(tx.headD undef), (tx.tail.headD undef)]
        )
      ) fun tv_1 =>
    .op true (bltS .len #[22] 3 #[false] [a1]) fun t38 =>
    .done .ret [t38, (.int .i64 0)]
    )
def cx45 : Cx := { N := 39, res := [4, 5], blk := [(0, [4, 5]), (1, [4, 5])] }
theorem eq45 (a0 : Value) (a1 : Value) : comp cx45 (bodyC Try.f45) false [] (env0 0 [a0, a1]) (fun e => retP cx45 false e) = p45 a0 a1 := by kernel_rfl

/-- damper/damperref32.All -/
def p46 (a0 : Value) (a1 : Value) : Prog :=
  .op false (vS (Instr.box 53 a0)) fun t2 =>
  .op true (vS (Instr.loadAt 53 t2)) fun t11 =>
  .op false (callS (.func (.func 37) #[] #[]) [t11]) fun t12 =>
  .op true (vS (Instr.extract t12 0)) fun t13 =>
  .op true (vS (Instr.extract t12 1)) fun t14 =>
  .op true (binS .neq 25 (.tmp 15) (.const (.int .i64 0)) t14 (.int .i64 0)) fun t16 =>
  .ite t16
    (
    .done .ret [(.int .i64 (-1)), t14]
    )
    (
    .bind
      (
      .block 0 <|
      .loop [(.int .i64 0), (.int .i64 0), (.int .i64 0)] fun tx =>
      .op true (bltS .len #[22] 3 #[false] [a1]) fun t20 =>
      .op true (binS .lss 3 (.tmp 18) (.tmp 20) (tx.tail.tail.headD undef) t20) fun t21 =>
      .ite t21
        (
        .bind
          (
          .block 1 <|
          .op true (vS (Instr.indexAt 22 a1 (tx.tail.tail.headD undef))) fun t27 =>
          .op true (vS (Instr.loadAt 46 t27)) fun t28 =>
          .op false (callS (.func (.func 39) #[] #[]) [t13, t28]) fun t29 =>
          .op true (binS .neq 25 (.tmp 30) (.const (.int .i64 0)) t29 (.int .i64 0)) fun t31 =>
          .ite t31
            (
            .done .ret [(tx.tail.tail.headD undef), t29]
            )
            (
            .done .normal [(tx.headD undef), (tx.tail.headD undef)]
            )
          ) fun tv =>
        .op true (binS .add 3 (.tmp 22) (.const (.int .i64 1)) (tx.tail.tail.headD undef) (.int .i64 1)) fun t23 =>
        .done .normal [(tv.headD undef), (tv.tail.headD undef), t23]
        )
        (
        .done (.exit 0) [(tx.headD undef), (tx.tail.headD undef)]
        )
      ) fun tv_1 =>
    .op true (bltS .len #[22] 3 #[false] [a1]) fun t35 =>
    .done .ret [t35, (.int .i64 0)]
    )
def cx46 : Cx := { N := 36, res := [4, 5], blk := [(0, [4, 5]), (1, [4, 5])] }
theorem eq46 (a0 : Value) (a1 : Value) : comp cx46 (bodyC Try.f46) false [] (env0 0 [a0, a1]) (fun e => retP cx46 false e) = p46 a0 a1 := by kernel_rfl

/-- damper/tape.counts -/
def p47 (a0 : Value) (a1 : Value) : Prog :=
  .op false (vS (Instr.box 22 a0)) fun t2 =>
  .op false (vS (Instr.box 3 a1)) fun t3 =>
  .done .ret [(.func (.func 77) #[] #[t2, t3])]
def cx47 : Cx := { N := 6, res := [4] }
theorem eq47 (a0 : Value) (a1 : Value) : comp cx47 (bodyC Try.f47) false [] (env0 0 [a0, a1]) (fun e => retP cx47 false e) = p47 a0 a1 := by kernel_rfl

/-- (*damper/tape.maker).add -/
def p48 (a0 : Value) (a1 : Value) (a2 : Value) : Prog :=
  .op false (vS (Instr.box 46 a2)) fun t5 =>
  .op true (nilS a0) fun t7 =>
  .op true (vS (Instr.fieldAt 100 t7 0)) fun t8 =>
  .op true (vS (Instr.fieldAt 32 t8 6)) fun t9 =>
  .op true (vS (Instr.loadAt 3 t9)) fun t10 =>
  .op true (binS .eql 3 (.tmp 10) (.const (.int .i64 0)) t10 (.int .i64 0)) fun t11 =>
  .bind
    (
    .ite t11
      (
      .op true (vS (Instr.fieldAt 46 t5 6)) fun t14 =>
      .op true (vS (Instr.loadAt 2 t14)) fun t15 =>
      .op true (vS (Instr.fieldAt 46 t5 6)) fun t16 =>
      .op true (vS (Instr.loadAt 2 t16)) fun t17 =>
      .op true (vS (Instr.fieldAt 46 t5 6)) fun t18 =>
      .op true (vS (Instr.loadAt 2 t18)) fun t19 =>
      .op true (vS (Instr.build 32 #[(0, a1), (1, t15), (2, t17), (3, t19)])) fun t20 =>
      .op true (nilS a0) fun t21 =>
      .op true (vS (Instr.fieldAt 100 t21 0)) fun t22 =>
      .op false (uS (Instr.storeAt 32 t22 t20)) fun tu =>
      .done .normal []
      )
      (
      .done .normal []
      )
    ) fun tv =>
  .draw <|
  .op true (nilS a0) fun t27 =>
  .op true (vS (Instr.fieldAt 100 t27 0)) fun t28 =>
  .op true (vS (Instr.fieldAt 32 t28 2)) fun t29 =>
  .op true (vS (Instr.loadAt 2 t29)) fun t30 =>
  .op true (vS (Instr.fieldAt 46 t5 6)) fun t31 =>
  .op true (vS (Instr.loadAt 2 t31)) fun t32 =>
  .op true (bltS .max #[2, 2] 2 #[false, false] [t30, t32]) fun t33 =>
  .op true (nilS a0) fun t35 =>
  .op true (vS (Instr.fieldAt 100 t35 0)) fun t36 =>
  .op true (vS (Instr.fieldAt 32 t36 3)) fun t37 =>
  .op true (vS (Instr.loadAt 2 t37)) fun t38 =>
  .op true (vS (Instr.fieldAt 46 t5 6)) fun t39 =>
  .op true (vS (Instr.loadAt 2 t39)) fun t40 =>
  .op true (bltS .min #[2, 2] 2 #[false, false] [t38, t40]) fun t41 =>
  .op true (vS (Instr.fieldAt 46 t5 6)) fun t42 =>
  .op true (vS (Instr.loadAt 2 t42)) fun t43 =>
  .op true (nilS a0) fun t44 =>
  .op true (vS (Instr.fieldAt 100 t44 0)) fun t45 =>
  .op true (vS (Instr.fieldAt 32 t45 2)) fun t46 =>
  .op false (uS (Instr.storeAt 2 t46 t33)) fun tu_1 =>
  .chk none (vS (Instr.loadAt 2 t42)) t43 <|
  .chk none (vS (Instr.fieldAt 46 t5 6)) t42 <|
  .chk none (bltS .min #[2, 2] 2 #[false, false] [t38, t40]) t41 <|
  .chk none (vS (Instr.loadAt 2 t39)) t40 <|
  .chk none (vS (Instr.fieldAt 46 t5 6)) t39 <|
  .op true (nilS a0) fun t47 =>
  .op true (vS (Instr.fieldAt 100 t47 0)) fun t48 =>
  .op true (vS (Instr.fieldAt 32 t48 3)) fun t49 =>
  .op false (uS (Instr.storeAt 2 t49 t41)) fun tu_2 =>
  .chk none (vS (Instr.loadAt 2 t42)) t43 <|
  .chk none (vS (Instr.fieldAt 46 t5 6)) t42 <|
  .op true (nilS a0) fun t50 =>
  .op true (vS (Instr.fieldAt 100 t50 0)) fun t51 =>
  .op true (vS (Instr.fieldAt 32 t51 4)) fun t52 =>
  .op false (uS (Instr.storeAt 2 t52 t43)) fun tu_3 =>
  .draw <|
  .op true (nilS a0) fun t54 =>
  .op true (vS (Instr.fieldAt 100 t54 0)) fun t55 =>
  .op true (vS (Instr.fieldAt 32 t55 5)) fun t56 =>
  .op true (vS (Instr.loadAt 2 t56)) fun t57 =>
  .op true (vS (Instr.fieldAt 46 t5 7)) fun t58 =>
  .op true (vS (Instr.loadAt 2 t58)) fun t59 =>
  .op true (binS .add 2 (.tmp 57) (.tmp 59) t57 t59) fun t60 =>
  .op true (nilS a0) fun t61 =>
  .op true (vS (Instr.fieldAt 100 t61 0)) fun t62 =>
  .op true (vS (Instr.fieldAt 32 t62 5)) fun t63 =>
  .op false (uS (Instr.storeAt 2 t63 t60)) fun tu_4 =>
  .op true (nilS a0) fun t65 =>
  .op true (vS (Instr.fieldAt 100 t65 0)) fun t66 =>
  .op true (vS (Instr.fieldAt 32 t66 6)) fun t67 =>
  .op true (vS (Instr.loadAt 3 t67)) fun t68 =>
  .op true (binS .add 3 (.tmp 68) (.const (.int .i64 1)) t68 (.int .i64 1)) fun t69 =>
  .op true (nilS a0) fun t70 =>
  .op true (vS (Instr.fieldAt 100 t70 0)) fun t71 =>
  .op true (vS (Instr.fieldAt 32 t71 6)) fun t72 =>
  .op false (uS (Instr.storeAt 3 t72 t69)) fun tu_5 =>
  .draw <|
  .op true (nilS a0) fun t76 =>
  .op true (vS (Instr.fieldAt 100 t76 1)) fun t77 =>
  .op true (vS (Instr.loadAt 98 t77)) fun t78 =>
  .op true (vS (Instr.fieldAt 46 t5 6)) fun t79 =>
  .op true (vS (Instr.loadAt 2 t79)) fun t80 =>
  .op true (vS (convert 2 54 t80)) fun t81 =>
  .op true (vS (Instr.fieldAt 46 t5 7)) fun t82 =>
  .op true (vS (Instr.loadAt 2 t82)) fun t83 =>
  .op true (vS (convert 2 54 t83)) fun t84 =>
  .op false (callS (.func (.func 52) #[] #[]) [t81, t84]) fun t85 =>
  .chk none (vS (Instr.loadAt 98 t77)) t78 <|
  .chk none (vS (Instr.fieldAt 100 t76 1)) t77 <|
  .chk none (nilS a0) t76 <|
  .op false (callS (.func (.func 53) #[] #[]) [t78, t85]) fun t86 =>
  .op true (vS (Instr.extract t86 0)) fun t87 =>
  .op true (vS (Instr.extract t86 1)) fun t88 =>
  .op true (nilS a0) fun t89 =>
  .op true (vS (Instr.fieldAt 100 t89 1)) fun t90 =>
  .op false (uS (Instr.storeAt 98 t90 t87)) fun tu_6 =>
  .chk none (vS (Instr.extract t86 1)) t88 <|
  .done .ret []
def cx48 : Cx := { N := 91, res := [] }
theorem eq48 (a0 : Value) (a1 : Value) (a2 : Value) : comp cx48 (bodyC Try.f48) false [] (env0 0 [a0, a1, a2]) (fun e => retP cx48 false e) = p48 a0 a1 a2 := by kernel_rfl

/-- (*damper/tape.maker).done -/
def p49 (a0 : Value) : Prog :=
  .op false (vS (Instr.alloc 32 true (.tuple #[]))) fun t2 =>
  .draw <|
  .op true (nilS a0) fun t5 =>
  .op true (vS (Instr.fieldAt 100 t5 1)) fun t6 =>
  .op true (vS (Instr.loadAt 98 t6)) fun t7 =>
  .op true (nilS a0) fun t9 =>
  .op true (vS (Instr.fieldAt 100 t9 0)) fun t10 =>
  .op true (vS (Instr.fieldAt 32 t10 5)) fun t11 =>
  .op true (vS (Instr.loadAt 2 t11)) fun t12 =>
  .op false (callS (.func (.func 54) #[] #[]) [t7, t12]) fun t13 =>
  .op true (nilS a0) fun t14 =>
  .op true (vS (Instr.fieldAt 100 t14 0)) fun t15 =>
  .op true (vS (Instr.fieldAt 32 t15 7)) fun t16 =>
  .op false (uS (Instr.storeAt 2 t16 t13)) fun tu =>
  .op true (nilS a0) fun t18 =>
  .op true (vS (Instr.fieldAt 100 t18 0)) fun t19 =>
  .op true (vS (Instr.loadAt 32 t19)) fun t20 =>
  .op false (uS (Instr.storeAt 32 t2 t20)) fun tu_1 =>
  .done .ret [t2]
def cx49 : Cx := { N := 21, res := [2] }
theorem eq49 (a0 : Value) : comp cx49 (bodyC Try.f49) false [] (env0 0 [a0]) (fun e => retP cx49 false e) = p49 a0 := by kernel_rfl

/-- damper/damperref34.Counts -/
def p50 (a0 : Value) (a1 : Value) : Prog :=
  .bind
    (
    .block 0 <|
    .loop [(.slice none 0 0), (.int .i64 0)] fun tx =>
    .op true (bltS .len #[22] 3 #[false] [a0]) fun t10 =>
    .op true (binS .lss 3 (.tmp 8) (.tmp 10) (tx.tail.headD undef) t10) fun t11 =>
    .ite t11
      (
      .bind
        (
        .block 1 <|
        .op true (vS (Instr.indexAt 22 a0 (tx.tail.headD undef))) fun t16 =>
        .op true (vS (Instr.loadAt 46 t16)) fun t17 =>
        .op false (vS (Instr.alloc 46 true (.tuple #[]))) fun t7 =>
        .op false (uS (Instr.storeAt 46 t7 t17)) fun tu =>
        .bind
          (
          .op true (vS (Instr.fieldAt 46 t7 0)) fun t18 =>
          .op true (vS (Instr.loadAt 3 t18)) fun t19 =>
          .op true (binS .eql 3 (.tmp 19) (.const (.int .i64 3)) t19 (.int .i64 3)) fun t20 =>
          .gop t20 true true (vS (Instr.fieldAt 46 t7 1)) fun t22 =>
          .gop t20 true true (vS (Instr.loadAt 3 t22)) fun t23 =>
          .gop t20 true true ((pure (.value a1))) fun t24 =>
          .gop t20 true true (binS .eql 3 (.tmp 23) (.tmp 24) t23 t24) fun t25 =>
          .op true (pickS t20 t25 (.bool false)) fun t26 =>
          .gop t26 true true (vS (Instr.fieldAt 46 t7 6)) fun t28 =>
          .gop t26 true true (vS (Instr.loadAt 2 t28)) fun t29 =>
          .gop t26 true true (binS .geq 2 (.tmp 29) (.const (.int .i64 1)) t29 (.int .i64 1)) fun t30 =>
          .op true (pickS t26 t30 (.bool false)) fun t31 =>
          .gop t31 true true (vS (Instr.fieldAt 46 t7 6)) fun t33 =>
          .gop t31 true true (vS (Instr.loadAt 2 t33)) fun t34 =>
          .gop t31 true true (binS .leq 2 (.tmp 34) (.const (.int .i64 1099511627776)) t34 (.int .i64 1099511627776)) fun t35 =>
          .op true (pickS t31 t35 (.bool false)) fun t36 =>
          .gop t36 true true (vS (Instr.fieldAt 46 t7 7)) fun t38 =>
          .gop t36 true true (vS (Instr.loadAt 2 t38)) fun t39 =>
          .gop t36 true true (binS .geq 2 (.tmp 39) (.const (.int .i64 1)) t39 (.int .i64 1)) fun t40 =>
          .op true (pickS t36 t40 (.bool false)) fun t41 =>
          .gop t41 true true (vS (Instr.fieldAt 46 t7 7)) fun t43 =>
          .gop t41 true true (vS (Instr.loadAt 2 t43)) fun t44 =>
          .gop t41 true true (binS .leq 2 (.tmp 44) (.const (.int .i64 4294967296)) t44 (.int .i64 4294967296)) fun t45 =>
          .op true (pickS t41 t45 (.bool false)) fun t46 =>
          .gop t46 true true (vS (Instr.fieldAt 46 t7 3)) fun t48 =>
          .gop t46 true true (vS (Instr.loadAt 2 t48)) fun t49 =>
          .gop t46 true true (binS .geq 2 (.tmp 49) (.const (.int .i64 0)) t49 (.int .i64 0)) fun t50 =>
          .op true (pickS t46 t50 (.bool false)) fun t51 =>
          .done .normal [t51]
          ) fun tv =>
        .bind
          (
          .ite (tv.headD undef)
            (
            .op true (vS (Instr.loadAt 46 t7)) fun t53 =>
            .op false (vS (Instr.buildSlice 22 1 #[(0, t53)])) fun t54 =>
            .op false (bltS .append #[22, 22] 22 #[false, false] [(tx.headD undef), t54]) fun t55 =>
            .done .normal [t55]
            )
            (
            .done .normal [(tx.headD undef)]
            )
          ) fun tv_1 =>
        .done .normal [(tv_1.headD undef)]
        ) fun tv_2 =>
      .op true (binS .add 3 (.tmp 12) (.const (.int .i64 1)) (tx.tail.headD undef) (.int .i64 1)) fun t13 =>
      .done .normal [(tv_2.headD undef), t13]
      )
      (
      .done (.exit 0) [(tx.headD undef)]
      )
    ) fun tv_3 =>
  .done .ret [(tv_3.headD undef)]
def cx50 : Cx := { N := 57, res := [4], blk := [(0, [5]), (1, [5])], cnd := [(51, [5])], reg := [(6, [51])] }
theorem eq50 (a0 : Value) (a1 : Value) : comp cx50 (bodyC Try.f50) false [] (env0 0 [a0, a1]) (fun e => retP cx50 false e) = p50 a0 a1 := by kernel_rfl

/-- damper/damperref34.Of -/
def p51 (a0 : Value) (a1 : Value) : Prog :=
  .op false (vS (Instr.alloc 34 true (.tuple #[]))) fun t4 =>
  .draw <|
  .op true (vS (Instr.indexAt 22 a0 (.int .i64 0))) fun t11 =>
  .op true (vS (Instr.fieldAt 46 t11 6)) fun t12 =>
  .op true (vS (Instr.loadAt 2 t12)) fun t13 =>
  .op true (vS (Instr.indexAt 22 a0 (.int .i64 0))) fun t15 =>
  .op true (vS (Instr.fieldAt 46 t15 6)) fun t16 =>
  .op true (vS (Instr.loadAt 2 t16)) fun t17 =>
  .op true (vS (Instr.indexAt 22 a0 (.int .i64 0))) fun t19 =>
  .op true (vS (Instr.fieldAt 46 t19 6)) fun t20 =>
  .op true (vS (Instr.loadAt 2 t20)) fun t21 =>
  .op true (bltS .len #[22] 3 #[false] [a0]) fun t24 =>
  .op true (binS .sub 3 (.tmp 24) (.const (.int .i64 1)) t24 (.int .i64 1)) fun t25 =>
  .op true (vS (Instr.indexAt 22 a0 t25)) fun t26 =>
  .op true (vS (Instr.fieldAt 46 t26 6)) fun t27 =>
  .op true (vS (Instr.loadAt 2 t27)) fun t28 =>
  .op true (bltS .len #[22] 3 #[false] [a0]) fun t30 =>
  .op true (vS (Instr.build 34 #[(0, a1), (1, t13), (2, t17), (3, t21), (4, t28), (6, t30)])) fun t31 =>
  .op false (vS (Instr.alloc 34 true (.tuple #[]))) fun t5 =>
  .chk none (vS (Instr.build 34 #[(0, a1), (1, t13), (2, t17), (3, t21), (4, t28), (6, t30)])) t31 <|
  .chk none (bltS .len #[22] 3 #[false] [a0]) t30 <|
  .chk none (vS (Instr.loadAt 2 t27)) t28 <|
  .chk none (vS (Instr.fieldAt 46 t26 6)) t27 <|
  .chk none (vS (Instr.indexAt 22 a0 t25)) t26 <|
  .chk none (binS .sub 3 (.tmp 24) (.const (.int .i64 1)) t24 (.int .i64 1)) t25 <|
  .chk none (bltS .len #[22] 3 #[false] [a0]) t24 <|
  .chk none (vS (Instr.loadAt 2 t20)) t21 <|
  .chk none (vS (Instr.fieldAt 46 t19 6)) t20 <|
  .chk none (vS (Instr.indexAt 22 a0 (.int .i64 0))) t19 <|
  .chk none (vS (Instr.loadAt 2 t16)) t17 <|
  .chk none (vS (Instr.fieldAt 46 t15 6)) t16 <|
  .chk none (vS (Instr.indexAt 22 a0 (.int .i64 0))) t15 <|
  .chk none (vS (Instr.loadAt 2 t12)) t13 <|
  .chk none (vS (Instr.fieldAt 46 t11 6)) t12 <|
  .chk none (vS (Instr.indexAt 22 a0 (.int .i64 0))) t11 <|
  .op false (uS (Instr.storeAt 34 t5 t31)) fun tu =>
  .bind
    (
    .block 0 <|
    .loop [(.slice none 0 0), (.slice none 0 0), (.int .i64 0)] fun tx =>
    .op true (bltS .len #[22] 3 #[false] [a0]) fun t34 =>
    .op true (binS .lss 3 (.tmp 32) (.tmp 34) (tx.tail.tail.headD undef) t34) fun t35 =>
    .ite t35
      (
      .bind
        (
        .block 1 <|
        .draw <|
        .op true (vS (Instr.fieldAt 34 t5 2)) fun t38 =>
        .op true (vS (Instr.loadAt 2 t38)) fun t39 =>
        .op true (vS (Instr.indexAt 22 a0 (tx.tail.tail.headD undef))) fun t42 =>
        .op true (vS (Instr.fieldAt 46 t42 6)) fun t43 =>
        .op true (vS (Instr.loadAt 2 t43)) fun t44 =>
        .op true (bltS .max #[2, 2] 2 #[false, false] [t39, t44]) fun t45 =>
        .op true (vS (Instr.fieldAt 34 t5 2)) fun t46 =>
        .op false (uS (Instr.storeAt 2 t46 t45)) fun tu_1 =>
        .draw <|
        .op true (vS (Instr.fieldAt 34 t5 3)) fun t47 =>
        .op true (vS (Instr.loadAt 2 t47)) fun t48 =>
        .op true (vS (Instr.indexAt 22 a0 (tx.tail.tail.headD undef))) fun t51 =>
        .op true (vS (Instr.fieldAt 46 t51 6)) fun t52 =>
        .op true (vS (Instr.loadAt 2 t52)) fun t53 =>
        .op true (bltS .min #[2, 2] 2 #[false, false] [t48, t53]) fun t54 =>
        .op true (vS (Instr.fieldAt 34 t5 3)) fun t55 =>
        .op false (uS (Instr.storeAt 2 t55 t54)) fun tu_2 =>
        .draw <|
        .op true (vS (Instr.fieldAt 34 t5 5)) fun t56 =>
        .op true (vS (Instr.loadAt 2 t56)) fun t57 =>
        .op true (vS (Instr.indexAt 22 a0 (tx.tail.tail.headD undef))) fun t60 =>
        .op true (vS (Instr.fieldAt 46 t60 7)) fun t61 =>
        .op true (vS (Instr.loadAt 2 t61)) fun t62 =>
        .op true (binS .add 2 (.tmp 57) (.tmp 62) t57 t62) fun t63 =>
        .op true (vS (Instr.fieldAt 34 t5 5)) fun t64 =>
        .op false (uS (Instr.storeAt 2 t64 t63)) fun tu_3 =>
        .op true (vS (Instr.indexAt 22 a0 (tx.tail.tail.headD undef))) fun t68 =>
        .op true (vS (Instr.fieldAt 46 t68 6)) fun t69 =>
        .op true (vS (Instr.loadAt 2 t69)) fun t70 =>
        .op false (vS (Instr.buildSlice 112 1 #[(0, t70)])) fun t71 =>
        .op false (bltS .append #[112, 112] 112 #[false, false] [(tx.headD undef), t71]) fun t72 =>
        .op true (vS (Instr.indexAt 22 a0 (tx.tail.tail.headD undef))) fun t76 =>
        .op true (vS (Instr.fieldAt 46 t76 7)) fun t77 =>
        .op true (vS (Instr.loadAt 2 t77)) fun t78 =>
        .op false (vS (Instr.buildSlice 112 1 #[(0, t78)])) fun t79 =>
        .op false (bltS .append #[112, 112] 112 #[false, false] [(tx.tail.headD undef), t79]) fun t80 =>
        .done .normal [t72, t80]
        ) fun tv =>
      .op true (binS .add 3 (.tmp 36) (.const (.int .i64 1)) (tx.tail.tail.headD undef) (.int .i64 1)) fun t37 =>
      .done .normal [(tv.headD undef), (tv.tail.headD undef), t37]
      )
      (
      .done (.exit 0) [(tx.headD undef), (tx.tail.headD undef)]
      )
    ) fun tv_1 =>
  .op false (callS (.func (.func 80) #[] #[]) [(tv_1.headD undef), (tv_1.tail.headD undef)]) fun t83 =>
  .op true (vS (Instr.fieldAt 34 t5 7)) fun t84 =>
  .op false (uS (Instr.storeAt 2 t84 t83)) fun tu_4 =>
  .op true (vS (Instr.loadAt 34 t5)) fun t85 =>
  .op false (uS (Instr.storeAt 34 t4 t85)) fun tu_5 =>
  .done .ret [t4]
def cx51 : Cx := { N := 86, res := [4], blk := [(0, [6, 7]), (1, [6, 7])] }
theorem eq51 (a0 : Value) (a1 : Value) : comp cx51 (bodyC Try.f51) false [] (env0 0 [a0, a1]) (fun e => retP cx51 false e) = p51 a0 a1 := by kernel_rfl

/-- damper/wide.Mul -/
def p52 (a0 : Value) (a1 : Value) : Prog :=
  .op false (vS (Instr.alloc 98 true (.tuple #[]))) fun t4 =>
  .op true (binS .shr 54 (.tmp 12) (.const (.int .u64 32)) a0 (.int .u64 32)) fun t13 =>
  .op true (binS .and 54 (.tmp 14) (.const (.int .u64 4294967295)) a0 (.int .u64 4294967295)) fun t15 =>
  .op true (binS .shr 54 (.tmp 16) (.const (.int .u64 32)) a1 (.int .u64 32)) fun t17 =>
  .op true (binS .and 54 (.tmp 18) (.const (.int .u64 4294967295)) a1 (.int .u64 4294967295)) fun t19 =>
  .op true (binS .mul 54 (.tmp 20) (.tmp 21) t15 t19) fun t22 =>
  .op true (binS .mul 54 (.tmp 23) (.tmp 24) t13 t19) fun t25 =>
  .op true (binS .shr 54 (.tmp 26) (.const (.int .u64 32)) t22 (.int .u64 32)) fun t27 =>
  .op true (binS .add 54 (.tmp 25) (.tmp 27) t25 t27) fun t28 =>
  .op true (binS .mul 54 (.tmp 29) (.tmp 30) t15 t17) fun t31 =>
  .op true (binS .and 54 (.tmp 32) (.const (.int .u64 4294967295)) t28 (.int .u64 4294967295)) fun t33 =>
  .op true (binS .add 54 (.tmp 31) (.tmp 33) t31 t33) fun t34 =>
  .op true (binS .mul 54 (.tmp 35) (.tmp 36) t13 t17) fun t37 =>
  .op true (binS .shr 54 (.tmp 38) (.const (.int .u64 32)) t28 (.int .u64 32)) fun t39 =>
  .op true (binS .add 54 (.tmp 37) (.tmp 39) t37 t39) fun t40 =>
  .op true (binS .shr 54 (.tmp 41) (.const (.int .u64 32)) t34 (.int .u64 32)) fun t42 =>
  .op true (binS .add 54 (.tmp 40) (.tmp 42) t40 t42) fun t43 =>
  .op true (binS .shl 54 (.tmp 44) (.const (.int .u64 32)) t34 (.int .u64 32)) fun t45 =>
  .op true (binS .and 54 (.tmp 46) (.const (.int .u64 4294967295)) t22 (.int .u64 4294967295)) fun t47 =>
  .op true (binS .or 54 (.tmp 45) (.tmp 47) t45 t47) fun t48 =>
  .op true (vS (Instr.build 98 #[(0, t43), (1, t48)])) fun t49 =>
  .op false (uS (Instr.storeAt 98 t4 t49)) fun tu =>
  .done .ret [t4]
def cx52 : Cx := { N := 50, res := [4] }
theorem eq52 (a0 : Value) (a1 : Value) : comp cx52 (bodyC Try.f52) false [] (env0 0 [a0, a1]) (fun e => retP cx52 false e) = p52 a0 a1 := by kernel_rfl

/-- (damper/wide.Wide).Add -/
def p53 (a0 : Value) (a1 : Value) : Prog :=
  .op false (vS (Instr.box 98 a0)) fun t2 =>
  .op false (vS (Instr.box 98 a1)) fun t3 =>
  .op false (vS (Instr.alloc 98 true (.tuple #[]))) fun t4 =>
  .op true (vS (Instr.fieldAt 98 t2 0)) fun t8 =>
  .op true (vS (Instr.loadAt 54 t8)) fun t9 =>
  .op true (vS (Instr.fieldAt 98 t3 0)) fun t10 =>
  .op true (vS (Instr.loadAt 54 t10)) fun t11 =>
  .op true (binS .add 54 (.tmp 9) (.tmp 11) t9 t11) fun t12 =>
  .op true (vS (Instr.fieldAt 98 t2 1)) fun t13 =>
  .op true (vS (Instr.loadAt 54 t13)) fun t14 =>
  .op true (vS (Instr.fieldAt 98 t3 1)) fun t15 =>
  .op true (vS (Instr.loadAt 54 t15)) fun t16 =>
  .op true (binS .add 54 (.tmp 14) (.tmp 16) t14 t16) fun t17 =>
  .op true (vS (Instr.build 98 #[(0, t12), (1, t17)])) fun t18 =>
  .op false (vS (Instr.alloc 98 true (.tuple #[]))) fun t6 =>
  .op false (uS (Instr.storeAt 98 t6 t18)) fun tu =>
  .op true (vS (Instr.fieldAt 98 t6 0)) fun t19 =>
  .op true (vS (Instr.loadAt 54 t19)) fun t20 =>
  .op true (vS (Instr.fieldAt 98 t2 0)) fun t21 =>
  .op true (vS (Instr.loadAt 54 t21)) fun t22 =>
  .op true (binS .lss 54 (.tmp 20) (.tmp 22) t20 t22) fun t23 =>
  .op true (vS (Instr.fieldAt 98 t6 1)) fun t24 =>
  .op true (vS (Instr.loadAt 54 t24)) fun t25 =>
  .op true (vS (Instr.fieldAt 98 t2 1)) fun t26 =>
  .op true (vS (Instr.loadAt 54 t26)) fun t27 =>
  .op true (binS .lss 54 (.tmp 25) (.tmp 27) t25 t27) fun t28 =>
  .bind
    (
    .ite t28
      (
      .op true (vS (Instr.fieldAt 98 t6 0)) fun t29 =>
      .op true (vS (Instr.loadAt 54 t29)) fun t30 =>
      .op true (binS .add 54 (.tmp 30) (.const (.int .u64 1)) t30 (.int .u64 1)) fun t31 =>
      .op true (vS (Instr.fieldAt 98 t6 0)) fun t32 =>
      .op false (uS (Instr.storeAt 54 t32 t31)) fun tu_1 =>
      .bind
        (
        .gop t23 false true (vS (Instr.fieldAt 98 t6 0)) fun t35 =>
        .gop t23 false true (vS (Instr.loadAt 54 t35)) fun t36 =>
        .gop t23 false true (binS .eql 54 (.tmp 36) (.const (.int .u64 0)) t36 (.int .u64 0)) fun t37 =>
        .op true (pickS t23 (.bool true) t37) fun t38 =>
        .done .normal [t38]
        ) fun tv =>
      .done .normal [(tv.headD undef)]
      )
      (
      .done .normal [t23]
      )
    ) fun tv_1 =>
  .op true (vS (Instr.loadAt 98 t6)) fun t39 =>
  .op true (vS (Op.unary .not (tv_1.headD undef))) fun t41 =>
  .op false (uS (Instr.storeAt 98 t4 t39)) fun tu_2 =>
  .done .ret [t4, t41]
def cx53 : Cx := { N := 42, res := [4, 5], cnd := [(28, [7])], reg := [(5, [7])] }
theorem eq53 (a0 : Value) (a1 : Value) : comp cx53 (bodyC Try.f53) false [] (env0 0 [a0, a1]) (fun e => retP cx53 false e) = p53 a0 a1 := by kernel_rfl

/-- damper/tape.mean -/
def p54 (a0 : Value) (a1 : Value) : Prog :=
  .op false (vS (Instr.box 98 a0)) fun t2 =>
  .op true (vS (Instr.loadAt 98 t2)) fun t9 =>
  .op true (vS (convert 2 54 a1)) fun t11 =>
  .op false (callS (.func (.func 81) #[] #[]) [t9, t11]) fun t12 =>
  .op true (vS (Instr.extract t12 0)) fun t13 =>
  .op true (vS (Instr.extract t12 1)) fun t14 =>
  .op true (vS (Instr.extract t12 2)) fun t15 =>
  .op false (vS (Instr.alloc 98 true (.tuple #[]))) fun t5 =>
  .op false (uS (Instr.storeAt 98 t5 t13)) fun tu =>
  .op true (vS (Instr.fieldAt 98 t5 1)) fun t16 =>
  .op true (vS (Instr.loadAt 54 t16)) fun t17 =>
  .op true (vS (convert 54 2 t17)) fun t18 =>
  .done .ret [t18]
def cx54 : Cx := { N := 19, res := [4] }
theorem eq54 (a0 : Value) (a1 : Value) : comp cx54 (bodyC Try.f54) false [] (env0 0 [a0, a1]) (fun e => retP cx54 false e) = p54 a0 a1 := by kernel_rfl

/-- slices.Sorted[int64] -/
def p55 (a0 : Value) : Prog :=
  .op false (callS (.func (.func 82) #[] #[]) [a0]) fun t5 =>
  .op false (callS (.func (.func 83) #[] #[]) [t5]) fun t7 =>
  .done .ret [t5]
def cx55 : Cx := { N := 9, res := [2] }
theorem eq55 (a0 : Value) : comp cx55 (bodyC Try.f55) false [] (env0 0 [a0]) (fun e => retP cx55 false e) = p55 a0 := by kernel_rfl

/-- maps.Keys[map[int64]int64,int64,int64] -/
def p56 (a0 : Value) : Prog :=
  .op false (vS (Instr.box 43 a0)) fun t1 =>
  .done .ret [(.func (.func 84) #[] #[t1])]
def cx56 : Cx := { N := 4, res := [2] }
theorem eq56 (a0 : Value) : comp cx56 (bodyC Try.f56) false [] (env0 0 [a0]) (fun e => retP cx56 false e) = p56 a0 := by kernel_rfl

/-- damper/damperlaw07.Plain -/
def p57 (a0 : Value) : Prog :=
  .op false (vS (Instr.alloc 53 true (.tuple #[]))) fun t2 =>
  .op true (vS (Instr.build 123 #[(0, (.int .i64 5)), (1, (.int .i64 1000)), (2, (.int .i64 2000)), (3, (.int .i64 500)), (4, (.int .i64 20)), (5, (.int .i64 100)), (6, (.int .i64 3)), (7, (.int .i64 10)), (8, (.int .i64 5)), (9, (.int .i64 2)), (10, (.int .i64 500)), (11, (.int .i64 500)), (12, (.int .i64 1)), (13, (.int .i64 40)), (14, (.int .i64 12)), (15, (.int .i64 1000))])) fun t6 =>
  .op false (vS (Instr.alloc 123 true (.tuple #[]))) fun t3 =>
  .op false (uS (Instr.storeAt 123 t3 t6)) fun tu =>
  .op true (vS (Instr.build 138 #[(0, (.int .i64 5)), (1, (.int .i64 1))])) fun t7 =>
  .op true (vS (Instr.build 138 #[(0, (.int .i64 10)), (1, (.int .i64 2))])) fun t8 =>
  .op true (vS (Instr.build 138 #[(0, (.int .i64 500))])) fun t9 =>
  .op false (vS (Instr.buildSlice 49 3 #[(0, t7), (1, t8), (2, t9)])) fun t10 =>
  .op true (vS (Instr.build 50 #[(0, (.int .i64 700)), (1, (.int .i64 1300)), (2, (.int .i64 2000))])) fun t11 =>
  .op true (vS (Instr.build 51 #[(0, (.int .i64 15)), (1, (.int .i64 30))])) fun t12 =>
  .op true (vS (Instr.build 53 #[(1, t10), (2, (.int .i64 10000)), (3, t11), (4, t12)])) fun t13 =>
  .op false (vS (Instr.alloc 53 true (.tuple #[]))) fun t4 =>
  .op false (uS (Instr.storeAt 53 t4 t13)) fun tu_1 =>
  .bind
    (
    .block 0 <|
    .loop [(.int .i64 0)] fun tx =>
    .op true (binS .lss 3 (.tmp 14) (.tmp 15) (tx.headD undef) a0) fun t16 =>
    .ite t16
      (
      .bind
        (
        .block 1 <|
        .op true (vS (Instr.fieldAt 53 t4 0)) fun t19 =>
        .op true (vS (Instr.loadAt 48 t19)) fun t20 =>
        .op true (vS (Instr.loadAt 123 t3)) fun t21 =>
        .op false (vS (Instr.buildSlice 48 1 #[(0, t21)])) fun t22 =>
        .op false (bltS .append #[48, 48] 48 #[false, false] [t20, t22]) fun t23 =>
        .op true (vS (Instr.fieldAt 53 t4 0)) fun t24 =>
        .op false (uS (Instr.storeAt 48 t24 t23)) fun tu_2 =>
        .done .normal []
        ) fun tv =>
      .op true (binS .add 3 (.tmp 17) (.const (.int .i64 1)) (tx.headD undef) (.int .i64 1)) fun t18 =>
      .done .normal [t18]
      )
      (
      .done (.exit 0) []
      )
    ) fun tv_1 =>
  .op true (vS (Instr.loadAt 53 t4)) fun t25 =>
  .op false (uS (Instr.storeAt 53 t2 t25)) fun tu_3 =>
  .done .ret [t2]
def cx57 : Cx := { N := 26, res := [2] }
theorem eq57 (a0 : Value) : comp cx57 (bodyC Try.f57) false [] (env0 0 [a0]) (fun e => retP cx57 false e) = p57 a0 := by kernel_rfl

/-- damper/drill.right -/
def p58 (a0 : Value) (a1 : Value) : Prog :=
  .op false (vS (Instr.box 53 a0)) fun t2 =>
  .op true (vS (Instr.loadAt 53 t2)) fun t8 =>
  .op false (callS (.func (.func 70) #[] #[]) [t8]) fun t9 =>
  .op true (vS (Instr.extract t9 0)) fun t10 =>
  .op true (vS (Instr.extract t9 1)) fun t11 =>
  .op true (binS .neq 25 (.tmp 12) (.const (.int .i64 0)) t10 (.int .i64 0)) fun t13 =>
  .ite t13
    (
    .done .ret [t10]
    )
    (
    .bind
      (
      .op true (binS .lss 3 (.tmp 15) (.const (.int .i64 0)) a1 (.int .i64 0)) fun t16 =>
      .gop t16 false true ((pure (.value a1))) fun t18 =>
      .gop t16 false true (binS .gtr 3 (.tmp 18) (.const (.int .i64 4)) t18 (.int .i64 4)) fun t19 =>
      .op true (pickS t16 (.bool true) t19) fun t20 =>
      .done .normal [t20]
      ) fun tv =>
    .ite (tv.headD undef)
      (
      .done .ret [(.int .i64 1)]
      )
      (
      .done .ret [(.int .i64 0)]
      )
    )
def cx58 : Cx := { N := 21, res := [4], reg := [(4, [20])] }
theorem eq58 (a0 : Value) (a1 : Value) : comp cx58 (bodyC Try.f58) false [] (env0 0 [a0, a1]) (fun e => retP cx58 false e) = p58 a0 a1 := by kernel_rfl

/-- damper/drill.price -/
def p59 (a0 : Value) (a1 : Value) : Prog :=
  .op false (vS (Instr.box 123 a0)) fun t2 =>
  .op true (vS (Instr.fieldAt 123 t2 0)) fun t10 =>
  .op true (vS (Instr.loadAt 2 t10)) fun t11 =>
  .op false (callS (.func (.func 85) #[] #[]) [(.int .i64 1099511627776), t11]) fun t12 =>
  .op true (vS (Instr.fieldAt 123 t2 0)) fun t14 =>
  .op true (vS (Instr.loadAt 2 t14)) fun t15 =>
  .op false (callS (.func (.func 86) #[] #[]) [t15, a1]) fun t17 =>
  .op true (vS (Instr.extract t17 0)) fun t18 =>
  .op true (vS (Instr.extract t17 1)) fun t19 =>
  .op true (vS (Instr.fieldAt 123 t2 1)) fun t21 =>
  .op true (vS (Instr.loadAt 2 t21)) fun t22 =>
  .op false (callS (.func (.func 87) #[] #[]) [t22, t18]) fun t24 =>
  .op true (vS (Instr.extract t24 0)) fun t25 =>
  .op true (vS (Instr.extract t24 1)) fun t26 =>
  .bind
    (
    .block 0 <|
    .bind
      (
      .op true (vS (Op.unary .not t19)) fun t29 =>
      .gop t29 false true ((pure (.value t26))) fun t31 =>
      .gop t29 false true (vS (Op.unary .not t31)) fun t32 =>
      .op true (pickS t29 (.bool true) t32) fun t33 =>
      .done .normal [t33]
      ) fun tv =>
    .ite (tv.headD undef)
      (
      .op true (binS .gtr 2 (.tmp 34) (.const (.int .i64 0)) a1 (.int .i64 0)) fun t35 =>
      .ite t35
        (
        .done .ret [t12]
        )
        (
        .op true (vS (Instr.fieldAt 123 t2 0)) fun t37 =>
        .op true (vS (Instr.loadAt 2 t37)) fun t38 =>
        .done .ret [t38]
        )
      )
      (
      .done .normal [(.int .i64 0)]
      )
    ) fun tv_1 =>
  .op true (vS (Instr.fieldAt 123 t2 0)) fun t40 =>
  .op true (vS (Instr.loadAt 2 t40)) fun t41 =>
  .op true (bltS .max #[2, 2] 2 #[false, false] [t25, t41]) fun t42 =>
  .op true (bltS .min #[2, 2] 2 #[false, false] [t42, t12]) fun t44 =>
  .done .ret [t44]
def cx59 : Cx := { N := 45, res := [4], blk := [(0, [4])], reg := [(4, [27])] }
theorem eq59 (a0 : Value) (a1 : Value) : comp cx59 (bodyC Try.f59) false [] (env0 0 [a0, a1]) (fun e => retP cx59 false e) = p59 a0 a1 := by kernel_rfl

/-- (*damper/drill.Dice).shift -/
def p60 (a0 : Value) (a1 : Value) (a2 : Value) (a3 : Value) : Prog :=
  .op true (binS .eql 3 (.tmp 10) (.const (.int .i64 4)) a1 (.int .i64 4)) fun t11 =>
  .ite t11
    (
    .op false (callS (.func (.func 27) #[] #[]) [a0, (.int .i64 81)]) fun t13 =>
    .op true (binS .sub 2 (.tmp 13) (.const (.int .i64 40)) t13 (.int .i64 40)) fun t14 =>
    .done .ret [t14]
    )
    (
    .op false (callS (.func (.func 27) #[] #[]) [a0, (.int .i64 9)]) fun t16 =>
    .op true (binS .sub 2 (.tmp 16) (.const (.int .i64 4)) t16 (.int .i64 4)) fun t17 =>
    .bind
      (
      .block 0 <|
      .op true (binS .eql 3 (.tmp 18) (.const (.int .i64 1)) a1 (.int .i64 1)) fun t20 =>
      .bind
        (
        .ite t20
          (
          .op true (binS .quo 3 (.tmp 22) (.const (.int .i64 4)) a2 (.int .i64 4)) fun t23 =>
          .op true (binS .sub 2 (.tmp 21) (.tmp 23) t17 t23) fun t24 =>
          .done .normal [t24]
          )
          (
          .op true (binS .eql 3 (.tmp 18) (.const (.int .i64 2)) a1 (.int .i64 2)) fun t26 =>
          .bind
            (
            .ite t26
              (
              .op true (binS .quo 3 (.tmp 28) (.const (.int .i64 4)) a2 (.int .i64 4)) fun t29 =>
              .op true (binS .add 2 (.tmp 27) (.tmp 29) t17 t29) fun t30 =>
              .done .normal [t30]
              )
              (
              .op true (binS .eql 3 (.tmp 18) (.const (.int .i64 3)) a1 (.int .i64 3)) fun t32 =>
              .bind
                (
                .ite t32
                  (
                  .op true (binS .mul 2 (.const (.int .i64 6)) (.tmp 34) (.int .i64 6) a3) fun t35 =>
                  .op true (binS .sub 2 (.const (.int .i64 3)) (.tmp 35) (.int .i64 3) t35) fun t36 =>
                  .op true (binS .add 2 (.tmp 33) (.tmp 36) t17 t36) fun t37 =>
                  .done .normal [t37]
                  )
                  (
                  .done .normal [t17]
                  )
                ) fun tv =>
              .done .normal [(tv.headD undef)]
              )
            ) fun tv_1 =>
          .done .normal [(tv_1.headD undef)]
          )
        ) fun tv_2 =>
      .done .normal [(tv_2.headD undef)]
      ) fun tv_3 =>
    .done .ret [(tv_3.headD undef)]
    )
def cx60 : Cx := { N := 39, res := [8], blk := [(0, [9])], cnd := [(19, [9]), (25, [9]), (31, [9])] }
theorem eq60 (a0 : Value) (a1 : Value) (a2 : Value) (a3 : Value) : comp cx60 (bodyC Try.f60) false [] (env0 0 [a0, a1, a2, a3]) (fun e => retP cx60 false e) = p60 a0 a1 a2 a3 := by kernel_rfl

/-- (*damper/drill.Dice).kind -/
def p61 (a0 : Value) (a1 : Value) : Prog :=
  .op false (callS (.func (.func 27) #[] #[]) [a0, (.int .i64 8)]) fun t7 =>
  .bind
    (
    .block 0 <|
    .op true (binS .eql 2 (.tmp 9) (.const (.int .i64 0)) t7 (.int .i64 0)) fun t10 =>
    .ite t10
      (
      .done .ret [(.int .i64 3)]
      )
      (
      .op true (binS .eql 2 (.tmp 12) (.const (.int .i64 1)) t7 (.int .i64 1)) fun t13 =>
      .ite t13
        (
        .done .ret [(.int .i64 5)]
        )
        (
        .bind
          (
          .op true (binS .eql 2 (.tmp 15) (.const (.int .i64 2)) t7 (.int .i64 2)) fun t16 =>
          .gop t16 true true ((pure (.value a1))) fun t18 =>
          .gop t16 true true (binS .eql 3 (.tmp 18) (.const (.int .i64 4)) t18 (.int .i64 4)) fun t19 =>
          .op true (pickS t16 t19 (.bool false)) fun t20 =>
          .done .normal [t20]
          ) fun tv =>
        .ite (tv.headD undef)
          (
          .done .ret [(.int .i64 2)]
          )
          (
          .done .normal [(.int .i64 0)]
          )
        )
      )
    ) fun tv_1 =>
  .done .ret [(.int .i64 1)]
def cx61 : Cx := { N := 21, res := [4], blk := [(0, [4])], reg := [(6, [14])] }
theorem eq61 (a0 : Value) (a1 : Value) : comp cx61 (bodyC Try.f61) false [] (env0 0 [a0, a1]) (fun e => retP cx61 false e) = p61 a0 a1 := by kernel_rfl

/-- damper/damperref07.Check -/
def p62 (a0 : Value) : Prog :=
  .op false (vS (Instr.box 53 a0)) fun t1 =>
  .bind
    (
    .op true (vS (Instr.fieldAt 53 t1 0)) fun t8 =>
    .op true (vS (Instr.loadAt 48 t8)) fun t9 =>
    .op true (bltS .len #[48] 3 #[false] [t9]) fun t10 =>
    .op true (binS .lss 3 (.tmp 10) (.const (.int .i64 1)) t10 (.int .i64 1)) fun t11 =>
    .gop t11 false true (vS (Instr.fieldAt 53 t1 0)) fun t13 =>
    .gop t11 false true (vS (Instr.loadAt 48 t13)) fun t14 =>
    .gop t11 false true (bltS .len #[48] 3 #[false] [t14]) fun t15 =>
    .gop t11 false true (binS .gtr 3 (.tmp 15) (.const (.int .i64 8)) t15 (.int .i64 8)) fun t16 =>
    .op true (pickS t11 (.bool true) t16) fun t17 =>
    .done .normal [t17]
    ) fun tv =>
  .ite (tv.headD undef)
    (
    .done .ret [(.int .i64 9), (.int .i64 0)]
    )
    (
    .bind
      (
      .block 0 <|
      .loop [(.int .i64 0), (.int .i64 0), (.int .i64 0)] fun tx =>
      .op true (vS (Instr.fieldAt 53 t1 0)) fun t19 =>
      .op true (vS (Instr.loadAt 48 t19)) fun t20 =>
      .op true (bltS .len #[48] 3 #[false] [t20]) fun t21 =>
      .op true (binS .lss 3 (.tmp 18) (.tmp 21) (tx.tail.tail.headD undef) t21) fun t22 =>
      .ite t22
        (
        .bind
          (
          .block 1 <|
          .op true (vS (Instr.fieldAt 53 t1 0)) fun t25 =>
          .op true (vS (Instr.loadAt 48 t25)) fun t26 =>
          .op true (vS (Instr.indexAt 48 t26 (tx.tail.tail.headD undef))) fun t28 =>
          .op true (vS (Instr.loadAt 123 t28)) fun t29 =>
          .op false (callS (.func (.func 88) #[] #[]) [t29]) fun t30 =>
          .op true (binS .neq 25 (.tmp 31) (.const (.int .i64 0)) t30 (.int .i64 0)) fun t32 =>
          .ite t32
            (
            .done .ret [t30, (tx.tail.tail.headD undef)]
            )
            (
            .done .normal [(tx.headD undef), (tx.tail.headD undef)]
            )
          ) fun tv_1 =>
        .op true (binS .add 3 (.tmp 23) (.const (.int .i64 1)) (tx.tail.tail.headD undef) (.int .i64 1)) fun t24 =>
        .done .normal [(tv_1.headD undef), (tv_1.tail.headD undef), t24]
        )
        (
        .done (.exit 0) [(tx.headD undef), (tx.tail.headD undef)]
        )
      ) fun tv_2 =>
    .bind
      (
      .op true (vS (Instr.fieldAt 53 t1 1)) fun t35 =>
      .op true (vS (Instr.loadAt 49 t35)) fun t36 =>
      .op true (bltS .len #[49] 3 #[false] [t36]) fun t37 =>
      .op true (binS .lss 3 (.tmp 37) (.const (.int .i64 1)) t37 (.int .i64 1)) fun t38 =>
      .gop t38 false true (vS (Instr.fieldAt 53 t1 1)) fun t40 =>
      .gop t38 false true (vS (Instr.loadAt 49 t40)) fun t41 =>
      .gop t38 false true (bltS .len #[49] 3 #[false] [t41]) fun t42 =>
      .gop t38 false true (binS .gtr 3 (.tmp 42) (.const (.int .i64 20)) t42 (.int .i64 20)) fun t43 =>
      .op true (pickS t38 (.bool true) t43) fun t44 =>
      .done .normal [t44]
      ) fun tv_3 =>
    .ite (tv_3.headD undef)
      (
      .done .ret [(.int .i64 9), (.int .i64 0)]
      )
      (
      .bind
        (
        .block 2 <|
        .loop [(tv_2.headD undef), (tv_2.tail.headD undef), (.int .i64 0)] fun tx_1 =>
        .op true (vS (Instr.fieldAt 53 t1 1)) fun t46 =>
        .op true (vS (Instr.loadAt 49 t46)) fun t47 =>
        .op true (bltS .len #[49] 3 #[false] [t47]) fun t48 =>
        .op true (binS .lss 3 (.tmp 45) (.tmp 48) (tx_1.tail.tail.headD undef) t48) fun t49 =>
        .ite t49
          (
          .bind
            (
            .block 3 <|
            .bind
              (
              .draw <|
              .op true (vS (Instr.fieldAt 53 t1 1)) fun t52 =>
              .op true (vS (Instr.loadAt 49 t52)) fun t53 =>
              .op true (vS (Instr.indexAt 49 t53 (tx_1.tail.tail.headD undef))) fun t55 =>
              .op true (vS (Instr.fieldAt 138 t55 0)) fun t56 =>
              .op true (vS (Instr.loadAt 2 t56)) fun t57 =>
              .op false (callS (.func (.func 89) #[] #[]) [t57, (.int .i64 0), (.int .i64 1125899906842624)]) fun t58 =>
              .op true (vS (Op.unary .not t58)) fun t59 =>
              .gop t59 false true ((pure (.value (tx_1.tail.tail.headD undef)))) fun t61 =>
              .gop t59 false true (binS .gtr 3 (.tmp 61) (.const (.int .i64 0)) t61 (.int .i64 0)) fun t62 =>
              .gop t59 false true ((pure (.value t62))) fun t63 =>
              .gop t63 true true (vS (Instr.fieldAt 53 t1 1)) fun t64 =>
              .gop t63 true true (vS (Instr.loadAt 49 t64)) fun t65 =>
              .gop t63 true true ((pure (.value (tx_1.tail.tail.headD undef)))) fun t66 =>
              .gop t63 true true (vS (Instr.indexAt 49 t65 t66)) fun t67 =>
              .gop t63 true true (vS (Instr.fieldAt 138 t67 0)) fun t68 =>
              .gop t63 true true (vS (Instr.loadAt 2 t68)) fun t69 =>
              .gop t63 true true (vS (Instr.fieldAt 53 t1 1)) fun t70 =>
              .gop t63 true true (vS (Instr.loadAt 49 t70)) fun t71 =>
              .gop t63 true true ((pure (.value (tx_1.tail.tail.headD undef)))) fun t72 =>
              .gop t63 true true (binS .sub 3 (.tmp 72) (.const (.int .i64 1)) t72 (.int .i64 1)) fun t73 =>
              .gop t63 true true (vS (Instr.indexAt 49 t71 t73)) fun t74 =>
              .gop t63 true true (vS (Instr.fieldAt 138 t74 0)) fun t75 =>
              .gop t63 true true (vS (Instr.loadAt 2 t75)) fun t76 =>
              .gop t63 true true (binS .leq 2 (.tmp 69) (.tmp 76) t69 t76) fun t77 =>
              .gop t59 false true (pickS t63 t77 (.bool false)) fun t78 =>
              .op true (pickS t59 (.bool true) t78) fun t79 =>
              .done .normal [t79]
              ) fun tv_4 =>
            .ite (tv_4.headD undef)
              (
              .done .ret [(.int .i64 9), (tx_1.tail.tail.headD undef)]
              )
              (
              .op true (vS (Instr.fieldAt 53 t1 1)) fun t81 =>
              .op true (vS (Instr.loadAt 49 t81)) fun t82 =>
              .op true (vS (Instr.indexAt 49 t82 (tx_1.tail.tail.headD undef))) fun t84 =>
              .op true (vS (Instr.fieldAt 138 t84 1)) fun t85 =>
              .op true (vS (Instr.loadAt 3 t85)) fun t86 =>
              .op false (callS (.func (.func 89) #[] #[]) [t86, (.int .i64 0), (.int .i64 2)]) fun t87 =>
              .op true (vS (Op.unary .not t87)) fun t88 =>
              .ite t88
                (
                .done .ret [(.int .i64 10), (tx_1.tail.tail.headD undef)]
                )
                (
                .done .normal [(tx_1.headD undef), (tx_1.tail.headD undef)]
                )
              )
            ) fun tv_5 =>
          .op true (binS .add 3 (.tmp 50) (.const (.int .i64 1)) (tx_1.tail.tail.headD undef) (.int .i64 1)) fun t51 =>
          .done .normal [(tv_5.headD undef), (tv_5.tail.headD undef), t51]
          )
          (
          .done (.exit 2) [(tx_1.headD undef), (tx_1.tail.headD undef)]
          )
        ) fun tv_6 =>
      .op true (vS (Instr.fieldAt 53 t1 2)) fun t90 =>
      .op true (vS (Instr.loadAt 2 t90)) fun t91 =>
      .op false (callS (.func (.func 89) #[] #[]) [t91, (.int .i64 1), (.int .i64 1099511627776)]) fun t92 =>
      .op true (vS (Op.unary .not t92)) fun t93 =>
      .ite t93
        (
        .done .ret [(.int .i64 9), (.int .i64 0)]
        )
        (
        .bind
          (
          .block 4 <|
          .loop [(tv_6.headD undef), (tv_6.tail.headD undef), (.int .i64 0)] fun tx_2 =>
          .op true (binS .lss 3 (.tmp 94) (.const (.int .i64 3)) (tx_2.tail.tail.headD undef) (.int .i64 3)) fun t95 =>
          .ite t95
            (
            .bind
              (
              .block 5 <|
              .bind
                (
                .draw <|
                .op true (vS (Instr.fieldAt 53 t1 3)) fun t99 =>
                .op true (vS (Instr.indexAt 50 t99 (tx_2.tail.tail.headD undef))) fun t100 =>
                .op true (vS (Instr.loadAt 3 t100)) fun t101 =>
                .op false (callS (.func (.func 89) #[] #[]) [t101, (.int .i64 1), (.int .i64 9999)]) fun t102 =>
                .op true (vS (Op.unary .not t102)) fun t103 =>
                .gop t103 false true ((pure (.value (tx_2.tail.tail.headD undef)))) fun t105 =>
                .gop t103 false true (binS .gtr 3 (.tmp 105) (.const (.int .i64 0)) t105 (.int .i64 0)) fun t106 =>
                .gop t103 false true ((pure (.value t106))) fun t107 =>
                .gop t107 true true ((pure (.value (tx_2.tail.tail.headD undef)))) fun t108 =>
                .gop t107 true true (vS (Instr.fieldAt 53 t1 3)) fun t109 =>
                .gop t107 true true (vS (Instr.indexAt 50 t109 t108)) fun t110 =>
                .gop t107 true true (vS (Instr.loadAt 3 t110)) fun t111 =>
                .gop t107 true true ((pure (.value (tx_2.tail.tail.headD undef)))) fun t112 =>
                .gop t107 true true (binS .sub 3 (.tmp 112) (.const (.int .i64 1)) t112 (.int .i64 1)) fun t113 =>
                .gop t107 true true (vS (Instr.fieldAt 53 t1 3)) fun t114 =>
                .gop t107 true true (vS (Instr.indexAt 50 t114 t113)) fun t115 =>
                .gop t107 true true (vS (Instr.loadAt 3 t115)) fun t116 =>
                .gop t107 true true (binS .leq 3 (.tmp 111) (.tmp 116) t111 t116) fun t117 =>
                .gop t103 false true (pickS t107 t117 (.bool false)) fun t118 =>
                .op true (pickS t103 (.bool true) t118) fun t119 =>
                .done .normal [t119]
                ) fun tv_7 =>
              .ite (tv_7.headD undef)
                (
                .done .ret [(.int .i64 9), (.int .i64 0)]
                )
                (
                .done .normal [(tx_2.headD undef), (tx_2.tail.headD undef)]
                )
              ) fun tv_8 =>
            .op true (binS .add 3 (.tmp 96) (.const (.int .i64 1)) (tx_2.tail.tail.headD undef) (.int .i64 1)) fun t97 =>
            .done .normal [(tv_8.headD undef), (tv_8.tail.headD undef), t97]
            )
            (
            .done (.exit 4) [(tx_2.headD undef), (tx_2.tail.headD undef)]
            )
          ) fun tv_9 =>
        .bind
          (
          .op true (vS (Instr.fieldAt 53 t1 4)) fun t120 =>
          .op true (vS (Instr.indexAt 51 t120 (.int .i64 0))) fun t121 =>
          .op true (vS (Instr.loadAt 2 t121)) fun t122 =>
          .op false (callS (.func (.func 90) #[] #[]) [t122]) fun t123 =>
          .op true (vS (Op.unary .not t123)) fun t124 =>
          .gop t124 false true (vS (Instr.fieldAt 53 t1 4)) fun t126 =>
          .gop t124 false true (vS (Instr.indexAt 51 t126 (.int .i64 1))) fun t127 =>
          .gop t124 false true (vS (Instr.loadAt 2 t127)) fun t128 =>
          .gop t124 false false (callS (.func (.func 90) #[] #[]) [t128]) fun t129 =>
          .gop t124 false true (vS (Op.unary .not t129)) fun t130 =>
          .op true (pickS t124 (.bool true) t130) fun t131 =>
          .done .normal [t131]
          ) fun tv_10 =>
        .ite (tv_10.headD undef)
          (
          .done .ret [(.int .i64 9), (.int .i64 0)]
          )
          (
          .done .ret [(.int .i64 0), (.int .i64 0)]
          )
        )
      )
    )
def cx62 : Cx := { N := 132, res := [2, 3], blk := [(0, [2, 3]), (1, [2, 3]), (2, [2, 3]), (3, [2, 3]), (4, [2, 3]), (5, [2, 3])], reg := [(1, [17]), (9, [44]), (14, [79]), (23, [119]), (25, [131])] }
theorem eq62 (a0 : Value) : comp cx62 (bodyC Try.f62) false [] (env0 0 [a0]) (fun e => retP cx62 false e) = p62 a0 := by kernel_rfl

/-- damper/damperref37.shift -/
def p63 (a0 : Value) (a1 : Value) (a2 : Value) (a3 : Value) : Prog :=
  .op true (binS .eql 3 (.tmp 10) (.const (.int .i64 4)) a1 (.int .i64 4)) fun t11 =>
  .ite t11
    (
    .op false (callS (.func (.func 28) #[] #[]) [a0, (.int .i64 81)]) fun t13 =>
    .op true (binS .sub 2 (.tmp 13) (.const (.int .i64 40)) t13 (.int .i64 40)) fun t14 =>
    .done .ret [t14]
    )
    (
    .op false (callS (.func (.func 28) #[] #[]) [a0, (.int .i64 9)]) fun t16 =>
    .op true (binS .sub 2 (.tmp 16) (.const (.int .i64 4)) t16 (.int .i64 4)) fun t17 =>
    .bind
      (
      .block 0 <|
      .op true (binS .eql 3 (.tmp 19) (.const (.int .i64 1)) a1 (.int .i64 1)) fun t20 =>
      .ite t20
        (
        .op true (binS .quo 3 (.tmp 22) (.const (.int .i64 4)) a2 (.int .i64 4)) fun t23 =>
        .op true (binS .sub 2 (.tmp 21) (.tmp 23) t17 t23) fun t24 =>
        .done .ret [t24]
        )
        (
        .op true (binS .eql 3 (.tmp 26) (.const (.int .i64 2)) a1 (.int .i64 2)) fun t27 =>
        .ite t27
          (
          .op true (binS .quo 3 (.tmp 29) (.const (.int .i64 4)) a2 (.int .i64 4)) fun t30 =>
          .op true (binS .add 2 (.tmp 28) (.tmp 30) t17 t30) fun t31 =>
          .done .ret [t31]
          )
          (
          .bind
            (
            .op true (binS .eql 3 (.tmp 33) (.const (.int .i64 3)) a1 (.int .i64 3)) fun t34 =>
            .gop t34 true true ((pure (.value a3))) fun t36 =>
            .gop t34 true true (binS .eql 3 (.tmp 36) (.const (.int .i64 0)) t36 (.int .i64 0)) fun t37 =>
            .op true (pickS t34 t37 (.bool false)) fun t38 =>
            .done .normal [t38]
            ) fun tv =>
          .ite (tv.headD undef)
            (
            .op true (binS .add 2 (.tmp 39) (.const (.int .i64 3)) t17 (.int .i64 3)) fun t40 =>
            .done .ret [t40]
            )
            (
            .op true (binS .eql 3 (.tmp 42) (.const (.int .i64 3)) a1 (.int .i64 3)) fun t43 =>
            .ite t43
              (
              .op true (binS .sub 2 (.tmp 44) (.const (.int .i64 3)) t17 (.int .i64 3)) fun t45 =>
              .done .ret [t45]
              )
              (
              .done .normal [(.int .i64 0)]
              )
            )
          )
        )
      ) fun tv_1 =>
    .done .ret [t17]
    )
def cx63 : Cx := { N := 47, res := [8], blk := [(0, [8])], reg := [(8, [32])] }
theorem eq63 (a0 : Value) (a1 : Value) (a2 : Value) (a3 : Value) : comp cx63 (bodyC Try.f63) false [] (env0 0 [a0, a1, a2, a3]) (fun e => retP cx63 false e) = p63 a0 a1 a2 a3 := by kernel_rfl

/-- (*damper/drill.Dice).other -/
def p64 (a0 : Value) (a1 : Value) (a2 : Value) (a3 : Value) (a4 : Value) : Prog :=
  .op false (vS (Instr.box 53 a1)) fun t6 =>
  .op false (vS (Instr.alloc 132 true (.tuple #[]))) fun t10 =>
  .op true (vS (Instr.fieldAt 53 t6 0)) fun t14 =>
  .op true (vS (Instr.loadAt 48 t14)) fun t15 =>
  .op true (vS (Instr.indexAt 48 t15 (.int .i64 0))) fun t16 =>
  .op true (vS (Instr.loadAt 123 t16)) fun t17 =>
  .op false (vS (Instr.alloc 123 true (.tuple #[]))) fun t11 =>
  .op false (uS (Instr.storeAt 123 t11 t17)) fun tu =>
  .bind
    (
    .block 0 <|
    .op true (binS .lss 2 (.tmp 19) (.const (.int .i64 8)) a4 (.int .i64 8)) fun t20 =>
    .ite t20
      (
      .op false (callS (.func (.func 27) #[] #[]) [a0, (.int .i64 3)]) fun t22 =>
      .op true (binS .add 2 (.tmp 22) (.const (.int .i64 1)) t22 (.int .i64 1)) fun t23 =>
      .op true (vS (Instr.build 132 #[(0, (.int .i64 2)), (2, t23)])) fun t24 =>
      .op false (uS (Instr.storeAt 132 t10 t24)) fun tu_1 =>
      .done .ret [t10]
      )
      (
      .op true (binS .eql 2 (.tmp 26) (.const (.int .i64 8)) a4 (.int .i64 8)) fun t27 =>
      .ite t27
        (
        .op true (binS .add 3 (.tmp 30) (.const (.int .i64 1)) a3 (.int .i64 1)) fun t31 =>
        .op false (callS (.func (.func 27) #[] #[]) [a0, t31]) fun t32 =>
        .op true (binS .add 2 (.tmp 32) (.const (.int .i64 1)) t32 (.int .i64 1)) fun t33 =>
        .op true (vS (Instr.build 62 #[(0, (.int .i64 2)), (2, t33)])) fun t34 =>
        .op false (callS (.func (.func 65) #[] #[]) [t34]) fun t35 =>
        .op true (vS (Instr.extract t35 0)) fun t36 =>
        .op true (vS (Instr.extract t35 1)) fun t37 =>
        .op false (vS (Instr.alloc 132 true (.tuple #[]))) fun t12 =>
        .op false (uS (Instr.storeAt 132 t12 t36)) fun tu_2 =>
        .op true (vS (Instr.loadAt 132 t12)) fun t38 =>
        .op false (uS (Instr.storeAt 132 t10 t38)) fun tu_3 =>
        .done .ret [t10]
        )
        (
        .bind
          (
          .op true (binS .eql 3 (.tmp 40) (.const (.int .i64 4)) a2 (.int .i64 4)) fun t41 =>
          .gop t41 true true ((pure (.value a3))) fun t43 =>
          .gop t41 true true (binS .rem 3 (.tmp 43) (.const (.int .i64 7)) t43 (.int .i64 7)) fun t44 =>
          .gop t41 true true (binS .eql 3 (.tmp 44) (.const (.int .i64 0)) t44 (.int .i64 0)) fun t45 =>
          .op true (pickS t41 t45 (.bool false)) fun t46 =>
          .done .normal [t46]
          ) fun tv =>
        .ite (tv.headD undef)
          (
          .draw <|
          .op true (vS (Instr.fieldAt 53 t6 2)) fun t47 =>
          .op true (vS (Instr.loadAt 2 t47)) fun t48 =>
          .op true (vS (Instr.fieldAt 53 t6 2)) fun t49 =>
          .op true (vS (Instr.loadAt 2 t49)) fun t50 =>
          .op true (binS .quo 2 (.tmp 50) (.const (.int .i64 100)) t50 (.int .i64 100)) fun t51 =>
          .op false (callS (.func (.func 27) #[] #[]) [a0, (.int .i64 25)]) fun t53 =>
          .chk none (binS .quo 2 (.tmp 50) (.const (.int .i64 100)) t50 (.int .i64 100)) t51 <|
          .chk none (vS (Instr.loadAt 2 t49)) t50 <|
          .chk none (vS (Instr.fieldAt 53 t6 2)) t49 <|
          .chk none (vS (Instr.loadAt 2 t47)) t48 <|
          .chk none (vS (Instr.fieldAt 53 t6 2)) t47 <|
          .op true (binS .mul 2 (.tmp 51) (.tmp 53) t51 t53) fun t54 =>
          .op true (binS .sub 2 (.tmp 48) (.tmp 54) t48 t54) fun t55 =>
          .op true (bltS .max #[2, 2] 2 #[false, true] [t55, (.int .i64 1)]) fun t56 =>
          .op true (vS (Instr.build 132 #[(0, (.int .i64 3)), (2, t56)])) fun t57 =>
          .op false (uS (Instr.storeAt 132 t10 t57)) fun tu_4 =>
          .done .ret [t10]
          )
          (
          .done .normal []
          )
        )
      )
    ) fun tv_1 =>
  .draw <|
  .op true (vS (Instr.fieldAt 123 t11 1)) fun t58 =>
  .op true (vS (Instr.loadAt 2 t58)) fun t59 =>
  .op true (vS (Instr.fieldAt 123 t11 0)) fun t60 =>
  .op true (vS (Instr.loadAt 2 t60)) fun t61 =>
  .op false (callS (.func (.func 27) #[] #[]) [a0, (.int .i64 5)]) fun t63 =>
  .chk none (vS (Instr.loadAt 2 t60)) t61 <|
  .chk none (vS (Instr.fieldAt 123 t11 0)) t60 <|
  .chk none (vS (Instr.loadAt 2 t58)) t59 <|
  .chk none (vS (Instr.fieldAt 123 t11 1)) t58 <|
  .op true (binS .mul 2 (.tmp 61) (.tmp 63) t61 t63) fun t64 =>
  .op true (binS .sub 2 (.tmp 59) (.tmp 64) t59 t64) fun t65 =>
  .op true (bltS .max #[2, 2] 2 #[false, true] [t65, (.int .i64 0)]) fun t66 =>
  .op true (vS (Instr.build 132 #[(0, (.int .i64 4)), (2, t66)])) fun t67 =>
  .op false (uS (Instr.storeAt 132 t10 t67)) fun tu_5 =>
  .done .ret [t10]
def cx64 : Cx := { N := 68, res := [10], reg := [(7, [39])] }
theorem eq64 (a0 : Value) (a1 : Value) (a2 : Value) (a3 : Value) (a4 : Value) : comp cx64 (bodyC Try.f64) false [] (env0 0 [a0, a1, a2, a3, a4]) (fun e => retP cx64 false e) = p64 a0 a1 a2 a3 a4 := by kernel_rfl

/-- damper/script.Of -/
def p65 (a0 : Value) : Prog :=
  .op false (vS (Instr.box 62 a0)) fun t1 =>
  .op false (vS (Instr.alloc 132 true (.tuple #[]))) fun t2 =>
  .op true (vS (Instr.loadAt 62 t1)) fun t7 =>
  .op false (callS (.func (.func 91) #[] #[]) [t7]) fun t8 =>
  .op true (vS (Instr.extract t8 0)) fun t9 =>
  .op true (vS (Instr.extract t8 1)) fun t10 =>
  .op true (binS .neq 25 (.tmp 11) (.const (.int .i64 0)) t10 (.int .i64 0)) fun t12 =>
  .ite t12
    (
    .op true (vS (Instr.build 132 #[])) fun t13 =>
    .op false (uS (Instr.storeAt 132 t2 t13)) fun tu =>
    .done .ret [t2, t10]
    )
    (
    .op true (vS (Instr.build 132 #[(0, (.int .i64 1)), (3, t9)])) fun t16 =>
    .op false (uS (Instr.storeAt 132 t2 t16)) fun tu_1 =>
    .done .ret [t2, t10]
    )
def cx65 : Cx := { N := 18, res := [2, 3] }
theorem eq65 (a0 : Value) : comp cx65 (bodyC Try.f65) false [] (env0 0 [a0]) (fun e => retP cx65 false e) = p65 a0 := by kernel_rfl

/-- damper/damperref29.Of -/
def p66 (a0 : Value) : Prog :=
  .op false (vS (Instr.box 62 a0)) fun t1 =>
  .op false (vS (Instr.alloc 132 true (.tuple #[]))) fun t2 =>
  .op true (vS (Instr.loadAt 62 t1)) fun t7 =>
  .op false (callS (.func (.func 92) #[] #[]) [t7]) fun t8 =>
  .op true (vS (Instr.extract t8 0)) fun t9 =>
  .op true (vS (Instr.extract t8 1)) fun t10 =>
  .op true (binS .neq 25 (.tmp 11) (.const (.int .i64 0)) t10 (.int .i64 0)) fun t12 =>
  .ite t12
    (
    .op true (vS (Instr.build 132 #[])) fun t13 =>
    .op false (uS (Instr.storeAt 132 t2 t13)) fun tu =>
    .done .ret [t2, t10]
    )
    (
    .op true (vS (Instr.build 132 #[(0, (.int .i64 1)), (3, t9)])) fun t16 =>
    .op false (uS (Instr.storeAt 132 t2 t16)) fun tu_1 =>
    .done .ret [t2, (.int .i64 0)]
    )
def cx66 : Cx := { N := 17, res := [2, 3] }
theorem eq66 (a0 : Value) : comp cx66 (bodyC Try.f66) false [] (env0 0 [a0]) (fun e => retP cx66 false e) = p66 a0 := by kernel_rfl

/-- slices.IndexFunc[[]damper/api.Row,damper/api.Row] -/
def p67 (a0 : Value) (a1 : Value) : Prog :=
  .op true (bltS .len #[49] 3 #[false] [a0]) fun t7 =>
  .bind
    (
    .block 0 <|
    .loop [(.int .i64 0), (.int .i64 0)] fun tx =>
    .op true (binS .lss 3 (.tmp 8) (.tmp 7) (tx.tail.headD undef) t7) fun t9 =>
    .ite t9
      (
      .bind
        (
        .block 1 <|
        .op true (vS (Instr.indexAt 49 a0 (tx.tail.headD undef))) fun t14 =>
        .op true (vS (Instr.loadAt 138 t14)) fun t15 =>
        .op false (callS a1 [t15]) fun t16 =>
        .ite t16
          (
          .done .ret [(tx.tail.headD undef)]
          )
          (
          .done .normal [(tx.headD undef)]
          )
        ) fun tv =>
      .op true (binS .add 3 (.tmp 8) (.const (.int .i64 1)) (tx.tail.headD undef) (.int .i64 1)) fun t18 =>
      .done .normal [(tv.headD undef), t18]
      )
      (
      .done (.exit 0) [(tx.headD undef)]
      )
    ) fun tv_1 =>
  .done .ret [(.int .i64 (-1))]
def cx67 : Cx := { N := 19, res := [4], blk := [(0, [4]), (1, [4])] }
theorem eq67 (a0 : Value) (a1 : Value) : comp cx67 (bodyC Try.f67) false [] (env0 0 [a0, a1]) (fun e => retP cx67 false e) = p67 a0 a1 := by kernel_rfl

/-- damper/drill.Start$1 -/
def p68 (a0 : Value) : Prog :=
  .op false (vS (Instr.box 138 a0)) fun t1 =>
  .op true (vS (Instr.fieldAt 138 t1 1)) fun t3 =>
  .op true (vS (Instr.loadAt 3 t3)) fun t4 =>
  .op true (binS .eql 3 (.tmp 4) (.const (.int .i64 2)) t4 (.int .i64 2)) fun t5 =>
  .done .ret [t5]
def cx68 : Cx := { N := 6, res := [2] }
theorem eq68 (a0 : Value) : comp cx68 (bodyC Try.f68) false [] (env0 0 [a0]) (fun e => retP cx68 false e) = p68 a0 := by kernel_rfl

/-- damper/damperref03.Same -/
def p69 (a0 : Value) (a1 : Value) : Prog :=
  .op true (vS (convert 130 9 a0)) fun t6 =>
  .op true (vS (convert 130 9 a1)) fun t8 =>
  .op true (binS .eql 9 (.tmp 6) (.tmp 8) t6 t8) fun t9 =>
  .done .ret [t9]
def cx69 : Cx := { N := 10, res := [4] }
theorem eq69 (a0 : Value) (a1 : Value) : comp cx69 (bodyC Try.f69) false [] (env0 0 [a0, a1]) (fun e => retP cx69 false e) = p69 a0 a1 := by kernel_rfl

/-- damper/config.Check -/
def p70 (a0 : Value) : Prog :=
  .op false (vS (Instr.box 53 a0)) fun t1 =>
  .op true (vS (Instr.fieldAt 53 t1 0)) fun t10 =>
  .op true (vS (Instr.loadAt 48 t10)) fun t11 =>
  .op true (bltS .len #[48] 3 #[false] [t11]) fun t12 =>
  .op false (vS (Instr.buildSlice 112 1 #[(0, t12)])) fun t13 =>
  .op false (callS (.func (.func 93) #[] #[]) [(.int .i64 1), (.int .i64 8), t13]) fun t14 =>
  .op true (vS (Op.unary .not t14)) fun t15 =>
  .ite t15
    (
    .done .ret [(.int .i64 9), (.int .i64 0)]
    )
    (
    .op true (vS (Instr.fieldAt 53 t1 0)) fun t16 =>
    .op true (vS (Instr.loadAt 48 t16)) fun t17 =>
    .op true (bltS .len #[48] 3 #[false] [t17]) fun t18 =>
    .bind
      (
      .block 0 <|
      .loop [(.int .i64 0), (.int .i64 0), (.int .i64 0)] fun tx =>
      .op true (binS .lss 3 (.tmp 19) (.tmp 18) (tx.tail.tail.headD undef) t18) fun t20 =>
      .ite t20
        (
        .bind
          (
          .block 1 <|
          .op true (vS (Instr.indexAt 48 t17 (tx.tail.tail.headD undef))) fun t22 =>
          .op true (vS (Instr.loadAt 123 t22)) fun t23 =>
          .op false (vS (Instr.alloc 123 true (.tuple #[]))) fun t5 =>
          .op false (uS (Instr.storeAt 123 t5 t23)) fun tu =>
          .op true (vS (Instr.loadAt 123 t5)) fun t24 =>
          .op false (callS (.func (.func 94) #[] #[]) [t24]) fun t25 =>
          .op true (binS .neq 25 (.tmp 26) (.const (.int .i64 0)) t25 (.int .i64 0)) fun t27 =>
          .ite t27
            (
            .done .ret [t25, (tx.tail.tail.headD undef)]
            )
            (
            .done .normal [(tx.headD undef), (tx.tail.headD undef)]
            )
          ) fun tv =>
        .op true (binS .add 3 (.tmp 19) (.const (.int .i64 1)) (tx.tail.tail.headD undef) (.int .i64 1)) fun t30 =>
        .done .normal [(tv.headD undef), (tv.tail.headD undef), t30]
        )
        (
        .done (.exit 0) [(tx.headD undef), (tx.tail.headD undef)]
        )
      ) fun tv_1 =>
    .op true (vS (Instr.fieldAt 53 t1 1)) fun t32 =>
    .op true (vS (Instr.loadAt 49 t32)) fun t33 =>
    .op false (callS (.func (.func 95) #[] #[]) [t33]) fun t34 =>
    .op true (vS (Instr.extract t34 0)) fun t35 =>
    .op true (vS (Instr.extract t34 1)) fun t36 =>
    .op true (binS .neq 25 (.tmp 37) (.const (.int .i64 0)) t35 (.int .i64 0)) fun t38 =>
    .ite t38
      (
      .done .ret [t35, t36]
      )
      (
      .op true (vS (Instr.build 168 #[(0, (.func (.func 98) #[] #[t1])), (1, (.int .i64 9))])) fun t43 =>
      .op true (vS (Instr.build 168 #[(0, (.func (.func 96) #[] #[t1])), (1, (.int .i64 9))])) fun t45 =>
      .op true (vS (Instr.build 168 #[(0, (.func (.func 99) #[] #[t1])), (1, (.int .i64 9))])) fun t47 =>
      .op false (vS (Instr.buildSlice 200 3 #[(0, t43), (1, t45), (2, t47)])) fun t48 =>
      .op false (callS (.func (.func 97) #[] #[]) [t48]) fun t49 =>
      .done .ret [t49, (.int .i64 0)]
      )
    )
def cx70 : Cx := { N := 50, res := [2, 3], blk := [(0, [2, 3]), (1, [2, 3])] }
theorem eq70 (a0 : Value) : comp cx70 (bodyC Try.f70) false [] (env0 0 [a0]) (fun e => retP cx70 false e) = p70 a0 := by kernel_rfl

/-- (*damper/watch.Watch).check -/
def p71 (a0 : Value) (a1 : Value) : Prog :=
  .op false (vS (Instr.box 74 a0)) fun t2 =>
  .op false (vS (Instr.box 46 a1)) fun t3 =>
  .op true (vS (Instr.loadAt 74 t2)) fun t7 =>
  .op true (vS (Instr.fieldAt 46 t3 1)) fun t8 =>
  .op true (vS (Instr.loadAt 3 t8)) fun t9 =>
  .op false (callS (.func (.func 72) #[] #[]) [t7, t9]) fun t10 =>
  .op false (vS (Instr.alloc 146 true (.tuple #[]))) fun t5 =>
  .op false (uS (Instr.storeAt 146 t5 t10)) fun tu =>
  .op true (vS (Instr.fieldAt 46 t3 0)) fun t11 =>
  .op true (vS (Instr.loadAt 3 t11)) fun t12 =>
  .op true (binS .eql 3 (.tmp 12) (.const (.int .i64 3)) t12 (.int .i64 3)) fun t13 =>
  .op false (vS (Instr.alloc 4 true (.tuple #[]))) fun t6 =>
  .op false (uS (Instr.storeAt 4 t6 t13)) fun tu_1 =>
  .op true (vS (Instr.build 171 #[(0, (.func (.func 101) #[] #[t3, t2])), (1, (.int .i64 4))])) fun t15 =>
  .op true (vS (Instr.build 171 #[(0, (.func (.func 102) #[] #[t2, t3])), (1, (.int .i64 15))])) fun t17 =>
  .op true (vS (Instr.build 171 #[(0, (.func (.func 104) #[] #[t5, t3])), (1, (.int .i64 5))])) fun t19 =>
  .op true (vS (Instr.build 171 #[(0, (.func (.func 106) #[] #[t6, t3])), (1, (.int .i64 9))])) fun t21 =>
  .op true (vS (Instr.build 171 #[(0, (.func (.func 107) #[] #[t6, t5, t3])), (1, (.int .i64 10))])) fun t23 =>
  .op true (vS (Instr.build 171 #[(0, (.func (.func 109) #[] #[t6, t5, t3])), (1, (.int .i64 11))])) fun t25 =>
  .op false (vS (Instr.buildSlice 201 6 #[(0, t15), (1, t17), (2, t19), (3, t21), (4, t23), (5, t25)])) fun t26 =>
  .op false (callS (.func (.func 100) #[] #[]) [t26]) fun t27 =>
  .done .ret [t27]
def cx71 : Cx := { N := 28, res := [4] }
theorem eq71 (a0 : Value) (a1 : Value) : comp cx71 (bodyC Try.f71) false [] (env0 0 [a0, a1]) (fun e => retP cx71 false e) = p71 a0 a1 := by kernel_rfl

/-- (*damper/watch.Watch).of -/
def p72 (a0 : Value) (a1 : Value) : Prog :=
  .bind
    (
    .op true (binS .eql 74 (.tmp 5) (.const (.pointer none)) a0 (.pointer none)) fun t6 =>
    .gop t6 false true ((pure (.value a1))) fun t8 =>
    .gop t6 false true (binS .lss 3 (.tmp 8) (.const (.int .i64 0)) t8 (.int .i64 0)) fun t9 =>
    .op true (pickS t6 (.bool true) t9) fun t10 =>
    .gop t10 false true ((pure (.value a1))) fun t12 =>
    .gop t10 false true ((pure (.value a0))) fun t13 =>
    .gop t10 false true (nilS t13) fun t14 =>
    .gop t10 false true (vS (Instr.fieldAt 143 t14 0)) fun t15 =>
    .gop t10 false true (vS (Instr.loadAt 141 t15)) fun t16 =>
    .gop t10 false true (bltS .len #[141] 3 #[false] [t16]) fun t17 =>
    .gop t10 false true (binS .geq 3 (.tmp 12) (.tmp 17) t12 t17) fun t18 =>
    .op true (pickS t10 (.bool true) t18) fun t19 =>
    .done .normal [t19]
    ) fun tv =>
  .ite (tv.headD undef)
    (
    .done .ret [(.pointer none)]
    )
    (
    .op true (nilS a0) fun t21 =>
    .op true (vS (Instr.fieldAt 143 t21 0)) fun t22 =>
    .op true (vS (Instr.loadAt 141 t22)) fun t23 =>
    .op true (vS (Instr.indexAt 141 t23 a1)) fun t25 =>
    .done .ret [t25]
    )
def cx72 : Cx := { N := 26, res := [4], reg := [(1, [19])] }
theorem eq72 (a0 : Value) (a1 : Value) : comp cx72 (bodyC Try.f72) false [] (env0 0 [a0, a1]) (fun e => retP cx72 false e) = p72 a0 a1 := by kernel_rfl

/-- (*damper/watch.Watch).level -/
def p73 (a0 : Value) (a1 : Value) : Prog :=
  .op false (vS (Instr.box 46 a1)) fun t3 =>
  .bind
    (
    .op true (vS (Instr.fieldAt 46 t3 8)) fun t6 =>
    .op true (vS (Instr.loadAt 3 t6)) fun t7 =>
    .op true (binS .neq 3 (.tmp 7) (.const (.int .i64 1)) t7 (.int .i64 1)) fun t8 =>
    .gop t8 true true (vS (Instr.fieldAt 46 t3 8)) fun t10 =>
    .gop t8 true true (vS (Instr.loadAt 3 t10)) fun t11 =>
    .gop t8 true true (binS .neq 3 (.tmp 11) (.const (.int .i64 2)) t11 (.int .i64 2)) fun t12 =>
    .op true (pickS t8 t12 (.bool false)) fun t13 =>
    .done .normal [t13]
    ) fun tv =>
  .ite (tv.headD undef)
    (
    .done .ret []
    )
    (
    .op true (nilS a0) fun t15 =>
    .op true (vS (Instr.fieldAt 143 t15 0)) fun t16 =>
    .op true (vS (Instr.loadAt 141 t16)) fun t17 =>
    .op true (bltS .len #[141] 3 #[false] [t17]) fun t18 =>
    .bind
      (
      .block 0 <|
      .loop [(.int .i64 0)] fun tx =>
      .op true (binS .lss 3 (.tmp 19) (.tmp 18) (tx.headD undef) t18) fun t20 =>
      .ite t20
        (
        .bind
          (
          .block 1 <|
          .op true (nilS a0) fun t23 =>
          .op true (vS (Instr.fieldAt 143 t23 0)) fun t24 =>
          .op true (vS (Instr.loadAt 141 t24)) fun t25 =>
          .op true (vS (Instr.indexAt 141 t25 (tx.headD undef))) fun t27 =>
          .op true (nilS t27) fun t29 =>
          .op true (vS (Instr.fieldAt 145 t29 4)) fun t30 =>
          .op true (vS (Instr.loadAt 2 t30)) fun t31 =>
          .op true (binS .neq 2 (.tmp 31) (.const (.int .i64 0)) t31 (.int .i64 0)) fun t32 =>
          .bind
            (
            .ite t32
              (
              .draw <|
              .op true (nilS t27) fun t34 =>
              .op true (vS (Instr.fieldAt 145 t34 4)) fun t35 =>
              .op true (vS (Instr.loadAt 2 t35)) fun t36 =>
              .op true (vS (Instr.fieldAt 46 t3 7)) fun t37 =>
              .op true (vS (Instr.loadAt 2 t37)) fun t38 =>
              .op true (binS .add 2 (.tmp 36) (.tmp 38) t36 t38) fun t39 =>
              .op true (nilS t27) fun t40 =>
              .op true (vS (Instr.fieldAt 145 t40 4)) fun t41 =>
              .op false (uS (Instr.storeAt 2 t41 t39)) fun tu =>
              .done .normal []
              )
              (
              .done .normal []
              )
            ) fun tv_1 =>
          .done .normal []
          ) fun tv_2 =>
        .op true (binS .add 3 (.tmp 19) (.const (.int .i64 1)) (tx.headD undef) (.int .i64 1)) fun t42 =>
        .done .normal [t42]
        )
        (
        .done (.exit 0) []
        )
      ) fun tv_3 =>
    .done .ret []
    )
def cx73 : Cx := { N := 43, res := [], reg := [(1, [13])] }
theorem eq73 (a0 : Value) (a1 : Value) : comp cx73 (bodyC Try.f73) false [] (env0 0 [a0, a1]) (fun e => retP cx73 false e) = p73 a0 a1 := by kernel_rfl

/-- (*damper/watch.known).status -/
def p74 (a0 : Value) (a1 : Value) : Prog :=
  .op false (vS (Instr.box 46 a1)) fun t3 =>
  .op true (vS (Instr.fieldAt 46 t3 8)) fun t5 =>
  .op true (vS (Instr.loadAt 3 t5)) fun t6 =>
  .op true (nilS a0) fun t7 =>
  .op true (vS (Instr.fieldAt 145 t7 1)) fun t8 =>
  .op false (uS (Instr.storeAt 3 t8 t6)) fun tu =>
  .op true (vS (Instr.fieldAt 46 t3 8)) fun t9 =>
  .op true (vS (Instr.loadAt 3 t9)) fun t10 =>
  .bind
    (
    .block 0 <|
    .op true (binS .eql 3 (.tmp 10) (.const (.int .i64 3)) t10 (.int .i64 3)) fun t15 =>
    .bind
      (
      .ite t15
        (
        .draw <|
        .op true (vS (Instr.fieldAt 46 t3 3)) fun t17 =>
        .op true (vS (Instr.loadAt 2 t17)) fun t18 =>
        .op true (nilS a0) fun t20 =>
        .op true (vS (Instr.fieldAt 145 t20 0)) fun t21 =>
        .op true (vS (Instr.loadAt 123 t21)) fun t22 =>
        .op false (callS (.func (.func 111) #[] #[]) [t22]) fun t23 =>
        .chk none (vS (Instr.loadAt 2 t17)) t18 <|
        .chk none (vS (Instr.fieldAt 46 t3 3)) t17 <|
        .op true (binS .add 2 (.tmp 18) (.tmp 23) t18 t23) fun t24 =>
        .op true (nilS a0) fun t25 =>
        .op true (vS (Instr.fieldAt 145 t25 4)) fun t26 =>
        .op false (uS (Instr.storeAt 2 t26 t24)) fun tu_1 =>
        .done .normal []
        )
        (
        .op true (binS .eql 3 (.tmp 10) (.const (.int .i64 4)) t10 (.int .i64 4)) fun t28 =>
        .bind
          (
          .ite t28
            (
            .done .normal [t28]
            )
            (
            .op true (binS .eql 3 (.tmp 10) (.const (.int .i64 5)) t10 (.int .i64 5)) fun t29 =>
            .done .normal [t29]
            )
          ) fun tv =>
        .bind
          (
          .ite (tv.headD undef)
            (
            .done .normal [(tv.headD undef)]
            )
            (
            .op true (nilS a0) fun t12 =>
            .op true (vS (Instr.fieldAt 145 t12 4)) fun t13 =>
            .op false (uS (Instr.storeAt 2 t13 (.int .i64 0))) fun tu_2 =>
            .done .normal [(tv.headD undef)]
            )
          ) fun tv_1 =>
        .done .normal []
        )
      ) fun tv_2 =>
    .done .normal []
    ) fun tv_3 =>
  .done .ret []
def cx74 : Cx := { N := 30, res := [], cnd := [(27, [27])] }
theorem eq74 (a0 : Value) (a1 : Value) : comp cx74 (bodyC Try.f74) false [] (env0 0 [a0, a1]) (fun e => retP cx74 false e) = p74 a0 a1 := by kernel_rfl

/-- (*damper/damperref32.Watch).Check -/
def p75 (a0 : Value) (a1 : Value) : Prog :=
  .op false (vS (Instr.box 46 a1)) fun t3 =>
  .bind
    (
    .draw <|
    .op true (vS (Instr.fieldAt 46 t3 2)) fun t5 =>
    .op true (vS (Instr.loadAt 2 t5)) fun t6 =>
    .op true (binS .sub 2 (.tmp 6) (.const (.int .i64 1)) t6 (.int .i64 1)) fun t7 =>
    .op true (nilS a0) fun t9 =>
    .op true (vS (Instr.fieldAt 83 t9 2)) fun t10 =>
    .op true (vS (Instr.loadAt 2 t10)) fun t11 =>
    .op true (binS .neq 2 (.tmp 7) (.tmp 11) t7 t11) fun t12 =>
    .gop t12 false true (vS (Instr.fieldAt 46 t3 2)) fun t14 =>
    .gop t12 false true (vS (Instr.loadAt 2 t14)) fun t15 =>
    .gop t12 false true (binS .lss 2 (.tmp 15) (.const (.int .i64 1)) t15 (.int .i64 1)) fun t16 =>
    .op true (pickS t12 (.bool true) t16) fun t17 =>
    .done .normal [t17]
    ) fun tv =>
  .ite (tv.headD undef)
    (
    .done .ret [(.int .i64 4)]
    )
    (
    .op true (vS (Instr.fieldAt 46 t3 3)) fun t19 =>
    .op true (vS (Instr.loadAt 2 t19)) fun t20 =>
    .op false (callS (.func (.func 112) #[] #[]) [a0, t20]) fun t21 =>
    .ite t21
      (
      .done .ret [(.int .i64 15)]
      )
      (
      .bind
        (
        .draw <|
        .op true (vS (Instr.fieldAt 46 t3 1)) fun t22 =>
        .op true (vS (Instr.loadAt 3 t22)) fun t23 =>
        .op true (binS .lss 3 (.tmp 23) (.const (.int .i64 0)) t23 (.int .i64 0)) fun t24 =>
        .gop t24 false true (vS (Instr.fieldAt 46 t3 1)) fun t26 =>
        .gop t24 false true (vS (Instr.loadAt 3 t26)) fun t27 =>
        .gop t24 false true ((pure (.value a0))) fun t28 =>
        .gop t24 false true (nilS t28) fun t29 =>
        .gop t24 false true (vS (Instr.fieldAt 83 t29 1)) fun t30 =>
        .gop t24 false true (vS (Instr.loadAt 81 t30)) fun t31 =>
        .gop t24 false true (bltS .len #[81] 3 #[false] [t31]) fun t32 =>
        .gop t24 false true (binS .geq 3 (.tmp 27) (.tmp 32) t27 t32) fun t33 =>
        .op true (pickS t24 (.bool true) t33) fun t34 =>
        .done .normal [t34]
        ) fun tv_1 =>
      .ite (tv_1.headD undef)
        (
        .bind
          (
          .op true (vS (Instr.fieldAt 46 t3 0)) fun t35 =>
          .op true (vS (Instr.loadAt 3 t35)) fun t36 =>
          .op true (binS .eql 3 (.tmp 36) (.const (.int .i64 2)) t36 (.int .i64 2)) fun t37 =>
          .gop t37 false true (vS (Instr.fieldAt 46 t3 0)) fun t39 =>
          .gop t37 false true (vS (Instr.loadAt 3 t39)) fun t40 =>
          .gop t37 false true (binS .eql 3 (.tmp 40) (.const (.int .i64 9)) t40 (.int .i64 9)) fun t41 =>
          .op true (pickS t37 (.bool true) t41) fun t42 =>
          .done .normal [t42]
          ) fun tv_2 =>
        .ite (tv_2.headD undef)
          (
          .done .ret [(.int .i64 0)]
          )
          (
          .done .ret [(.int .i64 5)]
          )
        )
        (
        .op true (vS (Instr.fieldAt 46 t3 0)) fun t43 =>
        .op true (vS (Instr.loadAt 3 t43)) fun t44 =>
        .op true (binS .eql 3 (.tmp 44) (.const (.int .i64 3)) t44 (.int .i64 3)) fun t45 =>
        .ite t45
          (
          .draw <|
          .op true (nilS a0) fun t47 =>
          .op true (vS (Instr.fieldAt 83 t47 1)) fun t48 =>
          .op true (vS (Instr.loadAt 81 t48)) fun t49 =>
          .op true (vS (Instr.fieldAt 46 t3 1)) fun t50 =>
          .op true (vS (Instr.loadAt 3 t50)) fun t51 =>
          .op true (vS (Instr.indexAt 81 t49 t51)) fun t52 =>
          .op true (vS (Instr.loadAt 88 t52)) fun t53 =>
          .op true (vS (Instr.loadAt 46 t3)) fun t54 =>
          .op false (callS (.func (.func 113) #[] #[]) [t53, t54]) fun t55 =>
          .done .ret [t55]
          )
          (
          .done .ret [(.int .i64 0)]
          )
        )
      )
    )
def cx75 : Cx := { N := 56, res := [4], reg := [(1, [17]), (5, [34]), (6, [42])] }
theorem eq75 (a0 : Value) (a1 : Value) : comp cx75 (bodyC Try.f75) false [] (env0 0 [a0, a1]) (fun e => retP cx75 false e) = p75 a0 a1 := by kernel_rfl

/-- damper/damperref07.Bound -/
def p76 (a0 : Value) : Prog :=
  .op false (vS (Instr.box 123 a0)) fun t1 =>
  .op true (vS (Instr.loadAt 123 t1)) fun t3 =>
  .op false (callS (.func (.func 88) #[] #[]) [t3]) fun t4 =>
  .op true (binS .neq 25 (.tmp 4) (.const (.int .i64 0)) t4 (.int .i64 0)) fun t5 =>
  .ite t5
    (
    .done .ret [(.int .i64 0)]
    )
    (
    .op true (vS (Instr.fieldAt 123 t1 7)) fun t6 =>
    .op true (vS (Instr.loadAt 2 t6)) fun t7 =>
    .op true (vS (Instr.fieldAt 123 t1 8)) fun t8 =>
    .op true (vS (Instr.loadAt 2 t8)) fun t9 =>
    .op true (vS (Instr.fieldAt 123 t1 9)) fun t10 =>
    .op true (vS (Instr.loadAt 3 t10)) fun t11 =>
    .op true (binS .add 3 (.tmp 11) (.const (.int .i64 1)) t11 (.int .i64 1)) fun t12 =>
    .op true (binS .mul 2 (.tmp 9) (.tmp 12) t9 t12) fun t13 =>
    .op true (binS .add 2 (.tmp 7) (.tmp 13) t7 t13) fun t14 =>
    .done .ret [t14]
    )
def cx76 : Cx := { N := 15, res := [2] }
theorem eq76 (a0 : Value) : comp cx76 (bodyC Try.f76) false [] (env0 0 [a0]) (fun e => retP cx76 false e) = p76 a0 := by kernel_rfl

/-- damper/tape.counts$1 -/
def p77 (a0 : Value) (a1 : Value) (a2 : Value) : Prog :=
  .op true (vS (Instr.loadAt 22 a1)) fun t7 =>
  .op true (bltS .len #[22] 3 #[false] [t7]) fun t8 =>
  .bind
    (
    .block 0 <|
    .loop [(.int .i64 0)] fun tx =>
    .op true (binS .lss 3 (.tmp 9) (.tmp 8) (tx.headD undef) t8) fun t10 =>
    .ite t10
      (
      .bind
        (
        .block 1 <|
        .op true (vS (Instr.indexAt 22 t7 (tx.headD undef))) fun t11 =>
        .op true (vS (Instr.loadAt 46 t11)) fun t12 =>
        .op false (vS (Instr.alloc 46 true (.tuple #[]))) fun t5 =>
        .op false (uS (Instr.storeAt 46 t5 t12)) fun tu =>
        .bind
          (
          .op true (vS (Instr.fieldAt 46 t5 0)) fun t13 =>
          .op true (vS (Instr.loadAt 3 t13)) fun t14 =>
          .op true (binS .eql 3 (.tmp 14) (.const (.int .i64 3)) t14 (.int .i64 3)) fun t15 =>
          .gop t15 true true (vS (Instr.fieldAt 46 t5 1)) fun t17 =>
          .gop t15 true true (vS (Instr.loadAt 3 t17)) fun t18 =>
          .gop t15 true true (vS (Instr.loadAt 3 a2)) fun t19 =>
          .gop t15 true true (binS .eql 3 (.tmp 18) (.tmp 19) t18 t19) fun t20 =>
          .op true (pickS t15 t20 (.bool false)) fun t21 =>
          .gop t21 true true (vS (Instr.fieldAt 46 t5 3)) fun t23 =>
          .gop t21 true true (vS (Instr.loadAt 2 t23)) fun t24 =>
          .gop t21 true true (binS .geq 2 (.tmp 24) (.const (.int .i64 0)) t24 (.int .i64 0)) fun t25 =>
          .op true (pickS t21 t25 (.bool false)) fun t26 =>
          .done .normal [t26]
          ) fun tv =>
        .bind
          (
          .gop (tv.headD undef) true true (vS (Instr.fieldAt 46 t5 6)) fun t29 =>
          .gop (tv.headD undef) true true (vS (Instr.loadAt 2 t29)) fun t30 =>
          .gop (tv.headD undef) true false (callS (.func (.func 78) #[] #[]) [t30, (.int .i64 1)]) fun t31 =>
          .gop (tv.headD undef) true true (binS .eql 25 (.tmp 31) (.const (.int .i64 0)) t31 (.int .i64 0)) fun t32 =>
          .op true (pickS (tv.headD undef) t32 (.bool false)) fun t33 =>
          .gop t33 true true (vS (Instr.fieldAt 46 t5 7)) fun t35 =>
          .gop t33 true true (vS (Instr.loadAt 2 t35)) fun t36 =>
          .gop t33 true false (callS (.func (.func 79) #[] #[]) [t36]) fun t37 =>
          .gop t33 true true (binS .eql 25 (.tmp 37) (.const (.int .i64 0)) t37 (.int .i64 0)) fun t38 =>
          .op true (pickS t33 t38 (.bool false)) fun t39 =>
          .gop t39 true true ((pure (.value a0))) fun t41 =>
          .gop t39 true true (vS (Instr.loadAt 46 t5)) fun t42 =>
          .gop t39 true false (callS t41 [t42]) fun t43 =>
          .gop t39 true true (vS (Op.unary .not t43)) fun t44 =>
          .op true (pickS t39 t44 (.bool false)) fun t45 =>
          .done .normal [t45]
          ) fun tv_1 =>
        .ite (tv_1.headD undef)
          (
          .done .ret []
          )
          (
          .done .normal []
          )
        ) fun tv_2 =>
      .op true (binS .add 3 (.tmp 9) (.const (.int .i64 1)) (tx.headD undef) (.int .i64 1)) fun t46 =>
      .done .normal [t46]
      )
      (
      .done (.exit 0) []
      )
    ) fun tv_3 =>
  .done .ret []
def cx77 : Cx := { N := 47, res := [], reg := [(3, [6]), (4, [45])] }
theorem eq77 (a0 : Value) (a1 : Value) (a2 : Value) : comp cx77 (bodyC Try.f77) false [] (env0 0 [a0, a1, a2]) (fun e => retP cx77 false e) = p77 a0 a1 a2 := by kernel_rfl

/-- damper/fix.Price -/
def p78 (a0 : Value) (a1 : Value) : Prog :=
  .bind
    (
    .block 0 <|
    .op true (binS .lss 2 (.tmp 6) (.const (.int .i64 1)) a1 (.int .i64 1)) fun t7 =>
    .ite t7
      (
      .done .ret [(.int .i64 1)]
      )
      (
      .bind
        (
        .op true (binS .lss 2 (.tmp 9) (.const (.int .i64 1)) a0 (.int .i64 1)) fun t10 =>
        .gop t10 false true ((pure (.value a0))) fun t12 =>
        .gop t10 false true (binS .gtr 2 (.tmp 12) (.const (.int .i64 1099511627776)) t12 (.int .i64 1099511627776)) fun t13 =>
        .op true (pickS t10 (.bool true) t13) fun t14 =>
        .done .normal [t14]
        ) fun tv =>
      .ite (tv.headD undef)
        (
        .done .ret [(.int .i64 9)]
        )
        (
        .op false (callS (.func (.func 85) #[] #[]) [a0, a1]) fun t18 =>
        .op true (binS .neq 2 (.tmp 18) (.tmp 19) t18 a0) fun t20 =>
        .ite t20
          (
          .done .ret [(.int .i64 8)]
          )
          (
          .done .normal [(.int .i64 0)]
          )
        )
      )
    ) fun tv_1 =>
  .done .ret [(.int .i64 0)]
def cx78 : Cx := { N := 21, res := [4], blk := [(0, [4])], reg := [(3, [8])] }
theorem eq78 (a0 : Value) (a1 : Value) : comp cx78 (bodyC Try.f78) false [] (env0 0 [a0, a1]) (fun e => retP cx78 false e) = p78 a0 a1 := by kernel_rfl

/-- damper/fix.Qty -/
def p79 (a0 : Value) : Prog :=
  .op false (vS (Instr.box 2 a0)) fun t1 =>
  .op false (callS (.func (.func 114) #[] #[t1]) [(.int .i64 1), (.int .i64 4294967296)]) fun t6 =>
  .op true (vS (Op.unary .not t6)) fun t7 =>
  .ite t7
    (
    .done .ret [(.int .i64 9)]
    )
    (
    .done .ret [(.int .i64 0)]
    )
def cx79 : Cx := { N := 8, res := [2] }
theorem eq79 (a0 : Value) : comp cx79 (bodyC Try.f79) false [] (env0 0 [a0]) (fun e => retP cx79 false e) = p79 a0 := by kernel_rfl

/-- damper/damperref34.mean -/
def p80 (a0 : Value) (a1 : Value) : Prog :=
  .op false (vS (Instr.alloc 176 true (.tuple #[]))) fun t5 =>
  .bind
    (
    .block 0 <|
    .loop [(.int .u64 0), (.int .i64 0)] fun tx =>
    .op true (bltS .len #[112] 3 #[false] [a0]) fun t14 =>
    .op true (binS .lss 3 (.tmp 12) (.tmp 14) (tx.tail.headD undef) t14) fun t15 =>
    .ite t15
      (
      .bind
        (
        .block 1 <|
        .draw <|
        .op true (vS (Instr.loadAt 176 t5)) fun t19 =>
        .op true (vS (Instr.indexAt 112 a0 (tx.tail.headD undef))) fun t22 =>
        .op true (vS (Instr.loadAt 2 t22)) fun t23 =>
        .op true (vS (convert 2 54 t23)) fun t24 =>
        .op true (vS (Instr.indexAt 112 a1 (tx.tail.headD undef))) fun t27 =>
        .op true (vS (Instr.loadAt 2 t27)) fun t28 =>
        .op true (vS (convert 2 54 t28)) fun t29 =>
        .op false (callS (.func (.func 116) #[] #[]) [t24, t29]) fun t30 =>
        .chk none (vS (Instr.loadAt 176 t5)) t19 <|
        .op false (callS (.func (.func 115) #[] #[]) [t19, t30]) fun t31 =>
        .op true (vS (Instr.extract t31 0)) fun t32 =>
        .op true (vS (Instr.extract t31 1)) fun t33 =>
        .op false (uS (Instr.storeAt 176 t5 t32)) fun tu =>
        .chk none (vS (Instr.extract t31 1)) t33 <|
        .op true (vS (Instr.indexAt 112 a1 (tx.tail.headD undef))) fun t37 =>
        .op true (vS (Instr.loadAt 2 t37)) fun t38 =>
        .op true (vS (convert 2 54 t38)) fun t39 =>
        .op true (binS .add 54 (.tmp 34) (.tmp 39) (tx.headD undef) t39) fun t40 =>
        .done .normal [t40]
        ) fun tv =>
      .op true (binS .add 3 (.tmp 16) (.const (.int .i64 1)) (tx.tail.headD undef) (.int .i64 1)) fun t17 =>
      .done .normal [(tv.headD undef), t17]
      )
      (
      .done (.exit 0) [(tx.headD undef)]
      )
    ) fun tv_1 =>
  .op true (vS (Instr.loadAt 176 t5)) fun t42 =>
  .op false (callS (.func (.func 117) #[] #[]) [t42, (tv_1.headD undef)]) fun t44 =>
  .op true (vS (Instr.extract t44 0)) fun t45 =>
  .op true (vS (Instr.extract t44 1)) fun t46 =>
  .op false (vS (Instr.alloc 176 true (.tuple #[]))) fun t8 =>
  .op false (vS (Instr.alloc 176 true (.tuple #[]))) fun t9 =>
  .op false (uS (Instr.storeAt 176 t8 t45)) fun tu_1 =>
  .op false (uS (Instr.storeAt 176 t9 t46)) fun tu_2 =>
  .op true (vS (Instr.loadAt 176 t8)) fun t48 =>
  .op false (callS (.func (.func 118) #[] #[]) [t48]) fun t49 =>
  .op true (vS (Instr.extract t49 0)) fun t50 =>
  .op true (vS (Instr.extract t49 1)) fun t51 =>
  .op true (vS (convert 54 2 t51)) fun t53 =>
  .done .ret [t53]
def cx80 : Cx := { N := 54, res := [4], blk := [(0, [6]), (1, [6])] }
theorem eq80 (a0 : Value) (a1 : Value) : comp cx80 (bodyC Try.f80) false [] (env0 0 [a0, a1]) (fun e => retP cx80 false e) = p80 a0 a1 := by kernel_rfl

/-- (damper/wide.Wide).Div -/
def p81 (a0 : Value) (a1 : Value) : Prog :=
  .op false (vS (Instr.box 98 a0)) fun t2 =>
  .op false (vS (Instr.alloc 98 true (.tuple #[]))) fun t4 =>
  .op true (binS .eql 54 (.tmp 10) (.const (.int .u64 0)) a1 (.int .u64 0)) fun t11 =>
  .ite t11
    (
    .op true (vS (Instr.loadAt 98 t4)) fun t12 =>
    .op false (uS (Instr.storeAt 98 t4 t12)) fun tu =>
    .done .ret [t4, (.int .u64 0), (.bool false)]
    )
    (
    .op true (vS (Instr.loadAt 98 t2)) fun t13 =>
    .op false (callS (.func (.func 119) #[] #[]) [t13]) fun t14 =>
    .op true (binS .sub 3 (.tmp 14) (.const (.int .i64 1)) t14 (.int .i64 1)) fun t15 =>
    .bind
      (
      .block 0 <|
      .loop [(.int .u64 0), t15] fun tx =>
      .op true (binS .geq 3 (.tmp 16) (.const (.int .i64 0)) (tx.tail.headD undef) (.int .i64 0)) fun t17 =>
      .ite t17
        (
        .bind
          (
          .block 1 <|
          .op true (binS .shr 54 (.tmp 20) (.const (.int .u64 63)) (tx.headD undef) (.int .u64 63)) fun t21 =>
          .op true (binS .eql 54 (.tmp 21) (.const (.int .u64 1)) t21 (.int .u64 1)) fun t22 =>
          .op true (binS .shl 54 (.tmp 23) (.const (.int .u64 1)) (tx.headD undef) (.int .u64 1)) fun t24 =>
          .op true (vS (Instr.loadAt 98 t2)) fun t25 =>
          .op false (callS (.func (.func 120) #[] #[]) [t25, (tx.tail.headD undef)]) fun t27 =>
          .op true (vS (Instr.field 98 t27 1)) fun t28 =>
          .op true (binS .and 54 (.tmp 28) (.const (.int .u64 1)) t28 (.int .u64 1)) fun t29 =>
          .op true (binS .or 54 (.tmp 24) (.tmp 29) t24 t29) fun t30 =>
          .bind
            (
            .op true (vS (Op.unary .not t22)) fun t32 =>
            .gop t32 true true ((pure (.value t30))) fun t34 =>
            .gop t32 true true ((pure (.value a1))) fun t35 =>
            .gop t32 true true (binS .lss 54 (.tmp 34) (.tmp 35) t34 t35) fun t36 =>
            .op true (pickS t32 t36 (.bool false)) fun t37 =>
            .done .normal [t37]
            ) fun tv =>
          .ite (tv.headD undef)
            (
            .done (.exit 1) [t30]
            )
            (
            .op true (binS .sub 54 (.tmp 38) (.tmp 39) t30 a1) fun t40 =>
            .op true (vS (Instr.build 98 #[(0, (.int .u64 0)), (1, (.int .u64 1))])) fun t41 =>
            .op false (callS (.func (.func 121) #[] #[]) [t41, (tx.tail.headD undef)]) fun t43 =>
            .op false (vS (Instr.alloc 98 true (.tuple #[]))) fun t9 =>
            .op false (uS (Instr.storeAt 98 t9 t43)) fun tu_1 =>
            .op true (vS (Instr.fieldAt 98 t4 0)) fun t44 =>
            .op true (vS (Instr.loadAt 54 t44)) fun t45 =>
            .op true (vS (Instr.fieldAt 98 t9 0)) fun t46 =>
            .op true (vS (Instr.loadAt 54 t46)) fun t47 =>
            .op true (binS .or 54 (.tmp 45) (.tmp 47) t45 t47) fun t48 =>
            .op true (vS (Instr.fieldAt 98 t4 1)) fun t49 =>
            .op true (vS (Instr.loadAt 54 t49)) fun t50 =>
            .op true (vS (Instr.fieldAt 98 t9 1)) fun t51 =>
            .op true (vS (Instr.loadAt 54 t51)) fun t52 =>
            .op true (binS .or 54 (.tmp 50) (.tmp 52) t50 t52) fun t53 =>
            .op true (vS (Instr.build 98 #[(0, t48), (1, t53)])) fun t54 =>
            .op false (uS (Instr.storeAt 98 t4 t54)) fun tu_2 =>
            .done .normal [t40]
            )
          ) fun tv_1 =>
        .op true (binS .sub 3 (.tmp 18) (.const (.int .i64 1)) (tx.tail.headD undef) (.int .i64 1)) fun t19 =>
        .done .normal [(tv_1.headD undef), t19]
        )
        (
        .done (.exit 0) [(tx.headD undef)]
        )
      ) fun tv_2 =>
    .op true (vS (Instr.loadAt 98 t4)) fun t55 =>
    .op false (uS (Instr.storeAt 98 t4 t55)) fun tu_3 =>
    .done .ret [t4, (tv_2.headD undef), (.bool true)]
    )
def cx81 : Cx := { N := 57, res := [4, 5, 6], blk := [(0, [5]), (1, [5])], reg := [(8, [37])] }
theorem eq81 (a0 : Value) (a1 : Value) : comp cx81 (bodyC Try.f81) false [] (env0 0 [a0, a1]) (fun e => retP cx81 false e) = p81 a0 a1 := by kernel_rfl

/-- slices.Collect[int64] -/
def p82 (a0 : Value) : Prog :=
  .op false (callS (.func (.func 122) #[] #[]) [(.slice none 0 0), a0]) fun t4 =>
  .done .ret [t4]
def cx82 : Cx := { N := 5, res := [2] }
theorem eq82 (a0 : Value) : comp cx82 (bodyC Try.f82) false [] (env0 0 [a0]) (fun e => retP cx82 false e) = p82 a0 := by kernel_rfl

/-- slices.Sort[[]int64,int64] -/
def p83 (a0 : Value) : Prog :=
  .op true (bltS .len #[112] 3 #[false] [a0]) fun t4 =>
  .op true (vS (convert 3 129 t4)) fun t8 =>
  .op false (callS (.func (.func 124) #[] #[]) [t8]) fun t9 =>
  .op false (callS (.func (.func 123) #[] #[]) [a0, (.int .i64 0), t4, t9]) fun t10 =>
  .done .ret []
def cx83 : Cx := { N := 11, res := [] }
theorem eq83 (a0 : Value) : comp cx83 (bodyC Try.f83) false [] (env0 0 [a0]) (fun e => retP cx83 false e) = p83 a0 := by kernel_rfl

/-- damper/fix.Down -/
def p85 (a0 : Value) (a1 : Value) : Prog :=
  .bind
    (
    .op true (binS .lss 2 (.tmp 5) (.const (.int .i64 0)) a0 (.int .i64 0)) fun t6 =>
    .gop t6 false true ((pure (.value a1))) fun t8 =>
    .gop t6 false true (binS .lss 2 (.tmp 8) (.const (.int .i64 1)) t8 (.int .i64 1)) fun t9 =>
    .op true (pickS t6 (.bool true) t9) fun t10 =>
    .done .normal [t10]
    ) fun tv =>
  .ite (tv.headD undef)
    (
    .done .ret [(.int .i64 0)]
    )
    (
    .op true (binS .quo 2 (.tmp 11) (.tmp 12) a0 a1) fun t13 =>
    .op true (binS .mul 2 (.tmp 13) (.tmp 14) t13 a1) fun t15 =>
    .done .ret [t15]
    )
def cx85 : Cx := { N := 16, res := [4], reg := [(1, [10])] }
theorem eq85 (a0 : Value) (a1 : Value) : comp cx85 (bodyC Try.f85) false [] (env0 0 [a0, a1]) (fun e => retP cx85 false e) = p85 a0 a1 := by kernel_rfl

/-- damper/fix.Mul -/
def p86 (a0 : Value) (a1 : Value) : Prog :=
  .op false (callS (.func (.func 125) #[] #[]) [a0]) fun t9 =>
  .op false (callS (.func (.func 125) #[] #[]) [a1]) fun t11 =>
  .op false (callS (.func (.func 52) #[] #[]) [t9, t11]) fun t12 =>
  .op false (vS (Instr.alloc 98 true (.tuple #[]))) fun t6 =>
  .op false (uS (Instr.storeAt 98 t6 t12)) fun tu =>
  .op true (binS .xor 2 (.tmp 13) (.tmp 14) a0 a1) fun t15 =>
  .op false (callS (.func (.func 126) #[] #[]) [t15]) fun t16 =>
  .bind
    (
    .op true (vS (Instr.fieldAt 98 t6 0)) fun t17 =>
    .op true (vS (Instr.loadAt 54 t17)) fun t18 =>
    .op true (binS .neq 54 (.tmp 18) (.const (.int .u64 0)) t18 (.int .u64 0)) fun t19 =>
    .gop t19 false true (vS (Instr.fieldAt 98 t6 1)) fun t21 =>
    .gop t19 false true (vS (Instr.loadAt 54 t21)) fun t22 =>
    .gop t19 false true ((pure (.value t16))) fun t23 =>
    .gop t19 false true (vS (Op.unary .neg t23)) fun t24 =>
    .gop t19 false true (vS (convert 2 54 t24)) fun t25 =>
    .gop t19 false true (binS .add 54 (.const (.int .u64 9223372036854775807)) (.tmp 25) (.int .u64 9223372036854775807) t25) fun t26 =>
    .gop t19 false true (binS .gtr 54 (.tmp 22) (.tmp 26) t22 t26) fun t27 =>
    .op true (pickS t19 (.bool true) t27) fun t28 =>
    .done .normal [t28]
    ) fun tv =>
  .ite (tv.headD undef)
    (
    .done .ret [(.int .i64 0), (.bool false)]
    )
    (
    .op true (vS (Instr.fieldAt 98 t6 1)) fun t29 =>
    .op true (vS (Instr.loadAt 54 t29)) fun t30 =>
    .op true (vS (convert 54 2 t30)) fun t31 =>
    .op true (binS .xor 2 (.tmp 31) (.tmp 32) t31 t16) fun t33 =>
    .op true (binS .sub 2 (.tmp 33) (.tmp 34) t33 t16) fun t35 =>
    .done .ret [t35, (.bool true)]
    )
def cx86 : Cx := { N := 36, res := [4, 5], reg := [(3, [28])] }
theorem eq86 (a0 : Value) (a1 : Value) : comp cx86 (bodyC Try.f86) false [] (env0 0 [a0, a1]) (fun e => retP cx86 false e) = p86 a0 a1 := by kernel_rfl

/-- damper/fix.Add -/
def p87 (a0 : Value) (a1 : Value) : Prog :=
  .op true (binS .add 2 (.tmp 7) (.tmp 8) a0 a1) fun t9 =>
  .op true (binS .xor 2 (.tmp 10) (.tmp 11) a0 t9) fun t12 =>
  .op true (binS .xor 2 (.tmp 13) (.tmp 14) a1 t9) fun t15 =>
  .op true (binS .and 2 (.tmp 12) (.tmp 15) t12 t15) fun t16 =>
  .op true (binS .lss 2 (.tmp 16) (.const (.int .i64 0)) t16 (.int .i64 0)) fun t17 =>
  .ite t17
    (
    .done .ret [(.int .i64 0), (.bool false)]
    )
    (
    .done .ret [t9, (.bool true)]
    )
def cx87 : Cx := { N := 19, res := [4, 5] }
theorem eq87 (a0 : Value) (a1 : Value) : comp cx87 (bodyC Try.f87) false [] (env0 0 [a0, a1]) (fun e => retP cx87 false e) = p87 a0 a1 := by kernel_rfl

/-- damper/damperref07.Symbol -/
def p88 (a0 : Value) : Prog :=
  .op false (vS (Instr.box 123 a0)) fun t1 =>
  .bind
    (
    .op true (vS (Instr.fieldAt 123 t1 0)) fun t3 =>
    .op true (vS (Instr.loadAt 2 t3)) fun t4 =>
    .op false (callS (.func (.func 89) #[] #[]) [t4, (.int .i64 1), (.int .i64 1099511627776)]) fun t5 =>
    .op true (vS (Op.unary .not t5)) fun t6 =>
    .gop t6 false true (vS (Instr.fieldAt 123 t1 1)) fun t8 =>
    .gop t6 false true (vS (Instr.loadAt 2 t8)) fun t9 =>
    .gop t6 false false (callS (.func (.func 89) #[] #[]) [t9, (.int .i64 1), (.int .i64 1099511627776)]) fun t10 =>
    .gop t6 false true (vS (Op.unary .not t10)) fun t11 =>
    .op true (pickS t6 (.bool true) t11) fun t12 =>
    .done .normal [t12]
    ) fun tv =>
  .ite (tv.headD undef)
    (
    .done .ret [(.int .i64 9)]
    )
    (
    .op true (vS (Instr.fieldAt 123 t1 1)) fun t13 =>
    .op true (vS (Instr.loadAt 2 t13)) fun t14 =>
    .op true (vS (Instr.fieldAt 123 t1 0)) fun t15 =>
    .op true (vS (Instr.loadAt 2 t15)) fun t16 =>
    .op true (binS .rem 2 (.tmp 14) (.tmp 16) t14 t16) fun t17 =>
    .op true (binS .neq 2 (.tmp 17) (.const (.int .i64 0)) t17 (.int .i64 0)) fun t18 =>
    .ite t18
      (
      .done .ret [(.int .i64 8)]
      )
      (
      .bind
        (
        .op true (vS (Instr.fieldAt 123 t1 2)) fun t19 =>
        .op true (vS (Instr.loadAt 3 t19)) fun t20 =>
        .op false (callS (.func (.func 127) #[] #[]) [t20]) fun t21 =>
        .op true (vS (Op.unary .not t21)) fun t22 =>
        .gop t22 false true (vS (Instr.fieldAt 123 t1 3)) fun t24 =>
        .gop t22 false true (vS (Instr.loadAt 3 t24)) fun t25 =>
        .gop t22 false false (callS (.func (.func 127) #[] #[]) [t25]) fun t26 =>
        .gop t22 false true (vS (Op.unary .not t26)) fun t27 =>
        .op true (pickS t22 (.bool true) t27) fun t28 =>
        .gop t28 false true (vS (Instr.fieldAt 123 t1 5)) fun t30 =>
        .gop t28 false true (vS (Instr.loadAt 3 t30)) fun t31 =>
        .gop t28 false false (callS (.func (.func 127) #[] #[]) [t31]) fun t32 =>
        .gop t28 false true (vS (Op.unary .not t32)) fun t33 =>
        .op true (pickS t28 (.bool true) t33) fun t34 =>
        .gop t34 false true (vS (Instr.fieldAt 123 t1 10)) fun t36 =>
        .gop t34 false true (vS (Instr.loadAt 3 t36)) fun t37 =>
        .gop t34 false false (callS (.func (.func 127) #[] #[]) [t37]) fun t38 =>
        .gop t34 false true (vS (Op.unary .not t38)) fun t39 =>
        .op true (pickS t34 (.bool true) t39) fun t40 =>
        .gop t40 false true (vS (Instr.fieldAt 123 t1 11)) fun t42 =>
        .gop t40 false true (vS (Instr.loadAt 3 t42)) fun t43 =>
        .gop t40 false false (callS (.func (.func 127) #[] #[]) [t43]) fun t44 =>
        .gop t40 false true (vS (Op.unary .not t44)) fun t45 =>
        .op true (pickS t40 (.bool true) t45) fun t46 =>
        .gop t46 false true (vS (Instr.fieldAt 123 t1 15)) fun t48 =>
        .gop t46 false true (vS (Instr.loadAt 3 t48)) fun t49 =>
        .gop t46 false false (callS (.func (.func 127) #[] #[]) [t49]) fun t50 =>
        .gop t46 false true (vS (Op.unary .not t50)) fun t51 =>
        .op true (pickS t46 (.bool true) t51) fun t52 =>
        .done .normal [t52]
        ) fun tv_1 =>
      .ite (tv_1.headD undef)
        (
        .done .ret [(.int .i64 9)]
        )
        (
        .bind
          (
          .op true (vS (Instr.fieldAt 123 t1 4)) fun t53 =>
          .op true (vS (Instr.loadAt 2 t53)) fun t54 =>
          .op false (callS (.func (.func 90) #[] #[]) [t54]) fun t55 =>
          .op true (vS (Op.unary .not t55)) fun t56 =>
          .gop t56 false true (vS (Instr.fieldAt 123 t1 6)) fun t58 =>
          .gop t56 false true (vS (Instr.loadAt 2 t58)) fun t59 =>
          .gop t56 false false (callS (.func (.func 90) #[] #[]) [t59]) fun t60 =>
          .gop t56 false true (vS (Op.unary .not t60)) fun t61 =>
          .op true (pickS t56 (.bool true) t61) fun t62 =>
          .gop t62 false true (vS (Instr.fieldAt 123 t1 7)) fun t64 =>
          .gop t62 false true (vS (Instr.loadAt 2 t64)) fun t65 =>
          .gop t62 false false (callS (.func (.func 90) #[] #[]) [t65]) fun t66 =>
          .gop t62 false true (vS (Op.unary .not t66)) fun t67 =>
          .op true (pickS t62 (.bool true) t67) fun t68 =>
          .gop t68 false true (vS (Instr.fieldAt 123 t1 8)) fun t70 =>
          .gop t68 false true (vS (Instr.loadAt 2 t70)) fun t71 =>
          .gop t68 false false (callS (.func (.func 90) #[] #[]) [t71]) fun t72 =>
          .gop t68 false true (vS (Op.unary .not t72)) fun t73 =>
          .op true (pickS t68 (.bool true) t73) fun t74 =>
          .gop t74 false true (vS (Instr.fieldAt 123 t1 9)) fun t76 =>
          .gop t74 false true (vS (Instr.loadAt 3 t76)) fun t77 =>
          .gop t74 false false (callS (.func (.func 89) #[] #[]) [t77, (.int .i64 0), (.int .i64 10)]) fun t78 =>
          .gop t74 false true (vS (Op.unary .not t78)) fun t79 =>
          .op true (pickS t74 (.bool true) t79) fun t80 =>
          .gop t80 false true (vS (Instr.fieldAt 123 t1 12)) fun t82 =>
          .gop t80 false true (vS (Instr.loadAt 3 t82)) fun t83 =>
          .gop t80 false false (callS (.func (.func 89) #[] #[]) [t83, (.int .i64 0), (.int .i64 3)]) fun t84 =>
          .gop t80 false true (vS (Op.unary .not t84)) fun t85 =>
          .op true (pickS t80 (.bool true) t85) fun t86 =>
          .gop t86 false true (vS (Instr.fieldAt 123 t1 13)) fun t88 =>
          .gop t86 false true (vS (Instr.loadAt 3 t88)) fun t89 =>
          .gop t86 false false (callS (.func (.func 89) #[] #[]) [t89, (.int .i64 1), (.int .i64 500)]) fun t90 =>
          .gop t86 false true (vS (Op.unary .not t90)) fun t91 =>
          .op true (pickS t86 (.bool true) t91) fun t92 =>
          .gop t92 false true (vS (Instr.fieldAt 123 t1 14)) fun t94 =>
          .gop t92 false true (vS (Instr.loadAt 3 t94)) fun t95 =>
          .gop t92 false false (callS (.func (.func 89) #[] #[]) [t95, (.int .i64 1), (.int .i64 200)]) fun t96 =>
          .gop t92 false true (vS (Op.unary .not t96)) fun t97 =>
          .op true (pickS t92 (.bool true) t97) fun t98 =>
          .done .normal [t98]
          ) fun tv_2 =>
        .ite (tv_2.headD undef)
          (
          .done .ret [(.int .i64 9)]
          )
          (
          .op true (vS (Instr.fieldAt 123 t1 3)) fun t99 =>
          .op true (vS (Instr.loadAt 3 t99)) fun t100 =>
          .op true (vS (Instr.fieldAt 123 t1 2)) fun t101 =>
          .op true (vS (Instr.loadAt 3 t101)) fun t102 =>
          .op true (binS .gtr 3 (.tmp 100) (.tmp 102) t100 t102) fun t103 =>
          .ite t103
            (
            .done .ret [(.int .i64 11)]
            )
            (
            .done .ret [(.int .i64 0)]
            )
          )
        )
      )
    )
def cx88 : Cx := { N := 104, res := [2], reg := [(1, [12]), (5, [52]), (7, [98])] }
theorem eq88 (a0 : Value) : comp cx88 (bodyC Try.f88) false [] (env0 0 [a0]) (fun e => retP cx88 false e) = p88 a0 := by kernel_rfl

/-- damper/damperref07.in -/
def p89 (a0 : Value) (a1 : Value) (a2 : Value) : Prog :=
  .bind
    (
    .op true (binS .geq 2 (.tmp 7) (.tmp 8) a0 a1) fun t9 =>
    .gop t9 true true ((pure (.value a0))) fun t11 =>
    .gop t9 true true ((pure (.value a2))) fun t12 =>
    .gop t9 true true (binS .leq 2 (.tmp 11) (.tmp 12) t11 t12) fun t13 =>
    .op true (pickS t9 t13 (.bool false)) fun t14 =>
    .done .normal [t14]
    ) fun tv =>
  .done .ret [(tv.headD undef)]
def cx89 : Cx := { N := 15, res := [6], reg := [(1, [6])] }
theorem eq89 (a0 : Value) (a1 : Value) (a2 : Value) : comp cx89 (bodyC Try.f89) false [] (env0 0 [a0, a1, a2]) (fun e => retP cx89 false e) = p89 a0 a1 a2 := by kernel_rfl

/-- damper/damperref07.ticks -/
def p90 (a0 : Value) : Prog :=
  .op false (callS (.func (.func 89) #[] #[]) [a0, (.int .i64 1), (.int .i64 1099511627776)]) fun t4 =>
  .done .ret [t4]
def cx90 : Cx := { N := 5, res := [2] }
theorem eq90 (a0 : Value) : comp cx90 (bodyC Try.f90) false [] (env0 0 [a0]) (fun e => retP cx90 false e) = p90 a0 := by kernel_rfl

end Go.Proofs.Ytipgdalebkhgpaa
