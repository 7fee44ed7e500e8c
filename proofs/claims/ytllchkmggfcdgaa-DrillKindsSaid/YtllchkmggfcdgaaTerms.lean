/-
  The functions of the program as Progs; each the one that comp makes of its code.
-/
import Derived.Test.YtllchkmggfcdgaaChecked
import Derived.Test.YtllchkmggfcdgaaFw7
set_option maxRecDepth 100000
set_option linter.unusedVariables false
namespace Go.Proofs.Ytllchkmggfcdgaa
open Go Go.RowKit Fw Prog
/-- damper/damperlaw21.LimitPlays -/
def p3 (a0 : Value) (a1 : Value) (a2 : Value) : Prog :=
  .op false (vS (Instr.box 23 a0)) fun t3 =>
  .bind
    (
    .op true (vS (Instr.loadAt 23 t3)) fun t11 =>
    .op false (callS (.func (.func 10) #[] #[]) [t11, (.slice none 0 0)]) fun t12 =>
    .op true (vS (Op.unary .not t12)) fun t13 =>
    .gop t13 false true ((pure (.value a1))) fun t15 =>
    .gop t13 false true (bltS .len #[24] 3 #[false] [t15]) fun t16 =>
    .gop t13 false true (binS .gtr 3 (.tmp 16) (.const (.int .i64 100)) t16 (.int .i64 100)) fun t17 =>
    .op true (pickS t13 (.bool true) t17) fun t18 =>
    .done .normal [t18]
    ) fun tv =>
  .ite (tv.headD undef)
    (
    .op false (callS (.func (.func 11) #[] #[]) []) fun t19 =>
    .done .ret [t19]
    )
    (
    .op true (vS (Instr.build 29 #[])) fun t20 =>
    .op false (vS (Instr.alloc 29 true (.tuple #[]))) fun t7 =>
    .op false (uS (Instr.storeAt 29 t7 t20)) fun tu =>
    .op true (vS (Instr.build 30 #[])) fun t21 =>
    .op false (vS (Instr.alloc 30 true (.tuple #[]))) fun t8 =>
    .op false (uS (Instr.storeAt 30 t8 t21)) fun tu_1 =>
    .bind
      (
      .block 0 <|
      .loop [(.int .i64 0), (.bool false), (.int .i64 0)] fun tx =>
      .bind
        (
        .op true (bltS .len #[24] 3 #[false] [a1]) fun t24 =>
        .op true (binS .lss 3 (.tmp 22) (.tmp 24) (tx.tail.tail.headD undef) t24) fun t25 =>
        .gop t25 true true ((pure (.value (tx.tail.tail.headD undef)))) fun t27 =>
        .gop t25 true true ((pure (.value a2))) fun t28 =>
        .gop t25 true true (bltS .len #[25] 3 #[false] [t28]) fun t29 =>
        .gop t25 true true (binS .lss 3 (.tmp 27) (.tmp 29) t27 t29) fun t30 =>
        .op true (pickS t25 t30 (.bool false)) fun t31 =>
        .done .normal [t31]
        ) fun tv_1 =>
      .ite (tv_1.headD undef)
        (
        .bind
          (
          .block 1 <|
          .bind
            (
            .op true (vS (Instr.indexAt 24 a1 (tx.tail.tail.headD undef))) fun t36 =>
            .op true (vS (Instr.loadAt 2 t36)) fun t37 =>
            .op true (binS .lss 2 (.tmp 37) (.const (.int .i64 0)) t37 (.int .i64 0)) fun t38 =>
            .gop t38 false true ((pure (.value a1))) fun t40 =>
            .gop t38 false true ((pure (.value (tx.tail.tail.headD undef)))) fun t41 =>
            .gop t38 false true (vS (Instr.indexAt 24 t40 t41)) fun t42 =>
            .gop t38 false true (vS (Instr.loadAt 2 t42)) fun t43 =>
            .gop t38 false true (binS .gtr 2 (.tmp 43) (.const (.int .i64 1125899906842624)) t43 (.int .i64 1125899906842624)) fun t44 =>
            .op true (pickS t38 (.bool true) t44) fun t45 =>
            .done .normal [t45]
            ) fun tv_2 =>
          .ite (tv_2.headD undef)
            (
            .op false (callS (.func (.func 11) #[] #[]) []) fun t46 =>
            .done .ret [t46]
            )
            (
            .op true (vS (Instr.indexAt 24 a1 (tx.tail.tail.headD undef))) fun t50 =>
            .op true (vS (Instr.loadAt 2 t50)) fun t51 =>
            .op true (binS .add 2 (.tmp 47) (.tmp 51) (tx.headD undef) t51) fun t52 =>
            .draw <|
            .op true (vS (Instr.loadAt 29 t7)) fun t53 =>
            .op true (vS (Instr.indexAt 25 a2 (tx.tail.tail.headD undef))) fun t57 =>
            .op true (vS (Instr.loadAt 4 t57)) fun t58 =>
            .op false (callS (.func (.func 12) #[] #[]) [t53, t52, t58]) fun t59 =>
            .op false (uS (Instr.storeAt 29 t7 t59)) fun tu_2 =>
            .draw <|
            .op true (vS (Instr.loadAt 30 t8)) fun t60 =>
            .op true (vS (Instr.indexAt 25 a2 (tx.tail.tail.headD undef))) fun t64 =>
            .op true (vS (Instr.loadAt 4 t64)) fun t65 =>
            .op false (callS (.func (.func 13) #[] #[]) [t60, t52, t65]) fun t66 =>
            .op false (uS (Instr.storeAt 30 t8 t66)) fun tu_3 =>
            .bind
              (
              .draw <|
              .op true (vS (Instr.loadAt 29 t7)) fun t67 =>
              .op true (vS (Instr.loadAt 30 t8)) fun t68 =>
              .op false (callS (.func (.func 14) #[] #[]) [t68]) fun t69 =>
              .chk none (vS (Instr.loadAt 29 t7)) t67 <|
              .op true (binS .neq 29 (.tmp 67) (.tmp 69) t67 t69) fun t70 =>
              .gop t70 false true (vS (Instr.loadAt 29 t7)) fun t72 =>
              .gop t70 false true (vS (Instr.loadAt 23 t3)) fun t73 =>
              .gop t70 false true ((pure (.value t52))) fun t74 =>
              .gop t70 false true (vS (Instr.loadAt 30 t8)) fun t76 =>
              .gop t70 false true (vS (Instr.loadAt 23 t3)) fun t77 =>
              .gop t70 false true ((pure (.value t52))) fun t78 =>
              .gop t70 false false (callS (.func (.func 15) #[] #[]) [t72, t73, t74]) fun t75 =>
              .chk (some (t70, false)) (vS (Instr.loadAt 23 t3)) t77 <|
              .chk (some (t70, false)) (vS (Instr.loadAt 30 t8)) t76 <|
              .gop t70 false false (callS (.func (.func 16) #[] #[]) [t76, t77, t78]) fun t79 =>
              .gop t70 false true (binS .neq 4 (.tmp 75) (.tmp 79) t75 t79) fun t80 =>
              .op true (pickS t70 (.bool true) t80) fun t81 =>
              .done .normal [t81]
              ) fun tv_3 =>
            .ite (tv_3.headD undef)
              (
              .done .ret [(.bool false)]
              )
              (
              .done .normal [(tx.tail.headD undef), t52]
              )
            )
          ) fun tv_4 =>
        .op true (binS .add 3 (.tmp 32) (.const (.int .i64 1)) (tx.tail.tail.headD undef) (.int .i64 1)) fun t33 =>
        .done .normal [(tv_4.tail.headD undef), (tv_4.headD undef), t33]
        )
        (
        .done (.exit 0) [(tx.tail.headD undef)]
        )
      ) fun tv_5 =>
    .op false (callS (.func (.func 11) #[] #[]) []) fun t82 =>
    .done .ret [t82]
    )
def cx3 : Cx := { N := 83, res := [6], blk := [(0, [6]), (1, [6, 9])], reg := [(1, [18]), (7, [31]), (9, [45]), (14, [81])] }
theorem eq3 (a0 : Value) (a1 : Value) (a2 : Value) : comp cx3 (bodyC Try.f3) false [] (env0 0 [a0, a1, a2]) (fun e => retP cx3 false e) = p3 a0 a1 a2 := by kernel_rfl

/-- damper/damperlaw37.DrillThrows -/
def p4 (a0 : Value) (a1 : Value) : Prog :=
  .op true (bltS .len #[24] 3 #[false] [a1]) fun t10 =>
  .op true (binS .gtr 3 (.tmp 10) (.const (.int .i64 60)) t10 (.int .i64 60)) fun t11 =>
  .ite t11
    (
    .op false (callS (.func (.func 17) #[] #[]) []) fun t12 =>
    .done .ret [t12]
    )
    (
    .op false (callS (.func (.func 18) #[] #[]) [a0]) fun t14 =>
    .op true (vS (Instr.build 42 #[(0, a0)])) fun t16 =>
    .op false (vS (Instr.box 42 t16)) fun t17 =>
    .bind
      (
      .block 0 <|
      .loop [(.bool false), (.int .i64 0)] fun tx =>
      .op true (bltS .len #[24] 3 #[false] [a1]) fun t20 =>
      .op true (binS .lss 3 (.tmp 18) (.tmp 20) (tx.tail.headD undef) t20) fun t21 =>
      .ite t21
        (
        .bind
          (
          .block 1 <|
          .bind
            (
            .draw <|
            .op true (vS (Instr.indexAt 24 a1 (tx.tail.headD undef))) fun t27 =>
            .op true (vS (Instr.loadAt 2 t27)) fun t28 =>
            .op true (vS (Instr.indexAt 24 a1 (tx.tail.headD undef))) fun t33 =>
            .op true (vS (Instr.loadAt 2 t33)) fun t34 =>
            .op false (callS (.func (.func 19) #[] #[]) [t14, t28]) fun t29 =>
            .chk none (vS (Instr.loadAt 2 t33)) t34 <|
            .chk none (vS (Instr.indexAt 24 a1 (tx.tail.headD undef))) t33 <|
            .op false (callS (.func (.func 20) #[] #[]) [t17, t34]) fun t35 =>
            .op true (binS .neq 2 (.tmp 29) (.tmp 35) t29 t35) fun t36 =>
            .gop t36 false true ((pure (.value (.pointer none)))) fun t38 =>
            .gop t36 false true ((pure (.value a1))) fun t39 =>
            .gop t36 false true ((pure (.value (tx.tail.headD undef)))) fun t40 =>
            .gop t36 false true (vS (Instr.indexAt 24 t39 t40)) fun t41 =>
            .gop t36 false true (vS (Instr.loadAt 2 t41)) fun t42 =>
            .gop t36 false false (callS (.func (.func 19) #[] #[]) [t38, t42]) fun t43 =>
            .gop t36 false true (binS .neq 2 (.tmp 43) (.const (.int .i64 0)) t43 (.int .i64 0)) fun t44 =>
            .op true (pickS t36 (.bool true) t44) fun t45 =>
            .done .normal [t45]
            ) fun tv =>
          .ite (tv.headD undef)
            (
            .done .ret [(.bool false)]
            )
            (
            .done .normal [(tx.headD undef)]
            )
          ) fun tv_1 =>
        .op true (binS .add 3 (.tmp 22) (.const (.int .i64 1)) (tx.tail.headD undef) (.int .i64 1)) fun t23 =>
        .done .normal [(tv_1.headD undef), t23]
        )
        (
        .done (.exit 0) [(tx.headD undef)]
        )
      ) fun tv_2 =>
    .op false (callS (.func (.func 17) #[] #[]) []) fun t46 =>
    .done .ret [t46]
    )
def cx4 : Cx := { N := 47, res := [4], blk := [(0, [4]), (1, [4])], reg := [(9, [45])] }
theorem eq4 (a0 : Value) (a1 : Value) : comp cx4 (bodyC Try.f4) false [] (env0 0 [a0, a1]) (fun e => retP cx4 false e) = p4 a0 a1 := by kernel_rfl

/-- damper/damperlaw21.LimitStates -/
def p5 (a0 : Value) (a1 : Value) (a2 : Value) (a3 : Value) : Prog :=
  .op false (vS (Instr.box 30 a0)) fun t4 =>
  .op false (vS (Instr.box 23 a1)) fun t5 =>
  .op true (vS (Instr.loadAt 23 t5)) fun t13 =>
  .op true (vS (Instr.fieldAt 30 t4 1)) fun t14 =>
  .op true (vS (Instr.loadAt 2 t14)) fun t15 =>
  .op false (vS (Instr.buildSlice 24 2 #[(0, t15), (1, a2)])) fun t17 =>
  .op false (callS (.func (.func 10) #[] #[]) [t13, t17]) fun t18 =>
  .op true (vS (Op.unary .not t18)) fun t19 =>
  .ite t19
    (
    .op false (callS (.func (.func 11) #[] #[]) []) fun t20 =>
    .done .ret [t20]
    )
    (
    .draw <|
    .op true (vS (Instr.loadAt 30 t4)) fun t22 =>
    .op true (vS (Instr.loadAt 23 t5)) fun t24 =>
    .op false (callS (.func (.func 14) #[] #[]) [t22]) fun t23 =>
    .chk none (vS (Instr.loadAt 23 t5)) t24 <|
    .op false (callS (.func (.func 21) #[] #[]) [t23, t24]) fun t25 =>
    .op true (vS (Instr.extract t25 0)) fun t26 =>
    .op true (vS (Instr.extract t25 1)) fun t27 =>
    .op true (vS (Instr.loadAt 30 t4)) fun t29 =>
    .op true (vS (Instr.loadAt 23 t5)) fun t30 =>
    .op false (callS (.func (.func 22) #[] #[]) [t29, t30]) fun t31 =>
    .op true (vS (Instr.extract t31 0)) fun t32 =>
    .op true (vS (Instr.extract t31 1)) fun t33 =>
    .bind
      (
      .draw <|
      .op true (vS (Instr.loadAt 30 t4)) fun t34 =>
      .op true (vS (Instr.loadAt 30 t4)) fun t39 =>
      .op false (callS (.func (.func 14) #[] #[]) [t34]) fun t35 =>
      .chk none (vS (Instr.loadAt 30 t4)) t39 <|
      .op false (callS (.func (.func 12) #[] #[]) [t35, a2, a3]) fun t38 =>
      .chk none (vS (Instr.loadAt 30 t4)) t39 <|
      .op false (callS (.func (.func 13) #[] #[]) [t39, a2, a3]) fun t42 =>
      .op false (callS (.func (.func 14) #[] #[]) [t42]) fun t43 =>
      .op true (binS .eql 29 (.tmp 38) (.tmp 43) t38 t43) fun t44 =>
      .gop t44 true true ((pure (.value t26))) fun t46 =>
      .gop t44 true true ((pure (.value t32))) fun t47 =>
      .gop t44 true true (binS .eql 2 (.tmp 46) (.tmp 47) t46 t47) fun t48 =>
      .op true (pickS t44 t48 (.bool false)) fun t49 =>
      .gop t49 true true ((pure (.value t27))) fun t51 =>
      .gop t49 true true ((pure (.value t33))) fun t52 =>
      .gop t49 true true (binS .eql 4 (.tmp 51) (.tmp 52) t51 t52) fun t53 =>
      .op true (pickS t49 t53 (.bool false)) fun t54 =>
      .gop t54 true true (vS (Instr.loadAt 30 t4)) fun t56 =>
      .gop t54 true true (vS (Instr.loadAt 23 t5)) fun t58 =>
      .gop t54 true true ((pure (.value a2))) fun t59 =>
      .gop t54 true true (vS (Instr.loadAt 30 t4)) fun t61 =>
      .gop t54 true true (vS (Instr.loadAt 23 t5)) fun t62 =>
      .gop t54 true true ((pure (.value a2))) fun t63 =>
      .gop t54 true false (callS (.func (.func 14) #[] #[]) [t56]) fun t57 =>
      .chk (some (t54, true)) (vS (Instr.loadAt 23 t5)) t62 <|
      .chk (some (t54, true)) (vS (Instr.loadAt 30 t4)) t61 <|
      .chk (some (t54, true)) (vS (Instr.loadAt 23 t5)) t58 <|
      .gop t54 true false (callS (.func (.func 15) #[] #[]) [t57, t58, t59]) fun t60 =>
      .chk (some (t54, true)) (vS (Instr.loadAt 23 t5)) t62 <|
      .chk (some (t54, true)) (vS (Instr.loadAt 30 t4)) t61 <|
      .gop t54 true false (callS (.func (.func 16) #[] #[]) [t61, t62, t63]) fun t64 =>
      .gop t54 true true (binS .eql 4 (.tmp 60) (.tmp 64) t60 t64) fun t65 =>
      .op true (pickS t54 t65 (.bool false)) fun t66 =>
      .gop t66 true true (vS (Instr.loadAt 30 t4)) fun t68 =>
      .gop t66 true true (vS (Instr.loadAt 23 t5)) fun t70 =>
      .gop t66 true true ((pure (.value a2))) fun t71 =>
      .gop t66 true true (vS (Instr.loadAt 30 t4)) fun t73 =>
      .gop t66 true true (vS (Instr.loadAt 23 t5)) fun t74 =>
      .gop t66 true true ((pure (.value a2))) fun t75 =>
      .gop t66 true false (callS (.func (.func 14) #[] #[]) [t68]) fun t69 =>
      .chk (some (t66, true)) (vS (Instr.loadAt 23 t5)) t74 <|
      .chk (some (t66, true)) (vS (Instr.loadAt 30 t4)) t73 <|
      .chk (some (t66, true)) (vS (Instr.loadAt 23 t5)) t70 <|
      .gop t66 true false (callS (.func (.func 23) #[] #[]) [t69, t70, t71]) fun t72 =>
      .chk (some (t66, true)) (vS (Instr.loadAt 23 t5)) t74 <|
      .chk (some (t66, true)) (vS (Instr.loadAt 30 t4)) t73 <|
      .gop t66 true false (callS (.func (.func 24) #[] #[]) [t73, t74, t75]) fun t76 =>
      .gop t66 true true (binS .eql 2 (.tmp 72) (.tmp 76) t72 t76) fun t77 =>
      .op true (pickS t66 t77 (.bool false)) fun t78 =>
      .gop t78 true false (callS (.func (.func 11) #[] #[]) []) fun t80 =>
      .op true (pickS t78 t80 (.bool false)) fun t81 =>
      .done .normal [t81]
      ) fun tv =>
    .done .ret [(tv.headD undef)]
    )
def cx5 : Cx := { N := 82, res := [8], reg := [(5, [8])] }
theorem eq5 (a0 : Value) (a1 : Value) (a2 : Value) (a3 : Value) : comp cx5 (bodyC Try.f5) false [] (env0 0 [a0, a1, a2, a3]) (fun e => retP cx5 false e) = p5 a0 a1 a2 a3 := by kernel_rfl

/-- damper/damperlaw37.DrillKinds -/
def p6 (a0 : Value) : Prog :=
  .op false (vS (Instr.box 3 a0)) fun t1 =>
  .op false (vS (Instr.alloc 4 true (.tuple #[]))) fun t2 =>
  .op false (callS (.func (.func 17) #[] #[]) []) fun t6 =>
  .op true (vS (Op.unary .not t6)) fun t7 =>
  .ite t7
    (
    .op false (uS (Instr.storeAt 4 t2 (.bool false))) fun tu =>
    .done .ret [t2]
    )
    (
    .op false (vS (Instr.alloc 3 true (.tuple #[]))) fun t3 =>
    .op false (uS (Instr.storeAt 3 t3 (.int .i64 0))) fun tu_1 =>
    .op false (callS (.func (.func 25) #[] #[]) []) fun t8 =>
    .bind
      (
      .block 0 <|
      .rangeF t8 2 (fun ty =>
          .begin <|
          .bind
            (
            .block 1 <|
            .bind
              (
              .draw <|
              .op true (vS (Instr.loadAt 3 t3)) fun t12 =>
              .op true (binS .neq 3 (.tmp 11) (.tmp 12) (ty.headD undef) t12) fun t13 =>
              .gop t13 false true (vS (Instr.loadAt 3 t3)) fun t15 =>
              .gop t13 false true (binS .geq 3 (.tmp 15) (.const (.int .i64 5)) t15 (.int .i64 5)) fun t16 =>
              .op true (pickS t13 (.bool true) t16) fun t17 =>
              .gop t17 false true ((pure (.value (ty.tail.headD undef)))) fun t19 =>
              .gop t17 false true (vS (Instr.loadAt 3 t3)) fun t21 =>
              .gop t17 false false (callS (.func (.func 26) #[] #[]) []) fun t20 =>
              .chk (some (t17, false)) (vS (Instr.loadAt 3 t3)) t21 <|
              .gop t17 false true (vS (Instr.indexAt 54 t20 t21)) fun t22 =>
              .gop t17 false true (vS (Instr.loadAt 9 t22)) fun t23 =>
              .gop t17 false true (binS .neq 9 (.tmp 19) (.tmp 23) t19 t23) fun t24 =>
              .op true (pickS t17 (.bool true) t24) fun t25 =>
              .done .normal [t25]
              ) fun tv =>
            .ite (tv.headD undef)
              (
              .op false (uS (Instr.storeAt 4 t2 (.bool false))) fun tu_2 =>
              .done .ret []
              )
              (
              .op true (vS (Instr.loadAt 3 t3)) fun t26 =>
              .op true (binS .add 3 (.tmp 26) (.const (.int .i64 1)) t26 (.int .i64 1)) fun t27 =>
              .op false (uS (Instr.storeAt 3 t3 t27)) fun tu_3 =>
              .op true (vS (Instr.loadAt 3 t3)) fun t28 =>
              .op true (vS (Instr.loadAt 3 t1)) fun t29 =>
              .op true (binS .eql 3 (.tmp 28) (.tmp 29) t28 t29) fun t30 =>
              .ite t30
                (
                .done (.exit 0) []
                )
                (
                .done .normal []
                )
              )
            ) fun tv_1 =>
          .done .normal []
        )
        (exK (
          .done .normal []
        ) (
          .done .ret [t2]
        ) fun id =>
          bif Nat.beq 0 id then (
            .done (.exit 0) []
          ) else
          .fail)
      ) fun tv_2 =>
    .bind
      (
      .op true (vS (Instr.loadAt 3 t1)) fun t31 =>
      .op true (binS .gtr 3 (.tmp 31) (.const (.int .i64 0)) t31 (.int .i64 0)) fun t32 =>
      .gop t32 true true (vS (Instr.loadAt 3 t1)) fun t34 =>
      .gop t32 true true (binS .lss 3 (.tmp 34) (.const (.int .i64 5)) t34 (.int .i64 5)) fun t35 =>
      .op true (pickS t32 t35 (.bool false)) fun t36 =>
      .done .normal [t36]
      ) fun tv_3 =>
    .ite (tv_3.headD undef)
      (
      .op true (vS (Instr.loadAt 3 t3)) fun t37 =>
      .op true (vS (Instr.loadAt 3 t1)) fun t38 =>
      .op true (binS .eql 3 (.tmp 37) (.tmp 38) t37 t38) fun t39 =>
      .op false (uS (Instr.storeAt 4 t2 t39)) fun tu_4 =>
      .done .ret [t2]
      )
      (
      .op true (vS (Instr.loadAt 3 t3)) fun t40 =>
      .op true (binS .eql 3 (.tmp 40) (.const (.int .i64 5)) t40 (.int .i64 5)) fun t41 =>
      .op false (uS (Instr.storeAt 4 t2 t41)) fun tu_5 =>
      .done .ret [t2]
      )
    )
def cx6 : Cx := { N := 42, res := [2], reg := [(7, [25]), (11, [36])] }
theorem eq6 (a0 : Value) : comp cx6 (bodyC Try.f6) false [] (env0 0 [a0]) (fun e => retP cx6 false e) = p6 a0 := by kernel_rfl

/-- damper/damperlaw38.CompareEdits -/
def p7 (a0 : Value) (a1 : Value) : Prog :=
  .bind
    (
    .op true (bltS .len #[57] 3 #[false] [a0]) fun t6 =>
    .op true (binS .gtr 3 (.tmp 6) (.const (.int .i64 310)) t6 (.int .i64 310)) fun t7 =>
    .gop t7 false true ((pure (.value a1))) fun t9 =>
    .gop t7 false true (bltS .len #[57] 3 #[false] [t9]) fun t10 =>
    .gop t7 false true (binS .gtr 3 (.tmp 10) (.const (.int .i64 310)) t10 (.int .i64 310)) fun t11 =>
    .op true (pickS t7 (.bool true) t11) fun t12 =>
    .done .normal [t12]
    ) fun tv =>
  .ite (tv.headD undef)
    (
    .op false (callS (.func (.func 27) #[] #[]) []) fun t13 =>
    .done .ret [t13]
    )
    (
    .bind
      (
      .op false (callS (.func (.func 28) #[] #[]) [a0, a1]) fun t16 =>
      .op false (callS (.func (.func 29) #[] #[]) [a0, a1]) fun t19 =>
      .op true (binS .eql 3 (.tmp 16) (.tmp 19) t16 t19) fun t20 =>
      .gop t20 true true ((pure (.value a0))) fun t22 =>
      .gop t20 true true ((pure (.value a1))) fun t23 =>
      .gop t20 true false (callS (.func (.func 32) #[] #[]) [t22, t23]) fun t24 =>
      .gop t20 true false (callS (.func (.func 31) #[] #[]) [t24]) fun t25 =>
      .gop t20 true true ((pure (.value a0))) fun t26 =>
      .gop t20 true true ((pure (.value a1))) fun t27 =>
      .gop t20 true false (callS (.func (.func 33) #[] #[]) [t26, t27]) fun t28 =>
      .gop t20 true false (callS (.func (.func 30) #[] #[]) [t25, t28]) fun t29 =>
      .op true (pickS t20 t29 (.bool false)) fun t30 =>
      .gop t30 true false (callS (.func (.func 27) #[] #[]) []) fun t32 =>
      .op true (pickS t30 t32 (.bool false)) fun t33 =>
      .done .normal [t33]
      ) fun tv_1 =>
    .done .ret [(tv_1.headD undef)]
    )
def cx7 : Cx := { N := 34, res := [4], reg := [(1, [12]), (3, [4])] }
theorem eq7 (a0 : Value) (a1 : Value) : comp cx7 (bodyC Try.f7) false [] (env0 0 [a0, a1]) (fun e => retP cx7 false e) = p7 a0 a1 := by kernel_rfl

/-- damper/damperlaw38.CompareApplies -/
def p8 (a0 : Value) (a1 : Value) (a2 : Value) : Prog :=
  .bind
    (
    .op true (bltS .len #[57] 3 #[false] [a0]) fun t14 =>
    .op true (binS .gtr 3 (.tmp 14) (.const (.int .i64 100)) t14 (.int .i64 100)) fun t15 =>
    .gop t15 false true ((pure (.value a1))) fun t17 =>
    .gop t15 false true (bltS .len #[57] 3 #[false] [t17]) fun t18 =>
    .gop t15 false true (binS .gtr 3 (.tmp 18) (.const (.int .i64 100)) t18 (.int .i64 100)) fun t19 =>
    .op true (pickS t15 (.bool true) t19) fun t20 =>
    .gop t20 false true ((pure (.value a2))) fun t22 =>
    .gop t20 false true (bltS .len #[60] 3 #[false] [t22]) fun t23 =>
    .gop t20 false true (binS .gtr 3 (.tmp 23) (.const (.int .i64 200)) t23 (.int .i64 200)) fun t24 =>
    .op true (pickS t20 (.bool true) t24) fun t25 =>
    .done .normal [t25]
    ) fun tv =>
  .ite (tv.headD undef)
    (
    .op false (callS (.func (.func 27) #[] #[]) []) fun t26 =>
    .done .ret [t26]
    )
    (
    .bind
      (
      .block 0 <|
      .loop [(.slice none 0 0), (.int .i64 0)] fun tx =>
      .op true (bltS .len #[60] 3 #[false] [a2]) fun t29 =>
      .op true (binS .lss 3 (.tmp 27) (.tmp 29) (tx.tail.headD undef) t29) fun t30 =>
      .ite t30
        (
        .bind
          (
          .block 1 <|
          .draw <|
          .op true (vS (Instr.indexAt 60 a2 (tx.tail.headD undef))) fun t36 =>
          .op true (vS (Instr.fieldAt 67 t36 0)) fun t37 =>
          .op true (vS (Instr.loadAt 3 t37)) fun t38 =>
          .op true (vS (Instr.indexAt 60 a2 (tx.tail.headD undef))) fun t41 =>
          .op true (vS (Instr.fieldAt 67 t41 1)) fun t42 =>
          .op true (vS (Instr.loadAt 3 t42)) fun t43 =>
          .op true (vS (Instr.indexAt 60 a2 (tx.tail.headD undef))) fun t46 =>
          .op true (vS (Instr.fieldAt 67 t46 2)) fun t47 =>
          .op true (vS (Instr.loadAt 3 t47)) fun t48 =>
          .op true (vS (Instr.build 68 #[(0, t38), (1, t43), (2, t48)])) fun t49 =>
          .op false (vS (Instr.buildSlice 62 1 #[(0, t49)])) fun t50 =>
          .op false (bltS .append #[62, 62] 62 #[false, false] [(tx.headD undef), t50]) fun t51 =>
          .done .normal [t51]
          ) fun tv_1 =>
        .op true (binS .add 3 (.tmp 31) (.const (.int .i64 1)) (tx.tail.headD undef) (.int .i64 1)) fun t32 =>
        .done .normal [(tv_1.headD undef), t32]
        )
        (
        .done (.exit 0) [(tx.headD undef)]
        )
      ) fun tv_2 =>
    .op false (callS (.func (.func 34) #[] #[]) [a0, a1, (tv_2.headD undef)]) fun t56 =>
    .op true (vS (Instr.extract t56 0)) fun t57 =>
    .op true (vS (Instr.extract t56 1)) fun t58 =>
    .op false (callS (.func (.func 35) #[] #[]) [a0, a1, a2]) fun t63 =>
    .op true (vS (Instr.extract t63 0)) fun t64 =>
    .op true (vS (Instr.extract t63 1)) fun t65 =>
    .bind
      (
      .op false (callS (.func (.func 36) #[] #[]) [t57, t64]) fun t68 =>
      .gop t68 true true ((pure (.value t58))) fun t70 =>
      .gop t68 true true ((pure (.value t65))) fun t71 =>
      .gop t68 true true (binS .eql 4 (.tmp 70) (.tmp 71) t70 t71) fun t72 =>
      .op true (pickS t68 t72 (.bool false)) fun t73 =>
      .gop t73 true false (callS (.func (.func 27) #[] #[]) []) fun t75 =>
      .op true (pickS t73 t75 (.bool false)) fun t76 =>
      .done .normal [t76]
      ) fun tv_3 =>
    .done .ret [(tv_3.headD undef)]
    )
def cx8 : Cx := { N := 77, res := [6], blk := [(0, [7]), (1, [7])], reg := [(1, [25]), (10, [6])] }
theorem eq8 (a0 : Value) (a1 : Value) (a2 : Value) : comp cx8 (bodyC Try.f8) false [] (env0 0 [a0, a1, a2]) (fun e => retP cx8 false e) = p8 a0 a1 a2 := by kernel_rfl

/-- damper/damperlaw38.CompareLeads -/
def p9 (a0 : Value) (a1 : Value) : Prog :=
  .bind
    (
    .op true (bltS .len #[57] 3 #[false] [a0]) fun t12 =>
    .op true (binS .gtr 3 (.tmp 12) (.const (.int .i64 100)) t12 (.int .i64 100)) fun t13 =>
    .gop t13 false true ((pure (.value a1))) fun t15 =>
    .gop t13 false true (bltS .len #[57] 3 #[false] [t15]) fun t16 =>
    .gop t13 false true (binS .gtr 3 (.tmp 16) (.const (.int .i64 100)) t16 (.int .i64 100)) fun t17 =>
    .op true (pickS t13 (.bool true) t17) fun t18 =>
    .done .normal [t18]
    ) fun tv =>
  .ite (tv.headD undef)
    (
    .op false (callS (.func (.func 27) #[] #[]) []) fun t19 =>
    .done .ret [t19]
    )
    (
    .op false (callS (.func (.func 32) #[] #[]) [a0, a1]) fun t22 =>
    .op false (callS (.func (.func 34) #[] #[]) [a0, a1, t22]) fun t27 =>
    .op true (vS (Instr.extract t27 0)) fun t28 =>
    .op true (vS (Instr.extract t27 1)) fun t29 =>
    .bind
      (
      .block 0 <|
      .loop [(.int .i64 0), (.int .i64 0)] fun tx =>
      .op true (bltS .len #[62] 3 #[false] [t22]) fun t32 =>
      .op true (binS .lss 3 (.tmp 30) (.tmp 32) (tx.tail.headD undef) t32) fun t33 =>
      .ite t33
        (
        .bind
          (
          .block 1 <|
          .op true (vS (Instr.indexAt 62 t22 (tx.tail.headD undef))) fun t38 =>
          .op true (vS (Instr.fieldAt 68 t38 0)) fun t39 =>
          .op true (vS (Instr.loadAt 3 t39)) fun t40 =>
          .op true (binS .eql 3 (.tmp 40) (.const (.int .i64 0)) t40 (.int .i64 0)) fun t41 =>
          .bind
            (
            .ite t41
              (
              .op true (binS .add 3 (.tmp 42) (.const (.int .i64 1)) (tx.headD undef) (.int .i64 1)) fun t43 =>
              .done .normal [t43]
              )
              (
              .done .normal [(tx.headD undef)]
              )
            ) fun tv_1 =>
          .done .normal [(tv_1.headD undef)]
          ) fun tv_2 =>
        .op true (binS .add 3 (.tmp 34) (.const (.int .i64 1)) (tx.tail.headD undef) (.int .i64 1)) fun t35 =>
        .done .normal [(tv_2.headD undef), t35]
        )
        (
        .done (.exit 0) [(tx.headD undef)]
        )
      ) fun tv_3 =>
    .op false (callS (.func (.func 28) #[] #[]) [a0, a1]) fun t46 =>
    .bind
      (
      .gop t29 true true ((pure (.value t28))) fun t49 =>
      .gop t29 true true ((pure (.value a1))) fun t50 =>
      .gop t29 true false (callS (.func (.func 36) #[] #[]) [t49, t50]) fun t51 =>
      .op true (pickS t29 t51 (.bool false)) fun t52 =>
      .gop t52 true true ((pure (.value (tv_3.headD undef)))) fun t54 =>
      .gop t52 true true ((pure (.value t46))) fun t55 =>
      .gop t52 true true (binS .eql 3 (.tmp 54) (.tmp 55) t54 t55) fun t56 =>
      .op true (pickS t52 t56 (.bool false)) fun t57 =>
      .gop t57 true true ((pure (.value t46))) fun t59 =>
      .gop t57 true true ((pure (.value a0))) fun t60 =>
      .gop t57 true true (bltS .len #[57] 3 #[false] [t60]) fun t61 =>
      .gop t57 true true (binS .leq 3 (.tmp 59) (.tmp 61) t59 t61) fun t62 =>
      .op true (pickS t57 t62 (.bool false)) fun t63 =>
      .gop t63 true true ((pure (.value t46))) fun t65 =>
      .gop t63 true true ((pure (.value a1))) fun t66 =>
      .gop t63 true true (bltS .len #[57] 3 #[false] [t66]) fun t67 =>
      .gop t63 true true (binS .leq 3 (.tmp 65) (.tmp 67) t65 t67) fun t68 =>
      .op true (pickS t63 t68 (.bool false)) fun t69 =>
      .gop t69 true true ((pure (.value t22))) fun t71 =>
      .gop t69 true true (bltS .len #[62] 3 #[false] [t71]) fun t72 =>
      .gop t69 true true ((pure (.value a0))) fun t73 =>
      .gop t69 true true (bltS .len #[57] 3 #[false] [t73]) fun t74 =>
      .gop t69 true true ((pure (.value a1))) fun t75 =>
      .gop t69 true true (bltS .len #[57] 3 #[false] [t75]) fun t76 =>
      .gop t69 true true (binS .add 3 (.tmp 74) (.tmp 76) t74 t76) fun t77 =>
      .gop t69 true true ((pure (.value t46))) fun t78 =>
      .gop t69 true true (binS .sub 3 (.tmp 77) (.tmp 78) t77 t78) fun t79 =>
      .gop t69 true true (binS .eql 3 (.tmp 72) (.tmp 79) t72 t79) fun t80 =>
      .op true (pickS t69 t80 (.bool false)) fun t81 =>
      .gop t81 true true ((pure (.value a1))) fun t83 =>
      .gop t81 true true ((pure (.value a0))) fun t84 =>
      .gop t81 true false (callS (.func (.func 28) #[] #[]) [t83, t84]) fun t85 =>
      .gop t81 true true ((pure (.value t46))) fun t86 =>
      .gop t81 true true (binS .eql 3 (.tmp 85) (.tmp 86) t85 t86) fun t87 =>
      .op true (pickS t81 t87 (.bool false)) fun t88 =>
      .gop t88 true true ((pure (.value a0))) fun t90 =>
      .gop t88 true true ((pure (.value a0))) fun t91 =>
      .gop t88 true false (callS (.func (.func 28) #[] #[]) [t90, t91]) fun t92 =>
      .gop t88 true true ((pure (.value a0))) fun t93 =>
      .gop t88 true true (bltS .len #[57] 3 #[false] [t93]) fun t94 =>
      .gop t88 true true (binS .eql 3 (.tmp 92) (.tmp 94) t92 t94) fun t95 =>
      .op true (pickS t88 t95 (.bool false)) fun t96 =>
      .gop t96 true false (callS (.func (.func 27) #[] #[]) []) fun t98 =>
      .op true (pickS t96 t98 (.bool false)) fun t99 =>
      .done .normal [t99]
      ) fun tv_4 =>
    .done .ret [(tv_4.headD undef)]
    )
def cx9 : Cx := { N := 100, res := [4], blk := [(0, [8]), (1, [8])], cnd := [(41, [8])], reg := [(1, [18]), (12, [4])] }
theorem eq9 (a0 : Value) (a1 : Value) : comp cx9 (bodyC Try.f9) false [] (env0 0 [a0, a1]) (fun e => retP cx9 false e) = p9 a0 a1 := by kernel_rfl

/-- damper/damperlaw21.Light -/
def p10 (a0 : Value) (a1 : Value) : Prog :=
  .op false (vS (Instr.box 23 a0)) fun t2 =>
  .bind
    (
    .block 0 <|
    .loop [(.bool false), (.int .i64 0)] fun tx =>
    .op true (bltS .len #[24] 3 #[false] [a1]) fun t8 =>
    .op true (binS .lss 3 (.tmp 6) (.tmp 8) (tx.tail.headD undef) t8) fun t9 =>
    .ite t9
      (
      .bind
        (
        .block 1 <|
        .bind
          (
          .op true (vS (Instr.indexAt 24 a1 (tx.tail.headD undef))) fun t14 =>
          .op true (vS (Instr.loadAt 2 t14)) fun t15 =>
          .op true (binS .lss 2 (.tmp 15) (.const (.int .i64 0)) t15 (.int .i64 0)) fun t16 =>
          .gop t16 false true ((pure (.value a1))) fun t18 =>
          .gop t16 false true ((pure (.value (tx.tail.headD undef)))) fun t19 =>
          .gop t16 false true (vS (Instr.indexAt 24 t18 t19)) fun t20 =>
          .gop t16 false true (vS (Instr.loadAt 2 t20)) fun t21 =>
          .gop t16 false true (binS .gtr 2 (.tmp 21) (.const (.int .i64 1152921504606846976)) t21 (.int .i64 1152921504606846976)) fun t22 =>
          .op true (pickS t16 (.bool true) t22) fun t23 =>
          .done .normal [t23]
          ) fun tv =>
        .ite (tv.headD undef)
          (
          .done .ret [(.bool false)]
          )
          (
          .done .normal [(tx.headD undef)]
          )
        ) fun tv_1 =>
      .op true (binS .add 3 (.tmp 10) (.const (.int .i64 1)) (tx.tail.headD undef) (.int .i64 1)) fun t11 =>
      .done .normal [(tv_1.headD undef), t11]
      )
      (
      .done (.exit 0) [(tx.headD undef)]
      )
    ) fun tv_2 =>
  .bind
    (
    .op true (vS (Instr.fieldAt 23 t2 6)) fun t24 =>
    .op true (vS (Instr.loadAt 2 t24)) fun t25 =>
    .op true (binS .geq 2 (.tmp 25) (.const (.int .i64 1)) t25 (.int .i64 1)) fun t26 =>
    .gop t26 true true (vS (Instr.fieldAt 23 t2 6)) fun t28 =>
    .gop t26 true true (vS (Instr.loadAt 2 t28)) fun t29 =>
    .gop t26 true true (binS .leq 2 (.tmp 29) (.const (.int .i64 1099511627776)) t29 (.int .i64 1099511627776)) fun t30 =>
    .op true (pickS t26 t30 (.bool false)) fun t31 =>
    .done .normal [t31]
    ) fun tv_3 =>
  .done .ret [(tv_3.headD undef)]
def cx10 : Cx := { N := 32, res := [4], blk := [(0, [4]), (1, [4])], reg := [(4, [23]), (6, [4])] }
theorem eq10 (a0 : Value) (a1 : Value) : comp cx10 (bodyC Try.f10) false [] (env0 0 [a0, a1]) (fun e => retP cx10 false e) = p10 a0 a1 := by kernel_rfl

/-- damper/damperlaw21.alive -/
def p11 : Prog :=
  .op true (vS (Instr.build 23 #[(6, (.int .i64 3))])) fun t4 =>
  .op false (vS (Instr.alloc 23 true (.tuple #[]))) fun t1 =>
  .op false (uS (Instr.storeAt 23 t1 t4)) fun tu =>
  .op true (vS (Instr.build 29 #[(0, (.bool true)), (1, (.int .i64 10))])) fun t6 =>
  .op true (vS (Instr.loadAt 23 t1)) fun t7 =>
  .op false (callS (.func (.func 21) #[] #[]) [t6, t7]) fun t8 =>
  .op true (vS (Instr.extract t8 0)) fun t9 =>
  .op true (vS (Instr.extract t8 1)) fun t10 =>
  .bind
    (
    .gop t10 true true ((pure (.value t9))) fun t13 =>
    .gop t10 true true (binS .eql 2 (.tmp 13) (.const (.int .i64 13)) t13 (.int .i64 13)) fun t14 =>
    .op true (pickS t10 t14 (.bool false)) fun t15 =>
    .gop t15 true true (vS (Instr.build 29 #[])) fun t17 =>
    .gop t15 true false (callS (.func (.func 12) #[] #[]) [t17, (.int .i64 4), (.bool true)]) fun t18 =>
    .gop t15 true true (vS (Instr.build 29 #[(0, (.bool true)), (1, (.int .i64 4))])) fun t19 =>
    .gop t15 true true (binS .eql 29 (.tmp 18) (.tmp 19) t18 t19) fun t20 =>
    .op true (pickS t15 t20 (.bool false)) fun t21 =>
    .done .normal [t21]
    ) fun tv =>
  .done .ret [(tv.headD undef)]
def cx11 : Cx := { N := 22, res := [0], reg := [(3, [0])] }
theorem eq11 : comp cx11 (bodyC Try.f11) false [] (env0 0 []) (fun e => retP cx11 false e) = p11 := by kernel_rfl

/-- damper/limit.Next -/
def p12 (a0 : Value) (a1 : Value) (a2 : Value) : Prog :=
  .op false (vS (Instr.box 29 a0)) fun t3 =>
  .op false (vS (Instr.alloc 29 true (.tuple #[]))) fun t6 =>
  .op true (vS (Op.unary .not a2)) fun t8 =>
  .ite t8
    (
    .op true (vS (Instr.build 29 #[])) fun t9 =>
    .op false (uS (Instr.storeAt 29 t6 t9)) fun tu =>
    .done .ret [t6]
    )
    (
    .bind
      (
      .op true (vS (Instr.loadAt 29 t3)) fun t10 =>
      .op true (vS (Instr.build 29 #[])) fun t11 =>
      .op true (binS .eql 29 (.tmp 10) (.tmp 11) t10 t11) fun t12 =>
      .gop t12 false true (vS (Instr.fieldAt 29 t3 0)) fun t14 =>
      .gop t12 false true (vS (Instr.loadAt 4 t14)) fun t15 =>
      .gop t12 false true (vS (Op.unary .not t15)) fun t16 =>
      .op true (pickS t12 (.bool true) t16) fun t17 =>
      .done .normal [t17]
      ) fun tv =>
    .ite (tv.headD undef)
      (
      .op true (vS (Instr.build 29 #[(0, (.bool true)), (1, a1)])) fun t19 =>
      .op false (uS (Instr.storeAt 29 t6 t19)) fun tu_1 =>
      .done .ret [t6]
      )
      (
      .op true (vS (Instr.loadAt 29 t3)) fun t20 =>
      .op false (uS (Instr.storeAt 29 t6 t20)) fun tu_2 =>
      .done .ret [t6]
      )
    )
def cx12 : Cx := { N := 21, res := [6], reg := [(3, [17])] }
theorem eq12 (a0 : Value) (a1 : Value) (a2 : Value) : comp cx12 (bodyC Try.f12) false [] (env0 0 [a0, a1, a2]) (fun e => retP cx12 false e) = p12 a0 a1 a2 := by kernel_rfl

/-- damper/damperref21.Next -/
def p13 (a0 : Value) (a1 : Value) (a2 : Value) : Prog :=
  .op false (vS (Instr.box 30 a0)) fun t3 =>
  .op false (vS (Instr.alloc 30 true (.tuple #[]))) fun t6 =>
  .bind
    (
    .block 0 <|
    .op true (vS (Op.unary .not a2)) fun t9 =>
    .ite t9
      (
      .op true (vS (Instr.build 30 #[])) fun t10 =>
      .op false (uS (Instr.storeAt 30 t6 t10)) fun tu =>
      .done .ret [t6]
      )
      (
      .op true (vS (Instr.fieldAt 30 t3 0)) fun t12 =>
      .op true (vS (Instr.loadAt 4 t12)) fun t13 =>
      .ite t13
        (
        .op true (vS (Instr.loadAt 30 t3)) fun t14 =>
        .op false (uS (Instr.storeAt 30 t6 t14)) fun tu_1 =>
        .done .ret [t6]
        )
        (
        .done .normal []
        )
      )
    ) fun tv =>
  .op true (vS (Instr.build 30 #[(0, (.bool true)), (1, a1)])) fun t16 =>
  .op false (uS (Instr.storeAt 30 t6 t16)) fun tu_2 =>
  .done .ret [t6]
def cx13 : Cx := { N := 17, res := [6] }
theorem eq13 (a0 : Value) (a1 : Value) (a2 : Value) : comp cx13 (bodyC Try.f13) false [] (env0 0 [a0, a1, a2]) (fun e => retP cx13 false e) = p13 a0 a1 a2 := by kernel_rfl

/-- damper/damperlaw21.own -/
def p14 (a0 : Value) : Prog :=
  .op false (vS (Instr.box 30 a0)) fun t1 =>
  .op false (vS (Instr.alloc 29 true (.tuple #[]))) fun t2 =>
  .op true (vS (Instr.fieldAt 30 t1 0)) fun t3 =>
  .op true (vS (Instr.loadAt 4 t3)) fun t4 =>
  .op true (vS (Instr.fieldAt 30 t1 1)) fun t5 =>
  .op true (vS (Instr.loadAt 2 t5)) fun t6 =>
  .op true (vS (Instr.build 29 #[(0, t4), (1, t6)])) fun t7 =>
  .op false (uS (Instr.storeAt 29 t2 t7)) fun tu =>
  .done .ret [t2]
def cx14 : Cx := { N := 8, res := [2] }
theorem eq14 (a0 : Value) : comp cx14 (bodyC Try.f14) false [] (env0 0 [a0]) (fun e => retP cx14 false e) = p14 a0 := by kernel_rfl

/-- damper/limit.Fires -/
def p15 (a0 : Value) (a1 : Value) (a2 : Value) : Prog :=
  .op false (vS (Instr.box 29 a0)) fun t3 =>
  .op false (vS (Instr.box 23 a1)) fun t4 =>
  .op true (vS (Instr.loadAt 29 t3)) fun t10 =>
  .op true (vS (Instr.loadAt 23 t4)) fun t11 =>
  .op false (callS (.func (.func 21) #[] #[]) [t10, t11]) fun t12 =>
  .op true (vS (Instr.extract t12 0)) fun t13 =>
  .op true (vS (Instr.extract t12 1)) fun t14 =>
  .bind
    (
    .gop t14 true true ((pure (.value a2))) fun t17 =>
    .gop t14 true true ((pure (.value t13))) fun t18 =>
    .gop t14 true true (binS .geq 2 (.tmp 17) (.tmp 18) t17 t18) fun t19 =>
    .op true (pickS t14 t19 (.bool false)) fun t20 =>
    .done .normal [t20]
    ) fun tv =>
  .done .ret [(tv.headD undef)]
def cx15 : Cx := { N := 21, res := [6], reg := [(2, [6])] }
theorem eq15 (a0 : Value) (a1 : Value) (a2 : Value) : comp cx15 (bodyC Try.f15) false [] (env0 0 [a0, a1, a2]) (fun e => retP cx15 false e) = p15 a0 a1 a2 := by kernel_rfl

/-- damper/damperref21.Fires -/
def p16 (a0 : Value) (a1 : Value) (a2 : Value) : Prog :=
  .op false (vS (Instr.box 30 a0)) fun t3 =>
  .op false (vS (Instr.box 23 a1)) fun t4 =>
  .op true (vS (Instr.loadAt 30 t3)) fun t7 =>
  .op true (vS (Instr.loadAt 23 t4)) fun t8 =>
  .op false (callS (.func (.func 24) #[] #[]) [t7, t8, a2]) fun t10 =>
  .op true (binS .eql 2 (.tmp 10) (.const (.int .i64 0)) t10 (.int .i64 0)) fun t11 =>
  .done .ret [t11]
def cx16 : Cx := { N := 12, res := [6] }
theorem eq16 (a0 : Value) (a1 : Value) (a2 : Value) : comp cx16 (bodyC Try.f16) false [] (env0 0 [a0, a1, a2]) (fun e => retP cx16 false e) = p16 a0 a1 a2 := by kernel_rfl

/-- damper/damperlaw37.alive -/
def p17 : Prog :=
  .op false (callS (.func (.func 38) #[] #[]) [(.int .i64 1)]) fun t4 =>
  .op false (callS (.func (.func 37) #[] #[]) [t4]) fun t5 =>
  .op true (vS (Instr.extract t5 0)) fun t6 =>
  .op true (vS (Instr.extract t5 1)) fun t7 =>
  .bind
    (
    .op false (callS (.func (.func 18) #[] #[]) [(.int .u64 1)]) fun t8 =>
    .op false (callS (.func (.func 19) #[] #[]) [t8, (.int .i64 10)]) fun t9 =>
    .op true (binS .eql 2 (.tmp 9) (.const (.int .i64 4)) t9 (.int .i64 4)) fun t10 =>
    .gop t10 true true ((pure (.value t6))) fun t12 =>
    .gop t10 true true (binS .eql 2 (.tmp 12) (.const (.int .i64 10)) t12 (.int .i64 10)) fun t13 =>
    .op true (pickS t10 t13 (.bool false)) fun t14 =>
    .gop t14 true true ((pure (.value t7))) fun t16 =>
    .op true (pickS t14 t16 (.bool false)) fun t17 =>
    .done .normal [t17]
    ) fun tv =>
  .done .ret [(tv.headD undef)]
def cx17 : Cx := { N := 18, res := [0], reg := [(2, [0])] }
theorem eq17 : comp cx17 (bodyC Try.f17) false [] (env0 0 []) (fun e => retP cx17 false e) = p17 := by kernel_rfl

/-- damper/drill.New -/
def p18 (a0 : Value) : Prog :=
  .op true (vS (Instr.build 82 #[(0, a0)])) fun t4 =>
  .op false (vS (Instr.box 82 t4)) fun t5 =>
  .done .ret [t5]
def cx18 : Cx := { N := 6, res := [2] }
theorem eq18 (a0 : Value) : comp cx18 (bodyC Try.f18) false [] (env0 0 [a0]) (fun e => retP cx18 false e) = p18 a0 := by kernel_rfl

/-- (*damper/drill.Dice).Next -/
def p19 (a0 : Value) (a1 : Value) : Prog :=
  .bind
    (
    .op true (binS .eql 38 (.tmp 5) (.const (.pointer none)) a0 (.pointer none)) fun t6 =>
    .gop t6 false true ((pure (.value a1))) fun t8 =>
    .gop t6 false true (binS .lss 2 (.tmp 8) (.const (.int .i64 1)) t8 (.int .i64 1)) fun t9 =>
    .op true (pickS t6 (.bool true) t9) fun t10 =>
    .done .normal [t10]
    ) fun tv =>
  .ite (tv.headD undef)
    (
    .done .ret [(.int .i64 0)]
    )
    (
    .op true (nilS a0) fun t13 =>
    .op true (vS (Instr.fieldAt 82 t13 0)) fun t14 =>
    .op true (vS (Instr.loadAt 37 t14)) fun t15 =>
    .op true (binS .mul 37 (.tmp 15) (.const (.int .u64 6364136223846793005)) t15 (.int .u64 6364136223846793005)) fun t16 =>
    .op true (binS .add 37 (.tmp 16) (.const (.int .u64 1442695040888963407)) t16 (.int .u64 1442695040888963407)) fun t17 =>
    .op true (nilS a0) fun t18 =>
    .op true (vS (Instr.fieldAt 82 t18 0)) fun t19 =>
    .op false (uS (Instr.storeAt 37 t19 t17)) fun tu =>
    .op true (nilS a0) fun t21 =>
    .op true (vS (Instr.fieldAt 82 t21 0)) fun t22 =>
    .op true (vS (Instr.loadAt 37 t22)) fun t23 =>
    .op true (binS .shr 37 (.tmp 23) (.const (.int .u64 33)) t23 (.int .u64 33)) fun t24 =>
    .op true (vS (convert 37 2 t24)) fun t25 =>
    .op true (binS .rem 2 (.tmp 25) (.tmp 26) t25 a1) fun t27 =>
    .done .ret [t27]
    )
def cx19 : Cx := { N := 28, res := [4], reg := [(1, [10])] }
theorem eq19 (a0 : Value) (a1 : Value) : comp cx19 (bodyC Try.f19) false [] (env0 0 [a0, a1]) (fun e => retP cx19 false e) = p19 a0 a1 := by kernel_rfl

/-- (*damper/damperref37.Dice).Next -/
def p20 (a0 : Value) (a1 : Value) : Prog :=
  .op true (binS .lss 2 (.tmp 5) (.const (.int .i64 1)) a1 (.int .i64 1)) fun t6 =>
  .ite t6
    (
    .done .ret [(.int .i64 0)]
    )
    (
    .op true (nilS a0) fun t9 =>
    .op true (vS (Instr.fieldAt 42 t9 0)) fun t10 =>
    .op true (vS (Instr.loadAt 37 t10)) fun t11 =>
    .op true (binS .mul 37 (.tmp 11) (.const (.int .u64 6364136223846793005)) t11 (.int .u64 6364136223846793005)) fun t12 =>
    .op true (binS .add 37 (.tmp 12) (.const (.int .u64 1442695040888963407)) t12 (.int .u64 1442695040888963407)) fun t13 =>
    .op true (nilS a0) fun t14 =>
    .op true (vS (Instr.fieldAt 42 t14 0)) fun t15 =>
    .op false (uS (Instr.storeAt 37 t15 t13)) fun tu =>
    .op true (nilS a0) fun t17 =>
    .op true (vS (Instr.fieldAt 42 t17 0)) fun t18 =>
    .op true (vS (Instr.loadAt 37 t18)) fun t19 =>
    .op true (binS .quo 37 (.tmp 19) (.const (.int .u64 8589934592)) t19 (.int .u64 8589934592)) fun t20 =>
    .op true (vS (convert 37 2 t20)) fun t21 =>
    .op true (binS .rem 2 (.tmp 21) (.tmp 22) t21 a1) fun t23 =>
    .done .ret [t23]
    )
def cx20 : Cx := { N := 24, res := [4] }
theorem eq20 (a0 : Value) (a1 : Value) : comp cx20 (bodyC Try.f20) false [] (env0 0 [a0, a1]) (fun e => retP cx20 false e) = p20 a0 a1 := by kernel_rfl

/-- damper/limit.Due -/
def p21 (a0 : Value) (a1 : Value) : Prog :=
  .op false (vS (Instr.box 29 a0)) fun t2 =>
  .op false (vS (Instr.box 23 a1)) fun t3 =>
  .op true (vS (Instr.loadAt 29 t2)) fun t7 =>
  .op true (vS (Instr.fieldAt 23 t3 6)) fun t8 =>
  .op true (vS (Instr.loadAt 2 t8)) fun t9 =>
  .op true (vS (Instr.build 85 #[(0, t7), (1, t9)])) fun t10 =>
  .op false (vS (Instr.alloc 85 true (.tuple #[]))) fun t6 =>
  .op false (uS (Instr.storeAt 85 t6 t10)) fun tu =>
  .op true (vS (Instr.fieldAt 85 t6 0)) fun t11 =>
  .op true (vS (Instr.fieldAt 29 t11 0)) fun t12 =>
  .op true (vS (Instr.loadAt 4 t12)) fun t13 =>
  .op true (vS (Op.unary .not t13)) fun t14 =>
  .ite t14
    (
    .done .ret [(.int .i64 0), (.bool false)]
    )
    (
    .op true (vS (Instr.loadAt 85 t6)) fun t15 =>
    .op false (callS (.func (.func 39) #[] #[]) [t15]) fun t16 =>
    .done .ret [t16, (.bool true)]
    )
def cx21 : Cx := { N := 17, res := [4, 5] }
theorem eq21 (a0 : Value) (a1 : Value) : comp cx21 (bodyC Try.f21) false [] (env0 0 [a0, a1]) (fun e => retP cx21 false e) = p21 a0 a1 := by kernel_rfl

/-- damper/damperref21.Due -/
def p22 (a0 : Value) (a1 : Value) : Prog :=
  .op false (vS (Instr.box 30 a0)) fun t2 =>
  .op false (vS (Instr.box 23 a1)) fun t3 =>
  .op true (vS (Instr.fieldAt 30 t2 0)) fun t6 =>
  .op true (vS (Instr.loadAt 4 t6)) fun t7 =>
  .op true (vS (Op.unary .not t7)) fun t8 =>
  .ite t8
    (
    .done .ret [(.int .i64 0), (.bool false)]
    )
    (
    .op true (vS (Instr.fieldAt 30 t2 1)) fun t9 =>
    .op true (vS (Instr.loadAt 2 t9)) fun t10 =>
    .op true (vS (Instr.fieldAt 23 t3 6)) fun t11 =>
    .op true (vS (Instr.loadAt 2 t11)) fun t12 =>
    .op true (binS .add 2 (.tmp 10) (.tmp 12) t10 t12) fun t13 =>
    .done .ret [t13, (.bool true)]
    )
def cx22 : Cx := { N := 14, res := [4, 5] }
theorem eq22 (a0 : Value) (a1 : Value) : comp cx22 (bodyC Try.f22) false [] (env0 0 [a0, a1]) (fun e => retP cx22 false e) = p22 a0 a1 := by kernel_rfl

/-- damper/limit.Left -/
def p23 (a0 : Value) (a1 : Value) (a2 : Value) : Prog :=
  .op false (vS (Instr.box 29 a0)) fun t3 =>
  .op false (vS (Instr.box 23 a1)) fun t4 =>
  .op true (vS (Instr.loadAt 29 t3)) fun t8 =>
  .op true (vS (Instr.fieldAt 23 t4 6)) fun t9 =>
  .op true (vS (Instr.loadAt 2 t9)) fun t10 =>
  .op true (vS (Instr.build 85 #[(0, t8), (1, t10)])) fun t11 =>
  .bind
    (
    .block 0 <|
    .op true (vS (Instr.fieldAt 29 t3 0)) fun t14 =>
    .op true (vS (Instr.loadAt 4 t14)) fun t15 =>
    .op true (vS (Op.unary .not t15)) fun t16 =>
    .ite t16
      (
      .done .ret [(.int .i64 (-1))]
      )
      (
      .op true (vS (Instr.loadAt 29 t3)) fun t18 =>
      .op true (vS (Instr.loadAt 23 t4)) fun t19 =>
      .op false (callS (.func (.func 15) #[] #[]) [t18, t19, a2]) fun t21 =>
      .ite t21
        (
        .done .ret [(.int .i64 0)]
        )
        (
        .done .normal [(.int .i64 0)]
        )
      )
    ) fun tv =>
  .op false (callS (.func (.func 39) #[t11] #[]) []) fun t23 =>
  .op true (binS .sub 2 (.tmp 23) (.tmp 24) t23 a2) fun t25 =>
  .done .ret [t25]
def cx23 : Cx := { N := 26, res := [6], blk := [(0, [6])] }
theorem eq23 (a0 : Value) (a1 : Value) (a2 : Value) : comp cx23 (bodyC Try.f23) false [] (env0 0 [a0, a1, a2]) (fun e => retP cx23 false e) = p23 a0 a1 a2 := by kernel_rfl

/-- damper/damperref21.Left -/
def p24 (a0 : Value) (a1 : Value) (a2 : Value) : Prog :=
  .op false (vS (Instr.box 30 a0)) fun t3 =>
  .op false (vS (Instr.box 23 a1)) fun t4 =>
  .op true (vS (Instr.fieldAt 30 t3 0)) fun t7 =>
  .op true (vS (Instr.loadAt 4 t7)) fun t8 =>
  .op true (vS (Op.unary .not t8)) fun t9 =>
  .ite t9
    (
    .done .ret [(.int .i64 (-1))]
    )
    (
    .op true (vS (Instr.fieldAt 30 t3 1)) fun t10 =>
    .op true (vS (Instr.loadAt 2 t10)) fun t11 =>
    .op true (vS (Instr.fieldAt 23 t4 6)) fun t12 =>
    .op true (vS (Instr.loadAt 2 t12)) fun t13 =>
    .op true (binS .add 2 (.tmp 11) (.tmp 13) t11 t13) fun t14 =>
    .op true (binS .sub 2 (.tmp 14) (.tmp 15) t14 a2) fun t16 =>
    .op true (bltS .max #[2, 2] 2 #[false, true] [t16, (.int .i64 0)]) fun t17 =>
    .done .ret [t17]
    )
def cx24 : Cx := { N := 18, res := [6] }
theorem eq24 (a0 : Value) (a1 : Value) (a2 : Value) : comp cx24 (bodyC Try.f24) false [] (env0 0 [a0, a1, a2]) (fun e => retP cx24 false e) = p24 a0 a1 a2 := by kernel_rfl

/-- damper/drill.Each -/
def p25 : Prog :=
  .op false (vS (Instr.buildSlice 54 5 #[(0, (.string { data := #[99, 97, 108, 109] })), (1, (.string { data := #[99, 114, 97, 115, 104] })), (2, (.string { data := #[114, 97, 108, 108, 121] })), (3, (.string { data := #[99, 114, 111, 115, 115, 101, 100] })), (4, (.string { data := #[119, 105, 108, 100] }))])) fun t1 =>
  .op false (callS (.func (.func 40) #[] #[]) [t1]) fun t2 =>
  .done .ret [t2]
def cx25 : Cx := { N := 3, res := [0] }
theorem eq25 : comp cx25 (bodyC Try.f25) false [] (env0 0 []) (fun e => retP cx25 false e) = p25 := by kernel_rfl

/-- damper/damperref37.Names -/
def p26 : Prog :=
  .op false (vS (Instr.buildSlice 54 5 #[(0, (.string { data := #[99, 97, 108, 109] })), (1, (.string { data := #[99, 114, 97, 115, 104] })), (2, (.string { data := #[114, 97, 108, 108, 121] })), (3, (.string { data := #[99, 114, 111, 115, 115, 101, 100] })), (4, (.string { data := #[119, 105, 108, 100] }))])) fun t1 =>
  .done .ret [t1]
def cx26 : Cx := { N := 2, res := [0] }
theorem eq26 : comp cx26 (bodyC Try.f26) false [] (env0 0 []) (fun e => retP cx26 false e) = p26 := by kernel_rfl

/-- damper/damperlaw38.alive -/
def p27 : Prog :=
  .op true (vS (Instr.build 89 #[(4, (.int .i64 1))])) fun t5 =>
  .op true (vS (Instr.build 89 #[(4, (.int .i64 2))])) fun t6 =>
  .op true (vS (Instr.build 89 #[(4, (.int .i64 3))])) fun t7 =>
  .op false (vS (Instr.alloc 89 true (.tuple #[]))) fun t1 =>
  .op false (vS (Instr.alloc 89 true (.tuple #[]))) fun t2 =>
  .op false (vS (Instr.alloc 89 true (.tuple #[]))) fun t3 =>
  .op false (uS (Instr.storeAt 89 t1 t5)) fun tu =>
  .op false (uS (Instr.storeAt 89 t2 t6)) fun tu_1 =>
  .op false (uS (Instr.storeAt 89 t3 t7)) fun tu_2 =>
  .op true (vS (Instr.loadAt 89 t1)) fun t8 =>
  .op true (vS (Instr.loadAt 89 t2)) fun t9 =>
  .op false (vS (Instr.buildSlice 57 2 #[(0, t8), (1, t9)])) fun t10 =>
  .op true (vS (Instr.loadAt 89 t2)) fun t11 =>
  .op true (vS (Instr.loadAt 89 t3)) fun t12 =>
  .op false (vS (Instr.buildSlice 57 2 #[(0, t11), (1, t12)])) fun t13 =>
  .op false (callS (.func (.func 32) #[] #[]) [t10, t13]) fun t14 =>
  .bind
    (
    .op true (bltS .len #[62] 3 #[false] [t14]) fun t16 =>
    .op true (binS .eql 3 (.tmp 16) (.const (.int .i64 3)) t16 (.int .i64 3)) fun t17 =>
    .gop t17 true true ((pure (.value t14))) fun t19 =>
    .gop t17 true true (vS (Instr.indexAt 62 t19 (.int .i64 0))) fun t20 =>
    .gop t17 true true (vS (Instr.loadAt 68 t20)) fun t21 =>
    .gop t17 true true (vS (Instr.build 68 #[(0, (.int .i64 1))])) fun t22 =>
    .gop t17 true true (binS .eql 68 (.tmp 21) (.tmp 22) t21 t22) fun t23 =>
    .op true (pickS t17 t23 (.bool false)) fun t24 =>
    .gop t24 true true ((pure (.value t14))) fun t26 =>
    .gop t24 true true (vS (Instr.indexAt 62 t26 (.int .i64 1))) fun t27 =>
    .gop t24 true true (vS (Instr.loadAt 68 t27)) fun t28 =>
    .gop t24 true true (vS (Instr.build 68 #[(1, (.int .i64 1))])) fun t29 =>
    .gop t24 true true (binS .eql 68 (.tmp 28) (.tmp 29) t28 t29) fun t30 =>
    .op true (pickS t24 t30 (.bool false)) fun t31 =>
    .gop t31 true true ((pure (.value t14))) fun t33 =>
    .gop t31 true true (vS (Instr.indexAt 62 t33 (.int .i64 2))) fun t34 =>
    .gop t31 true true (vS (Instr.loadAt 68 t34)) fun t35 =>
    .gop t31 true true (vS (Instr.build 68 #[(0, (.int .i64 2)), (1, (.int .i64 2)), (2, (.int .i64 1))])) fun t36 =>
    .gop t31 true true (binS .eql 68 (.tmp 35) (.tmp 36) t35 t36) fun t37 =>
    .op true (pickS t31 t37 (.bool false)) fun t38 =>
    .done .normal [t38]
    ) fun tv =>
  .done .ret [(tv.headD undef)]
def cx27 : Cx := { N := 39, res := [0], reg := [(3, [0])] }
theorem eq27 : comp cx27 (bodyC Try.f27) false [] (env0 0 []) (fun e => retP cx27 false e) = p27 := by kernel_rfl

/-- damper/compare.Common -/
def p28 (a0 : Value) (a1 : Value) : Prog :=
  .bind
    (
    .op true (bltS .len #[57] 3 #[false] [a0]) fun t6 =>
    .op true (binS .gtr 3 (.tmp 6) (.const (.int .i64 300)) t6 (.int .i64 300)) fun t7 =>
    .gop t7 false true ((pure (.value a1))) fun t9 =>
    .gop t7 false true (bltS .len #[57] 3 #[false] [t9]) fun t10 =>
    .gop t7 false true (binS .gtr 3 (.tmp 10) (.const (.int .i64 300)) t10 (.int .i64 300)) fun t11 =>
    .op true (pickS t7 (.bool true) t11) fun t12 =>
    .done .normal [t12]
    ) fun tv =>
  .ite (tv.headD undef)
    (
    .done .ret [(.int .i64 (-1))]
    )
    (
    .op false (callS (.func (.func 41) #[] #[]) [a0, a1]) fun t15 =>
    .op false (callS (.func (.func 42) #[] #[]) [t15, (.int .i64 0), (.int .i64 0)]) fun t16 =>
    .done .ret [t16]
    )
def cx28 : Cx := { N := 17, res := [4], reg := [(1, [12])] }
theorem eq28 (a0 : Value) (a1 : Value) : comp cx28 (bodyC Try.f28) false [] (env0 0 [a0, a1]) (fun e => retP cx28 false e) = p28 a0 a1 := by kernel_rfl

/-- damper/damperref38.Common -/
def p29 (a0 : Value) (a1 : Value) : Prog :=
  .op false (callS (.func (.func 43) #[] #[]) [a0, a1]) fun t7 =>
  .ite t7
    (
    .done .ret [(.int .i64 (-1))]
    )
    (
    .op false (callS (.func (.func 44) #[] #[]) [a0, a1]) fun t10 =>
    .op true (vS (Instr.indexAt 94 t10 (.int .i64 0))) fun t11 =>
    .op true (vS (Instr.loadAt 93 t11)) fun t12 =>
    .op true (vS (Instr.indexAt 93 t12 (.int .i64 0))) fun t13 =>
    .op true (vS (Instr.loadAt 3 t13)) fun t14 =>
    .done .ret [t14]
    )
def cx29 : Cx := { N := 15, res := [4] }
theorem eq29 (a0 : Value) (a1 : Value) : comp cx29 (bodyC Try.f29) false [] (env0 0 [a0, a1]) (fun e => retP cx29 false e) = p29 a0 a1 := by kernel_rfl

/-- damper/damperref38.Same -/
def p30 (a0 : Value) (a1 : Value) : Prog :=
  .op true (bltS .len #[60] 3 #[false] [a0]) fun t7 =>
  .op true (bltS .len #[60] 3 #[false] [a1]) fun t9 =>
  .op true (binS .neq 3 (.tmp 7) (.tmp 9) t7 t9) fun t10 =>
  .ite t10
    (
    .done .ret [(.bool false)]
    )
    (
    .bind
      (
      .block 0 <|
      .loop [(.bool false), (.int .i64 0)] fun tx =>
      .op true (bltS .len #[60] 3 #[false] [a0]) fun t13 =>
      .op true (binS .lss 3 (.tmp 11) (.tmp 13) (tx.tail.headD undef) t13) fun t14 =>
      .ite t14
        (
        .bind
          (
          .block 1 <|
          .draw <|
          .op true (vS (Instr.indexAt 60 a0 (tx.tail.headD undef))) fun t19 =>
          .op true (vS (Instr.loadAt 67 t19)) fun t20 =>
          .op true (vS (Instr.indexAt 60 a1 (tx.tail.headD undef))) fun t23 =>
          .op true (vS (Instr.loadAt 67 t23)) fun t24 =>
          .op true (binS .neq 67 (.tmp 20) (.tmp 24) t20 t24) fun t25 =>
          .ite t25
            (
            .done .ret [(.bool false)]
            )
            (
            .done .normal [(tx.headD undef)]
            )
          ) fun tv =>
        .op true (binS .add 3 (.tmp 15) (.const (.int .i64 1)) (tx.tail.headD undef) (.int .i64 1)) fun t16 =>
        .done .normal [(tv.headD undef), t16]
        )
        (
        .done (.exit 0) [(tx.headD undef)]
        )
      ) fun tv_1 =>
    .done .ret [(.bool true)]
    )
def cx30 : Cx := { N := 26, res := [4], blk := [(0, [4]), (1, [4])] }
theorem eq30 (a0 : Value) (a1 : Value) : comp cx30 (bodyC Try.f30) false [] (env0 0 [a0, a1]) (fun e => retP cx30 false e) = p30 a0 a1 := by kernel_rfl

/-- damper/damperlaw38.back -/
def p31 (a0 : Value) : Prog :=
  .bind
    (
    .block 0 <|
    .loop [(.slice none 0 0), (.int .i64 0)] fun tx =>
    .op true (bltS .len #[62] 3 #[false] [a0]) fun t7 =>
    .op true (binS .lss 3 (.tmp 5) (.tmp 7) (tx.tail.headD undef) t7) fun t8 =>
    .ite t8
      (
      .bind
        (
        .block 1 <|
        .draw <|
        .op true (vS (Instr.indexAt 62 a0 (tx.tail.headD undef))) fun t14 =>
        .op true (vS (Instr.fieldAt 68 t14 0)) fun t15 =>
        .op true (vS (Instr.loadAt 3 t15)) fun t16 =>
        .op true (vS (Instr.indexAt 62 a0 (tx.tail.headD undef))) fun t19 =>
        .op true (vS (Instr.fieldAt 68 t19 1)) fun t20 =>
        .op true (vS (Instr.loadAt 3 t20)) fun t21 =>
        .op true (vS (Instr.indexAt 62 a0 (tx.tail.headD undef))) fun t24 =>
        .op true (vS (Instr.fieldAt 68 t24 2)) fun t25 =>
        .op true (vS (Instr.loadAt 3 t25)) fun t26 =>
        .op true (vS (Instr.build 67 #[(0, t16), (1, t21), (2, t26)])) fun t27 =>
        .op false (vS (Instr.buildSlice 60 1 #[(0, t27)])) fun t28 =>
        .op false (bltS .append #[60, 60] 60 #[false, false] [(tx.headD undef), t28]) fun t29 =>
        .done .normal [t29]
        ) fun tv =>
      .op true (binS .add 3 (.tmp 9) (.const (.int .i64 1)) (tx.tail.headD undef) (.int .i64 1)) fun t10 =>
      .done .normal [(tv.headD undef), t10]
      )
      (
      .done (.exit 0) [(tx.headD undef)]
      )
    ) fun tv_1 =>
  .done .ret [(tv_1.headD undef)]
def cx31 : Cx := { N := 31, res := [2], blk := [(0, [3]), (1, [3])] }
theorem eq31 (a0 : Value) : comp cx31 (bodyC Try.f31) false [] (env0 0 [a0]) (fun e => retP cx31 false e) = p31 a0 := by kernel_rfl

/-- damper/compare.Edits -/
def p32 (a0 : Value) (a1 : Value) : Prog :=
  .bind
    (
    .op true (bltS .len #[57] 3 #[false] [a0]) fun t11 =>
    .op true (binS .gtr 3 (.tmp 11) (.const (.int .i64 300)) t11 (.int .i64 300)) fun t12 =>
    .gop t12 false true ((pure (.value a1))) fun t14 =>
    .gop t12 false true (bltS .len #[57] 3 #[false] [t14]) fun t15 =>
    .gop t12 false true (binS .gtr 3 (.tmp 15) (.const (.int .i64 300)) t15 (.int .i64 300)) fun t16 =>
    .op true (pickS t12 (.bool true) t16) fun t17 =>
    .done .normal [t17]
    ) fun tv =>
  .ite (tv.headD undef)
    (
    .done .ret [(.slice none 0 0)]
    )
    (
    .op false (callS (.func (.func 41) #[] #[]) [a0, a1]) fun t20 =>
    .bind
      (
      .block 0 <|
      .loop [(.slice none 0 0), (.int .i64 0), (.int .i64 0)] fun tx =>
      .bind
        (
        .block 1 <|
        .bind
          (
          .op true (bltS .len #[57] 3 #[false] [a0]) fun t25 =>
          .op true (binS .eql 3 (.tmp 23) (.tmp 25) (tx.tail.headD undef) t25) fun t26 =>
          .gop t26 true true ((pure (.value (tx.tail.tail.headD undef)))) fun t28 =>
          .gop t26 true true ((pure (.value a1))) fun t29 =>
          .gop t26 true true (bltS .len #[57] 3 #[false] [t29]) fun t30 =>
          .gop t26 true true (binS .eql 3 (.tmp 28) (.tmp 30) t28 t30) fun t31 =>
          .op true (pickS t26 t31 (.bool false)) fun t32 =>
          .done .normal [t32]
          ) fun tv_1 =>
        .ite (tv_1.headD undef)
          (
          .done (.exit 0) [(tx.headD undef)]
          )
          (
          .op false (callS (.func (.func 45) #[t20] #[]) [(tx.tail.headD undef), (tx.tail.tail.headD undef)]) fun t36 =>
          .op false (vS (Instr.alloc 68 true (.tuple #[]))) fun t9 =>
          .op false (uS (Instr.storeAt 68 t9 t36)) fun tu =>
          .op true (vS (Instr.loadAt 68 t9)) fun t38 =>
          .op false (vS (Instr.buildSlice 62 1 #[(0, t38)])) fun t39 =>
          .op false (bltS .append #[62, 62] 62 #[false, false] [(tx.headD undef), t39]) fun t40 =>
          .op true (vS (Instr.fieldAt 68 t9 0)) fun t41 =>
          .op true (vS (Instr.loadAt 3 t41)) fun t42 =>
          .op true (binS .neq 3 (.tmp 42) (.const (.int .i64 2)) t42 (.int .i64 2)) fun t43 =>
          .bind
            (
            .ite t43
              (
              .op true (binS .add 3 (.tmp 44) (.const (.int .i64 1)) (tx.tail.headD undef) (.int .i64 1)) fun t45 =>
              .done .normal [t45]
              )
              (
              .done .normal [(tx.tail.headD undef)]
              )
            ) fun tv_2 =>
          .op true (vS (Instr.fieldAt 68 t9 0)) fun t46 =>
          .op true (vS (Instr.loadAt 3 t46)) fun t47 =>
          .op true (binS .neq 3 (.tmp 47) (.const (.int .i64 1)) t47 (.int .i64 1)) fun t48 =>
          .bind
            (
            .ite t48
              (
              .op true (binS .add 3 (.tmp 49) (.const (.int .i64 1)) (tx.tail.tail.headD undef) (.int .i64 1)) fun t50 =>
              .done .normal [t50]
              )
              (
              .done .normal [(tx.tail.tail.headD undef)]
              )
            ) fun tv_3 =>
          .done .normal [t40, (tv_2.headD undef), (tv_3.headD undef)]
          )
        ) fun tv_4 =>
      .done .normal [(tv_4.headD undef), (tv_4.tail.headD undef), (tv_4.tail.tail.headD undef)]
      ) fun tv_5 =>
    .done .ret [(tv_5.headD undef)]
    )
def cx32 : Cx := { N := 52, res := [4], blk := [(0, [4]), (1, [4, 7, 8])], cnd := [(43, [7]), (48, [8])], reg := [(1, [17]), (6, [32])] }
theorem eq32 (a0 : Value) (a1 : Value) : comp cx32 (bodyC Try.f32) false [] (env0 0 [a0, a1]) (fun e => retP cx32 false e) = p32 a0 a1 := by kernel_rfl

/-- damper/damperref38.Edits -/
def p33 (a0 : Value) (a1 : Value) : Prog :=
  .op false (callS (.func (.func 43) #[] #[]) [a0, a1]) fun t11 =>
  .ite t11
    (
    .done .ret [(.slice none 0 0)]
    )
    (
    .op false (callS (.func (.func 44) #[] #[]) [a0, a1]) fun t14 =>
    .bind
      (
      .block 0 <|
      .loop [(.int .i64 0), (.slice none 0 0), (.int .i64 0)] fun tx =>
      .bind
        (
        .op true (bltS .len #[57] 3 #[false] [a0]) fun t17 =>
        .op true (binS .lss 3 (.tmp 15) (.tmp 17) (tx.headD undef) t17) fun t18 =>
        .gop t18 false true ((pure (.value (tx.tail.tail.headD undef)))) fun t20 =>
        .gop t18 false true ((pure (.value a1))) fun t21 =>
        .gop t18 false true (bltS .len #[57] 3 #[false] [t21]) fun t22 =>
        .gop t18 false true (binS .lss 3 (.tmp 20) (.tmp 22) t20 t22) fun t23 =>
        .op true (pickS t18 (.bool true) t23) fun t24 =>
        .done .normal [t24]
        ) fun tv =>
      .ite (tv.headD undef)
        (
        .bind
          (
          .block 1 <|
          .bind
            (
            .block 2 <|
            .bind
              (
              .draw <|
              .op true (bltS .len #[57] 3 #[false] [a0]) fun t36 =>
              .op true (binS .lss 3 (.tmp 34) (.tmp 36) (tx.headD undef) t36) fun t37 =>
              .gop t37 true true ((pure (.value (tx.tail.tail.headD undef)))) fun t39 =>
              .gop t37 true true ((pure (.value a1))) fun t40 =>
              .gop t37 true true (bltS .len #[57] 3 #[false] [t40]) fun t41 =>
              .gop t37 true true (binS .lss 3 (.tmp 39) (.tmp 41) t39 t41) fun t42 =>
              .op true (pickS t37 t42 (.bool false)) fun t43 =>
              .gop t43 true true ((pure (.value a0))) fun t45 =>
              .gop t43 true true ((pure (.value (tx.headD undef)))) fun t46 =>
              .gop t43 true true (vS (Instr.indexAt 57 t45 t46)) fun t47 =>
              .gop t43 true true (vS (Instr.loadAt 89 t47)) fun t48 =>
              .gop t43 true true ((pure (.value a1))) fun t49 =>
              .gop t43 true true ((pure (.value (tx.tail.tail.headD undef)))) fun t50 =>
              .gop t43 true true (vS (Instr.indexAt 57 t49 t50)) fun t51 =>
              .gop t43 true true (vS (Instr.loadAt 89 t51)) fun t52 =>
              .gop t43 true true (binS .eql 89 (.tmp 48) (.tmp 52) t48 t52) fun t53 =>
              .op true (pickS t43 t53 (.bool false)) fun t54 =>
              .done .normal [t54]
              ) fun tv_1 =>
            .bind
              (
              .ite (tv_1.headD undef)
                (
                .op true (vS (Instr.build 67 #[(0, (.int .i64 0)), (1, (tx.headD undef)), (2, (tx.tail.tail.headD undef))])) fun t58 =>
                .op false (vS (Instr.buildSlice 60 1 #[(0, t58)])) fun t59 =>
                .op false (bltS .append #[60, 60] 60 #[false, false] [(tx.tail.headD undef), t59]) fun t60 =>
                .op true (binS .add 3 (.tmp 61) (.const (.int .i64 1)) (tx.headD undef) (.int .i64 1)) fun t62 =>
                .op true (binS .add 3 (.tmp 63) (.const (.int .i64 1)) (tx.tail.tail.headD undef) (.int .i64 1)) fun t64 =>
                .done .normal [t60, t62, t64]
                )
                (
                .bind
                  (
                  .draw <|
                  .op true (bltS .len #[57] 3 #[false] [a1]) fun t68 =>
                  .op true (binS .eql 3 (.tmp 66) (.tmp 68) (tx.tail.tail.headD undef) t68) fun t69 =>
                  .gop t69 false true ((pure (.value (tx.headD undef)))) fun t71 =>
                  .gop t69 false true ((pure (.value a0))) fun t72 =>
                  .gop t69 false true (bltS .len #[57] 3 #[false] [t72]) fun t73 =>
                  .gop t69 false true (binS .lss 3 (.tmp 71) (.tmp 73) t71 t73) fun t74 =>
                  .gop t69 false true ((pure (.value t74))) fun t75 =>
                  .gop t75 true true ((pure (.value t14))) fun t76 =>
                  .gop t75 true true ((pure (.value (tx.headD undef)))) fun t77 =>
                  .gop t75 true true (binS .add 3 (.tmp 77) (.const (.int .i64 1)) t77 (.int .i64 1)) fun t78 =>
                  .gop t75 true true (vS (Instr.indexAt 94 t76 t78)) fun t79 =>
                  .gop t75 true true (vS (Instr.loadAt 93 t79)) fun t80 =>
                  .gop t75 true true ((pure (.value (tx.tail.tail.headD undef)))) fun t81 =>
                  .gop t75 true true (vS (Instr.indexAt 93 t80 t81)) fun t82 =>
                  .gop t75 true true (vS (Instr.loadAt 3 t82)) fun t83 =>
                  .gop t75 true true ((pure (.value t14))) fun t84 =>
                  .gop t75 true true ((pure (.value (tx.headD undef)))) fun t85 =>
                  .gop t75 true true (vS (Instr.indexAt 94 t84 t85)) fun t86 =>
                  .gop t75 true true (vS (Instr.loadAt 93 t86)) fun t87 =>
                  .gop t75 true true ((pure (.value (tx.tail.tail.headD undef)))) fun t88 =>
                  .gop t75 true true (binS .add 3 (.tmp 88) (.const (.int .i64 1)) t88 (.int .i64 1)) fun t89 =>
                  .gop t75 true true (vS (Instr.indexAt 93 t87 t89)) fun t90 =>
                  .gop t75 true true (vS (Instr.loadAt 3 t90)) fun t91 =>
                  .gop t75 true true (binS .geq 3 (.tmp 83) (.tmp 91) t83 t91) fun t92 =>
                  .gop t69 false true (pickS t75 t92 (.bool false)) fun t93 =>
                  .op true (pickS t69 (.bool true) t93) fun t94 =>
                  .done .normal [t94]
                  ) fun tv_2 =>
                .bind
                  (
                  .ite (tv_2.headD undef)
                    (
                    .op true (vS (Instr.build 67 #[(0, (.int .i64 1)), (1, (tx.headD undef)), (2, (tx.tail.tail.headD undef))])) fun t98 =>
                    .op false (vS (Instr.buildSlice 60 1 #[(0, t98)])) fun t99 =>
                    .op false (bltS .append #[60, 60] 60 #[false, false] [(tx.tail.headD undef), t99]) fun t100 =>
                    .op true (binS .add 3 (.tmp 101) (.const (.int .i64 1)) (tx.headD undef) (.int .i64 1)) fun t102 =>
                    .done .normal [t100, t102, (tx.tail.tail.headD undef)]
                    )
                    (
                    .op true (vS (Instr.build 67 #[(0, (.int .i64 2)), (1, (tx.headD undef)), (2, (tx.tail.tail.headD undef))])) fun t28 =>
                    .op false (vS (Instr.buildSlice 60 1 #[(0, t28)])) fun t29 =>
                    .op false (bltS .append #[60, 60] 60 #[false, false] [(tx.tail.headD undef), t29]) fun t30 =>
                    .op true (binS .add 3 (.tmp 31) (.const (.int .i64 1)) (tx.tail.tail.headD undef) (.int .i64 1)) fun t32 =>
                    .done .normal [t30, (tx.headD undef), t32]
                    )
                  ) fun tv_3 =>
                .done .normal [(tv_3.headD undef), (tv_3.tail.headD undef), (tv_3.tail.tail.headD undef)]
                )
              ) fun tv_4 =>
            .done .normal [(tv_4.headD undef), (tv_4.tail.headD undef), (tv_4.tail.tail.headD undef)]
            ) fun tv_5 =>
          .done .normal [(tv_5.headD undef), (tv_5.tail.headD undef), (tv_5.tail.tail.headD undef)]
          ) fun tv_6 =>
        .done .normal [(tv_6.tail.headD undef), (tv_6.headD undef), (tv_6.tail.tail.headD undef)]
        )
        (
        .done (.exit 0) [(tx.tail.headD undef)]
        )
      ) fun tv_7 =>
    .done .ret [(tv_7.headD undef)]
    )
def cx33 : Cx := { N := 104, res := [4], blk := [(0, [6]), (1, [6, 7, 8]), (2, [6, 7, 8])], cnd := [(33, [6, 7, 8]), (65, [6, 7, 8])], reg := [(6, [24]), (9, [33]), (13, [65])] }
theorem eq33 (a0 : Value) (a1 : Value) : comp cx33 (bodyC Try.f33) false [] (env0 0 [a0, a1]) (fun e => retP cx33 false e) = p33 a0 a1 := by kernel_rfl

/-- damper/compare.Apply -/
def p34 (a0 : Value) (a1 : Value) (a2 : Value) : Prog :=
  .op true (bltS .len #[62] 3 #[false] [a2]) fun t13 =>
  .bind
    (
    .block 0 <|
    .loop [(.bool false), (.slice none 0 0), (.int .i64 0), (.int .i64 0), (.int .i64 0)] fun tx =>
    .op true (binS .lss 3 (.tmp 14) (.tmp 13) (tx.tail.tail.tail.tail.headD undef) t13) fun t15 =>
    .ite t15
      (
      .bind
        (
        .block 1 <|
        .op true (vS (Instr.indexAt 62 a2 (tx.tail.tail.tail.tail.headD undef))) fun t16 =>
        .op true (vS (Instr.loadAt 68 t16)) fun t17 =>
        .op false (vS (Instr.alloc 68 true (.tuple #[]))) fun t11 =>
        .op false (uS (Instr.storeAt 68 t11 t17)) fun tu =>
        .op true (vS (Instr.loadAt 68 t11)) fun t20 =>
        .op false (callS (.func (.func 46) #[] #[]) [a0, a1, t20, (tx.tail.tail.tail.headD undef), (tx.tail.tail.headD undef)]) fun t23 =>
        .op true (vS (Op.unary .not t23)) fun t24 =>
        .ite t24
          (
          .done .ret [(.slice none 0 0), (.bool false)]
          )
          (
          .op true (vS (Instr.fieldAt 68 t11 0)) fun t25 =>
          .op true (vS (Instr.loadAt 3 t25)) fun t26 =>
          .bind
            (
            .block 2 <|
            .bind
              (
              .block 5 <|
              .bind
                (
                .block 4 <|
                .bind
                  (
                  .block 3 <|
                  .op true (binS .eql 3 (.tmp 26) (.const (.int .i64 0)) t26 (.int .i64 0)) fun t28 =>
                  .ite t28
                    (
                    .done (.exit 3) []
                    )
                    (
                    .op true (binS .eql 3 (.tmp 26) (.const (.int .i64 2)) t26 (.int .i64 2)) fun t30 =>
                    .ite t30
                      (
                      .done (.exit 4) [(tx.tail.tail.tail.headD undef)]
                      )
                      (
                      .op true (binS .eql 3 (.tmp 26) (.const (.int .i64 1)) t26 (.int .i64 1)) fun t32 =>
                      .ite t32
                        (
                        .done (.exit 5) [(tx.tail.tail.tail.headD undef), (tx.tail.headD undef), (tx.tail.tail.headD undef)]
                        )
                        (
                        .done (.exit 2) [(tx.tail.tail.tail.headD undef), (tx.tail.headD undef), (tx.tail.tail.headD undef)]
                        )
                      )
                    )
                  ) fun tv =>
                .op true (binS .add 3 (.tmp 33) (.const (.int .i64 1)) (tx.tail.tail.tail.headD undef) (.int .i64 1)) fun t34 =>
                .done .normal [t34]
                ) fun tv_1 =>
              .op true (vS (Instr.indexAt 57 a1 (tx.tail.tail.headD undef))) fun t38 =>
              .op true (vS (Instr.loadAt 89 t38)) fun t39 =>
              .op false (vS (Instr.buildSlice 57 1 #[(0, t39)])) fun t40 =>
              .op false (bltS .append #[57, 57] 57 #[false, false] [(tx.tail.headD undef), t40]) fun t41 =>
              .op true (binS .add 3 (.tmp 42) (.const (.int .i64 1)) (tx.tail.tail.headD undef) (.int .i64 1)) fun t43 =>
              .done (.exit 2) [(tv_1.headD undef), t41, t43]
              ) fun tv_2 =>
            .op true (binS .add 3 (.tmp 44) (.const (.int .i64 1)) (tv_2.headD undef) (.int .i64 1)) fun t45 =>
            .done (.exit 2) [t45, (tv_2.tail.headD undef), (tv_2.tail.tail.headD undef)]
            ) fun tv_3 =>
          .done .normal [(tv_3.tail.headD undef), (tx.headD undef), (tv_3.headD undef), (tv_3.tail.tail.headD undef)]
          )
        ) fun tv_4 =>
      .op true (binS .add 3 (.tmp 14) (.const (.int .i64 1)) (tx.tail.tail.tail.tail.headD undef) (.int .i64 1)) fun t46 =>
      .done .normal [(tv_4.tail.headD undef), (tv_4.headD undef), (tv_4.tail.tail.tail.headD undef), (tv_4.tail.tail.headD undef), t46]
      )
      (
      .done (.exit 0) [(tx.tail.headD undef), (tx.headD undef), (tx.tail.tail.tail.headD undef), (tx.tail.tail.headD undef)]
      )
    ) fun tv_5 =>
  .bind
    (
    .op true (bltS .len #[57] 3 #[false] [a0]) fun t49 =>
    .op true (binS .lss 3 (.tmp 47) (.tmp 49) (tv_5.tail.tail.headD undef) t49) fun t50 =>
    .gop t50 false true ((pure (.value (tv_5.tail.tail.tail.headD undef)))) fun t52 =>
    .gop t50 false true ((pure (.value a1))) fun t53 =>
    .gop t50 false true (bltS .len #[57] 3 #[false] [t53]) fun t54 =>
    .gop t50 false true (binS .lss 3 (.tmp 52) (.tmp 54) t52 t54) fun t55 =>
    .op true (pickS t50 (.bool true) t55) fun t56 =>
    .done .normal [t56]
    ) fun tv_6 =>
  .ite (tv_6.headD undef)
    (
    .done .ret [(.slice none 0 0), (.bool false)]
    )
    (
    .done .ret [(tv_5.headD undef), (.bool true)]
    )
def cx34 : Cx := { N := 58, res := [6, 7], blk := [(0, [6, 7, 8, 9]), (1, [6, 7, 8, 9]), (2, [8, 6, 9]), (5, [8, 6, 9]), (4, [8])], reg := [(16, [56])] }
theorem eq34 (a0 : Value) (a1 : Value) (a2 : Value) : comp cx34 (bodyC Try.f34) false [] (env0 0 [a0, a1, a2]) (fun e => retP cx34 false e) = p34 a0 a1 a2 := by kernel_rfl

/-- damper/damperref38.Apply -/
def p35 (a0 : Value) (a1 : Value) (a2 : Value) : Prog :=
  .bind
    (
    .block 0 <|
    .loop [(.slice none 0 0), (.bool false), (.slice none 0 0), (.int .i64 0), (.int .i64 0), (.int .i64 0)] fun tx =>
    .op true (bltS .len #[60] 3 #[false] [a2]) fun t15 =>
    .op true (binS .lss 3 (.tmp 13) (.tmp 15) (tx.tail.tail.tail.tail.tail.headD undef) t15) fun t16 =>
    .ite t16
      (
      .bind
        (
        .block 1 <|
        .op true (vS (Instr.indexAt 60 a2 (tx.tail.tail.tail.tail.tail.headD undef))) fun t21 =>
        .op true (vS (Instr.loadAt 67 t21)) fun t22 =>
        .op false (vS (Instr.alloc 67 true (.tuple #[]))) fun t12 =>
        .op false (uS (Instr.storeAt 67 t12 t22)) fun tu =>
        .bind
          (
          .draw <|
          .op true (vS (Instr.fieldAt 67 t12 0)) fun t23 =>
          .op true (vS (Instr.loadAt 3 t23)) fun t24 =>
          .op true (binS .lss 3 (.tmp 24) (.const (.int .i64 0)) t24 (.int .i64 0)) fun t25 =>
          .gop t25 false true (vS (Instr.fieldAt 67 t12 0)) fun t27 =>
          .gop t25 false true (vS (Instr.loadAt 3 t27)) fun t28 =>
          .gop t25 false true (binS .gtr 3 (.tmp 28) (.const (.int .i64 2)) t28 (.int .i64 2)) fun t29 =>
          .op true (pickS t25 (.bool true) t29) fun t30 =>
          .gop t30 false true (vS (Instr.fieldAt 67 t12 1)) fun t32 =>
          .gop t30 false true (vS (Instr.loadAt 3 t32)) fun t33 =>
          .gop t30 false true ((pure (.value (tx.tail.tail.tail.tail.headD undef)))) fun t34 =>
          .gop t30 false true (binS .neq 3 (.tmp 33) (.tmp 34) t33 t34) fun t35 =>
          .op true (pickS t30 (.bool true) t35) fun t36 =>
          .gop t36 false true (vS (Instr.fieldAt 67 t12 2)) fun t38 =>
          .gop t36 false true (vS (Instr.loadAt 3 t38)) fun t39 =>
          .gop t36 false true ((pure (.value (tx.tail.tail.tail.headD undef)))) fun t40 =>
          .gop t36 false true (binS .neq 3 (.tmp 39) (.tmp 40) t39 t40) fun t41 =>
          .op true (pickS t36 (.bool true) t41) fun t42 =>
          .gop t42 false true (vS (Instr.fieldAt 67 t12 0)) fun t44 =>
          .gop t42 false true (vS (Instr.loadAt 3 t44)) fun t45 =>
          .gop t42 false true (binS .neq 3 (.tmp 45) (.const (.int .i64 2)) t45 (.int .i64 2)) fun t46 =>
          .gop t42 false true ((pure (.value t46))) fun t47 =>
          .gop t47 true true ((pure (.value (tx.tail.tail.tail.tail.headD undef)))) fun t48 =>
          .gop t47 true true ((pure (.value a0))) fun t49 =>
          .gop t47 true true (bltS .len #[57] 3 #[false] [t49]) fun t50 =>
          .gop t47 true true (binS .geq 3 (.tmp 48) (.tmp 50) t48 t50) fun t51 =>
          .gop t42 false true (pickS t47 t51 (.bool false)) fun t52 =>
          .op true (pickS t42 (.bool true) t52) fun t53 =>
          .gop t53 false true (vS (Instr.fieldAt 67 t12 0)) fun t55 =>
          .gop t53 false true (vS (Instr.loadAt 3 t55)) fun t56 =>
          .gop t53 false true (binS .neq 3 (.tmp 56) (.const (.int .i64 1)) t56 (.int .i64 1)) fun t57 =>
          .gop t53 false true ((pure (.value t57))) fun t58 =>
          .gop t58 true true ((pure (.value (tx.tail.tail.tail.headD undef)))) fun t59 =>
          .gop t58 true true ((pure (.value a1))) fun t60 =>
          .gop t58 true true (bltS .len #[57] 3 #[false] [t60]) fun t61 =>
          .gop t58 true true (binS .geq 3 (.tmp 59) (.tmp 61) t59 t61) fun t62 =>
          .gop t53 false true (pickS t58 t62 (.bool false)) fun t63 =>
          .op true (pickS t53 (.bool true) t63) fun t64 =>
          .gop t64 false true (vS (Instr.fieldAt 67 t12 0)) fun t66 =>
          .gop t64 false true (vS (Instr.loadAt 3 t66)) fun t67 =>
          .gop t64 false true (binS .eql 3 (.tmp 67) (.const (.int .i64 0)) t67 (.int .i64 0)) fun t68 =>
          .gop t64 false true ((pure (.value t68))) fun t69 =>
          .gop t69 true true ((pure (.value a0))) fun t70 =>
          .gop t69 true true ((pure (.value (tx.tail.tail.tail.tail.headD undef)))) fun t71 =>
          .gop t69 true true (vS (Instr.indexAt 57 t70 t71)) fun t72 =>
          .gop t69 true true (vS (Instr.loadAt 89 t72)) fun t73 =>
          .gop t69 true true ((pure (.value a1))) fun t74 =>
          .gop t69 true true ((pure (.value (tx.tail.tail.tail.headD undef)))) fun t75 =>
          .gop t69 true true (vS (Instr.indexAt 57 t74 t75)) fun t76 =>
          .gop t69 true true (vS (Instr.loadAt 89 t76)) fun t77 =>
          .gop t69 true true (binS .neq 89 (.tmp 73) (.tmp 77) t73 t77) fun t78 =>
          .gop t64 false true (pickS t69 t78 (.bool false)) fun t79 =>
          .op true (pickS t64 (.bool true) t79) fun t80 =>
          .done .normal [t80]
          ) fun tv =>
        .ite (tv.headD undef)
          (
          .done .ret [(.slice none 0 0), (.bool false)]
          )
          (
          .op true (vS (Instr.fieldAt 67 t12 0)) fun t81 =>
          .op true (vS (Instr.loadAt 3 t81)) fun t82 =>
          .op true (binS .neq 3 (.tmp 82) (.const (.int .i64 1)) t82 (.int .i64 1)) fun t83 =>
          .bind
            (
            .ite t83
              (
              .op true (vS (Instr.indexAt 57 a1 (tx.tail.tail.tail.headD undef))) fun t87 =>
              .op true (vS (Instr.loadAt 89 t87)) fun t88 =>
              .op false (vS (Instr.buildSlice 57 1 #[(0, t88)])) fun t89 =>
              .op false (bltS .append #[57, 57] 57 #[false, false] [(tx.tail.tail.headD undef), t89]) fun t90 =>
              .op true (binS .add 3 (.tmp 91) (.const (.int .i64 1)) (tx.tail.tail.tail.headD undef) (.int .i64 1)) fun t92 =>
              .done .normal [t90, t92]
              )
              (
              .done .normal [(tx.tail.tail.headD undef), (tx.tail.tail.tail.headD undef)]
              )
            ) fun tv_1 =>
          .op true (vS (Instr.fieldAt 67 t12 0)) fun t93 =>
          .op true (vS (Instr.loadAt 3 t93)) fun t94 =>
          .op true (binS .neq 3 (.tmp 94) (.const (.int .i64 2)) t94 (.int .i64 2)) fun t95 =>
          .bind
            (
            .ite t95
              (
              .op true (binS .add 3 (.tmp 96) (.const (.int .i64 1)) (tx.tail.tail.tail.tail.headD undef) (.int .i64 1)) fun t97 =>
              .done .normal [t97]
              )
              (
              .done .normal [(tx.tail.tail.tail.tail.headD undef)]
              )
            ) fun tv_2 =>
          .done .normal [(tx.headD undef), (tx.tail.headD undef), (tv_1.headD undef), (tv_1.tail.headD undef), (tv_2.headD undef)]
          )
        ) fun tv_3 =>
      .op true (binS .add 3 (.tmp 17) (.const (.int .i64 1)) (tx.tail.tail.tail.tail.tail.headD undef) (.int .i64 1)) fun t18 =>
      .done .normal [(tv_3.headD undef), (tv_3.tail.headD undef), (tv_3.tail.tail.headD undef), (tv_3.tail.tail.tail.headD undef), (tv_3.tail.tail.tail.tail.headD undef), t18]
      )
      (
      .done (.exit 0) [(tx.headD undef), (tx.tail.headD undef), (tx.tail.tail.headD undef), (tx.tail.tail.tail.headD undef), (tx.tail.tail.tail.tail.headD undef)]
      )
    ) fun tv_4 =>
  .bind
    (
    .op true (bltS .len #[57] 3 #[false] [a0]) fun t100 =>
    .op true (binS .lss 3 (.tmp 98) (.tmp 100) (tv_4.tail.tail.tail.tail.headD undef) t100) fun t101 =>
    .gop t101 false true ((pure (.value (tv_4.tail.tail.tail.headD undef)))) fun t103 =>
    .gop t101 false true ((pure (.value a1))) fun t104 =>
    .gop t101 false true (bltS .len #[57] 3 #[false] [t104]) fun t105 =>
    .gop t101 false true (binS .lss 3 (.tmp 103) (.tmp 105) t103 t105) fun t106 =>
    .op true (pickS t101 (.bool true) t106) fun t107 =>
    .done .normal [t107]
    ) fun tv_5 =>
  .ite (tv_5.headD undef)
    (
    .done .ret [(.slice none 0 0), (.bool false)]
    )
    (
    .done .ret [(tv_4.tail.tail.headD undef), (.bool true)]
    )
def cx35 : Cx := { N := 109, res := [6, 7], blk := [(0, [6, 7, 8, 10, 9]), (1, [6, 7, 8, 10, 9])], cnd := [(83, [8, 10]), (95, [9])], reg := [(7, [80]), (14, [107])] }
theorem eq35 (a0 : Value) (a1 : Value) (a2 : Value) : comp cx35 (bodyC Try.f35) false [] (env0 0 [a0, a1, a2]) (fun e => retP cx35 false e) = p35 a0 a1 a2 := by kernel_rfl

/-- damper/damperref06.Lists -/
def p36 (a0 : Value) (a1 : Value) : Prog :=
  .op true (bltS .len #[57] 3 #[false] [a0]) fun t7 =>
  .op true (bltS .len #[57] 3 #[false] [a1]) fun t9 =>
  .op true (binS .neq 3 (.tmp 7) (.tmp 9) t7 t9) fun t10 =>
  .ite t10
    (
    .done .ret [(.bool false)]
    )
    (
    .bind
      (
      .block 0 <|
      .loop [(.bool false), (.int .i64 0)] fun tx =>
      .op true (bltS .len #[57] 3 #[false] [a0]) fun t13 =>
      .op true (binS .lss 3 (.tmp 11) (.tmp 13) (tx.tail.headD undef) t13) fun t14 =>
      .ite t14
        (
        .bind
          (
          .block 1 <|
          .draw <|
          .op true (vS (Instr.indexAt 57 a0 (tx.tail.headD undef))) fun t19 =>
          .op true (vS (Instr.loadAt 89 t19)) fun t20 =>
          .op true (vS (Instr.indexAt 57 a1 (tx.tail.headD undef))) fun t23 =>
          .op true (vS (Instr.loadAt 89 t23)) fun t24 =>
          .op true (binS .neq 89 (.tmp 20) (.tmp 24) t20 t24) fun t25 =>
          .ite t25
            (
            .done .ret [(.bool false)]
            )
            (
            .done .normal [(tx.headD undef)]
            )
          ) fun tv =>
        .op true (binS .add 3 (.tmp 15) (.const (.int .i64 1)) (tx.tail.headD undef) (.int .i64 1)) fun t16 =>
        .done .normal [(tv.headD undef), t16]
        )
        (
        .done (.exit 0) [(tx.headD undef)]
        )
      ) fun tv_1 =>
    .done .ret [(.bool true)]
    )
def cx36 : Cx := { N := 26, res := [4], blk := [(0, [4]), (1, [4])] }
theorem eq36 (a0 : Value) (a1 : Value) : comp cx36 (bodyC Try.f36) false [] (env0 0 [a0, a1]) (fun e => retP cx36 false e) = p36 a0 a1 := by kernel_rfl

/-- damper/drill.Start -/
def p37 (a0 : Value) : Prog :=
  .op false (vS (Instr.box 79 a0)) fun t1 =>
  .op true (vS (Instr.fieldAt 79 t1 1)) fun t5 =>
  .op true (vS (Instr.loadAt 75 t5)) fun t6 =>
  .op false (callS (.func (.func 47) #[] #[]) [t6, (.func (.func 48) #[] #[])]) fun t7 =>
  .op true (binS .lss 3 (.tmp 8) (.const (.int .i64 0)) t7 (.int .i64 0)) fun t9 =>
  .ite t9
    (
    .done .ret [(.int .i64 0), (.bool false)]
    )
    (
    .op true (vS (Instr.fieldAt 79 t1 1)) fun t10 =>
    .op true (vS (Instr.loadAt 75 t10)) fun t11 =>
    .op true (vS (Instr.indexAt 75 t11 t7)) fun t13 =>
    .op true (vS (Instr.fieldAt 100 t13 0)) fun t14 =>
    .op true (vS (Instr.loadAt 2 t14)) fun t15 =>
    .done .ret [t15, (.bool true)]
    )
def cx37 : Cx := { N := 16, res := [2, 3] }
theorem eq37 (a0 : Value) : comp cx37 (bodyC Try.f37) false [] (env0 0 [a0]) (fun e => retP cx37 false e) = p37 a0 := by kernel_rfl

/-- damper/damperlaw07.Plain -/
def p38 (a0 : Value) : Prog :=
  .op false (vS (Instr.alloc 79 true (.tuple #[]))) fun t2 =>
  .op true (vS (Instr.build 23 #[(0, (.int .i64 5)), (1, (.int .i64 1000)), (2, (.int .i64 2000)), (3, (.int .i64 500)), (4, (.int .i64 20)), (5, (.int .i64 100)), (6, (.int .i64 3)), (7, (.int .i64 10)), (8, (.int .i64 5)), (9, (.int .i64 2)), (10, (.int .i64 500)), (11, (.int .i64 500)), (12, (.int .i64 1)), (13, (.int .i64 40)), (14, (.int .i64 12)), (15, (.int .i64 1000))])) fun t6 =>
  .op false (vS (Instr.alloc 23 true (.tuple #[]))) fun t3 =>
  .op false (uS (Instr.storeAt 23 t3 t6)) fun tu =>
  .op true (vS (Instr.build 100 #[(0, (.int .i64 5)), (1, (.int .i64 1))])) fun t7 =>
  .op true (vS (Instr.build 100 #[(0, (.int .i64 10)), (1, (.int .i64 2))])) fun t8 =>
  .op true (vS (Instr.build 100 #[(0, (.int .i64 500))])) fun t9 =>
  .op false (vS (Instr.buildSlice 75 3 #[(0, t7), (1, t8), (2, t9)])) fun t10 =>
  .op true (vS (Instr.build 76 #[(0, (.int .i64 700)), (1, (.int .i64 1300)), (2, (.int .i64 2000))])) fun t11 =>
  .op true (vS (Instr.build 77 #[(0, (.int .i64 15)), (1, (.int .i64 30))])) fun t12 =>
  .op true (vS (Instr.build 79 #[(1, t10), (2, (.int .i64 10000)), (3, t11), (4, t12)])) fun t13 =>
  .op false (vS (Instr.alloc 79 true (.tuple #[]))) fun t4 =>
  .op false (uS (Instr.storeAt 79 t4 t13)) fun tu_1 =>
  .bind
    (
    .block 0 <|
    .loop [(.int .i64 0)] fun tx =>
    .op true (binS .lss 3 (.tmp 14) (.tmp 15) (tx.headD undef) a0) fun t16 =>
    .ite t16
      (
      .bind
        (
        .block 1 <|
        .op true (vS (Instr.fieldAt 79 t4 0)) fun t19 =>
        .op true (vS (Instr.loadAt 74 t19)) fun t20 =>
        .op true (vS (Instr.loadAt 23 t3)) fun t21 =>
        .op false (vS (Instr.buildSlice 74 1 #[(0, t21)])) fun t22 =>
        .op false (bltS .append #[74, 74] 74 #[false, false] [t20, t22]) fun t23 =>
        .op true (vS (Instr.fieldAt 79 t4 0)) fun t24 =>
        .op false (uS (Instr.storeAt 74 t24 t23)) fun tu_2 =>
        .done .normal []
        ) fun tv =>
      .op true (binS .add 3 (.tmp 17) (.const (.int .i64 1)) (tx.headD undef) (.int .i64 1)) fun t18 =>
      .done .normal [t18]
      )
      (
      .done (.exit 0) []
      )
    ) fun tv_1 =>
  .op true (vS (Instr.loadAt 79 t4)) fun t25 =>
  .op false (uS (Instr.storeAt 79 t2 t25)) fun tu_3 =>
  .done .ret [t2]
def cx38 : Cx := { N := 26, res := [2] }
theorem eq38 (a0 : Value) : comp cx38 (bodyC Try.f38) false [] (env0 0 [a0]) (fun e => retP cx38 false e) = p38 a0 := by kernel_rfl

/-- (damper/limit.clock).due -/
def p39 (a0 : Value) : Prog :=
  .op false (vS (Instr.box 85 a0)) fun t1 =>
  .op true (vS (Instr.fieldAt 85 t1 0)) fun t3 =>
  .op true (vS (Instr.fieldAt 29 t3 1)) fun t4 =>
  .op true (vS (Instr.loadAt 2 t4)) fun t5 =>
  .op true (vS (Instr.fieldAt 85 t1 1)) fun t6 =>
  .op true (vS (Instr.loadAt 2 t6)) fun t7 =>
  .op true (binS .add 2 (.tmp 5) (.tmp 7) t5 t7) fun t8 =>
  .done .ret [t8]
def cx39 : Cx := { N := 9, res := [2] }
theorem eq39 (a0 : Value) : comp cx39 (bodyC Try.f39) false [] (env0 0 [a0]) (fun e => retP cx39 false e) = p39 a0 := by kernel_rfl

/-- slices.All[[]string,string] -/
def p40 (a0 : Value) : Prog :=
  .op false (vS (Instr.box 54 a0)) fun t1 =>
  .done .ret [(.func (.func 49) #[] #[t1])]
def cx40 : Cx := { N := 4, res := [2] }
theorem eq40 (a0 : Value) : comp cx40 (bodyC Try.f40) false [] (env0 0 [a0]) (fun e => retP cx40 false e) = p40 a0 := by kernel_rfl

/-- damper/compare.fill -/
def p41 (a0 : Value) (a1 : Value) : Prog :=
  .op true (bltS .len #[57] 3 #[false] [a0]) fun t13 =>
  .op true (binS .add 3 (.tmp 13) (.const (.int .i64 1)) t13 (.int .i64 1)) fun t14 =>
  .op true (bltS .len #[57] 3 #[false] [a1]) fun t16 =>
  .op true (binS .add 3 (.tmp 16) (.const (.int .i64 1)) t16 (.int .i64 1)) fun t17 =>
  .op true (binS .mul 3 (.tmp 14) (.tmp 17) t14 t17) fun t18 =>
  .op false (vS (Instr.makeSlice 93 t18 t18)) fun t19 =>
  .op true (vS (Instr.build 104 #[(0, a0), (1, a1), (2, t19)])) fun t20 =>
  .op false (vS (Instr.box 104 t20)) fun t21 =>
  .op true (bltS .len #[57] 3 #[false] [a0]) fun t25 =>
  .op true (binS .sub 3 (.tmp 25) (.const (.int .i64 1)) t25 (.int .i64 1)) fun t26 =>
  .bind
    (
    .block 0 <|
    .loop [t26] fun tx =>
    .op true (binS .geq 3 (.tmp 27) (.const (.int .i64 0)) (tx.headD undef) (.int .i64 0)) fun t28 =>
    .ite t28
      (
      .bind
        (
        .block 1 <|
        .op true (bltS .len #[57] 3 #[false] [a1]) fun t32 =>
        .op true (binS .sub 3 (.tmp 32) (.const (.int .i64 1)) t32 (.int .i64 1)) fun t33 =>
        .bind
          (
          .block 2 <|
          .loop [t33] fun tx_1 =>
          .op true (binS .geq 3 (.tmp 34) (.const (.int .i64 0)) (tx_1.headD undef) (.int .i64 0)) fun t35 =>
          .ite t35
            (
            .bind
              (
              .block 3 <|
              .op true (binS .add 3 (.tmp 39) (.const (.int .i64 1)) (tx.headD undef) (.int .i64 1)) fun t40 =>
              .op false (callS (.func (.func 42) #[t21] #[]) [t40, (tx_1.headD undef)]) fun t42 =>
              .op true (binS .add 3 (.tmp 45) (.const (.int .i64 1)) (tx_1.headD undef) (.int .i64 1)) fun t46 =>
              .op false (callS (.func (.func 42) #[t21] #[]) [(tx.headD undef), t46]) fun t47 =>
              .op true (bltS .max #[3, 3] 3 #[false, false] [t42, t47]) fun t48 =>
              .draw <|
              .op true (vS (Instr.indexAt 57 a0 (tx.headD undef))) fun t51 =>
              .op true (vS (Instr.loadAt 89 t51)) fun t52 =>
              .op true (vS (Instr.indexAt 57 a1 (tx_1.headD undef))) fun t55 =>
              .op true (vS (Instr.loadAt 89 t55)) fun t56 =>
              .op true (binS .eql 89 (.tmp 52) (.tmp 56) t52 t56) fun t57 =>
              .bind
                (
                .ite t57
                  (
                  .op true (binS .add 3 (.tmp 59) (.const (.int .i64 1)) (tx.headD undef) (.int .i64 1)) fun t60 =>
                  .op true (binS .add 3 (.tmp 61) (.const (.int .i64 1)) (tx_1.headD undef) (.int .i64 1)) fun t62 =>
                  .op false (callS (.func (.func 42) #[t21] #[]) [t60, t62]) fun t63 =>
                  .op true (binS .add 3 (.tmp 63) (.const (.int .i64 1)) t63 (.int .i64 1)) fun t64 =>
                  .done .normal [t64]
                  )
                  (
                  .done .normal [t48]
                  )
                ) fun tv =>
              .op true (nilS t21) fun t66 =>
              .op true (vS (Instr.fieldAt 104 t66 2)) fun t67 =>
              .op true (vS (Instr.loadAt 93 t67)) fun t68 =>
              .op true (bltS .len #[57] 3 #[false] [a1]) fun t71 =>
              .op true (binS .add 3 (.tmp 71) (.const (.int .i64 1)) t71 (.int .i64 1)) fun t72 =>
              .op true (binS .mul 3 (.tmp 69) (.tmp 72) (tx.headD undef) t72) fun t73 =>
              .op true (binS .add 3 (.tmp 73) (.tmp 74) t73 (tx_1.headD undef)) fun t75 =>
              .op true (vS (Instr.indexAt 93 t68 t75)) fun t77 =>
              .op false (uS (Instr.storeAt 3 t77 (tv.headD undef))) fun tu =>
              .done .normal []
              ) fun tv_1 =>
            .op true (binS .sub 3 (.tmp 36) (.const (.int .i64 1)) (tx_1.headD undef) (.int .i64 1)) fun t37 =>
            .done .normal [t37]
            )
            (
            .done (.exit 2) []
            )
          ) fun tv_2 =>
        .done .normal []
        ) fun tv_3 =>
      .op true (binS .sub 3 (.tmp 29) (.const (.int .i64 1)) (tx.headD undef) (.int .i64 1)) fun t30 =>
      .done .normal [t30]
      )
      (
      .done (.exit 0) []
      )
    ) fun tv_4 =>
  .done .ret [t21]
def cx41 : Cx := { N := 79, res := [4], cnd := [(57, [9])] }
theorem eq41 (a0 : Value) (a1 : Value) : comp cx41 (bodyC Try.f41) false [] (env0 0 [a0, a1]) (fun e => retP cx41 false e) = p41 a0 a1 := by kernel_rfl

/-- (*damper/compare.table).at -/
def p42 (a0 : Value) (a1 : Value) (a2 : Value) : Prog :=
  .draw <|
  .op true (nilS a0) fun t8 =>
  .op true (vS (Instr.fieldAt 104 t8 2)) fun t9 =>
  .op true (vS (Instr.loadAt 93 t9)) fun t10 =>
  .op true (nilS a0) fun t13 =>
  .op true (vS (Instr.fieldAt 104 t13 1)) fun t14 =>
  .op true (vS (Instr.loadAt 57 t14)) fun t15 =>
  .op true (bltS .len #[57] 3 #[false] [t15]) fun t16 =>
  .op true (binS .add 3 (.tmp 16) (.const (.int .i64 1)) t16 (.int .i64 1)) fun t17 =>
  .op true (binS .mul 3 (.tmp 11) (.tmp 17) a1 t17) fun t18 =>
  .op true (binS .add 3 (.tmp 18) (.tmp 19) t18 a2) fun t20 =>
  .op true (vS (Instr.indexAt 93 t10 t20)) fun t21 =>
  .op true (vS (Instr.loadAt 3 t21)) fun t22 =>
  .done .ret [t22]
def cx42 : Cx := { N := 23, res := [6] }
theorem eq42 (a0 : Value) (a1 : Value) (a2 : Value) : comp cx42 (bodyC Try.f42) false [] (env0 0 [a0, a1, a2]) (fun e => retP cx42 false e) = p42 a0 a1 a2 := by kernel_rfl

/-- damper/damperref38.long -/
def p43 (a0 : Value) (a1 : Value) : Prog :=
  .bind
    (
    .op true (bltS .len #[57] 3 #[false] [a0]) fun t6 =>
    .op true (binS .gtr 3 (.tmp 6) (.const (.int .i64 300)) t6 (.int .i64 300)) fun t7 =>
    .gop t7 false true ((pure (.value a1))) fun t9 =>
    .gop t7 false true (bltS .len #[57] 3 #[false] [t9]) fun t10 =>
    .gop t7 false true (binS .gtr 3 (.tmp 10) (.const (.int .i64 300)) t10 (.int .i64 300)) fun t11 =>
    .op true (pickS t7 (.bool true) t11) fun t12 =>
    .done .normal [t12]
    ) fun tv =>
  .done .ret [(tv.headD undef)]
def cx43 : Cx := { N := 13, res := [4], reg := [(1, [4])] }
theorem eq43 (a0 : Value) (a1 : Value) : comp cx43 (bodyC Try.f43) false [] (env0 0 [a0, a1]) (fun e => retP cx43 false e) = p43 a0 a1 := by kernel_rfl

/-- damper/damperref38.lengths -/
def p44 (a0 : Value) (a1 : Value) : Prog :=
  .op true (bltS .len #[57] 3 #[false] [a0]) fun t9 =>
  .op true (binS .add 3 (.tmp 9) (.const (.int .i64 1)) t9 (.int .i64 1)) fun t10 =>
  .op false (vS (Instr.makeSlice 94 t10 t10)) fun t11 =>
  .op true (bltS .len #[57] 3 #[false] [a0]) fun t13 =>
  .bind
    (
    .block 0 <|
    .loop [t13] fun tx =>
    .op true (binS .geq 3 (.tmp 14) (.const (.int .i64 0)) (tx.headD undef) (.int .i64 0)) fun t15 =>
    .ite t15
      (
      .bind
        (
        .block 1 <|
        .op true (bltS .len #[57] 3 #[false] [a1]) fun t21 =>
        .op true (binS .add 3 (.tmp 21) (.const (.int .i64 1)) t21 (.int .i64 1)) fun t22 =>
        .op false (vS (Instr.makeSlice 93 t22 t22)) fun t23 =>
        .op true (vS (Instr.indexAt 94 t11 (tx.headD undef))) fun t24 =>
        .op false (uS (Instr.storeAt 93 t24 t23)) fun tu =>
        .op true (bltS .len #[57] 3 #[false] [a1]) fun t26 =>
        .bind
          (
          .block 2 <|
          .loop [t26] fun tx_1 =>
          .op true (binS .geq 3 (.tmp 27) (.const (.int .i64 0)) (tx_1.headD undef) (.int .i64 0)) fun t28 =>
          .ite t28
            (
            .bind
              (
              .block 3 <|
              .bind
                (
                .op true (bltS .len #[57] 3 #[false] [a0]) fun t33 =>
                .op true (binS .eql 3 (.tmp 31) (.tmp 33) (tx.headD undef) t33) fun t34 =>
                .gop t34 false true ((pure (.value (tx_1.headD undef)))) fun t36 =>
                .gop t34 false true ((pure (.value a1))) fun t37 =>
                .gop t34 false true (bltS .len #[57] 3 #[false] [t37]) fun t38 =>
                .gop t34 false true (binS .eql 3 (.tmp 36) (.tmp 38) t36 t38) fun t39 =>
                .op true (pickS t34 (.bool true) t39) fun t40 =>
                .done .normal [t40]
                ) fun tv =>
              .ite (tv.headD undef)
                (
                .done (.exit 3) []
                )
                (
                .draw <|
                .op true (vS (Instr.indexAt 57 a0 (tx.headD undef))) fun t43 =>
                .op true (vS (Instr.loadAt 89 t43)) fun t44 =>
                .op true (vS (Instr.indexAt 57 a1 (tx_1.headD undef))) fun t47 =>
                .op true (vS (Instr.loadAt 89 t47)) fun t48 =>
                .op true (binS .eql 89 (.tmp 44) (.tmp 48) t44 t48) fun t49 =>
                .bind
                  (
                  .ite t49
                    (
                    .draw <|
                    .op true (vS (Instr.indexAt 94 t11 (tx.headD undef))) fun t52 =>
                    .op true (vS (Instr.loadAt 93 t52)) fun t53 =>
                    .op true (binS .add 3 (.tmp 56) (.const (.int .i64 1)) (tx.headD undef) (.int .i64 1)) fun t57 =>
                    .op true (vS (Instr.indexAt 94 t11 t57)) fun t58 =>
                    .op true (vS (Instr.loadAt 93 t58)) fun t59 =>
                    .op true (binS .add 3 (.tmp 60) (.const (.int .i64 1)) (tx_1.headD undef) (.int .i64 1)) fun t61 =>
                    .op true (vS (Instr.indexAt 93 t59 t61)) fun t62 =>
                    .op true (vS (Instr.loadAt 3 t62)) fun t63 =>
                    .op true (binS .add 3 (.tmp 63) (.const (.int .i64 1)) t63 (.int .i64 1)) fun t64 =>
                    .op true (vS (Instr.indexAt 93 t53 (tx_1.headD undef))) fun t65 =>
                    .op false (uS (Instr.storeAt 3 t65 t64)) fun tu_1 =>
                    .done .normal []
                    )
                    (
                    .draw <|
                    .op true (vS (Instr.indexAt 94 t11 (tx.headD undef))) fun t68 =>
                    .op true (vS (Instr.loadAt 93 t68)) fun t69 =>
                    .op true (binS .add 3 (.tmp 72) (.const (.int .i64 1)) (tx.headD undef) (.int .i64 1)) fun t73 =>
                    .op true (vS (Instr.indexAt 94 t11 t73)) fun t74 =>
                    .op true (vS (Instr.loadAt 93 t74)) fun t75 =>
                    .op true (vS (Instr.indexAt 93 t75 (tx_1.headD undef))) fun t77 =>
                    .op true (vS (Instr.loadAt 3 t77)) fun t78 =>
                    .op true (vS (Instr.indexAt 94 t11 (tx.headD undef))) fun t81 =>
                    .op true (vS (Instr.loadAt 93 t81)) fun t82 =>
                    .op true (binS .add 3 (.tmp 83) (.const (.int .i64 1)) (tx_1.headD undef) (.int .i64 1)) fun t84 =>
                    .op true (vS (Instr.indexAt 93 t82 t84)) fun t85 =>
                    .op true (vS (Instr.loadAt 3 t85)) fun t86 =>
                    .op true (bltS .max #[3, 3] 3 #[false, false] [t78, t86]) fun t87 =>
                    .op true (vS (Instr.indexAt 93 t69 (tx_1.headD undef))) fun t88 =>
                    .op false (uS (Instr.storeAt 3 t88 t87)) fun tu_2 =>
                    .done .normal []
                    )
                  ) fun tv_1 =>
                .done .normal []
                )
              ) fun tv_2 =>
            .op true (binS .sub 3 (.tmp 29) (.const (.int .i64 1)) (tx_1.headD undef) (.int .i64 1)) fun t30 =>
            .done .normal [t30]
            )
            (
            .done (.exit 2) []
            )
          ) fun tv_3 =>
        .done .normal []
        ) fun tv_4 =>
      .op true (binS .sub 3 (.tmp 16) (.const (.int .i64 1)) (tx.headD undef) (.int .i64 1)) fun t17 =>
      .done .normal [t17]
      )
      (
      .done (.exit 0) []
      )
    ) fun tv_5 =>
  .done .ret [t11]
def cx44 : Cx := { N := 90, res := [4], reg := [(9, [40])] }
theorem eq44 (a0 : Value) (a1 : Value) : comp cx44 (bodyC Try.f44) false [] (env0 0 [a0, a1]) (fun e => retP cx44 false e) = p44 a0 a1 := by kernel_rfl

/-- (*damper/compare.table).next -/
def p45 (a0 : Value) (a1 : Value) (a2 : Value) : Prog :=
  .op false (vS (Instr.alloc 68 true (.tuple #[]))) fun t6 =>
  .bind
    (
    .block 0 <|
    .bind
      (
      .draw <|
      .op true (nilS a0) fun t10 =>
      .op true (vS (Instr.fieldAt 104 t10 0)) fun t11 =>
      .op true (vS (Instr.loadAt 57 t11)) fun t12 =>
      .op true (bltS .len #[57] 3 #[false] [t12]) fun t13 =>
      .op true (binS .lss 3 (.tmp 8) (.tmp 13) a1 t13) fun t14 =>
      .gop t14 true true ((pure (.value a2))) fun t16 =>
      .gop t14 true true ((pure (.value a0))) fun t17 =>
      .gop t14 true true (nilS t17) fun t18 =>
      .gop t14 true true (vS (Instr.fieldAt 104 t18 1)) fun t19 =>
      .gop t14 true true (vS (Instr.loadAt 57 t19)) fun t20 =>
      .gop t14 true true (bltS .len #[57] 3 #[false] [t20]) fun t21 =>
      .gop t14 true true (binS .lss 3 (.tmp 16) (.tmp 21) t16 t21) fun t22 =>
      .op true (pickS t14 t22 (.bool false)) fun t23 =>
      .gop t23 true true ((pure (.value a0))) fun t25 =>
      .gop t23 true true (nilS t25) fun t26 =>
      .gop t23 true true (vS (Instr.fieldAt 104 t26 0)) fun t27 =>
      .gop t23 true true (vS (Instr.loadAt 57 t27)) fun t28 =>
      .gop t23 true true ((pure (.value a1))) fun t29 =>
      .gop t23 true true (vS (Instr.indexAt 57 t28 t29)) fun t30 =>
      .gop t23 true true (vS (Instr.loadAt 89 t30)) fun t31 =>
      .gop t23 true true ((pure (.value a0))) fun t32 =>
      .gop t23 true true (nilS t32) fun t33 =>
      .gop t23 true true (vS (Instr.fieldAt 104 t33 1)) fun t34 =>
      .gop t23 true true (vS (Instr.loadAt 57 t34)) fun t35 =>
      .gop t23 true true ((pure (.value a2))) fun t36 =>
      .gop t23 true true (vS (Instr.indexAt 57 t35 t36)) fun t37 =>
      .gop t23 true true (vS (Instr.loadAt 89 t37)) fun t38 =>
      .gop t23 true true (binS .eql 89 (.tmp 31) (.tmp 38) t31 t38) fun t39 =>
      .op true (pickS t23 t39 (.bool false)) fun t40 =>
      .done .normal [t40]
      ) fun tv =>
    .ite (tv.headD undef)
      (
      .op true (vS (Instr.build 68 #[(0, (.int .i64 0)), (1, a1), (2, a2)])) fun t43 =>
      .op false (uS (Instr.storeAt 68 t6 t43)) fun tu =>
      .done .ret [t6]
      )
      (
      .op true (nilS a0) fun t47 =>
      .op true (vS (Instr.fieldAt 104 t47 1)) fun t48 =>
      .op true (vS (Instr.loadAt 57 t48)) fun t49 =>
      .op true (bltS .len #[57] 3 #[false] [t49]) fun t50 =>
      .op true (binS .eql 3 (.tmp 45) (.tmp 50) a2 t50) fun t51 =>
      .ite t51
        (
        .op true (vS (Instr.build 68 #[(0, (.int .i64 1)), (1, a1), (2, a2)])) fun t54 =>
        .op false (uS (Instr.storeAt 68 t6 t54)) fun tu_1 =>
        .done .ret [t6]
        )
        (
        .bind
          (
          .op true (nilS a0) fun t58 =>
          .op true (vS (Instr.fieldAt 104 t58 0)) fun t59 =>
          .op true (vS (Instr.loadAt 57 t59)) fun t60 =>
          .op true (bltS .len #[57] 3 #[false] [t60]) fun t61 =>
          .op true (binS .lss 3 (.tmp 56) (.tmp 61) a1 t61) fun t62 =>
          .gop t62 true true ((pure (.value a0))) fun t64 =>
          .gop t62 true true ((pure (.value a1))) fun t65 =>
          .gop t62 true true (binS .add 3 (.tmp 65) (.const (.int .i64 1)) t65 (.int .i64 1)) fun t66 =>
          .gop t62 true true ((pure (.value a2))) fun t67 =>
          .gop t62 true false (callS (.func (.func 42) #[] #[]) [t64, t66, t67]) fun t68 =>
          .gop t62 true true ((pure (.value a0))) fun t69 =>
          .gop t62 true true ((pure (.value a1))) fun t70 =>
          .gop t62 true true ((pure (.value a2))) fun t71 =>
          .gop t62 true true (binS .add 3 (.tmp 71) (.const (.int .i64 1)) t71 (.int .i64 1)) fun t72 =>
          .gop t62 true false (callS (.func (.func 42) #[] #[]) [t69, t70, t72]) fun t73 =>
          .gop t62 true true (binS .geq 3 (.tmp 68) (.tmp 73) t68 t73) fun t74 =>
          .op true (pickS t62 t74 (.bool false)) fun t75 =>
          .done .normal [t75]
          ) fun tv_1 =>
        .ite (tv_1.headD undef)
          (
          .op true (vS (Instr.build 68 #[(0, (.int .i64 1)), (1, a1), (2, a2)])) fun t78 =>
          .op false (uS (Instr.storeAt 68 t6 t78)) fun tu_2 =>
          .done .ret [t6]
          )
          (
          .done .normal []
          )
        )
      )
    ) fun tv_2 =>
  .op true (vS (Instr.build 68 #[(0, (.int .i64 2)), (1, a1), (2, a2)])) fun t81 =>
  .op false (uS (Instr.storeAt 68 t6 t81)) fun tu_3 =>
  .done .ret [t6]
def cx45 : Cx := { N := 82, res := [6], reg := [(1, [7]), (5, [55])] }
theorem eq45 (a0 : Value) (a1 : Value) (a2 : Value) : comp cx45 (bodyC Try.f45) false [] (env0 0 [a0, a1, a2]) (fun e => retP cx45 false e) = p45 a0 a1 a2 := by kernel_rfl

/-- damper/compare.fits -/
def p46 (a0 : Value) (a1 : Value) (a2 : Value) (a3 : Value) (a4 : Value) : Prog :=
  .op false (vS (Instr.box 68 a2)) fun t7 =>
  .bind
    (
    .op true (vS (Instr.fieldAt 68 t7 1)) fun t11 =>
    .op true (vS (Instr.loadAt 3 t11)) fun t12 =>
    .op true (binS .neq 3 (.tmp 12) (.tmp 13) t12 a3) fun t14 =>
    .gop t14 false true (vS (Instr.fieldAt 68 t7 2)) fun t16 =>
    .gop t14 false true (vS (Instr.loadAt 3 t16)) fun t17 =>
    .gop t14 false true ((pure (.value a4))) fun t18 =>
    .gop t14 false true (binS .neq 3 (.tmp 17) (.tmp 18) t17 t18) fun t19 =>
    .op true (pickS t14 (.bool true) t19) fun t20 =>
    .done .normal [t20]
    ) fun tv =>
  .ite (tv.headD undef)
    (
    .done .ret [(.bool false)]
    )
    (
    .op true (vS (Instr.fieldAt 68 t7 0)) fun t21 =>
    .op true (vS (Instr.loadAt 3 t21)) fun t22 =>
    .bind
      (
      .block 0 <|
      .op true (binS .eql 3 (.tmp 22) (.const (.int .i64 0)) t22 (.int .i64 0)) fun t24 =>
      .ite t24
        (
        .bind
          (
          .draw <|
          .op true (bltS .len #[57] 3 #[false] [a0]) fun t27 =>
          .op true (binS .lss 3 (.tmp 25) (.tmp 27) a3 t27) fun t28 =>
          .gop t28 true true ((pure (.value a4))) fun t30 =>
          .gop t28 true true ((pure (.value a1))) fun t31 =>
          .gop t28 true true (bltS .len #[57] 3 #[false] [t31]) fun t32 =>
          .gop t28 true true (binS .lss 3 (.tmp 30) (.tmp 32) t30 t32) fun t33 =>
          .op true (pickS t28 t33 (.bool false)) fun t34 =>
          .gop t34 true true ((pure (.value a0))) fun t36 =>
          .gop t34 true true ((pure (.value a3))) fun t37 =>
          .gop t34 true true (vS (Instr.indexAt 57 t36 t37)) fun t38 =>
          .gop t34 true true (vS (Instr.loadAt 89 t38)) fun t39 =>
          .gop t34 true true ((pure (.value a1))) fun t40 =>
          .gop t34 true true ((pure (.value a4))) fun t41 =>
          .gop t34 true true (vS (Instr.indexAt 57 t40 t41)) fun t42 =>
          .gop t34 true true (vS (Instr.loadAt 89 t42)) fun t43 =>
          .gop t34 true true (binS .eql 89 (.tmp 39) (.tmp 43) t39 t43) fun t44 =>
          .op true (pickS t34 t44 (.bool false)) fun t45 =>
          .done .normal [t45]
          ) fun tv_1 =>
        .done .ret [(tv_1.headD undef)]
        )
        (
        .op true (binS .eql 3 (.tmp 22) (.const (.int .i64 1)) t22 (.int .i64 1)) fun t47 =>
        .ite t47
          (
          .op true (bltS .len #[57] 3 #[false] [a0]) fun t50 =>
          .op true (binS .lss 3 (.tmp 48) (.tmp 50) a3 t50) fun t51 =>
          .done .ret [t51]
          )
          (
          .op true (binS .eql 3 (.tmp 22) (.const (.int .i64 2)) t22 (.int .i64 2)) fun t53 =>
          .ite t53
            (
            .op true (bltS .len #[57] 3 #[false] [a1]) fun t56 =>
            .op true (binS .lss 3 (.tmp 54) (.tmp 56) a4 t56) fun t57 =>
            .done .ret [t57]
            )
            (
            .done .normal [(.bool false)]
            )
          )
        )
      ) fun tv_2 =>
    .done .ret [(.bool false)]
    )
def cx46 : Cx := { N := 58, res := [10], blk := [(0, [10])], reg := [(1, [20]), (5, [10])] }
theorem eq46 (a0 : Value) (a1 : Value) (a2 : Value) (a3 : Value) (a4 : Value) : comp cx46 (bodyC Try.f46) false [] (env0 0 [a0, a1, a2, a3, a4]) (fun e => retP cx46 false e) = p46 a0 a1 a2 a3 a4 := by kernel_rfl

/-- slices.IndexFunc[[]damper/api.Row,damper/api.Row] -/
def p47 (a0 : Value) (a1 : Value) : Prog :=
  .op true (bltS .len #[75] 3 #[false] [a0]) fun t7 =>
  .bind
    (
    .block 0 <|
    .loop [(.int .i64 0), (.int .i64 0)] fun tx =>
    .op true (binS .lss 3 (.tmp 8) (.tmp 7) (tx.tail.headD undef) t7) fun t9 =>
    .ite t9
      (
      .bind
        (
        .block 1 <|
        .op true (vS (Instr.indexAt 75 a0 (tx.tail.headD undef))) fun t14 =>
        .op true (vS (Instr.loadAt 100 t14)) fun t15 =>
        .op false (callS a1 [t15]) fun t16 =>
        .ite t16
          (
          .done .ret [(tx.tail.headD undef)]
          )
          (
          .done .normal [(tx.headD undef)]
          )
        ) fun tv =>
      .op true (binS .add 3 (.tmp 8) (.const (.int .i64 1)) (tx.tail.headD undef) (.int .i64 1)) fun t18 =>
      .done .normal [(tv.headD undef), t18]
      )
      (
      .done (.exit 0) [(tx.headD undef)]
      )
    ) fun tv_1 =>
  .done .ret [(.int .i64 (-1))]
def cx47 : Cx := { N := 19, res := [4], blk := [(0, [4]), (1, [4])] }
theorem eq47 (a0 : Value) (a1 : Value) : comp cx47 (bodyC Try.f47) false [] (env0 0 [a0, a1]) (fun e => retP cx47 false e) = p47 a0 a1 := by kernel_rfl

/-- damper/drill.Start$1 -/
def p48 (a0 : Value) : Prog :=
  .op false (vS (Instr.box 100 a0)) fun t1 =>
  .op true (vS (Instr.fieldAt 100 t1 1)) fun t3 =>
  .op true (vS (Instr.loadAt 3 t3)) fun t4 =>
  .op true (binS .eql 3 (.tmp 4) (.const (.int .i64 2)) t4 (.int .i64 2)) fun t5 =>
  .done .ret [t5]
def cx48 : Cx := { N := 6, res := [2] }
theorem eq48 (a0 : Value) : comp cx48 (bodyC Try.f48) false [] (env0 0 [a0]) (fun e => retP cx48 false e) = p48 a0 := by kernel_rfl

/-- slices.All[[]string,string]$1 -/
def p49 (a0 : Value) (a1 : Value) : Prog :=
  .op true (vS (Instr.loadAt 54 a1)) fun t5 =>
  .op true (bltS .len #[54] 3 #[false] [t5]) fun t6 =>
  .bind
    (
    .block 0 <|
    .loop [(.int .i64 0)] fun tx =>
    .op true (binS .lss 3 (.tmp 7) (.tmp 6) (tx.headD undef) t6) fun t8 =>
    .ite t8
      (
      .bind
        (
        .block 1 <|
        .op true (vS (Instr.indexAt 54 t5 (tx.headD undef))) fun t10 =>
        .op true (vS (Instr.loadAt 9 t10)) fun t11 =>
        .op false (callS a0 [(tx.headD undef), t11]) fun t15 =>
        .op true (vS (Op.unary .not t15)) fun t16 =>
        .ite t16
          (
          .done .ret []
          )
          (
          .done .normal []
          )
        ) fun tv =>
      .op true (binS .add 3 (.tmp 7) (.const (.int .i64 1)) (tx.headD undef) (.int .i64 1)) fun t17 =>
      .done .normal [t17]
      )
      (
      .done (.exit 0) []
      )
    ) fun tv_1 =>
  .done .ret []
def cx49 : Cx := { N := 18, res := [] }
theorem eq49 (a0 : Value) (a1 : Value) : comp cx49 (bodyC Try.f49) false [] (env0 0 [a0, a1]) (fun e => retP cx49 false e) = p49 a0 a1 := by kernel_rfl

end Go.Proofs.Ytllchkmggfcdgaa
