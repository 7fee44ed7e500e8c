/-
  The functions of the program as Progs; each the one that comp makes of its code.
-/
import Derived.Test.YtipgdalebkhgpaaChecked
import Derived.Test.YtipgdalebkhgpaaFw7
set_option maxRecDepth 100000
set_option linter.unusedVariables false
namespace Go.Proofs.Ytipgdalebkhgpaa
open Go Go.RowKit Fw Prog
/-- damper/command.Encode -/
def p91 (a0 : Value) : Prog :=
  .op false (vS (Instr.box 62 a0)) fun t1 =>
  .op true (vS (Instr.loadAt 62 t1)) fun t5 =>
  .op false (callS (.func (.func 128) #[] #[]) [t5]) fun t6 =>
  .op true (vS (Op.unary .not t6)) fun t7 =>
  .ite t7
    (
    .done .ret [(.slice none 0 0), (.int .i64 1)]
    )
    (
    .op true (vS (Instr.build 193 #[])) fun t8 =>
    .op false (vS (Instr.box 193 t8)) fun t9 =>
    .draw <|
    .op true (vS (Instr.fieldAt 62 t1 0)) fun t11 =>
    .op true (vS (Instr.loadAt 3 t11)) fun t12 =>
    .op true (vS (convert 3 5 t12)) fun t13 =>
    .op true (vS (Instr.fieldAt 62 t1 1)) fun t14 =>
    .op true (vS (Instr.loadAt 3 t14)) fun t15 =>
    .op true (vS (convert 3 5 t15)) fun t16 =>
    .op true (vS (Instr.fieldAt 62 t1 2)) fun t19 =>
    .op true (vS (Instr.loadAt 2 t19)) fun t20 =>
    .op true (vS (convert 2 54 t20)) fun t21 =>
    .op false (vS (Instr.buildSlice 130 2 #[(0, t13), (1, t16)])) fun t17 =>
    .chk none (vS (convert 2 54 t20)) t21 <|
    .chk none (vS (Instr.loadAt 2 t19)) t20 <|
    .chk none (vS (Instr.fieldAt 62 t1 2)) t19 <|
    .op false (callS (.func (.func 129) #[] #[]) [t9, t17]) fun t18 =>
    .chk none (vS (convert 2 54 t20)) t21 <|
    .chk none (vS (Instr.loadAt 2 t19)) t20 <|
    .chk none (vS (Instr.fieldAt 62 t1 2)) t19 <|
    .op false (callS (.func (.func 130) #[] #[]) [t18, t21]) fun t22 =>
    .op true (vS (Instr.fieldAt 62 t1 0)) fun t23 =>
    .op true (vS (Instr.loadAt 3 t23)) fun t24 =>
    .op true (binS .eql 3 (.tmp 24) (.const (.int .i64 1)) t24 (.int .i64 1)) fun t25 =>
    .bind
      (
      .ite t25
        (
        .draw <|
        .op true (vS (Instr.fieldAt 62 t1 3)) fun t27 =>
        .op true (vS (Instr.loadAt 3 t27)) fun t28 =>
        .op true (vS (convert 3 54 t28)) fun t29 =>
        .op true (vS (Instr.fieldAt 62 t1 4)) fun t31 =>
        .op true (vS (Instr.loadAt 3 t31)) fun t32 =>
        .op true (vS (convert 3 5 t32)) fun t33 =>
        .op true (vS (Instr.fieldAt 62 t1 5)) fun t34 =>
        .op true (vS (Instr.loadAt 3 t34)) fun t35 =>
        .op true (vS (convert 3 5 t35)) fun t36 =>
        .op true (vS (Instr.fieldAt 62 t1 8)) fun t37 =>
        .op true (vS (Instr.loadAt 3 t37)) fun t38 =>
        .op true (vS (convert 3 5 t38)) fun t39 =>
        .alt
          (
          .op false (callS (.func (.func 130) #[] #[]) [t9, t29]) fun t30 =>
          .chk none (vS (convert 3 5 t38)) t39 <|
          .chk none (vS (Instr.loadAt 3 t37)) t38 <|
          .chk none (vS (Instr.fieldAt 62 t1 8)) t37 <|
          .chk none (vS (convert 3 5 t35)) t36 <|
          .chk none (vS (Instr.loadAt 3 t34)) t35 <|
          .chk none (vS (Instr.fieldAt 62 t1 5)) t34 <|
          .chk none (vS (convert 3 5 t32)) t33 <|
          .chk none (vS (Instr.loadAt 3 t31)) t32 <|
          .chk none (vS (Instr.fieldAt 62 t1 4)) t31 <|
          .op false (vS (Instr.buildSlice 130 3 #[(0, t33), (1, t36), (2, t39)])) fun t40 =>
          .op false (callS (.func (.func 129) #[] #[]) [t30, t40]) fun t41 =>
          .done .normal []
          )
          (
          .op false (vS (Instr.buildSlice 130 3 #[(0, t33), (1, t36), (2, t39)])) fun t40_1 =>
          .chk none (vS (convert 3 54 t28)) t29 <|
          .chk none (vS (Instr.loadAt 3 t27)) t28 <|
          .chk none (vS (Instr.fieldAt 62 t1 3)) t27 <|
          .op false (callS (.func (.func 130) #[] #[]) [t9, t29]) fun t30_1 =>
          .op false (callS (.func (.func 129) #[] #[]) [t30_1, t40_1]) fun t41_1 =>
          .done .normal []
          )
        )
        (
        .done .normal []
        )
      ) fun tv =>
    .op true (vS (Instr.fieldAt 62 t1 0)) fun t42 =>
    .op true (vS (Instr.loadAt 3 t42)) fun t43 =>
    .op true (binS .neq 3 (.tmp 43) (.const (.int .i64 2)) t43 (.int .i64 2)) fun t44 =>
    .bind
      (
      .ite t44
        (
        .draw <|
        .op true (vS (Instr.fieldAt 62 t1 6)) fun t46 =>
        .op true (vS (Instr.loadAt 2 t46)) fun t47 =>
        .op true (vS (Instr.fieldAt 62 t1 7)) fun t49 =>
        .op true (vS (Instr.loadAt 2 t49)) fun t50 =>
        .op false (callS (.func (.func 131) #[] #[]) [t9, t47]) fun t48 =>
        .chk none (vS (Instr.loadAt 2 t49)) t50 <|
        .chk none (vS (Instr.fieldAt 62 t1 7)) t49 <|
        .op false (callS (.func (.func 131) #[] #[]) [t48, t50]) fun t51 =>
        .done .normal []
        )
        (
        .done .normal []
        )
      ) fun tv_1 =>
    .op false (callS (.func (.func 132) #[] #[]) [t9]) fun t53 =>
    .done .ret [t53, (.int .i64 0)]
    )
def cx91 : Cx := { N := 54, res := [2, 3] }
theorem eq91 (a0 : Value) : comp cx91 (bodyC Try.f91) false [] (env0 0 [a0]) (fun e => retP cx91 false e) = p91 a0 := by kernel_rfl

/-- damper/damperref05.Encode -/
def p92 (a0 : Value) : Prog :=
  .op false (vS (Instr.box 62 a0)) fun t1 =>
  .op true (vS (Instr.loadAt 62 t1)) fun t4 =>
  .op false (callS (.func (.func 133) #[] #[]) [t4]) fun t5 =>
  .op true (vS (Op.unary .not t5)) fun t6 =>
  .ite t6
    (
    .done .ret [(.slice none 0 0), (.int .i64 1)]
    )
    (
    .op true (vS (Instr.loadAt 62 t1)) fun t7 =>
    .op false (callS (.func (.func 134) #[] #[]) [t7]) fun t8 =>
    .done .ret [t8, (.int .i64 0)]
    )
def cx92 : Cx := { N := 9, res := [2, 3] }
theorem eq92 (a0 : Value) : comp cx92 (bodyC Try.f92) false [] (env0 0 [a0]) (fun e => retP cx92 false e) = p92 a0 := by kernel_rfl

/-- damper/config.all -/
def p93 (a0 : Value) (a1 : Value) (a2 : Value) : Prog :=
  .op false (vS (Instr.box 2 a0)) fun t3 =>
  .op false (vS (Instr.box 2 a1)) fun t4 =>
  .op false (callS (.func (.func 135) #[] #[]) [a2, (.func (.func 136) #[] #[t3, t4])]) fun t9 =>
  .op true (vS (Op.unary .not t9)) fun t10 =>
  .done .ret [t10]
def cx93 : Cx := { N := 11, res := [6] }
theorem eq93 (a0 : Value) (a1 : Value) (a2 : Value) : comp cx93 (bodyC Try.f93) false [] (env0 0 [a0, a1, a2]) (fun e => retP cx93 false e) = p93 a0 a1 a2 := by kernel_rfl

/-- damper/config.Symbol -/
def p94 (a0 : Value) : Prog :=
  .op false (vS (Instr.box 123 a0)) fun t1 =>
  .op true (vS (Instr.build 168 #[(0, (.func (.func 137) #[] #[t1])), (1, (.int .i64 9))])) fun t4 =>
  .op true (vS (Instr.build 168 #[(0, (.func (.func 138) #[] #[t1])), (1, (.int .i64 8))])) fun t6 =>
  .op true (vS (Instr.build 168 #[(0, (.func (.func 139) #[] #[t1])), (1, (.int .i64 9))])) fun t8 =>
  .op true (vS (Instr.build 168 #[(0, (.func (.func 140) #[] #[t1])), (1, (.int .i64 9))])) fun t10 =>
  .op true (vS (Instr.build 168 #[(0, (.func (.func 141) #[] #[t1])), (1, (.int .i64 9))])) fun t12 =>
  .op true (vS (Instr.build 168 #[(0, (.func (.func 142) #[] #[t1])), (1, (.int .i64 9))])) fun t14 =>
  .op true (vS (Instr.build 168 #[(0, (.func (.func 143) #[] #[t1])), (1, (.int .i64 11))])) fun t16 =>
  .op false (vS (Instr.buildSlice 200 7 #[(0, t4), (1, t6), (2, t8), (3, t10), (4, t12), (5, t14), (6, t16)])) fun t17 =>
  .op false (callS (.func (.func 97) #[] #[]) [t17]) fun t18 =>
  .done .ret [t18]
def cx94 : Cx := { N := 19, res := [2] }
theorem eq94 (a0 : Value) : comp cx94 (bodyC Try.f94) false [] (env0 0 [a0]) (fun e => retP cx94 false e) = p94 a0 := by kernel_rfl

/-- damper/config.table -/
def p95 (a0 : Value) : Prog :=
  .op true (bltS .len #[49] 3 #[false] [a0]) fun t8 =>
  .op false (vS (Instr.buildSlice 112 1 #[(0, t8)])) fun t9 =>
  .op false (callS (.func (.func 93) #[] #[]) [(.int .i64 1), (.int .i64 20), t9]) fun t10 =>
  .op true (vS (Op.unary .not t10)) fun t11 =>
  .ite t11
    (
    .done .ret [(.int .i64 9), (.int .i64 0)]
    )
    (
    .op true (bltS .len #[49] 3 #[false] [a0]) fun t13 =>
    .bind
      (
      .block 0 <|
      .loop [(.int .i64 0), (.int .i64 0), (.int .i64 (-1)), (.int .i64 0)] fun tx =>
      .op true (binS .lss 3 (.tmp 14) (.tmp 13) (tx.tail.tail.tail.headD undef) t13) fun t15 =>
      .ite t15
        (
        .bind
          (
          .block 1 <|
          .op true (vS (Instr.indexAt 49 a0 (tx.tail.tail.tail.headD undef))) fun t17 =>
          .op true (vS (Instr.loadAt 138 t17)) fun t18 =>
          .op false (vS (Instr.alloc 138 true (.tuple #[]))) fun t6 =>
          .op false (uS (Instr.storeAt 138 t6 t18)) fun tu =>
          .bind
            (
            .block 2 <|
            .bind
              (
              .op true (vS (Instr.fieldAt 138 t6 0)) fun t20 =>
              .op true (vS (Instr.loadAt 2 t20)) fun t21 =>
              .op true (binS .leq 2 (.tmp 21) (.tmp 22) t21 (tx.tail.tail.headD undef)) fun t23 =>
              .gop t23 false true (vS (Instr.fieldAt 138 t6 0)) fun t25 =>
              .gop t23 false true (vS (Instr.loadAt 2 t25)) fun t26 =>
              .gop t23 false true (binS .gtr 2 (.tmp 26) (.const (.int .i64 1125899906842624)) t26 (.int .i64 1125899906842624)) fun t27 =>
              .op true (pickS t23 (.bool true) t27) fun t28 =>
              .done .normal [t28]
              ) fun tv =>
            .ite (tv.headD undef)
              (
              .done .ret [(.int .i64 9), (tx.tail.tail.tail.headD undef)]
              )
              (
              .op true (vS (Instr.fieldAt 138 t6 1)) fun t31 =>
              .op true (vS (Instr.loadAt 3 t31)) fun t32 =>
              .op false (vS (Instr.buildSlice 112 1 #[(0, t32)])) fun t33 =>
              .op false (callS (.func (.func 93) #[] #[]) [(.int .i64 0), (.int .i64 2), t33]) fun t34 =>
              .op true (vS (Op.unary .not t34)) fun t35 =>
              .ite t35
                (
                .done .ret [(.int .i64 10), (tx.tail.tail.tail.headD undef)]
                )
                (
                .done .normal [(tx.headD undef), (tx.tail.headD undef)]
                )
              )
            ) fun tv_1 =>
          .op true (vS (Instr.fieldAt 138 t6 0)) fun t37 =>
          .op true (vS (Instr.loadAt 2 t37)) fun t38 =>
          .done .normal [(tv_1.headD undef), (tv_1.tail.headD undef), t38]
          ) fun tv_2 =>
        .op true (binS .add 3 (.tmp 14) (.const (.int .i64 1)) (tx.tail.tail.tail.headD undef) (.int .i64 1)) fun t39 =>
        .done .normal [(tv_2.headD undef), (tv_2.tail.headD undef), (tv_2.tail.tail.headD undef), t39]
        )
        (
        .done (.exit 0) [(tx.headD undef), (tx.tail.headD undef)]
        )
      ) fun tv_3 =>
    .done .ret [(.int .i64 0), (.int .i64 0)]
    )
def cx95 : Cx := { N := 40, res := [2, 3], blk := [(0, [2, 3]), (1, [2, 3, 4]), (2, [2, 3])], reg := [(7, [19])] }
theorem eq95 (a0 : Value) : comp cx95 (bodyC Try.f95) false [] (env0 0 [a0]) (fun e => retP cx95 false e) = p95 a0 := by kernel_rfl

/-- damper/config.Check$1 -/
def p96 (a0 : Value) : Prog :=
  .bind
    (
    .op true (vS (Instr.fieldAt 53 a0 3)) fun t2 =>
    .op true (vS (Instr.indexAt 50 t2 (.int .i64 0))) fun t3 =>
    .op true (vS (Instr.loadAt 3 t3)) fun t4 =>
    .op true (vS (Instr.fieldAt 53 a0 3)) fun t5 =>
    .op true (vS (Instr.indexAt 50 t5 (.int .i64 1))) fun t6 =>
    .op true (vS (Instr.loadAt 3 t6)) fun t7 =>
    .op true (vS (Instr.fieldAt 53 a0 3)) fun t8 =>
    .op true (vS (Instr.indexAt 50 t8 (.int .i64 2))) fun t9 =>
    .op true (vS (Instr.loadAt 3 t9)) fun t10 =>
    .op false (vS (Instr.buildSlice 112 3 #[(0, t4), (1, t7), (2, t10)])) fun t11 =>
    .op false (callS (.func (.func 93) #[] #[]) [(.int .i64 1), (.int .i64 9999), t11]) fun t12 =>
    .gop t12 true true (vS (Instr.fieldAt 53 a0 3)) fun t14 =>
    .gop t12 true true (vS (Instr.indexAt 50 t14 (.int .i64 0))) fun t15 =>
    .gop t12 true true (vS (Instr.loadAt 3 t15)) fun t16 =>
    .gop t12 true true (vS (Instr.fieldAt 53 a0 3)) fun t17 =>
    .gop t12 true true (vS (Instr.indexAt 50 t17 (.int .i64 1))) fun t18 =>
    .gop t12 true true (vS (Instr.loadAt 3 t18)) fun t19 =>
    .gop t12 true true (binS .lss 3 (.tmp 16) (.tmp 19) t16 t19) fun t20 =>
    .op true (pickS t12 t20 (.bool false)) fun t21 =>
    .gop t21 true true (vS (Instr.fieldAt 53 a0 3)) fun t23 =>
    .gop t21 true true (vS (Instr.indexAt 50 t23 (.int .i64 1))) fun t24 =>
    .gop t21 true true (vS (Instr.loadAt 3 t24)) fun t25 =>
    .gop t21 true true (vS (Instr.fieldAt 53 a0 3)) fun t26 =>
    .gop t21 true true (vS (Instr.indexAt 50 t26 (.int .i64 2))) fun t27 =>
    .gop t21 true true (vS (Instr.loadAt 3 t27)) fun t28 =>
    .gop t21 true true (binS .lss 3 (.tmp 25) (.tmp 28) t25 t28) fun t29 =>
    .op true (pickS t21 t29 (.bool false)) fun t30 =>
    .done .normal [t30]
    ) fun tv =>
  .done .ret [(tv.headD undef)]
def cx96 : Cx := { N := 31, res := [1], reg := [(1, [1])] }
theorem eq96 (a0 : Value) : comp cx96 (bodyC Try.f96) false [] (env0 0 [a0]) (fun e => retP cx96 false e) = p96 a0 := by kernel_rfl

/-- damper/config.first -/
def p97 (a0 : Value) : Prog :=
  .op true (bltS .len #[200] 3 #[false] [a0]) fun t6 =>
  .bind
    (
    .block 0 <|
    .loop [(.int .i64 0), (.int .i64 0)] fun tx =>
    .op true (binS .lss 3 (.tmp 7) (.tmp 6) (tx.tail.headD undef) t6) fun t8 =>
    .ite t8
      (
      .bind
        (
        .block 1 <|
        .op true (vS (Instr.indexAt 200 a0 (tx.tail.headD undef))) fun t9 =>
        .op true (vS (Instr.loadAt 168 t9)) fun t10 =>
        .op false (vS (Instr.alloc 168 true (.tuple #[]))) fun t4 =>
        .op false (uS (Instr.storeAt 168 t4 t10)) fun tu =>
        .op true (vS (Instr.fieldAt 168 t4 0)) fun t11 =>
        .op true (vS (Instr.loadAt 23 t11)) fun t12 =>
        .op false (callS t12 []) fun t13 =>
        .op true (vS (Op.unary .not t13)) fun t14 =>
        .ite t14
          (
          .op true (vS (Instr.fieldAt 168 t4 1)) fun t15 =>
          .op true (vS (Instr.loadAt 25 t15)) fun t16 =>
          .done .ret [t16]
          )
          (
          .done .normal [(tx.headD undef)]
          )
        ) fun tv =>
      .op true (binS .add 3 (.tmp 7) (.const (.int .i64 1)) (tx.tail.headD undef) (.int .i64 1)) fun t17 =>
      .done .normal [(tv.headD undef), t17]
      )
      (
      .done (.exit 0) [(tx.headD undef)]
      )
    ) fun tv_1 =>
  .done .ret [(.int .i64 0)]
def cx97 : Cx := { N := 18, res := [2], blk := [(0, [2]), (1, [2])] }
theorem eq97 (a0 : Value) : comp cx97 (bodyC Try.f97) false [] (env0 0 [a0]) (fun e => retP cx97 false e) = p97 a0 := by kernel_rfl

/-- damper/config.Check$2 -/
def p98 (a0 : Value) : Prog :=
  .op true (vS (Instr.fieldAt 53 a0 2)) fun t2 =>
  .op true (vS (Instr.loadAt 2 t2)) fun t3 =>
  .op false (vS (Instr.buildSlice 112 1 #[(0, t3)])) fun t4 =>
  .op false (callS (.func (.func 93) #[] #[]) [(.int .i64 1), (.int .i64 1099511627776), t4]) fun t5 =>
  .done .ret [t5]
def cx98 : Cx := { N := 6, res := [1] }
theorem eq98 (a0 : Value) : comp cx98 (bodyC Try.f98) false [] (env0 0 [a0]) (fun e => retP cx98 false e) = p98 a0 := by kernel_rfl

/-- damper/config.Check$3 -/
def p99 (a0 : Value) : Prog :=
  .op true (vS (Instr.fieldAt 53 a0 4)) fun t2 =>
  .op true (vS (Instr.indexAt 51 t2 (.int .i64 0))) fun t3 =>
  .op true (vS (Instr.loadAt 2 t3)) fun t4 =>
  .op true (vS (Instr.fieldAt 53 a0 4)) fun t5 =>
  .op true (vS (Instr.indexAt 51 t5 (.int .i64 1))) fun t6 =>
  .op true (vS (Instr.loadAt 2 t6)) fun t7 =>
  .op false (vS (Instr.buildSlice 112 2 #[(0, t4), (1, t7)])) fun t8 =>
  .op false (callS (.func (.func 93) #[] #[]) [(.int .i64 1), (.int .i64 1099511627776), t8]) fun t9 =>
  .done .ret [t9]
def cx99 : Cx := { N := 10, res := [1] }
theorem eq99 (a0 : Value) : comp cx99 (bodyC Try.f99) false [] (env0 0 [a0]) (fun e => retP cx99 false e) = p99 a0 := by kernel_rfl

/-- damper/watch.first -/
def p100 (a0 : Value) : Prog :=
  .op true (bltS .len #[201] 3 #[false] [a0]) fun t6 =>
  .bind
    (
    .block 0 <|
    .loop [(.int .i64 0), (.int .i64 0)] fun tx =>
    .op true (binS .lss 3 (.tmp 7) (.tmp 6) (tx.tail.headD undef) t6) fun t8 =>
    .ite t8
      (
      .bind
        (
        .block 1 <|
        .op true (vS (Instr.indexAt 201 a0 (tx.tail.headD undef))) fun t9 =>
        .op true (vS (Instr.loadAt 171 t9)) fun t10 =>
        .op false (vS (Instr.alloc 171 true (.tuple #[]))) fun t4 =>
        .op false (uS (Instr.storeAt 171 t4 t10)) fun tu =>
        .op true (vS (Instr.fieldAt 171 t4 0)) fun t11 =>
        .op true (vS (Instr.loadAt 23 t11)) fun t12 =>
        .op false (callS t12 []) fun t13 =>
        .op true (vS (Op.unary .not t13)) fun t14 =>
        .ite t14
          (
          .op true (vS (Instr.fieldAt 171 t4 1)) fun t15 =>
          .op true (vS (Instr.loadAt 25 t15)) fun t16 =>
          .done .ret [t16]
          )
          (
          .done .normal [(tx.headD undef)]
          )
        ) fun tv =>
      .op true (binS .add 3 (.tmp 7) (.const (.int .i64 1)) (tx.tail.headD undef) (.int .i64 1)) fun t17 =>
      .done .normal [(tv.headD undef), t17]
      )
      (
      .done (.exit 0) [(tx.headD undef)]
      )
    ) fun tv_1 =>
  .done .ret [(.int .i64 0)]
def cx100 : Cx := { N := 18, res := [2], blk := [(0, [2]), (1, [2])] }
theorem eq100 (a0 : Value) : comp cx100 (bodyC Try.f100) false [] (env0 0 [a0]) (fun e => retP cx100 false e) = p100 a0 := by kernel_rfl

/-- (*damper/watch.Watch).check$1 -/
def p101 (a0 : Value) (a1 : Value) : Prog :=
  .draw <|
  .op true (vS (Instr.fieldAt 46 a0 2)) fun t3 =>
  .op true (vS (Instr.loadAt 2 t3)) fun t4 =>
  .op true (vS (Instr.loadAt 74 a1)) fun t5 =>
  .op true (nilS t5) fun t6 =>
  .op true (vS (Instr.fieldAt 143 t6 1)) fun t7 =>
  .op true (vS (Instr.loadAt 2 t7)) fun t8 =>
  .op true (binS .add 2 (.tmp 8) (.const (.int .i64 1)) t8 (.int .i64 1)) fun t9 =>
  .op true (binS .eql 2 (.tmp 4) (.tmp 9) t4 t9) fun t10 =>
  .done .ret [t10]
def cx101 : Cx := { N := 11, res := [2] }
theorem eq101 (a0 : Value) (a1 : Value) : comp cx101 (bodyC Try.f101) false [] (env0 0 [a0, a1]) (fun e => retP cx101 false e) = p101 a0 a1 := by kernel_rfl

/-- (*damper/watch.Watch).check$2 -/
def p102 (a0 : Value) (a1 : Value) : Prog :=
  .op true (vS (Instr.loadAt 74 a0)) fun t3 =>
  .op true (vS (Instr.fieldAt 46 a1 3)) fun t4 =>
  .op true (vS (Instr.loadAt 2 t4)) fun t5 =>
  .op false (callS (.func (.func 103) #[] #[]) [t3, t5]) fun t6 =>
  .op true (vS (Op.unary .not t6)) fun t7 =>
  .done .ret [t7]
def cx102 : Cx := { N := 8, res := [2] }
theorem eq102 (a0 : Value) (a1 : Value) : comp cx102 (bodyC Try.f102) false [] (env0 0 [a0, a1]) (fun e => retP cx102 false e) = p102 a0 a1 := by kernel_rfl

/-- (*damper/watch.Watch).late -/
def p103 (a0 : Value) (a1 : Value) : Prog :=
  .op true (nilS a0) fun t9 =>
  .op true (vS (Instr.fieldAt 143 t9 2)) fun t10 =>
  .op true (vS (Instr.loadAt 2 t10)) fun t11 =>
  .op true (binS .lss 2 (.tmp 7) (.tmp 11) a1 t11) fun t12 =>
  .ite t12
    (
    .done .ret [(.bool true)]
    )
    (
    .op true (nilS a0) fun t14 =>
    .op true (vS (Instr.fieldAt 143 t14 0)) fun t15 =>
    .op true (vS (Instr.loadAt 141 t15)) fun t16 =>
    .op true (bltS .len #[141] 3 #[false] [t16]) fun t17 =>
    .bind
      (
      .block 0 <|
      .loop [(.bool false), (.int .i64 0)] fun tx =>
      .op true (binS .lss 3 (.tmp 18) (.tmp 17) (tx.tail.headD undef) t17) fun t19 =>
      .ite t19
        (
        .bind
          (
          .block 1 <|
          .op true (vS (Instr.indexAt 141 t16 (tx.tail.headD undef))) fun t20 =>
          .op true (vS (Instr.loadAt 145 t20)) fun t21 =>
          .op false (vS (Instr.alloc 145 true (.tuple #[]))) fun t6 =>
          .op false (uS (Instr.storeAt 145 t6 t21)) fun tu =>
          .bind
            (
            .op true (vS (Instr.fieldAt 145 t6 4)) fun t22 =>
            .op true (vS (Instr.loadAt 2 t22)) fun t23 =>
            .op true (binS .neq 2 (.tmp 23) (.const (.int .i64 0)) t23 (.int .i64 0)) fun t24 =>
            .gop t24 true true ((pure (.value a1))) fun t26 =>
            .gop t24 true true (vS (Instr.fieldAt 145 t6 4)) fun t27 =>
            .gop t24 true true (vS (Instr.loadAt 2 t27)) fun t28 =>
            .gop t24 true true (binS .gtr 2 (.tmp 26) (.tmp 28) t26 t28) fun t29 =>
            .op true (pickS t24 t29 (.bool false)) fun t30 =>
            .done .normal [t30]
            ) fun tv =>
          .ite (tv.headD undef)
            (
            .done .ret [(.bool true)]
            )
            (
            .done .normal [(tx.headD undef)]
            )
          ) fun tv_1 =>
        .op true (binS .add 3 (.tmp 18) (.const (.int .i64 1)) (tx.tail.headD undef) (.int .i64 1)) fun t31 =>
        .done .normal [(tv_1.headD undef), t31]
        )
        (
        .done (.exit 0) [(tx.headD undef)]
        )
      ) fun tv_2 =>
    .done .ret [(.bool false)]
    )
def cx103 : Cx := { N := 32, res := [4], blk := [(0, [4]), (1, [4])], reg := [(6, [30])] }
theorem eq103 (a0 : Value) (a1 : Value) : comp cx103 (bodyC Try.f103) false [] (env0 0 [a0, a1]) (fun e => retP cx103 false e) = p103 a0 a1 := by kernel_rfl

/-- (*damper/watch.Watch).check$3 -/
def p104 (a0 : Value) (a1 : Value) : Prog :=
  .bind
    (
    .op true (vS (Instr.loadAt 146 a0)) fun t3 =>
    .op true (binS .neq 146 (.tmp 3) (.const (.pointer none)) t3 (.pointer none)) fun t4 =>
    .gop t4 false true (vS (Instr.loadAt 46 a1)) fun t6 =>
    .gop t4 false false (callS (.func (.func 105) #[] #[]) [t6]) fun t7 =>
    .op true (pickS t4 (.bool true) t7) fun t8 =>
    .done .normal [t8]
    ) fun tv =>
  .done .ret [(tv.headD undef)]
def cx104 : Cx := { N := 9, res := [2], reg := [(1, [2])] }
theorem eq104 (a0 : Value) (a1 : Value) : comp cx104 (bodyC Try.f104) false [] (env0 0 [a0, a1]) (fun e => retP cx104 false e) = p104 a0 a1 := by kernel_rfl

/-- damper/watch.global -/
def p105 (a0 : Value) : Prog :=
  .op false (vS (Instr.box 46 a0)) fun t1 =>
  .bind
    (
    .op true (vS (Instr.fieldAt 46 t1 0)) fun t3 =>
    .op true (vS (Instr.loadAt 3 t3)) fun t4 =>
    .op true (binS .eql 3 (.tmp 4) (.const (.int .i64 2)) t4 (.int .i64 2)) fun t5 =>
    .gop t5 false true (vS (Instr.fieldAt 46 t1 0)) fun t7 =>
    .gop t5 false true (vS (Instr.loadAt 3 t7)) fun t8 =>
    .gop t5 false true (binS .eql 3 (.tmp 8) (.const (.int .i64 9)) t8 (.int .i64 9)) fun t9 =>
    .op true (pickS t5 (.bool true) t9) fun t10 =>
    .done .normal [t10]
    ) fun tv =>
  .done .ret [(tv.headD undef)]
def cx105 : Cx := { N := 11, res := [2], reg := [(1, [2])] }
theorem eq105 (a0 : Value) : comp cx105 (bodyC Try.f105) false [] (env0 0 [a0]) (fun e => retP cx105 false e) = p105 a0 := by kernel_rfl

/-- (*damper/watch.Watch).check$4 -/
def p106 (a0 : Value) (a1 : Value) : Prog :=
  .bind
    (
    .op true (vS (Instr.loadAt 4 a0)) fun t3 =>
    .op true (vS (Op.unary .not t3)) fun t4 =>
    .gop t4 false true (vS (Instr.fieldAt 46 a1 7)) fun t6 =>
    .gop t4 false true (vS (Instr.loadAt 2 t6)) fun t7 =>
    .gop t4 false true (binS .geq 2 (.tmp 7) (.const (.int .i64 1)) t7 (.int .i64 1)) fun t8 =>
    .op true (pickS t4 (.bool true) t8) fun t9 =>
    .done .normal [t9]
    ) fun tv =>
  .done .ret [(tv.headD undef)]
def cx106 : Cx := { N := 10, res := [2], reg := [(1, [2])] }
theorem eq106 (a0 : Value) (a1 : Value) : comp cx106 (bodyC Try.f106) false [] (env0 0 [a0, a1]) (fun e => retP cx106 false e) = p106 a0 a1 := by kernel_rfl

/-- (*damper/watch.Watch).check$5 -/
def p107 (a0 : Value) (a1 : Value) (a2 : Value) : Prog :=
  .bind
    (
    .op true (vS (Instr.loadAt 4 a0)) fun t4 =>
    .op true (vS (Op.unary .not t4)) fun t5 =>
    .gop t5 false true (vS (Instr.loadAt 146 a1)) fun t7 =>
    .gop t5 false true (vS (Instr.fieldAt 46 a2 8)) fun t8 =>
    .gop t5 false true (vS (Instr.loadAt 3 t8)) fun t9 =>
    .gop t5 false false (callS (.func (.func 108) #[] #[]) [t7, t9]) fun t10 =>
    .op true (pickS t5 (.bool true) t10) fun t11 =>
    .done .normal [t11]
    ) fun tv =>
  .done .ret [(tv.headD undef)]
def cx107 : Cx := { N := 12, res := [3], reg := [(1, [3])] }
theorem eq107 (a0 : Value) (a1 : Value) (a2 : Value) : comp cx107 (bodyC Try.f107) false [] (env0 0 [a0, a1, a2]) (fun e => retP cx107 false e) = p107 a0 a1 a2 := by kernel_rfl

/-- (*damper/watch.known).open -/
def p108 (a0 : Value) (a1 : Value) : Prog :=
  .bind
    (
    .block 0 <|
    .bind
      (
      .block 3 <|
      .bind
        (
        .block 2 <|
        .bind
          (
          .block 1 <|
          .op true (binS .eql 3 (.tmp 5) (.const (.int .i64 1)) a1 (.int .i64 1)) fun t7 =>
          .ite t7
            (
            .done (.exit 1) []
            )
            (
            .op true (binS .eql 3 (.tmp 5) (.const (.int .i64 3)) a1 (.int .i64 3)) fun t9 =>
            .ite t9
              (
              .done (.exit 2) [(.bool false)]
              )
              (
              .op true (binS .eql 3 (.tmp 5) (.const (.int .i64 2)) a1 (.int .i64 2)) fun t11 =>
              .ite t11
                (
                .done (.exit 3) [(.bool false)]
                )
                (
                .done (.exit 0) [(.bool false)]
                )
              )
            )
          ) fun tv =>
        .op true (nilS a0) fun t13 =>
        .op true (vS (Instr.fieldAt 145 t13 1)) fun t14 =>
        .op true (vS (Instr.loadAt 3 t14)) fun t15 =>
        .op true (binS .eql 3 (.tmp 15) (.const (.int .i64 2)) t15 (.int .i64 2)) fun t16 =>
        .done .ret [t16]
        ) fun tv_1 =>
      .op true (nilS a0) fun t18 =>
      .op true (vS (Instr.fieldAt 145 t18 1)) fun t19 =>
      .op true (vS (Instr.loadAt 3 t19)) fun t20 =>
      .op true (binS .eql 3 (.tmp 20) (.const (.int .i64 1)) t20 (.int .i64 1)) fun t21 =>
      .ite t21
        (
        .done .ret [(.bool true)]
        )
        (
        .done .normal [(tv_1.headD undef)]
        )
      ) fun tv_2 =>
    .op true (nilS a0) fun t23 =>
    .op true (vS (Instr.fieldAt 145 t23 1)) fun t24 =>
    .op true (vS (Instr.loadAt 3 t24)) fun t25 =>
    .op true (binS .eql 3 (.tmp 25) (.const (.int .i64 4)) t25 (.int .i64 4)) fun t26 =>
    .done .ret [t26]
    ) fun tv_3 =>
  .done .ret [(.bool false)]
def cx108 : Cx := { N := 27, res := [4], blk := [(0, [4]), (3, [4]), (2, [4])] }
theorem eq108 (a0 : Value) (a1 : Value) : comp cx108 (bodyC Try.f108) false [] (env0 0 [a0, a1]) (fun e => retP cx108 false e) = p108 a0 a1 := by kernel_rfl

/-- (*damper/watch.Watch).check$6 -/
def p109 (a0 : Value) (a1 : Value) (a2 : Value) : Prog :=
  .bind
    (
    .op true (vS (Instr.loadAt 4 a0)) fun t4 =>
    .op true (vS (Op.unary .not t4)) fun t5 =>
    .gop t5 false true (vS (Instr.loadAt 146 a1)) fun t7 =>
    .gop t5 false true (vS (Instr.loadAt 46 a2)) fun t8 =>
    .gop t5 false false (callS (.func (.func 110) #[] #[]) [t7, t8]) fun t9 =>
    .op true (pickS t5 (.bool true) t9) fun t10 =>
    .done .normal [t10]
    ) fun tv =>
  .done .ret [(tv.headD undef)]
def cx109 : Cx := { N := 11, res := [3], reg := [(1, [3])] }
theorem eq109 (a0 : Value) (a1 : Value) (a2 : Value) : comp cx109 (bodyC Try.f109) false [] (env0 0 [a0, a1, a2]) (fun e => retP cx109 false e) = p109 a0 a1 a2 := by kernel_rfl

/-- (*damper/watch.known).in -/
def p110 (a0 : Value) (a1 : Value) : Prog :=
  .op false (vS (Instr.box 46 a1)) fun t3 =>
  .op true (vS (Instr.fieldAt 46 t3 8)) fun t5 =>
  .op true (vS (Instr.loadAt 3 t5)) fun t6 =>
  .bind
    (
    .block 0 <|
    .op true (binS .eql 3 (.tmp 6) (.const (.int .i64 1)) t6 (.int .i64 1)) fun t8 =>
    .ite t8
      (
      .draw <|
      .op true (nilS a0) fun t10 =>
      .op true (vS (Instr.fieldAt 145 t10 2)) fun t11 =>
      .op true (vS (Instr.loadAt 85 t11)) fun t12 =>
      .op true (vS (Instr.fieldAt 46 t3 6)) fun t13 =>
      .op true (vS (Instr.loadAt 2 t13)) fun t14 =>
      .op false (callS (.func (.func 144) #[] #[]) [t12, t14]) fun t15 =>
      .done .ret [t15]
      )
      (
      .op true (binS .eql 3 (.tmp 6) (.const (.int .i64 2)) t6 (.int .i64 2)) fun t17 =>
      .ite t17
        (
        .draw <|
        .op true (nilS a0) fun t19 =>
        .op true (vS (Instr.fieldAt 145 t19 3)) fun t20 =>
        .op true (vS (Instr.loadAt 85 t20)) fun t21 =>
        .op true (vS (Instr.fieldAt 46 t3 6)) fun t22 =>
        .op true (vS (Instr.loadAt 2 t22)) fun t23 =>
        .op false (callS (.func (.func 144) #[] #[]) [t21, t23]) fun t24 =>
        .done .ret [t24]
        )
        (
        .done .normal [(.bool false)]
        )
      )
    ) fun tv =>
  .op true (vS (Instr.fieldAt 46 t3 6)) fun t25 =>
  .op true (vS (Instr.loadAt 2 t25)) fun t26 =>
  .op false (callS (.func (.func 78) #[] #[]) [t26, (.int .i64 1)]) fun t27 =>
  .op true (binS .eql 25 (.tmp 27) (.const (.int .i64 0)) t27 (.int .i64 0)) fun t28 =>
  .done .ret [t28]
def cx110 : Cx := { N := 29, res := [4], blk := [(0, [4])] }
theorem eq110 (a0 : Value) (a1 : Value) : comp cx110 (bodyC Try.f110) false [] (env0 0 [a0, a1]) (fun e => retP cx110 false e) = p110 a0 a1 := by kernel_rfl

/-- damper/config.Bound -/
def p111 (a0 : Value) : Prog :=
  .op false (vS (Instr.box 123 a0)) fun t1 =>
  .op true (vS (Instr.loadAt 123 t1)) fun t3 =>
  .op false (callS (.func (.func 94) #[] #[]) [t3]) fun t4 =>
  .op true (binS .neq 25 (.tmp 4) (.const (.int .i64 0)) t4 (.int .i64 0)) fun t5 =>
  .ite t5
    (
    .done .ret [(.int .i64 0)]
    )
    (
    .op true (vS (Instr.fieldAt 123 t1 7)) fun t6 =>
    .op true (vS (Instr.loadAt 2 t6)) fun t7 =>
    .op true (vS (Instr.fieldAt 123 t1 8)) fun t8 =>
    .op true (vS (Instr.loadAt 2 t8)) fun t9 =>
    .op true (vS (Instr.fieldAt 123 t1 9)) fun t10 =>
    .op true (vS (Instr.loadAt 3 t10)) fun t11 =>
    .op true (binS .add 3 (.tmp 11) (.const (.int .i64 1)) t11 (.int .i64 1)) fun t12 =>
    .op true (binS .mul 2 (.tmp 9) (.tmp 12) t9 t12) fun t13 =>
    .op true (binS .add 2 (.tmp 7) (.tmp 13) t7 t13) fun t14 =>
    .done .ret [t14]
    )
def cx111 : Cx := { N := 15, res := [2] }
theorem eq111 (a0 : Value) : comp cx111 (bodyC Try.f111) false [] (env0 0 [a0]) (fun e => retP cx111 false e) = p111 a0 := by kernel_rfl

/-- (*damper/damperref32.Watch).late -/
def p112 (a0 : Value) (a1 : Value) : Prog :=
  .op true (nilS a0) fun t8 =>
  .op true (vS (Instr.fieldAt 83 t8 3)) fun t9 =>
  .op true (vS (Instr.loadAt 2 t9)) fun t10 =>
  .op true (binS .lss 2 (.tmp 6) (.tmp 10) a1 t10) fun t11 =>
  .ite t11
    (
    .done .ret [(.bool true)]
    )
    (
    .bind
      (
      .block 0 <|
      .loop [(.bool false), (.int .i64 0)] fun tx =>
      .op true (nilS a0) fun t14 =>
      .op true (vS (Instr.fieldAt 83 t14 1)) fun t15 =>
      .op true (vS (Instr.loadAt 81 t15)) fun t16 =>
      .op true (bltS .len #[81] 3 #[false] [t16]) fun t17 =>
      .op true (binS .lss 3 (.tmp 12) (.tmp 17) (tx.tail.headD undef) t17) fun t18 =>
      .ite t18
        (
        .bind
          (
          .block 1 <|
          .bind
            (
            .op true (nilS a0) fun t22 =>
            .op true (vS (Instr.fieldAt 83 t22 1)) fun t23 =>
            .op true (vS (Instr.loadAt 81 t23)) fun t24 =>
            .op true (vS (Instr.indexAt 81 t24 (tx.tail.headD undef))) fun t26 =>
            .op true (vS (Instr.fieldAt 88 t26 3)) fun t27 =>
            .op true (vS (Instr.loadAt 2 t27)) fun t28 =>
            .op true (binS .neq 2 (.tmp 28) (.const (.int .i64 0)) t28 (.int .i64 0)) fun t29 =>
            .gop t29 true true ((pure (.value a1))) fun t31 =>
            .gop t29 true true ((pure (.value a0))) fun t32 =>
            .gop t29 true true (nilS t32) fun t33 =>
            .gop t29 true true (vS (Instr.fieldAt 83 t33 1)) fun t34 =>
            .gop t29 true true (vS (Instr.loadAt 81 t34)) fun t35 =>
            .gop t29 true true ((pure (.value (tx.tail.headD undef)))) fun t36 =>
            .gop t29 true true (vS (Instr.indexAt 81 t35 t36)) fun t37 =>
            .gop t29 true true (vS (Instr.fieldAt 88 t37 3)) fun t38 =>
            .gop t29 true true (vS (Instr.loadAt 2 t38)) fun t39 =>
            .gop t29 true true (binS .gtr 2 (.tmp 31) (.tmp 39) t31 t39) fun t40 =>
            .op true (pickS t29 t40 (.bool false)) fun t41 =>
            .done .normal [t41]
            ) fun tv =>
          .ite (tv.headD undef)
            (
            .done .ret [(.bool true)]
            )
            (
            .done .normal [(tx.headD undef)]
            )
          ) fun tv_1 =>
        .op true (binS .add 3 (.tmp 19) (.const (.int .i64 1)) (tx.tail.headD undef) (.int .i64 1)) fun t20 =>
        .done .normal [(tv_1.headD undef), t20]
        )
        (
        .done (.exit 0) [(tx.headD undef)]
        )
      ) fun tv_2 =>
    .done .ret [(.bool false)]
    )
def cx112 : Cx := { N := 42, res := [4], blk := [(0, [4]), (1, [4])], reg := [(6, [41])] }
theorem eq112 (a0 : Value) (a1 : Value) : comp cx112 (bodyC Try.f112) false [] (env0 0 [a0, a1]) (fun e => retP cx112 false e) = p112 a0 a1 := by kernel_rfl

/-- damper/damperref32.trade -/
def p113 (a0 : Value) (a1 : Value) : Prog :=
  .op false (vS (Instr.box 88 a0)) fun t2 =>
  .op false (vS (Instr.box 46 a1)) fun t3 =>
  .op true (vS (Instr.fieldAt 46 t3 7)) fun t7 =>
  .op true (vS (Instr.loadAt 2 t7)) fun t8 =>
  .op true (binS .lss 2 (.tmp 8) (.const (.int .i64 1)) t8 (.int .i64 1)) fun t9 =>
  .ite t9
    (
    .done .ret [(.int .i64 9)]
    )
    (
    .op true (vS (Instr.fieldAt 46 t3 8)) fun t10 =>
    .op true (vS (Instr.loadAt 3 t10)) fun t11 =>
    .bind
      (
      .block 0 <|
      .op true (binS .eql 3 (.tmp 11) (.const (.int .i64 1)) t11 (.int .i64 1)) fun t13 =>
      .bind
        (
        .ite t13
          (
          .op true (vS (Instr.fieldAt 88 t2 0)) fun t14 =>
          .op true (vS (Instr.loadAt 3 t14)) fun t15 =>
          .op true (binS .eql 3 (.tmp 15) (.const (.int .i64 2)) t15 (.int .i64 2)) fun t16 =>
          .op true (vS (Instr.fieldAt 88 t2 1)) fun t17 =>
          .op true (vS (Instr.loadAt 85 t17)) fun t18 =>
          .op true (vS (Instr.fieldAt 46 t3 6)) fun t19 =>
          .op true (vS (Instr.loadAt 2 t19)) fun t20 =>
          .op false (callS (.func (.func 145) #[] #[]) [t18, t20]) fun t21 =>
          .done .normal [t16, t21]
          )
          (
          .op true (binS .eql 3 (.tmp 11) (.const (.int .i64 2)) t11 (.int .i64 2)) fun t23 =>
          .bind
            (
            .ite t23
              (
              .op true (vS (Instr.fieldAt 88 t2 0)) fun t24 =>
              .op true (vS (Instr.loadAt 3 t24)) fun t25 =>
              .op true (binS .eql 3 (.tmp 25) (.const (.int .i64 4)) t25 (.int .i64 4)) fun t26 =>
              .op true (vS (Instr.fieldAt 88 t2 2)) fun t27 =>
              .op true (vS (Instr.loadAt 85 t27)) fun t28 =>
              .op true (vS (Instr.fieldAt 46 t3 6)) fun t29 =>
              .op true (vS (Instr.loadAt 2 t29)) fun t30 =>
              .op false (callS (.func (.func 145) #[] #[]) [t28, t30]) fun t31 =>
              .done .normal [t26, t31]
              )
              (
              .op true (binS .eql 3 (.tmp 11) (.const (.int .i64 3)) t11 (.int .i64 3)) fun t33 =>
              .bind
                (
                .ite t33
                  (
                  .bind
                    (
                    .op true (vS (Instr.fieldAt 88 t2 0)) fun t34 =>
                    .op true (vS (Instr.loadAt 3 t34)) fun t35 =>
                    .op true (binS .eql 3 (.tmp 35) (.const (.int .i64 4)) t35 (.int .i64 4)) fun t36 =>
                    .gop t36 false true (vS (Instr.fieldAt 88 t2 0)) fun t38 =>
                    .gop t36 false true (vS (Instr.loadAt 3 t38)) fun t39 =>
                    .gop t36 false true (binS .eql 3 (.tmp 39) (.const (.int .i64 1)) t39 (.int .i64 1)) fun t40 =>
                    .op true (pickS t36 (.bool true) t40) fun t41 =>
                    .done .normal [t41]
                    ) fun tv =>
                  .bind
                    (
                    .op true (vS (Instr.fieldAt 46 t3 6)) fun t42 =>
                    .op true (vS (Instr.loadAt 2 t42)) fun t43 =>
                    .op true (binS .geq 2 (.tmp 43) (.const (.int .i64 1)) t43 (.int .i64 1)) fun t44 =>
                    .gop t44 true true (vS (Instr.fieldAt 46 t3 6)) fun t46 =>
                    .gop t44 true true (vS (Instr.loadAt 2 t46)) fun t47 =>
                    .gop t44 true true (binS .leq 2 (.tmp 47) (.const (.int .i64 1099511627776)) t47 (.int .i64 1099511627776)) fun t48 =>
                    .op true (pickS t44 t48 (.bool false)) fun t49 =>
                    .done .normal [t49]
                    ) fun tv_1 =>
                  .done .normal [(tv.headD undef), (tv_1.headD undef)]
                  )
                  (
                  .done .normal [(.bool false), (.bool false)]
                  )
                ) fun tv_2 =>
              .done .normal [(tv_2.headD undef), (tv_2.tail.headD undef)]
              )
            ) fun tv_3 =>
          .done .normal [(tv_3.headD undef), (tv_3.tail.headD undef)]
          )
        ) fun tv_4 =>
      .done .normal [(tv_4.headD undef), (tv_4.tail.headD undef)]
      ) fun tv_5 =>
    .op true (vS (Op.unary .not (tv_5.headD undef))) fun t51 =>
    .ite t51
      (
      .done .ret [(.int .i64 10)]
      )
      (
      .op true (vS (Op.unary .not (tv_5.tail.headD undef))) fun t53 =>
      .ite t53
        (
        .done .ret [(.int .i64 11)]
        )
        (
        .done .ret [(.int .i64 0)]
        )
      )
    )
def cx113 : Cx := { N := 54, res := [4], blk := [(0, [5, 6])], cnd := [(12, [5, 6]), (22, [5, 6]), (32, [5, 6])], reg := [(12, [5]), (13, [6])] }
theorem eq113 (a0 : Value) (a1 : Value) : comp cx113 (bodyC Try.f113) false [] (env0 0 [a0, a1]) (fun e => retP cx113 false e) = p113 a0 a1 := by kernel_rfl

/-- damper/fix.Qty$1 -/
def p114 (a0 : Value) (a1 : Value) (a2 : Value) : Prog :=
  .bind
    (
    .op true (vS (Instr.loadAt 2 a2)) fun t6 =>
    .op true (binS .geq 2 (.tmp 6) (.tmp 7) t6 a0) fun t8 =>
    .gop t8 true true (vS (Instr.loadAt 2 a2)) fun t10 =>
    .gop t8 true true ((pure (.value a1))) fun t11 =>
    .gop t8 true true (binS .leq 2 (.tmp 10) (.tmp 11) t10 t11) fun t12 =>
    .op true (pickS t8 t12 (.bool false)) fun t13 =>
    .done .normal [t13]
    ) fun tv =>
  .done .ret [(tv.headD undef)]
def cx114 : Cx := { N := 14, res := [5], reg := [(1, [5])] }
theorem eq114 (a0 : Value) (a1 : Value) (a2 : Value) : comp cx114 (bodyC Try.f114) false [] (env0 0 [a0, a1, a2]) (fun e => retP cx114 false e) = p114 a0 a1 a2 := by kernel_rfl

/-- damper/damperref01.Add -/
def p115 (a0 : Value) (a1 : Value) : Prog :=
  .op false (vS (Instr.box 176 a0)) fun t2 =>
  .op false (vS (Instr.box 176 a1)) fun t3 =>
  .op false (vS (Instr.alloc 176 true (.tuple #[]))) fun t4 =>
  .op false (vS (Instr.alloc 176 true (.tuple #[]))) fun t6 =>
  .bind
    (
    .block 0 <|
    .loop [(.bool false), (.int .i64 0)] fun tx =>
    .op true (binS .lss 3 (.tmp 10) (.const (.int .i64 128)) (tx.tail.headD undef) (.int .i64 128)) fun t11 =>
    .ite t11
      (
      .bind
        (
        .block 1 <|
        .op true (vS (Instr.indexAt 176 t2 (tx.tail.headD undef))) fun t15 =>
        .op true (vS (Instr.loadAt 4 t15)) fun t16 =>
        .bind
          (
          .ite t16
            (
            .op true (binS .add 3 (.tmp 17) (.const (.int .i64 1)) (.int .i64 0) (.int .i64 1)) fun t18 =>
            .done .normal [t18]
            )
            (
            .done .normal [(.int .i64 0)]
            )
          ) fun tv =>
        .op true (vS (Instr.indexAt 176 t3 (tx.tail.headD undef))) fun t20 =>
        .op true (vS (Instr.loadAt 4 t20)) fun t21 =>
        .bind
          (
          .ite t21
            (
            .op true (binS .add 3 (.tmp 22) (.const (.int .i64 1)) (tv.headD undef) (.int .i64 1)) fun t23 =>
            .done .normal [t23]
            )
            (
            .done .normal [(tv.headD undef)]
            )
          ) fun tv_1 =>
        .bind
          (
          .ite (tx.headD undef)
            (
            .op true (binS .add 3 (.tmp 25) (.const (.int .i64 1)) (tv_1.headD undef) (.int .i64 1)) fun t26 =>
            .done .normal [t26]
            )
            (
            .done .normal [(tv_1.headD undef)]
            )
          ) fun tv_2 =>
        .op true (binS .rem 3 (.tmp 28) (.const (.int .i64 2)) (tv_2.headD undef) (.int .i64 2)) fun t29 =>
        .op true (binS .eql 3 (.tmp 29) (.const (.int .i64 1)) t29 (.int .i64 1)) fun t30 =>
        .op true (vS (Instr.indexAt 176 t6 (tx.tail.headD undef))) fun t31 =>
        .op false (uS (Instr.storeAt 4 t31 t30)) fun tu =>
        .op true (binS .gtr 3 (.tmp 32) (.const (.int .i64 1)) (tv_2.headD undef) (.int .i64 1)) fun t33 =>
        .done .normal [t33]
        ) fun tv_3 =>
      .op true (binS .add 3 (.tmp 12) (.const (.int .i64 1)) (tx.tail.headD undef) (.int .i64 1)) fun t13 =>
      .done .normal [(tv_3.headD undef), t13]
      )
      (
      .done (.exit 0) [(tx.headD undef)]
      )
    ) fun tv_4 =>
  .op true (vS (Instr.loadAt 176 t6)) fun t34 =>
  .op true (vS (Op.unary .not (tv_4.headD undef))) fun t36 =>
  .op false (uS (Instr.storeAt 176 t4 t34)) fun tu_1 =>
  .done .ret [t4, t36]
def cx115 : Cx := { N := 37, res := [4, 5], blk := [(0, [7]), (1, [7])], cnd := [(16, [9]), (21, [9]), (24, [9])] }
theorem eq115 (a0 : Value) (a1 : Value) : comp cx115 (bodyC Try.f115) false [] (env0 0 [a0, a1]) (fun e => retP cx115 false e) = p115 a0 a1 := by kernel_rfl

/-- damper/damperref01.Mul -/
def p116 (a0 : Value) (a1 : Value) : Prog :=
  .op false (vS (Instr.alloc 176 true (.tuple #[]))) fun t4 =>
  .op false (vS (Instr.alloc 176 true (.tuple #[]))) fun t5 =>
  .op false (callS (.func (.func 146) #[] #[]) [(.int .u64 0), a0]) fun t9 =>
  .op false (vS (Instr.alloc 176 true (.tuple #[]))) fun t6 =>
  .op false (uS (Instr.storeAt 176 t6 t9)) fun tu =>
  .bind
    (
    .block 0 <|
    .loop [(.int .i64 0)] fun tx =>
    .op true (binS .lss 3 (.tmp 10) (.const (.int .i64 64)) (tx.headD undef) (.int .i64 64)) fun t11 =>
    .ite t11
      (
      .bind
        (
        .block 1 <|
        .op true (vS (convert 3 129 (tx.headD undef))) fun t16 =>
        .op true (binS .shr 54 (.tmp 14) (.tmp 16) a1 t16) fun t17 =>
        .op true (binS .and 54 (.tmp 17) (.const (.int .u64 1)) t17 (.int .u64 1)) fun t18 =>
        .op true (binS .eql 54 (.tmp 18) (.const (.int .u64 1)) t18 (.int .u64 1)) fun t19 =>
        .bind
          (
          .ite t19
            (
            .draw <|
            .op true (vS (Instr.loadAt 176 t5)) fun t21 =>
            .op true (vS (Instr.loadAt 176 t6)) fun t22 =>
            .op false (callS (.func (.func 147) #[] #[]) [t22, (tx.headD undef)]) fun t24 =>
            .chk none (vS (Instr.loadAt 176 t5)) t21 <|
            .op false (callS (.func (.func 115) #[] #[]) [t21, t24]) fun t25 =>
            .op true (vS (Instr.extract t25 0)) fun t26 =>
            .op true (vS (Instr.extract t25 1)) fun t27 =>
            .op false (uS (Instr.storeAt 176 t5 t26)) fun tu_1 =>
            .chk none (vS (Instr.extract t25 1)) t27 <|
            .done .normal []
            )
            (
            .done .normal []
            )
          ) fun tv =>
        .done .normal []
        ) fun tv_1 =>
      .op true (binS .add 3 (.tmp 12) (.const (.int .i64 1)) (tx.headD undef) (.int .i64 1)) fun t13 =>
      .done .normal [t13]
      )
      (
      .done (.exit 0) []
      )
    ) fun tv_2 =>
  .op true (vS (Instr.loadAt 176 t5)) fun t28 =>
  .op false (uS (Instr.storeAt 176 t4 t28)) fun tu_2 =>
  .done .ret [t4]
def cx116 : Cx := { N := 29, res := [4] }
theorem eq116 (a0 : Value) (a1 : Value) : comp cx116 (bodyC Try.f116) false [] (env0 0 [a0, a1]) (fun e => retP cx116 false e) = p116 a0 a1 := by kernel_rfl

/-- damper/damperref01.Div -/
def p117 (a0 : Value) (a1 : Value) : Prog :=
  .op false (vS (Instr.box 176 a0)) fun t2 =>
  .op false (vS (Instr.alloc 176 true (.tuple #[]))) fun t4 =>
  .op false (vS (Instr.alloc 176 true (.tuple #[]))) fun t5 =>
  .op false (vS (Instr.alloc 176 true (.tuple #[]))) fun t6 =>
  .op false (vS (Instr.alloc 176 true (.tuple #[]))) fun t7 =>
  .op false (callS (.func (.func 146) #[] #[]) [(.int .u64 0), a1]) fun t11 =>
  .op false (vS (Instr.alloc 176 true (.tuple #[]))) fun t8 =>
  .op false (uS (Instr.storeAt 176 t8 t11)) fun tu =>
  .bind
    (
    .block 0 <|
    .loop [(.int .i64 127)] fun tx =>
    .op true (binS .geq 3 (.tmp 12) (.const (.int .i64 0)) (tx.headD undef) (.int .i64 0)) fun t13 =>
    .ite t13
      (
      .bind
        (
        .block 1 <|
        .op true (vS (Instr.loadAt 176 t7)) fun t16 =>
        .op false (callS (.func (.func 147) #[] #[]) [t16, (.int .i64 1)]) fun t17 =>
        .op false (uS (Instr.storeAt 176 t7 t17)) fun tu_1 =>
        .op true (vS (Instr.indexAt 176 t2 (tx.headD undef))) fun t19 =>
        .op true (vS (Instr.loadAt 4 t19)) fun t20 =>
        .op true (vS (Instr.indexAt 176 t7 (.int .i64 0))) fun t21 =>
        .op false (uS (Instr.storeAt 4 t21 t20)) fun tu_2 =>
        .op true (vS (Instr.loadAt 176 t7)) fun t22 =>
        .op true (vS (Instr.loadAt 176 t8)) fun t23 =>
        .op false (callS (.func (.func 148) #[] #[]) [t22, t23]) fun t24 =>
        .op true (binS .geq 3 (.tmp 24) (.const (.int .i64 0)) t24 (.int .i64 0)) fun t25 =>
        .bind
          (
          .ite t25
            (
            .op true (vS (Instr.loadAt 176 t7)) fun t27 =>
            .op true (vS (Instr.loadAt 176 t8)) fun t28 =>
            .op false (callS (.func (.func 149) #[] #[]) [t27, t28]) fun t29 =>
            .op true (vS (Instr.extract t29 0)) fun t30 =>
            .op true (vS (Instr.extract t29 1)) fun t31 =>
            .op false (uS (Instr.storeAt 176 t7 t30)) fun tu_3 =>
            .op true (vS (Instr.indexAt 176 t6 (tx.headD undef))) fun t33 =>
            .op false (uS (Instr.storeAt 4 t33 (.bool true))) fun tu_4 =>
            .done .normal []
            )
            (
            .done .normal []
            )
          ) fun tv =>
        .done .normal []
        ) fun tv_1 =>
      .op true (binS .sub 3 (.tmp 14) (.const (.int .i64 1)) (tx.headD undef) (.int .i64 1)) fun t15 =>
      .done .normal [t15]
      )
      (
      .done (.exit 0) []
      )
    ) fun tv_2 =>
  .draw <|
  .op true (vS (Instr.loadAt 176 t6)) fun t34 =>
  .op true (vS (Instr.loadAt 176 t7)) fun t35 =>
  .op false (uS (Instr.storeAt 176 t4 t34)) fun tu_5 =>
  .chk none (vS (Instr.loadAt 176 t7)) t35 <|
  .op false (uS (Instr.storeAt 176 t5 t35)) fun tu_6 =>
  .done .ret [t4, t5]
def cx117 : Cx := { N := 36, res := [4, 5] }
theorem eq117 (a0 : Value) (a1 : Value) : comp cx117 (bodyC Try.f117) false [] (env0 0 [a0, a1]) (fun e => retP cx117 false e) = p117 a0 a1 := by kernel_rfl

/-- damper/damperref01.Halves -/
def p118 (a0 : Value) : Prog :=
  .op false (vS (Instr.box 176 a0)) fun t1 =>
  .bind
    (
    .block 0 <|
    .loop [(.int .u64 0), (.int .u64 0), (.int .i64 0)] fun tx =>
    .op true (binS .lss 3 (.tmp 7) (.const (.int .i64 64)) (tx.tail.tail.headD undef) (.int .i64 64)) fun t8 =>
    .ite t8
      (
      .bind
        (
        .block 1 <|
        .op true (vS (Instr.indexAt 176 t1 (tx.tail.tail.headD undef))) fun t12 =>
        .op true (vS (Instr.loadAt 4 t12)) fun t13 =>
        .bind
          (
          .ite t13
            (
            .op true (vS (convert 3 129 (tx.tail.tail.headD undef))) fun t16 =>
            .op true (binS .shl 54 (.const (.int .u64 1)) (.tmp 16) (.int .u64 1) t16) fun t17 =>
            .op true (binS .or 54 (.tmp 14) (.tmp 17) (tx.headD undef) t17) fun t18 =>
            .done .normal [t18]
            )
            (
            .done .normal [(tx.headD undef)]
            )
          ) fun tv =>
        .op true (binS .add 3 (.tmp 19) (.const (.int .i64 64)) (tx.tail.tail.headD undef) (.int .i64 64)) fun t20 =>
        .op true (vS (Instr.indexAt 176 t1 t20)) fun t21 =>
        .op true (vS (Instr.loadAt 4 t21)) fun t22 =>
        .bind
          (
          .ite t22
            (
            .op true (vS (convert 3 129 (tx.tail.tail.headD undef))) fun t25 =>
            .op true (binS .shl 54 (.const (.int .u64 1)) (.tmp 25) (.int .u64 1) t25) fun t26 =>
            .op true (binS .or 54 (.tmp 23) (.tmp 26) (tx.tail.headD undef) t26) fun t27 =>
            .done .normal [t27]
            )
            (
            .done .normal [(tx.tail.headD undef)]
            )
          ) fun tv_1 =>
        .done .normal [(tv.headD undef), (tv_1.headD undef)]
        ) fun tv_2 =>
      .op true (binS .add 3 (.tmp 9) (.const (.int .i64 1)) (tx.tail.tail.headD undef) (.int .i64 1)) fun t10 =>
      .done .normal [(tv_2.headD undef), (tv_2.tail.headD undef), t10]
      )
      (
      .done (.exit 0) [(tx.headD undef), (tx.tail.headD undef)]
      )
    ) fun tv_3 =>
  .done .ret [(tv_3.tail.headD undef), (tv_3.headD undef)]
def cx118 : Cx := { N := 30, res := [2, 3], blk := [(0, [5, 4]), (1, [5, 4])], cnd := [(13, [5]), (22, [4])] }
theorem eq118 (a0 : Value) : comp cx118 (bodyC Try.f118) false [] (env0 0 [a0]) (fun e => retP cx118 false e) = p118 a0 := by kernel_rfl

/-- (damper/wide.Wide).Len -/
def p119 (a0 : Value) : Prog :=
  .op false (vS (Instr.box 98 a0)) fun t1 =>
  .op true (vS (Instr.fieldAt 98 t1 0)) fun t3 =>
  .op true (vS (Instr.loadAt 54 t3)) fun t4 =>
  .op true (binS .neq 54 (.tmp 4) (.const (.int .u64 0)) t4 (.int .u64 0)) fun t5 =>
  .ite t5
    (
    .op true (vS (Instr.fieldAt 98 t1 0)) fun t6 =>
    .op true (vS (Instr.loadAt 54 t6)) fun t7 =>
    .op false (callS (.func (.func 150) #[] #[]) [t7]) fun t8 =>
    .op true (binS .add 3 (.const (.int .i64 64)) (.tmp 8) (.int .i64 64) t8) fun t9 =>
    .done .ret [t9]
    )
    (
    .op true (vS (Instr.fieldAt 98 t1 1)) fun t10 =>
    .op true (vS (Instr.loadAt 54 t10)) fun t11 =>
    .op false (callS (.func (.func 150) #[] #[]) [t11]) fun t12 =>
    .done .ret [t12]
    )
def cx119 : Cx := { N := 13, res := [2] }
theorem eq119 (a0 : Value) : comp cx119 (bodyC Try.f119) false [] (env0 0 [a0]) (fun e => retP cx119 false e) = p119 a0 := by kernel_rfl

/-- (damper/wide.Wide).Right -/
def p120 (a0 : Value) (a1 : Value) : Prog :=
  .op false (vS (Instr.box 98 a0)) fun t2 =>
  .op false (vS (Instr.alloc 98 true (.tuple #[]))) fun t4 =>
  .bind
    (
    .block 0 <|
    .op true (binS .leq 3 (.tmp 6) (.const (.int .i64 0)) a1 (.int .i64 0)) fun t7 =>
    .ite t7
      (
      .op true (vS (Instr.loadAt 98 t2)) fun t8 =>
      .op false (uS (Instr.storeAt 98 t4 t8)) fun tu =>
      .done .ret [t4]
      )
      (
      .op true (binS .geq 3 (.tmp 10) (.const (.int .i64 128)) a1 (.int .i64 128)) fun t11 =>
      .ite t11
        (
        .op true (vS (Instr.build 98 #[])) fun t12 =>
        .op false (uS (Instr.storeAt 98 t4 t12)) fun tu_1 =>
        .done .ret [t4]
        )
        (
        .op true (binS .geq 3 (.tmp 14) (.const (.int .i64 64)) a1 (.int .i64 64)) fun t15 =>
        .ite t15
          (
          .op true (vS (Instr.fieldAt 98 t2 0)) fun t16 =>
          .op true (vS (Instr.loadAt 54 t16)) fun t17 =>
          .op true (binS .sub 3 (.tmp 18) (.const (.int .i64 64)) a1 (.int .i64 64)) fun t19 =>
          .op true (binS .shr 54 (.tmp 17) (.tmp 19) t17 t19) fun t20 =>
          .op true (vS (Instr.build 98 #[(0, (.int .u64 0)), (1, t20)])) fun t21 =>
          .op false (uS (Instr.storeAt 98 t4 t21)) fun tu_2 =>
          .done .ret [t4]
          )
          (
          .done .normal []
          )
        )
      )
    ) fun tv =>
  .draw <|
  .op true (vS (Instr.fieldAt 98 t2 0)) fun t22 =>
  .op true (vS (Instr.loadAt 54 t22)) fun t23 =>
  .op true (binS .shr 54 (.tmp 23) (.tmp 24) t23 a1) fun t25 =>
  .op true (vS (Instr.fieldAt 98 t2 1)) fun t26 =>
  .op true (vS (Instr.loadAt 54 t26)) fun t27 =>
  .op true (binS .shr 54 (.tmp 27) (.tmp 28) t27 a1) fun t29 =>
  .op true (vS (Instr.fieldAt 98 t2 0)) fun t30 =>
  .op true (vS (Instr.loadAt 54 t30)) fun t31 =>
  .op true (binS .sub 3 (.const (.int .i64 64)) (.tmp 32) (.int .i64 64) a1) fun t33 =>
  .op true (binS .shl 54 (.tmp 31) (.tmp 33) t31 t33) fun t34 =>
  .op true (binS .or 54 (.tmp 29) (.tmp 34) t29 t34) fun t35 =>
  .op true (vS (Instr.build 98 #[(0, t25), (1, t35)])) fun t36 =>
  .op false (uS (Instr.storeAt 98 t4 t36)) fun tu_3 =>
  .done .ret [t4]
def cx120 : Cx := { N := 37, res := [4] }
theorem eq120 (a0 : Value) (a1 : Value) : comp cx120 (bodyC Try.f120) false [] (env0 0 [a0, a1]) (fun e => retP cx120 false e) = p120 a0 a1 := by kernel_rfl

/-- (damper/wide.Wide).Left -/
def p121 (a0 : Value) (a1 : Value) : Prog :=
  .op false (vS (Instr.box 98 a0)) fun t2 =>
  .op false (vS (Instr.alloc 98 true (.tuple #[]))) fun t4 =>
  .bind
    (
    .block 0 <|
    .op true (binS .leq 3 (.tmp 6) (.const (.int .i64 0)) a1 (.int .i64 0)) fun t7 =>
    .ite t7
      (
      .op true (vS (Instr.loadAt 98 t2)) fun t8 =>
      .op false (uS (Instr.storeAt 98 t4 t8)) fun tu =>
      .done .ret [t4]
      )
      (
      .op true (binS .geq 3 (.tmp 10) (.const (.int .i64 128)) a1 (.int .i64 128)) fun t11 =>
      .ite t11
        (
        .op true (vS (Instr.build 98 #[])) fun t12 =>
        .op false (uS (Instr.storeAt 98 t4 t12)) fun tu_1 =>
        .done .ret [t4]
        )
        (
        .op true (binS .geq 3 (.tmp 14) (.const (.int .i64 64)) a1 (.int .i64 64)) fun t15 =>
        .ite t15
          (
          .op true (vS (Instr.fieldAt 98 t2 1)) fun t16 =>
          .op true (vS (Instr.loadAt 54 t16)) fun t17 =>
          .op true (binS .sub 3 (.tmp 18) (.const (.int .i64 64)) a1 (.int .i64 64)) fun t19 =>
          .op true (binS .shl 54 (.tmp 17) (.tmp 19) t17 t19) fun t20 =>
          .op true (vS (Instr.build 98 #[(0, t20), (1, (.int .u64 0))])) fun t21 =>
          .op false (uS (Instr.storeAt 98 t4 t21)) fun tu_2 =>
          .done .ret [t4]
          )
          (
          .done .normal []
          )
        )
      )
    ) fun tv =>
  .draw <|
  .op true (vS (Instr.fieldAt 98 t2 0)) fun t22 =>
  .op true (vS (Instr.loadAt 54 t22)) fun t23 =>
  .op true (binS .shl 54 (.tmp 23) (.tmp 24) t23 a1) fun t25 =>
  .op true (vS (Instr.fieldAt 98 t2 1)) fun t26 =>
  .op true (vS (Instr.loadAt 54 t26)) fun t27 =>
  .op true (binS .sub 3 (.const (.int .i64 64)) (.tmp 28) (.int .i64 64) a1) fun t29 =>
  .op true (binS .shr 54 (.tmp 27) (.tmp 29) t27 t29) fun t30 =>
  .op true (binS .or 54 (.tmp 25) (.tmp 30) t25 t30) fun t31 =>
  .op true (vS (Instr.fieldAt 98 t2 1)) fun t32 =>
  .op true (vS (Instr.loadAt 54 t32)) fun t33 =>
  .op true (binS .shl 54 (.tmp 33) (.tmp 34) t33 a1) fun t35 =>
  .op true (vS (Instr.build 98 #[(0, t31), (1, t35)])) fun t36 =>
  .op false (uS (Instr.storeAt 98 t4 t36)) fun tu_3 =>
  .done .ret [t4]
def cx121 : Cx := { N := 37, res := [4] }
theorem eq121 (a0 : Value) (a1 : Value) : comp cx121 (bodyC Try.f121) false [] (env0 0 [a0, a1]) (fun e => retP cx121 false e) = p121 a0 a1 := by kernel_rfl

/-- slices.AppendSeq[[]int64,int64] -/
def p122 (a0 : Value) (a1 : Value) : Prog :=
  .op false (vS (Instr.box 112 a0)) fun t2 =>
  .bind
    (
    .block 0 <|
    .rangeF a1 1 (fun ty =>
        .begin <|
        .bind
          (
          .block 1 <|
          .op true (vS (Instr.loadAt 112 t2)) fun t8 =>
          .op false (vS (Instr.buildSlice 112 1 #[(0, (ty.headD undef))])) fun t10 =>
          .op false (bltS .append #[112, 112] 112 #[false, false] [t8, t10]) fun t11 =>
          .op false (uS (Instr.storeAt 112 t2 t11)) fun tu =>
          .done .normal []
          ) fun tv =>
        .done .normal []
      )
      (exK (
        .done .normal []
      ) (
        .done .ret [(.slice none 0 0)]
      ) fun id =>
        .fail)
    ) fun tv_1 =>
  .op true (vS (Instr.loadAt 112 t2)) fun t12 =>
  .done .ret [t12]
def cx122 : Cx := { N := 13, res := [4] }
theorem eq122 (a0 : Value) (a1 : Value) : comp cx122 (bodyC Try.f122) false [] (env0 0 [a0, a1]) (fun e => retP cx122 false e) = p122 a0 a1 := by kernel_rfl

/-- slices.pdqsortOrdered[int64] -/
def p123 (a0 : Value) (a1 : Value) (a2 : Value) (a3 : Value) : Prog :=
  .bind
    (
    .block 0 <|
    .loop [a3, (.bool true), a1, (.bool true), a2] fun tx =>
    .bind
      (
      .block 1 <|
      .op true (binS .sub 3 (.tmp 19) (.tmp 20) (tx.tail.tail.tail.tail.headD undef) (tx.tail.tail.headD undef)) fun t21 =>
      .op true (binS .leq 3 (.tmp 22) (.const (.int .i64 12)) t21 (.int .i64 12)) fun t23 =>
      .ite t23
        (
        .op false (callS (.func (.func 151) #[] #[]) [a0, (tx.tail.tail.headD undef), (tx.tail.tail.tail.tail.headD undef)]) fun t27 =>
        .done .ret []
        )
        (
        .op true (binS .eql 3 (.tmp 28) (.const (.int .i64 0)) (tx.headD undef) (.int .i64 0)) fun t29 =>
        .ite t29
          (
          .op false (callS (.func (.func 152) #[] #[]) [a0, (tx.tail.tail.headD undef), (tx.tail.tail.tail.tail.headD undef)]) fun t33 =>
          .done .ret []
          )
          (
          .op true (vS (Op.unary .not (tx.tail.tail.tail.headD undef))) fun t35 =>
          .bind
            (
            .ite t35
              (
              .op false (callS (.func (.func 153) #[] #[]) [a0, (tx.tail.tail.headD undef), (tx.tail.tail.tail.tail.headD undef)]) fun t39 =>
              .op true (binS .sub 3 (.tmp 40) (.const (.int .i64 1)) (tx.headD undef) (.int .i64 1)) fun t41 =>
              .done .normal [t41]
              )
              (
              .done .normal [(tx.headD undef)]
              )
            ) fun tv =>
          .op false (callS (.func (.func 154) #[] #[]) [a0, (tx.tail.tail.headD undef), (tx.tail.tail.tail.tail.headD undef)]) fun t46 =>
          .op true (vS (Instr.extract t46 0)) fun t47 =>
          .op true (vS (Instr.extract t46 1)) fun t48 =>
          .op true (binS .eql 207 (.tmp 49) (.const (.int .i64 2)) t48 (.int .i64 2)) fun t50 =>
          .bind
            (
            .ite t50
              (
              .op false (callS (.func (.func 155) #[] #[]) [a0, (tx.tail.tail.headD undef), (tx.tail.tail.tail.tail.headD undef)]) fun t54 =>
              .op true (binS .sub 3 (.tmp 55) (.const (.int .i64 1)) (tx.tail.tail.tail.tail.headD undef) (.int .i64 1)) fun t56 =>
              .op true (binS .sub 3 (.tmp 57) (.tmp 58) t47 (tx.tail.tail.headD undef)) fun t59 =>
              .op true (binS .sub 3 (.tmp 56) (.tmp 59) t56 t59) fun t60 =>
              .done .normal [t60, (.int .i64 1)]
              )
              (
              .done .normal [t47, t48]
              )
            ) fun tv_1 =>
          .bind
            (
            .gop (tx.tail.tail.tail.headD undef) true true ((pure (.value (tx.tail.headD undef)))) fun t63 =>
            .op true (pickS (tx.tail.tail.tail.headD undef) t63 (.bool false)) fun t64 =>
            .gop t64 true true ((pure (.value (tv_1.tail.headD undef)))) fun t66 =>
            .gop t64 true true (binS .eql 207 (.tmp 66) (.const (.int .i64 1)) t66 (.int .i64 1)) fun t67 =>
            .op true (pickS t64 t67 (.bool false)) fun t68 =>
            .done .normal [t68]
            ) fun tv_2 =>
          .bind
            (
            .ite (tv_2.headD undef)
              (
              .op false (callS (.func (.func 156) #[] #[]) [a0, (tx.tail.tail.headD undef), (tx.tail.tail.tail.tail.headD undef)]) fun t72 =>
              .ite t72
                (
                .done .ret []
                )
                (
                .done .normal []
                )
              )
              (
              .done .normal []
              )
            ) fun tv_3 =>
          .bind
            (
            .draw <|
            .op true (binS .gtr 3 (.tmp 73) (.const (.int .i64 0)) (tx.tail.tail.headD undef) (.int .i64 0)) fun t74 =>
            .gop t74 true true ((pure (.value a0))) fun t76 =>
            .gop t74 true true ((pure (.value (tx.tail.tail.headD undef)))) fun t77 =>
            .gop t74 true true (binS .sub 3 (.tmp 77) (.const (.int .i64 1)) t77 (.int .i64 1)) fun t78 =>
            .gop t74 true true (vS (Instr.indexAt 112 t76 t78)) fun t79 =>
            .gop t74 true true (vS (Instr.loadAt 2 t79)) fun t80 =>
            .gop t74 true true ((pure (.value a0))) fun t81 =>
            .gop t74 true true ((pure (.value (tv_1.headD undef)))) fun t82 =>
            .gop t74 true true (vS (Instr.indexAt 112 t81 t82)) fun t83 =>
            .gop t74 true true (vS (Instr.loadAt 2 t83)) fun t84 =>
            .gop t74 true false (callS (.func (.func 157) #[] #[]) [t80, t84]) fun t85 =>
            .gop t74 true true (vS (Op.unary .not t85)) fun t86 =>
            .op true (pickS t74 t86 (.bool false)) fun t87 =>
            .done .normal [t87]
            ) fun tv_4 =>
          .ite (tv_4.headD undef)
            (
            .op false (callS (.func (.func 158) #[] #[]) [a0, (tx.tail.tail.headD undef), (tx.tail.tail.tail.tail.headD undef), (tv_1.headD undef)]) fun t92 =>
            .done (.exit 1) [(tv.headD undef), t92, (tx.tail.headD undef), (tx.tail.tail.tail.headD undef), (tx.tail.tail.tail.tail.headD undef)]
            )
            (
            .op false (callS (.func (.func 159) #[] #[]) [a0, (tx.tail.tail.headD undef), (tx.tail.tail.tail.tail.headD undef), (tv_1.headD undef)]) fun t99 =>
            .op true (vS (Instr.extract t99 0)) fun t100 =>
            .op true (vS (Instr.extract t99 1)) fun t101 =>
            .op true (binS .sub 3 (.tmp 103) (.tmp 104) t100 (tx.tail.tail.headD undef)) fun t105 =>
            .op true (binS .sub 3 (.tmp 106) (.tmp 107) (tx.tail.tail.tail.tail.headD undef) t100) fun t108 =>
            .op true (binS .quo 3 (.tmp 109) (.const (.int .i64 8)) t21 (.int .i64 8)) fun t110 =>
            .op true (binS .lss 3 (.tmp 111) (.tmp 112) t105 t108) fun t113 =>
            .bind
              (
              .ite t113
                (
                .op true (binS .geq 3 (.tmp 114) (.tmp 115) t105 t110) fun t116 =>
                .op false (callS (.func (.func 123) #[] #[]) [a0, (tx.tail.tail.headD undef), t100, (tv.headD undef)]) fun t121 =>
                .op true (binS .add 3 (.tmp 122) (.const (.int .i64 1)) t100 (.int .i64 1)) fun t123 =>
                .done .normal [t116, t123, (tx.tail.tail.tail.tail.headD undef)]
                )
                (
                .op true (binS .geq 3 (.tmp 124) (.tmp 125) t108 t110) fun t126 =>
                .op true (binS .add 3 (.tmp 128) (.const (.int .i64 1)) t100 (.int .i64 1)) fun t129 =>
                .op false (callS (.func (.func 123) #[] #[]) [a0, t129, (tx.tail.tail.tail.tail.headD undef), (tv.headD undef)]) fun t132 =>
                .done .normal [t126, (tx.tail.tail.headD undef), t100]
                )
              ) fun tv_5 =>
            .done .normal [(tv.headD undef), (tv_5.tail.headD undef), t101, (tv_5.headD undef), (tv_5.tail.tail.headD undef)]
            )
          )
        )
      ) fun tv_6 =>
    .done .normal [(tv_6.headD undef), (tv_6.tail.tail.headD undef), (tv_6.tail.headD undef), (tv_6.tail.tail.tail.headD undef), (tv_6.tail.tail.tail.tail.headD undef)]
    ) fun tv_7 =>
  .done .ret []
def cx123 : Cx := { N := 134, res := [], blk := [(1, [3, 1, 9, 8, 2])], cnd := [(35, [3]), (50, [11, 12]), (113, [8, 1, 2])], reg := [(15, [68]), (17, [87])] }
theorem eq123 (a0 : Value) (a1 : Value) (a2 : Value) (a3 : Value) : comp cx123 (bodyC Try.f123) false [] (env0 0 [a0, a1, a2, a3]) (fun e => retP cx123 false e) = p123 a0 a1 a2 a3 := by kernel_rfl

/-- math/bits.Len -/
def p124 (a0 : Value) : Prog :=
  .ite (.bool false)
    (
    .op true (vS (convert 129 215 a0)) fun t4 =>
    .op false (callS (.func (.func 160) #[] #[]) [t4]) fun t5 =>
    .done .ret [t5]
    )
    (
    .op false (callS (.func (.func 161) #[] #[]) [a0]) fun t7 =>
    .done .ret [t7]
    )
def cx124 : Cx := { N := 8, res := [2] }
theorem eq124 (a0 : Value) : comp cx124 (bodyC Try.f124) false [] (env0 0 [a0]) (fun e => retP cx124 false e) = p124 a0 := by kernel_rfl

/-- damper/fix.size -/
def p125 (a0 : Value) : Prog :=
  .op false (callS (.func (.func 126) #[] #[]) [a0]) fun t5 =>
  .op true (binS .xor 2 (.tmp 3) (.tmp 5) a0 t5) fun t6 =>
  .op false (callS (.func (.func 126) #[] #[]) [a0]) fun t8 =>
  .op true (binS .sub 2 (.tmp 6) (.tmp 8) t6 t8) fun t9 =>
  .op true (vS (convert 2 54 t9)) fun t10 =>
  .done .ret [t10]
def cx125 : Cx := { N := 11, res := [2] }
theorem eq125 (a0 : Value) : comp cx125 (bodyC Try.f125) false [] (env0 0 [a0]) (fun e => retP cx125 false e) = p125 a0 := by kernel_rfl

/-- damper/fix.sign -/
def p126 (a0 : Value) : Prog :=
  .op true (binS .shr 2 (.tmp 3) (.const (.int .u64 63)) a0 (.int .u64 63)) fun t4 =>
  .done .ret [t4]
def cx126 : Cx := { N := 5, res := [2] }
theorem eq126 (a0 : Value) : comp cx126 (bodyC Try.f126) false [] (env0 0 [a0]) (fun e => retP cx126 false e) = p126 a0 := by kernel_rfl

/-- damper/damperref07.part -/
def p127 (a0 : Value) : Prog :=
  .op false (callS (.func (.func 89) #[] #[]) [a0, (.int .i64 0), (.int .i64 9999)]) fun t4 =>
  .done .ret [t4]
def cx127 : Cx := { N := 5, res := [2] }
theorem eq127 (a0 : Value) : comp cx127 (bodyC Try.f127) false [] (env0 0 [a0]) (fun e => retP cx127 false e) = p127 a0 := by kernel_rfl

/-- damper/command.Right -/
def p128 (a0 : Value) : Prog :=
  .op false (vS (Instr.box 62 a0)) fun t1 =>
  .bind
    (
    .op true (vS (Instr.fieldAt 62 t1 1)) fun t6 =>
    .op true (vS (Instr.loadAt 3 t6)) fun t7 =>
    .op false (callS (.func (.func 162) #[] #[]) [t7, (.int .i64 0), (.int .i64 255)]) fun t8 =>
    .op true (vS (Op.unary .not t8)) fun t9 =>
    .gop t9 false true (vS (Instr.fieldAt 62 t1 2)) fun t11 =>
    .gop t9 false true (vS (Instr.loadAt 2 t11)) fun t12 =>
    .gop t9 false true (binS .lss 2 (.tmp 12) (.const (.int .i64 0)) t12 (.int .i64 0)) fun t13 =>
    .op true (pickS t9 (.bool true) t13) fun t14 =>
    .gop t14 false true (vS (Instr.fieldAt 62 t1 2)) fun t16 =>
    .gop t14 false true (vS (Instr.loadAt 2 t16)) fun t17 =>
    .gop t14 false true (binS .gtr 2 (.tmp 17) (.const (.int .i64 4611686018427387904)) t17 (.int .i64 4611686018427387904)) fun t18 =>
    .op true (pickS t14 (.bool true) t18) fun t19 =>
    .done .normal [t19]
    ) fun tv =>
  .ite (tv.headD undef)
    (
    .done .ret [(.bool false)]
    )
    (
    .op true (vS (Instr.loadAt 62 t1)) fun t20 =>
    .op false (vS (Instr.alloc 62 true (.tuple #[]))) fun t4 =>
    .op false (uS (Instr.storeAt 62 t4 t20)) fun tu =>
    .op true (vS (Instr.fieldAt 62 t4 0)) fun t21 =>
    .op false (uS (Instr.storeAt 3 t21 (.int .i64 0))) fun tu_1 =>
    .op true (vS (Instr.fieldAt 62 t4 1)) fun t22 =>
    .op false (uS (Instr.storeAt 3 t22 (.int .i64 0))) fun tu_2 =>
    .op true (vS (Instr.fieldAt 62 t4 2)) fun t23 =>
    .op false (uS (Instr.storeAt 2 t23 (.int .i64 0))) fun tu_3 =>
    .op true (vS (Instr.fieldAt 62 t1 0)) fun t24 =>
    .op true (vS (Instr.loadAt 3 t24)) fun t25 =>
    .bind
      (
      .block 0 <|
      .op true (binS .eql 3 (.tmp 25) (.const (.int .i64 1)) t25 (.int .i64 1)) fun t27 =>
      .ite t27
        (
        .bind
          (
          .op true (vS (Instr.fieldAt 62 t1 3)) fun t29 =>
          .op true (vS (Instr.loadAt 3 t29)) fun t30 =>
          .op false (callS (.func (.func 162) #[] #[]) [t30, (.int .i64 0), (.int .i64 1073741824)]) fun t31 =>
          .gop t31 true true ((pure (.value (.func (.func 162) #[] #[])))) fun t33 =>
          .gop t31 true true (vS (Instr.fieldAt 62 t1 4)) fun t34 =>
          .gop t31 true true (vS (Instr.loadAt 3 t34)) fun t35 =>
          .gop t31 true false (callS t33 [t35, (.int .i64 0), (.int .i64 1)]) fun t36 =>
          .op true (pickS t31 t36 (.bool false)) fun t37 =>
          .gop t37 true true ((pure (.value (.func (.func 162) #[] #[])))) fun t39 =>
          .gop t37 true true (vS (Instr.fieldAt 62 t1 5)) fun t40 =>
          .gop t37 true true (vS (Instr.loadAt 3 t40)) fun t41 =>
          .gop t37 true false (callS t39 [t41, (.int .i64 1), (.int .i64 5)]) fun t42 =>
          .op true (pickS t37 t42 (.bool false)) fun t43 =>
          .gop t43 true true ((pure (.value (.func (.func 162) #[] #[])))) fun t45 =>
          .gop t43 true true (vS (Instr.fieldAt 62 t1 8)) fun t46 =>
          .gop t43 true true (vS (Instr.loadAt 3 t46)) fun t47 =>
          .gop t43 true false (callS t45 [t47, (.int .i64 0), (.int .i64 7)]) fun t48 =>
          .op true (pickS t43 t48 (.bool false)) fun t49 =>
          .done .normal [t49]
          ) fun tv_1 =>
        .done .ret [(tv_1.headD undef)]
        )
        (
        .op true (binS .eql 3 (.tmp 25) (.const (.int .i64 3)) t25 (.int .i64 3)) fun t51 =>
        .ite t51
          (
          .op true (vS (Instr.fieldAt 62 t4 6)) fun t52 =>
          .op false (uS (Instr.storeAt 2 t52 (.int .i64 0))) fun tu_4 =>
          .op true (vS (Instr.fieldAt 62 t4 7)) fun t53 =>
          .op false (uS (Instr.storeAt 2 t53 (.int .i64 0))) fun tu_5 =>
          .op true (vS (Instr.loadAt 62 t4)) fun t54 =>
          .op true (vS (Instr.build 62 #[])) fun t55 =>
          .op true (binS .eql 62 (.tmp 54) (.tmp 55) t54 t55) fun t56 =>
          .done .ret [t56]
          )
          (
          .op true (binS .eql 3 (.tmp 25) (.const (.int .i64 2)) t25 (.int .i64 2)) fun t58 =>
          .ite t58
            (
            .op true (vS (Instr.loadAt 62 t4)) fun t59 =>
            .op true (vS (Instr.build 62 #[])) fun t60 =>
            .op true (binS .eql 62 (.tmp 59) (.tmp 60) t59 t60) fun t61 =>
            .done .ret [t61]
            )
            (
            .done .normal [(.bool false)]
            )
          )
        )
      ) fun tv_2 =>
    .done .ret [(.bool false)]
    )
def cx128 : Cx := { N := 62, res := [2], blk := [(0, [2])], reg := [(2, [19]), (8, [2])] }
theorem eq128 (a0 : Value) : comp cx128 (bodyC Try.f128) false [] (env0 0 [a0]) (fun e => retP cx128 false e) = p128 a0 := by kernel_rfl

/-- (*damper/octets.Writer).Raw -/
def p129 (a0 : Value) (a1 : Value) : Prog :=
  .op true (binS .neq 191 (.tmp 5) (.const (.pointer none)) a0 (.pointer none)) fun t6 =>
  .bind
    (
    .ite t6
      (
      .op true (nilS a0) fun t9 =>
      .op true (vS (Instr.fieldAt 193 t9 0)) fun t10 =>
      .op true (vS (Instr.loadAt 130 t10)) fun t11 =>
      .op false (bltS .append #[130, 130] 130 #[false, false] [t11, a1]) fun t13 =>
      .op true (nilS a0) fun t14 =>
      .op true (vS (Instr.fieldAt 193 t14 0)) fun t15 =>
      .op false (uS (Instr.storeAt 130 t15 t13)) fun tu =>
      .done .normal []
      )
      (
      .done .normal []
      )
    ) fun tv =>
  .done .ret [a0]
def cx129 : Cx := { N := 17, res := [4] }
theorem eq129 (a0 : Value) (a1 : Value) : comp cx129 (bodyC Try.f129) false [] (env0 0 [a0, a1]) (fun e => retP cx129 false e) = p129 a0 a1 := by kernel_rfl

/-- (*damper/octets.Writer).Num -/
def p130 (a0 : Value) (a1 : Value) : Prog :=
  .op true (binS .eql 191 (.tmp 5) (.const (.pointer none)) a0 (.pointer none)) fun t6 =>
  .ite t6
    (
    .done .ret [(.pointer none)]
    )
    (
    .bind
      (
      .block 0 <|
      .loop [a1] fun tx =>
      .op true (binS .geq 54 (.tmp 7) (.const (.int .u64 128)) (tx.headD undef) (.int .u64 128)) fun t8 =>
      .ite t8
        (
        .bind
          (
          .block 1 <|
          .op true (nilS a0) fun t13 =>
          .op true (vS (Instr.fieldAt 193 t13 0)) fun t14 =>
          .op true (vS (Instr.loadAt 130 t14)) fun t15 =>
          .op true (vS (convert 54 5 (tx.headD undef))) fun t17 =>
          .op true (binS .or 5 (.tmp 17) (.const (.int .u8 128)) t17 (.int .u8 128)) fun t18 =>
          .op false (vS (Instr.buildSlice 130 1 #[(0, t18)])) fun t19 =>
          .op false (bltS .append #[130, 130] 130 #[false, false] [t15, t19]) fun t20 =>
          .op true (nilS a0) fun t21 =>
          .op true (vS (Instr.fieldAt 193 t21 0)) fun t22 =>
          .op false (uS (Instr.storeAt 130 t22 t20)) fun tu =>
          .done .normal []
          ) fun tv =>
        .op true (binS .shr 54 (.tmp 9) (.const (.int .u64 7)) (tx.headD undef) (.int .u64 7)) fun t10 =>
        .done .normal [t10]
        )
        (
        .done (.exit 0) [(tx.headD undef)]
        )
      ) fun tv_1 =>
    .op true (nilS a0) fun t25 =>
    .op true (vS (Instr.fieldAt 193 t25 0)) fun t26 =>
    .op true (vS (Instr.loadAt 130 t26)) fun t27 =>
    .op true (vS (convert 54 5 (tv_1.headD undef))) fun t29 =>
    .op false (vS (Instr.buildSlice 130 1 #[(0, t29)])) fun t30 =>
    .op false (bltS .append #[130, 130] 130 #[false, false] [t27, t30]) fun t31 =>
    .op true (nilS a0) fun t32 =>
    .op true (vS (Instr.fieldAt 193 t32 0)) fun t33 =>
    .op false (uS (Instr.storeAt 130 t33 t31)) fun tu_1 =>
    .done .ret [a0]
    )
def cx130 : Cx := { N := 35, res := [4], blk := [(0, [1])] }
theorem eq130 (a0 : Value) (a1 : Value) : comp cx130 (bodyC Try.f130) false [] (env0 0 [a0, a1]) (fun e => retP cx130 false e) = p130 a0 a1 := by kernel_rfl

/-- (*damper/octets.Writer).Int -/
def p131 (a0 : Value) (a1 : Value) : Prog :=
  .op true (binS .shl 2 (.tmp 6) (.const (.int .u64 1)) a1 (.int .u64 1)) fun t7 =>
  .op true (vS (convert 2 54 t7)) fun t8 =>
  .op true (binS .shr 2 (.tmp 9) (.const (.int .u64 63)) a1 (.int .u64 63)) fun t10 =>
  .op true (vS (convert 2 54 t10)) fun t11 =>
  .op true (binS .xor 54 (.tmp 8) (.tmp 11) t8 t11) fun t12 =>
  .op false (callS (.func (.func 163) #[] #[]) [a0, t12, (.int .i64 8)]) fun t13 =>
  .done .ret [t13]
def cx131 : Cx := { N := 14, res := [4] }
theorem eq131 (a0 : Value) (a1 : Value) : comp cx131 (bodyC Try.f131) false [] (env0 0 [a0, a1]) (fun e => retP cx131 false e) = p131 a0 a1 := by kernel_rfl

/-- (*damper/octets.Writer).Bytes -/
def p132 (a0 : Value) : Prog :=
  .op true (binS .eql 191 (.tmp 3) (.const (.pointer none)) a0 (.pointer none)) fun t4 =>
  .ite t4
    (
    .done .ret [(.slice none 0 0)]
    )
    (
    .op true (nilS a0) fun t6 =>
    .op true (vS (Instr.fieldAt 193 t6 0)) fun t7 =>
    .op true (vS (Instr.loadAt 130 t7)) fun t8 =>
    .op false (callS (.func (.func 164) #[] #[]) [t8]) fun t9 =>
    .done .ret [t9]
    )
def cx132 : Cx := { N := 10, res := [2] }
theorem eq132 (a0 : Value) : comp cx132 (bodyC Try.f132) false [] (env0 0 [a0]) (fun e => retP cx132 false e) = p132 a0 := by kernel_rfl

/-- damper/damperref05.Right -/
def p133 (a0 : Value) : Prog :=
  .op false (vS (Instr.box 62 a0)) fun t1 =>
  .bind
    (
    .op true (vS (Instr.fieldAt 62 t1 1)) fun t3 =>
    .op true (vS (Instr.loadAt 3 t3)) fun t4 =>
    .op false (callS (.func (.func 165) #[] #[]) [t4, (.int .i64 0), (.int .i64 255)]) fun t5 =>
    .op true (vS (Op.unary .not t5)) fun t6 =>
    .gop t6 false true (vS (Instr.fieldAt 62 t1 2)) fun t8 =>
    .gop t6 false true (vS (Instr.loadAt 2 t8)) fun t9 =>
    .gop t6 false false (callS (.func (.func 165) #[] #[]) [t9, (.int .i64 0), (.int .i64 4611686018427387904)]) fun t10 =>
    .gop t6 false true (vS (Op.unary .not t10)) fun t11 =>
    .op true (pickS t6 (.bool true) t11) fun t12 =>
    .done .normal [t12]
    ) fun tv =>
  .ite (tv.headD undef)
    (
    .done .ret [(.bool false)]
    )
    (
    .op true (vS (Instr.fieldAt 62 t1 0)) fun t13 =>
    .op true (vS (Instr.loadAt 3 t13)) fun t14 =>
    .bind
      (
      .block 0 <|
      .op true (binS .eql 3 (.tmp 14) (.const (.int .i64 1)) t14 (.int .i64 1)) fun t16 =>
      .ite t16
        (
        .bind
          (
          .op true (vS (Instr.fieldAt 62 t1 3)) fun t17 =>
          .op true (vS (Instr.loadAt 3 t17)) fun t18 =>
          .op false (callS (.func (.func 165) #[] #[]) [t18, (.int .i64 0), (.int .i64 1073741824)]) fun t19 =>
          .gop t19 true true (vS (Instr.fieldAt 62 t1 4)) fun t21 =>
          .gop t19 true true (vS (Instr.loadAt 3 t21)) fun t22 =>
          .gop t19 true false (callS (.func (.func 165) #[] #[]) [t22, (.int .i64 0), (.int .i64 1)]) fun t23 =>
          .op true (pickS t19 t23 (.bool false)) fun t24 =>
          .gop t24 true true (vS (Instr.fieldAt 62 t1 5)) fun t26 =>
          .gop t24 true true (vS (Instr.loadAt 3 t26)) fun t27 =>
          .gop t24 true false (callS (.func (.func 165) #[] #[]) [t27, (.int .i64 1), (.int .i64 5)]) fun t28 =>
          .op true (pickS t24 t28 (.bool false)) fun t29 =>
          .gop t29 true true (vS (Instr.fieldAt 62 t1 8)) fun t31 =>
          .gop t29 true true (vS (Instr.loadAt 3 t31)) fun t32 =>
          .gop t29 true false (callS (.func (.func 165) #[] #[]) [t32, (.int .i64 0), (.int .i64 7)]) fun t33 =>
          .op true (pickS t29 t33 (.bool false)) fun t34 =>
          .done .normal [t34]
          ) fun tv_1 =>
        .done .ret [(tv_1.headD undef)]
        )
        (
        .op true (binS .eql 3 (.tmp 14) (.const (.int .i64 2)) t14 (.int .i64 2)) fun t36 =>
        .ite t36
          (
          .op true (vS (Instr.loadAt 62 t1)) fun t37 =>
          .op true (vS (Instr.fieldAt 62 t1 1)) fun t38 =>
          .op true (vS (Instr.loadAt 3 t38)) fun t39 =>
          .op true (vS (Instr.fieldAt 62 t1 2)) fun t40 =>
          .op true (vS (Instr.loadAt 2 t40)) fun t41 =>
          .op true (vS (Instr.build 62 #[(0, (.int .i64 2)), (1, t39), (2, t41)])) fun t42 =>
          .op true (binS .eql 62 (.tmp 37) (.tmp 42) t37 t42) fun t43 =>
          .done .ret [t43]
          )
          (
          .op true (binS .eql 3 (.tmp 14) (.const (.int .i64 3)) t14 (.int .i64 3)) fun t45 =>
          .ite t45
            (
            .op true (vS (Instr.loadAt 62 t1)) fun t46 =>
            .op true (vS (Instr.fieldAt 62 t1 1)) fun t47 =>
            .op true (vS (Instr.loadAt 3 t47)) fun t48 =>
            .op true (vS (Instr.fieldAt 62 t1 2)) fun t49 =>
            .op true (vS (Instr.loadAt 2 t49)) fun t50 =>
            .op true (vS (Instr.fieldAt 62 t1 6)) fun t51 =>
            .op true (vS (Instr.loadAt 2 t51)) fun t52 =>
            .op true (vS (Instr.fieldAt 62 t1 7)) fun t53 =>
            .op true (vS (Instr.loadAt 2 t53)) fun t54 =>
            .op true (vS (Instr.build 62 #[(0, (.int .i64 3)), (1, t48), (2, t50), (6, t52), (7, t54)])) fun t55 =>
            .op true (binS .eql 62 (.tmp 46) (.tmp 55) t46 t55) fun t56 =>
            .done .ret [t56]
            )
            (
            .done .normal [(.bool false)]
            )
          )
        )
      ) fun tv_2 =>
    .done .ret [(.bool false)]
    )
def cx133 : Cx := { N := 57, res := [2], blk := [(0, [2])], reg := [(1, [12]), (5, [2])] }
theorem eq133 (a0 : Value) : comp cx133 (bodyC Try.f133) false [] (env0 0 [a0]) (fun e => retP cx133 false e) = p133 a0 := by kernel_rfl

/-- damper/damperref05.form -/
def p134 (a0 : Value) : Prog :=
  .op false (vS (Instr.box 62 a0)) fun t1 =>
  .op true (vS (Instr.fieldAt 62 t1 0)) fun t4 =>
  .op true (vS (Instr.loadAt 3 t4)) fun t5 =>
  .op true (vS (convert 3 5 t5)) fun t6 =>
  .op true (vS (Instr.fieldAt 62 t1 1)) fun t7 =>
  .op true (vS (Instr.loadAt 3 t7)) fun t8 =>
  .op true (vS (convert 3 5 t8)) fun t9 =>
  .op false (vS (Instr.buildSlice 130 2 #[(0, t6), (1, t9)])) fun t10 =>
  .op true (vS (Instr.fieldAt 62 t1 2)) fun t12 =>
  .op true (vS (Instr.loadAt 2 t12)) fun t13 =>
  .op true (vS (convert 2 54 t13)) fun t14 =>
  .op false (callS (.func (.func 166) #[] #[]) [t14]) fun t15 =>
  .op false (bltS .append #[130, 130] 130 #[false, false] [t10, t15]) fun t16 =>
  .op true (vS (Instr.fieldAt 62 t1 0)) fun t17 =>
  .op true (vS (Instr.loadAt 3 t17)) fun t18 =>
  .op true (binS .eql 3 (.tmp 18) (.const (.int .i64 1)) t18 (.int .i64 1)) fun t19 =>
  .bind
    (
    .ite t19
      (
      .op true (vS (Instr.fieldAt 62 t1 3)) fun t21 =>
      .op true (vS (Instr.loadAt 3 t21)) fun t22 =>
      .op true (vS (convert 3 54 t22)) fun t23 =>
      .op false (callS (.func (.func 166) #[] #[]) [t23]) fun t24 =>
      .op false (bltS .append #[130, 130] 130 #[false, false] [t16, t24]) fun t25 =>
      .op true (vS (Instr.fieldAt 62 t1 4)) fun t27 =>
      .op true (vS (Instr.loadAt 3 t27)) fun t28 =>
      .op true (vS (convert 3 5 t28)) fun t29 =>
      .op true (vS (Instr.fieldAt 62 t1 5)) fun t30 =>
      .op true (vS (Instr.loadAt 3 t30)) fun t31 =>
      .op true (vS (convert 3 5 t31)) fun t32 =>
      .op true (vS (Instr.fieldAt 62 t1 8)) fun t33 =>
      .op true (vS (Instr.loadAt 3 t33)) fun t34 =>
      .op true (vS (convert 3 5 t34)) fun t35 =>
      .op false (vS (Instr.buildSlice 130 3 #[(0, t29), (1, t32), (2, t35)])) fun t36 =>
      .op false (bltS .append #[130, 130] 130 #[false, false] [t25, t36]) fun t37 =>
      .done .normal [t37]
      )
      (
      .done .normal [t16]
      )
    ) fun tv =>
  .op true (vS (Instr.fieldAt 62 t1 0)) fun t38 =>
  .op true (vS (Instr.loadAt 3 t38)) fun t39 =>
  .op true (binS .neq 3 (.tmp 39) (.const (.int .i64 2)) t39 (.int .i64 2)) fun t40 =>
  .bind
    (
    .ite t40
      (
      .op true (vS (Instr.fieldAt 62 t1 6)) fun t42 =>
      .op true (vS (Instr.loadAt 2 t42)) fun t43 =>
      .op false (callS (.func (.func 167) #[] #[]) [t43]) fun t44 =>
      .op false (bltS .append #[130, 130] 130 #[false, false] [(tv.headD undef), t44]) fun t45 =>
      .op true (vS (Instr.fieldAt 62 t1 7)) fun t47 =>
      .op true (vS (Instr.loadAt 2 t47)) fun t48 =>
      .op false (callS (.func (.func 167) #[] #[]) [t48]) fun t49 =>
      .op false (bltS .append #[130, 130] 130 #[false, false] [t45, t49]) fun t50 =>
      .done .normal [t50]
      )
      (
      .done .normal [(tv.headD undef)]
      )
    ) fun tv_1 =>
  .done .ret [(tv_1.headD undef)]
def cx134 : Cx := { N := 52, res := [2], cnd := [(19, [3]), (40, [3])] }
theorem eq134 (a0 : Value) : comp cx134 (bodyC Try.f134) false [] (env0 0 [a0]) (fun e => retP cx134 false e) = p134 a0 := by kernel_rfl

/-- slices.ContainsFunc[[]int64,int64] -/
def p135 (a0 : Value) (a1 : Value) : Prog :=
  .op false (callS (.func (.func 168) #[] #[]) [a0, a1]) fun t7 =>
  .op true (binS .geq 3 (.tmp 7) (.const (.int .i64 0)) t7 (.int .i64 0)) fun t8 =>
  .done .ret [t8]
def cx135 : Cx := { N := 9, res := [4] }
theorem eq135 (a0 : Value) (a1 : Value) : comp cx135 (bodyC Try.f135) false [] (env0 0 [a0, a1]) (fun e => retP cx135 false e) = p135 a0 a1 := by kernel_rfl

/-- damper/config.all$1 -/
def p136 (a0 : Value) (a1 : Value) (a2 : Value) : Prog :=
  .bind
    (
    .op true (vS (Instr.loadAt 2 a1)) fun t6 =>
    .op true (binS .lss 2 (.tmp 5) (.tmp 6) a0 t6) fun t7 =>
    .gop t7 false true ((pure (.value a0))) fun t9 =>
    .gop t7 false true (vS (Instr.loadAt 2 a2)) fun t10 =>
    .gop t7 false true (binS .gtr 2 (.tmp 9) (.tmp 10) t9 t10) fun t11 =>
    .op true (pickS t7 (.bool true) t11) fun t12 =>
    .done .normal [t12]
    ) fun tv =>
  .done .ret [(tv.headD undef)]
def cx136 : Cx := { N := 13, res := [4], reg := [(1, [4])] }
theorem eq136 (a0 : Value) (a1 : Value) (a2 : Value) : comp cx136 (bodyC Try.f136) false [] (env0 0 [a0, a1, a2]) (fun e => retP cx136 false e) = p136 a0 a1 a2 := by kernel_rfl

/-- damper/config.Symbol$1 -/
def p137 (a0 : Value) : Prog :=
  .op true (vS (Instr.fieldAt 123 a0 0)) fun t2 =>
  .op true (vS (Instr.loadAt 2 t2)) fun t3 =>
  .op true (vS (Instr.fieldAt 123 a0 1)) fun t4 =>
  .op true (vS (Instr.loadAt 2 t4)) fun t5 =>
  .op false (vS (Instr.buildSlice 112 2 #[(0, t3), (1, t5)])) fun t6 =>
  .op false (callS (.func (.func 93) #[] #[]) [(.int .i64 1), (.int .i64 1099511627776), t6]) fun t7 =>
  .done .ret [t7]
def cx137 : Cx := { N := 8, res := [1] }
theorem eq137 (a0 : Value) : comp cx137 (bodyC Try.f137) false [] (env0 0 [a0]) (fun e => retP cx137 false e) = p137 a0 := by kernel_rfl

/-- damper/config.Symbol$2 -/
def p138 (a0 : Value) : Prog :=
  .op true (vS (Instr.fieldAt 123 a0 1)) fun t2 =>
  .op true (vS (Instr.loadAt 2 t2)) fun t3 =>
  .op true (vS (Instr.fieldAt 123 a0 0)) fun t4 =>
  .op true (vS (Instr.loadAt 2 t4)) fun t5 =>
  .op false (callS (.func (.func 78) #[] #[]) [t3, t5]) fun t6 =>
  .op true (binS .eql 25 (.tmp 6) (.const (.int .i64 0)) t6 (.int .i64 0)) fun t7 =>
  .done .ret [t7]
def cx138 : Cx := { N := 8, res := [1] }
theorem eq138 (a0 : Value) : comp cx138 (bodyC Try.f138) false [] (env0 0 [a0]) (fun e => retP cx138 false e) = p138 a0 := by kernel_rfl

/-- damper/config.Symbol$3 -/
def p139 (a0 : Value) : Prog :=
  .op true (vS (Instr.fieldAt 123 a0 2)) fun t2 =>
  .op true (vS (Instr.loadAt 3 t2)) fun t3 =>
  .op true (vS (Instr.fieldAt 123 a0 3)) fun t4 =>
  .op true (vS (Instr.loadAt 3 t4)) fun t5 =>
  .op true (vS (Instr.fieldAt 123 a0 5)) fun t6 =>
  .op true (vS (Instr.loadAt 3 t6)) fun t7 =>
  .op true (vS (Instr.fieldAt 123 a0 10)) fun t8 =>
  .op true (vS (Instr.loadAt 3 t8)) fun t9 =>
  .op true (vS (Instr.fieldAt 123 a0 11)) fun t10 =>
  .op true (vS (Instr.loadAt 3 t10)) fun t11 =>
  .op true (vS (Instr.fieldAt 123 a0 15)) fun t12 =>
  .op true (vS (Instr.loadAt 3 t12)) fun t13 =>
  .op false (vS (Instr.buildSlice 112 6 #[(0, t3), (1, t5), (2, t7), (3, t9), (4, t11), (5, t13)])) fun t14 =>
  .op false (callS (.func (.func 93) #[] #[]) [(.int .i64 0), (.int .i64 9999), t14]) fun t15 =>
  .done .ret [t15]
def cx139 : Cx := { N := 16, res := [1] }
theorem eq139 (a0 : Value) : comp cx139 (bodyC Try.f139) false [] (env0 0 [a0]) (fun e => retP cx139 false e) = p139 a0 := by kernel_rfl

/-- damper/config.Symbol$4 -/
def p140 (a0 : Value) : Prog :=
  .op true (vS (Instr.fieldAt 123 a0 4)) fun t2 =>
  .op true (vS (Instr.loadAt 2 t2)) fun t3 =>
  .op true (vS (Instr.fieldAt 123 a0 6)) fun t4 =>
  .op true (vS (Instr.loadAt 2 t4)) fun t5 =>
  .op true (vS (Instr.fieldAt 123 a0 7)) fun t6 =>
  .op true (vS (Instr.loadAt 2 t6)) fun t7 =>
  .op true (vS (Instr.fieldAt 123 a0 8)) fun t8 =>
  .op true (vS (Instr.loadAt 2 t8)) fun t9 =>
  .op false (vS (Instr.buildSlice 112 4 #[(0, t3), (1, t5), (2, t7), (3, t9)])) fun t10 =>
  .op false (callS (.func (.func 93) #[] #[]) [(.int .i64 1), (.int .i64 1099511627776), t10]) fun t11 =>
  .done .ret [t11]
def cx140 : Cx := { N := 12, res := [1] }
theorem eq140 (a0 : Value) : comp cx140 (bodyC Try.f140) false [] (env0 0 [a0]) (fun e => retP cx140 false e) = p140 a0 := by kernel_rfl

/-- damper/config.Symbol$5 -/
def p141 (a0 : Value) : Prog :=
  .bind
    (
    .op true (vS (Instr.fieldAt 123 a0 9)) fun t2 =>
    .op true (vS (Instr.loadAt 3 t2)) fun t3 =>
    .op false (vS (Instr.buildSlice 112 1 #[(0, t3)])) fun t4 =>
    .op false (callS (.func (.func 93) #[] #[]) [(.int .i64 0), (.int .i64 10), t4]) fun t5 =>
    .gop t5 true true (vS (Instr.fieldAt 123 a0 12)) fun t7 =>
    .gop t5 true true (vS (Instr.loadAt 3 t7)) fun t8 =>
    .gop t5 true false (vS (Instr.buildSlice 112 1 #[(0, t8)])) fun t9 =>
    .gop t5 true false (callS (.func (.func 93) #[] #[]) [(.int .i64 0), (.int .i64 3), t9]) fun t10 =>
    .op true (pickS t5 t10 (.bool false)) fun t11 =>
    .done .normal [t11]
    ) fun tv =>
  .done .ret [(tv.headD undef)]
def cx141 : Cx := { N := 12, res := [1], reg := [(1, [1])] }
theorem eq141 (a0 : Value) : comp cx141 (bodyC Try.f141) false [] (env0 0 [a0]) (fun e => retP cx141 false e) = p141 a0 := by kernel_rfl

/-- damper/config.Symbol$6 -/
def p142 (a0 : Value) : Prog :=
  .bind
    (
    .op true (vS (Instr.fieldAt 123 a0 13)) fun t2 =>
    .op true (vS (Instr.loadAt 3 t2)) fun t3 =>
    .op false (vS (Instr.buildSlice 112 1 #[(0, t3)])) fun t4 =>
    .op false (callS (.func (.func 93) #[] #[]) [(.int .i64 1), (.int .i64 500), t4]) fun t5 =>
    .gop t5 true true (vS (Instr.fieldAt 123 a0 14)) fun t7 =>
    .gop t5 true true (vS (Instr.loadAt 3 t7)) fun t8 =>
    .gop t5 true false (vS (Instr.buildSlice 112 1 #[(0, t8)])) fun t9 =>
    .gop t5 true false (callS (.func (.func 93) #[] #[]) [(.int .i64 1), (.int .i64 200), t9]) fun t10 =>
    .op true (pickS t5 t10 (.bool false)) fun t11 =>
    .done .normal [t11]
    ) fun tv =>
  .done .ret [(tv.headD undef)]
def cx142 : Cx := { N := 12, res := [1], reg := [(1, [1])] }
theorem eq142 (a0 : Value) : comp cx142 (bodyC Try.f142) false [] (env0 0 [a0]) (fun e => retP cx142 false e) = p142 a0 := by kernel_rfl

/-- damper/config.Symbol$7 -/
def p143 (a0 : Value) : Prog :=
  .op true (vS (Instr.fieldAt 123 a0 3)) fun t2 =>
  .op true (vS (Instr.loadAt 3 t2)) fun t3 =>
  .op true (vS (Instr.fieldAt 123 a0 2)) fun t4 =>
  .op true (vS (Instr.loadAt 3 t4)) fun t5 =>
  .op true (binS .leq 3 (.tmp 3) (.tmp 5) t3 t5) fun t6 =>
  .done .ret [t6]
def cx143 : Cx := { N := 7, res := [1] }
theorem eq143 (a0 : Value) : comp cx143 (bodyC Try.f143) false [] (env0 0 [a0]) (fun e => retP cx143 false e) = p143 a0 := by kernel_rfl

/-- damper/band.In -/
def p144 (a0 : Value) (a1 : Value) : Prog :=
  .op false (vS (Instr.box 85 a0)) fun t2 =>
  .op true (vS (Instr.loadAt 85 t2)) fun t8 =>
  .op false (callS (.func (.func 169) #[] #[]) [t8, a1]) fun t10 =>
  .op true (vS (Instr.extract t10 0)) fun t11 =>
  .op true (vS (Instr.extract t10 1)) fun t12 =>
  .bind
    (
    .gop t12 true true ((pure (.value t11))) fun t15 =>
    .gop t12 true true ((pure (.value a1))) fun t16 =>
    .gop t12 true true (binS .eql 2 (.tmp 15) (.tmp 16) t15 t16) fun t17 =>
    .op true (pickS t12 t17 (.bool false)) fun t18 =>
    .done .normal [t18]
    ) fun tv =>
  .done .ret [(tv.headD undef)]
def cx144 : Cx := { N := 19, res := [4], reg := [(2, [4])] }
theorem eq144 (a0 : Value) (a1 : Value) : comp cx144 (bodyC Try.f144) false [] (env0 0 [a0, a1]) (fun e => retP cx144 false e) = p144 a0 a1 := by kernel_rfl

/-- damper/damperref20.In -/
def p145 (a0 : Value) (a1 : Value) : Prog :=
  .op false (vS (Instr.box 85 a0)) fun t2 =>
  .bind
    (
    .op true (vS (Instr.fieldAt 85 t2 0)) fun t6 =>
    .op true (vS (Instr.loadAt 2 t6)) fun t7 =>
    .op true (binS .geq 2 (.tmp 5) (.tmp 7) a1 t7) fun t8 =>
    .gop t8 true true ((pure (.value a1))) fun t10 =>
    .gop t8 true true (vS (Instr.fieldAt 85 t2 1)) fun t11 =>
    .gop t8 true true (vS (Instr.loadAt 2 t11)) fun t12 =>
    .gop t8 true true (binS .leq 2 (.tmp 10) (.tmp 12) t10 t12) fun t13 =>
    .op true (pickS t8 t13 (.bool false)) fun t14 =>
    .done .normal [t14]
    ) fun tv =>
  .done .ret [(tv.headD undef)]
def cx145 : Cx := { N := 15, res := [4], reg := [(1, [4])] }
theorem eq145 (a0 : Value) (a1 : Value) : comp cx145 (bodyC Try.f145) false [] (env0 0 [a0, a1]) (fun e => retP cx145 false e) = p145 a0 a1 := by kernel_rfl

/-- damper/damperref01.Of -/
def p146 (a0 : Value) (a1 : Value) : Prog :=
  .op false (vS (Instr.alloc 176 true (.tuple #[]))) fun t4 =>
  .op false (vS (Instr.alloc 176 true (.tuple #[]))) fun t5 =>
  .bind
    (
    .block 0 <|
    .loop [(.int .i64 0)] fun tx =>
    .op true (binS .lss 3 (.tmp 7) (.const (.int .i64 64)) (tx.headD undef) (.int .i64 64)) fun t8 =>
    .ite t8
      (
      .bind
        (
        .block 1 <|
        .op true (vS (convert 3 129 (tx.headD undef))) fun t14 =>
        .op true (binS .shr 54 (.tmp 12) (.tmp 14) a1 t14) fun t15 =>
        .op true (binS .and 54 (.tmp 15) (.const (.int .u64 1)) t15 (.int .u64 1)) fun t16 =>
        .op true (binS .eql 54 (.tmp 16) (.const (.int .u64 1)) t16 (.int .u64 1)) fun t17 =>
        .op true (vS (Instr.indexAt 176 t5 (tx.headD undef))) fun t18 =>
        .op false (uS (Instr.storeAt 4 t18 t17)) fun tu =>
        .op true (binS .add 3 (.tmp 19) (.const (.int .i64 64)) (tx.headD undef) (.int .i64 64)) fun t20 =>
        .op true (vS (convert 3 129 (tx.headD undef))) fun t23 =>
        .op true (binS .shr 54 (.tmp 21) (.tmp 23) a0 t23) fun t24 =>
        .op true (binS .and 54 (.tmp 24) (.const (.int .u64 1)) t24 (.int .u64 1)) fun t25 =>
        .op true (binS .eql 54 (.tmp 25) (.const (.int .u64 1)) t25 (.int .u64 1)) fun t26 =>
        .op true (vS (Instr.indexAt 176 t5 t20)) fun t27 =>
        .op false (uS (Instr.storeAt 4 t27 t26)) fun tu_1 =>
        .done .normal []
        ) fun tv =>
      .op true (binS .add 3 (.tmp 9) (.const (.int .i64 1)) (tx.headD undef) (.int .i64 1)) fun t10 =>
      .done .normal [t10]
      )
      (
      .done (.exit 0) []
      )
    ) fun tv_1 =>
  .op true (vS (Instr.loadAt 176 t5)) fun t28 =>
  .op false (uS (Instr.storeAt 176 t4 t28)) fun tu_2 =>
  .done .ret [t4]
def cx146 : Cx := { N := 29, res := [4] }
theorem eq146 (a0 : Value) (a1 : Value) : comp cx146 (bodyC Try.f146) false [] (env0 0 [a0, a1]) (fun e => retP cx146 false e) = p146 a0 a1 := by kernel_rfl

/-- damper/damperref01.Left -/
def p147 (a0 : Value) (a1 : Value) : Prog :=
  .op false (vS (Instr.box 176 a0)) fun t2 =>
  .op false (vS (Instr.alloc 176 true (.tuple #[]))) fun t4 =>
  .op false (vS (Instr.alloc 176 true (.tuple #[]))) fun t5 =>
  .op true (binS .lss 3 (.tmp 7) (.const (.int .i64 0)) a1 (.int .i64 0)) fun t8 =>
  .ite t8
    (
    .op true (vS (Instr.loadAt 176 t2)) fun t9 =>
    .op false (uS (Instr.storeAt 176 t4 t9)) fun tu =>
    .done .ret [t4]
    )
    (
    .bind
      (
      .block 0 <|
      .loop [(.int .i64 0)] fun tx =>
      .bind
        (
        .op true (binS .lss 3 (.tmp 10) (.const (.int .i64 128)) (tx.headD undef) (.int .i64 128)) fun t11 =>
        .gop t11 true true ((pure (.value a1))) fun t13 =>
        .gop t11 true true (binS .lss 3 (.tmp 13) (.const (.int .i64 128)) t13 (.int .i64 128)) fun t14 =>
        .op true (pickS t11 t14 (.bool false)) fun t15 =>
        .done .normal [t15]
        ) fun tv =>
      .ite (tv.headD undef)
        (
        .bind
          (
          .block 1 <|
          .op true (binS .geq 3 (.tmp 18) (.tmp 19) (tx.headD undef) a1) fun t20 =>
          .bind
            (
            .ite t20
              (
              .op true (binS .sub 3 (.tmp 22) (.tmp 23) (tx.headD undef) a1) fun t24 =>
              .op true (vS (Instr.indexAt 176 t2 t24)) fun t25 =>
              .op true (vS (Instr.loadAt 4 t25)) fun t26 =>
              .op true (vS (Instr.indexAt 176 t5 (tx.headD undef))) fun t27 =>
              .op false (uS (Instr.storeAt 4 t27 t26)) fun tu_1 =>
              .done .normal []
              )
              (
              .done .normal []
              )
            ) fun tv_1 =>
          .done .normal []
          ) fun tv_2 =>
        .op true (binS .add 3 (.tmp 16) (.const (.int .i64 1)) (tx.headD undef) (.int .i64 1)) fun t17 =>
        .done .normal [t17]
        )
        (
        .done (.exit 0) []
        )
      ) fun tv_3 =>
    .op true (vS (Instr.loadAt 176 t5)) fun t28 =>
    .op false (uS (Instr.storeAt 176 t4 t28)) fun tu_2 =>
    .done .ret [t4]
    )
def cx147 : Cx := { N := 29, res := [4], reg := [(5, [15])] }
theorem eq147 (a0 : Value) (a1 : Value) : comp cx147 (bodyC Try.f147) false [] (env0 0 [a0, a1]) (fun e => retP cx147 false e) = p147 a0 a1 := by kernel_rfl

/-- damper/damperref01.Cmp -/
def p148 (a0 : Value) (a1 : Value) : Prog :=
  .op false (vS (Instr.box 176 a0)) fun t2 =>
  .op false (vS (Instr.box 176 a1)) fun t3 =>
  .bind
    (
    .block 0 <|
    .loop [(.int .i64 0), (.int .i64 127)] fun tx =>
    .op true (binS .geq 3 (.tmp 6) (.const (.int .i64 0)) (tx.tail.headD undef) (.int .i64 0)) fun t7 =>
    .ite t7
      (
      .bind
        (
        .block 1 <|
        .draw <|
        .op true (vS (Instr.indexAt 176 t2 (tx.tail.headD undef))) fun t11 =>
        .op true (vS (Instr.loadAt 4 t11)) fun t12 =>
        .op true (vS (Instr.indexAt 176 t3 (tx.tail.headD undef))) fun t14 =>
        .op true (vS (Instr.loadAt 4 t14)) fun t15 =>
        .op true (binS .neq 4 (.tmp 12) (.tmp 15) t12 t15) fun t16 =>
        .ite t16
          (
          .op true (vS (Instr.indexAt 176 t2 (tx.tail.headD undef))) fun t18 =>
          .op true (vS (Instr.loadAt 4 t18)) fun t19 =>
          .ite t19
            (
            .done .ret [(.int .i64 1)]
            )
            (
            .done .ret [(.int .i64 (-1))]
            )
          )
          (
          .done .normal [(tx.headD undef)]
          )
        ) fun tv =>
      .op true (binS .sub 3 (.tmp 8) (.const (.int .i64 1)) (tx.tail.headD undef) (.int .i64 1)) fun t9 =>
      .done .normal [(tv.headD undef), t9]
      )
      (
      .done (.exit 0) [(tx.headD undef)]
      )
    ) fun tv_1 =>
  .done .ret [(.int .i64 0)]
def cx148 : Cx := { N := 20, res := [4], blk := [(0, [4]), (1, [4])] }
theorem eq148 (a0 : Value) (a1 : Value) : comp cx148 (bodyC Try.f148) false [] (env0 0 [a0, a1]) (fun e => retP cx148 false e) = p148 a0 a1 := by kernel_rfl

/-- damper/damperref01.Sub -/
def p149 (a0 : Value) (a1 : Value) : Prog :=
  .op false (vS (Instr.box 176 a0)) fun t2 =>
  .op false (vS (Instr.box 176 a1)) fun t3 =>
  .op false (vS (Instr.alloc 176 true (.tuple #[]))) fun t4 =>
  .op true (vS (Instr.loadAt 176 t3)) fun t11 =>
  .op false (callS (.func (.func 170) #[] #[]) [t11]) fun t12 =>
  .op false (callS (.func (.func 146) #[] #[]) [(.int .u64 0), (.int .u64 1)]) fun t13 =>
  .op false (callS (.func (.func 115) #[] #[]) [t12, t13]) fun t14 =>
  .op true (vS (Instr.extract t14 0)) fun t15 =>
  .op true (vS (Instr.extract t14 1)) fun t16 =>
  .op false (vS (Instr.alloc 176 true (.tuple #[]))) fun t6 =>
  .op false (uS (Instr.storeAt 176 t6 t15)) fun tu =>
  .op true (vS (Instr.loadAt 176 t2)) fun t18 =>
  .op true (vS (Instr.loadAt 176 t6)) fun t19 =>
  .op false (callS (.func (.func 115) #[] #[]) [t18, t19]) fun t20 =>
  .op true (vS (Instr.extract t20 0)) fun t21 =>
  .op true (vS (Instr.extract t20 1)) fun t22 =>
  .op false (vS (Instr.alloc 176 true (.tuple #[]))) fun t8 =>
  .op false (uS (Instr.storeAt 176 t8 t21)) fun tu_1 =>
  .draw <|
  .op true (vS (Instr.loadAt 176 t8)) fun t23 =>
  .op true (vS (Instr.loadAt 176 t2)) fun t24 =>
  .op true (vS (Instr.loadAt 176 t3)) fun t25 =>
  .op false (callS (.func (.func 148) #[] #[]) [t24, t25]) fun t26 =>
  .chk none (vS (Instr.loadAt 176 t8)) t23 <|
  .op true (binS .geq 3 (.tmp 26) (.const (.int .i64 0)) t26 (.int .i64 0)) fun t27 =>
  .op false (uS (Instr.storeAt 176 t4 t23)) fun tu_2 =>
  .chk none (binS .geq 3 (.tmp 26) (.const (.int .i64 0)) t26 (.int .i64 0)) t27 <|
  .done .ret [t4, t27]
def cx149 : Cx := { N := 28, res := [4, 5] }
theorem eq149 (a0 : Value) (a1 : Value) : comp cx149 (bodyC Try.f149) false [] (env0 0 [a0, a1]) (fun e => retP cx149 false e) = p149 a0 a1 := by kernel_rfl

/-- damper/wide.length -/
def p150 (a0 : Value) : Prog :=
  .bind
    (
    .block 0 <|
    .loop [(.int .i64 0), a0] fun tx =>
    .op true (binS .neq 54 (.tmp 3) (.const (.int .u64 0)) (tx.tail.headD undef) (.int .u64 0)) fun t4 =>
    .ite t4
      (
      .bind
        (
        .block 1 <|
        .op true (binS .add 3 (.tmp 7) (.const (.int .i64 1)) (tx.headD undef) (.int .i64 1)) fun t8 =>
        .done .normal [t8]
        ) fun tv =>
      .op true (binS .shr 54 (.tmp 5) (.const (.int .u64 1)) (tx.tail.headD undef) (.int .u64 1)) fun t6 =>
      .done .normal [(tv.headD undef), t6]
      )
      (
      .done (.exit 0) [(tx.headD undef)]
      )
    ) fun tv_1 =>
  .done .ret [(tv_1.headD undef)]
def cx150 : Cx := { N := 10, res := [2], blk := [(0, [2]), (1, [2])] }
theorem eq150 (a0 : Value) : comp cx150 (bodyC Try.f150) false [] (env0 0 [a0]) (fun e => retP cx150 false e) = p150 a0 := by kernel_rfl

/-- slices.insertionSortOrdered[int64] -/
def p151 (a0 : Value) (a1 : Value) (a2 : Value) : Prog :=
  .op true (binS .add 3 (.tmp 8) (.const (.int .i64 1)) a1 (.int .i64 1)) fun t9 =>
  .bind
    (
    .block 0 <|
    .loop [t9] fun tx =>
    .op true (binS .lss 3 (.tmp 10) (.tmp 11) (tx.headD undef) a2) fun t12 =>
    .ite t12
      (
      .bind
        (
        .block 1 <|
        .bind
          (
          .block 2 <|
          .loop [(tx.headD undef)] fun tx_1 =>
          .bind
            (
            .draw <|
            .op true (binS .gtr 3 (.tmp 16) (.tmp 17) (tx_1.headD undef) a1) fun t18 =>
            .gop t18 true true ((pure (.value a0))) fun t20 =>
            .gop t18 true true ((pure (.value (tx_1.headD undef)))) fun t21 =>
            .gop t18 true true (vS (Instr.indexAt 112 t20 t21)) fun t22 =>
            .gop t18 true true (vS (Instr.loadAt 2 t22)) fun t23 =>
            .gop t18 true true ((pure (.value a0))) fun t24 =>
            .gop t18 true true ((pure (.value (tx_1.headD undef)))) fun t25 =>
            .gop t18 true true (binS .sub 3 (.tmp 25) (.const (.int .i64 1)) t25 (.int .i64 1)) fun t26 =>
            .gop t18 true true (vS (Instr.indexAt 112 t24 t26)) fun t27 =>
            .gop t18 true true (vS (Instr.loadAt 2 t27)) fun t28 =>
            .gop t18 true false (callS (.func (.func 157) #[] #[]) [t23, t28]) fun t29 =>
            .op true (pickS t18 t29 (.bool false)) fun t30 =>
            .done .normal [t30]
            ) fun tv =>
          .ite (tv.headD undef)
            (
            .bind
              (
              .block 3 <|
              .draw <|
              .op true (binS .sub 3 (.tmp 36) (.const (.int .i64 1)) (tx_1.headD undef) (.int .i64 1)) fun t37 =>
              .op true (binS .sub 3 (.tmp 39) (.const (.int .i64 1)) (tx_1.headD undef) (.int .i64 1)) fun t40 =>
              .op true (vS (Instr.indexAt 112 a0 t40)) fun t41 =>
              .op true (vS (Instr.loadAt 2 t41)) fun t42 =>
              .op true (vS (Instr.indexAt 112 a0 (tx_1.headD undef))) fun t45 =>
              .op true (vS (Instr.loadAt 2 t45)) fun t46 =>
              .op true (vS (Instr.indexAt 112 a0 (tx_1.headD undef))) fun t47 =>
              .op false (uS (Instr.storeAt 2 t47 t42)) fun tu =>
              .chk none (binS .sub 3 (.tmp 36) (.const (.int .i64 1)) (tx_1.headD undef) (.int .i64 1)) t37 <|
              .op true (vS (Instr.indexAt 112 a0 t37)) fun t48 =>
              .op false (uS (Instr.storeAt 2 t48 t46)) fun tu_1 =>
              .done .normal []
              ) fun tv_1 =>
            .op true (binS .sub 3 (.tmp 31) (.const (.int .i64 1)) (tx_1.headD undef) (.int .i64 1)) fun t32 =>
            .done .normal [t32]
            )
            (
            .done (.exit 2) []
            )
          ) fun tv_2 =>
        .done .normal []
        ) fun tv_3 =>
      .op true (binS .add 3 (.tmp 13) (.const (.int .i64 1)) (tx.headD undef) (.int .i64 1)) fun t14 =>
      .done .normal [t14]
      )
      (
      .done (.exit 0) []
      )
    ) fun tv_4 =>
  .done .ret []
def cx151 : Cx := { N := 49, res := [], reg := [(4, [30])] }
theorem eq151 (a0 : Value) (a1 : Value) (a2 : Value) : comp cx151 (bodyC Try.f151) false [] (env0 0 [a0, a1, a2]) (fun e => retP cx151 false e) = p151 a0 a1 a2 := by kernel_rfl

/-- slices.heapSortOrdered[int64] -/
def p152 (a0 : Value) (a1 : Value) (a2 : Value) : Prog :=
  .op true (binS .sub 3 (.tmp 12) (.tmp 13) a2 a1) fun t14 =>
  .op true (binS .sub 3 (.tmp 15) (.const (.int .i64 1)) t14 (.int .i64 1)) fun t16 =>
  .op true (binS .quo 3 (.tmp 16) (.const (.int .i64 2)) t16 (.int .i64 2)) fun t17 =>
  .bind
    (
    .block 0 <|
    .loop [t17] fun tx =>
    .op true (binS .geq 3 (.tmp 18) (.const (.int .i64 0)) (tx.headD undef) (.int .i64 0)) fun t19 =>
    .ite t19
      (
      .bind
        (
        .block 1 <|
        .op false (callS (.func (.func 171) #[] #[]) [a0, (tx.headD undef), t14, a1]) fun t26 =>
        .done .normal []
        ) fun tv =>
      .op true (binS .sub 3 (.tmp 20) (.const (.int .i64 1)) (tx.headD undef) (.int .i64 1)) fun t21 =>
      .done .normal [t21]
      )
      (
      .done (.exit 0) []
      )
    ) fun tv_1 =>
  .op true (binS .sub 3 (.tmp 27) (.const (.int .i64 1)) t14 (.int .i64 1)) fun t28 =>
  .bind
    (
    .block 2 <|
    .loop [t28] fun tx_1 =>
    .op true (binS .geq 3 (.tmp 29) (.const (.int .i64 0)) (tx_1.headD undef) (.int .i64 0)) fun t30 =>
    .ite t30
      (
      .bind
        (
        .block 3 <|
        .draw <|
        .op true (binS .add 3 (.tmp 36) (.tmp 37) a1 (tx_1.headD undef)) fun t38 =>
        .op true (binS .add 3 (.tmp 40) (.tmp 41) a1 (tx_1.headD undef)) fun t42 =>
        .op true (vS (Instr.indexAt 112 a0 t42)) fun t43 =>
        .op true (vS (Instr.loadAt 2 t43)) fun t44 =>
        .op true (vS (Instr.indexAt 112 a0 a1)) fun t47 =>
        .op true (vS (Instr.loadAt 2 t47)) fun t48 =>
        .op true (vS (Instr.indexAt 112 a0 a1)) fun t49 =>
        .op false (uS (Instr.storeAt 2 t49 t44)) fun tu =>
        .chk none (binS .add 3 (.tmp 36) (.tmp 37) a1 (tx_1.headD undef)) t38 <|
        .op true (vS (Instr.indexAt 112 a0 t38)) fun t50 =>
        .op false (uS (Instr.storeAt 2 t50 t48)) fun tu_1 =>
        .op false (callS (.func (.func 171) #[] #[]) [a0, (.int .i64 0), (tx_1.headD undef), a1]) fun t55 =>
        .done .normal []
        ) fun tv_2 =>
      .op true (binS .sub 3 (.tmp 31) (.const (.int .i64 1)) (tx_1.headD undef) (.int .i64 1)) fun t32 =>
      .done .normal [t32]
      )
      (
      .done (.exit 2) []
      )
    ) fun tv_3 =>
  .done .ret []
def cx152 : Cx := { N := 56, res := [] }
theorem eq152 (a0 : Value) (a1 : Value) (a2 : Value) : comp cx152 (bodyC Try.f152) false [] (env0 0 [a0, a1, a2]) (fun e => retP cx152 false e) = p152 a0 a1 a2 := by kernel_rfl

/-- slices.breakPatternsOrdered[int64] -/
def p153 (a0 : Value) (a1 : Value) (a2 : Value) : Prog :=
  .op true (binS .sub 3 (.tmp 11) (.tmp 12) a2 a1) fun t13 =>
  .op true (binS .geq 3 (.tmp 14) (.const (.int .i64 8)) t13 (.int .i64 8)) fun t15 =>
  .bind
    (
    .ite t15
      (
      .op true (vS (convert 3 224 t13)) fun t17 =>
      .op false (vS (Instr.alloc 224 true (.tuple #[]))) fun t7 =>
      .op false (uS (Instr.storeAt 224 t7 t17)) fun tu =>
      .op false (callS (.func (.func 172) #[] #[]) [t13]) fun t19 =>
      .op true (binS .quo 3 (.tmp 21) (.const (.int .i64 4)) t13 (.int .i64 4)) fun t22 =>
      .op true (binS .mul 3 (.tmp 22) (.const (.int .i64 2)) t22 (.int .i64 2)) fun t23 =>
      .op true (binS .add 3 (.tmp 20) (.tmp 23) a1 t23) fun t24 =>
      .op true (binS .sub 3 (.tmp 24) (.const (.int .i64 1)) t24 (.int .i64 1)) fun t25 =>
      .bind
        (
        .block 0 <|
        .loop [t25] fun tx =>
        .op true (binS .quo 3 (.tmp 28) (.const (.int .i64 4)) t13 (.int .i64 4)) fun t29 =>
        .op true (binS .mul 3 (.tmp 29) (.const (.int .i64 2)) t29 (.int .i64 2)) fun t30 =>
        .op true (binS .add 3 (.tmp 27) (.tmp 30) a1 t30) fun t31 =>
        .op true (binS .add 3 (.tmp 31) (.const (.int .i64 1)) t31 (.int .i64 1)) fun t32 =>
        .op true (binS .leq 3 (.tmp 26) (.tmp 32) (tx.headD undef) t32) fun t33 =>
        .ite t33
          (
          .bind
            (
            .block 1 <|
            .op false (callS (.func (.func 173) #[] #[]) [t7]) fun t36 =>
            .op true (binS .sub 129 (.tmp 37) (.const (.int .u64 1)) t19 (.int .u64 1)) fun t38 =>
            .op true (binS .and 129 (.tmp 36) (.tmp 38) t36 t38) fun t39 =>
            .op true (vS (convert 129 3 t39)) fun t40 =>
            .op true (binS .geq 3 (.tmp 41) (.tmp 42) t40 t13) fun t43 =>
            .bind
              (
              .ite t43
                (
                .op true (binS .sub 3 (.tmp 44) (.tmp 45) t40 t13) fun t46 =>
                .done .normal [t46]
                )
                (
                .done .normal [t40]
                )
              ) fun tv =>
            .draw <|
            .op true (binS .add 3 (.tmp 50) (.tmp 51) a1 (tv.headD undef)) fun t52 =>
            .op true (binS .add 3 (.tmp 54) (.tmp 55) a1 (tv.headD undef)) fun t56 =>
            .op true (vS (Instr.indexAt 112 a0 t56)) fun t57 =>
            .op true (vS (Instr.loadAt 2 t57)) fun t58 =>
            .op true (vS (Instr.indexAt 112 a0 (tx.headD undef))) fun t61 =>
            .op true (vS (Instr.loadAt 2 t61)) fun t62 =>
            .op true (vS (Instr.indexAt 112 a0 (tx.headD undef))) fun t63 =>
            .op false (uS (Instr.storeAt 2 t63 t58)) fun tu_1 =>
            .chk none (binS .add 3 (.tmp 50) (.tmp 51) a1 (tv.headD undef)) t52 <|
            .op true (vS (Instr.indexAt 112 a0 t52)) fun t64 =>
            .op false (uS (Instr.storeAt 2 t64 t62)) fun tu_2 =>
            .done .normal []
            ) fun tv_1 =>
          .op true (binS .add 3 (.tmp 34) (.const (.int .i64 1)) (tx.headD undef) (.int .i64 1)) fun t35 =>
          .done .normal [t35]
          )
          (
          .done (.exit 0) []
          )
        ) fun tv_2 =>
      .done .normal []
      )
      (
      .done .normal []
      )
    ) fun tv_3 =>
  .done .ret []
def cx153 : Cx := { N := 65, res := [], cnd := [(43, [10])] }
theorem eq153 (a0 : Value) (a1 : Value) (a2 : Value) : comp cx153 (bodyC Try.f153) false [] (env0 0 [a0, a1, a2]) (fun e => retP cx153 false e) = p153 a0 a1 a2 := by kernel_rfl

/-- slices.choosePivotOrdered[int64] -/
def p154 (a0 : Value) (a1 : Value) (a2 : Value) : Prog :=
  .op true (binS .sub 3 (.tmp 13) (.tmp 14) a2 a1) fun t15 =>
  .op false (vS (Instr.alloc 3 true (.tuple #[]))) fun t9 =>
  .op true (binS .quo 3 (.tmp 17) (.const (.int .i64 4)) t15 (.int .i64 4)) fun t18 =>
  .op true (binS .mul 3 (.tmp 18) (.const (.int .i64 1)) t18 (.int .i64 1)) fun t19 =>
  .op true (binS .add 3 (.tmp 16) (.tmp 19) a1 t19) fun t20 =>
  .op true (binS .quo 3 (.tmp 22) (.const (.int .i64 4)) t15 (.int .i64 4)) fun t23 =>
  .op true (binS .mul 3 (.tmp 23) (.const (.int .i64 2)) t23 (.int .i64 2)) fun t24 =>
  .op true (binS .add 3 (.tmp 21) (.tmp 24) a1 t24) fun t25 =>
  .op true (binS .quo 3 (.tmp 27) (.const (.int .i64 4)) t15 (.int .i64 4)) fun t28 =>
  .op true (binS .mul 3 (.tmp 28) (.const (.int .i64 3)) t28 (.int .i64 3)) fun t29 =>
  .op true (binS .add 3 (.tmp 26) (.tmp 29) a1 t29) fun t30 =>
  .op true (binS .geq 3 (.tmp 31) (.const (.int .i64 8)) t15 (.int .i64 8)) fun t32 =>
  .bind
    (
    .ite t32
      (
      .op true (binS .geq 3 (.tmp 33) (.const (.int .i64 50)) t15 (.int .i64 50)) fun t34 =>
      .bind
        (
        .ite t34
          (
          .op false (callS (.func (.func 174) #[] #[]) [a0, t20, t9]) fun t37 =>
          .op false (callS (.func (.func 174) #[] #[]) [a0, t25, t9]) fun t40 =>
          .op false (callS (.func (.func 174) #[] #[]) [a0, t30, t9]) fun t43 =>
          .done .normal [t37, t40, t43]
          )
          (
          .done .normal [t20, t25, t30]
          )
        ) fun tv =>
      .op false (callS (.func (.func 175) #[] #[]) [a0, (tv.headD undef), (tv.tail.headD undef), (tv.tail.tail.headD undef), t9]) fun t48 =>
      .done .normal [t48]
      )
      (
      .done .normal [t25]
      )
    ) fun tv_1 =>
  .op true (vS (Instr.loadAt 3 t9)) fun t49 =>
  .bind
    (
    .block 0 <|
    .op true (binS .eql 3 (.tmp 49) (.const (.int .i64 0)) t49 (.int .i64 0)) fun t52 =>
    .ite t52
      (
      .done .ret [(tv_1.headD undef), (.int .i64 1)]
      )
      (
      .op true (binS .eql 3 (.tmp 49) (.const (.int .i64 12)) t49 (.int .i64 12)) fun t55 =>
      .ite t55
        (
        .done .ret [(tv_1.headD undef), (.int .i64 2)]
        )
        (
        .done .ret [(tv_1.headD undef), (.int .i64 0)]
        )
      )
    ) fun tv_2 =>
  .done .ret [(tv_2.headD undef), (tv_2.tail.headD undef)]
def cx154 : Cx := { N := 57, res := [6, 7], blk := [(0, [6, 7])], cnd := [(32, [11]), (34, [10, 11, 12])] }
theorem eq154 (a0 : Value) (a1 : Value) (a2 : Value) : comp cx154 (bodyC Try.f154) false [] (env0 0 [a0, a1, a2]) (fun e => retP cx154 false e) = p154 a0 a1 a2 := by kernel_rfl

/-- slices.reverseRangeOrdered[int64] -/
def p155 (a0 : Value) (a1 : Value) (a2 : Value) : Prog :=
  .op true (binS .sub 3 (.tmp 9) (.const (.int .i64 1)) a2 (.int .i64 1)) fun t10 =>
  .bind
    (
    .block 0 <|
    .loop [a1, t10] fun tx =>
    .op true (binS .lss 3 (.tmp 11) (.tmp 12) (tx.headD undef) (tx.tail.headD undef)) fun t13 =>
    .ite t13
      (
      .bind
        (
        .block 1 <|
        .draw <|
        .op true (vS (Instr.indexAt 112 a0 (tx.tail.headD undef))) fun t20 =>
        .op true (vS (Instr.loadAt 2 t20)) fun t21 =>
        .op true (vS (Instr.indexAt 112 a0 (tx.headD undef))) fun t24 =>
        .op true (vS (Instr.loadAt 2 t24)) fun t25 =>
        .op true (vS (Instr.indexAt 112 a0 (tx.headD undef))) fun t26 =>
        .op false (uS (Instr.storeAt 2 t26 t21)) fun tu =>
        .op true (vS (Instr.indexAt 112 a0 (tx.tail.headD undef))) fun t27 =>
        .op false (uS (Instr.storeAt 2 t27 t25)) fun tu_1 =>
        .op true (binS .add 3 (.tmp 28) (.const (.int .i64 1)) (tx.headD undef) (.int .i64 1)) fun t29 =>
        .op true (binS .sub 3 (.tmp 30) (.const (.int .i64 1)) (tx.tail.headD undef) (.int .i64 1)) fun t31 =>
        .done .normal [t29, t31]
        ) fun tv =>
      .done .normal [(tv.headD undef), (tv.tail.headD undef)]
      )
      (
      .done (.exit 0) []
      )
    ) fun tv_1 =>
  .done .ret []
def cx155 : Cx := { N := 32, res := [], blk := [(1, [6, 7])] }
theorem eq155 (a0 : Value) (a1 : Value) (a2 : Value) : comp cx155 (bodyC Try.f155) false [] (env0 0 [a0, a1, a2]) (fun e => retP cx155 false e) = p155 a0 a1 a2 := by kernel_rfl

/-- slices.partialInsertionSortOrdered[int64] -/
def p156 (a0 : Value) (a1 : Value) (a2 : Value) : Prog :=
  .op true (binS .add 3 (.tmp 11) (.const (.int .i64 1)) a1 (.int .i64 1)) fun t12 =>
  .bind
    (
    .block 0 <|
    .loop [t12, (.bool false), (.int .i64 0)] fun tx =>
    .op true (binS .lss 3 (.tmp 13) (.const (.int .i64 5)) (tx.tail.tail.headD undef) (.int .i64 5)) fun t14 =>
    .ite t14
      (
      .bind
        (
        .block 1 <|
        .bind
          (
          .block 2 <|
          .loop [(tx.headD undef)] fun tx_1 =>
          .bind
            (
            .draw <|
            .op true (binS .lss 3 (.tmp 17) (.tmp 18) (tx_1.headD undef) a2) fun t19 =>
            .gop t19 true true ((pure (.value a0))) fun t21 =>
            .gop t19 true true ((pure (.value (tx_1.headD undef)))) fun t22 =>
            .gop t19 true true (vS (Instr.indexAt 112 t21 t22)) fun t23 =>
            .gop t19 true true (vS (Instr.loadAt 2 t23)) fun t24 =>
            .gop t19 true true ((pure (.value a0))) fun t25 =>
            .gop t19 true true ((pure (.value (tx_1.headD undef)))) fun t26 =>
            .gop t19 true true (binS .sub 3 (.tmp 26) (.const (.int .i64 1)) t26 (.int .i64 1)) fun t27 =>
            .gop t19 true true (vS (Instr.indexAt 112 t25 t27)) fun t28 =>
            .gop t19 true true (vS (Instr.loadAt 2 t28)) fun t29 =>
            .gop t19 true false (callS (.func (.func 157) #[] #[]) [t24, t29]) fun t30 =>
            .gop t19 true true (vS (Op.unary .not t30)) fun t31 =>
            .op true (pickS t19 t31 (.bool false)) fun t32 =>
            .done .normal [t32]
            ) fun tv =>
          .ite (tv.headD undef)
            (
            .bind
              (
              .block 3 <|
              .op true (binS .add 3 (.tmp 33) (.const (.int .i64 1)) (tx_1.headD undef) (.int .i64 1)) fun t34 =>
              .done .normal [t34]
              ) fun tv_1 =>
            .done .normal [(tv_1.headD undef)]
            )
            (
            .done (.exit 2) [(tx_1.headD undef)]
            )
          ) fun tv_2 =>
        .op true (binS .eql 3 (.tmp 35) (.tmp 36) (tv_2.headD undef) a2) fun t37 =>
        .ite t37
          (
          .done .ret [(.bool true)]
          )
          (
          .op true (binS .sub 3 (.tmp 38) (.tmp 39) a2 a1) fun t40 =>
          .op true (binS .lss 3 (.tmp 40) (.const (.int .i64 50)) t40 (.int .i64 50)) fun t41 =>
          .ite t41
            (
            .done .ret [(.bool false)]
            )
            (
            .draw <|
            .op true (binS .sub 3 (.tmp 45) (.const (.int .i64 1)) (tv_2.headD undef) (.int .i64 1)) fun t46 =>
            .op true (binS .sub 3 (.tmp 48) (.const (.int .i64 1)) (tv_2.headD undef) (.int .i64 1)) fun t49 =>
            .op true (vS (Instr.indexAt 112 a0 t49)) fun t50 =>
            .op true (vS (Instr.loadAt 2 t50)) fun t51 =>
            .op true (vS (Instr.indexAt 112 a0 (tv_2.headD undef))) fun t54 =>
            .op true (vS (Instr.loadAt 2 t54)) fun t55 =>
            .op true (vS (Instr.indexAt 112 a0 (tv_2.headD undef))) fun t56 =>
            .op false (uS (Instr.storeAt 2 t56 t51)) fun tu =>
            .chk none (binS .sub 3 (.tmp 45) (.const (.int .i64 1)) (tv_2.headD undef) (.int .i64 1)) t46 <|
            .op true (vS (Instr.indexAt 112 a0 t46)) fun t57 =>
            .op false (uS (Instr.storeAt 2 t57 t55)) fun tu_1 =>
            .op true (binS .sub 3 (.tmp 58) (.tmp 59) (tv_2.headD undef) a1) fun t60 =>
            .op true (binS .geq 3 (.tmp 60) (.const (.int .i64 2)) t60 (.int .i64 2)) fun t61 =>
            .bind
              (
              .ite t61
                (
                .op true (binS .sub 3 (.tmp 62) (.const (.int .i64 1)) (tv_2.headD undef) (.int .i64 1)) fun t63 =>
                .bind
                  (
                  .block 4 <|
                  .loop [t63] fun tx_2 =>
                  .op true (binS .geq 3 (.tmp 64) (.const (.int .i64 1)) (tx_2.headD undef) (.int .i64 1)) fun t65 =>
                  .ite t65
                    (
                    .bind
                      (
                      .block 5 <|
                      .draw <|
                      .op true (vS (Instr.indexAt 112 a0 (tx_2.headD undef))) fun t70 =>
                      .op true (vS (Instr.loadAt 2 t70)) fun t71 =>
                      .op true (binS .sub 3 (.tmp 73) (.const (.int .i64 1)) (tx_2.headD undef) (.int .i64 1)) fun t74 =>
                      .op true (vS (Instr.indexAt 112 a0 t74)) fun t75 =>
                      .op true (vS (Instr.loadAt 2 t75)) fun t76 =>
                      .op false (callS (.func (.func 157) #[] #[]) [t71, t76]) fun t77 =>
                      .op true (vS (Op.unary .not t77)) fun t78 =>
                      .ite t78
                        (
                        .done (.exit 4) []
                        )
                        (
                        .draw <|
                        .op true (binS .sub 3 (.tmp 82) (.const (.int .i64 1)) (tx_2.headD undef) (.int .i64 1)) fun t83 =>
                        .op true (binS .sub 3 (.tmp 85) (.const (.int .i64 1)) (tx_2.headD undef) (.int .i64 1)) fun t86 =>
                        .op true (vS (Instr.indexAt 112 a0 t86)) fun t87 =>
                        .op true (vS (Instr.loadAt 2 t87)) fun t88 =>
                        .op true (vS (Instr.indexAt 112 a0 (tx_2.headD undef))) fun t91 =>
                        .op true (vS (Instr.loadAt 2 t91)) fun t92 =>
                        .op true (vS (Instr.indexAt 112 a0 (tx_2.headD undef))) fun t93 =>
                        .op false (uS (Instr.storeAt 2 t93 t88)) fun tu_2 =>
                        .chk none (binS .sub 3 (.tmp 82) (.const (.int .i64 1)) (tx_2.headD undef) (.int .i64 1)) t83 <|
                        .op true (vS (Instr.indexAt 112 a0 t83)) fun t94 =>
                        .op false (uS (Instr.storeAt 2 t94 t92)) fun tu_3 =>
                        .done .normal []
                        )
                      ) fun tv_3 =>
                    .op true (binS .sub 3 (.tmp 66) (.const (.int .i64 1)) (tx_2.headD undef) (.int .i64 1)) fun t67 =>
                    .done .normal [t67]
                    )
                    (
                    .done (.exit 4) []
                    )
                  ) fun tv_4 =>
                .done .normal []
                )
                (
                .done .normal []
                )
              ) fun tv_5 =>
            .op true (binS .sub 3 (.tmp 95) (.tmp 96) a2 (tv_2.headD undef)) fun t97 =>
            .op true (binS .geq 3 (.tmp 97) (.const (.int .i64 2)) t97 (.int .i64 2)) fun t98 =>
            .bind
              (
              .ite t98
                (
                .op true (binS .add 3 (.tmp 99) (.const (.int .i64 1)) (tv_2.headD undef) (.int .i64 1)) fun t100 =>
                .bind
                  (
                  .block 6 <|
                  .loop [t100] fun tx_3 =>
                  .op true (binS .lss 3 (.tmp 101) (.tmp 102) (tx_3.headD undef) a2) fun t103 =>
                  .ite t103
                    (
                    .bind
                      (
                      .block 7 <|
                      .draw <|
                      .op true (vS (Instr.indexAt 112 a0 (tx_3.headD undef))) fun t108 =>
                      .op true (vS (Instr.loadAt 2 t108)) fun t109 =>
                      .op true (binS .sub 3 (.tmp 111) (.const (.int .i64 1)) (tx_3.headD undef) (.int .i64 1)) fun t112 =>
                      .op true (vS (Instr.indexAt 112 a0 t112)) fun t113 =>
                      .op true (vS (Instr.loadAt 2 t113)) fun t114 =>
                      .op false (callS (.func (.func 157) #[] #[]) [t109, t114]) fun t115 =>
                      .op true (vS (Op.unary .not t115)) fun t116 =>
                      .ite t116
                        (
                        .done (.exit 6) []
                        )
                        (
                        .draw <|
                        .op true (binS .sub 3 (.tmp 120) (.const (.int .i64 1)) (tx_3.headD undef) (.int .i64 1)) fun t121 =>
                        .op true (binS .sub 3 (.tmp 123) (.const (.int .i64 1)) (tx_3.headD undef) (.int .i64 1)) fun t124 =>
                        .op true (vS (Instr.indexAt 112 a0 t124)) fun t125 =>
                        .op true (vS (Instr.loadAt 2 t125)) fun t126 =>
                        .op true (vS (Instr.indexAt 112 a0 (tx_3.headD undef))) fun t129 =>
                        .op true (vS (Instr.loadAt 2 t129)) fun t130 =>
                        .op true (vS (Instr.indexAt 112 a0 (tx_3.headD undef))) fun t131 =>
                        .op false (uS (Instr.storeAt 2 t131 t126)) fun tu_4 =>
                        .chk none (binS .sub 3 (.tmp 120) (.const (.int .i64 1)) (tx_3.headD undef) (.int .i64 1)) t121 <|
                        .op true (vS (Instr.indexAt 112 a0 t121)) fun t132 =>
                        .op false (uS (Instr.storeAt 2 t132 t130)) fun tu_5 =>
                        .done .normal []
                        )
                      ) fun tv_6 =>
                    .op true (binS .add 3 (.tmp 104) (.const (.int .i64 1)) (tx_3.headD undef) (.int .i64 1)) fun t105 =>
                    .done .normal [t105]
                    )
                    (
                    .done (.exit 6) []
                    )
                  ) fun tv_7 =>
                .done .normal []
                )
                (
                .done .normal []
                )
              ) fun tv_8 =>
            .done .normal [(tv_2.headD undef), (tx.tail.headD undef)]
            )
          )
        ) fun tv_9 =>
      .op true (binS .add 3 (.tmp 15) (.const (.int .i64 1)) (tx.tail.tail.headD undef) (.int .i64 1)) fun t16 =>
      .done .normal [(tv_9.headD undef), (tv_9.tail.headD undef), t16]
      )
      (
      .done (.exit 0) [(tx.tail.headD undef)]
      )
    ) fun tv_10 =>
  .done .ret [(.bool false)]
def cx156 : Cx := { N := 133, res := [6], blk := [(0, [6]), (1, [7, 6]), (2, [7]), (3, [7])], reg := [(5, [32])] }
theorem eq156 (a0 : Value) (a1 : Value) (a2 : Value) : comp cx156 (bodyC Try.f156) false [] (env0 0 [a0, a1, a2]) (fun e => retP cx156 false e) = p156 a0 a1 a2 := by kernel_rfl

/-- cmp.Less[int64] -/
def p157 (a0 : Value) (a1 : Value) : Prog :=
  .bind
    (
    .op false (callS (.func (.func 176) #[] #[]) [a0]) fun t6 =>
    .gop t6 true true ((pure (.value a1))) fun t8 =>
    .gop t6 true false (callS (.func (.func 176) #[] #[]) [t8]) fun t9 =>
    .gop t6 true true (vS (Op.unary .not t9)) fun t10 =>
    .op true (pickS t6 t10 (.bool false)) fun t11 =>
    .gop t11 false true ((pure (.value a0))) fun t13 =>
    .gop t11 false true ((pure (.value a1))) fun t14 =>
    .gop t11 false true (binS .lss 2 (.tmp 13) (.tmp 14) t13 t14) fun t15 =>
    .op true (pickS t11 (.bool true) t15) fun t16 =>
    .done .normal [t16]
    ) fun tv =>
  .done .ret [(tv.headD undef)]
def cx157 : Cx := { N := 17, res := [4], reg := [(1, [4])] }
theorem eq157 (a0 : Value) (a1 : Value) : comp cx157 (bodyC Try.f157) false [] (env0 0 [a0, a1]) (fun e => retP cx157 false e) = p157 a0 a1 := by kernel_rfl

/-- slices.partitionEqualOrdered[int64] -/
def p158 (a0 : Value) (a1 : Value) (a2 : Value) (a3 : Value) : Prog :=
  .draw <|
  .op true (vS (Instr.indexAt 112 a0 a3)) fun t17 =>
  .op true (vS (Instr.loadAt 2 t17)) fun t18 =>
  .op true (vS (Instr.indexAt 112 a0 a1)) fun t21 =>
  .op true (vS (Instr.loadAt 2 t21)) fun t22 =>
  .op true (vS (Instr.indexAt 112 a0 a1)) fun t23 =>
  .op false (uS (Instr.storeAt 2 t23 t18)) fun tu =>
  .op true (vS (Instr.indexAt 112 a0 a3)) fun t24 =>
  .op false (uS (Instr.storeAt 2 t24 t22)) fun tu_1 =>
  .op true (binS .add 3 (.tmp 25) (.const (.int .i64 1)) a1 (.int .i64 1)) fun t26 =>
  .op true (binS .sub 3 (.tmp 27) (.const (.int .i64 1)) a2 (.int .i64 1)) fun t28 =>
  .bind
    (
    .block 0 <|
    .loop [t26, t28] fun tx =>
    .bind
      (
      .block 1 <|
      .bind
        (
        .block 2 <|
        .loop [(tx.headD undef)] fun tx_1 =>
        .bind
          (
          .draw <|
          .op true (binS .leq 3 (.tmp 29) (.tmp 30) (tx_1.headD undef) (tx.tail.headD undef)) fun t31 =>
          .gop t31 true true ((pure (.value a0))) fun t33 =>
          .gop t31 true true ((pure (.value a1))) fun t34 =>
          .gop t31 true true (vS (Instr.indexAt 112 t33 t34)) fun t35 =>
          .gop t31 true true (vS (Instr.loadAt 2 t35)) fun t36 =>
          .gop t31 true true ((pure (.value a0))) fun t37 =>
          .gop t31 true true ((pure (.value (tx_1.headD undef)))) fun t38 =>
          .gop t31 true true (vS (Instr.indexAt 112 t37 t38)) fun t39 =>
          .gop t31 true true (vS (Instr.loadAt 2 t39)) fun t40 =>
          .gop t31 true false (callS (.func (.func 157) #[] #[]) [t36, t40]) fun t41 =>
          .gop t31 true true (vS (Op.unary .not t41)) fun t42 =>
          .op true (pickS t31 t42 (.bool false)) fun t43 =>
          .done .normal [t43]
          ) fun tv =>
        .ite (tv.headD undef)
          (
          .bind
            (
            .block 3 <|
            .op true (binS .add 3 (.tmp 44) (.const (.int .i64 1)) (tx_1.headD undef) (.int .i64 1)) fun t45 =>
            .done .normal [t45]
            ) fun tv_1 =>
          .done .normal [(tv_1.headD undef)]
          )
          (
          .done (.exit 2) [(tx_1.headD undef)]
          )
        ) fun tv_2 =>
      .bind
        (
        .block 4 <|
        .loop [(tx.tail.headD undef)] fun tx_2 =>
        .bind
          (
          .draw <|
          .op true (binS .leq 3 (.tmp 46) (.tmp 47) (tv_2.headD undef) (tx_2.headD undef)) fun t48 =>
          .gop t48 true true ((pure (.value a0))) fun t50 =>
          .gop t48 true true ((pure (.value a1))) fun t51 =>
          .gop t48 true true (vS (Instr.indexAt 112 t50 t51)) fun t52 =>
          .gop t48 true true (vS (Instr.loadAt 2 t52)) fun t53 =>
          .gop t48 true true ((pure (.value a0))) fun t54 =>
          .gop t48 true true ((pure (.value (tx_2.headD undef)))) fun t55 =>
          .gop t48 true true (vS (Instr.indexAt 112 t54 t55)) fun t56 =>
          .gop t48 true true (vS (Instr.loadAt 2 t56)) fun t57 =>
          .gop t48 true false (callS (.func (.func 157) #[] #[]) [t53, t57]) fun t58 =>
          .op true (pickS t48 t58 (.bool false)) fun t59 =>
          .done .normal [t59]
          ) fun tv_3 =>
        .ite (tv_3.headD undef)
          (
          .bind
            (
            .block 5 <|
            .op true (binS .sub 3 (.tmp 60) (.const (.int .i64 1)) (tx_2.headD undef) (.int .i64 1)) fun t61 =>
            .done .normal [t61]
            ) fun tv_4 =>
          .done .normal [(tv_4.headD undef)]
          )
          (
          .done (.exit 4) [(tx_2.headD undef)]
          )
        ) fun tv_5 =>
      .op true (binS .gtr 3 (.tmp 62) (.tmp 63) (tv_2.headD undef) (tv_5.headD undef)) fun t64 =>
      .ite t64
        (
        .done (.exit 0) [(tv_2.headD undef)]
        )
        (
        .draw <|
        .op true (vS (Instr.indexAt 112 a0 (tv_5.headD undef))) fun t71 =>
        .op true (vS (Instr.loadAt 2 t71)) fun t72 =>
        .op true (vS (Instr.indexAt 112 a0 (tv_2.headD undef))) fun t75 =>
        .op true (vS (Instr.loadAt 2 t75)) fun t76 =>
        .op true (vS (Instr.indexAt 112 a0 (tv_2.headD undef))) fun t77 =>
        .op false (uS (Instr.storeAt 2 t77 t72)) fun tu_2 =>
        .op true (vS (Instr.indexAt 112 a0 (tv_5.headD undef))) fun t78 =>
        .op false (uS (Instr.storeAt 2 t78 t76)) fun tu_3 =>
        .op true (binS .add 3 (.tmp 79) (.const (.int .i64 1)) (tv_2.headD undef) (.int .i64 1)) fun t80 =>
        .op true (binS .sub 3 (.tmp 81) (.const (.int .i64 1)) (tv_5.headD undef) (.int .i64 1)) fun t82 =>
        .done .normal [t80, t82]
        )
      ) fun tv_6 =>
    .done .normal [(tv_6.headD undef), (tv_6.tail.headD undef)]
    ) fun tv_7 =>
  .done .ret [(tv_7.headD undef)]
def cx158 : Cx := { N := 84, res := [8], blk := [(0, [9]), (1, [9, 10]), (2, [9]), (3, [9]), (4, [10]), (5, [10])], reg := [(3, [43]), (5, [59])] }
theorem eq158 (a0 : Value) (a1 : Value) (a2 : Value) (a3 : Value) : comp cx158 (bodyC Try.f158) false [] (env0 0 [a0, a1, a2, a3]) (fun e => retP cx158 false e) = p158 a0 a1 a2 a3 := by kernel_rfl

/-- slices.partitionOrdered[int64] -/
def p159 (a0 : Value) (a1 : Value) (a2 : Value) (a3 : Value) : Prog :=
  .draw <|
  .op true (vS (Instr.indexAt 112 a0 a3)) fun t18 =>
  .op true (vS (Instr.loadAt 2 t18)) fun t19 =>
  .op true (vS (Instr.indexAt 112 a0 a1)) fun t22 =>
  .op true (vS (Instr.loadAt 2 t22)) fun t23 =>
  .op true (vS (Instr.indexAt 112 a0 a1)) fun t24 =>
  .op false (uS (Instr.storeAt 2 t24 t19)) fun tu =>
  .op true (vS (Instr.indexAt 112 a0 a3)) fun t25 =>
  .op false (uS (Instr.storeAt 2 t25 t23)) fun tu_1 =>
  .op true (binS .add 3 (.tmp 26) (.const (.int .i64 1)) a1 (.int .i64 1)) fun t27 =>
  .op true (binS .sub 3 (.tmp 28) (.const (.int .i64 1)) a2 (.int .i64 1)) fun t29 =>
  .bind
    (
    .block 0 <|
    .loop [t27] fun tx =>
    .bind
      (
      .draw <|
      .op true (binS .leq 3 (.tmp 30) (.tmp 31) (tx.headD undef) t29) fun t32 =>
      .gop t32 true true ((pure (.value a0))) fun t34 =>
      .gop t32 true true ((pure (.value (tx.headD undef)))) fun t35 =>
      .gop t32 true true (vS (Instr.indexAt 112 t34 t35)) fun t36 =>
      .gop t32 true true (vS (Instr.loadAt 2 t36)) fun t37 =>
      .gop t32 true true ((pure (.value a0))) fun t38 =>
      .gop t32 true true ((pure (.value a1))) fun t39 =>
      .gop t32 true true (vS (Instr.indexAt 112 t38 t39)) fun t40 =>
      .gop t32 true true (vS (Instr.loadAt 2 t40)) fun t41 =>
      .gop t32 true false (callS (.func (.func 157) #[] #[]) [t37, t41]) fun t42 =>
      .op true (pickS t32 t42 (.bool false)) fun t43 =>
      .done .normal [t43]
      ) fun tv =>
    .ite (tv.headD undef)
      (
      .bind
        (
        .block 1 <|
        .op true (binS .add 3 (.tmp 44) (.const (.int .i64 1)) (tx.headD undef) (.int .i64 1)) fun t45 =>
        .done .normal [t45]
        ) fun tv_1 =>
      .done .normal [(tv_1.headD undef)]
      )
      (
      .done (.exit 0) [(tx.headD undef)]
      )
    ) fun tv_2 =>
  .bind
    (
    .block 2 <|
    .loop [t29] fun tx_1 =>
    .bind
      (
      .draw <|
      .op true (binS .leq 3 (.tmp 46) (.tmp 47) (tv_2.headD undef) (tx_1.headD undef)) fun t48 =>
      .gop t48 true true ((pure (.value a0))) fun t50 =>
      .gop t48 true true ((pure (.value (tx_1.headD undef)))) fun t51 =>
      .gop t48 true true (vS (Instr.indexAt 112 t50 t51)) fun t52 =>
      .gop t48 true true (vS (Instr.loadAt 2 t52)) fun t53 =>
      .gop t48 true true ((pure (.value a0))) fun t54 =>
      .gop t48 true true ((pure (.value a1))) fun t55 =>
      .gop t48 true true (vS (Instr.indexAt 112 t54 t55)) fun t56 =>
      .gop t48 true true (vS (Instr.loadAt 2 t56)) fun t57 =>
      .gop t48 true false (callS (.func (.func 157) #[] #[]) [t53, t57]) fun t58 =>
      .gop t48 true true (vS (Op.unary .not t58)) fun t59 =>
      .op true (pickS t48 t59 (.bool false)) fun t60 =>
      .done .normal [t60]
      ) fun tv_3 =>
    .ite (tv_3.headD undef)
      (
      .bind
        (
        .block 3 <|
        .op true (binS .sub 3 (.tmp 61) (.const (.int .i64 1)) (tx_1.headD undef) (.int .i64 1)) fun t62 =>
        .done .normal [t62]
        ) fun tv_4 =>
      .done .normal [(tv_4.headD undef)]
      )
      (
      .done (.exit 2) [(tx_1.headD undef)]
      )
    ) fun tv_5 =>
  .op true (binS .gtr 3 (.tmp 63) (.tmp 64) (tv_2.headD undef) (tv_5.headD undef)) fun t65 =>
  .ite t65
    (
    .draw <|
    .op true (vS (Instr.indexAt 112 a0 a1)) fun t72 =>
    .op true (vS (Instr.loadAt 2 t72)) fun t73 =>
    .op true (vS (Instr.indexAt 112 a0 (tv_5.headD undef))) fun t76 =>
    .op true (vS (Instr.loadAt 2 t76)) fun t77 =>
    .op true (vS (Instr.indexAt 112 a0 (tv_5.headD undef))) fun t78 =>
    .op false (uS (Instr.storeAt 2 t78 t73)) fun tu_2 =>
    .op true (vS (Instr.indexAt 112 a0 a1)) fun t79 =>
    .op false (uS (Instr.storeAt 2 t79 t77)) fun tu_3 =>
    .done .ret [(tv_5.headD undef), (.bool true)]
    )
    (
    .draw <|
    .op true (vS (Instr.indexAt 112 a0 (tv_5.headD undef))) fun t87 =>
    .op true (vS (Instr.loadAt 2 t87)) fun t88 =>
    .op true (vS (Instr.indexAt 112 a0 (tv_2.headD undef))) fun t91 =>
    .op true (vS (Instr.loadAt 2 t91)) fun t92 =>
    .op true (vS (Instr.indexAt 112 a0 (tv_2.headD undef))) fun t93 =>
    .op false (uS (Instr.storeAt 2 t93 t88)) fun tu_4 =>
    .op true (vS (Instr.indexAt 112 a0 (tv_5.headD undef))) fun t94 =>
    .op false (uS (Instr.storeAt 2 t94 t92)) fun tu_5 =>
    .op true (binS .add 3 (.tmp 95) (.const (.int .i64 1)) (tv_2.headD undef) (.int .i64 1)) fun t96 =>
    .op true (binS .sub 3 (.tmp 97) (.const (.int .i64 1)) (tv_5.headD undef) (.int .i64 1)) fun t98 =>
    .bind
      (
      .block 4 <|
      .loop [t96, t98] fun tx_2 =>
      .bind
        (
        .block 5 <|
        .bind
          (
          .block 6 <|
          .loop [(tx_2.headD undef)] fun tx_3 =>
          .bind
            (
            .draw <|
            .op true (binS .leq 3 (.tmp 99) (.tmp 100) (tx_3.headD undef) (tx_2.tail.headD undef)) fun t101 =>
            .gop t101 true true ((pure (.value a0))) fun t103 =>
            .gop t101 true true ((pure (.value (tx_3.headD undef)))) fun t104 =>
            .gop t101 true true (vS (Instr.indexAt 112 t103 t104)) fun t105 =>
            .gop t101 true true (vS (Instr.loadAt 2 t105)) fun t106 =>
            .gop t101 true true ((pure (.value a0))) fun t107 =>
            .gop t101 true true ((pure (.value a1))) fun t108 =>
            .gop t101 true true (vS (Instr.indexAt 112 t107 t108)) fun t109 =>
            .gop t101 true true (vS (Instr.loadAt 2 t109)) fun t110 =>
            .gop t101 true false (callS (.func (.func 157) #[] #[]) [t106, t110]) fun t111 =>
            .op true (pickS t101 t111 (.bool false)) fun t112 =>
            .done .normal [t112]
            ) fun tv_6 =>
          .ite (tv_6.headD undef)
            (
            .bind
              (
              .block 7 <|
              .op true (binS .add 3 (.tmp 113) (.const (.int .i64 1)) (tx_3.headD undef) (.int .i64 1)) fun t114 =>
              .done .normal [t114]
              ) fun tv_7 =>
            .done .normal [(tv_7.headD undef)]
            )
            (
            .done (.exit 6) [(tx_3.headD undef)]
            )
          ) fun tv_8 =>
        .bind
          (
          .block 8 <|
          .loop [(tx_2.tail.headD undef)] fun tx_4 =>
          .bind
            (
            .draw <|
            .op true (binS .leq 3 (.tmp 115) (.tmp 116) (tv_8.headD undef) (tx_4.headD undef)) fun t117 =>
            .gop t117 true true ((pure (.value a0))) fun t119 =>
            .gop t117 true true ((pure (.value (tx_4.headD undef)))) fun t120 =>
            .gop t117 true true (vS (Instr.indexAt 112 t119 t120)) fun t121 =>
            .gop t117 true true (vS (Instr.loadAt 2 t121)) fun t122 =>
            .gop t117 true true ((pure (.value a0))) fun t123 =>
            .gop t117 true true ((pure (.value a1))) fun t124 =>
            .gop t117 true true (vS (Instr.indexAt 112 t123 t124)) fun t125 =>
            .gop t117 true true (vS (Instr.loadAt 2 t125)) fun t126 =>
            .gop t117 true false (callS (.func (.func 157) #[] #[]) [t122, t126]) fun t127 =>
            .gop t117 true true (vS (Op.unary .not t127)) fun t128 =>
            .op true (pickS t117 t128 (.bool false)) fun t129 =>
            .done .normal [t129]
            ) fun tv_9 =>
          .ite (tv_9.headD undef)
            (
            .bind
              (
              .block 9 <|
              .op true (binS .sub 3 (.tmp 130) (.const (.int .i64 1)) (tx_4.headD undef) (.int .i64 1)) fun t131 =>
              .done .normal [t131]
              ) fun tv_10 =>
            .done .normal [(tv_10.headD undef)]
            )
            (
            .done (.exit 8) [(tx_4.headD undef)]
            )
          ) fun tv_11 =>
        .op true (binS .gtr 3 (.tmp 132) (.tmp 133) (tv_8.headD undef) (tv_11.headD undef)) fun t134 =>
        .ite t134
          (
          .done (.exit 4) [(tv_8.headD undef), (tv_11.headD undef)]
          )
          (
          .draw <|
          .op true (vS (Instr.indexAt 112 a0 (tv_11.headD undef))) fun t141 =>
          .op true (vS (Instr.loadAt 2 t141)) fun t142 =>
          .op true (vS (Instr.indexAt 112 a0 (tv_8.headD undef))) fun t145 =>
          .op true (vS (Instr.loadAt 2 t145)) fun t146 =>
          .op true (vS (Instr.indexAt 112 a0 (tv_8.headD undef))) fun t147 =>
          .op false (uS (Instr.storeAt 2 t147 t142)) fun tu_6 =>
          .op true (vS (Instr.indexAt 112 a0 (tv_11.headD undef))) fun t148 =>
          .op false (uS (Instr.storeAt 2 t148 t146)) fun tu_7 =>
          .op true (binS .add 3 (.tmp 149) (.const (.int .i64 1)) (tv_8.headD undef) (.int .i64 1)) fun t150 =>
          .op true (binS .sub 3 (.tmp 151) (.const (.int .i64 1)) (tv_11.headD undef) (.int .i64 1)) fun t152 =>
          .done .normal [t150, t152]
          )
        ) fun tv_12 =>
      .done .normal [(tv_12.headD undef), (tv_12.tail.headD undef)]
      ) fun tv_13 =>
    .draw <|
    .op true (vS (Instr.indexAt 112 a0 a1)) fun t159 =>
    .op true (vS (Instr.loadAt 2 t159)) fun t160 =>
    .op true (vS (Instr.indexAt 112 a0 (tv_13.tail.headD undef))) fun t163 =>
    .op true (vS (Instr.loadAt 2 t163)) fun t164 =>
    .op true (vS (Instr.indexAt 112 a0 (tv_13.tail.headD undef))) fun t165 =>
    .op false (uS (Instr.storeAt 2 t165 t160)) fun tu_8 =>
    .op true (vS (Instr.indexAt 112 a0 a1)) fun t166 =>
    .op false (uS (Instr.storeAt 2 t166 t164)) fun tu_9 =>
    .done .ret [(tv_13.tail.headD undef), (.bool false)]
    )
def cx159 : Cx := { N := 168, res := [8, 9], blk := [(0, [10]), (1, [10]), (2, [11]), (3, [11]), (4, [10, 11]), (5, [10, 11]), (6, [10]), (7, [10]), (8, [11]), (9, [11])], reg := [(3, [43]), (5, [60]), (13, [112]), (15, [129])] }
theorem eq159 (a0 : Value) (a1 : Value) (a2 : Value) (a3 : Value) : comp cx159 (bodyC Try.f159) false [] (env0 0 [a0, a1, a2, a3]) (fun e => retP cx159 false e) = p159 a0 a1 a2 a3 := by kernel_rfl

/-- math/bits.Len32 -/
def p160 (a0 : Value) : Prog :=
  .op true (binS .geq 215 (.tmp 3) (.const (.int .u32 65536)) a0 (.int .u32 65536)) fun t4 =>
  .bind
    (
    .ite t4
      (
      .op true (binS .shr 215 (.tmp 5) (.const (.int .u64 16)) a0 (.int .u64 16)) fun t6 =>
      .done .normal [t6, (.int .i64 16)]
      )
      (
      .done .normal [a0, (.int .i64 0)]
      )
    ) fun tv =>
  .op true (binS .geq 215 (.tmp 7) (.const (.int .u32 256)) (tv.headD undef) (.int .u32 256)) fun t8 =>
  .bind
    (
    .ite t8
      (
      .op true (binS .shr 215 (.tmp 9) (.const (.int .u64 8)) (tv.headD undef) (.int .u64 8)) fun t10 =>
      .op true (binS .add 3 (.tmp 11) (.const (.int .i64 8)) (tv.tail.headD undef) (.int .i64 8)) fun t12 =>
      .done .normal [t10, t12]
      )
      (
      .done .normal [(tv.headD undef), (tv.tail.headD undef)]
      )
    ) fun tv_1 =>
  .op true (vS (convert 215 5 (tv_1.headD undef))) fun t15 =>
  .op true (vS (Instr.index 9 (.string { data := #[0, 1, 2, 2, 3, 3, 3, 3, 4, 4, 4, 4, 4, 4, 4, 4, 5, 5, 5, 5, 5, 5, 5, 5, 5, 5, 5, 5, 5, 5, 5, 5, 6, 6, 6, 6, 6, 6, 6, 6, 6, 6, 6, 6, 6, 6, 6, 6, 6, 6, 6, 6, 6, 6, 6, 6, 6, 6, 6, 6, 6, 6, 6, 6, 7, 7, 7, 7, 7, 7, 7, 7, 7, 7, 7, 7, 7, 7, 7, 7, 7, 7, 7, 7, 7, 7, 7, 7, 7, 7, 7, 7, 7, 7, 7, 7, 7, 7, 7, 7, 7, 7, 7, 7, 7, 7, 7, 7, 7, 7, 7, 7, 7, 7, 7, 7, 7, 7, 7, 7, 7, 7, 7, 7, 7, 7, 7, 7, 8, 8, 8, 8, 8, 8, 8, 8, 8, 8, 8, 8, 8, 8, 8, 8, 8, 8, 8, 8, 8, 8, 8, 8, 8, 8, 8, 8, 8, 8, 8, 8, 8, 8, 8, 8, 8, 8, 8, 8, 8, 8, 8, 8, 8, 8, 8, 8, 8, 8, 8, 8, 8, 8, 8, 8, 8, 8, 8, 8, 8, 8, 8, 8, 8, 8, 8, 8, 8, 8, 8, 8, 8, 8, 8, 8, 8, 8, 8, 8, 8, 8, 8, 8, 8, 8, 8, 8, 8, 8, 8, 8, 8, 8, 8, 8, 8, 8, 8, 8, 8, 8, 8, 8, 8, 8, 8, 8, 8, 8, 8, 8, 8, 8, 8, 8, 8, 8, 8, 8, 8, 8, 8, 8, 8, 8, 8, 8] }) t15)) fun t16 =>
  .op true (vS (convert 5 3 t16)) fun t17 =>
  .op true (binS .add 3 (.tmp 13) (.tmp 17) (tv_1.tail.headD undef) t17) fun t18 =>
  .done .ret [t18]
def cx160 : Cx := { N := 19, res := [2], cnd := [(4, [0, 2]), (8, [0, 2])] }
theorem eq160 (a0 : Value) : comp cx160 (bodyC Try.f160) false [] (env0 0 [a0]) (fun e => retP cx160 false e) = p160 a0 := by kernel_rfl

/-- math/bits.Len64 -/
def p161 (a0 : Value) : Prog :=
  .op true (binS .geq 54 (.tmp 3) (.const (.int .u64 4294967296)) a0 (.int .u64 4294967296)) fun t4 =>
  .bind
    (
    .ite t4
      (
      .op true (binS .shr 54 (.tmp 5) (.const (.int .u64 32)) a0 (.int .u64 32)) fun t6 =>
      .done .normal [t6, (.int .i64 32)]
      )
      (
      .done .normal [a0, (.int .i64 0)]
      )
    ) fun tv =>
  .op true (binS .geq 54 (.tmp 7) (.const (.int .u64 65536)) (tv.headD undef) (.int .u64 65536)) fun t8 =>
  .bind
    (
    .ite t8
      (
      .op true (binS .shr 54 (.tmp 9) (.const (.int .u64 16)) (tv.headD undef) (.int .u64 16)) fun t10 =>
      .op true (binS .add 3 (.tmp 11) (.const (.int .i64 16)) (tv.tail.headD undef) (.int .i64 16)) fun t12 =>
      .done .normal [t10, t12]
      )
      (
      .done .normal [(tv.headD undef), (tv.tail.headD undef)]
      )
    ) fun tv_1 =>
  .op true (binS .geq 54 (.tmp 13) (.const (.int .u64 256)) (tv_1.headD undef) (.int .u64 256)) fun t14 =>
  .bind
    (
    .ite t14
      (
      .op true (binS .shr 54 (.tmp 15) (.const (.int .u64 8)) (tv_1.headD undef) (.int .u64 8)) fun t16 =>
      .op true (binS .add 3 (.tmp 17) (.const (.int .i64 8)) (tv_1.tail.headD undef) (.int .i64 8)) fun t18 =>
      .done .normal [t16, t18]
      )
      (
      .done .normal [(tv_1.headD undef), (tv_1.tail.headD undef)]
      )
    ) fun tv_2 =>
  .op true (vS (convert 54 5 (tv_2.headD undef))) fun t21 =>
  .op true (vS (Instr.index 9 (.string { data := #[0, 1, 2, 2, 3, 3, 3, 3, 4, 4, 4, 4, 4, 4, 4, 4, 5, 5, 5, 5, 5, 5, 5, 5, 5, 5, 5, 5, 5, 5, 5, 5, 6, 6, 6, 6, 6, 6, 6, 6, 6, 6, 6, 6, 6, 6, 6, 6, 6, 6, 6, 6, 6, 6, 6, 6, 6, 6, 6, 6, 6, 6, 6, 6, 7, 7, 7, 7, 7, 7, 7, 7, 7, 7, 7, 7, 7, 7, 7, 7, 7, 7, 7, 7, 7, 7, 7, 7, 7, 7, 7, 7, 7, 7, 7, 7, 7, 7, 7, 7, 7, 7, 7, 7, 7, 7, 7, 7, 7, 7, 7, 7, 7, 7, 7, 7, 7, 7, 7, 7, 7, 7, 7, 7, 7, 7, 7, 7, 8, 8, 8, 8, 8, 8, 8, 8, 8, 8, 8, 8, 8, 8, 8, 8, 8, 8, 8, 8, 8, 8, 8, 8, 8, 8, 8, 8, 8, 8, 8, 8, 8, 8, 8, 8, 8, 8, 8, 8, 8, 8, 8, 8, 8, 8, 8, 8, 8, 8, 8, 8, 8, 8, 8, 8, 8, 8, 8, 8, 8, 8, 8, 8, 8, 8, 8, 8, 8, 8, 8, 8, 8, 8, 8, 8, 8, 8, 8, 8, 8, 8, 8, 8, 8, 8, 8, 8, 8, 8, 8, 8, 8, 8, 8, 8, 8, 8, 8, 8, 8, 8, 8, 8, 8, 8, 8, 8, 8, 8, 8, 8, 8, 8, 8, 8, 8, 8, 8, 8, 8, 8, 8, 8, 8, 8, 8, 8] }) t21)) fun t22 =>
  .op true (vS (convert 5 3 t22)) fun t23 =>
  .op true (binS .add 3 (.tmp 19) (.tmp 23) (tv_2.tail.headD undef) t23) fun t24 =>
  .done .ret [t24]
def cx161 : Cx := { N := 25, res := [2], cnd := [(4, [0, 2]), (8, [0, 2]), (14, [0, 2])] }
theorem eq161 (a0 : Value) : comp cx161 (bodyC Try.f161) false [] (env0 0 [a0]) (fun e => retP cx161 false e) = p161 a0 := by kernel_rfl

/-- damper/command.Right$1 -/
def p162 (a0 : Value) (a1 : Value) (a2 : Value) : Prog :=
  .bind
    (
    .op true (binS .geq 3 (.tmp 7) (.tmp 8) a0 a1) fun t9 =>
    .gop t9 true true ((pure (.value a0))) fun t11 =>
    .gop t9 true true ((pure (.value a2))) fun t12 =>
    .gop t9 true true (binS .leq 3 (.tmp 11) (.tmp 12) t11 t12) fun t13 =>
    .op true (pickS t9 t13 (.bool false)) fun t14 =>
    .done .normal [t14]
    ) fun tv =>
  .done .ret [(tv.headD undef)]
def cx162 : Cx := { N := 15, res := [6], reg := [(1, [6])] }
theorem eq162 (a0 : Value) (a1 : Value) (a2 : Value) : comp cx162 (bodyC Try.f162) false [] (env0 0 [a0, a1, a2]) (fun e => retP cx162 false e) = p162 a0 a1 a2 := by kernel_rfl

/-- (*damper/octets.Writer).Uint -/
def p163 (a0 : Value) (a1 : Value) (a2 : Value) : Prog :=
  .bind
    (
    .op true (binS .eql 191 (.tmp 8) (.const (.pointer none)) a0 (.pointer none)) fun t9 =>
    .gop t9 false true ((pure (.value a2))) fun t11 =>
    .gop t9 false true (binS .lss 3 (.tmp 11) (.const (.int .i64 1)) t11 (.int .i64 1)) fun t12 =>
    .op true (pickS t9 (.bool true) t12) fun t13 =>
    .gop t13 false true ((pure (.value a2))) fun t15 =>
    .gop t13 false true (binS .gtr 3 (.tmp 15) (.const (.int .i64 8)) t15 (.int .i64 8)) fun t16 =>
    .op true (pickS t13 (.bool true) t16) fun t17 =>
    .done .normal [t17]
    ) fun tv =>
  .ite (tv.headD undef)
    (
    .done .ret [a0]
    )
    (
    .op true (binS .sub 3 (.tmp 19) (.const (.int .i64 1)) a2 (.int .i64 1)) fun t20 =>
    .bind
      (
      .block 0 <|
      .loop [t20] fun tx =>
      .op true (binS .geq 3 (.tmp 21) (.const (.int .i64 0)) (tx.headD undef) (.int .i64 0)) fun t22 =>
      .ite t22
        (
        .bind
          (
          .block 1 <|
          .draw <|
          .op true (nilS a0) fun t27 =>
          .op true (vS (Instr.fieldAt 193 t27 0)) fun t28 =>
          .op true (vS (Instr.loadAt 130 t28)) fun t29 =>
          .op true (binS .mul 3 (.const (.int .i64 8)) (.tmp 31) (.int .i64 8) (tx.headD undef)) fun t32 =>
          .op true (binS .shr 54 (.tmp 30) (.tmp 32) a1 t32) fun t33 =>
          .op true (vS (convert 54 5 t33)) fun t34 =>
          .op false (vS (Instr.buildSlice 130 1 #[(0, t34)])) fun t35 =>
          .chk none (vS (Instr.loadAt 130 t28)) t29 <|
          .chk none (vS (Instr.fieldAt 193 t27 0)) t28 <|
          .chk none (nilS a0) t27 <|
          .op false (bltS .append #[130, 130] 130 #[false, false] [t29, t35]) fun t36 =>
          .op true (nilS a0) fun t37 =>
          .op true (vS (Instr.fieldAt 193 t37 0)) fun t38 =>
          .op false (uS (Instr.storeAt 130 t38 t36)) fun tu =>
          .done .normal []
          ) fun tv_1 =>
        .op true (binS .sub 3 (.tmp 23) (.const (.int .i64 1)) (tx.headD undef) (.int .i64 1)) fun t24 =>
        .done .normal [t24]
        )
        (
        .done (.exit 0) []
        )
      ) fun tv_2 =>
    .done .ret [a0]
    )
def cx163 : Cx := { N := 40, res := [6], reg := [(1, [17])] }
theorem eq163 (a0 : Value) (a1 : Value) (a2 : Value) : comp cx163 (bodyC Try.f163) false [] (env0 0 [a0, a1, a2]) (fun e => retP cx163 false e) = p163 a0 a1 a2 := by kernel_rfl

/-- bytes.Clone -/
def p164 (a0 : Value) : Prog :=
  .op true (binS .eql 130 (.tmp 3) (.const (.slice none 0 0)) a0 (.slice none 0 0)) fun t4 =>
  .ite t4
    (
    .done .ret [(.slice none 0 0)]
    )
    (
    .op false (vS (Instr.buildSlice 130 0 #[])) fun t5 =>
    .op false (bltS .append #[130, 130] 130 #[false, false] [t5, a0]) fun t7 =>
    .done .ret [t7]
    )
def cx164 : Cx := { N := 8, res := [2] }
theorem eq164 (a0 : Value) : comp cx164 (bodyC Try.f164) false [] (env0 0 [a0]) (fun e => retP cx164 false e) = p164 a0 := by kernel_rfl

/-- damper/damperref05.in -/
def p165 (a0 : Value) (a1 : Value) (a2 : Value) : Prog :=
  .bind
    (
    .op true (binS .geq 2 (.tmp 7) (.tmp 8) a0 a1) fun t9 =>
    .gop t9 true true ((pure (.value a0))) fun t11 =>
    .gop t9 true true ((pure (.value a2))) fun t12 =>
    .gop t9 true true (binS .leq 2 (.tmp 11) (.tmp 12) t11 t12) fun t13 =>
    .op true (pickS t9 t13 (.bool false)) fun t14 =>
    .done .normal [t14]
    ) fun tv =>
  .done .ret [(tv.headD undef)]
def cx165 : Cx := { N := 15, res := [6], reg := [(1, [6])] }
theorem eq165 (a0 : Value) (a1 : Value) (a2 : Value) : comp cx165 (bodyC Try.f165) false [] (env0 0 [a0, a1, a2]) (fun e => retP cx165 false e) = p165 a0 a1 a2 := by kernel_rfl

/-- damper/damperref03.Num -/
def p166 (a0 : Value) : Prog :=
  .bind
    (
    .block 0 <|
    .loop [(.slice none 0 0), a0] fun tx =>
    .op true (binS .gtr 54 (.tmp 4) (.const (.int .u64 127)) (tx.tail.headD undef) (.int .u64 127)) fun t5 =>
    .ite t5
      (
      .bind
        (
        .block 1 <|
        .op true (binS .rem 54 (.tmp 7) (.const (.int .u64 128)) (tx.tail.headD undef) (.int .u64 128)) fun t8 =>
        .op true (binS .add 54 (.tmp 8) (.const (.int .u64 128)) t8 (.int .u64 128)) fun t9 =>
        .op true (vS (convert 54 5 t9)) fun t10 =>
        .op false (vS (Instr.buildSlice 130 1 #[(0, t10)])) fun t11 =>
        .op false (bltS .append #[130, 130] 130 #[false, false] [(tx.headD undef), t11]) fun t12 =>
        .op true (binS .quo 54 (.tmp 13) (.const (.int .u64 128)) (tx.tail.headD undef) (.int .u64 128)) fun t14 =>
        .done .normal [t12, t14]
        ) fun tv =>
      .done .normal [(tv.headD undef), (tv.tail.headD undef)]
      )
      (
      .done (.exit 0) [(tx.headD undef), (tx.tail.headD undef)]
      )
    ) fun tv_1 =>
  .op true (vS (convert 54 5 (tv_1.tail.headD undef))) fun t17 =>
  .op false (vS (Instr.buildSlice 130 1 #[(0, t17)])) fun t18 =>
  .op false (bltS .append #[130, 130] 130 #[false, false] [(tv_1.headD undef), t18]) fun t19 =>
  .done .ret [t19]
def cx166 : Cx := { N := 20, res := [2], blk := [(0, [3, 0]), (1, [3, 0])] }
theorem eq166 (a0 : Value) : comp cx166 (bodyC Try.f166) false [] (env0 0 [a0]) (fun e => retP cx166 false e) = p166 a0 := by kernel_rfl

/-- damper/damperref03.Int -/
def p167 (a0 : Value) : Prog :=
  .op false (callS (.func (.func 178) #[] #[]) [a0]) fun t4 =>
  .op false (callS (.func (.func 177) #[] #[]) [t4, (.int .i64 8)]) fun t5 =>
  .done .ret [t5]
def cx167 : Cx := { N := 6, res := [2] }
theorem eq167 (a0 : Value) : comp cx167 (bodyC Try.f167) false [] (env0 0 [a0]) (fun e => retP cx167 false e) = p167 a0 := by kernel_rfl

/-- slices.IndexFunc[[]int64,int64] -/
def p168 (a0 : Value) (a1 : Value) : Prog :=
  .op true (bltS .len #[112] 3 #[false] [a0]) fun t7 =>
  .bind
    (
    .block 0 <|
    .loop [(.int .i64 0), (.int .i64 0)] fun tx =>
    .op true (binS .lss 3 (.tmp 8) (.tmp 7) (tx.tail.headD undef) t7) fun t9 =>
    .ite t9
      (
      .bind
        (
        .block 1 <|
        .op true (vS (Instr.indexAt 112 a0 (tx.tail.headD undef))) fun t14 =>
        .op true (vS (Instr.loadAt 2 t14)) fun t15 =>
        .op false (callS a1 [t15]) fun t16 =>
        .ite t16
          (
          .done .ret [(tx.tail.headD undef)]
          )
          (
          .done .normal [(tx.headD undef)]
          )
        ) fun tv =>
      .op true (binS .add 3 (.tmp 8) (.const (.int .i64 1)) (tx.tail.headD undef) (.int .i64 1)) fun t18 =>
      .done .normal [(tv.headD undef), t18]
      )
      (
      .done (.exit 0) [(tx.headD undef)]
      )
    ) fun tv_1 =>
  .done .ret [(.int .i64 (-1))]
def cx168 : Cx := { N := 19, res := [4], blk := [(0, [4]), (1, [4])] }
theorem eq168 (a0 : Value) (a1 : Value) : comp cx168 (bodyC Try.f168) false [] (env0 0 [a0, a1]) (fun e => retP cx168 false e) = p168 a0 a1 := by kernel_rfl

/-- damper/band.Clip -/
def p169 (a0 : Value) (a1 : Value) : Prog :=
  .op false (vS (Instr.box 85 a0)) fun t2 =>
  .op true (vS (Instr.fieldAt 85 t2 1)) fun t6 =>
  .op true (vS (Instr.loadAt 2 t6)) fun t7 =>
  .op true (vS (Instr.fieldAt 85 t2 0)) fun t8 =>
  .op true (vS (Instr.loadAt 2 t8)) fun t9 =>
  .op true (binS .lss 2 (.tmp 7) (.tmp 9) t7 t9) fun t10 =>
  .ite t10
    (
    .done .ret [(.int .i64 0), (.bool false)]
    )
    (
    .op true (vS (Instr.fieldAt 85 t2 0)) fun t12 =>
    .op true (vS (Instr.loadAt 2 t12)) fun t13 =>
    .op true (bltS .max #[2, 2] 2 #[false, false] [a1, t13]) fun t14 =>
    .op true (vS (Instr.fieldAt 85 t2 1)) fun t15 =>
    .op true (vS (Instr.loadAt 2 t15)) fun t16 =>
    .op true (bltS .min #[2, 2] 2 #[false, false] [t14, t16]) fun t17 =>
    .done .ret [t17, (.bool true)]
    )
def cx169 : Cx := { N := 18, res := [4, 5] }
theorem eq169 (a0 : Value) (a1 : Value) : comp cx169 (bodyC Try.f169) false [] (env0 0 [a0, a1]) (fun e => retP cx169 false e) = p169 a0 a1 := by kernel_rfl

/-- damper/damperref01.not -/
def p170 (a0 : Value) : Prog :=
  .op false (vS (Instr.box 176 a0)) fun t1 =>
  .op false (vS (Instr.alloc 176 true (.tuple #[]))) fun t2 =>
  .bind
    (
    .block 0 <|
    .loop [(.int .i64 0)] fun tx =>
    .op true (binS .lss 3 (.tmp 4) (.const (.int .i64 128)) (tx.headD undef) (.int .i64 128)) fun t5 =>
    .ite t5
      (
      .bind
        (
        .block 1 <|
        .op true (vS (Instr.indexAt 176 t1 (tx.headD undef))) fun t10 =>
        .op true (vS (Instr.loadAt 4 t10)) fun t11 =>
        .op true (vS (Op.unary .not t11)) fun t12 =>
        .op true (vS (Instr.indexAt 176 t1 (tx.headD undef))) fun t13 =>
        .op false (uS (Instr.storeAt 4 t13 t12)) fun tu =>
        .done .normal []
        ) fun tv =>
      .op true (binS .add 3 (.tmp 6) (.const (.int .i64 1)) (tx.headD undef) (.int .i64 1)) fun t7 =>
      .done .normal [t7]
      )
      (
      .done (.exit 0) []
      )
    ) fun tv_1 =>
  .op true (vS (Instr.loadAt 176 t1)) fun t14 =>
  .op false (uS (Instr.storeAt 176 t2 t14)) fun tu_1 =>
  .done .ret [t2]
def cx170 : Cx := { N := 15, res := [2] }
theorem eq170 (a0 : Value) : comp cx170 (bodyC Try.f170) false [] (env0 0 [a0]) (fun e => retP cx170 false e) = p170 a0 := by kernel_rfl

/-- slices.siftDownOrdered[int64] -/
def p171 (a0 : Value) (a1 : Value) (a2 : Value) (a3 : Value) : Prog :=
  .bind
    (
    .block 0 <|
    .loop [a1] fun tx =>
    .bind
      (
      .block 1 <|
      .op true (binS .mul 3 (.const (.int .i64 2)) (.tmp 11) (.int .i64 2) (tx.headD undef)) fun t12 =>
      .op true (binS .add 3 (.tmp 12) (.const (.int .i64 1)) t12 (.int .i64 1)) fun t13 =>
      .op true (binS .geq 3 (.tmp 14) (.tmp 15) t13 a2) fun t16 =>
      .ite t16
        (
        .done (.exit 0) []
        )
        (
        .bind
          (
          .draw <|
          .op true (binS .add 3 (.tmp 17) (.const (.int .i64 1)) t13 (.int .i64 1)) fun t18 =>
          .op true (binS .lss 3 (.tmp 18) (.tmp 19) t18 a2) fun t20 =>
          .gop t20 true true ((pure (.value a0))) fun t22 =>
          .gop t20 true true ((pure (.value a3))) fun t23 =>
          .gop t20 true true ((pure (.value t13))) fun t24 =>
          .gop t20 true true (binS .add 3 (.tmp 23) (.tmp 24) t23 t24) fun t25 =>
          .gop t20 true true (vS (Instr.indexAt 112 t22 t25)) fun t26 =>
          .gop t20 true true (vS (Instr.loadAt 2 t26)) fun t27 =>
          .gop t20 true true ((pure (.value a0))) fun t28 =>
          .gop t20 true true ((pure (.value a3))) fun t29 =>
          .gop t20 true true ((pure (.value t13))) fun t30 =>
          .gop t20 true true (binS .add 3 (.tmp 29) (.tmp 30) t29 t30) fun t31 =>
          .gop t20 true true (binS .add 3 (.tmp 31) (.const (.int .i64 1)) t31 (.int .i64 1)) fun t32 =>
          .gop t20 true true (vS (Instr.indexAt 112 t28 t32)) fun t33 =>
          .gop t20 true true (vS (Instr.loadAt 2 t33)) fun t34 =>
          .gop t20 true false (callS (.func (.func 157) #[] #[]) [t27, t34]) fun t35 =>
          .op true (pickS t20 t35 (.bool false)) fun t36 =>
          .done .normal [t36]
          ) fun tv =>
        .bind
          (
          .ite (tv.headD undef)
            (
            .op true (binS .add 3 (.tmp 37) (.const (.int .i64 1)) t13 (.int .i64 1)) fun t38 =>
            .done .normal [t38]
            )
            (
            .done .normal [t13]
            )
          ) fun tv_1 =>
        .draw <|
        .op true (binS .add 3 (.tmp 40) (.tmp 41) a3 (tx.headD undef)) fun t42 =>
        .op true (vS (Instr.indexAt 112 a0 t42)) fun t43 =>
        .op true (vS (Instr.loadAt 2 t43)) fun t44 =>
        .op true (binS .add 3 (.tmp 46) (.tmp 47) a3 (tv_1.headD undef)) fun t48 =>
        .op true (vS (Instr.indexAt 112 a0 t48)) fun t49 =>
        .op true (vS (Instr.loadAt 2 t49)) fun t50 =>
        .op false (callS (.func (.func 157) #[] #[]) [t44, t50]) fun t51 =>
        .op true (vS (Op.unary .not t51)) fun t52 =>
        .ite t52
          (
          .done .ret []
          )
          (
          .draw <|
          .op true (binS .add 3 (.tmp 54) (.tmp 55) a3 (tx.headD undef)) fun t56 =>
          .op true (binS .add 3 (.tmp 58) (.tmp 59) a3 (tv_1.headD undef)) fun t60 =>
          .op true (binS .add 3 (.tmp 62) (.tmp 63) a3 (tv_1.headD undef)) fun t64 =>
          .op true (vS (Instr.indexAt 112 a0 t64)) fun t65 =>
          .op true (vS (Instr.loadAt 2 t65)) fun t66 =>
          .op true (binS .add 3 (.tmp 68) (.tmp 69) a3 (tx.headD undef)) fun t70 =>
          .op true (vS (Instr.indexAt 112 a0 t70)) fun t71 =>
          .op true (vS (Instr.loadAt 2 t71)) fun t72 =>
          .op true (vS (Instr.indexAt 112 a0 t56)) fun t73 =>
          .op false (uS (Instr.storeAt 2 t73 t66)) fun tu =>
          .chk none (binS .add 3 (.tmp 58) (.tmp 59) a3 (tv_1.headD undef)) t60 <|
          .op true (vS (Instr.indexAt 112 a0 t60)) fun t74 =>
          .op false (uS (Instr.storeAt 2 t74 t72)) fun tu_1 =>
          .done .normal [(tv_1.headD undef)]
          )
        )
      ) fun tv_2 =>
    .done .normal [(tv_2.headD undef)]
    ) fun tv_3 =>
  .done .ret []
def cx171 : Cx := { N := 76, res := [], blk := [(1, [8])], cnd := [(36, [9])], reg := [(3, [36])] }
theorem eq171 (a0 : Value) (a1 : Value) (a2 : Value) (a3 : Value) : comp cx171 (bodyC Try.f171) false [] (env0 0 [a0, a1, a2, a3]) (fun e => retP cx171 false e) = p171 a0 a1 a2 a3 := by kernel_rfl

/-- slices.nextPowerOfTwo -/
def p172 (a0 : Value) : Prog :=
  .op true (vS (convert 3 129 a0)) fun t4 =>
  .op false (callS (.func (.func 124) #[] #[]) [t4]) fun t5 =>
  .op true (binS .shl 129 (.const (.int .u64 1)) (.tmp 5) (.int .u64 1) t5) fun t6 =>
  .done .ret [t6]
def cx172 : Cx := { N := 7, res := [2] }
theorem eq172 (a0 : Value) : comp cx172 (bodyC Try.f172) false [] (env0 0 [a0]) (fun e => retP cx172 false e) = p172 a0 := by kernel_rfl

/-- (*slices.xorshift).Next -/
def p173 (a0 : Value) : Prog :=
  .draw <|
  .op true (nilS a0) fun t4 =>
  .op true (vS (Instr.loadAt 224 t4)) fun t5 =>
  .op true (nilS a0) fun t7 =>
  .op true (vS (Instr.loadAt 224 t7)) fun t8 =>
  .op true (binS .shl 224 (.tmp 8) (.const (.int .u64 13)) t8 (.int .u64 13)) fun t9 =>
  .op true (binS .xor 224 (.tmp 5) (.tmp 9) t5 t9) fun t10 =>
  .op true (nilS a0) fun t11 =>
  .op false (uS (Instr.storeAt 224 t11 t10)) fun tu =>
  .draw <|
  .op true (nilS a0) fun t13 =>
  .op true (vS (Instr.loadAt 224 t13)) fun t14 =>
  .op true (nilS a0) fun t16 =>
  .op true (vS (Instr.loadAt 224 t16)) fun t17 =>
  .op true (binS .shr 224 (.tmp 17) (.const (.int .u64 7)) t17 (.int .u64 7)) fun t18 =>
  .op true (binS .xor 224 (.tmp 14) (.tmp 18) t14 t18) fun t19 =>
  .op true (nilS a0) fun t20 =>
  .op false (uS (Instr.storeAt 224 t20 t19)) fun tu_1 =>
  .draw <|
  .op true (nilS a0) fun t22 =>
  .op true (vS (Instr.loadAt 224 t22)) fun t23 =>
  .op true (nilS a0) fun t25 =>
  .op true (vS (Instr.loadAt 224 t25)) fun t26 =>
  .op true (binS .shl 224 (.tmp 26) (.const (.int .u64 17)) t26 (.int .u64 17)) fun t27 =>
  .op true (binS .xor 224 (.tmp 23) (.tmp 27) t23 t27) fun t28 =>
  .op true (nilS a0) fun t29 =>
  .op false (uS (Instr.storeAt 224 t29 t28)) fun tu_2 =>
  .op true (nilS a0) fun t31 =>
  .op true (vS (Instr.loadAt 224 t31)) fun t32 =>
  .done .ret [t32]
def cx173 : Cx := { N := 33, res := [2] }
theorem eq173 (a0 : Value) : comp cx173 (bodyC Try.f173) false [] (env0 0 [a0]) (fun e => retP cx173 false e) = p173 a0 := by kernel_rfl

/-- slices.medianAdjacentOrdered[int64] -/
def p174 (a0 : Value) (a1 : Value) (a2 : Value) : Prog :=
  .op true (binS .sub 3 (.tmp 8) (.const (.int .i64 1)) a1 (.int .i64 1)) fun t9 =>
  .op true (binS .add 3 (.tmp 11) (.const (.int .i64 1)) a1 (.int .i64 1)) fun t12 =>
  .op false (callS (.func (.func 175) #[] #[]) [a0, t9, a1, t12, a2]) fun t14 =>
  .done .ret [t14]
def cx174 : Cx := { N := 15, res := [6] }
theorem eq174 (a0 : Value) (a1 : Value) (a2 : Value) : comp cx174 (bodyC Try.f174) false [] (env0 0 [a0, a1, a2]) (fun e => retP cx174 false e) = p174 a0 a1 a2 := by kernel_rfl

/-- slices.medianOrdered[int64] -/
def p175 (a0 : Value) (a1 : Value) (a2 : Value) (a3 : Value) (a4 : Value) : Prog :=
  .op false (callS (.func (.func 179) #[] #[]) [a0, a1, a2, a4]) fun t16 =>
  .op true (vS (Instr.extract t16 0)) fun t17 =>
  .op true (vS (Instr.extract t16 1)) fun t18 =>
  .op false (callS (.func (.func 179) #[] #[]) [a0, t18, a3, a4]) fun t24 =>
  .op true (vS (Instr.extract t24 0)) fun t25 =>
  .op true (vS (Instr.extract t24 1)) fun t26 =>
  .op false (callS (.func (.func 179) #[] #[]) [a0, t17, t25, a4]) fun t32 =>
  .op true (vS (Instr.extract t32 0)) fun t33 =>
  .op true (vS (Instr.extract t32 1)) fun t34 =>
  .done .ret [t34]
def cx175 : Cx := { N := 36, res := [10] }
theorem eq175 (a0 : Value) (a1 : Value) (a2 : Value) (a3 : Value) (a4 : Value) : comp cx175 (bodyC Try.f175) false [] (env0 0 [a0, a1, a2, a3, a4]) (fun e => retP cx175 false e) = p175 a0 a1 a2 a3 a4 := by kernel_rfl

/-- cmp.isNaN[int64] -/
def p176 (a0 : Value) : Prog :=
  .op true (binS .neq 2 (.tmp 3) (.tmp 4) a0 a0) fun t5 =>
  .done .ret [t5]
def cx176 : Cx := { N := 6, res := [2] }
theorem eq176 (a0 : Value) : comp cx176 (bodyC Try.f176) false [] (env0 0 [a0]) (fun e => retP cx176 false e) = p176 a0 := by kernel_rfl

/-- damper/damperref03.Uint -/
def p177 (a0 : Value) (a1 : Value) : Prog :=
  .bind
    (
    .op true (binS .lss 3 (.tmp 7) (.const (.int .i64 1)) a1 (.int .i64 1)) fun t8 =>
    .gop t8 false true ((pure (.value a1))) fun t10 =>
    .gop t8 false true (binS .gtr 3 (.tmp 10) (.const (.int .i64 8)) t10 (.int .i64 8)) fun t11 =>
    .op true (pickS t8 (.bool true) t11) fun t12 =>
    .done .normal [t12]
    ) fun tv =>
  .ite (tv.headD undef)
    (
    .done .ret [(.slice none 0 0)]
    )
    (
    .bind
      (
      .block 0 <|
      .loop [(.slice none 0 0), a0, (.int .i64 0)] fun tx =>
      .op true (binS .lss 3 (.tmp 13) (.tmp 14) (tx.tail.tail.headD undef) a1) fun t15 =>
      .ite t15
        (
        .bind
          (
          .block 1 <|
          .op true (binS .rem 54 (.tmp 18) (.const (.int .u64 256)) (tx.tail.headD undef) (.int .u64 256)) fun t19 =>
          .op true (vS (convert 54 5 t19)) fun t20 =>
          .op false (vS (Instr.buildSlice 130 1 #[(0, t20)])) fun t21 =>
          .op false (bltS .append #[130, 130] 130 #[false, false] [t21, (tx.headD undef)]) fun t23 =>
          .op true (binS .quo 54 (.tmp 24) (.const (.int .u64 256)) (tx.tail.headD undef) (.int .u64 256)) fun t25 =>
          .done .normal [t23, t25]
          ) fun tv_1 =>
        .op true (binS .add 3 (.tmp 16) (.const (.int .i64 1)) (tx.tail.tail.headD undef) (.int .i64 1)) fun t17 =>
        .done .normal [(tv_1.headD undef), (tv_1.tail.headD undef), t17]
        )
        (
        .done (.exit 0) [(tx.headD undef)]
        )
      ) fun tv_2 =>
    .done .ret [(tv_2.headD undef)]
    )
def cx177 : Cx := { N := 27, res := [4], blk := [(0, [5]), (1, [5, 0])], reg := [(1, [12])] }
theorem eq177 (a0 : Value) (a1 : Value) : comp cx177 (bodyC Try.f177) false [] (env0 0 [a0, a1]) (fun e => retP cx177 false e) = p177 a0 a1 := by kernel_rfl

/-- damper/damperref03.turned -/
def p178 (a0 : Value) : Prog :=
  .op true (binS .geq 2 (.tmp 3) (.const (.int .i64 0)) a0 (.int .i64 0)) fun t4 =>
  .ite t4
    (
    .op true (vS (convert 2 54 a0)) fun t6 =>
    .op true (binS .mul 54 (.const (.int .u64 2)) (.tmp 6) (.int .u64 2) t6) fun t7 =>
    .done .ret [t7]
    )
    (
    .op true (binS .add 2 (.tmp 8) (.const (.int .i64 1)) a0 (.int .i64 1)) fun t9 =>
    .op true (vS (Op.unary .neg t9)) fun t10 =>
    .op true (vS (convert 2 54 t10)) fun t11 =>
    .op true (binS .mul 54 (.const (.int .u64 2)) (.tmp 11) (.int .u64 2) t11) fun t12 =>
    .op true (binS .add 54 (.tmp 12) (.const (.int .u64 1)) t12 (.int .u64 1)) fun t13 =>
    .done .ret [t13]
    )
def cx178 : Cx := { N := 14, res := [2] }
theorem eq178 (a0 : Value) : comp cx178 (bodyC Try.f178) false [] (env0 0 [a0]) (fun e => retP cx178 false e) = p178 a0 := by kernel_rfl

/-- slices.order2Ordered[int64] -/
def p179 (a0 : Value) (a1 : Value) (a2 : Value) (a3 : Value) : Prog :=
  .draw <|
  .op true (vS (Instr.indexAt 112 a0 a2)) fun t12 =>
  .op true (vS (Instr.loadAt 2 t12)) fun t13 =>
  .op true (vS (Instr.indexAt 112 a0 a1)) fun t16 =>
  .op true (vS (Instr.loadAt 2 t16)) fun t17 =>
  .op false (callS (.func (.func 157) #[] #[]) [t13, t17]) fun t18 =>
  .ite t18
    (
    .op true (nilS a3) fun t20 =>
    .op true (vS (Instr.loadAt 3 t20)) fun t21 =>
    .op true (binS .add 3 (.tmp 21) (.const (.int .i64 1)) t21 (.int .i64 1)) fun t22 =>
    .op true (nilS a3) fun t23 =>
    .op false (uS (Instr.storeAt 3 t23 t22)) fun tu =>
    .done .ret [a2, a1]
    )
    (
    .done .ret [a1, a2]
    )
def cx179 : Cx := { N := 28, res := [8, 9] }
theorem eq179 (a0 : Value) (a1 : Value) (a2 : Value) (a3 : Value) : comp cx179 (bodyC Try.f179) false [] (env0 0 [a0, a1, a2, a3]) (fun e => retP cx179 false e) = p179 a0 a1 a2 a3 := by kernel_rfl

end Go.Proofs.Ytipgdalebkhgpaa
