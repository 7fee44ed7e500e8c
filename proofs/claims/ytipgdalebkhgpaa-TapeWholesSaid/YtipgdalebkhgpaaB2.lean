/-
  Contracts of functions.
-/
import Derived.Test.YtipgdalebkhgpaaTerms1
import Derived.Test.YtipgdalebkhgpaaTerms2
import Derived.Test.YtipgdalebkhgpaaTab
import Derived.Test.YtipgdalebkhgpaaModDiv
import Derived.Test.YtipgdalebkhgpaaB1
import Derived.Test.YtipgdalebkhgpaaV1
import Derived.Test.YtipgdalebkhgpaaG1
set_option maxRecDepth 100000
set_option maxHeartbeats 4000000
set_option linter.unusedVariables false
set_option linter.unusedSimpArgs false
namespace Go.Proofs.Ytipgdalebkhgpaa
open Go Go.RowKit Fw
/-- damper/wide.length -/
theorem s150 (n : Nat) (hn : n < 18446744073709551616) :
    FnE Try.prog 150 [.int .u64 (n : Int)] (fun _ => True) (.int .i64 (bl n : Int)) := by
  refine fn_of_J (cx := cx150) hmix Try.func150 (by kernel_rfl) (eq150 _) fun w hw => ?_
  refine J.bind ?_ -- @tv_1 bind tv_1 ([2])
  refine J.block ?_
  -- @tx loop [(.int .i64 0), a0]
  refine J.loopH (α := Nat) (fun j => j ≤ 64 ∧ j + bl (n / 2 ^ j) = bl n) (fun j => [.int .i64 j, .int .u64 ((n / 2 ^ j : Nat) : Int)]) (fun j => bl (n / 2 ^ j)) 0 (by simp) (by simp) ?_
  rintro j ⟨hj, hbl⟩
  try simp only [List.headD_cons, List.tail_cons]
  refine J.opD R.neq (fun ht4 => ?_) (fun ht4 => ?_) -- @t4 binS .neq 54 (.tmp 3) (.const (.int .u64 0)) (tx.tail.headD undef) (.int .u64 0)
  · skip
    refine J.iteT ?_
    refine J.bind ?_ -- @tv bind tv ([2])
    refine J.block ?_
    have hs := bl_step (n := n / 2 ^ j) (by omega)
    rw [show n / 2 ^ j / 2 = n / 2 ^ (j + 1) by rw [Nat.pow_succ, Nat.div_div_eq_div_mul]] at hs
    have hb := bl_le hn
    refine J.op (R.add64 (by omega)) ?_ -- @t8 binS .add 3 (.tmp 7) (.const (.int .i64 1)) (tx.headD undef) (.int .i64 1)
    refine J.done ?_ -- then tv = [t8]
    refine J.op (R.asI (R.shrU (n := 1) (by decide)) (v := ((n / 2 ^ (j + 1) : Nat) : Int)) (congrArg _ (by rw [Nat.pow_succ, Nat.div_div_eq_div_mul]; rfl))) ?_ -- @t6 binS .shr 54 (.tmp 5) (.const (.int .u64 1)) (tx.tail.headD undef) (.int .u64 1)
    -- @again[(tv.headDundef),t6]
    exact J.done ⟨j + 1, ⟨by omega, by omega⟩, rfl, Imp.refl _, by omega⟩
  · skip
    refine J.iteF ?_
    refine J.done ⟨fun _ => ?_, fun h => absurd rfl h⟩ -- exit [(tx.headD undef)]
    -- @ret[(tv_1.headDundef)]
    exact J.done (RetQ.ge (.tmp .nil) (by rw [← hbl, show n / 2 ^ j = 0 by omega]; rfl))

/-- (damper/wide.Wide).Len -/
theorem s119 (N : Nat) (hN : N < 340282366920938463463374607431768211456) :
    FnE Try.prog 119 [.agg (wideC N).toArray] (fun _ => True) (.int .i64 (lenW N : Int)) := by
  refine fn_of_J (cx := cx119) hmix Try.func119 (by kernel_rfl) (eq119 _) fun w hw => ?_
  refine J.boxA fun bt1 => ?_
  refine J.op fa98_0 ?_
  refine J.op (R.ld o54 (by with_reducible repeat (first | exact Pick.here | apply Pick.there)) rfl) ?_ -- @t4 vS (Instr.loadAt 54 t3)
  refine J.opD R.neq (fun ht5 => ?_) (fun ht5 => ?_) -- @t5 binS .neq 54 (.tmp 4) (.const (.int .u64 0)) t4 (.int .u64 0)
  · skip
    refine J.iteT ?_
    refine J.op fa98_0 ?_
    refine J.op (R.ld o54 (by with_reducible repeat (first | exact Pick.here | apply Pick.there)) rfl) ?_ -- @t7 vS (Instr.loadAt 54 t6)
    refine J.callE en150 (s150 (N / 18446744073709551616) (by omega)) rfl (fun _ _ _ => trivial) ?_ -- @t8 callS (.func (.func 150) #[] #[]) [t7]
    refine J.op (R.add64 (by have := bl_le (n := N / 18446744073709551616) (by omega); omega)) ?_ -- @t9 binS .add 3 (.const (.int .i64 64)) (.tmp 8) (.int .i64 64) t8
    -- @ret[t9]
    exact J.done (RetQ.ge (.tmp (.nil)) (by rw [show lenW N = 64 + bl (N / 18446744073709551616) from if_pos (by omega)]; rfl))
  · skip
    refine J.iteF ?_
    refine J.op fa98_1 ?_
    refine J.op (R.ld o54 (by with_reducible repeat (first | exact Pick.here | apply Pick.there)) rfl) ?_ -- @t11 vS (Instr.loadAt 54 t10)
    refine J.callE en150 (s150 (N % 18446744073709551616) (by omega)) rfl (fun _ _ _ => trivial) ?_ -- @t12 callS (.func (.func 150) #[] #[]) [t11]
    -- @ret[t12]
    exact J.done (RetQ.ge (.tmp (.nil)) (by rw [show lenW N = bl (N % 18446744073709551616) from if_neg (by omega)]; rfl))

/-- (damper/wide.Wide).Right -/
theorem s120 (N n : Nat) (hN : N < 340282366920938463463374607431768211456) (hn : n < 128) :
    FnE Try.prog 120 [.agg (wideC N).toArray, .int .i64 (n : Int)] (fun _ => True) (.agg (rightC N n).toArray) := by
  refine fn_of_J (cx := cx120) hmix Try.func120 (by kernel_rfl) (eq120 _ _) fun w hw => ?_
  refine J.boxA fun bt2 => ?_
  refine J.alloc z98 fun bt4 => ?_
  refine J.bind ?_ -- @tv bind tv ([])
  refine J.block ?_
  refine J.opD R.leq (fun ht7 => ?_) (fun ht7 => ?_) -- @t7 binS .leq 3 (.tmp 6) (.const (.int .i64 0)) a1 (.int .i64 0)
  · skip
    refine J.iteT ?_
    refine J.op (R.ldA ag98 (by with_reducible repeat (first | exact Pick.here | apply Pick.there)) rfl) ?_ -- @t8 vS (Instr.loadAt 98 t2)
    refine J.stW sz98 (by with_reducible repeat (first | exact Pick.here | apply Pick.there)) rfl rfl rfl ?_ -- @tu uS (Instr.storeAt 98 t4 t8)
    -- @ret[t4]
    exact J.done (RetQ.ge (.cellA ag98 (by with_reducible repeat (first | exact Pick.here | apply Pick.there)) rfl (.nil)) (by simp only [mkRes, rightC, rA, rB]; (repeat' split) <;> first | rfl | omega))
  · skip
    refine J.iteF ?_
    refine J.opDF R.geq (by omega) ?_ -- @t11
    refine J.iteF ?_
    refine J.opD R.geq (fun ht15 => ?_) (fun ht15 => ?_) -- @t15 binS .geq 3 (.tmp 14) (.const (.int .i64 64)) a1 (.int .i64 64)
    · skip
      refine J.iteT ?_
      refine J.op fa98_0 ?_
      refine J.op (R.ld o54 (by with_reducible repeat (first | exact Pick.here | apply Pick.there)) rfl) ?_ -- @t17 vS (Instr.loadAt 54 t16)
      refine J.op (R.asI R.sub (v := ((n - 64 : Nat) : Int)) (by rw [i64_in _ (by omega)]; omega)) ?_ -- @t19 binS .sub 3 (.tmp 18) (.const (.int .i64 64)) a1 (.int .i64 64)
      refine J.op (R.shrU (by omega)) ?_ -- @t20 binS .shr 54 (.tmp 17) (.tmp 19) t17 t19
      refine J.op bd98_0_1 ?_ -- @t21 vS (Instr.build 98 #[(0, (.int .u64 0)), (1, t20)])
      refine J.stW sz98 (by with_reducible repeat (first | exact Pick.here | apply Pick.there)) rfl rfl rfl ?_ -- @tu_2 uS (Instr.storeAt 98 t4 t21)
      -- @ret[t4]#2
      exact J.done (RetQ.ge (.cellA ag98 (by with_reducible repeat (first | exact Pick.here | apply Pick.there)) rfl (.nil)) (by simp only [mkRes, rightC, rA, rB]; (repeat' split) <;> first | rfl | omega))
    · skip
      refine J.iteF ?_
      refine J.done ?_ -- then tv = []
      refine J.draw ?_
      refine J.op fa98_0 ?_
      refine J.op (R.ld o54 (by with_reducible repeat (first | exact Pick.here | apply Pick.there)) rfl) ?_ -- @t23 vS (Instr.loadAt 54 t22)
      refine J.op (R.shrU (by omega)) ?_ -- @t25 binS .shr 54 (.tmp 23) (.tmp 24) t23 a1
      refine J.op fa98_1 ?_
      refine J.op (R.ld o54 (by with_reducible repeat (first | exact Pick.here | apply Pick.there)) rfl) ?_ -- @t27 vS (Instr.loadAt 54 t26)
      refine J.op (R.shrU (by omega)) ?_ -- @t29 binS .shr 54 (.tmp 27) (.tmp 28) t27 a1
      refine J.op fa98_0 ?_
      refine J.op (R.ld o54 (by with_reducible repeat (first | exact Pick.here | apply Pick.there)) rfl) ?_ -- @t31 vS (Instr.loadAt 54 t30)
      refine J.op (R.asI R.sub (v := ((64 - n : Nat) : Int)) (by rw [i64_in _ (by omega)]; omega)) ?_ -- @t33 binS .sub 3 (.const (.int .i64 64)) (.tmp 32) (.int .i64 64) a1
      refine J.op (R.shlU (by omega)) ?_ -- @t34 binS .shl 54 (.tmp 31) (.tmp 33) t31 t33
      refine J.op (R.orU (Nat.lt_of_le_of_lt (Nat.div_le_self _ _) (by omega)) (by omega)) ?_ -- @t35 binS .or 54 (.tmp 29) (.tmp 34) t29 t34
      refine J.op bd98_0_1 ?_ -- @t36 vS (Instr.build 98 #[(0, t25), (1, t35)])
      refine J.stW sz98 (by with_reducible repeat (first | exact Pick.here | apply Pick.there)) rfl rfl rfl ?_ -- @tu_3 uS (Instr.storeAt 98 t4 t36)
      -- @ret[t4]#3
      exact J.done (RetQ.ge (.cellA ag98 (by with_reducible repeat (first | exact Pick.here | apply Pick.there)) rfl (.nil)) (by simp only [mkRes, rightC, rA, rB]; (repeat' split) <;> first | rfl | omega))

/-- (damper/wide.Wide).Left -/
theorem s121 (k : Nat) (hk : k < 128) :
    FnE Try.prog 121 [.agg (wideC 1).toArray, .int .i64 (k : Int)] (fun _ => True) (.agg (wideC (2 ^ k)).toArray) := by
  refine fn_of_J (cx := cx121) hmix Try.func121 (by kernel_rfl) (eq121 _ _) fun w hw => ?_
  refine J.boxA fun bt2 => ?_
  refine J.alloc z98 fun bt4 => ?_
  refine J.bind ?_ -- @tv bind tv ([])
  refine J.block ?_
  refine J.opD R.leq (fun ht7 => ?_) (fun ht7 => ?_) -- @t7 binS .leq 3 (.tmp 6) (.const (.int .i64 0)) a1 (.int .i64 0)
  · skip
    refine J.iteT ?_
    refine J.op (R.ldA ag98 (by with_reducible repeat (first | exact Pick.here | apply Pick.there)) rfl) ?_ -- @t8 vS (Instr.loadAt 98 t2)
    refine J.stW sz98 (by with_reducible repeat (first | exact Pick.here | apply Pick.there)) rfl rfl rfl ?_ -- @tu uS (Instr.storeAt 98 t4 t8)
    -- @ret[t4]
    obtain rfl : k = 0 := by omega
    exact J.done (RetQ.ge (.cellA ag98 (by with_reducible repeat (first | exact Pick.here | apply Pick.there)) rfl (.nil)) (by rfl))
  · skip
    refine J.iteF ?_
    refine J.opDF R.geq (by omega) ?_ -- @t11
    refine J.iteF ?_
    refine J.opD R.geq (fun ht15 => ?_) (fun ht15 => ?_) -- @t15 binS .geq 3 (.tmp 14) (.const (.int .i64 64)) a1 (.int .i64 64)
    · skip
      refine J.iteT ?_
      refine J.op fa98_1 ?_
      refine J.op (R.ld o54 (by with_reducible repeat (first | exact Pick.here | apply Pick.there)) rfl) ?_ -- @t17 vS (Instr.loadAt 54 t16)
      refine J.op (R.asI R.sub (v := ((k - 64 : Nat) : Int)) (by rw [i64_in _ (by omega)]; omega)) ?_ -- @t19 binS .sub 3 (.tmp 18) (.const (.int .i64 64)) a1 (.int .i64 64)
      refine J.op (R.asI (R.shlU (m := 1) (by omega)) (v := ((2 ^ k / 18446744073709551616 : Nat) : Int)) (congrArg _ (by rw [(pow_wide (by omega) hk).1, Nat.one_mul, Nat.mod_eq_of_lt (pow_lt64 (by omega))]))) ?_ -- @t20 binS .shl 54 (.tmp 17) (.tmp 19) t17 t19
      refine J.op bd98_0_1 ?_ -- @t21 vS (Instr.build 98 #[(0, t20), (1, (.int .u64 0))])
      refine J.stW sz98 (by with_reducible repeat (first | exact Pick.here | apply Pick.there)) rfl rfl rfl ?_ -- @tu_2 uS (Instr.storeAt 98 t4 t21)
      -- @ret[t4]#2
      exact J.done (RetQ.ge (.cellA ag98 (by with_reducible repeat (first | exact Pick.here | apply Pick.there)) rfl (.nil)) (by rw [show wideC (2 ^ k) = [.int .u64 ((2 ^ k / 18446744073709551616 : Nat) : Int), .int .u64 ((0 : Nat) : Int)] by unfold wideC; rw [(pow_wide (by omega) hk).2]]; rfl))
    · skip
      refine J.iteF ?_
      refine J.done ?_ -- then tv = []
      refine J.draw ?_
      refine J.op fa98_0 ?_
      refine J.op (R.ld o54 (by with_reducible repeat (first | exact Pick.here | apply Pick.there)) rfl) ?_ -- @t23 vS (Instr.loadAt 54 t22)
      refine J.op (R.asI (R.shlU (m := 0) (by omega)) (v := ((0 : Nat) : Int)) (congrArg _ (by simp))) ?_ -- @t25 binS .shl 54 (.tmp 23) (.tmp 24) t23 a1
      refine J.op fa98_1 ?_
      refine J.op (R.ld o54 (by with_reducible repeat (first | exact Pick.here | apply Pick.there)) rfl) ?_ -- @t27 vS (Instr.loadAt 54 t26)
      refine J.op (R.asI R.sub (v := ((64 - k : Nat) : Int)) (by rw [i64_in _ (by omega)]; omega)) ?_ -- @t29 binS .sub 3 (.const (.int .i64 64)) (.tmp 28) (.int .i64 64) a1
      refine J.op (R.asI (R.shrU (m := 1) (by omega)) (v := ((0 : Nat) : Int)) (congrArg _ (Nat.div_eq_of_lt (Nat.one_lt_two_pow (by omega))))) ?_ -- @t30 binS .shr 54 (.tmp 27) (.tmp 29) t27 t29
      refine J.op (R.asI (R.orU (m := 0) (n := 0) (by decide) (by decide)) (v := ((2 ^ k / 18446744073709551616 : Nat) : Int)) (congrArg _ (by rw [Nat.div_eq_of_lt (pow_lt64 (by omega))]; rfl))) ?_ -- @t31 binS .or 54 (.tmp 25) (.tmp 30) t25 t30
      refine J.op fa98_1 ?_
      refine J.op (R.ld o54 (by with_reducible repeat (first | exact Pick.here | apply Pick.there)) rfl) ?_ -- @t33 vS (Instr.loadAt 54 t32)
      refine J.op (R.asI (R.shlU (m := 1) (by omega)) (v := ((2 ^ k % 18446744073709551616 : Nat) : Int)) (congrArg _ (by rw [Nat.one_mul]))) ?_ -- @t35 binS .shl 54 (.tmp 33) (.tmp 34) t33 a1
      refine J.op bd98_0_1 ?_ -- @t36 vS (Instr.build 98 #[(0, t31), (1, t35)])
      refine J.stW sz98 (by with_reducible repeat (first | exact Pick.here | apply Pick.there)) rfl rfl rfl ?_ -- @tu_3 uS (Instr.storeAt 98 t4 t36)
      -- @ret[t4]#3
      exact J.done (RetQ.ge (.cellA ag98 (by with_reducible repeat (first | exact Pick.here | apply Pick.there)) rfl (.nil)) (by rfl))

/-- (damper/wide.Wide).Div -/
theorem s81 (N d : Nat) (hN : N < 340282366920938463463374607431768211456) (hd : 0 < d ∧ d < 18446744073709551616) :
    FnE Try.prog 81 [.agg (wideC N).toArray, .int .u64 (d : Int)] (fun _ => True) (.tuple #[.agg (wideC (N / d)).toArray, .int .u64 ((N % d : Nat) : Int), .bool true]) := by
  refine fn_of_J (cx := cx81) hmix Try.func81 (by kernel_rfl) (eq81 _ _) fun w hw => ?_
  refine J.boxA fun bt2 => ?_
  refine J.alloc z98 fun bt4 => ?_
  refine J.opDF R.eql (by omega) ?_ -- @t11
  refine J.iteF ?_
  refine J.op (R.ldA ag98 (by with_reducible repeat (first | exact Pick.here | apply Pick.there)) rfl) ?_ -- @t13 vS (Instr.loadAt 98 t2)
  refine J.callE en119 (s119 N hN) rfl (fun _ _ _ => trivial) ?_ -- @t14 callS (.func (.func 119) #[] #[]) [t13]
  refine J.op (R.sub64 (by have := lenW_le hN; omega)) ?_ -- @t15 binS .sub 3 (.tmp 14) (.const (.int .i64 1)) t14 (.int .i64 1)
  refine J.bind ?_ -- @tv_2 bind tv_2 ([5])
  refine J.block ?_
  -- @tx loop [(.int .u64 0), t15]
  refine J.loop (α := Nat) (fun k => k ≤ 128) (fun k => [.int .u64 ((N / 2 ^ k % d : Nat) : Int), .int .i64 ((k : Int) - 1)]) (fun k => [Ent.cells bt4 (wideC (qN N d k)) 98, Ent.cells bt2 (wideC N) 98]) (fun k => k) (lenW N) (lenW_le hN) (by rw [Nat.div_eq_of_lt lenW_lt, Nat.zero_mod]; rfl) ?_ ?_
  · rw [show qN N d (lenW N) = 0 by unfold qN; rw [Nat.div_eq_of_lt (Nat.lt_of_le_of_lt (Nat.div_le_self _ _) lenW_lt), Nat.zero_mul]]
    exact Imp.refl _
  rintro k hk
  try simp only [List.headD_cons, List.tail_cons]
  refine J.opD R.geq (fun ht17 => ?_) (fun ht17 => ?_) -- @t17 binS .geq 3 (.tmp 16) (.const (.int .i64 0)) (tx.tail.headD undef) (.int .i64 0)
  · skip
    refine J.iteT ?_
    refine J.bind ?_ -- @tv_1 bind tv_1 ([5])
    refine J.block ?_
    obtain ⟨k, rfl⟩ : ∃ q, k = q + 1 := ⟨k - 1, by omega⟩
    obtain ⟨hd1, hd2, hd3⟩ := div_step (n := N) (d := d) (k := k) hd.1
    have htb := Bool.toNat_le (N.testBit k)
    have hml := Nat.mod_lt (N / 2 ^ (k + 1)) hd.1
    have hqs := qN_step (N := N) (d := d) (k := k)
    have hql := qN_lt (N := N) (d := d) (k := k + 1) hN
    have hbl := rB_bit (N := N) (n := k)
    have hrl := rB_lt (N := N) (n := k) hN
    have hp2 : 2 ^ k < 340282366920938463463374607431768211456 := by have := Nat.pow_lt_pow_right (a := 2) (by decide) (show k < 128 by omega); simpa using this
    generalize hX : N / 2 ^ (k + 1) % d = X at hd1 hd2 hd3 hml ⊢
    rw [show (((k + 1 : Nat) : Int) - 1) = (k : Int) by omega]
    refine J.op (R.shrU (n := 63) (by omega)) ?_ -- @t21 binS .shr 54 (.tmp 20) (.const (.int .u64 63)) (tx.headD undef) (.int .u64 63)
    refine J.opD R.eql (fun ht22 => ?_) (fun ht22 => ?_) -- @t22 binS .eql 54 (.tmp 21) (.const (.int .u64 1)) t21 (.int .u64 1)
    · skip
      refine J.op (R.shlU (n := 1) (by omega)) ?_ -- @t24 binS .shl 54 (.tmp 23) (.const (.int .u64 1)) (tx.headD undef) (.int .u64 1)
      refine J.op (R.ldA ag98 (by with_reducible repeat (first | exact Pick.here | apply Pick.there)) rfl) ?_ -- @t25 vS (Instr.loadAt 98 t2)
      refine J.callE en120 (s120 N k hN (by omega)) rfl (fun _ _ _ => trivial) ?_ -- @t27 callS (.func (.func 120) #[] #[]) [t25, (tx.tail.headD undef)]
      refine J.op fd98_1 ?_ -- @t28 vS (Instr.field 98 t27 1)
      refine J.op (R.asI (R.andU (n := 1) hrl (by decide)) (v := (((N.testBit k).toNat : Nat) : Int)) (congrArg _ hbl)) ?_ -- @t29 binS .and 54 (.tmp 28) (.const (.int .u64 1)) t28 (.int .u64 1)
      refine J.op (R.asI (R.orU (by omega) (by omega)) (v := ((X * 2 % 18446744073709551616 + (N.testBit k).toNat : Nat) : Int)) (congrArg _ dbl_or)) ?_
      generalize (N.testBit k).toNat = t at * -- @t30 binS .or 54 (.tmp 24) (.tmp 29) t24 t29
      refine J.bindBH (2 * X + t < d) ([Ent.cells bt4 (wideC (qN N d (k + 1))) 98, Ent.cells bt2 (wideC N) 98]) ?_ (fun hbtv => ?_) (fun hbtv => ?_) -- @tv
      · skip
        refine J.op (v := .bool false) R.not ?_
        refine J.gopF rfl ?_
        refine J.gopF rfl ?_
        refine J.gopF rfl ?_
        refine J.op R.pickF ?_ -- @t37 pickS t32 t36 (.bool false)
        exact J.done ⟨rfl, by simp only [List.cons.injEq, Value.bool.injEq, and_true]; first | (symm; rw [decide_eq_true_iff]; omega) | (symm; rw [decide_eq_false_iff_not]; omega) | exact decide_eq_decide.2 (by omega), Imp.take (by (try dsimp only); repeat (first | exact Has.nil | refine Has.cons (by repeat (first | (with_reducible exact Out.here) | ((with_reducible refine Out.cells ?_); first | rfl | (simp; done)) | ((with_reducible refine Out.row ?_); first | rfl | (simp; done)) | (with_reducible apply Out.there))) ?_))⟩ -- @leaf[t37]
      · skip
        refine J.iteT ?_
        refine J.done ⟨fun _ => ?_, fun h => absurd rfl h⟩ -- exit [t30]
        refine J.op (R.sub64 (by omega)) ?_ -- @t19 binS .sub 3 (.tmp 18) (.const (.int .i64 1)) (tx.tail.headD undef) (.int .i64 1)
        -- @again[(tv_1.headDundef),t19]
        exact J.done ⟨k, by omega, by rw [hd2, if_neg (by omega), show X * 2 % 18446744073709551616 + t = 2 * X + t by omega]; rfl, by rw [hqs, hd3, if_neg (by simp; omega), Nat.or_zero]; exact Imp.take (by (try dsimp only); repeat (first | exact Has.nil | refine Has.cons (by repeat (first | (with_reducible exact Out.here) | ((with_reducible refine Out.cells ?_); first | rfl | (simp; done)) | ((with_reducible refine Out.row ?_); first | rfl | (simp; done)) | (with_reducible apply Out.there))) ?_)), by omega⟩
      · skip
        refine J.iteF ?_
        refine J.op (R.asI (R.subU (by omega) hd.2) (v := ((2 * X + t - d : Nat) : Int)) (congrArg _ (by omega))) ?_ -- @t40 binS .sub 54 (.tmp 38) (.tmp 39) t30 a1
        refine J.op bd98_0_1 ?_ -- @t41 vS (Instr.build 98 #[(0, (.int .u64 0)), (1, (.int .u64 1))])
        refine J.callE en121 (s121 k (by omega)) rfl (fun _ _ _ => trivial) ?_ -- @t43 callS (.func (.func 121) #[] #[]) [t41, (tx.tail.headD undef)]
        refine J.alloc z98 fun bt9 => ?_
        refine J.stW sz98 (by with_reducible repeat (first | exact Pick.here | apply Pick.there)) rfl rfl rfl ?_ -- @tu_1 uS (Instr.storeAt 98 t9 t43)
        refine J.op fa98_0 ?_
        refine J.op (R.ld o54 (by with_reducible repeat (first | exact Pick.here | apply Pick.there)) rfl) ?_ -- @t45 vS (Instr.loadAt 54 t44)
        refine J.op fa98_0 ?_
        refine J.op (R.ld o54 (by with_reducible repeat (first | exact Pick.here | apply Pick.there)) rfl) ?_ -- @t47 vS (Instr.loadAt 54 t46)
        refine J.op (R.asI (R.orU (by omega) (by omega)) (v := (((qN N d (k + 1) ||| 2 ^ k) / 18446744073709551616 : Nat) : Int)) (congrArg _ (wide_or _ _).1.symm)) ?_ -- @t48 binS .or 54 (.tmp 45) (.tmp 47) t45 t47
        refine J.op fa98_1 ?_
        refine J.op (R.ld o54 (by with_reducible repeat (first | exact Pick.here | apply Pick.there)) rfl) ?_ -- @t50 vS (Instr.loadAt 54 t49)
        refine J.op fa98_1 ?_
        refine J.op (R.ld o54 (by with_reducible repeat (first | exact Pick.here | apply Pick.there)) rfl) ?_ -- @t52 vS (Instr.loadAt 54 t51)
        refine J.op (R.asI (R.orU (by omega) (by omega)) (v := (((qN N d (k + 1) ||| 2 ^ k) % 18446744073709551616 : Nat) : Int)) (congrArg _ (wide_or _ _).2.symm)) ?_ -- @t53 binS .or 54 (.tmp 50) (.tmp 52) t50 t52
        refine J.op bd98_0_1 ?_ -- @t54 vS (Instr.build 98 #[(0, t48), (1, t53)])
        refine J.stW sz98 (by with_reducible repeat (first | exact Pick.here | apply Pick.there)) rfl rfl rfl ?_ -- @tu_2 uS (Instr.storeAt 98 t4 t54)
        refine J.done ?_ -- then tv_1 = [t40]
        refine J.op (R.sub64 (by omega)) ?_ -- @t19 binS .sub 3 (.tmp 18) (.const (.int .i64 1)) (tx.tail.headD undef) (.int .i64 1)
        -- @again[(tv_1.headDundef),t19]#2
        exact J.done ⟨k, by omega, by rw [hd2, if_pos (by omega)]; rfl, by rw [hqs, hd3, if_pos (by simp; omega)]; exact Imp.take (by (try dsimp only); repeat (first | exact Has.nil | refine Has.cons (by repeat (first | (with_reducible exact Out.here) | ((with_reducible refine Out.cells ?_); first | rfl | (simp; done)) | ((with_reducible refine Out.row ?_); first | rfl | (simp; done)) | (with_reducible apply Out.there))) ?_)), by omega⟩
    · skip
      refine J.op (R.shlU (n := 1) (by omega)) ?_ -- @t24 binS .shl 54 (.tmp 23) (.const (.int .u64 1)) (tx.headD undef) (.int .u64 1)
      refine J.op (R.ldA ag98 (by with_reducible repeat (first | exact Pick.here | apply Pick.there)) rfl) ?_ -- @t25 vS (Instr.loadAt 98 t2)
      refine J.callE en120 (s120 N k hN (by omega)) rfl (fun _ _ _ => trivial) ?_ -- @t27 callS (.func (.func 120) #[] #[]) [t25, (tx.tail.headD undef)]
      refine J.op fd98_1 ?_ -- @t28 vS (Instr.field 98 t27 1)
      refine J.op (R.asI (R.andU (n := 1) hrl (by decide)) (v := (((N.testBit k).toNat : Nat) : Int)) (congrArg _ hbl)) ?_ -- @t29 binS .and 54 (.tmp 28) (.const (.int .u64 1)) t28 (.int .u64 1)
      refine J.op (R.asI (R.orU (by omega) (by omega)) (v := ((X * 2 % 18446744073709551616 + (N.testBit k).toNat : Nat) : Int)) (congrArg _ dbl_or)) ?_
      generalize (N.testBit k).toNat = t at * -- @t30 binS .or 54 (.tmp 24) (.tmp 29) t24 t29
      refine J.bindBH (2 * X + t < d) ([Ent.cells bt4 (wideC (qN N d (k + 1))) 98, Ent.cells bt2 (wideC N) 98]) ?_ (fun hbtv => ?_) (fun hbtv => ?_) -- @tv
      · skip
        refine J.op (v := .bool true) R.not ?_
        refine J.gopT rfl ?_
        refine J.op R.pure ?_
        refine J.gopT rfl ?_
        refine J.op R.pure ?_
        refine J.gopT rfl ?_
        refine J.op R.lss ?_ -- @t36 binS .lss 54 (.tmp 34) (.tmp 35) t34 t35
        refine J.op R.pickT ?_ -- @t37 pickS t32 t36 (.bool false)
        exact J.done ⟨rfl, by simp only [List.cons.injEq, Value.bool.injEq, and_true]; first | (symm; rw [decide_eq_true_iff]; omega) | (symm; rw [decide_eq_false_iff_not]; omega) | exact decide_eq_decide.2 (by omega), Imp.take (by (try dsimp only); repeat (first | exact Has.nil | refine Has.cons (by repeat (first | (with_reducible exact Out.here) | ((with_reducible refine Out.cells ?_); first | rfl | (simp; done)) | ((with_reducible refine Out.row ?_); first | rfl | (simp; done)) | (with_reducible apply Out.there))) ?_))⟩ -- @leaf[t37]
      · skip
        refine J.iteT ?_
        refine J.done ⟨fun _ => ?_, fun h => absurd rfl h⟩ -- exit [t30]
        refine J.op (R.sub64 (by omega)) ?_ -- @t19 binS .sub 3 (.tmp 18) (.const (.int .i64 1)) (tx.tail.headD undef) (.int .i64 1)
        -- @again[(tv_1.headDundef),t19]#3
        exact J.done ⟨k, by omega, by rw [hd2, if_neg (by omega), show X * 2 % 18446744073709551616 + t = 2 * X + t by omega]; rfl, by rw [hqs, hd3, if_neg (by simp; omega), Nat.or_zero]; exact Imp.take (by (try dsimp only); repeat (first | exact Has.nil | refine Has.cons (by repeat (first | (with_reducible exact Out.here) | ((with_reducible refine Out.cells ?_); first | rfl | (simp; done)) | ((with_reducible refine Out.row ?_); first | rfl | (simp; done)) | (with_reducible apply Out.there))) ?_)), by omega⟩
      · skip
        refine J.iteF ?_
        refine J.op (R.asI (R.subU (by omega) hd.2) (v := ((2 * X + t - d : Nat) : Int)) (congrArg _ (by omega))) ?_ -- @t40 binS .sub 54 (.tmp 38) (.tmp 39) t30 a1
        refine J.op bd98_0_1 ?_ -- @t41 vS (Instr.build 98 #[(0, (.int .u64 0)), (1, (.int .u64 1))])
        refine J.callE en121 (s121 k (by omega)) rfl (fun _ _ _ => trivial) ?_ -- @t43 callS (.func (.func 121) #[] #[]) [t41, (tx.tail.headD undef)]
        refine J.alloc z98 fun bt9 => ?_
        refine J.stW sz98 (by with_reducible repeat (first | exact Pick.here | apply Pick.there)) rfl rfl rfl ?_ -- @tu_1 uS (Instr.storeAt 98 t9 t43)
        refine J.op fa98_0 ?_
        refine J.op (R.ld o54 (by with_reducible repeat (first | exact Pick.here | apply Pick.there)) rfl) ?_ -- @t45 vS (Instr.loadAt 54 t44)
        refine J.op fa98_0 ?_
        refine J.op (R.ld o54 (by with_reducible repeat (first | exact Pick.here | apply Pick.there)) rfl) ?_ -- @t47 vS (Instr.loadAt 54 t46)
        refine J.op (R.asI (R.orU (by omega) (by omega)) (v := (((qN N d (k + 1) ||| 2 ^ k) / 18446744073709551616 : Nat) : Int)) (congrArg _ (wide_or _ _).1.symm)) ?_ -- @t48 binS .or 54 (.tmp 45) (.tmp 47) t45 t47
        refine J.op fa98_1 ?_
        refine J.op (R.ld o54 (by with_reducible repeat (first | exact Pick.here | apply Pick.there)) rfl) ?_ -- @t50 vS (Instr.loadAt 54 t49)
        refine J.op fa98_1 ?_
        refine J.op (R.ld o54 (by with_reducible repeat (first | exact Pick.here | apply Pick.there)) rfl) ?_ -- @t52 vS (Instr.loadAt 54 t51)
        refine J.op (R.asI (R.orU (by omega) (by omega)) (v := (((qN N d (k + 1) ||| 2 ^ k) % 18446744073709551616 : Nat) : Int)) (congrArg _ (wide_or _ _).2.symm)) ?_ -- @t53 binS .or 54 (.tmp 50) (.tmp 52) t50 t52
        refine J.op bd98_0_1 ?_ -- @t54 vS (Instr.build 98 #[(0, t48), (1, t53)])
        refine J.stW sz98 (by with_reducible repeat (first | exact Pick.here | apply Pick.there)) rfl rfl rfl ?_ -- @tu_2 uS (Instr.storeAt 98 t4 t54)
        refine J.done ?_ -- then tv_1 = [t40]
        refine J.op (R.sub64 (by omega)) ?_ -- @t19 binS .sub 3 (.tmp 18) (.const (.int .i64 1)) (tx.tail.headD undef) (.int .i64 1)
        -- @again[(tv_1.headDundef),t19]#4
        exact J.done ⟨k, by omega, by rw [hd2, if_pos (by omega)]; rfl, by rw [hqs, hd3, if_pos (by simp; omega)]; exact Imp.take (by (try dsimp only); repeat (first | exact Has.nil | refine Has.cons (by repeat (first | (with_reducible exact Out.here) | ((with_reducible refine Out.cells ?_); first | rfl | (simp; done)) | ((with_reducible refine Out.row ?_); first | rfl | (simp; done)) | (with_reducible apply Out.there))) ?_)), by omega⟩
  · skip
    refine J.iteF ?_
    refine J.done ⟨fun _ => ?_, fun h => absurd rfl h⟩ -- exit [(tx.headD undef)]
    refine J.op (R.ldA ag98 (by with_reducible repeat (first | exact Pick.here | apply Pick.there)) rfl) ?_ -- @t55 vS (Instr.loadAt 98 t4)
    refine J.stW sz98 (by with_reducible repeat (first | exact Pick.here | apply Pick.there)) rfl rfl rfl ?_ -- @tu_3 uS (Instr.storeAt 98 t4 t55)
    -- @ret[t4,(tv_2.headDundef),(.booltrue)]
    obtain rfl : k = 0 := by omega
    exact J.done (RetQ.ge (.cellA ag98 (by with_reducible repeat (first | exact Pick.here | apply Pick.there)) rfl (.tmp (.tmp .nil))) (by rw [show qN N d 0 = N / d by unfold qN; simp, show N / 2 ^ 0 % d = N % d by simp]; rfl))

/-- damper/tape.mean -/
theorem s54 (N : Nat) (d : Int) (hN : N < 340282366920938463463374607431768211456) (hd : 1 ≤ d ∧ d ≤ 4611686018427387904) (hq : N / d.toNat ≤ 4611686018427387904) :
    FnE Try.prog 54 [.agg (wideC N).toArray, .int .i64 d] (fun _ => True) (.int .i64 ((N / d.toNat : Nat) : Int)) := by
  refine fn_of_J (cx := cx54) hmix Try.func54 (by kernel_rfl) (eq54 _ _) fun w hw => ?_
  generalize hqe : N / d.toNat = q at hq ⊢
  refine J.boxA fun bt2 => ?_
  refine J.op (R.ldA ag98 (by with_reducible repeat (first | exact Pick.here | apply Pick.there)) rfl) ?_ -- @t9 vS (Instr.loadAt 98 t2)
  refine J.op (R.asI cv2_54 (v := ((d.toNat : Nat) : Int)) (by rw [u64_in _ (by omega)]; omega)) ?_ -- @t11 vS (convert 2 54 a1)
  refine J.callE en81 (s81 N d.toNat hN (by omega)) rfl (fun _ _ _ => trivial) ?_
  rw [hqe] -- @t12 callS (.func (.func 81) #[] #[]) [t9, t11]
  refine J.op (R.ext rfl) ?_ -- @t13 vS (Instr.extract t12 0)
  refine J.op (R.ext rfl) ?_ -- @t14 vS (Instr.extract t12 1)
  refine J.op (R.ext rfl) ?_ -- @t15 vS (Instr.extract t12 2)
  refine J.alloc z98 fun bt5 => ?_
  refine J.stW sz98 (by with_reducible repeat (first | exact Pick.here | apply Pick.there)) rfl rfl rfl ?_ -- @tu uS (Instr.storeAt 98 t5 t13)
  refine J.op fa98_1 ?_
  refine J.op (R.ld o54 (by with_reducible repeat (first | exact Pick.here | apply Pick.there)) rfl) ?_ -- @t17 vS (Instr.loadAt 54 t16)
  refine J.op (R.asI cv54_2 (v := ((q : Nat) : Int)) (by rw [i64_in _ (by omega)]; omega)) ?_ -- @t18 vS (convert 54 2 t17)
  -- @ret[t18]
  exact J.done (RetQ.ge (.tmp (.nil)) (by first | rfl | (simp [mkRes, *]; done) | (simp_all [mkRes]; done) | (simp_all [mkRes]; first | omega | (rw [decide_eq_false_iff_not]; omega) | (rw [decide_eq_true_iff]; omega)) | (simp only [mkRes]; (repeat' split) <;> first | rfl | omega | (simp_all; done) | (simp_all; omega))))
end Go.Proofs.Ytipgdalebkhgpaa
