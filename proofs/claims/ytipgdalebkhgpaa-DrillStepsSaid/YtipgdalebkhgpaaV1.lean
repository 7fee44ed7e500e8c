/-
  Contracts of functions.
-/
import Derived.Test.YtipgdalebkhgpaaTerms1
import Derived.Test.YtipgdalebkhgpaaTerms2
import Derived.Test.YtipgdalebkhgpaaTab
import Derived.Test.YtipgdalebkhgpaaModWide
set_option maxRecDepth 100000
set_option maxHeartbeats 4000000
set_option linter.unusedVariables false
set_option linter.unusedSimpArgs false
namespace Go.Proofs.Ytipgdalebkhgpaa
open Go Go.RowKit Fw
/-- damper/wide.Mul -/
theorem s52 (m n : Nat) (hm : m < 18446744073709551616) (hn : n < 18446744073709551616) :
    FnE Try.prog 52 [.int .u64 (m : Int), .int .u64 (n : Int)] (fun _ => True) (.agg (wideC (m * n)).toArray) := by
  refine fn_of_J (cx := cx52) hmix Try.func52 (by kernel_rfl) (eq52 _ _) fun w hw => ?_
  have b11 := mul_bound (show m / 4294967296 ≤ 4294967295 by omega) (show n / 4294967296 ≤ 4294967295 by omega)
  have b10 := mul_bound (show m / 4294967296 ≤ 4294967295 by omega) (show n % 4294967296 ≤ 4294967295 by omega)
  have b01 := mul_bound (show m % 4294967296 ≤ 4294967295 by omega) (show n / 4294967296 ≤ 4294967295 by omega)
  have b00 := mul_bound (show m % 4294967296 ≤ 4294967295 by omega) (show n % 4294967296 ≤ 4294967295 by omega)
  have hmp := mul_parts m n
  generalize hP : m / 4294967296 * (n / 4294967296) = P at b11 hmp
  generalize hQ : m / 4294967296 * (n % 4294967296) = Q at b10 hmp
  generalize hR : m % 4294967296 * (n / 4294967296) = Rr at b01 hmp
  generalize hS : m % 4294967296 * (n % 4294967296) = S at b00 hmp
  refine J.alloc z98 fun bt4 => ?_
  refine J.op (R.asI (R.shrU (n := 32) (by decide)) (v := ((m / 4294967296 : Nat) : Int)) (congrArg _ (rfl))) ?_ -- @t13 binS .shr 54 (.tmp 12) (.const (.int .u64 32)) a0 (.int .u64 32)
  refine J.op (R.asI (R.andU (n := 4294967295) hm (by decide)) (v := ((m % 4294967296 : Nat) : Int)) (congrArg _ (and32 m))) ?_ -- @t15 binS .and 54 (.tmp 14) (.const (.int .u64 4294967295)) a0 (.int .u64 4294967295)
  refine J.op (R.asI (R.shrU (n := 32) (by decide)) (v := ((n / 4294967296 : Nat) : Int)) (congrArg _ (rfl))) ?_ -- @t17 binS .shr 54 (.tmp 16) (.const (.int .u64 32)) a1 (.int .u64 32)
  refine J.op (R.asI (R.andU (n := 4294967295) hn (by decide)) (v := ((n % 4294967296 : Nat) : Int)) (congrArg _ (and32 n))) ?_ -- @t19 binS .and 54 (.tmp 18) (.const (.int .u64 4294967295)) a1 (.int .u64 4294967295)
  refine J.op (R.asI (R.mulU) (v := ((S : Nat) : Int)) (congrArg _ (by rw [hS]; omega))) ?_ -- @t22 binS .mul 54 (.tmp 20) (.tmp 21) t15 t19
  refine J.op (R.asI (R.mulU) (v := ((Q : Nat) : Int)) (congrArg _ (by rw [hQ]; omega))) ?_ -- @t25 binS .mul 54 (.tmp 23) (.tmp 24) t13 t19
  refine J.op (R.asI (R.shrU (n := 32) (by decide)) (v := ((S / 4294967296 : Nat) : Int)) (congrArg _ (rfl))) ?_ -- @t27 binS .shr 54 (.tmp 26) (.const (.int .u64 32)) t22 (.int .u64 32)
  refine J.op (R.asI (R.addU) (v := ((Q + S / 4294967296 : Nat) : Int)) (congrArg _ (by omega))) ?_ -- @t28 binS .add 54 (.tmp 25) (.tmp 27) t25 t27
  refine J.op (R.asI (R.mulU) (v := ((Rr : Nat) : Int)) (congrArg _ (by rw [hR]; omega))) ?_ -- @t31 binS .mul 54 (.tmp 29) (.tmp 30) t15 t17
  refine J.op (R.asI (R.andU (n := 4294967295) (by omega) (by decide)) (v := (((Q + S / 4294967296) % 4294967296 : Nat) : Int)) (congrArg _ (and32 _))) ?_ -- @t33 binS .and 54 (.tmp 32) (.const (.int .u64 4294967295)) t28 (.int .u64 4294967295)
  refine J.op (R.asI (R.addU) (v := ((Rr + (Q + S / 4294967296) % 4294967296 : Nat) : Int)) (congrArg _ (by omega))) ?_ -- @t34 binS .add 54 (.tmp 31) (.tmp 33) t31 t33
  refine J.op (R.asI (R.mulU) (v := ((P : Nat) : Int)) (congrArg _ (by rw [hP]; omega))) ?_ -- @t37 binS .mul 54 (.tmp 35) (.tmp 36) t13 t17
  refine J.op (R.asI (R.shrU (n := 32) (by decide)) (v := (((Q + S / 4294967296) / 4294967296 : Nat) : Int)) (congrArg _ (rfl))) ?_ -- @t39 binS .shr 54 (.tmp 38) (.const (.int .u64 32)) t28 (.int .u64 32)
  refine J.op (R.asI (R.addU) (v := ((P + (Q + S / 4294967296) / 4294967296 : Nat) : Int)) (congrArg _ (by omega))) ?_ -- @t40 binS .add 54 (.tmp 37) (.tmp 39) t37 t39
  refine J.op (R.asI (R.shrU (n := 32) (by decide)) (v := (((Rr + (Q + S / 4294967296) % 4294967296) / 4294967296 : Nat) : Int)) (congrArg _ (rfl))) ?_ -- @t42 binS .shr 54 (.tmp 41) (.const (.int .u64 32)) t34 (.int .u64 32)
  refine J.op (R.asI (R.addU) (v := ((m * n / 18446744073709551616 : Nat) : Int)) (congrArg _ (by omega))) ?_ -- @t43 binS .add 54 (.tmp 40) (.tmp 42) t40 t42
  refine J.op (R.asI (R.shlU (n := 32) (by decide)) (v := (((Rr + (Q + S / 4294967296) % 4294967296) % 4294967296 * 4294967296 : Nat) : Int)) (congrArg _ (by omega))) ?_ -- @t45 binS .shl 54 (.tmp 44) (.const (.int .u64 32)) t34 (.int .u64 32)
  refine J.op (R.asI (R.andU (n := 4294967295) (by omega) (by decide)) (v := ((S % 4294967296 : Nat) : Int)) (congrArg _ (and32 _))) ?_ -- @t47 binS .and 54 (.tmp 46) (.const (.int .u64 4294967295)) t22 (.int .u64 4294967295)
  refine J.op (R.asI (R.orU (by omega) (by omega)) (v := ((m * n % 18446744073709551616 : Nat) : Int)) (congrArg _ (by rw [or32 (by omega)]; omega))) ?_ -- @t48 binS .or 54 (.tmp 45) (.tmp 47) t45 t47
  refine J.op bd98_0_1 ?_ -- @t49 vS (Instr.build 98 #[(0, t43), (1, t48)])
  refine J.stW sz98 (by with_reducible repeat (first | exact Pick.here | apply Pick.there)) rfl rfl rfl ?_ -- @tu uS (Instr.storeAt 98 t4 t49)
  -- @ret[t4]
  exact J.done (RetQ.ge (.cellA ag98 (by with_reducible repeat (first | exact Pick.here | apply Pick.there)) rfl (.nil)) (by rfl))

/-- (damper/wide.Wide).Add -/
theorem s53 (m n : Nat) (hm : m < 340282366920938463463374607431768211456) (hn : n < 340282366920938463463374607431768211456) :
    FnE Try.prog 53 [.agg (wideC m).toArray, .agg (wideC n).toArray] (fun _ => True) (.tuple #[.agg (wideC ((m + n) % 340282366920938463463374607431768211456)).toArray, .bool (decide (m + n < 340282366920938463463374607431768211456))]) := by
  refine fn_of_J (cx := cx53) hmix Try.func53 (by kernel_rfl) (eq53 _ _) fun w hw => ?_
  refine J.boxA fun bt2 => ?_
  refine J.boxA fun bt3 => ?_
  refine J.alloc z98 fun bt4 => ?_
  refine J.op fa98_0 ?_
  refine J.op (R.ld o54 (by with_reducible repeat (first | exact Pick.here | apply Pick.there)) rfl) ?_ -- @t9 vS (Instr.loadAt 54 t8)
  refine J.op fa98_0 ?_
  refine J.op (R.ld o54 (by with_reducible repeat (first | exact Pick.here | apply Pick.there)) rfl) ?_ -- @t11 vS (Instr.loadAt 54 t10)
  refine J.op R.addU ?_ -- @t12 binS .add 54 (.tmp 9) (.tmp 11) t9 t11
  refine J.op fa98_1 ?_
  refine J.op (R.ld o54 (by with_reducible repeat (first | exact Pick.here | apply Pick.there)) rfl) ?_ -- @t14 vS (Instr.loadAt 54 t13)
  refine J.op fa98_1 ?_
  refine J.op (R.ld o54 (by with_reducible repeat (first | exact Pick.here | apply Pick.there)) rfl) ?_ -- @t16 vS (Instr.loadAt 54 t15)
  refine J.op R.addU ?_ -- @t17 binS .add 54 (.tmp 14) (.tmp 16) t14 t16
  refine J.op bd98_0_1 ?_ -- @t18 vS (Instr.build 98 #[(0, t12), (1, t17)])
  refine J.alloc z98 fun bt6 => ?_
  refine J.stW sz98 (by with_reducible repeat (first | exact Pick.here | apply Pick.there)) rfl rfl rfl ?_ -- @tu uS (Instr.storeAt 98 t6 t18)
  refine J.op fa98_0 ?_
  refine J.op (R.ld o54 (by with_reducible repeat (first | exact Pick.here | apply Pick.there)) rfl) ?_ -- @t20 vS (Instr.loadAt 54 t19)
  refine J.op fa98_0 ?_
  refine J.op (R.ld o54 (by with_reducible repeat (first | exact Pick.here | apply Pick.there)) rfl) ?_ -- @t22 vS (Instr.loadAt 54 t21)
  refine J.opD R.lss (fun ht23 => ?_) (fun ht23 => ?_) -- @t23 binS .lss 54 (.tmp 20) (.tmp 22) t20 t22
  · skip
    refine J.op fa98_1 ?_
    refine J.op (R.ld o54 (by with_reducible repeat (first | exact Pick.here | apply Pick.there)) rfl) ?_ -- @t25 vS (Instr.loadAt 54 t24)
    refine J.op fa98_1 ?_
    refine J.op (R.ld o54 (by with_reducible repeat (first | exact Pick.here | apply Pick.there)) rfl) ?_ -- @t27 vS (Instr.loadAt 54 t26)
    refine J.opD R.lss (fun ht28 => ?_) (fun ht28 => ?_) -- @t28 binS .lss 54 (.tmp 25) (.tmp 27) t25 t27
    · skip
      refine J.bind ?_ -- @tv_1 bind tv_1 ([7])
      refine J.iteT ?_
      refine J.op fa98_0 ?_
      refine J.op (R.ld o54 (by with_reducible repeat (first | exact Pick.here | apply Pick.there)) rfl) ?_ -- @t30 vS (Instr.loadAt 54 t29)
      refine J.op (R.addU (n := 1)) ?_ -- @t31 binS .add 54 (.tmp 30) (.const (.int .u64 1)) t30 (.int .u64 1)
      refine J.op fa98_0 ?_
      refine J.st sz54 (by with_reducible repeat (first | exact Pick.here | apply Pick.there)) (by repeat (first | exact .zero | exact .nil | apply Upd.succ | apply UpdN.cons)) rfl ?_ -- @tu_1 uS (Instr.storeAt 54 t32 t31)
      refine J.bind ?_ -- @tv bind tv ([7])
      refine J.gopF rfl ?_
      refine J.gopF rfl ?_
      refine J.gopF rfl ?_
      refine J.op R.pickT ?_ -- @t38 pickS t23 (.bool true) t37
      refine J.done ?_ -- then tv = [t38]
      refine J.done ?_ -- then tv_1 = [(tv.headD undef)]
      refine J.op (R.ldA ag98 (by with_reducible repeat (first | exact Pick.here | apply Pick.there)) rfl) ?_ -- @t39 vS (Instr.loadAt 98 t6)
      refine J.op (v := .bool false) R.not ?_
      refine J.stW sz98 (by with_reducible repeat (first | exact Pick.here | apply Pick.there)) rfl rfl rfl ?_ -- @tu_2 uS (Instr.storeAt 98 t4 t39)
      -- @ret[t4,t41]
      exact J.done (RetQ.ge (.cellA ag98 (by with_reducible repeat (first | exact Pick.here | apply Pick.there)) rfl (.tmp (.nil))) (by first | exact add_res (by omega) (by omega) (by symm; rw [decide_eq_true_iff]; omega) | exact add_res (by omega) (by omega) (by symm; rw [decide_eq_false_iff_not]; omega)))
    · skip
      refine J.bind ?_ -- @tv_1 bind tv_1 ([7])
      refine J.iteF ?_
      refine J.done ?_ -- then tv_1 = [t23]
      refine J.op (R.ldA ag98 (by with_reducible repeat (first | exact Pick.here | apply Pick.there)) rfl) ?_ -- @t39 vS (Instr.loadAt 98 t6)
      refine J.op (v := .bool false) R.not ?_
      refine J.stW sz98 (by with_reducible repeat (first | exact Pick.here | apply Pick.there)) rfl rfl rfl ?_ -- @tu_2 uS (Instr.storeAt 98 t4 t39)
      -- @ret[t4,t41]
      exact J.done (RetQ.ge (.cellA ag98 (by with_reducible repeat (first | exact Pick.here | apply Pick.there)) rfl (.tmp (.nil))) (by first | exact add_res (by omega) (by omega) (by symm; rw [decide_eq_true_iff]; omega) | exact add_res (by omega) (by omega) (by symm; rw [decide_eq_false_iff_not]; omega)))
  · skip
    refine J.op fa98_1 ?_
    refine J.op (R.ld o54 (by with_reducible repeat (first | exact Pick.here | apply Pick.there)) rfl) ?_ -- @t25 vS (Instr.loadAt 54 t24)
    refine J.op fa98_1 ?_
    refine J.op (R.ld o54 (by with_reducible repeat (first | exact Pick.here | apply Pick.there)) rfl) ?_ -- @t27 vS (Instr.loadAt 54 t26)
    refine J.opD R.lss (fun ht28 => ?_) (fun ht28 => ?_) -- @t28 binS .lss 54 (.tmp 25) (.tmp 27) t25 t27
    · skip
      refine J.bind ?_ -- @tv_1 bind tv_1 ([7])
      refine J.iteT ?_
      refine J.op fa98_0 ?_
      refine J.op (R.ld o54 (by with_reducible repeat (first | exact Pick.here | apply Pick.there)) rfl) ?_ -- @t30 vS (Instr.loadAt 54 t29)
      refine J.op (R.addU (n := 1)) ?_ -- @t31 binS .add 54 (.tmp 30) (.const (.int .u64 1)) t30 (.int .u64 1)
      refine J.op fa98_0 ?_
      refine J.st sz54 (by with_reducible repeat (first | exact Pick.here | apply Pick.there)) (by repeat (first | exact .zero | exact .nil | apply Upd.succ | apply UpdN.cons)) rfl ?_ -- @tu_1 uS (Instr.storeAt 54 t32 t31)
      refine J.bind ?_ -- @tv bind tv ([7])
      refine J.gopT rfl ?_
      refine J.op fa98_0 ?_
      refine J.gopT rfl ?_
      refine J.op (R.ld o54 (by with_reducible repeat (first | exact Pick.here | apply Pick.there)) rfl) ?_ -- @t36 vS (Instr.loadAt 54 t35)
      refine J.gopT rfl ?_
      refine J.opD R.eql (fun ht37 => ?_) (fun ht37 => ?_) -- @t37 binS .eql 54 (.tmp 36) (.const (.int .u64 0)) t36 (.int .u64 0)
      · skip
        refine J.op R.pickF ?_ -- @t38 pickS t23 (.bool true) t37
        refine J.done ?_ -- then tv = [t38]
        refine J.done ?_ -- then tv_1 = [(tv.headD undef)]
        refine J.op (R.ldA ag98 (by with_reducible repeat (first | exact Pick.here | apply Pick.there)) rfl) ?_ -- @t39 vS (Instr.loadAt 98 t6)
        refine J.op (v := .bool false) R.not ?_
        refine J.stW sz98 (by with_reducible repeat (first | exact Pick.here | apply Pick.there)) rfl rfl rfl ?_ -- @tu_2 uS (Instr.storeAt 98 t4 t39)
        -- @ret[t4,t41]
        exact J.done (RetQ.ge (.cellA ag98 (by with_reducible repeat (first | exact Pick.here | apply Pick.there)) rfl (.tmp (.nil))) (by first | exact add_res (by omega) (by omega) (by symm; rw [decide_eq_true_iff]; omega) | exact add_res (by omega) (by omega) (by symm; rw [decide_eq_false_iff_not]; omega)))
      · skip
        refine J.op R.pickF ?_ -- @t38 pickS t23 (.bool true) t37
        refine J.done ?_ -- then tv = [t38]
        refine J.done ?_ -- then tv_1 = [(tv.headD undef)]
        refine J.op (R.ldA ag98 (by with_reducible repeat (first | exact Pick.here | apply Pick.there)) rfl) ?_ -- @t39 vS (Instr.loadAt 98 t6)
        refine J.op (v := .bool true) R.not ?_
        refine J.stW sz98 (by with_reducible repeat (first | exact Pick.here | apply Pick.there)) rfl rfl rfl ?_ -- @tu_2 uS (Instr.storeAt 98 t4 t39)
        -- @ret[t4,t41]
        exact J.done (RetQ.ge (.cellA ag98 (by with_reducible repeat (first | exact Pick.here | apply Pick.there)) rfl (.tmp (.nil))) (by first | exact add_res (by omega) (by omega) (by symm; rw [decide_eq_true_iff]; omega) | exact add_res (by omega) (by omega) (by symm; rw [decide_eq_false_iff_not]; omega)))
    · skip
      refine J.bind ?_ -- @tv_1 bind tv_1 ([7])
      refine J.iteF ?_
      refine J.done ?_ -- then tv_1 = [t23]
      refine J.op (R.ldA ag98 (by with_reducible repeat (first | exact Pick.here | apply Pick.there)) rfl) ?_ -- @t39 vS (Instr.loadAt 98 t6)
      refine J.op (v := .bool true) R.not ?_
      refine J.stW sz98 (by with_reducible repeat (first | exact Pick.here | apply Pick.there)) rfl rfl rfl ?_ -- @tu_2 uS (Instr.storeAt 98 t4 t39)
      -- @ret[t4,t41]
      exact J.done (RetQ.ge (.cellA ag98 (by with_reducible repeat (first | exact Pick.here | apply Pick.there)) rfl (.tmp (.nil))) (by first | exact add_res (by omega) (by omega) (by symm; rw [decide_eq_true_iff]; omega) | exact add_res (by omega) (by omega) (by symm; rw [decide_eq_false_iff_not]; omega)))

/-- damper/fix.sign -/
theorem s126 (a : Int) (ha : i64R a) :
    FnE Try.prog 126 [.int .i64 a] (fun _ => True) (.int .i64 (sgn a)) := by
  refine fn_of_J (cx := cx126) hmix Try.func126 (by kernel_rfl) (eq126 _) fun w hw => ?_
  refine J.op (R.shr (by decide)) ?_ -- @t4 binS .shr 2 (.tmp 3) (.const (.int .u64 63)) a0 (.int .u64 63)
  -- @ret[t4]
  exact J.done (RetQ.ge (.tmp (.nil)) (by rw [show Nat.min (63 : Int).toNat IntKind.i64.bits = 63 from rfl, fdiv63 ha]; rfl))

/-- damper/fix.size -/
theorem s125 (a : Int) (ha : i64R a) :
    FnE Try.prog 125 [.int .i64 a] (fun _ => True) (.int .u64 ((a.natAbs : Nat) : Int)) := by
  refine fn_of_J (cx := cx125) hmix Try.func125 (by kernel_rfl) (eq125 _) fun w hw => ?_
  refine J.callE en126 (s126 a ha) rfl (fun _ _ _ => trivial) ?_ -- @t5 callS (.func (.func 126) #[] #[]) [a0]
  refine J.op (R.asI R.xor (xor_sgn ha)) ?_ -- @t6 binS .xor 2 (.tmp 3) (.tmp 5) a0 t5
  refine J.callE en126 (s126 a ha) rfl (fun _ _ _ => trivial) ?_ -- @t8 callS (.func (.func 126) #[] #[]) [a0]
  refine J.op R.sub ?_ -- @t9 binS .sub 2 (.tmp 6) (.tmp 8) t6 t8
  refine J.op cv2_54 ?_ -- @t10 vS (convert 2 54 t9)
  -- @ret[t10]
  exact J.done (RetQ.ge (.tmp (.nil)) (by simp only [mkRes, Value.int.injEq, true_and]; exact size_eq ha))

/-- damper/fix.Mul -/
theorem s86 (a b : Int) (ha : 0 ≤ a ∧ a ≤ 1099511627776) (hb : -4096 ≤ b ∧ b ≤ 4096) :
    FnE Try.prog 86 [.int .i64 a, .int .i64 b] (fun _ => True) (.tuple #[.int .i64 (a * b), .bool true]) := by
  refine fn_of_J (cx := cx86) hmix Try.func86 (by kernel_rfl) (eq86 _ _) fun w hw => ?_
  refine J.callE en125 (s125 a (by unfold i64R; omega)) rfl (fun _ _ _ => trivial) ?_ -- @t9 callS (.func (.func 125) #[] #[]) [a0]
  refine J.callE en125 (s125 b (by unfold i64R; omega)) rfl (fun _ _ _ => trivial) ?_ -- @t11 callS (.func (.func 125) #[] #[]) [a1]
  refine J.callE en52 (s52 a.natAbs b.natAbs (by omega) (by omega)) rfl (fun _ _ _ => trivial) ?_ -- @t12 callS (.func (.func 52) #[] #[]) [t9, t11]
  refine J.alloc z98 fun bt6 => ?_
  refine J.stW sz98 (by with_reducible repeat (first | exact Pick.here | apply Pick.there)) rfl rfl rfl ?_ -- @tu uS (Instr.storeAt 98 t6 t12)
  refine J.op R.xor ?_ -- @t15 binS .xor 2 (.tmp 13) (.tmp 14) a0 a1
  refine J.callE en126 (s126 (IntKind.i64.wrap ((BitVec.ofInt IntKind.i64.bits a ^^^ BitVec.ofInt IntKind.i64.bits b).toNat : Int)) (wrapI_range _)) rfl (fun _ _ _ => trivial) ?_
  rw [show sgn (IntKind.i64.wrap ((BitVec.ofInt IntKind.i64.bits a ^^^ BitVec.ofInt IntKind.i64.bits b).toNat : Int)) = (if b < 0 then -1 else 0) from sign_mul (by omega) (by omega)]
  obtain ⟨hp1, hp2⟩ := mul_abs (a := a) (b := b) ha hb
  generalize hP : a.natAbs * b.natAbs = P at hp1 hp2 ⊢
  obtain ⟨mn, hmn, hcase⟩ : ∃ mn : Int, (if b < 0 then (-1 : Int) else 0) = mn ∧ ((b < 0 ∧ mn = -1) ∨ (0 ≤ b ∧ mn = 0)) := by
    by_cases h : b < 0
    · exact ⟨-1, by rw [if_pos h], .inl ⟨h, rfl⟩⟩
    · exact ⟨0, by rw [if_neg h], .inr ⟨by omega, rfl⟩⟩
  rw [hmn] -- @t16 callS (.func (.func 126) #[] #[]) [t15]
  refine J.bind ?_ -- @tv bind tv ([28])
  refine J.op fa98_0 ?_
  refine J.op (R.ld o54 (by with_reducible repeat (first | exact Pick.here | apply Pick.there)) rfl) ?_ -- @t18 vS (Instr.loadAt 54 t17)
  refine J.opDF R.neq (by omega) ?_ -- @t19
  refine J.gopT rfl ?_
  refine J.op fa98_1 ?_
  refine J.gopT rfl ?_
  refine J.op (R.ld o54 (by with_reducible repeat (first | exact Pick.here | apply Pick.there)) rfl) ?_ -- @t22 vS (Instr.loadAt 54 t21)
  refine J.gopT rfl ?_
  refine J.op R.pure ?_
  refine J.gopT rfl ?_
  refine J.op (R.asI R.neg (v := -mn) (by rw [i64_in _ (by omega)]; omega)) ?_ -- @t24 vS (Op.unary .neg t23)
  refine J.gopT rfl ?_
  refine J.op (R.asI cv2_54 (v := -mn) (u64_in _ (by omega))) ?_ -- @t25 vS (convert 2 54 t24)
  refine J.gopT rfl ?_
  refine J.op (R.asI R.add (v := 9223372036854775807 - mn) (by rw [u64_in _ (by omega)]; omega)) ?_ -- @t26 binS .add 54 (.const (.int .u64 9223372036854775807)) (.tmp 25) (.int .u64 9223372036854775807) t25
  refine J.gopT rfl ?_
  refine J.opDF R.gtr (by omega) ?_ -- @t27
  refine J.op R.pickF ?_ -- @t28 pickS t19 (.bool true) t27
  refine J.done ?_ -- then tv = [t28]
  refine J.iteF ?_
  refine J.op fa98_1 ?_
  refine J.op (R.ld o54 (by with_reducible repeat (first | exact Pick.here | apply Pick.there)) rfl) ?_ -- @t30 vS (Instr.loadAt 54 t29)
  refine J.op (R.asI cv54_2 (v := (P : Int)) (by rw [i64_in _ (by omega)]; omega)) ?_ -- @t31 vS (convert 54 2 t30)
  refine J.op (R.asI R.xor (xor_m (by unfold i64R; omega) (by omega))) ?_ -- @t33 binS .xor 2 (.tmp 31) (.tmp 32) t31 t16
  refine J.op (R.asI R.sub (v := a * b) (by rw [hp2]; split <;> (rw [i64_in _ (by omega)]; (try split) <;> omega))) ?_ -- @t35 binS .sub 2 (.tmp 33) (.tmp 34) t33 t16
  -- @ret[t35,(.booltrue)]
  exact J.done (RetQ.ge (.tmp (.tmp (.nil))) (by first | rfl | (simp [mkRes, *]; done) | (simp_all [mkRes]; done) | (simp_all [mkRes]; first | omega | (rw [decide_eq_false_iff_not]; omega) | (rw [decide_eq_true_iff]; omega)) | (simp only [mkRes]; (repeat' split) <;> first | rfl | omega | (simp_all; done) | (simp_all; omega))))

/-- damper/fix.Add -/
theorem s87 (a b : Int) (ha : i64R a) (hb : i64R b) (hs : i64R (a + b)) :
    FnE Try.prog 87 [.int .i64 a, .int .i64 b] (fun _ => True) (.tuple #[.int .i64 (a + b), .bool true]) := by
  refine fn_of_J (cx := cx87) hmix Try.func87 (by kernel_rfl) (eq87 _ _) fun w hw => ?_
  refine J.op (R.add64 hs) ?_ -- @t9 binS .add 2 (.tmp 7) (.tmp 8) a0 a1
  refine J.op R.xor ?_ -- @t12 binS .xor 2 (.tmp 10) (.tmp 11) a0 t9
  refine J.op R.xor ?_ -- @t15 binS .xor 2 (.tmp 13) (.tmp 14) a1 t9
  refine J.op R.and ?_ -- @t16 binS .and 2 (.tmp 12) (.tmp 15) t12 t15
  refine J.opDF R.lss (by exact add_no ha hb hs) ?_ -- @t17
  refine J.iteF ?_
  -- @ret[t9,(.booltrue)]
  exact J.done (RetQ.ge (.tmp (.tmp (.nil))) (by first | rfl | (simp [mkRes, *]; done) | (simp_all [mkRes]; done) | (simp_all [mkRes]; first | omega | (rw [decide_eq_false_iff_not]; omega) | (rw [decide_eq_true_iff]; omega)) | (simp only [mkRes]; (repeat' split) <;> first | rfl | omega | (simp_all; done) | (simp_all; omega))))
end Go.Proofs.Ytipgdalebkhgpaa
