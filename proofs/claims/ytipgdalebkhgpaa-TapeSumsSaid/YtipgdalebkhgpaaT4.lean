/-
  Contracts of functions.
-/
import Derived.Test.YtipgdalebkhgpaaTerms1
import Derived.Test.YtipgdalebkhgpaaTerms2
import Derived.Test.YtipgdalebkhgpaaTab
import Derived.Test.YtipgdalebkhgpaaModSums
import Derived.Test.YtipgdalebkhgpaaT3
import Derived.Test.YtipgdalebkhgpaaT1
import Derived.Test.YtipgdalebkhgpaaB2
import Derived.Test.YtipgdalebkhgpaaV1
set_option maxRecDepth 100000
set_option maxHeartbeats 4000000
set_option linter.unusedVariables false
set_option linter.unusedSimpArgs false
namespace Go.Proofs.Ytipgdalebkhgpaa
open Go Go.RowKit Fw
/-- damper/tape.Merge -/
theorem s16 (a b : Bar) (ha : Bok a) (hb : Bok b) :
    FnE Try.prog 16 [.agg a.cells.toArray, .agg b.cells.toArray] (fun _ => True) (.agg (mergeM a b).cells.toArray) := by
  refine fn_of_J (cx := cx16) hmix Try.func16 (by kernel_rfl) (eq16 _ _) fun w hw => ?_
  have av := ha.vol
  have am := ha.mean
  have an := ha.n
  have bv := hb.vol
  have bm := hb.mean
  have bn := hb.n
  have hmv := mergeV_le ha hb
  have hmm := merge_mean ha hb
  have hp1 : a.mean.toNat * a.vol.toNat ≤ 1099511627776 * 1099511627776 := Nat.mul_le_mul (by omega) (by omega)
  have hp2 : b.mean.toNat * b.vol.toNat ≤ 1099511627776 * 1099511627776 := Nat.mul_le_mul (by omega) (by omega)
  have hmb : mergeV a b ≤ 2199023255552 * 1099511627776 := by unfold mergeV; omega
  refine J.boxA fun bt2 => ?_
  refine J.boxA fun bt3 => ?_
  refine J.alloc z32 fun bt4 => ?_
  refine J.bind ?_ -- @tv bind tv ([])
  refine J.block ?_
  refine J.op fa32_6 ?_
  refine J.op (R.ld o3 (by with_reducible repeat (first | exact Pick.here | apply Pick.there)) rfl) ?_ -- @t9 vS (Instr.loadAt 3 t8)
  refine J.opD R.eql (fun ht10 => ?_) (fun ht10 => ?_) -- @t10 binS .eql 3 (.tmp 9) (.const (.int .i64 0)) t9 (.int .i64 0)
  · skip
    refine J.iteT ?_
    refine J.op (R.ldA ag32 (by with_reducible repeat (first | exact Pick.here | apply Pick.there)) rfl) ?_ -- @t11 vS (Instr.loadAt 32 t3)
    refine J.stW sz32 (by with_reducible repeat (first | exact Pick.here | apply Pick.there)) rfl rfl rfl ?_ -- @tu uS (Instr.storeAt 32 t4 t11)
    -- @ret[t4]
    exact J.done (RetQ.ge (.cellA ag32 (by with_reducible repeat (first | exact Pick.here | apply Pick.there)) rfl (.nil)) (by rw [show mergeM a b = b from if_pos ht10]; rfl))
  · skip
    refine J.iteF ?_
    refine J.op fa32_6 ?_
    refine J.op (R.ld o3 (by with_reducible repeat (first | exact Pick.here | apply Pick.there)) rfl) ?_ -- @t14 vS (Instr.loadAt 3 t13)
    refine J.opD R.eql (fun ht15 => ?_) (fun ht15 => ?_) -- @t15 binS .eql 3 (.tmp 14) (.const (.int .i64 0)) t14 (.int .i64 0)
    · skip
      refine J.iteT ?_
      refine J.op (R.ldA ag32 (by with_reducible repeat (first | exact Pick.here | apply Pick.there)) rfl) ?_ -- @t16 vS (Instr.loadAt 32 t2)
      refine J.stW sz32 (by with_reducible repeat (first | exact Pick.here | apply Pick.there)) rfl rfl rfl ?_ -- @tu_1 uS (Instr.storeAt 32 t4 t16)
      -- @ret[t4]#2
      exact J.done (RetQ.ge (.cellA ag32 (by with_reducible repeat (first | exact Pick.here | apply Pick.there)) rfl (.nil)) (by rw [show mergeM a b = a by unfold mergeM; rw [if_neg ht10, if_pos ht15]]; rfl))
    · skip
      refine J.iteF ?_
      refine J.done ?_ -- then tv = []
      refine J.draw ?_
      refine J.op fa32_7 ?_
      refine J.op (R.ld o2 (by with_reducible repeat (first | exact Pick.here | apply Pick.there)) rfl) ?_ -- @t19 vS (Instr.loadAt 2 t18)
      refine J.op (R.asI cv2_54 (v := ((a.mean.toNat : Nat) : Int)) (by rw [u64_in _ (by omega)]; omega)) ?_ -- @t20 vS (convert 2 54 t19)
      refine J.op fa32_5 ?_
      refine J.op (R.ld o2 (by with_reducible repeat (first | exact Pick.here | apply Pick.there)) rfl) ?_ -- @t22 vS (Instr.loadAt 2 t21)
      refine J.op (R.asI cv2_54 (v := ((a.vol.toNat : Nat) : Int)) (by rw [u64_in _ (by omega)]; omega)) ?_ -- @t23 vS (convert 2 54 t22)
      refine J.op fa32_7 ?_
      refine J.op (R.ld o2 (by with_reducible repeat (first | exact Pick.here | apply Pick.there)) rfl) ?_ -- @t26 vS (Instr.loadAt 2 t25)
      refine J.op (R.asI cv2_54 (v := ((b.mean.toNat : Nat) : Int)) (by rw [u64_in _ (by omega)]; omega)) ?_ -- @t27 vS (convert 2 54 t26)
      refine J.op fa32_5 ?_
      refine J.op (R.ld o2 (by with_reducible repeat (first | exact Pick.here | apply Pick.there)) rfl) ?_ -- @t29 vS (Instr.loadAt 2 t28)
      refine J.op (R.asI cv2_54 (v := ((b.vol.toNat : Nat) : Int)) (by rw [u64_in _ (by omega)]; omega)) ?_ -- @t30 vS (convert 2 54 t29)
      refine J.alt ?_ ?_
      · skip
        refine J.callE en52 (s52 a.mean.toNat a.vol.toNat (by omega) (by omega)) rfl (fun _ _ _ => trivial) ?_ -- @t24 callS (.func (.func 52) #[] #[]) [t20, t23]
        refine J.chkR (R.asI cv2_54 (v := ((b.vol.toNat : Nat) : Int)) (by rw [u64_in _ (by omega)]; omega)) ?_ -- @chk:t30 vS (convert 2 54 t29)
        refine J.chkR (R.ld o2 (by with_reducible repeat (first | exact Pick.here | apply Pick.there)) rfl) ?_ -- @chk:t29 vS (Instr.loadAt 2 t28)
        refine J.chkR fa32_5 ?_ -- @chk:t28 vS (Instr.fieldAt 32 t3 5)
        refine J.chkR (R.asI cv2_54 (v := ((b.mean.toNat : Nat) : Int)) (by rw [u64_in _ (by omega)]; omega)) ?_ -- @chk:t27 vS (convert 2 54 t26)
        refine J.chkR (R.ld o2 (by with_reducible repeat (first | exact Pick.here | apply Pick.there)) rfl) ?_ -- @chk:t26 vS (Instr.loadAt 2 t25)
        refine J.chkR fa32_7 ?_ -- @chk:t25 vS (Instr.fieldAt 32 t3 7)
        refine J.alt ?_ ?_
        · skip
          refine J.callE en52 (s52 b.mean.toNat b.vol.toNat (by omega) (by omega)) rfl (fun _ _ _ => trivial) ?_ -- @t31 callS (.func (.func 52) #[] #[]) [t27, t30]
          refine J.alt ?_ ?_
          · skip
            refine J.callE en53 (s53 (a.mean.toNat * a.vol.toNat) (b.mean.toNat * b.vol.toNat) (by omega) (by omega)) rfl (fun _ _ _ => trivial) ?_
            rw [show (a.mean.toNat * a.vol.toNat + b.mean.toNat * b.vol.toNat) % 340282366920938463463374607431768211456 = mergeV a b from Nat.mod_eq_of_lt (by omega)] -- @t32 callS (.func (.func 53) #[] #[]) [t24, t31]
            refine J.op (R.ext rfl) ?_ -- @t33 vS (Instr.extract t32 0)
            refine J.op (R.ext rfl) ?_ -- @t34 vS (Instr.extract t32 1)
            refine J.alloc z98 fun bt5 => ?_
            refine J.chkR (R.ext rfl) ?_ -- @chk:t34 vS (Instr.extract t32 1)
            refine J.chkR (R.ext rfl) ?_ -- @chk:t33 vS (Instr.extract t32 0)
            refine J.stW sz98 (by with_reducible repeat (first | exact Pick.here | apply Pick.there)) rfl rfl rfl ?_ -- @tu_2 uS (Instr.storeAt 98 t5 t33)
            refine J.chkR (R.ext rfl) ?_ -- @chk:t34 vS (Instr.extract t32 1)
            refine J.draw ?_
            refine J.op fa32_2 ?_
            refine J.op (R.ld o2 (by with_reducible repeat (first | exact Pick.here | apply Pick.there)) rfl) ?_ -- @t36 vS (Instr.loadAt 2 t35)
            refine J.op fa32_2 ?_
            refine J.op (R.ld o2 (by with_reducible repeat (first | exact Pick.here | apply Pick.there)) rfl) ?_ -- @t38 vS (Instr.loadAt 2 t37)
            refine J.op R.maxI ?_ -- @t39 bltS .max #[2, 2] 2 #[false, false] [t36, t38]
            refine J.op fa32_3 ?_
            refine J.op (R.ld o2 (by with_reducible repeat (first | exact Pick.here | apply Pick.there)) rfl) ?_ -- @t41 vS (Instr.loadAt 2 t40)
            refine J.op fa32_3 ?_
            refine J.op (R.ld o2 (by with_reducible repeat (first | exact Pick.here | apply Pick.there)) rfl) ?_ -- @t43 vS (Instr.loadAt 2 t42)
            refine J.op R.minI ?_ -- @t44 bltS .min #[2, 2] 2 #[false, false] [t41, t43]
            refine J.op fa32_4 ?_
            refine J.op (R.ld o2 (by with_reducible repeat (first | exact Pick.here | apply Pick.there)) rfl) ?_ -- @t46 vS (Instr.loadAt 2 t45)
            refine J.op fa32_2 ?_
            refine J.st sz2 (by with_reducible repeat (first | exact Pick.here | apply Pick.there)) (by repeat (first | exact .zero | exact .nil | apply Upd.succ | apply UpdN.cons)) rfl ?_ -- @tu_3 uS (Instr.storeAt 2 t47 t39)
            refine J.chkR (R.ld o2 (by with_reducible repeat (first | exact Pick.here | apply Pick.there)) rfl) ?_ -- @chk:t46 vS (Instr.loadAt 2 t45)
            refine J.chkR fa32_4 ?_ -- @chk:t45 vS (Instr.fieldAt 32 t3 4)
            refine J.chkR R.minI ?_ -- @chk:t44 bltS .min #[2, 2] 2 #[false, false] [t41, t43]
            refine J.chkR (R.ld o2 (by with_reducible repeat (first | exact Pick.here | apply Pick.there)) rfl) ?_ -- @chk:t43 vS (Instr.loadAt 2 t42)
            refine J.chkR fa32_3 ?_ -- @chk:t42 vS (Instr.fieldAt 32 t3 3)
            refine J.op fa32_3 ?_
            refine J.st sz2 (by with_reducible repeat (first | exact Pick.here | apply Pick.there)) (by repeat (first | exact .zero | exact .nil | apply Upd.succ | apply UpdN.cons)) rfl ?_ -- @tu_4 uS (Instr.storeAt 2 t48 t44)
            refine J.chkR (R.ld o2 (by with_reducible repeat (first | exact Pick.here | apply Pick.there)) rfl) ?_ -- @chk:t46 vS (Instr.loadAt 2 t45)
            refine J.chkR fa32_4 ?_ -- @chk:t45 vS (Instr.fieldAt 32 t3 4)
            refine J.op fa32_4 ?_
            refine J.st sz2 (by with_reducible repeat (first | exact Pick.here | apply Pick.there)) (by repeat (first | exact .zero | exact .nil | apply Upd.succ | apply UpdN.cons)) rfl ?_ -- @tu_5 uS (Instr.storeAt 2 t49 t46)
            refine J.op fa32_5 ?_
            refine J.op (R.ld o2 (by with_reducible repeat (first | exact Pick.here | apply Pick.there)) rfl) ?_ -- @t51 vS (Instr.loadAt 2 t50)
            refine J.op fa32_5 ?_
            refine J.op (R.ld o2 (by with_reducible repeat (first | exact Pick.here | apply Pick.there)) rfl) ?_ -- @t53 vS (Instr.loadAt 2 t52)
            refine J.op (R.add64 (by omega)) ?_ -- @t54 binS .add 2 (.tmp 51) (.tmp 53) t51 t53
            refine J.op fa32_5 ?_
            refine J.st sz2 (by with_reducible repeat (first | exact Pick.here | apply Pick.there)) (by repeat (first | exact .zero | exact .nil | apply Upd.succ | apply UpdN.cons)) rfl ?_ -- @tu_6 uS (Instr.storeAt 2 t55 t54)
            refine J.op fa32_6 ?_
            refine J.op (R.ld o3 (by with_reducible repeat (first | exact Pick.here | apply Pick.there)) rfl) ?_ -- @t57 vS (Instr.loadAt 3 t56)
            refine J.op fa32_6 ?_
            refine J.op (R.ld o3 (by with_reducible repeat (first | exact Pick.here | apply Pick.there)) rfl) ?_ -- @t59 vS (Instr.loadAt 3 t58)
            refine J.op (R.add64 (by omega)) ?_ -- @t60 binS .add 3 (.tmp 57) (.tmp 59) t57 t59
            refine J.op fa32_6 ?_
            refine J.st sz3 (by with_reducible repeat (first | exact Pick.here | apply Pick.there)) (by repeat (first | exact .zero | exact .nil | apply Upd.succ | apply UpdN.cons)) rfl ?_ -- @tu_7 uS (Instr.storeAt 3 t61 t60)
            refine J.op fa32_7 ?_
            refine J.st sz2 (by with_reducible repeat (first | exact Pick.here | apply Pick.there)) (by repeat (first | exact .zero | exact .nil | apply Upd.succ | apply UpdN.cons)) rfl ?_ -- @tu_8 uS (Instr.storeAt 2 t62 (.int .i64 0))
            refine J.op fa32_5 ?_
            refine J.op (R.ld o2 (by with_reducible repeat (first | exact Pick.here | apply Pick.there)) rfl) ?_ -- @t64 vS (Instr.loadAt 2 t63)
            refine J.opD R.gtr (fun ht65 => ?_) (fun ht65 => ?_) -- @t65 binS .gtr 2 (.tmp 64) (.const (.int .i64 0)) t64 (.int .i64 0)
            · skip
              refine J.bind ?_ -- @tv_1 bind tv_1 ([])
              refine J.iteT ?_
              refine J.op (R.ldA ag98 (by with_reducible repeat (first | exact Pick.here | apply Pick.there)) rfl) ?_ -- @t66 vS (Instr.loadAt 98 t5)
              refine J.op fa32_5 ?_
              refine J.op (R.ld o2 (by with_reducible repeat (first | exact Pick.here | apply Pick.there)) rfl) ?_ -- @t68 vS (Instr.loadAt 2 t67)
              refine J.callE en54 (s54 (mergeV a b) (a.vol + b.vol) (by omega) (by omega) (Nat.le_trans hmm (by decide))) rfl (fun _ _ _ => trivial) ?_ -- @t69 callS (.func (.func 54) #[] #[]) [t66, t68]
              refine J.op fa32_7 ?_
              refine J.st sz2 (by with_reducible repeat (first | exact Pick.here | apply Pick.there)) (by repeat (first | exact .zero | exact .nil | apply Upd.succ | apply UpdN.cons)) rfl ?_ -- @tu_9 uS (Instr.storeAt 2 t70 t69)
              refine J.done ?_ -- then tv_1 = []
              refine J.op (R.ldA ag32 (by with_reducible repeat (first | exact Pick.here | apply Pick.there)) rfl) ?_ -- @t71 vS (Instr.loadAt 32 t2)
              refine J.stW sz32 (by with_reducible repeat (first | exact Pick.here | apply Pick.there)) rfl rfl rfl ?_ -- @tu_10 uS (Instr.storeAt 32 t4 t71)
              -- @ret[t4]#3
              exact J.done (RetQ.ge (.cellA ag32 (by with_reducible repeat (first | exact Pick.here | apply Pick.there)) rfl (.nil)) (by unfold mergeM; rw [if_neg ht10, if_neg ht15]; first | (rw [if_pos (by omega)]; rfl) | (rw [if_neg (by omega)]; rfl)))
            · skip
              refine J.bind ?_ -- @tv_1 bind tv_1 ([])
              refine J.iteF ?_
              refine J.done ?_ -- then tv_1 = []
              refine J.op (R.ldA ag32 (by with_reducible repeat (first | exact Pick.here | apply Pick.there)) rfl) ?_ -- @t71 vS (Instr.loadAt 32 t2)
              refine J.stW sz32 (by with_reducible repeat (first | exact Pick.here | apply Pick.there)) rfl rfl rfl ?_ -- @tu_10 uS (Instr.storeAt 32 t4 t71)
              -- @ret[t4]#4
              exact J.done (RetQ.ge (.cellA ag32 (by with_reducible repeat (first | exact Pick.here | apply Pick.there)) rfl (.nil)) (by unfold mergeM; rw [if_neg ht10, if_neg ht15]; first | (rw [if_pos (by omega)]; rfl) | (rw [if_neg (by omega)]; rfl)))
          · skip
            refine J.alloc z98 fun bt5_1 => ?_
            refine J.callE en53 (s53 (a.mean.toNat * a.vol.toNat) (b.mean.toNat * b.vol.toNat) (by omega) (by omega)) rfl (fun _ _ _ => trivial) ?_
            rw [show (a.mean.toNat * a.vol.toNat + b.mean.toNat * b.vol.toNat) % 340282366920938463463374607431768211456 = mergeV a b from Nat.mod_eq_of_lt (by omega)] -- @t32_1 callS (.func (.func 53) #[] #[]) [t24, t31]
            refine J.op (R.ext rfl) ?_ -- @t33_1 vS (Instr.extract t32_1 0)
            refine J.op (R.ext rfl) ?_ -- @t34_1 vS (Instr.extract t32_1 1)
            refine J.stW sz98 (by with_reducible repeat (first | exact Pick.here | apply Pick.there)) rfl rfl rfl ?_ -- @tu_11 uS (Instr.storeAt 98 t5_1 t33_1)
            refine J.chkR (R.ext rfl) ?_ -- @chk:t34_1 vS (Instr.extract t32_1 1)
            refine J.draw ?_
            refine J.op fa32_2 ?_
            refine J.op (R.ld o2 (by with_reducible repeat (first | exact Pick.here | apply Pick.there)) rfl) ?_ -- @t36_1 vS (Instr.loadAt 2 t35_1)
            refine J.op fa32_2 ?_
            refine J.op (R.ld o2 (by with_reducible repeat (first | exact Pick.here | apply Pick.there)) rfl) ?_ -- @t38_1 vS (Instr.loadAt 2 t37_1)
            refine J.op R.maxI ?_ -- @t39_1 bltS .max #[2, 2] 2 #[false, false] [t36_1, t38_1]
            refine J.op fa32_3 ?_
            refine J.op (R.ld o2 (by with_reducible repeat (first | exact Pick.here | apply Pick.there)) rfl) ?_ -- @t41_1 vS (Instr.loadAt 2 t40_1)
            refine J.op fa32_3 ?_
            refine J.op (R.ld o2 (by with_reducible repeat (first | exact Pick.here | apply Pick.there)) rfl) ?_ -- @t43_1 vS (Instr.loadAt 2 t42_1)
            refine J.op R.minI ?_ -- @t44_1 bltS .min #[2, 2] 2 #[false, false] [t41_1, t43_1]
            refine J.op fa32_4 ?_
            refine J.op (R.ld o2 (by with_reducible repeat (first | exact Pick.here | apply Pick.there)) rfl) ?_ -- @t46_1 vS (Instr.loadAt 2 t45_1)
            refine J.op fa32_2 ?_
            refine J.st sz2 (by with_reducible repeat (first | exact Pick.here | apply Pick.there)) (by repeat (first | exact .zero | exact .nil | apply Upd.succ | apply UpdN.cons)) rfl ?_ -- @tu_12 uS (Instr.storeAt 2 t47_1 t39_1)
            refine J.chkR (R.ld o2 (by with_reducible repeat (first | exact Pick.here | apply Pick.there)) rfl) ?_ -- @chk:t46_1 vS (Instr.loadAt 2 t45_1)
            refine J.chkR fa32_4 ?_ -- @chk:t45_1 vS (Instr.fieldAt 32 t3 4)
            refine J.chkR R.minI ?_ -- @chk:t44_1 bltS .min #[2, 2] 2 #[false, false] [t41_1, t43_1]
            refine J.chkR (R.ld o2 (by with_reducible repeat (first | exact Pick.here | apply Pick.there)) rfl) ?_ -- @chk:t43_1 vS (Instr.loadAt 2 t42_1)
            refine J.chkR fa32_3 ?_ -- @chk:t42_1 vS (Instr.fieldAt 32 t3 3)
            refine J.op fa32_3 ?_
            refine J.st sz2 (by with_reducible repeat (first | exact Pick.here | apply Pick.there)) (by repeat (first | exact .zero | exact .nil | apply Upd.succ | apply UpdN.cons)) rfl ?_ -- @tu_13 uS (Instr.storeAt 2 t48_1 t44_1)
            refine J.chkR (R.ld o2 (by with_reducible repeat (first | exact Pick.here | apply Pick.there)) rfl) ?_ -- @chk:t46_1 vS (Instr.loadAt 2 t45_1)
            refine J.chkR fa32_4 ?_ -- @chk:t45_1 vS (Instr.fieldAt 32 t3 4)
            refine J.op fa32_4 ?_
            refine J.st sz2 (by with_reducible repeat (first | exact Pick.here | apply Pick.there)) (by repeat (first | exact .zero | exact .nil | apply Upd.succ | apply UpdN.cons)) rfl ?_ -- @tu_14 uS (Instr.storeAt 2 t49_1 t46_1)
            refine J.op fa32_5 ?_
            refine J.op (R.ld o2 (by with_reducible repeat (first | exact Pick.here | apply Pick.there)) rfl) ?_ -- @t51_1 vS (Instr.loadAt 2 t50_1)
            refine J.op fa32_5 ?_
            refine J.op (R.ld o2 (by with_reducible repeat (first | exact Pick.here | apply Pick.there)) rfl) ?_ -- @t53_1 vS (Instr.loadAt 2 t52_1)
            refine J.op (R.add64 (by omega)) ?_ -- @t54_1 binS .add 2 (.tmp 51) (.tmp 53) t51_1 t53_1
            refine J.op fa32_5 ?_
            refine J.st sz2 (by with_reducible repeat (first | exact Pick.here | apply Pick.there)) (by repeat (first | exact .zero | exact .nil | apply Upd.succ | apply UpdN.cons)) rfl ?_ -- @tu_15 uS (Instr.storeAt 2 t55_1 t54_1)
            refine J.op fa32_6 ?_
            refine J.op (R.ld o3 (by with_reducible repeat (first | exact Pick.here | apply Pick.there)) rfl) ?_ -- @t57_1 vS (Instr.loadAt 3 t56_1)
            refine J.op fa32_6 ?_
            refine J.op (R.ld o3 (by with_reducible repeat (first | exact Pick.here | apply Pick.there)) rfl) ?_ -- @t59_1 vS (Instr.loadAt 3 t58_1)
            refine J.op (R.add64 (by omega)) ?_ -- @t60_1 binS .add 3 (.tmp 57) (.tmp 59) t57_1 t59_1
            refine J.op fa32_6 ?_
            refine J.st sz3 (by with_reducible repeat (first | exact Pick.here | apply Pick.there)) (by repeat (first | exact .zero | exact .nil | apply Upd.succ | apply UpdN.cons)) rfl ?_ -- @tu_16 uS (Instr.storeAt 3 t61_1 t60_1)
            refine J.op fa32_7 ?_
            refine J.st sz2 (by with_reducible repeat (first | exact Pick.here | apply Pick.there)) (by repeat (first | exact .zero | exact .nil | apply Upd.succ | apply UpdN.cons)) rfl ?_ -- @tu_17 uS (Instr.storeAt 2 t62_1 (.int .i64 0))
            refine J.op fa32_5 ?_
            refine J.op (R.ld o2 (by with_reducible repeat (first | exact Pick.here | apply Pick.there)) rfl) ?_ -- @t64_1 vS (Instr.loadAt 2 t63_1)
            refine J.opD R.gtr (fun ht65_1 => ?_) (fun ht65_1 => ?_) -- @t65_1 binS .gtr 2 (.tmp 64) (.const (.int .i64 0)) t64_1 (.int .i64 0)
            · skip
              refine J.bind ?_ -- @tv_2 bind tv_2 ([])
              refine J.iteT ?_
              refine J.op (R.ldA ag98 (by with_reducible repeat (first | exact Pick.here | apply Pick.there)) rfl) ?_ -- @t66_1 vS (Instr.loadAt 98 t5_1)
              refine J.op fa32_5 ?_
              refine J.op (R.ld o2 (by with_reducible repeat (first | exact Pick.here | apply Pick.there)) rfl) ?_ -- @t68_1 vS (Instr.loadAt 2 t67_1)
              refine J.callE en54 (s54 (mergeV a b) (a.vol + b.vol) (by omega) (by omega) (Nat.le_trans hmm (by decide))) rfl (fun _ _ _ => trivial) ?_ -- @t69_1 callS (.func (.func 54) #[] #[]) [t66_1, t68_1]
              refine J.op fa32_7 ?_
              refine J.st sz2 (by with_reducible repeat (first | exact Pick.here | apply Pick.there)) (by repeat (first | exact .zero | exact .nil | apply Upd.succ | apply UpdN.cons)) rfl ?_ -- @tu_18 uS (Instr.storeAt 2 t70_1 t69_1)
              refine J.done ?_ -- then tv_2 = []
              refine J.op (R.ldA ag32 (by with_reducible repeat (first | exact Pick.here | apply Pick.there)) rfl) ?_ -- @t71_1 vS (Instr.loadAt 32 t2)
              refine J.stW sz32 (by with_reducible repeat (first | exact Pick.here | apply Pick.there)) rfl rfl rfl ?_ -- @tu_19 uS (Instr.storeAt 32 t4 t71_1)
              -- @ret[t4]#5
              exact J.done (RetQ.ge (.cellA ag32 (by with_reducible repeat (first | exact Pick.here | apply Pick.there)) rfl (.nil)) (by unfold mergeM; rw [if_neg ht10, if_neg ht15]; first | (rw [if_pos (by omega)]; rfl) | (rw [if_neg (by omega)]; rfl)))
            · skip
              refine J.bind ?_ -- @tv_2 bind tv_2 ([])
              refine J.iteF ?_
              refine J.done ?_ -- then tv_2 = []
              refine J.op (R.ldA ag32 (by with_reducible repeat (first | exact Pick.here | apply Pick.there)) rfl) ?_ -- @t71_1 vS (Instr.loadAt 32 t2)
              refine J.stW sz32 (by with_reducible repeat (first | exact Pick.here | apply Pick.there)) rfl rfl rfl ?_ -- @tu_19 uS (Instr.storeAt 32 t4 t71_1)
              -- @ret[t4]#6
              exact J.done (RetQ.ge (.cellA ag32 (by with_reducible repeat (first | exact Pick.here | apply Pick.there)) rfl (.nil)) (by unfold mergeM; rw [if_neg ht10, if_neg ht15]; first | (rw [if_pos (by omega)]; rfl) | (rw [if_neg (by omega)]; rfl)))
        · skip
          refine J.alloc z98 fun bt5_2 => ?_
          refine J.chkR (R.asI cv2_54 (v := ((b.vol.toNat : Nat) : Int)) (by rw [u64_in _ (by omega)]; omega)) ?_ -- @chk:t30 vS (convert 2 54 t29)
          refine J.chkR (R.ld o2 (by with_reducible repeat (first | exact Pick.here | apply Pick.there)) rfl) ?_ -- @chk:t29 vS (Instr.loadAt 2 t28)
          refine J.chkR fa32_5 ?_ -- @chk:t28 vS (Instr.fieldAt 32 t3 5)
          refine J.chkR (R.asI cv2_54 (v := ((b.mean.toNat : Nat) : Int)) (by rw [u64_in _ (by omega)]; omega)) ?_ -- @chk:t27 vS (convert 2 54 t26)
          refine J.chkR (R.ld o2 (by with_reducible repeat (first | exact Pick.here | apply Pick.there)) rfl) ?_ -- @chk:t26 vS (Instr.loadAt 2 t25)
          refine J.chkR fa32_7 ?_ -- @chk:t25 vS (Instr.fieldAt 32 t3 7)
          refine J.callE en52 (s52 b.mean.toNat b.vol.toNat (by omega) (by omega)) rfl (fun _ _ _ => trivial) ?_ -- @t31_1 callS (.func (.func 52) #[] #[]) [t27, t30]
          refine J.callE en53 (s53 (a.mean.toNat * a.vol.toNat) (b.mean.toNat * b.vol.toNat) (by omega) (by omega)) rfl (fun _ _ _ => trivial) ?_
          rw [show (a.mean.toNat * a.vol.toNat + b.mean.toNat * b.vol.toNat) % 340282366920938463463374607431768211456 = mergeV a b from Nat.mod_eq_of_lt (by omega)] -- @t32_2 callS (.func (.func 53) #[] #[]) [t24, t31_1]
          refine J.op (R.ext rfl) ?_ -- @t33_2 vS (Instr.extract t32_2 0)
          refine J.op (R.ext rfl) ?_ -- @t34_2 vS (Instr.extract t32_2 1)
          refine J.stW sz98 (by with_reducible repeat (first | exact Pick.here | apply Pick.there)) rfl rfl rfl ?_ -- @tu_20 uS (Instr.storeAt 98 t5_2 t33_2)
          refine J.chkR (R.ext rfl) ?_ -- @chk:t34_2 vS (Instr.extract t32_2 1)
          refine J.draw ?_
          refine J.op fa32_2 ?_
          refine J.op (R.ld o2 (by with_reducible repeat (first | exact Pick.here | apply Pick.there)) rfl) ?_ -- @t36_2 vS (Instr.loadAt 2 t35_2)
          refine J.op fa32_2 ?_
          refine J.op (R.ld o2 (by with_reducible repeat (first | exact Pick.here | apply Pick.there)) rfl) ?_ -- @t38_2 vS (Instr.loadAt 2 t37_2)
          refine J.op R.maxI ?_ -- @t39_2 bltS .max #[2, 2] 2 #[false, false] [t36_2, t38_2]
          refine J.op fa32_3 ?_
          refine J.op (R.ld o2 (by with_reducible repeat (first | exact Pick.here | apply Pick.there)) rfl) ?_ -- @t41_2 vS (Instr.loadAt 2 t40_2)
          refine J.op fa32_3 ?_
          refine J.op (R.ld o2 (by with_reducible repeat (first | exact Pick.here | apply Pick.there)) rfl) ?_ -- @t43_2 vS (Instr.loadAt 2 t42_2)
          refine J.op R.minI ?_ -- @t44_2 bltS .min #[2, 2] 2 #[false, false] [t41_2, t43_2]
          refine J.op fa32_4 ?_
          refine J.op (R.ld o2 (by with_reducible repeat (first | exact Pick.here | apply Pick.there)) rfl) ?_ -- @t46_2 vS (Instr.loadAt 2 t45_2)
          refine J.op fa32_2 ?_
          refine J.st sz2 (by with_reducible repeat (first | exact Pick.here | apply Pick.there)) (by repeat (first | exact .zero | exact .nil | apply Upd.succ | apply UpdN.cons)) rfl ?_ -- @tu_21 uS (Instr.storeAt 2 t47_2 t39_2)
          refine J.chkR (R.ld o2 (by with_reducible repeat (first | exact Pick.here | apply Pick.there)) rfl) ?_ -- @chk:t46_2 vS (Instr.loadAt 2 t45_2)
          refine J.chkR fa32_4 ?_ -- @chk:t45_2 vS (Instr.fieldAt 32 t3 4)
          refine J.chkR R.minI ?_ -- @chk:t44_2 bltS .min #[2, 2] 2 #[false, false] [t41_2, t43_2]
          refine J.chkR (R.ld o2 (by with_reducible repeat (first | exact Pick.here | apply Pick.there)) rfl) ?_ -- @chk:t43_2 vS (Instr.loadAt 2 t42_2)
          refine J.chkR fa32_3 ?_ -- @chk:t42_2 vS (Instr.fieldAt 32 t3 3)
          refine J.op fa32_3 ?_
          refine J.st sz2 (by with_reducible repeat (first | exact Pick.here | apply Pick.there)) (by repeat (first | exact .zero | exact .nil | apply Upd.succ | apply UpdN.cons)) rfl ?_ -- @tu_22 uS (Instr.storeAt 2 t48_2 t44_2)
          refine J.chkR (R.ld o2 (by with_reducible repeat (first | exact Pick.here | apply Pick.there)) rfl) ?_ -- @chk:t46_2 vS (Instr.loadAt 2 t45_2)
          refine J.chkR fa32_4 ?_ -- @chk:t45_2 vS (Instr.fieldAt 32 t3 4)
          refine J.op fa32_4 ?_
          refine J.st sz2 (by with_reducible repeat (first | exact Pick.here | apply Pick.there)) (by repeat (first | exact .zero | exact .nil | apply Upd.succ | apply UpdN.cons)) rfl ?_ -- @tu_23 uS (Instr.storeAt 2 t49_2 t46_2)
          refine J.op fa32_5 ?_
          refine J.op (R.ld o2 (by with_reducible repeat (first | exact Pick.here | apply Pick.there)) rfl) ?_ -- @t51_2 vS (Instr.loadAt 2 t50_2)
          refine J.op fa32_5 ?_
          refine J.op (R.ld o2 (by with_reducible repeat (first | exact Pick.here | apply Pick.there)) rfl) ?_ -- @t53_2 vS (Instr.loadAt 2 t52_2)
          refine J.op (R.add64 (by omega)) ?_ -- @t54_2 binS .add 2 (.tmp 51) (.tmp 53) t51_2 t53_2
          refine J.op fa32_5 ?_
          refine J.st sz2 (by with_reducible repeat (first | exact Pick.here | apply Pick.there)) (by repeat (first | exact .zero | exact .nil | apply Upd.succ | apply UpdN.cons)) rfl ?_ -- @tu_24 uS (Instr.storeAt 2 t55_2 t54_2)
          refine J.op fa32_6 ?_
          refine J.op (R.ld o3 (by with_reducible repeat (first | exact Pick.here | apply Pick.there)) rfl) ?_ -- @t57_2 vS (Instr.loadAt 3 t56_2)
          refine J.op fa32_6 ?_
          refine J.op (R.ld o3 (by with_reducible repeat (first | exact Pick.here | apply Pick.there)) rfl) ?_ -- @t59_2 vS (Instr.loadAt 3 t58_2)
          refine J.op (R.add64 (by omega)) ?_ -- @t60_2 binS .add 3 (.tmp 57) (.tmp 59) t57_2 t59_2
          refine J.op fa32_6 ?_
          refine J.st sz3 (by with_reducible repeat (first | exact Pick.here | apply Pick.there)) (by repeat (first | exact .zero | exact .nil | apply Upd.succ | apply UpdN.cons)) rfl ?_ -- @tu_25 uS (Instr.storeAt 3 t61_2 t60_2)
          refine J.op fa32_7 ?_
          refine J.st sz2 (by with_reducible repeat (first | exact Pick.here | apply Pick.there)) (by repeat (first | exact .zero | exact .nil | apply Upd.succ | apply UpdN.cons)) rfl ?_ -- @tu_26 uS (Instr.storeAt 2 t62_2 (.int .i64 0))
          refine J.op fa32_5 ?_
          refine J.op (R.ld o2 (by with_reducible repeat (first | exact Pick.here | apply Pick.there)) rfl) ?_ -- @t64_2 vS (Instr.loadAt 2 t63_2)
          refine J.opD R.gtr (fun ht65_2 => ?_) (fun ht65_2 => ?_) -- @t65_2 binS .gtr 2 (.tmp 64) (.const (.int .i64 0)) t64_2 (.int .i64 0)
          · skip
            refine J.bind ?_ -- @tv_3 bind tv_3 ([])
            refine J.iteT ?_
            refine J.op (R.ldA ag98 (by with_reducible repeat (first | exact Pick.here | apply Pick.there)) rfl) ?_ -- @t66_2 vS (Instr.loadAt 98 t5_2)
            refine J.op fa32_5 ?_
            refine J.op (R.ld o2 (by with_reducible repeat (first | exact Pick.here | apply Pick.there)) rfl) ?_ -- @t68_2 vS (Instr.loadAt 2 t67_2)
            refine J.callE en54 (s54 (mergeV a b) (a.vol + b.vol) (by omega) (by omega) (Nat.le_trans hmm (by decide))) rfl (fun _ _ _ => trivial) ?_ -- @t69_2 callS (.func (.func 54) #[] #[]) [t66_2, t68_2]
            refine J.op fa32_7 ?_
            refine J.st sz2 (by with_reducible repeat (first | exact Pick.here | apply Pick.there)) (by repeat (first | exact .zero | exact .nil | apply Upd.succ | apply UpdN.cons)) rfl ?_ -- @tu_27 uS (Instr.storeAt 2 t70_2 t69_2)
            refine J.done ?_ -- then tv_3 = []
            refine J.op (R.ldA ag32 (by with_reducible repeat (first | exact Pick.here | apply Pick.there)) rfl) ?_ -- @t71_2 vS (Instr.loadAt 32 t2)
            refine J.stW sz32 (by with_reducible repeat (first | exact Pick.here | apply Pick.there)) rfl rfl rfl ?_ -- @tu_28 uS (Instr.storeAt 32 t4 t71_2)
            -- @ret[t4]#7
            exact J.done (RetQ.ge (.cellA ag32 (by with_reducible repeat (first | exact Pick.here | apply Pick.there)) rfl (.nil)) (by unfold mergeM; rw [if_neg ht10, if_neg ht15]; first | (rw [if_pos (by omega)]; rfl) | (rw [if_neg (by omega)]; rfl)))
          · skip
            refine J.bind ?_ -- @tv_3 bind tv_3 ([])
            refine J.iteF ?_
            refine J.done ?_ -- then tv_3 = []
            refine J.op (R.ldA ag32 (by with_reducible repeat (first | exact Pick.here | apply Pick.there)) rfl) ?_ -- @t71_2 vS (Instr.loadAt 32 t2)
            refine J.stW sz32 (by with_reducible repeat (first | exact Pick.here | apply Pick.there)) rfl rfl rfl ?_ -- @tu_28 uS (Instr.storeAt 32 t4 t71_2)
            -- @ret[t4]#8
            exact J.done (RetQ.ge (.cellA ag32 (by with_reducible repeat (first | exact Pick.here | apply Pick.there)) rfl (.nil)) (by unfold mergeM; rw [if_neg ht10, if_neg ht15]; first | (rw [if_pos (by omega)]; rfl) | (rw [if_neg (by omega)]; rfl)))
      · skip
        refine J.alloc z98 fun bt5_3 => ?_
        refine J.chkR (R.asI cv2_54 (v := ((b.vol.toNat : Nat) : Int)) (by rw [u64_in _ (by omega)]; omega)) ?_ -- @chk:t30 vS (convert 2 54 t29)
        refine J.chkR (R.ld o2 (by with_reducible repeat (first | exact Pick.here | apply Pick.there)) rfl) ?_ -- @chk:t29 vS (Instr.loadAt 2 t28)
        refine J.chkR fa32_5 ?_ -- @chk:t28 vS (Instr.fieldAt 32 t3 5)
        refine J.chkR (R.asI cv2_54 (v := ((b.mean.toNat : Nat) : Int)) (by rw [u64_in _ (by omega)]; omega)) ?_ -- @chk:t27 vS (convert 2 54 t26)
        refine J.chkR (R.ld o2 (by with_reducible repeat (first | exact Pick.here | apply Pick.there)) rfl) ?_ -- @chk:t26 vS (Instr.loadAt 2 t25)
        refine J.chkR fa32_7 ?_ -- @chk:t25 vS (Instr.fieldAt 32 t3 7)
        refine J.chkR (R.asI cv2_54 (v := ((a.vol.toNat : Nat) : Int)) (by rw [u64_in _ (by omega)]; omega)) ?_ -- @chk:t23 vS (convert 2 54 t22)
        refine J.chkR (R.ld o2 (by with_reducible repeat (first | exact Pick.here | apply Pick.there)) rfl) ?_ -- @chk:t22 vS (Instr.loadAt 2 t21)
        refine J.chkR fa32_5 ?_ -- @chk:t21 vS (Instr.fieldAt 32 t2 5)
        refine J.chkR (R.asI cv2_54 (v := ((a.mean.toNat : Nat) : Int)) (by rw [u64_in _ (by omega)]; omega)) ?_ -- @chk:t20 vS (convert 2 54 t19)
        refine J.chkR (R.ld o2 (by with_reducible repeat (first | exact Pick.here | apply Pick.there)) rfl) ?_ -- @chk:t19 vS (Instr.loadAt 2 t18)
        refine J.chkR fa32_7 ?_ -- @chk:t18 vS (Instr.fieldAt 32 t2 7)
        refine J.callE en52 (s52 a.mean.toNat a.vol.toNat (by omega) (by omega)) rfl (fun _ _ _ => trivial) ?_ -- @t24_1 callS (.func (.func 52) #[] #[]) [t20, t23]
        refine J.chkR (R.asI cv2_54 (v := ((b.vol.toNat : Nat) : Int)) (by rw [u64_in _ (by omega)]; omega)) ?_ -- @chk:t30 vS (convert 2 54 t29)
        refine J.chkR (R.ld o2 (by with_reducible repeat (first | exact Pick.here | apply Pick.there)) rfl) ?_ -- @chk:t29 vS (Instr.loadAt 2 t28)
        refine J.chkR fa32_5 ?_ -- @chk:t28 vS (Instr.fieldAt 32 t3 5)
        refine J.chkR (R.asI cv2_54 (v := ((b.mean.toNat : Nat) : Int)) (by rw [u64_in _ (by omega)]; omega)) ?_ -- @chk:t27 vS (convert 2 54 t26)
        refine J.chkR (R.ld o2 (by with_reducible repeat (first | exact Pick.here | apply Pick.there)) rfl) ?_ -- @chk:t26 vS (Instr.loadAt 2 t25)
        refine J.chkR fa32_7 ?_ -- @chk:t25 vS (Instr.fieldAt 32 t3 7)
        refine J.callE en52 (s52 b.mean.toNat b.vol.toNat (by omega) (by omega)) rfl (fun _ _ _ => trivial) ?_ -- @t31_2 callS (.func (.func 52) #[] #[]) [t27, t30]
        refine J.callE en53 (s53 (a.mean.toNat * a.vol.toNat) (b.mean.toNat * b.vol.toNat) (by omega) (by omega)) rfl (fun _ _ _ => trivial) ?_
        rw [show (a.mean.toNat * a.vol.toNat + b.mean.toNat * b.vol.toNat) % 340282366920938463463374607431768211456 = mergeV a b from Nat.mod_eq_of_lt (by omega)] -- @t32_3 callS (.func (.func 53) #[] #[]) [t24_1, t31_2]
        refine J.op (R.ext rfl) ?_ -- @t33_3 vS (Instr.extract t32_3 0)
        refine J.op (R.ext rfl) ?_ -- @t34_3 vS (Instr.extract t32_3 1)
        refine J.stW sz98 (by with_reducible repeat (first | exact Pick.here | apply Pick.there)) rfl rfl rfl ?_ -- @tu_29 uS (Instr.storeAt 98 t5_3 t33_3)
        refine J.chkR (R.ext rfl) ?_ -- @chk:t34_3 vS (Instr.extract t32_3 1)
        refine J.draw ?_
        refine J.op fa32_2 ?_
        refine J.op (R.ld o2 (by with_reducible repeat (first | exact Pick.here | apply Pick.there)) rfl) ?_ -- @t36_3 vS (Instr.loadAt 2 t35_3)
        refine J.op fa32_2 ?_
        refine J.op (R.ld o2 (by with_reducible repeat (first | exact Pick.here | apply Pick.there)) rfl) ?_ -- @t38_3 vS (Instr.loadAt 2 t37_3)
        refine J.op R.maxI ?_ -- @t39_3 bltS .max #[2, 2] 2 #[false, false] [t36_3, t38_3]
        refine J.op fa32_3 ?_
        refine J.op (R.ld o2 (by with_reducible repeat (first | exact Pick.here | apply Pick.there)) rfl) ?_ -- @t41_3 vS (Instr.loadAt 2 t40_3)
        refine J.op fa32_3 ?_
        refine J.op (R.ld o2 (by with_reducible repeat (first | exact Pick.here | apply Pick.there)) rfl) ?_ -- @t43_3 vS (Instr.loadAt 2 t42_3)
        refine J.op R.minI ?_ -- @t44_3 bltS .min #[2, 2] 2 #[false, false] [t41_3, t43_3]
        refine J.op fa32_4 ?_
        refine J.op (R.ld o2 (by with_reducible repeat (first | exact Pick.here | apply Pick.there)) rfl) ?_ -- @t46_3 vS (Instr.loadAt 2 t45_3)
        refine J.op fa32_2 ?_
        refine J.st sz2 (by with_reducible repeat (first | exact Pick.here | apply Pick.there)) (by repeat (first | exact .zero | exact .nil | apply Upd.succ | apply UpdN.cons)) rfl ?_ -- @tu_30 uS (Instr.storeAt 2 t47_3 t39_3)
        refine J.chkR (R.ld o2 (by with_reducible repeat (first | exact Pick.here | apply Pick.there)) rfl) ?_ -- @chk:t46_3 vS (Instr.loadAt 2 t45_3)
        refine J.chkR fa32_4 ?_ -- @chk:t45_3 vS (Instr.fieldAt 32 t3 4)
        refine J.chkR R.minI ?_ -- @chk:t44_3 bltS .min #[2, 2] 2 #[false, false] [t41_3, t43_3]
        refine J.chkR (R.ld o2 (by with_reducible repeat (first | exact Pick.here | apply Pick.there)) rfl) ?_ -- @chk:t43_3 vS (Instr.loadAt 2 t42_3)
        refine J.chkR fa32_3 ?_ -- @chk:t42_3 vS (Instr.fieldAt 32 t3 3)
        refine J.op fa32_3 ?_
        refine J.st sz2 (by with_reducible repeat (first | exact Pick.here | apply Pick.there)) (by repeat (first | exact .zero | exact .nil | apply Upd.succ | apply UpdN.cons)) rfl ?_ -- @tu_31 uS (Instr.storeAt 2 t48_3 t44_3)
        refine J.chkR (R.ld o2 (by with_reducible repeat (first | exact Pick.here | apply Pick.there)) rfl) ?_ -- @chk:t46_3 vS (Instr.loadAt 2 t45_3)
        refine J.chkR fa32_4 ?_ -- @chk:t45_3 vS (Instr.fieldAt 32 t3 4)
        refine J.op fa32_4 ?_
        refine J.st sz2 (by with_reducible repeat (first | exact Pick.here | apply Pick.there)) (by repeat (first | exact .zero | exact .nil | apply Upd.succ | apply UpdN.cons)) rfl ?_ -- @tu_32 uS (Instr.storeAt 2 t49_3 t46_3)
        refine J.op fa32_5 ?_
        refine J.op (R.ld o2 (by with_reducible repeat (first | exact Pick.here | apply Pick.there)) rfl) ?_ -- @t51_3 vS (Instr.loadAt 2 t50_3)
        refine J.op fa32_5 ?_
        refine J.op (R.ld o2 (by with_reducible repeat (first | exact Pick.here | apply Pick.there)) rfl) ?_ -- @t53_3 vS (Instr.loadAt 2 t52_3)
        refine J.op (R.add64 (by omega)) ?_ -- @t54_3 binS .add 2 (.tmp 51) (.tmp 53) t51_3 t53_3
        refine J.op fa32_5 ?_
        refine J.st sz2 (by with_reducible repeat (first | exact Pick.here | apply Pick.there)) (by repeat (first | exact .zero | exact .nil | apply Upd.succ | apply UpdN.cons)) rfl ?_ -- @tu_33 uS (Instr.storeAt 2 t55_3 t54_3)
        refine J.op fa32_6 ?_
        refine J.op (R.ld o3 (by with_reducible repeat (first | exact Pick.here | apply Pick.there)) rfl) ?_ -- @t57_3 vS (Instr.loadAt 3 t56_3)
        refine J.op fa32_6 ?_
        refine J.op (R.ld o3 (by with_reducible repeat (first | exact Pick.here | apply Pick.there)) rfl) ?_ -- @t59_3 vS (Instr.loadAt 3 t58_3)
        refine J.op (R.add64 (by omega)) ?_ -- @t60_3 binS .add 3 (.tmp 57) (.tmp 59) t57_3 t59_3
        refine J.op fa32_6 ?_
        refine J.st sz3 (by with_reducible repeat (first | exact Pick.here | apply Pick.there)) (by repeat (first | exact .zero | exact .nil | apply Upd.succ | apply UpdN.cons)) rfl ?_ -- @tu_34 uS (Instr.storeAt 3 t61_3 t60_3)
        refine J.op fa32_7 ?_
        refine J.st sz2 (by with_reducible repeat (first | exact Pick.here | apply Pick.there)) (by repeat (first | exact .zero | exact .nil | apply Upd.succ | apply UpdN.cons)) rfl ?_ -- @tu_35 uS (Instr.storeAt 2 t62_3 (.int .i64 0))
        refine J.op fa32_5 ?_
        refine J.op (R.ld o2 (by with_reducible repeat (first | exact Pick.here | apply Pick.there)) rfl) ?_ -- @t64_3 vS (Instr.loadAt 2 t63_3)
        refine J.opD R.gtr (fun ht65_3 => ?_) (fun ht65_3 => ?_) -- @t65_3 binS .gtr 2 (.tmp 64) (.const (.int .i64 0)) t64_3 (.int .i64 0)
        · skip
          refine J.bind ?_ -- @tv_4 bind tv_4 ([])
          refine J.iteT ?_
          refine J.op (R.ldA ag98 (by with_reducible repeat (first | exact Pick.here | apply Pick.there)) rfl) ?_ -- @t66_3 vS (Instr.loadAt 98 t5_3)
          refine J.op fa32_5 ?_
          refine J.op (R.ld o2 (by with_reducible repeat (first | exact Pick.here | apply Pick.there)) rfl) ?_ -- @t68_3 vS (Instr.loadAt 2 t67_3)
          refine J.callE en54 (s54 (mergeV a b) (a.vol + b.vol) (by omega) (by omega) (Nat.le_trans hmm (by decide))) rfl (fun _ _ _ => trivial) ?_ -- @t69_3 callS (.func (.func 54) #[] #[]) [t66_3, t68_3]
          refine J.op fa32_7 ?_
          refine J.st sz2 (by with_reducible repeat (first | exact Pick.here | apply Pick.there)) (by repeat (first | exact .zero | exact .nil | apply Upd.succ | apply UpdN.cons)) rfl ?_ -- @tu_36 uS (Instr.storeAt 2 t70_3 t69_3)
          refine J.done ?_ -- then tv_4 = []
          refine J.op (R.ldA ag32 (by with_reducible repeat (first | exact Pick.here | apply Pick.there)) rfl) ?_ -- @t71_3 vS (Instr.loadAt 32 t2)
          refine J.stW sz32 (by with_reducible repeat (first | exact Pick.here | apply Pick.there)) rfl rfl rfl ?_ -- @tu_37 uS (Instr.storeAt 32 t4 t71_3)
          -- @ret[t4]#9
          exact J.done (RetQ.ge (.cellA ag32 (by with_reducible repeat (first | exact Pick.here | apply Pick.there)) rfl (.nil)) (by unfold mergeM; rw [if_neg ht10, if_neg ht15]; first | (rw [if_pos (by omega)]; rfl) | (rw [if_neg (by omega)]; rfl)))
        · skip
          refine J.bind ?_ -- @tv_4 bind tv_4 ([])
          refine J.iteF ?_
          refine J.done ?_ -- then tv_4 = []
          refine J.op (R.ldA ag32 (by with_reducible repeat (first | exact Pick.here | apply Pick.there)) rfl) ?_ -- @t71_3 vS (Instr.loadAt 32 t2)
          refine J.stW sz32 (by with_reducible repeat (first | exact Pick.here | apply Pick.there)) rfl rfl rfl ?_ -- @tu_37 uS (Instr.storeAt 32 t4 t71_3)
          -- @ret[t4]#10
          exact J.done (RetQ.ge (.cellA ag32 (by with_reducible repeat (first | exact Pick.here | apply Pick.there)) rfl (.nil)) (by unfold mergeM; rw [if_neg ht10, if_neg ht15]; first | (rw [if_pos (by omega)]; rfl) | (rw [if_neg (by omega)]; rfl)))
end Go.Proofs.Ytipgdalebkhgpaa
