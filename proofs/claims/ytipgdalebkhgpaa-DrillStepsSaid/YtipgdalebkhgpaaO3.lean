/-
  Contracts of functions.
-/
import Derived.Test.YtipgdalebkhgpaaTerms1
import Derived.Test.YtipgdalebkhgpaaTerms2
import Derived.Test.YtipgdalebkhgpaaTab
import Derived.Test.YtipgdalebkhgpaaO2
set_option maxRecDepth 100000
set_option maxHeartbeats 4000000
set_option linter.unusedVariables false
set_option linter.unusedSimpArgs false
namespace Go.Proofs.Ytipgdalebkhgpaa
open Go Go.RowKit Fw
/-- damper/command.Right$1 -/
theorem s162 (n lo hi : Int) :
    FnE Try.prog 162 [.int .i64 n, .int .i64 lo, .int .i64 hi] (fun _ => True) (.bool (decide (lo ≤ n ∧ n ≤ hi))) := by
  refine fn_of_J (cx := cx162) hmix Try.func162 (by kernel_rfl) (eq162 _ _ _) fun w hw => ?_
  refine J.bind ?_ -- @tv bind tv ([6])
  refine J.opD R.geq (fun ht9 => ?_) (fun ht9 => ?_) -- @t9 binS .geq 3 (.tmp 7) (.tmp 8) a0 a1
  · skip
    refine J.gopT rfl ?_
    refine J.op R.pure ?_
    refine J.gopT rfl ?_
    refine J.op R.pure ?_
    refine J.gopT rfl ?_
    refine J.op R.leq ?_ -- @t13 binS .leq 3 (.tmp 11) (.tmp 12) t11 t12
    refine J.op R.pickT ?_ -- @t14 pickS t9 t13 (.bool false)
    refine J.done ?_ -- then tv = [t14]
    -- @ret[(tv.headDundef)]
    exact J.done (RetQ.ge (.tmp (.nil)) (by first | rfl | (simp [mkRes, *]; done) | (simp_all [mkRes]; done) | (simp_all [mkRes]; first | omega | (rw [decide_eq_false_iff_not]; omega) | (rw [decide_eq_true_iff]; omega)) | (simp only [mkRes]; (repeat' split) <;> first | rfl | omega | (simp_all; done) | (simp_all; omega))))
  · skip
    refine J.gopF rfl ?_
    refine J.gopF rfl ?_
    refine J.gopF rfl ?_
    refine J.op R.pickF ?_ -- @t14 pickS t9 t13 (.bool false)
    refine J.done ?_ -- then tv = [t14]
    -- @ret[(tv.headDundef)]
    exact J.done (RetQ.ge (.tmp (.nil)) (by first | rfl | (simp [mkRes, *]; done) | (simp_all [mkRes]; done) | (simp_all [mkRes]; first | omega | (rw [decide_eq_false_iff_not]; omega) | (rw [decide_eq_true_iff]; omega)) | (simp only [mkRes]; (repeat' split) <;> first | rfl | omega | (simp_all; done) | (simp_all; omega))))

/-- damper/damperref05.in -/
theorem s165 (n lo hi : Int) :
    FnE Try.prog 165 [.int .i64 n, .int .i64 lo, .int .i64 hi] (fun _ => True) (.bool (decide (lo ≤ n ∧ n ≤ hi))) := by
  refine fn_of_J (cx := cx165) hmix Try.func165 (by kernel_rfl) (eq165 _ _ _) fun w hw => ?_
  refine J.bind ?_ -- @tv bind tv ([6])
  refine J.opD R.geq (fun ht9 => ?_) (fun ht9 => ?_) -- @t9 binS .geq 2 (.tmp 7) (.tmp 8) a0 a1
  · skip
    refine J.gopT rfl ?_
    refine J.op R.pure ?_
    refine J.gopT rfl ?_
    refine J.op R.pure ?_
    refine J.gopT rfl ?_
    refine J.op R.leq ?_ -- @t13 binS .leq 2 (.tmp 11) (.tmp 12) t11 t12
    refine J.op R.pickT ?_ -- @t14 pickS t9 t13 (.bool false)
    refine J.done ?_ -- then tv = [t14]
    -- @ret[(tv.headDundef)]
    exact J.done (RetQ.ge (.tmp (.nil)) (by first | rfl | (simp [mkRes, *]; done) | (simp_all [mkRes]; done) | (simp_all [mkRes]; first | omega | (rw [decide_eq_false_iff_not]; omega) | (rw [decide_eq_true_iff]; omega)) | (simp only [mkRes]; (repeat' split) <;> first | rfl | omega | (simp_all; done) | (simp_all; omega))))
  · skip
    refine J.gopF rfl ?_
    refine J.gopF rfl ?_
    refine J.gopF rfl ?_
    refine J.op R.pickF ?_ -- @t14 pickS t9 t13 (.bool false)
    refine J.done ?_ -- then tv = [t14]
    -- @ret[(tv.headDundef)]
    exact J.done (RetQ.ge (.tmp (.nil)) (by first | rfl | (simp [mkRes, *]; done) | (simp_all [mkRes]; done) | (simp_all [mkRes]; first | omega | (rw [decide_eq_false_iff_not]; omega) | (rw [decide_eq_true_iff]; omega)) | (simp only [mkRes]; (repeat' split) <;> first | rfl | omega | (simp_all; done) | (simp_all; omega))))

/-- damper/command.Right -/
theorem s128 (c : Cmd) (hc : CmdOk c) :
    FnE Try.prog 128 [.agg c.cells.toArray] (fun _ => True) (.bool true) := by
  refine fn_of_J (cx := cx128) hmix Try.func128 (by kernel_rfl) (eq128 _) fun w hw => ?_
  have h1 := hc.kind
  have h2 := hc.sym
  have h3 := hc.id_
  have h4 := hc.owner
  have h5 := hc.side
  have h6 := hc.typ
  have h7 := hc.flags
  have h8 := hc.price
  have h9 := hc.qty
  refine J.boxA fun bt1 => ?_
  refine J.bind ?_ -- @tv bind tv ([19])
  refine J.op fa62_1 ?_
  refine J.op (R.ld o3 (by with_reducible repeat (first | exact Pick.here | apply Pick.there)) rfl) ?_ -- @t7 vS (Instr.loadAt 3 t6)
  refine J.callE en162 (s162 c.sym 0 255) rfl (fun _ _ _ => trivial) ?_
  rw [decide_eq_true (by omega)] -- @t8 callS (.func (.func 162) #[] #[]) [t7, (.int .i64 0), (.int .i64 255)]
  refine J.op (v := .bool false) R.not ?_
  refine J.gopT rfl ?_
  refine J.op fa62_2 ?_
  refine J.gopT rfl ?_
  refine J.op (R.ld o2 (by with_reducible repeat (first | exact Pick.here | apply Pick.there)) rfl) ?_ -- @t12 vS (Instr.loadAt 2 t11)
  refine J.gopT rfl ?_
  refine J.opDF R.lss (by omega) ?_ -- @t13
  refine J.op R.pickF ?_ -- @t14 pickS t9 (.bool true) t13
  refine J.gopT rfl ?_
  refine J.op fa62_2 ?_
  refine J.gopT rfl ?_
  refine J.op (R.ld o2 (by with_reducible repeat (first | exact Pick.here | apply Pick.there)) rfl) ?_ -- @t17 vS (Instr.loadAt 2 t16)
  refine J.gopT rfl ?_
  refine J.opDF R.gtr (by omega) ?_ -- @t18
  refine J.op R.pickF ?_ -- @t19 pickS t14 (.bool true) t18
  refine J.done ?_ -- then tv = [t19]
  refine J.iteF ?_
  refine J.op (R.ldA ag62 (by with_reducible repeat (first | exact Pick.here | apply Pick.there)) rfl) ?_ -- @t20 vS (Instr.loadAt 62 t1)
  refine J.alloc z62 fun bt4 => ?_
  refine J.stW sz62 (by with_reducible repeat (first | exact Pick.here | apply Pick.there)) rfl rfl rfl ?_ -- @tu uS (Instr.storeAt 62 t4 t20)
  refine J.op fa62_0 ?_
  refine J.st sz3 (by with_reducible repeat (first | exact Pick.here | apply Pick.there)) (by repeat (first | exact .zero | exact .nil | apply Upd.succ | apply UpdN.cons)) rfl ?_ -- @tu_1 uS (Instr.storeAt 3 t21 (.int .i64 0))
  refine J.op fa62_1 ?_
  refine J.st sz3 (by with_reducible repeat (first | exact Pick.here | apply Pick.there)) (by repeat (first | exact .zero | exact .nil | apply Upd.succ | apply UpdN.cons)) rfl ?_ -- @tu_2 uS (Instr.storeAt 3 t22 (.int .i64 0))
  refine J.op fa62_2 ?_
  refine J.st sz2 (by with_reducible repeat (first | exact Pick.here | apply Pick.there)) (by repeat (first | exact .zero | exact .nil | apply Upd.succ | apply UpdN.cons)) rfl ?_ -- @tu_3 uS (Instr.storeAt 2 t23 (.int .i64 0))
  refine J.op fa62_0 ?_
  refine J.op (R.ld o3 (by with_reducible repeat (first | exact Pick.here | apply Pick.there)) rfl) ?_ -- @t25 vS (Instr.loadAt 3 t24)
  refine J.bind ?_ -- @tv_2 bind tv_2 ([2])
  refine J.block ?_
  refine J.opD R.eql (fun ht27 => ?_) (fun ht27 => ?_) -- @t27 binS .eql 3 (.tmp 25) (.const (.int .i64 1)) t25 (.int .i64 1)
  · skip
    refine J.iteT ?_
    refine J.bind ?_ -- @tv_1 bind tv_1 ([2])
    refine J.op fa62_3 ?_
    refine J.op (R.ld o3 (by with_reducible repeat (first | exact Pick.here | apply Pick.there)) rfl) ?_ -- @t30 vS (Instr.loadAt 3 t29)
    refine J.callE en162 (s162 c.owner 0 1073741824) rfl (fun _ _ _ => trivial) ?_
    rw [decide_eq_true (by omega)] -- @t31 callS (.func (.func 162) #[] #[]) [t30, (.int .i64 0), (.int .i64 1073741824)]
    refine J.gopT rfl ?_
    refine J.op R.pure ?_
    refine J.gopT rfl ?_
    refine J.op fa62_4 ?_
    refine J.gopT rfl ?_
    refine J.op (R.ld o3 (by with_reducible repeat (first | exact Pick.here | apply Pick.there)) rfl) ?_ -- @t35 vS (Instr.loadAt 3 t34)
    refine J.gopT rfl ?_
    refine J.callE (first := #[]) (cap := #[]) en162 (s162 c.side 0 1) rfl (fun _ _ _ => trivial) ?_
    rw [decide_eq_true (by omega)] -- @t36 callS t33 [t35, (.int .i64 0), (.int .i64 1)]
    refine J.op R.pickT ?_ -- @t37 pickS t31 t36 (.bool false)
    refine J.gopT rfl ?_
    refine J.op R.pure ?_
    refine J.gopT rfl ?_
    refine J.op fa62_5 ?_
    refine J.gopT rfl ?_
    refine J.op (R.ld o3 (by with_reducible repeat (first | exact Pick.here | apply Pick.there)) rfl) ?_ -- @t41 vS (Instr.loadAt 3 t40)
    refine J.gopT rfl ?_
    refine J.callE (first := #[]) (cap := #[]) en162 (s162 c.typ 1 5) rfl (fun _ _ _ => trivial) ?_
    rw [decide_eq_true (by omega)] -- @t42 callS t39 [t41, (.int .i64 1), (.int .i64 5)]
    refine J.op R.pickT ?_ -- @t43 pickS t37 t42 (.bool false)
    refine J.gopT rfl ?_
    refine J.op R.pure ?_
    refine J.gopT rfl ?_
    refine J.op fa62_8 ?_
    refine J.gopT rfl ?_
    refine J.op (R.ld o3 (by with_reducible repeat (first | exact Pick.here | apply Pick.there)) rfl) ?_ -- @t47 vS (Instr.loadAt 3 t46)
    refine J.gopT rfl ?_
    refine J.callE (first := #[]) (cap := #[]) en162 (s162 c.flags 0 7) rfl (fun _ _ _ => trivial) ?_
    rw [decide_eq_true (by omega)] -- @t48 callS t45 [t47, (.int .i64 0), (.int .i64 7)]
    refine J.op R.pickT ?_ -- @t49 pickS t43 t48 (.bool false)
    refine J.done ?_ -- then tv_1 = [t49]
    -- @ret[(tv_1.headDundef)]
    exact J.done (RetQ.ge (.tmp (.nil)) (rfl))
  · skip
    refine J.iteF ?_
    obtain ⟨hk, ho, hs, ht, hp, hq, hf⟩ := h1.resolve_left ht27
    refine J.opDF R.eql (by omega) ?_ -- @t51
    refine J.iteF ?_
    refine J.opDT R.eql (by omega) ?_ -- @t58
    refine J.iteT ?_
    refine J.op (R.ldA ag62 (by with_reducible repeat (first | exact Pick.here | apply Pick.there)) rfl) ?_ -- @t59 vS (Instr.loadAt 62 t4)
    refine J.op bd62 ?_ -- @t60 vS (Instr.build 62 #[])
    refine J.opDT (R.eqA gt62 (by repeat (first | exact trivial | refine ⟨⟨_, rfl⟩, ?_⟩)) (by repeat (first | exact trivial | refine ⟨⟨_, rfl⟩, ?_⟩))) (by rw [ho, hs, ht, hp, hq, hf]) ?_ -- @t61
    -- @ret[t61]
    exact J.done (RetQ.ge (.tmp (.nil)) (rfl))

/-- damper/damperref05.Right -/
theorem s133 (c : Cmd) (hc : CmdOk c) :
    FnE Try.prog 133 [.agg c.cells.toArray] (fun _ => True) (.bool true) := by
  refine fn_of_J (cx := cx133) hmix Try.func133 (by kernel_rfl) (eq133 _) fun w hw => ?_
  have h1 := hc.kind
  have h2 := hc.sym
  have h3 := hc.id_
  have h4 := hc.owner
  have h5 := hc.side
  have h6 := hc.typ
  have h7 := hc.flags
  have h8 := hc.price
  have h9 := hc.qty
  refine J.boxA fun bt1 => ?_
  refine J.bind ?_ -- @tv bind tv ([12])
  refine J.op fa62_1 ?_
  refine J.op (R.ld o3 (by with_reducible repeat (first | exact Pick.here | apply Pick.there)) rfl) ?_ -- @t4 vS (Instr.loadAt 3 t3)
  refine J.callE en165 (s165 c.sym 0 255) rfl (fun _ _ _ => trivial) ?_
  rw [decide_eq_true (by omega)] -- @t5 callS (.func (.func 165) #[] #[]) [t4, (.int .i64 0), (.int .i64 255)]
  refine J.op (v := .bool false) R.not ?_
  refine J.gopT rfl ?_
  refine J.op fa62_2 ?_
  refine J.gopT rfl ?_
  refine J.op (R.ld o2 (by with_reducible repeat (first | exact Pick.here | apply Pick.there)) rfl) ?_ -- @t9 vS (Instr.loadAt 2 t8)
  refine J.gopT rfl ?_
  refine J.callE en165 (s165 c.id_ 0 4611686018427387904) rfl (fun _ _ _ => trivial) ?_
  rw [decide_eq_true (by omega)] -- @t10 callS (.func (.func 165) #[] #[]) [t9, (.int .i64 0), (.int .i64 4611686018427387904)]
  refine J.gopT rfl ?_
  refine J.op (v := .bool false) R.not ?_
  refine J.op R.pickF ?_ -- @t12 pickS t6 (.bool true) t11
  refine J.done ?_ -- then tv = [t12]
  refine J.iteF ?_
  refine J.op fa62_0 ?_
  refine J.op (R.ld o3 (by with_reducible repeat (first | exact Pick.here | apply Pick.there)) rfl) ?_ -- @t14 vS (Instr.loadAt 3 t13)
  refine J.bind ?_ -- @tv_2 bind tv_2 ([2])
  refine J.block ?_
  refine J.opD R.eql (fun ht16 => ?_) (fun ht16 => ?_) -- @t16 binS .eql 3 (.tmp 14) (.const (.int .i64 1)) t14 (.int .i64 1)
  · skip
    refine J.iteT ?_
    refine J.bind ?_ -- @tv_1 bind tv_1 ([2])
    refine J.op fa62_3 ?_
    refine J.op (R.ld o3 (by with_reducible repeat (first | exact Pick.here | apply Pick.there)) rfl) ?_ -- @t18 vS (Instr.loadAt 3 t17)
    refine J.callE en165 (s165 c.owner 0 1073741824) rfl (fun _ _ _ => trivial) ?_
    rw [decide_eq_true (by omega)] -- @t19 callS (.func (.func 165) #[] #[]) [t18, (.int .i64 0), (.int .i64 1073741824)]
    refine J.gopT rfl ?_
    refine J.op fa62_4 ?_
    refine J.gopT rfl ?_
    refine J.op (R.ld o3 (by with_reducible repeat (first | exact Pick.here | apply Pick.there)) rfl) ?_ -- @t22 vS (Instr.loadAt 3 t21)
    refine J.gopT rfl ?_
    refine J.callE en165 (s165 c.side 0 1) rfl (fun _ _ _ => trivial) ?_
    rw [decide_eq_true (by omega)] -- @t23 callS (.func (.func 165) #[] #[]) [t22, (.int .i64 0), (.int .i64 1)]
    refine J.op R.pickT ?_ -- @t24 pickS t19 t23 (.bool false)
    refine J.gopT rfl ?_
    refine J.op fa62_5 ?_
    refine J.gopT rfl ?_
    refine J.op (R.ld o3 (by with_reducible repeat (first | exact Pick.here | apply Pick.there)) rfl) ?_ -- @t27 vS (Instr.loadAt 3 t26)
    refine J.gopT rfl ?_
    refine J.callE en165 (s165 c.typ 1 5) rfl (fun _ _ _ => trivial) ?_
    rw [decide_eq_true (by omega)] -- @t28 callS (.func (.func 165) #[] #[]) [t27, (.int .i64 1), (.int .i64 5)]
    refine J.op R.pickT ?_ -- @t29 pickS t24 t28 (.bool false)
    refine J.gopT rfl ?_
    refine J.op fa62_8 ?_
    refine J.gopT rfl ?_
    refine J.op (R.ld o3 (by with_reducible repeat (first | exact Pick.here | apply Pick.there)) rfl) ?_ -- @t32 vS (Instr.loadAt 3 t31)
    refine J.gopT rfl ?_
    refine J.callE en165 (s165 c.flags 0 7) rfl (fun _ _ _ => trivial) ?_
    rw [decide_eq_true (by omega)] -- @t33 callS (.func (.func 165) #[] #[]) [t32, (.int .i64 0), (.int .i64 7)]
    refine J.op R.pickT ?_ -- @t34 pickS t29 t33 (.bool false)
    refine J.done ?_ -- then tv_1 = [t34]
    -- @ret[(tv_1.headDundef)]
    exact J.done (RetQ.ge (.tmp (.nil)) (rfl))
  · skip
    refine J.iteF ?_
    obtain ⟨hk, ho, hs, ht, hp, hq, hf⟩ := h1.resolve_left ht16
    refine J.opDT R.eql (by omega) ?_ -- @t36
    refine J.iteT ?_
    refine J.op (R.ldA ag62 (by with_reducible repeat (first | exact Pick.here | apply Pick.there)) rfl) ?_ -- @t37 vS (Instr.loadAt 62 t1)
    refine J.op fa62_1 ?_
    refine J.op (R.ld o3 (by with_reducible repeat (first | exact Pick.here | apply Pick.there)) rfl) ?_ -- @t39 vS (Instr.loadAt 3 t38)
    refine J.op fa62_2 ?_
    refine J.op (R.ld o2 (by with_reducible repeat (first | exact Pick.here | apply Pick.there)) rfl) ?_ -- @t41 vS (Instr.loadAt 2 t40)
    refine J.op bd62_0_1_2 ?_ -- @t42 vS (Instr.build 62 #[(0, (.int .i64 2)), (1, t39), (2, t41)])
    refine J.opDT (R.eqA gt62 (by repeat (first | exact trivial | refine ⟨⟨_, rfl⟩, ?_⟩)) (by repeat (first | exact trivial | refine ⟨⟨_, rfl⟩, ?_⟩))) (by unfold Cmd.cells; rw [hk, ho, hs, ht, hp, hq, hf]) ?_ -- @t43
    -- @ret[t43]
    exact J.done (RetQ.ge (.tmp (.nil)) (rfl))

/-- damper/command.Encode -/
theorem s91 (c : Cmd) (hc : CmdOk c) :
    FnT Try.prog 91 [.agg c.cells.toArray] (fun _ => True) [] (fun v es => ∃ a n cc, v = .tuple #[.slice a n cc, .int .i64 0] ∧ es = [Ent.row (.slice a n cc) 1 (u8s (cmdB c)) 5]) := by
  refine fn_of_J (cx := cx91) hmix Try.func91 (by kernel_rfl) (eq91 _) fun w hw => ?_
  have h1 := hc.kind
  have h2 := hc.sym
  have h3 := hc.id_
  have h4 := hc.owner
  have h5 := hc.side
  have h6 := hc.typ
  have h7 := hc.flags
  have h8 := hc.price
  have h9 := hc.qty
  refine J.boxA fun bt1 => ?_
  refine J.op (R.ldA ag62 (by with_reducible repeat (first | exact Pick.here | apply Pick.there)) rfl) ?_ -- @t5 vS (Instr.loadAt 62 t1)
  refine J.callE en128 (s128 c hc) rfl (fun _ _ _ => trivial) ?_ -- @t6 callS (.func (.func 128) #[] #[]) [t5]
  refine J.op (v := .bool false) R.not ?_
  refine J.iteF ?_
  refine J.op bd193 ?_ -- @t8 vS (Instr.build 193 #[])
  refine J.boxA fun bt9 => ?_
  refine J.draw ?_
  refine J.op fa62_0 ?_
  refine J.op (R.ld o3 (by with_reducible repeat (first | exact Pick.here | apply Pick.there)) rfl) ?_ -- @t12 vS (Instr.loadAt 3 t11)
  refine J.nilRow (sz := 1) (E := 5) ?_
  refine J.op (R.asI (cv3_5) (v := ((c.kind.toNat : Nat) : Int)) (w8 (by omega))) ?_ -- @t13 vS (convert 3 5 t12)
  refine J.op fa62_1 ?_
  refine J.op (R.ld o3 (by with_reducible repeat (first | exact Pick.here | apply Pick.there)) rfl) ?_ -- @t15 vS (Instr.loadAt 3 t14)
  refine J.op (R.asI (cv3_5) (v := ((c.sym.toNat : Nat) : Int)) (w8 (by omega))) ?_ -- @t16 vS (convert 3 5 t15)
  refine J.op fa62_2 ?_
  refine J.op (R.ld o2 (by with_reducible repeat (first | exact Pick.here | apply Pick.there)) rfl) ?_ -- @t20 vS (Instr.loadAt 2 t19)
  refine J.op (R.asI (cv2_54) (v := ((c.id_.toNat : Nat) : Int)) (w64 (by omega))) ?_ -- @t21 vS (convert 2 54 t20)
  refine J.bsR (els := u8s [c.kind.toNat, c.sym.toNat]) bs130_2 rfl u8s_cell rfl (by decide) fun bt17 => ?_ -- @t17 vS (Instr.buildSlice 130 2 #[(0, t13), (1, t16)])
  refine J.chkR (R.asI (cv2_54) (v := ((c.id_.toNat : Nat) : Int)) (w64 (by omega))) ?_ -- @chk:t21 vS (convert 2 54 t20)
  refine J.chkR (R.ld o2 (by with_reducible repeat (first | exact Pick.here | apply Pick.there)) rfl) ?_ -- @chk:t20 vS (Instr.loadAt 2 t19)
  refine J.chkR fa62_2 ?_ -- @chk:t19 vS (Instr.fieldAt 62 t1 2)
  refine J.callT en129 (s129 bt9 _ _ _ [] _ _ _ [c.kind.toNat, c.sym.toNat] (by simp)) rfl (fun _ _ _ => trivial) (Take.cons (by (try dsimp only); repeat (first | (with_reducible exact Out.here) | ((with_reducible refine Out.cells ?_); first | rfl | (simp; done)) | ((with_reducible refine Out.row ?_); first | rfl | (simp; done)) | (with_reducible apply Out.there))) (Take.cons (by (try dsimp only); repeat (first | (with_reducible exact Out.here) | ((with_reducible refine Out.cells ?_); first | rfl | (simp; done)) | ((with_reducible refine Out.row ?_); first | rfl | (simp; done)) | (with_reducible apply Out.there))) (Take.cons (by (try dsimp only); repeat (first | (with_reducible exact Out.here) | ((with_reducible refine Out.cells ?_); first | rfl | (simp; done)) | ((with_reducible refine Out.row ?_); first | rfl | (simp; done)) | (with_reducible apply Out.there))) Take.nil))) (fun v es ht18 => ?_)
  obtain ⟨at18, nt18, ct18, rfl, rfl⟩ := ht18
  simp only [List.cons_append, List.nil_append] -- @t18 callS (.func (.func 129) #[] #[]) [t9, t17]
  refine J.chkR (R.asI (cv2_54) (v := ((c.id_.toNat : Nat) : Int)) (w64 (by omega))) ?_ -- @chk:t21 vS (convert 2 54 t20)
  refine J.chkR (R.ld o2 (by with_reducible repeat (first | exact Pick.here | apply Pick.there)) rfl) ?_ -- @chk:t20 vS (Instr.loadAt 2 t19)
  refine J.chkR fa62_2 ?_ -- @chk:t19 vS (Instr.fieldAt 62 t1 2)
  refine J.callT en130 (s130 bt9 _ _ _ ([] ++ [c.kind.toNat, c.sym.toNat]) c.id_.toNat (by omega) (by have n1 := numB_len (n := c.id_.toNat); have n2 := numB_len (n := c.owner.toNat); simp only [List.length_append, List.length_cons, List.length_nil, beB_len]; omega)) rfl (fun _ _ _ => trivial) (Take.cons (by (try dsimp only); repeat (first | (with_reducible exact Out.here) | ((with_reducible refine Out.cells ?_); first | rfl | (simp; done)) | ((with_reducible refine Out.row ?_); first | rfl | (simp; done)) | (with_reducible apply Out.there))) (Take.cons (by (try dsimp only); repeat (first | (with_reducible exact Out.here) | ((with_reducible refine Out.cells ?_); first | rfl | (simp; done)) | ((with_reducible refine Out.row ?_); first | rfl | (simp; done)) | (with_reducible apply Out.there))) Take.nil)) (fun v es ht22 => ?_)
  obtain ⟨at22, nt22, ct22, rfl, rfl⟩ := ht22
  simp only [List.cons_append, List.nil_append] -- @t22 callS (.func (.func 130) #[] #[]) [t18, t21]
  refine J.op fa62_0 ?_
  refine J.op (R.ld o3 (by with_reducible repeat (first | exact Pick.here | apply Pick.there)) rfl) ?_ -- @t24 vS (Instr.loadAt 3 t23)
  refine J.opD R.eql (fun ht25 => ?_) (fun ht25 => ?_) -- @t25 binS .eql 3 (.tmp 24) (.const (.int .i64 1)) t24 (.int .i64 1)
  · skip
    refine J.bind ?_ -- @tv bind tv ([])
    refine J.iteT ?_
    refine J.draw ?_
    refine J.op fa62_3 ?_
    have h6 := h6 ht25
    refine J.op (R.ld o3 (by with_reducible repeat (first | exact Pick.here | apply Pick.there)) rfl) ?_ -- @t28 vS (Instr.loadAt 3 t27)
    refine J.op (R.asI (cv3_54) (v := ((c.owner.toNat : Nat) : Int)) (w64 (by omega))) ?_ -- @t29 vS (convert 3 54 t28)
    refine J.op fa62_4 ?_
    refine J.op (R.ld o3 (by with_reducible repeat (first | exact Pick.here | apply Pick.there)) rfl) ?_ -- @t32 vS (Instr.loadAt 3 t31)
    refine J.op (R.asI (cv3_5) (v := ((c.side.toNat : Nat) : Int)) (w8 (by omega))) ?_ -- @t33 vS (convert 3 5 t32)
    refine J.op fa62_5 ?_
    refine J.op (R.ld o3 (by with_reducible repeat (first | exact Pick.here | apply Pick.there)) rfl) ?_ -- @t35 vS (Instr.loadAt 3 t34)
    refine J.op (R.asI (cv3_5) (v := ((c.typ.toNat : Nat) : Int)) (w8 (by omega))) ?_ -- @t36 vS (convert 3 5 t35)
    refine J.op fa62_8 ?_
    refine J.op (R.ld o3 (by with_reducible repeat (first | exact Pick.here | apply Pick.there)) rfl) ?_ -- @t38 vS (Instr.loadAt 3 t37)
    refine J.op (R.asI (cv3_5) (v := ((c.flags.toNat : Nat) : Int)) (w8 (by omega))) ?_ -- @t39 vS (convert 3 5 t38)
    refine J.alt ?_ ?_
    · skip
      refine J.callT en130 (s130 bt9 _ _ _ (([] ++ [c.kind.toNat, c.sym.toNat]) ++ numB c.id_.toNat) c.owner.toNat (by omega) (by have n1 := numB_len (n := c.id_.toNat); have n2 := numB_len (n := c.owner.toNat); simp only [List.length_append, List.length_cons, List.length_nil, beB_len]; omega)) rfl (fun _ _ _ => trivial) (Take.cons (by (try dsimp only); repeat (first | (with_reducible exact Out.here) | ((with_reducible refine Out.cells ?_); first | rfl | (simp; done)) | ((with_reducible refine Out.row ?_); first | rfl | (simp; done)) | (with_reducible apply Out.there))) (Take.cons (by (try dsimp only); repeat (first | (with_reducible exact Out.here) | ((with_reducible refine Out.cells ?_); first | rfl | (simp; done)) | ((with_reducible refine Out.row ?_); first | rfl | (simp; done)) | (with_reducible apply Out.there))) Take.nil)) (fun v es ht30 => ?_)
      obtain ⟨at30, nt30, ct30, rfl, rfl⟩ := ht30
      simp only [List.cons_append, List.nil_append] -- @t30 callS (.func (.func 130) #[] #[]) [t9, t29]
      refine J.chkR (R.asI (cv3_5) (v := ((c.flags.toNat : Nat) : Int)) (w8 (by omega))) ?_ -- @chk:t39 vS (convert 3 5 t38)
      refine J.chkR (R.ld o3 (by with_reducible repeat (first | exact Pick.here | apply Pick.there)) rfl) ?_ -- @chk:t38 vS (Instr.loadAt 3 t37)
      refine J.chkR fa62_8 ?_ -- @chk:t37 vS (Instr.fieldAt 62 t1 8)
      refine J.chkR (R.asI (cv3_5) (v := ((c.typ.toNat : Nat) : Int)) (w8 (by omega))) ?_ -- @chk:t36 vS (convert 3 5 t35)
      refine J.chkR (R.ld o3 (by with_reducible repeat (first | exact Pick.here | apply Pick.there)) rfl) ?_ -- @chk:t35 vS (Instr.loadAt 3 t34)
      refine J.chkR fa62_5 ?_ -- @chk:t34 vS (Instr.fieldAt 62 t1 5)
      refine J.chkR (R.asI (cv3_5) (v := ((c.side.toNat : Nat) : Int)) (w8 (by omega))) ?_ -- @chk:t33 vS (convert 3 5 t32)
      refine J.chkR (R.ld o3 (by with_reducible repeat (first | exact Pick.here | apply Pick.there)) rfl) ?_ -- @chk:t32 vS (Instr.loadAt 3 t31)
      refine J.chkR fa62_4 ?_ -- @chk:t31 vS (Instr.fieldAt 62 t1 4)
      refine J.bsR (els := u8s [c.side.toNat, c.typ.toNat, c.flags.toNat]) bs130_3 rfl u8s_cell rfl (by decide) fun bt40 => ?_ -- @t40 vS (Instr.buildSlice 130 3 #[(0, t33), (1, t36), (2, t39)])
      refine J.callT en129 (s129 bt9 _ _ _ ((([] ++ [c.kind.toNat, c.sym.toNat]) ++ numB c.id_.toNat) ++ numB c.owner.toNat) _ _ _ [c.side.toNat, c.typ.toNat, c.flags.toNat] (by have n1 := numB_len (n := c.id_.toNat); have n2 := numB_len (n := c.owner.toNat); simp only [List.length_append, List.length_cons, List.length_nil, beB_len]; omega)) rfl (fun _ _ _ => trivial) (Take.cons (by (try dsimp only); repeat (first | (with_reducible exact Out.here) | ((with_reducible refine Out.cells ?_); first | rfl | (simp; done)) | ((with_reducible refine Out.row ?_); first | rfl | (simp; done)) | (with_reducible apply Out.there))) (Take.cons (by (try dsimp only); repeat (first | (with_reducible exact Out.here) | ((with_reducible refine Out.cells ?_); first | rfl | (simp; done)) | ((with_reducible refine Out.row ?_); first | rfl | (simp; done)) | (with_reducible apply Out.there))) (Take.cons (by (try dsimp only); repeat (first | (with_reducible exact Out.here) | ((with_reducible refine Out.cells ?_); first | rfl | (simp; done)) | ((with_reducible refine Out.row ?_); first | rfl | (simp; done)) | (with_reducible apply Out.there))) Take.nil))) (fun v es ht41 => ?_)
      obtain ⟨at41, nt41, ct41, rfl, rfl⟩ := ht41
      simp only [List.cons_append, List.nil_append] -- @t41 callS (.func (.func 129) #[] #[]) [t30, t40]
      refine J.done ?_ -- then tv = []
      refine J.op fa62_0 ?_
      refine J.op (R.ld o3 (by with_reducible repeat (first | exact Pick.here | apply Pick.there)) rfl) ?_ -- @t43 vS (Instr.loadAt 3 t42)
      refine J.opDT R.neq (by omega) ?_ -- @t44
      refine J.bind ?_ -- @tv_1 bind tv_1 ([])
      refine J.iteT ?_
      refine J.draw ?_
      refine J.op fa62_6 ?_
      refine J.op (R.ld o2 (by with_reducible repeat (first | exact Pick.here | apply Pick.there)) rfl) ?_ -- @t47 vS (Instr.loadAt 2 t46)
      refine J.op fa62_7 ?_
      refine J.op (R.ld o2 (by with_reducible repeat (first | exact Pick.here | apply Pick.there)) rfl) ?_ -- @t50 vS (Instr.loadAt 2 t49)
      refine J.callT en131 (s131 bt9 _ _ _ (((([] ++ [c.kind.toNat, c.sym.toNat]) ++ numB c.id_.toNat) ++ numB c.owner.toNat) ++ [c.side.toNat, c.typ.toNat, c.flags.toNat]) c.price (by omega) (by have n1 := numB_len (n := c.id_.toNat); have n2 := numB_len (n := c.owner.toNat); simp only [List.length_append, List.length_cons, List.length_nil, beB_len]; omega)) rfl (fun _ _ _ => trivial) (Take.cons (by (try dsimp only); repeat (first | (with_reducible exact Out.here) | ((with_reducible refine Out.cells ?_); first | rfl | (simp; done)) | ((with_reducible refine Out.row ?_); first | rfl | (simp; done)) | (with_reducible apply Out.there))) (Take.cons (by (try dsimp only); repeat (first | (with_reducible exact Out.here) | ((with_reducible refine Out.cells ?_); first | rfl | (simp; done)) | ((with_reducible refine Out.row ?_); first | rfl | (simp; done)) | (with_reducible apply Out.there))) Take.nil)) (fun v es ht48 => ?_)
      obtain ⟨at48, nt48, ct48, rfl, rfl⟩ := ht48
      simp only [List.cons_append, List.nil_append] -- @t48 callS (.func (.func 131) #[] #[]) [t9, t47]
      refine J.chkR (R.ld o2 (by with_reducible repeat (first | exact Pick.here | apply Pick.there)) rfl) ?_ -- @chk:t50 vS (Instr.loadAt 2 t49)
      refine J.chkR fa62_7 ?_ -- @chk:t49 vS (Instr.fieldAt 62 t1 7)
      refine J.callT en131 (s131 bt9 _ _ _ ((((([] ++ [c.kind.toNat, c.sym.toNat]) ++ numB c.id_.toNat) ++ numB c.owner.toNat) ++ [c.side.toNat, c.typ.toNat, c.flags.toNat]) ++ beB (2 * c.price.toNat) 8) c.qty (by omega) (by have n1 := numB_len (n := c.id_.toNat); have n2 := numB_len (n := c.owner.toNat); simp only [List.length_append, List.length_cons, List.length_nil, beB_len]; omega)) rfl (fun _ _ _ => trivial) (Take.cons (by (try dsimp only); repeat (first | (with_reducible exact Out.here) | ((with_reducible refine Out.cells ?_); first | rfl | (simp; done)) | ((with_reducible refine Out.row ?_); first | rfl | (simp; done)) | (with_reducible apply Out.there))) (Take.cons (by (try dsimp only); repeat (first | (with_reducible exact Out.here) | ((with_reducible refine Out.cells ?_); first | rfl | (simp; done)) | ((with_reducible refine Out.row ?_); first | rfl | (simp; done)) | (with_reducible apply Out.there))) Take.nil)) (fun v es ht51 => ?_)
      obtain ⟨at51, nt51, ct51, rfl, rfl⟩ := ht51
      simp only [List.cons_append, List.nil_append] -- @t51 callS (.func (.func 131) #[] #[]) [t48, t50]
      refine J.done ?_ -- then tv_1 = []
      refine J.callT en132 (s132 bt9 _ _ _ (((((([] ++ [c.kind.toNat, c.sym.toNat]) ++ numB c.id_.toNat) ++ numB c.owner.toNat) ++ [c.side.toNat, c.typ.toNat, c.flags.toNat]) ++ beB (2 * c.price.toNat) 8) ++ beB (2 * c.qty.toNat) 8) (by simp) (by have n1 := numB_len (n := c.id_.toNat); have n2 := numB_len (n := c.owner.toNat); simp only [List.length_append, List.length_cons, List.length_nil, beB_len]; omega)) rfl (fun _ _ _ => trivial) (Take.cons (by (try dsimp only); repeat (first | (with_reducible exact Out.here) | ((with_reducible refine Out.cells ?_); first | rfl | (simp; done)) | ((with_reducible refine Out.row ?_); first | rfl | (simp; done)) | (with_reducible apply Out.there))) (Take.cons (by (try dsimp only); repeat (first | (with_reducible exact Out.here) | ((with_reducible refine Out.cells ?_); first | rfl | (simp; done)) | ((with_reducible refine Out.row ?_); first | rfl | (simp; done)) | (with_reducible apply Out.there))) Take.nil)) (fun v es ht53 => ?_)
      obtain ⟨at53, nt53, ct53, rfl, rfl⟩ := ht53
      simp only [List.cons_append, List.nil_append] -- @t53 callS (.func (.func 132) #[] #[]) [t9]
      -- @ret[t53,(.int.i640)]
      refine J.done (RetQ.gt (es := [Ent.row (.slice at53 nt53 ct53) 1 (u8s ((((((([] ++ [c.kind.toNat, c.sym.toNat]) ++ numB c.id_.toNat) ++ numB c.owner.toNat) ++ [c.side.toNat, c.typ.toNat, c.flags.toNat]) ++ beB (2 * c.price.toNat) 8) ++ beB (2 * c.qty.toNat) 8))) 5]) (.tmp (.tmp (.nil))) ?_ ?_)
      · exact (by (try dsimp only); repeat (first | exact Has.nil | refine Has.cons (by repeat (first | (with_reducible exact Out.here) | ((with_reducible refine Out.cells ?_); first | rfl | (simp; done)) | ((with_reducible refine Out.row ?_); first | rfl | (simp; done)) | (with_reducible apply Out.there))) ?_))
      · exact ⟨_, _, _, rfl, by simp [cmdB, ht25]⟩
    · skip
      refine J.bsR (els := u8s [c.side.toNat, c.typ.toNat, c.flags.toNat]) bs130_3 rfl u8s_cell rfl (by decide) fun bt40_1 => ?_ -- @t40_1 vS (Instr.buildSlice 130 3 #[(0, t33), (1, t36), (2, t39)])
      refine J.chkR (R.asI (cv3_54) (v := ((c.owner.toNat : Nat) : Int)) (w64 (by omega))) ?_ -- @chk:t29 vS (convert 3 54 t28)
      refine J.chkR (R.ld o3 (by with_reducible repeat (first | exact Pick.here | apply Pick.there)) rfl) ?_ -- @chk:t28 vS (Instr.loadAt 3 t27)
      refine J.chkR fa62_3 ?_ -- @chk:t27 vS (Instr.fieldAt 62 t1 3)
      refine J.callT en130 (s130 bt9 _ _ _ (([] ++ [c.kind.toNat, c.sym.toNat]) ++ numB c.id_.toNat) c.owner.toNat (by omega) (by have n1 := numB_len (n := c.id_.toNat); have n2 := numB_len (n := c.owner.toNat); simp only [List.length_append, List.length_cons, List.length_nil, beB_len]; omega)) rfl (fun _ _ _ => trivial) (Take.cons (by (try dsimp only); repeat (first | (with_reducible exact Out.here) | ((with_reducible refine Out.cells ?_); first | rfl | (simp; done)) | ((with_reducible refine Out.row ?_); first | rfl | (simp; done)) | (with_reducible apply Out.there))) (Take.cons (by (try dsimp only); repeat (first | (with_reducible exact Out.here) | ((with_reducible refine Out.cells ?_); first | rfl | (simp; done)) | ((with_reducible refine Out.row ?_); first | rfl | (simp; done)) | (with_reducible apply Out.there))) Take.nil)) (fun v es ht30_1 => ?_)
      obtain ⟨at30_1, nt30_1, ct30_1, rfl, rfl⟩ := ht30_1
      simp only [List.cons_append, List.nil_append] -- @t30_1 callS (.func (.func 130) #[] #[]) [t9, t29]
      refine J.callT en129 (s129 bt9 _ _ _ ((([] ++ [c.kind.toNat, c.sym.toNat]) ++ numB c.id_.toNat) ++ numB c.owner.toNat) _ _ _ [c.side.toNat, c.typ.toNat, c.flags.toNat] (by have n1 := numB_len (n := c.id_.toNat); have n2 := numB_len (n := c.owner.toNat); simp only [List.length_append, List.length_cons, List.length_nil, beB_len]; omega)) rfl (fun _ _ _ => trivial) (Take.cons (by (try dsimp only); repeat (first | (with_reducible exact Out.here) | ((with_reducible refine Out.cells ?_); first | rfl | (simp; done)) | ((with_reducible refine Out.row ?_); first | rfl | (simp; done)) | (with_reducible apply Out.there))) (Take.cons (by (try dsimp only); repeat (first | (with_reducible exact Out.here) | ((with_reducible refine Out.cells ?_); first | rfl | (simp; done)) | ((with_reducible refine Out.row ?_); first | rfl | (simp; done)) | (with_reducible apply Out.there))) (Take.cons (by (try dsimp only); repeat (first | (with_reducible exact Out.here) | ((with_reducible refine Out.cells ?_); first | rfl | (simp; done)) | ((with_reducible refine Out.row ?_); first | rfl | (simp; done)) | (with_reducible apply Out.there))) Take.nil))) (fun v es ht41_1 => ?_)
      obtain ⟨at41_1, nt41_1, ct41_1, rfl, rfl⟩ := ht41_1
      simp only [List.cons_append, List.nil_append] -- @t41_1 callS (.func (.func 129) #[] #[]) [t30_1, t40_1]
      refine J.done ?_ -- then tv = []
      refine J.op fa62_0 ?_
      refine J.op (R.ld o3 (by with_reducible repeat (first | exact Pick.here | apply Pick.there)) rfl) ?_ -- @t43 vS (Instr.loadAt 3 t42)
      refine J.opDT R.neq (by omega) ?_ -- @t44#2
      refine J.bind ?_ -- @tv_1 bind tv_1 ([])
      refine J.iteT ?_
      refine J.draw ?_
      refine J.op fa62_6 ?_
      refine J.op (R.ld o2 (by with_reducible repeat (first | exact Pick.here | apply Pick.there)) rfl) ?_ -- @t47 vS (Instr.loadAt 2 t46)
      refine J.op fa62_7 ?_
      refine J.op (R.ld o2 (by with_reducible repeat (first | exact Pick.here | apply Pick.there)) rfl) ?_ -- @t50 vS (Instr.loadAt 2 t49)
      refine J.callT en131 (s131 bt9 _ _ _ (((([] ++ [c.kind.toNat, c.sym.toNat]) ++ numB c.id_.toNat) ++ numB c.owner.toNat) ++ [c.side.toNat, c.typ.toNat, c.flags.toNat]) c.price (by omega) (by have n1 := numB_len (n := c.id_.toNat); have n2 := numB_len (n := c.owner.toNat); simp only [List.length_append, List.length_cons, List.length_nil, beB_len]; omega)) rfl (fun _ _ _ => trivial) (Take.cons (by (try dsimp only); repeat (first | (with_reducible exact Out.here) | ((with_reducible refine Out.cells ?_); first | rfl | (simp; done)) | ((with_reducible refine Out.row ?_); first | rfl | (simp; done)) | (with_reducible apply Out.there))) (Take.cons (by (try dsimp only); repeat (first | (with_reducible exact Out.here) | ((with_reducible refine Out.cells ?_); first | rfl | (simp; done)) | ((with_reducible refine Out.row ?_); first | rfl | (simp; done)) | (with_reducible apply Out.there))) Take.nil)) (fun v es ht48 => ?_)
      obtain ⟨at48, nt48, ct48, rfl, rfl⟩ := ht48
      simp only [List.cons_append, List.nil_append] -- @t48 callS (.func (.func 131) #[] #[]) [t9, t47]
      refine J.chkR (R.ld o2 (by with_reducible repeat (first | exact Pick.here | apply Pick.there)) rfl) ?_ -- @chk:t50 vS (Instr.loadAt 2 t49)
      refine J.chkR fa62_7 ?_ -- @chk:t49 vS (Instr.fieldAt 62 t1 7)
      refine J.callT en131 (s131 bt9 _ _ _ ((((([] ++ [c.kind.toNat, c.sym.toNat]) ++ numB c.id_.toNat) ++ numB c.owner.toNat) ++ [c.side.toNat, c.typ.toNat, c.flags.toNat]) ++ beB (2 * c.price.toNat) 8) c.qty (by omega) (by have n1 := numB_len (n := c.id_.toNat); have n2 := numB_len (n := c.owner.toNat); simp only [List.length_append, List.length_cons, List.length_nil, beB_len]; omega)) rfl (fun _ _ _ => trivial) (Take.cons (by (try dsimp only); repeat (first | (with_reducible exact Out.here) | ((with_reducible refine Out.cells ?_); first | rfl | (simp; done)) | ((with_reducible refine Out.row ?_); first | rfl | (simp; done)) | (with_reducible apply Out.there))) (Take.cons (by (try dsimp only); repeat (first | (with_reducible exact Out.here) | ((with_reducible refine Out.cells ?_); first | rfl | (simp; done)) | ((with_reducible refine Out.row ?_); first | rfl | (simp; done)) | (with_reducible apply Out.there))) Take.nil)) (fun v es ht51 => ?_)
      obtain ⟨at51, nt51, ct51, rfl, rfl⟩ := ht51
      simp only [List.cons_append, List.nil_append] -- @t51 callS (.func (.func 131) #[] #[]) [t48, t50]
      refine J.done ?_ -- then tv_1 = []
      refine J.callT en132 (s132 bt9 _ _ _ (((((([] ++ [c.kind.toNat, c.sym.toNat]) ++ numB c.id_.toNat) ++ numB c.owner.toNat) ++ [c.side.toNat, c.typ.toNat, c.flags.toNat]) ++ beB (2 * c.price.toNat) 8) ++ beB (2 * c.qty.toNat) 8) (by simp) (by have n1 := numB_len (n := c.id_.toNat); have n2 := numB_len (n := c.owner.toNat); simp only [List.length_append, List.length_cons, List.length_nil, beB_len]; omega)) rfl (fun _ _ _ => trivial) (Take.cons (by (try dsimp only); repeat (first | (with_reducible exact Out.here) | ((with_reducible refine Out.cells ?_); first | rfl | (simp; done)) | ((with_reducible refine Out.row ?_); first | rfl | (simp; done)) | (with_reducible apply Out.there))) (Take.cons (by (try dsimp only); repeat (first | (with_reducible exact Out.here) | ((with_reducible refine Out.cells ?_); first | rfl | (simp; done)) | ((with_reducible refine Out.row ?_); first | rfl | (simp; done)) | (with_reducible apply Out.there))) Take.nil)) (fun v es ht53 => ?_)
      obtain ⟨at53, nt53, ct53, rfl, rfl⟩ := ht53
      simp only [List.cons_append, List.nil_append] -- @t53#2 callS (.func (.func 132) #[] #[]) [t9]
      -- @ret[t53,(.int.i640)]#2
      refine J.done (RetQ.gt (es := [Ent.row (.slice at53 nt53 ct53) 1 (u8s ((((((([] ++ [c.kind.toNat, c.sym.toNat]) ++ numB c.id_.toNat) ++ numB c.owner.toNat) ++ [c.side.toNat, c.typ.toNat, c.flags.toNat]) ++ beB (2 * c.price.toNat) 8) ++ beB (2 * c.qty.toNat) 8))) 5]) (.tmp (.tmp (.nil))) ?_ ?_)
      · exact (by (try dsimp only); repeat (first | exact Has.nil | refine Has.cons (by repeat (first | (with_reducible exact Out.here) | ((with_reducible refine Out.cells ?_); first | rfl | (simp; done)) | ((with_reducible refine Out.row ?_); first | rfl | (simp; done)) | (with_reducible apply Out.there))) ?_))
      · exact ⟨_, _, _, rfl, by simp [cmdB, ht25]⟩
  · skip
    refine J.bind ?_ -- @tv bind tv ([])
    refine J.iteF ?_
    refine J.done ?_ -- then tv = []
    refine J.op fa62_0 ?_
    refine J.op (R.ld o3 (by with_reducible repeat (first | exact Pick.here | apply Pick.there)) rfl) ?_ -- @t43 vS (Instr.loadAt 3 t42)
    refine J.opDF R.neq (by omega) ?_ -- @t44#3
    refine J.bind ?_ -- @tv_1 bind tv_1 ([])
    refine J.iteF ?_
    refine J.done ?_ -- then tv_1 = []
    refine J.callT en132 (s132 bt9 _ _ _ (([] ++ [c.kind.toNat, c.sym.toNat]) ++ numB c.id_.toNat) (by simp) (by have n1 := numB_len (n := c.id_.toNat); have n2 := numB_len (n := c.owner.toNat); simp only [List.length_append, List.length_cons, List.length_nil, beB_len]; omega)) rfl (fun _ _ _ => trivial) (Take.cons (by (try dsimp only); repeat (first | (with_reducible exact Out.here) | ((with_reducible refine Out.cells ?_); first | rfl | (simp; done)) | ((with_reducible refine Out.row ?_); first | rfl | (simp; done)) | (with_reducible apply Out.there))) (Take.cons (by (try dsimp only); repeat (first | (with_reducible exact Out.here) | ((with_reducible refine Out.cells ?_); first | rfl | (simp; done)) | ((with_reducible refine Out.row ?_); first | rfl | (simp; done)) | (with_reducible apply Out.there))) Take.nil)) (fun v es ht53 => ?_)
    obtain ⟨at53, nt53, ct53, rfl, rfl⟩ := ht53
    simp only [List.cons_append, List.nil_append] -- @t53#3 callS (.func (.func 132) #[] #[]) [t9]
    -- @ret[t53,(.int.i640)]#3
    refine J.done (RetQ.gt (es := [Ent.row (.slice at53 nt53 ct53) 1 (u8s ((([] ++ [c.kind.toNat, c.sym.toNat]) ++ numB c.id_.toNat))) 5]) (.tmp (.tmp (.nil))) ?_ ?_)
    · exact (by (try dsimp only); repeat (first | exact Has.nil | refine Has.cons (by repeat (first | (with_reducible exact Out.here) | ((with_reducible refine Out.cells ?_); first | rfl | (simp; done)) | ((with_reducible refine Out.row ?_); first | rfl | (simp; done)) | (with_reducible apply Out.there))) ?_))
    · exact ⟨_, _, _, rfl, by simp [cmdB, h1.resolve_left ht25]⟩
end Go.Proofs.Ytipgdalebkhgpaa
