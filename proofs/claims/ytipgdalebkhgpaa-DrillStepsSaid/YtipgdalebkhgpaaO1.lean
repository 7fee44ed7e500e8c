/-
  Contracts of functions.
-/
import Derived.Test.YtipgdalebkhgpaaTerms1
import Derived.Test.YtipgdalebkhgpaaTerms2
import Derived.Test.YtipgdalebkhgpaaTab
import Derived.Test.YtipgdalebkhgpaaModOrd
import Derived.Test.YtipgdalebkhgpaaG1
set_option maxRecDepth 100000
set_option maxHeartbeats 4000000
set_option linter.unusedVariables false
set_option linter.unusedSimpArgs false
namespace Go.Proofs.Ytipgdalebkhgpaa
open Go Go.RowKit Fw
/-- (*damper/drill.Dice).shift -/
theorem s60 (b k : Nat) (x kind i side : Int) (hi : 0 ≤ i ∧ i ≤ 2000) (hs : side = 0 ∨ side = 1) :
    FnT Try.prog 60 [.pointer (some ⟨b, 0, none⟩), .int .i64 kind, .int .i64 i, .int .i64 side] (fun _ => True) [Ent.cells b [.int .u64 (dn k x)] 119] (fun v es => v = .int .i64 (shiftM k kind i side x) ∧ es = [Ent.cells b [.int .u64 (dn (k + 1) x)] 119]) := by
  refine fn_of_J (cx := cx60) hmix Try.func60 (by kernel_rfl) (eq60 _ _ _ _) fun w hw => ?_
  have h81 := th_range (k := k) (x := x) (n := 81) (by decide)
  have h9 := th_range (k := k) (x := x) (n := 9) (by decide)
  refine J.opD R.eql (fun ht11 => ?_) (fun ht11 => ?_) -- @t11 binS .eql 3 (.tmp 10) (.const (.int .i64 4)) a1 (.int .i64 4)
  · skip
    refine J.iteT ?_
    refine J.callT en27 (Next_pos b x 81 (k) (by decide)) rfl (fun _ _ _ => trivial) (Take.cons (by (try dsimp only); repeat (first | (with_reducible exact Out.here) | ((with_reducible refine Out.cells ?_); first | rfl | (simp; done)) | ((with_reducible refine Out.row ?_); first | rfl | (simp; done)) | (with_reducible apply Out.there))) Take.nil) (fun v es hv => ?_)
    obtain ⟨rfl, rfl⟩ := hv
    simp only [List.cons_append, List.nil_append] -- @t13 callS (.func (.func 27) #[] #[]) [a0, (.int .i64 81)]
    refine J.op (R.sub64 (by omega)) ?_ -- @t14 binS .sub 2 (.tmp 13) (.const (.int .i64 40)) t13 (.int .i64 40)
    -- @ret[t14]
    exact J.done (RetQ.gt (.tmp (.nil)) (by (try dsimp only); repeat (first | exact Has.nil | refine Has.cons (by repeat (first | (with_reducible exact Out.here) | ((with_reducible refine Out.cells ?_); first | rfl | (simp; done)) | ((with_reducible refine Out.row ?_); first | rfl | (simp; done)) | (with_reducible apply Out.there))) ?_)) (⟨by simp only [mkRes, shiftM, if_pos ht11], rfl⟩))
  · skip
    refine J.iteF ?_
    refine J.callT en27 (Next_pos b x 9 (k) (by decide)) rfl (fun _ _ _ => trivial) (Take.cons (by (try dsimp only); repeat (first | (with_reducible exact Out.here) | ((with_reducible refine Out.cells ?_); first | rfl | (simp; done)) | ((with_reducible refine Out.row ?_); first | rfl | (simp; done)) | (with_reducible apply Out.there))) Take.nil) (fun v es hv => ?_)
    obtain ⟨rfl, rfl⟩ := hv
    simp only [List.cons_append, List.nil_append] -- @t16 callS (.func (.func 27) #[] #[]) [a0, (.int .i64 9)]
    refine J.op (R.sub64 (by omega)) ?_ -- @t17 binS .sub 2 (.tmp 16) (.const (.int .i64 4)) t16 (.int .i64 4)
    refine J.bind ?_ -- @tv_3 bind tv_3 ([9])
    refine J.block ?_
    refine J.opD R.eql (fun ht20 => ?_) (fun ht20 => ?_) -- @t20 binS .eql 3 (.tmp 18) (.const (.int .i64 1)) a1 (.int .i64 1)
    · skip
      refine J.bind ?_ -- @tv_2 bind tv_2 ([9])
      refine J.iteT ?_
      refine J.op (R.asI (R.quo (by decide)) (v := i / 4) (by rw [Int.tdiv_eq_ediv_of_nonneg (by omega), i64_in _ (by omega)])) ?_ -- @t23 binS .quo 3 (.tmp 22) (.const (.int .i64 4)) a2 (.int .i64 4)
      refine J.op (R.sub64 (by omega)) ?_ -- @t24 binS .sub 2 (.tmp 21) (.tmp 23) t17 t23
      refine J.done ?_ -- then tv_2 = [t24]
      refine J.done ?_ -- then tv_3 = [(tv_2.headD undef)]
      -- @ret[(tv_3.headDundef)]
      exact J.done (RetQ.gt (.tmp (.nil)) (by (try dsimp only); repeat (first | exact Has.nil | refine Has.cons (by repeat (first | (with_reducible exact Out.here) | ((with_reducible refine Out.cells ?_); first | rfl | (simp; done)) | ((with_reducible refine Out.row ?_); first | rfl | (simp; done)) | (with_reducible apply Out.there))) ?_)) (⟨by simp only [mkRes, shiftM, if_neg ht11, if_pos ht20]; rfl, rfl⟩))
    · skip
      refine J.bind ?_ -- @tv_2 bind tv_2 ([9])
      refine J.iteF ?_
      refine J.opD R.eql (fun ht26 => ?_) (fun ht26 => ?_) -- @t26 binS .eql 3 (.tmp 18) (.const (.int .i64 2)) a1 (.int .i64 2)
      · skip
        refine J.bind ?_ -- @tv_1 bind tv_1 ([9])
        refine J.iteT ?_
        refine J.op (R.asI (R.quo (by decide)) (v := i / 4) (by rw [Int.tdiv_eq_ediv_of_nonneg (by omega), i64_in _ (by omega)])) ?_ -- @t29 binS .quo 3 (.tmp 28) (.const (.int .i64 4)) a2 (.int .i64 4)
        refine J.op (R.add64 (by omega)) ?_ -- @t30 binS .add 2 (.tmp 27) (.tmp 29) t17 t29
        refine J.done ?_ -- then tv_1 = [t30]
        refine J.done ?_ -- then tv_2 = [(tv_1.headD undef)]
        refine J.done ?_ -- then tv_3 = [(tv_2.headD undef)]
        -- @ret[(tv_3.headDundef)]#2
        exact J.done (RetQ.gt (.tmp (.nil)) (by (try dsimp only); repeat (first | exact Has.nil | refine Has.cons (by repeat (first | (with_reducible exact Out.here) | ((with_reducible refine Out.cells ?_); first | rfl | (simp; done)) | ((with_reducible refine Out.row ?_); first | rfl | (simp; done)) | (with_reducible apply Out.there))) ?_)) (⟨by simp only [mkRes, shiftM, if_neg ht11, if_neg ht20, if_pos ht26]; rfl, rfl⟩))
      · skip
        refine J.bind ?_ -- @tv_1 bind tv_1 ([9])
        refine J.iteF ?_
        refine J.opD R.eql (fun ht32 => ?_) (fun ht32 => ?_) -- @t32 binS .eql 3 (.tmp 18) (.const (.int .i64 3)) a1 (.int .i64 3)
        · skip
          refine J.bind ?_ -- @tv bind tv ([9])
          refine J.iteT ?_
          refine J.op (R.asI R.mul (v := 6 * side) (i64_in _ (by omega))) ?_ -- @t35 binS .mul 2 (.const (.int .i64 6)) (.tmp 34) (.int .i64 6) a3
          refine J.op (R.sub64 (by omega)) ?_ -- @t36 binS .sub 2 (.const (.int .i64 3)) (.tmp 35) (.int .i64 3) t35
          refine J.op (R.add64 (by omega)) ?_ -- @t37 binS .add 2 (.tmp 33) (.tmp 36) t17 t36
          refine J.done ?_ -- then tv = [t37]
          refine J.done ?_ -- then tv_1 = [(tv.headD undef)]
          refine J.done ?_ -- then tv_2 = [(tv_1.headD undef)]
          refine J.done ?_ -- then tv_3 = [(tv_2.headD undef)]
          -- @ret[(tv_3.headDundef)]#3
          exact J.done (RetQ.gt (.tmp (.nil)) (by (try dsimp only); repeat (first | exact Has.nil | refine Has.cons (by repeat (first | (with_reducible exact Out.here) | ((with_reducible refine Out.cells ?_); first | rfl | (simp; done)) | ((with_reducible refine Out.row ?_); first | rfl | (simp; done)) | (with_reducible apply Out.there))) ?_)) (⟨by simp only [mkRes, shiftM, if_neg ht11, if_neg ht20, if_neg ht26, if_pos ht32]; rcases hs with rfl | rfl <;> rfl, rfl⟩))
        · skip
          refine J.bind ?_ -- @tv bind tv ([9])
          refine J.iteF ?_
          refine J.done ?_ -- then tv = [t17]
          refine J.done ?_ -- then tv_1 = [(tv.headD undef)]
          refine J.done ?_ -- then tv_2 = [(tv_1.headD undef)]
          refine J.done ?_ -- then tv_3 = [(tv_2.headD undef)]
          -- @ret[(tv_3.headDundef)]#4
          exact J.done (RetQ.gt (.tmp (.nil)) (by (try dsimp only); repeat (first | exact Has.nil | refine Has.cons (by repeat (first | (with_reducible exact Out.here) | ((with_reducible refine Out.cells ?_); first | rfl | (simp; done)) | ((with_reducible refine Out.row ?_); first | rfl | (simp; done)) | (with_reducible apply Out.there))) ?_)) (⟨by simp only [mkRes, shiftM, if_neg ht11, if_neg ht20, if_neg ht26, if_neg ht32]; rfl, rfl⟩))

/-- damper/damperref37.shift -/
theorem s63 (b k : Nat) (x kind i side : Int) (hi : 0 ≤ i ∧ i ≤ 2000) (hs : side = 0 ∨ side = 1) :
    FnT Try.prog 63 [.pointer (some ⟨b, 0, none⟩), .int .i64 kind, .int .i64 i, .int .i64 side] (fun _ => True) [Ent.cells b [.int .u64 (dn k x)] 60] (fun v es => v = .int .i64 (shiftM k kind i side x) ∧ es = [Ent.cells b [.int .u64 (dn (k + 1) x)] 60]) := by
  refine fn_of_J (cx := cx63) hmix Try.func63 (by kernel_rfl) (eq63 _ _ _ _) fun w hw => ?_
  have h81 := th_range (k := k) (x := x) (n := 81) (by decide)
  have h9 := th_range (k := k) (x := x) (n := 9) (by decide)
  refine J.opD R.eql (fun ht11 => ?_) (fun ht11 => ?_) -- @t11 binS .eql 3 (.tmp 10) (.const (.int .i64 4)) a1 (.int .i64 4)
  · skip
    refine J.iteT ?_
    refine J.callT en28 (RefNext_pos b x 81 (k) (by decide)) rfl (fun _ _ _ => trivial) (Take.cons (by (try dsimp only); repeat (first | (with_reducible exact Out.here) | ((with_reducible refine Out.cells ?_); first | rfl | (simp; done)) | ((with_reducible refine Out.row ?_); first | rfl | (simp; done)) | (with_reducible apply Out.there))) Take.nil) (fun v es hv => ?_)
    obtain ⟨rfl, rfl⟩ := hv
    simp only [List.cons_append, List.nil_append] -- @t13 callS (.func (.func 28) #[] #[]) [a0, (.int .i64 81)]
    refine J.op (R.sub64 (by omega)) ?_ -- @t14 binS .sub 2 (.tmp 13) (.const (.int .i64 40)) t13 (.int .i64 40)
    -- @ret[t14]
    exact J.done (RetQ.gt (.tmp (.nil)) (by (try dsimp only); repeat (first | exact Has.nil | refine Has.cons (by repeat (first | (with_reducible exact Out.here) | ((with_reducible refine Out.cells ?_); first | rfl | (simp; done)) | ((with_reducible refine Out.row ?_); first | rfl | (simp; done)) | (with_reducible apply Out.there))) ?_)) (⟨by simp only [mkRes, shiftM, if_pos ht11], rfl⟩))
  · skip
    refine J.iteF ?_
    refine J.callT en28 (RefNext_pos b x 9 (k) (by decide)) rfl (fun _ _ _ => trivial) (Take.cons (by (try dsimp only); repeat (first | (with_reducible exact Out.here) | ((with_reducible refine Out.cells ?_); first | rfl | (simp; done)) | ((with_reducible refine Out.row ?_); first | rfl | (simp; done)) | (with_reducible apply Out.there))) Take.nil) (fun v es hv => ?_)
    obtain ⟨rfl, rfl⟩ := hv
    simp only [List.cons_append, List.nil_append] -- @t16 callS (.func (.func 28) #[] #[]) [a0, (.int .i64 9)]
    refine J.op (R.sub64 (by omega)) ?_ -- @t17 binS .sub 2 (.tmp 16) (.const (.int .i64 4)) t16 (.int .i64 4)
    refine J.bind ?_ -- @tv_1 bind tv_1 ([8])
    refine J.block ?_
    refine J.opD R.eql (fun ht20 => ?_) (fun ht20 => ?_) -- @t20 binS .eql 3 (.tmp 19) (.const (.int .i64 1)) a1 (.int .i64 1)
    · skip
      refine J.iteT ?_
      refine J.op (R.asI (R.quo (by decide)) (v := i / 4) (by rw [Int.tdiv_eq_ediv_of_nonneg (by omega), i64_in _ (by omega)])) ?_ -- @t23 binS .quo 3 (.tmp 22) (.const (.int .i64 4)) a2 (.int .i64 4)
      refine J.op (R.sub64 (by omega)) ?_ -- @t24 binS .sub 2 (.tmp 21) (.tmp 23) t17 t23
      -- @ret[t24]
      exact J.done (RetQ.gt (.tmp (.nil)) (by (try dsimp only); repeat (first | exact Has.nil | refine Has.cons (by repeat (first | (with_reducible exact Out.here) | ((with_reducible refine Out.cells ?_); first | rfl | (simp; done)) | ((with_reducible refine Out.row ?_); first | rfl | (simp; done)) | (with_reducible apply Out.there))) ?_)) (⟨by simp only [mkRes, Value.int.injEq, true_and]; unfold shiftM; (repeat' split) <;> omega, rfl⟩))
    · skip
      refine J.iteF ?_
      refine J.opD R.eql (fun ht27 => ?_) (fun ht27 => ?_) -- @t27 binS .eql 3 (.tmp 26) (.const (.int .i64 2)) a1 (.int .i64 2)
      · skip
        refine J.iteT ?_
        refine J.op (R.asI (R.quo (by decide)) (v := i / 4) (by rw [Int.tdiv_eq_ediv_of_nonneg (by omega), i64_in _ (by omega)])) ?_ -- @t30 binS .quo 3 (.tmp 29) (.const (.int .i64 4)) a2 (.int .i64 4)
        refine J.op (R.add64 (by omega)) ?_ -- @t31 binS .add 2 (.tmp 28) (.tmp 30) t17 t30
        -- @ret[t31]
        exact J.done (RetQ.gt (.tmp (.nil)) (by (try dsimp only); repeat (first | exact Has.nil | refine Has.cons (by repeat (first | (with_reducible exact Out.here) | ((with_reducible refine Out.cells ?_); first | rfl | (simp; done)) | ((with_reducible refine Out.row ?_); first | rfl | (simp; done)) | (with_reducible apply Out.there))) ?_)) (⟨by simp only [mkRes, Value.int.injEq, true_and]; unfold shiftM; (repeat' split) <;> omega, rfl⟩))
      · skip
        refine J.iteF ?_
        refine J.bind ?_ -- @tv bind tv ([32])
        refine J.opD R.eql (fun ht34 => ?_) (fun ht34 => ?_) -- @t34 binS .eql 3 (.tmp 33) (.const (.int .i64 3)) a1 (.int .i64 3)
        · skip
          refine J.gopT rfl ?_
          refine J.op R.pure ?_
          refine J.gopT rfl ?_
          refine J.opD R.eql (fun ht37 => ?_) (fun ht37 => ?_) -- @t37 binS .eql 3 (.tmp 36) (.const (.int .i64 0)) t36 (.int .i64 0)
          · skip
            refine J.op R.pickT ?_ -- @t38 pickS t34 t37 (.bool false)
            refine J.done ?_ -- then tv = [t38]
            refine J.iteT ?_
            refine J.op (R.add64 (by omega)) ?_ -- @t40 binS .add 2 (.tmp 39) (.const (.int .i64 3)) t17 (.int .i64 3)
            -- @ret[t40]
            exact J.done (RetQ.gt (.tmp (.nil)) (by (try dsimp only); repeat (first | exact Has.nil | refine Has.cons (by repeat (first | (with_reducible exact Out.here) | ((with_reducible refine Out.cells ?_); first | rfl | (simp; done)) | ((with_reducible refine Out.row ?_); first | rfl | (simp; done)) | (with_reducible apply Out.there))) ?_)) (⟨by simp only [mkRes, Value.int.injEq, true_and]; unfold shiftM; (repeat' split) <;> omega, rfl⟩))
          · skip
            refine J.op R.pickT ?_ -- @t38 pickS t34 t37 (.bool false)
            refine J.done ?_ -- then tv = [t38]
            refine J.iteF ?_
            refine J.opD R.eql (fun ht43 => ?_) (fun ht43 => ?_) -- @t43 binS .eql 3 (.tmp 42) (.const (.int .i64 3)) a1 (.int .i64 3)
            · skip
              refine J.iteT ?_
              refine J.op (R.sub64 (by omega)) ?_ -- @t45 binS .sub 2 (.tmp 44) (.const (.int .i64 3)) t17 (.int .i64 3)
              -- @ret[t45]
              exact J.done (RetQ.gt (.tmp (.nil)) (by (try dsimp only); repeat (first | exact Has.nil | refine Has.cons (by repeat (first | (with_reducible exact Out.here) | ((with_reducible refine Out.cells ?_); first | rfl | (simp; done)) | ((with_reducible refine Out.row ?_); first | rfl | (simp; done)) | (with_reducible apply Out.there))) ?_)) (⟨by simp only [mkRes, Value.int.injEq, true_and]; unfold shiftM; (repeat' split) <;> omega, rfl⟩))
            · skip
              refine J.iteF ?_
              refine J.done ?_ -- then tv_1 = [(.int .i64 0)]
              -- @ret[t17]
              exact J.done (RetQ.gt (.tmp (.nil)) (by (try dsimp only); repeat (first | exact Has.nil | refine Has.cons (by repeat (first | (with_reducible exact Out.here) | ((with_reducible refine Out.cells ?_); first | rfl | (simp; done)) | ((with_reducible refine Out.row ?_); first | rfl | (simp; done)) | (with_reducible apply Out.there))) ?_)) (⟨by simp only [mkRes, Value.int.injEq, true_and]; unfold shiftM; (repeat' split) <;> omega, rfl⟩))
        · skip
          refine J.gopF rfl ?_
          refine J.gopF rfl ?_
          refine J.op R.pickF ?_ -- @t38 pickS t34 t37 (.bool false)
          refine J.done ?_ -- then tv = [t38]
          refine J.iteF ?_
          refine J.opD R.eql (fun ht43 => ?_) (fun ht43 => ?_) -- @t43 binS .eql 3 (.tmp 42) (.const (.int .i64 3)) a1 (.int .i64 3)
          · skip
            refine J.iteT ?_
            refine J.op (R.sub64 (by omega)) ?_ -- @t45 binS .sub 2 (.tmp 44) (.const (.int .i64 3)) t17 (.int .i64 3)
            -- @ret[t45]
            exact J.done (RetQ.gt (.tmp (.nil)) (by (try dsimp only); repeat (first | exact Has.nil | refine Has.cons (by repeat (first | (with_reducible exact Out.here) | ((with_reducible refine Out.cells ?_); first | rfl | (simp; done)) | ((with_reducible refine Out.row ?_); first | rfl | (simp; done)) | (with_reducible apply Out.there))) ?_)) (⟨by simp only [mkRes, Value.int.injEq, true_and]; unfold shiftM; (repeat' split) <;> omega, rfl⟩))
          · skip
            refine J.iteF ?_
            refine J.done ?_ -- then tv_1 = [(.int .i64 0)]
            -- @ret[t17]
            exact J.done (RetQ.gt (.tmp (.nil)) (by (try dsimp only); repeat (first | exact Has.nil | refine Has.cons (by repeat (first | (with_reducible exact Out.here) | ((with_reducible refine Out.cells ?_); first | rfl | (simp; done)) | ((with_reducible refine Out.row ?_); first | rfl | (simp; done)) | (with_reducible apply Out.there))) ?_)) (⟨by simp only [mkRes, Value.int.injEq, true_and]; unfold shiftM; (repeat' split) <;> omega, rfl⟩))

/-- (*damper/drill.Dice).kind -/
theorem s61 (b k : Nat) (x kind : Int) :
    FnT Try.prog 61 [.pointer (some ⟨b, 0, none⟩), .int .i64 kind] (fun _ => True) [Ent.cells b [.int .u64 (dn k x)] 119] (fun v es => v = .int .i64 (kindM k kind x) ∧ es = [Ent.cells b [.int .u64 (dn (k + 1) x)] 119]) := by
  refine fn_of_J (cx := cx61) hmix Try.func61 (by kernel_rfl) (eq61 _ _) fun w hw => ?_
  refine J.callT en27 (Next_pos b x 8 (k) (by decide)) rfl (fun _ _ _ => trivial) (Take.cons (by (try dsimp only); repeat (first | (with_reducible exact Out.here) | ((with_reducible refine Out.cells ?_); first | rfl | (simp; done)) | ((with_reducible refine Out.row ?_); first | rfl | (simp; done)) | (with_reducible apply Out.there))) Take.nil) (fun v es hv => ?_)
  obtain ⟨rfl, rfl⟩ := hv
  simp only [List.cons_append, List.nil_append] -- @t7 callS (.func (.func 27) #[] #[]) [a0, (.int .i64 8)]
  refine J.bind ?_ -- @tv_1 bind tv_1 ([4])
  refine J.block ?_
  refine J.opD R.eql (fun ht10 => ?_) (fun ht10 => ?_) -- @t10 binS .eql 2 (.tmp 9) (.const (.int .i64 0)) t7 (.int .i64 0)
  · skip
    refine J.iteT ?_
    -- @ret[(.int.i643)]
    exact J.done (RetQ.gt (.tmp (.nil)) (by (try dsimp only); repeat (first | exact Has.nil | refine Has.cons (by repeat (first | (with_reducible exact Out.here) | ((with_reducible refine Out.cells ?_); first | rfl | (simp; done)) | ((with_reducible refine Out.row ?_); first | rfl | (simp; done)) | (with_reducible apply Out.there))) ?_)) (⟨by simp only [mkRes, Value.int.injEq, true_and]; unfold kindM; (repeat' split) <;> omega, rfl⟩))
  · skip
    refine J.iteF ?_
    refine J.opD R.eql (fun ht13 => ?_) (fun ht13 => ?_) -- @t13 binS .eql 2 (.tmp 12) (.const (.int .i64 1)) t7 (.int .i64 1)
    · skip
      refine J.iteT ?_
      -- @ret[(.int.i645)]
      exact J.done (RetQ.gt (.tmp (.nil)) (by (try dsimp only); repeat (first | exact Has.nil | refine Has.cons (by repeat (first | (with_reducible exact Out.here) | ((with_reducible refine Out.cells ?_); first | rfl | (simp; done)) | ((with_reducible refine Out.row ?_); first | rfl | (simp; done)) | (with_reducible apply Out.there))) ?_)) (⟨by simp only [mkRes, Value.int.injEq, true_and]; unfold kindM; (repeat' split) <;> omega, rfl⟩))
    · skip
      refine J.iteF ?_
      refine J.bind ?_ -- @tv bind tv ([14])
      refine J.opD R.eql (fun ht16 => ?_) (fun ht16 => ?_) -- @t16 binS .eql 2 (.tmp 15) (.const (.int .i64 2)) t7 (.int .i64 2)
      · skip
        refine J.gopT rfl ?_
        refine J.op R.pure ?_
        refine J.gopT rfl ?_
        refine J.opD R.eql (fun ht19 => ?_) (fun ht19 => ?_) -- @t19 binS .eql 3 (.tmp 18) (.const (.int .i64 4)) t18 (.int .i64 4)
        · skip
          refine J.op R.pickT ?_ -- @t20 pickS t16 t19 (.bool false)
          refine J.done ?_ -- then tv = [t20]
          refine J.iteT ?_
          -- @ret[(.int.i642)]
          exact J.done (RetQ.gt (.tmp (.nil)) (by (try dsimp only); repeat (first | exact Has.nil | refine Has.cons (by repeat (first | (with_reducible exact Out.here) | ((with_reducible refine Out.cells ?_); first | rfl | (simp; done)) | ((with_reducible refine Out.row ?_); first | rfl | (simp; done)) | (with_reducible apply Out.there))) ?_)) (⟨by simp only [mkRes, Value.int.injEq, true_and]; unfold kindM; (repeat' split) <;> omega, rfl⟩))
        · skip
          refine J.op R.pickT ?_ -- @t20 pickS t16 t19 (.bool false)
          refine J.done ?_ -- then tv = [t20]
          refine J.iteF ?_
          refine J.done ?_ -- then tv_1 = [(.int .i64 0)]
          -- @ret[(.int.i641)]
          exact J.done (RetQ.gt (.tmp (.nil)) (by (try dsimp only); repeat (first | exact Has.nil | refine Has.cons (by repeat (first | (with_reducible exact Out.here) | ((with_reducible refine Out.cells ?_); first | rfl | (simp; done)) | ((with_reducible refine Out.row ?_); first | rfl | (simp; done)) | (with_reducible apply Out.there))) ?_)) (⟨by simp only [mkRes, Value.int.injEq, true_and]; unfold kindM; (repeat' split) <;> omega, rfl⟩))
      · skip
        refine J.gopF rfl ?_
        refine J.gopF rfl ?_
        refine J.op R.pickF ?_ -- @t20 pickS t16 t19 (.bool false)
        refine J.done ?_ -- then tv = [t20]
        refine J.iteF ?_
        refine J.done ?_ -- then tv_1 = [(.int .i64 0)]
        -- @ret[(.int.i641)]
        exact J.done (RetQ.gt (.tmp (.nil)) (by (try dsimp only); repeat (first | exact Has.nil | refine Has.cons (by repeat (first | (with_reducible exact Out.here) | ((with_reducible refine Out.cells ?_); first | rfl | (simp; done)) | ((with_reducible refine Out.row ?_); first | rfl | (simp; done)) | (with_reducible apply Out.there))) ?_)) (⟨by simp only [mkRes, Value.int.injEq, true_and]; unfold kindM; (repeat' split) <;> omega, rfl⟩))

/-- damper/drill.right -/
theorem s58 (x y : Value) (c : Cfg) (kind : Int) :
    FnE Try.prog 58 [.agg (c.cells x y).toArray, .int .i64 kind] (c.at x y) (.int .i64 (rightF c kind)) := by
  refine fn_of_J (cx := cx58) hmix Try.func58 (by kernel_rfl) (eq58 _ _) fun w hw => ?_
  have hX : ∀ H, SeeS ⟨Try.prog, w, footOf []⟩ H x 16 (syms c.syms) := fun H => SeeS.ofW0 hw.1 syms_ne
  have hY : ∀ H, SeeS ⟨Try.prog, w, footOf []⟩ H y 2 (trows c.rows) := fun H => SeeS.ofW0 hw.2 trows_ne
  have hm := hw.1.le
  simp only [syms_len, maxLen] at hm
  have hm2 := hw.2.le
  simp only [trows_len, maxLen] at hm2
  refine J.boxA fun bt2 => ?_
  refine J.op (R.ldA ag53 (by with_reducible repeat (first | exact Pick.here | apply Pick.there)) rfl) ?_ -- @t8 vS (Instr.loadAt 53 t2)
  refine J.callE en70 (s70 x y c) rfl (fun _ _ hs => Cfg.at_stab _ _ hs.ext hw) ?_ -- @t9 callS (.func (.func 70) #[] #[]) [t8]
  refine J.op (R.ext rfl) ?_ -- @t10 vS (Instr.extract t9 0)
  refine J.op (R.ext rfl) ?_ -- @t11 vS (Instr.extract t9 1)
  refine J.opD R.neq (fun ht13 => ?_) (fun ht13 => ?_) -- @t13 binS .neq 25 (.tmp 12) (.const (.int .i64 0)) t10 (.int .i64 0)
  · skip
    refine J.iteT ?_
    -- @ret[t10]
    exact J.done (RetQ.ge (.tmp (.nil)) (by first | rfl | (simp [rightF, mkRes, *]; done) | (simp_all [rightF, mkRes]; done) | (simp_all [rightF, mkRes]; first | omega | (rw [decide_eq_false_iff_not]; omega) | (rw [decide_eq_true_iff]; omega)) | (simp only [rightF, mkRes]; (repeat' split) <;> first | rfl | omega | (simp_all; done) | (simp_all; omega))))
  · skip
    refine J.iteF ?_
    refine J.bind ?_ -- @tv bind tv ([20])
    refine J.opD R.lss (fun ht16 => ?_) (fun ht16 => ?_) -- @t16 binS .lss 3 (.tmp 15) (.const (.int .i64 0)) a1 (.int .i64 0)
    · skip
      refine J.gopF rfl ?_
      refine J.gopF rfl ?_
      refine J.op R.pickT ?_ -- @t20 pickS t16 (.bool true) t19
      refine J.done ?_ -- then tv = [t20]
      refine J.iteT ?_
      -- @ret[(.int.i641)]
      exact J.done (RetQ.ge (.tmp (.nil)) (by first | rfl | (simp [rightF, mkRes, *]; done) | (simp_all [rightF, mkRes]; done) | (simp_all [rightF, mkRes]; first | omega | (rw [decide_eq_false_iff_not]; omega) | (rw [decide_eq_true_iff]; omega)) | (simp only [rightF, mkRes]; (repeat' split) <;> first | rfl | omega | (simp_all; done) | (simp_all; omega))))
    · skip
      refine J.gopT rfl ?_
      refine J.op R.pure ?_
      refine J.gopT rfl ?_
      refine J.op R.gtr ?_ -- @t19 binS .gtr 3 (.tmp 18) (.const (.int .i64 4)) t18 (.int .i64 4)
      refine J.op R.pickF ?_ -- @t20 pickS t16 (.bool true) t19
      refine J.done ?_ -- then tv = [t20]
      refine J.iteB (fun hctvheadDundef => ?_) (fun hctvheadDundef => ?_) -- ite (tv.headD undef)
      · try simp only [List.headD_cons, List.tail_cons, decide_eq_true_eq] at hctvheadDundef
        -- @ret[(.int.i641)]
        exact J.done (RetQ.ge (.tmp (.nil)) (by first | rfl | (simp [rightF, mkRes, *]; done) | (simp_all [rightF, mkRes]; done) | (simp_all [rightF, mkRes]; first | omega | (rw [decide_eq_false_iff_not]; omega) | (rw [decide_eq_true_iff]; omega)) | (simp only [rightF, mkRes]; (repeat' split) <;> first | rfl | omega | (simp_all; done) | (simp_all; omega))))
      · try simp only [List.headD_cons, List.tail_cons, decide_eq_false_iff_not] at hctvheadDundef
        -- @ret[(.int.i640)]
        exact J.done (RetQ.ge (.tmp (.nil)) (by first | rfl | (simp [rightF, mkRes, *]; done) | (simp_all [rightF, mkRes]; done) | (simp_all [rightF, mkRes]; first | omega | (rw [decide_eq_false_iff_not]; omega) | (rw [decide_eq_true_iff]; omega)) | (simp only [rightF, mkRes]; (repeat' split) <;> first | rfl | omega | (simp_all; done) | (simp_all; omega))))

/-- damper/drill.price -/
theorem s59 (s : Sym) (n : Int) (hg : 1 ≤ s.grid ∧ s.grid ≤ 1099511627776) (hr : 1 ≤ s.ref ∧ s.ref ≤ 1099511627776) (hn : -4096 ≤ n ∧ n ≤ 4096) :
    FnE Try.prog 59 [.agg s.cells.toArray, .int .i64 n] (fun _ => True) (.int .i64 (priceM s n)) := by
  refine fn_of_J (cx := cx59) hmix Try.func59 (by kernel_rfl) (eq59 _ _) fun w hw => ?_
  have hpb := price_bound hg hn
  refine J.boxA fun bt2 => ?_
  refine J.op fa123_0 ?_
  refine J.op (R.ld o2 (by with_reducible repeat (first | exact Pick.here | apply Pick.there)) rfl) ?_ -- @t11 vS (Instr.loadAt 2 t10)
  refine J.callE en85 (s85 _ _) rfl (fun _ _ _ => trivial) ?_ -- @t12 callS (.func (.func 85) #[] #[]) [(.int .i64 1099511627776), t11]
  refine J.op fa123_0 ?_
  refine J.op (R.ld o2 (by with_reducible repeat (first | exact Pick.here | apply Pick.there)) rfl) ?_ -- @t15 vS (Instr.loadAt 2 t14)
  refine J.callE en86 (s86 s.grid n (by omega) hn) rfl (fun _ _ _ => trivial) ?_ -- @t17 callS (.func (.func 86) #[] #[]) [t15, a1]
  refine J.op (R.ext rfl) ?_ -- @t18 vS (Instr.extract t17 0)
  refine J.op (R.ext rfl) ?_ -- @t19 vS (Instr.extract t17 1)
  refine J.op fa123_1 ?_
  refine J.op (R.ld o2 (by with_reducible repeat (first | exact Pick.here | apply Pick.there)) rfl) ?_ -- @t22 vS (Instr.loadAt 2 t21)
  refine J.callE en87 (s87 s.ref (s.grid * n) (by unfold i64R; omega) (by unfold i64R; omega) (by unfold i64R; omega)) rfl (fun _ _ _ => trivial) ?_ -- @t24 callS (.func (.func 87) #[] #[]) [t22, t18]
  refine J.op (R.ext rfl) ?_ -- @t25 vS (Instr.extract t24 0)
  refine J.op (R.ext rfl) ?_ -- @t26 vS (Instr.extract t24 1)
  refine J.bind ?_ -- @tv_1 bind tv_1 ([4])
  refine J.block ?_
  refine J.bind ?_ -- @tv bind tv ([27])
  refine J.opBF R.not (by rfl) ?_ -- @t29
  refine J.gopT rfl ?_
  refine J.op R.pure ?_
  refine J.gopT rfl ?_
  refine J.opBF R.not (by rfl) ?_ -- @t32
  refine J.op R.pickF ?_ -- @t33 pickS t29 (.bool true) t32
  refine J.done ?_ -- then tv = [t33]
  refine J.iteF ?_
  refine J.done ?_ -- then tv_1 = [(.int .i64 0)]
  refine J.op fa123_0 ?_
  refine J.op (R.ld o2 (by with_reducible repeat (first | exact Pick.here | apply Pick.there)) rfl) ?_ -- @t41 vS (Instr.loadAt 2 t40)
  refine J.op R.maxI ?_ -- @t42 bltS .max #[2, 2] 2 #[false, false] [t25, t41]
  refine J.op R.minI ?_ -- @t44 bltS .min #[2, 2] 2 #[false, false] [t42, t12]
  -- @ret[t44]
  exact J.done (RetQ.ge (.tmp (.nil)) (by first | rfl | (simp [mkRes, *]; done) | (simp_all [mkRes]; done) | (simp_all [mkRes]; first | omega | (rw [decide_eq_false_iff_not]; omega) | (rw [decide_eq_true_iff]; omega)) | (simp only [mkRes]; (repeat' split) <;> first | rfl | omega | (simp_all; done) | (simp_all; omega))))

/-- damper/drill.Order -/
theorem s25 (b k : Nat) (x : Int) (x0 y0 : Value) (c : Cfg) (kind i : Int) :
    FnT Try.prog 25 [.agg (c.cells x0 y0).toArray, .pointer (some ⟨b, 0, none⟩), .int .i64 kind, .int .i64 i] (fun w => RdF w x0 16 (syms c.syms) (footOf [Ent.cells b [.int .u64 (dn k x)] 119]) ∧ RdF w y0 2 (trows c.rows) (footOf [Ent.cells b [.int .u64 (dn k x)] 119])) [Ent.cells b [.int .u64 (dn k x)] 119] (fun v es => v = .agg (ordM k c kind i x).cells.toArray ∧ es = [Ent.cells b [.int .u64 (dn (ordN k c kind i) x)] 119]) := by
  refine fn_of_J (cx := cx25) hmix Try.func25 (by kernel_rfl) (eq25 _ _ _ _) fun w hw => ?_
  have hX : ∀ H, SeeS ⟨Try.prog, w, footOf [Ent.cells b [.int .u64 (dn k x)] 119]⟩ H x0 16 (syms c.syms) := fun H => SeeS.ofF hw.1 syms_ne
  have hcat : ∀ Ds w2 H, St ⟨Try.prog, w, footOf [Ent.cells b [.int .u64 (dn k x)] 119]⟩ Ds w2 H → c.at x0 y0 w2 := fun _ _ _ hs => ⟨hw.1.now syms_ne hs, hw.2.now trows_ne hs⟩
  have hm := hw.1.1.le
  simp only [syms_len, maxLen] at hm
  refine J.boxA fun bt4 => ?_
  refine J.alloc z62 fun bt8 => ?_
  refine J.bindBH (¬ (rightF c kind = 0 ∧ 0 ≤ i ∧ i ≤ 2000)) ([Ent.cells bt8 Cmd.zero.cells 62, Ent.cells bt4 (c.cells x0 y0) 53, Ent.cells b [.int .u64 (dn k x)] 119]) ?_ (fun hbtv => ?_) (fun hbtv => ?_) -- @tv
  · skip
    refine J.opBF (R.isNil pt56) (by rfl) ?_ -- @t12
    refine J.gopT rfl ?_
    refine J.op (R.ldA ag53 (by with_reducible repeat (first | exact Pick.here | apply Pick.there)) rfl) ?_ -- @t14 vS (Instr.loadAt 53 t4)
    refine J.gopT rfl ?_
    refine J.op R.pure ?_
    refine J.gopT rfl ?_
    refine J.callE en58 (s58 x0 y0 c kind) rfl (fun _ _ hs => hcat _ _ _ hs) ?_ -- @t16 callS (.func (.func 58) #[] #[]) [t14, t15]
    refine J.gopT rfl ?_
    refine J.opD R.neq (fun ht17 => ?_) (fun ht17 => ?_) -- @t17 binS .neq 25 (.tmp 16) (.const (.int .i64 0)) t16 (.int .i64 0)
    · skip
      refine J.op R.pickF ?_ -- @t18 pickS t12 (.bool true) t17
      refine J.gopF rfl ?_
      refine J.gopF rfl ?_
      refine J.op R.pickT ?_ -- @t22 pickS t18 (.bool true) t21
      refine J.gopF rfl ?_
      refine J.gopF rfl ?_
      refine J.op R.pickT ?_ -- @t26 pickS t22 (.bool true) t25
      exact J.done ⟨rfl, by simp only [List.cons.injEq, Value.bool.injEq, and_true]; first | (symm; rw [decide_eq_true_iff]; omega) | exact decide_eq_decide.2 (by omega), Imp.take (by (try dsimp only); repeat (first | exact Has.nil | refine Has.cons (by repeat (first | (with_reducible exact Out.here) | ((with_reducible refine Out.cells ?_); first | rfl | (simp; done)) | ((with_reducible refine Out.row ?_); first | rfl | (simp; done)) | (with_reducible apply Out.there))) ?_))⟩ -- @leaf[t26]
    · skip
      refine J.op R.pickF ?_ -- @t18 pickS t12 (.bool true) t17
      refine J.gopT rfl ?_
      refine J.op R.pure ?_
      refine J.gopT rfl ?_
      refine J.opD R.lss (fun ht21 => ?_) (fun ht21 => ?_) -- @t21 binS .lss 3 (.tmp 20) (.const (.int .i64 0)) t20 (.int .i64 0)
      · skip
        refine J.op R.pickF ?_ -- @t22 pickS t18 (.bool true) t21
        refine J.gopF rfl ?_
        refine J.gopF rfl ?_
        refine J.op R.pickT ?_ -- @t26 pickS t22 (.bool true) t25
        exact J.done ⟨rfl, by simp only [List.cons.injEq, Value.bool.injEq, and_true]; first | (symm; rw [decide_eq_true_iff]; omega) | exact decide_eq_decide.2 (by omega), Imp.take (by (try dsimp only); repeat (first | exact Has.nil | refine Has.cons (by repeat (first | (with_reducible exact Out.here) | ((with_reducible refine Out.cells ?_); first | rfl | (simp; done)) | ((with_reducible refine Out.row ?_); first | rfl | (simp; done)) | (with_reducible apply Out.there))) ?_))⟩ -- @leaf[t26]
      · skip
        refine J.op R.pickF ?_ -- @t22 pickS t18 (.bool true) t21
        refine J.gopT rfl ?_
        refine J.op R.pure ?_
        refine J.gopT rfl ?_
        refine J.op R.gtr ?_ -- @t25 binS .gtr 3 (.tmp 24) (.const (.int .i64 2000)) t24 (.int .i64 2000)
        refine J.op R.pickF ?_ -- @t26 pickS t22 (.bool true) t25
        exact J.done ⟨rfl, by simp only [List.cons.injEq, Value.bool.injEq, and_true]; first | (symm; rw [decide_eq_true_iff]; omega) | exact decide_eq_decide.2 (by omega), Imp.take (by (try dsimp only); repeat (first | exact Has.nil | refine Has.cons (by repeat (first | (with_reducible exact Out.here) | ((with_reducible refine Out.cells ?_); first | rfl | (simp; done)) | ((with_reducible refine Out.row ?_); first | rfl | (simp; done)) | (with_reducible apply Out.there))) ?_))⟩ -- @leaf[t26]
  · skip
    refine J.iteT ?_
    refine J.op (R.ldA ag62 (by with_reducible repeat (first | exact Pick.here | apply Pick.there)) rfl) ?_ -- @t27 vS (Instr.loadAt 62 t8)
    refine J.stW sz62 (by with_reducible repeat (first | exact Pick.here | apply Pick.there)) rfl rfl rfl ?_ -- @tu uS (Instr.storeAt 62 t8 t27)
    -- @ret[t8]
    have hno : ordOk c kind i = false := by unfold ordOk; simp; omega
    exact J.done (RetQ.gt (es := [Ent.cells b [.int .u64 (dn k x)] 119]) (.cellA ag62 (by with_reducible repeat (first | exact Pick.here | apply Pick.there)) rfl (.nil)) (by (try dsimp only); repeat (first | exact Has.nil | refine Has.cons (by repeat (first | (with_reducible exact Out.here) | ((with_reducible refine Out.cells ?_); first | rfl | (simp; done)) | ((with_reducible refine Out.row ?_); first | rfl | (simp; done)) | (with_reducible apply Out.there))) ?_)) ⟨by simp only [mkRes]; rw [show ordM k c kind i x = Cmd.zero from if_neg (by rw [hno]; decide)]; (try rfl), by rw [show ordN k c kind i = k from if_neg (by rw [hno]; decide)]⟩)
  · skip
    refine J.iteF ?_
    have hgd := Classical.not_not.1 hbtv
    have hok : ordOk c kind i = true := by unfold ordOk; simp; omega
    obtain ⟨hc0, hk0, hk4⟩ := right_ok hgd.1
    have hcl := clen hc0
    have hsy := ordS_at (k := k) (x := x) hc0
    obtain ⟨hg, hr, hmd⟩ := sym_range (sym_ok hc0 hsy)
    have r2 := th_range (k := k + 1) (x := x) (n := 2) (by decide)
    have r9 := th_range (k := k + 3) (x := x) (n := 9) (by decide)
    have r6 := th_range (k := k + 6) (x := x) (n := 6) (by decide)
    have rl := th_range (k := k) (x := x) (n := c.syms.length) (by omega)
    have hsh := shiftM_range (k := k + 2) (kind := kind) (side := th (k + 1) x 2) (x := x) (i := i) (by omega)
    have hsg : (syms c.syms)[(th k x c.syms.length).toNat]? = some (ordS k c x).cells := by simp only [syms, List.getElem?_map, hsy]; rfl
    refine J.op (R.add64 (by omega)) ?_ -- @t31 binS .add 3 (.tmp 30) (.const (.int .i64 1)) a3 (.int .i64 1)
    refine J.op fa62_0 ?_
    refine J.st sz3 (by with_reducible repeat (first | exact Pick.here | apply Pick.there)) (by repeat (first | exact .zero | exact .nil | apply Upd.succ | apply UpdN.cons)) rfl ?_ -- @tu_1 uS (Instr.storeAt 3 t32 (.int .i64 1))
    refine J.op fa62_2 ?_
    refine J.st sz2 (by with_reducible repeat (first | exact Pick.here | apply Pick.there)) (by repeat (first | exact .zero | exact .nil | apply Upd.succ | apply UpdN.cons)) rfl ?_ -- @tu_2 uS (Instr.storeAt 2 t33 t31)
    refine J.op fa53_0 ?_
    refine J.op (R.ld o48 (by with_reducible repeat (first | exact Pick.here | apply Pick.there)) rfl) ?_ -- @t36 vS (Instr.loadAt 48 t35)
    refine J.op (R.lenN sl48 (hX _) syms_len) ?_ -- @t37 bltS .len #[48] 3 #[false] [t36]
    refine J.callT en27 (Next_pos b x c.syms.length (k) (by omega)) rfl (fun _ _ _ => trivial) (Take.cons (by (try dsimp only); repeat (first | (with_reducible exact Out.here) | ((with_reducible refine Out.cells ?_); first | rfl | (simp; done)) | ((with_reducible refine Out.row ?_); first | rfl | (simp; done)) | (with_reducible apply Out.there))) Take.nil) (fun v es hv => ?_)
    obtain ⟨rfl, rfl⟩ := hv
    simp only [List.cons_append, List.nil_append] -- @t38 callS (.func (.func 27) #[a1] #[]) [t37]
    refine J.op fa62_1 ?_
    refine J.st sz3 (by with_reducible repeat (first | exact Pick.here | apply Pick.there)) (by repeat (first | exact .zero | exact .nil | apply Upd.succ | apply UpdN.cons)) rfl ?_ -- @tu_3 uS (Instr.storeAt 3 t39 t38)
    refine J.callT en27 (Next_pos b x 2 (k + 1) (by decide)) rfl (fun _ _ _ => trivial) (Take.cons (by (try dsimp only); repeat (first | (with_reducible exact Out.here) | ((with_reducible refine Out.cells ?_); first | rfl | (simp; done)) | ((with_reducible refine Out.row ?_); first | rfl | (simp; done)) | (with_reducible apply Out.there))) Take.nil) (fun v es hv => ?_)
    obtain ⟨rfl, rfl⟩ := hv
    simp only [List.cons_append, List.nil_append] -- @t41 callS (.func (.func 27) #[a1] #[]) [(.int .i64 2)]
    refine J.op fa62_4 ?_
    refine J.st sz3 (by with_reducible repeat (first | exact Pick.here | apply Pick.there)) (by repeat (first | exact .zero | exact .nil | apply Upd.succ | apply UpdN.cons)) rfl ?_ -- @tu_4 uS (Instr.storeAt 3 t42 t41)
    refine J.draw ?_
    refine J.op fa53_0 ?_
    refine J.op (R.ld o48 (by with_reducible repeat (first | exact Pick.here | apply Pick.there)) rfl) ?_ -- @t44 vS (Instr.loadAt 48 t43)
    refine J.op fa62_1 ?_
    refine J.op (R.ld o3 (by with_reducible repeat (first | exact Pick.here | apply Pick.there)) rfl) ?_ -- @t46 vS (Instr.loadAt 3 t45)
    refine J.ixWR sl48 hX (by omega) hsg fun bq oq hkt47 hR47 => ?_ -- @t47 ix t44 t46
    refine J.op (R.ldKA ag123 (hkt47 _) rfl) ?_ -- @t48 vS (Instr.loadAt 123 t47)
    refine J.op fa62_4 ?_
    refine J.op (R.ld o3 (by with_reducible repeat (first | exact Pick.here | apply Pick.there)) rfl) ?_ -- @t53 vS (Instr.loadAt 3 t52)
    refine J.callT en60 (s60 b (k + 2) x kind i (th (k + 1) x 2) (by omega) (by omega)) rfl (fun _ _ _ => trivial) (Take.cons (by (try dsimp only); repeat (first | (with_reducible exact Out.here) | ((with_reducible refine Out.cells ?_); first | rfl | (simp; done)) | ((with_reducible refine Out.row ?_); first | rfl | (simp; done)) | (with_reducible apply Out.there))) Take.nil) (fun v es hv => ?_)
    obtain ⟨rfl, rfl⟩ := hv
    simp only [List.cons_append, List.nil_append] -- @t54 callS (.func (.func 60) #[] #[]) [a1, a2, a3, t53]
    refine J.chkR (R.ldKA ag123 (hkt47 _) rfl) ?_ -- @chk:t48 vS (Instr.loadAt 123 t47)
    refine J.chkR (hR47 _) ?_ -- @chk:t47 vS (Instr.indexAt 48 t44 t46)
    refine J.chkR (R.ld o3 (by with_reducible repeat (first | exact Pick.here | apply Pick.there)) rfl) ?_ -- @chk:t46 vS (Instr.loadAt 3 t45)
    refine J.chkR fa62_1 ?_ -- @chk:t45 vS (Instr.fieldAt 62 t8 1)
    refine J.chkR (R.ld o48 (by with_reducible repeat (first | exact Pick.here | apply Pick.there)) rfl) ?_ -- @chk:t44 vS (Instr.loadAt 48 t43)
    refine J.chkR fa53_0 ?_ -- @chk:t43 vS (Instr.fieldAt 53 t4 0)
    refine J.callE en59 (s59 (ordS k c x) _ hg hr hsh) rfl (fun _ _ _ => trivial) ?_ -- @t55 callS (.func (.func 59) #[] #[]) [t48, t54]
    refine J.op fa62_6 ?_
    refine J.st sz2 (by with_reducible repeat (first | exact Pick.here | apply Pick.there)) (by repeat (first | exact .zero | exact .nil | apply Upd.succ | apply UpdN.cons)) rfl ?_ -- @tu_5 uS (Instr.storeAt 2 t56 t55)
    refine J.callT en27 (Next_pos b x 9 (k + 3) (by decide)) rfl (fun _ _ _ => trivial) (Take.cons (by (try dsimp only); repeat (first | (with_reducible exact Out.here) | ((with_reducible refine Out.cells ?_); first | rfl | (simp; done)) | ((with_reducible refine Out.row ?_); first | rfl | (simp; done)) | (with_reducible apply Out.there))) Take.nil) (fun v es hv => ?_)
    obtain ⟨rfl, rfl⟩ := hv
    simp only [List.cons_append, List.nil_append] -- @t58 callS (.func (.func 27) #[a1] #[]) [(.int .i64 9)]
    refine J.op (R.add64 (by omega)) ?_ -- @t59 binS .add 2 (.tmp 58) (.const (.int .i64 1)) t58 (.int .i64 1)
    refine J.op fa62_7 ?_
    refine J.st sz2 (by with_reducible repeat (first | exact Pick.here | apply Pick.there)) (by repeat (first | exact .zero | exact .nil | apply Upd.succ | apply UpdN.cons)) rfl ?_ -- @tu_6 uS (Instr.storeAt 2 t60 t59)
    refine J.callT en27 (Next_pos b x 4 (k + 4) (by decide)) rfl (fun _ _ _ => trivial) (Take.cons (by (try dsimp only); repeat (first | (with_reducible exact Out.here) | ((with_reducible refine Out.cells ?_); first | rfl | (simp; done)) | ((with_reducible refine Out.row ?_); first | rfl | (simp; done)) | (with_reducible apply Out.there))) Take.nil) (fun v es hv => ?_)
    obtain ⟨rfl, rfl⟩ := hv
    simp only [List.cons_append, List.nil_append] -- @t62 callS (.func (.func 27) #[a1] #[]) [(.int .i64 4)]
    refine J.op fa62_3 ?_
    refine J.st sz3 (by with_reducible repeat (first | exact Pick.here | apply Pick.there)) (by repeat (first | exact .zero | exact .nil | apply Upd.succ | apply UpdN.cons)) rfl ?_ -- @tu_7 uS (Instr.storeAt 3 t63 t62)
    refine J.callT en61 (s61 b (k + 5) x kind) rfl (fun _ _ _ => trivial) (Take.cons (by (try dsimp only); repeat (first | (with_reducible exact Out.here) | ((with_reducible refine Out.cells ?_); first | rfl | (simp; done)) | ((with_reducible refine Out.row ?_); first | rfl | (simp; done)) | (with_reducible apply Out.there))) Take.nil) (fun v es hv => ?_)
    obtain ⟨rfl, rfl⟩ := hv
    simp only [List.cons_append, List.nil_append] -- @t66 callS (.func (.func 61) #[] #[]) [a1, a2]
    refine J.op fa62_5 ?_
    refine J.st sz3 (by with_reducible repeat (first | exact Pick.here | apply Pick.there)) (by repeat (first | exact .zero | exact .nil | apply Upd.succ | apply UpdN.cons)) rfl ?_ -- @tu_8 uS (Instr.storeAt 3 t67 t66)
    refine J.op fa62_5 ?_
    refine J.op (R.ld o3 (by with_reducible repeat (first | exact Pick.here | apply Pick.there)) rfl) ?_ -- @t69 vS (Instr.loadAt 3 t68)
    refine J.opD R.eql (fun ht70 => ?_) (fun ht70 => ?_) -- @t70 binS .eql 3 (.tmp 69) (.const (.int .i64 2)) t69 (.int .i64 2)
    · skip
      refine J.bind ?_ -- @tv_1 bind tv_1 ([])
      refine J.iteT ?_
      refine J.op fa62_6 ?_
      refine J.st sz2 (by with_reducible repeat (first | exact Pick.here | apply Pick.there)) (by repeat (first | exact .zero | exact .nil | apply Upd.succ | apply UpdN.cons)) rfl ?_ -- @tu_9 uS (Instr.storeAt 2 t71 (.int .i64 0))
      refine J.done ?_ -- then tv_1 = []
      refine J.op bd125_0_1 ?_ -- @t72 vS (Instr.build 125 #[(0, (.int .i64 4)), (1, (.int .i64 1))])
      refine J.alloc z125 fun bt10 => ?_
      refine J.stW sz125 (by with_reducible repeat (first | exact Pick.here | apply Pick.there)) rfl rfl rfl ?_ -- @tu_10 uS (Instr.storeAt 125 t10 t72)
      refine J.callT en27 (Next_pos b x 6 (k + 6) (by decide)) rfl (fun _ _ _ => trivial) (Take.cons (by (try dsimp only); repeat (first | (with_reducible exact Out.here) | ((with_reducible refine Out.cells ?_); first | rfl | (simp; done)) | ((with_reducible refine Out.row ?_); first | rfl | (simp; done)) | (with_reducible apply Out.there))) Take.nil) (fun v es hv => ?_)
      obtain ⟨rfl, rfl⟩ := hv
      simp only [List.cons_append, List.nil_append] -- @t74 callS (.func (.func 27) #[a1] #[]) [(.int .i64 6)]
      refine J.op (R.ixA ar125 (by omega) (by omega)) ?_ -- @t75 ix t10 t74
      refine J.op (R.ld o3 (by with_reducible repeat (first | exact Pick.here | apply Pick.there)) (flag_get (n := th (k + 6) x 6) (by simp) (by omega))) ?_ -- @t76 vS (Instr.loadAt 3 t75)
      refine J.op fa62_8 ?_
      refine J.st sz3 (by with_reducible repeat (first | exact Pick.here | apply Pick.there)) (by repeat (first | exact .zero | exact .nil | apply Upd.succ | apply UpdN.cons)) rfl ?_ -- @tu_11 uS (Instr.storeAt 3 t77 t76)
      refine J.op (R.ldA ag62 (by with_reducible repeat (first | exact Pick.here | apply Pick.there)) rfl) ?_ -- @t78 vS (Instr.loadAt 62 t8)
      refine J.stW sz62 (by with_reducible repeat (first | exact Pick.here | apply Pick.there)) rfl rfl rfl ?_ -- @tu_12 uS (Instr.storeAt 62 t8 t78)
      -- @ret[t8]#2
      refine J.done (RetQ.gt (es := [Ent.cells b [.int .u64 (dn (k + 7) x)] 119]) (.cellA ag62 (by with_reducible repeat (first | exact Pick.here | apply Pick.there)) rfl (.nil)) ?_ ?_)
      · exact (by (try dsimp only); repeat (first | exact Has.nil | refine Has.cons (by repeat (first | (with_reducible exact Out.here) | ((with_reducible refine Out.cells ?_); first | rfl | (simp; done)) | ((with_reducible refine Out.row ?_); first | rfl | (simp; done)) | (with_reducible apply Out.there))) ?_))
      · exact ⟨by simp only [mkRes]; rw [show ordM k c kind i x = ordV k c kind i x from if_pos hok]; simp only [ordV, Cmd.cells, if_pos ht70]; (try rfl), by rw [show ordN k c kind i = k + 7 from if_pos hok]⟩
    · skip
      refine J.bind ?_ -- @tv_1 bind tv_1 ([])
      refine J.iteF ?_
      refine J.done ?_ -- then tv_1 = []
      refine J.op bd125_0_1 ?_ -- @t72 vS (Instr.build 125 #[(0, (.int .i64 4)), (1, (.int .i64 1))])
      refine J.alloc z125 fun bt10 => ?_
      refine J.stW sz125 (by with_reducible repeat (first | exact Pick.here | apply Pick.there)) rfl rfl rfl ?_ -- @tu_10 uS (Instr.storeAt 125 t10 t72)
      refine J.callT en27 (Next_pos b x 6 (k + 6) (by decide)) rfl (fun _ _ _ => trivial) (Take.cons (by (try dsimp only); repeat (first | (with_reducible exact Out.here) | ((with_reducible refine Out.cells ?_); first | rfl | (simp; done)) | ((with_reducible refine Out.row ?_); first | rfl | (simp; done)) | (with_reducible apply Out.there))) Take.nil) (fun v es hv => ?_)
      obtain ⟨rfl, rfl⟩ := hv
      simp only [List.cons_append, List.nil_append] -- @t74#2 callS (.func (.func 27) #[a1] #[]) [(.int .i64 6)]
      refine J.op (R.ixA ar125 (by omega) (by omega)) ?_ -- @t75 ix t10 t74
      refine J.op (R.ld o3 (by with_reducible repeat (first | exact Pick.here | apply Pick.there)) (flag_get (n := th (k + 6) x 6) (by simp) (by omega))) ?_ -- @t76 vS (Instr.loadAt 3 t75)
      refine J.op fa62_8 ?_
      refine J.st sz3 (by with_reducible repeat (first | exact Pick.here | apply Pick.there)) (by repeat (first | exact .zero | exact .nil | apply Upd.succ | apply UpdN.cons)) rfl ?_ -- @tu_11 uS (Instr.storeAt 3 t77 t76)
      refine J.op (R.ldA ag62 (by with_reducible repeat (first | exact Pick.here | apply Pick.there)) rfl) ?_ -- @t78 vS (Instr.loadAt 62 t8)
      refine J.stW sz62 (by with_reducible repeat (first | exact Pick.here | apply Pick.there)) rfl rfl rfl ?_ -- @tu_12 uS (Instr.storeAt 62 t8 t78)
      -- @ret[t8]#3
      refine J.done (RetQ.gt (es := [Ent.cells b [.int .u64 (dn (k + 7) x)] 119]) (.cellA ag62 (by with_reducible repeat (first | exact Pick.here | apply Pick.there)) rfl (.nil)) ?_ ?_)
      · exact (by (try dsimp only); repeat (first | exact Has.nil | refine Has.cons (by repeat (first | (with_reducible exact Out.here) | ((with_reducible refine Out.cells ?_); first | rfl | (simp; done)) | ((with_reducible refine Out.row ?_); first | rfl | (simp; done)) | (with_reducible apply Out.there))) ?_))
      · exact ⟨by simp only [mkRes]; rw [show ordM k c kind i x = ordV k c kind i x from if_pos hok]; simp only [ordV, Cmd.cells, if_neg ht70]; (try rfl), by rw [show ordN k c kind i = k + 7 from if_pos hok]⟩

/-- damper/drill.Order -/
theorem s25nil (x0 y0 : Value) (c : Cfg) (kind i : Int) :
    FnE Try.prog 25 [.agg (c.cells x0 y0).toArray, .pointer none, .int .i64 kind, .int .i64 i] (fun _ => True) (.agg Cmd.zero.cells.toArray) := by
  refine fn_of_J (cx := cx25) hmix Try.func25 (by kernel_rfl) (eq25 _ _ _ _) fun w hw => ?_
  refine J.boxA fun bt4 => ?_
  refine J.alloc z62 fun bt8 => ?_
  refine J.bindBH (True) ([Ent.cells bt8 Cmd.zero.cells 62, Ent.cells bt4 (c.cells x0 y0) 53]) ?_ (fun hbtv => ?_) (fun hbtv => ?_) -- @tv
  · skip
    refine J.opBT (R.isNil pt56) (by rfl) ?_ -- @t12
    refine J.gopF rfl ?_
    refine J.gopF rfl ?_
    refine J.gopF rfl ?_
    refine J.gopF rfl ?_
    refine J.op R.pickT ?_ -- @t18 pickS t12 (.bool true) t17
    refine J.gopF rfl ?_
    refine J.gopF rfl ?_
    refine J.op R.pickT ?_ -- @t22 pickS t18 (.bool true) t21
    refine J.gopF rfl ?_
    refine J.gopF rfl ?_
    refine J.op R.pickT ?_ -- @t26 pickS t22 (.bool true) t25
    exact J.done ⟨rfl, by simp, Imp.take (by (try dsimp only); repeat (first | exact Has.nil | refine Has.cons (by repeat (first | (with_reducible exact Out.here) | ((with_reducible refine Out.cells ?_); first | rfl | (simp; done)) | ((with_reducible refine Out.row ?_); first | rfl | (simp; done)) | (with_reducible apply Out.there))) ?_))⟩ -- @leaf[t26]
  · skip
    refine J.iteT ?_
    refine J.op (R.ldA ag62 (by with_reducible repeat (first | exact Pick.here | apply Pick.there)) rfl) ?_ -- @t27 vS (Instr.loadAt 62 t8)
    refine J.stW sz62 (by with_reducible repeat (first | exact Pick.here | apply Pick.there)) rfl rfl rfl ?_ -- @tu uS (Instr.storeAt 62 t8 t27)
    -- @ret[t8]
    exact J.done (RetQ.ge (.cellA ag62 (by with_reducible repeat (first | exact Pick.here | apply Pick.there)) rfl (.nil)) (by first | rfl | (simp [mkRes, *]; done) | (simp_all [mkRes]; done) | (simp_all [mkRes]; first | omega | (rw [decide_eq_false_iff_not]; omega) | (rw [decide_eq_true_iff]; omega)) | (simp only [mkRes]; (repeat' split) <;> first | rfl | omega | (simp_all; done) | (simp_all; omega))))
  · exact absurd trivial hbtv

/-- damper/damperref37.Order -/
theorem s26 (b k : Nat) (x : Int) (x0 y0 : Value) (c : Cfg) (kind i : Int) :
    FnT Try.prog 26 [.agg (c.cells x0 y0).toArray, .pointer (some ⟨b, 0, none⟩), .int .i64 kind, .int .i64 i] (fun w => RdF w x0 16 (syms c.syms) (footOf [Ent.cells b [.int .u64 (dn k x)] 60]) ∧ RdF w y0 2 (trows c.rows) (footOf [Ent.cells b [.int .u64 (dn k x)] 60])) [Ent.cells b [.int .u64 (dn k x)] 60] (fun v es => v = .agg (ordM k c kind i x).cells.toArray ∧ es = [Ent.cells b [.int .u64 (dn (ordN k c kind i) x)] 60]) := by
  refine fn_of_J (cx := cx26) hmix Try.func26 (by kernel_rfl) (eq26 _ _ _ _) fun w hw => ?_
  have hX : ∀ H, SeeS ⟨Try.prog, w, footOf [Ent.cells b [.int .u64 (dn k x)] 60]⟩ H x0 16 (syms c.syms) := fun H => SeeS.ofF hw.1 syms_ne
  have hcat : ∀ Ds w2 H, St ⟨Try.prog, w, footOf [Ent.cells b [.int .u64 (dn k x)] 60]⟩ Ds w2 H → c.at x0 y0 w2 := fun _ _ _ hs => ⟨hw.1.now syms_ne hs, hw.2.now trows_ne hs⟩
  have hm := hw.1.1.le
  simp only [syms_len, maxLen] at hm
  refine J.boxA fun bt4 => ?_
  refine J.alloc z62 fun bt8 => ?_
  refine J.op (R.ldA ag53 (by with_reducible repeat (first | exact Pick.here | apply Pick.there)) rfl) ?_ -- @t16 vS (Instr.loadAt 53 t4)
  refine J.callE en62 (s62 x0 y0 c) rfl (fun _ _ hs => hcat _ _ _ hs) ?_ -- @t17 callS (.func (.func 62) #[] #[]) [t16]
  refine J.op (R.ext rfl) ?_ -- @t18 vS (Instr.extract t17 0)
  refine J.op (R.ext rfl) ?_ -- @t19 vS (Instr.extract t17 1)
  refine J.bindBH (¬ (rightF c kind = 0 ∧ 0 ≤ i ∧ i ≤ 2000)) ([Ent.cells bt8 Cmd.zero.cells 62, Ent.cells bt4 (c.cells x0 y0) 53, Ent.cells b [.int .u64 (dn k x)] 60]) ?_ (fun hbtv => ?_) (fun hbtv => ?_) -- @tv
  · skip
    refine J.opD R.neq (fun ht21 => ?_) (fun ht21 => ?_) -- @t21 binS .neq 25 (.tmp 20) (.const (.int .i64 0)) t18 (.int .i64 0)
    · skip
      refine J.gopF rfl ?_
      refine J.gopF rfl ?_
      refine J.op R.pickT ?_ -- @t25 pickS t21 (.bool true) t24
      refine J.gopF rfl ?_
      refine J.gopF rfl ?_
      refine J.op R.pickT ?_ -- @t29 pickS t25 (.bool true) t28
      refine J.gopF rfl ?_
      refine J.gopF rfl ?_
      refine J.op R.pickT ?_ -- @t33 pickS t29 (.bool true) t32
      refine J.gopF rfl ?_
      refine J.gopF rfl ?_
      refine J.op R.pickT ?_ -- @t37 pickS t33 (.bool true) t36
      exact J.done ⟨rfl, by simp only [List.cons.injEq, Value.bool.injEq, and_true]; first | (symm; rw [decide_eq_true_iff]; unfold rightF; (repeat' split) <;> omega) | (refine decide_eq_decide.2 ?_; unfold rightF; (repeat' split) <;> omega), Imp.take (by (try dsimp only); repeat (first | exact Has.nil | refine Has.cons (by repeat (first | (with_reducible exact Out.here) | ((with_reducible refine Out.cells ?_); first | rfl | (simp; done)) | ((with_reducible refine Out.row ?_); first | rfl | (simp; done)) | (with_reducible apply Out.there))) ?_))⟩ -- @leaf[t37]
    · skip
      refine J.gopT rfl ?_
      refine J.op R.pure ?_
      refine J.gopT rfl ?_
      refine J.opD R.lss (fun ht24 => ?_) (fun ht24 => ?_) -- @t24 binS .lss 3 (.tmp 23) (.const (.int .i64 0)) t23 (.int .i64 0)
      · skip
        refine J.op R.pickF ?_ -- @t25 pickS t21 (.bool true) t24
        refine J.gopF rfl ?_
        refine J.gopF rfl ?_
        refine J.op R.pickT ?_ -- @t29 pickS t25 (.bool true) t28
        refine J.gopF rfl ?_
        refine J.gopF rfl ?_
        refine J.op R.pickT ?_ -- @t33 pickS t29 (.bool true) t32
        refine J.gopF rfl ?_
        refine J.gopF rfl ?_
        refine J.op R.pickT ?_ -- @t37 pickS t33 (.bool true) t36
        exact J.done ⟨rfl, by simp only [List.cons.injEq, Value.bool.injEq, and_true]; first | (symm; rw [decide_eq_true_iff]; unfold rightF; (repeat' split) <;> omega) | (refine decide_eq_decide.2 ?_; unfold rightF; (repeat' split) <;> omega), Imp.take (by (try dsimp only); repeat (first | exact Has.nil | refine Has.cons (by repeat (first | (with_reducible exact Out.here) | ((with_reducible refine Out.cells ?_); first | rfl | (simp; done)) | ((with_reducible refine Out.row ?_); first | rfl | (simp; done)) | (with_reducible apply Out.there))) ?_))⟩ -- @leaf[t37]
      · skip
        refine J.op R.pickF ?_ -- @t25 pickS t21 (.bool true) t24
        refine J.gopT rfl ?_
        refine J.op R.pure ?_
        refine J.gopT rfl ?_
        refine J.opD R.gtr (fun ht28 => ?_) (fun ht28 => ?_) -- @t28 binS .gtr 3 (.tmp 27) (.const (.int .i64 4)) t27 (.int .i64 4)
        · skip
          refine J.op R.pickF ?_ -- @t29 pickS t25 (.bool true) t28
          refine J.gopF rfl ?_
          refine J.gopF rfl ?_
          refine J.op R.pickT ?_ -- @t33 pickS t29 (.bool true) t32
          refine J.gopF rfl ?_
          refine J.gopF rfl ?_
          refine J.op R.pickT ?_ -- @t37 pickS t33 (.bool true) t36
          exact J.done ⟨rfl, by simp only [List.cons.injEq, Value.bool.injEq, and_true]; first | (symm; rw [decide_eq_true_iff]; unfold rightF; (repeat' split) <;> omega) | (refine decide_eq_decide.2 ?_; unfold rightF; (repeat' split) <;> omega), Imp.take (by (try dsimp only); repeat (first | exact Has.nil | refine Has.cons (by repeat (first | (with_reducible exact Out.here) | ((with_reducible refine Out.cells ?_); first | rfl | (simp; done)) | ((with_reducible refine Out.row ?_); first | rfl | (simp; done)) | (with_reducible apply Out.there))) ?_))⟩ -- @leaf[t37]
        · skip
          refine J.op R.pickF ?_ -- @t29 pickS t25 (.bool true) t28
          refine J.gopT rfl ?_
          refine J.op R.pure ?_
          refine J.gopT rfl ?_
          refine J.opD R.lss (fun ht32 => ?_) (fun ht32 => ?_) -- @t32 binS .lss 3 (.tmp 31) (.const (.int .i64 0)) t31 (.int .i64 0)
          · skip
            refine J.op R.pickF ?_ -- @t33 pickS t29 (.bool true) t32
            refine J.gopF rfl ?_
            refine J.gopF rfl ?_
            refine J.op R.pickT ?_ -- @t37 pickS t33 (.bool true) t36
            exact J.done ⟨rfl, by simp only [List.cons.injEq, Value.bool.injEq, and_true]; first | (symm; rw [decide_eq_true_iff]; unfold rightF; (repeat' split) <;> omega) | (refine decide_eq_decide.2 ?_; unfold rightF; (repeat' split) <;> omega), Imp.take (by (try dsimp only); repeat (first | exact Has.nil | refine Has.cons (by repeat (first | (with_reducible exact Out.here) | ((with_reducible refine Out.cells ?_); first | rfl | (simp; done)) | ((with_reducible refine Out.row ?_); first | rfl | (simp; done)) | (with_reducible apply Out.there))) ?_))⟩ -- @leaf[t37]
          · skip
            refine J.op R.pickF ?_ -- @t33 pickS t29 (.bool true) t32
            refine J.gopT rfl ?_
            refine J.op R.pure ?_
            refine J.gopT rfl ?_
            refine J.op R.gtr ?_ -- @t36 binS .gtr 3 (.tmp 35) (.const (.int .i64 2000)) t35 (.int .i64 2000)
            refine J.op R.pickF ?_ -- @t37 pickS t33 (.bool true) t36
            exact J.done ⟨rfl, by simp only [List.cons.injEq, Value.bool.injEq, and_true]; first | (symm; rw [decide_eq_true_iff]; unfold rightF; (repeat' split) <;> omega) | (refine decide_eq_decide.2 ?_; unfold rightF; (repeat' split) <;> omega), Imp.take (by (try dsimp only); repeat (first | exact Has.nil | refine Has.cons (by repeat (first | (with_reducible exact Out.here) | ((with_reducible refine Out.cells ?_); first | rfl | (simp; done)) | ((with_reducible refine Out.row ?_); first | rfl | (simp; done)) | (with_reducible apply Out.there))) ?_))⟩ -- @leaf[t37]
  · skip
    refine J.iteT ?_
    refine J.op bd62 ?_ -- @t38 vS (Instr.build 62 #[])
    refine J.stW sz62 (by with_reducible repeat (first | exact Pick.here | apply Pick.there)) rfl rfl rfl ?_ -- @tu uS (Instr.storeAt 62 t8 t38)
    -- @ret[t8]
    have hno : ordOk c kind i = false := by unfold ordOk; simp; omega
    exact J.done (RetQ.gt (es := [Ent.cells b [.int .u64 (dn k x)] 60]) (.cellA ag62 (by with_reducible repeat (first | exact Pick.here | apply Pick.there)) rfl (.nil)) (by (try dsimp only); repeat (first | exact Has.nil | refine Has.cons (by repeat (first | (with_reducible exact Out.here) | ((with_reducible refine Out.cells ?_); first | rfl | (simp; done)) | ((with_reducible refine Out.row ?_); first | rfl | (simp; done)) | (with_reducible apply Out.there))) ?_)) ⟨by simp only [mkRes]; rw [show ordM k c kind i x = Cmd.zero from if_neg (by rw [hno]; decide)]; (try rfl), by rw [show ordN k c kind i = k from if_neg (by rw [hno]; decide)]⟩)
  · skip
    refine J.iteF ?_
    have hgd := Classical.not_not.1 hbtv
    have hok : ordOk c kind i = true := by unfold ordOk; simp; omega
    obtain ⟨hc0, hk0, hk4⟩ := right_ok hgd.1
    have hcl := clen hc0
    have hsy := ordS_at (k := k) (x := x) hc0
    obtain ⟨hg, hr, hmd⟩ := sym_range (sym_ok hc0 hsy)
    have r2 := th_range (k := k + 1) (x := x) (n := 2) (by decide)
    have r9 := th_range (k := k + 3) (x := x) (n := 9) (by decide)
    have r6 := th_range (k := k + 6) (x := x) (n := 6) (by decide)
    have rl := th_range (k := k) (x := x) (n := c.syms.length) (by omega)
    have hsh := shiftM_range (k := k + 2) (kind := kind) (side := th (k + 1) x 2) (x := x) (i := i) (by omega)
    have hsg : (syms c.syms)[(th k x c.syms.length).toNat]? = some (ordS k c x).cells := by simp only [syms, List.getElem?_map, hsy]; rfl
    refine J.op (R.add64 (by omega)) ?_ -- @t40 binS .add 2 (.tmp 39) (.const (.int .i64 1)) a3 (.int .i64 1)
    refine J.op bd62_0_2 ?_ -- @t41 vS (Instr.build 62 #[(0, (.int .i64 1)), (2, t40)])
    refine J.alloc z62 fun bt11 => ?_
    refine J.stW sz62 (by with_reducible repeat (first | exact Pick.here | apply Pick.there)) rfl rfl rfl ?_ -- @tu_1 uS (Instr.storeAt 62 t11 t41)
    refine J.op fa53_0 ?_
    refine J.op (R.ld o48 (by with_reducible repeat (first | exact Pick.here | apply Pick.there)) rfl) ?_ -- @t44 vS (Instr.loadAt 48 t43)
    refine J.op (R.lenN sl48 (hX _) syms_len) ?_ -- @t45 bltS .len #[48] 3 #[false] [t44]
    refine J.callT en28 (RefNext_pos b x c.syms.length (k) (by omega)) rfl (fun _ _ _ => trivial) (Take.cons (by (try dsimp only); repeat (first | (with_reducible exact Out.here) | ((with_reducible refine Out.cells ?_); first | rfl | (simp; done)) | ((with_reducible refine Out.row ?_); first | rfl | (simp; done)) | (with_reducible apply Out.there))) Take.nil) (fun v es hv => ?_)
    obtain ⟨rfl, rfl⟩ := hv
    simp only [List.cons_append, List.nil_append] -- @t46 callS (.func (.func 28) #[] #[]) [a1, t45]
    refine J.op fa62_1 ?_
    refine J.st sz3 (by with_reducible repeat (first | exact Pick.here | apply Pick.there)) (by repeat (first | exact .zero | exact .nil | apply Upd.succ | apply UpdN.cons)) rfl ?_ -- @tu_2 uS (Instr.storeAt 3 t47 t46)
    refine J.op fa53_0 ?_
    refine J.op (R.ld o48 (by with_reducible repeat (first | exact Pick.here | apply Pick.there)) rfl) ?_ -- @t49 vS (Instr.loadAt 48 t48)
    refine J.op fa62_1 ?_
    refine J.op (R.ld o3 (by with_reducible repeat (first | exact Pick.here | apply Pick.there)) rfl) ?_ -- @t51 vS (Instr.loadAt 3 t50)
    refine J.ixW sl48 hX (by omega) hsg fun bq oq hkt52 => ?_ -- @t52 ix t49 t51
    refine J.op (R.ldKA ag123 (hkt52 _) rfl) ?_ -- @t53 vS (Instr.loadAt 123 t52)
    refine J.alloc z123 fun bt12 => ?_
    refine J.stW sz123 (by with_reducible repeat (first | exact Pick.here | apply Pick.there)) rfl rfl rfl ?_ -- @tu_3 uS (Instr.storeAt 123 t12 t53)
    refine J.callT en28 (RefNext_pos b x 2 (k + 1) (by decide)) rfl (fun _ _ _ => trivial) (Take.cons (by (try dsimp only); repeat (first | (with_reducible exact Out.here) | ((with_reducible refine Out.cells ?_); first | rfl | (simp; done)) | ((with_reducible refine Out.row ?_); first | rfl | (simp; done)) | (with_reducible apply Out.there))) Take.nil) (fun v es hv => ?_)
    obtain ⟨rfl, rfl⟩ := hv
    simp only [List.cons_append, List.nil_append] -- @t55 callS (.func (.func 28) #[] #[]) [a1, (.int .i64 2)]
    refine J.op fa62_4 ?_
    refine J.st sz3 (by with_reducible repeat (first | exact Pick.here | apply Pick.there)) (by repeat (first | exact .zero | exact .nil | apply Upd.succ | apply UpdN.cons)) rfl ?_ -- @tu_4 uS (Instr.storeAt 3 t56 t55)
    refine J.draw ?_
    refine J.op fa123_1 ?_
    refine J.op (R.ld o2 (by with_reducible repeat (first | exact Pick.here | apply Pick.there)) rfl) ?_ -- @t58 vS (Instr.loadAt 2 t57)
    refine J.op fa123_0 ?_
    refine J.op (R.ld o2 (by with_reducible repeat (first | exact Pick.here | apply Pick.there)) rfl) ?_ -- @t60 vS (Instr.loadAt 2 t59)
    refine J.op (R.asI (R.quo (by omega)) (v := (ordS k c x).ref.tdiv (ordS k c x).grid) (i64_in _ (by have := Int.tdiv_eq_ediv_of_nonneg (b := (ordS k c x).grid) (show 0 ≤ (ordS k c x).ref by omega); have := Int.ediv_le_self (ordS k c x).grid (show 0 ≤ (ordS k c x).ref by omega); have := Int.ediv_nonneg (show 0 ≤ (ordS k c x).ref by omega) (show 0 ≤ (ordS k c x).grid by omega); omega))) ?_ -- @t61 binS .quo 2 (.tmp 58) (.tmp 60) t58 t60
    refine J.op fa62_4 ?_
    refine J.op (R.ld o3 (by with_reducible repeat (first | exact Pick.here | apply Pick.there)) rfl) ?_ -- @t66 vS (Instr.loadAt 3 t65)
    refine J.callT en63 (s63 b (k + 2) x kind i (th (k + 1) x 2) (by omega) (by omega)) rfl (fun _ _ _ => trivial) (Take.cons (by (try dsimp only); repeat (first | (with_reducible exact Out.here) | ((with_reducible refine Out.cells ?_); first | rfl | (simp; done)) | ((with_reducible refine Out.row ?_); first | rfl | (simp; done)) | (with_reducible apply Out.there))) Take.nil) (fun v es hv => ?_)
    obtain ⟨rfl, rfl⟩ := hv
    simp only [List.cons_append, List.nil_append] -- @t67 callS (.func (.func 63) #[] #[]) [a1, a2, a3, t66]
    refine J.chkR (R.asI (R.quo (by omega)) (v := (ordS k c x).ref.tdiv (ordS k c x).grid) (i64_in _ (by have := Int.tdiv_eq_ediv_of_nonneg (b := (ordS k c x).grid) (show 0 ≤ (ordS k c x).ref by omega); have := Int.ediv_le_self (ordS k c x).grid (show 0 ≤ (ordS k c x).ref by omega); have := Int.ediv_nonneg (show 0 ≤ (ordS k c x).ref by omega) (show 0 ≤ (ordS k c x).grid by omega); omega))) ?_ -- @chk:t61 binS .quo 2 (.tmp 58) (.tmp 60) t58 t60
    refine J.chkR (R.ld o2 (by with_reducible repeat (first | exact Pick.here | apply Pick.there)) rfl) ?_ -- @chk:t60 vS (Instr.loadAt 2 t59)
    refine J.chkR fa123_0 ?_ -- @chk:t59 vS (Instr.fieldAt 123 t12 0)
    refine J.chkR (R.ld o2 (by with_reducible repeat (first | exact Pick.here | apply Pick.there)) rfl) ?_ -- @chk:t58 vS (Instr.loadAt 2 t57)
    refine J.chkR fa123_1 ?_ -- @chk:t57 vS (Instr.fieldAt 123 t12 1)
    obtain ⟨hq0, hq1⟩ := quo_range hg hr
    refine J.op (R.add64 (by omega)) ?_ -- @t68 binS .add 2 (.tmp 61) (.tmp 67) t61 t67
    refine J.draw ?_
    refine J.op fa123_0 ?_
    refine J.op (R.ld o2 (by with_reducible repeat (first | exact Pick.here | apply Pick.there)) rfl) ?_ -- @t70 vS (Instr.loadAt 2 t69)
    refine J.op fa123_0 ?_
    refine J.op (R.ld o2 (by with_reducible repeat (first | exact Pick.here | apply Pick.there)) rfl) ?_ -- @t73 vS (Instr.loadAt 2 t72)
    obtain ⟨hM0, hM1⟩ := quo_range (r := 1099511627776) hg (by decide)
    refine J.op (R.asI (R.quo (by omega)) (v := (1099511627776 : Int).tdiv (ordS k c x).grid) (i64_in _ (by omega))) ?_ -- @t74 binS .quo 2 (.const (.int .i64 1099511627776)) (.tmp 73) (.int .i64 1099511627776) t73
    refine J.op R.minI ?_ -- @t75 bltS .min #[2, 2] 2 #[false, false] [t68, t74]
    refine J.op R.maxI ?_ -- @t76 bltS .max #[2, 2] 2 #[false, true] [t75, (.int .i64 1)]
    have hprc := price_ref hg hr hmd hsh
    have hpin := price_in hg hr hsh
    refine J.op (R.asI R.mul (v := ordP k c kind i x) (by rw [Int.min_comm, Int.max_comm] at *; first | (rw [hprc]; exact i64_in _ hpin) | (rw [show (ordS k c x).grid * _ = priceM _ _ from hprc]; exact i64_in _ hpin))) ?_ -- @t77 binS .mul 2 (.tmp 70) (.tmp 76) t70 t76
    refine J.op fa62_6 ?_
    refine J.st sz2 (by with_reducible repeat (first | exact Pick.here | apply Pick.there)) (by repeat (first | exact .zero | exact .nil | apply Upd.succ | apply UpdN.cons)) rfl ?_ -- @tu_5 uS (Instr.storeAt 2 t78 t77)
    refine J.callT en28 (RefNext_pos b x 9 (k + 3) (by decide)) rfl (fun _ _ _ => trivial) (Take.cons (by (try dsimp only); repeat (first | (with_reducible exact Out.here) | ((with_reducible refine Out.cells ?_); first | rfl | (simp; done)) | ((with_reducible refine Out.row ?_); first | rfl | (simp; done)) | (with_reducible apply Out.there))) Take.nil) (fun v es hv => ?_)
    obtain ⟨rfl, rfl⟩ := hv
    simp only [List.cons_append, List.nil_append] -- @t80 callS (.func (.func 28) #[] #[]) [a1, (.int .i64 9)]
    refine J.op (R.asI R.add (v := th (k + 3) x 9 + 1) (by rw [i64_in _ (by omega)]; omega)) ?_ -- @t81 binS .add 2 (.const (.int .i64 1)) (.tmp 80) (.int .i64 1) t80
    refine J.op fa62_7 ?_
    refine J.st sz2 (by with_reducible repeat (first | exact Pick.here | apply Pick.there)) (by repeat (first | exact .zero | exact .nil | apply Upd.succ | apply UpdN.cons)) rfl ?_ -- @tu_6 uS (Instr.storeAt 2 t82 t81)
    refine J.callT en28 (RefNext_pos b x 4 (k + 4) (by decide)) rfl (fun _ _ _ => trivial) (Take.cons (by (try dsimp only); repeat (first | (with_reducible exact Out.here) | ((with_reducible refine Out.cells ?_); first | rfl | (simp; done)) | ((with_reducible refine Out.row ?_); first | rfl | (simp; done)) | (with_reducible apply Out.there))) Take.nil) (fun v es hv => ?_)
    obtain ⟨rfl, rfl⟩ := hv
    simp only [List.cons_append, List.nil_append] -- @t84 callS (.func (.func 28) #[] #[]) [a1, (.int .i64 4)]
    refine J.op fa62_3 ?_
    refine J.st sz3 (by with_reducible repeat (first | exact Pick.here | apply Pick.there)) (by repeat (first | exact .zero | exact .nil | apply Upd.succ | apply UpdN.cons)) rfl ?_ -- @tu_7 uS (Instr.storeAt 3 t85 t84)
    refine J.op fa62_5 ?_
    refine J.st sz3 (by with_reducible repeat (first | exact Pick.here | apply Pick.there)) (by repeat (first | exact .zero | exact .nil | apply Upd.succ | apply UpdN.cons)) rfl ?_ -- @tu_8 uS (Instr.storeAt 3 t86 (.int .i64 1))
    refine J.callT en28 (RefNext_pos b x 8 (k + 5) (by decide)) rfl (fun _ _ _ => trivial) (Take.cons (by (try dsimp only); repeat (first | (with_reducible exact Out.here) | ((with_reducible refine Out.cells ?_); first | rfl | (simp; done)) | ((with_reducible refine Out.row ?_); first | rfl | (simp; done)) | (with_reducible apply Out.there))) Take.nil) (fun v es hv => ?_)
    obtain ⟨rfl, rfl⟩ := hv
    simp only [List.cons_append, List.nil_append] -- @t88 callS (.func (.func 28) #[] #[]) [a1, (.int .i64 8)]
    refine J.bindJ (fun vs H2 => vs = [] ∧ Imp ⟨Try.prog, w, footOf [Ent.cells b [.int .u64 (dn k x)] 60]⟩ H2 [Ent.cells bt11 [.int .i64 1, .int .i64 (th k x c.syms.length), .int .i64 (i + 1), .int .i64 (th (k + 4) x 4), .int .i64 (th (k + 1) x 2), .int .i64 (kindM (k + 5) kind x), .int .i64 (if kindM (k + 5) kind x = 2 then 0 else ordP k c kind i x), .int .i64 (th (k + 3) x 9 + 1), .int .i64 0] 62, Ent.cells b [.int .u64 (dn (k + 6) x)] 60, Ent.cells bt8 Cmd.zero.cells 62]) ?_ ?_ -- @tv_5
    · skip
      refine J.block ?_
      refine J.opD R.eql (fun ht91 => ?_) (fun ht91 => ?_) -- @t91 binS .eql 2 (.tmp 90) (.const (.int .i64 0)) t88 (.int .i64 0)
      · skip
        refine J.bind ?_ -- @tv_4 bind tv_4 ([])
        refine J.iteT ?_
        refine J.op fa62_5 ?_
        refine J.st sz3 (by with_reducible repeat (first | exact Pick.here | apply Pick.there)) (by repeat (first | exact .zero | exact .nil | apply Upd.succ | apply UpdN.cons)) rfl ?_ -- @tu_9 uS (Instr.storeAt 3 t92 (.int .i64 3))
        refine J.done ?_ -- then tv_4 = []
        -- @join[]
        have hkd : kindM (k + 5) kind x = 3 := by unfold kindM; rw [if_pos ht91]
        refine J.done ⟨rfl, ?_⟩
        rw [hkd]
        exact Imp.take (by (try dsimp only); repeat (first | exact Has.nil | refine Has.cons (by repeat (first | (with_reducible exact Out.here) | ((with_reducible refine Out.cells ?_); first | rfl | (simp; done)) | ((with_reducible refine Out.row ?_); first | rfl | (simp; done)) | (with_reducible apply Out.there))) ?_))
      · skip
        refine J.bind ?_ -- @tv_4 bind tv_4 ([])
        refine J.iteF ?_
        refine J.opD R.eql (fun ht95 => ?_) (fun ht95 => ?_) -- @t95 binS .eql 2 (.tmp 94) (.const (.int .i64 1)) t88 (.int .i64 1)
        · skip
          refine J.bind ?_ -- @tv_3 bind tv_3 ([])
          refine J.iteT ?_
          refine J.op fa62_5 ?_
          refine J.st sz3 (by with_reducible repeat (first | exact Pick.here | apply Pick.there)) (by repeat (first | exact .zero | exact .nil | apply Upd.succ | apply UpdN.cons)) rfl ?_ -- @tu_10 uS (Instr.storeAt 3 t96 (.int .i64 5))
          refine J.done ?_ -- then tv_3 = []
          refine J.done ?_ -- then tv_4 = []
          -- @join[]#2
          have hkd : kindM (k + 5) kind x = 5 := by unfold kindM; rw [if_neg ht91, if_pos ht95]
          refine J.done ⟨rfl, ?_⟩
          rw [hkd]
          exact Imp.take (by (try dsimp only); repeat (first | exact Has.nil | refine Has.cons (by repeat (first | (with_reducible exact Out.here) | ((with_reducible refine Out.cells ?_); first | rfl | (simp; done)) | ((with_reducible refine Out.row ?_); first | rfl | (simp; done)) | (with_reducible apply Out.there))) ?_))
        · skip
          refine J.bind ?_ -- @tv_3 bind tv_3 ([])
          refine J.iteF ?_
          refine J.bind ?_ -- @tv_1 bind tv_1 ([97])
          refine J.opD R.eql (fun ht99 => ?_) (fun ht99 => ?_) -- @t99 binS .eql 2 (.tmp 98) (.const (.int .i64 2)) t88 (.int .i64 2)
          · skip
            refine J.gopT rfl ?_
            refine J.op R.pure ?_
            refine J.gopT rfl ?_
            refine J.opD R.eql (fun ht102 => ?_) (fun ht102 => ?_) -- @t102 binS .eql 3 (.tmp 101) (.const (.int .i64 4)) t101 (.int .i64 4)
            · skip
              refine J.op R.pickT ?_ -- @t103 pickS t99 t102 (.bool false)
              refine J.done ?_ -- then tv_1 = [t103]
              refine J.bind ?_ -- @tv_2 bind tv_2 ([])
              refine J.iteT ?_
              refine J.op fa62_5 ?_
              refine J.st sz3 (by with_reducible repeat (first | exact Pick.here | apply Pick.there)) (by repeat (first | exact .zero | exact .nil | apply Upd.succ | apply UpdN.cons)) rfl ?_ -- @tu_11 uS (Instr.storeAt 3 t104 (.int .i64 2))
              refine J.op fa62_6 ?_
              refine J.st sz2 (by with_reducible repeat (first | exact Pick.here | apply Pick.there)) (by repeat (first | exact .zero | exact .nil | apply Upd.succ | apply UpdN.cons)) rfl ?_ -- @tu_12 uS (Instr.storeAt 2 t105 (.int .i64 0))
              refine J.done ?_ -- then tv_2 = []
              refine J.done ?_ -- then tv_3 = []
              refine J.done ?_ -- then tv_4 = []
              -- @join[]#3
              have hkd : kindM (k + 5) kind x = 2 := by unfold kindM; rw [if_neg ht91, if_neg ht95, if_pos ⟨ht99, ht102⟩]
              refine J.done ⟨rfl, ?_⟩
              rw [hkd]
              exact Imp.take (by (try dsimp only); repeat (first | exact Has.nil | refine Has.cons (by repeat (first | (with_reducible exact Out.here) | ((with_reducible refine Out.cells ?_); first | rfl | (simp; done)) | ((with_reducible refine Out.row ?_); first | rfl | (simp; done)) | (with_reducible apply Out.there))) ?_))
            · skip
              refine J.op R.pickT ?_ -- @t103 pickS t99 t102 (.bool false)
              refine J.done ?_ -- then tv_1 = [t103]
              refine J.bind ?_ -- @tv_2 bind tv_2 ([])
              refine J.iteF ?_
              refine J.done ?_ -- then tv_2 = []
              refine J.done ?_ -- then tv_3 = []
              refine J.done ?_ -- then tv_4 = []
              -- @join[]#4
              have hkd : kindM (k + 5) kind x = 1 := by unfold kindM; rw [if_neg ht91, if_neg ht95, if_neg (fun h => ht102 h.2)]
              refine J.done ⟨rfl, ?_⟩
              rw [hkd]
              exact Imp.take (by (try dsimp only); repeat (first | exact Has.nil | refine Has.cons (by repeat (first | (with_reducible exact Out.here) | ((with_reducible refine Out.cells ?_); first | rfl | (simp; done)) | ((with_reducible refine Out.row ?_); first | rfl | (simp; done)) | (with_reducible apply Out.there))) ?_))
          · skip
            refine J.gopF rfl ?_
            refine J.gopF rfl ?_
            refine J.op R.pickF ?_ -- @t103 pickS t99 t102 (.bool false)
            refine J.done ?_ -- then tv_1 = [t103]
            refine J.bind ?_ -- @tv_2 bind tv_2 ([])
            refine J.iteF ?_
            refine J.done ?_ -- then tv_2 = []
            refine J.done ?_ -- then tv_3 = []
            refine J.done ?_ -- then tv_4 = []
            -- @join[]#5
            have hkd : kindM (k + 5) kind x = 1 := by unfold kindM; rw [if_neg ht91, if_neg ht95, if_neg (fun h => ht99 h.1)]
            refine J.done ⟨rfl, ?_⟩
            rw [hkd]
            exact Imp.take (by (try dsimp only); repeat (first | exact Has.nil | refine Has.cons (by repeat (first | (with_reducible exact Out.here) | ((with_reducible refine Out.cells ?_); first | rfl | (simp; done)) | ((with_reducible refine Out.row ?_); first | rfl | (simp; done)) | (with_reducible apply Out.there))) ?_))
    · rintro vs H1 ⟨rfl, him⟩
      refine J.imp him ?_
      try simp only [List.headD_cons, List.tail_cons]
      refine J.callT en28 (RefNext_pos b x 6 (k + 6) (by decide)) rfl (fun _ _ _ => trivial) (Take.cons (by (try dsimp only); repeat (first | (with_reducible exact Out.here) | ((with_reducible refine Out.cells ?_); first | rfl | (simp; done)) | ((with_reducible refine Out.row ?_); first | rfl | (simp; done)) | (with_reducible apply Out.there))) Take.nil) (fun v es hv => ?_)
      obtain ⟨rfl, rfl⟩ := hv
      simp only [List.cons_append, List.nil_append] -- @t107 callS (.func (.func 28) #[] #[]) [a1, (.int .i64 6)]
      refine J.bind ?_ -- @tv_8 bind tv_8 ([])
      refine J.block ?_
      refine J.opD R.eql (fun ht109 => ?_) (fun ht109 => ?_) -- @t109 binS .eql 2 (.tmp 107) (.const (.int .i64 0)) t107 (.int .i64 0)
      · skip
        refine J.bind ?_ -- @tv_7 bind tv_7 ([])
        refine J.iteT ?_
        refine J.op fa62_8 ?_
        refine J.st sz3 (by with_reducible repeat (first | exact Pick.here | apply Pick.there)) (by repeat (first | exact .zero | exact .nil | apply Upd.succ | apply UpdN.cons)) rfl ?_ -- @tu_13 uS (Instr.storeAt 3 t110 (.int .i64 4))
        refine J.done ?_ -- then tv_7 = []
        refine J.done ?_ -- then tv_8 = []
        refine J.op (R.ldA ag62 (by with_reducible repeat (first | exact Pick.here | apply Pick.there)) rfl) ?_ -- @t114 vS (Instr.loadAt 62 t11)
        refine J.stW sz62 (by with_reducible repeat (first | exact Pick.here | apply Pick.there)) rfl rfl rfl ?_ -- @tu_15 uS (Instr.storeAt 62 t8 t114)
        -- @ret[t8]#2
        refine J.done (RetQ.gt (es := [Ent.cells b [.int .u64 (dn (k + 7) x)] 60]) (.cellA ag62 (by with_reducible repeat (first | exact Pick.here | apply Pick.there)) rfl (.nil)) ?_ ?_)
        · exact (by (try dsimp only); repeat (first | exact Has.nil | refine Has.cons (by repeat (first | (with_reducible exact Out.here) | ((with_reducible refine Out.cells ?_); first | rfl | (simp; done)) | ((with_reducible refine Out.row ?_); first | rfl | (simp; done)) | (with_reducible apply Out.there))) ?_))
        · exact ⟨by simp only [mkRes]; rw [show ordM k c kind i x = ordV k c kind i x from if_pos hok]; simp only [ordV, Cmd.cells, flagM, if_pos ht109]; (try rfl), by rw [show ordN k c kind i = k + 7 from if_pos hok]⟩
      · skip
        refine J.bind ?_ -- @tv_7 bind tv_7 ([])
        refine J.iteF ?_
        refine J.opD R.eql (fun ht112 => ?_) (fun ht112 => ?_) -- @t112 binS .eql 2 (.tmp 107) (.const (.int .i64 1)) t107 (.int .i64 1)
        · skip
          refine J.bind ?_ -- @tv_6 bind tv_6 ([])
          refine J.iteT ?_
          refine J.op fa62_8 ?_
          refine J.st sz3 (by with_reducible repeat (first | exact Pick.here | apply Pick.there)) (by repeat (first | exact .zero | exact .nil | apply Upd.succ | apply UpdN.cons)) rfl ?_ -- @tu_14 uS (Instr.storeAt 3 t113 (.int .i64 1))
          refine J.done ?_ -- then tv_6 = []
          refine J.done ?_ -- then tv_7 = []
          refine J.done ?_ -- then tv_8 = []
          refine J.op (R.ldA ag62 (by with_reducible repeat (first | exact Pick.here | apply Pick.there)) rfl) ?_ -- @t114 vS (Instr.loadAt 62 t11)
          refine J.stW sz62 (by with_reducible repeat (first | exact Pick.here | apply Pick.there)) rfl rfl rfl ?_ -- @tu_15 uS (Instr.storeAt 62 t8 t114)
          -- @ret[t8]#3
          refine J.done (RetQ.gt (es := [Ent.cells b [.int .u64 (dn (k + 7) x)] 60]) (.cellA ag62 (by with_reducible repeat (first | exact Pick.here | apply Pick.there)) rfl (.nil)) ?_ ?_)
          · exact (by (try dsimp only); repeat (first | exact Has.nil | refine Has.cons (by repeat (first | (with_reducible exact Out.here) | ((with_reducible refine Out.cells ?_); first | rfl | (simp; done)) | ((with_reducible refine Out.row ?_); first | rfl | (simp; done)) | (with_reducible apply Out.there))) ?_))
          · exact ⟨by simp only [mkRes]; rw [show ordM k c kind i x = ordV k c kind i x from if_pos hok]; simp only [ordV, Cmd.cells, flagM, if_neg ht109, if_pos ht112]; (try rfl), by rw [show ordN k c kind i = k + 7 from if_pos hok]⟩
        · skip
          refine J.bind ?_ -- @tv_6 bind tv_6 ([])
          refine J.iteF ?_
          refine J.done ?_ -- then tv_6 = []
          refine J.done ?_ -- then tv_7 = []
          refine J.done ?_ -- then tv_8 = []
          refine J.op (R.ldA ag62 (by with_reducible repeat (first | exact Pick.here | apply Pick.there)) rfl) ?_ -- @t114 vS (Instr.loadAt 62 t11)
          refine J.stW sz62 (by with_reducible repeat (first | exact Pick.here | apply Pick.there)) rfl rfl rfl ?_ -- @tu_15 uS (Instr.storeAt 62 t8 t114)
          -- @ret[t8]#4
          refine J.done (RetQ.gt (es := [Ent.cells b [.int .u64 (dn (k + 7) x)] 60]) (.cellA ag62 (by with_reducible repeat (first | exact Pick.here | apply Pick.there)) rfl (.nil)) ?_ ?_)
          · exact (by (try dsimp only); repeat (first | exact Has.nil | refine Has.cons (by repeat (first | (with_reducible exact Out.here) | ((with_reducible refine Out.cells ?_); first | rfl | (simp; done)) | ((with_reducible refine Out.row ?_); first | rfl | (simp; done)) | (with_reducible apply Out.there))) ?_))
          · exact ⟨by simp only [mkRes]; rw [show ordM k c kind i x = ordV k c kind i x from if_pos hok]; simp only [ordV, Cmd.cells, flagM, if_neg ht109, if_neg ht112]; (try rfl), by rw [show ordN k c kind i = k + 7 from if_pos hok]⟩

/-- damper/damperlaw37.DrillOrders -/
theorem s6 (xa ya : Option Addr) (xn xc yn yc : Nat) (c : Cfg) (x kind i : Int) :
    FnE Try.prog 6 [.agg (c.cells (.slice xa xn xc) (.slice ya yn yc)).toArray, .int .u64 x, .int .i64 kind, .int .i64 i] (c.at (.slice xa xn xc) (.slice ya yn yc)) (.bool true) := by
  refine fn_of_J (cx := cx6) hmix Try.func6 (by kernel_rfl) (eq6 _ _ _ _) fun w hw => ?_
  refine J.boxA fun bt4 => ?_
  refine J.op (R.ldA ag53 (by with_reducible repeat (first | exact Pick.here | apply Pick.there)) rfl) ?_ -- @t11 vS (Instr.loadAt 53 t4)
  refine J.callEB en22 (s22 _ _ c) rfl (fun _ _ hs => Cfg.at_stab _ _ hs.ext hw) (fun ht12 => ?_) (fun ht12 => ?_) -- @t12 callS (.func (.func 22) #[] #[]) [t11]
  · skip
    refine J.op (v := .bool false) R.not ?_
    refine J.iteF ?_
    refine J.callT en24 (s24 x) rfl (fun _ _ _ => trivial) Take.nil (fun v es hv => ?_)
    obtain ⟨bd, rfl, rfl⟩ := hv
    simp only [List.cons_append, List.nil_append] -- @t16 callS (.func (.func 24) #[] #[]) [a1]
    refine J.op bd60_0 ?_ -- @t18 vS (Instr.build 60 #[(0, a1)])
    refine J.boxA fun bt19 => ?_
    refine J.bind ?_ -- @tv bind tv ([8])
    refine J.draw ?_
    refine J.op (R.ldA ag53 (by with_reducible repeat (first | exact Pick.here | apply Pick.there)) rfl) ?_ -- @t20 vS (Instr.loadAt 53 t4)
    refine J.op (R.ldA ag53 (by with_reducible repeat (first | exact Pick.here | apply Pick.there)) rfl) ?_ -- @t25 vS (Instr.loadAt 53 t4)
    refine J.callT en25 (s25 bd 0 x (.slice xa xn xc) (.slice ya yn yc) c kind i) rfl (fun _ _ hs => ⟨RdF.arg (RdF.base hw.1) syms_ne hs (by simp [dn]), RdF.arg (RdF.base hw.2) trows_ne hs (by simp [dn])⟩) (Take.cons (by (try dsimp only); repeat (first | (with_reducible exact Out.here) | ((with_reducible refine Out.cells ?_); first | rfl | (simp; done)) | ((with_reducible refine Out.row ?_); first | rfl | (simp; done)) | (with_reducible apply Out.there))) Take.nil) (fun v es hv => ?_)
    obtain ⟨rfl, rfl⟩ := hv
    simp only [List.cons_append, List.nil_append] -- @t24 callS (.func (.func 25) #[] #[]) [t20, t16, a2, a3]
    refine J.chkR (R.ldA ag53 (by with_reducible repeat (first | exact Pick.here | apply Pick.there)) rfl) ?_ -- @chk:t25 vS (Instr.loadAt 53 t4)
    refine J.callT en26 (s26 bt19 0 x (.slice xa xn xc) (.slice ya yn yc) c kind i) rfl (fun _ _ hs => ⟨RdF.arg (RdF.base hw.1) syms_ne hs (by simp [dn]), RdF.arg (RdF.base hw.2) trows_ne hs (by simp [dn])⟩) (Take.cons (by (try dsimp only); repeat (first | (with_reducible exact Out.here) | ((with_reducible refine Out.cells ?_); first | rfl | (simp; done)) | ((with_reducible refine Out.row ?_); first | rfl | (simp; done)) | (with_reducible apply Out.there))) Take.nil) (fun v es hv => ?_)
    obtain ⟨rfl, rfl⟩ := hv
    simp only [List.cons_append, List.nil_append] -- @t29 callS (.func (.func 26) #[] #[]) [t25, t19, a2, a3]
    refine J.opDT (R.eqA gt62 (by repeat (first | exact trivial | refine ⟨⟨_, rfl⟩, ?_⟩)) (by repeat (first | exact trivial | refine ⟨⟨_, rfl⟩, ?_⟩))) (by rfl) ?_ -- @t30
    refine J.gopT rfl ?_
    refine J.op R.pure ?_
    refine J.gopT rfl ?_
    refine J.op R.pure ?_
    refine J.gopT rfl ?_
    refine J.callT en27 (Next_pos bd x 1000 (ordN 0 c kind i) (by decide)) rfl (fun _ _ _ => trivial) (Take.cons (by (try dsimp only); repeat (first | (with_reducible exact Out.here) | ((with_reducible refine Out.cells ?_); first | rfl | (simp; done)) | ((with_reducible refine Out.row ?_); first | rfl | (simp; done)) | (with_reducible apply Out.there))) Take.nil) (fun v es hv => ?_)
    obtain ⟨rfl, rfl⟩ := hv
    simp only [List.cons_append, List.nil_append] -- @t33 callS (.func (.func 27) #[] #[]) [t32, (.int .i64 1000)]
    refine J.gopT rfl ?_
    refine J.callT en28 (RefNext_pos bt19 x 1000 (ordN 0 c kind i) (by decide)) rfl (fun _ _ _ => trivial) (Take.cons (by (try dsimp only); repeat (first | (with_reducible exact Out.here) | ((with_reducible refine Out.cells ?_); first | rfl | (simp; done)) | ((with_reducible refine Out.row ?_); first | rfl | (simp; done)) | (with_reducible apply Out.there))) Take.nil) (fun v es hv => ?_)
    obtain ⟨rfl, rfl⟩ := hv
    simp only [List.cons_append, List.nil_append] -- @t35 callS (.func (.func 28) #[] #[]) [t34, (.int .i64 1000)]
    refine J.gopT rfl ?_
    refine J.opDT R.eql (by rfl) ?_ -- @t36
    refine J.op R.pickT ?_ -- @t37 pickS t30 t36 (.bool false)
    refine J.gopT rfl ?_
    refine J.op (R.ldA ag53 (by with_reducible repeat (first | exact Pick.here | apply Pick.there)) rfl) ?_ -- @t39 vS (Instr.loadAt 53 t4)
    refine J.gopT rfl ?_
    refine J.op R.pure ?_
    refine J.gopT rfl ?_
    refine J.op R.pure ?_
    refine J.gopT rfl ?_
    refine J.op bd62 ?_ -- @t43 vS (Instr.build 62 #[])
    refine J.gopT rfl ?_
    refine J.callE en25 (s25nil (.slice xa xn xc) (.slice ya yn yc) c kind i) rfl (fun _ _ _ => trivial) ?_ -- @t42 callS (.func (.func 25) #[] #[]) [t39, (.pointer none), t40, t41]
    refine J.chkR bd62 ?_ -- @chk:t43 vS (Instr.build 62 #[])
    refine J.gopT rfl ?_
    refine J.opDT (R.eqA gt62 (by repeat (first | exact trivial | refine ⟨⟨_, rfl⟩, ?_⟩)) (by repeat (first | exact trivial | refine ⟨⟨_, rfl⟩, ?_⟩))) (by rfl) ?_ -- @t44
    refine J.op R.pickT ?_ -- @t45 pickS t37 t44 (.bool false)
    refine J.gopT rfl ?_
    refine J.callE en23 (s23) rfl (fun _ _ _ => trivial) ?_ -- @t47 callS (.func (.func 23) #[] #[]) []
    refine J.op R.pickT ?_ -- @t48 pickS t45 t47 (.bool false)
    refine J.done ?_ -- then tv = [t48]
    -- @ret[(tv.headDundef)]
    exact J.done (RetQ.ge (.tmp (.nil)) (by first | rfl | (simp [mkRes, *]; done) | (simp_all [mkRes]; done) | (simp_all [mkRes]; first | omega | (rw [decide_eq_false_iff_not]; omega) | (rw [decide_eq_true_iff]; omega)) | (simp only [mkRes]; (repeat' split) <;> first | rfl | omega | (simp_all; done) | (simp_all; omega))))
  · skip
    refine J.op (v := .bool true) R.not ?_
    refine J.iteT ?_
    refine J.callE en23 (s23) rfl (fun _ _ _ => trivial) ?_ -- @t14 callS (.func (.func 23) #[] #[]) []
    -- @ret[t14]
    exact J.done (RetQ.ge (.tmp (.nil)) (by first | rfl | (simp [mkRes, *]; done) | (simp_all [mkRes]; done) | (simp_all [mkRes]; first | omega | (rw [decide_eq_false_iff_not]; omega) | (rw [decide_eq_true_iff]; omega)) | (simp only [mkRes]; (repeat' split) <;> first | rfl | omega | (simp_all; done) | (simp_all; omega))))
end Go.Proofs.Ytipgdalebkhgpaa
