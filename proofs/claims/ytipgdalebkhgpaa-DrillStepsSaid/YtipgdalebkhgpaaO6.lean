/-
  Contracts of functions.
-/
import Derived.Test.YtipgdalebkhgpaaTerms1
import Derived.Test.YtipgdalebkhgpaaTerms2
import Derived.Test.YtipgdalebkhgpaaTab
import Derived.Test.YtipgdalebkhgpaaO5
import Derived.Test.YtipgdalebkhgpaaO1
import Derived.Test.YtipgdalebkhgpaaD1
import Derived.Test.YtipgdalebkhgpaaG1
set_option maxRecDepth 100000
set_option maxHeartbeats 4000000
set_option linter.unusedVariables false
set_option linter.unusedSimpArgs false
namespace Go.Proofs.Ytipgdalebkhgpaa
open Go Go.RowKit Fw
/-- damper/drill.Steps -/
theorem s29 (xa ya : Option Addr) (xn xc yn yc : Nat) (c : Cfg) (kind x n : Int) :
    FnT Try.prog 29 [.agg (c.cells (.slice xa xn xc) (.slice ya yn yc)).toArray, .int .i64 kind, .int .u64 x, .int .i64 n] (c.at (.slice xa xn xc) (.slice ya yn yc)) [] (fun v es => ∃ a m cc l, l.map Prod.fst = stepsM c kind x n ∧ v = .tuple #[.slice a m cc, .int .i64 (stepsF c kind n)] ∧ es = [Ent.row (.slice a m cc) 4 (stRow (l)) 132, Ent.bag (stBag 5 (l))]) := by
  refine fn_of_J (cx := cx29) hmix Try.func29 (by kernel_rfl) (eq29 _ _ _ _) fun w hw => ?_
  have hY := hw
  refine J.boxA fun bt4 => ?_
  refine J.op (R.ldA ag53 (by with_reducible repeat (first | exact Pick.here | apply Pick.there)) rfl) ?_ -- @t17 vS (Instr.loadAt 53 t4)
  refine J.callE en58 (s58 _ _ c kind) rfl (fun _ _ hs => Cfg.at_stab _ _ hs.ext hw) ?_ -- @t19 callS (.func (.func 58) #[] #[]) [t17, a1]
  refine J.opD R.neq (fun ht21 => ?_) (fun ht21 => ?_) -- @t21 binS .neq 25 (.tmp 20) (.const (.int .i64 0)) t19 (.int .i64 0)
  · skip
    refine J.iteT ?_
    have hF : stepsF c kind n = rightF c kind := if_pos ht21
    refine J.nilRow (sz := 4) (E := 132) ?_
    refine J.imp Imp.bagNil ?_
    -- @ret[(.slicenone00),t19]
    refine J.done (RetQ.gt (es := [Ent.row (.slice none 0 0) 4 [] 132, Ent.bag []]) (.tmp (.tmp (.nil))) ?_ ?_)
    · exact (by (try dsimp only); repeat (first | exact Has.nil | refine Has.cons (by repeat (first | (with_reducible exact Out.here) | ((with_reducible refine Out.cells ?_); first | rfl | (simp; done)) | ((with_reducible refine Out.row ?_); first | rfl | (simp; done)) | (with_reducible apply Out.there))) ?_))
    · exact ⟨none, 0, 0, [], by rw [stepsM, if_neg (by rw [hF]; exact ht21)]; rfl, by rw [hF]; rfl, rfl⟩
  · skip
    refine J.iteF ?_
    refine J.bindB (n < 0 ∨ 500 < n) ?_ (fun hbtv => ?_) (fun hbtv => ?_) -- @tv
    · skip
      refine J.opD R.lss (fun ht24 => ?_) (fun ht24 => ?_) -- @t24 binS .lss 3 (.tmp 23) (.const (.int .i64 0)) a3 (.int .i64 0)
      · skip
        refine J.gopF rfl ?_
        refine J.gopF rfl ?_
        refine J.op R.pickT ?_ -- @t28 pickS t24 (.bool true) t27
        exact J.done ⟨rfl, by simp only [List.cons.injEq, Value.bool.injEq, and_true]; first | (symm; rw [decide_eq_true_iff]; omega) | (symm; rw [decide_eq_false_iff_not]; omega) | exact decide_eq_decide.2 (by omega), rfl⟩ -- @leaf[t28]
      · skip
        refine J.gopT rfl ?_
        refine J.op R.pure ?_
        refine J.gopT rfl ?_
        refine J.op R.gtr ?_ -- @t27 binS .gtr 3 (.tmp 26) (.const (.int .i64 500)) t26 (.int .i64 500)
        refine J.op R.pickF ?_ -- @t28 pickS t24 (.bool true) t27
        exact J.done ⟨rfl, by simp only [List.cons.injEq, Value.bool.injEq, and_true]; first | (symm; rw [decide_eq_true_iff]; omega) | (symm; rw [decide_eq_false_iff_not]; omega) | exact decide_eq_decide.2 (by omega), rfl⟩ -- @leaf[t28]
    · skip
      refine J.iteT ?_
      have hF : stepsF c kind n = 1 := by unfold stepsF; rw [if_neg ht21, if_pos hbtv]
      refine J.nilRow (sz := 4) (E := 132) ?_
      refine J.imp Imp.bagNil ?_
      -- @ret[(.slicenone00),(.int.i641)]
      refine J.done (RetQ.gt (es := [Ent.row (.slice none 0 0) 4 [] 132, Ent.bag []]) (.tmp (.tmp (.nil))) ?_ ?_)
      · exact (by (try dsimp only); repeat (first | exact Has.nil | refine Has.cons (by repeat (first | (with_reducible exact Out.here) | ((with_reducible refine Out.cells ?_); first | rfl | (simp; done)) | ((with_reducible refine Out.row ?_); first | rfl | (simp; done)) | (with_reducible apply Out.there))) ?_))
      · exact ⟨none, 0, 0, [], by rw [stepsM, if_neg (by rw [hF]; decide)]; rfl, by rw [hF]; rfl, rfl⟩
    · skip
      refine J.iteF ?_
      have hF : stepsF c kind n = 0 := by unfold stepsF; rw [if_neg ht21, if_neg hbtv]
      have hrf : rightF c kind = 0 := Classical.not_not.1 ht21
      obtain ⟨hc0, hk0, hk4⟩ := right_ok hrf
      refine J.callT en24 (s24 x) rfl (fun _ _ _ => trivial) Take.nil (fun v es hv => ?_)
      obtain ⟨bd, rfl, rfl⟩ := hv
      simp only [List.cons_append, List.nil_append] -- @t30 callS (.func (.func 24) #[] #[]) [a2]
      refine J.op (R.ldA ag53 (by with_reducible repeat (first | exact Pick.here | apply Pick.there)) rfl) ?_ -- @t32 vS (Instr.loadAt 53 t4)
      refine J.callE en31 (s31 xa xn xc (.slice ya yn yc) c.index c.f0 c.f1 c.f2 c.h0 c.h1 c.rows) rfl (fun _ _ hs => (Cfg.at_stab _ _ hs.ext hw).2) ?_ -- @t33 callS (.func (.func 31) #[] #[]) [t32]
      refine J.op (R.ext rfl) ?_ -- @t34 vS (Instr.extract t33 0)
      refine J.op (R.ext rfl) ?_ -- @t35 vS (Instr.extract t33 1)
      refine J.op bd132_0_2 ?_ -- @t38 vS (Instr.build 132 #[(0, (.int .i64 2)), (2, t34)])
      refine J.nilRow (sz := 4) (E := 132) ?_
      refine J.bs bs67_1 fun bt39 => ?_ -- @t39 vS (Instr.buildSlice 67 1 #[(0, t38)])
      refine J.append sl67 (by with_reducible repeat (first | exact Pick.here | apply Pick.there)) (SeeS.lit (els := [stpC ⟨2, 0, (startAt c.rows).1, []⟩ (.slice none 0 0)]) (by with_reducible repeat (first | exact Pick.here | apply Pick.there)) (by rfl) (fun l hl => (stRow_lit l hl).1) (by rfl) (by decide)) stRow_lit (by simp) (by simp [maxLen]) fun at40 nt40 ct40 => ?_ -- @t40 bltS .append #[67, 67] 67 #[false, false] [(.slice none 0 0), t39]
      refine J.bind ?_ -- @tv_2 bind tv_2 ([8])
      refine J.block ?_
      -- @tx loop [t40, (.int .i64 0)]
      refine J.imp Imp.bagNil ?_
      refine J.nilRow (sz := 1) (E := 5) ?_
      refine J.imp (stPush (E := 5) (l := []) (s := ⟨2, 0, (startAt c.rows).1, []⟩) (v := .slice none 0 0)) ?_
      refine J.loop (α := Nat × List (Stp × Value) × Option Addr × Nat × Nat) (fun (i, l, _) => (i : Int) ≤ n ∧ l.map Prod.fst = stepsL c kind x i) (fun (i, _, a, m, cc) => [.slice a m cc, .int .i64 ((i : Nat) : Int)]) (fun (i, l, a, m, cc) => [Ent.row (.slice a m cc) 4 (stRow (l)) 132, Ent.bag (stBag 5 (l)), Ent.cells bd [.int .u64 (dn (stepsK x i) x)] 119, Ent.cells bt4 (c.cells (.slice xa xn xc) (.slice ya yn yc)) 53]) (fun (i, _) => n.toNat - i) (0, [] ++ [(⟨2, 0, (startAt c.rows).1, []⟩, .slice none 0 0)], at40, nt40, ct40) ⟨by omega, rfl⟩ rfl (Imp.take (by (try dsimp only); repeat (first | exact Has.nil | refine Has.cons (by repeat (first | (with_reducible exact Out.here) | ((with_reducible refine Out.cells ?_); first | rfl | (simp; done)) | ((with_reducible refine Out.row ?_); first | rfl | (simp; done)) | (with_reducible apply Out.there))) ?_))) ?_
      rintro ⟨i, l, a, m, cc⟩ ⟨hi, hl⟩
      dsimp only at hi hl ⊢
      have hll : l.length = i + 1 := by have := congrArg List.length hl; rwa [List.length_map, stepsL_len] at this
      try simp only [List.headD_cons, List.tail_cons]
      refine J.opD R.lss (fun ht43 => ?_) (fun ht43 => ?_) -- @t43 binS .lss 3 (.tmp 42) (.tmp 41) (tx.tail.headD undef) a3
      · skip
        refine J.iteT ?_
        refine J.bind ?_ -- @tv_1 bind tv_1 ([8])
        refine J.block ?_
        refine J.callT en27 (Next_pos bd x 10 (stepsK x i) (by decide)) rfl (fun _ _ _ => trivial) (Take.cons (by (try dsimp only); repeat (first | (with_reducible exact Out.here) | ((with_reducible refine Out.cells ?_); first | rfl | (simp; done)) | ((with_reducible refine Out.row ?_); first | rfl | (simp; done)) | (with_reducible apply Out.there))) Take.nil) (fun v es hv => ?_)
        obtain ⟨rfl, rfl⟩ := hv
        simp only [List.cons_append, List.nil_append] -- @t46 callS (.func (.func 27) #[] #[]) [t30, (.int .i64 10)]
        refine J.opD R.geq (fun ht48 => ?_) (fun ht48 => ?_) -- @t48 binS .geq 2 (.tmp 47) (.const (.int .i64 6)) t46 (.int .i64 6)
        · skip
          refine J.iteT ?_
          refine J.op (R.ldA ag53 (by with_reducible repeat (first | exact Pick.here | apply Pick.there)) rfl) ?_ -- @t51 vS (Instr.loadAt 53 t4)
          refine J.callT en64 (s64 bd (stepsK x i + 1) x (.slice xa xn xc) (.slice ya yn yc) c kind i (th (stepsK x i) x 10) hc0 (by omega)) rfl (fun _ _ hs => RdF.arg (RdF.base hw.1) syms_ne hs (by simp [dn])) (Take.cons (by (try dsimp only); repeat (first | (with_reducible exact Out.here) | ((with_reducible refine Out.cells ?_); first | rfl | (simp; done)) | ((with_reducible refine Out.row ?_); first | rfl | (simp; done)) | (with_reducible apply Out.there))) Take.nil) (fun v es hv => ?_)
          obtain ⟨at55, nt55, ct55, rfl, rfl⟩ := hv
          simp only [List.cons_append, List.nil_append] -- @t55 callS (.func (.func 64) #[] #[]) [t30, t51, a1, (tx.tail.headD undef), t46]
          refine J.bs bs67_1 fun bt56 => ?_ -- @t56 vS (Instr.buildSlice 67 1 #[(0, t55)])
          refine J.append sl67 (by with_reducible repeat (first | exact Pick.here | apply Pick.there)) (SeeS.lit (els := [stpC (othM (stepsK x i + 1) c kind i x (th (stepsK x i) x 10)) (.slice at55 nt55 ct55)]) (by with_reducible repeat (first | exact Pick.here | apply Pick.there)) (by rfl) (fun l hl => (stRow_lit l hl).1) (by rfl) (by decide)) stRow_lit (by rw [stRow_len]; simp; omega) (by rw [stRow_len]; simp [maxLen]; omega) fun at57 nt57 ct57 => ?_
          rw [stRow_snoc] -- @t57 bltS .append #[67, 67] 67 #[false, false] [(tx.headD undef), t56]
          refine J.done ⟨fun _ => ?_, fun h => absurd rfl h⟩ -- exit [t57]
          refine J.op (R.add64 (by omega)) ?_ -- @t71 binS .add 3 (.tmp 42) (.const (.int .i64 1)) (tx.tail.headD undef) (.int .i64 1)
          -- @again[(tv_1.headDundef),t71]
          have hs : (othM (stepsK x i + 1) c kind i x (th (stepsK x i) x 10)) = stpM (stepsK x i) c kind i x := by unfold stpM; rw [if_pos ht48]
          have hk : stepsK x (i + 1) = stepsK x i + 1 + 1 := by exact if_pos ht48
          refine J.imp (Imp.take (es := [Ent.row (.slice at55 nt55 ct55) 1 (u8s ((othM (stepsK x i + 1) c kind i x (th (stepsK x i) x 10)).fr)) 5, Ent.bag (stBag 5 (l)), Ent.row (.slice at57 nt57 ct57) 4 (stRow (l ++ [((othM (stepsK x i + 1) c kind i x (th (stepsK x i) x 10)), .slice at55 nt55 ct55)])) 132, Ent.cells bd [.int .u64 (dn (stepsK x i + 1 + 1) x)] 119, Ent.cells bt4 (c.cells (.slice xa xn xc) (.slice ya yn yc)) 53]) (by (try dsimp only); repeat (first | exact Has.nil | refine Has.cons (by repeat (first | (with_reducible exact Out.here) | ((with_reducible refine Out.cells ?_); first | rfl | (simp; done)) | ((with_reducible refine Out.row ?_); first | rfl | (simp; done)) | (with_reducible apply Out.there))) ?_))) ?_
          refine J.imp (stPush (E := 5) (l := l) (s := (othM (stepsK x i + 1) c kind i x (th (stepsK x i) x 10))) (v := .slice at55 nt55 ct55)) ?_
          exact J.done ⟨(i + 1, l ++ [((othM (stepsK x i + 1) c kind i x (th (stepsK x i) x 10)), .slice at55 nt55 ct55)], at57, nt57, ct57), ⟨by dsimp only; omega, st_snoc hl hs⟩, rfl, by dsimp only; rw [hk]; exact Imp.take (by (try dsimp only); repeat (first | exact Has.nil | refine Has.cons (by repeat (first | (with_reducible exact Out.here) | ((with_reducible refine Out.cells ?_); first | rfl | (simp; done)) | ((with_reducible refine Out.row ?_); first | rfl | (simp; done)) | (with_reducible apply Out.there))) ?_)), by dsimp only; omega⟩
        · skip
          refine J.iteF ?_
          refine J.op (R.ldA ag53 (by with_reducible repeat (first | exact Pick.here | apply Pick.there)) rfl) ?_ -- @t59 vS (Instr.loadAt 53 t4)
          have hok : ordOk c kind i = true := by unfold ordOk; simp; omega
          refine J.callT en25 (s25 bd (stepsK x i + 1) x (.slice xa xn xc) (.slice ya yn yc) c kind i) rfl (fun _ _ hs => ⟨RdF.arg (RdF.base hw.1) syms_ne hs (by simp [dn]), RdF.arg (RdF.base hw.2) trows_ne hs (by simp [dn])⟩) (Take.cons (by (try dsimp only); repeat (first | (with_reducible exact Out.here) | ((with_reducible refine Out.cells ?_); first | rfl | (simp; done)) | ((with_reducible refine Out.row ?_); first | rfl | (simp; done)) | (with_reducible apply Out.there))) Take.nil) (fun v es hv => ?_)
          obtain ⟨rfl, rfl⟩ := hv
          simp only [List.cons_append, List.nil_append] -- @t63 callS (.func (.func 25) #[] #[]) [t59, t30, a1, (tx.tail.headD undef)]
          refine J.callT en65 (s65 (ordM (stepsK x i + 1) c kind i x) (ord_ok hok (by omega))) rfl (fun _ _ _ => trivial) Take.nil (fun v es ht64 => ?_)
          obtain ⟨at64, nt64, ct64, rfl, rfl⟩ := ht64
          simp only [List.cons_append, List.nil_append] -- @t64 callS (.func (.func 65) #[] #[]) [t63]
          refine J.op (R.ext rfl) ?_ -- @t65 vS (Instr.extract t64 0)
          refine J.op (R.ext rfl) ?_ -- @t66 vS (Instr.extract t64 1)
          refine J.alloc z132 fun bt15 => ?_
          refine J.stSA sz132 (by with_reducible repeat (first | exact Pick.here | apply Pick.there)) rfl (Nat.le_of_ble_eq_true rfl) rfl (cs' := stpC ⟨1, 0, 0, cmdB (ordM (stepsK x i + 1) c kind i x)⟩ (.slice at64 nt64 ct64)) rfl ?_ -- @tu uS (Instr.storeAt 132 t15 t65)
          refine J.op (R.ldA ag132 (by with_reducible repeat (first | exact Pick.here | apply Pick.there)) rfl) ?_ -- @t68 vS (Instr.loadAt 132 t15)
          refine J.bs bs67_1 fun bt69 => ?_ -- @t69 vS (Instr.buildSlice 67 1 #[(0, t68)])
          simp only [List.headD_cons, List.tail_cons]
          refine J.append sl67 (by with_reducible repeat (first | exact Pick.here | apply Pick.there)) (SeeS.lit (els := [stpC ⟨1, 0, 0, cmdB (ordM (stepsK x i + 1) c kind i x)⟩ (.slice at64 nt64 ct64)]) (by with_reducible repeat (first | exact Pick.here | apply Pick.there)) (by rfl) (fun l hl => (stRow_lit l hl).1) (by rfl) (by decide)) stRow_lit (by rw [stRow_len]; simp; omega) (by rw [stRow_len]; simp [maxLen]; omega) fun at70 nt70 ct70 => ?_
          rw [stRow_snoc] -- @t70 bltS .append #[67, 67] 67 #[false, false] [(tx.headD undef), t69]
          refine J.done ?_ -- then tv_1 = [t70]
          refine J.op (R.add64 (by omega)) ?_ -- @t71 binS .add 3 (.tmp 42) (.const (.int .i64 1)) (tx.tail.headD undef) (.int .i64 1)
          -- @again[(tv_1.headDundef),t71]#2
          have hs : ⟨1, 0, 0, cmdB (ordM (stepsK x i + 1) c kind i x)⟩ = stpM (stepsK x i) c kind i x := by unfold stpM; rw [if_neg ht48]
          have hk : stepsK x (i + 1) = ordN (stepsK x i + 1) c kind i := by rw [show ordN (stepsK x i + 1) c kind i = stepsK x i + 1 + 7 from if_pos hok]; exact if_neg ht48
          refine J.imp (Imp.take (es := [Ent.row (.slice at64 nt64 ct64) 1 (u8s (cmdB (ordM (stepsK x i + 1) c kind i x))) 5, Ent.bag (stBag 5 (l)), Ent.row (.slice at70 nt70 ct70) 4 (stRow (l ++ [(⟨1, 0, 0, cmdB (ordM (stepsK x i + 1) c kind i x)⟩, .slice at64 nt64 ct64)])) 132, Ent.cells bd [.int .u64 (dn (ordN (stepsK x i + 1) c kind i) x)] 119, Ent.cells bt4 (c.cells (.slice xa xn xc) (.slice ya yn yc)) 53]) (by (try dsimp only); repeat (first | exact Has.nil | refine Has.cons (by repeat (first | (with_reducible exact Out.here) | ((with_reducible refine Out.cells ?_); first | rfl | (simp; done)) | ((with_reducible refine Out.row ?_); first | rfl | (simp; done)) | (with_reducible apply Out.there))) ?_))) ?_
          refine J.imp (stPush (E := 5) (l := l) (s := ⟨1, 0, 0, cmdB (ordM (stepsK x i + 1) c kind i x)⟩) (v := .slice at64 nt64 ct64)) ?_
          exact J.done ⟨(i + 1, l ++ [(⟨1, 0, 0, cmdB (ordM (stepsK x i + 1) c kind i x)⟩, .slice at64 nt64 ct64)], at70, nt70, ct70), ⟨by dsimp only; omega, st_snoc hl hs⟩, rfl, by dsimp only; rw [hk]; exact Imp.take (by (try dsimp only); repeat (first | exact Has.nil | refine Has.cons (by repeat (first | (with_reducible exact Out.here) | ((with_reducible refine Out.cells ?_); first | rfl | (simp; done)) | ((with_reducible refine Out.row ?_); first | rfl | (simp; done)) | (with_reducible apply Out.there))) ?_)), by dsimp only; omega⟩
      · skip
        refine J.iteF ?_
        refine J.done ⟨fun _ => ?_, fun h => absurd rfl h⟩ -- exit [(tx.headD undef)]
        -- @ret[(tv_2.headDundef),(.int.i640)]
        refine J.done (RetQ.gt (es := [Ent.row (.slice a m cc) 4 (stRow (l)) 132, Ent.bag (stBag 5 (l))]) (.tmp (.tmp (.nil))) ?_ ?_)
        · exact (by (try dsimp only); repeat (first | exact Has.nil | refine Has.cons (by repeat (first | (with_reducible exact Out.here) | ((with_reducible refine Out.cells ?_); first | rfl | (simp; done)) | ((with_reducible refine Out.row ?_); first | rfl | (simp; done)) | (with_reducible apply Out.there))) ?_))
        · exact ⟨a, m, cc, l, by rw [stepsM, if_pos hF, show n.toNat = i by omega]; exact hl, by rw [hF]; rfl, rfl⟩
end Go.Proofs.Ytipgdalebkhgpaa
