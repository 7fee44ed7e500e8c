/-
  Contracts of functions.
-/
import Derived.Test.YtipgdalebkhgpaaTerms1
import Derived.Test.YtipgdalebkhgpaaTerms2
import Derived.Test.YtipgdalebkhgpaaTab
import Derived.Test.YtipgdalebkhgpaaModTape
import Derived.Test.YtipgdalebkhgpaaT1
import Derived.Test.YtipgdalebkhgpaaB2
import Derived.Test.YtipgdalebkhgpaaFw27
set_option maxRecDepth 100000
set_option maxHeartbeats 4000000
set_option linter.unusedVariables false
set_option linter.unusedSimpArgs false
namespace Go.Proofs.Ytipgdalebkhgpaa
open Go Go.RowKit Fw
/-- damper/damperref34.Counts -/
theorem s50 (v : Value) (l : List Msg) (sym : Int) (hl : l.length ≤ 150) :
    FnT Try.prog 50 [v, .int .i64 sym] (fun w => RdS w v 9 (msgs l)) [] (fun u es => ∃ a n cc, u = .slice a n cc ∧ es = [Ent.row (.slice a n cc) 9 (msgs (cts sym l)) 46]) := by
  refine fn_of_J (cx := cx50) hmix Try.func50 (by kernel_rfl) (eq50 _ _) fun w hw => ?_
  have hS : ∀ H, SeeS ⟨Try.prog, w, footOf []⟩ H v 9 (msgs l) := fun H => SeeS.ofW0 hw msgs_ne
  have hm := hw.le
  simp only [msgs_len, maxLen] at hm
  refine J.bind ?_ -- @tv_3 bind tv_3 ([5])
  refine J.block ?_
  -- @tx loop [(.slice none 0 0), (.int .i64 0)]
  refine J.nilRow (sz := 9) (E := 46) ?_
  refine J.loop (α := Nat × Option Addr × Nat × Nat) (fun (i, _) => i ≤ l.length) (fun (i, a, n, cc) => [.slice a n cc, .int .i64 i]) (fun (i, a, n, cc) => [Ent.row (.slice a n cc) 9 (msgs ((l.take i).filter (cnt sym))) 46]) (fun (i, _) => l.length - i) (0, none, 0, 0) (Nat.zero_le _) rfl (Imp.refl _) ?_
  rintro ⟨i, a, n, cc⟩ hi
  dsimp only at hi ⊢
  try simp only [List.headD_cons, List.tail_cons]
  refine J.op (R.lenN sl22 (hS _) msgs_len) ?_ -- @t10 bltS .len #[22] 3 #[false] [a0]
  refine J.opD R.lss (fun ht11 => ?_) (fun ht11 => ?_) -- @t11 binS .lss 3 (.tmp 8) (.tmp 10) (tx.tail.headD undef) t10
  · skip
    refine J.iteT ?_
    refine J.bind ?_ -- @tv_2 bind tv_2 ([5])
    refine J.block ?_
    have hlt : i < l.length := by omega
    obtain ⟨x, hx⟩ := get_ex hlt
    have hfl : ((l.take i).filter (cnt sym)).length ≤ i := Nat.le_trans (List.length_filter_le _ _) (by rw [List.length_take]; omega)
    refine J.ixW sl22 hS (by omega) (msgs_get hx) fun b o hkt16 => ?_ -- @t16 ix a0 (tx.tail.headD undef)
    refine J.op (R.ldKA ag46 (hkt16 _) rfl) ?_ -- @t17 vS (Instr.loadAt 46 t16)
    refine J.alloc z46 fun bt7 => ?_
    refine J.stW sz46 (by with_reducible repeat (first | exact Pick.here | apply Pick.there)) rfl rfl rfl ?_ -- @tu uS (Instr.storeAt 46 t7 t17)
    refine J.bindBH (cntP sym x) ([Ent.cells bt7 x.cells 46, Ent.row (.slice a n cc) 9 (msgs ((l.take i).filter (cnt sym))) 46]) ?_ (fun hbtv => ?_) (fun hbtv => ?_) -- @tv
    · skip
      refine J.op fa46_0 ?_
      refine J.op (R.ld o3 (by with_reducible repeat (first | exact Pick.here | apply Pick.there)) rfl) ?_ -- @t19 vS (Instr.loadAt 3 t18)
      refine J.opD R.eql (fun ht20 => ?_) (fun ht20 => ?_) -- @t20 binS .eql 3 (.tmp 19) (.const (.int .i64 3)) t19 (.int .i64 3)
      · skip
        refine J.gopT rfl ?_
        refine J.op fa46_1 ?_
        refine J.gopT rfl ?_
        refine J.op (R.ld o3 (by with_reducible repeat (first | exact Pick.here | apply Pick.there)) rfl) ?_ -- @t23 vS (Instr.loadAt 3 t22)
        refine J.gopT rfl ?_
        refine J.op R.pure ?_
        refine J.gopT rfl ?_
        refine J.opD R.eql (fun ht25 => ?_) (fun ht25 => ?_) -- @t25 binS .eql 3 (.tmp 23) (.tmp 24) t23 t24
        · skip
          refine J.op R.pickT ?_ -- @t26 pickS t20 t25 (.bool false)
          refine J.gopT rfl ?_
          refine J.op fa46_6 ?_
          refine J.gopT rfl ?_
          refine J.op (R.ld o2 (by with_reducible repeat (first | exact Pick.here | apply Pick.there)) rfl) ?_ -- @t29 vS (Instr.loadAt 2 t28)
          refine J.gopT rfl ?_
          refine J.opD R.geq (fun ht30 => ?_) (fun ht30 => ?_) -- @t30 binS .geq 2 (.tmp 29) (.const (.int .i64 1)) t29 (.int .i64 1)
          · skip
            refine J.op R.pickT ?_ -- @t31 pickS t26 t30 (.bool false)
            refine J.gopT rfl ?_
            refine J.op fa46_6 ?_
            refine J.gopT rfl ?_
            refine J.op (R.ld o2 (by with_reducible repeat (first | exact Pick.here | apply Pick.there)) rfl) ?_ -- @t34 vS (Instr.loadAt 2 t33)
            refine J.gopT rfl ?_
            refine J.opD R.leq (fun ht35 => ?_) (fun ht35 => ?_) -- @t35 binS .leq 2 (.tmp 34) (.const (.int .i64 1099511627776)) t34 (.int .i64 1099511627776)
            · skip
              refine J.op R.pickT ?_ -- @t36 pickS t31 t35 (.bool false)
              refine J.gopT rfl ?_
              refine J.op fa46_7 ?_
              refine J.gopT rfl ?_
              refine J.op (R.ld o2 (by with_reducible repeat (first | exact Pick.here | apply Pick.there)) rfl) ?_ -- @t39 vS (Instr.loadAt 2 t38)
              refine J.gopT rfl ?_
              refine J.opD R.geq (fun ht40 => ?_) (fun ht40 => ?_) -- @t40 binS .geq 2 (.tmp 39) (.const (.int .i64 1)) t39 (.int .i64 1)
              · skip
                refine J.op R.pickT ?_ -- @t41 pickS t36 t40 (.bool false)
                refine J.gopT rfl ?_
                refine J.op fa46_7 ?_
                refine J.gopT rfl ?_
                refine J.op (R.ld o2 (by with_reducible repeat (first | exact Pick.here | apply Pick.there)) rfl) ?_ -- @t44 vS (Instr.loadAt 2 t43)
                refine J.gopT rfl ?_
                refine J.opD R.leq (fun ht45 => ?_) (fun ht45 => ?_) -- @t45 binS .leq 2 (.tmp 44) (.const (.int .i64 4294967296)) t44 (.int .i64 4294967296)
                · skip
                  refine J.op R.pickT ?_ -- @t46 pickS t41 t45 (.bool false)
                  refine J.gopT rfl ?_
                  refine J.op fa46_3 ?_
                  refine J.gopT rfl ?_
                  refine J.op (R.ld o2 (by with_reducible repeat (first | exact Pick.here | apply Pick.there)) rfl) ?_ -- @t49 vS (Instr.loadAt 2 t48)
                  refine J.gopT rfl ?_
                  refine J.op R.geq ?_ -- @t50 binS .geq 2 (.tmp 49) (.const (.int .i64 0)) t49 (.int .i64 0)
                  refine J.op R.pickT ?_ -- @t51 pickS t46 t50 (.bool false)
                  exact J.done ⟨rfl, by simp only [List.cons.injEq, Value.bool.injEq, and_true]; first | (symm; rw [decide_eq_true_iff]; unfold cntP; omega) | (symm; rw [decide_eq_false_iff_not]; unfold cntP; omega) | exact decide_eq_decide.2 (by unfold cntP; omega), Imp.refl _⟩ -- @leaf[t51]
                · skip
                  refine J.op R.pickT ?_ -- @t46 pickS t41 t45 (.bool false)
                  refine J.gopF rfl ?_
                  refine J.gopF rfl ?_
                  refine J.gopF rfl ?_
                  refine J.op R.pickF ?_ -- @t51 pickS t46 t50 (.bool false)
                  exact J.done ⟨rfl, by simp only [List.cons.injEq, Value.bool.injEq, and_true]; first | (symm; rw [decide_eq_true_iff]; unfold cntP; omega) | (symm; rw [decide_eq_false_iff_not]; unfold cntP; omega) | exact decide_eq_decide.2 (by unfold cntP; omega), Imp.refl _⟩ -- @leaf[t51]
              · skip
                refine J.op R.pickT ?_ -- @t41 pickS t36 t40 (.bool false)
                refine J.gopF rfl ?_
                refine J.gopF rfl ?_
                refine J.gopF rfl ?_
                refine J.op R.pickF ?_ -- @t46 pickS t41 t45 (.bool false)
                refine J.gopF rfl ?_
                refine J.gopF rfl ?_
                refine J.gopF rfl ?_
                refine J.op R.pickF ?_ -- @t51 pickS t46 t50 (.bool false)
                exact J.done ⟨rfl, by simp only [List.cons.injEq, Value.bool.injEq, and_true]; first | (symm; rw [decide_eq_true_iff]; unfold cntP; omega) | (symm; rw [decide_eq_false_iff_not]; unfold cntP; omega) | exact decide_eq_decide.2 (by unfold cntP; omega), Imp.refl _⟩ -- @leaf[t51]
            · skip
              refine J.op R.pickT ?_ -- @t36 pickS t31 t35 (.bool false)
              refine J.gopF rfl ?_
              refine J.gopF rfl ?_
              refine J.gopF rfl ?_
              refine J.op R.pickF ?_ -- @t41 pickS t36 t40 (.bool false)
              refine J.gopF rfl ?_
              refine J.gopF rfl ?_
              refine J.gopF rfl ?_
              refine J.op R.pickF ?_ -- @t46 pickS t41 t45 (.bool false)
              refine J.gopF rfl ?_
              refine J.gopF rfl ?_
              refine J.gopF rfl ?_
              refine J.op R.pickF ?_ -- @t51 pickS t46 t50 (.bool false)
              exact J.done ⟨rfl, by simp only [List.cons.injEq, Value.bool.injEq, and_true]; first | (symm; rw [decide_eq_true_iff]; unfold cntP; omega) | (symm; rw [decide_eq_false_iff_not]; unfold cntP; omega) | exact decide_eq_decide.2 (by unfold cntP; omega), Imp.refl _⟩ -- @leaf[t51]
          · skip
            refine J.op R.pickT ?_ -- @t31 pickS t26 t30 (.bool false)
            refine J.gopF rfl ?_
            refine J.gopF rfl ?_
            refine J.gopF rfl ?_
            refine J.op R.pickF ?_ -- @t36 pickS t31 t35 (.bool false)
            refine J.gopF rfl ?_
            refine J.gopF rfl ?_
            refine J.gopF rfl ?_
            refine J.op R.pickF ?_ -- @t41 pickS t36 t40 (.bool false)
            refine J.gopF rfl ?_
            refine J.gopF rfl ?_
            refine J.gopF rfl ?_
            refine J.op R.pickF ?_ -- @t46 pickS t41 t45 (.bool false)
            refine J.gopF rfl ?_
            refine J.gopF rfl ?_
            refine J.gopF rfl ?_
            refine J.op R.pickF ?_ -- @t51 pickS t46 t50 (.bool false)
            exact J.done ⟨rfl, by simp only [List.cons.injEq, Value.bool.injEq, and_true]; first | (symm; rw [decide_eq_true_iff]; unfold cntP; omega) | (symm; rw [decide_eq_false_iff_not]; unfold cntP; omega) | exact decide_eq_decide.2 (by unfold cntP; omega), Imp.refl _⟩ -- @leaf[t51]
        · skip
          refine J.op R.pickT ?_ -- @t26 pickS t20 t25 (.bool false)
          refine J.gopF rfl ?_
          refine J.gopF rfl ?_
          refine J.gopF rfl ?_
          refine J.op R.pickF ?_ -- @t31 pickS t26 t30 (.bool false)
          refine J.gopF rfl ?_
          refine J.gopF rfl ?_
          refine J.gopF rfl ?_
          refine J.op R.pickF ?_ -- @t36 pickS t31 t35 (.bool false)
          refine J.gopF rfl ?_
          refine J.gopF rfl ?_
          refine J.gopF rfl ?_
          refine J.op R.pickF ?_ -- @t41 pickS t36 t40 (.bool false)
          refine J.gopF rfl ?_
          refine J.gopF rfl ?_
          refine J.gopF rfl ?_
          refine J.op R.pickF ?_ -- @t46 pickS t41 t45 (.bool false)
          refine J.gopF rfl ?_
          refine J.gopF rfl ?_
          refine J.gopF rfl ?_
          refine J.op R.pickF ?_ -- @t51 pickS t46 t50 (.bool false)
          exact J.done ⟨rfl, by simp only [List.cons.injEq, Value.bool.injEq, and_true]; first | (symm; rw [decide_eq_true_iff]; unfold cntP; omega) | (symm; rw [decide_eq_false_iff_not]; unfold cntP; omega) | exact decide_eq_decide.2 (by unfold cntP; omega), Imp.refl _⟩ -- @leaf[t51]
      · skip
        refine J.gopF rfl ?_
        refine J.gopF rfl ?_
        refine J.gopF rfl ?_
        refine J.gopF rfl ?_
        refine J.op R.pickF ?_ -- @t26 pickS t20 t25 (.bool false)
        refine J.gopF rfl ?_
        refine J.gopF rfl ?_
        refine J.gopF rfl ?_
        refine J.op R.pickF ?_ -- @t31 pickS t26 t30 (.bool false)
        refine J.gopF rfl ?_
        refine J.gopF rfl ?_
        refine J.gopF rfl ?_
        refine J.op R.pickF ?_ -- @t36 pickS t31 t35 (.bool false)
        refine J.gopF rfl ?_
        refine J.gopF rfl ?_
        refine J.gopF rfl ?_
        refine J.op R.pickF ?_ -- @t41 pickS t36 t40 (.bool false)
        refine J.gopF rfl ?_
        refine J.gopF rfl ?_
        refine J.gopF rfl ?_
        refine J.op R.pickF ?_ -- @t46 pickS t41 t45 (.bool false)
        refine J.gopF rfl ?_
        refine J.gopF rfl ?_
        refine J.gopF rfl ?_
        refine J.op R.pickF ?_ -- @t51 pickS t46 t50 (.bool false)
        exact J.done ⟨rfl, by simp only [List.cons.injEq, Value.bool.injEq, and_true]; first | (symm; rw [decide_eq_true_iff]; unfold cntP; omega) | (symm; rw [decide_eq_false_iff_not]; unfold cntP; omega) | exact decide_eq_decide.2 (by unfold cntP; omega), Imp.refl _⟩ -- @leaf[t51]
    · skip
      refine J.bind ?_ -- @tv_1 bind tv_1 ([5])
      refine J.iteT ?_
      refine J.op (R.ldA ag46 (by with_reducible repeat (first | exact Pick.here | apply Pick.there)) rfl) ?_ -- @t53 vS (Instr.loadAt 46 t7)
      refine J.bs bs22_1 fun bt54 => ?_ -- @t54 vS (Instr.buildSlice 22 1 #[(0, t53)])
      refine J.append sl22 (by with_reducible repeat (first | exact Pick.here | apply Pick.there)) (SeeS.lit (els := [x.cells]) (by with_reducible repeat (first | exact Pick.here | apply Pick.there)) (by rfl) (by intro l hl; simp at hl; subst hl; rfl) (by rfl) (by decide)) (by intro l hl; simp at hl; subst hl; exact ⟨rfl, allOne_spec rfl⟩) (by rw [msgs_len]; simp; omega) (by rw [msgs_len]; simp [maxLen]; omega) fun at55 nt55 ct55 => ?_
      rw [msgs_snoc] -- @t55 bltS .append #[22, 22] 22 #[false, false] [(tx.headD undef), t54]
      refine J.done ?_ -- then tv_1 = [t55]
      refine J.done ?_ -- then tv_2 = [(tv_1.headD undef)]
      refine J.op (R.add64 (by omega)) ?_ -- @t13 binS .add 3 (.tmp 12) (.const (.int .i64 1)) (tx.tail.headD undef) (.int .i64 1)
      -- @again[(tv_2.headDundef),t13]
      exact J.done ⟨(i + 1, at55, nt55, ct55), by dsimp only; omega, rfl, by dsimp only; rw [filt_snoc hx (decide_eq_true hbtv)]; exact Imp.take (by (try dsimp only); repeat (first | exact Has.nil | refine Has.cons (by repeat (first | (with_reducible exact Out.here) | ((with_reducible refine Out.cells ?_); first | rfl | (simp; done)) | ((with_reducible refine Out.row ?_); first | rfl | (simp; done)) | (with_reducible apply Out.there))) ?_)), by dsimp only; omega⟩
    · skip
      refine J.bind ?_ -- @tv_1 bind tv_1 ([5])
      refine J.iteF ?_
      refine J.done ?_ -- then tv_1 = [(tx.headD undef)]
      refine J.done ?_ -- then tv_2 = [(tv_1.headD undef)]
      refine J.op (R.add64 (by omega)) ?_ -- @t13 binS .add 3 (.tmp 12) (.const (.int .i64 1)) (tx.tail.headD undef) (.int .i64 1)
      -- @again[(tv_2.headDundef),t13]#2
      exact J.done ⟨(i + 1, a, n, cc), by dsimp only; omega, rfl, by dsimp only; rw [filt_no hx (fun h => hbtv (of_decide_eq_true h))]; exact Imp.take (by (try dsimp only); repeat (first | exact Has.nil | refine Has.cons (by repeat (first | (with_reducible exact Out.here) | ((with_reducible refine Out.cells ?_); first | rfl | (simp; done)) | ((with_reducible refine Out.row ?_); first | rfl | (simp; done)) | (with_reducible apply Out.there))) ?_)), by dsimp only; omega⟩
  · skip
    refine J.iteF ?_
    refine J.done ⟨fun _ => ?_, fun h => absurd rfl h⟩ -- exit [(tx.headD undef)]
    -- @ret[(tv_3.headDundef)]
    obtain rfl : i = l.length := by omega
    rw [List.take_length]
    exact J.done (RetQ.gt (es := [Ent.row (.slice a n cc) 9 (msgs (cts sym l)) 46]) (.tmp .nil) (by (try dsimp only); repeat (first | exact Has.nil | refine Has.cons (by repeat (first | (with_reducible exact Out.here) | ((with_reducible refine Out.cells ?_); first | rfl | (simp; done)) | ((with_reducible refine Out.row ?_); first | rfl | (simp; done)) | (with_reducible apply Out.there))) ?_)) ⟨_, _, _, rfl, rfl⟩)

/-- damper/damperlaw34.own -/
theorem s14 (b : Bar) :
    FnE Try.prog 14 [.agg b.cells.toArray] (fun _ => True) (.agg b.cells.toArray) := by
  refine fn_of_J (cx := cx14) hmix Try.func14 (by kernel_rfl) (eq14 _) fun w hw => ?_
  refine J.boxA fun bt1 => ?_
  refine J.alloc z32 fun bt2 => ?_
  refine J.op fa34_0 ?_
  refine J.op (R.ld o2 (by with_reducible repeat (first | exact Pick.here | apply Pick.there)) rfl) ?_ -- @t4 vS (Instr.loadAt 2 t3)
  refine J.op fa34_1 ?_
  refine J.op (R.ld o2 (by with_reducible repeat (first | exact Pick.here | apply Pick.there)) rfl) ?_ -- @t6 vS (Instr.loadAt 2 t5)
  refine J.op fa34_2 ?_
  refine J.op (R.ld o2 (by with_reducible repeat (first | exact Pick.here | apply Pick.there)) rfl) ?_ -- @t8 vS (Instr.loadAt 2 t7)
  refine J.op fa34_3 ?_
  refine J.op (R.ld o2 (by with_reducible repeat (first | exact Pick.here | apply Pick.there)) rfl) ?_ -- @t10 vS (Instr.loadAt 2 t9)
  refine J.op fa34_4 ?_
  refine J.op (R.ld o2 (by with_reducible repeat (first | exact Pick.here | apply Pick.there)) rfl) ?_ -- @t12 vS (Instr.loadAt 2 t11)
  refine J.op fa34_5 ?_
  refine J.op (R.ld o2 (by with_reducible repeat (first | exact Pick.here | apply Pick.there)) rfl) ?_ -- @t14 vS (Instr.loadAt 2 t13)
  refine J.op fa34_6 ?_
  refine J.op (R.ld o3 (by with_reducible repeat (first | exact Pick.here | apply Pick.there)) rfl) ?_ -- @t16 vS (Instr.loadAt 3 t15)
  refine J.op fa34_7 ?_
  refine J.op (R.ld o2 (by with_reducible repeat (first | exact Pick.here | apply Pick.there)) rfl) ?_ -- @t18 vS (Instr.loadAt 2 t17)
  refine J.op bd32_0_1_2_3_4_5_6_7 ?_ -- @t19 vS (Instr.build 32 #[(0, t4), (1, t6), (2, t8), (3, t10), (4, t12), (5, t14), (6, t16), (7, t18)])
  refine J.stW sz32 (by with_reducible repeat (first | exact Pick.here | apply Pick.there)) rfl rfl rfl ?_ -- @tu uS (Instr.storeAt 32 t2 t19)
  -- @ret[t2]
  exact J.done (RetQ.ge (.cellA ag32 (by with_reducible repeat (first | exact Pick.here | apply Pick.there)) rfl (.nil)) (by first | rfl | (simp [mkRes, *]; done) | (simp_all [mkRes]; done) | (simp_all [mkRes]; first | omega | (rw [decide_eq_false_iff_not]; omega) | (rw [decide_eq_true_iff]; omega)) | (simp only [mkRes]; (repeat' split) <;> first | rfl | omega | (simp_all; done) | (simp_all; omega))))

/-- damper/damperref34.mean -/
theorem s80 (vp vq : Value) (c : List Msg) (hc : Cok c) (hne : c ≠ []) (hl : c.length ≤ 150) :
    FnE Try.prog 80 [vp, vq] (fun w => RdS w vp 1 (ints (c.map Msg.price)) ∧ RdS w vq 1 (ints (c.map Msg.qty))) (.int .i64 (meanM c)) := by
  refine fn_of_J (cx := cx80) hmix Try.func80 (by kernel_rfl) (eq80 _ _) fun w hw => ?_
  have hP : ∀ H, SeeS ⟨Try.prog, w, footOf []⟩ H vp 1 (ints (c.map Msg.price)) := fun H => SeeS.ofW0 hw.1 ints_ne
  have hQ : ∀ H, SeeS ⟨Try.prog, w, footOf []⟩ H vq 1 (ints (c.map Msg.qty)) := fun H => SeeS.ofW0 hw.2 ints_ne
  have hv := vol_range hc
  have hwb := wor_bound hc (by omega)
  obtain ⟨hv1, hmb⟩ := mean_bound hc hne
  refine J.alloc bz fun bt5 => ?_
  refine J.bind ?_ -- @tv_1 bind tv_1 ([6])
  refine J.block ?_
  -- @tx loop [(.int .u64 0), (.int .i64 0)]
  refine J.loop (α := Nat) (fun i => i ≤ c.length) (fun i => [.int .u64 (((volM (c.take i)).toNat : Nat) : Int), .int .i64 i]) (fun i => [Ent.cells bt5 (bitsL (worM (c.take i))) 176]) (fun i => c.length - i) 0 (Nat.zero_le _) (by rw [List.take_zero]; rfl) ?_ ?_
  · rw [List.take_zero, show worM [] = 0 from rfl, bitsL_zero]
    exact Imp.refl _
  rintro i hi
  try simp only [List.headD_cons, List.tail_cons]
  refine J.op (R.lenN sl112 (hP _) (by rw [ints_len, List.length_map])) ?_ -- @t14 bltS .len #[112] 3 #[false] [a0]
  refine J.opD R.lss (fun ht15 => ?_) (fun ht15 => ?_) -- @t15 binS .lss 3 (.tmp 12) (.tmp 14) (tx.tail.headD undef) t14
  · skip
    refine J.iteT ?_
    refine J.bind ?_ -- @tv bind tv ([6])
    refine J.block ?_
    refine J.draw ?_
    obtain ⟨x, hx⟩ := get_ex (l := c) (i := i) (by omega)
    have hmx := hc x (List.mem_of_getElem? hx)
    have hmp := hmx.price
    have hmq := hmx.qty
    have hvi := vol_range (hc.take (k := i))
    have hwi := wor_bound (hc.take (k := i)) (by rw [List.length_take]; omega)
    rw [List.length_take] at hvi
    have hpq : x.price.toNat * x.qty.toNat ≤ 1099511627776 * 4294967296 := Nat.mul_le_mul (by omega) (by omega)
    have hvs := vol_take hx
    have hws := wor_take hx
    have hpx : (c.map Msg.price)[i]? = some x.price := by simp [hx]
    have hqx : (c.map Msg.qty)[i]? = some x.qty := by simp [hx]
    refine J.op (R.ldA ag176 (by with_reducible repeat (first | exact Pick.here | apply Pick.there)) (by exact bitsF_len)) ?_ -- @t19 vS (Instr.loadAt 176 t5)
    refine J.ixW sl112 hP (by omega) (ints_get hpx) fun b o hkt22 => ?_ -- @t22 ix a0 (tx.tail.headD undef)
    refine J.op (R.ldK0 o2 (hkt22 _)) ?_ -- @t23 vS (Instr.loadAt 2 t22)
    refine J.op (R.asI cv2_54 (v := ((x.price.toNat : Nat) : Int)) (by rw [u64_in _ (by omega)]; omega)) ?_ -- @t24 vS (convert 2 54 t23)
    refine J.ixW sl112 hQ (by omega) (ints_get hqx) fun b o hkt27 => ?_ -- @t27 ix a1 (tx.tail.headD undef)
    refine J.op (R.ldK0 o2 (hkt27 _)) ?_ -- @t28 vS (Instr.loadAt 2 t27)
    refine J.op (R.asI cv2_54 (v := ((x.qty.toNat : Nat) : Int)) (by rw [u64_in _ (by omega)]; omega)) ?_ -- @t29 vS (convert 2 54 t28)
    refine J.callE en116 (s116 x.price.toNat x.qty.toNat (by omega) (by omega)) rfl (fun _ _ _ => trivial) ?_ -- @t30 callS (.func (.func 116) #[] #[]) [t24, t29]
    refine J.chkR (R.ldA ag176 (by with_reducible repeat (first | exact Pick.here | apply Pick.there)) (by exact bitsF_len)) ?_ -- @chk:t19 vS (Instr.loadAt 176 t5)
    refine J.callE en115 (s115 (worM (c.take i)) (x.price.toNat * x.qty.toNat) (by omega) (by omega)) rfl (fun _ _ _ => trivial) ?_
    rw [show (worM (c.take i) + x.price.toNat * x.qty.toNat) % 340282366920938463463374607431768211456 = worM (c.take (i + 1)) by rw [hws]; exact Nat.mod_eq_of_lt (by omega)] -- @t31 callS (.func (.func 115) #[] #[]) [t19, t30]
    refine J.op (R.ext rfl) ?_ -- @t32 vS (Instr.extract t31 0)
    refine J.op (R.ext rfl) ?_ -- @t33 vS (Instr.extract t31 1)
    refine J.stW sz176 (by with_reducible repeat (first | exact Pick.here | apply Pick.there)) (by exact bitsF_len) (by exact bitsF_len) (by exact allOne_bits) ?_ -- @tu uS (Instr.storeAt 176 t5 t32)
    refine J.chkR (R.ext rfl) ?_ -- @chk:t33 vS (Instr.extract t31 1)
    refine J.ixW sl112 hQ (by omega) (ints_get hqx) fun b o hkt37 => ?_ -- @t37 ix a1 (tx.tail.headD undef)
    refine J.op (R.ldK0 o2 (hkt37 _)) ?_ -- @t38 vS (Instr.loadAt 2 t37)
    refine J.op (R.asI cv2_54 (v := ((x.qty.toNat : Nat) : Int)) (by rw [u64_in _ (by omega)]; omega)) ?_ -- @t39 vS (convert 2 54 t38)
    refine J.op (R.asI R.addU (v := (((volM (c.take (i + 1))).toNat : Nat) : Int)) (congrArg _ (by rw [hvs]; omega))) ?_ -- @t40 binS .add 54 (.tmp 34) (.tmp 39) (tx.headD undef) t39
    refine J.done ?_ -- then tv = [t40]
    refine J.op (R.add64 (by omega)) ?_ -- @t17 binS .add 3 (.tmp 16) (.const (.int .i64 1)) (tx.tail.headD undef) (.int .i64 1)
    -- @again[(tv.headDundef),t17]
    exact J.done ⟨i + 1, by omega, rfl, Imp.take (by (try dsimp only); repeat (first | exact Has.nil | refine Has.cons (by repeat (first | (with_reducible exact Out.here) | ((with_reducible refine Out.cells ?_); first | rfl | (simp; done)) | ((with_reducible refine Out.row ?_); first | rfl | (simp; done)) | (with_reducible apply Out.there))) ?_)), by omega⟩
  · skip
    refine J.iteF ?_
    refine J.done ⟨fun _ => ?_, fun h => absurd rfl h⟩ -- exit [(tx.headD undef)]
    obtain rfl : i = c.length := by omega
    rw [List.take_length]
    refine J.op (R.ldA ag176 (by with_reducible repeat (first | exact Pick.here | apply Pick.there)) (by exact bitsF_len)) ?_ -- @t42 vS (Instr.loadAt 176 t5)
    obtain ⟨q, hq⟩ : ∃ q, q = worM c / (volM c).toNat := ⟨_, rfl⟩
    rw [← hq] at hmb
    refine J.callE en117 (s117 (worM c) (volM c).toNat (by omega) (by omega)) rfl (fun _ _ _ => trivial) ?_
    rw [← hq] -- @t44 callS (.func (.func 117) #[] #[]) [t42, (tv_1.headD undef)]
    refine J.op (R.ext rfl) ?_ -- @t45 vS (Instr.extract t44 0)
    refine J.op (R.ext rfl) ?_ -- @t46 vS (Instr.extract t44 1)
    refine J.alloc bz fun bt8 => ?_
    refine J.alloc bz fun bt9 => ?_
    refine J.stW sz176 (by with_reducible repeat (first | exact Pick.here | apply Pick.there)) (by exact bitsF_len) (by exact bitsF_len) (by exact allOne_bits) ?_ -- @tu_1 uS (Instr.storeAt 176 t8 t45)
    refine J.stW sz176 (by with_reducible repeat (first | exact Pick.here | apply Pick.there)) (by exact bitsF_len) (by exact bitsF_len) (by exact allOne_bits) ?_ -- @tu_2 uS (Instr.storeAt 176 t9 t46)
    refine J.op (R.ldA ag176 (by with_reducible repeat (first | exact Pick.here | apply Pick.there)) (by exact bitsF_len)) ?_ -- @t48 vS (Instr.loadAt 176 t8)
    refine J.callE en118 (s118 q (by omega)) rfl (fun _ _ _ => trivial) ?_ -- @t49 callS (.func (.func 118) #[] #[]) [t48]
    refine J.op (R.ext rfl) ?_ -- @t50 vS (Instr.extract t49 0)
    refine J.op (R.ext rfl) ?_ -- @t51 vS (Instr.extract t49 1)
    refine J.op (R.asI cv54_2 (v := (q : Int)) (by rw [i64_in _ (by omega)]; omega)) ?_ -- @t53 vS (convert 54 2 t51)
    -- @ret[t53]
    exact J.done (RetQ.ge (.tmp (.nil)) (by rw [hq]; rfl))

/-- damper/damperref34.Of -/
theorem s51 (v : Value) (l : List Msg) (f : Int) (hc : Cok l) (hne : l ≠ []) (hl : l.length ≤ 150) :
    FnE Try.prog 51 [v, .int .i64 f] (fun w => RdS w v 9 (msgs l)) (.agg (barOf f l).cells.toArray) := by
  refine fn_of_J (cx := cx51) hmix Try.func51 (by kernel_rfl) (eq51 _ _) fun w hw => ?_
  have hS : ∀ H, SeeS ⟨Try.prog, w, footOf []⟩ H v 9 (msgs l) := fun H => SeeS.ofW0 hw msgs_ne
  have hm := hw.le
  simp only [msgs_len, maxLen] at hm
  obtain ⟨m0, h00⟩ := get_ex (l := l) (i := 0) (List.length_pos_iff.2 hne)
  obtain ⟨mz, hz⟩ := get_ex (l := l) (i := l.length - 1) (by have := List.length_pos_iff.2 hne; omega)
  have hlp := List.length_pos_iff.2 hne
  have hv := vol_range hc
  have hf0 := fst_at h00
  have hfz := lst_at hz
  refine J.alloc z34 fun bt4 => ?_
  refine J.draw ?_
  refine J.ixWR sl22 hS (by omega) (msgs_get h00) fun bq oq hkt11 hR11 => ?_ -- @t11 ix a0 (.int .i64 0)
  refine J.op fa46_6 ?_
  refine J.op (R.ldK o2 (hkt11 _) rfl) ?_ -- @t13 vS (Instr.loadAt 2 t12)
  refine J.ixWR sl22 hS (by omega) (msgs_get h00) fun bq oq hkt15 hR15 => ?_ -- @t15 ix a0 (.int .i64 0)
  refine J.op fa46_6 ?_
  refine J.op (R.ldK o2 (hkt15 _) rfl) ?_ -- @t17 vS (Instr.loadAt 2 t16)
  refine J.ixWR sl22 hS (by omega) (msgs_get h00) fun bq oq hkt19 hR19 => ?_ -- @t19 ix a0 (.int .i64 0)
  refine J.op fa46_6 ?_
  refine J.op (R.ldK o2 (hkt19 _) rfl) ?_ -- @t21 vS (Instr.loadAt 2 t20)
  refine J.op (R.lenN sl22 (hS _) msgs_len) ?_ -- @t24 bltS .len #[22] 3 #[false] [a0]
  refine J.op (R.asI R.sub (v := ((l.length - 1 : Nat) : Int)) (by rw [i64_in _ (by omega)]; omega)) ?_ -- @t25 binS .sub 3 (.tmp 24) (.const (.int .i64 1)) t24 (.int .i64 1)
  refine J.ixWR sl22 hS (by omega) (msgs_get hz) fun bq oq hkt26 hR26 => ?_ -- @t26 ix a0 t25
  refine J.op fa46_6 ?_
  refine J.op (R.ldK o2 (hkt26 _) rfl) ?_ -- @t28 vS (Instr.loadAt 2 t27)
  refine J.op (R.lenN sl22 (hS _) msgs_len) ?_ -- @t30 bltS .len #[22] 3 #[false] [a0]
  refine J.op bd34_0_1_2_3_4_6 ?_ -- @t31 vS (Instr.build 34 #[(0, a1), (1, t13), (2, t17), (3, t21), (4, t28), (6, t30)])
  refine J.alloc z34 fun bt5 => ?_
  refine J.chkR bd34_0_1_2_3_4_6 ?_ -- @chk:t31 vS (Instr.build 34 #[(0, a1), (1, t13), (2, t17), (3, t21), (4, t28), (6, t30)])
  refine J.chkR (R.lenN sl22 (hS _) msgs_len) ?_ -- @chk:t30 bltS .len #[22] 3 #[false] [a0]
  refine J.chkR (R.ldK o2 (hkt26 _) rfl) ?_ -- @chk:t28 vS (Instr.loadAt 2 t27)
  refine J.chkR fa46_6 ?_ -- @chk:t27 vS (Instr.fieldAt 46 t26 6)
  refine J.chkR (hR26 _) ?_ -- @chk:t26 vS (Instr.indexAt 22 a0 t25)
  refine J.chkR (R.asI R.sub (v := ((l.length - 1 : Nat) : Int)) (by rw [i64_in _ (by omega)]; omega)) ?_ -- @chk:t25 binS .sub 3 (.tmp 24) (.const (.int .i64 1)) t24 (.int .i64 1)
  refine J.chkR (R.lenN sl22 (hS _) msgs_len) ?_ -- @chk:t24 bltS .len #[22] 3 #[false] [a0]
  refine J.chkR (R.ldK o2 (hkt19 _) rfl) ?_ -- @chk:t21 vS (Instr.loadAt 2 t20)
  refine J.chkR fa46_6 ?_ -- @chk:t20 vS (Instr.fieldAt 46 t19 6)
  refine J.chkR (hR19 _) ?_ -- @chk:t19 vS (Instr.indexAt 22 a0 (.int .i64 0))
  refine J.chkR (R.ldK o2 (hkt15 _) rfl) ?_ -- @chk:t17 vS (Instr.loadAt 2 t16)
  refine J.chkR fa46_6 ?_ -- @chk:t16 vS (Instr.fieldAt 46 t15 6)
  refine J.chkR (hR15 _) ?_ -- @chk:t15 vS (Instr.indexAt 22 a0 (.int .i64 0))
  refine J.chkR (R.ldK o2 (hkt11 _) rfl) ?_ -- @chk:t13 vS (Instr.loadAt 2 t12)
  refine J.chkR fa46_6 ?_ -- @chk:t12 vS (Instr.fieldAt 46 t11 6)
  refine J.chkR (hR11 _) ?_ -- @chk:t11 vS (Instr.indexAt 22 a0 (.int .i64 0))
  refine J.stW sz34 (by with_reducible repeat (first | exact Pick.here | apply Pick.there)) rfl rfl rfl ?_ -- @tu uS (Instr.storeAt 34 t5 t31)
  refine J.bind ?_ -- @tv_1 bind tv_1 ([6, 7])
  refine J.block ?_
  -- @tx loop [(.slice none 0 0), (.slice none 0 0), (.int .i64 0)]
  rw [← hf0, ← hfz]
  refine J.nilRow (sz := 1) (E := 2) ?_
  refine J.nilRow (sz := 1) (E := 2) ?_
  refine J.loop (α := Nat × (Option Addr × Nat × Nat) × Option Addr × Nat × Nat) (fun (i, _) => i ≤ l.length) (fun (i, (pa, pn, pc), qa, qn, qc) => [.slice pa pn pc, .slice qa qn qc, .int .i64 i]) (fun (i, (pa, pn, pc), qa, qn, qc) => [Ent.row (.slice pa pn pc) 1 (ints (((l.take i)).map Msg.price)) 2, Ent.row (.slice qa qn qc) 1 (ints (((l.take i)).map Msg.qty)) 2, Ent.cells bt5 [.int .i64 f, .int .i64 (fstM l), .int .i64 (hiA (fstM l) (l.take i)), .int .i64 (loA (fstM l) (l.take i)), .int .i64 (lstM l), .int .i64 (volM (l.take i)), .int .i64 (l.length : Int), .int .i64 0] 34, Ent.cells bt4 [.int .i64 0, .int .i64 0, .int .i64 0, .int .i64 0, .int .i64 0, .int .i64 0, .int .i64 0, .int .i64 0] 34]) (fun (i, _) => l.length - i) (0, (none, 0, 0), none, 0, 0) (Nat.zero_le _) rfl (by dsimp only; rw [List.take_zero]; exact Imp.refl _) ?_
  rintro ⟨i, ⟨pa, pn, pc⟩, qa, qn, qc⟩ hi
  dsimp only at hi ⊢
  try simp only [List.headD_cons, List.tail_cons]
  refine J.op (R.lenN sl22 (hS _) msgs_len) ?_ -- @t34 bltS .len #[22] 3 #[false] [a0]
  refine J.opD R.lss (fun ht35 => ?_) (fun ht35 => ?_) -- @t35 binS .lss 3 (.tmp 32) (.tmp 34) (tx.tail.tail.headD undef) t34
  · skip
    refine J.iteT ?_
    refine J.bind ?_ -- @tv bind tv ([6, 7])
    refine J.block ?_
    refine J.draw ?_
    refine J.op fa34_2 ?_
    obtain ⟨x, hx⟩ := get_ex (l := l) (i := i) (by omega)
    have hmx := hc x (List.mem_of_getElem? hx)
    have hmq := hmx.qty
    have hvi := vol_range (hc.take (k := i))
    rw [List.length_take] at hvi
    refine J.op (R.ld o2 (by with_reducible repeat (first | exact Pick.here | apply Pick.there)) rfl) ?_ -- @t39 vS (Instr.loadAt 2 t38)
    refine J.ixW sl22 hS (by omega) (msgs_get hx) fun bq oq hkt42 => ?_ -- @t42 ix a0 (tx.tail.tail.headD undef)
    refine J.op fa46_6 ?_
    refine J.op (R.ldK o2 (hkt42 _) rfl) ?_ -- @t44 vS (Instr.loadAt 2 t43)
    refine J.op R.maxI ?_ -- @t45 bltS .max #[2, 2] 2 #[false, false] [t39, t44]
    refine J.op fa34_2 ?_
    refine J.st sz2 (by with_reducible repeat (first | exact Pick.here | apply Pick.there)) (by repeat (first | exact .zero | exact .nil | apply Upd.succ | apply UpdN.cons)) rfl ?_ -- @tu_1 uS (Instr.storeAt 2 t46 t45)
    refine J.draw ?_
    refine J.op fa34_3 ?_
    refine J.op (R.ld o2 (by with_reducible repeat (first | exact Pick.here | apply Pick.there)) rfl) ?_ -- @t48 vS (Instr.loadAt 2 t47)
    refine J.ixW sl22 hS (by omega) (msgs_get hx) fun bq oq hkt51 => ?_ -- @t51 ix a0 (tx.tail.tail.headD undef)
    refine J.op fa46_6 ?_
    refine J.op (R.ldK o2 (hkt51 _) rfl) ?_ -- @t53 vS (Instr.loadAt 2 t52)
    refine J.op R.minI ?_ -- @t54 bltS .min #[2, 2] 2 #[false, false] [t48, t53]
    refine J.op fa34_3 ?_
    refine J.st sz2 (by with_reducible repeat (first | exact Pick.here | apply Pick.there)) (by repeat (first | exact .zero | exact .nil | apply Upd.succ | apply UpdN.cons)) rfl ?_ -- @tu_2 uS (Instr.storeAt 2 t55 t54)
    refine J.draw ?_
    refine J.op fa34_5 ?_
    refine J.op (R.ld o2 (by with_reducible repeat (first | exact Pick.here | apply Pick.there)) rfl) ?_ -- @t57 vS (Instr.loadAt 2 t56)
    refine J.ixW sl22 hS (by omega) (msgs_get hx) fun bq oq hkt60 => ?_ -- @t60 ix a0 (tx.tail.tail.headD undef)
    refine J.op fa46_7 ?_
    refine J.op (R.ldK o2 (hkt60 _) rfl) ?_ -- @t62 vS (Instr.loadAt 2 t61)
    refine J.op (R.add64 (by omega)) ?_ -- @t63 binS .add 2 (.tmp 57) (.tmp 62) t57 t62
    refine J.op fa34_5 ?_
    refine J.st sz2 (by with_reducible repeat (first | exact Pick.here | apply Pick.there)) (by repeat (first | exact .zero | exact .nil | apply Upd.succ | apply UpdN.cons)) rfl ?_ -- @tu_3 uS (Instr.storeAt 2 t64 t63)
    refine J.ixW sl22 hS (by omega) (msgs_get hx) fun bq oq hkt68 => ?_ -- @t68 ix a0 (tx.tail.tail.headD undef)
    refine J.op fa46_6 ?_
    refine J.op (R.ldK o2 (hkt68 _) rfl) ?_ -- @t70 vS (Instr.loadAt 2 t69)
    refine J.bs bs112_1 fun bt71 => ?_ -- @t71 vS (Instr.buildSlice 112 1 #[(0, t70)])
    refine J.append sl112 (by with_reducible repeat (first | exact Pick.here | apply Pick.there)) (SeeS.lit (els := [[.int .i64 x.price]]) (by with_reducible repeat (first | exact Pick.here | apply Pick.there)) (by rfl) (by intro l hl; simp at hl; subst hl; rfl) (by rfl) (by decide)) (by intro l hl; simp at hl; subst hl; exact ⟨rfl, allOne_spec rfl⟩) (by rw [ints_len, List.length_map]; simp; omega) (by rw [ints_len, List.length_map]; simp [maxLen]; omega) fun at72 nt72 ct72 => ?_
    rw [ints_snoc] -- @t72 bltS .append #[112, 112] 112 #[false, false] [(tx.headD undef), t71]
    refine J.ixW sl22 hS (by omega) (msgs_get hx) fun bq oq hkt76 => ?_ -- @t76 ix a0 (tx.tail.tail.headD undef)
    refine J.op fa46_7 ?_
    refine J.op (R.ldK o2 (hkt76 _) rfl) ?_ -- @t78 vS (Instr.loadAt 2 t77)
    refine J.bs bs112_1 fun bt79 => ?_ -- @t79 vS (Instr.buildSlice 112 1 #[(0, t78)])
    refine J.append sl112 (by with_reducible repeat (first | exact Pick.here | apply Pick.there)) (SeeS.lit (els := [[.int .i64 x.qty]]) (by with_reducible repeat (first | exact Pick.here | apply Pick.there)) (by rfl) (by intro l hl; simp at hl; subst hl; rfl) (by rfl) (by decide)) (by intro l hl; simp at hl; subst hl; exact ⟨rfl, allOne_spec rfl⟩) (by rw [ints_len, List.length_map]; simp; omega) (by rw [ints_len, List.length_map]; simp [maxLen]; omega) fun at80 nt80 ct80 => ?_
    rw [ints_snoc] -- @t80 bltS .append #[112, 112] 112 #[false, false] [(tx.tail.headD undef), t79]
    refine J.done ?_ -- then tv = [t72, t80]
    refine J.op (R.add64 (by omega)) ?_ -- @t37 binS .add 3 (.tmp 36) (.const (.int .i64 1)) (tx.tail.tail.headD undef) (.int .i64 1)
    -- @again[(tv.headDundef),(tv.tail.headDundef),t37]
    exact J.done ⟨(i + 1, (at72, nt72, ct72), at80, nt80, ct80), by dsimp only; omega, rfl, by dsimp only; rw [hiA_take hx, loA_take hx, vol_take hx, take_snoc hx, List.map_append, List.map_append]; exact Imp.take (by (try dsimp only); repeat (first | exact Has.nil | refine Has.cons (by repeat (first | (with_reducible exact Out.here) | ((with_reducible refine Out.cells ?_); first | rfl | (simp; done)) | ((with_reducible refine Out.row ?_); first | rfl | (simp; done)) | (with_reducible apply Out.there))) ?_)), by dsimp only; omega⟩
  · skip
    refine J.iteF ?_
    refine J.done ⟨fun _ => ?_, fun h => absurd rfl h⟩ -- exit [(tx.headD undef), (tx.tail.headD undef)]
    obtain rfl : i = l.length := by omega
    rw [List.take_length]
    simp only [List.headD_cons, List.tail_cons]
    refine J.callE en80 (s80 (.slice pa pn pc) (.slice qa qn qc) l hc hne hl) rfl (fun _ _ hs => ⟨SeeS.row (E := 2) (by with_reducible repeat (first | exact Pick.here | apply Pick.there)) _ _ hs, SeeS.row (E := 2) (by with_reducible repeat (first | exact Pick.here | apply Pick.there)) _ _ hs⟩) ?_ -- @t83 callS (.func (.func 80) #[] #[]) [(tv_1.headD undef), (tv_1.tail.headD undef)]
    refine J.op fa34_7 ?_
    refine J.st sz2 (by with_reducible repeat (first | exact Pick.here | apply Pick.there)) (by repeat (first | exact .zero | exact .nil | apply Upd.succ | apply UpdN.cons)) rfl ?_ -- @tu_4 uS (Instr.storeAt 2 t84 t83)
    refine J.op (R.ldA ag34 (by with_reducible repeat (first | exact Pick.here | apply Pick.there)) rfl) ?_ -- @t85 vS (Instr.loadAt 34 t5)
    refine J.stW sz34 (by with_reducible repeat (first | exact Pick.here | apply Pick.there)) rfl rfl rfl ?_ -- @tu_5 uS (Instr.storeAt 34 t4 t85)
    -- @ret[t4]
    exact J.done (RetQ.ge (.cellA ag34 (by with_reducible repeat (first | exact Pick.here | apply Pick.there)) rfl (.nil)) (by first | rfl | (simp [mkRes, *]; done) | (simp_all [mkRes]; done) | (simp_all [mkRes]; first | omega | (rw [decide_eq_false_iff_not]; omega) | (rw [decide_eq_true_iff]; omega)) | (simp only [mkRes]; (repeat' split) <;> first | rfl | omega | (simp_all; done) | (simp_all; omega))))

/-- damper/damperref34.Bars -/
theorem s13 (v : Value) (l : List Msg) (sym width : Int) (hl : l.length ≤ 150) (hok : ∀ m, m ∈ l → i64R m.tick) :
    FnT Try.prog 13 [v, .int .i64 sym, .int .i64 width] (fun w => RdS w v 9 (msgs l)) [] (fun v es => ∃ a n cc, v = .tuple #[.slice a n cc, .int .i64 (faultW width)] ∧ es = [Ent.row (.slice a n cc) 8 (bars (barsF width (cts sym l))) 34]) := by
  refine fn_of_J (cx := cx13) hmix Try.func13 (by kernel_rfl) (eq13 _ _ _) fun w hw => ?_
  have hXl := cts_len (sym := sym) (l := l)
  have hXo : Cok (cts sym l) := cts_ok hok
  refine J.opD R.lss (fun ht14 => ?_) (fun ht14 => ?_) -- @t14 binS .lss 2 (.tmp 13) (.const (.int .i64 1)) a2 (.int .i64 1)
  · skip
    refine J.iteT ?_
    -- @ret[(.slicenone00),(.int.i649)]
    refine J.nilRow (sz := 8) (E := 34) ?_
    exact J.done (RetQ.gt (es := [Ent.row (.slice none 0 0) 8 (bars []) 34]) (.tmp (.tmp .nil)) (by (try dsimp only); repeat (first | exact Has.nil | refine Has.cons (by repeat (first | (with_reducible exact Out.here) | ((with_reducible refine Out.cells ?_); first | rfl | (simp; done)) | ((with_reducible refine Out.row ?_); first | rfl | (simp; done)) | (with_reducible apply Out.there))) ?_)) ⟨_, _, _, by unfold faultW; rw [if_pos ht14]; rfl, by unfold barsF; rw [if_pos ht14]⟩)
  · skip
    refine J.iteF ?_
    refine J.callT en50 (s50 v l sym hl) rfl (fun _ _ hs => (SeeS.ofW0 hw msgs_ne) _ _ hs) Take.nil (fun v2 es hv => ?_)
    obtain ⟨ax, nx, cx, rfl, rfl⟩ := hv
    simp only [List.cons_append, List.nil_append] -- @t17 callS (.func (.func 50) #[] #[]) [a0, a1]
    refine J.bind ?_ -- @tv_4 bind tv_4 ([9])
    refine J.block ?_
    -- @tx loop [(.slice none 0 0), (.int .i64 0)]
    refine J.nilRow (sz := 8) (E := 34) ?_
    refine J.loop (α := Nat × Option Addr × Nat × Nat) (fun (i, _) => i ≤ (cts sym l).length ∧ ∀ x, (cts sym l)[i]? = some x → (foldB width ((cts sym l).take i)).2.2 = [] ∨ (foldB width ((cts sym l).take i)).2.1 ≠ frT width x) (fun (i, a, n, cc) => [.slice a n cc, .int .i64 i]) (fun (i, a, n, cc) => [Ent.row (.slice a n cc) 8 (bars (endB (foldB width ((cts sym l).take i)))) 34, Ent.row (.slice ax nx cx) 9 (msgs (cts sym l)) 46]) (fun (i, _) => (cts sym l).length - i) (0, none, 0, 0) ⟨Nat.zero_le _, fun x _ => .inl (by rw [List.take_zero]; rfl)⟩ rfl (by dsimp only; rw [List.take_zero]; exact Imp.refl _) ?_
    rintro ⟨i, a, n, cc⟩ ⟨hi, hgr⟩
    dsimp only at hi hgr ⊢
    try simp only [List.headD_cons, List.tail_cons]
    refine J.op (R.lenN sl22 (SeeS.row (E := 46) (by with_reducible repeat (first | exact Pick.here | apply Pick.there))) msgs_len) ?_ -- @t20 bltS .len #[22] 3 #[false] [t17]
    refine J.opD R.lss (fun ht21 => ?_) (fun ht21 => ?_) -- @t21 binS .lss 3 (.tmp 18) (.tmp 20) (tx.tail.headD undef) t20
    · skip
      refine J.iteT ?_
      refine J.bind ?_ -- @tv_3 bind tv_3 ([9, 10])
      refine J.block ?_
      refine J.draw ?_
      obtain ⟨x, hx⟩ := get_ex (l := cts sym l) (i := i) (by omega)
      have hgr := hgr x hx
      have hmx := hXo x (List.mem_of_getElem? hx)
      have hfr := frT_range hmx (w := width) (by omega)
      have htk := hmx.tick
      refine J.fact (φ := ∃ g, ax = some ⟨g, 0, none⟩ ∧ nx = (cts sym l).length) (fun _ _ hs => ?_) fun hg => ?_
      · obtain ⟨g, h1, h2⟩ := Row.shape (els := msgs (cts sym l)) (by with_reducible repeat (first | exact Pick.here | apply Pick.there)) (by intro h; have h2 : (msgs (cts sym l)).length = 0 := (by rw [h]; rfl); rw [msgs_len] at h2; omega) hs
        exact ⟨g, h1, h2.trans msgs_len⟩
      obtain ⟨g, rfl, rfl⟩ := hg
      refine J.ix sl22 (SeeS.row (E := 46) (by with_reducible repeat (first | exact Pick.here | apply Pick.there))) (by omega) (msgs_get hx) fun b o hkt24 => ?_ -- @t24 ix t17 (tx.tail.headD undef)
      refine J.op fa46_3 ?_
      refine J.op (R.ldK o2 (hkt24) rfl) ?_ -- @t26 vS (Instr.loadAt 2 t25)
      refine J.ix sl22 (SeeS.row (E := 46) (by with_reducible repeat (first | exact Pick.here | apply Pick.there))) (by omega) (msgs_get hx) fun b o hkt29 => ?_ -- @t29 ix t17 (tx.tail.headD undef)
      refine J.op fa46_3 ?_
      refine J.op (R.ldK o2 (hkt29) rfl) ?_ -- @t31 vS (Instr.loadAt 2 t30)
      refine J.op (R.asI (R.rem (by omega)) (v := x.tick.tmod width) rfl) ?_ -- @t33 binS .rem 2 (.tmp 31) (.tmp 32) t31 a2
      refine J.op (R.asI R.sub (v := frT width x) (by rw [i64_in _ (by have := frT_eq (w := width) (m := x); omega)]; exact frT_eq.symm)) ?_ -- @t34 binS .sub 2 (.tmp 26) (.tmp 33) t26 t33
      refine J.bind ?_ -- @tv_2 bind tv_2 ([12])
      refine J.block ?_
      -- @tx_1 loop [(tx.tail.headD undef)]
      refine J.loopH (α := Nat) (fun k => i ≤ k ∧ k ≤ (cts sym l).length ∧ (k = i ∨ foldB width ((cts sym l).take k) = (endB (foldB width ((cts sym l).take i)), frT width x, ((cts sym l).drop i).take (k - i)))) (fun k => [.int .i64 k]) (fun k => (cts sym l).length - k) i ⟨Nat.le_refl _, by omega, .inl rfl⟩ rfl ?_
      rintro k ⟨hik, hkl, hfk⟩
      try simp only [List.headD_cons, List.tail_cons]
      refine J.bind ?_ -- @tv bind tv ([56])
      refine J.draw ?_
      refine J.op (R.lenN sl22 (SeeS.row (E := 46) (by with_reducible repeat (first | exact Pick.here | apply Pick.there))) msgs_len) ?_ -- @t38 bltS .len #[22] 3 #[false] [t17]
      refine J.opD R.lss (fun ht39 => ?_) (fun ht39 => ?_) -- @t39 binS .lss 3 (.tmp 36) (.tmp 38) (tx_1.headD undef) t38
      · skip
        refine J.gopT rfl ?_
        refine J.op R.pure ?_
        refine J.gopT rfl ?_
        refine J.op R.pure ?_
        refine J.gopT rfl ?_
        obtain ⟨y, hy⟩ := get_ex (l := cts sym l) (i := k) (by omega)
        have hmy := hXo y (List.mem_of_getElem? hy)
        have hfy := frT_range hmy (w := width) (by omega)
        have hty := hmy.tick
        refine J.ix sl22 (SeeS.row (E := 46) (by with_reducible repeat (first | exact Pick.here | apply Pick.there))) (by omega) (msgs_get hy) fun b o hkt43 => ?_ -- @t43 ix t41 t42
        refine J.gopT rfl ?_
        refine J.op fa46_3 ?_
        refine J.gopT rfl ?_
        refine J.op (R.ldK o2 (hkt43) rfl) ?_ -- @t45 vS (Instr.loadAt 2 t44)
        refine J.gopT rfl ?_
        refine J.op R.pure ?_
        refine J.gopT rfl ?_
        refine J.op R.pure ?_
        refine J.gopT rfl ?_
        refine J.ix sl22 (SeeS.row (E := 46) (by with_reducible repeat (first | exact Pick.here | apply Pick.there))) (by omega) (msgs_get hy) fun b o hkt48 => ?_ -- @t48 ix t46 t47
        refine J.gopT rfl ?_
        refine J.op fa46_3 ?_
        refine J.gopT rfl ?_
        refine J.op (R.ldK o2 (hkt48) rfl) ?_ -- @t50 vS (Instr.loadAt 2 t49)
        refine J.gopT rfl ?_
        refine J.op R.pure ?_
        refine J.gopT rfl ?_
        refine J.op (R.asI (R.rem (by omega)) (v := y.tick.tmod width) rfl) ?_ -- @t52 binS .rem 2 (.tmp 50) (.tmp 51) t50 t51
        refine J.gopT rfl ?_
        refine J.op (R.asI R.sub (v := frT width y) (by rw [i64_in _ (by have := frT_eq (w := width) (m := y); omega)]; exact frT_eq.symm)) ?_ -- @t53 binS .sub 2 (.tmp 45) (.tmp 52) t45 t52
        refine J.gopT rfl ?_
        refine J.op R.pure ?_
        refine J.gopT rfl ?_
        refine J.opD R.eql (fun ht55 => ?_) (fun ht55 => ?_) -- @t55 binS .eql 2 (.tmp 53) (.tmp 54) t53 t54
        · skip
          refine J.op R.pickT ?_ -- @t56 pickS t39 t55 (.bool false)
          refine J.done ?_ -- then tv = [t56]
          refine J.iteT ?_
          refine J.bind ?_ -- @tv_1 bind tv_1 ([12])
          refine J.block ?_
          refine J.op (R.add64 (by omega)) ?_ -- @t58 binS .add 3 (.tmp 57) (.const (.int .i64 1)) (tx_1.headD undef) (.int .i64 1)
          refine J.done ?_ -- then tv_1 = [t58]
          -- @again[(tv_1.headDundef)]
          exact J.done ⟨k + 1, ⟨by omega, by omega, .inr (grp_step hx hy hik ht55 hgr hfk)⟩, rfl, Imp.refl _, by omega⟩
        · skip
          refine J.op R.pickT ?_ -- @t56 pickS t39 t55 (.bool false)
          refine J.done ?_ -- then tv = [t56]
          refine J.iteF ?_
          refine J.done ⟨fun _ => ?_, fun h => absurd rfl h⟩ -- exit [(tx_1.headD undef)]
          have hki : k ≠ i := by intro h; subst h; first | omega | (rw [hx] at hy; cases hy; exact ht55 rfl)
          have hnx : ∀ z, (cts sym l)[k]? = some z → frT width x ≠ frT width z := by intro z hz; first | (rw [hy] at hz; cases hz; exact fun h => ht55 h.symm) | (have := (List.getElem?_eq_some_iff.1 hz).1; omega)
          have hfk := hfk.resolve_left hki
          have hsl : (((cts sym l).drop i).take (k - i)).length = k - i := by rw [List.length_take, List.length_drop]; omega
          have hsn : ((cts sym l).drop i).take (k - i) ≠ [] := fun h => by rw [h] at hsl; simp at hsl; omega
          have hSo : Cok (((cts sym l).drop i).take (k - i)) := fun z hz => hXo z (List.mem_of_mem_drop (List.mem_of_mem_take hz))
          have hel := endB_len (s := foldB width ((cts sym l).take i))
          have hgl := (foldB_inv (w := width) (hXo.take (k := i))).2.2
          rw [List.length_take] at hgl
          simp only [List.headD_cons, List.tail_cons]
          refine J.op (R.subS sl22 (by with_reducible repeat (first | exact Pick.here | apply Pick.there)) hik (by rw [msgs_len]; omega)) ?_ -- @t63 vS (Instr.sliceAt 22 t17 (some (tx.tail.headD undef)) (some (tv_2.headD undef)) none)
          refine J.callE en51 (s51 _ (((cts sym l).drop i).take (k - i)) (frT width x) hSo hsn (by omega)) rfl (fun _ _ hs => by have := SeeS.sub (l := i) (h := k) (sz := 9) (E' := 46) (by with_reducible repeat (first | exact Pick.here | apply Pick.there)) hik (by rw [msgs_len]; omega) _ _ hs; rw [msgs_sub] at this; exact this) ?_ -- @t65 callS (.func (.func 51) #[] #[]) [t63, t34]
          refine J.bs bs28_1 fun bt66 => ?_ -- @t66 vS (Instr.buildSlice 28 1 #[(0, t65)])
          refine J.append sl28 (by with_reducible repeat (first | exact Pick.here | apply Pick.there)) (SeeS.lit (els := [(barOf (frT width x) (((cts sym l).drop i).take (k - i))).cells]) (by with_reducible repeat (first | exact Pick.here | apply Pick.there)) (by rfl) (by intro l hl; simp at hl; subst hl; rfl) (by rfl) (by decide)) (by intro l hl; simp at hl; subst hl; exact ⟨rfl, allOne_spec rfl⟩) (by rw [bars_len]; simp; omega) (by rw [bars_len]; simp [maxLen]; omega) fun at67 nt67 ct67 => ?_
          rw [bars_snoc] -- @t67 bltS .append #[28, 28] 28 #[false, false] [(tx.headD undef), t66]
          refine J.done ?_ -- then tv_3 = [t67, (tv_2.headD undef)]
          -- @again[(tv_3.headDundef),(tv_3.tail.headDundef)]
          exact J.done ⟨(k, at67, nt67, ct67), ⟨hkl, fun z hz => .inr (by rw [hfk]; exact hnx z hz)⟩, rfl, by dsimp only; rw [hfk, endB_grp hsn]; exact Imp.take (by (try dsimp only); repeat (first | exact Has.nil | refine Has.cons (by repeat (first | (with_reducible exact Out.here) | ((with_reducible refine Out.cells ?_); first | rfl | (simp; done)) | ((with_reducible refine Out.row ?_); first | rfl | (simp; done)) | (with_reducible apply Out.there))) ?_)), by dsimp only; omega⟩
      · skip
        refine J.gopF rfl ?_
        refine J.gopF rfl ?_
        refine J.gopF rfl ?_
        refine J.gopF rfl ?_
        refine J.gopF rfl ?_
        refine J.gopF rfl ?_
        refine J.gopF rfl ?_
        refine J.gopF rfl ?_
        refine J.gopF rfl ?_
        refine J.gopF rfl ?_
        refine J.gopF rfl ?_
        refine J.gopF rfl ?_
        refine J.gopF rfl ?_
        refine J.gopF rfl ?_
        refine J.gopF rfl ?_
        refine J.op R.pickF ?_ -- @t56 pickS t39 t55 (.bool false)
        refine J.done ?_ -- then tv = [t56]
        refine J.iteF ?_
        refine J.done ⟨fun _ => ?_, fun h => absurd rfl h⟩ -- exit [(tx_1.headD undef)]
        have hki : k ≠ i := by intro h; subst h; first | omega | (rw [hx] at hy; cases hy; exact ht55 rfl)
        have hnx : ∀ z, (cts sym l)[k]? = some z → frT width x ≠ frT width z := by intro z hz; first | (rw [hy] at hz; cases hz; exact fun h => ht55 h.symm) | (have := (List.getElem?_eq_some_iff.1 hz).1; omega)
        have hfk := hfk.resolve_left hki
        have hsl : (((cts sym l).drop i).take (k - i)).length = k - i := by rw [List.length_take, List.length_drop]; omega
        have hsn : ((cts sym l).drop i).take (k - i) ≠ [] := fun h => by rw [h] at hsl; simp at hsl; omega
        have hSo : Cok (((cts sym l).drop i).take (k - i)) := fun z hz => hXo z (List.mem_of_mem_drop (List.mem_of_mem_take hz))
        have hel := endB_len (s := foldB width ((cts sym l).take i))
        have hgl := (foldB_inv (w := width) (hXo.take (k := i))).2.2
        rw [List.length_take] at hgl
        simp only [List.headD_cons, List.tail_cons]
        refine J.op (R.subS sl22 (by with_reducible repeat (first | exact Pick.here | apply Pick.there)) hik (by rw [msgs_len]; omega)) ?_ -- @t63 vS (Instr.sliceAt 22 t17 (some (tx.tail.headD undef)) (some (tv_2.headD undef)) none)
        refine J.callE en51 (s51 _ (((cts sym l).drop i).take (k - i)) (frT width x) hSo hsn (by omega)) rfl (fun _ _ hs => by have := SeeS.sub (l := i) (h := k) (sz := 9) (E' := 46) (by with_reducible repeat (first | exact Pick.here | apply Pick.there)) hik (by rw [msgs_len]; omega) _ _ hs; rw [msgs_sub] at this; exact this) ?_ -- @t65 callS (.func (.func 51) #[] #[]) [t63, t34]
        refine J.bs bs28_1 fun bt66 => ?_ -- @t66 vS (Instr.buildSlice 28 1 #[(0, t65)])
        refine J.append sl28 (by with_reducible repeat (first | exact Pick.here | apply Pick.there)) (SeeS.lit (els := [(barOf (frT width x) (((cts sym l).drop i).take (k - i))).cells]) (by with_reducible repeat (first | exact Pick.here | apply Pick.there)) (by rfl) (by intro l hl; simp at hl; subst hl; rfl) (by rfl) (by decide)) (by intro l hl; simp at hl; subst hl; exact ⟨rfl, allOne_spec rfl⟩) (by rw [bars_len]; simp; omega) (by rw [bars_len]; simp [maxLen]; omega) fun at67 nt67 ct67 => ?_
        rw [bars_snoc] -- @t67 bltS .append #[28, 28] 28 #[false, false] [(tx.headD undef), t66]
        refine J.done ?_ -- then tv_3 = [t67, (tv_2.headD undef)]
        -- @again[(tv_3.headDundef),(tv_3.tail.headDundef)]
        exact J.done ⟨(k, at67, nt67, ct67), ⟨hkl, fun z hz => .inr (by rw [hfk]; exact hnx z hz)⟩, rfl, by dsimp only; rw [hfk, endB_grp hsn]; exact Imp.take (by (try dsimp only); repeat (first | exact Has.nil | refine Has.cons (by repeat (first | (with_reducible exact Out.here) | ((with_reducible refine Out.cells ?_); first | rfl | (simp; done)) | ((with_reducible refine Out.row ?_); first | rfl | (simp; done)) | (with_reducible apply Out.there))) ?_)), by dsimp only; omega⟩
    · skip
      refine J.iteF ?_
      refine J.done ⟨fun _ => ?_, fun h => absurd rfl h⟩ -- exit [(tx.headD undef)]
      -- @ret[(tv_4.headDundef),(.int.i640)]
      obtain rfl : i = (cts sym l).length := by omega
      rw [List.take_length]
      exact J.done (RetQ.gt (es := [Ent.row (.slice a n cc) 8 (bars (endB (foldB width (cts sym l)))) 34]) (.tmp (.tmp .nil)) (by (try dsimp only); repeat (first | exact Has.nil | refine Has.cons (by repeat (first | (with_reducible exact Out.here) | ((with_reducible refine Out.cells ?_); first | rfl | (simp; done)) | ((with_reducible refine Out.row ?_); first | rfl | (simp; done)) | (with_reducible apply Out.there))) ?_)) ⟨_, _, _, by unfold faultW; rw [if_neg ht14]; rfl, by unfold barsF; rw [if_neg ht14]; rfl⟩)
end Go.Proofs.Ytipgdalebkhgpaa
