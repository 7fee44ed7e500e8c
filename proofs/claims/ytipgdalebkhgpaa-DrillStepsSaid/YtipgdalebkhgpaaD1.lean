/-
  Contracts of functions.
-/
import Derived.Test.YtipgdalebkhgpaaTerms1
import Derived.Test.YtipgdalebkhgpaaTerms2
import Derived.Test.YtipgdalebkhgpaaTab
import Derived.Test.YtipgdalebkhgpaaModDrill
import Derived.Test.YtipgdalebkhgpaaFw25
set_option maxRecDepth 100000
set_option maxHeartbeats 4000000
set_option linter.unusedVariables false
set_option linter.unusedSimpArgs false
namespace Go.Proofs.Ytipgdalebkhgpaa
open Go Go.RowKit Fw
/-- damper/damperlaw07.Plain -/
theorem s57 (n : Nat) (hn : n ≤ 1000) :
    FnT Try.prog 57 [.int .i64 n] (fun _ => True) [] (fun v es => ∃ a m c b, v = .agg [.slice a m c, .slice (some ⟨b, 0, none⟩) 3 3, .int .i64 10000, .int .i64 700, .int .i64 1300, .int .i64 2000, .int .i64 15, .int .i64 30].toArray ∧ es = [Ent.row (.slice a m c) 16 (List.replicate n plainSym.cells) 123, Ent.cells b [.int .i64 5, .int .i64 1, .int .i64 10, .int .i64 2, .int .i64 500, .int .i64 0] 138]) := by
  refine fn_of_J (cx := cx57) hmix Try.func57 (by kernel_rfl) (eq57 _) fun w hw => ?_
  refine J.alloc z53 fun bt2 => ?_
  refine J.op bd123_0_1_2_3_4_5_6_7_8_9_10_11_12_13_14_15 ?_ -- @t6 vS (Instr.build 123 #[(0, (.int .i64 5)), (1, (.int .i64 1000)), (2, (.int .i64 2000)), (3, (.int .i64 500)), (4, (.int .i64 20)), (5, (.int .i64 100)), (6, (.int .i64 3)), (7, (.int .i64 10)), (8, (.int .i64 5)), (9, (.int .i64 2)), (10, (.int .i64 500)), (11, (.int .i64 500)), (12, (.int .i64 1)), (13, (.int .i64 40)), (14, (.int .i64 12)), (15, (.int .i64 1000))])
  refine J.alloc z123 fun bt3 => ?_
  refine J.stW sz123 (by with_reducible repeat (first | exact Pick.here | apply Pick.there)) rfl rfl rfl ?_ -- @tu uS (Instr.storeAt 123 t3 t6)
  refine J.op bd138_0_1 ?_ -- @t7 vS (Instr.build 138 #[(0, (.int .i64 5)), (1, (.int .i64 1))])
  refine J.op bd138_0_1 ?_ -- @t8 vS (Instr.build 138 #[(0, (.int .i64 10)), (1, (.int .i64 2))])
  refine J.op bd138_0 ?_ -- @t9 vS (Instr.build 138 #[(0, (.int .i64 500))])
  refine J.bs (cs := [.int .i64 5, .int .i64 1, .int .i64 10, .int .i64 2, .int .i64 500, .int .i64 0]) (E := 138) (fun w => by kernel_rfl) fun bt10 => ?_ -- @t10 vS (Instr.buildSlice 49 3 #[(0, t7), (1, t8), (2, t9)])
  refine J.op bd50_0_1_2 ?_ -- @t11 vS (Instr.build 50 #[(0, (.int .i64 700)), (1, (.int .i64 1300)), (2, (.int .i64 2000))])
  refine J.op bd51_0_1 ?_ -- @t12 vS (Instr.build 51 #[(0, (.int .i64 15)), (1, (.int .i64 30))])
  refine J.op bd53_1_2_3_4 ?_ -- @t13 vS (Instr.build 53 #[(1, t10), (2, (.int .i64 10000)), (3, t11), (4, t12)])
  refine J.alloc z53 fun bt4 => ?_
  refine J.stW sz53 (by with_reducible repeat (first | exact Pick.here | apply Pick.there)) rfl rfl rfl ?_ -- @tu_1 uS (Instr.storeAt 53 t4 t13)
  refine J.bind ?_ -- @tv_1 bind tv_1 ([])
  refine J.block ?_
  -- @tx loop [(.int .i64 0)]
  refine J.nilRow (sz := 16) (E := 123) ?_
  refine J.loop (α := Nat × Option Addr × Nat × Nat) (fun (i, _) => i ≤ n) (fun (i, _) => [.int .i64 i]) (fun (i, a, m, c) => [Ent.row (.slice a m c) 16 (List.replicate i plainSym.cells) 123, Ent.cells bt4 [.slice a m c, .slice (some ⟨bt10, 0, none⟩) 3 3, .int .i64 10000, .int .i64 700, .int .i64 1300, .int .i64 2000, .int .i64 15, .int .i64 30] 53, Ent.cells bt10 [.int .i64 5, .int .i64 1, .int .i64 10, .int .i64 2, .int .i64 500, .int .i64 0] 138, Ent.cells bt3 plainSym.cells 123, Ent.cells bt2 [.slice none 0 0, .slice none 0 0, .int .i64 0, .int .i64 0, .int .i64 0, .int .i64 0, .int .i64 0, .int .i64 0] 53]) (fun (i, _) => n - i) (0, none, 0, 0) (Nat.zero_le _) rfl (Imp.take (by (try dsimp only); repeat (first | exact Has.nil | refine Has.cons (by repeat (first | (with_reducible exact Out.here) | ((with_reducible refine Out.cells ?_); first | rfl | (simp; done)) | ((with_reducible refine Out.row ?_); first | rfl | (simp; done)) | (with_reducible apply Out.there))) ?_))) ?_
  rintro ⟨i, a, m, c⟩ hi
  dsimp only at hi
  try simp only [List.headD_cons, List.tail_cons]
  refine J.opD R.lss (fun ht16 => ?_) (fun ht16 => ?_) -- @t16 binS .lss 3 (.tmp 14) (.tmp 15) (tx.headD undef) a0
  · skip
    refine J.iteT ?_
    refine J.bind ?_ -- @tv bind tv ([])
    refine J.block ?_
    refine J.op fa53_0 ?_
    refine J.op (R.ld o48 (by with_reducible repeat (first | exact Pick.here | apply Pick.there)) rfl) ?_ -- @t20 vS (Instr.loadAt 48 t19)
    refine J.op (R.ldA ag123 (by with_reducible repeat (first | exact Pick.here | apply Pick.there)) rfl) ?_ -- @t21 vS (Instr.loadAt 123 t3)
    refine J.bs (cs := plainSym.cells) (E := 123) (fun w => by kernel_rfl) fun bt22 => ?_ -- @t22 vS (Instr.buildSlice 48 1 #[(0, t21)])
    refine J.append sl48 (by with_reducible repeat (first | exact Pick.here | apply Pick.there)) (SeeS.cells (els := [plainSym.cells]) (by with_reducible repeat (first | exact Pick.here | apply Pick.there)) rfl (by decide) (by intro i l hi j u hj; rcases i with _ | i <;> simp at hi; subst hi; simpa using hj)) (by simp; decide) (by simp; omega) (by simp [maxLen]; omega) fun at23 nt23 ct23 => ?_ -- @t23 bltS .append #[48, 48] 48 #[false, false] [t20, t22]
    refine J.op fa53_0 ?_
    refine J.st sz48 (by with_reducible repeat (first | exact Pick.here | apply Pick.there)) (by repeat (first | exact .zero | exact .nil | apply Upd.succ | apply UpdN.cons)) rfl ?_ -- @tu_2 uS (Instr.storeAt 48 t24 t23)
    refine J.done ?_ -- then tv = []
    refine J.op (R.add64 (by omega)) ?_ -- @t18 binS .add 3 (.tmp 17) (.const (.int .i64 1)) (tx.headD undef) (.int .i64 1)
    -- @again[t18]
    refine J.done ⟨(i + 1, at23, nt23, ct23), by omega, rfl, ?_, by simp only []; omega⟩
    dsimp only
    rw [List.replicate_succ']
    exact Imp.take (by (try dsimp only); repeat (first | exact Has.nil | refine Has.cons (by repeat (first | (with_reducible exact Out.here) | ((with_reducible refine Out.cells ?_); first | rfl | (simp; done)) | ((with_reducible refine Out.row ?_); first | rfl | (simp; done)) | (with_reducible apply Out.there))) ?_))
  · skip
    refine J.iteF ?_
    refine J.done ⟨fun _ => ?_, fun h => absurd rfl h⟩ -- exit []
    refine J.op (R.ldA ag53 (by with_reducible repeat (first | exact Pick.here | apply Pick.there)) rfl) ?_ -- @t25 vS (Instr.loadAt 53 t4)
    refine J.stW sz53 (by with_reducible repeat (first | exact Pick.here | apply Pick.there)) rfl rfl rfl ?_ -- @tu_3 uS (Instr.storeAt 53 t2 t25)
    -- @ret[t2]
    refine J.done (RetQ.tc (es := [Ent.row (.slice a m c) 16 (List.replicate n plainSym.cells) 123, Ent.cells bt10 [.int .i64 5, .int .i64 1, .int .i64 10, .int .i64 2, .int .i64 500, .int .i64 0] 138]) ag53 (by with_reducible repeat (first | exact Pick.here | apply Pick.there)) rfl ?_ ⟨_, _, _, _, rfl, rfl⟩)
    obtain rfl : i = n := by omega
    exact (by (try dsimp only); repeat (first | exact Has.nil | refine Has.cons (by repeat (first | (with_reducible exact Out.here) | ((with_reducible refine Out.cells ?_); first | rfl | (simp; done)) | ((with_reducible refine Out.row ?_); first | rfl | (simp; done)) | (with_reducible apply Out.there))) ?_))

/-- damper/drill.New -/
theorem s24 (x : Int) :
    FnT Try.prog 24 [.int .u64 x] (fun _ => True) [] (fun v es => ∃ b, v = .pointer (some ⟨b, 0, none⟩) ∧ es = [Ent.cells b [.int .u64 x] 119]) := by
  refine fn_of_J (cx := cx24) hmix Try.func24 (by kernel_rfl) (eq24 _) fun w hw => ?_
  refine J.op bd119_0 ?_ -- @t4 vS (Instr.build 119 #[(0, a0)])
  refine J.boxA fun bt5 => ?_
  -- @ret[t5]
  exact J.done (RetQ.t1 (by (try dsimp only); repeat (first | exact Has.nil | refine Has.cons (by repeat (first | (with_reducible exact Out.here) | ((with_reducible refine Out.cells ?_); first | rfl | (simp; done)) | ((with_reducible refine Out.row ?_); first | rfl | (simp; done)) | (with_reducible apply Out.there))) ?_)) ⟨_, rfl, rfl⟩)

/-- (*damper/drill.Dice).Next -/
theorem s27 (b : Nat) (x n : Int) :
    FnT Try.prog 27 [.pointer (some ⟨b, 0, none⟩), .int .i64 n] (fun _ => True) [Ent.cells b [.int .u64 x] 119] (fun v es => v = .int .i64 (if n < 1 then 0 else diceThrow x n) ∧ es = [Ent.cells b [.int .u64 (if n < 1 then x else diceNext x)] 119]) := by
  refine fn_of_J (cx := cx27) hmix Try.func27 (by kernel_rfl) (eq27 _ _) fun w hw => ?_
  refine J.bindB (n < 1) ?_ (fun hbtv => ?_) (fun hbtv => ?_) -- @tv
  · skip
    refine J.opBF (R.isNil pt56) (by rfl) ?_ -- @t6
    refine J.gopT rfl ?_
    refine J.op R.pure ?_
    refine J.gopT rfl ?_
    refine J.op R.lss ?_ -- @t9 binS .lss 2 (.tmp 8) (.const (.int .i64 1)) t8 (.int .i64 1)
    refine J.op R.pickF ?_ -- @t10 pickS t6 (.bool true) t9
    exact J.done ⟨rfl, rfl, rfl⟩ -- @leaf[t10]
  · skip
    refine J.iteT ?_
    -- @ret[(.int.i640)]
    exact J.done (RetQ.t1 (es := [Ent.cells b [.int .u64 x] 119]) (by (try dsimp only); repeat (first | exact Has.nil | refine Has.cons (by repeat (first | (with_reducible exact Out.here) | ((with_reducible refine Out.cells ?_); first | rfl | (simp; done)) | ((with_reducible refine Out.row ?_); first | rfl | (simp; done)) | (with_reducible apply Out.there))) ?_)) ⟨by simp [hbtv], by simp [hbtv]⟩)
  · skip
    refine J.iteF ?_
    refine J.op R.nil ?_ -- @t13 nilS a0
    refine J.op fa119_0 ?_
    refine J.op (R.ld o54 (by with_reducible repeat (first | exact Pick.here | apply Pick.there)) rfl) ?_ -- @t15 vS (Instr.loadAt 54 t14)
    refine J.op R.mul ?_ -- @t16 binS .mul 54 (.tmp 15) (.const (.int .u64 6364136223846793005)) t15 (.int .u64 6364136223846793005)
    refine J.op R.add ?_ -- @t17 binS .add 54 (.tmp 16) (.const (.int .u64 1442695040888963407)) t16 (.int .u64 1442695040888963407)
    refine J.op R.nil ?_ -- @t18 nilS a0
    refine J.op fa119_0 ?_
    refine J.st sz54 (by with_reducible repeat (first | exact Pick.here | apply Pick.there)) (by repeat (first | exact .zero | exact .nil | apply Upd.succ | apply UpdN.cons)) rfl ?_ -- @tu uS (Instr.storeAt 54 t19 t17)
    refine J.op R.nil ?_ -- @t21 nilS a0
    refine J.op fa119_0 ?_
    refine J.op (R.ld o54 (by with_reducible repeat (first | exact Pick.here | apply Pick.there)) rfl) ?_ -- @t23 vS (Instr.loadAt 54 t22)
    refine J.op (R.shr (by first | decide | assumption | omega)) ?_ -- @t24 binS .shr 54 (.tmp 23) (.const (.int .u64 33)) t23 (.int .u64 33)
    refine J.op cv54_2 ?_ -- @t25 vS (convert 54 2 t24)
    refine J.op (R.rem (by omega)) ?_ -- @t27 binS .rem 2 (.tmp 25) (.tmp 26) t25 a1
    -- @ret[t27]
    exact J.done (RetQ.t1 (es := [Ent.cells b [.int .u64 (diceNext x)] 119]) (by (try dsimp only); repeat (first | exact Has.nil | refine Has.cons (by repeat (first | (with_reducible exact Out.here) | ((with_reducible refine Out.cells ?_); first | rfl | (simp; done)) | ((with_reducible refine Out.row ?_); first | rfl | (simp; done)) | (with_reducible apply Out.there))) ?_)) ⟨by simp only [hbtv, if_false]; rfl, by simp only [hbtv, if_false]⟩)

/-- (*damper/drill.Dice).Next -/
theorem s27nil (n : Int) :
    FnE Try.prog 27 [.pointer none, .int .i64 n] (fun _ => True) (.int .i64 0) := by
  refine fn_of_J (cx := cx27) hmix Try.func27 (by kernel_rfl) (eq27 _ _) fun w hw => ?_
  refine J.bindB (True) ?_ (fun hbtv => ?_) (fun hbtv => ?_) -- @tv
  · skip
    refine J.opBT (R.isNil pt56) (by rfl) ?_ -- @t6
    refine J.gopF rfl ?_
    refine J.gopF rfl ?_
    refine J.op R.pickT ?_ -- @t10 pickS t6 (.bool true) t9
    exact J.done ⟨rfl, by simp [*], rfl⟩ -- @leaf[t10]
  · skip
    refine J.iteT ?_
    -- @ret[(.int.i640)]
    exact J.done (RetQ.ge (.tmp (.nil)) (by first | rfl | (simp [mkRes, *]; done) | (simp_all [mkRes]; done) | (simp_all [mkRes]; first | omega | (rw [decide_eq_false_iff_not]; omega) | (rw [decide_eq_true_iff]; omega)) | (simp only [mkRes]; (repeat' split) <;> first | rfl | omega | (simp_all; done) | (simp_all; omega))))
  · exact absurd trivial hbtv

/-- (*damper/damperref37.Dice).Next -/
theorem s28 (b : Nat) (x n : Int) :
    FnT Try.prog 28 [.pointer (some ⟨b, 0, none⟩), .int .i64 n] (fun _ => True) [Ent.cells b [.int .u64 x] 60] (fun v es => v = .int .i64 (if n < 1 then 0 else diceThrow x n) ∧ es = [Ent.cells b [.int .u64 (if n < 1 then x else diceNext x)] 60]) := by
  refine fn_of_J (cx := cx28) hmix Try.func28 (by kernel_rfl) (eq28 _ _) fun w hw => ?_
  refine J.opD R.lss (fun ht6 => ?_) (fun ht6 => ?_) -- @t6 binS .lss 2 (.tmp 5) (.const (.int .i64 1)) a1 (.int .i64 1)
  · skip
    refine J.iteT ?_
    -- @ret[(.int.i640)]
    exact J.done (RetQ.t1 (es := [Ent.cells b [.int .u64 x] 60]) (by (try dsimp only); repeat (first | exact Has.nil | refine Has.cons (by repeat (first | (with_reducible exact Out.here) | ((with_reducible refine Out.cells ?_); first | rfl | (simp; done)) | ((with_reducible refine Out.row ?_); first | rfl | (simp; done)) | (with_reducible apply Out.there))) ?_)) ⟨by simp [ht6], by simp [ht6]⟩)
  · skip
    refine J.iteF ?_
    refine J.op R.nil ?_ -- @t9 nilS a0
    refine J.op fa60_0 ?_
    refine J.op (R.ld o54 (by with_reducible repeat (first | exact Pick.here | apply Pick.there)) rfl) ?_ -- @t11 vS (Instr.loadAt 54 t10)
    refine J.op R.mul ?_ -- @t12 binS .mul 54 (.tmp 11) (.const (.int .u64 6364136223846793005)) t11 (.int .u64 6364136223846793005)
    refine J.op R.add ?_ -- @t13 binS .add 54 (.tmp 12) (.const (.int .u64 1442695040888963407)) t12 (.int .u64 1442695040888963407)
    refine J.op R.nil ?_ -- @t14 nilS a0
    refine J.op fa60_0 ?_
    refine J.st sz54 (by with_reducible repeat (first | exact Pick.here | apply Pick.there)) (by repeat (first | exact .zero | exact .nil | apply Upd.succ | apply UpdN.cons)) rfl ?_ -- @tu uS (Instr.storeAt 54 t15 t13)
    refine J.op R.nil ?_ -- @t17 nilS a0
    refine J.op fa60_0 ?_
    refine J.op (R.ld o54 (by with_reducible repeat (first | exact Pick.here | apply Pick.there)) rfl) ?_ -- @t19 vS (Instr.loadAt 54 t18)
    refine J.op (R.quo (by first | decide | assumption | omega)) ?_ -- @t20 binS .quo 54 (.tmp 19) (.const (.int .u64 8589934592)) t19 (.int .u64 8589934592)
    refine J.op cv54_2 ?_ -- @t21 vS (convert 54 2 t20)
    refine J.op (R.rem (by omega)) ?_ -- @t23 binS .rem 2 (.tmp 21) (.tmp 22) t21 a1
    -- @ret[t23]
    exact J.done (RetQ.t1 (es := [Ent.cells b [.int .u64 (diceNext x)] 60]) (by (try dsimp only); repeat (first | exact Has.nil | refine Has.cons (by repeat (first | (with_reducible exact Out.here) | ((with_reducible refine Out.cells ?_); first | rfl | (simp; done)) | ((with_reducible refine Out.row ?_); first | rfl | (simp; done)) | (with_reducible apply Out.there))) ?_)) ⟨by simp only [ht6, if_false, diceThrow, dice_quo], by simp only [ht6, if_false]⟩)

/-- damper/drill.Start$1 -/
theorem s68 (x : TRow) :
    FnE Try.prog 68 [.agg x.cells.toArray] (fun _ => True) (.bool (isCont x)) := by
  refine fn_of_J (cx := cx68) hmix Try.func68 (by kernel_rfl) (eq68 _) fun w hw => ?_
  refine J.boxA fun bt1 => ?_
  refine J.op fa138_1 ?_
  refine J.op (R.ld o3 (by with_reducible repeat (first | exact Pick.here | apply Pick.there)) rfl) ?_ -- @t4 vS (Instr.loadAt 3 t3)
  refine J.op R.eql ?_ -- @t5 binS .eql 3 (.tmp 4) (.const (.int .i64 2)) t4 (.int .i64 2)
  -- @ret[t5]
  exact J.done (RetQ.ge (.tmp (.nil)) (by first | rfl | (simp [isCont, mkRes, *]; done) | (simp_all [isCont, mkRes]; done) | (simp_all [isCont, mkRes]; first | omega | (rw [decide_eq_false_iff_not]; omega) | (rw [decide_eq_true_iff]; omega)) | (simp only [isCont, mkRes]; (repeat' split) <;> first | rfl | omega | (simp_all; done) | (simp_all; omega))))

/-- slices.IndexFunc[[]damper/api.Row,damper/api.Row] -/
theorem s67 (v : Value) (l : List TRow) :
    FnE Try.prog 67 [v, .func (.func 68) #[] #[]] (fun w => RdS w v 2 (trows l)) (.int .i64 (findI isCont l)) := by
  refine fn_of_J (cx := cx67) hmix Try.func67 (by kernel_rfl) (eq67 _ _) fun w hw => ?_
  have hS : ∀ H, SeeS ⟨Try.prog, w, footOf []⟩ H v 2 (trows l) := fun H => SeeS.ofW0 hw trows_ne
  have hm := hw.le
  simp only [trows_len, maxLen] at hm
  refine J.op (R.lenN sl49 (by first | exact SeeS.row (by with_reducible repeat (first | exact Pick.here | apply Pick.there)) | apply_assumption) (by first | exact ints_len | exact bools_len | exact msgs_len | exact trows_len | exact edits_len | rfl)) ?_ -- @t7 bltS .len #[49] 3 #[false] [a0]
  refine J.bind ?_ -- @tv_1 bind tv_1 ([4])
  refine J.block ?_
  -- @tx loop [(.int .i64 0), (.int .i64 0)]
  refine J.loopH (α := Nat) (fun i => i ≤ l.length ∧ ∀ j y, j < i → l[j]? = some y → isCont y = false) (fun i => [.int .i64 0, .int .i64 i]) (fun i => l.length - i) 0 ⟨Nat.zero_le _, fun j y h => absurd h (Nat.not_lt_zero j)⟩ rfl ?_
  rintro i ⟨hi, hall⟩
  try simp only [List.headD_cons, List.tail_cons]
  refine J.opD R.lss (fun ht9 => ?_) (fun ht9 => ?_) -- @t9 binS .lss 3 (.tmp 8) (.tmp 7) (tx.tail.headD undef) t7
  · skip
    refine J.iteT ?_
    try rw [trows_len] at ht9
    have hlt : i < l.length := by omega
    obtain ⟨x, hx⟩ := get_ex hlt
    refine J.bind ?_ -- @tv bind tv ([4])
    refine J.block ?_
    refine J.ixW sl49 hS (by omega) (trows_get hx) fun b o hkt14 => ?_ -- @t14 ix a0 (tx.tail.headD undef)
    refine J.op (R.ldKA ag138 (hkt14 _) rfl) ?_ -- @t15 vS (Instr.loadAt 138 t14)
    refine J.callE en68 (s68 x) rfl (fun _ _ _ => trivial) ?_ -- @t16 callS a1 [t15]
    refine J.iteB (fun hct16 => ?_) (fun hct16 => ?_) -- ite t16
    · try simp only [List.headD_cons, List.tail_cons, decide_eq_true_eq] at hct16
      -- @ret[(tx.tail.headDundef)]
      exact J.done (RetQ.e1 (by rw [findI_at hx hct16 hall]))
    · try simp only [List.headD_cons, List.tail_cons, decide_eq_false_iff_not] at hct16
      refine J.done ?_ -- then tv = [(tx.headD undef)]
      refine J.op (R.add64 (by omega)) ?_ -- @t18 binS .add 3 (.tmp 8) (.const (.int .i64 1)) (tx.tail.headD undef) (.int .i64 1)
      -- @again[(tv.headDundef),t18]
      refine J.done ⟨i + 1, ⟨hlt, fun j y hj hjt => ?_⟩, rfl, Imp.refl _, by omega⟩
      rcases Nat.lt_succ_iff_lt_or_eq.1 hj with hj | rfl
      · exact hall j y hj hjt
      · rw [hx] at hjt; cases hjt; exact hct16
  · skip
    refine J.iteF ?_
    refine J.done ⟨fun _ => ?_, fun h => absurd rfl h⟩ -- exit [(tx.headD undef)]
    -- @ret[(.int.i64(-1))]
    try rw [trows_len] at ht9
    exact J.done (RetQ.e1 (by rw [findI_none (fun j y hj => hall j y (by have := (List.getElem?_eq_some_iff.1 hj).1; omega) hj)]))

/-- damper/drill.Start -/
theorem s31 (a : Option Addr) (m c : Nat) (v : Value) (i0 i1 i2 i3 i4 i5 : Int) (l : List TRow) :
    FnE Try.prog 31 [.agg [.slice a m c, v, .int .i64 i0, .int .i64 i1, .int .i64 i2, .int .i64 i3, .int .i64 i4, .int .i64 i5].toArray] (fun w => RdS w v 2 (trows l)) (.tuple #[.int .i64 (startAt l).1, .bool (startAt l).2]) := by
  refine fn_of_J (cx := cx31) hmix Try.func31 (by kernel_rfl) (eq31 _) fun w hw => ?_
  have hS : ∀ H, SeeS ⟨Try.prog, w, footOf []⟩ H v 2 (trows l) := fun H => SeeS.ofW0 hw trows_ne
  refine J.boxA fun bt1 => ?_
  refine J.op fa53_1 ?_
  refine J.op (R.ld o49 (by with_reducible repeat (first | exact Pick.here | apply Pick.there)) rfl) ?_ -- @t6 vS (Instr.loadAt 49 t5)
  refine J.callE en67 (s67 _ _) rfl (by first | exact hS _ | apply_assumption) ?_ -- @t7 callS (.func (.func 67) #[] #[]) [t6, (.func (.func 68) #[] #[])]
  refine J.opD R.lss (fun ht9 => ?_) (fun ht9 => ?_) -- @t9 binS .lss 3 (.tmp 8) (.const (.int .i64 0)) t7 (.int .i64 0)
  · skip
    refine J.iteT ?_
    -- @ret[(.int.i640),(.boolfalse)]
    exact J.done (RetQ.e2 (by rw [startAt_neg ht9]))
  · skip
    refine J.iteF ?_
    refine J.op fa53_1 ?_
    refine J.op (R.ld o49 (by with_reducible repeat (first | exact Pick.here | apply Pick.there)) rfl) ?_ -- @t11 vS (Instr.loadAt 49 t10)
    obtain ⟨i, x, hx, he, hst⟩ := startAt_pos ht9
    rw [he]
    refine J.ixW sl49 hS (by omega) (trows_get hx) fun b o hkt13 => ?_ -- @t13 ix t11 t7
    refine J.op fa138_0 ?_
    refine J.op (R.ldK0 o2 (hkt13 _)) ?_ -- @t15 vS (Instr.loadAt 2 t14)
    -- @ret[t15,(.booltrue)]
    exact J.done (RetQ.e2 (by rw [hst]))

/-- damper/damperlaw37.alive -/
theorem s23  :
    FnE Try.prog 23 [] (fun _ => True) (.bool true) := by
  refine fn_of_J (cx := cx23) hmix Try.func23 (by kernel_rfl) (eq23) fun w hw => ?_
  refine J.callT en57 (s57 1 (by decide)) rfl (fun _ _ _ => trivial) Take.nil (fun v es hv => ?_)
  obtain ⟨a, m, c, g, rfl, rfl⟩ := hv
  simp only [List.cons_append, List.nil_append] -- @t4 callS (.func (.func 57) #[] #[]) [(.int .i64 1)]
  refine J.callE en31 (s31 _ _ _ _ _ _ _ _ _ _ plainRows) rfl (SeeS.cells (by with_reducible repeat (first | exact Pick.here | apply Pick.there)) rfl (by decide) (by intro i l hi j u hj; rcases i with _ | _ | _ | i <;> simp [trows, plainRows] at hi <;> subst hi <;> rcases j with _ | _ | j <;> simp [TRow.cells] at hj <;> subst hj <;> rfl)) ?_ -- @t5 callS (.func (.func 31) #[] #[]) [t4]
  refine J.op (R.ext rfl) ?_ -- @t6 vS (Instr.extract t5 0)
  refine J.op (R.ext rfl) ?_ -- @t7 vS (Instr.extract t5 1)
  refine J.bindB (True) ?_ (fun hbtv => ?_) (fun hbtv => ?_) -- @tv
  · skip
    refine J.callT en24 (s24 1) rfl (fun _ _ _ => trivial) Take.nil (fun v es hv => ?_)
    obtain ⟨b8, rfl, rfl⟩ := hv
    simp only [List.cons_append, List.nil_append] -- @t8 callS (.func (.func 24) #[] #[]) [(.int .u64 1)]
    refine J.callT en27 (s27 _ _ _) rfl (fun _ _ _ => trivial) (Take.cons (by (try dsimp only); repeat (first | (with_reducible exact Out.here) | ((with_reducible refine Out.cells ?_); first | rfl | (simp; done)) | ((with_reducible refine Out.row ?_); first | rfl | (simp; done)) | (with_reducible apply Out.there))) Take.nil) (fun v es ht9 => ?_)
    obtain ⟨rfl, rfl⟩ := ht9
    simp only [List.cons_append, List.nil_append] -- @t9 callS (.func (.func 27) #[] #[]) [t8, (.int .i64 10)]
    refine J.opDT R.eql (by decide) ?_ -- @t10
    refine J.gopT rfl ?_
    refine J.op R.pure ?_
    refine J.gopT rfl ?_
    refine J.opDT R.eql (by decide) ?_ -- @t13
    refine J.op R.pickT ?_ -- @t14 pickS t10 t13 (.bool false)
    refine J.gopT rfl ?_
    refine J.op R.pure ?_
    refine J.op R.pickT ?_ -- @t17 pickS t14 t16 (.bool false)
    exact J.imp (Imp.take (by (try dsimp only); repeat (first | exact Has.nil | refine Has.cons (by repeat (first | (with_reducible exact Out.here) | ((with_reducible refine Out.cells ?_); first | rfl | (simp; done)) | ((with_reducible refine Out.row ?_); first | rfl | (simp; done)) | (with_reducible apply Out.there))) ?_))) (J.done ⟨rfl, rfl, rfl⟩) -- @leaf[t17]
  · skip
    -- @ret[(tv.headDundef)]
    exact J.done (RetQ.ge (.tmp (.nil)) (by first | rfl | (simp [mkRes, *]; done) | (simp_all [mkRes]; done) | (simp_all [mkRes]; first | omega | (rw [decide_eq_false_iff_not]; omega) | (rw [decide_eq_true_iff]; omega)) | (simp only [mkRes]; (repeat' split) <;> first | rfl | omega | (simp_all; done) | (simp_all; omega))))
  · exact absurd trivial hbtv
end Go.Proofs.Ytipgdalebkhgpaa
