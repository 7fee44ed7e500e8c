/-
  Contracts of functions.
-/
import Derived.Test.YtipgdalebkhgpaaTerms1
import Derived.Test.YtipgdalebkhgpaaTerms2
import Derived.Test.YtipgdalebkhgpaaTab
import Derived.Test.YtipgdalebkhgpaaO4
import Derived.Test.YtipgdalebkhgpaaModSteps
set_option maxRecDepth 100000
set_option maxHeartbeats 4000000
set_option linter.unusedVariables false
set_option linter.unusedSimpArgs false
namespace Go.Proofs.Ytipgdalebkhgpaa
open Go Go.RowKit Fw
/-- (*damper/drill.Dice).other -/
theorem s64 (b k : Nat) (x : Int) (x0 y0 : Value) (c : Cfg) (kind i t : Int) (hc : (cfgFault c).1 = 0) (hi : 0 ≤ i ∧ i ≤ 600) :
    FnT Try.prog 64 [.pointer (some ⟨b, 0, none⟩), .agg (c.cells x0 y0).toArray, .int .i64 kind, .int .i64 i, .int .i64 t] (fun w => RdF w x0 16 (syms c.syms) (footOf [Ent.cells b [.int .u64 (dn (k) x)] 119])) [Ent.cells b [.int .u64 (dn (k) x)] 119] (fun v es => ∃ a n cc, v = .agg (stpC (othM k c kind i x t) (.slice a n cc)).toArray ∧ es = [Ent.cells b [.int .u64 (dn (k + 1) x)] 119, Ent.row (.slice a n cc) 1 (u8s ((othM k c kind i x t).fr)) 5]) := by
  refine fn_of_J (cx := cx64) hmix Try.func64 (by kernel_rfl) (eq64 _ _ _ _ _) fun w hw => ?_
  have hX : ∀ H, SeeS ⟨Try.prog, w, footOf [Ent.cells b [.int .u64 (dn (k) x)] 119]⟩ H x0 16 (syms c.syms) := fun H => SeeS.ofF hw syms_ne
  obtain ⟨s0, h00⟩ := get_ex (l := c.syms) (i := 0) (by have := clen hc; omega)
  have hs0 : symAt c 0 = s0 := by simp [symAt, h00]
  have hsg := syms_get h00
  obtain ⟨hg, hr, -⟩ := sym_range (sym_ok hc h00)
  have hix := index_range hc
  have hq : c.index.tdiv 100 = c.index / 100 := Int.tdiv_eq_ediv_of_nonneg (by omega)
  have r3 := th_range (k := k) (x := x) (n := 3) (by decide)
  have ri := th_range (k := k) (x := x) (n := i + 1) (by omega)
  have r25 := th_range (k := k) (x := x) (n := 25) (by decide)
  have r5 := th_range (k := k) (x := x) (n := 5) (by decide)
  have m25 := mul_band (g := c.index.tdiv 100) (m := 24) (by omega) (show 0 ≤ th (k) x 25 ∧ th (k) x 25 ≤ 24 by omega)
  have m5 := mul_band (g := s0.grid) (m := 4) (by omega) (show 0 ≤ th (k) x 5 ∧ th (k) x 5 ≤ 4 by omega)
  refine J.boxA fun bt6 => ?_
  refine J.alloc z132 fun bt10 => ?_
  refine J.op fa53_0 ?_
  refine J.op (R.ld o48 (by with_reducible repeat (first | exact Pick.here | apply Pick.there)) rfl) ?_ -- @t15 vS (Instr.loadAt 48 t14)
  refine J.ixW sl48 hX (by omega) hsg fun bq oq hkt16 => ?_ -- @t16 ix t15 (.int .i64 0)
  refine J.op (R.ldKA ag123 (hkt16 _) rfl) ?_ -- @t17 vS (Instr.loadAt 123 t16)
  refine J.alloc z123 fun bt11 => ?_
  refine J.stSA sz123 (by with_reducible repeat (first | exact Pick.here | apply Pick.there)) rfl (Nat.le_of_ble_eq_true rfl) rfl (cs' := s0.cells) rfl ?_ -- @tu uS (Instr.storeAt 123 t11 t17)
  refine J.bind ?_ -- @tv_1 bind tv_1 ([])
  refine J.block ?_
  refine J.opD R.lss (fun ht20 => ?_) (fun ht20 => ?_) -- @t20 binS .lss 2 (.tmp 19) (.const (.int .i64 8)) a4 (.int .i64 8)
  · skip
    refine J.iteT ?_
    refine J.callT en27 (Next_pos b x 3 (k) (by decide)) rfl (fun _ _ _ => trivial) (Take.cons (by (try dsimp only); repeat (first | (with_reducible exact Out.here) | ((with_reducible refine Out.cells ?_); first | rfl | (simp; done)) | ((with_reducible refine Out.row ?_); first | rfl | (simp; done)) | (with_reducible apply Out.there))) Take.nil) (fun v es hv => ?_)
    obtain ⟨rfl, rfl⟩ := hv
    simp only [List.cons_append, List.nil_append] -- @t22 callS (.func (.func 27) #[] #[]) [a0, (.int .i64 3)]
    refine J.op (R.add64 (by omega)) ?_ -- @t23 binS .add 2 (.tmp 22) (.const (.int .i64 1)) t22 (.int .i64 1)
    refine J.op bd132_0_2 ?_ -- @t24 vS (Instr.build 132 #[(0, (.int .i64 2)), (2, t23)])
    refine J.stSA sz132 (by with_reducible repeat (first | exact Pick.here | apply Pick.there)) rfl (Nat.le_of_ble_eq_true rfl) rfl (cs' := stpC ⟨2, 0, th (k) x 3 + 1, []⟩ (.slice none 0 0)) rfl ?_ -- @tu_1 uS (Instr.storeAt 132 t10 t24)
    have ho : othM k c kind i x t = ⟨2, 0, th (k) x 3 + 1, []⟩ := if_pos ht20
    refine J.nilRow (sz := 1) (E := 5) ?_
    -- @ret[t10]
    refine J.done (RetQ.gt (es := [Ent.cells b [.int .u64 (dn (k + 1) x)] 119, Ent.row (.slice none 0 0) 1 (u8s ([])) 5]) (.cellA ag132 (by with_reducible repeat (first | exact Pick.here | apply Pick.there)) rfl (.nil)) ?_ ?_)
    · exact (by (try dsimp only); repeat (first | exact Has.nil | refine Has.cons (by repeat (first | (with_reducible exact Out.here) | ((with_reducible refine Out.cells ?_); first | rfl | (simp; done)) | ((with_reducible refine Out.row ?_); first | rfl | (simp; done)) | (with_reducible apply Out.there))) ?_))
    · exact ⟨_, _, _, by rw [ho]; rfl, by rw [ho]⟩
  · skip
    refine J.iteF ?_
    refine J.opD R.eql (fun ht27 => ?_) (fun ht27 => ?_) -- @t27 binS .eql 2 (.tmp 26) (.const (.int .i64 8)) a4 (.int .i64 8)
    · skip
      refine J.iteT ?_
      refine J.op (R.add64 (by omega)) ?_ -- @t31 binS .add 3 (.tmp 30) (.const (.int .i64 1)) a3 (.int .i64 1)
      refine J.callT en27 (Next_pos b x (i + 1) (k) (by omega)) rfl (fun _ _ _ => trivial) (Take.cons (by (try dsimp only); repeat (first | (with_reducible exact Out.here) | ((with_reducible refine Out.cells ?_); first | rfl | (simp; done)) | ((with_reducible refine Out.row ?_); first | rfl | (simp; done)) | (with_reducible apply Out.there))) Take.nil) (fun v es hv => ?_)
      obtain ⟨rfl, rfl⟩ := hv
      simp only [List.cons_append, List.nil_append] -- @t32 callS (.func (.func 27) #[] #[]) [a0, t31]
      refine J.op (R.add64 (by omega)) ?_ -- @t33 binS .add 2 (.tmp 32) (.const (.int .i64 1)) t32 (.int .i64 1)
      refine J.op bd62_0_2 ?_ -- @t34 vS (Instr.build 62 #[(0, (.int .i64 2)), (2, t33)])
      refine J.callT en65 (s65 (cancelC (th k x (i + 1) + 1)) (cancel_ok (by omega))) rfl (fun _ _ _ => trivial) Take.nil (fun v es ht35 => ?_)
      obtain ⟨at35, nt35, ct35, rfl, rfl⟩ := ht35
      simp only [List.cons_append, List.nil_append] -- @t35 callS (.func (.func 65) #[] #[]) [t34]
      refine J.op (R.ext rfl) ?_ -- @t36 vS (Instr.extract t35 0)
      refine J.op (R.ext rfl) ?_ -- @t37 vS (Instr.extract t35 1)
      refine J.alloc z132 fun bt12 => ?_
      refine J.stSA sz132 (by with_reducible repeat (first | exact Pick.here | apply Pick.there)) rfl (Nat.le_of_ble_eq_true rfl) rfl (cs' := stpC ⟨1, 0, 0, cmdB (cancelC (th (k) x (i + 1) + 1))⟩ (.slice at35 nt35 ct35)) rfl ?_ -- @tu_2 uS (Instr.storeAt 132 t12 t36)
      refine J.op (R.ldA ag132 (by with_reducible repeat (first | exact Pick.here | apply Pick.there)) rfl) ?_ -- @t38 vS (Instr.loadAt 132 t12)
      refine J.stSA sz132 (by with_reducible repeat (first | exact Pick.here | apply Pick.there)) rfl (Nat.le_of_ble_eq_true rfl) rfl (cs' := stpC ⟨1, 0, 0, cmdB (cancelC (th (k) x (i + 1) + 1))⟩ (.slice at35 nt35 ct35)) rfl ?_ -- @tu_3 uS (Instr.storeAt 132 t10 t38)
      have ho : othM k c kind i x t = ⟨1, 0, 0, cmdB (cancelC (th (k) x (i + 1) + 1))⟩ := by unfold othM; rw [if_neg ht20, if_pos ht27]
      -- @ret[t10]#2
      refine J.done (RetQ.gt (es := [Ent.cells b [.int .u64 (dn (k + 1) x)] 119, Ent.row (.slice at35 nt35 ct35) 1 (u8s (cmdB (cancelC (th k x (i + 1) + 1)))) 5]) (.cellA ag132 (by with_reducible repeat (first | exact Pick.here | apply Pick.there)) rfl (.nil)) ?_ ?_)
      · exact (by (try dsimp only); repeat (first | exact Has.nil | refine Has.cons (by repeat (first | (with_reducible exact Out.here) | ((with_reducible refine Out.cells ?_); first | rfl | (simp; done)) | ((with_reducible refine Out.row ?_); first | rfl | (simp; done)) | (with_reducible apply Out.there))) ?_))
      · exact ⟨_, _, _, by rw [ho]; rfl, by rw [ho]⟩
    · skip
      refine J.iteF ?_
      refine J.bindB (kind = 4 ∧ i.tmod 7 = 0) ?_ (fun hbtv => ?_) (fun hbtv => ?_) -- @tv
      · skip
        refine J.opD R.eql (fun ht41 => ?_) (fun ht41 => ?_) -- @t41 binS .eql 3 (.tmp 40) (.const (.int .i64 4)) a2 (.int .i64 4)
        · skip
          refine J.gopT rfl ?_
          refine J.op R.pure ?_
          refine J.gopT rfl ?_
          refine J.op (R.rem (by first | decide | assumption | omega)) ?_ -- @t44 binS .rem 3 (.tmp 43) (.const (.int .i64 7)) t43 (.int .i64 7)
          refine J.gopT rfl ?_
          refine J.op R.eql ?_ -- @t45 binS .eql 3 (.tmp 44) (.const (.int .i64 0)) t44 (.int .i64 0)
          refine J.op R.pickT ?_ -- @t46 pickS t41 t45 (.bool false)
          exact J.done ⟨rfl, by simp only [List.cons.injEq, Value.bool.injEq, and_true]; first | (symm; rw [decide_eq_true_iff]; omega) | (symm; rw [decide_eq_false_iff_not]; omega) | exact decide_eq_decide.2 (by omega), rfl⟩ -- @leaf[t46]
        · skip
          refine J.gopF rfl ?_
          refine J.gopF rfl ?_
          refine J.gopF rfl ?_
          refine J.op R.pickF ?_ -- @t46 pickS t41 t45 (.bool false)
          exact J.done ⟨rfl, by simp only [List.cons.injEq, Value.bool.injEq, and_true]; first | (symm; rw [decide_eq_true_iff]; omega) | (symm; rw [decide_eq_false_iff_not]; omega) | exact decide_eq_decide.2 (by omega), rfl⟩ -- @leaf[t46]
      · skip
        refine J.iteT ?_
        refine J.draw ?_
        refine J.op fa53_2 ?_
        refine J.op (R.ld o2 (by with_reducible repeat (first | exact Pick.here | apply Pick.there)) rfl) ?_ -- @t48 vS (Instr.loadAt 2 t47)
        refine J.op fa53_2 ?_
        refine J.op (R.ld o2 (by with_reducible repeat (first | exact Pick.here | apply Pick.there)) rfl) ?_ -- @t50 vS (Instr.loadAt 2 t49)
        refine J.op (R.asI (R.quo (by decide)) (v := c.index.tdiv 100) (i64_in _ (by omega))) ?_ -- @t51 binS .quo 2 (.tmp 50) (.const (.int .i64 100)) t50 (.int .i64 100)
        refine J.callT en27 (Next_pos b x 25 (k) (by decide)) rfl (fun _ _ _ => trivial) (Take.cons (by (try dsimp only); repeat (first | (with_reducible exact Out.here) | ((with_reducible refine Out.cells ?_); first | rfl | (simp; done)) | ((with_reducible refine Out.row ?_); first | rfl | (simp; done)) | (with_reducible apply Out.there))) Take.nil) (fun v es hv => ?_)
        obtain ⟨rfl, rfl⟩ := hv
        simp only [List.cons_append, List.nil_append] -- @t53 callS (.func (.func 27) #[] #[]) [a0, (.int .i64 25)]
        refine J.chkR (R.asI (R.quo (by decide)) (v := c.index.tdiv 100) (i64_in _ (by omega))) ?_ -- @chk:t51 binS .quo 2 (.tmp 50) (.const (.int .i64 100)) t50 (.int .i64 100)
        refine J.chkR (R.ld o2 (by with_reducible repeat (first | exact Pick.here | apply Pick.there)) rfl) ?_ -- @chk:t50 vS (Instr.loadAt 2 t49)
        refine J.chkR fa53_2 ?_ -- @chk:t49 vS (Instr.fieldAt 53 t6 2)
        refine J.chkR (R.ld o2 (by with_reducible repeat (first | exact Pick.here | apply Pick.there)) rfl) ?_ -- @chk:t48 vS (Instr.loadAt 2 t47)
        refine J.chkR fa53_2 ?_ -- @chk:t47 vS (Instr.fieldAt 53 t6 2)
        refine J.op (R.asI R.mul (v := c.index.tdiv 100 * th k x 25) (i64_in _ (by omega))) ?_ -- @t54 binS .mul 2 (.tmp 51) (.tmp 53) t51 t53
        refine J.op (R.sub64 (by omega)) ?_ -- @t55 binS .sub 2 (.tmp 48) (.tmp 54) t48 t54
        refine J.op R.maxI ?_ -- @t56 bltS .max #[2, 2] 2 #[false, true] [t55, (.int .i64 1)]
        refine J.op bd132_0_2 ?_ -- @t57 vS (Instr.build 132 #[(0, (.int .i64 3)), (2, t56)])
        refine J.stSA sz132 (by with_reducible repeat (first | exact Pick.here | apply Pick.there)) rfl (Nat.le_of_ble_eq_true rfl) rfl (cs' := stpC ⟨3, 0, max (c.index - c.index.tdiv 100 * th (k) x 25) 1, []⟩ (.slice none 0 0)) rfl ?_ -- @tu_4 uS (Instr.storeAt 132 t10 t57)
        have ho : othM k c kind i x t = ⟨3, 0, max (c.index - c.index.tdiv 100 * th (k) x 25) 1, []⟩ := by unfold othM; rw [if_neg ht20, if_neg ht27, if_pos hbtv]
        refine J.nilRow (sz := 1) (E := 5) ?_
        -- @ret[t10]#3
        refine J.done (RetQ.gt (es := [Ent.cells b [.int .u64 (dn (k + 1) x)] 119, Ent.row (.slice none 0 0) 1 (u8s ([])) 5]) (.cellA ag132 (by with_reducible repeat (first | exact Pick.here | apply Pick.there)) rfl (.nil)) ?_ ?_)
        · exact (by (try dsimp only); repeat (first | exact Has.nil | refine Has.cons (by repeat (first | (with_reducible exact Out.here) | ((with_reducible refine Out.cells ?_); first | rfl | (simp; done)) | ((with_reducible refine Out.row ?_); first | rfl | (simp; done)) | (with_reducible apply Out.there))) ?_))
        · exact ⟨_, _, _, by rw [ho]; rfl, by rw [ho]⟩
      · skip
        refine J.iteF ?_
        refine J.done ?_ -- then tv_1 = []
        refine J.draw ?_
        refine J.op fa123_1 ?_
        refine J.op (R.ld o2 (by with_reducible repeat (first | exact Pick.here | apply Pick.there)) rfl) ?_ -- @t59 vS (Instr.loadAt 2 t58)
        refine J.op fa123_0 ?_
        refine J.op (R.ld o2 (by with_reducible repeat (first | exact Pick.here | apply Pick.there)) rfl) ?_ -- @t61 vS (Instr.loadAt 2 t60)
        refine J.callT en27 (Next_pos b x 5 (k) (by decide)) rfl (fun _ _ _ => trivial) (Take.cons (by (try dsimp only); repeat (first | (with_reducible exact Out.here) | ((with_reducible refine Out.cells ?_); first | rfl | (simp; done)) | ((with_reducible refine Out.row ?_); first | rfl | (simp; done)) | (with_reducible apply Out.there))) Take.nil) (fun v es hv => ?_)
        obtain ⟨rfl, rfl⟩ := hv
        simp only [List.cons_append, List.nil_append] -- @t63 callS (.func (.func 27) #[] #[]) [a0, (.int .i64 5)]
        refine J.chkR (R.ld o2 (by with_reducible repeat (first | exact Pick.here | apply Pick.there)) rfl) ?_ -- @chk:t61 vS (Instr.loadAt 2 t60)
        refine J.chkR fa123_0 ?_ -- @chk:t60 vS (Instr.fieldAt 123 t11 0)
        refine J.chkR (R.ld o2 (by with_reducible repeat (first | exact Pick.here | apply Pick.there)) rfl) ?_ -- @chk:t59 vS (Instr.loadAt 2 t58)
        refine J.chkR fa123_1 ?_ -- @chk:t58 vS (Instr.fieldAt 123 t11 1)
        refine J.op (R.asI R.mul (v := s0.grid * th k x 5) (i64_in _ (by omega))) ?_ -- @t64 binS .mul 2 (.tmp 61) (.tmp 63) t61 t63
        refine J.op (R.sub64 (by omega)) ?_ -- @t65 binS .sub 2 (.tmp 59) (.tmp 64) t59 t64
        refine J.op R.maxI ?_ -- @t66 bltS .max #[2, 2] 2 #[false, true] [t65, (.int .i64 0)]
        refine J.op bd132_0_2 ?_ -- @t67 vS (Instr.build 132 #[(0, (.int .i64 4)), (2, t66)])
        refine J.stSA sz132 (by with_reducible repeat (first | exact Pick.here | apply Pick.there)) rfl (Nat.le_of_ble_eq_true rfl) rfl (cs' := stpC ⟨4, 0, max (s0.ref - s0.grid * th (k) x 5) 0, []⟩ (.slice none 0 0)) rfl ?_ -- @tu_5 uS (Instr.storeAt 132 t10 t67)
        have ho : othM k c kind i x t = ⟨4, 0, max (s0.ref - s0.grid * th (k) x 5) 0, []⟩ := by unfold othM; rw [if_neg ht20, if_neg ht27, if_neg hbtv, hs0]
        refine J.nilRow (sz := 1) (E := 5) ?_
        -- @ret[t10]#4
        refine J.done (RetQ.gt (es := [Ent.cells b [.int .u64 (dn (k + 1) x)] 119, Ent.row (.slice none 0 0) 1 (u8s ([])) 5]) (.cellA ag132 (by with_reducible repeat (first | exact Pick.here | apply Pick.there)) rfl (.nil)) ?_ ?_)
        · exact (by (try dsimp only); repeat (first | exact Has.nil | refine Has.cons (by repeat (first | (with_reducible exact Out.here) | ((with_reducible refine Out.cells ?_); first | rfl | (simp; done)) | ((with_reducible refine Out.row ?_); first | rfl | (simp; done)) | (with_reducible apply Out.there))) ?_))
        · exact ⟨_, _, _, by rw [ho]; rfl, by rw [ho]⟩

/-- damper/damperref37.Start -/
theorem s32 (a : Option Addr) (m c : Nat) (v : Value) (i0 i1 i2 i3 i4 i5 : Int) (l : List TRow) :
    FnE Try.prog 32 [.agg [.slice a m c, v, .int .i64 i0, .int .i64 i1, .int .i64 i2, .int .i64 i3, .int .i64 i4, .int .i64 i5].toArray] (fun w => RdS w v 2 (trows l)) (.tuple #[.int .i64 (startAt l).1, .bool (startAt l).2]) := by
  refine fn_of_J (cx := cx32) hmix Try.func32 (by kernel_rfl) (eq32 _) fun w hw => ?_
  have hS : ∀ H, SeeS ⟨Try.prog, w, footOf []⟩ H v 2 (trows l) := fun H => SeeS.ofW0 hw trows_ne
  have hm := hw.le
  simp only [trows_len, maxLen] at hm
  refine J.boxA fun bt1 => ?_
  refine J.bind ?_ -- @tv_1 bind tv_1 ([2, 3])
  refine J.block ?_
  -- @tx loop [(.int .i64 0), (.bool false), (.int .i64 0)]
  refine J.loopH (α := Nat) (fun i => i ≤ l.length ∧ ∀ j y, j < i → l[j]? = some y → isCont y = false) (fun i => [.int .i64 0, .bool false, .int .i64 i]) (fun i => l.length - i) 0 ⟨Nat.zero_le _, fun j y h => absurd h (Nat.not_lt_zero j)⟩ rfl ?_
  rintro i ⟨hi, hall⟩
  try simp only [List.headD_cons, List.tail_cons]
  refine J.op fa53_1 ?_
  refine J.op (R.ld o49 (by with_reducible repeat (first | exact Pick.here | apply Pick.there)) rfl) ?_ -- @t7 vS (Instr.loadAt 49 t6)
  refine J.op (R.lenN sl49 (hS _) trows_len) ?_ -- @t8 bltS .len #[49] 3 #[false] [t7]
  refine J.opD R.lss (fun ht9 => ?_) (fun ht9 => ?_) -- @t9 binS .lss 3 (.tmp 5) (.tmp 8) (tx.tail.tail.headD undef) t8
  · skip
    refine J.iteT ?_
    refine J.bind ?_ -- @tv bind tv ([2, 3])
    refine J.block ?_
    refine J.op fa53_1 ?_
    refine J.op (R.ld o49 (by with_reducible repeat (first | exact Pick.here | apply Pick.there)) rfl) ?_ -- @t13 vS (Instr.loadAt 49 t12)
    obtain ⟨y, hx⟩ := get_ex (l := l) (i := i) (by omega)
    refine J.ixW sl49 hS (by omega) (trows_get hx) fun bq oq hkt15 => ?_ -- @t15 ix t13 (tx.tail.tail.headD undef)
    refine J.op fa138_1 ?_
    refine J.op (R.ldK o3 (hkt15 _) rfl) ?_ -- @t17 vS (Instr.loadAt 3 t16)
    refine J.opD R.eql (fun ht18 => ?_) (fun ht18 => ?_) -- @t18 binS .eql 3 (.tmp 17) (.const (.int .i64 2)) t17 (.int .i64 2)
    · skip
      refine J.iteT ?_
      refine J.op fa53_1 ?_
      refine J.op (R.ld o49 (by with_reducible repeat (first | exact Pick.here | apply Pick.there)) rfl) ?_ -- @t20 vS (Instr.loadAt 49 t19)
      refine J.ixW sl49 hS (by omega) (trows_get hx) fun bp op hkt22 => ?_ -- @t22 ix t20 (tx.tail.tail.headD undef)
      refine J.op fa138_0 ?_
      refine J.op (R.ldK0 o2 (hkt22 _)) ?_ -- @t24 vS (Instr.loadAt 2 t23)
      -- @ret[t24,(.booltrue)]
      exact J.done (RetQ.ge (.tmp (.tmp (.nil))) (by rw [startAt_at hx (by unfold isCont; rw [decide_eq_true_iff]; exact ht18) hall]; rfl))
    · skip
      refine J.iteF ?_
      refine J.done ?_ -- then tv = [(tx.headD undef), (tx.tail.headD undef)]
      refine J.op (R.add64 (by omega)) ?_ -- @t11 binS .add 3 (.tmp 10) (.const (.int .i64 1)) (tx.tail.tail.headD undef) (.int .i64 1)
      -- @again[(tv.headDundef),(tv.tail.headDundef),t11]
      refine J.done ⟨i + 1, ⟨by omega, fun j z hj hjt => ?_⟩, rfl, Imp.refl _, by omega⟩
      rcases Nat.lt_succ_iff_lt_or_eq.1 hj with hj | rfl
      · exact hall j z hj hjt
      · rw [hx] at hjt; cases hjt; unfold isCont; rw [decide_eq_false_iff_not]; exact ht18
  · skip
    refine J.iteF ?_
    refine J.done ⟨fun _ => ?_, fun h => absurd rfl h⟩ -- exit [(tx.headD undef), (tx.tail.headD undef)]
    -- @ret[(.int.i640),(.boolfalse)]
    exact J.done (RetQ.ge (.tmp (.tmp (.nil))) (by rw [startAt_no (fun j y hj => hall j y (by have := (List.getElem?_eq_some_iff.1 hj).1; omega) hj)]; rfl))
end Go.Proofs.Ytipgdalebkhgpaa
