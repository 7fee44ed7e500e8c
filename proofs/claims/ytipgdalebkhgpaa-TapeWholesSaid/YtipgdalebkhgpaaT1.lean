/-
  Contracts of functions.
-/
import Derived.Test.YtipgdalebkhgpaaTerms1
import Derived.Test.YtipgdalebkhgpaaTerms2
import Derived.Test.YtipgdalebkhgpaaTab
import Derived.Test.YtipgdalebkhgpaaModTape
import Derived.Test.YtipgdalebkhgpaaV1
import Derived.Test.YtipgdalebkhgpaaB2
import Derived.Test.YtipgdalebkhgpaaG1
set_option maxRecDepth 100000
set_option maxHeartbeats 4000000
set_option linter.unusedVariables false
set_option linter.unusedSimpArgs false
namespace Go.Proofs.Ytipgdalebkhgpaa
open Go Go.RowKit Fw
/-- damper/fix.Qty$1 -/
theorem s114 (b : Nat) (q lo hi : Int) :
    FnE Try.prog 114 [.int .i64 lo, .int .i64 hi, .pointer (some ⟨b, 0, none⟩)] (fun w => Blk w b [.int .i64 q] 2) (.bool (decide (lo ≤ q ∧ q ≤ hi))) := by
  refine fn_of_J (cx := cx114) hmix Try.func114 (by kernel_rfl) (eq114 _ _ _) fun w hw => ?_
  refine J.bind ?_ -- @tv bind tv ([5])
  refine J.op (R.ldBk hw not_foot o2 rfl) ?_ -- @t6 vS (Instr.loadAt 2 a2)
  refine J.opD R.geq (fun ht8 => ?_) (fun ht8 => ?_) -- @t8 binS .geq 2 (.tmp 6) (.tmp 7) t6 a0
  · skip
    refine J.gopT rfl ?_
    refine J.op (R.ldBk hw not_foot o2 rfl) ?_ -- @t10 vS (Instr.loadAt 2 a2)
    refine J.gopT rfl ?_
    refine J.op R.pure ?_
    refine J.gopT rfl ?_
    refine J.op R.leq ?_ -- @t12 binS .leq 2 (.tmp 10) (.tmp 11) t10 t11
    refine J.op R.pickT ?_ -- @t13 pickS t8 t12 (.bool false)
    refine J.done ?_ -- then tv = [t13]
    -- @ret[(tv.headDundef)]
    exact J.done (RetQ.ge (.tmp (.nil)) (by first | rfl | (simp [mkRes, *]; done) | (simp_all [mkRes]; done) | (simp_all [mkRes]; first | omega | (rw [decide_eq_false_iff_not]; omega) | (rw [decide_eq_true_iff]; omega)) | (simp only [mkRes]; (repeat' split) <;> first | rfl | omega | (simp_all; done) | (simp_all; omega))))
  · skip
    refine J.gopF rfl ?_
    refine J.gopF rfl ?_
    refine J.gopF rfl ?_
    refine J.op R.pickF ?_ -- @t13 pickS t8 t12 (.bool false)
    refine J.done ?_ -- then tv = [t13]
    -- @ret[(tv.headDundef)]
    exact J.done (RetQ.ge (.tmp (.nil)) (by first | rfl | (simp [mkRes, *]; done) | (simp_all [mkRes]; done) | (simp_all [mkRes]; first | omega | (rw [decide_eq_false_iff_not]; omega) | (rw [decide_eq_true_iff]; omega)) | (simp only [mkRes]; (repeat' split) <;> first | rfl | omega | (simp_all; done) | (simp_all; omega))))

/-- damper/fix.Qty -/
theorem s79 (q : Int) :
    FnE Try.prog 79 [.int .i64 q] (fun _ => True) (.int .i64 (qtyF q)) := by
  refine fn_of_J (cx := cx79) hmix Try.func79 (by kernel_rfl) (eq79 _) fun w hw => ?_
  refine J.box1 rfl fun bt1 => ?_
  refine J.callE en114 (s114 bt1 q 1 4294967296) rfl (fun _ _ hs => Blk.of (by with_reducible repeat (first | exact Pick.here | apply Pick.there)) hs) ?_ -- @t6 callS (.func (.func 114) #[] #[t1]) [(.int .i64 1), (.int .i64 4294967296)]
  refine J.opB R.not (fun ht7 => ?_) (fun ht7 => ?_) -- @t7 vS (Op.unary .not t6)
  · skip
    refine J.iteT ?_
    -- @ret[(.int.i649)]
    exact J.done (RetQ.ge (.tmp (.nil)) (by first | rfl | (simp [qtyF, mkRes, *]; done) | (simp_all [qtyF, mkRes]; done) | (simp_all [qtyF, mkRes]; first | omega | (rw [decide_eq_false_iff_not]; omega) | (rw [decide_eq_true_iff]; omega)) | (simp only [qtyF, mkRes]; (repeat' split) <;> first | rfl | omega | (simp_all; done) | (simp_all; omega))))
  · skip
    refine J.iteF ?_
    -- @ret[(.int.i640)]
    exact J.done (RetQ.ge (.tmp (.nil)) (by first | rfl | (simp [qtyF, mkRes, *]; done) | (simp_all [qtyF, mkRes]; done) | (simp_all [qtyF, mkRes]; first | omega | (rw [decide_eq_false_iff_not]; omega) | (rw [decide_eq_true_iff]; omega)) | (simp only [qtyF, mkRes]; (repeat' split) <;> first | rfl | omega | (simp_all; done) | (simp_all; omega))))

/-- damper/tape.counts$1 -/
theorem s77 (b b3 : Nat) (v : Value) (sym : Int) (l : List Msg) :
    IterOk Try.prog 77 [.pointer (some ⟨b, 0, none⟩), .pointer (some ⟨b3, 0, none⟩)] (yl (cts sym l)) 1 (fun w F => Blk w b [v] 22 ∧ Blk w b3 [.int .i64 sym] 3 ∧ RdF w v 9 (msgs l) F ∧ ¬ F b ∧ ¬ F b3) := by
  intro lo Lo w1 body I IX H0 hY h0 hB hsep hpre
  refine fn_of_J (Pre := fun w => w = w1) (H0 := rdy lo Lo :: H0) (R := fun v H1 => IterEnd lo Lo (yl (cts sym l)).length I IX H1) (cx := cx77) hmix Try.func77 (by kernel_rfl) (eq77 _ _ _) (fun w hw => ?_) w1 rfl hsep
  subst hw
  obtain ⟨hb, hb3, hv, hF, hF3⟩ := hpre
  have hS : ∀ H, SeeS ⟨Try.prog, w, footOf (rdy lo Lo :: H0)⟩ H v 9 (msgs l) := fun H => SeeS.ofF hv msgs_ne
  have hm := hv.1.le
  simp only [msgs_len, maxLen] at hm
  refine J.op (R.ldW o22 ((cell_block hb 0).trans rfl) hF) ?_ -- @t7 vS (Instr.loadAt 22 a1)
  refine J.op (R.lenN sl22 (hS _) msgs_len) ?_ -- @t8 bltS .len #[22] 3 #[false] [t7]
  refine J.bind ?_ -- @tv_3 bind tv_3 ([])
  refine J.block ?_
  -- @tx loop [(.int .i64 0)]
  refine J.loop (α := Nat × List Ent) (fun (i, Hk) => i ≤ l.length ∧ I ((l.take i).filter (cnt sym)).length Hk) (fun (i, _) => [.int .i64 i]) (fun (_, Hk) => rdy lo Lo :: Hk) (fun (i, _) => l.length - i) (0, H0) ⟨Nat.zero_le _, h0⟩ rfl (Imp.refl _) ?_
  rintro ⟨i, Hk⟩ ⟨hi, hI⟩
  dsimp only at hi hI ⊢
  try simp only [List.headD_cons, List.tail_cons]
  refine J.opD R.lss (fun ht10 => ?_) (fun ht10 => ?_) -- @t10 binS .lss 3 (.tmp 9) (.tmp 8) (tx.headD undef) t8
  · skip
    refine J.iteT ?_
    refine J.bind ?_ -- @tv_2 bind tv_2 ([])
    refine J.block ?_
    have hlt : i < l.length := by omega
    obtain ⟨x, hx⟩ := get_ex hlt
    refine J.ixWR sl22 hS (by omega) (msgs_get hx) fun bq oq hkt11 hR11 => ?_ -- @t11 ix t7 (tx.headD undef)
    refine J.op (R.ldKA ag46 (hkt11 _) rfl) ?_ -- @t12 vS (Instr.loadAt 46 t11)
    refine J.alloc z46 fun bt5 => ?_
    refine J.stW sz46 (by with_reducible repeat (first | exact Pick.here | apply Pick.there)) rfl rfl rfl ?_ -- @tu uS (Instr.storeAt 46 t5 t12)
    refine J.bindBH (x.kind = 3 ∧ x.sym = sym ∧ 0 ≤ x.tick) (Ent.cells bt5 x.cells 46 :: rdy lo Lo :: Hk) ?_ (fun hbtv => ?_) (fun hbtv => ?_) -- @tv
    · skip
      refine J.op fa46_0 ?_
      refine J.op (R.ld o3 (by with_reducible repeat (first | exact Pick.here | apply Pick.there)) rfl) ?_ -- @t14 vS (Instr.loadAt 3 t13)
      refine J.opD R.eql (fun ht15 => ?_) (fun ht15 => ?_) -- @t15 binS .eql 3 (.tmp 14) (.const (.int .i64 3)) t14 (.int .i64 3)
      · skip
        refine J.gopT rfl ?_
        refine J.op fa46_1 ?_
        refine J.gopT rfl ?_
        refine J.op (R.ld o3 (by with_reducible repeat (first | exact Pick.here | apply Pick.there)) rfl) ?_ -- @t18 vS (Instr.loadAt 3 t17)
        refine J.gopT rfl ?_
        refine J.op (R.ldW o3 ((cell_block hb3 0).trans rfl) hF3) ?_ -- @t19 vS (Instr.loadAt 3 a2)
        refine J.gopT rfl ?_
        refine J.opD R.eql (fun ht20 => ?_) (fun ht20 => ?_) -- @t20 binS .eql 3 (.tmp 18) (.tmp 19) t18 t19
        · skip
          refine J.op R.pickT ?_ -- @t21 pickS t15 t20 (.bool false)
          refine J.gopT rfl ?_
          refine J.op fa46_3 ?_
          refine J.gopT rfl ?_
          refine J.op (R.ld o2 (by with_reducible repeat (first | exact Pick.here | apply Pick.there)) rfl) ?_ -- @t24 vS (Instr.loadAt 2 t23)
          refine J.gopT rfl ?_
          refine J.op R.geq ?_ -- @t25 binS .geq 2 (.tmp 24) (.const (.int .i64 0)) t24 (.int .i64 0)
          refine J.op R.pickT ?_ -- @t26 pickS t21 t25 (.bool false)
          exact J.done ⟨rfl, by simp only [List.cons.injEq, Value.bool.injEq, and_true]; first | (symm; rw [decide_eq_true_iff]; omega) | (symm; rw [decide_eq_false_iff_not]; omega) | exact decide_eq_decide.2 (by omega), Imp.refl _⟩ -- @leaf[t26]
        · skip
          refine J.op R.pickT ?_ -- @t21 pickS t15 t20 (.bool false)
          refine J.gopF rfl ?_
          refine J.gopF rfl ?_
          refine J.gopF rfl ?_
          refine J.op R.pickF ?_ -- @t26 pickS t21 t25 (.bool false)
          exact J.done ⟨rfl, by simp only [List.cons.injEq, Value.bool.injEq, and_true]; first | (symm; rw [decide_eq_true_iff]; omega) | (symm; rw [decide_eq_false_iff_not]; omega) | exact decide_eq_decide.2 (by omega), Imp.refl _⟩ -- @leaf[t26]
      · skip
        refine J.gopF rfl ?_
        refine J.gopF rfl ?_
        refine J.gopF rfl ?_
        refine J.gopF rfl ?_
        refine J.op R.pickF ?_ -- @t21 pickS t15 t20 (.bool false)
        refine J.gopF rfl ?_
        refine J.gopF rfl ?_
        refine J.gopF rfl ?_
        refine J.op R.pickF ?_ -- @t26 pickS t21 t25 (.bool false)
        exact J.done ⟨rfl, by simp only [List.cons.injEq, Value.bool.injEq, and_true]; first | (symm; rw [decide_eq_true_iff]; omega) | (symm; rw [decide_eq_false_iff_not]; omega) | exact decide_eq_decide.2 (by omega), Imp.refl _⟩ -- @leaf[t26]
    · skip
      refine J.bind ?_ -- @tv_1 bind tv_1 ([45])
      refine J.gopT rfl ?_
      refine J.op fa46_6 ?_
      refine J.gopT rfl ?_
      refine J.op (R.ld o2 (by with_reducible repeat (first | exact Pick.here | apply Pick.there)) rfl) ?_ -- @t30 vS (Instr.loadAt 2 t29)
      refine J.gopT rfl ?_
      refine J.callE en78 (s78 _ _) rfl (fun _ _ _ => trivial) ?_ -- @t31 callS (.func (.func 78) #[] #[]) [t30, (.int .i64 1)]
      refine J.gopT rfl ?_
      refine J.opD R.eql (fun ht32 => ?_) (fun ht32 => ?_) -- @t32 binS .eql 25 (.tmp 31) (.const (.int .i64 0)) t31 (.int .i64 0)
      · skip
        refine J.op R.pickT ?_ -- @t33 pickS (tv.headD undef) t32 (.bool false)
        refine J.gopT rfl ?_
        refine J.op fa46_7 ?_
        refine J.gopT rfl ?_
        refine J.op (R.ld o2 (by with_reducible repeat (first | exact Pick.here | apply Pick.there)) rfl) ?_ -- @t36 vS (Instr.loadAt 2 t35)
        refine J.gopT rfl ?_
        refine J.callE en79 (s79 _) rfl (fun _ _ _ => trivial) ?_ -- @t37 callS (.func (.func 79) #[] #[]) [t36]
        refine J.gopT rfl ?_
        refine J.opD R.eql (fun ht38 => ?_) (fun ht38 => ?_) -- @t38 binS .eql 25 (.tmp 37) (.const (.int .i64 0)) t37 (.int .i64 0)
        · skip
          refine J.op R.pickT ?_ -- @t39 pickS t33 t38 (.bool false)
          refine J.gopT rfl ?_
          refine J.op R.pure ?_
          refine J.gopT rfl ?_
          refine J.op (R.ldA ag46 (by with_reducible repeat (first | exact Pick.here | apply Pick.there)) rfl) ?_ -- @t42 vS (Instr.loadAt 46 t5)
          refine J.gopT rfl ?_
          have hp1 := price_one.1 ht32
          have hq1 := qty_zero.1 ht38
          have hyes : cnt sym x = true := decide_eq_true ⟨hbtv.1, hbtv.2.1, hbtv.2.2, hp1.1, hp1.2, hq1.1, hq1.2⟩
          obtain ⟨hf1, hf2⟩ := filt_yes hx hyes
          refine J.yieldI (Hk := Hk) (Hr := [Ent.cells bt5 x.cells 46]) hY rfl hB (yl_get (l := cts sym l) hf1) rfl Take.past hI ?_ ?_ -- @t43 callS t41 [t42]
          · skip
            intro H2 hI2
            refine J.gopT rfl ?_
            refine J.op (v := .bool false) R.not ?_
            refine J.op R.pickT ?_ -- @t45 pickS t39 t44 (.bool false)
            refine J.done ?_ -- then tv_1 = [t45]
            refine J.iteF ?_
            refine J.done ?_ -- then tv_2 = []
            refine J.op (R.add64 (by omega)) ?_ -- @t46 binS .add 3 (.tmp 9) (.const (.int .i64 1)) (tx.headD undef) (.int .i64 1)
            -- @again[t46]
            exact J.done ⟨(i + 1, H2), ⟨hlt, by rw [hf2]; exact hI2⟩, rfl, Imp.sub (List.sublist_append_left _ _), by dsimp only; omega⟩
          · skip
            intro x2 H2 hx2 hI2
            refine J.gopT rfl ?_
            refine J.op (v := .bool true) R.not ?_
            refine J.op R.pickT ?_ -- @t45 pickS t39 t44 (.bool false)
            refine J.done ?_ -- then tv_1 = [t45]
            refine J.iteT ?_
            -- @ret[]
            refine J.imp (Imp.sub (List.sublist_append_left _ _)) ?_
            exact J.done ⟨rfl, _, fun _ _ => rfl, .inr ⟨x2, H2, hx2, .cons .here .nil, hI2⟩⟩
        · skip
          refine J.op R.pickT ?_ -- @t39 pickS t33 t38 (.bool false)
          refine J.gopF rfl ?_
          refine J.gopF rfl ?_
          refine J.gopF rfl ?_
          refine J.gopF rfl ?_
          refine J.op R.pickF ?_ -- @t45 pickS t39 t44 (.bool false)
          refine J.done ?_ -- then tv_1 = [t45]
          refine J.iteF ?_
          refine J.done ?_ -- then tv_2 = []
          refine J.op (R.add64 (by omega)) ?_ -- @t46 binS .add 3 (.tmp 9) (.const (.int .i64 1)) (tx.headD undef) (.int .i64 1)
          -- @again[t46]#2
          have hno : ¬ cntP sym x := fun h => ht38 (qty_zero.2 h.2.2.2.2.2)
          exact J.done ⟨(i + 1, Hk), ⟨by omega, by rw [filt_no hx (by unfold cnt; rw [decide_eq_true_iff]; exact hno)]; exact hI⟩, rfl, Imp.sub (List.sublist_cons_self _ _), by dsimp only; omega⟩
      · skip
        refine J.op R.pickT ?_ -- @t33 pickS (tv.headD undef) t32 (.bool false)
        refine J.gopF rfl ?_
        refine J.gopF rfl ?_
        refine J.gopF rfl ?_
        refine J.gopF rfl ?_
        refine J.op R.pickF ?_ -- @t39 pickS t33 t38 (.bool false)
        refine J.gopF rfl ?_
        refine J.gopF rfl ?_
        refine J.gopF rfl ?_
        refine J.gopF rfl ?_
        refine J.op R.pickF ?_ -- @t45 pickS t39 t44 (.bool false)
        refine J.done ?_ -- then tv_1 = [t45]
        refine J.iteF ?_
        refine J.done ?_ -- then tv_2 = []
        refine J.op (R.add64 (by omega)) ?_ -- @t46 binS .add 3 (.tmp 9) (.const (.int .i64 1)) (tx.headD undef) (.int .i64 1)
        -- @again[t46]#3
        have hno : ¬ cntP sym x := fun h => ht32 (price_one.2 ⟨h.2.2.2.1, h.2.2.2.2.1⟩)
        exact J.done ⟨(i + 1, Hk), ⟨by omega, by rw [filt_no hx (by unfold cnt; rw [decide_eq_true_iff]; exact hno)]; exact hI⟩, rfl, Imp.sub (List.sublist_cons_self _ _), by dsimp only; omega⟩
    · skip
      refine J.bind ?_ -- @tv_1 bind tv_1 ([45])
      refine J.gopF rfl ?_
      refine J.gopF rfl ?_
      refine J.gopF rfl ?_
      refine J.gopF rfl ?_
      refine J.op R.pickF ?_ -- @t33 pickS (tv.headD undef) t32 (.bool false)
      refine J.gopF rfl ?_
      refine J.gopF rfl ?_
      refine J.gopF rfl ?_
      refine J.gopF rfl ?_
      refine J.op R.pickF ?_ -- @t39 pickS t33 t38 (.bool false)
      refine J.gopF rfl ?_
      refine J.gopF rfl ?_
      refine J.gopF rfl ?_
      refine J.gopF rfl ?_
      refine J.op R.pickF ?_ -- @t45 pickS t39 t44 (.bool false)
      refine J.done ?_ -- then tv_1 = [t45]
      refine J.iteF ?_
      refine J.done ?_ -- then tv_2 = []
      refine J.op (R.add64 (by omega)) ?_ -- @t46 binS .add 3 (.tmp 9) (.const (.int .i64 1)) (tx.headD undef) (.int .i64 1)
      -- @again[t46]#4
      have hno : ¬ cntP sym x := fun h => hbtv ⟨h.1, h.2.1, h.2.2.1⟩
      exact J.done ⟨(i + 1, Hk), ⟨by omega, by rw [filt_no hx (by unfold cnt; rw [decide_eq_true_iff]; exact hno)]; exact hI⟩, rfl, Imp.sub (List.sublist_cons_self _ _), by dsimp only; omega⟩
  · skip
    refine J.iteF ?_
    refine J.done ⟨fun _ => ?_, fun h => absurd rfl h⟩ -- exit []
    -- @ret[]#2
    obtain rfl : i = l.length := by omega
    rw [List.take_length] at hI
    exact J.done ⟨rfl, _, fun _ _ => rfl, .inl ⟨Hk, .cons .here .nil, by rw [yl_len]; exact hI⟩⟩

/-- damper/tape.counts -/
theorem s47 (a : Option Addr) (m c : Nat) (sym : Int) :
    FnT Try.prog 47 [.slice a m c, .int .i64 sym] (fun _ => True) [] (fun u es => ∃ b b3, u = .func (.func 77) #[] #[.pointer (some ⟨b, 0, none⟩), .pointer (some ⟨b3, 0, none⟩)] ∧ es = [Ent.cells b3 [.int .i64 sym] 3, Ent.cells b [.slice a m c] 22]) := by
  refine fn_of_J (cx := cx47) hmix Try.func47 (by kernel_rfl) (eq47 _ _) fun w hw => ?_
  refine J.box1 rfl fun bt2 => ?_
  refine J.box1 rfl fun bt3 => ?_
  -- @ret[(.func(.func77)#[]#[t2,t3])]
  exact J.done (RetQ.gt (.tmp (.nil)) (by (try dsimp only); repeat (first | exact Has.nil | refine Has.cons (by repeat (first | (with_reducible exact Out.here) | ((with_reducible refine Out.cells ?_); first | rfl | (simp; done)) | ((with_reducible refine Out.row ?_); first | rfl | (simp; done)) | (with_reducible apply Out.there))) ?_)) (⟨_, _, rfl, rfl⟩))

/-- (*damper/tape.maker).add -/
theorem s48 (b : Nat) (f g : Int) (c : List Msg) (m : Msg) (hc : Cok c) (hm : Mok m) (hl : c.length ≤ 150) :
    FnT Try.prog 48 [.pointer (some ⟨b, 0, none⟩), .int .i64 g, .agg m.cells.toArray] (fun _ => True) [Ent.cells b (mkC f c) 100] (fun _ es => es = [Ent.cells b (mkC (if c = [] then g else f) (c ++ [m])) 100]) := by
  refine fn_of_J (cx := cx48) hmix Try.func48 (by kernel_rfl) (eq48 _ _ _) fun w hw => ?_
  have hv := vol_range hc
  have hwb := wor_bound hc (by omega)
  have hpq : m.price.toNat * m.qty.toNat ≤ 1099511627776 * 4294967296 := Nat.mul_le_mul (by have := hm.price; omega) (by have := hm.qty; omega)
  have hmp := hm.price
  have hmq := hm.qty
  refine J.boxA fun bt5 => ?_
  refine J.op R.nil ?_ -- @t7 nilS a0
  refine J.op fa100_0 ?_
  refine J.op fa32_6 ?_
  refine J.op (R.ld o3 (by with_reducible repeat (first | exact Pick.here | apply Pick.there)) rfl) ?_ -- @t10 vS (Instr.loadAt 3 t9)
  refine J.opD R.eql (fun ht11 => ?_) (fun ht11 => ?_) -- @t11 binS .eql 3 (.tmp 10) (.const (.int .i64 0)) t10 (.int .i64 0)
  · skip
    refine J.bindJ (fun vs H2 => vs = [] ∧ H2 = [Ent.cells bt5 m.cells 46, Ent.cells b [.int .i64 (if c = [] then g else f), .int .i64 (if c = [] then m.price else fstM c), .int .i64 (if c = [] then m.price else hiM c), .int .i64 (if c = [] then m.price else loM c), .int .i64 (lstM c), .int .i64 (volM c), .int .i64 (c.length : Int), .int .i64 0, .int .u64 ((worM c / 18446744073709551616 : Nat) : Int), .int .u64 ((worM c % 18446744073709551616 : Nat) : Int)] 100]) ?_ ?_ -- @tv
    · skip
      refine J.iteT ?_
      refine J.op fa46_6 ?_
      refine J.op (R.ld o2 (by with_reducible repeat (first | exact Pick.here | apply Pick.there)) rfl) ?_ -- @t15 vS (Instr.loadAt 2 t14)
      refine J.op fa46_6 ?_
      refine J.op (R.ld o2 (by with_reducible repeat (first | exact Pick.here | apply Pick.there)) rfl) ?_ -- @t17 vS (Instr.loadAt 2 t16)
      refine J.op fa46_6 ?_
      refine J.op (R.ld o2 (by with_reducible repeat (first | exact Pick.here | apply Pick.there)) rfl) ?_ -- @t19 vS (Instr.loadAt 2 t18)
      refine J.op bd32_0_1_2_3 ?_ -- @t20 vS (Instr.build 32 #[(0, a1), (1, t15), (2, t17), (3, t19)])
      refine J.op R.nil ?_ -- @t21 nilS a0
      refine J.op fa100_0 ?_
      refine J.stSA sz32 (by with_reducible repeat (first | exact Pick.here | apply Pick.there)) rfl (Nat.le_of_ble_eq_true rfl) rfl (cs' := [.int .i64 g, .int .i64 m.price, .int .i64 m.price, .int .i64 m.price, .int .i64 0, .int .i64 0, .int .i64 0, .int .i64 0, .int .u64 ((worM c / 18446744073709551616 : Nat) : Int), .int .u64 ((worM c % 18446744073709551616 : Nat) : Int)]) rfl ?_ -- @tu uS (Instr.storeAt 32 t22 t20)
      -- @join[]
      have hnil : c = [] := List.length_eq_zero_iff.1 (by omega)
      subst hnil
      exact J.done ⟨rfl, rfl⟩
    · rintro vs H1 ⟨rfl, rfl⟩
      try simp only [List.headD_cons, List.tail_cons]
      refine J.draw ?_
      refine J.op R.nil ?_ -- @t27 nilS a0
      refine J.op fa100_0 ?_
      refine J.op fa32_2 ?_
      refine J.op (R.ld o2 (by with_reducible repeat (first | exact Pick.here | apply Pick.there)) rfl) ?_ -- @t30 vS (Instr.loadAt 2 t29)
      refine J.op fa46_6 ?_
      refine J.op (R.ld o2 (by with_reducible repeat (first | exact Pick.here | apply Pick.there)) rfl) ?_ -- @t32 vS (Instr.loadAt 2 t31)
      refine J.op R.maxI ?_ -- @t33 bltS .max #[2, 2] 2 #[false, false] [t30, t32]
      refine J.op R.nil ?_ -- @t35 nilS a0
      refine J.op fa100_0 ?_
      refine J.op fa32_3 ?_
      refine J.op (R.ld o2 (by with_reducible repeat (first | exact Pick.here | apply Pick.there)) rfl) ?_ -- @t38 vS (Instr.loadAt 2 t37)
      refine J.op fa46_6 ?_
      refine J.op (R.ld o2 (by with_reducible repeat (first | exact Pick.here | apply Pick.there)) rfl) ?_ -- @t40 vS (Instr.loadAt 2 t39)
      refine J.op R.minI ?_ -- @t41 bltS .min #[2, 2] 2 #[false, false] [t38, t40]
      refine J.op fa46_6 ?_
      refine J.op (R.ld o2 (by with_reducible repeat (first | exact Pick.here | apply Pick.there)) rfl) ?_ -- @t43 vS (Instr.loadAt 2 t42)
      refine J.op R.nil ?_ -- @t44 nilS a0
      refine J.op fa100_0 ?_
      refine J.op fa32_2 ?_
      refine J.st sz2 (by with_reducible repeat (first | exact Pick.here | apply Pick.there)) (by repeat (first | exact .zero | exact .nil | apply Upd.succ | apply UpdN.cons)) rfl ?_ -- @tu_1 uS (Instr.storeAt 2 t46 t33)
      refine J.chkR (R.ld o2 (by with_reducible repeat (first | exact Pick.here | apply Pick.there)) rfl) ?_ -- @chk:t43 vS (Instr.loadAt 2 t42)
      refine J.chkR fa46_6 ?_ -- @chk:t42 vS (Instr.fieldAt 46 t5 6)
      refine J.chkR R.minI ?_ -- @chk:t41 bltS .min #[2, 2] 2 #[false, false] [t38, t40]
      refine J.chkR (R.ld o2 (by with_reducible repeat (first | exact Pick.here | apply Pick.there)) rfl) ?_ -- @chk:t40 vS (Instr.loadAt 2 t39)
      refine J.chkR fa46_6 ?_ -- @chk:t39 vS (Instr.fieldAt 46 t5 6)
      refine J.op R.nil ?_ -- @t47 nilS a0
      refine J.op fa100_0 ?_
      refine J.op fa32_3 ?_
      refine J.st sz2 (by with_reducible repeat (first | exact Pick.here | apply Pick.there)) (by repeat (first | exact .zero | exact .nil | apply Upd.succ | apply UpdN.cons)) rfl ?_ -- @tu_2 uS (Instr.storeAt 2 t49 t41)
      refine J.chkR (R.ld o2 (by with_reducible repeat (first | exact Pick.here | apply Pick.there)) rfl) ?_ -- @chk:t43 vS (Instr.loadAt 2 t42)
      refine J.chkR fa46_6 ?_ -- @chk:t42 vS (Instr.fieldAt 46 t5 6)
      refine J.op R.nil ?_ -- @t50 nilS a0
      refine J.op fa100_0 ?_
      refine J.op fa32_4 ?_
      refine J.st sz2 (by with_reducible repeat (first | exact Pick.here | apply Pick.there)) (by repeat (first | exact .zero | exact .nil | apply Upd.succ | apply UpdN.cons)) rfl ?_ -- @tu_3 uS (Instr.storeAt 2 t52 t43)
      refine J.draw ?_
      refine J.op R.nil ?_ -- @t54 nilS a0
      refine J.op fa100_0 ?_
      refine J.op fa32_5 ?_
      refine J.op (R.ld o2 (by with_reducible repeat (first | exact Pick.here | apply Pick.there)) rfl) ?_ -- @t57 vS (Instr.loadAt 2 t56)
      refine J.op fa46_7 ?_
      refine J.op (R.ld o2 (by with_reducible repeat (first | exact Pick.here | apply Pick.there)) rfl) ?_ -- @t59 vS (Instr.loadAt 2 t58)
      refine J.op (R.add64 (by omega)) ?_ -- @t60 binS .add 2 (.tmp 57) (.tmp 59) t57 t59
      refine J.op R.nil ?_ -- @t61 nilS a0
      refine J.op fa100_0 ?_
      refine J.op fa32_5 ?_
      refine J.st sz2 (by with_reducible repeat (first | exact Pick.here | apply Pick.there)) (by repeat (first | exact .zero | exact .nil | apply Upd.succ | apply UpdN.cons)) rfl ?_ -- @tu_4 uS (Instr.storeAt 2 t63 t60)
      refine J.op R.nil ?_ -- @t65 nilS a0
      refine J.op fa100_0 ?_
      refine J.op fa32_6 ?_
      refine J.op (R.ld o3 (by with_reducible repeat (first | exact Pick.here | apply Pick.there)) rfl) ?_ -- @t68 vS (Instr.loadAt 3 t67)
      refine J.op (R.add64 (by omega)) ?_ -- @t69 binS .add 3 (.tmp 68) (.const (.int .i64 1)) t68 (.int .i64 1)
      refine J.op R.nil ?_ -- @t70 nilS a0
      refine J.op fa100_0 ?_
      refine J.op fa32_6 ?_
      refine J.st sz3 (by with_reducible repeat (first | exact Pick.here | apply Pick.there)) (by repeat (first | exact .zero | exact .nil | apply Upd.succ | apply UpdN.cons)) rfl ?_ -- @tu_5 uS (Instr.storeAt 3 t72 t69)
      refine J.draw ?_
      refine J.op R.nil ?_ -- @t76 nilS a0
      refine J.op fa100_1 ?_
      refine J.op (R.ldP ag98 (by with_reducible repeat (first | exact Pick.here | apply Pick.there)) (l := wideC (worM c)) (by rfl) rfl) ?_ -- @t78 vS (Instr.loadAt 98 t77)
      refine J.op fa46_6 ?_
      refine J.op (R.ld o2 (by with_reducible repeat (first | exact Pick.here | apply Pick.there)) rfl) ?_ -- @t80 vS (Instr.loadAt 2 t79)
      refine J.op (R.asI cv2_54 (v := ((m.price.toNat : Nat) : Int)) (by rw [u64_in _ (by omega)]; omega)) ?_ -- @t81 vS (convert 2 54 t80)
      refine J.op fa46_7 ?_
      refine J.op (R.ld o2 (by with_reducible repeat (first | exact Pick.here | apply Pick.there)) rfl) ?_ -- @t83 vS (Instr.loadAt 2 t82)
      refine J.op (R.asI cv2_54 (v := ((m.qty.toNat : Nat) : Int)) (by rw [u64_in _ (by omega)]; omega)) ?_ -- @t84 vS (convert 2 54 t83)
      refine J.callE en52 (s52 m.price.toNat m.qty.toNat (by omega) (by omega)) rfl (fun _ _ _ => trivial) ?_ -- @t85 callS (.func (.func 52) #[] #[]) [t81, t84]
      refine J.chkR (R.ldP ag98 (by with_reducible repeat (first | exact Pick.here | apply Pick.there)) (l := wideC (worM c)) (by rfl) rfl) ?_ -- @chk:t78 vS (Instr.loadAt 98 t77)
      refine J.chkR fa100_1 ?_ -- @chk:t77 vS (Instr.fieldAt 100 t76 1)
      refine J.chkR R.nil ?_ -- @chk:t76 nilS a0
      refine J.callE en53 (s53 (worM c) (m.price.toNat * m.qty.toNat) (by omega) (by omega)) rfl (fun _ _ _ => trivial) ?_
      rw [show (worM c + m.price.toNat * m.qty.toNat) % 340282366920938463463374607431768211456 = worM c + m.price.toNat * m.qty.toNat from Nat.mod_eq_of_lt (by omega)] -- @t86 callS (.func (.func 53) #[] #[]) [t78, t85]
      refine J.op (R.ext rfl) ?_ -- @t87 vS (Instr.extract t86 0)
      refine J.op (R.ext rfl) ?_ -- @t88 vS (Instr.extract t86 1)
      refine J.op R.nil ?_ -- @t89 nilS a0
      refine J.op fa100_1 ?_
      refine J.stSA sz98 (by with_reducible repeat (first | exact Pick.here | apply Pick.there)) rfl (Nat.le_of_ble_eq_true rfl) rfl (cs' := mkC (if c = [] then g else f) (c ++ [m])) (by exact mk_step (f := f) (g := g) (c := c) (m := m)) ?_ -- @tu_6 uS (Instr.storeAt 98 t90 t87)
      refine J.chkR (R.ext rfl) ?_ -- @chk:t88 vS (Instr.extract t86 1)
      -- @ret[]
      refine J.done (RetQ.gt (es := [Ent.cells b (mkC (if c = [] then g else f) (c ++ [m])) 100]) (.nil) ?_ ?_)
      · exact (by (try dsimp only); repeat (first | exact Has.nil | refine Has.cons (by repeat (first | (with_reducible exact Out.here) | ((with_reducible refine Out.cells ?_); first | rfl | (simp; done)) | ((with_reducible refine Out.row ?_); first | rfl | (simp; done)) | (with_reducible apply Out.there))) ?_))
      · exact rfl
  · skip
    refine J.bindJ (fun vs H2 => vs = [] ∧ H2 = [Ent.cells bt5 m.cells 46, Ent.cells b [.int .i64 (if c = [] then g else f), .int .i64 (if c = [] then m.price else fstM c), .int .i64 (if c = [] then m.price else hiM c), .int .i64 (if c = [] then m.price else loM c), .int .i64 (lstM c), .int .i64 (volM c), .int .i64 (c.length : Int), .int .i64 0, .int .u64 ((worM c / 18446744073709551616 : Nat) : Int), .int .u64 ((worM c % 18446744073709551616 : Nat) : Int)] 100]) ?_ ?_ -- @tv
    · skip
      refine J.iteF ?_
      -- @join[]#2
      have hnil : c ≠ [] := fun h => ht11 (by rw [h]; rfl)
      exact J.done ⟨rfl, by simp only [if_neg hnil]; rfl⟩
    · rintro vs H1 ⟨rfl, rfl⟩
      try simp only [List.headD_cons, List.tail_cons]
      refine J.draw ?_
      refine J.op R.nil ?_ -- @t27 nilS a0
      refine J.op fa100_0 ?_
      refine J.op fa32_2 ?_
      refine J.op (R.ld o2 (by with_reducible repeat (first | exact Pick.here | apply Pick.there)) rfl) ?_ -- @t30 vS (Instr.loadAt 2 t29)
      refine J.op fa46_6 ?_
      refine J.op (R.ld o2 (by with_reducible repeat (first | exact Pick.here | apply Pick.there)) rfl) ?_ -- @t32 vS (Instr.loadAt 2 t31)
      refine J.op R.maxI ?_ -- @t33 bltS .max #[2, 2] 2 #[false, false] [t30, t32]
      refine J.op R.nil ?_ -- @t35 nilS a0
      refine J.op fa100_0 ?_
      refine J.op fa32_3 ?_
      refine J.op (R.ld o2 (by with_reducible repeat (first | exact Pick.here | apply Pick.there)) rfl) ?_ -- @t38 vS (Instr.loadAt 2 t37)
      refine J.op fa46_6 ?_
      refine J.op (R.ld o2 (by with_reducible repeat (first | exact Pick.here | apply Pick.there)) rfl) ?_ -- @t40 vS (Instr.loadAt 2 t39)
      refine J.op R.minI ?_ -- @t41 bltS .min #[2, 2] 2 #[false, false] [t38, t40]
      refine J.op fa46_6 ?_
      refine J.op (R.ld o2 (by with_reducible repeat (first | exact Pick.here | apply Pick.there)) rfl) ?_ -- @t43 vS (Instr.loadAt 2 t42)
      refine J.op R.nil ?_ -- @t44 nilS a0
      refine J.op fa100_0 ?_
      refine J.op fa32_2 ?_
      refine J.st sz2 (by with_reducible repeat (first | exact Pick.here | apply Pick.there)) (by repeat (first | exact .zero | exact .nil | apply Upd.succ | apply UpdN.cons)) rfl ?_ -- @tu_1 uS (Instr.storeAt 2 t46 t33)
      refine J.chkR (R.ld o2 (by with_reducible repeat (first | exact Pick.here | apply Pick.there)) rfl) ?_ -- @chk:t43 vS (Instr.loadAt 2 t42)
      refine J.chkR fa46_6 ?_ -- @chk:t42 vS (Instr.fieldAt 46 t5 6)
      refine J.chkR R.minI ?_ -- @chk:t41 bltS .min #[2, 2] 2 #[false, false] [t38, t40]
      refine J.chkR (R.ld o2 (by with_reducible repeat (first | exact Pick.here | apply Pick.there)) rfl) ?_ -- @chk:t40 vS (Instr.loadAt 2 t39)
      refine J.chkR fa46_6 ?_ -- @chk:t39 vS (Instr.fieldAt 46 t5 6)
      refine J.op R.nil ?_ -- @t47 nilS a0
      refine J.op fa100_0 ?_
      refine J.op fa32_3 ?_
      refine J.st sz2 (by with_reducible repeat (first | exact Pick.here | apply Pick.there)) (by repeat (first | exact .zero | exact .nil | apply Upd.succ | apply UpdN.cons)) rfl ?_ -- @tu_2 uS (Instr.storeAt 2 t49 t41)
      refine J.chkR (R.ld o2 (by with_reducible repeat (first | exact Pick.here | apply Pick.there)) rfl) ?_ -- @chk:t43 vS (Instr.loadAt 2 t42)
      refine J.chkR fa46_6 ?_ -- @chk:t42 vS (Instr.fieldAt 46 t5 6)
      refine J.op R.nil ?_ -- @t50 nilS a0
      refine J.op fa100_0 ?_
      refine J.op fa32_4 ?_
      refine J.st sz2 (by with_reducible repeat (first | exact Pick.here | apply Pick.there)) (by repeat (first | exact .zero | exact .nil | apply Upd.succ | apply UpdN.cons)) rfl ?_ -- @tu_3 uS (Instr.storeAt 2 t52 t43)
      refine J.draw ?_
      refine J.op R.nil ?_ -- @t54 nilS a0
      refine J.op fa100_0 ?_
      refine J.op fa32_5 ?_
      refine J.op (R.ld o2 (by with_reducible repeat (first | exact Pick.here | apply Pick.there)) rfl) ?_ -- @t57 vS (Instr.loadAt 2 t56)
      refine J.op fa46_7 ?_
      refine J.op (R.ld o2 (by with_reducible repeat (first | exact Pick.here | apply Pick.there)) rfl) ?_ -- @t59 vS (Instr.loadAt 2 t58)
      refine J.op (R.add64 (by omega)) ?_ -- @t60 binS .add 2 (.tmp 57) (.tmp 59) t57 t59
      refine J.op R.nil ?_ -- @t61 nilS a0
      refine J.op fa100_0 ?_
      refine J.op fa32_5 ?_
      refine J.st sz2 (by with_reducible repeat (first | exact Pick.here | apply Pick.there)) (by repeat (first | exact .zero | exact .nil | apply Upd.succ | apply UpdN.cons)) rfl ?_ -- @tu_4 uS (Instr.storeAt 2 t63 t60)
      refine J.op R.nil ?_ -- @t65 nilS a0
      refine J.op fa100_0 ?_
      refine J.op fa32_6 ?_
      refine J.op (R.ld o3 (by with_reducible repeat (first | exact Pick.here | apply Pick.there)) rfl) ?_ -- @t68 vS (Instr.loadAt 3 t67)
      refine J.op (R.add64 (by omega)) ?_ -- @t69 binS .add 3 (.tmp 68) (.const (.int .i64 1)) t68 (.int .i64 1)
      refine J.op R.nil ?_ -- @t70 nilS a0
      refine J.op fa100_0 ?_
      refine J.op fa32_6 ?_
      refine J.st sz3 (by with_reducible repeat (first | exact Pick.here | apply Pick.there)) (by repeat (first | exact .zero | exact .nil | apply Upd.succ | apply UpdN.cons)) rfl ?_ -- @tu_5 uS (Instr.storeAt 3 t72 t69)
      refine J.draw ?_
      refine J.op R.nil ?_ -- @t76 nilS a0
      refine J.op fa100_1 ?_
      refine J.op (R.ldP ag98 (by with_reducible repeat (first | exact Pick.here | apply Pick.there)) (l := wideC (worM c)) (by rfl) rfl) ?_ -- @t78 vS (Instr.loadAt 98 t77)
      refine J.op fa46_6 ?_
      refine J.op (R.ld o2 (by with_reducible repeat (first | exact Pick.here | apply Pick.there)) rfl) ?_ -- @t80 vS (Instr.loadAt 2 t79)
      refine J.op (R.asI cv2_54 (v := ((m.price.toNat : Nat) : Int)) (by rw [u64_in _ (by omega)]; omega)) ?_ -- @t81 vS (convert 2 54 t80)
      refine J.op fa46_7 ?_
      refine J.op (R.ld o2 (by with_reducible repeat (first | exact Pick.here | apply Pick.there)) rfl) ?_ -- @t83 vS (Instr.loadAt 2 t82)
      refine J.op (R.asI cv2_54 (v := ((m.qty.toNat : Nat) : Int)) (by rw [u64_in _ (by omega)]; omega)) ?_ -- @t84 vS (convert 2 54 t83)
      refine J.callE en52 (s52 m.price.toNat m.qty.toNat (by omega) (by omega)) rfl (fun _ _ _ => trivial) ?_ -- @t85 callS (.func (.func 52) #[] #[]) [t81, t84]
      refine J.chkR (R.ldP ag98 (by with_reducible repeat (first | exact Pick.here | apply Pick.there)) (l := wideC (worM c)) (by rfl) rfl) ?_ -- @chk:t78 vS (Instr.loadAt 98 t77)
      refine J.chkR fa100_1 ?_ -- @chk:t77 vS (Instr.fieldAt 100 t76 1)
      refine J.chkR R.nil ?_ -- @chk:t76 nilS a0
      refine J.callE en53 (s53 (worM c) (m.price.toNat * m.qty.toNat) (by omega) (by omega)) rfl (fun _ _ _ => trivial) ?_
      rw [show (worM c + m.price.toNat * m.qty.toNat) % 340282366920938463463374607431768211456 = worM c + m.price.toNat * m.qty.toNat from Nat.mod_eq_of_lt (by omega)] -- @t86 callS (.func (.func 53) #[] #[]) [t78, t85]
      refine J.op (R.ext rfl) ?_ -- @t87 vS (Instr.extract t86 0)
      refine J.op (R.ext rfl) ?_ -- @t88 vS (Instr.extract t86 1)
      refine J.op R.nil ?_ -- @t89 nilS a0
      refine J.op fa100_1 ?_
      refine J.stSA sz98 (by with_reducible repeat (first | exact Pick.here | apply Pick.there)) rfl (Nat.le_of_ble_eq_true rfl) rfl (cs' := mkC (if c = [] then g else f) (c ++ [m])) (by exact mk_step (f := f) (g := g) (c := c) (m := m)) ?_ -- @tu_6 uS (Instr.storeAt 98 t90 t87)
      refine J.chkR (R.ext rfl) ?_ -- @chk:t88 vS (Instr.extract t86 1)
      -- @ret[]#2
      refine J.done (RetQ.gt (es := [Ent.cells b (mkC (if c = [] then g else f) (c ++ [m])) 100]) (.nil) ?_ ?_)
      · exact (by (try dsimp only); repeat (first | exact Has.nil | refine Has.cons (by repeat (first | (with_reducible exact Out.here) | ((with_reducible refine Out.cells ?_); first | rfl | (simp; done)) | ((with_reducible refine Out.row ?_); first | rfl | (simp; done)) | (with_reducible apply Out.there))) ?_))
      · exact rfl

/-- (*damper/tape.maker).done -/
theorem s49 (b : Nat) (f : Int) (c : List Msg) (hc : Cok c) (hne : c ≠ []) (hl : c.length ≤ 151) :
    FnT Try.prog 49 [.pointer (some ⟨b, 0, none⟩)] (fun _ => True) [Ent.cells b (mkC f c) 100] (fun v es => v = .agg (barOf f c).cells.toArray ∧ es = [Ent.cells b (mkD f c) 100]) := by
  refine fn_of_J (cx := cx49) hmix Try.func49 (by kernel_rfl) (eq49 _) fun w hw => ?_
  have hv := vol_range hc
  have hwb := wor_bound hc (by omega)
  obtain ⟨hv1, hmb⟩ := mean_bound hc hne
  refine J.alloc z32 fun bt2 => ?_
  refine J.draw ?_
  refine J.op R.nil ?_ -- @t5 nilS a0
  refine J.op fa100_1 ?_
  refine J.op (R.ldP ag98 (by with_reducible repeat (first | exact Pick.here | apply Pick.there)) (l := wideC (worM c)) (by rfl) rfl) ?_ -- @t7 vS (Instr.loadAt 98 t6)
  refine J.op R.nil ?_ -- @t9 nilS a0
  refine J.op fa100_0 ?_
  refine J.op fa32_5 ?_
  refine J.op (R.ld o2 (by with_reducible repeat (first | exact Pick.here | apply Pick.there)) rfl) ?_ -- @t12 vS (Instr.loadAt 2 t11)
  refine J.callE en54 (s54 (worM c) (volM c) (by omega) (by omega) (by omega)) rfl (fun _ _ _ => trivial) ?_ -- @t13 callS (.func (.func 54) #[] #[]) [t7, t12]
  refine J.op R.nil ?_ -- @t14 nilS a0
  refine J.op fa100_0 ?_
  refine J.op fa32_7 ?_
  refine J.st sz2 (by with_reducible repeat (first | exact Pick.here | apply Pick.there)) (by repeat (first | exact .zero | exact .nil | apply Upd.succ | apply UpdN.cons)) rfl ?_ -- @tu uS (Instr.storeAt 2 t16 t13)
  refine J.op R.nil ?_ -- @t18 nilS a0
  refine J.op fa100_0 ?_
  refine J.op (R.ldP ag32 (by with_reducible repeat (first | exact Pick.here | apply Pick.there)) (l := (barOf f c).cells) (by rfl) rfl) ?_ -- @t20 vS (Instr.loadAt 32 t19)
  refine J.stW sz32 (by with_reducible repeat (first | exact Pick.here | apply Pick.there)) rfl rfl rfl ?_ -- @tu_1 uS (Instr.storeAt 32 t2 t20)
  -- @ret[t2]
  refine J.done (RetQ.gt (es := [Ent.cells b (mkD f c) 100]) (.cellA ag32 (by with_reducible repeat (first | exact Pick.here | apply Pick.there)) rfl (.nil)) ?_ ?_)
  · exact (by (try dsimp only); repeat (first | exact Has.nil | refine Has.cons (by repeat (first | (with_reducible exact Out.here) | ((with_reducible refine Out.cells ?_); first | rfl | (simp; done)) | ((with_reducible refine Out.row ?_); first | rfl | (simp; done)) | (with_reducible apply Out.there))) ?_))
  · exact ⟨rfl, rfl⟩

/-- damper/tape.Bars -/
theorem s12 (v : Value) (l : List Msg) (sym width : Int) (hl : l.length ≤ 150) (hok : ∀ m, m ∈ l → i64R m.tick) (hwd : i64R width) :
    FnT Try.prog 12 [v, .int .i64 sym, .int .i64 width] (fun w => RdS w v 9 (msgs l)) [] (fun v es => ∃ a n cc, v = .tuple #[.slice a n cc, .int .i64 (faultW width)] ∧ es = [Ent.row (.slice a n cc) 8 (bars (barsF width (cts sym l))) 32]) := by
  refine fn_of_J (cx := cx12) hmix Try.func12 (by kernel_rfl) (eq12 _ _ _) fun w hw => ?_
  obtain ⟨a, cc, rfl, -, -⟩ : ∃ a cc, v = .slice a l.length cc ∧ True ∧ True := by
    obtain ⟨a, cc, rfl, -⟩ := id hw
    exact ⟨a, cc, by rw [msgs_len], trivial, trivial⟩
  have hXl := cts_len (sym := sym) (l := l)
  have hXo : Cok (cts sym l) := cts_ok hok
  refine J.box1 rfl fun bt5 => ?_
  refine J.alloc z24 fun bt6 => ?_
  refine J.op (R.ld o2 (by with_reducible repeat (first | exact Pick.here | apply Pick.there)) rfl) ?_ -- @t11 vS (Instr.loadAt 2 t5)
  refine J.opD R.lss (fun ht12 => ?_) (fun ht12 => ?_) -- @t12 binS .lss 2 (.tmp 11) (.const (.int .i64 1)) t11 (.int .i64 1)
  · skip
    refine J.iteT ?_
    refine J.st sz24 (by with_reducible repeat (first | exact Pick.here | apply Pick.there)) (by repeat (first | exact .zero | exact .nil | apply Upd.succ | apply UpdN.cons)) rfl ?_ -- @tu uS (Instr.storeAt 24 t6 (.slice none 0 0))
    -- @ret[t6,(.int.i649)]
    refine J.nilRow (sz := 8) (E := 32) ?_
    exact J.done (RetQ.gt (es := [Ent.row (.slice none 0 0) 8 (bars []) 32]) (.cell1 o24 (by with_reducible repeat (first | exact Pick.here | apply Pick.there)) rfl (.tmp .nil)) (by (try dsimp only); repeat (first | exact Has.nil | refine Has.cons (by repeat (first | (with_reducible exact Out.here) | ((with_reducible refine Out.cells ?_); first | rfl | (simp; done)) | ((with_reducible refine Out.row ?_); first | rfl | (simp; done)) | (with_reducible apply Out.there))) ?_)) ⟨_, _, _, by unfold faultW; rw [if_pos ht12]; rfl, by unfold barsF; rw [if_pos ht12]⟩)
  · skip
    refine J.iteF ?_
    refine J.alloc z100 fun bt8 => ?_
    refine J.callT en47 (s47 a l.length cc sym) rfl (fun _ _ _ => trivial) Take.nil (fun v es hv => ?_)
    obtain ⟨cb, cb3, rfl, rfl⟩ := hv
    simp only [List.cons_append, List.nil_append] -- @t15 callS (.func (.func 47) #[] #[]) [a0, a1]
    refine J.bind ?_ -- @tv_2 bind tv_2 ([])
    refine J.block ?_
    -- @ty range t15
    refine J.nilRow (sz := 8) (E := 32) ?_
    refine J.rangeI (fun k H => k ≤ (cts sym l).length ∧ ∃ oa on oc, H = [Ent.row (.slice oa on oc) 8 (bars (foldB width ((cts sym l).take k)).1) 32, Ent.cells bt8 (mkC (foldB width ((cts sym l).take k)).2.1 (foldB width ((cts sym l).take k)).2.2) 100, Ent.cells bt6 [.slice oa on oc] 24, Ent.cells bt5 [.int .i64 width] 2]) (fun x H => False) (Hc := [Ent.cells cb3 [.int .i64 sym] 3, Ent.cells cb [.slice a l.length cc] 22]) en77 (s77 cb cb3 (.slice a l.length cc) sym l) (.cons (by (try dsimp only); repeat (first | (with_reducible exact Out.here) | ((with_reducible refine Out.cells ?_); first | rfl | (simp; done)) | ((with_reducible refine Out.row ?_); first | rfl | (simp; done)) | (with_reducible apply Out.there))) (.cons (by (try dsimp only); repeat (first | (with_reducible exact Out.here) | ((with_reducible refine Out.cells ?_); first | rfl | (simp; done)) | ((with_reducible refine Out.row ?_); first | rfl | (simp; done)) | (with_reducible apply Out.there))) .nil)) (by exact ⟨Nat.zero_le _, none, 0, 0, by rw [List.take_zero, foldB_nil, mkC_nil]; rfl⟩) ?_ ?_ ?_ ?_
    · intro Ds w2 F hs hF hF2
      exact ⟨Blk.of (by with_reducible repeat (first | exact Pick.here | apply Pick.there)) hs, Blk.of (by with_reducible repeat (first | exact Pick.here | apply Pick.there)) hs, RdF.iter hw msgs_ne hs hF2, hF (Ent.cells cb [.slice a l.length cc] 22) (by simp) cb rfl, hF (Ent.cells cb3 [.int .i64 sym] 3) (by simp) cb3 rfl⟩
    · skip
      intro lo Lo w1 Ds hs k vs Hk w0 hvs hI hsep hst
      obtain ⟨hk, oa, on, oc, rfl⟩ := hI
      obtain ⟨x, hx, rfl⟩ := yl_inv hvs
      have hlt : k < (cts sym l).length := (List.getElem?_eq_some_iff.1 hx).1
      have hmx := hXo x (List.mem_of_getElem? hx)
      have hfr := frT_range hmx (w := width) (by omega)
      have htk := hmx.tick
      have hsn := foldB_snoc (w := width) hx
      obtain ⟨hi1, hi2, hi3⟩ := foldB_inv (w := width) (hXo.take (k := k))
      rw [List.length_take] at hi2 hi3
      generalize foldB width ((cts sym l).take k) = st at hsn hi1 hi2 hi3 ⊢
      obtain ⟨gs, f, c⟩ := st
      dsimp only at hi1 hi2 hi3 ⊢
      have hnil : c = [] ↔ c.length = 0 := List.length_eq_zero_iff.symm
      try simp only [List.headD_cons, List.tail_cons]
      refine J.alloc z46 fun bt9 => ?_
      refine J.stW sz46 (by with_reducible repeat (first | exact Pick.here | apply Pick.there)) rfl rfl rfl ?_ -- @tu_1 uS (Instr.storeAt 46 t9 (ty.headD undef))
      refine J.begin (by with_reducible repeat (first | exact Pick.here | apply Pick.there)) ?_
      refine J.bind ?_ -- @tv_1 bind tv_1 ([])
      refine J.block ?_
      refine J.draw ?_
      refine J.op fa46_3 ?_
      refine J.op (R.ld o2 (by with_reducible repeat (first | exact Pick.here | apply Pick.there)) rfl) ?_ -- @t18 vS (Instr.loadAt 2 t17)
      refine J.op (R.ld o2 (by with_reducible repeat (first | exact Pick.here | apply Pick.there)) rfl) ?_ -- @t19 vS (Instr.loadAt 2 t5)
      refine J.op (R.asI (R.quo (by omega)) (v := x.tick.tdiv width) (i64_in _ (by omega))) ?_ -- @t20 binS .quo 2 (.tmp 18) (.tmp 19) t18 t19
      refine J.op (R.ld o2 (by with_reducible repeat (first | exact Pick.here | apply Pick.there)) rfl) ?_ -- @t21 vS (Instr.loadAt 2 t5)
      refine J.op (R.asI R.mul (v := frT width x) (i64_in _ (by unfold frT at hfr; omega))) ?_ -- @t22 binS .mul 2 (.tmp 20) (.tmp 21) t20 t21
      refine J.bindBH (c = [] ∨ f = frT width x) (Ent.cells bt9 x.cells 46 :: Ent.obj lo (lp Lo .busy none) :: [Ent.row (.slice oa on oc) 8 (bars gs) 32, Ent.cells bt8 (mkC f c) 100, Ent.cells bt6 [.slice oa on oc] 24, Ent.cells bt5 [.int .i64 width] 2]) ?_ (fun hbtv => ?_) (fun hbtv => ?_) -- @tv
      · skip
        refine J.op fa100_0 ?_
        refine J.op fa32_6 ?_
        refine J.op (R.ld o3 (by with_reducible repeat (first | exact Pick.here | apply Pick.there)) rfl) ?_ -- @t25 vS (Instr.loadAt 3 t24)
        refine J.opD R.eql (fun ht26 => ?_) (fun ht26 => ?_) -- @t26 binS .eql 3 (.tmp 25) (.const (.int .i64 0)) t25 (.int .i64 0)
        · skip
          refine J.gopF rfl ?_
          refine J.gopF rfl ?_
          refine J.gopF rfl ?_
          refine J.gopF rfl ?_
          refine J.gopF rfl ?_
          refine J.op R.pickT ?_ -- @t33 pickS t26 (.bool true) t32
          exact J.done ⟨rfl, by simp only [List.cons.injEq, Value.bool.injEq, and_true]; symm; rw [decide_eq_true_iff]; exact .inl (hnil.2 (by omega)), Imp.take (by (try dsimp only); repeat (first | exact Has.nil | refine Has.cons (by repeat (first | (with_reducible exact Out.here) | ((with_reducible refine Out.cells ?_); first | rfl | (simp; done)) | ((with_reducible refine Out.row ?_); first | rfl | (simp; done)) | (with_reducible apply Out.there))) ?_))⟩ -- @leaf[t33]
        · skip
          refine J.gopT rfl ?_
          refine J.op fa100_0 ?_
          refine J.gopT rfl ?_
          refine J.op fa32_0 ?_
          refine J.gopT rfl ?_
          refine J.op (R.ld o2 (by with_reducible repeat (first | exact Pick.here | apply Pick.there)) rfl) ?_ -- @t30 vS (Instr.loadAt 2 t29)
          refine J.gopT rfl ?_
          refine J.op R.pure ?_
          refine J.gopT rfl ?_
          refine J.op R.eql ?_ -- @t32 binS .eql 2 (.tmp 30) (.tmp 31) t30 t31
          refine J.op R.pickF ?_ -- @t33 pickS t26 (.bool true) t32
          exact J.done ⟨rfl, by simp only [List.cons.injEq, Value.bool.injEq, and_true]; exact decide_eq_decide.2 ⟨fun h => .inr h, fun h => h.resolve_left fun h2 => ht26 (by rw [h2]; rfl)⟩, Imp.take (by (try dsimp only); repeat (first | exact Has.nil | refine Has.cons (by repeat (first | (with_reducible exact Out.here) | ((with_reducible refine Out.cells ?_); first | rfl | (simp; done)) | ((with_reducible refine Out.row ?_); first | rfl | (simp; done)) | (with_reducible apply Out.there))) ?_))⟩ -- @leaf[t33]#2
      · skip
        refine J.iteT ?_
        refine J.op (R.ldA ag46 (by with_reducible repeat (first | exact Pick.here | apply Pick.there)) rfl) ?_ -- @t35 vS (Instr.loadAt 46 t9)
        refine J.callT en48 (s48 bt8 (f) (frT width x) (c) x hi1 hmx (by omega)) rfl (fun _ _ _ => trivial) (Take.cons (by (try dsimp only); repeat (first | (with_reducible exact Out.here) | ((with_reducible refine Out.cells ?_); first | rfl | (simp; done)) | ((with_reducible refine Out.row ?_); first | rfl | (simp; done)) | (with_reducible apply Out.there))) Take.nil) (fun v es hv => ?_)
        obtain rfl := hv
        simp only [List.cons_append, List.nil_append] -- @t36 callS (.func (.func 48) #[] #[]) [t8, t22, t35]
        refine J.done ⟨fun _ => ?_, fun h => absurd rfl h⟩ -- exit []
        -- @next:ty
        refine J.imp (Imp.take (es := Ent.obj lo (lp Lo .busy none) :: [Ent.row (.slice oa on oc) 8 (bars (gs)) 32, Ent.cells bt8 (mkC (if c = [] then frT width x else f) (c ++ [x])) 100, Ent.cells bt6 [.slice oa on oc] 24, Ent.cells bt5 [.int .i64 width] 2]) (by (try dsimp only); repeat (first | exact Has.nil | refine Has.cons (by repeat (first | (with_reducible exact Out.here) | ((with_reducible refine Out.cells ?_); first | rfl | (simp; done)) | ((with_reducible refine Out.row ?_); first | rfl | (simp; done)) | (with_reducible apply Out.there))) ?_))) ?_
        exact J.done ⟨_, .cons .here .nil, ⟨hlt, oa, on, oc, by rw [hsn]; unfold stepB; rw [if_pos hbtv]⟩⟩
      · skip
        refine J.iteF ?_
        refine J.draw ?_
        refine J.op (R.ld o24 (by with_reducible repeat (first | exact Pick.here | apply Pick.there)) rfl) ?_ -- @t37 vS (Instr.loadAt 24 t6)
        refine J.callT en49 (s49 bt8 f c hi1 (fun h => hbtv (.inl h)) (by omega)) rfl (fun _ _ _ => trivial) (Take.cons (by (try dsimp only); repeat (first | (with_reducible exact Out.here) | ((with_reducible refine Out.cells ?_); first | rfl | (simp; done)) | ((with_reducible refine Out.row ?_); first | rfl | (simp; done)) | (with_reducible apply Out.there))) Take.nil) (fun v es hv => ?_)
        obtain ⟨rfl, rfl⟩ := hv
        simp only [List.cons_append, List.nil_append] -- @t38 callS (.func (.func 49) #[] #[]) [t8]
        refine J.chkR (R.ld o24 (by with_reducible repeat (first | exact Pick.here | apply Pick.there)) rfl) ?_ -- @chk:t37 vS (Instr.loadAt 24 t6)
        refine J.bs bs24_1 fun bt39 => ?_ -- @t39 vS (Instr.buildSlice 24 1 #[(0, t38)])
        refine J.chkR (R.ld o24 (by with_reducible repeat (first | exact Pick.here | apply Pick.there)) rfl) ?_ -- @chk:t37 vS (Instr.loadAt 24 t6)
        refine J.append sl24 (by with_reducible repeat (first | exact Pick.here | apply Pick.there)) (SeeS.lit (els := [(barOf f c).cells]) (by with_reducible repeat (first | exact Pick.here | apply Pick.there)) (by rfl) (by intro l hl; simp at hl; subst hl; rfl) (by rfl) (by decide)) (by intro l hl; simp at hl; subst hl; exact ⟨rfl, allOne_spec rfl⟩) (by rw [bars_len]; simp; omega) (by rw [bars_len]; simp [maxLen]; omega) fun at40 nt40 ct40 => ?_
        rw [bars_snoc] -- @t40 bltS .append #[24, 24] 24 #[false, false] [t37, t39]
        refine J.st sz24 (by with_reducible repeat (first | exact Pick.here | apply Pick.there)) (by repeat (first | exact .zero | exact .nil | apply Upd.succ | apply UpdN.cons)) rfl ?_ -- @tu_2 uS (Instr.storeAt 24 t6 t40)
        refine J.op bd100 ?_ -- @t41 vS (Instr.build 100 #[])
        refine J.stW sz100 (by with_reducible repeat (first | exact Pick.here | apply Pick.there)) rfl rfl rfl ?_ -- @tu_3 uS (Instr.storeAt 100 t8 t41)
        refine J.op (R.ldA ag46 (by with_reducible repeat (first | exact Pick.here | apply Pick.there)) rfl) ?_ -- @t43 vS (Instr.loadAt 46 t9)
        refine J.callT en48 (s48 bt8 (0) (frT width x) (([] : List Msg)) x Cok.nil hmx (Nat.zero_le _)) rfl (fun _ _ _ => trivial) (Take.cons (by (try dsimp only); repeat (first | (with_reducible exact Out.here) | ((with_reducible refine Out.cells ?_); first | rfl | (simp; done)) | ((with_reducible refine Out.row ?_); first | rfl | (simp; done)) | (with_reducible apply Out.there))) Take.nil) (fun v es hv => ?_)
        obtain rfl := hv
        simp only [List.cons_append, List.nil_append] -- @t44 callS (.func (.func 48) #[] #[]) [t8, t22, t43]
        refine J.done ?_ -- then tv_1 = []
        -- @next:ty#2
        refine J.imp (Imp.take (es := Ent.obj lo (lp Lo .busy none) :: [Ent.row (.slice at40 nt40 ct40) 8 (bars (gs ++ [barOf f c])) 32, Ent.cells bt8 (mkC (frT width x) ([x])) 100, Ent.cells bt6 [.slice at40 nt40 ct40] 24, Ent.cells bt5 [.int .i64 width] 2]) (by (try dsimp only); repeat (first | exact Has.nil | refine Has.cons (by repeat (first | (with_reducible exact Out.here) | ((with_reducible refine Out.cells ?_); first | rfl | (simp; done)) | ((with_reducible refine Out.row ?_); first | rfl | (simp; done)) | (with_reducible apply Out.there))) ?_))) ?_
        exact J.done ⟨_, .cons .here .nil, ⟨hlt, at40, nt40, ct40, by rw [hsn]; unfold stepB; rw [if_neg hbtv]⟩⟩
    · skip
      rintro H2 ⟨_, oa, on, oc, rfl⟩
      rw [yl_len, List.take_length]
      obtain ⟨hi1, hi2, hi3⟩ := foldB_inv (w := width) hXo
      have hend : barsOf width (cts sym l) = endB (foldB width (cts sym l)) := rfl
      generalize foldB width (cts sym l) = st at hi1 hi2 hi3 hend ⊢
      obtain ⟨gs, f, c⟩ := st
      simp only [List.cons_append, List.nil_append] at hi1 hi2 hi3 ⊢
      refine J.done ?_ -- then tv_2 = []
      refine J.op fa100_0 ?_
      refine J.op fa32_6 ?_
      refine J.op (R.ld o3 (by with_reducible repeat (first | exact Pick.here | apply Pick.there)) rfl) ?_ -- @t47 vS (Instr.loadAt 3 t46)
      refine J.opD R.gtr (fun ht48 => ?_) (fun ht48 => ?_) -- @t48 binS .gtr 3 (.tmp 47) (.const (.int .i64 0)) t47 (.int .i64 0)
      · skip
        refine J.bind ?_ -- @tv_3 bind tv_3 ([])
        refine J.iteT ?_
        refine J.draw ?_
        refine J.op (R.ld o24 (by with_reducible repeat (first | exact Pick.here | apply Pick.there)) rfl) ?_ -- @t49 vS (Instr.loadAt 24 t6)
        refine J.callT en49 (s49 bt8 f c hi1 (fun h => absurd ht48 (by rw [h]; simp)) (by omega)) rfl (fun _ _ _ => trivial) (Take.cons (by (try dsimp only); repeat (first | (with_reducible exact Out.here) | ((with_reducible refine Out.cells ?_); first | rfl | (simp; done)) | ((with_reducible refine Out.row ?_); first | rfl | (simp; done)) | (with_reducible apply Out.there))) Take.nil) (fun v es hv => ?_)
        obtain ⟨rfl, rfl⟩ := hv
        simp only [List.cons_append, List.nil_append] -- @t50 callS (.func (.func 49) #[] #[]) [t8]
        refine J.chkR (R.ld o24 (by with_reducible repeat (first | exact Pick.here | apply Pick.there)) rfl) ?_ -- @chk:t49 vS (Instr.loadAt 24 t6)
        refine J.bs bs24_1 fun bt51 => ?_ -- @t51 vS (Instr.buildSlice 24 1 #[(0, t50)])
        refine J.chkR (R.ld o24 (by with_reducible repeat (first | exact Pick.here | apply Pick.there)) rfl) ?_ -- @chk:t49 vS (Instr.loadAt 24 t6)
        refine J.append sl24 (by with_reducible repeat (first | exact Pick.here | apply Pick.there)) (SeeS.lit (els := [(barOf f c).cells]) (by with_reducible repeat (first | exact Pick.here | apply Pick.there)) (by rfl) (by intro l hl; simp at hl; subst hl; rfl) (by rfl) (by decide)) (by intro l hl; simp at hl; subst hl; exact ⟨rfl, allOne_spec rfl⟩) (by rw [bars_len]; simp; omega) (by rw [bars_len]; simp [maxLen]; omega) fun at52 nt52 ct52 => ?_
        rw [bars_snoc] -- @t52 bltS .append #[24, 24] 24 #[false, false] [t49, t51]
        refine J.st sz24 (by with_reducible repeat (first | exact Pick.here | apply Pick.there)) (by repeat (first | exact .zero | exact .nil | apply Upd.succ | apply UpdN.cons)) rfl ?_ -- @tu_4 uS (Instr.storeAt 24 t6 t52)
        refine J.done ?_ -- then tv_3 = []
        refine J.op (R.ld o24 (by with_reducible repeat (first | exact Pick.here | apply Pick.there)) rfl) ?_ -- @t53 vS (Instr.loadAt 24 t6)
        refine J.st sz24 (by with_reducible repeat (first | exact Pick.here | apply Pick.there)) (by repeat (first | exact .zero | exact .nil | apply Upd.succ | apply UpdN.cons)) rfl ?_ -- @tu_5 uS (Instr.storeAt 24 t6 t53)
        -- @ret[t6,(.int.i640)]
        refine J.done (RetQ.gt (es := [Ent.row (.slice at52 nt52 ct52) 8 (bars (gs ++ [barOf f c])) 32]) (.cell1 o24 (by with_reducible repeat (first | exact Pick.here | apply Pick.there)) rfl (.tmp (.nil))) ?_ ?_)
        · exact (by (try dsimp only); repeat (first | exact Has.nil | refine Has.cons (by repeat (first | (with_reducible exact Out.here) | ((with_reducible refine Out.cells ?_); first | rfl | (simp; done)) | ((with_reducible refine Out.row ?_); first | rfl | (simp; done)) | (with_reducible apply Out.there))) ?_))
        · exact ⟨at52, nt52, ct52, by unfold faultW; rw [if_neg ht12]; rfl, by unfold barsF; rw [if_neg ht12, hend]; unfold endB; rw [if_neg (fun h => absurd ht48 (by rw [show c = [] from h]; simp))]⟩
      · skip
        refine J.bind ?_ -- @tv_3 bind tv_3 ([])
        refine J.iteF ?_
        refine J.done ?_ -- then tv_3 = []
        refine J.op (R.ld o24 (by with_reducible repeat (first | exact Pick.here | apply Pick.there)) rfl) ?_ -- @t53 vS (Instr.loadAt 24 t6)
        refine J.st sz24 (by with_reducible repeat (first | exact Pick.here | apply Pick.there)) (by repeat (first | exact .zero | exact .nil | apply Upd.succ | apply UpdN.cons)) rfl ?_ -- @tu_5 uS (Instr.storeAt 24 t6 t53)
        -- @ret[t6,(.int.i640)]#2
        refine J.done (RetQ.gt (es := [Ent.row (.slice oa on oc) 8 (bars gs) 32]) (.cell1 o24 (by with_reducible repeat (first | exact Pick.here | apply Pick.there)) rfl (.tmp (.nil))) ?_ ?_)
        · exact (by (try dsimp only); repeat (first | exact Has.nil | refine Has.cons (by repeat (first | (with_reducible exact Out.here) | ((with_reducible refine Out.cells ?_); first | rfl | (simp; done)) | ((with_reducible refine Out.row ?_); first | rfl | (simp; done)) | (with_reducible apply Out.there))) ?_))
        · exact ⟨oa, on, oc, by unfold faultW; rw [if_neg ht12]; rfl, by unfold barsF; rw [if_neg ht12, hend]; unfold endB; rw [if_pos (show c = [] from List.length_eq_zero_iff.1 (by omega))]⟩
    · skip
      intro x H2 hx hf
      exact hf.elim
end Go.Proofs.Ytipgdalebkhgpaa
