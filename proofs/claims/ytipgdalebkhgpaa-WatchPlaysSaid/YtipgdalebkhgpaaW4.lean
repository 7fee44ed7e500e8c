/-
  Contracts of functions.
-/
import Derived.Test.YtipgdalebkhgpaaTerms1
import Derived.Test.YtipgdalebkhgpaaTerms2
import Derived.Test.YtipgdalebkhgpaaTab
import Derived.Test.YtipgdalebkhgpaaW3
set_option maxRecDepth 100000
set_option maxHeartbeats 4000000
set_option linter.unusedVariables false
set_option linter.unusedSimpArgs false
namespace Go.Proofs.Ytipgdalebkhgpaa
open Go Go.RowKit Fw
/-- damper/watch.New -/
theorem s36 (x y : Value) (c : Cfg) :
    FnT Try.prog 36 [.agg (c.cells x y).toArray] (c.at x y) [] (fun v es => ((cfgFault c).1 ≠ 0 ∧ v = .tuple #[.pointer none, .int .i64 (cfgFault c).1] ∧ es = []) ∨ ((cfgFault c).1 = 0 ∧ ∃ bw g n cc, v = .tuple #[.pointer (some ⟨bw, 0, none⟩), .int .i64 0] ∧ es = WatH bw g n cc (newW c))) := by
  refine fn_of_J (cx := cx36) hmix Try.func36 (by kernel_rfl) (eq36 _) fun w hw => ?_
  have hX : ∀ H, SeeS ⟨Try.prog, w, footOf []⟩ H x 16 (syms c.syms) := fun H => SeeS.ofW0 hw.1 syms_ne
  have hY : ∀ H, SeeS ⟨Try.prog, w, footOf []⟩ H y 2 (trows c.rows) := fun H => SeeS.ofW0 hw.2 trows_ne
  have hm := hw.1.le
  simp only [syms_len, maxLen] at hm
  have hm2 := hw.2.le
  simp only [trows_len, maxLen] at hm2
  refine J.boxA fun bt1 => ?_
  refine J.op (R.ldA ag53 (by with_reducible repeat (first | exact Pick.here | apply Pick.there)) rfl) ?_ -- @t10 vS (Instr.loadAt 53 t1)
  refine J.callE en70 (s70 _ _ _) rfl (by intro _ _ hs; first | exact Cfg.at_stab _ _ hs.ext hw | apply_assumption) ?_ -- @t11 callS (.func (.func 70) #[] #[]) [t10]
  refine J.op (R.ext rfl) ?_ -- @t12 vS (Instr.extract t11 0)
  refine J.op (R.ext rfl) ?_ -- @t13 vS (Instr.extract t11 1)
  refine J.opD R.neq (fun ht15 => ?_) (fun ht15 => ?_) -- @t15 binS .neq 25 (.tmp 14) (.const (.int .i64 0)) t12 (.int .i64 0)
  · skip
    refine J.iteT ?_
    -- @ret[(.pointernone),t12]
    exact J.done (RetQ.gt (.tmp (.tmp (.nil))) (by (try dsimp only); repeat (first | exact Has.nil | refine Has.cons (by repeat (first | (with_reducible exact Out.here) | ((with_reducible refine Out.cells ?_); first | rfl | (simp; done)) | ((with_reducible refine Out.row ?_); first | rfl | (simp; done)) | (with_reducible apply Out.there))) ?_)) (.inl ⟨ht15, rfl, rfl⟩))
  · skip
    refine J.iteF ?_
    refine J.op bd143 ?_ -- @t17 vS (Instr.build 143 #[])
    refine J.boxA fun bt18 => ?_
    refine J.op fa53_0 ?_
    refine J.op (R.ld o48 (by with_reducible repeat (first | exact Pick.here | apply Pick.there)) rfl) ?_ -- @t20 vS (Instr.loadAt 48 t19)
    refine J.op (R.lenN sl48 (hX _) syms_len) ?_ -- @t21 bltS .len #[48] 3 #[false] [t20]
    refine J.bind ?_ -- @tv_1 bind tv_1 ([])
    refine J.block ?_
    -- @tx loop [(.int .i64 0)]
    have hc0 := Classical.not_not.1 ht15
    have hcl := cfg_len hc0
    refine J.nilRow (sz := 26) (E := 145) ?_
    refine J.loop (α := Nat × Option Addr × Nat × Nat) (fun (i, _) => i ≤ c.syms.length) (fun (i, _) => [.int .i64 i]) (fun (i, a, n, cc) => [Ent.row (.slice a n cc) 26 (wks (newKs (c.syms.take i))) 145, Ent.cells bt18 [.slice a n cc, .int .i64 0, .int .i64 0] 143, Ent.cells bt1 (c.cells x y) 53]) (fun (i, _) => c.syms.length - i) (0, none, 0, 0) (Nat.zero_le _) rfl (Imp.take (by (try dsimp only); repeat (first | exact Has.nil | refine Has.cons (by repeat (first | (with_reducible exact Out.here) | ((with_reducible refine Out.cells ?_); first | rfl | (simp; done)) | ((with_reducible refine Out.row ?_); first | rfl | (simp; done)) | (with_reducible apply Out.there))) ?_))) ?_
    rintro ⟨i, a, n, cc⟩ hi
    dsimp only at hi ⊢
    try simp only [List.headD_cons, List.tail_cons]
    refine J.opD R.lss (fun ht23 => ?_) (fun ht23 => ?_) -- @t23 binS .lss 3 (.tmp 22) (.tmp 21) (tx.headD undef) t21
    · skip
      refine J.iteT ?_
      refine J.bind ?_ -- @tv bind tv ([])
      refine J.block ?_
      obtain ⟨s, hs⟩ := get_ex (l := c.syms) (i := i) (by omega)
      refine J.ixW sl48 hX (by omega) (syms_get hs) fun b o hkt24 => ?_ -- @t24 ix t20 (tx.headD undef)
      refine J.op (R.ldKA ag123 (hkt24 _) rfl) ?_ -- @t25 vS (Instr.loadAt 123 t24)
      refine J.alloc z123 fun bt8 => ?_
      refine J.stW sz123 (by with_reducible repeat (first | exact Pick.here | apply Pick.there)) rfl rfl rfl ?_ -- @tu uS (Instr.storeAt 123 t8 t25)
      refine J.draw ?_
      refine J.op R.nil ?_ -- @t28 nilS t18
      refine J.op fa143_0 ?_
      refine J.op (R.ld o141 (by with_reducible repeat (first | exact Pick.here | apply Pick.there)) rfl) ?_ -- @t30 vS (Instr.loadAt 141 t29)
      refine J.op (R.ldA ag123 (by with_reducible repeat (first | exact Pick.here | apply Pick.there)) rfl) ?_ -- @t31 vS (Instr.loadAt 123 t8)
      refine J.op bd145_0 ?_ -- @t32 vS (Instr.build 145 #[(0, t31)])
      refine J.bs bs141_1 fun bt33 => ?_ -- @t33 vS (Instr.buildSlice 141 1 #[(0, t32)])
      refine J.chkR (R.ld o141 (by with_reducible repeat (first | exact Pick.here | apply Pick.there)) rfl) ?_ -- @chk:t30 vS (Instr.loadAt 141 t29)
      refine J.chkR fa143_0 ?_ -- @chk:t29 vS (Instr.fieldAt 143 t28 0)
      refine J.chkR R.nil ?_ -- @chk:t28 nilS t18
      refine J.append sl141 (by with_reducible repeat (first | exact Pick.here | apply Pick.there)) (SeeS.lit (els := [s.cells ++ Know.zero.cells]) (by with_reducible repeat (first | exact Pick.here | apply Pick.there)) (by rfl) (by intro l hl; simp at hl; subst hl; rfl) (by rfl) (by decide)) (by intro l hl; simp at hl; subst hl; exact ⟨rfl, allOne_spec rfl⟩) (by rw [wks_len, newKs_len, List.length_take]; simp; omega) (by rw [wks_len, newKs_len, List.length_take]; simp [maxLen]; omega) fun at34 nt34 ct34 => ?_
      rw [newKs_app hs] -- @t34 bltS .append #[141, 141] 141 #[false, false] [t30, t33]
      refine J.op R.nil ?_ -- @t35 nilS t18
      refine J.op fa143_0 ?_
      refine J.st sz141 (by with_reducible repeat (first | exact Pick.here | apply Pick.there)) (by repeat (first | exact .zero | exact .nil | apply Upd.succ | apply UpdN.cons)) rfl ?_ -- @tu_1 uS (Instr.storeAt 141 t36 t34)
      refine J.done ?_ -- then tv = []
      refine J.op (R.add64 (by omega)) ?_ -- @t37 binS .add 3 (.tmp 22) (.const (.int .i64 1)) (tx.headD undef) (.int .i64 1)
      -- @again[t37]
      exact J.done ⟨(i + 1, at34, nt34, ct34), by dsimp only; omega, rfl, Imp.take (by (try dsimp only); repeat (first | exact Has.nil | refine Has.cons (by repeat (first | (with_reducible exact Out.here) | ((with_reducible refine Out.cells ?_); first | rfl | (simp; done)) | ((with_reducible refine Out.row ?_); first | rfl | (simp; done)) | (with_reducible apply Out.there))) ?_)), by dsimp only; omega⟩
    · skip
      refine J.iteF ?_
      refine J.done ⟨fun _ => ?_, fun h => absurd rfl h⟩ -- exit []
      -- @ret[t18,(.int.i640)]
      obtain rfl : i = c.syms.length := by omega
      rw [List.take_length]
      refine J.fact (φ := ∃ g, a = some ⟨g, 0, none⟩) (fun _ _ hs => ?_) fun hg => ?_
      · obtain ⟨g, hg, _⟩ := Row.shape (els := wks (newKs c.syms)) (by with_reducible repeat (first | exact Pick.here | apply Pick.there)) (by intro h; have h2 : (wks (newKs c.syms)).length = 0 := (by rw [h]; rfl); rw [wks_len, newKs_len] at h2; omega) hs
        exact ⟨g, hg⟩
      obtain ⟨g, rfl⟩ := hg
      exact J.done (RetQ.gt (es := WatH bt18 g n cc (newW c)) (.tmp (.tmp .nil)) (by (try dsimp only); repeat (first | exact Has.nil | refine Has.cons (by repeat (first | (with_reducible exact Out.here) | ((with_reducible refine Out.cells ?_); first | rfl | (simp; done)) | ((with_reducible refine Out.row ?_); first | rfl | (simp; done)) | (with_reducible apply Out.there))) ?_)) (.inr ⟨hc0, _, _, _, _, rfl, rfl⟩))

/-- (*damper/damperref32.Watch).late -/
theorem s112 (br gr nr cr : Nat) (st : Wst) (x y : Value) (c : Cfg) (tick : Int) :
    FnE Try.prog 112 [.pointer (some ⟨br, 0, none⟩), .int .i64 tick] (RatA br gr nr cr st x y c) (.bool (lateW st tick)) := by
  refine fn_of_J (cx := cx112) hmix Try.func112 (by kernel_rfl) (eq112 _ _) fun w hw => ?_
  have hS : ∀ H, SeeS ⟨Try.prog, w, footOf []⟩ H (.slice (some ⟨gr, 0, none⟩) nr cr) 10 (kns st.l) := fun H => SeeS.ofW0 hw.2 kns_ne
  have hlm := hw.2.le
  have hn := hw.2.len
  simp only [kns_len, maxLen] at hlm hn
  subst hn
  refine J.op R.nil ?_ -- @t8 nilS a0
  refine J.op fa83_3 ?_
  refine J.op (R.ldBk hw.1 not_foot o2 rfl) ?_ -- @t10 vS (Instr.loadAt 2 t9)
  refine J.opD R.lss (fun ht11 => ?_) (fun ht11 => ?_) -- @t11 binS .lss 2 (.tmp 6) (.tmp 10) a1 t10
  · skip
    refine J.iteT ?_
    -- @ret[(.booltrue)]
    exact J.done (RetQ.ge (.tmp (.nil)) (by simp [mkRes, lateW, ht11]))
  · skip
    refine J.iteF ?_
    refine J.bind ?_ -- @tv_2 bind tv_2 ([4])
    refine J.block ?_
    -- @tx loop [(.bool false), (.int .i64 0)]
    refine J.loopH (α := Nat) (fun i => i ≤ st.l.length ∧ ∀ j x, j < i → st.l[j]? = some x → ¬ (x.k.dl ≠ 0 ∧ x.k.dl < tick)) (fun i => [.bool false, .int .i64 i]) (fun i => st.l.length - i) 0 ⟨Nat.zero_le _, fun j x h => absurd h (Nat.not_lt_zero j)⟩ rfl ?_
    rintro i ⟨hi, hall⟩
    try simp only [List.headD_cons, List.tail_cons]
    refine J.op R.nil ?_ -- @t14 nilS a0
    refine J.op fa83_1 ?_
    refine J.op (R.ldBk hw.1 not_foot o81 rfl) ?_ -- @t16 vS (Instr.loadAt 81 t15)
    refine J.op (R.lenS sl81) ?_ -- @t17 bltS .len #[81] 3 #[false] [t16]
    refine J.opD R.lss (fun ht18 => ?_) (fun ht18 => ?_) -- @t18 binS .lss 3 (.tmp 12) (.tmp 17) (tx.tail.headD undef) t17
    · skip
      refine J.iteT ?_
      refine J.bind ?_ -- @tv_1 bind tv_1 ([4])
      refine J.block ?_
      obtain ⟨k, hk⟩ := get_ex (l := st.l) (i := i) (by omega)
      refine J.bindB ((k.k.dl ≠ 0 ∧ k.k.dl < tick)) ?_ (fun hbtv => ?_) (fun hbtv => ?_) -- @tv
      · skip
        refine J.op R.nil ?_ -- @t22 nilS a0
        refine J.op fa83_1 ?_
        refine J.op (R.ldBk hw.1 not_foot o81 rfl) ?_ -- @t24 vS (Instr.loadAt 81 t23)
        refine J.op (R.ixN sl81 (i := i) (by omega)) ?_ -- @t26 ix t24 (tx.tail.headD undef)
        refine J.op fa88_3 ?_
        refine J.op (R.ldRd o2 hw.2 not_foot (kns_at hk) (off := 5) rfl rfl) ?_ -- @t28 vS (Instr.loadAt 2 t27)
        refine J.opD R.neq (fun ht29 => ?_) (fun ht29 => ?_) -- @t29 binS .neq 2 (.tmp 28) (.const (.int .i64 0)) t28 (.int .i64 0)
        · skip
          refine J.gopT rfl ?_
          refine J.op R.pure ?_
          refine J.gopT rfl ?_
          refine J.op R.pure ?_
          refine J.gopT rfl ?_
          refine J.op R.nil ?_ -- @t33 nilS t32
          refine J.gopT rfl ?_
          refine J.op fa83_1 ?_
          refine J.gopT rfl ?_
          refine J.op (R.ldBk hw.1 not_foot o81 rfl) ?_ -- @t35 vS (Instr.loadAt 81 t34)
          refine J.gopT rfl ?_
          refine J.op R.pure ?_
          refine J.gopT rfl ?_
          refine J.op (R.ixN sl81 (i := i) (by omega)) ?_ -- @t37 ix t35 t36
          refine J.gopT rfl ?_
          refine J.op fa88_3 ?_
          refine J.gopT rfl ?_
          refine J.op (R.ldRd o2 hw.2 not_foot (kns_at hk) (off := 5) rfl rfl) ?_ -- @t39 vS (Instr.loadAt 2 t38)
          refine J.gopT rfl ?_
          refine J.op R.gtr ?_ -- @t40 binS .gtr 2 (.tmp 31) (.tmp 39) t31 t39
          refine J.op R.pickT ?_ -- @t41 pickS t29 t40 (.bool false)
          exact J.done ⟨rfl, by simp [*], rfl⟩ -- @leaf[t41]
        · skip
          refine J.gopF rfl ?_
          refine J.gopF rfl ?_
          refine J.gopF rfl ?_
          refine J.gopF rfl ?_
          refine J.gopF rfl ?_
          refine J.gopF rfl ?_
          refine J.gopF rfl ?_
          refine J.gopF rfl ?_
          refine J.gopF rfl ?_
          refine J.gopF rfl ?_
          refine J.op R.pickF ?_ -- @t41 pickS t29 t40 (.bool false)
          exact J.done ⟨rfl, by simp [*], rfl⟩ -- @leaf[t41]
      · skip
        refine J.iteT ?_
        -- @ret[(.booltrue)]#2
        exact J.done (RetQ.ge (.tmp (.nil)) (by rw [lateW_yes hk hbtv]; rfl))
      · skip
        refine J.iteF ?_
        refine J.done ?_ -- then tv_1 = [(tx.headD undef)]
        refine J.op (R.add64 (by omega)) ?_ -- @t20 binS .add 3 (.tmp 19) (.const (.int .i64 1)) (tx.tail.headD undef) (.int .i64 1)
        -- @again[(tv_1.headDundef),t20]
        refine J.done ⟨i + 1, ⟨by omega, fun j y hj hjt => ?_⟩, rfl, Imp.refl _, by omega⟩
        rcases Nat.lt_succ_iff_lt_or_eq.1 hj with hj | rfl
        · exact hall j y hj hjt
        · rw [hk] at hjt; cases hjt; exact hbtv
    · skip
      refine J.iteF ?_
      refine J.done ⟨fun _ => ?_, fun h => absurd rfl h⟩ -- exit [(tx.headD undef)]
      -- @ret[(.boolfalse)]
      exact J.done (RetQ.ge (.tmp (.nil)) (by rw [lateW_no ht11 (fun j x hj => hall j x (by omega))]; rfl))

/-- damper/damperref32.trade -/
theorem s113 (k : Know) (m : Msg) :
    FnE Try.prog 113 [.agg k.cells.toArray, .agg m.cells.toArray] (fun _ => True) (.int .i64 (trF k m)) := by
  refine fn_of_J (cx := cx113) hmix Try.func113 (by kernel_rfl) (eq113 _ _) fun w hw => ?_
  refine J.boxA fun bt2 => ?_
  refine J.boxA fun bt3 => ?_
  refine J.op fa46_7 ?_
  refine J.op (R.ld o2 (by with_reducible repeat (first | exact Pick.here | apply Pick.there)) rfl) ?_ -- @t8 vS (Instr.loadAt 2 t7)
  refine J.opD R.lss (fun ht9 => ?_) (fun ht9 => ?_) -- @t9 binS .lss 2 (.tmp 8) (.const (.int .i64 1)) t8 (.int .i64 1)
  · skip
    refine J.iteT ?_
    -- @ret[(.int.i649)]
    exact J.done (RetQ.ge (.tmp (.nil)) (by first | rfl | (simp [trF, openW, inW, inBand, maxP, mkRes, *]; done) | (simp_all [trF, openW, inW, inBand, maxP, mkRes]; done) | (simp_all [trF, openW, inW, inBand, maxP, mkRes]; first | omega | (rw [decide_eq_false_iff_not]; omega) | (rw [decide_eq_true_iff]; omega)) | (simp only [trF, openW, inW, inBand, maxP, mkRes]; (repeat' split) <;> first | rfl | omega | (simp_all; done) | (simp_all; omega))))
  · skip
    refine J.iteF ?_
    refine J.op fa46_8 ?_
    refine J.op (R.ld o3 (by with_reducible repeat (first | exact Pick.here | apply Pick.there)) rfl) ?_ -- @t11 vS (Instr.loadAt 3 t10)
    refine J.bind ?_ -- @tv_5 bind tv_5 ([5, 6])
    refine J.block ?_
    refine J.opD R.eql (fun ht13 => ?_) (fun ht13 => ?_) -- @t13 binS .eql 3 (.tmp 11) (.const (.int .i64 1)) t11 (.int .i64 1)
    · skip
      refine J.bind ?_ -- @tv_4 bind tv_4 ([5, 6])
      refine J.iteT ?_
      refine J.op fa88_0 ?_
      refine J.op (R.ld o3 (by with_reducible repeat (first | exact Pick.here | apply Pick.there)) rfl) ?_ -- @t15 vS (Instr.loadAt 3 t14)
      refine J.op R.eql ?_ -- @t16 binS .eql 3 (.tmp 15) (.const (.int .i64 2)) t15 (.int .i64 2)
      refine J.op fa88_1 ?_
      refine J.op (R.ldP ag85 (by with_reducible repeat (first | exact Pick.here | apply Pick.there)) rfl rfl) ?_ -- @t18 vS (Instr.loadAt 85 t17)
      refine J.op fa46_6 ?_
      refine J.op (R.ld o2 (by with_reducible repeat (first | exact Pick.here | apply Pick.there)) rfl) ?_ -- @t20 vS (Instr.loadAt 2 t19)
      refine J.callE en145 (s145 _ _ _) rfl (fun _ _ _ => trivial) ?_ -- @t21 callS (.func (.func 145) #[] #[]) [t18, t20]
      refine J.done ?_ -- then tv_4 = [t16, t21]
      refine J.done ?_ -- then tv_5 = [(tv_4.headD undef), (tv_4.tail.headD undef)]
      refine J.opB R.not (fun ht51 => ?_) (fun ht51 => ?_) -- @t51 vS (Op.unary .not (tv_5.headD undef))
      · skip
        refine J.iteT ?_
        -- @ret[(.int.i6410)]
        exact J.done (RetQ.ge (.tmp (.nil)) (by first | rfl | (simp [trF, openW, inW, inBand, maxP, mkRes, *]; done) | (simp_all [trF, openW, inW, inBand, maxP, mkRes]; done) | (simp_all [trF, openW, inW, inBand, maxP, mkRes]; first | omega | (rw [decide_eq_false_iff_not]; omega) | (rw [decide_eq_true_iff]; omega)) | (simp only [trF, openW, inW, inBand, maxP, mkRes]; (repeat' split) <;> first | rfl | omega | (simp_all; done) | (simp_all; omega))))
      · skip
        refine J.iteF ?_
        refine J.opB R.not (fun ht53 => ?_) (fun ht53 => ?_) -- @t53 vS (Op.unary .not (tv_5.tail.headD undef))
        · skip
          refine J.iteT ?_
          -- @ret[(.int.i6411)]
          exact J.done (RetQ.ge (.tmp (.nil)) (by first | rfl | (simp [trF, openW, inW, inBand, maxP, mkRes, *]; done) | (simp_all [trF, openW, inW, inBand, maxP, mkRes]; done) | (simp_all [trF, openW, inW, inBand, maxP, mkRes]; first | omega | (rw [decide_eq_false_iff_not]; omega) | (rw [decide_eq_true_iff]; omega)) | (simp only [trF, openW, inW, inBand, maxP, mkRes]; (repeat' split) <;> first | rfl | omega | (simp_all; done) | (simp_all; omega))))
        · skip
          refine J.iteF ?_
          -- @ret[(.int.i640)]
          exact J.done (RetQ.ge (.tmp (.nil)) (by first | rfl | (simp [trF, openW, inW, inBand, maxP, mkRes, *]; done) | (simp_all [trF, openW, inW, inBand, maxP, mkRes]; done) | (simp_all [trF, openW, inW, inBand, maxP, mkRes]; first | omega | (rw [decide_eq_false_iff_not]; omega) | (rw [decide_eq_true_iff]; omega)) | (simp only [trF, openW, inW, inBand, maxP, mkRes]; (repeat' split) <;> first | rfl | omega | (simp_all; done) | (simp_all; omega))))
    · skip
      refine J.bind ?_ -- @tv_4 bind tv_4 ([5, 6])
      refine J.iteF ?_
      refine J.opD R.eql (fun ht23 => ?_) (fun ht23 => ?_) -- @t23 binS .eql 3 (.tmp 11) (.const (.int .i64 2)) t11 (.int .i64 2)
      · skip
        refine J.bind ?_ -- @tv_3 bind tv_3 ([5, 6])
        refine J.iteT ?_
        refine J.op fa88_0 ?_
        refine J.op (R.ld o3 (by with_reducible repeat (first | exact Pick.here | apply Pick.there)) rfl) ?_ -- @t25 vS (Instr.loadAt 3 t24)
        refine J.op R.eql ?_ -- @t26 binS .eql 3 (.tmp 25) (.const (.int .i64 4)) t25 (.int .i64 4)
        refine J.op fa88_2 ?_
        refine J.op (R.ldP ag85 (by with_reducible repeat (first | exact Pick.here | apply Pick.there)) rfl rfl) ?_ -- @t28 vS (Instr.loadAt 85 t27)
        refine J.op fa46_6 ?_
        refine J.op (R.ld o2 (by with_reducible repeat (first | exact Pick.here | apply Pick.there)) rfl) ?_ -- @t30 vS (Instr.loadAt 2 t29)
        refine J.callE en145 (s145 _ _ _) rfl (fun _ _ _ => trivial) ?_ -- @t31 callS (.func (.func 145) #[] #[]) [t28, t30]
        refine J.done ?_ -- then tv_3 = [t26, t31]
        refine J.done ?_ -- then tv_4 = [(tv_3.headD undef), (tv_3.tail.headD undef)]
        refine J.done ?_ -- then tv_5 = [(tv_4.headD undef), (tv_4.tail.headD undef)]
        refine J.opB R.not (fun ht51 => ?_) (fun ht51 => ?_) -- @t51 vS (Op.unary .not (tv_5.headD undef))
        · skip
          refine J.iteT ?_
          -- @ret[(.int.i6410)]
          exact J.done (RetQ.ge (.tmp (.nil)) (by first | rfl | (simp [trF, openW, inW, inBand, maxP, mkRes, *]; done) | (simp_all [trF, openW, inW, inBand, maxP, mkRes]; done) | (simp_all [trF, openW, inW, inBand, maxP, mkRes]; first | omega | (rw [decide_eq_false_iff_not]; omega) | (rw [decide_eq_true_iff]; omega)) | (simp only [trF, openW, inW, inBand, maxP, mkRes]; (repeat' split) <;> first | rfl | omega | (simp_all; done) | (simp_all; omega))))
        · skip
          refine J.iteF ?_
          refine J.opB R.not (fun ht53 => ?_) (fun ht53 => ?_) -- @t53 vS (Op.unary .not (tv_5.tail.headD undef))
          · skip
            refine J.iteT ?_
            -- @ret[(.int.i6411)]
            exact J.done (RetQ.ge (.tmp (.nil)) (by first | rfl | (simp [trF, openW, inW, inBand, maxP, mkRes, *]; done) | (simp_all [trF, openW, inW, inBand, maxP, mkRes]; done) | (simp_all [trF, openW, inW, inBand, maxP, mkRes]; first | omega | (rw [decide_eq_false_iff_not]; omega) | (rw [decide_eq_true_iff]; omega)) | (simp only [trF, openW, inW, inBand, maxP, mkRes]; (repeat' split) <;> first | rfl | omega | (simp_all; done) | (simp_all; omega))))
          · skip
            refine J.iteF ?_
            -- @ret[(.int.i640)]
            exact J.done (RetQ.ge (.tmp (.nil)) (by first | rfl | (simp [trF, openW, inW, inBand, maxP, mkRes, *]; done) | (simp_all [trF, openW, inW, inBand, maxP, mkRes]; done) | (simp_all [trF, openW, inW, inBand, maxP, mkRes]; first | omega | (rw [decide_eq_false_iff_not]; omega) | (rw [decide_eq_true_iff]; omega)) | (simp only [trF, openW, inW, inBand, maxP, mkRes]; (repeat' split) <;> first | rfl | omega | (simp_all; done) | (simp_all; omega))))
      · skip
        refine J.bind ?_ -- @tv_3 bind tv_3 ([5, 6])
        refine J.iteF ?_
        refine J.opD R.eql (fun ht33 => ?_) (fun ht33 => ?_) -- @t33 binS .eql 3 (.tmp 11) (.const (.int .i64 3)) t11 (.int .i64 3)
        · skip
          refine J.bind ?_ -- @tv_2 bind tv_2 ([5, 6])
          refine J.iteT ?_
          refine J.bind ?_ -- @tv bind tv ([5])
          refine J.op fa88_0 ?_
          refine J.op (R.ld o3 (by with_reducible repeat (first | exact Pick.here | apply Pick.there)) rfl) ?_ -- @t35 vS (Instr.loadAt 3 t34)
          refine J.opD R.eql (fun ht36 => ?_) (fun ht36 => ?_) -- @t36 binS .eql 3 (.tmp 35) (.const (.int .i64 4)) t35 (.int .i64 4)
          · skip
            refine J.gopF rfl ?_
            refine J.gopF rfl ?_
            refine J.gopF rfl ?_
            refine J.op R.pickT ?_ -- @t41 pickS t36 (.bool true) t40
            refine J.done ?_ -- then tv = [t41]
            refine J.bind ?_ -- @tv_1 bind tv_1 ([6])
            refine J.op fa46_6 ?_
            refine J.op (R.ld o2 (by with_reducible repeat (first | exact Pick.here | apply Pick.there)) rfl) ?_ -- @t43 vS (Instr.loadAt 2 t42)
            refine J.opD R.geq (fun ht44 => ?_) (fun ht44 => ?_) -- @t44 binS .geq 2 (.tmp 43) (.const (.int .i64 1)) t43 (.int .i64 1)
            · skip
              refine J.gopT rfl ?_
              refine J.op fa46_6 ?_
              refine J.gopT rfl ?_
              refine J.op (R.ld o2 (by with_reducible repeat (first | exact Pick.here | apply Pick.there)) rfl) ?_ -- @t47 vS (Instr.loadAt 2 t46)
              refine J.gopT rfl ?_
              refine J.op R.leq ?_ -- @t48 binS .leq 2 (.tmp 47) (.const (.int .i64 1099511627776)) t47 (.int .i64 1099511627776)
              refine J.op R.pickT ?_ -- @t49 pickS t44 t48 (.bool false)
              refine J.done ?_ -- then tv_1 = [t49]
              refine J.done ?_ -- then tv_2 = [(tv.headD undef), (tv_1.headD undef)]
              refine J.done ?_ -- then tv_3 = [(tv_2.headD undef), (tv_2.tail.headD undef)]
              refine J.done ?_ -- then tv_4 = [(tv_3.headD undef), (tv_3.tail.headD undef)]
              refine J.done ?_ -- then tv_5 = [(tv_4.headD undef), (tv_4.tail.headD undef)]
              refine J.op (v := .bool false) R.not ?_
              refine J.iteF ?_
              refine J.opB R.not (fun ht53 => ?_) (fun ht53 => ?_) -- @t53 vS (Op.unary .not (tv_5.tail.headD undef))
              · skip
                refine J.iteT ?_
                -- @ret[(.int.i6411)]
                exact J.done (RetQ.ge (.tmp (.nil)) (by first | rfl | (simp [trF, openW, inW, inBand, maxP, mkRes, *]; done) | (simp_all [trF, openW, inW, inBand, maxP, mkRes]; done) | (simp_all [trF, openW, inW, inBand, maxP, mkRes]; first | omega | (rw [decide_eq_false_iff_not]; omega) | (rw [decide_eq_true_iff]; omega)) | (simp only [trF, openW, inW, inBand, maxP, mkRes]; (repeat' split) <;> first | rfl | omega | (simp_all; done) | (simp_all; omega))))
              · skip
                refine J.iteF ?_
                -- @ret[(.int.i640)]
                exact J.done (RetQ.ge (.tmp (.nil)) (by first | rfl | (simp [trF, openW, inW, inBand, maxP, mkRes, *]; done) | (simp_all [trF, openW, inW, inBand, maxP, mkRes]; done) | (simp_all [trF, openW, inW, inBand, maxP, mkRes]; first | omega | (rw [decide_eq_false_iff_not]; omega) | (rw [decide_eq_true_iff]; omega)) | (simp only [trF, openW, inW, inBand, maxP, mkRes]; (repeat' split) <;> first | rfl | omega | (simp_all; done) | (simp_all; omega))))
            · skip
              refine J.gopF rfl ?_
              refine J.gopF rfl ?_
              refine J.gopF rfl ?_
              refine J.op R.pickF ?_ -- @t49 pickS t44 t48 (.bool false)
              refine J.done ?_ -- then tv_1 = [t49]
              refine J.done ?_ -- then tv_2 = [(tv.headD undef), (tv_1.headD undef)]
              refine J.done ?_ -- then tv_3 = [(tv_2.headD undef), (tv_2.tail.headD undef)]
              refine J.done ?_ -- then tv_4 = [(tv_3.headD undef), (tv_3.tail.headD undef)]
              refine J.done ?_ -- then tv_5 = [(tv_4.headD undef), (tv_4.tail.headD undef)]
              refine J.op (v := .bool false) R.not ?_
              refine J.iteF ?_
              refine J.op (v := .bool true) R.not ?_
              refine J.iteT ?_
              -- @ret[(.int.i6411)]
              exact J.done (RetQ.ge (.tmp (.nil)) (by first | rfl | (simp [trF, openW, inW, inBand, maxP, mkRes, *]; done) | (simp_all [trF, openW, inW, inBand, maxP, mkRes]; done) | (simp_all [trF, openW, inW, inBand, maxP, mkRes]; first | omega | (rw [decide_eq_false_iff_not]; omega) | (rw [decide_eq_true_iff]; omega)) | (simp only [trF, openW, inW, inBand, maxP, mkRes]; (repeat' split) <;> first | rfl | omega | (simp_all; done) | (simp_all; omega))))
          · skip
            refine J.gopT rfl ?_
            refine J.op fa88_0 ?_
            refine J.gopT rfl ?_
            refine J.op (R.ld o3 (by with_reducible repeat (first | exact Pick.here | apply Pick.there)) rfl) ?_ -- @t39 vS (Instr.loadAt 3 t38)
            refine J.gopT rfl ?_
            refine J.op R.eql ?_ -- @t40 binS .eql 3 (.tmp 39) (.const (.int .i64 1)) t39 (.int .i64 1)
            refine J.op R.pickF ?_ -- @t41 pickS t36 (.bool true) t40
            refine J.done ?_ -- then tv = [t41]
            refine J.bind ?_ -- @tv_1 bind tv_1 ([6])
            refine J.op fa46_6 ?_
            refine J.op (R.ld o2 (by with_reducible repeat (first | exact Pick.here | apply Pick.there)) rfl) ?_ -- @t43 vS (Instr.loadAt 2 t42)
            refine J.opD R.geq (fun ht44 => ?_) (fun ht44 => ?_) -- @t44 binS .geq 2 (.tmp 43) (.const (.int .i64 1)) t43 (.int .i64 1)
            · skip
              refine J.gopT rfl ?_
              refine J.op fa46_6 ?_
              refine J.gopT rfl ?_
              refine J.op (R.ld o2 (by with_reducible repeat (first | exact Pick.here | apply Pick.there)) rfl) ?_ -- @t47 vS (Instr.loadAt 2 t46)
              refine J.gopT rfl ?_
              refine J.op R.leq ?_ -- @t48 binS .leq 2 (.tmp 47) (.const (.int .i64 1099511627776)) t47 (.int .i64 1099511627776)
              refine J.op R.pickT ?_ -- @t49 pickS t44 t48 (.bool false)
              refine J.done ?_ -- then tv_1 = [t49]
              refine J.done ?_ -- then tv_2 = [(tv.headD undef), (tv_1.headD undef)]
              refine J.done ?_ -- then tv_3 = [(tv_2.headD undef), (tv_2.tail.headD undef)]
              refine J.done ?_ -- then tv_4 = [(tv_3.headD undef), (tv_3.tail.headD undef)]
              refine J.done ?_ -- then tv_5 = [(tv_4.headD undef), (tv_4.tail.headD undef)]
              refine J.opB R.not (fun ht51 => ?_) (fun ht51 => ?_) -- @t51 vS (Op.unary .not (tv_5.headD undef))
              · skip
                refine J.iteT ?_
                -- @ret[(.int.i6410)]
                exact J.done (RetQ.ge (.tmp (.nil)) (by first | rfl | (simp [trF, openW, inW, inBand, maxP, mkRes, *]; done) | (simp_all [trF, openW, inW, inBand, maxP, mkRes]; done) | (simp_all [trF, openW, inW, inBand, maxP, mkRes]; first | omega | (rw [decide_eq_false_iff_not]; omega) | (rw [decide_eq_true_iff]; omega)) | (simp only [trF, openW, inW, inBand, maxP, mkRes]; (repeat' split) <;> first | rfl | omega | (simp_all; done) | (simp_all; omega))))
              · skip
                refine J.iteF ?_
                refine J.opB R.not (fun ht53 => ?_) (fun ht53 => ?_) -- @t53 vS (Op.unary .not (tv_5.tail.headD undef))
                · skip
                  refine J.iteT ?_
                  -- @ret[(.int.i6411)]
                  exact J.done (RetQ.ge (.tmp (.nil)) (by first | rfl | (simp [trF, openW, inW, inBand, maxP, mkRes, *]; done) | (simp_all [trF, openW, inW, inBand, maxP, mkRes]; done) | (simp_all [trF, openW, inW, inBand, maxP, mkRes]; first | omega | (rw [decide_eq_false_iff_not]; omega) | (rw [decide_eq_true_iff]; omega)) | (simp only [trF, openW, inW, inBand, maxP, mkRes]; (repeat' split) <;> first | rfl | omega | (simp_all; done) | (simp_all; omega))))
                · skip
                  refine J.iteF ?_
                  -- @ret[(.int.i640)]
                  exact J.done (RetQ.ge (.tmp (.nil)) (by first | rfl | (simp [trF, openW, inW, inBand, maxP, mkRes, *]; done) | (simp_all [trF, openW, inW, inBand, maxP, mkRes]; done) | (simp_all [trF, openW, inW, inBand, maxP, mkRes]; first | omega | (rw [decide_eq_false_iff_not]; omega) | (rw [decide_eq_true_iff]; omega)) | (simp only [trF, openW, inW, inBand, maxP, mkRes]; (repeat' split) <;> first | rfl | omega | (simp_all; done) | (simp_all; omega))))
            · skip
              refine J.gopF rfl ?_
              refine J.gopF rfl ?_
              refine J.gopF rfl ?_
              refine J.op R.pickF ?_ -- @t49 pickS t44 t48 (.bool false)
              refine J.done ?_ -- then tv_1 = [t49]
              refine J.done ?_ -- then tv_2 = [(tv.headD undef), (tv_1.headD undef)]
              refine J.done ?_ -- then tv_3 = [(tv_2.headD undef), (tv_2.tail.headD undef)]
              refine J.done ?_ -- then tv_4 = [(tv_3.headD undef), (tv_3.tail.headD undef)]
              refine J.done ?_ -- then tv_5 = [(tv_4.headD undef), (tv_4.tail.headD undef)]
              refine J.opB R.not (fun ht51 => ?_) (fun ht51 => ?_) -- @t51 vS (Op.unary .not (tv_5.headD undef))
              · skip
                refine J.iteT ?_
                -- @ret[(.int.i6410)]
                exact J.done (RetQ.ge (.tmp (.nil)) (by first | rfl | (simp [trF, openW, inW, inBand, maxP, mkRes, *]; done) | (simp_all [trF, openW, inW, inBand, maxP, mkRes]; done) | (simp_all [trF, openW, inW, inBand, maxP, mkRes]; first | omega | (rw [decide_eq_false_iff_not]; omega) | (rw [decide_eq_true_iff]; omega)) | (simp only [trF, openW, inW, inBand, maxP, mkRes]; (repeat' split) <;> first | rfl | omega | (simp_all; done) | (simp_all; omega))))
              · skip
                refine J.iteF ?_
                refine J.op (v := .bool true) R.not ?_
                refine J.iteT ?_
                -- @ret[(.int.i6411)]
                exact J.done (RetQ.ge (.tmp (.nil)) (by first | rfl | (simp [trF, openW, inW, inBand, maxP, mkRes, *]; done) | (simp_all [trF, openW, inW, inBand, maxP, mkRes]; done) | (simp_all [trF, openW, inW, inBand, maxP, mkRes]; first | omega | (rw [decide_eq_false_iff_not]; omega) | (rw [decide_eq_true_iff]; omega)) | (simp only [trF, openW, inW, inBand, maxP, mkRes]; (repeat' split) <;> first | rfl | omega | (simp_all; done) | (simp_all; omega))))
        · skip
          refine J.bind ?_ -- @tv_2 bind tv_2 ([5, 6])
          refine J.iteF ?_
          refine J.done ?_ -- then tv_2 = [(.bool false), (.bool false)]
          refine J.done ?_ -- then tv_3 = [(tv_2.headD undef), (tv_2.tail.headD undef)]
          refine J.done ?_ -- then tv_4 = [(tv_3.headD undef), (tv_3.tail.headD undef)]
          refine J.done ?_ -- then tv_5 = [(tv_4.headD undef), (tv_4.tail.headD undef)]
          refine J.op (v := .bool true) R.not ?_
          refine J.iteT ?_
          -- @ret[(.int.i6410)]
          exact J.done (RetQ.ge (.tmp (.nil)) (by first | rfl | (simp [trF, openW, inW, inBand, maxP, mkRes, *]; done) | (simp_all [trF, openW, inW, inBand, maxP, mkRes]; done) | (simp_all [trF, openW, inW, inBand, maxP, mkRes]; first | omega | (rw [decide_eq_false_iff_not]; omega) | (rw [decide_eq_true_iff]; omega)) | (simp only [trF, openW, inW, inBand, maxP, mkRes]; (repeat' split) <;> first | rfl | omega | (simp_all; done) | (simp_all; omega))))

/-- (*damper/damperref32.Watch).Of -/
theorem s40 (br gr nr cr : Nat) (st : Wst) (x y : Value) (c : Cfg) (sym : Int) :
    FnE Try.prog 40 [.pointer (some ⟨br, 0, none⟩), .int .i64 sym] (RatA br gr nr cr st x y c) (.agg (knOf st sym).cells.toArray) := by
  refine fn_of_J (cx := cx40) hmix Try.func40 (by kernel_rfl) (eq40 _ _) fun w hw => ?_
  have hS : ∀ H, SeeS ⟨Try.prog, w, footOf []⟩ H (.slice (some ⟨gr, 0, none⟩) nr cr) 10 (kns st.l) := fun H => SeeS.ofW0 hw.2 kns_ne
  have hlm := hw.2.le
  have hn := hw.2.len
  simp only [kns_len, maxLen] at hlm hn
  subst hn
  refine J.alloc z88 fun bt4 => ?_
  refine J.bindBH (¬ (0 ≤ sym ∧ sym < st.l.length)) ([Ent.cells bt4 Know.zero.cells 88]) ?_ (fun hbtv => ?_) (fun hbtv => ?_) -- @tv
  · skip
    refine J.opD R.lss (fun ht6 => ?_) (fun ht6 => ?_) -- @t6 binS .lss 3 (.tmp 5) (.const (.int .i64 0)) a1 (.int .i64 0)
    · skip
      refine J.gopF rfl ?_
      refine J.gopF rfl ?_
      refine J.gopF rfl ?_
      refine J.gopF rfl ?_
      refine J.gopF rfl ?_
      refine J.gopF rfl ?_
      refine J.gopF rfl ?_
      refine J.op R.pickT ?_ -- @t15 pickS t6 (.bool true) t14
      exact J.done ⟨rfl, by simp only [List.cons.injEq, Value.bool.injEq, and_true]; first | (symm; rw [decide_eq_true_iff]; omega) | exact decide_eq_decide.2 (by omega), Imp.take (by (try dsimp only); repeat (first | exact Has.nil | refine Has.cons (by repeat (first | (with_reducible exact Out.here) | ((with_reducible refine Out.cells ?_); first | rfl | (simp; done)) | ((with_reducible refine Out.row ?_); first | rfl | (simp; done)) | (with_reducible apply Out.there))) ?_))⟩ -- @leaf[t15]
    · skip
      refine J.gopT rfl ?_
      refine J.op R.pure ?_
      refine J.gopT rfl ?_
      refine J.op R.pure ?_
      refine J.gopT rfl ?_
      refine J.op R.nil ?_ -- @t10 nilS t9
      refine J.gopT rfl ?_
      refine J.op fa83_1 ?_
      refine J.gopT rfl ?_
      refine J.op (R.ldBk hw.1 not_foot o81 rfl) ?_ -- @t12 vS (Instr.loadAt 81 t11)
      refine J.gopT rfl ?_
      refine J.op (R.lenS sl81) ?_ -- @t13 bltS .len #[81] 3 #[false] [t12]
      refine J.gopT rfl ?_
      refine J.op R.geq ?_ -- @t14 binS .geq 3 (.tmp 8) (.tmp 13) t8 t13
      refine J.op R.pickF ?_ -- @t15 pickS t6 (.bool true) t14
      exact J.done ⟨rfl, by simp only [List.cons.injEq, Value.bool.injEq, and_true]; first | (symm; rw [decide_eq_true_iff]; omega) | exact decide_eq_decide.2 (by omega), Imp.take (by (try dsimp only); repeat (first | exact Has.nil | refine Has.cons (by repeat (first | (with_reducible exact Out.here) | ((with_reducible refine Out.cells ?_); first | rfl | (simp; done)) | ((with_reducible refine Out.row ?_); first | rfl | (simp; done)) | (with_reducible apply Out.there))) ?_))⟩ -- @leaf[t15]
  · skip
    refine J.iteT ?_
    refine J.op bd88 ?_ -- @t16 vS (Instr.build 88 #[])
    refine J.stW sz88 (by with_reducible repeat (first | exact Pick.here | apply Pick.there)) rfl rfl rfl ?_ -- @tu uS (Instr.storeAt 88 t4 t16)
    -- @ret[t4]
    exact J.done (RetQ.ge (.cellA ag88 (by with_reducible repeat (first | exact Pick.here | apply Pick.there)) rfl (.nil)) (by rw [knOf_no (by simpa [inSym] using hbtv)]; rfl))
  · skip
    refine J.iteF ?_
    refine J.op R.nil ?_ -- @t18 nilS a0
    refine J.op fa83_1 ?_
    refine J.op (R.ldBk hw.1 not_foot o81 rfl) ?_ -- @t20 vS (Instr.loadAt 81 t19)
    obtain ⟨j, k, hsym, hk⟩ := inSym_at (st := st) (sym := sym) (by simpa [inSym] using Classical.not_not.1 hbtv)
    rw [hsym]
    refine J.op (R.ixN sl81 (i := j) (by have := (List.getElem?_eq_some_iff.1 hk).1; omega)) ?_ -- @t22 ix t20 a1
    refine J.op (R.ldRdA ag88 hw.2 not_foot (kns_at hk) (off := 0) (l' := k.k.cells) rfl rfl rfl) ?_ -- @t23 vS (Instr.loadAt 88 t22)
    refine J.stW sz88 (by with_reducible repeat (first | exact Pick.here | apply Pick.there)) rfl rfl rfl ?_ -- @tu_1 uS (Instr.storeAt 88 t4 t23)
    -- @ret[t4]#2
    exact J.done (RetQ.ge (.cellA ag88 (by with_reducible repeat (first | exact Pick.here | apply Pick.there)) rfl (.nil)) (by rw [knOf_at (sym := (j : Int)) rfl hk]; rfl))

/-- (*damper/damperref32.Watch).Check -/
theorem s75 (br gr nr cr : Nat) (st : Wst) (x y : Value) (c : Cfg) (m : Msg) (hm : m.ok) (hs0 : 0 ≤ st.seq ∧ st.seq ≤ 1152921504606846976) (hs1 : -1152921504606846976 ≤ m.seq) :
    FnE Try.prog 75 [.pointer (some ⟨br, 0, none⟩), .agg m.cells.toArray] (RatA br gr nr cr st x y c) (.int .i64 (ckW st m)) := by
  refine fn_of_J (cx := cx75) hmix Try.func75 (by kernel_rfl) (eq75 _ _) fun w hw => ?_
  have hS : ∀ H, SeeS ⟨Try.prog, w, footOf []⟩ H (.slice (some ⟨gr, 0, none⟩) nr cr) 10 (kns st.l) := fun H => SeeS.ofW0 hw.2 kns_ne
  have hlm := hw.2.le
  have hn := hw.2.len
  simp only [kns_len, maxLen] at hlm hn
  subst hn
  have hsq := hm.seq
  unfold i64R at hsq
  refine J.boxA fun bt3 => ?_
  have hwr : IntKind.i64.wrap (st.seq + 1) = st.seq + 1 := i64_in _ (by omega)
  refine J.bindBH (¬ m.seq = IntKind.i64.wrap (st.seq + 1)) ([Ent.cells bt3 m.cells 46]) ?_ (fun hbtv => ?_) (fun hbtv => ?_) -- @tv
  · skip
    refine J.draw ?_
    refine J.op fa46_2 ?_
    refine J.op (R.ld o2 (by with_reducible repeat (first | exact Pick.here | apply Pick.there)) rfl) ?_ -- @t6 vS (Instr.loadAt 2 t5)
    refine J.op (R.sub64 (by omega)) ?_ -- @t7 binS .sub 2 (.tmp 6) (.const (.int .i64 1)) t6 (.int .i64 1)
    refine J.op R.nil ?_ -- @t9 nilS a0
    refine J.op fa83_2 ?_
    refine J.op (R.ldBk hw.1 not_foot o2 rfl) ?_ -- @t11 vS (Instr.loadAt 2 t10)
    refine J.opD R.neq (fun ht12 => ?_) (fun ht12 => ?_) -- @t12 binS .neq 2 (.tmp 7) (.tmp 11) t7 t11
    · skip
      refine J.gopF rfl ?_
      refine J.gopF rfl ?_
      refine J.gopF rfl ?_
      refine J.op R.pickT ?_ -- @t17 pickS t12 (.bool true) t16
      exact J.done ⟨rfl, by rw [hwr]; simp only [List.cons.injEq, Value.bool.injEq, and_true]; first | (symm; rw [decide_eq_true_iff]; omega) | exact decide_eq_decide.2 (by omega), Imp.take (by (try dsimp only); repeat (first | exact Has.nil | refine Has.cons (by repeat (first | (with_reducible exact Out.here) | ((with_reducible refine Out.cells ?_); first | rfl | (simp; done)) | ((with_reducible refine Out.row ?_); first | rfl | (simp; done)) | (with_reducible apply Out.there))) ?_))⟩ -- @leaf[t17]
    · skip
      refine J.gopT rfl ?_
      refine J.op fa46_2 ?_
      refine J.gopT rfl ?_
      refine J.op (R.ld o2 (by with_reducible repeat (first | exact Pick.here | apply Pick.there)) rfl) ?_ -- @t15 vS (Instr.loadAt 2 t14)
      refine J.gopT rfl ?_
      refine J.op R.lss ?_ -- @t16 binS .lss 2 (.tmp 15) (.const (.int .i64 1)) t15 (.int .i64 1)
      refine J.op R.pickF ?_ -- @t17 pickS t12 (.bool true) t16
      exact J.done ⟨rfl, by rw [hwr]; simp only [List.cons.injEq, Value.bool.injEq, and_true]; first | (symm; rw [decide_eq_true_iff]; omega) | exact decide_eq_decide.2 (by omega), Imp.take (by (try dsimp only); repeat (first | exact Has.nil | refine Has.cons (by repeat (first | (with_reducible exact Out.here) | ((with_reducible refine Out.cells ?_); first | rfl | (simp; done)) | ((with_reducible refine Out.row ?_); first | rfl | (simp; done)) | (with_reducible apply Out.there))) ?_))⟩ -- @leaf[t17]
  · skip
    refine J.iteT ?_
    -- @ret[(.int.i644)]
    exact J.done (RetQ.ge (.tmp (.nil)) (by simp [mkRes, ckW, hbtv]))
  · skip
    refine J.iteF ?_
    refine J.op fa46_3 ?_
    have hsq1 := Classical.not_not.1 hbtv
    refine J.op (R.ld o2 (by with_reducible repeat (first | exact Pick.here | apply Pick.there)) rfl) ?_ -- @t20 vS (Instr.loadAt 2 t19)
    refine J.callEB en112 (s112 br gr st.l.length cr st x y c m.tick) rfl (fun _ _ hs => RatA.stab _ _ hs.ext hw) (fun ht21 => ?_) (fun ht21 => ?_) -- @t21 callS (.func (.func 112) #[] #[]) [a0, t20]
    · skip
      refine J.iteT ?_
      -- @ret[(.int.i6415)]
      exact J.done (RetQ.ge (.tmp (.nil)) (by simp only [ckW, if_pos hsq1, ht21]; rfl))
    · skip
      refine J.iteF ?_
      refine J.bindBH (¬ inSym st m.sym = true) ([Ent.cells bt3 m.cells 46]) ?_ (fun hbtv_1 => ?_) (fun hbtv_1 => ?_) -- @tv_1
      · skip
        refine J.draw ?_
        refine J.op fa46_1 ?_
        refine J.op (R.ld o3 (by with_reducible repeat (first | exact Pick.here | apply Pick.there)) rfl) ?_ -- @t23 vS (Instr.loadAt 3 t22)
        refine J.opD R.lss (fun ht24 => ?_) (fun ht24 => ?_) -- @t24 binS .lss 3 (.tmp 23) (.const (.int .i64 0)) t23 (.int .i64 0)
        · skip
          refine J.gopF rfl ?_
          refine J.gopF rfl ?_
          refine J.gopF rfl ?_
          refine J.gopF rfl ?_
          refine J.gopF rfl ?_
          refine J.gopF rfl ?_
          refine J.gopF rfl ?_
          refine J.gopF rfl ?_
          refine J.op R.pickT ?_ -- @t34 pickS t24 (.bool true) t33
          exact J.done ⟨rfl, by simp only [inSym, decide_eq_true_eq, List.cons.injEq, Value.bool.injEq, and_true]; first | (symm; rw [decide_eq_true_iff]; omega) | exact decide_eq_decide.2 (by omega), Imp.take (by (try dsimp only); repeat (first | exact Has.nil | refine Has.cons (by repeat (first | (with_reducible exact Out.here) | ((with_reducible refine Out.cells ?_); first | rfl | (simp; done)) | ((with_reducible refine Out.row ?_); first | rfl | (simp; done)) | (with_reducible apply Out.there))) ?_))⟩ -- @leaf[t34]
        · skip
          refine J.gopT rfl ?_
          refine J.op fa46_1 ?_
          refine J.gopT rfl ?_
          refine J.op (R.ld o3 (by with_reducible repeat (first | exact Pick.here | apply Pick.there)) rfl) ?_ -- @t27 vS (Instr.loadAt 3 t26)
          refine J.gopT rfl ?_
          refine J.op R.pure ?_
          refine J.gopT rfl ?_
          refine J.op R.nil ?_ -- @t29 nilS t28
          refine J.gopT rfl ?_
          refine J.op fa83_1 ?_
          refine J.gopT rfl ?_
          refine J.op (R.ldBk hw.1 not_foot o81 rfl) ?_ -- @t31 vS (Instr.loadAt 81 t30)
          refine J.gopT rfl ?_
          refine J.op (R.lenS sl81) ?_ -- @t32 bltS .len #[81] 3 #[false] [t31]
          refine J.gopT rfl ?_
          refine J.op R.geq ?_ -- @t33 binS .geq 3 (.tmp 27) (.tmp 32) t27 t32
          refine J.op R.pickF ?_ -- @t34 pickS t24 (.bool true) t33
          exact J.done ⟨rfl, by simp only [inSym, decide_eq_true_eq, List.cons.injEq, Value.bool.injEq, and_true]; first | (symm; rw [decide_eq_true_iff]; omega) | exact decide_eq_decide.2 (by omega), Imp.take (by (try dsimp only); repeat (first | exact Has.nil | refine Has.cons (by repeat (first | (with_reducible exact Out.here) | ((with_reducible refine Out.cells ?_); first | rfl | (simp; done)) | ((with_reducible refine Out.row ?_); first | rfl | (simp; done)) | (with_reducible apply Out.there))) ?_))⟩ -- @leaf[t34]
      · skip
        refine J.iteT ?_
        refine J.bindBH (globalM m = true) ([Ent.cells bt3 m.cells 46]) ?_ (fun hbtv_2 => ?_) (fun hbtv_2 => ?_) -- @tv_2
        · skip
          refine J.op fa46_0 ?_
          refine J.op (R.ld o3 (by with_reducible repeat (first | exact Pick.here | apply Pick.there)) rfl) ?_ -- @t36 vS (Instr.loadAt 3 t35)
          refine J.opD R.eql (fun ht37 => ?_) (fun ht37 => ?_) -- @t37 binS .eql 3 (.tmp 36) (.const (.int .i64 2)) t36 (.int .i64 2)
          · skip
            refine J.gopF rfl ?_
            refine J.gopF rfl ?_
            refine J.gopF rfl ?_
            refine J.op R.pickT ?_ -- @t42 pickS t37 (.bool true) t41
            exact J.done ⟨rfl, by simp [globalM, *], Imp.take (by (try dsimp only); repeat (first | exact Has.nil | refine Has.cons (by repeat (first | (with_reducible exact Out.here) | ((with_reducible refine Out.cells ?_); first | rfl | (simp; done)) | ((with_reducible refine Out.row ?_); first | rfl | (simp; done)) | (with_reducible apply Out.there))) ?_))⟩ -- @leaf[t42]
          · skip
            refine J.gopT rfl ?_
            refine J.op fa46_0 ?_
            refine J.gopT rfl ?_
            refine J.op (R.ld o3 (by with_reducible repeat (first | exact Pick.here | apply Pick.there)) rfl) ?_ -- @t40 vS (Instr.loadAt 3 t39)
            refine J.gopT rfl ?_
            refine J.op R.eql ?_ -- @t41 binS .eql 3 (.tmp 40) (.const (.int .i64 9)) t40 (.int .i64 9)
            refine J.op R.pickF ?_ -- @t42 pickS t37 (.bool true) t41
            exact J.done ⟨rfl, by simp [globalM, *], Imp.take (by (try dsimp only); repeat (first | exact Has.nil | refine Has.cons (by repeat (first | (with_reducible exact Out.here) | ((with_reducible refine Out.cells ?_); first | rfl | (simp; done)) | ((with_reducible refine Out.row ?_); first | rfl | (simp; done)) | (with_reducible apply Out.there))) ?_))⟩ -- @leaf[t42]
        · skip
          refine J.iteT ?_
          -- @ret[(.int.i640)]
          exact J.done (RetQ.ge (.tmp (.nil)) (by simp only [ckW, if_pos hsq1, ht21, Bool.eq_false_iff.2 hbtv_1, hbtv_2]; rfl))
        · skip
          refine J.iteF ?_
          -- @ret[(.int.i645)]
          exact J.done (RetQ.ge (.tmp (.nil)) (by simp only [ckW, if_pos hsq1, ht21, Bool.eq_false_iff.2 hbtv_1, Bool.eq_false_iff.2 hbtv_2]; rfl))
      · skip
        refine J.iteF ?_
        refine J.op fa46_0 ?_
        refine J.op (R.ld o3 (by with_reducible repeat (first | exact Pick.here | apply Pick.there)) rfl) ?_ -- @t44 vS (Instr.loadAt 3 t43)
        have hin := Classical.not_not.1 hbtv_1
        obtain ⟨j, k, hsym, hk⟩ := inSym_at hin
        refine J.opD R.eql (fun ht45 => ?_) (fun ht45 => ?_) -- @t45 binS .eql 3 (.tmp 44) (.const (.int .i64 3)) t44 (.int .i64 3)
        · skip
          refine J.iteT ?_
          refine J.draw ?_
          refine J.op R.nil ?_ -- @t47 nilS a0
          refine J.op fa83_1 ?_
          refine J.op (R.ldBk hw.1 not_foot o81 rfl) ?_ -- @t49 vS (Instr.loadAt 81 t48)
          refine J.op fa46_1 ?_
          refine J.op (R.ld o3 (by with_reducible repeat (first | exact Pick.here | apply Pick.there)) rfl) ?_ -- @t51 vS (Instr.loadAt 3 t50)
          rw [hsym]
          refine J.op (R.ixN sl81 (i := j) (by have := (List.getElem?_eq_some_iff.1 hk).1; omega)) ?_ -- @t52 ix t49 t51
          refine J.op (R.ldRdA ag88 hw.2 not_foot (kns_at hk) (off := 0) (l' := k.k.cells) rfl rfl rfl) ?_ -- @t53 vS (Instr.loadAt 88 t52)
          refine J.op (R.ldA ag46 (by with_reducible repeat (first | exact Pick.here | apply Pick.there)) rfl) ?_ -- @t54 vS (Instr.loadAt 46 t3)
          refine J.callE en113 (s113 k.k m) rfl (fun _ _ _ => trivial) ?_ -- @t55 callS (.func (.func 113) #[] #[]) [t53, t54]
          -- @ret[t55]
          exact J.done (RetQ.ge (.tmp (.nil)) (by simp only [ckW, if_pos hsq1, ht21, hin, trM, ht45, decide_true, if_true, knOf_at hsym hk]; rfl))
        · skip
          refine J.iteF ?_
          -- @ret[(.int.i640)]#2
          exact J.done (RetQ.ge (.tmp (.nil)) (by simp only [ckW, if_pos hsq1, ht21, hin, trM, ht45]; rfl))
end Go.Proofs.Ytipgdalebkhgpaa
