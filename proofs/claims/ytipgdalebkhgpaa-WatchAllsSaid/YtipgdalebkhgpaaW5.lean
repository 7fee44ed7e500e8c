/-
  Contracts of functions.
-/
import Derived.Test.YtipgdalebkhgpaaTerms1
import Derived.Test.YtipgdalebkhgpaaTerms2
import Derived.Test.YtipgdalebkhgpaaTab
import Derived.Test.YtipgdalebkhgpaaModWatch3
set_option maxRecDepth 100000
set_option maxHeartbeats 4000000
set_option linter.unusedVariables false
set_option linter.unusedSimpArgs false
namespace Go.Proofs.Ytipgdalebkhgpaa
open Go Go.RowKit Fw
/-- damper/damperref32.New -/
theorem s37 (xa ya : Option Addr) (xn xc yn yc : Nat) (c : Cfg) :
    FnT Try.prog 37 [.agg (c.cells (.slice xa xn xc) (.slice ya yn yc)).toArray] (c.at (.slice xa xn xc) (.slice ya yn yc)) [] (fun v es => ((cfgFault c).1 ≠ 0 ∧ v = .tuple #[.pointer none, .int .i64 (cfgFault c).1] ∧ es = []) ∨ ((cfgFault c).1 = 0 ∧ ∃ br gr nr cr, v = .tuple #[.pointer (some ⟨br, 0, none⟩), .int .i64 0] ∧ es = RatH br gr nr cr (newW c) (.slice xa xn xc) (.slice ya yn yc) c)) := by
  refine fn_of_J (cx := cx37) hmix Try.func37 (by kernel_rfl) (eq37 _) fun w hw => ?_
  have hX : ∀ H, SeeS ⟨Try.prog, w, footOf []⟩ H (.slice xa xn xc) 16 (syms c.syms) := fun H => SeeS.ofW0 hw.1 syms_ne
  have hY : ∀ H, SeeS ⟨Try.prog, w, footOf []⟩ H (.slice ya yn yc) 2 (trows c.rows) := fun H => SeeS.ofW0 hw.2 trows_ne
  have hm := hw.1.le
  simp only [syms_len, maxLen] at hm
  have hm2 := hw.2.le
  simp only [trows_len, maxLen] at hm2
  refine J.boxA fun bt1 => ?_
  refine J.op (R.ldA ag53 (by with_reducible repeat (first | exact Pick.here | apply Pick.there)) rfl) ?_ -- @t7 vS (Instr.loadAt 53 t1)
  refine J.callE en62 (s62 _ _ c) rfl (fun _ _ hs => Cfg.at_stab _ _ hs.ext hw) ?_ -- @t8 callS (.func (.func 62) #[] #[]) [t7]
  refine J.op (R.ext rfl) ?_ -- @t9 vS (Instr.extract t8 0)
  refine J.op (R.ext rfl) ?_ -- @t10 vS (Instr.extract t8 1)
  refine J.opD R.neq (fun ht12 => ?_) (fun ht12 => ?_) -- @t12 binS .neq 25 (.tmp 11) (.const (.int .i64 0)) t9 (.int .i64 0)
  · skip
    refine J.iteT ?_
    -- @ret[(.pointernone),t9]
    exact J.done (RetQ.gt (.tmp (.tmp (.nil))) (by (try dsimp only); repeat (first | exact Has.nil | refine Has.cons (by repeat (first | (with_reducible exact Out.here) | ((with_reducible refine Out.cells ?_); first | rfl | (simp; done)) | ((with_reducible refine Out.row ?_); first | rfl | (simp; done)) | (with_reducible apply Out.there))) ?_)) (.inl ⟨ht12, rfl, rfl⟩))
  · skip
    refine J.iteF ?_
    refine J.draw ?_
    have hc0 := Classical.not_not.1 ht12
    have hcl := cfg_len hc0
    refine J.op (R.ldA ag53 (by with_reducible repeat (first | exact Pick.here | apply Pick.there)) rfl) ?_ -- @t14 vS (Instr.loadAt 53 t1)
    refine J.op fa53_0 ?_
    refine J.op (R.ld o48 (by with_reducible repeat (first | exact Pick.here | apply Pick.there)) rfl) ?_ -- @t16 vS (Instr.loadAt 48 t15)
    refine J.op (R.lenN sl48 (hX _) syms_len) ?_ -- @t17 bltS .len #[48] 3 #[false] [t16]
    refine J.makeN (z := Know.zero.cells) sl81 z88 rfl (by omega) (by simp [maxLen]; omega) fun b18 => ?_
    rw [kns_new] -- @t18 vS (Instr.makeSlice 81 t17 t17)
    refine J.chkR (R.ldA ag53 (by with_reducible repeat (first | exact Pick.here | apply Pick.there)) rfl) ?_ -- @chk:t14 vS (Instr.loadAt 53 t1)
    refine J.op bd83_0_1 ?_ -- @t19 vS (Instr.build 83 #[(0, t14), (1, t18)])
    refine J.boxA fun bt20 => ?_
    -- @ret[t20,(.int.i640)]
    exact J.done (RetQ.gt (es := RatH bt20 b18 c.syms.length c.syms.length (newW c) (.slice xa xn xc) (.slice ya yn yc) c) (.tmp (.tmp .nil)) (by (try dsimp only); repeat (first | exact Has.nil | refine Has.cons (by repeat (first | (with_reducible exact Out.here) | ((with_reducible refine Out.cells ?_); first | rfl | (simp; done)) | ((with_reducible refine Out.row ?_); first | rfl | (simp; done)) | (with_reducible apply Out.there))) ?_)) (.inr ⟨hc0, _, _, _, _, rfl, rfl⟩))

/-- (*damper/damperref32.Watch).Put -/
theorem s39 (br gr nr cr : Nat) (st : Wst) (x y : Value) (c : Cfg) (m : Msg) (hm : m.ok) (hs0 : 0 ≤ st.seq ∧ st.seq ≤ 1152921504606846976) (hs1 : -1152921504606846976 ≤ m.seq) (hsy : st.l.map Wk.s = c.syms) :
    FnT Try.prog 39 [.pointer (some ⟨br, 0, none⟩), .agg m.cells.toArray] (fun w => RdF w x 16 (syms c.syms) (footOf [Ent.cells br (c.cells x y ++ [.slice (some ⟨gr, 0, none⟩) nr cr, .int .i64 st.seq, .int .i64 st.tick]) 83, Ent.row (.slice (some ⟨gr, 0, none⟩) nr cr) 10 (kns st.l) 88])) [Ent.cells br (c.cells x y ++ [.slice (some ⟨gr, 0, none⟩) nr cr, .int .i64 st.seq, .int .i64 st.tick]) 83, Ent.row (.slice (some ⟨gr, 0, none⟩) nr cr) 10 (kns st.l) 88] (fun v es => v = .int .i64 (ckW st m) ∧ es = RatH br gr nr cr (putW st m) x y c) := by
  refine fn_of_J (cx := cx39) hmix Try.func39 (by kernel_rfl) (eq39 _ _) fun w hw => ?_
  have hX : ∀ H, SeeS ⟨Try.prog, w, footOf [Ent.cells br (c.cells x y ++ [.slice (some ⟨gr, 0, none⟩) nr cr, .int .i64 st.seq, .int .i64 st.tick]) 83, Ent.row (.slice (some ⟨gr, 0, none⟩) nr cr) 10 (kns st.l) 88]⟩ H x 16 (syms c.syms) := fun H => SeeS.ofF hw syms_ne
  refine J.fact (φ := nr = (kns st.l).length ∧ (kns st.l).length ≤ maxLen) (fun _ _ hs => ⟨Row.n (by with_reducible repeat (first | exact Pick.here | apply Pick.there)) hs, Row.le (by with_reducible repeat (first | exact Pick.here | apply Pick.there)) hs⟩) fun hnl => ?_
  obtain ⟨hn, hlm⟩ := hnl
  simp only [kns_len, maxLen] at hn hlm
  subst hn
  refine J.boxA fun bt3 => ?_
  refine J.op (R.ldA ag46 (by with_reducible repeat (first | exact Pick.here | apply Pick.there)) rfl) ?_ -- @t9 vS (Instr.loadAt 46 t3)
  refine J.callE en75 (s75 br gr st.l.length cr st x y c m hm hs0 hs1) rfl (fun _ _ hs => ⟨Blk.of (by with_reducible repeat (first | exact Pick.here | apply Pick.there)) hs, SeeS.row (by with_reducible repeat (first | exact Pick.here | apply Pick.there)) _ _ hs⟩) ?_ -- @t10 callS (.func (.func 75) #[] #[]) [a0, t9]
  refine J.opD R.neq (fun ht12 => ?_) (fun ht12 => ?_) -- @t12 binS .neq 25 (.tmp 11) (.const (.int .i64 0)) t10 (.int .i64 0)
  · skip
    refine J.iteT ?_
    -- @ret[t10]
    refine J.done (RetQ.gt (es := (RatH br gr st.l.length cr st x y c)) (.tmp (.nil)) ?_ ?_)
    · exact (by (try dsimp only); repeat (first | exact Has.nil | refine Has.cons (by repeat (first | (with_reducible exact Out.here) | ((with_reducible refine Out.cells ?_); first | rfl | (simp; done)) | ((with_reducible refine Out.row ?_); first | rfl | (simp; done)) | (with_reducible apply Out.there))) ?_))
    · exact ⟨rfl, by simp [putW, ht12]⟩
  · skip
    refine J.iteF ?_
    refine J.op fa46_2 ?_
    have hck := Classical.not_not.1 ht12
    refine J.op (R.ld o2 (by with_reducible repeat (first | exact Pick.here | apply Pick.there)) rfl) ?_ -- @t16 vS (Instr.loadAt 2 t15)
    refine J.op R.nil ?_ -- @t17 nilS a0
    refine J.op fa83_2 ?_
    refine J.stS sz2 (by with_reducible repeat (first | exact Pick.here | apply Pick.there)) (Nat.le_of_ble_eq_true rfl) rfl (cs' := (c.cells x y ++ [.slice (some ⟨gr, 0, none⟩) st.l.length cr, .int .i64 m.seq, .int .i64 st.tick])) rfl ?_ -- @tu uS (Instr.storeAt 2 t18 t16)
    refine J.op fa46_3 ?_
    refine J.op (R.ld o2 (by with_reducible repeat (first | exact Pick.here | apply Pick.there)) rfl) ?_ -- @t21 vS (Instr.loadAt 2 t20)
    refine J.op R.nil ?_ -- @t22 nilS a0
    refine J.op fa83_3 ?_
    refine J.stS sz2 (by with_reducible repeat (first | exact Pick.here | apply Pick.there)) (Nat.le_of_ble_eq_true rfl) rfl (cs' := (c.cells x y ++ [.slice (some ⟨gr, 0, none⟩) st.l.length cr, .int .i64 m.seq, .int .i64 m.tick])) rfl ?_ -- @tu_1 uS (Instr.storeAt 2 t23 t21)
    refine J.bindBH (m.kind = 9 ∧ (m.code = 1 ∨ m.code = 2)) ([Ent.cells br (c.cells x y ++ [.slice (some ⟨gr, 0, none⟩) st.l.length cr, .int .i64 m.seq, .int .i64 m.tick]) 83, Ent.row (.slice (some ⟨gr, 0, none⟩) st.l.length cr) 10 (kns st.l) 88, Ent.cells bt3 m.cells 46]) ?_ (fun hbtv => ?_) (fun hbtv => ?_) -- @tv
    · skip
      refine J.op fa46_0 ?_
      refine J.op (R.ld o3 (by with_reducible repeat (first | exact Pick.here | apply Pick.there)) rfl) ?_ -- @t25 vS (Instr.loadAt 3 t24)
      refine J.opD R.eql (fun ht26 => ?_) (fun ht26 => ?_) -- @t26 binS .eql 3 (.tmp 25) (.const (.int .i64 9)) t25 (.int .i64 9)
      · skip
        refine J.gopT rfl ?_
        refine J.op fa46_8 ?_
        refine J.gopT rfl ?_
        refine J.op (R.ld o3 (by with_reducible repeat (first | exact Pick.here | apply Pick.there)) rfl) ?_ -- @t29 vS (Instr.loadAt 3 t28)
        refine J.gopT rfl ?_
        refine J.opD R.eql (fun ht30 => ?_) (fun ht30 => ?_) -- @t30 binS .eql 3 (.tmp 29) (.const (.int .i64 1)) t29 (.int .i64 1)
        · skip
          refine J.gopT rfl ?_
          refine J.op R.pure ?_
          refine J.gopF rfl ?_
          refine J.gopF rfl ?_
          refine J.gopF rfl ?_
          refine J.gopT rfl ?_
          refine J.op R.pickT ?_ -- @t35 pickS t31 (.bool true) t34
          refine J.op R.pickT ?_ -- @t36 pickS t26 t35 (.bool false)
          exact J.done ⟨rfl, by simp [*], Imp.take (by (try dsimp only); repeat (first | exact Has.nil | refine Has.cons (by repeat (first | (with_reducible exact Out.here) | ((with_reducible refine Out.cells ?_); first | rfl | (simp; done)) | ((with_reducible refine Out.row ?_); first | rfl | (simp; done)) | (with_reducible apply Out.there))) ?_))⟩ -- @leaf[t36]
        · skip
          refine J.gopT rfl ?_
          refine J.op R.pure ?_
          refine J.gopT rfl ?_
          refine J.op fa46_8 ?_
          refine J.gopT rfl ?_
          refine J.op (R.ld o3 (by with_reducible repeat (first | exact Pick.here | apply Pick.there)) rfl) ?_ -- @t33 vS (Instr.loadAt 3 t32)
          refine J.gopT rfl ?_
          refine J.op R.eql ?_ -- @t34 binS .eql 3 (.tmp 33) (.const (.int .i64 2)) t33 (.int .i64 2)
          refine J.gopT rfl ?_
          refine J.op R.pickF ?_ -- @t35 pickS t31 (.bool true) t34
          refine J.op R.pickT ?_ -- @t36 pickS t26 t35 (.bool false)
          exact J.done ⟨rfl, by simp [*], Imp.take (by (try dsimp only); repeat (first | exact Has.nil | refine Has.cons (by repeat (first | (with_reducible exact Out.here) | ((with_reducible refine Out.cells ?_); first | rfl | (simp; done)) | ((with_reducible refine Out.row ?_); first | rfl | (simp; done)) | (with_reducible apply Out.there))) ?_))⟩ -- @leaf[t36]
      · skip
        refine J.gopF rfl ?_
        refine J.gopF rfl ?_
        refine J.gopF rfl ?_
        refine J.gopF rfl ?_
        refine J.gopF rfl ?_
        refine J.gopF rfl ?_
        refine J.gopF rfl ?_
        refine J.gopF rfl ?_
        refine J.op R.pickF ?_ -- @t36 pickS t26 t35 (.bool false)
        exact J.done ⟨rfl, by simp [*], Imp.take (by (try dsimp only); repeat (first | exact Has.nil | refine Has.cons (by repeat (first | (with_reducible exact Out.here) | ((with_reducible refine Out.cells ?_); first | rfl | (simp; done)) | ((with_reducible refine Out.row ?_); first | rfl | (simp; done)) | (with_reducible apply Out.there))) ?_))⟩ -- @leaf[t36]
    · skip
      refine J.bindJ (fun vs H2 => vs = [] ∧ H2 = [Ent.cells br (c.cells x y ++ [.slice (some ⟨gr, 0, none⟩) st.l.length cr, .int .i64 m.seq, .int .i64 m.tick]) 83, Ent.row (.slice (some ⟨gr, 0, none⟩) st.l.length cr) 10 (kns (if m.kind = 9 then levelW st.l m else st.l)) 88, Ent.cells bt3 m.cells 46]) ?_ ?_ -- @tv_4
      · skip
        refine J.iteT ?_
        refine J.bind ?_ -- @tv_3 bind tv_3 ([])
        refine J.block ?_
        -- @tx loop [(.int .i64 0)]
        refine J.loop (α := Nat) (fun i => i ≤ st.l.length) (fun i => [.int .i64 i]) (fun i => [Ent.cells br (c.cells x y ++ [.slice (some ⟨gr, 0, none⟩) st.l.length cr, .int .i64 m.seq, .int .i64 m.tick]) 83, Ent.row (.slice (some ⟨gr, 0, none⟩) st.l.length cr) 10 (kns ((st.l.take i).map (Wk.level m.qty) ++ st.l.drop i)) 88, Ent.cells bt3 m.cells 46]) (fun i => st.l.length - i) 0 (Nat.zero_le _) rfl (Imp.take (by (try dsimp only); repeat (first | exact Has.nil | refine Has.cons (by repeat (first | (with_reducible exact Out.here) | ((with_reducible refine Out.cells ?_); first | rfl | (simp; done)) | ((with_reducible refine Out.row ?_); first | rfl | (simp; done)) | (with_reducible apply Out.there))) ?_))) ?_
        rintro i hi
        try simp only [List.headD_cons, List.tail_cons]
        refine J.op R.nil ?_ -- @t39 nilS a0
        refine J.op fa83_1 ?_
        refine J.op (R.ld o81 (by with_reducible repeat (first | exact Pick.here | apply Pick.there)) rfl) ?_ -- @t41 vS (Instr.loadAt 81 t40)
        refine J.op (R.lenS sl81) ?_ -- @t42 bltS .len #[81] 3 #[false] [t41]
        refine J.opD R.lss (fun ht43 => ?_) (fun ht43 => ?_) -- @t43 binS .lss 3 (.tmp 37) (.tmp 42) (tx.headD undef) t42
        · skip
          refine J.iteT ?_
          refine J.bind ?_ -- @tv_2 bind tv_2 ([])
          refine J.block ?_
          obtain ⟨q, hq⟩ := get_ex (l := st.l) (i := i) (by omega)
          have hq1 := levelW_at (q := m.qty) hq
          refine J.op R.nil ?_ -- @t47 nilS a0
          refine J.op fa83_1 ?_
          refine J.op (R.ld o81 (by with_reducible repeat (first | exact Pick.here | apply Pick.there)) rfl) ?_ -- @t49 vS (Instr.loadAt 81 t48)
          refine J.op (R.ixN sl81 (i := i) (by omega)) ?_ -- @t51 ix t49 (tx.headD undef)
          refine J.op fa88_3 ?_
          refine J.op (R.ldRow o2 (by with_reducible repeat (first | exact Pick.here | apply Pick.there)) (kns_at hq1) (off := 5) rfl rfl) ?_ -- @t53 vS (Instr.loadAt 2 t52)
          refine J.opD R.neq (fun ht54 => ?_) (fun ht54 => ?_) -- @t54 binS .neq 2 (.tmp 53) (.const (.int .i64 0)) t53 (.int .i64 0)
          · skip
            refine J.bind ?_ -- @tv_1 bind tv_1 ([])
            refine J.iteT ?_
            refine J.draw ?_
            refine J.op R.nil ?_ -- @t56 nilS a0
            refine J.op fa83_1 ?_
            refine J.op (R.ld o81 (by with_reducible repeat (first | exact Pick.here | apply Pick.there)) rfl) ?_ -- @t58 vS (Instr.loadAt 81 t57)
            refine J.op R.nil ?_ -- @t61 nilS a0
            refine J.op fa83_1 ?_
            refine J.op (R.ld o81 (by with_reducible repeat (first | exact Pick.here | apply Pick.there)) rfl) ?_ -- @t63 vS (Instr.loadAt 81 t62)
            refine J.op (R.ixN sl81 (i := i) (by omega)) ?_ -- @t65 ix t63 (tx.headD undef)
            refine J.op fa88_3 ?_
            refine J.op (R.ldRow o2 (by with_reducible repeat (first | exact Pick.here | apply Pick.there)) (kns_at hq1) (off := 5) rfl rfl) ?_ -- @t67 vS (Instr.loadAt 2 t66)
            refine J.op fa46_7 ?_
            refine J.op (R.ld o2 (by with_reducible repeat (first | exact Pick.here | apply Pick.there)) rfl) ?_ -- @t69 vS (Instr.loadAt 2 t68)
            refine J.op R.add ?_ -- @t70 binS .add 2 (.tmp 67) (.tmp 69) t67 t69
            refine J.op (R.ixN sl81 (i := i) (by omega)) ?_ -- @t71 ix t58 (tx.headD undef)
            refine J.op fa88_3 ?_
            refine J.stRowU sz2 (by with_reducible repeat (first | exact Pick.here | apply Pick.there)) (kns_at hq1) (off := 5) rfl (Nat.le_of_ble_eq_true rfl) rfl (kns_up (x := q.level m.qty) (by simp only [Wk.level, if_pos ht54]; rfl)) ?_
            rw [levelW_step hq] -- @tu_2 uS (Instr.storeAt 2 t72 t70)
            refine J.done ?_ -- then tv_1 = []
            refine J.done ?_ -- then tv_2 = []
            refine J.op (R.add64 (by omega)) ?_ -- @t45 binS .add 3 (.tmp 44) (.const (.int .i64 1)) (tx.headD undef) (.int .i64 1)
            -- @again[t45]
            exact J.done ⟨i + 1, by omega, rfl, Imp.take (by (try dsimp only); repeat (first | exact Has.nil | refine Has.cons (by repeat (first | (with_reducible exact Out.here) | ((with_reducible refine Out.cells ?_); first | rfl | (simp; done)) | ((with_reducible refine Out.row ?_); first | rfl | (simp; done)) | (with_reducible apply Out.there))) ?_)), by omega⟩
          · skip
            refine J.bind ?_ -- @tv_1 bind tv_1 ([])
            refine J.iteF ?_
            refine J.done ?_ -- then tv_1 = []
            refine J.done ?_ -- then tv_2 = []
            refine J.op (R.add64 (by omega)) ?_ -- @t45 binS .add 3 (.tmp 44) (.const (.int .i64 1)) (tx.headD undef) (.int .i64 1)
            -- @again[t45]#2
            rw [levelW_same hq (Classical.not_not.1 ht54)]
            exact J.done ⟨i + 1, by omega, rfl, Imp.take (by (try dsimp only); repeat (first | exact Has.nil | refine Has.cons (by repeat (first | (with_reducible exact Out.here) | ((with_reducible refine Out.cells ?_); first | rfl | (simp; done)) | ((with_reducible refine Out.row ?_); first | rfl | (simp; done)) | (with_reducible apply Out.there))) ?_)), by omega⟩
        · skip
          refine J.iteF ?_
          refine J.done ⟨fun _ => ?_, fun h => absurd rfl h⟩ -- exit []
          -- @join[]
          obtain rfl : i = st.l.length := by omega
          have hl : (if m.kind = 9 then levelW st.l m else st.l) = (st.l.take st.l.length).map (Wk.level m.qty) ++ st.l.drop st.l.length := by rw [if_pos hbtv.1]; unfold levelW; rw [if_pos hbtv.2]; simp
          rw [← hl]
          exact J.done ⟨rfl, rfl⟩
      · rintro vs H1 ⟨rfl, rfl⟩
        try simp only [List.headD_cons, List.tail_cons]
        refine J.bindBH (m.kind = 2 ∨ m.kind = 9) ([Ent.cells br (c.cells x y ++ [.slice (some ⟨gr, 0, none⟩) st.l.length cr, .int .i64 m.seq, .int .i64 m.tick]) 83, Ent.row (.slice (some ⟨gr, 0, none⟩) st.l.length cr) 10 (kns (if m.kind = 9 then levelW st.l m else st.l)) 88, Ent.cells bt3 m.cells 46]) ?_ (fun hbtv_5 => ?_) (fun hbtv_5 => ?_) -- @tv_5
        · skip
          refine J.op fa46_0 ?_
          refine J.op (R.ld o3 (by with_reducible repeat (first | exact Pick.here | apply Pick.there)) rfl) ?_ -- @t74 vS (Instr.loadAt 3 t73)
          refine J.opD R.eql (fun ht75 => ?_) (fun ht75 => ?_) -- @t75 binS .eql 3 (.tmp 74) (.const (.int .i64 2)) t74 (.int .i64 2)
          · skip
            refine J.gopF rfl ?_
            refine J.gopF rfl ?_
            refine J.gopF rfl ?_
            refine J.op R.pickT ?_ -- @t80 pickS t75 (.bool true) t79
            exact J.done ⟨rfl, by simp [*], Imp.take (by (try dsimp only); repeat (first | exact Has.nil | refine Has.cons (by repeat (first | (with_reducible exact Out.here) | ((with_reducible refine Out.cells ?_); first | rfl | (simp; done)) | ((with_reducible refine Out.row ?_); first | rfl | (simp; done)) | (with_reducible apply Out.there))) ?_))⟩ -- @leaf[t80]
          · skip
            refine J.gopT rfl ?_
            refine J.op fa46_0 ?_
            refine J.gopT rfl ?_
            refine J.op (R.ld o3 (by with_reducible repeat (first | exact Pick.here | apply Pick.there)) rfl) ?_ -- @t78 vS (Instr.loadAt 3 t77)
            refine J.gopT rfl ?_
            refine J.op R.eql ?_ -- @t79 binS .eql 3 (.tmp 78) (.const (.int .i64 9)) t78 (.int .i64 9)
            refine J.op R.pickF ?_ -- @t80 pickS t75 (.bool true) t79
            exact J.done ⟨rfl, by simp [*], Imp.take (by (try dsimp only); repeat (first | exact Has.nil | refine Has.cons (by repeat (first | (with_reducible exact Out.here) | ((with_reducible refine Out.cells ?_); first | rfl | (simp; done)) | ((with_reducible refine Out.row ?_); first | rfl | (simp; done)) | (with_reducible apply Out.there))) ?_))⟩ -- @leaf[t80]
        · skip
          refine J.iteT ?_
          -- @ret[(.int.i640)]
          refine J.done (RetQ.gt (es := (RatH br gr st.l.length cr ⟨m.seq, m.tick, (if m.kind = 9 then levelW st.l m else st.l)⟩ x y c)) (.tmp (.nil)) ?_ ?_)
          · exact (by (try dsimp only); repeat (first | exact Has.nil | refine Has.cons (by repeat (first | (with_reducible exact Out.here) | ((with_reducible refine Out.cells ?_); first | rfl | (simp; done)) | ((with_reducible refine Out.row ?_); first | rfl | (simp; done)) | (with_reducible apply Out.there))) ?_))
          · exact ⟨by rw [hck]; rfl, by unfold putW; rw [if_pos hck]; by_cases h9 : m.kind = 9; (rw [if_pos h9, if_pos h9]); (rw [if_neg h9, if_neg h9, if_pos (by omega)])⟩
        · skip
          refine J.iteF ?_
          refine J.draw ?_
          exact absurd hbtv.1 (by omega)
    · skip
      refine J.bindJ (fun vs H2 => vs = [] ∧ H2 = [Ent.cells br (c.cells x y ++ [.slice (some ⟨gr, 0, none⟩) st.l.length cr, .int .i64 m.seq, .int .i64 m.tick]) 83, Ent.row (.slice (some ⟨gr, 0, none⟩) st.l.length cr) 10 (kns (if m.kind = 9 then levelW st.l m else st.l)) 88, Ent.cells bt3 m.cells 46]) ?_ ?_ -- @tv_4
      · skip
        refine J.iteF ?_
        -- @join[]#2
        have hl : (if m.kind = 9 then levelW st.l m else st.l) = st.l := by
          by_cases h9 : m.kind = 9
          · rw [if_pos h9]; unfold levelW; rw [if_neg (fun h => hbtv ⟨h9, h⟩)]
          · rw [if_neg h9]
        exact J.done ⟨rfl, by rw [hl]⟩
      · rintro vs H1 ⟨rfl, rfl⟩
        try simp only [List.headD_cons, List.tail_cons]
        refine J.bindBH (m.kind = 2 ∨ m.kind = 9) ([Ent.cells br (c.cells x y ++ [.slice (some ⟨gr, 0, none⟩) st.l.length cr, .int .i64 m.seq, .int .i64 m.tick]) 83, Ent.row (.slice (some ⟨gr, 0, none⟩) st.l.length cr) 10 (kns (if m.kind = 9 then levelW st.l m else st.l)) 88, Ent.cells bt3 m.cells 46]) ?_ (fun hbtv_5 => ?_) (fun hbtv_5 => ?_) -- @tv_5
        · skip
          refine J.op fa46_0 ?_
          refine J.op (R.ld o3 (by with_reducible repeat (first | exact Pick.here | apply Pick.there)) rfl) ?_ -- @t74 vS (Instr.loadAt 3 t73)
          refine J.opD R.eql (fun ht75 => ?_) (fun ht75 => ?_) -- @t75 binS .eql 3 (.tmp 74) (.const (.int .i64 2)) t74 (.int .i64 2)
          · skip
            refine J.gopF rfl ?_
            refine J.gopF rfl ?_
            refine J.gopF rfl ?_
            refine J.op R.pickT ?_ -- @t80 pickS t75 (.bool true) t79
            exact J.done ⟨rfl, by simp [*], Imp.take (by (try dsimp only); repeat (first | exact Has.nil | refine Has.cons (by repeat (first | (with_reducible exact Out.here) | ((with_reducible refine Out.cells ?_); first | rfl | (simp; done)) | ((with_reducible refine Out.row ?_); first | rfl | (simp; done)) | (with_reducible apply Out.there))) ?_))⟩ -- @leaf[t80]
          · skip
            refine J.gopT rfl ?_
            refine J.op fa46_0 ?_
            refine J.gopT rfl ?_
            refine J.op (R.ld o3 (by with_reducible repeat (first | exact Pick.here | apply Pick.there)) rfl) ?_ -- @t78 vS (Instr.loadAt 3 t77)
            refine J.gopT rfl ?_
            refine J.op R.eql ?_ -- @t79 binS .eql 3 (.tmp 78) (.const (.int .i64 9)) t78 (.int .i64 9)
            refine J.op R.pickF ?_ -- @t80 pickS t75 (.bool true) t79
            exact J.done ⟨rfl, by simp [*], Imp.take (by (try dsimp only); repeat (first | exact Has.nil | refine Has.cons (by repeat (first | (with_reducible exact Out.here) | ((with_reducible refine Out.cells ?_); first | rfl | (simp; done)) | ((with_reducible refine Out.row ?_); first | rfl | (simp; done)) | (with_reducible apply Out.there))) ?_))⟩ -- @leaf[t80]
        · skip
          refine J.iteT ?_
          -- @ret[(.int.i640)]#2
          refine J.done (RetQ.gt (es := (RatH br gr st.l.length cr ⟨m.seq, m.tick, (if m.kind = 9 then levelW st.l m else st.l)⟩ x y c)) (.tmp (.nil)) ?_ ?_)
          · exact (by (try dsimp only); repeat (first | exact Has.nil | refine Has.cons (by repeat (first | (with_reducible exact Out.here) | ((with_reducible refine Out.cells ?_); first | rfl | (simp; done)) | ((with_reducible refine Out.row ?_); first | rfl | (simp; done)) | (with_reducible apply Out.there))) ?_))
          · exact ⟨by rw [hck]; rfl, by unfold putW; rw [if_pos hck]; by_cases h9 : m.kind = 9; (rw [if_pos h9, if_pos h9]); (rw [if_neg h9, if_neg h9, if_pos (by omega)])⟩
        · skip
          refine J.iteF ?_
          refine J.draw ?_
          have hk9 : m.kind ≠ 9 := by omega
          have hk2 : m.kind ≠ 2 := by omega
          rw [if_neg hk9]
          obtain ⟨j, q, hsym, hx⟩ := ckW_in hck hk2 hk9
          have hsx := sym_of hsy hx
          have hjl : j < st.l.length := (List.getElem?_eq_some_iff.1 hx).1
          refine J.op R.nil ?_ -- @t82 nilS a0
          refine J.op fa83_1 ?_
          refine J.op (R.ld o81 (by with_reducible repeat (first | exact Pick.here | apply Pick.there)) rfl) ?_ -- @t84 vS (Instr.loadAt 81 t83)
          refine J.op fa46_1 ?_
          refine J.op (R.ld o3 (by with_reducible repeat (first | exact Pick.here | apply Pick.there)) rfl) ?_ -- @t86 vS (Instr.loadAt 3 t85)
          rw [hsym]
          refine J.op (R.ixN sl81 (i := j) (by omega)) ?_ -- @t87 ix t84 t86
          refine J.op (R.ldRowA ag88 (by with_reducible repeat (first | exact Pick.here | apply Pick.there)) (kns_at hx) (off := 0) (l' := q.k.cells) rfl rfl rfl) ?_ -- @t88 vS (Instr.loadAt 88 t87)
          refine J.alloc z88 fun bt7 => ?_
          refine J.chkR (R.ldRowA ag88 (by with_reducible repeat (first | exact Pick.here | apply Pick.there)) (kns_at hx) (off := 0) rfl rfl rfl) ?_ -- @chk:t88 vS (Instr.loadAt 88 t87)
          refine J.chkR (R.ixN sl81 (i := j) (by omega)) ?_ -- @chk:t87 vS (Instr.indexAt 81 t84 t86)
          refine J.chkR (R.ld o3 (by with_reducible repeat (first | exact Pick.here | apply Pick.there)) (by rw [← hsym]; rfl)) ?_ -- @chk:t86 vS (Instr.loadAt 3 t85)
          refine J.chkR fa46_1 ?_ -- @chk:t85 vS (Instr.fieldAt 46 t3 1)
          refine J.chkR (R.ld o81 (by with_reducible repeat (first | exact Pick.here | apply Pick.there)) rfl) ?_ -- @chk:t84 vS (Instr.loadAt 81 t83)
          refine J.chkR fa83_1 ?_ -- @chk:t83 vS (Instr.fieldAt 83 t82 1)
          refine J.chkR R.nil ?_ -- @chk:t82 nilS a0
          refine J.stW sz88 (by with_reducible repeat (first | exact Pick.here | apply Pick.there)) rfl rfl rfl ?_ -- @tu_3 uS (Instr.storeAt 88 t7 t88)
          refine J.op fa46_0 ?_
          refine J.op (R.ld o3 (by with_reducible repeat (first | exact Pick.here | apply Pick.there)) rfl) ?_ -- @t90 vS (Instr.loadAt 3 t89)
          refine J.bind ?_ -- @tv_13 bind tv_13 ([])
          refine J.block ?_
          refine J.opD R.eql (fun ht92 => ?_) (fun ht92 => ?_) -- @t92 binS .eql 3 (.tmp 90) (.const (.int .i64 3)) t90 (.int .i64 3)
          · skip
            refine J.bind ?_ -- @tv_12 bind tv_12 ([])
            refine J.iteT ?_
            refine J.op fa88_4 ?_
            refine J.op ia86_0 ?_
            refine J.op (R.ld o2 (by with_reducible repeat (first | exact Pick.here | apply Pick.there)) rfl) ?_ -- @t95 vS (Instr.loadAt 2 t94)
            refine J.op fa46_7 ?_
            refine J.op (R.ld o2 (by with_reducible repeat (first | exact Pick.here | apply Pick.there)) rfl) ?_ -- @t97 vS (Instr.loadAt 2 t96)
            refine J.op R.add ?_ -- @t98 binS .add 2 (.tmp 95) (.tmp 97) t95 t97
            refine J.op fa88_4 ?_
            refine J.op ia86_0 ?_
            refine J.stS sz2 (by with_reducible repeat (first | exact Pick.here | apply Pick.there)) (Nat.le_of_ble_eq_true rfl) rfl (cs' := (q.k.setTr 0 (IntKind.i64.wrap (q.k.tr 0 + m.qty))).cells) rfl ?_
            obtain ⟨ci, hci, hc1, hc3⟩ := ckW_trade hck ht92 hsym hx -- @tu_4 uS (Instr.storeAt 2 t100 t98)
            refine J.draw ?_
            refine J.op fa46_8 ?_
            refine J.op (R.ld o3 (by with_reducible repeat (first | exact Pick.here | apply Pick.there)) rfl) ?_ -- @t102 vS (Instr.loadAt 3 t101)
            refine J.op fa46_8 ?_
            refine J.op (R.ld o3 (by with_reducible repeat (first | exact Pick.here | apply Pick.there)) rfl) ?_ -- @t104 vS (Instr.loadAt 3 t103)
            refine J.op fa88_4 ?_
            rw [hci]
            refine J.op (R.ixA ar86 (by omega) (by omega)) ?_ -- @t106 ix t105 t104
            refine J.op (R.ld o2 (by with_reducible repeat (first | exact Pick.here | apply Pick.there)) (Know.cells_tr (i := ci) (by simp) (by omega))) ?_ -- @t107 vS (Instr.loadAt 2 t106)
            refine J.op fa46_7 ?_
            refine J.op (R.ld o2 (by with_reducible repeat (first | exact Pick.here | apply Pick.there)) rfl) ?_ -- @t109 vS (Instr.loadAt 2 t108)
            refine J.op R.add ?_ -- @t110 binS .add 2 (.tmp 107) (.tmp 109) t107 t109
            refine J.op fa88_4 ?_
            refine J.op (R.ixA ar86 (by omega) (by omega)) ?_ -- @t112 ix t111 t102
            refine J.stS sz2 (by with_reducible repeat (first | exact Pick.here | apply Pick.there)) (by show _ < 10; simp; omega) rfl (cs' := (q.k.traded m.qty ci).cells) (by rw [Know.set_tr (i := ci) (by simp) (by omega)]; rfl) ?_ -- @tu_5 uS (Instr.storeAt 2 t112 t110)
            refine J.done ?_ -- then tv_12 = []
            refine J.done ?_ -- then tv_13 = []
            refine J.draw ?_
            refine J.op R.nil ?_ -- @t161 nilS a0
            refine J.op fa83_1 ?_
            refine J.op (R.ld o81 (by with_reducible repeat (first | exact Pick.here | apply Pick.there)) rfl) ?_ -- @t163 vS (Instr.loadAt 81 t162)
            refine J.op fa46_1 ?_
            refine J.op (R.ld o3 (by with_reducible repeat (first | exact Pick.here | apply Pick.there)) rfl) ?_ -- @t165 vS (Instr.loadAt 3 t164)
            refine J.op (R.ldA ag88 (by with_reducible repeat (first | exact Pick.here | apply Pick.there)) rfl) ?_ -- @t166 vS (Instr.loadAt 88 t7)
            rw [hsym]
            refine J.op (R.ixN sl81 (i := j) (by omega)) ?_ -- @t167 ix t163 t165
            refine J.stRowAU sz88 (by with_reducible repeat (first | exact Pick.here | apply Pick.there)) (kns_at hx) (off := 0) rfl rfl (Nat.le_of_ble_eq_true rfl) rfl (kns_up (x := { q with k := q.k.traded m.qty ci }) rfl) ?_ -- @tu_11 uS (Instr.storeAt 88 t167 t166)
            -- @ret[(.int.i640)]#3
            refine J.done (RetQ.gt (es := (RatH br gr st.l.length cr ⟨m.seq, m.tick, st.l.set j { q with k := q.k.traded m.qty ci }⟩ x y c)) (.tmp (.nil)) ?_ ?_)
            · exact (by (try dsimp only); repeat (first | exact Has.nil | refine Has.cons (by repeat (first | (with_reducible exact Out.here) | ((with_reducible refine Out.cells ?_); first | rfl | (simp; done)) | ((with_reducible refine Out.row ?_); first | rfl | (simp; done)) | (with_reducible apply Out.there))) ?_))
            · exact ⟨by rw [hck]; rfl, by rw [putW_set (y := ({ q with k := q.k.traded m.qty ci } : Wk)) hck (by omega) (by omega) hsym hx (by simp [Wk.put, Know.status, *])]⟩
          · skip
            refine J.bind ?_ -- @tv_12 bind tv_12 ([])
            refine J.iteF ?_
            refine J.opD R.eql (fun ht114 => ?_) (fun ht114 => ?_) -- @t114 binS .eql 3 (.tmp 90) (.const (.int .i64 5)) t90 (.int .i64 5)
            · skip
              refine J.bind ?_ -- @tv_11 bind tv_11 ([])
              refine J.iteT ?_
              refine J.op fa46_6 ?_
              refine J.op (R.ld o2 (by with_reducible repeat (first | exact Pick.here | apply Pick.there)) rfl) ?_ -- @t116 vS (Instr.loadAt 2 t115)
              refine J.op fa46_7 ?_
              refine J.op (R.ld o2 (by with_reducible repeat (first | exact Pick.here | apply Pick.there)) rfl) ?_ -- @t118 vS (Instr.loadAt 2 t117)
              refine J.op bd85_0_1 ?_ -- @t119 vS (Instr.build 85 #[(0, t116), (1, t118)])
              refine J.op fa88_1 ?_
              refine J.stSA sz85 (by with_reducible repeat (first | exact Pick.here | apply Pick.there)) rfl (Nat.le_of_ble_eq_true rfl) rfl (cs' := ({ q.k with blo := m.price, bhi := m.qty } : Know).cells) rfl ?_ -- @tu_6 uS (Instr.storeAt 85 t120 t119)
              refine J.done ?_ -- then tv_11 = []
              refine J.done ?_ -- then tv_12 = []
              refine J.done ?_ -- then tv_13 = []
              refine J.draw ?_
              refine J.op R.nil ?_ -- @t161 nilS a0
              refine J.op fa83_1 ?_
              refine J.op (R.ld o81 (by with_reducible repeat (first | exact Pick.here | apply Pick.there)) rfl) ?_ -- @t163 vS (Instr.loadAt 81 t162)
              refine J.op fa46_1 ?_
              refine J.op (R.ld o3 (by with_reducible repeat (first | exact Pick.here | apply Pick.there)) rfl) ?_ -- @t165 vS (Instr.loadAt 3 t164)
              refine J.op (R.ldA ag88 (by with_reducible repeat (first | exact Pick.here | apply Pick.there)) rfl) ?_ -- @t166 vS (Instr.loadAt 88 t7)
              rw [hsym]
              refine J.op (R.ixN sl81 (i := j) (by omega)) ?_ -- @t167 ix t163 t165
              refine J.stRowAU sz88 (by with_reducible repeat (first | exact Pick.here | apply Pick.there)) (kns_at hx) (off := 0) rfl rfl (Nat.le_of_ble_eq_true rfl) rfl (kns_up (x := { q with k := { q.k with blo := m.price, bhi := m.qty } }) rfl) ?_ -- @tu_11#2 uS (Instr.storeAt 88 t167 t166)
              -- @ret[(.int.i640)]#4
              refine J.done (RetQ.gt (es := (RatH br gr st.l.length cr ⟨m.seq, m.tick, st.l.set j { q with k := { q.k with blo := m.price, bhi := m.qty } }⟩ x y c)) (.tmp (.nil)) ?_ ?_)
              · exact (by (try dsimp only); repeat (first | exact Has.nil | refine Has.cons (by repeat (first | (with_reducible exact Out.here) | ((with_reducible refine Out.cells ?_); first | rfl | (simp; done)) | ((with_reducible refine Out.row ?_); first | rfl | (simp; done)) | (with_reducible apply Out.there))) ?_))
              · exact ⟨by rw [hck]; rfl, by rw [putW_set (y := ({ q with k := { q.k with blo := m.price, bhi := m.qty } } : Wk)) hck (by omega) (by omega) hsym hx (by simp [Wk.put, Know.status, *])]⟩
            · skip
              refine J.bind ?_ -- @tv_11 bind tv_11 ([])
              refine J.iteF ?_
              refine J.opD R.eql (fun ht122 => ?_) (fun ht122 => ?_) -- @t122 binS .eql 3 (.tmp 90) (.const (.int .i64 8)) t90 (.int .i64 8)
              · skip
                refine J.bind ?_ -- @tv_10 bind tv_10 ([])
                refine J.iteT ?_
                refine J.op fa46_6 ?_
                refine J.op (R.ld o2 (by with_reducible repeat (first | exact Pick.here | apply Pick.there)) rfl) ?_ -- @t124 vS (Instr.loadAt 2 t123)
                refine J.op fa46_7 ?_
                refine J.op (R.ld o2 (by with_reducible repeat (first | exact Pick.here | apply Pick.there)) rfl) ?_ -- @t126 vS (Instr.loadAt 2 t125)
                refine J.op bd85_0_1 ?_ -- @t127 vS (Instr.build 85 #[(0, t124), (1, t126)])
                refine J.op fa88_2 ?_
                refine J.stSA sz85 (by with_reducible repeat (first | exact Pick.here | apply Pick.there)) rfl (Nat.le_of_ble_eq_true rfl) rfl (cs' := ({ q.k with clo := m.price, chi := m.qty } : Know).cells) rfl ?_ -- @tu_7 uS (Instr.storeAt 85 t128 t127)
                refine J.done ?_ -- then tv_10 = []
                refine J.done ?_ -- then tv_11 = []
                refine J.done ?_ -- then tv_12 = []
                refine J.done ?_ -- then tv_13 = []
                refine J.draw ?_
                refine J.op R.nil ?_ -- @t161 nilS a0
                refine J.op fa83_1 ?_
                refine J.op (R.ld o81 (by with_reducible repeat (first | exact Pick.here | apply Pick.there)) rfl) ?_ -- @t163 vS (Instr.loadAt 81 t162)
                refine J.op fa46_1 ?_
                refine J.op (R.ld o3 (by with_reducible repeat (first | exact Pick.here | apply Pick.there)) rfl) ?_ -- @t165 vS (Instr.loadAt 3 t164)
                refine J.op (R.ldA ag88 (by with_reducible repeat (first | exact Pick.here | apply Pick.there)) rfl) ?_ -- @t166 vS (Instr.loadAt 88 t7)
                rw [hsym]
                refine J.op (R.ixN sl81 (i := j) (by omega)) ?_ -- @t167 ix t163 t165
                refine J.stRowAU sz88 (by with_reducible repeat (first | exact Pick.here | apply Pick.there)) (kns_at hx) (off := 0) rfl rfl (Nat.le_of_ble_eq_true rfl) rfl (kns_up (x := { q with k := { q.k with clo := m.price, chi := m.qty } }) rfl) ?_ -- @tu_11#3 uS (Instr.storeAt 88 t167 t166)
                -- @ret[(.int.i640)]#5
                refine J.done (RetQ.gt (es := (RatH br gr st.l.length cr ⟨m.seq, m.tick, st.l.set j { q with k := { q.k with clo := m.price, chi := m.qty } }⟩ x y c)) (.tmp (.nil)) ?_ ?_)
                · exact (by (try dsimp only); repeat (first | exact Has.nil | refine Has.cons (by repeat (first | (with_reducible exact Out.here) | ((with_reducible refine Out.cells ?_); first | rfl | (simp; done)) | ((with_reducible refine Out.row ?_); first | rfl | (simp; done)) | (with_reducible apply Out.there))) ?_))
                · exact ⟨by rw [hck]; rfl, by rw [putW_set (y := ({ q with k := { q.k with clo := m.price, chi := m.qty } } : Wk)) hck (by omega) (by omega) hsym hx (by simp [Wk.put, Know.status, *])]⟩
              · skip
                refine J.bind ?_ -- @tv_10 bind tv_10 ([])
                refine J.iteF ?_
                refine J.opD R.eql (fun ht130 => ?_) (fun ht130 => ?_) -- @t130 binS .eql 3 (.tmp 90) (.const (.int .i64 6)) t90 (.int .i64 6)
                · skip
                  refine J.bind ?_ -- @tv_9 bind tv_9 ([])
                  refine J.iteT ?_
                  refine J.op fa46_8 ?_
                  refine J.op (R.ld o3 (by with_reducible repeat (first | exact Pick.here | apply Pick.there)) rfl) ?_ -- @t132 vS (Instr.loadAt 3 t131)
                  refine J.op fa88_0 ?_
                  refine J.stS sz3 (by with_reducible repeat (first | exact Pick.here | apply Pick.there)) (Nat.le_of_ble_eq_true rfl) rfl (cs' := ({ q.k with phase := m.code } : Know).cells) rfl ?_ -- @tu_8 uS (Instr.storeAt 3 t133 t132)
                  refine J.op fa46_8 ?_
                  refine J.op (R.ld o3 (by with_reducible repeat (first | exact Pick.here | apply Pick.there)) rfl) ?_ -- @t135 vS (Instr.loadAt 3 t134)
                  refine J.opD R.eql (fun ht136 => ?_) (fun ht136 => ?_) -- @t136 binS .eql 3 (.tmp 135) (.const (.int .i64 3)) t135 (.int .i64 3)
                  · skip
                    refine J.bind ?_ -- @tv_8 bind tv_8 ([])
                    refine J.iteT ?_
                    refine J.draw ?_
                    refine J.op fa46_3 ?_
                    refine J.op (R.ld o2 (by with_reducible repeat (first | exact Pick.here | apply Pick.there)) rfl) ?_ -- @t138 vS (Instr.loadAt 2 t137)
                    refine J.op R.nil ?_ -- @t140 nilS a0
                    refine J.op fa83_0 ?_
                    refine J.op fa53_0 ?_
                    refine J.op (R.ld o48 (by with_reducible repeat (first | exact Pick.here | apply Pick.there)) rfl) ?_ -- @t143 vS (Instr.loadAt 48 t142)
                    refine J.op fa46_1 ?_
                    refine J.op (R.ld o3 (by with_reducible repeat (first | exact Pick.here | apply Pick.there)) rfl) ?_ -- @t145 vS (Instr.loadAt 3 t144)
                    rw [hsym]
                    refine J.ixW sl48 hX (by omega) (syms_get hsx) fun b o hkt146 => ?_ -- @t146 ix t143 t145
                    refine J.op (R.ldKA ag123 (hkt146 _) rfl) ?_ -- @t147 vS (Instr.loadAt 123 t146)
                    refine J.callE en76 (s76 q.s) rfl (fun _ _ _ => trivial) ?_ -- @t148 callS (.func (.func 76) #[] #[]) [t147]
                    refine J.chkR (R.ld o2 (by with_reducible repeat (first | exact Pick.here | apply Pick.there)) rfl) ?_ -- @chk:t138 vS (Instr.loadAt 2 t137)
                    refine J.chkR fa46_3 ?_ -- @chk:t137 vS (Instr.fieldAt 46 t3 3)
                    refine J.op R.add ?_ -- @t149 binS .add 2 (.tmp 138) (.tmp 148) t138 t148
                    refine J.op fa88_3 ?_
                    refine J.stS sz2 (by with_reducible repeat (first | exact Pick.here | apply Pick.there)) (Nat.le_of_ble_eq_true rfl) rfl (cs' := ({ q.k with phase := m.code, dl := IntKind.i64.wrap (m.tick + boundF q.s) } : Know).cells) rfl ?_ -- @tu_9 uS (Instr.storeAt 2 t150 t149)
                    refine J.done ?_ -- then tv_8 = []
                    refine J.done ?_ -- then tv_9 = []
                    refine J.done ?_ -- then tv_10 = []
                    refine J.done ?_ -- then tv_11 = []
                    refine J.done ?_ -- then tv_12 = []
                    refine J.done ?_ -- then tv_13 = []
                    refine J.draw ?_
                    refine J.op R.nil ?_ -- @t161 nilS a0
                    refine J.op fa83_1 ?_
                    refine J.op (R.ld o81 (by with_reducible repeat (first | exact Pick.here | apply Pick.there)) rfl) ?_ -- @t163 vS (Instr.loadAt 81 t162)
                    refine J.op fa46_1 ?_
                    refine J.op (R.ld o3 (by with_reducible repeat (first | exact Pick.here | apply Pick.there)) rfl) ?_ -- @t165 vS (Instr.loadAt 3 t164)
                    refine J.op (R.ldA ag88 (by with_reducible repeat (first | exact Pick.here | apply Pick.there)) rfl) ?_ -- @t166 vS (Instr.loadAt 88 t7)
                    rw [hsym]
                    refine J.op (R.ixN sl81 (i := j) (by omega)) ?_ -- @t167 ix t163 t165
                    refine J.stRowAU sz88 (by with_reducible repeat (first | exact Pick.here | apply Pick.there)) (kns_at hx) (off := 0) rfl rfl (Nat.le_of_ble_eq_true rfl) rfl (kns_up (x := { q with k := { q.k with phase := m.code, dl := IntKind.i64.wrap (m.tick + boundF q.s) } }) rfl) ?_ -- @tu_11#4 uS (Instr.storeAt 88 t167 t166)
                    -- @ret[(.int.i640)]#6
                    refine J.done (RetQ.gt (es := (RatH br gr st.l.length cr ⟨m.seq, m.tick, st.l.set j { q with k := { q.k with phase := m.code, dl := IntKind.i64.wrap (m.tick + boundF q.s) } }⟩ x y c)) (.tmp (.nil)) ?_ ?_)
                    · exact (by (try dsimp only); repeat (first | exact Has.nil | refine Has.cons (by repeat (first | (with_reducible exact Out.here) | ((with_reducible refine Out.cells ?_); first | rfl | (simp; done)) | ((with_reducible refine Out.row ?_); first | rfl | (simp; done)) | (with_reducible apply Out.there))) ?_))
                    · exact ⟨by rw [hck]; rfl, by rw [putW_set (y := ({ q with k := { q.k with phase := m.code, dl := IntKind.i64.wrap (m.tick + boundF q.s) } } : Wk)) hck (by omega) (by omega) hsym hx (by simp [Wk.put, Know.status, *])]⟩
                  · skip
                    refine J.bind ?_ -- @tv_8 bind tv_8 ([])
                    refine J.iteF ?_
                    refine J.bind ?_ -- @tv_6 bind tv_6 ([158])
                    refine J.op fa46_8 ?_
                    refine J.op (R.ld o3 (by with_reducible repeat (first | exact Pick.here | apply Pick.there)) rfl) ?_ -- @t152 vS (Instr.loadAt 3 t151)
                    refine J.opD R.neq (fun ht153 => ?_) (fun ht153 => ?_) -- @t153 binS .neq 3 (.tmp 152) (.const (.int .i64 4)) t152 (.int .i64 4)
                    · skip
                      refine J.gopT rfl ?_
                      refine J.op fa46_8 ?_
                      refine J.gopT rfl ?_
                      refine J.op (R.ld o3 (by with_reducible repeat (first | exact Pick.here | apply Pick.there)) rfl) ?_ -- @t156 vS (Instr.loadAt 3 t155)
                      refine J.gopT rfl ?_
                      refine J.op R.neq ?_ -- @t157 binS .neq 3 (.tmp 156) (.const (.int .i64 5)) t156 (.int .i64 5)
                      refine J.op R.pickT ?_ -- @t158 pickS t153 t157 (.bool false)
                      refine J.done ?_ -- then tv_6 = [t158]
                      refine J.bind ?_ -- @tv_7 bind tv_7 ([])
                      refine J.iteB (fun hctv_6headDundef => ?_) (fun hctv_6headDundef => ?_) -- ite (tv_6.headD undef)
                      · try simp only [List.headD_cons, List.tail_cons, decide_eq_true_eq] at hctv_6headDundef
                        refine J.op fa88_3 ?_
                        refine J.stS sz2 (by with_reducible repeat (first | exact Pick.here | apply Pick.there)) (Nat.le_of_ble_eq_true rfl) rfl (cs' := ({ q.k with phase := m.code, dl := 0 } : Know).cells) rfl ?_ -- @tu_10 uS (Instr.storeAt 2 t159 (.int .i64 0))
                        refine J.done ?_ -- then tv_7 = []
                        refine J.done ?_ -- then tv_8 = []
                        refine J.done ?_ -- then tv_9 = []
                        refine J.done ?_ -- then tv_10 = []
                        refine J.done ?_ -- then tv_11 = []
                        refine J.done ?_ -- then tv_12 = []
                        refine J.done ?_ -- then tv_13 = []
                        refine J.draw ?_
                        refine J.op R.nil ?_ -- @t161 nilS a0
                        refine J.op fa83_1 ?_
                        refine J.op (R.ld o81 (by with_reducible repeat (first | exact Pick.here | apply Pick.there)) rfl) ?_ -- @t163 vS (Instr.loadAt 81 t162)
                        refine J.op fa46_1 ?_
                        refine J.op (R.ld o3 (by with_reducible repeat (first | exact Pick.here | apply Pick.there)) rfl) ?_ -- @t165 vS (Instr.loadAt 3 t164)
                        refine J.op (R.ldA ag88 (by with_reducible repeat (first | exact Pick.here | apply Pick.there)) rfl) ?_ -- @t166 vS (Instr.loadAt 88 t7)
                        rw [hsym]
                        refine J.op (R.ixN sl81 (i := j) (by omega)) ?_ -- @t167 ix t163 t165
                        refine J.stRowAU sz88 (by with_reducible repeat (first | exact Pick.here | apply Pick.there)) (kns_at hx) (off := 0) rfl rfl (Nat.le_of_ble_eq_true rfl) rfl (kns_up (x := { q with k := { q.k with phase := m.code, dl := 0 } }) rfl) ?_ -- @tu_11#5 uS (Instr.storeAt 88 t167 t166)
                        -- @ret[(.int.i640)]#7
                        refine J.done (RetQ.gt (es := (RatH br gr st.l.length cr ⟨m.seq, m.tick, st.l.set j { q with k := { q.k with phase := m.code, dl := 0 } }⟩ x y c)) (.tmp (.nil)) ?_ ?_)
                        · exact (by (try dsimp only); repeat (first | exact Has.nil | refine Has.cons (by repeat (first | (with_reducible exact Out.here) | ((with_reducible refine Out.cells ?_); first | rfl | (simp; done)) | ((with_reducible refine Out.row ?_); first | rfl | (simp; done)) | (with_reducible apply Out.there))) ?_))
                        · exact ⟨by rw [hck]; rfl, by rw [putW_set (y := ({ q with k := { q.k with phase := m.code, dl := 0 } } : Wk)) hck (by omega) (by omega) hsym hx (by simp [Wk.put, Know.status, *])]⟩
                      · try simp only [List.headD_cons, List.tail_cons, decide_eq_false_iff_not] at hctv_6headDundef
                        refine J.done ?_ -- then tv_7 = []
                        refine J.done ?_ -- then tv_8 = []
                        refine J.done ?_ -- then tv_9 = []
                        refine J.done ?_ -- then tv_10 = []
                        refine J.done ?_ -- then tv_11 = []
                        refine J.done ?_ -- then tv_12 = []
                        refine J.done ?_ -- then tv_13 = []
                        refine J.draw ?_
                        refine J.op R.nil ?_ -- @t161 nilS a0
                        refine J.op fa83_1 ?_
                        refine J.op (R.ld o81 (by with_reducible repeat (first | exact Pick.here | apply Pick.there)) rfl) ?_ -- @t163 vS (Instr.loadAt 81 t162)
                        refine J.op fa46_1 ?_
                        refine J.op (R.ld o3 (by with_reducible repeat (first | exact Pick.here | apply Pick.there)) rfl) ?_ -- @t165 vS (Instr.loadAt 3 t164)
                        refine J.op (R.ldA ag88 (by with_reducible repeat (first | exact Pick.here | apply Pick.there)) rfl) ?_ -- @t166 vS (Instr.loadAt 88 t7)
                        rw [hsym]
                        refine J.op (R.ixN sl81 (i := j) (by omega)) ?_ -- @t167 ix t163 t165
                        refine J.stRowAU sz88 (by with_reducible repeat (first | exact Pick.here | apply Pick.there)) (kns_at hx) (off := 0) rfl rfl (Nat.le_of_ble_eq_true rfl) rfl (kns_up (x := { q with k := { q.k with phase := m.code } }) rfl) ?_ -- @tu_11#6 uS (Instr.storeAt 88 t167 t166)
                        -- @ret[(.int.i640)]#8
                        refine J.done (RetQ.gt (es := (RatH br gr st.l.length cr ⟨m.seq, m.tick, st.l.set j { q with k := { q.k with phase := m.code } }⟩ x y c)) (.tmp (.nil)) ?_ ?_)
                        · exact (by (try dsimp only); repeat (first | exact Has.nil | refine Has.cons (by repeat (first | (with_reducible exact Out.here) | ((with_reducible refine Out.cells ?_); first | rfl | (simp; done)) | ((with_reducible refine Out.row ?_); first | rfl | (simp; done)) | (with_reducible apply Out.there))) ?_))
                        · exact ⟨by rw [hck]; rfl, by rw [putW_set (y := ({ q with k := { q.k with phase := m.code } } : Wk)) hck (by omega) (by omega) hsym hx (by simp [Wk.put, Know.status, *])]⟩
                    · skip
                      refine J.gopF rfl ?_
                      refine J.gopF rfl ?_
                      refine J.gopF rfl ?_
                      refine J.op R.pickF ?_ -- @t158 pickS t153 t157 (.bool false)
                      refine J.done ?_ -- then tv_6 = [t158]
                      refine J.bind ?_ -- @tv_7 bind tv_7 ([])
                      refine J.iteF ?_
                      refine J.done ?_ -- then tv_7 = []
                      refine J.done ?_ -- then tv_8 = []
                      refine J.done ?_ -- then tv_9 = []
                      refine J.done ?_ -- then tv_10 = []
                      refine J.done ?_ -- then tv_11 = []
                      refine J.done ?_ -- then tv_12 = []
                      refine J.done ?_ -- then tv_13 = []
                      refine J.draw ?_
                      refine J.op R.nil ?_ -- @t161 nilS a0
                      refine J.op fa83_1 ?_
                      refine J.op (R.ld o81 (by with_reducible repeat (first | exact Pick.here | apply Pick.there)) rfl) ?_ -- @t163 vS (Instr.loadAt 81 t162)
                      refine J.op fa46_1 ?_
                      refine J.op (R.ld o3 (by with_reducible repeat (first | exact Pick.here | apply Pick.there)) rfl) ?_ -- @t165 vS (Instr.loadAt 3 t164)
                      refine J.op (R.ldA ag88 (by with_reducible repeat (first | exact Pick.here | apply Pick.there)) rfl) ?_ -- @t166 vS (Instr.loadAt 88 t7)
                      rw [hsym]
                      refine J.op (R.ixN sl81 (i := j) (by omega)) ?_ -- @t167 ix t163 t165
                      refine J.stRowAU sz88 (by with_reducible repeat (first | exact Pick.here | apply Pick.there)) (kns_at hx) (off := 0) rfl rfl (Nat.le_of_ble_eq_true rfl) rfl (kns_up (x := { q with k := { q.k with phase := m.code } }) rfl) ?_ -- @tu_11#7 uS (Instr.storeAt 88 t167 t166)
                      -- @ret[(.int.i640)]#9
                      refine J.done (RetQ.gt (es := (RatH br gr st.l.length cr ⟨m.seq, m.tick, st.l.set j { q with k := { q.k with phase := m.code } }⟩ x y c)) (.tmp (.nil)) ?_ ?_)
                      · exact (by (try dsimp only); repeat (first | exact Has.nil | refine Has.cons (by repeat (first | (with_reducible exact Out.here) | ((with_reducible refine Out.cells ?_); first | rfl | (simp; done)) | ((with_reducible refine Out.row ?_); first | rfl | (simp; done)) | (with_reducible apply Out.there))) ?_))
                      · exact ⟨by rw [hck]; rfl, by rw [putW_set (y := ({ q with k := { q.k with phase := m.code } } : Wk)) hck (by omega) (by omega) hsym hx (by simp [Wk.put, Know.status, *])]⟩
                · skip
                  refine J.bind ?_ -- @tv_9 bind tv_9 ([])
                  refine J.iteF ?_
                  refine J.done ?_ -- then tv_9 = []
                  refine J.done ?_ -- then tv_10 = []
                  refine J.done ?_ -- then tv_11 = []
                  refine J.done ?_ -- then tv_12 = []
                  refine J.done ?_ -- then tv_13 = []
                  refine J.draw ?_
                  refine J.op R.nil ?_ -- @t161 nilS a0
                  refine J.op fa83_1 ?_
                  refine J.op (R.ld o81 (by with_reducible repeat (first | exact Pick.here | apply Pick.there)) rfl) ?_ -- @t163 vS (Instr.loadAt 81 t162)
                  refine J.op fa46_1 ?_
                  refine J.op (R.ld o3 (by with_reducible repeat (first | exact Pick.here | apply Pick.there)) rfl) ?_ -- @t165 vS (Instr.loadAt 3 t164)
                  refine J.op (R.ldA ag88 (by with_reducible repeat (first | exact Pick.here | apply Pick.there)) rfl) ?_ -- @t166 vS (Instr.loadAt 88 t7)
                  rw [hsym]
                  refine J.op (R.ixN sl81 (i := j) (by omega)) ?_ -- @t167 ix t163 t165
                  refine J.stRowAU sz88 (by with_reducible repeat (first | exact Pick.here | apply Pick.there)) (kns_at hx) (off := 0) rfl rfl (Nat.le_of_ble_eq_true rfl) rfl (kns_up (x := q) rfl) ?_ -- @tu_11#8 uS (Instr.storeAt 88 t167 t166)
                  -- @ret[(.int.i640)]#10
                  refine J.done (RetQ.gt (es := (RatH br gr st.l.length cr ⟨m.seq, m.tick, st.l.set j q⟩ x y c)) (.tmp (.nil)) ?_ ?_)
                  · exact (by (try dsimp only); repeat (first | exact Has.nil | refine Has.cons (by repeat (first | (with_reducible exact Out.here) | ((with_reducible refine Out.cells ?_); first | rfl | (simp; done)) | ((with_reducible refine Out.row ?_); first | rfl | (simp; done)) | (with_reducible apply Out.there))) ?_))
                  · exact ⟨by rw [hck]; rfl, by rw [putW_set (y := (q : Wk)) hck (by omega) (by omega) hsym hx (by simp [Wk.put, Know.status, *])]⟩
end Go.Proofs.Ytipgdalebkhgpaa
