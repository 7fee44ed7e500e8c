/-
  Contracts of functions.
-/
import Derived.Test.YtipgdalebkhgpaaTerms1
import Derived.Test.YtipgdalebkhgpaaTerms2
import Derived.Test.YtipgdalebkhgpaaTab
import Derived.Test.YtipgdalebkhgpaaModTape
import Derived.Test.YtipgdalebkhgpaaT2
import Derived.Test.YtipgdalebkhgpaaT1
import Derived.Test.YtipgdalebkhgpaaB2
set_option maxRecDepth 100000
set_option maxHeartbeats 4000000
set_option linter.unusedVariables false
set_option linter.unusedSimpArgs false
namespace Go.Proofs.Ytipgdalebkhgpaa
open Go Go.RowKit Fw
/-- damper/tape.Whole -/
theorem s15 (v : Value) (l : List Msg) (sym : Int) (hl : l.length ≤ 150) (hok : ∀ m, m ∈ l → i64R m.tick) :
    FnE Try.prog 15 [v, .int .i64 sym] (fun w => RdS w v 9 (msgs l)) (.tuple #[.agg (wholeM (cts sym l)).cells.toArray, .bool (decide (cts sym l ≠ []))]) := by
  refine fn_of_J (cx := cx15) hmix Try.func15 (by kernel_rfl) (eq15 _ _) fun w hw => ?_
  obtain ⟨a, cc, rfl, -, -⟩ : ∃ a cc, v = .slice a l.length cc ∧ True ∧ True := by
    obtain ⟨a, cc, rfl, -⟩ := id hw
    exact ⟨a, cc, by rw [msgs_len], trivial, trivial⟩
  have hXl := cts_len (sym := sym) (l := l)
  have hXo : Cok (cts sym l) := cts_ok hok
  refine J.alloc z32 fun bt4 => ?_
  refine J.alloc z100 fun bt6 => ?_
  refine J.callT en47 (s47 a l.length cc sym) rfl (fun _ _ _ => trivial) Take.nil (fun v es hv => ?_)
  obtain ⟨cb, cb3, rfl, rfl⟩ := hv
  simp only [List.cons_append, List.nil_append] -- @t11 callS (.func (.func 47) #[] #[]) [a0, a1]
  refine J.bind ?_ -- @tv_2 bind tv_2 ([])
  refine J.block ?_
  -- @ty range t11
  refine J.rangeI (fun k H => k ≤ (cts sym l).length ∧ H = [Ent.cells bt6 (mkC (tickF ((cts sym l).take k)) ((cts sym l).take k)) 100, Ent.cells bt4 [.int .i64 0, .int .i64 0, .int .i64 0, .int .i64 0, .int .i64 0, .int .i64 0, .int .i64 0, .int .i64 0] 32]) (fun x H => False) (Hc := [Ent.cells cb3 [.int .i64 sym] 3, Ent.cells cb [.slice a l.length cc] 22]) en77 (s77 cb cb3 (.slice a l.length cc) sym l) (.cons (by (try dsimp only); repeat (first | (with_reducible exact Out.here) | ((with_reducible refine Out.cells ?_); first | rfl | (simp; done)) | ((with_reducible refine Out.row ?_); first | rfl | (simp; done)) | (with_reducible apply Out.there))) (.cons (by (try dsimp only); repeat (first | (with_reducible exact Out.here) | ((with_reducible refine Out.cells ?_); first | rfl | (simp; done)) | ((with_reducible refine Out.row ?_); first | rfl | (simp; done)) | (with_reducible apply Out.there))) .nil)) (by exact ⟨Nat.zero_le _, by rw [List.take_zero, show tickF [] = 0 from rfl, mkC_nil]⟩) ?_ ?_ ?_ ?_
  · intro Ds w2 F hs hF hF2
    exact ⟨Blk.of (by with_reducible repeat (first | exact Pick.here | apply Pick.there)) hs, Blk.of (by with_reducible repeat (first | exact Pick.here | apply Pick.there)) hs, RdF.iter hw msgs_ne hs hF2, hF (Ent.cells cb [.slice a l.length cc] 22) (by simp) cb rfl, hF (Ent.cells cb3 [.int .i64 sym] 3) (by simp) cb3 rfl⟩
  · skip
    intro lo Lo w1 Ds hs k vs Hk w0 hvs hI hsep hst
    obtain ⟨hk, rfl⟩ := hI
    obtain ⟨x, hx, rfl⟩ := yl_inv hvs
    have hlt : k < (cts sym l).length := (List.getElem?_eq_some_iff.1 hx).1
    have hmx := hXo x (List.mem_of_getElem? hx)
    have hct := hXo.take (k := k)
    have hlk : ((cts sym l).take k).length = k := by rw [List.length_take]; omega
    have hts := take_snoc hx
    generalize (cts sym l).take k = c at hct hlk hts ⊢
    have hnil : c = [] ↔ c.length = 0 := List.length_eq_zero_iff.symm
    try simp only [List.headD_cons, List.tail_cons]
    refine J.alloc z46 fun bt7 => ?_
    refine J.stW sz46 (by with_reducible repeat (first | exact Pick.here | apply Pick.there)) rfl rfl rfl ?_ -- @tu uS (Instr.storeAt 46 t7 (ty.headD undef))
    refine J.begin (by with_reducible repeat (first | exact Pick.here | apply Pick.there)) ?_
    refine J.bind ?_ -- @tv_1 bind tv_1 ([])
    refine J.block ?_
    refine J.op fa46_3 ?_
    refine J.op (R.ld o2 (by with_reducible repeat (first | exact Pick.here | apply Pick.there)) rfl) ?_ -- @t14 vS (Instr.loadAt 2 t13)
    refine J.op fa100_0 ?_
    refine J.op fa32_6 ?_
    refine J.op (R.ld o3 (by with_reducible repeat (first | exact Pick.here | apply Pick.there)) rfl) ?_ -- @t17 vS (Instr.loadAt 3 t16)
    refine J.opD R.gtr (fun ht18 => ?_) (fun ht18 => ?_) -- @t18 binS .gtr 3 (.tmp 17) (.const (.int .i64 0)) t17 (.int .i64 0)
    · skip
      refine J.bind ?_ -- @tv bind tv ([8])
      refine J.iteT ?_
      refine J.op fa100_0 ?_
      refine J.op fa32_0 ?_
      refine J.op (R.ld o2 (by with_reducible repeat (first | exact Pick.here | apply Pick.there)) rfl) ?_ -- @t21 vS (Instr.loadAt 2 t20)
      refine J.done ?_ -- then tv = [t21]
      refine J.op (R.ldA ag46 (by with_reducible repeat (first | exact Pick.here | apply Pick.there)) rfl) ?_ -- @t23 vS (Instr.loadAt 46 t7)
      have hne : c ≠ [] := fun h => absurd ht18 (by rw [h]; decide)
      have htk : tickF (c ++ [x]) = tickF c := by rw [tick_snoc, if_neg hne]
      refine J.callT en48 (s48 bt6 _ _ _ x hct hmx (by omega)) rfl (fun _ _ _ => trivial) (Take.cons (by (try dsimp only); repeat (first | (with_reducible exact Out.here) | ((with_reducible refine Out.cells ?_); first | rfl | (simp; done)) | ((with_reducible refine Out.row ?_); first | rfl | (simp; done)) | (with_reducible apply Out.there))) Take.nil) (fun v es hv => ?_)
      obtain rfl := hv
      simp only [List.cons_append, List.nil_append]
      rw [if_neg hne, ← htk] -- @t24 callS (.func (.func 48) #[] #[]) [t6, (tv.headD undef), t23]
      refine J.done ?_ -- then tv_1 = []
      -- @next:ty
      refine J.imp (Imp.take (es := Ent.obj lo (lp Lo .busy none) :: [Ent.cells bt6 (mkC (tickF (c ++ [x])) (c ++ [x])) 100, Ent.cells bt4 [.int .i64 0, .int .i64 0, .int .i64 0, .int .i64 0, .int .i64 0, .int .i64 0, .int .i64 0, .int .i64 0] 32]) (by (try dsimp only); repeat (first | exact Has.nil | refine Has.cons (by repeat (first | (with_reducible exact Out.here) | ((with_reducible refine Out.cells ?_); first | rfl | (simp; done)) | ((with_reducible refine Out.row ?_); first | rfl | (simp; done)) | (with_reducible apply Out.there))) ?_))) ?_
      exact J.done ⟨_, .cons .here .nil, ⟨hlt, by rw [hts]⟩⟩
    · skip
      refine J.bind ?_ -- @tv bind tv ([8])
      refine J.iteF ?_
      refine J.done ?_ -- then tv = [t14]
      refine J.op (R.ldA ag46 (by with_reducible repeat (first | exact Pick.here | apply Pick.there)) rfl) ?_ -- @t23 vS (Instr.loadAt 46 t7)
      obtain rfl : c = [] := hnil.2 (by omega)
      refine J.callT en48 (s48 bt6 _ _ _ x hct hmx (by omega)) rfl (fun _ _ _ => trivial) (Take.cons (by (try dsimp only); repeat (first | (with_reducible exact Out.here) | ((with_reducible refine Out.cells ?_); first | rfl | (simp; done)) | ((with_reducible refine Out.row ?_); first | rfl | (simp; done)) | (with_reducible apply Out.there))) Take.nil) (fun v es hv => ?_)
      obtain rfl := hv
      simp only [List.cons_append, List.nil_append]
      try rw [if_pos rfl] -- @t24#2 callS (.func (.func 48) #[] #[]) [t6, (tv.headD undef), t23]
      refine J.done ?_ -- then tv_1 = []
      -- @next:ty#2
      refine J.imp (Imp.take (es := Ent.obj lo (lp Lo .busy none) :: [Ent.cells bt6 (mkC (tickF ([] ++ [x])) ([] ++ [x])) 100, Ent.cells bt4 [.int .i64 0, .int .i64 0, .int .i64 0, .int .i64 0, .int .i64 0, .int .i64 0, .int .i64 0, .int .i64 0] 32]) (by (try dsimp only); repeat (first | exact Has.nil | refine Has.cons (by repeat (first | (with_reducible exact Out.here) | ((with_reducible refine Out.cells ?_); first | rfl | (simp; done)) | ((with_reducible refine Out.row ?_); first | rfl | (simp; done)) | (with_reducible apply Out.there))) ?_))) ?_
      exact J.done ⟨_, .cons .here .nil, ⟨hlt, by rw [hts]⟩⟩
  · skip
    rintro H2 ⟨_, rfl⟩
    rw [yl_len, List.take_length]
    simp only [List.cons_append, List.nil_append]
    refine J.done ?_ -- then tv_2 = []
    refine J.op fa100_0 ?_
    refine J.op fa32_6 ?_
    refine J.op (R.ld o3 (by with_reducible repeat (first | exact Pick.here | apply Pick.there)) rfl) ?_ -- @t27 vS (Instr.loadAt 3 t26)
    refine J.opD R.eql (fun ht28 => ?_) (fun ht28 => ?_) -- @t28 binS .eql 3 (.tmp 27) (.const (.int .i64 0)) t27 (.int .i64 0)
    · skip
      refine J.iteT ?_
      refine J.op bd32 ?_ -- @t29 vS (Instr.build 32 #[])
      refine J.stW sz32 (by with_reducible repeat (first | exact Pick.here | apply Pick.there)) rfl rfl rfl ?_ -- @tu_1 uS (Instr.storeAt 32 t4 t29)
      -- @ret[t4,(.boolfalse)]
      have hnil : cts sym l = [] := List.length_eq_zero_iff.1 (by omega)
      exact J.done (RetQ.ge (.cellA ag32 (by with_reducible repeat (first | exact Pick.here | apply Pick.there)) rfl (.tmp .nil)) (by rw [hnil]; rfl))
    · skip
      refine J.iteF ?_
      have hne : cts sym l ≠ [] := fun h => ht28 (by rw [h]; rfl)
      refine J.callT en49 (s49 bt6 (tickF (cts sym l)) (cts sym l) hXo hne (by omega)) rfl (fun _ _ _ => trivial) (Take.cons (by (try dsimp only); repeat (first | (with_reducible exact Out.here) | ((with_reducible refine Out.cells ?_); first | rfl | (simp; done)) | ((with_reducible refine Out.row ?_); first | rfl | (simp; done)) | (with_reducible apply Out.there))) Take.nil) (fun v es hv => ?_)
      obtain ⟨rfl, rfl⟩ := hv
      simp only [List.cons_append, List.nil_append] -- @t30 callS (.func (.func 49) #[] #[]) [t6]
      refine J.stW sz32 (by with_reducible repeat (first | exact Pick.here | apply Pick.there)) rfl rfl rfl ?_ -- @tu_2 uS (Instr.storeAt 32 t4 t30)
      -- @ret[t4,(.booltrue)]
      exact J.done (RetQ.ge (.cellA ag32 (by with_reducible repeat (first | exact Pick.here | apply Pick.there)) rfl (.tmp (.nil))) (by rw [show wholeM (cts sym l) = barOf (tickF (cts sym l)) (cts sym l) from if_neg hne, decide_eq_true hne]; rfl))
  · skip
    intro x H2 hx hf
    exact hf.elim

/-- damper/damperlaw34.alive -/
theorem s11  :
    FnE Try.prog 11 [] (fun _ => True) (.bool true) := by
  refine fn_of_J (cx := cx11) hmix Try.func11 (by kernel_rfl) (eq11) fun w hw => ?_
  refine J.op bd46_0_6_7_3 ?_ -- @t4 vS (Instr.build 46 #[(0, (.int .i64 3)), (6, (.int .i64 100)), (7, (.int .i64 1)), (3, (.int .i64 4))])
  refine J.op bd46_0_6_7_3 ?_ -- @t5 vS (Instr.build 46 #[(0, (.int .i64 3)), (6, (.int .i64 104)), (7, (.int .i64 3)), (3, (.int .i64 6))])
  refine J.bs bs22_2 fun bt6 => ?_ -- @t6 vS (Instr.buildSlice 22 2 #[(0, t4), (1, t5)])
  refine J.callE en15 (s15 (.slice (some ⟨bt6, 0, none⟩) 2 2) aliveL 0 (by decide) alive_ok) rfl (fun _ _ hs => SeeS.lit (els := msgs aliveL) (by with_reducible repeat (first | exact Pick.here | apply Pick.there)) (by rfl) (by intro l hl; simp only [msgs, aliveL, List.map_cons, List.map_nil, List.mem_cons, List.not_mem_nil, or_false] at hl; rcases hl with rfl | rfl <;> rfl) (by rfl) (by decide) _ _ hs) ?_
  rw [alive_cts, alive_bar, show decide (aliveL ≠ []) = true from rfl] -- @t7 callS (.func (.func 15) #[] #[]) [t6, (.int .i64 0)]
  refine J.op (R.ext rfl) ?_ -- @t8 vS (Instr.extract t7 0)
  refine J.op (R.ext rfl) ?_ -- @t9 vS (Instr.extract t7 1)
  refine J.alloc z32 fun bt1 => ?_
  refine J.stW sz32 (by with_reducible repeat (first | exact Pick.here | apply Pick.there)) rfl rfl rfl ?_ -- @tu uS (Instr.storeAt 32 t1 t8)
  refine J.bind ?_ -- @tv bind tv ([0])
  refine J.gopT rfl ?_
  refine J.op (R.ldA ag32 (by with_reducible repeat (first | exact Pick.here | apply Pick.there)) rfl) ?_ -- @t12 vS (Instr.loadAt 32 t1)
  refine J.gopT rfl ?_
  refine J.op bd32_0_1_2_3_4_5_6_7 ?_ -- @t13 vS (Instr.build 32 #[(0, (.int .i64 4)), (1, (.int .i64 100)), (2, (.int .i64 104)), (3, (.int .i64 100)), (4, (.int .i64 104)), (5, (.int .i64 4)), (6, (.int .i64 2)), (7, (.int .i64 103))])
  refine J.gopT rfl ?_
  refine J.opDT (R.eqA gt32 (by repeat (first | exact trivial | refine ⟨⟨_, rfl⟩, ?_⟩)) (by repeat (first | exact trivial | refine ⟨⟨_, rfl⟩, ?_⟩))) (by rfl) ?_ -- @t14
  refine J.op R.pickT ?_ -- @t15 pickS t9 t14 (.bool false)
  refine J.done ?_ -- then tv = [t15]
  -- @ret[(tv.headDundef)]
  exact J.done (RetQ.ge (.tmp (.nil)) (by first | rfl | (simp [mkRes, *]; done) | (simp_all [mkRes]; done) | (simp_all [mkRes]; first | omega | (rw [decide_eq_false_iff_not]; omega) | (rw [decide_eq_true_iff]; omega)) | (simp only [mkRes]; (repeat' split) <;> first | rfl | omega | (simp_all; done) | (simp_all; omega))))

/-- damper/damperlaw34.TapeBars -/
theorem s3 (v : Value) (l : List Msg) (sym width : Int) (hok : ∀ m, m ∈ l → i64R m.tick) (hwd : i64R width) :
    FnE Try.prog 3 [v, .int .i64 sym, .int .i64 width] (fun w => RdS w v 9 (msgs l)) (.bool true) := by
  refine fn_of_J (cx := cx3) hmix Try.func3 (by kernel_rfl) (eq3 _ _ _) fun w hw => ?_
  have hS : ∀ H, SeeS ⟨Try.prog, w, footOf []⟩ H v 9 (msgs l) := fun H => SeeS.ofW0 hw msgs_ne
  have hm := hw.le
  simp only [msgs_len, maxLen] at hm
  refine J.op (R.lenN sl22 (hS _) msgs_len) ?_ -- @t13 bltS .len #[22] 3 #[false] [a0]
  refine J.opD R.gtr (fun ht14 => ?_) (fun ht14 => ?_) -- @t14 binS .gtr 3 (.tmp 13) (.const (.int .i64 150)) t13 (.int .i64 150)
  · skip
    refine J.iteT ?_
    refine J.callE en11 (s11) rfl (fun _ _ _ => trivial) ?_ -- @t15 callS (.func (.func 11) #[] #[]) []
    -- @ret[t15]
    exact J.done (RetQ.ge (.tmp (.nil)) (by first | rfl | (simp [mkRes, *]; done) | (simp_all [mkRes]; done) | (simp_all [mkRes]; first | omega | (rw [decide_eq_false_iff_not]; omega) | (rw [decide_eq_true_iff]; omega)) | (simp only [mkRes]; (repeat' split) <;> first | rfl | omega | (simp_all; done) | (simp_all; omega))))
  · skip
    refine J.iteF ?_
    refine J.callT en12 (s12 v l sym width (by omega) hok hwd) rfl (fun _ _ hs => hS _ _ _ hs) Take.nil (fun v2 es hv => ?_)
    obtain ⟨at20, nt20, ct20, rfl, rfl⟩ := hv
    simp only [List.cons_append, List.nil_append] -- @t20 callS (.func (.func 12) #[] #[]) [a0, a1, a2]
    refine J.op (R.ext rfl) ?_ -- @t21 vS (Instr.extract t20 0)
    refine J.op (R.ext rfl) ?_ -- @t22 vS (Instr.extract t20 1)
    refine J.callT en13 (s13 v l sym width (by omega) hok) rfl (fun _ _ hs => hS _ _ _ hs) Take.nil (fun v2 es hv => ?_)
    obtain ⟨at27, nt27, ct27, rfl, rfl⟩ := hv
    simp only [List.cons_append, List.nil_append] -- @t27 callS (.func (.func 13) #[] #[]) [a0, a1, a2]
    refine J.op (R.ext rfl) ?_ -- @t28 vS (Instr.extract t27 0)
    refine J.op (R.ext rfl) ?_ -- @t29 vS (Instr.extract t27 1)
    refine J.bind ?_ -- @tv bind tv ([39])
    refine J.opDF R.neq (by exact fun h => h rfl) ?_ -- @t32
    refine J.gopT rfl ?_
    refine J.op R.pure ?_
    refine J.gopT rfl ?_
    refine J.op (R.lenN sl24 (SeeS.row (v := .slice at20 nt20 ct20) (E := 32) (by with_reducible repeat (first | exact Pick.here | apply Pick.there))) bars_len) ?_ -- @t35 bltS .len #[24] 3 #[false] [t34]
    refine J.gopT rfl ?_
    refine J.op R.pure ?_
    refine J.gopT rfl ?_
    refine J.op (R.lenN sl28 (SeeS.row (v := .slice at27 nt27 ct27) (E := 34) (by with_reducible repeat (first | exact Pick.here | apply Pick.there))) bars_len) ?_ -- @t37 bltS .len #[28] 3 #[false] [t36]
    refine J.gopT rfl ?_
    refine J.opDF R.neq (by exact fun h => h rfl) ?_ -- @t38
    refine J.op R.pickF ?_ -- @t39 pickS t32 (.bool true) t38
    refine J.done ?_ -- then tv = [t39]
    refine J.iteF ?_
    refine J.bind ?_ -- @tv_2 bind tv_2 ([6])
    refine J.block ?_
    -- @tx loop [(.bool false), (.int .i64 0)]
    refine J.loopH (α := Nat) (fun i => i ≤ (barsF width (cts sym l)).length) (fun i => [.bool false, .int .i64 i]) (fun i => (barsF width (cts sym l)).length - i) 0 (Nat.zero_le _) rfl ?_
    rintro i hi
    try simp only [List.headD_cons, List.tail_cons]
    refine J.op (R.lenN sl24 (SeeS.row (v := .slice at20 nt20 ct20) (E := 32) (by with_reducible repeat (first | exact Pick.here | apply Pick.there))) bars_len) ?_ -- @t42 bltS .len #[24] 3 #[false] [t21]
    refine J.opD R.lss (fun ht43 => ?_) (fun ht43 => ?_) -- @t43 binS .lss 3 (.tmp 40) (.tmp 42) (tx.tail.headD undef) t42
    · skip
      refine J.iteT ?_
      refine J.bind ?_ -- @tv_1 bind tv_1 ([6])
      refine J.block ?_
      refine J.draw ?_
      obtain ⟨x, hx⟩ := get_ex (l := barsF width (cts sym l)) (i := i) (by omega)
      refine J.fact (φ := ∃ g, at20 = some ⟨g, 0, none⟩ ∧ nt20 = (bars (barsF width (cts sym l))).length ∧ (barsF width (cts sym l)).length ≤ 9223372036854775807) (fun _ _ hs => ?_) fun hg => ?_
      · have hml := Row.le (a := at20) (n := nt20) (c := ct20) (E := 32) (els := bars (barsF width (cts sym l))) (by with_reducible repeat (first | exact Pick.here | apply Pick.there)) hs
        rw [bars_len, maxLen] at hml
        obtain ⟨g, h1, h2⟩ := Row.shape (a := at20) (n := nt20) (c := ct20) (E := 32) (els := bars (barsF width (cts sym l))) (by with_reducible repeat (first | exact Pick.here | apply Pick.there)) (by intro h; have h2 : (bars (barsF width (cts sym l))).length = 0 := (by rw [h]; rfl); rw [bars_len] at h2; omega) hs
        exact ⟨g, h1, h2, by omega⟩
      obtain ⟨gat20, rfl, rfl, hmlat20⟩ := hg
      refine J.fact (φ := ∃ g, at27 = some ⟨g, 0, none⟩ ∧ nt27 = (bars (barsF width (cts sym l))).length ∧ (barsF width (cts sym l)).length ≤ 9223372036854775807) (fun _ _ hs => ?_) fun hg => ?_
      · have hml := Row.le (a := at27) (n := nt27) (c := ct27) (E := 34) (els := bars (barsF width (cts sym l))) (by with_reducible repeat (first | exact Pick.here | apply Pick.there)) hs
        rw [bars_len, maxLen] at hml
        obtain ⟨g, h1, h2⟩ := Row.shape (a := at27) (n := nt27) (c := ct27) (E := 34) (els := bars (barsF width (cts sym l))) (by with_reducible repeat (first | exact Pick.here | apply Pick.there)) (by intro h; have h2 : (bars (barsF width (cts sym l))).length = 0 := (by rw [h]; rfl); rw [bars_len] at h2; omega) hs
        exact ⟨g, h1, h2, by omega⟩
      obtain ⟨gat27, rfl, rfl, hmlat27⟩ := hg
      refine J.op (R.ixN sl24 (i := i) (by rw [bars_len]; omega)) ?_ -- @t48 ix t21 (tx.tail.headD undef)
      refine J.op (R.ldRowA ag32 (by with_reducible repeat (first | exact Pick.here | apply Pick.there)) (bars_at hx) (off := 0) rfl rfl rfl) ?_ -- @t49 vS (Instr.loadAt 32 t48)
      refine J.op (R.ixN sl28 (i := i) (by rw [bars_len]; omega)) ?_ -- @t52 ix t28 (tx.tail.headD undef)
      refine J.op (R.ldRowA ag34 (by with_reducible repeat (first | exact Pick.here | apply Pick.there)) (bars_at hx) (off := 0) rfl rfl rfl) ?_ -- @t53 vS (Instr.loadAt 34 t52)
      refine J.callE en14 (s14 x) rfl (fun _ _ _ => trivial) ?_ -- @t54 callS (.func (.func 14) #[] #[]) [t53]
      refine J.chkR (R.ldRowA ag32 (by with_reducible repeat (first | exact Pick.here | apply Pick.there)) (bars_at hx) (off := 0) rfl rfl rfl) ?_ -- @chk:t49 vS (Instr.loadAt 32 t48)
      refine J.chkR (R.ixN sl24 (i := i) (by rw [bars_len]; omega)) ?_ -- @chk:t48 vS (Instr.indexAt 24 t21 (tx.tail.headD undef))
      refine J.opDF (R.neA gt32 (by repeat (first | exact trivial | refine ⟨⟨_, rfl⟩, ?_⟩)) (by repeat (first | exact trivial | refine ⟨⟨_, rfl⟩, ?_⟩))) (by exact fun h => h rfl) ?_ -- @t55
      refine J.iteF ?_
      refine J.done ?_ -- then tv_1 = [(tx.headD undef)]
      refine J.op (R.add64 (by omega)) ?_ -- @t45 binS .add 3 (.tmp 44) (.const (.int .i64 1)) (tx.tail.headD undef) (.int .i64 1)
      -- @again[(tv_1.headDundef),t45]
      exact J.done ⟨i + 1, by omega, rfl, Imp.refl _, by omega⟩
    · skip
      refine J.iteF ?_
      refine J.done ⟨fun _ => ?_, fun h => absurd rfl h⟩ -- exit [(tx.headD undef)]
      refine J.callE en11 (s11) rfl (fun _ _ _ => trivial) ?_ -- @t56 callS (.func (.func 11) #[] #[]) []
      -- @ret[t56]
      exact J.done (RetQ.ge (.tmp (.nil)) (by first | rfl | (simp [mkRes, *]; done) | (simp_all [mkRes]; done) | (simp_all [mkRes]; first | omega | (rw [decide_eq_false_iff_not]; omega) | (rw [decide_eq_true_iff]; omega)) | (simp only [mkRes]; (repeat' split) <;> first | rfl | omega | (simp_all; done) | (simp_all; omega))))
end Go.Proofs.Ytipgdalebkhgpaa
