/-
  Contracts of functions.
-/
import Derived.Test.YtipgdalebkhgpaaTerms1
import Derived.Test.YtipgdalebkhgpaaTerms2
import Derived.Test.YtipgdalebkhgpaaTab
import Derived.Test.YtipgdalebkhgpaaModVol
import Derived.Test.YtipgdalebkhgpaaT3
import Derived.Test.YtipgdalebkhgpaaT2
import Derived.Test.YtipgdalebkhgpaaT1
import Derived.Test.YtipgdalebkhgpaaG1
set_option maxRecDepth 100000
set_option maxHeartbeats 4000000
set_option linter.unusedVariables false
set_option linter.unusedSimpArgs false
namespace Go.Proofs.Ytipgdalebkhgpaa
open Go Go.RowKit Fw
/-- damper/tape.Volumes -/
theorem s20 (v : Value) (l : List Msg) (sym : Int) (hl : l.length ≤ 150) (hok : ∀ m, m ∈ l → i64R m.tick) :
    FnT Try.prog 20 [v, .int .i64 sym] (fun w => RdS w v 9 (msgs l)) [] (fun u es => ∃ b n D, MapP D (cts sym l) ∧ u = .map (some b) ∧ es = [Ent.map Try.prog 2 2 b n D]) := by
  refine fn_of_J (cx := cx20) hmix Try.func20 (by kernel_rfl) (eq20 _ _) fun w hw => ?_
  obtain ⟨a, cc, rfl, -, -⟩ : ∃ a cc, v = .slice a l.length cc ∧ True ∧ True := by
    obtain ⟨a, cc, rfl, -⟩ := id hw
    exact ⟨a, cc, by rw [msgs_len], trivial, trivial⟩
  have hXl := cts_len (sym := sym) (l := l)
  have hXo : Cok (cts sym l) := cts_ok hok
  refine J.makeMap (T := 43) (k := 2) (e := 2) fun bt7 => ?_ -- @t7 vS (Instr.makeMap 43 none)
  refine J.alloc z43 fun bt5 => ?_
  refine J.st sz43 (by with_reducible repeat (first | exact Pick.here | apply Pick.there)) (by repeat (first | exact .zero | exact .nil | apply Upd.succ | apply UpdN.cons)) rfl ?_ -- @tu uS (Instr.storeAt 43 t5 t7)
  refine J.callT en47 (s47 a l.length cc sym) rfl (fun _ _ _ => trivial) Take.nil (fun v es hv => ?_)
  obtain ⟨cb, cb3, rfl, rfl⟩ := hv
  simp only [List.cons_append, List.nil_append] -- @t10 callS (.func (.func 47) #[] #[]) [a0, a1]
  refine J.bind ?_ -- @tv_1 bind tv_1 ([])
  refine J.block ?_
  -- @ty range t10
  refine J.rangeI (fun k H => k ≤ (cts sym l).length ∧ ∃ D, H = [Ent.cells bt5 [.map (some bt7)] 43, Ent.map Try.prog 2 2 bt7 k D] ∧ MapP D ((cts sym l).take k)) (fun x H => False) (Hc := [Ent.cells cb3 [.int .i64 sym] 3, Ent.cells cb [.slice a l.length cc] 22]) en77 (s77 cb cb3 (.slice a l.length cc) sym l) (.cons (by (try dsimp only); repeat (first | (with_reducible exact Out.here) | ((with_reducible refine Out.cells ?_); first | rfl | (simp; done)) | ((with_reducible refine Out.row ?_); first | rfl | (simp; done)) | (with_reducible apply Out.there))) (.cons (by (try dsimp only); repeat (first | (with_reducible exact Out.here) | ((with_reducible refine Out.cells ?_); first | rfl | (simp; done)) | ((with_reducible refine Out.row ?_); first | rfl | (simp; done)) | (with_reducible apply Out.there))) .nil)) (by exact ⟨Nat.zero_le _, _, rfl, by rw [List.take_zero]; exact MapP.zero⟩) ?_ ?_ ?_ ?_
  · intro Ds w2 F hs hF hF2
    exact ⟨Blk.of (by with_reducible repeat (first | exact Pick.here | apply Pick.there)) hs, Blk.of (by with_reducible repeat (first | exact Pick.here | apply Pick.there)) hs, RdF.iter hw msgs_ne hs hF2, hF (Ent.cells cb [.slice a l.length cc] 22) (by simp) cb rfl, hF (Ent.cells cb3 [.int .i64 sym] 3) (by simp) cb3 rfl⟩
  · skip
    intro lo Lo w1 Ds hs k vs Hk w0 hvs hI hsep hst
    obtain ⟨hk, D, rfl, hD⟩ := hI
    obtain ⟨x, hx, rfl⟩ := yl_inv hvs
    have hlt : k < (cts sym l).length := (List.getElem?_eq_some_iff.1 hx).1
    have hmx := hXo x (List.mem_of_getElem? hx)
    have hpx := hmx.price
    have hqx := hmx.qty
    have hct := hXo.take (k := k)
    have hvr := volAt_range (k := x.price) hct
    rw [List.length_take] at hvr
    have hst2 := hD.step (m := x)
    rw [← take_snoc hx] at hst2
    try simp only [List.headD_cons, List.tail_cons]
    refine J.alloc z46 fun bt6 => ?_
    refine J.stW sz46 (by with_reducible repeat (first | exact Pick.here | apply Pick.there)) rfl rfl rfl ?_ -- @tu_1 uS (Instr.storeAt 46 t6 (ty.headD undef))
    refine J.begin (by with_reducible repeat (first | exact Pick.here | apply Pick.there)) ?_
    refine J.bind ?_ -- @tv bind tv ([])
    refine J.block ?_
    refine J.op (R.ld o43 (by with_reducible repeat (first | exact Pick.here | apply Pick.there)) rfl) ?_ -- @t12 vS (Instr.loadAt 43 t5)
    refine J.op fa46_6 ?_
    refine J.op (R.ld o2 (by with_reducible repeat (first | exact Pick.here | apply Pick.there)) rfl) ?_ -- @t14 vS (Instr.loadAt 2 t13)
    refine J.op (R.lookup um43 um2 um2 zv2 (by with_reducible repeat (first | exact Pick.here | apply Pick.there)) (wf64 (by unfold i64R; omega)) (hD.at_ _)) ?_ -- @t15 vS (Instr.lookup 43 t12 t14 false)
    refine J.op fa46_7 ?_
    refine J.op (R.ld o2 (by with_reducible repeat (first | exact Pick.here | apply Pick.there)) rfl) ?_ -- @t17 vS (Instr.loadAt 2 t16)
    refine J.op (R.add64 (by omega)) ?_ -- @t18 binS .add 2 (.tmp 15) (.tmp 17) t15 t17
    refine J.mapUpdate um43 um2 um2 (by with_reducible repeat (first | exact Pick.here | apply Pick.there)) (Nat.lt_of_lt_of_le (show k < 1000 by omega) (by decide)) (wf64 (by unfold i64R; omega)) (wf64 (by unfold i64R; omega)) ?_ -- @tu_2 uS (Instr.mapUpdate 43 t12 t14 t18)
    refine J.done ?_ -- then tv = []
    -- @next:ty
    refine J.imp (Imp.take (es := Ent.obj lo (lp Lo .busy none) :: [Ent.cells bt5 [.map (some bt7)] 43, Ent.map Try.prog 2 2 bt7 (k + 1) (D.put (.int .i64 x.price) (.lit (.int .i64 (volAt ((cts sym l).take k) x.price + x.qty))))]) (by (try dsimp only); repeat (first | exact Has.nil | refine Has.cons (by repeat (first | (with_reducible exact Out.here) | ((with_reducible refine Out.cells ?_); first | rfl | (simp; done)) | ((with_reducible refine Out.row ?_); first | rfl | (simp; done)) | (with_reducible apply Out.there))) ?_))) ?_
    exact J.done ⟨_, .cons .here .nil, ⟨hlt, _, rfl, hst2⟩⟩
  · skip
    rintro H2 ⟨_, D, rfl, hD⟩
    rw [yl_len, List.take_length] at hD
    simp only [List.cons_append, List.nil_append]
    refine J.done ?_ -- then tv_1 = []
    refine J.op (R.ld o43 (by with_reducible repeat (first | exact Pick.here | apply Pick.there)) rfl) ?_ -- @t19 vS (Instr.loadAt 43 t5)
    -- @ret[t19]
    refine J.done (RetQ.gt (es := [Ent.map Try.prog 2 2 bt7 (yl (cts sym l)).length D]) (.tmp (.nil)) ?_ ?_)
    · exact (by (try dsimp only); repeat (first | exact Has.nil | refine Has.cons (by repeat (first | (with_reducible exact Out.here) | ((with_reducible refine Out.cells ?_); first | rfl | (simp; done)) | ((with_reducible refine Out.row ?_); first | rfl | (simp; done)) | (with_reducible apply Out.there))) ?_))
    · exact ⟨_, _, _, hD, rfl, rfl⟩
  · skip
    intro x H2 hx hf
    exact hf.elim

/-- maps.Keys[map[int64]int64,int64,int64] -/
theorem s56 (b : Nat) :
    FnT Try.prog 56 [.map (some b)] (fun _ => True) [] (fun u es => ∃ c, u = .func (.func 84) #[] #[.pointer (some ⟨c, 0, none⟩)] ∧ es = [Ent.cells c [.map (some b)] 43]) := by
  refine fn_of_J (cx := cx56) hmix Try.func56 (by kernel_rfl) (eq56 _) fun w hw => ?_
  refine J.box1 rfl fun bt1 => ?_
  -- @ret[(.func(.func84)#[]#[t1])]
  exact J.done (RetQ.gt (.tmp (.nil)) (by (try dsimp only); repeat (first | exact Has.nil | refine Has.cons (by repeat (first | (with_reducible exact Out.here) | ((with_reducible refine Out.cells ?_); first | rfl | (simp; done)) | ((with_reducible refine Out.row ?_); first | rfl | (simp; done)) | (with_reducible apply Out.there))) ?_)) (⟨_, rfl, rfl⟩))

/-- damper/tape.Busiest -/
theorem s18 (v : Value) (l : List Msg) (sym : Int) (hl : l.length ≤ 150) (hok : ∀ m, m ∈ l → i64R m.tick) :
    FnT Try.prog 18 [v, .int .i64 sym] (fun w => RdS w v 9 (msgs l)) [] (fun u es => ∃ b, bestP (cts sym l) b ∧ u = .tuple #[.int .i64 b, .bool (decide (cts sym l ≠ []))] ∧ es = []) := by
  refine fn_of_J (cx := cx18) hmix Try.func18 (by kernel_rfl) (eq18 _ _) fun w hw => ?_
  have hS : ∀ H, SeeS ⟨Try.prog, w, footOf []⟩ H v 9 (msgs l) := fun H => SeeS.ofW0 hw msgs_ne
  have hm := hw.le
  simp only [msgs_len, maxLen] at hm
  have hXl := cts_len (sym := sym) (l := l)
  have hXo : Cok (cts sym l) := cts_ok hok
  refine J.callT en20 (s20 v l sym hl hok) rfl (fun _ _ hs => hS _ _ _ hs) Take.nil (fun v2 es hv => ?_)
  obtain ⟨bm, nm, D, hD, rfl, rfl⟩ := hv
  simp only [List.cons_append, List.nil_append] -- @t12 callS (.func (.func 20) #[] #[]) [a0, a1]
  refine J.callT en56 (s56 bm) rfl (fun _ _ _ => trivial) Take.nil (fun v2 es hv => ?_)
  obtain ⟨cm, rfl, rfl⟩ := hv
  simp only [List.cons_append, List.nil_append] -- @t14 callS (.func (.func 56) #[] #[]) [t12]
  have hsz := hD.size
  refine J.callT en55 (sorted_keys cm bm nm D (by omega)) rfl (fun _ _ hs => ⟨Blk.of (by with_reducible repeat (first | exact Pick.here | apply Pick.there)) hs, Ent.map_of (by with_reducible repeat (first | exact Pick.here | apply Pick.there)) hs⟩) Take.nil (fun v15 es hv => ?_)
  obtain ⟨ss, hss, rfl⟩ := hv
  simp only [List.cons_append, List.nil_append]
  obtain ⟨ks, hks⟩ : ∃ ks, ks = ss.mergeSort fun x y => decide (x ≤ y) := ⟨_, rfl⟩
  obtain ⟨hkm, hko⟩ := sorted_facts hD hss hks
  rw [← hks] -- @t15 callS (.func (.func 55) #[] #[]) [t14]
  refine J.op (R.lenN sl112 (SeeS.row (v := v15) (E := 2) (by with_reducible repeat (first | exact Pick.here | apply Pick.there))) ints_len) ?_ -- @t17 bltS .len #[112] 3 #[false] [t15]
  refine J.bind ?_ -- @tv_3 bind tv_3 ([4])
  refine J.block ?_
  -- @tx loop [(.int .i64 0), (.int .i64 0)]
  refine J.loopH (α := Nat × Int) (fun (i, b) => i ≤ ks.length ∧ (i = 0 → b = 0) ∧ (i ≠ 0 → b ∈ ks.take i ∧ ∀ k, k ∈ ks.take i → volAt (cts sym l) k < volAt (cts sym l) b ∨ (volAt (cts sym l) k = volAt (cts sym l) b ∧ b ≤ k))) (fun (i, b) => [.int .i64 b, .int .i64 i]) (fun (i, _) => ks.length - i) (0, 0) ⟨Nat.zero_le _, fun _ => rfl, fun h => absurd rfl h⟩ rfl ?_
  rintro ⟨i, b⟩ ⟨hi, hb0, hbi⟩
  dsimp only at hi hb0 hbi ⊢
  try simp only [List.headD_cons, List.tail_cons]
  refine J.opD R.lss (fun ht19 => ?_) (fun ht19 => ?_) -- @t19 binS .lss 3 (.tmp 18) (.tmp 17) (tx.tail.headD undef) t17
  · skip
    refine J.iteT ?_
    refine J.bind ?_ -- @tv_2 bind tv_2 ([4])
    refine J.block ?_
    obtain ⟨p, hp⟩ := get_ex (l := ks) (i := i) (by omega)
    have hts := take_snoc hp
    have hpr := key_range hXo ((hkm p).1 (List.mem_of_getElem? hp))
    refine J.ix sl112 (SeeS.row (v := v15) (E := 2) (by with_reducible repeat (first | exact Pick.here | apply Pick.there))) (by omega) (ints_get hp) fun bq oq hkt21 => ?_ -- @t21 ix t15 (tx.tail.headD undef)
    refine J.op (R.ldK0 o2 (hkt21)) ?_ -- @t22 vS (Instr.loadAt 2 t21)
    refine J.bind ?_ -- @tv bind tv ([33])
    refine J.opD R.eql (fun ht24 => ?_) (fun ht24 => ?_) -- @t24 binS .eql 3 (.tmp 23) (.const (.int .i64 0)) (tx.tail.headD undef) (.int .i64 0)
    · skip
      refine J.gopF rfl ?_
      refine J.gopF rfl ?_
      refine J.gopF rfl ?_
      refine J.gopF rfl ?_
      refine J.gopF rfl ?_
      refine J.gopF rfl ?_
      refine J.gopF rfl ?_
      refine J.op R.pickT ?_ -- @t33 pickS t24 (.bool true) t32
      refine J.done ?_ -- then tv = [t33]
      refine J.bind ?_ -- @tv_1 bind tv_1 ([4])
      refine J.iteT ?_
      refine J.done ?_ -- then tv_1 = [t22]
      refine J.done ?_ -- then tv_2 = [(tv_1.headD undef)]
      refine J.op (R.add64 (by have := keys_len hD hss hks; omega)) ?_ -- @t35 binS .add 3 (.tmp 18) (.const (.int .i64 1)) (tx.tail.headD undef) (.int .i64 1)
      -- @again[(tv_2.headDundef),t35]
      exact J.done ⟨(i + 1, p), ⟨by omega, fun h => absurd h (by omega), fun _ => best_step (V := volAt (cts sym l)) hko hp hbi (.inl ⟨.inl (by omega), rfl⟩)⟩, rfl, Imp.refl _, by dsimp only; omega⟩
    · skip
      refine J.gopT rfl ?_
      refine J.op R.pure ?_
      refine J.gopT rfl ?_
      refine J.op R.pure ?_
      refine J.gopT rfl ?_
      refine J.op (R.lookup um43 um2 um2 zv2 (by with_reducible repeat (first | exact Pick.here | apply Pick.there)) (wf64 hpr) (hD.at_ _)) ?_ -- @t28 vS (Instr.lookup 43 t26 t27 false)
      refine J.gopT rfl ?_
      refine J.op R.pure ?_
      refine J.gopT rfl ?_
      refine J.op R.pure ?_
      refine J.gopT rfl ?_
      refine J.op (R.lookup um43 um2 um2 zv2 (by with_reducible repeat (first | exact Pick.here | apply Pick.there)) (wf64 (key_range hXo ((hkm b).1 (List.mem_of_mem_take (hbi (by omega)).1)))) (hD.at_ _)) ?_ -- @t31 vS (Instr.lookup 43 t29 t30 false)
      refine J.gopT rfl ?_
      refine J.opD R.gtr (fun ht32 => ?_) (fun ht32 => ?_) -- @t32 binS .gtr 2 (.tmp 28) (.tmp 31) t28 t31
      · skip
        refine J.op R.pickF ?_ -- @t33 pickS t24 (.bool true) t32
        refine J.done ?_ -- then tv = [t33]
        refine J.bind ?_ -- @tv_1 bind tv_1 ([4])
        refine J.iteT ?_
        refine J.done ?_ -- then tv_1 = [t22]
        refine J.done ?_ -- then tv_2 = [(tv_1.headD undef)]
        refine J.op (R.add64 (by have := keys_len hD hss hks; omega)) ?_ -- @t35 binS .add 3 (.tmp 18) (.const (.int .i64 1)) (tx.tail.headD undef) (.int .i64 1)
        -- @again[(tv_2.headDundef),t35]#2
        exact J.done ⟨(i + 1, p), ⟨by omega, fun h => absurd h (by omega), fun _ => best_step (V := volAt (cts sym l)) hko hp hbi (.inl ⟨.inr ht32, rfl⟩)⟩, rfl, Imp.refl _, by dsimp only; omega⟩
      · skip
        refine J.op R.pickF ?_ -- @t33 pickS t24 (.bool true) t32
        refine J.done ?_ -- then tv = [t33]
        refine J.bind ?_ -- @tv_1 bind tv_1 ([4])
        refine J.iteF ?_
        refine J.done ?_ -- then tv_1 = [(tx.headD undef)]
        refine J.done ?_ -- then tv_2 = [(tv_1.headD undef)]
        refine J.op (R.add64 (by have := keys_len hD hss hks; omega)) ?_ -- @t35 binS .add 3 (.tmp 18) (.const (.int .i64 1)) (tx.tail.headD undef) (.int .i64 1)
        -- @again[(tv_2.headDundef),t35]#3
        exact J.done ⟨(i + 1, b), ⟨by omega, fun h => absurd h (by omega), fun _ => best_step (V := volAt (cts sym l)) hko hp hbi (.inr ⟨by omega, ht32, rfl⟩)⟩, rfl, Imp.refl _, by dsimp only; omega⟩
  · skip
    refine J.iteF ?_
    refine J.done ⟨fun _ => ?_, fun h => absurd rfl h⟩ -- exit [(tx.headD undef)]
    refine J.op (R.lenN sl112 (SeeS.row (v := v15) (E := 2) (by with_reducible repeat (first | exact Pick.here | apply Pick.there))) ints_len) ?_ -- @t38 bltS .len #[112] 3 #[false] [t15]
    refine J.op (Runs.bool R.gtr (b := decide (cts sym l ≠ [])) (decide_eq_decide.2 (keys_pos hkm))) ?_ -- @t39 binS .gtr 3 (.tmp 38) (.const (.int .i64 0)) t38 (.int .i64 0)
    -- @ret[(tv_3.headDundef),t39]
    obtain rfl : i = ks.length := by omega
    exact J.done (RetQ.gt (es := []) (.tmp (.tmp .nil)) Has.nil ⟨b, best_end hkm hb0 hbi, rfl, rfl⟩)

/-- damper/damperref34.Volume -/
theorem s21 (v : Value) (l : List Msg) (sym price : Int) (hl : l.length ≤ 150) (hok : ∀ m, m ∈ l → i64R m.tick) :
    FnE Try.prog 21 [v, .int .i64 sym, .int .i64 price] (fun w => RdS w v 9 (msgs l)) (.int .i64 (volAt (cts sym l) price)) := by
  refine fn_of_J (cx := cx21) hmix Try.func21 (by kernel_rfl) (eq21 _ _ _) fun w hw => ?_
  have hS : ∀ H, SeeS ⟨Try.prog, w, footOf []⟩ H v 9 (msgs l) := fun H => SeeS.ofW0 hw msgs_ne
  have hm := hw.le
  simp only [msgs_len, maxLen] at hm
  have hXl := cts_len (sym := sym) (l := l)
  have hXo : Cok (cts sym l) := cts_ok hok
  refine J.callT en50 (s50 v l sym hl) rfl (fun _ _ hs => hS _ _ _ hs) Take.nil (fun v2 es hv => ?_)
  obtain ⟨ax, nx, cx, rfl, rfl⟩ := hv
  simp only [List.cons_append, List.nil_append] -- @t12 callS (.func (.func 50) #[] #[]) [a0, a1]
  refine J.bind ?_ -- @tv_2 bind tv_2 ([8])
  refine J.block ?_
  -- @tx loop [(.int .i64 0), (.int .i64 0)]
  refine J.loopH (α := Nat) (fun i => i ≤ (cts sym l).length) (fun i => [.int .i64 (volAt ((cts sym l).take i) price), .int .i64 i]) (fun i => (cts sym l).length - i) 0 (Nat.zero_le _) rfl ?_
  rintro i hi
  try simp only [List.headD_cons, List.tail_cons]
  refine J.op (R.lenN sl22 (SeeS.row (E := 46) (by with_reducible repeat (first | exact Pick.here | apply Pick.there))) msgs_len) ?_ -- @t15 bltS .len #[22] 3 #[false] [t12]
  refine J.opD R.lss (fun ht16 => ?_) (fun ht16 => ?_) -- @t16 binS .lss 3 (.tmp 13) (.tmp 15) (tx.tail.headD undef) t15
  · skip
    refine J.iteT ?_
    refine J.bind ?_ -- @tv_1 bind tv_1 ([8])
    refine J.block ?_
    obtain ⟨x, hx⟩ := get_ex (l := cts sym l) (i := i) (by omega)
    have hqx := (hXo x (List.mem_of_getElem? hx)).qty
    have hvr := volAt_range (k := price) (hXo.take (k := i))
    rw [List.length_take] at hvr
    have hvs : volAt ((cts sym l).take (i + 1)) price = volAt ((cts sym l).take i) price + (if x.price = price then x.qty else 0) := by rw [take_snoc hx, volAt_snoc]
    refine J.ix sl22 (SeeS.row (E := 46) (by with_reducible repeat (first | exact Pick.here | apply Pick.there))) (by omega) (msgs_get hx) fun b o hkt21 => ?_ -- @t21 ix t12 (tx.tail.headD undef)
    refine J.op fa46_6 ?_
    refine J.op (R.ldK o2 (hkt21) rfl) ?_ -- @t23 vS (Instr.loadAt 2 t22)
    refine J.opD R.eql (fun ht25 => ?_) (fun ht25 => ?_) -- @t25 binS .eql 2 (.tmp 23) (.tmp 24) t23 a2
    · skip
      refine J.bind ?_ -- @tv bind tv ([8])
      refine J.iteT ?_
      refine J.ix sl22 (SeeS.row (E := 46) (by with_reducible repeat (first | exact Pick.here | apply Pick.there))) (by omega) (msgs_get hx) fun b o hkt29 => ?_ -- @t29 ix t12 (tx.tail.headD undef)
      refine J.op fa46_7 ?_
      refine J.op (R.ldK o2 (hkt29) rfl) ?_ -- @t31 vS (Instr.loadAt 2 t30)
      refine J.op (R.add64 (by omega)) ?_ -- @t32 binS .add 2 (.tmp 26) (.tmp 31) (tx.headD undef) t31
      refine J.done ?_ -- then tv = [t32]
      refine J.done ?_ -- then tv_1 = [(tv.headD undef)]
      refine J.op (R.add64 (by omega)) ?_ -- @t18 binS .add 3 (.tmp 17) (.const (.int .i64 1)) (tx.tail.headD undef) (.int .i64 1)
      -- @again[(tv_1.headDundef),t18]
      exact J.done ⟨i + 1, by omega, by rw [hvs, if_pos ht25]; rfl, Imp.refl _, by omega⟩
    · skip
      refine J.bind ?_ -- @tv bind tv ([8])
      refine J.iteF ?_
      refine J.done ?_ -- then tv = [(tx.headD undef)]
      refine J.done ?_ -- then tv_1 = [(tv.headD undef)]
      refine J.op (R.add64 (by omega)) ?_ -- @t18 binS .add 3 (.tmp 17) (.const (.int .i64 1)) (tx.tail.headD undef) (.int .i64 1)
      -- @again[(tv_1.headDundef),t18]#2
      exact J.done ⟨i + 1, by omega, by rw [hvs, if_neg ht25, Int.add_zero]; rfl, Imp.refl _, by omega⟩
  · skip
    refine J.iteF ?_
    refine J.done ⟨fun _ => ?_, fun h => absurd rfl h⟩ -- exit [(tx.headD undef)]
    -- @ret[(tv_2.headDundef)]
    obtain rfl : i = (cts sym l).length := by omega
    rw [List.take_length]
    exact J.done (RetQ.ge (.tmp .nil) rfl)

/-- damper/damperref34.Whole -/
theorem s17 (v : Value) (l : List Msg) (sym : Int) (hl : l.length ≤ 150) (hok : ∀ m, m ∈ l → i64R m.tick) :
    FnE Try.prog 17 [v, .int .i64 sym] (fun w => RdS w v 9 (msgs l)) (.tuple #[.agg (wholeM (cts sym l)).cells.toArray, .bool (decide (cts sym l ≠ []))]) := by
  refine fn_of_J (cx := cx17) hmix Try.func17 (by kernel_rfl) (eq17 _ _) fun w hw => ?_
  have hS : ∀ H, SeeS ⟨Try.prog, w, footOf []⟩ H v 9 (msgs l) := fun H => SeeS.ofW0 hw msgs_ne
  have hm := hw.le
  simp only [msgs_len, maxLen] at hm
  have hXl := cts_len (sym := sym) (l := l)
  have hXo : Cok (cts sym l) := cts_ok hok
  refine J.alloc z34 fun bt4 => ?_
  refine J.callT en50 (s50 v l sym hl) rfl (fun _ _ hs => hS _ _ _ hs) Take.nil (fun v2 es hv => ?_)
  obtain ⟨ax, nx, cx, rfl, rfl⟩ := hv
  simp only [List.cons_append, List.nil_append] -- @t9 callS (.func (.func 50) #[] #[]) [a0, a1]
  refine J.op (R.lenN sl22 (SeeS.row (E := 46) (by with_reducible repeat (first | exact Pick.here | apply Pick.there))) msgs_len) ?_ -- @t11 bltS .len #[22] 3 #[false] [t9]
  refine J.opD R.eql (fun ht12 => ?_) (fun ht12 => ?_) -- @t12 binS .eql 3 (.tmp 11) (.const (.int .i64 0)) t11 (.int .i64 0)
  · skip
    refine J.iteT ?_
    refine J.op bd34 ?_ -- @t13 vS (Instr.build 34 #[])
    refine J.stW sz34 (by with_reducible repeat (first | exact Pick.here | apply Pick.there)) rfl rfl rfl ?_ -- @tu uS (Instr.storeAt 34 t4 t13)
    -- @ret[t4,(.boolfalse)]
    have hnil : cts sym l = [] := List.length_eq_zero_iff.1 (by omega)
    exact J.done (RetQ.ge (.cellA ag34 (by with_reducible repeat (first | exact Pick.here | apply Pick.there)) rfl (.tmp .nil)) (by rw [hnil]; rfl))
  · skip
    refine J.iteF ?_
    have hne : cts sym l ≠ [] := fun h => ht12 (by rw [h]; rfl)
    obtain ⟨x, hx⟩ := get_ex (l := cts sym l) (i := 0) (List.length_pos_iff.2 hne)
    have htk : tickF (cts sym l) = x.tick := tick_at hx
    refine J.ix sl22 (SeeS.row (E := 46) (by with_reducible repeat (first | exact Pick.here | apply Pick.there))) (by omega) (msgs_get hx) fun b o hkt16 => ?_ -- @t16 ix t9 (.int .i64 0)
    refine J.op fa46_3 ?_
    refine J.op (R.ldK o2 (hkt16) rfl) ?_ -- @t18 vS (Instr.loadAt 2 t17)
    refine J.callE en51 (s51 (.slice ax nx cx) (cts sym l) x.tick hXo hne (by omega)) rfl (fun _ _ hs => SeeS.row (E := 46) (by with_reducible repeat (first | exact Pick.here | apply Pick.there)) _ _ hs) ?_ -- @t19 callS (.func (.func 51) #[] #[]) [t9, t18]
    refine J.stW sz34 (by with_reducible repeat (first | exact Pick.here | apply Pick.there)) rfl rfl rfl ?_ -- @tu_1 uS (Instr.storeAt 34 t4 t19)
    -- @ret[t4,(.booltrue)]
    exact J.done (RetQ.ge (.cellA ag34 (by with_reducible repeat (first | exact Pick.here | apply Pick.there)) rfl (.tmp (.nil))) (by rw [show wholeM (cts sym l) = barOf (tickF (cts sym l)) (cts sym l) from if_neg hne, decide_eq_true hne, htk]; rfl))

/-- damper/damperref34.Busiest -/
theorem s19 (v : Value) (l : List Msg) (sym : Int) (hl : l.length ≤ 150) (hok : ∀ m, m ∈ l → i64R m.tick) :
    FnT Try.prog 19 [v, .int .i64 sym] (fun w => RdS w v 9 (msgs l)) [] (fun u es => ∃ b, bestP (cts sym l) b ∧ u = .tuple #[.int .i64 b, .bool (decide (cts sym l ≠ []))] ∧ es = []) := by
  refine fn_of_J (cx := cx19) hmix Try.func19 (by kernel_rfl) (eq19 _ _) fun w hw => ?_
  have hS : ∀ H, SeeS ⟨Try.prog, w, footOf []⟩ H v 9 (msgs l) := fun H => SeeS.ofW0 hw msgs_ne
  have hm := hw.le
  simp only [msgs_len, maxLen] at hm
  have hXl := cts_len (sym := sym) (l := l)
  have hXo : Cok (cts sym l) := cts_ok hok
  refine J.callT en50 (s50 v l sym hl) rfl (fun _ _ hs => hS _ _ _ hs) Take.nil (fun v2 es hv => ?_)
  obtain ⟨ax, nx, cx, rfl, rfl⟩ := hv
  simp only [List.cons_append, List.nil_append] -- @t13 callS (.func (.func 50) #[] #[]) [a0, a1]
  refine J.bind ?_ -- @tv_3 bind tv_3 ([7])
  refine J.block ?_
  -- @tx loop [(.int .i64 0), (.int .i64 0), (.int .i64 0)]
  refine J.loopH (α := Nat × Int × Int) (fun (i, bz, most) => RefB (cts sym l) i bz most) (fun (i, bz, most) => [.int .i64 bz, .int .i64 most, .int .i64 i]) (fun (i, _) => (cts sym l).length - i) (0, 0, 0) ⟨Nat.zero_le _, fun _ => ⟨rfl, rfl⟩, fun h => absurd rfl h⟩ rfl ?_
  rintro ⟨i, bz, most⟩ hrb
  dsimp only at hrb ⊢
  have hi := hrb.le
  try simp only [List.headD_cons, List.tail_cons]
  refine J.op (R.lenN sl22 (SeeS.row (E := 46) (by with_reducible repeat (first | exact Pick.here | apply Pick.there))) msgs_len) ?_ -- @t16 bltS .len #[22] 3 #[false] [t13]
  refine J.opD R.lss (fun ht17 => ?_) (fun ht17 => ?_) -- @t17 binS .lss 3 (.tmp 14) (.tmp 16) (tx.tail.tail.headD undef) t16
  · skip
    refine J.iteT ?_
    refine J.bind ?_ -- @tv_2 bind tv_2 ([7, 8])
    refine J.block ?_
    obtain ⟨x, hx⟩ := get_ex (l := cts sym l) (i := i) (by omega)
    have hvp := volAt_pos hXo (List.mem_of_getElem? hx)
    refine J.ix sl22 (SeeS.row (E := 46) (by with_reducible repeat (first | exact Pick.here | apply Pick.there))) (by omega) (msgs_get hx) fun b o hkt24 => ?_ -- @t24 ix t13 (tx.tail.tail.headD undef)
    refine J.op fa46_6 ?_
    refine J.op (R.ldK o2 (hkt24) rfl) ?_ -- @t26 vS (Instr.loadAt 2 t25)
    refine J.callE en21 (s21 v l sym x.price hl hok) rfl (fun _ _ hs => hS _ _ _ hs) ?_ -- @t27 callS (.func (.func 21) #[] #[]) [a0, a1, t26]
    refine J.bindB ((most < volAt (cts sym l) x.price ∨ (volAt (cts sym l) x.price = most ∧ x.price < bz))) ?_ (fun hbtv => ?_) (fun hbtv => ?_) -- @tv
    · skip
      refine J.opD R.gtr (fun ht30 => ?_) (fun ht30 => ?_) -- @t30 binS .gtr 2 (.tmp 28) (.tmp 29) t27 (tx.tail.headD undef)
      · skip
        refine J.gopF rfl ?_
        refine J.gopF rfl ?_
        refine J.gopF rfl ?_
        refine J.gopF rfl ?_
        refine J.gopF rfl ?_
        refine J.gopF rfl ?_
        refine J.gopF rfl ?_
        refine J.gopF rfl ?_
        refine J.gopF rfl ?_
        refine J.gopF rfl ?_
        refine J.gopF rfl ?_
        refine J.gopF rfl ?_
        refine J.op R.pickT ?_ -- @t44 pickS t30 (.bool true) t43
        exact J.done ⟨rfl, by simp only [List.cons.injEq, Value.bool.injEq, and_true]; first | (symm; rw [decide_eq_true_iff]; omega) | (symm; rw [decide_eq_false_iff_not]; omega) | exact decide_eq_decide.2 (by omega), rfl⟩ -- @leaf[t44]
      · skip
        refine J.gopT rfl ?_
        refine J.op R.pure ?_
        refine J.gopT rfl ?_
        refine J.op R.pure ?_
        refine J.gopT rfl ?_
        refine J.opD R.eql (fun ht34 => ?_) (fun ht34 => ?_) -- @t34 binS .eql 2 (.tmp 32) (.tmp 33) t32 t33
        · skip
          refine J.gopT rfl ?_
          refine J.op R.pure ?_
          refine J.gopT rfl ?_
          refine J.op R.pure ?_
          refine J.gopT rfl ?_
          refine J.op R.pure ?_
          refine J.gopT rfl ?_
          refine J.ix sl22 (SeeS.row (E := 46) (by with_reducible repeat (first | exact Pick.here | apply Pick.there))) (by omega) (msgs_get hx) fun b o hkt38 => ?_ -- @t38 ix t36 t37
          refine J.gopT rfl ?_
          refine J.op fa46_6 ?_
          refine J.gopT rfl ?_
          refine J.op (R.ldK o2 (hkt38) rfl) ?_ -- @t40 vS (Instr.loadAt 2 t39)
          refine J.gopT rfl ?_
          refine J.op R.pure ?_
          refine J.gopT rfl ?_
          refine J.op R.lss ?_ -- @t42 binS .lss 2 (.tmp 40) (.tmp 41) t40 t41
          refine J.gopT rfl ?_
          refine J.op R.pickT ?_ -- @t43 pickS t35 t42 (.bool false)
          refine J.op R.pickF ?_ -- @t44 pickS t30 (.bool true) t43
          exact J.done ⟨rfl, by simp only [List.cons.injEq, Value.bool.injEq, and_true]; first | (symm; rw [decide_eq_true_iff]; omega) | (symm; rw [decide_eq_false_iff_not]; omega) | exact decide_eq_decide.2 (by omega), rfl⟩ -- @leaf[t44]
        · skip
          refine J.gopT rfl ?_
          refine J.op R.pure ?_
          refine J.gopF rfl ?_
          refine J.gopF rfl ?_
          refine J.gopF rfl ?_
          refine J.gopF rfl ?_
          refine J.gopF rfl ?_
          refine J.gopF rfl ?_
          refine J.gopF rfl ?_
          refine J.gopT rfl ?_
          refine J.op R.pickF ?_ -- @t43 pickS t35 t42 (.bool false)
          refine J.op R.pickF ?_ -- @t44 pickS t30 (.bool true) t43
          exact J.done ⟨rfl, by simp only [List.cons.injEq, Value.bool.injEq, and_true]; first | (symm; rw [decide_eq_true_iff]; omega) | (symm; rw [decide_eq_false_iff_not]; omega) | exact decide_eq_decide.2 (by omega), rfl⟩ -- @leaf[t44]
    · skip
      refine J.bind ?_ -- @tv_1 bind tv_1 ([7, 8])
      refine J.iteT ?_
      refine J.ix sl22 (SeeS.row (E := 46) (by with_reducible repeat (first | exact Pick.here | apply Pick.there))) (by omega) (msgs_get hx) fun b o hkt47 => ?_ -- @t47 ix t13 (tx.tail.tail.headD undef)
      refine J.op fa46_6 ?_
      refine J.op (R.ldK o2 (hkt47) rfl) ?_ -- @t49 vS (Instr.loadAt 2 t48)
      refine J.done ?_ -- then tv_1 = [t49, t27]
      refine J.done ?_ -- then tv_2 = [(tv_1.headD undef), (tv_1.tail.headD undef)]
      refine J.op (R.add64 (by omega)) ?_ -- @t19 binS .add 3 (.tmp 18) (.const (.int .i64 1)) (tx.tail.tail.headD undef) (.int .i64 1)
      -- @again[(tv_2.headDundef),(tv_2.tail.headDundef),t19]
      exact J.done ⟨(i + 1, x.price, volAt (cts sym l) x.price), hrb.yes hx hbtv, rfl, Imp.refl _, by dsimp only; omega⟩
    · skip
      refine J.bind ?_ -- @tv_1 bind tv_1 ([7, 8])
      refine J.iteF ?_
      refine J.done ?_ -- then tv_1 = [(tx.headD undef), (tx.tail.headD undef)]
      refine J.done ?_ -- then tv_2 = [(tv_1.headD undef), (tv_1.tail.headD undef)]
      refine J.op (R.add64 (by omega)) ?_ -- @t19 binS .add 3 (.tmp 18) (.const (.int .i64 1)) (tx.tail.tail.headD undef) (.int .i64 1)
      -- @again[(tv_2.headDundef),(tv_2.tail.headDundef),t19]#2
      exact J.done ⟨(i + 1, bz, most), hrb.no hx hvp hbtv, rfl, Imp.refl _, by dsimp only; omega⟩
  · skip
    refine J.iteF ?_
    refine J.done ⟨fun _ => ?_, fun h => absurd rfl h⟩ -- exit [(tx.headD undef)]
    refine J.op (R.lenN sl22 (SeeS.row (E := 46) (by with_reducible repeat (first | exact Pick.here | apply Pick.there))) msgs_len) ?_ -- @t53 bltS .len #[22] 3 #[false] [t13]
    refine J.op (Runs.bool R.gtr (b := decide (cts sym l ≠ [])) (decide_eq_decide.2 ⟨fun h e => by rw [e] at h; simp at h, fun h => by have := List.length_pos_iff.2 h; omega⟩)) ?_ -- @t54 binS .gtr 3 (.tmp 53) (.const (.int .i64 0)) t53 (.int .i64 0)
    -- @ret[(tv_3.headDundef),t54]
    obtain rfl : i = (cts sym l).length := by omega
    exact J.done (RetQ.gt (es := []) (.tmp (.tmp .nil)) Has.nil ⟨bz, hrb.end, rfl, rfl⟩)

/-- damper/damperlaw34.TapeWholes -/
theorem s5 (v : Value) (l : List Msg) (sym price : Int) (hok : ∀ m, m ∈ l → m.ok) (hpr : i64R price) :
    FnE Try.prog 5 [v, .int .i64 sym, .int .i64 price] (fun w => RdS w v 9 (msgs l)) (.bool true) := by
  refine fn_of_J (cx := cx5) hmix Try.func5 (by kernel_rfl) (eq5 _ _ _) fun w hw => ?_
  have hS : ∀ H, SeeS ⟨Try.prog, w, footOf []⟩ H v 9 (msgs l) := fun H => SeeS.ofW0 hw msgs_ne
  have hm := hw.le
  simp only [msgs_len, maxLen] at hm
  refine J.op (R.lenN sl22 (hS _) msgs_len) ?_ -- @t18 bltS .len #[22] 3 #[false] [a0]
  refine J.opD R.gtr (fun ht19 => ?_) (fun ht19 => ?_) -- @t19 binS .gtr 3 (.tmp 18) (.const (.int .i64 150)) t18 (.int .i64 150)
  · skip
    refine J.iteT ?_
    refine J.callE en11 (s11) rfl (fun _ _ _ => trivial) ?_ -- @t20 callS (.func (.func 11) #[] #[]) []
    -- @ret[t20]
    exact J.done (RetQ.ge (.tmp (.nil)) (by first | rfl | (simp [mkRes, *]; done) | (simp_all [mkRes]; done) | (simp_all [mkRes]; first | omega | (rw [decide_eq_false_iff_not]; omega) | (rw [decide_eq_true_iff]; omega)) | (simp only [mkRes]; (repeat' split) <;> first | rfl | omega | (simp_all; done) | (simp_all; omega))))
  · skip
    refine J.iteF ?_
    have hot : ∀ m, m ∈ l → i64R m.tick := fun m hm => (hok m hm).tick
    have hl : l.length ≤ 150 := by omega
    refine J.callE en15 (s15 v l sym hl hot) rfl (fun _ _ hs => hS _ _ _ hs) ?_ -- @t24 callS (.func (.func 15) #[] #[]) [a0, a1]
    refine J.op (R.ext rfl) ?_ -- @t25 vS (Instr.extract t24 0)
    refine J.op (R.ext rfl) ?_ -- @t26 vS (Instr.extract t24 1)
    refine J.alloc z32 fun bt7 => ?_
    refine J.stW sz32 (by with_reducible repeat (first | exact Pick.here | apply Pick.there)) rfl rfl rfl ?_ -- @tu uS (Instr.storeAt 32 t7 t25)
    refine J.callE en17 (s17 v l sym hl hot) rfl (fun _ _ hs => hS _ _ _ hs) ?_ -- @t30 callS (.func (.func 17) #[] #[]) [a0, a1]
    refine J.op (R.ext rfl) ?_ -- @t31 vS (Instr.extract t30 0)
    refine J.op (R.ext rfl) ?_ -- @t32 vS (Instr.extract t30 1)
    refine J.alloc z34 fun bt9 => ?_
    refine J.stW sz34 (by with_reducible repeat (first | exact Pick.here | apply Pick.there)) rfl rfl rfl ?_ -- @tu_1 uS (Instr.storeAt 34 t9 t31)
    refine J.callT en18 (s18 v l sym hl hot) rfl (fun _ _ hs => hS _ _ _ hs) Take.nil (fun v2 es hv => ?_)
    obtain ⟨b1, hb1, rfl, rfl⟩ := hv
    simp only [List.cons_append, List.nil_append] -- @t36 callS (.func (.func 18) #[] #[]) [a0, a1]
    refine J.op (R.ext rfl) ?_ -- @t37 vS (Instr.extract t36 0)
    refine J.op (R.ext rfl) ?_ -- @t38 vS (Instr.extract t36 1)
    refine J.callT en19 (s19 v l sym hl hot) rfl (fun _ _ hs => hS _ _ _ hs) Take.nil (fun v2 es hv => ?_)
    obtain ⟨b2, hb2, rfl, rfl⟩ := hv
    simp only [List.cons_append, List.nil_append]
    obtain rfl := best_one hb1 hb2 -- @t42 callS (.func (.func 19) #[] #[]) [a0, a1]
    refine J.op (R.ext rfl) ?_ -- @t43 vS (Instr.extract t42 0)
    refine J.op (R.ext rfl) ?_ -- @t44 vS (Instr.extract t42 1)
    refine J.callT en20 (s20 v l sym hl hot) rfl (fun _ _ hs => hS _ _ _ hs) Take.nil (fun v2 es hv => ?_)
    obtain ⟨bm, nm, D, hD, rfl, rfl⟩ := hv
    simp only [List.cons_append, List.nil_append] -- @t47 callS (.func (.func 20) #[] #[]) [a0, a1]
    refine J.bind ?_ -- @tv_1 bind tv_1 ([6])
    refine J.block ?_
    -- @tx loop [(.bool false), (.int .i64 0)]
    refine J.loopH (α := Nat) (fun i => i ≤ l.length) (fun i => [.bool false, .int .i64 i]) (fun i => l.length - i) 0 (Nat.zero_le _) rfl ?_
    rintro i hi
    try simp only [List.headD_cons, List.tail_cons]
    refine J.op (R.lenN sl22 (hS _) msgs_len) ?_ -- @t50 bltS .len #[22] 3 #[false] [a0]
    refine J.opD R.lss (fun ht51 => ?_) (fun ht51 => ?_) -- @t51 binS .lss 3 (.tmp 48) (.tmp 50) (tx.tail.headD undef) t50
    · skip
      refine J.iteT ?_
      refine J.bind ?_ -- @tv bind tv ([6])
      refine J.block ?_
      refine J.draw ?_
      obtain ⟨x, hx⟩ := get_ex (l := l) (i := i) (by omega)
      have hxp := (hok x (List.mem_of_getElem? hx)).price
      refine J.ixWR sl22 hS (by omega) (msgs_get hx) fun bq oq hkt57 hR57 => ?_ -- @t57 ix a0 (tx.tail.headD undef)
      refine J.op fa46_6 ?_
      refine J.op (R.ldK o2 (hkt57 _) rfl) ?_ -- @t59 vS (Instr.loadAt 2 t58)
      refine J.op (R.lookup um43 um2 um2 zv2 (by with_reducible repeat (first | exact Pick.here | apply Pick.there)) (wf64 hxp) (hD.at_ _)) ?_ -- @t60 vS (Instr.lookup 43 t47 t59 false)
      refine J.ixW sl22 hS (by omega) (msgs_get hx) fun bq oq hkt65 => ?_ -- @t65 ix a0 (tx.tail.headD undef)
      refine J.op fa46_6 ?_
      refine J.op (R.ldK o2 (hkt65 _) rfl) ?_ -- @t67 vS (Instr.loadAt 2 t66)
      refine J.callE en21 (s21 v l sym x.price hl hot) rfl (fun _ _ hs => hS _ _ _ hs) ?_ -- @t68 callS (.func (.func 21) #[] #[]) [a0, a1, t67]
      refine J.chkR (R.lookup um43 um2 um2 zv2 (by with_reducible repeat (first | exact Pick.here | apply Pick.there)) (wf64 hxp) (hD.at_ _)) ?_ -- @chk:t60 vS (Instr.lookup 43 t47 t59 false)
      refine J.chkR (R.ldK o2 (hkt57 _) rfl) ?_ -- @chk:t59 vS (Instr.loadAt 2 t58)
      refine J.chkR fa46_6 ?_ -- @chk:t58 vS (Instr.fieldAt 46 t57 6)
      refine J.chkR (hR57 _) ?_ -- @chk:t57 vS (Instr.indexAt 22 a0 (tx.tail.headD undef))
      refine J.opDF R.neq (by exact fun h => h rfl) ?_ -- @t69
      refine J.iteF ?_
      refine J.done ?_ -- then tv = [(tx.headD undef)]
      refine J.op (R.add64 (by omega)) ?_ -- @t53 binS .add 3 (.tmp 52) (.const (.int .i64 1)) (tx.tail.headD undef) (.int .i64 1)
      -- @again[(tv.headDundef),t53]
      exact J.done ⟨i + 1, by omega, rfl, Imp.refl _, by omega⟩
    · skip
      refine J.iteF ?_
      refine J.done ⟨fun _ => ?_, fun h => absurd rfl h⟩ -- exit [(tx.headD undef)]
      refine J.bind ?_ -- @tv_2 bind tv_2 ([6])
      refine J.draw ?_
      refine J.op (R.ldA ag32 (by with_reducible repeat (first | exact Pick.here | apply Pick.there)) rfl) ?_ -- @t70 vS (Instr.loadAt 32 t7)
      refine J.op (R.ldA ag34 (by with_reducible repeat (first | exact Pick.here | apply Pick.there)) rfl) ?_ -- @t71 vS (Instr.loadAt 34 t9)
      refine J.callE en14 (s14 (wholeM (cts sym l))) rfl (fun _ _ _ => trivial) ?_ -- @t72 callS (.func (.func 14) #[] #[]) [t71]
      refine J.chkR (R.ldA ag32 (by with_reducible repeat (first | exact Pick.here | apply Pick.there)) rfl) ?_ -- @chk:t70 vS (Instr.loadAt 32 t7)
      refine J.opDT (R.eqA gt32 (by repeat (first | exact trivial | refine ⟨⟨_, rfl⟩, ?_⟩)) (by repeat (first | exact trivial | refine ⟨⟨_, rfl⟩, ?_⟩))) (by rfl) ?_ -- @t73
      refine J.gopT rfl ?_
      refine J.op R.pure ?_
      refine J.gopT rfl ?_
      refine J.op R.pure ?_
      refine J.gopT rfl ?_
      refine J.opDT (R.eqlB bl4) (by rfl) ?_ -- @t77
      refine J.op R.pickT ?_ -- @t78 pickS t73 t77 (.bool false)
      refine J.gopT rfl ?_
      refine J.op R.pure ?_
      refine J.gopT rfl ?_
      refine J.op R.pure ?_
      refine J.gopT rfl ?_
      refine J.opDT R.eql (by rfl) ?_ -- @t82
      refine J.op R.pickT ?_ -- @t83 pickS t78 t82 (.bool false)
      refine J.gopT rfl ?_
      refine J.op R.pure ?_
      refine J.gopT rfl ?_
      refine J.op R.pure ?_
      refine J.gopT rfl ?_
      refine J.opDT (R.eqlB bl4) (by rfl) ?_ -- @t87
      refine J.op R.pickT ?_ -- @t88 pickS t83 t87 (.bool false)
      refine J.gopT rfl ?_
      refine J.op R.pure ?_
      refine J.gopT rfl ?_
      refine J.op R.pure ?_
      refine J.gopT rfl ?_
      refine J.op (R.lookup um43 um2 um2 zv2 (by with_reducible repeat (first | exact Pick.here | apply Pick.there)) (wf64 hpr) (hD.at_ _)) ?_ -- @t92 vS (Instr.lookup 43 t90 t91 false)
      refine J.gopT rfl ?_
      refine J.op R.pure ?_
      refine J.gopT rfl ?_
      refine J.op R.pure ?_
      refine J.gopT rfl ?_
      refine J.op R.pure ?_
      refine J.gopT rfl ?_
      refine J.callE en21 (s21 v l sym price hl hot) rfl (fun _ _ hs => hS _ _ _ hs) ?_ -- @t96 callS (.func (.func 21) #[] #[]) [t93, t94, t95]
      refine J.chkR (R.lookup um43 um2 um2 zv2 (by with_reducible repeat (first | exact Pick.here | apply Pick.there)) (wf64 hpr) (hD.at_ _)) ?_ -- @chk:t92 vS (Instr.lookup 43 t90 t91 false)
      refine J.gopT rfl ?_
      refine J.opDT R.eql (by rfl) ?_ -- @t97
      refine J.op R.pickT ?_ -- @t98 pickS t88 t97 (.bool false)
      refine J.gopT rfl ?_
      refine J.callE en11 (s11) rfl (fun _ _ _ => trivial) ?_ -- @t100 callS (.func (.func 11) #[] #[]) []
      refine J.op R.pickT ?_ -- @t101 pickS t98 t100 (.bool false)
      refine J.done ?_ -- then tv_2 = [t101]
      -- @ret[(tv_2.headDundef)]
      exact J.done (RetQ.ge (.tmp (.nil)) (by first | rfl | (simp [mkRes, *]; done) | (simp_all [mkRes]; done) | (simp_all [mkRes]; first | omega | (rw [decide_eq_false_iff_not]; omega) | (rw [decide_eq_true_iff]; omega)) | (simp only [mkRes]; (repeat' split) <;> first | rfl | omega | (simp_all; done) | (simp_all; omega))))
end Go.Proofs.Ytipgdalebkhgpaa
