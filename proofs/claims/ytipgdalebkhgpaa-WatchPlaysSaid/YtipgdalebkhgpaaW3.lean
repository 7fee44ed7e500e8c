/-
  Contracts of functions.
-/
import Derived.Test.YtipgdalebkhgpaaTerms1
import Derived.Test.YtipgdalebkhgpaaTerms2
import Derived.Test.YtipgdalebkhgpaaTab
import Derived.Test.YtipgdalebkhgpaaW2
set_option maxRecDepth 100000
set_option maxHeartbeats 4000000
set_option linter.unusedVariables false
set_option linter.unusedSimpArgs false
namespace Go.Proofs.Ytipgdalebkhgpaa
open Go Go.RowKit Fw
/-- (*damper/watch.known).status -/
theorem s74 (g n c j : Nat) (l : List Wk) (x : Wk) (hx : l[j]? = some x) (m : Msg) :
    FnT Try.prog 74 [.pointer (some ⟨g, j * 26, none⟩), .agg m.cells.toArray] (fun _ => True) [Ent.row (.slice (some ⟨g, 0, none⟩) n c) 26 (wks l) 145] (fun v es => v = .tuple #[] ∧ es = [Ent.row (.slice (some ⟨g, 0, none⟩) n c) 26 (wks (l.set j { x with k := x.k.status x.s m })) 145]) := by
  refine fn_of_J (cx := cx74) hmix Try.func74 (by kernel_rfl) (eq74 _ _) fun w hw => ?_
  refine J.boxA fun bt3 => ?_
  refine J.op fa46_8 ?_
  refine J.op (R.ld o3 (by with_reducible repeat (first | exact Pick.here | apply Pick.there)) rfl) ?_ -- @t6 vS (Instr.loadAt 3 t5)
  refine J.op R.nil ?_ -- @t7 nilS a0
  refine J.op fa145_1 ?_
  refine J.stRowU sz3 (by with_reducible repeat (first | exact Pick.here | apply Pick.there)) (wks_at hx) (off := 16) rfl (Nat.le_of_ble_eq_true rfl) rfl (wks_up (x := { x with k := { x.k with phase := m.code } }) rfl) ?_
  have hx1 : (l.set j { x with k := { x.k with phase := m.code } })[j]? = some { x with k := { x.k with phase := m.code } } := List.getElem?_set_self (List.getElem?_eq_some_iff.1 hx).1 -- @tu uS (Instr.storeAt 3 t8 t6)
  refine J.op fa46_8 ?_
  refine J.op (R.ld o3 (by with_reducible repeat (first | exact Pick.here | apply Pick.there)) rfl) ?_ -- @t10 vS (Instr.loadAt 3 t9)
  refine J.bind ?_ -- @tv_3 bind tv_3 ([])
  refine J.block ?_
  refine J.opD R.eql (fun ht15 => ?_) (fun ht15 => ?_) -- @t15 binS .eql 3 (.tmp 10) (.const (.int .i64 3)) t10 (.int .i64 3)
  · skip
    refine J.bind ?_ -- @tv_2 bind tv_2 ([])
    refine J.iteT ?_
    refine J.draw ?_
    refine J.op fa46_3 ?_
    refine J.op (R.ld o2 (by with_reducible repeat (first | exact Pick.here | apply Pick.there)) rfl) ?_ -- @t18 vS (Instr.loadAt 2 t17)
    refine J.op R.nil ?_ -- @t20 nilS a0
    refine J.op fa145_0 ?_
    refine J.op (R.ldRowA ag123 (by with_reducible repeat (first | exact Pick.here | apply Pick.there)) (wks_at hx1) (off := 0) (l' := x.s.cells) rfl rfl rfl) ?_ -- @t22 vS (Instr.loadAt 123 t21)
    refine J.callE en111 (s111 x.s) rfl (fun _ _ _ => trivial) ?_ -- @t23 callS (.func (.func 111) #[] #[]) [t22]
    refine J.chkR (R.ld o2 (by with_reducible repeat (first | exact Pick.here | apply Pick.there)) rfl) ?_ -- @chk:t18 vS (Instr.loadAt 2 t17)
    refine J.chkR fa46_3 ?_ -- @chk:t17 vS (Instr.fieldAt 46 t3 3)
    refine J.op R.add ?_ -- @t24 binS .add 2 (.tmp 18) (.tmp 23) t18 t23
    refine J.op R.nil ?_ -- @t25 nilS a0
    refine J.op fa145_4 ?_
    refine J.stRowU sz2 (by with_reducible repeat (first | exact Pick.here | apply Pick.there)) (wks_at hx1) (off := 21) rfl (Nat.le_of_ble_eq_true rfl) rfl (wks_up (x := { x with k := { x.k with phase := m.code, dl := IntKind.i64.wrap (m.tick + boundF x.s) } }) rfl) ?_
    rw [List.set_set] -- @tu_1 uS (Instr.storeAt 2 t26 t24)
    refine J.done ?_ -- then tv_2 = []
    refine J.done ?_ -- then tv_3 = []
    -- @ret[]
    refine J.done (RetQ.gt (es := [Ent.row (.slice (some ⟨g, 0, none⟩) n c) 26 (wks (l.set j { x with k := { x.k with phase := m.code, dl := IntKind.i64.wrap (m.tick + boundF x.s) } })) 145]) (.nil) ?_ ?_)
    · exact (by (try dsimp only); repeat (first | exact Has.nil | refine Has.cons (by repeat (first | (with_reducible exact Out.here) | ((with_reducible refine Out.cells ?_); first | rfl | (simp; done)) | ((with_reducible refine Out.row ?_); first | rfl | (simp; done)) | (with_reducible apply Out.there))) ?_))
    · exact ⟨rfl, by simp [Know.status, *]⟩
  · skip
    refine J.bind ?_ -- @tv_2 bind tv_2 ([])
    refine J.iteF ?_
    refine J.opD R.eql (fun ht28 => ?_) (fun ht28 => ?_) -- @t28 binS .eql 3 (.tmp 10) (.const (.int .i64 4)) t10 (.int .i64 4)
    · skip
      refine J.bind ?_ -- @tv bind tv ([27])
      refine J.iteT ?_
      refine J.done ?_ -- then tv = [t28]
      refine J.bind ?_ -- @tv_1 bind tv_1 ([27])
      refine J.iteT ?_
      refine J.done ?_ -- then tv_1 = [(tv.headD undef)]
      refine J.done ?_ -- then tv_2 = []
      refine J.done ?_ -- then tv_3 = []
      -- @ret[]#2
      refine J.done (RetQ.gt (es := [Ent.row (.slice (some ⟨g, 0, none⟩) n c) 26 (wks (l.set j { x with k := { x.k with phase := m.code } })) 145]) (.nil) ?_ ?_)
      · exact (by (try dsimp only); repeat (first | exact Has.nil | refine Has.cons (by repeat (first | (with_reducible exact Out.here) | ((with_reducible refine Out.cells ?_); first | rfl | (simp; done)) | ((with_reducible refine Out.row ?_); first | rfl | (simp; done)) | (with_reducible apply Out.there))) ?_))
      · exact ⟨rfl, by simp [Know.status, *]⟩
    · skip
      refine J.bind ?_ -- @tv bind tv ([27])
      refine J.iteF ?_
      refine J.opD R.eql (fun ht29 => ?_) (fun ht29 => ?_) -- @t29 binS .eql 3 (.tmp 10) (.const (.int .i64 5)) t10 (.int .i64 5)
      · skip
        refine J.done ?_ -- then tv = [t29]
        refine J.bind ?_ -- @tv_1 bind tv_1 ([27])
        refine J.iteT ?_
        refine J.done ?_ -- then tv_1 = [(tv.headD undef)]
        refine J.done ?_ -- then tv_2 = []
        refine J.done ?_ -- then tv_3 = []
        -- @ret[]#3
        refine J.done (RetQ.gt (es := [Ent.row (.slice (some ⟨g, 0, none⟩) n c) 26 (wks (l.set j { x with k := { x.k with phase := m.code } })) 145]) (.nil) ?_ ?_)
        · exact (by (try dsimp only); repeat (first | exact Has.nil | refine Has.cons (by repeat (first | (with_reducible exact Out.here) | ((with_reducible refine Out.cells ?_); first | rfl | (simp; done)) | ((with_reducible refine Out.row ?_); first | rfl | (simp; done)) | (with_reducible apply Out.there))) ?_))
        · exact ⟨rfl, by simp [Know.status, *]⟩
      · skip
        refine J.done ?_ -- then tv = [t29]
        refine J.bind ?_ -- @tv_1 bind tv_1 ([27])
        refine J.iteF ?_
        refine J.op R.nil ?_ -- @t12 nilS a0
        refine J.op fa145_4 ?_
        refine J.stRowU sz2 (by with_reducible repeat (first | exact Pick.here | apply Pick.there)) (wks_at hx1) (off := 21) rfl (Nat.le_of_ble_eq_true rfl) rfl (wks_up (x := { x with k := { x.k with phase := m.code, dl := 0 } }) rfl) ?_
        rw [List.set_set] -- @tu_2 uS (Instr.storeAt 2 t13 (.int .i64 0))
        refine J.done ?_ -- then tv_1 = [(tv.headD undef)]
        refine J.done ?_ -- then tv_2 = []
        refine J.done ?_ -- then tv_3 = []
        -- @ret[]#4
        refine J.done (RetQ.gt (es := [Ent.row (.slice (some ⟨g, 0, none⟩) n c) 26 (wks (l.set j { x with k := { x.k with phase := m.code, dl := 0 } })) 145]) (.nil) ?_ ?_)
        · exact (by (try dsimp only); repeat (first | exact Has.nil | refine Has.cons (by repeat (first | (with_reducible exact Out.here) | ((with_reducible refine Out.cells ?_); first | rfl | (simp; done)) | ((with_reducible refine Out.row ?_); first | rfl | (simp; done)) | (with_reducible apply Out.there))) ?_))
        · exact ⟨rfl, by simp [Know.status, *]⟩

/-- (*damper/watch.Watch).level -/
theorem s73 (bw g n c : Nat) (st : Wst) (m : Msg) :
    FnT Try.prog 73 [.pointer (some ⟨bw, 0, none⟩), .agg m.cells.toArray] (fun _ => True) [Ent.cells bw [.slice (some ⟨g, 0, none⟩) n c, .int .i64 st.seq, .int .i64 st.tick] 143, Ent.row (.slice (some ⟨g, 0, none⟩) n c) 26 (wks st.l) 145] (fun v es => v = .tuple #[] ∧ es = WatH bw g n c { st with l := levelW st.l m }) := by
  refine fn_of_J (cx := cx73) hmix Try.func73 (by kernel_rfl) (eq73 _ _) fun w hw => ?_
  refine J.fact (φ := n = (wks st.l).length ∧ (wks st.l).length ≤ maxLen) (fun _ _ hs => ⟨Row.n (by with_reducible repeat (first | exact Pick.here | apply Pick.there)) hs, Row.le (by with_reducible repeat (first | exact Pick.here | apply Pick.there)) hs⟩) fun hnl => ?_
  obtain ⟨hn, hm⟩ := hnl
  simp only [wks_len, maxLen] at hn hm
  subst hn
  refine J.boxA fun bt3 => ?_
  refine J.bindBH (m.code ≠ 1 ∧ m.code ≠ 2) ([Ent.cells bw [.slice (some ⟨g, 0, none⟩) st.l.length c, .int .i64 st.seq, .int .i64 st.tick] 143, Ent.row (.slice (some ⟨g, 0, none⟩) st.l.length c) 26 (wks st.l) 145, Ent.cells bt3 m.cells 46]) ?_ (fun hbtv => ?_) (fun hbtv => ?_) -- @tv
  · skip
    refine J.op fa46_8 ?_
    refine J.op (R.ld o3 (by with_reducible repeat (first | exact Pick.here | apply Pick.there)) rfl) ?_ -- @t7 vS (Instr.loadAt 3 t6)
    refine J.opD R.neq (fun ht8 => ?_) (fun ht8 => ?_) -- @t8 binS .neq 3 (.tmp 7) (.const (.int .i64 1)) t7 (.int .i64 1)
    · skip
      refine J.gopT rfl ?_
      refine J.op fa46_8 ?_
      refine J.gopT rfl ?_
      refine J.op (R.ld o3 (by with_reducible repeat (first | exact Pick.here | apply Pick.there)) rfl) ?_ -- @t11 vS (Instr.loadAt 3 t10)
      refine J.gopT rfl ?_
      refine J.op R.neq ?_ -- @t12 binS .neq 3 (.tmp 11) (.const (.int .i64 2)) t11 (.int .i64 2)
      refine J.op R.pickT ?_ -- @t13 pickS t8 t12 (.bool false)
      exact J.done ⟨rfl, by simp [*], Imp.take (by (try dsimp only); repeat (first | exact Has.nil | refine Has.cons (by repeat (first | (with_reducible exact Out.here) | ((with_reducible refine Out.cells ?_); first | rfl | (simp; done)) | ((with_reducible refine Out.row ?_); first | rfl | (simp; done)) | (with_reducible apply Out.there))) ?_))⟩ -- @leaf[t13]
    · skip
      refine J.gopF rfl ?_
      refine J.gopF rfl ?_
      refine J.gopF rfl ?_
      refine J.op R.pickF ?_ -- @t13 pickS t8 t12 (.bool false)
      exact J.done ⟨rfl, by simp [*], Imp.take (by (try dsimp only); repeat (first | exact Has.nil | refine Has.cons (by repeat (first | (with_reducible exact Out.here) | ((with_reducible refine Out.cells ?_); first | rfl | (simp; done)) | ((with_reducible refine Out.row ?_); first | rfl | (simp; done)) | (with_reducible apply Out.there))) ?_))⟩ -- @leaf[t13]
  · skip
    refine J.iteT ?_
    -- @ret[]
    refine J.done (RetQ.gt (es := (WatH bw g st.l.length c st)) (.nil) ?_ ?_)
    · exact (by (try dsimp only); repeat (first | exact Has.nil | refine Has.cons (by repeat (first | (with_reducible exact Out.here) | ((with_reducible refine Out.cells ?_); first | rfl | (simp; done)) | ((with_reducible refine Out.row ?_); first | rfl | (simp; done)) | (with_reducible apply Out.there))) ?_))
    · exact ⟨rfl, by rw [show levelW st.l m = st.l by unfold levelW; rw [if_neg (by omega)]]⟩
  · skip
    refine J.iteF ?_
    refine J.op R.nil ?_ -- @t15 nilS a0
    refine J.op fa143_0 ?_
    refine J.op (R.ld o141 (by with_reducible repeat (first | exact Pick.here | apply Pick.there)) rfl) ?_ -- @t17 vS (Instr.loadAt 141 t16)
    refine J.op (R.lenS sl141) ?_ -- @t18 bltS .len #[141] 3 #[false] [t17]
    refine J.bind ?_ -- @tv_3 bind tv_3 ([])
    refine J.block ?_
    -- @tx loop [(.int .i64 0)]
    refine J.loop (α := Nat) (fun i => i ≤ st.l.length) (fun i => [.int .i64 i]) (fun i => [Ent.cells bw [.slice (some ⟨g, 0, none⟩) st.l.length c, .int .i64 st.seq, .int .i64 st.tick] 143, Ent.row (.slice (some ⟨g, 0, none⟩) st.l.length c) 26 (wks ((st.l.take i).map (Wk.level m.qty) ++ st.l.drop i)) 145, Ent.cells bt3 m.cells 46]) (fun i => st.l.length - i) 0 (Nat.zero_le _) rfl (Imp.take (by (try dsimp only); repeat (first | exact Has.nil | refine Has.cons (by repeat (first | (with_reducible exact Out.here) | ((with_reducible refine Out.cells ?_); first | rfl | (simp; done)) | ((with_reducible refine Out.row ?_); first | rfl | (simp; done)) | (with_reducible apply Out.there))) ?_))) ?_
    rintro i hi
    try simp only [List.headD_cons, List.tail_cons]
    refine J.opD R.lss (fun ht20 => ?_) (fun ht20 => ?_) -- @t20 binS .lss 3 (.tmp 19) (.tmp 18) (tx.headD undef) t18
    · skip
      refine J.iteT ?_
      refine J.bind ?_ -- @tv_2 bind tv_2 ([])
      refine J.block ?_
      obtain ⟨x, hx⟩ := get_ex (l := st.l) (i := i) (by omega)
      have hx1 := levelW_at (q := m.qty) hx
      refine J.op R.nil ?_ -- @t23 nilS a0
      refine J.op fa143_0 ?_
      refine J.op (R.ld o141 (by with_reducible repeat (first | exact Pick.here | apply Pick.there)) rfl) ?_ -- @t25 vS (Instr.loadAt 141 t24)
      refine J.op (R.ixS sl141 (by omega) (by omega)) ?_
      rw [show 0 + ((i : Nat) : Int).toNat * 26 = i * 26 by simp] -- @t27 ix t25 (tx.headD undef)
      refine J.op R.nil ?_ -- @t29 nilS t27
      refine J.op fa145_4 ?_
      refine J.op (R.ldRow o2 (by with_reducible repeat (first | exact Pick.here | apply Pick.there)) (wks_at hx1) (off := 21) rfl rfl) ?_ -- @t31 vS (Instr.loadAt 2 t30)
      refine J.opD R.neq (fun ht32 => ?_) (fun ht32 => ?_) -- @t32 binS .neq 2 (.tmp 31) (.const (.int .i64 0)) t31 (.int .i64 0)
      · skip
        refine J.bind ?_ -- @tv_1 bind tv_1 ([])
        refine J.iteT ?_
        refine J.draw ?_
        refine J.op R.nil ?_ -- @t34 nilS t27
        refine J.op fa145_4 ?_
        refine J.op (R.ldRow o2 (by with_reducible repeat (first | exact Pick.here | apply Pick.there)) (wks_at hx1) (off := 21) rfl rfl) ?_ -- @t36 vS (Instr.loadAt 2 t35)
        refine J.op fa46_7 ?_
        refine J.op (R.ld o2 (by with_reducible repeat (first | exact Pick.here | apply Pick.there)) rfl) ?_ -- @t38 vS (Instr.loadAt 2 t37)
        refine J.op R.add ?_ -- @t39 binS .add 2 (.tmp 36) (.tmp 38) t36 t38
        refine J.op R.nil ?_ -- @t40 nilS t27
        refine J.op fa145_4 ?_
        refine J.stRowU sz2 (by with_reducible repeat (first | exact Pick.here | apply Pick.there)) (wks_at hx1) (off := 21) rfl (Nat.le_of_ble_eq_true rfl) rfl (wks_up (x := x.level m.qty) (by simp only [Wk.level, if_pos ht32]; rfl)) ?_
        rw [levelW_step hx] -- @tu uS (Instr.storeAt 2 t41 t39)
        refine J.done ?_ -- then tv_1 = []
        refine J.done ?_ -- then tv_2 = []
        refine J.op (R.add64 (by omega)) ?_ -- @t42 binS .add 3 (.tmp 19) (.const (.int .i64 1)) (tx.headD undef) (.int .i64 1)
        -- @again[t42]
        exact J.done ⟨i + 1, by omega, rfl, Imp.take (by (try dsimp only); repeat (first | exact Has.nil | refine Has.cons (by repeat (first | (with_reducible exact Out.here) | ((with_reducible refine Out.cells ?_); first | rfl | (simp; done)) | ((with_reducible refine Out.row ?_); first | rfl | (simp; done)) | (with_reducible apply Out.there))) ?_)), by omega⟩
      · skip
        refine J.bind ?_ -- @tv_1 bind tv_1 ([])
        refine J.iteF ?_
        refine J.done ?_ -- then tv_1 = []
        refine J.done ?_ -- then tv_2 = []
        refine J.op (R.add64 (by omega)) ?_ -- @t42 binS .add 3 (.tmp 19) (.const (.int .i64 1)) (tx.headD undef) (.int .i64 1)
        -- @again[t42]#2
        rw [levelW_same hx (Classical.not_not.1 ht32)]
        exact J.done ⟨i + 1, by omega, rfl, Imp.take (by (try dsimp only); repeat (first | exact Has.nil | refine Has.cons (by repeat (first | (with_reducible exact Out.here) | ((with_reducible refine Out.cells ?_); first | rfl | (simp; done)) | ((with_reducible refine Out.row ?_); first | rfl | (simp; done)) | (with_reducible apply Out.there))) ?_)), by omega⟩
    · skip
      refine J.iteF ?_
      refine J.done ⟨fun _ => ?_, fun h => absurd rfl h⟩ -- exit []
      -- @ret[]#2
      obtain rfl : i = st.l.length := by omega
      have hl : levelW st.l m = (st.l.take st.l.length).map (Wk.level m.qty) ++ st.l.drop st.l.length := by unfold levelW; rw [if_pos (by omega)]; simp
      exact J.done (RetQ.gt (es := WatH bw g st.l.length c { st with l := (st.l.take st.l.length).map (Wk.level m.qty) ++ st.l.drop st.l.length }) .nil (by (try dsimp only); repeat (first | exact Has.nil | refine Has.cons (by repeat (first | (with_reducible exact Out.here) | ((with_reducible refine Out.cells ?_); first | rfl | (simp; done)) | ((with_reducible refine Out.row ?_); first | rfl | (simp; done)) | (with_reducible apply Out.there))) ?_)) ⟨rfl, by rw [hl]⟩)

/-- (*damper/watch.Watch).Put -/
theorem s38 (bw g n c : Nat) (st : Wst) (m : Msg) (hm : m.ok) :
    FnT Try.prog 38 [.pointer (some ⟨bw, 0, none⟩), .agg m.cells.toArray] (fun _ => True) [Ent.cells bw [.slice (some ⟨g, 0, none⟩) n c, .int .i64 st.seq, .int .i64 st.tick] 143, Ent.row (.slice (some ⟨g, 0, none⟩) n c) 26 (wks st.l) 145] (fun v es => v = .int .i64 (ckW st m) ∧ es = WatH bw g n c (putW st m)) := by
  refine fn_of_J (cx := cx38) hmix Try.func38 (by kernel_rfl) (eq38 _ _) fun w hw => ?_
  refine J.boxA fun bt3 => ?_
  refine J.opBF (R.isNil pt74) (by rfl) ?_ -- @t8
  refine J.iteF ?_
  refine J.op (R.ldA ag46 (by with_reducible repeat (first | exact Pick.here | apply Pick.there)) rfl) ?_ -- @t10 vS (Instr.loadAt 46 t3)
  refine J.callE en71 (s71 bw g n c st m hm) rfl (fun _ _ hs => ⟨Blk.of (by with_reducible repeat (first | exact Pick.here | apply Pick.there)) hs, SeeS.row (by with_reducible repeat (first | exact Pick.here | apply Pick.there)) _ _ hs⟩) ?_ -- @t11 callS (.func (.func 71) #[] #[]) [a0, t10]
  refine J.opD R.neq (fun ht13 => ?_) (fun ht13 => ?_) -- @t13 binS .neq 25 (.tmp 12) (.const (.int .i64 0)) t11 (.int .i64 0)
  · skip
    refine J.iteT ?_
    -- @ret[t11]
    refine J.done (RetQ.gt (es := (WatH bw g n c st)) (.tmp (.nil)) ?_ ?_)
    · exact (by (try dsimp only); repeat (first | exact Has.nil | refine Has.cons (by repeat (first | (with_reducible exact Out.here) | ((with_reducible refine Out.cells ?_); first | rfl | (simp; done)) | ((with_reducible refine Out.row ?_); first | rfl | (simp; done)) | (with_reducible apply Out.there))) ?_))
    · exact ⟨rfl, by simp [putW, ht13]⟩
  · skip
    refine J.iteF ?_
    refine J.draw ?_
    refine J.op fa46_2 ?_
    have hck := Classical.not_not.1 ht13
    refine J.op (R.ld o2 (by with_reducible repeat (first | exact Pick.here | apply Pick.there)) rfl) ?_ -- @t18 vS (Instr.loadAt 2 t17)
    refine J.op fa46_3 ?_
    refine J.op (R.ld o2 (by with_reducible repeat (first | exact Pick.here | apply Pick.there)) rfl) ?_ -- @t20 vS (Instr.loadAt 2 t19)
    refine J.op R.nil ?_ -- @t21 nilS a0
    refine J.op fa143_1 ?_
    refine J.st sz2 (by with_reducible repeat (first | exact Pick.here | apply Pick.there)) (by repeat (first | exact .zero | exact .nil | apply Upd.succ | apply UpdN.cons)) rfl ?_ -- @tu uS (Instr.storeAt 2 t22 t18)
    refine J.chkR (R.ld o2 (by with_reducible repeat (first | exact Pick.here | apply Pick.there)) rfl) ?_ -- @chk:t20 vS (Instr.loadAt 2 t19)
    refine J.chkR fa46_3 ?_ -- @chk:t19 vS (Instr.fieldAt 46 t3 3)
    refine J.op R.nil ?_ -- @t23 nilS a0
    refine J.op fa143_2 ?_
    refine J.st sz2 (by with_reducible repeat (first | exact Pick.here | apply Pick.there)) (by repeat (first | exact .zero | exact .nil | apply Upd.succ | apply UpdN.cons)) rfl ?_ -- @tu_1 uS (Instr.storeAt 2 t24 t20)
    refine J.op fa46_1 ?_
    refine J.op (R.ld o3 (by with_reducible repeat (first | exact Pick.here | apply Pick.there)) rfl) ?_ -- @t27 vS (Instr.loadAt 3 t26)
    refine J.callE en72 (s72 bw g n c ⟨m.seq, m.tick, st.l⟩ m.sym) rfl (fun _ _ hs => ⟨Blk.of (by with_reducible repeat (first | exact Pick.here | apply Pick.there)) hs, SeeS.row (by with_reducible repeat (first | exact Pick.here | apply Pick.there)) _ _ hs⟩) ?_ -- @t28 callS (.func (.func 72) #[] #[]) [a0, t27]
    refine J.op fa46_0 ?_
    refine J.op (R.ld o3 (by with_reducible repeat (first | exact Pick.here | apply Pick.there)) rfl) ?_ -- @t30 vS (Instr.loadAt 3 t29)
    refine J.bind ?_ -- @tv_5 bind tv_5 ([])
    refine J.block ?_
    refine J.opD R.eql (fun ht32 => ?_) (fun ht32 => ?_) -- @t32 binS .eql 3 (.tmp 30) (.const (.int .i64 9)) t30 (.int .i64 9)
    · skip
      refine J.bind ?_ -- @tv_4 bind tv_4 ([])
      refine J.iteT ?_
      refine J.op (R.ldA ag46 (by with_reducible repeat (first | exact Pick.here | apply Pick.there)) rfl) ?_ -- @t34 vS (Instr.loadAt 46 t3)
      refine J.callT en73 (s73 bw g n c ⟨m.seq, m.tick, st.l⟩ m) rfl (fun _ _ _ => trivial) (Take.cons (by (try dsimp only); repeat (first | (with_reducible exact Out.here) | ((with_reducible refine Out.cells ?_); first | rfl | (simp; done)) | ((with_reducible refine Out.row ?_); first | rfl | (simp; done)) | (with_reducible apply Out.there))) (Take.cons (by (try dsimp only); repeat (first | (with_reducible exact Out.here) | ((with_reducible refine Out.cells ?_); first | rfl | (simp; done)) | ((with_reducible refine Out.row ?_); first | rfl | (simp; done)) | (with_reducible apply Out.there))) Take.nil)) (fun v es hv => ?_)
      obtain ⟨rfl, rfl⟩ := hv
      simp only [WatH, List.cons_append, List.nil_append] -- @t35 callS (.func (.func 73) #[] #[]) [a0, t34]
      refine J.done ?_ -- then tv_4 = []
      refine J.done ?_ -- then tv_5 = []
      -- @ret[(.int.i640)]
      refine J.done (RetQ.gt (es := (WatH bw g n c ⟨m.seq, m.tick, levelW st.l m⟩)) (.tmp (.nil)) ?_ ?_)
      · exact (by (try dsimp only); repeat (first | exact Has.nil | refine Has.cons (by repeat (first | (with_reducible exact Out.here) | ((with_reducible refine Out.cells ?_); first | rfl | (simp; done)) | ((with_reducible refine Out.row ?_); first | rfl | (simp; done)) | (with_reducible apply Out.there))) ?_))
      · exact ⟨by rw [hck]; rfl, by simp [putW, *]⟩
    · skip
      refine J.bind ?_ -- @tv_4 bind tv_4 ([])
      refine J.iteF ?_
      refine J.opD R.eql (fun ht37 => ?_) (fun ht37 => ?_) -- @t37 binS .eql 3 (.tmp 30) (.const (.int .i64 3)) t30 (.int .i64 3)
      · skip
        refine J.bind ?_ -- @tv_3 bind tv_3 ([])
        refine J.iteT ?_
        refine J.draw ?_
        obtain ⟨j, x, hsym, hx⟩ := ckW_in hck (by omega) (by omega)
        have hof : ofP g ⟨m.seq, m.tick, st.l⟩ m.sym = some ⟨g, j * 26, none⟩ := ofP_at hsym hx
        have hsl := set_same hx
        rw [hof]
        obtain ⟨ci, hci, hc1, hc3⟩ := ckW_trade hck (by omega) hsym hx
        refine J.op R.nil ?_ -- @t39 nilS t28
        refine J.op fa145_5 ?_
        refine J.op ia86_0 ?_
        refine J.op (R.ldRow o2 (by with_reducible repeat (first | exact Pick.here | apply Pick.there)) (wks_at hx) (off := 22) rfl rfl) ?_ -- @t42 vS (Instr.loadAt 2 t41)
        refine J.op fa46_7 ?_
        refine J.op (R.ld o2 (by with_reducible repeat (first | exact Pick.here | apply Pick.there)) rfl) ?_ -- @t44 vS (Instr.loadAt 2 t43)
        refine J.op R.add ?_ -- @t45 binS .add 2 (.tmp 42) (.tmp 44) t42 t44
        refine J.op R.nil ?_ -- @t46 nilS t28
        refine J.op fa145_5 ?_
        refine J.op ia86_0 ?_
        refine J.stRowU sz2 (by with_reducible repeat (first | exact Pick.here | apply Pick.there)) (wks_at hx) (off := 22) rfl (Nat.le_of_ble_eq_true rfl) rfl (wks_up (x := { x with k := x.k.setTr 0 (IntKind.i64.wrap (x.k.tr 0 + m.qty)) }) rfl) ?_
        have hx1 : (st.l.set j { x with k := x.k.setTr 0 (IntKind.i64.wrap (x.k.tr 0 + m.qty)) })[j]? = some { x with k := x.k.setTr 0 (IntKind.i64.wrap (x.k.tr 0 + m.qty)) } := List.getElem?_set_self (List.getElem?_eq_some_iff.1 hx).1 -- @tu_2 uS (Instr.storeAt 2 t48 t45)
        refine J.draw ?_
        refine J.op fa46_8 ?_
        refine J.op (R.ld o3 (by with_reducible repeat (first | exact Pick.here | apply Pick.there)) rfl) ?_ -- @t51 vS (Instr.loadAt 3 t50)
        refine J.op R.nil ?_ -- @t52 nilS t28
        refine J.op fa145_5 ?_
        rw [hci]
        refine J.op (R.ixA ar86 (by omega) (by omega)) ?_ -- @t54 ix t53 t51
        refine J.op (R.ldRow o2 (by with_reducible repeat (first | exact Pick.here | apply Pick.there)) (wks_at hx1) (off := 22 + ci) (by simp; omega) (Wk.cells_tr rfl (by omega))) ?_ -- @t55 vS (Instr.loadAt 2 t54)
        refine J.op fa46_7 ?_
        refine J.op (R.ld o2 (by with_reducible repeat (first | exact Pick.here | apply Pick.there)) rfl) ?_ -- @t57 vS (Instr.loadAt 2 t56)
        refine J.op R.add ?_ -- @t58 binS .add 2 (.tmp 55) (.tmp 57) t55 t57
        refine J.op R.nil ?_ -- @t59 nilS t28
        refine J.op fa145_5 ?_
        refine J.op (R.ixA ar86 (by omega) (by omega)) ?_ -- @t61 ix t60 t51
        refine J.stRowU sz2 (by with_reducible repeat (first | exact Pick.here | apply Pick.there)) (wks_at hx1) (off := 22 + ci) (by simp; omega) (by show _ < 26; omega) rfl (wks_up (x := { x with k := x.k.traded m.qty ci }) (by rw [Wk.set_tr rfl (by omega)]; rfl)) ?_
        rw [List.set_set] -- @tu_3 uS (Instr.storeAt 2 t61 t58)
        refine J.done ?_ -- then tv_3 = []
        refine J.done ?_ -- then tv_4 = []
        refine J.done ?_ -- then tv_5 = []
        -- @ret[(.int.i640)]#2
        refine J.done (RetQ.gt (es := (WatH bw g n c ⟨m.seq, m.tick, (st.l.set j { x with k := x.k.traded m.qty ci })⟩)) (.tmp (.nil)) ?_ ?_)
        · exact (by (try dsimp only); repeat (first | exact Has.nil | refine Has.cons (by repeat (first | (with_reducible exact Out.here) | ((with_reducible refine Out.cells ?_); first | rfl | (simp; done)) | ((with_reducible refine Out.row ?_); first | rfl | (simp; done)) | (with_reducible apply Out.there))) ?_))
        · exact ⟨by rw [hck]; rfl, by rw [putW_set hck (by omega) (by omega) hsym hx (by simp [Wk.put, *]; rfl)]⟩
      · skip
        refine J.bind ?_ -- @tv_3 bind tv_3 ([])
        refine J.iteF ?_
        refine J.opD R.eql (fun ht63 => ?_) (fun ht63 => ?_) -- @t63 binS .eql 3 (.tmp 30) (.const (.int .i64 5)) t30 (.int .i64 5)
        · skip
          refine J.bind ?_ -- @tv_2 bind tv_2 ([])
          refine J.iteT ?_
          refine J.op fa46_6 ?_
          refine J.op (R.ld o2 (by with_reducible repeat (first | exact Pick.here | apply Pick.there)) rfl) ?_ -- @t66 vS (Instr.loadAt 2 t65)
          refine J.op fa46_7 ?_
          refine J.op (R.ld o2 (by with_reducible repeat (first | exact Pick.here | apply Pick.there)) rfl) ?_ -- @t68 vS (Instr.loadAt 2 t67)
          refine J.op bd85_0_1 ?_ -- @t69 vS (Instr.build 85 #[(0, t66), (1, t68)])
          obtain ⟨j, x, hsym, hx⟩ := ckW_in hck (by omega) (by omega)
          have hof : ofP g ⟨m.seq, m.tick, st.l⟩ m.sym = some ⟨g, j * 26, none⟩ := ofP_at hsym hx
          have hsl := set_same hx
          rw [hof]
          refine J.op R.nil ?_ -- @t70 nilS t28
          refine J.op fa145_2 ?_
          refine J.stRowAU sz85 (by with_reducible repeat (first | exact Pick.here | apply Pick.there)) (wks_at hx) (off := 17) rfl rfl (Nat.le_of_ble_eq_true rfl) rfl (wks_up (x := { x with k := { x.k with blo := m.price, bhi := m.qty } }) rfl) ?_ -- @tu_4 uS (Instr.storeAt 85 t71 t69)
          refine J.done ?_ -- then tv_2 = []
          refine J.done ?_ -- then tv_3 = []
          refine J.done ?_ -- then tv_4 = []
          refine J.done ?_ -- then tv_5 = []
          -- @ret[(.int.i640)]#3
          refine J.done (RetQ.gt (es := (WatH bw g n c ⟨m.seq, m.tick, (st.l.set j { x with k := { x.k with blo := m.price, bhi := m.qty } })⟩)) (.tmp (.nil)) ?_ ?_)
          · exact (by (try dsimp only); repeat (first | exact Has.nil | refine Has.cons (by repeat (first | (with_reducible exact Out.here) | ((with_reducible refine Out.cells ?_); first | rfl | (simp; done)) | ((with_reducible refine Out.row ?_); first | rfl | (simp; done)) | (with_reducible apply Out.there))) ?_))
          · exact ⟨by rw [hck]; rfl, by rw [putW_set hck (by omega) (by omega) hsym hx (by simp [Wk.put, *]; rfl)]⟩
        · skip
          refine J.bind ?_ -- @tv_2 bind tv_2 ([])
          refine J.iteF ?_
          refine J.opD R.eql (fun ht73 => ?_) (fun ht73 => ?_) -- @t73 binS .eql 3 (.tmp 30) (.const (.int .i64 8)) t30 (.int .i64 8)
          · skip
            refine J.bind ?_ -- @tv_1 bind tv_1 ([])
            refine J.iteT ?_
            refine J.op fa46_6 ?_
            refine J.op (R.ld o2 (by with_reducible repeat (first | exact Pick.here | apply Pick.there)) rfl) ?_ -- @t76 vS (Instr.loadAt 2 t75)
            refine J.op fa46_7 ?_
            refine J.op (R.ld o2 (by with_reducible repeat (first | exact Pick.here | apply Pick.there)) rfl) ?_ -- @t78 vS (Instr.loadAt 2 t77)
            refine J.op bd85_0_1 ?_ -- @t79 vS (Instr.build 85 #[(0, t76), (1, t78)])
            obtain ⟨j, x, hsym, hx⟩ := ckW_in hck (by omega) (by omega)
            have hof : ofP g ⟨m.seq, m.tick, st.l⟩ m.sym = some ⟨g, j * 26, none⟩ := ofP_at hsym hx
            have hsl := set_same hx
            rw [hof]
            refine J.op R.nil ?_ -- @t80 nilS t28
            refine J.op fa145_3 ?_
            refine J.stRowAU sz85 (by with_reducible repeat (first | exact Pick.here | apply Pick.there)) (wks_at hx) (off := 19) rfl rfl (Nat.le_of_ble_eq_true rfl) rfl (wks_up (x := { x with k := { x.k with clo := m.price, chi := m.qty } }) rfl) ?_ -- @tu_5 uS (Instr.storeAt 85 t81 t79)
            refine J.done ?_ -- then tv_1 = []
            refine J.done ?_ -- then tv_2 = []
            refine J.done ?_ -- then tv_3 = []
            refine J.done ?_ -- then tv_4 = []
            refine J.done ?_ -- then tv_5 = []
            -- @ret[(.int.i640)]#4
            refine J.done (RetQ.gt (es := (WatH bw g n c ⟨m.seq, m.tick, (st.l.set j { x with k := { x.k with clo := m.price, chi := m.qty } })⟩)) (.tmp (.nil)) ?_ ?_)
            · exact (by (try dsimp only); repeat (first | exact Has.nil | refine Has.cons (by repeat (first | (with_reducible exact Out.here) | ((with_reducible refine Out.cells ?_); first | rfl | (simp; done)) | ((with_reducible refine Out.row ?_); first | rfl | (simp; done)) | (with_reducible apply Out.there))) ?_))
            · exact ⟨by rw [hck]; rfl, by rw [putW_set hck (by omega) (by omega) hsym hx (by simp [Wk.put, *]; rfl)]⟩
          · skip
            refine J.bind ?_ -- @tv_1 bind tv_1 ([])
            refine J.iteF ?_
            refine J.opD R.eql (fun ht83 => ?_) (fun ht83 => ?_) -- @t83 binS .eql 3 (.tmp 30) (.const (.int .i64 6)) t30 (.int .i64 6)
            · skip
              refine J.bind ?_ -- @tv bind tv ([])
              refine J.iteT ?_
              refine J.op (R.ldA ag46 (by with_reducible repeat (first | exact Pick.here | apply Pick.there)) rfl) ?_ -- @t85 vS (Instr.loadAt 46 t3)
              obtain ⟨j, x, hsym, hx⟩ := ckW_in hck (by omega) (by omega)
              have hof : ofP g ⟨m.seq, m.tick, st.l⟩ m.sym = some ⟨g, j * 26, none⟩ := ofP_at hsym hx
              have hsl := set_same hx
              rw [hof]
              refine J.callT en74 (s74 g n c j st.l x hx m) rfl (fun _ _ _ => trivial) (Take.cons (by (try dsimp only); repeat (first | (with_reducible exact Out.here) | ((with_reducible refine Out.cells ?_); first | rfl | (simp; done)) | ((with_reducible refine Out.row ?_); first | rfl | (simp; done)) | (with_reducible apply Out.there))) Take.nil) (fun v es hv => ?_)
              obtain ⟨rfl, rfl⟩ := hv
              simp only [List.cons_append, List.nil_append] -- @t86 callS (.func (.func 74) #[] #[]) [t28, t85]
              refine J.done ?_ -- then tv = []
              refine J.done ?_ -- then tv_1 = []
              refine J.done ?_ -- then tv_2 = []
              refine J.done ?_ -- then tv_3 = []
              refine J.done ?_ -- then tv_4 = []
              refine J.done ?_ -- then tv_5 = []
              -- @ret[(.int.i640)]#5
              refine J.done (RetQ.gt (es := (WatH bw g n c ⟨m.seq, m.tick, (st.l.set j { x with k := x.k.status x.s m })⟩)) (.tmp (.nil)) ?_ ?_)
              · exact (by (try dsimp only); repeat (first | exact Has.nil | refine Has.cons (by repeat (first | (with_reducible exact Out.here) | ((with_reducible refine Out.cells ?_); first | rfl | (simp; done)) | ((with_reducible refine Out.row ?_); first | rfl | (simp; done)) | (with_reducible apply Out.there))) ?_))
              · exact ⟨by rw [hck]; rfl, by rw [putW_set hck (by omega) (by omega) hsym hx (by simp [Wk.put, *]; rfl)]⟩
            · skip
              refine J.bind ?_ -- @tv bind tv ([])
              refine J.iteF ?_
              refine J.done ?_ -- then tv = []
              refine J.done ?_ -- then tv_1 = []
              refine J.done ?_ -- then tv_2 = []
              refine J.done ?_ -- then tv_3 = []
              refine J.done ?_ -- then tv_4 = []
              refine J.done ?_ -- then tv_5 = []
              -- @ret[(.int.i640)]#6
              have hpw : putW st m = ⟨m.seq, m.tick, st.l⟩ := by
                by_cases h2 : m.kind = 2
                · simp [putW, hck, h2]
                · obtain ⟨j, x, hsym, hx⟩ := ckW_in hck h2 (by omega)
                  have hsl := set_same hx
                  rw [putW_set hck (by omega) h2 hsym hx (y := x) (by simp [Wk.put, *]), hsl]
              exact J.done (RetQ.gt (es := WatH bw g n c ⟨m.seq, m.tick, st.l⟩) (.tmp .nil) (by (try dsimp only); repeat (first | exact Has.nil | refine Has.cons (by repeat (first | (with_reducible exact Out.here) | ((with_reducible refine Out.cells ?_); first | rfl | (simp; done)) | ((with_reducible refine Out.row ?_); first | rfl | (simp; done)) | (with_reducible apply Out.there))) ?_)) ⟨by rw [hck]; rfl, by rw [hpw]⟩)

/-- (*damper/watch.Watch).Put -/
theorem s38nil (m : Msg) :
    FnE Try.prog 38 [.pointer none, .agg m.cells.toArray] (fun _ => True) (.int .i64 1) := by
  refine fn_of_J (cx := cx38) hmix Try.func38 (by kernel_rfl) (eq38 _ _) fun w hw => ?_
  refine J.boxA fun bt3 => ?_
  refine J.opBT (R.isNil pt74) (by rfl) ?_ -- @t8
  refine J.iteT ?_
  -- @ret[(.int.i641)]
  exact J.done (RetQ.ge (.tmp (.nil)) (by first | rfl | (simp [mkRes, *]; done) | (simp_all [mkRes]; done) | (simp_all [mkRes]; first | omega | (rw [decide_eq_false_iff_not]; omega) | (rw [decide_eq_true_iff]; omega)) | (simp only [mkRes]; (repeat' split) <;> first | rfl | omega | (simp_all; done) | (simp_all; omega))))
end Go.Proofs.Ytipgdalebkhgpaa
