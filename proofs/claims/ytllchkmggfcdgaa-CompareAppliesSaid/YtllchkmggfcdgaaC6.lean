/-
  Contracts of functions.
-/
import Derived.Test.YtllchkmggfcdgaaTerms
import Derived.Test.YtllchkmggfcdgaaTab
import Derived.Test.YtllchkmggfcdgaaC3
import Derived.Test.YtllchkmggfcdgaaC5
set_option maxRecDepth 100000
set_option linter.unusedVariables false
set_option linter.unusedSimpArgs false
namespace Go.Proofs.Ytllchkmggfcdgaa
open Go Go.RowKit Fw
/-- damper/damperlaw38.CompareApplies -/
theorem s8 (va vb vl : Value) (a b : List Msg) (l : List Edit) :
    FnE Try.prog 8 [va, vb, vl] (fun w => RdS w va 9 (msgs a) ∧ RdS w vb 9 (msgs b) ∧ RdS w vl 3 (edits l)) (.bool true) := by
  refine fn_of_J (cx := cx8) hmix Try.func8 (by kernel_rfl) (eq8 _ _ _) fun w hw => ?_
  have hA : ∀ H, SeeS ⟨Try.prog, w, footOf []⟩ H va 9 (msgs a) := fun H => SeeS.ofW0 hw.1 msgs_ne
  have hB : ∀ H, SeeS ⟨Try.prog, w, footOf []⟩ H vb 9 (msgs b) := fun H => SeeS.ofW0 hw.2.1 msgs_ne
  have hL : ∀ H, SeeS ⟨Try.prog, w, footOf []⟩ H vl 3 (edits l) := fun H => SeeS.ofW0 hw.2.2 edits_ne
  have hm := hw.2.2.le
  simp only [edits_len, maxLen] at hm
  refine J.bindB (100 < a.length ∨ 100 < b.length ∨ 200 < l.length) ?_ (fun hbtv => ?_) (fun hbtv => ?_) -- @tv
  · skip
    refine J.op (R.lenN sl57 (by first | exact SeeS.row (by with_reducible repeat (first | exact Pick.here | apply Pick.there)) | apply_assumption) (by first | exact ints_len | exact bools_len | exact msgs_len | exact trows_len | exact edits_len | rfl)) ?_ -- @t14 bltS .len #[57] 3 #[false] [a0]
    refine J.opD R.gtr (fun ht15 => ?_) (fun ht15 => ?_) -- @t15 binS .gtr 3 (.tmp 14) (.const (.int .i64 100)) t14 (.int .i64 100)
    · skip
      refine J.gopF rfl ?_
      refine J.gopF rfl ?_
      refine J.gopF rfl ?_
      refine J.op R.pickT ?_ -- @t20 pickS t15 (.bool true) t19
      refine J.gopF rfl ?_
      refine J.gopF rfl ?_
      refine J.gopF rfl ?_
      refine J.op R.pickT ?_ -- @t25 pickS t20 (.bool true) t24
      first
        | exact J.done ⟨rfl, congrArg (fun x => [Value.bool x]) (decide_eq_decide.2 (by omega)), rfl⟩
        | exact J.done ⟨rfl, congrArg (fun x => [Value.bool x]) (by simp; omega), rfl⟩ -- @leaf[t25]
    · skip
      refine J.gopT rfl ?_
      refine J.op R.pure ?_
      refine J.gopT rfl ?_
      refine J.op (R.lenN sl57 (by first | exact SeeS.row (by with_reducible repeat (first | exact Pick.here | apply Pick.there)) | apply_assumption) (by first | exact ints_len | exact bools_len | exact msgs_len | exact trows_len | exact edits_len | rfl)) ?_ -- @t18 bltS .len #[57] 3 #[false] [t17]
      refine J.gopT rfl ?_
      refine J.opD R.gtr (fun ht19 => ?_) (fun ht19 => ?_) -- @t19 binS .gtr 3 (.tmp 18) (.const (.int .i64 100)) t18 (.int .i64 100)
      · skip
        refine J.op R.pickF ?_ -- @t20 pickS t15 (.bool true) t19
        refine J.gopF rfl ?_
        refine J.gopF rfl ?_
        refine J.gopF rfl ?_
        refine J.op R.pickT ?_ -- @t25 pickS t20 (.bool true) t24
        first
          | exact J.done ⟨rfl, congrArg (fun x => [Value.bool x]) (decide_eq_decide.2 (by omega)), rfl⟩
          | exact J.done ⟨rfl, congrArg (fun x => [Value.bool x]) (by simp; omega), rfl⟩ -- @leaf[t25]
      · skip
        refine J.op R.pickF ?_ -- @t20 pickS t15 (.bool true) t19
        refine J.gopT rfl ?_
        refine J.op R.pure ?_
        refine J.gopT rfl ?_
        refine J.op (R.lenN sl60 (hL _) edits_len) ?_ -- @t23 bltS .len #[60] 3 #[false] [t22]
        refine J.gopT rfl ?_
        refine J.op R.gtr ?_ -- @t24 binS .gtr 3 (.tmp 23) (.const (.int .i64 200)) t23 (.int .i64 200)
        refine J.op R.pickF ?_ -- @t25 pickS t20 (.bool true) t24
        first
          | exact J.done ⟨rfl, congrArg (fun x => [Value.bool x]) (decide_eq_decide.2 (by omega)), rfl⟩
          | exact J.done ⟨rfl, congrArg (fun x => [Value.bool x]) (by simp; omega), rfl⟩ -- @leaf[t25]
  · skip
    refine J.iteT ?_
    refine J.callE en27 (s27) rfl (fun _ _ _ => trivial) ?_ -- @t26 callS (.func (.func 27) #[] #[]) []
    -- @ret[t26]
    exact J.done (RetQ.e1 (by first | rfl | (simp [*]; done) | (simp_all []; done) | skip))
  · skip
    refine J.iteF ?_
    refine J.bind ?_ -- @tv_2 bind tv_2 ([7])
    refine J.block ?_
    -- @tx loop [(.slice none 0 0), (.int .i64 0)]
    refine J.nilRow (sz := 3) (E := 68) ?_
    refine J.loop (α := Nat × Option Addr × Nat × Nat) (fun (i, _) => i ≤ l.length) (fun (i, oa, on, oc) => [.slice oa on oc, .int .i64 i]) (fun (i, oa, on, oc) => [Ent.row (.slice oa on oc) 3 (edits (l.take i)) 68]) (fun (i, _) => l.length - i) (0, none, 0, 0) (Nat.zero_le _) rfl (Imp.refl _) ?_
    rintro ⟨i, oa, on, oc⟩ hi
    dsimp only at hi ⊢
    try simp only [List.headD_cons, List.tail_cons]
    refine J.op (R.lenN sl60 (hL _) edits_len) ?_ -- @t29 bltS .len #[60] 3 #[false] [a2]
    refine J.opD R.lss (fun ht30 => ?_) (fun ht30 => ?_) -- @t30 binS .lss 3 (.tmp 27) (.tmp 29) (tx.tail.headD undef) t29
    · skip
      refine J.iteT ?_
      obtain ⟨e, he⟩ := get_ex (l := l) (i := i) (by omega)
      refine J.bind ?_ -- @tv_1 bind tv_1 ([7])
      refine J.block ?_
      refine J.draw ?_
      refine J.ixW sl60 hL (by omega) (edits_get he) fun gb go hkt36 => ?_ -- @t36 ix a2 (tx.tail.headD undef)
      refine J.op fa67_0 ?_
      refine J.op (R.ldK0 o3 (hkt36 _)) ?_ -- @t38 vS (Instr.loadAt 3 t37)
      refine J.ixW sl60 hL (by omega) (edits_get he) fun gb go hkt41 => ?_ -- @t41 ix a2 (tx.tail.headD undef)
      refine J.op fa67_1 ?_
      refine J.op (R.ldK o3 (hkt41 _) rfl) ?_ -- @t43 vS (Instr.loadAt 3 t42)
      refine J.ixW sl60 hL (by omega) (edits_get he) fun gb go hkt46 => ?_ -- @t46 ix a2 (tx.tail.headD undef)
      refine J.op fa67_2 ?_
      refine J.op (R.ldK o3 (hkt46 _) rfl) ?_ -- @t48 vS (Instr.loadAt 3 t47)
      refine J.op bd68_0_1_2 ?_ -- @t49 vS (Instr.build 68 #[(0, t38), (1, t43), (2, t48)])
      refine J.bs (cs := e.cells) (E := 68) (fun w => by kernel_rfl) fun bt50 => ?_ -- @t50 vS (Instr.buildSlice 62 1 #[(0, t49)])
      refine J.append sl62 (by with_reducible repeat (first | exact Pick.here | apply Pick.there)) (SeeS.cells (els := [e.cells]) (by with_reducible repeat (first | exact Pick.here | apply Pick.there)) rfl (by decide) (by intro i l hi j u hj; rcases i with _ | i <;> simp at hi; subst hi; simpa using hj)) (by intro l hl; simp at hl; subst hl; exact ⟨rfl, allOne_spec rfl⟩) (by rw [edits_len]; simp; omega) (by rw [edits_len]; simp [maxLen]; omega) fun at51 nt51 ct51 => ?_ -- @t51 bltS .append #[62, 62] 62 #[false, false] [(tx.headD undef), t50]
      refine J.done ?_ -- then tv_1 = [t51]
      refine J.op (R.add64 (by omega)) ?_ -- @t32 binS .add 3 (.tmp 31) (.const (.int .i64 1)) (tx.tail.headD undef) (.int .i64 1)
      -- @again[(tv_1.headDundef),t32]
      refine J.done ⟨(i + 1, at51, nt51, ct51), by dsimp only; omega, rfl, ?_, by dsimp only; omega⟩
      dsimp only
      rw [List.take_add_one, he, Option.toList_some, ← edits_app]
      exact Imp.take (by (try dsimp only); repeat (first | exact Has.nil | refine Has.cons (by repeat (first | (with_reducible exact Out.here) | ((with_reducible refine Out.cells ?_); first | rfl | (simp; done)) | ((with_reducible refine Out.row ?_); first | rfl | (simp; done)) | (with_reducible apply Out.there))) ?_))
    · skip
      refine J.iteF ?_
      refine J.done ⟨fun _ => ?_, fun h => absurd rfl h⟩ -- exit [(tx.headD undef)]
      have htk : l.take i = l := List.take_of_length_le (by omega)
      rw [htk]
      refine J.callT en34 (s34 _ _ (.slice oa on oc) a b l (by omega) (by omega)) rfl (fun _ _ hs => ⟨hA _ _ _ hs, hB _ _ _ hs, SeeS.row (E := 68) (by with_reducible repeat (first | exact Pick.here | apply Pick.there)) _ _ hs⟩) Take.nil (fun v es hv => ?_)
      obtain ⟨xa, xn, xc, rfl, rfl⟩ := hv
      simp only [List.cons_append, List.nil_append] -- @t56 callS (.func (.func 34) #[] #[]) [a0, a1, (tv_2.headD undef)]
      refine J.op (R.ext rfl) ?_ -- @t57 vS (Instr.extract t56 0)
      refine J.op (R.ext rfl) ?_ -- @t58 vS (Instr.extract t56 1)
      refine J.callT en35 (s35 _ _ _ a b l (by omega) (by omega)) rfl (fun _ _ hs => ⟨hA _ _ _ hs, hB _ _ _ hs, hL _ _ _ hs⟩) Take.nil (fun v es hv => ?_)
      obtain ⟨ya, yn, yc, rfl, rfl⟩ := hv
      simp only [List.cons_append, List.nil_append] -- @t63 callS (.func (.func 35) #[] #[]) [a0, a1, a2]
      refine J.op (R.ext rfl) ?_ -- @t64 vS (Instr.extract t63 0)
      refine J.op (R.ext rfl) ?_ -- @t65 vS (Instr.extract t63 1)
      refine J.bindB (True) ?_ (fun hbtv_3 => ?_) (fun hbtv_3 => ?_) -- @tv_3
      · skip
        refine J.callE en36 (s36 (.slice xa xn xc) (.slice ya yn yc) (applyR a b l).1 (applyR a b l).1) rfl (fun _ _ hs => ⟨SeeS.row (E := 89) (by with_reducible repeat (first | exact Pick.here | apply Pick.there)) _ _ hs, SeeS.row (E := 89) (by with_reducible repeat (first | exact Pick.here | apply Pick.there)) _ _ hs⟩) ?_
        rw [show sameB (applyR a b l).1 (applyR a b l).1 = true by simp [sameB]] -- @t68 callS (.func (.func 36) #[] #[]) [t57, t64]
        refine J.gopT rfl ?_
        refine J.op R.pure ?_
        refine J.gopT rfl ?_
        refine J.op R.pure ?_
        refine J.gopT rfl ?_
        refine J.opDT (R.eqlB bl4) (by rfl) ?_ -- @t72
        refine J.op R.pickT ?_ -- @t73 pickS t68 t72 (.bool false)
        refine J.gopT rfl ?_
        refine J.callE en27 (s27) rfl (fun _ _ _ => trivial) ?_ -- @t75 callS (.func (.func 27) #[] #[]) []
        refine J.op R.pickT ?_ -- @t76 pickS t73 t75 (.bool false)
        exact J.done ⟨rfl, by simp [*], rfl⟩ -- @leaf[t76]
      · skip
        -- @ret[(tv_3.headDundef)]
        exact J.done (RetQ.e1 (by first | rfl | (simp [*]; done) | (simp_all []; done) | skip))
      · exact absurd trivial hbtv_3
end Go.Proofs.Ytllchkmggfcdgaa
