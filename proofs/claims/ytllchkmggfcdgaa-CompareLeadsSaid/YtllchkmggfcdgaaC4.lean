/-
  Contracts of functions.
-/
import Derived.Test.YtllchkmggfcdgaaTerms
import Derived.Test.YtllchkmggfcdgaaTab
import Derived.Test.YtllchkmggfcdgaaC3
set_option maxRecDepth 100000
set_option linter.unusedVariables false
set_option linter.unusedSimpArgs false
namespace Go.Proofs.Ytllchkmggfcdgaa
open Go Go.RowKit Fw
/-- damper/damperlaw38.CompareLeads -/
theorem s9 (a1 : Option Addr) (n1 c1 : Nat) (a2 : Option Addr) (n2 c2 : Nat) (a b : List Msg) :
    FnE Try.prog 9 [.slice a1 n1 c1, .slice a2 n2 c2] (fun w => RdS w (.slice a1 n1 c1) 9 (msgs a) ∧ RdS w (.slice a2 n2 c2) 9 (msgs b)) (.bool true) := by
  refine fn_of_J (cx := cx9) hmix Try.func9 (by kernel_rfl) (eq9 _ _) fun w hw => ?_
  have hA : ∀ H, SeeS ⟨Try.prog, w, footOf []⟩ H (.slice a1 n1 c1) 9 (msgs a) := fun H => SeeS.ofW0 hw.1 msgs_ne
  have hB : ∀ H, SeeS ⟨Try.prog, w, footOf []⟩ H (.slice a2 n2 c2) 9 (msgs b) := fun H => SeeS.ofW0 hw.2 msgs_ne
  refine J.bindB (100 < a.length ∨ 100 < b.length) ?_ (fun hbtv => ?_) (fun hbtv => ?_) -- @tv
  · skip
    refine J.op (R.lenN sl57 (by first | exact SeeS.row (by with_reducible repeat (first | exact Pick.here | apply Pick.there)) | apply_assumption) (by first | exact ints_len | exact bools_len | exact msgs_len | exact trows_len | exact edits_len | rfl)) ?_ -- @t12 bltS .len #[57] 3 #[false] [a0]
    refine J.opD R.gtr (fun ht13 => ?_) (fun ht13 => ?_) -- @t13 binS .gtr 3 (.tmp 12) (.const (.int .i64 100)) t12 (.int .i64 100)
    · skip
      refine J.gopF rfl ?_
      refine J.gopF rfl ?_
      refine J.gopF rfl ?_
      refine J.op R.pickT ?_ -- @t18 pickS t13 (.bool true) t17
      exact J.done ⟨rfl, congrArg (fun x => [Value.bool x]) (by simp; omega), rfl⟩ -- @leaf[t18]
    · skip
      refine J.gopT rfl ?_
      refine J.op R.pure ?_
      refine J.gopT rfl ?_
      refine J.op (R.lenN sl57 (by first | exact SeeS.row (by with_reducible repeat (first | exact Pick.here | apply Pick.there)) | apply_assumption) (by first | exact ints_len | exact bools_len | exact msgs_len | exact trows_len | exact edits_len | rfl)) ?_ -- @t16 bltS .len #[57] 3 #[false] [t15]
      refine J.gopT rfl ?_
      refine J.op R.gtr ?_ -- @t17 binS .gtr 3 (.tmp 16) (.const (.int .i64 100)) t16 (.int .i64 100)
      refine J.op R.pickF ?_ -- @t18 pickS t13 (.bool true) t17
      exact J.done ⟨rfl, congrArg (fun x => [Value.bool x]) (decide_eq_decide.2 (by omega)), rfl⟩ -- @leaf[t18]#2
  · skip
    refine J.iteT ?_
    refine J.callE en27 (s27) rfl (fun _ _ _ => trivial) ?_ -- @t19 callS (.func (.func 27) #[] #[]) []
    -- @ret[t19]
    exact J.done (RetQ.e1 (by first | rfl | (simp [*]; done) | (simp_all []; done) | skip))
  · skip
    refine J.iteF ?_
    refine J.callT en32 (s32 _ _ _ _ _ _ a b (by omega) (by omega)) rfl (fun _ _ hs => ⟨hA _ _ _ hs, hB _ _ _ hs⟩) Take.nil (fun v es hv => ?_)
    obtain ⟨oa, on, oc, rfl, rfl⟩ := hv
    simp only [List.cons_append, List.nil_append] -- @t22 callS (.func (.func 32) #[] #[]) [a0, a1]
    refine J.callT en34 (s34 _ _ (.slice oa on oc) a b (editsOf a b) (by omega) (by omega)) rfl (fun _ _ hs => ⟨hA _ _ _ hs, hB _ _ _ hs, SeeS.row (E := 68) (by with_reducible repeat (first | exact Pick.here | apply Pick.there)) _ _ hs⟩) Take.nil (fun v es hv => ?_)
    obtain ⟨xa, xn, xc, rfl, rfl⟩ := hv
    simp only [List.cons_append, List.nil_append]
    rw [apply_edits (by omega) (by omega)]
    have hE : kept (editsOf a b) = lcs a b ∧ (editsOf a b).length + lcs a b = a.length + b.length := by
      unfold editsOf
      rw [if_neg (by omega)]
      exact kept_rest a b (a.length + b.length) 0 0 (by omega) (by omega) (by omega)
    have hlc := lcs_le a b
    have hel : (editsOf a b).length ≤ 200 := by omega -- @t27 callS (.func (.func 34) #[] #[]) [a0, a1, t22]
    refine J.op (R.ext rfl) ?_ -- @t28 vS (Instr.extract t27 0)
    refine J.op (R.ext rfl) ?_ -- @t29 vS (Instr.extract t27 1)
    refine J.bind ?_ -- @tv_3 bind tv_3 ([8])
    refine J.block ?_
    -- @tx loop [(.int .i64 0), (.int .i64 0)]
    refine J.loopH (α := Nat) (fun i => i ≤ (editsOf a b).length) (fun i => [.int .i64 ((kept ((editsOf a b).take i) : Nat) : Int), .int .i64 i]) (fun i => (editsOf a b).length - i) 0 (Nat.zero_le _) rfl ?_
    intro i hi
    try simp only [List.headD_cons, List.tail_cons]
    refine J.op (R.lenN sl62 (by first | exact SeeS.row (by with_reducible repeat (first | exact Pick.here | apply Pick.there)) | apply_assumption) (by first | exact ints_len | exact bools_len | exact msgs_len | exact trows_len | exact edits_len | rfl)) ?_ -- @t32 bltS .len #[62] 3 #[false] [t22]
    refine J.opD R.lss (fun ht33 => ?_) (fun ht33 => ?_) -- @t33 binS .lss 3 (.tmp 30) (.tmp 32) (tx.tail.headD undef) t32
    · skip
      refine J.iteT ?_
      obtain ⟨e, he⟩ := get_ex (l := editsOf a b) (i := i) (by omega)
      have hkt : kept ((editsOf a b).take (i + 1)) = kept ((editsOf a b).take i) + (if e.op = 0 then 1 else 0) := kept_take he
      have hkl := kept_le ((editsOf a b).take i)
      rw [List.length_take] at hkl
      refine J.bind ?_ -- @tv_2 bind tv_2 ([8])
      refine J.block ?_
      refine J.ix sl62 (SeeS.row (E := 68) (by with_reducible repeat (first | exact Pick.here | apply Pick.there))) (by omega) (edits_get he) fun gb go hkt38 => ?_ -- @t38 ix t22 (tx.tail.headD undef)
      refine J.op fa68_0 ?_
      refine J.op (R.ldK0 o3 (hkt38)) ?_ -- @t40 vS (Instr.loadAt 3 t39)
      refine J.opD R.eql (fun ht41 => ?_) (fun ht41 => ?_) -- @t41 binS .eql 3 (.tmp 40) (.const (.int .i64 0)) t40 (.int .i64 0)
      · skip
        refine J.bindJ (fun vs H2 => vs = [.int .i64 ((kept ((editsOf a b).take (i + 1)) : Nat) : Int)] ∧ H2 = [Ent.row (.slice xa xn xc) 9 (msgs b) 89, Ent.row (.slice oa on oc) 3 (edits (editsOf a b)) 68]) ?_ ?_ -- @tv_1
        · skip
          refine J.iteT ?_
          refine J.op (R.add64 (by omega)) ?_ -- @t43 binS .add 3 (.tmp 42) (.const (.int .i64 1)) (tx.headD undef) (.int .i64 1)
          -- @join[t43]
          exact J.done ⟨by rw [hkt, if_pos ht41]; rfl, rfl⟩
        · rintro vs H1 ⟨rfl, rfl⟩
          try simp only [List.headD_cons, List.tail_cons]
          refine J.done ?_ -- then tv_2 = [(tv_1.headD undef)]
          refine J.op (R.add64 (by omega)) ?_ -- @t35 binS .add 3 (.tmp 34) (.const (.int .i64 1)) (tx.tail.headD undef) (.int .i64 1)
          -- @again[(tv_2.headDundef),t35]
          exact J.done ⟨i + 1, by omega, rfl, Imp.refl _, by omega⟩
      · skip
        refine J.bindJ (fun vs H2 => vs = [.int .i64 ((kept ((editsOf a b).take (i + 1)) : Nat) : Int)] ∧ H2 = [Ent.row (.slice xa xn xc) 9 (msgs b) 89, Ent.row (.slice oa on oc) 3 (edits (editsOf a b)) 68]) ?_ ?_ -- @tv_1
        · skip
          refine J.iteF ?_
          -- @join[(tx.headDundef)]
          exact J.done ⟨by rw [hkt, if_neg ht41]; rfl, rfl⟩
        · rintro vs H1 ⟨rfl, rfl⟩
          try simp only [List.headD_cons, List.tail_cons]
          refine J.done ?_ -- then tv_2 = [(tv_1.headD undef)]
          refine J.op (R.add64 (by omega)) ?_ -- @t35 binS .add 3 (.tmp 34) (.const (.int .i64 1)) (tx.tail.headD undef) (.int .i64 1)
          -- @again[(tv_2.headDundef),t35]
          exact J.done ⟨i + 1, by omega, rfl, Imp.refl _, by omega⟩
    · skip
      refine J.iteF ?_
      refine J.done ⟨fun _ => ?_, fun h => absurd rfl h⟩ -- exit [(tx.headD undef)]
      obtain rfl : i = (editsOf a b).length := by omega
      rw [List.take_length, hE.1]
      refine J.callE en28 (s28 _ _ _ _ _ _ a b (by omega) (by omega)) rfl (fun _ _ hs => ⟨hA _ _ _ hs, hB _ _ _ hs⟩) ?_
      rw [if_neg (by omega)] -- @t46 callS (.func (.func 28) #[] #[]) [a0, a1]
      refine J.bindB (True) ?_ (fun hbtv_4 => ?_) (fun hbtv_4 => ?_) -- @tv_4
      · skip
        refine J.gopT rfl ?_
        refine J.op R.pure ?_
        refine J.gopT rfl ?_
        refine J.op R.pure ?_
        refine J.gopT rfl ?_
        refine J.callE en36 (s36 (.slice xa xn xc) (.slice a2 n2 c2) b b) rfl (fun _ _ hs => ⟨SeeS.row (E := 89) (by with_reducible repeat (first | exact Pick.here | apply Pick.there)) _ _ hs, hB _ _ _ hs⟩) ?_
        rw [show sameB b b = true by simp [sameB]] -- @t51 callS (.func (.func 36) #[] #[]) [t49, t50]
        refine J.op R.pickT ?_ -- @t52 pickS t29 t51 (.bool false)
        refine J.gopT rfl ?_
        refine J.op R.pure ?_
        refine J.gopT rfl ?_
        refine J.op R.pure ?_
        refine J.gopT rfl ?_
        refine J.opDT R.eql (by rfl) ?_ -- @t56
        refine J.op R.pickT ?_ -- @t57 pickS t52 t56 (.bool false)
        refine J.gopT rfl ?_
        refine J.op R.pure ?_
        refine J.gopT rfl ?_
        refine J.op R.pure ?_
        refine J.gopT rfl ?_
        refine J.op (R.lenN sl57 (by first | exact SeeS.row (by with_reducible repeat (first | exact Pick.here | apply Pick.there)) | apply_assumption) (by first | exact ints_len | exact bools_len | exact msgs_len | exact trows_len | exact edits_len | rfl)) ?_ -- @t61 bltS .len #[57] 3 #[false] [t60]
        refine J.gopT rfl ?_
        refine J.opDT R.leq (by omega) ?_ -- @t62
        refine J.op R.pickT ?_ -- @t63 pickS t57 t62 (.bool false)
        refine J.gopT rfl ?_
        refine J.op R.pure ?_
        refine J.gopT rfl ?_
        refine J.op R.pure ?_
        refine J.gopT rfl ?_
        refine J.op (R.lenN sl57 (by first | exact SeeS.row (by with_reducible repeat (first | exact Pick.here | apply Pick.there)) | apply_assumption) (by first | exact ints_len | exact bools_len | exact msgs_len | exact trows_len | exact edits_len | rfl)) ?_ -- @t67 bltS .len #[57] 3 #[false] [t66]
        refine J.gopT rfl ?_
        refine J.opDT R.leq (by omega) ?_ -- @t68
        refine J.op R.pickT ?_ -- @t69 pickS t63 t68 (.bool false)
        refine J.gopT rfl ?_
        refine J.op R.pure ?_
        refine J.gopT rfl ?_
        refine J.op (R.lenN sl62 (SeeS.row (E := 68) (by with_reducible repeat (first | exact Pick.here | apply Pick.there))) edits_len) ?_ -- @t72 bltS .len #[62] 3 #[false] [t71]
        refine J.gopT rfl ?_
        refine J.op R.pure ?_
        refine J.gopT rfl ?_
        refine J.op (R.lenN sl57 (by first | exact SeeS.row (by with_reducible repeat (first | exact Pick.here | apply Pick.there)) | apply_assumption) (by first | exact ints_len | exact bools_len | exact msgs_len | exact trows_len | exact edits_len | rfl)) ?_ -- @t74 bltS .len #[57] 3 #[false] [t73]
        refine J.gopT rfl ?_
        refine J.op R.pure ?_
        refine J.gopT rfl ?_
        refine J.op (R.lenN sl57 (by first | exact SeeS.row (by with_reducible repeat (first | exact Pick.here | apply Pick.there)) | apply_assumption) (by first | exact ints_len | exact bools_len | exact msgs_len | exact trows_len | exact edits_len | rfl)) ?_ -- @t76 bltS .len #[57] 3 #[false] [t75]
        refine J.gopT rfl ?_
        refine J.op (R.add64 (by omega)) ?_ -- @t77 binS .add 3 (.tmp 74) (.tmp 76) t74 t76
        refine J.gopT rfl ?_
        refine J.op R.pure ?_
        refine J.gopT rfl ?_
        refine J.op (R.sub64 (by omega)) ?_ -- @t79 binS .sub 3 (.tmp 77) (.tmp 78) t77 t78
        refine J.gopT rfl ?_
        refine J.opDT R.eql (by omega) ?_ -- @t80
        refine J.op R.pickT ?_ -- @t81 pickS t69 t80 (.bool false)
        refine J.gopT rfl ?_
        refine J.op R.pure ?_
        refine J.gopT rfl ?_
        refine J.op R.pure ?_
        refine J.gopT rfl ?_
        refine J.callE en28 (s28 _ _ _ _ _ _ b a (by omega) (by omega)) rfl (fun _ _ hs => ⟨hB _ _ _ hs, hA _ _ _ hs⟩) ?_
        rw [if_neg (by omega)] -- @t85 callS (.func (.func 28) #[] #[]) [t83, t84]
        refine J.gopT rfl ?_
        refine J.op R.pure ?_
        refine J.gopT rfl ?_
        refine J.opDT R.eql (by rw [lcs_comm]) ?_ -- @t87
        refine J.op R.pickT ?_ -- @t88 pickS t81 t87 (.bool false)
        refine J.gopT rfl ?_
        refine J.op R.pure ?_
        refine J.gopT rfl ?_
        refine J.op R.pure ?_
        refine J.gopT rfl ?_
        refine J.callE en28 (s28 _ _ _ _ _ _ a a (by omega) (by omega)) rfl (fun _ _ hs => ⟨hA _ _ _ hs, hA _ _ _ hs⟩) ?_
        rw [if_neg (by omega)] -- @t92 callS (.func (.func 28) #[] #[]) [t90, t91]
        refine J.gopT rfl ?_
        refine J.op R.pure ?_
        refine J.gopT rfl ?_
        refine J.op (R.lenN sl57 (by first | exact SeeS.row (by with_reducible repeat (first | exact Pick.here | apply Pick.there)) | apply_assumption) (by first | exact ints_len | exact bools_len | exact msgs_len | exact trows_len | exact edits_len | rfl)) ?_ -- @t94 bltS .len #[57] 3 #[false] [t93]
        refine J.gopT rfl ?_
        refine J.opDT R.eql (by rw [lcs_self]) ?_ -- @t95
        refine J.op R.pickT ?_ -- @t96 pickS t88 t95 (.bool false)
        refine J.gopT rfl ?_
        refine J.callE en27 (s27) rfl (fun _ _ _ => trivial) ?_ -- @t98 callS (.func (.func 27) #[] #[]) []
        refine J.op R.pickT ?_ -- @t99 pickS t96 t98 (.bool false)
        exact J.done ⟨rfl, by simp [*], rfl⟩ -- @leaf[t99]
      · skip
        -- @ret[(tv_4.headDundef)]
        exact J.done (RetQ.e1 (by first | rfl | (simp [*]; done) | (simp_all []; done) | skip))
      · exact absurd trivial hbtv_4
end Go.Proofs.Ytllchkmggfcdgaa
