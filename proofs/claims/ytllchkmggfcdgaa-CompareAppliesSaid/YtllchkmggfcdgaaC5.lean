/-
  Contracts of functions.
-/
import Derived.Test.YtllchkmggfcdgaaTerms
import Derived.Test.YtllchkmggfcdgaaTab
import Derived.Test.YtllchkmggfcdgaaC2
set_option maxRecDepth 100000
set_option linter.unusedVariables false
set_option linter.unusedSimpArgs false
namespace Go.Proofs.Ytllchkmggfcdgaa
open Go Go.RowKit Fw
/-- damper/damperref38.Apply -/
theorem s35 (va vb vl : Value) (a b : List Msg) (l : List Edit) (ha : a.length ≤ 310) (hb : b.length ≤ 310) :
    FnT Try.prog 35 [va, vb, vl] (fun w => RdS w va 9 (msgs a) ∧ RdS w vb 9 (msgs b) ∧ RdS w vl 3 (edits l)) [] (fun v es => ∃ oa on oc, v = .tuple #[.slice oa on oc, .bool (applyR a b l).2] ∧ es = [Ent.row (.slice oa on oc) 9 (msgs (applyR a b l).1) 89]) := by
  refine fn_of_J (cx := cx35) hmix Try.func35 (by kernel_rfl) (eq35 _ _ _) fun w hw => ?_
  have hA : ∀ H, SeeS ⟨Try.prog, w, footOf []⟩ H va 9 (msgs a) := fun H => SeeS.ofW0 hw.1 msgs_ne
  have hB : ∀ H, SeeS ⟨Try.prog, w, footOf []⟩ H vb 9 (msgs b) := fun H => SeeS.ofW0 hw.2.1 msgs_ne
  have hL : ∀ H, SeeS ⟨Try.prog, w, footOf []⟩ H vl 3 (edits l) := fun H => SeeS.ofW0 hw.2.2 edits_ne
  have hm := hw.2.2.le
  simp only [edits_len, maxLen] at hm
  refine J.bind ?_ -- @tv_4 bind tv_4 ([6, 7, 8, 10, 9])
  refine J.block ?_
  -- @tx loop [(.slice none 0 0), (.bool false), (.slice none 0 0), (.int .i64 0), (.int .i64 0), (.int .i64 0)]
  refine J.nilRow (sz := 9) (E := 89) ?_
  refine J.loop (α := Nat × Nat × Nat × List Msg × Option Addr × Nat × Nat) (fun (j, i, k, out, _) => j ≤ l.length ∧ i ≤ a.length ∧ k ≤ b.length ∧ out.length = k ∧ applyE a b (l.drop j) i k out = applyE a b l 0 0 []) (fun (j, i, k, _, oa, on, oc) => [.slice none 0 0, .bool false, .slice oa on oc, .int .i64 k, .int .i64 i, .int .i64 j])
    (fun (_, _, _, out, oa, on, oc) => [Ent.row (.slice oa on oc) 9 (msgs out) 89]) (fun (j, _) => l.length - j) (0, 0, 0, [], none, 0, 0) ⟨Nat.zero_le _, Nat.zero_le _, Nat.zero_le _, rfl, rfl⟩ rfl (Imp.refl _) ?_
  rintro ⟨j, i, k, out, oa, on, oc⟩ ⟨hj, hi, hk, ho, hap0⟩
  dsimp only at hj hi hk ho hap0 ⊢
  try simp only [List.headD_cons, List.tail_cons]
  refine J.op (R.lenN sl60 (hL _) edits_len) ?_ -- @t15 bltS .len #[60] 3 #[false] [a2]
  refine J.opD R.lss (fun ht16 => ?_) (fun ht16 => ?_) -- @t16 binS .lss 3 (.tmp 13) (.tmp 15) (tx.tail.tail.tail.tail.tail.headD undef) t15
  · skip
    refine J.iteT ?_
    refine J.bind ?_ -- @tv_3 bind tv_3 ([6, 7, 8, 10, 9])
    refine J.block ?_
    obtain ⟨e, he⟩ := get_ex (l := l) (i := j) (by omega)
    refine J.ixW sl60 hL (by omega) (edits_get he) fun gb go hkt21 => ?_ -- @t21 ix a2 (tx.tail.tail.tail.tail.tail.headD undef)
    refine J.op (R.ldKA ag67 (hkt21 _) rfl) ?_ -- @t22 vS (Instr.loadAt 67 t21)
    refine J.alloc z67 fun bt12 => ?_
    refine J.stW sz67 (by with_reducible repeat (first | exact Pick.here | apply Pick.there)) rfl rfl rfl ?_ -- @tu uS (Instr.storeAt 67 t12 t22)
    refine J.bindB (¬ fitsE a b e i k) ?_ (fun hbtv => ?_) (fun hbtv => ?_) -- @tv
    · skip
      refine J.draw ?_
      refine J.op fa67_0 ?_
      refine J.op (R.ld o3 (by with_reducible repeat (first | exact Pick.here | apply Pick.there)) rfl) ?_ -- @t24 vS (Instr.loadAt 3 t23)
      refine J.opD R.lss (fun ht25 => ?_) (fun ht25 => ?_) -- @t25 binS .lss 3 (.tmp 24) (.const (.int .i64 0)) t24 (.int .i64 0)
      · skip
        refine J.gopF rfl ?_
        refine J.gopF rfl ?_
        refine J.gopF rfl ?_
        refine J.op R.pickT ?_ -- @t30 pickS t25 (.bool true) t29
        refine J.gopF rfl ?_
        refine J.gopF rfl ?_
        refine J.gopF rfl ?_
        refine J.gopF rfl ?_
        refine J.op R.pickT ?_ -- @t36 pickS t30 (.bool true) t35
        refine J.gopF rfl ?_
        refine J.gopF rfl ?_
        refine J.gopF rfl ?_
        refine J.gopF rfl ?_
        refine J.op R.pickT ?_ -- @t42 pickS t36 (.bool true) t41
        refine J.gopF rfl ?_
        refine J.gopF rfl ?_
        refine J.gopF rfl ?_
        refine J.gopF rfl ?_
        refine J.gopF rfl ?_
        refine J.gopF rfl ?_
        refine J.gopF rfl ?_
        refine J.gopF rfl ?_
        refine J.gopF rfl ?_
        refine J.op R.pickT ?_ -- @t53 pickS t42 (.bool true) t52
        refine J.gopF rfl ?_
        refine J.gopF rfl ?_
        refine J.gopF rfl ?_
        refine J.gopF rfl ?_
        refine J.gopF rfl ?_
        refine J.gopF rfl ?_
        refine J.gopF rfl ?_
        refine J.gopF rfl ?_
        refine J.gopF rfl ?_
        refine J.op R.pickT ?_ -- @t64 pickS t53 (.bool true) t63
        refine J.gopF rfl ?_
        refine J.gopF rfl ?_
        refine J.gopF rfl ?_
        refine J.gopF rfl ?_
        refine J.gopF rfl ?_
        refine J.gopF rfl ?_
        refine J.gopF rfl ?_
        refine J.gopF rfl ?_
        refine J.gopF rfl ?_
        refine J.gopF rfl ?_
        refine J.gopF rfl ?_
        refine J.gopF rfl ?_
        refine J.gopF rfl ?_
        refine J.gopF rfl ?_
        refine J.op R.pickT ?_ -- @t80 pickS t64 (.bool true) t79
        first
          | exact J.done ⟨rfl, by simp only [List.cons.injEq, Value.bool.injEq, and_true]; symm; rw [decide_eq_true_iff]; intro h; obtain ⟨h1, h2, h⟩ := h; rcases h with ⟨h3, h4, h5, _⟩ | ⟨h3, h4⟩ | ⟨h3, h4⟩ <;> omega, rfl⟩
          | exact J.done ⟨rfl, by simp only [List.cons.injEq, Value.bool.injEq, and_true]; symm; rw [decide_eq_false_iff_not]; intro h; exact h ⟨by omega, by omega, by omega⟩, rfl⟩
          | exact J.done ⟨rfl, by simp only [List.cons.injEq, Value.bool.injEq, and_true]; exact decide_eq_decide.2 (apply_leaf hx hy (by omega) (by omega) (by omega) (by omega) (by omega)), rfl⟩ -- @leaf[t80]
      · skip
        refine J.gopT rfl ?_
        refine J.op fa67_0 ?_
        refine J.gopT rfl ?_
        refine J.op (R.ld o3 (by with_reducible repeat (first | exact Pick.here | apply Pick.there)) rfl) ?_ -- @t28 vS (Instr.loadAt 3 t27)
        refine J.gopT rfl ?_
        refine J.opD R.gtr (fun ht29 => ?_) (fun ht29 => ?_) -- @t29 binS .gtr 3 (.tmp 28) (.const (.int .i64 2)) t28 (.int .i64 2)
        · skip
          refine J.op R.pickF ?_ -- @t30 pickS t25 (.bool true) t29
          refine J.gopF rfl ?_
          refine J.gopF rfl ?_
          refine J.gopF rfl ?_
          refine J.gopF rfl ?_
          refine J.op R.pickT ?_ -- @t36 pickS t30 (.bool true) t35
          refine J.gopF rfl ?_
          refine J.gopF rfl ?_
          refine J.gopF rfl ?_
          refine J.gopF rfl ?_
          refine J.op R.pickT ?_ -- @t42 pickS t36 (.bool true) t41
          refine J.gopF rfl ?_
          refine J.gopF rfl ?_
          refine J.gopF rfl ?_
          refine J.gopF rfl ?_
          refine J.gopF rfl ?_
          refine J.gopF rfl ?_
          refine J.gopF rfl ?_
          refine J.gopF rfl ?_
          refine J.gopF rfl ?_
          refine J.op R.pickT ?_ -- @t53 pickS t42 (.bool true) t52
          refine J.gopF rfl ?_
          refine J.gopF rfl ?_
          refine J.gopF rfl ?_
          refine J.gopF rfl ?_
          refine J.gopF rfl ?_
          refine J.gopF rfl ?_
          refine J.gopF rfl ?_
          refine J.gopF rfl ?_
          refine J.gopF rfl ?_
          refine J.op R.pickT ?_ -- @t64 pickS t53 (.bool true) t63
          refine J.gopF rfl ?_
          refine J.gopF rfl ?_
          refine J.gopF rfl ?_
          refine J.gopF rfl ?_
          refine J.gopF rfl ?_
          refine J.gopF rfl ?_
          refine J.gopF rfl ?_
          refine J.gopF rfl ?_
          refine J.gopF rfl ?_
          refine J.gopF rfl ?_
          refine J.gopF rfl ?_
          refine J.gopF rfl ?_
          refine J.gopF rfl ?_
          refine J.gopF rfl ?_
          refine J.op R.pickT ?_ -- @t80 pickS t64 (.bool true) t79
          first
            | exact J.done ⟨rfl, by simp only [List.cons.injEq, Value.bool.injEq, and_true]; symm; rw [decide_eq_true_iff]; intro h; obtain ⟨h1, h2, h⟩ := h; rcases h with ⟨h3, h4, h5, _⟩ | ⟨h3, h4⟩ | ⟨h3, h4⟩ <;> omega, rfl⟩
            | exact J.done ⟨rfl, by simp only [List.cons.injEq, Value.bool.injEq, and_true]; symm; rw [decide_eq_false_iff_not]; intro h; exact h ⟨by omega, by omega, by omega⟩, rfl⟩
            | exact J.done ⟨rfl, by simp only [List.cons.injEq, Value.bool.injEq, and_true]; exact decide_eq_decide.2 (apply_leaf hx hy (by omega) (by omega) (by omega) (by omega) (by omega)), rfl⟩ -- @leaf[t80]
        · skip
          refine J.op R.pickF ?_ -- @t30 pickS t25 (.bool true) t29
          refine J.gopT rfl ?_
          refine J.op fa67_1 ?_
          refine J.gopT rfl ?_
          refine J.op (R.ld o3 (by with_reducible repeat (first | exact Pick.here | apply Pick.there)) rfl) ?_ -- @t33 vS (Instr.loadAt 3 t32)
          refine J.gopT rfl ?_
          refine J.op R.pure ?_
          refine J.gopT rfl ?_
          refine J.opD R.neq (fun ht35 => ?_) (fun ht35 => ?_) -- @t35 binS .neq 3 (.tmp 33) (.tmp 34) t33 t34
          · skip
            refine J.op R.pickF ?_ -- @t36 pickS t30 (.bool true) t35
            refine J.gopF rfl ?_
            refine J.gopF rfl ?_
            refine J.gopF rfl ?_
            refine J.gopF rfl ?_
            refine J.op R.pickT ?_ -- @t42 pickS t36 (.bool true) t41
            refine J.gopF rfl ?_
            refine J.gopF rfl ?_
            refine J.gopF rfl ?_
            refine J.gopF rfl ?_
            refine J.gopF rfl ?_
            refine J.gopF rfl ?_
            refine J.gopF rfl ?_
            refine J.gopF rfl ?_
            refine J.gopF rfl ?_
            refine J.op R.pickT ?_ -- @t53 pickS t42 (.bool true) t52
            refine J.gopF rfl ?_
            refine J.gopF rfl ?_
            refine J.gopF rfl ?_
            refine J.gopF rfl ?_
            refine J.gopF rfl ?_
            refine J.gopF rfl ?_
            refine J.gopF rfl ?_
            refine J.gopF rfl ?_
            refine J.gopF rfl ?_
            refine J.op R.pickT ?_ -- @t64 pickS t53 (.bool true) t63
            refine J.gopF rfl ?_
            refine J.gopF rfl ?_
            refine J.gopF rfl ?_
            refine J.gopF rfl ?_
            refine J.gopF rfl ?_
            refine J.gopF rfl ?_
            refine J.gopF rfl ?_
            refine J.gopF rfl ?_
            refine J.gopF rfl ?_
            refine J.gopF rfl ?_
            refine J.gopF rfl ?_
            refine J.gopF rfl ?_
            refine J.gopF rfl ?_
            refine J.gopF rfl ?_
            refine J.op R.pickT ?_ -- @t80 pickS t64 (.bool true) t79
            first
              | exact J.done ⟨rfl, by simp only [List.cons.injEq, Value.bool.injEq, and_true]; symm; rw [decide_eq_true_iff]; intro h; obtain ⟨h1, h2, h⟩ := h; rcases h with ⟨h3, h4, h5, _⟩ | ⟨h3, h4⟩ | ⟨h3, h4⟩ <;> omega, rfl⟩
              | exact J.done ⟨rfl, by simp only [List.cons.injEq, Value.bool.injEq, and_true]; symm; rw [decide_eq_false_iff_not]; intro h; exact h ⟨by omega, by omega, by omega⟩, rfl⟩
              | exact J.done ⟨rfl, by simp only [List.cons.injEq, Value.bool.injEq, and_true]; exact decide_eq_decide.2 (apply_leaf hx hy (by omega) (by omega) (by omega) (by omega) (by omega)), rfl⟩ -- @leaf[t80]
          · skip
            refine J.op R.pickF ?_ -- @t36 pickS t30 (.bool true) t35
            refine J.gopT rfl ?_
            refine J.op fa67_2 ?_
            refine J.gopT rfl ?_
            refine J.op (R.ld o3 (by with_reducible repeat (first | exact Pick.here | apply Pick.there)) rfl) ?_ -- @t39 vS (Instr.loadAt 3 t38)
            refine J.gopT rfl ?_
            refine J.op R.pure ?_
            refine J.gopT rfl ?_
            refine J.opD R.neq (fun ht41 => ?_) (fun ht41 => ?_) -- @t41 binS .neq 3 (.tmp 39) (.tmp 40) t39 t40
            · skip
              refine J.op R.pickF ?_ -- @t42 pickS t36 (.bool true) t41
              refine J.gopF rfl ?_
              refine J.gopF rfl ?_
              refine J.gopF rfl ?_
              refine J.gopF rfl ?_
              refine J.gopF rfl ?_
              refine J.gopF rfl ?_
              refine J.gopF rfl ?_
              refine J.gopF rfl ?_
              refine J.gopF rfl ?_
              refine J.op R.pickT ?_ -- @t53 pickS t42 (.bool true) t52
              refine J.gopF rfl ?_
              refine J.gopF rfl ?_
              refine J.gopF rfl ?_
              refine J.gopF rfl ?_
              refine J.gopF rfl ?_
              refine J.gopF rfl ?_
              refine J.gopF rfl ?_
              refine J.gopF rfl ?_
              refine J.gopF rfl ?_
              refine J.op R.pickT ?_ -- @t64 pickS t53 (.bool true) t63
              refine J.gopF rfl ?_
              refine J.gopF rfl ?_
              refine J.gopF rfl ?_
              refine J.gopF rfl ?_
              refine J.gopF rfl ?_
              refine J.gopF rfl ?_
              refine J.gopF rfl ?_
              refine J.gopF rfl ?_
              refine J.gopF rfl ?_
              refine J.gopF rfl ?_
              refine J.gopF rfl ?_
              refine J.gopF rfl ?_
              refine J.gopF rfl ?_
              refine J.gopF rfl ?_
              refine J.op R.pickT ?_ -- @t80 pickS t64 (.bool true) t79
              first
                | exact J.done ⟨rfl, by simp only [List.cons.injEq, Value.bool.injEq, and_true]; symm; rw [decide_eq_true_iff]; intro h; obtain ⟨h1, h2, h⟩ := h; rcases h with ⟨h3, h4, h5, _⟩ | ⟨h3, h4⟩ | ⟨h3, h4⟩ <;> omega, rfl⟩
                | exact J.done ⟨rfl, by simp only [List.cons.injEq, Value.bool.injEq, and_true]; symm; rw [decide_eq_false_iff_not]; intro h; exact h ⟨by omega, by omega, by omega⟩, rfl⟩
                | exact J.done ⟨rfl, by simp only [List.cons.injEq, Value.bool.injEq, and_true]; exact decide_eq_decide.2 (apply_leaf hx hy (by omega) (by omega) (by omega) (by omega) (by omega)), rfl⟩ -- @leaf[t80]
            · skip
              refine J.op R.pickF ?_ -- @t42 pickS t36 (.bool true) t41
              refine J.gopT rfl ?_
              refine J.op fa67_0 ?_
              refine J.gopT rfl ?_
              refine J.op (R.ld o3 (by with_reducible repeat (first | exact Pick.here | apply Pick.there)) rfl) ?_ -- @t45 vS (Instr.loadAt 3 t44)
              refine J.gopT rfl ?_
              refine J.opD R.neq (fun ht46 => ?_) (fun ht46 => ?_) -- @t46 binS .neq 3 (.tmp 45) (.const (.int .i64 2)) t45 (.int .i64 2)
              · skip
                refine J.gopT rfl ?_
                refine J.op R.pure ?_
                refine J.gopT rfl ?_
                refine J.op R.pure ?_
                refine J.gopT rfl ?_
                refine J.op R.pure ?_
                refine J.gopT rfl ?_
                refine J.op (R.lenN sl57 (by first | exact SeeS.row (by with_reducible repeat (first | exact Pick.here | apply Pick.there)) | apply_assumption) (by first | exact ints_len | exact bools_len | exact msgs_len | exact trows_len | exact edits_len | rfl)) ?_ -- @t50 bltS .len #[57] 3 #[false] [t49]
                refine J.gopT rfl ?_
                refine J.opD R.geq (fun ht51 => ?_) (fun ht51 => ?_) -- @t51 binS .geq 3 (.tmp 48) (.tmp 50) t48 t50
                · skip
                  refine J.gopT rfl ?_
                  refine J.op R.pickT ?_ -- @t52 pickS t47 t51 (.bool false)
                  refine J.op R.pickF ?_ -- @t53 pickS t42 (.bool true) t52
                  refine J.gopF rfl ?_
                  refine J.gopF rfl ?_
                  refine J.gopF rfl ?_
                  refine J.gopF rfl ?_
                  refine J.gopF rfl ?_
                  refine J.gopF rfl ?_
                  refine J.gopF rfl ?_
                  refine J.gopF rfl ?_
                  refine J.gopF rfl ?_
                  refine J.op R.pickT ?_ -- @t64 pickS t53 (.bool true) t63
                  refine J.gopF rfl ?_
                  refine J.gopF rfl ?_
                  refine J.gopF rfl ?_
                  refine J.gopF rfl ?_
                  refine J.gopF rfl ?_
                  refine J.gopF rfl ?_
                  refine J.gopF rfl ?_
                  refine J.gopF rfl ?_
                  refine J.gopF rfl ?_
                  refine J.gopF rfl ?_
                  refine J.gopF rfl ?_
                  refine J.gopF rfl ?_
                  refine J.gopF rfl ?_
                  refine J.gopF rfl ?_
                  refine J.op R.pickT ?_ -- @t80 pickS t64 (.bool true) t79
                  first
                    | exact J.done ⟨rfl, by simp only [List.cons.injEq, Value.bool.injEq, and_true]; symm; rw [decide_eq_true_iff]; intro h; obtain ⟨h1, h2, h⟩ := h; rcases h with ⟨h3, h4, h5, _⟩ | ⟨h3, h4⟩ | ⟨h3, h4⟩ <;> omega, rfl⟩
                    | exact J.done ⟨rfl, by simp only [List.cons.injEq, Value.bool.injEq, and_true]; symm; rw [decide_eq_false_iff_not]; intro h; exact h ⟨by omega, by omega, by omega⟩, rfl⟩
                    | exact J.done ⟨rfl, by simp only [List.cons.injEq, Value.bool.injEq, and_true]; exact decide_eq_decide.2 (apply_leaf hx hy (by omega) (by omega) (by omega) (by omega) (by omega)), rfl⟩ -- @leaf[t80]
                · skip
                  refine J.gopT rfl ?_
                  refine J.op R.pickT ?_ -- @t52 pickS t47 t51 (.bool false)
                  refine J.op R.pickF ?_ -- @t53 pickS t42 (.bool true) t52
                  refine J.gopT rfl ?_
                  refine J.op fa67_0 ?_
                  refine J.gopT rfl ?_
                  refine J.op (R.ld o3 (by with_reducible repeat (first | exact Pick.here | apply Pick.there)) rfl) ?_ -- @t56 vS (Instr.loadAt 3 t55)
                  refine J.gopT rfl ?_
                  refine J.opD R.neq (fun ht57 => ?_) (fun ht57 => ?_) -- @t57 binS .neq 3 (.tmp 56) (.const (.int .i64 1)) t56 (.int .i64 1)
                  · skip
                    refine J.gopT rfl ?_
                    refine J.op R.pure ?_
                    refine J.gopT rfl ?_
                    refine J.op R.pure ?_
                    refine J.gopT rfl ?_
                    refine J.op R.pure ?_
                    refine J.gopT rfl ?_
                    refine J.op (R.lenN sl57 (by first | exact SeeS.row (by with_reducible repeat (first | exact Pick.here | apply Pick.there)) | apply_assumption) (by first | exact ints_len | exact bools_len | exact msgs_len | exact trows_len | exact edits_len | rfl)) ?_ -- @t61 bltS .len #[57] 3 #[false] [t60]
                    refine J.gopT rfl ?_
                    refine J.opD R.geq (fun ht62 => ?_) (fun ht62 => ?_) -- @t62 binS .geq 3 (.tmp 59) (.tmp 61) t59 t61
                    · skip
                      refine J.gopT rfl ?_
                      refine J.op R.pickT ?_ -- @t63 pickS t58 t62 (.bool false)
                      refine J.op R.pickF ?_ -- @t64 pickS t53 (.bool true) t63
                      refine J.gopF rfl ?_
                      refine J.gopF rfl ?_
                      refine J.gopF rfl ?_
                      refine J.gopF rfl ?_
                      refine J.gopF rfl ?_
                      refine J.gopF rfl ?_
                      refine J.gopF rfl ?_
                      refine J.gopF rfl ?_
                      refine J.gopF rfl ?_
                      refine J.gopF rfl ?_
                      refine J.gopF rfl ?_
                      refine J.gopF rfl ?_
                      refine J.gopF rfl ?_
                      refine J.gopF rfl ?_
                      refine J.op R.pickT ?_ -- @t80 pickS t64 (.bool true) t79
                      first
                        | exact J.done ⟨rfl, by simp only [List.cons.injEq, Value.bool.injEq, and_true]; symm; rw [decide_eq_true_iff]; intro h; obtain ⟨h1, h2, h⟩ := h; rcases h with ⟨h3, h4, h5, _⟩ | ⟨h3, h4⟩ | ⟨h3, h4⟩ <;> omega, rfl⟩
                        | exact J.done ⟨rfl, by simp only [List.cons.injEq, Value.bool.injEq, and_true]; symm; rw [decide_eq_false_iff_not]; intro h; exact h ⟨by omega, by omega, by omega⟩, rfl⟩
                        | exact J.done ⟨rfl, by simp only [List.cons.injEq, Value.bool.injEq, and_true]; exact decide_eq_decide.2 (apply_leaf hx hy (by omega) (by omega) (by omega) (by omega) (by omega)), rfl⟩ -- @leaf[t80]
                    · skip
                      refine J.gopT rfl ?_
                      refine J.op R.pickT ?_ -- @t63 pickS t58 t62 (.bool false)
                      refine J.op R.pickF ?_ -- @t64 pickS t53 (.bool true) t63
                      refine J.gopT rfl ?_
                      refine J.op fa67_0 ?_
                      refine J.gopT rfl ?_
                      refine J.op (R.ld o3 (by with_reducible repeat (first | exact Pick.here | apply Pick.there)) rfl) ?_ -- @t67 vS (Instr.loadAt 3 t66)
                      refine J.gopT rfl ?_
                      refine J.opD R.eql (fun ht68 => ?_) (fun ht68 => ?_) -- @t68 binS .eql 3 (.tmp 67) (.const (.int .i64 0)) t67 (.int .i64 0)
                      · skip
                        refine J.gopT rfl ?_
                        refine J.op R.pure ?_
                        refine J.gopT rfl ?_
                        refine J.op R.pure ?_
                        refine J.gopT rfl ?_
                        refine J.op R.pure ?_
                        refine J.gopT rfl ?_
                        obtain ⟨x, hx⟩ := get_ex (l := a) (i := i) (by omega)
                        refine J.ixW sl57 hA (by omega) (msgs_get hx) fun gb go hkt72 => ?_ -- @t72 ix t70 t71
                        refine J.gopT rfl ?_
                        refine J.op (R.ldKA ag89 (hkt72 _) rfl) ?_ -- @t73 vS (Instr.loadAt 89 t72)
                        refine J.gopT rfl ?_
                        refine J.op R.pure ?_
                        refine J.gopT rfl ?_
                        refine J.op R.pure ?_
                        refine J.gopT rfl ?_
                        obtain ⟨y, hy⟩ := get_ex (l := b) (i := k) (by omega)
                        refine J.ixW sl57 hB (by omega) (msgs_get hy) fun gb go hkt76 => ?_ -- @t76 ix t74 t75
                        refine J.gopT rfl ?_
                        refine J.op (R.ldKA ag89 (hkt76 _) rfl) ?_ -- @t77 vS (Instr.loadAt 89 t76)
                        refine J.gopT rfl ?_
                        refine J.op (R.neA gt89 (by repeat (first | exact trivial | refine ⟨⟨_, rfl⟩, ?_⟩)) (by repeat (first | exact trivial | refine ⟨⟨_, rfl⟩, ?_⟩))) ?_ -- @t78 binS .neq 89 (.tmp 73) (.tmp 77) t73 t77
                        refine J.gopT rfl ?_
                        refine J.op R.pickT ?_ -- @t79 pickS t69 t78 (.bool false)
                        refine J.op R.pickF ?_ -- @t80 pickS t64 (.bool true) t79
                        first
                          | exact J.done ⟨rfl, by simp only [List.cons.injEq, Value.bool.injEq, and_true]; symm; rw [decide_eq_true_iff]; intro h; obtain ⟨h1, h2, h⟩ := h; rcases h with ⟨h3, h4, h5, _⟩ | ⟨h3, h4⟩ | ⟨h3, h4⟩ <;> omega, rfl⟩
                          | exact J.done ⟨rfl, by simp only [List.cons.injEq, Value.bool.injEq, and_true]; symm; rw [decide_eq_false_iff_not]; intro h; exact h ⟨by omega, by omega, by omega⟩, rfl⟩
                          | exact J.done ⟨rfl, by simp only [List.cons.injEq, Value.bool.injEq, and_true]; exact decide_eq_decide.2 (apply_leaf hx hy (by omega) (by omega) (by omega) (by omega) (by omega)), rfl⟩ -- @leaf[t80]
                      · skip
                        refine J.gopT rfl ?_
                        refine J.op R.pure ?_
                        refine J.gopF rfl ?_
                        refine J.gopF rfl ?_
                        refine J.gopF rfl ?_
                        refine J.gopF rfl ?_
                        refine J.gopF rfl ?_
                        refine J.gopF rfl ?_
                        refine J.gopF rfl ?_
                        refine J.gopF rfl ?_
                        refine J.gopF rfl ?_
                        refine J.gopT rfl ?_
                        refine J.op R.pickF ?_ -- @t79 pickS t69 t78 (.bool false)
                        refine J.op R.pickF ?_ -- @t80 pickS t64 (.bool true) t79
                        first
                          | exact J.done ⟨rfl, by simp only [List.cons.injEq, Value.bool.injEq, and_true]; symm; rw [decide_eq_true_iff]; intro h; obtain ⟨h1, h2, h⟩ := h; rcases h with ⟨h3, h4, h5, _⟩ | ⟨h3, h4⟩ | ⟨h3, h4⟩ <;> omega, rfl⟩
                          | exact J.done ⟨rfl, by simp only [List.cons.injEq, Value.bool.injEq, and_true]; symm; rw [decide_eq_false_iff_not]; intro h; exact h ⟨by omega, by omega, by omega⟩, rfl⟩
                          | exact J.done ⟨rfl, by simp only [List.cons.injEq, Value.bool.injEq, and_true]; exact decide_eq_decide.2 (apply_leaf hx hy (by omega) (by omega) (by omega) (by omega) (by omega)), rfl⟩ -- @leaf[t80]
                  · skip
                    refine J.gopT rfl ?_
                    refine J.op R.pure ?_
                    refine J.gopF rfl ?_
                    refine J.gopF rfl ?_
                    refine J.gopF rfl ?_
                    refine J.gopF rfl ?_
                    refine J.gopT rfl ?_
                    refine J.op R.pickF ?_ -- @t63 pickS t58 t62 (.bool false)
                    refine J.op R.pickF ?_ -- @t64 pickS t53 (.bool true) t63
                    refine J.gopT rfl ?_
                    refine J.op fa67_0 ?_
                    refine J.gopT rfl ?_
                    refine J.op (R.ld o3 (by with_reducible repeat (first | exact Pick.here | apply Pick.there)) rfl) ?_ -- @t67 vS (Instr.loadAt 3 t66)
                    refine J.gopT rfl ?_
                    refine J.opD R.eql (fun ht68 => ?_) (fun ht68 => ?_) -- @t68 binS .eql 3 (.tmp 67) (.const (.int .i64 0)) t67 (.int .i64 0)
                    · skip
                      refine J.gopT rfl ?_
                      refine J.op R.pure ?_
                      refine J.gopT rfl ?_
                      refine J.op R.pure ?_
                      refine J.gopT rfl ?_
                      refine J.op R.pure ?_
                      refine J.gopT rfl ?_
                      obtain ⟨x, hx⟩ := get_ex (l := a) (i := i) (by omega)
                      refine J.ixW sl57 hA (by omega) (msgs_get hx) fun gb go hkt72 => ?_ -- @t72 ix t70 t71
                      refine J.gopT rfl ?_
                      refine J.op (R.ldKA ag89 (hkt72 _) rfl) ?_ -- @t73 vS (Instr.loadAt 89 t72)
                      refine J.gopT rfl ?_
                      refine J.op R.pure ?_
                      refine J.gopT rfl ?_
                      refine J.op R.pure ?_
                      refine J.gopT rfl ?_
                      obtain ⟨y, hy⟩ := get_ex (l := b) (i := k) (by omega)
                      refine J.ixW sl57 hB (by omega) (msgs_get hy) fun gb go hkt76 => ?_ -- @t76 ix t74 t75
                      refine J.gopT rfl ?_
                      refine J.op (R.ldKA ag89 (hkt76 _) rfl) ?_ -- @t77 vS (Instr.loadAt 89 t76)
                      refine J.gopT rfl ?_
                      refine J.op (R.neA gt89 (by repeat (first | exact trivial | refine ⟨⟨_, rfl⟩, ?_⟩)) (by repeat (first | exact trivial | refine ⟨⟨_, rfl⟩, ?_⟩))) ?_ -- @t78 binS .neq 89 (.tmp 73) (.tmp 77) t73 t77
                      refine J.gopT rfl ?_
                      refine J.op R.pickT ?_ -- @t79 pickS t69 t78 (.bool false)
                      refine J.op R.pickF ?_ -- @t80 pickS t64 (.bool true) t79
                      first
                        | exact J.done ⟨rfl, by simp only [List.cons.injEq, Value.bool.injEq, and_true]; symm; rw [decide_eq_true_iff]; intro h; obtain ⟨h1, h2, h⟩ := h; rcases h with ⟨h3, h4, h5, _⟩ | ⟨h3, h4⟩ | ⟨h3, h4⟩ <;> omega, rfl⟩
                        | exact J.done ⟨rfl, by simp only [List.cons.injEq, Value.bool.injEq, and_true]; symm; rw [decide_eq_false_iff_not]; intro h; exact h ⟨by omega, by omega, by omega⟩, rfl⟩
                        | exact J.done ⟨rfl, by simp only [List.cons.injEq, Value.bool.injEq, and_true]; exact decide_eq_decide.2 (apply_leaf hx hy (by omega) (by omega) (by omega) (by omega) (by omega)), rfl⟩ -- @leaf[t80]
                    · skip
                      refine J.gopT rfl ?_
                      refine J.op R.pure ?_
                      refine J.gopF rfl ?_
                      refine J.gopF rfl ?_
                      refine J.gopF rfl ?_
                      refine J.gopF rfl ?_
                      refine J.gopF rfl ?_
                      refine J.gopF rfl ?_
                      refine J.gopF rfl ?_
                      refine J.gopF rfl ?_
                      refine J.gopF rfl ?_
                      refine J.gopT rfl ?_
                      refine J.op R.pickF ?_ -- @t79 pickS t69 t78 (.bool false)
                      refine J.op R.pickF ?_ -- @t80 pickS t64 (.bool true) t79
                      first
                        | exact J.done ⟨rfl, by simp only [List.cons.injEq, Value.bool.injEq, and_true]; symm; rw [decide_eq_true_iff]; intro h; obtain ⟨h1, h2, h⟩ := h; rcases h with ⟨h3, h4, h5, _⟩ | ⟨h3, h4⟩ | ⟨h3, h4⟩ <;> omega, rfl⟩
                        | exact J.done ⟨rfl, by simp only [List.cons.injEq, Value.bool.injEq, and_true]; symm; rw [decide_eq_false_iff_not]; intro h; exact h ⟨by omega, by omega, by omega⟩, rfl⟩
                        | exact J.done ⟨rfl, by simp only [List.cons.injEq, Value.bool.injEq, and_true]; exact decide_eq_decide.2 (apply_leaf hx hy (by omega) (by omega) (by omega) (by omega) (by omega)), rfl⟩ -- @leaf[t80]
              · skip
                refine J.gopT rfl ?_
                refine J.op R.pure ?_
                refine J.gopF rfl ?_
                refine J.gopF rfl ?_
                refine J.gopF rfl ?_
                refine J.gopF rfl ?_
                refine J.gopT rfl ?_
                refine J.op R.pickF ?_ -- @t52 pickS t47 t51 (.bool false)
                refine J.op R.pickF ?_ -- @t53 pickS t42 (.bool true) t52
                refine J.gopT rfl ?_
                refine J.op fa67_0 ?_
                refine J.gopT rfl ?_
                refine J.op (R.ld o3 (by with_reducible repeat (first | exact Pick.here | apply Pick.there)) rfl) ?_ -- @t56 vS (Instr.loadAt 3 t55)
                refine J.gopT rfl ?_
                refine J.opD R.neq (fun ht57 => ?_) (fun ht57 => ?_) -- @t57 binS .neq 3 (.tmp 56) (.const (.int .i64 1)) t56 (.int .i64 1)
                · skip
                  refine J.gopT rfl ?_
                  refine J.op R.pure ?_
                  refine J.gopT rfl ?_
                  refine J.op R.pure ?_
                  refine J.gopT rfl ?_
                  refine J.op R.pure ?_
                  refine J.gopT rfl ?_
                  refine J.op (R.lenN sl57 (by first | exact SeeS.row (by with_reducible repeat (first | exact Pick.here | apply Pick.there)) | apply_assumption) (by first | exact ints_len | exact bools_len | exact msgs_len | exact trows_len | exact edits_len | rfl)) ?_ -- @t61 bltS .len #[57] 3 #[false] [t60]
                  refine J.gopT rfl ?_
                  refine J.opD R.geq (fun ht62 => ?_) (fun ht62 => ?_) -- @t62 binS .geq 3 (.tmp 59) (.tmp 61) t59 t61
                  · skip
                    refine J.gopT rfl ?_
                    refine J.op R.pickT ?_ -- @t63 pickS t58 t62 (.bool false)
                    refine J.op R.pickF ?_ -- @t64 pickS t53 (.bool true) t63
                    refine J.gopF rfl ?_
                    refine J.gopF rfl ?_
                    refine J.gopF rfl ?_
                    refine J.gopF rfl ?_
                    refine J.gopF rfl ?_
                    refine J.gopF rfl ?_
                    refine J.gopF rfl ?_
                    refine J.gopF rfl ?_
                    refine J.gopF rfl ?_
                    refine J.gopF rfl ?_
                    refine J.gopF rfl ?_
                    refine J.gopF rfl ?_
                    refine J.gopF rfl ?_
                    refine J.gopF rfl ?_
                    refine J.op R.pickT ?_ -- @t80 pickS t64 (.bool true) t79
                    first
                      | exact J.done ⟨rfl, by simp only [List.cons.injEq, Value.bool.injEq, and_true]; symm; rw [decide_eq_true_iff]; intro h; obtain ⟨h1, h2, h⟩ := h; rcases h with ⟨h3, h4, h5, _⟩ | ⟨h3, h4⟩ | ⟨h3, h4⟩ <;> omega, rfl⟩
                      | exact J.done ⟨rfl, by simp only [List.cons.injEq, Value.bool.injEq, and_true]; symm; rw [decide_eq_false_iff_not]; intro h; exact h ⟨by omega, by omega, by omega⟩, rfl⟩
                      | exact J.done ⟨rfl, by simp only [List.cons.injEq, Value.bool.injEq, and_true]; exact decide_eq_decide.2 (apply_leaf hx hy (by omega) (by omega) (by omega) (by omega) (by omega)), rfl⟩ -- @leaf[t80]
                  · skip
                    refine J.gopT rfl ?_
                    refine J.op R.pickT ?_ -- @t63 pickS t58 t62 (.bool false)
                    refine J.op R.pickF ?_ -- @t64 pickS t53 (.bool true) t63
                    refine J.gopT rfl ?_
                    refine J.op fa67_0 ?_
                    refine J.gopT rfl ?_
                    refine J.op (R.ld o3 (by with_reducible repeat (first | exact Pick.here | apply Pick.there)) rfl) ?_ -- @t67 vS (Instr.loadAt 3 t66)
                    refine J.gopT rfl ?_
                    refine J.opD R.eql (fun ht68 => ?_) (fun ht68 => ?_) -- @t68 binS .eql 3 (.tmp 67) (.const (.int .i64 0)) t67 (.int .i64 0)
                    · skip
                      refine J.gopT rfl ?_
                      refine J.op R.pure ?_
                      refine J.gopT rfl ?_
                      refine J.op R.pure ?_
                      refine J.gopT rfl ?_
                      refine J.op R.pure ?_
                      refine J.gopT rfl ?_
                      obtain ⟨x, hx⟩ := get_ex (l := a) (i := i) (by omega)
                      refine J.ixW sl57 hA (by omega) (msgs_get hx) fun gb go hkt72 => ?_ -- @t72 ix t70 t71
                      refine J.gopT rfl ?_
                      refine J.op (R.ldKA ag89 (hkt72 _) rfl) ?_ -- @t73 vS (Instr.loadAt 89 t72)
                      refine J.gopT rfl ?_
                      refine J.op R.pure ?_
                      refine J.gopT rfl ?_
                      refine J.op R.pure ?_
                      refine J.gopT rfl ?_
                      obtain ⟨y, hy⟩ := get_ex (l := b) (i := k) (by omega)
                      refine J.ixW sl57 hB (by omega) (msgs_get hy) fun gb go hkt76 => ?_ -- @t76 ix t74 t75
                      refine J.gopT rfl ?_
                      refine J.op (R.ldKA ag89 (hkt76 _) rfl) ?_ -- @t77 vS (Instr.loadAt 89 t76)
                      refine J.gopT rfl ?_
                      refine J.op (R.neA gt89 (by repeat (first | exact trivial | refine ⟨⟨_, rfl⟩, ?_⟩)) (by repeat (first | exact trivial | refine ⟨⟨_, rfl⟩, ?_⟩))) ?_ -- @t78 binS .neq 89 (.tmp 73) (.tmp 77) t73 t77
                      refine J.gopT rfl ?_
                      refine J.op R.pickT ?_ -- @t79 pickS t69 t78 (.bool false)
                      refine J.op R.pickF ?_ -- @t80 pickS t64 (.bool true) t79
                      first
                        | exact J.done ⟨rfl, by simp only [List.cons.injEq, Value.bool.injEq, and_true]; symm; rw [decide_eq_true_iff]; intro h; obtain ⟨h1, h2, h⟩ := h; rcases h with ⟨h3, h4, h5, _⟩ | ⟨h3, h4⟩ | ⟨h3, h4⟩ <;> omega, rfl⟩
                        | exact J.done ⟨rfl, by simp only [List.cons.injEq, Value.bool.injEq, and_true]; symm; rw [decide_eq_false_iff_not]; intro h; exact h ⟨by omega, by omega, by omega⟩, rfl⟩
                        | exact J.done ⟨rfl, by simp only [List.cons.injEq, Value.bool.injEq, and_true]; exact decide_eq_decide.2 (apply_leaf hx hy (by omega) (by omega) (by omega) (by omega) (by omega)), rfl⟩ -- @leaf[t80]
                    · skip
                      refine J.gopT rfl ?_
                      refine J.op R.pure ?_
                      refine J.gopF rfl ?_
                      refine J.gopF rfl ?_
                      refine J.gopF rfl ?_
                      refine J.gopF rfl ?_
                      refine J.gopF rfl ?_
                      refine J.gopF rfl ?_
                      refine J.gopF rfl ?_
                      refine J.gopF rfl ?_
                      refine J.gopF rfl ?_
                      refine J.gopT rfl ?_
                      refine J.op R.pickF ?_ -- @t79 pickS t69 t78 (.bool false)
                      refine J.op R.pickF ?_ -- @t80 pickS t64 (.bool true) t79
                      first
                        | exact J.done ⟨rfl, by simp only [List.cons.injEq, Value.bool.injEq, and_true]; symm; rw [decide_eq_true_iff]; intro h; obtain ⟨h1, h2, h⟩ := h; rcases h with ⟨h3, h4, h5, _⟩ | ⟨h3, h4⟩ | ⟨h3, h4⟩ <;> omega, rfl⟩
                        | exact J.done ⟨rfl, by simp only [List.cons.injEq, Value.bool.injEq, and_true]; symm; rw [decide_eq_false_iff_not]; intro h; exact h ⟨by omega, by omega, by omega⟩, rfl⟩
                        | exact J.done ⟨rfl, by simp only [List.cons.injEq, Value.bool.injEq, and_true]; exact decide_eq_decide.2 (apply_leaf hx hy (by omega) (by omega) (by omega) (by omega) (by omega)), rfl⟩ -- @leaf[t80]
                · skip
                  refine J.gopT rfl ?_
                  refine J.op R.pure ?_
                  refine J.gopF rfl ?_
                  refine J.gopF rfl ?_
                  refine J.gopF rfl ?_
                  refine J.gopF rfl ?_
                  refine J.gopT rfl ?_
                  refine J.op R.pickF ?_ -- @t63 pickS t58 t62 (.bool false)
                  refine J.op R.pickF ?_ -- @t64 pickS t53 (.bool true) t63
                  refine J.gopT rfl ?_
                  refine J.op fa67_0 ?_
                  refine J.gopT rfl ?_
                  refine J.op (R.ld o3 (by with_reducible repeat (first | exact Pick.here | apply Pick.there)) rfl) ?_ -- @t67 vS (Instr.loadAt 3 t66)
                  refine J.gopT rfl ?_
                  refine J.opD R.eql (fun ht68 => ?_) (fun ht68 => ?_) -- @t68 binS .eql 3 (.tmp 67) (.const (.int .i64 0)) t67 (.int .i64 0)
                  · skip
                    refine J.gopT rfl ?_
                    refine J.op R.pure ?_
                    refine J.gopT rfl ?_
                    refine J.op R.pure ?_
                    refine J.gopT rfl ?_
                    refine J.op R.pure ?_
                    refine J.gopT rfl ?_
                    obtain ⟨x, hx⟩ := get_ex (l := a) (i := i) (by omega)
                    refine J.ixW sl57 hA (by omega) (msgs_get hx) fun gb go hkt72 => ?_ -- @t72 ix t70 t71
                    refine J.gopT rfl ?_
                    refine J.op (R.ldKA ag89 (hkt72 _) rfl) ?_ -- @t73 vS (Instr.loadAt 89 t72)
                    refine J.gopT rfl ?_
                    refine J.op R.pure ?_
                    refine J.gopT rfl ?_
                    refine J.op R.pure ?_
                    refine J.gopT rfl ?_
                    obtain ⟨y, hy⟩ := get_ex (l := b) (i := k) (by omega)
                    refine J.ixW sl57 hB (by omega) (msgs_get hy) fun gb go hkt76 => ?_ -- @t76 ix t74 t75
                    refine J.gopT rfl ?_
                    refine J.op (R.ldKA ag89 (hkt76 _) rfl) ?_ -- @t77 vS (Instr.loadAt 89 t76)
                    refine J.gopT rfl ?_
                    refine J.op (R.neA gt89 (by repeat (first | exact trivial | refine ⟨⟨_, rfl⟩, ?_⟩)) (by repeat (first | exact trivial | refine ⟨⟨_, rfl⟩, ?_⟩))) ?_ -- @t78 binS .neq 89 (.tmp 73) (.tmp 77) t73 t77
                    refine J.gopT rfl ?_
                    refine J.op R.pickT ?_ -- @t79 pickS t69 t78 (.bool false)
                    refine J.op R.pickF ?_ -- @t80 pickS t64 (.bool true) t79
                    first
                      | exact J.done ⟨rfl, by simp only [List.cons.injEq, Value.bool.injEq, and_true]; symm; rw [decide_eq_true_iff]; intro h; obtain ⟨h1, h2, h⟩ := h; rcases h with ⟨h3, h4, h5, _⟩ | ⟨h3, h4⟩ | ⟨h3, h4⟩ <;> omega, rfl⟩
                      | exact J.done ⟨rfl, by simp only [List.cons.injEq, Value.bool.injEq, and_true]; symm; rw [decide_eq_false_iff_not]; intro h; exact h ⟨by omega, by omega, by omega⟩, rfl⟩
                      | exact J.done ⟨rfl, by simp only [List.cons.injEq, Value.bool.injEq, and_true]; exact decide_eq_decide.2 (apply_leaf hx hy (by omega) (by omega) (by omega) (by omega) (by omega)), rfl⟩ -- @leaf[t80]
                  · skip
                    refine J.gopT rfl ?_
                    refine J.op R.pure ?_
                    refine J.gopF rfl ?_
                    refine J.gopF rfl ?_
                    refine J.gopF rfl ?_
                    refine J.gopF rfl ?_
                    refine J.gopF rfl ?_
                    refine J.gopF rfl ?_
                    refine J.gopF rfl ?_
                    refine J.gopF rfl ?_
                    refine J.gopF rfl ?_
                    refine J.gopT rfl ?_
                    refine J.op R.pickF ?_ -- @t79 pickS t69 t78 (.bool false)
                    refine J.op R.pickF ?_ -- @t80 pickS t64 (.bool true) t79
                    first
                      | exact J.done ⟨rfl, by simp only [List.cons.injEq, Value.bool.injEq, and_true]; symm; rw [decide_eq_true_iff]; intro h; obtain ⟨h1, h2, h⟩ := h; rcases h with ⟨h3, h4, h5, _⟩ | ⟨h3, h4⟩ | ⟨h3, h4⟩ <;> omega, rfl⟩
                      | exact J.done ⟨rfl, by simp only [List.cons.injEq, Value.bool.injEq, and_true]; symm; rw [decide_eq_false_iff_not]; intro h; exact h ⟨by omega, by omega, by omega⟩, rfl⟩
                      | exact J.done ⟨rfl, by simp only [List.cons.injEq, Value.bool.injEq, and_true]; exact decide_eq_decide.2 (apply_leaf hx hy (by omega) (by omega) (by omega) (by omega) (by omega)), rfl⟩ -- @leaf[t80]
    · skip
      refine J.iteT ?_
      -- @ret[(.slicenone00),(.boolfalse)]
      have hap := applyE_stop he hbtv hap0
      refine J.nilRow (sz := 9) (E := 89) ?_
      exact J.done (RetQ.t2 (es := [Ent.row (.slice none 0 0) 9 (msgs (applyR a b l).1) 89]) (by rw [hap]; exact (by (try dsimp only); repeat (first | exact Has.nil | refine Has.cons (by repeat (first | (with_reducible exact Out.here) | ((with_reducible refine Out.cells ?_); first | rfl | (simp; done)) | ((with_reducible refine Out.row ?_); first | rfl | (simp; done)) | (with_reducible apply Out.there))) ?_))) ⟨_, _, _, by rw [hap], rfl⟩)
    · skip
      refine J.iteF ?_
      refine J.op fa67_0 ?_
      have hf : fitsE a b e i k := Classical.not_not.1 hbtv
      obtain ⟨hsi, hsk⟩ := fits_step hi hk hf
      have hst := applyE_step (out := out) he hf
      rw [hap0] at hst
      refine J.op (R.ld o3 (by with_reducible repeat (first | exact Pick.here | apply Pick.there)) rfl) ?_ -- @t82 vS (Instr.loadAt 3 t81)
      refine J.opD R.neq (fun ht83 => ?_) (fun ht83 => ?_) -- @t83 binS .neq 3 (.tmp 82) (.const (.int .i64 1)) t82 (.int .i64 1)
      · skip
        refine J.bindJ (fun vs H2 => ∃ oa2 on2 oc2, vs = [.slice oa2 on2 oc2, .int .i64 ((stepK e k : Nat) : Int)] ∧ Imp ⟨Try.prog, w, footOf []⟩ H2 [Ent.cells bt12 e.cells 67, Ent.row (.slice oa2 on2 oc2) 9 (msgs (if e.op = 1 then out else out ++ b[k]?.toList)) 89]) ?_ ?_ -- @tv_1
        · skip
          refine J.iteT ?_
          obtain ⟨y, hy⟩ := get_ex (l := b) (i := k) (fits_k hf (by omega))
          refine J.ixW sl57 hB (by omega) (msgs_get hy) fun gb go hkt87 => ?_ -- @t87 ix a1 (tx.tail.tail.tail.headD undef)
          refine J.op (R.ldKA ag89 (hkt87 _) rfl) ?_ -- @t88 vS (Instr.loadAt 89 t87)
          refine J.bs (cs := y.cells) (E := 89) (fun w => by kernel_rfl) fun bt89 => ?_ -- @t89 vS (Instr.buildSlice 57 1 #[(0, t88)])
          refine J.append sl57 (by with_reducible repeat (first | exact Pick.here | apply Pick.there)) (SeeS.cells (els := [y.cells]) (by with_reducible repeat (first | exact Pick.here | apply Pick.there)) rfl (by decide) (by intro i l hi j u hj; rcases i with _ | i <;> simp at hi; subst hi; simpa using hj)) (by intro l hl; simp at hl; subst hl; exact ⟨rfl, allOne_spec rfl⟩) (by rw [msgs_len]; simp; omega) (by rw [msgs_len]; simp [maxLen]; omega) fun at90 nt90 ct90 => ?_ -- @t90 bltS .append #[57, 57] 57 #[false, false] [(tx.tail.tail.headD undef), t89]
          refine J.op (R.add64 (by omega)) ?_ -- @t92 binS .add 3 (.tmp 91) (.const (.int .i64 1)) (tx.tail.tail.tail.headD undef) (.int .i64 1)
          -- @join[t90,t92]
          refine J.done ⟨at90, nt90, ct90, by unfold stepK; rw [if_neg ht83]; rfl, ?_⟩
          rw [if_neg ht83, hy, Option.toList_some, ← msgs_app]
          exact Imp.take (by (try dsimp only); repeat (first | exact Has.nil | refine Has.cons (by repeat (first | (with_reducible exact Out.here) | ((with_reducible refine Out.cells ?_); first | rfl | (simp; done)) | ((with_reducible refine Out.row ?_); first | rfl | (simp; done)) | (with_reducible apply Out.there))) ?_))
        · rintro vs H1 ⟨oa2, on2, oc2, rfl, him⟩
          refine J.imp him ?_
          try simp only [List.headD_cons, List.tail_cons]
          refine J.op fa67_0 ?_
          refine J.op (R.ld o3 (by with_reducible repeat (first | exact Pick.here | apply Pick.there)) rfl) ?_ -- @t94 vS (Instr.loadAt 3 t93)
          refine J.opD R.neq (fun ht95 => ?_) (fun ht95 => ?_) -- @t95 binS .neq 3 (.tmp 94) (.const (.int .i64 2)) t94 (.int .i64 2)
          · skip
            refine J.bindJ (fun vs H2 => vs = [.int .i64 ((stepI e i : Nat) : Int)] ∧ H2 = [Ent.cells bt12 e.cells 67, Ent.row (.slice oa2 on2 oc2) 9 (msgs (if e.op = 1 then out else out ++ b[k]?.toList)) 89]) ?_ ?_ -- @tv_2
            · skip
              refine J.iteT ?_
              refine J.op (R.add64 (by omega)) ?_ -- @t97 binS .add 3 (.tmp 96) (.const (.int .i64 1)) (tx.tail.tail.tail.tail.headD undef) (.int .i64 1)
              -- @join[t97]
              exact J.done ⟨by unfold stepI; rw [if_neg ht95]; rfl, rfl⟩
            · rintro vs H1 ⟨rfl, rfl⟩
              try simp only [List.headD_cons, List.tail_cons]
              refine J.done ?_ -- then tv_3 = [(tx.headD undef), (tx.tail.headD undef), (tv_1.headD undef), (tv_1.tail.headD undef), (tv_2.headD undef)]
              refine J.op (R.add64 (by omega)) ?_ -- @t18 binS .add 3 (.tmp 17) (.const (.int .i64 1)) (tx.tail.tail.tail.tail.tail.headD undef) (.int .i64 1)
              -- @again[(tv_3.headDundef),(tv_3.tail.headDundef),(tv_3.tail.tail.headDundef),(tv_3.tail.tail.tail.headDundef),(tv_3.tail.tail.tail.tail.headDundef),t18]
              refine J.done ⟨(j + 1, stepI e i, stepK e k, if e.op = 1 then out else out ++ b[k]?.toList, oa2, on2, oc2), ⟨by dsimp only; omega, hsi, hsk, ?_, hst.symm⟩, rfl, Imp.take (by (try dsimp only); repeat (first | exact Has.nil | refine Has.cons (by repeat (first | (with_reducible exact Out.here) | ((with_reducible refine Out.cells ?_); first | rfl | (simp; done)) | ((with_reducible refine Out.row ?_); first | rfl | (simp; done)) | (with_reducible apply Out.there))) ?_)), by dsimp only; omega⟩
              dsimp only
              unfold stepK
              by_cases h1 : e.op = 1
              · rw [if_pos h1, if_pos h1]; exact ho
              · obtain ⟨y, hy⟩ := get_ex (l := b) (i := k) (fits_k hf h1)
                rw [if_neg h1, if_neg h1, hy]
                simp [ho]
          · skip
            refine J.bindJ (fun vs H2 => vs = [.int .i64 ((stepI e i : Nat) : Int)] ∧ H2 = [Ent.cells bt12 e.cells 67, Ent.row (.slice oa2 on2 oc2) 9 (msgs (if e.op = 1 then out else out ++ b[k]?.toList)) 89]) ?_ ?_ -- @tv_2
            · skip
              refine J.iteF ?_
              -- @join[(tx.tail.tail.tail.tail.headDundef)]
              exact J.done ⟨by unfold stepI; rw [if_pos (Classical.not_not.1 ht95)], rfl⟩
            · rintro vs H1 ⟨rfl, rfl⟩
              try simp only [List.headD_cons, List.tail_cons]
              refine J.done ?_ -- then tv_3 = [(tx.headD undef), (tx.tail.headD undef), (tv_1.headD undef), (tv_1.tail.headD undef), (tv_2.headD undef)]
              refine J.op (R.add64 (by omega)) ?_ -- @t18 binS .add 3 (.tmp 17) (.const (.int .i64 1)) (tx.tail.tail.tail.tail.tail.headD undef) (.int .i64 1)
              -- @again[(tv_3.headDundef),(tv_3.tail.headDundef),(tv_3.tail.tail.headDundef),(tv_3.tail.tail.tail.headDundef),(tv_3.tail.tail.tail.tail.headDundef),t18]
              refine J.done ⟨(j + 1, stepI e i, stepK e k, if e.op = 1 then out else out ++ b[k]?.toList, oa2, on2, oc2), ⟨by dsimp only; omega, hsi, hsk, ?_, hst.symm⟩, rfl, Imp.take (by (try dsimp only); repeat (first | exact Has.nil | refine Has.cons (by repeat (first | (with_reducible exact Out.here) | ((with_reducible refine Out.cells ?_); first | rfl | (simp; done)) | ((with_reducible refine Out.row ?_); first | rfl | (simp; done)) | (with_reducible apply Out.there))) ?_)), by dsimp only; omega⟩
              dsimp only
              unfold stepK
              by_cases h1 : e.op = 1
              · rw [if_pos h1, if_pos h1]; exact ho
              · obtain ⟨y, hy⟩ := get_ex (l := b) (i := k) (fits_k hf h1)
                rw [if_neg h1, if_neg h1, hy]
                simp [ho]
      · skip
        refine J.bindJ (fun vs H2 => ∃ oa2 on2 oc2, vs = [.slice oa2 on2 oc2, .int .i64 ((stepK e k : Nat) : Int)] ∧ Imp ⟨Try.prog, w, footOf []⟩ H2 [Ent.cells bt12 e.cells 67, Ent.row (.slice oa2 on2 oc2) 9 (msgs (if e.op = 1 then out else out ++ b[k]?.toList)) 89]) ?_ ?_ -- @tv_1
        · skip
          refine J.iteF ?_
          -- @join[(tx.tail.tail.headDundef),(tx.tail.tail.tail.headDundef)]
          have h1 : e.op = 1 := Classical.not_not.1 ht83
          refine J.done ⟨oa, on, oc, by unfold stepK; rw [if_pos h1], ?_⟩
          rw [if_pos h1]
          exact Imp.take (by (try dsimp only); repeat (first | exact Has.nil | refine Has.cons (by repeat (first | (with_reducible exact Out.here) | ((with_reducible refine Out.cells ?_); first | rfl | (simp; done)) | ((with_reducible refine Out.row ?_); first | rfl | (simp; done)) | (with_reducible apply Out.there))) ?_))
        · rintro vs H1 ⟨oa2, on2, oc2, rfl, him⟩
          refine J.imp him ?_
          try simp only [List.headD_cons, List.tail_cons]
          refine J.op fa67_0 ?_
          refine J.op (R.ld o3 (by with_reducible repeat (first | exact Pick.here | apply Pick.there)) rfl) ?_ -- @t94 vS (Instr.loadAt 3 t93)
          refine J.opD R.neq (fun ht95 => ?_) (fun ht95 => ?_) -- @t95 binS .neq 3 (.tmp 94) (.const (.int .i64 2)) t94 (.int .i64 2)
          · skip
            refine J.bindJ (fun vs H2 => vs = [.int .i64 ((stepI e i : Nat) : Int)] ∧ H2 = [Ent.cells bt12 e.cells 67, Ent.row (.slice oa2 on2 oc2) 9 (msgs (if e.op = 1 then out else out ++ b[k]?.toList)) 89]) ?_ ?_ -- @tv_2
            · skip
              refine J.iteT ?_
              refine J.op (R.add64 (by omega)) ?_ -- @t97 binS .add 3 (.tmp 96) (.const (.int .i64 1)) (tx.tail.tail.tail.tail.headD undef) (.int .i64 1)
              -- @join[t97]
              exact J.done ⟨by unfold stepI; rw [if_neg ht95]; rfl, rfl⟩
            · rintro vs H1 ⟨rfl, rfl⟩
              try simp only [List.headD_cons, List.tail_cons]
              refine J.done ?_ -- then tv_3 = [(tx.headD undef), (tx.tail.headD undef), (tv_1.headD undef), (tv_1.tail.headD undef), (tv_2.headD undef)]
              refine J.op (R.add64 (by omega)) ?_ -- @t18 binS .add 3 (.tmp 17) (.const (.int .i64 1)) (tx.tail.tail.tail.tail.tail.headD undef) (.int .i64 1)
              -- @again[(tv_3.headDundef),(tv_3.tail.headDundef),(tv_3.tail.tail.headDundef),(tv_3.tail.tail.tail.headDundef),(tv_3.tail.tail.tail.tail.headDundef),t18]
              refine J.done ⟨(j + 1, stepI e i, stepK e k, if e.op = 1 then out else out ++ b[k]?.toList, oa2, on2, oc2), ⟨by dsimp only; omega, hsi, hsk, ?_, hst.symm⟩, rfl, Imp.take (by (try dsimp only); repeat (first | exact Has.nil | refine Has.cons (by repeat (first | (with_reducible exact Out.here) | ((with_reducible refine Out.cells ?_); first | rfl | (simp; done)) | ((with_reducible refine Out.row ?_); first | rfl | (simp; done)) | (with_reducible apply Out.there))) ?_)), by dsimp only; omega⟩
              dsimp only
              unfold stepK
              by_cases h1 : e.op = 1
              · rw [if_pos h1, if_pos h1]; exact ho
              · obtain ⟨y, hy⟩ := get_ex (l := b) (i := k) (fits_k hf h1)
                rw [if_neg h1, if_neg h1, hy]
                simp [ho]
          · skip
            refine J.bindJ (fun vs H2 => vs = [.int .i64 ((stepI e i : Nat) : Int)] ∧ H2 = [Ent.cells bt12 e.cells 67, Ent.row (.slice oa2 on2 oc2) 9 (msgs (if e.op = 1 then out else out ++ b[k]?.toList)) 89]) ?_ ?_ -- @tv_2
            · skip
              refine J.iteF ?_
              -- @join[(tx.tail.tail.tail.tail.headDundef)]
              exact J.done ⟨by unfold stepI; rw [if_pos (Classical.not_not.1 ht95)], rfl⟩
            · rintro vs H1 ⟨rfl, rfl⟩
              try simp only [List.headD_cons, List.tail_cons]
              refine J.done ?_ -- then tv_3 = [(tx.headD undef), (tx.tail.headD undef), (tv_1.headD undef), (tv_1.tail.headD undef), (tv_2.headD undef)]
              refine J.op (R.add64 (by omega)) ?_ -- @t18 binS .add 3 (.tmp 17) (.const (.int .i64 1)) (tx.tail.tail.tail.tail.tail.headD undef) (.int .i64 1)
              -- @again[(tv_3.headDundef),(tv_3.tail.headDundef),(tv_3.tail.tail.headDundef),(tv_3.tail.tail.tail.headDundef),(tv_3.tail.tail.tail.tail.headDundef),t18]
              refine J.done ⟨(j + 1, stepI e i, stepK e k, if e.op = 1 then out else out ++ b[k]?.toList, oa2, on2, oc2), ⟨by dsimp only; omega, hsi, hsk, ?_, hst.symm⟩, rfl, Imp.take (by (try dsimp only); repeat (first | exact Has.nil | refine Has.cons (by repeat (first | (with_reducible exact Out.here) | ((with_reducible refine Out.cells ?_); first | rfl | (simp; done)) | ((with_reducible refine Out.row ?_); first | rfl | (simp; done)) | (with_reducible apply Out.there))) ?_)), by dsimp only; omega⟩
              dsimp only
              unfold stepK
              by_cases h1 : e.op = 1
              · rw [if_pos h1, if_pos h1]; exact ho
              · obtain ⟨y, hy⟩ := get_ex (l := b) (i := k) (fits_k hf h1)
                rw [if_neg h1, if_neg h1, hy]
                simp [ho]
  · skip
    refine J.iteF ?_
    refine J.done ⟨fun _ => ?_, fun h => absurd rfl h⟩ -- exit [(tx.headD undef), (tx.tail.headD undef), (tx.tail.tail.headD undef), (tx.tail.tail.tail.headD undef), (tx.tail.tail.tail.tail.headD undef)]
    refine J.bindB (i < a.length ∨ k < b.length) ?_ (fun hbtv_5 => ?_) (fun hbtv_5 => ?_) -- @tv_5
    · skip
      refine J.op (R.lenN sl57 (by first | exact SeeS.row (by with_reducible repeat (first | exact Pick.here | apply Pick.there)) | apply_assumption) (by first | exact ints_len | exact bools_len | exact msgs_len | exact trows_len | exact edits_len | rfl)) ?_ -- @t100 bltS .len #[57] 3 #[false] [a0]
      refine J.opD R.lss (fun ht101 => ?_) (fun ht101 => ?_) -- @t101 binS .lss 3 (.tmp 98) (.tmp 100) (tv_4.tail.tail.tail.tail.headD undef) t100
      · skip
        refine J.gopF rfl ?_
        refine J.gopF rfl ?_
        refine J.gopF rfl ?_
        refine J.gopF rfl ?_
        refine J.op R.pickT ?_ -- @t107 pickS t101 (.bool true) t106
        exact J.done ⟨rfl, congrArg (fun x => [Value.bool x]) (by simp; omega), rfl⟩ -- @leaf[t107]
      · skip
        refine J.gopT rfl ?_
        refine J.op R.pure ?_
        refine J.gopT rfl ?_
        refine J.op R.pure ?_
        refine J.gopT rfl ?_
        refine J.op (R.lenN sl57 (by first | exact SeeS.row (by with_reducible repeat (first | exact Pick.here | apply Pick.there)) | apply_assumption) (by first | exact ints_len | exact bools_len | exact msgs_len | exact trows_len | exact edits_len | rfl)) ?_ -- @t105 bltS .len #[57] 3 #[false] [t104]
        refine J.gopT rfl ?_
        refine J.op R.lss ?_ -- @t106 binS .lss 3 (.tmp 103) (.tmp 105) t103 t105
        refine J.op R.pickF ?_ -- @t107 pickS t101 (.bool true) t106
        exact J.done ⟨rfl, congrArg (fun x => [Value.bool x]) (decide_eq_decide.2 (by omega)), rfl⟩ -- @leaf[t107]#2
    · skip
      refine J.iteT ?_
      -- @ret[(.slicenone00),(.boolfalse)]#2
      have hap := applyE_end (by omega) hap0
      rw [if_pos hbtv_5] at hap
      refine J.nilRow (sz := 9) (E := 89) ?_
      exact J.done (RetQ.t2 (es := [Ent.row (.slice none 0 0) 9 (msgs (applyR a b l).1) 89]) (by rw [hap]; exact (by (try dsimp only); repeat (first | exact Has.nil | refine Has.cons (by repeat (first | (with_reducible exact Out.here) | ((with_reducible refine Out.cells ?_); first | rfl | (simp; done)) | ((with_reducible refine Out.row ?_); first | rfl | (simp; done)) | (with_reducible apply Out.there))) ?_))) ⟨_, _, _, by rw [hap], rfl⟩)
    · skip
      refine J.iteF ?_
      -- @ret[(tv_4.tail.tail.headDundef),(.booltrue)]
      have hap := applyE_end (by omega) hap0
      rw [if_neg hbtv_5] at hap
      exact J.done (RetQ.t2 (es := [Ent.row (.slice oa on oc) 9 (msgs (applyR a b l).1) 89]) (by rw [hap]; exact (by (try dsimp only); repeat (first | exact Has.nil | refine Has.cons (by repeat (first | (with_reducible exact Out.here) | ((with_reducible refine Out.cells ?_); first | rfl | (simp; done)) | ((with_reducible refine Out.row ?_); first | rfl | (simp; done)) | (with_reducible apply Out.there))) ?_))) ⟨_, _, _, by rw [hap]; rfl, rfl⟩)
end Go.Proofs.Ytllchkmggfcdgaa
