/-
  Contracts of functions.
-/
import Derived.Test.YtllchkmggfcdgaaTerms
import Derived.Test.YtllchkmggfcdgaaTab
import Derived.Test.YtllchkmggfcdgaaE1
set_option maxRecDepth 100000
set_option linter.unusedVariables false
set_option linter.unusedSimpArgs false
namespace Go.Proofs.Ytllchkmggfcdgaa
open Go Go.RowKit Fw
/-- damper/damperref38.long -/
theorem s43 (va vb : Value) (a b : List Msg) :
    FnE Try.prog 43 [va, vb] (fun w => RdS w va 9 (msgs a) ∧ RdS w vb 9 (msgs b)) (.bool (longB a b)) := by
  refine fn_of_J (cx := cx43) hmix Try.func43 (by kernel_rfl) (eq43 _ _) fun w hw => ?_
  have hA : ∀ H, SeeS ⟨Try.prog, w, footOf []⟩ H va 9 (msgs a) := fun H => SeeS.ofW0 hw.1 msgs_ne
  have hB : ∀ H, SeeS ⟨Try.prog, w, footOf []⟩ H vb 9 (msgs b) := fun H => SeeS.ofW0 hw.2 msgs_ne
  refine J.bindB (300 < a.length ∨ 300 < b.length) ?_ (fun hbtv => ?_) (fun hbtv => ?_) -- @tv
  · skip
    refine J.op (R.lenN sl57 (by first | exact SeeS.row (by with_reducible repeat (first | exact Pick.here | apply Pick.there)) | apply_assumption) (by first | exact ints_len | exact bools_len | exact msgs_len | exact trows_len | exact edits_len | rfl)) ?_ -- @t6 bltS .len #[57] 3 #[false] [a0]
    refine J.opD R.gtr (fun ht7 => ?_) (fun ht7 => ?_) -- @t7 binS .gtr 3 (.tmp 6) (.const (.int .i64 300)) t6 (.int .i64 300)
    · skip
      refine J.gopF rfl ?_
      refine J.gopF rfl ?_
      refine J.gopF rfl ?_
      refine J.op R.pickT ?_ -- @t12 pickS t7 (.bool true) t11
      exact J.done ⟨rfl, congrArg (fun x => [Value.bool x]) (by simp; omega), rfl⟩ -- @leaf[t12]
    · skip
      refine J.gopT rfl ?_
      refine J.op R.pure ?_
      refine J.gopT rfl ?_
      refine J.op (R.lenN sl57 (by first | exact SeeS.row (by with_reducible repeat (first | exact Pick.here | apply Pick.there)) | apply_assumption) (by first | exact ints_len | exact bools_len | exact msgs_len | exact trows_len | exact edits_len | rfl)) ?_ -- @t10 bltS .len #[57] 3 #[false] [t9]
      refine J.gopT rfl ?_
      refine J.op R.gtr ?_ -- @t11 binS .gtr 3 (.tmp 10) (.const (.int .i64 300)) t10 (.int .i64 300)
      refine J.op R.pickF ?_ -- @t12 pickS t7 (.bool true) t11
      exact J.done ⟨rfl, congrArg (fun x => [Value.bool x]) (decide_eq_decide.2 (by omega)), rfl⟩ -- @leaf[t12]#2
  · skip
    -- @ret[(tv.headDundef)]
    exact J.done (RetQ.e1 (by simp [longB, hbtv]))
  · skip
    -- @ret[(tv.headDundef)]#2
    exact J.done (RetQ.e1 (by unfold longB; rw [decide_eq_false hbtv]; rfl))

/-- damper/damperref38.Common -/
theorem s29 (a1 : Option Addr) (n1 c1 : Nat) (a2 : Option Addr) (n2 c2 : Nat) (a b : List Msg) (ha : a.length ≤ 310) (hb : b.length ≤ 310) :
    FnE Try.prog 29 [.slice a1 n1 c1, .slice a2 n2 c2] (fun w => RdS w (.slice a1 n1 c1) 9 (msgs a) ∧ RdS w (.slice a2 n2 c2) 9 (msgs b)) (.int .i64 (if 300 < a.length ∨ 300 < b.length then -1 else ((lcs a b : Nat) : Int))) := by
  refine fn_of_J (cx := cx29) hmix Try.func29 (by kernel_rfl) (eq29 _ _) fun w hw => ?_
  have hA : ∀ H, SeeS ⟨Try.prog, w, footOf []⟩ H (.slice a1 n1 c1) 9 (msgs a) := fun H => SeeS.ofW0 hw.1 msgs_ne
  have hB : ∀ H, SeeS ⟨Try.prog, w, footOf []⟩ H (.slice a2 n2 c2) 9 (msgs b) := fun H => SeeS.ofW0 hw.2 msgs_ne
  refine J.callE en43 (s43 _ _ a b) rfl (fun _ _ hs => ⟨hA _ _ _ hs, hB _ _ _ hs⟩) ?_ -- @t7 callS (.func (.func 43) #[] #[]) [a0, a1]
  refine J.iteB (fun hct7 => ?_) (fun hct7 => ?_) -- ite t7
  · skip
    -- @ret[(.int.i64(-1))]
    exact J.done (RetQ.e1 (by rw [if_pos (of_decide_eq_true hct7)]))
  · skip
    refine J.callT en44 (s44 _ _ _ _ _ _ a b ha hb) rfl (fun _ _ hs => ⟨hA _ _ _ hs, hB _ _ _ hs⟩) Take.nil (fun v es hv => ?_)
    obtain ⟨g, vs, hvs, rfl, rfl⟩ := hv
    simp only [List.cons_append, List.nil_append] -- @t10 callS (.func (.func 44) #[] #[]) [a0, a1]
    obtain ⟨u, hu⟩ := get_ex (l := vs) (i := 0) (by omega)
    refine J.ix sl94 (SeeS.row (E := 93) (by with_reducible repeat (first | exact Pick.here | apply Pick.there))) (by omega) (outer_at (i := 0) hu) fun gb go hkt11 => ?_ -- @t11 ix t10 (.int .i64 0)
    refine J.op (R.ldK0 o93 (hkt11)) ?_ -- @t12 vS (Instr.loadAt 93 t11)
    refine J.ix sl93 (SeeS.bag (by with_reducible repeat (first | exact Pick.here | apply Pick.there)) (bagR_mem hu)) (by omega) (ints_get (rowT_at (c := 0) (by omega) (by omega))) fun gb go hkt13 => ?_ -- @t13 ix t12 (.int .i64 0)
    refine J.op (R.ldK0 o3 (hkt13)) ?_ -- @t14 vS (Instr.loadAt 3 t13)
    -- @ret[t14]
    exact J.done (RetQ.e1 (by rw [if_neg (of_decide_eq_false hct7)]; rfl))

/-- damper/damperref38.Edits -/
theorem s33 (a1 : Option Addr) (n1 c1 : Nat) (a2 : Option Addr) (n2 c2 : Nat) (a b : List Msg) (ha : a.length ≤ 310) (hb : b.length ≤ 310) :
    FnT Try.prog 33 [.slice a1 n1 c1, .slice a2 n2 c2] (fun w => RdS w (.slice a1 n1 c1) 9 (msgs a) ∧ RdS w (.slice a2 n2 c2) 9 (msgs b)) [] (fun v es => ∃ oa on oc, v = .slice oa on oc ∧ es = [Ent.row (.slice oa on oc) 3 (edits (editsOf a b)) 67]) := by
  refine fn_of_J (cx := cx33) hmix Try.func33 (by kernel_rfl) (eq33 _ _) fun w hw => ?_
  have hA : ∀ H, SeeS ⟨Try.prog, w, footOf []⟩ H (.slice a1 n1 c1) 9 (msgs a) := fun H => SeeS.ofW0 hw.1 msgs_ne
  have hB : ∀ H, SeeS ⟨Try.prog, w, footOf []⟩ H (.slice a2 n2 c2) 9 (msgs b) := fun H => SeeS.ofW0 hw.2 msgs_ne
  refine J.callE en43 (s43 _ _ a b) rfl (fun _ _ hs => ⟨hA _ _ _ hs, hB _ _ _ hs⟩) ?_ -- @t11 callS (.func (.func 43) #[] #[]) [a0, a1]
  refine J.iteB (fun hct11 => ?_) (fun hct11 => ?_) -- ite t11
  · skip
    -- @ret[(.slicenone00)]
    refine J.nilRow (sz := 3) (E := 67) ?_
    exact J.done (RetQ.t1 (es := [Ent.row (.slice none 0 0) 3 (edits (editsOf a b)) 67]) (by unfold editsOf; rw [if_pos (of_decide_eq_true hct11)]; exact (by (try dsimp only); repeat (first | exact Has.nil | refine Has.cons (by repeat (first | (with_reducible exact Out.here) | ((with_reducible refine Out.cells ?_); first | rfl | (simp; done)) | ((with_reducible refine Out.row ?_); first | rfl | (simp; done)) | (with_reducible apply Out.there))) ?_))) ⟨_, _, _, rfl, rfl⟩)
  · skip
    refine J.callT en44 (s44 _ _ _ _ _ _ a b ha hb) rfl (fun _ _ hs => ⟨hA _ _ _ hs, hB _ _ _ hs⟩) Take.nil (fun v es hv => ?_)
    obtain ⟨g, vs, hvs, rfl, rfl⟩ := hv
    simp only [List.cons_append, List.nil_append] -- @t14 callS (.func (.func 44) #[] #[]) [a0, a1]
    refine J.bind ?_ -- @tv_7 bind tv_7 ([6])
    refine J.block ?_
    -- @tx loop [(.int .i64 0), (.slice none 0 0), (.int .i64 0)]
    have hlg := of_decide_eq_false hct11
    refine J.nilRow (sz := 3) (E := 67) ?_
    refine J.loop (α := Nat × Nat × Nat × List Edit × Option Addr × Nat × Nat) (fun (n, i, k, l, _) => i ≤ a.length ∧ k ≤ b.length ∧ (a.length - i) + (b.length - k) ≤ n ∧ l ++ restE a b n i k = editsOf a b) (fun (_, i, k, _, oa, on, oc) => [.int .i64 i, .slice oa on oc, .int .i64 k])
      (fun (_, _, _, l, oa, on, oc) => [Ent.row (.slice oa on oc) 3 (edits l) 67, Ent.row (.slice (some ⟨g, 0, none⟩) (a.length + 1) (a.length + 1)) 1 (outer 0 vs) 93, Ent.bag (bagR a b 3 0 vs)])
      (fun (_, i, k, _) => (a.length - i) + (b.length - k)) (a.length + b.length, 0, 0, [], none, 0, 0) ⟨Nat.zero_le _, Nat.zero_le _, by omega, by unfold editsOf; rw [if_neg hlg]; rfl⟩ rfl (Imp.refl _) ?_
    rintro ⟨n, i, k, l, oa, on, oc⟩ ⟨hi, hk, hn, hl⟩
    dsimp only at hi hk hn hl ⊢
    try simp only [List.headD_cons, List.tail_cons]
    refine J.bindB (i < a.length ∨ k < b.length) ?_ (fun hbtv => ?_) (fun hbtv => ?_) -- @tv
    · skip
      refine J.op (R.lenN sl57 (by first | exact SeeS.row (by with_reducible repeat (first | exact Pick.here | apply Pick.there)) | apply_assumption) (by first | exact ints_len | exact bools_len | exact msgs_len | exact trows_len | exact edits_len | rfl)) ?_ -- @t17 bltS .len #[57] 3 #[false] [a0]
      refine J.opD R.lss (fun ht18 => ?_) (fun ht18 => ?_) -- @t18 binS .lss 3 (.tmp 15) (.tmp 17) (tx.headD undef) t17
      · skip
        refine J.gopF rfl ?_
        refine J.gopF rfl ?_
        refine J.gopF rfl ?_
        refine J.gopF rfl ?_
        refine J.op R.pickT ?_ -- @t24 pickS t18 (.bool true) t23
        exact J.done ⟨rfl, congrArg (fun x => [Value.bool x]) (by simp; omega), rfl⟩ -- @leaf[t24]
      · skip
        refine J.gopT rfl ?_
        refine J.op R.pure ?_
        refine J.gopT rfl ?_
        refine J.op R.pure ?_
        refine J.gopT rfl ?_
        refine J.op (R.lenN sl57 (by first | exact SeeS.row (by with_reducible repeat (first | exact Pick.here | apply Pick.there)) | apply_assumption) (by first | exact ints_len | exact bools_len | exact msgs_len | exact trows_len | exact edits_len | rfl)) ?_ -- @t22 bltS .len #[57] 3 #[false] [t21]
        refine J.gopT rfl ?_
        refine J.op R.lss ?_ -- @t23 binS .lss 3 (.tmp 20) (.tmp 22) t20 t22
        refine J.op R.pickF ?_ -- @t24 pickS t18 (.bool true) t23
        exact J.done ⟨rfl, congrArg (fun x => [Value.bool x]) (decide_eq_decide.2 (by omega)), rfl⟩ -- @leaf[t24]#2
    · skip
      refine J.iteT ?_
      have hne : ¬ (i = a.length ∧ k = b.length) := fun h => by omega
      obtain ⟨m, rfl⟩ : ∃ m, n = m + 1 := ⟨n - 1, by omega⟩
      obtain ⟨hs1, hs2, hs3, hs4⟩ := next_ok hi hk hne
      have hll : l.length ≤ 620 := by
        have h1 := congrArg List.length hl
        rw [List.length_append] at h1
        have h2 : (editsOf a b).length ≤ a.length + b.length := by
          unfold editsOf
          split
          · simp
          · exact restE_len _ _ _ _ _
        omega
      refine J.bind ?_ -- @tv_6 bind tv_6 ([6, 7, 8])
      refine J.block ?_
      refine J.bind ?_ -- @tv_5 bind tv_5 ([6, 7, 8])
      refine J.block ?_
      refine J.bindB (sameAt a b i k) ?_ (fun hbtv_1 => ?_) (fun hbtv_1 => ?_) -- @tv_1
      · skip
        refine J.draw ?_
        refine J.op (R.lenN sl57 (by first | exact SeeS.row (by with_reducible repeat (first | exact Pick.here | apply Pick.there)) | apply_assumption) (by first | exact ints_len | exact bools_len | exact msgs_len | exact trows_len | exact edits_len | rfl)) ?_ -- @t36 bltS .len #[57] 3 #[false] [a0]
        refine J.opD R.lss (fun ht37 => ?_) (fun ht37 => ?_) -- @t37 binS .lss 3 (.tmp 34) (.tmp 36) (tx.headD undef) t36
        · skip
          refine J.gopT rfl ?_
          refine J.op R.pure ?_
          refine J.gopT rfl ?_
          refine J.op R.pure ?_
          refine J.gopT rfl ?_
          refine J.op (R.lenN sl57 (by first | exact SeeS.row (by with_reducible repeat (first | exact Pick.here | apply Pick.there)) | apply_assumption) (by first | exact ints_len | exact bools_len | exact msgs_len | exact trows_len | exact edits_len | rfl)) ?_ -- @t41 bltS .len #[57] 3 #[false] [t40]
          refine J.gopT rfl ?_
          refine J.opD R.lss (fun ht42 => ?_) (fun ht42 => ?_) -- @t42 binS .lss 3 (.tmp 39) (.tmp 41) t39 t41
          · skip
            refine J.op R.pickT ?_ -- @t43 pickS t37 t42 (.bool false)
            refine J.gopT rfl ?_
            refine J.op R.pure ?_
            refine J.gopT rfl ?_
            refine J.op R.pure ?_
            refine J.gopT rfl ?_
            obtain ⟨x, hx⟩ := get_ex (l := a) (i := i) (by omega)
            refine J.ixW sl57 hA (by omega) (msgs_get hx) fun gb go hkt47 => ?_ -- @t47 ix t45 t46
            refine J.gopT rfl ?_
            refine J.op (R.ldKA ag89 (hkt47 _) rfl) ?_ -- @t48 vS (Instr.loadAt 89 t47)
            refine J.gopT rfl ?_
            refine J.op R.pure ?_
            refine J.gopT rfl ?_
            refine J.op R.pure ?_
            refine J.gopT rfl ?_
            obtain ⟨y, hy⟩ := get_ex (l := b) (i := k) (by omega)
            refine J.ixW sl57 hB (by omega) (msgs_get hy) fun gb go hkt51 => ?_ -- @t51 ix t49 t50
            refine J.gopT rfl ?_
            refine J.op (R.ldKA ag89 (hkt51 _) rfl) ?_ -- @t52 vS (Instr.loadAt 89 t51)
            refine J.gopT rfl ?_
            refine J.op (R.eqA gt89 (by repeat (first | exact trivial | refine ⟨⟨_, rfl⟩, ?_⟩)) (by repeat (first | exact trivial | refine ⟨⟨_, rfl⟩, ?_⟩))) ?_ -- @t53 binS .eql 89 (.tmp 48) (.tmp 52) t48 t52
            refine J.op R.pickT ?_ -- @t54 pickS t43 t53 (.bool false)
            first
              | exact J.done ⟨rfl, by simp only [List.cons.injEq, Value.bool.injEq, and_true]; exact decide_eq_decide.2 ⟨fun h => ⟨by omega, by omega, by rw [hx, hy, Msg.inj.1 h]⟩, fun h => Msg.inj.2 (Option.some.inj (by rw [← hx, ← hy]; exact h.2.2))⟩, rfl⟩
              | exact J.done ⟨rfl, by simp only [List.cons.injEq, Value.bool.injEq, and_true]; symm; rw [decide_eq_false_iff_not]; intro h; have h1 := h.1; have h2 := h.2.1; omega, rfl⟩ -- @leaf[t54]
          · skip
            refine J.op R.pickT ?_ -- @t43 pickS t37 t42 (.bool false)
            refine J.gopF rfl ?_
            refine J.gopF rfl ?_
            refine J.gopF rfl ?_
            refine J.gopF rfl ?_
            refine J.gopF rfl ?_
            refine J.gopF rfl ?_
            refine J.gopF rfl ?_
            refine J.gopF rfl ?_
            refine J.gopF rfl ?_
            refine J.op R.pickF ?_ -- @t54 pickS t43 t53 (.bool false)
            first
              | exact J.done ⟨rfl, by simp only [List.cons.injEq, Value.bool.injEq, and_true]; exact decide_eq_decide.2 ⟨fun h => ⟨by omega, by omega, by rw [hx, hy, Msg.inj.1 h]⟩, fun h => Msg.inj.2 (Option.some.inj (by rw [← hx, ← hy]; exact h.2.2))⟩, rfl⟩
              | exact J.done ⟨rfl, by simp only [List.cons.injEq, Value.bool.injEq, and_true]; symm; rw [decide_eq_false_iff_not]; intro h; have h1 := h.1; have h2 := h.2.1; omega, rfl⟩ -- @leaf[t54]
        · skip
          refine J.gopF rfl ?_
          refine J.gopF rfl ?_
          refine J.gopF rfl ?_
          refine J.gopF rfl ?_
          refine J.op R.pickF ?_ -- @t43 pickS t37 t42 (.bool false)
          refine J.gopF rfl ?_
          refine J.gopF rfl ?_
          refine J.gopF rfl ?_
          refine J.gopF rfl ?_
          refine J.gopF rfl ?_
          refine J.gopF rfl ?_
          refine J.gopF rfl ?_
          refine J.gopF rfl ?_
          refine J.gopF rfl ?_
          refine J.op R.pickF ?_ -- @t54 pickS t43 t53 (.bool false)
          first
            | exact J.done ⟨rfl, by simp only [List.cons.injEq, Value.bool.injEq, and_true]; exact decide_eq_decide.2 ⟨fun h => ⟨by omega, by omega, by rw [hx, hy, Msg.inj.1 h]⟩, fun h => Msg.inj.2 (Option.some.inj (by rw [← hx, ← hy]; exact h.2.2))⟩, rfl⟩
            | exact J.done ⟨rfl, by simp only [List.cons.injEq, Value.bool.injEq, and_true]; symm; rw [decide_eq_false_iff_not]; intro h; have h1 := h.1; have h2 := h.2.1; omega, rfl⟩ -- @leaf[t54]
      · skip
        refine J.bindJ (fun vs3 H2 => ∃ oa2 on2 oc2, vs3 = [.slice oa2 on2 oc2, .int .i64 ((stepI (nextE a b i k) i : Nat) : Int), .int .i64 ((stepK (nextE a b i k) k : Nat) : Int)] ∧ Imp ⟨Try.prog, w, footOf []⟩ H2 [Ent.row (.slice oa2 on2 oc2) 3 (edits (l ++ [nextE a b i k])) 67, Ent.row (.slice (some ⟨g, 0, none⟩) (a.length + 1) (a.length + 1)) 1 (outer 0 vs) 93, Ent.bag (bagR a b 3 0 vs)]) ?_ ?_ -- @tv_4
        · skip
          refine J.iteT ?_
          refine J.op bd67_0_1_2 ?_ -- @t58 vS (Instr.build 67 #[(0, (.int .i64 0)), (1, (tx.headD undef)), (2, (tx.tail.tail.headD undef))])
          refine J.bs (cs := (Edit.mk 0 i k).cells) (E := 67) (fun w => by kernel_rfl) fun bt59 => ?_ -- @t59 vS (Instr.buildSlice 60 1 #[(0, t58)])
          refine J.append sl60 (by with_reducible repeat (first | exact Pick.here | apply Pick.there)) (SeeS.cells (els := [(Edit.mk 0 i k).cells]) (by with_reducible repeat (first | exact Pick.here | apply Pick.there)) rfl (by decide) (by intro i l hi j u hj; rcases i with _ | i <;> simp at hi; subst hi; simpa using hj)) (by intro l hl; simp at hl; subst hl; exact ⟨rfl, allOne_spec rfl⟩) (by rw [edits_len]; simp; omega) (by rw [edits_len]; simp [maxLen]; omega) fun at60 nt60 ct60 => ?_ -- @t60 bltS .append #[60, 60] 60 #[false, false] [(tx.tail.headD undef), t59]
          refine J.op (R.add64 (by omega)) ?_ -- @t62 binS .add 3 (.tmp 61) (.const (.int .i64 1)) (tx.headD undef) (.int .i64 1)
          refine J.op (R.add64 (by omega)) ?_ -- @t64 binS .add 3 (.tmp 63) (.const (.int .i64 1)) (tx.tail.tail.headD undef) (.int .i64 1)
          -- @join[t60,t62,t64]
          refine J.done ⟨at60, nt60, ct60, by rw [nextE_keep hbtv_1]; rfl, ?_⟩
          rw [nextE_keep hbtv_1, ← edits_app]
          exact Imp.take (by (try dsimp only); repeat (first | exact Has.nil | refine Has.cons (by repeat (first | (with_reducible exact Out.here) | ((with_reducible refine Out.cells ?_); first | rfl | (simp; done)) | ((with_reducible refine Out.row ?_); first | rfl | (simp; done)) | (with_reducible apply Out.there))) ?_))
        · rintro vs3 H1 ⟨oa2, on2, oc2, rfl, him⟩
          refine J.imp him ?_
          try simp only [List.headD_cons, List.tail_cons]
          refine J.done ?_ -- then tv_5 = [(tv_4.headD undef), (tv_4.tail.headD undef), (tv_4.tail.tail.headD undef)]
          refine J.done ?_ -- then tv_6 = [(tv_5.headD undef), (tv_5.tail.headD undef), (tv_5.tail.tail.headD undef)]
          -- @again[(tv_6.tail.headDundef),(tv_6.headDundef),(tv_6.tail.tail.headDundef)]
          refine J.done ⟨(m, stepI (nextE a b i k) i, stepK (nextE a b i k) k, l ++ [nextE a b i k], oa2, on2, oc2), ⟨hs1, hs2, by dsimp only; omega, ?_⟩, rfl, Imp.refl _, hs3⟩
          dsimp only
          rw [← hl, List.append_assoc]
          conv => rhs; unfold restE
          rw [if_neg hne]
          rfl
      · skip
        refine J.bindJ (fun vs3 H2 => ∃ oa2 on2 oc2, vs3 = [.slice oa2 on2 oc2, .int .i64 ((stepI (nextE a b i k) i : Nat) : Int), .int .i64 ((stepK (nextE a b i k) k : Nat) : Int)] ∧ Imp ⟨Try.prog, w, footOf []⟩ H2 [Ent.row (.slice oa2 on2 oc2) 3 (edits (l ++ [nextE a b i k])) 67, Ent.row (.slice (some ⟨g, 0, none⟩) (a.length + 1) (a.length + 1)) 1 (outer 0 vs) 93, Ent.bag (bagR a b 3 0 vs)]) ?_ ?_ -- @tv_4
        · skip
          refine J.iteF ?_
          refine J.bindB (k = b.length ∨ (i < a.length ∧ lcs (a.drop i) (b.drop (k + 1)) ≤ lcs (a.drop (i + 1)) (b.drop k))) ?_ (fun hbtv_2 => ?_) (fun hbtv_2 => ?_) -- @tv_2
          · skip
            refine J.draw ?_
            refine J.op (R.lenN sl57 (by first | exact SeeS.row (by with_reducible repeat (first | exact Pick.here | apply Pick.there)) | apply_assumption) (by first | exact ints_len | exact bools_len | exact msgs_len | exact trows_len | exact edits_len | rfl)) ?_ -- @t68 bltS .len #[57] 3 #[false] [a1]
            refine J.opD R.eql (fun ht69 => ?_) (fun ht69 => ?_) -- @t69 binS .eql 3 (.tmp 66) (.tmp 68) (tx.tail.tail.headD undef) t68
            · skip
              refine J.gopF rfl ?_
              refine J.gopF rfl ?_
              refine J.gopF rfl ?_
              refine J.gopF rfl ?_
              refine J.gopF rfl ?_
              refine J.gopF rfl ?_
              refine J.gopF rfl ?_
              refine J.gopF rfl ?_
              refine J.gopF rfl ?_
              refine J.gopF rfl ?_
              refine J.gopF rfl ?_
              refine J.gopF rfl ?_
              refine J.gopF rfl ?_
              refine J.gopF rfl ?_
              refine J.gopF rfl ?_
              refine J.gopF rfl ?_
              refine J.gopF rfl ?_
              refine J.gopF rfl ?_
              refine J.gopF rfl ?_
              refine J.gopF rfl ?_
              refine J.gopF rfl ?_
              refine J.gopF rfl ?_
              refine J.gopF rfl ?_
              refine J.op R.pickT ?_ -- @t94 pickS t69 (.bool true) t93
              first
                | exact J.done ⟨rfl, by simp only [List.cons.injEq, Value.bool.injEq, and_true]; symm; rw [decide_eq_true_iff]; exact Or.inl (by omega), rfl⟩
                | exact J.done ⟨rfl, by simp only [List.cons.injEq, Value.bool.injEq, and_true, Nat.zero_add]; exact decide_eq_decide.2 (by omega), rfl⟩
                | exact J.done ⟨rfl, by simp only [List.cons.injEq, Value.bool.injEq, and_true]; symm; rw [decide_eq_false_iff_not]; omega, rfl⟩ -- @leaf[t94]
            · skip
              refine J.gopT rfl ?_
              refine J.op R.pure ?_
              refine J.gopT rfl ?_
              refine J.op R.pure ?_
              refine J.gopT rfl ?_
              refine J.op (R.lenN sl57 (by first | exact SeeS.row (by with_reducible repeat (first | exact Pick.here | apply Pick.there)) | apply_assumption) (by first | exact ints_len | exact bools_len | exact msgs_len | exact trows_len | exact edits_len | rfl)) ?_ -- @t73 bltS .len #[57] 3 #[false] [t72]
              refine J.gopT rfl ?_
              refine J.opD R.lss (fun ht74 => ?_) (fun ht74 => ?_) -- @t74 binS .lss 3 (.tmp 71) (.tmp 73) t71 t73
              · skip
                refine J.gopT rfl ?_
                refine J.op R.pure ?_
                refine J.gopT rfl ?_
                refine J.op R.pure ?_
                refine J.gopT rfl ?_
                refine J.op R.pure ?_
                refine J.gopT rfl ?_
                refine J.op (R.add64 (by omega)) ?_
                rw [show (i : Int) + 1 = ((i + 1 : Nat) : Int) by omega] -- @t78 binS .add 3 (.tmp 77) (.const (.int .i64 1)) t77 (.int .i64 1)
                refine J.gopT rfl ?_
                obtain ⟨u1, hu1⟩ := get_ex (l := vs) (i := i + 1) (by omega)
                refine J.ix sl94 (SeeS.row (E := 93) (by with_reducible repeat (first | exact Pick.here | apply Pick.there))) (by omega) (outer0_at hu1) fun gb go hkt79 => ?_ -- @t79 ix t76 t78
                refine J.gopT rfl ?_
                refine J.op (R.ldK0 o93 (hkt79)) ?_ -- @t80 vS (Instr.loadAt 93 t79)
                refine J.gopT rfl ?_
                refine J.op R.pure ?_
                refine J.gopT rfl ?_
                refine J.ix sl93 (SeeS.bag (by with_reducible repeat (first | exact Pick.here | apply Pick.there)) (bagR0_mem hu1)) (by omega) (ints_get (rowT_at (by omega) (by omega))) fun gb go hkt82 => ?_ -- @t82 ix t80 t81
                refine J.gopT rfl ?_
                refine J.op (R.ldK0 o3 (hkt82)) ?_ -- @t83 vS (Instr.loadAt 3 t82)
                refine J.gopT rfl ?_
                refine J.op R.pure ?_
                refine J.gopT rfl ?_
                refine J.op R.pure ?_
                refine J.gopT rfl ?_
                obtain ⟨u0, hu0⟩ := get_ex (l := vs) (i := i) (by omega)
                refine J.ix sl94 (SeeS.row (E := 93) (by with_reducible repeat (first | exact Pick.here | apply Pick.there))) (by omega) (outer0_at hu0) fun gb go hkt86 => ?_ -- @t86 ix t84 t85
                refine J.gopT rfl ?_
                refine J.op (R.ldK0 o93 (hkt86)) ?_ -- @t87 vS (Instr.loadAt 93 t86)
                refine J.gopT rfl ?_
                refine J.op R.pure ?_
                refine J.gopT rfl ?_
                refine J.op (R.add64 (by omega)) ?_
                rw [show (k : Int) + 1 = ((k + 1 : Nat) : Int) by omega] -- @t89 binS .add 3 (.tmp 88) (.const (.int .i64 1)) t88 (.int .i64 1)
                refine J.gopT rfl ?_
                refine J.ix sl93 (SeeS.bag (by with_reducible repeat (first | exact Pick.here | apply Pick.there)) (bagR0_mem hu0)) (by omega) (ints_get (rowT_at (by omega) (by omega))) fun gb go hkt90 => ?_ -- @t90 ix t87 t89
                refine J.gopT rfl ?_
                refine J.op (R.ldK0 o3 (hkt90)) ?_ -- @t91 vS (Instr.loadAt 3 t90)
                refine J.gopT rfl ?_
                refine J.op R.geq ?_ -- @t92 binS .geq 3 (.tmp 83) (.tmp 91) t83 t91
                refine J.gopT rfl ?_
                refine J.op R.pickT ?_ -- @t93 pickS t75 t92 (.bool false)
                refine J.op R.pickF ?_ -- @t94 pickS t69 (.bool true) t93
                first
                  | exact J.done ⟨rfl, by simp only [List.cons.injEq, Value.bool.injEq, and_true]; symm; rw [decide_eq_true_iff]; exact Or.inl (by omega), rfl⟩
                  | exact J.done ⟨rfl, by simp only [List.cons.injEq, Value.bool.injEq, and_true, Nat.zero_add]; exact decide_eq_decide.2 (by omega), rfl⟩
                  | exact J.done ⟨rfl, by simp only [List.cons.injEq, Value.bool.injEq, and_true]; symm; rw [decide_eq_false_iff_not]; omega, rfl⟩ -- @leaf[t94]
              · skip
                refine J.gopT rfl ?_
                refine J.op R.pure ?_
                refine J.gopF rfl ?_
                refine J.gopF rfl ?_
                refine J.gopF rfl ?_
                refine J.gopF rfl ?_
                refine J.gopF rfl ?_
                refine J.gopF rfl ?_
                refine J.gopF rfl ?_
                refine J.gopF rfl ?_
                refine J.gopF rfl ?_
                refine J.gopF rfl ?_
                refine J.gopF rfl ?_
                refine J.gopF rfl ?_
                refine J.gopF rfl ?_
                refine J.gopF rfl ?_
                refine J.gopF rfl ?_
                refine J.gopF rfl ?_
                refine J.gopF rfl ?_
                refine J.gopT rfl ?_
                refine J.op R.pickF ?_ -- @t93 pickS t75 t92 (.bool false)
                refine J.op R.pickF ?_ -- @t94 pickS t69 (.bool true) t93
                first
                  | exact J.done ⟨rfl, by simp only [List.cons.injEq, Value.bool.injEq, and_true]; symm; rw [decide_eq_true_iff]; exact Or.inl (by omega), rfl⟩
                  | exact J.done ⟨rfl, by simp only [List.cons.injEq, Value.bool.injEq, and_true, Nat.zero_add]; exact decide_eq_decide.2 (by omega), rfl⟩
                  | exact J.done ⟨rfl, by simp only [List.cons.injEq, Value.bool.injEq, and_true]; symm; rw [decide_eq_false_iff_not]; omega, rfl⟩ -- @leaf[t94]
          · skip
            refine J.bind ?_ -- @tv_3 bind tv_3 ([6, 7, 8])
            refine J.iteT ?_
            refine J.op bd67_0_1_2 ?_ -- @t98 vS (Instr.build 67 #[(0, (.int .i64 1)), (1, (tx.headD undef)), (2, (tx.tail.tail.headD undef))])
            refine J.bs (cs := (Edit.mk 1 i k).cells) (E := 67) (fun w => by kernel_rfl) fun bt99 => ?_ -- @t99 vS (Instr.buildSlice 60 1 #[(0, t98)])
            refine J.append sl60 (by with_reducible repeat (first | exact Pick.here | apply Pick.there)) (SeeS.cells (els := [(Edit.mk 1 i k).cells]) (by with_reducible repeat (first | exact Pick.here | apply Pick.there)) rfl (by decide) (by intro i l hi j u hj; rcases i with _ | i <;> simp at hi; subst hi; simpa using hj)) (by intro l hl; simp at hl; subst hl; exact ⟨rfl, allOne_spec rfl⟩) (by rw [edits_len]; simp; omega) (by rw [edits_len]; simp [maxLen]; omega) fun at100 nt100 ct100 => ?_ -- @t100 bltS .append #[60, 60] 60 #[false, false] [(tx.tail.headD undef), t99]
            refine J.op (R.add64 (by omega)) ?_ -- @t102 binS .add 3 (.tmp 101) (.const (.int .i64 1)) (tx.headD undef) (.int .i64 1)
            refine J.done ?_ -- then tv_3 = [t100, t102, (tx.tail.tail.headD undef)]
            -- @join[(tv_3.headDundef),(tv_3.tail.headDundef),(tv_3.tail.tail.headDundef)]
            refine J.done ⟨at100, nt100, ct100, by rw [nextE_drop hbtv_1 hbtv_2]; rfl, ?_⟩
            rw [nextE_drop hbtv_1 hbtv_2, ← edits_app]
            exact Imp.take (by (try dsimp only); repeat (first | exact Has.nil | refine Has.cons (by repeat (first | (with_reducible exact Out.here) | ((with_reducible refine Out.cells ?_); first | rfl | (simp; done)) | ((with_reducible refine Out.row ?_); first | rfl | (simp; done)) | (with_reducible apply Out.there))) ?_))
          · skip
            refine J.bind ?_ -- @tv_3 bind tv_3 ([6, 7, 8])
            refine J.iteF ?_
            refine J.op bd67_0_1_2 ?_ -- @t28 vS (Instr.build 67 #[(0, (.int .i64 2)), (1, (tx.headD undef)), (2, (tx.tail.tail.headD undef))])
            refine J.bs (cs := (Edit.mk 2 i k).cells) (E := 67) (fun w => by kernel_rfl) fun bt29 => ?_ -- @t29 vS (Instr.buildSlice 60 1 #[(0, t28)])
            refine J.append sl60 (by with_reducible repeat (first | exact Pick.here | apply Pick.there)) (SeeS.cells (els := [(Edit.mk 2 i k).cells]) (by with_reducible repeat (first | exact Pick.here | apply Pick.there)) rfl (by decide) (by intro i l hi j u hj; rcases i with _ | i <;> simp at hi; subst hi; simpa using hj)) (by intro l hl; simp at hl; subst hl; exact ⟨rfl, allOne_spec rfl⟩) (by rw [edits_len]; simp; omega) (by rw [edits_len]; simp [maxLen]; omega) fun at30 nt30 ct30 => ?_ -- @t30 bltS .append #[60, 60] 60 #[false, false] [(tx.tail.headD undef), t29]
            refine J.op (R.add64 (by omega)) ?_ -- @t32 binS .add 3 (.tmp 31) (.const (.int .i64 1)) (tx.tail.tail.headD undef) (.int .i64 1)
            refine J.done ?_ -- then tv_3 = [t30, (tx.headD undef), t32]
            -- @join[(tv_3.headDundef),(tv_3.tail.headDundef),(tv_3.tail.tail.headDundef)]#2
            refine J.done ⟨at30, nt30, ct30, by rw [nextE_add hbtv_1 hbtv_2]; rfl, ?_⟩
            rw [nextE_add hbtv_1 hbtv_2, ← edits_app]
            exact Imp.take (by (try dsimp only); repeat (first | exact Has.nil | refine Has.cons (by repeat (first | (with_reducible exact Out.here) | ((with_reducible refine Out.cells ?_); first | rfl | (simp; done)) | ((with_reducible refine Out.row ?_); first | rfl | (simp; done)) | (with_reducible apply Out.there))) ?_))
        · rintro vs3 H1 ⟨oa2, on2, oc2, rfl, him⟩
          refine J.imp him ?_
          try simp only [List.headD_cons, List.tail_cons]
          refine J.done ?_ -- then tv_5 = [(tv_4.headD undef), (tv_4.tail.headD undef), (tv_4.tail.tail.headD undef)]
          refine J.done ?_ -- then tv_6 = [(tv_5.headD undef), (tv_5.tail.headD undef), (tv_5.tail.tail.headD undef)]
          -- @again[(tv_6.tail.headDundef),(tv_6.headDundef),(tv_6.tail.tail.headDundef)]
          refine J.done ⟨(m, stepI (nextE a b i k) i, stepK (nextE a b i k) k, l ++ [nextE a b i k], oa2, on2, oc2), ⟨hs1, hs2, by dsimp only; omega, ?_⟩, rfl, Imp.refl _, hs3⟩
          dsimp only
          rw [← hl, List.append_assoc]
          conv => rhs; unfold restE
          rw [if_neg hne]
          rfl
    · skip
      refine J.iteF ?_
      refine J.done ⟨fun _ => ?_, fun h => absurd rfl h⟩ -- exit [(tx.tail.headD undef)]
      -- @ret[(tv_7.headDundef)]
      obtain ⟨rfl, rfl⟩ : i = a.length ∧ k = b.length := ⟨by omega, by omega⟩
      have hl2 : l = editsOf a b := by
        rw [← hl]
        cases n with
        | zero => simp [restE]
        | succ n => unfold restE; simp
      exact J.done (RetQ.t1 (es := [Ent.row (.slice oa on oc) 3 (edits (editsOf a b)) 67]) (by subst hl2; exact (by (try dsimp only); repeat (first | exact Has.nil | refine Has.cons (by repeat (first | (with_reducible exact Out.here) | ((with_reducible refine Out.cells ?_); first | rfl | (simp; done)) | ((with_reducible refine Out.row ?_); first | rfl | (simp; done)) | (with_reducible apply Out.there))) ?_))) ⟨_, _, _, rfl, rfl⟩)
end Go.Proofs.Ytllchkmggfcdgaa
