/-
  Contracts of functions.
-/
import Derived.Test.YtllchkmggfcdgaaTerms
import Derived.Test.YtllchkmggfcdgaaTab
import Derived.Test.YtllchkmggfcdgaaC2
set_option maxRecDepth 100000
set_option linter.unusedVariables false
set_option linter.unusedSimpArgs false
namespace Go.Proofs.Ytllchkmggfcdgaa
open Go Go.RowKit Fw
/-- damper/compare.Apply -/
theorem s34 (va vb vl : Value) (a b : List Msg) (l : List Edit) (ha : a.length ≤ 310) (hb : b.length ≤ 310) :
    FnT Try.prog 34 [va, vb, vl] (fun w => RdS w va 9 (msgs a) ∧ RdS w vb 9 (msgs b) ∧ RdS w vl 3 (edits l)) [] (fun v es => ∃ oa on oc, v = .tuple #[.slice oa on oc, .bool (applyR a b l).2] ∧ es = [Ent.row (.slice oa on oc) 9 (msgs (applyR a b l).1) 89]) := by
  refine fn_of_J (cx := cx34) hmix Try.func34 (by kernel_rfl) (eq34 _ _ _) fun w hw => ?_
  have hA : ∀ H, SeeS ⟨Try.prog, w, footOf []⟩ H va 9 (msgs a) := fun H => SeeS.ofW0 hw.1 msgs_ne
  have hB : ∀ H, SeeS ⟨Try.prog, w, footOf []⟩ H vb 9 (msgs b) := fun H => SeeS.ofW0 hw.2.1 msgs_ne
  have hL : ∀ H, SeeS ⟨Try.prog, w, footOf []⟩ H vl 3 (edits l) := fun H => SeeS.ofW0 hw.2.2 edits_ne
  have hm := hw.2.2.le
  simp only [edits_len, maxLen] at hm
  refine J.op (R.lenN sl62 (hL _) edits_len) ?_ -- @t13 bltS .len #[62] 3 #[false] [a2]
  refine J.bind ?_ -- @tv_5 bind tv_5 ([6, 7, 8, 9])
  refine J.block ?_
  -- @tx loop [(.bool false), (.slice none 0 0), (.int .i64 0), (.int .i64 0), (.int .i64 0)]
  refine J.nilRow (sz := 9) (E := 89) ?_
  refine J.loop (α := Nat × Nat × Nat × List Msg × Option Addr × Nat × Nat) (fun (j, i, k, out, _) => j ≤ l.length ∧ i ≤ a.length ∧ k ≤ b.length ∧ out.length = k ∧ applyE a b (l.drop j) i k out = applyE a b l 0 0 []) (fun (j, i, k, _, oa, on, oc) => [.bool false, .slice oa on oc, .int .i64 k, .int .i64 i, .int .i64 j])
    (fun (_, _, _, out, oa, on, oc) => [Ent.row (.slice oa on oc) 9 (msgs out) 89]) (fun (j, _) => l.length - j) (0, 0, 0, [], none, 0, 0) ⟨Nat.zero_le _, Nat.zero_le _, Nat.zero_le _, rfl, rfl⟩ rfl (Imp.refl _) ?_
  rintro ⟨j, i, k, out, oa, on, oc⟩ ⟨hj, hi, hk, ho, hap0⟩
  dsimp only at hj hi hk ho hap0 ⊢
  try simp only [List.headD_cons, List.tail_cons]
  refine J.opD R.lss (fun ht15 => ?_) (fun ht15 => ?_) -- @t15 binS .lss 3 (.tmp 14) (.tmp 13) (tx.tail.tail.tail.tail.headD undef) t13
  · skip
    refine J.iteT ?_
    refine J.bind ?_ -- @tv_4 bind tv_4 ([6, 7, 8, 9])
    refine J.block ?_
    obtain ⟨e, he⟩ := get_ex (l := l) (i := j) (by omega)
    refine J.ixW sl62 hL (by omega) (edits_get he) fun gb go hkt16 => ?_ -- @t16 ix a2 (tx.tail.tail.tail.tail.headD undef)
    refine J.op (R.ldKA ag68 (hkt16 _) rfl) ?_ -- @t17 vS (Instr.loadAt 68 t16)
    refine J.alloc z68 fun bt11 => ?_
    refine J.stW sz68 (by with_reducible repeat (first | exact Pick.here | apply Pick.there)) rfl rfl rfl ?_ -- @tu uS (Instr.storeAt 68 t11 t17)
    refine J.op (R.ldA ag68 (by with_reducible repeat (first | exact Pick.here | apply Pick.there)) rfl) ?_ -- @t20 vS (Instr.loadAt 68 t11)
    refine J.callE en46 (s46 _ _ a b e i k) rfl (fun _ _ hs => ⟨hA _ _ _ hs, hB _ _ _ hs⟩) ?_ -- @t23 callS (.func (.func 46) #[] #[]) [a0, a1, t20, (tx.tail.tail.tail.headD undef), (tx.tail.tail.headD undef)]
    refine J.opB R.not (fun ht24 => ?_) (fun ht24 => ?_) -- @t24 vS (Op.unary .not t23)
    · skip
      refine J.iteT ?_
      -- @ret[(.slicenone00),(.boolfalse)]
      have hap := applyE_stop he (by simpa using ht24) hap0
      refine J.nilRow (sz := 9) (E := 89) ?_
      exact J.done (RetQ.t2 (es := [Ent.row (.slice none 0 0) 9 (msgs (applyR a b l).1) 89]) (by rw [hap]; exact (by (try dsimp only); repeat (first | exact Has.nil | refine Has.cons (by repeat (first | (with_reducible exact Out.here) | ((with_reducible refine Out.cells ?_); first | rfl | (simp; done)) | ((with_reducible refine Out.row ?_); first | rfl | (simp; done)) | (with_reducible apply Out.there))) ?_))) ⟨_, _, _, by rw [hap], rfl⟩)
    · skip
      refine J.iteF ?_
      refine J.op fa68_0 ?_
      have hf : fitsE a b e i k := by simpa using ht24
      obtain ⟨hsi, hsk⟩ := fits_step hi hk hf
      have hst := applyE_step (out := out) he hf
      rw [hap0] at hst
      refine J.op (R.ld o3 (by with_reducible repeat (first | exact Pick.here | apply Pick.there)) rfl) ?_ -- @t26 vS (Instr.loadAt 3 t25)
      refine J.bindJ (fun vs H2 => ∃ oa2 on2 oc2, vs = [.int .i64 ((stepI e i : Nat) : Int), .slice oa2 on2 oc2, .int .i64 ((stepK e k : Nat) : Int)] ∧ Imp ⟨Try.prog, w, footOf []⟩ H2 [Ent.row (.slice oa2 on2 oc2) 9 (msgs (if e.op = 1 then out else out ++ b[k]?.toList)) 89]) ?_ ?_ -- @tv_3
      · skip
        refine J.block ?_
        refine J.bind ?_ -- @tv_2 bind tv_2 ([8, 6, 9])
        refine J.block ?_
        refine J.bind ?_ -- @tv_1 bind tv_1 ([8])
        refine J.block ?_
        refine J.bind ?_ -- @tv bind tv ([])
        refine J.block ?_
        refine J.opD R.eql (fun ht28 => ?_) (fun ht28 => ?_) -- @t28 binS .eql 3 (.tmp 26) (.const (.int .i64 0)) t26 (.int .i64 0)
        · skip
          refine J.iteT ?_
          refine J.done ⟨fun _ => ?_, fun h => absurd rfl h⟩ -- exit []
          refine J.op (R.add64 (by omega)) ?_ -- @t34 binS .add 3 (.tmp 33) (.const (.int .i64 1)) (tx.tail.tail.tail.headD undef) (.int .i64 1)
          refine J.done ?_ -- then tv_1 = [t34]
          obtain ⟨y, hy⟩ := get_ex (l := b) (i := k) (fits_k hf (by omega))
          refine J.ixW sl57 hB (by omega) (msgs_get hy) fun gb go hkt38 => ?_ -- @t38 ix a1 (tx.tail.tail.headD undef)
          refine J.op (R.ldKA ag89 (hkt38 _) rfl) ?_ -- @t39 vS (Instr.loadAt 89 t38)
          refine J.bs (cs := y.cells) (E := 89) (fun w => by kernel_rfl) fun bt40 => ?_ -- @t40 vS (Instr.buildSlice 57 1 #[(0, t39)])
          refine J.append sl57 (by with_reducible repeat (first | exact Pick.here | apply Pick.there)) (SeeS.cells (els := [y.cells]) (by with_reducible repeat (first | exact Pick.here | apply Pick.there)) rfl (by decide) (by intro i l hi j u hj; rcases i with _ | i <;> simp at hi; subst hi; simpa using hj)) (by intro l hl; simp at hl; subst hl; exact ⟨rfl, allOne_spec rfl⟩) (by rw [msgs_len]; simp; omega) (by rw [msgs_len]; simp [maxLen]; omega) fun at41 nt41 ct41 => ?_ -- @t41 bltS .append #[57, 57] 57 #[false, false] [(tx.tail.headD undef), t40]
          refine J.op (R.add64 (by omega)) ?_ -- @t43 binS .add 3 (.tmp 42) (.const (.int .i64 1)) (tx.tail.tail.headD undef) (.int .i64 1)
          refine J.done ⟨fun h => absurd h (by decide), fun _ => ⟨fun _ => ?_, fun h => absurd rfl h⟩⟩ -- exit [(tv_1.headD undef), t41, t43]
          -- @join[(tv_1.headDundef),t41,t43]
          have h1 : e.op ≠ 1 := by omega
          have h2 : e.op ≠ 2 := by omega
          refine ⟨at41, nt41, ct41, by unfold stepI stepK; rw [if_neg h2, if_neg h1]; rfl, ?_⟩
          rw [if_neg h1, hy, Option.toList_some, ← msgs_app]
          exact Imp.take (by (try dsimp only); repeat (first | exact Has.nil | refine Has.cons (by repeat (first | (with_reducible exact Out.here) | ((with_reducible refine Out.cells ?_); first | rfl | (simp; done)) | ((with_reducible refine Out.row ?_); first | rfl | (simp; done)) | (with_reducible apply Out.there))) ?_))
        · skip
          refine J.iteF ?_
          refine J.opD R.eql (fun ht30 => ?_) (fun ht30 => ?_) -- @t30 binS .eql 3 (.tmp 26) (.const (.int .i64 2)) t26 (.int .i64 2)
          · skip
            refine J.iteT ?_
            refine J.done ⟨fun h => absurd h (by decide), fun _ => ⟨fun _ => ?_, fun h => absurd rfl h⟩⟩ -- exit [(tx.tail.tail.tail.headD undef)]
            obtain ⟨y, hy⟩ := get_ex (l := b) (i := k) (fits_k hf (by omega))
            refine J.ixW sl57 hB (by omega) (msgs_get hy) fun gb go hkt38 => ?_ -- @t38 ix a1 (tx.tail.tail.headD undef)
            refine J.op (R.ldKA ag89 (hkt38 _) rfl) ?_ -- @t39 vS (Instr.loadAt 89 t38)
            refine J.bs (cs := y.cells) (E := 89) (fun w => by kernel_rfl) fun bt40 => ?_ -- @t40 vS (Instr.buildSlice 57 1 #[(0, t39)])
            refine J.append sl57 (by with_reducible repeat (first | exact Pick.here | apply Pick.there)) (SeeS.cells (els := [y.cells]) (by with_reducible repeat (first | exact Pick.here | apply Pick.there)) rfl (by decide) (by intro i l hi j u hj; rcases i with _ | i <;> simp at hi; subst hi; simpa using hj)) (by intro l hl; simp at hl; subst hl; exact ⟨rfl, allOne_spec rfl⟩) (by rw [msgs_len]; simp; omega) (by rw [msgs_len]; simp [maxLen]; omega) fun at41 nt41 ct41 => ?_ -- @t41 bltS .append #[57, 57] 57 #[false, false] [(tx.tail.headD undef), t40]
            refine J.op (R.add64 (by omega)) ?_ -- @t43 binS .add 3 (.tmp 42) (.const (.int .i64 1)) (tx.tail.tail.headD undef) (.int .i64 1)
            refine J.done ⟨fun h => absurd h (by decide), fun _ => ⟨fun _ => ?_, fun h => absurd rfl h⟩⟩ -- exit [(tv_1.headD undef), t41, t43]
            -- @join[(tv_1.headDundef),t41,t43]#2
            have h1 : e.op ≠ 1 := by omega
            refine ⟨at41, nt41, ct41, by unfold stepI stepK; rw [if_pos ht30, if_neg h1]; rfl, ?_⟩
            rw [if_neg h1, hy, Option.toList_some, ← msgs_app]
            exact Imp.take (by (try dsimp only); repeat (first | exact Has.nil | refine Has.cons (by repeat (first | (with_reducible exact Out.here) | ((with_reducible refine Out.cells ?_); first | rfl | (simp; done)) | ((with_reducible refine Out.row ?_); first | rfl | (simp; done)) | (with_reducible apply Out.there))) ?_))
          · skip
            refine J.iteF ?_
            refine J.opD R.eql (fun ht32 => ?_) (fun ht32 => ?_) -- @t32 binS .eql 3 (.tmp 26) (.const (.int .i64 1)) t26 (.int .i64 1)
            · skip
              refine J.iteT ?_
              refine J.done ⟨fun h => absurd h (by decide), fun _ => ⟨fun h => absurd h (by decide), fun _ => ⟨fun _ => ?_, fun h => absurd rfl h⟩⟩⟩ -- exit [(tx.tail.tail.tail.headD undef), (tx.tail.headD undef), (tx.tail.tail.headD undef)]
              refine J.op (R.add64 (by omega)) ?_ -- @t45 binS .add 3 (.tmp 44) (.const (.int .i64 1)) (tv_2.headD undef) (.int .i64 1)
              refine J.done ⟨fun _ => ?_, fun h => absurd rfl h⟩ -- exit [t45, (tv_2.tail.headD undef), (tv_2.tail.tail.headD undef)]
              -- @join[t45,(tv_2.tail.headDundef),(tv_2.tail.tail.headDundef)]
              have h2 : e.op ≠ 2 := by omega
              refine ⟨oa, on, oc, by unfold stepI stepK; rw [if_neg h2, if_pos ht32]; rfl, ?_⟩
              rw [if_pos ht32]
              exact Imp.take (by (try dsimp only); repeat (first | exact Has.nil | refine Has.cons (by repeat (first | (with_reducible exact Out.here) | ((with_reducible refine Out.cells ?_); first | rfl | (simp; done)) | ((with_reducible refine Out.row ?_); first | rfl | (simp; done)) | (with_reducible apply Out.there))) ?_))
            · skip
              refine J.iteF ?_
              refine J.done ⟨fun h => absurd h (by decide), fun _ => ⟨fun h => absurd h (by decide), fun _ => ⟨fun h => absurd h (by decide), fun _ => ⟨fun _ => ?_, fun h => absurd rfl h⟩⟩⟩⟩ -- exit [(tx.tail.tail.tail.headD undef), (tx.tail.headD undef), (tx.tail.tail.headD undef)]
              -- @join[(tx.tail.tail.tail.headDundef),(tx.tail.headDundef),(tx.tail.tail.headDundef)]
              exfalso
              obtain ⟨_, _, hf⟩ := hf
              rcases hf with hf | hf | hf <;> omega
      · rintro vs H1 ⟨oa2, on2, oc2, rfl, him⟩
        refine J.imp him ?_
        try simp only [List.headD_cons, List.tail_cons]
        refine J.done ?_ -- then tv_4 = [(tv_3.tail.headD undef), (tx.headD undef), (tv_3.headD undef), (tv_3.tail.tail.headD undef)]
        refine J.op (R.add64 (by omega)) ?_ -- @t46 binS .add 3 (.tmp 14) (.const (.int .i64 1)) (tx.tail.tail.tail.tail.headD undef) (.int .i64 1)
        -- @again[(tv_4.tail.headDundef),(tv_4.headDundef),(tv_4.tail.tail.tail.headDundef),(tv_4.tail.tail.headDundef),t46]
        refine J.done ⟨(j + 1, stepI e i, stepK e k, if e.op = 1 then out else out ++ b[k]?.toList, oa2, on2, oc2), ⟨by dsimp only; omega, hsi, hsk, ?_, hst.symm⟩, rfl, Imp.refl _, by dsimp only; omega⟩
        dsimp only
        unfold stepK
        by_cases h1 : e.op = 1
        · rw [if_pos h1, if_pos h1]; exact ho
        · obtain ⟨y, hy⟩ := get_ex (l := b) (i := k) (fits_k hf h1)
          rw [if_neg h1, if_neg h1, hy]
          simp [ho]
  · skip
    refine J.iteF ?_
    refine J.done ⟨fun _ => ?_, fun h => absurd rfl h⟩ -- exit [(tx.tail.headD undef), (tx.headD undef), (tx.tail.tail.tail.headD undef), (tx.tail.tail.headD undef)]
    refine J.bindB (i < a.length ∨ k < b.length) ?_ (fun hbtv_6 => ?_) (fun hbtv_6 => ?_) -- @tv_6
    · skip
      refine J.op (R.lenN sl57 (by first | apply_assumption | exact SeeS.row (by with_reducible repeat (first | exact Pick.here | apply Pick.there))) (by first | exact ints_len | exact bools_len | exact msgs_len | exact trows_len | exact edits_len | rfl)) ?_ -- @t49 bltS .len #[57] 3 #[false] [a0]
      refine J.opD R.lss (fun ht50 => ?_) (fun ht50 => ?_) -- @t50 binS .lss 3 (.tmp 47) (.tmp 49) (tv_5.tail.tail.headD undef) t49
      · skip
        refine J.gopF rfl ?_
        refine J.gopF rfl ?_
        refine J.gopF rfl ?_
        refine J.gopF rfl ?_
        refine J.op R.pickT ?_ -- @t56 pickS t50 (.bool true) t55
        exact J.done ⟨rfl, congrArg (fun x => [Value.bool x]) (by simp; omega), rfl⟩ -- @leaf[t56]
      · skip
        refine J.gopT rfl ?_
        refine J.op R.pure ?_
        refine J.gopT rfl ?_
        refine J.op R.pure ?_
        refine J.gopT rfl ?_
        refine J.op (R.lenN sl57 (by first | apply_assumption | exact SeeS.row (by with_reducible repeat (first | exact Pick.here | apply Pick.there))) (by first | exact ints_len | exact bools_len | exact msgs_len | exact trows_len | exact edits_len | rfl)) ?_ -- @t54 bltS .len #[57] 3 #[false] [t53]
        refine J.gopT rfl ?_
        refine J.op R.lss ?_ -- @t55 binS .lss 3 (.tmp 52) (.tmp 54) t52 t54
        refine J.op R.pickF ?_ -- @t56 pickS t50 (.bool true) t55
        exact J.done ⟨rfl, congrArg (fun x => [Value.bool x]) (decide_eq_decide.2 (by omega)), rfl⟩ -- @leaf[t56]#2
    · skip
      refine J.iteT ?_
      -- @ret[(.slicenone00),(.boolfalse)]#2
      have hap := applyE_end (by omega) hap0
      rw [if_pos hbtv_6] at hap
      refine J.nilRow (sz := 9) (E := 89) ?_
      exact J.done (RetQ.t2 (es := [Ent.row (.slice none 0 0) 9 (msgs (applyR a b l).1) 89]) (by rw [hap]; exact (by (try dsimp only); repeat (first | exact Has.nil | refine Has.cons (by repeat (first | (with_reducible exact Out.here) | ((with_reducible refine Out.cells ?_); first | rfl | (simp; done)) | ((with_reducible refine Out.row ?_); first | rfl | (simp; done)) | (with_reducible apply Out.there))) ?_))) ⟨_, _, _, by rw [hap], rfl⟩)
    · skip
      refine J.iteF ?_
      -- @ret[(tv_5.headDundef),(.booltrue)]
      have hap := applyE_end (by omega) hap0
      rw [if_neg hbtv_6] at hap
      exact J.done (RetQ.t2 (es := [Ent.row (.slice oa on oc) 9 (msgs (applyR a b l).1) 89]) (by rw [hap]; exact (by (try dsimp only); repeat (first | exact Has.nil | refine Has.cons (by repeat (first | (with_reducible exact Out.here) | ((with_reducible refine Out.cells ?_); first | rfl | (simp; done)) | ((with_reducible refine Out.row ?_); first | rfl | (simp; done)) | (with_reducible apply Out.there))) ?_))) ⟨_, _, _, by rw [hap]; rfl, rfl⟩)
end Go.Proofs.Ytllchkmggfcdgaa
