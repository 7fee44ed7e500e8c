/-
  Contracts of functions.
-/
import Derived.Test.YtllchkmggfcdgaaTerms
import Derived.Test.YtllchkmggfcdgaaTab
import Derived.Test.YtllchkmggfcdgaaC2
import Derived.Test.YtllchkmggfcdgaaModCmp3
set_option maxRecDepth 100000
set_option linter.unusedVariables false
set_option linter.unusedSimpArgs false
namespace Go.Proofs.Ytllchkmggfcdgaa
open Go Go.RowKit Fw
/-- damper/damperref38.lengths -/
theorem s44 (a1 : Option Addr) (n1 c1 : Nat) (a2 : Option Addr) (n2 c2 : Nat) (a b : List Msg) (ha : a.length ≤ 310) (hb : b.length ≤ 310) :
    FnT Try.prog 44 [.slice a1 n1 c1, .slice a2 n2 c2] (fun w => RdS w (.slice a1 n1 c1) 9 (msgs a) ∧ RdS w (.slice a2 n2 c2) 9 (msgs b)) [] (fun v es => ∃ g vs, vs.length = a.length + 1 ∧ v = .slice (some ⟨g, 0, none⟩) (a.length + 1) (a.length + 1) ∧ es = [Ent.row (.slice (some ⟨g, 0, none⟩) (a.length + 1) (a.length + 1)) 1 (outer 0 vs) 93, Ent.bag (bagR a b 3 0 vs)]) := by
  refine fn_of_J (cx := cx44) hmix Try.func44 (by kernel_rfl) (eq44 _ _) fun w hw => ?_
  have hA : ∀ H, SeeS ⟨Try.prog, w, footOf []⟩ H (.slice a1 n1 c1) 9 (msgs a) := fun H => SeeS.ofW0 hw.1 msgs_ne
  have hB : ∀ H, SeeS ⟨Try.prog, w, footOf []⟩ H (.slice a2 n2 c2) 9 (msgs b) := fun H => SeeS.ofW0 hw.2 msgs_ne
  refine J.op (R.lenN sl57 (by first | exact SeeS.row (by with_reducible repeat (first | exact Pick.here | apply Pick.there)) | apply_assumption) (by first | exact ints_len | exact bools_len | exact msgs_len | exact trows_len | exact edits_len | rfl)) ?_ -- @t9 bltS .len #[57] 3 #[false] [a0]
  refine J.op (R.add64 (by omega)) ?_
  rw [show (a.length : Int) + 1 = ((a.length + 1 : Nat) : Int) by omega] -- @t10 binS .add 3 (.tmp 9) (.const (.int .i64 1)) t9 (.int .i64 1)
  refine J.make1 sl94 z93 (by omega) (by simp only [maxLen]; omega) fun g => ?_ -- @t11 vS (Instr.makeSlice 94 t10 t10)
  refine J.op (R.lenN sl57 (by first | exact SeeS.row (by with_reducible repeat (first | exact Pick.here | apply Pick.there)) | apply_assumption) (by first | exact ints_len | exact bools_len | exact msgs_len | exact trows_len | exact edits_len | rfl)) ?_ -- @t13 bltS .len #[57] 3 #[false] [a0]
  refine J.bind ?_ -- @tv_5 bind tv_5 ([])
  refine J.block ?_
  -- @tx loop [t13]
  refine J.loop (α := Nat × List Value) (fun (i, vs) => i ≤ a.length + 1 ∧ vs.length + i = a.length + 1) (fun (i, _) => [.int .i64 ((i : Int) - 1)]) (fun (i, vs) => [Ent.row (.slice (some ⟨g, 0, none⟩) (a.length + 1) (a.length + 1)) 1 (outer i vs) 93, Ent.bag (bagR a b 3 i vs)])
    (fun (i, _) => i) (a.length + 1, []) ⟨Nat.le_refl _, by simp⟩ (by simp only [List.cons.injEq, Value.int.injEq, and_true, true_and]; omega) (by simp only [outer, vals1, List.map_nil, List.append_nil, bagR]; exact (Imp.bagNil).trans (Imp.perm (List.Perm.swap _ _ _))) ?_
  rintro ⟨i1, vs⟩ ⟨hi, hvs⟩
  dsimp only at hi hvs ⊢
  try simp only [List.headD_cons, List.tail_cons]
  refine J.opD R.geq (fun ht15 => ?_) (fun ht15 => ?_) -- @t15 binS .geq 3 (.tmp 14) (.const (.int .i64 0)) (tx.headD undef) (.int .i64 0)
  · skip
    refine J.iteT ?_
    obtain ⟨i, rfl⟩ : ∃ j, i1 = j + 1 := ⟨i1 - 1, by omega⟩
    rw [show ((i + 1 : Nat) : Int) - 1 = (i : Int) by omega]
    refine J.bind ?_ -- @tv_4 bind tv_4 ([])
    refine J.block ?_
    refine J.op (R.lenN sl57 (by first | exact SeeS.row (by with_reducible repeat (first | exact Pick.here | apply Pick.there)) | apply_assumption) (by first | exact ints_len | exact bools_len | exact msgs_len | exact trows_len | exact edits_len | rfl)) ?_ -- @t21 bltS .len #[57] 3 #[false] [a1]
    refine J.op (R.add64 (by omega)) ?_
    rw [show (b.length : Int) + 1 = ((b.length + 1 : Nat) : Int) by omega] -- @t22 binS .add 3 (.tmp 21) (.const (.int .i64 1)) t21 (.int .i64 1)
    refine J.make1 sl93 z3 (by omega) (by simp only [maxLen]; omega) fun g2 => ?_
    rw [← ints_rep, ← rowT_start a b i] -- @t23 vS (Instr.makeSlice 93 t22 t22)
    refine J.ixO sl94 (by with_reducible repeat (first | exact Pick.here | apply Pick.there)) (by omega) (by rw [outer_len]; omega) fun g3 hg3 => ?_
    cases hg3 -- @t24 ix t11 (tx.headD undef)
    refine J.stRow (j := i) (off := 0) sz93 (by with_reducible repeat (first | exact Pick.here | apply Pick.there)) (outer_nil (by omega)) (by simp only [Int.toNat_natCast, Nat.mul_one, Nat.add_zero]) (by simp) rfl ?_
    simp only [List.set_cons_zero]
    rw [outer_set] -- @tu uS (Instr.storeAt 93 t24 t23)
    refine J.op (R.lenN sl57 (by first | exact SeeS.row (by with_reducible repeat (first | exact Pick.here | apply Pick.there)) | apply_assumption) (by first | exact ints_len | exact bools_len | exact msgs_len | exact trows_len | exact edits_len | rfl)) ?_ -- @t26 bltS .len #[57] 3 #[false] [a1]
    refine J.bind ?_ -- @tv_3 bind tv_3 ([])
    refine J.block ?_
    -- @tx_1 loop [t26]
    refine J.loop (α := Nat) (fun k => k ≤ b.length + 1) (fun k => [.int .i64 ((k : Int) - 1)]) (fun k => [Ent.row (.slice (some ⟨g2, 0, none⟩) (b.length + 1) (b.length + 1)) 1 (ints (rowT a b i k)) 3, Ent.row (.slice (some ⟨g, 0, none⟩) (a.length + 1) (a.length + 1)) 1 (outer i (.slice (some ⟨g2, 0, none⟩) (b.length + 1) (b.length + 1) :: vs)) 93, Ent.bag (bagR a b 3 (i + 1) vs)])
      (fun k => k) (b.length + 1) (Nat.le_refl _) (by simp only [List.cons.injEq, Value.int.injEq, and_true, true_and]; omega) (Imp.take (by (try dsimp only); repeat (first | exact Has.nil | refine Has.cons (by repeat (first | (with_reducible exact Out.here) | ((with_reducible refine Out.cells ?_); first | rfl | (simp; done)) | ((with_reducible refine Out.row ?_); first | rfl | (simp; done)) | (with_reducible apply Out.there))) ?_))) ?_
    intro k1 hk
    try simp only [List.headD_cons, List.tail_cons]
    refine J.opD R.geq (fun ht28 => ?_) (fun ht28 => ?_) -- @t28 binS .geq 3 (.tmp 27) (.const (.int .i64 0)) (tx_1.headD undef) (.int .i64 0)
    · skip
      refine J.iteT ?_
      obtain ⟨k, rfl⟩ : ∃ j, k1 = j + 1 := ⟨k1 - 1, by omega⟩
      rw [show ((k + 1 : Nat) : Int) - 1 = (k : Int) by omega]
      refine J.bind ?_ -- @tv_2 bind tv_2 ([])
      refine J.block ?_
      refine J.bindB (i = a.length ∨ k = b.length) ?_ (fun hbtv => ?_) (fun hbtv => ?_) -- @tv
      · skip
        refine J.op (R.lenN sl57 (by first | exact SeeS.row (by with_reducible repeat (first | exact Pick.here | apply Pick.there)) | apply_assumption) (by first | exact ints_len | exact bools_len | exact msgs_len | exact trows_len | exact edits_len | rfl)) ?_ -- @t33 bltS .len #[57] 3 #[false] [a0]
        refine J.opD R.eql (fun ht34 => ?_) (fun ht34 => ?_) -- @t34 binS .eql 3 (.tmp 31) (.tmp 33) (tx.headD undef) t33
        · skip
          refine J.gopF rfl ?_
          refine J.gopF rfl ?_
          refine J.gopF rfl ?_
          refine J.gopF rfl ?_
          refine J.op R.pickT ?_ -- @t40 pickS t34 (.bool true) t39
          exact J.done ⟨rfl, congrArg (fun x => [Value.bool x]) (by simp; omega), rfl⟩ -- @leaf[t40]
        · skip
          refine J.gopT rfl ?_
          refine J.op R.pure ?_
          refine J.gopT rfl ?_
          refine J.op R.pure ?_
          refine J.gopT rfl ?_
          refine J.op (R.lenN sl57 (by first | exact SeeS.row (by with_reducible repeat (first | exact Pick.here | apply Pick.there)) | apply_assumption) (by first | exact ints_len | exact bools_len | exact msgs_len | exact trows_len | exact edits_len | rfl)) ?_ -- @t38 bltS .len #[57] 3 #[false] [t37]
          refine J.gopT rfl ?_
          refine J.op R.eql ?_ -- @t39 binS .eql 3 (.tmp 36) (.tmp 38) t36 t38
          refine J.op R.pickF ?_ -- @t40 pickS t34 (.bool true) t39
          exact J.done ⟨rfl, congrArg (fun x => [Value.bool x]) (decide_eq_decide.2 (by omega)), rfl⟩ -- @leaf[t40]#2
      · skip
        refine J.iteT ?_
        refine J.done ⟨fun _ => ?_, fun h => absurd rfl h⟩ -- exit []
        refine J.op (R.sub64 (by omega)) ?_ -- @t30 binS .sub 3 (.tmp 29) (.const (.int .i64 1)) (tx_1.headD undef) (.int .i64 1)
        -- @again[t30]
        exact J.done ⟨k, by omega, rfl, (by rw [rowT_same hbtv]; exact Imp.refl _), by omega⟩
      · skip
        refine J.iteF ?_
        refine J.draw ?_
        obtain ⟨x, hx⟩ := get_ex (l := a) (i := i) (by omega)
        obtain ⟨y, hy⟩ := get_ex (l := b) (i := k) (by omega)
        have hst := lcs_step hx hy
        have hl3 := lcs_le (a.drop (i + 1)) (b.drop (k + 1))
        simp only [List.length_drop] at hl3
        obtain ⟨u, vs2, rfl⟩ : ∃ u vs2, vs = u :: vs2 := by
          cases vs with
          | nil => simp at hvs; omega
          | cons u vs2 => exact ⟨u, vs2, rfl⟩
        have hbg : Ent.row u 1 (ints (rowT a b (i + 1) 0)) 3 ∈ bagR a b 3 (i + 1) (u :: vs2) := List.mem_cons_self
        refine J.ixW sl57 hA (by omega) (msgs_get hx) fun gb go hkt43 => ?_ -- @t43 ix a0 (tx.headD undef)
        refine J.op (R.ldKA ag89 (hkt43 _) rfl) ?_ -- @t44 vS (Instr.loadAt 89 t43)
        refine J.ixW sl57 hB (by omega) (msgs_get hy) fun gb go hkt47 => ?_ -- @t47 ix a1 (tx_1.headD undef)
        refine J.op (R.ldKA ag89 (hkt47 _) rfl) ?_ -- @t48 vS (Instr.loadAt 89 t47)
        refine J.opD (R.eqA gt89 (by repeat (first | exact trivial | refine ⟨⟨_, rfl⟩, ?_⟩)) (by repeat (first | exact trivial | refine ⟨⟨_, rfl⟩, ?_⟩))) (fun ht49 => ?_) (fun ht49 => ?_) -- @t49 binS .eql 89 (.tmp 44) (.tmp 48) t44 t48
        · skip
          refine J.bindJ (fun _ H2 => H2 = [Ent.row (.slice (some ⟨g2, 0, none⟩) (b.length + 1) (b.length + 1)) 1 (ints (rowT a b i k)) 3, Ent.row (.slice (some ⟨g, 0, none⟩) (a.length + 1) (a.length + 1)) 1 (outer i (.slice (some ⟨g2, 0, none⟩) (b.length + 1) (b.length + 1) :: u :: vs2)) 93, Ent.bag (bagR a b 3 (i + 1) (u :: vs2))]) ?_ ?_ -- @tv_1
          · skip
            refine J.iteT ?_
            refine J.draw ?_
            refine J.ix sl94 (SeeS.row (E := 93) (by with_reducible repeat (first | exact Pick.here | apply Pick.there))) (by omega) (outer_at (j := 0) rfl) fun gb go hkt52 => ?_ -- @t52 ix t11 (tx.headD undef)
            refine J.op (R.ldK0 o93 (hkt52)) ?_ -- @t53 vS (Instr.loadAt 93 t52)
            refine J.op (R.add64 (by omega)) ?_ -- @t57 binS .add 3 (.tmp 56) (.const (.int .i64 1)) (tx.headD undef) (.int .i64 1)
            rw [show (i : Int) + 1 = ((i + 1 : Nat) : Int) by omega]
            refine J.ix sl94 (SeeS.row (E := 93) (by with_reducible repeat (first | exact Pick.here | apply Pick.there))) (by omega) (outer_at (j := 1) rfl) fun gb go hkt58 => ?_ -- @t58 ix t11 t57
            refine J.op (R.ldK0 o93 (hkt58)) ?_ -- @t59 vS (Instr.loadAt 93 t58)
            refine J.op (R.add64 (by omega)) ?_
            rw [show (k : Int) + 1 = ((k + 1 : Nat) : Int) by omega] -- @t61 binS .add 3 (.tmp 60) (.const (.int .i64 1)) (tx_1.headD undef) (.int .i64 1)
            refine J.ix sl93 (SeeS.bag (by with_reducible repeat (first | exact Pick.here | apply Pick.there)) hbg) (by omega) (ints_get (rowT_at (by omega) (by omega))) fun gb go hkt62 => ?_ -- @t62 ix t59 t61
            refine J.op (R.ldK0 o3 (hkt62)) ?_ -- @t63 vS (Instr.loadAt 3 t62)
            refine J.op (R.add64 (by omega)) ?_ -- @t64 binS .add 3 (.tmp 63) (.const (.int .i64 1)) t63 (.int .i64 1)
            refine J.ixO sl93 (by with_reducible repeat (first | exact Pick.here | apply Pick.there)) (by omega) (by rw [ints_len, rowT_len]; omega) fun g3 hg3 => ?_
            cases hg3 -- @t65 ix t53 (tx_1.headD undef)
            refine J.stRow (j := k) (off := 0) sz3 (by with_reducible repeat (first | exact Pick.here | apply Pick.there)) (by rw [ints_at, rowT_get (by omega)]; rfl) (by simp only [Int.toNat_natCast, Nat.mul_one, Nat.add_zero]) (by simp) rfl ?_
            simp only [List.set_cons_zero]
            rw [show (((lcs (a.drop (i + 1)) (b.drop (k + 1)) : Nat) : Int) + 1) = ((lcs (a.drop i) (b.drop k) : Nat) : Int) by rw [hst, if_pos (Msg.inj.1 ht49)]; rfl, ← ints_set, rowT_set (by omega)] -- @tu_1 uS (Instr.storeAt 3 t65 t64)
            -- @join[]
            exact J.done rfl
          · rintro vs1 H1 rfl
            try simp only [List.headD_cons, List.tail_cons]
            refine J.done ?_ -- then tv_2 = []
            refine J.op (R.sub64 (by omega)) ?_ -- @t30 binS .sub 3 (.tmp 29) (.const (.int .i64 1)) (tx_1.headD undef) (.int .i64 1)
            -- @again[t30]#2
            exact J.done ⟨k, by omega, rfl, Imp.refl _, by omega⟩
        · skip
          refine J.bindJ (fun _ H2 => H2 = [Ent.row (.slice (some ⟨g2, 0, none⟩) (b.length + 1) (b.length + 1)) 1 (ints (rowT a b i k)) 3, Ent.row (.slice (some ⟨g, 0, none⟩) (a.length + 1) (a.length + 1)) 1 (outer i (.slice (some ⟨g2, 0, none⟩) (b.length + 1) (b.length + 1) :: u :: vs2)) 93, Ent.bag (bagR a b 3 (i + 1) (u :: vs2))]) ?_ ?_ -- @tv_1
          · skip
            refine J.iteF ?_
            refine J.draw ?_
            refine J.ix sl94 (SeeS.row (E := 93) (by with_reducible repeat (first | exact Pick.here | apply Pick.there))) (by omega) (outer_at (j := 0) rfl) fun gb go hkt68 => ?_ -- @t68 ix t11 (tx.headD undef)
            refine J.op (R.ldK0 o93 (hkt68)) ?_ -- @t69 vS (Instr.loadAt 93 t68)
            refine J.op (R.add64 (by omega)) ?_ -- @t73 binS .add 3 (.tmp 72) (.const (.int .i64 1)) (tx.headD undef) (.int .i64 1)
            rw [show (i : Int) + 1 = ((i + 1 : Nat) : Int) by omega]
            refine J.ix sl94 (SeeS.row (E := 93) (by with_reducible repeat (first | exact Pick.here | apply Pick.there))) (by omega) (outer_at (j := 1) rfl) fun gb go hkt74 => ?_ -- @t74 ix t11 t73
            refine J.op (R.ldK0 o93 (hkt74)) ?_ -- @t75 vS (Instr.loadAt 93 t74)
            refine J.ix sl93 (SeeS.bag (by with_reducible repeat (first | exact Pick.here | apply Pick.there)) hbg) (by omega) (ints_get (rowT_at (by omega) (by omega))) fun gb go hkt77 => ?_ -- @t77 ix t75 (tx_1.headD undef)
            refine J.op (R.ldK0 o3 (hkt77)) ?_ -- @t78 vS (Instr.loadAt 3 t77)
            refine J.ix sl94 (SeeS.row (E := 93) (by with_reducible repeat (first | exact Pick.here | apply Pick.there))) (by omega) (outer_at (j := 0) rfl) fun gb go hkt81 => ?_ -- @t81 ix t11 (tx.headD undef)
            refine J.op (R.ldK0 o93 (hkt81)) ?_ -- @t82 vS (Instr.loadAt 93 t81)
            refine J.op (R.add64 (by omega)) ?_
            rw [show (k : Int) + 1 = ((k + 1 : Nat) : Int) by omega] -- @t84 binS .add 3 (.tmp 83) (.const (.int .i64 1)) (tx_1.headD undef) (.int .i64 1)
            refine J.ix sl93 (SeeS.row (E := 3) (by with_reducible repeat (first | exact Pick.here | apply Pick.there))) (by omega) (ints_get (rowT_at (by omega) (by omega))) fun gb go hkt85 => ?_ -- @t85 ix t82 t84
            refine J.op (R.ldK0 o3 (hkt85)) ?_ -- @t86 vS (Instr.loadAt 3 t85)
            refine J.op R.maxN ?_ -- @t87 bltS .max #[3, 3] 3 #[false, false] [t78, t86]
            refine J.ixO sl93 (by with_reducible repeat (first | exact Pick.here | apply Pick.there)) (by omega) (by rw [ints_len, rowT_len]; omega) fun g3 hg3 => ?_
            cases hg3 -- @t88 ix t69 (tx_1.headD undef)
            refine J.stRow (j := k) (off := 0) sz3 (by with_reducible repeat (first | exact Pick.here | apply Pick.there)) (by rw [ints_at, rowT_get (by omega)]; rfl) (by simp only [Int.toNat_natCast, Nat.mul_one, Nat.add_zero]) (by simp) rfl ?_
            simp only [List.set_cons_zero]
            rw [show ((max (lcs (a.drop (i + 1)) (b.drop k)) (lcs (a.drop i) (b.drop (k + 1))) : Nat) : Int) = ((lcs (a.drop i) (b.drop k) : Nat) : Int) by rw [hst, if_neg (fun e => ht49 (Msg.inj.2 e))], ← ints_set, rowT_set (by omega)] -- @tu_2 uS (Instr.storeAt 3 t88 t87)
            -- @join[]
            exact J.done rfl
          · rintro vs1 H1 rfl
            try simp only [List.headD_cons, List.tail_cons]
            refine J.done ?_ -- then tv_2 = []
            refine J.op (R.sub64 (by omega)) ?_ -- @t30 binS .sub 3 (.tmp 29) (.const (.int .i64 1)) (tx_1.headD undef) (.int .i64 1)
            -- @again[t30]#3
            exact J.done ⟨k, by omega, rfl, Imp.refl _, by omega⟩
    · skip
      refine J.iteF ?_
      refine J.done ⟨fun _ => ?_, fun h => absurd rfl h⟩ -- exit []
      refine J.done ?_ -- then tv_4 = []
      obtain rfl : k1 = 0 := by omega
      refine J.op (R.sub64 (by omega)) ?_ -- @t17 binS .sub 3 (.tmp 16) (.const (.int .i64 1)) (tx.headD undef) (.int .i64 1)
      -- @again[t17]
      refine J.done ⟨(i, .slice (some ⟨g2, 0, none⟩) (b.length + 1) (b.length + 1) :: vs), ⟨by dsimp only; omega, by simp only [List.length_cons]; omega⟩, rfl, ?_, by dsimp only; omega⟩
      dsimp only
      exact ((Imp.perm (List.Perm.swap _ _ _)).trans (Imp.perm (List.Perm.cons _ (List.Perm.refl _)))).trans (pushRow _)
  · skip
    refine J.iteF ?_
    refine J.done ⟨fun _ => ?_, fun h => absurd rfl h⟩ -- exit []
    -- @ret[t11]
    obtain rfl : i1 = 0 := by omega
    exact J.done (RetQ.t1 (es := [Ent.row (.slice (some ⟨g, 0, none⟩) (a.length + 1) (a.length + 1)) 1 (outer 0 vs) 93, Ent.bag (bagR a b 3 0 vs)]) (by (try dsimp only); repeat (first | exact Has.nil | refine Has.cons (by repeat (first | (with_reducible exact Out.here) | ((with_reducible refine Out.cells ?_); first | rfl | (simp; done)) | ((with_reducible refine Out.row ?_); first | rfl | (simp; done)) | (with_reducible apply Out.there))) ?_)) ⟨g, vs, by omega, rfl, rfl⟩)
end Go.Proofs.Ytllchkmggfcdgaa
