/-
  Contracts of functions.
-/
import Derived.Test.YtllchkmggfcdgaaTerms
import Derived.Test.YtllchkmggfcdgaaTab
import Derived.Test.YtllchkmggfcdgaaModCmp
set_option maxRecDepth 100000
set_option linter.unusedVariables false
set_option linter.unusedSimpArgs false
namespace Go.Proofs.Ytllchkmggfcdgaa
open Go Go.RowKit Fw
/-- (*damper/compare.table).at -/
theorem s42 (t i k : Nat) (va vb vn : Value) (b : List Msg) (l : List Int) (x : Int) (hx : l[i * (b.length + 1) + k]? = some x) (hb : (i : Int) * ((b.length : Int) + 1) ≤ 1000000) (hk : k ≤ 1000000) (hl : b.length ≤ 1000000) :
    FnE Try.prog 42 [.pointer (some ⟨t, 0, none⟩), .int .i64 i, .int .i64 k] (fun w => Blk w t [va, vb, vn] 104 ∧ RdS w vb 9 (msgs b) ∧ RdS w vn 1 (ints l)) (.int .i64 x) := by
  refine fn_of_J (cx := cx42) hmix Try.func42 (by kernel_rfl) (eq42 _ _ _) fun w hw => ?_
  have hB : ∀ H, SeeS ⟨Try.prog, w, footOf []⟩ H vb 9 (msgs b) := fun H => SeeS.ofW0 hw.2.1 msgs_ne
  have hN : ∀ H, SeeS ⟨Try.prog, w, footOf []⟩ H vn 1 (ints l) := fun H => SeeS.ofW0 hw.2.2 ints_ne
  have h0 : 0 ≤ (i : Int) * ((b.length : Int) + 1) := Int.mul_nonneg (by omega) (by omega)
  refine J.draw ?_
  refine J.op R.nil ?_ -- @t8 nilS a0
  refine J.op fa104_2 ?_
  refine J.op (R.ldB hw.1 o93 rfl) ?_ -- @t10 vS (Instr.loadAt 93 t9)
  refine J.op R.nil ?_ -- @t13 nilS a0
  refine J.op fa104_1 ?_
  refine J.op (R.ldB hw.1 o57 rfl) ?_ -- @t15 vS (Instr.loadAt 57 t14)
  refine J.op (R.lenN sl57 (by first | apply_assumption | exact SeeS.row (by with_reducible repeat (first | exact Pick.here | apply Pick.there))) (by first | exact ints_len | exact bools_len | exact msgs_len | exact trows_len | exact edits_len | rfl)) ?_ -- @t16 bltS .len #[57] 3 #[false] [t15]
  refine J.op (R.add64 (by omega)) ?_ -- @t17 binS .add 3 (.tmp 16) (.const (.int .i64 1)) t16 (.int .i64 1)
  refine J.op (R.mul64 (by omega)) ?_ -- @t18 binS .mul 3 (.tmp 11) (.tmp 17) a1 t17
  refine J.op (R.add64 (by omega)) ?_ -- @t20 binS .add 3 (.tmp 18) (.tmp 19) t18 a2
  have hc : ((i : Int) * ((b.length : Int) + 1) + (k : Int)) = ((i * (b.length + 1) + k : Nat) : Int) := by push_cast; rfl
  rw [hc]
  refine J.ixW sl93 hN (by omega) (ints_get hx) fun gb go hkt21 => ?_ -- @t21 ix t10 t20
  refine J.op (R.ldK0 o3 (hkt21 _)) ?_ -- @t22 vS (Instr.loadAt 3 t21)
  -- @ret[t22]
  exact J.done (RetQ.e1 (by first | rfl | (simp [*]; done) | (simp_all []; done) | skip))

/-- damper/compare.fill -/
theorem s41 (a1 : Option Addr) (n1 c1 : Nat) (a2 : Option Addr) (n2 c2 : Nat) (a b : List Msg) (ha : a.length ≤ 310) (hb : b.length ≤ 310) :
    FnT Try.prog 41 [.slice a1 n1 c1, .slice a2 n2 c2] (fun w => RdS w (.slice a1 n1 c1) 9 (msgs a) ∧ RdS w (.slice a2 n2 c2) 9 (msgs b)) [] (fun v es => ∃ t g, v = .pointer (some ⟨t, 0, none⟩) ∧ es = [Ent.cells t [.slice a1 n1 c1, .slice a2 n2 c2, .slice (some ⟨g, 0, none⟩) ((a.length + 1) * (b.length + 1)) ((a.length + 1) * (b.length + 1))] 104, Ent.row (.slice (some ⟨g, 0, none⟩) ((a.length + 1) * (b.length + 1)) ((a.length + 1) * (b.length + 1))) 1 (ints (tabL a b 0)) 3]) := by
  refine fn_of_J (cx := cx41) hmix Try.func41 (by kernel_rfl) (eq41 _ _) fun w hw => ?_
  have hA : ∀ H, SeeS ⟨Try.prog, w, footOf []⟩ H (.slice a1 n1 c1) 9 (msgs a) := fun H => SeeS.ofW0 hw.1 msgs_ne
  have hB : ∀ H, SeeS ⟨Try.prog, w, footOf []⟩ H (.slice a2 n2 c2) 9 (msgs b) := fun H => SeeS.ofW0 hw.2 msgs_ne
  refine J.op (R.lenN sl57 (by first | apply_assumption | exact SeeS.row (by with_reducible repeat (first | exact Pick.here | apply Pick.there))) (by first | exact ints_len | exact bools_len | exact msgs_len | exact trows_len | exact edits_len | rfl)) ?_ -- @t13 bltS .len #[57] 3 #[false] [a0]
  refine J.op (R.add64 (by omega)) ?_ -- @t14 binS .add 3 (.tmp 13) (.const (.int .i64 1)) t13 (.int .i64 1)
  refine J.op (R.lenN sl57 (by first | apply_assumption | exact SeeS.row (by with_reducible repeat (first | exact Pick.here | apply Pick.there))) (by first | exact ints_len | exact bools_len | exact msgs_len | exact trows_len | exact edits_len | rfl)) ?_ -- @t16 bltS .len #[57] 3 #[false] [a1]
  refine J.op (R.add64 (by omega)) ?_ -- @t17 binS .add 3 (.tmp 16) (.const (.int .i64 1)) t16 (.int .i64 1)
  refine J.op (v := .int .i64 (((a.length + 1) * (b.length + 1) : Nat) : Int)) (by rw [cast_mul2]; exact R.mul64 (mul_in ha hb)) ?_ -- @t18 binS .mul 3 (.tmp 14) (.tmp 17) t14 t17
  refine J.make1 sl93 z3 (by have := mul_nat ha hb; omega) (by have := mul_nat ha hb; simp only [maxLen]; omega) fun g => ?_ -- @t19 vS (Instr.makeSlice 93 t18 t18)
  refine J.op bd104_0_1_2 ?_ -- @t20 vS (Instr.build 104 #[(0, a0), (1, a1), (2, t19)])
  refine J.boxA fun bt21 => ?_
  refine J.op (R.lenN sl57 (by first | apply_assumption | exact SeeS.row (by with_reducible repeat (first | exact Pick.here | apply Pick.there))) (by first | exact ints_len | exact bools_len | exact msgs_len | exact trows_len | exact edits_len | rfl)) ?_ -- @t25 bltS .len #[57] 3 #[false] [a0]
  refine J.op (R.sub64 (by omega)) ?_ -- @t26 binS .sub 3 (.tmp 25) (.const (.int .i64 1)) t25 (.int .i64 1)
  refine J.bind ?_ -- @tv_4 bind tv_4 ([])
  refine J.block ?_
  -- @tx loop [t26]
  refine J.loop (α := Nat) (fun i => i ≤ a.length) (fun i => [.int .i64 ((i : Int) - 1)]) (fun i => [Ent.cells bt21 [.slice a1 n1 c1, .slice a2 n2 c2, .slice (some ⟨g, 0, none⟩) ((a.length + 1) * (b.length + 1)) ((a.length + 1) * (b.length + 1))] 104, Ent.row (.slice (some ⟨g, 0, none⟩) ((a.length + 1) * (b.length + 1)) ((a.length + 1) * (b.length + 1))) 1 (ints (tabL a b (i * (b.length + 1)))) 3]) (fun i => i) a.length (Nat.le_refl _) rfl (by rw [tabL_start, ints_rep]; exact Imp.refl _) ?_
  intro i hi
  try simp only [List.headD_cons, List.tail_cons]
  refine J.opD R.geq (fun ht28 => ?_) (fun ht28 => ?_) -- @t28 binS .geq 3 (.tmp 27) (.const (.int .i64 0)) (tx.headD undef) (.int .i64 0)
  · skip
    refine J.iteT ?_
    obtain ⟨i, rfl⟩ : ∃ j, i = j + 1 := ⟨i - 1, by omega⟩
    rw [show ((i + 1 : Nat) : Int) - 1 = (i : Int) by omega]
    obtain ⟨x, hx⟩ := get_ex (l := a) (i := i) (by omega)
    refine J.bind ?_ -- @tv_3 bind tv_3 ([])
    refine J.block ?_
    refine J.op (R.lenN sl57 (by first | apply_assumption | exact SeeS.row (by with_reducible repeat (first | exact Pick.here | apply Pick.there))) (by first | exact ints_len | exact bools_len | exact msgs_len | exact trows_len | exact edits_len | rfl)) ?_ -- @t32 bltS .len #[57] 3 #[false] [a1]
    refine J.op (R.sub64 (by omega)) ?_ -- @t33 binS .sub 3 (.tmp 32) (.const (.int .i64 1)) t32 (.int .i64 1)
    refine J.bind ?_ -- @tv_2 bind tv_2 ([])
    refine J.block ?_
    -- @tx_1 loop [t33]
    refine J.loop (α := Nat) (fun k => k ≤ b.length) (fun k => [.int .i64 ((k : Int) - 1)]) (fun k => [Ent.cells bt21 [.slice a1 n1 c1, .slice a2 n2 c2, .slice (some ⟨g, 0, none⟩) ((a.length + 1) * (b.length + 1)) ((a.length + 1) * (b.length + 1))] 104, Ent.row (.slice (some ⟨g, 0, none⟩) ((a.length + 1) * (b.length + 1)) ((a.length + 1) * (b.length + 1))) 1 (ints (tabL a b (i * (b.length + 1) + k))) 3]) (fun k => k) b.length (Nat.le_refl _) rfl (by rw [tabL_row]; exact Imp.refl _) ?_
    intro k hk
    try simp only [List.headD_cons, List.tail_cons]
    refine J.opD R.geq (fun ht35 => ?_) (fun ht35 => ?_) -- @t35 binS .geq 3 (.tmp 34) (.const (.int .i64 0)) (tx_1.headD undef) (.int .i64 0)
    · skip
      refine J.iteT ?_
      obtain ⟨k, rfl⟩ : ∃ j, k = j + 1 := ⟨k - 1, by omega⟩
      rw [show ((k + 1 : Nat) : Int) - 1 = (k : Int) by omega]
      obtain ⟨y, hy⟩ := get_ex (l := b) (i := k) (by omega)
      have hst := lcs_step hx hy
      have hl1 := lcs_le (a.drop (i + 1)) (b.drop k)
      have hl2 := lcs_le (a.drop i) (b.drop (k + 1))
      have hl3 := lcs_le (a.drop (i + 1)) (b.drop (k + 1))
      simp only [List.length_drop] at hl1 hl2 hl3
      refine J.bind ?_ -- @tv_1 bind tv_1 ([])
      refine J.block ?_
      refine J.op (R.add64 (by omega)) ?_
      rw [show (i : Int) + 1 = ((i + 1 : Nat) : Int) by omega] -- @t40 binS .add 3 (.tmp 39) (.const (.int .i64 1)) (tx.headD undef) (.int .i64 1)
      refine J.callE en42 (s42 _ (i + 1) (k) _ _ _ b _ _ (tab_get (a := a) (b := b) (q := i * (b.length + 1) + (k + 1)) (by omega) (by omega) (by rw [Nat.succ_mul]; omega)) (by have := mul_le300 (i := i + 1) (b := b) (by omega) (by omega); omega) (by omega) (by omega)) rfl (fun _ _ hs => ⟨Blk.of (by with_reducible repeat (first | exact Pick.here | apply Pick.there)) hs, hB _ _ _ hs, SeeS.row (E := 3) (by with_reducible repeat (first | exact Pick.here | apply Pick.there)) _ _ hs⟩) ?_ -- @t42 callS (.func (.func 42) #[t21] #[]) [t40, (tx_1.headD undef)]
      refine J.op (R.add64 (by omega)) ?_
      rw [show (k : Int) + 1 = ((k + 1 : Nat) : Int) by omega] -- @t46 binS .add 3 (.tmp 45) (.const (.int .i64 1)) (tx_1.headD undef) (.int .i64 1)
      refine J.callE en42 (s42 _ (i) (k + 1) _ _ _ b _ _ (tab_get (a := a) (b := b) (q := i * (b.length + 1) + (k + 1)) (by omega) (by omega) (by omega)) (by have := mul_le300 (i := i) (b := b) (by omega) (by omega); omega) (by omega) (by omega)) rfl (fun _ _ hs => ⟨Blk.of (by with_reducible repeat (first | exact Pick.here | apply Pick.there)) hs, hB _ _ _ hs, SeeS.row (E := 3) (by with_reducible repeat (first | exact Pick.here | apply Pick.there)) _ _ hs⟩) ?_ -- @t47 callS (.func (.func 42) #[t21] #[]) [(tx.headD undef), t46]
      refine J.op R.maxN ?_ -- @t48 bltS .max #[3, 3] 3 #[false, false] [t42, t47]
      refine J.draw ?_
      refine J.ixW sl57 hA (by omega) (msgs_get hx) fun gb go hkt51 => ?_ -- @t51 ix a0 (tx.headD undef)
      refine J.op (R.ldKA ag89 (hkt51 _) rfl) ?_ -- @t52 vS (Instr.loadAt 89 t51)
      refine J.ixW sl57 hB (by omega) (msgs_get hy) fun gb go hkt55 => ?_ -- @t55 ix a1 (tx_1.headD undef)
      refine J.op (R.ldKA ag89 (hkt55 _) rfl) ?_ -- @t56 vS (Instr.loadAt 89 t55)
      refine J.opD (R.eqA gt89 (by repeat (first | exact trivial | refine ⟨⟨_, rfl⟩, ?_⟩)) (by repeat (first | exact trivial | refine ⟨⟨_, rfl⟩, ?_⟩))) (fun ht57 => ?_) (fun ht57 => ?_) -- @t57 binS .eql 89 (.tmp 52) (.tmp 56) t52 t56
      · skip
        refine J.bindJ (fun vs H2 => vs = [.int .i64 ((lcs (a.drop i) (b.drop k) : Nat) : Int)] ∧ H2 = [Ent.cells bt21 [.slice a1 n1 c1, .slice a2 n2 c2, .slice (some ⟨g, 0, none⟩) ((a.length + 1) * (b.length + 1)) ((a.length + 1) * (b.length + 1))] 104, Ent.row (.slice (some ⟨g, 0, none⟩) ((a.length + 1) * (b.length + 1)) ((a.length + 1) * (b.length + 1))) 1 (ints (tabL a b (i * (b.length + 1) + k + 1))) 3]) ?_ ?_ -- @tv
        · skip
          refine J.iteT ?_
          refine J.op (R.add64 (by omega)) ?_
          rw [show (i : Int) + 1 = ((i + 1 : Nat) : Int) by omega] -- @t60 binS .add 3 (.tmp 59) (.const (.int .i64 1)) (tx.headD undef) (.int .i64 1)
          refine J.op (R.add64 (by omega)) ?_
          rw [show (k : Int) + 1 = ((k + 1 : Nat) : Int) by omega] -- @t62 binS .add 3 (.tmp 61) (.const (.int .i64 1)) (tx_1.headD undef) (.int .i64 1)
          refine J.callE en42 (s42 _ (i + 1) (k + 1) _ _ _ b _ _ (tab_get (a := a) (b := b) (q := i * (b.length + 1) + (k + 1)) (by omega) (by omega) (by rw [Nat.succ_mul]; omega)) (by have := mul_le300 (i := i + 1) (b := b) (by omega) (by omega); omega) (by omega) (by omega)) rfl (fun _ _ hs => ⟨Blk.of (by with_reducible repeat (first | exact Pick.here | apply Pick.there)) hs, hB _ _ _ hs, SeeS.row (E := 3) (by with_reducible repeat (first | exact Pick.here | apply Pick.there)) _ _ hs⟩) ?_ -- @t63 callS (.func (.func 42) #[t21] #[]) [t60, t62]
          refine J.op (R.add64 (by omega)) ?_ -- @t64 binS .add 3 (.tmp 63) (.const (.int .i64 1)) t63 (.int .i64 1)
          -- @join[t64]
          exact J.done ⟨by rw [hst, if_pos (Msg.inj.1 ht57)]; rfl, rfl⟩
        · rintro vs H1 ⟨rfl, rfl⟩
          try simp only [List.headD_cons, List.tail_cons]
          refine J.op R.nil ?_ -- @t66 nilS t21
          refine J.op fa104_2 ?_
          refine J.op (R.ld o93 (by with_reducible repeat (first | exact Pick.here | apply Pick.there)) rfl) ?_ -- @t68 vS (Instr.loadAt 93 t67)
          refine J.op (R.lenN sl57 (by first | apply_assumption | exact SeeS.row (by with_reducible repeat (first | exact Pick.here | apply Pick.there))) (by first | exact ints_len | exact bools_len | exact msgs_len | exact trows_len | exact edits_len | rfl)) ?_ -- @t71 bltS .len #[57] 3 #[false] [a1]
          refine J.op (R.add64 (by omega)) ?_ -- @t72 binS .add 3 (.tmp 71) (.const (.int .i64 1)) t71 (.int .i64 1)
          have hmm := mul_le300 (i := i) (b := b) (by omega) (by omega)
          have hmn : 0 ≤ (i : Int) * ((b.length : Int) + 1) := Int.mul_nonneg (by omega) (by omega)
          refine J.op (R.mul64 (by omega)) ?_ -- @t73 binS .mul 3 (.tmp 69) (.tmp 72) (tx.headD undef) t72
          refine J.op (R.add64 (by omega)) ?_ -- @t75 binS .add 3 (.tmp 73) (.tmp 74) t73 (tx_1.headD undef)
          have hc : ((i : Int) * ((b.length : Int) + 1) + (k : Int)) = ((i * (b.length + 1) + k : Nat) : Int) := by push_cast; rfl
          rw [hc]
          refine J.ixO sl93 (by with_reducible repeat (first | exact Pick.here | apply Pick.there)) (by omega) (by rw [ints_len, tabL_len, Int.toNat_natCast]; exact tab_lt (by omega) (by omega)) fun g2 hg2 => ?_
          cases hg2 -- @t77 ix t68 t75
          refine J.stRow (j := i * (b.length + 1) + k) (off := 0) sz3 (by with_reducible repeat (first | exact Pick.here | apply Pick.there)) (by rw [ints_at, tabL_get (tab_lt (by omega) (by omega))]; rfl) (by simp only [Int.toNat_natCast, Nat.mul_one, Nat.add_zero]) (by simp) rfl ?_
          simp only [List.set_cons_zero, List.headD_cons]
          rw [← ints_set, tabL_set (by omega) (by omega)] -- @tu uS (Instr.storeAt 3 t77 (tv.headD undef))
          refine J.done ?_ -- then tv_1 = []
          refine J.op (R.sub64 (by omega)) ?_ -- @t37 binS .sub 3 (.tmp 36) (.const (.int .i64 1)) (tx_1.headD undef) (.int .i64 1)
          -- @again[t37]
          exact J.done ⟨k, by omega, rfl, Imp.refl _, by omega⟩
      · skip
        refine J.bindJ (fun vs H2 => vs = [.int .i64 ((lcs (a.drop i) (b.drop k) : Nat) : Int)] ∧ H2 = [Ent.cells bt21 [.slice a1 n1 c1, .slice a2 n2 c2, .slice (some ⟨g, 0, none⟩) ((a.length + 1) * (b.length + 1)) ((a.length + 1) * (b.length + 1))] 104, Ent.row (.slice (some ⟨g, 0, none⟩) ((a.length + 1) * (b.length + 1)) ((a.length + 1) * (b.length + 1))) 1 (ints (tabL a b (i * (b.length + 1) + k + 1))) 3]) ?_ ?_ -- @tv
        · skip
          refine J.iteF ?_
          -- @join[t48]
          exact J.done ⟨by rw [hst, if_neg (fun e => ht57 (Msg.inj.2 e))], rfl⟩
        · rintro vs H1 ⟨rfl, rfl⟩
          try simp only [List.headD_cons, List.tail_cons]
          refine J.op R.nil ?_ -- @t66 nilS t21
          refine J.op fa104_2 ?_
          refine J.op (R.ld o93 (by with_reducible repeat (first | exact Pick.here | apply Pick.there)) rfl) ?_ -- @t68 vS (Instr.loadAt 93 t67)
          refine J.op (R.lenN sl57 (by first | apply_assumption | exact SeeS.row (by with_reducible repeat (first | exact Pick.here | apply Pick.there))) (by first | exact ints_len | exact bools_len | exact msgs_len | exact trows_len | exact edits_len | rfl)) ?_ -- @t71 bltS .len #[57] 3 #[false] [a1]
          refine J.op (R.add64 (by omega)) ?_ -- @t72 binS .add 3 (.tmp 71) (.const (.int .i64 1)) t71 (.int .i64 1)
          have hmm := mul_le300 (i := i) (b := b) (by omega) (by omega)
          have hmn : 0 ≤ (i : Int) * ((b.length : Int) + 1) := Int.mul_nonneg (by omega) (by omega)
          refine J.op (R.mul64 (by omega)) ?_ -- @t73 binS .mul 3 (.tmp 69) (.tmp 72) (tx.headD undef) t72
          refine J.op (R.add64 (by omega)) ?_ -- @t75 binS .add 3 (.tmp 73) (.tmp 74) t73 (tx_1.headD undef)
          have hc : ((i : Int) * ((b.length : Int) + 1) + (k : Int)) = ((i * (b.length + 1) + k : Nat) : Int) := by push_cast; rfl
          rw [hc]
          refine J.ixO sl93 (by with_reducible repeat (first | exact Pick.here | apply Pick.there)) (by omega) (by rw [ints_len, tabL_len, Int.toNat_natCast]; exact tab_lt (by omega) (by omega)) fun g2 hg2 => ?_
          cases hg2 -- @t77 ix t68 t75
          refine J.stRow (j := i * (b.length + 1) + k) (off := 0) sz3 (by with_reducible repeat (first | exact Pick.here | apply Pick.there)) (by rw [ints_at, tabL_get (tab_lt (by omega) (by omega))]; rfl) (by simp only [Int.toNat_natCast, Nat.mul_one, Nat.add_zero]) (by simp) rfl ?_
          simp only [List.set_cons_zero, List.headD_cons]
          rw [← ints_set, tabL_set (by omega) (by omega)] -- @tu uS (Instr.storeAt 3 t77 (tv.headD undef))
          refine J.done ?_ -- then tv_1 = []
          refine J.op (R.sub64 (by omega)) ?_ -- @t37 binS .sub 3 (.tmp 36) (.const (.int .i64 1)) (tx_1.headD undef) (.int .i64 1)
          -- @again[t37]
          exact J.done ⟨k, by omega, rfl, Imp.refl _, by omega⟩
    · skip
      refine J.iteF ?_
      refine J.done ⟨fun _ => ?_, fun h => absurd rfl h⟩ -- exit []
      refine J.done ?_ -- then tv_3 = []
      obtain rfl : k = 0 := by omega
      refine J.op (R.sub64 (by omega)) ?_ -- @t30 binS .sub 3 (.tmp 29) (.const (.int .i64 1)) (tx.headD undef) (.int .i64 1)
      -- @again[t30]
      exact J.done ⟨i, by omega, rfl, Imp.refl _, by omega⟩
  · skip
    refine J.iteF ?_
    refine J.done ⟨fun _ => ?_, fun h => absurd rfl h⟩ -- exit []
    -- @ret[t21]
    obtain rfl : i = 0 := by omega
    rw [Nat.zero_mul]
    exact J.done (RetQ.t1 (es := [Ent.cells bt21 [.slice a1 n1 c1, .slice a2 n2 c2, .slice (some ⟨g, 0, none⟩) ((a.length + 1) * (b.length + 1)) ((a.length + 1) * (b.length + 1))] 104, Ent.row (.slice (some ⟨g, 0, none⟩) ((a.length + 1) * (b.length + 1)) ((a.length + 1) * (b.length + 1))) 1 (ints (tabL a b 0)) 3]) (by (try dsimp only); repeat (first | exact Has.nil | refine Has.cons (by repeat (first | (with_reducible exact Out.here) | ((with_reducible refine Out.cells ?_); first | rfl | (simp; done)) | ((with_reducible refine Out.row ?_); first | rfl | (simp; done)) | (with_reducible apply Out.there))) ?_)) ⟨_, _, rfl, rfl⟩)

/-- (*damper/compare.table).next -/
theorem s45 (t i k : Nat) (va vb vn : Value) (a b : List Msg) (ha : a.length ≤ 310) (hb : b.length ≤ 310) (hi : i ≤ a.length) (hk : k ≤ b.length) :
    FnE Try.prog 45 [.pointer (some ⟨t, 0, none⟩), .int .i64 i, .int .i64 k] (fun w => Blk w t [va, vb, vn] 104 ∧ RdS w va 9 (msgs a) ∧ RdS w vb 9 (msgs b) ∧ RdS w vn 1 (ints (tabL a b 0))) (.agg (nextE a b i k).cells.toArray) := by
  refine fn_of_J (cx := cx45) hmix Try.func45 (by kernel_rfl) (eq45 _ _ _) fun w hw => ?_
  have hA : ∀ H, SeeS ⟨Try.prog, w, footOf []⟩ H va 9 (msgs a) := fun H => SeeS.ofW0 hw.2.1 msgs_ne
  have hB : ∀ H, SeeS ⟨Try.prog, w, footOf []⟩ H vb 9 (msgs b) := fun H => SeeS.ofW0 hw.2.2.1 msgs_ne
  have hN : ∀ H, SeeS ⟨Try.prog, w, footOf []⟩ H vn 1 (ints (tabL a b 0)) := fun H => SeeS.ofW0 hw.2.2.2 ints_ne
  refine J.alloc z68 fun bt6 => ?_
  refine J.bind ?_ -- @tv_2 bind tv_2 ([])
  refine J.block ?_
  refine J.bindB (i < a.length ∧ k < b.length ∧ a[i]? = b[k]?) ?_ (fun hbtv => ?_) (fun hbtv => ?_) -- @tv
  · skip
    refine J.draw ?_
    refine J.op R.nil ?_ -- @t10 nilS a0
    refine J.op fa104_0 ?_
    refine J.op (R.ldB hw.1 o57 rfl) ?_ -- @t12 vS (Instr.loadAt 57 t11)
    refine J.op (R.lenN sl57 (by first | apply_assumption | exact SeeS.row (by with_reducible repeat (first | exact Pick.here | apply Pick.there))) (by first | exact ints_len | exact bools_len | exact msgs_len | exact trows_len | exact edits_len | rfl)) ?_ -- @t13 bltS .len #[57] 3 #[false] [t12]
    refine J.opD R.lss (fun ht14 => ?_) (fun ht14 => ?_) -- @t14 binS .lss 3 (.tmp 8) (.tmp 13) a1 t13
    · skip
      refine J.gopT rfl ?_
      refine J.op R.pure ?_
      refine J.gopT rfl ?_
      refine J.op R.pure ?_
      refine J.gopT rfl ?_
      refine J.op R.nil ?_ -- @t18 nilS t17
      refine J.gopT rfl ?_
      refine J.op fa104_1 ?_
      refine J.gopT rfl ?_
      refine J.op (R.ldB hw.1 o57 rfl) ?_ -- @t20 vS (Instr.loadAt 57 t19)
      refine J.gopT rfl ?_
      refine J.op (R.lenN sl57 (by first | apply_assumption | exact SeeS.row (by with_reducible repeat (first | exact Pick.here | apply Pick.there))) (by first | exact ints_len | exact bools_len | exact msgs_len | exact trows_len | exact edits_len | rfl)) ?_ -- @t21 bltS .len #[57] 3 #[false] [t20]
      refine J.gopT rfl ?_
      refine J.opD R.lss (fun ht22 => ?_) (fun ht22 => ?_) -- @t22 binS .lss 3 (.tmp 16) (.tmp 21) t16 t21
      · skip
        refine J.op R.pickT ?_ -- @t23 pickS t14 t22 (.bool false)
        refine J.gopT rfl ?_
        refine J.op R.pure ?_
        refine J.gopT rfl ?_
        refine J.op R.nil ?_ -- @t26 nilS t25
        refine J.gopT rfl ?_
        refine J.op fa104_0 ?_
        refine J.gopT rfl ?_
        refine J.op (R.ldB hw.1 o57 rfl) ?_ -- @t28 vS (Instr.loadAt 57 t27)
        refine J.gopT rfl ?_
        refine J.op R.pure ?_
        refine J.gopT rfl ?_
        obtain ⟨x, hx⟩ := get_ex (l := a) (i := i) (by omega)
        refine J.ixW sl57 hA (by omega) (msgs_get hx) fun gb go hkt30 => ?_ -- @t30 ix t28 t29
        refine J.gopT rfl ?_
        refine J.op (R.ldKA ag89 (hkt30 _) rfl) ?_ -- @t31 vS (Instr.loadAt 89 t30)
        refine J.gopT rfl ?_
        refine J.op R.pure ?_
        refine J.gopT rfl ?_
        refine J.op R.nil ?_ -- @t33 nilS t32
        refine J.gopT rfl ?_
        refine J.op fa104_1 ?_
        refine J.gopT rfl ?_
        refine J.op (R.ldB hw.1 o57 rfl) ?_ -- @t35 vS (Instr.loadAt 57 t34)
        refine J.gopT rfl ?_
        refine J.op R.pure ?_
        refine J.gopT rfl ?_
        obtain ⟨y, hy⟩ := get_ex (l := b) (i := k) (by omega)
        refine J.ixW sl57 hB (by omega) (msgs_get hy) fun gb go hkt37 => ?_ -- @t37 ix t35 t36
        refine J.gopT rfl ?_
        refine J.op (R.ldKA ag89 (hkt37 _) rfl) ?_ -- @t38 vS (Instr.loadAt 89 t37)
        refine J.gopT rfl ?_
        refine J.op (R.eqA gt89 (by repeat (first | exact trivial | refine ⟨⟨_, rfl⟩, ?_⟩)) (by repeat (first | exact trivial | refine ⟨⟨_, rfl⟩, ?_⟩))) ?_ -- @t39 binS .eql 89 (.tmp 31) (.tmp 38) t31 t38
        refine J.op R.pickT ?_ -- @t40 pickS t23 t39 (.bool false)
        exact J.done ⟨rfl, by simp only [List.cons.injEq, Value.bool.injEq, and_true]; exact decide_eq_decide.2 ⟨fun h => ⟨by omega, by omega, by rw [hx, hy, Msg.inj.1 h]⟩, fun h => Msg.inj.2 (Option.some.inj (by rw [← hx, ← hy]; exact h.2.2))⟩, rfl⟩ -- @leaf[t40]
      · skip
        refine J.op R.pickT ?_ -- @t23 pickS t14 t22 (.bool false)
        refine J.gopF rfl ?_
        refine J.gopF rfl ?_
        refine J.gopF rfl ?_
        refine J.gopF rfl ?_
        refine J.gopF rfl ?_
        refine J.gopF rfl ?_
        refine J.gopF rfl ?_
        refine J.gopF rfl ?_
        refine J.gopF rfl ?_
        refine J.gopF rfl ?_
        refine J.gopF rfl ?_
        refine J.gopF rfl ?_
        refine J.gopF rfl ?_
        refine J.gopF rfl ?_
        refine J.gopF rfl ?_
        refine J.op R.pickF ?_ -- @t40 pickS t23 t39 (.bool false)
        have hn : ¬ (i < a.length ∧ k < b.length ∧ a[i]? = b[k]?) := fun h => by omega
        exact J.done ⟨rfl, by simp [hn], rfl⟩ -- @leaf[t40]#2
    · skip
      refine J.gopF rfl ?_
      refine J.gopF rfl ?_
      refine J.gopF rfl ?_
      refine J.gopF rfl ?_
      refine J.gopF rfl ?_
      refine J.gopF rfl ?_
      refine J.gopF rfl ?_
      refine J.op R.pickF ?_ -- @t23 pickS t14 t22 (.bool false)
      refine J.gopF rfl ?_
      refine J.gopF rfl ?_
      refine J.gopF rfl ?_
      refine J.gopF rfl ?_
      refine J.gopF rfl ?_
      refine J.gopF rfl ?_
      refine J.gopF rfl ?_
      refine J.gopF rfl ?_
      refine J.gopF rfl ?_
      refine J.gopF rfl ?_
      refine J.gopF rfl ?_
      refine J.gopF rfl ?_
      refine J.gopF rfl ?_
      refine J.gopF rfl ?_
      refine J.gopF rfl ?_
      refine J.op R.pickF ?_ -- @t40 pickS t23 t39 (.bool false)
      have hn : ¬ (i < a.length ∧ k < b.length ∧ a[i]? = b[k]?) := fun h => by omega
      exact J.done ⟨rfl, by simp [hn], rfl⟩ -- @leaf[t40]#3
  · skip
    refine J.iteT ?_
    refine J.op bd68_0_1_2 ?_ -- @t43 vS (Instr.build 68 #[(0, (.int .i64 0)), (1, a1), (2, a2)])
    refine J.stW sz68 (by with_reducible repeat (first | exact Pick.here | apply Pick.there)) rfl rfl rfl ?_ -- @tu uS (Instr.storeAt 68 t6 t43)
    -- @ret[t6]
    exact J.done (RetQ.c ag68 (by with_reducible repeat (first | exact Pick.here | apply Pick.there)) rfl (by unfold nextE; rw [if_pos hbtv]; rfl))
  · skip
    refine J.iteF ?_
    refine J.op R.nil ?_ -- @t47 nilS a0
    refine J.op fa104_1 ?_
    refine J.op (R.ldB hw.1 o57 rfl) ?_ -- @t49 vS (Instr.loadAt 57 t48)
    refine J.op (R.lenN sl57 (by first | apply_assumption | exact SeeS.row (by with_reducible repeat (first | exact Pick.here | apply Pick.there))) (by first | exact ints_len | exact bools_len | exact msgs_len | exact trows_len | exact edits_len | rfl)) ?_ -- @t50 bltS .len #[57] 3 #[false] [t49]
    refine J.opD R.eql (fun ht51 => ?_) (fun ht51 => ?_) -- @t51 binS .eql 3 (.tmp 45) (.tmp 50) a2 t50
    · skip
      refine J.iteT ?_
      refine J.op bd68_0_1_2 ?_ -- @t54 vS (Instr.build 68 #[(0, (.int .i64 1)), (1, a1), (2, a2)])
      refine J.stW sz68 (by with_reducible repeat (first | exact Pick.here | apply Pick.there)) rfl rfl rfl ?_ -- @tu_1 uS (Instr.storeAt 68 t6 t54)
      -- @ret[t6]#2
      exact J.done (RetQ.c ag68 (by with_reducible repeat (first | exact Pick.here | apply Pick.there)) rfl (by unfold nextE; rw [if_neg hbtv, if_pos (Or.inl (by omega))]; rfl))
    · skip
      refine J.iteF ?_
      refine J.bindB (i < a.length ∧ lcs (a.drop i) (b.drop (k + 1)) ≤ lcs (a.drop (i + 1)) (b.drop k)) ?_ (fun hbtv_1 => ?_) (fun hbtv_1 => ?_) -- @tv_1
      · skip
        refine J.op R.nil ?_ -- @t58 nilS a0
        refine J.op fa104_0 ?_
        refine J.op (R.ldB hw.1 o57 rfl) ?_ -- @t60 vS (Instr.loadAt 57 t59)
        refine J.op (R.lenN sl57 (by first | apply_assumption | exact SeeS.row (by with_reducible repeat (first | exact Pick.here | apply Pick.there))) (by first | exact ints_len | exact bools_len | exact msgs_len | exact trows_len | exact edits_len | rfl)) ?_ -- @t61 bltS .len #[57] 3 #[false] [t60]
        refine J.opD R.lss (fun ht62 => ?_) (fun ht62 => ?_) -- @t62 binS .lss 3 (.tmp 56) (.tmp 61) a1 t61
        · skip
          refine J.gopT rfl ?_
          refine J.op R.pure ?_
          refine J.gopT rfl ?_
          refine J.op R.pure ?_
          refine J.gopT rfl ?_
          refine J.op (R.add64 (by omega)) ?_
          rw [show (i : Int) + 1 = ((i + 1 : Nat) : Int) by omega] -- @t66 binS .add 3 (.tmp 65) (.const (.int .i64 1)) t65 (.int .i64 1)
          refine J.gopT rfl ?_
          refine J.op R.pure ?_
          refine J.gopT rfl ?_
          refine J.callE en42 (s42 _ (i + 1) (k) _ _ _ b _ _ (tab_get (a := a) (b := b) (q := 0) (by omega) (by omega) (by omega)) (by have := mul_le300 (i := i + 1) (b := b) (by omega) (by omega); omega) (by omega) (by omega)) rfl (fun _ _ hs => ⟨hs.frame _ (Array.getElem?_eq_some_iff.1 hw.1).1 not_foot |>.trans hw.1, hB _ _ _ hs, hN _ _ _ hs⟩) ?_ -- @t68 callS (.func (.func 42) #[] #[]) [t64, t66, t67]
          refine J.gopT rfl ?_
          refine J.op R.pure ?_
          refine J.gopT rfl ?_
          refine J.op R.pure ?_
          refine J.gopT rfl ?_
          refine J.op R.pure ?_
          refine J.gopT rfl ?_
          refine J.op (R.add64 (by omega)) ?_
          rw [show (k : Int) + 1 = ((k + 1 : Nat) : Int) by omega] -- @t72 binS .add 3 (.tmp 71) (.const (.int .i64 1)) t71 (.int .i64 1)
          refine J.gopT rfl ?_
          refine J.callE en42 (s42 _ (i) (k + 1) _ _ _ b _ _ (tab_get (a := a) (b := b) (q := 0) (by omega) (by omega) (by omega)) (by have := mul_le300 (i := i) (b := b) (by omega) (by omega); omega) (by omega) (by omega)) rfl (fun _ _ hs => ⟨hs.frame _ (Array.getElem?_eq_some_iff.1 hw.1).1 not_foot |>.trans hw.1, hB _ _ _ hs, hN _ _ _ hs⟩) ?_ -- @t73 callS (.func (.func 42) #[] #[]) [t69, t70, t72]
          refine J.gopT rfl ?_
          refine J.op R.geq ?_ -- @t74 binS .geq 3 (.tmp 68) (.tmp 73) t68 t73
          refine J.op R.pickT ?_ -- @t75 pickS t62 t74 (.bool false)
          exact J.done ⟨rfl, by simp; omega, rfl⟩ -- @leaf[t75]
        · skip
          refine J.gopF rfl ?_
          refine J.gopF rfl ?_
          refine J.gopF rfl ?_
          refine J.gopF rfl ?_
          refine J.gopF rfl ?_
          refine J.gopF rfl ?_
          refine J.gopF rfl ?_
          refine J.gopF rfl ?_
          refine J.gopF rfl ?_
          refine J.gopF rfl ?_
          refine J.gopF rfl ?_
          refine J.op R.pickF ?_ -- @t75 pickS t62 t74 (.bool false)
          exact J.done ⟨rfl, by simp; omega, rfl⟩ -- @leaf[t75]#2
      · skip
        refine J.iteT ?_
        refine J.op bd68_0_1_2 ?_ -- @t78 vS (Instr.build 68 #[(0, (.int .i64 1)), (1, a1), (2, a2)])
        refine J.stW sz68 (by with_reducible repeat (first | exact Pick.here | apply Pick.there)) rfl rfl rfl ?_ -- @tu_2 uS (Instr.storeAt 68 t6 t78)
        -- @ret[t6]#3
        exact J.done (RetQ.c ag68 (by with_reducible repeat (first | exact Pick.here | apply Pick.there)) rfl (by unfold nextE; rw [if_neg hbtv, if_pos (Or.inr hbtv_1)]; rfl))
      · skip
        refine J.iteF ?_
        refine J.done ?_ -- then tv_2 = []
        refine J.op bd68_0_1_2 ?_ -- @t81 vS (Instr.build 68 #[(0, (.int .i64 2)), (1, a1), (2, a2)])
        refine J.stW sz68 (by with_reducible repeat (first | exact Pick.here | apply Pick.there)) rfl rfl rfl ?_ -- @tu_3 uS (Instr.storeAt 68 t6 t81)
        -- @ret[t6]#4
        exact J.done (RetQ.c ag68 (by with_reducible repeat (first | exact Pick.here | apply Pick.there)) rfl (by unfold nextE; rw [if_neg hbtv, if_neg (fun h => h.elim (by omega) hbtv_1)]; rfl))

/-- damper/compare.Common -/
theorem s28 (a1 : Option Addr) (n1 c1 : Nat) (a2 : Option Addr) (n2 c2 : Nat) (a b : List Msg) (ha : a.length ≤ 310) (hb : b.length ≤ 310) :
    FnE Try.prog 28 [.slice a1 n1 c1, .slice a2 n2 c2] (fun w => RdS w (.slice a1 n1 c1) 9 (msgs a) ∧ RdS w (.slice a2 n2 c2) 9 (msgs b)) (.int .i64 (if 300 < a.length ∨ 300 < b.length then -1 else ((lcs a b : Nat) : Int))) := by
  refine fn_of_J (cx := cx28) hmix Try.func28 (by kernel_rfl) (eq28 _ _) fun w hw => ?_
  have hA : ∀ H, SeeS ⟨Try.prog, w, footOf []⟩ H (.slice a1 n1 c1) 9 (msgs a) := fun H => SeeS.ofW0 hw.1 msgs_ne
  have hB : ∀ H, SeeS ⟨Try.prog, w, footOf []⟩ H (.slice a2 n2 c2) 9 (msgs b) := fun H => SeeS.ofW0 hw.2 msgs_ne
  refine J.bindB (300 < a.length ∨ 300 < b.length) ?_ (fun hbtv => ?_) (fun hbtv => ?_) -- @tv
  · skip
    refine J.op (R.lenN sl57 (by first | apply_assumption | exact SeeS.row (by with_reducible repeat (first | exact Pick.here | apply Pick.there))) (by first | exact ints_len | exact bools_len | exact msgs_len | exact trows_len | exact edits_len | rfl)) ?_ -- @t6 bltS .len #[57] 3 #[false] [a0]
    refine J.opD R.gtr (fun ht7 => ?_) (fun ht7 => ?_) -- @t7 binS .gtr 3 (.tmp 6) (.const (.int .i64 300)) t6 (.int .i64 300)
    · skip
      refine J.gopF rfl ?_
      refine J.gopF rfl ?_
      refine J.gopF rfl ?_
      refine J.op R.pickT ?_ -- @t12 pickS t7 (.bool true) t11
      exact J.done ⟨rfl, by simp; omega, rfl⟩ -- @leaf[t12]
    · skip
      refine J.gopT rfl ?_
      refine J.op R.pure ?_
      refine J.gopT rfl ?_
      refine J.op (R.lenN sl57 (by first | apply_assumption | exact SeeS.row (by with_reducible repeat (first | exact Pick.here | apply Pick.there))) (by first | exact ints_len | exact bools_len | exact msgs_len | exact trows_len | exact edits_len | rfl)) ?_ -- @t10 bltS .len #[57] 3 #[false] [t9]
      refine J.gopT rfl ?_
      refine J.op R.gtr ?_ -- @t11 binS .gtr 3 (.tmp 10) (.const (.int .i64 300)) t10 (.int .i64 300)
      refine J.op R.pickF ?_ -- @t12 pickS t7 (.bool true) t11
      exact J.done ⟨rfl, congrArg (fun x => [Value.bool x]) (decide_eq_decide.2 (by omega)), rfl⟩ -- @leaf[t12]#2
  · skip
    refine J.iteT ?_
    -- @ret[(.int.i64(-1))]
    exact J.done (RetQ.e1 (by rw [if_pos hbtv]))
  · skip
    refine J.iteF ?_
    refine J.callT en41 (s41 _ _ _ _ _ _ a b ha hb) rfl (fun _ _ hs => ⟨hA _ _ _ hs, hB _ _ _ hs⟩) Take.nil (fun v es hv => ?_)
    obtain ⟨t, g, rfl, rfl⟩ := hv
    simp only [List.cons_append, List.nil_append] -- @t15 callS (.func (.func 41) #[] #[]) [a0, a1]
    refine J.callE en42 (s42 _ 0 0 _ _ _ b _ _ (tab_get (a := a) (b := b) (q := 0) (by omega) (by omega) (by omega)) (by simp) (by omega) (by omega)) rfl (fun _ _ hs => ⟨Blk.of (by with_reducible repeat (first | exact Pick.here | apply Pick.there)) hs, hB _ _ _ hs, SeeS.row (E := 3) (by with_reducible repeat (first | exact Pick.here | apply Pick.there)) _ _ hs⟩) ?_ -- @t16 callS (.func (.func 42) #[] #[]) [t15, (.int .i64 0), (.int .i64 0)]
    -- @ret[t16]
    exact J.done (RetQ.e1 (by rw [if_neg hbtv]; rfl))

/-- damper/compare.Edits -/
theorem s32 (a1 : Option Addr) (n1 c1 : Nat) (a2 : Option Addr) (n2 c2 : Nat) (a b : List Msg) (ha : a.length ≤ 310) (hb : b.length ≤ 310) :
    FnT Try.prog 32 [.slice a1 n1 c1, .slice a2 n2 c2] (fun w => RdS w (.slice a1 n1 c1) 9 (msgs a) ∧ RdS w (.slice a2 n2 c2) 9 (msgs b)) [] (fun v es => ∃ oa on oc, v = .slice oa on oc ∧ es = [Ent.row (.slice oa on oc) 3 (edits (editsOf a b)) 68]) := by
  refine fn_of_J (cx := cx32) hmix Try.func32 (by kernel_rfl) (eq32 _ _) fun w hw => ?_
  have hA : ∀ H, SeeS ⟨Try.prog, w, footOf []⟩ H (.slice a1 n1 c1) 9 (msgs a) := fun H => SeeS.ofW0 hw.1 msgs_ne
  have hB : ∀ H, SeeS ⟨Try.prog, w, footOf []⟩ H (.slice a2 n2 c2) 9 (msgs b) := fun H => SeeS.ofW0 hw.2 msgs_ne
  refine J.bindB (300 < a.length ∨ 300 < b.length) ?_ (fun hbtv => ?_) (fun hbtv => ?_) -- @tv
  · skip
    refine J.op (R.lenN sl57 (by first | apply_assumption | exact SeeS.row (by with_reducible repeat (first | exact Pick.here | apply Pick.there))) (by first | exact ints_len | exact bools_len | exact msgs_len | exact trows_len | exact edits_len | rfl)) ?_ -- @t11 bltS .len #[57] 3 #[false] [a0]
    refine J.opD R.gtr (fun ht12 => ?_) (fun ht12 => ?_) -- @t12 binS .gtr 3 (.tmp 11) (.const (.int .i64 300)) t11 (.int .i64 300)
    · skip
      refine J.gopF rfl ?_
      refine J.gopF rfl ?_
      refine J.gopF rfl ?_
      refine J.op R.pickT ?_ -- @t17 pickS t12 (.bool true) t16
      exact J.done ⟨rfl, by simp; omega, rfl⟩ -- @leaf[t17]
    · skip
      refine J.gopT rfl ?_
      refine J.op R.pure ?_
      refine J.gopT rfl ?_
      refine J.op (R.lenN sl57 (by first | apply_assumption | exact SeeS.row (by with_reducible repeat (first | exact Pick.here | apply Pick.there))) (by first | exact ints_len | exact bools_len | exact msgs_len | exact trows_len | exact edits_len | rfl)) ?_ -- @t15 bltS .len #[57] 3 #[false] [t14]
      refine J.gopT rfl ?_
      refine J.op R.gtr ?_ -- @t16 binS .gtr 3 (.tmp 15) (.const (.int .i64 300)) t15 (.int .i64 300)
      refine J.op R.pickF ?_ -- @t17 pickS t12 (.bool true) t16
      exact J.done ⟨rfl, congrArg (fun x => [Value.bool x]) (decide_eq_decide.2 (by omega)), rfl⟩ -- @leaf[t17]#2
  · skip
    refine J.iteT ?_
    -- @ret[(.slicenone00)]
    refine J.nilRow (sz := 3) (E := 68) ?_
    exact J.done (RetQ.t1 (es := [Ent.row (.slice none 0 0) 3 (edits (editsOf a b)) 68]) (by unfold editsOf; rw [if_pos hbtv]; exact (by (try dsimp only); repeat (first | exact Has.nil | refine Has.cons (by repeat (first | (with_reducible exact Out.here) | ((with_reducible refine Out.cells ?_); first | rfl | (simp; done)) | ((with_reducible refine Out.row ?_); first | rfl | (simp; done)) | (with_reducible apply Out.there))) ?_))) ⟨_, _, _, rfl, rfl⟩)
  · skip
    refine J.iteF ?_
    refine J.callT en41 (s41 _ _ _ _ _ _ a b ha hb) rfl (fun _ _ hs => ⟨hA _ _ _ hs, hB _ _ _ hs⟩) Take.nil (fun v es hv => ?_)
    obtain ⟨t, g, rfl, rfl⟩ := hv
    simp only [List.cons_append, List.nil_append] -- @t20 callS (.func (.func 41) #[] #[]) [a0, a1]
    refine J.bind ?_ -- @tv_5 bind tv_5 ([4])
    refine J.block ?_
    -- @tx loop [(.slice none 0 0), (.int .i64 0), (.int .i64 0)]
    refine J.nilRow (sz := 3) (E := 68) ?_
    refine J.loop (α := Nat × Nat × Nat × List Edit × Option Addr × Nat × Nat) (fun (n, i, k, l, _) => i ≤ a.length ∧ k ≤ b.length ∧ (a.length - i) + (b.length - k) ≤ n ∧ l ++ restE a b n i k = editsOf a b) (fun (_, i, k, _, oa, on, oc) => [.slice oa on oc, .int .i64 i, .int .i64 k])
      (fun (_, _, _, l, oa, on, oc) => [Ent.row (.slice oa on oc) 3 (edits l) 68, Ent.cells t [.slice a1 n1 c1, .slice a2 n2 c2, .slice (some ⟨g, 0, none⟩) ((a.length + 1) * (b.length + 1)) ((a.length + 1) * (b.length + 1))] 104, Ent.row (.slice (some ⟨g, 0, none⟩) ((a.length + 1) * (b.length + 1)) ((a.length + 1) * (b.length + 1))) 1 (ints (tabL a b 0)) 3])
      (fun (_, i, k, _) => (a.length - i) + (b.length - k)) (a.length + b.length, 0, 0, [], none, 0, 0) ⟨Nat.zero_le _, Nat.zero_le _, by omega, by unfold editsOf; rw [if_neg hbtv]; rfl⟩ rfl (Imp.refl _) ?_
    rintro ⟨n, i, k, l, oa, on, oc⟩ ⟨hi, hk, hn, hl⟩
    dsimp only at hi hk hn hl ⊢
    try simp only [List.headD_cons, List.tail_cons]
    refine J.bind ?_ -- @tv_4 bind tv_4 ([4, 7, 8])
    refine J.block ?_
    refine J.bindB (i = a.length ∧ k = b.length) ?_ (fun hbtv_1 => ?_) (fun hbtv_1 => ?_) -- @tv_1
    · skip
      refine J.op (R.lenN sl57 (by first | apply_assumption | exact SeeS.row (by with_reducible repeat (first | exact Pick.here | apply Pick.there))) (by first | exact ints_len | exact bools_len | exact msgs_len | exact trows_len | exact edits_len | rfl)) ?_ -- @t25 bltS .len #[57] 3 #[false] [a0]
      refine J.opD R.eql (fun ht26 => ?_) (fun ht26 => ?_) -- @t26 binS .eql 3 (.tmp 23) (.tmp 25) (tx.tail.headD undef) t25
      · skip
        refine J.gopT rfl ?_
        refine J.op R.pure ?_
        refine J.gopT rfl ?_
        refine J.op R.pure ?_
        refine J.gopT rfl ?_
        refine J.op (R.lenN sl57 (by first | apply_assumption | exact SeeS.row (by with_reducible repeat (first | exact Pick.here | apply Pick.there))) (by first | exact ints_len | exact bools_len | exact msgs_len | exact trows_len | exact edits_len | rfl)) ?_ -- @t30 bltS .len #[57] 3 #[false] [t29]
        refine J.gopT rfl ?_
        refine J.op R.eql ?_ -- @t31 binS .eql 3 (.tmp 28) (.tmp 30) t28 t30
        refine J.op R.pickT ?_ -- @t32 pickS t26 t31 (.bool false)
        exact J.done ⟨rfl, congrArg (fun x => [Value.bool x]) (decide_eq_decide.2 (by omega)), rfl⟩ -- @leaf[t32]
      · skip
        refine J.gopF rfl ?_
        refine J.gopF rfl ?_
        refine J.gopF rfl ?_
        refine J.gopF rfl ?_
        refine J.op R.pickF ?_ -- @t32 pickS t26 t31 (.bool false)
        have hn2 : ¬ (i = a.length ∧ k = b.length) := fun h => by omega
        exact J.done ⟨rfl, by simp [hn2], rfl⟩ -- @leaf[t32]#2
    · skip
      refine J.iteT ?_
      refine J.done ⟨fun h => absurd h (by decide), fun _ => ⟨fun _ => ?_, fun h => absurd rfl h⟩⟩ -- exit [(tx.headD undef)]
      -- @ret[(tv_5.headDundef)]
      obtain ⟨rfl, rfl⟩ := hbtv_1
      have hl2 : l = editsOf a b := by
        rw [← hl]
        cases n with
        | zero => simp [restE]
        | succ n => unfold restE; simp
      exact J.done (RetQ.t1 (es := [Ent.row (.slice oa on oc) 3 (edits (editsOf a b)) 68]) (by subst hl2; exact (by (try dsimp only); repeat (first | exact Has.nil | refine Has.cons (by repeat (first | (with_reducible exact Out.here) | ((with_reducible refine Out.cells ?_); first | rfl | (simp; done)) | ((with_reducible refine Out.row ?_); first | rfl | (simp; done)) | (with_reducible apply Out.there))) ?_))) ⟨_, _, _, rfl, rfl⟩)
    · skip
      refine J.iteF ?_
      obtain ⟨m, rfl⟩ : ∃ m, n = m + 1 := ⟨n - 1, by omega⟩
      obtain ⟨hs1, hs2, hs3, hs4⟩ := next_ok hi hk hbtv_1
      have hll : l.length ≤ 620 := by
        have h1 := congrArg List.length hl
        rw [List.length_append] at h1
        have h2 : (editsOf a b).length ≤ a.length + b.length := by
          unfold editsOf
          split
          · simp
          · exact restE_len _ _ _ _ _
        omega
      refine J.callE en45 (s45 _ i k _ _ _ a b ha hb hi hk) rfl (fun _ _ hs => ⟨Blk.of (by with_reducible repeat (first | exact Pick.here | apply Pick.there)) hs, hA _ _ _ hs, hB _ _ _ hs, SeeS.row (E := 3) (by with_reducible repeat (first | exact Pick.here | apply Pick.there)) _ _ hs⟩) ?_ -- @t36 callS (.func (.func 45) #[t20] #[]) [(tx.tail.headD undef), (tx.tail.tail.headD undef)]
      refine J.alloc z68 fun bt9 => ?_
      refine J.stW sz68 (by with_reducible repeat (first | exact Pick.here | apply Pick.there)) rfl rfl rfl ?_ -- @tu uS (Instr.storeAt 68 t9 t36)
      refine J.op (R.ldA ag68 (by with_reducible repeat (first | exact Pick.here | apply Pick.there)) rfl) ?_ -- @t38 vS (Instr.loadAt 68 t9)
      refine J.bs (cs := (nextE a b i k).cells) (E := 68) (fun w => by kernel_rfl) fun bt39 => ?_ -- @t39 vS (Instr.buildSlice 62 1 #[(0, t38)])
      refine J.append sl62 (by with_reducible repeat (first | exact Pick.here | apply Pick.there)) (SeeS.cells (els := [(nextE a b i k).cells]) (by with_reducible repeat (first | exact Pick.here | apply Pick.there)) rfl (by decide) (by intro i l hi j u hj; rcases i with _ | i <;> simp at hi; subst hi; simpa using hj)) (by intro l hl; simp at hl; subst hl; exact ⟨rfl, allOne_spec rfl⟩) (by rw [edits_len]; simp; omega) (by rw [edits_len]; simp [maxLen]; omega) fun at40 nt40 ct40 => ?_ -- @t40 bltS .append #[62, 62] 62 #[false, false] [(tx.headD undef), t39]
      refine J.op fa68_0 ?_
      refine J.op (R.ld o3 (by with_reducible repeat (first | exact Pick.here | apply Pick.there)) rfl) ?_ -- @t42 vS (Instr.loadAt 3 t41)
      refine J.opD R.neq (fun ht43 => ?_) (fun ht43 => ?_) -- @t43 binS .neq 3 (.tmp 42) (.const (.int .i64 2)) t42 (.int .i64 2)
      · skip
        refine J.bindJ (fun vs H2 => vs = [.int .i64 ((stepI (nextE a b i k) i : Nat) : Int)] ∧ H2 = [Ent.cells bt39 (nextE a b i k).cells 68, Ent.cells bt9 (nextE a b i k).cells 68, Ent.row (.slice at40 nt40 ct40) 3 (edits l ++ [(nextE a b i k).cells]) 68, Ent.cells t [.slice a1 n1 c1, .slice a2 n2 c2, .slice (some ⟨g, 0, none⟩) ((a.length + 1) * (b.length + 1)) ((a.length + 1) * (b.length + 1))] 104, Ent.row (.slice (some ⟨g, 0, none⟩) ((a.length + 1) * (b.length + 1)) ((a.length + 1) * (b.length + 1))) 1 (ints (tabL a b 0)) 3]) ?_ ?_ -- @tv_2
        · skip
          refine J.iteT ?_
          refine J.op (R.add64 (by omega)) ?_ -- @t45 binS .add 3 (.tmp 44) (.const (.int .i64 1)) (tx.tail.headD undef) (.int .i64 1)
          -- @join[t45]
          exact J.done ⟨by unfold stepI; rw [if_neg ht43]; rfl, rfl⟩
        · rintro vs H1 ⟨rfl, rfl⟩
          try simp only [List.headD_cons, List.tail_cons]
          refine J.op fa68_0 ?_
          refine J.op (R.ld o3 (by with_reducible repeat (first | exact Pick.here | apply Pick.there)) rfl) ?_ -- @t47 vS (Instr.loadAt 3 t46)
          refine J.opD R.neq (fun ht48 => ?_) (fun ht48 => ?_) -- @t48 binS .neq 3 (.tmp 47) (.const (.int .i64 1)) t47 (.int .i64 1)
          · skip
            refine J.bindJ (fun vs H2 => vs = [.int .i64 ((stepK (nextE a b i k) k : Nat) : Int)] ∧ H2 = [Ent.cells bt39 (nextE a b i k).cells 68, Ent.cells bt9 (nextE a b i k).cells 68, Ent.row (.slice at40 nt40 ct40) 3 (edits l ++ [(nextE a b i k).cells]) 68, Ent.cells t [.slice a1 n1 c1, .slice a2 n2 c2, .slice (some ⟨g, 0, none⟩) ((a.length + 1) * (b.length + 1)) ((a.length + 1) * (b.length + 1))] 104, Ent.row (.slice (some ⟨g, 0, none⟩) ((a.length + 1) * (b.length + 1)) ((a.length + 1) * (b.length + 1))) 1 (ints (tabL a b 0)) 3]) ?_ ?_ -- @tv_3
            · skip
              refine J.iteT ?_
              refine J.op (R.add64 (by omega)) ?_ -- @t50 binS .add 3 (.tmp 49) (.const (.int .i64 1)) (tx.tail.tail.headD undef) (.int .i64 1)
              -- @join[t50]
              exact J.done ⟨by unfold stepK; rw [if_neg ht48]; rfl, rfl⟩
            · rintro vs H1 ⟨rfl, rfl⟩
              try simp only [List.headD_cons, List.tail_cons]
              refine J.done ?_ -- then tv_4 = [t40, (tv_2.headD undef), (tv_3.headD undef)]
              -- @again[(tv_4.headDundef),(tv_4.tail.headDundef),(tv_4.tail.tail.headDundef)]
              refine J.done ⟨(m, stepI (nextE a b i k) i, stepK (nextE a b i k) k, l ++ [nextE a b i k], at40, nt40, ct40), ⟨hs1, hs2, by dsimp only; omega, ?_⟩, rfl, ?_, hs3⟩
              · rw [← hl, List.append_assoc]
                conv => rhs; unfold restE
                rw [if_neg hbtv_1]
                rfl
              · rw [edits_app]
                exact Imp.take (by (try dsimp only); repeat (first | exact Has.nil | refine Has.cons (by repeat (first | (with_reducible exact Out.here) | ((with_reducible refine Out.cells ?_); first | rfl | (simp; done)) | ((with_reducible refine Out.row ?_); first | rfl | (simp; done)) | (with_reducible apply Out.there))) ?_))
          · skip
            refine J.bindJ (fun vs H2 => vs = [.int .i64 ((stepK (nextE a b i k) k : Nat) : Int)] ∧ H2 = [Ent.cells bt39 (nextE a b i k).cells 68, Ent.cells bt9 (nextE a b i k).cells 68, Ent.row (.slice at40 nt40 ct40) 3 (edits l ++ [(nextE a b i k).cells]) 68, Ent.cells t [.slice a1 n1 c1, .slice a2 n2 c2, .slice (some ⟨g, 0, none⟩) ((a.length + 1) * (b.length + 1)) ((a.length + 1) * (b.length + 1))] 104, Ent.row (.slice (some ⟨g, 0, none⟩) ((a.length + 1) * (b.length + 1)) ((a.length + 1) * (b.length + 1))) 1 (ints (tabL a b 0)) 3]) ?_ ?_ -- @tv_3
            · skip
              refine J.iteF ?_
              -- @join[(tx.tail.tail.headDundef)]
              exact J.done ⟨by unfold stepK; rw [if_pos (Decidable.not_not.1 ht48)], rfl⟩
            · rintro vs H1 ⟨rfl, rfl⟩
              try simp only [List.headD_cons, List.tail_cons]
              refine J.done ?_ -- then tv_4 = [t40, (tv_2.headD undef), (tv_3.headD undef)]
              -- @again[(tv_4.headDundef),(tv_4.tail.headDundef),(tv_4.tail.tail.headDundef)]
              refine J.done ⟨(m, stepI (nextE a b i k) i, stepK (nextE a b i k) k, l ++ [nextE a b i k], at40, nt40, ct40), ⟨hs1, hs2, by dsimp only; omega, ?_⟩, rfl, ?_, hs3⟩
              · rw [← hl, List.append_assoc]
                conv => rhs; unfold restE
                rw [if_neg hbtv_1]
                rfl
              · rw [edits_app]
                exact Imp.take (by (try dsimp only); repeat (first | exact Has.nil | refine Has.cons (by repeat (first | (with_reducible exact Out.here) | ((with_reducible refine Out.cells ?_); first | rfl | (simp; done)) | ((with_reducible refine Out.row ?_); first | rfl | (simp; done)) | (with_reducible apply Out.there))) ?_))
      · skip
        refine J.bindJ (fun vs H2 => vs = [.int .i64 ((stepI (nextE a b i k) i : Nat) : Int)] ∧ H2 = [Ent.cells bt39 (nextE a b i k).cells 68, Ent.cells bt9 (nextE a b i k).cells 68, Ent.row (.slice at40 nt40 ct40) 3 (edits l ++ [(nextE a b i k).cells]) 68, Ent.cells t [.slice a1 n1 c1, .slice a2 n2 c2, .slice (some ⟨g, 0, none⟩) ((a.length + 1) * (b.length + 1)) ((a.length + 1) * (b.length + 1))] 104, Ent.row (.slice (some ⟨g, 0, none⟩) ((a.length + 1) * (b.length + 1)) ((a.length + 1) * (b.length + 1))) 1 (ints (tabL a b 0)) 3]) ?_ ?_ -- @tv_2
        · skip
          refine J.iteF ?_
          -- @join[(tx.tail.headDundef)]
          exact J.done ⟨by unfold stepI; rw [if_pos (Decidable.not_not.1 ht43)], rfl⟩
        · rintro vs H1 ⟨rfl, rfl⟩
          try simp only [List.headD_cons, List.tail_cons]
          refine J.op fa68_0 ?_
          refine J.op (R.ld o3 (by with_reducible repeat (first | exact Pick.here | apply Pick.there)) rfl) ?_ -- @t47 vS (Instr.loadAt 3 t46)
          refine J.opD R.neq (fun ht48 => ?_) (fun ht48 => ?_) -- @t48 binS .neq 3 (.tmp 47) (.const (.int .i64 1)) t47 (.int .i64 1)
          · skip
            refine J.bindJ (fun vs H2 => vs = [.int .i64 ((stepK (nextE a b i k) k : Nat) : Int)] ∧ H2 = [Ent.cells bt39 (nextE a b i k).cells 68, Ent.cells bt9 (nextE a b i k).cells 68, Ent.row (.slice at40 nt40 ct40) 3 (edits l ++ [(nextE a b i k).cells]) 68, Ent.cells t [.slice a1 n1 c1, .slice a2 n2 c2, .slice (some ⟨g, 0, none⟩) ((a.length + 1) * (b.length + 1)) ((a.length + 1) * (b.length + 1))] 104, Ent.row (.slice (some ⟨g, 0, none⟩) ((a.length + 1) * (b.length + 1)) ((a.length + 1) * (b.length + 1))) 1 (ints (tabL a b 0)) 3]) ?_ ?_ -- @tv_3
            · skip
              refine J.iteT ?_
              refine J.op (R.add64 (by omega)) ?_ -- @t50 binS .add 3 (.tmp 49) (.const (.int .i64 1)) (tx.tail.tail.headD undef) (.int .i64 1)
              -- @join[t50]
              exact J.done ⟨by unfold stepK; rw [if_neg ht48]; rfl, rfl⟩
            · rintro vs H1 ⟨rfl, rfl⟩
              try simp only [List.headD_cons, List.tail_cons]
              refine J.done ?_ -- then tv_4 = [t40, (tv_2.headD undef), (tv_3.headD undef)]
              -- @again[(tv_4.headDundef),(tv_4.tail.headDundef),(tv_4.tail.tail.headDundef)]
              refine J.done ⟨(m, stepI (nextE a b i k) i, stepK (nextE a b i k) k, l ++ [nextE a b i k], at40, nt40, ct40), ⟨hs1, hs2, by dsimp only; omega, ?_⟩, rfl, ?_, hs3⟩
              · rw [← hl, List.append_assoc]
                conv => rhs; unfold restE
                rw [if_neg hbtv_1]
                rfl
              · rw [edits_app]
                exact Imp.take (by (try dsimp only); repeat (first | exact Has.nil | refine Has.cons (by repeat (first | (with_reducible exact Out.here) | ((with_reducible refine Out.cells ?_); first | rfl | (simp; done)) | ((with_reducible refine Out.row ?_); first | rfl | (simp; done)) | (with_reducible apply Out.there))) ?_))
          · skip
            refine J.bindJ (fun vs H2 => vs = [.int .i64 ((stepK (nextE a b i k) k : Nat) : Int)] ∧ H2 = [Ent.cells bt39 (nextE a b i k).cells 68, Ent.cells bt9 (nextE a b i k).cells 68, Ent.row (.slice at40 nt40 ct40) 3 (edits l ++ [(nextE a b i k).cells]) 68, Ent.cells t [.slice a1 n1 c1, .slice a2 n2 c2, .slice (some ⟨g, 0, none⟩) ((a.length + 1) * (b.length + 1)) ((a.length + 1) * (b.length + 1))] 104, Ent.row (.slice (some ⟨g, 0, none⟩) ((a.length + 1) * (b.length + 1)) ((a.length + 1) * (b.length + 1))) 1 (ints (tabL a b 0)) 3]) ?_ ?_ -- @tv_3
            · skip
              refine J.iteF ?_
              -- @join[(tx.tail.tail.headDundef)]
              exact J.done ⟨by unfold stepK; rw [if_pos (Decidable.not_not.1 ht48)], rfl⟩
            · rintro vs H1 ⟨rfl, rfl⟩
              try simp only [List.headD_cons, List.tail_cons]
              refine J.done ?_ -- then tv_4 = [t40, (tv_2.headD undef), (tv_3.headD undef)]
              -- @again[(tv_4.headDundef),(tv_4.tail.headDundef),(tv_4.tail.tail.headDundef)]
              refine J.done ⟨(m, stepI (nextE a b i k) i, stepK (nextE a b i k) k, l ++ [nextE a b i k], at40, nt40, ct40), ⟨hs1, hs2, by dsimp only; omega, ?_⟩, rfl, ?_, hs3⟩
              · rw [← hl, List.append_assoc]
                conv => rhs; unfold restE
                rw [if_neg hbtv_1]
                rfl
              · rw [edits_app]
                exact Imp.take (by (try dsimp only); repeat (first | exact Has.nil | refine Has.cons (by repeat (first | (with_reducible exact Out.here) | ((with_reducible refine Out.cells ?_); first | rfl | (simp; done)) | ((with_reducible refine Out.row ?_); first | rfl | (simp; done)) | (with_reducible apply Out.there))) ?_))
end Go.Proofs.Ytllchkmggfcdgaa
