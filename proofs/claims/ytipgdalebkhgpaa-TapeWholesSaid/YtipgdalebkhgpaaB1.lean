/-
  Contracts of functions.
-/
import Derived.Test.YtipgdalebkhgpaaTerms1
import Derived.Test.YtipgdalebkhgpaaTerms2
import Derived.Test.YtipgdalebkhgpaaTab
import Derived.Test.YtipgdalebkhgpaaModBits
import Derived.Test.YtipgdalebkhgpaaV1
set_option maxRecDepth 100000
set_option maxHeartbeats 4000000
set_option linter.unusedVariables false
set_option linter.unusedSimpArgs false
namespace Go.Proofs.Ytipgdalebkhgpaa
open Go Go.RowKit Fw
/-- damper/damperref01.Of -/
theorem s146 (hi lo : Nat) (hh : hi < 18446744073709551616) (hl : lo < 18446744073709551616) :
    FnE Try.prog 146 [.int .u64 (hi : Int), .int .u64 (lo : Int)] (fun _ => True) (.agg (bitsL (hi * 18446744073709551616 + lo)).toArray) := by
  refine fn_of_J (cx := cx146) hmix Try.func146 (by kernel_rfl) (eq146 _ _) fun w hw => ?_
  refine J.alloc bz fun bt4 => ?_
  refine J.alloc bz fun bt5 => ?_
  refine J.bind ?_ -- @tv_1 bind tv_1 ([])
  refine J.block ?_
  -- @tx loop [(.int .i64 0)]
  refine J.loop (α := Nat) (fun i => i ≤ 64) (fun i => [.int .i64 i]) (fun i => [Ent.cells bt5 (bitsF (fun j => if j < 64 then decide (j < i) && lo.testBit j else decide (j - 64 < i) && hi.testBit (j - 64))) 176, Ent.cells bt4 (bitsF fun _ => false) 176]) (fun i => 64 - i) 0 (by omega) rfl ?_ ?_
  · rw [show bitsF (fun j => if j < 64 then decide (j < 0) && lo.testBit j else decide (j - 64 < 0) && hi.testBit (j - 64)) = bitsF fun _ => false from bitsF_congr (fun j _ => by simp)]
    exact Imp.refl _
  rintro i hi6
  try simp only [List.headD_cons, List.tail_cons]
  refine J.opD R.lss (fun ht8 => ?_) (fun ht8 => ?_) -- @t8 binS .lss 3 (.tmp 7) (.const (.int .i64 64)) (tx.headD undef) (.int .i64 64)
  · skip
    refine J.iteT ?_
    refine J.bind ?_ -- @tv bind tv ([])
    refine J.block ?_
    refine J.op (R.asI cv3_129 (v := ((i : Nat) : Int)) (u64_in _ (by omega))) ?_ -- @t14 vS (convert 3 129 (tx.headD undef))
    refine J.op (R.shrU (by omega)) ?_ -- @t15 binS .shr 54 (.tmp 12) (.tmp 14) a1 t14
    refine J.op (R.andU (n := 1) (Nat.lt_of_le_of_lt (Nat.div_le_self _ _) hl) (by decide)) ?_ -- @t16 binS .and 54 (.tmp 15) (.const (.int .u64 1)) t15 (.int .u64 1)
    refine J.op (Runs.bool R.eql bit_dec) ?_ -- @t17 binS .eql 54 (.tmp 16) (.const (.int .u64 1)) t16 (.int .u64 1)
    refine J.op (R.ixA ar176 (by omega) (by omega)) ?_ -- @t18 ix t5 (tx.headD undef)
    refine J.stS sz4 (by with_reducible repeat (first | exact Pick.here | apply Pick.there)) (by rw [bitsF_len]; simp; try omega) rfl (bitsF_set (g := (fun j => if j < 64 then decide (j < i + 1) && lo.testBit j else decide (j - 64 < i) && hi.testBit (j - 64))) (i := i) (by simp; try omega) (by intro j hj; by_cases e : j = i; (subst e; simp; omega); (rw [if_neg e]; by_cases h : j < 64; (rw [if_pos h, if_pos h, show decide (j < i + 1) = decide (j < i) from decide_eq_decide.2 (by omega)]); (rw [if_neg h, if_neg h])))) ?_ -- @tu uS (Instr.storeAt 4 t18 t17)
    refine J.op (R.add64 (by omega)) ?_ -- @t20 binS .add 3 (.tmp 19) (.const (.int .i64 64)) (tx.headD undef) (.int .i64 64)
    refine J.op (R.asI cv3_129 (v := ((i : Nat) : Int)) (u64_in _ (by omega))) ?_ -- @t23 vS (convert 3 129 (tx.headD undef))
    refine J.op (R.shrU (by omega)) ?_ -- @t24 binS .shr 54 (.tmp 21) (.tmp 23) a0 t23
    refine J.op (R.andU (n := 1) (Nat.lt_of_le_of_lt (Nat.div_le_self _ _) hh) (by decide)) ?_ -- @t25 binS .and 54 (.tmp 24) (.const (.int .u64 1)) t24 (.int .u64 1)
    refine J.op (Runs.bool R.eql bit_dec) ?_ -- @t26 binS .eql 54 (.tmp 25) (.const (.int .u64 1)) t25 (.int .u64 1)
    refine J.op (R.ixA ar176 (by omega) (by omega)) ?_ -- @t27 ix t5 t20
    refine J.stS sz4 (by with_reducible repeat (first | exact Pick.here | apply Pick.there)) (by rw [bitsF_len]; simp; try omega) rfl (bitsF_set (g := (fun j => if j < 64 then decide (j < i + 1) && lo.testBit j else decide (j - 64 < i + 1) && hi.testBit (j - 64))) (i := i + 64) (by simp; try omega) (by intro j hj; by_cases e : j = i + 64; (subst e; rw [if_pos rfl, if_neg (by omega)]; simp); (rw [if_neg e]; by_cases h : j < 64; (rw [if_pos h, if_pos h]); (rw [if_neg h, if_neg h, show decide (j - 64 < i + 1) = decide (j - 64 < i) from decide_eq_decide.2 (by omega)])))) ?_ -- @tu_1 uS (Instr.storeAt 4 t27 t26)
    refine J.done ?_ -- then tv = []
    refine J.op (R.add64 (by omega)) ?_ -- @t10 binS .add 3 (.tmp 9) (.const (.int .i64 1)) (tx.headD undef) (.int .i64 1)
    -- @again[t10]
    exact J.done ⟨i + 1, by omega, rfl, Imp.take (by (try dsimp only); repeat (first | exact Has.nil | refine Has.cons (by repeat (first | (with_reducible exact Out.here) | ((with_reducible refine Out.cells ?_); first | rfl | (simp; done)) | ((with_reducible refine Out.row ?_); first | rfl | (simp; done)) | (with_reducible apply Out.there))) ?_)), by omega⟩
  · skip
    refine J.iteF ?_
    refine J.done ⟨fun _ => ?_, fun h => absurd rfl h⟩ -- exit []
    refine J.op (R.ldA ag176 (by with_reducible repeat (first | exact Pick.here | apply Pick.there)) (by exact bitsF_len)) ?_ -- @t28 vS (Instr.loadAt 176 t5)
    refine J.stW sz176 (by with_reducible repeat (first | exact Pick.here | apply Pick.there)) (by exact bitsF_len) (by exact bitsF_len) (by exact allOne_bits) ?_ -- @tu_2 uS (Instr.storeAt 176 t4 t28)
    -- @ret[t4]
    obtain rfl : i = 64 := by omega
    exact J.done (RetQ.ge (.cellA ag176 (by with_reducible repeat (first | exact Pick.here | apply Pick.there)) (by exact bitsF_len) (.nil)) (by rw [bitsF_L (n := hi * 18446744073709551616 + lo) (fun j hj => by rw [conc_bit hl]; by_cases h : j < 64; simp [h]; (rw [if_neg h, if_neg h]; simp; omega))]; rfl))

/-- damper/damperref01.Halves -/
theorem s118 (n : Nat) (hn : n < 340282366920938463463374607431768211456) :
    FnE Try.prog 118 [.agg (bitsL n).toArray] (fun _ => True) (.tuple #[.int .u64 ((n / 18446744073709551616 : Nat) : Int), .int .u64 ((n % 18446744073709551616 : Nat) : Int)]) := by
  refine fn_of_J (cx := cx118) hmix Try.func118 (by kernel_rfl) (eq118 _) fun w hw => ?_
  refine J.boxA fun bt1 => ?_
  refine J.bind ?_ -- @tv_3 bind tv_3 ([5, 4])
  refine J.block ?_
  -- @tx loop [(.int .u64 0), (.int .u64 0), (.int .i64 0)]
  refine J.loopH (α := Nat) (fun i => i ≤ 64) (fun i => [.int .u64 ((n % 2 ^ i : Nat) : Int), .int .u64 (((n / 18446744073709551616) % 2 ^ i : Nat) : Int), .int .i64 i]) (fun i => 64 - i) 0 (by omega) (by simp [Nat.mod_one]) ?_
  rintro i hi6
  try simp only [List.headD_cons, List.tail_cons]
  refine J.opD R.lss (fun ht8 => ?_) (fun ht8 => ?_) -- @t8 binS .lss 3 (.tmp 7) (.const (.int .i64 64)) (tx.tail.tail.headD undef) (.int .i64 64)
  · skip
    refine J.iteT ?_
    refine J.bind ?_ -- @tv_2 bind tv_2 ([5, 4])
    refine J.block ?_
    have hi : i < 64 := by omega
    have hp := pow_lt64 hi
    have hm1 := Nat.mod_lt n (Nat.two_pow_pos i)
    have hm2 := Nat.mod_lt (n / 18446744073709551616) (Nat.two_pow_pos i)
    refine J.op (R.ixA ar176 (by omega) (by omega)) ?_ -- @t12 ix t1 (tx.tail.tail.headD undef)
    refine J.op (R.ld o4 (by with_reducible repeat (first | exact Pick.here | apply Pick.there)) (bitsL_get (n := n) (i := i) (by simp; try omega) (by omega))) ?_ -- @t13 vS (Instr.loadAt 4 t12)
    refine J.bindJ (fun vs H2 => vs = [.int .u64 ((n % 2 ^ (i + 1) : Nat) : Int)] ∧ H2 = [Ent.cells bt1 (bitsL n) 176]) ?_ ?_ -- @tv
    · skip
      refine J.iteB (fun hct13 => ?_) (fun hct13 => ?_) -- ite t13
      · try simp only [List.headD_cons, List.tail_cons, decide_eq_true_eq] at hct13
        refine J.op (R.asI cv3_129 (v := ((i : Nat) : Int)) (u64_in _ (by omega))) ?_ -- @t16 vS (convert 3 129 (tx.tail.tail.headD undef))
        refine J.op (R.shlU (m := 1) (by omega)) ?_
        rw [Nat.one_mul, Nat.mod_eq_of_lt hp] -- @t17 binS .shl 54 (.const (.int .u64 1)) (.tmp 16) (.int .u64 1) t16
        refine J.op (R.asI (R.orU (by omega) hp) (v := ((n % 2 ^ (i + 1) : Nat) : Int)) (congrArg _ (by rw [or_bit hm1, mod_bit, hct13]; simp))) ?_ -- @t18 binS .or 54 (.tmp 14) (.tmp 17) (tx.headD undef) t17
        -- @join[t18]
        exact J.done ⟨rfl, rfl⟩
      · try simp only [List.headD_cons, List.tail_cons, decide_eq_false_iff_not] at hct13
        -- @join[(tx.headDundef)]
        exact J.done ⟨by rw [mod_bit, hct13]; simp, rfl⟩
    · rintro vs H1 ⟨rfl, rfl⟩
      try simp only [List.headD_cons, List.tail_cons]
      refine J.op (R.add64 (by omega)) ?_ -- @t20 binS .add 3 (.tmp 19) (.const (.int .i64 64)) (tx.tail.tail.headD undef) (.int .i64 64)
      refine J.op (R.ixA ar176 (by omega) (by omega)) ?_ -- @t21 ix t1 t20
      refine J.op (R.ld o4 (by with_reducible repeat (first | exact Pick.here | apply Pick.there)) (bitsL_get (n := n) (i := 64 + i) (by simp; try omega) (by omega))) ?_ -- @t22 vS (Instr.loadAt 4 t21)
      refine J.bindJ (fun vs H2 => vs = [.int .u64 (((n / 18446744073709551616) % 2 ^ (i + 1) : Nat) : Int)] ∧ H2 = [Ent.cells bt1 (bitsL n) 176]) ?_ ?_ -- @tv_1
      · skip
        refine J.iteB (fun hct22 => ?_) (fun hct22 => ?_) -- ite t22
        · try simp only [List.headD_cons, List.tail_cons, decide_eq_true_eq] at hct22
          refine J.op (R.asI cv3_129 (v := ((i : Nat) : Int)) (u64_in _ (by omega))) ?_ -- @t25 vS (convert 3 129 (tx.tail.tail.headD undef))
          refine J.op (R.shlU (m := 1) (by omega)) ?_
          rw [Nat.one_mul, Nat.mod_eq_of_lt hp] -- @t26 binS .shl 54 (.const (.int .u64 1)) (.tmp 25) (.int .u64 1) t25
          refine J.op (R.asI (R.orU (by omega) hp) (v := (((n / 18446744073709551616) % 2 ^ (i + 1) : Nat) : Int)) (congrArg _ (by rw [or_bit hm2, mod_bit, div_bit, hct22]; simp))) ?_ -- @t27 binS .or 54 (.tmp 23) (.tmp 26) (tx.tail.headD undef) t26
          -- @join[t27]
          exact J.done ⟨rfl, rfl⟩
        · try simp only [List.headD_cons, List.tail_cons, decide_eq_false_iff_not] at hct22
          -- @join[(tx.tail.headDundef)]
          exact J.done ⟨by rw [mod_bit, div_bit, hct22]; simp, rfl⟩
      · rintro vs H1 ⟨rfl, rfl⟩
        try simp only [List.headD_cons, List.tail_cons]
        refine J.done ?_ -- then tv_2 = [(tv.headD undef), (tv_1.headD undef)]
        refine J.op (R.add64 (by omega)) ?_ -- @t10 binS .add 3 (.tmp 9) (.const (.int .i64 1)) (tx.tail.tail.headD undef) (.int .i64 1)
        -- @again[(tv_2.headDundef),(tv_2.tail.headDundef),t10]
        exact J.done ⟨i + 1, by omega, rfl, Imp.refl _, by omega⟩
  · skip
    refine J.iteF ?_
    refine J.done ⟨fun _ => ?_, fun h => absurd rfl h⟩ -- exit [(tx.headD undef), (tx.tail.headD undef)]
    -- @ret[(tv_3.tail.headDundef),(tv_3.headDundef)]
    obtain rfl : i = 64 := by omega
    exact J.done (RetQ.ge (.tmp (.tmp .nil)) (by rw [show (n / 18446744073709551616) % 2 ^ 64 = n / 18446744073709551616 from Nat.mod_eq_of_lt (by omega)]; rfl))

/-- damper/damperref01.Add -/
theorem s115 (a b : Nat) (ha : a < 340282366920938463463374607431768211456) (hb : b < 340282366920938463463374607431768211456) :
    FnE Try.prog 115 [.agg (bitsL a).toArray, .agg (bitsL b).toArray] (fun _ => True) (.tuple #[.agg (bitsL ((a + b) % 340282366920938463463374607431768211456)).toArray, .bool (decide (a + b < 340282366920938463463374607431768211456))]) := by
  refine fn_of_J (cx := cx115) hmix Try.func115 (by kernel_rfl) (eq115 _ _) fun w hw => ?_
  refine J.boxA fun bt2 => ?_
  refine J.boxA fun bt3 => ?_
  refine J.alloc bz fun bt4 => ?_
  refine J.alloc bz fun bt6 => ?_
  refine J.bind ?_ -- @tv_4 bind tv_4 ([7])
  refine J.block ?_
  -- @tx loop [(.bool false), (.int .i64 0)]
  refine J.loop (α := Nat) (fun i => i ≤ 128) (fun i => [.bool (decide (2 ^ i ≤ a % 2 ^ i + b % 2 ^ i)), .int .i64 i]) (fun i => [Ent.cells bt6 (bitsF (fun j => decide (j < i) && (a + b).testBit j)) 176, Ent.cells bt4 (bitsF fun _ => false) 176, Ent.cells bt3 (bitsL b) 176, Ent.cells bt2 (bitsL a) 176]) (fun i => 128 - i) 0 (by omega) (by simp [Nat.mod_one]) ?_ ?_
  · rw [show bitsF (fun j => decide (j < 0) && (a + b).testBit j) = bitsF fun _ => false from bitsF_congr (fun j _ => by simp)]
    exact Imp.refl _
  rintro i hi6
  try simp only [List.headD_cons, List.tail_cons]
  refine J.opD R.lss (fun ht11 => ?_) (fun ht11 => ?_) -- @t11 binS .lss 3 (.tmp 10) (.const (.int .i64 128)) (tx.tail.headD undef) (.int .i64 128)
  · skip
    refine J.iteT ?_
    refine J.bind ?_ -- @tv_3 bind tv_3 ([7])
    refine J.block ?_
    have hi : i < 128 := by omega
    obtain ⟨hs1, hs2⟩ := add_step a b i
    refine J.op (R.ixA ar176 (by omega) (by omega)) ?_ -- @t15 ix t2 (tx.tail.headD undef)
    refine J.op (R.ld o4 (by with_reducible repeat (first | exact Pick.here | apply Pick.there)) (bitsL_get (n := a) (i := i) (by simp; try omega) (by omega))) ?_ -- @t16 vS (Instr.loadAt 4 t15)
    refine J.bindJ (fun vs H2 => vs = [.int .i64 (((a.testBit i).toNat : Nat) : Int)] ∧ H2 = [Ent.cells bt6 (bitsF (fun j => decide (j < i) && (a + b).testBit j)) 176, Ent.cells bt4 (bitsF fun _ => false) 176, Ent.cells bt3 (bitsL b) 176, Ent.cells bt2 (bitsL a) 176]) ?_ ?_ -- @tv
    · skip
      refine J.iteB (fun hct16 => ?_) (fun hct16 => ?_) -- ite t16
      · try simp only [List.headD_cons, List.tail_cons, decide_eq_true_eq] at hct16
        refine J.op (R.add64 (by decide)) ?_ -- @t18 binS .add 3 (.tmp 17) (.const (.int .i64 1)) (.int .i64 0) (.int .i64 1)
        -- @join[t18]
        exact J.done ⟨by rw [hct16]; rfl, rfl⟩
      · try simp only [List.headD_cons, List.tail_cons, decide_eq_false_iff_not] at hct16
        -- @join[(.int.i640)]
        exact J.done ⟨by rw [hct16]; rfl, rfl⟩
    · rintro vs H1 ⟨rfl, rfl⟩
      try simp only [List.headD_cons, List.tail_cons]
      refine J.op (R.ixA ar176 (by omega) (by omega)) ?_ -- @t20 ix t3 (tx.tail.headD undef)
      refine J.op (R.ld o4 (by with_reducible repeat (first | exact Pick.here | apply Pick.there)) (bitsL_get (n := b) (i := i) (by simp; try omega) (by omega))) ?_ -- @t21 vS (Instr.loadAt 4 t20)
      refine J.bindJ (fun vs H2 => vs = [.int .i64 (((a.testBit i).toNat + (b.testBit i).toNat : Nat) : Int)] ∧ H2 = [Ent.cells bt6 (bitsF (fun j => decide (j < i) && (a + b).testBit j)) 176, Ent.cells bt4 (bitsF fun _ => false) 176, Ent.cells bt3 (bitsL b) 176, Ent.cells bt2 (bitsL a) 176]) ?_ ?_ -- @tv_1
      · skip
        refine J.iteB (fun hct21 => ?_) (fun hct21 => ?_) -- ite t21
        · try simp only [List.headD_cons, List.tail_cons, decide_eq_true_eq] at hct21
          refine J.op (R.add64 (by have := Bool.toNat_le (a.testBit i); omega)) ?_ -- @t23 binS .add 3 (.tmp 22) (.const (.int .i64 1)) (tv.headD undef) (.int .i64 1)
          -- @join[t23]
          exact J.done ⟨by rw [hct21]; rfl, rfl⟩
        · try simp only [List.headD_cons, List.tail_cons, decide_eq_false_iff_not] at hct21
          -- @join[(tv.headDundef)]
          exact J.done ⟨by rw [hct21]; rfl, rfl⟩
      · rintro vs H1 ⟨rfl, rfl⟩
        try simp only [List.headD_cons, List.tail_cons]
        refine J.bindJ (fun vs H2 => vs = [.int .i64 (((a.testBit i).toNat + (b.testBit i).toNat + (decide (2 ^ i ≤ a % 2 ^ i + b % 2 ^ i)).toNat : Nat) : Int)] ∧ H2 = [Ent.cells bt6 (bitsF (fun j => decide (j < i) && (a + b).testBit j)) 176, Ent.cells bt4 (bitsF fun _ => false) 176, Ent.cells bt3 (bitsL b) 176, Ent.cells bt2 (bitsL a) 176]) ?_ ?_ -- @tv_2
        · skip
          refine J.iteB (fun hctxheadDundef => ?_) (fun hctxheadDundef => ?_) -- ite (tx.headD undef)
          · try simp only [List.headD_cons, List.tail_cons, decide_eq_true_eq] at hctxheadDundef
            refine J.op (R.add64 (by have := Bool.toNat_le (a.testBit i); have := Bool.toNat_le (b.testBit i); omega)) ?_ -- @t26 binS .add 3 (.tmp 25) (.const (.int .i64 1)) (tv_1.headD undef) (.int .i64 1)
            -- @join[t26]
            exact J.done ⟨by rw [decide_eq_true hctxheadDundef]; rfl, rfl⟩
          · try simp only [List.headD_cons, List.tail_cons, decide_eq_false_iff_not] at hctxheadDundef
            -- @join[(tv_1.headDundef)]
            exact J.done ⟨by rw [decide_eq_false hctxheadDundef]; rfl, rfl⟩
        · rintro vs H1 ⟨rfl, rfl⟩
          try simp only [List.headD_cons, List.tail_cons]
          refine J.op (R.rem (by decide)) ?_ -- @t29 binS .rem 3 (.tmp 28) (.const (.int .i64 2)) (tv_2.headD undef) (.int .i64 2)
          refine J.op (Runs.bool R.eql (b := (a + b).testBit i) (by rw [hs1, tmod_dec])) ?_ -- @t30 binS .eql 3 (.tmp 29) (.const (.int .i64 1)) t29 (.int .i64 1)
          refine J.op (R.ixA ar176 (by omega) (by omega)) ?_ -- @t31 ix t6 (tx.tail.headD undef)
          refine J.stS sz4 (by with_reducible repeat (first | exact Pick.here | apply Pick.there)) (by rw [bitsF_len]; simp; try omega) rfl (bitsF_set (g := (fun j => decide (j < i + 1) && (a + b).testBit j)) (i := i) (by simp; try omega) (by intro j hj; by_cases e : j = i; (subst e; simp); (rw [if_neg e, show decide (j < i + 1) = decide (j < i) from decide_eq_decide.2 (by omega)]))) ?_ -- @tu uS (Instr.storeAt 4 t31 t30)
          refine J.op (Runs.bool R.gtr (b := decide (2 ^ (i + 1) ≤ a % 2 ^ (i + 1) + b % 2 ^ (i + 1))) (by rw [hs2]; exact decide_eq_decide.2 (by omega))) ?_ -- @t33 binS .gtr 3 (.tmp 32) (.const (.int .i64 1)) (tv_2.headD undef) (.int .i64 1)
          refine J.done ?_ -- then tv_3 = [t33]
          refine J.op (R.add64 (by omega)) ?_ -- @t13 binS .add 3 (.tmp 12) (.const (.int .i64 1)) (tx.tail.headD undef) (.int .i64 1)
          -- @again[(tv_3.headDundef),t13]
          exact J.done ⟨i + 1, by omega, rfl, Imp.take (by (try dsimp only); repeat (first | exact Has.nil | refine Has.cons (by repeat (first | (with_reducible exact Out.here) | ((with_reducible refine Out.cells ?_); first | rfl | (simp; done)) | ((with_reducible refine Out.row ?_); first | rfl | (simp; done)) | (with_reducible apply Out.there))) ?_)), by omega⟩
  · skip
    refine J.iteF ?_
    refine J.done ⟨fun _ => ?_, fun h => absurd rfl h⟩ -- exit [(tx.headD undef)]
    refine J.op (R.ldA ag176 (by with_reducible repeat (first | exact Pick.here | apply Pick.there)) (by exact bitsF_len)) ?_ -- @t34 vS (Instr.loadAt 176 t6)
    refine J.op R.not ?_ -- @t36 vS (Op.unary .not (tv_4.headD undef))
    refine J.stW sz176 (by with_reducible repeat (first | exact Pick.here | apply Pick.there)) (by exact bitsF_len) (by exact bitsF_len) (by exact allOne_bits) ?_ -- @tu_1 uS (Instr.storeAt 176 t4 t34)
    -- @ret[t4,t36]
    obtain rfl : i = 128 := by omega
    exact J.done (RetQ.ge (.cellA ag176 (by with_reducible repeat (first | exact Pick.here | apply Pick.there)) (by exact bitsF_len) (.tmp .nil)) (by rw [bitsF_L (n := (a + b) % 340282366920938463463374607431768211456) (fun j hj => by rw [show (340282366920938463463374607431768211456 : Nat) = 2 ^ 128 from rfl, Nat.testBit_mod_two_pow])]; exact congrArg (fun z => Value.tuple #[.agg (bitsL ((a + b) % 340282366920938463463374607431768211456)).toArray, .bool z]) (by rw [Bool.eq_iff_iff]; simp; omega)))

/-- damper/damperref01.not -/
theorem s170 (b : Nat) (hb : b < 340282366920938463463374607431768211456) :
    FnE Try.prog 170 [.agg (bitsL b).toArray] (fun _ => True) (.agg (bitsL (340282366920938463463374607431768211455 - b)).toArray) := by
  refine fn_of_J (cx := cx170) hmix Try.func170 (by kernel_rfl) (eq170 _) fun w hw => ?_
  refine J.boxA fun bt1 => ?_
  refine J.alloc bz fun bt2 => ?_
  refine J.bind ?_ -- @tv_1 bind tv_1 ([])
  refine J.block ?_
  -- @tx loop [(.int .i64 0)]
  refine J.loop (α := Nat) (fun i => i ≤ 128) (fun i => [.int .i64 i]) (fun i => [Ent.cells bt2 (bitsF fun _ => false) 176, Ent.cells bt1 (bitsF (fun j => if j < i then !b.testBit j else b.testBit j)) 176]) (fun i => 128 - i) 0 (by omega) rfl ?_ ?_
  · rw [show bitsF (fun j => if j < 0 then !b.testBit j else b.testBit j) = bitsL b from bitsF_congr (fun j _ => by simp)]
    exact Imp.refl _
  rintro i hi6
  try simp only [List.headD_cons, List.tail_cons]
  refine J.opD R.lss (fun ht5 => ?_) (fun ht5 => ?_) -- @t5 binS .lss 3 (.tmp 4) (.const (.int .i64 128)) (tx.headD undef) (.int .i64 128)
  · skip
    refine J.iteT ?_
    refine J.bind ?_ -- @tv bind tv ([])
    refine J.block ?_
    refine J.op (R.ixA ar176 (by omega) (by omega)) ?_ -- @t10 ix t1 (tx.headD undef)
    refine J.op (R.ld o4 (by with_reducible repeat (first | exact Pick.here | apply Pick.there)) (bitsF_get (i := i) (by simp; try omega) (by omega))) ?_ -- @t11 vS (Instr.loadAt 4 t10)
    refine J.op R.not ?_ -- @t12 vS (Op.unary .not t11)
    refine J.op (R.ixA ar176 (by omega) (by omega)) ?_ -- @t13 ix t1 (tx.headD undef)
    refine J.stS sz4 (by with_reducible repeat (first | exact Pick.here | apply Pick.there)) (by rw [bitsF_len]; simp; try omega) rfl (bitsF_set (g := (fun j => if j < i + 1 then !b.testBit j else b.testBit j)) (i := i) (by simp; try omega) (by intro j hj; by_cases e : j = i; (subst e; simp); (rw [if_neg e]; by_cases h : j < i; (rw [if_pos h, if_pos (by omega)]); (rw [if_neg h, if_neg (by omega)])))) ?_ -- @tu uS (Instr.storeAt 4 t13 t12)
    refine J.done ?_ -- then tv = []
    refine J.op (R.add64 (by omega)) ?_ -- @t7 binS .add 3 (.tmp 6) (.const (.int .i64 1)) (tx.headD undef) (.int .i64 1)
    -- @again[t7]
    exact J.done ⟨i + 1, by omega, rfl, Imp.take (by (try dsimp only); repeat (first | exact Has.nil | refine Has.cons (by repeat (first | (with_reducible exact Out.here) | ((with_reducible refine Out.cells ?_); first | rfl | (simp; done)) | ((with_reducible refine Out.row ?_); first | rfl | (simp; done)) | (with_reducible apply Out.there))) ?_)), by omega⟩
  · skip
    refine J.iteF ?_
    refine J.done ⟨fun _ => ?_, fun h => absurd rfl h⟩ -- exit []
    refine J.op (R.ldA ag176 (by with_reducible repeat (first | exact Pick.here | apply Pick.there)) (by exact bitsF_len)) ?_ -- @t14 vS (Instr.loadAt 176 t1)
    refine J.stW sz176 (by with_reducible repeat (first | exact Pick.here | apply Pick.there)) (by exact bitsF_len) (by exact bitsF_len) (by exact allOne_bits) ?_ -- @tu_1 uS (Instr.storeAt 176 t2 t14)
    -- @ret[t2]
    obtain rfl : i = 128 := by omega
    exact J.done (RetQ.ge (.cellA ag176 (by with_reducible repeat (first | exact Pick.here | apply Pick.there)) (by exact bitsF_len) (.nil)) (by rw [bitsF_L (n := 340282366920938463463374607431768211455 - b) (fun j hj => by rw [if_pos hj, not_bit hb, decide_eq_true hj, Bool.true_and])]; rfl))

/-- damper/damperref01.Left -/
theorem s147 (a n : Nat) (hn : n < 128) :
    FnE Try.prog 147 [.agg (bitsL a).toArray, .int .i64 (n : Int)] (fun _ => True) (.agg (bitsL (a * 2 ^ n % 340282366920938463463374607431768211456)).toArray) := by
  refine fn_of_J (cx := cx147) hmix Try.func147 (by kernel_rfl) (eq147 _ _) fun w hw => ?_
  refine J.boxA fun bt2 => ?_
  refine J.alloc bz fun bt4 => ?_
  refine J.alloc bz fun bt5 => ?_
  refine J.opDF R.lss (by omega) ?_ -- @t8
  refine J.iteF ?_
  refine J.bind ?_ -- @tv_3 bind tv_3 ([])
  refine J.block ?_
  -- @tx loop [(.int .i64 0)]
  refine J.loop (α := Nat) (fun i => i ≤ 128) (fun i => [.int .i64 i]) (fun i => [Ent.cells bt5 (bitsF (fun j => decide (j < i) && (a * 2 ^ n).testBit j)) 176, Ent.cells bt4 (bitsF fun _ => false) 176, Ent.cells bt2 (bitsL a) 176]) (fun i => 128 - i) 0 (by omega) rfl ?_ ?_
  · rw [show bitsF (fun j => decide (j < 0) && (a * 2 ^ n).testBit j) = bitsF fun _ => false from bitsF_congr (fun j _ => by simp)]
    exact Imp.refl _
  rintro i hi6
  try simp only [List.headD_cons, List.tail_cons]
  refine J.bind ?_ -- @tv bind tv ([15])
  refine J.opD R.lss (fun ht11 => ?_) (fun ht11 => ?_) -- @t11 binS .lss 3 (.tmp 10) (.const (.int .i64 128)) (tx.headD undef) (.int .i64 128)
  · skip
    refine J.gopT rfl ?_
    refine J.op R.pure ?_
    refine J.gopT rfl ?_
    refine J.opDT R.lss (by omega) ?_ -- @t14
    refine J.op R.pickT ?_ -- @t15 pickS t11 t14 (.bool false)
    refine J.done ?_ -- then tv = [t15]
    refine J.iteT ?_
    refine J.bind ?_ -- @tv_2 bind tv_2 ([])
    refine J.block ?_
    refine J.opD R.geq (fun ht20 => ?_) (fun ht20 => ?_) -- @t20 binS .geq 3 (.tmp 18) (.tmp 19) (tx.headD undef) a1
    · skip
      refine J.bind ?_ -- @tv_1 bind tv_1 ([])
      refine J.iteT ?_
      refine J.op (R.asI R.sub (v := ((i - n : Nat) : Int)) (by rw [i64_in _ (by omega)]; omega)) ?_ -- @t24 binS .sub 3 (.tmp 22) (.tmp 23) (tx.headD undef) a1
      refine J.op (R.ixA ar176 (by omega) (by omega)) ?_ -- @t25 ix t2 t24
      refine J.op (R.ld o4 (by with_reducible repeat (first | exact Pick.here | apply Pick.there)) (bitsL_get (n := a) (i := i - n) (by simp; try omega) (by omega))) ?_ -- @t26 vS (Instr.loadAt 4 t25)
      refine J.op (R.ixA ar176 (by omega) (by omega)) ?_ -- @t27 ix t5 (tx.headD undef)
      refine J.stS sz4 (by with_reducible repeat (first | exact Pick.here | apply Pick.there)) (by rw [bitsF_len]; simp; try omega) rfl (bitsF_set (g := (fun j => decide (j < i + 1) && (a * 2 ^ n).testBit j)) (i := i) (by simp; try omega) (by intro j hj; by_cases e : j = i; (subst e; rw [if_pos rfl, left_bit, decide_eq_true (show n ≤ j by omega)]; simp); (rw [if_neg e, show decide (j < i + 1) = decide (j < i) from decide_eq_decide.2 (by omega)]))) ?_ -- @tu_1 uS (Instr.storeAt 4 t27 t26)
      refine J.done ?_ -- then tv_1 = []
      refine J.done ?_ -- then tv_2 = []
      refine J.op (R.add64 (by omega)) ?_ -- @t17 binS .add 3 (.tmp 16) (.const (.int .i64 1)) (tx.headD undef) (.int .i64 1)
      -- @again[t17]
      exact J.done ⟨i + 1, by omega, rfl, Imp.take (by (try dsimp only); repeat (first | exact Has.nil | refine Has.cons (by repeat (first | (with_reducible exact Out.here) | ((with_reducible refine Out.cells ?_); first | rfl | (simp; done)) | ((with_reducible refine Out.row ?_); first | rfl | (simp; done)) | (with_reducible apply Out.there))) ?_)), by omega⟩
    · skip
      refine J.bind ?_ -- @tv_1 bind tv_1 ([])
      refine J.iteF ?_
      refine J.done ?_ -- then tv_1 = []
      refine J.done ?_ -- then tv_2 = []
      refine J.op (R.add64 (by omega)) ?_ -- @t17 binS .add 3 (.tmp 16) (.const (.int .i64 1)) (tx.headD undef) (.int .i64 1)
      -- @again[t17]#2
      exact J.done ⟨i + 1, by omega, rfl, by rw [show bitsF (fun j => decide (j < i + 1) && (a * 2 ^ n).testBit j) = bitsF (fun j => decide (j < i) && (a * 2 ^ n).testBit j) from bitsF_congr fun j hj => by by_cases e : j = i; (subst e; rw [left_bit, decide_eq_false (show ¬ n ≤ j by omega)]; simp); (rw [show decide (j < i + 1) = decide (j < i) from decide_eq_decide.2 (by omega)])]; exact Imp.take (by (try dsimp only); repeat (first | exact Has.nil | refine Has.cons (by repeat (first | (with_reducible exact Out.here) | ((with_reducible refine Out.cells ?_); first | rfl | (simp; done)) | ((with_reducible refine Out.row ?_); first | rfl | (simp; done)) | (with_reducible apply Out.there))) ?_)), by omega⟩
  · skip
    refine J.gopF rfl ?_
    refine J.gopF rfl ?_
    refine J.op R.pickF ?_ -- @t15 pickS t11 t14 (.bool false)
    refine J.done ?_ -- then tv = [t15]
    refine J.iteF ?_
    refine J.done ⟨fun _ => ?_, fun h => absurd rfl h⟩ -- exit []
    refine J.op (R.ldA ag176 (by with_reducible repeat (first | exact Pick.here | apply Pick.there)) (by exact bitsF_len)) ?_ -- @t28 vS (Instr.loadAt 176 t5)
    refine J.stW sz176 (by with_reducible repeat (first | exact Pick.here | apply Pick.there)) (by exact bitsF_len) (by exact bitsF_len) (by exact allOne_bits) ?_ -- @tu_2 uS (Instr.storeAt 176 t4 t28)
    -- @ret[t4]
    obtain rfl : i = 128 := by omega
    exact J.done (RetQ.ge (.cellA ag176 (by with_reducible repeat (first | exact Pick.here | apply Pick.there)) (by exact bitsF_len) (.nil)) (by rw [bitsF_L (n := a * 2 ^ n % 340282366920938463463374607431768211456) (fun j hj => by rw [mod128_bit hj, decide_eq_true hj, Bool.true_and])]; rfl))

/-- damper/damperref01.Cmp -/
theorem s148 (a b : Nat) (ha : a < 340282366920938463463374607431768211456) (hb : b < 340282366920938463463374607431768211456) :
    FnE Try.prog 148 [.agg (bitsL a).toArray, .agg (bitsL b).toArray] (fun _ => True) (.int .i64 (cmpN a b)) := by
  refine fn_of_J (cx := cx148) hmix Try.func148 (by kernel_rfl) (eq148 _ _) fun w hw => ?_
  refine J.boxA fun bt2 => ?_
  refine J.boxA fun bt3 => ?_
  refine J.bind ?_ -- @tv_1 bind tv_1 ([4])
  refine J.block ?_
  -- @tx loop [(.int .i64 0), (.int .i64 127)]
  refine J.loopH (α := Nat) (fun k => k ≤ 128 ∧ a / 2 ^ k = b / 2 ^ k) (fun k => [.int .i64 0, .int .i64 ((k : Int) - 1)]) (fun k => k) 128 (by refine ⟨by omega, ?_⟩; rw [Nat.div_eq_of_lt (by omega), Nat.div_eq_of_lt (by omega)]) rfl ?_
  rintro k ⟨hk, hab⟩
  try simp only [List.headD_cons, List.tail_cons]
  refine J.opD R.geq (fun ht7 => ?_) (fun ht7 => ?_) -- @t7 binS .geq 3 (.tmp 6) (.const (.int .i64 0)) (tx.tail.headD undef) (.int .i64 0)
  · skip
    refine J.iteT ?_
    refine J.bind ?_ -- @tv bind tv ([4])
    refine J.block ?_
    refine J.draw ?_
    obtain ⟨k, rfl⟩ : ∃ q, k = q + 1 := ⟨k - 1, by omega⟩
    have hA := half (a := a) (k := k)
    have hB := half (a := b) (k := k)
    refine J.op (R.ixA ar176 (by omega) (by omega)) ?_ -- @t11 ix t2 (tx.tail.headD undef)
    refine J.op (R.ld o4 (by with_reducible repeat (first | exact Pick.here | apply Pick.there)) (bitsL_get (n := a) (i := k) (by simp; try omega) (by omega))) ?_ -- @t12 vS (Instr.loadAt 4 t11)
    refine J.op (R.ixA ar176 (by omega) (by omega)) ?_ -- @t14 ix t3 (tx.tail.headD undef)
    refine J.op (R.ld o4 (by with_reducible repeat (first | exact Pick.here | apply Pick.there)) (bitsL_get (n := b) (i := k) (by simp; try omega) (by omega))) ?_ -- @t15 vS (Instr.loadAt 4 t14)
    refine J.opD (R.neqB bl4) (fun ht16 => ?_) (fun ht16 => ?_) -- @t16 binS .neq 4 (.tmp 12) (.tmp 15) t12 t15
    · skip
      refine J.iteT ?_
      refine J.op (R.ixA ar176 (by omega) (by omega)) ?_ -- @t18 ix t2 (tx.tail.headD undef)
      refine J.op (R.ld o4 (by with_reducible repeat (first | exact Pick.here | apply Pick.there)) (bitsL_get (n := a) (i := k) (by simp; try omega) (by omega))) ?_ -- @t19 vS (Instr.loadAt 4 t18)
      refine J.iteB (fun hct19 => ?_) (fun hct19 => ?_) -- ite t19
      · try simp only [List.headD_cons, List.tail_cons, decide_eq_true_eq] at hct19
        -- @ret[(.int.i641)]
        have hb0 : b.testBit k = false := by cases h : b.testBit k with | false => rfl | true => exact absurd (hct19.trans h.symm) ht16
        exact J.done (RetQ.ge (.tmp .nil) (by rw [show cmpN a b = 1 from cmp_gt (k := k) (by rw [hA, hB, hab, hct19, hb0]; simp)]; rfl))
      · try simp only [List.headD_cons, List.tail_cons, decide_eq_false_iff_not] at hct19
        -- @ret[(.int.i64(-1))]
        have hb0 : b.testBit k = true := by cases h : b.testBit k with | true => rfl | false => exact absurd (hct19.trans h.symm) ht16
        exact J.done (RetQ.ge (.tmp .nil) (by rw [show cmpN a b = -1 from cmp_lt (k := k) (by rw [hA, hB, hab, hct19, hb0]; simp)]; rfl))
    · skip
      refine J.iteF ?_
      refine J.done ?_ -- then tv = [(tx.headD undef)]
      refine J.op (R.sub64 (by omega)) ?_ -- @t9 binS .sub 3 (.tmp 8) (.const (.int .i64 1)) (tx.tail.headD undef) (.int .i64 1)
      -- @again[(tv.headDundef),t9]
      exact J.done ⟨k, ⟨by omega, by rw [hA, hB, hab, Classical.not_not.1 ht16]⟩, by simp <;> omega, Imp.refl _, by omega⟩
  · skip
    refine J.iteF ?_
    refine J.done ⟨fun _ => ?_, fun h => absurd rfl h⟩ -- exit [(tx.headD undef)]
    -- @ret[(.int.i640)]
    obtain rfl : k = 0 := by omega
    obtain rfl : a = b := by simpa using hab
    exact J.done (RetQ.ge (.tmp .nil) (by rw [show cmpN a a = 0 by unfold cmpN; rw [if_neg (Nat.lt_irrefl a), if_pos rfl]]; rfl))

/-- damper/damperref01.Sub -/
theorem s149 (a b : Nat) (ha : a < 340282366920938463463374607431768211456) (hb : b < 340282366920938463463374607431768211456) :
    FnE Try.prog 149 [.agg (bitsL a).toArray, .agg (bitsL b).toArray] (fun _ => True) (.tuple #[.agg (bitsL ((a + 340282366920938463463374607431768211456 - b) % 340282366920938463463374607431768211456)).toArray, .bool (decide (b ≤ a))]) := by
  refine fn_of_J (cx := cx149) hmix Try.func149 (by kernel_rfl) (eq149 _ _) fun w hw => ?_
  refine J.boxA fun bt2 => ?_
  refine J.boxA fun bt3 => ?_
  refine J.alloc bz fun bt4 => ?_
  refine J.op (R.ldA ag176 (by with_reducible repeat (first | exact Pick.here | apply Pick.there)) (by exact bitsF_len)) ?_ -- @t11 vS (Instr.loadAt 176 t3)
  refine J.callE en170 (s170 b hb) rfl (fun _ _ _ => trivial) ?_ -- @t12 callS (.func (.func 170) #[] #[]) [t11]
  refine J.callE en146 (s146 0 1 (by decide) (by decide)) rfl (fun _ _ _ => trivial) ?_ -- @t13 callS (.func (.func 146) #[] #[]) [(.int .u64 0), (.int .u64 1)]
  refine J.callE en115 (s115 (340282366920938463463374607431768211455 - b) 1 (by omega) (by decide)) rfl (fun _ _ _ => trivial) ?_ -- @t14 callS (.func (.func 115) #[] #[]) [t12, t13]
  refine J.op (R.ext rfl) ?_ -- @t15 vS (Instr.extract t14 0)
  refine J.op (R.ext rfl) ?_ -- @t16 vS (Instr.extract t14 1)
  refine J.alloc bz fun bt6 => ?_
  refine J.stW sz176 (by with_reducible repeat (first | exact Pick.here | apply Pick.there)) (by exact bitsF_len) (by exact bitsF_len) (by exact allOne_bits) ?_ -- @tu uS (Instr.storeAt 176 t6 t15)
  refine J.op (R.ldA ag176 (by with_reducible repeat (first | exact Pick.here | apply Pick.there)) (by exact bitsF_len)) ?_ -- @t18 vS (Instr.loadAt 176 t2)
  refine J.op (R.ldA ag176 (by with_reducible repeat (first | exact Pick.here | apply Pick.there)) (by exact bitsF_len)) ?_ -- @t19 vS (Instr.loadAt 176 t6)
  refine J.callE en115 (s115 a ((340282366920938463463374607431768211455 - b + 1) % 340282366920938463463374607431768211456) ha (Nat.mod_lt _ (by decide))) rfl (fun _ _ _ => trivial) ?_ -- @t20 callS (.func (.func 115) #[] #[]) [t18, t19]
  refine J.op (R.ext rfl) ?_ -- @t21 vS (Instr.extract t20 0)
  refine J.op (R.ext rfl) ?_ -- @t22 vS (Instr.extract t20 1)
  refine J.alloc bz fun bt8 => ?_
  refine J.stW sz176 (by with_reducible repeat (first | exact Pick.here | apply Pick.there)) (by exact bitsF_len) (by exact bitsF_len) (by exact allOne_bits) ?_ -- @tu_1 uS (Instr.storeAt 176 t8 t21)
  refine J.draw ?_
  refine J.op (R.ldA ag176 (by with_reducible repeat (first | exact Pick.here | apply Pick.there)) (by exact bitsF_len)) ?_ -- @t23 vS (Instr.loadAt 176 t8)
  refine J.op (R.ldA ag176 (by with_reducible repeat (first | exact Pick.here | apply Pick.there)) (by exact bitsF_len)) ?_ -- @t24 vS (Instr.loadAt 176 t2)
  refine J.op (R.ldA ag176 (by with_reducible repeat (first | exact Pick.here | apply Pick.there)) (by exact bitsF_len)) ?_ -- @t25 vS (Instr.loadAt 176 t3)
  refine J.callE en148 (s148 a b ha hb) rfl (fun _ _ _ => trivial) ?_ -- @t26 callS (.func (.func 148) #[] #[]) [t24, t25]
  refine J.chkR (R.ldA ag176 (by with_reducible repeat (first | exact Pick.here | apply Pick.there)) rfl) ?_ -- @chk:t23 vS (Instr.loadAt 176 t8)
  refine J.op (Runs.bool R.geq cmp_le) ?_ -- @t27 binS .geq 3 (.tmp 26) (.const (.int .i64 0)) t26 (.int .i64 0)
  refine J.stW sz176 (by with_reducible repeat (first | exact Pick.here | apply Pick.there)) (by exact bitsF_len) (by exact bitsF_len) (by exact allOne_bits) ?_ -- @tu_2 uS (Instr.storeAt 176 t4 t23)
  refine J.chkR (Runs.bool R.geq cmp_le) ?_ -- @chk:t27 binS .geq 3 (.tmp 26) (.const (.int .i64 0)) t26 (.int .i64 0)
  -- @ret[t4,t27]
  exact J.done (RetQ.ge (.cellA ag176 (by with_reducible repeat (first | exact Pick.here | apply Pick.there)) (by exact bitsF_len) (.tmp .nil)) (by rw [show (a + (340282366920938463463374607431768211455 - b + 1) % 340282366920938463463374607431768211456) % 340282366920938463463374607431768211456 = (a + 340282366920938463463374607431768211456 - b) % 340282366920938463463374607431768211456 by omega]; rfl))

/-- damper/damperref01.Mul -/
theorem s116 (a b : Nat) (ha : a < 18446744073709551616) (hb : b < 18446744073709551616) :
    FnE Try.prog 116 [.int .u64 (a : Int), .int .u64 (b : Int)] (fun _ => True) (.agg (bitsL (a * b)).toArray) := by
  refine fn_of_J (cx := cx116) hmix Try.func116 (by kernel_rfl) (eq116 _ _) fun w hw => ?_
  refine J.alloc bz fun bt4 => ?_
  refine J.alloc bz fun bt5 => ?_
  refine J.callE en146 (s146 0 a (by decide) ha) rfl (fun _ _ _ => trivial) ?_ -- @t9 callS (.func (.func 146) #[] #[]) [(.int .u64 0), a0]
  refine J.alloc bz fun bt6 => ?_
  refine J.stW sz176 (by with_reducible repeat (first | exact Pick.here | apply Pick.there)) (by exact bitsF_len) (by exact bitsF_len) (by exact allOne_bits) ?_ -- @tu uS (Instr.storeAt 176 t6 t9)
  refine J.bind ?_ -- @tv_2 bind tv_2 ([])
  refine J.block ?_
  -- @tx loop [(.int .i64 0)]
  refine J.loop (α := Nat) (fun i => i ≤ 64) (fun i => [.int .i64 i]) (fun i => [Ent.cells bt6 (bitsL (0 * 18446744073709551616 + a)) 176, Ent.cells bt5 (bitsL (a * (b % 2 ^ i))) 176, Ent.cells bt4 (bitsF fun _ => false) 176]) (fun i => 64 - i) 0 (by omega) rfl ?_ ?_
  · rw [show bitsL (a * (b % 2 ^ 0)) = bitsF fun _ => false by rw [show a * (b % 2 ^ 0) = 0 by simp [Nat.mod_one]]; exact bitsF_congr fun j _ => Nat.zero_testBit j]
    exact Imp.take (by (try dsimp only); repeat (first | exact Has.nil | refine Has.cons (by repeat (first | (with_reducible exact Out.here) | ((with_reducible refine Out.cells ?_); first | rfl | (simp; done)) | ((with_reducible refine Out.row ?_); first | rfl | (simp; done)) | (with_reducible apply Out.there))) ?_))
  rintro i hi6
  try simp only [List.headD_cons, List.tail_cons]
  refine J.opD R.lss (fun ht11 => ?_) (fun ht11 => ?_) -- @t11 binS .lss 3 (.tmp 10) (.const (.int .i64 64)) (tx.headD undef) (.int .i64 64)
  · skip
    refine J.iteT ?_
    refine J.bind ?_ -- @tv_1 bind tv_1 ([])
    refine J.block ?_
    obtain ⟨hm1, hm2, hm3⟩ := mul_step (i := i) ha hb (by omega)
    refine J.op (R.asI cv3_129 (v := ((i : Nat) : Int)) (u64_in _ (by omega))) ?_ -- @t16 vS (convert 3 129 (tx.headD undef))
    refine J.op (R.shrU (by omega)) ?_ -- @t17 binS .shr 54 (.tmp 14) (.tmp 16) a1 t16
    refine J.op (R.andU (n := 1) (Nat.lt_of_le_of_lt (Nat.div_le_self _ _) hb) (by decide)) ?_ -- @t18 binS .and 54 (.tmp 17) (.const (.int .u64 1)) t17 (.int .u64 1)
    refine J.op (Runs.bool R.eql bit_dec) ?_ -- @t19
    refine J.bind ?_ -- @tv bind tv ([])
    refine J.iteB (fun hct19 => ?_) (fun hct19 => ?_) -- ite t19
    · try simp only [List.headD_cons, List.tail_cons, decide_eq_true_eq] at hct19
      refine J.draw ?_
      refine J.op (R.ldA ag176 (by with_reducible repeat (first | exact Pick.here | apply Pick.there)) (by exact bitsF_len)) ?_ -- @t21 vS (Instr.loadAt 176 t5)
      refine J.op (R.ldA ag176 (by with_reducible repeat (first | exact Pick.here | apply Pick.there)) (by exact bitsF_len)) ?_ -- @t22 vS (Instr.loadAt 176 t6)
      refine J.callE en147 (s147 (0 * 18446744073709551616 + a) i (by omega)) rfl (fun _ _ _ => trivial) ?_
      rw [show (0 * 18446744073709551616 + a) * 2 ^ i % 340282366920938463463374607431768211456 = a * 2 ^ i from hm1] -- @t24 callS (.func (.func 147) #[] #[]) [t22, (tx.headD undef)]
      refine J.chkR (R.ldA ag176 (by with_reducible repeat (first | exact Pick.here | apply Pick.there)) rfl) ?_ -- @chk:t21 vS (Instr.loadAt 176 t5)
      refine J.callE en115 (s115 (a * (b % 2 ^ i)) (a * 2 ^ i) (by omega) (by omega)) rfl (fun _ _ _ => trivial) ?_
      rw [Nat.mod_eq_of_lt hm2] -- @t25 callS (.func (.func 115) #[] #[]) [t21, t24]
      refine J.op (R.ext rfl) ?_ -- @t26 vS (Instr.extract t25 0)
      refine J.op (R.ext rfl) ?_ -- @t27 vS (Instr.extract t25 1)
      refine J.stW sz176 (by with_reducible repeat (first | exact Pick.here | apply Pick.there)) (by exact bitsF_len) (by exact bitsF_len) (by exact allOne_bits) ?_ -- @tu_1 uS (Instr.storeAt 176 t5 t26)
      refine J.chkR (R.ext rfl) ?_ -- @chk:t27 vS (Instr.extract t25 1)
      refine J.done ?_ -- then tv = []
      refine J.done ?_ -- then tv_1 = []
      refine J.op (R.add64 (by omega)) ?_ -- @t13 binS .add 3 (.tmp 12) (.const (.int .i64 1)) (tx.headD undef) (.int .i64 1)
      -- @again[t13]
      exact J.done ⟨i + 1, by omega, rfl, by rw [hm3, if_pos hct19]; exact Imp.take (by (try dsimp only); repeat (first | exact Has.nil | refine Has.cons (by repeat (first | (with_reducible exact Out.here) | ((with_reducible refine Out.cells ?_); first | rfl | (simp; done)) | ((with_reducible refine Out.row ?_); first | rfl | (simp; done)) | (with_reducible apply Out.there))) ?_)), by omega⟩
    · try simp only [List.headD_cons, List.tail_cons, decide_eq_false_iff_not] at hct19
      refine J.done ?_ -- then tv = []
      refine J.done ?_ -- then tv_1 = []
      refine J.op (R.add64 (by omega)) ?_ -- @t13 binS .add 3 (.tmp 12) (.const (.int .i64 1)) (tx.headD undef) (.int .i64 1)
      -- @again[t13]#2
      exact J.done ⟨i + 1, by omega, rfl, by rw [hm3, if_neg (by rw [hct19]; decide), Nat.add_zero]; exact Imp.take (by (try dsimp only); repeat (first | exact Has.nil | refine Has.cons (by repeat (first | (with_reducible exact Out.here) | ((with_reducible refine Out.cells ?_); first | rfl | (simp; done)) | ((with_reducible refine Out.row ?_); first | rfl | (simp; done)) | (with_reducible apply Out.there))) ?_)), by omega⟩
  · skip
    refine J.iteF ?_
    refine J.done ⟨fun _ => ?_, fun h => absurd rfl h⟩ -- exit []
    refine J.op (R.ldA ag176 (by with_reducible repeat (first | exact Pick.here | apply Pick.there)) (by exact bitsF_len)) ?_ -- @t28 vS (Instr.loadAt 176 t5)
    refine J.stW sz176 (by with_reducible repeat (first | exact Pick.here | apply Pick.there)) (by exact bitsF_len) (by exact bitsF_len) (by exact allOne_bits) ?_ -- @tu_2 uS (Instr.storeAt 176 t4 t28)
    -- @ret[t4]
    obtain rfl : i = 64 := by omega
    exact J.done (RetQ.ge (.cellA ag176 (by with_reducible repeat (first | exact Pick.here | apply Pick.there)) (by exact bitsF_len) (.nil)) (by rw [show b % 2 ^ 64 = b from Nat.mod_eq_of_lt hb]; rfl))

/-- damper/damperref01.Div -/
theorem s117 (n d : Nat) (hn : n < 340282366920938463463374607431768211456) (hd : 0 < d ∧ d < 18446744073709551616) :
    FnE Try.prog 117 [.agg (bitsL n).toArray, .int .u64 (d : Int)] (fun _ => True) (.tuple #[.agg (bitsL (n / d)).toArray, .agg (bitsL (n % d)).toArray]) := by
  refine fn_of_J (cx := cx117) hmix Try.func117 (by kernel_rfl) (eq117 _ _) fun w hw => ?_
  refine J.boxA fun bt2 => ?_
  refine J.alloc bz fun bt4 => ?_
  refine J.alloc bz fun bt5 => ?_
  refine J.alloc bz fun bt6 => ?_
  refine J.alloc bz fun bt7 => ?_
  refine J.callE en146 (s146 0 d (by decide) hd.2) rfl (fun _ _ _ => trivial) ?_ -- @t11 callS (.func (.func 146) #[] #[]) [(.int .u64 0), a1]
  refine J.alloc bz fun bt8 => ?_
  refine J.stW sz176 (by with_reducible repeat (first | exact Pick.here | apply Pick.there)) (by exact bitsF_len) (by exact bitsF_len) (by exact allOne_bits) ?_ -- @tu uS (Instr.storeAt 176 t8 t11)
  refine J.bind ?_ -- @tv_2 bind tv_2 ([])
  refine J.block ?_
  -- @tx loop [(.int .i64 127)]
  refine J.loop (α := Nat) (fun k => k ≤ 128) (fun k => [.int .i64 ((k : Int) - 1)]) (fun k => [Ent.cells bt8 (bitsL (0 * 18446744073709551616 + d)) 176, Ent.cells bt7 (bitsL (n / 2 ^ k % d)) 176, Ent.cells bt6 (bitsF fun j => decide (k ≤ j) && (n / d).testBit j) 176, Ent.cells bt5 (bitsF fun _ => false) 176, Ent.cells bt4 (bitsF fun _ => false) 176, Ent.cells bt2 (bitsL n) 176]) (fun k => k) 128 (by omega) rfl ?_ ?_
  · rw [show bitsL (n / 2 ^ 128 % d) = bitsF fun _ => false by rw [show n / 2 ^ 128 % d = 0 by rw [Nat.div_eq_of_lt hn, Nat.zero_mod]]; exact bitsF_congr fun j _ => Nat.zero_testBit j, show bitsF (fun j => decide (128 ≤ j) && (n / d).testBit j) = bitsF fun _ => false from bitsF_congr fun j hj => by rw [decide_eq_false (by omega), Bool.false_and]]
    exact Imp.take (by (try dsimp only); repeat (first | exact Has.nil | refine Has.cons (by repeat (first | (with_reducible exact Out.here) | ((with_reducible refine Out.cells ?_); first | rfl | (simp; done)) | ((with_reducible refine Out.row ?_); first | rfl | (simp; done)) | (with_reducible apply Out.there))) ?_))
  rintro k hk
  try simp only [List.headD_cons, List.tail_cons]
  refine J.opD R.geq (fun ht13 => ?_) (fun ht13 => ?_) -- @t13 binS .geq 3 (.tmp 12) (.const (.int .i64 0)) (tx.headD undef) (.int .i64 0)
  · skip
    refine J.iteT ?_
    refine J.bind ?_ -- @tv_1 bind tv_1 ([])
    refine J.block ?_
    obtain ⟨k, rfl⟩ : ∃ q, k = q + 1 := ⟨k - 1, by omega⟩
    obtain ⟨hd1, hd2, hd3⟩ := div_step (n := n) (d := d) (k := k) hd.1
    have htb := Bool.toNat_le (n.testBit k)
    have hml := Nat.mod_lt (n / 2 ^ (k + 1)) hd.1
    generalize hX : n / 2 ^ (k + 1) % d = X at hd1 hd2 hd3 hml ⊢
    refine J.op (R.ldA ag176 (by with_reducible repeat (first | exact Pick.here | apply Pick.there)) (by exact bitsF_len)) ?_ -- @t16 vS (Instr.loadAt 176 t7)
    refine J.callE en147 (s147 X 1 (by decide)) rfl (fun _ _ _ => trivial) ?_
    rw [show X * 2 ^ 1 % 340282366920938463463374607431768211456 = 2 * X by omega] -- @t17 callS (.func (.func 147) #[] #[]) [t16, (.int .i64 1)]
    refine J.stW sz176 (by with_reducible repeat (first | exact Pick.here | apply Pick.there)) (by exact bitsF_len) (by exact bitsF_len) (by exact allOne_bits) ?_
    rw [show bitsL (2 * X) = bitsF (2 * X).testBit from rfl] -- @tu_1 uS (Instr.storeAt 176 t7 t17)
    refine J.op (R.ixA ar176 (by omega) (by omega)) ?_ -- @t19 ix t2 (tx.headD undef)
    refine J.op (R.ld o4 (by with_reducible repeat (first | exact Pick.here | apply Pick.there)) (bitsL_get (n := n) (i := k) (by simp; try omega) (by omega))) ?_ -- @t20 vS (Instr.loadAt 4 t19)
    refine J.op (R.ixA ar176 (by omega) (by omega)) ?_ -- @t21 ix t7 (.int .i64 0)
    refine J.stS sz4 (by with_reducible repeat (first | exact Pick.here | apply Pick.there)) (by rw [bitsF_len]; simp; try omega) rfl (bitsF_set (g := (2 * X + (n.testBit k).toNat).testBit) (i := 0) (by simp; try omega) (fun j _ => dbl_bit)) ?_
    rw [show bitsF (2 * X + (n.testBit k).toNat).testBit = bitsL (2 * X + (n.testBit k).toNat) from rfl] -- @tu_2 uS (Instr.storeAt 4 t21 t20)
    refine J.op (R.ldA ag176 (by with_reducible repeat (first | exact Pick.here | apply Pick.there)) (by exact bitsF_len)) ?_ -- @t22 vS (Instr.loadAt 176 t7)
    refine J.op (R.ldA ag176 (by with_reducible repeat (first | exact Pick.here | apply Pick.there)) (by exact bitsF_len)) ?_ -- @t23 vS (Instr.loadAt 176 t8)
    refine J.callE en148 (s148 (2 * X + (n.testBit k).toNat) (0 * 18446744073709551616 + d) (by omega) (by rw [Nat.zero_mul]; omega)) rfl (fun _ _ _ => trivial) ?_ -- @t24 callS (.func (.func 148) #[] #[]) [t22, t23]
    refine J.opD R.geq (fun ht25 => ?_) (fun ht25 => ?_) -- @t25 binS .geq 3 (.tmp 24) (.const (.int .i64 0)) t24 (.int .i64 0)
    · skip
      refine J.bind ?_ -- @tv bind tv ([])
      refine J.iteT ?_
      have hle := cmp_ge.1 ht25
      refine J.op (R.ldA ag176 (by with_reducible repeat (first | exact Pick.here | apply Pick.there)) (by exact bitsF_len)) ?_ -- @t27 vS (Instr.loadAt 176 t7)
      refine J.op (R.ldA ag176 (by with_reducible repeat (first | exact Pick.here | apply Pick.there)) (by exact bitsF_len)) ?_ -- @t28 vS (Instr.loadAt 176 t8)
      refine J.callE en149 (s149 (2 * X + (n.testBit k).toNat) (0 * 18446744073709551616 + d) (by omega) (by rw [Nat.zero_mul]; omega)) rfl (fun _ _ _ => trivial) ?_
      rw [show (2 * X + (n.testBit k).toNat + 340282366920938463463374607431768211456 - (0 * 18446744073709551616 + d)) % 340282366920938463463374607431768211456 = 2 * X + (n.testBit k).toNat - d by omega] -- @t29 callS (.func (.func 149) #[] #[]) [t27, t28]
      refine J.op (R.ext rfl) ?_ -- @t30 vS (Instr.extract t29 0)
      refine J.op (R.ext rfl) ?_ -- @t31 vS (Instr.extract t29 1)
      refine J.stW sz176 (by with_reducible repeat (first | exact Pick.here | apply Pick.there)) (by exact bitsF_len) (by exact bitsF_len) (by exact allOne_bits) ?_ -- @tu_3 uS (Instr.storeAt 176 t7 t30)
      refine J.op (R.ixA ar176 (by omega) (by omega)) ?_ -- @t33 ix t6 (tx.headD undef)
      refine J.stS sz4 (by with_reducible repeat (first | exact Pick.here | apply Pick.there)) (by rw [bitsF_len]; simp; try omega) rfl (bitsF_set (g := (fun j => decide (k ≤ j) && (n / d).testBit j)) (i := k) (by simp; try omega) (by intro j hj; by_cases e : j = k; (subst e; rw [if_pos rfl, hd3, decide_eq_true (show d ≤ _ by omega)]; simp); (rw [if_neg e, show decide (k ≤ j) = decide (k + 1 ≤ j) from decide_eq_decide.2 (by omega)]))) ?_ -- @tu_4 uS (Instr.storeAt 4 t33 (.bool true))
      refine J.done ?_ -- then tv = []
      refine J.done ?_ -- then tv_1 = []
      refine J.op (R.sub64 (by omega)) ?_ -- @t15 binS .sub 3 (.tmp 14) (.const (.int .i64 1)) (tx.headD undef) (.int .i64 1)
      -- @again[t15]
      exact J.done ⟨k, by omega, by simp <;> omega, by rw [hd2, if_pos (by omega)]; exact Imp.take (by (try dsimp only); repeat (first | exact Has.nil | refine Has.cons (by repeat (first | (with_reducible exact Out.here) | ((with_reducible refine Out.cells ?_); first | rfl | (simp; done)) | ((with_reducible refine Out.row ?_); first | rfl | (simp; done)) | (with_reducible apply Out.there))) ?_)), by omega⟩
    · skip
      refine J.bind ?_ -- @tv bind tv ([])
      refine J.iteF ?_
      refine J.done ?_ -- then tv = []
      refine J.done ?_ -- then tv_1 = []
      refine J.op (R.sub64 (by omega)) ?_ -- @t15 binS .sub 3 (.tmp 14) (.const (.int .i64 1)) (tx.headD undef) (.int .i64 1)
      -- @again[t15]#2
      have hle : ¬ 0 * 18446744073709551616 + d ≤ _ := fun h => ht25 (cmp_ge.2 h)
      exact J.done ⟨k, by omega, by simp <;> omega, by rw [hd2, if_neg (by omega), show bitsF (fun j => decide (k ≤ j) && (n / d).testBit j) = bitsF (fun j => decide (k + 1 ≤ j) && (n / d).testBit j) from bitsF_congr fun j hj => by by_cases e : j = k; (subst e; rw [hd3, decide_eq_false (show ¬ d ≤ _ by omega)]; simp); (rw [show decide (k ≤ j) = decide (k + 1 ≤ j) from decide_eq_decide.2 (by omega)])]; exact Imp.take (by (try dsimp only); repeat (first | exact Has.nil | refine Has.cons (by repeat (first | (with_reducible exact Out.here) | ((with_reducible refine Out.cells ?_); first | rfl | (simp; done)) | ((with_reducible refine Out.row ?_); first | rfl | (simp; done)) | (with_reducible apply Out.there))) ?_)), by omega⟩
  · skip
    refine J.iteF ?_
    refine J.done ⟨fun _ => ?_, fun h => absurd rfl h⟩ -- exit []
    refine J.draw ?_
    refine J.op (R.ldA ag176 (by with_reducible repeat (first | exact Pick.here | apply Pick.there)) (by exact bitsF_len)) ?_ -- @t34 vS (Instr.loadAt 176 t6)
    refine J.op (R.ldA ag176 (by with_reducible repeat (first | exact Pick.here | apply Pick.there)) (by exact bitsF_len)) ?_ -- @t35 vS (Instr.loadAt 176 t7)
    refine J.stW sz176 (by with_reducible repeat (first | exact Pick.here | apply Pick.there)) (by exact bitsF_len) (by exact bitsF_len) (by exact allOne_bits) ?_ -- @tu_5 uS (Instr.storeAt 176 t4 t34)
    refine J.chkR (R.ldA ag176 (by with_reducible repeat (first | exact Pick.here | apply Pick.there)) rfl) ?_ -- @chk:t35 vS (Instr.loadAt 176 t7)
    refine J.stW sz176 (by with_reducible repeat (first | exact Pick.here | apply Pick.there)) (by exact bitsF_len) (by exact bitsF_len) (by exact allOne_bits) ?_ -- @tu_6 uS (Instr.storeAt 176 t5 t35)
    -- @ret[t4,t5]
    obtain rfl : k = 0 := by omega
    exact J.done (RetQ.ge (.cellA ag176 (by with_reducible repeat (first | exact Pick.here | apply Pick.there)) (by exact bitsF_len) (.cellA ag176 (by with_reducible repeat (first | exact Pick.here | apply Pick.there)) (by exact bitsF_len) .nil)) (by rw [show bitsF (fun j => decide (0 ≤ j) && (n / d).testBit j) = bitsL (n / d) from bitsF_congr fun j _ => by simp, show n / 2 ^ 0 % d = n % d by simp]; rfl))
end Go.Proofs.Ytipgdalebkhgpaa
