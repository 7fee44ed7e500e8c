/-
  Contracts of functions.
-/
import Derived.Test.YtipgdalebkhgpaaTerms1
import Derived.Test.YtipgdalebkhgpaaTerms2
import Derived.Test.YtipgdalebkhgpaaTab
import Derived.Test.YtipgdalebkhgpaaModCfg
set_option maxRecDepth 100000
set_option maxHeartbeats 4000000
set_option linter.unusedVariables false
set_option linter.unusedSimpArgs false
namespace Go.Proofs.Ytipgdalebkhgpaa
open Go Go.RowKit Fw
/-- slices.IndexFunc[[]int64,int64] -/
theorem s168 (v : Value) (l : List Int) (g : Nat) (cap : List Value) (p : Int → Bool) (PG : World → Prop) (hst : Stab PG) (hen : Enters Try.prog g) (hg : ∀ x, FnE Try.prog g (.int .i64 x :: cap) PG (.bool (p x))) :
    FnE Try.prog 168 [v, .func (.func g) #[] cap.toArray] (fun w => RdS w v 1 (ints l) ∧ PG w) (.int .i64 (findI p l)) := by
  refine fn_of_J (cx := cx168) hmix Try.func168 (by kernel_rfl) (eq168 _ _) fun w hw => ?_
  have hS : ∀ H, SeeS ⟨Try.prog, w, footOf []⟩ H v 1 (ints l) := fun H => SeeS.ofW0 hw.1 ints_ne
  have hm := hw.1.le
  simp only [ints_len, maxLen] at hm
  refine J.op (R.lenN sl112 (by first | exact SeeS.row (by with_reducible repeat (first | exact Pick.here | apply Pick.there)) | apply_assumption) (by first | exact ints_len | exact bools_len | exact msgs_len | exact trows_len | exact edits_len | rfl)) ?_ -- @t7 bltS .len #[112] 3 #[false] [a0]
  refine J.bind ?_ -- @tv_1 bind tv_1 ([4])
  refine J.block ?_
  -- @tx loop [(.int .i64 0), (.int .i64 0)]
  refine J.loopH (α := Nat) (fun i => i ≤ l.length ∧ ∀ j y, j < i → l[j]? = some y → p y = false) (fun i => [.int .i64 0, .int .i64 i]) (fun i => l.length - i) 0 ⟨Nat.zero_le _, fun j y h => absurd h (Nat.not_lt_zero j)⟩ rfl ?_
  rintro i ⟨hi, hall⟩
  try simp only [List.headD_cons, List.tail_cons]
  refine J.opD R.lss (fun ht9 => ?_) (fun ht9 => ?_) -- @t9 binS .lss 3 (.tmp 8) (.tmp 7) (tx.tail.headD undef) t7
  · skip
    refine J.iteT ?_
    refine J.bind ?_ -- @tv bind tv ([4])
    refine J.block ?_
    try rw [ints_len] at ht9
    have hlt : i < l.length := by omega
    obtain ⟨x, hx⟩ := get_ex hlt
    refine J.ixW sl112 hS (by omega) (ints_get hx) fun b o hkt14 => ?_ -- @t14 ix a0 (tx.tail.headD undef)
    refine J.op (R.ldK0 o2 (hkt14 _)) ?_ -- @t15 vS (Instr.loadAt 2 t14)
    refine J.callEB hen (hg x) (by simp) (fun _ _ hs => hst _ _ hs.ext hw.2) (fun ht16 => ?_) (fun ht16 => ?_) -- @t16 callS a1 [t15]
    · skip
      refine J.iteT ?_
      -- @ret[(tx.tail.headDundef)]
      exact J.done (RetQ.ge (.tmp (.nil)) (by rw [findI_at hx ht16 hall]; rfl))
    · skip
      refine J.iteF ?_
      refine J.done ?_ -- then tv = [(tx.headD undef)]
      refine J.op (R.add64 (by omega)) ?_ -- @t18 binS .add 3 (.tmp 8) (.const (.int .i64 1)) (tx.tail.headD undef) (.int .i64 1)
      -- @again[(tv.headDundef),t18]
      refine J.done ⟨i + 1, ⟨by omega, fun j y hj hjt => ?_⟩, rfl, Imp.refl _, by omega⟩
      rcases Nat.lt_succ_iff_lt_or_eq.1 hj with hj | rfl
      · exact hall j y hj hjt
      · rw [hx] at hjt; cases hjt; exact ht16
  · skip
    refine J.iteF ?_
    refine J.done ⟨fun _ => ?_, fun h => absurd rfl h⟩ -- exit [(tx.headD undef)]
    -- @ret[(.int.i64(-1))]
    exact J.done (RetQ.ge (.tmp (.nil)) (by rw [findI_none (fun j y hj => hall j y (by have := (List.getElem?_eq_some_iff.1 hj).1; omega) hj)]; rfl))

/-- slices.ContainsFunc[[]int64,int64] -/
theorem s135 (v : Value) (l : List Int) (g : Nat) (cap : List Value) (p : Int → Bool) (PG : World → Prop) (hst : Stab PG) (hen : Enters Try.prog g) (hg : ∀ x, FnE Try.prog g (.int .i64 x :: cap) PG (.bool (p x))) :
    FnE Try.prog 135 [v, .func (.func g) #[] cap.toArray] (fun w => RdS w v 1 (ints l) ∧ PG w) (.bool (decide (findI p l ≥ 0))) := by
  refine fn_of_J (cx := cx135) hmix Try.func135 (by kernel_rfl) (eq135 _ _) fun w hw => ?_
  refine J.callE en168 (s168 v l g cap p PG hst hen hg) rfl (fun _ _ hs => ⟨Stab.rd ints_ne _ _ hs.ext hw.1, hst _ _ hs.ext hw.2⟩) ?_ -- @t7 callS (.func (.func 168) #[] #[]) [a0, a1]
  refine J.op R.geq ?_ -- @t8 binS .geq 3 (.tmp 7) (.const (.int .i64 0)) t7 (.int .i64 0)
  -- @ret[t8]
  exact J.done (RetQ.ge (.tmp (.nil)) (by first | rfl | (simp [mkRes, *]; done) | (simp_all [mkRes]; done) | (simp_all [mkRes]; first | omega | (rw [decide_eq_false_iff_not]; omega) | (rw [decide_eq_true_iff]; omega)) | (simp only [mkRes]; (repeat' split) <;> first | rfl | omega | (simp_all; done) | (simp_all; omega))))

/-- damper/config.all$1 -/
theorem s136 (n lo hi : Int) (b1 b2 : Nat) :
    FnE Try.prog 136 [.int .i64 n, .pointer (some ⟨b1, 0, none⟩), .pointer (some ⟨b2, 0, none⟩)] (fun w => Blk w b1 [.int .i64 lo] 2 ∧ Blk w b2 [.int .i64 hi] 2) (.bool (decide (n < lo) || decide (hi < n))) := by
  refine fn_of_J (cx := cx136) hmix Try.func136 (by kernel_rfl) (eq136 _ _ _) fun w hw => ?_
  refine J.bind ?_ -- @tv bind tv ([4])
  refine J.op (R.ldBk hw.1 not_foot o2 rfl) ?_ -- @t6 vS (Instr.loadAt 2 a1)
  refine J.opD R.lss (fun ht7 => ?_) (fun ht7 => ?_) -- @t7 binS .lss 2 (.tmp 5) (.tmp 6) a0 t6
  · skip
    refine J.gopF rfl ?_
    refine J.gopF rfl ?_
    refine J.gopF rfl ?_
    refine J.op R.pickT ?_ -- @t12 pickS t7 (.bool true) t11
    refine J.done ?_ -- then tv = [t12]
    -- @ret[(tv.headDundef)]
    exact J.done (RetQ.ge (.tmp (.nil)) (by first | rfl | (simp [mkRes, *]; done) | (simp_all [mkRes]; done) | (simp_all [mkRes]; first | omega | (rw [decide_eq_false_iff_not]; omega) | (rw [decide_eq_true_iff]; omega)) | (simp only [mkRes]; (repeat' split) <;> first | rfl | omega | (simp_all; done) | (simp_all; omega))))
  · skip
    refine J.gopT rfl ?_
    refine J.op R.pure ?_
    refine J.gopT rfl ?_
    refine J.op (R.ldBk hw.2 not_foot o2 rfl) ?_ -- @t10 vS (Instr.loadAt 2 a2)
    refine J.gopT rfl ?_
    refine J.op R.gtr ?_ -- @t11 binS .gtr 2 (.tmp 9) (.tmp 10) t9 t10
    refine J.op R.pickF ?_ -- @t12 pickS t7 (.bool true) t11
    refine J.done ?_ -- then tv = [t12]
    -- @ret[(tv.headDundef)]
    exact J.done (RetQ.ge (.tmp (.nil)) (by first | rfl | (simp [mkRes, *]; done) | (simp_all [mkRes]; done) | (simp_all [mkRes]; first | omega | (rw [decide_eq_false_iff_not]; omega) | (rw [decide_eq_true_iff]; omega)) | (simp only [mkRes]; (repeat' split) <;> first | rfl | omega | (simp_all; done) | (simp_all; omega))))

/-- damper/config.all -/
theorem s93 (lo hi : Int) (v : Value) (l : List Int) :
    FnE Try.prog 93 [.int .i64 lo, .int .i64 hi, v] (fun w => RdS w v 1 (ints l)) (.bool (allB lo hi l)) := by
  refine fn_of_J (cx := cx93) hmix Try.func93 (by kernel_rfl) (eq93 _ _ _) fun w hw => ?_
  refine J.box1 rfl fun bt3 => ?_
  refine J.box1 rfl fun bt4 => ?_
  refine J.callE en135 (s135 v l 136 [.pointer (some ⟨bt3, 0, none⟩), .pointer (some ⟨bt4, 0, none⟩)] (fun n => decide (n < lo) || decide (hi < n)) _ (Stab.and (Stab.blk (b := bt3) (cs := [.int .i64 lo]) (T := 2)) (Stab.blk (b := bt4) (cs := [.int .i64 hi]) (T := 2))) en136 (fun x => s136 x lo hi bt3 bt4)) rfl (fun _ _ hs => ⟨Stab.rd ints_ne _ _ hs.ext hw, Blk.of (by with_reducible repeat (first | exact Pick.here | apply Pick.there)) hs, Blk.of (by with_reducible repeat (first | exact Pick.here | apply Pick.there)) hs⟩) ?_ -- @t9 callS (.func (.func 135) #[] #[]) [a2, (.func (.func 136) #[] #[t3, t4])]
  refine J.op R.not ?_ -- @t10 vS (Op.unary .not t9)
  -- @ret[t10]
  exact J.done (RetQ.ge (.tmp (.nil)) (by simp only [mkRes, Value.bool.injEq]; have h := @allB_of lo hi l; rw [Bool.eq_iff_iff, ← h]; simp))

/-- damper/config.first -/
theorem s97 (v : Value) (l : List Rul) (PG : World → Prop) (hst : Stab PG) (hg : ∀ r, r ∈ l → Enters Try.prog r.f ∧ FnE Try.prog r.f r.caps PG (.bool r.ok)) :
    FnE Try.prog 97 [v] (fun w => RdS w v 2 (ruls l) ∧ PG w) (.int .i64 (firstFault l)) := by
  refine fn_of_J (cx := cx97) hmix Try.func97 (by kernel_rfl) (eq97 _) fun w hw => ?_
  have hS : ∀ H, SeeS ⟨Try.prog, w, footOf []⟩ H v 2 (ruls l) := fun H => SeeS.ofW0 hw.1 ruls_ne
  have hm := hw.1.le
  simp only [ruls_len, maxLen] at hm
  refine J.op (R.lenN sl200 (hS _) ruls_len) ?_ -- @t6 bltS .len #[200] 3 #[false] [a0]
  refine J.bind ?_ -- @tv_1 bind tv_1 ([2])
  refine J.block ?_
  -- @tx loop [(.int .i64 0), (.int .i64 0)]
  refine J.loopH (α := Nat) (fun i => i ≤ l.length ∧ ∀ j y, j < i → l[j]? = some y → y.ok = true) (fun i => [.int .i64 0, .int .i64 i]) (fun i => l.length - i) 0 ⟨Nat.zero_le _, fun j y h => absurd h (Nat.not_lt_zero j)⟩ rfl ?_
  rintro i ⟨hi, hall⟩
  try simp only [List.headD_cons, List.tail_cons]
  refine J.opD R.lss (fun ht8 => ?_) (fun ht8 => ?_) -- @t8 binS .lss 3 (.tmp 7) (.tmp 6) (tx.tail.headD undef) t6
  · skip
    refine J.iteT ?_
    refine J.bind ?_ -- @tv bind tv ([2])
    refine J.block ?_
    have hlt : i < l.length := by omega
    obtain ⟨x, hx⟩ := get_ex hlt
    refine J.ixW sl200 hS (by omega) (ruls_get hx) fun b o hkt9 => ?_ -- @t9 ix a0 (tx.tail.headD undef)
    refine J.op (R.ldKA ag168 (hkt9 _) rfl) ?_ -- @t10 vS (Instr.loadAt 168 t9)
    refine J.alloc z168 fun bt4 => ?_
    refine J.stW sz168 (by with_reducible repeat (first | exact Pick.here | apply Pick.there)) rfl rfl rfl ?_ -- @tu uS (Instr.storeAt 168 t4 t10)
    refine J.op fa168_0 ?_
    refine J.op (R.ld o23 (by with_reducible repeat (first | exact Pick.here | apply Pick.there)) rfl) ?_ -- @t12 vS (Instr.loadAt 23 t11)
    refine J.callEB (hg x (List.mem_of_getElem? hx)).1 (hg x (List.mem_of_getElem? hx)).2 (by simp) (fun _ _ hs => hst _ _ hs.ext hw.2) (fun ht13 => ?_) (fun ht13 => ?_) -- @t13 callS t12 []
    · skip
      refine J.op (v := .bool false) R.not ?_
      refine J.iteF ?_
      refine J.done ?_ -- then tv = [(tx.headD undef)]
      refine J.op (R.add64 (by omega)) ?_ -- @t17 binS .add 3 (.tmp 7) (.const (.int .i64 1)) (tx.tail.headD undef) (.int .i64 1)
      -- @again[(tv.headDundef),t17]
      refine J.done ⟨i + 1, ⟨by omega, fun j y hj hjt => ?_⟩, rfl, Imp.take (by (try dsimp only); repeat (first | exact Has.nil | refine Has.cons (by repeat (first | (with_reducible exact Out.here) | ((with_reducible refine Out.cells ?_); first | rfl | (simp; done)) | ((with_reducible refine Out.row ?_); first | rfl | (simp; done)) | (with_reducible apply Out.there))) ?_)), by omega⟩
      rcases Nat.lt_succ_iff_lt_or_eq.1 hj with hj | rfl
      · exact hall j y hj hjt
      · rw [hx] at hjt; cases hjt; exact ht13
    · skip
      refine J.op (v := .bool true) R.not ?_
      refine J.iteT ?_
      refine J.op fa168_1 ?_
      refine J.op (R.ld o25 (by with_reducible repeat (first | exact Pick.here | apply Pick.there)) rfl) ?_ -- @t16 vS (Instr.loadAt 25 t15)
      -- @ret[t16]
      exact J.done (RetQ.ge (.tmp (.nil)) (by rw [firstFault_at hx ht13 hall]; rfl))
  · skip
    refine J.iteF ?_
    refine J.done ⟨fun _ => ?_, fun h => absurd rfl h⟩ -- exit [(tx.headD undef)]
    -- @ret[(.int.i640)]
    exact J.done (RetQ.ge (.tmp (.nil)) (by rw [firstFault_none (fun j y hj => hall j y (by have := (List.getElem?_eq_some_iff.1 hj).1; omega) hj)]; rfl))

/-- damper/fix.Down -/
theorem s85 (p g : Int) :
    FnE Try.prog 85 [.int .i64 p, .int .i64 g] (fun _ => True) (.int .i64 (downF p g)) := by
  refine fn_of_J (cx := cx85) hmix Try.func85 (by kernel_rfl) (eq85 _ _) fun w hw => ?_
  refine J.bind ?_ -- @tv bind tv ([10])
  refine J.opD R.lss (fun ht6 => ?_) (fun ht6 => ?_) -- @t6 binS .lss 2 (.tmp 5) (.const (.int .i64 0)) a0 (.int .i64 0)
  · skip
    refine J.gopF rfl ?_
    refine J.gopF rfl ?_
    refine J.op R.pickT ?_ -- @t10 pickS t6 (.bool true) t9
    refine J.done ?_ -- then tv = [t10]
    refine J.iteT ?_
    -- @ret[(.int.i640)]
    exact J.done (RetQ.ge (.tmp (.nil)) (by first | rfl | (simp [downF, mkRes, *]; done) | (simp_all [downF, mkRes]; done) | (simp_all [downF, mkRes]; first | omega | (rw [decide_eq_false_iff_not]; omega) | (rw [decide_eq_true_iff]; omega)) | (simp only [downF, mkRes]; (repeat' split) <;> first | rfl | omega | (simp_all; done) | (simp_all; omega))))
  · skip
    refine J.gopT rfl ?_
    refine J.op R.pure ?_
    refine J.gopT rfl ?_
    refine J.op R.lss ?_ -- @t9 binS .lss 2 (.tmp 8) (.const (.int .i64 1)) t8 (.int .i64 1)
    refine J.op R.pickF ?_ -- @t10 pickS t6 (.bool true) t9
    refine J.done ?_ -- then tv = [t10]
    refine J.iteB (fun hctvheadDundef => ?_) (fun hctvheadDundef => ?_) -- ite (tv.headD undef)
    · try simp only [List.headD_cons, List.tail_cons, decide_eq_true_eq] at hctvheadDundef
      -- @ret[(.int.i640)]
      exact J.done (RetQ.ge (.tmp (.nil)) (by first | rfl | (simp [downF, mkRes, *]; done) | (simp_all [downF, mkRes]; done) | (simp_all [downF, mkRes]; first | omega | (rw [decide_eq_false_iff_not]; omega) | (rw [decide_eq_true_iff]; omega)) | (simp only [downF, mkRes]; (repeat' split) <;> first | rfl | omega | (simp_all; done) | (simp_all; omega))))
    · try simp only [List.headD_cons, List.tail_cons, decide_eq_false_iff_not] at hctvheadDundef
      refine J.op (R.quo (by first | decide | assumption | omega)) ?_ -- @t13 binS .quo 2 (.tmp 11) (.tmp 12) a0 a1
      refine J.op R.mul ?_ -- @t15 binS .mul 2 (.tmp 13) (.tmp 14) t13 a1
      -- @ret[t15]
      exact J.done (RetQ.ge (.tmp (.nil)) (by first | rfl | (simp [downF, mkRes, *]; done) | (simp_all [downF, mkRes]; done) | (simp_all [downF, mkRes]; first | omega | (rw [decide_eq_false_iff_not]; omega) | (rw [decide_eq_true_iff]; omega)) | (simp only [downF, mkRes]; (repeat' split) <;> first | rfl | omega | (simp_all; done) | (simp_all; omega))))

/-- damper/fix.Price -/
theorem s78 (p g : Int) :
    FnE Try.prog 78 [.int .i64 p, .int .i64 g] (fun _ => True) (.int .i64 (priceF p g)) := by
  refine fn_of_J (cx := cx78) hmix Try.func78 (by kernel_rfl) (eq78 _ _) fun w hw => ?_
  refine J.bind ?_ -- @tv_1 bind tv_1 ([4])
  refine J.block ?_
  refine J.opD R.lss (fun ht7 => ?_) (fun ht7 => ?_) -- @t7 binS .lss 2 (.tmp 6) (.const (.int .i64 1)) a1 (.int .i64 1)
  · skip
    refine J.iteT ?_
    -- @ret[(.int.i641)]
    exact J.done (RetQ.ge (.tmp (.nil)) (by first | rfl | (simp [priceF, maxP, mkRes, *]; done) | (simp_all [priceF, maxP, mkRes]; done) | (simp_all [priceF, maxP, mkRes]; first | omega | (rw [decide_eq_false_iff_not]; omega) | (rw [decide_eq_true_iff]; omega)) | (simp only [priceF, maxP, mkRes]; (repeat' split) <;> first | rfl | omega | (simp_all; done) | (simp_all; omega))))
  · skip
    refine J.iteF ?_
    refine J.bind ?_ -- @tv bind tv ([8])
    refine J.opD R.lss (fun ht10 => ?_) (fun ht10 => ?_) -- @t10 binS .lss 2 (.tmp 9) (.const (.int .i64 1)) a0 (.int .i64 1)
    · skip
      refine J.gopF rfl ?_
      refine J.gopF rfl ?_
      refine J.op R.pickT ?_ -- @t14 pickS t10 (.bool true) t13
      refine J.done ?_ -- then tv = [t14]
      refine J.iteT ?_
      -- @ret[(.int.i649)]
      exact J.done (RetQ.ge (.tmp (.nil)) (by first | rfl | (simp [priceF, maxP, mkRes, *]; done) | (simp_all [priceF, maxP, mkRes]; done) | (simp_all [priceF, maxP, mkRes]; first | omega | (rw [decide_eq_false_iff_not]; omega) | (rw [decide_eq_true_iff]; omega)) | (simp only [priceF, maxP, mkRes]; (repeat' split) <;> first | rfl | omega | (simp_all; done) | (simp_all; omega))))
    · skip
      refine J.gopT rfl ?_
      refine J.op R.pure ?_
      refine J.gopT rfl ?_
      refine J.op R.gtr ?_ -- @t13 binS .gtr 2 (.tmp 12) (.const (.int .i64 1099511627776)) t12 (.int .i64 1099511627776)
      refine J.op R.pickF ?_ -- @t14 pickS t10 (.bool true) t13
      refine J.done ?_ -- then tv = [t14]
      refine J.iteB (fun hctvheadDundef => ?_) (fun hctvheadDundef => ?_) -- ite (tv.headD undef)
      · try simp only [List.headD_cons, List.tail_cons, decide_eq_true_eq] at hctvheadDundef
        -- @ret[(.int.i649)]
        exact J.done (RetQ.ge (.tmp (.nil)) (by first | rfl | (simp [priceF, maxP, mkRes, *]; done) | (simp_all [priceF, maxP, mkRes]; done) | (simp_all [priceF, maxP, mkRes]; first | omega | (rw [decide_eq_false_iff_not]; omega) | (rw [decide_eq_true_iff]; omega)) | (simp only [priceF, maxP, mkRes]; (repeat' split) <;> first | rfl | omega | (simp_all; done) | (simp_all; omega))))
      · try simp only [List.headD_cons, List.tail_cons, decide_eq_false_iff_not] at hctvheadDundef
        refine J.callE en85 (s85 _ _) rfl (fun _ _ _ => trivial) ?_ -- @t18 callS (.func (.func 85) #[] #[]) [a0, a1]
        refine J.opD R.neq (fun ht20 => ?_) (fun ht20 => ?_) -- @t20 binS .neq 2 (.tmp 18) (.tmp 19) t18 a0
        · skip
          refine J.iteT ?_
          -- @ret[(.int.i648)]
          exact J.done (RetQ.ge (.tmp (.nil)) (by first | rfl | (simp [priceF, maxP, mkRes, *]; done) | (simp_all [priceF, maxP, mkRes]; done) | (simp_all [priceF, maxP, mkRes]; first | omega | (rw [decide_eq_false_iff_not]; omega) | (rw [decide_eq_true_iff]; omega)) | (simp only [priceF, maxP, mkRes]; (repeat' split) <;> first | rfl | omega | (simp_all; done) | (simp_all; omega))))
        · skip
          refine J.iteF ?_
          refine J.done ?_ -- then tv_1 = [(.int .i64 0)]
          -- @ret[(.int.i640)]
          exact J.done (RetQ.ge (.tmp (.nil)) (by first | rfl | (simp [priceF, maxP, mkRes, *]; done) | (simp_all [priceF, maxP, mkRes]; done) | (simp_all [priceF, maxP, mkRes]; first | omega | (rw [decide_eq_false_iff_not]; omega) | (rw [decide_eq_true_iff]; omega)) | (simp only [priceF, maxP, mkRes]; (repeat' split) <;> first | rfl | omega | (simp_all; done) | (simp_all; omega))))

/-- damper/config.Symbol$1 -/
theorem s137 (b : Nat) (s : Sym) :
    FnE Try.prog 137 [.pointer (some ⟨b, 0, none⟩)] (fun w => Blk w b s.cells 123) (.bool (allB 1 maxP [s.grid, s.ref])) := by
  refine fn_of_J (cx := cx137) hmix Try.func137 (by kernel_rfl) (eq137 _) fun w hw => ?_
  refine J.op fa123_0 ?_
  refine J.op (R.ldBk hw not_foot o2 rfl) ?_ -- @t3 vS (Instr.loadAt 2 t2)
  refine J.op fa123_1 ?_
  refine J.op (R.ldBk hw not_foot o2 rfl) ?_ -- @t5 vS (Instr.loadAt 2 t4)
  refine J.bs bs112_2 fun bt6 => ?_ -- @t6 vS (Instr.buildSlice 112 2 #[(0, t3), (1, t5)])
  refine J.callE en93 (s93 _ _ _ _) rfl (fun _ _ hs => SeeS.ints (by with_reducible repeat (first | exact Pick.here | apply Pick.there)) (by repeat constructor) (by rfl) (by decide) _ _ hs) ?_ -- @t7 callS (.func (.func 93) #[] #[]) [(.int .i64 1), (.int .i64 1099511627776), t6]
  -- @ret[t7]
  exact J.done (RetQ.ge (.tmp (.nil)) (by first | rfl | (simp [mkRes, *]; done) | (simp_all [mkRes]; done) | (simp_all [mkRes]; first | omega | (rw [decide_eq_false_iff_not]; omega) | (rw [decide_eq_true_iff]; omega)) | (simp only [mkRes]; (repeat' split) <;> first | rfl | omega | (simp_all; done) | (simp_all; omega))))

/-- damper/config.Symbol$2 -/
theorem s138 (b : Nat) (s : Sym) :
    FnE Try.prog 138 [.pointer (some ⟨b, 0, none⟩)] (fun w => Blk w b s.cells 123) (.bool (decide (priceF s.ref s.grid = 0))) := by
  refine fn_of_J (cx := cx138) hmix Try.func138 (by kernel_rfl) (eq138 _) fun w hw => ?_
  refine J.op fa123_1 ?_
  refine J.op (R.ldBk hw not_foot o2 rfl) ?_ -- @t3 vS (Instr.loadAt 2 t2)
  refine J.op fa123_0 ?_
  refine J.op (R.ldBk hw not_foot o2 rfl) ?_ -- @t5 vS (Instr.loadAt 2 t4)
  refine J.callE en78 (s78 _ _) rfl (fun _ _ _ => trivial) ?_ -- @t6 callS (.func (.func 78) #[] #[]) [t3, t5]
  refine J.op R.eql ?_ -- @t7 binS .eql 25 (.tmp 6) (.const (.int .i64 0)) t6 (.int .i64 0)
  -- @ret[t7]
  exact J.done (RetQ.ge (.tmp (.nil)) (by first | rfl | (simp [mkRes, *]; done) | (simp_all [mkRes]; done) | (simp_all [mkRes]; first | omega | (rw [decide_eq_false_iff_not]; omega) | (rw [decide_eq_true_iff]; omega)) | (simp only [mkRes]; (repeat' split) <;> first | rfl | omega | (simp_all; done) | (simp_all; omega))))

/-- damper/config.Symbol$3 -/
theorem s139 (b : Nat) (s : Sym) :
    FnE Try.prog 139 [.pointer (some ⟨b, 0, none⟩)] (fun w => Blk w b s.cells 123) (.bool (allB 0 9999 [s.static, s.dyn, s.move, s.collar, s.widen, s.short])) := by
  refine fn_of_J (cx := cx139) hmix Try.func139 (by kernel_rfl) (eq139 _) fun w hw => ?_
  refine J.op fa123_2 ?_
  refine J.op (R.ldBk hw not_foot o3 rfl) ?_ -- @t3 vS (Instr.loadAt 3 t2)
  refine J.op fa123_3 ?_
  refine J.op (R.ldBk hw not_foot o3 rfl) ?_ -- @t5 vS (Instr.loadAt 3 t4)
  refine J.op fa123_5 ?_
  refine J.op (R.ldBk hw not_foot o3 rfl) ?_ -- @t7 vS (Instr.loadAt 3 t6)
  refine J.op fa123_10 ?_
  refine J.op (R.ldBk hw not_foot o3 rfl) ?_ -- @t9 vS (Instr.loadAt 3 t8)
  refine J.op fa123_11 ?_
  refine J.op (R.ldBk hw not_foot o3 rfl) ?_ -- @t11 vS (Instr.loadAt 3 t10)
  refine J.op fa123_15 ?_
  refine J.op (R.ldBk hw not_foot o3 rfl) ?_ -- @t13 vS (Instr.loadAt 3 t12)
  refine J.bs bs112_6 fun bt14 => ?_ -- @t14 vS (Instr.buildSlice 112 6 #[(0, t3), (1, t5), (2, t7), (3, t9), (4, t11), (5, t13)])
  refine J.callE en93 (s93 _ _ _ _) rfl (fun _ _ hs => SeeS.ints (by with_reducible repeat (first | exact Pick.here | apply Pick.there)) (by repeat constructor) (by rfl) (by decide) _ _ hs) ?_ -- @t15 callS (.func (.func 93) #[] #[]) [(.int .i64 0), (.int .i64 9999), t14]
  -- @ret[t15]
  exact J.done (RetQ.ge (.tmp (.nil)) (by first | rfl | (simp [mkRes, *]; done) | (simp_all [mkRes]; done) | (simp_all [mkRes]; first | omega | (rw [decide_eq_false_iff_not]; omega) | (rw [decide_eq_true_iff]; omega)) | (simp only [mkRes]; (repeat' split) <;> first | rfl | omega | (simp_all; done) | (simp_all; omega))))

/-- damper/config.Symbol$4 -/
theorem s140 (b : Nat) (s : Sym) :
    FnE Try.prog 140 [.pointer (some ⟨b, 0, none⟩)] (fun w => Blk w b s.cells 123) (.bool (allB 1 maxP [s.window, s.limit, s.pause, s.ext])) := by
  refine fn_of_J (cx := cx140) hmix Try.func140 (by kernel_rfl) (eq140 _) fun w hw => ?_
  refine J.op fa123_4 ?_
  refine J.op (R.ldBk hw not_foot o2 rfl) ?_ -- @t3 vS (Instr.loadAt 2 t2)
  refine J.op fa123_6 ?_
  refine J.op (R.ldBk hw not_foot o2 rfl) ?_ -- @t5 vS (Instr.loadAt 2 t4)
  refine J.op fa123_7 ?_
  refine J.op (R.ldBk hw not_foot o2 rfl) ?_ -- @t7 vS (Instr.loadAt 2 t6)
  refine J.op fa123_8 ?_
  refine J.op (R.ldBk hw not_foot o2 rfl) ?_ -- @t9 vS (Instr.loadAt 2 t8)
  refine J.bs bs112_4 fun bt10 => ?_ -- @t10 vS (Instr.buildSlice 112 4 #[(0, t3), (1, t5), (2, t7), (3, t9)])
  refine J.callE en93 (s93 _ _ _ _) rfl (fun _ _ hs => SeeS.ints (by with_reducible repeat (first | exact Pick.here | apply Pick.there)) (by repeat constructor) (by rfl) (by decide) _ _ hs) ?_ -- @t11 callS (.func (.func 93) #[] #[]) [(.int .i64 1), (.int .i64 1099511627776), t10]
  -- @ret[t11]
  exact J.done (RetQ.ge (.tmp (.nil)) (by first | rfl | (simp [mkRes, *]; done) | (simp_all [mkRes]; done) | (simp_all [mkRes]; first | omega | (rw [decide_eq_false_iff_not]; omega) | (rw [decide_eq_true_iff]; omega)) | (simp only [mkRes]; (repeat' split) <;> first | rfl | omega | (simp_all; done) | (simp_all; omega))))

/-- damper/config.Symbol$5 -/
theorem s141 (b : Nat) (s : Sym) :
    FnE Try.prog 141 [.pointer (some ⟨b, 0, none⟩)] (fun w => Blk w b s.cells 123) (.bool (allB 0 10 [s.maxExt] && allB 0 3 [s.self_])) := by
  refine fn_of_J (cx := cx141) hmix Try.func141 (by kernel_rfl) (eq141 _) fun w hw => ?_
  refine J.bind ?_ -- @tv bind tv ([1])
  refine J.op fa123_9 ?_
  refine J.op (R.ldBk hw not_foot o3 rfl) ?_ -- @t3 vS (Instr.loadAt 3 t2)
  refine J.bs bs112_1 fun bt4 => ?_ -- @t4 vS (Instr.buildSlice 112 1 #[(0, t3)])
  refine J.callEB en93 (s93 _ _ _ _) rfl (fun _ _ hs => SeeS.ints (by with_reducible repeat (first | exact Pick.here | apply Pick.there)) (by repeat constructor) (by rfl) (by decide) _ _ hs) (fun ht5 => ?_) (fun ht5 => ?_) -- @t5 callS (.func (.func 93) #[] #[]) [(.int .i64 0), (.int .i64 10), t4]
  · skip
    refine J.gopT rfl ?_
    refine J.op fa123_12 ?_
    refine J.gopT rfl ?_
    refine J.op (R.ldBk hw not_foot o3 rfl) ?_ -- @t8 vS (Instr.loadAt 3 t7)
    refine J.gopT rfl ?_
    refine J.bs bs112_1 fun bt9 => ?_ -- @t9 vS (Instr.buildSlice 112 1 #[(0, t8)])
    refine J.gopT rfl ?_
    refine J.callE en93 (s93 _ _ _ _) rfl (fun _ _ hs => SeeS.ints (by with_reducible repeat (first | exact Pick.here | apply Pick.there)) (by repeat constructor) (by rfl) (by decide) _ _ hs) ?_ -- @t10 callS (.func (.func 93) #[] #[]) [(.int .i64 0), (.int .i64 3), t9]
    refine J.op R.pickT ?_ -- @t11 pickS t5 t10 (.bool false)
    refine J.done ?_ -- then tv = [t11]
    -- @ret[(tv.headDundef)]
    exact J.done (RetQ.ge (.tmp (.nil)) (by first | rfl | (simp [mkRes, *]; done) | (simp_all [mkRes]; done) | (simp_all [mkRes]; first | omega | (rw [decide_eq_false_iff_not]; omega) | (rw [decide_eq_true_iff]; omega)) | (simp only [mkRes]; (repeat' split) <;> first | rfl | omega | (simp_all; done) | (simp_all; omega))))
  · skip
    refine J.gopF rfl ?_
    refine J.gopF rfl ?_
    refine J.gopF rfl ?_
    refine J.gopF rfl ?_
    refine J.op R.pickF ?_ -- @t11 pickS t5 t10 (.bool false)
    refine J.done ?_ -- then tv = [t11]
    -- @ret[(tv.headDundef)]
    exact J.done (RetQ.ge (.tmp (.nil)) (by first | rfl | (simp [mkRes, *]; done) | (simp_all [mkRes]; done) | (simp_all [mkRes]; first | omega | (rw [decide_eq_false_iff_not]; omega) | (rw [decide_eq_true_iff]; omega)) | (simp only [mkRes]; (repeat' split) <;> first | rfl | omega | (simp_all; done) | (simp_all; omega))))

/-- damper/config.Symbol$6 -/
theorem s142 (b : Nat) (s : Sym) :
    FnE Try.prog 142 [.pointer (some ⟨b, 0, none⟩)] (fun w => Blk w b s.cells 123) (.bool (allB 1 500 [s.slots] && allB 1 200 [s.levels])) := by
  refine fn_of_J (cx := cx142) hmix Try.func142 (by kernel_rfl) (eq142 _) fun w hw => ?_
  refine J.bind ?_ -- @tv bind tv ([1])
  refine J.op fa123_13 ?_
  refine J.op (R.ldBk hw not_foot o3 rfl) ?_ -- @t3 vS (Instr.loadAt 3 t2)
  refine J.bs bs112_1 fun bt4 => ?_ -- @t4 vS (Instr.buildSlice 112 1 #[(0, t3)])
  refine J.callEB en93 (s93 _ _ _ _) rfl (fun _ _ hs => SeeS.ints (by with_reducible repeat (first | exact Pick.here | apply Pick.there)) (by repeat constructor) (by rfl) (by decide) _ _ hs) (fun ht5 => ?_) (fun ht5 => ?_) -- @t5 callS (.func (.func 93) #[] #[]) [(.int .i64 1), (.int .i64 500), t4]
  · skip
    refine J.gopT rfl ?_
    refine J.op fa123_14 ?_
    refine J.gopT rfl ?_
    refine J.op (R.ldBk hw not_foot o3 rfl) ?_ -- @t8 vS (Instr.loadAt 3 t7)
    refine J.gopT rfl ?_
    refine J.bs bs112_1 fun bt9 => ?_ -- @t9 vS (Instr.buildSlice 112 1 #[(0, t8)])
    refine J.gopT rfl ?_
    refine J.callE en93 (s93 _ _ _ _) rfl (fun _ _ hs => SeeS.ints (by with_reducible repeat (first | exact Pick.here | apply Pick.there)) (by repeat constructor) (by rfl) (by decide) _ _ hs) ?_ -- @t10 callS (.func (.func 93) #[] #[]) [(.int .i64 1), (.int .i64 200), t9]
    refine J.op R.pickT ?_ -- @t11 pickS t5 t10 (.bool false)
    refine J.done ?_ -- then tv = [t11]
    -- @ret[(tv.headDundef)]
    exact J.done (RetQ.ge (.tmp (.nil)) (by first | rfl | (simp [mkRes, *]; done) | (simp_all [mkRes]; done) | (simp_all [mkRes]; first | omega | (rw [decide_eq_false_iff_not]; omega) | (rw [decide_eq_true_iff]; omega)) | (simp only [mkRes]; (repeat' split) <;> first | rfl | omega | (simp_all; done) | (simp_all; omega))))
  · skip
    refine J.gopF rfl ?_
    refine J.gopF rfl ?_
    refine J.gopF rfl ?_
    refine J.gopF rfl ?_
    refine J.op R.pickF ?_ -- @t11 pickS t5 t10 (.bool false)
    refine J.done ?_ -- then tv = [t11]
    -- @ret[(tv.headDundef)]
    exact J.done (RetQ.ge (.tmp (.nil)) (by first | rfl | (simp [mkRes, *]; done) | (simp_all [mkRes]; done) | (simp_all [mkRes]; first | omega | (rw [decide_eq_false_iff_not]; omega) | (rw [decide_eq_true_iff]; omega)) | (simp only [mkRes]; (repeat' split) <;> first | rfl | omega | (simp_all; done) | (simp_all; omega))))

/-- damper/config.Symbol$7 -/
theorem s143 (b : Nat) (s : Sym) :
    FnE Try.prog 143 [.pointer (some ⟨b, 0, none⟩)] (fun w => Blk w b s.cells 123) (.bool (decide (s.dyn ≤ s.static))) := by
  refine fn_of_J (cx := cx143) hmix Try.func143 (by kernel_rfl) (eq143 _) fun w hw => ?_
  refine J.op fa123_3 ?_
  refine J.op (R.ldBk hw not_foot o3 rfl) ?_ -- @t3 vS (Instr.loadAt 3 t2)
  refine J.op fa123_2 ?_
  refine J.op (R.ldBk hw not_foot o3 rfl) ?_ -- @t5 vS (Instr.loadAt 3 t4)
  refine J.op R.leq ?_ -- @t6 binS .leq 3 (.tmp 3) (.tmp 5) t3 t5
  -- @ret[t6]
  exact J.done (RetQ.ge (.tmp (.nil)) (by first | rfl | (simp [mkRes, *]; done) | (simp_all [mkRes]; done) | (simp_all [mkRes]; first | omega | (rw [decide_eq_false_iff_not]; omega) | (rw [decide_eq_true_iff]; omega)) | (simp only [mkRes]; (repeat' split) <;> first | rfl | omega | (simp_all; done) | (simp_all; omega))))

/-- damper/config.Symbol -/
theorem s94 (s : Sym) :
    FnE Try.prog 94 [.agg s.cells.toArray] (fun _ => True) (.int .i64 (symFault s)) := by
  refine fn_of_J (cx := cx94) hmix Try.func94 (by kernel_rfl) (eq94 _) fun w hw => ?_
  refine J.boxA fun bt1 => ?_
  refine J.op bd168_0_1 ?_ -- @t4 vS (Instr.build 168 #[(0, (.func (.func 137) #[] #[t1])), (1, (.int .i64 9))])
  refine J.op bd168_0_1 ?_ -- @t6 vS (Instr.build 168 #[(0, (.func (.func 138) #[] #[t1])), (1, (.int .i64 8))])
  refine J.op bd168_0_1 ?_ -- @t8 vS (Instr.build 168 #[(0, (.func (.func 139) #[] #[t1])), (1, (.int .i64 9))])
  refine J.op bd168_0_1 ?_ -- @t10 vS (Instr.build 168 #[(0, (.func (.func 140) #[] #[t1])), (1, (.int .i64 9))])
  refine J.op bd168_0_1 ?_ -- @t12 vS (Instr.build 168 #[(0, (.func (.func 141) #[] #[t1])), (1, (.int .i64 9))])
  refine J.op bd168_0_1 ?_ -- @t14 vS (Instr.build 168 #[(0, (.func (.func 142) #[] #[t1])), (1, (.int .i64 9))])
  refine J.op bd168_0_1 ?_ -- @t16 vS (Instr.build 168 #[(0, (.func (.func 143) #[] #[t1])), (1, (.int .i64 11))])
  refine J.bs bs200_7 fun bt17 => ?_ -- @t17 vS (Instr.buildSlice 200 7 #[(0, t4), (1, t6), (2, t8), (3, t10), (4, t12), (5, t14), (6, t16)])
  refine J.callE en97 (s97 _ ([⟨137, [.pointer (some ⟨bt1, 0, none⟩)], 9, allB 1 maxP [s.grid, s.ref]⟩, ⟨138, [.pointer (some ⟨bt1, 0, none⟩)], 8, decide (priceF s.ref s.grid = 0)⟩, ⟨139, [.pointer (some ⟨bt1, 0, none⟩)], 9, allB 0 9999 [s.static, s.dyn, s.move, s.collar, s.widen, s.short]⟩, ⟨140, [.pointer (some ⟨bt1, 0, none⟩)], 9, allB 1 maxP [s.window, s.limit, s.pause, s.ext]⟩, ⟨141, [.pointer (some ⟨bt1, 0, none⟩)], 9, allB 0 10 [s.maxExt] && allB 0 3 [s.self_]⟩, ⟨142, [.pointer (some ⟨bt1, 0, none⟩)], 9, allB 1 500 [s.slots] && allB 1 200 [s.levels]⟩, ⟨143, [.pointer (some ⟨bt1, 0, none⟩)], 11, decide (s.dyn ≤ s.static)⟩]) (fun w => Blk w bt1 s.cells 123) Stab.blk (by intro r hr; simp only [List.mem_cons, List.not_mem_nil, or_false] at hr; rcases hr with rfl | rfl | rfl | rfl | rfl | rfl | rfl <;> first | exact ⟨en137, s137 bt1 s⟩ | exact ⟨en138, s138 bt1 s⟩ | exact ⟨en139, s139 bt1 s⟩ | exact ⟨en140, s140 bt1 s⟩ | exact ⟨en141, s141 bt1 s⟩ | exact ⟨en142, s142 bt1 s⟩ | exact ⟨en143, s143 bt1 s⟩)) rfl (fun _ _ hs => ⟨SeeS.lit (els := ruls ([⟨137, [.pointer (some ⟨bt1, 0, none⟩)], 9, allB 1 maxP [s.grid, s.ref]⟩, ⟨138, [.pointer (some ⟨bt1, 0, none⟩)], 8, decide (priceF s.ref s.grid = 0)⟩, ⟨139, [.pointer (some ⟨bt1, 0, none⟩)], 9, allB 0 9999 [s.static, s.dyn, s.move, s.collar, s.widen, s.short]⟩, ⟨140, [.pointer (some ⟨bt1, 0, none⟩)], 9, allB 1 maxP [s.window, s.limit, s.pause, s.ext]⟩, ⟨141, [.pointer (some ⟨bt1, 0, none⟩)], 9, allB 0 10 [s.maxExt] && allB 0 3 [s.self_]⟩, ⟨142, [.pointer (some ⟨bt1, 0, none⟩)], 9, allB 1 500 [s.slots] && allB 1 200 [s.levels]⟩, ⟨143, [.pointer (some ⟨bt1, 0, none⟩)], 11, decide (s.dyn ≤ s.static)⟩])) (by with_reducible repeat (first | exact Pick.here | apply Pick.there)) (by rfl) (by intro l hl; simp [ruls, Rul.cells] at hl; rcases hl with rfl | rfl | rfl | rfl | rfl | rfl | rfl <;> rfl) (by rfl) (by decide) _ _ hs, Blk.of (by with_reducible repeat (first | exact Pick.here | apply Pick.there)) hs⟩) ?_ -- @t18 callS (.func (.func 97) #[] #[]) [t17]
  -- @ret[t18]
  exact J.done (RetQ.ge (.tmp (.nil)) (by rw [← symRules_eq]; rfl))

/-- damper/config.Bound -/
theorem s111 (s : Sym) :
    FnE Try.prog 111 [.agg s.cells.toArray] (fun _ => True) (.int .i64 (boundF s)) := by
  refine fn_of_J (cx := cx111) hmix Try.func111 (by kernel_rfl) (eq111 _) fun w hw => ?_
  refine J.boxA fun bt1 => ?_
  refine J.op (R.ldA ag123 (by with_reducible repeat (first | exact Pick.here | apply Pick.there)) rfl) ?_ -- @t3 vS (Instr.loadAt 123 t1)
  refine J.callE en94 (s94 _) rfl (fun _ _ _ => trivial) ?_ -- @t4 callS (.func (.func 94) #[] #[]) [t3]
  refine J.opD R.neq (fun ht5 => ?_) (fun ht5 => ?_) -- @t5 binS .neq 25 (.tmp 4) (.const (.int .i64 0)) t4 (.int .i64 0)
  · skip
    refine J.iteT ?_
    -- @ret[(.int.i640)]
    exact J.done (RetQ.ge (.tmp (.nil)) (by first | rfl | (simp [boundF, mkRes, *]; done) | (simp_all [boundF, mkRes]; done) | (simp_all [boundF, mkRes]; first | omega | (rw [decide_eq_false_iff_not]; omega) | (rw [decide_eq_true_iff]; omega)) | (simp only [boundF, mkRes]; (repeat' split) <;> first | rfl | omega | (simp_all; done) | (simp_all; omega))))
  · skip
    refine J.iteF ?_
    refine J.op fa123_7 ?_
    refine J.op (R.ld o2 (by with_reducible repeat (first | exact Pick.here | apply Pick.there)) rfl) ?_ -- @t7 vS (Instr.loadAt 2 t6)
    refine J.op fa123_8 ?_
    refine J.op (R.ld o2 (by with_reducible repeat (first | exact Pick.here | apply Pick.there)) rfl) ?_ -- @t9 vS (Instr.loadAt 2 t8)
    refine J.op fa123_9 ?_
    refine J.op (R.ld o3 (by with_reducible repeat (first | exact Pick.here | apply Pick.there)) rfl) ?_ -- @t11 vS (Instr.loadAt 3 t10)
    refine J.op R.add ?_ -- @t12 binS .add 3 (.tmp 11) (.const (.int .i64 1)) t11 (.int .i64 1)
    refine J.op R.mul ?_ -- @t13 binS .mul 2 (.tmp 9) (.tmp 12) t9 t12
    refine J.op R.add ?_ -- @t14 binS .add 2 (.tmp 7) (.tmp 13) t7 t13
    -- @ret[t14]
    exact J.done (RetQ.ge (.tmp (.nil)) (by first | rfl | (simp [boundF, mkRes, *]; done) | (simp_all [boundF, mkRes]; done) | (simp_all [boundF, mkRes]; first | omega | (rw [decide_eq_false_iff_not]; omega) | (rw [decide_eq_true_iff]; omega)) | (simp only [boundF, mkRes]; (repeat' split) <;> first | rfl | omega | (simp_all; done) | (simp_all; omega))))

/-- damper/config.table -/
theorem s95 (v : Value) (l : List TRow) :
    FnE Try.prog 95 [v] (fun w => RdS w v 2 (trows l)) (.tuple #[.int .i64 (tableF l).1, .int .i64 (tableF l).2]) := by
  refine fn_of_J (cx := cx95) hmix Try.func95 (by kernel_rfl) (eq95 _) fun w hw => ?_
  have hS : ∀ H, SeeS ⟨Try.prog, w, footOf []⟩ H v 2 (trows l) := fun H => SeeS.ofW0 hw trows_ne
  have hm := hw.le
  simp only [trows_len, maxLen] at hm
  refine J.op (R.lenN sl49 (by first | exact SeeS.row (by with_reducible repeat (first | exact Pick.here | apply Pick.there)) | apply_assumption) (by first | exact ints_len | exact bools_len | exact msgs_len | exact trows_len | exact edits_len | rfl)) ?_ -- @t8 bltS .len #[49] 3 #[false] [a0]
  refine J.bs bs112_1 fun bt9 => ?_ -- @t9 vS (Instr.buildSlice 112 1 #[(0, t8)])
  refine J.callEB en93 (s93 _ _ _ _) rfl (fun _ _ hs => SeeS.ints (by with_reducible repeat (first | exact Pick.here | apply Pick.there)) (by repeat constructor) (by rfl) (by decide) _ _ hs) (fun ht10 => ?_) (fun ht10 => ?_) -- @t10 callS (.func (.func 93) #[] #[]) [(.int .i64 1), (.int .i64 20), t9]
  · skip
    refine J.op (v := .bool false) R.not ?_
    refine J.iteF ?_
    refine J.op (R.lenN sl49 (by first | exact SeeS.row (by with_reducible repeat (first | exact Pick.here | apply Pick.there)) | apply_assumption) (by first | exact ints_len | exact bools_len | exact msgs_len | exact trows_len | exact edits_len | rfl)) ?_ -- @t13 bltS .len #[49] 3 #[false] [a0]
    refine J.bind ?_ -- @tv_3 bind tv_3 ([2, 3])
    refine J.block ?_
    -- @tx loop [(.int .i64 0), (.int .i64 0), (.int .i64 (-1)), (.int .i64 0)]
    refine J.loopH (α := Nat) (fun i => i ≤ l.length ∧ ∀ j, j < i → rowG l j = 0) (fun i => [.int .i64 0, .int .i64 0, .int .i64 (prevAt l i), .int .i64 i]) (fun i => l.length - i) 0 ⟨Nat.zero_le _, fun j h => absurd h (Nat.not_lt_zero j)⟩ rfl ?_
    rintro i ⟨hi, hall⟩
    try simp only [List.headD_cons, List.tail_cons]
    refine J.opD R.lss (fun ht15 => ?_) (fun ht15 => ?_) -- @t15 binS .lss 3 (.tmp 14) (.tmp 13) (tx.tail.tail.tail.headD undef) t13
    · skip
      refine J.iteT ?_
      refine J.bind ?_ -- @tv_2 bind tv_2 ([2, 3, 4])
      refine J.block ?_
      have hlt : i < l.length := by omega
      obtain ⟨x, hx⟩ := get_ex hlt
      simp only [allB, List.all_cons, List.all_nil, Bool.and_true] at ht10
      refine J.ixW sl49 hS (by omega) (trows_get hx) fun b o hkt17 => ?_ -- @t17 ix a0 (tx.tail.tail.tail.headD undef)
      refine J.op (R.ldKA ag138 (hkt17 _) rfl) ?_ -- @t18 vS (Instr.loadAt 138 t17)
      refine J.alloc z138 fun bt6 => ?_
      refine J.stW sz138 (by with_reducible repeat (first | exact Pick.here | apply Pick.there)) rfl rfl rfl ?_ -- @tu uS (Instr.storeAt 138 t6 t18)
      refine J.bind ?_ -- @tv_1 bind tv_1 ([2, 3])
      refine J.block ?_
      refine J.bindBH (x.at_ ≤ (prevAt l i) ∨ 1125899906842624 < x.at_) ([Ent.cells bt6 x.cells 138, Ent.cells bt9 [.int .i64 l.length] 2]) ?_ (fun hbtv => ?_) (fun hbtv => ?_) -- @tv
      · skip
        refine J.op fa138_0 ?_
        refine J.op (R.ld o2 (by with_reducible repeat (first | exact Pick.here | apply Pick.there)) rfl) ?_ -- @t21 vS (Instr.loadAt 2 t20)
        refine J.opD R.leq (fun ht23 => ?_) (fun ht23 => ?_) -- @t23 binS .leq 2 (.tmp 21) (.tmp 22) t21 (tx.tail.tail.headD undef)
        · skip
          refine J.gopF rfl ?_
          refine J.gopF rfl ?_
          refine J.gopF rfl ?_
          refine J.op R.pickT ?_ -- @t28 pickS t23 (.bool true) t27
          exact J.done ⟨rfl, by simp [*], Imp.take (by (try dsimp only); repeat (first | exact Has.nil | refine Has.cons (by repeat (first | (with_reducible exact Out.here) | ((with_reducible refine Out.cells ?_); first | rfl | (simp; done)) | ((with_reducible refine Out.row ?_); first | rfl | (simp; done)) | (with_reducible apply Out.there))) ?_))⟩ -- @leaf[t28]
        · skip
          refine J.gopT rfl ?_
          refine J.op fa138_0 ?_
          refine J.gopT rfl ?_
          refine J.op (R.ld o2 (by with_reducible repeat (first | exact Pick.here | apply Pick.there)) rfl) ?_ -- @t26 vS (Instr.loadAt 2 t25)
          refine J.gopT rfl ?_
          refine J.op R.gtr ?_ -- @t27 binS .gtr 2 (.tmp 26) (.const (.int .i64 1125899906842624)) t26 (.int .i64 1125899906842624)
          refine J.op R.pickF ?_ -- @t28 pickS t23 (.bool true) t27
          exact J.done ⟨rfl, by simp [*], Imp.take (by (try dsimp only); repeat (first | exact Has.nil | refine Has.cons (by repeat (first | (with_reducible exact Out.here) | ((with_reducible refine Out.cells ?_); first | rfl | (simp; done)) | ((with_reducible refine Out.row ?_); first | rfl | (simp; done)) | (with_reducible apply Out.there))) ?_))⟩ -- @leaf[t28]
      · skip
        refine J.iteT ?_
        -- @ret[(.int.i649),(tx.tail.tail.tail.headDundef)]
        have hg : rowG l i = 9 := by simp only [rowG, hx]; rw [if_pos hbtv]
        exact J.done (RetQ.ge (.tmp (.tmp .nil)) (by simp only [tableF, ht10, if_true]; simp only [scanN_at hlt (by rw [hg]; decide) hall, hg]; rfl))
      · skip
        refine J.iteF ?_
        refine J.op fa138_1 ?_
        refine J.op (R.ld o3 (by with_reducible repeat (first | exact Pick.here | apply Pick.there)) rfl) ?_ -- @t32 vS (Instr.loadAt 3 t31)
        refine J.bs bs112_1 fun bt33 => ?_ -- @t33 vS (Instr.buildSlice 112 1 #[(0, t32)])
        refine J.callEB en93 (s93 _ _ _ _) rfl (fun _ _ hs => SeeS.ints (by with_reducible repeat (first | exact Pick.here | apply Pick.there)) (by repeat constructor) (by rfl) (by decide) _ _ hs) (fun ht34 => ?_) (fun ht34 => ?_) -- @t34 callS (.func (.func 93) #[] #[]) [(.int .i64 0), (.int .i64 2), t33]
        · skip
          refine J.op (v := .bool false) R.not ?_
          refine J.iteF ?_
          refine J.done ?_ -- then tv_1 = [(tx.headD undef), (tx.tail.headD undef)]
          refine J.op fa138_0 ?_
          refine J.op (R.ld o2 (by with_reducible repeat (first | exact Pick.here | apply Pick.there)) rfl) ?_ -- @t38 vS (Instr.loadAt 2 t37)
          refine J.done ?_ -- then tv_2 = [(tv_1.headD undef), (tv_1.tail.headD undef), t38]
          refine J.op (R.add64 (by omega)) ?_ -- @t39 binS .add 3 (.tmp 14) (.const (.int .i64 1)) (tx.tail.tail.tail.headD undef) (.int .i64 1)
          -- @again[(tv_2.headDundef),(tv_2.tail.headDundef),(tv_2.tail.tail.headDundef),t39]
          refine J.done ⟨i + 1, ⟨by omega, fun j hj => ?_⟩, by simp [hx, prevAt], Imp.take (by (try dsimp only); repeat (first | exact Has.nil | refine Has.cons (by repeat (first | (with_reducible exact Out.here) | ((with_reducible refine Out.cells ?_); first | rfl | (simp; done)) | ((with_reducible refine Out.row ?_); first | rfl | (simp; done)) | (with_reducible apply Out.there))) ?_)), by omega⟩
          rcases Nat.lt_succ_iff_lt_or_eq.1 hj with hj | rfl
          · exact hall j hj
          · simp only [rowG, hx]; rw [if_neg hbtv]; simp only [allB, List.all_cons, List.all_nil, Bool.and_true] at ht34; simp [ht34]
        · skip
          refine J.op (v := .bool true) R.not ?_
          refine J.iteT ?_
          -- @ret[(.int.i6410),(tx.tail.tail.tail.headDundef)]
          have hg : rowG l i = 10 := by simp only [rowG, hx]; rw [if_neg hbtv]; simp only [allB, List.all_cons, List.all_nil, Bool.and_true] at ht34; simp [ht34]
          exact J.done (RetQ.ge (.tmp (.tmp .nil)) (by simp only [tableF, ht10, if_true]; simp only [scanN_at hlt (by rw [hg]; decide) hall, hg]; rfl))
    · skip
      refine J.iteF ?_
      refine J.done ⟨fun _ => ?_, fun h => absurd rfl h⟩ -- exit [(tx.headD undef), (tx.tail.headD undef)]
      -- @ret[(.int.i640),(.int.i640)]
      obtain rfl : i = l.length := by omega
      simp only [allB, List.all_cons, List.all_nil, Bool.and_true] at ht10
      exact J.done (RetQ.ge (.tmp (.tmp .nil)) (by simp only [tableF, ht10, if_true]; rw [scanN_none hall]; rfl))
  · skip
    refine J.op (v := .bool true) R.not ?_
    refine J.iteT ?_
    -- @ret[(.int.i649),(.int.i640)]
    exact J.done (RetQ.ge (.tmp (.tmp (.nil))) (by simp only [allB, List.all_cons, List.all_nil, Bool.and_true] at ht10; simp only [tableF, ht10]; rfl))

/-- damper/config.Check$1 -/
theorem s96 (b : Nat) (c : Cfg) (x y : Value) :
    FnE Try.prog 96 [.pointer (some ⟨b, 0, none⟩)] (fun w => Blk w b (c.cells x y) 53) (.bool (fallsB c)) := by
  refine fn_of_J (cx := cx96) hmix Try.func96 (by kernel_rfl) (eq96 _) fun w hw => ?_
  refine J.bind ?_ -- @tv bind tv ([1])
  refine J.op fa53_3 ?_
  refine J.op ia50_0 ?_
  refine J.op (R.ldBk hw not_foot o3 rfl) ?_ -- @t4 vS (Instr.loadAt 3 t3)
  refine J.op fa53_3 ?_
  refine J.op ia50_1 ?_
  refine J.op (R.ldBk hw not_foot o3 rfl) ?_ -- @t7 vS (Instr.loadAt 3 t6)
  refine J.op fa53_3 ?_
  refine J.op ia50_2 ?_
  refine J.op (R.ldBk hw not_foot o3 rfl) ?_ -- @t10 vS (Instr.loadAt 3 t9)
  refine J.bs bs112_3 fun bt11 => ?_ -- @t11 vS (Instr.buildSlice 112 3 #[(0, t4), (1, t7), (2, t10)])
  refine J.callEB en93 (s93 _ _ _ _) rfl (fun _ _ hs => SeeS.ints (by with_reducible repeat (first | exact Pick.here | apply Pick.there)) (by repeat constructor) (by rfl) (by decide) _ _ hs) (fun ht12 => ?_) (fun ht12 => ?_) -- @t12 callS (.func (.func 93) #[] #[]) [(.int .i64 1), (.int .i64 9999), t11]
  · skip
    refine J.gopT rfl ?_
    refine J.op fa53_3 ?_
    refine J.gopT rfl ?_
    refine J.op ia50_0 ?_
    refine J.gopT rfl ?_
    refine J.op (R.ldBk hw not_foot o3 rfl) ?_ -- @t16 vS (Instr.loadAt 3 t15)
    refine J.gopT rfl ?_
    refine J.op fa53_3 ?_
    refine J.gopT rfl ?_
    refine J.op ia50_1 ?_
    refine J.gopT rfl ?_
    refine J.op (R.ldBk hw not_foot o3 rfl) ?_ -- @t19 vS (Instr.loadAt 3 t18)
    refine J.gopT rfl ?_
    refine J.opD R.lss (fun ht20 => ?_) (fun ht20 => ?_) -- @t20 binS .lss 3 (.tmp 16) (.tmp 19) t16 t19
    · skip
      refine J.op R.pickT ?_ -- @t21 pickS t12 t20 (.bool false)
      refine J.gopT rfl ?_
      refine J.op fa53_3 ?_
      refine J.gopT rfl ?_
      refine J.op ia50_1 ?_
      refine J.gopT rfl ?_
      refine J.op (R.ldBk hw not_foot o3 rfl) ?_ -- @t25 vS (Instr.loadAt 3 t24)
      refine J.gopT rfl ?_
      refine J.op fa53_3 ?_
      refine J.gopT rfl ?_
      refine J.op ia50_2 ?_
      refine J.gopT rfl ?_
      refine J.op (R.ldBk hw not_foot o3 rfl) ?_ -- @t28 vS (Instr.loadAt 3 t27)
      refine J.gopT rfl ?_
      refine J.op R.lss ?_ -- @t29 binS .lss 3 (.tmp 25) (.tmp 28) t25 t28
      refine J.op R.pickT ?_ -- @t30 pickS t21 t29 (.bool false)
      refine J.done ?_ -- then tv = [t30]
      -- @ret[(tv.headDundef)]
      exact J.done (RetQ.ge (.tmp (.nil)) (by first | rfl | (simp [fallsB, mkRes, *]; done) | (simp_all [fallsB, mkRes]; done) | (simp_all [fallsB, mkRes]; first | omega | (rw [decide_eq_false_iff_not]; omega) | (rw [decide_eq_true_iff]; omega)) | (simp only [fallsB, mkRes]; (repeat' split) <;> first | rfl | omega | (simp_all; done) | (simp_all; omega))))
    · skip
      refine J.op R.pickT ?_ -- @t21 pickS t12 t20 (.bool false)
      refine J.gopF rfl ?_
      refine J.gopF rfl ?_
      refine J.gopF rfl ?_
      refine J.gopF rfl ?_
      refine J.gopF rfl ?_
      refine J.gopF rfl ?_
      refine J.gopF rfl ?_
      refine J.op R.pickF ?_ -- @t30 pickS t21 t29 (.bool false)
      refine J.done ?_ -- then tv = [t30]
      -- @ret[(tv.headDundef)]
      exact J.done (RetQ.ge (.tmp (.nil)) (by first | rfl | (simp [fallsB, mkRes, *]; done) | (simp_all [fallsB, mkRes]; done) | (simp_all [fallsB, mkRes]; first | omega | (rw [decide_eq_false_iff_not]; omega) | (rw [decide_eq_true_iff]; omega)) | (simp only [fallsB, mkRes]; (repeat' split) <;> first | rfl | omega | (simp_all; done) | (simp_all; omega))))
  · skip
    refine J.gopF rfl ?_
    refine J.gopF rfl ?_
    refine J.gopF rfl ?_
    refine J.gopF rfl ?_
    refine J.gopF rfl ?_
    refine J.gopF rfl ?_
    refine J.gopF rfl ?_
    refine J.op R.pickF ?_ -- @t21 pickS t12 t20 (.bool false)
    refine J.gopF rfl ?_
    refine J.gopF rfl ?_
    refine J.gopF rfl ?_
    refine J.gopF rfl ?_
    refine J.gopF rfl ?_
    refine J.gopF rfl ?_
    refine J.gopF rfl ?_
    refine J.op R.pickF ?_ -- @t30 pickS t21 t29 (.bool false)
    refine J.done ?_ -- then tv = [t30]
    -- @ret[(tv.headDundef)]
    exact J.done (RetQ.ge (.tmp (.nil)) (by first | rfl | (simp [fallsB, mkRes, *]; done) | (simp_all [fallsB, mkRes]; done) | (simp_all [fallsB, mkRes]; first | omega | (rw [decide_eq_false_iff_not]; omega) | (rw [decide_eq_true_iff]; omega)) | (simp only [fallsB, mkRes]; (repeat' split) <;> first | rfl | omega | (simp_all; done) | (simp_all; omega))))

/-- damper/config.Check$2 -/
theorem s98 (b : Nat) (c : Cfg) (x y : Value) :
    FnE Try.prog 98 [.pointer (some ⟨b, 0, none⟩)] (fun w => Blk w b (c.cells x y) 53) (.bool (allB 1 maxP [c.index])) := by
  refine fn_of_J (cx := cx98) hmix Try.func98 (by kernel_rfl) (eq98 _) fun w hw => ?_
  refine J.op fa53_2 ?_
  refine J.op (R.ldBk hw not_foot o2 rfl) ?_ -- @t3 vS (Instr.loadAt 2 t2)
  refine J.bs bs112_1 fun bt4 => ?_ -- @t4 vS (Instr.buildSlice 112 1 #[(0, t3)])
  refine J.callE en93 (s93 _ _ _ _) rfl (fun _ _ hs => SeeS.ints (by with_reducible repeat (first | exact Pick.here | apply Pick.there)) (by repeat constructor) (by rfl) (by decide) _ _ hs) ?_ -- @t5 callS (.func (.func 93) #[] #[]) [(.int .i64 1), (.int .i64 1099511627776), t4]
  -- @ret[t5]
  exact J.done (RetQ.ge (.tmp (.nil)) (by first | rfl | (simp [mkRes, *]; done) | (simp_all [mkRes]; done) | (simp_all [mkRes]; first | omega | (rw [decide_eq_false_iff_not]; omega) | (rw [decide_eq_true_iff]; omega)) | (simp only [mkRes]; (repeat' split) <;> first | rfl | omega | (simp_all; done) | (simp_all; omega))))

/-- damper/config.Check$3 -/
theorem s99 (b : Nat) (c : Cfg) (x y : Value) :
    FnE Try.prog 99 [.pointer (some ⟨b, 0, none⟩)] (fun w => Blk w b (c.cells x y) 53) (.bool (allB 1 maxP [c.h0, c.h1])) := by
  refine fn_of_J (cx := cx99) hmix Try.func99 (by kernel_rfl) (eq99 _) fun w hw => ?_
  refine J.op fa53_4 ?_
  refine J.op ia51_0 ?_
  refine J.op (R.ldBk hw not_foot o2 rfl) ?_ -- @t4 vS (Instr.loadAt 2 t3)
  refine J.op fa53_4 ?_
  refine J.op ia51_1 ?_
  refine J.op (R.ldBk hw not_foot o2 rfl) ?_ -- @t7 vS (Instr.loadAt 2 t6)
  refine J.bs bs112_2 fun bt8 => ?_ -- @t8 vS (Instr.buildSlice 112 2 #[(0, t4), (1, t7)])
  refine J.callE en93 (s93 _ _ _ _) rfl (fun _ _ hs => SeeS.ints (by with_reducible repeat (first | exact Pick.here | apply Pick.there)) (by repeat constructor) (by rfl) (by decide) _ _ hs) ?_ -- @t9 callS (.func (.func 93) #[] #[]) [(.int .i64 1), (.int .i64 1099511627776), t8]
  -- @ret[t9]
  exact J.done (RetQ.ge (.tmp (.nil)) (by first | rfl | (simp [mkRes, *]; done) | (simp_all [mkRes]; done) | (simp_all [mkRes]; first | omega | (rw [decide_eq_false_iff_not]; omega) | (rw [decide_eq_true_iff]; omega)) | (simp only [mkRes]; (repeat' split) <;> first | rfl | omega | (simp_all; done) | (simp_all; omega))))

/-- damper/damperref07.in -/
theorem s89 (n lo hi : Int) :
    FnE Try.prog 89 [.int .i64 n, .int .i64 lo, .int .i64 hi] (fun _ => True) (.bool (inB n lo hi)) := by
  refine fn_of_J (cx := cx89) hmix Try.func89 (by kernel_rfl) (eq89 _ _ _) fun w hw => ?_
  refine J.bind ?_ -- @tv bind tv ([6])
  refine J.opD R.geq (fun ht9 => ?_) (fun ht9 => ?_) -- @t9 binS .geq 2 (.tmp 7) (.tmp 8) a0 a1
  · skip
    refine J.gopT rfl ?_
    refine J.op R.pure ?_
    refine J.gopT rfl ?_
    refine J.op R.pure ?_
    refine J.gopT rfl ?_
    refine J.op R.leq ?_ -- @t13 binS .leq 2 (.tmp 11) (.tmp 12) t11 t12
    refine J.op R.pickT ?_ -- @t14 pickS t9 t13 (.bool false)
    refine J.done ?_ -- then tv = [t14]
    -- @ret[(tv.headDundef)]
    exact J.done (RetQ.ge (.tmp (.nil)) (by first | rfl | (simp [inB, mkRes, *]; done) | (simp_all [inB, mkRes]; done) | (simp_all [inB, mkRes]; first | omega | (rw [decide_eq_false_iff_not]; omega) | (rw [decide_eq_true_iff]; omega)) | (simp only [inB, mkRes]; (repeat' split) <;> first | rfl | omega | (simp_all; done) | (simp_all; omega))))
  · skip
    refine J.gopF rfl ?_
    refine J.gopF rfl ?_
    refine J.gopF rfl ?_
    refine J.op R.pickF ?_ -- @t14 pickS t9 t13 (.bool false)
    refine J.done ?_ -- then tv = [t14]
    -- @ret[(tv.headDundef)]
    exact J.done (RetQ.ge (.tmp (.nil)) (by first | rfl | (simp [inB, mkRes, *]; done) | (simp_all [inB, mkRes]; done) | (simp_all [inB, mkRes]; first | omega | (rw [decide_eq_false_iff_not]; omega) | (rw [decide_eq_true_iff]; omega)) | (simp only [inB, mkRes]; (repeat' split) <;> first | rfl | omega | (simp_all; done) | (simp_all; omega))))

/-- damper/damperref07.part -/
theorem s127 (n : Int) :
    FnE Try.prog 127 [.int .i64 n] (fun _ => True) (.bool (part n)) := by
  refine fn_of_J (cx := cx127) hmix Try.func127 (by kernel_rfl) (eq127 _) fun w hw => ?_
  refine J.callE en89 (s89 _ _ _) rfl (fun _ _ _ => trivial) ?_ -- @t4 callS (.func (.func 89) #[] #[]) [a0, (.int .i64 0), (.int .i64 9999)]
  -- @ret[t4]
  exact J.done (RetQ.ge (.tmp (.nil)) (by first | rfl | (simp [mkRes, *]; done) | (simp_all [mkRes]; done) | (simp_all [mkRes]; first | omega | (rw [decide_eq_false_iff_not]; omega) | (rw [decide_eq_true_iff]; omega)) | (simp only [mkRes]; (repeat' split) <;> first | rfl | omega | (simp_all; done) | (simp_all; omega))))

/-- damper/damperref07.ticks -/
theorem s90 (n : Int) :
    FnE Try.prog 90 [.int .i64 n] (fun _ => True) (.bool (ticksB n)) := by
  refine fn_of_J (cx := cx90) hmix Try.func90 (by kernel_rfl) (eq90 _) fun w hw => ?_
  refine J.callE en89 (s89 _ _ _) rfl (fun _ _ _ => trivial) ?_ -- @t4 callS (.func (.func 89) #[] #[]) [a0, (.int .i64 1), (.int .i64 1099511627776)]
  -- @ret[t4]
  exact J.done (RetQ.ge (.tmp (.nil)) (by first | rfl | (simp [mkRes, *]; done) | (simp_all [mkRes]; done) | (simp_all [mkRes]; first | omega | (rw [decide_eq_false_iff_not]; omega) | (rw [decide_eq_true_iff]; omega)) | (simp only [mkRes]; (repeat' split) <;> first | rfl | omega | (simp_all; done) | (simp_all; omega))))

/-- damper/damperref07.Symbol -/
theorem s88 (s : Sym) :
    FnE Try.prog 88 [.agg s.cells.toArray] (fun _ => True) (.int .i64 (symFault s)) := by
  refine fn_of_J (cx := cx88) hmix Try.func88 (by kernel_rfl) (eq88 _) fun w hw => ?_
  refine J.boxA fun bt1 => ?_
  refine J.bind ?_ -- @tv bind tv ([12])
  refine J.op fa123_0 ?_
  refine J.op (R.ld o2 (by with_reducible repeat (first | exact Pick.here | apply Pick.there)) rfl) ?_ -- @t4 vS (Instr.loadAt 2 t3)
  refine J.callEB en89 (s89 _ _ _) rfl (fun _ _ _ => trivial) (fun ht5 => ?_) (fun ht5 => ?_) -- @t5 callS (.func (.func 89) #[] #[]) [t4, (.int .i64 1), (.int .i64 1099511627776)]
  · skip
    refine J.op (v := .bool false) R.not ?_
    refine J.gopT rfl ?_
    refine J.op fa123_1 ?_
    refine J.gopT rfl ?_
    refine J.op (R.ld o2 (by with_reducible repeat (first | exact Pick.here | apply Pick.there)) rfl) ?_ -- @t9 vS (Instr.loadAt 2 t8)
    refine J.gopT rfl ?_
    refine J.callE en89 (s89 _ _ _) rfl (fun _ _ _ => trivial) ?_ -- @t10 callS (.func (.func 89) #[] #[]) [t9, (.int .i64 1), (.int .i64 1099511627776)]
    refine J.gopT rfl ?_
    refine J.op R.not ?_ -- @t11 vS (Op.unary .not t10)
    refine J.op R.pickF ?_ -- @t12 pickS t6 (.bool true) t11
    refine J.done ?_ -- then tv = [t12]
    refine J.iteB (fun hctvheadDundef => ?_) (fun hctvheadDundef => ?_) -- ite (tv.headD undef)
    · try simp only [List.headD_cons, List.tail_cons, decide_eq_true_eq] at hctvheadDundef
      -- @ret[(.int.i649)]
      exact J.done (RetQ.ge (.tmp (.nil)) (by first | rfl | (simp [symFault, maxP, mkRes, *]; done) | (simp_all [symFault, maxP, mkRes]; done) | (simp_all [symFault, maxP, mkRes]; first | omega | (rw [decide_eq_false_iff_not]; omega) | (rw [decide_eq_true_iff]; omega)) | (simp only [symFault, maxP, mkRes]; (repeat' split) <;> first | rfl | omega | (simp_all; done) | (simp_all; omega))))
    · try simp only [List.headD_cons, List.tail_cons, decide_eq_false_iff_not] at hctvheadDundef
      refine J.op fa123_1 ?_
      refine J.op (R.ld o2 (by with_reducible repeat (first | exact Pick.here | apply Pick.there)) rfl) ?_ -- @t14 vS (Instr.loadAt 2 t13)
      refine J.op fa123_0 ?_
      refine J.op (R.ld o2 (by with_reducible repeat (first | exact Pick.here | apply Pick.there)) rfl) ?_ -- @t16 vS (Instr.loadAt 2 t15)
      refine J.op (R.rem (by first | (rw [inB_iff] at ht5; omega) | (rw [inB_iff] at *; omega))) ?_ -- @t17 binS .rem 2 (.tmp 14) (.tmp 16) t14 t16
      refine J.opD R.neq (fun ht18 => ?_) (fun ht18 => ?_) -- @t18 binS .neq 2 (.tmp 17) (.const (.int .i64 0)) t17 (.int .i64 0)
      · skip
        refine J.iteT ?_
        -- @ret[(.int.i648)]
        exact J.done (RetQ.ge (.tmp (.nil)) (by first | rfl | (simp [symFault, maxP, mkRes, *]; done) | (simp_all [symFault, maxP, mkRes]; done) | (simp_all [symFault, maxP, mkRes]; first | omega | (rw [decide_eq_false_iff_not]; omega) | (rw [decide_eq_true_iff]; omega)) | (simp only [symFault, maxP, mkRes]; (repeat' split) <;> first | rfl | omega | (simp_all; done) | (simp_all; omega))))
      · skip
        refine J.iteF ?_
        refine J.bind ?_ -- @tv_1 bind tv_1 ([52])
        refine J.op fa123_2 ?_
        refine J.op (R.ld o3 (by with_reducible repeat (first | exact Pick.here | apply Pick.there)) rfl) ?_ -- @t20 vS (Instr.loadAt 3 t19)
        refine J.callEB en127 (s127 _) rfl (fun _ _ _ => trivial) (fun ht21 => ?_) (fun ht21 => ?_) -- @t21 callS (.func (.func 127) #[] #[]) [t20]
        · skip
          refine J.op (v := .bool false) R.not ?_
          refine J.gopT rfl ?_
          refine J.op fa123_3 ?_
          refine J.gopT rfl ?_
          refine J.op (R.ld o3 (by with_reducible repeat (first | exact Pick.here | apply Pick.there)) rfl) ?_ -- @t25 vS (Instr.loadAt 3 t24)
          refine J.gopT rfl ?_
          refine J.callEB en127 (s127 _) rfl (fun _ _ _ => trivial) (fun ht26 => ?_) (fun ht26 => ?_) -- @t26 callS (.func (.func 127) #[] #[]) [t25]
          · skip
            refine J.gopT rfl ?_
            refine J.op (v := .bool false) R.not ?_
            refine J.op R.pickF ?_ -- @t28 pickS t22 (.bool true) t27
            refine J.gopT rfl ?_
            refine J.op fa123_5 ?_
            refine J.gopT rfl ?_
            refine J.op (R.ld o3 (by with_reducible repeat (first | exact Pick.here | apply Pick.there)) rfl) ?_ -- @t31 vS (Instr.loadAt 3 t30)
            refine J.gopT rfl ?_
            refine J.callEB en127 (s127 _) rfl (fun _ _ _ => trivial) (fun ht32 => ?_) (fun ht32 => ?_) -- @t32 callS (.func (.func 127) #[] #[]) [t31]
            · skip
              refine J.gopT rfl ?_
              refine J.op (v := .bool false) R.not ?_
              refine J.op R.pickF ?_ -- @t34 pickS t28 (.bool true) t33
              refine J.gopT rfl ?_
              refine J.op fa123_10 ?_
              refine J.gopT rfl ?_
              refine J.op (R.ld o3 (by with_reducible repeat (first | exact Pick.here | apply Pick.there)) rfl) ?_ -- @t37 vS (Instr.loadAt 3 t36)
              refine J.gopT rfl ?_
              refine J.callEB en127 (s127 _) rfl (fun _ _ _ => trivial) (fun ht38 => ?_) (fun ht38 => ?_) -- @t38 callS (.func (.func 127) #[] #[]) [t37]
              · skip
                refine J.gopT rfl ?_
                refine J.op (v := .bool false) R.not ?_
                refine J.op R.pickF ?_ -- @t40 pickS t34 (.bool true) t39
                refine J.gopT rfl ?_
                refine J.op fa123_11 ?_
                refine J.gopT rfl ?_
                refine J.op (R.ld o3 (by with_reducible repeat (first | exact Pick.here | apply Pick.there)) rfl) ?_ -- @t43 vS (Instr.loadAt 3 t42)
                refine J.gopT rfl ?_
                refine J.callEB en127 (s127 _) rfl (fun _ _ _ => trivial) (fun ht44 => ?_) (fun ht44 => ?_) -- @t44 callS (.func (.func 127) #[] #[]) [t43]
                · skip
                  refine J.gopT rfl ?_
                  refine J.op (v := .bool false) R.not ?_
                  refine J.op R.pickF ?_ -- @t46 pickS t40 (.bool true) t45
                  refine J.gopT rfl ?_
                  refine J.op fa123_15 ?_
                  refine J.gopT rfl ?_
                  refine J.op (R.ld o3 (by with_reducible repeat (first | exact Pick.here | apply Pick.there)) rfl) ?_ -- @t49 vS (Instr.loadAt 3 t48)
                  refine J.gopT rfl ?_
                  refine J.callE en127 (s127 _) rfl (fun _ _ _ => trivial) ?_ -- @t50 callS (.func (.func 127) #[] #[]) [t49]
                  refine J.gopT rfl ?_
                  refine J.op R.not ?_ -- @t51 vS (Op.unary .not t50)
                  refine J.op R.pickF ?_ -- @t52 pickS t46 (.bool true) t51
                  refine J.done ?_ -- then tv_1 = [t52]
                  refine J.iteB (fun hctv_1headDundef => ?_) (fun hctv_1headDundef => ?_) -- ite (tv_1.headD undef)
                  · try simp only [List.headD_cons, List.tail_cons, decide_eq_true_eq] at hctv_1headDundef
                    -- @ret[(.int.i649)]
                    exact J.done (RetQ.ge (.tmp (.nil)) (by first | rfl | (simp [symFault, maxP, mkRes, *]; done) | (simp_all [symFault, maxP, mkRes]; done) | (simp_all [symFault, maxP, mkRes]; first | omega | (rw [decide_eq_false_iff_not]; omega) | (rw [decide_eq_true_iff]; omega)) | (simp only [symFault, maxP, mkRes]; (repeat' split) <;> first | rfl | omega | (simp_all; done) | (simp_all; omega))))
                  · try simp only [List.headD_cons, List.tail_cons, decide_eq_false_iff_not] at hctv_1headDundef
                    refine J.bind ?_ -- @tv_2 bind tv_2 ([98])
                    refine J.op fa123_4 ?_
                    refine J.op (R.ld o2 (by with_reducible repeat (first | exact Pick.here | apply Pick.there)) rfl) ?_ -- @t54 vS (Instr.loadAt 2 t53)
                    refine J.callEB en90 (s90 _) rfl (fun _ _ _ => trivial) (fun ht55 => ?_) (fun ht55 => ?_) -- @t55 callS (.func (.func 90) #[] #[]) [t54]
                    · skip
                      refine J.op (v := .bool false) R.not ?_
                      refine J.gopT rfl ?_
                      refine J.op fa123_6 ?_
                      refine J.gopT rfl ?_
                      refine J.op (R.ld o2 (by with_reducible repeat (first | exact Pick.here | apply Pick.there)) rfl) ?_ -- @t59 vS (Instr.loadAt 2 t58)
                      refine J.gopT rfl ?_
                      refine J.callEB en90 (s90 _) rfl (fun _ _ _ => trivial) (fun ht60 => ?_) (fun ht60 => ?_) -- @t60 callS (.func (.func 90) #[] #[]) [t59]
                      · skip
                        refine J.gopT rfl ?_
                        refine J.op (v := .bool false) R.not ?_
                        refine J.op R.pickF ?_ -- @t62 pickS t56 (.bool true) t61
                        refine J.gopT rfl ?_
                        refine J.op fa123_7 ?_
                        refine J.gopT rfl ?_
                        refine J.op (R.ld o2 (by with_reducible repeat (first | exact Pick.here | apply Pick.there)) rfl) ?_ -- @t65 vS (Instr.loadAt 2 t64)
                        refine J.gopT rfl ?_
                        refine J.callEB en90 (s90 _) rfl (fun _ _ _ => trivial) (fun ht66 => ?_) (fun ht66 => ?_) -- @t66 callS (.func (.func 90) #[] #[]) [t65]
                        · skip
                          refine J.gopT rfl ?_
                          refine J.op (v := .bool false) R.not ?_
                          refine J.op R.pickF ?_ -- @t68 pickS t62 (.bool true) t67
                          refine J.gopT rfl ?_
                          refine J.op fa123_8 ?_
                          refine J.gopT rfl ?_
                          refine J.op (R.ld o2 (by with_reducible repeat (first | exact Pick.here | apply Pick.there)) rfl) ?_ -- @t71 vS (Instr.loadAt 2 t70)
                          refine J.gopT rfl ?_
                          refine J.callEB en90 (s90 _) rfl (fun _ _ _ => trivial) (fun ht72 => ?_) (fun ht72 => ?_) -- @t72 callS (.func (.func 90) #[] #[]) [t71]
                          · skip
                            refine J.gopT rfl ?_
                            refine J.op (v := .bool false) R.not ?_
                            refine J.op R.pickF ?_ -- @t74 pickS t68 (.bool true) t73
                            refine J.gopT rfl ?_
                            refine J.op fa123_9 ?_
                            refine J.gopT rfl ?_
                            refine J.op (R.ld o3 (by with_reducible repeat (first | exact Pick.here | apply Pick.there)) rfl) ?_ -- @t77 vS (Instr.loadAt 3 t76)
                            refine J.gopT rfl ?_
                            refine J.callEB en89 (s89 _ _ _) rfl (fun _ _ _ => trivial) (fun ht78 => ?_) (fun ht78 => ?_) -- @t78 callS (.func (.func 89) #[] #[]) [t77, (.int .i64 0), (.int .i64 10)]
                            · skip
                              refine J.gopT rfl ?_
                              refine J.op (v := .bool false) R.not ?_
                              refine J.op R.pickF ?_ -- @t80 pickS t74 (.bool true) t79
                              refine J.gopT rfl ?_
                              refine J.op fa123_12 ?_
                              refine J.gopT rfl ?_
                              refine J.op (R.ld o3 (by with_reducible repeat (first | exact Pick.here | apply Pick.there)) rfl) ?_ -- @t83 vS (Instr.loadAt 3 t82)
                              refine J.gopT rfl ?_
                              refine J.callEB en89 (s89 _ _ _) rfl (fun _ _ _ => trivial) (fun ht84 => ?_) (fun ht84 => ?_) -- @t84 callS (.func (.func 89) #[] #[]) [t83, (.int .i64 0), (.int .i64 3)]
                              · skip
                                refine J.gopT rfl ?_
                                refine J.op (v := .bool false) R.not ?_
                                refine J.op R.pickF ?_ -- @t86 pickS t80 (.bool true) t85
                                refine J.gopT rfl ?_
                                refine J.op fa123_13 ?_
                                refine J.gopT rfl ?_
                                refine J.op (R.ld o3 (by with_reducible repeat (first | exact Pick.here | apply Pick.there)) rfl) ?_ -- @t89 vS (Instr.loadAt 3 t88)
                                refine J.gopT rfl ?_
                                refine J.callEB en89 (s89 _ _ _) rfl (fun _ _ _ => trivial) (fun ht90 => ?_) (fun ht90 => ?_) -- @t90 callS (.func (.func 89) #[] #[]) [t89, (.int .i64 1), (.int .i64 500)]
                                · skip
                                  refine J.gopT rfl ?_
                                  refine J.op (v := .bool false) R.not ?_
                                  refine J.op R.pickF ?_ -- @t92 pickS t86 (.bool true) t91
                                  refine J.gopT rfl ?_
                                  refine J.op fa123_14 ?_
                                  refine J.gopT rfl ?_
                                  refine J.op (R.ld o3 (by with_reducible repeat (first | exact Pick.here | apply Pick.there)) rfl) ?_ -- @t95 vS (Instr.loadAt 3 t94)
                                  refine J.gopT rfl ?_
                                  refine J.callE en89 (s89 _ _ _) rfl (fun _ _ _ => trivial) ?_ -- @t96 callS (.func (.func 89) #[] #[]) [t95, (.int .i64 1), (.int .i64 200)]
                                  refine J.gopT rfl ?_
                                  refine J.op R.not ?_ -- @t97 vS (Op.unary .not t96)
                                  refine J.op R.pickF ?_ -- @t98 pickS t92 (.bool true) t97
                                  refine J.done ?_ -- then tv_2 = [t98]
                                  refine J.iteB (fun hctv_2headDundef => ?_) (fun hctv_2headDundef => ?_) -- ite (tv_2.headD undef)
                                  · try simp only [List.headD_cons, List.tail_cons, decide_eq_true_eq] at hctv_2headDundef
                                    -- @ret[(.int.i649)]
                                    exact J.done (RetQ.ge (.tmp (.nil)) (by first | rfl | (simp [symFault, maxP, mkRes, *]; done) | (simp_all [symFault, maxP, mkRes]; done) | (simp_all [symFault, maxP, mkRes]; first | omega | (rw [decide_eq_false_iff_not]; omega) | (rw [decide_eq_true_iff]; omega)) | (simp only [symFault, maxP, mkRes]; (repeat' split) <;> first | rfl | omega | (simp_all; done) | (simp_all; omega))))
                                  · try simp only [List.headD_cons, List.tail_cons, decide_eq_false_iff_not] at hctv_2headDundef
                                    refine J.op fa123_3 ?_
                                    refine J.op (R.ld o3 (by with_reducible repeat (first | exact Pick.here | apply Pick.there)) rfl) ?_ -- @t100 vS (Instr.loadAt 3 t99)
                                    refine J.op fa123_2 ?_
                                    refine J.op (R.ld o3 (by with_reducible repeat (first | exact Pick.here | apply Pick.there)) rfl) ?_ -- @t102 vS (Instr.loadAt 3 t101)
                                    refine J.opD R.gtr (fun ht103 => ?_) (fun ht103 => ?_) -- @t103 binS .gtr 3 (.tmp 100) (.tmp 102) t100 t102
                                    · skip
                                      refine J.iteT ?_
                                      -- @ret[(.int.i6411)]
                                      exact J.done (RetQ.ge (.tmp (.nil)) (by first | rfl | (simp [symFault, maxP, mkRes, *]; done) | (simp_all [symFault, maxP, mkRes]; done) | (simp_all [symFault, maxP, mkRes]; first | omega | (rw [decide_eq_false_iff_not]; omega) | (rw [decide_eq_true_iff]; omega)) | (simp only [symFault, maxP, mkRes]; (repeat' split) <;> first | rfl | omega | (simp_all; done) | (simp_all; omega))))
                                    · skip
                                      refine J.iteF ?_
                                      -- @ret[(.int.i640)]
                                      exact J.done (RetQ.ge (.tmp (.nil)) (by first | rfl | (simp [symFault, maxP, mkRes, *]; done) | (simp_all [symFault, maxP, mkRes]; done) | (simp_all [symFault, maxP, mkRes]; first | omega | (rw [decide_eq_false_iff_not]; omega) | (rw [decide_eq_true_iff]; omega)) | (simp only [symFault, maxP, mkRes]; (repeat' split) <;> first | rfl | omega | (simp_all; done) | (simp_all; omega))))
                                · skip
                                  refine J.gopT rfl ?_
                                  refine J.op (v := .bool true) R.not ?_
                                  refine J.op R.pickF ?_ -- @t92 pickS t86 (.bool true) t91
                                  refine J.gopF rfl ?_
                                  refine J.gopF rfl ?_
                                  refine J.gopF rfl ?_
                                  refine J.gopF rfl ?_
                                  refine J.op R.pickT ?_ -- @t98 pickS t92 (.bool true) t97
                                  refine J.done ?_ -- then tv_2 = [t98]
                                  refine J.iteT ?_
                                  -- @ret[(.int.i649)]
                                  exact J.done (RetQ.ge (.tmp (.nil)) (by first | rfl | (simp [symFault, maxP, mkRes, *]; done) | (simp_all [symFault, maxP, mkRes]; done) | (simp_all [symFault, maxP, mkRes]; first | omega | (rw [decide_eq_false_iff_not]; omega) | (rw [decide_eq_true_iff]; omega)) | (simp only [symFault, maxP, mkRes]; (repeat' split) <;> first | rfl | omega | (simp_all; done) | (simp_all; omega))))
                              · skip
                                refine J.gopT rfl ?_
                                refine J.op (v := .bool true) R.not ?_
                                refine J.op R.pickF ?_ -- @t86 pickS t80 (.bool true) t85
                                refine J.gopF rfl ?_
                                refine J.gopF rfl ?_
                                refine J.gopF rfl ?_
                                refine J.gopF rfl ?_
                                refine J.op R.pickT ?_ -- @t92 pickS t86 (.bool true) t91
                                refine J.gopF rfl ?_
                                refine J.gopF rfl ?_
                                refine J.gopF rfl ?_
                                refine J.gopF rfl ?_
                                refine J.op R.pickT ?_ -- @t98 pickS t92 (.bool true) t97
                                refine J.done ?_ -- then tv_2 = [t98]
                                refine J.iteT ?_
                                -- @ret[(.int.i649)]
                                exact J.done (RetQ.ge (.tmp (.nil)) (by first | rfl | (simp [symFault, maxP, mkRes, *]; done) | (simp_all [symFault, maxP, mkRes]; done) | (simp_all [symFault, maxP, mkRes]; first | omega | (rw [decide_eq_false_iff_not]; omega) | (rw [decide_eq_true_iff]; omega)) | (simp only [symFault, maxP, mkRes]; (repeat' split) <;> first | rfl | omega | (simp_all; done) | (simp_all; omega))))
                            · skip
                              refine J.gopT rfl ?_
                              refine J.op (v := .bool true) R.not ?_
                              refine J.op R.pickF ?_ -- @t80 pickS t74 (.bool true) t79
                              refine J.gopF rfl ?_
                              refine J.gopF rfl ?_
                              refine J.gopF rfl ?_
                              refine J.gopF rfl ?_
                              refine J.op R.pickT ?_ -- @t86 pickS t80 (.bool true) t85
                              refine J.gopF rfl ?_
                              refine J.gopF rfl ?_
                              refine J.gopF rfl ?_
                              refine J.gopF rfl ?_
                              refine J.op R.pickT ?_ -- @t92 pickS t86 (.bool true) t91
                              refine J.gopF rfl ?_
                              refine J.gopF rfl ?_
                              refine J.gopF rfl ?_
                              refine J.gopF rfl ?_
                              refine J.op R.pickT ?_ -- @t98 pickS t92 (.bool true) t97
                              refine J.done ?_ -- then tv_2 = [t98]
                              refine J.iteT ?_
                              -- @ret[(.int.i649)]
                              exact J.done (RetQ.ge (.tmp (.nil)) (by first | rfl | (simp [symFault, maxP, mkRes, *]; done) | (simp_all [symFault, maxP, mkRes]; done) | (simp_all [symFault, maxP, mkRes]; first | omega | (rw [decide_eq_false_iff_not]; omega) | (rw [decide_eq_true_iff]; omega)) | (simp only [symFault, maxP, mkRes]; (repeat' split) <;> first | rfl | omega | (simp_all; done) | (simp_all; omega))))
                          · skip
                            refine J.gopT rfl ?_
                            refine J.op (v := .bool true) R.not ?_
                            refine J.op R.pickF ?_ -- @t74 pickS t68 (.bool true) t73
                            refine J.gopF rfl ?_
                            refine J.gopF rfl ?_
                            refine J.gopF rfl ?_
                            refine J.gopF rfl ?_
                            refine J.op R.pickT ?_ -- @t80 pickS t74 (.bool true) t79
                            refine J.gopF rfl ?_
                            refine J.gopF rfl ?_
                            refine J.gopF rfl ?_
                            refine J.gopF rfl ?_
                            refine J.op R.pickT ?_ -- @t86 pickS t80 (.bool true) t85
                            refine J.gopF rfl ?_
                            refine J.gopF rfl ?_
                            refine J.gopF rfl ?_
                            refine J.gopF rfl ?_
                            refine J.op R.pickT ?_ -- @t92 pickS t86 (.bool true) t91
                            refine J.gopF rfl ?_
                            refine J.gopF rfl ?_
                            refine J.gopF rfl ?_
                            refine J.gopF rfl ?_
                            refine J.op R.pickT ?_ -- @t98 pickS t92 (.bool true) t97
                            refine J.done ?_ -- then tv_2 = [t98]
                            refine J.iteT ?_
                            -- @ret[(.int.i649)]
                            exact J.done (RetQ.ge (.tmp (.nil)) (by first | rfl | (simp [symFault, maxP, mkRes, *]; done) | (simp_all [symFault, maxP, mkRes]; done) | (simp_all [symFault, maxP, mkRes]; first | omega | (rw [decide_eq_false_iff_not]; omega) | (rw [decide_eq_true_iff]; omega)) | (simp only [symFault, maxP, mkRes]; (repeat' split) <;> first | rfl | omega | (simp_all; done) | (simp_all; omega))))
                        · skip
                          refine J.gopT rfl ?_
                          refine J.op (v := .bool true) R.not ?_
                          refine J.op R.pickF ?_ -- @t68 pickS t62 (.bool true) t67
                          refine J.gopF rfl ?_
                          refine J.gopF rfl ?_
                          refine J.gopF rfl ?_
                          refine J.gopF rfl ?_
                          refine J.op R.pickT ?_ -- @t74 pickS t68 (.bool true) t73
                          refine J.gopF rfl ?_
                          refine J.gopF rfl ?_
                          refine J.gopF rfl ?_
                          refine J.gopF rfl ?_
                          refine J.op R.pickT ?_ -- @t80 pickS t74 (.bool true) t79
                          refine J.gopF rfl ?_
                          refine J.gopF rfl ?_
                          refine J.gopF rfl ?_
                          refine J.gopF rfl ?_
                          refine J.op R.pickT ?_ -- @t86 pickS t80 (.bool true) t85
                          refine J.gopF rfl ?_
                          refine J.gopF rfl ?_
                          refine J.gopF rfl ?_
                          refine J.gopF rfl ?_
                          refine J.op R.pickT ?_ -- @t92 pickS t86 (.bool true) t91
                          refine J.gopF rfl ?_
                          refine J.gopF rfl ?_
                          refine J.gopF rfl ?_
                          refine J.gopF rfl ?_
                          refine J.op R.pickT ?_ -- @t98 pickS t92 (.bool true) t97
                          refine J.done ?_ -- then tv_2 = [t98]
                          refine J.iteT ?_
                          -- @ret[(.int.i649)]
                          exact J.done (RetQ.ge (.tmp (.nil)) (by first | rfl | (simp [symFault, maxP, mkRes, *]; done) | (simp_all [symFault, maxP, mkRes]; done) | (simp_all [symFault, maxP, mkRes]; first | omega | (rw [decide_eq_false_iff_not]; omega) | (rw [decide_eq_true_iff]; omega)) | (simp only [symFault, maxP, mkRes]; (repeat' split) <;> first | rfl | omega | (simp_all; done) | (simp_all; omega))))
                      · skip
                        refine J.gopT rfl ?_
                        refine J.op (v := .bool true) R.not ?_
                        refine J.op R.pickF ?_ -- @t62 pickS t56 (.bool true) t61
                        refine J.gopF rfl ?_
                        refine J.gopF rfl ?_
                        refine J.gopF rfl ?_
                        refine J.gopF rfl ?_
                        refine J.op R.pickT ?_ -- @t68 pickS t62 (.bool true) t67
                        refine J.gopF rfl ?_
                        refine J.gopF rfl ?_
                        refine J.gopF rfl ?_
                        refine J.gopF rfl ?_
                        refine J.op R.pickT ?_ -- @t74 pickS t68 (.bool true) t73
                        refine J.gopF rfl ?_
                        refine J.gopF rfl ?_
                        refine J.gopF rfl ?_
                        refine J.gopF rfl ?_
                        refine J.op R.pickT ?_ -- @t80 pickS t74 (.bool true) t79
                        refine J.gopF rfl ?_
                        refine J.gopF rfl ?_
                        refine J.gopF rfl ?_
                        refine J.gopF rfl ?_
                        refine J.op R.pickT ?_ -- @t86 pickS t80 (.bool true) t85
                        refine J.gopF rfl ?_
                        refine J.gopF rfl ?_
                        refine J.gopF rfl ?_
                        refine J.gopF rfl ?_
                        refine J.op R.pickT ?_ -- @t92 pickS t86 (.bool true) t91
                        refine J.gopF rfl ?_
                        refine J.gopF rfl ?_
                        refine J.gopF rfl ?_
                        refine J.gopF rfl ?_
                        refine J.op R.pickT ?_ -- @t98 pickS t92 (.bool true) t97
                        refine J.done ?_ -- then tv_2 = [t98]
                        refine J.iteT ?_
                        -- @ret[(.int.i649)]
                        exact J.done (RetQ.ge (.tmp (.nil)) (by first | rfl | (simp [symFault, maxP, mkRes, *]; done) | (simp_all [symFault, maxP, mkRes]; done) | (simp_all [symFault, maxP, mkRes]; first | omega | (rw [decide_eq_false_iff_not]; omega) | (rw [decide_eq_true_iff]; omega)) | (simp only [symFault, maxP, mkRes]; (repeat' split) <;> first | rfl | omega | (simp_all; done) | (simp_all; omega))))
                    · skip
                      refine J.op (v := .bool true) R.not ?_
                      refine J.gopF rfl ?_
                      refine J.gopF rfl ?_
                      refine J.gopF rfl ?_
                      refine J.gopF rfl ?_
                      refine J.op R.pickT ?_ -- @t62 pickS t56 (.bool true) t61
                      refine J.gopF rfl ?_
                      refine J.gopF rfl ?_
                      refine J.gopF rfl ?_
                      refine J.gopF rfl ?_
                      refine J.op R.pickT ?_ -- @t68 pickS t62 (.bool true) t67
                      refine J.gopF rfl ?_
                      refine J.gopF rfl ?_
                      refine J.gopF rfl ?_
                      refine J.gopF rfl ?_
                      refine J.op R.pickT ?_ -- @t74 pickS t68 (.bool true) t73
                      refine J.gopF rfl ?_
                      refine J.gopF rfl ?_
                      refine J.gopF rfl ?_
                      refine J.gopF rfl ?_
                      refine J.op R.pickT ?_ -- @t80 pickS t74 (.bool true) t79
                      refine J.gopF rfl ?_
                      refine J.gopF rfl ?_
                      refine J.gopF rfl ?_
                      refine J.gopF rfl ?_
                      refine J.op R.pickT ?_ -- @t86 pickS t80 (.bool true) t85
                      refine J.gopF rfl ?_
                      refine J.gopF rfl ?_
                      refine J.gopF rfl ?_
                      refine J.gopF rfl ?_
                      refine J.op R.pickT ?_ -- @t92 pickS t86 (.bool true) t91
                      refine J.gopF rfl ?_
                      refine J.gopF rfl ?_
                      refine J.gopF rfl ?_
                      refine J.gopF rfl ?_
                      refine J.op R.pickT ?_ -- @t98 pickS t92 (.bool true) t97
                      refine J.done ?_ -- then tv_2 = [t98]
                      refine J.iteT ?_
                      -- @ret[(.int.i649)]
                      exact J.done (RetQ.ge (.tmp (.nil)) (by first | rfl | (simp [symFault, maxP, mkRes, *]; done) | (simp_all [symFault, maxP, mkRes]; done) | (simp_all [symFault, maxP, mkRes]; first | omega | (rw [decide_eq_false_iff_not]; omega) | (rw [decide_eq_true_iff]; omega)) | (simp only [symFault, maxP, mkRes]; (repeat' split) <;> first | rfl | omega | (simp_all; done) | (simp_all; omega))))
                · skip
                  refine J.gopT rfl ?_
                  refine J.op (v := .bool true) R.not ?_
                  refine J.op R.pickF ?_ -- @t46 pickS t40 (.bool true) t45
                  refine J.gopF rfl ?_
                  refine J.gopF rfl ?_
                  refine J.gopF rfl ?_
                  refine J.gopF rfl ?_
                  refine J.op R.pickT ?_ -- @t52 pickS t46 (.bool true) t51
                  refine J.done ?_ -- then tv_1 = [t52]
                  refine J.iteT ?_
                  -- @ret[(.int.i649)]
                  exact J.done (RetQ.ge (.tmp (.nil)) (by first | rfl | (simp [symFault, maxP, mkRes, *]; done) | (simp_all [symFault, maxP, mkRes]; done) | (simp_all [symFault, maxP, mkRes]; first | omega | (rw [decide_eq_false_iff_not]; omega) | (rw [decide_eq_true_iff]; omega)) | (simp only [symFault, maxP, mkRes]; (repeat' split) <;> first | rfl | omega | (simp_all; done) | (simp_all; omega))))
              · skip
                refine J.gopT rfl ?_
                refine J.op (v := .bool true) R.not ?_
                refine J.op R.pickF ?_ -- @t40 pickS t34 (.bool true) t39
                refine J.gopF rfl ?_
                refine J.gopF rfl ?_
                refine J.gopF rfl ?_
                refine J.gopF rfl ?_
                refine J.op R.pickT ?_ -- @t46 pickS t40 (.bool true) t45
                refine J.gopF rfl ?_
                refine J.gopF rfl ?_
                refine J.gopF rfl ?_
                refine J.gopF rfl ?_
                refine J.op R.pickT ?_ -- @t52 pickS t46 (.bool true) t51
                refine J.done ?_ -- then tv_1 = [t52]
                refine J.iteT ?_
                -- @ret[(.int.i649)]
                exact J.done (RetQ.ge (.tmp (.nil)) (by first | rfl | (simp [symFault, maxP, mkRes, *]; done) | (simp_all [symFault, maxP, mkRes]; done) | (simp_all [symFault, maxP, mkRes]; first | omega | (rw [decide_eq_false_iff_not]; omega) | (rw [decide_eq_true_iff]; omega)) | (simp only [symFault, maxP, mkRes]; (repeat' split) <;> first | rfl | omega | (simp_all; done) | (simp_all; omega))))
            · skip
              refine J.gopT rfl ?_
              refine J.op (v := .bool true) R.not ?_
              refine J.op R.pickF ?_ -- @t34 pickS t28 (.bool true) t33
              refine J.gopF rfl ?_
              refine J.gopF rfl ?_
              refine J.gopF rfl ?_
              refine J.gopF rfl ?_
              refine J.op R.pickT ?_ -- @t40 pickS t34 (.bool true) t39
              refine J.gopF rfl ?_
              refine J.gopF rfl ?_
              refine J.gopF rfl ?_
              refine J.gopF rfl ?_
              refine J.op R.pickT ?_ -- @t46 pickS t40 (.bool true) t45
              refine J.gopF rfl ?_
              refine J.gopF rfl ?_
              refine J.gopF rfl ?_
              refine J.gopF rfl ?_
              refine J.op R.pickT ?_ -- @t52 pickS t46 (.bool true) t51
              refine J.done ?_ -- then tv_1 = [t52]
              refine J.iteT ?_
              -- @ret[(.int.i649)]
              exact J.done (RetQ.ge (.tmp (.nil)) (by first | rfl | (simp [symFault, maxP, mkRes, *]; done) | (simp_all [symFault, maxP, mkRes]; done) | (simp_all [symFault, maxP, mkRes]; first | omega | (rw [decide_eq_false_iff_not]; omega) | (rw [decide_eq_true_iff]; omega)) | (simp only [symFault, maxP, mkRes]; (repeat' split) <;> first | rfl | omega | (simp_all; done) | (simp_all; omega))))
          · skip
            refine J.gopT rfl ?_
            refine J.op (v := .bool true) R.not ?_
            refine J.op R.pickF ?_ -- @t28 pickS t22 (.bool true) t27
            refine J.gopF rfl ?_
            refine J.gopF rfl ?_
            refine J.gopF rfl ?_
            refine J.gopF rfl ?_
            refine J.op R.pickT ?_ -- @t34 pickS t28 (.bool true) t33
            refine J.gopF rfl ?_
            refine J.gopF rfl ?_
            refine J.gopF rfl ?_
            refine J.gopF rfl ?_
            refine J.op R.pickT ?_ -- @t40 pickS t34 (.bool true) t39
            refine J.gopF rfl ?_
            refine J.gopF rfl ?_
            refine J.gopF rfl ?_
            refine J.gopF rfl ?_
            refine J.op R.pickT ?_ -- @t46 pickS t40 (.bool true) t45
            refine J.gopF rfl ?_
            refine J.gopF rfl ?_
            refine J.gopF rfl ?_
            refine J.gopF rfl ?_
            refine J.op R.pickT ?_ -- @t52 pickS t46 (.bool true) t51
            refine J.done ?_ -- then tv_1 = [t52]
            refine J.iteT ?_
            -- @ret[(.int.i649)]
            exact J.done (RetQ.ge (.tmp (.nil)) (by first | rfl | (simp [symFault, maxP, mkRes, *]; done) | (simp_all [symFault, maxP, mkRes]; done) | (simp_all [symFault, maxP, mkRes]; first | omega | (rw [decide_eq_false_iff_not]; omega) | (rw [decide_eq_true_iff]; omega)) | (simp only [symFault, maxP, mkRes]; (repeat' split) <;> first | rfl | omega | (simp_all; done) | (simp_all; omega))))
        · skip
          refine J.op (v := .bool true) R.not ?_
          refine J.gopF rfl ?_
          refine J.gopF rfl ?_
          refine J.gopF rfl ?_
          refine J.gopF rfl ?_
          refine J.op R.pickT ?_ -- @t28 pickS t22 (.bool true) t27
          refine J.gopF rfl ?_
          refine J.gopF rfl ?_
          refine J.gopF rfl ?_
          refine J.gopF rfl ?_
          refine J.op R.pickT ?_ -- @t34 pickS t28 (.bool true) t33
          refine J.gopF rfl ?_
          refine J.gopF rfl ?_
          refine J.gopF rfl ?_
          refine J.gopF rfl ?_
          refine J.op R.pickT ?_ -- @t40 pickS t34 (.bool true) t39
          refine J.gopF rfl ?_
          refine J.gopF rfl ?_
          refine J.gopF rfl ?_
          refine J.gopF rfl ?_
          refine J.op R.pickT ?_ -- @t46 pickS t40 (.bool true) t45
          refine J.gopF rfl ?_
          refine J.gopF rfl ?_
          refine J.gopF rfl ?_
          refine J.gopF rfl ?_
          refine J.op R.pickT ?_ -- @t52 pickS t46 (.bool true) t51
          refine J.done ?_ -- then tv_1 = [t52]
          refine J.iteT ?_
          -- @ret[(.int.i649)]
          exact J.done (RetQ.ge (.tmp (.nil)) (by first | rfl | (simp [symFault, maxP, mkRes, *]; done) | (simp_all [symFault, maxP, mkRes]; done) | (simp_all [symFault, maxP, mkRes]; first | omega | (rw [decide_eq_false_iff_not]; omega) | (rw [decide_eq_true_iff]; omega)) | (simp only [symFault, maxP, mkRes]; (repeat' split) <;> first | rfl | omega | (simp_all; done) | (simp_all; omega))))
  · skip
    refine J.op (v := .bool true) R.not ?_
    refine J.gopF rfl ?_
    refine J.gopF rfl ?_
    refine J.gopF rfl ?_
    refine J.gopF rfl ?_
    refine J.op R.pickT ?_ -- @t12 pickS t6 (.bool true) t11
    refine J.done ?_ -- then tv = [t12]
    refine J.iteT ?_
    -- @ret[(.int.i649)]
    exact J.done (RetQ.ge (.tmp (.nil)) (by first | rfl | (simp [symFault, maxP, mkRes, *]; done) | (simp_all [symFault, maxP, mkRes]; done) | (simp_all [symFault, maxP, mkRes]; first | omega | (rw [decide_eq_false_iff_not]; omega) | (rw [decide_eq_true_iff]; omega)) | (simp only [symFault, maxP, mkRes]; (repeat' split) <;> first | rfl | omega | (simp_all; done) | (simp_all; omega))))

/-- damper/damperref07.Bound -/
theorem s76 (s : Sym) :
    FnE Try.prog 76 [.agg s.cells.toArray] (fun _ => True) (.int .i64 (boundF s)) := by
  refine fn_of_J (cx := cx76) hmix Try.func76 (by kernel_rfl) (eq76 _) fun w hw => ?_
  refine J.boxA fun bt1 => ?_
  refine J.op (R.ldA ag123 (by with_reducible repeat (first | exact Pick.here | apply Pick.there)) rfl) ?_ -- @t3 vS (Instr.loadAt 123 t1)
  refine J.callE en88 (s88 _) rfl (fun _ _ _ => trivial) ?_ -- @t4 callS (.func (.func 88) #[] #[]) [t3]
  refine J.opD R.neq (fun ht5 => ?_) (fun ht5 => ?_) -- @t5 binS .neq 25 (.tmp 4) (.const (.int .i64 0)) t4 (.int .i64 0)
  · skip
    refine J.iteT ?_
    -- @ret[(.int.i640)]
    exact J.done (RetQ.ge (.tmp (.nil)) (by first | rfl | (simp [boundF, mkRes, *]; done) | (simp_all [boundF, mkRes]; done) | (simp_all [boundF, mkRes]; first | omega | (rw [decide_eq_false_iff_not]; omega) | (rw [decide_eq_true_iff]; omega)) | (simp only [boundF, mkRes]; (repeat' split) <;> first | rfl | omega | (simp_all; done) | (simp_all; omega))))
  · skip
    refine J.iteF ?_
    refine J.op fa123_7 ?_
    refine J.op (R.ld o2 (by with_reducible repeat (first | exact Pick.here | apply Pick.there)) rfl) ?_ -- @t7 vS (Instr.loadAt 2 t6)
    refine J.op fa123_8 ?_
    refine J.op (R.ld o2 (by with_reducible repeat (first | exact Pick.here | apply Pick.there)) rfl) ?_ -- @t9 vS (Instr.loadAt 2 t8)
    refine J.op fa123_9 ?_
    refine J.op (R.ld o3 (by with_reducible repeat (first | exact Pick.here | apply Pick.there)) rfl) ?_ -- @t11 vS (Instr.loadAt 3 t10)
    refine J.op R.add ?_ -- @t12 binS .add 3 (.tmp 11) (.const (.int .i64 1)) t11 (.int .i64 1)
    refine J.op R.mul ?_ -- @t13 binS .mul 2 (.tmp 9) (.tmp 12) t9 t12
    refine J.op R.add ?_ -- @t14 binS .add 2 (.tmp 7) (.tmp 13) t7 t13
    -- @ret[t14]
    exact J.done (RetQ.ge (.tmp (.nil)) (by first | rfl | (simp [boundF, mkRes, *]; done) | (simp_all [boundF, mkRes]; done) | (simp_all [boundF, mkRes]; first | omega | (rw [decide_eq_false_iff_not]; omega) | (rw [decide_eq_true_iff]; omega)) | (simp only [boundF, mkRes]; (repeat' split) <;> first | rfl | omega | (simp_all; done) | (simp_all; omega))))

/-- damper/config.Check -/
theorem s70 (x y : Value) (c : Cfg) :
    FnE Try.prog 70 [.agg (c.cells x y).toArray] (c.at x y) (.tuple #[.int .i64 (cfgFault c).1, .int .i64 (cfgFault c).2]) := by
  refine fn_of_J (cx := cx70) hmix Try.func70 (by kernel_rfl) (eq70 _) fun w hw => ?_
  have hX : ∀ H, SeeS ⟨Try.prog, w, footOf []⟩ H x 16 (syms c.syms) := fun H => SeeS.ofW0 hw.1 syms_ne
  have hY : ∀ H, SeeS ⟨Try.prog, w, footOf []⟩ H y 2 (trows c.rows) := fun H => SeeS.ofW0 hw.2 trows_ne
  have hm := hw.1.le
  simp only [syms_len, maxLen] at hm
  have hm2 := hw.2.le
  simp only [trows_len, maxLen] at hm2
  refine J.boxA fun bt1 => ?_
  refine J.op fa53_0 ?_
  refine J.op (R.ld o48 (by with_reducible repeat (first | exact Pick.here | apply Pick.there)) rfl) ?_ -- @t11 vS (Instr.loadAt 48 t10)
  refine J.op (R.lenN sl48 (hX _) syms_len) ?_ -- @t12 bltS .len #[48] 3 #[false] [t11]
  refine J.bs bs112_1 fun bt13 => ?_ -- @t13 vS (Instr.buildSlice 112 1 #[(0, t12)])
  refine J.callEB en93 (s93 _ _ _ _) rfl (fun _ _ hs => SeeS.ints (by with_reducible repeat (first | exact Pick.here | apply Pick.there)) (by repeat constructor) (by rfl) (by decide) _ _ hs) (fun ht14 => ?_) (fun ht14 => ?_) -- @t14 callS (.func (.func 93) #[] #[]) [(.int .i64 1), (.int .i64 8), t13]
  · skip
    refine J.op (v := .bool false) R.not ?_
    refine J.iteF ?_
    refine J.op fa53_0 ?_
    refine J.op (R.ld o48 (by with_reducible repeat (first | exact Pick.here | apply Pick.there)) rfl) ?_ -- @t17 vS (Instr.loadAt 48 t16)
    refine J.op (R.lenN sl48 (hX _) syms_len) ?_ -- @t18 bltS .len #[48] 3 #[false] [t17]
    refine J.bind ?_ -- @tv_1 bind tv_1 ([2, 3])
    refine J.block ?_
    -- @tx loop [(.int .i64 0), (.int .i64 0), (.int .i64 0)]
    refine J.loopH (α := Nat) (fun i => i ≤ c.syms.length ∧ ∀ j, j < i → symG c.syms j = 0) (fun i => [.int .i64 0, .int .i64 0, .int .i64 i]) (fun i => c.syms.length - i) 0 ⟨Nat.zero_le _, fun j h => absurd h (Nat.not_lt_zero j)⟩ rfl ?_
    rintro i ⟨hi, hall⟩
    try simp only [List.headD_cons, List.tail_cons]
    refine J.opD R.lss (fun ht20 => ?_) (fun ht20 => ?_) -- @t20 binS .lss 3 (.tmp 19) (.tmp 18) (tx.tail.tail.headD undef) t18
    · skip
      refine J.iteT ?_
      refine J.bind ?_ -- @tv bind tv ([2, 3])
      refine J.block ?_
      have hlt : i < c.syms.length := by omega
      obtain ⟨s, hs⟩ := get_ex hlt
      simp only [allB, List.all_cons, List.all_nil, Bool.and_true] at ht14
      refine J.ixW sl48 hX (by omega) (syms_get hs) fun b o hkt22 => ?_ -- @t22 ix t17 (tx.tail.tail.headD undef)
      refine J.op (R.ldKA ag123 (hkt22 _) rfl) ?_ -- @t23 vS (Instr.loadAt 123 t22)
      refine J.alloc z123 fun bt5 => ?_
      refine J.stW sz123 (by with_reducible repeat (first | exact Pick.here | apply Pick.there)) rfl rfl rfl ?_ -- @tu uS (Instr.storeAt 123 t5 t23)
      refine J.op (R.ldA ag123 (by with_reducible repeat (first | exact Pick.here | apply Pick.there)) rfl) ?_ -- @t24 vS (Instr.loadAt 123 t5)
      refine J.callE en94 (s94 _) rfl (fun _ _ _ => trivial) ?_ -- @t25 callS (.func (.func 94) #[] #[]) [t24]
      refine J.opD R.neq (fun ht27 => ?_) (fun ht27 => ?_) -- @t27 binS .neq 25 (.tmp 26) (.const (.int .i64 0)) t25 (.int .i64 0)
      · skip
        refine J.iteT ?_
        -- @ret[t25,(tx.tail.tail.headDundef)]
        exact J.done (RetQ.ge (.tmp (.tmp (.nil))) (by rw [cfgFault_sym ht14 hs ht27 hall]; rfl))
      · skip
        refine J.iteF ?_
        refine J.done ?_ -- then tv = [(tx.headD undef), (tx.tail.headD undef)]
        refine J.op (R.add64 (by omega)) ?_ -- @t30 binS .add 3 (.tmp 19) (.const (.int .i64 1)) (tx.tail.tail.headD undef) (.int .i64 1)
        -- @again[(tv.headDundef),(tv.tail.headDundef),t30]
        refine J.done ⟨i + 1, ⟨by omega, fun j hj => ?_⟩, rfl, Imp.take (by (try dsimp only); repeat (first | exact Has.nil | refine Has.cons (by repeat (first | (with_reducible exact Out.here) | ((with_reducible refine Out.cells ?_); first | rfl | (simp; done)) | ((with_reducible refine Out.row ?_); first | rfl | (simp; done)) | (with_reducible apply Out.there))) ?_)), by omega⟩
        rcases Nat.lt_succ_iff_lt_or_eq.1 hj with hj | rfl
        · exact hall j hj
        · rw [symG_at hs]; exact Classical.not_not.1 ht27
    · skip
      refine J.iteF ?_
      refine J.done ⟨fun _ => ?_, fun h => absurd rfl h⟩ -- exit [(tx.headD undef), (tx.tail.headD undef)]
      refine J.op fa53_1 ?_
      refine J.op (R.ld o49 (by with_reducible repeat (first | exact Pick.here | apply Pick.there)) rfl) ?_ -- @t33 vS (Instr.loadAt 49 t32)
      obtain rfl : i = c.syms.length := by omega
      simp only [allB, List.all_cons, List.all_nil, Bool.and_true] at ht14
      refine J.callE en95 (s95 y c.rows) rfl (fun _ _ hs => hY _ _ _ hs) ?_ -- @t34 callS (.func (.func 95) #[] #[]) [t33]
      refine J.op (R.ext rfl) ?_ -- @t35 vS (Instr.extract t34 0)
      refine J.op (R.ext rfl) ?_ -- @t36 vS (Instr.extract t34 1)
      refine J.opD R.neq (fun ht38 => ?_) (fun ht38 => ?_) -- @t38 binS .neq 25 (.tmp 37) (.const (.int .i64 0)) t35 (.int .i64 0)
      · skip
        refine J.iteT ?_
        -- @ret[t35,t36]
        exact J.done (RetQ.ge (.tmp (.tmp (.nil))) (by rw [cfgFault_table ht14 hall ht38]; rfl))
      · skip
        refine J.iteF ?_
        refine J.op bd168_0_1 ?_ -- @t43 vS (Instr.build 168 #[(0, (.func (.func 98) #[] #[t1])), (1, (.int .i64 9))])
        refine J.op bd168_0_1 ?_ -- @t45 vS (Instr.build 168 #[(0, (.func (.func 96) #[] #[t1])), (1, (.int .i64 9))])
        refine J.op bd168_0_1 ?_ -- @t47 vS (Instr.build 168 #[(0, (.func (.func 99) #[] #[t1])), (1, (.int .i64 9))])
        refine J.bs bs200_3 fun bt48 => ?_ -- @t48 vS (Instr.buildSlice 200 3 #[(0, t43), (1, t45), (2, t47)])
        refine J.callE en97 (s97 _ ([⟨98, [.pointer (some ⟨bt1, 0, none⟩)], 9, allB 1 maxP [c.index]⟩, ⟨96, [.pointer (some ⟨bt1, 0, none⟩)], 9, fallsB c⟩, ⟨99, [.pointer (some ⟨bt1, 0, none⟩)], 9, allB 1 maxP [c.h0, c.h1]⟩]) (fun w => Blk w bt1 (c.cells x y) 53) Stab.blk (by intro r hr; simp only [List.mem_cons, List.not_mem_nil, or_false] at hr; rcases hr with rfl | rfl | rfl <;> first | exact ⟨en96, s96 bt1 c x y⟩ | exact ⟨en98, s98 bt1 c x y⟩ | exact ⟨en99, s99 bt1 c x y⟩)) rfl (fun _ _ hs => ⟨SeeS.lit (els := ruls ([⟨98, [.pointer (some ⟨bt1, 0, none⟩)], 9, allB 1 maxP [c.index]⟩, ⟨96, [.pointer (some ⟨bt1, 0, none⟩)], 9, fallsB c⟩, ⟨99, [.pointer (some ⟨bt1, 0, none⟩)], 9, allB 1 maxP [c.h0, c.h1]⟩])) (by with_reducible repeat (first | exact Pick.here | apply Pick.there)) (by rfl) (by intro l hl; simp [ruls, Rul.cells] at hl; rcases hl with rfl | rfl | rfl <;> rfl) (by rfl) (by decide) _ _ hs, Blk.of (by with_reducible repeat (first | exact Pick.here | apply Pick.there)) hs⟩) ?_ -- @t49 callS (.func (.func 97) #[] #[]) [t48]
        -- @ret[t49,(.int.i640)]
        exact J.done (RetQ.ge (.tmp (.tmp (.nil))) (by rw [cfgFault_rest ht14 hall (Classical.not_not.1 ht38), ← restF_eq]; rfl))
  · skip
    refine J.op (v := .bool true) R.not ?_
    refine J.iteT ?_
    -- @ret[(.int.i649),(.int.i640)]
    exact J.done (RetQ.ge (.tmp (.tmp (.nil))) (by simp only [allB, List.all_cons, List.all_nil, Bool.and_true] at ht14; rw [cfgFault_len ht14]; rfl))

/-- damper/damperref07.Check -/
theorem s62 (x y : Value) (c : Cfg) :
    FnE Try.prog 62 [.agg (c.cells x y).toArray] (c.at x y) (.tuple #[.int .i64 (cfgFault c).1, .int .i64 (cfgFault c).2]) := by
  refine fn_of_J (cx := cx62) hmix Try.func62 (by kernel_rfl) (eq62 _) fun w hw => ?_
  have hX : ∀ H, SeeS ⟨Try.prog, w, footOf []⟩ H x 16 (syms c.syms) := fun H => SeeS.ofW0 hw.1 syms_ne
  have hY : ∀ H, SeeS ⟨Try.prog, w, footOf []⟩ H y 2 (trows c.rows) := fun H => SeeS.ofW0 hw.2 trows_ne
  have hm := hw.1.le
  simp only [syms_len, maxLen] at hm
  have hm2 := hw.2.le
  simp only [trows_len, maxLen] at hm2
  refine J.boxA fun bt1 => ?_
  refine J.bindB (¬ inB c.syms.length 1 8 = true) ?_ (fun hbtv => ?_) (fun hbtv => ?_) -- @tv
  · skip
    refine J.op fa53_0 ?_
    refine J.op (R.ld o48 (by with_reducible repeat (first | exact Pick.here | apply Pick.there)) rfl) ?_ -- @t9 vS (Instr.loadAt 48 t8)
    refine J.op (R.lenN sl48 (hX _) syms_len) ?_ -- @t10 bltS .len #[48] 3 #[false] [t9]
    refine J.opD R.lss (fun ht11 => ?_) (fun ht11 => ?_) -- @t11 binS .lss 3 (.tmp 10) (.const (.int .i64 1)) t10 (.int .i64 1)
    · skip
      refine J.gopF rfl ?_
      refine J.gopF rfl ?_
      refine J.gopF rfl ?_
      refine J.gopF rfl ?_
      refine J.op R.pickT ?_ -- @t17 pickS t11 (.bool true) t16
      exact J.done ⟨rfl, by simp [inB]; omega, rfl⟩ -- @leaf[t17]
    · skip
      refine J.gopT rfl ?_
      refine J.op fa53_0 ?_
      refine J.gopT rfl ?_
      refine J.op (R.ld o48 (by with_reducible repeat (first | exact Pick.here | apply Pick.there)) rfl) ?_ -- @t14 vS (Instr.loadAt 48 t13)
      refine J.gopT rfl ?_
      refine J.op (R.lenN sl48 (hX _) syms_len) ?_ -- @t15 bltS .len #[48] 3 #[false] [t14]
      refine J.gopT rfl ?_
      refine J.op R.gtr ?_ -- @t16 binS .gtr 3 (.tmp 15) (.const (.int .i64 8)) t15 (.int .i64 8)
      refine J.op R.pickF ?_ -- @t17 pickS t11 (.bool true) t16
      exact J.done ⟨rfl, by simp [inB]; omega, rfl⟩ -- @leaf[t17]
  · skip
    refine J.iteT ?_
    -- @ret[(.int.i649),(.int.i640)]
    exact J.done (RetQ.ge (.tmp (.tmp (.nil))) (by rw [cfgFault_len (by simpa using hbtv)]; rfl))
  · skip
    refine J.iteF ?_
    refine J.bind ?_ -- @tv_2 bind tv_2 ([2, 3])
    refine J.block ?_
    have ht14 := Classical.not_not.1 hbtv
    -- @tx loop [(.int .i64 0), (.int .i64 0), (.int .i64 0)]
    refine J.loopH (α := Nat) (fun i => i ≤ c.syms.length ∧ ∀ j, j < i → symG c.syms j = 0) (fun i => [.int .i64 0, .int .i64 0, .int .i64 i]) (fun i => c.syms.length - i) 0 ⟨Nat.zero_le _, fun j h => absurd h (Nat.not_lt_zero j)⟩ rfl ?_
    rintro i ⟨hi, hall⟩
    try simp only [List.headD_cons, List.tail_cons]
    refine J.op fa53_0 ?_
    refine J.op (R.ld o48 (by with_reducible repeat (first | exact Pick.here | apply Pick.there)) rfl) ?_ -- @t20 vS (Instr.loadAt 48 t19)
    refine J.op (R.lenN sl48 (hX _) syms_len) ?_ -- @t21 bltS .len #[48] 3 #[false] [t20]
    refine J.opD R.lss (fun ht22 => ?_) (fun ht22 => ?_) -- @t22 binS .lss 3 (.tmp 18) (.tmp 21) (tx.tail.tail.headD undef) t21
    · skip
      refine J.iteT ?_
      refine J.bind ?_ -- @tv_1 bind tv_1 ([2, 3])
      refine J.block ?_
      refine J.op fa53_0 ?_
      refine J.op (R.ld o48 (by with_reducible repeat (first | exact Pick.here | apply Pick.there)) rfl) ?_ -- @t26 vS (Instr.loadAt 48 t25)
      have hlt : i < c.syms.length := by omega
      obtain ⟨s, hs⟩ := get_ex hlt
      refine J.ixW sl48 hX (by omega) (syms_get hs) fun b o hkt28 => ?_ -- @t28 ix t26 (tx.tail.tail.headD undef)
      refine J.op (R.ldKA ag123 (hkt28 _) rfl) ?_ -- @t29 vS (Instr.loadAt 123 t28)
      refine J.callE en88 (s88 _) rfl (fun _ _ _ => trivial) ?_ -- @t30 callS (.func (.func 88) #[] #[]) [t29]
      refine J.opD R.neq (fun ht32 => ?_) (fun ht32 => ?_) -- @t32 binS .neq 25 (.tmp 31) (.const (.int .i64 0)) t30 (.int .i64 0)
      · skip
        refine J.iteT ?_
        -- @ret[t30,(tx.tail.tail.headDundef)]
        exact J.done (RetQ.ge (.tmp (.tmp (.nil))) (by rw [cfgFault_sym ht14 hs ht32 hall]; rfl))
      · skip
        refine J.iteF ?_
        refine J.done ?_ -- then tv_1 = [(tx.headD undef), (tx.tail.headD undef)]
        refine J.op (R.add64 (by omega)) ?_ -- @t24 binS .add 3 (.tmp 23) (.const (.int .i64 1)) (tx.tail.tail.headD undef) (.int .i64 1)
        -- @again[(tv_1.headDundef),(tv_1.tail.headDundef),t24]
        refine J.done ⟨i + 1, ⟨by omega, fun j hj => ?_⟩, rfl, Imp.take (by (try dsimp only); repeat (first | exact Has.nil | refine Has.cons (by repeat (first | (with_reducible exact Out.here) | ((with_reducible refine Out.cells ?_); first | rfl | (simp; done)) | ((with_reducible refine Out.row ?_); first | rfl | (simp; done)) | (with_reducible apply Out.there))) ?_)), by omega⟩
        rcases Nat.lt_succ_iff_lt_or_eq.1 hj with hj | rfl
        · exact hall j hj
        · rw [symG_at hs]; exact Classical.not_not.1 ht32
    · skip
      refine J.iteF ?_
      refine J.done ⟨fun _ => ?_, fun h => absurd rfl h⟩ -- exit [(tx.headD undef), (tx.tail.headD undef)]
      obtain rfl : i = c.syms.length := by omega
      refine J.bindB (¬ inB c.rows.length 1 20 = true) ?_ (fun hbtv_3 => ?_) (fun hbtv_3 => ?_) -- @tv_3
      · skip
        refine J.op fa53_1 ?_
        refine J.op (R.ld o49 (by with_reducible repeat (first | exact Pick.here | apply Pick.there)) rfl) ?_ -- @t36 vS (Instr.loadAt 49 t35)
        refine J.op (R.lenN sl49 (hY _) trows_len) ?_ -- @t37 bltS .len #[49] 3 #[false] [t36]
        refine J.opD R.lss (fun ht38 => ?_) (fun ht38 => ?_) -- @t38 binS .lss 3 (.tmp 37) (.const (.int .i64 1)) t37 (.int .i64 1)
        · skip
          refine J.gopF rfl ?_
          refine J.gopF rfl ?_
          refine J.gopF rfl ?_
          refine J.gopF rfl ?_
          refine J.op R.pickT ?_ -- @t44 pickS t38 (.bool true) t43
          exact J.done ⟨rfl, by simp [inB]; omega, rfl⟩ -- @leaf[t44]
        · skip
          refine J.gopT rfl ?_
          refine J.op fa53_1 ?_
          refine J.gopT rfl ?_
          refine J.op (R.ld o49 (by with_reducible repeat (first | exact Pick.here | apply Pick.there)) rfl) ?_ -- @t41 vS (Instr.loadAt 49 t40)
          refine J.gopT rfl ?_
          refine J.op (R.lenN sl49 (hY _) trows_len) ?_ -- @t42 bltS .len #[49] 3 #[false] [t41]
          refine J.gopT rfl ?_
          refine J.op R.gtr ?_ -- @t43 binS .gtr 3 (.tmp 42) (.const (.int .i64 20)) t42 (.int .i64 20)
          refine J.op R.pickF ?_ -- @t44 pickS t38 (.bool true) t43
          exact J.done ⟨rfl, by simp [inB]; omega, rfl⟩ -- @leaf[t44]
      · skip
        refine J.iteT ?_
        -- @ret[(.int.i649),(.int.i640)]#2
        have ht : tableF c.rows = (9, 0) := tableF_len (by simpa using hbtv_3)
        exact J.done (RetQ.ge (.tmp (.tmp .nil)) (by rw [cfgFault_table ht14 hall (by rw [ht]; simp), ht]; rfl))
      · skip
        refine J.iteF ?_
        refine J.bind ?_ -- @tv_6 bind tv_6 ([2, 3])
        refine J.block ?_
        have htl := Classical.not_not.1 hbtv_3
        -- @tx_1 loop [(tv_2.headD undef), (tv_2.tail.headD undef), (.int .i64 0)]
        refine J.loopH (α := Nat) (fun i => i ≤ c.rows.length ∧ ∀ j, j < i → rowG c.rows j = 0) (fun i => [.int .i64 0, .int .i64 0, .int .i64 i]) (fun i => c.rows.length - i) 0 ⟨Nat.zero_le _, fun j h => absurd h (Nat.not_lt_zero j)⟩ rfl ?_
        rintro k ⟨hk, hall2⟩
        try simp only [List.headD_cons, List.tail_cons]
        refine J.op fa53_1 ?_
        refine J.op (R.ld o49 (by with_reducible repeat (first | exact Pick.here | apply Pick.there)) rfl) ?_ -- @t47 vS (Instr.loadAt 49 t46)
        refine J.op (R.lenN sl49 (hY _) trows_len) ?_ -- @t48 bltS .len #[49] 3 #[false] [t47]
        refine J.opD R.lss (fun ht49 => ?_) (fun ht49 => ?_) -- @t49 binS .lss 3 (.tmp 45) (.tmp 48) (tx_1.tail.tail.headD undef) t48
        · skip
          refine J.iteT ?_
          refine J.bind ?_ -- @tv_5 bind tv_5 ([2, 3])
          refine J.block ?_
          have hlk : k < c.rows.length := by omega
          obtain ⟨r, hr⟩ := get_ex hlk
          have hrow := rowG_at hr
          have hpg := prevAt_ge hall2
          refine J.bindBH (r.at_ ≤ prevAt c.rows k ∨ 1125899906842624 < r.at_) ([Ent.cells bt1 (c.cells x y) 53]) ?_ (fun hbtv_4 => ?_) (fun hbtv_4 => ?_) -- @tv_4
          · skip
            refine J.draw ?_
            refine J.op fa53_1 ?_
            refine J.op (R.ld o49 (by with_reducible repeat (first | exact Pick.here | apply Pick.there)) rfl) ?_ -- @t53 vS (Instr.loadAt 49 t52)
            refine J.ixWR sl49 hY (by omega) (trows_get hr) fun b o hkt55 hR55 => ?_ -- @t55 ix t53 (tx_1.tail.tail.headD undef)
            refine J.op fa138_0 ?_
            refine J.op (R.ldK0 o2 (hkt55 _)) ?_ -- @t57 vS (Instr.loadAt 2 t56)
            refine J.callEB en89 (s89 _ _ _) rfl (fun _ _ _ => trivial) (fun ht58 => ?_) (fun ht58 => ?_) -- @t58 callS (.func (.func 89) #[] #[]) [t57, (.int .i64 0), (.int .i64 1125899906842624)]
            · skip
              refine J.op (v := .bool false) R.not ?_
              refine J.gopT rfl ?_
              refine J.op R.pure ?_
              refine J.gopT rfl ?_
              refine J.opD R.gtr (fun ht62 => ?_) (fun ht62 => ?_) -- @t62 binS .gtr 3 (.tmp 61) (.const (.int .i64 0)) t61 (.int .i64 0)
              · skip
                refine J.gopT rfl ?_
                refine J.op R.pure ?_
                refine J.gopT rfl ?_
                refine J.op fa53_1 ?_
                refine J.gopT rfl ?_
                refine J.op (R.ld o49 (by with_reducible repeat (first | exact Pick.here | apply Pick.there)) rfl) ?_ -- @t65 vS (Instr.loadAt 49 t64)
                refine J.gopT rfl ?_
                refine J.op R.pure ?_
                refine J.gopT rfl ?_
                refine J.op (hR55 _) ?_ -- @t67 ix t65 t66
                refine J.gopT rfl ?_
                refine J.op fa138_0 ?_
                refine J.gopT rfl ?_
                refine J.op (R.ldK0 o2 (hkt55 _)) ?_ -- @t69 vS (Instr.loadAt 2 t68)
                refine J.gopT rfl ?_
                refine J.op fa53_1 ?_
                refine J.gopT rfl ?_
                refine J.op (R.ld o49 (by with_reducible repeat (first | exact Pick.here | apply Pick.there)) rfl) ?_ -- @t71 vS (Instr.loadAt 49 t70)
                refine J.gopT rfl ?_
                refine J.op R.pure ?_
                refine J.gopT rfl ?_
                refine J.op (R.sub64 (by omega)) ?_
                obtain ⟨k, rfl⟩ : ∃ m, k = m + 1 := ⟨k - 1, by omega⟩
                obtain ⟨q, hq⟩ := get_ex (l := c.rows) (i := k) (by omega)
                have hpq := prevAt_succ hq
                rw [show ((k + 1 : Nat) : Int) - 1 = (k : Int) by omega] -- @t73 binS .sub 3 (.tmp 72) (.const (.int .i64 1)) t72 (.int .i64 1)
                refine J.gopT rfl ?_
                refine J.ixW sl49 hY (by omega) (trows_get hq) fun b o hkt74 => ?_ -- @t74 ix t71 t73
                refine J.gopT rfl ?_
                refine J.op fa138_0 ?_
                refine J.gopT rfl ?_
                refine J.op (R.ldK0 o2 (hkt74 _)) ?_ -- @t76 vS (Instr.loadAt 2 t75)
                refine J.gopT rfl ?_
                refine J.op R.leq ?_ -- @t77 binS .leq 2 (.tmp 69) (.tmp 76) t69 t76
                refine J.gopT rfl ?_
                refine J.op R.pickT ?_ -- @t78 pickS t63 t77 (.bool false)
                refine J.op R.pickF ?_ -- @t79 pickS t59 (.bool true) t78
                exact J.done ⟨rfl, by (simp only [List.cons.injEq, Value.bool.injEq, and_true]; symm; first | (rw [inB_no] at ht58; rw [decide_eq_true_iff]; omega) | (rw [inB_iff] at ht58; rw [hpq]; first | exact decide_eq_decide.2 (by omega) | (rw [decide_eq_true_iff]; omega) | (rw [decide_eq_false_iff_not]; omega)) | (rw [inB_iff] at ht58; obtain rfl : k = 0 := (by omega); rw [decide_eq_false_iff_not]; have h0 : prevAt c.rows 0 = -1 := rfl; omega)), Imp.take (by (try dsimp only); repeat (first | exact Has.nil | refine Has.cons (by repeat (first | (with_reducible exact Out.here) | ((with_reducible refine Out.cells ?_); first | rfl | (simp; done)) | ((with_reducible refine Out.row ?_); first | rfl | (simp; done)) | (with_reducible apply Out.there))) ?_))⟩ -- @leaf[t79]
              · skip
                refine J.gopT rfl ?_
                refine J.op R.pure ?_
                refine J.gopF rfl ?_
                refine J.gopF rfl ?_
                refine J.gopF rfl ?_
                refine J.gopF rfl ?_
                refine J.gopF rfl ?_
                refine J.gopF rfl ?_
                refine J.gopF rfl ?_
                refine J.gopF rfl ?_
                refine J.gopF rfl ?_
                refine J.gopF rfl ?_
                refine J.gopF rfl ?_
                refine J.gopF rfl ?_
                refine J.gopF rfl ?_
                refine J.gopF rfl ?_
                refine J.gopT rfl ?_
                refine J.op R.pickF ?_ -- @t78 pickS t63 t77 (.bool false)
                refine J.op R.pickF ?_ -- @t79 pickS t59 (.bool true) t78
                exact J.done ⟨rfl, by (simp only [List.cons.injEq, Value.bool.injEq, and_true]; symm; first | (rw [inB_no] at ht58; rw [decide_eq_true_iff]; omega) | (rw [inB_iff] at ht58; rw [hpq]; first | exact decide_eq_decide.2 (by omega) | (rw [decide_eq_true_iff]; omega) | (rw [decide_eq_false_iff_not]; omega)) | (rw [inB_iff] at ht58; obtain rfl : k = 0 := (by omega); rw [decide_eq_false_iff_not]; have h0 : prevAt c.rows 0 = -1 := rfl; omega)), Imp.take (by (try dsimp only); repeat (first | exact Has.nil | refine Has.cons (by repeat (first | (with_reducible exact Out.here) | ((with_reducible refine Out.cells ?_); first | rfl | (simp; done)) | ((with_reducible refine Out.row ?_); first | rfl | (simp; done)) | (with_reducible apply Out.there))) ?_))⟩ -- @leaf[t79]
            · skip
              refine J.op (v := .bool true) R.not ?_
              refine J.gopF rfl ?_
              refine J.gopF rfl ?_
              refine J.gopF rfl ?_
              refine J.gopF rfl ?_
              refine J.gopF rfl ?_
              refine J.gopF rfl ?_
              refine J.gopF rfl ?_
              refine J.gopF rfl ?_
              refine J.gopF rfl ?_
              refine J.gopF rfl ?_
              refine J.gopF rfl ?_
              refine J.gopF rfl ?_
              refine J.gopF rfl ?_
              refine J.gopF rfl ?_
              refine J.gopF rfl ?_
              refine J.gopF rfl ?_
              refine J.gopF rfl ?_
              refine J.gopF rfl ?_
              refine J.op R.pickT ?_ -- @t79 pickS t59 (.bool true) t78
              exact J.done ⟨rfl, by (simp only [List.cons.injEq, Value.bool.injEq, and_true]; symm; first | (rw [inB_no] at ht58; rw [decide_eq_true_iff]; omega) | (rw [inB_iff] at ht58; rw [hpq]; first | exact decide_eq_decide.2 (by omega) | (rw [decide_eq_true_iff]; omega) | (rw [decide_eq_false_iff_not]; omega)) | (rw [inB_iff] at ht58; obtain rfl : k = 0 := (by omega); rw [decide_eq_false_iff_not]; have h0 : prevAt c.rows 0 = -1 := rfl; omega)), Imp.take (by (try dsimp only); repeat (first | exact Has.nil | refine Has.cons (by repeat (first | (with_reducible exact Out.here) | ((with_reducible refine Out.cells ?_); first | rfl | (simp; done)) | ((with_reducible refine Out.row ?_); first | rfl | (simp; done)) | (with_reducible apply Out.there))) ?_))⟩ -- @leaf[t79]
          · skip
            refine J.iteT ?_
            -- @ret[(.int.i649),(tx_1.tail.tail.headDundef)]
            have hg : rowG c.rows k = 9 := by rw [hrow, if_pos hbtv_4]
            have ht : tableF c.rows = (9, (k : Int)) := by rw [tableF_at htl hlk (by rw [hg]; decide) hall2, hg]
            exact J.done (RetQ.ge (.tmp (.tmp .nil)) (by rw [cfgFault_table ht14 hall (by rw [ht]; simp), ht]; rfl))
          · skip
            refine J.iteF ?_
            refine J.op fa53_1 ?_
            refine J.op (R.ld o49 (by with_reducible repeat (first | exact Pick.here | apply Pick.there)) rfl) ?_ -- @t82 vS (Instr.loadAt 49 t81)
            refine J.ixW sl49 hY (by omega) (trows_get hr) fun b o hkt84 => ?_ -- @t84 ix t82 (tx_1.tail.tail.headD undef)
            refine J.op fa138_1 ?_
            refine J.op (R.ldK o3 (hkt84 _) rfl) ?_ -- @t86 vS (Instr.loadAt 3 t85)
            refine J.callEB en89 (s89 _ _ _) rfl (fun _ _ _ => trivial) (fun ht87 => ?_) (fun ht87 => ?_) -- @t87 callS (.func (.func 89) #[] #[]) [t86, (.int .i64 0), (.int .i64 2)]
            · skip
              refine J.op (v := .bool false) R.not ?_
              refine J.iteF ?_
              refine J.done ?_ -- then tv_5 = [(tx_1.headD undef), (tx_1.tail.headD undef)]
              refine J.op (R.add64 (by omega)) ?_ -- @t51 binS .add 3 (.tmp 50) (.const (.int .i64 1)) (tx_1.tail.tail.headD undef) (.int .i64 1)
              -- @again[(tv_5.headDundef),(tv_5.tail.headDundef),t51]
              refine J.done ⟨k + 1, ⟨by omega, fun j hj => ?_⟩, rfl, Imp.take (by (try dsimp only); repeat (first | exact Has.nil | refine Has.cons (by repeat (first | (with_reducible exact Out.here) | ((with_reducible refine Out.cells ?_); first | rfl | (simp; done)) | ((with_reducible refine Out.row ?_); first | rfl | (simp; done)) | (with_reducible apply Out.there))) ?_)), by omega⟩
              rcases Nat.lt_succ_iff_lt_or_eq.1 hj with hj | rfl
              · exact hall2 j hj
              · rw [hrow, if_neg hbtv_4, ht87]; rfl
            · skip
              refine J.op (v := .bool true) R.not ?_
              refine J.iteT ?_
              -- @ret[(.int.i6410),(tx_1.tail.tail.headDundef)]
              have hg : rowG c.rows k = 10 := by rw [hrow, if_neg hbtv_4, ht87]; rfl
              have ht : tableF c.rows = (10, (k : Int)) := by rw [tableF_at htl hlk (by rw [hg]; decide) hall2, hg]
              exact J.done (RetQ.ge (.tmp (.tmp .nil)) (by rw [cfgFault_table ht14 hall (by rw [ht]; simp), ht]; rfl))
        · skip
          refine J.iteF ?_
          refine J.done ⟨fun _ => ?_, fun h => absurd rfl h⟩ -- exit [(tx_1.headD undef), (tx_1.tail.headD undef)]
          refine J.op fa53_2 ?_
          refine J.op (R.ld o2 (by with_reducible repeat (first | exact Pick.here | apply Pick.there)) rfl) ?_ -- @t91 vS (Instr.loadAt 2 t90)
          obtain rfl : k = c.rows.length := by omega
          have htz : (tableF c.rows).1 = 0 := by rw [tableF_none htl hall2]
          refine J.callEB en89 (s89 _ _ _) rfl (fun _ _ _ => trivial) (fun ht92 => ?_) (fun ht92 => ?_) -- @t92 callS (.func (.func 89) #[] #[]) [t91, (.int .i64 1), (.int .i64 1099511627776)]
          · skip
            refine J.op (v := .bool false) R.not ?_
            refine J.iteF ?_
            refine J.bind ?_ -- @tv_9 bind tv_9 ([2, 3])
            refine J.block ?_
            -- @tx_2 loop [(tv_6.headD undef), (tv_6.tail.headD undef), (.int .i64 0)]
            refine J.loopH (α := Nat) (fun i => i ≤ 3 ∧ ∀ j, j < i → fallG c j = 0) (fun i => [.int .i64 0, .int .i64 0, .int .i64 i]) (fun i => 3 - i) 0 ⟨Nat.zero_le _, fun j h => absurd h (Nat.not_lt_zero j)⟩ rfl ?_
            rintro k2 ⟨hk2, hall3⟩
            try simp only [List.headD_cons, List.tail_cons]
            refine J.opD R.lss (fun ht95 => ?_) (fun ht95 => ?_) -- @t95 binS .lss 3 (.tmp 94) (.const (.int .i64 3)) (tx_2.tail.tail.headD undef) (.int .i64 3)
            · skip
              refine J.iteT ?_
              refine J.bind ?_ -- @tv_8 bind tv_8 ([2, 3])
              refine J.block ?_
              refine J.bindBH (fallG c k2 ≠ 0) ([Ent.cells bt1 (c.cells x y) 53]) ?_ (fun hbtv_7 => ?_) (fun hbtv_7 => ?_) -- @tv_7
              · skip
                refine J.draw ?_
                refine J.op fa53_3 ?_
                refine J.op (R.ixA ar50 (by omega) (by omega)) ?_ -- @t100 ix t99 (tx_2.tail.tail.headD undef)
                refine J.op (R.ld o3 (by with_reducible repeat (first | exact Pick.here | apply Pick.there)) (Cfg.cells_fall (i := k2) (by simp) (by omega))) ?_ -- @t101 vS (Instr.loadAt 3 t100)
                refine J.callEB en89 (s89 _ _ _) rfl (fun _ _ _ => trivial) (fun ht102 => ?_) (fun ht102 => ?_) -- @t102 callS (.func (.func 89) #[] #[]) [t101, (.int .i64 1), (.int .i64 9999)]
                · skip
                  refine J.op (v := .bool false) R.not ?_
                  refine J.gopT rfl ?_
                  refine J.op R.pure ?_
                  refine J.gopT rfl ?_
                  refine J.opD R.gtr (fun ht106 => ?_) (fun ht106 => ?_) -- @t106 binS .gtr 3 (.tmp 105) (.const (.int .i64 0)) t105 (.int .i64 0)
                  · skip
                    refine J.gopT rfl ?_
                    refine J.op R.pure ?_
                    refine J.gopT rfl ?_
                    refine J.op R.pure ?_
                    refine J.gopT rfl ?_
                    refine J.op fa53_3 ?_
                    refine J.gopT rfl ?_
                    refine J.op (R.ixA ar50 (by omega) (by omega)) ?_ -- @t110 ix t109 t108
                    refine J.gopT rfl ?_
                    refine J.op (R.ld o3 (by with_reducible repeat (first | exact Pick.here | apply Pick.there)) (Cfg.cells_fall (i := k2) (by simp) (by omega))) ?_ -- @t111 vS (Instr.loadAt 3 t110)
                    refine J.gopT rfl ?_
                    refine J.op R.pure ?_
                    refine J.gopT rfl ?_
                    refine J.op (R.sub64 (by omega)) ?_ -- @t113 binS .sub 3 (.tmp 112) (.const (.int .i64 1)) t112 (.int .i64 1)
                    refine J.gopT rfl ?_
                    refine J.op fa53_3 ?_
                    refine J.gopT rfl ?_
                    refine J.op (R.ixA ar50 (by omega) (by omega)) ?_ -- @t115 ix t114 t113
                    refine J.gopT rfl ?_
                    refine J.op (R.ld o3 (by with_reducible repeat (first | exact Pick.here | apply Pick.there)) (Cfg.cells_fall (i := k2 - 1) (by first | (simp; done) | (simp; omega)) (by omega))) ?_ -- @t116 vS (Instr.loadAt 3 t115)
                    refine J.gopT rfl ?_
                    refine J.op R.leq ?_ -- @t117 binS .leq 3 (.tmp 111) (.tmp 116) t111 t116
                    refine J.gopT rfl ?_
                    refine J.op R.pickT ?_ -- @t118 pickS t107 t117 (.bool false)
                    refine J.op R.pickF ?_ -- @t119 pickS t103 (.bool true) t118
                    exact J.done ⟨rfl, by (first | (simp_all [fallG]; done) | (simp_all [fallG]; omega)), Imp.take (by (try dsimp only); repeat (first | exact Has.nil | refine Has.cons (by repeat (first | (with_reducible exact Out.here) | ((with_reducible refine Out.cells ?_); first | rfl | (simp; done)) | ((with_reducible refine Out.row ?_); first | rfl | (simp; done)) | (with_reducible apply Out.there))) ?_))⟩ -- @leaf[t119]
                  · skip
                    refine J.gopT rfl ?_
                    refine J.op R.pure ?_
                    refine J.gopF rfl ?_
                    refine J.gopF rfl ?_
                    refine J.gopF rfl ?_
                    refine J.gopF rfl ?_
                    refine J.gopF rfl ?_
                    refine J.gopF rfl ?_
                    refine J.gopF rfl ?_
                    refine J.gopF rfl ?_
                    refine J.gopF rfl ?_
                    refine J.gopF rfl ?_
                    refine J.gopT rfl ?_
                    refine J.op R.pickF ?_ -- @t118 pickS t107 t117 (.bool false)
                    refine J.op R.pickF ?_ -- @t119 pickS t103 (.bool true) t118
                    exact J.done ⟨rfl, by (first | (simp_all [fallG]; done) | (simp_all [fallG]; omega)), Imp.take (by (try dsimp only); repeat (first | exact Has.nil | refine Has.cons (by repeat (first | (with_reducible exact Out.here) | ((with_reducible refine Out.cells ?_); first | rfl | (simp; done)) | ((with_reducible refine Out.row ?_); first | rfl | (simp; done)) | (with_reducible apply Out.there))) ?_))⟩ -- @leaf[t119]
                · skip
                  refine J.op (v := .bool true) R.not ?_
                  refine J.gopF rfl ?_
                  refine J.gopF rfl ?_
                  refine J.gopF rfl ?_
                  refine J.gopF rfl ?_
                  refine J.gopF rfl ?_
                  refine J.gopF rfl ?_
                  refine J.gopF rfl ?_
                  refine J.gopF rfl ?_
                  refine J.gopF rfl ?_
                  refine J.gopF rfl ?_
                  refine J.gopF rfl ?_
                  refine J.gopF rfl ?_
                  refine J.gopF rfl ?_
                  refine J.gopF rfl ?_
                  refine J.op R.pickT ?_ -- @t119 pickS t103 (.bool true) t118
                  exact J.done ⟨rfl, by (first | (simp_all [fallG]; done) | (simp_all [fallG]; omega)), Imp.take (by (try dsimp only); repeat (first | exact Has.nil | refine Has.cons (by repeat (first | (with_reducible exact Out.here) | ((with_reducible refine Out.cells ?_); first | rfl | (simp; done)) | ((with_reducible refine Out.row ?_); first | rfl | (simp; done)) | (with_reducible apply Out.there))) ?_))⟩ -- @leaf[t119]
              · skip
                refine J.iteT ?_
                -- @ret[(.int.i649),(.int.i640)]#3
                exact J.done (RetQ.ge (.tmp (.tmp (.nil))) (by rw [cfgFault_rest ht14 hall htz]; first | (simp_all [restF, ticksB, maxP, mkRes]; done) | (simp_all [restF, falls_no (by omega) hbtv_7, ticksB, maxP, mkRes]; done)))
              · skip
                refine J.iteF ?_
                refine J.done ?_ -- then tv_8 = [(tx_2.headD undef), (tx_2.tail.headD undef)]
                refine J.op (R.add64 (by omega)) ?_ -- @t97 binS .add 3 (.tmp 96) (.const (.int .i64 1)) (tx_2.tail.tail.headD undef) (.int .i64 1)
                -- @again[(tv_8.headDundef),(tv_8.tail.headDundef),t97]
                refine J.done ⟨k2 + 1, ⟨by omega, fun j hj => ?_⟩, rfl, Imp.take (by (try dsimp only); repeat (first | exact Has.nil | refine Has.cons (by repeat (first | (with_reducible exact Out.here) | ((with_reducible refine Out.cells ?_); first | rfl | (simp; done)) | ((with_reducible refine Out.row ?_); first | rfl | (simp; done)) | (with_reducible apply Out.there))) ?_)), by omega⟩
                rcases Nat.lt_succ_iff_lt_or_eq.1 hj with hj | rfl
                · exact hall3 j hj
                · exact Classical.not_not.1 hbtv_7
            · skip
              refine J.iteF ?_
              refine J.done ⟨fun _ => ?_, fun h => absurd rfl h⟩ -- exit [(tx_2.headD undef), (tx_2.tail.headD undef)]
              refine J.bind ?_ -- @tv_10 bind tv_10 ([131])
              refine J.op fa53_4 ?_
              refine J.op ia51_0 ?_
              refine J.op (R.ld o2 (by with_reducible repeat (first | exact Pick.here | apply Pick.there)) rfl) ?_ -- @t122 vS (Instr.loadAt 2 t121)
              obtain rfl : k2 = 3 := by omega
              have hfy := falls_iff.2 hall3
              refine J.callEB en90 (s90 _) rfl (fun _ _ _ => trivial) (fun ht123 => ?_) (fun ht123 => ?_) -- @t123 callS (.func (.func 90) #[] #[]) [t122]
              · skip
                refine J.op (v := .bool false) R.not ?_
                refine J.gopT rfl ?_
                refine J.op fa53_4 ?_
                refine J.gopT rfl ?_
                refine J.op ia51_1 ?_
                refine J.gopT rfl ?_
                refine J.op (R.ld o2 (by with_reducible repeat (first | exact Pick.here | apply Pick.there)) rfl) ?_ -- @t128 vS (Instr.loadAt 2 t127)
                refine J.gopT rfl ?_
                refine J.callE en90 (s90 _) rfl (fun _ _ _ => trivial) ?_ -- @t129 callS (.func (.func 90) #[] #[]) [t128]
                refine J.gopT rfl ?_
                refine J.op R.not ?_ -- @t130 vS (Op.unary .not t129)
                refine J.op R.pickF ?_ -- @t131 pickS t124 (.bool true) t130
                refine J.done ?_ -- then tv_10 = [t131]
                refine J.iteB (fun hctv_10headDundef => ?_) (fun hctv_10headDundef => ?_) -- ite (tv_10.headD undef)
                · try simp only [List.headD_cons, List.tail_cons, decide_eq_true_eq] at hctv_10headDundef
                  -- @ret[(.int.i649),(.int.i640)]#4
                  exact J.done (RetQ.ge (.tmp (.tmp (.nil))) (by rw [cfgFault_rest ht14 hall htz]; first | (simp_all [restF, ticksB, maxP, mkRes]; done) | (simp_all [restF, falls_no (by omega) hbtv_7, ticksB, maxP, mkRes]; done)))
                · try simp only [List.headD_cons, List.tail_cons, decide_eq_false_iff_not] at hctv_10headDundef
                  -- @ret[(.int.i640),(.int.i640)]
                  exact J.done (RetQ.ge (.tmp (.tmp (.nil))) (by rw [cfgFault_rest ht14 hall htz]; first | (simp_all [restF, ticksB, maxP, mkRes]; done) | (simp_all [restF, falls_no (by omega) hbtv_7, ticksB, maxP, mkRes]; done)))
              · skip
                refine J.op (v := .bool true) R.not ?_
                refine J.gopF rfl ?_
                refine J.gopF rfl ?_
                refine J.gopF rfl ?_
                refine J.gopF rfl ?_
                refine J.gopF rfl ?_
                refine J.op R.pickT ?_ -- @t131 pickS t124 (.bool true) t130
                refine J.done ?_ -- then tv_10 = [t131]
                refine J.iteT ?_
                -- @ret[(.int.i649),(.int.i640)]#5
                exact J.done (RetQ.ge (.tmp (.tmp (.nil))) (by rw [cfgFault_rest ht14 hall htz]; first | (simp_all [restF, ticksB, maxP, mkRes]; done) | (simp_all [restF, falls_no (by omega) hbtv_7, ticksB, maxP, mkRes]; done)))
          · skip
            refine J.op (v := .bool true) R.not ?_
            refine J.iteT ?_
            -- @ret[(.int.i649),(.int.i640)]#6
            exact J.done (RetQ.ge (.tmp (.tmp (.nil))) (by rw [cfgFault_rest ht14 hall htz]; first | (simp_all [restF, ticksB, maxP, mkRes]; done) | (simp_all [restF, falls_no (by omega) hbtv_7, ticksB, maxP, mkRes]; done)))

/-- damper/damperlaw07.Light -/
theorem s22 (x y : Value) (c : Cfg) :
    FnE Try.prog 22 [.agg (c.cells x y).toArray] (c.at x y) (.bool (lightC c)) := by
  refine fn_of_J (cx := cx22) hmix Try.func22 (by kernel_rfl) (eq22 _) fun w hw => ?_
  have hX : ∀ H, SeeS ⟨Try.prog, w, footOf []⟩ H x 16 (syms c.syms) := fun H => SeeS.ofW0 hw.1 syms_ne
  have hY : ∀ H, SeeS ⟨Try.prog, w, footOf []⟩ H y 2 (trows c.rows) := fun H => SeeS.ofW0 hw.2 trows_ne
  have hm := hw.1.le
  simp only [syms_len, maxLen] at hm
  have hm2 := hw.2.le
  simp only [trows_len, maxLen] at hm2
  refine J.boxA fun bt1 => ?_
  refine J.bind ?_ -- @tv bind tv ([2])
  refine J.op fa53_0 ?_
  refine J.op (R.ld o48 (by with_reducible repeat (first | exact Pick.here | apply Pick.there)) rfl) ?_ -- @t4 vS (Instr.loadAt 48 t3)
  refine J.op (R.lenN sl48 (hX _) syms_len) ?_ -- @t5 bltS .len #[48] 3 #[false] [t4]
  refine J.opD R.leq (fun ht6 => ?_) (fun ht6 => ?_) -- @t6 binS .leq 3 (.tmp 5) (.const (.int .i64 20)) t5 (.int .i64 20)
  · skip
    refine J.gopT rfl ?_
    refine J.op fa53_1 ?_
    refine J.gopT rfl ?_
    refine J.op (R.ld o49 (by with_reducible repeat (first | exact Pick.here | apply Pick.there)) rfl) ?_ -- @t9 vS (Instr.loadAt 49 t8)
    refine J.gopT rfl ?_
    refine J.op (R.lenN sl49 (hY _) trows_len) ?_ -- @t10 bltS .len #[49] 3 #[false] [t9]
    refine J.gopT rfl ?_
    refine J.op R.leq ?_ -- @t11 binS .leq 3 (.tmp 10) (.const (.int .i64 40)) t10 (.int .i64 40)
    refine J.op R.pickT ?_ -- @t12 pickS t6 t11 (.bool false)
    refine J.done ?_ -- then tv = [t12]
    -- @ret[(tv.headDundef)]
    exact J.done (RetQ.ge (.tmp (.nil)) (by simp only [mkRes, lightC, Value.bool.injEq, List.headD_cons]; first | (rw [decide_eq_true (show c.syms.length ≤ 20 by omega), Bool.true_and]; exact decide_eq_decide.2 (by omega)) | (rw [decide_eq_false (show ¬ c.syms.length ≤ 20 by omega)]; rfl)))
  · skip
    refine J.gopF rfl ?_
    refine J.gopF rfl ?_
    refine J.gopF rfl ?_
    refine J.gopF rfl ?_
    refine J.op R.pickF ?_ -- @t12 pickS t6 t11 (.bool false)
    refine J.done ?_ -- then tv = [t12]
    -- @ret[(tv.headDundef)]
    exact J.done (RetQ.ge (.tmp (.nil)) (by simp only [mkRes, lightC, Value.bool.injEq, List.headD_cons]; first | (rw [decide_eq_true (show c.syms.length ≤ 20 by omega), Bool.true_and]; exact decide_eq_decide.2 (by omega)) | (rw [decide_eq_false (show ¬ c.syms.length ≤ 20 by omega)]; rfl)))
end Go.Proofs.Ytipgdalebkhgpaa
