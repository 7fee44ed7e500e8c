/-
  Contracts of functions.
-/
import Derived.Test.YtipgdalebkhgpaaTerms1
import Derived.Test.YtipgdalebkhgpaaTerms2
import Derived.Test.YtipgdalebkhgpaaTab
import Derived.Test.YtipgdalebkhgpaaO3
set_option maxRecDepth 100000
set_option maxHeartbeats 4000000
set_option linter.unusedVariables false
set_option linter.unusedSimpArgs false
namespace Go.Proofs.Ytipgdalebkhgpaa
open Go Go.RowKit Fw
/-- damper/damperref03.Num -/
theorem s166 (x : Nat) (hx : x ≤ 4611686018427387904) :
    FnT Try.prog 166 [.int .u64 ((x : Nat) : Int)] (fun _ => True) [] (fun v es => ∃ a n c, v = .slice a n c ∧ es = [Ent.row (.slice a n c) 1 (u8s (numB x)) 5]) := by
  refine fn_of_J (cx := cx166) hmix Try.func166 (by kernel_rfl) (eq166 _) fun w hw => ?_
  refine J.bind ?_ -- @tv_1 bind tv_1 ([3, 0])
  refine J.block ?_
  -- @tx loop [(.slice none 0 0), a0]
  refine J.nilRow (sz := 1) (E := 5) ?_
  refine J.loop (α := Nat × Nat × List Nat × Option Addr × Nat × Nat) (fun (f, y, m, _) => m ++ numF f y = numB x ∧ y < 128 ^ (f + 1) ∧ m.length + f ≤ 10 ∧ y ≤ x) (fun (_, y, _, a, n, c) => [.slice a n c, .int .u64 ((y : Nat) : Int)]) (fun (_, _, m, a, n, c) => [Ent.row (.slice a n c) 1 (u8s (m)) 5]) (fun (f, _) => f) (10, x, [], none, 0, 0) ⟨rfl, by show x < 128 ^ 11; omega, Nat.le_refl _, Nat.le_refl _⟩ rfl (Imp.refl _) ?_
  rintro ⟨f, y, m, a, n, c⟩ ⟨h1, h2, h3, h4⟩
  dsimp only at h1 h2 h3 h4 ⊢
  try simp only [List.headD_cons, List.tail_cons]
  refine J.opD R.gtr (fun ht5 => ?_) (fun ht5 => ?_) -- @t5 binS .gtr 54 (.tmp 4) (.const (.int .u64 127)) (tx.tail.headD undef) (.int .u64 127)
  · skip
    refine J.iteT ?_
    refine J.bind ?_ -- @tv bind tv ([3, 0])
    refine J.block ?_
    obtain ⟨g, rfl, h5, h6⟩ := num_step h1 h2 (by omega)
    have hdq : y / 128 ≤ y := Nat.div_le_self y 128
    refine J.op (R.asI ((R.rem (by omega))) (v := ((y % 128 : Nat) : Int)) (Int.tmod_eq_emod_of_nonneg (by omega))) ?_ -- @t8 binS .rem 54 (.tmp 7) (.const (.int .u64 128)) (tx.tail.headD undef) (.int .u64 128)
    refine J.op (R.asI (R.addU (n := 128)) (v := ((y % 128 + 128 : Nat) : Int)) (congrArg _ (by omega))) ?_ -- @t9 binS .add 54 (.tmp 8) (.const (.int .u64 128)) t8 (.int .u64 128)
    refine J.op (R.asI (cv54_5) (v := ((y % 128 + 128 : Nat) : Int)) (by rw [wrap8]; omega)) ?_ -- @t10 vS (convert 54 5 t9)
    refine J.bsR (els := u8s [y % 128 + 128]) bs130_1 rfl u8s_cell rfl (by decide) fun bt11 => ?_ -- @t11 vS (Instr.buildSlice 130 1 #[(0, t10)])
    simp only [List.headD_cons, List.tail_cons]
    refine J.append sl130 (by with_reducible repeat (first | exact Pick.here | apply Pick.there)) (SeeS.row (E := 5) (by with_reducible repeat (first | exact Pick.here | apply Pick.there))) u8s_one (by simp only [u8s_len, List.length_append, List.length_cons, List.length_nil]; omega) (by simp only [maxLen, u8s_len, List.length_append, List.length_cons, List.length_nil]; omega) fun at12 nt12 ct12 => ?_
    rw [u8s_app] -- @t12 bltS .append #[130, 130] 130 #[false, false] [(tx.headD undef), t11]
    refine J.op (R.asI ((R.quo (by omega))) (v := ((y / 128 : Nat) : Int)) (by rw [Int.tdiv_eq_ediv_of_nonneg (by omega), w64 (by omega)]; omega)) ?_ -- @t14 binS .quo 54 (.tmp 13) (.const (.int .u64 128)) (tx.tail.headD undef) (.int .u64 128)
    refine J.done ?_ -- then tv = [t12, t14]
    -- @again[(tv.headDundef),(tv.tail.headDundef)]
    exact J.done ⟨(g, y / 128, m ++ [y % 128 + 128], at12, nt12, ct12), ⟨h5, h6, by simp only [List.length_append, List.length_cons, List.length_nil]; omega, by dsimp only; omega⟩, rfl, Imp.take (by (try dsimp only); repeat (first | exact Has.nil | refine Has.cons (by repeat (first | (with_reducible exact Out.here) | ((with_reducible refine Out.cells ?_); first | rfl | (simp; done)) | ((with_reducible refine Out.row ?_); first | rfl | (simp; done)) | (with_reducible apply Out.there))) ?_)), Nat.lt_succ_self _⟩
  · skip
    refine J.iteF ?_
    refine J.done ⟨fun _ => ?_, fun h => absurd rfl h⟩ -- exit [(tx.headD undef), (tx.tail.headD undef)]
    have h5 := num_end h1 (by omega)
    refine J.op (R.asI (cv54_5) (v := ((y : Nat) : Int)) (by rw [wrap8]; omega)) ?_ -- @t17 vS (convert 54 5 (tv_1.tail.headD undef))
    refine J.bsR (els := u8s [y]) bs130_1 rfl u8s_cell rfl (by decide) fun bt18 => ?_ -- @t18 vS (Instr.buildSlice 130 1 #[(0, t17)])
    simp only [List.headD_cons, List.tail_cons]
    refine J.append sl130 (by with_reducible repeat (first | exact Pick.here | apply Pick.there)) (SeeS.row (E := 5) (by with_reducible repeat (first | exact Pick.here | apply Pick.there))) u8s_one (by simp only [u8s_len, List.length_append, List.length_cons, List.length_nil]; omega) (by simp only [maxLen, u8s_len, List.length_append, List.length_cons, List.length_nil]; omega) fun at19 nt19 ct19 => ?_
    rw [u8s_app] -- @t19 bltS .append #[130, 130] 130 #[false, false] [(tv_1.headD undef), t18]
    -- @ret[t19]
    refine J.done (RetQ.gt (es := [Ent.row (.slice at19 nt19 ct19) 1 (u8s (m ++ [y])) 5]) (.tmp (.nil)) ?_ ?_)
    · exact (by (try dsimp only); repeat (first | exact Has.nil | refine Has.cons (by repeat (first | (with_reducible exact Out.here) | ((with_reducible refine Out.cells ?_); first | rfl | (simp; done)) | ((with_reducible refine Out.row ?_); first | rfl | (simp; done)) | (with_reducible apply Out.there))) ?_))
    · exact ⟨_, _, _, rfl, by rw [h5]⟩

/-- damper/damperref03.turned -/
theorem s178 (x : Int) (hx : 0 ≤ x ∧ x ≤ 1099511627776) :
    FnE Try.prog 178 [.int .i64 x] (fun _ => True) (.int .u64 ((2 * x.toNat : Nat) : Int)) := by
  refine fn_of_J (cx := cx178) hmix Try.func178 (by kernel_rfl) (eq178 _) fun w hw => ?_
  refine J.opDT R.geq (by omega) ?_ -- @t4
  refine J.iteT ?_
  refine J.op (R.asI (cv2_54) (v := ((x.toNat : Nat) : Int)) (w64 (by omega))) ?_ -- @t6 vS (convert 2 54 a0)
  refine J.op (R.asI (R.mulU (m := 2)) (v := ((2 * x.toNat : Nat) : Int)) (congrArg _ (by omega))) ?_ -- @t7 binS .mul 54 (.const (.int .u64 2)) (.tmp 6) (.int .u64 2) t6
  -- @ret[t7]
  exact J.done (RetQ.ge (.tmp (.nil)) (rfl))

/-- damper/damperref03.Uint -/
theorem s177 (x : Nat) (hx : x < 18446744073709551616) :
    FnT Try.prog 177 [.int .u64 ((x : Nat) : Int), .int .i64 8] (fun _ => True) [] (fun v es => ∃ a n c, v = .slice a n c ∧ es = [Ent.row (.slice a n c) 1 (u8s (beB x 8)) 5]) := by
  refine fn_of_J (cx := cx177) hmix Try.func177 (by kernel_rfl) (eq177 _ _) fun w hw => ?_
  refine J.bind ?_ -- @tv bind tv ([12])
  refine J.opDF R.lss (by omega) ?_ -- @t8
  refine J.gopT rfl ?_
  refine J.op R.pure ?_
  refine J.gopT rfl ?_
  refine J.opDF R.gtr (by omega) ?_ -- @t11
  refine J.op R.pickF ?_ -- @t12 pickS t8 (.bool true) t11
  refine J.done ?_ -- then tv = [t12]
  refine J.iteF ?_
  refine J.bind ?_ -- @tv_2 bind tv_2 ([5])
  refine J.block ?_
  -- @tx loop [(.slice none 0 0), a0, (.int .i64 0)]
  refine J.nilRow (sz := 1) (E := 5) ?_
  refine J.loop (α := Nat × Option Addr × Nat × Nat) (fun (i, _) => i ≤ 8) (fun (i, a, n, c) => [.slice a n c, .int .u64 ((x / 256 ^ i : Nat) : Int), .int .i64 ((i : Nat) : Int)]) (fun (i, a, n, c) => [Ent.row (.slice a n c) 1 (u8s (beB x i)) 5]) (fun (i, _) => 8 - i) (0, none, 0, 0) (Nat.zero_le _) (by simp) (Imp.refl _) ?_
  rintro ⟨i, a, n, c⟩ hi
  dsimp only at hi ⊢
  have hle : x / 256 ^ i ≤ x := Nat.div_le_self _ _
  obtain ⟨q, hq⟩ : ∃ q, q = x / 256 ^ i := ⟨_, rfl⟩
  rw [← hq] at hle ⊢
  try simp only [List.headD_cons, List.tail_cons]
  refine J.opD R.lss (fun ht15 => ?_) (fun ht15 => ?_) -- @t15 binS .lss 3 (.tmp 13) (.tmp 14) (tx.tail.tail.headD undef) a1
  · skip
    refine J.iteT ?_
    refine J.bind ?_ -- @tv_1 bind tv_1 ([5, 0])
    refine J.block ?_
    refine J.op (R.asI ((R.rem (by omega))) (v := ((q % 256 : Nat) : Int)) (Int.tmod_eq_emod_of_nonneg (by omega))) ?_ -- @t19 binS .rem 54 (.tmp 18) (.const (.int .u64 256)) (tx.tail.headD undef) (.int .u64 256)
    refine J.op (R.asI (cv54_5) (v := ((q % 256 : Nat) : Int)) (by rw [wrap8]; omega)) ?_ -- @t20 vS (convert 54 5 t19)
    refine J.bsR (els := u8s [q % 256]) bs130_1 rfl u8s_cell rfl (by decide) fun bt21 => ?_ -- @t21 vS (Instr.buildSlice 130 1 #[(0, t20)])
    simp only [List.headD_cons, List.tail_cons]
    refine J.append sl130 (by with_reducible repeat (first | exact Pick.here | apply Pick.there)) (SeeS.row (E := 5) (by with_reducible repeat (first | exact Pick.here | apply Pick.there))) u8s_one (by simp only [u8s_len, beB_len, List.length_cons, List.length_nil]; omega) (by simp only [maxLen, u8s_len, beB_len, List.length_cons, List.length_nil]; omega) fun at23 nt23 ct23 => ?_
    rw [u8s_app] -- @t23 bltS .append #[130, 130] 130 #[false, false] [t21, (tx.headD undef)]
    refine J.op (R.asI ((R.quo (by omega))) (v := ((q / 256 : Nat) : Int)) (by rw [Int.tdiv_eq_ediv_of_nonneg (by omega), w64 (by omega)]; omega)) ?_ -- @t25 binS .quo 54 (.tmp 24) (.const (.int .u64 256)) (tx.tail.headD undef) (.int .u64 256)
    refine J.done ?_ -- then tv_1 = [t23, t25]
    refine J.op (R.add64 (by omega)) ?_ -- @t17 binS .add 3 (.tmp 16) (.const (.int .i64 1)) (tx.tail.tail.headD undef) (.int .i64 1)
    -- @again[(tv_1.headDundef),(tv_1.tail.headDundef),t17]
    exact J.done ⟨(i + 1, at23, nt23, ct23), by dsimp only; omega, by simp only [hq, be_quo]; rfl, by rw [show beB x (i + 1) = [q % 256] ++ beB x i by rw [hq]; rfl]; exact Imp.take (es := [Ent.row (.slice at23 nt23 ct23) 1 (u8s ([q % 256] ++ beB x i)) 5]) (by (try dsimp only); repeat (first | exact Has.nil | refine Has.cons (by repeat (first | (with_reducible exact Out.here) | ((with_reducible refine Out.cells ?_); first | rfl | (simp; done)) | ((with_reducible refine Out.row ?_); first | rfl | (simp; done)) | (with_reducible apply Out.there))) ?_)), by dsimp only; omega⟩
  · skip
    refine J.iteF ?_
    refine J.done ⟨fun _ => ?_, fun h => absurd rfl h⟩ -- exit [(tx.headD undef)]
    -- @ret[(tv_2.headDundef)]
    obtain rfl : i = 8 := by omega
    exact J.done (RetQ.gt (es := [Ent.row (.slice a n c) 1 (u8s (beB x 8)) 5]) (.tmp .nil) (by (try dsimp only); repeat (first | exact Has.nil | refine Has.cons (by repeat (first | (with_reducible exact Out.here) | ((with_reducible refine Out.cells ?_); first | rfl | (simp; done)) | ((with_reducible refine Out.row ?_); first | rfl | (simp; done)) | (with_reducible apply Out.there))) ?_)) ⟨a, n, c, rfl, rfl⟩)

/-- damper/damperref03.Int -/
theorem s167 (x : Int) (hx : 0 ≤ x ∧ x ≤ 1099511627776) :
    FnT Try.prog 167 [.int .i64 x] (fun _ => True) [] (fun v es => ∃ a n c, v = .slice a n c ∧ es = [Ent.row (.slice a n c) 1 (u8s (beB (2 * x.toNat) 8)) 5]) := by
  refine fn_of_J (cx := cx167) hmix Try.func167 (by kernel_rfl) (eq167 _) fun w hw => ?_
  refine J.callE en178 (s178 x hx) rfl (fun _ _ _ => trivial) ?_ -- @t4 callS (.func (.func 178) #[] #[]) [a0]
  refine J.callT en177 (s177 (2 * x.toNat) (by omega)) rfl (fun _ _ _ => trivial) Take.nil (fun v es ht5 => ?_)
  obtain ⟨at5, nt5, ct5, rfl, rfl⟩ := ht5
  simp only [List.cons_append, List.nil_append] -- @t5 callS (.func (.func 177) #[] #[]) [t4, (.int .i64 8)]
  -- @ret[t5]
  refine J.done (RetQ.gt (es := [Ent.row (.slice at5 nt5 ct5) 1 (u8s (beB (2 * x.toNat) 8)) 5]) (.tmp (.nil)) ?_ ?_)
  · exact (by (try dsimp only); repeat (first | exact Has.nil | refine Has.cons (by repeat (first | (with_reducible exact Out.here) | ((with_reducible refine Out.cells ?_); first | rfl | (simp; done)) | ((with_reducible refine Out.row ?_); first | rfl | (simp; done)) | (with_reducible apply Out.there))) ?_))
  · exact ⟨_, _, _, rfl, rfl⟩

/-- damper/damperref05.form -/
theorem s134 (c : Cmd) (hc : CmdOk c) :
    FnT Try.prog 134 [.agg c.cells.toArray] (fun _ => True) [] (fun v es => ∃ a n cc, v = .slice a n cc ∧ es = [Ent.row (.slice a n cc) 1 (u8s (cmdB c)) 5]) := by
  refine fn_of_J (cx := cx134) hmix Try.func134 (by kernel_rfl) (eq134 _) fun w hw => ?_
  have h1 := hc.kind
  have h2 := hc.sym
  have h3 := hc.id_
  have h4 := hc.owner
  have h5 := hc.side
  have h6 := hc.typ
  have h7 := hc.flags
  have h8 := hc.price
  have h9 := hc.qty
  refine J.boxA fun bt1 => ?_
  refine J.op fa62_0 ?_
  refine J.op (R.ld o3 (by with_reducible repeat (first | exact Pick.here | apply Pick.there)) rfl) ?_ -- @t5 vS (Instr.loadAt 3 t4)
  refine J.op (R.asI (cv3_5) (v := ((c.kind.toNat : Nat) : Int)) (w8 (by omega))) ?_ -- @t6 vS (convert 3 5 t5)
  refine J.op fa62_1 ?_
  refine J.op (R.ld o3 (by with_reducible repeat (first | exact Pick.here | apply Pick.there)) rfl) ?_ -- @t8 vS (Instr.loadAt 3 t7)
  refine J.op (R.asI (cv3_5) (v := ((c.sym.toNat : Nat) : Int)) (w8 (by omega))) ?_ -- @t9 vS (convert 3 5 t8)
  refine J.bsR (els := u8s [c.kind.toNat, c.sym.toNat]) bs130_2 rfl u8s_cell rfl (by decide) fun bt10 => ?_ -- @t10 vS (Instr.buildSlice 130 2 #[(0, t6), (1, t9)])
  refine J.op fa62_2 ?_
  refine J.op (R.ld o2 (by with_reducible repeat (first | exact Pick.here | apply Pick.there)) rfl) ?_ -- @t13 vS (Instr.loadAt 2 t12)
  refine J.op (R.asI (cv2_54) (v := ((c.id_.toNat : Nat) : Int)) (w64 (by omega))) ?_ -- @t14 vS (convert 2 54 t13)
  refine J.callT en166 (s166 c.id_.toNat (by omega)) rfl (fun _ _ _ => trivial) Take.nil (fun v es ht15 => ?_)
  obtain ⟨at15, nt15, ct15, rfl, rfl⟩ := ht15
  simp only [List.cons_append, List.nil_append] -- @t15 callS (.func (.func 166) #[] #[]) [t14]
  refine J.append sl130 (by with_reducible repeat (first | exact Pick.here | apply Pick.there)) (SeeS.row (E := 5) (by with_reducible repeat (first | exact Pick.here | apply Pick.there))) u8s_one (by have n1 := numB_len (n := c.id_.toNat); have n2 := numB_len (n := c.owner.toNat); simp only [u8s_len, beB_len, List.length_append, List.length_cons, List.length_nil]; omega) (by have n1 := numB_len (n := c.id_.toNat); have n2 := numB_len (n := c.owner.toNat); simp only [maxLen, u8s_len, beB_len, List.length_append, List.length_cons, List.length_nil]; omega) fun at16 nt16 ct16 => ?_
  rw [u8s_app] -- @t16 bltS .append #[130, 130] 130 #[false, false] [t10, t15]
  refine J.op fa62_0 ?_
  refine J.op (R.ld o3 (by with_reducible repeat (first | exact Pick.here | apply Pick.there)) rfl) ?_ -- @t18 vS (Instr.loadAt 3 t17)
  refine J.opD R.eql (fun ht19 => ?_) (fun ht19 => ?_) -- @t19 binS .eql 3 (.tmp 18) (.const (.int .i64 1)) t18 (.int .i64 1)
  · skip
    refine J.bind ?_ -- @tv bind tv ([3])
    refine J.iteT ?_
    refine J.op fa62_3 ?_
    refine J.op (R.ld o3 (by with_reducible repeat (first | exact Pick.here | apply Pick.there)) rfl) ?_ -- @t22 vS (Instr.loadAt 3 t21)
    have h6 := h6 ht19
    refine J.op (R.asI (cv3_54) (v := ((c.owner.toNat : Nat) : Int)) (w64 (by omega))) ?_ -- @t23 vS (convert 3 54 t22)
    refine J.callT en166 (s166 c.owner.toNat (by omega)) rfl (fun _ _ _ => trivial) Take.nil (fun v es ht24 => ?_)
    obtain ⟨at24, nt24, ct24, rfl, rfl⟩ := ht24
    simp only [List.cons_append, List.nil_append] -- @t24 callS (.func (.func 166) #[] #[]) [t23]
    refine J.append sl130 (by with_reducible repeat (first | exact Pick.here | apply Pick.there)) (SeeS.row (E := 5) (by with_reducible repeat (first | exact Pick.here | apply Pick.there))) u8s_one (by have n1 := numB_len (n := c.id_.toNat); have n2 := numB_len (n := c.owner.toNat); simp only [u8s_len, beB_len, List.length_append, List.length_cons, List.length_nil]; omega) (by have n1 := numB_len (n := c.id_.toNat); have n2 := numB_len (n := c.owner.toNat); simp only [maxLen, u8s_len, beB_len, List.length_append, List.length_cons, List.length_nil]; omega) fun at25 nt25 ct25 => ?_
    rw [u8s_app] -- @t25 bltS .append #[130, 130] 130 #[false, false] [t16, t24]
    refine J.op fa62_4 ?_
    refine J.op (R.ld o3 (by with_reducible repeat (first | exact Pick.here | apply Pick.there)) rfl) ?_ -- @t28 vS (Instr.loadAt 3 t27)
    refine J.op (R.asI (cv3_5) (v := ((c.side.toNat : Nat) : Int)) (w8 (by omega))) ?_ -- @t29 vS (convert 3 5 t28)
    refine J.op fa62_5 ?_
    refine J.op (R.ld o3 (by with_reducible repeat (first | exact Pick.here | apply Pick.there)) rfl) ?_ -- @t31 vS (Instr.loadAt 3 t30)
    refine J.op (R.asI (cv3_5) (v := ((c.typ.toNat : Nat) : Int)) (w8 (by omega))) ?_ -- @t32 vS (convert 3 5 t31)
    refine J.op fa62_8 ?_
    refine J.op (R.ld o3 (by with_reducible repeat (first | exact Pick.here | apply Pick.there)) rfl) ?_ -- @t34 vS (Instr.loadAt 3 t33)
    refine J.op (R.asI (cv3_5) (v := ((c.flags.toNat : Nat) : Int)) (w8 (by omega))) ?_ -- @t35 vS (convert 3 5 t34)
    refine J.bsR (els := u8s [c.side.toNat, c.typ.toNat, c.flags.toNat]) bs130_3 rfl u8s_cell rfl (by decide) fun bt36 => ?_ -- @t36 vS (Instr.buildSlice 130 3 #[(0, t29), (1, t32), (2, t35)])
    refine J.append sl130 (by with_reducible repeat (first | exact Pick.here | apply Pick.there)) (SeeS.row (E := 5) (by with_reducible repeat (first | exact Pick.here | apply Pick.there))) u8s_one (by have n1 := numB_len (n := c.id_.toNat); have n2 := numB_len (n := c.owner.toNat); simp only [u8s_len, beB_len, List.length_append, List.length_cons, List.length_nil]; omega) (by have n1 := numB_len (n := c.id_.toNat); have n2 := numB_len (n := c.owner.toNat); simp only [maxLen, u8s_len, beB_len, List.length_append, List.length_cons, List.length_nil]; omega) fun at37 nt37 ct37 => ?_
    rw [u8s_app] -- @t37 bltS .append #[130, 130] 130 #[false, false] [t25, t36]
    refine J.done ?_ -- then tv = [t37]
    refine J.op fa62_0 ?_
    refine J.op (R.ld o3 (by with_reducible repeat (first | exact Pick.here | apply Pick.there)) rfl) ?_ -- @t39 vS (Instr.loadAt 3 t38)
    refine J.opDT R.neq (by omega) ?_ -- @t40
    refine J.bind ?_ -- @tv_1 bind tv_1 ([3])
    refine J.iteT ?_
    refine J.op fa62_6 ?_
    refine J.op (R.ld o2 (by with_reducible repeat (first | exact Pick.here | apply Pick.there)) rfl) ?_ -- @t43 vS (Instr.loadAt 2 t42)
    refine J.callT en167 (s167 c.price (by omega)) rfl (fun _ _ _ => trivial) Take.nil (fun v es ht44 => ?_)
    obtain ⟨at44, nt44, ct44, rfl, rfl⟩ := ht44
    simp only [List.cons_append, List.nil_append] -- @t44 callS (.func (.func 167) #[] #[]) [t43]
    simp only [List.headD_cons, List.tail_cons]
    refine J.append sl130 (by with_reducible repeat (first | exact Pick.here | apply Pick.there)) (SeeS.row (E := 5) (by with_reducible repeat (first | exact Pick.here | apply Pick.there))) u8s_one (by have n1 := numB_len (n := c.id_.toNat); have n2 := numB_len (n := c.owner.toNat); simp only [u8s_len, beB_len, List.length_append, List.length_cons, List.length_nil]; omega) (by have n1 := numB_len (n := c.id_.toNat); have n2 := numB_len (n := c.owner.toNat); simp only [maxLen, u8s_len, beB_len, List.length_append, List.length_cons, List.length_nil]; omega) fun at45 nt45 ct45 => ?_
    rw [u8s_app] -- @t45 bltS .append #[130, 130] 130 #[false, false] [(tv.headD undef), t44]
    refine J.op fa62_7 ?_
    refine J.op (R.ld o2 (by with_reducible repeat (first | exact Pick.here | apply Pick.there)) rfl) ?_ -- @t48 vS (Instr.loadAt 2 t47)
    refine J.callT en167 (s167 c.qty (by omega)) rfl (fun _ _ _ => trivial) Take.nil (fun v es ht49 => ?_)
    obtain ⟨at49, nt49, ct49, rfl, rfl⟩ := ht49
    simp only [List.cons_append, List.nil_append] -- @t49 callS (.func (.func 167) #[] #[]) [t48]
    refine J.append sl130 (by with_reducible repeat (first | exact Pick.here | apply Pick.there)) (SeeS.row (E := 5) (by with_reducible repeat (first | exact Pick.here | apply Pick.there))) u8s_one (by have n1 := numB_len (n := c.id_.toNat); have n2 := numB_len (n := c.owner.toNat); simp only [u8s_len, beB_len, List.length_append, List.length_cons, List.length_nil]; omega) (by have n1 := numB_len (n := c.id_.toNat); have n2 := numB_len (n := c.owner.toNat); simp only [maxLen, u8s_len, beB_len, List.length_append, List.length_cons, List.length_nil]; omega) fun at50 nt50 ct50 => ?_
    rw [u8s_app] -- @t50 bltS .append #[130, 130] 130 #[false, false] [t45, t49]
    refine J.done ?_ -- then tv_1 = [t50]
    -- @ret[(tv_1.headDundef)]
    refine J.done (RetQ.gt (es := [Ent.row (.slice at50 nt50 ct50) 1 (u8s (((((([c.kind.toNat, c.sym.toNat] ++ numB c.id_.toNat) ++ numB c.owner.toNat) ++ [c.side.toNat, c.typ.toNat, c.flags.toNat]) ++ beB (2 * c.price.toNat) 8) ++ beB (2 * c.qty.toNat) 8))) 5]) (.tmp (.nil)) ?_ ?_)
    · exact (by (try dsimp only); repeat (first | exact Has.nil | refine Has.cons (by repeat (first | (with_reducible exact Out.here) | ((with_reducible refine Out.cells ?_); first | rfl | (simp; done)) | ((with_reducible refine Out.row ?_); first | rfl | (simp; done)) | (with_reducible apply Out.there))) ?_))
    · exact ⟨_, _, _, rfl, by simp [cmdB, ht19]⟩
  · skip
    refine J.bind ?_ -- @tv bind tv ([3])
    refine J.iteF ?_
    refine J.done ?_ -- then tv = [t16]
    refine J.op fa62_0 ?_
    refine J.op (R.ld o3 (by with_reducible repeat (first | exact Pick.here | apply Pick.there)) rfl) ?_ -- @t39 vS (Instr.loadAt 3 t38)
    refine J.opDF R.neq (by omega) ?_ -- @t40#2
    refine J.bind ?_ -- @tv_1 bind tv_1 ([3])
    refine J.iteF ?_
    refine J.done ?_ -- then tv_1 = [(tv.headD undef)]
    -- @ret[(tv_1.headDundef)]#2
    refine J.done (RetQ.gt (es := [Ent.row (.slice at16 nt16 ct16) 1 (u8s (([c.kind.toNat, c.sym.toNat] ++ numB c.id_.toNat))) 5]) (.tmp (.nil)) ?_ ?_)
    · exact (by (try dsimp only); repeat (first | exact Has.nil | refine Has.cons (by repeat (first | (with_reducible exact Out.here) | ((with_reducible refine Out.cells ?_); first | rfl | (simp; done)) | ((with_reducible refine Out.row ?_); first | rfl | (simp; done)) | (with_reducible apply Out.there))) ?_))
    · exact ⟨_, _, _, rfl, by simp [cmdB, h1.resolve_left ht19]⟩

/-- damper/damperref05.Encode -/
theorem s92 (c : Cmd) (hc : CmdOk c) :
    FnT Try.prog 92 [.agg c.cells.toArray] (fun _ => True) [] (fun v es => ∃ a n cc, v = .tuple #[.slice a n cc, .int .i64 0] ∧ es = [Ent.row (.slice a n cc) 1 (u8s (cmdB c)) 5]) := by
  refine fn_of_J (cx := cx92) hmix Try.func92 (by kernel_rfl) (eq92 _) fun w hw => ?_
  refine J.boxA fun bt1 => ?_
  refine J.op (R.ldA ag62 (by with_reducible repeat (first | exact Pick.here | apply Pick.there)) rfl) ?_ -- @t4 vS (Instr.loadAt 62 t1)
  refine J.callE en133 (s133 c hc) rfl (fun _ _ _ => trivial) ?_ -- @t5 callS (.func (.func 133) #[] #[]) [t4]
  refine J.op (v := .bool false) R.not ?_
  refine J.iteF ?_
  refine J.op (R.ldA ag62 (by with_reducible repeat (first | exact Pick.here | apply Pick.there)) rfl) ?_ -- @t7 vS (Instr.loadAt 62 t1)
  refine J.callT en134 (s134 c hc) rfl (fun _ _ _ => trivial) Take.nil (fun v es ht8 => ?_)
  obtain ⟨at8, nt8, ct8, rfl, rfl⟩ := ht8
  simp only [List.cons_append, List.nil_append] -- @t8 callS (.func (.func 134) #[] #[]) [t7]
  -- @ret[t8,(.int.i640)]
  refine J.done (RetQ.gt (es := [Ent.row (.slice at8 nt8 ct8) 1 (u8s (cmdB c)) 5]) (.tmp (.tmp (.nil))) ?_ ?_)
  · exact (by (try dsimp only); repeat (first | exact Has.nil | refine Has.cons (by repeat (first | (with_reducible exact Out.here) | ((with_reducible refine Out.cells ?_); first | rfl | (simp; done)) | ((with_reducible refine Out.row ?_); first | rfl | (simp; done)) | (with_reducible apply Out.there))) ?_))
  · exact ⟨_, _, _, rfl, by rfl⟩

/-- damper/script.Of -/
theorem s65 (c : Cmd) (hc : CmdOk c) :
    FnT Try.prog 65 [.agg c.cells.toArray] (fun _ => True) [] (fun v es => ∃ a n cc, v = .tuple #[.agg (stpC ⟨1, 0, 0, cmdB c⟩ (.slice a n cc)).toArray, .int .i64 0] ∧ es = [Ent.row (.slice a n cc) 1 (u8s (cmdB c)) 5]) := by
  refine fn_of_J (cx := cx65) hmix Try.func65 (by kernel_rfl) (eq65 _) fun w hw => ?_
  refine J.boxA fun bt1 => ?_
  refine J.alloc z132 fun bt2 => ?_
  refine J.op (R.ldA ag62 (by with_reducible repeat (first | exact Pick.here | apply Pick.there)) rfl) ?_ -- @t7 vS (Instr.loadAt 62 t1)
  refine J.callT en91 (s91 c hc) rfl (fun _ _ _ => trivial) Take.nil (fun v es ht8 => ?_)
  obtain ⟨at8, nt8, ct8, rfl, rfl⟩ := ht8
  simp only [List.cons_append, List.nil_append] -- @t8 callS (.func (.func 91) #[] #[]) [t7]
  refine J.op (R.ext rfl) ?_ -- @t9 vS (Instr.extract t8 0)
  refine J.op (R.ext rfl) ?_ -- @t10 vS (Instr.extract t8 1)
  refine J.opDF R.neq (by omega) ?_ -- @t12
  refine J.iteF ?_
  refine J.op bd132_0_3 ?_ -- @t16 vS (Instr.build 132 #[(0, (.int .i64 1)), (3, t9)])
  refine J.stSA sz132 (by with_reducible repeat (first | exact Pick.here | apply Pick.there)) rfl (Nat.le_of_ble_eq_true rfl) rfl (cs' := stpC ⟨1, 0, 0, cmdB c⟩ (.slice at8 nt8 ct8)) rfl ?_ -- @tu_1 uS (Instr.storeAt 132 t2 t16)
  -- @ret[t2,t10]
  refine J.done (RetQ.gt (es := [Ent.row (.slice at8 nt8 ct8) 1 (u8s (cmdB c)) 5]) (.cellA ag132 (by with_reducible repeat (first | exact Pick.here | apply Pick.there)) rfl (.tmp (.nil))) ?_ ?_)
  · exact (by (try dsimp only); repeat (first | exact Has.nil | refine Has.cons (by repeat (first | (with_reducible exact Out.here) | ((with_reducible refine Out.cells ?_); first | rfl | (simp; done)) | ((with_reducible refine Out.row ?_); first | rfl | (simp; done)) | (with_reducible apply Out.there))) ?_))
  · exact ⟨_, _, _, rfl, by rfl⟩

/-- damper/damperref29.Of -/
theorem s66 (c : Cmd) (hc : CmdOk c) :
    FnT Try.prog 66 [.agg c.cells.toArray] (fun _ => True) [] (fun v es => ∃ a n cc, v = .tuple #[.agg (stpC ⟨1, 0, 0, cmdB c⟩ (.slice a n cc)).toArray, .int .i64 0] ∧ es = [Ent.row (.slice a n cc) 1 (u8s (cmdB c)) 5]) := by
  refine fn_of_J (cx := cx66) hmix Try.func66 (by kernel_rfl) (eq66 _) fun w hw => ?_
  refine J.boxA fun bt1 => ?_
  refine J.alloc z132 fun bt2 => ?_
  refine J.op (R.ldA ag62 (by with_reducible repeat (first | exact Pick.here | apply Pick.there)) rfl) ?_ -- @t7 vS (Instr.loadAt 62 t1)
  refine J.callT en92 (s92 c hc) rfl (fun _ _ _ => trivial) Take.nil (fun v es ht8 => ?_)
  obtain ⟨at8, nt8, ct8, rfl, rfl⟩ := ht8
  simp only [List.cons_append, List.nil_append] -- @t8 callS (.func (.func 92) #[] #[]) [t7]
  refine J.op (R.ext rfl) ?_ -- @t9 vS (Instr.extract t8 0)
  refine J.op (R.ext rfl) ?_ -- @t10 vS (Instr.extract t8 1)
  refine J.opDF R.neq (by omega) ?_ -- @t12
  refine J.iteF ?_
  refine J.op bd132_0_3 ?_ -- @t16 vS (Instr.build 132 #[(0, (.int .i64 1)), (3, t9)])
  refine J.stSA sz132 (by with_reducible repeat (first | exact Pick.here | apply Pick.there)) rfl (Nat.le_of_ble_eq_true rfl) rfl (cs' := stpC ⟨1, 0, 0, cmdB c⟩ (.slice at8 nt8 ct8)) rfl ?_ -- @tu_1 uS (Instr.storeAt 132 t2 t16)
  -- @ret[t2,(.int.i640)]
  refine J.done (RetQ.gt (es := [Ent.row (.slice at8 nt8 ct8) 1 (u8s (cmdB c)) 5]) (.cellA ag132 (by with_reducible repeat (first | exact Pick.here | apply Pick.there)) rfl (.tmp (.nil))) ?_ ?_)
  · exact (by (try dsimp only); repeat (first | exact Has.nil | refine Has.cons (by repeat (first | (with_reducible exact Out.here) | ((with_reducible refine Out.cells ?_); first | rfl | (simp; done)) | ((with_reducible refine Out.row ?_); first | rfl | (simp; done)) | (with_reducible apply Out.there))) ?_))
  · exact ⟨_, _, _, rfl, by rfl⟩
end Go.Proofs.Ytipgdalebkhgpaa
