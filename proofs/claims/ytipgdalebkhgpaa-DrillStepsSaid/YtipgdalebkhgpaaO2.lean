/-
  Contracts of functions.
-/
import Derived.Test.YtipgdalebkhgpaaTerms1
import Derived.Test.YtipgdalebkhgpaaTerms2
import Derived.Test.YtipgdalebkhgpaaTab
import Derived.Test.YtipgdalebkhgpaaModOct
import Derived.Test.YtipgdalebkhgpaaO1
import Derived.Test.YtipgdalebkhgpaaG1
import Derived.Test.YtipgdalebkhgpaaV1
set_option maxRecDepth 100000
set_option maxHeartbeats 4000000
set_option linter.unusedVariables false
set_option linter.unusedSimpArgs false
namespace Go.Proofs.Ytipgdalebkhgpaa
open Go Go.RowKit Fw
/-- (*damper/octets.Writer).Raw -/
theorem s129 (b : Nat) (a : Option Addr) (n c : Nat) (l : List Nat) (av : Option Addr) (nv cv : Nat) (m : List Nat) (hl : l.length + m.length ≤ 1000) :
    FnT Try.prog 129 [.pointer (some ⟨b, 0, none⟩), .slice av nv cv] (fun _ => True) [Ent.cells b [.slice a n c] 193, Ent.row (.slice a n c) 1 (u8s (l)) 5, Ent.row (.slice av nv cv) 1 (u8s (m)) 5] (fun v es => ∃ a2 n2 c2, v = .pointer (some ⟨b, 0, none⟩) ∧ es = [Ent.cells b [.slice a2 n2 c2] 193, Ent.row (.slice a2 n2 c2) 1 (u8s (l ++ m)) 5]) := by
  refine fn_of_J (cx := cx129) hmix Try.func129 (by kernel_rfl) (eq129 _ _) fun w hw => ?_
  refine J.opBT (R.notNil pt191) (by rfl) ?_ -- @t6
  refine J.bind ?_ -- @tv bind tv ([])
  refine J.iteT ?_
  refine J.op R.nil ?_ -- @t9 nilS a0
  refine J.op fa193_0 ?_
  refine J.op (R.ld o130 (by with_reducible repeat (first | exact Pick.here | apply Pick.there)) rfl) ?_ -- @t11 vS (Instr.loadAt 130 t10)
  refine J.append sl130 (by with_reducible repeat (first | exact Pick.here | apply Pick.there)) (SeeS.row (E := 5) (by with_reducible repeat (first | exact Pick.here | apply Pick.there))) u8s_one (by simp only [u8s_len, List.length_append, List.length_cons, List.length_nil]; omega) (by simp only [maxLen, u8s_len, List.length_append, List.length_cons, List.length_nil]; omega) fun at13 nt13 ct13 => ?_
  rw [u8s_app] -- @t13 bltS .append #[130, 130] 130 #[false, false] [t11, a1]
  refine J.op R.nil ?_ -- @t14 nilS a0
  refine J.op fa193_0 ?_
  refine J.st sz130 (by with_reducible repeat (first | exact Pick.here | apply Pick.there)) (by repeat (first | exact .zero | exact .nil | apply Upd.succ | apply UpdN.cons)) rfl ?_ -- @tu uS (Instr.storeAt 130 t15 t13)
  refine J.done ?_ -- then tv = []
  -- @ret[a0]
  refine J.done (RetQ.gt (es := [Ent.cells b [.slice at13 nt13 ct13] 193, Ent.row (.slice at13 nt13 ct13) 1 (u8s (l ++ m)) 5]) (.tmp (.nil)) ?_ ?_)
  · exact (by (try dsimp only); repeat (first | exact Has.nil | refine Has.cons (by repeat (first | (with_reducible exact Out.here) | ((with_reducible refine Out.cells ?_); first | rfl | (simp; done)) | ((with_reducible refine Out.row ?_); first | rfl | (simp; done)) | (with_reducible apply Out.there))) ?_))
  · exact ⟨_, _, _, rfl, rfl⟩

/-- (*damper/octets.Writer).Num -/
theorem s130 (b : Nat) (a : Option Addr) (n c : Nat) (l : List Nat) (x : Nat) (hx : x ≤ 4611686018427387904) (hl : l.length ≤ 900) :
    FnT Try.prog 130 [.pointer (some ⟨b, 0, none⟩), .int .u64 ((x : Nat) : Int)] (fun _ => True) [Ent.cells b [.slice a n c] 193, Ent.row (.slice a n c) 1 (u8s (l)) 5] (fun v es => ∃ a2 n2 c2, v = .pointer (some ⟨b, 0, none⟩) ∧ es = [Ent.cells b [.slice a2 n2 c2] 193, Ent.row (.slice a2 n2 c2) 1 (u8s (l ++ numB x)) 5]) := by
  refine fn_of_J (cx := cx130) hmix Try.func130 (by kernel_rfl) (eq130 _ _) fun w hw => ?_
  refine J.opBF (R.isNil pt191) (by rfl) ?_ -- @t6
  refine J.iteF ?_
  refine J.bind ?_ -- @tv_1 bind tv_1 ([1])
  refine J.block ?_
  -- @tx loop [a1]
  refine J.loop (α := Nat × Nat × List Nat × Option Addr × Nat × Nat) (fun (f, y, m, _) => m ++ numF f y = l ++ numB x ∧ y < 128 ^ (f + 1) ∧ m.length + f ≤ l.length + 10 ∧ y ≤ x) (fun (_, y, _) => [.int .u64 ((y : Nat) : Int)]) (fun (_, _, m, a, n, c) => [Ent.cells b [.slice a n c] 193, Ent.row (.slice a n c) 1 (u8s (m)) 5]) (fun (f, _) => f) (10, x, l, a, n, c) ⟨rfl, by show x < 128 ^ 11; omega, Nat.le_refl _, Nat.le_refl _⟩ rfl (Imp.refl _) ?_
  rintro ⟨f, y, m, a, n, c⟩ ⟨h1, h2, h3, h4⟩
  dsimp only at h1 h2 h3 h4 ⊢
  try simp only [List.headD_cons, List.tail_cons]
  refine J.opD R.geq (fun ht8 => ?_) (fun ht8 => ?_) -- @t8 binS .geq 54 (.tmp 7) (.const (.int .u64 128)) (tx.headD undef) (.int .u64 128)
  · skip
    refine J.iteT ?_
    refine J.bind ?_ -- @tv bind tv ([])
    refine J.block ?_
    obtain ⟨g, rfl, h5, h6⟩ := num_step h1 h2 (by omega)
    refine J.op R.nil ?_ -- @t13 nilS a0
    refine J.op fa193_0 ?_
    refine J.op (R.ld o130 (by with_reducible repeat (first | exact Pick.here | apply Pick.there)) rfl) ?_ -- @t15 vS (Instr.loadAt 130 t14)
    refine J.op (R.asI (cv54_5) (v := ((y % 256 : Nat) : Int)) (wrap8 y)) ?_ -- @t17 vS (convert 54 5 (tx.headD undef))
    refine J.op (R.asI (R.or) (v := ((y % 128 + 128 : Nat) : Int)) (or8 y)) ?_ -- @t18 binS .or 5 (.tmp 17) (.const (.int .u8 128)) t17 (.int .u8 128)
    refine J.bsR (els := u8s [y % 128 + 128]) bs130_1 rfl u8s_cell rfl (by decide) fun bt19 => ?_ -- @t19 vS (Instr.buildSlice 130 1 #[(0, t18)])
    refine J.append sl130 (by with_reducible repeat (first | exact Pick.here | apply Pick.there)) (SeeS.row (E := 5) (by with_reducible repeat (first | exact Pick.here | apply Pick.there))) u8s_one (by simp only [u8s_len, List.length_append, List.length_cons, List.length_nil]; omega) (by simp only [maxLen, u8s_len, List.length_append, List.length_cons, List.length_nil]; omega) fun at20 nt20 ct20 => ?_
    rw [u8s_app] -- @t20 bltS .append #[130, 130] 130 #[false, false] [t15, t19]
    refine J.op R.nil ?_ -- @t21 nilS a0
    refine J.op fa193_0 ?_
    refine J.st sz130 (by with_reducible repeat (first | exact Pick.here | apply Pick.there)) (by repeat (first | exact .zero | exact .nil | apply Upd.succ | apply UpdN.cons)) rfl ?_ -- @tu uS (Instr.storeAt 130 t22 t20)
    refine J.done ?_ -- then tv = []
    refine J.op (R.asI (R.shrU (n := 7) (by decide)) (v := ((y / 128 : Nat) : Int)) (rfl)) ?_ -- @t10 binS .shr 54 (.tmp 9) (.const (.int .u64 7)) (tx.headD undef) (.int .u64 7)
    -- @again[t10]
    exact J.done ⟨(g, y / 128, m ++ [y % 128 + 128], at20, nt20, ct20), ⟨h5, h6, by simp only [List.length_append, List.length_cons, List.length_nil]; omega, by have := Nat.div_le_self y 128; dsimp only; omega⟩, rfl, Imp.take (by (try dsimp only); repeat (first | exact Has.nil | refine Has.cons (by repeat (first | (with_reducible exact Out.here) | ((with_reducible refine Out.cells ?_); first | rfl | (simp; done)) | ((with_reducible refine Out.row ?_); first | rfl | (simp; done)) | (with_reducible apply Out.there))) ?_)), Nat.lt_succ_self _⟩
  · skip
    refine J.iteF ?_
    refine J.done ⟨fun _ => ?_, fun h => absurd rfl h⟩ -- exit [(tx.headD undef)]
    have h5 := num_end h1 (by omega)
    refine J.op R.nil ?_ -- @t25 nilS a0
    refine J.op fa193_0 ?_
    refine J.op (R.ld o130 (by with_reducible repeat (first | exact Pick.here | apply Pick.there)) rfl) ?_ -- @t27 vS (Instr.loadAt 130 t26)
    refine J.op (R.asI (cv54_5) (v := ((y : Nat) : Int)) (by rw [wrap8]; omega)) ?_ -- @t29 vS (convert 54 5 (tv_1.headD undef))
    refine J.bsR (els := u8s [y]) bs130_1 rfl u8s_cell rfl (by decide) fun bt30 => ?_ -- @t30 vS (Instr.buildSlice 130 1 #[(0, t29)])
    refine J.append sl130 (by with_reducible repeat (first | exact Pick.here | apply Pick.there)) (SeeS.row (E := 5) (by with_reducible repeat (first | exact Pick.here | apply Pick.there))) u8s_one (by simp only [u8s_len, List.length_append, List.length_cons, List.length_nil]; omega) (by simp only [maxLen, u8s_len, List.length_append, List.length_cons, List.length_nil]; omega) fun at31 nt31 ct31 => ?_
    rw [u8s_app] -- @t31 bltS .append #[130, 130] 130 #[false, false] [t27, t30]
    refine J.op R.nil ?_ -- @t32 nilS a0
    refine J.op fa193_0 ?_
    refine J.st sz130 (by with_reducible repeat (first | exact Pick.here | apply Pick.there)) (by repeat (first | exact .zero | exact .nil | apply Upd.succ | apply UpdN.cons)) rfl ?_ -- @tu_1 uS (Instr.storeAt 130 t33 t31)
    -- @ret[a0]
    refine J.done (RetQ.gt (es := [Ent.cells b [.slice at31 nt31 ct31] 193, Ent.row (.slice at31 nt31 ct31) 1 (u8s (m ++ [y])) 5]) (.tmp (.nil)) ?_ ?_)
    · exact (by (try dsimp only); repeat (first | exact Has.nil | refine Has.cons (by repeat (first | (with_reducible exact Out.here) | ((with_reducible refine Out.cells ?_); first | rfl | (simp; done)) | ((with_reducible refine Out.row ?_); first | rfl | (simp; done)) | (with_reducible apply Out.there))) ?_))
    · exact ⟨_, _, _, rfl, by rw [h5]⟩

/-- (*damper/octets.Writer).Uint -/
theorem s163 (b : Nat) (a : Option Addr) (n c : Nat) (l : List Nat) (x : Nat) (hl : l.length ≤ 900) :
    FnT Try.prog 163 [.pointer (some ⟨b, 0, none⟩), .int .u64 ((x : Nat) : Int), .int .i64 8] (fun _ => True) [Ent.cells b [.slice a n c] 193, Ent.row (.slice a n c) 1 (u8s (l)) 5] (fun v es => ∃ a2 n2 c2, v = .pointer (some ⟨b, 0, none⟩) ∧ es = [Ent.cells b [.slice a2 n2 c2] 193, Ent.row (.slice a2 n2 c2) 1 (u8s (l ++ beB x 8)) 5]) := by
  refine fn_of_J (cx := cx163) hmix Try.func163 (by kernel_rfl) (eq163 _ _ _) fun w hw => ?_
  refine J.bind ?_ -- @tv bind tv ([17])
  refine J.opBF (R.isNil pt191) (by rfl) ?_ -- @t9
  refine J.gopT rfl ?_
  refine J.op R.pure ?_
  refine J.gopT rfl ?_
  refine J.opDF R.lss (by omega) ?_ -- @t12
  refine J.op R.pickF ?_ -- @t13 pickS t9 (.bool true) t12
  refine J.gopT rfl ?_
  refine J.op R.pure ?_
  refine J.gopT rfl ?_
  refine J.opDF R.gtr (by omega) ?_ -- @t16
  refine J.op R.pickF ?_ -- @t17 pickS t13 (.bool true) t16
  refine J.done ?_ -- then tv = [t17]
  refine J.iteF ?_
  refine J.op (R.sub64 (by omega)) ?_ -- @t20 binS .sub 3 (.tmp 19) (.const (.int .i64 1)) a2 (.int .i64 1)
  refine J.bind ?_ -- @tv_2 bind tv_2 ([])
  refine J.block ?_
  -- @tx loop [t20]
  refine J.loop (α := Nat × List Nat × Option Addr × Nat × Nat) (fun (k, m, _) => m ++ beB x k = l ++ beB x 8 ∧ k ≤ 8 ∧ m.length + k = l.length + 8) (fun (k, _) => [.int .i64 ((k : Nat) - 1)]) (fun (_, m, a, n, c) => [Ent.cells b [.slice a n c] 193, Ent.row (.slice a n c) 1 (u8s (m)) 5]) (fun (k, _) => k) (8, l, a, n, c) ⟨rfl, Nat.le_refl _, rfl⟩ rfl (Imp.refl _) ?_
  rintro ⟨k, m, a, n, c⟩ ⟨h1, h2, h3⟩
  dsimp only at h1 h2 h3 ⊢
  try simp only [List.headD_cons, List.tail_cons]
  refine J.opD R.geq (fun ht22 => ?_) (fun ht22 => ?_) -- @t22 binS .geq 3 (.tmp 21) (.const (.int .i64 0)) (tx.headD undef) (.int .i64 0)
  · skip
    refine J.iteT ?_
    refine J.bind ?_ -- @tv_1 bind tv_1 ([])
    refine J.block ?_
    refine J.draw ?_
    obtain ⟨j, rfl⟩ : ∃ j, k = j + 1 := ⟨k - 1, by omega⟩
    refine J.op R.nil ?_ -- @t27 nilS a0
    refine J.op fa193_0 ?_
    refine J.op (R.ld o130 (by with_reducible repeat (first | exact Pick.here | apply Pick.there)) rfl) ?_ -- @t29 vS (Instr.loadAt 130 t28)
    refine J.op (R.asI (R.mul) (v := ((8 * j : Nat) : Int)) (by rw [i64_in _ (by omega)]; omega)) ?_ -- @t32 binS .mul 3 (.const (.int .i64 8)) (.tmp 31) (.int .i64 8) (tx.headD undef)
    refine J.op (R.asI (R.shrU (by omega)) (v := ((x / 256 ^ j : Nat) : Int)) (congrArg _ (shr8 x j))) ?_ -- @t33 binS .shr 54 (.tmp 30) (.tmp 32) a1 t32
    refine J.op (R.asI (cv54_5) (v := ((x / 256 ^ j % 256 : Nat) : Int)) (wrap8 _)) ?_ -- @t34 vS (convert 54 5 t33)
    refine J.bsR (els := u8s [x / 256 ^ j % 256]) bs130_1 rfl u8s_cell rfl (by decide) fun bt35 => ?_ -- @t35 vS (Instr.buildSlice 130 1 #[(0, t34)])
    refine J.chkR (R.ld o130 (by with_reducible repeat (first | exact Pick.here | apply Pick.there)) rfl) ?_ -- @chk:t29 vS (Instr.loadAt 130 t28)
    refine J.chkR fa193_0 ?_ -- @chk:t28 vS (Instr.fieldAt 193 t27 0)
    refine J.chkR R.nil ?_ -- @chk:t27 nilS a0
    refine J.append sl130 (by with_reducible repeat (first | exact Pick.here | apply Pick.there)) (SeeS.row (E := 5) (by with_reducible repeat (first | exact Pick.here | apply Pick.there))) u8s_one (by simp only [u8s_len, List.length_append, List.length_cons, List.length_nil]; omega) (by simp only [maxLen, u8s_len, List.length_append, List.length_cons, List.length_nil]; omega) fun at36 nt36 ct36 => ?_
    rw [u8s_app] -- @t36 bltS .append #[130, 130] 130 #[false, false] [t29, t35]
    refine J.op R.nil ?_ -- @t37 nilS a0
    refine J.op fa193_0 ?_
    refine J.st sz130 (by with_reducible repeat (first | exact Pick.here | apply Pick.there)) (by repeat (first | exact .zero | exact .nil | apply Upd.succ | apply UpdN.cons)) rfl ?_ -- @tu uS (Instr.storeAt 130 t38 t36)
    refine J.done ?_ -- then tv_1 = []
    refine J.op (R.sub64 (by omega)) ?_ -- @t24 binS .sub 3 (.tmp 23) (.const (.int .i64 1)) (tx.headD undef) (.int .i64 1)
    -- @again[t24]
    exact J.done ⟨(j, m ++ [x / 256 ^ j % 256], at36, nt36, ct36), ⟨by rw [← h1, List.append_assoc]; rfl, by dsimp only; omega, by simp only [List.length_append, List.length_cons, List.length_nil]; omega⟩, by simp only [List.cons.injEq, Value.int.injEq, true_and, and_true]; omega, Imp.take (by (try dsimp only); repeat (first | exact Has.nil | refine Has.cons (by repeat (first | (with_reducible exact Out.here) | ((with_reducible refine Out.cells ?_); first | rfl | (simp; done)) | ((with_reducible refine Out.row ?_); first | rfl | (simp; done)) | (with_reducible apply Out.there))) ?_)), Nat.lt_succ_self _⟩
  · skip
    refine J.iteF ?_
    refine J.done ⟨fun _ => ?_, fun h => absurd rfl h⟩ -- exit []
    -- @ret[a0]
    obtain rfl : k = 0 := by omega
    exact J.done (RetQ.gt (es := [Ent.cells b [.slice a n c] 193, Ent.row (.slice a n c) 1 (u8s (m)) 5]) (.tmp .nil) (by (try dsimp only); repeat (first | exact Has.nil | refine Has.cons (by repeat (first | (with_reducible exact Out.here) | ((with_reducible refine Out.cells ?_); first | rfl | (simp; done)) | ((with_reducible refine Out.row ?_); first | rfl | (simp; done)) | (with_reducible apply Out.there))) ?_)) ⟨a, n, c, rfl, by rw [← h1]; simp [beB]⟩)

/-- (*damper/octets.Writer).Int -/
theorem s131 (b : Nat) (a : Option Addr) (n c : Nat) (l : List Nat) (x : Int) (hx : 0 ≤ x ∧ x ≤ 1099511627776) (hl : l.length ≤ 900) :
    FnT Try.prog 131 [.pointer (some ⟨b, 0, none⟩), .int .i64 x] (fun _ => True) [Ent.cells b [.slice a n c] 193, Ent.row (.slice a n c) 1 (u8s (l)) 5] (fun v es => ∃ a2 n2 c2, v = .pointer (some ⟨b, 0, none⟩) ∧ es = [Ent.cells b [.slice a2 n2 c2] 193, Ent.row (.slice a2 n2 c2) 1 (u8s (l ++ beB (2 * x.toNat) 8)) 5]) := by
  refine fn_of_J (cx := cx131) hmix Try.func131 (by kernel_rfl) (eq131 _ _) fun w hw => ?_
  refine J.op (R.asI (R.shl (by decide)) (v := 2 * x) (by rw [show (2 : Int) ^ (Nat.min (1 : Int).toNat IntKind.i64.bits) = 2 from rfl, i64_in _ (by omega)]; omega)) ?_ -- @t7 binS .shl 2 (.tmp 6) (.const (.int .u64 1)) a1 (.int .u64 1)
  refine J.op (R.asI (cv2_54) (v := ((2 * x.toNat : Nat) : Int)) (by rw [w64 (by omega)]; omega)) ?_ -- @t8 vS (convert 2 54 t7)
  refine J.op (R.asI (R.shr (by decide)) (v := 0) (by rw [show (2 : Int) ^ (Nat.min (63 : Int).toNat IntKind.i64.bits) = 2 ^ 63 from rfl, fdiv63 (by omega)]; unfold sgn; rw [if_neg (by omega)])) ?_ -- @t10 binS .shr 2 (.tmp 9) (.const (.int .u64 63)) a1 (.int .u64 63)
  refine J.op (R.asI cv2_54 (v := 0) rfl) ?_ -- @t11 vS (convert 2 54 t10)
  refine J.op (R.asI (R.xor) (v := ((2 * x.toNat : Nat) : Int)) (xor0 _ (by omega))) ?_ -- @t12 binS .xor 54 (.tmp 8) (.tmp 11) t8 t11
  refine J.callT en163 (s163 b a n c l (2 * x.toNat) hl) rfl (fun _ _ _ => trivial) (Take.cons (by (try dsimp only); repeat (first | (with_reducible exact Out.here) | ((with_reducible refine Out.cells ?_); first | rfl | (simp; done)) | ((with_reducible refine Out.row ?_); first | rfl | (simp; done)) | (with_reducible apply Out.there))) (Take.cons (by (try dsimp only); repeat (first | (with_reducible exact Out.here) | ((with_reducible refine Out.cells ?_); first | rfl | (simp; done)) | ((with_reducible refine Out.row ?_); first | rfl | (simp; done)) | (with_reducible apply Out.there))) Take.nil)) (fun v es ht13 => ?_)
  obtain ⟨at13, nt13, ct13, rfl, rfl⟩ := ht13
  simp only [List.cons_append, List.nil_append] -- @t13 callS (.func (.func 163) #[] #[]) [a0, t12, (.int .i64 8)]
  -- @ret[t13]
  refine J.done (RetQ.gt (es := [Ent.cells b [.slice at13 nt13 ct13] 193, Ent.row (.slice at13 nt13 ct13) 1 (u8s (l ++ beB (2 * x.toNat) 8)) 5]) (.tmp (.nil)) ?_ ?_)
  · exact (by (try dsimp only); repeat (first | exact Has.nil | refine Has.cons (by repeat (first | (with_reducible exact Out.here) | ((with_reducible refine Out.cells ?_); first | rfl | (simp; done)) | ((with_reducible refine Out.row ?_); first | rfl | (simp; done)) | (with_reducible apply Out.there))) ?_))
  · exact ⟨_, _, _, rfl, rfl⟩

/-- bytes.Clone -/
theorem s164 (a : Option Addr) (n c : Nat) (l : List Nat) (hne : l ≠ []) (hl : l.length ≤ 1000) :
    FnT Try.prog 164 [.slice a n c] (fun _ => True) [Ent.row (.slice a n c) 1 (u8s (l)) 5] (fun v es => ∃ a2 n2 c2, v = .slice a2 n2 c2 ∧ es = [Ent.row (.slice a2 n2 c2) 1 (u8s (l)) 5]) := by
  refine fn_of_J (cx := cx164) hmix Try.func164 (by kernel_rfl) (eq164 _) fun w hw => ?_
  refine J.fact (φ := ∃ g, a = some ⟨g, 0, none⟩) (fun _ _ hs => ?_) fun hg => ?_
  · obtain ⟨g, h1, _⟩ := Row.shape (els := u8s l) (by with_reducible repeat (first | exact Pick.here | apply Pick.there)) (by intro h; have h2 : (u8s l).length = 0 := (by rw [h]; rfl); rw [u8s_len] at h2; exact hne (List.length_eq_zero_iff.1 h2)) hs
    exact ⟨g, h1⟩
  obtain ⟨g, rfl⟩ := hg
  refine J.op (R.isNilSl sl130) ?_ -- @t4
  refine J.iteF ?_
  refine J.bsR (els := u8s []) (cs := []) (E := 5) (fun w => by kernel_rfl) rfl u8s_cell rfl (by decide) fun bt5 => ?_ -- @t5 vS (Instr.buildSlice 130 0 #[])
  refine J.append sl130 (by with_reducible repeat (first | exact Pick.here | apply Pick.there)) (SeeS.row (E := 5) (by with_reducible repeat (first | exact Pick.here | apply Pick.there))) u8s_one (by simp only [u8s_len, List.length_nil]; omega) (by simp only [maxLen, u8s_len, List.length_nil]; omega) fun at7 nt7 ct7 => ?_
  rw [u8s_app] -- @t7 bltS .append #[130, 130] 130 #[false, false] [t5, a0]
  -- @ret[t7]
  refine J.done (RetQ.gt (es := [Ent.row (.slice at7 nt7 ct7) 1 (u8s ([] ++ l)) 5]) (.tmp (.nil)) ?_ ?_)
  · exact (by (try dsimp only); repeat (first | exact Has.nil | refine Has.cons (by repeat (first | (with_reducible exact Out.here) | ((with_reducible refine Out.cells ?_); first | rfl | (simp; done)) | ((with_reducible refine Out.row ?_); first | rfl | (simp; done)) | (with_reducible apply Out.there))) ?_))
  · exact ⟨_, _, _, rfl, rfl⟩

/-- (*damper/octets.Writer).Bytes -/
theorem s132 (b : Nat) (a : Option Addr) (n c : Nat) (l : List Nat) (hne : l ≠ []) (hl : l.length ≤ 1000) :
    FnT Try.prog 132 [.pointer (some ⟨b, 0, none⟩)] (fun _ => True) [Ent.cells b [.slice a n c] 193, Ent.row (.slice a n c) 1 (u8s (l)) 5] (fun v es => ∃ a2 n2 c2, v = .slice a2 n2 c2 ∧ es = [Ent.row (.slice a2 n2 c2) 1 (u8s (l)) 5]) := by
  refine fn_of_J (cx := cx132) hmix Try.func132 (by kernel_rfl) (eq132 _) fun w hw => ?_
  refine J.opBF (R.isNil pt191) (by rfl) ?_ -- @t4
  refine J.iteF ?_
  refine J.op R.nil ?_ -- @t6 nilS a0
  refine J.op fa193_0 ?_
  refine J.op (R.ld o130 (by with_reducible repeat (first | exact Pick.here | apply Pick.there)) rfl) ?_ -- @t8 vS (Instr.loadAt 130 t7)
  refine J.callT en164 (s164 a n c l hne hl) rfl (fun _ _ _ => trivial) (Take.cons (by (try dsimp only); repeat (first | (with_reducible exact Out.here) | ((with_reducible refine Out.cells ?_); first | rfl | (simp; done)) | ((with_reducible refine Out.row ?_); first | rfl | (simp; done)) | (with_reducible apply Out.there))) Take.nil) (fun v es ht9 => ?_)
  obtain ⟨at9, nt9, ct9, rfl, rfl⟩ := ht9
  simp only [List.cons_append, List.nil_append] -- @t9 callS (.func (.func 164) #[] #[]) [t8]
  -- @ret[t9]
  refine J.done (RetQ.gt (es := [Ent.row (.slice at9 nt9 ct9) 1 (u8s (l)) 5]) (.tmp (.nil)) ?_ ?_)
  · exact (by (try dsimp only); repeat (first | exact Has.nil | refine Has.cons (by repeat (first | (with_reducible exact Out.here) | ((with_reducible refine Out.cells ?_); first | rfl | (simp; done)) | ((with_reducible refine Out.row ?_); first | rfl | (simp; done)) | (with_reducible apply Out.there))) ?_))
  · exact ⟨_, _, _, rfl, rfl⟩
end Go.Proofs.Ytipgdalebkhgpaa
