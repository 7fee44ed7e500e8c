/-
  Contracts of functions.
-/
import Derived.Test.YtllchkmggfcdgaaTerms
import Derived.Test.YtllchkmggfcdgaaTab
import Derived.Test.YtllchkmggfcdgaaE2
set_option maxRecDepth 100000
set_option linter.unusedVariables false
set_option linter.unusedSimpArgs false
namespace Go.Proofs.Ytllchkmggfcdgaa
open Go Go.RowKit Fw
/-- damper/damperref38.Same -/
theorem s30 (v u : Value) (a b : List Edit) :
    FnE Try.prog 30 [v, u] (fun w => RdS w v 3 (edits a) ∧ RdS w u 3 (edits b)) (.bool (sameEB a b)) := by
  refine fn_of_J (cx := cx30) hmix Try.func30 (by kernel_rfl) (eq30 _ _) fun w hw => ?_
  have hA : ∀ H, SeeS ⟨Try.prog, w, footOf []⟩ H v 3 (edits a) := fun H => SeeS.ofW0 hw.1 edits_ne
  have hB : ∀ H, SeeS ⟨Try.prog, w, footOf []⟩ H u 3 (edits b) := fun H => SeeS.ofW0 hw.2 edits_ne
  have hm := hw.1.le
  simp only [edits_len, maxLen] at hm
  refine J.op (R.lenN sl60 (by first | exact SeeS.row (by with_reducible repeat (first | exact Pick.here | apply Pick.there)) | apply_assumption) (by first | exact ints_len | exact bools_len | exact msgs_len | exact trows_len | exact edits_len | rfl)) ?_ -- @t7 bltS .len #[60] 3 #[false] [a0]
  refine J.op (R.lenN sl60 (by first | exact SeeS.row (by with_reducible repeat (first | exact Pick.here | apply Pick.there)) | apply_assumption) (by first | exact ints_len | exact bools_len | exact msgs_len | exact trows_len | exact edits_len | rfl)) ?_ -- @t9 bltS .len #[60] 3 #[false] [a1]
  refine J.opD R.neq (fun ht10 => ?_) (fun ht10 => ?_) -- @t10 binS .neq 3 (.tmp 7) (.tmp 9) t7 t9
  · skip
    refine J.iteT ?_
    -- @ret[(.boolfalse)]
    have hne : ¬ a = b := fun e => ht10 (by rw [e])
    exact J.done (RetQ.e1 (by simp [sameEB, hne]))
  · skip
    refine J.iteF ?_
    refine J.bind ?_ -- @tv_1 bind tv_1 ([4])
    refine J.block ?_
    -- @tx loop [(.bool false), (.int .i64 0)]
    refine J.loopH (α := Nat) (fun i => i ≤ a.length ∧ ∀ j, j < i → a[j]? = b[j]?) (fun i => [.bool false, .int .i64 i]) (fun i => a.length - i) 0 ⟨Nat.zero_le _, fun j h => absurd h (Nat.not_lt_zero j)⟩ rfl ?_
    rintro i ⟨hi, hall⟩
    try simp only [List.headD_cons, List.tail_cons]
    refine J.op (R.lenN sl60 (by first | exact SeeS.row (by with_reducible repeat (first | exact Pick.here | apply Pick.there)) | apply_assumption) (by first | exact ints_len | exact bools_len | exact msgs_len | exact trows_len | exact edits_len | rfl)) ?_ -- @t13 bltS .len #[60] 3 #[false] [a0]
    refine J.opD R.lss (fun ht14 => ?_) (fun ht14 => ?_) -- @t14 binS .lss 3 (.tmp 11) (.tmp 13) (tx.tail.headD undef) t13
    · skip
      refine J.iteT ?_
      obtain ⟨x, hx⟩ := get_ex (l := a) (i := i) (by omega)
      obtain ⟨y, hy⟩ := get_ex (l := b) (i := i) (by omega)
      refine J.bind ?_ -- @tv bind tv ([4])
      refine J.block ?_
      refine J.draw ?_
      refine J.ixW sl60 hA (by omega) (edits_get hx) fun gb go hkt19 => ?_ -- @t19 ix a0 (tx.tail.headD undef)
      refine J.op (R.ldKA ag67 (hkt19 _) rfl) ?_ -- @t20 vS (Instr.loadAt 67 t19)
      refine J.ixW sl60 hB (by omega) (edits_get hy) fun gb go hkt23 => ?_ -- @t23 ix a1 (tx.tail.headD undef)
      refine J.op (R.ldKA ag67 (hkt23 _) rfl) ?_ -- @t24 vS (Instr.loadAt 67 t23)
      refine J.opD (R.neA gt67 (by repeat (first | exact trivial | refine ⟨⟨_, rfl⟩, ?_⟩)) (by repeat (first | exact trivial | refine ⟨⟨_, rfl⟩, ?_⟩))) (fun ht25 => ?_) (fun ht25 => ?_) -- @t25 binS .neq 67 (.tmp 20) (.tmp 24) t20 t24
      · skip
        refine J.iteT ?_
        -- @ret[(.boolfalse)]#2
        have hne : ¬ a = b := fun e => ht25 (by rw [e, hy] at hx; cases hx; rfl)
        exact J.done (RetQ.e1 (by simp [sameEB, hne]))
      · skip
        refine J.iteF ?_
        refine J.done ?_ -- then tv = [(tx.headD undef)]
        refine J.op (R.add64 (by omega)) ?_ -- @t16 binS .add 3 (.tmp 15) (.const (.int .i64 1)) (tx.tail.headD undef) (.int .i64 1)
        -- @again[(tv.headDundef),t16]
        refine J.done ⟨i + 1, ⟨by omega, fun j hj => ?_⟩, rfl, Imp.refl _, by omega⟩
        rcases Nat.lt_succ_iff_lt_or_eq.1 hj with hj | rfl
        · exact hall j hj
        · rw [hx, hy, Edit.inj.1 (Classical.not_not.1 ht25)]
    · skip
      refine J.iteF ?_
      refine J.done ⟨fun _ => ?_, fun h => absurd rfl h⟩ -- exit [(tx.headD undef)]
      -- @ret[(.booltrue)]
      have he : a = b := List.ext_getElem? (fun j => by
        rcases Nat.lt_or_ge j i with h | h
        · exact hall j h
        · rw [List.getElem?_eq_none (by omega), List.getElem?_eq_none (by omega)])
      exact J.done (RetQ.e1 (by simp [sameEB, he]))

/-- damper/damperlaw38.back -/
theorem s31 (v : Value) (l : List Edit) (hll : l.length ≤ 1000) :
    FnT Try.prog 31 [v] (fun w => RdS w v 3 (edits l)) [] (fun v es => ∃ oa on oc, v = .slice oa on oc ∧ es = [Ent.row (.slice oa on oc) 3 (edits l) 67]) := by
  refine fn_of_J (cx := cx31) hmix Try.func31 (by kernel_rfl) (eq31 _) fun w hw => ?_
  have hL : ∀ H, SeeS ⟨Try.prog, w, footOf []⟩ H v 3 (edits l) := fun H => SeeS.ofW0 hw edits_ne
  refine J.bind ?_ -- @tv_1 bind tv_1 ([3])
  refine J.block ?_
  -- @tx loop [(.slice none 0 0), (.int .i64 0)]
  refine J.nilRow (sz := 3) (E := 67) ?_
  refine J.loop (α := Nat × Option Addr × Nat × Nat) (fun (i, _) => i ≤ l.length) (fun (i, oa, on, oc) => [.slice oa on oc, .int .i64 i]) (fun (i, oa, on, oc) => [Ent.row (.slice oa on oc) 3 (edits (l.take i)) 67]) (fun (i, _) => l.length - i) (0, none, 0, 0) (Nat.zero_le _) rfl (Imp.refl _) ?_
  rintro ⟨i, oa, on, oc⟩ hi
  dsimp only at hi ⊢
  try simp only [List.headD_cons, List.tail_cons]
  refine J.op (R.lenN sl62 (hL _) edits_len) ?_ -- @t7 bltS .len #[62] 3 #[false] [a0]
  refine J.opD R.lss (fun ht8 => ?_) (fun ht8 => ?_) -- @t8 binS .lss 3 (.tmp 5) (.tmp 7) (tx.tail.headD undef) t7
  · skip
    refine J.iteT ?_
    obtain ⟨e, he⟩ := get_ex (l := l) (i := i) (by omega)
    refine J.bind ?_ -- @tv bind tv ([3])
    refine J.block ?_
    refine J.draw ?_
    refine J.ixW sl62 hL (by omega) (edits_get he) fun gb go hkt14 => ?_ -- @t14 ix a0 (tx.tail.headD undef)
    refine J.op fa68_0 ?_
    refine J.op (R.ldK0 o3 (hkt14 _)) ?_ -- @t16 vS (Instr.loadAt 3 t15)
    refine J.ixW sl62 hL (by omega) (edits_get he) fun gb go hkt19 => ?_ -- @t19 ix a0 (tx.tail.headD undef)
    refine J.op fa68_1 ?_
    refine J.op (R.ldK o3 (hkt19 _) rfl) ?_ -- @t21 vS (Instr.loadAt 3 t20)
    refine J.ixW sl62 hL (by omega) (edits_get he) fun gb go hkt24 => ?_ -- @t24 ix a0 (tx.tail.headD undef)
    refine J.op fa68_2 ?_
    refine J.op (R.ldK o3 (hkt24 _) rfl) ?_ -- @t26 vS (Instr.loadAt 3 t25)
    refine J.op bd67_0_1_2 ?_ -- @t27 vS (Instr.build 67 #[(0, t16), (1, t21), (2, t26)])
    refine J.bs (cs := e.cells) (E := 67) (fun w => by kernel_rfl) fun bt28 => ?_ -- @t28 vS (Instr.buildSlice 60 1 #[(0, t27)])
    refine J.append sl60 (by with_reducible repeat (first | exact Pick.here | apply Pick.there)) (SeeS.cells (els := [e.cells]) (by with_reducible repeat (first | exact Pick.here | apply Pick.there)) rfl (by decide) (by intro i l hi j u hj; rcases i with _ | i <;> simp at hi; subst hi; simpa using hj)) (by intro l hl; simp at hl; subst hl; exact ⟨rfl, allOne_spec rfl⟩) (by rw [edits_len]; simp; omega) (by rw [edits_len]; simp [maxLen]; omega) fun at29 nt29 ct29 => ?_ -- @t29 bltS .append #[60, 60] 60 #[false, false] [(tx.headD undef), t28]
    refine J.done ?_ -- then tv = [t29]
    refine J.op (R.add64 (by omega)) ?_ -- @t10 binS .add 3 (.tmp 9) (.const (.int .i64 1)) (tx.tail.headD undef) (.int .i64 1)
    -- @again[(tv.headDundef),t10]
    refine J.done ⟨(i + 1, at29, nt29, ct29), by dsimp only; omega, rfl, ?_, by dsimp only; omega⟩
    dsimp only
    rw [List.take_add_one, he, Option.toList_some, ← edits_app]
    exact Imp.take (by (try dsimp only); repeat (first | exact Has.nil | refine Has.cons (by repeat (first | (with_reducible exact Out.here) | ((with_reducible refine Out.cells ?_); first | rfl | (simp; done)) | ((with_reducible refine Out.row ?_); first | rfl | (simp; done)) | (with_reducible apply Out.there))) ?_))
  · skip
    refine J.iteF ?_
    refine J.done ⟨fun _ => ?_, fun h => absurd rfl h⟩ -- exit [(tx.headD undef)]
    -- @ret[(tv_1.headDundef)]
    have htk : l.take i = l := List.take_of_length_le (by omega)
    exact J.done (RetQ.t1 (es := [Ent.row (.slice oa on oc) 3 (edits l) 67]) (by rw [htk]; exact (by (try dsimp only); repeat (first | exact Has.nil | refine Has.cons (by repeat (first | (with_reducible exact Out.here) | ((with_reducible refine Out.cells ?_); first | rfl | (simp; done)) | ((with_reducible refine Out.row ?_); first | rfl | (simp; done)) | (with_reducible apply Out.there))) ?_))) ⟨_, _, _, rfl, rfl⟩)

/-- damper/damperlaw38.CompareEdits -/
theorem s7 (a1 : Option Addr) (n1 c1 : Nat) (a2 : Option Addr) (n2 c2 : Nat) (a b : List Msg) :
    FnE Try.prog 7 [.slice a1 n1 c1, .slice a2 n2 c2] (fun w => RdS w (.slice a1 n1 c1) 9 (msgs a) ∧ RdS w (.slice a2 n2 c2) 9 (msgs b)) (.bool true) := by
  refine fn_of_J (cx := cx7) hmix Try.func7 (by kernel_rfl) (eq7 _ _) fun w hw => ?_
  have hA : ∀ H, SeeS ⟨Try.prog, w, footOf []⟩ H (.slice a1 n1 c1) 9 (msgs a) := fun H => SeeS.ofW0 hw.1 msgs_ne
  have hB : ∀ H, SeeS ⟨Try.prog, w, footOf []⟩ H (.slice a2 n2 c2) 9 (msgs b) := fun H => SeeS.ofW0 hw.2 msgs_ne
  refine J.bindB (310 < a.length ∨ 310 < b.length) ?_ (fun hbtv => ?_) (fun hbtv => ?_) -- @tv
  · skip
    refine J.op (R.lenN sl57 (by first | exact SeeS.row (by with_reducible repeat (first | exact Pick.here | apply Pick.there)) | apply_assumption) (by first | exact ints_len | exact bools_len | exact msgs_len | exact trows_len | exact edits_len | rfl)) ?_ -- @t6 bltS .len #[57] 3 #[false] [a0]
    refine J.opD R.gtr (fun ht7 => ?_) (fun ht7 => ?_) -- @t7 binS .gtr 3 (.tmp 6) (.const (.int .i64 310)) t6 (.int .i64 310)
    · skip
      refine J.gopF rfl ?_
      refine J.gopF rfl ?_
      refine J.gopF rfl ?_
      refine J.op R.pickT ?_ -- @t12 pickS t7 (.bool true) t11
      exact J.done ⟨rfl, congrArg (fun x => [Value.bool x]) (by simp; omega), rfl⟩ -- @leaf[t12]
    · skip
      refine J.gopT rfl ?_
      refine J.op R.pure ?_
      refine J.gopT rfl ?_
      refine J.op (R.lenN sl57 (by first | exact SeeS.row (by with_reducible repeat (first | exact Pick.here | apply Pick.there)) | apply_assumption) (by first | exact ints_len | exact bools_len | exact msgs_len | exact trows_len | exact edits_len | rfl)) ?_ -- @t10 bltS .len #[57] 3 #[false] [t9]
      refine J.gopT rfl ?_
      refine J.op R.gtr ?_ -- @t11 binS .gtr 3 (.tmp 10) (.const (.int .i64 310)) t10 (.int .i64 310)
      refine J.op R.pickF ?_ -- @t12 pickS t7 (.bool true) t11
      exact J.done ⟨rfl, congrArg (fun x => [Value.bool x]) (decide_eq_decide.2 (by omega)), rfl⟩ -- @leaf[t12]#2
  · skip
    refine J.iteT ?_
    refine J.callE en27 (s27) rfl (fun _ _ _ => trivial) ?_ -- @t13 callS (.func (.func 27) #[] #[]) []
    -- @ret[t13]
    exact J.done (RetQ.e1 (by first | rfl | (simp [*]; done) | (simp_all []; done) | skip))
  · skip
    refine J.iteF ?_
    have ha : a.length ≤ 310 := by omega
    have hb : b.length ≤ 310 := by omega
    have hel : (editsOf a b).length ≤ 1000 := by
      unfold editsOf
      split
      · simp
      · exact Nat.le_trans (restE_len _ _ _ _ _) (by omega)
    refine J.bindBH (True) ([]) ?_ (fun hbtv_1 => ?_) (fun hbtv_1 => ?_) -- @tv_1
    · skip
      refine J.callE en28 (s28 _ _ _ _ _ _ a b ha hb) rfl (fun _ _ hs => ⟨hA _ _ _ hs, hB _ _ _ hs⟩) ?_ -- @t16 callS (.func (.func 28) #[] #[]) [a0, a1]
      refine J.callE en29 (s29 _ _ _ _ _ _ a b ha hb) rfl (fun _ _ hs => ⟨hA _ _ _ hs, hB _ _ _ hs⟩) ?_ -- @t19 callS (.func (.func 29) #[] #[]) [a0, a1]
      refine J.opDT R.eql (by rfl) ?_ -- @t20
      refine J.gopT rfl ?_
      refine J.op R.pure ?_
      refine J.gopT rfl ?_
      refine J.op R.pure ?_
      refine J.gopT rfl ?_
      refine J.callT en32 (s32 _ _ _ _ _ _ a b ha hb) rfl (fun _ _ hs => ⟨hA _ _ _ hs, hB _ _ _ hs⟩) Take.nil (fun v es hv => ?_)
      obtain ⟨oa, on, oc, rfl, rfl⟩ := hv
      simp only [List.cons_append, List.nil_append] -- @t24 callS (.func (.func 32) #[] #[]) [t22, t23]
      refine J.gopT rfl ?_
      refine J.callT en31 (s31 (.slice oa on oc) (editsOf a b) hel) rfl (fun _ _ hs => SeeS.row (E := 68) (by with_reducible repeat (first | exact Pick.here | apply Pick.there)) _ _ hs) Take.nil (fun v es hv => ?_)
      obtain ⟨xa, xn, xc, rfl, rfl⟩ := hv
      simp only [List.cons_append, List.nil_append] -- @t25 callS (.func (.func 31) #[] #[]) [t24]
      refine J.gopT rfl ?_
      refine J.op R.pure ?_
      refine J.gopT rfl ?_
      refine J.op R.pure ?_
      refine J.gopT rfl ?_
      refine J.callT en33 (s33 _ _ _ _ _ _ a b ha hb) rfl (fun _ _ hs => ⟨hA _ _ _ hs, hB _ _ _ hs⟩) Take.nil (fun v es hv => ?_)
      obtain ⟨ya, yn, yc, rfl, rfl⟩ := hv
      simp only [List.cons_append, List.nil_append] -- @t28 callS (.func (.func 33) #[] #[]) [t26, t27]
      refine J.gopT rfl ?_
      refine J.callE en30 (s30 (.slice xa xn xc) (.slice ya yn yc) (editsOf a b) (editsOf a b)) rfl (fun _ _ hs => ⟨SeeS.row (E := 67) (by with_reducible repeat (first | exact Pick.here | apply Pick.there)) _ _ hs, SeeS.row (E := 67) (by with_reducible repeat (first | exact Pick.here | apply Pick.there)) _ _ hs⟩) ?_
      rw [show sameEB (editsOf a b) (editsOf a b) = true by simp [sameEB]] -- @t29 callS (.func (.func 30) #[] #[]) [t25, t28]
      refine J.op R.pickT ?_ -- @t30 pickS t20 t29 (.bool false)
      refine J.gopT rfl ?_
      refine J.callE en27 (s27) rfl (fun _ _ _ => trivial) ?_ -- @t32 callS (.func (.func 27) #[] #[]) []
      refine J.op R.pickT ?_ -- @t33 pickS t30 t32 (.bool false)
      exact J.done ⟨rfl, by simp [*], Imp.take (by (try dsimp only); repeat (first | exact Has.nil | refine Has.cons (by repeat (first | (with_reducible exact Out.here) | ((with_reducible refine Out.cells ?_); first | rfl | (simp; done)) | ((with_reducible refine Out.row ?_); first | rfl | (simp; done)) | (with_reducible apply Out.there))) ?_))⟩ -- @leaf[t33]
    · skip
      -- @ret[(tv_1.headDundef)]
      exact J.done (RetQ.e1 (by first | rfl | (simp [*]; done) | (simp_all []; done) | skip))
    · exact absurd trivial hbtv_1
end Go.Proofs.Ytllchkmggfcdgaa
