/-
  The row LimitStatesSaid.
-/
import Derived.Test.YtllchkmggfcdgaaRows
import Derived.Test.YtllchkmggfcdgaaL1
import Derived.ProofKit
set_option maxRecDepth 100000
set_option linter.unusedVariables false
namespace Go.Proofs.Ytllchkmggfcdgaa.LimitStatesRow
open Go Go.ChangeShapes Go.WideShapes Go.ChangeAt Go.RowKit Fw
theorem own : ownKnob Try.prog.godebug = none := by kernel_rfl
theorem laidOut : laidOutB Try.prog = true := by kernel_rfl
theorem kids : Kids Try.prog (· < Try.prog.types.size) := kids_rows (by kernel_rfl) (by kernel_rfl)
theorem full : ∀ t e, t < Try.prog.types.size → Try.prog.underlying t = some (.slice e) → 0 < Try.prog.cellsOf e := slices_full_of Try.prog (by kernel_rfl)
theorem rdb : (Try.f5.params.toList.all fun t => Try.prog.readableRec t && decide (t < Try.prog.types.size)) = true := by kernel_rfl
theorem rd : ∀ t, t ∈ Try.f5.params.toList → Try.prog.readableRec t = true ∧ t < Try.prog.types.size := fun t ht => by simpa using List.all_eq_true.1 rdb t ht
theorem tb : Try.f5.resultTypes = #[4] := by kernel_rfl
theorem bo : Try.prog.underlying 4 = some .bool := by kernel_rfl
theorem lt30 : 30 < Try.prog.types.size := Nat.le_of_ble_eq_true (by kernel_rfl)
theorem lv30 : leavesF Try.prog 8 30 = some (true, [.bool, .int .i64]) := by kernel_rfl
theorem co30 : Try.prog.cellsOf 30 = 2 := by kernel_rfl
theorem lt23 : 23 < Try.prog.types.size := Nat.le_of_ble_eq_true (by kernel_rfl)
theorem lv23 : leavesF Try.prog 8 23 = some (true, [.int .i64, .int .i64, .int .i64, .int .i64, .int .i64, .int .i64, .int .i64, .int .i64, .int .i64, .int .i64, .int .i64, .int .i64, .int .i64, .int .i64, .int .i64, .int .i64]) := by kernel_rfl
theorem co23 : Try.prog.cellsOf 23 = 16 := by kernel_rfl
theorem lt2 : 2 < Try.prog.types.size := Nat.le_of_ble_eq_true (by kernel_rfl)
theorem un2 : Try.prog.underlying 2 = some (.int .i64) := by kernel_rfl
theorem lt4 : 4 < Try.prog.types.size := Nat.le_of_ble_eq_true (by kernel_rfl)
theorem un4 : Try.prog.underlying 4 = some .bool := by kernel_rfl

theorem contract {H : Type} {enc : TypeId × Value → H} (W : World) (base : Nat) (args : Array Value) (ds : List (DataW H)) (p : List MemPlace)
    (hval : ∀ (j : Nat) t v, Try.f5.params[j]? = some t → args[j]? = some v → Value.okWide Try.prog W .any base t v)
    (hA : DataW.TrodAll enc Try.prog W 0 (fun _ => true) true Try.f5.params.toList args.toList ds p) :
    Calls Try.prog 5 args W fun e w' => e = .returned (.bool true) ∧ Below W.heap.size W w' := by
  rw [Try.params5] at hA hval
  obtain ⟨v0, vs0, d0, ds0, p0, q0, ha0, rfl, rfl, h0, r0⟩ := trodAll_cons hA
  obtain ⟨v1, vs1, d1, ds1, p1, q1, ha1, rfl, rfl, h1, r1⟩ := trodAll_cons r0
  subst ha1
  obtain ⟨v2, vs2, d2, ds2, p2, q2, ha2, rfl, rfl, h2, r2⟩ := trodAll_cons r1
  subst ha2
  obtain ⟨v3, vs3, d3, ds3, p3, q3, ha3, rfl, rfl, h3, r3⟩ := trodAll_cons r2
  subst ha3
  obtain ⟨rfl, rfl, rfl⟩ := trodAll_nil r3
  obtain rfl : args = #[v0, v1, v2, v3] := by cases args; simp_all
  obtain ⟨l0, rfl, hl0⟩ := arg_leaf full kids lt30 lv30 co30 (hval 0 30 v0 rfl rfl) h0
  obtain ⟨st, rfl⟩ := LSt.of hl0
  obtain ⟨l1, rfl, hl1⟩ := arg_leaf full kids lt23 lv23 co23 (hval 1 23 v1 rfl rfl) h1
  obtain ⟨s, rfl⟩ := Sym.of hl1
  obtain ⟨tick, rfl, _, _, w2⟩ := open_int un2 (hval 2 2 v2 rfl rfl) h2
  obtain ⟨touches, rfl, _, _⟩ := open_bool un4 (hval 3 4 v3 rfl rfl) h3
  exact FnE.calls (s5 st s tick touches) (trivial)

theorem lifted (os : Os) (started : os.Started) (H : Type) (enc : TypeId × Value → H) :
    ReturnsInHanded {} Try.checked os 5 .any (Rows.limitStatesSpec.pre6 enc Try.prog Try.f5 Rows.limitStatesRow.domain false) (Rows.limitStatesSpec.post enc Try.prog Try.f5 false true false false) := by
  refine returnsInHanded_of_change (C := Try.checked) own started (by kernel_rfl) Try.func5
    (ChangeSpec.witness6 (enc := enc) (C := Try.checked) false ⟨#[], #[.agg #[(.bool false), (.int .i64 0)], .agg #[(.int .i64 0), (.int .i64 0), (.int .i64 0), (.int .i64 0), (.int .i64 0), (.int .i64 0), (.int .i64 0), (.int .i64 0), (.int .i64 0), (.int .i64 0), (.int .i64 0), (.int .i64 0), (.int .i64 0), (.int .i64 0), (.int .i64 0), (.int .i64 0)], (.int .i64 0), (.bool false)], []⟩ 8 (by kernel_rfl) (by kernel_rfl) (by kernel_rfl) (by kernel_rfl)) ?_
  intro W base args ds gs before hval0 hW0 hcnd _
  have hval : ∀ (j : Nat) t v, Try.f5.params[j]? = some t → args[j]? = some v → Value.okWide Try.prog W .any base t v := hval0
  have hW : DataW.Whole enc Try.prog Try.f5.params.toList Rows.limitStatesSpec.vars false W args.toList ds gs before := hW0
  clear hval0 hW0
  have hW' := hW
  obtain ⟨p, q, hA, hV, rfl, hfz, hnd⟩ := hW
  refine (contract W base args ds p hval hA).mono fun e W' ⟨he, hb⟩ => ?_
  subst he
  have hs : Rows.limitStatesSpec.fn H (ds ++ gs) = { results := [.lit (.bool true)], args := ds } := by
    obtain ⟨rfl, rfl⟩ := trodVars_none hV
    have hlen := trodAll_len hA
    rw [Try.params5] at hlen
    match ds, hlen with
    | [_, _, _, _], _ => rfl
  exact ⟨_, rfl, post_true laidOut rfl rd hs tb bo hW' hb⟩

theorem holds : Rows.LimitStatesSaid :=
  OpenClaim.holds_of_wide 5 Try.f5 rfl rfl rfl rfl rfl rfl rfl ⟨rfl, rfl, rfl, rfl, rfl⟩ rfl rfl rfl rfl rfl (by kernel_rfl) Try.func5 (by kernel_rfl)
    (of_decide_eq_true (by kernel_rfl)) (by unfold Func.isWrapper; first | (rw [if_pos (by decide +kernel)]; kernel_rfl) | (rw [if_neg (by decide +kernel)]; exact ⟨rfl, rfl⟩))
    (fun os started H enc _ => lifted os started H enc)
end Go.Proofs.Ytllchkmggfcdgaa.LimitStatesRow
namespace Go.Proofs.Ytllchkmggfcdgaa
theorem limitStates_holds : Rows.LimitStatesSaid := LimitStatesRow.holds
end Go.Proofs.Ytllchkmggfcdgaa
