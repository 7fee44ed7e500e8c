/-
  The row DrillStepsSaid.
-/
import Derived.Test.YtipgdalebkhgpaaRows
import Derived.Test.YtipgdalebkhgpaaO8
import Derived.Test.YtipgdalebkhgpaaModRow
import Derived.ProofKit
set_option maxRecDepth 100000
set_option linter.unusedVariables false
namespace Go.Proofs.Ytipgdalebkhgpaa.DrillStepsRow
open Go Go.ChangeShapes Go.WideShapes Go.ChangeAt Go.RowKit Fw
theorem own : ownKnob Try.prog.godebug = none := by kernel_rfl
theorem laidOut : laidOutB Try.prog = true := by kernel_rfl
theorem kids : Kids Try.prog (· < Try.prog.types.size) := kids_rows (by kernel_rfl) (by kernel_rfl)
theorem full : ∀ t e, t < Try.prog.types.size → Try.prog.underlying t = some (.slice e) → 0 < Try.prog.cellsOf e := slices_full_of Try.prog (by kernel_rfl)
theorem rdb : (Try.f7.params.toList.all fun t => Try.prog.readableRec t && decide (t < Try.prog.types.size)) = true := by kernel_rfl
theorem rd : ∀ t, t ∈ Try.f7.params.toList → Try.prog.readableRec t = true ∧ t < Try.prog.types.size := fun t ht => by simpa using List.all_eq_true.1 rdb t ht
theorem tb : Try.f7.resultTypes = #[4] := by kernel_rfl
theorem bo : Try.prog.underlying 4 = some .bool := by kernel_rfl
theorem lt53 : 53 < Try.prog.types.size := Nat.le_of_ble_eq_true (by kernel_rfl)
theorem lt3 : 3 < Try.prog.types.size := Nat.le_of_ble_eq_true (by kernel_rfl)
theorem un3 : Try.prog.underlying 3 = some (.int .i64) := by kernel_rfl
theorem lt54 : 54 < Try.prog.types.size := Nat.le_of_ble_eq_true (by kernel_rfl)
theorem un54 : Try.prog.underlying 54 = some (.int .u64) := by kernel_rfl

theorem contract {H : Type} {enc : TypeId × Value → H} (W : World) (base : Nat) (args : Array Value) (ds : List (DataW H)) (p : List MemPlace)
    (hval : ∀ (j : Nat) t v, Try.f7.params[j]? = some t → args[j]? = some v → Value.okWide Try.prog W .any base t v)
    (hA : DataW.TrodAll enc Try.prog W 0 (fun _ => true) true Try.f7.params.toList args.toList ds p) :
    Calls Try.prog 7 args W fun e w' => e = .returned (.bool true) ∧ Below W.heap.size W w' := by
  rw [Try.params7] at hA hval
  obtain ⟨v0, vs0, d0, ds0, p0, q0, ha0, rfl, rfl, h0, r0⟩ := trodAll_cons hA
  obtain ⟨v1, vs1, d1, ds1, p1, q1, ha1, rfl, rfl, h1, r1⟩ := trodAll_cons r0
  subst ha1
  obtain ⟨v2, vs2, d2, ds2, p2, q2, ha2, rfl, rfl, h2, r2⟩ := trodAll_cons r1
  subst ha2
  obtain ⟨v3, vs3, d3, ds3, p3, q3, ha3, rfl, rfl, h3, r3⟩ := trodAll_cons r2
  subst ha3
  obtain ⟨rfl, rfl, rfl⟩ := trodAll_nil r3
  obtain rfl : args = #[v0, v1, v2, v3] := by cases args; simp_all
  obtain ⟨xa, ya, xn, xc, yn, yc, c, rfl, hc0⟩ := Cfg.of full kids lt53 (hval 0 53 v0 rfl rfl) h0
  obtain ⟨kind, rfl, _, _, w1⟩ := open_int un3 (hval 1 3 v1 rfl rfl) h1
  obtain ⟨x, rfl, _, _, w2⟩ := open_int un54 (hval 2 54 v2 rfl rfl) h2
  obtain ⟨n, rfl, _, _, w3⟩ := open_int un3 (hval 3 3 v3 rfl rfl) h3
  exact FnE.calls (s7 _ _ _ _ _ _ c kind x n) (hc0)

theorem lifted (os : Os) (started : os.Started) (H : Type) (enc : TypeId × Value → H) :
    ReturnsInHanded {} Try.checked os 7 .any (Rows.drillStepsSpec.pre6 enc Try.prog Try.f7 Rows.drillStepsRow.domain false) (Rows.drillStepsSpec.post enc Try.prog Try.f7 false true false false) := by
  refine returnsInHanded_of_change (C := Try.checked) own started (by kernel_rfl) Try.func7
    (ChangeSpec.witness6 (enc := enc) (C := Try.checked) false ⟨#[], #[.agg #[(.slice none 0 0), (.slice none 0 0), (.int .i64 0), (.int .i64 0), (.int .i64 0), (.int .i64 0), (.int .i64 0), (.int .i64 0)], (.int .i64 0), (.int .u64 0), (.int .i64 0)], []⟩ 8 (by kernel_rfl) (by kernel_rfl) (by kernel_rfl) (by kernel_rfl)) ?_
  intro W base args ds gs before hval0 hW0 hcnd _
  have hval : ∀ (j : Nat) t v, Try.f7.params[j]? = some t → args[j]? = some v → Value.okWide Try.prog W .any base t v := hval0
  have hW : DataW.Whole enc Try.prog Try.f7.params.toList Rows.drillStepsSpec.vars false W args.toList ds gs before := hW0
  clear hval0 hW0
  have hW' := hW
  obtain ⟨p, q, hA, hV, rfl, hfz, hnd⟩ := hW
  refine (contract W base args ds p hval hA).mono fun e W' ⟨he, hb⟩ => ?_
  subst he
  have hs : Rows.drillStepsSpec.fn H (ds ++ gs) = { results := [.lit (.bool true)], args := ds } := by
    obtain ⟨rfl, rfl⟩ := trodVars_none hV
    have hlen := trodAll_len hA
    rw [Try.params7] at hlen
    match ds, hlen with
    | [_, _, _, _], _ => rfl
  exact ⟨_, rfl, post_true laidOut rfl rd hs tb bo hW' hb⟩

theorem holds : Rows.DrillStepsSaid :=
  OpenClaim.holds_of_wide 7 Try.f7 rfl rfl rfl rfl rfl rfl rfl ⟨rfl, rfl, rfl, rfl, rfl⟩ rfl rfl rfl rfl rfl (by kernel_rfl) Try.func7 (by kernel_rfl)
    (of_decide_eq_true (by kernel_rfl)) (by unfold Func.isWrapper; first | (rw [if_pos (by decide +kernel)]; kernel_rfl) | (rw [if_neg (by decide +kernel)]; exact ⟨rfl, rfl⟩))
    (fun os started H enc _ => lifted os started H enc)
end Go.Proofs.Ytipgdalebkhgpaa.DrillStepsRow
namespace Go.Proofs.Ytipgdalebkhgpaa
theorem drillSteps_holds : Rows.DrillStepsSaid := DrillStepsRow.holds
end Go.Proofs.Ytipgdalebkhgpaa
