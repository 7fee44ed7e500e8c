/-
  Maps whose keys and elements are numbers of 64 bits.
-/
import Derived.Test.YtipgdalebkhgpaaFw27
import Derived.Maps.Own
set_option linter.unusedVariables false
namespace Go.Proofs.Ytipgdalebkhgpaa.Fw
open Go Go.RowKit Go.ChangeMaps Go.MapKept

/-- Block b is a map of at most n entries that reads as D. -/
def Ent.map (P : Program) (k e : TypeId) (b n : Nat) (D : DataW Unit) : Ent where
  foot := fun x => x = b
  holds := fun w => w.ownsMap P k (plainElem P e) b n D
  loc := fun w w' h hw => by
    obtain ⟨es, clock, hb, F, hs, hD⟩ := hw
    exact ⟨es, clock, (h b rfl).trans hb, F, hs, hD⟩
  inb := fun w hw x hx => hx ▸ hw.lt

section
variable {K : Kx} {r : Option Nat} {H : List Ent} {Q : Post}

theorem J.makeMap {T k e : TypeId} {kk : Value → Prog} (hk : ∀ b, J K r (Ent.map K.P k e b 0 (.map []) :: H) (kk (.map (some b))) Q) : J K r H (.op false (vS (Instr.makeMap T none)) kk) Q := by
  refine J.opA (o := .map #[] 0) (mk := fun b => .map (some b)) (fun _ w _ => vS_run rfl) fun b => ?_
  refine J.imp (fun Ds w hs => ?_) (hk b)
  refine hs.turn (Pick.here) rfl rfl rfl (Nat.le_refl _) (fun x hx => .inl hx) (fun _ _ _ => rfl) ?_
  have hb := hs.ents _ List.mem_cons_self
  exact ⟨#[], 0, hb, ⟨by simp, stamped_empty 0, by simp⟩, Nat.le_refl _, rfl⟩
theorem R.lookup {T k e b n : Nat} {D : DataW Unit} {key c : Int} {f : Ent → List Ent} (hT : K.P.underlying T = some (.map k e)) (hk : K.P.underlying k = some (.int .i64)) (he : K.P.underlying e = some (.int .i64))
    (hz : ∀ w, (zeroValue e).run K.P w = .ok (.int .i64 0) w) (hp : Pick H (Ent.map K.P k e b n D) f) (hkey : (Lit.int .i64 key).wf = true) (hc : D.atKey (.int .i64 key) (.lit (.int .i64 0)) = .lit (.int .i64 c)) :
    Runs K H (vS (Instr.lookup T (.map (some b)) (.int .i64 key) false)) (.int .i64 c) := fun Ds w hs => by
  obtain ⟨c', hrun, hat, _⟩ := (hs.ents _ hp.mem).lookup_int (Maps.int_keyed hk) hT he (hz w) (Maps.keyOf_int_mk hk hkey)
  rw [hc] at hat
  cases hat
  exact vS_run hrun
theorem J.mapUpdate {T k e b n : Nat} {D : DataW Unit} {key v : Int} {f : Ent → List Ent} {kk : Value → Prog} (hT : K.P.underlying T = some (.map k e)) (hk : K.P.underlying k = some (.int .i64)) (he : K.P.underlying e = some (.int .i64))
    (hp : Pick H (Ent.map K.P k e b n D) f) (hn : n < maxLen) (hkey : (Lit.int .i64 key).wf = true) (hv : (Lit.int .i64 v).wf = true)
    (hK : J K r (f (Ent.map K.P k e b (n + 1) (D.put (.int .i64 key) (.lit (.int .i64 v))))) (kk undef) Q) : J K r H (.op false (uS (Instr.mapUpdate T (.map (some b)) (.int .i64 key) (.int .i64 v))) kk) Q := by
  intro Ds w hs
  obtain ⟨w', hrun, hown, hg⟩ := (hs.ents _ hp.mem).update (Maps.int_keyed hk) hT hn (Maps.keyOf_int_mk hk hkey) (plainElem_int he hv)
  show opU _ _ _
  rw [uS_run hrun]
  refine hK Ds w' (hs.turn hp hg.os hg.tape hg.output hg.size (fun x hx => .inl hx) (fun x hx hne => hg.block x hx fun e' => hne (by cases e'; rfl)) hown)
end
end Go.Proofs.Ytipgdalebkhgpaa.Fw
