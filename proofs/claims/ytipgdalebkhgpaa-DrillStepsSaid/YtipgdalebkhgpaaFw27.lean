/-
  A part of a row.
-/
import Derived.Test.YtipgdalebkhgpaaFw26
import Derived.Laws.Slices
set_option linter.unusedVariables false
set_option linter.unusedSimpArgs false
namespace Go.Proofs.Ytipgdalebkhgpaa.Fw
open Go Go.RowKit

section
variable {K : Kx} {r : Option Nat} {H : List Ent} {Q : Post}

theorem Row.cap {g n c sz E : Nat} {els : List (List Value)} {f : Ent → List Ent} (hp : Pick H (Ent.row (.slice (some ⟨g, 0, none⟩) n c) sz els E) f) {Ds : List Nat} {w : World} (hs : St K Ds w H) : els.length ≤ c := by
  obtain ⟨⟨h1, ⟨h2, h3⟩ | ⟨g', cap, cur, hv, h4, h5, h6, h7, h8, h9⟩⟩, _⟩ := hs.ents _ hp.mem
  · cases h2
  · cases hv
    exact h6
theorem R.subS {T E E' sz by_ g n c l h : Nat} {kl kh : IntKind} {els : List (List Value)} {f : Ent → List Ent} (hT : slT K.P T E sz by_ = true) (hp : Pick H (Ent.row (.slice (some ⟨g, 0, none⟩) n c) sz els E') f) (hlh : l ≤ h) (hh : h ≤ els.length) :
    Runs K H (vS (Instr.sliceAt T (.slice (some ⟨g, 0, none⟩) n c) (some (.int kl (l : Int))) (some (.int kh (h : Int))) none)) (sliced (some ⟨g, 0, none⟩) l h c sz) := fun Ds w hs => by
  have hc := Row.cap hp hs
  obtain ⟨h1, hsz, inf, z, hinf, h2, -⟩ := slT_spec hT
  have he : K.P.elem T = E := by simp [Program.elem, h1]
  have hu : K.P.underlying T = some (.slice (K.P.elem T)) := by rw [he]; exact h1
  refine vS_run ?_
  rw [run_sliceAt_slice _ _ _ _ _ _ hu, run_slice_lh _ _ _ _ _ hu _ _ _ _ (by omega) (by omega) (by omega), he]
  simp [sizeOf, typeInfo, hinf, h2]
theorem SeeS.sub {E' sz g n c l h : Nat} {els : List (List Value)} {f : Ent → List Ent} (hp : Pick H (Ent.row (.slice (some ⟨g, 0, none⟩) n c) sz els E') f) (hlh : l ≤ h) (hh : h ≤ els.length) :
    SeeS K H (sliced (some ⟨g, 0, none⟩) l h c sz) sz ((els.drop l).take (h - l)) := fun Ds w hs => by
  have hc := Row.cap hp hs
  obtain ⟨a, c', hv, hm, hrd⟩ := SeeS.row hp Ds w hs
  cases hv
  have hlen : ((els.drop l).take (h - l)).length = h - l := by rw [List.length_take, List.length_drop]; omega
  refine ⟨_, c - l, by rw [hlen]; rfl, by rw [hlen]; omega, fun i x hi => ?_⟩
  rw [List.getElem?_take] at hi
  split at hi
  · rename_i hlt
    rw [List.getElem?_drop] at hi
    obtain ⟨b, o, hab, hb⟩ := hrd _ _ hi
    cases hab
    rw [if_neg (by omega)]
    refine ⟨g, 0 + l * sz, by simp only [Option.map_some, add_block, Nat.zero_add], fun j u hj => ?_⟩
    have := hb j u hj
    rwa [show 0 + l * sz + i * sz + j = 0 + (l + i) * sz + j by rw [Nat.add_mul]; omega]
  · cases hi
end
end Go.Proofs.Ytipgdalebkhgpaa.Fw
