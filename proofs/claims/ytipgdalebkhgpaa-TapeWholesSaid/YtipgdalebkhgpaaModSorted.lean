/-
  The keys of a map, sorted: by the library's contracts.
-/
import Derived.Test.YtipgdalebkhgpaaShelfTry
import Derived.Test.YtipgdalebkhgpaaFw28
import Derived.Test.YtipgdalebkhgpaaTab
import Derived.Test.YtipgdalebkhgpaaModLim
set_option linter.unusedVariables false
namespace Go.Proofs.Ytipgdalebkhgpaa
open Go Go.Proofs Go.RowKit Go.Maps Go.Sort Go.Shelf Fw

theorem Try.sortsA (m : Nat) : AnyZI.SortsIn Try.prog Try.sortedA_ren Fence.wide m :=
  ⟨fun blk off cap ss W hH hblk hsz => callsIn_wide.2 (AnyM.slices_Sort_int Try.sortA blk off cap ss W hH hblk hsz),
   fun p cap W => callsIn_wide.2 (AnyM.slices_Sort_int_none Try.sortA p cap W)⟩
theorem ints_flat : ∀ l : List Int, (ints l).flatten = l.map encZ
  | [] => rfl
  | x :: l => by simp only [ints, List.map_cons, List.flatten_cons]; rw [← ints_flat l]; rfl
theorem sorted_keys (c b n : Nat) (D : DataW Unit) (hmax : Maps.size D ≤ 1000) :
    FnT Try.prog 55 [.func (.func 84) #[] #[.pointer (some ⟨c, 0, none⟩)]] (fun w => Blk w c [.map (some b)] 43 ∧ w.ownsMap Try.prog 2 (plainElem Try.prog 2) b n D) []
      (fun v es => ∃ ss : List Int, ss.Perm (intKeys D) ∧ es = [Ent.row v 1 (ints (ss.mergeSort fun x y => decide (x ≤ y))) 2]) := by
  rintro w ⟨hb, hown⟩ -
  have hlt : c < w.heap.size := (Array.getElem?_eq_some_iff.1 hb).1
  have hseq : SeqGives Fence.wide 2 Try.prog 84 #[.pointer (some ⟨c, 0, none⟩)] encZ (fun ss => ss.Perm (intKeys D)) (Maps.size D) w :=
    AnyZI.keys_gives (ρ := Try.keysA_ren) { Try.keysA with } Fence.wide _ trivial rfl (by omega) c b n D w hlt ((cell_block hb 0).trans rfl) hown
  have cS := AnyZI.sorted_in Try.sortedA Fence.wide 5 trivial trivial trivial trivial rfl (by omega) (Try.sortsA _) (Fw.enters_of Try.func83 (by kernel_rfl)) 84 #[.pointer (some ⟨c, 0, none⟩)] trivial (Fw.enters_of Try.func84 (by kernel_rfl)) _ _ (Nat.le_trans hmax (by decide)) (by omega) _ hseq
  change CallsIn _ _ Try.prog 55 _ _ _ at cS
  refine Calls.mono ((callsIn_wide (n := 5)).1 cS) ?_
  rintro e w' ⟨v, ss, rfl, hS, hrow, hnil, hbel⟩
  have hr2 : w'.ownsRow w.heap.size 2 1 v (ints (ss.mergeSort fun x y => decide (x ≤ y))).length (ints (ss.mergeSort fun x y => decide (x ≤ y))).flatten := by
    rw [ints_flat, ints_len, List.length_mergeSort]; exact hrow
  have hone : ∀ l, l ∈ ints (ss.mergeSort fun x y => decide (x ≤ y)) → l.length = 1 := by
    intro l hl
    simp only [ints, List.mem_map] at hl
    obtain ⟨x, _, rfl⟩ := hl
    rfl
  refine ⟨v, rfl, [Ent.row v 1 (ints (ss.mergeSort fun x y => decide (x ≤ y))) 2], ⟨_, Has.cons .here .nil, ss, hS, rfl⟩, ?_⟩
  refine ⟨hbel.os, hbel.tape, hbel.output, hbel.size, fun x hx _ => hbel.block x hx, ?_, ?_, List.pairwise_singleton _ _, List.nodup_nil, fun D' hD => by cases hD⟩
  · intro e he
    rw [List.mem_singleton.1 he]
    exact ⟨ownsRow_base_a hr2 (Nat.zero_le _), hone⟩
  · intro e he x hx
    rw [List.mem_singleton.1 he] at hx
    right
    rcases hr2.2 with ⟨rfl, _⟩ | ⟨g, cap, cur, rfl, hg, _⟩
    · cases hx
    · cases hx
      exact hg
end Go.Proofs.Ytipgdalebkhgpaa
