/-
  How much was traded at each price.
-/
import Derived.Test.YtipgdalebkhgpaaModTape
import Derived.Test.YtipgdalebkhgpaaModSorted
set_option maxRecDepth 20000
set_option linter.unusedVariables false
namespace Go.Proofs.Ytipgdalebkhgpaa
open Go Go.RowKit Fw

def volAt : List Msg → Int → Int
  | [], _ => 0
  | m :: c, k => (if m.price = k then m.qty else 0) + volAt c k
theorem volAt_snoc {c : List Msg} {m : Msg} {k : Int} : volAt (c ++ [m]) k = volAt c k + (if m.price = k then m.qty else 0) := by
  induction c with
  | nil => simp [volAt]
  | cons x c ih => simp only [List.cons_append, volAt, ih]; omega
theorem volAt_range {c : List Msg} {k : Int} (h : Cok c) : 0 ≤ volAt c k ∧ volAt c k ≤ c.length * 4294967296 := by
  induction c with
  | nil => simp [volAt]
  | cons m c ih =>
    have := (h m List.mem_cons_self).qty
    have := ih h.tail
    simp only [volAt, List.length_cons]
    split <;> omega
theorem volAt_pos {c : List Msg} {m : Msg} (h : Cok c) (hm : m ∈ c) : 1 ≤ volAt c m.price := by
  induction c with
  | nil => cases hm
  | cons x c ih =>
    have h1 := (h x List.mem_cons_self).qty
    have h2 := volAt_range (k := m.price) h.tail
    simp only [volAt]
    rcases List.mem_cons.1 hm with rfl | hm
    · rw [if_pos rfl]; omega
    · have := ih h.tail hm
      split <;> omega
theorem volAt_none {c : List Msg} {k : Int} (h : ∀ m, m ∈ c → m.price ≠ k) : volAt c k = 0 := by
  induction c with
  | nil => rfl
  | cons x c ih =>
    simp only [volAt]
    rw [if_neg (h x List.mem_cons_self), ih (fun m hm => h m (List.mem_cons_of_mem _ hm))]; rfl

theorem mem_insert {x p : Lit × DataW Unit} : ∀ {l : List (Lit × DataW Unit)}, p ∈ DataW.insert x l → p = x ∨ p ∈ l
  | [], h => by simpa [DataW.insert] using h
  | y :: l, h => by
    unfold DataW.insert at h
    split at h
    · simpa using h
    · rcases List.mem_cons.1 h with rfl | h
      · exact .inr List.mem_cons_self
      · rcases mem_insert h with h | h
        · exact .inl h
        · exact .inr (List.mem_cons_of_mem _ h)
/-- The map D holds what was traded in c at each price. -/
structure MapP (D : DataW Unit) (c : List Msg) : Prop where
  tidy : Maps.Tidy D
  ints : ∀ es, D = .map es → ∀ p, p ∈ es → ∃ x, p.1 = .int .i64 x
  at_ : ∀ k, D.atKey (.int .i64 k) (.lit (.int .i64 0)) = .lit (.int .i64 (volAt c k))
  has_ : ∀ k, Maps.has D (.int .i64 k) = true ↔ ∃ m, m ∈ c ∧ m.price = k
  size : Maps.size D ≤ c.length
theorem MapP.zero : MapP (.map []) [] :=
  ⟨Maps.tidy_empty, (fun es h p hp => by cases h; cases hp), (fun k => rfl), (fun k => by simp [Maps.has]), Nat.le_refl _⟩
theorem lit_ne {a b : Int} (h : a ≠ b) : Lit.int .i64 a ≠ Lit.int .i64 b := fun e => h (by cases e; rfl)
theorem MapP.step {D : DataW Unit} {c : List Msg} {m : Msg} (h : MapP D c) : MapP (D.put (.int .i64 m.price) (.lit (.int .i64 (volAt c m.price + m.qty)))) (c ++ [m]) := by
  have hk : WideAt.IsKeyLit (.int .i64 m.price) := by constructor
  refine ⟨h.tidy.put hk _, ?_, ?_, ?_, ?_⟩
  · intro es he p hp
    obtain ⟨es0, h0, _⟩ := h.tidy
    subst h0
    rw [DataW.put_eq] at he
    cases he
    rcases mem_insert hp with rfl | hp
    · exact ⟨_, rfl⟩
    · exact h.ints es0 rfl p (List.mem_filter.1 hp).1
  · intro k
    rw [volAt_snoc]
    by_cases e : m.price = k
    · subst e
      rw [Maps.atKey_put_same h.tidy.isMap hk, if_pos rfl]
    · rw [Maps.atKey_put_other (lit_ne (fun e' => e e'.symm)), h.at_, if_neg e, Int.add_zero]
  · intro k
    by_cases e : m.price = k
    · subst e
      rw [Maps.has_put_same h.tidy.isMap hk]
      simp
    · rw [Maps.has_put_other (lit_ne (fun e' => e e'.symm)), h.has_]
      constructor
      · rintro ⟨x, hx, hp⟩; exact ⟨x, List.mem_append_left _ hx, hp⟩
      · rintro ⟨x, hx, hp⟩
        rcases List.mem_append.1 hx with hx | hx
        · exact ⟨x, hx, hp⟩
        · rw [List.mem_singleton.1 hx] at hp; exact absurd hp e
  · rw [Maps.size_put h.tidy, List.length_append]
    have := h.size
    simp only [List.length_cons, List.length_nil]
    split <;> omega
theorem MapP.keys {D : DataW Unit} {c : List Msg} (h : MapP D c) {k : Int} : k ∈ intKeys D ↔ ∃ m, m ∈ c ∧ m.price = k := by
  rw [← h.has_]
  obtain ⟨es, rfl, _⟩ := h.tidy
  have hi := h.ints es rfl
  rw [Maps.has_eq, List.any_eq_true]
  simp only [intKeys, List.mem_map]
  constructor
  · rintro ⟨p, hp, rfl⟩
    obtain ⟨x, hx⟩ := hi p hp
    exact ⟨p, hp, by rw [hx]; simp [Lit.sameKey, Go.intOf]⟩
  · rintro ⟨p, hp, hs⟩
    obtain ⟨x, hx⟩ := hi p hp
    rw [hx] at hs
    exact ⟨p, hp, by rw [hx]; simpa [Lit.sameKey, Go.intOf] using hs⟩
end Go.Proofs.Ytipgdalebkhgpaa
namespace Go.Proofs.Ytipgdalebkhgpaa
open Go Go.RowKit Fw
theorem um43 : Try.prog.underlying 43 = some (.map 2 2) := by kernel_rfl
theorem um2 : Try.prog.underlying 2 = some (.int .i64) := by kernel_rfl
theorem zv2 : ∀ w, (zeroValue 2).run Try.prog w = .ok (.int .i64 0) w := fun w => by kernel_rfl
theorem wf64 {n : Int} (h : i64R n) : (Lit.int .i64 n).wf = true := by
  show (decide (IntKind.i64.min ≤ n) && decide (n ≤ IntKind.i64.max)) = true
  rw [Bool.and_eq_true]
  exact ⟨decide_eq_true h.1, decide_eq_true h.2⟩
theorem Ent.map_of {P : Program} {k e : TypeId} {K : Kx} {H : List Ent} {b n : Nat} {D : DataW Unit} {f : Ent → List Ent} (hp : Pick H (Ent.map P k e b n D) f) {Ds : List Nat} {w : World} (hs : St K Ds w H) : w.ownsMap P k (plainElem P e) b n D := hs.ents _ hp.mem
/-- b is the least price of those at which most was traded. -/
def bestP (c : List Msg) (b : Int) : Prop := (c = [] → b = 0) ∧ (c ≠ [] → (∃ m, m ∈ c ∧ m.price = b) ∧ ∀ m, m ∈ c → volAt c m.price < volAt c b ∨ (volAt c m.price = volAt c b ∧ b ≤ m.price))
theorem best_one {c : List Msg} {a b : Int} (ha : bestP c a) (hb : bestP c b) : a = b := by
  by_cases h : c = []
  · rw [ha.1 h, hb.1 h]
  · obtain ⟨⟨x, hx, rfl⟩, h1⟩ := ha.2 h
    obtain ⟨⟨y, hy, rfl⟩, h2⟩ := hb.2 h
    have := h1 y hy
    have := h2 x hx
    omega
end Go.Proofs.Ytipgdalebkhgpaa
namespace Go.Proofs.Ytipgdalebkhgpaa
open Go Go.RowKit Fw
theorem sorted_facts {D : DataW Unit} {c : List Msg} (h : MapP D c) {ss ks : List Int} (hs : ss.Perm (intKeys D)) (hk : ks = ss.mergeSort fun x y => decide (x ≤ y)) : (∀ k, k ∈ ks ↔ ∃ m, m ∈ c ∧ m.price = k) ∧ ks.Pairwise (fun a b => a ≤ b) := by
  subst hk
  constructor
  · intro k
    rw [← h.keys, (List.mergeSort_perm ss _).mem_iff, hs.mem_iff]
  · have := List.pairwise_mergeSort (le := fun x y : Int => decide (x ≤ y)) (fun a b c h1 h2 => by simp only [decide_eq_true_eq] at *; omega) (fun a b => by simp only [Bool.or_eq_true, decide_eq_true_eq]; omega) ss
    exact this.imp fun h => by simpa using h
theorem key_range {c : List Msg} (h : Cok c) {k : Int} (hk : ∃ m, m ∈ c ∧ m.price = k) : i64R k := by
  obtain ⟨m, hm, rfl⟩ := hk
  have := (h m hm).price
  exact ⟨by omega, by omega⟩
theorem keys_len {D : DataW Unit} {c : List Msg} (h : MapP D c) {ss ks : List Int} (hs : ss.Perm (intKeys D)) (hk : ks = ss.mergeSort fun x y => decide (x ≤ y)) : ks.length ≤ c.length := by
  subst hk
  rw [List.length_mergeSort, hs.length_eq]
  obtain ⟨es, rfl, _⟩ := h.tidy
  have := h.size
  simpa [intKeys, Maps.size_eq] using this
theorem best_step {V : Int → Int} {ks : List Int} {i : Nat} {p b : Int} (hs : ks.Pairwise (fun a b => a ≤ b)) (hp : ks[i]? = some p) (hb : i ≠ 0 → b ∈ ks.take i ∧ ∀ k, k ∈ ks.take i → V k < V b ∨ (V k = V b ∧ b ≤ k)) {q : Int}
    (hq : ((i = 0 ∨ V b < V p) ∧ q = p) ∨ (i ≠ 0 ∧ ¬ V b < V p ∧ q = b)) : q ∈ ks.take (i + 1) ∧ ∀ k, k ∈ ks.take (i + 1) → V k < V q ∨ (V k = V q ∧ q ≤ k) := by
  have hle : ∀ k, k ∈ ks.take i → k ≤ p := by
    intro k hk
    have h2 := hs.sublist (List.take_sublist (i + 1) ks)
    rw [take_snoc hp, List.pairwise_append] at h2
    exact h2.2.2 k hk p (by simp)
  rw [take_snoc hp]
  rcases hq with ⟨h, rfl⟩ | ⟨h0, h1, rfl⟩
  · refine ⟨by simp, fun k hk => ?_⟩
    rcases List.mem_append.1 hk with hk | hk
    · have hi : i ≠ 0 := by rintro rfl; simp at hk
      have h3 := h.resolve_left hi
      rcases (hb hi).2 k hk with h4 | h4
      · exact .inl (by omega)
      · exact .inl (by omega)
    · rw [List.mem_singleton.1 hk]; exact .inr ⟨rfl, Int.le_refl _⟩
  · obtain ⟨h2, h3⟩ := hb h0
    refine ⟨List.mem_append_left _ h2, fun k hk => ?_⟩
    rcases List.mem_append.1 hk with hk | hk
    · exact h3 k hk
    · rw [List.mem_singleton.1 hk]
      have := hle _ h2
      omega
end Go.Proofs.Ytipgdalebkhgpaa
namespace Go.Proofs.Ytipgdalebkhgpaa
open Go Go.RowKit Fw
theorem tick_at {c : List Msg} {m : Msg} (h : c[0]? = some m) : tickF c = m.tick := by
  cases c with
  | nil => cases h
  | cons x c => cases h; rfl
theorem keys_pos {c : List Msg} {ks : List Int} (hkm : ∀ k, k ∈ ks ↔ ∃ m, m ∈ c ∧ m.price = k) : (0 : Int) < (ks.length : Int) ↔ c ≠ [] := by
  constructor
  · rintro h rfl
    cases ks with
    | nil => simp at h
    | cons k ks => obtain ⟨m, hm, _⟩ := (hkm k).1 List.mem_cons_self; cases hm
  · intro h
    cases c with
    | nil => exact absurd rfl h
    | cons m c =>
      have := List.length_pos_of_mem ((hkm m.price).2 ⟨m, List.mem_cons_self, rfl⟩)
      omega
theorem best_end {c : List Msg} {ks : List Int} {b : Int} (hkm : ∀ k, k ∈ ks ↔ ∃ m, m ∈ c ∧ m.price = k) (h0 : ks.length = 0 → b = 0)
    (hb : ks.length ≠ 0 → b ∈ ks.take ks.length ∧ ∀ k, k ∈ ks.take ks.length → volAt c k < volAt c b ∨ (volAt c k = volAt c b ∧ b ≤ k)) : bestP c b := by
  have hp := keys_pos hkm
  rw [List.take_length] at hb
  refine ⟨fun h => h0 ?_, fun h => ?_⟩
  · have : ¬ (0 : Int) < (ks.length : Int) := fun h2 => hp.1 h2 h
    omega
  · have h1 := hp.2 h
    obtain ⟨h2, h3⟩ := hb (by omega)
    exact ⟨(hkm b).1 h2, fun m hm => h3 _ ((hkm _).2 ⟨m, hm, rfl⟩)⟩
end Go.Proofs.Ytipgdalebkhgpaa
namespace Go.Proofs.Ytipgdalebkhgpaa
open Go Go.RowKit Fw
structure RefB (c : List Msg) (i : Nat) (b most : Int) : Prop where
  le : i ≤ c.length
  zero : i = 0 → b = 0 ∧ most = 0
  pos : i ≠ 0 → most = volAt c b ∧ (∃ m, m ∈ c.take i ∧ m.price = b) ∧ ∀ m, m ∈ c.take i → volAt c m.price < most ∨ (volAt c m.price = most ∧ b ≤ m.price)
theorem RefB.yes {c : List Msg} {i : Nat} {b most : Int} {x : Msg} (h : RefB c i b most) (hx : c[i]? = some x) (hc : most < volAt c x.price ∨ (volAt c x.price = most ∧ x.price < b)) : RefB c (i + 1) x.price (volAt c x.price) := by
  have hlt := (List.getElem?_eq_some_iff.1 hx).1
  refine ⟨hlt, fun h => absurd h (by omega), fun _ => ⟨rfl, ⟨x, by rw [take_snoc hx]; simp, rfl⟩, fun m hm => ?_⟩⟩
  rw [take_snoc hx] at hm
  rcases List.mem_append.1 hm with hm | hm
  · have hi : i ≠ 0 := by rintro rfl; simp at hm
    have := (h.pos hi).2.2 m hm
    omega
  · rw [List.mem_singleton.1 hm]; exact .inr ⟨rfl, Int.le_refl _⟩
theorem RefB.no {c : List Msg} {i : Nat} {b most : Int} {x : Msg} (h : RefB c i b most) (hx : c[i]? = some x) (hp : 1 ≤ volAt c x.price) (hc : ¬ (most < volAt c x.price ∨ (volAt c x.price = most ∧ x.price < b))) : RefB c (i + 1) b most := by
  have hlt := (List.getElem?_eq_some_iff.1 hx).1
  have hi : i ≠ 0 := fun e => by have := (h.zero e).2; omega
  obtain ⟨h1, ⟨y, hy, hyb⟩, h3⟩ := h.pos hi
  refine ⟨hlt, fun h => absurd h (by omega), fun _ => ⟨h1, ⟨y, by rw [take_snoc hx]; exact List.mem_append_left _ hy, hyb⟩, fun m hm => ?_⟩⟩
  rw [take_snoc hx] at hm
  rcases List.mem_append.1 hm with hm | hm
  · exact h3 m hm
  · rw [List.mem_singleton.1 hm]; omega
theorem RefB.end {c : List Msg} {b most : Int} (h : RefB c c.length b most) : bestP c b := by
  refine ⟨fun he => (h.zero (by rw [he]; rfl)).1, fun hne => ?_⟩
  obtain ⟨h1, h2, h3⟩ := h.pos (fun e => hne (List.length_eq_zero_iff.1 e))
  rw [List.take_length] at h2 h3
  rw [h1] at h3
  exact ⟨h2, h3⟩
end Go.Proofs.Ytipgdalebkhgpaa
