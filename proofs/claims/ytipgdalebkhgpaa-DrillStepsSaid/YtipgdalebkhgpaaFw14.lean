/-
  A row's arguments, opened by their types.
-/
import Derived.Test.YtipgdalebkhgpaaFw13
set_option linter.unusedVariables false
namespace Go.Proofs.Ytipgdalebkhgpaa.Fw
open Go Go.RowKit Go.ChangeShapes Go.WideShapes

section
variable {Hh : Type} {enc : TypeId × Value → Hh} {P : Program} {W : World} {sp : Nat → Bool} {held : Bool} {r : Reach} {b0 : Nat} {v : Value} {d : DataW Hh} {ps : List MemPlace}

theorem arg_leaf {T : TypeId} {L : List Leaf} (hz : ∀ t e, t < P.types.size → P.underlying t = some (.slice e) → 0 < P.cellsOf e) (K : Kids P (· < P.types.size)) (ht : T < P.types.size)
    (hT : leavesF P 8 T = some (true, L)) (hc : P.cellsOf T = L.length) (hok : Value.okWide P W r b0 T v) (hd : DataW.Trod enc P W 0 sp held T v d ps) : ∃ l, v = .agg l.toArray ∧ fitsR L l := by
  obtain ⟨n, hn⟩ := hd
  have ho := opn_of_trod hz K n T _ _ ht hn
  have hf := fits_of_opn 8 n T true L _ hT ho hc
  have hst : ∃ fs, P.underlying T = some (.struct fs) := by
    unfold leavesF at hT
    cases hu : P.underlying T with
    | none => rw [hu] at hT; cases hT
    | some e => rw [hu] at hT; cases e <;> simp at hT; exact ⟨_, rfl⟩
  obtain ⟨fs, hfs⟩ := hst
  obtain ⟨cs, rfl, _⟩ := okWide_struct hfs hok
  exact ⟨cs.toList, by simp, hf⟩
theorem arg_slice {T e : TypeId} (hz : ∀ t e, t < P.types.size → P.underlying t = some (.slice e) → 0 < P.cellsOf e) (K : Kids P (· < P.types.size)) (ht : T < P.types.size)
    (hT : P.underlying T = some (.slice e)) (hok : Value.okWide P W r b0 T v) (hd : DataW.Trod enc P W 0 sp held T v d ps) : ∃ n els, RdS W v (P.cellsOf e) els ∧ ∀ l, l ∈ els → l.length = P.cellsOf e ∧ opn P W n e l := by
  obtain ⟨n, hn⟩ := hd
  obtain ⟨a, len, cap, rfl⟩ := okWide_slice hT hok
  have ho := opn_of_trod hz K n T _ _ ht hn
  cases n with
  | zero => exact ho.elim
  | succ n =>
    unfold opn at ho
    rw [hT] at ho
    obtain ⟨v', els, hv, h1, h2⟩ := ho
    cases hv
    exact ⟨n, els, h1, h2⟩
theorem arg_slice_leaf {T e : TypeId} {a : Bool} {L : List Leaf} (hz : ∀ t e, t < P.types.size → P.underlying t = some (.slice e) → 0 < P.cellsOf e) (K : Kids P (· < P.types.size)) (ht : T < P.types.size)
    (hT : P.underlying T = some (.slice e)) (he : leavesF P 8 e = some (a, L)) (hc : P.cellsOf e = L.length) (hok : Value.okWide P W r b0 T v) (hd : DataW.Trod enc P W 0 sp held T v d ps) :
    ∃ els, RdS W v L.length els ∧ ∀ l, l ∈ els → fitsR L l := by
  obtain ⟨n, els, h1, h2⟩ := arg_slice hz K ht hT hok hd
  exact ⟨els, hc ▸ h1, fun l hl => fits_of_opn 8 n e a L l he (h2 l hl).2 hc⟩
end

theorem fitsR.cons {l : Leaf} {L : List Leaf} : ∀ {vs : List Value}, fitsR (l :: L) vs → ∃ v r, vs = v :: r ∧ l.okR v ∧ fitsR L r
  | v :: r, h => ⟨v, r, rfl, h.1, h.2⟩
  | [], h => h.elim
theorem fitsR.int {k : IntKind} {L : List Leaf} {vs : List Value} (h : fitsR (.int k :: L) vs) : ∃ x r, vs = .int k x :: r ∧ (Lit.int k x).wf = true ∧ fitsR L r := by
  obtain ⟨v, r, rfl, ⟨x, rfl, hw⟩, h2⟩ := h.cons
  exact ⟨x, r, rfl, hw, h2⟩
theorem fitsR.i64 {L : List Leaf} {vs : List Value} (h : fitsR (.int .i64 :: L) vs) : ∃ x r, vs = .int .i64 x :: r ∧ (-9223372036854775808 ≤ x ∧ x ≤ 9223372036854775807) ∧ fitsR L r := by
  obtain ⟨x, r, rfl, hw, h2⟩ := h.int
  refine ⟨x, r, rfl, ?_, h2⟩
  simp [Lit.wf, IntKind.min, IntKind.max, IntKind.signed, IntKind.bits] at hw
  omega
theorem fitsR.bool {L : List Leaf} {vs : List Value} (h : fitsR (.bool :: L) vs) : ∃ x r, vs = .bool x :: r ∧ fitsR L r := by
  obtain ⟨v, r, rfl, ⟨x, rfl⟩, h2⟩ := h.cons
  exact ⟨x, r, rfl, h2⟩
theorem fitsR.str {L : List Leaf} {vs : List Value} (h : fitsR (.str :: L) vs) : ∃ (x : ByteArray) (r : List Value), vs = .string x :: r ∧ x.size ≤ maxLen ∧ fitsR L r := by
  obtain ⟨v, r, rfl, ⟨x, rfl, hw⟩, h2⟩ := h.cons
  exact ⟨x, r, rfl, hw, h2⟩
theorem fitsR.nil : ∀ {vs : List Value}, fitsR [] vs → vs = []
  | [], _ => rfl
  | _ :: _, h => h.elim
theorem trodAll_len {Hh : Type} {enc : TypeId × Value → Hh} {P : Program} {w : World} {base : Nat} {sp : Nat → Bool} {held : Bool} : ∀ {ts : List TypeId} {vs : List Value} {ds : List (DataW Hh)} {ps : List MemPlace}, DataW.TrodAll enc P w base sp held ts vs ds ps → ds.length = ts.length
  | [], [], [], _, _ => rfl
  | _ :: _, _ :: _, _ :: _, _, ⟨_, _, _, h, _⟩ => by simp [trodAll_len h]
theorem els_map {α : Type} (c : α → List Value) (ok : α → Prop) : ∀ (els : List (List Value)), (∀ l, l ∈ els → ∃ a, l = c a ∧ ok a) → ∃ xs, els = List.map c xs ∧ ∀ a, a ∈ xs → ok a
  | [], _ => ⟨[], rfl, (by intro a ha; cases ha)⟩
  | l :: els, h => by
    obtain ⟨a, rfl, ha⟩ := h l List.mem_cons_self
    obtain ⟨xs, rfl, has⟩ := els_map c ok els fun l hl => h l (List.mem_cons_of_mem _ hl)
    exact ⟨a :: xs, rfl, fun x hx => by cases hx with | head => exact ha | tail _ hx => exact has x hx⟩

theorem wf_i64 {n : Int} (h : (Lit.int .i64 n).wf = true) : -9223372036854775808 ≤ n ∧ n ≤ 9223372036854775807 := by
  simp [Lit.wf, IntKind.min, IntKind.max, IntKind.signed, IntKind.bits] at h
  omega
theorem wf_u64 {n : Int} (h : (Lit.int .u64 n).wf = true) : 0 ≤ n ∧ n ≤ 18446744073709551615 := by
  simp [Lit.wf, IntKind.min, IntKind.max, IntKind.signed, IntKind.bits] at h
  omega
theorem wf_u8 {n : Int} (h : (Lit.int .u8 n).wf = true) : 0 ≤ n ∧ n ≤ 255 := by
  simp [Lit.wf, IntKind.min, IntKind.max, IntKind.signed, IntKind.bits] at h
  omega
end Go.Proofs.Ytipgdalebkhgpaa.Fw
