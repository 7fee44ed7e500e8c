/-
  Slices that are written out, as rows; a slice against nil; bytes as a string.
-/
import Derived.Test.YtipgdalebkhgpaaFw27
import Derived.Laws.BytesArg
set_option linter.unusedVariables false
set_option linter.unusedSimpArgs false
namespace Go.Proofs.Ytipgdalebkhgpaa.Fw
open Go Go.RowKit

section
variable {K : Kx} {r : Option Nat} {H : List Ent} {Q : Post}

theorem Imp.rowOf {b n sz E : Nat} {cs : List Value} {els : List (List Value)} (he : els.flatten = cs) (hl : ∀ l, l ∈ els → l.length = sz) (hn : els.length = n) (hm : n ≤ maxLen) : Imp K (Ent.cells b cs E :: H) (Ent.row (.slice (some ⟨b, 0, none⟩) n n) sz els E :: H) := fun Ds w hs => by
  have hfl : els.flatten.length = els.length * sz := by
    clear he hn hm
    induction els with
    | nil => simp
    | cons x els ih =>
      rw [List.flatten_cons, List.length_append, hl x List.mem_cons_self, ih fun l h => hl l (List.mem_cons_of_mem _ h), List.length_cons, Nat.succ_mul, Nat.add_comm]
  have hc : (Ent.cells b cs E).holds w := hs.ents _ List.mem_cons_self
  have hc' : w.heap[b]? = some (.cells cs.toArray E (0, 0)) := hc
  have hd := List.pairwise_cons.1 hs.disj
  have hft : ∀ x, (Ent.row (.slice (some ⟨b, 0, none⟩) n n) sz els E).foot x → (Ent.cells b cs E).foot x := fun x hx => by
    have : some b = some x := hx
    cases this
    exact rfl
  refine ⟨hs.os, hs.tape, hs.output, hs.size, hs.frame, ?_, ?_, ?_, hs.nodup, ?_⟩
  · intro e he2
    cases he2 with
    | head =>
      refine ⟨⟨hfl, .inr ⟨b, n, cs.toArray, by rw [hn], Nat.zero_le _, hc', by rw [hn]; exact Nat.le_refl _, hm, ?_, ?_⟩⟩, hl⟩
      · rw [← he, ← hn]; simpa using hfl
      · rw [← he, ← hfl]; exact List.take_length
    | tail _ h => exact hs.ents e (List.mem_cons_of_mem _ h)
  · intro e he2 x hx
    cases he2 with
    | head => exact hs.own _ List.mem_cons_self x (hft x hx)
    | tail _ h => exact hs.own e (List.mem_cons_of_mem _ h) x hx
  · exact List.pairwise_cons.2 ⟨fun e h x hx => hd.1 e h x (hft x hx), hd.2⟩
  · intro D hD
    obtain ⟨m1, m2, m3⟩ := hs.marks D hD
    refine ⟨m1, m2, fun e he2 hf => ?_⟩
    cases he2 with
    | head => exact m3 _ List.mem_cons_self (hft _ hf)
    | tail _ h => exact m3 e (List.mem_cons_of_mem _ h) hf
/-- A slice that is written out, as a row. -/
theorem J.bsR {T n : Nat} {parts : Array (Nat × Value)} {cs : List Value} {E sz : Nat} {els : List (List Value)} {k : Value → Prog} (h : ∀ w, (vS (Instr.buildSlice T n parts)).run K.P w = .ok (.value (.slice (some ⟨w.heap.size, 0, none⟩) n n)) (w.alloc (.cells cs.toArray E (0, 0))))
    (he : els.flatten = cs) (hl : ∀ l, l ∈ els → l.length = sz) (hn : els.length = n) (hm : n ≤ maxLen)
    (hk : ∀ b, J K r (Ent.row (.slice (some ⟨b, 0, none⟩) n n) sz els E :: H) (k (.slice (some ⟨b, 0, none⟩) n n)) Q) : J K r H (.op false (vS (Instr.buildSlice T n parts)) k) Q :=
  J.bs h fun b => J.imp (Imp.rowOf he hl hn hm) (hk b)
theorem run_binSl (P : Program) (op : BinOp) (t : TypeId) (x y : Operand) (a b : Option Addr) (n m c d : Nat) (w : World) {v : Value} (h : (binOp op t (.slice a n c) (.slice b m d)).run P w = .ok v w) : (binS op t x y (.slice a n c) (.slice b m d)).run P w = .ok (.value v) w := by
  refine vS_run ?_
  have he : (eqGuard op t x y (.slice a n c) (.slice b m d)).run P w = .ok () w := by
    unfold eqGuard
    cases op <;> rfl
  simp only [Sem.run_bind, he, Result.andThen_ok, h]
theorem run_eqSl {P : Program} (d : Nat) {t e : TypeId} (h : P.underlying t = some (.slice e)) (a : Option Addr) (n c : Nat) (w : World) : (Op.equalIn (d + 1) t (.slice a n c) (.slice none 0 0)).run P w = .ok a.isNone w := by
  cases a <;> simp [Op.equalIn, run_und h]
theorem R.isNilSl {T E sz by_ : Nat} {x y : Operand} {a : Option Addr} {n c : Nat} (hT : slT K.P T E sz by_ = true) : Runs K H (binS .eql T x y (.slice a n c) (.slice none 0 0)) (.bool a.isNone) := .of fun w => run_binSl _ _ _ _ _ _ _ _ _ _ _ _ (by
  obtain ⟨h1, _⟩ := slT_spec hT
  simp only [binOp, Op.equal, Op.maxDepth, Sem.run_bind, run_eqSl 9999 h1 a n c w, Result.andThen_ok, Sem.run_pure])
theorem R.toStr {T E St : Nat} {v : Value} {xs : List Int} (hT : K.P.underlying T = some (.slice E)) (hE : K.P.underlying E = some (.int .u8)) (hS : K.P.underlying St = some .string) (h : SeeS K H v 1 (xs.map fun n => [.int .u8 n])) : Runs K H (vS (convert T St v)) (.string (strOfNums xs)) := fun Ds w hs => by
  refine vS_run ?_
  obtain ⟨a, c, rfl, -, hrd⟩ := h Ds w hs
  rw [List.length_map]
  cases a with
  | none =>
    have hx : xs = [] := by
      cases xs with
      | nil => rfl
      | cons x xs => obtain ⟨b, o, h, _⟩ := hrd 0 _ rfl; cases h
    subst hx
    exact run_convert_bytes_nil w T E hT hE _ _ St hS
  | some a =>
    cases xs with
    | nil =>
      rw [run_convert_bytes_string w T St E _ _ _ hT hE hS]
      rfl
    | cons x xs =>
      obtain ⟨b, o, h, _⟩ := hrd 0 _ rfl
      cases h
      refine run_convert_bytes_arg w T E hT hE b o _ c (x :: xs) rfl (fun i hi => ?_) St hS
      have hi' : i < (x :: xs).length := hi
      obtain ⟨b', o', h', hb'⟩ := hrd i [.int .u8 (x :: xs)[i]] (by rw [List.getElem?_map, List.getElem?_eq_getElem hi']; rfl)
      cases h'
      have := hb' 0 _ rfl
      rw [Nat.mul_one, Nat.add_zero] at this
      rw [this, List.getD_eq_getElem?_getD, List.getElem?_eq_getElem hi']
      rfl
end
end Go.Proofs.Ytipgdalebkhgpaa.Fw
