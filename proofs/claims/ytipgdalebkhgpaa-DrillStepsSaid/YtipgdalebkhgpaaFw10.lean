/-
  Slices: what they read as; elements reached; append; new rows; the results of a function.
-/
import Derived.Test.YtipgdalebkhgpaaFw9
import Derived.Maps.AppendAt
set_option linter.unusedVariables false
namespace Go.Proofs.Ytipgdalebkhgpaa.Fw
open Go Go.RowKit

/-- v is a slice; its elements' cells are els, each at its place. -/
def RdS (w : World) (v : Value) (sz : Nat) (els : List (List Value)) : Prop :=
  ∃ a c, v = .slice a els.length c ∧ els.length ≤ maxLen ∧ ∀ i l, els[i]? = some l → ∃ b o, a = some ⟨b, o, none⟩ ∧ ∀ j u, l[j]? = some u → w.cell? ⟨b, o + i * sz + j, none⟩ = some u
/-- The block of a slice's cells is at home below n, and not one of F. -/
def Under (v : Value) (n : Nat) (F : Nat → Prop) : Prop := ∀ b, v.ownBlock = some b → b < n ∧ ¬ F b

def slT (P : Program) (T E sz by_ : Nat) : Bool :=
  match P.underlying T, P.info? E with
  | some (.slice e), some i => Nat.beq e E && Nat.beq i.size sz && Nat.beq i.bytes by_ && (match i.zero with | some z => Nat.beq z.cells.size sz | none => false) && !(Nat.beq sz 0)
  | _, _ => false
theorem slT_spec {P : Program} {T E sz by_ : Nat} (h : slT P T E sz by_ = true) : P.underlying T = some (.slice E) ∧ 0 < sz ∧ ∃ i z, P.info? E = some i ∧ i.size = sz ∧ i.bytes = by_ ∧ i.zero = some z ∧ z.cells.size = sz := by
  unfold slT at h
  split at h
  · rename_i e i h1 h2
    simp only [Bool.and_eq_true] at h
    obtain ⟨⟨⟨⟨h3, h4⟩, h5⟩, h6⟩, h7⟩ := h
    cases hz : i.zero with
    | none => rw [hz] at h6; cases h6
    | some z =>
      rw [hz] at h6
      have e1 := Nat.eq_of_beq_eq_true h3
      subst e1
      refine ⟨h1, ?_, i, z, h2, Nat.eq_of_beq_eq_true h4, Nat.eq_of_beq_eq_true h5, hz, Nat.eq_of_beq_eq_true h6⟩
      rcases Nat.eq_zero_or_pos sz with h0 | h0
      · subst h0; cases h7
      · exact h0
  · cases h

theorem run_und {P : Program} {t : TypeId} {d : TypeDesc} (h : P.underlying t = some d) (w : World) : (underlying t).run P w = .ok d w := by
  unfold underlying
  simp only [Sem.run_bind, run_program, Result.andThen_ok, h, Sem.run_pure]

section
variable {K : Kx} {r : Option Nat} {H : List Ent} {Q : Post}

def SeeS (K : Kx) (H : List Ent) (v : Value) (sz : Nat) (els : List (List Value)) : Prop := ∀ Ds w, St K Ds w H → RdS w v sz els
/-- The cells from o on in block b. -/
def Kn (K : Kx) (H : List Ent) (b o : Nat) (l : List Value) : Prop := ∀ Ds w, St K Ds w H → ∀ j u, l[j]? = some u → w.cell? ⟨b, o + j, none⟩ = some u

/-- What was there at the start stays. -/
theorem RdS.keep {w w' : World} {v : Value} {sz : Nat} {els : List (List Value)} (h : RdS w v sz els) (hw : ∀ b, v.ownBlock = some b → w'.heap[b]? = w.heap[b]?) : RdS w' v sz els := by
  obtain ⟨a, c, rfl, hm, h⟩ := h
  refine ⟨a, c, rfl, hm, fun i l hi => ?_⟩
  obtain ⟨b, o, rfl, h2⟩ := h i l hi
  exact ⟨b, o, rfl, fun j u hj => (World.cell?_of_block (hw b rfl)).trans (h2 j u hj)⟩
theorem RdS.under {w : World} {v : Value} {sz : Nat} {els : List (List Value)} (h : RdS w v sz els) (hsz : ∀ l, l ∈ els → l ≠ []) : els = [] ∨ ∀ b, v.ownBlock = some b → b < w.heap.size := by
  obtain ⟨a, c, rfl, hm, h⟩ := h
  cases els with
  | nil => exact .inl rfl
  | cons l els =>
    refine .inr fun b hb => ?_
    obtain ⟨b', o, rfl, h2⟩ := h 0 l rfl
    cases hb
    cases l with
    | nil => exact absurd rfl (hsz _ List.mem_cons_self)
    | cons u l =>
      have := World.block_lt_of_cell? _ _ (h2 0 u rfl)
      exact this
theorem SeeS.ofW {v : Value} {sz : Nat} {els : List (List Value)} (h : RdS K.W v sz els) (hl : ∀ l, l ∈ els → l ≠ []) (hF : ∀ b, v.ownBlock = some b → ¬ K.F0 b) : SeeS K H v sz els := by
  intro Ds w hs
  rcases h.under hl with rfl | hu
  · obtain ⟨a, c, rfl, hm, h⟩ := h
    exact ⟨a, c, rfl, hm, fun i l hi => by simp at hi⟩
  · exact h.keep fun b hb => hs.frame b (hu b hb) (hF b hb)
/-- .. where the function turns nothing that was there. -/
theorem SeeS.ofW0 {P : Program} {W : World} {v : Value} {sz : Nat} {els : List (List Value)} (h : RdS W v sz els) (hl : ∀ l, l ∈ els → l ≠ []) : SeeS ⟨P, W, footOf []⟩ H v sz els :=
  SeeS.ofW h hl fun b _ ⟨e, he, _⟩ => by cases he

/-- A row of one's own, or nil. -/
def Ent.row (v : Value) (sz : Nat) (els : List (List Value)) (E : TypeId) : Ent where
  foot := fun x => v.ownBlock = some x
  holds := fun w => w.ownsRow 0 E sz v els.length els.flatten ∧ ∀ l, l ∈ els → l.length = sz
  loc := fun w w' h hw => ⟨by
    obtain ⟨h1, h2⟩ := hw.1
    refine ⟨h1, ?_⟩
    rcases h2 with h2 | ⟨g, cap, cur, h3, h4, h5, h6⟩
    · exact .inl h2
    · subst h3
      exact .inr ⟨g, cap, cur, rfl, h4, (h g rfl).trans h5, h6⟩, hw.2⟩
  inb := fun w hw b hb => (hw.1.lt b hb).2

theorem flatten_getElem {α : Type} {sz : Nat} : ∀ (els : List (List α)) (i : Nat) (l : List α) (j : Nat) (u : α), (∀ l, l ∈ els → l.length = sz) → els[i]? = some l → l[j]? = some u → els.flatten[i * sz + j]? = some u
  | [], i, l, j, u, _, hi, _ => by simp at hi
  | x :: els, 0, l, j, u, hl, hi, hj => by
    simp at hi
    subst hi
    simp only [Nat.zero_mul, Nat.zero_add, List.flatten_cons]
    rw [List.getElem?_append_left (List.getElem?_eq_some_iff.1 hj).1]
    exact hj
  | x :: els, i + 1, l, j, u, hl, hi, hj => by
    have h0 := hl x List.mem_cons_self
    simp only [List.flatten_cons]
    rw [List.getElem?_append_right (by rw [h0, Nat.succ_mul]; omega), h0]
    have : (i + 1) * sz + j - sz = i * sz + j := by rw [Nat.succ_mul]; omega
    rw [this]
    exact flatten_getElem els i l j u (fun l h => hl l (List.mem_cons_of_mem _ h)) (by simpa using hi) hj

theorem ownsRow_rd {w : World} {base : Nat} {E : TypeId} {sz : Nat} {v : Value} {els : List (List Value)} (h : w.ownsRow base E sz v els.length els.flatten) (hl : ∀ l, l ∈ els → l.length = sz) : RdS w v sz els := by
  obtain ⟨h1, ⟨rfl, h2⟩ | ⟨g, cap, cur, rfl, h4, h5, h6, h7, h8, h9⟩⟩ := h
  · exact ⟨none, 0, by rw [h2], by rw [h2]; exact Nat.zero_le _, fun i l hi => by
      have := List.length_eq_zero_iff.1 h2
      subst this
      simp at hi⟩
  · refine ⟨_, cap, rfl, Nat.le_trans h6 h7, fun i l hi => ⟨g, 0, rfl, fun j u hj => ?_⟩⟩
    have hf := flatten_getElem els i l j u hl hi hj
    rw [← h9, List.getElem?_take] at hf
    have : w.cell? ⟨g, 0 + i * sz + j, none⟩ = cur.toList[i * sz + j]? := by
      simp [World.cell?, h5]
    rw [this]
    split at hf
    · exact hf
    · cases hf
theorem SeeS.row {v : Value} {sz : Nat} {els : List (List Value)} {E : TypeId} {f : Ent → List Ent} (hp : Pick H (Ent.row v sz els E) f) : SeeS K H v sz els := fun _ w hs =>
  have h := hs.ents _ hp.mem
  ownsRow_rd h.1 h.2
/-- A slice over the head of a block. -/
theorem SeeS.cells {b n c : Nat} {cs : List Value} {T : TypeId} {sz : Nat} {els : List (List Value)} {f : Ent → List Ent} (hp : Pick H (Ent.cells b cs T) f) (hn : els.length = n) (hm : n ≤ maxLen)
    (h : ∀ i l, els[i]? = some l → ∀ j u, l[j]? = some u → cs[i * sz + j]? = some u) : SeeS K H (.slice (some ⟨b, 0, none⟩) n c) sz els := fun _ w hs =>
  ⟨_, c, by rw [hn], by rw [hn]; exact hm, fun i l hi => ⟨b, 0, rfl, fun j u hj => by
    rw [cell_block (hs.ents _ hp.mem), Nat.zero_add]
    exact h i l hi j u hj⟩⟩
theorem SeeS.nil {c sz : Nat} {a : Option Addr} : SeeS K H (.slice a 0 c) sz [] := fun _ w hs => ⟨a, c, rfl, Nat.zero_le _, fun i l hi => by simp at hi⟩
theorem SeeS.shape {v : Value} {sz : Nat} {els : List (List Value)} {Ds : List Nat} {w : World} (h : SeeS K H v sz els) (hs : St K Ds w H) : ∃ a c, v = .slice a els.length c := by
  obtain ⟨a, c, hv, _, _⟩ := h Ds w hs
  exact ⟨a, c, hv⟩

theorem RdS.le {w : World} {v : Value} {sz : Nat} {els : List (List Value)} (h : RdS w v sz els) : els.length ≤ maxLen := by
  obtain ⟨_, _, _, h, _⟩ := h
  exact h
/-- A fact on values, out of the heap. -/
theorem J.fact {φ : Prop} {p : Prog} (h : ∀ Ds w, St K Ds w H → φ) (hk : φ → J K r H p Q) : J K r H p Q := fun Ds w hs => hk (h Ds w hs) Ds w hs

/-- The length. -/
theorem R.len {T E sz by_ ty : Nat} {cs : Array Bool} {v : Value} {els : List (List Value)} (hT : slT K.P T E sz by_ = true) (h : SeeS K H v sz els) : Runs K H (bltS .len #[T] ty cs [v]) (.int .i64 els.length) := by
  intro Ds w hs
  obtain ⟨a, c, rfl⟩ := h.shape hs
  obtain ⟨h1, _⟩ := slT_spec hT
  show (builtin .len #[T] ty cs #[_]).run K.P w = _
  simp [builtin, Builtin.len_, run_und h1, goInt]

/-- An element's address: its cells are known. -/
theorem J.ix {T E sz by_ : Nat} {q : Bool} {kk : IntKind} {i : Int} {v : Value} {els : List (List Value)} {l : List Value} {k : Value → Prog} (hT : slT K.P T E sz by_ = true) (h : SeeS K H v sz els) (h0 : 0 ≤ i) (hi : els[i.toNat]? = some l)
    (hk : ∀ b o, Kn K H b o l → J K r H (k (.pointer (some ⟨b, o, none⟩))) Q) : J K r H (.op q (vS (Instr.indexAt T v (.int kk i))) k) Q := by
  intro Ds w hs
  obtain ⟨h1, hsz, inf, z, hinf, h2, -⟩ := slT_spec hT
  obtain ⟨a, c, rfl, -, ha⟩ := h Ds w hs
  obtain ⟨b, o, rfl, hb⟩ := ha _ l hi
  have hlt : i < els.length := by
    have := (List.getElem?_eq_some_iff.1 hi).1
    omega
  have hrun : (vS (Instr.indexAt T (.slice (some ⟨b, o, none⟩) els.length c) (.int kk i))).run K.P w = .ok (.value (.pointer (some ⟨b, o + i.toNat * sz, none⟩))) w := by
    refine vS_run ?_
    unfold Instr.indexAt
    simp [asIntOf, run_und h1, h0, hlt, sizeOf, typeInfo, hinf, h2, add_block]
  have hkn : Kn K H b (o + i.toNat * sz) l := by
    intro Ds' w' hs' j u hj
    obtain ⟨a', c', hv', -, ha'⟩ := h Ds' w' hs'
    obtain ⟨b', o', hab, hb'⟩ := ha' _ l hi
    cases hv'
    cases hab
    exact hb' j u hj
  have hj := hk _ _ hkn Ds w hs
  cases q with
  | true => exact ⟨_, hrun, hj⟩
  | false =>
    show opU _ _ _
    rw [hrun]
    exact hj

theorem R.ldK {T b o j : Nat} {l : List Value} {v : Value} (hT : one K.P T = true) (h : Kn K H b o l) (hj : l[j]? = some v) : Runs K H (vS (Instr.loadAt T (.pointer (some ⟨b, o + j, none⟩)))) v :=
  fun Ds w hs => run_loadAt_one hT (h Ds w hs j v hj)
theorem R.ldK0 {T b o : Nat} {v : Value} {l : List Value} (hT : one K.P T = true) (h : Kn K H b o (v :: l)) : Runs K H (vS (Instr.loadAt T (.pointer (some ⟨b, o, none⟩)))) v :=
  fun Ds w hs => run_loadAt_one hT (h Ds w hs 0 v rfl)
theorem R.ldKA {T n b o : Nat} {l : List Value} (hT : aggN K.P T n = true) (h : Kn K H b o l) (hn : l.length = n) : Runs K H (vS (Instr.loadAt T (.pointer (some ⟨b, o, none⟩)))) (.agg l.toArray) :=
  fun Ds w hs => run_loadAt_agg hT hn fun j v hj => by rw [add_block]; exact h Ds w hs j v hj
theorem Kn.drop {b o j : Nat} {l l' : List Value} (h : Kn K H b o l) (hl : l.drop j = l') : Kn K H b (o + j) l' := fun Ds w hs i u hi => by
  subst hl
  rw [List.getElem?_drop] at hi
  rw [Nat.add_assoc]
  exact h Ds w hs (j + i) u hi
theorem Kn.take {b o n : Nat} {l l' : List Value} (h : Kn K H b o l) (hl : l.take n = l') : Kn K H b o l' := fun Ds w hs i u hi => by
  subst hl
  rw [List.getElem?_take] at hi
  split at hi
  · exact h Ds w hs i u hi
  · cases hi
theorem Kn.cells {b : Nat} {cs : List Value} {T : TypeId} {f : Ent → List Ent} (hp : Pick H (Ent.cells b cs T) f) : Kn K H b 0 cs := fun Ds w hs j u hj => by
  rw [cell_block (hs.ents _ hp.mem), Nat.zero_add]; exact hj

/-- A part of a slice. -/
theorem RdS.sub {w : World} {v : Value} {sz : Nat} {els : List (List Value)} {l h c : Nat} {a : Option Addr} (hr : RdS w (.slice a els.length c) sz els) (hlh : l ≤ h) (hh : h ≤ els.length) (hc : els.length ≤ c) :
    RdS w (.slice (if c = l then a else a.map (·.add (l * sz))) (h - l) (c - l)) sz ((els.drop l).take (h - l)) := by
  obtain ⟨a', c', hv, hm, hr⟩ := hr
  cases hv
  refine ⟨_, _, by rw [List.length_take, List.length_drop, Nat.min_eq_left (by omega)], by rw [List.length_take, List.length_drop]; omega, fun i x hi => ?_⟩
  rw [List.getElem?_take] at hi
  split at hi
  · rw [List.getElem?_drop] at hi
    obtain ⟨b, o, rfl, hb⟩ := hr _ _ hi
    have hlt : l < c := by
      have := (List.getElem?_eq_some_iff.1 hi).1
      omega
    rw [if_neg (by omega)]
    refine ⟨b, o + l * sz, by simp [add_block], fun j u hj => ?_⟩
    have := hb j u hj
    rw [Nat.add_mul] at this
    rw [← this]
    congr 2
    omega
  · cases hi

/-- append onto a row of one's own. -/
theorem run_append_nil {P : Program} {w : World} {E : TypeId} {sz T ty m : Nat} {v : Value} {n : Nat} {xs : List Value} {a : Option Addr} {i : TypeInfo} (hu : P.underlying T = some (.slice E)) (hi : P.info? E = some i) (hsz : i.size = sz) (h : w.ownsRow 0 E sz v n xs) :
    (Builtin.append_ #[T, T] ty #[v, .slice a 0 m]).run P w = .ok v w := by
  have hf : (Builtin.firstCells sz 0 (.slice a 0 m)).run P w = .ok #[] w := by
    cases a with
    | none => rfl
    | some a =>
      have := run_firstCells_some (P := P) w sz 0 a 0 m [] (by simp) (by simp)
      exact this
  rcases h with ⟨h1, ⟨rfl, rfl⟩ | ⟨g, cap, cur, rfl, h4, h5, h6, h7, h8, h9⟩⟩
  · simp [Builtin.append_, run_und hu, sizeOf, typeInfo, hi, hsz, Builtin.lenOf, hf]
  · simp [Builtin.append_, run_und hu, sizeOf, typeInfo, hi, hsz, Builtin.lenOf, hf, h6, storeCells]

theorem J.append {T E sz by_ ty : Nat} {cs : Array Bool} {v x : Value} {els els' : List (List Value)} {f : Ent → List Ent} {k : Value → Prog} (hT : slT K.P T E sz by_ = true) (hp : Pick H (Ent.row v sz els E) f) (hx : SeeS K H x sz els')
    (h1 : ∀ l, l ∈ els' → l.length = sz ∧ ∀ u, u ∈ l → u.oneCell' = true) (hb : (els.length + els'.length) * by_ ≤ 140737488355328) (hb' : els.length + els'.length ≤ maxLen)
    (hk : ∀ a n c, J K r (f (Ent.row (.slice a n c) sz (els ++ els') E)) (k (.slice a n c)) Q) : J K r H (.op false (bltS .append #[T, T] ty cs [v, x]) k) Q := by
  intro Ds w hs
  obtain ⟨hu, hsz, inf, z, hinf, h2, h3, h4, h5⟩ := slT_spec hT
  obtain ⟨hrow, hlens⟩ := hs.ents _ hp.mem
  obtain ⟨a, c, rfl, -, hrd⟩ := hx Ds w hs
  show opU _ _ ((builtin .append #[T, T] ty cs #[v, .slice a els'.length c]).run K.P w)
  cases els' with
  | nil =>
    have hrun := run_append_nil (ty := ty) (m := c) (a := a) hu hinf h2 hrow
    have : (builtin .append #[T, T] ty cs #[v, .slice a ([] : List (List Value)).length c]).run K.P w = .ok (.value v) w := by
      simp [builtin, hrun]
    rw [this]
    have hv : ∃ a n c, v = .slice a n c := by
      rcases hrow with ⟨_, ⟨rfl, _⟩ | ⟨g, cap, cur, rfl, _⟩⟩
      · exact ⟨_, _, _, rfl⟩
      · exact ⟨_, _, _, rfl⟩
    obtain ⟨a1, n1, c1, rfl⟩ := hv
    have hq := hk a1 n1 c1
    rw [List.append_nil] at hq
    obtain ⟨A, B, rfl, hf⟩ := hp.split
    rw [hf] at hq
    exact hq Ds w hs
  | cons l0 els' =>
    obtain ⟨b, o, rfl, hb0⟩ := hrd 0 l0 rfl
    have hlen' : ∀ l, l ∈ l0 :: els' → l.length = sz := fun l hl => (h1 l hl).1
    have hfl : (l0 :: els').flatten.length = (l0 :: els').length * sz := by
      have : ∀ (L : List (List Value)), (∀ l, l ∈ L → l.length = sz) → L.flatten.length = L.length * sz := by
        intro L
        induction L with
        | nil => intro _; simp
        | cons x L ih => intro hL; rw [List.flatten_cons, List.length_append, ih (fun l hl => hL l (List.mem_cons_of_mem _ hl)), hL x List.mem_cons_self, List.length_cons, Nat.succ_mul]; omega
      exact this _ hlen'
    have hnews : ∀ j u, (l0 :: els').flatten[j]? = some u → w.cell? ((⟨b, o, none⟩ : Addr).add j) = some u := by
      intro j u hj
      have hjl := (List.getElem?_eq_some_iff.1 hj).1
      rw [hfl] at hjl
      have hd : j / sz < (l0 :: els').length := (Nat.div_lt_iff_lt_mul hsz).2 hjl
      obtain ⟨l, hl⟩ : ∃ l, (l0 :: els')[j / sz]? = some l := ⟨_, List.getElem?_eq_getElem hd⟩
      obtain ⟨b', o', hab, hb'⟩ := hrd _ l hl
      cases hab
      have hll := hlen' l (List.mem_of_getElem? hl)
      have hm : j % sz < l.length := by rw [hll]; exact Nat.mod_lt _ hsz
      have hfj := flatten_getElem (l0 :: els') (j / sz) l (j % sz) _ hlen' hl (List.getElem?_eq_getElem hm)
      have hdm : j / sz * sz + j % sz = j := by rw [Nat.mul_comm]; exact Nat.div_add_mod j sz
      rw [hdm, hj] at hfj
      rw [add_block, ← hdm, ← Nat.add_assoc]
      refine hb' _ u ?_
      rw [List.getElem?_eq_getElem hm]
      exact hfj.symm
    have hone : ∀ u, u ∈ (l0 :: els').flatten → u.oneCell' = true := by
      intro u hu'
      obtain ⟨l, hl, hul⟩ := List.mem_flatten.1 hu'
      exact (h1 l hl).2 u hul
    obtain ⟨v', w', hrun, hown, hg, -, hat⟩ := run_append_own_at (P := K.P) w 0 T ty E inf z sz by_ hu hinf h4 h2 h3 h5 hsz v els.length els.flatten hrow ⟨b, o, none⟩ (l0 :: els').length c (l0 :: els').flatten hfl hnews hone (by simpa using hb') (by simpa using hb) (Nat.zero_le _)
    have : (builtin .append #[T, T] ty cs #[v, .slice (some ⟨b, o, none⟩) (l0 :: els').length c]).run K.P w = .ok (.value v') w' := by
      simp only [builtin]
      simp only [Sem.run_bind, hrun, Result.andThen_ok, Sem.run_pure]
    rw [this]
    have hv : ∃ a n c, v' = .slice a n c := by
      rcases hown with ⟨_, ⟨rfl, _⟩ | ⟨g, cap, cur, rfl, _⟩⟩
      · exact ⟨_, _, _, rfl⟩
      · exact ⟨_, _, _, rfl⟩
    obtain ⟨a1, n1, c1, rfl⟩ := hv
    refine hk a1 n1 c1 Ds w' (hs.turn hp hg.os hg.tape hg.output hg.size ?_ ?_ ?_)
    · intro x hx
      rcases hat with h | h
      · exact .inl (h.symm.trans hx)
      · have hx' : (Value.slice a1 n1 c1).ownBlock = some x := hx
        rw [h] at hx'
        cases hx'
        exact .inr (Nat.le_refl _)
    · intro x hxlt hx
      exact hg.block x hxlt fun e => hx e.symm
    · refine ⟨?_, fun l hl => ?_⟩
      · rw [List.length_append, List.flatten_append]; exact hown
      · rcases List.mem_append.1 hl with hl | hl
        · exact hlens l hl
        · exact hlen' l hl

/-- nil, as a row of one's own. -/
theorem J.nilRow {p : Prog} {sz : Nat} {E : TypeId} (h : J K r (Ent.row (.slice none 0 0) sz [] E :: H) p Q) : J K r H p Q := by
  refine J.imp (fun Ds w hs => ?_) h
  refine ⟨hs.os, hs.tape, hs.output, hs.size, hs.frame, ?_, ?_, ?_, hs.nodup, ?_⟩
  · intro e he
    cases he with
    | head => exact ⟨World.ownsRow_nil w 0 E sz, fun l hl => by cases hl⟩
    | tail _ he => exact hs.ents e he
  · intro e he b hb
    cases he with
    | head => cases hb
    | tail _ he => exact hs.own e he b hb
  · refine List.pairwise_cons.2 ⟨?_, hs.disj⟩
    intro e _ b hb
    cases hb
  · intro D hD
    refine ⟨(hs.marks D hD).1, (hs.marks D hD).2.1, fun e he hf => ?_⟩
    cases he with
    | head => cases hf
    | tail _ he => exact (hs.marks D hD).2.2 e he hf

/-- A slice that is written out. -/
theorem J.bs {T n : Nat} {parts : Array (Nat × Value)} {cs : List Value} {E : TypeId} {k : Value → Prog} (h : ∀ w, (vS (Instr.buildSlice T n parts)).run K.P w = .ok (.value (.slice (some ⟨w.heap.size, 0, none⟩) n n)) (w.alloc (.cells cs.toArray E (0, 0))))
    (hk : ∀ b, J K r (Ent.cells b cs E :: H) (k (.slice (some ⟨b, 0, none⟩) n n)) Q) : J K r H (.op false (vS (Instr.buildSlice T n parts)) k) Q :=
  J.opA (o := .cells cs.toArray E (0, 0)) (mk := fun b => .slice (some ⟨b, 0, none⟩) n n) (fun _ w _ => h w) hk

/-! ### Results -/
theorem res_tmp {t : Nat} {v : Value} {P : Program} {w : World} : (resS [.tmp t] [v]).run P w = .ok v w := rfl
theorem res_cell {P : Program} {c T n b : Nat} {l : List Value} {w : World} (hT : aggN P T n = true) (hl : l.length = n) (hb : w.heap[b]? = some (.cells l.toArray T (0, 0))) :
    (resS [.cell c T] [.pointer (some ⟨b, 0, none⟩)]).run P w = .ok (.agg l.toArray) w := by
  have h := run_loadAt_agg (P := P) hT (a := ⟨b, 0, none⟩) (l := l) (w := w) hl (fun j v hj => by
    rw [add_block, Nat.zero_add]
    exact (cell_block hb j).trans hj)
  have h2 : (loadVar T ⟨b, 0, none⟩).run P w = .ok (.agg l.toArray) w := by
    unfold vS Instr.loadAt at h
    simp only [Instr.sureAddr, Sem.run_bind, Sem.run_pure, Result.andThen_ok] at h
    revert h
    cases (loadVar T ⟨b, 0, none⟩).run P w <;> intro h <;> simp_all [Result.andThen]
  unfold resS
  simp [asAddr, h2]
end
end Go.Proofs.Ytipgdalebkhgpaa.Fw
