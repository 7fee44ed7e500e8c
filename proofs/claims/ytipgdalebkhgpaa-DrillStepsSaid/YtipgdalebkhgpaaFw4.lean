/-
  Every order of a region that draws comes to what our own order comes to.
-/
import Derived.Test.YtipgdalebkhgpaaFw3
namespace Go.Proofs.Ytipgdalebkhgpaa.Fw
open Go Go.RowKit

theorem foldl_bits_mono (acc : List Nat) : ∀ (l : List Edge) (s : Nat) (j : Nat), s.testBit j = true →
    (l.foldl (fun s e => bif Region.binds .any e then s ||| (2 ^ e.on ||| acc.getD e.on 0) else s) s).testBit j = true
  | [], s, j, h => h
  | e :: r, s, j, h => by
    rw [List.foldl_cons]
    refine foldl_bits_mono acc r _ j ?_
    cases Region.binds .any e with
    | false => exact h
    | true => rw [cond_true, Nat.testBit_or, h]; rfl

theorem bfOne_direct (acc : List Nat) (o : Oper) (e : Edge) (he : e ∈ o.after.toList) (hb : Region.binds .any e = true) : (bfOne acc o).testBit e.on = true := by
  unfold bfOne
  generalize o.after.toList = l at he
  have key : ∀ (l : List Edge) (s : Nat), e ∈ l → (l.foldl (fun s e => bif Region.binds .any e then s ||| (2 ^ e.on ||| acc.getD e.on 0) else s) s).testBit e.on = true := by
    intro l
    induction l with
    | nil => intro s h; cases h
    | cons x r ih =>
      intro s h
      rw [List.foldl_cons]
      cases h with
      | head => refine foldl_bits_mono acc r _ _ ?_; rw [hb, cond_true, Nat.testBit_or, Nat.testBit_or, Nat.testBit_two_pow]; simp
      | tail _ h => exact ih _ h
  exact key l 0 he

theorem bfGo_get : ∀ (lo : List Oper) (acc : List Nat), (∀ (i m : Nat), acc[i]? = some m → (bfGo acc lo)[i]? = some m) ∧ (∀ (i : Nat) (o : Oper), lo[i]? = some o → ∃ acc', (bfGo acc lo)[acc.length + i]? = some (bfOne acc' o))
  | [], acc => ⟨fun _ _ h => h, fun i o h => by simp at h⟩
  | o :: r, acc => by
    obtain ⟨h1, h2⟩ := bfGo_get r (acc ++ [bfOne acc o])
    refine ⟨fun i m h => h1 i m ?_, fun i o' h => ?_⟩
    · rw [List.getElem?_append_left (List.getElem?_eq_some_iff.1 h).1]; exact h
    · cases i with
      | zero =>
        simp only [List.getElem?_cons_zero, Option.some.injEq] at h
        subst h
        exact ⟨acc, h1 _ _ (by simp)⟩
      | succ i =>
        obtain ⟨acc', h'⟩ := h2 i o' (by simpa using h)
        refine ⟨acc', ?_⟩
        rw [← h']
        congr 1
        simp
        omega

theorem bf_get {ops : Array Oper} {i : Nat} {o : Oper} (h : ops[i]? = some o) : ∃ acc, (bf ops)[i]? = some (bfOne acc o) := by
  obtain ⟨acc, ha⟩ := (bfGo_get ops.toList []).2 i o (by simpa using h)
  exact ⟨acc, by simpa [bf] using ha⟩

theorem bf_direct {ops : Array Oper} {i : Nat} {o : Oper} (h : ops[i]? = some o) (e : Edge) (he : e ∈ o.after.toList) (hb : Region.binds .any e = true) : ((bf ops).getD i 0).testBit e.on = true := by
  obtain ⟨acc, ha⟩ := bf_get h
  rw [List.getD_eq_getElem?_getD, ha, Option.getD_some]
  exact bfOne_direct acc o e he hb

theorem bf_in {ops : Array Oper} {D : Nat → Prop} (hD : Closed ops D) {i : Nat} {o : Oper} (ho : ops[i]? = some o) (h : D i) (j : Nat) (hj : ((bf ops).getD i 0).testBit j = true) : D j := by
  obtain ⟨acc, ha⟩ := bf_get ho
  rw [List.getD_eq_getElem?_getD, ha, Option.getD_some] at hj
  exact bf_sound hD ha h j hj

theorem rows_mem {ops : Array Oper} {x : Row} (h : x ∈ rows ops) : ops[x.i]? = some x.o ∧ x.b = (bf ops).getD x.i 0 ∧ x.q = freeQ ops (bf ops) x.i x.o := by
  unfold rows at h
  simp only [List.mem_map] at h
  obtain ⟨p, hp, rfl⟩ := h
  obtain ⟨o, i⟩ := p
  rw [List.mem_zipIdx_iff_getElem?] at hp
  exact ⟨by simpa using hp, rfl, rfl⟩

theorem mem_rows {ops : Array Oper} {i : Nat} {o : Oper} (h : ops[i]? = some o) : (⟨i, o, (bf ops).getD i 0, freeQ ops (bf ops) i o⟩ : Row) ∈ rows ops := by
  unfold rows
  simp only [List.mem_map]
  exact ⟨(o, i), List.mem_zipIdx_iff_getElem?.2 (by simpa using h), rfl⟩

theorem sub_iff (b m : Nat) : sub b m = true ↔ ∀ j, b.testBit j = true → m.testBit j = true := by
  unfold sub
  constructor
  · intro h j hj
    have h' := Nat.eq_of_beq_eq_true h
    have := congrArg (fun x => x.testBit j) h'
    simp only [Nat.testBit_and, hj, Bool.true_and] at this
    exact this
  · intro h
    rw [show b &&& m = b from Nat.eq_of_testBit_eq fun j => by
      rw [Nat.testBit_and]
      cases hb : b.testBit j with
      | false => rfl
      | true => rw [h j hb]; rfl]
    exact Nat.beq_refl b

theorem findQ_some {m : Nat} : ∀ {rs : List Row} {x : Row}, findQ m rs = some x → x ∈ rs ∧ x.q = true ∧ m.testBit x.i = false ∧ sub x.b m = true
  | [], x, h => by simp [findQ] at h
  | y :: r, x, h => by
    unfold findQ at h
    cases hc : (y.q && !m.testBit y.i && sub y.b m) with
    | true =>
      rw [hc, cond_true] at h
      cases h
      simp only [Bool.and_eq_true, Bool.not_eq_true'] at hc
      exact ⟨List.mem_cons_self, hc.1.1, hc.1.2, hc.2⟩
    | false =>
      rw [hc, cond_false] at h
      obtain ⟨h1, h2⟩ := findQ_some h
      exact ⟨List.mem_cons_of_mem _ h1, h2⟩

theorem findQ_none {m : Nat} : ∀ {rs : List Row}, findQ m rs = none → ∀ x, x ∈ rs → x.q = true → sub x.b m = true → m.testBit x.i = true
  | [], _, x, hx => by cases hx
  | y :: r, h, x, hx => by
    intro hq hs
    unfold findQ at h
    cases hc : (y.q && !m.testBit y.i && sub y.b m) with
    | true => rw [hc] at h; cases h
    | false =>
      rw [hc, cond_false] at h
      cases hx with
      | head =>
        rw [hq, hs] at hc
        simpa using hc
      | tail _ hx => exact findQ_none h x hx hq hs

theorem mem_findL {m : Nat} {x : Row} (hq : x.q = false) (hm : m.testBit x.i = false) (hs : sub x.b m = true) : ∀ {rs : List Row}, x ∈ rs → x ∈ findL m rs
  | [], h => by cases h
  | y :: r, h => by
    unfold findL
    cases h with
    | head => rw [hq, hm, hs]; exact List.mem_cons_self
    | tail _ h =>
      cases hc : (!y.q && !m.testBit y.i && sub y.b m) with
      | true => exact List.mem_cons_of_mem _ (mem_findL hq hm hs h)
      | false => exact mem_findL hq hm hs h

theorem findL_sub {m : Nat} {x : Row} : ∀ {rs : List Row}, x ∈ findL m rs → x ∈ rs ∧ x.q = false ∧ m.testBit x.i = false ∧ sub x.b m = true
  | [], h => by cases h
  | y :: r, h => by
    unfold findL at h
    cases hc : (!y.q && !m.testBit y.i && sub y.b m) with
    | true =>
      rw [hc, cond_true] at h
      cases h with
      | head =>
        simp only [Bool.and_eq_true, Bool.not_eq_true'] at hc
        exact ⟨List.mem_cons_self, hc.1.1, hc.1.2, hc.2⟩
      | tail _ h => exact ⟨List.mem_cons_of_mem _ (findL_sub h).1, (findL_sub h).2⟩
    | false =>
      rw [hc, cond_false] at h
      exact ⟨List.mem_cons_of_mem _ (findL_sub h).1, (findL_sub h).2⟩

theorem allIn_iff {m : Nat} : ∀ {rs : List Row}, allIn m rs = true ↔ ∀ x, x ∈ rs → m.testBit x.i = true
  | [] => by simp [allIn]
  | y :: r => by simp [allIn, allIn_iff (rs := r)]

theorem bit_or (m i j : Nat) : (m ||| 2 ^ i).testBit j = true ↔ m.testBit j = true ∨ j = i := by
  rw [Nat.testBit_or, Nat.testBit_two_pow, Bool.or_eq_true]
  constructor
  · rintro (h | h)
    · exact .inl h
    · exact .inr (by simpa using h : i = j).symm
  · rintro (h | rfl)
    · exact .inl h
    · exact .inr (by simp)

/-! ### What an operation that only reads gives, and gives again -/
section
variable (P : Program) (ops : Array Oper)
def YAt (o : Oper) (v : Value) (b : Act) (w : World) : Prop :=
  (Region.wanted o (yielded ops b.tmps) = true ∧ (execOp b.eval o).run P w = .ok (.value v) w) ∨ (Region.wanted o (yielded ops b.tmps) = false ∧ v = undef)
def MatchPd (p : Pd) (o : Oper) (v : Value) (b : Act) : Prop :=
  (Region.wanted o (yielded ops b.tmps) = true → (∀ x c, p.g = some (x, c) → isB x c = true) ∧ p.v = v) ∧ execOp b.eval o = p.s ∧ (Region.wanted o (yielded ops b.tmps) = false → v = undef)
end

theorem MatchPd.at {P : Program} {ops : Array Oper} {p : Pd} {o : Oper} {v : Value} {b : Act} {w : World} (h : MatchPd ops p o v b)
    (hc : (∀ x c, p.g = some (x, c) → isB x c = true) → p.s.run P w = .ok (.value p.v) w) : YAt P ops o v b w := by
  cases hw : Region.wanted o (yielded ops b.tmps) with
  | true =>
    obtain ⟨h1, h2⟩ := h.1 hw
    refine .inl ⟨hw, ?_⟩
    rw [h.2.1, hc h1, h2]
  | false => exact .inr ⟨hw, h.2.2 hw⟩

/-- The two frames are alike where the operation looks. -/
def AlikeAt (ops : Array Oper) (o : Oper) (a b : Act) : Prop := a.tmps.size = b.tmps.size ∧ ∀ t, t ∈ looks ops o → a.tmps.getD t undef = b.tmps.getD t undef

theorem getElem?_of_getD {xs ys : Array Value} (hs : xs.size = ys.size) {t : Nat} (h : xs.getD t undef = ys.getD t undef) : xs[t]? = ys[t]? := by
  by_cases ht : t < xs.size
  · have ht' : t < ys.size := hs ▸ ht
    rw [Array.getElem?_eq_getElem ht, Array.getElem?_eq_getElem ht']
    simpa [Array.getD, ht, ht'] using h
  · rw [Array.getElem?_eq_none (by omega), Array.getElem?_eq_none (by omega)]

theorem AlikeAt.exec {ops : Array Oper} {o : Oper} {a b : Act} (h : AlikeAt ops o a b) (hs : ∀ cs c, o.op ≠ .select cs c) : execOp a.eval o = execOp b.eval o :=
  execOp_congr o hs fun x hx => by
    cases x with
    | tmp t => exact h.2 t (List.mem_append_left _ (List.mem_filterMap.2 ⟨.tmp t, by simpa using hx, rfl⟩))
    | _ => rfl

theorem AlikeAt.wanted {ops : Array Oper} {o : Oper} {a b : Act} (h : AlikeAt ops o a b) : Region.wanted o (yielded ops a.tmps) = Region.wanted o (yielded ops b.tmps) := by
  unfold Region.wanted
  cases hg : o.guard with
  | none => rfl
  | some gw =>
    obtain ⟨g, want⟩ := gw
    have hy : yielded ops a.tmps g = yielded ops b.tmps g := by
      unfold yielded
      cases ht : (ops[g]?).bind (·.dst) with
      | none => rfl
      | some t => simp only [Option.bind_some, getElem?_of_getD h.1 (h.2 t (List.mem_append_right _ (by simp [hg, ht])))]
    simp only [hy]

theorem YAt.alike {P : Program} {ops : Array Oper} {o : Oper} {v : Value} {a b : Act} {w : World} (h : AlikeAt ops o a b) (hs : ∀ cs c, o.op ≠ .select cs c) (hy : YAt P ops o v b w) : YAt P ops o v a w := by
  unfold YAt
  rw [h.exec hs, h.wanted]
  exact hy
theorem MatchPd.alike {ops : Array Oper} {p : Pd} {o : Oper} {v : Value} {a b : Act} (h : AlikeAt ops o a b) (hs : ∀ cs c, o.op ≠ .select cs c) (hy : MatchPd ops p o v b) : MatchPd ops p o v a := by
  unfold MatchPd
  rw [h.exec hs, h.wanted]
  exact hy

theorem alike_put {ops : Array Oper} {o : Oper} (b : Act) (d : Option Nat) (v : Value) (h : ∀ t, d = some t → t ∉ looks ops o) : AlikeAt ops o (b.put d v) b := by
  refine ⟨by cases d <;> simp [Act.put], fun t ht => ?_⟩
  exact (SameBut.put b d v).2 t fun hd => h t (by simpa using hd) ht

theorem quiet_plain {o : Op} (h : quietOp o = true) : ∀ cs c, o ≠ .select cs c := by
  intro cs c e
  subst e
  simp [quietOp] at h

/-! ### The state between our order and another one -/
structure DInv (P : Program) (ops : Array Oper) (N : Nat) (listed : Array Bool) (a : Act) (w : World) (m : Nat) (pd : List Pd) (e : Env) (b : Act) (Pn : Nat → Prop) : Prop where
  env : EnvOk N e b
  size : a.tmps.size = b.tmps.size
  defers : b.defers = a.defers
  lsize : listed.size = ops.size
  mbit : ∀ i, i < ops.size → (m.testBit i = true ↔ listed.getD i false = true ∨ Pn i)
  mlt : ∀ i, m.testBit i = true → i < ops.size
  disj : ∀ i, Pn i → listed.getD i false = false ∧ i < ops.size
  closL : Closed ops (fun i => listed.getD i false = true)
  closM : Closed ops (fun i => m.testBit i = true)
  slots : ∀ t, (∀ i o, Pn i → ops[i]? = some o → o.dst ≠ some t) → b.tmps.getD t undef = a.tmps.getD t undef
  pend : ∀ i o, Pn i → ops[i]? = some o → freeQ ops (bf ops) i o = true ∧ ∃ v, (∀ d, o.dst = some d → b.tmps.getD d undef = v) ∧ YAt P ops o v b w ∧
    ((∀ w, YAt P ops o v b w) ∨ ∃ p, p ∈ pd ∧ p.i = i ∧ MatchPd ops p o v b)

theorem freeQ_spec {ops : Array Oper} {i : Nat} {o : Oper} (h : freeQ ops (bf ops) i o = true) : quietOp o.op = true ∧
    (∀ d, o.dst = some d → ∀ (j : Nat) (x : Oper), ops[j]? = some x → (j = i → d ∉ looks ops x) ∧ (j ≠ i → x.dst ≠ some d ∧ (d ∈ looks ops x → ((bf ops).getD j 0).testBit i = true))) := by
  unfold freeQ at h
  rw [Bool.and_eq_true] at h
  refine ⟨h.1, fun d hd j x hj => ?_⟩
  have h2 := h.2
  rw [hd] at h2
  simp only at h2
  have h3 := List.all_eq_true.1 h2 (x, j) (List.mem_zipIdx_iff_getElem?.2 (by simpa using hj))
  simp only at h3
  by_cases hji : j = i
  · subst hji
    rw [Nat.beq_refl, cond_true] at h3
    refine ⟨fun _ hm => ?_, fun h => absurd rfl h⟩
    rw [(memN_iff _ _).2 hm] at h3
    cases h3
  · rw [beq_ne hji, cond_false, Bool.and_eq_true] at h3
    refine ⟨fun h => absurd h hji, fun _ => ⟨fun hx => ?_, fun hm => ?_⟩⟩
    · have := h3.1
      rw [hx] at this
      simp at this
    · have := h3.2
      rw [(memN_iff _ _).2 hm] at this
      simpa using this

theorem okLoud_spec {ops : Array Oper} (h : okLoud ops (rows ops) = true) {i j : Nat} {x y : Oper} (hi : ops[i]? = some x) (hj : ops[j]? = some y)
    (hx : freeQ ops (bf ops) i x = false) (hy : freeQ ops (bf ops) j y = true) (d : Nat) (hd : x.dst = some d) (hm : d ∈ looks ops y) :
    ((bf ops).getD j 0).testBit i = true ∨ ((bf ops).getD i 0).testBit j = true := by
  unfold okLoud at h
  have h1 := List.all_eq_true.1 h _ (mem_rows hi)
  simp only [hx, Bool.false_or] at h1
  have h2 := List.all_eq_true.1 h1 _ (mem_rows hj)
  simp only [hy, Bool.not_true, Bool.false_or, hd] at h2
  rw [(memN_iff _ _).2 hm] at h2
  simpa using h2

theorem ready_mem {ops : Array Oper} {listed : Array Bool} (hl : listed.size = ops.size) {i : Nat} : i ∈ Region.ready .any ops listed ↔
    i < ops.size ∧ listed.getD i false = false ∧ ∃ o, ops[i]? = some o ∧ ∀ e, e ∈ o.after.toList → Region.binds .any e = true → listed.getD e.on false = true := by
  unfold Region.ready
  rw [List.mem_filter, List.mem_range]
  constructor
  · rintro ⟨hlt, h⟩
    rw [Bool.and_eq_true] at h
    have hl2 : i < listed.size := hl ▸ hlt
    refine ⟨hlt, ?_, ?_⟩
    · have := h.1
      simpa [Array.getD, hl2] using this
    · have h2 := h.2
      rw [Array.getElem?_eq_getElem hlt] at h2 ⊢
      refine ⟨_, rfl, fun e he hb => ?_⟩
      simp only [Option.map_some, Option.getD_some, Array.all_eq_true_iff_forall_mem] at h2
      have := h2 e (by simpa using he)
      rw [hb] at this
      simpa using this
  · rintro ⟨hlt, h1, o, ho, h2⟩
    have hl2 : i < listed.size := hl ▸ hlt
    refine ⟨hlt, ?_⟩
    rw [Bool.and_eq_true]
    constructor
    · simpa [Array.getD, hl2] using h1
    · rw [ho]
      simp only [Option.map_some, Option.getD_some, Array.all_eq_true_iff_forall_mem]
      intro e he
      cases hb : Region.binds .any e with
      | false => rfl
      | true => simpa using h2 e (by simpa using he) hb

theorem set_getD {xs : Array Bool} {i j : Nat} (hi : i < xs.size) : (xs.setIfInBounds i true).getD j false = true ↔ xs.getD j false = true ∨ j = i := by
  by_cases h : j = i
  · subst h
    simp [Array.getD, hi]
  · by_cases hj : j < xs.size
    · simp [Array.getD, hj, h, Array.getElem_setIfInBounds]
      exact fun e => absurd e.symm h
    · simp [Array.getD, hj, h]

section
variable {P : Program} {r : Option Nat} {n N : Nat} {Ds : List Nat} {Q : List Nat → Ex → List Value → World → Prop} {X : Exit → Act → World → Prop}

/-- An operation that only reads, in our order. -/
theorem compQ_sound {ops : Array Oper} {i : Nat} {o : Oper} {e : Env} {b : Act} {w : World} {k : Env → Option Pd → Prog}
    (he : EnvOk N e b) (h : (compQ N ops i o e k).wp P r Ds Q w) :
    ∃ v p, EnvOk N (e.put o.dst v) (b.put o.dst v) ∧ YAt P ops o v b w ∧ ((∀ w, YAt P ops o v b w) ∨ ∃ p', p = some p' ∧ p'.i = i ∧ MatchPd ops p' o v b) ∧ (k (e.put o.dst v) p).wp P r Ds Q w := by
  unfold compQ at h
  cases hc : (okDst N o.dst && o.op.operands.toList.all e.knows) with
  | false => rw [hc] at h; exact h.elim
  | true =>
    rw [hc, cond_true] at h
    obtain ⟨h1, h2⟩ := Bool.and_eq_true_iff.1 hc
    have hput : ∀ v, EnvOk N (e.put o.dst v) (b.put o.dst v) := fun v => he.put _ _ fun x hx => by
      rw [hx] at h1
      exact Nat.le_of_ble_eq_true h1
    have hval : ∀ x, x ∈ o.op.operands → b.eval x = e.val x := fun x hx => he.val x (List.all_eq_true.1 h2 x (by simpa using hx))
    cases hn : nodeOf e.val o.op o.type with
    | none => rw [hn] at h; exact h.elim
    | some nd =>
      rw [hn] at h
      simp only at h
      obtain ⟨hsel, hdef⟩ := nodeOf_plain hn
      have hex : execOp b.eval o = execOp e.val o := execOp_congr o hsel hval
      cases hg : o.guard with
      | none =>
        rw [hg] at h
        have hw : Region.wanted o (yielded ops b.tmps) = true := by simp [Region.wanted, hg]
        cases nd with
        | pure v =>
          have hy : ∀ w, YAt P ops o v b w := fun w => .inl ⟨hw, by rw [hex, nodeOf_pure hn]; rfl⟩
          exact ⟨v, none, hput v, hy w, .inl hy, h⟩
        | sem q s =>
          obtain ⟨v, hv, hr⟩ := h
          have hs : execOp b.eval o = s := hex.trans (nodeOf_sem hn)
          exact ⟨v, some ⟨i, none, s, v⟩, hput v, .inl ⟨hw, hs ▸ hv⟩, .inr ⟨_, rfl, rfl, fun _ => ⟨(fun x c hx => by cases hx), rfl⟩, hs, fun hf => (Bool.noConfusion (hw.symm.trans hf))⟩, hr⟩
      | some jw =>
        obtain ⟨j, want⟩ := jw
        rw [hg] at h
        simp only at h
        cases hd : (ops[j]?).bind (·.dst) with
        | none => rw [hd] at h; exact h.elim
        | some d =>
          rw [hd] at h
          simp only at h
          cases hv : e.get d with
          | none => rw [hv] at h; exact h.elim
          | some g =>
            rw [hv] at h
            simp only at h
            have hw := wanted_isB he hg hd hv
            cases nd with
            | pure v =>
              cases hb : isB g want with
              | false =>
                have hw' := hw.trans hb
                exact ⟨undef, none, hput _, .inr ⟨hw', rfl⟩, .inl fun _ => .inr ⟨hw', rfl⟩, h.2 hb⟩
              | true =>
                have hw' := hw.trans hb
                obtain ⟨u, hu, hr⟩ := h.1 hb
                have huv : u = v := by
                  have : (Result.ok (Next.value v) w : Result Next) = .ok (.value u) w := hu
                  cases this; rfl
                subst huv
                have hy : ∀ w, YAt P ops o u b w := fun w => .inl ⟨hw', by rw [hex, nodeOf_pure hn]; rfl⟩
                exact ⟨u, none, hput _, hy w, .inl hy, hr⟩
            | sem q s =>
              have hs : execOp b.eval o = s := hex.trans (nodeOf_sem hn)
              cases hb : isB g want with
              | false =>
                have hw' := hw.trans hb
                exact ⟨undef, some ⟨i, some (g, want), s, undef⟩, hput _, .inr ⟨hw', rfl⟩, .inr ⟨_, rfl, rfl, fun ht => (Bool.noConfusion (ht.symm.trans hw')), hs, fun _ => rfl⟩, h.2 hb⟩
              | true =>
                have hw' := hw.trans hb
                obtain ⟨u, hu, hr⟩ := h.1 hb
                exact ⟨u, some ⟨i, some (g, want), s, u⟩, hput _, .inl ⟨hw', hs ▸ hu⟩,
                  .inr ⟨_, rfl, rfl, fun _ => ⟨(fun x c hx => by cases hx; exact hb), rfl⟩, hs, fun hf => (Bool.noConfusion (hw'.symm.trans hf))⟩, hr⟩

/-- Our order takes an operation that only reads. -/
theorem DInv.take {ops : Array Oper} {listed : Array Bool} {a : Act} {w : World} {m : Nat} {pd : List Pd} {e : Env} {b : Act} {Pn : Nat → Prop} (hI : DInv P ops N listed a w m pd e b Pn)
    {x : Row} (hx : findQ m (rows ops) = some x) {v : Value} {p : Option Pd} (he : EnvOk N (e.put x.o.dst v) (b.put x.o.dst v)) (hy : YAt P ops x.o v b w)
    (hp : (∀ w, YAt P ops x.o v b w) ∨ ∃ p', p = some p' ∧ p'.i = x.i ∧ MatchPd ops p' x.o v b) :
    DInv P ops N listed a w (m ||| 2 ^ x.i) (putPd p pd) (e.put x.o.dst v) (b.put x.o.dst v) (fun i => Pn i ∨ i = x.i) := by
  obtain ⟨hmem, hq, hnm, hsub⟩ := findQ_some hx
  obtain ⟨hxo, hxb, hxq⟩ := rows_mem hmem
  rw [hq] at hxq
  have hlt : x.i < ops.size := (Array.getElem?_eq_some_iff.1 hxo).1
  obtain ⟨hqx, hfx⟩ := freeQ_spec hxq.symm
  have hsubm := (sub_iff _ _).1 hsub
  have hnp : ∀ i, (Pn i ∨ i = x.i) → listed.getD i false = false ∧ i < ops.size := by
    rintro i (hi | rfl)
    · exact hI.disj i hi
    · refine ⟨?_, hlt⟩
      cases hl : listed.getD x.i false with
      | false => rfl
      | true => rw [((hI.mbit x.i hlt).2 (.inl hl))] at hnm; cases hnm
  -- nobody whose slot is looked at anew
  have halike : ∀ i o, (Pn i ∨ i = x.i) → ops[i]? = some o → AlikeAt ops o (b.put x.o.dst v) b := by
    intro i o hi ho
    refine alike_put b _ v fun t ht hm => ?_
    obtain ⟨h1, h2⟩ := hfx t ht i o ho
    by_cases hix : i = x.i
    · exact h1 hix hm
    · have hbit := (h2 hix).2 hm
      have him : m.testBit i = true := (hI.mbit i (hI.disj i (hi.resolve_right hix)).2).2 (.inr (hi.resolve_right hix))
      have := bf_in hI.closM ho him x.i hbit
      rw [this] at hnm
      cases hnm
  refine ⟨he, ?_, ?_, hI.lsize, ?_, ?_, hnp, hI.closL, ?_, ?_, ?_⟩
  · rw [hI.size]; cases x.o.dst <;> simp [Act.put]
  · rw [← hI.defers]; cases x.o.dst <;> rfl
  · intro i hi
    rw [bit_or, hI.mbit i hi, or_assoc]
  · intro i hi
    rcases (bit_or _ _ _).1 hi with h | rfl
    · exact hI.mlt i h
    · exact hlt
  · intro i o ho hi e' he' hb
    refine (bit_or _ _ _).2 (.inl ?_)
    rcases (bit_or _ _ _).1 hi with h | rfl
    · exact hI.closM i o ho h e' he' hb
    · rw [hxo] at ho
      cases ho
      exact hsubm _ (hxb ▸ bf_direct hxo e' he' hb)
  · intro t ht
    have h1 : x.o.dst ≠ some t := ht x.i x.o (.inr rfl) hxo
    rw [(SameBut.put b x.o.dst v).2 t (by simpa using h1)]
    exact hI.slots t fun i o hi ho => ht i o (.inl hi) ho
  · intro i o hi ho
    have hal := halike i o hi ho
    by_cases hix : i = x.i
    · subst hix
      rw [hxo] at ho
      cases ho
      refine ⟨hxq.symm, v, fun d hd => ?_, hy.alike hal (quiet_plain hqx), ?_⟩
      · refine he.get d v ?_
        rw [hd]
        simp [Env.put, Env.get]
      · rcases hp with hp | ⟨p', rfl, hpi, hpm⟩
        · exact .inl fun w => (hp w).alike hal (quiet_plain hqx)
        · exact .inr ⟨p', List.mem_cons_self, hpi, hpm.alike hal (quiet_plain hqx)⟩
    · obtain ⟨hf, u, hu, hyu, hpu⟩ := hI.pend i o (hi.resolve_right hix) ho
      have hqo := quiet_plain (freeQ_spec hf).1
      refine ⟨hf, u, fun d hd => ?_, hyu.alike hal hqo, ?_⟩
      · have hne : x.o.dst ≠ some d := fun e' => ((hfx d e' i o ho).2 hix).1 hd
        rw [(SameBut.put b x.o.dst v).2 d (by simpa using hne)]
        exact hu d hd
      · rcases hpu with hp' | ⟨p', hp1, hp2, hp3⟩
        · exact .inl fun w => (hp' w).alike hal hqo
        · refine .inr ⟨p', ?_, hp2, hp3.alike hal hqo⟩
          cases p with
          | none => exact hp1
          | some q => exact List.mem_cons_of_mem _ hp1

/-- Our order goes on as far as it only reads. -/
theorem saturate {ops : Array Oper} {listed : Array Bool} {a : Act} {w : World} {k : Env → Prog} : ∀ (f m : Nat) (pd : List Pd) (e : Env) (b : Act) (Pn : Nat → Prop), DInv P ops N listed a w m pd e b Pn →
    (compD N ops (rows ops) f m pd e k).wp P r Ds Q w →
    ∃ f' m' pd' e' b' Pn', DInv P ops N listed a w m' pd' e' b' Pn' ∧ (compD N ops (rows ops) f' m' pd' e' k).wp P r Ds Q w ∧ (f' = 0 ∨ findQ m' (rows ops) = none) ∧ (∀ i, m.testBit i = true → m'.testBit i = true)
  | 0, m, pd, e, b, Pn, hI, h => ⟨0, m, pd, e, b, Pn, hI, h, .inl rfl, fun _ h => h⟩
  | f + 1, m, pd, e, b, Pn, hI, h => by
    cases hq : findQ m (rows ops) with
    | none => exact ⟨f + 1, m, pd, e, b, Pn, hI, h, .inr hq, fun _ h => h⟩
    | some x =>
      have h' := h
      rw [compD, hq] at h'
      simp only at h'
      obtain ⟨v, p, he, hy, hp, hr⟩ := compQ_sound hI.env h'
      obtain ⟨f', m', pd', e', b', Pn', h1, h2, h3, h4⟩ := saturate f _ _ _ _ _ (hI.take hq he hy hp) hr
      exact ⟨f', m', pd', e', b', Pn', h1, h2, h3, fun i hi => h4 i ((bit_or _ _ _).2 (.inl hi))⟩
end
end Go.Proofs.Ytipgdalebkhgpaa.Fw
