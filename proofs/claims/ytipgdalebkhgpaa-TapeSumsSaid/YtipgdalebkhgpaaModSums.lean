/-
  What all bars are together.
-/
import Derived.Test.YtipgdalebkhgpaaModTape
set_option maxRecDepth 20000
set_option linter.unusedVariables false
namespace Go.Proofs.Ytipgdalebkhgpaa
open Go Go.RowKit Fw

theorem hiA_ge {a : Int} : ∀ {c : List Msg}, a ≤ hiA a c
  | [] => Int.le_refl _
  | m :: c => Int.le_trans (by omega) (hiA_ge (a := max a m.price) (c := c))
theorem loA_le {a : Int} : ∀ {c : List Msg}, loA a c ≤ a
  | [] => Int.le_refl _
  | m :: c => Int.le_trans (loA_le (a := min a m.price) (c := c)) (by omega)
theorem hiA_all {a : Int} {c : List Msg} : ∀ m, m ∈ c → m.price ≤ hiA a c := by
  induction c generalizing a with
  | nil => intro m h; cases h
  | cons x c ih =>
    intro m h
    rcases List.mem_cons.1 h with rfl | h
    · exact Int.le_trans (by omega) (hiA_ge (a := max a m.price) (c := c))
    · exact ih (a := max a x.price) m h
theorem loA_all {a : Int} {c : List Msg} : ∀ m, m ∈ c → loA a c ≤ m.price := by
  induction c generalizing a with
  | nil => intro m h; cases h
  | cons x c ih =>
    intro m h
    rcases List.mem_cons.1 h with rfl | h
    · exact Int.le_trans (loA_le (a := min a m.price) (c := c)) (by omega)
    · exact ih (a := min a x.price) m h
theorem hiA_max {a b : Int} {c : List Msg} : hiA (max a b) c = max a (hiA b c) := by
  induction c generalizing b with
  | nil => rfl
  | cons x c ih =>
    have := ih (b := max b x.price)
    simp only [hiA, List.foldl_cons] at this ⊢
    rw [← this]; congr 1; omega
theorem loA_min {a b : Int} {c : List Msg} : loA (min a b) c = min a (loA b c) := by
  induction c generalizing b with
  | nil => rfl
  | cons x c ih =>
    have := ih (b := min b x.price)
    simp only [loA, List.foldl_cons] at this ⊢
    rw [← this]; congr 1; omega
theorem hiA_M {a : Int} {c : List Msg} (h : c ≠ []) : hiA a c = max a (hiM c) := by
  cases c with
  | nil => exact absurd rfl h
  | cons m c =>
    have := hiA_max (a := a) (b := m.price) (c := c)
    show hiA (max a m.price) c = max a (hiA (max m.price m.price) c)
    rw [this, Int.max_self]
theorem loA_M {a : Int} {c : List Msg} (h : c ≠ []) : loA a c = min a (loM c) := by
  cases c with
  | nil => exact absurd rfl h
  | cons m c =>
    have := loA_min (a := a) (b := m.price) (c := c)
    show loA (min a m.price) c = min a (loA (min m.price m.price) c)
    rw [this, Int.min_self]
theorem fst_app {c d : List Msg} (h : c ≠ []) : fstM (c ++ d) = fstM c := by
  cases c with
  | nil => exact absurd rfl h
  | cons m c => rfl
theorem hi_app {c d : List Msg} (hc : c ≠ []) (hd : d ≠ []) : hiM (c ++ d) = max (hiM c) (hiM d) := by
  have : hiM (c ++ d) = hiA (hiM c) d := by unfold hiM; rw [fst_app hc]; simp [hiA]
  rw [this, hiA_M hd]
theorem lo_app {c d : List Msg} (hc : c ≠ []) (hd : d ≠ []) : loM (c ++ d) = min (loM c) (loM d) := by
  have : loM (c ++ d) = loA (loM c) d := by unfold loM; rw [fst_app hc]; simp [loA]
  rw [this, loA_M hd]
theorem lst_app {c d : List Msg} (hd : d ≠ []) : lstM (c ++ d) = lstM d := by
  cases d with
  | nil => exact absurd rfl hd
  | cons m d => simp [lstM]
theorem lst_mem {c : List Msg} (h : c ≠ []) : ∃ m, m ∈ c ∧ lstM c = m.price := by
  have hl : 0 < c.length := List.length_pos_iff.2 h
  obtain ⟨m, hm⟩ := get_ex (l := c) (i := c.length - 1) (by omega)
  exact ⟨m, List.mem_of_getElem? hm, lst_at hm⟩
theorem fst_mem {c : List Msg} (h : c ≠ []) : ∃ m, m ∈ c ∧ fstM c = m.price := by
  cases c with
  | nil => exact absurd rfl h
  | cons m c => exact ⟨m, List.mem_cons_self, rfl⟩
/-- A bar's numbers stand as they should. -/
theorem bar_holds {c : List Msg} (h : Cok c) (hne : c ≠ []) : loM c ≤ meanM c ∧ meanM c ≤ hiM c ∧ loM c ≤ fstM c ∧ lstM c ≤ hiM c ∧ 0 ≤ meanM c ∧ meanM c ≤ 1099511627776 := by
  obtain ⟨hv, hb⟩ := mean_bound h hne
  have h1 := wor_le h (P := hiM c) (hiA_all (a := fstM c))
  have h2 := wor_ge h (P := loM c) (loA_all (a := fstM c))
  obtain ⟨m, hm, hf⟩ := fst_mem hne
  obtain ⟨m2, hm2, hf2⟩ := lst_mem hne
  have h3 := loA_all (a := fstM c) m hm
  have h4 := hiA_all (a := fstM c) m2 hm2
  have h5 : worM c / (volM c).toNat ≤ (hiM c).toNat := Nat.div_le_of_le_mul (by rw [Nat.mul_comm]; exact h1)
  have h6 : (loM c).toNat ≤ worM c / (volM c).toNat := (Nat.le_div_iff_mul_le (by omega)).2 h2
  have h7 := (h m2 hm2).price
  have h8 : lstM c ≤ hiM c := by rw [hf2]; exact h4
  have h9 : loM c ≤ fstM c := by rw [hf]; exact h3
  unfold meanM
  generalize worM c / (volM c).toNat = q at *
  refine ⟨by omega, by omega, h9, h8, by omega, by omega⟩

/-! ### What bars are together -/
def zeroB : Bar := ⟨0, 0, 0, 0, 0, 0, 0, 0⟩
def mergeV (a b : Bar) : Nat := a.mean.toNat * a.vol.toNat + b.mean.toNat * b.vol.toNat
def mergeM (a b : Bar) : Bar :=
  if a.n = 0 then b else if b.n = 0 then a else
    ⟨a.from_, a.opn, max a.high b.high, min a.low b.low, b.close, a.vol + b.vol, a.n + b.n, if 0 < a.vol + b.vol then ((mergeV a b / (a.vol + b.vol).toNat : Nat) : Int) else 0⟩
structure Bok (b : Bar) : Prop where
  vol : 0 ≤ b.vol ∧ b.vol ≤ 1099511627776
  mean : 0 ≤ b.mean ∧ b.mean ≤ 1099511627776
  n : 0 ≤ b.n ∧ b.n ≤ 1000
theorem mergeV_le {a b : Bar} (ha : Bok a) (hb : Bok b) : mergeV a b ≤ 1099511627776 * (a.vol + b.vol).toNat := by
  have h1 : a.mean.toNat * a.vol.toNat ≤ 1099511627776 * a.vol.toNat := Nat.mul_le_mul_right _ (by have := ha.mean; omega)
  have h2 : b.mean.toNat * b.vol.toNat ≤ 1099511627776 * b.vol.toNat := Nat.mul_le_mul_right _ (by have := hb.mean; omega)
  have h3 := ha.vol
  have h4 := hb.vol
  unfold mergeV
  rw [show (a.vol + b.vol).toNat = a.vol.toNat + b.vol.toNat by omega]
  omega
theorem merge_mean {a b : Bar} (ha : Bok a) (hb : Bok b) : mergeV a b / (a.vol + b.vol).toNat ≤ 1099511627776 :=
  Nat.div_le_of_le_mul (by rw [Nat.mul_comm]; exact mergeV_le ha hb)
structure AggP (b : Bar) (c : List Msg) : Prop where
  vol : b.vol = volM c
  n : b.n = c.length
  mean : 0 ≤ b.mean ∧ b.mean ≤ 1099511627776
  rest : c ≠ [] → b.high = hiM c ∧ b.low = loM c ∧ b.opn = fstM c ∧ b.close = lstM c
theorem AggP.zero : AggP zeroB [] := ⟨rfl, rfl, ⟨by decide, by decide⟩, fun h => absurd rfl h⟩
theorem AggP.bar {f : Int} {c : List Msg} (h : Cok c) (hne : c ≠ []) : AggP (barOf f c) c :=
  ⟨rfl, rfl, (bar_holds h hne).2.2.2.2, fun _ => ⟨rfl, rfl, rfl, rfl⟩⟩
theorem AggP.ok {b : Bar} {c : List Msg} (h : AggP b c) (hc : Cok c) (hl : c.length ≤ 150) : Bok b := by
  have := vol_range hc
  exact ⟨by rw [h.vol]; omega, h.mean, by rw [h.n]; omega⟩
theorem AggP.merge {b : Bar} {c d : List Msg} {f : Int} (h : AggP b c) (hc : Cok c) (hd : Cok d) (hne : d ≠ []) (hl : (c ++ d).length ≤ 150) : AggP (mergeM b (barOf f d)) (c ++ d) := by
  rw [List.length_append] at hl
  have h2 := AggP.bar (f := f) hd hne
  have hb := h.ok hc (by omega)
  have hb2 := h2.ok hd (by omega)
  unfold mergeM
  split
  · rename_i h0
    rw [h.n] at h0
    obtain rfl : c = [] := List.length_eq_zero_iff.1 (by omega)
    exact h2
  · rename_i h0
    rw [h.n] at h0
    have hcn : c ≠ [] := fun e => h0 (by rw [e]; rfl)
    split
    · rename_i h1
      rw [h2.n] at h1
      exact absurd (List.length_eq_zero_iff.1 (by omega)) hne
    · obtain ⟨r1, r2, r3, r4⟩ := h.rest hcn
      obtain ⟨s1, s2, s3, s4⟩ := h2.rest hne
      refine ⟨?_, ?_, ?_, fun _ => ⟨?_, ?_, ?_, ?_⟩⟩
      · show b.vol + (barOf f d).vol = _
        rw [h.vol, h2.vol, vol_app]
      · show b.n + (barOf f d).n = _
        rw [h.n, h2.n, List.length_append, Int.natCast_add]
      · have := merge_mean hb hb2
        show 0 ≤ (if 0 < b.vol + (barOf f d).vol then ((mergeV b (barOf f d) / (b.vol + (barOf f d).vol).toNat : Nat) : Int) else 0) ∧ (if 0 < b.vol + (barOf f d).vol then ((mergeV b (barOf f d) / (b.vol + (barOf f d).vol).toNat : Nat) : Int) else 0) ≤ 1099511627776
        generalize mergeV b (barOf f d) / (b.vol + (barOf f d).vol).toNat = q at this ⊢
        split <;> omega
      · show max b.high (barOf f d).high = _
        rw [r1, s1, hi_app hcn hne]
      · show min b.low (barOf f d).low = _
        rw [r2, s2, lo_app hcn hne]
      · show b.opn = _
        rw [r3, fst_app hcn]
      · show (barOf f d).close = _
        rw [s4, lst_app hne]
abbrev Grp := Int × List Msg
def gBars (gs : List Grp) : List Bar := gs.map fun g => barOf g.1 g.2
def gAll : List Grp → List Msg
  | [] => []
  | g :: gs => g.2 ++ gAll gs
theorem gAll_snoc {gs : List Grp} {g : Grp} : gAll (gs ++ [g]) = gAll gs ++ g.2 := by
  induction gs with
  | nil => simp [gAll]
  | cons x gs ih => simp only [List.cons_append, gAll, ih, List.append_assoc]
def gOk (w : Int) (g : Grp) : Prop := g.2 ≠ [] ∧ Cok g.2 ∧ g.1 % w = 0
theorem fold_grp {w : Int} (hw : 1 ≤ w) {xs : List Msg} : ∀ {gs : List Grp} {f : Int} {c : List Msg}, Cok xs → Cok c → (∀ g, g ∈ gs → gOk w g) → (c ≠ [] → f % w = 0) →
    ∃ gs' f' c', xs.foldl (stepB w) (gBars gs, f, c) = (gBars gs', f', c') ∧ gAll gs' ++ c' = gAll gs ++ c ++ xs ∧ Cok c' ∧ (∀ g, g ∈ gs' → gOk w g) ∧ (c' ≠ [] → f' % w = 0) := by
  induction xs with
  | nil => intro gs f c _ hc hg hf; exact ⟨gs, f, c, rfl, by simp, hc, hg, hf⟩
  | cons m xs ih =>
    intro gs f c hx hc hg hf
    have hm := hx m List.mem_cons_self
    have hfr := (frT_range hm hw).2.2.2.2
    rw [List.foldl_cons, show stepB w (gBars gs, f, c) m = if c = [] ∨ f = frT w m then (gBars gs, if c = [] then frT w m else f, c ++ [m]) else (gBars gs ++ [barOf f c], frT w m, [m]) from rfl]
    split
    · obtain ⟨gs', f', c', h1, h2, h3⟩ := ih (gs := gs) (f := if c = [] then frT w m else f) (c := c ++ [m]) hx.tail (hc.snoc hm) hg (fun _ => by split; exact hfr; exact hf (by assumption))
      exact ⟨gs', f', c', h1, by rw [h2]; simp, h3⟩
    · rename_i hno
      have hcn : c ≠ [] := fun e => hno (.inl e)
      obtain ⟨gs', f', c', h1, h2, h3⟩ := ih (gs := gs ++ [(f, c)]) (f := frT w m) (c := [m]) hx.tail (Cok.nil.snoc hm) (fun g h => by
        rcases List.mem_append.1 h with h | h
        · exact hg g h
        · rw [List.mem_singleton.1 h]; exact ⟨hcn, hc, hf hcn⟩) (fun _ => hfr)
      refine ⟨gs', f', c', ?_, by rw [h2, gAll_snoc]; simp, h3⟩
      rw [← h1]; simp [gBars]
/-- The bars, as groups of what counts. -/
theorem bars_grp {w : Int} (hw : 1 ≤ w) {xs : List Msg} (h : Cok xs) : ∃ gs, barsOf w xs = gBars gs ∧ gAll gs = xs ∧ ∀ g, g ∈ gs → gOk w g := by
  obtain ⟨gs, f, c, h1, h2, h3, h4, h5⟩ := fold_grp hw (gs := []) (f := 0) (c := []) h Cok.nil (fun g h => by cases h) (fun h => absurd rfl h)
  have h1 : foldB w xs = (gBars gs, f, c) := h1
  have h2 : gAll gs ++ c = xs := by simpa [gAll] using h2
  unfold barsOf
  rw [h1]
  by_cases hc : c = []
  · subst hc
    exact ⟨gs, by rw [endB, if_pos rfl], by simpa using h2, h4⟩
  · refine ⟨gs ++ [(f, c)], by rw [endB_grp hc]; simp [gBars], by rw [gAll_snoc]; exact h2, fun g hg => ?_⟩
    rcases List.mem_append.1 hg with hg | hg
    · exact h4 g hg
    · rw [List.mem_singleton.1 hg]; exact ⟨hc, h3, h5 hc⟩
theorem gAll_ok {w : Int} {gs : List Grp} (h : ∀ g, g ∈ gs → gOk w g) : Cok (gAll gs) := by
  induction gs with
  | nil => exact Cok.nil
  | cons g gs ih =>
    intro x hx
    rcases List.mem_append.1 hx with hx | hx
    · exact (h g List.mem_cons_self).2.1 x hx
    · exact ih (fun y hy => h y (List.mem_cons_of_mem _ hy)) x hx
theorem gAll_take {gs : List Grp} {i : Nat} : (gAll (gs.take i)).length ≤ (gAll gs).length := by
  induction gs generalizing i with
  | nil => simp [gAll]
  | cons g gs ih =>
    cases i with
    | zero => simp [gAll]
    | succ i => simp only [List.take_succ_cons, gAll, List.length_append]; have := ih (i := i); omega
def mergeAll (l : List Bar) : Bar := l.foldl mergeM zeroB
theorem agg_take {w : Int} {gs : List Grp} (h : ∀ g, g ∈ gs → gOk w g) (hl : (gAll gs).length ≤ 150) : ∀ {i : Nat}, i ≤ gs.length → AggP (mergeAll ((gBars gs).take i)) (gAll (gs.take i))
  | 0, _ => by simpa [mergeAll, gAll] using AggP.zero
  | i + 1, hi => by
    obtain ⟨g, hg⟩ := get_ex (l := gs) (i := i) (by omega)
    have ih := agg_take h hl (i := i) (by omega)
    have hgo := h g (List.mem_of_getElem? hg)
    have e1 : (gBars gs).take (i + 1) = (gBars gs).take i ++ [barOf g.1 g.2] := take_snoc (by simp [gBars, hg])
    have e2 := take_snoc hg
    have hle := gAll_take (gs := gs) (i := i + 1)
    rw [e2, gAll_snoc] at hle ⊢
    rw [e1]
    have := ih.merge (f := g.1) (gAll_ok fun y hy => h y (List.mem_of_mem_take hy)) hgo.2.1 hgo.1 (by omega)
    simpa [mergeAll] using this
end Go.Proofs.Ytipgdalebkhgpaa
namespace Go.Proofs.Ytipgdalebkhgpaa
open Go Go.RowKit Fw
theorem gBars_nil {w : Int} {gs : List Grp} (h : ∀ g, g ∈ gs → gOk w g) : gAll gs ≠ [] ↔ (0 : Int) < ((gBars gs).length : Int) := by
  cases gs with
  | nil => simp [gAll, gBars]
  | cons g gs =>
    have := (h g List.mem_cons_self).1
    refine ⟨fun _ => by simp [gBars], fun _ he => this ?_⟩
    have := congrArg List.length he
    rw [gAll, List.length_append] at this
    exact List.length_eq_zero_iff.1 (by simpa using (show g.2.length = 0 by simp at this; simp [this.1]))
theorem mergeAll_take {l : List Bar} {i : Nat} {b : Bar} (h : l[i]? = some b) : mergeAll (l.take (i + 1)) = mergeM (mergeAll (l.take i)) b := by
  rw [take_snoc h]; simp [mergeAll]
theorem sums {w : Int} {gs : List Grp} (h : ∀ g, g ∈ gs → gOk w g) (hl : (gAll gs).length ≤ 150) :
    (mergeAll (gBars gs)).vol = (wholeM (gAll gs)).vol ∧ (mergeAll (gBars gs)).n = (wholeM (gAll gs)).n ∧ (mergeAll (gBars gs)).high = (wholeM (gAll gs)).high ∧ (mergeAll (gBars gs)).low = (wholeM (gAll gs)).low ∧ (mergeAll (gBars gs)).opn = (wholeM (gAll gs)).opn ∧ (mergeAll (gBars gs)).close = (wholeM (gAll gs)).close := by
  have hag := agg_take h hl (Nat.le_refl _)
  rw [List.take_length, List.take_of_length_le (by simp [gBars])] at hag
  by_cases he : gAll gs = []
  · have hgs : gs = [] := by
      cases gs with
      | nil => rfl
      | cons g gs => exact absurd he ((gBars_nil h).2 (by simp [gBars]))
    subst hgs
    exact ⟨rfl, rfl, rfl, rfl, rfl, rfl⟩
  · obtain ⟨r1, r2, r3, r4⟩ := hag.rest he
    rw [show wholeM (gAll gs) = barOf (tickF (gAll gs)) (gAll gs) from if_neg he]
    exact ⟨hag.vol, hag.n, r1, r2, r3, r4⟩
/-- One bar of a group. -/
theorem bar_of {w : Int} {g : Grp} (hw : 1 ≤ w) (h : gOk w g) (hl : g.2.length ≤ 150) : Bok (barOf g.1 g.2) ∧ (barOf g.1 g.2).low ≤ (barOf g.1 g.2).mean ∧ (barOf g.1 g.2).mean ≤ (barOf g.1 g.2).high ∧ (barOf g.1 g.2).low ≤ (barOf g.1 g.2).opn ∧ (barOf g.1 g.2).close ≤ (barOf g.1 g.2).high ∧ (barOf g.1 g.2).from_.tmod w = 0 ∧ 1 ≤ (barOf g.1 g.2).n := by
  obtain ⟨h1, h2, h3, h4, h5, h6⟩ := bar_holds h.2.1 h.1
  refine ⟨(AggP.bar h.2.1 h.1).ok h.2.1 hl, h1, h2, h3, h4, ?_, ?_⟩
  · exact Int.tmod_eq_zero_of_dvd (Int.dvd_of_emod_eq_zero h.2.2)
  · have := List.length_pos_iff.2 h.1
    show (1 : Int) ≤ (g.2.length : Int)
    omega
theorem gAll_mem {gs : List Grp} {g : Grp} (h : g ∈ gs) : g.2.length ≤ (gAll gs).length := by
  induction gs with
  | nil => cases h
  | cons x gs ih =>
    rw [gAll, List.length_append]
    rcases List.mem_cons.1 h with rfl | h
    · omega
    · have := ih h; omega
end Go.Proofs.Ytipgdalebkhgpaa
