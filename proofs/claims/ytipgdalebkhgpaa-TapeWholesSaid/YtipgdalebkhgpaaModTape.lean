/-
  What was traded, in plain Lean.
-/
import Derived.Test.YtipgdalebkhgpaaModDiv
import Derived.Test.YtipgdalebkhgpaaModCfg
import Derived.Test.YtipgdalebkhgpaaModMsg
set_option maxRecDepth 20000
set_option linter.unusedVariables false
namespace Go.Proofs.Ytipgdalebkhgpaa
open Go Go.RowKit Fw

def qtyF (q : Int) : Int := if 1 ≤ q ∧ q ≤ 4294967296 then 0 else 9
/-- A trade that can be. -/
structure Mok (m : Msg) : Prop where
  tick : 0 ≤ m.tick ∧ m.tick ≤ 9223372036854775807
  price : 1 ≤ m.price ∧ m.price ≤ 1099511627776
  qty : 1 ≤ m.qty ∧ m.qty ≤ 4294967296
def Cok (c : List Msg) : Prop := ∀ m, m ∈ c → Mok m
def cntP (sym : Int) (m : Msg) : Prop := m.kind = 3 ∧ m.sym = sym ∧ 0 ≤ m.tick ∧ 1 ≤ m.price ∧ m.price ≤ 1099511627776 ∧ 1 ≤ m.qty ∧ m.qty ≤ 4294967296
instance {sym : Int} {m : Msg} : Decidable (cntP sym m) := inferInstanceAs (Decidable (_ ∧ _))
def cnt (sym : Int) (m : Msg) : Bool := decide (cntP sym m)
/-- What counts. -/
def cts (sym : Int) (l : List Msg) : List Msg := l.filter (cnt sym)
def yl (l : List Msg) : List (List Value) := l.map fun m => [.agg m.cells.toArray]
theorem yl_len {l : List Msg} : (yl l).length = l.length := by simp [yl]
theorem yl_get {l : List Msg} {i : Nat} {m : Msg} (h : l[i]? = some m) : (yl l)[i]? = some [.agg m.cells.toArray] := by simp [yl, h]
theorem yl_inv {l : List Msg} {i : Nat} {vs : List Value} (h : (yl l)[i]? = some vs) : ∃ m, l[i]? = some m ∧ vs = [.agg m.cells.toArray] := by
  simp only [yl, List.getElem?_map, Option.map_eq_some_iff] at h
  obtain ⟨x, hx, rfl⟩ := h
  exact ⟨x, hx, rfl⟩
theorem cts_len {sym : Int} {l : List Msg} : (cts sym l).length ≤ l.length := List.length_filter_le _ _
theorem cts_ok {sym : Int} {l : List Msg} (hl : ∀ m, m ∈ l → i64R m.tick) : Cok (cts sym l) := by
  intro m hm
  obtain ⟨h0, h⟩ := List.mem_filter.1 hm
  obtain ⟨-, -, h1, h2, h3, h4, h5⟩ := of_decide_eq_true h
  exact ⟨⟨h1, (hl m h0).2⟩, ⟨h2, h3⟩, ⟨h4, h5⟩⟩
theorem take_snoc {α : Type} {l : List α} {i : Nat} {x : α} (h : l[i]? = some x) : l.take (i + 1) = l.take i ++ [x] := by
  rw [List.take_add_one, h]; rfl
theorem filt_yes {α : Type} {p : α → Bool} {l : List α} {i : Nat} {x : α} (h : l[i]? = some x) (hp : p x = true) : (l.filter p)[((l.take i).filter p).length]? = some x ∧ ((l.take (i + 1)).filter p).length = ((l.take i).filter p).length + 1 := by
  constructor
  · have e : l = l.take (i + 1) ++ l.drop (i + 1) := (List.take_append_drop _ _).symm
    have e2 : l.filter p = (l.take i).filter p ++ x :: (l.drop (i + 1)).filter p := by
      conv => lhs; rw [e, take_snoc h]
      rw [List.filter_append, List.filter_append, List.filter_cons_of_pos hp, List.filter_nil, List.append_assoc]; rfl
    rw [e2, List.getElem?_append_right (Nat.le_refl _), Nat.sub_self]; rfl
  · rw [take_snoc h, List.filter_append, List.filter_cons_of_pos hp, List.length_append]; rfl
theorem filt_no {α : Type} {p : α → Bool} {l : List α} {i : Nat} {x : α} (h : l[i]? = some x) (hp : ¬ p x = true) : (l.take (i + 1)).filter p = (l.take i).filter p := by
  rw [take_snoc h, List.filter_append, List.filter_cons_of_neg hp, List.filter_nil, List.append_nil]

structure Bar where
  (from_ opn high low close vol n mean : Int)
def Bar.cells (b : Bar) : List Value := [.int .i64 b.from_, .int .i64 b.opn, .int .i64 b.high, .int .i64 b.low, .int .i64 b.close, .int .i64 b.vol, .int .i64 b.n, .int .i64 b.mean]
def bars (l : List Bar) : List (List Value) := l.map Bar.cells
theorem bars_len {l : List Bar} : (bars l).length = l.length := by simp [bars]
theorem bars_get {l : List Bar} {i : Nat} {x : Bar} (h : l[i]? = some x) : (bars l)[((i : Nat) : Int).toNat]? = some x.cells := by simp [bars, h]
theorem bars_ne {l : List Bar} : ∀ x, x ∈ bars l → x ≠ [] := map_ne fun _ => List.cons_ne_nil _ _
theorem bars_snoc {l : List Bar} {x : Bar} : bars l ++ [x.cells] = bars (l ++ [x]) := by simp [bars]

def fstM : List Msg → Int
  | [] => 0
  | m :: _ => m.price
def hiA (a : Int) (c : List Msg) : Int := c.foldl (fun a m => max a m.price) a
def loA (a : Int) (c : List Msg) : Int := c.foldl (fun a m => min a m.price) a
def hiM (c : List Msg) : Int := hiA (fstM c) c
def loM (c : List Msg) : Int := loA (fstM c) c
def lstM (c : List Msg) : Int := c.foldl (fun _ m => m.price) 0
def volM : List Msg → Int
  | [] => 0
  | m :: c => m.qty + volM c
def worM : List Msg → Nat
  | [] => 0
  | m :: c => m.price.toNat * m.qty.toNat + worM c
def meanM (c : List Msg) : Int := ((worM c / (volM c).toNat : Nat) : Int)
def barM (f : Int) (c : List Msg) (mean : Int) : Bar := ⟨f, fstM c, hiM c, loM c, lstM c, volM c, c.length, mean⟩
def barOf (f : Int) (c : List Msg) : Bar := barM f c (meanM c)
theorem fst_snoc {c : List Msg} {m : Msg} : fstM (c ++ [m]) = if c = [] then m.price else fstM c := by cases c <;> rfl
theorem hiA_snoc {a : Int} {c : List Msg} {m : Msg} : hiA a (c ++ [m]) = max (hiA a c) m.price := by simp [hiA]
theorem loA_snoc {a : Int} {c : List Msg} {m : Msg} : loA a (c ++ [m]) = min (loA a c) m.price := by simp [loA]
theorem hi_snoc {c : List Msg} {m : Msg} : hiM (c ++ [m]) = max (if c = [] then m.price else hiM c) m.price := by
  unfold hiM; rw [hiA_snoc, fst_snoc]; split
  · subst_vars; rfl
  · rfl
theorem lo_snoc {c : List Msg} {m : Msg} : loM (c ++ [m]) = min (if c = [] then m.price else loM c) m.price := by
  unfold loM; rw [loA_snoc, fst_snoc]; split
  · subst_vars; rfl
  · rfl
theorem lst_snoc {c : List Msg} {m : Msg} : lstM (c ++ [m]) = m.price := by simp [lstM]
theorem vol_app {c d : List Msg} : volM (c ++ d) = volM c + volM d := by
  induction c with
  | nil => simp [volM]
  | cons m c ih => simp only [List.cons_append, volM, ih]; omega
theorem wor_app {c d : List Msg} : worM (c ++ d) = worM c + worM d := by
  induction c with
  | nil => simp [worM]
  | cons m c ih => simp only [List.cons_append, worM, ih]; omega
theorem vol_snoc {c : List Msg} {m : Msg} : volM (c ++ [m]) = volM c + m.qty := by rw [vol_app]; simp [volM]
theorem wor_snoc {c : List Msg} {m : Msg} : worM (c ++ [m]) = worM c + m.price.toNat * m.qty.toNat := by rw [wor_app]; simp [worM]
theorem Cok.nil : Cok [] := by intro m h; cases h
theorem Cok.tail {m : Msg} {c : List Msg} (h : Cok (m :: c)) : Cok c := fun x hx => h x (List.mem_cons_of_mem _ hx)
theorem Cok.snoc {m : Msg} {c : List Msg} (h : Cok c) (hm : Mok m) : Cok (c ++ [m]) := by
  intro x hx
  rcases List.mem_append.1 hx with h1 | h1
  · exact h x h1
  · rw [List.mem_singleton.1 h1]; exact hm
theorem vol_range {c : List Msg} (h : Cok c) : (c.length : Int) ≤ volM c ∧ volM c ≤ c.length * 4294967296 := by
  induction c with
  | nil => simp [volM]
  | cons m c ih =>
    have := (h m List.mem_cons_self).qty
    have := ih h.tail
    simp only [volM, List.length_cons]
    omega
theorem wor_le {c : List Msg} {P : Int} (h : Cok c) (hP : ∀ m, m ∈ c → m.price ≤ P) : worM c ≤ P.toNat * (volM c).toNat := by
  induction c with
  | nil => simp [worM]
  | cons m c ih =>
    have hq := (h m List.mem_cons_self).qty
    have h1 := ih h.tail (fun x hx => hP x (List.mem_cons_of_mem _ hx))
    have h2 := vol_range h.tail
    have h3 : m.price.toNat * m.qty.toNat ≤ P.toNat * m.qty.toNat := Nat.mul_le_mul_right _ (by have := hP m List.mem_cons_self; omega)
    simp only [worM, volM]
    rw [show (m.qty + volM c).toNat = m.qty.toNat + (volM c).toNat by omega, Nat.mul_add]
    omega
theorem wor_ge {c : List Msg} {P : Int} (h : Cok c) (hP : ∀ m, m ∈ c → P ≤ m.price) : P.toNat * (volM c).toNat ≤ worM c := by
  induction c with
  | nil => simp [volM]
  | cons m c ih =>
    have hq := (h m List.mem_cons_self).qty
    have h1 := ih h.tail (fun x hx => hP x (List.mem_cons_of_mem _ hx))
    have h2 := vol_range h.tail
    have h3 : P.toNat * m.qty.toNat ≤ m.price.toNat * m.qty.toNat := Nat.mul_le_mul_right _ (by have := hP m List.mem_cons_self; omega)
    simp only [worM, volM]
    rw [show (m.qty + volM c).toNat = m.qty.toNat + (volM c).toNat by omega, Nat.mul_add]
    omega
theorem wor_bound {c : List Msg} (h : Cok c) (hl : c.length ≤ 151) : worM c ≤ 1099511627776 * 648540061696 := by
  have h1 := wor_le h (P := 1099511627776) (fun m hm => (h m hm).price.2)
  have h2 := vol_range h
  exact Nat.le_trans h1 (Nat.mul_le_mul (by decide) (by omega))
theorem mean_bound {c : List Msg} (h : Cok c) (hne : c ≠ []) : 1 ≤ volM c ∧ worM c / (volM c).toNat ≤ 1099511627776 := by
  have h1 := wor_le h (P := 1099511627776) (fun m hm => (h m hm).price.2)
  have h2 := vol_range h
  have h3 : 1 ≤ c.length := List.length_pos_iff.2 hne
  refine ⟨by omega, ?_⟩
  exact Nat.div_le_of_le_mul (by rw [Nat.mul_comm]; exact h1)
/-- What makes a bar, with the trades c in it. -/
def mkC (f : Int) (c : List Msg) : List Value := [.int .i64 f, .int .i64 (fstM c), .int .i64 (hiM c), .int .i64 (loM c), .int .i64 (lstM c), .int .i64 (volM c), .int .i64 (c.length : Int), .int .i64 0, .int .u64 ((worM c / 18446744073709551616 : Nat) : Int), .int .u64 ((worM c % 18446744073709551616 : Nat) : Int)]
def mkD (f : Int) (c : List Msg) : List Value := [.int .i64 f, .int .i64 (fstM c), .int .i64 (hiM c), .int .i64 (loM c), .int .i64 (lstM c), .int .i64 (volM c), .int .i64 (c.length : Int), .int .i64 (meanM c), .int .u64 ((worM c / 18446744073709551616 : Nat) : Int), .int .u64 ((worM c % 18446744073709551616 : Nat) : Int)]
theorem mk_step {f g : Int} {c : List Msg} {m : Msg} : [.int .i64 (if c = [] then g else f), .int .i64 (if c = [] then m.price else fstM c), .int .i64 (max (if c = [] then m.price else hiM c) m.price), .int .i64 (min (if c = [] then m.price else loM c) m.price), .int .i64 m.price, .int .i64 (volM c + m.qty), .int .i64 ((c.length : Int) + 1), .int .i64 0, .int .u64 (((worM c + m.price.toNat * m.qty.toNat) / 18446744073709551616 : Nat) : Int), .int .u64 (((worM c + m.price.toNat * m.qty.toNat) % 18446744073709551616 : Nat) : Int)] = mkC (if c = [] then g else f) (c ++ [m]) := by
  unfold mkC
  rw [fst_snoc, hi_snoc, lo_snoc, lst_snoc, vol_snoc, wor_snoc, List.length_append]
  rfl
theorem price_one {p : Int} : priceF p 1 = 0 ↔ 1 ≤ p ∧ p ≤ 1099511627776 := by
  unfold priceF maxP
  by_cases h : 1 ≤ p ∧ p ≤ 1099511627776
  · rw [if_neg (by decide), if_neg (by omega), downF_eq (by omega) (by omega) (by decide), Int.emod_one, if_neg (by omega)]
    simp [h]
  · rw [if_neg (by decide), if_pos (by omega)]
    simp [h]
theorem Take.past {e d : Ent} {H : List Ent} : Take (d :: e :: H) (e :: H) [d] := .cons (.there .here) (by
  have h : ∀ H : List Ent, Take (d :: H) H [d] := by
    intro H
    induction H with
    | nil => exact .nil
    | cons x H ih => exact .cons (.there .here) ih
  exact h H)
theorem qty_zero {q : Int} : qtyF q = 0 ↔ 1 ≤ q ∧ q ≤ 4294967296 := by
  unfold qtyF
  split <;> simp [*]
end Go.Proofs.Ytipgdalebkhgpaa
namespace Go.Proofs.Ytipgdalebkhgpaa
open Go Go.RowKit Fw
theorem RdF.iter {P : Program} {W w : World} {v : Value} {sz : Nat} {els : List (List Value)} {F : Nat → Prop} {Ds : List Nat} {H : List Ent} (h : RdS W v sz els) (hl : ∀ l, l ∈ els → l ≠ []) (hs : St ⟨P, W, footOf []⟩ Ds w H) (hF : ∀ b, F b → footOf [] b ∨ W.heap.size ≤ b) : RdF w v sz els F := by
  refine ⟨(show RdF (Kx.mk P W (footOf [])).W v sz els (Kx.mk P W (footOf [])).F0 from RdF.base h).now hl hs, (h.under hl).imp_right fun hu b hb hf => ?_⟩
  rcases hF b hf with h3 | h3
  · exact not_foot h3
  · have := hu b hb
    omega
/-- Where a trade's bar begins. -/
def frT (w : Int) (m : Msg) : Int := m.tick.tdiv w * w
theorem frT_eq {w : Int} {m : Msg} : frT w m = m.tick - m.tick.tmod w := by
  have := Int.tdiv_mul_add_tmod m.tick w
  unfold frT
  omega
theorem frT_range {w : Int} {m : Msg} (hm : Mok m) (hw : 1 ≤ w) : 0 ≤ m.tick.tdiv w ∧ m.tick.tdiv w ≤ m.tick ∧ 0 ≤ frT w m ∧ frT w m ≤ m.tick ∧ frT w m % w = 0 := by
  have h0 := hm.tick.1
  unfold frT
  rw [Int.tdiv_eq_ediv_of_nonneg h0]
  have h1 := Int.ediv_nonneg h0 (show (0 : Int) ≤ w by omega)
  have h2 := Int.ediv_mul_le m.tick (show w ≠ 0 by omega)
  have h3 := Int.ediv_le_self w h0
  exact ⟨h1, h3, Int.mul_nonneg h1 (by omega), h2, Int.mul_emod_left _ _⟩
abbrev Bst := List Bar × Int × List Msg
/-- One trade more. -/
def stepB (w : Int) (s : Bst) (m : Msg) : Bst :=
  if s.2.2 = [] ∨ s.2.1 = frT w m then (s.1, if s.2.2 = [] then frT w m else s.2.1, s.2.2 ++ [m]) else (s.1 ++ [barOf s.2.1 s.2.2], frT w m, [m])
def foldB (w : Int) (xs : List Msg) : Bst := xs.foldl (stepB w) ([], 0, [])
def endB (s : Bst) : List Bar := if s.2.2 = [] then s.1 else s.1 ++ [barOf s.2.1 s.2.2]
/-- The bars of what counts. -/
def barsOf (w : Int) (xs : List Msg) : List Bar := endB (foldB w xs)
theorem foldB_nil {w : Int} : foldB w [] = ([], 0, []) := rfl
theorem mkC_nil : mkC 0 [] = [.int .i64 0, .int .i64 0, .int .i64 0, .int .i64 0, .int .i64 0, .int .i64 0, .int .i64 0, .int .i64 0, .int .u64 0, .int .u64 0] := rfl
theorem foldB_snoc {w : Int} {xs : List Msg} {k : Nat} {x : Msg} (h : xs[k]? = some x) : foldB w (xs.take (k + 1)) = stepB w (foldB w (xs.take k)) x := by
  rw [take_snoc h]; simp [foldB]
theorem foldB_inv0 {w : Int} {xs : List Msg} : ∀ {s : Bst}, Cok xs → Cok s.2.2 → Cok (xs.foldl (stepB w) s).2.2 ∧ (xs.foldl (stepB w) s).2.2.length ≤ s.2.2.length + xs.length ∧ (xs.foldl (stepB w) s).1.length ≤ s.1.length + xs.length := by
  induction xs with
  | nil => intro s _ h; exact ⟨h, Nat.le_refl _, Nat.le_refl _⟩
  | cons m xs ih =>
    intro s hx hs
    have hm := hx m List.mem_cons_self
    have h1 : Cok (stepB w s m).2.2 ∧ (stepB w s m).2.2.length ≤ s.2.2.length + 1 ∧ (stepB w s m).1.length ≤ s.1.length + 1 := by
      unfold stepB
      split
      · exact ⟨hs.snoc hm, by simp, by simp⟩
      · exact ⟨Cok.nil.snoc hm, by simp, by simp⟩
    obtain ⟨h2, h3, h4⟩ := ih (s := stepB w s m) hx.tail h1.1
    simp only [List.foldl_cons, List.length_cons]
    exact ⟨h2, by omega, by omega⟩
theorem foldB_inv {w : Int} {xs : List Msg} (h : Cok xs) : Cok (foldB w xs).2.2 ∧ (foldB w xs).2.2.length ≤ xs.length ∧ (foldB w xs).1.length ≤ xs.length := by
  have := foldB_inv0 (w := w) (s := ([], 0, [])) h Cok.nil
  simpa [foldB] using this
theorem Cok.take {c : List Msg} {k : Nat} (h : Cok c) : Cok (c.take k) := fun x hx => h x (List.mem_of_mem_take hx)
end Go.Proofs.Ytipgdalebkhgpaa
namespace Go.Proofs.Ytipgdalebkhgpaa
open Go Go.RowKit Fw
theorem msgs_snoc {l : List Msg} {x : Msg} : msgs l ++ [x.cells] = msgs (l ++ [x]) := by simp [msgs]
theorem msgs_sub {l : List Msg} {i n : Nat} : ((msgs l).drop i).take n = msgs ((l.drop i).take n) := by simp [msgs, List.map_drop, List.map_take]
theorem ints_snoc {l : List Int} {x : Int} : ints l ++ [[.int .i64 x]] = ints (l ++ [x]) := by simp [ints]
theorem filt_snoc {α : Type} {p : α → Bool} {l : List α} {i : Nat} {x : α} (h : l[i]? = some x) (hp : p x = true) : (l.take (i + 1)).filter p = (l.take i).filter p ++ [x] := by
  rw [take_snoc h, List.filter_append, List.filter_cons_of_pos hp, List.filter_nil]
theorem lst_at {c : List Msg} {m : Msg} (h : c[c.length - 1]? = some m) : lstM c = m.price := by
  have h1 := (List.getElem?_eq_some_iff.1 h).1
  have h2 := take_snoc h
  rw [show c.length - 1 + 1 = c.length by omega, List.take_length] at h2
  rw [h2, lst_snoc]
theorem fst_at {c : List Msg} {m : Msg} (h : c[0]? = some m) : fstM c = m.price := by
  cases c with
  | nil => cases h
  | cons x c => cases h; rfl
theorem hiA_take {a : Int} {c : List Msg} {i : Nat} {x : Msg} (h : c[i]? = some x) : hiA a (c.take (i + 1)) = max (hiA a (c.take i)) x.price := by rw [take_snoc h, hiA_snoc]
theorem loA_take {a : Int} {c : List Msg} {i : Nat} {x : Msg} (h : c[i]? = some x) : loA a (c.take (i + 1)) = min (loA a (c.take i)) x.price := by rw [take_snoc h, loA_snoc]
theorem vol_take {c : List Msg} {i : Nat} {x : Msg} (h : c[i]? = some x) : volM (c.take (i + 1)) = volM (c.take i) + x.qty := by rw [take_snoc h, vol_snoc]
theorem wor_take {c : List Msg} {i : Nat} {x : Msg} (h : c[i]? = some x) : worM (c.take (i + 1)) = worM (c.take i) + x.price.toNat * x.qty.toNat := by rw [take_snoc h, wor_snoc]
theorem bitsL_zero : bitsL 0 = bitsF fun _ => false := bitsF_congr fun j _ => Nat.zero_testBit j
/-- A group grows by one more. -/
theorem grp_step {w : Int} {X : List Msg} {i k : Nat} {x y : Msg} (hi : X[i]? = some x) (hk : X[k]? = some y) (hik : i ≤ k) (hfr : frT w y = frT w x)
    (h0 : (foldB w (X.take i)).2.2 = [] ∨ (foldB w (X.take i)).2.1 ≠ frT w x)
    (h : k = i ∨ foldB w (X.take k) = (endB (foldB w (X.take i)), frT w x, (X.drop i).take (k - i))) :
    foldB w (X.take (k + 1)) = (endB (foldB w (X.take i)), frT w x, (X.drop i).take (k + 1 - i)) := by
  rw [foldB_snoc hk]
  have hd : (X.drop i).take (k + 1 - i) = (X.drop i).take (k - i) ++ [y] := by
    rw [show k + 1 - i = k - i + 1 by omega]
    exact take_snoc (by rw [List.getElem?_drop, show i + (k - i) = k by omega]; exact hk)
  rcases h with rfl | h
  · rw [hi] at hk
    cases hk
    rw [hd, Nat.sub_self, List.take_zero, List.nil_append]
    generalize foldB w (X.take k) = s at h0 ⊢
    obtain ⟨gs, f, c⟩ := s
    dsimp only at h0
    unfold stepB endB
    dsimp only
    by_cases hc : c = []
    · subst hc; simp
    · have h1 := h0.resolve_left hc
      rw [if_neg (by simp [hc, h1]), if_neg hc]
  · rw [h, hd]
    unfold stepB
    dsimp only
    rw [if_pos (.inr hfr.symm)]
    by_cases hc : (X.drop i).take (k - i) = []
    · rw [if_pos hc, hfr]
    · rw [if_neg hc]
def barsF (w : Int) (xs : List Msg) : List Bar := if w < 1 then [] else barsOf w xs
def faultW (w : Int) : Int := if w < 1 then 9 else 0
theorem bars_at {l : List Bar} {i : Nat} {x : Bar} (h : l[i]? = some x) : (bars l)[i]? = some x.cells := by simp [bars, h]
theorem endB_grp {E : List Bar} {f : Int} {c : List Msg} (h : c ≠ []) : endB (E, f, c) = E ++ [barOf f c] := if_neg h
theorem endB_len {s : Bst} : (endB s).length ≤ s.1.length + 1 := by
  unfold endB
  split
  · omega
  · simp
/-- The bar of all that counts. -/
def tickF : List Msg → Int
  | [] => 0
  | m :: _ => m.tick
def wholeM (c : List Msg) : Bar := if c = [] then ⟨0, 0, 0, 0, 0, 0, 0, 0⟩ else barOf (tickF c) c
theorem tick_snoc {c : List Msg} {m : Msg} : tickF (c ++ [m]) = if c = [] then m.tick else tickF c := by cases c <;> rfl
end Go.Proofs.Ytipgdalebkhgpaa
namespace Go.Proofs.Ytipgdalebkhgpaa
open Go Go.RowKit Fw
def aliveL : List Msg := [⟨3, 0, 0, 4, 0, 0, 100, 1, 0⟩, ⟨3, 0, 0, 6, 0, 0, 104, 3, 0⟩]
theorem alive_ok : ∀ m, m ∈ aliveL → i64R m.tick := by
  intro m hm
  simp only [aliveL, List.mem_cons, List.not_mem_nil, or_false] at hm
  rcases hm with rfl | rfl <;> unfold i64R <;> decide
theorem alive_cts : cts 0 aliveL = aliveL := rfl
theorem alive_bar : wholeM aliveL = ⟨4, 100, 104, 100, 104, 4, 2, 103⟩ := rfl
end Go.Proofs.Ytipgdalebkhgpaa
namespace Go.Proofs.Ytipgdalebkhgpaa
theorem i64R_wf {n : Int} (h : (Go.Lit.int Go.IntKind.i64 n).wf = true) : i64R n := by
  have h2 := Bool.and_eq_true_iff.1 (show (decide (Go.IntKind.i64.min ≤ n) && decide (n ≤ Go.IntKind.i64.max)) = true from h)
  exact ⟨of_decide_eq_true h2.1, of_decide_eq_true h2.2⟩
end Go.Proofs.Ytipgdalebkhgpaa
