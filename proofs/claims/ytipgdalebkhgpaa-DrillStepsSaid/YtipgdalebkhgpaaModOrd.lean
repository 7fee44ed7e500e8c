/-
  The drill's orders in plain Lean.
-/
import Derived.Test.YtipgdalebkhgpaaV1
import Derived.Test.YtipgdalebkhgpaaD1
set_option maxRecDepth 20000
namespace Go.Proofs.Ytipgdalebkhgpaa
open Go Go.RowKit Fw

theorem fnT_mono {P : Program} {g : FuncId} {args : List Value} {Pre : World → Prop} {H0 : List Ent} {R R' : Value → List Ent → Prop} (h : FnT P g args Pre H0 R) (hR : ∀ v es, R v es → R' v es) : FnT P g args Pre H0 R' := fun w hw hs =>
  Calls.mono (h w hw hs) fun _ _ ⟨v, hv, H1, ⟨es, h1, h2⟩, hst⟩ => ⟨v, hv, H1, ⟨es, h1, hR v es h2⟩, hst⟩
/-- The dice behind k throws. -/
def dn : Nat → Int → Int
  | 0, x => x
  | k + 1, x => diceNext (dn k x)
/-- What they throw then, of n. -/
def th (k : Nat) (x n : Int) : Int := diceThrow (dn k x) n
theorem th_range {k : Nat} {x n : Int} (hn : 1 ≤ n) : 0 ≤ th k x n ∧ th k x n < n := by
  unfold th diceThrow
  have h1 := diceNext_nonneg (dn k x)
  have h2 := diceNext_le (dn k x)
  generalize diceNext (dn k x) = y at *
  rw [Int.fdiv_eq_ediv_of_nonneg _ (by decide), i64_in _ (by omega)]
  have h3 : 0 ≤ y / 2 ^ 33 := by omega
  rw [Int.tmod_eq_emod_of_nonneg h3]
  exact ⟨Int.emod_nonneg _ (by omega), Int.emod_lt_of_pos _ (by omega)⟩
theorem Next_pos (b : Nat) (x n : Int) (k : Nat) (hn : 1 ≤ n) : FnT Try.prog 27 [.pointer (some ⟨b, 0, none⟩), .int .i64 n] (fun _ => True) [Ent.cells b [.int .u64 (dn k x)] 119] (fun v es => v = .int .i64 (th k x n) ∧ es = [Ent.cells b [.int .u64 (dn (k + 1) x)] 119]) :=
  fnT_mono (s27 b (dn k x) n) fun v es hv => by
    simp only [show ¬ n < 1 by omega, if_false] at hv
    exact hv
theorem RefNext_pos (b : Nat) (x n : Int) (k : Nat) (hn : 1 ≤ n) : FnT Try.prog 28 [.pointer (some ⟨b, 0, none⟩), .int .i64 n] (fun _ => True) [Ent.cells b [.int .u64 (dn k x)] 60] (fun v es => v = .int .i64 (th k x n) ∧ es = [Ent.cells b [.int .u64 (dn (k + 1) x)] 60]) :=
  fnT_mono (s28 b (dn k x) n) fun v es hv => by
    simp only [show ¬ n < 1 by omega, if_false] at hv
    exact hv
/-- By how many steps a price is shifted. -/
def shiftM (k : Nat) (kind i side x : Int) : Int :=
  if kind = 4 then th k x 81 - 40 else
  if kind = 1 then th k x 9 - 4 - i / 4 else
  if kind = 2 then th k x 9 - 4 + i / 4 else
  if kind = 3 then (if side = 0 then th k x 9 - 4 + 3 else th k x 9 - 4 - 3) else th k x 9 - 4
theorem shiftM_range {k : Nat} {kind i side x : Int} (hi : 0 ≤ i ∧ i ≤ 2000) : -4096 ≤ shiftM k kind i side x ∧ shiftM k kind i side x ≤ 4096 := by
  have h1 := th_range (k := k) (x := x) (n := 81) (by decide)
  have h2 := th_range (k := k) (x := x) (n := 9) (by decide)
  unfold shiftM
  repeat' split
  all_goals omega
def priceM (s : Sym) (n : Int) : Int := min (max (s.ref + s.grid * n) s.grid) (downF maxP s.grid)
def kindM (k : Nat) (kind x : Int) : Int := if th k x 8 = 0 then 3 else if th k x 8 = 1 then 5 else if th k x 8 = 2 ∧ kind = 4 then 2 else 1
def rightF (c : Cfg) (kind : Int) : Int := if (cfgFault c).1 ≠ 0 then (cfgFault c).1 else if kind < 0 ∨ 4 < kind then 1 else 0
structure Cmd where
  (kind sym id_ owner side typ price qty flags : Int)
def Cmd.cells (m : Cmd) : List Value := [.int .i64 m.kind, .int .i64 m.sym, .int .i64 m.id_, .int .i64 m.owner, .int .i64 m.side, .int .i64 m.typ, .int .i64 m.price, .int .i64 m.qty, .int .i64 m.flags]
def Cmd.zero : Cmd := ⟨0, 0, 0, 0, 0, 0, 0, 0, 0⟩
def symZ : Sym := ⟨0, 0, 0, 0, 0, 0, 0, 0, 0, 0, 0, 0, 0, 0, 0, 0⟩
def symAt (c : Cfg) (n : Int) : Sym := match c.syms[n.toNat]? with | some s => s | none => symZ
def flagM (n : Int) : Int := if n = 0 then 4 else if n = 1 then 1 else 0
/-- Is an order thrown at all? -/
def ordOk (c : Cfg) (kind i : Int) : Bool := decide (rightF c kind = 0) && decide (0 ≤ i) && decide (i ≤ 2000)
/-- The symbol, and the price that is thrown. -/
def ordS (k : Nat) (c : Cfg) (x : Int) : Sym := symAt c (th k x c.syms.length)
def ordP (k : Nat) (c : Cfg) (kind i x : Int) : Int := priceM (ordS k c x) (shiftM (k + 2) kind i (th (k + 1) x 2) x)
def ordV (k : Nat) (c : Cfg) (kind i x : Int) : Cmd :=
  ⟨1, th k x c.syms.length, i + 1, th (k + 4) x 4, th (k + 1) x 2, kindM (k + 5) kind x, if kindM (k + 5) kind x = 2 then 0 else ordP k c kind i x, th (k + 3) x 9 + 1, flagM (th (k + 6) x 6)⟩
def ordM (k : Nat) (c : Cfg) (kind i x : Int) : Cmd := if ordOk c kind i then ordV k c kind i x else Cmd.zero
def ordN (k : Nat) (c : Cfg) (kind i : Int) : Nat := if ordOk c kind i then k + 7 else k
theorem right_ok {c : Cfg} {kind : Int} (h : rightF c kind = 0) : (cfgFault c).1 = 0 ∧ 0 ≤ kind ∧ kind ≤ 4 := by
  unfold rightF at h
  split at h
  · exact absurd h (by assumption)
  · split at h
    · cases h
    · omega
theorem sym_ok {c : Cfg} (h : (cfgFault c).1 = 0) {j : Nat} {s : Sym} (hj : c.syms[j]? = some s) : symFault s = 0 := by
  have hlt := (List.getElem?_eq_some_iff.1 hj).1
  unfold cfgFault at h
  split at h
  · split at h
    · rename_i i hi
      unfold scanN at hi
      have := List.find?_some hi
      simp at this
      exact absurd h this
    · rename_i hi
      unfold scanN at hi
      rw [List.find?_eq_none] at hi
      have := hi j (by simpa using hlt)
      rw [symG_at hj] at this
      simpa using this
  · cases h
theorem sym_range {s : Sym} (h : symFault s = 0) : (1 ≤ s.grid ∧ s.grid ≤ 1099511627776) ∧ (1 ≤ s.ref ∧ s.ref ≤ 1099511627776) ∧ s.ref.tmod s.grid = 0 := by
  unfold symFault at h
  split at h
  · rename_i h1
    rw [Bool.and_eq_true, inB_iff, inB_iff] at h1
    unfold maxP at h1
    split at h
    · exact ⟨h1.1, h1.2, by assumption⟩
    · cases h
  · cases h
theorem clen {c : Cfg} (h : (cfgFault c).1 = 0) : 1 ≤ c.syms.length ∧ c.syms.length ≤ 8 := by
  cases hl : inB c.syms.length 1 8 with
  | true => rw [inB_iff] at hl; omega
  | false => rw [cfgFault_len hl] at h; cases h
theorem ordS_at {k : Nat} {c : Cfg} {x : Int} (h : (cfgFault c).1 = 0) : c.syms[(th k x c.syms.length).toNat]? = some (ordS k c x) := by
  have h1 := clen h
  have h2 := th_range (k := k) (x := x) (n := c.syms.length) (by omega)
  have hlt : (th k x c.syms.length).toNat < c.syms.length := by omega
  unfold ordS symAt
  rw [List.getElem?_eq_getElem hlt]
theorem flag_get {n : Int} {o : Nat} (ho : o = n.toNat) (hn : 0 ≤ n ∧ n < 6) : ([Value.int .i64 4, .int .i64 1, .int .i64 0, .int .i64 0, .int .i64 0, .int .i64 0] : List Value)[o]? = some (.int .i64 (flagM n)) := by
  subst ho
  have : n = 0 ∨ n = 1 ∨ n = 2 ∨ n = 3 ∨ n = 4 ∨ n = 5 := by omega
  rcases this with rfl | rfl | rfl | rfl | rfl | rfl <;> rfl
/-- The reference's price. -/
theorem price_ref {s : Sym} {n : Int} (hg : 1 ≤ s.grid ∧ s.grid ≤ 1099511627776) (hr : 1 ≤ s.ref ∧ s.ref ≤ 1099511627776) (hm : s.ref.tmod s.grid = 0) (hn : -4096 ≤ n ∧ n ≤ 4096) :
    s.grid * max (min (s.ref.tdiv s.grid + n) ((1099511627776 : Int).tdiv s.grid)) 1 = priceM s n := by
  have hpos : 0 < s.grid := by omega
  rw [Int.tmod_eq_emod_of_nonneg (by omega)] at hm
  rw [Int.tdiv_eq_ediv_of_nonneg (by omega), Int.tdiv_eq_ediv_of_nonneg (by omega)]
  unfold priceM
  have hq : s.grid * (s.ref / s.grid) = s.ref := by
    have := Int.mul_ediv_add_emod s.ref s.grid
    omega
  have hM : downF maxP s.grid = s.grid * (1099511627776 / s.grid) := by
    rw [downF_eq (by decide) (by decide) hg.1]
    have := Int.mul_ediv_add_emod 1099511627776 s.grid
    show (1099511627776 : Int) - 1099511627776 % s.grid = _
    omega
  have h1 : 1 ≤ 1099511627776 / s.grid := (Int.le_ediv_iff_mul_le hpos).2 (by omega)
  rw [hM, show s.ref + s.grid * n = s.grid * (s.ref / s.grid + n) by rw [Int.mul_add, hq]]
  generalize s.ref / s.grid + n = a
  generalize (1099511627776 : Int) / s.grid = M at *
  have hmono : ∀ u v : Int, u ≤ v → s.grid * u ≤ s.grid * v := fun u v h => Int.mul_le_mul_of_nonneg_left h (by omega)
  have e1 : s.grid * 1 = s.grid := Int.mul_one _
  by_cases ha : a ≤ M
  · by_cases hb : 1 ≤ a
    · have x1 := hmono 1 a hb
      have x2 := hmono a M ha
      rw [show max (min a M) 1 = a by omega]
      omega
    · have x1 := hmono a 1 (by omega)
      have x2 := hmono 1 M h1
      rw [show max (min a M) 1 = 1 by omega]
      omega
  · have x1 := hmono M a (by omega)
    have x2 := hmono 1 M h1
    rw [show max (min a M) 1 = M by omega]
    omega
theorem price_bound {s : Sym} {n : Int} (hg : 1 ≤ s.grid ∧ s.grid ≤ 1099511627776) (hn : -4096 ≤ n ∧ n ≤ 4096) : -4503599627370496 ≤ s.grid * n ∧ s.grid * n ≤ 4503599627370496 := by
  obtain ⟨h1, h2⟩ := mul_abs (a := s.grid) (b := n) (by omega) hn
  generalize s.grid.natAbs * n.natAbs = P at *
  rw [h2]
  split <;> omega
theorem quo_range {g r : Int} (hg : 1 ≤ g ∧ g ≤ 1099511627776) (hr : 1 ≤ r ∧ r ≤ 1099511627776) : 0 ≤ r.tdiv g ∧ r.tdiv g ≤ 1099511627776 := by
  rw [Int.tdiv_eq_ediv_of_nonneg (by omega)]
  have h1 := Int.ediv_nonneg (show 0 ≤ r by omega) (show 0 ≤ g by omega)
  have h2 := Int.ediv_le_self g (show 0 ≤ r by omega)
  omega
theorem price_in {s : Sym} {n : Int} (hg : 1 ≤ s.grid ∧ s.grid ≤ 1099511627776) (hr : 1 ≤ s.ref ∧ s.ref ≤ 1099511627776) (hn : -4096 ≤ n ∧ n ≤ 4096) : -9223372036854775808 ≤ priceM s n ∧ priceM s n ≤ 9223372036854775807 := by
  have h1 := price_bound hg hn
  have h2 : downF maxP s.grid = maxP - maxP % s.grid := downF_eq (by decide) (by decide) hg.1
  have h3 := Int.emod_nonneg maxP (show s.grid ≠ 0 by omega)
  have h4 := Int.emod_lt_of_pos maxP (show 0 < s.grid by omega)
  unfold priceM
  rw [h2]
  unfold maxP at *
  omega
end Go.Proofs.Ytipgdalebkhgpaa
