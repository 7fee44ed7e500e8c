/-
  The drill's steps in plain Lean.
-/
import Derived.Test.YtipgdalebkhgpaaModOct
import Derived.Test.YtipgdalebkhgpaaFw17
set_option maxRecDepth 20000
set_option linter.unusedVariables false
namespace Go.Proofs.Ytipgdalebkhgpaa
open Go Go.RowKit Fw

/-- A command that takes another back. -/
def cancelC (n : Int) : Cmd := ⟨2, 0, n, 0, 0, 0, 0, 0, 0⟩
theorem cancel_ok {n : Int} (h : 0 ≤ n ∧ n ≤ 1000000) : CmdOk (cancelC n) :=
  ⟨.inr ⟨rfl, rfl, rfl, rfl, rfl, rfl, rfl⟩, by simp [cancelC], h, by simp [cancelC], by simp [cancelC], fun h => by simp [cancelC] at h, by simp [cancelC], by simp [cancelC], by simp [cancelC]⟩
theorem index_range {c : Cfg} (h : (cfgFault c).1 = 0) : 1 ≤ c.index ∧ c.index ≤ 1099511627776 := by
  unfold cfgFault at h
  split at h
  · split at h
    · rename_i i hi
      unfold scanN at hi
      have := List.find?_some hi
      simp at this
      exact absurd h this
    · split at h
      · exact absurd h (by assumption)
      · unfold restF at h
        split at h
        · rename_i h1
          rw [inB_iff] at h1
          exact h1
        · cases h
  · cases h
theorem priceM_range {s : Sym} {n : Int} (hg : 1 ≤ s.grid ∧ s.grid ≤ 1099511627776) : 0 ≤ priceM s n ∧ priceM s n ≤ 1099511627776 := by
  have h2 : downF maxP s.grid = maxP - maxP % s.grid := downF_eq (by decide) (by decide) hg.1
  have h3 := Int.emod_nonneg maxP (show s.grid ≠ 0 by omega)
  have h5 := Int.mul_ediv_add_emod maxP s.grid
  have h6 := Int.mul_nonneg (show 0 ≤ s.grid by omega) (Int.ediv_nonneg (show (0 : Int) ≤ maxP by decide) (show 0 ≤ s.grid by omega))
  unfold priceM
  rw [h2]
  unfold maxP at *
  omega
theorem ord_ok {k : Nat} {c : Cfg} {kind i x : Int} (hok : ordOk c kind i = true) (hi : i ≤ 600) : CmdOk (ordM k c kind i x) := by
  rw [show ordM k c kind i x = ordV k c kind i x from if_pos hok]
  unfold ordOk at hok
  simp only [Bool.and_eq_true, decide_eq_true_eq] at hok
  obtain ⟨hc0, hk0, hk4⟩ := right_ok hok.1.1
  have hcl := clen hc0
  have hsy := ordS_at (k := k) (x := x) hc0
  obtain ⟨hg, hr, hmd⟩ := sym_range (sym_ok hc0 hsy)
  have hp := priceM_range (n := shiftM (k + 2) kind i (th (k + 1) x 2) x) hg
  have r2 := th_range (k := k + 1) (x := x) (n := 2) (by decide)
  have r9 := th_range (k := k + 3) (x := x) (n := 9) (by decide)
  have r4 := th_range (k := k + 4) (x := x) (n := 4) (by decide)
  have rl := th_range (k := k) (x := x) (n := c.syms.length) (by omega)
  refine ⟨.inl rfl, ?_, ?_, ?_, ?_, fun _ => ?_, ?_, ?_, ?_⟩ <;> simp only [ordV]
  · omega
  · omega
  · omega
  · omega
  · unfold kindM
    repeat' split
    all_goals omega
  · unfold flagM
    repeat' split
    all_goals omega
  · split
    · omega
    · exact hp
  · omega
/-- A step that is no order. -/
def othM (k : Nat) (c : Cfg) (kind i x t : Int) : Stp :=
  if t < 8 then ⟨2, 0, th k x 3 + 1, []⟩ else
  if t = 8 then ⟨1, 0, 0, cmdB (cancelC (th k x (i + 1) + 1))⟩ else
  if kind = 4 ∧ i.tmod 7 = 0 then ⟨3, 0, max (c.index - c.index.tdiv 100 * th k x 25) 1, []⟩ else
  ⟨4, 0, max ((symAt c 0).ref - (symAt c 0).grid * th k x 5) 0, []⟩
def stpM (k : Nat) (c : Cfg) (kind i x : Int) : Stp :=
  if 6 ≤ th k x 10 then othM (k + 1) c kind i x (th k x 10) else ⟨1, 0, 0, cmdB (ordM (k + 1) c kind i x)⟩
def stpN (k : Nat) (x : Int) : Nat := if 6 ≤ th k x 10 then k + 2 else k + 8
/-- The dice ahead of step i. -/
def stepsK (x : Int) : Nat → Nat
  | 0 => 0
  | i + 1 => stpN (stepsK x i) x
def stepsL (c : Cfg) (kind x : Int) : Nat → List Stp
  | 0 => [⟨2, 0, (startAt c.rows).1, []⟩]
  | i + 1 => stepsL c kind x i ++ [stpM (stepsK x i) c kind i x]
theorem stepsL_len {c : Cfg} {kind x : Int} {i : Nat} : (stepsL c kind x i).length = i + 1 := by
  induction i with
  | zero => rfl
  | succ i ih => rw [stepsL, List.length_append, ih]; rfl
def stepsF (c : Cfg) (kind n : Int) : Int := if rightF c kind ≠ 0 then rightF c kind else if n < 0 ∨ 500 < n then 1 else 0
def stepsM (c : Cfg) (kind x n : Int) : List Stp := if stepsF c kind n = 0 then stepsL c kind x n.toNat else []
theorem mul_band {g t m : Int} (hg : 0 ≤ g) (ht : 0 ≤ t ∧ t ≤ m) : 0 ≤ g * t ∧ g * t ≤ g * m := ⟨Int.mul_nonneg hg ht.1, Int.mul_le_mul_of_nonneg_left ht.2 hg⟩
/-- Steps and their frames' values. -/
def stRow (l : List (Stp × Value)) : List (List Value) := l.map fun p => stpC p.1 p.2
def stBag (E : Nat) (l : List (Stp × Value)) : List Ent := (l.map fun p => Ent.row p.2 1 (u8s p.1.fr) E).reverse
theorem stRow_len {l : List (Stp × Value)} : (stRow l).length = l.length := by simp [stRow]
theorem stRow_ne {l : List (Stp × Value)} : ∀ x, x ∈ stRow l → x ≠ [] := map_ne fun _ => List.cons_ne_nil _ _
theorem stRow_get {l : List (Stp × Value)} {i : Nat} {s : Stp} {v : Value} (h : l[i]? = some (s, v)) : (stRow l)[((i : Nat) : Int).toNat]? = some (stpC s v) := by simp [stRow, h]
theorem stRow_snoc {l : List (Stp × Value)} {s : Stp} {v : Value} : stRow l ++ [stpC s v] = stRow (l ++ [(s, v)]) := by simp [stRow]
theorem stBag_mem {E : Nat} {l : List (Stp × Value)} {s : Stp} {v : Value} (h : (s, v) ∈ l) : Ent.row v 1 (u8s s.fr) E ∈ stBag E l := by
  unfold stBag
  rw [List.mem_reverse, List.mem_map]
  exact ⟨_, h, rfl⟩
theorem stPush {K : Kx} {H : List Ent} {E : Nat} {l : List (Stp × Value)} {s : Stp} {v : Value} : Imp K (Ent.row v 1 (u8s s.fr) E :: Ent.bag (stBag E l) :: H) (Ent.bag (stBag E (l ++ [(s, v)])) :: H) := by
  rw [show stBag E (l ++ [(s, v)]) = Ent.row v 1 (u8s s.fr) E :: stBag E l by simp [stBag]]
  exact Imp.bagPush
theorem stRow_lit {s : Stp} {a : Option Addr} {n c : Nat} : ∀ l, l ∈ [stpC s (.slice a n c)] → l.length = 4 ∧ ∀ u, u ∈ l → u.oneCell' = true := by
  intro l hl
  simp only [List.mem_singleton] at hl
  subst hl
  exact ⟨rfl, allOne_spec rfl⟩
theorem st_snoc {c : Cfg} {kind x : Int} {i : Nat} {l : List (Stp × Value)} (h : l.map Prod.fst = stepsL c kind x i) {s : Stp} {v : Value} (hs : s = stpM (stepsK x i) c kind i x) : (l ++ [(s, v)]).map Prod.fst = stepsL c kind x (i + 1) := by
  rw [List.map_append, h, hs]
  rfl
theorem u8s_ints {l : List Nat} : u8s l = (l.map fun n : Nat => (n : Int)).map fun n => [.int .u8 n] := by simp [u8s]
/-- The same place of two lists with the same steps. -/
theorem st_at {la lb : List (Stp × Value)} (h : la.map Prod.fst = lb.map Prod.fst) {i : Nat} (hi : i < la.length) : ∃ s u v, la[i]? = some (s, u) ∧ lb[i]? = some (s, v) := by
  have hl : la.length = lb.length := by simpa using congrArg List.length h
  have h1 := congrArg (fun l : List Stp => l[i]?) h
  simp only [List.getElem?_map, List.getElem?_eq_getElem hi, List.getElem?_eq_getElem (show i < lb.length by omega), Option.map_some, Option.some.injEq] at h1
  exact ⟨la[i].1, la[i].2, lb[i].2, by rw [List.getElem?_eq_getElem hi], by rw [List.getElem?_eq_getElem (show i < lb.length by omega), h1]⟩
theorem startAt_at {l : List TRow} {i : Nat} {x : TRow} (h : l[i]? = some x) (hp : isCont x = true) (hb : ∀ j y, j < i → l[j]? = some y → isCont y = false) : startAt l = (x.at_, true) := by
  have : l.findIdx? isCont = some i := by
    rw [List.findIdx?_eq_some_iff_getElem]
    obtain ⟨hlt, he⟩ := List.getElem?_eq_some_iff.1 h
    refine ⟨hlt, by rw [he]; exact hp, fun j hj => ?_⟩
    have := hb j _ hj (List.getElem?_eq_getElem (by omega))
    rw [this]
    simp
  unfold startAt
  simp only [this, h]
theorem startAt_no {l : List TRow} (hb : ∀ (j : Nat) y, l[j]? = some y → isCont y = false) : startAt l = (0, false) := by
  have : l.findIdx? isCont = none := by
    rw [List.findIdx?_eq_none_iff]
    intro x hx
    obtain ⟨j, hj⟩ := List.getElem?_of_mem hx
    exact hb j x hj
  unfold startAt
  simp only [this]
end Go.Proofs.Ytipgdalebkhgpaa
