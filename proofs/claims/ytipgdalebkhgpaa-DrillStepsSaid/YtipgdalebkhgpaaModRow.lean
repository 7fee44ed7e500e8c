/-
  A configuration as a row's argument.
-/
import Derived.Test.YtipgdalebkhgpaaModCfg
import Derived.Test.YtipgdalebkhgpaaModMsg
import Derived.Test.YtipgdalebkhgpaaTab
import Derived.Test.YtipgdalebkhgpaaChecked
set_option maxRecDepth 100000
set_option linter.unusedVariables false
namespace Go.Proofs.Ytipgdalebkhgpaa
open Go Go.RowKit Fw Go.ChangeShapes Go.WideShapes

def opnP (P : Program) (r : TypeId → List Value → Prop) (cs : List Value) : List (TypeId × Nat) → Prop
  | [] => True
  | f :: fs => r f.1 ((cs.drop f.2).take (P.cellsOf f.1)) ∧ opnP P r cs fs
theorem opnP_of {P : Program} {r : TypeId → List Value → Prop} {cs : List Value} : ∀ {l : List Field}, opnFs P r cs l → opnP P r cs (l.map fun f => (f.type, f.offset))
  | [], _ => trivial
  | _ :: _, h => ⟨h.1, opnP_of h.2⟩
theorem Msg.of1 {l : List Value} (h : fitsR [.int .i64, .int .i64, .int .i64, .int .i64, .int .i64, .int .i64, .int .i64, .int .i64, .int .i64] l) : ∃ m : Msg, l = m.cells := by
  obtain ⟨m, hm, _⟩ := Msg.of h
  exact ⟨m, hm⟩
theorem TRow.of {l : List Value} (h : fitsR [.int .i64, .int .i64] l) : ∃ r : TRow, l = r.cells := by
  obtain ⟨a, r, rfl, _, h1⟩ := h.i64
  obtain ⟨b, r, rfl, _, h2⟩ := h1.i64
  obtain rfl := h2.nil
  exact ⟨⟨a, b⟩, rfl⟩
theorem unC : Try.prog.underlying 53 = some (.struct (Try.prog.fieldsOf 53)) := by kernel_rfl
theorem fsC : ((Try.prog.fieldsOf 53).toList.map fun f => (f.type, f.offset)) = [(48, 0), (49, 1), (2, 2), (50, 3), (51, 6)] := by kernel_rfl
theorem coC : Try.prog.cellsOf 53 = 8 := by kernel_rfl
theorem coSs : Try.prog.cellsOf 48 = 1 := by kernel_rfl
theorem coRs : Try.prog.cellsOf 49 = 1 := by kernel_rfl
theorem coI64 : Try.prog.cellsOf 2 = 1 := by kernel_rfl
theorem coI : Try.prog.cellsOf 3 = 1 := by kernel_rfl
theorem coA3 : Try.prog.cellsOf 50 = 3 := by kernel_rfl
theorem coA2 : Try.prog.cellsOf 51 = 2 := by kernel_rfl
theorem coS : Try.prog.cellsOf 123 = 16 := by kernel_rfl
theorem coR : Try.prog.cellsOf 138 = 2 := by kernel_rfl
theorem unSs : Try.prog.underlying 48 = some (.slice 123) := by kernel_rfl
theorem unRs : Try.prog.underlying 49 = some (.slice 138) := by kernel_rfl
theorem unI64 : Try.prog.underlying 2 = some (.int .i64) := by kernel_rfl
theorem unI : Try.prog.underlying 3 = some (.int .i64) := by kernel_rfl
theorem unA3 : Try.prog.underlying 50 = some (.array 3 3) := by kernel_rfl
theorem unA2 : Try.prog.underlying 51 = some (.array 2 2) := by kernel_rfl
theorem lvS : leavesF Try.prog 8 123 = some (true, [.int .i64, .int .i64, .int .i64, .int .i64, .int .i64, .int .i64, .int .i64, .int .i64, .int .i64, .int .i64, .int .i64, .int .i64, .int .i64, .int .i64, .int .i64, .int .i64]) := by kernel_rfl
theorem lvR : leavesF Try.prog 8 138 = some (true, [.int .i64, .int .i64]) := by kernel_rfl
theorem opn_i64 {W : World} {n : Nat} {T : TypeId} {cs : List Value} (hT : Try.prog.underlying T = some (.int .i64)) (h : opn Try.prog W n T cs) : ∃ x, cs = [.int .i64 x] := by
  cases n with
  | zero => exact h.elim
  | succ n =>
    unfold opn at h
    rw [hT] at h
    obtain ⟨x, hx, _⟩ := h
    exact ⟨x, hx⟩
theorem opn_sl {W : World} {n : Nat} {T E : TypeId} {cs : List Value} (hT : Try.prog.underlying T = some (.slice E)) (h : opn Try.prog W n T cs) : ∃ n v els, cs = [v] ∧ RdS W v (Try.prog.cellsOf E) els ∧ ∀ l, l ∈ els → opn Try.prog W n E l := by
  cases n with
  | zero => exact h.elim
  | succ n =>
    unfold opn at h
    rw [hT] at h
    obtain ⟨v, els, hv, h1, h2⟩ := h
    exact ⟨n, v, els, hv, h1, fun l hl => (h2 l hl).2⟩
theorem opn_arr {W : World} {n m : Nat} {T E : TypeId} {cs : List Value} (hT : Try.prog.underlying T = some (.array m E)) (h : opn Try.prog W n T cs) : ∃ n, ∀ i, i < m → opn Try.prog W n E ((cs.drop (i * Try.prog.cellsOf E)).take (Try.prog.cellsOf E)) := by
  cases n with
  | zero => exact h.elim
  | succ n =>
    unfold opn at h
    rw [hT] at h
    exact ⟨n, h.2⟩
section
variable {Hh : Type} {enc : TypeId × Value → Hh} {W : World} {sp : Nat → Bool} {held : Bool} {r : Reach} {b0 : Nat} {v : Value} {d : DataW Hh} {ps : List MemPlace}
theorem Cfg.of (hz : ∀ t e, t < Try.prog.types.size → Try.prog.underlying t = some (.slice e) → 0 < Try.prog.cellsOf e) (K : Kids Try.prog (· < Try.prog.types.size)) (ht : 53 < Try.prog.types.size)
    (hok : Value.okWide Try.prog W r b0 53 v) (hd : DataW.Trod enc Try.prog W 0 sp held 53 v d ps) :
    ∃ (xa ya : Option Addr) (xn xc yn yc : Nat) (c : Cfg), v = .agg (c.cells (.slice xa xn xc) (.slice ya yn yc)).toArray ∧ c.at (.slice xa xn xc) (.slice ya yn yc) W := by
  obtain ⟨n, hn⟩ := hd
  have ho := opn_of_trod hz K n 53 _ _ ht hn
  obtain ⟨arr, rfl, _⟩ := okWide_struct unC hok
  cases n with
  | zero => exact ho.elim
  | succ n =>
    unfold opn at ho
    rw [unC] at ho
    obtain ⟨hlen, hfs⟩ := ho
    have hp := opnP_of hfs
    rw [fsC] at hp
    rw [coC] at hlen
    have harr : Value.agg arr = .agg (Value.agg arr).cells.toList.toArray := by simp [Value.cells]
    rw [harr]
    generalize (Value.agg arr).cells.toList = cs at hlen hp
    match cs, hlen with
    | [a0, a1, a2, a3, a4, a5, a6, a7], _ =>
      simp only [opnP, coSs, coRs, coI64, coA3, coA2, List.drop_zero, List.drop_succ_cons, List.take_succ_cons, List.take_zero] at hp
      obtain ⟨h0, h1, h2, h3, h4, _⟩ := hp
      obtain ⟨n0, v0, els0, e0, hr0, he0⟩ := opn_sl unSs h0
      obtain ⟨n1, v1, els1, e1, hr1, he1⟩ := opn_sl unRs h1
      obtain ⟨x2, e2⟩ := opn_i64 unI64 h2
      obtain ⟨n3, h3⟩ := opn_arr unA3 h3
      obtain ⟨n4, h4⟩ := opn_arr unA2 h4
      have f0 := h3 0 (by omega)
      have f1 := h3 1 (by omega)
      have f2 := h3 2 (by omega)
      have g0 := h4 0 (by omega)
      have g1 := h4 1 (by omega)
      simp only [coI, coI64, Nat.zero_mul, Nat.one_mul, Nat.mul_one, List.drop_zero, List.drop_succ_cons, List.take_succ_cons, List.take_zero] at f0 f1 f2 g0 g1
      obtain ⟨x3, e3⟩ := opn_i64 unI f0
      obtain ⟨x4, e4⟩ := opn_i64 unI f1
      obtain ⟨x5, e5⟩ := opn_i64 unI f2
      obtain ⟨x6, e6⟩ := opn_i64 unI64 g0
      obtain ⟨x7, e7⟩ := opn_i64 unI64 g1
      cases e0; cases e1; cases e2; cases e3; cases e4; cases e5; cases e6; cases e7
      rw [coS] at hr0
      rw [coR] at hr1
      obtain ⟨ss, rfl, _⟩ := els_map Sym.cells (fun _ => True) els0 fun l hl => by
        obtain ⟨s, hs⟩ := Sym.of (fits_of_opn 8 n0 _ true _ l lvS (he0 l hl) coS)
        exact ⟨s, hs, trivial⟩
      obtain ⟨rs, rfl, _⟩ := els_map TRow.cells (fun _ => True) els1 fun l hl => by
        obtain ⟨s, hs⟩ := TRow.of (fits_of_opn 8 n1 _ true _ l lvR (he1 l hl) coR)
        exact ⟨s, hs, trivial⟩
      obtain ⟨xa, xn, xc, rfl⟩ := hr0.shape
      obtain ⟨ya, yn, yc, rfl⟩ := hr1.shape
      exact ⟨xa, ya, xn, xc, yn, yc, ⟨ss, rs, x2, x3, x4, x5, x6, x7⟩, rfl, hr0, hr1⟩
end
end Go.Proofs.Ytipgdalebkhgpaa
