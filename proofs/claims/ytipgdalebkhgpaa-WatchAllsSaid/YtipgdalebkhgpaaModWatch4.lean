/-
  All messages of a list; the statements' bounds.
-/
import Derived.Test.YtipgdalebkhgpaaW5
set_option maxRecDepth 20000
namespace Go.Proofs.Ytipgdalebkhgpaa
open Go Go.RowKit Fw
def lightC (c : Cfg) : Bool := decide (c.syms.length ≤ 20) && decide (c.rows.length ≤ 40)
def badM (m : Msg) : Bool := decide (m.seq < -1152921504606846976) || decide (m.tick < -1152921504606846976) || decide (1152921504606846976 < m.tick) || decide (m.qty < -1125899906842624) || decide (1125899906842624 < m.qty)
def lightW (c : Cfg) (l : List Msg) : Bool := lightC c && decide (l.length ≤ 120) && l.all fun m => !badM m
theorem lightW_bad {c : Cfg} {l : List Msg} {i : Nat} {m : Msg} (hm : l[i]? = some m) (h : badM m = true) : lightW c l = false := by
  have : (l.all fun m => !badM m) = false := by
    rw [List.all_eq_false]
    exact ⟨m, List.mem_of_getElem? hm, by simp [h]⟩
  simp [lightW, this]
theorem lightW_ok {c : Cfg} {l : List Msg} (hc : lightC c = true) (hl : l.length ≤ 120) (h : ∀ (j : Nat) m, j < l.length → l[j]? = some m → badM m = false) : lightW c l = true := by
  have : (l.all fun m => !badM m) = true := by
    rw [List.all_eq_true]
    intro m hm
    obtain ⟨j, hj⟩ := List.getElem?_of_mem hm
    simp [h j m (List.getElem?_eq_some_iff.1 hj).1 hj]
  simp [lightW, this, hc, hl]
theorem lightW_inv {c : Cfg} {l : List Msg} (h : lightW c l = true) : l.length ≤ 120 ∧ ∀ (j : Nat) m, l[j]? = some m → -1152921504606846976 ≤ m.seq := by
  simp only [lightW, Bool.and_eq_true, decide_eq_true_eq, List.all_eq_true] at h
  refine ⟨h.1.2, fun j m hm => ?_⟩
  have := h.2 m (List.mem_of_getElem? hm)
  simp [badM] at this
  omega
def allW : Wst → List Msg → Nat → Int × Int
  | _, [], i => ((i : Int), 0)
  | st, m :: l, i => if ckW st m = 0 then allW (putW st m) l (i + 1) else ((i : Int), ckW st m)
def allR (c : Cfg) (l : List Msg) : Int × Int := if (cfgFault c).1 = 0 then allW (newW c) l 0 else (-1, (cfgFault c).1)
theorem allW_bad {st : Wst} {l : List Msg} {i : Nat} {m : Msg} (hm : l[i]? = some m) (h : ckW st m ≠ 0) : allW st (l.drop i) i = ((i : Int), ckW st m) := by
  rw [List.drop_eq_getElem_cons (List.getElem?_eq_some_iff.1 hm).1, (List.getElem?_eq_some_iff.1 hm).2]
  simp [allW, h]
theorem allW_next {st : Wst} {l : List Msg} {i : Nat} {m : Msg} (hm : l[i]? = some m) (h : ckW st m = 0) : allW st (l.drop i) i = allW (putW st m) (l.drop (i + 1)) (i + 1) := by
  rw [List.drop_eq_getElem_cons (List.getElem?_eq_some_iff.1 hm).1, (List.getElem?_eq_some_iff.1 hm).2]
  simp [allW, h]
theorem FnT.mono {P : Program} {g : FuncId} {args : List Value} {Pre : World → Prop} {H0 : List Ent} {R R' : Value → List Ent → Prop} (h : FnT P g args Pre H0 R) (hR : ∀ v es, R v es → R' v es) : FnT P g args Pre H0 R' := fun w hw hs =>
  Calls.mono (h w hw hs) fun _ _ ⟨v, hv, H1, ⟨es, h1, h2⟩, hst⟩ => ⟨v, hv, H1, ⟨es, h1, hR v es h2⟩, hst⟩
theorem New_ok {x y : Value} {c : Cfg} (h : (cfgFault c).1 = 0) : FnT Try.prog 36 [.agg (c.cells x y).toArray] (c.at x y) [] (fun v es => ∃ bw g n cc, v = .tuple #[.pointer (some ⟨bw, 0, none⟩), .int .i64 0] ∧ es = WatH bw g n cc (newW c)) :=
  FnT.mono (s36 x y c) fun v es hv => by
    rcases hv with ⟨h1, _⟩ | ⟨_, h2⟩
    · exact absurd h h1
    · exact h2
theorem New_bad {x y : Value} {c : Cfg} (h : (cfgFault c).1 ≠ 0) : FnT Try.prog 36 [.agg (c.cells x y).toArray] (c.at x y) [] (fun v es => v = .tuple #[.pointer none, .int .i64 (cfgFault c).1] ∧ es = []) :=
  FnT.mono (s36 x y c) fun v es hv => by
    rcases hv with ⟨_, h2⟩ | ⟨h1, _⟩
    · exact h2
    · exact absurd h1 h
theorem Ref_ok {xa ya : Option Addr} {xn xc yn yc : Nat} {c : Cfg} (h : (cfgFault c).1 = 0) : FnT Try.prog 37 [.agg (c.cells (.slice xa xn xc) (.slice ya yn yc)).toArray] (c.at (.slice xa xn xc) (.slice ya yn yc)) [] (fun v es => ∃ br gr nr cr, v = .tuple #[.pointer (some ⟨br, 0, none⟩), .int .i64 0] ∧ es = RatH br gr nr cr (newW c) (.slice xa xn xc) (.slice ya yn yc) c) :=
  FnT.mono (s37 xa ya xn xc yn yc c) fun v es hv => by
    rcases hv with ⟨h1, _⟩ | ⟨_, h2⟩
    · exact absurd h h1
    · exact h2
theorem Ref_bad {xa ya : Option Addr} {xn xc yn yc : Nat} {c : Cfg} (h : (cfgFault c).1 ≠ 0) : FnT Try.prog 37 [.agg (c.cells (.slice xa xn xc) (.slice ya yn yc)).toArray] (c.at (.slice xa xn xc) (.slice ya yn yc)) [] (fun v es => v = .tuple #[.pointer none, .int .i64 (cfgFault c).1] ∧ es = []) :=
  FnT.mono (s37 xa ya xn xc yn yc c) fun v es hv => by
    rcases hv with ⟨_, h2⟩ | ⟨h1, _⟩
    · exact h2
    · exact absurd h1 h
theorem new_syms {c : Cfg} : (newW c).l.map Wk.s = c.syms := by simp [newW, newKs, Function.comp_def]
def plainCfg : Cfg := ⟨[plainSym], plainRows, 10000, 700, 1300, 2000, 15, 30⟩
def plainM1 : Msg := ⟨6, 0, 1, 3, 0, 0, 0, 0, 3⟩
def plainM2 : Msg := ⟨3, 0, 2, 3, 0, 0, 1000, 1, 1⟩
theorem plain_ok : (cfgFault plainCfg).1 = 0 := by decide
theorem plain_ck1 : ckW (newW plainCfg) plainM1 = 0 := by decide
theorem plain_ck2 : ckW (putW (newW plainCfg) plainM1) plainM2 = 10 := by decide
theorem plain_ph : (knOf (putW (putW (newW plainCfg) plainM1) plainM2) 0).phase = 3 := by decide
theorem plain_dl : (knOf (putW (putW (newW plainCfg) plainM1) plainM2) 0).dl = 28 := by decide
end Go.Proofs.Ytipgdalebkhgpaa
