/-
  '==' of structs; tests of several operations; other small rules.
-/
import Derived.Test.YtipgdalebkhgpaaFw10
set_option linter.unusedVariables false
namespace Go.Proofs.Ytipgdalebkhgpaa.Fw
open Go Go.RowKit

inductive Leaf where
  | int (k : IntKind)
  | bool
  | str
def Leaf.ok : Leaf → Value → Prop
  | .int k, v => ∃ n, v = .int k n
  | .bool, v => ∃ b, v = .bool b
  | .str, v => ∃ s, v = .string s
def fits : List Leaf → List Value → Prop
  | [], [] => True
  | l :: L, v :: vs => l.ok v ∧ fits L vs
  | _, _ => False
theorem fits.len : ∀ {L : List Leaf} {vs : List Value}, fits L vs → vs.length = L.length
  | [], [], _ => rfl
  | _ :: _, _ :: _, h => by simp [fits.len h.2]
  | [], _ :: _, h => h.elim
  | _ :: _, [], h => h.elim
theorem fits.split : ∀ {A B : List Leaf} {vs : List Value}, fits (A ++ B) vs → ∃ x y, vs = x ++ y ∧ fits A x ∧ fits B y
  | [], B, vs, h => ⟨[], vs, rfl, trivial, h⟩
  | l :: A, B, v :: vs, h => by
    obtain ⟨x, y, rfl, h1, h2⟩ := fits.split (A := A) h.2
    exact ⟨v :: x, y, rfl, ⟨h.1, h1⟩, h2⟩
  | l :: A, B, [], h => h.elim

def fieldsL (P : Program) (lv : TypeId → Option (Bool × List Leaf)) : Nat → List Field → Option (List Leaf)
  | _, [] => some []
  | off, f :: fs =>
    bif f.name == "_" || !(Nat.beq f.offset off) then none else
    match lv f.type, P.info? f.type with
    | some (a, l), some i => bif Nat.beq i.size l.length then (match fieldsL P lv (off + l.length) fs with | some r => some (l ++ r) | none => none) else none
    | _, _ => none
def leavesF (P : Program) : Nat → TypeId → Option (Bool × List Leaf)
  | 0, _ => none
  | d + 1, T =>
    match P.underlying T with
    | some (.int k) => some (false, [.int k])
    | some .bool => some (false, [.bool])
    | some .string => some (false, [.str])
    | some (.struct fs) => bif P.stoodInHeld T then none else (match fieldsL P (leavesF P d) 0 fs.toList with | some l => some (true, l) | none => none)
    | _ => none
def mkV (a : Bool) (l : List Value) : Value := bif a then .agg l.toArray else l.headD undef

section
variable {P : Program} {w : World}

open Classical in
theorem eqF (d : Nat) (lv : TypeId → Option (Bool × List Leaf)) (hag : ∀ T a l, lv T = some (a, l) → ∀ w, (isAgg T).run P w = .ok a w ∧ (a = false → l.length = 1))
    (hlv : ∀ T a l, lv T = some (a, l) → ∀ x y, fits l x → fits l y → (Op.equalIn d T (mkV a x) (mkV a y)).run P w = .ok (decide (x = y)) w) :
    ∀ (fs : List Field) (off : Nat) (L : List Leaf) (px py x y : List Value), fieldsL P lv off fs = some L → px.length = off → py.length = off → fits L x → fits L y →
      (Op.eqFields d (px ++ x).toArray (py ++ y).toArray fs).run P w = .ok (decide (x = y)) w
  | [], off, L, px, py, x, y, h, _, _, hx, hy => by
    cases h
    cases x with
    | nil => cases y with
      | nil => simp [Op.eqFields]
      | cons _ _ => exact hy.elim
    | cons _ _ => exact hx.elim
  | f :: fs, off, L, px, py, x, y, h, hpx, hpy, hx, hy => by
    unfold fieldsL at h
    cases hb : (f.name == "_" || !(Nat.beq f.offset off)) with
    | true => rw [hb] at h; cases h
    | false =>
      rw [hb, cond_false] at h
      have hb' : (f.name == "_") = false ∧ f.offset = off := by
        rw [Bool.or_eq_false_iff] at hb
        exact ⟨hb.1, Nat.eq_of_beq_eq_true (by simpa using hb.2)⟩
      cases hl : lv f.type with
      | none => rw [hl] at h; cases h
      | some al =>
        obtain ⟨a, l⟩ := al
        cases hi : P.info? f.type with
        | none => rw [hl, hi] at h; cases h
        | some i =>
          rw [hl, hi] at h
          simp only at h
          cases hs : Nat.beq i.size l.length with
          | false => rw [hs] at h; cases h
          | true =>
            rw [hs, cond_true] at h
            cases hr : fieldsL P lv (off + l.length) fs with
            | none => rw [hr] at h; cases h
            | some r =>
              rw [hr] at h
              cases h
              obtain ⟨x1, x2, rfl, hx1, hx2⟩ := hx.split
              obtain ⟨y1, y2, rfl, hy1, hy2⟩ := hy.split
              have hpart : ∀ (p z1 z2 : List Value), p.length = off → fits l z1 → (part f.type (p ++ (z1 ++ z2)).toArray f.offset).run P w = .ok (mkV a z1) w := by
                intro p z1 z2 hp hz
                have hlen := hz.len
                unfold part
                cases a with
                | true =>
                  simp only [Sem.run_bind, (hag _ _ _ hl w).1, Result.andThen_ok, if_true, sizeOf, typeInfo, run_program, hi, Sem.run_pure, mkV, cond_true, Nat.eq_of_beq_eq_true hs]
                  congr 2
                  apply Array.ext'
                  rw [hb'.2]
                  simp [hlen.symm, ← hp]
                | false =>
                  have h1 := (hag _ _ _ hl w).2 rfl
                  rw [h1] at hlen
                  obtain ⟨v, rfl⟩ := List.length_eq_one_iff.1 hlen
                  simp only [Sem.run_bind, (hag _ _ _ hl w).1, Result.andThen_ok, Bool.false_eq_true, if_false, mkV, cond_false]
                  have : (p ++ ([v] ++ z2)).toArray[f.offset]? = some v := by
                    rw [hb'.2, ← hp]
                    simp
                  rw [this]
                  rfl
              have ha := hpart px x1 x2 hpx hx1
              have hb2 := hpart py y1 y2 hpy hy1
              have he := hlv _ _ _ hl x1 y1 hx1 hy1
              have hn' : f.name ≠ "_" := by simpa using hb'.1
              rw [Op.eqFields]
              simp only [if_pos hn', Sem.run_bind, ha, hb2, he, Result.andThen_ok]
              have hlx := hx1.len
              have hly := hy1.len
              by_cases e1 : x1 = y1
              · subst e1
                have ih := eqF d lv hag hlv fs (off + l.length) r (px ++ x1) (py ++ x1) x2 y2 hr (by simp [hpx, hlx]) (by simp [hpy, hlx]) hx2 hy2
                simp only [List.append_assoc] at ih
                simpa using ih
              · have : ¬ (x1 ++ x2 = y1 ++ y2) := fun e => e1 (List.append_inj e (hlx.trans hly.symm)).1
                simp [e1, this]

theorem agOf : ∀ (d : Nat) (T : TypeId) (a : Bool) (l : List Leaf), leavesF P d T = some (a, l) → ∀ w, (isAgg T).run P w = .ok a w ∧ (a = false → l.length = 1)
  | 0, _, _, _, h, _ => by cases h
  | d + 1, T, a, l, h, w => by
    unfold leavesF at h
    unfold isAgg underlying
    simp only [Sem.run_bind, run_program, Result.andThen_ok]
    cases hu : P.underlying T with
    | none => rw [hu] at h; cases h
    | some e =>
      rw [hu] at h
      cases e <;> simp at h <;> first | (obtain ⟨rfl, rfl⟩ := h; exact ⟨rfl, fun _ => rfl⟩) | skip
      rename_i fs
      cases hst : P.stoodInHeld T with
      | true => rw [hst] at h; cases h
      | false =>
        rw [hst] at h
        simp at h
        split at h
        · cases h; exact ⟨rfl, fun e => by cases e⟩
        · cases h

open Classical in
theorem eqL : ∀ (d D : Nat), d ≤ D → ∀ (T : TypeId) (a : Bool) (l : List Leaf), leavesF P d T = some (a, l) → ∀ x y, fits l x → fits l y → (Op.equalIn D T (mkV a x) (mkV a y)).run P w = .ok (decide (x = y)) w
  | 0, D, _, T, a, l, h, _, _, _, _ => by cases h
  | d + 1, 0, h, _, _, _, _, _, _, _, _ => by omega
  | d + 1, D + 1, hd, T, a, l, h, x, y, hx, hy => by
    unfold leavesF at h
    cases hu : P.underlying T with
    | none => rw [hu] at h; cases h
    | some e =>
      rw [hu] at h
      have one : ∀ (l : Leaf) (z : List Value), fits [l] z → ∃ v, z = [v] ∧ l.ok v := by
        intro l z hz
        match z, hz with
        | [v], hz => exact ⟨v, rfl, hz.1⟩
      cases e <;> simp at h
      · obtain ⟨rfl, rfl⟩ := h
        obtain ⟨_, rfl, b, rfl⟩ := one _ _ hx
        obtain ⟨_, rfl, b', rfl⟩ := one _ _ hy
        rw [show mkV false [Value.bool b] = .bool b from rfl, show mkV false [Value.bool b'] = .bool b' from rfl, run_equalIn_bool w D T b b' hu]
        cases b <;> cases b' <;> simp
      · obtain ⟨rfl, rfl⟩ := h
        obtain ⟨_, rfl, b, rfl⟩ := one _ _ hx
        obtain ⟨_, rfl, b', rfl⟩ := one _ _ hy
        rw [show mkV false [Value.int _ b] = .int _ b from rfl, show mkV false [Value.int _ b'] = .int _ b' from rfl, run_equalIn_int w D T _ _ b b' hu]
        congr 1
        simp [Bool.beq_eq_decide_eq]
      · obtain ⟨rfl, rfl⟩ := h
        obtain ⟨_, rfl, b, rfl⟩ := one _ _ hx
        obtain ⟨_, rfl, b', rfl⟩ := one _ _ hy
        rw [show mkV false [Value.string b] = .string b from rfl, show mkV false [Value.string b'] = .string b' from rfl, run_equalIn_string w D T b b' hu, ByteArray.toList_eq, ByteArray.toList_eq]
        congr 1
        obtain ⟨⟨x⟩⟩ := b
        obtain ⟨⟨y⟩⟩ := b'
        simp [Bool.beq_eq_decide_eq]
      · rename_i fs
        cases hst : P.stoodInHeld T with
        | true => rw [hst] at h; cases h
        | false =>
          rw [hst] at h
          simp at h
          split at h
          · rename_i l' hl'
            cases h
            have hf : P.fieldsOf T = fs := by simp [Program.fieldsOf, hu]
            show (Op.equalIn (D + 1) T (.agg x.toArray) (.agg y.toArray)).run P w = _
            rw [run_equalIn_struct (P := P) w D T _ _ (by rw [hf]; exact hu) hst, hf]
            exact eqF D (leavesF P d) (agOf d) (fun T a l h => eqL d D (by omega) T a l h) fs.toList 0 l [] [] x y hl' rfl rfl hx hy
          · cases h
end

/-- A type that '==' can see. -/
def eqT (P : Program) (T : TypeId) (L : List Leaf) : Prop := leavesF P 8 T = some (true, L) ∧ P.eqGuardType P.depth T = false

section
variable {K : Kx} {r : Option Nat} {H : List Ent} {Q : Post}

open Classical in
theorem R.eqA {T : Nat} {L : List Leaf} {a b : Operand} {x y : List Value} (h : eqT K.P T L) (hx : fits L x) (hy : fits L y) : Runs K H (binS .eql T a b (.agg x.toArray) (.agg y.toArray)) (.bool (decide (x = y))) := .of fun w => by
  refine vS_run ?_
  have he := eqL (w := w) 8 10000 (by decide) T true L h.1 x y hx hy
  simp only [mkV, cond_true] at he
  simp only [Sem.run_bind, run_eqGuard_agg w _ T a b _ _ h.2, Result.andThen_ok, run_eql_struct, he]
open Classical in
theorem R.neA {T : Nat} {L : List Leaf} {a b : Operand} {x y : List Value} (h : eqT K.P T L) (hx : fits L x) (hy : fits L y) : Runs K H (binS .neq T a b (.agg x.toArray) (.agg y.toArray)) (.bool (decide (x ≠ y))) := .of fun w => by
  refine vS_run ?_
  have he := eqL (w := w) 8 10000 (by decide) T true L h.1 x y hx hy
  simp only [mkV, cond_true] at he
  simp only [Sem.run_bind, run_eqGuard_agg w _ T a b _ _ h.2, Result.andThen_ok, run_neq_struct, he]
  congr 2
  by_cases e : x = y <;> simp [e]

/-- '==' of Bools. -/
theorem run_binB (P : Program) (op : BinOp) (t : TypeId) (x y : Operand) (a b : Bool) (w : World) {v : Value} (h : (binOp op t (.bool a) (.bool b)).run P w = .ok v w) : (binS op t x y (.bool a) (.bool b)).run P w = .ok (.value v) w := by
  refine vS_run ?_
  have he : (eqGuard op t x y (.bool a) (.bool b)).run P w = .ok () w := by
    unfold eqGuard
    cases op <;> rfl
  simp only [Sem.run_bind, he, Result.andThen_ok, h]
theorem R.eqlB {t : TypeId} {x y : Operand} {a b : Bool} (h : K.P.underlying t = some .bool) : Runs K H (binS .eql t x y (.bool a) (.bool b)) (.bool (decide (a = b))) := .of fun w => run_binB _ _ _ _ _ _ _ w (by
  simp only [binOp, Op.equal, Op.maxDepth, Sem.run_bind, run_equalIn_bool w 9999 t a b h, Result.andThen_ok, Sem.run_pure]
  cases a <;> cases b <;> rfl)
theorem R.neqB {t : TypeId} {x y : Operand} {a b : Bool} (h : K.P.underlying t = some .bool) : Runs K H (binS .neq t x y (.bool a) (.bool b)) (.bool (decide (a ≠ b))) := .of fun w => run_binB _ _ _ _ _ _ _ w (by
  simp only [binOp, Op.equal, Op.maxDepth, Sem.run_bind, run_equalIn_bool w 9999 t a b h, Result.andThen_ok, Sem.run_pure]
  cases a <;> cases b <;> rfl)

/-- A test of several operations, as one. -/
theorem J.bindB (c : Prop) [Decidable c] {p : Prog} {k : List Value → Prog} (h : J K r H p fun x vs H' => x = .normal ∧ vs = [.bool (decide c)] ∧ H' = H)
    (ht : c → J K r H (k [.bool true]) Q) (hf : ¬ c → J K r H (k [.bool false]) Q) : J K r H (.bind p k) Q := by
  refine J.bind (J.weak ?_ h)
  rintro x vs H' ⟨rfl, rfl, rfl⟩
  refine ⟨H', Imp.refl _, ?_⟩
  by_cases hc : c
  · rw [decide_eq_true hc]; exact ht hc
  · rw [decide_eq_false hc]; exact hf hc

/-- An element's address, of a slice that reads the same however the entries turn. -/
theorem J.ixW {T E sz by_ : Nat} {q : Bool} {kk : IntKind} {i : Int} {v : Value} {els : List (List Value)} {l : List Value} {k : Value → Prog} (hT : slT K.P T E sz by_ = true) (h : ∀ H, SeeS K H v sz els) (h0 : 0 ≤ i) (hi : els[i.toNat]? = some l)
    (hk : ∀ b o, (∀ H, Kn K H b o l) → J K r H (k (.pointer (some ⟨b, o, none⟩))) Q) : J K r H (.op q (vS (Instr.indexAt T v (.int kk i))) k) Q := by
  intro Ds w hs
  obtain ⟨h1, hsz, inf, z, hinf, h2, -⟩ := slT_spec hT
  obtain ⟨a, c, rfl, -, ha⟩ := h H Ds w hs
  obtain ⟨b, o, rfl, hb⟩ := ha _ l hi
  have hlt : i < els.length := by
    have := (List.getElem?_eq_some_iff.1 hi).1
    omega
  have hrun : (vS (Instr.indexAt T (.slice (some ⟨b, o, none⟩) els.length c) (.int kk i))).run K.P w = .ok (.value (.pointer (some ⟨b, o + i.toNat * sz, none⟩))) w := by
    refine vS_run ?_
    unfold Instr.indexAt
    simp [asIntOf, run_und h1, h0, hlt, sizeOf, typeInfo, hinf, h2, add_block]
  have hkn : ∀ H, Kn K H b (o + i.toNat * sz) l := by
    intro H' Ds' w' hs' j u hj
    obtain ⟨a', c', hv', -, ha'⟩ := h H' Ds' w' hs'
    obtain ⟨b', o', hab, hb'⟩ := ha' _ l hi
    cases hv'
    cases hab
    exact hb' j u hj
  have hj := hk _ _ hkn Ds w hs
  cases q with
  | true => exact ⟨_, hrun, hj⟩
  | false =>
    show opU _ _ _
    rw [hrun]
    exact hj

/-- .. and that it is the same again. -/
theorem J.ixWR {T E sz by_ : Nat} {q : Bool} {kk : IntKind} {i : Int} {v : Value} {els : List (List Value)} {l : List Value} {k : Value → Prog} (hT : slT K.P T E sz by_ = true) (h : ∀ H, SeeS K H v sz els) (h0 : 0 ≤ i) (hi : els[i.toNat]? = some l)
    (hk : ∀ b o, (∀ H, Kn K H b o l) → (∀ H, Runs K H (vS (Instr.indexAt T v (.int kk i))) (.pointer (some ⟨b, o, none⟩))) → J K r H (k (.pointer (some ⟨b, o, none⟩))) Q) : J K r H (.op q (vS (Instr.indexAt T v (.int kk i))) k) Q := by
  intro Ds w hs
  obtain ⟨h1, hsz, inf, z, hinf, h2, -⟩ := slT_spec hT
  obtain ⟨a, c, rfl, -, ha⟩ := h H Ds w hs
  obtain ⟨b, o, rfl, hb⟩ := ha _ l hi
  have hlt : i < els.length := by
    have := (List.getElem?_eq_some_iff.1 hi).1
    omega
  have hrun : ∀ w, (vS (Instr.indexAt T (.slice (some ⟨b, o, none⟩) els.length c) (.int kk i))).run K.P w = .ok (.value (.pointer (some ⟨b, o + i.toNat * sz, none⟩))) w := by
    intro w
    refine vS_run ?_
    unfold Instr.indexAt
    simp [asIntOf, run_und h1, h0, hlt, sizeOf, typeInfo, hinf, h2, add_block]
  have hkn : ∀ H, Kn K H b (o + i.toNat * sz) l := by
    intro H' Ds' w' hs' j u hj
    obtain ⟨a', c', hv', -, ha'⟩ := h H' Ds' w' hs'
    obtain ⟨b', o', hab, hb'⟩ := ha' _ l hi
    cases hv'
    cases hab
    exact hb' j u hj
  have hj := hk _ _ hkn (fun H => .of hrun) Ds w hs
  cases q with
  | true => exact ⟨_, hrun w, hj⟩
  | false =>
    show opU _ _ _
    rw [hrun w]
    exact hj

theorem J.box1 {T : Nat} {v : Value} {k : Value → Prog} (hv : v.cells = #[v]) (hk : ∀ b, J K r (Ent.cells b [v] T :: H) (k (.pointer (some ⟨b, 0, none⟩))) Q) : J K r H (.op false (vS (Instr.box T v)) k) Q :=
  J.box fun b => by rw [hv]; exact hk b

/-- Entries ahead may be let go. -/
theorem J.drop {e : Ent} {p : Prog} (h : J K r H p Q) : J K r (e :: H) p Q := J.imp (Imp.sub (List.sublist_cons_self e H)) h

/-- At a return whose result is a slot. -/
theorem RetQ.tmp {K : Kx} {H : List Ent} {t : Nat} {v : Value} {R : Value → List Ent → Prop} (h : R v H) : ∃ H', RetQ K.P K [.tmp t] R .ret [v] H' ∧ H' = H := ⟨H, ⟨rfl, v, fun _ _ => rfl, h⟩, rfl⟩
theorem J.ret1 {K : Kx} {r : Option Nat} {H : List Ent} {P : Program} {t : Nat} {v : Value} {R : Value → List Ent → Prop} (hi : ∃ H', Imp K H H' ∧ R v H') : J K r H (.done .ret [v]) (RetQ P K [.tmp t] R) := by
  obtain ⟨H', h1, h2⟩ := hi
  exact J.imp h1 (J.done ⟨rfl, v, fun _ _ => rfl, h2⟩)
/-- .. whose result is a cell. -/
theorem J.retC {K : Kx} {r : Option Nat} {H : List Ent} {c T n b : Nat} {l : List Value} {f : Ent → List Ent} {R : Value → List Ent → Prop} (hT : aggN K.P T n = true) (hl : l.length = n) (hp : Pick H (Ent.cells b l T) f)
    (h : R (.agg l.toArray) H) : J K r H (.done .ret [.pointer (some ⟨b, 0, none⟩)]) (RetQ K.P K [.cell c T] R) :=
  J.done ⟨rfl, _, fun w hs => res_cell hT hl (hs.ents _ hp.mem), h⟩
theorem Imp.nil : Imp K H [] := Imp.sub (List.nil_sublist H)
end
end Go.Proofs.Ytipgdalebkhgpaa.Fw
