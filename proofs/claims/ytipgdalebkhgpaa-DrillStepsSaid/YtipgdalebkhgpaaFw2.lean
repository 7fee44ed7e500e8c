/-
  From code to Prog: 'comp', without the regions that draw their order (they are Fw3's); one operation's step.
-/
import Derived.Test.YtipgdalebkhgpaaFw1
namespace Go.Proofs.Ytipgdalebkhgpaa.Fw
open Go Go.RowKit

def FW (r : Option Nat) : Fence := { Fence.wide with round := r }

inductive Nd where
  | pure (v : Value)
  | sem (q : Bool) (s : Sem Next)

def constsOf (l : Array Operand) : Array Bool := l.map fun | .const _ => true | _ => false

/-- The operation at these values: a value at once, or what is to be run (q: it leaves the world alone). -/
def nodeOf (ρ : Operand → Value) (o : Op) (ty : TypeId) : Option Nd :=
  match o with
  | .move x | .assign x => some (.pure (ρ x))
  | .makeFunc fn first captured => some (.pure (.func fn (first.toList.map ρ).toArray (captured.toList.map ρ).toArray))
  | .pick c a b => some (.sem true (pickS (ρ c) (ρ a) (ρ b)))
  | .alloc t => some (.sem false (vS (Instr.alloc t true (.tuple #[]))))
  | .box t x => some (.sem false (vS (Instr.box t (ρ x))))
  | .build t ps => some (.sem true (vS (Instr.build t (ps.toList.map fun p => (p.1, ρ p.2)).toArray)))
  | .buildSlice t n ps => some (.sem false (vS (Instr.buildSlice t n (ps.toList.map fun p => (p.1, ρ p.2)).toArray)))
  | .load t a => some (.sem true (vS (Instr.loadAt t (ρ a))))
  | .store t a x => some (.sem false (uS (Instr.storeAt t (ρ a) (ρ x))))
  | .nilCheck x => some (.sem true (nilS (ρ x)))
  | .binOp op t x y _ => some (.sem true (binS op t x y (ρ x) (ρ y)))
  | .unOp op _ x => some (.sem true (vS (Op.unary op (ρ x))))
  | .convert s d x => some (.sem true (vS (convert s d (ρ x))))
  | .makeMap t r => some (.sem false (vS (Instr.makeMap t (r.map ρ))))
  | .makeSlice t l c => some (.sem false (vS (Instr.makeSlice t (ρ l) (ρ c))))
  | .slice t x lo hi mx => some (.sem true (vS (Instr.sliceAt t (ρ x) (lo.map ρ) (hi.map ρ) (mx.map ρ))))
  | .fieldAddr s x f => some (.sem true (vS (Instr.fieldAt s (ρ x) f)))
  | .field t x f => some (.sem true (vS (Instr.field t (ρ x) f)))
  | .indexAddr t x i => some (.sem true (vS (Instr.indexAt t (ρ x) (ρ i))))
  | .index t x i => some (.sem true (vS (Instr.index t (ρ x) (ρ i))))
  | .lookup t x i ok => some (.sem true (vS (Instr.lookup t (ρ x) (ρ i) ok)))
  | .mapUpdate t m k x | .insert t m k x => some (.sem false (uS (Instr.mapUpdate t (ρ m) (ρ k) (ρ x))))
  | .mapEntry t m k => some (.sem false (vS (Instr.mapEntry t (ρ m) (ρ k))))
  | .entryStore t m s x => some (.sem false (uS (Instr.entryStore t (ρ m) (ρ s) (ρ x))))
  | .range t x => some (.sem false (vS (Instr.range t (ρ x))))
  | .next it s => some (.sem false (vS (Instr.next (ρ it) s ty)))
  | .extract t i => some (.sem true (vS (Instr.extract (ρ t) i)))
  | .call ⟨.value f, args, _⟩ => some (.sem false (callS (ρ f) (args.toList.map ρ)))
  | .call ⟨.builtin b, args, ts⟩ => some (.sem (match b with | .len | .cap | .max | .min => true | _ => false) (bltS b ts ty (constsOf args) (args.toList.map ρ)))
  | _ => none

theorem map_toList {α β : Type} (xs : Array α) (f : α → β) : (xs.toList.map f).toArray = xs.map f := by
  cases xs; simp

theorem nodeOf_pure {ρ : Operand → Value} {o : Oper} {v : Value} (h : nodeOf ρ o.op o.type = some (.pure v)) : execOp ρ o = pure (.value v) := by
  obtain ⟨dst, op, ty, pos, after, guard⟩ := o
  simp only at h
  unfold nodeOf at h
  split at h <;> simp only [Option.some.injEq, Nd.pure.injEq, reduceCtorEq] at h
  · subst h; rfl
  · subst h; rfl
  · subst h
    simp only [execOp, map_toList]
    rfl

theorem nodeOf_sem {ρ : Operand → Value} {o : Oper} {q : Bool} {s : Sem Next} (h : nodeOf ρ o.op o.type = some (.sem q s)) : execOp ρ o = s := by
  obtain ⟨dst, op, ty, pos, after, guard⟩ := o
  simp only at h
  unfold nodeOf at h
  split at h <;> simp only [Option.some.injEq, Nd.sem.injEq, reduceCtorEq] at h
  all_goals obtain ⟨-, h⟩ := h; subst h
  all_goals first
    | rfl
    | (simp only [execOp, map_toList] <;> rfl)
    | (simp only [execOp, resolve, callS, bltS, constsOf, map_toList] <;> rfl)

theorem nodeOf_plain {ρ : Operand → Value} {o : Op} {ty : TypeId} {nd : Nd} (h : nodeOf ρ o ty = some nd) : (∀ cs b, o ≠ .select cs b) ∧ (∀ c, o ≠ .defer c) := by
  refine ⟨fun cs b e => ?_, fun c e => ?_⟩ <;> subst e <;> simp [nodeOf] at h

section
variable {P : Program} {r : Option Nat} {n : Nat}

theorem callsFW {f : FuncId} {args : Array Value} {w : World} {R : Ending → World → Prop} (h : Calls P f args w R) : CallsIn (FW r) n P f args w R :=
  callsIn_wide.2 h

theorem roundFW {l : Nat} {f : FuncId} {tmps : Array Value} {assign body : Code} {w : World} {R : Ending → World → Prop}
    (h : RoundIn Fence.wide 0 P l f tmps assign body w R) : RoundIn (FW r) n P l f tmps assign body w R :=
  ⟨trivial, fun c cs _ => h.2 c cs (room_wide _)⟩

theorem opU_uponIn {o : Oper} {a : Act} {R : Value → World → Prop} {K : Act → World → Prop} {Q : Exit → Act → World → Prop} {res : Result Next}
    (h : opU P R res) (hK : ∀ v w', R v w' → K (a.put o.dst v) w') : o.uponIn (FW r) n P a K Q res := by
  unfold opU at h
  split at h
  · exact hK _ _ h
  · exact hK _ _ h
  · exact ⟨fun hd => by simp [FW, Fence.wide] at hd, callsFW (Calls.mono h fun e w' he => by obtain ⟨v, rfl, hr⟩ := he; exact hK _ _ hr)⟩
  · exact ⟨fun hd => by simp [FW, Fence.wide] at hd, roundFW (RoundIn.mono h fun e w' he => by obtain ⟨v, rfl, hr⟩ := he; exact hK _ _ hr)⟩
  · exact h.elim

theorem opW_uponIn {q : Bool} {s : Sem Next} {o : Oper} {a : Act} {R : Value → World → Prop} {K : Act → World → Prop} {Q : Exit → Act → World → Prop} {w : World}
    (h : opW P q s R w) (hK : ∀ v w', R v w' → K (a.put o.dst v) w') : o.uponIn (FW r) n P a K Q (s.run P w) := by
  unfold opW at h
  cases q with
  | true =>
    obtain ⟨v, hv, hr⟩ := h
    rw [hv]
    exact hK _ _ hr
  | false => exact opU_uponIn h hK

theorem wpIn_of_opW {q : Bool} {s : Sem Next} {o : Oper} {a : Act} {R : Value → World → Prop} {K : Act → World → Prop} {Q : Exit → Act → World → Prop} {w : World}
    (hd : ∀ c, o.op ≠ .defer c) (hs : execOp a.eval o = s) (h : opW P q s R w) (hK : ∀ v w', R v w' → K (a.put o.dst v) w') : o.wpIn (FW r) n P a w K Q := by
  refine ⟨fun _ _ => trivial, ?_⟩
  rw [Oper.semAt_eq _ _ _ hd, hs]
  exact opW_uponIn h hK
end

/-! ### One operation -/
def okDst (N : Nat) : Option Nat → Bool
  | none => true
  | some d => Nat.blt d N

def compOp (N : Nat) (ops : Array Oper) (o : Oper) (e : Env) (k : Env → Prog) : Prog :=
  bif okDst N o.dst && o.op.operands.toList.all e.knows then
    match nodeOf e.val o.op o.type with
    | none => .fail
    | some nd =>
      match o.guard with
      | none =>
        match nd with
        | .pure v => k (e.put o.dst v)
        | .sem q s => .op q s fun v => k (e.put o.dst v)
      | some (j, want) =>
        match (ops[j]?).bind (·.dst) with
        | none => .fail
        | some d =>
          match e.get d with
          | none => .fail
          | some g =>
            match nd with
            | .pure v => .gop g want true (pure (.value v)) fun v => k (e.put o.dst v)
            | .sem q s => .gop g want q s fun v => k (e.put o.dst v)
  else .fail

theorem wanted_isB {N : Nat} {e : Env} {a : Act} (he : EnvOk N e a) {ops : Array Oper} {o : Oper} {j d : Nat} {want : Bool} {g : Value} (hg : o.guard = some (j, want))
    (hd : (ops[j]?).bind (·.dst) = some d) (hv : e.get d = some g) : Region.wanted o (yielded ops a.tmps) = isB g want := by
  have h := he.get d g hv
  unfold Region.wanted
  rw [hg]
  simp only [yielded, hd, Option.bind_some]
  rw [Array.getD_eq_getD_getElem?] at h
  cases hx : a.tmps[d]? with
  | none =>
    rw [hx] at h
    simp only [Option.getD_none] at h
    subst h
    simp [isB, undef]
  | some u =>
    rw [hx] at h
    simp only [Option.getD_some] at h
    subst h
    cases u <;> simp [isB]

section
variable {P : Program} {r : Option Nat} {n N : Nat} {Ds : List Nat} {Q : List Nat → Ex → List Value → World → Prop} {X : Exit → Act → World → Prop}

/-- One operation of a region, at its turn. -/
theorem compOp_sound {ops : Array Oper} {i : Nat} {o : Oper} (hi : ops[i]? = some o) {e : Env} {a b : Act} {w : World} {k : Env → Prog} {K : Act → World → Prop}
    (he : EnvOk N e b) (hxa : execOp a.eval o = execOp b.eval o) (hwa : Region.wanted o (yielded ops a.tmps) = Region.wanted o (yielded ops b.tmps)) (h : (compOp N ops o e k).wp P r Ds Q w)
    (hK : ∀ v w', EnvOk N (e.put o.dst v) (b.put o.dst v) → (k (e.put o.dst v)).wp P r Ds Q w' → K (a.put o.dst v) w') :
    wpOpIn (FW r) n P ops X i K a w := by
  unfold compOp at h
  cases hc : (okDst N o.dst && o.op.operands.toList.all e.knows) with
  | false => rw [hc] at h; exact h.elim
  | true =>
    rw [hc, cond_true] at h
    obtain ⟨h1, h2⟩ := Bool.and_eq_true_iff.1 hc
    have hput : ∀ v, EnvOk N (e.put o.dst v) (b.put o.dst v) := fun v => he.put _ _ fun x hx => by
      rw [hx] at h1
      exact Nat.le_of_ble_eq_true h1
    have hval : ∀ x, x ∈ o.op.operands → b.eval x = e.val x := fun x hx => he.val x (List.all_eq_true.1 h2 x (by simpa using hx))
    cases hn : nodeOf e.val o.op o.type with
    | none => rw [hn] at h; exact h.elim
    | some nd =>
      rw [hn] at h
      simp only at h
      obtain ⟨hsel, hdef⟩ := nodeOf_plain hn
      have hex : execOp a.eval o = execOp e.val o := hxa.trans (execOp_congr o hsel hval)
      unfold wpOpIn
      simp only [hi]
      cases hg : o.guard with
      | none =>
        rw [hg] at h
        have hw : Region.wanted o (yielded ops a.tmps) = true := by simp [Region.wanted, hg]
        rw [if_pos hw]
        cases nd with
        | pure v =>
          refine wpIn_of_opW (q := true) hdef (hex.trans (nodeOf_pure hn)) (R := fun u w' => u = v ∧ w' = w) ⟨v, rfl, rfl, rfl⟩ ?_
          rintro u w' ⟨rfl, rfl⟩
          exact hK _ _ (hput _) h
        | sem q s => exact wpIn_of_opW hdef (hex.trans (nodeOf_sem hn)) h fun v w' hr => hK _ _ (hput _) hr
      | some jw =>
        obtain ⟨j, want⟩ := jw
        rw [hg] at h
        simp only at h
        cases hd : (ops[j]?).bind (·.dst) with
        | none => rw [hd] at h; exact h.elim
        | some d =>
          rw [hd] at h
          simp only at h
          cases hv : e.get d with
          | none => rw [hv] at h; exact h.elim
          | some g =>
            rw [hv] at h
            simp only at h
            have hw := hwa.trans (wanted_isB he hg hd hv)
            cases hb : isB g want with
            | false =>
              rw [if_neg (by rw [hw, hb]; simp)]
              refine ⟨fun _ _ => trivial, hK _ _ (hput _) ?_⟩
              cases nd with
              | pure v => exact h.2 hb
              | sem q s => exact h.2 hb
            | true =>
              rw [if_pos (by rw [hw, hb])]
              cases nd with
              | pure v =>
                obtain ⟨u, hu, hr⟩ := h.1 hb
                have huv : u = v := by
                  have : (Result.ok (Next.value v) w : Result Next) = .ok (.value u) w := hu
                  cases this; rfl
                subst huv
                refine wpIn_of_opW (q := true) hdef (hex.trans (nodeOf_pure hn)) (R := fun u' w' => u' = u ∧ w' = w) ⟨u, rfl, rfl, rfl⟩ ?_
                rintro u' w' ⟨rfl, rfl⟩
                exact hK _ _ (hput _) hr
              | sem q s => exact wpIn_of_opW hdef (hex.trans (nodeOf_sem hn)) (h.1 hb) fun v w' hr => hK _ _ (hput _) hr

/-! ### A region in the order of its text -/
def compOps (N : Nat) (ops : Array Oper) : List Oper → Env → (Env → Prog) → Prog
  | [], e, k => k e
  | o :: l, e, k => compOp N ops o e fun e' => compOps N ops l e' k

def opsWr (ops : Array Oper) : List Nat := ops.toList.filterMap (·.dst)

theorem opsWr_mem {ops : Array Oper} {i : Nat} {o : Oper} (hi : ops[i]? = some o) : ∀ d, d ∈ o.dst.toList → d ∈ opsWr ops := by
  intro d hd
  unfold opsWr
  rw [List.mem_filterMap]
  exact ⟨o, by simpa using List.mem_of_getElem? (l := ops.toList) (by simpa using hi), by simpa using hd⟩

theorem compOps_sound {ops : Array Oper} : ∀ (l : List Nat) (lo : List Oper), l.map (fun i => ops[i]?) = lo.map some → ∀ {e : Env} {a : Act} {w : World} {k : Env → Prog},
    EnvOk N e a → (compOps N ops lo e k).wp P r Ds Q w →
    (∀ e' a' w', EnvOk N e' a' → SameBut (opsWr ops) a a' → a'.defers = a.defers → (k e').wp P r Ds Q w' → X .normal a' w') → wpOpsIn (FW r) n P ops X l a w
  | [], lo, hl, e, a, w, k, he, h, hk => by
    cases lo with
    | nil => exact hk e a w he (SameBut.refl _ _) rfl h
    | cons o lo => simp at hl
  | i :: l, lo, hl, e, a, w, k, he, h, hk => by
    cases lo with
    | nil => simp at hl
    | cons o lo =>
      simp only [List.map_cons, List.cons.injEq] at hl
      obtain ⟨hi, hl⟩ := hl
      rw [wpOpsIn_cons]
      refine compOp_sound hi he rfl rfl h fun v w' he' h' => ?_
      refine compOps_sound l lo hl he' h' fun e2 a2 w2 he2 hs2 hd2 h2 => hk e2 a2 w2 he2 ?_ ?_ h2
      · exact ((SameBut.put a o.dst v).trans hs2).mono fun t ht => by
          rcases List.mem_append.1 ht with ht | ht
          · exact opsWr_mem hi t ht
          · exact ht
      · rw [hd2]
        cases o.dst <;> rfl
end
end Go.Proofs.Ytipgdalebkhgpaa.Fw
