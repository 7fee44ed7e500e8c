/-
  From a function's code to its Prog ('comp'), and that the code achieves what its Prog achieves ('comp_sound').
-/
import Derived.Test.YtipgdalebkhgpaaFw5
import Derived.RangeFuncLeaves
namespace Go.Proofs.Ytipgdalebkhgpaa.Fw
open Go Go.RowKit

structure Cx where
  N : Nat
  res : List Nat
  blk : List (Nat × List Nat) := []
  cnd : List (Nat × List Nat) := []
  reg : List (Nat × List Nat) := []

def lk? : List (Nat × List Nat) → Nat → Option (List Nat)
  | [], _ => none
  | (a, l) :: r, k => bif Nat.beq a k then some l else lk? r k
def lk (l : List (Nat × List Nat)) (k : Nat) : List Nat := (lk? l k).getD []

/-- The slots that a piece of code writes. -/
def wrC : Code → List Nat
  | .region _ ops _ => opsWr ops
  | .seq a b => wrC a ++ wrC b
  | .cond _ a b => wrC a ++ wrC b
  | .block _ b => wrC b
  | .loop b => wrC b
  | .scope b => wrC b
  | _ => []
/-- Code that is never left at its end. -/
def endsC : Code → Bool
  | .seq a b => endsC a || endsC b
  | .cond _ a b => endsC a && endsC b
  | .loop _ => true
  | .exit _ | .ret => true
  | .scope b => endsC b
  | _ => false
/-- The blocks that a piece of code leaves. -/
def exitsC : Code → List Nat
  | .seq a b => exitsC a ++ exitsC b
  | .cond _ a b => exitsC a ++ exitsC b
  | .block _ b => exitsC b
  | .loop b => exitsC b
  | .scope b => exitsC b
  | .rangeFunc _ _ _ b => exitsC b
  | .exit id => [id]
  | _ => []
def nub : List Nat → List Nat
  | [] => []
  | a :: r => bif memN a r then nub r else a :: nub r

def fin (L : List Nat) (e : Env) : Prog := match e.vals L with | some vs => .done .normal vs | none => .fail
def exitP (inR : Bool) (tb : List (Nat × List Nat)) (e : Env) (id : Nat) : Prog :=
  match lk? tb id with
  | some L => (match e.vals L with | some vs => .done (.exit id) vs | none => .fail)
  | none => bif inR then .done (.exit id) [] else .fail
def retP (cx : Cx) (inR : Bool) (e : Env) : Prog := bif inR then .done .ret [] else match e.vals cx.res with | some vs => .done .ret vs | none => .fail
def exitSel (f : Nat → Prog) : List Nat → Nat → Prog
  | [], _ => .fail
  | i :: r, id => bif Nat.beq i id then f i else exitSel f r id
def hasGuard (ops : Array Oper) : Bool := ops.toList.any (·.guard.isSome)

def regionP (cx : Cx) (id : Nat) (ops : Array Oper) (draw : Bool) (e : Env) (k : Env → Prog) : Prog :=
  bif hasGuard ops then
    .bind (bif draw then .draw (compDraw cx.N ops e (fin (lk cx.reg id))) else compOps cx.N ops ops.toList e (fin (lk cx.reg id))) fun vs => k ((e.forget (opsWr ops)).lay (lk cx.reg id) vs)
  else bif draw then .draw (compDraw cx.N ops e k) else compOps cx.N ops ops.toList e k

/-- Straight code: what assigns to a loop's left sides. -/
def compS (cx : Cx) : Code → Env → (Env → Prog) → Prog
  | .skip, e, k => k e
  | .region id ops draw, e, k => regionP cx id ops draw e k
  | .seq a b, e, k => compS cx a e fun e' => compS cx b e' k
  | _, _, _ => .fail

def cndKey : Operand → Nat
  | .tmp t => t
  | _ => 0

def comp (cx : Cx) : Code → Bool → List (Nat × List Nat) → Env → (Env → Prog) → Prog
  | .skip, _, _, e, k => k e
  | .label _, _, _, e, k => k e
  | .region id ops draw, _, _, e, k => regionP cx id ops draw e k
  | .seq a b, inR, tb, e, k => comp cx a inR tb e fun e' => comp cx b inR tb e' k
  | .cond c t f, inR, tb, e, k =>
    bif e.knows c then
      bif endsC t then .ite (e.val c) (comp cx t inR tb e fun _ => .fail) (comp cx f inR tb e k)
      else bif endsC f then .ite (e.val c) (comp cx t inR tb e k) (comp cx f inR tb e fun _ => .fail)
      else .bind (.ite (e.val c) (comp cx t inR tb e (fin (lk cx.cnd (cndKey c)))) (comp cx f inR tb e (fin (lk cx.cnd (cndKey c))))) fun vs => k ((e.forget (wrC t ++ wrC f)).lay (lk cx.cnd (cndKey c)) vs)
    else .fail
  | .block id b, inR, tb, e, k => .bind (.block id (comp cx b inR ((id, lk cx.blk id) :: tb) e (fin (lk cx.blk id)))) fun vs => k ((e.forget (wrC b)).lay (lk cx.blk id) vs)
  | .loop b, inR, tb, e, _ =>
    let L := nub ((wrC b).filter fun t => (e.get t).isSome)
    match e.vals L with
    | none => .fail
    | some vs0 => .loop vs0 fun vs => comp cx b inR tb ((e.forget (wrC b)).lay L vs) (fin L)
  | .rangeFunc f ps assign body, inR, tb, e, k =>
    bif e.knows f && ps.toList.all (fun p => Nat.blt p cx.N) then
      .rangeF (e.val f) ps.toList.length (fun vs => compS cx assign (e.layIn ps.toList vs) fun e' => .begin (comp cx body true [] e' fun _ => .done .normal []))
        (exK (k e) (retP cx inR e) (exitSel (exitP inR tb e) (nub (exitsC body))))
    else .fail
  | .exit id, inR, tb, e, _ => exitP inR tb e id
  | .scope b, inR, tb, e, k => comp cx b inR tb e k
  | .ret, inR, _, e, _ => retP cx inR e
  | .goto _, _, _, _, _ => .fail
  | .refuse _, _, _, _, _ => .fail

def mkD (D : Nat) : Deferred := { target := .collected D, args := #[] }

section
variable {P : Program} {n : Nat} {cx : Cx}

theorem fin_wp {r : Option Nat} {Ds : List Nat} {Q : List Nat → Ex → List Value → World → Prop} {L : List Nat} {e : Env} {w : World} (h : (fin L e).wp P r Ds Q w) :
    ∃ vs, e.vals L = some vs ∧ Q Ds .normal vs w := by
  unfold fin at h
  split at h
  · exact ⟨_, by assumption, h⟩
  · exact h.elim

theorem regionP_sound (hm : P.follows .mixedOrders = true) {r : Option Nat} {Ds : List Nat} {Q : List Nat → Ex → List Value → World → Prop} {X : Exit → Act → World → Prop} {id : Nat} {ops : Array Oper} {draw : Bool}
    {e : Env} {a : Act} {w : World} {k : Env → Prog} (he : EnvOk cx.N e a) (h : (regionP cx id ops draw e k).wp P r Ds Q w)
    (hk : ∀ e' a' w', EnvOk cx.N e' a' → SameBut (opsWr ops) a a' → a'.defers = a.defers → (k e').wp P r Ds Q w' → X .normal a' w') :
    (Code.region id ops draw).wpIn (FW r) n P X a w := by
  unfold regionP at h
  have hlist : (List.range ops.size).map (fun i => ops[i]?) = ops.toList.map some := by
    apply List.ext_getElem?
    intro i
    by_cases hi : i < ops.size
    · simp [hi]
    · simp [hi]
  cases hg : hasGuard ops with
  | false =>
    rw [hg, cond_false] at h
    cases draw with
    | false => exact wpIn_region (compOps_sound _ _ hlist he h hk)
    | true => exact compDraw_sound hm he (fun d => h d) hk
  | true =>
    rw [hg, cond_true] at h
    have hk' : ∀ e' a' w', EnvOk cx.N e' a' → SameBut (opsWr ops) a a' → a'.defers = a.defers →
        (fin (lk cx.reg id) e').wp P r Ds (fun Ds' x vs w' => match x with | .normal => (k ((e.forget (opsWr ops)).lay (lk cx.reg id) vs)).wp P r Ds' Q w' | x => Q Ds' x vs w') w' → X .normal a' w' := by
      intro e' a' w' he' hs hd hf
      obtain ⟨vs, hv, hq⟩ := fin_wp hf
      exact hk _ a' w' ((he.forget _ hs).lay _ _ (he'.vals _ _ hv)) hs hd hq
    cases draw with
    | false => exact wpIn_region (compOps_sound _ _ hlist he h hk')
    | true => exact compDraw_sound hm he (fun d => h d) hk'

theorem compS_sound (hm : P.follows .mixedOrders = true) {r : Option Nat} {Q : List Nat → Ex → List Value → World → Prop} {X : Exit → Act → World → Prop} {Ds : List Nat} : ∀ (c : Code) {e : Env} {a : Act} {w : World} {k : Env → Prog},
    EnvOk cx.N e a → (compS cx c e k).wp P r Ds Q w → (∀ e' a' w', EnvOk cx.N e' a' → a'.defers = a.defers → (k e').wp P r Ds Q w' → X .normal a' w') → c.wpIn (FW r) n P X a w := by
  intro c
  induction c generalizing X with
  | skip => exact fun he h hk => wpIn_skip (hk _ _ _ he rfl h)
  | region id ops draw => exact fun he h hk => regionP_sound hm he h fun e' a' w' he' _ hd hh => hk e' a' w' he' hd hh
  | seq x y ihx ihy =>
    intro e a w k he h hk
    refine wpIn_seq (ihx he h fun e' a' w' he' hd' h' => ?_)
    exact ihy he' h' fun e2 a2 w2 he2 hd2 h2 => hk e2 a2 w2 he2 (hd2.trans hd') h2
  | _ => intro e a w k he h hk; exact h.elim

theorem stepR_scope {b : Frame} {a : Act} {k : List Item} {cs : List Frame} {w : World} {c : Code} :
    step P (lone (b.atR a (.code (.scope c) :: k)) cs w) = .next (lone (b.atR a (.code c :: .inScope c :: k)) cs w) :=
  step_lone_go (by simp [stepG, stepG.exec, Frame.atR])
theorem stepR_inScope {b : Frame} {a : Act} {k : List Item} {cs : List Frame} {w : World} {c : Code} :
    step P (lone (b.atR a (.inScope c :: k)) cs w) = .next (lone (b.atR a k) cs w) :=
  step_lone_go (by simp [stepG, stepG.exec, Frame.atR])

theorem wpIn_scope {r : Option Nat} {X : Exit → Act → World → Prop} {c : Code} {a : Act} {w : World} (h : c.wpIn (FW r) n P X a w) (hg : ∀ l a w, ¬ X (.goto l) a w) : (Code.scope c).wpIn (FW r) n P X a w := by
  intro b k cs hro hb hr
  have h0 : (lone (b.atR a (.code (.scope c) :: k)) cs w).fenced P (FW r) := fenced_calm hb hr rfl
  obtain ⟨e, a₁, w₁, hq, harr⟩ := h b (.inScope c :: k) cs hro hb hr
  cases e with
  | normal => exact ⟨.normal, a₁, w₁, hq, .head h0 stepR_scope (StepsIn.trans harr (.one (fenced_calm hb hr rfl) stepR_inScope))⟩
  | exit id =>
    have hx : exitTo id (.inScope c :: k) = exitTo id k := rfl
    exact ⟨.exit id, a₁, w₁, hq, fun k' hk => .head h0 stepR_scope (harr.1 k' (by rw [hx]; exact hk)),
      fun hr' hk => let ⟨k₁, h1, h2⟩ := harr.2 hr' (by rw [hx]; exact hk); ⟨k₁, h1, .head h0 stepR_scope h2⟩⟩
  | goto l => exact (hg _ _ _ hq).elim
  | ret => exact ⟨_, a₁, w₁, hq, .of_steps (.one h0 stepR_scope) harr⟩
  | panic ch => exact ⟨_, a₁, w₁, hq, .of_steps (.one h0 stepR_scope) harr⟩
  | outgrown => exact ⟨_, a₁, w₁, hq, .of_steps (.one h0 stepR_scope) harr⟩

theorem exitP_sound {r : Option Nat} {inR : Bool} {tb : List (Nat × List Nat)} {Ds : List Nat} {Q : List Nat → Ex → List Value → World → Prop} {e : Env} {a : Act} {w : World} {id : Nat} (he : EnvOk cx.N e a)
    (h : (exitP inR tb e id).wp P r Ds Q w) : ∃ vs, Q Ds (.exit id) vs w ∧ ∀ L, lk? tb id = some L → Holds a L vs := by
  unfold exitP at h
  cases hl : lk? tb id with
  | none =>
    rw [hl] at h
    cases inR with
    | false => exact h.elim
    | true => exact ⟨[], h, fun L hL => by cases hL⟩
  | some L =>
    rw [hl] at h
    simp only at h
    cases hv : e.vals L with
    | none => rw [hv] at h; exact h.elim
    | some vs =>
      rw [hv] at h
      exact ⟨vs, h, fun L' hL => by cases hL; exact he.vals _ _ hv⟩

theorem retP_sound {r : Option Nat} {inR : Bool} {Ds : List Nat} {Q : List Nat → Ex → List Value → World → Prop} {e : Env} {a : Act} {w : World} (he : EnvOk cx.N e a)
    (h : (retP cx inR e).wp P r Ds Q w) : ∃ vs, Q Ds .ret vs w ∧ (inR = false → Holds a cx.res vs) := by
  unfold retP at h
  cases inR with
  | true => exact ⟨[], h, fun h => by cases h⟩
  | false =>
    rw [cond_false] at h
    cases hv : e.vals cx.res with
    | none => rw [hv] at h; exact h.elim
    | some vs =>
      rw [hv] at h
      exact ⟨vs, h, fun _ => he.vals _ _ hv⟩

theorem exitSel_sound {r : Option Nat} {Ds : List Nat} {Q : List Nat → Ex → List Value → World → Prop} {w : World} {f : Nat → Prog} {id : Nat} : ∀ {l : List Nat}, (exitSel f l id).wp P r Ds Q w → (f id).wp P r Ds Q w
  | [], h => h.elim
  | i :: l, h => by
    unfold exitSel at h
    by_cases hi : i = id
    · subst hi; rw [Nat.beq_refl, cond_true] at h; exact h
    · rw [beq_ne hi, cond_false] at h; exact exitSel_sound h

/-- The marks among the deferred calls; a round has none of its own. -/
def DOk (inR : Bool) (Ds : List Nat) (a : Act) : Prop := bif inR then a.defers = [] else a.defers = Ds.map mkD
theorem DOk.same {inR : Bool} {Ds : List Nat} {a a' : Act} (h : DOk inR Ds a) (hs : a'.defers = a.defers) : DOk inR Ds a' := by
  unfold DOk at *
  rw [hs]
  exact h

theorem comp_sound (hm : P.follows .mixedOrders = true) : ∀ (c : Code) (inR : Bool) (tb : List (Nat × List Nat)) (r : Option Nat) (Q : List Nat → Ex → List Value → World → Prop) (X : Exit → Act → World → Prop) (n : Nat) (e : Env) (k : Env → Prog)
    (a : Act) (w : World) (Ds : List Nat), inR = r.isSome → (∀ l a w, ¬ X (.goto l) a w) → EnvOk cx.N e a → DOk inR Ds a → (comp cx c inR tb e k).wp P r Ds Q w →
    (∀ e' a' w' Ds', EnvOk cx.N e' a' → SameBut (wrC c) a a' → DOk inR Ds' a' → (k e').wp P r Ds' Q w' → X .normal a' w') →
    (∀ id vs a' w' Ds', Q Ds' (.exit id) vs w' → SameBut (wrC c) a a' → DOk inR Ds' a' → (∀ L, lk? tb id = some L → Holds a' L vs) → X (.exit id) a' w') →
    (∀ vs a' w' Ds', Q Ds' .ret vs w' → DOk inR Ds' a' → (inR = false → Holds a' cx.res vs) → X .ret a' w') → c.wpIn (FW r) n P X a w := by
  intro c
  induction c with
  | skip => exact fun inR tb r Q X n e k a w Ds hir hg he hd h hk hx hr => wpIn_skip (hk _ _ _ _ he (SameBut.refl _ _) hd h)
  | label l => exact fun inR tb r Q X n e k a w Ds hir hg he hd h hk hx hr => wpIn_label (hk _ _ _ _ he (SameBut.refl _ _) hd h)
  | region id ops draw =>
    exact fun inR tb r Q X n e k a w Ds hir hg he hd h hk hx hr => regionP_sound hm he h fun e' a' w' he' hs hd' hh => hk e' a' w' Ds he' hs (hd.same hd') hh
  | seq x y ihx ihy =>
    intro inR tb r Q X n e k a w Ds hir hg he hd h hk hx hr
    have hl : ∀ {b : Act}, SameBut (wrC x) a b → SameBut (wrC (.seq x y)) a b := fun hs => hs.mono fun t ht => List.mem_append_left _ ht
    refine wpIn_seq (ihx inR tb r Q _ n e _ a w Ds hir (fun l a w => hg l a w) he hd h ?_ ?_ ?_)
    · intro e' a' w' Ds' he' hs' hd' h'
      refine ihy inR tb r Q X n e' k a' w' Ds' hir hg he' hd' h' ?_ ?_ hr
      · exact fun e2 a2 w2 Ds2 he2 hs2 hd2 h2 => hk e2 a2 w2 Ds2 he2 (hs'.trans hs2) hd2 h2
      · exact fun id vs a2 w2 Ds2 hq hs2 hd2 hL => hx id vs a2 w2 Ds2 hq (hs'.trans hs2) hd2 hL
    · exact fun id vs a' w' Ds' hq hs hd' hL => hx id vs a' w' Ds' hq (hl hs) hd' hL
    · exact hr
  | cond c t f iht ihf =>
    intro inR tb r Q X n e k a w Ds hir hg he hd h hk hx hr
    have hlt : ∀ {b : Act}, SameBut (wrC t) a b → SameBut (wrC (.cond c t f)) a b := fun hs => hs.mono fun u hu => List.mem_append_left _ hu
    have hlf : ∀ {b : Act}, SameBut (wrC f) a b → SameBut (wrC (.cond c t f)) a b := fun hs => hs.mono fun u hu => List.mem_append_right _ hu
    unfold comp at h
    cases hkn : e.knows c with
    | false => rw [hkn] at h; exact h.elim
    | true =>
      rw [hkn, cond_true] at h
      have hv := he.val c hkn
      cases het : endsC t with
      | true =>
        rw [het, cond_true] at h
        obtain ⟨b, hb, h1, h2⟩ := h
        refine wpIn_cond_split (hv.trans hb) (fun hbt => ?_) (fun hbf => ?_)
        · refine iht inR tb r Q X n e _ a w Ds hir hg he hd (h1 hbt) (fun _ _ _ _ _ _ _ hf => hf.elim) ?_ hr
          exact fun id vs a' w' Ds' hq hs hd' hL => hx id vs a' w' Ds' hq (hlt hs) hd' hL
        · refine ihf inR tb r Q X n e k a w Ds hir hg he hd (h2 hbf) ?_ ?_ hr
          · exact fun e' a' w' Ds' he' hs hd' hh => hk e' a' w' Ds' he' (hlf hs) hd' hh
          · exact fun id vs a' w' Ds' hq hs hd' hL => hx id vs a' w' Ds' hq (hlf hs) hd' hL
      | false =>
        rw [het, cond_false] at h
        cases hef : endsC f with
        | true =>
          rw [hef, cond_true] at h
          obtain ⟨b, hb, h1, h2⟩ := h
          refine wpIn_cond_split (hv.trans hb) (fun hbt => ?_) (fun hbf => ?_)
          · refine iht inR tb r Q X n e k a w Ds hir hg he hd (h1 hbt) ?_ ?_ hr
            · exact fun e' a' w' Ds' he' hs hd' hh => hk e' a' w' Ds' he' (hlt hs) hd' hh
            · exact fun id vs a' w' Ds' hq hs hd' hL => hx id vs a' w' Ds' hq (hlt hs) hd' hL
          · refine ihf inR tb r Q X n e _ a w Ds hir hg he hd (h2 hbf) (fun _ _ _ _ _ _ _ hf => hf.elim) ?_ hr
            exact fun id vs a' w' Ds' hq hs hd' hL => hx id vs a' w' Ds' hq (hlf hs) hd' hL
        | false =>
          rw [hef, cond_false] at h
          obtain ⟨b, hb, h1, h2⟩ := h
          refine wpIn_cond_split (hv.trans hb) (fun hbt => ?_) (fun hbf => ?_)
          · refine iht inR tb r _ X n e _ a w Ds hir hg he hd (h1 hbt) ?_ ?_ hr
            · intro e' a' w' Ds' he' hs hd' hh
              obtain ⟨vs, hvs, hq⟩ := fin_wp hh
              exact hk _ a' w' Ds' ((he.forget _ (hlt hs)).lay _ _ (he'.vals _ _ hvs)) (hlt hs) hd' hq
            · exact fun id vs a' w' Ds' hq hs hd' hL => hx id vs a' w' Ds' hq (hlt hs) hd' hL
          · refine ihf inR tb r _ X n e _ a w Ds hir hg he hd (h2 hbf) ?_ ?_ hr
            · intro e' a' w' Ds' he' hs hd' hh
              obtain ⟨vs, hvs, hq⟩ := fin_wp hh
              exact hk _ a' w' Ds' ((he.forget _ (hlf hs)).lay _ _ (he'.vals _ _ hvs)) (hlf hs) hd' hq
            · exact fun id vs a' w' Ds' hq hs hd' hL => hx id vs a' w' Ds' hq (hlf hs) hd' hL
  | block id b ih =>
    intro inR tb r Q X n e k a w Ds hir hg he hd h hk hx hr
    have hk2 : ∀ vs a' w' Ds', SameBut (wrC b) a a' → DOk inR Ds' a' → Holds a' (lk cx.blk id) vs → (k ((e.forget (wrC b)).lay (lk cx.blk id) vs)).wp P r Ds' Q w' → X .normal a' w' :=
      fun vs a' w' Ds' hs hd' hh hw => hk _ a' w' Ds' ((he.forget _ hs).lay _ _ hh) hs hd' hw
    refine wpIn_block (ih inR _ r _ _ n e _ a w Ds hir (fun l a w hX => hg l a w hX) he hd h ?_ ?_ ?_)
    · intro e' a' w' Ds' he' hs hd' hh
      obtain ⟨vs, hvs, hq⟩ := fin_wp hh
      exact hk2 vs a' w' Ds' hs hd' (he'.vals _ _ hvs) hq
    · intro id' vs a' w' Ds' hq hs hd' hL
      simp only [Exit.inBlock]
      by_cases hid : id' = id
      · rw [if_pos hid]
        refine hk2 vs a' w' Ds' hs hd' (hL _ ?_) (hq.1 hid)
        subst hid
        simp [lk?]
      · rw [if_neg hid]
        refine hx id' vs a' w' Ds' (hq.2 hid) hs hd' fun L hl => hL L ?_
        simp only [lk?]
        rw [beq_ne fun e => hid e.symm, cond_false]
        exact hl
    · exact hr
  | loop b ih =>
    intro inR tb r Q X n e k a w Ds hir hg he hd h hk hx hr
    unfold comp at h
    generalize hL : nub ((wrC b).filter fun t => (e.get t).isSome) = L at h
    simp only at h
    cases hv0 : e.vals L with
    | none => rw [hv0] at h; exact h.elim
    | some vs0 =>
      rw [hv0] at h
      obtain ⟨I, ⟨n0, h0⟩, hround⟩ := h
      have hleast : ∀ (p : Nat → Prop) (m : Nat), p m → ∃ m', p m' ∧ ∀ j, p j → m' ≤ j := by
        intro p m
        induction m using Nat.strongRecOn with
        | _ m ih =>
          intro hm
          by_cases hx : ∃ j, p j ∧ j < m
          · obtain ⟨j, hj, hlt⟩ := hx
            exact ih j hlt hj
          · exact ⟨m, hm, fun j hj => Nat.le_of_not_lt fun hlt => hx ⟨j, hj, hlt⟩⟩
      obtain ⟨S, hS⟩ : ∃ S : Act → World → Nat → Prop, S = fun a' w' m => ∃ Ds', DOk inR Ds' a' ∧ SameBut (wrC b) a a' ∧ I m Ds' (L.map fun t => a'.tmps.getD t undef) w' := ⟨_, rfl⟩
      have hμ : ∃ μ : Act → World → Nat, ∀ a' w', (∃ m, S a' w' m) → S a' w' (μ a' w') ∧ ∀ j, S a' w' j → μ a' w' ≤ j := by
        have hex : ∀ a' w', ∃ m, (∃ m', S a' w' m') → S a' w' m ∧ ∀ j, S a' w' j → m ≤ j := fun a' w' => by
          by_cases hx : ∃ m', S a' w' m'
          · obtain ⟨m, hm⟩ := hx
            obtain ⟨m', h'⟩ := hleast (S a' w') m hm
            exact ⟨m', fun _ => h'⟩
          · exact ⟨0, fun h => absurd h hx⟩
        exact ⟨fun a' w' => Classical.choose (hex a' w'), fun a' w' h => Classical.choose_spec (hex a' w') h⟩
      obtain ⟨μ, hμ⟩ := hμ
      refine wpIn_loop (fun a' w' => ∃ m, S a' w' m) μ ⟨n0, ?_⟩ ?_
      · rw [hS]
        refine ⟨Ds, hd, SameBut.refl _ _, ?_⟩
        have := he.vals L vs0 hv0
        unfold Holds at this
        rw [← this]
        exact h0
      · intro a1 w1 hS1
        have h1 := (hμ a1 w1 hS1).1
        rw [hS] at h1
        obtain ⟨Ds1, hd1, hs1, hI1⟩ := h1
        refine ih inR tb r _ _ n _ _ a1 w1 Ds1 hir (fun l a w => hg l a w) ((he.forget _ hs1).lay L _ rfl) hd1 (hround _ Ds1 _ w1 hI1) ?_ ?_ hr
        · intro e' a' w' Ds' he' hs hd' hh
          obtain ⟨vs, hvs, m, hlt, hq⟩ := fin_wp hh
          have hh := he'.vals L vs hvs
          unfold Holds at hh
          rw [hh] at hq
          have hSm : S a' w' m := by rw [hS]; exact ⟨Ds', hd', (hs1.trans hs).mono fun t ht => by rcases List.mem_append.1 ht with ht | ht <;> exact ht, hq⟩
          exact ⟨⟨m, hSm⟩, Nat.lt_of_le_of_lt ((hμ a' w' ⟨m, hSm⟩).2 m hSm) hlt⟩
        · exact fun id vs a' w' Ds' hq hs hd' hL => hx id vs a' w' Ds' hq ((hs1.trans hs).mono fun t ht => by rcases List.mem_append.1 ht with ht | ht <;> exact ht) hd' hL
  | exit id =>
    intro inR tb r Q X n e k a w Ds hir hg he hd h hk hx hr
    obtain ⟨vs, hq, hL⟩ := exitP_sound he h
    exact wpIn_exit (hx id vs a w Ds hq (SameBut.refl _ _) hd hL)
  | ret =>
    intro inR tb r Q X n e k a w Ds hir hg he hd h hk hx hr
    obtain ⟨vs, hq, hL⟩ := retP_sound he h
    exact wpIn_ret (hr vs a w Ds hq hd hL)
  | scope b ih =>
    intro inR tb r Q X n e k a w Ds hir hg he hd h hk hx hr
    exact wpIn_scope (ih inR tb r Q X n e k a w Ds hir hg he hd h hk hx hr) hg
  | goto l => intro inR tb r Q X n e k a w Ds hir hg he hd h hk hx hr; exact h.elim
  | refuse y => intro inR tb r Q X n e k a w Ds hir hg he hd h hk hx hr; exact h.elim
  | rangeFunc f ps assign body iha ihb =>
    clear iha
    intro inR tb r Q X n e k a w Ds hir hg he hd h hk hx hr
    unfold comp at h
    cases hc : (e.knows f && ps.toList.all (fun p => Nat.blt p cx.N)) with
    | false => rw [hc] at h; exact h.elim
    | true =>
      rw [hc, cond_true] at h
      rw [Bool.and_eq_true] at hc
      have hv := he.val f hc.1
      have hps : ∀ p, p ∈ ps.toList → p < cx.N := fun p hp => Nat.le_of_ble_eq_true (List.all_eq_true.1 hc.2 p hp)
      obtain ⟨gf, lb, hf, hent, hl0, h⟩ := h
      have hev : a.eval f = .func (.func gf) #[] lb := hv.trans hf
      refine wpIn_rangeFunc fun fn _ => ?_
      -- what a round comes to
      have hyield : ∀ (l : Nat) (L : Loop), L.fn = fn → L.tmps = a.tmps → L.params = ps → L.assign = assign → L.body = body → ∀ vs w R, vs.length = ps.toList.length → w.heap[l]? = some (lp L .ready none) →
          ((compS cx assign (e.layIn ps.toList vs) fun e' => .begin (comp cx body true [] e' fun _ => .done .normal []))).wp P (some l) Ds (fun _ x _ w' => w'.heap[l]? = some (lp L .busy none) ∧
              (match x with | .normal => R (.bool true) (w'.putObj l (lp L .ready none)) | x => R (.bool false) (w'.putObj l (lp L .done (some x.code))))) w →
          opU P R ((Instr.yield l vs.toArray).run P w) := by
        intro l L hLf hLt hLp hLa hLb vs w R hlen hlw hwp
        have hy := run_yield (P := P) (args := vs.toArray) hlw (by simp [hLp, hlen])
        rw [hy]
        simp only [opU, hLf, hLt, hLp, hLa, hLb]
        refine roundIn_of_wpIn (F := Fence.wide) trivial ?_
        have he1 : EnvOk cx.N (e.layIn ps.toList vs) ⟨(ps.zip vs.toArray).foldl (fun t (x : Nat × Value) => t.setIfInBounds x.1 x.2) a.tmps, []⟩ := by
          have := EnvOk.layIn (d := []) ps.toList vs e a.tmps ⟨he.size, he.get⟩ hlen.symm hps
          have hz : (ps.zip vs.toArray).foldl (fun t (x : Nat × Value) => t.setIfInBounds x.1 x.2) a.tmps = (ps.toList.zip vs).foldl (fun t (x : Nat × Value) => t.setIfInBounds x.1 x.2) a.tmps := by
            rw [← Array.foldl_toList]
            simp
          rw [hz]
          exact this
        refine compS_sound (r := some l) hm assign he1 hwp ?_
        intro e' a' w' he' hd' hh
        obtain ⟨l', L', hl', hL', hb⟩ := hh
        cases hl'
        refine ⟨_, run_beginRound hL' rfl, ?_⟩
        refine wpIn_mono (Q := fun e a w => match e with | .goto _ => False | e => roundPost P l (fun e w' => ∃ v, e = .returned v ∧ R v w') e a w)
          (ihb true [] (some l) _ _ 0 e' _ a' _ Ds rfl (fun _ _ _ h => h) he' (show DOk true Ds a' from hd') hb ?_ ?_ ?_) ?_
        · rintro e2 a2 w2 Ds2 - - - ⟨h1, h2⟩
          exact ⟨_, _, run_endRound none h1, _, rfl, h2⟩
        · rintro id vs2 a2 w2 Ds2 ⟨h1, h2⟩ - - -
          exact ⟨_, _, run_endRound (some (.exit id)) h1, _, rfl, h2⟩
        · rintro vs2 a2 w2 Ds2 ⟨h1, h2⟩ - -
          exact ⟨_, _, run_endRound (some .ret) h1, _, rfl, h2⟩
        · intro e2 a2 w2 h2
          cases e2 <;> first | exact h2 | exact h2.elim
      -- behind the iterator
      have hpost : ∀ (l : Nat) (L : Loop) (a2 : Act) (w3 : World) (Ds2 : List Nat) (v : Value), a2.tmps = a.tmps → DOk inR Ds2 a2 →
          ((w3.heap[l]? = some (lp L .ready none) ∧ ((exK (k e) (retP cx inR e) (exitSel (exitP inR tb e) (nub (exitsC body)))) .normal).wp P r Ds2 Q (w3.putObj l (lp L .exhausted none))) ∨
           ∃ x : Ex, x.code ≠ .skip ∧ w3.heap[l]? = some (lp L .done (some x.code)) ∧ ((exK (k e) (retP cx inR e) (exitSel (exitP inR tb e) (nub (exitsC body)))) x).wp P r Ds2 Q (w3.putObj l (lp L .exhausted (some x.code)))) →
          rangePost (FW r) n P l X a2 (.returned v) w3 := by
        intro l L a2 w3 Ds2 v ht hd2 hor
        have he2 : EnvOk cx.N e a2 := ⟨by rw [ht]; exact he.size, fun t v hv => by rw [ht]; exact he.get t v hv⟩
        have hs2 : SameBut (wrC (.rangeFunc f ps assign body)) a a2 := ⟨by rw [ht], fun t _ => by rw [ht]⟩
        rcases hor with ⟨h1, h2⟩ | ⟨x, hx1, h1, h2⟩
        · exact ⟨none, _, run_endLoop h1 (fun h => by cases h), hk e a2 _ Ds2 he2 hs2 hd2 h2⟩
        · refine ⟨some x.code, _, run_endLoop h1 (fun h => by cases h), ?_⟩
          cases x with
          | normal => exact absurd rfl hx1
          | exit id =>
            obtain ⟨vs, hq, hL⟩ := exitP_sound he2 (exitSel_sound h2)
            exact wpIn_exit (hx id vs a2 _ Ds2 hq hs2 hd2 hL)
          | ret =>
            obtain ⟨vs, hq, hL⟩ := retP_sound he2 h2
            exact wpIn_ret (hr vs a2 _ Ds2 hq hd2 hL)
      cases r with
      | none =>
        obtain ⟨L, hL⟩ : ∃ L : Loop, L = { state := .ready, pending := none, fn := fn, tmps := a.tmps, params := ps, assign, body, defers := w.heap.size } := ⟨_, rfl⟩
        obtain ⟨W1, hW1⟩ : ∃ W1, (w.alloc (.deferred (some []))).alloc (lp L .ready none) = W1 := ⟨_, rfl⟩
        have hb : Below w.heap.size w W1 := by rw [← hW1]; exact ((Below.refl _ w).alloc (Nat.le_refl _) _).alloc (by simp) _
        have hsz : W1.heap.size = w.heap.size + 2 := by rw [← hW1]; simp
        have hD : W1.heap[w.heap.size]? = some (.deferred (some [])) := by rw [← hW1]; exact (Below.heap_alloc _ _ _ (by simp)).trans (World.alloc_heap_new w _)
        have hl1 : W1.heap[w.heap.size + 1]? = some (lp L .ready none) := by
          rw [← hW1]
          have := World.alloc_heap_new (w.alloc (.deferred (some []))) (lp L .ready none)
          rwa [World.size_alloc] at this
        refine ⟨w.heap.size + 1, [mkD w.heap.size], W1, { target := .fn (.func gf) lb, args := #[.func (.yield (w.heap.size + 1)) #[] #[]] }, W1, gf, #[.func (.yield (w.heap.size + 1)) #[] #[]] ++ lb, W1, ?_, ?_, fun _ _ => trivial, ?_, fun hd => by simp [FW, Fence.wide] at hd, ?_⟩
        · rw [← hW1, hL]; exact run_enterLoop_outer _ _ _ _ _
        · simp only [resolve, hev]
          simp [go_sem]
        · simp [invoke, hent]
        · have hh := h (w.heap.size + 1) w.heap.size W1 L hb (by omega) hsz (fun _ => ⟨Nat.le_refl _, by omega, hD⟩) hl1
            (hyield _ L (by rw [hL]) (by rw [hL]) (by rw [hL]) (by rw [hL]) (by rw [hL]))
          refine callsFW (Calls.mono hh ?_)
          rintro e3 w3 ⟨v, rfl, hor⟩
          have hin : inR = false := hir
          refine hpost _ _ { a with defers := [mkD w.heap.size] ++ a.defers } w3 (w.heap.size :: Ds) v rfl ?_ hor
          subst hin
          show _ = _
          have : a.defers = Ds.map mkD := hd
          rw [this]
          rfl
      | some l0 =>
        obtain ⟨rc, hrc⟩ := hl0 l0 rfl
        obtain ⟨L, hL⟩ : ∃ L : Loop, L = { state := .ready, pending := none, fn := fn, tmps := a.tmps, params := ps, assign, body, defers := rc.defers } := ⟨_, rfl⟩
        obtain ⟨W1, hW1⟩ : ∃ W1, w.alloc (lp L .ready none) = W1 := ⟨_, rfl⟩
        have hb : Below w.heap.size w W1 := by rw [← hW1]; exact (Below.refl _ w).alloc (Nat.le_refl _) _
        have hsz : W1.heap.size = w.heap.size + 1 := by rw [← hW1]; simp
        have hl1 : W1.heap[w.heap.size]? = some (lp L .ready none) := by rw [← hW1]; exact World.alloc_heap_new w _
        refine ⟨w.heap.size, [], W1, { target := .fn (.func gf) lb, args := #[.func (.yield w.heap.size) #[] #[]] }, W1, gf, #[.func (.yield w.heap.size) #[] #[]] ++ lb, W1, ?_, ?_, fun _ _ => trivial, ?_, fun hd => by simp [FW, Fence.wide] at hd, ?_⟩
        · rw [← hW1, hL]; exact run_enterLoop_inner hrc _ _ _ _ _
        · simp only [resolve, hev]
          simp [go_sem]
        · simp [invoke, hent]
        · have hh := h w.heap.size 0 W1 L hb (by omega) hsz (fun hn => by cases hn) hl1
            (hyield _ L (by rw [hL]) (by rw [hL]) (by rw [hL]) (by rw [hL]) (by rw [hL]))
          refine callsFW (Calls.mono hh ?_)
          rintro e3 w3 ⟨v, rfl, hor⟩
          refine hpost _ _ { a with defers := [] ++ a.defers } w3 Ds v rfl ?_ hor
          exact hd.same rfl
end
end Go.Proofs.Ytipgdalebkhgpaa.Fw
