/-
  A region that draws its order: whatever the order, it comes to our own ('compDraw_sound').
-/
import Derived.Test.YtipgdalebkhgpaaFw4
namespace Go.Proofs.Ytipgdalebkhgpaa.Fw
open Go Go.RowKit

theorem bfGo_lt : ∀ (lo : List Oper) (acc : List Nat), (∀ (i m : Nat), acc[i]? = some m → ∀ j, m.testBit j = true → j < i) →
    (∀ (i : Nat) (o : Oper), lo[i]? = some o → ∀ e, e ∈ o.after.toList → Region.binds .any e = true → e.on < acc.length + i) →
    ∀ (i m : Nat), (bfGo acc lo)[i]? = some m → ∀ j, m.testBit j = true → j < i
  | [], acc, hacc, _ => hacc
  | o :: r, acc, hacc, ho => by
    refine bfGo_lt r _ ?_ ?_
    · intro i m hi j hj
      by_cases hlt : i < acc.length
      · rw [List.getElem?_append_left hlt] at hi
        exact hacc i m hi j hj
      · rw [List.getElem?_append_right (by omega)] at hi
        have h0 : i - acc.length = 0 := by
          cases hz : i - acc.length with
          | zero => rfl
          | succ k => rw [hz] at hi; simp at hi
        rw [h0] at hi
        simp at hi
        subst hi
        have hi' : i = acc.length := by omega
        refine bfOne_sound (D := fun j => j < i) (acc := acc) (fun k m hk hD j hj => Nat.lt_trans (hacc k m hk j hj) hD) o (fun e he hb => ?_) j hj
        have := ho 0 o rfl e he hb
        omega
    · intro i o' hi e he hb
      have := ho (i + 1) o' (by simpa using hi) e he hb
      simp
      omega

theorem bf_lt {ops : Array Oper} (hok : okEdges ops = true) {i : Nat} {o : Oper} (ho : ops[i]? = some o) (j : Nat) (hj : ((bf ops).getD i 0).testBit j = true) : j < i := by
  obtain ⟨acc, ha⟩ := bf_get ho
  rw [List.getD_eq_getElem?_getD, ha, Option.getD_some] at hj
  refine bfGo_lt ops.toList [] (fun i m h => by simp at h) (fun i o ho e he hb => ?_) i _ ha j hj
  have h1 := List.all_eq_true.1 hok (o, i) (List.mem_zipIdx_iff_getElem?.2 (by simpa using ho))
  have h2 := List.all_eq_true.1 h1 e he
  simp only [hb, Bool.not_true, Bool.false_or] at h2
  have := Nat.le_of_ble_eq_true h2
  simp only [List.length_nil, Nat.zero_add]
  exact this

theorem edge_lt {ops : Array Oper} (hok : okEdges ops = true) {i : Nat} {o : Oper} (ho : ops[i]? = some o) (e : Edge) (he : e ∈ o.after.toList) (hb : Region.binds .any e = true) : e.on < i :=
  bf_lt hok ho _ (bf_direct ho e he hb)

def unl (listed : Array Bool) : Nat → Nat
  | 0 => 0
  | k + 1 => unl listed k + (if listed.getD k false = true then 0 else 1)
theorem unl_zero {listed : Array Bool} : ∀ (n : Nat), unl listed n = 0 → ∀ i, i < n → listed.getD i false = true
  | 0, _, i, hi => by omega
  | k + 1, h, i, hi => by
    unfold unl at h
    by_cases hk : i = k
    · subst hk
      by_cases hl : listed.getD i false = true
      · exact hl
      · rw [if_neg hl] at h; omega
    · exact unl_zero k (by omega) i (by omega)
theorem unl_set {listed : Array Bool} {i : Nat} (hi : i < listed.size) (hf : listed.getD i false = false) : ∀ n, unl (listed.setIfInBounds i true) n + (if i < n then 1 else 0) = unl listed n
  | 0 => by simp [unl]
  | k + 1 => by
    have ih := unl_set hi hf k
    unfold unl
    by_cases hk : k = i
    · subst hk
      have h1 : (listed.setIfInBounds k true).getD k false = true := (set_getD hi).2 (.inr rfl)
      rw [if_pos h1, if_neg (by simp [hf] : ¬ listed.getD k false = true), if_pos (by omega)]
      rw [if_neg (by omega)] at ih
      omega
    · have h1 : ((listed.setIfInBounds i true).getD k false = true) ↔ (listed.getD k false = true) := by rw [set_getD hi]; simp [hk]
      by_cases hl : listed.getD k false = true
      · rw [if_pos (h1.2 hl), if_pos hl]
        by_cases hik : i < k
        · rw [if_pos hik] at ih; rw [if_pos (by omega)]; omega
        · rw [if_neg hik] at ih; rw [if_neg (by omega)]; omega
      · rw [if_neg (fun h => hl (h1.1 h)), if_neg hl]
        by_cases hik : i < k
        · rw [if_pos hik] at ih; rw [if_pos (by omega)]; omega
        · rw [if_neg hik] at ih; rw [if_neg (by omega)]; omega

theorem put_getD (a b : Act) (hs : a.tmps.size = b.tmps.size) (d : Option Nat) (v : Value) (t : Nat) (h : b.tmps.getD t undef = a.tmps.getD t undef) : (b.put d v).tmps.getD t undef = (a.put d v).tmps.getD t undef := by
  cases d with
  | none => exact h
  | some d =>
    simp only [Act.put]
    by_cases hd : d < a.tmps.size
    · rw [getD_set _ _ _ _ hd, getD_set _ _ _ _ (hs ▸ hd), h]
    · rw [Array.setIfInBounds_eq_of_size_le (by omega), Array.setIfInBounds_eq_of_size_le (by omega)]
      exact h

theorem compOp_node {N : Nat} {P : Program} {r : Option Nat} {Ds : List Nat} {Q : List Nat → Ex → List Value → World → Prop} {ops : Array Oper} {o : Oper} {e : Env} {k : Env → Prog} {w : World}
    (h : (compOp N ops o e k).wp P r Ds Q w) : (∀ cs b, o.op ≠ .select cs b) := by
  unfold compOp at h
  cases hc : (okDst N o.dst && o.op.operands.toList.all e.knows) with
  | false => rw [hc] at h; exact h.elim
  | true =>
    rw [hc, cond_true] at h
    cases hn : nodeOf e.val o.op o.type with
    | none => rw [hn] at h; exact h.elim
    | some nd => exact (nodeOf_plain hn).1

theorem chks_wp {P : Program} {r : Option Nat} {Ds : List Nat} {Q : List Nat → Ex → List Value → World → Prop} {w : World} {p : Prog} : ∀ {l : List Pd}, (chks l p).wp P r Ds Q w →
    (∀ x, x ∈ l → (∀ y c, x.g = some (y, c) → isB y c = true) → x.s.run P w = .ok (.value x.v) w) ∧ p.wp P r Ds Q w
  | [], h => ⟨(fun _ hx => by cases hx), h⟩
  | y :: l, h => by
    obtain ⟨h1, h2⟩ := h
    obtain ⟨h3, h4⟩ := chks_wp h2
    refine ⟨fun x hx => ?_, h4⟩
    cases hx with
    | head => exact h1
    | tail _ hx => exact h3 x hx

theorem quiet_nodefer {o : Op} (h : quietOp o = true) : ∀ c, o ≠ .defer c := by
  intro c e
  subst e
  simp [quietOp] at h

section
variable {P : Program} {r : Option Nat} {n N : Nat} {Ds : List Nat} {Q : List Nat → Ex → List Value → World → Prop} {X : Exit → Act → World → Prop}

theorem compD_all {ops : Array Oper} {k : Env → Prog} {f m : Nat} {pd : List Pd} {e : Env} {w : World} (hall : ∀ i, i < ops.size → m.testBit i = true)
    (h : (compD N ops (rows ops) f m pd e k).wp P r Ds Q w) : (k e).wp P r Ds Q w := by
  have hm : ∀ x, x ∈ rows ops → m.testBit x.i = true := fun x hx => hall _ (Array.getElem?_eq_some_iff.1 (rows_mem hx).1).1
  have ha : allIn m (rows ops) = true := allIn_iff.2 hm
  cases f with
  | zero => rw [compD, ha] at h; exact h
  | succ f =>
    rw [compD] at h
    cases hq : findQ m (rows ops) with
    | some x =>
      obtain ⟨h1, -, h3, -⟩ := findQ_some hq
      rw [hm x h1] at h3
      cases h3
    | none =>
      rw [hq] at h
      simp only at h
      cases hl : findL m (rows ops) with
      | nil => rw [hl, ha] at h; exact h
      | cons x l =>
        have hx : x ∈ findL m (rows ops) := by rw [hl]; exact List.mem_cons_self
        obtain ⟨h1, -, h3, -⟩ := findL_sub hx
        rw [hm x h1] at h3
        cases h3

theorem compD_any {ops : Array Oper} {k : Env → Prog} {a0 : Act} (hokL : okLoud ops (rows ops) = true) (hokE : okEdges ops = true)
    (hk : ∀ e' a' w', EnvOk N e' a' → SameBut (opsWr ops) a0 a' → a'.defers = a0.defers → (k e').wp P r Ds Q w' → X .normal a' w') :
    ∀ (F : Nat) (listed : Array Bool) (a : Act) (w : World) (f m : Nat) (pd : List Pd) (e : Env) (b : Act) (Pn : Nat → Prop), unl listed ops.size ≤ F →
      DInv P ops N listed a w m pd e b Pn → SameBut (opsWr ops) a0 a → a.defers = a0.defers → (compD N ops (rows ops) f m pd e k).wp P r Ds Q w →
      wpAnyIn (FW r) n P .any ops X F listed a w := by
  have hend : ∀ (listed : Array Bool) (a : Act) (w : World) (f m : Nat) (pd : List Pd) (e : Env) (b : Act) (Pn : Nat → Prop), (∀ i, i < ops.size → listed.getD i false = true) →
      DInv P ops N listed a w m pd e b Pn → SameBut (opsWr ops) a0 a → a.defers = a0.defers → (compD N ops (rows ops) f m pd e k).wp P r Ds Q w → X .normal a w := by
    intro listed a w f m pd e b Pn hall hI hs hd h
    refine hk e a w ⟨hI.size.trans hI.env.size, fun t v hv => ?_⟩ hs hd (compD_all (fun i hi => (hI.mbit i hi).2 (.inl (hall i hi))) h)
    rw [← hI.slots t fun i o hi _ => absurd (hall i (hI.disj i hi).2) (by rw [(hI.disj i hi).1]; simp)]
    exact hI.env.get t v hv
  have hnoready : ∀ (listed : Array Bool), listed.size = ops.size → Region.ready .any ops listed = [] → ∀ i, i < ops.size → listed.getD i false = true := by
    intro listed hl hr i
    induction i using Nat.strongRecOn with
    | _ i ih =>
      intro hi
      cases hf : listed.getD i false with
      | true => rfl
      | false =>
        have : i ∈ Region.ready .any ops listed := (ready_mem hl).2 ⟨hi, hf, _, Array.getElem?_eq_getElem hi, fun e he hb => by
          have hlt := edge_lt hokE (Array.getElem?_eq_getElem hi) e he hb
          exact ih _ hlt (by omega)⟩
        rw [hr] at this
        cases this
  intro F
  induction F with
  | zero =>
    intro listed a w f m pd e b Pn hF hI hs hd h
    have hall := unl_zero ops.size (Nat.le_zero.1 hF)
    refine ⟨?_, hend listed a w f m pd e b Pn hall hI hs hd h⟩
    cases hr : Region.ready .any ops listed with
    | nil => rfl
    | cons i l =>
      have hi : i ∈ Region.ready .any ops listed := by rw [hr]; exact List.mem_cons_self
      obtain ⟨h1, h2, -⟩ := (ready_mem hI.lsize).1 hi
      rw [hall i h1] at h2
      cases h2
  | succ F ih =>
    intro listed a w f m pd e b Pn hF hI hs hd h
    refine ⟨fun hr => hend listed a w f m pd e b Pn (hnoready listed hI.lsize hr) hI hs hd h, fun i hir => ?_⟩
    obtain ⟨hin, hil, o, ho, hpre⟩ := (ready_mem hI.lsize).1 hir
    obtain ⟨f', m', pd', e', b', Pn', hI', h', hf', -⟩ := saturate f m pd e b Pn hI h
    clear hI h
    have hilt : i < listed.size := hI'.lsize ▸ hin
    -- what lies ahead of i has come
    have hclos : Closed ops (fun j => listed.getD j false = true ∨ j = i) := by
      intro j oj hj hD e2 he2 hb2
      rcases hD with hD | rfl
      · exact .inl (hI'.closL j oj hj hD e2 he2 hb2)
      · rw [ho] at hj; cases hj; exact .inl (hpre e2 he2 hb2)
    have hahead : ∀ j, ((bf ops).getD i 0).testBit j = true → listed.getD j false = true := by
      intro j hj
      have hlt := bf_lt hokE ho j hj
      exact (bf_in hclos ho (.inr rfl) j hj).resolve_right (by omega)
    have hnotpend : ∀ j, Pn' j → ¬ ((bf ops).getD i 0).testBit j = true := fun j hj hb => by
      have := hahead j hb
      rw [(hI'.disj j hj).1] at this
      cases this
    -- the operation sees the same slots in both frames
    have hal : AlikeAt ops o a b' := by
      refine ⟨hI'.size, fun t ht => (hI'.slots t fun j oj hj hoj hdt => ?_).symm⟩
      obtain ⟨hf, -⟩ := hI'.pend j oj hj hoj
      obtain ⟨h1, h2⟩ := (freeQ_spec hf).2 t hdt i o ho
      by_cases hij : i = j
      · exact h1 hij ht
      · exact hnotpend j hj ((h2 hij).2 ht)
    have hFle : unl (listed.setIfInBounds i true) ops.size ≤ F := by
      have := unl_set hilt hil ops.size
      rw [if_pos hin] at this
      omega
    have hsput : ∀ v, SameBut (opsWr ops) a0 (a.put o.dst v) := fun v => (hs.trans (SameBut.put a o.dst v)).mono fun t ht => by
      rcases List.mem_append.1 ht with ht | ht
      · exact ht
      · exact opsWr_mem ho t ht
    have hdput : ∀ v, (a.put o.dst v).defers = a0.defers := fun v => by rw [← hd]; cases o.dst <;> rfl
    have hclosL' : Closed ops (fun j => (listed.setIfInBounds i true).getD j false = true) := by
      intro j oj hj hD e2 he2 hb2
      rw [set_getD hilt] at hD ⊢
      exact hclos j oj hj hD e2 he2 hb2
    by_cases hip : Pn' i
    · -- it was taken early in our order: now it comes
      obtain ⟨hfq, v, hv, hy, -⟩ := hI'.pend i o hip ho
      have hqo := (freeQ_spec hfq).1
      have hya := hy.alike hal (quiet_plain hqo)
      have hnext : wpAnyIn (FW r) n P .any ops X F (listed.setIfInBounds i true) (a.put o.dst v) w := by
        refine ih _ _ w f' m' pd' e' b' (fun j => Pn' j ∧ j ≠ i) hFle ⟨hI'.env, ?_, ?_, ?_, ?_, hI'.mlt, ?_, hclosL', hI'.closM, ?_, ?_⟩ (hsput v) (hdput v) h'
        · rw [← hI'.size]; cases o.dst <;> simp [Act.put]
        · rw [hI'.defers]; cases o.dst <;> rfl
        · simp [hI'.lsize]
        · intro j hj
          rw [hI'.mbit j hj, set_getD hilt]
          by_cases hji : j = i
          · subst hji; simp [hip]
          · simp [hji]
        · rintro j ⟨hj, hji⟩
          refine ⟨?_, (hI'.disj j hj).2⟩
          cases hx : (listed.setIfInBounds i true).getD j false with
          | false => rfl
          | true =>
            rcases (set_getD hilt).1 hx with h1 | h1
            · rw [(hI'.disj j hj).1] at h1; cases h1
            · exact absurd h1 hji
        · intro t ht
          by_cases hdt : o.dst = some t
          · rw [hv t hdt]
            by_cases htN : t < a.tmps.size
            · rw [hdt]; simp only [Act.put]; rw [getD_set _ _ _ _ htN, if_pos rfl]
            · have hb0 : b'.tmps.getD t undef = undef := by
                have : ¬ t < b'.tmps.size := by rw [← hI'.size]; exact htN
                simp [Array.getD, this]
              rw [← hv t hdt, hb0, hdt]
              simp only [Act.put]
              have hle : a.tmps.size ≤ t := Nat.le_of_not_lt htN
              rw [Array.setIfInBounds_eq_of_size_le hle]
              simp [Array.getD, htN]
          · rw [(SameBut.put a o.dst v).2 t (by simpa using hdt)]
            refine hI'.slots t fun j oj hj hoj => ?_
            by_cases hji : j = i
            · subst hji; rw [ho] at hoj; cases hoj; exact hdt
            · exact ht j oj ⟨hj, hji⟩ hoj
        · rintro j oj ⟨hj, -⟩ hoj
          exact hI'.pend j oj hj hoj
      unfold wpOpIn
      simp only [ho]
      rcases hya with ⟨hw, hrun⟩ | ⟨hw, rfl⟩
      · rw [if_pos hw]
        refine wpIn_of_opW (q := true) (quiet_nodefer hqo) rfl (R := fun u w' => u = v ∧ w' = w) ⟨v, hrun, rfl, rfl⟩ ?_
        rintro u w' ⟨rfl, rfl⟩
        exact hnext
      · rw [if_neg (by rw [hw]; simp)]
        exact ⟨fun _ _ => trivial, hnext⟩
    · -- it acts: it is the next one in our order, too
      have him : m'.testBit i = false := by
        cases hx : m'.testBit i with
        | false => rfl
        | true =>
          rcases (hI'.mbit i hin).1 hx with h1 | h1
          · rw [hil] at h1; cases h1
          · exact absurd h1 hip
      have hsubi : sub ((bf ops).getD i 0) m' = true := (sub_iff _ _).2 fun j hj => (hI'.mbit j (by have := bf_lt hokE ho j hj; omega)).2 (.inl (hahead j hj))
      cases f' with
      | zero =>
        rw [compD] at h'
        cases ha : allIn m' (rows ops) with
        | false => rw [ha] at h'; exact h'.elim
        | true => rw [allIn_iff.1 ha _ (mem_rows ho)] at him; cases him
      | succ f' =>
        have hq : findQ m' (rows ops) = none := hf'.resolve_left (by omega)
        have hfree : freeQ ops (bf ops) i o = false := by
          cases hx : freeQ ops (bf ops) i o with
          | false => rfl
          | true => rw [findQ_none hq _ (mem_rows ho) hx hsubi] at him; cases him
        rw [compD, hq] at h'
        simp only at h'
        have hmem := mem_findL (rs := rows ops) (x := ⟨i, o, (bf ops).getD i 0, freeQ ops (bf ops) i o⟩) hfree him hsubi (mem_rows ho)
        cases hl : findL m' (rows ops) with
        | nil => rw [hl] at hmem; cases hmem
        | cons x l =>
          rw [hl] at h' hmem
          have h'' := altP_mem hmem h'
          clear h'
          have h' := h''
          clear h''
          simp only at h'
          · skip
            have hsel := compOp_node h'
            refine compOp_sound ho hI'.env (hal.exec hsel) hal.wanted h' fun v w' he2 h2 => ?_
            obtain ⟨hch, h3⟩ := chks_wp h2
            refine ih _ _ w' f' _ _ _ (b'.put o.dst v) Pn' hFle ⟨he2, ?_, ?_, ?_, ?_, ?_, ?_, hclosL', ?_, ?_, ?_⟩ (hsput v) (hdput v) h3
            · have := hI'.size
              cases o.dst <;> simpa [Act.put] using this
            · have := hI'.defers
              cases o.dst <;> exact this
            · simp [hI'.lsize]
            · intro j hj
              rw [bit_or, hI'.mbit j hj, set_getD hilt, or_right_comm]
            · intro j hj
              rcases (bit_or _ _ _).1 hj with h1 | rfl
              · exact hI'.mlt j h1
              · exact hin
            · intro j hj
              refine ⟨?_, (hI'.disj j hj).2⟩
              cases hx : (listed.setIfInBounds i true).getD j false with
              | false => rfl
              | true =>
                rcases (set_getD hilt).1 hx with h1 | rfl
                · rw [(hI'.disj j hj).1] at h1; cases h1
                · exact absurd hj hip
            · intro j oj hj hD e2 hee2 hb2
              refine (bit_or _ _ _).2 (.inl ?_)
              rcases (bit_or _ _ _).1 hD with h1 | rfl
              · exact hI'.closM j oj hj h1 e2 hee2 hb2
              · rw [ho] at hj; cases hj
                have hlt := edge_lt hokE ho e2 hee2 hb2
                exact (hI'.mbit _ (by omega)).2 (.inl (hpre e2 hee2 hb2))
            · intro t ht
              exact put_getD a b' hI'.size o.dst v t (hI'.slots t ht)
            · intro j oj hj hoj
              obtain ⟨hfj, u, hu, hyu, hpu⟩ := hI'.pend j oj hj hoj
              have hji : j ≠ i := fun e => hip (e ▸ hj)
              obtain ⟨hqj, hsj⟩ := freeQ_spec hfj
              have halj : AlikeAt ops oj (b'.put o.dst v) b' := by
                refine alike_put b' _ v fun d hdd hm => ?_
                rcases okLoud_spec hokL ho hoj hfree hfj d hdd hm with h1 | h1
                · have hjm : m'.testBit j = true := (hI'.mbit j (hI'.disj j hj).2).2 (.inr hj)
                  have := bf_in hI'.closM hoj hjm i h1
                  rw [this] at him
                  cases him
                · exact hnotpend j hj h1
              refine ⟨hfj, u, fun d hdd => ?_, ?_, ?_⟩
              · have hne : o.dst ≠ some d := ((hsj d hdd i o ho).2 (fun e => hji e.symm)).1
                rw [(SameBut.put b' o.dst v).2 d (by simpa using hne)]
                exact hu d hdd
              · rcases hpu with hp | ⟨p, hp1, hp2, hp3⟩
                · exact (hp w').alike halj (quiet_plain hqj)
                · refine (hp3.at (hch p ?_)).alike halj (quiet_plain hqj)
                  rw [List.mem_filter]
                  refine ⟨hp1, ?_⟩
                  have := hnotpend j hj
                  rw [hp2]
                  simpa using this
              · rcases hpu with hp | ⟨p, hp1, hp2, hp3⟩
                · exact .inl fun w => (hp w).alike halj (quiet_plain hqj)
                · refine .inr ⟨p, ?_, hp2, hp3.alike halj (quiet_plain hqj)⟩
                  rw [List.mem_filter]
                  refine ⟨hp1, ?_⟩
                  have := hnotpend j hj
                  rw [hp2]
                  simpa using this

theorem compDraw_sound {ops : Array Oper} {id : Nat} {e : Env} {a : Act} {w : World} {k : Env → Prog} (hm : P.follows .mixedOrders = true) (he : EnvOk N e a)
    (h : ∀ d, (compDraw N ops e k).wp P r Ds Q { w with drawn := d })
    (hk : ∀ e' a' w', EnvOk N e' a' → SameBut (opsWr ops) a a' → a'.defers = a.defers → (k e').wp P r Ds Q w' → X .normal a' w') :
    (Code.region id ops true).wpIn (FW r) n P X a w := by
  refine wpIn_region_any hm ?_
  have h := h (w.drawn + 1)
  unfold compDraw at h
  cases hc : (okLoud ops (rows ops) && okEdges ops) with
  | false => simp only [hc] at h; exact h.elim
  | true =>
    simp only [hc, cond_true] at h
    rw [Bool.and_eq_true] at hc
    have hrep : ∀ i, (Array.replicate ops.size false).getD i false = false := fun i => by
      by_cases hi : i < ops.size <;> simp [Array.getD, hi]
    refine compD_any hc.1 hc.2 hk ops.size _ a _ ops.size 0 [] e a (fun _ => False) ?_ ⟨he, rfl, rfl, by simp, ?_, ?_, ?_, ?_, ?_, fun _ _ => rfl, ?_⟩ (SameBut.refl _ _) rfl h
    · have : ∀ k, unl (Array.replicate ops.size false) k ≤ k := by
        intro k
        induction k with
        | zero => simp [unl]
        | succ k ih => unfold unl; split <;> omega
      exact this _
    · intro i _
      rw [hrep i]
      simp
    · intro i hi; simp at hi
    · intro i hi; exact hi.elim
    · intro i o _ hi; rw [hrep i] at hi; cases hi
    · intro i o _ hi; simp at hi
    · intro i o hi; exact hi.elim
end
end Go.Proofs.Ytipgdalebkhgpaa.Fw
