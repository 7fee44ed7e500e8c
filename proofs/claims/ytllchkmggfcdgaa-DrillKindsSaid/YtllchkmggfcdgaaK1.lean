/-
  Contracts of functions.
-/
import Derived.Test.YtllchkmggfcdgaaTerms
import Derived.Test.YtllchkmggfcdgaaTab
import Derived.Test.YtllchkmggfcdgaaModKinds
import Derived.Test.YtllchkmggfcdgaaD1
set_option maxRecDepth 100000
set_option linter.unusedVariables false
set_option linter.unusedSimpArgs false
namespace Go.Proofs.Ytllchkmggfcdgaa
open Go Go.RowKit Fw
/-- slices.All[[]string,string]$1 -/
theorem s49 (b : Nat) (v : Value) (l : List ByteArray) :
    IterOk Try.prog 49 [.pointer (some ⟨b, 0, none⟩)] (strsAll l) 2 (fun w F => Blk w b [v] 54 ∧ RdS w v 1 (strs l) ∧ ¬ F b ∧ ∀ c, v.ownBlock = some c → ¬ F c) := by
  intro lo Lo w1 body I IX H0 hY h0 hB hsep hpre
  refine fn_of_J (Pre := fun w => w = w1) (H0 := rdy lo Lo :: H0) (R := fun v H1 => IterEnd lo Lo (strsAll l).length I IX H1) (cx := cx49) hmix Try.func49 (by kernel_rfl) (eq49 _ _) (fun w hw => ?_) w1 rfl hsep
  subst hw
  obtain ⟨hb, hv, hF, hF2⟩ := hpre
  have hS : ∀ H, SeeS ⟨Try.prog, w, footOf (rdy lo Lo :: H0)⟩ H v 1 (strs l) := fun H => SeeS.ofW hv strs_ne hF2
  have hm := hv.le
  simp only [strs_len, maxLen] at hm
  refine J.op (R.ldW o54 ((cell_block hb 0).trans rfl) hF) ?_ -- @t5 vS (Instr.loadAt 54 a1)
  refine J.op (R.lenN sl54 (hS _) strs_len) ?_ -- @t6 bltS .len #[54] 3 #[false] [t5]
  refine J.bind ?_ -- @tv_1 bind tv_1 ([])
  refine J.block ?_
  -- @tx loop [(.int .i64 0)]
  refine J.loop (α := Nat × List Ent) (fun (i, Hk) => i ≤ l.length ∧ I i Hk) (fun (i, _) => [.int .i64 i]) (fun (_, Hk) => rdy lo Lo :: Hk) (fun (i, _) => l.length - i) (0, H0) ⟨Nat.zero_le _, h0⟩ rfl (Imp.refl _) ?_
  rintro ⟨i, Hk⟩ ⟨hi, hI⟩
  dsimp only at hi hI ⊢
  try simp only [List.headD_cons, List.tail_cons]
  refine J.opD R.lss (fun ht8 => ?_) (fun ht8 => ?_) -- @t8 binS .lss 3 (.tmp 7) (.tmp 6) (tx.headD undef) t6
  · skip
    refine J.iteT ?_
    refine J.bind ?_ -- @tv bind tv ([])
    refine J.block ?_
    have hlt : i < l.length := by omega
    obtain ⟨x, hx⟩ := get_ex hlt
    refine J.ixW sl54 hS (by omega) (strs_get hx) fun b o hkt10 => ?_ -- @t10 ix t5 (tx.headD undef)
    refine J.op (R.ldK0 o9 (hkt10 _)) ?_ -- @t11 vS (Instr.loadAt 9 t10)
    refine J.yieldI (Hk := Hk) (Hr := []) hY rfl hB (strsAll_get hx) rfl Take.all hI ?_ ?_ -- @t15 callS a0 [(tx.headD undef), t11]
    · skip
      intro H2 hI2
      simp only [List.append_nil]
      refine J.op (v := .bool false) R.not ?_
      refine J.iteF ?_
      refine J.done ?_ -- then tv = []
      refine J.op (R.add64 (by omega)) ?_ -- @t17 binS .add 3 (.tmp 7) (.const (.int .i64 1)) (tx.headD undef) (.int .i64 1)
      -- @again[t17]
      exact J.done ⟨(i + 1, H2), ⟨hlt, hI2⟩, rfl, Imp.refl _, by dsimp only; omega⟩
    · skip
      intro x2 H2 hx2 hI2
      simp only [List.append_nil]
      refine J.op (v := .bool true) R.not ?_
      refine J.iteT ?_
      -- @ret[]
      exact J.done ⟨rfl, _, fun _ _ => rfl, .inr ⟨x2, H2, hx2, .cons .here .nil, hI2⟩⟩
  · skip
    refine J.iteF ?_
    refine J.done ⟨fun _ => ?_, fun h => absurd rfl h⟩ -- exit []
    -- @ret[]#2
    obtain rfl : i = l.length := by omega
    exact J.done ⟨rfl, _, fun _ _ => rfl, .inl ⟨Hk, .cons .here .nil, by rw [strsAll_len]; exact hI⟩⟩

/-- slices.All[[]string,string] -/
theorem s40 (a : Option Addr) (m c : Nat) :
    FnT Try.prog 40 [.slice a m c] (fun _ => True) [] (fun u es => ∃ b, u = .func (.func 49) #[] #[.pointer (some ⟨b, 0, none⟩)] ∧ es = [Ent.cells b [.slice a m c] 54]) := by
  refine fn_of_J (cx := cx40) hmix Try.func40 (by kernel_rfl) (eq40 _) fun w hw => ?_
  refine J.box1 rfl fun bt1 => ?_
  -- @ret[(.func(.func49)#[]#[t1])]
  exact J.done (RetQ.gt (.tmp (.nil)) (by (try dsimp only); repeat (first | exact Has.nil | refine Has.cons (by repeat (first | (with_reducible exact Out.here) | ((with_reducible refine Out.cells ?_); first | rfl | (simp; done)) | ((with_reducible refine Out.row ?_); first | rfl | (simp; done)) | (with_reducible apply Out.there))) ?_)) (⟨_, rfl, rfl⟩))

/-- damper/drill.Each -/
theorem s25  :
    FnT Try.prog 25 [] (fun _ => True) [] (fun u es => ∃ b c, u = .func (.func 49) #[] #[.pointer (some ⟨b, 0, none⟩)] ∧ es = [Ent.cells b [.slice (some ⟨c, 0, none⟩) 5 5] 54, Ent.cells c (kindNames.map .string) 9]) := by
  refine fn_of_J (cx := cx25) hmix Try.func25 (by kernel_rfl) (eq25) fun w hw => ?_
  refine J.bs (cs := kindNames.map .string) (E := 9) (fun w => by kernel_rfl) fun bt1 => ?_ -- @t1 vS (Instr.buildSlice 54 5 #[(0, (.string { data := #[99, 97, 108, 109] })), (1, (.string { data := #[99, 114, 97, 115, 104] })), (2, (.string { data := #[114, 97, 108, 108, 121] })), (3, (.string { data := #[99, 114, 111, 115, 115, 101, 100] })), (4, (.string { data := #[119, 105, 108, 100] }))])
  refine J.callT en40 (s40 _ _ _) rfl (fun _ _ _ => trivial) Take.nil (fun v es ht2 => ?_)
  obtain ⟨bt2, rfl, rfl⟩ := ht2
  simp only [List.cons_append, List.nil_append] -- @t2 callS (.func (.func 40) #[] #[]) [t1]
  -- @ret[t2]
  exact J.done (RetQ.gt (.tmp (.nil)) (by (try dsimp only); repeat (first | exact Has.nil | refine Has.cons (by repeat (first | (with_reducible exact Out.here) | ((with_reducible refine Out.cells ?_); first | rfl | (simp; done)) | ((with_reducible refine Out.row ?_); first | rfl | (simp; done)) | (with_reducible apply Out.there))) ?_)) (⟨_, _, rfl, rfl⟩))

/-- damper/damperref37.Names -/
theorem s26  :
    FnT Try.prog 26 [] (fun _ => True) [] (fun u es => ∃ c, u = .slice (some ⟨c, 0, none⟩) 5 5 ∧ es = [Ent.cells c (kindNames.map .string) 9]) := by
  refine fn_of_J (cx := cx26) hmix Try.func26 (by kernel_rfl) (eq26) fun w hw => ?_
  refine J.bs (cs := kindNames.map .string) (E := 9) (fun w => by kernel_rfl) fun bt1 => ?_ -- @t1 vS (Instr.buildSlice 54 5 #[(0, (.string { data := #[99, 97, 108, 109] })), (1, (.string { data := #[99, 114, 97, 115, 104] })), (2, (.string { data := #[114, 97, 108, 108, 121] })), (3, (.string { data := #[99, 114, 111, 115, 115, 101, 100] })), (4, (.string { data := #[119, 105, 108, 100] }))])
  -- @ret[t1]
  exact J.done (RetQ.gt (.tmp (.nil)) (by (try dsimp only); repeat (first | exact Has.nil | refine Has.cons (by repeat (first | (with_reducible exact Out.here) | ((with_reducible refine Out.cells ?_); first | rfl | (simp; done)) | ((with_reducible refine Out.row ?_); first | rfl | (simp; done)) | (with_reducible apply Out.there))) ?_)) (⟨_, rfl, rfl⟩))

/-- damper/damperlaw37.DrillKinds -/
theorem s6 (stop : Int) :
    FnE Try.prog 6 [.int .i64 stop] (fun _ => True) (.bool true) := by
  refine fn_of_J (cx := cx6) hmix Try.func6 (by kernel_rfl) (eq6 _) fun w hw => ?_
  refine J.box1 rfl fun bt1 => ?_
  refine J.alloc z4 fun bt2 => ?_
  refine J.callE en17 s17 rfl (fun _ _ _ => trivial) ?_ -- @t6 callS (.func (.func 17) #[] #[]) []
  refine J.opBF R.not (by rfl) ?_ -- @t7
  refine J.iteF ?_
  refine J.alloc z3 fun bt3 => ?_
  refine J.st sz3 (by with_reducible repeat (first | exact Pick.here | apply Pick.there)) (by repeat (first | exact .zero | exact .nil | apply Upd.succ | apply UpdN.cons)) rfl ?_ -- @tu_1 uS (Instr.storeAt 3 t3 (.int .i64 0))
  refine J.callT en25 (s25) rfl (fun _ _ _ => trivial) Take.nil (fun v es ht8 => ?_)
  obtain ⟨bt8, ct8, rfl, rfl⟩ := ht8
  simp only [List.cons_append, List.nil_append] -- @t8 callS (.func (.func 25) #[] #[]) []
  refine J.bindJ (fun vs H2 => vs = [] ∧ ∃ m : Int, H2 = [Ent.cells bt3 [.int .i64 m] 3, Ent.cells bt2 [.bool false] 4, Ent.cells bt1 [.int .i64 stop] 3] ++ [Ent.cells bt8 [.slice (some ⟨ct8, 0, none⟩) 5 5] 54, Ent.cells ct8 (kindNames.map .string) 9] ∧ ((m = 5 ∧ ∀ j : Int, 0 < j → j ≤ 5 → j ≠ stop) ∨ (m = stop ∧ 0 < stop ∧ stop ≤ 5))) ?_ ?_ -- @tv_2
  · skip
    refine J.block ?_
    -- @ty range t8
    refine J.rangeI (fun k H => k ≤ 5 ∧ H = [Ent.cells bt3 [.int .i64 k] 3, Ent.cells bt2 [.bool false] 4, Ent.cells bt1 [.int .i64 stop] 3] ∧ ∀ j : Int, 0 < j → j ≤ k → j ≠ stop) (fun x H => x = .exit 0 ∧ 0 < stop ∧ stop ≤ 5 ∧ H = [Ent.cells bt3 [.int .i64 stop] 3, Ent.cells bt2 [.bool false] 4, Ent.cells bt1 [.int .i64 stop] 3])
      (Hc := [Ent.cells bt8 [.slice (some ⟨ct8, 0, none⟩) 5 5] 54, Ent.cells ct8 (kindNames.map .string) 9]) (H0 := [Ent.cells bt3 [.int .i64 0] 3, Ent.cells bt2 [.bool false] 4, Ent.cells bt1 [.int .i64 stop] 3]) en49 (s49 bt8 (.slice (some ⟨ct8, 0, none⟩) 5 5) kindNames) (.cons (by (try dsimp only); repeat (first | (with_reducible exact Out.here) | ((with_reducible refine Out.cells ?_); first | rfl | (simp; done)) | ((with_reducible refine Out.row ?_); first | rfl | (simp; done)) | (with_reducible apply Out.there))) (.cons (by (try dsimp only); repeat (first | (with_reducible exact Out.here) | ((with_reducible refine Out.cells ?_); first | rfl | (simp; done)) | ((with_reducible refine Out.row ?_); first | rfl | (simp; done)) | (with_reducible apply Out.there))) .nil)) ⟨by omega, rfl, fun j h1 h2 => by omega⟩ ?_ ?_ ?_ ?_
    · intro Ds w F hs hF _
      exact ⟨Blk.of (by with_reducible repeat (first | exact Pick.here | apply Pick.there)) hs, SeeS.cells (els := strs kindNames) (by with_reducible repeat (first | exact Pick.here | apply Pick.there)) rfl (by decide) (by intro i l hi j u hj; rcases i with _ | _ | _ | _ | _ | i <;> simp [strs, kindNames] at hi <;> subst hi <;> rcases j with _ | j <;> simp at hj <;> subst hj <;> rfl) _ _ hs, hF (Ent.cells bt8 [.slice (some ⟨ct8, 0, none⟩) 5 5] 54) (by simp) bt8 rfl, fun c hc => by cases hc; exact hF (Ent.cells ct8 (kindNames.map .string) 9) (by simp) ct8 rfl⟩
    · skip
      intro lo Lo w1 Ds hs k vs Hk w0 hvs hI hsep hst
      obtain ⟨hk, rfl, hall⟩ := hI
      obtain ⟨nm, hnm, rfl⟩ := strsAll_inv hvs
      have hlt : k < 5 := (List.getElem?_eq_some_iff.1 hnm).1
      try simp only [List.headD_cons, List.tail_cons]
      refine J.begin (by with_reducible repeat (first | exact Pick.here | apply Pick.there)) ?_
      refine J.bind ?_ -- @tv_1 bind tv_1 ([])
      refine J.block ?_
      refine J.bindBH (False) (Ent.obj lo (lp Lo .busy none) :: [Ent.cells bt3 [.int .i64 k] 3, Ent.cells bt2 [.bool false] 4, Ent.cells bt1 [.int .i64 stop] 3]) ?_ (fun hbtv => ?_) (fun hbtv => ?_) -- @tv
      · skip
        refine J.draw ?_
        refine J.op (R.ld o3 (by with_reducible repeat (first | exact Pick.here | apply Pick.there)) rfl) ?_ -- @t12 vS (Instr.loadAt 3 t3)
        refine J.opDF R.neq (by simp) ?_ -- @t13
        refine J.gopT rfl ?_
        refine J.op (R.ld o3 (by with_reducible repeat (first | exact Pick.here | apply Pick.there)) rfl) ?_ -- @t15 vS (Instr.loadAt 3 t3)
        refine J.gopT rfl ?_
        refine J.opDF R.geq (by omega) ?_ -- @t16
        refine J.op R.pickF ?_ -- @t17 pickS t13 (.bool true) t16
        refine J.gopT rfl ?_
        refine J.op R.pure ?_
        refine J.gopT rfl ?_
        refine J.op (R.ld o3 (by with_reducible repeat (first | exact Pick.here | apply Pick.there)) rfl) ?_ -- @t21 vS (Instr.loadAt 3 t3)
        refine J.gopT rfl ?_
        refine J.callT en26 (s26) rfl (fun _ _ _ => trivial) Take.nil (fun v es ht20 => ?_)
        obtain ⟨ct20, rfl, rfl⟩ := ht20
        simp only [List.cons_append, List.nil_append] -- @t20 callS (.func (.func 26) #[] #[]) []
        refine J.chkR (R.ld o3 (by with_reducible repeat (first | exact Pick.here | apply Pick.there)) rfl) ?_ -- @chk:t21 vS (Instr.loadAt 3 t3)
        refine J.gopT rfl ?_
        refine J.ix sl54 (SeeS.cells (els := strs kindNames) (by with_reducible repeat (first | exact Pick.here | apply Pick.there)) rfl (by decide) (by intro i l hi j u hj; rcases i with _ | _ | _ | _ | _ | i <;> simp [strs, kindNames] at hi <;> subst hi <;> rcases j with _ | j <;> simp at hj <;> subst hj <;> rfl)) (by omega) (strs_get hnm) fun b o hkt22 => ?_ -- @t22 ix t20 t21
        refine J.gopT rfl ?_
        refine J.op (R.ldK0 o9 (hkt22)) ?_ -- @t23 vS (Instr.loadAt 9 t22)
        refine J.gopT rfl ?_
        refine J.opBF (R.neqS st9) (by simp) ?_ -- @t24
        refine J.op R.pickF ?_ -- @t25 pickS t17 (.bool true) t24
        exact J.done ⟨rfl, by simp [*], Imp.take (by (try dsimp only); repeat (first | exact Has.nil | refine Has.cons (by repeat (first | (with_reducible exact Out.here) | ((with_reducible refine Out.cells ?_); first | rfl | (simp; done)) | ((with_reducible refine Out.row ?_); first | rfl | (simp; done)) | (with_reducible apply Out.there))) ?_))⟩ -- @leaf[t25]
      · exact hbtv.elim
      · skip
        refine J.iteF ?_
        refine J.op (R.ld o3 (by with_reducible repeat (first | exact Pick.here | apply Pick.there)) rfl) ?_ -- @t26 vS (Instr.loadAt 3 t3)
        refine J.op (R.add64 (by omega)) ?_ -- @t27 binS .add 3 (.tmp 26) (.const (.int .i64 1)) t26 (.int .i64 1)
        refine J.st sz3 (by with_reducible repeat (first | exact Pick.here | apply Pick.there)) (by repeat (first | exact .zero | exact .nil | apply Upd.succ | apply UpdN.cons)) rfl ?_ -- @tu_3 uS (Instr.storeAt 3 t3 t27)
        refine J.op (R.ld o3 (by with_reducible repeat (first | exact Pick.here | apply Pick.there)) rfl) ?_ -- @t28 vS (Instr.loadAt 3 t3)
        refine J.op (R.ld o3 (by with_reducible repeat (first | exact Pick.here | apply Pick.there)) rfl) ?_ -- @t29 vS (Instr.loadAt 3 t1)
        refine J.opD R.eql (fun ht30 => ?_) (fun ht30 => ?_) -- @t30 binS .eql 3 (.tmp 28) (.tmp 29) t28 t29
        · skip
          refine J.iteT ?_
          -- @bexit0:ty
          rw [ht30]
          refine J.imp (Imp.take (es := Ent.obj lo (lp Lo .busy none) :: [Ent.cells bt3 [.int .i64 stop] 3, Ent.cells bt2 [.bool false] 4, Ent.cells bt1 [.int .i64 stop] 3]) (by (try dsimp only); repeat (first | exact Has.nil | refine Has.cons (by repeat (first | (with_reducible exact Out.here) | ((with_reducible refine Out.cells ?_); first | rfl | (simp; done)) | ((with_reducible refine Out.row ?_); first | rfl | (simp; done)) | (with_reducible apply Out.there))) ?_))) ?_
          exact J.done ⟨fun h => absurd h (by decide), fun _ => ⟨_, .cons .here .nil, ⟨rfl, by omega, by omega, rfl⟩⟩⟩
        · skip
          refine J.iteF ?_
          refine J.done ?_ -- then tv_1 = []
          -- @next:ty
          refine J.imp (Imp.take (es := Ent.obj lo (lp Lo .busy none) :: [Ent.cells bt3 [.int .i64 ((k + 1 : Nat) : Int)] 3, Ent.cells bt2 [.bool false] 4, Ent.cells bt1 [.int .i64 stop] 3]) (by (try dsimp only); repeat (first | exact Has.nil | refine Has.cons (by repeat (first | (with_reducible exact Out.here) | ((with_reducible refine Out.cells ?_); first | rfl | (simp; done)) | ((with_reducible refine Out.row ?_); first | rfl | (simp; done)) | (with_reducible apply Out.there))) ?_))) ?_
          exact J.done ⟨_, .cons .here .nil, ⟨by omega, rfl, fun j h1 h2 => by by_cases hj : j ≤ k; exact hall j h1 hj; omega⟩⟩
    · skip
      rintro H2 ⟨_, rfl, hall⟩
      -- @join[]
      exact J.done ⟨rfl, 5, rfl, .inl ⟨rfl, fun j h1 h2 => hall j h1 h2⟩⟩
    · skip
      rintro x H2 hx ⟨rfl, h1, h2, rfl⟩
      · skip
        refine J.done ⟨fun _ => ?_, fun h => absurd rfl h⟩ -- exit []
        -- @join[]#2
        exact ⟨rfl, stop, rfl, .inr ⟨rfl, h1, h2⟩⟩
  · rintro vs H1 ⟨rfl, m, rfl, hm⟩
    simp only [List.cons_append, List.nil_append]
    try simp only [List.headD_cons, List.tail_cons]
    refine J.bindB (0 < stop ∧ stop < 5) ?_ (fun hbtv_3 => ?_) (fun hbtv_3 => ?_) -- @tv_3
    · skip
      refine J.op (R.ld o3 (by with_reducible repeat (first | exact Pick.here | apply Pick.there)) rfl) ?_ -- @t31 vS (Instr.loadAt 3 t1)
      refine J.opD R.gtr (fun ht32 => ?_) (fun ht32 => ?_) -- @t32 binS .gtr 3 (.tmp 31) (.const (.int .i64 0)) t31 (.int .i64 0)
      · skip
        refine J.gopT rfl ?_
        refine J.op (R.ld o3 (by with_reducible repeat (first | exact Pick.here | apply Pick.there)) rfl) ?_ -- @t34 vS (Instr.loadAt 3 t1)
        refine J.gopT rfl ?_
        refine J.op R.lss ?_ -- @t35 binS .lss 3 (.tmp 34) (.const (.int .i64 5)) t34 (.int .i64 5)
        refine J.op R.pickT ?_ -- @t36 pickS t32 t35 (.bool false)
        exact J.done ⟨rfl, by simp [*], rfl⟩ -- @leaf[t36]
      · skip
        refine J.gopF rfl ?_
        refine J.gopF rfl ?_
        refine J.op R.pickF ?_ -- @t36 pickS t32 t35 (.bool false)
        exact J.done ⟨rfl, by simp [*], rfl⟩ -- @leaf[t36]
    · skip
      refine J.iteT ?_
      refine J.op (R.ld o3 (by with_reducible repeat (first | exact Pick.here | apply Pick.there)) rfl) ?_ -- @t37 vS (Instr.loadAt 3 t3)
      refine J.op (R.ld o3 (by with_reducible repeat (first | exact Pick.here | apply Pick.there)) rfl) ?_ -- @t38 vS (Instr.loadAt 3 t1)
      refine J.opDT R.eql (by rcases hm with ⟨rfl, hm⟩ | ⟨rfl, hm⟩; exact absurd rfl (hm stop hbtv_3.1 (by omega)); rfl) ?_ -- @t39
      refine J.st sz4 (by with_reducible repeat (first | exact Pick.here | apply Pick.there)) (by repeat (first | exact .zero | exact .nil | apply Upd.succ | apply UpdN.cons)) rfl ?_ -- @tu_4 uS (Instr.storeAt 4 t2 t39)
      -- @ret[t2]
      exact J.done (RetQ.ge (.cell1 o4 (by with_reducible repeat (first | exact Pick.here | apply Pick.there)) rfl (.nil)) (by first | rfl | (simp [*]; done) | (simp_all []; done) | skip))
    · skip
      refine J.iteF ?_
      refine J.op (R.ld o3 (by with_reducible repeat (first | exact Pick.here | apply Pick.there)) rfl) ?_ -- @t40 vS (Instr.loadAt 3 t3)
      refine J.opDT R.eql (by rcases hm with ⟨rfl, hm⟩ | ⟨rfl, hm⟩; rfl; omega) ?_ -- @t41
      refine J.st sz4 (by with_reducible repeat (first | exact Pick.here | apply Pick.there)) (by repeat (first | exact .zero | exact .nil | apply Upd.succ | apply UpdN.cons)) rfl ?_ -- @tu_5 uS (Instr.storeAt 4 t2 t41)
      -- @ret[t2]
      exact J.done (RetQ.ge (.cell1 o4 (by with_reducible repeat (first | exact Pick.here | apply Pick.there)) rfl (.nil)) (by first | rfl | (simp [*]; done) | (simp_all []; done) | skip))
end Go.Proofs.Ytllchkmggfcdgaa
