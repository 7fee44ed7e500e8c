/-
  What a Prog achieves does not hang on the marks, where its ends do not tell of them.
-/
import Derived.Test.YtipgdalebkhgpaaFw17
set_option linter.unusedVariables false
namespace Go.Proofs.Ytipgdalebkhgpaa.Fw
open Go Go.RowKit

theorem opW_mono {P : Program} {q : Bool} {s : Sem Next} {R R2 : Value → World → Prop} {w : World} (hR : ∀ v w, R v w → R2 v w) (h : opW P q s R w) : opW P q s R2 w := by
  cases q with
  | true => obtain ⟨v, hv, h⟩ := h; exact ⟨v, hv, hR _ _ h⟩
  | false =>
    revert h
    show opU _ _ _ → opU _ _ _
    generalize s.run P w = res
    intro h
    unfold opU at h ⊢
    split at h
    · exact hR _ _ h
    · exact hR _ _ h
    · exact Calls.mono h fun e w' ⟨v, hv, hr⟩ => ⟨v, hv, hR _ _ hr⟩
    · exact RoundIn.mono h fun e w' ⟨v, hv, hr⟩ => ⟨v, hv, hR _ _ hr⟩
    · exact h.elim

theorem Prog.wp_Ds {P : Program} : ∀ (p : Prog) (r : Option Nat) (Ds Ds2 : List Nat) (Q1 Q2 : List Nat → Ex → List Value → World → Prop) (w : World), (∀ Ds Ds2 x vs w, Q1 Ds x vs w → Q2 Ds2 x vs w) → p.wp P r Ds Q1 w → p.wp P r Ds2 Q2 w := by
  intro p
  induction p with
  | done x vs => exact fun r Ds Ds2 Q1 Q2 w hq h => hq _ _ _ _ _ h
  | op q s k ih => exact fun r Ds Ds2 Q1 Q2 w hq h => opW_mono (fun v w h => ih v r Ds Ds2 Q1 Q2 w hq h) h
  | gop g want q s k ih => exact fun r Ds Ds2 Q1 Q2 w hq h => ⟨fun hg => opW_mono (fun v w h => ih v r Ds Ds2 Q1 Q2 w hq h) (h.1 hg), fun hg => ih _ r Ds Ds2 Q1 Q2 w hq (h.2 hg)⟩
  | chk g s v p ih => exact fun r Ds Ds2 Q1 Q2 w hq h => ⟨h.1, ih r Ds Ds2 Q1 Q2 w hq h.2⟩
  | ite c t e iht ihe =>
    intro r Ds Ds2 Q1 Q2 w hq h
    obtain ⟨b, hb, h1, h2⟩ := h
    exact ⟨b, hb, fun hh => iht r Ds Ds2 Q1 Q2 w hq (h1 hh), fun hh => ihe r Ds Ds2 Q1 Q2 w hq (h2 hh)⟩
  | bind p k ihp ihk =>
    intro r Ds Ds2 Q1 Q2 w hq h
    refine ihp r Ds Ds2 _ _ w (fun Ds' Ds2' x vs w' hh => ?_) h
    cases x <;> first | exact ihk vs r Ds' Ds2' Q1 Q2 w' hq hh | exact hq _ _ _ _ _ hh
  | block id p ih =>
    intro r Ds Ds2 Q1 Q2 w hq h
    refine ih r Ds Ds2 _ _ w (fun Ds' Ds2' x vs w' hh => ?_) h
    cases x with
    | exit id' => exact ⟨fun e => hq _ _ _ _ _ (hh.1 e), fun e => hq _ _ _ _ _ (hh.2 e)⟩
    | normal => exact hq _ _ _ _ _ hh
    | ret => exact hq _ _ _ _ _ hh
  | loop vs body ih =>
    intro r Ds Ds2 Q1 Q2 w hq h
    obtain ⟨I, ⟨n, h0⟩, hI⟩ := h
    refine ⟨fun n _ vs w => ∃ Ds, I n Ds vs w, ⟨n, Ds, h0⟩, ?_⟩
    rintro n Ds3 vs w ⟨Ds4, hn⟩
    refine ih vs r Ds4 Ds3 _ _ w (fun Ds' Ds2' x vs' w' hh => ?_) (hI n Ds4 vs w hn)
    cases x with
    | normal => obtain ⟨m, hm, hh⟩ := hh; exact ⟨m, hm, Ds', hh⟩
    | exit id => exact hq _ _ _ _ _ hh
    | ret => exact hq _ _ _ _ _ hh
  | rangeF f n body k ihb ihk =>
    intro r Ds Ds2 Q1 Q2 w hq h
    obtain ⟨gf, lb, h1, h2, h3, h4⟩ := h
    refine ⟨gf, lb, h1, h2, h3, fun l D w1 L e1 e2 e3 e4 e5 e6 => Calls.mono (h4 l D w1 L e1 e2 e3 e4 e5 ?_) ?_⟩
    · intro vs w R hl hw hb
      refine e6 vs w R hl hw (ihb vs (some l) Ds Ds2 _ _ w (fun Ds' Ds2' x vs' w' hh => hh) hb)
    · rintro e w3 ⟨v, rfl, hh⟩
      refine ⟨v, rfl, ?_⟩
      rcases hh with ⟨g1, g2⟩ | ⟨x, g0, g1, g2⟩
      · exact .inl ⟨g1, ihk _ r _ _ Q1 Q2 _ hq g2⟩
      · exact .inr ⟨x, g0, g1, ihk _ r _ _ Q1 Q2 _ hq g2⟩
  | begin p ih => exact fun r Ds Ds2 Q1 Q2 w hq ⟨l, L, h1, h2, h3⟩ => ⟨l, L, h1, h2, ih r Ds Ds2 Q1 Q2 _ hq h3⟩
  | draw p ih => exact fun r Ds Ds2 Q1 Q2 w hq h d => ih r Ds Ds2 Q1 Q2 _ hq (h d)
  | alt p q ihp ihq => exact fun r Ds Ds2 Q1 Q2 w hq h => ⟨ihp r Ds Ds2 Q1 Q2 w hq h.1, ihq r Ds Ds2 Q1 Q2 w hq h.2⟩
  | fail => exact fun r Ds Ds2 Q1 Q2 w hq h => h
end Go.Proofs.Ytipgdalebkhgpaa.Fw
