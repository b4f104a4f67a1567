/- Askers beside what is new, and beside files that are written. -/
import Derived.Test.YtpacolplhcfamaaPY16f
namespace Go.G
open Go.Ab Go.Proofs Go.RowKit
set_option linter.unusedVariables false
set_option linter.unusedSimpArgs false
set_option maxRecDepth 100000

theorem RdrR.chF {M0 M M' : Store} {br : Nat} {mv : Value} {st : RSt} {O S : List Nat} (h : RdrR M0 M br mv st O) (k : Ch S M M') (ha : ∀ e, e ≠ Ty.simf_FS → Away e M S) : RdrR M0 M' br mv st O := by
  obtain ⟨h1, h2, nm, vv, tt, h3, h4, h5⟩ := h
  refine ⟨h1, h2, nm, vv, tt, Ob.away h3 (ha _ (by decide)) k, ⟨Sl.chS h4.nm k (ha _ (by decide)), ?_, Nw.away h4.tt (ha _ (by decide)) k⟩, h5⟩
  obtain ⟨vs, g1, g2⟩ := h4.vv
  exact ⟨vs, Nw.away g1 (ha _ (by decide)) k, g2.mono fun v x hx => Sl.chS hx k (ha _ (by decide))⟩
section
variable {M0 M M' : Store} {ba br : Nat} {outs prints values : List (List UInt8)} {acts : List (List Dw)} {over : Bool} {told : Nat} {mv : Value} {st : RSt} {O : List Nat} {old : List Bool}
theorem AskA.up (h : AskA M0 M ba outs acts over told br mv st O) (k : Up M M') : AskA M0 M' ba outs acts over told br mv st O := by
  obtain ⟨h1, ⟨ou, i_, o_, ac, ph, o, h2, h3⟩, h4⟩ := h
  exact ⟨h1, ⟨ou, i_, o_, ac, ph, o.up k, h2.up k, Ls.up DS_upN h3 k⟩, h4.up k⟩
theorem AskA.chF {S : List Nat} (h : AskA M0 M ba outs acts over told br mv st O) (k : Ch S M M') (ha : ∀ e, e ≠ Ty.simf_FS → Away e M S) : AskA M0 M' ba outs acts over told br mv st O := by
  obtain ⟨h1, ⟨ou, i_, o_, ac, ph, o, h2, vs, g1, g2⟩, h4⟩ := h
  exact ⟨h1, ⟨ou, i_, o_, ac, ph, Ob.away o (ha _ (by decide)) k, Sl.chS h2 k (ha _ (by decide)), vs, Sl.chS g1 k (ha _ (by decide)), g2.mono fun v x hx => Sl.chS hx k (ha _ (by decide))⟩, h4.chF k ha⟩
theorem AskB.up (h : AskB M0 M ba outs prints values old over told) (k : Up M M') : AskB M0 M' ba outs prints values old over told := by
  obtain ⟨h1, ou, i_, o_, ac, ph, sp, pr, va, ol, o, h2, h3, h4, h5, h6⟩ := h
  exact ⟨h1, ou, i_, o_, ac, ph, sp, pr, va, ol, o.up k, h2.up k, Ls.up By.up' h3 k, Ls.up By.up' h4 k, Nw.up h5 k, h6⟩
theorem AskB.chF {S : List Nat} (h : AskB M0 M ba outs prints values old over told) (k : Ch S M M') (ha : ∀ e, e ≠ Ty.simf_FS → Away e M S) : AskB M0 M' ba outs prints values old over told := by
  obtain ⟨h1, ou, i_, o_, ac, ph, sp, pr, va, ol, o, h2, ⟨vs, g1, g2⟩, ⟨ws, g3, g4⟩, h5, h6⟩ := h
  exact ⟨h1, ou, i_, o_, ac, ph, sp, pr, va, ol, Ob.away o (ha _ (by decide)) k, Sl.chS h2 k (ha _ (by decide)), ⟨vs, Sl.chS g1 k (ha _ (by decide)), g2.mono fun v x hx => Sl.chS hx k (ha _ (by decide))⟩, ⟨ws, Sl.chS g3 k (ha _ (by decide)), g4.mono fun v x hx => Sl.chS hx k (ha _ (by decide))⟩, Nw.away h5 (ha _ (by decide)) k, h6⟩
end
end Go.G
