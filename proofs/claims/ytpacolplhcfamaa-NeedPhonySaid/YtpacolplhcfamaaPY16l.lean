/- NeedLater: what was asked was so at one moment. -/
import Derived.Test.YtpacolplhcfamaaPY16f
import Derived.Test.YtpacolplhcfamaaPGGl
namespace Go.G
open Go.Ab Go.Proofs Go.RowKit
set_option linter.unusedVariables false
set_option linter.unusedSimpArgs false
set_option maxRecDepth 100000

theorem RdrR.chF {M0 M M' : Store} {br : Nat} {mv : Value} {st : RSt} {O S : List Nat} (h : RdrR M0 M br mv st O) (k : Ch S M M') (ha : ∀ e, e ≠ Ty.simf_FS → Away e M S) : RdrR M0 M' br mv st O := by
  obtain ⟨h1, h2, nm, vv, tt, h3, h4, h5⟩ := h
  refine ⟨h1, h2, nm, vv, tt, Ob.away h3 (ha _ (by decide)) k, ⟨Sl.chS h4.nm k (ha _ (by decide)), ?_, Nw.away h4.tt (ha _ (by decide)) k⟩, h5⟩
  obtain ⟨vs, g1, g2⟩ := h4.vv
  exact ⟨vs, Nw.away g1 (ha _ (by decide)) k, g2.mono fun v x hx => Sl.chS hx k (ha _ (by decide))⟩
section
variable {M0 M M' : Store} {ba br : Nat} {outs prints values : List (List UInt8)} {acts : List (List Dw)} {over : Bool} {told : Nat} {mv : Value} {st : RSt} {O : List Nat} {old : List Bool}
theorem AskA.up (h : AskA M0 M ba outs acts over told br mv st O) (k : Up M M') : AskA M0 M' ba outs acts over told br mv st O := by
  obtain ⟨h1, ⟨ou, i_, o_, ac, ph, o, h2, h3⟩, h4⟩ := h
  exact ⟨h1, ⟨ou, i_, o_, ac, ph, o.up k, h2.up k, Ls.up DS_upN h3 k⟩, h4.up k⟩
theorem AskA.chF {S : List Nat} (h : AskA M0 M ba outs acts over told br mv st O) (k : Ch S M M') (ha : ∀ e, e ≠ Ty.simf_FS → Away e M S) : AskA M0 M' ba outs acts over told br mv st O := by
  obtain ⟨h1, ⟨ou, i_, o_, ac, ph, o, h2, vs, g1, g2⟩, h4⟩ := h
  exact ⟨h1, ⟨ou, i_, o_, ac, ph, Ob.away o (ha _ (by decide)) k, Sl.chS h2 k (ha _ (by decide)), vs, Sl.chS g1 k (ha _ (by decide)), g2.mono fun v x hx => Sl.chS hx k (ha _ (by decide))⟩, h4.chF k ha⟩
theorem AskB.up (h : AskB M0 M ba outs prints values old over told) (k : Up M M') : AskB M0 M' ba outs prints values old over told := by
  obtain ⟨h1, ou, i_, o_, ac, ph, sp, pr, va, ol, o, h2, h3, h4, h5, h6⟩ := h
  exact ⟨h1, ou, i_, o_, ac, ph, sp, pr, va, ol, o.up k, h2.up k, Ls.up By.up' h3 k, Ls.up By.up' h4 k, Nw.up h5 k, h6⟩
theorem AskB.chF {S : List Nat} (h : AskB M0 M ba outs prints values old over told) (k : Ch S M M') (ha : ∀ e, e ≠ Ty.simf_FS → Away e M S) : AskB M0 M' ba outs prints values old over told := by
  obtain ⟨h1, ou, i_, o_, ac, ph, sp, pr, va, ol, o, h2, ⟨vs, g1, g2⟩, ⟨ws, g3, g4⟩, h5, h6⟩ := h
  exact ⟨h1, ou, i_, o_, ac, ph, sp, pr, va, ol, Ob.away o (ha _ (by decide)) k, Sl.chS h2 k (ha _ (by decide)), ⟨vs, Sl.chS g1 k (ha _ (by decide)), g2.mono fun v x hx => Sl.chS hx k (ha _ (by decide))⟩, ⟨ws, Sl.chS g3 k (ha _ (by decide)), g4.mono fun v x hx => Sl.chS hx k (ha _ (by decide))⟩, Nw.away h5 (ha _ (by decide)) k, h6⟩
end
def stmQ (fl : Fl) (s : List UInt8) : Nat := ((fl s).map (·.2)).getD 0
/-- Where an asker stands; so many steps are enough. -/
def PhL (M0 M : Store) (ba : Nat) (fl : Fl) (last : Nat) (a b : List UInt8) (f : Nat) : Prop :=
  (4 ≤ f ∧ ∃ br O, AskA M0 M ba ruO ruA false 0 br mvN (RSt.new ruI) O) ∨
  (∃ c z, (c = a ∨ c = b) ∧ z ≤ last ∧ ((stmQ fl [115] = z ∧ 3 ≤ f) ∨ (stmQ fl [115] ≠ z ∧ 5 ≤ f)) ∧ ∃ br O, AskA M0 M ba ruO ruA false 0 br mvN ⟨ruI, true, 0, [c], [z], false, 0⟩ O) ∨
  (2 ≤ f ∧ ∃ c, (c = a ∨ c = b) ∧ AskB M0 M ba ruO (prtA ruA [c] 2) [c] [] false 0) ∨
  (1 ≤ f ∧ ∃ c, (c = a ∨ c = b) ∧ AskB M0 M ba ruO (prtA ruA [c] 2) [c] [true] false 0)
/-- The files: one alone. -/
def OnlyS (fl : Fl) (last : Nat) (a b : List UInt8) : Prop := fl [97] = none ∧ fl [98] = none ∧ ∃ c z, (c = a ∨ c = b) ∧ z ≤ last ∧ fl [115] = some (c, z)
theorem name_sab : ∀ s ∈ ruO, nameOk s := fun s hs => by
  simp at hs
  rcases hs with rfl | rfl
  · exact name_a
  · exact name_b
section
variable {M0 : Store} {bf r U last ba : Nat} {fl : Fl} {a b : List UInt8} {Q : Value → Store → Prop}
theorem later_step (ha : a.length ≤ 200) (hb : b.length ≤ 200) {M : Store} {f : Nat} (hu : Up M0 M) (hf : FSR M0 M bf r 1048576 U last fl) (ho : OnlyS fl last a b) (h : PhL M0 M ba fl last a b (f + 1))
    (hQ : ∀ k M', Up M0 M' → FSR M0 M' bf r 1048576 U last fl → KeepsL M M' → ((k = 0 ∧ PhL M0 M' ba fl last a b f) ∨ (k = 2 ∧ ∃ c, (c = a ∨ c = b) ∧ AskB M0 M' ba ruO (prtA ruA [c] 2) [c] [true, true] true 2)) → Q (nv k) M') : R F.need_Ask_Step #[pB ba, pB bf] M Q := by
  obtain ⟨ho1, ho2, c0, z0, hc0, hz0, hs0⟩ := ho
  have hcl : c0.length ≤ 200 := by rcases hc0 with rfl | rfl <;> assumption
  have mS : madeQ [115] = false := by decide
  have hal : ∀ l ∈ ruA, l.length ≤ 2 ^ 10 ∧ ∀ d ∈ l, d.2.2.length ≤ 2 ^ 10 := by decide
  rcases h with ⟨hf4, br, O, hA⟩ | ⟨c, z, hc, hz, hd, br, O, hA⟩ | ⟨hf2, c, hc, hB⟩ | ⟨hf1, c, hc, hB⟩
  · have es : stepS fl madeQ (RSt.new ruI) = (⟨ruI, true, 0, [c0], [z0], false, 0⟩, 0) := by
      simp [stepS, RSt.new, readS, hs0, valS, mS, RSt.more, show ¬ 256 < c0.length by omega]
    refine (AStepA_ok (p := madeQ) (by decide) hu hf hA rfl (by decide) (madeN_ok _) (fun s hs => by simp [RSt.new] at hs; subst hs; exact name_s) (by decide) hal (fun x hx => by rw [es] at hx; simp at hx; subst hx; omega)).mono fun v M' ⟨g1, g2, g3, g4⟩ => ?_
    rw [es] at g4
    rcases g4 with ⟨_, e, O', hA'⟩ | ⟨e, _⟩ | ⟨e, _⟩ | ⟨e, _⟩
    · subst e
      exact hQ 0 M' g1 g2 g3 (.inl ⟨rfl, .inr (.inl ⟨c0, z0, hc0, hz0, .inl ⟨by unfold stmQ; rw [hs0]; rfl, by omega⟩, br, O', hA'⟩)⟩)
    · cases e
    · cases e
    · cases e
  · rcases hd with ⟨hd, hf3⟩ | ⟨hd, hf5⟩
    · have es : stepS fl madeQ ⟨ruI, true, 0, [c], [z], false, 0⟩ = (⟨ruI, true, 1, [c], [z], true, 1⟩, 1) := by
        unfold stmQ at hd
        simp [stepS, lookS, hd, RSt.end]
      have hcl' : c.length ≤ 200 := by rcases hc with rfl | rfl <;> assumption
      refine (AStepA_ok (p := madeQ) (by decide) hu hf hA rfl (by simp) (madeN_ok _) (fun s hs => by simp at hs; subst hs; exact name_s) (by decide) hal (fun x hx => by rw [es] at hx; simp at hx; subst hx; omega)).mono fun v M' ⟨g1, g2, g3, g4⟩ => ?_
      rw [es] at g4
      rcases g4 with ⟨e, _⟩ | ⟨e, _⟩ | ⟨e, _⟩ | ⟨_, e, hB'⟩
      · cases e
      · cases e
      · cases e
      · subst e
        have e0 : settleN ruO [] = 0 := by decide
        rw [e0] at hB' ⊢
        exact hQ 0 M' g1 g2 g3 (.inl ⟨rfl, .inr (.inr (.inl ⟨by omega, c, hc, hB'⟩))⟩)
    · have es : stepS fl madeQ ⟨ruI, true, 0, [c], [z], false, 0⟩ = (RSt.new ruI, 0) := by
        unfold stmQ at hd
        simp [stepS, lookS, hd, RSt.begin, RSt.new]
      refine (AStepA_ok (p := madeQ) (by decide) hu hf hA rfl (by simp) (madeN_ok _) (fun s hs => by simp at hs; subst hs; exact name_s) (by decide) hal (fun x hx => by rw [es] at hx; simp [RSt.new] at hx)).mono fun v M' ⟨g1, g2, g3, g4⟩ => ?_
      rw [es] at g4
      rcases g4 with ⟨_, e, O', hA'⟩ | ⟨e, _⟩ | ⟨e, _⟩ | ⟨e, _⟩
      · subst e
        exact hQ 0 M' g1 g2 g3 (.inl ⟨rfl, .inl ⟨by omega, br, O', hA'⟩⟩)
      · cases e
      · cases e
      · cases e
  · refine (AStepB_ok hu hf hB (by decide) rfl (by decide) name_sab).mono fun v M' ⟨g1, g2, g3, e, hB'⟩ => ?_
    subst e
    have eo : oldF fl (ruO.getD ([] : List Bool).length []) ((prtA ruA [c] 2).getD ([] : List Bool).length []) = true := by
      show oldF fl [97] _ = true
      unfold oldF; rw [ho1]
    rw [eo] at hB' ⊢
    have e0 : settleN ruO ([] ++ [true]) = 0 := by decide
    rw [e0] at hB' ⊢
    exact hQ 0 M' g1 g2 g3 (.inl ⟨rfl, .inr (.inr (.inr ⟨by omega, c, hc, hB'⟩))⟩)
  · refine (AStepB_ok hu hf hB (by decide) rfl (by decide) name_sab).mono fun v M' ⟨g1, g2, g3, e, hB'⟩ => ?_
    subst e
    have eo : oldF fl (ruO.getD [true].length []) ((prtA ruA [c] 2).getD [true].length []) = true := by
      show oldF fl [98] _ = true
      unfold oldF; rw [ho2]
    rw [eo] at hB' ⊢
    have e0 : settleN ruO ([true] ++ [true]) = 2 := by decide
    rw [e0] at hB' ⊢
    exact hQ 2 M' g1 g2 g3 (.inr ⟨rfl, c, hc, hB'⟩)
theorem PhL.put {M M1 M' : Store} {f : Nat} (h : PhL M0 M ba fl last a b f) (hu : Up M M1) (c : Ch [bf, r] M1 M') (ha : ∀ e, e ≠ Ty.simf_FS → Away e M1 [bf, r]) : PhL M0 M' ba (putF fl [115] b (last + 1)) (last + 1) a b (f + 2) := by
  rcases h with ⟨hf4, br, O, hA⟩ | ⟨c', z, hc, hz, hd, br, O, hA⟩ | ⟨hf2, c', hc, hB⟩ | ⟨hf1, c', hc, hB⟩
  · exact .inl ⟨by omega, br, O, (hA.up hu).chF c ha⟩
  · refine .inr (.inl ⟨c', z, hc, by omega, .inr ⟨?_, by rcases hd with ⟨_, h⟩ | ⟨_, h⟩ <;> omega⟩, br, O, (hA.up hu).chF c ha⟩)
    have : stmQ (putF fl [115] b (last + 1)) [115] = last + 1 := by unfold stmQ putF; rw [if_pos rfl]; rfl
    rw [this]; omega
  · exact .inr (.inr (.inl ⟨by omega, c', hc, (hB.up hu).chF c ha⟩))
  · exact .inr (.inr (.inr ⟨by omega, c', hc, (hB.up hu).chF c ha⟩))
theorem OnlyS.put (h : OnlyS fl last a b) : OnlyS (putF fl [115] b (last + 1)) (last + 1) a b := by
  obtain ⟨h1, h2, _⟩ := h
  refine ⟨?_, ?_, b, last + 1, .inr rfl, Nat.le_refl _, ?_⟩
  · unfold putF; rw [if_neg (by decide)]; exact h1
  · unfold putF; rw [if_neg (by decide)]; exact h2
  · unfold putF; rw [if_pos rfl]
end
end Go.G
