/- Layer 16: an asker of the statements' rule is asked to its end. -/
import Derived.Test.YtpacolplhcfamaaPY16h
namespace Go.G
open Go.Ab Go.Proofs Go.RowKit
set_option linter.unusedVariables false
set_option linter.unusedSimpArgs false
set_option maxRecDepth 100000

/-- An asker at its end tells what it told. -/
theorem AStepE_ok {M : Store} {ba k : Nat} {f : Value} (h : AskE M ba k) : R F.need_Ask_Step #[pB ba, f] M fun v M' => M' = M ∧ v = nv k := by
  refine R.cps fun Q hQ => ?_
  obtain ⟨c0, c1, c2, c3, c4, c5, c6, c7, c8, c9, o⟩ := h
  apply T_need_Ask_Step
  unfold S_need_Ask_Step
  simp only [nilc_p, fad0, (rd12 o).2.2.2.2.2.2.2.1, (rd12 o).2.2.2.2.2.2.2.2]
  rw [BR_bool, if_pos rfl]
  exact ⟨rfl, hQ _ _ ⟨rfl, rfl⟩⟩
theorem AskB.e {M0 M : Store} {ba : Nat} {outs prints values : List (List UInt8)} {old : List Bool} {told : Nat} (h : AskB M0 M ba outs prints values old true told) : AskE M ba told := by
  obtain ⟨_, ou, i_, o_, ac, ph, sp, pr, va, ol, o, _⟩ := h
  exact ⟨_, _, _, _, _, _, _, _, _, _, o⟩
theorem AskE.up {M M' : Store} {ba k : Nat} (h : AskE M ba k) (u : Up M M') : AskE M' ba k := by
  obtain ⟨c0, c1, c2, c3, c4, c5, c6, c7, c8, c9, o⟩ := h
  exact ⟨_, _, _, _, _, _, _, _, _, _, o.up u⟩
theorem name_sabA : ∀ s ∈ ruO, nameOk s := fun s hs => by
  simp at hs
  rcases hs with rfl | rfl
  · exact name_a
  · exact name_b
section
variable {Mf M0 : Store} {bf r U last ba : Nat} {fl : Fl} {inn : List UInt8} {Q : Value → Store → Prop}
/-- What asking comes to. -/
def AskT (Mf M0 M : Store) (bf r U last ba : Nat) (fl : Fl) (k : Nat) (M' : Store) : Prop :=
  Up M0 M' ∧ FSR Mf M' bf r 1048576 U last fl ∧ KeepsL M M' ∧
  match fl [115] with
  | none => k = 3 ∧ AskE M' ba 3
  | some q => if 256 < q.1.length then k = 4 ∧ AskE M' ba 4
    else ∃ a b, a = oldF fl [97] (printF [dAll] [q.1]) ∧ b = oldF fl [98] (printF [dAll, dUp] [q.1]) ∧ k = (if (a || b) = true then 2 else 1) ∧ AskB M0 M' ba ruO (prtA ruA [q.1] 2) [q.1] [a, b] true (if (a || b) = true then 2 else 1)
theorem ask_more {x0 : Value} (i : Nat) (hi : i < 100) {M : Store} (h : R F.need_Ask_Step #[pB ba, x0] M fun v M1 => P_fettlelaw16_ask_1 x0 (pB ba) v (nv (i + 1)) M1 Q) : P_fettlelaw16_ask_1 x0 (pB ba) (nv 0) (nv i) M Q := by
  apply T_fettlelaw16_ask_1
  unfold S_fettlelaw16_ask_1
  rw [lss_l 100 100 rfl, BR_dec, if_pos hi, eql_l 0 0 rfl, BR_dec, if_pos rfl]
  refine h.mono fun v M1 h1 => ?_
  rw [add1_n _ (by omega)]
  exact h1
theorem ask_over {x0 : Value} (i k : Nat) (hk : k ≠ 0) {M : Store} (h : P_fettlelaw16_ask_2 (pB ba) (nv k) M Q) : P_fettlelaw16_ask_1 x0 (pB ba) (nv k) (nv i) M Q := by
  apply T_fettlelaw16_ask_1
  unfold S_fettlelaw16_ask_1
  rw [lss_l 100 100 rfl, BR_dec]
  split
  · rw [eql_l 0 0 rfl, BR_dec, if_neg hk]; exact h
  · exact h
theorem ask_lists {M : Store} {prints values : List (List UInt8)} {old : List Bool} {k : Nat} (hB : AskB M0 M ba ruO prints values old true k) (hk : k = 1 ∨ k = 2) (hp : prints.length = 2) (hpz : ∀ x ∈ prints, x.length ≤ 2 ^ 20) (ho : old.length = 2) (hQ : ∀ M', Up M M' → Q (nv k) M') : P_fettlelaw16_ask_2 (pB ba) (nv k) M Q := by
  have main : R F.need_Ask_Prints #[pB ba] M fun t26 M1 => OP (lenV t26) fun t27 => OP (binI .neq t27 (.int .i64 2)) fun t28 => BR3 t28 (NTs [(.int .i64 (-1))] ∧ Q (.int .i64 (-1)) M1) (R F.need_Ask_Old #[pB ba] M1 fun t31 M2 => OP (lenV t31) fun t32 => OP (binI .neq t32 (.int .i64 2)) fun t33 => BR t33 (NTs [(.int .i64 (-1))] ∧ Q (.int .i64 (-1)) M2) (NTs [nv k] ∧ Q (nv k) M2)) (BR t28 (NTs [(.int .i64 (-1))] ∧ Q (.int .i64 (-1)) M1) (BR undef (NTs [(.int .i64 (-1))] ∧ Q (.int .i64 (-1)) M1) (NTs [nv k] ∧ Q (nv k) M1))) := by
    refine (Prints_ok hB hk (by omega) hpz).mono fun v1 M1 ⟨u1, hN1⟩ => ?_
    rw [hN1.ls.lenV, OP_some, neq_l (a := prints.length) 2 2 rfl, BR3_dec, if_neg (fun h => h hp)]
    refine (Old_ok (hB.up u1) hk (by omega)).mono fun v2 M2 ⟨u2, hN2⟩ => ?_
    rw [(NV.lv hN2).len, OP_some, neq_l (a := old.length) 2 2 rfl, BR_dec, if_neg (fun h => h ho)]
    exact ⟨rfl, hQ _ (u1.trans u2)⟩
  apply T_fettlelaw16_ask_2
  unfold S_fettlelaw16_ask_2
  rw [eql_l 2 2 rfl, BR_dec]
  rcases hk with rfl | rfl
  · rw [if_neg (by decide), eql_l 1 1 rfl, BR_dec, if_pos rfl]; exact main
  · rw [if_pos rfl]; exact main
theorem ask_none {M : Store} {k : Nat} (h1 : k ≠ 1) (h2 : k ≠ 2) (hQ : Q (nv k) M) : P_fettlelaw16_ask_2 (pB ba) (nv k) M Q := by
  apply T_fettlelaw16_ask_2
  unfold S_fettlelaw16_ask_2
  rw [eql_l 2 2 rfl, BR_dec, if_neg h2, eql_l 1 1 rfl, BR_dec, if_neg h1]
  exact ⟨rfl, hQ⟩
theorem prA_len {c : List UInt8} (hc : c.length ≤ 256) : ∀ x ∈ prtA ruA [c] 2, x.length ≤ 2 ^ 20 := fun x hx => by
  have h1 : (actB [dAll]).length = 24 := by kernel_rfl
  have h2 : (actB [dAll, dUp]).length = 42 := by kernel_rfl
  have : x = printF [dAll] [c] ∨ x = printF [dAll, dUp] [c] := by
    have hx : x ∈ [printF [dAll] [c], printF [dAll, dUp] [c]] := hx
    simpa using hx
  rcases this with rfl | rfl
  · unfold printF
    simp only [List.length_append, be_length, h1]
    simp [insB, be_length]; omega
  · unfold printF
    simp only [List.length_append, be_length, h2]
    simp [insB, be_length]; omega
theorem ask_ok {M : Store} {br : Nat} {O : List Nat} (hu : Up M0 M) (hf : FSR Mf M bf r 1048576 U last fl) (hA : AskA M0 M ba ruO ruA false 0 br mvN (RSt.new ruI) O) (hin : ∀ q, fl [115] = some q → q.1.length ≤ 2 ^ 12) :
    R F.fettlelaw16_ask #[pB bf, pB ba] M fun v M' => ∃ k, v = nv k ∧ AskT Mf M0 M bf r U last ba fl k M' := by
  refine R.cps fun Q hQ => ?_
  apply T_fettlelaw16_ask
  unfold S_fettlelaw16_ask
  have mS : madeQ [115] = false := by decide
  have hal : ∀ l ∈ ruA, l.length ≤ 2 ^ 10 ∧ ∀ d ∈ l, d.2.2.length ≤ 2 ^ 10 := by decide
  refine ask_more 0 (by decide) ?_
  unfold AskT at hQ
  cases hfs : fl [115] with
  | none =>
    rw [hfs] at hQ
    have es : stepS fl madeQ (RSt.new ruI) = ((RSt.new ruI).end 2, 2) := by
      simp [stepS, RSt.new, readS, hfs]
    refine (AStepA_ok (p := madeQ) (by decide) hu hf hA rfl (by decide) (madeN_ok _) (fun s hs => by simp [RSt.new] at hs; subst hs; exact name_s) (by decide) hal (fun x hx => by rw [es] at hx; simp [RSt.new, RSt.end] at hx)).mono fun v M' ⟨g1, g2, g3, g4⟩ => ?_
    rw [es] at g4
    rcases g4 with ⟨e, _⟩ | ⟨_, e, hE⟩ | ⟨e, _⟩ | ⟨e, _⟩
    · cases e
    · subst e
      exact ask_over 1 3 (by decide) (ask_none (by decide) (by decide) (hQ _ _ ⟨3, rfl, g1, g2, g3, rfl, hE⟩))
    · cases e
    · cases e
  | some q =>
    rw [hfs] at hQ
    simp only at hQ
    by_cases hq : 256 < q.1.length
    · simp only [if_pos hq] at hQ
      have es : stepS fl madeQ (RSt.new ruI) = ((RSt.new ruI).end 3, 3) := by
        simp [stepS, RSt.new, readS, hfs, valS, mS, hq]
      refine (AStepA_ok (p := madeQ) (by decide) hu hf hA rfl (by decide) (madeN_ok _) (fun s hs => by simp [RSt.new] at hs; subst hs; exact name_s) (by decide) hal (fun x hx => by rw [es] at hx; simp [RSt.new, RSt.end] at hx)).mono fun v M' ⟨g1, g2, g3, g4⟩ => ?_
      rw [es] at g4
      rcases g4 with ⟨e, _⟩ | ⟨e, _⟩ | ⟨_, e, hE⟩ | ⟨e, _⟩
      · cases e
      · cases e
      · subst e
        exact ask_over 1 4 (by decide) (ask_none (by decide) (by decide) (hQ _ _ ⟨4, rfl, g1, g2, g3, rfl, hE⟩))
      · cases e
    · simp only [if_neg hq] at hQ
      have es : stepS fl madeQ (RSt.new ruI) = (⟨ruI, true, 0, [q.1], [q.2], false, 0⟩, 0) := by
        simp [stepS, RSt.new, readS, hfs, valS, mS, RSt.more, hq]
      refine (AStepA_ok (p := madeQ) (by decide) hu hf hA rfl (by decide) (madeN_ok _) (fun s hs => by simp [RSt.new] at hs; subst hs; exact name_s) (by decide) hal (fun x hx => by rw [es] at hx; simp at hx; subst hx; omega)).mono fun v M1 ⟨g1, g2, g3, g4⟩ => ?_
      rw [es] at g4
      rcases g4 with ⟨_, e, O', hA'⟩ | ⟨e, _⟩ | ⟨e, _⟩ | ⟨e, _⟩
      case inr.inl => cases e
      case inr.inr.inl => cases e
      case inr.inr.inr => cases e
      subst e
      refine ask_more 1 (by decide) ?_
      have es2 : stepS fl madeQ ⟨ruI, true, 0, [q.1], [q.2], false, 0⟩ = (⟨ruI, true, 1, [q.1], [q.2], true, 1⟩, 1) := by
        simp [stepS, lookS, hfs, RSt.end]
      refine (AStepA_ok (p := madeQ) (by decide) g1 g2 hA' rfl (by simp) (madeN_ok _) (fun s hs => by simp at hs; subst hs; exact name_s) (by decide) hal (fun x hx => by rw [es2] at hx; simp at hx; subst hx; omega)).mono fun v M2 ⟨k1, k2, k3, k4⟩ => ?_
      rw [es2] at k4
      rcases k4 with ⟨e, _⟩ | ⟨e, _⟩ | ⟨e, _⟩ | ⟨_, e, hB⟩
      · cases e
      · cases e
      · cases e
      subst e
      have e0 : settleN ruO [] = 0 := by decide
      rw [e0] at hB ⊢
      have hB : AskB M0 M2 ba ruO (prtA ruA [q.1] 2) [q.1] [] false 0 := hB
      refine ask_more 2 (by decide) ?_
      refine (AStepB_ok k1 k2 hB (by decide) rfl (by decide) name_sabA).mono fun v M3 ⟨l1, l2, l3, e, hB3⟩ => ?_
      subst e
      have ea : oldF fl (ruO.getD ([] : List Bool).length []) ((prtA ruA [q.1] 2).getD ([] : List Bool).length []) = oldF fl [97] (printF [dAll] [q.1]) := rfl
      rw [ea] at hB3 ⊢
      have e0 : settleN ruO ([] ++ [oldF fl [97] (printF [dAll] [q.1])]) = 0 := by unfold settleN; rw [if_pos (by simp)]
      rw [e0] at hB3 ⊢
      refine ask_more 3 (by decide) ?_
      refine (AStepB_ok l1 l2 hB3 (by simp) rfl (by decide) name_sabA).mono fun v M4 ⟨m1, m2, m3, e, hB4⟩ => ?_
      subst e
      have eb : oldF fl (ruO.getD ([] ++ [oldF fl [97] (printF [dAll] [q.1])] : List Bool).length []) ((prtA ruA [q.1] 2).getD ([] ++ [oldF fl [97] (printF [dAll] [q.1])] : List Bool).length []) = oldF fl [98] (printF [dAll, dUp] [q.1]) := rfl
      rw [eb] at hB4 ⊢
      generalize oldF fl [97] (printF [dAll] [q.1]) = a at *
      generalize oldF fl [98] (printF [dAll, dUp] [q.1]) = b at *
      have e2 : settleN ruO ([] ++ [a] ++ [b]) = if (a || b) = true then 2 else 1 := by
        cases a <;> cases b <;> decide
      rw [e2] at hB4 ⊢
      have hk : (if (a || b) = true then 2 else 1) ≠ 0 := by split <;> decide
      rw [decide_eq_true hk] at hB4
      have hK := ((g3.trans k3).trans l3).trans m3
      refine ask_over 4 _ hk (ask_lists hB4 (by split <;> simp) rfl (prA_len (by omega)) rfl fun M' u => hQ _ _ ⟨_, rfl, m1.trans u, m2.up u, hK.trans u.keepsL, a, b, rfl, rfl, rfl, hB4.up u⟩)
end
end Go.G
