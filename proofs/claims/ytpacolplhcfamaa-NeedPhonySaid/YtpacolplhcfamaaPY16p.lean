/- NeedPhony: a rule that is phony needs nothing; one without inputs is asked of its outputs alone. -/
import Derived.Test.YtpacolplhcfamaaPY16l
import Derived.Test.YtpacolplhcfamaaPE11b
import Derived.Test.YtpacolplhcfamaaPGGp
namespace Go.G
open Go.Ab Go.Proofs Go.RowKit
set_option linter.unusedVariables false
set_option linter.unusedSimpArgs false
set_option maxRecDepth 100000

theorem AskA.base {M0 M1 M : Store} {ba br : Nat} {outs : List (List UInt8)} {acts : List (List Dw)} {over : Bool} {told : Nat} {mv : Value} {st : RSt} {O : List Nat} (h : AskA M1 M ba outs acts over told br mv st O) (k : M0.n ≤ M1.n) : AskA M0 M ba outs acts over told br mv st O :=
  ⟨Nat.le_trans k h.b0, h.is, h.rd.base k⟩
/-- An asker of a rule that does nothing is over at once. -/
theorem AStep0_ok {M0 M : Store} {ba br : Nat} {outs : List (List UInt8)} {mv : Value} {st : RSt} {O : List Nat} {f : Value} (h : AskA M0 M ba outs [] false 0 br mv st O) : R F.need_Ask_Step #[pB ba, f] M fun v M' => v = nv 1 ∧ Ch [ba] M M' ∧ Keep Ty.need_Ask M M' := by
  refine R.cps fun Q hQ => ?_
  obtain ⟨hb0, ⟨ou, i_, o_, ac, ph, o, hou, hac⟩, hr⟩ := h
  apply T_need_Ask_Step
  unfold S_need_Ask_Step
  simp only [nilc_p, fad0, (rd12 o).2.2.2.2.2.2.2.1, (rd12 o).2.1, (rd12 o).2.2.2.1]
  rw [BR_bool, if_neg (by decide), hac.lenV, OP_some, eql_l (a := ([] : List (List Dw)).length) 0 0 rfl, BR_dec, if_pos (show ([] : List (List Dw)).length = 0 from rfl)]
  refine (aend_ok o 1).mono fun v M' ⟨e, c, kk, _⟩ => ?_
  subst e
  exact ⟨rfl, hQ _ _ ⟨rfl, c, kk⟩⟩
abbrev dT : Dw := (1, 0, [116])
abbrev phA : List (List Dw) := [[dT]]
abbrev phO : List (List UInt8) := [[99]]
theorem name_c : nameOk [99] := fun M => by kernel_rfl
def thereF (fl : Fl) (there : Bool) : Prop := match there with
  | true => ∃ z, fl [99] = some (makeF (printF [dT] []) [116], z)
  | false => fl [99] = none
theorem okdT : okA [dT] = true := by decide
theorem old_there {fl : Fl} {there : Bool} (h : thereF fl there) (hp : (printF [dT] []).length ≤ 4000) : oldF fl [99] (printF [dT] []) = !there := by
  cases there with
  | true =>
    obtain ⟨z, h⟩ := h
    unfold oldF
    rw [h]
    simp only
    rw [openF_make _ _ hp (by simp)]
    simp
  | false =>
    have h : fl [99] = none := h
    unfold oldF; rw [h]; rfl
theorem ph_len : (printF [dT] []).length ≤ 4000 := by
  have h1 := actB_ok okdT
  unfold printF
  simp only [List.length_append, be_length]
  simp [insB]; omega
section
variable {M0 Mf : Store} {bf r U last bp bx_ brp : Nat} {fl : Fl} {there : Bool} {Q : Value → Store → Prop} {stp : RSt} {Op : List Nat} {Lp : List (List UInt8)}
theorem ph_end (hQ : ∀ M, Q (tv true) M) {M : Store} {prints : List (List UInt8)} (hp : AskA Mf M bp Lp [] false 0 brp mvN stp Op) (hne : bp ≠ bx_) (hB : AskB M0 M bx_ phO prints [] [!there] true (if there = true then 1 else 2)) :
    P_fettlelaw16_NeedPhony_6 (tv there) (pB bf) (pB bp) (pB bx_) (nv (if there = true then 1 else 2)) M Q := by
  apply T_fettlelaw16_NeedPhony_6
  unfold S_fettlelaw16_NeedPhony_6
  have ht : (if there = true then 1 else 2) = 1 ∨ (if there = true then 1 else 2) = 2 := by cases there <;> simp
  have main : P_fettlelaw16_NeedPhony_7 (tv there) (pB bf) (pB bp) (pB bx_) (nv (if there = true then 1 else 2)) (nv (if there = true then 1 else 2)) M Q := by
    apply T_fettlelaw16_NeedPhony_7
    unfold S_fettlelaw16_NeedPhony_7
    refine (AStep0_ok hp).mono fun v M1 ⟨e, c, kk⟩ => ?_
    subst e
    rw [eql_l 1 1 rfl, BR_dec, if_pos rfl, eql_n, BR_dec, if_pos rfl]
    have hB1 : AskB M0 M1 bx_ phO prints [] [!there] true (if there = true then 1 else 2) := by
      obtain ⟨h1, ou, i_, o_, ac, ph, sp, pr, va, ol, o, h2, h3, h4, h5, h6⟩ := hB
      exact ⟨h1, ou, i_, o_, ac, ph, sp, pr, va, ol, o.fr c (by simpa using fun e => hne e.symm), Sl.keep h2 (by decide) kk, Ls.keep (By.keep' (by decide)) h3 (by decide) kk, Ls.keep (By.keep' (by decide)) h4 (by decide) kk, Nw.keep h5 (by decide) kk, h6⟩
    refine (Old_ok hB1 ht (by simp)).mono fun v2 M2 ⟨u2, hN2⟩ => ?_
    rw [(NV.lv hN2).len, OP_some, eql_l (a := [!there].length) 1 1 rfl, BR_dec, if_pos (show [!there].length = 1 from rfl)]
    refine (Old_ok (hB1.up u2) ht (by simp)).mono fun v3 M3 ⟨u3, hN3⟩ => ?_
    obtain ⟨p, e1, e2⟩ := (NV.lv hN3).at (i := 0) (by simp) .i64
    have e1 : ixA 1 v3 (.int .i64 0) = some p := e1
    rw [e1, OP_some, e2, OP_some]
    have e3 : ∀ K : Value → Prop, OP (abin Try.prog false .neq Ty.bool (tv (!there)) (tv there)) K = K (tv true) := fun K => by
      have : abin Try.prog false .neq Ty.bool (.bool (!there)) (.bool there) = some (.bool true) := by cases there <;> kernel_rfl
      rw [this, OP_some]
    show OP (abin Try.prog false .neq Ty.bool (tv (!there)) (tv there)) _
    rw [e3, BR_bool, if_pos rfl]
    exact awake16_ok ⟨rfl, hQ _⟩
  rw [BR_bool]
  cases there with
  | true => rw [if_pos rfl]; exact main
  | false => rw [if_neg (by decide)]; exact main
theorem ph_more (hQ : ∀ M, Q (tv true) M) : ∀ (d i : Nat) (M : Store) (prints : List (List UInt8)), 0 < d → d + i = 9 → thereF fl there → Up M0 M → FSR Mf M bf r 1048576 U last fl → AskA Mf M0 bp Lp [] false 0 brp mvN stp Op → bp < M0.n → AskB M0 M bx_ phO prints [] [] false 0 → prints = [printF [dT] []] → P_fettlelaw16_NeedPhony_5 (tv there) (pB bf) (pB bp) (pB bx_) (nv 0) (nv i) M Q := by
  intro d i M prints hd hi hth hu hf hp hbp hB hpr
  subst hpr
  apply T_fettlelaw16_NeedPhony_5
  unfold S_fettlelaw16_NeedPhony_5
  rw [lss_l 9 9 rfl, BR_dec, if_pos (by omega), eql_l 0 0 rfl, BR_dec, if_pos rfl]
  refine (AStepB_ok hu hf hB (by decide) rfl (by decide) (fun s hs => by simp at hs; subst hs; exact name_c)).mono fun v M1 ⟨u1, hf1, hK, e, hB1⟩ => ?_
  subst e
  have eo : oldF fl (phO.getD ([] : List Bool).length []) ([printF [dT] []].getD ([] : List Bool).length []) = !there := old_there hth ph_len
  rw [eo] at hB1 ⊢
  have es : settleN phO ([] ++ [!there]) = if there = true then 1 else 2 := by cases there <;> decide
  rw [es] at hB1 ⊢
  have hne0 : (if there = true then 1 else 2) ≠ 0 := by cases there <;> decide
  rw [decide_eq_true hne0] at hB1
  rw [add1_n _ (by omega)]
  have hnb : bp ≠ bx_ := by have := hB1.b0; omega
  have fin := ph_end (bf := bf) (there := there) hQ (hp.up u1) hnb hB1
  apply T_fettlelaw16_NeedPhony_5
  unfold S_fettlelaw16_NeedPhony_5
  rw [lss_l 9 9 rfl, BR_dec]
  split
  · rw [eql_l 0 0 rfl, BR_dec, if_neg hne0]; exact fin
  · exact fin
/-- The other asker is made, and asks. -/
theorem ph_ask (hQ : ∀ M, Q (tv true) M) {M : Store} {v9 : Nat} {cs : List Value} (hth : thereF fl there) (hmf : Mf.n ≤ M.n) (hf : FSR Mf M bf r 1048576 U last fl) (hp : AskA Mf M bp Lp [] false 0 brp mvN stp Op) (o : Ob M v9 cs Ty.api_Rule) (hcs : cs.length = 5) (hV : RuV M (.agg cs.toArray) phO [] phA false) : P_fettlelaw16_NeedPhony_4 (tv there) (pB bf) (pB bp) (pB v9) M Q := by
  apply T_fettlelaw16_NeedPhony_4
  unfold S_fettlelaw16_NeedPhony_4
  rw [o.ldA (s := 5) hcs, OP_some]
  refine (NewA_ok hV (by decide) (by decide) (by decide) (by decide) F.fettlelaw16_made).mono fun v M1 ⟨u1, bx', br, e, hA⟩ => ?_
  subst e
  have hbp : bp < M.n := by obtain ⟨_, ⟨_, _, _, _, _, o', _⟩, _⟩ := hp; exact o'.lt
  rw [abin_ptr _root_.Go.G.U.p_need_Ask, BR_bool, if_neg (by decide), abin_ptr _root_.Go.G.U.p_need_Ask, BR_bool, if_neg (by decide)]
  have hA1 := hA [] M1 (fun b hb => by cases hb) (Ch.refl _ _)
  apply T_fettlelaw16_NeedPhony_5
  unfold S_fettlelaw16_NeedPhony_5
  rw [show (.int .i64 0 : Value) = nv 0 from rfl, lss_l 9 9 rfl, BR_dec, if_pos (by decide), eql_n, BR_dec, if_pos rfl]
  have es : stepS fl madeQ (RSt.new []) = ((RSt.new []).end 1, 1) := by simp [stepS, RSt.new]
  refine (AStepA_ok (p := madeQ) (by decide) u1 (hf.up u1) hA1 rfl (by simp [RSt.new]) (madeN_ok _) (fun s hs => by simp [RSt.new] at hs) (by decide) (by decide) (fun x hx => by rw [es] at hx; simp [RSt.end, RSt.new] at hx)).mono fun v M2 ⟨g1, g2, g3, g4⟩ => ?_
  rw [es] at g4
  rcases g4 with ⟨e, _⟩ | ⟨e, _⟩ | ⟨e, _⟩ | ⟨_, e, hB⟩
  · cases e
  · cases e
  · cases e
  · subst e
    have e0 : settleN phO [] = 0 := by decide
    rw [e0] at hB ⊢
    rw [add1_n _ (by omega)]
    exact ph_more hQ 8 1 M2 _ (by decide) rfl hth g1 g2 hp hbp hB rfl
end
end Go.G
