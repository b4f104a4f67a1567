/- Layer 16: the statements' rule; which names are made. -/
import Derived.Test.YtpacolplhcfamaaPY16e
namespace Go.G
open Go.Ab Go.Proofs Go.RowKit
set_option linter.unusedVariables false
set_option linter.unusedSimpArgs false
set_option maxRecDepth 100000

theorem awake16_ok {M : Store} {Q : Value → Store → Prop} (hQ : Q (tv true) M) : R F.fettlelaw16_awake #[] M Q := R_told (g := yes0) (by kernel_rfl) rfl hQ
def madeQ (s : List UInt8) : Bool := decide (s = [97]) || (decide (s = [98]) || decide (s = [99]))
abbrev mvN : Value := .func (.func F.fettlelaw16_made) #[] #[]
theorem madeN_run (s : List UInt8) (M : Store) {Q : Value → Store → Prop} (hQ : Q (tv (madeQ s)) M) : R F.fettlelaw16_made #[sv s] M Q := by
  apply T_fettlelaw16_made
  unfold S_fettlelaw16_made
  show OP (binS .eql (sv s) (sv [97])) _
  rw [sv_eq, BR_dec]
  split
  · rename_i h
    have : madeQ s = true := by unfold madeQ; simp [h]
    rw [this] at hQ; exact ⟨rfl, hQ⟩
  · rename_i h
    show OP (binS .eql (sv s) (sv [98])) _
    rw [sv_eq, BR_dec]
    split
    · rename_i h2
      have : madeQ s = true := by unfold madeQ; simp [h2]
      rw [this] at hQ; exact ⟨rfl, hQ⟩
    · rename_i h2
      show OP (binS .eql (sv s) (sv [99])) _
      rw [sv_eq]
      have : madeQ s = decide (s = [99]) := by unfold madeQ; simp [h, h2]
      rw [this] at hQ; exact ⟨rfl, hQ⟩
theorem madeN_ok (L : List (List UInt8)) : MadeOk mvN madeQ L := fun s _ M Q hQ => madeN_run s M hQ
abbrev dAll : Dw := (3, 0, [])
abbrev dUp : Dw := (4, 0, [])
abbrev ruO : List (List UInt8) := [[97], [98]]
abbrev ruI : List (List UInt8) := [[115]]
abbrev ruA : List (List Dw) := [[dAll], [dAll, dUp]]
theorem e_ab (K : List Value → Prop) : OP (bldL (.string ⟨#[]⟩) 1 2 [(0, (.string ⟨#[97]⟩)), (1, (.string ⟨#[98]⟩))]) K = K (ruO.map sv) := by kernel_rfl
theorem e_s1 (K : List Value → Prop) : OP (bldL (.string ⟨#[]⟩) 1 1 [(0, (.string ⟨#[115]⟩))]) K = K (ruI.map sv) := by kernel_rfl
theorem e_d3 (K : Value → Prop) : OP (bldS #[(.int .i64 0), (.int .i64 0), (.string ⟨#[]⟩)] [(0, 1), (1, 1), (2, 1)] [(0, (.int .i64 3))]) K = K (dv dAll) := by kernel_rfl
theorem e_d4 (K : Value → Prop) : OP (bldS #[(.int .i64 0), (.int .i64 0), (.string ⟨#[]⟩)] [(0, 1), (1, 1), (2, 1)] [(0, (.int .i64 4))]) K = K (dv dUp) := by kernel_rfl
theorem e_l1 (K : List Value → Prop) : OP (bldL (.agg #[(.int .i64 0), (.int .i64 0), (.string ⟨#[]⟩)]) 3 1 [(0, dv dAll)]) K = K ([dAll].flatMap dcs) := by kernel_rfl
theorem e_l2 (K : List Value → Prop) : OP (bldL (.agg #[(.int .i64 0), (.int .i64 0), (.string ⟨#[]⟩)]) 3 2 [(0, dv dAll), (1, dv dUp)]) K = K ([dAll, dUp].flatMap dcs) := by kernel_rfl
theorem e_la (b1 b2 : Nat) (K : List Value → Prop) : OP (bldL (.slice none 0 0) 1 2 [(0, .slice (some ⟨b1, 0, none⟩) 1 1), (1, .slice (some ⟨b2, 0, none⟩) 2 2)]) K = K [.slice (some ⟨b1, 0, none⟩) 1 1, .slice (some ⟨b2, 0, none⟩) 2 2] := by kernel_rfl
theorem e_ru (b1 b2 b3 : Nat) (K : Value → Prop) : OP (bldS #[(.slice none 0 0), (.slice none 0 0), (.slice none 0 0), (.slice none 0 0), (.bool false)] [(0, 1), (1, 1), (2, 1), (3, 1), (4, 1)] [(0, .slice (some ⟨b1, 0, none⟩) 2 2), (1, .slice (some ⟨b2, 0, none⟩) 1 1), (3, .slice (some ⟨b3, 0, none⟩) 2 2)]) K =
    K (.agg #[.slice (some ⟨b1, 0, none⟩) 2 2, .slice (some ⟨b2, 0, none⟩) 1 1, .slice none 0 0, .slice (some ⟨b3, 0, none⟩) 2 2, tv false]) := by kernel_rfl
/-- The rule: its cells, and what they name. -/
def RuC (M : Store) (cs : List Value) : Prop := ∃ b1 b2 b3, cs = [.slice (some ⟨b1, 0, none⟩) 2 2, .slice (some ⟨b2, 0, none⟩) 1 1, .slice none 0 0, .slice (some ⟨b3, 0, none⟩) 2 2, tv false] ∧ LV sv Ty.string M (.slice (some ⟨b1, 0, none⟩) 2 2) ruO ∧ LV sv Ty.string M (.slice (some ⟨b2, 0, none⟩) 1 1) ruI ∧ Ls DS Ty.sl_api_Do M (.slice (some ⟨b3, 0, none⟩) 2 2) ruA
theorem okS : okT Ty.string := ⟨by decide, by decide, by decide, by decide, by decide, by decide⟩
theorem okD : okT Ty.api_Do := ⟨by decide, by decide, by decide, by decide, by decide, by decide⟩
theorem okL : okT Ty.sl_api_Do := ⟨by decide, by decide, by decide, by decide, by decide, by decide⟩
theorem RuC.keeps {M M' : Store} {cs : List Value} (h : RuC M cs) (k : KeepsL M M') : RuC M' cs := by
  obtain ⟨b1, b2, b3, e, h1, h2, h3⟩ := h
  refine ⟨b1, b2, b3, e, k _ _ _ _ _ okS h1, k _ _ _ _ _ okS h2, ?_⟩
  obtain ⟨vs, g1, g2⟩ := h3
  exact ⟨vs, k _ _ _ _ _ okL g1, g2.mono fun v x hx => k _ _ _ _ _ okD hx⟩
theorem RuC.val {M : Store} {cs : List Value} (h : RuC M cs) : RuV M (.agg cs.toArray) ruO ruI ruA false := by
  obtain ⟨b1, b2, b3, rfl, h1, h2, h3⟩ := h
  exact ⟨_, _, _, _, rfl, h1, h2, Sl.nil _ _ _, h3⟩
theorem Rule_ok {M : Store} : R F.fettlelaw16_Rule #[] M fun v M' => Up M M' ∧ ∃ cs, v = .agg cs.toArray ∧ RuC M' cs := by
  refine R.cps fun Q hQ => ?_
  apply T_fettlelaw16_Rule
  unfold S_fettlelaw16_Rule
  refine s_new fun M1 u1 o1 n1 => ?_
  rw [e_ab]
  refine s_lit (s := 1) (n := 2) rfl fun M2 u2 hN2 o2 n2 => ?_
  rw [e_s1]
  refine s_lit (s := 1) (n := 1) rfl fun M3 u3 hN3 o3 n3 => ?_
  rw [e_d3, e_l1]
  refine s_lit (s := 3) (n := 1) rfl fun M4 u4 hN4 o4 n4 => ?_
  rw [e_d3, e_d4, e_l2]
  refine s_lit (s := 3) (n := 2) rfl fun M5 u5 hN5 o5 n5 => ?_
  rw [e_la]
  refine s_lit (s := 1) (n := 2) rfl fun M6 u6 hN6 o6 n6 => ?_
  rw [e_ru]
  have o16 := ((((o1.up u2).up u3).up u4).up u5).up u6
  refine s_st (vs := [.slice (some ⟨M1.n, 0, none⟩) 2 2, .slice (some ⟨M2.n, 0, none⟩) 1 1, .slice none 0 0, .slice (some ⟨M5.n, 0, none⟩) 2 2, tv false]) o16 rfl rfl (by kernel_rfl) fun M7 c7 o7 _ => ?_
  rw [o7.ldA (s := 5) rfl, OP_some]
  have kk := c7.keepT o16
  have u06 := ((((u1.trans u2).trans u3).trans u4).trans u5).trans u6
  have hDS4 : DS M5 (.slice (some ⟨M3.n, 0, none⟩) 1 1) [dAll] := Sl.up (Nw.sl hN4) u5
  have hDS5 : DS M5 (.slice (some ⟨M4.n, 0, none⟩) 2 2) [dAll, dUp] := Nw.sl hN5
  refine ⟨rfl, hQ _ _ ⟨u06.ch c7 (by simp), _, rfl, M1.n, M2.n, M5.n, rfl, ?_, ?_, ?_⟩⟩
  · exact Sl.keep (Sl.up (Sl.up (Sl.up (Sl.up (Nw.sl hN2) u3) u4) u5) u6) (by decide) kk
  · exact Sl.keep (Sl.up (Sl.up (Sl.up (Nw.sl hN3) u4) u5) u6) (by decide) kk
  · exact ⟨_, Sl.keep (Nw.sl hN6) (by decide) kk, Sl.keep (Sl.up hDS4 u6) (by decide) kk, Sl.keep (Sl.up hDS5 u6) (by decide) kk, trivial⟩
end Go.G
