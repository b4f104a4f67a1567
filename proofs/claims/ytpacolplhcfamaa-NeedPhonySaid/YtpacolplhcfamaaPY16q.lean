/- NeedPhony as a whole. -/
import Derived.Test.YtpacolplhcfamaaPY16p
namespace Go.G
open Go.Ab Go.Proofs Go.RowKit
set_option linter.unusedVariables false
set_option linter.unusedSimpArgs false
set_option maxRecDepth 100000

abbrev Z4 : List (List UInt8) := [[97], [98], [122, 122], [115]]
theorem e_z4 (K : List Value → Prop) : OP (bldL (.string ⟨#[]⟩) 1 4 [(0, (.string ⟨#[97]⟩)), (1, (.string ⟨#[98]⟩)), (2, (.string ⟨#[122, 122]⟩)), (3, (.string ⟨#[115]⟩))]) K = K (Z4.map sv) := by kernel_rfl
theorem e_sv1 (l : List UInt8) (K : List Value → Prop) : OP (bldL (.string ⟨#[]⟩) 1 1 [(0, sv l)]) K = K [sv l] := by kernel_rfl
theorem e_p1 (K : List Value → Prop) : OP (bldL (.string ⟨#[]⟩) 1 1 [(0, (.string ⟨#[112]⟩))]) K = K ([[112]].map sv) := by kernel_rfl
theorem e_c1 (K : List Value → Prop) : OP (bldL (.string ⟨#[]⟩) 1 1 [(0, (.string ⟨#[99]⟩))]) K = K (phO.map sv) := by kernel_rfl
theorem e_rp (a b : Option Addr) (n1 c1 n2 c2 : Nat) (K : Value → Prop) : OP (bldS #[(.slice none 0 0), (.slice none 0 0), (.slice none 0 0), (.slice none 0 0), (.bool false)] [(0, 1), (1, 1), (2, 1), (3, 1), (4, 1)] [(0, .slice a n1 c1), (1, .slice b n2 c2), (4, (.bool true))]) K = K (.agg #[.slice a n1 c1, .slice b n2 c2, .slice none 0 0, .slice none 0 0, tv true]) := by kernel_rfl
theorem e_rc (b1 b2 : Nat) (K : Value → Prop) : OP (bldS #[(.slice none 0 0), (.slice none 0 0), (.slice none 0 0), (.slice none 0 0), (.bool false)] [(0, 1), (1, 1), (2, 1), (3, 1), (4, 1)] [(0, .slice (some ⟨b1, 0, none⟩) 1 1), (3, .slice (some ⟨b2, 0, none⟩) 1 1)]) K = K (.agg [.slice (some ⟨b1, 0, none⟩) 1 1, .slice none 0 0, .slice none 0 0, .slice (some ⟨b2, 0, none⟩) 1 1, tv false].toArray) := by kernel_rfl
theorem e_dT (K : Value → Prop) : OP (bldS #[(.int .i64 0), (.int .i64 0), (.string ⟨#[]⟩)] [(0, 1), (1, 1), (2, 1)] [(0, (.int .i64 1)), (2, (.string ⟨#[116]⟩))]) K = K (dv dT) := by kernel_rfl
theorem e_lT (K : List Value → Prop) : OP (bldL (.agg #[(.int .i64 0), (.int .i64 0), (.string ⟨#[]⟩)]) 3 1 [(0, dv dT)]) K = K ([dT].flatMap dcs) := by kernel_rfl
theorem cvId_q {M0 M : Store} (hu : Up M0 M) {v : Value} {l : List UInt8} (h : N M0 M v l) (hl : l ≠ []) {K : Value → Store → Prop} (hK : ∀ M', Up M0 M' → N M0 M' v l → K v M') : OP2 (cvId v M) K := by
  obtain ⟨h1, ⟨h2, _⟩ | ⟨b, cells, c, rfl, h2, h3, h4, h5, h6⟩⟩ := h
  · exact absurd (List.length_eq_zero_iff.1 h2) hl
  · have hob : Ob M b cells Ty.uint8 := h3
    have e : cvId (.slice (some ⟨b, 0, none⟩) l.length c) M = some (.slice (some ⟨b, 0, none⟩) l.length c, M.set b (some (.inl (cells, Ty.uint8, true)))) := by
      simp only [cvId, h3]
      rw [if_pos (List.length_pos_iff.2 hl)]
    rw [e, OP2_some]
    exact hK _ (hu.ch (Ch.setO hob _) (by simpa using h2)) ⟨h1, .inr ⟨b, cells, c, rfl, h2, hob.setSt _, h4, h5, h6⟩⟩
section
variable {M0 : Store} {bf r : Nat} {there : Bool} {x6 : Value} {l : List (List UInt8)} {Q : Value → Store → Prop}
theorem ph_rules (hQ : ∀ M, Q (tv true) M) {M : Store} (hu : Up M0 M) (hf : FSR M0 M bf r 1048576 0 0 fun _ => none) (hl : LV sv Ty.string M x6 l) (hz : l.length ≤ 8) : P_fettlelaw16_NeedPhony_3 (tv there) (pB bf) x6 M Q := by
  apply T_fettlelaw16_NeedPhony_3
  unfold S_fettlelaw16_NeedPhony_3
  rw [e_p1]
  refine s_lit (s := 1) (n := 1) rfl fun M1 u1 hN1 o1 n1 => ?_
  obtain ⟨xa, xc, rfl⟩ := hl.slice
  rw [e_rp]
  have hV1 : RuV M1 (.agg #[.slice (some ⟨M.n, 0, none⟩) 1 1, .slice xa l.length xc, .slice none 0 0, .slice none 0 0, tv true]) [[112]] l [] true := ⟨_, _, _, _, rfl, Nw.sl hN1, hl.up u1, Sl.nil _ _ _, [], Sl.nil _ _ _, trivial⟩
  refine (NewA_ok hV1 (by decide) (by omega) (by decide) (fun l hl => by cases hl) F.fettlelaw16_made).mono fun v M2 ⟨u2, bp, brp, e, hA⟩ => ?_
  subst e
  have hA2 := (hA [] M2 (fun b hb => by cases hb) (Ch.refl _ _)).base (hu.trans u1).n
  rw [e_c1]
  refine s_lit (s := 1) (n := 1) rfl fun M3 u3 hN3 o3 n3 => ?_
  rw [e_dT, e_lT]
  refine s_lit (s := 3) (n := 1) rfl fun M4 u4 hN4 o4 n4 => ?_
  rw [bl_sl1]
  refine s_lit (s := 1) (n := 1) rfl fun M5 u5 hN5 o5 n5 => ?_
  rw [e_rc]
  refine s_new fun M6 u6 o6 n6 => ?_
  refine s_st (vs := [.slice (some ⟨M2.n, 0, none⟩) 1 1, .slice none 0 0, .slice none 0 0, .slice (some ⟨M4.n, 0, none⟩) 1 1, tv false]) o6 rfl rfl (ru_cells _ _ _ _ _ _ _ _ _ _ _ _ _) fun M7 c7 o7 _ => ?_
  have kk := c7.keepT o6
  have u26 := ((u3.trans u4).trans u5).trans u6
  have u27 : Up M2 M7 := u26.ch c7 fun b hb => by simp at hb; subst hb; exact ((u3.trans u4).trans u5).n
  have hDS : DS M7 (.slice (some ⟨M3.n, 0, none⟩) 1 1) [dT] := Sl.keep (Sl.up (Sl.up (Nw.sl hN4) u5) u6) (by decide) kk
  have hDD : Ls DS Ty.sl_api_Do M7 (.slice (some ⟨M4.n, 0, none⟩) 1 1) phA := ⟨_, Sl.keep (Sl.up (Nw.sl hN5) u6) (by decide) kk, hDS, trivial⟩
  have hO : LV sv Ty.string M7 (.slice (some ⟨M2.n, 0, none⟩) 1 1) phO := Sl.keep (Sl.up (Sl.up (Sl.up (Nw.sl hN3) u4) u5) u6) (by decide) kk
  have hV7 : RuV M7 (.agg [.slice (some ⟨M2.n, 0, none⟩) 1 1, .slice none 0 0, .slice none 0 0, .slice (some ⟨M4.n, 0, none⟩) 1 1, tv false].toArray) phO [] phA false := ⟨_, _, _, _, rfl, hO, Sl.nil _ _ _, Sl.nil _ _ _, hDD⟩
  have u02 := (hu.trans u1).trans u2
  have u07 := u02.trans u27
  have hf7 := ((hf.up u1).up u2).up u27
  have hA7 := hA2.up u27
  rw [BR_bool]
  cases there with
  | false =>
    rw [if_neg (by decide)]
    exact ph_ask (there := false) (cs := [.slice (some ⟨M2.n, 0, none⟩) 1 1, .slice none 0 0, .slice none 0 0, .slice (some ⟨M4.n, 0, none⟩) 1 1, tv false]) hQ (show thereF (fun _ => none) false from rfl) u07.n hf7 hA7 o7 rfl hV7
  | true =>
    rw [if_pos rfl]
    simp only [fad0, (rd5 o7).2.2.2.1]
    have e1 : ixA 1 (.slice (some ⟨M4.n, 0, none⟩) 1 1) (.int .i64 0) = some (.pointer (some ⟨M4.n, 0, none⟩)) := rfl
    have o57 : Ob M7 M4.n [.slice (some ⟨M3.n, 0, none⟩) 1 1] Ty.sl_api_Do := (o5.up u6).keep (by decide) kk
    rw [e1, OP_some, o57.ld (v := .slice (some ⟨M3.n, 0, none⟩) 1 1) rfl, OP_some]
    refine (RPrint_ok (ins := []) hDS (by decide) (by decide) (⟨[], Sl.nil _ _ _, trivial⟩ : BB M7 (.slice none 0 0) []) (by simp) (fun x hx => by cases hx)).mono fun w M8 ⟨u8, hN8⟩ => ?_
    have e116 : ∀ K : List Value → Prop, OP (bldL (.int .u8 0) 1 1 [(0, (.int .u8 116))]) K = K [bv 116] := fun K => bl_bv 116 K
    rw [e116]
    refine s_lit (s := 1) (n := 1) rfl fun M9 u9 hN9 o9 n9 => ?_
    have hN9 : N M8 M9 (.slice (some ⟨M8.n, 0, none⟩) 1 1) [116] := hN9
    refine cvId_q (M0 := M8) u9 hN9 (by simp) fun M10 u10 hN10 => ?_
    have hpl := ph_len
    refine (RMake_ok (Sl.up hN8.by u10) hN10.by (by omega) (by simp)).mono fun y M11 ⟨u11, hN11⟩ => ?_
    have u711 := (u8.trans u10).trans u11
    have hml : (makeF (printF [dT] []) [116]).length ≤ 5000 := by rw [makeF_length]; simp; omega
    refine (Put_ok (u07.trans u711) (hf7.up u711) name_c hN11.by (by omega) (by omega) (by decide) (by decide)).mono fun v M12 ⟨u12, ⟨M13, u13, c13⟩, _, hf12⟩ => ?_
    have u713 := u711.trans u13
    have hf13 := hf7.up u713
    have hK : KeepsL M7 M12 := (Up.keepsL u713).trans (hf13.keepsL c13)
    have o12 := Ob.away (o7.up u713) (hf13.away (by decide)) c13
    have hV12 : RuV M12 (.agg [.slice (some ⟨M2.n, 0, none⟩) 1 1, .slice none 0 0, .slice none 0 0, .slice (some ⟨M4.n, 0, none⟩) 1 1, tv false].toArray) phO [] phA false := by
      refine ⟨_, _, _, _, rfl, hK _ _ _ _ _ okS hO, Sl.nil _ _ _, Sl.nil _ _ _, ?_⟩
      obtain ⟨vs, g1, g2⟩ := hDD
      exact ⟨vs, hK _ _ _ _ _ okL g1, g2.mono fun v x hx => hK _ _ _ _ _ okD hx⟩
    exact ph_ask (there := true) (cs := [.slice (some ⟨M2.n, 0, none⟩) 1 1, .slice none 0 0, .slice none 0 0, .slice (some ⟨M4.n, 0, none⟩) 1 1, tv false]) hQ ⟨1, by unfold putF; rw [if_pos rfl]⟩ u12.n hf12 ((hA7.up u713).chF c13 fun e he => hf13.away he) o12 rfl hV12
theorem ph_names {x0 : Value} {ns : List Int} {Mb : Store} (hQ : ∀ M, Q (tv true) M) (hns : LV iv Ty.int M0 x0 ns) (hub : Up M0 Mb) (hf : FSR M0 Mb bf r 1048576 0 0 fun _ => none) : ∀ (k i : Nat) (M : Store) (x6 : Value) (L : List (List UInt8)), k + i = 8 → L.length = i → Up Mb M → NV sv Ty.string Mb M x6 L → P_fettlelaw16_NeedPhony_1 x0 (tv there) (pB bf) x6 (nv i) M Q := by
  intro k
  have fin : ∀ (M : Store) (x6 : Value) (L : List (List UInt8)), L.length ≤ 8 → Up Mb M → NV sv Ty.string Mb M x6 L → P_fettlelaw16_NeedPhony_3 (tv there) (pB bf) x6 M Q := fun M x6 L hl u hN => ph_rules hQ (hub.trans u) (hf.up u) hN.lv hl
  induction k with
  | zero =>
    intro i M x6 L hi hl hu hN
    apply T_fettlelaw16_NeedPhony_1
    unfold S_fettlelaw16_NeedPhony_1
    rw [((hns.up hub).up hu).len, OP_some, lss_n, BR_dec]
    split
    · rw [lss_l 8 8 rfl, BR_dec, if_neg (by omega)]
      exact fin M x6 L (by omega) hu hN
    · exact fin M x6 L (by omega) hu hN
  | succ k ih =>
    intro i M x6 L hi hl hu hN
    have hns1 := (hns.up hub).up hu
    apply T_fettlelaw16_NeedPhony_1
    unfold S_fettlelaw16_NeedPhony_1
    rw [hns1.len, OP_some, lss_n, BR_dec]
    split
    · rename_i hil
      rw [lss_l 8 8 rfl, BR_dec, if_pos (by omega)]
      apply T_fettlelaw16_NeedPhony_2
      unfold S_fettlelaw16_NeedPhony_2
      rw [e_z4]
      refine s_lit (s := 1) (n := 4) rfl fun M1 u1 hN1 o1 n1 => ?_
      obtain ⟨p, e1, e2⟩ := (hns1.up u1).at hil .i64
      rw [e1, OP_some, e2, OP_some]
      show OP (binI .and (.int .i64 ns[i]) (.int .i64 ((3 : Nat) : Int))) _
      rw [e_andN _ 3 (by decide), OP_some]
      have hq := andN_le ns[i] 3 (by decide)
      generalize andN ns[i] 3 = q at *
      have hq4 : q < Z4.length := by show q < 4; omega
      have hz4 : LV sv Ty.string M1 (.slice (some ⟨M.n, 0, none⟩) 4 4) Z4 := Nw.sl hN1
      obtain ⟨p2, e3, e4⟩ := hz4.at hq4 .i64
      rw [e3, OP_some, e4, OP_some, e_sv1, LT_eq]
      have hu1 := hu.trans u1
      refine NV.app1 (M0 := Mb) hu1 (Nat.le_refl _) hu1.n (Nw.up hN u1) Z4[q] rfl (by omega) fun v' M' u' hN' _ _ => ?_
      rw [add1_n _ (by omega)]
      exact ih (i + 1) M' v' _ (by omega) (by simp [hl]) u' hN'
    · exact fin M x6 L (by omega) hu hN
end
theorem NeedPhony_ok {M : Store} {x0 : Value} {ns : List Int} (h0 : LV iv Ty.int M x0 ns) (there : Bool) : R F.fettlelaw16_NeedPhony #[x0, tv there] M fun v M' => v = tv true := by
  refine R.cps fun Q hQ => ?_
  have hQ : ∀ M, Q (tv true) M := fun M => hQ _ _ rfl
  apply T_fettlelaw16_NeedPhony
  unfold S_fettlelaw16_NeedPhony
  refine (New_ok (room := 1048576) (by decide)).mono fun v M1 ⟨u1, bf, r, e, hf1⟩ => ?_
  subst e
  rw [abin_ptr U.p_simf_FS, BR_bool, if_neg (by decide)]
  exact ph_names hQ h0 u1 hf1 8 0 M1 _ [] rfl rfl (Ch.refl _ _) NV.nil
end Go.G
