/- GrphRules: the rules' order, and all that is wanted, by the program and by the document. -/
import Derived.Test.YtnonfejhkbaikaaPGX
import Derived.Test.YtnonfejhkbaikaaPM8i
import Derived.Test.YtnonfejhkbaikaaPM8h
namespace Go.G
open Go.Ab Go.Proofs Go.RowKit
set_option linter.unusedVariables false
set_option linter.unusedSimpArgs false
set_option maxRecDepth 100000
def nmX : List (List UInt8) := [[97], [98], [99], [100], [101], [102], [122, 122], [112, 97]]
theorem bl_8x (K : List Value → Prop) : OP (bldL (.string ⟨#[]⟩) 1 8 [(0, (.string ⟨#[97]⟩)), (1, (.string ⟨#[98]⟩)), (2, (.string ⟨#[99]⟩)), (3, (.string ⟨#[100]⟩)), (4, (.string ⟨#[101]⟩)), (5, (.string ⟨#[102]⟩)), (6, (.string ⟨#[122, 122]⟩)), (7, (.string ⟨#[112, 97]⟩))]) K = K (nmX.map sv) := by kernel_rfl
theorem tb_eq (a b : Bool) (K : Value → Prop) : OP (abin Try.prog false .eql Ty.bool (tv a) (tv b)) K = K (tv (a == b)) := by
  have : abin Try.prog false .eql Ty.bool (.bool a) (.bool b) = some (.bool (a == b)) := by kernel_rfl
  rw [this, OP_some]
theorem bs_m0 (K : Value → Prop) : OP (bldS #[(.slice none 0 0), (.slice none 0 0)] [(0, 1), (1, 1)] []) K = K (.agg (mcs (.slice none 0 0) (.slice none 0 0)).toArray) := by kernel_rfl
section
variable {M0 : Store} {b5 : Nat} {vR vD x1 : Value} {rs : List RuT} {zs : List Int} {Q : Value → Store → Prop}
theorem rl_nil (M : Store) : RL M (.slice none 0 0) [] := ⟨[], Sl.nil _ _ _, trivial⟩
theorem gr_same {M : Store} {x y : Value} {l : List Nat} (hx : LV iv Ty.int M x (nint l)) (hy : LV iv Ty.int M y (nint l)) (hl : l.length ≤ 2 ^ 30) {K : Value → Store → Prop} (hK : K (tv true) M) : R F.r1_SameInts #[x, y] M K := by
  refine (SameInts_ok hx hy (by rw [nint_len]; omega)).mono fun v M' ⟨e1, e2⟩ => ?_
  subst e1; subst e2
  rw [decide_eq_true rfl]; exact hK
theorem wan_len (rs : List RuT) (ns : List (List UInt8)) : (wanN rs ns).length ≤ rs.length := by
  have := List.length_filter_le (inL (reaL rs ns)) (List.range rs.length)
  rwa [List.length_range] at this
theorem gr_3 (hi : ManI rs) (hQ : ∀ M, Q (tv true) M) {M : Store} {x7 : Value} {ns : List (List UInt8)} (o : Mz M b5 vR vD) (hR : RL M vR rs) (hD : LV sv Ty.string M vD []) (h7 : LV sv Ty.string M x7 ns) (hnl : ns.length ≤ 2 ^ 20) : P_l8_GrphRules_3 (pt b5) x7 M Q := by
  obtain ⟨ho, hs, hb⟩ := hi
  have hsl := hs.1
  have hMV : ∀ M', Up M M' → MV M' (.agg (mcs vR vD).toArray) rs [] := fun M' u => ⟨vR, vD, rfl, hR.up u, hD.up u⟩
  apply T_l8_GrphRules_3
  unfold S_l8_GrphRules_3
  rw [o.ldA (s := 2) rfl, OP_some]
  refine (RulesP_ok (hMV M (Ch.refl _ _)) ho hs hb).mono fun r M1 ⟨u1, w1, e, hw1⟩ => ?_
  subst e
  rw [(tp2 _ _).1, (tp2 _ _).2, (Ob.up o u1).ldA (s := 2) rfl, OP_some]
  refine (RulesD_ok (hMV M1 u1) hs.short hb).mono fun r M2 ⟨u2, w2, e, hw2⟩ => ?_
  subst e
  have u12 := u1.trans u2
  rw [(tp2 _ _).1, (tp2 _ _).2, (Ob.up o u12).ldA (s := 2) rfl, OP_some]
  refine s_new fun M3 u3 o3 n3 => ?_
  obtain ⟨a, n, c, e0⟩ := hR.slice
  obtain ⟨a', c', e1⟩ := Sl.slice hD
  obtain ⟨a7, c7, e7⟩ := Sl.slice h7
  subst e0 e1 e7
  refine s_st (vs := mcs (.slice a n c) (.slice a' ([] : List (List UInt8)).length c')) o3 rfl rfl (by kernel_rfl) fun M4 c4 o4 _ => ?_
  rw [fad0]
  refine s_st1 (i := 1) (w := .slice a7 ns.length c7) o4 (by simp [mcs]) (cells_sl _ _ _) (oc_sl _ _ _) fun M5 c5 o5 _ => ?_
  have u35 : Up M2 M5 := (u3.ch c4 (by simp)).ch c5 (by simp)
  have u05 := u12.trans u35
  have o5 : Mz M5 M2.n (.slice a n c) (.slice a7 ns.length c7) := o5
  have hMY : ∀ M', Up M5 M' → MV M' (.agg (mcs (.slice a n c) (.slice a7 ns.length c7)).toArray) rs ns := fun M' u => ⟨_, _, rfl, (hR.up u05).up u, (Sl.up h7 u05).up u⟩
  have rf : ∀ M', Up M' M' := fun M' => Ch.refl _ _
  rw [tb_eq, BEq.rfl, BR_true]
  refine gr_same (hw1.lv.up (u2.trans u35)) (hw2.lv.up u35) (by rw [List.length_range]; omega) ⟨(rf M5).tdx _ _ _, ?_⟩
  rw [BR_true, (Ob.up o u05).ldA (s := 2) rfl, OP_some]
  have hwl := wan_len rs
  refine (WantedP_ok (hMV M5 u05) ho hs hb (Sl.up h7 u05) hnl (by simp)).mono fun w3 M7 ⟨u7, hw3⟩ => ⟨u7.tdj _ _, ?_⟩
  have u57 := u7
  rw [(Ob.up o (u05.trans u57)).ldA (s := 2) rfl, OP_some]
  refine (WantedD_ok (hMV M7 (u05.trans u57)) ho hs hb (Sl.up h7 (u05.trans u57)) hnl (by simp)).mono fun w4 M8 ⟨u8, hw4⟩ => ⟨u8.tdx _ _ _, ?_⟩
  have u58 := u57.trans u8
  refine gr_same (hw3.lv.up u8) hw4.lv (by have := hwl (nmsD ns []); omega) ⟨(rf M8).tdx _ _ _, ?_⟩
  rw [BR_true, (Ob.up o (u05.trans u58)).ldA (s := 2) rfl, OP_some]
  refine (WantedP_ok (ns := []) (hMV M8 (u05.trans u58)) ho hs hb (Sl.nil _ _ _) (by simp) (by simp)).mono fun w5 M10 ⟨u10, hw5⟩ => ⟨u10.tdj _ _, ?_⟩
  have u510 := u58.trans u10
  rw [(Ob.up o (u05.trans u510)).ldA (s := 2) rfl, OP_some]
  refine (WantedD_ok (ns := []) (hMV M10 (u05.trans u510)) ho hs hb (Sl.nil _ _ _) (by simp) (by simp)).mono fun w6 M11 ⟨u11, hw6⟩ => ⟨u11.tdx _ _ _, ?_⟩
  have u511 := u510.trans u11
  refine gr_same (hw5.lv.up u11) hw6.lv (by have := hwl (nmsD [] []); omega) ⟨(rf M11).tdx _ _ _, ?_⟩
  rw [BR_true, (Ob.up o5 u511).ldA (s := 2) rfl, OP_some]
  refine (WantedP_ok (ns := []) (hMY M11 u511) ho hs hb (Sl.nil _ _ _) (by simp) hnl).mono fun w7 M13 ⟨u13, hw7⟩ => ⟨u13.tdj _ _, ?_⟩
  have u513 := u511.trans u13
  rw [(Ob.up o5 u513).ldA (s := 2) rfl, OP_some]
  refine (WantedD_ok (ns := []) (hMY M13 u513) ho hs hb (Sl.nil _ _ _) (by simp) hnl).mono fun w8 M14 ⟨u14, hw8⟩ => ⟨u14.tdx _ _ _, ?_⟩
  have u514 := u513.trans u14
  refine gr_same (hw7.lv.up u14) hw8.lv (by have := hwl (nmsD [] ns); omega) ⟨(rf M14).tdx _ _ _, ?_⟩
  rw [BR_true, bs_m0]
  refine (WantedP_ok (rs := []) (ds := []) ⟨_, _, rfl, rl_nil _, Sl.nil _ _ _⟩ ManI.nil.ok ManI.nil.sm ManI.nil.bk (Sl.up h7 (u05.trans u514)) hnl (by simp)).mono fun w9 M16 ⟨u16, hw9⟩ => ⟨u16.tdx _ _ _, ?_⟩
  have e9 : nint (wanN [] (nmsD ns [])) = [] := by
    have := wan_len [] (nmsD ns [])
    have h0 : wanN [] (nmsD ns []) = [] := List.length_eq_zero_iff.1 (by simpa using this)
    rw [h0]; rfl
  rw [e9] at hw9
  rw [hw9.lv.len, OP_some, eql_l (a := ([] : List Int).length) 0 0 rfl, BR_dec, if_pos (show ([] : List Int).length = 0 from rfl)]
  refine (awake8_ok M16).mono fun v M17 ⟨e1, e2⟩ => ?_
  subst e1; subst e2
  exact ⟨(rf _).tdx _ _ _, rfl, hQ _⟩
theorem GrphRules_ok {M : Store} {x0 : Value} {ts : List Int} (h0 : LV iv Ty.int M x0 ts) (hx : LV iv Ty.int M x1 zs) : R F.l8_GrphRules #[x0, x1] M fun v _ => v = tv true := by
  refine R.cps fun Q hQ => ?_
  have hQ : ∀ M, Q (tv true) M := fun M => hQ _ _ rfl
  apply T_l8_GrphRules
  unfold S_l8_GrphRules
  refine ManParse h0 fun v M2 u2 hv => ?_
  rw [(tp2 _ _).1, (tp2 _ _).2]
  refine man_box hv fun vR vD M6 u6 o hR hD => ?_
  show OP (binI .neq (iv ((0 : Nat) : Int)) (.int .i64 0)) _
  rw [neq_l 0 0 rfl, BR_dec, if_neg (by simp)]
  have hx6 := (hx.up u2).up u6
  have hi := manF_i ts
  have loop : ∀ (d i : Nat) (x7 : Value) (ns : List (List UInt8)) (M' : Store), d + i = 4 → ns.length ≤ i → Up M6 M' → NV sv Ty.string M6 M' x7 ns → P_l8_GrphRules_1 x1 (pt M2.n) x7 (iv (i : Int)) M' Q := by
    intro d
    induction d with
    | zero =>
      intro i x7 ns M' hd hl hu hN
      apply T_l8_GrphRules_1
      unfold S_l8_GrphRules_1
      rw [(hx6.up hu).len, OP_some, lss_n, BR_dec]
      have fin := gr_3 hi hQ (Ob.up o hu) (hR.up hu) (Sl.up hD hu) hN.lv (by omega)
      split
      · rw [lss_l 4 4 rfl, BR_dec, if_neg (by omega)]; exact fin
      · exact fin
    | succ d ih =>
      intro i x7 ns M' hd hl hu hN
      apply T_l8_GrphRules_1
      unfold S_l8_GrphRules_1
      rw [(hx6.up hu).len, OP_some, lss_n, BR_dec]
      have fin := gr_3 hi hQ (Ob.up o hu) (hR.up hu) (Sl.up hD hu) hN.lv (by omega)
      split
      · rename_i hil
        rw [lss_l 4 4 rfl, BR_dec, if_pos (by omega)]
        apply T_l8_GrphRules_2
        unfold S_l8_GrphRules_2
        rw [bl_8x]
        refine lit_s (cs := nmX) rfl fun M7 u7 h7 => ?_
        obtain ⟨p, e1, e2⟩ := (hx6.up (hu.trans u7)).at hil .i64
        rw [e1, OP_some, e2, OP_some]
        show OP (binI .and (.int .i64 zs[i]) (.int .i64 ((7 : Nat) : Int))) _
        rw [e_andN _ 7 (by decide), OP_some]
        have hq := andN_le zs[i] 7 (by decide)
        show OP (ixA 1 (.slice (some ⟨M'.n, 0, none⟩) 8 8) (iv (andN zs[i] 7 : Int))) _
        rw [nm_ld h7 (show _ < 8 by omega), bl_s1', LT_eq]
        refine NV.app1 (M0 := M6) (Mb := M6) (hu.trans u7) (Nat.le_refl _) (hu.trans u7).n (Nw.up hN u7) (nmX.getD (andN zs[i] 7) []) rfl (by omega) fun w M8 hu8 hN8 _ _ => ?_
        rw [add1_n _ (by omega)]
        exact ih (i + 1) w _ M8 (by omega) (by simp; omega) hu8 hN8
      · exact fin
  exact loop 4 0 _ [] M6 rfl (by simp) (Ch.refl _ _) NV.nil
end
end Go.G
