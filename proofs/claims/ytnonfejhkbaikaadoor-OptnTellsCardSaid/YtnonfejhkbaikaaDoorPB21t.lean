/- OptnTells: options are told as the document tells them, and read back. -/
import Derived.Test.YtnonfejhkbaikaaDoorPW21t
import Derived.Test.YtnonfejhkbaikaaDoorPGIt
namespace Go.G
open Go.Ab Go.Proofs Go.RowKit
set_option linter.unusedVariables false
set_option linter.unusedSimpArgs false
set_option maxRecDepth 100000

theorem awake21t_ok {M : Store} {Q : Value → Store → Prop} (hQ : Q (tv true) M) : R F.fettlelaw21_awake #[] M Q := R_told (g := yes0) (by kernel_rfl) rfl hQ
theorem and_nT (n : Int) (m : Nat) (hm : m < 2 ^ 62) (K : Value → Prop) : OP (binI .and (.int .i64 n) (.int .i64 (m : Int))) K = K (iv (andN n m : Int)) := by
  rw [e_andN n m hm, OP_some]
def nm16 : List (List UInt8) := [[100, 114, 121], [102, 97, 115, 116], [99, 108, 101, 97, 110], [116, 111], [97], [98], [120, 46, 111], [], [65], [100, 114, 121], [116, 111], [102, 97, 115, 116], [116, 111], [99], [100], [101]]
theorem nm16_len : ∀ t ∈ nm16, t.length ≤ 5 := fun t ht => of_decide_eq_true (List.all_eq_true.1 (show nm16.all (fun t => decide (t.length ≤ 5)) = true by kernel_rfl) t ht)
theorem bl_16 (K : List Value → Prop) : OP (bldL (.string ⟨#[]⟩) 1 16 [(0, (.string ⟨#[100, 114, 121]⟩)), (1, (.string ⟨#[102, 97, 115, 116]⟩)), (2, (.string ⟨#[99, 108, 101, 97, 110]⟩)), (3, (.string ⟨#[116, 111]⟩)), (4, (.string ⟨#[97]⟩)), (5, (.string ⟨#[98]⟩)), (6, (.string ⟨#[120, 46, 111]⟩)), (7, (.string ⟨#[]⟩)), (8, (.string ⟨#[65]⟩)), (9, (.string ⟨#[100, 114, 121]⟩)), (10, (.string ⟨#[116, 111]⟩)), (11, (.string ⟨#[102, 97, 115, 116]⟩)), (12, (.string ⟨#[116, 111]⟩)), (13, (.string ⟨#[99]⟩)), (14, (.string ⟨#[100]⟩)), (15, (.string ⟨#[101]⟩))]) K = K (nm16.map sv) := by kernel_rfl
theorem bl_3 (x y z : ByteArray) (K : List Value → Prop) : OP (bldL (.string ⟨#[]⟩) 1 3 [(0, .string x), (1, .string y), (2, .string z)]) K = K [.string x, .string y, .string z] := by kernel_rfl
theorem parseO_names {s : List UInt8} {y : OpT} (h : parseO s = some y) : y.2.2.2.length ≤ s.length + 1 ∧ ∀ x ∈ y.2.2.2, x.length ≤ s.length := by
  unfold parseO at h
  split at h
  · injection h with h; subst h
    have hwl : (wordsS s).length ≤ s.length + 1 ∧ ∀ x ∈ wordsS s, x.length ≤ s.length := by
      unfold wordsS
      split
      · simp
      · exact cutF_len 32 s
    obtain ⟨h1, h2⟩ := readO_names (wordsS s) false false false
    exact ⟨by omega, fun x hx => hwl.2 x (h2 x hx)⟩
  · cases h
theorem printO_len (o : OpT) : (printO o).length ≤ 204 := by
  unfold printO
  split
  · rename_i hok
    have h1 := wordsO_len hok
    have h2 := joinL_len 16 (wordsO o) h1.2
    have h3 := Nat.mul_le_mul_right (16 + 1) h1.1
    omega
  · simp
section
variable {M1 : Store} {b : Nat} {o : OpT} {a : Option Addr} {c : Nat} {Q : Value → Store → Prop} {x1 x2 : Value} {bs : List UInt8} {ns : List Int}
theorem ot_11 (hQ : ∀ M, Q (tv true) M) (hl : o.2.2.2.length ≤ 12) (hx : ∀ x ∈ o.2.2.2, x.length ≤ 60) (o1 : Ob M1 b (ocs o a c) Ty.api_Options) (l1 : LV sv Ty.string M1 (.slice a o.2.2.2.length c) o.2.2.2) {M : Store} (hu : Up M1 M) :
    P_fettlelaw21_OptnTells_11 (pO b) M Q := by
  apply T_fettlelaw21_OptnTells_11
  unfold S_fettlelaw21_OptnTells_11
  have OV1 : ∀ Mx, Up M1 Mx → OV Mx (.agg (ocs o a c).toArray) o := fun Mx u => ⟨a, c, rfl, l1.up u⟩
  rw [(o1.up hu).ldA (s := 4) rfl, OP_some]
  refine (ROptions_ok (OV1 M hu) (by omega) (fun x h => by have := hx x h; omega)).mono fun r M2 ⟨u2, e⟩ => ?_
  subst e
  have hpl := printO_len o
  refine (OParse_ok (s := printO o) (by omega)).mono fun r M3 ⟨u3, w, e, hw⟩ => ?_
  subst e
  have hpb : ∃ p, parseO (printO o) = some p ∧ (printO o ≠ [] → p = o) ∧ (o = zeroO → p = o) ∧ (printO o = [] → ¬ o = zeroO → p = zeroO) := by
    rw [parse_back o]
    refine ⟨_, rfl, fun h => if_pos (.inl h), fun h => if_pos (.inr h), fun h h2 => if_neg ?_⟩
    rintro (h3 | h3)
    · exact h3 h
    · exact h2 h3
  obtain ⟨p, hp, hp1, hp2, hp3⟩ := hpb
  rw [hp] at hw ⊢
  rw [(tp2 _ _).1, (tp2 _ _).2]
  obtain ⟨aw, cw, rfl, hlw⟩ := hw
  simp only [Option.getD_some] at hlw ⊢
  refine s_new fun M4 u4 p4 n4 => ?_
  refine s_st (vs := ocs p aw cw) p4 rfl rfl (ocs_one _ _ _) fun M5 c5 p5 _ => ?_
  have u5 : Up M1 M5 := (((hu.trans u2).trans u3).trans u4).ch c5 (by simp; exact ((hu.trans u2).trans u3).n)
  have hlw5 : LV sv Ty.string M5 (.slice aw p.2.2.2.length cw) p.2.2.2 := Sl.keep (hlw.up u4) (by decide) (c5.keepT p4)
  have OV2 : ∀ Mx, Up M5 Mx → OV Mx (.agg (ocs p aw cw).toArray) p := fun Mx u => ⟨aw, cw, rfl, hlw5.up u⟩
  rw [(o1.up u5).ldA (s := 4) rfl, OP_some, bs_o0]
  refine (same_ok (OV1 M5 u5) (OV.zero M5) (by omega)).mono fun r M6 ⟨u6, e⟩ => ?_
  subst e
  have u16 := u5.trans u6
  rw [(o1.up u16).ldA (s := 4) rfl, OP_some]
  refine (ROptions_ok (OV1 M6 u16) (by omega) (fun x h => by have := hx x h; omega)).mono fun r M7 ⟨u7, e⟩ => ?_
  subst e
  have u17 := u16.trans u7
  have u57 := u6.trans u7
  have hpn : p.2.2.2.length ≤ 2 ^ 40 := by have := (parseO_names hp).1; omega
  have yes : p = o → R F.fettlelaw21_same #[.agg (ocs p aw cw).toArray, .agg (ocs o a c).toArray] M7 fun t131 M8 => BR t131 (R F.fettlelaw21_awake #[] M8 fun t134 M9 => NTs [t134] ∧ Q t134 M9) (NTs [(.bool false)] ∧ Q (.bool false) M8) := fun he => by
    refine (same_ok (OV2 M7 u57) (OV1 M7 u17) hpn).mono fun r M8 ⟨u8, e⟩ => ?_
    subst e
    rw [BR_dec, if_pos he]
    exact awake21t_ok ⟨rfl, hQ _⟩
  show OP (binS .neq (sv (printO o)) (sv [])) _
  rw [sv_ne, BR_dec]
  split
  · rename_i hne
    rw [BR_bool, if_pos (show (some p).isSome = true from rfl), (p5.up u57).ldA (s := 4) rfl, OP_some, (o1.up u17).ldA (s := 4) rfl, OP_some]
    exact yes (hp1 hne)
  · rename_i hne
    rw [BR_dec]
    split
    · rename_i hz
      rw [BR_bool, if_pos (show (some p).isSome = true from rfl), (p5.up u57).ldA (s := 4) rfl, OP_some, (o1.up u17).ldA (s := 4) rfl, OP_some]
      exact yes (hp2 hz)
    · rename_i hz
      rw [BR_bool, if_pos (show (some p).isSome = true from rfl), (p5.up u57).ldA (s := 4) rfl, OP_some, bs_o0]
      refine (same_ok (OV2 M7 u57) (OV.zero M7) hpn).mono fun r M8 ⟨u8, e⟩ => ?_
      subst e
      rw [BR_dec, if_pos (hp3 (by simpa using hne) hz)]
      exact awake21t_ok ⟨rfl, hQ _⟩
theorem ot_8 (hQ : ∀ M, Q (tv true) M) (hl : o.2.2.2.length ≤ 12) (hx : ∀ x ∈ o.2.2.2, x.length ≤ 60) (o1 : Ob M1 b (ocs o a c) Ty.api_Options) (l1 : LV sv Ty.string M1 (.slice a o.2.2.2.length c) o.2.2.2)
    {M0 : Store} {v : Value} {ts : List (List UInt8)} (hu0 : Up M1 M0) (hv : LV sv Ty.string M0 v ts) (ht : ∀ t ∈ ts, t.length ≤ 300) (hn : ts.length ≤ 3) :
    ∀ (k i : Nat) (M : Store), k + i = ts.length → Up M0 M → P_fettlelaw21_OptnTells_8 (pO b) v (iv (ts.length : Int)) (iv (i : Int)) M Q := by
  intro k
  induction k with
  | zero =>
    intro i M hi hu
    apply T_fettlelaw21_OptnTells_8
    unfold S_fettlelaw21_OptnTells_8
    rw [lss_n, BR_dec, if_neg (by omega)]
    exact ot_11 hQ hl hx o1 l1 (hu0.trans hu)
  | succ k ih =>
    intro i M hi hu
    have hil : i < ts.length := by omega
    apply T_fettlelaw21_OptnTells_8
    unfold S_fettlelaw21_OptnTells_8
    rw [lss_n, BR_dec, if_pos hil]
    apply T_fettlelaw21_OptnTells_10
    unfold S_fettlelaw21_OptnTells_10
    obtain ⟨q, e1, e2⟩ := (hv.up hu).at hil .i64
    have hlen := ht _ (List.getElem_mem hil)
    rw [e1, OP_some, e2, OP_some]
    generalize ts[i] = x at *
    refine (OParse_ok (s := x) (by omega)).mono fun r M2 ⟨u2, w, e, hw⟩ => ?_
    subst e
    rw [(tp2 _ _).1, (tp2 _ _).2]
    obtain ⟨aw, cw, rfl, hlw⟩ := hw
    refine s_new fun M3 u3 p3 n3 => ?_
    refine s_st (vs := ocs ((parseO x).getD zeroO) aw cw) p3 rfl rfl (ocs_one _ _ _) fun M4 c4 p4 _ => ?_
    have u4 : Up M0 M4 := ((hu.trans u2).trans u3).ch c4 (by simp; exact (hu.trans u2).n)
    have hlw4 : LV sv Ty.string M4 (.slice aw ((parseO x).getD zeroO).2.2.2.length cw) ((parseO x).getD zeroO).2.2.2 := Sl.keep (hlw.up u3) (by decide) (c4.keepT p3)
    have hOV : OV M4 (.agg (ocs ((parseO x).getD zeroO) aw cw).toArray) ((parseO x).getD zeroO) := ⟨aw, cw, rfl, hlw4⟩
    rw [p4.ldA (s := 4) rfl]
    cases hy : parseO x with
    | some y =>
      rw [hy] at hOV
      rw [BR_bool, if_pos (show (some y).isSome = true from rfl), OP_some]
      have hyn := parseO_names hy
      simp only [Option.getD_some] at hOV ⊢
      refine (ROptions_ok hOV (by omega) (fun z hz => by have := hyn.2 z hz; omega)).mono fun r M5 ⟨u5, e⟩ => ?_
      subst e
      rw [parseO_some hy, sv_ne, BR_dec, if_neg (by simp), e_not]
      show BR3 (.bool false) _ _ _
      rw [BR3_f, add1_n _ (by omega)]
      exact ih (i + 1) M5 (by omega) (u4.trans u5)
    | none =>
      rw [hy] at hOV
      rw [BR_bool, if_neg (show ¬ (none : Option OpT).isSome = true by simp), e_not]
      show BR3 (.bool true) _ _ _
      rw [BR3_t, OP_some, bs_o0]
      simp only [Option.getD_none] at hOV ⊢
      refine (same_ok hOV (OV.zero M4) (by simp [zeroO])).mono fun r M5 ⟨u5, e⟩ => ?_
      subst e
      rw [decide_eq_true rfl, e_not, BR_bool, if_neg (by simp), add1_n _ (by omega)]
      exact ih (i + 1) M5 (by omega) (u4.trans u5)
theorem ot_4 (hQ : ∀ M, Q (tv true) M) (hl : o.2.2.2.length ≤ 12) (hx : ∀ x ∈ o.2.2.2, x.length ≤ 60) (o1 : Ob M1 b (ocs o a c) Ty.api_Options) (l1 : LV sv Ty.string M1 (.slice a o.2.2.2.length c) o.2.2.2)
    (hb : By Ty.uint8 M1 x1 bs) (hbl : bs.length ≤ 100) (hns : LV iv Ty.int M1 x2 ns) :
    ∀ (k i : Nat) (M : Store) (s : List UInt8), k + i = 12 → s.length ≤ 6 * i → Up M1 M → P_fettlelaw21_OptnTells_4 x1 x2 (pO b) (sv s) (iv (i : Int)) M Q := by
  have s6 : ∀ (M : Store) (s : List UInt8), s.length ≤ 72 → Up M1 M → P_fettlelaw21_OptnTells_6 x1 (pO b) (sv s) M Q := by
    intro M s hs hu
    apply T_fettlelaw21_OptnTells_6
    unfold S_fettlelaw21_OptnTells_6
    rw [cvBS_ok (hb.up hu), OP_some, (o1.up hu).ldA (s := 4) rfl, OP_some]
    refine (ROptions_ok ⟨a, c, rfl, l1.up hu⟩ (by omega) (fun x h => by have := hx x h; omega)).mono fun r M2 ⟨u2, e⟩ => ⟨u2.tdj _ _, ?_⟩
    subst e
    rw [bl_3]
    refine s_lit (s := 1) (n := 3) rfl fun M3 u3 hN3 o3 n3 => ?_
    have h3 : LV sv Ty.string M3 (.slice (some ⟨M2.n, 0, none⟩) 3 3) [bs, s, printO o] := Nw.sl hN3
    rw [h3.len, OP_some]
    have hpl := printO_len o
    refine ot_8 hQ hl hx o1 l1 ((hu.trans u2).trans u3) h3 (fun t ht => ?_) (by simp) 3 0 M3 rfl (Ch.refl _ _)
    simp only [List.mem_cons, List.not_mem_nil, or_false] at ht
    rcases ht with rfl | rfl | rfl <;> omega
  intro k
  induction k with
  | zero =>
    intro i M s hi hs hu
    apply T_fettlelaw21_OptnTells_4
    unfold S_fettlelaw21_OptnTells_4
    rw [hns.len, OP_some, lss_n, BR_dec]
    split
    · rw [lss_l 12 12 rfl, BR_dec, if_neg (by omega)]
      exact s6 M s (by omega) hu
    · exact s6 M s (by omega) hu
  | succ k ih =>
    intro i M s hi hs hu
    apply T_fettlelaw21_OptnTells_4
    unfold S_fettlelaw21_OptnTells_4
    rw [hns.len, OP_some, lss_n, BR_dec]
    split
    · rename_i hil
      rw [lss_l 12 12 rfl, BR_dec, if_pos (by omega)]
      have s7 : ∀ t : List UInt8, t.length ≤ 6 * i + 1 → P_fettlelaw21_OptnTells_7 x1 x2 (pO b) (sv t) (iv (i : Int)) M Q := by
        intro t htl
        apply T_fettlelaw21_OptnTells_7
        unfold S_fettlelaw21_OptnTells_7
        rw [bl_16]
        refine s_lit (s := 1) (n := 16) rfl fun M2 u2 hN2 o2 n2 => ?_
        have h2 : LV sv Ty.string M2 (.slice (some ⟨M.n, 0, none⟩) 16 16) nm16 := Nw.sl hN2
        obtain ⟨q, e1, e2⟩ := (hns.up (hu.trans u2)).at hil .i64
        rw [e1, OP_some, e2, OP_some]
        show OP (binI .and (.int .i64 ns[i]) (.int .i64 ((15 : Nat) : Int))) _
        rw [and_nT _ 15 (by decide)]
        have hq := andN_le ns[i] 15 (by decide)
        generalize andN ns[i] 15 = z at *
        have hzl : z < nm16.length := by show z < 16; omega
        obtain ⟨q', g1, g2⟩ := h2.at hzl .i64
        have hwl := nm16_len _ (List.getElem_mem hzl)
        rw [g1, OP_some, g2, OP_some, sv_add _ _ (by omega)]
        apply T_fettlelaw21_OptnTells_9
        unfold S_fettlelaw21_OptnTells_9
        rw [add1_n _ (by omega)]
        exact ih (i + 1) M2 _ (by omega) (by rw [List.length_append]; omega) (hu.trans u2)
      apply T_fettlelaw21_OptnTells_5
      unfold S_fettlelaw21_OptnTells_5
      have sp : OP (binS .add (sv s) (.string ⟨#[32]⟩)) (fun t67 => P_fettlelaw21_OptnTells_7 x1 x2 (pO b) t67 (iv (i : Int)) M Q) := by
        show OP (binS .add (sv s) (sv [32])) _
        rw [sv_add _ _ (by simp; omega)]
        exact s7 _ (by simp; omega)
      rw [gtr_l 0 0 rfl, BR_dec]
      split
      · exact sp
      · obtain ⟨q, e1, e2⟩ := (hns.up hu).at hil .i64
        rw [e1, OP_some, e2, OP_some]
        show OP (binI .shr (.int .i64 ns[i]) (.int .u64 ((8 : Nat) : Int))) _
        rw [e_shrN _ 8 (by decide)]
        show OP (binI .and (.int .i64 (shrN ns[i] 8)) (.int .i64 ((7 : Nat) : Int))) _
        rw [and_nT _ 7 (by decide), eql_l 0 0 rfl, BR_dec]
        split
        · exact sp
        · exact s7 s (by omega)
    · exact s6 M s (by omega) hu
theorem ot_1 (hQ : ∀ M, Q (tv true) M) (hl : o.2.2.2.length ≤ 12) (o1 : Ob M1 b (ocs o a c) Ty.api_Options) (l1 : LV sv Ty.string M1 (.slice a o.2.2.2.length c) o.2.2.2)
    (hb : By Ty.uint8 M1 x1 bs) (hbl : bs.length ≤ 100) (hns : LV iv Ty.int M1 x2 ns) :
    ∀ (k i : Nat), k + i = o.2.2.2.length → (∀ x ∈ o.2.2.2.take i, x.length ≤ 60) → P_fettlelaw21_OptnTells_1 x1 x2 (pO b) (.slice a o.2.2.2.length c) (iv (o.2.2.2.length : Int)) (iv (i : Int)) M1 Q := by
  intro k
  induction k with
  | zero =>
    intro i hi hx
    apply T_fettlelaw21_OptnTells_1
    unfold S_fettlelaw21_OptnTells_1
    rw [lss_n, BR_dec, if_neg (by omega)]
    rw [List.take_of_length_le (by omega)] at hx
    apply T_fettlelaw21_OptnTells_3
    unfold S_fettlelaw21_OptnTells_3
    rw [o1.ldA (s := 4) rfl, OP_some]
    refine (OPrint_ok (o := o) ⟨a, c, rfl, l1⟩ (by omega) (fun x h => by have := hx x h; omega)).mono fun r M2 ⟨u2, e⟩ => ⟨u2.tdj _ _, ?_⟩
    subst e
    rw [(o1.up u2).ldA (s := 4) rfl, OP_some]
    refine (ROptions_ok (o := o) ⟨a, c, rfl, l1.up u2⟩ (by omega) (fun x h => by have := hx x h; omega)).mono fun r M3 ⟨u3, e⟩ => ⟨u3.tdx _ _ _, ?_⟩
    subst e
    rw [sv_ne, BR_dec, if_neg (by simp)]
    exact ot_4 hQ hl hx o1 l1 hb hbl hns 12 0 M3 [] rfl (by simp) (u2.trans u3)
  | succ k ih =>
    intro i hi hx
    have hil : i < o.2.2.2.length := by omega
    apply T_fettlelaw21_OptnTells_1
    unfold S_fettlelaw21_OptnTells_1
    rw [lss_n, BR_dec, if_pos hil]
    apply T_fettlelaw21_OptnTells_2
    unfold S_fettlelaw21_OptnTells_2
    obtain ⟨q, e1, e2⟩ := l1.at hil .i64
    rw [e1, OP_some, e2, OP_some, sv_len, gtr_l 60 60 rfl, BR_dec]
    split
    · exact awake21t_ok ⟨rfl, hQ _⟩
    · rename_i h60
      rw [add1_n _ (by omega)]
      refine ih (i + 1) (by omega) fun x h => ?_
      rw [List.take_succ_eq_append_getElem hil] at h
      rcases List.mem_append.1 h with h | h
      · exact hx x h
      · rw [List.mem_singleton.1 h]; omega
end
theorem OptnTells_ok {M : Store} {x0 x1 x2 : Value} {o : OpT} {bs : List UInt8} {ns : List Int} (h0 : OV M x0 o) (h1 : By Ty.uint8 M x1 bs) (h2 : Sl 1 Ty.int M x2 ns.length (ns.map iv)) : R F.fettlelaw21_OptnTells #[x0, x1, x2] M fun v M' => v = tv true := by
  refine R.cps fun Q hQ => ?_
  have hQ : ∀ M, Q (tv true) M := fun M => hQ _ _ rfl
  apply T_fettlelaw21_OptnTells
  unfold S_fettlelaw21_OptnTells
  refine ov_box h0 fun a c M1 _ u1 o1 l1 n1 => ?_
  have hb := h1.up u1
  have hns : LV iv Ty.int M1 x2 ns := Sl.up h2 u1
  rw [hb.lenV, OP_some, gtr_l 100 100 rfl, BR_dec]
  split
  · exact awake21t_ok ⟨rfl, hQ _⟩
  rename_i hbl
  simp only [fad0, o1.l4]
  rw [l1.len, OP_some, gtr_l 12 12 rfl, BR_dec]
  split
  · exact awake21t_ok ⟨rfl, hQ _⟩
  rename_i hl
  exact ot_1 hQ (by omega) o1 l1 hb (by omega) hns o.2.2.2.length 0 rfl (by simp)
end Go.G
