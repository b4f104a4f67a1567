/- OptnBack: options are read as they were told. -/
import Derived.Test.YtnonfejhkbaikaaDoorPW21q
import Derived.Test.YtnonfejhkbaikaaDoorPGIb
namespace Go.G
open Go.Ab Go.Proofs Go.RowKit
set_option linter.unusedVariables false
set_option linter.unusedSimpArgs false
set_option maxRecDepth 100000

theorem awake21_ok {M : Store} {Q : Value → Store → Prop} (hQ : Q (tv true) M) : R F.fettlelaw21_awake #[] M Q := R_told (g := yes0) (by kernel_rfl) rfl hQ
def nmO : List (List UInt8) := [[97], [98, 46, 111], [116, 111], [100, 114, 121]]
theorem nmO_ok : ∀ t ∈ nmO, okF t = true := List.all_eq_true.1 (by kernel_rfl)
theorem bs_o3 (x y z : Bool) (K : Value → Prop) : OP (bldS #[(.bool false), (.bool false), (.bool false), (.slice none 0 0)] [(0, 1), (1, 1), (2, 1), (3, 1)] [(0, tv x), (1, tv y), (2, tv z)]) K = K (.agg [tv x, tv y, tv z, .slice none 0 0].toArray) := by cases x <;> cases y <;> cases z <;> kernel_rfl
theorem and1_eq (n : Int) (K : Value → Prop) : (OP (binI .and (.int .i64 n) (.int .i64 1)) fun t6 => OP (binI .eql t6 (.int .i64 1)) K) = K (tv (decide (andN n 1 = 1))) := by
  have e : binI .and (.int .i64 n) (.int .i64 1) = some (.int .i64 (andN n 1 : Int)) := e_andN n 1 (by decide)
  rw [e, OP_some]
  exact eql_l 1 1 rfl K
theorem and_n (n : Int) (m : Nat) (hm : m < 2 ^ 62) (K : Value → Prop) : OP (binI .and (.int .i64 n) (.int .i64 (m : Int))) K = K (iv (andN n m : Int)) := by
  rw [e_andN n m hm, OP_some]
section
variable {M0 : Store} {n : Int} {b2 b3 : Nat} {x y z : Bool} {Q : Value → Store → Prop}
theorem c1_loop (hb2 : M0.n ≤ b2) (hb3 : M0.n ≤ b3) (hne : b2 ≠ b3) (hQ : ∀ v M' o, Up M0 M' → OV M' v o → oOk o = true → Q v M') {zz : List Value} (hz : zz.length = 4) :
    ∀ (k i : Nat) (M : Store) (a : Option Addr) (c : Nat) (l : List (List UInt8)), k + i = 9 → l.length = i → Up M0 M → Ob M b2 zz Ty.api_Options → Ob M b3 [tv x, tv y, tv z, .slice a l.length c] Ty.api_Options → NV sv Ty.string M0 M (.slice a l.length c) l → l.all okF = true → i ≤ 8 →
      P_fettlelaw21_OptnBack_c1_1 (.int .i64 n) (pO b2) (pO b3) (iv (i : Int)) M Q := by
  intro k
  have hm : andN (shrN n 3) 255 % 9 < 9 := Nat.mod_lt _ (by decide)
  induction k with
  | zero => intro i M a c l hi hl hu o2 o3 hN ha h8; omega
  | succ k ih =>
    intro i M a c l hi hl hu o2 o3 hN ha h8
    apply T_fettlelaw21_OptnBack_c1_1
    unfold S_fettlelaw21_OptnBack_c1_1
    show OP (binI .shr (.int .i64 n) (.int .u64 ((3 : Nat) : Int))) _
    rw [e_shrN n 3 (by decide)]
    show OP (binI .and (.int .i64 (shrN n 3)) (.int .i64 ((255 : Nat) : Int))) _
    rw [and_n _ 255 (by decide)]
    have er : binI .rem (iv (andN (shrN n 3) 255 : Int)) (.int .i64 9) = some (iv ((andN (shrN n 3) 255 % 9 : Nat) : Int)) := e_rem _ 9 (by decide)
    rw [er, OP_some, lss_n, BR_dec]
    split
    · rename_i hlt
      apply T_fettlelaw21_OptnBack_c1_2
      unfold S_fettlelaw21_OptnBack_c1_2
      simp only [fad0, o3.l4]
      have e4 : ∀ K : List Value → Prop, OP (bldL (.string ⟨#[]⟩) 1 4 [(0, (.string ⟨#[97]⟩)), (1, (.string ⟨#[98, 46, 111]⟩)), (2, (.string ⟨#[116, 111]⟩)), (3, (.string ⟨#[100, 114, 121]⟩))]) K = K (nmO.map sv) := fun K => by kernel_rfl
      rw [e4]
      refine s_lit (s := 1) (n := 4) rfl fun M1 u1 hN1 o1 n1 => ?_
      have em : binI .mul (.int .i64 2) (iv (i : Int)) = some (iv ((2 * i : Nat) : Int)) := by
        have h : binI .mul (.int .i64 2) (.int .i64 (i : Int)) = some (.int .i64 (IntKind.wrap .i64 (2 * (i : Int)))) := rfl
        show binI .mul (.int .i64 2) (.int .i64 (i : Int)) = _
        rw [h, w64 (by omega) (by omega)]
        congr 2
      rw [em, OP_some]
      show OP (binI .add (iv ((8 : Nat) : Int)) (iv ((2 * i : Nat) : Int))) _
      rw [add_n _ _ (by omega)]
      have ec : ∀ K : Value → Prop, OP (cvI .u64 (iv ((8 + 2 * i : Nat) : Int))) K = K (.int .u64 ((8 + 2 * i : Nat) : Int)) := fun K => by
        show OP (cvI .u64 (.int .i64 _)) K = _
        rw [e_cvI]
        have : IntKind.wrap .u64 ((8 + 2 * i : Nat) : Int) = ((8 + 2 * i : Nat) : Int) := by simp [IntKind.wrap, IntKind.bits, IntKind.signed]; omega
        rw [this]
      rw [ec, e_shrN n (8 + 2 * i) (by omega)]
      show OP (binI .and (.int .i64 _) (.int .i64 ((3 : Nat) : Int))) _
      rw [and_n _ 3 (by decide)]
      have hq := andN_le (shrN n (8 + 2 * i)) 3 (by decide)
      generalize andN (shrN n (8 + 2 * i)) 3 = q at *
      have hql : q < nmO.length := by show q < 4; omega
      obtain ⟨p, e1, e2⟩ := (show LV sv Ty.string M1 _ nmO from Nw.sl hN1).at hql .i64
      have hok := nmO_ok _ (List.getElem_mem hql)
      rw [e1, OP_some, e2, OP_some]
      generalize nmO[q] = t at *
      rw [bl_sv1]
      refine s_lit (s := 1) (n := 1) rfl fun M2 u2 hN2 o22 n2 => ?_
      have hw2 : LV sv Ty.string M2 (.slice (some ⟨M1.n, 0, none⟩) 1 1) [t] := Nw.sl hN2
      have u12 := u1.trans u2
      have hN' := Nw.up hN u12
      refine NV.apps (M0 := M0) (hu.trans u12) (Nat.le_refl _) (hu.trans u12).n hN' hw2 (by rw [List.length_singleton]; omega) fun v3 M3 u3 hN3 c3 n3 => ?_
      refine ⟨tdxO21 c3 fun b hb => ?_, ?_⟩
      · obtain ⟨g1, g2⟩ := Nw.bx_in hN (mem_kl.1 hb)
        obtain ⟨cells, g3⟩ := hN'.kl_inl hb
        exact ⟨by rw [g3]; rfl, .inl g2⟩
      obtain ⟨va, vc, rfl⟩ := hN3.sl.slice
      have k3 : Keep Ty.string M2 M3 := Nw.keepE hN' c3
      have o33 := (o3.up u12).keep (show Ty.api_Options ≠ Ty.string by decide) k3
      have o23 := (o2.up u12).keep (show Ty.api_Options ≠ Ty.string by decide) k3
      refine s_st1 (i := 3) (w := .slice va (l ++ [t]).length vc) o33 (by simp) (cells_sl _ _ _) (oc_sl _ _ _) fun M4 c4 o4 _ => ⟨c4.tdx o33 (by show b3 < M.n; exact o3.lt), ?_⟩
      rw [add1_n _ (by omega)]
      exact ih (i + 1) M4 va vc (l ++ [t]) (by omega) (by simp [hl]) (u3.ch c4 (by simpa using hb3)) (o23.fr c4 (by simpa using hne)) o4 (Nw.keep hN3 (by decide) (c4.keepT o33)) (by rw [List.all_append, ha]; simp [hok]) (by omega)
    · apply T_fettlelaw21_OptnBack_c1_3
      unfold S_fettlelaw21_OptnBack_c1_3
      rw [o3.ldA (s := 4) rfl, OP_some]
      refine one_res (S := []) (v2 := [tv x, tv y, tv z, .slice a l.length c]) hu o2 hb2 hz rfl (by kernel_rfl) fun M' hu' c' _ => hQ _ _ (x, y, z, l) hu' ⟨a, c, rfl, Sl.keep hN.lv (by decide) (c'.keepT o2)⟩ ?_
      unfold oOk
      simp only
      rw [decide_eq_true (by omega), ha]; rfl
theorem c1_ok {M : Store} {n : Int} : R F.fettlelaw21_OptnBack_c1 #[.int .i64 n] M fun v M' => Up M M' ∧ ∃ o, OV M' v o ∧ oOk o = true := by
  refine R.cps fun Q hQ => ?_
  apply T_fettlelaw21_OptnBack_c1
  unfold S_fettlelaw21_OptnBack_c1
  refine s_new fun M1 u1 o1 n1 => ?_
  rw [and1_eq]
  show OP (binI .shr (.int .i64 n) (.int .u64 ((1 : Nat) : Int))) _
  rw [e_shrN n 1 (by decide), and1_eq]
  show OP (binI .shr (.int .i64 n) (.int .u64 ((2 : Nat) : Int))) _
  rw [e_shrN n 2 (by decide), and1_eq, bs_o3]
  generalize decide (andN n 1 = 1) = x
  generalize decide (andN (shrN n 1) 1 = 1) = y
  generalize decide (andN (shrN n 2) 1 = 1) = z
  refine s_new fun M2 u2 o2 n2 => ?_
  refine s_st (vs := [tv x, tv y, tv z, .slice none 0 0]) o2 rfl rfl (by kernel_rfl) fun M3 c3 o3 _ => ?_
  have u12 := u1.trans u2
  have hlt := o1.lt
  exact c1_loop (M0 := M) (b2 := M.n) (b3 := M1.n) (Nat.le_refl _) u1.n (by omega) (fun v M' o hu hv ho => hQ _ _ ⟨hu, o, hv, ho⟩) (zz := [tv false, tv false, tv false, .slice none 0 0]) rfl 9 0 M3 none 0 [] rfl rfl (u12.ch c3 (by simp; exact u1.n)) ((o1.up u2).fr c3 (by simp; omega)) o3 NV.nil rfl (by decide)
end
theorem OV.len {M : Store} {v : Value} {o : OpT} (h : oOk o = true) : o.2.2.2.length ≤ 8 ∧ ∀ x ∈ o.2.2.2, x.length ≤ 16 := by
  unfold oOk at h
  rw [Bool.and_eq_true, decide_eq_true_eq] at h
  exact ⟨h.1, fun x hx => okF_len16 (List.all_eq_true.1 h.2 x hx)⟩
theorem bool_eqB (a b : Bool) (K : Value → Prop) : OP (abin Tryd.prog false .eql Ty.bool (tv a) (tv b)) K = K (tv (a == b)) := by
  have : abin Tryd.prog false .eql Ty.bool (.bool a) (.bool b) = some (.bool (a == b)) := by kernel_rfl
  rw [this, OP_some]
theorem OptnBack_ok {M : Store} {n m : Int} : R F.fettlelaw21_OptnBack #[iv n, iv m] M fun v M' => v = tv true := by
  refine R.cps fun Q hQ => ?_
  have hQ : ∀ M, Q (tv true) M := fun M => hQ _ _ rfl
  apply T_fettlelaw21_OptnBack
  unfold S_fettlelaw21_OptnBack
  refine c1_ok.mono fun v1 M1 ⟨u1, o, hO, hok⟩ => ?_
  refine c1_ok.mono fun v2 M2 ⟨u2, o', hO', hok'⟩ => ?_
  have hO2 := hO.up u2
  refine s_new fun M3 u3 p3 n3 => ?_
  refine s_new fun M4 u4 p4 n4 => ?_
  obtain ⟨a, c, rfl, hl⟩ := hO2
  obtain ⟨a', c', rfl, hl'⟩ := hO'
  have p34 := p3.up u4
  refine s_st (vs := ocs o a c) p34 rfl rfl (ocs_one _ _ _) fun M5 c5 p5 _ => ?_
  have hlt := p34.lt
  refine s_st (vs := ocs o' a' c') (p4.fr c5 (by simp; omega)) rfl rfl (ocs_one _ _ _) fun M6 c6 p6 _ => ?_
  have p56 := p5.fr c6 (by simp; omega)
  have kk : Keep Ty.api_Options M4 M6 := (c5.keepT p34).trans (c6.keepT (p4.fr c5 (by simp; omega)))
  have h6 : LV sv Ty.string M6 (.slice a o.2.2.2.length c) o.2.2.2 := Sl.keep ((hl.up u3).up u4) (by decide) kk
  have h6' : LV sv Ty.string M6 (.slice a' o'.2.2.2.length c') o'.2.2.2 := Sl.keep ((hl'.up u3).up u4) (by decide) kk
  have hz := OV.len (M := M) (v := .nilFunc) hok
  have hz' := OV.len (M := M) (v := .nilFunc) hok'
  rw [p56.ldA (s := 4) rfl, OP_some]
  have OV1 : ∀ Mx, Up M6 Mx → OV Mx (.agg (ocs o a c).toArray) o := fun Mx u => ⟨a, c, rfl, h6.up u⟩
  have OV2 : ∀ Mx, Up M6 Mx → OV Mx (.agg (ocs o' a' c').toArray) o' := fun Mx u => ⟨a', c', rfl, h6'.up u⟩
  refine (OPrint_ok (OV1 M6 (Ch.refl _ _)) (by omega) (fun x hx => by have := hz.2 x hx; omega)).mono fun s1 M7 ⟨u7, e⟩ => ⟨u7.tdj _ _, ?_⟩
  subst e
  rw [(p6.up u7).ldA (s := 4) rfl, OP_some]
  refine (OPrint_ok (OV2 M7 u7) (by omega) (fun x hx => by have := hz'.2 x hx; omega)).mono fun s2 M8 ⟨u8, e⟩ => ⟨u8.tdx _ _ _, ?_⟩
  subst e
  have hpl : (printO o).length ≤ 2 ^ 20 := by
    unfold printO
    rw [if_pos hok]
    have h1 := wordsO_len hok
    have h2 := joinL_len 16 (wordsO o) h1.2
    have h3 := Nat.mul_le_mul_right (16 + 1) h1.1
    omega
  refine (OParse_ok hpl).mono fun r M9 ⟨u9, w, e, hw⟩ => ?_
  subst e
  rw [parse_print hok] at hw ⊢
  rw [(tp2 _ _).1, (tp2 _ _).2]
  obtain ⟨aw, cw, rfl, hlw⟩ := hw
  simp only [Option.getD_some] at hlw ⊢
  refine s_new fun M10 u10 p10 n10 => ?_
  refine s_st (vs := ocs o aw cw) p10 rfl rfl (ocs_one _ _ _) fun M11 c11 p11 _ => ?_
  have u611 : Up M6 M11 := ((((u7.trans u8).trans u9).trans u10)).ch c11 (by simp; exact ((u7.trans u8).trans u9).n)
  rw [BR_bool, if_pos (show (some o).isSome = true from rfl), p11.ldA (s := 4) rfl, OP_some, (p56.up u611).ldA (s := 4) rfl, OP_some]
  have hlw11 : LV sv Ty.string M11 (.slice aw o.2.2.2.length cw) o.2.2.2 := Sl.keep (hlw.up u10) (by decide) (c11.keepT p10)
  refine (same_ok (M := M11) ⟨aw, cw, rfl, hlw11⟩ (OV1 M11 u611) (by omega)).mono fun v M12 ⟨u12, e⟩ => ?_
  subst e
  rw [BR_bool, if_pos (by simp)]
  have hinj : (printO o = printO o') ↔ o = o' := by
    constructor
    · intro h
      have h1 := parse_print hok
      rw [h, parse_print hok'] at h1
      injection h1 with h1
      exact h1.symm
    · rintro rfl; rfl
  rw [sv_eq, ((p56.up u611).up u12).ldA (s := 4) rfl, OP_some, ((p6.up u611).up u12).ldA (s := 4) rfl, OP_some]
  refine (same_ok (OV1 M12 (u611.trans u12)) (OV2 M12 (u611.trans u12)) (by omega)).mono fun v M13 ⟨u13, e⟩ => ?_
  subst e
  have hd : decide (printO o = printO o') = decide (o = o') := by rw [decide_eq_decide]; exact hinj
  rw [hd, bool_eqB, BR_bool, if_pos (by simp)]
  exact awake21_ok ⟨rfl, hQ _⟩
end Go.G
