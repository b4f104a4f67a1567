/- What the document makes of the statements' two actions: few bytes, or none; which is left open. -/
import Derived.Test.YtpacolplhcfamaaPY16h
import Derived.Test.YtpacolplhcfamaaPGR
namespace Go.G
open Go.Ab Go.Proofs Go.RowKit
set_option linter.unusedVariables false
set_option linter.unusedSimpArgs false
set_option maxRecDepth 100000

theorem wrap_u8X (x : Int) : ∃ c : UInt8, IntKind.wrap .u8 x = (c.toNat : Int) := by
  have h : IntKind.wrap .u8 x = x % 256 := by simp [IntKind.wrap, IntKind.bits, IntKind.signed]
  refine ⟨UInt8.ofNat (x % 256).toNat, ?_⟩
  rw [h, UInt8.toNat_ofNat']
  omega
theorem bv_subX (c : UInt8) (n : Int) : ∃ d : UInt8, ∀ K : Value → Prop, OP (binI .sub (bv c) (.int .u8 n)) K = K (bv d) := by
  obtain ⟨d, h⟩ := wrap_u8X ((c.toNat : Int) - n)
  refine ⟨d, fun K => ?_⟩
  show OP (binI .sub (.int .u8 (c.toNat : Int)) (.int .u8 n)) K = _
  rw [e_sub, h]; rfl
theorem app_cX {M0 M : Store} {x8 : Value} {l : List UInt8} {c : UInt8} (hu : Up M0 M) (hN : N M0 M x8 l) (hl : l.length ≤ 2 ^ 24) {K : Value → Store → Prop} (hK : ∀ v M', Up M0 M' → N M0 M' v (l ++ [c]) → K v M') :
    OP (bldL (.int .u8 0) 1 1 [(0, bv c)]) fun cc => LT (.slice (some ⟨M.n, 0, none⟩) 1 1) (M.push (some (.inl (cc, Ty.uint8, true)))) fun t M1 => OP2 (appV 1 Ty.uint8 x8 t M1) fun v M2 => K v M2 := by
  rw [bl_bv]
  refine s_lit (s := 1) rfl fun M2 u2 h2 o2 n2 => ?_
  have hx2 : By Ty.uint8 M2 (.slice (some ⟨M.n, 0, none⟩) 1 1) [c] := h2.sl
  exact app_by (hu.trans u2) (Nw.up hN u2) hx2 (by rw [List.length_singleton]; omega) fun w3 M3 hu3 hN3 _ => hK w3 M3 hu3 hN3
/-- An action of the statements. -/
def ActZ (d : Dw) : Prop := d = dAll ∨ d = dUp
section
variable {M0 : Store} {x1 : Value} {bx : Nat} {Q : Value → Store → Prop}
theorem chz_end {m : Nat} (hQ : ∀ w M t, Up M0 M → N M0 M w t → t.length ≤ m → Q (.tuple #[w, .bool true]) M) {t : List UInt8} {w : Value} {M : Store} (hu : Up M0 M) (hN : N M0 M w t) (ht : t.length ≤ m) : P_fettleref4_changed_3 w M Q := by
  apply T_fettleref4_changed_3
  unfold S_fettleref4_changed_3
  exact ⟨by obtain ⟨a, c, rfl⟩ := hN.sl.slice; rfl, hQ w M t hu hN ht⟩
theorem chz_up {b : List UInt8} (hb : B M0 x1 b) (hbl : b.length ≤ 400) (o : Ob M0 bx [iv 4, iv 0, sv []] Ty.api_Do) (hQ : ∀ w M t, Up M0 M → N M0 M w t → t.length ≤ 400 → Q (.tuple #[w, .bool true]) M) :
    ∀ (j i : Nat) (x8 : Value) (M : Store) (t : List UInt8), j + i = b.length → t.length = i → Up M0 M → N M0 M x8 t → P_fettleref4_changed_4 x1 (.pointer (some ⟨bx, 0, none⟩)) x8 (iv (i : Int)) M Q := by
  intro j
  induction j with
  | zero =>
    intro i x8 M t hi ht hu hN
    apply T_fettleref4_changed_4
    unfold S_fettleref4_changed_4
    rw [by_len (Sl.up hb hu), lss_n, BR_dec, if_neg (by omega)]
    exact chz_end hQ hu hN (by omega)
  | succ j ih =>
    intro i x8 M t hi ht hu hN
    have hil : i < b.length := by omega
    apply T_fettleref4_changed_4
    unfold S_fettleref4_changed_4
    rw [by_len (Sl.up hb hu), lss_n, BR_dec, if_pos hil]
    apply T_fettleref4_changed_7
    unfold S_fettleref4_changed_7
    have o' := o.up hu
    rw [by_ld (Sl.up hb hu) hil]
    generalize b[i] = c at *
    have p9 : ∀ d : UInt8, P_fettleref4_changed_9 x1 (.pointer (some ⟨bx, 0, none⟩)) x8 (iv (i : Int)) (bv d) M Q := by
      intro d
      apply T_fettleref4_changed_9
      unfold S_fettleref4_changed_9
      simp only [fad0, o'.l3]
      show OP (binI .eql (.int .i64 4) (.int .i64 5)) _
      rw [e_eql, BR_dec, if_neg (by decide)]
      refine app_cX hu hN (by omega) fun v M' hu' hN' => ?_
      apply T_fettleref4_changed_10
      unfold S_fettleref4_changed_10
      rw [add1_n _ (by omega)]
      exact ih (i + 1) v M' _ (by omega) (by simp [ht]) hu' hN'
    simp only [fad0, o'.l3]
    show OP (binI .eql (.int .i64 4) (.int .i64 4)) _
    rw [e_eql, BR_dec, if_pos rfl]
    rw [bv_geI (d := 97) (n := 97) rfl, BR_dec]
    split
    · rw [bv_leI (d := 122) (n := 122) rfl, BR_dec]
      split
      · obtain ⟨d, hd⟩ := bv_subX c 32
        rw [hd]
        exact p9 d
      · exact p9 _
    · exact p9 _
end
theorem chz_ok {M : Store} {x1 x2 : Value} {b inn : List UInt8} {d : Dw} (hd : ActZ d) (hb : B M x1 b) (hbl : b.length ≤ 400) (hi : BB M x2 [inn]) (hz : inn.length ≤ 400) :
    R F.fettleref4_changed #[dv d, x1, x2] M fun r M' => Up M M' ∧ ∃ w t, r = .tuple #[w, .bool true] ∧ B M' w t ∧ t.length ≤ 400 := by
  refine R.cps fun Q hQ => ?_
  apply T_fettleref4_changed
  unfold S_fettleref4_changed
  rw [dv_box, OP_some]
  refine s_new fun M1 u1 o1 n1 => ?_
  have fin : ∀ w M' t, Up M1 M' → N M1 M' w t → t.length ≤ 400 → Q (.tuple #[w, .bool true]) M' := fun w M' t hu hN ht => hQ _ _ ⟨u1.trans hu, w, t, rfl, hN.by, ht⟩
  rcases hd with rfl | rfl
  · have o1 : Ob M1 M.n [iv 3, iv 0, sv []] Ty.api_Do := o1
    simp only [fad0, o1.l3]
    show OP (binI .eql (.int .i64 3) (.int .i64 1)) _
    rw [e_eql, BR_dec, if_neg (by decide)]
    show OP (binI .eql (.int .i64 3) (.int .i64 2)) _
    rw [e_eql, BR_dec, if_neg (by decide)]
    show OP (binI .eql (.int .i64 3) (.int .i64 3)) _
    rw [e_eql, BR_dec, if_pos rfl]
    have hi1 := Ls.up By.up' hi u1
    apply T_fettleref4_changed_1
    unfold S_fettleref4_changed_1
    rw [hi1.lenV, OP_some]
    show OP (binI .lss (iv ((0 : Nat) : Int)) (iv (([inn].length : Nat) : Int))) _
    rw [lss_n, BR_dec, if_pos (by simp)]
    obtain ⟨p, w, e1, e2, hw⟩ := hi1.at (i := 0) (by simp) .i64
    have e1 : ixA 1 x2 (.int .i64 0) = some p := e1
    rw [e1, OP_some, e2, OP_some]
    have hw : B M1 w inn := hw
    refine app_by (M0 := M1) (l := []) (Ch.refl _ _) (Nw.nil _ _ _ _) hw (by simp; omega) fun w3 M3 u3 hN3 _ => ?_
    rw [List.nil_append] at hN3
    show OP (binI .add (iv ((0 : Nat) : Int)) (iv 1)) _
    rw [add1_n _ (by omega)]
    have hi3 := Ls.up By.up' hi1 u3
    apply T_fettleref4_changed_1
    unfold S_fettleref4_changed_1
    rw [hi3.lenV, OP_some]
    show OP (binI .lss (iv ((0 + 1 : Nat) : Int)) (iv (([inn].length : Nat) : Int))) _
    rw [lss_n, BR_dec, if_neg (by simp)]
    exact chz_end fin u3 hN3 hz
  · have o1 : Ob M1 M.n [iv 4, iv 0, sv []] Ty.api_Do := o1
    simp only [fad0, o1.l3]
    show OP (binI .eql (.int .i64 4) (.int .i64 1)) _
    rw [e_eql, BR_dec, if_neg (by decide)]
    show OP (binI .eql (.int .i64 4) (.int .i64 2)) _
    rw [e_eql, BR_dec, if_neg (by decide)]
    show OP (binI .eql (.int .i64 4) (.int .i64 3)) _
    rw [e_eql, BR_dec, if_neg (by decide)]
    show OP (binI .eql (.int .i64 4) (.int .i64 4)) _
    rw [e_eql, BR_dec, if_pos (by decide)]
    apply T_fettleref4_changed_2
    unfold S_fettleref4_changed_2
    rw [decide_eq_true (show (4 : Int) = 4 from rfl), BR_bool, if_pos rfl]
    exact chz_up (Sl.up hb u1) hbl o1 fin b.length 0 _ M1 [] rfl rfl (Ch.refl _ _) (Nw.nil _ _ _ _)
theorem plainz_ok {M : Store} : R F.fettleref4_plain #[sv []] M fun r M' => M' = M ∧ r = tv true := by
  refine R.cps fun Q hQ => ?_
  apply T_fettleref4_plain
  unfold S_fettleref4_plain
  apply T_fettleref4_plain_1
  unfold S_fettleref4_plain_1
  rw [sv_len]
  show OP (binI .lss (iv ((0 : Nat) : Int)) (iv ((0 : Nat) : Int))) _
  rw [lss_n, BR_dec, if_neg (by decide)]
  apply T_fettleref4_plain_3
  unfold S_fettleref4_plain_3
  rw [sv_len, leq_l (a := ([] : List UInt8).length) 64 64 rfl]
  exact ⟨rfl, hQ _ _ ⟨rfl, rfl⟩⟩
/-- Whether it is an action: some answer. -/
theorem okz_loop {M0 : Store} {v : Value} {l : List Dw} (h : DS M0 v l) (hl : l.length ≤ 2 ^ 20) (hz : ∀ d ∈ l, ActZ d) {Q : Value → Store → Prop} (hQ : ∀ b M, Up M0 M → Q (tv b) M) :
    ∀ (k i : Nat) (M : Store), k + i = l.length → Up M0 M → P_fettleref4_OkAct_1 v (iv (i : Int)) M Q := by
  intro k
  induction k with
  | zero =>
    intro i M hi hu
    apply T_fettleref4_OkAct_1
    unfold S_fettleref4_OkAct_1
    rw [(Sl.up h hu).lenV, OP_some]
    show OP (binI .lss (iv (i : Int)) (iv (l.length : Int))) _
    rw [lss_n, BR_dec, if_neg (by omega)]
    apply T_fettleref4_OkAct_3
    unfold S_fettleref4_OkAct_3
    rw [(Sl.up h hu).lenV, OP_some]
    show OP (binI .geq (iv (l.length : Int)) (.int .i64 1)) _
    rw [geq_l 1 1 rfl, BR_dec]
    split
    · rw [OP_some]
      show OP (binI .leq (iv (l.length : Int)) (.int .i64 8)) _
      rw [leq_l 8 8 rfl]
      exact ⟨rfl, hQ _ _ hu⟩
    · exact ⟨rfl, hQ _ _ hu⟩
  | succ k ih =>
    intro i M hi hu
    have hil : i < l.length := by omega
    apply T_fettleref4_OkAct_1
    unfold S_fettleref4_OkAct_1
    rw [(Sl.up h hu).lenV, OP_some]
    show OP (binI .lss (iv (i : Int)) (iv (l.length : Int))) _
    rw [lss_n, BR_dec, if_pos hil]
    apply T_fettleref4_OkAct_2
    unfold S_fettleref4_OkAct_2
    rw [ds_ld (Sl.up h hu) hil]
    have hd := hz _ (List.getElem_mem hil)
    generalize l[i] = d at *
    refine s_new fun M1 u1 o1 n1 => ?_
    refine s_st (vs := dcs d) o1 rfl (by obtain ⟨a, b, c⟩ := d; rfl) (by obtain ⟨a, b, c⟩ := d; kernel_rfl) fun M2 c2 o2 n2 => ?_
    have hu2 : Up M0 M2 := (hu.trans u1).ch c2 (fun b hb => by simp at hb; subst hb; exact hu.n)
    have rest : ∀ (a x : Bool) (kk : Nat), kk = 3 ∨ kk = 4 → Ob M2 M.n [iv (kk : Int), iv 0, sv []] Ty.api_Do → P_fettleref4_OkAct_4 v (iv (i : Int)) (.pointer (some ⟨M.n, 0, none⟩)) (tv a) (tv false) (.int .i64 0) M2 Q := by
      intro a x kk hkk o2
      apply T_fettleref4_OkAct_4
      unfold S_fettleref4_OkAct_4
      simp only [fad0, o2.l3]
      rw [eql_l 7 7 rfl, BR_dec, if_neg (by omega), eql_l 8 8 rfl, BR_dec, if_neg (by omega)]
      apply T_fettleref4_OkAct_5
      unfold S_fettleref4_OkAct_5
      simp only [fad0, o2.l3]
      rw [lss_l 1 1 rfl, BR_dec, if_neg (by omega), gtr_l 11 11 rfl, BR_dec, if_neg (by omega), eql_l 0 0 rfl]
      have e3 : ∀ (p q : Bool) (K : Value → Prop), OP (abin Try.prog false .neq Ty.bool (tv p) (tv q)) K = K (tv (p != q)) := fun p q K => by
        have : abin Try.prog false .neq Ty.bool (.bool p) (.bool q) = some (.bool (p != q)) := by kernel_rfl
        rw [this, OP_some]
      rw [e3, BR_bool]
      split
      · exact ⟨rfl, hQ _ _ hu2⟩
      · show OP (binI .lss (.int .i64 0) (.int .i64 0)) _
        rw [e_lss, BR_dec, if_neg (by decide)]
        show OP (binI .gtr (.int .i64 0) (.int .i64 0)) _
        rw [e_gtr, BR_dec, if_neg (by decide)]
        refine plainz_ok.mono fun r M3 ⟨e1, e2⟩ => ?_
        subst e1; subst e2
        rw [e_not, BR_bool, if_neg (by decide), e_not, show (!false) = true from rfl, BR3_t, o2.l3.2.2.1]
        show OP (binS .neq (sv []) (sv [])) _
        rw [sv_ne, BR_dec, if_neg (by simp)]
        apply T_fettleref4_OkAct_6
        unfold S_fettleref4_OkAct_6
        rw [add1_n _ (by omega)]
        exact ih (i + 1) M3 (by omega) hu2
    rcases hd with rfl | rfl
    · have o2' : Ob M2 M.n [iv ((3 : Nat) : Int), iv 0, sv []] Ty.api_Do := o2
      simp only [fad0, o2'.l3]
      rw [eql_l 1 1 rfl, BR_dec, if_neg (by decide), eql_l 2 2 rfl, BR_dec, if_neg (by decide), eql_l 3 3 rfl, eql_l 1 1 rfl, BR_dec, if_neg (by decide), eql_l 10 10 rfl, eql_l 2 2 rfl, BR_dec, if_neg (by decide)]
      exact rest _ true 3 (.inl rfl) o2'
    · have o2' : Ob M2 M.n [iv ((4 : Nat) : Int), iv 0, sv []] Ty.api_Do := o2
      simp only [fad0, o2'.l3]
      rw [eql_l 1 1 rfl, BR_dec, if_neg (by decide), eql_l 2 2 rfl, BR_dec, if_neg (by decide), eql_l 3 3 rfl, eql_l 1 1 rfl, BR_dec, if_neg (by decide), eql_l 10 10 rfl, eql_l 2 2 rfl, BR_dec, if_neg (by decide)]
      exact rest _ true 4 (.inr rfl) o2'
theorem RRunZ {M : Store} {v x1 : Value} {l : List Dw} {inn : List UInt8} (h : DS M v l) (hl : l.length ≤ 2 ^ 20) (hz : ∀ d ∈ l, ActZ d) (hi : BB M x1 [inn]) (hin : inn.length ≤ 400) :
    R F.fettleref4_Run #[v, x1] M fun r M' => Up M M' ∧ ∃ w t b, r = .tuple #[w, tv b] ∧ B M' w t ∧ t.length ≤ 256 := by
  refine R.cps fun Q hQ => ?_
  apply T_fettleref4_Run
  unfold S_fettleref4_Run
  apply T_fettleref4_OkAct
  unfold S_fettleref4_OkAct
  have none_ : ∀ M', Up M M' → NTs [(.slice none 0 0), (.bool false)] ∧ Q (.tuple #[(.slice none 0 0), (.bool false)]) M' := fun M' hu => ⟨rfl, hQ _ _ ⟨hu, _, [], false, rfl, Sl.nil _ _ _, by simp⟩⟩
  have loop : ∀ (k i : Nat) (x6 : Value) (b : List UInt8) (M1 : Store), k + i = l.length → Up M M1 → B M1 x6 b → b.length ≤ 256 → P_fettleref4_Run_1 v x1 x6 (iv (i : Int)) M1 Q := by
    intro k
    induction k with
    | zero =>
      intro i x6 b M1 hi' hu hB hb
      apply T_fettleref4_Run_1
      unfold S_fettleref4_Run_1
      rw [(Sl.up h hu).lenV, OP_some]
      show OP (binI .lss (iv (i : Int)) (iv (l.length : Int))) _
      rw [lss_n, BR_dec, if_neg (by omega)]
      apply T_fettleref4_Run_3
      unfold S_fettleref4_Run_3
      exact ⟨by obtain ⟨a, c, rfl⟩ := hB.slice; rfl, hQ _ _ ⟨hu, x6, b, true, rfl, hB, hb⟩⟩
    | succ k ih =>
      intro i x6 b M1 hi' hu hB hb
      have hil : i < l.length := by omega
      apply T_fettleref4_Run_1
      unfold S_fettleref4_Run_1
      rw [(Sl.up h hu).lenV, OP_some]
      show OP (binI .lss (iv (i : Int)) (iv (l.length : Int))) _
      rw [lss_n, BR_dec, if_pos hil]
      apply T_fettleref4_Run_2
      unfold S_fettleref4_Run_2
      rw [ds_ld (Sl.up h hu) hil]
      refine (chz_ok (hz _ (List.getElem_mem hil)) hB (by omega) (Ls.up By.up' hi hu) hin).mono fun r M3 ⟨u3, w, t, e, hw, ht⟩ => ?_
      subst e
      rw [(tp2 _ _).1, (tp2 _ _).2, e_not, BR_bool, if_neg (by decide), by_len hw, gtr_l 256 256 rfl, BR_dec]
      split
      · exact none_ M3 (hu.trans u3)
      · rw [add1_n _ (by omega)]
        exact ih (i + 1) w t M3 (by omega) (hu.trans u3) hw (by omega)
  refine okz_loop h hl hz (fun b M1 u1 => ?_) l.length 0 M rfl (Ch.refl _ _)
  rw [e_not, BR_bool]
  split
  · exact none_ M1 u1
  · exact loop l.length 0 _ [] M1 rfl u1 (Sl.nil _ _ _) (by simp)
end Go.G
