/- PrntTells: prints, and what is read of any bytes, as the document says. -/
import Derived.Test.YtpacolplhcfamaaPY10e
import Derived.Test.YtpacolplhcfamaaPGDt
namespace Go.G
open Go.Ab Go.Proofs Go.RowKit
set_option linter.unusedVariables false
set_option linter.unusedSimpArgs false
set_option maxRecDepth 100000

theorem pars_view {M0 M : Store} {r : Value} {o : Option (List Dw × List (List UInt8))} (h : ParsR M0 M r o) : ∃ w u, r = .tuple #[w, u, .bool o.isSome] ∧ DS M w (o.getD ([], [])).1 ∧ BL M u (o.getD ([], [])).2 := by
  cases o with
  | none => exact ⟨_, _, h, LK.nil, ⟨[], Sl.nil _ _ _, trivial⟩⟩
  | some p => obtain ⟨w, u, e, h1, h2⟩ := h; exact ⟨w, u, e, h1.sl, nls_bl h2⟩
theorem parsB_view {M : Store} {r : Value} {o : Option (List Dw × List (List UInt8))} (h : ParsB M r o) : ∃ w u, r = .tuple #[w, u, .bool o.isSome] ∧ DS M w (o.getD ([], [])).1 ∧ BL M u (o.getD ([], [])).2 := by
  cases o with
  | none => exact ⟨_, _, h, LK.nil, ⟨[], Sl.nil _ _ _, trivial⟩⟩
  | some p => obtain ⟨w, u, e, h1, h2⟩ := h; exact ⟨w, u, e, h1, h2⟩
theorem run_view {M0 M : Store} {r : Value} {o : Option (List UInt8)} (h : RunR M0 M r o) : ∃ w, r = .tuple #[w, .bool o.isSome] ∧ B M w (o.getD []) := by
  cases o with
  | none => exact ⟨_, h, Sl.nil _ _ _⟩
  | some t => obtain ⟨w, e, h1, _⟩ := h; exact ⟨w, e, h1.by⟩
theorem runB_view {M : Store} {r : Value} {o : Option (List UInt8)} (h : RunB M r o) : ∃ w, r = .tuple #[w, .bool o.isSome] ∧ B M w (o.getD []) := by
  cases o with
  | none => exact ⟨_, h, Sl.nil _ _ _⟩
  | some t => obtain ⟨w, e, h1, _⟩ := h; exact ⟨w, e, h1⟩
theorem prntO_small (b : List UInt8) : ((prntO 4000 256 b).getD ([], [])).1.length ≤ 8 ∧ ((prntO 4000 256 b).getD ([], [])).2.length ≤ 8 := by
  cases h : prntO 4000 256 b with
  | none => simp
  | some p =>
    obtain ⟨l, ins⟩ := p
    obtain ⟨_, hok, h8, _⟩ := prntO_some h
    exact ⟨(okA_all hok).2.2, h8⟩
section
variable {x121 : Value} {rows : List (List UInt8)} {M0 : Store} {Q : Value → Store → Prop}
theorem tells_rows (h : BL M0 x121 rows) (hl : rows.length ≤ 8) (hx : ∀ x ∈ rows, x.length ≤ 2 ^ 22) (hQ : ∀ M, Q (tv true) M) : ∀ (k i : Nat) (M : Store), k + i = rows.length → Up M0 M → P_fettlelaw10_PrntTells_7 x121 (iv (rows.length : Int)) (iv (i : Int)) M Q := by
  intro k
  induction k with
  | zero =>
    intro i M hi hu
    apply T_fettlelaw10_PrntTells_7
    unfold S_fettlelaw10_PrntTells_7
    rw [lss_n, BR_dec, if_neg (by omega)]
    apply T_fettlelaw10_PrntTells_9
    unfold S_fettlelaw10_PrntTells_9
    exact awake10_ok ⟨rfl, hQ _⟩
  | succ k ih =>
    intro i M hi hu
    have hil : i < rows.length := by omega
    apply T_fettlelaw10_PrntTells_7
    unfold S_fettlelaw10_PrntTells_7
    rw [lss_n, BR_dec, if_pos hil]
    apply T_fettlelaw10_PrntTells_8
    unfold S_fettlelaw10_PrntTells_8
    refine bl_ld (h.up B_up hu) hil fun w hw => ?_
    have hxl := hx _ (List.getElem_mem hil)
    generalize rows[i] = x at *
    obtain ⟨s1, s2⟩ := prntO_small x
    refine (PParse_ok hw (by omega)).mono fun r1 M1 ⟨u1, h1⟩ => ?_
    obtain ⟨a1, c1, e1, g1, k1⟩ := pars_view h1
    subst e1
    rw [(tp3b _ _ _).1, (tp3b _ _ _).2.1, (tp3b _ _ _).2.2]
    refine (RParse_ok (Sl.up hw u1) (by omega)).mono fun r2 M2 ⟨u2, h2⟩ => ?_
    obtain ⟨a2, c2, e2, g2, k2⟩ := parsB_view h2
    subst e2
    rw [(tp3b _ _ _).1, (tp3b _ _ _).2.1, (tp3b _ _ _).2.2]
    refine (PValue_ok (Sl.up hw (u1.trans u2)) (by omega)).mono fun r3 M3 ⟨u3, h3⟩ => ?_
    obtain ⟨a3, e3, g3⟩ := run_view h3
    subst e3
    rw [(tp2b _ _).1, (tp2b _ _).2]
    refine (RValue_ok (Sl.up hw ((u1.trans u2).trans u3)) (by omega)).mono fun r4 M4 ⟨u4, h4⟩ => ?_
    obtain ⟨a4, e4, g4⟩ := runB_view h4
    subst e4
    rw [(tp2b _ _).1, (tp2b _ _).2]
    show OP (abin Try.prog false .neq Ty.bool (tv _) (tv _)) _
    rw [bool_ne', BR_bool, if_neg (by simp)]
    refine (SameAct_ok (Sl.up g1 ((u2.trans u3).trans u4)) (Sl.up g2 (u3.trans u4)) (by omega)).mono fun r5 M5 ⟨e5, e6⟩ => ?_
    subst e5; subst e6
    rw [e_not, BR_bool, if_neg (by simp)]
    refine (Same_ok (k1.up B_up ((u2.trans u3).trans u4)) (k2.up B_up (u3.trans u4)) (by omega) (by omega)).mono fun r6 M6 ⟨e7, e8⟩ => ?_
    subst e7; subst e8
    rw [e_not, BR_bool, if_neg (by simp)]
    show OP (abin Try.prog false .neq Ty.bool (tv _) (tv _)) _
    rw [bool_ne', BR_bool, if_neg (by simp), cvBS_ok (Sl.up g3 u4), OP_some, cvBS_ok g4, OP_some]
    show OP (binS .neq (sv _) (sv _)) _
    rw [sv_ne, BR_dec, if_neg (by simp), add1_n _ (by omega)]
    exact ih (i + 1) M6 (by omega) ((((hu.trans u1).trans u2).trans u3).trans u4)
end
theorem e_lit6s (z : Value) (a1 a2 a3 a4 a5 a6 : Option Addr) (n1 c1 n2 c2 n3 c3 n4 c4 n5 c5 n6 c6 : Nat) (K : List Value → Prop) : OP (bldL z 1 6 [(0, .slice a1 n1 c1), (1, .slice a2 n2 c2), (2, .slice a3 n3 c3), (3, .slice a4 n4 c4), (4, .slice a5 n5 c5), (5, .slice a6 n6 c6)]) K = K [.slice a1 n1 c1, .slice a2 n2 c2, .slice a3 n3 c3, .slice a4 n4 c4, .slice a5 n5 c5, .slice a6 n6 c6] := by kernel_rfl
theorem Ch.tdjR {M M' : Store} {b : Nat} (h : Ch [b] M M') (ho : (M.get b).isSome = true) {js Ns : List Nat} {j : Nat} (hj : j ∈ js) (h1 : Ns.getD j 0 ≤ b) (h2 : b < Ns.getD (j + 1) 0) : TDj js Ns M M' :=
  ⟨h.n, fun c hc => by
    rcases h.tdiff c hc with hc | hc
    · exact .inl hc
    · have : c = b := by simpa using hc
      subst this
      exact .inr ⟨ho, j, hj, h1, h2⟩⟩
theorem printF_len2 {l : List Dw} {ins : List (List UInt8)} (hl : l.length ≤ 20) (hs : ∀ d ∈ l, d.2.2.length ≤ 100) (h8 : ins.length ≤ 9) (hi : ∀ x ∈ ins, x.length ≤ 280) : (printF l ins).length ≤ 2 ^ 20 ∧ 0 < (printF l ins).length := by
  have h1 := actB_len hs
  have h4 : l.length * (18 + 100) ≤ 20 * (18 + 100) := Nat.mul_le_mul_right _ hl
  have h2 := insB_len 280 ins hi
  have h3 : ins.length * (6 + 280) ≤ 9 * (6 + 280) := Nat.mul_le_mul_right _ h8
  unfold printF
  simp only [List.length_append, be_length]; omega
section
variable {x0 x1 x2 x3 : Value} {raw : List Dw} {ns : List Int} {ins : List (List UInt8)} {b : List UInt8} {at' : Int} {c : UInt8} {M : Store} {Q : Value → Store → Prop}
theorem tells_main (h0 : DS M x0 raw) (h1 : LV iv Ty.int M x1 ns) (h2 : BL M x2 ins) (h3 : B M x3 b) (hr : raw.length ≤ 12) (hrs : ∀ d ∈ raw, d.2.2.length ≤ 100) (h9 : ins.length ≤ 9) (hi : ∀ x ∈ ins, x.length ≤ 280) (hb : b.length ≤ 300) (hQ : ∀ M, Q (tv true) M) :
    P_fettlelaw10_PrntTells_6 x0 x1 x2 x3 (iv at') (bv c) M Q := by
  apply T_fettlelaw10_PrntTells_6
  unfold S_fettlelaw10_PrntTells_6
  obtain ⟨f6, f1, fd, fok⟩ := actF_ok ns
  have fs : ∀ d ∈ actF ns, d.2.2.length ≤ 100 := fun d hd => by have := (fd d hd).2.2.2.2; omega
  have fs10 : ∀ d ∈ actF ns, d.2.2.length ≤ 2 ^ 10 := fun d hd => by have := fs d hd; omega
  have rs10 : ∀ d ∈ raw, d.2.2.length ≤ 2 ^ 10 := fun d hd => by have := hrs d hd; omega
  have is12 : ∀ x ∈ ins, x.length ≤ 2 ^ 12 := fun x hx => by have := hi x hx; omega
  obtain ⟨pl, pp⟩ := printF_len2 (l := actF ns) (by omega) fs h9 hi
  obtain ⟨ql, _⟩ := printF_len2 (l := raw) (by omega) hrs h9 hi
  refine (Act_F h1).mono fun v1 M1 ⟨u1, d1⟩ => ?_
  refine (RPrint_ok d1.sl (by omega) fs10 (h2.up B_up u1) (by omega) is12).mono fun t74 M2 ⟨u2, p2⟩ => ?_
  have u02 := u1.trans u2
  refine (Act_F (h1.up u02)).mono fun v3 M3 ⟨u3, d3⟩ => ⟨u3.tdj _ _, ?_⟩
  have u03 := u02.trans u3
  refine (PPrint_ok d3.sl (by omega) fs10 (h2.up B_up u03) (by omega) is12).mono fun t78 M4 ⟨u4, p4⟩ => ⟨u4.tdj _ _, ?_⟩
  have u04 := u03.trans u4
  rw [cvBS_ok p4.by, OP_some, cvBS_ok (Sl.up p2.by (u3.trans u4)), OP_some]
  show OP (binS .neq (sv (printF (actF ns) ins)) (sv (printF (actF ns) ins))) _
  rw [sv_ne, BR_dec, if_neg (by simp)]
  refine (PPrint_ok (Sl.up h0 u04) (by omega) rs10 (h2.up B_up u04) (by omega) is12).mono fun t86 M5 ⟨u5, p5⟩ => ⟨u5.tdx _ _ _, ?_⟩
  have u05 := u04.trans u5
  rw [cvBS_ok p5.by, OP_some]
  refine (RPrint_ok (Sl.up h0 u05) (by omega) rs10 (h2.up B_up u05) (by omega) is12).mono fun t90 M6 ⟨u6, p6⟩ => ⟨u6.tdj _ _, ?_⟩
  have u06 := u05.trans u6
  rw [cvBS_ok p6.by, OP_some]
  show OP (binS .neq (sv (printF raw ins)) (sv (printF raw ins))) _
  rw [sv_ne, BR_dec, if_neg (by simp)]
  have hT6 : B M6 t74 (printF (actF ns) ins) := Sl.up p2.by ((u3.trans u4).trans (u5.trans u6))
  generalize printF (actF ns) ins = t at *
  have e0 : bldL (.int .u8 0) 1 0 [] = some [] := by kernel_rfl
  rw [e0, OP_some]
  refine s_lit (s := 1) (n := 0) rfl fun M7 u7 g7 _ _ => ?_
  have g7 : N M6 M7 (.slice (some ⟨M6.n, 0, none⟩) 0 0) [] := g7
  refine app_by u7 g7 (Sl.up hT6 u7) (by simp; omega) fun t96 M8 u8 n8 _ => ?_
  rw [List.nil_append] at n8
  show OP (binI .and (.int .i64 at') (.int .i64 ((65535 : Nat) : Int))) _
  rw [e_andN at' 65535 (by decide), OP_some, by_len n8.by, e_rem _ _ pp, OP_some]
  have hk : andN at' 65535 % t.length < t.length := Nat.mod_lt _ pp
  generalize andN at' 65535 % t.length = k at *
  show OP (ixA 1 t96 (iv (k : Int))) fun p => OP (st 1 p (bv c) M8) _
  refine b_turn n8 hk c fun M9 bb hbx hb0 hbn _ c9 n9 => ?_
  have u69 : Up M6 M9 := u8.ch c9 (by simpa using hb0)
  obtain ⟨t111, e111, hB111⟩ := By.cut (Sl.up hT6 u69) (lo := none) (hi := some (iv (k : Int))) (a := 0) (r := k) (ab_some (by omega) .i64) rfl (by omega) (Nat.zero_le _)
  have e111 : slV 1 Ty.uint8 t74 none (some (.int .i64 (k : Int))) M9 = some t111 := e111
  rw [e111, OP_some, OP_some]
  rw [List.drop_zero] at hB111
  refine s_lit (s := 1) (n := 0) rfl fun M10 u10 g10 _ _ => ?_
  have g10 : N M9 M10 (.slice (some ⟨M9.n, 0, none⟩) 0 0) [] := g10
  obtain ⟨t114, M11, e11, u11, n11, nn11, _, c11⟩ := NB.app u10 g10 (Sl.up hT6 (u69.trans u10)) (by simp; omega)
  rw [e11, OP2_some]
  rw [List.nil_append] at n11
  have u1011 : Up M10 M11 := c11
  refine ⟨u1011.tdj _ _, ?_⟩
  rw [bl_bv]
  refine s_lit (s := 1) rfl fun M12 u12 g12 _ n12 => ?_
  have hx12 : By Ty.uint8 M12 (.slice (some ⟨M11.n, 0, none⟩) 1 1) [c] := g12.sl
  obtain ⟨t117, M13, e13, u13, n13, nn13, _, c13⟩ := NB.app (u11.trans u12) (Nw.up n11 u12) hx12 (by rw [List.length_singleton]; omega)
  rw [e13, OP2_some]
  refine ⟨?_, ?_⟩
  · cases hkl : kil t114 with
    | none =>
      have : Up M12 M13 := by have := c13; rw [show kl t114 = [] from by unfold kl; rw [hkl]; rfl] at this; exact this
      exact this.tdj _ _
    | some b =>
      have hb := Nw.bx_in n11 hkl
      have c13 : Ch [b] M12 M13 := by have := c13; rw [show kl t114 = [b] from by unfold kl; rw [hkl]; rfl] at this; exact this
      have hsome : (M12.get b).isSome = true := by
        obtain ⟨cells, hc⟩ := Nw.kl_inl (Nw.up n11 u12) (b := b) (by rw [mem_kl]; exact hkl)
        rw [hc]; rfl
      by_cases hlt : b < M10.n
      · exact Ch.tdjR c13 hsome (j := 6) (by decide) hb.1 hlt
      · exact Ch.tdjR c13 hsome (j := 8) (by decide) (by simpa using hlt) hb.2
  · have u913 : Up M9 M13 := u13
    have u613 : Up M6 M13 := u69.trans u913
    have u013 : Up M M13 := u06.trans u613
    refine (RPrint_ok (Sl.up h0 u013) (by omega) rs10 (h2.up B_up u013) (by omega) is12).mono fun t120 M14 ⟨u14, p14⟩ => ⟨u14.tdj _ _, ?_⟩
    have b1 : B M14 x3 b := Sl.up h3 (u013.trans u14)
    have b2 : B M14 t74 t := Sl.up hT6 (u613.trans u14)
    have b3 : B M14 t96 (t.set k c) := Sl.up n9.by (u913.trans u14)
    have b4 : B M14 t111 (t.take k) := Sl.up hB111 (u913.trans u14)
    have b5 : B M14 t117 (t ++ [c]) := Sl.up n13.by u14
    have b6 : B M14 t120 (printF raw ins) := p14.by
    obtain ⟨q1, r1, rfl⟩ := b1.slice
    obtain ⟨q2, r2, rfl⟩ := b2.slice
    obtain ⟨q3, r3, rfl⟩ := b3.slice
    obtain ⟨q4, r4, rfl⟩ := b4.slice
    obtain ⟨q5, r5, rfl⟩ := b5.slice
    obtain ⟨q6, r6, rfl⟩ := b6.slice
    rw [e_lit6s]
    refine s_lit (s := 1) (n := 6) rfl fun M15 u15 g15 _ _ => ?_
    have hL : BL M15 (.slice (some ⟨M14.n, 0, none⟩) 6 6) [b, t, t.set k c, t.take k, t ++ [c], printF raw ins] := ⟨_, g15.sl, Sl.up b1 u15, Sl.up b2 u15, Sl.up b3 u15, Sl.up b4 u15, Sl.up b5 u15, Sl.up b6 u15, trivial⟩
    rw [hL.lenV, OP_some]
    refine tells_rows (M0 := M15) hL (by simp) (fun x hx => ?_) hQ 6 0 M15 rfl (Ch.refl _ _)
    simp only [List.mem_cons, List.not_mem_nil, or_false] at hx
    rcases hx with rfl | rfl | rfl | rfl | rfl | rfl
    · omega
    · omega
    · rw [List.length_set]; omega
    · rw [List.length_take]; omega
    · rw [List.length_append, List.length_singleton]; omega
    · omega
theorem tells_ins (h0 : DS M x0 raw) (h1 : LV iv Ty.int M x1 ns) (h2 : BL M x2 ins) (h3 : B M x3 b) (hr : raw.length ≤ 12) (hrs : ∀ d ∈ raw, d.2.2.length ≤ 100) (h9 : ins.length ≤ 9) (hb : b.length ≤ 300) (hQ : ∀ M, Q (tv true) M) :
    ∀ (k i : Nat), k + i = ins.length → (∀ j (hj : j < i) (hl : j < ins.length), ins[j].length ≤ 280) → P_fettlelaw10_PrntTells_4 x0 x1 x2 x3 (iv at') (bv c) (iv (ins.length : Int)) (iv (i : Int)) M Q := by
  intro k
  induction k with
  | zero =>
    intro i hi hj
    apply T_fettlelaw10_PrntTells_4
    unfold S_fettlelaw10_PrntTells_4
    rw [lss_n, BR_dec, if_neg (by omega)]
    refine tells_main h0 h1 h2 h3 hr hrs h9 (fun x hx => ?_) hb hQ
    obtain ⟨j, hjl, rfl⟩ := List.getElem_of_mem hx
    exact hj j (by omega) hjl
  | succ k ih =>
    intro i hi hj
    have hil : i < ins.length := by omega
    apply T_fettlelaw10_PrntTells_4
    unfold S_fettlelaw10_PrntTells_4
    rw [lss_n, BR_dec, if_pos hil]
    apply T_fettlelaw10_PrntTells_5
    unfold S_fettlelaw10_PrntTells_5
    refine bl_ld h2 hil fun w hw => ?_
    rw [by_len hw, gtr_l 280 280 rfl, BR_dec]
    split
    · exact awake10_ok ⟨rfl, hQ _⟩
    · rename_i hle
      rw [add1_n _ (by omega)]
      refine ih (i + 1) (by omega) fun j hj' hl => ?_
      by_cases e : j = i
      · subst e; omega
      · exact hj j (by omega) hl
theorem tells_raw (h0 : DS M x0 raw) (h1 : LV iv Ty.int M x1 ns) (h2 : BL M x2 ins) (h3 : B M x3 b) (hr : raw.length ≤ 12) (h9 : ins.length ≤ 9) (hb : b.length ≤ 300) (hQ : ∀ M, Q (tv true) M) :
    ∀ (k i : Nat), k + i = raw.length → (∀ j (hj : j < i) (hl : j < raw.length), raw[j].2.2.length ≤ 100) → P_fettlelaw10_PrntTells_1 x0 x1 x2 x3 (iv at') (bv c) (iv (raw.length : Int)) (iv (i : Int)) M Q := by
  intro k
  induction k with
  | zero =>
    intro i hi hj
    apply T_fettlelaw10_PrntTells_1
    unfold S_fettlelaw10_PrntTells_1
    rw [lss_n, BR_dec, if_neg (by omega)]
    apply T_fettlelaw10_PrntTells_3
    unfold S_fettlelaw10_PrntTells_3
    rw [h2.lenV, OP_some]
    refine tells_ins h0 h1 h2 h3 hr (fun x hx => ?_) h9 hb hQ ins.length 0 rfl fun j hj => by omega
    obtain ⟨j, hjl, rfl⟩ := List.getElem_of_mem hx
    exact hj j (by omega) hjl
  | succ k ih =>
    intro i hi hj
    have hil : i < raw.length := by omega
    apply T_fettlelaw10_PrntTells_1
    unfold S_fettlelaw10_PrntTells_1
    rw [lss_n, BR_dec, if_pos hil]
    apply T_fettlelaw10_PrntTells_2
    unfold S_fettlelaw10_PrntTells_2
    rw [ds_fld h0 hil (f := 2) (w := sv raw[i].2.2) rfl, sv_len, gtr_l 100 100 rfl, BR_dec]
    split
    · exact awake10_ok ⟨rfl, hQ _⟩
    · rename_i hle
      rw [add1_n _ (by omega)]
      refine ih (i + 1) (by omega) fun j hj' hl => ?_
      by_cases e : j = i
      · subst e; omega
      · exact hj j (by omega) hl
end
theorem PrntTells_ok {M : Store} {x0 x1 x2 x3 : Value} {raw : List Dw} {ns : List Int} {ins : List (List UInt8)} {b : List UInt8} {at' : Int} {c : UInt8} (h0 : DS M x0 raw) (h1 : LV iv Ty.int M x1 ns) (h2 : BL M x2 ins) (h3 : B M x3 b) :
    R F.fettlelaw10_PrntTells #[x0, x1, x2, x3, iv at', bv c] M fun v M' => v = tv true := by
  refine R.cps fun Q hQ => ?_
  have hQ : ∀ M, Q (tv true) M := fun M => hQ _ _ rfl
  apply T_fettlelaw10_PrntTells
  unfold S_fettlelaw10_PrntTells
  rw [h0.lenV, OP_some]
  show OP (binI .gtr (iv (raw.length : Int)) (.int .i64 12)) _
  rw [gtr_l 12 12 rfl, BR_dec]
  split
  · exact awake10_ok ⟨rfl, hQ _⟩
  rw [h2.lenV, OP_some]
  show OP (binI .gtr (iv (ins.length : Int)) (.int .i64 9)) _
  rw [gtr_l 9 9 rfl, BR_dec]
  split
  · exact awake10_ok ⟨rfl, hQ _⟩
  rw [by_len h3, gtr_l 300 300 rfl, BR_dec]
  split
  · exact awake10_ok ⟨rfl, hQ _⟩
  rw [OP_some]
  exact tells_raw h0 h1 h2 h3 (by omega) (by omega) (by omega) hQ raw.length 0 rfl fun j hj => by omega
end Go.G
