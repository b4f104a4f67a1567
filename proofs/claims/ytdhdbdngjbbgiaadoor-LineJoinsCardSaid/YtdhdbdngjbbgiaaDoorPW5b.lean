/- Layer 5, the program: all words of a line, and of all lines. -/
import Derived.Test.YtdhdbdngjbbgiaaDoorPW5
namespace Go.G
open Go.Ab Go.Proofs Go.RowKit
set_option linter.unusedVariables false
set_option linter.unusedSimpArgs false
set_option maxRecDepth 100000

theorem ne_wsc : Ty.api_Word ≠ Ty.line_scan := by decide
theorem ne_scw : Ty.line_scan ≠ Ty.api_Word := by decide
theorem ne_fw : Ty.api_Fault ≠ Ty.api_Word := by decide
theorem ne_wf : Ty.api_Word ≠ Ty.api_Fault := by decide
theorem ne_wsw : Ty.api_Word ≠ Ty.sl_api_Word := by decide
theorem ne_fsw : Ty.api_Fault ≠ Ty.sl_api_Word := by decide
theorem ne_ssw : Ty.string ≠ Ty.sl_api_Word := by decide
theorem ne_usw : Ty.uint8 ≠ Ty.sl_api_Word := by decide

abbrev WS (M : Store) (v : Value) (ws : List Wd) : Prop := LK 4 wcs Ty.api_Word M v ws
abbrev NWS (M0 M : Store) (v : Value) (ws : List Wd) : Prop := NK 4 wcs Ty.api_Word M0 M v ws

/-- What the words of a line come to. -/
def WordsR (M0 : Store) (r : Value) (M' : Store) : Sum Ft (List Wd) → Prop
  | .inl f => r = .tuple #[.slice none 0 0, fv f]
  | .inr ws => ∃ v, r = .tuple #[v, fv fv0] ∧ NWS M0 M' v ws

theorem bl_w (w : Wd) (K : List Value → Prop) : OP (bldL (.agg #[(.string ⟨#[]⟩), (.int .i64 0), (.int .i64 0), (.bool false)]) 4 1 [(0, wv w)]) K = K (wcs w) := by
  obtain ⟨a, b, c, d⟩ := w; kernel_rfl

section
variable {M0 : Store} {b b5 : Nat} {s : List UInt8} {line : Nat}
theorem words_loop (hs : s.length ≤ 2 ^ 28) (hn : ∀ c ∈ s, c ≠ 10) (hb : M0.n ≤ b) (hb5 : M0.n ≤ b5) (hne : b ≠ b5) {res : Sum Ft (List Wd)} {Q : Value → Store → Prop} (hQ : ∀ r M', Up M0 M' → WordsR M0 r M' res → Q r M') :
    ∀ (k at_ : Nat) (row : List Wd) (x7 : Value) (M : Store), s.length - at_ < k → at_ ≤ s.length → row.length ≤ at_ → Up M0 M → Sc M b s line at_ → Ob M b5 (fcs fv0) Ty.api_Fault → NWS M0 M x7 row → wordsN k line (at_ + 1) row (s.drop at_) = res →
      P_line_words_2 (sv s) (.pointer (some ⟨b5, 0, none⟩)) (.pointer (some ⟨b, 0, none⟩)) x7 M Q := by
  intro k
  induction k with
  | zero => intro at_ row x7 M h; omega
  | succ k ih =>
    intro at_ row x7 M hk hat hrow hu hsc o5 hN hres
    have fin : wordsN (k + 1) line (at_ + 1) row (s.drop at_) = .inr row → (OP (bldS #[(.int .i64 0), (.int .i64 0), (.int .i64 0)] [(0, 1), (1, 1), (2, 1)] []) fun t54 =>
        OP (st 3 (.pointer (some ⟨b5, 0, none⟩)) t54 M) fun M1 => OP (ld 3 true (.pointer (some ⟨b5, 0, none⟩)) M1) fun r5 => NTs [x7, r5] ∧ Q (.tuple #[x7, r5]) M1) := by
      intro h
      rw [hres] at h
      subst h
      rw [bS_f0]
      refine s_st (vs := fcs fv0) o5 rfl rfl (fcs_one _) fun M1 c1 o51 n1 => ?_
      rw [ldF o51, OP_some]
      obtain ⟨a, c, rfl⟩ := hN.sl.slice
      exact ⟨rfl, hQ _ _ (hu.ch c1 (by simpa using hb5)) ⟨_, rfl, Nw.keep hN ne_wf (c1.keepT o5)⟩⟩
    have four : (∀ c t, s.drop at_ = c :: t → blankB c = false) → P_line_words_4 (sv s) (.pointer (some ⟨b5, 0, none⟩)) (.pointer (some ⟨b, 0, none⟩)) x7 M Q := by
      intro hbl
      apply T_line_words_4
      unfold S_line_words_4
      simp only [e_nilc, fad0, hsc.l3]
      rw [sv_len, eql_n, BR_dec]
      split
      · rename_i he
        refine fin ?_
        rw [List.drop_of_length_le (by omega)]; rfl
      · rename_i he
        have hlt : at_ < s.length := by omega
        have hd := List.drop_eq_getElem_cons hlt
        have hbl := hbl _ _ hd
        rw [bv_at s at_ hlt, bv_eqI (d := 35) (n := 35) rfl, BR_dec]
        split
        · rename_i h35
          refine fin ?_
          rw [hd, wordsN, hbl, if_neg (by decide), if_pos h35]
        · rename_i h35
          refine (next_ok hsc (by omega) hd fun c hc => hn c (List.mem_of_mem_drop hc)).mono fun r M3 ⟨c3, hr⟩ => ?_
          rw [hd, wordsN, hbl, if_neg (by decide), if_neg h35] at hres
          have hu3 : Up M0 M3 := hu.ch c3 (by simpa using hb)
          have o53 := o5.fr c3 (by simpa using Ne.symm hne)
          have hN3 : NWS M0 M3 x7 row := Nw.keep hN ne_wsc (c3.keepT hsc)
          have tupE : ∀ (w : Wd) (f : Ft), r = .tuple #[wv w, fv f] → (∀ M7, Up M3 M7 → Ob M7 (M3.n) (wcs w) Ty.api_Word → Ob M7 (M3.n + 1) (fcs f) Ty.api_Fault →
              (OP (binI .neq (iv (f.1 : Int)) (.int .i64 0)) fun t62 => BR t62 (
                OP (ld 3 true (.pointer (some ⟨M3.n + 1, 0, none⟩)) M7) fun t63 => OP (st 3 (.pointer (some ⟨b5, 0, none⟩)) t63 M7) fun M8 => TDx [0, 0, 3] [M7.n, M7.n, M7.n] 2 M7 M8 ∧
                  OP (ld 3 true (.pointer (some ⟨b5, 0, none⟩)) M8) fun r5_2 => NTs [(.slice none 0 0), r5_2] ∧ Q (.tuple #[(.slice none 0 0), r5_2]) M8) (
                OP (ld 4 true (.pointer (some ⟨M3.n, 0, none⟩)) M7) fun t65 => OP (bldL (.agg #[(.string ⟨#[]⟩), (.int .i64 0), (.int .i64 0), (.bool false)]) 4 1 [(0, t65)]) fun c =>
                  LT (.slice (some ⟨M7.n, 0, none⟩) 1 1) (M7.push (some (.inl (c, Ty.api_Word, true)))) fun t66 M9 => OP2 (appV 4 Ty.api_Word x7 t66 M9) fun t67 M10 =>
                  P_line_words_1 (sv s) (.pointer (some ⟨b5, 0, none⟩)) (.pointer (some ⟨b, 0, none⟩)) t67 M10 Q))) →
              OP (tup r 0) fun t58 => OP (tup r 1) fun t59 =>
                LT (.pointer (some ⟨M3.n, 0, none⟩)) (M3.push (some (.inl ([(.string ⟨#[]⟩), (.int .i64 0), (.int .i64 0), (.bool false)], Ty.api_Word, true)))) fun t8 M4 =>
                LT (.pointer (some ⟨M4.n, 0, none⟩)) (M4.push (some (.inl ([(.int .i64 0), (.int .i64 0), (.int .i64 0)], Ty.api_Fault, true)))) fun t9 M5 =>
                OP (st 4 t8 t58 M5) fun M6 => OP (st 3 t9 t59 M6) fun M7 => OP (fad 0 t9) fun t60 => OP (ld 1 false t60 M7) fun t61 => OP (binI .neq t61 (.int .i64 0)) fun t62 => BR t62 (
                OP (ld 3 true t9 M7) fun t63 => OP (st 3 (.pointer (some ⟨b5, 0, none⟩)) t63 M7) fun M8 => TDx [0, 0, 3] [M7.n, M7.n, M7.n] 2 M7 M8 ∧
                  OP (ld 3 true (.pointer (some ⟨b5, 0, none⟩)) M8) fun r5_2 => NTs [(.slice none 0 0), r5_2] ∧ Q (.tuple #[(.slice none 0 0), r5_2]) M8) (
                OP (ld 4 true t8 M7) fun t65 => OP (bldL (.agg #[(.string ⟨#[]⟩), (.int .i64 0), (.int .i64 0), (.bool false)]) 4 1 [(0, t65)]) fun c =>
                  LT (.slice (some ⟨M7.n, 0, none⟩) 1 1) (M7.push (some (.inl (c, Ty.api_Word, true)))) fun t66 M9 => OP2 (appV 4 Ty.api_Word x7 t66 M9) fun t67 M10 =>
                  P_line_words_1 (sv s) (.pointer (some ⟨b5, 0, none⟩)) (.pointer (some ⟨b, 0, none⟩)) t67 M10 Q) := by
            intro w f hr h7
            subst hr
            rw [tp2_0, OP_some, tp2_1, OP_some]
            refine s_new fun M4 u4 o8 n4 => ?_
            refine s_new fun M5 u5 o9 n5 => ?_
            refine s_st (vs := wcs w) (o8.up u5) rfl rfl (wcs_one _) fun M6 c6 o86 n6 => ?_
            have hne89 : M4.n ≠ M3.n := by omega
            refine s_st (vs := fcs f) (o9.fr c6 (by simpa using hne89)) rfl rfl (fcs_one _) fun M7 c7 o97 n7 => ?_
            have o87 := o86.fr c7 (by simpa using Ne.symm hne89)
            rw [fad0, Ob.ld (o := 0) (v := iv (f.1 : Int)) o97 rfl, OP_some]
            have e4 : M4.n = M3.n + 1 := n4
            rw [e4] at o97 ⊢
            exact h7 M7 (Up.ch (Up.ch (u4.trans u5) c6 (by simp)) c7 (by simp; omega)) o87 o97
          cases hk2 : tokC line (at_ + 1) s[at_] (s.drop (at_ + 1)) with
          | inl f =>
            rw [hk2] at hr hres
            simp only at hres
            refine tupE _ _ hr fun M7 u7 o8 o9 => ?_
            have hf : FtOk f := tokF_ft hk2
            rw [neq_l 0 0 rfl, BR_dec, if_pos (by rcases hf with h | h | h <;> omega), ldF o9, OP_some]
            have o57 := o53.up u7
            refine s_st (vs := fcs f) o57 rfl rfl (fcs_one _) fun M8 c8 o58 n8 => ⟨c8.tdx o57 (by exact o57.lt), ?_⟩
            rw [ldF o58, OP_some]
            refine ⟨rfl, hQ _ _ ((hu3.up u7).ch c8 (by simpa using hb5)) ?_⟩
            rw [← hres]; exact rfl
          | inr p =>
            obtain ⟨w, n⟩ := p
            rw [hk2] at hr hres
            simp only at hres
            obtain ⟨hr, hsc3⟩ := hr
            have h1 := tokF_pos hk2
            have h2 := tokF_len hk2
            refine tupE _ _ hr fun M7 u7 o8 o9 => ?_
            rw [show ((fv0.1 : Nat) : Int) = ((0 : Nat) : Int) from rfl, neq_l 0 0 rfl, BR_dec, if_neg (by omega), ldW o8, OP_some]
            show OP (bldL _ 4 1 [(0, wv w)]) _
            rw [bl_w, LT_eq]
            have hu7 := hu3.up u7
            refine NK.app1 wcs_len hu7 (Nat.le_refl _) hu7.n (hN3.up u7) w rfl (by omega) fun v' M' hu' hN' hc' _ => ?_
            have hkp := (hN3.up u7).keepE hc'
            apply T_line_words_1
            unfold S_line_words_1
            rw [List.length_drop] at h2
            refine ih (at_ + n) (row ++ [w]) v' M' (by omega) (by omega) (by simp; omega) hu' ((hsc3.up u7).keep ne_scw hkp) ((o53.up u7).keep ne_fw hkp) hN' ?_
            rw [← hres, show at_ + 1 + n = at_ + n + 1 by omega]
            congr 1
            rw [← hd, List.drop_drop]
    apply T_line_words_2
    unfold S_line_words_2
    simp only [e_nilc, fad0, hsc.l3]
    rw [sv_len, lss_n, BR_dec]
    split
    · rename_i hlt
      have hd := List.drop_eq_getElem_cons hlt
      rw [bv_at s at_ hlt]
      refine blank_ok ?_
      rw [BR_bool]
      split
      · rename_i hbl
        apply T_line_words_3
        unfold S_line_words_3
        simp only [e_nilc, fad0, hsc.l3]
        rw [add1_n _ (by omega)]
        refine s_st1 (i := 2) hsc (by simp) (cells_iv _) (oc_iv _) fun M1 c1 o1 n1 => ?_
        rw [hd, wordsN, if_pos hbl] at hres
        exact ih (at_ + 1) row x7 M1 (by omega) (by omega) (by omega) (hu.ch c1 (by simpa using hb)) o1 (o5.fr c1 (by simpa using Ne.symm hne)) (Nw.keep hN ne_wsc (c1.keepT hsc)) hres
      · rename_i hbl
        refine four fun c t h => ?_
        rw [hd] at h
        injection h with h1 h2
        subst h1
        simpa using hbl
    · rename_i hlt
      refine four fun c t h => ?_
      rw [List.drop_of_length_le (by omega)] at h
      cases h
end

theorem words_ok {M : Store} {s : List UInt8} {line : Nat} (hs : s.length ≤ 2 ^ 28) (hn : ∀ c ∈ s, c ≠ 10) : R F.line_words #[sv s, iv (line : Int)] M fun r M' => Up M M' ∧ WordsR M r M' (wordsN (s.length + 1) line 1 [] s) := by
  refine R.cps fun Q hQ => ?_
  apply T_line_words
  unfold S_line_words
  refine s_new fun M1 u1 o1 n1 => ?_
  rw [bS_s]
  have eb : boxv (.agg #[sv s, iv (line : Int), iv 0]) = some [sv s, iv (line : Int), iv 0] := by kernel_rfl
  rw [eb, OP_some]
  refine s_new fun M2 u2 o2 n2 => ?_
  apply T_line_words_1
  unfold S_line_words_1
  have hsc : Sc M2 M1.n s line 0 := o2
  exact words_loop (M0 := M) hs hn (by omega) (Nat.le_refl _) (by omega) (fun r M' hu hr => hQ _ _ ⟨hu, hr⟩) (s.length + 1) 0 [] _ M2 (by omega) (by omega) (by simp) (u1.trans u2) hsc (o1.up u2) NK.nil rfl

/-! ## rows -/
def RowE (M0 : Store) (M : Store) (v : Value) (ws : List Wd) : Prop := NWS M0 M v ws ∧ ∃ b, bx v = some b ∧ M0.n ≤ b ∧ b < M.n
/-- Rows of words, each in a place of its own. -/
def RW2 (M0 M : Store) (w : Value) (rows : List (List Wd)) : Prop := ∃ vs, Nw 1 Ty.sl_api_Word M0 M w rows.length vs ∧ Each (RowE M0 M) vs rows ∧ vs.Pairwise fun a b => bx a ≠ bx b
abbrev RW (M : Store) (w : Value) (rows : List (List Wd)) : Prop := Ls WS Ty.sl_api_Word M w rows
theorem RowE.keep {M0 M M' : Store} {v : Value} {ws : List Wd} (h : RowE M0 M v ws) (k : Keep Ty.sl_api_Word M M') : RowE M0 M' v ws := by
  obtain ⟨h1, b, h2, h3, h4⟩ := h
  exact ⟨Nw.keep h1 ne_wsw k, b, h2, h3, Nat.lt_of_lt_of_le h4 k.1⟩
theorem RowE.up {M0 M M' : Store} {v : Value} {ws : List Wd} (h : RowE M0 M v ws) (k : Up M M') : RowE M0 M' v ws := by
  obtain ⟨h1, b, h2, h3, h4⟩ := h
  exact ⟨Nw.up h1 k, b, h2, h3, Nat.lt_of_lt_of_le h4 k.n⟩
theorem RW2.up {M0 M M' : Store} {w : Value} {rows : List (List Wd)} (h : RW2 M0 M w rows) (k : Up M M') : RW2 M0 M' w rows := by
  obtain ⟨vs, h1, h2, h3⟩ := h
  exact ⟨vs, h1.up k, h2.mono fun v x h => RowE.up h k, h3⟩
theorem RW2.rw {M0 M : Store} {w : Value} {rows : List (List Wd)} (h : RW2 M0 M w rows) : RW M w rows := by
  obtain ⟨vs, h1, h2, h3⟩ := h
  exact ⟨vs, h1.sl, h2.mono fun v x h => h.1.sl⟩
theorem RW2.keep {M0 M M' : Store} {w : Value} {rows : List (List Wd)} (h : RW2 M0 M w rows) {T : TypeId} (h1 : Ty.api_Word ≠ T) (h2 : Ty.sl_api_Word ≠ T) (k : Keep T M M') : RW2 M0 M' w rows := by
  obtain ⟨vs, g1, g2, g3⟩ := h
  exact ⟨vs, g1.keep h2 k, g2.mono fun v x ⟨h, b, e1, e2, e3⟩ => ⟨Nw.keep h h1 k, b, e1, e2, Nat.lt_of_lt_of_le e3 k.1⟩, g3⟩
theorem RW2.nil (M0 M : Store) : RW2 M0 M (.slice none 0 0) [] := ⟨[], Nw.nil _ _ _ _, trivial, .nil⟩
theorem Each.mem {α : Type} {E : Value → α → Prop} : ∀ {vs : List Value} {xs : List α}, Each E vs xs → ∀ v ∈ vs, ∃ x, E v x
  | [], [], _, v, hv => by cases hv
  | v :: vs, x :: xs, h, u, hu => by
    rcases List.mem_cons.1 hu with rfl | hu
    · exact ⟨x, h.1⟩
    · exact Each.mem h.2 u hu
/-- One row more. -/
theorem RW2.app {M0 M : Store} {w v : Value} {vs : List Value} {rows : List (List Wd)} {ws : List Wd} (hu : Up M0 M) (h1 : Nw 1 Ty.sl_api_Word M0 M w rows.length vs) (h2 : Each (RowE M0 M) vs rows) (h3 : vs.Pairwise fun a b => bx a ≠ bx b) (hv : RowE M0 M v ws)
    (hdis : ∀ u ∈ vs, bx u ≠ bx v) (hz : rows.length + 1 ≤ 2 ^ 28) {K : Value → Store → Prop}
    (hK : ∀ v' M', Up M0 M' → RW2 M0 M' v' (rows ++ [ws]) → Keep Ty.sl_api_Word M M' → K v' M') :
    OP2 (appV 1 Ty.sl_api_Word w (.slice (some ⟨M.n, 0, none⟩) 1 1) (M.push (some (.inl ([v], Ty.sl_api_Word, true))))) K := by
  have hw : Nw 1 Ty.sl_api_Word M0 (M.push (some (.inl ([v], Ty.sl_api_Word, true)))) (.slice (some ⟨M.n, 0, none⟩) 1 1) 1 [v] := Nw.lit (n := 1) hu.le (by simp)
  have h1' := h1.up (Up.push M (some (.inl ([v], Ty.sl_api_Word, true))))
  obtain ⟨v', M', e1, hu', hN, hn, hf, _⟩ := Nw.appV (hu.push' _) h1' hw.sl hz
  have hk : Keep Ty.sl_api_Word M M' := (Up.push M (some (.inl ([v], Ty.sl_api_Word, true)))).keep.trans (h1'.keeps hn hf)
  rw [e1, OP2_some]
  refine hK v' M' hu' ⟨vs ++ [v], by simpa using hN, (h2.mono fun v x h => h.keep hk).append ⟨hv.keep hk, trivial⟩, ?_⟩ hk
  rw [List.pairwise_append]
  exact ⟨h3, by simp, fun a ha b hb => by
    have : b = v := by simpa using hb
    subst this
    exact hdis a ha⟩

/-- What the words of all lines come to. -/
def SplitR (M0 : Store) (r : Value) (M' : Store) : Sum Ft (List (List Wd)) → Prop
  | .inl f => r = .tuple #[.slice none 0 0, fv f]
  | .inr rows => ∃ w, r = .tuple #[w, fv fv0] ∧ RW2 M0 M' w rows

theorem linesF_cut : ∀ b : List UInt8, linesF b = cutF 10 b
  | [] => rfl
  | c :: b => by
    rw [linesF, cutF, linesF_cut b]
    cases cutF 10 b <;> rfl

theorem nts2 {s e M v n cs} (h : Sl s e M v n cs) (f : Ft) : NTs [v, .agg (fcs f).toArray] := by obtain ⟨a, c, rfl⟩ := h.slice; rfl

theorem Split_loop {M0 : Store} {b3 : Nat} {ls : List (List UInt8)} {x11 : Value} (hln : ls.length ≤ 2 ^ 28) (hsz : ∀ l ∈ ls, l.length ≤ 2 ^ 28 ∧ ∀ c ∈ l, c ≠ 10) (hb3 : M0.n ≤ b3) {res : Sum Ft (List (List Wd))} {Q : Value → Store → Prop} (hQ : ∀ r M', Up M0 M' → SplitR M0 r M' res → Q r M') :
    ∀ (d i : Nat) (acc : List (List Wd)) (x4 : Value) (M : Store), d + i = ls.length → acc.length ≤ i → Up M0 M → Ob M b3 (fcs fv0) Ty.api_Fault → LV sv Ty.string M x11 ls → RW2 M0 M x4 acc →
      (match rowsF (i + 1) (ls.drop i) with | .inl f => .inl f | .inr rs => .inr (acc ++ rs)) = res →
      P_line_Split_1 (.pointer (some ⟨b3, 0, none⟩)) x4 x11 (iv (ls.length : Int)) (iv (i : Int)) M Q := by
  intro d
  induction d with
  | zero =>
    intro i acc x4 M hi ha hu o3 hL hR hres
    apply T_line_Split_1
    unfold S_line_Split_1
    rw [lss_n, BR_dec, if_neg (by omega)]
    apply T_line_Split_3
    unfold S_line_Split_3
    rw [List.drop_of_length_le (by omega), rowsF] at hres
    simp only [List.append_nil] at hres
    subst hres
    rw [bS_f0]
    refine s_st (vs := fcs fv0) o3 rfl rfl (fcs_one _) fun M1 c1 o31 n1 => ?_
    rw [ldF o31, OP_some]
    obtain ⟨vs, h1, h2, h3⟩ := hR
    refine ⟨nts2 h1.sl _, hQ _ _ (hu.ch c1 (by simpa using hb3)) ⟨_, rfl, RW2.keep ⟨vs, h1, h2, h3⟩ ne_wf (by decide) (c1.keepT o3)⟩⟩
  | succ d ih =>
    intro i acc x4 M hi ha hu o3 hL hR hres
    apply T_line_Split_1
    unfold S_line_Split_1
    rw [lss_n, BR_dec, if_pos (by omega)]
    apply T_line_Split_2
    unfold S_line_Split_2
    have hil : i < ls.length := by omega
    obtain ⟨p, e1, e2⟩ := hL.at hil .i64
    rw [e1, OP_some, e2, OP_some, add1_n _ (by omega)]
    obtain ⟨hl1, hl2⟩ := hsz ls[i] (List.getElem_mem hil)
    rw [List.drop_eq_getElem_cons hil, rowsF] at hres
    refine (words_ok hl1 hl2 (line := i + 1)).mono fun r M1 ⟨u1, hr⟩ => ?_
    have hu1 := hu.trans u1
    have o31 := o3.up u1
    generalize hw : wordsN (ls[i].length + 1) (i + 1) 1 [] ls[i] = wr at hr hres
    cases wr with
    | inl f =>
      have hr : r = .tuple #[.slice none 0 0, fv f] := hr
      subst hr
      simp only at hres
      rw [tp2_0, OP_some, tp2_1, OP_some]
      refine s_new fun M2 u2 o2 n2 => ?_
      refine s_st (vs := fcs f) o2 rfl rfl (fcs_one _) fun M3 c3 o83 n3 => ?_
      have hf : FtOk f := wordsN_ft _ _ _ _ _ _ (Nat.lt_succ_self _) hw
      rw [fad0, Ob.ld (o := 0) (v := iv (f.1 : Int)) o83 rfl, OP_some, neq_l 0 0 rfl, BR_dec, if_pos (by rcases hf with h | h | h <;> omega), ldF o83, OP_some]
      have hlt3 := o31.lt
      have o33 := (o31.up u2).fr c3 (by simp; omega)
      refine s_st (vs := fcs f) o33 rfl rfl (fcs_one _) fun M4 c4 o34 n4 => ⟨c4.tdx o33 (by exact o33.lt), ?_⟩
      rw [ldF o34, OP_some]
      have hn1 := hu1.n
      refine ⟨rfl, hQ _ _ (((hu1.trans u2).ch c3 (by simp; omega)).ch c4 (by simpa using hb3)) ?_⟩
      rw [← hres]; exact rfl
    | inr ws =>
      obtain ⟨v, hr, hN⟩ := hr
      subst hr
      simp only at hres
      rw [tp2_0, OP_some, tp2_1, OP_some]
      refine s_new fun M2 u2 o2 n2 => ?_
      refine s_st (vs := fcs fv0) o2 rfl rfl (fcs_one _) fun M3 c3 o83 n3 => ?_
      rw [fad0, Ob.ld (o := 0) (v := iv ((fv0.1 : Nat) : Int)) o83 rfl, OP_some, show ((fv0.1 : Nat) : Int) = ((0 : Nat) : Int) from rfl, neq_l 0 0 rfl, BR_dec, if_neg (by omega)]
      have hlt3 := o31.lt
      have hn1 := hu1.n
      have u13 : Up M1 M3 := u2.ch c3 (by simp)
      have u03 := hu1.trans u13
      have o33 := o31.up u13
      have hL3 := (hL.up u1).up u13
      have hR3 := (hR.up u1).up u13
      have hN3 : NWS M M3 v ws := hN.up u13
      rw [hN3.lv.len, OP_some, gtr_l 0 0 rfl, BR_dec]
      split
      · rename_i hpos
        obtain ⟨a, c, rfl⟩ := hN3.sl.slice
        rw [bl_sl1, LT_eq]
        have hne : ws ≠ [] := fun h => by rw [h] at hpos; simp at hpos
        have hbx : ∃ b, bx (.slice a ws.length c) = some b ∧ M.n ≤ b ∧ b < M3.n := by
          obtain ⟨_, ⟨h0, _⟩ | ⟨b, cells, c', e, h1, h2, _⟩⟩ := hN3
          · omega
          · rw [e]; exact ⟨b, rfl, h1, M3.lt_of_get h2⟩
        obtain ⟨bb, hbb1, hbb2, hbb3⟩ := hbx
        have hn0 := hu.n
        obtain ⟨vs, g1, g2, g3⟩ := hR
        refine RW2.app u03 ((g1.up u1).up u13) (g2.mono fun v x h => (RowE.up h u1).up u13) g3 ⟨hN3.base hn0, bb, hbb1, by omega, hbb3⟩ (fun u hu' => ?_) (by omega) fun v' M' hu' hR' hk => ?_
        · obtain ⟨x, _, b', f1, f2, f3⟩ := Each.mem g2 u hu'
          rw [f1, hbb1]
          intro h
          injection h with h
          omega
        · rw [add1_n _ (by omega)]
          refine ih (i + 1) (acc ++ [ws]) v' M' (by omega) (by simp; omega) hu' (o33.keep ne_fsw hk) (Sl.keep hL3 ne_ssw hk) hR' ?_
          rw [← hres]
          cases rowsF (i + 1 + 1) (ls.drop (i + 1)) with
          | inl f => rfl
          | inr rs => simp [pushR, hne]
      · rename_i hpos
        have hne : ws = [] := List.length_eq_zero_iff.1 (by omega)
        rw [add1_n _ (by omega)]
        refine ih (i + 1) acc x4 M3 (by omega) (by omega) u03 o33 hL3 hR3 ?_
        rw [← hres]
        cases rowsF (i + 1 + 1) (ls.drop (i + 1)) with
        | inl f => rfl
        | inr rs => simp [pushR, hne]

theorem Split_ok {M : Store} {v : Value} {b : List UInt8} (h : B M v b) (hl : b.length ≤ 2 ^ 27) : R F.line_Split #[v] M fun r M' => Up M M' ∧ SplitR M r M' (splitF b) := by
  refine R.cps fun Q hQ => ?_
  apply T_line_Split
  unfold S_line_Split
  refine s_new fun M1 u1 o1 n1 => ?_
  have h1 : B M1 v b := Sl.up h u1
  rw [cvBS_ok h1, OP_some]
  refine (Split1_ok (c := 10) (by omega)).mono fun t M2 ⟨u2, hL⟩ => ?_
  rw [hL.len, OP_some]
  have hc := cutF_length 10 b
  have hcl := List.countP_le_length (p := fun c => c == (10 : UInt8)) (l := b)
  refine Split_loop (M0 := M) (ls := cutF 10 b) (b3 := M.n) (by omega) (fun l hl' => ⟨by have := cutF_le 10 b l hl'; omega, cutF_mem b l hl'⟩) (Nat.le_refl _) (fun r M' hu hr => hQ _ _ ⟨hu, hr⟩) (cutF 10 b).length 0 [] _ M2 (by omega) (by simp) (u1.trans u2) (o1.up u2) hL (RW2.nil _ _) ?_
  rw [splitF_rows, linesF_cut, List.drop_zero]
  cases rowsF (0 + 1) (cutF 10 b) with
  | inl f => rfl
  | inr rs => rfl
end Go.G
