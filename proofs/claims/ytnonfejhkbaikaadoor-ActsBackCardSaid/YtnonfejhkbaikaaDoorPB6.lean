/- ActsBack: an action's words are read as it. -/
import Derived.Test.YtnonfejhkbaikaaDoorPUC
import Derived.Test.YtnonfejhkbaikaaDoorPUB
import Derived.Test.YtnonfejhkbaikaaDoorPL6s
import Derived.Test.YtnonfejhkbaikaaDoorPW4d
import Derived.Test.YtnonfejhkbaikaaDoorPGJ
namespace Go.G
open Go.Ab Go.Proofs Go.RowKit
set_option linter.unusedVariables false
set_option linter.unusedSimpArgs false
set_option maxRecDepth 100000

theorem awake6_ok {M : Store} {Q : Value → Store → Prop} (hQ : Q (tv true) M) : R F.fettlelaw6_awake #[] M Q := R_told (g := yes0) (by kernel_rfl) rfl hQ
abbrev nvB (n : Nat) : Value := iv (n : Int)
abbrev wvB (w : Ww) : Value := .agg (wws w).toArray
theorem bs_wt (t : List UInt8) (K : Value → Prop) : OP (bldS #[(.string ⟨#[]⟩), (.int .i64 0), (.int .i64 0), (.bool false)] [(0, 1), (1, 1), (2, 1), (3, 1)] [(0, sv t)]) K = K (wvB (t, 0, 0, false)) := by kernel_rfl
theorem bs_wq (t : List UInt8) (q : Bool) (K : Value → Prop) : OP (bldS #[(.string ⟨#[]⟩), (.int .i64 0), (.int .i64 0), (.bool false)] [(0, 1), (1, 1), (2, 1), (3, 1)] [(0, sv t), (3, tv q)]) K = K (wvB (t, 0, 0, q)) := by kernel_rfl
theorem bl_w1 (w : Ww) (K : List Value → Prop) : OP (bldL (.agg #[(.string ⟨#[]⟩), (.int .i64 0), (.int .i64 0), (.bool false)]) 4 1 [(0, wvB w)]) K = K (wws w) := by obtain ⟨a, b, c, d⟩ := w; kernel_rfl
theorem wws_one (w : Ww) : (wws w).all (·.oneCell') = true := by obtain ⟨a, b, c, d⟩ := w; kernel_rfl
theorem tdj_kl {js Ns : List Nat} {v : Value} {M M' : Store} (h : Ch (kl v) M M') (hk : ∀ b, kil v = some b → (M.get b).isSome = true ∧ ∃ j ∈ js, Ns.getD j 0 ≤ b ∧ b < Ns.getD (j + 1) 0) : TDj js Ns M M' :=
  ⟨h.n, fun c hc => by
    rcases h.tdiff c hc with hc | hc
    · exact .inl hc
    · exact .inr (hk c (mem_kl.1 hc))⟩
theorem tdx_kl {bs Ns : List Nat} {i : Nat} {v : Value} {M M' : Store} (h : Ch (kl v) M M') (hk : ∀ b, kil v = some b → (M.get b).isSome = true ∧ ∃ j, j < i ∧ (bs.getD i 0).testBit j = true ∧ Ns.getD j 0 ≤ b ∧ b < Ns.getD (j + 1) 0) : TDx bs Ns i M M' :=
  ⟨h.n, fun c hc => by
    rcases h.tdiff c hc with hc | hc
    · exact .inl hc
    · obtain ⟨h1, j, hj, ht, h2, h3⟩ := hk c (mem_kl.1 hc)
      refine .inr ⟨h1, ?_⟩
      unfold accB
      rw [Bool.or_eq_true]
      refine .inr (List.any_eq_true.2 ⟨j, List.mem_range.2 hj, ?_⟩)
      rw [ht, decide_eq_true h2, decide_eq_true h3]; rfl⟩
abbrev NWW (M0 M : Store) (v : Value) (ws : List Ww) : Prop := NK 4 wws Ty.api_Word M0 M v ws
theorem nameA_at {k : Nat} (h : k < wordsA.length) : wordsA[k] = nameA (k : Int) := by
  unfold nameA
  rw [Int.toNat_natCast, List.getD_eq_getElem?_getD, List.getElem?_eq_getElem h]; rfl
section
variable {M0 : Store} {x1 x2 x7 x9 : Value} {l : List Dw} {Q : Value → Store → Prop}
/-- One word more. -/
theorem ab_word {M : Store} {x8 : Value} {ws : List Ww} (hu : Up M0 M) (h8 : NWW M0 M x8 ws) (hz : ws.length ≤ 2 ^ 20) (w : Ww) {K : Value → Store → Prop} (hK : ∀ v' M', Up M0 M' → NWW M0 M' v' (ws ++ [w]) → Keep Ty.api_Word M M' → K v' M') :
    OP (bldL (.agg #[(.string ⟨#[]⟩), (.int .i64 0), (.int .i64 0), (.bool false)]) 4 1 [(0, wvB w)]) fun c => LT (.slice (some ⟨M.n, 0, none⟩) 1 1) (M.push (some (.inl (c, Ty.api_Word, true)))) fun t M1 => OP2 (appV 4 Ty.api_Word x8 t M1) K := by
  rw [bl_w1, LT_eq]
  refine NK.app1 wws_len hu (Nat.le_refl _) hu.n h8 w rfl (by omega) fun v' M' u' hN' hc _ => hK v' M' u' hN' ?_
  exact Nw.keepE h8 hc
theorem ab_loop (h24 : DS M0 x7 l) (hl : l.length ≤ 8) (hr : ∀ d ∈ l, rightA d = true) (h9 : LV sv Ty.string M0 x9 wordsA) (hQ : ∀ M x8, Up M0 M → NWW M0 M x8 (actW l) → P_fettlelaw6_ActsBack_3 x1 x2 x7 x8 M Q) :
    ∀ (k i : Nat) (M : Store) (x8 : Value), k + i = l.length → Up M0 M → NWW M0 M x8 (actW (l.take i)) → P_fettlelaw6_ActsBack_1 x1 x2 x7 x8 x9 x7 (nvB l.length) (nvB i) M Q := by
  intro k
  induction k with
  | zero =>
    intro i M x8 hi hu h8
    apply T_fettlelaw6_ActsBack_1
    unfold S_fettlelaw6_ActsBack_1
    rw [lss_n, BR_dec, if_neg (by omega)]
    rw [List.take_of_length_le (by omega)] at h8
    exact hQ M x8 hu h8
  | succ k ih =>
    intro i M x8 hi hu h8
    have hil : i < l.length := by omega
    apply T_fettlelaw6_ActsBack_1
    unfold S_fettlelaw6_ActsBack_1
    rw [lss_n, BR_dec, if_pos hil]
    apply T_fettlelaw6_ActsBack_2
    unfold S_fettlelaw6_ActsBack_2
    have hsn : actW (l.take (i + 1)) = actW (l.take i) ++ ((if 0 < i then [semiW] else []) ++ oneW l[i]) := by
      rw [List.take_succ_eq_append_getElem hil, actW_snoc, List.length_take, Nat.min_eq_left (by omega)]
    have hwl : (actW (l.take i)).length ≤ 2 ^ 10 := by
      have := actW_len (l.take i)
      rw [List.length_take] at this; omega
    have hd := hr _ (List.getElem_mem hil)
    rw [ds_ld (Sl.up h24 hu) hil]
    generalize l[i] = d at *
    obtain ⟨hk1, hk11, hparts⟩ := right_parts hd
    obtain ⟨kk, nn, ss⟩ := d
    obtain ⟨kk, rfl⟩ := Int.eq_ofNat_of_zero_le (show 0 ≤ kk by simp only at hk1; omega)
    simp only at hk1 hk11 hparts
    refine s_new fun M1 u1 o1 n1 => ?_
    refine s_st (vs := dcs ((kk : Int), nn, ss)) o1 rfl rfl (by kernel_rfl) fun M2 c2 o2 n2 => ?_
    have o2 : Ob M2 M.n [nvB kk, iv nn, sv ss] Ty.api_Do := o2
    have u02 : Up M0 M2 := (hu.trans u1).ch c2 (fun b hb => by simp at hb; subst hb; exact hu.n)
    have h82 : NWW M0 M2 x8 (actW (l.take i)) := Nw.keep (Nw.up h8 u1) (by decide) (c2.keepT o1)
    -- behind the first
    have p4 : ∀ (M3 : Store) (x8' : Value), Up M0 M3 → NWW M0 M3 x8' (actW (l.take i) ++ (if 0 < i then [semiW] else [])) → Ob M3 M.n [nvB kk, iv nn, sv ss] Ty.api_Do → P_fettlelaw6_ActsBack_4 x1 x2 x7 x8' x9 (.pointer (some ⟨M.n, 0, none⟩)) x7 (nvB l.length) (nvB i) M3 Q := by
      intro M3 x8' u3 h83 o3
      apply T_fettlelaw6_ActsBack_4
      unfold S_fettlelaw6_ActsBack_4
      simp only [fad0, o3.l3]
      have hkl : kk < wordsA.length := by show kk < 12; omega
      obtain ⟨p, e1, e2⟩ := (h9.up u3).at hkl .i64
      rw [e1, OP_some, e2, OP_some, nameA_at hkl, bs_wt]
      have hz3 : (actW (l.take i) ++ (if 0 < i then [semiW] else [])).length ≤ 2 ^ 20 := by
        rw [List.length_append]; split <;> simp <;> omega
      refine ab_word u3 h83 hz3 (nameA kk, 0, 0, false) fun x8'' M4 u4 h84 k4 => ?_
      have o4 := o3.keep (show Ty.api_Do ≠ Ty.api_Word by decide) k4
      simp only [fad0, o4.l3]
      have hz4 : ((actW (l.take i) ++ (if 0 < i then [semiW] else [])) ++ [(nameA kk, 0, 0, false)]).length ≤ 2 ^ 20 := by
        rw [List.length_append, List.length_append]; split <;> simp <;> omega
      have p6 : ∀ (M5 : Store) (x : Value) (r : List Ww), Up M0 M5 → NWW M0 M5 x (((actW (l.take i) ++ (if 0 < i then [semiW] else [])) ++ [(nameA kk, 0, 0, false)]) ++ r) → oneW ((kk : Int), nn, ss) = (nameA kk, 0, 0, false) :: r → P_fettlelaw6_ActsBack_6 x1 x2 x7 x x9 x7 (nvB l.length) (nvB i) M5 Q := by
        intro M5 x r u5 h5 he
        apply T_fettlelaw6_ActsBack_6
        unfold S_fettlelaw6_ActsBack_6
        rw [add1_n _ (by omega)]
        refine ih (i + 1) M5 x (by omega) u5 ?_
        have : actW (l.take (i + 1)) = ((actW (l.take i) ++ (if 0 < i then [semiW] else [])) ++ [(nameA kk, 0, 0, false)]) ++ r := by
          rw [hsn, he]; simp
        rw [this]; exact h5
      have p5 : ∀ b : Bool, b = textA (kk : Int) → P_fettlelaw6_ActsBack_5 x1 x2 x7 x8'' x9 (.pointer (some ⟨M.n, 0, none⟩)) x7 (nvB l.length) (nvB i) (nvB kk) (tv b) M4 Q := by
        intro b hb
        subst hb
        apply T_fettlelaw6_ActsBack_5
        unfold S_fettlelaw6_ActsBack_5
        rw [BR_bool]
        split
        · rename_i ht
          simp only [fad0, o4.l3]
          rw [bs_wq]
          refine ab_word u4 h84 hz4 (ss, 0, 0, true) fun x M5 u5 h5 _ => p6 M5 x [(ss, 0, 0, true)] u5 h5 ?_
          unfold oneW
          simp only
          rw [if_pos ht]
        · rename_i ht
          have p7 : ∀ b : Bool, b = decide (0 ≤ topA (kk : Int)) → P_fettlelaw6_ActsBack_7 x1 x2 x7 x8'' x9 (.pointer (some ⟨M.n, 0, none⟩)) x7 (nvB l.length) (nvB i) (tv b) M4 Q := by
            intro b hb
            subst hb
            apply T_fettlelaw6_ActsBack_7
            unfold S_fettlelaw6_ActsBack_7
            rw [BR_dec]
            split
            · rename_i htop
              simp only [fad0, o4.l3]
              rcases hparts with ⟨h, _⟩ | ⟨_, _, h0, hn⟩
              · exact absurd h ht
              rw [if_neg (by omega)] at hn
              have := topA_le (kk : Int)
              obtain ⟨m, rfl⟩ := Int.eq_ofNat_of_zero_le h0
              have hdl : (Lib.decDigits m).length ≤ 3 := dd_len 2 m (by omega)
              refine (Dec_ok (n := m) (by omega) (by omega)).mono fun v M5 ⟨u5, e⟩ => ?_
              subst e
              rw [bs_wt]
              refine ab_word (u4.trans u5) (Nw.up h84 u5) hz4 (Lib.decDigits m, 0, 0, false) fun x M6 u6 h6 _ => p6 M6 x [(Lib.decDigits m, 0, 0, false)] u6 h6 ?_
              unfold oneW
              simp only
              rw [if_neg ht, if_pos htop, Int.toNat_natCast]
            · rename_i htop
              refine p6 M4 x8'' [] u4 (by rw [List.append_nil]; exact h84) ?_
              unfold oneW
              simp only
              rw [if_neg ht, if_neg htop]
          rw [eql_l 2 2 rfl, BR_dec]
          split
          · rename_i h2
            exact p7 _ (by rw [h2]; rfl)
          · rename_i h2
            rw [eql_l 7 7 rfl, BR_dec]
            split
            · rename_i h7
              exact p7 _ (by rw [h7]; rfl)
            · rename_i h7
              rw [eql_l 8 8 rfl]
              refine p7 _ ?_
              rw [decide_eq_decide]
              unfold topA
              rw [if_neg (by omega), if_neg (by omega)]
              split
              · rename_i h8; exact ⟨fun _ => by decide, fun _ => by omega⟩
              · rename_i h8; exact ⟨fun h => absurd h (by omega), fun h => absurd h (by decide)⟩
      show OP (binI .eql (nvB kk) (.int .i64 1)) _
      rw [eql_l 1 1 rfl, BR_dec]
      split
      · rename_i hk
        exact p5 _ (by rw [hk]; rfl)
      · rename_i hk
        rw [eql_l 10 10 rfl]
        refine p5 _ ?_
        unfold textA
        rw [decide_eq_false (show ¬ (kk : Int) = 1 by omega), Bool.false_or, decide_eq_decide]
        omega
    rw [gtr_l 0 0 rfl, BR_dec]
    split
    · rename_i h0
      have e59 : ∀ K : Value → Prop, OP (bldS #[(.string ⟨#[]⟩), (.int .i64 0), (.int .i64 0), (.bool false)] [(0, 1), (1, 1), (2, 1), (3, 1)] [(0, (.string ⟨#[59]⟩))]) K = K (wvB semiW) := fun K => bs_wt [59] K
      rw [e59]
      refine ab_word u02 h82 (by omega) semiW fun x M3 u3 h3 k3 => ?_
      refine p4 M3 x u3 (by rw [if_pos h0]; exact h3) (o2.keep (by decide) k3)
    · rename_i h0
      exact p4 M2 x8 u02 (by rw [if_neg h0, List.append_nil]; exact h82) o2
end
end Go.G
