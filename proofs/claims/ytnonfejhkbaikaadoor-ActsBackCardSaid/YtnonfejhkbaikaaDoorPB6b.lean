/- ActsBack as a whole. -/
import Derived.Test.YtnonfejhkbaikaaDoorPB6
namespace Go.G
open Go.Ab Go.Proofs Go.RowKit
set_option linter.unusedVariables false
set_option linter.unusedSimpArgs false
set_option maxRecDepth 100000

def mixW : List (List UInt8) := [[97, 108, 108], [114, 101, 118], [55], [113], [59], [102, 97, 105, 108]]
theorem mixW_len : ∀ t ∈ mixW, t.length ≤ 4 := by decide
/-- What a reading comes to, as two values. -/
theorem ParseR.of {M0 M : Store} {r : Value} {o : Option (List Dw)} (h : ParseR M0 M r o) : ∃ w, r = .tuple #[w, tv o.isSome] ∧ DS M w (o.getD []) := by
  cases o with
  | none => exact ⟨_, h, LK.nil⟩
  | some l =>
    obtain ⟨w, e, hN⟩ := h
    exact ⟨w, e, hN.lv⟩
theorem ab_text {l : List Dw} (hs : ∀ d ∈ l, d.2.2.length ≤ 2 ^ 20) (hr : ∀ d ∈ l, rightA d = true) : ∀ w ∈ actW l, w.1.length ≤ 2 ^ 20 := by
  have one : ∀ d : Dw, d.2.2.length ≤ 2 ^ 20 → rightA d = true → ∀ w ∈ oneW d, w.1.length ≤ 2 ^ 20 := by
    intro d hd hrd w hw
    obtain ⟨h1, h11, hp⟩ := right_parts hrd
    unfold oneW at hw
    rcases List.mem_cons.1 hw with rfl | hw
    · have hn : ∀ k : Nat, (nameA (k : Int)).length ≤ 64 := by
        intro k
        unfold nameA
        rw [Int.toNat_natCast]
        by_cases h : k < wordsA.length
        · rw [List.getD_eq_getElem?_getD, List.getElem?_eq_getElem h]
          have : ∀ t ∈ wordsA, t.length ≤ 64 := by decide
          exact this _ (List.getElem_mem h)
        · rw [List.getD_eq_getElem?_getD, List.getElem?_eq_none (by omega)]; simp
      obtain ⟨k, hk⟩ := Int.eq_ofNat_of_zero_le (show 0 ≤ d.1 by omega)
      have := hn k
      rw [hk]
      simp only
      exact Nat.le_trans this (by decide)
    · split at hw
      · have : w = (d.2.2, 0, 0, true) := by simpa using hw
        subst this; exact hd
      · split at hw
        · rename_i ht htop
          have : w = (Lib.decDigits d.2.1.toNat, 0, 0, false) := by simpa using hw
          subst this
          rcases hp with ⟨h, _⟩ | ⟨_, _, h0, hn⟩
          · exact absurd h ht
          rw [if_neg (by omega)] at hn
          have := topA_le d.1
          have := dd_len 2 d.2.1.toNat (by omega)
          simp only
          exact Nat.le_trans this (by decide)
        · simp at hw
  intro w hw
  cases l with
  | nil => simp [actW] at hw
  | cons d r =>
    rw [actW] at hw
    rcases List.mem_append.1 hw with hw | hw
    · exact one d (hs d (by simp)) (hr d (by simp)) w hw
    · unfold tailW at hw
      obtain ⟨e, he, hw⟩ := List.mem_flatMap.1 hw
      rcases List.mem_cons.1 hw with rfl | hw
      · decide
      · exact one e (hs e (by simp [he])) (hr e (by simp [he])) w hw
theorem parseA_good : ∀ (k : Nat) (ws : List Ww) (acc l : List Dw), parseA k ws acc = some l → okA l = true
  | 0, ws, acc, l, h => by cases h
  | k + 1, ws, acc, l, h => by
    unfold parseA at h
    split at h
    · cases h
    · split at h
      · unfold finA at h
        split at h
        · rename_i ho; injection h with h; subst h; exact ho
        · cases h
      · exact parseA_good k _ _ l h
theorem ActsBack_ok {M : Store} (hT : Tb6 M) {x0 : Value} {ns : List Int} (h0 : LV iv Ty.int M x0 ns) (at_ wd : Int) : R F.fettlelaw6_ActsBack #[x0, iv at_, iv wd] M fun v M' => v = tv true := by
  refine R.cps fun Q hQ => ?_
  have hQ : ∀ M, Q (tv true) M := fun M => hQ _ _ rfl
  apply T_fettlelaw6_ActsBack
  unfold S_fettlelaw6_ActsBack
  refine (Act_F h0).mono fun x7 M1 ⟨u1, hN7⟩ => ?_
  obtain ⟨hl6, hl1, hokD, hok⟩ := actF_ok ns
  obtain ⟨hr, _, _⟩ := okA_right hok
  have hDs := hN7.lv
  generalize actF ns = l at *
  have hds : ∀ d ∈ l, d.2.2.length ≤ 2 ^ 20 := fun d hd => by
    have := (hokD d hd)
    obtain ⟨_, _, _, _, h⟩ := this
    omega
  have e12 : ∀ K : List Value → Prop, OP (bldL (.string ⟨#[]⟩) 1 12 [(0, (.string ⟨#[]⟩)), (1, (.string ⟨#[116, 101, 120, 116]⟩)), (2, (.string ⟨#[105, 110]⟩)), (3, (.string ⟨#[97, 108, 108]⟩)), (4, (.string ⟨#[117, 112, 112, 101, 114]⟩)), (5, (.string ⟨#[108, 111, 119, 101, 114]⟩)), (6, (.string ⟨#[114, 101, 118]⟩)), (7, (.string ⟨#[116, 97, 107, 101]⟩)), (8, (.string ⟨#[100, 114, 111, 112]⟩)), (9, (.string ⟨#[116, 119, 105, 99, 101]⟩)), (10, (.string ⟨#[106, 111, 105, 110]⟩)), (11, (.string ⟨#[102, 97, 105, 108]⟩))]) K = K (wordsA.map sv) := fun K => by kernel_rfl
  rw [e12]
  refine s_lit (s := 1) (n := 12) rfl fun M2 u2 hN2 o2 n2 => ?_
  have hDs2 := Sl.up hDs u2
  rw [hDs2.lenV, OP_some]
  have u12 := u1.trans u2
  refine ab_loop (M0 := M2) hDs2 (by omega) hr (Nw.sl hN2) (fun M3 x8 u3 h8 => ?_) l.length 0 M2 _ rfl (Ch.refl _ _) (NK.nil (k := 4) (En := wws))
  apply T_fettlelaw6_ActsBack_3
  unfold S_fettlelaw6_ActsBack_3
  have hwl := actW_len l
  have hwt := ab_text hds hr
  have hT3 := hT.up (u12.trans u3)
  refine (Parse_ok hT3 h8.lv (by omega) (fun w hw => by have := hwt w hw; omega)).mono fun r M4 ⟨u4, hR⟩ => ?_
  rw [act_back hok] at hR
  obtain ⟨wb, e, hNb⟩ := hR
  subst e
  have hb4 : DS M4 wb l := hNb.lv
  rw [(tp2 _ _).1, (tp2 _ _).2]
  have h84 := Nw.up h8 u4
  have ea : ∀ K : Value → Prop, OP (binI .and (iv at_) (.int .i64 255)) K = K (nvB (andN at_ 255)) := fun K => by
    show OP (binI .and (.int .i64 at_) (.int .i64 ((255 : Nat) : Int))) K = _
    rw [e_andN _ 255 (by decide), OP_some]
  rw [ea, (NK.lv h84).lenV, OP_some, add_l (a := (actW l).length) 1 1 rfl (by omega)]
  have er : binI .rem (nvB (andN at_ 255)) (iv (((actW l).length + 1 : Nat) : Int)) = some (nvB (andN at_ 255 % ((actW l).length + 1))) := e_rem _ _ (by omega)
  rw [er, OP_some]
  have hk : andN at_ 255 % ((actW l).length + 1) ≤ (actW l).length := by have := Nat.mod_lt (andN at_ 255) (show 0 < (actW l).length + 1 by omega); omega
  generalize andN at_ 255 % ((actW l).length + 1) = k at *
  have e6 : ∀ K : List Value → Prop, OP (bldL (.string ⟨#[]⟩) 1 6 [(0, (.string ⟨#[97, 108, 108]⟩)), (1, (.string ⟨#[114, 101, 118]⟩)), (2, (.string ⟨#[55]⟩)), (3, (.string ⟨#[113]⟩)), (4, (.string ⟨#[59]⟩)), (5, (.string ⟨#[102, 97, 105, 108]⟩))]) K = K (mixW.map sv) := fun K => by kernel_rfl
  rw [e6]
  refine s_lit (s := 1) (n := 6) rfl fun M5 u5 hN5 o5 n5 => ?_
  have ew : ∀ K : Value → Prop, OP (binI .and (iv wd) (.int .i64 255)) K = K (nvB (andN wd 255)) := fun K => by
    show OP (binI .and (.int .i64 wd) (.int .i64 ((255 : Nat) : Int))) K = _
    rw [e_andN _ 255 (by decide), OP_some]
  have er6 : binI .rem (nvB (andN wd 255)) (.int .i64 6) = some (nvB (andN wd 255 % 6)) := e_rem _ 6 (by decide)
  rw [ew, er6, OP_some]
  have hq6 : andN wd 255 % 6 < mixW.length := by show andN wd 255 % 6 < 6; exact Nat.mod_lt _ (by decide)
  obtain ⟨p, e1, e2⟩ := (show LV sv Ty.string M5 _ mixW from Nw.sl hN5).at hq6 .i64
  have hmx := mixW_len _ (List.getElem_mem hq6)
  rw [e1, OP_some, e2, OP_some]
  generalize mixW[andN wd 255 % 6] = t at *
  show OP (binI .shr (.int .i64 wd) (.int .u64 ((8 : Nat) : Int))) _
  rw [e_shrN wd 8 (by decide)]
  show OP (binI .and (.int .i64 (shrN wd 8)) (.int .i64 ((3 : Nat) : Int))) _
  rw [e_andN _ 3 (by decide), OP_some]
  show OP (binI .eql (nvB (andN (shrN wd 8) 3)) (.int .i64 0)) _
  rw [eql_l 0 0 rfl, bs_wq]
  generalize decide (andN (shrN wd 8) 3 = 0) = q
  refine s_new fun M6 u6 o6 n6 => ?_
  refine s_st (vs := wws (t, 0, 0, q)) o6 rfl rfl (wws_one _) fun M7 c7 o7 n7 => ?_
  have u47 : Up M4 M7 := (u5.trans u6).ch c7 (by simp; exact u5.n)
  have h87 : WW M7 x8 (actW l) := Sl.up (NK.lv h84) u47
  have e0 : ∀ K : List Value → Prop, OP (bldL (.agg #[(.string ⟨#[]⟩), (.int .i64 0), (.int .i64 0), (.bool false)]) 4 0 []) K = K [] := fun K => by kernel_rfl
  rw [e0]
  refine s_lit (s := 4) (n := 0) rfl fun M8 u8 hN8 o8 n8 => ?_
  have hN8 : NWW M7 M8 (.slice (some ⟨M7.n, 0, none⟩) 0 0) [] := hN8
  obtain ⟨w1, e3, e4⟩ := LK.cut (En := wws) wws_len (Sl.up h87 u8) (lo := none) (hi := some (nvB k)) (a := 0) (r := k) (ab_some hk .i64) ab_none hk (Nat.zero_le _)
  rw [e3, OP_some]
  rw [List.drop_zero] at e4
  have hlt : ((actW l).take k).length ≤ (actW l).length := by rw [List.length_take]; omega
  refine NK.apps (M0 := M7) (En := wws) u8 (Nat.le_refl _) u8.n hN8 e4 (by rw [List.length_nil]; omega) fun x95 M9 u9 hN9 c9 n9 => ?_
  rw [List.nil_append] at hN9
  have u89 : Up M8 M9 := c9
  refine ⟨u89.tdj _ _, ?_⟩
  have o9 := (o7.up u8).up u89
  rw [o9.ldA (s := 4) rfl, OP_some]
  show OP (bldL (.agg #[(.string ⟨#[]⟩), (.int .i64 0), (.int .i64 0), (.bool false)]) 4 1 [(0, wvB (t, 0, 0, q))]) _
  rw [bl_w1]
  refine s_lit (s := 4) (n := 1) rfl fun M10 u10 hN10 o10 n10 => ?_
  have hw10 : WW M10 (.slice (some ⟨M9.n, 0, none⟩) 1 1) [(t, 0, 0, q)] := Nw.sl hN10
  have hN9' := Nw.up hN9 u10
  refine NK.apps (M0 := M7) (En := wws) (u9.trans u10) (Nat.le_refl _) (u9.trans u10).n hN9' hw10 (by rw [List.length_singleton]; omega) fun x98 M11 u11 hN11 c11 n11 => ?_
  have n8' := u8.n
  refine ⟨tdj_kl c11 fun b hb => ?_, ?_⟩
  · obtain ⟨g1, g2⟩ := Nw.bx_in hN9 hb
    obtain ⟨cells, g3⟩ := hN9'.kl_inl (mem_kl.2 hb)
    refine ⟨by rw [g3]; rfl, ?_⟩
    by_cases h : b < M8.n
    · exact ⟨0, by simp, g1, h⟩
    · exact ⟨4, by simp, (by show M8.n ≤ b; omega), g2⟩
  have u711 : Up M7 M11 := u11
  obtain ⟨w2, e5, e6'⟩ := LK.cut (En := wws) wws_len (Sl.up h87 u711) (lo := some (nvB k)) (hi := none) (a := k) (r := (actW l).length) ab_none (ab_some hk .i64) (Nat.le_refl _) hk
  rw [e5, OP_some]
  rw [List.take_length] at e6'
  have hld : ((actW l).drop k).length ≤ (actW l).length := by rw [List.length_drop]; omega
  refine NK.apps (M0 := M7) (En := wws) u11 (Nat.le_refl _) u11.n hN11 e6' (by rw [List.length_append, List.length_singleton]; omega) fun x102 M12 u12' hN12 c12 n12 => ?_
  refine ⟨tdx_kl c12 fun b hb => ?_, ?_⟩
  · obtain ⟨g1, g2⟩ := Nw.bx_in hN11 hb
    obtain ⟨cells, g3⟩ := hN11.kl_inl (mem_kl.2 hb)
    refine ⟨by rw [g3]; rfl, ?_⟩
    by_cases h1 : b < M8.n
    · exact ⟨0, by decide, by decide, g1, h1⟩
    · by_cases h2 : b < M9.n
      · exact ⟨4, by decide, by decide, (by show M8.n ≤ b; omega), h2⟩
      · by_cases h3 : b < M10.n
        · exact ⟨6, by decide, by decide, (by show M9.n ≤ b; omega), h3⟩
        · exact ⟨7, by decide, by decide, (by show M10.n ≤ b; omega), g2⟩
  have hml : ((actW l).take k ++ [(t, 0, 0, q)] ++ (actW l).drop k).length ≤ 100 := by
    rw [List.length_append, List.length_append, List.length_take, List.length_drop, List.length_singleton]; omega
  have hmt : ∀ w ∈ (actW l).take k ++ [(t, 0, 0, q)] ++ (actW l).drop k, w.1.length ≤ 2 ^ 20 := by
    intro w hw
    rcases List.mem_append.1 hw with hw | hw
    · rcases List.mem_append.1 hw with hw | hw
      · exact hwt w (List.mem_of_mem_take hw)
      · have : w = (t, 0, 0, q) := by simpa using hw
        subst this; simp only; omega
    · exact hwt w (List.mem_of_mem_drop hw)
  have hW12 : WW M12 x102 ((actW l).take k ++ [(t, 0, 0, q)] ++ (actW l).drop k) := hN12.lv
  generalize (actW l).take k ++ [(t, 0, 0, q)] ++ (actW l).drop k = ws at *
  have hT12 := hT3.up (u4.trans (u47.trans u12'))
  refine (Parse_ok hT12 hW12 (by omega) (fun w hw => by have := hmt w hw; omega)).mono fun r M13 ⟨u13, hR⟩ => ?_
  obtain ⟨wc, e, hc⟩ := hR.of
  subst e
  rw [(tp2 _ _).1, (tp2 _ _).2]
  refine (ParseAct_ok (Sl.up hW12 u13) (by omega) (fun w hw => by have := hmt w hw; omega)).mono fun r M14 ⟨u14, hR⟩ => ?_
  rw [← parse_AB] at hR
  obtain ⟨wd', e, hd⟩ := hR.of
  subst e
  rw [(tp2 _ _).1, (tp2 _ _).2]
  have hc14 : DS M14 wc _ := Sl.up hc u14
  generalize ho : parseA (ws.length + 1) ws [] = o at *
  have u414 : Up M4 M14 := ((u47.trans u12').trans u13).trans u14
  have h7a : DS M14 x7 l := Sl.up (Sl.up hDs2 (u3.trans u4)) u414
  rw [BR_bool, if_pos rfl]
  refine (SameAct_ok h7a (Sl.up hb4 u414) (by omega)).mono fun v M15 ⟨e1, e2⟩ => ?_
  subst e1; subst e2
  rw [BR_bool, if_pos (by simp)]
  refine (Aok_ok h7a (by omega) (fun d hd => by have := hds d hd; omega)).mono fun v M16 ⟨u16, e⟩ => ?_
  subst e
  rw [hok, BR_bool, if_pos rfl]
  have eb : ∀ (b : Bool) (K : Value → Prop), OP (abin Tryd.prog false .eql Ty.bool (tv b) (tv b)) K = K (tv true) := fun b K => by
    have : abin Tryd.prog false .eql Ty.bool (.bool b) (.bool b) = some (.bool true) := by cases b <;> kernel_rfl
    rw [this, OP_some]
  rw [eb, BR_bool, if_pos rfl]
  refine (SameAct_ok (Sl.up hc14 u16) (Sl.up hd u16) ?_).mono fun v M17 ⟨e1, e2⟩ => ?_
  · cases o with
    | none => simp
    | some l' => have := (okA_right (parseA_good _ _ _ _ ho)).2.2; simp only [Option.getD_some]; omega
  subst e1; subst e2
  rw [BR_bool, if_pos (by simp)]
  exact awake6_ok ⟨rfl, hQ _⟩
end Go.G
