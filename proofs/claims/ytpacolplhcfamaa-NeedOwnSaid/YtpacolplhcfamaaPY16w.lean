/- NeedOwn: a rule that is handed in may be turned behind it, and what is told. -/
import Derived.Test.YtpacolplhcfamaaPY16s
import Derived.Test.YtpacolplhcfamaaPY15v
import Derived.Test.YtpacolplhcfamaaPGGo
namespace Go.G
open Go.Ab Go.Proofs Go.RowKit
set_option linter.unusedVariables false
set_option linter.unusedSimpArgs false
set_option maxRecDepth 100000

/-- The rule as it is made, with the boxes that hold it. -/
def RuX (M0 M : Store) (b1 b2 b3 b4 b5 : Nat) : Prop :=
  M0.n ≤ b1 ∧ b1 < b2 ∧ b2 < b4 ∧ b4 < b5 ∧ b5 < b3 ∧ b3 < M.n ∧ Ob M b1 (ruO.map sv) Ty.string ∧ Ob M b2 (ruI.map sv) Ty.string ∧ Ob M b3 [.slice (some ⟨b4, 0, none⟩) 1 1, .slice (some ⟨b5, 0, none⟩) 2 2] Ty.sl_api_Do ∧
  Ob M b4 ([dAll].flatMap dcs) Ty.api_Do ∧ Ob M b5 ([dAll, dUp].flatMap dcs) Ty.api_Do
abbrev ruX (b1 b2 b3 : Nat) : List Value := [.slice (some ⟨b1, 0, none⟩) 2 2, .slice (some ⟨b2, 0, none⟩) 1 1, .slice none 0 0, .slice (some ⟨b3, 0, none⟩) 2 2, tv false]
theorem RuX.up {M0 M M' : Store} {b1 b2 b3 b4 b5 : Nat} (h : RuX M0 M b1 b2 b3 b4 b5) (u : Up M M') : RuX M0 M' b1 b2 b3 b4 b5 := by
  obtain ⟨h1, h2, h3, h4, h5, h6, o1, o2, o3, o4, o5⟩ := h
  exact ⟨h1, h2, h3, h4, h5, by have := u.n; omega, o1.up u, o2.up u, o3.up u, o4.up u, o5.up u⟩
theorem RuX.keep {M0 M M' : Store} {b1 b2 b3 b4 b5 : Nat} (h : RuX M0 M b1 b2 b3 b4 b5) {e : TypeId} (k : Keep e M M') (e1 : Ty.string ≠ e) (e2 : Ty.sl_api_Do ≠ e) (e3 : Ty.api_Do ≠ e) : RuX M0 M' b1 b2 b3 b4 b5 := by
  obtain ⟨h1, h2, h3, h4, h5, h6, o1, o2, o3, o4, o5⟩ := h
  exact ⟨h1, h2, h3, h4, h5, by have := k.1; omega, o1.keep e1 k, o2.keep e1 k, o3.keep e2 k, o4.keep e3 k, o5.keep e3 k⟩
theorem RuX.c {M0 M : Store} {b1 b2 b3 b4 b5 : Nat} (h : RuX M0 M b1 b2 b3 b4 b5) : RuC M (ruX b1 b2 b3) := by
  obtain ⟨h1, h2, h3, h4, h5, h6, o1, o2, o3, o4, o5⟩ := h
  exact ⟨b1, b2, b3, rfl, (o1.nw (M0 := Mzz) (s := 1) (n := 2) (Nat.zero_le _) rfl).sl, (o2.nw (M0 := Mzz) (s := 1) (n := 1) (Nat.zero_le _) rfl).sl, _, (o3.nw (M0 := Mzz) (s := 1) (n := 2) (Nat.zero_le _) rfl).sl, (o4.nw (M0 := Mzz) (s := 3) (n := 1) (Nat.zero_le _) rfl).sl, (o5.nw (M0 := Mzz) (s := 3) (n := 2) (Nat.zero_le _) rfl).sl, trivial⟩
theorem RuleX_ok {M : Store} : R F.fettlelaw16_Rule #[] M fun v M' => Up M M' ∧ ∃ b1 b2 b3 b4 b5, v = .agg (ruX b1 b2 b3).toArray ∧ RuX M M' b1 b2 b3 b4 b5 := by
  refine R.cps fun Q hQ => ?_
  apply T_fettlelaw16_Rule
  unfold S_fettlelaw16_Rule
  refine s_new fun M1 u1 o1 n1 => ?_
  rw [e_ab]
  refine s_lit (s := 1) (n := 2) rfl fun M2 u2 hN2 o2 n2 => ?_
  rw [e_s1]
  refine s_lit (s := 1) (n := 1) rfl fun M3 u3 hN3 o3 n3 => ?_
  rw [e_d3, e_l1]
  refine s_lit (s := 3) (n := 1) rfl fun M4 u4 hN4 o4 n4 => ?_
  rw [e_d3, e_d4, e_l2]
  refine s_lit (s := 3) (n := 2) rfl fun M5 u5 hN5 o5 n5 => ?_
  rw [e_la]
  refine s_lit (s := 1) (n := 2) rfl fun M6 u6 hN6 o6 n6 => ?_
  rw [e_ru]
  have o16 := ((((o1.up u2).up u3).up u4).up u5).up u6
  refine s_st (vs := [.slice (some ⟨M1.n, 0, none⟩) 2 2, .slice (some ⟨M2.n, 0, none⟩) 1 1, .slice none 0 0, .slice (some ⟨M5.n, 0, none⟩) 2 2, tv false]) o16 rfl rfl (by kernel_rfl) fun M7 c7 o7 n7 => ?_
  rw [o7.ldA (s := 5) rfl, OP_some]
  have kk := c7.keepT o16
  have u06 := ((((u1.trans u2).trans u3).trans u4).trans u5).trans u6
  refine ⟨rfl, hQ _ _ ⟨u06.ch c7 (by simp), M1.n, M2.n, M5.n, M3.n, M4.n, rfl, u1.n, by omega, by omega, by omega, by omega, by omega, ?_, ?_, ?_, ?_, ?_⟩⟩
  · exact ((((o2.up u3).up u4).up u5).up u6).keep (by decide) kk
  · exact (((o3.up u4).up u5).up u6).keep (by decide) kk
  · exact o6.keep (by decide) kk
  · exact ((o4.up u5).up u6).keep (by decide) kk
  · exact (o5.up u6).keep (by decide) kk
section
variable {M0 Mf : Store} {x0 : Value} {inn : List UInt8} {bf r ba : Nat} {Q : Value → Store → Prop} {xs : List (List UInt8)}
theorem no_13 (hQ : ∀ M, Q (tv true) M) {M : Store} {prints values : List (List UInt8)} (hB : AskB M0 M ba ruO prints values [true, true] true 2) : P_fettlelaw16_NeedOwn_13 (pB ba) M Q := by
  apply T_fettlelaw16_NeedOwn_13
  unfold S_fettlelaw16_NeedOwn_13
  refine (Old_ok hB (.inr rfl) (by simp)).mono fun v M1 ⟨u1, hN1⟩ => ?_
  rw [(NV.lv hN1).len, OP_some, eql_l (a := [true, true].length) 2 2 rfl, BR_dec, if_pos (show [true, true].length = 2 from rfl)]
  refine (Old_ok (hB.up u1) (.inr rfl) (by simp)).mono fun v2 M2 ⟨u2, hN2⟩ => ?_
  obtain ⟨p, e1, e2⟩ := (NV.lv hN2).at (i := 0) (by simp) .i64
  have e1 : ixA 1 v2 (.int .i64 0) = some p := e1
  rw [e1, OP_some, e2, OP_some]
  show BR (tv true) _ _
  rw [BR_bool, if_pos rfl]
  refine (Old_ok ((hB.up u1).up u2) (.inr rfl) (by simp)).mono fun v3 M3 ⟨u3, hN3⟩ => ?_
  obtain ⟨p, e1, e2⟩ := (NV.lv hN3).at (i := 1) (by simp) .i64
  have e1 : ixA 1 v3 (.int .i64 1) = some p := e1
  rw [e1, OP_some, e2, OP_some]
  show BR (tv true) _ _
  rw [BR_bool, if_pos rfl]
  exact awake16_ok ⟨rfl, hQ _⟩
theorem no_11 (hQ : ∀ M, Q (tv true) M) {Mb : Store} {b1 b2 b3 b4 b5 t : Nat} {x106 : Value} (hin : inn.length ≤ 256) (h0 : B Mb x0 inn) (ho : Ob Mb t (ruX b1 b2 b3) Ty.api_Rule) (hr : RuX M0 Mb b1 b2 b3 b4 b5) (hp : BB Mb x106 (prtA ruA [inn] 2)) (hB : AskB M0 Mb ba ruO (prtA ruA [inn] 2) [inn] [true, true] true 2) :
    ∀ (j i : Nat) (M : Store), j + i = 2 → Up Mb M → P_fettlelaw16_NeedOwn_11 x0 (pB ba) (pB t) x106 (nv 2) (nv i) M Q := by
  intro j
  induction j with
  | zero =>
    intro i M hi hu
    apply T_fettlelaw16_NeedOwn_11
    unfold S_fettlelaw16_NeedOwn_11
    rw [lss_n, BR_dec, if_neg (by omega)]
    exact no_13 hQ (hB.up hu)
  | succ j ih =>
    intro i M hi hu
    have hi2 : i < 2 := by omega
    apply T_fettlelaw16_NeedOwn_11
    unfold S_fettlelaw16_NeedOwn_11
    rw [lss_n, BR_dec, if_pos hi2]
    apply T_fettlelaw16_NeedOwn_12
    unfold S_fettlelaw16_NeedOwn_12
    have hpl : i < (prtA ruA [inn] 2).length := hi2
    obtain ⟨p2, w, e3, e4, hw⟩ := (Ls.up By.up' hp hu).at hpl .i64
    have hwe : (prtA ruA [inn] 2)[i] = printF (ruA.getD i []) [inn] := by
      have : i = 0 ∨ i = 1 := by omega
      rcases this with rfl | rfl <;> rfl
    rw [hwe] at hw
    rw [e3, OP_some, e4, OP_some, cvBS_ok hw, OP_some, fad0, (rd5 (ho.up hu)).2.2.2.1]
    obtain ⟨_, _, _, ee, _, _, hac⟩ := (hr.up hu).c
    injection ee with _ ee; injection ee with _ ee; injection ee with _ ee; injection ee with ee _
    injection ee with ee; injection ee with ee; injection ee with ee _
    subst ee
    obtain ⟨q, d, e6, e7, hd⟩ := hac.at (show i < ruA.length from hi2) .i64
    have hra : ruA[i]'hi2 = ruA.getD i [] := by rw [List.getD_eq_getElem?_getD, List.getElem?_eq_getElem (show i < ruA.length from hi2)]; rfl
    rw [hra] at hd
    have hsm : (ruA.getD i []).length ≤ 2 ^ 10 ∧ ∀ d ∈ ruA.getD i [], d.2.2.length ≤ 2 ^ 10 := by
      have : i = 0 ∨ i = 1 := by omega
      rcases this with rfl | rfl <;> decide
    rw [e6, OP_some, e7, OP_some]
    have h02 := Sl.up h0 hu
    obtain ⟨xa, xc, rfl⟩ := h02.slice
    rw [bl_sl1]
    refine s_lit (s := 1) (n := 1) rfl fun M3 u3 hN3 o3 n3 => ?_
    have hBL : BB M3 (.slice (some ⟨M.n, 0, none⟩) 1 1) [inn] := ⟨_, Nw.sl hN3, Sl.up h02 u3, trivial⟩
    refine (RPrint_ok (Sl.up hd u3) hsm.1 hsm.2 hBL (by simp) (fun x hx => by simp at hx; subst hx; omega)).mono fun y M4 ⟨u4, hN4⟩ => ⟨u4.tdj _ _, ?_⟩
    rw [cvBS_ok hN4.by, OP_some]
    show OP (binS .neq (sv (printF (ruA.getD i []) [inn])) (sv (printF (ruA.getD i []) [inn]))) _
    rw [sv_ne, BR_dec, if_neg (fun h => h rfl), add1_n _ (by omega)]
    exact ih (i + 1) M4 (by omega) ((hu.trans u3).trans u4)
theorem no_10 (hQ : ∀ M, Q (tv true) M) {M : Store} (hin : inn.length ≤ 256) (h0 : B M x0 inn) (hB : AskB M0 M ba ruO (prtA ruA [inn] 2) [inn] [true, true] true 2) : P_fettlelaw16_NeedOwn_10 x0 (pB ba) M Q := by
  apply T_fettlelaw16_NeedOwn_10
  unfold S_fettlelaw16_NeedOwn_10
  refine RuleX_ok.mono fun v M1 ⟨u1, b1, b2, b3, b4, b5, e, hX⟩ => ?_
  subst e
  refine s_new fun M2 u2 o2 n2 => ?_
  refine s_st (vs := ruX b1 b2 b3) o2 rfl rfl (ru_cells _ _ _ _ _ _ _ _ _ _ _ _ _) fun M3 c3 o3 _ => ?_
  have kk := c3.keepT o2
  have u03 : Up M M3 := (u1.trans u2).ch c3 fun b hb => by simp at hb; subst hb; exact u1.n
  have hB3 := hB.up u03
  refine (Prints_ok hB3 (.inr rfl) (by simp [prtA]) (prA_len hin)).mono fun w M4 ⟨u4, hN4⟩ => ?_
  rw [hN4.ls.lenV, OP_some]
  have hp : BB M4 w (prtA ruA [inn] 2) := by
    obtain ⟨vs, q1, q2⟩ := hN4
    exact ⟨vs, q1.sl, q2.mono fun v x h => Nw.sl h⟩
  have hX' : RuX M0 M3 b1 b2 b3 b4 b5 := by
    obtain ⟨g1, g2⟩ := (hX.up u2).keep kk (by decide) (by decide) (by decide)
    refine ⟨Nat.le_trans ?_ g1, g2⟩
    obtain ⟨z, _, _, _, _, _, _, _, _, _, o, _⟩ := hB
    have := o.lt
    omega
  exact no_11 hQ hin (Sl.up h0 (u03.trans u4)) (o3.up u4) (hX'.up u4) hp (hB3.up u4) 2 0 M4 rfl (Ch.refl _ _)
/-- What was told is turned, byte by byte. -/
theorem no_2 {M2 : Store} {x7 x49 : Value} {n i : Nat} (hn : n ≤ 2 ^ 30) (hK : ∀ M, Up M2 M → NLs (WkO M2) Ty.sl_uint8 M2 M x49 xs → P_fettlelaw16_NeedOwn_4 x0 (pB ba) x49 (nv xs.length) (nv i) M Q) :
    ∀ (k j : Nat) (M : Store), k + j = n → Up M2 M → NLs (WkO M2) Ty.sl_uint8 M2 M x49 xs → (∃ t, N M2 M x7 t ∧ t.length = n) → P_fettlelaw16_NeedOwn_2 x0 (pB ba) x7 x49 (nv xs.length) (nv i) (nv n) (nv j) M Q := by
  intro k
  induction k with
  | zero =>
    intro j M hj hu hN ht
    apply T_fettlelaw16_NeedOwn_2
    unfold S_fettlelaw16_NeedOwn_2
    rw [lss_n, BR_dec, if_neg (by omega)]
    exact hK M hu hN
  | succ k ih =>
    intro j M hj hu hN ht
    obtain ⟨t, ht, hl⟩ := ht
    apply T_fettlelaw16_NeedOwn_2
    unfold S_fettlelaw16_NeedOwn_2
    rw [lss_n, BR_dec, if_pos (by omega), by_ld ht.by (by omega), bvU]
    refine turnBx hu ht (i := j) (by omega) _ fun M' hu' hw hk => ?_
    rw [add1_n _ (by omega)]
    obtain ⟨t', h', hl'⟩ := hw _ _ ht
    exact ih (j + 1) M' (by omega) hu' (wkO_next hN hw hk) ⟨t', h', by omega⟩
theorem no_1 {M2 : Store} {x49 : Value} (hx : xs.length ≤ 8) (hK : ∀ M, Up M2 M → P_fettlelaw16_NeedOwn_3 x0 (pB ba) M Q) :
    ∀ (k i : Nat) (M : Store), k + i = xs.length → Up M2 M → NLs (WkO M2) Ty.sl_uint8 M2 M x49 xs → P_fettlelaw16_NeedOwn_1 x0 (pB ba) x49 (nv xs.length) (nv i) M Q := by
  intro k
  induction k with
  | zero =>
    intro i M hi hu hN
    apply T_fettlelaw16_NeedOwn_1
    unfold S_fettlelaw16_NeedOwn_1
    rw [lss_n, BR_dec, if_neg (by omega)]
    exact hK M hu
  | succ k ih =>
    intro i M hi hu hN
    have hil : i < xs.length := by omega
    apply T_fettlelaw16_NeedOwn_1
    unfold S_fettlelaw16_NeedOwn_1
    rw [lss_n, BR_dec, if_pos hil]
    obtain ⟨p, w, e1, e2, t, ht, hl⟩ := hN.ls.at hil .i64
    rw [e1, OP_some, e2, OP_some, by_len ht.by]
    refine no_2 (n := t.length) (i := i) (by omega) (fun M' hu' hN' => ?_) t.length 0 M rfl hu hN ⟨t, ht, rfl⟩
    apply T_fettlelaw16_NeedOwn_4
    unfold S_fettlelaw16_NeedOwn_4
    rw [add1_n _ (by omega)]
    exact ih (i + 1) M' (by omega) hu' hN'
theorem no_6 {M2 : Store} {x7 x49 : Value} {n i : Nat} (hn : n ≤ 2 ^ 30) (hK : ∀ M, Up M2 M → NLs (WkO M2) Ty.sl_uint8 M2 M x49 xs → P_fettlelaw16_NeedOwn_8 x0 (pB ba) x49 (nv xs.length) (nv i) M Q) :
    ∀ (k j : Nat) (M : Store), k + j = n → Up M2 M → NLs (WkO M2) Ty.sl_uint8 M2 M x49 xs → (∃ t, N M2 M x7 t ∧ t.length = n) → P_fettlelaw16_NeedOwn_6 x0 (pB ba) x7 x49 (nv xs.length) (nv i) (nv n) (nv j) M Q := by
  intro k
  induction k with
  | zero =>
    intro j M hj hu hN ht
    apply T_fettlelaw16_NeedOwn_6
    unfold S_fettlelaw16_NeedOwn_6
    rw [lss_n, BR_dec, if_neg (by omega)]
    exact hK M hu hN
  | succ k ih =>
    intro j M hj hu hN ht
    obtain ⟨t, ht, hl⟩ := ht
    apply T_fettlelaw16_NeedOwn_6
    unfold S_fettlelaw16_NeedOwn_6
    rw [lss_n, BR_dec, if_pos (by omega), by_ld ht.by (by omega), bvU]
    refine turnBx hu ht (i := j) (by omega) _ fun M' hu' hw hk => ?_
    rw [add1_n _ (by omega)]
    obtain ⟨t', h', hl'⟩ := hw _ _ ht
    exact ih (j + 1) M' (by omega) hu' (wkO_next hN hw hk) ⟨t', h', by omega⟩
theorem no_5 {M2 : Store} {x49 : Value} (hx : xs.length ≤ 8) (hK : ∀ M, Up M2 M → P_fettlelaw16_NeedOwn_7 x0 (pB ba) M Q) :
    ∀ (k i : Nat) (M : Store), k + i = xs.length → Up M2 M → NLs (WkO M2) Ty.sl_uint8 M2 M x49 xs → P_fettlelaw16_NeedOwn_5 x0 (pB ba) x49 (nv xs.length) (nv i) M Q := by
  intro k
  induction k with
  | zero =>
    intro i M hi hu hN
    apply T_fettlelaw16_NeedOwn_5
    unfold S_fettlelaw16_NeedOwn_5
    rw [lss_n, BR_dec, if_neg (by omega)]
    exact hK M hu
  | succ k ih =>
    intro i M hi hu hN
    have hil : i < xs.length := by omega
    apply T_fettlelaw16_NeedOwn_5
    unfold S_fettlelaw16_NeedOwn_5
    rw [lss_n, BR_dec, if_pos hil]
    obtain ⟨p, w, e1, e2, t, ht, hl⟩ := hN.ls.at hil .i64
    rw [e1, OP_some, e2, OP_some, by_len ht.by]
    refine no_6 (n := t.length) (i := i) (by omega) (fun M' hu' hN' => ?_) t.length 0 M rfl hu hN ⟨t, ht, rfl⟩
    apply T_fettlelaw16_NeedOwn_8
    unfold S_fettlelaw16_NeedOwn_8
    rw [add1_n _ (by omega)]
    exact ih (i + 1) M' (by omega) hu' hN'
theorem no_9 {M2 : Store} {x12 : Value} {n : Nat} (hn : n ≤ 2 ^ 20) (hK : ∀ M, Up M2 M → P_fettlelaw16_NeedOwn_10 x0 (pB ba) M Q) :
    ∀ (k j : Nat) (M : Store) (l : List Bool), k + j = n → l.length = n → Up M2 M → NV tv Ty.bool M2 M x12 l → P_fettlelaw16_NeedOwn_9 x0 (pB ba) x12 (nv n) (nv j) M Q := by
  intro k
  induction k with
  | zero =>
    intro j M l hj hl hu hN
    apply T_fettlelaw16_NeedOwn_9
    unfold S_fettlelaw16_NeedOwn_9
    rw [lss_n, BR_dec, if_neg (by omega)]
    exact hK M hu
  | succ k ih =>
    intro j M l hj hl hu hN
    have hjl : j < l.length := by omega
    apply T_fettlelaw16_NeedOwn_9
    unfold S_fettlelaw16_NeedOwn_9
    rw [lss_n, BR_dec, if_pos (by omega)]
    obtain ⟨p, M', b, e1, e2, e3, hN', _, hb1, hb2, c⟩ := Nw.put1 hN hjl .i64 (w := tv (!l[j])) (cells_tv _) (oc_tv _)
    have e2' : (l.map tv).getD j undef = tv l[j] := by rw [List.getD_eq_getElem?_getD, List.getElem?_eq_getElem (by simpa using hjl)]; simp
    rw [e2'] at e2
    rw [e1, OP_some, e2, OP_some, e_not, OP_some, e3, OP_some, add1_n _ (by omega)]
    have hN2 : NV tv Ty.bool M2 M' x12 (l.set j (!l[j])) := by
      show Nw 1 _ _ _ _ _ _
      rw [List.length_set, List.map_set]; exact hN'
    exact ih (j + 1) M' _ (by omega) (by simpa using hl) (hu.ch c (by simpa using hb1)) hN2
theorem Ch_dj1 {M M' : Store} {b t : Nat} (c : Ch [b] M M') (h : b ≠ t) (ht : t < M.n) : Dj (tdiff M M') [t] := fun x hx hm => by
  have : x = t := by simpa using hm
  subst this
  rcases c.tdiff x hx with h1 | h1
  · omega
  · exact h (by simpa using (List.mem_singleton.1 h1).symm)
end
theorem NeedOwn_ok {M : Store} {x0 : Value} {inn : List UInt8} (h0 : B M x0 inn) : R F.fettlelaw16_NeedOwn #[x0] M fun v M' => v = tv true := by
  refine R.cps fun Q hQ => ?_
  have hQ : ∀ M, Q (tv true) M := fun M => hQ _ _ rfl
  apply T_fettlelaw16_NeedOwn
  unfold S_fettlelaw16_NeedOwn
  rw [by_len h0, gtr_l 256 256 rfl, BR_dec]
  split
  · exact awake16_ok ⟨rfl, hQ _⟩
  rename_i hin
  refine (New_ok (room := 1048576) (by decide)).mono fun v M1 ⟨u1, bf, r, e, hf1⟩ => ?_
  subst e
  refine RuleX_ok.mono fun v M2 ⟨u2, b1, b2, b3, b4, b5, e, hX2⟩ => ?_
  subst e
  refine s_new fun M3 u3 o3 n3 => ?_
  refine s_st (vs := ruX b1 b2 b3) o3 rfl rfl (ru_cells _ _ _ _ _ _ _ _ _ _ _ _ _) fun M4 c4 o4 _ => ?_
  rw [abin_ptr U.p_simf_FS, BR_bool, if_neg (by decide)]
  have u04 : Up M M4 := ((u1.trans u2).trans u3).ch c4 fun b hb => by simp at hb; subst hb; exact (u1.trans u2).n
  have hf4 := ((hf1.up u2).up u3).keep (by decide) (by decide) (c4.keepT o3)
  have hX4 := (hX2.up u3).keep (c4.keepT o3) (by decide) (by decide) (by decide)
  refine (Put_ok u04 hf4 name_s (Sl.up h0 u04) (by omega) (by omega) (by decide) (by decide)).mono fun v M5 ⟨u5, ⟨M6, u6, c6⟩, _, hf5⟩ => ?_
  have hf6 := hf4.up u6
  have ha : ∀ e, e ≠ Ty.simf_FS → Away e M6 [bf, r] := fun e he => hf6.away he
  have o5 := Ob.away (o4.up u6) (ha _ (by decide)) c6
  have hX5 : RuX M1 M5 b1 b2 b3 b4 b5 := by
    obtain ⟨h1, h2, h3, h4, h5, h6, p1, p2, p3, p4, p5⟩ := hX4.up u6
    exact ⟨h1, h2, h3, h4, h5, by have := c6.n; omega, Ob.away p1 (ha _ (by decide)) c6, Ob.away p2 (ha _ (by decide)) c6, Ob.away p3 (ha _ (by decide)) c6, Ob.away p4 (ha _ (by decide)) c6, Ob.away p5 (ha _ (by decide)) c6⟩
  rw [o5.ldA (s := 5) rfl, OP_some]
  refine (NewA_ok hX5.c.val (by decide) (by decide) (by decide) (by decide) F.fettlelaw16_made).mono fun v M7 ⟨u7, ba, br, e, hA⟩ => ?_
  subst e
  rw [abin_ptr _root_.Go.G.U.p_need_Ask, BR_bool, if_neg (by decide)]
  have o7 := o5.up u7
  obtain ⟨h1, h2, h3, h4, h5, h6, p1, p2, p3, p4, p5⟩ := hX5.up u7
  obtain ⟨_, _, _, _, _, h6', _⟩ := hX5
  have hf7 := hf5.up u7
  have hlt : M2.n < M7.n := o7.lt
  have hne : b1 ≠ M2.n ∧ b2 ≠ M2.n := by
    obtain ⟨_, _, _, _, _, h, _⟩ := hX2
    omega
  simp only [fad0, (rd5 o7).1, (rd5 o7).2.1]
  have i1 : ixA 1 (.slice (some ⟨b1, 0, none⟩) 2 2) (.int .i64 0) = some (.pointer (some ⟨b1, 0, none⟩)) := rfl
  have i2 : ixA 1 (.slice (some ⟨b2, 0, none⟩) 1 1) (.int .i64 0) = some (.pointer (some ⟨b2, 0, none⟩)) := rfl
  have i3 : ixA 1 (.slice (some ⟨b3, 0, none⟩) 2 2) (.int .i64 0) = some (.pointer (some ⟨b3, 0, none⟩)) := rfl
  have i4 : ixA 3 (.slice (some ⟨b4, 0, none⟩) 1 1) (.int .i64 0) = some (.pointer (some ⟨b4, 0, none⟩)) := rfl
  rw [i1, OP_some]
  refine s_st1 (i := 0) (w := sv [122, 122]) p1 (by simp) (cells_sv _) (oc_sv _) fun M8 c8 q1 n8 => ⟨c8.tdx p1 p1.lt, Ch_dj1 c8 hne.1 hlt, ?_⟩
  rw [i2, OP_some]
  have k8 := c8.keepT p1
  have p2' : Ob M8 b2 (ruI.map sv) Ty.string := p2.fr c8 (by simp; omega)
  refine s_st1 (i := 0) (w := sv [122, 122]) p2' (by simp) (cells_sv _) (oc_sv _) fun M9 c9 q2 n9 => ⟨c9.tdx p2' (by show b2 < M7.n; exact p2.lt), ?_⟩
  have k9 := c9.keepT p2'
  have o9 := (o7.keep (show Ty.api_Rule ≠ Ty.string by decide) k8).keep (show Ty.api_Rule ≠ Ty.string by decide) k9
  have p3' := (p3.keep (show Ty.sl_api_Do ≠ Ty.string by decide) k8).keep (show Ty.sl_api_Do ≠ Ty.string by decide) k9
  have p4' := (p4.keep (show Ty.api_Do ≠ Ty.string by decide) k8).keep (show Ty.api_Do ≠ Ty.string by decide) k9
  simp only [(rd5 o9).2.2.2.1]
  rw [i3, OP_some, p3'.l2.1, i4, OP_some, fad0]
  refine s_st1 (i := 0) (w := .int .i64 11) p4' (by decide) (cells_iv _) (oc_iv _) fun M10 c10 q4 n10 => ?_
  have k10 := c10.keepT p4'
  have hS : ∀ b ∈ [b1, b2, b4], b < M5.n := fun b hb => by
    simp at hb
    rcases hb with rfl | rfl | rfl <;> omega
  have cc : Ch [b1, b2, b4] M7 M10 := ((c8.mono (by simp)).trans (c9.mono (by simp))).trans (c10.mono (by simp))
  have hA10 := hA [b1, b2, b4] M10 hS cc
  have u010 : Up M M10 := (u5.trans u7).ch cc fun b hb => by
    have := u1.n
    simp at hb
    rcases hb with rfl | rfl | rfl <;> omega
  have hf10 := ((hf7.keep (show Ty.simf_FS ≠ Ty.string by decide) (by decide) k8).keep (show Ty.simf_FS ≠ Ty.string by decide) (by decide) k9).keep (show Ty.simf_FS ≠ Ty.api_Do by decide) (by decide) k10
  have hs : (putF (fun _ => none) [115] inn (0 + 1) : Fl) [115] = some (inn, 1) := by unfold putF; rw [if_pos rfl]
  have hna : (putF (fun _ => none) [115] inn (0 + 1) : Fl) [97] = none := by unfold putF; rw [if_neg (by decide)]
  have hnb : (putF (fun _ => none) [115] inn (0 + 1) : Fl) [98] = none := by unfold putF; rw [if_neg (by decide)]
  refine (ask_ok (Mf := M) (M0 := M) u010 hf10 (⟨Nat.le_trans u5.n hA10.b0, hA10.is, hA10.rd.base u5.n⟩ : AskA M M10 ba ruO ruA false 0 br mvN (RSt.new ruI) [br]) (fun q hq => by rw [hs] at hq; injection hq with hq; subst hq; simp only; omega)).mono fun v M11 ⟨k, e, g1, g2, g3, g4⟩ => ?_
  subst e
  rw [hs] at g4
  simp only at g4
  rw [if_neg (by omega)] at g4
  obtain ⟨a, b, ea, eb, hk, hB⟩ := g4
  have ea : a = true := by rw [ea]; unfold oldF; rw [hna]
  have eb : b = true := by rw [eb]; unfold oldF; rw [hnb]
  subst ea; subst eb
  have hk : k = 2 := hk
  subst hk
  have hB : AskB M M11 ba ruO (prtA ruA [inn] 2) [inn] [true, true] true 2 := hB
  rw [neq_l 2 2 rfl, BR_dec, if_neg (fun h => h rfl)]
  have h01 := Sl.up h0 g1
  have wk : ∀ {Ma Mb : Store} {v : Value} {ys : List (List UInt8)}, NLs (NN Ma) Ty.sl_uint8 Ma Mb v ys → (∀ y ∈ ys, y.length ≤ 2 ^ 20) → NLs (WkO Ma) Ty.sl_uint8 Ma Mb v ys := by
    rintro Ma Mb v ys ⟨vs, q1, q2⟩ hy
    refine ⟨vs, q1, ?_⟩
    have : ∀ (vs : List Value) (ys : List (List UInt8)), Each (NN Ma Mb) vs ys → (∀ y ∈ ys, y.length ≤ 2 ^ 20) → Each (WkO Ma Mb) vs ys := by
      intro vs
      induction vs with
      | nil => intro ys h _; cases ys with
        | nil => trivial
        | cons y ys => cases h
      | cons v vs ih => intro ys h hy; cases ys with
        | nil => cases h
        | cons y ys => exact ⟨⟨y, h.1, hy y (by simp)⟩, ih ys h.2 fun z hz => hy z (by simp [hz])⟩
    exact this vs ys q2 hy
  refine (Prints_ok hB (.inr rfl) (by simp [prtA]) (prA_len (by omega))).mono fun v1 M12 ⟨u12, hN12⟩ => ?_
  rw [hN12.ls.lenV, OP_some]
  refine no_1 (M2 := M11) (xs := prtA ruA [inn] 2) (by simp [prtA]) (fun M13 u13 => ?_) (prtA ruA [inn] 2).length 0 M12 rfl u12 (wk hN12 (prA_len (by omega)))
  apply T_fettlelaw16_NeedOwn_3
  unfold S_fettlelaw16_NeedOwn_3
  have hvl : ∀ x ∈ [inn], x.length ≤ 2 ^ 20 := fun x hx => by simp at hx; subst hx; omega
  have hB13 := hB.up u13
  refine (AValues_ok hB13 (.inr rfl) (by simp) hvl).mono fun v2 M14 ⟨u14, hN14⟩ => ?_
  rw [hN14.ls.lenV, OP_some]
  refine no_5 (M2 := M13) (xs := [inn]) (by simp) (fun M15 u15 => ?_) [inn].length 0 M14 rfl u14 (wk hN14 hvl)
  apply T_fettlelaw16_NeedOwn_7
  unfold S_fettlelaw16_NeedOwn_7
  have hB15 := hB13.up u15
  refine (Old_ok hB15 (.inr rfl) (by simp)).mono fun v3 M16 ⟨u16, hN16⟩ => ?_
  rw [(NV.lv hN16).len, OP_some]
  refine no_9 (M2 := M15) (n := 2) (by decide) (fun M17 u17 => ?_) 2 0 M16 [true, true] rfl rfl u16 hN16
  exact no_10 hQ (by omega) (Sl.up h01 ((u13.trans u15).trans u17)) (hB15.up u17)
end Go.G
