/- NeedTells as a whole. -/
import Derived.Test.YtpacolplhcfamaaPY16u
namespace Go.G
open Go.Ab Go.Proofs Go.RowKit
set_option linter.unusedVariables false
set_option linter.unusedSimpArgs false
set_option maxRecDepth 100000

theorem bool_neN (p q : Bool) (K : Value → Prop) : OP (abin Try.prog false .neq Ty.bool (tv p) (tv q)) K = K (tv (p != q)) := by
  have : abin Try.prog false .neq Ty.bool (.bool p) (.bool q) = some (.bool (p != q)) := by kernel_rfl
  rw [this, OP_some]
theorem e_3i {i : Nat} (hi : i < 2) (K : Value → Prop) : (OP (binI .mul (.int .i64 3) (nv i)) fun t53 => OP (cvI .u64 t53) K) = K (.int .u64 ((3 * i : Nat) : Int)) := by
  have : i = 0 ∨ i = 1 := by omega
  rcases this with rfl | rfl <;> rfl
theorem ruA_at {i : Nat} (hi : i < 2) : ruA[i]'hi = ruA.getD i [] := by
  rw [List.getD_eq_getElem?_getD, List.getElem?_eq_getElem (show i < ruA.length from hi)]; rfl
theorem ruO_at {i : Nat} (hi : i < 2) : ruO[i]'hi = ruO.getD i [] := by
  rw [List.getD_eq_getElem?_getD, List.getElem?_eq_getElem (show i < ruO.length from hi)]; rfl
theorem ruA_small {i : Nat} (hi : i < 2) : (ruA.getD i []).length ≤ 2 ^ 10 ∧ (∀ d ∈ ruA.getD i [], d.2.2.length ≤ 2 ^ 10) ∧ ∀ d ∈ ruA.getD i [], ActZ d := by
  have : i = 0 ∨ i = 1 := by omega
  rcases this with rfl | rfl
  · exact ⟨by decide, by decide, fun d hd => by
      have : d = dAll := by simpa using hd
      exact .inl this⟩
  · exact ⟨by decide, by decide, fun d hd => by
      have : d = dAll ∨ d = dUp := by simpa using hd
      exact this⟩
def flagsA (how : Int) (i : Nat) : List Bool := [decide (0 < i) && oldK (kN how 0), decide (1 < i) && oldK (kN how 1)]
theorem flagsA_next (how : Int) {i : Nat} (hi : i < 2) : fsN how i (flagsA how i) = flagsA how (i + 1) := by
  have : i = 0 ∨ i = 1 := by omega
  rcases this with rfl | rfl
  · unfold fsN flagsA
    cases oldK (kN how 0) <;> simp
  · unfold fsN flagsA
    cases oldK (kN how 1) <;> simp
section
variable {M0 : Store} {x0 x25 : Value} {inn : List UInt8} {how : Int} {bf r t b7 : Nat} {U last ba : Nat} {fl : Fl} {Q : Value → Store → Prop}
theorem nt_10 (hQ : ∀ M, Q (tv true) M) {M : Store} {x5 : Value} {k : Nat} (h : AskE M ba k) : P_fettlelaw16_NeedTells_10 x5 (nv k) (pB ba) M Q := by
  apply T_fettlelaw16_NeedTells_10
  unfold S_fettlelaw16_NeedTells_10
  refine (AStepE_ok h).mono fun v M1 ⟨e1, e2⟩ => ?_
  subst e1; subst e2
  rw [eql_n, BR_dec, if_pos rfl]
  exact awake16_ok ⟨rfl, hQ _⟩
theorem nt_9 (hQ : ∀ M, Q (tv true) M) {Mb Mf : Store} {a b : Bool} {k : Nat} (hk : k = 1 ∨ k = 2) (hin : inn.length ≤ 256) (h0 : B Mb x0 inn) (hr : RuO Mb t) (h7 : Ob Mb b7 [tv a, tv b] Ty.a2_bool) (hB : AskB Mf Mb ba ruO (prtA ruA [inn] 2) [inn] [a, b] true k) {x5 : Value} :
    ∀ (j i : Nat) (M : Store), j + i = 2 → Up Mb M → P_fettlelaw16_NeedTells_9 x0 x5 (pB t) (pB b7) (nv k) (pB ba) (nv i) M Q := by
  intro j
  induction j with
  | zero =>
    intro i M hi hu
    apply T_fettlelaw16_NeedTells_9
    unfold S_fettlelaw16_NeedTells_9
    rw [lss_l 2 2 rfl, BR_dec, if_neg (by omega)]
    exact nt_10 hQ (hB.e.up hu)
  | succ j ih =>
    intro i M hi hu
    have hi2 : i < 2 := by omega
    apply T_fettlelaw16_NeedTells_9
    unfold S_fettlelaw16_NeedTells_9
    rw [lss_l 2 2 rfl, BR_dec, if_pos hi2]
    apply T_fettlelaw16_NeedTells_11
    unfold S_fettlelaw16_NeedTells_11
    refine (Old_ok (hB.up hu) hk (by simp)).mono fun v M1 ⟨u1, hN1⟩ => ⟨u1.tdj _ _, ?_⟩
    have hu1 := hu.trans u1
    obtain ⟨p, e1, e2⟩ := (NV.lv hN1).at (i := i) (by simpa using hi2) .i64
    rw [e1, OP_some, e2, OP_some, ixP_at hi2 .i64, OP_some]
    have hld : ld 1 false (.pointer (some ⟨b7, i, none⟩)) M1 = some (tv ([a, b][i]'(by simpa using hi2))) := by
      have : i = 0 ∨ i = 1 := by omega
      rcases this with rfl | rfl
      · exact (h7.up hu1).ld rfl
      · exact (h7.up hu1).ld rfl
    rw [hld, OP_some, bool_neN, BR_bool, if_neg (by simp)]
    refine (Prints_ok (hB.up hu1) hk (by simp [prtA]) (prA_len hin)).mono fun v2 M2 ⟨u2, hN2⟩ => ⟨u2.tdj _ _, ?_⟩
    have hu2 := hu1.trans u2
    have hpl : i < (prtA ruA [inn] 2).length := hi2
    obtain ⟨p2, w, e3, e4, hw⟩ := hN2.ls.at hpl .i64
    have hwe : (prtA ruA [inn] 2)[i] = prW i inn := by
      have : i = 0 ∨ i = 1 := by omega
      rcases this with rfl | rfl <;> rfl
    rw [hwe] at hw
    have hw : B M2 w (prW i inn) := Nw.sl hw
    rw [e3, OP_some, e4, OP_some, cvBS_ok hw, OP_some]
    obtain ⟨ac, e5, hac⟩ := (hr.up hu2).acts
    simp only [fad0, e5]
    obtain ⟨q, d, e6, e7, hd⟩ := hac.at (show i < ruA.length from hi2) .i64
    rw [ruA_at hi2] at hd
    have hsm := ruA_small hi2
    rw [e6, OP_some, e7, OP_some]
    have h02 := Sl.up h0 hu2
    obtain ⟨xa, xc, rfl⟩ := h02.slice
    rw [bl_sl1]
    refine s_lit (s := 1) (n := 1) rfl fun M3 u3 hN3 o3 n3 => ?_
    have hBL : BB M3 (.slice (some ⟨M2.n, 0, none⟩) 1 1) [inn] := ⟨_, Nw.sl hN3, Sl.up h02 u3, trivial⟩
    refine (RPrint_ok (Sl.up hd u3) hsm.1 hsm.2.1 hBL (by simp) (fun x hx => by simp at hx; subst hx; omega)).mono fun y M4 ⟨u4, hN4⟩ => ⟨u4.tdj _ _, ?_⟩
    have hN4 : N M3 M4 y (prW i inn) := hN4
    rw [cvBS_ok hN4.by, OP_some]
    show OP (binS .neq (sv (prW i inn)) (sv (prW i inn))) _
    rw [sv_ne, BR_dec, if_neg (fun h => h rfl), add1_n _ (by omega)]
    exact ih (i + 1) M4 (by omega) ((hu2.trans u3).trans u4)
theorem nt_8 (hQ : ∀ M, Q (tv true) M) {M : Store} (hin : inn.length ≤ 300) (hu : Up M0 M) (hf : FSR M0 M bf r 1048576 U last fl) (h0 : B M x0 inn) (hr : RuO M t) (h7 : Ob M b7 [tv (oldK (kN how 0)), tv (oldK (kN how 1))] Ty.a2_bool)
    (f0 : FileOk 0 (kN how 0) inn ((fl [97]).map (·.1))) (f1 : FileOk 1 (kN how 1) inn ((fl [98]).map (·.1))) {wn : Nat}
    (hw : (fl [115] = none ∧ wn = 3) ∨ ((∃ z, fl [115] = some (inn, z)) ∧ wn = if 256 < inn.length then 4 else if (oldK (kN how 0) || oldK (kN how 1)) = true then 2 else 1)) :
    P_fettlelaw16_NeedTells_8 x0 (pB bf) (pB t) (pB b7) (nv wn) M Q := by
  apply T_fettlelaw16_NeedTells_8
  unfold S_fettlelaw16_NeedTells_8
  obtain ⟨cs, o, hC⟩ := hr
  have hr : RuO M t := ⟨cs, o, hC⟩
  have hcs : cs.length = 5 := by obtain ⟨b1, b2, b3, e, _⟩ := hC; rw [e]; rfl
  rw [o.ldA (s := 5) hcs, OP_some]
  refine (NewA_ok hC.val (by decide) (by decide) (by decide) (by decide) F.fettlelaw16_made).mono fun v M1 ⟨u1, ba, br, e, hA⟩ => ?_
  subst e
  rw [abin_ptr _root_.Go.G.U.p_need_Ask, BR_bool, if_neg (by decide)]
  have hA1 := hA [] M1 (fun b hb => by cases hb) (Ch.refl _ _)
  refine (ask_ok (Mf := M0) (M0 := M) u1 (hf.up u1) hA1 (fun q hq => ?_)).mono fun v M2 ⟨k, e, g1, g2, g3, g4⟩ => ?_
  · rcases hw with ⟨e, _⟩ | ⟨⟨z, e⟩, _⟩
    · rw [e] at hq; cases hq
    · rw [e] at hq; injection hq with hq; subst hq; simp only; omega
  subst e
  have fin34 : ∀ n, n = 3 ∨ n = 4 → AskE M2 ba n → (OP (binI .neq (nv n) (nv n)) fun t150 => BR t150 (NTs [(.bool false)] ∧ Q (.bool false) M2) (OP (binI .eql (nv n) (.int .i64 2)) fun t153 => BR t153 (P_fettlelaw16_NeedTells_9 x0 (pB bf) (pB t) (pB b7) (nv n) (pB ba) (.int .i64 0) M2 Q) (OP (binI .eql (nv n) (.int .i64 1)) fun t156 => BR t156 (P_fettlelaw16_NeedTells_9 x0 (pB bf) (pB t) (pB b7) (nv n) (pB ba) (.int .i64 0) M2 Q) (P_fettlelaw16_NeedTells_10 (pB bf) (nv n) (pB ba) M2 Q)))) := fun n hn hE => by
    rw [neq_n, BR_dec, if_neg (fun h => h rfl), eql_l 2 2 rfl, BR_dec, if_neg (by omega), eql_l 1 1 rfl, BR_dec, if_neg (by omega)]
    exact nt_10 hQ hE
  rcases hw with ⟨e, rfl⟩ | ⟨⟨z, e⟩, hwn⟩
  · rw [e] at g4
    obtain ⟨rfl, hE⟩ := g4
    exact fin34 3 (.inl rfl) hE
  · rw [e] at g4
    simp only at g4
    by_cases hq : 256 < inn.length
    · rw [if_pos hq] at g4 hwn
      obtain ⟨rfl, hE⟩ := g4
      subst hwn
      exact fin34 4 (.inr rfl) hE
    · rw [if_neg hq] at g4 hwn
      obtain ⟨a, b, ea, eb, hk, hB⟩ := g4
      have ea : a = oldK (kN how 0) := ea.trans (old_of (i := 0) (by decide) (by omega) f0)
      have eb : b = oldK (kN how 1) := eb.trans (old_of (i := 1) (by decide) (by omega) f1)
      subst ea; subst eb
      rw [← hwn] at hk hB
      subst hk
      have hk12 : k = 1 ∨ k = 2 := by rw [hwn]; split <;> simp
      have n9 : P_fettlelaw16_NeedTells_9 x0 (pB bf) (pB t) (pB b7) (nv k) (pB ba) (nv 0) M2 Q := nt_9 hQ hk12 (by omega) (Sl.up h0 g1) (hr.up g1) (h7.up g1) hB 2 0 M2 rfl (Ch.refl _ _)
      rw [neq_n, BR_dec, if_neg (fun h => h rfl), eql_l 2 2 rfl, BR_dec]
      split
      · exact n9
      · rw [eql_l 1 1 rfl, BR_dec, if_pos (by omega)]; exact n9
theorem nt_3 (hQ : ∀ M, Q (tv true) M) (hin : inn.length ≤ 300) {M : Store} (h : NTS M0 M x0 x25 inn how bf r t b7 2 (flagsA how 2) U last fl) : P_fettlelaw16_NeedTells_3 x0 (.int .i64 how) (pB bf) (pB t) (pB b7) M Q := by
  have o7 : Ob M b7 [tv (oldK (kN how 0)), tv (oldK (kN how 1))] Ty.a2_bool := by
    have := h.o7
    simpa [flagsA] using this
  have f0 := h.fo 0 (by decide)
  have f1 := h.fo 1 (by decide)
  have p7 : ∀ wn : Nat, wn = (if 256 < inn.length then 4 else if (oldK (kN how 0) || oldK (kN how 1)) = true then 2 else 1) → P_fettlelaw16_NeedTells_7 x0 (.int .i64 how) (pB bf) (pB t) (pB b7) (nv wn) M Q := by
    intro wn hwn
    apply T_fettlelaw16_NeedTells_7
    unfold S_fettlelaw16_NeedTells_7
    show OP (binI .shr (.int .i64 how) (.int .u64 ((6 : Nat) : Int))) _
    rw [e_shrN how 6 (by decide)]
    show OP (binI .and (.int .i64 (shrN how 6)) (.int .i64 ((7 : Nat) : Int))) _
    rw [e_andN _ 7 (by decide), OP_some]
    show OP (binI .gtr (nv (andN (shrN how 6) 7)) (.int .i64 0)) _
    rw [gtr_l 0 0 rfl, BR_dec]
    split
    · have hU := h.hU
      have hl := h.hl
      refine (Put_ok h.u h.f name_s h.b0 (by omega) (by omega) (by decide) (by omega)).mono fun v M' ⟨u, ⟨M1, u1, c1⟩, _, hf⟩ => ?_
      have h1 := h.up u1
      have ha : ∀ e, e ≠ Ty.simf_FS → Away e M1 [bf, r] := fun e he => h1.f.away he
      refine nt_8 hQ hin u hf (Sl.chS h1.b0 c1 (ha _ (by decide))) (h1.ru.chS c1 (fun e he => ha e (by rcases he with rfl | rfl | rfl | rfl <;> decide))) (Ob.away (o7.up u1) (ha _ (by decide)) c1) ?_ ?_ (.inr ⟨⟨last + 1, by unfold putF; rw [if_pos rfl]⟩, hwn⟩)
      · unfold putF; rw [if_neg (by decide)]; exact f0
      · unfold putF; rw [if_neg (by decide)]; exact f1
    · exact nt_8 hQ hin h.u h.f h.b0 h.ru o7 f0 f1 (.inl ⟨h.ns, rfl⟩)
  have p5 : ∀ wn : Nat, wn = (if (oldK (kN how 0) || oldK (kN how 1)) = true then 2 else 1) → P_fettlelaw16_NeedTells_5 x0 (.int .i64 how) (pB bf) (pB t) (pB b7) (nv wn) M Q := by
    intro wn hwn
    apply T_fettlelaw16_NeedTells_5
    unfold S_fettlelaw16_NeedTells_5
    rw [by_len h.b0, gtr_l 256 256 rfl, BR_dec]
    split
    · rename_i hgt
      exact p7 4 (by rw [if_pos hgt])
    · rename_i hgt
      exact p7 wn (by rw [if_neg hgt]; exact hwn)
  apply T_fettlelaw16_NeedTells_3
  unfold S_fettlelaw16_NeedTells_3
  have i0 : ixP 1 2 (pB b7) (.int .i64 0) = some (.pointer (some ⟨b7, 0, none⟩)) := ixP_at (i := 0) (by decide) .i64
  have i1 : ixP 1 2 (pB b7) (.int .i64 1) = some (.pointer (some ⟨b7, 1, none⟩)) := ixP_at (i := 1) (by decide) .i64
  rw [i0, OP_some, o7.l2.1, BR_bool]
  split
  · rename_i ha
    exact p5 2 (by rw [ha]; rfl)
  · rename_i ha
    rw [i1, OP_some, o7.l2.2.1, BR_bool]
    split
    · rename_i hb
      exact p5 2 (by rw [hb, Bool.or_true]; rfl)
    · rename_i hb
      exact p5 1 (by rw [if_neg]; simp [ha, hb])
theorem nt_loop (hQ : ∀ M, Q (tv true) M) (hin : inn.length ≤ 300) : ∀ (k i : Nat) (M : Store) (U last : Nat) (fl : Fl), k + i = 2 → NTS M0 M x0 x25 inn how bf r t b7 i (flagsA how i) U last fl → P_fettlelaw16_NeedTells_1 x0 (.int .i64 how) (pB bf) (pB t) (pB b7) x25 (nv 2) (nv i) M Q := by
  intro k
  induction k with
  | zero =>
    intro i M U last fl hi h
    obtain rfl : i = 2 := by omega
    apply T_fettlelaw16_NeedTells_1
    unfold S_fettlelaw16_NeedTells_1
    rw [lss_n, BR_dec, if_neg (by decide)]
    exact nt_3 hQ hin h
  | succ k ih =>
    intro i M U last fl hi h
    have hi2 : i < 2 := by omega
    apply T_fettlelaw16_NeedTells_1
    unfold S_fettlelaw16_NeedTells_1
    rw [lss_n, BR_dec, if_pos hi2]
    apply T_fettlelaw16_NeedTells_2
    unfold S_fettlelaw16_NeedTells_2
    obtain ⟨p, e1, e2⟩ := h.os.at (show i < ruO.length from hi2) .i64
    rw [ruO_at hi2] at e2
    rw [e1, OP_some, e2, OP_some]
    obtain ⟨ac, e3, hac⟩ := h.ru.acts
    simp only [fad0, e3]
    obtain ⟨q, d, e4, e5, hd⟩ := hac.at (show i < ruA.length from hi2) .i64
    rw [ruA_at hi2] at hd
    have hsm := ruA_small hi2
    rw [e4, OP_some, e5, OP_some]
    obtain ⟨xa, xc, e0⟩ := h.b0.slice
    have ebl : ∀ K : List Value → Prop, OP (bldL (.slice none 0 0) 1 1 [(0, x0)]) K = K [x0] := fun K => by rw [e0, bl_sl1]
    rw [ebl]
    refine s_lit (s := 1) (n := 1) rfl fun M1 u1 hN1 o1 n1 => ?_
    have hBL : BB M1 (.slice (some ⟨M.n, 0, none⟩) 1 1) [inn] := ⟨_, Nw.sl hN1, Sl.up h.b0 u1, trivial⟩
    refine (RPrint_ok (Sl.up hd u1) hsm.1 hsm.2.1 hBL (by simp) (fun x hx => by simp at hx; subst hx; omega)).mono fun y M2 ⟨u2, hN2⟩ => ?_
    have hN2 : N M1 M2 y (prW i inn) := hN2
    have h2 := (h.up u1).up u2
    obtain ⟨ac', e3', hac'⟩ := h2.ru.acts
    simp only [e3']
    obtain ⟨q', d', e4', e5', hd'⟩ := hac'.at (show i < ruA.length from hi2) .i64
    rw [ruA_at hi2] at hd'
    rw [e4', OP_some, e5', OP_some, ebl]
    refine s_lit (s := 1) (n := 1) rfl fun M3 u3 hN3 o3 n3 => ?_
    have hBL3 : BB M3 (.slice (some ⟨M2.n, 0, none⟩) 1 1) [inn] := ⟨_, Nw.sl hN3, Sl.up h2.b0 u3, trivial⟩
    refine (RRunZ (Sl.up hd' u3) (by omega) hsm.2.2 hBL3 (by omega)).mono fun rv M4 ⟨u4, w, v, b, e, hw, hv⟩ => ?_
    subst e
    rw [(tp2 _ _).1, (tp2 _ _).2, e_3i hi2, e_shrN how (3 * i) (by omega)]
    show OP (binI .and (.int .i64 (shrN how (3 * i))) (.int .i64 ((7 : Nat) : Int))) _
    rw [e_andN _ 7 (by decide), OP_some]
    have h4 := (h2.up u3).up u4
    have main : ∀ fl3 : Bool, fl3 = decide (kN how i < 3) → P_fettlelaw16_NeedTells_4 x0 (.int .i64 how) (pB bf) (pB t) (pB b7) (nv i) (sv (ruO.getD i [])) y w x25 (nv 2) (nv i) (nv (kN how i)) (tv fl3) M4 Q := fun fl3 hfl => by
      refine nt_case hi2 h4 hin rfl (Sl.up (Sl.up hN2.by u3) u4) hw hv (fun M' U' last' fl' h' => ?_) hfl
      rw [flagsA_next how hi2] at h'
      apply T_fettlelaw16_NeedTells_6
      unfold S_fettlelaw16_NeedTells_6
      rw [add1_n _ (by omega)]
      exact ih (i + 1) M' U' last' fl' (by omega) h'
    show OP (binI .eql (nv (kN how i)) (.int .i64 0)) _
    rw [eql_l 0 0 rfl, BR_dec]
    split
    · rename_i hk
      have hk : kN how i = 0 := hk
      exact main _ (by show decide (kN how i = 0) = decide (kN how i < 3); rw [decide_eq_decide]; omega)
    · rename_i hk0
      have hk0 : ¬ kN how i = 0 := hk0
      rw [eql_l 1 1 rfl, BR_dec]
      split
      · rename_i hk
        have hk : kN how i = 1 := hk
        exact main _ (by show decide (kN how i = 1) = decide (kN how i < 3); rw [decide_eq_decide]; omega)
      · rename_i hk1
        have hk1 : ¬ kN how i = 1 := hk1
        rw [eql_l 2 2 rfl]
        exact main _ (by show decide (kN how i = 2) = decide (kN how i < 3); rw [decide_eq_decide]; omega)
end
theorem NeedTells_ok {M : Store} {x0 : Value} {inn : List UInt8} {how : Int} (h0 : B M x0 inn) : R F.fettlelaw16_NeedTells #[x0, iv how] M fun v M' => v = tv true := by
  refine R.cps fun Q hQ => ?_
  have hQ : ∀ M, Q (tv true) M := fun M => hQ _ _ rfl
  apply T_fettlelaw16_NeedTells
  unfold S_fettlelaw16_NeedTells
  rw [by_len h0, gtr_l 300 300 rfl, BR_dec]
  split
  · exact awake16_ok ⟨rfl, hQ _⟩
  rename_i hin
  refine (New_ok (room := 1048576) (by decide)).mono fun v M1 ⟨u1, bf, r, e, hf1⟩ => ?_
  subst e
  rw [abin_ptr U.p_simf_FS, BR_bool, if_neg (by decide)]
  refine Rule_ok.mono fun v M2 ⟨u2, cs, e, hC2⟩ => ?_
  subst e
  refine s_new fun M3 u3 o3 n3 => ?_
  have hcs : cs.length = 5 := by obtain ⟨b1, b2, b3, e, _⟩ := hC2; rw [e]; rfl
  have hcone : cs.all (·.oneCell') = true := by obtain ⟨b1, b2, b3, e, _⟩ := hC2; rw [e]; exact ru_cells _ _ _ _ _ _ _ _ _ _ _ _ _
  refine s_st (vs := cs) o3 rfl hcs hcone fun M4 c4 o4 _ => ?_
  have u04 : Up M M4 := ((u1.trans u2).trans u3).ch c4 fun b hb => by simp at hb; subst hb; exact (u1.trans u2).n
  have hf4 := ((hf1.up u2).up u3).keep (by decide) (by decide) (c4.keepT o3)
  have kk4 := c4.keepT o3
  have hC4 : RuC M4 cs := by
    obtain ⟨b1, b2, b3, e, g1, g2, vs, g3, g4⟩ := hC2
    exact ⟨b1, b2, b3, e, Sl.keep (Sl.up g1 u3) (by decide) kk4, Sl.keep (Sl.up g2 u3) (by decide) kk4, vs, Sl.keep (Sl.up g3 u3) (by decide) kk4, g4.mono fun v x hx => Sl.keep (Sl.up hx u3) (by decide) kk4⟩
  have hR4 : RuO M4 M2.n := ⟨cs, o4, hC4⟩
  refine s_new fun M5 u5 o5 n5 => ?_
  have hR5 := hR4.up u5
  obtain ⟨cs', o', b1, b2, b3, e', g1, g2, g3⟩ := hR5
  have o'' : Ob M5 M2.n cs Ty.api_Rule := o4.up u5
  have hR5 : RuO M5 M2.n := ⟨cs', o', b1, b2, b3, e', g1, g2, g3⟩
  subst e'
  simp only [fad0, (rd5 o').1]
  rw [g1.len, OP_some]
  exact nt_loop (x25 := .slice (some ⟨b1, 0, none⟩) 2 2) hQ (by omega) 2 0 M5 0 0 _ rfl ⟨u04.trans u5, hf4.up u5, by omega, Nat.le_refl _, Sl.up h0 (u04.trans u5), g1, hR5, o5, u04.n, rfl, fun j hj => by omega, fun j _ hj => by rfl, rfl⟩
end Go.G
