/- Layer 5: LineTells. -/
import Derived.Test.YtdhdbdngjbbgiaaDoorPW5e
namespace Go.G
open Go.Ab Go.Proofs Go.RowKit
set_option linter.unusedVariables false
set_option linter.unusedSimpArgs false
set_option maxRecDepth 100000

theorem awake5_ok {M : Store} {Q : Value → Store → Prop} (hQ : Q (tv true) M) : R F.fettlelaw5_awake #[] M Q := R_told (g := yes0) (by kernel_rfl) rfl hQ

theorem Bup (M M' : Store) (v : Value) (x : List UInt8) (h : B M v x) (k : Up M M') : B M' v x := Sl.up h k
def ftOf : Sum Ft (List (List Wd)) → Ft
  | .inl f => f
  | .inr _ => fv0
def rwOf : Sum Ft (List (List Wd)) → List (List Wd)
  | .inl _ => []
  | .inr r => r
theorem RW.nil (M : Store) : RW M (.slice none 0 0) [] := ⟨[], Sl.nil _ _ _, trivial⟩
theorem SplitR.of {M0 M' : Store} {r : Value} {s : Sum Ft (List (List Wd))} (h : SplitR M0 r M' s) : ∃ w, r = .tuple #[w, fv (ftOf s)] ∧ RW M' w (rwOf s) := by
  cases s with
  | inl f => exact ⟨_, h, RW.nil _⟩
  | inr rows => obtain ⟨w, h1, h2⟩ := h; exact ⟨w, h1, h2.rw⟩
theorem SplitRR.of {M0 M' : Store} {r : Value} {s : Sum Ft (List (List Wd))} (h : SplitRR M0 r M' s) : ∃ w, r = .tuple #[w, fv (ftOf s)] ∧ RW M' w (rwOf s) := by
  cases s with
  | inl f => exact ⟨_, h, RW.nil _⟩
  | inr rows => obtain ⟨w, h1, h2⟩ := h; exact ⟨w, h1, h2.ls⟩
theorem rwOf_size (b : List UInt8) : (rwOf (splitF b)).length ≤ b.length + 1 ∧ ∀ r ∈ rwOf (splitF b), r.length ≤ b.length := by
  cases h : splitF b with
  | inl f => exact ⟨by simp [rwOf], fun r hr => by cases hr⟩
  | inr rows => exact splitF_size h
theorem e_lit3b (z : Value) (a b c : Option Addr) (n1 c1 n2 c2 n3 c3 : Nat) (K : List Value → Prop) : OP (bldL z 1 3 [(0, .slice a n1 c1), (1, .slice b n2 c2), (2, .slice c n3 c3)]) K = K [.slice a n1 c1, .slice b n2 c2, .slice c n3 c3] := by kernel_rfl

theorem tells_loop {v : Value} {bs : List (List UInt8)} (hsz : bs.length ≤ 100) (hbs : ∀ b ∈ bs, b.length ≤ 2 ^ 20) {Q : Value → Store → Prop} (hQ : ∀ M, Q (tv true) M) : ∀ (d i : Nat) (M : Store), d + i = bs.length → Ls B Ty.sl_uint8 M v bs →
    P_fettlelaw5_LineTells_1 v (iv (bs.length : Int)) (iv (i : Int)) M Q := by
  intro d
  induction d with
  | zero =>
    intro i M hi h
    apply T_fettlelaw5_LineTells_1
    unfold S_fettlelaw5_LineTells_1
    rw [lss_n, BR_dec, if_neg (by omega)]
    apply T_fettlelaw5_LineTells_3
    unfold S_fettlelaw5_LineTells_3
    exact awake5_ok ⟨rfl, hQ M⟩
  | succ d ih =>
    intro i M hi h
    apply T_fettlelaw5_LineTells_1
    unfold S_fettlelaw5_LineTells_1
    rw [lss_n, BR_dec, if_pos (by omega)]
    apply T_fettlelaw5_LineTells_2
    unfold S_fettlelaw5_LineTells_2
    have hil : i < bs.length := by omega
    refine ls_ld h hil fun w hw => ?_
    have hbl := hbs _ (List.getElem_mem hil)
    generalize bs[i] = b at *
    refine (Split_ok hw (by omega)).mono fun r M1 ⟨u1, hr⟩ => ?_
    obtain ⟨t, rfl, ht⟩ := hr.of
    rw [tp2_0, OP_some, tp2_1, OP_some]
    refine s_new fun M2 u2 o2 n2 => ?_
    refine s_st (vs := fcs (ftOf (splitF b))) o2 rfl rfl (fcs_one _) fun M3 c3 o3 n3 => ?_
    have u13 : Up M1 M3 := u2.ch c3 (by simp)
    have u03 := u1.trans u13
    refine (RSplit_ok (Sl.up hw u03) (by omega)).mono fun r4 M4 ⟨u4, hr4⟩ => ?_
    obtain ⟨t4, rfl, ht4⟩ := hr4.of
    rw [tp2_0, OP_some, tp2_1, OP_some]
    refine s_new fun M5 u5 o5 n5 => ?_
    refine s_st (vs := fcs (ftOf (splitF b))) o5 rfl rfl (fcs_one _) fun M6 c6 o6 n6 => ?_
    have u46 : Up M4 M6 := u5.ch c6 (by simp)
    have o36 := (o3.up u4).up u46
    rw [ldF o36, OP_some, ldF o6, OP_some]
    show OP (abin Tryd.prog false .neq Ty.api_Fault (fv (ftOf (splitF b))) (fv (ftOf (splitF b)))) _
    rw [ft_ne, decide_eq_true rfl]
    show BR (.bool false) _ _
    rw [BR_false]
    have hsz2 := rwOf_size b
    have RWup : ∀ {M M' : Store} {w : Value} {rows : List (List Wd)}, RW M w rows → Up M M' → RW M' w rows := fun h k => h.up WS.up' k
    refine SameLines_ok (RWup (RWup (RWup ht u13) u4) u46) (RWup ht4 u46) (by omega) (fun r hr => by have := hsz2.2 r hr; omega) ?_
    rw [decide_eq_true rfl, e_not]
    show BR (.bool false) _ _
    rw [BR_false, add1_n _ (by omega)]
    exact ih (i + 1) M6 (by omega) (h.up Bup ((u03.trans u4).trans u46))

theorem LineTells_ok {M : Store} {x0 x1 : Value} {raw : List UInt8} {zs : List Int} (h0 : B M x0 raw) (hz : LV iv Ty.int M x1 zs) : R F.fettlelaw5_LineTells #[x0, x1] M fun v M' => v = tv true := by
  refine R.cps fun Q hQ => ?_
  apply T_fettlelaw5_LineTells
  unfold S_fettlelaw5_LineTells
  rw [by_len h0, gtr_l 400 400 rfl, BR_dec]
  split
  · exact awake5_ok ⟨rfl, hQ _ _ rfl⟩
  · rename_i hr
    refine (Text_ok hz).mono fun v1 M1 ⟨u1, t1, hN1, hl1⟩ => ?_
    refine (Text_ok (hz.up u1)).mono fun v2 M2 ⟨u2, t2, hN2, hl2⟩ => ?_
    have h02 := Sl.up (Sl.up h0 u1) u2
    have h12 := Sl.up hN1.by u2
    refine app_by (M0 := M1) u2 hN2 h02 (by omega) fun v3 M3 hu3 hN3 hk3 => ?_
    have h03 : B M3 x0 raw := Sl.up (Sl.up h0 u1) hu3
    have h13 : B M3 v1 t1 := Sl.up hN1.by hu3
    have h23 : B M3 v3 (t2 ++ raw) := hN3.by
    obtain ⟨a0, c0, rfl⟩ := h03.slice
    obtain ⟨a1, c1, rfl⟩ := h13.slice
    obtain ⟨a2, c2, rfl⟩ := h23.slice
    rw [e_lit3b]
    refine s_lit (s := 1) rfl fun M4 u4 hl o4 n4 => ?_
    rw [e_lenV]
    have hLs : Ls B Ty.sl_uint8 M4 (.slice (some ⟨M3.n, 0, none⟩) 3 3) [raw, t1, t2 ++ raw] := ⟨_, hl.sl, Sl.up h03 u4, Sl.up h13 u4, Sl.up h23 u4, trivial⟩
    refine tells_loop (bs := [raw, t1, t2 ++ raw]) (by simp) (fun b hb => ?_) (fun M => hQ _ M rfl) 3 0 M4 rfl hLs
    simp only [List.mem_cons, List.not_mem_nil, or_false] at hb
    rcases hb with rfl | rfl | rfl
    · omega
    · omega
    · rw [List.length_append]; omega
end Go.G
