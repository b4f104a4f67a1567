/- Layer 5: LinePlaces. -/
import Derived.Test.YtdhdbdngjbbgiaaDoorPL5
namespace Go.G
open Go.Ab Go.Proofs Go.RowKit
set_option linter.unusedVariables false
set_option linter.unusedSimpArgs false
set_option maxRecDepth 100000

theorem plW_some {b : List UInt8} {fr : List Nat} {l0 : Nat} {last l' : Int} {w : Wd} (h : plW b fr l0 last w = some l') :
    (w.2.1 = l0 ∧ 1 ≤ w.2.1 ∧ w.2.1 ≤ fr.length ∧ 1 ≤ w.2.2.1) ∧ last < ((fr.getD (w.2.1 - 1) 0 + w.2.2.1 - 1 : Nat) : Int) ∧ (fr.getD (w.2.1 - 1) 0 + w.2.2.1 - 1) + (spell w).length ≤ b.length ∧
      (b.drop (fr.getD (w.2.1 - 1) 0 + w.2.2.1 - 1)).take (spell w).length = spell w ∧ l' = ((fr.getD (w.2.1 - 1) 0 + w.2.2.1 - 1 + (spell w).length : Nat) : Int) - 1 := by
  unfold plW at h
  split at h
  · rename_i h1
    split at h
    · rename_i h2
      injection h with h
      exact ⟨h1, h2.1, h2.2.1, h2.2.2, h.symm⟩
    · cases h
  · cases h
theorem fromsN_le : ∀ (b : List UInt8) (i : Nat), ∀ p ∈ fromsN i b, p ≤ i + b.length
  | [], i, p, h => by cases h
  | c :: b, i, p, h => by
    rw [fromsN] at h
    rw [List.length_cons]
    split at h
    · rcases List.mem_cons.1 h with rfl | h
      · omega
      · have := fromsN_le b (i + 1) p h; omega
    · have := fromsN_le b (i + 1) p h; omega
theorem fromsN_len : ∀ (b : List UInt8) (i : Nat), (fromsN i b).length ≤ b.length
  | [], i => by simp [fromsN]
  | c :: b, i => by
    rw [fromsN, List.length_cons]
    split
    · rw [List.length_cons]; have := fromsN_len b (i + 1); omega
    · have := fromsN_len b (i + 1); omega
theorem fromsN_snoc (c : UInt8) : ∀ (b : List UInt8) (i : Nat), fromsN i (b ++ [c]) = fromsN i b ++ (if c = 10 then [i + b.length + 1] else [])
  | [], i => by simp only [List.nil_append, fromsN, List.length_nil, Nat.add_zero]
  | d :: b, i => by
    rw [List.cons_append, fromsN, fromsN, fromsN_snoc c b (i + 1), List.length_cons]
    have e : i + 1 + b.length + 1 = i + (b.length + 1) + 1 := by omega
    split <;> simp [e]
abbrev frI (fr : List Nat) : List Int := fr.map fun n => ((n : Nat) : Int)

section
variable {M0 : Store} {x6 x7 x9 x14 x26 x27 x28 : Value} {b : List UInt8} {fr : List Nat} {rows : List (List Wd)} {Q : Value → Store → Prop}

theorem pl_row (hb : B M0 x6 b) (hbl : b.length ≤ 2 ^ 20) (hfr : LV iv Ty.int M0 x9 (frI fr)) (hfb : ∀ p ∈ fr, p ≤ b.length) (hfl : fr.length ≤ 2 ^ 21) {ws : List Wd} (hws : WS M0 x14 ws) (hwl : ws.length ≤ 2 ^ 20) {l0 : Nat} (h0 : ∀ h : 0 < ws.length, (ws[0]).2.1 = l0) {x57 x58 : Value} {l' : Int}
    (hgo : ∀ M', Up M0 M' → P_fettlelaw5_LinePlaces_12 x6 x9 (iv l') x26 x27 x28 x7 x57 x58 M' Q) :
    ∀ (d j : Nat) (last : Int) (M : Store), d + j = ws.length → Up M0 M → -1 ≤ last → last ≤ 2 ^ 21 → plR b fr l0 last (ws.drop j) = some l' →
      P_fettlelaw5_LinePlaces_10 x6 x9 (iv last) x14 x26 x27 x28 x7 x57 x58 x14 (iv (ws.length : Int)) (iv (j : Int)) M Q := by
  intro d
  induction d with
  | zero =>
    intro j last M hj hu hl1 hl2 hp
    apply T_fettlelaw5_LinePlaces_10
    unfold S_fettlelaw5_LinePlaces_10
    rw [lss_n, BR_dec, if_neg (by omega)]
    rw [List.drop_of_length_le (by omega)] at hp
    injection hp with hp
    subst hp
    exact hgo M hu
  | succ d ih =>
    intro j last M hj hu hl1 hl2 hp
    apply T_fettlelaw5_LinePlaces_10
    unfold S_fettlelaw5_LinePlaces_10
    have hjl : j < ws.length := by omega
    rw [lss_n, BR_dec, if_pos hjl]
    apply T_fettlelaw5_LinePlaces_11
    unfold S_fettlelaw5_LinePlaces_11
    rw [ws_ld (Sl.up hws hu) hjl]
    rw [List.drop_eq_getElem_cons hjl, plR] at hp
    obtain ⟨l1, hp1, hp2⟩ := Option.bind_eq_some_iff.1 hp
    obtain ⟨⟨g1, g2, g3, g4⟩, g5, g6, g7, g8⟩ := plW_some hp1
    have h0' := h0 (by omega)
    generalize hw : ws[j] = w at *
    obtain ⟨wt, wl, wc, wq⟩ := w
    simp only at g1 g2 g3 g4 g5 g6 g7 g8
    refine s_new fun M1 u1 o1 n1 => ?_
    refine s_st (vs := wcs (wt, wl, wc, wq)) o1 rfl rfl (wcs_one _) fun M2 c2 o2 n2 => ?_
    have o2 : Ob M2 M.n [sv wt, iv (wl : Int), iv (wc : Int), tv wq] Ty.api_Word := o2
    have hu2 : Up M0 M2 := hu.trans (u1.ch c2 (by simp))
    have hws2 := Sl.up hws hu2
    have hfr2 := hfr.up hu2
    have hb2 : B M2 x6 b := Sl.up hb hu2
    have hfl0 : wl - 1 < fr.length := by omega
    have hget : fr.getD (wl - 1) 0 = fr[wl - 1] := by rw [List.getD_eq_getElem?_getD, List.getElem?_eq_getElem hfl0]; rfl
    have hfle := hfb _ (List.getElem_mem hfl0)
    rw [hget] at g5 g6 g7 g8
    have hspl : (spell (wt, wl, wc, wq)).length ≤ b.length := by omega
    simp only [fad0, o2.l4]
    rw [show (Value.int .i64 0) = iv ((0 : Nat) : Int) from rfl]
    rw [ws_fld hws2 (i := 0) (by omega) (f := 1) (w := iv (l0 : Int)) (by show some (iv (((ws[0]).2.1 : Nat) : Int)) = _; rw [h0'])]
    rw [neq_n, BR_dec, if_neg (by omega), lss_l 1 1 rfl, BR_dec, if_neg (by omega), hfr2.len, OP_some, List.length_map, gtr_n, BR_dec, if_neg (by omega), lss_l 1 1 rfl, BR_dec, if_neg (by omega), sub_l 1 1 rfl (by omega) (by omega)]
    obtain ⟨p, e1, e2⟩ := hfr2.at (i := wl - 1) (by simpa using hfl0) .i64
    rw [e1, OP_some, e2, OP_some]
    have hel : (frI fr)[wl - 1]'(by simpa using hfl0) = ((fr[wl - 1] : Nat) : Int) := by simp [frI]
    rw [hel, add_n _ _ (by omega), sub_l 1 1 rfl (by omega) (by omega)]
    have hcol : wc ≤ b.length + 1 := by omega
    have next : ∀ M3, M3 = M2 → P_fettlelaw5_LinePlaces_13 x6 x9 (iv last) x14 (iv ((fr[wl - 1] + wc - 1 : Nat) : Int)) (sv (spell (wt, wl, wc, wq))) x26 x27 x28 x7 x57 x58 x14 (iv (ws.length : Int)) (iv (j : Int)) M3 Q := by
      rintro M3 rfl
      apply T_fettlelaw5_LinePlaces_13
      unfold S_fettlelaw5_LinePlaces_13
      show OP (binI .leq (.int .i64 ((fr[wl - 1] + wc - 1 : Nat) : Int)) (.int .i64 last)) _
      rw [e_leq, BR_dec, if_neg (by omega), sv_len, add_n _ _ (by omega), by_len hb2, gtr_n, BR_dec, if_neg (by omega), sv_len, add_n _ _ (by omega), by_str hb2 (by omega) g6]
      have hmid : (b.take (fr[wl - 1] + wc - 1 + (spell (wt, wl, wc, wq)).length)).drop (fr[wl - 1] + wc - 1) = spell (wt, wl, wc, wq) := by
        rw [List.drop_take, Nat.add_sub_cancel_left]; exact g7
      rw [hmid, sv_ne, BR_dec, if_neg (by simp), sv_len, add_n _ _ (by omega)]
      show OP (binI .sub (.int .i64 _) (.int .i64 1)) _
      rw [e_sub, w64 (by omega) (by omega)]
      apply T_fettlelaw5_LinePlaces_14
      unfold S_fettlelaw5_LinePlaces_14
      rw [add1_n _ (by omega), ← g8]
      exact ih (j + 1) l1 M3 (by omega) hu2 (by omega) (by omega) hp2
    have hsp : spell (wt, wl, wc, wq) = if wq then 34 :: (wt ++ [34]) else wt := rfl
    cases wq with
    | true =>
      rw [BR_true]
      rw [hsp] at hspl next
      simp only [if_true, List.length_cons, List.length_append] at hspl
      show OP (binS .add (sv [34]) (sv wt)) _
      rw [sv_add _ _ (by simp; omega)]
      show OP (binS .add (sv _) (sv [34])) _
      rw [sv_add _ _ (by simp; omega)]
      exact next M2 rfl
    | false =>
      rw [BR_false]
      exact next M2 rfl

theorem pl_rows (hb : B M0 x6 b) (hbl : b.length ≤ 2 ^ 20) (hfr : LV iv Ty.int M0 x9 (frI fr)) (hfb : ∀ p ∈ fr, p ≤ b.length) (hfl : fr.length ≤ 2 ^ 21) (hR : RW M0 x7 rows) (hrl : rows.length ≤ 2 ^ 21) (hrw : ∀ r ∈ rows, r.length ≤ 2 ^ 20) {l : Int} (hgo : ∀ M', Up M0 M' → P_fettlelaw5_LinePlaces_4 x26 x27 x28 M' Q) :
    ∀ (d i : Nat) (last : Int) (M : Store), d + i = rows.length → Up M0 M → -1 ≤ last → last ≤ 2 ^ 21 → plA b fr last (rows.drop i) = some l →
      P_fettlelaw5_LinePlaces_8 x6 x9 (iv last) x26 x27 x28 x7 (iv (rows.length : Int)) (iv (i : Int)) M Q := by
  have bound : ∀ (l0 : Nat) (ws : List Wd) (last l' : Int), -1 ≤ last → last ≤ 2 ^ 21 → plR b fr l0 last ws = some l' → -1 ≤ l' ∧ l' ≤ 2 ^ 21 := by
    intro l0 ws
    induction ws with
    | nil => intro last l' h1 h2 h; injection h with h; subst h; exact ⟨h1, h2⟩
    | cons w ws ihw =>
      intro last l' h1 h2 h
      rw [plR] at h
      obtain ⟨l1, hp1, hp2⟩ := Option.bind_eq_some_iff.1 h
      obtain ⟨_, g5, g6, _, g8⟩ := plW_some hp1
      exact ihw l1 l' (by omega) (by omega) hp2
  intro d
  induction d with
  | zero =>
    intro i last M hi hu h1 h2 hp
    apply T_fettlelaw5_LinePlaces_8
    unfold S_fettlelaw5_LinePlaces_8
    rw [lss_n, BR_dec, if_neg (by omega)]
    exact hgo M hu
  | succ d ih =>
    intro i last M hi hu h1 h2 hp
    have hil : i < rows.length := by omega
    apply T_fettlelaw5_LinePlaces_8
    unfold S_fettlelaw5_LinePlaces_8
    rw [lss_n, BR_dec, if_pos hil]
    apply T_fettlelaw5_LinePlaces_9
    unfold S_fettlelaw5_LinePlaces_9
    refine ls_ld (hR.up WS.up' hu) hil fun w hw => ?_
    have hwl := hrw _ (List.getElem_mem hil)
    rw [List.drop_eq_getElem_cons hil] at hp
    generalize rows[i] = ws at *
    cases ws with
    | nil => cases hp
    | cons w0 ws =>
      rw [plA] at hp
      obtain ⟨l1, hp1, hp2⟩ := Option.bind_eq_some_iff.1 hp
      rw [hw.len, OP_some, eql_l 0 0 rfl, BR_dec, if_neg (by simp)]
      obtain ⟨b1, b2⟩ := bound _ _ _ _ h1 h2 hp1
      refine pl_row (M0 := M) (l0 := w0.2.1) (Sl.up hb hu) hbl (hfr.up hu) hfb hfl hw hwl (fun _ => rfl) (l' := l1) (fun M' hu' => ?_) (w0 :: ws).length 0 last M (by omega) (Ch.refl _ _) h1 h2 hp1
      apply T_fettlelaw5_LinePlaces_12
      unfold S_fettlelaw5_LinePlaces_12
      rw [add1_n _ (by omega)]
      exact ih (i + 1) l1 M' (by omega) (hu.trans hu') b1 b2 hp2
theorem pl_froms (hb : B M0 x6 b) (hbl : b.length ≤ 2 ^ 20) (hR : RW M0 x7 rows) (hgo : ∀ M' v, Up M0 M' → LV iv Ty.int M' v (frI (fromsF b)) → P_fettlelaw5_LinePlaces_7 x6 x7 v x26 x27 x28 M' Q) :
    ∀ (d i : Nat) (v : Value) (M : Store), d + i = b.length → Up M0 M → NV iv Ty.int M0 M v (frI (0 :: fromsN 0 (b.take i))) →
      P_fettlelaw5_LinePlaces_5 x6 x7 v x26 x27 x28 x6 (iv (b.length : Int)) (iv (i : Int)) M Q := by
  intro d
  induction d with
  | zero =>
    intro i v M hi hu hN
    apply T_fettlelaw5_LinePlaces_5
    unfold S_fettlelaw5_LinePlaces_5
    rw [lss_n, BR_dec, if_neg (by omega)]
    rw [List.take_of_length_le (by omega)] at hN
    exact hgo M v hu hN.lv
  | succ d ih =>
    intro i v M hi hu hN
    apply T_fettlelaw5_LinePlaces_5
    unfold S_fettlelaw5_LinePlaces_5
    have hil : i < b.length := by omega
    rw [lss_n, BR_dec, if_pos hil]
    apply T_fettlelaw5_LinePlaces_6
    unfold S_fettlelaw5_LinePlaces_6
    have hsn := fromsN_snoc b[i] (b.take i) 0
    rw [← List.take_succ_eq_append_getElem hil] at hsn
    have htl : (b.take i).length = i := by rw [List.length_take]; omega
    rw [htl] at hsn
    rw [by_ld (Sl.up hb hu) hil, bv_eqI (d := 10) (n := 10) rfl, BR_dec]
    split
    · rename_i h10
      rw [if_pos h10] at hsn
      have hln := fromsN_len (b.take i) 0
      rw [add1_n _ (by omega)]
      have ebl : ∀ K : List Value → Prop, OP (bldL (.int .i64 0) 1 1 [(0, iv ((i + 1 : Nat) : Int))]) K = K [iv ((i + 1 : Nat) : Int)] := fun K => e_lit1 _ _ _ K
      rw [ebl, LT_eq]
      refine NV.app1 hu (Nat.le_refl _) hu.n hN ((i + 1 : Nat) : Int) rfl (by simp; omega) fun v' M' hu' hN' _ _ => ?_
      rw [add1_n _ (by omega)]
      refine ih (i + 1) v' M' (by omega) hu' ?_
      rw [hsn]
      have : frI (0 :: (fromsN 0 (b.take i) ++ [0 + i + 1])) = frI (0 :: fromsN 0 (b.take i)) ++ [((i + 1 : Nat) : Int)] := by simp [frI]
      rw [this]; exact hN'
    · rename_i h10
      rw [if_neg h10, List.append_nil] at hsn
      rw [add1_n _ (by omega)]
      refine ih (i + 1) v M (by omega) hu ?_
      rw [hsn]; exact hN
theorem pl_all {bs : List (List UInt8)} (hsz : bs.length ≤ 100) (hbs : ∀ b ∈ bs, b.length ≤ 2 ^ 20) (hQ : ∀ M, Q (tv true) M) : ∀ (d i : Nat) (M : Store), d + i = bs.length → Ls B Ty.sl_uint8 M x26 bs →
    P_fettlelaw5_LinePlaces_1 x26 (iv (bs.length : Int)) (iv (i : Int)) M Q := by
  intro d
  induction d with
  | zero =>
    intro i M hi h
    apply T_fettlelaw5_LinePlaces_1
    unfold S_fettlelaw5_LinePlaces_1
    rw [lss_n, BR_dec, if_neg (by omega)]
    apply T_fettlelaw5_LinePlaces_3
    unfold S_fettlelaw5_LinePlaces_3
    exact awake5_ok ⟨rfl, hQ M⟩
  | succ d ih =>
    intro i M hi h
    have hil : i < bs.length := by omega
    apply T_fettlelaw5_LinePlaces_1
    unfold S_fettlelaw5_LinePlaces_1
    rw [lss_n, BR_dec, if_pos hil]
    have again : ∀ M', Up M M' → P_fettlelaw5_LinePlaces_4 x26 (iv (bs.length : Int)) (iv (i : Int)) M' Q := by
      intro M' hu'
      apply T_fettlelaw5_LinePlaces_4
      unfold S_fettlelaw5_LinePlaces_4
      rw [add1_n _ (by omega)]
      exact ih (i + 1) M' (by omega) (h.up Bup hu')
    apply T_fettlelaw5_LinePlaces_2
    unfold S_fettlelaw5_LinePlaces_2
    refine ls_ld h hil fun w hw => ?_
    have hbl := hbs _ (List.getElem_mem hil)
    generalize bs[i] = b at *
    refine (Split_ok hw (by omega)).mono fun r M1 ⟨u1, hr⟩ => ?_
    obtain ⟨t, rfl, ht⟩ := hr.of
    rw [tp2_0, OP_some, tp2_1, OP_some]
    refine s_new fun M2 u2 o2 n2 => ?_
    refine s_st (vs := fcs (ftOf (splitF b))) o2 rfl rfl (fcs_one _) fun M3 c3 o3 n3 => ?_
    have u13 : Up M1 M3 := u2.ch c3 (by simp)
    have u03 := u1.trans u13
    rw [fad0, Ob.ld (o := 0) (v := iv ((ftOf (splitF b)).1 : Int)) o3 rfl, OP_some, neq_l 0 0 rfl, BR_dec]
    cases hs : splitF b with
    | inl f =>
      have hf := splitF_ft hs
      rw [if_pos (by show f.1 ≠ 0; rcases hf with h | h | h <;> omega)]
      exact again M3 u03
    | inr rows =>
      rw [if_neg (by show ¬ ((0 : Nat) ≠ 0); omega)]
      have ebl : ∀ K : List Value → Prop, OP (bldL (.int .i64 0) 1 1 [(0, (.int .i64 0))]) K = K [iv 0] := fun K => e_lit1 _ _ _ K
      rw [ebl]
      refine s_lit (s := 1) rfl fun M4 u4 hN o4 n4 => ?_
      have hb4 : B M4 w b := Sl.up hw (u03.trans u4)
      rw [by_len hb4]
      have hR4 : RW M4 t rows := by
        have := (ht.up WS.up' u13).up WS.up' u4
        rw [hs] at this; exact this
      obtain ⟨l, hpl⟩ := split_places hs
      obtain ⟨hz1, hz2⟩ := splitF_size hs
      have hfl := fromsN_len b 0
      refine pl_froms (M0 := M3) (Sl.up hw u03) hbl (ht.up WS.up' u13 |> fun h => by rw [hs] at h; exact h) (fun M' v hu' hv => ?_) b.length 0 _ M4 (by omega) u4 hN
      apply T_fettlelaw5_LinePlaces_7
      unfold S_fettlelaw5_LinePlaces_7
      have hR' : RW M' t rows := by
        have := (ht.up WS.up' u13).up WS.up' hu'
        rw [hs] at this; exact this
      rw [hR'.lenV, OP_some]
      exact pl_rows (M0 := M') (Sl.up hw (u03.trans hu')) hbl hv (fun p hp => by
        rcases List.mem_cons.1 hp with rfl | hp
        · omega
        · have := fromsN_le b 0 p hp; omega) (by simp [fromsF]; omega) hR' (by omega) (fun r hr => by have := hz2 r hr; omega) (l := l) (fun M'' hu'' => again M'' ((u03.trans hu').trans hu'')) rows.length 0 (-1) M' (by omega) (Ch.refl _ _) (by omega) (by omega) hpl
end
theorem e_lit2b (z : Value) (a b : Option Addr) (n1 c1 n2 c2 : Nat) (K : List Value → Prop) : OP (bldL z 1 2 [(0, .slice a n1 c1), (1, .slice b n2 c2)]) K = K [.slice a n1 c1, .slice b n2 c2] := by kernel_rfl
theorem LinePlaces_ok {M : Store} {x0 x1 : Value} {raw : List UInt8} {zs : List Int} (h0 : B M x0 raw) (hz : LV iv Ty.int M x1 zs) : R F.fettlelaw5_LinePlaces #[x0, x1] M fun v M' => v = tv true := by
  refine R.cps fun Q hQ => ?_
  apply T_fettlelaw5_LinePlaces
  unfold S_fettlelaw5_LinePlaces
  rw [by_len h0, gtr_l 300 300 rfl, BR_dec]
  split
  · exact awake5_ok ⟨rfl, hQ _ _ rfl⟩
  · rename_i hr
    refine (Text_ok hz).mono fun v1 M1 ⟨u1, t1, hN1, hl1⟩ => ?_
    have h01 : B M1 x0 raw := Sl.up h0 u1
    obtain ⟨a0, c0, rfl⟩ := h01.slice
    have h11 := hN1.by
    obtain ⟨a1, c1, rfl⟩ := h11.slice
    rw [e_lit2b]
    refine s_lit (s := 1) rfl fun M4 u4 hl o4 n4 => ?_
    rw [e_lenV]
    have hLs : Ls B Ty.sl_uint8 M4 (.slice (some ⟨M1.n, 0, none⟩) 2 2) [raw, t1] := ⟨_, hl.sl, Sl.up h01 u4, Sl.up h11 u4, trivial⟩
    refine pl_all (bs := [raw, t1]) (by simp) (fun b hb => ?_) (fun M => hQ _ M rfl) 2 0 M4 rfl hLs
    simp only [List.mem_cons, List.not_mem_nil, or_false] at hb
    rcases hb with rfl | rfl
    · omega
    · omega
end Go.G
