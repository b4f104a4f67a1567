/- PrntOwn: what is read of a print is one's own. -/
import Derived.Test.YtpacolplhcfamaaPY10c
import Derived.Test.YtpacolplhcfamaaPGD
import Derived.Test.YtpacolplhcfamaaPAW
namespace Go.G
open Go.Ab Go.Proofs Go.RowKit
set_option linter.unusedVariables false
set_option linter.unusedSimpArgs false
set_option maxRecDepth 100000

theorem awake10_ok {M : Store} {Q : Value → Store → Prop} (hQ : Q (tv true) M) : R F.fettlelaw10_awake #[] M Q := R_told (g := yes0) (by kernel_rfl) rfl hQ
/-- A byte of one's own is turned: all other bytes of one's own stay such, as many as they were. -/
theorem w_turn {M2 M : Store} {v : Value} {t : List UInt8} (hu : Up M2 M) (h : N M2 M v t) {i : Nat} (hi : i < t.length) (c : UInt8) {K : Store → Prop}
    (hK : ∀ M', Up M2 M' → (∀ v' t', N M2 M v' t' → ∃ t'', N M2 M' v' t'' ∧ t''.length = t'.length) → Keep Ty.uint8 M M' → K M') : (OP (ixA 1 v (iv (i : Int))) fun p => OP (st 1 p (bv c) M) K) := by
  obtain ⟨h1, ⟨h2, _⟩ | ⟨b, cells, cp, rfl, hb, h6, h7, h8, h9⟩⟩ := h
  · omega
  · have e : ixA 1 (.slice (some ⟨b, 0, none⟩) t.length cp) (iv (i : Int)) = some (.pointer (some ⟨b, i, none⟩)) := by
      simp only [ixA, iv]; rw [if_pos ⟨by omega, by omega, trivial⟩]; simp
    have o6 : Ob M b cells Ty.uint8 := h6
    rw [e, OP_some]
    refine s_st1 (i := i) (b := b) (cells := cells) (T := Ty.uint8) o6 (by omega) rfl rfl fun M1 c1 o1 n1 => ?_
    refine hK M1 (hu.ch c1 (by simpa using hb)) ?_ (c1.keepT o6)
    rintro v' t' ⟨g1, g | ⟨b', cells', cp', rfl, gb, g6, g7, g8, g9⟩⟩
    · exact ⟨t', ⟨g1, .inl g⟩, rfl⟩
    · by_cases hbb : b' = b
      · subst hbb
        have hc : cells' = cells := by
          have h6' := h6
          rw [g6] at h6'
          injection h6' with h6'
          injection h6' with h6'
          injection h6' with h6'
        subst hc
        refine ⟨t'.set i c, ⟨by simp, .inr ⟨b', cells'.set i (bv c), cp', ?_, gb, o1, ?_, ?_, ?_⟩⟩, by simp⟩
        · rw [List.length_set]
        · rw [List.length_set, List.length_set]; exact g7
        · rw [List.map_set, List.length_set, List.take_set, g8]
        · rw [List.length_set]; exact g9
      · exact ⟨t', ⟨g1, .inr ⟨b', cells', cp', rfl, gb, c1.at g6 (by simpa using hbb), g7, g8, g9⟩⟩, rfl⟩
/-- Rows of one's own, whatever they hold. -/
def Wk (M2 : Store) (M : Store) (v : Value) (x : List UInt8) : Prop := ∃ t, N M2 M v t ∧ t.length ≤ 2 ^ 20
theorem wk_next {M2 M M' : Store} {v : Value} {xs : List (List UInt8)} (h : NLs (Wk M2) Ty.sl_uint8 M2 M v xs) (hw : ∀ v' t', N M2 M v' t' → ∃ t'', N M2 M' v' t'' ∧ t''.length = t'.length) (hk : Keep Ty.uint8 M M') : NLs (Wk M2) Ty.sl_uint8 M2 M' v xs := by
  obtain ⟨vs, h1, h2⟩ := h
  exact ⟨vs, Nw.keep h1 (by decide) hk, h2.mono fun v x ⟨t, ht, hl⟩ => by obtain ⟨t', h', hl'⟩ := hw v t ht; exact ⟨t', h', by omega⟩⟩

section
variable {M2 : Store} {x1 x7 x8 x11 : Value} {xs : List (List UInt8)} {Q : Value → Store → Prop}
theorem own_inner {x13 x49 : Value} {n i : Nat} (hn : n ≤ 2 ^ 30) (hK : ∀ M, Up M2 M → NLs (Wk M2) Ty.sl_uint8 M2 M x49 xs → P_fettlelaw10_PrntOwn_8 x1 x7 x8 x11 x49 (iv (xs.length : Int)) (iv (i : Int)) M Q) :
    ∀ (k j : Nat) (M : Store), k + j = n → Up M2 M → NLs (Wk M2) Ty.sl_uint8 M2 M x49 xs → (∃ t, N M2 M x13 t ∧ t.length = n) → P_fettlelaw10_PrntOwn_6 x1 x7 x8 x11 x13 x49 (iv (xs.length : Int)) (iv (i : Int)) (iv (n : Int)) (iv (j : Int)) M Q := by
  intro k
  induction k with
  | zero =>
    intro j M hj hu hN ht
    apply T_fettlelaw10_PrntOwn_6
    unfold S_fettlelaw10_PrntOwn_6
    rw [lss_n, BR_dec, if_neg (by omega)]
    exact hK M hu hN
  | succ k ih =>
    intro j M hj hu hN ht
    obtain ⟨t, ht, hl⟩ := ht
    apply T_fettlelaw10_PrntOwn_6
    unfold S_fettlelaw10_PrntOwn_6
    rw [lss_n, BR_dec, if_pos (by omega), by_ld ht.by (by omega), bv_add]
    refine w_turn hu ht (i := j) (by omega) _ fun M' hu' hw hk => ?_
    rw [add1_n _ (by omega)]
    obtain ⟨t', h', hl'⟩ := hw _ _ ht
    exact ih (j + 1) M' (by omega) hu' (wk_next hN hw hk) ⟨t', h', by omega⟩
theorem own_outer {x49 : Value} (hx : xs.length ≤ 8) (hK : ∀ M, Up M2 M → P_fettlelaw10_PrntOwn_7 x1 x7 x8 x11 M Q) :
    ∀ (k i : Nat) (M : Store), k + i = xs.length → Up M2 M → NLs (Wk M2) Ty.sl_uint8 M2 M x49 xs → P_fettlelaw10_PrntOwn_5 x1 x7 x8 x11 x49 (iv (xs.length : Int)) (iv (i : Int)) M Q := by
  intro k
  induction k with
  | zero =>
    intro i M hi hu hN
    apply T_fettlelaw10_PrntOwn_5
    unfold S_fettlelaw10_PrntOwn_5
    rw [lss_n, BR_dec, if_neg (by omega)]
    exact hK M hu
  | succ k ih =>
    intro i M hi hu hN
    have hil : i < xs.length := by omega
    apply T_fettlelaw10_PrntOwn_5
    unfold S_fettlelaw10_PrntOwn_5
    rw [lss_n, BR_dec, if_pos hil]
    obtain ⟨p, w, e1, e2, t, ht, hl⟩ := hN.ls.at hil .i64
    show OP (ixA 1 x49 (.int .i64 (i : Int))) _
    rw [e1, OP_some, e2, OP_some, by_len ht.by]
    refine own_inner (n := t.length) (i := i) (by omega) (fun M' hu' hN' => ?_) t.length 0 M rfl hu hN ⟨t, ht, rfl⟩
    apply T_fettlelaw10_PrntOwn_8
    unfold S_fettlelaw10_PrntOwn_8
    rw [add1_n _ (by omega)]
    exact ih (i + 1) M' (by omega) hu' hN'
theorem own_value {x15 : Value} {n : Nat} (hn : n ≤ 2 ^ 30) (hK : ∀ M, Up M2 M → P_fettlelaw10_PrntOwn_10 x1 x7 x8 x11 M Q) :
    ∀ (k j : Nat) (M : Store) (t : List UInt8), k + j = n → Up M2 M → N M2 M x15 t → t.length = n → P_fettlelaw10_PrntOwn_9 x1 x7 x8 x11 x15 (iv (n : Int)) (iv (j : Int)) M Q := by
  intro k
  induction k with
  | zero =>
    intro j M t hj hu hN hl
    apply T_fettlelaw10_PrntOwn_9
    unfold S_fettlelaw10_PrntOwn_9
    rw [lss_n, BR_dec, if_neg (by omega)]
    exact hK M hu
  | succ k ih =>
    intro j M t hj hu hN hl
    apply T_fettlelaw10_PrntOwn_9
    unfold S_fettlelaw10_PrntOwn_9
    rw [lss_n, BR_dec, if_pos (by omega), by_ld hN.by (by omega), bv_add]
    refine w_turn hu hN (i := j) (by omega) _ fun M' hu' hw hk => ?_
    rw [add1_n _ (by omega)]
    obtain ⟨t', h', hl'⟩ := hw _ _ hN
    exact ih (j + 1) M' t' (by omega) hu' h' (by omega)
end
theorem valO_print {l : List Dw} {ins : List (List UInt8)} (h : okA l = true) (h8 : ins.length ≤ 8) (hi : ∀ x ∈ ins, x.length ≤ 256) : valO 4000 256 (printF l ins) = runA l ins := by
  unfold valO
  rw [prntO_back (by decide) (by decide) h h8 hi]; rfl
theorem printF_len {l : List Dw} {ins : List (List UInt8)} (h : okA l = true) (h8 : ins.length ≤ 8) (hi : ∀ x ∈ ins, x.length ≤ 256) : (printF l ins).length ≤ 2 ^ 20 := by
  have h1 := actB_ok h
  have h2 := insB_len 256 ins hi
  have h3 : ins.length * (6 + 256) ≤ 8 * (6 + 256) := Nat.mul_le_mul_right _ h8
  unfold printF
  simp only [List.length_append, be_length]; omega
section
variable {M : Store} {x0 x1 : Value} {ns : List Int} {ins : List (List UInt8)} {Q : Value → Store → Prop}
theorem own_main (h0 : LV iv Ty.int M x0 ns) (h1 : BL M x1 ins) (h8 : ins.length ≤ 8) (hi : ∀ x ∈ ins, x.length ≤ 256) (hQ : ∀ M, Q (tv true) M) : P_fettlelaw10_PrntOwn_4 x0 x1 M Q := by
  apply T_fettlelaw10_PrntOwn_4
  unfold S_fettlelaw10_PrntOwn_4
  refine (Act_okA h0).mono fun w M1 ⟨u1, l, hD, h6, hl1, hd, hok⟩ => ?_
  obtain ⟨hra, _, _⟩ := okA_all hok
  have hpl := printF_len hok h8 hi
  have hbk := prntO_back (ta := 4000) (tt := 256) (by decide) (by decide) hok h8 hi
  refine (PPrint_ok hD.sl (by omega) (fun d hd => by have := (right_bounds (hra d hd)).2.2.2.2; omega) (h1.up B_up u1) (by omega) (fun y hy => by have := hi y hy; omega)).mono fun p M2 ⟨u2, hp⟩ => ?_
  rw [cvBS_ok hp.by, OP_some]
  have u02 : Up M M2 := u1.trans u2
  refine (PParse_ok hp.by (by omega)).mono fun r M3 ⟨u3, hr⟩ => ?_
  rw [hbk] at hr
  obtain ⟨wl, wr, e, hDl, hN⟩ := hr
  subst e
  rw [(tp3b _ _ _).1, (tp3b _ _ _).2.1, (tp3b _ _ _).2.2, hN.ls.lenV, OP_some]
  simp only at hN hDl
  have hwk : NLs (Wk M2) Ty.sl_uint8 M2 M3 wr ins := by
    obtain ⟨vs, g1, g2⟩ := hN
    refine ⟨vs, g1, ?_⟩
    have : ∀ (vs : List Value) (xs : List (List UInt8)), Each (N M2 M3) vs xs → (∀ x ∈ xs, x.length ≤ 256) → Each (Wk M2 M3) vs xs := by
      intro vs
      induction vs with
      | nil => intro xs h _; cases xs with
        | nil => trivial
        | cons _ _ => exact h.elim
      | cons v vs ih => intro xs h hx; cases xs with
        | nil => exact h.elim
        | cons x xs => exact ⟨⟨x, h.1, by have := hx x (by simp); omega⟩, ih xs h.2 fun y hy => hx y (by simp [hy])⟩
    exact this vs ins g2 hi
  show P_fettlelaw10_PrntOwn_5 x1 p _ (tv true) wr (iv (ins.length : Int)) (iv ((0 : Nat) : Int)) M3 Q
  refine own_outer (M2 := M2) h8 (fun M4 u4 => ?_) ins.length 0 M3 rfl u3 hwk
  apply T_fettlelaw10_PrntOwn_7
  unfold S_fettlelaw10_PrntOwn_7
  refine (PValue_ok (Sl.up hp.by u4) (by omega)).mono fun r2 M5 ⟨u5, hr2⟩ => ?_
  rw [valO_print hok h8 hi] at hr2
  have last : ∀ M6, Up M2 M6 → P_fettlelaw10_PrntOwn_10 x1 p (sv (printF l ins)) (tv true) M6 Q := by
    intro M6 u6
    apply T_fettlelaw10_PrntOwn_10
    unfold S_fettlelaw10_PrntOwn_10
    have hp6 := Sl.up hp.by u6
    refine (PParse_ok hp6 (by omega)).mono fun r7 M7 ⟨u7, hr7⟩ => ?_
    rw [hbk] at hr7
    obtain ⟨wl7, wr7, e7, hDl7, hN7⟩ := hr7
    subst e7
    rw [(tp3b _ _ _).1, (tp3b _ _ _).2.1, (tp3b _ _ _).2.2, BR_bool, if_pos rfl, BR_bool, if_pos rfl, cvBS_ok (Sl.up hp6 u7), OP_some]
    show OP (binS .eql (sv (printF l ins)) (sv (printF l ins))) _
    rw [sv_eq, BR_dec, if_pos rfl]
    simp only at hN7
    refine (Same_ok (nls_bl hN7) (h1.up B_up ((u02.trans u6).trans u7)) (by omega) (by omega)).mono fun r8 M8 ⟨e8, e9⟩ => ?_
    subst e8; subst e9
    rw [BR_dec, if_pos rfl]
    exact awake10_ok ⟨rfl, hQ _⟩
  cases hrun : runA l ins with
  | none =>
    rw [hrun] at hr2
    have hr2 : r2 = .tuple #[.slice none 0 0, .bool false] := hr2
    subst hr2
    rw [(tp2b _ _).1, (tp2b _ _).2]
    show P_fettlelaw10_PrntOwn_9 x1 p _ (tv true) (.slice none 0 0) (iv ((0 : Nat) : Int)) (iv ((0 : Nat) : Int)) M5 Q
    exact own_value (M2 := M2) (n := 0) (by omega) last 0 0 M5 [] rfl (u4.trans u5) (Nw.nil _ _ _ _) rfl
  | some t =>
    rw [hrun] at hr2
    obtain ⟨wv, e2, hNv, htl⟩ := hr2
    subst e2
    rw [(tp2b _ _).1, (tp2b _ _).2, by_len hNv.by]
    exact own_value (M2 := M2) (n := t.length) (by omega) last t.length 0 M5 t rfl (u4.trans u5) (Nw.base hNv u4.n) rfl
theorem own_check (h0 : LV iv Ty.int M x0 ns) (h1 : BL M x1 ins) (h8 : ins.length ≤ 8) (hQ : ∀ M, Q (tv true) M) : ∀ (k i : Nat), k + i = ins.length → (∀ j (hj : j < i) (hl : j < ins.length), ins[j].length ≤ 256) → P_fettlelaw10_PrntOwn_2 x0 x1 x1 (iv (ins.length : Int)) (iv (i : Int)) M Q := by
  intro k
  induction k with
  | zero =>
    intro i hi hj
    apply T_fettlelaw10_PrntOwn_2
    unfold S_fettlelaw10_PrntOwn_2
    rw [lss_n, BR_dec, if_neg (by omega)]
    refine own_main h0 h1 h8 (fun x hx => ?_) hQ
    obtain ⟨j, hjl, rfl⟩ := List.getElem_of_mem hx
    exact hj j (by omega) hjl
  | succ k ih =>
    intro i hi hj
    have hil : i < ins.length := by omega
    apply T_fettlelaw10_PrntOwn_2
    unfold S_fettlelaw10_PrntOwn_2
    rw [lss_n, BR_dec, if_pos hil]
    apply T_fettlelaw10_PrntOwn_3
    unfold S_fettlelaw10_PrntOwn_3
    refine bl_ld h1 hil fun w hw => ?_
    rw [by_len hw, gtr_l 256 256 rfl, BR_dec]
    split
    · exact awake10_ok ⟨rfl, hQ _⟩
    · rename_i hle
      rw [add1_n _ (by omega)]
      refine ih (i + 1) (by omega) fun j hj' hl => ?_
      by_cases e : j = i
      · subst e; omega
      · exact hj j (by omega) hl
end
theorem PrntOwn_ok {M : Store} {x0 x1 : Value} {ns : List Int} {ins : List (List UInt8)} (h0 : LV iv Ty.int M x0 ns) (h1 : BL M x1 ins) : R F.fettlelaw10_PrntOwn #[x0, x1] M fun v M' => v = tv true := by
  refine R.cps fun Q hQ => ?_
  have hQ : ∀ M, Q (tv true) M := fun M => hQ _ _ rfl
  apply T_fettlelaw10_PrntOwn
  unfold S_fettlelaw10_PrntOwn
  have go : ∀ (y : Value) (xs : List (List UInt8)), BL M y xs → xs.length ≤ 8 → P_fettlelaw10_PrntOwn_1 x0 y M Q := by
    intro y xs hy h8
    apply T_fettlelaw10_PrntOwn_1
    unfold S_fettlelaw10_PrntOwn_1
    rw [hy.lenV, OP_some]
    exact own_check h0 hy h8 hQ xs.length 0 rfl fun j hj => by omega
  rw [h1.lenV, OP_some]
  show OP (binI .gtr (iv (ins.length : Int)) (.int .i64 8)) _
  rw [gtr_l 8 8 rfl, BR_dec]
  split
  · obtain ⟨v', e, hL⟩ := Ls.cut h1 (lo := none) (hi := some (iv ((8 : Nat) : Int))) (a := 0) (r := 8) (ab_some (by omega) .i64) rfl (by omega) (by omega)
    have e : slV 1 Ty.sl_uint8 x1 none (some (.int .i64 8)) M = some v' := e
    rw [e, OP_some]
    exact go v' _ hL (by simp; omega)
  · exact go x1 ins h1 (by omega)
end Go.G
