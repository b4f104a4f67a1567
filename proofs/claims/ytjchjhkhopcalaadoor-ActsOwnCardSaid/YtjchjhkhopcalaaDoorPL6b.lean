/- ActsOwn: what comes of inputs is one's own: turned, they are not. -/
import Derived.Test.YtjchjhkhopcalaaDoorPR6d
import Derived.Test.YtjchjhkhopcalaaDoorPL6
import Derived.Test.YtjchjhkhopcalaaDoorPGF
namespace Go.G
open Go.Ab Go.Proofs Go.RowKit
set_option linter.unusedVariables false
set_option linter.unusedSimpArgs false
set_option maxRecDepth 100000

theorem wrap_bv (z : Int) : Value.int .u8 (IntKind.wrap .u8 z) = bv (u8N z) := by
  have := cv_u8N z (fun v => v = bv (u8N z))
  rw [e_cvI] at this
  exact this.mpr rfl
theorem bv_add1 (c : UInt8) (K : Value → Prop) : OP (binI .add (bv c) (.int .u8 1)) K = K (bv (u8N ((c.toNat : Int) + 1))) := by
  show OP (binI .add (.int .u8 (c.toNat : Int)) (.int .u8 1)) K = _
  rw [e_add, wrap_bv]
theorem e_lit4s (z : Value) (a1 a2 a3 a4 : Option Addr) (n1 c1 n2 c2 n3 c3 n4 c4 : Nat) (K : List Value → Prop) : OP (bldL z 1 4 [(0, .slice a1 n1 c1), (1, .slice a2 n2 c2), (2, .slice a3 n3 c3), (3, .slice a4 n4 c4)]) K = K [.slice a1 n1 c1, .slice a2 n2 c2, .slice a3 n3 c3, .slice a4 n4 c4] := by kernel_rfl
theorem DS_up (M M' : Store) (v : Value) (x : List Dw) (h : DS M v x) (k : Up M M') : DS M' v x := Sl.up h k
abbrev AL (M : Store) (v : Value) (acs : List (List Dw)) : Prop := Ls DS Ty.sl_api_Do M v acs
theorem al_ld {M : Store} {v : Value} {ls : List (List Dw)} (h : AL M v ls) {i : Nat} (hi : i < ls.length) {K : Value → Prop} (hK : ∀ w, DS M w ls[i] → K w) : OP (ixA 1 v (iv (i : Int))) fun p => OP (ld 1 false p M) K := by
  obtain ⟨p, w, e1, e2, e3⟩ := h.at hi .i64
  show OP (ixA 1 v (.int .i64 (i : Int))) _
  rw [e1, OP_some, e2, OP_some]
  exact hK w e3
def runOk (l : List Dw) : Prop := l.length ≤ 20 ∧ ∀ d ∈ l, 0 ≤ d.2.1 ∧ d.2.2.length ≤ 2 ^ 10

section
variable {x1 x5 x44 : Value} {ins : List (List UInt8)} {acs : List (List Dw)} {M0 : Store} {Q : Value → Store → Prop}
/-- All are acs they were. -/
theorem own_same (hi : BL M0 x1 ins) (h5 : LV sv Ty.string M0 x5 ins) (hb : ins.length ≤ 8) {M : Store} (hu : Up M0 M) {i : Nat} (hK : P_fettlelaw6_ActsOwn_11 x1 x5 x44 (iv (acs.length : Int)) (iv (i : Int)) M Q) :
    ∀ (k j : Nat), k + j = ins.length → P_fettlelaw6_ActsOwn_9 x1 x5 x44 (iv (acs.length : Int)) (iv (i : Int)) x1 (iv (ins.length : Int)) (iv (j : Int)) M Q := by
  intro k
  induction k with
  | zero =>
    intro j hj
    apply T_fettlelaw6_ActsOwn_9
    unfold S_fettlelaw6_ActsOwn_9
    rw [lss_n, BR_dec, if_neg (by omega)]
    exact hK
  | succ k ih =>
    intro j hj
    apply T_fettlelaw6_ActsOwn_9
    unfold S_fettlelaw6_ActsOwn_9
    have hjl : j < ins.length := by omega
    rw [lss_n, BR_dec, if_pos hjl]
    apply T_fettlelaw6_ActsOwn_10
    unfold S_fettlelaw6_ActsOwn_10
    refine bl_ld (hi.up B_up hu) hjl fun w hw => ?_
    rw [cvBS_ok hw, OP_some]
    obtain ⟨p, e1, e2⟩ := (h5.up hu).at hjl .i64
    show OP (ixA 1 x5 (.int .i64 (j : Int))) _
    rw [e1, OP_some, e2, OP_some]
    show OP (binS .neq (sv ins[j]) (sv ins[j])) _
    rw [sv_ne, BR_dec, if_neg (by simp), add1_n _ (by omega)]
    exact ih (j + 1) (by omega)
/-- What came of it is turned, byte by byte. -/
theorem own_turn {m : Nat} {x10 : Value} (hm : m ≤ 256) {i : Nat} (hK : ∀ M t, Up M0 M → N M0 M x10 t → t.length = m → P_fettlelaw6_ActsOwn_8 x1 x5 x10 x44 (iv (acs.length : Int)) (iv (i : Int)) M Q) :
    ∀ (k j : Nat) (M : Store) (t : List UInt8), k + j = m → Up M0 M → N M0 M x10 t → t.length = m → P_fettlelaw6_ActsOwn_7 x1 x5 x10 x44 (iv (acs.length : Int)) (iv (i : Int)) (iv (m : Int)) (iv (j : Int)) M Q := by
  intro k
  induction k with
  | zero =>
    intro j M t hj hu hN ht
    apply T_fettlelaw6_ActsOwn_7
    unfold S_fettlelaw6_ActsOwn_7
    rw [lss_n, BR_dec, if_neg (by omega)]
    exact hK M t hu hN ht
  | succ k ih =>
    intro j M t hj hu hN ht
    apply T_fettlelaw6_ActsOwn_7
    unfold S_fettlelaw6_ActsOwn_7
    have hjl : j < t.length := by omega
    rw [lss_n, BR_dec, if_pos (by omega), by_ld hN.by hjl, bv_add1]
    refine b_turn hN hjl _ fun M' b _ hb _ _ c1 hN' => ?_
    rw [add1_n _ (by omega)]
    exact ih (j + 1) M' _ (by omega) (hu.ch c1 (by simpa using hb)) hN' (by rw [List.length_set]; exact ht)
theorem own_loop (hi : BL M0 x1 ins) (h5 : LV sv Ty.string M0 x5 ins) (hb : ins.length ≤ 8) (his : ∀ l ∈ ins, l.length ≤ 256) (h44 : AL M0 x44 acs) (has : acs.length ≤ 8) (hr : ∀ a ∈ acs, runOk a) (hQ : ∀ M, Q (tv true) M) :
    ∀ (k i : Nat) (M : Store), k + i = acs.length → Up M0 M → P_fettlelaw6_ActsOwn_4 x1 x5 x44 (iv (acs.length : Int)) (iv (i : Int)) M Q := by
  intro k
  induction k with
  | zero =>
    intro i M hk hu
    apply T_fettlelaw6_ActsOwn_4
    unfold S_fettlelaw6_ActsOwn_4
    rw [lss_n, BR_dec, if_neg (by omega)]
    apply T_fettlelaw6_ActsOwn_6
    unfold S_fettlelaw6_ActsOwn_6
    exact awake6_ok ⟨rfl, hQ _⟩
  | succ k ih =>
    intro i M hk hu
    apply T_fettlelaw6_ActsOwn_4
    unfold S_fettlelaw6_ActsOwn_4
    have hil : i < acs.length := by omega
    rw [lss_n, BR_dec, if_pos hil]
    apply T_fettlelaw6_ActsOwn_5
    unfold S_fettlelaw6_ActsOwn_5
    refine al_ld (h44.up DS_up hu) hil fun a ha => ?_
    have hra := hr _ (List.getElem_mem hil)
    refine (Run_ok ha (by have := hra.1; omega) hra.2 (hi.up B_up hu) (by omega) (fun l hl => by have := his l hl; omega)).mono fun r M1 ⟨u1, w, ok, t, hr1, hN, ht⟩ => ?_
    subst hr1
    rw [(tp2b w ok).1, (tp2b w ok).2, by_len hN.by]
    refine own_turn (M0 := M0) (m := t.length) ht (fun M2 t2 hu2 hN2 ht2 => ?_) t.length 0 M1 t rfl (hu.trans u1) (Nw.base hN hu.n) rfl
    apply T_fettlelaw6_ActsOwn_8
    unfold S_fettlelaw6_ActsOwn_8
    rw [show bldL (.int .u8 0) 1 3 [(0, (.int .u8 1)), (1, (.int .u8 2)), (2, (.int .u8 3))] = some [bv 1, bv 2, bv 3] from by kernel_rfl, OP_some]
    refine s_lit (s := 1) (n := 3) rfl fun M3 u3 h3 o3 n3 => ?_
    have hx3 : By Ty.uint8 M3 (.slice (some ⟨M2.n, 0, none⟩) 3 3) [1, 2, 3] := h3.sl
    refine app_by (hu2.trans u3) (Nw.up hN2 u3) hx3 (by simp; omega) fun v4 M4 hu4 hN4 _ => ?_
    rw [(hi.up B_up hu4).lenV, OP_some]
    refine own_same hi h5 hb hu4 ?_ ins.length 0 rfl
    apply T_fettlelaw6_ActsOwn_11
    unfold S_fettlelaw6_ActsOwn_11
    rw [add1_n _ (by omega)]
    exact ih (i + 1) M4 (by omega) hu4
end
theorem own_acts {x0 x1 x5 : Value} {M : Store} {zs : List Int} {ins : List (List UInt8)} {Q : Value → Store → Prop} (hz : LV iv Ty.int M x0 zs) (hi : BL M x1 ins) (h5 : LV sv Ty.string M x5 ins) (hb : ins.length ≤ 8) (his : ∀ l ∈ ins, l.length ≤ 256) (hQ : ∀ M, Q (tv true) M) :
    P_fettlelaw6_ActsOwn_3 x0 x1 x5 M Q := by
  apply T_fettlelaw6_ActsOwn_3
  unfold S_fettlelaw6_ActsOwn_3
  refine (Act_ok hz).mono fun v M1 ⟨u1, l, hv, l6, l1, ld⟩ => ?_
  rw [show bldS #[(.int .i64 0), (.int .i64 0), (.string ⟨#[]⟩)] [(0, 1), (1, 1), (2, 1)] [(0, (.int .i64 2))] = some (dv (2, 0, [])) from bs_do 2, OP_some, bl_do, OP_some]
  refine s_lit (s := 3) (n := 1) rfl fun M2 u2 h2 o2 n2 => ?_
  rw [show bldS #[(.int .i64 0), (.int .i64 0), (.string ⟨#[]⟩)] [(0, 1), (1, 1), (2, 1)] [(0, (.int .i64 3))] = some (dv (3, 0, [])) from bs_do 3, OP_some, bl_do, OP_some]
  refine s_lit (s := 3) (n := 1) rfl fun M3 u3 h3 o3 n3 => ?_
  rw [OP_some]
  rw [show bldS #[(.int .i64 0), (.int .i64 0), (.string ⟨#[]⟩)] [(0, 1), (1, 1), (2, 1)] [(0, (.int .i64 7)), (1, (.int .i64 99))] = some (dv (7, 99, [])) from by kernel_rfl, OP_some]
  rw [show bldL (.agg #[(.int .i64 0), (.int .i64 0), (.string ⟨#[]⟩)]) 3 2 [(0, dv (2, 0, [])), (1, dv (7, 99, []))] = some ([(2, 0, []), (7, 99, [])].flatMap dcs) from by kernel_rfl, OP_some]
  refine s_lit (s := 3) (n := 2) rfl fun M4 u4 h4 o4 n4 => ?_
  have hv4 : DS M4 v l := Sl.up hv.sl ((u2.trans u3).trans u4)
  have hd2 : DS M4 (.slice (some ⟨M1.n, 0, none⟩) 1 1) [(2, 0, [])] := Sl.up h2.sl (u3.trans u4)
  have hd3 : DS M4 (.slice (some ⟨M2.n, 0, none⟩) 1 1) [(3, 0, [])] := Sl.up h3.sl u4
  have hd4 : DS M4 (.slice (some ⟨M3.n, 0, none⟩) 2 2) [(2, 0, []), (7, 99, [])] := h4.sl
  obtain ⟨a, c, rfl⟩ := hv4.slice
  rw [e_lit4s]
  refine s_lit (s := 1) (n := 4) rfl fun M5 u5 h5' o5 n5 => ?_
  have u05 : Up M M5 := (((u1.trans u2).trans u3).trans u4).trans u5
  have hA : AL M5 (.slice (some ⟨M4.n, 0, none⟩) 4 4) [l, [(2, 0, [])], [(3, 0, [])], [(2, 0, []), (7, 99, [])]] := ⟨_, h5'.sl, Sl.up hv4 u5, Sl.up hd2 u5, Sl.up hd3 u5, Sl.up hd4 u5, trivial⟩
  rw [hA.lenV, OP_some]
  refine own_loop (M0 := M5) (hi.up B_up u05) (h5.up u05) hb his hA (by simp) (fun a ha => ?_) hQ 4 0 M5 rfl (Ch.refl _ _)
  simp only [List.mem_cons, List.not_mem_nil, or_false] at ha
  rcases ha with rfl | rfl | rfl | rfl
  · exact ⟨by omega, fun d hd => ⟨(ld d hd).2.2.1, by have := (ld d hd).2.2.2.2; omega⟩⟩
  · exact ⟨by simp, fun d hd => by simp at hd; subst hd; simp⟩
  · exact ⟨by simp, fun d hd => by simp at hd; subst hd; simp⟩
  · exact ⟨by simp, fun d hd => by simp at hd; rcases hd with rfl | rfl <;> simp⟩
theorem own_was {x0 x1 : Value} {M0 : Store} {zs : List Int} {ins : List (List UInt8)} {Q : Value → Store → Prop} (hz : LV iv Ty.int M0 x0 zs) (hi : BL M0 x1 ins) (hb : ins.length ≤ 8) (hQ : ∀ M, Q (tv true) M) :
    ∀ (k i : Nat) (x5 : Value) (M : Store), k + i = ins.length → Up M0 M → NV sv Ty.string M0 M x5 (ins.take i) → (∀ l ∈ ins.take i, l.length ≤ 256) → P_fettlelaw6_ActsOwn_1 x0 x1 x5 x1 (iv (ins.length : Int)) (iv (i : Int)) M Q := by
  intro k
  induction k with
  | zero =>
    intro i x5 M hk hu h5 hl
    apply T_fettlelaw6_ActsOwn_1
    unfold S_fettlelaw6_ActsOwn_1
    rw [lss_n, BR_dec, if_neg (by omega)]
    rw [List.take_of_length_le (by omega)] at h5 hl
    exact own_acts (hz.up hu) (hi.up B_up hu) h5.lv hb hl hQ
  | succ k ih =>
    intro i x5 M hk hu h5 hl
    apply T_fettlelaw6_ActsOwn_1
    unfold S_fettlelaw6_ActsOwn_1
    have hil : i < ins.length := by omega
    rw [lss_n, BR_dec, if_pos hil]
    apply T_fettlelaw6_ActsOwn_2
    unfold S_fettlelaw6_ActsOwn_2
    refine bl_ld (hi.up B_up hu) hil fun w hw => ?_
    rw [by_len hw, gtr_l 256 256 rfl, BR_dec]
    split
    · exact awake6_ok ⟨rfl, hQ _⟩
    · rename_i h256
      rw [cvBS_ok hw, OP_some]
      rw [show bldL (.string ⟨#[]⟩) 1 1 [(0, Value.string ⟨ins[i].toArray⟩)] = some [sv ins[i]] from by kernel_rfl, OP_some, LT_eq]
      refine NV.app1 (Mb := M0) hu (Nat.le_refl _) hu.n h5 ins[i] rfl (by rw [List.length_take]; omega) fun v' M' hu' hN' _ _ => ?_
      rw [add1_n _ (by omega)]
      rw [← List.take_succ_eq_append_getElem hil] at hN'
      refine ih (i + 1) v' M' (by omega) hu' hN' fun l hl' => ?_
      rw [List.take_succ_eq_append_getElem hil] at hl'
      rcases List.mem_append.1 hl' with h | h
      · exact hl l h
      · have : l = ins[i] := by simpa using h
        subst this; omega
theorem ActsOwn_ok {M : Store} {x0 x1 : Value} {zs : List Int} {ins : List (List UInt8)} (hz : LV iv Ty.int M x0 zs) (hi : BL M x1 ins) : R F.fettlelaw6_ActsOwn #[x0, x1] M fun v M' => v = tv true := by
  refine R.cps fun Q hQ => ?_
  apply T_fettlelaw6_ActsOwn
  unfold S_fettlelaw6_ActsOwn
  rw [hi.lenV, OP_some]
  show OP (binI .gtr (iv (ins.length : Int)) _) _
  rw [gtr_l 8 8 rfl, BR_dec]
  split
  · exact awake6_ok ⟨rfl, hQ _ _ rfl⟩
  · rw [OP_some]
    exact own_was hz hi (by omega) (fun M => hQ _ M rfl) ins.length 0 _ M rfl (Ch.refl _ _) NV.nil (by simp)
end Go.G
