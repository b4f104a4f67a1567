/- HistTells: what was when, as the document says. -/
import Derived.Test.YtpacolplhcfamaaPY25c
import Derived.Test.YtpacolplhcfamaaPGHt
import Derived.Test.YtpacolplhcfamaaPY25x
namespace Go.G
open Go.Ab Go.Proofs Go.RowKit
set_option linter.unusedVariables false
set_option linter.unusedSimpArgs false
set_option maxRecDepth 100000

abbrev NQM (M0 M : Store) (v : Value) (ds : List DQ) : Prop := NK 4 qcs Ty.api_Done M0 M v ds
theorem bl_q (p : DQ) : bldL (.agg #[(.string ⟨#[]⟩), (.int .i64 0), (.int .i64 0), (.slice none 0 0)]) 4 1 [(0, .agg (qcs p).toArray)] = some (qcs p) := by obtain ⟨⟨a, b, c, d⟩, x, y, z⟩ := p; kernel_rfl
theorem bl_q2 (p q : DQ) : bldL (.agg #[(.string ⟨#[]⟩), (.int .i64 0), (.int .i64 0), (.slice none 0 0)]) 4 2 [(0, .agg (qcs p).toArray), (1, .agg (qcs q).toArray)] = some (qcs p ++ qcs q) := by obtain ⟨⟨a, b, c, d⟩, x, y, z⟩ := p; obtain ⟨⟨a', b', c', d'⟩, x', y', z'⟩ := q; kernel_rfl
theorem bl_q0 : bldL (.agg #[(.string ⟨#[]⟩), (.int .i64 0), (.int .i64 0), (.slice none 0 0)]) 4 0 [] = some [] := by kernel_rfl
theorem bs_q (a : Int) (t : List UInt8) (i : Int) (x : Tr3) : bldS #[(.string ⟨#[]⟩), (.int .i64 0), (.int .i64 0), (.slice none 0 0)] [(0, 1), (1, 1), (2, 1), (3, 1)] [(0, sv t), (1, iv a), (2, iv i), (3, slT x)] = some (.agg (qcs ((t, a, i, []), x)).toArray) := by obtain ⟨x1, x2, x3⟩ := x; kernel_rfl
/-- Others behind: the list lies in a new box, what lay in other boxes stays. -/
theorem app_q {M0 M : Store} {x : Value} {ds : List DQ} (hu : Up M0 M) (hN : NQM M0 M x ds) (hB : QB M ds) {w : Value} {ys : List DQ} (hw : LK 4 qcs Ty.api_Done M w ys) (hy : QB M ys) (hpos : 0 < ys.length) (hz : ds.length + ys.length ≤ 1000) {K : Value → Store → Prop}
    (hK : ∀ v' M', Up M0 M' → NQM M0 M' v' (ds ++ ys) → QB M' (ds ++ ys) → Ch (kl x) M M' → bx v' = some M.n → K v' M') : OP2 (appV 4 Ty.api_Done x w M) K := by
  have hN' := hN
  obtain ⟨v', M', e1, hu', hNn, hn, hf, hc⟩ := Nw.appV hu hN hw (by omega)
  have hbx : bx v' = some M.n := by
    obtain ⟨a, c, rfl⟩ := hN'.sl.slice
    exact (appV_box hw hpos e1).1
  rw [e1, OP2_some]
  have hk := Nw.keepE hN' hc
  refine hK v' M' hu' ?_ (fun q hq => ?_) hc hbx
  · show Nw 4 _ _ _ _ _ _
    rw [List.length_append, List.flatMap_append]
    exact hNn
  · rcases List.mem_append.1 hq with hq | hq
    · exact Sl.keep (hB q hq) (by decide) hk
    · exact Sl.keep (hy q hq) (by decide) hk
/-- Two lists that lie apart. -/
def Apt (x y : Value) : Prop := ∀ b, bx x = some b → bx y = some b → False
theorem kl_bx {v : Value} {b : Nat} (h : b ∈ kl v) : bx v = some b := bx_of_kil (mem_kl.1 h)
theorem nq_fr {M0 M M' : Store} {x y : Value} {ds : List DQ} (hy : NQM M0 M y ds) (ha : Apt x y) (hc : Ch (kl x) M M') : NQM M0 M' y ds := Nw.fr hy hc fun b hb hm => ha b (kl_bx hm) hb
theorem nq_lt {M0 M : Store} {y : Value} {ds : List DQ} (hy : NQM M0 M y ds) {b : Nat} (hb : bx y = some b) (hpos : 0 < ds.length) : b < M.n := by
  obtain ⟨h1, ⟨h0, _⟩ | ⟨b', cells, c, rfl, h2, h3, h4⟩⟩ := hy
  · omega
  · have : b' = b := by simpa [bx] using hb
    subst this; exact M.lt_of_get h3
/-- A list: none, or in a box that is there. -/
def Bxd (M : Store) (x : Value) : Prop := ∀ b, bx x = some b → b < M.n
theorem Bxd.up {M M' : Store} {x : Value} (h : Bxd M x) (k : M.n ≤ M'.n) : Bxd M' x := fun b hb => by have := h b hb; omega
section
variable {M0 : Store} {x1 x7 : Value} {ps : List CP} {picks : List Int} {Q : Value → Store → Prop}
/-- What the law's loops keep of the two traces. -/
structure Trs (M0 M : Store) (x10 x11 : Value) (ds es : List DQ) : Prop where
  d : NQM M0 M x10 ds
  e : NQM M0 M x11 es
  db : QB M ds
  eb : QB M es
  ap : Apt x10 x11
  dx : Bxd M x10
  ex : Bxd M x11
theorem Trs.up {M0 M M' : Store} {x10 x11 : Value} {ds es : List DQ} (h : Trs M0 M x10 x11 ds es) (k : Up M M') : Trs M0 M' x10 x11 ds es := ⟨Nw.up h.d k, Nw.up h.e k, h.db.up k, h.eb.up k, h.ap, h.dx.up k.n, h.ex.up k.n⟩
theorem Apt.symm {x y : Value} (h : Apt x y) : Apt y x := fun b h1 h2 => h b h2 h1
theorem Trs.appD {M : Store} {x10 x11 : Value} {ds es : List DQ} (h : Trs M0 M x10 x11 ds es) (hu : Up M0 M) {w : Value} {ys : List DQ} (hw : LK 4 qcs Ty.api_Done M w ys) (hy : QB M ys) (hpos : 0 < ys.length) (hz : ds.length + ys.length ≤ 1000) {K : Value → Store → Prop}
    (hK : ∀ v' M', Up M0 M' → Trs M0 M' v' x11 (ds ++ ys) es → K v' M') : OP2 (appV 4 Ty.api_Done x10 w M) K := by
  refine app_q hu h.d h.db hw hy hpos hz fun v' M' hu' hN hB hc hbx => ?_
  have hk := Nw.keepE h.d hc
  refine hK v' M' hu' ⟨hN, nq_fr h.e h.ap hc, hB, fun q hq => Sl.keep (h.eb q hq) (by decide) hk, fun b h1 h2 => ?_, fun b hb => ?_, h.ex.up hc.n⟩
  · rw [hbx] at h1; injection h1 with h1
    have := h.ex b h2
    omega
  · exact nq_lt hN hb (by simp; omega)
theorem Trs.appE {M : Store} {x10 x11 : Value} {ds es : List DQ} (h : Trs M0 M x10 x11 ds es) (hu : Up M0 M) {w : Value} {ys : List DQ} (hw : LK 4 qcs Ty.api_Done M w ys) (hy : QB M ys) (hpos : 0 < ys.length) (hz : es.length + ys.length ≤ 1000) {K : Value → Store → Prop}
    (hK : ∀ v' M', Up M0 M' → Trs M0 M' x10 v' ds (es ++ ys) → K v' M') : OP2 (appV 4 Ty.api_Done x11 w M) K := by
  refine app_q hu h.e h.eb hw hy hpos hz fun v' M' hu' hN hB hc hbx => ?_
  have hk := Nw.keepE h.e hc
  refine hK v' M' hu' ⟨nq_fr h.d h.ap.symm hc, hN, fun q hq => Sl.keep (h.db q hq) (by decide) hk, hB, fun b h1 h2 => ?_, h.dx.up hc.n, fun b hb => ?_⟩
  · rw [hbx] at h2; injection h2 with h2
    have := h.dx b h1
    omega
  · exact nq_lt hN hb (by simp; omega)

/-! ## all compared -/
abbrev QLs (M : Store) (v : Value) (l : List (List DQ)) : Prop := Ls QL Ty.sl_api_Done M v l
abbrev CLs (M : Store) (v : Value) (l : List (List CP)) : Prop := Ls CL Ty.sl_api_Commit M v l
theorem QL_up (M M' : Store) (v : Value) (x : List DQ) (h : QL M v x) (k : Up M M') : QL M' v x := h.up k
theorem CL_up (M M' : Store) (v : Value) (x : List CP) (h : CL M v x) (k : Up M M') : CL M' v x := h.up k
theorem ls_ld {α : Type} {E : Store → Value → α → Prop} {e : TypeId} {M : Store} {v : Value} {xs : List α} (h : Ls E e M v xs) {i : Nat} (hi : i < xs.length) {K : Value → Prop} (hK : ∀ w, E M w xs[i] → K w) : OP (ixA 1 v (iv (i : Int))) fun p => OP (ld 1 false p M) K := by
  obtain ⟨p, w, e1, e2, e3⟩ := h.at hi .i64
  show OP (ixA 1 v (.int .i64 (i : Int))) _
  rw [e1, OP_some, e2, OP_some]
  exact hK w e3
/-- Bounds. -/
def bndC (ps : List CP) : Prop := ps.length ≤ 1000 ∧ ∀ p ∈ ps, p.1.2.2.1.length ≤ 2 ^ 22
theorem tells_inner {x19 x149 x161 : Value} {i : Nat} {n150 : Int} {ds : List DQ} {cs : List (List CP)} (hd : QL M0 x19 ds) (hdl : ds.length ≤ 1000) (hc : CLs M0 x161 cs) (hcl : cs.length ≤ 10) (hcb : ∀ c ∈ cs, bndC c) (hK : ∀ M, Up M0 M → P_fettlelaw25_HistTells_16 x7 x149 (iv n150) (iv (i : Int)) M Q) :
    ∀ (k j : Nat) (M : Store), k + j = cs.length → Up M0 M → P_fettlelaw25_HistTells_13 x7 x19 x149 (iv n150) (iv (i : Int)) x161 (iv (cs.length : Int)) (iv (j : Int)) M Q := by
  intro k
  induction k with
  | zero =>
    intro j M hj hu
    apply T_fettlelaw25_HistTells_13
    unfold S_fettlelaw25_HistTells_13
    rw [lss_n, BR_dec, if_neg (by omega)]
    exact hK M hu
  | succ k ih =>
    intro j M hj hu
    have hjl : j < cs.length := by omega
    apply T_fettlelaw25_HistTells_13
    unfold S_fettlelaw25_HistTells_13
    rw [lss_n, BR_dec, if_pos hjl]
    apply T_fettlelaw25_HistTells_15
    unfold S_fettlelaw25_HistTells_15
    refine ls_ld (hc.up CL_up hu) hjl fun w hw => ?_
    obtain ⟨b1, b2⟩ := hcb _ (List.getElem_mem hjl)
    refine (Within_ok (hd.up hu) hw (by omega) (by omega) b2).mono fun r1 M1 ⟨u1, e1⟩ => ?_
    subst e1
    refine (RWithin_ok (hd.up (hu.trans u1)) (hw.up u1) (by omega) (by omega) b2).mono fun r2 M2 ⟨u2, e2⟩ => ?_
    subst e2
    show OP (abin Try.prog false .neq Ty.bool (tv _) (tv _)) _
    rw [bool_ne', BR_bool, if_neg (by simp), add1_n _ (by omega)]
    exact ih (j + 1) M2 (by omega) ((hu.trans u1).trans u2)
theorem e_lit3t (z : Value) (a1 a2 a3 : Option Addr) (n1 c1 n2 c2 n3 c3 : Nat) (K : List Value → Prop) : OP (bldL z 1 3 [(0, .slice a1 n1 c1), (1, .slice a2 n2 c2), (2, .slice a3 n3 c3)]) K = K [.slice a1 n1 c1, .slice a2 n2 c2, .slice a3 n3 c3] := by kernel_rfl
theorem e_lit4q (z : Value) (a1 a2 a3 a4 : Option Addr) (n1 c1 n2 c2 n3 c3 n4 c4 : Nat) (K : List Value → Prop) : OP (bldL z 1 4 [(0, .slice a1 n1 c1), (1, .slice a2 n2 c2), (2, .slice a3 n3 c3), (3, .slice a4 n4 c4)]) K = K [.slice a1 n1 c1, .slice a2 n2 c2, .slice a3 n3 c3, .slice a4 n4 c4] := by kernel_rfl
theorem e_quo2 (n : Nat) (hn : n < 2 ^ 62) (K : Value → Prop) : OP (binI .quo (iv (n : Int)) (.int .i64 2)) K = K (iv ((n / 2 : Nat) : Int)) := by
  have h : binI .quo (.int .i64 (n : Int)) (.int .i64 2) = if (2 : Int) = 0 then none else some (.int .i64 (IntKind.wrap .i64 ((n : Int).tdiv 2))) := rfl
  show OP (binI .quo (.int .i64 (n : Int)) (.int .i64 2)) K = _
  rw [h, if_neg (by decide), OP_some, Int.tdiv_eq_ediv_of_nonneg (by omega)]
  have : (n : Int) / 2 = ((n / 2 : Nat) : Int) := by omega
  rw [this, w64 (by omega) (by omega)]
theorem ql_sl {M : Store} {v : Value} {ds : List DQ} (h : QL M v ds) : ∃ a c, v = .slice a ds.length c := h.1.slice
theorem cl_sl {M : Store} {v : Value} {ps : List CP} (h : CL M v ps) : ∃ a c, v = .slice a ps.length c := h.1.slice
theorem cl_to {M : Store} {v : Value} {ps : List CP} (h : CL M v ps) {n : Nat} (hn : n ≤ ps.length) : ∃ v', slV 4 Ty.api_Commit v none (some (iv (n : Int))) M = some v' ∧ CL M v' (ps.take n) := by
  obtain ⟨v', e, hL⟩ := LK.cut ccs_len h.1 (lo := none) (hi := some (iv (n : Int))) (a := 0) (r := n) (ab_some hn .i64) rfl hn (Nat.zero_le _)
  rw [List.drop_zero] at hL
  exact ⟨v', e, hL, fun p hp => h.2 p (List.mem_of_mem_take hp)⟩
theorem tells_outer {x149 : Value} {dss : List (List DQ)} (hd : QLs M0 x149 dss) (hdl : dss.length ≤ 10) (hdb : ∀ d ∈ dss, d.length ≤ 1000) (h7 : CL M0 x7 ps) (hb : bndC ps) (hK : ∀ M, Up M0 M → P_fettlelaw25_HistTells_11 x7 M Q) :
    ∀ (k i : Nat) (M : Store), k + i = dss.length → Up M0 M → P_fettlelaw25_HistTells_8 x7 x149 (iv (dss.length : Int)) (iv (i : Int)) M Q := by
  intro k
  induction k with
  | zero =>
    intro i M hi hu
    apply T_fettlelaw25_HistTells_8
    unfold S_fettlelaw25_HistTells_8
    rw [lss_n, BR_dec, if_neg (by omega)]
    exact hK M hu
  | succ k ih =>
    intro i M hi hu
    have hil : i < dss.length := by omega
    apply T_fettlelaw25_HistTells_8
    unfold S_fettlelaw25_HistTells_8
    rw [lss_n, BR_dec, if_pos hil]
    apply T_fettlelaw25_HistTells_10
    unfold S_fettlelaw25_HistTells_10
    refine ls_ld (hd.up QL_up hu) hil fun w hw => ?_
    have h7' := h7.up hu
    rw [LK.len h7'.1, OP_some]
    show OP (binI .quo (iv (ps.length : Int)) (.int .i64 2)) _
    have hpl := hb.1
    rw [e_quo2 _ (by omega)]
    obtain ⟨v', e, hc⟩ := cl_to h7' (n := ps.length / 2) (by omega)
    rw [e, OP_some]
    obtain ⟨a1, c1, rfl⟩ := cl_sl h7'
    obtain ⟨a2, c2, rfl⟩ := cl_sl hc
    rw [e_lit3t]
    refine s_lit (s := 1) (n := 3) rfl fun M1 u1 g1 _ _ => ?_
    have hL : CLs M1 (.slice (some ⟨M.n, 0, none⟩) 3 3) [ps, ps.take (ps.length / 2), []] := ⟨_, g1.sl, h7'.up u1, hc.up u1, ⟨LK.nil, fun p hp => by cases hp⟩, trivial⟩
    rw [hL.lenV, OP_some]
    refine tells_inner (M0 := M1) (i := i) (n150 := dss.length) (hw.up u1) (hdb _ (List.getElem_mem hil)) hL (by simp) (fun c hc => ?_) (fun M2 u2 => ?_) 3 0 M1 rfl (Ch.refl _ _)
    · simp only [List.mem_cons, List.not_mem_nil, or_false] at hc
      rcases hc with rfl | rfl | rfl
      · exact hb
      · exact ⟨by rw [List.length_take]; omega, fun p hp => hb.2 p (List.mem_of_mem_take hp)⟩
      · exact ⟨by simp, fun p hp => by cases hp⟩
    · apply T_fettlelaw25_HistTells_16
      unfold S_fettlelaw25_HistTells_16
      rw [add1_n _ (by omega)]
      exact ih (i + 1) M2 (by omega) ((hu.trans u1).trans u2)
theorem bl_s3 : bldL (.string ⟨#[]⟩) 1 3 [(0, (.string ⟨#[97]⟩)), (1, (.string ⟨#[98]⟩)), (2, (.string ⟨#[99]⟩))] = some ([[97], [98], [99]].map sv) := by kernel_rfl
theorem tells_lasts {x182 : Value} {i : Nat} (hi : i ≤ ps.length) (h7 : CL M0 x7 ps) (hb : bndC ps) (h182 : LV sv Ty.string M0 x182 [[97], [98], [99]]) (hK : ∀ M, Up M0 M → P_fettlelaw25_HistTells_21 x7 (iv (i : Int)) M Q) :
    ∀ (k j : Nat) (M : Store), k + j = 3 → Up M0 M → P_fettlelaw25_HistTells_19 x7 (iv (i : Int)) x182 (iv ((3 : Nat) : Int)) (iv (j : Int)) M Q := by
  intro k
  induction k with
  | zero =>
    intro j M hj hu
    apply T_fettlelaw25_HistTells_19
    unfold S_fettlelaw25_HistTells_19
    rw [lss_n, BR_dec, if_neg (by omega)]
    exact hK M hu
  | succ k ih =>
    intro j M hj hu
    apply T_fettlelaw25_HistTells_19
    unfold S_fettlelaw25_HistTells_19
    rw [lss_n, BR_dec, if_pos (by omega)]
    apply T_fettlelaw25_HistTells_20
    unfold S_fettlelaw25_HistTells_20
    obtain ⟨p, e1, e2⟩ := (h182.up hu).at (i := j) (by show j < 3; omega) .i64
    show OP (ixA 1 x182 (.int .i64 (j : Int))) _
    rw [e1, OP_some, e2, OP_some]
    generalize ([[97], [98], [99]] : List (List UInt8))[j]'(by show j < 3; omega) = t
    have hpl := hb.1
    have hbt : ∀ p ∈ ps.take i, p.1.2.2.1.length ≤ 2 ^ 22 := fun p hp => hb.2 p (List.mem_of_mem_take hp)
    obtain ⟨v1, f1, hc1⟩ := cl_to (h7.up hu) hi
    rw [f1, OP_some]
    refine (Last_ok t hc1 (by rw [List.length_take]; omega) hbt).mono fun r M1 ⟨u1, w, y, e, hw, hy⟩ => ?_
    subst e
    rw [(tp2b _ _).1, (tp2b _ _).2]
    obtain ⟨v2, f2, hc2⟩ := cl_to (h7.up (hu.trans u1)) hi
    rw [f2, OP_some]
    refine (RLast_ok t hc2 (by rw [List.length_take]; omega)).mono fun r2 M2 ⟨u2, w2, y2, e, hw2, hy2⟩ => ?_
    subst e
    rw [(tp2b _ _).1, (tp2b _ _).2]
    show OP (abin Try.prog false .neq Ty.bool (tv _) (tv _)) _
    rw [bool_ne', BR_bool, if_neg (by simp), cvBS_ok (Sl.up hw u2), OP_some, cvBS_ok hw2, OP_some]
    show OP (binS .neq (sv y) (sv y2)) _
    rw [sv_ne]
    have next : P_fettlelaw25_HistTells_19 x7 (iv (i : Int)) x182 (iv ((3 : Nat) : Int)) (iv ((j + 1 : Nat) : Int)) M2 Q := ih (j + 1) M2 (by omega) ((hu.trans u1).trans u2)
    by_cases hyy : y = y2
    · rw [decide_eq_false (by simp [hyy]), BR3_f, add1_n _ (by omega)]
      exact next
    · rw [decide_eq_true hyy, BR3_t]
      cases ho : lastF t (cms (ps.take i)) with
      | some z => exact absurd ((hy z ho).trans (hy2 z ho).symm) hyy
      | none =>
        rw [show (none : Option (List UInt8)).isSome = false from rfl, BR_bool, if_neg (by decide)]
        show OP (binI .add (iv (j : Int)) (iv 1)) _
        rw [add1_n _ (by omega)]
        exact next
theorem tells_ends (h7 : CL M0 x7 ps) (hb : bndC ps) (hQ : ∀ M, Q (tv true) M) : ∀ (k i : Nat) (M : Store), k + i = ps.length + 1 → Up M0 M → P_fettlelaw25_HistTells_14 x7 (iv (i : Int)) M Q := by
  have hpl := hb.1
  intro k
  induction k with
  | zero =>
    intro i M hi hu
    apply T_fettlelaw25_HistTells_14
    unfold S_fettlelaw25_HistTells_14
    rw [LK.len (h7.up hu).1, OP_some]
    show OP (binI .leq (iv (i : Int)) (iv (ps.length : Int))) _
    rw [leq_n, BR_dec, if_neg (by omega)]
    apply T_fettlelaw25_HistTells_18
    unfold S_fettlelaw25_HistTells_18
    exact awake25_ok ⟨rfl, hQ _⟩
  | succ k ih =>
    intro i M hi hu
    have hil : i ≤ ps.length := by omega
    apply T_fettlelaw25_HistTells_14
    unfold S_fettlelaw25_HistTells_14
    rw [LK.len (h7.up hu).1, OP_some]
    show OP (binI .leq (iv (i : Int)) (iv (ps.length : Int))) _
    rw [leq_n, BR_dec, if_pos hil]
    apply T_fettlelaw25_HistTells_17
    unfold S_fettlelaw25_HistTells_17
    rw [bl_s3, OP_some]
    refine s_lit (s := 1) (n := 3) rfl fun M1 u1 g1 _ _ => ?_
    have g1 : LV sv Ty.string M1 (.slice (some ⟨M.n, 0, none⟩) 3 3) [[97], [98], [99]] := g1.sl
    rw [g1.len, OP_some]
    refine tells_lasts (M0 := M1) hil (h7.up (hu.trans u1)) hb g1 (fun M2 u2 => ?_) 3 0 M1 rfl (Ch.refl _ _)
    have h7' := h7.up ((hu.trans u1).trans u2)
    have hbt : ∀ p ∈ ps.take i, p.1.2.2.1.length ≤ 2 ^ 22 := fun p hp => hb.2 p (List.mem_of_mem_take hp)
    apply T_fettlelaw25_HistTells_21
    unfold S_fettlelaw25_HistTells_21
    obtain ⟨v1, f1, hc1⟩ := cl_to h7' hil
    rw [f1, OP_some]
    refine (Honest_ok hc1 (by rw [List.length_take]; omega) hbt).mono fun r3 M3 ⟨u3, e3⟩ => ⟨u3.tdj _ _, ?_⟩
    subst e3
    obtain ⟨v2, f2, hc2⟩ := cl_to (h7'.up u3) hil
    rw [f2, OP_some]
    refine (RHonest_ok hc2 (by rw [List.length_take]; omega) hbt).mono fun r4 M4 ⟨u4, e4⟩ => ⟨u4.tdx _ _ _, ?_⟩
    subst e4
    show OP (abin Try.prog false .neq Ty.bool (tv _) (tv _)) _
    rw [bool_ne', BR_bool, if_neg (by simp)]
    apply T_fettlelaw25_HistTells_22
    unfold S_fettlelaw25_HistTells_22
    rw [add1_n _ (by omega)]
    exact ih (i + 1) M4 (by omega) ((((hu.trans u1).trans u2).trans u3).trans u4)
theorem tells_cmp {M : Store} {x10 x11 : Value} {ds es : List DQ} (hu : Up M0 M) (ht : Trs M0 M x10 x11 ds es) (hdl : ds.length ≤ 400) (hel : es.length ≤ 400) (h7 : CL M x7 ps) (hb : bndC ps) (hQ : ∀ M, Q (tv true) M) : P_fettlelaw25_HistTells_6 x7 x10 x11 M Q := by
  apply T_fettlelaw25_HistTells_6
  unfold S_fettlelaw25_HistTells_6
  have cat : ∀ (M : Store) (y1 y2 : Value) (l1 l2 : List DQ), QL M y1 l1 → QL M y2 l2 → l1.length ≤ 400 → l2.length ≤ 400 → ∀ (K : Value → Store → Prop), (∀ v' M', Up M M' → QL M' v' (l1 ++ l2) → K v' M') →
      OP (bldL (.agg #[(.string ⟨#[]⟩), (.int .i64 0), (.int .i64 0), (.slice none 0 0)]) 4 0 []) fun c => LT (.slice (some ⟨M.n, 0, none⟩) 0 0) (M.push (some (.inl (c, Ty.api_Done, true)))) fun t139 M1 => OP2 (appV 4 Ty.api_Done t139 y1 M1) fun t141 M2 => OP2 (appV 4 Ty.api_Done t141 y2 M2) K := by
    intro M y1 y2 l1 l2 h1 h2 b1 b2 K hK
    rw [bl_q0, OP_some]
    refine s_lit (s := 4) (n := 0) rfl fun M1 u1 g1 _ _ => ?_
    have g1 : NQM M M1 (.slice (some ⟨M.n, 0, none⟩) 0 0) [] := g1
    refine NK.apps u1 (Nat.le_refl _) u1.n g1 (Sl.up h1.1 u1) (by simp; omega) fun v2 M2 u2 hN2 _ _ => ?_
    rw [List.nil_append] at hN2
    refine NK.apps u2 (Nat.le_refl _) u2.n hN2 (Sl.up h2.1 u2) (by omega) fun v3 M3 u3 hN3 _ _ => ?_
    exact hK v3 M3 u3 ⟨hN3.sl, fun p hp => by
      rcases List.mem_append.1 hp with hp | hp
      · exact Sl.up (h1.2 p hp) u3
      · exact Sl.up (h2.2 p hp) u3⟩
  have hD : QL M x10 ds := ⟨ht.d.sl, ht.db⟩
  have hE : QL M x11 es := ⟨ht.e.sl, ht.eb⟩
  refine cat M x10 x11 ds es hD hE hdl hel _ fun v1 M1 u1 h1 => ?_
  refine cat M1 x11 x10 es ds (hE.up u1) (hD.up u1) hel hdl _ fun v2 M2 u2 h2 => ?_
  have hD2 := hD.up (u1.trans u2)
  have h1' := h1.up u2
  obtain ⟨a1, c1, rfl⟩ := ql_sl hD2
  obtain ⟨a2, c2, rfl⟩ := ql_sl h1'
  obtain ⟨a3, c3, rfl⟩ := ql_sl h2
  rw [e_lit4q]
  refine s_lit (s := 1) (n := 4) rfl fun M3 u3 g3 _ _ => ?_
  have hL : QLs M3 (.slice (some ⟨M2.n, 0, none⟩) 4 4) [ds, ds ++ es, es ++ ds, []] := ⟨_, g3.sl, hD2.up u3, h1'.up u3, h2.up u3, ⟨LK.nil, fun p hp => by cases hp⟩, trivial⟩
  rw [hL.lenV, OP_some]
  have u03 := (u1.trans u2).trans u3
  refine tells_outer (M0 := M3) hL (by simp) (fun d hd => ?_) (h7.up u03) hb (fun M4 u4 => ?_) 4 0 M3 rfl (Ch.refl _ _)
  · simp only [List.mem_cons, List.not_mem_nil, or_false] at hd
    rcases hd with rfl | rfl | rfl | rfl
    · omega
    · rw [List.length_append]; omega
    · rw [List.length_append]; omega
    · simp
  · apply T_fettlelaw25_HistTells_11
    unfold S_fettlelaw25_HistTells_11
    exact tells_ends (M0 := M4) (h7.up (u03.trans u4)) hb hQ (ps.length + 1) 0 M4 rfl (Ch.refl _ _)

/-! ## the traces made -/
theorem tells_trs (h7 : CL M0 x7 ps) (hb : bndC ps) (hpl : ps.length ≤ 12) (h1 : LV iv Ty.int M0 x1 picks) (hQ : ∀ M, Q (tv true) M) : ∀ (k i : Nat) (x10 x11 : Value) (ds es : List DQ) (M : Store), k + i = ps.length → Up M0 M → Trs M0 M x10 x11 ds es → ds.length ≤ 2 * i → es.length ≤ i →
    P_fettlelaw25_HistTells_4 x1 x7 x10 x11 (iv (ps.length : Int)) (iv (i : Int)) M Q := by
  intro k
  induction k with
  | zero =>
    intro i x10 x11 ds es M hi hu ht hdl hel
    apply T_fettlelaw25_HistTells_4
    unfold S_fettlelaw25_HistTells_4
    rw [lss_n, BR_dec, if_neg (by omega)]
    exact tells_cmp (M0 := M0) hu ht (by omega) (by omega) (h7.up hu) hb hQ
  | succ k ih =>
    intro i x10 x11 ds es M hi hu ht hdl hel
    have hil : i < ps.length := by omega
    apply T_fettlelaw25_HistTells_4
    unfold S_fettlelaw25_HistTells_4
    rw [lss_n, BR_dec, if_pos hil]
    have next : ∀ (y10 y11 : Value) (d' e' : List DQ) (M' : Store), Up M0 M' → Trs M0 M' y10 y11 d' e' → d'.length ≤ 2 * (i + 1) → e'.length ≤ i + 1 → P_fettlelaw25_HistTells_12 x1 x7 y10 y11 (iv (ps.length : Int)) (iv (i : Int)) M' Q := by
      intro y10 y11 d' e' M' hu' ht' hd' he'
      apply T_fettlelaw25_HistTells_12
      unfold S_fettlelaw25_HistTells_12
      rw [add1_n _ (by omega)]
      exact ih (i + 1) y10 y11 d' e' M' (by omega) hu' ht' hd' he'
    apply T_fettlelaw25_HistTells_5
    unfold S_fettlelaw25_HistTells_5
    have hm := List.getElem_mem hil
    have hbl := hb.2 _ hm
    rw [c_fld (h7.up hu).1 hil (f := 2) (w := slT ps[i].2) rfl]
    refine (ROpen_ok (Sl.up (h7.2 _ hm) hu) (by omega)).mono fun r M1 ⟨u1, hr⟩ => ?_
    obtain ⟨u, v, e, hu1, hv1⟩ := opr_view hr
    subst e
    rw [(tp3b _ _ _).1, (tp3b _ _ _).2.1, (tp3b _ _ _).2.2, e_not, BR_bool]
    have hu' := hu.trans u1
    have ht1 := ht.up u1
    split
    · exact next x10 x11 ds es M1 hu' ht1 (by omega) (by omega)
    rw [c_fld (h7.up hu').1 hil (f := 3) (w := tv ps[i].1.2.2.2) rfl, BR_bool]
    split
    · exact next x10 x11 ds es M1 hu' ht1 (by omega) (by omega)
    apply T_fettlelaw25_HistTells_7
    unfold S_fettlelaw25_HistTells_7
    rw [c_fld (h7.up hu').1 hil (f := 1) (w := sv ps[i].1.2.1) rfl, c_fld (h7.up hu').1 hil (f := 0) (w := iv ps[i].1.1) rfl]
    obtain ⟨pr, hpr⟩ : ∃ pr, pr = ((openF ps[i].1.2.2.1).getD ([], [])).1 := ⟨_, rfl⟩
    rw [← hpr] at hu1
    obtain ⟨x, rfl⟩ := slT_of hu1
    generalize ps[i].1.2.1 = tg
    generalize ps[i].1.1 = who
    rw [bs_q, OP_some]
    refine s_new fun M2 u2 o2 _ => ?_
    refine s_st (vs := qcs ((tg, who, (i : Int), pr), x)) o2 rfl rfl (qcs_one _) fun M3 c3 o3 _ => ⟨?_, ?_⟩
    · have : M1.n < M2.n := o2.lt
      refine Ch.tdxR c3 (by rw [show M2.get M1.n = _ from o2]; rfl) (accB_of (j := 13) (by decide) (by decide) (Nat.le_refl _) this)
    have u13 : Up M1 M3 := u2.ch c3 (by simp)
    have hu3 := hu'.trans u13
    have ht3 := ht1.up u13
    have hx3 := Sl.up hu1 u13
    have nine : ∀ (M4 : Store) (pk : Nat), Up M0 M4 → Trs M0 M4 x10 x11 ds es → B M4 (slT x) pr → Ob M4 M1.n (qcs ((tg, who, (i : Int), pr), x)) Ty.api_Done → P_fettlelaw25_HistTells_9 x1 x7 x10 x11 (pt M1.n) (iv (pk : Int)) (iv (ps.length : Int)) (iv (i : Int)) M4 Q := by
      intro M4 pk hu4 ht4 hx4 o4
      apply T_fettlelaw25_HistTells_9
      unfold S_fettlelaw25_HistTells_9
      rw [eql_l 0 0 rfl, BR_dec]
      split
      · exact next x10 x11 ds es M4 hu4 ht4 (by omega) (by omega)
      rw [eql_l 1 1 rfl, BR_dec]
      split
      · rw [o4.ldA (s := 4) rfl, OP_some, OP_some, bl_q2, OP_some]
        refine s_lit (s := 4) (n := 2) rfl fun M5 u5 g5 _ _ => ?_
        have g5 : LK 4 qcs Ty.api_Done M5 (.slice (some ⟨M4.n, 0, none⟩) 2 2) [((tg, who, (i : Int), pr), x), ((tg, who, (i : Int), pr), x)] := g5.sl
        refine (ht4.up u5).appD (hu4.trans u5) g5 (fun p hp => ?_) (by simp) (by simp; omega) fun v' M6 hu6 ht6 => ?_
        · have : p = ((tg, who, (i : Int), pr), x) := by simpa using hp
          subst this; exact Sl.up hx4 u5
        · exact next v' x11 _ es M6 hu6 ht6 (by simp; omega) (by omega)
      rw [eql_l 2 2 rfl, BR_dec]
      have o4' : Ob M4 M1.n [sv tg, iv who, iv (i : Int), slT x] Ty.api_Done := o4
      split
      · simp only [fad0, o4'.l4]
        show OP (binI .sub (.int .i64 1) (.int .i64 who)) _
        rw [e_sub]
        generalize IntKind.wrap .i64 (1 - who) = who'
        refine s_st1 (i := 1) (w := iv who') o4' (by simp) rfl rfl fun M5 c5 o5 _ => ?_
        have o5 : Ob M5 M1.n (qcs ((tg, who', (i : Int), pr), x)) Ty.api_Done := o5
        rw [o5.ldA (s := 4) rfl, OP_some, bl_q, OP_some]
        have hne : ∀ (y : Value), Bxd M1 y → ∀ b, bx y = some b → b ∉ [M1.n] := fun y hy b hb => by have := hy b hb; simp; omega
        have k5 := c5.keepT o4'
        have u5 : Up M0 M5 := hu4.ch c5 (by have := hu'.n; simpa using this)
        have ht5 : Trs M0 M5 x10 x11 ds es := ⟨Nw.fr ht4.d c5 (hne x10 ht1.dx), Nw.fr ht4.e c5 (hne x11 ht1.ex), fun p hp => Sl.keep (ht4.db p hp) (by decide) k5, fun p hp => Sl.keep (ht4.eb p hp) (by decide) k5, ht4.ap, ht4.dx.up c5.n, ht4.ex.up c5.n⟩
        refine s_lit (s := 4) (n := 1) rfl fun M6 u6 g6 _ _ => ?_
        have g6 : LK 4 qcs Ty.api_Done M6 (.slice (some ⟨M5.n, 0, none⟩) 1 1) [((tg, who', (i : Int), pr), x)] := g6.sl
        refine (ht5.up u6).appD (u5.trans u6) g6 (fun p hp => ?_) (by simp) (by simp; omega) fun v' M7 hu7 ht7 => ?_
        · have : p = ((tg, who', (i : Int), pr), x) := by simpa using hp
          subst this; exact Sl.up (Sl.keep hx4 (by decide) k5) u6
        · exact next v' x11 _ es M7 hu7 ht7 (by simp; omega) (by omega)
      rw [eql_l 3 3 rfl, BR_dec]
      split
      · rw [o4.ldA (s := 4) rfl, OP_some, bl_q, OP_some]
        refine s_lit (s := 4) (n := 1) rfl fun M5 u5 g5 _ _ => ?_
        have g5 : LK 4 qcs Ty.api_Done M5 (.slice (some ⟨M4.n, 0, none⟩) 1 1) [((tg, who, (i : Int), pr), x)] := g5.sl
        refine (ht4.up u5).appE (hu4.trans u5) g5 (fun p hp => ?_) (by simp) (by simp; omega) fun v' M6 hu6 ht6 => ?_
        · have : p = ((tg, who, (i : Int), pr), x) := by simpa using hp
          subst this; exact Sl.up hx4 u5
        · exact next x10 v' ds _ M6 hu6 ht6 (by omega) (by simp; omega)
      · rw [o4.ldA (s := 4) rfl, OP_some, bl_q, OP_some]
        refine s_lit (s := 4) (n := 1) rfl fun M5 u5 g5 _ _ => ?_
        have g5 : LK 4 qcs Ty.api_Done M5 (.slice (some ⟨M4.n, 0, none⟩) 1 1) [((tg, who, (i : Int), pr), x)] := g5.sl
        refine (ht4.up u5).appD (hu4.trans u5) g5 (fun p hp => ?_) (by simp) (by simp; omega) fun v' M6 hu6 ht6 => ?_
        · have : p = ((tg, who, (i : Int), pr), x) := by simpa using hp
          subst this; exact Sl.up hx4 u5
        · exact next v' x11 _ es M6 hu6 ht6 (by simp; omega) (by omega)
    rw [(h1.up hu3).len, OP_some, lss_n, BR_dec]
    split
    · rename_i hpk
      obtain ⟨p, e1, e2⟩ := (h1.up hu3).at hpk .i64
      show OP (ixA 1 x1 (.int .i64 (i : Int))) _
      rw [e1, OP_some, e2, OP_some]
      show OP (binI .and (.int .i64 picks[i]) (.int .i64 ((7 : Nat) : Int))) _
      rw [e_andN _ 7 (by decide), OP_some]
      exact nine M3 _ hu3 ht3 hx3 o3
    · exact nine M3 7 hu3 ht3 hx3 o3
end
theorem tells_commits {M0 : Store} {x0 x1 x2 : Value} {ns picks : List Int} {raw : List UInt8} {Q : Value → Store → Prop} (h0 : LV iv Ty.int M0 x0 ns) (h1 : LV iv Ty.int M0 x1 picks) (h2 : B M0 x2 raw) (hr : raw.length ≤ 200) (hQ : ∀ M, Q (tv true) M) :
    ∀ (k i : Nat) (x7 : Value) (ps : List CP) (M : Store), k + i = 12 → Up M0 M → NCM M0 M x7 ps → CB M ps → ps.length = i → (∀ p ∈ ps, p.1.2.2.1.length ≤ 2 ^ 22) → P_fettlelaw25_HistTells_1 x0 x1 x2 x7 (iv (i : Int)) M Q := by
  intro k
  have fin : ∀ (x7 : Value) (ps : List CP) (M : Store), Up M0 M → NCM M0 M x7 ps → CB M ps → ps.length ≤ 12 → (∀ p ∈ ps, p.1.2.2.1.length ≤ 2 ^ 22) → P_fettlelaw25_HistTells_3 x1 x7 M Q := by
    intro x7 ps M hu hN hB hl hall
    apply T_fettlelaw25_HistTells_3
    unfold S_fettlelaw25_HistTells_3
    rw [LK.len hN.sl, OP_some]
    exact tells_trs (M0 := M) ⟨hN.sl, hB⟩ ⟨by omega, hall⟩ hl (h1.up hu) hQ ps.length 0 _ _ [] [] M rfl (Ch.refl _ _) ⟨NK.nil, NK.nil, (fun p hp => by cases hp), (fun p hp => by cases hp), (fun b hb => by cases hb), (fun b hb => by cases hb), (fun b hb => by cases hb)⟩ (by simp) (by simp)
  induction k with
  | zero =>
    intro i x7 ps M hi hu hN hB hl hall
    apply T_fettlelaw25_HistTells_1
    unfold S_fettlelaw25_HistTells_1
    rw [(h0.up hu).len, OP_some, lss_n, BR_dec]
    split
    · rw [lss_l 12 12 rfl, BR_dec, if_neg (by omega)]
      exact fin x7 ps M hu hN hB (by omega) hall
    · exact fin x7 ps M hu hN hB (by omega) hall
  | succ k ih =>
    intro i x7 ps M hi hu hN hB hl hall
    apply T_fettlelaw25_HistTells_1
    unfold S_fettlelaw25_HistTells_1
    rw [(h0.up hu).len, OP_some, lss_n, BR_dec]
    split
    · rename_i hil
      rw [lss_l 12 12 rfl, BR_dec, if_pos (by omega)]
      apply T_fettlelaw25_HistTells_2
      unfold S_fettlelaw25_HistTells_2
      obtain ⟨p0, e1, e2⟩ := (h0.up hu).at hil .i64
      show OP (ixA 1 x0 (.int .i64 (i : Int))) _
      rw [e1, OP_some, e2, OP_some]
      refine (Commit_ok ns[i]).mono fun r M1 ⟨u1, p, e, hp, hpl, hpt⟩ => ?_
      subst e
      refine s_new fun M2 u2 o2 _ => ?_
      refine s_st (vs := ccs p) o2 rfl rfl (ccs_one _) fun M3 c3 o3 _ => ?_
      have u13 : Up M1 M3 := u2.ch c3 (by simp)
      have u03 : Up M M3 := u1.trans u13
      obtain ⟨p9, e3, e4⟩ := (h0.up (hu.trans u03)).at hil .i64
      rw [e1] at e3
      injection e3 with e3
      subst e3
      rw [OP_some, e4, OP_some]
      show OP (binI .shr (.int .i64 ns[i]) (.int .u64 ((20 : Nat) : Int))) _
      rw [e_shrN _ 20 (by decide)]
      show OP (binI .and (.int .i64 (shrN ns[i] 20)) (.int .i64 ((15 : Nat) : Int))) _
      rw [e_andN _ 15 (by decide), OP_some, eql_l 0 0 rfl, BR_dec]
      have add : ∀ (M4 : Store) (q : CP), Up M M4 → B M4 (slT q.2) q.1.2.2.1 → q.1.2.2.1.length ≤ 2 ^ 22 → OP (bldL (.agg #[(.int .i64 0), (.string ⟨#[]⟩), (.slice none 0 0), (.bool false)]) 4 1 [(0, .agg (ccs q).toArray)]) fun c => LT (.slice (some ⟨M4.n, 0, none⟩) 1 1) (M4.push (some (.inl (c, Ty.api_Commit, true)))) fun t M1 => OP2 (appV 4 Ty.api_Commit x7 t M1) fun t60 M6 => OP (binI .add (iv (i : Int)) (.int .i64 1)) fun t42 => P_fettlelaw25_HistTells_1 x0 x1 x2 t60 t42 M6 Q := by
        intro M4 q u4 hq hql
        refine app_cm (M0 := M0) (hu.trans u4) (Nw.up hN u4) (hB.up u4) hq (by omega) fun v' M5 hu5 hN5 hB5 _ => ?_
        show OP (binI .add (iv (i : Int)) (iv 1)) _
        rw [add1_n _ (by omega)]
        refine ih (i + 1) v' (ps ++ [q]) M5 (by omega) hu5 hN5 hB5 (by simp [hl]) fun x hx => ?_
        rcases List.mem_append.1 hx with hx | hx
        · exact hall x hx
        · have : x = q := by simpa using hx
          subst this; exact hql
      split
      · obtain ⟨⟨who, tg, by_, dr⟩, pa⟩ := p
        have h2' := Sl.up h2 (hu.trans u03)
        obtain ⟨y, rfl⟩ := slT_of h2'
        rw [fad0]
        refine s_st1 (i := 2) (w := slT y) o3 (by simp [ccs]) (by obtain ⟨a, b, c⟩ := y; rfl) (by obtain ⟨a, b, c⟩ := y; rfl) fun M4 c4 o4 _ => ?_
        have o4 : Ob M4 M1.n (ccs ((who, tg, raw, dr), y)) Ty.api_Commit := o4
        have u4 : Up M M4 := u03.ch c4 (by have := u1.n; simpa using this)
        rw [o4.ldA (s := 4) rfl, OP_some]
        exact add M4 ((who, tg, raw, dr), y) u4 (Sl.keep h2' (by decide) (c4.keepT o3)) (by simp only; omega)
      · rw [o3.ldA (s := 4) rfl, OP_some]
        exact add M3 p u03 (Sl.up hp u13) (by omega)
    · exact fin x7 ps M hu hN hB (by omega) hall
theorem HistTells_ok {M : Store} {x0 x1 x2 : Value} {ns picks : List Int} {raw : List UInt8} (h0 : LV iv Ty.int M x0 ns) (h1 : LV iv Ty.int M x1 picks) (h2 : B M x2 raw) : R F.fettlelaw25_HistTells #[x0, x1, x2] M fun v M' => v = tv true := by
  refine R.cps fun Q hQ => ?_
  have hQ : ∀ M, Q (tv true) M := fun M => hQ _ _ rfl
  apply T_fettlelaw25_HistTells
  unfold S_fettlelaw25_HistTells
  rw [by_len h2, gtr_l 200 200 rfl, BR_dec]
  split
  · exact awake25_ok ⟨rfl, hQ _⟩
  · exact tells_commits (M0 := M) h0 h1 h2 (by omega) hQ 12 0 _ [] M rfl (Ch.refl _ _) NK.nil (fun p hp => by cases hp) rfl (fun p hp => by cases hp)
end Go.G
