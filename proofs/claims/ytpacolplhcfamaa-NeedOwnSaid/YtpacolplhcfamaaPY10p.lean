/- Layer 10: prints made, by the program and by the document. -/
import Derived.Test.YtpacolplhcfamaaPGXp
import Derived.Test.YtpacolplhcfamaaPA6a
import Derived.Test.YtpacolplhcfamaaPY10
import Derived.Test.YtpacolplhcfamaaPU3
namespace Go.G
open Go.Ab Go.Proofs Go.RowKit
set_option linter.unusedVariables false
set_option linter.unusedSimpArgs false
set_option maxRecDepth 100000

theorem bl_ldP {M : Store} {v : Value} {ls : List (List UInt8)} (h : BB M v ls) {i : Nat} (hi : i < ls.length) {K : Value → Prop} (hK : ∀ w, B M w ls[i] → K w) : OP (ixA 1 v (iv (i : Int))) fun p => OP (ld 1 false p M) K := by
  obtain ⟨p, w, e1, e2, e3⟩ := h.at hi .i64
  show OP (ixA 1 v (.int .i64 (i : Int))) _
  rw [e1, OP_some, e2, OP_some]
  exact hK w e3
/-! ## a print made -/
theorem insB_snoc {ins : List (List UInt8)} {i : Nat} (h : i < ins.length) : insB (ins.take (i + 1)) = insB (ins.take i) ++ be 6 ins[i].length ++ ins[i] := by
  rw [List.take_succ_eq_append_getElem h]
  unfold insB
  rw [List.flatMap_append]; simp [List.append_assoc]
section
variable {M0 : Store} {w : Value} {ins : List (List UInt8)} {pre : List UInt8} {Q : Value → Store → Prop}
theorem pprint_loop (hw : BB M0 w ins) (hi : ins.length ≤ 2 ^ 8) (hx : ∀ x ∈ ins, x.length ≤ 2 ^ 12) (hp : pre.length ≤ 2 ^ 22) (hQ : ∀ t M, Up M0 M → N M0 M t (pre ++ insB ins) → Q t M) :
    ∀ (k i : Nat) (t : Value) (M : Store), k + i = ins.length → Up M0 M → N M0 M t (pre ++ insB (ins.take i)) → P_prnt_Print_1 t w (iv (ins.length : Int)) (iv (i : Int)) M Q := by
  intro k
  induction k with
  | zero =>
    intro i t M hk hu hN
    apply T_prnt_Print_1
    unfold S_prnt_Print_1
    rw [lss_n, BR_dec, if_neg (by omega)]
    apply T_prnt_Print_2
    unfold S_prnt_Print_2
    rw [List.take_of_length_le (by omega)] at hN
    exact ⟨nts_of hN.by, hQ t M hu hN⟩
  | succ k ih =>
    intro i t M hk hu hN
    have hil : i < ins.length := by omega
    apply T_prnt_Print_1
    unfold S_prnt_Print_1
    rw [lss_n, BR_dec, if_pos hil]
    refine bl_ldP (hw.up By.up' hu) hil fun u hB => ?_
    have hxl := hx _ (List.getElem_mem hil)
    have hpre := insB_len (2 ^ 12) (ins.take i) fun y hy => hx y (List.mem_of_mem_take hy)
    have htl : (ins.take i).length ≤ 2 ^ 8 := by rw [List.length_take]; omega
    have hmul : (ins.take i).length * (6 + 2 ^ 12) ≤ 2 ^ 8 * (6 + 2 ^ 12) := Nat.mul_le_mul_right _ htl
    refine (Bytes_ok hN.by hB (by rw [List.length_append]; omega) (by omega)).mono fun v1 M1 ⟨u1, h1⟩ => ?_
    rw [add1_n _ (by omega)]
    refine ih (i + 1) v1 M1 (by omega) (hu.trans u1) ?_
    rw [insB_snoc hil]
    have h1 := Nw.base h1 hu.n
    simp only [List.append_assoc] at h1 ⊢
    exact h1
theorem rprint_loop (hw : BB M0 w ins) (hi : ins.length ≤ 2 ^ 8) (hx : ∀ x ∈ ins, x.length ≤ 2 ^ 12) (hp : pre.length ≤ 2 ^ 22) (hQ : ∀ t M, Up M0 M → N M0 M t (pre ++ insB ins) → Q t M) :
    ∀ (k i : Nat) (t : Value) (M : Store), k + i = ins.length → Up M0 M → N M0 M t (pre ++ insB (ins.take i)) → P_fettleref10_Print_1 w t (iv (i : Int)) M Q := by
  intro k
  induction k with
  | zero =>
    intro i t M hk hu hN
    apply T_fettleref10_Print_1
    unfold S_fettleref10_Print_1
    rw [(hw.up By.up' hu).lenV, OP_some]
    show OP (binI .lss (iv (i : Int)) (iv (ins.length : Int))) _
    rw [lss_n, BR_dec, if_neg (by omega)]
    apply T_fettleref10_Print_2
    unfold S_fettleref10_Print_2
    rw [List.take_of_length_le (by omega)] at hN
    exact ⟨nts_of hN.by, hQ t M hu hN⟩
  | succ k ih =>
    intro i t M hk hu hN
    have hil : i < ins.length := by omega
    apply T_fettleref10_Print_1
    unfold S_fettleref10_Print_1
    rw [(hw.up By.up' hu).lenV, OP_some]
    show OP (binI .lss (iv (i : Int)) (iv (ins.length : Int))) _
    rw [lss_n, BR_dec, if_pos hil]
    refine bl_ldP (hw.up By.up' hu) hil fun u hB => ?_
    have hxl := hx _ (List.getElem_mem hil)
    have hpre := insB_len (2 ^ 12) (ins.take i) fun y hy => hx y (List.mem_of_mem_take hy)
    have htl : (ins.take i).length ≤ 2 ^ 8 := by rw [List.length_take]; omega
    have hmul : (ins.take i).length * (6 + 2 ^ 12) ≤ 2 ^ 8 * (6 + 2 ^ 12) := Nat.mul_le_mul_right _ htl
    refine (RBytes_ok hN.by hB (by rw [List.length_append]; omega) (by omega)).mono fun v1 M1 ⟨u1, h1⟩ => ?_
    rw [add1_n _ (by omega)]
    refine ih (i + 1) v1 M1 (by omega) (hu.trans u1) ?_
    rw [insB_snoc hil]
    have h1 := Nw.base h1 hu.n
    simp only [List.append_assoc] at h1 ⊢
    exact h1
end
theorem actB_len2 {l : List Dw} (hl : l.length ≤ 2 ^ 10) (hs : ∀ d ∈ l, d.2.2.length ≤ 2 ^ 10) : (actB l).length ≤ 2 ^ 21 := by
  have h1 := actB_len hs
  have h2 : l.length * (18 + 2 ^ 10) ≤ 2 ^ 10 * (18 + 2 ^ 10) := Nat.mul_le_mul_right _ hl
  omega
theorem PPrint_ok {M : Store} {v w : Value} {l : List Dw} {ins : List (List UInt8)} (h : DS M v l) (hl : l.length ≤ 2 ^ 10) (hs : ∀ d ∈ l, d.2.2.length ≤ 2 ^ 10) (hw : BB M w ins) (hi : ins.length ≤ 2 ^ 8) (hx : ∀ x ∈ ins, x.length ≤ 2 ^ 12) :
    R F.prnt_Print #[v, w] M fun r M' => Up M M' ∧ N M M' r (printF l ins) := by
  refine R.cps fun Q hQ => ?_
  apply T_prnt_Print
  unfold S_prnt_Print
  have hal := actB_len2 hl hs
  refine (ABytes_ok h hl hs).mono fun r1 M1 ⟨u1, h1⟩ => ?_
  refine (Bytes_ok (l := []) (Sl.nil _ _ _) h1.by (by simp) (by omega)).mono fun r2 M2 ⟨u2, h2⟩ => ?_
  rw [List.nil_append] at h2
  rw [(hw.up By.up' (u1.trans u2)).lenV, OP_some]
  refine (Num_ok h2.by (by simp only [List.length_append, be_length]; omega) _).mono fun r3 M3 ⟨u3, h3⟩ => ?_
  rw [OP_some]
  rw [held_len (by omega)] at h3
  refine pprint_loop (M0 := M) (pre := be 6 (actB l).length ++ actB l ++ be 6 ins.length) hw hi hx (by simp only [List.length_append, be_length]; omega) (fun t M' hu hN => hQ _ _ ⟨hu, hN⟩) ins.length 0 r3 M3 rfl ((u1.trans u2).trans u3) ?_
  have h3 := Nw.base h3 (u1.trans u2).n
  rw [show be 6 (actB l).length ++ actB l ++ be 6 ins.length ++ insB (ins.take 0) = be 6 (actB l).length ++ actB l ++ be 6 ins.length from by simp [insB]]
  exact h3

/-! ## by the document -/
theorem RABytes_loop {M0 : Store} {v : Value} {l : List Dw} (h : DS M0 v l) (hl : l.length ≤ 2 ^ 10) (hs : ∀ d ∈ l, d.2.2.length ≤ 2 ^ 10) {Q : Value → Store → Prop} (hQ : ∀ w M, Up M0 M → N M0 M w (actB l) → Q w M) :
    ∀ (k i : Nat) (w : Value) (M : Store), k + i = l.length → Up M0 M → N M0 M w (be 6 l.length ++ (l.take i).flatMap doB) → P_fettleref4_ActBytes_1 v w (iv (i : Int)) M Q := by
  intro k
  induction k with
  | zero =>
    intro i w M hi hu hN
    apply T_fettleref4_ActBytes_1
    unfold S_fettleref4_ActBytes_1
    rw [(Sl.up h hu).lenV, OP_some]
    show OP (binI .lss (iv (i : Int)) (iv (l.length : Int))) _
    rw [lss_n, BR_dec, if_neg (by omega)]
    apply T_fettleref4_ActBytes_3
    unfold S_fettleref4_ActBytes_3
    rw [List.take_of_length_le (by omega)] at hN
    exact ⟨nts_of hN.by, hQ w M hu hN⟩
  | succ k ih =>
    intro i w M hi hu hN
    have hil : i < l.length := by omega
    have hpre : ((l.take i).flatMap doB).length ≤ (l.take i).length * (18 + 2 ^ 10) := fm_len (2 ^ 10) _ fun d hd => hs d (List.mem_of_mem_take hd)
    have htl : (l.take i).length = i := by rw [List.length_take]; omega
    have hmul : (l.take i).length * (18 + 2 ^ 10) ≤ 2 ^ 10 * (18 + 2 ^ 10) := Nat.mul_le_mul_right _ (by omega)
    have hb6 : (be 6 l.length).length = 6 := be_length _ _
    apply T_fettleref4_ActBytes_1
    unfold S_fettleref4_ActBytes_1
    rw [(Sl.up h hu).lenV, OP_some]
    show OP (binI .lss (iv (i : Int)) (iv (l.length : Int))) _
    rw [lss_n, BR_dec, if_pos hil]
    apply T_fettleref4_ActBytes_2
    unfold S_fettleref4_ActBytes_2
    have hsl := hs _ (List.getElem_mem hil)
    have hfm := fm_snoc hil
    rw [ds_fld (Sl.up h hu) hil (f := 0) (w := iv l[i].1) rfl]
    refine (RNum_ok hN.by (by rw [List.length_append]; omega) _).mono fun w3 M3 ⟨u3, h3⟩ => ⟨u3.tdj _ _, ?_⟩
    have hu3 := hu.trans u3
    rw [ds_fld (Sl.up h hu3) hil (f := 1) (w := iv l[i].2.1) rfl]
    refine (RNum_ok h3.by (by simp only [List.length_append, be_length]; omega) _).mono fun w4 M4 ⟨u4, h4⟩ => ⟨u4.tdj _ _, ?_⟩
    have hu4 := hu3.trans u4
    rw [ds_fld (Sl.up h hu4) hil (f := 2) (w := sv l[i].2.2) rfl]
    refine cvSB_ok (by omega) fun w5 M5 u5 h5 => ?_
    refine (RBytes_ok (Sl.up h4.by u5) h5.by (by simp only [List.length_append, be_length]; omega) (by omega)).mono fun w6 M6 ⟨u6, h6⟩ => ⟨u6.tdx _ _ _, ?_⟩
    rw [add1_n _ (by omega)]
    have hu5 : Up M0 M5 := hu4.trans u5
    refine ih (i + 1) w6 M6 (by omega) (hu5.trans u6) ?_
    have h6 := Nw.base h6 hu5.n
    have e : be 6 l.length ++ (l.take (i + 1)).flatMap doB = (be 6 l.length ++ (l.take i).flatMap doB ++ be 6 (held l[i].1) ++ be 6 (held l[i].2.1)) ++ be 6 l[i].2.2.length ++ l[i].2.2 := by
      rw [hfm]; simp [doB, List.append_assoc]
    rw [e]
    exact h6
theorem RABytes_ok {M : Store} {v : Value} {l : List Dw} (h : DS M v l) (hl : l.length ≤ 2 ^ 10) (hs : ∀ d ∈ l, d.2.2.length ≤ 2 ^ 10) : R F.fettleref4_ActBytes #[v] M fun r M' => Up M M' ∧ N M M' r (actB l) := by
  refine R.cps fun Q hQ => ?_
  apply T_fettleref4_ActBytes
  unfold S_fettleref4_ActBytes
  rw [h.lenV, OP_some]
  refine (RNum_ok (l := []) (Sl.nil _ _ _) (by simp) _).mono fun w M1 ⟨u1, h1⟩ => ?_
  rw [List.nil_append, held_len (by omega)] at h1
  exact RABytes_loop h hl hs (fun w M' hu hN => hQ _ _ ⟨hu, hN⟩) l.length 0 w M1 rfl u1 (by simpa using h1)
theorem RPrint_ok {M : Store} {v w : Value} {l : List Dw} {ins : List (List UInt8)} (h : DS M v l) (hl : l.length ≤ 2 ^ 10) (hs : ∀ d ∈ l, d.2.2.length ≤ 2 ^ 10) (hw : BB M w ins) (hi : ins.length ≤ 2 ^ 8) (hx : ∀ x ∈ ins, x.length ≤ 2 ^ 12) :
    R F.fettleref10_Print #[v, w] M fun r M' => Up M M' ∧ N M M' r (printF l ins) := by
  refine R.cps fun Q hQ => ?_
  apply T_fettleref10_Print
  unfold S_fettleref10_Print
  have hal := actB_len2 hl hs
  refine (RABytes_ok h hl hs).mono fun r1 M1 ⟨u1, h1⟩ => ?_
  refine (RBytes_ok (l := []) (Sl.nil _ _ _) h1.by (by simp) (by omega)).mono fun r2 M2 ⟨u2, h2⟩ => ?_
  rw [List.nil_append] at h2
  rw [(hw.up By.up' (u1.trans u2)).lenV, OP_some]
  refine (RNum_ok h2.by (by simp only [List.length_append, be_length]; omega) _).mono fun r3 M3 ⟨u3, h3⟩ => ?_
  rw [held_len (by omega)] at h3
  refine rprint_loop (M0 := M) (pre := be 6 (actB l).length ++ actB l ++ be 6 ins.length) hw hi hx (by simp only [List.length_append, be_length]; omega) (fun t M' hu hN => hQ _ _ ⟨hu, hN⟩) ins.length 0 r3 M3 rfl ((u1.trans u2).trans u3) ?_
  have h3 := Nw.base h3 (u1.trans u2).n
  rw [show be 6 (actB l).length ++ actB l ++ be 6 ins.length ++ insB (ins.take 0) = be 6 (actB l).length ++ actB l ++ be 6 ins.length from by simp [insB]]
  exact h3
theorem bEqual_ok {M : Store} {x y : Value} {l k : List UInt8} (hx : B M x l) (hy : B M y k) : R F.bytes_Equal #[x, y] M fun v M' => M' = M ∧ v = tv (decide (l = k)) := by
  apply T_bytes_Equal
  unfold S_bytes_Equal
  rw [cvBS_ok hx, OP_some, cvBS_ok hy, OP_some]
  show OP (binS .eql (sv l) (sv k)) _
  rw [sv_eq]
  exact ⟨rfl, rfl, rfl⟩
end Go.G
