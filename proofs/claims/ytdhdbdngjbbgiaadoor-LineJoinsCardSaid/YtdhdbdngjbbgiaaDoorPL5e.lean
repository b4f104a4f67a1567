/- LineJoins: the law. -/
import Derived.Test.YtdhdbdngjbbgiaaDoorPL5d
namespace Go.G
open Go.Ab Go.Proofs Go.RowKit
set_option linter.unusedVariables false
set_option linter.unusedSimpArgs false
set_option maxRecDepth 100000

theorem Nw.above {s : Nat} {e : TypeId} {M0 M M' : Store} {v : Value} {n : Nat} {cs : List Value} (h : Nw s e M0 M v n cs) {S : List Nat} (k : Ch S M M') (hS : ∀ b ∈ S, b < M0.n) : Nw s e M0 M' v n cs := by
  obtain ⟨h1, h | ⟨b, cells, c, h2, h3, h4, h5⟩⟩ := h
  · exact ⟨h1, .inl h⟩
  · exact ⟨h1, .inr ⟨b, cells, c, h2, h3, k.at h4 (fun hb => by have := hS b hb; omega), h5⟩⟩
theorem RW2.above {M0 M M' : Store} {w : Value} {rows : List (List Wd)} (h : RW2 M0 M w rows) {S : List Nat} (k : Ch S M M') (hS : ∀ b ∈ S, b < M0.n) : RW2 M0 M' w rows := by
  obtain ⟨vs, h1, h2, h3⟩ := h
  exact ⟨vs, Nw.above h1 k hS, h2.mono fun v x ⟨g1, b, g2, g3, g4⟩ => ⟨Nw.above g1 k hS, b, g2, g3, Nat.lt_of_lt_of_le g4 k.n⟩, h3⟩

/-! ## plainly -/
theorem joins_facts (raw t : List UInt8) :
    ((ftOf (splitF (raw ++ [10]))).1 ≠ 0 → ftOf (splitF ((raw ++ [10]) ++ t)) = ftOf (splitF (raw ++ [10])) ∧ rwOf (splitF ((raw ++ [10]) ++ t)) = []) ∧
    ((ftOf (splitF (raw ++ [10]))).1 = 0 → (ftOf (splitF t)).1 ≠ 0 → ftOf (splitF ((raw ++ [10]) ++ t)) = shF (nls (raw ++ [10])) (ftOf (splitF t)) ∧ rwOf (splitF ((raw ++ [10]) ++ t)) = []) ∧
    ((ftOf (splitF (raw ++ [10]))).1 = 0 → (ftOf (splitF t)).1 = 0 → ftOf (splitF ((raw ++ [10]) ++ t)) = fv0 ∧ rwOf (splitF ((raw ++ [10]) ++ t)) = rwOf (splitF (raw ++ [10])) ++ (rwOf (splitF t)).map (List.map (shW (nls (raw ++ [10]))))) := by
  rw [split_joins]
  cases h1 : splitF (raw ++ [10]) with
  | inl f =>
    have hf : f.1 ≠ 0 := by have := splitF_ft h1; unfold FtOk at this; omega
    exact ⟨fun _ => ⟨rfl, rfl⟩, fun h => absurd h hf, fun h => absurd h hf⟩
  | inr x =>
    cases h2 : splitF t with
    | inl f =>
      have hf : f.1 ≠ 0 := by have := splitF_ft h2; unfold FtOk at this; omega
      exact ⟨fun h => absurd rfl h, fun _ _ => ⟨rfl, rfl⟩, fun _ h => absurd h hf⟩
    | inr y => exact ⟨fun h => absurd rfl h, fun _ h => absurd rfl h, fun _ _ => ⟨rfl, rfl⟩⟩
theorem ln_ft (b : List UInt8) : (ftOf (splitF b)).2.1 ≤ b.length + 2 := by
  cases h : splitF b with
  | inl f => exact split_ln.1 f h
  | inr x => simp [ftOf, fv0]
theorem ln_rw (b : List UInt8) : ∀ r ∈ rwOf (splitF b), ∀ w ∈ r, w.2.1 ≤ b.length + 2 := by
  cases h : splitF b with
  | inl f => intro r hr; cases hr
  | inr x => exact split_ln.2 x h

/-! ## the walk -/
theorem joins_end {S : List Nat} {Mx M1 M3 M9 M12 M : Store} {xv yv zv : Value} {vs : List Value} {b15 : Nat} {xs cur zs : List (List Wd)} {Q : Value → Store → Prop}
    (hx : RW2 Mx M1 xv xs) (u1 : Up Mx M1) (u13 : Up M1 M3) (u3 : Up M3 M12) (h39 : M1.n ≤ M9.n) (hJ : JI S M3 M12 M yv vs cur) (hS3 : ∀ b ∈ S, M3.n ≤ b) (hS9 : ∀ b ∈ S, b < M9.n) (hz : RW2 M9 M12 zv zs) (o15 : Ob M12 b15 (fcs fv0) Ty.api_Fault) (hb15 : M9.n ≤ b15)
    (he : zs = xs ++ cur) (hzl : zs.length ≤ 2 ^ 28) (hzr : ∀ r ∈ zs, r.length ≤ 2 ^ 28) (hQ : ∀ M, Q (tv true) M) : P_fettlelaw5_LineJoins_5 xv yv zv (.pointer (some ⟨b15, 0, none⟩)) M Q := by
  apply T_fettlelaw5_LineJoins_5
  unfold S_fettlelaw5_LineJoins_5
  have o15' : Ob M b15 [iv 0, iv 0, iv 0] Ty.api_Fault := o15.fr hJ.ch fun hb => by have := hS9 _ hb; omega
  rw [fad0, (Ob.l3 o15').1]
  have e0 : ∀ K : Value → Prop, OP (binI .eql (iv 0) (.int .i64 0)) K = K (.bool true) := fun K => by kernel_rfl
  rw [e0, BR_true]
  have u3M : Up M3 M := Ch.toUp u3 hJ.ch hS3
  obtain ⟨vsx, g1, g2, g3⟩ := (hx.up u13).up u3M
  have hxy : zs.length = xs.length + cur.length := by rw [he, List.length_append]
  have huM : Up Mx M := (u1.trans u13).trans u3M
  obtain ⟨v', M', e1, hu', hN, hn, hf, hc⟩ := Nw.appV huM g1 hJ.nw.sl (by omega)
  rw [e1, OP2_some]
  have hk : Keep Ty.sl_api_Word M M' := g1.keeps hn hf
  have hxy' : RW M' v' (xs ++ cur) := ⟨vsx ++ vs, by rw [List.length_append]; exact hN.sl, (g2.mono fun v x h => (RowE.keep h hk).1.sl).append (hJ.ea.mono fun v x h => (RowE.keep h hk).1.sl)⟩
  have hxk : ∀ b ∈ kl xv, b < M9.n := fun b hb => by
    obtain ⟨vsx1, f1, _, _⟩ := hx
    have := (Nw.bx_in f1 (mem_kl.1 hb)).2
    omega
  have hz' : RW2 M9 M' zv zs := (hz.above hJ.ch hS9).above hc hxk
  refine SameLines_ok hz'.rw hxy' hzl hzr ?_
  rw [decide_eq_true he]
  show BR (.bool true) _ _
  rw [BR_true]
  exact awake5_ok ⟨rfl, hQ _⟩

theorem nls_snoc {A : List UInt8} {i : Nat} (h : i < A.length) : nls (A.take (i + 1)) = nls (A.take i) + if A[i] = 10 then 1 else 0 := by
  unfold nls
  rw [List.take_succ_eq_append_getElem h, List.countP_append]
  by_cases e : A[i] = 10 <;> simp [e]
theorem cnt_loop {M : Store} {x5 x6 : Value} {A : List UInt8} (h : B M x5 A) (hA : A.length ≤ 2 ^ 20) {Q : Value → Store → Prop} (hK : P_fettlelaw5_LineJoins_2 x5 x6 (iv (nls A : Int)) M Q) :
    ∀ (k i c : Nat), k + i = A.length → c = nls (A.take i) → P_fettlelaw5_LineJoins_1 x5 x6 (iv (c : Int)) x5 (iv (A.length : Int)) (iv (i : Int)) M Q := by
  intro k
  induction k with
  | zero =>
    intro i c hi hc
    apply T_fettlelaw5_LineJoins_1
    unfold S_fettlelaw5_LineJoins_1
    rw [lss_n, BR_dec, if_neg (by omega), hc, List.take_of_length_le (by omega)]
    exact hK
  | succ k ih =>
    intro i c hi hc
    apply T_fettlelaw5_LineJoins_1
    unfold S_fettlelaw5_LineJoins_1
    have hil : i < A.length := by omega
    have hle := nls_le (A.take i)
    rw [List.length_take] at hle
    rw [lss_n, BR_dec, if_pos hil, by_ld h hil, bv_eqI (d := 10) (n := 10) rfl, BR_dec]
    have hs := nls_snoc hil
    split
    · rename_i e
      rw [if_pos e] at hs
      rw [add1_n _ (by omega), add1_n _ (by omega)]
      exact ih (i + 1) (c + 1) (by omega) (by omega)
    · rename_i e
      rw [if_neg e] at hs
      rw [add1_n _ (by omega)]
      exact ih (i + 1) c (by omega) (by omega)

theorem joins_mid {M : Store} {x5 x6 : Value} {raw t : List UInt8} (h5 : B M x5 (raw ++ [10])) (h6 : B M x6 t) (hr : raw.length ≤ 200) (ht : t.length ≤ 4000) {Q : Value → Store → Prop} (hQ : ∀ M, Q (tv true) M) :
    P_fettlelaw5_LineJoins_2 x5 x6 (iv (nls (raw ++ [10]) : Int)) M Q := by
  have hA : (raw ++ [10]).length ≤ 201 := by simp; omega
  have hnA := nls_le (raw ++ [10])
  obtain ⟨f1, f2, f3⟩ := joins_facts raw t
  have hft := ln_ft t
  generalize hAe : raw ++ [10] = A at *
  apply T_fettlelaw5_LineJoins_2
  unfold S_fettlelaw5_LineJoins_2
  refine (Split_ok h5 (by omega)).mono fun r1 M1 ⟨u1, hr1⟩ => ?_
  obtain ⟨w1, rfl, x1⟩ := hr1.of2
  rw [tp2_0, OP_some, tp2_1, OP_some]
  refine s_new fun M2 u2 o2 n2 => ?_
  refine s_st (vs := fcs (ftOf (splitF A))) o2 rfl rfl (fcs_one _) fun M3 c3 o3 n3 => ?_
  have u13 : Up M1 M3 := u2.ch c3 (by simp)
  have uM3 : Up M M3 := u1.trans u13
  refine (Split_ok (Sl.up h6 uM3) (by omega)).mono fun r2 M4 ⟨u4, hr2⟩ => ?_
  obtain ⟨w2, rfl, x2⟩ := hr2.of2
  rw [tp2_0, OP_some, tp2_1, OP_some]
  refine s_new fun M5 u5 o5 n5 => ?_
  refine s_st (vs := fcs (ftOf (splitF t))) o5 rfl rfl (fcs_one _) fun M6 c6 o6 n6 => ?_
  have u46 : Up M4 M6 := u5.ch c6 (by simp)
  have uM6 : Up M M6 := (uM3.trans u4).trans u46
  rw [show bldL (.int .u8 0) 1 0 [] = some ([] : List Value) from by kernel_rfl, OP_some]
  refine s_lit (s := 1) (n := 0) rfl fun M7 u7 hN7 o7 n7 => ?_
  have hN7 : N M6 M7 (.slice (some ⟨M6.n, 0, none⟩) 0 0) [] := hN7
  refine app_by u7 hN7 (Sl.up h5 (uM6.trans u7)) (by simp; omega) fun v8 M8 hu8 hN8 hk8 => ?_
  rw [List.nil_append] at hN8
  refine app_by hu8 hN8 (Sl.up h6 (uM6.trans hu8)) (by omega) fun v9 M9 hu9 hN9 hk9 => ?_
  refine (Split_ok hN9.by (by rw [List.length_append]; omega)).mono fun r3 M10 ⟨u10, hr3⟩ => ?_
  obtain ⟨w3, rfl, x3⟩ := hr3.of2
  rw [tp2_0, OP_some, tp2_1, OP_some]
  refine s_new fun M11 u11 o11 n11 => ?_
  refine s_st (vs := fcs (ftOf (splitF (A ++ t)))) o11 rfl rfl (fcs_one _) fun M12 c12 o12 n12 => ?_
  have u1012 : Up M10 M12 := u11.ch c12 (by simp)
  have u6 : Up M6 M12 := (hu9.trans u10).trans u1012
  have u3 : Up M3 M12 := (u4.trans u46).trans u6
  have o3' := o3.up u3
  have o6' := o6.up u6
  have o3l : Ob M12 M1.n [iv ((ftOf (splitF A)).1 : Int), iv ((ftOf (splitF A)).2.1 : Int), iv ((ftOf (splitF A)).2.2 : Int)] Ty.api_Fault := o3'
  have o6l : Ob M12 M4.n [iv ((ftOf (splitF t)).1 : Int), iv ((ftOf (splitF t)).2.1 : Int), iv ((ftOf (splitF t)).2.2 : Int)] Ty.api_Fault := o6'
  have x3' : RW2 M9 M12 w3 (rwOf (splitF (A ++ t))) := x3.up u1012
  have n1 := u13.n; have n4 := u4.n; have n46 := u46.n; have n9 := hu9.n; have n10 := u10.n
  simp only [fad0]
  rw [(Ob.l3 o3l).1, neq_l 0 0 rfl, BR_dec]
  have hlen0 : rwOf (splitF (A ++ t)) = [] → ∀ (M13 : Store) (R1 R2 : Prop), R1 → (OP (lenV w3) fun t68 => OP (binI .eql t68 (.int .i64 0)) fun t69 => BR t69 R1 R2) := fun he M13 R1 R2 hR1 => by
    rw [x3'.rw.lenV, OP_some, he]
    show OP (binI .eql (iv ((0 : Nat) : Int)) _) _
    rw [eql_l 0 0 rfl, BR_dec, if_pos rfl]
    exact hR1
  split
  · rename_i h1
    obtain ⟨e1, e2⟩ := f1 h1
    rw [ldF o12, OP_some, ldF o3', OP_some, ft_eq, e1, decide_eq_true rfl, BR_true]
    exact hlen0 e2 M12 _ _ (awake5_ok ⟨rfl, hQ _⟩)
  · rename_i h1
    have h1 : (ftOf (splitF A)).1 = 0 := Decidable.not_not.1 h1
    rw [(Ob.l3 o6l).1, neq_l 0 0 rfl, BR_dec]
    split
    · rename_i h2
      obtain ⟨e1, e2⟩ := f2 h1 h2
      rw [(Ob.l3 o6l).2.1, add_n _ _ (by omega)]
      refine s_st1 (i := 1) o6l (by simp) rfl rfl fun M14 c14 o14 n14 => ?_
      have o14' : Ob M14 M4.n (fcs (shF (nls A) (ftOf (splitF t)))) Ty.api_Fault := o14
      have o12' := o12.fr c14 (by simp; omega)
      rw [ldF o12', OP_some, ldF o14', OP_some, ft_eq, e1, decide_eq_true rfl, BR_true]
      exact hlen0 e2 M14 _ _ (awake5_ok ⟨rfl, hQ _⟩)
    · rename_i h2
      have h2 : (ftOf (splitF t)).1 = 0 := Decidable.not_not.1 h2
      obtain ⟨e1, e2⟩ := f3 h1 h2
      have hsz := rwOf_size t
      have hszz := rwOf_size (A ++ t)
      rw [List.length_append] at hszz
      have hlt := ln_rw t
      have hx2 : RW2 M3 M12 w2 (rwOf (splitF t)) := x2.up (u46.trans u6)
      obtain ⟨vs, y1, y2, y3⟩ := x2
      have y1' := y1.up (u46.trans u6)
      have y2' := y2.mono fun v x h => RowE.up h (u46.trans u6)
      rw [y1'.sl.lenV, OP_some]
      have hmem : ∀ b ∈ vs.filterMap bx, M3.n ≤ b ∧ b < M4.n := fun b hb => by
        obtain ⟨v, hv, hbv⟩ := List.mem_filterMap.1 hb
        obtain ⟨x, _, b', g1, g2, g3⟩ := Each.mem y2 v hv
        rw [hbv] at g1; injection g1 with g1; subst g1
        exact ⟨g2, g3⟩
      refine rows_loop (S := vs.filterMap bx) (M3 := M3) (M12 := M12) (vs := vs) y3 (fun v hv b hb => List.mem_filterMap.2 ⟨v, hv, hb⟩) (by omega) (fun r hr => by have := hsz.2 r hr; omega) (fun r hr w hw => by have := hlt r hr w hw; omega) (fun M' hJ => ?_)
        (rwOf (splitF t)).length 0 M12 _ rfl ⟨Ch.refl _ _, y1', y2'⟩ rfl (fun p h1 h2 => by rw [if_neg (by omega)])
      rw [e1] at o12
      exact joins_end x1 u1 u13 u3 (by omega) hJ (fun b hb => (hmem b hb).1) (fun b hb => by have := (hmem b hb).2; omega) x3' o12 (by omega) e2 (by omega) (fun r hr => by have := hszz.2 r hr; omega) hQ
theorem LineJoins_ok {M : Store} {x0 x1 : Value} {raw : List UInt8} {zs : List Int} (h0 : B M x0 raw) (hz : LV iv Ty.int M x1 zs) : R F.fettlelaw5_LineJoins #[x0, x1] M fun v M' => v = tv true := by
  refine R.cps fun Q hQ => ?_
  apply T_fettlelaw5_LineJoins
  unfold S_fettlelaw5_LineJoins
  rw [by_len h0, gtr_l 200 200 rfl, BR_dec]
  split
  · exact awake5_ok ⟨rfl, hQ _ _ rfl⟩
  · rename_i hr
    rw [show bldL (.int .u8 0) 1 0 [] = some ([] : List Value) from by kernel_rfl, OP_some]
    refine s_lit (s := 1) (n := 0) rfl fun M2 u2 hN2 o2 n2 => ?_
    have hN2 : N M M2 (.slice (some ⟨M.n, 0, none⟩) 0 0) [] := hN2
    refine app_by u2 hN2 (Sl.up h0 u2) (by simp; omega) fun v3 M3 hu3 hN3 hk3 => ?_
    rw [List.nil_append] at hN3
    show OP (bldL (.int .u8 0) 1 1 [(0, bv 10)]) _
    rw [bl_bv]
    refine s_lit (s := 1) rfl fun M4 u4 hl o4 n4 => ?_
    have hx4 : By Ty.uint8 M4 (.slice (some ⟨M3.n, 0, none⟩) 1 1) [10] := hl.sl
    refine app_by (hu3.trans u4) (Nw.up hN3 u4) hx4 (by simp; omega) fun v5 M5 hu5 hN5 hk5 => ?_
    refine (Text_ok (hz.up hu5)).mono fun v6 M6 ⟨u6, t, hN6, hl6⟩ => ?_
    have h5 : B M6 v5 (raw ++ [10]) := Sl.up hN5.by u6
    rw [by_len h5]
    exact cnt_loop h5 (by simp; omega) (joins_mid h5 hN6.by (by omega) hl6 (fun M => hQ _ M rfl)) (raw ++ [10]).length 0 0 rfl rfl
end Go.G
