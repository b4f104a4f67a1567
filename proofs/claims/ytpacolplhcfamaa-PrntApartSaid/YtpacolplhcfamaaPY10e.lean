/- PrntApart: two things have one print just if they are made by one action of the same inputs. -/
import Derived.Test.YtpacolplhcfamaaPY10d
import Derived.Test.YtpacolplhcfamaaPGDa
namespace Go.G
open Go.Ab Go.Proofs Go.RowKit
set_option linter.unusedVariables false
set_option linter.unusedSimpArgs false
set_option maxRecDepth 100000

theorem printF_inj {a b : List Dw} {x y : List (List UInt8)} (ha : okA a = true) (hb : okA b = true) (hx8 : x.length ≤ 8) (hy8 : y.length ≤ 8) (hx : ∀ z ∈ x, z.length ≤ 256) (hy : ∀ z ∈ y, z.length ≤ 256) (h : printF a x = printF b y) : a = b ∧ x = y := by
  have h1 := prntO_back (ta := 4000) (tt := 256) (by decide) (by decide) ha hx8 hx
  have h2 := prntO_back (ta := 4000) (tt := 256) (by decide) (by decide) hb hy8 hy
  rw [h, h2] at h1
  injection h1 with h1
  injection h1 with h1 h3
  exact ⟨h1.symm, h3.symm⟩
section
variable {x2 v p : Value} {l : List Dw} {ins : List (List UInt8)} {Q : Value → Store → Prop}
theorem apart_tail {M : Store} (hv : DS M v l) (h2 : BL M x2 ins) (hp : B M p (printF l ins)) (hok : okA l = true) (h8 : ins.length ≤ 8) (hi : ∀ x ∈ ins, x.length ≤ 256) (hQ : ∀ M, Q (tv true) M) :
    R F.prnt_Parse #[p] M fun t108_1 M13 =>
    OP (tup t108_1 0) fun t109_1 =>
    OP (tup t108_1 1) fun t110_1 =>
    OP (tup t108_1 2) fun t111_1 =>
    R F.prnt_Value #[p] M13 fun t114_1 M14 =>
    OP (tup t114_1 0) fun t115_1 =>
    OP (tup t114_1 1) fun t116_1 =>
    R F.fettleref4_Run #[v, x2] M14 fun t120_1 M15 =>
    OP (tup t120_1 0) fun t121_1 =>
    OP (tup t120_1 1) fun t122_1 =>
    BR t111_1 (
    R F.fettleref4_SameAct #[t109_1, v] M15 fun t127_1 M16 =>
    BR t127_1 (
    R F.fettleref1_SameRows #[t110_1, x2] M16 fun t132_1 M17 =>
    BR t132_1 (
    OP (abin Try.prog false .eql Ty.bool t116_1 t122_1) fun t137_1 =>
    BR t137_1 (
    OP (cvBS t115_1 M17) fun t141_1 =>
    OP (cvBS t121_1 M17) fun t143_1 =>
    OP (binS .eql t141_1 t143_1) fun t144_1 =>
    BR t144_1 (
    R F.fettlelaw10_awake #[] M17 fun t147_1 M18 =>
    NTs [t147_1] ∧ Q t147_1 M18
    ) (
    NTs [(.bool false)] ∧ Q (.bool false) M17
    )
    ) (
    NTs [(.bool false)] ∧ Q (.bool false) M17
    )
    ) (
    NTs [(.bool false)] ∧ Q (.bool false) M17
    )
    ) (
    NTs [(.bool false)] ∧ Q (.bool false) M16
    )
    ) (
    NTs [(.bool false)] ∧ Q (.bool false) M15
    ) := by
  have hpl := printF_len hok h8 hi
  obtain ⟨hra, hl1, hl8⟩ := okA_all hok
  have hdl : ∀ d ∈ l, d.2.2.length ≤ 2 ^ 10 := fun d hd => by have := (right_bounds (hra d hd)).2.2.2.2; omega
  have hbk := prntO_back (ta := 4000) (tt := 256) (by decide) (by decide) hok h8 hi
  refine (PParse_ok hp (by omega)).mono fun r M1 ⟨u1, hr⟩ => ?_
  rw [hbk] at hr
  obtain ⟨wl, wr, e, hDl, hN⟩ := hr
  subst e
  rw [(tp3b _ _ _).1, (tp3b _ _ _).2.1, (tp3b _ _ _).2.2]
  simp only at hN hDl
  refine (PValue_ok (Sl.up hp u1) (by omega)).mono fun r2 M2 ⟨u2, hr2⟩ => ?_
  rw [valO_print hok h8 hi] at hr2
  have h2' := h2.up B_up (u1.trans u2)
  have fin : ∀ (w1 w2 : Value) (t : List UInt8) (ok : Bool) (M3 : Store), Up M M3 → Up M1 M3 → B M3 w1 t → B M3 w2 t →
      R F.fettleref4_SameAct #[wl, v] M3 fun t127_1 M16 =>
      BR t127_1 (
      R F.fettleref1_SameRows #[wr, x2] M16 fun t132_1 M17 =>
      BR t132_1 (
      OP (abin Try.prog false .eql Ty.bool (.bool ok) (.bool ok)) fun t137_1 =>
      BR t137_1 (
      OP (cvBS w1 M17) fun t141_1 =>
      OP (cvBS w2 M17) fun t143_1 =>
      OP (binS .eql t141_1 t143_1) fun t144_1 =>
      BR t144_1 (
      R F.fettlelaw10_awake #[] M17 fun t147_1 M18 =>
      NTs [t147_1] ∧ Q t147_1 M18
      ) (
      NTs [(.bool false)] ∧ Q (.bool false) M17
      )
      ) (
      NTs [(.bool false)] ∧ Q (.bool false) M17
      )
      ) (
      NTs [(.bool false)] ∧ Q (.bool false) M17
      )
      ) (
      NTs [(.bool false)] ∧ Q (.bool false) M16
      ) := by
    intro w1 w2 t ok M3 u3 u13 hw1 hw2
    refine (SameAct_ok (Sl.up hDl.sl u13) (Sl.up hv u3) (by omega)).mono fun r4 M4 ⟨e4, e5⟩ => ?_
    subst e4; subst e5
    rw [BR_dec, if_pos rfl]
    refine (Same_ok ((nls_bl hN).up B_up u13) (h2.up B_up u3) (by omega) (by omega)).mono fun r5 M5 ⟨e6, e7⟩ => ?_
    subst e6; subst e7
    rw [BR_dec, if_pos rfl]
    show OP (abin Try.prog false .eql Ty.bool (tv ok) (tv ok)) _
    rw [bool_eq', BR_bool, if_pos (by simp), cvBS_ok hw1, OP_some, cvBS_ok hw2, OP_some]
    show OP (binS .eql (sv t) (sv t)) _
    rw [sv_eq, BR_dec, if_pos rfl]
    exact awake10_ok ⟨rfl, hQ _⟩
  cases hrun : runA l ins with
  | none =>
    rw [hrun] at hr2
    have hr2 : r2 = .tuple #[.slice none 0 0, .bool false] := hr2
    subst hr2
    rw [(tp2b _ _).1, (tp2b _ _).2]
    refine (RRunE (Sl.up hv (u1.trans u2)) (by omega) hdl h2' (by omega) (fun y hy => by have := hi y hy; omega)).mono fun r3 M3 ⟨u3, hr3⟩ => ?_
    rw [hrun] at hr3
    have hr3 : r3 = .tuple #[.slice none 0 0, .bool false] := hr3
    subst hr3
    rw [(tp2b _ _).1, (tp2b _ _).2, BR_bool, if_pos rfl]
    exact fin _ _ [] false M3 ((u1.trans u2).trans u3) (u2.trans u3) (Sl.nil _ _ _) (Sl.nil _ _ _)
  | some t =>
    rw [hrun] at hr2
    obtain ⟨wv, e2, hNv, htl⟩ := hr2
    subst e2
    rw [(tp2b _ _).1, (tp2b _ _).2]
    refine (RRunE (Sl.up hv (u1.trans u2)) (by omega) hdl h2' (by omega) (fun y hy => by have := hi y hy; omega)).mono fun r3 M3 ⟨u3, hr3⟩ => ?_
    rw [hrun] at hr3
    obtain ⟨wv3, e3, hB3, _⟩ := hr3
    subst e3
    rw [(tp2b _ _).1, (tp2b _ _).2, BR_bool, if_pos rfl]
    exact fin _ _ t true M3 ((u1.trans u2).trans u3) (u2.trans u3) (Sl.up hNv.by u3) hB3
end
section
variable {x0 x1 x2 x12 : Value} {ns ms : List Int} {ins xs : List (List UInt8)} {Q : Value → Store → Prop}
theorem apart5 {M : Store} (h0 : LV iv Ty.int M x0 ns) (h1 : LV iv Ty.int M x1 ms) (h2 : BL M x2 ins) (h12 : BL M x12 xs) (h8 : ins.length ≤ 8) (hi : ∀ x ∈ ins, x.length ≤ 256) (hx8 : xs.length ≤ 8) (hx : ∀ x ∈ xs, x.length ≤ 256) (hQ : ∀ M, Q (tv true) M) :
    P_fettlelaw10_PrntApart_5 x0 x1 x2 x12 M Q := by
  apply T_fettlelaw10_PrntApart_5
  unfold S_fettlelaw10_PrntApart_5
  refine (Act_okA h0).mono fun v M1 ⟨u1, l, hD, _, _, _, hok⟩ => ?_
  refine (Act_okA (h1.up u1)).mono fun w M2 ⟨u2, k, hE, _, _, _, hok2⟩ => ?_
  obtain ⟨hra, hl1, hl8⟩ := okA_all hok
  obtain ⟨hrb, hk1, hk8⟩ := okA_all hok2
  have u02 := u1.trans u2
  refine (PPrint_ok (Sl.up hD.sl u2) (by omega) (fun d hd => by have := (right_bounds (hra d hd)).2.2.2.2; omega) (h2.up B_up u02) (by omega) (fun y hy => by have := hi y hy; omega)).mono fun p M3 ⟨u3, hp⟩ => ?_
  refine (PPrint_ok (Sl.up hE.sl u3) (by omega) (fun d hd => by have := (right_bounds (hrb d hd)).2.2.2.2; omega) (h12.up B_up (u02.trans u3)) (by omega) (fun y hy => by have := hx y hy; omega)).mono fun q M4 ⟨u4, hq⟩ => ?_
  have u24 := u3.trans u4
  have u04 := u02.trans u24
  refine (SameAct_ok (Sl.up hD.sl (u2.trans u24)) (Sl.up hE.sl u24) (by omega)).mono fun r5 M5 ⟨e5, e6⟩ => ?_
  subst e5; subst e6
  have hp5 := Sl.up hp.by u4
  have tail := apart_tail (Q := Q) (Sl.up hD.sl (u2.trans u24)) (h2.up B_up u04) hp5 hok h8 hi hQ
  rw [BR_dec]
  split
  · rename_i hlk
    subst hlk
    refine (Same_ok (h2.up B_up u04) (h12.up B_up u04) (by omega) (by omega)).mono fun r6 M6 ⟨e7, e8⟩ => ?_
    subst e7; subst e8
    rw [cvBS_ok hp5, OP_some, cvBS_ok hq.by, OP_some]
    show OP (binS .eql (sv (printF l ins)) (sv (printF l xs))) _
    rw [sv_eq]
    show OP (abin Try.prog false .neq Ty.bool (tv _) (tv _)) _
    rw [bool_ne', BR_bool, if_neg]
    · exact tail
    · by_cases e : ins = xs
      · subst e; simp
      · have : ¬ printF l ins = printF l xs := fun h => e (printF_inj hok hok h8 hx8 hi hx h).2
        simp [e, this]
  · rename_i hlk
    rw [cvBS_ok hp5, OP_some, cvBS_ok hq.by, OP_some]
    show OP (binS .eql (sv (printF l ins)) (sv (printF k xs))) _
    rw [sv_eq]
    show OP (abin Try.prog false .neq Ty.bool (tv _) (tv _)) _
    rw [bool_ne', BR_bool, if_neg]
    · exact tail
    · have : ¬ printF l ins = printF k xs := fun h => hlk (printF_inj hok hok2 h8 hx8 hi hx h).1
      simp [this]
/-- What lies in the boxes of a region's earlier steps may be touched. -/
theorem Ch.tdxR {M M' : Store} {b : Nat} (h : Ch [b] M M') (ho : (M.get b).isSome = true) {bs Ns : List Nat} {i : Nat} (hacc : accB bs Ns i b = true) : TDx bs Ns i M M' :=
  ⟨h.n, fun c hc => by
    rcases h.tdiff c hc with hc | hc
    · exact .inl hc
    · have : c = b := by simpa using hc
      subst this
      exact .inr ⟨ho, hacc⟩⟩
theorem accB_of {bs Ns : List Nat} {i b j : Nat} (hj : j < i) (ht : (bs.getD i 0).testBit j = true) (h1 : Ns.getD j 0 ≤ b) (h2 : b < Ns.getD (j + 1) 0) : accB bs Ns i b = true := by
  unfold accB
  rw [Bool.or_eq_true]
  refine .inr (List.any_eq_true.2 ⟨j, List.mem_range.2 hj, ?_⟩)
  rw [ht, Bool.true_and, Bool.and_eq_true]
  exact ⟨decide_eq_true h1, decide_eq_true h2⟩
theorem apart4 {M : Store} {at' : Int} {same : Bool} (h0 : LV iv Ty.int M x0 ns) (h1 : LV iv Ty.int M x1 ms) (h2 : BL M x2 ins) (h8 : ins.length ≤ 8) (hi : ∀ x ∈ ins, x.length ≤ 256) (hQ : ∀ M, Q (tv true) M) :
    P_fettlelaw10_PrntApart_4 x0 x1 x2 (iv at') (tv same) M Q := by
  apply T_fettlelaw10_PrntApart_4
  unfold S_fettlelaw10_PrntApart_4
  have plain := apart5 (x0 := x0) (x1 := x1) (Q := Q) h0 h1 h2 h2 h8 hi h8 hi hQ
  rw [e_not, BR_bool]
  split
  · rw [h2.lenV, OP_some]
    show OP (binI .gtr (iv (ins.length : Int)) (.int .i64 0)) _
    rw [gtr_l 0 0 rfl, BR_dec]
    split
    · rename_i hpos
      show OP (binI .and (.int .i64 at') (.int .i64 ((255 : Nat) : Int))) _
      rw [e_andN at' 255 (by decide), OP_some, OP_some, e_rem _ _ hpos, OP_some]
      have hk : andN at' 255 % ins.length < ins.length := Nat.mod_lt _ hpos
      generalize andN at' 255 % ins.length = k at *
      rw [show bldL (.slice none 0 0) 1 0 [] = some [] from by kernel_rfl, OP_some]
      refine s_lit (s := 1) (n := 0) rfl fun M1 u1 g1 _ _ => ?_
      obtain ⟨vs, a1, a2⟩ := h2
      obtain ⟨t59, M2, e2, u2, N2, _, _, _⟩ := Nw.appV (M0 := M) u1 g1 (Sl.up a1 u1) (by omega)
      rw [e2, OP2_some]
      rw [Nat.zero_add, List.nil_append] at N2
      have h2 : BL M x2 ins := ⟨vs, a1, a2⟩
      rw [show bldL (.int .u8 0) 1 0 [] = some [] from by kernel_rfl, OP_some]
      refine s_lit (s := 1) (n := 0) rfl fun M3 u3 g3 _ n3 => ?_
      have u03 := u2.trans u3
      have hx3 := hi _ (List.getElem_mem hk)
      refine bl_ld (h2.up B_up u03) hk fun w hw => ?_
      refine bl_ld (h2.up B_up u03) hk fun w' hw' => ?_
      rw [by_len hw']
      show OP (amin2 (.int .i64 (ins[k].length : Int)) (.int .i64 255)) _
      rw [e_min]
      obtain ⟨q, hq, hql, hq255⟩ : ∃ q : Nat, (if (255 : Int) < (ins[k].length : Int) then (255 : Int) else (ins[k].length : Int)) = (q : Int) ∧ q ≤ ins[k].length ∧ q ≤ 255 := by
        by_cases h : (255 : Int) < (ins[k].length : Int)
        · exact ⟨255, by rw [if_pos h]; rfl, by omega, by omega⟩
        · exact ⟨ins[k].length, by rw [if_neg h], by omega, by omega⟩
      rw [hq]
      obtain ⟨v4, e4, hB4⟩ := hw.cut (lo := none) (hi := some (.int .i64 (q : Int))) (a := 0) (r := q) (ab_some hql .i64) rfl hql (Nat.zero_le _)
      rw [e4, OP_some]
      rw [List.drop_zero] at hB4
      have g3 : N M2 M3 (.slice (some ⟨M2.n, 0, none⟩) 0 0) [] := g3
      obtain ⟨t74, M4, e5, u4, N4, n4, _, c4⟩ := NB.app u3 g3 hB4 (by simp; omega)
      rw [e5, OP2_some]
      rw [List.nil_append] at N4
      have c4 : Ch [] M3 M4 := c4
      have u34 : Up M3 M4 := c4
      refine ⟨u34.tdj _ _, ?_⟩
      show OP (binI .shr (.int .i64 at') (.int .u64 ((8 : Nat) : Int))) _
      rw [e_shrN at' 8 (by decide), cv_u8N]
      generalize u8N (shrN at' 8) = c at *
      rw [bl_bv]
      refine s_lit (s := 1) rfl fun M5 u5 g5 _ n5 => ?_
      have hx5 : By Ty.uint8 M5 (.slice (some ⟨M4.n, 0, none⟩) 1 1) [c] := g5.sl
      obtain ⟨t79, M6, e6, u6, N6, n6, _, c6⟩ := NB.app (u4.trans u5) (Nw.up N4 u5) hx5 (by rw [List.length_take, List.length_singleton]; omega)
      rw [e6, OP2_some]
      refine ⟨?_, ?_⟩
      · cases hkl : kil t74 with
        | none =>
          have : Up M5 M6 := by have := c6; rw [show kl t74 = [] from by unfold kl; rw [hkl]; rfl] at this; exact this
          exact this.tdx _ _ _
        | some b =>
          have hb := Nw.bx_in N4 hkl
          have c6 : Ch [b] M5 M6 := by have := c6; rw [show kl t74 = [b] from by unfold kl; rw [hkl]; rfl] at this; exact this
          refine Ch.tdxR c6 ?_ ?_
          · obtain ⟨cells, hc⟩ := Nw.kl_inl (Nw.up N4 u5) (b := b) (by rw [mem_kl]; exact hkl)
            rw [hc]; rfl
          · by_cases hlt : b < M3.n
            · exact accB_of (j := 2) (by decide) (by decide) hb.1 hlt
            · exact accB_of (j := 14) (by decide) (by decide) (by simpa using hlt) hb.2
      · have u26 : Up M2 M6 := u6
        obtain ⟨p7, M7, b7, e7, _, e8, N7, hbx, hb0, hbn, c7⟩ := Nw.put1 (Nw.up N2 u26) hk .i64 (w := t79) (by obtain ⟨a, c, rfl⟩ := N6.sl.slice; rfl) (by obtain ⟨a, c, rfl⟩ := N6.sl.slice; rfl)
        show OP (ixA 1 t59 (.int .i64 (k : Int))) _
        rw [e7, OP_some, e8, OP_some]
        have hb7 : b7 < M2.n := by
          obtain ⟨g, ⟨g2, _⟩ | ⟨b', cells, cp, rfl, hb, h6, _⟩⟩ := N2
          · omega
          · have : b' = b7 := by simpa [bx] using hbx
            subst this
            exact M2.lt_of_get h6
        refine ⟨Ch.tdxR c7 ?_ ?_, ?_⟩
        · obtain ⟨g, ⟨g2, _⟩ | ⟨b', cells, cp, rfl, hb, h6, _⟩⟩ := Nw.up N2 u26
          · omega
          · have : b' = b7 := by simpa [bx] using hbx
            subst this
            rw [h6]; rfl
        · unfold accB
          rw [Bool.or_eq_true]
          exact .inl (decide_eq_true hb7)
        · have u06 : Up M M6 := u2.trans u26
          have u07 : Up M M7 := u06.ch c7 (by simpa using hb0)
          have hk7 : Keep Ty.sl_uint8 M6 M7 := by
            obtain ⟨g, ⟨g2, _⟩ | ⟨b', cells, cp, rfl, hb, h6, _⟩⟩ := Nw.up N2 u26
            · omega
            · have : b' = b7 := by simpa [bx] using hbx
              subst this
              exact c7.keepT (show Ob M6 b' cells Ty.sl_uint8 from h6)
          have hB79 : B M7 t79 (ins[k].take q ++ [c]) := Sl.keep N6.by ne_u8_sl hk7
          have hset : BL M7 t59 (ins.set k (ins[k].take q ++ [c])) := by
            refine ⟨vs.set k t79, by rw [List.length_set]; exact N7.sl, ?_⟩
            have hE : Each (B M7) vs ins := a2.mono fun v x h => Sl.up h u07
            have : ∀ (vs : List Value) (xs : List (List UInt8)) (k : Nat) (y : List UInt8), Each (B M7) vs xs → B M7 t79 y → Each (B M7) (vs.set k t79) (xs.set k y) := by
              intro vs
              induction vs with
              | nil => intro xs k y h _; cases xs with
                | nil => trivial
                | cons _ _ => exact h.elim
              | cons v vs ih => intro xs k y h hy; cases xs with
                | nil => exact h.elim
                | cons x xs => cases k with
                  | zero => exact ⟨hy, h.2⟩
                  | succ k => exact ⟨h.1, ih xs k y h.2 hy⟩
            exact this vs ins k _ hE hB79
          refine apart5 (h0.up u07) (h1.up u07) (h2.up B_up u07) hset h8 hi (by rw [List.length_set]; exact h8) (fun y hy => ?_) hQ
          rcases List.mem_or_eq_of_mem_set hy with hy | hy
          · exact hi y hy
          · rw [hy, List.length_append, List.length_take, List.length_singleton]; omega
    · exact plain
  · exact plain
theorem apart_check {M : Store} {at' : Int} {same : Bool} (h0 : LV iv Ty.int M x0 ns) (h1 : LV iv Ty.int M x1 ms) (h2 : BL M x2 ins) (h8 : ins.length ≤ 8) (hQ : ∀ M, Q (tv true) M) : ∀ (k i : Nat), k + i = ins.length → (∀ j (hj : j < i) (hl : j < ins.length), ins[j].length ≤ 256) → P_fettlelaw10_PrntApart_2 x0 x1 x2 (iv at') (tv same) (iv (ins.length : Int)) (iv (i : Int)) M Q := by
  intro k
  induction k with
  | zero =>
    intro i hi hj
    apply T_fettlelaw10_PrntApart_2
    unfold S_fettlelaw10_PrntApart_2
    rw [lss_n, BR_dec, if_neg (by omega)]
    refine apart4 h0 h1 h2 h8 (fun x hx => ?_) hQ
    obtain ⟨j, hjl, rfl⟩ := List.getElem_of_mem hx
    exact hj j (by omega) hjl
  | succ k ih =>
    intro i hi hj
    have hil : i < ins.length := by omega
    apply T_fettlelaw10_PrntApart_2
    unfold S_fettlelaw10_PrntApart_2
    rw [lss_n, BR_dec, if_pos hil]
    apply T_fettlelaw10_PrntApart_3
    unfold S_fettlelaw10_PrntApart_3
    refine bl_ld h2 hil fun w hw => ?_
    rw [by_len hw, gtr_l 256 256 rfl, BR_dec]
    split
    · exact awake10_ok ⟨rfl, hQ _⟩
    · rename_i hle
      rw [add1_n _ (by omega)]
      refine ih (i + 1) (by omega) fun j hj' hl => ?_
      by_cases e : j = i
      · subst e; omega
      · exact hj j (by omega) hl
end
theorem PrntApart_ok {M : Store} {x0 x1 x2 : Value} {ns ms : List Int} {ins : List (List UInt8)} {at' : Int} {same : Bool} (h0 : LV iv Ty.int M x0 ns) (h1 : LV iv Ty.int M x1 ms) (h2 : BL M x2 ins) : R F.fettlelaw10_PrntApart #[x0, x1, x2, iv at', tv same] M fun v M' => v = tv true := by
  refine R.cps fun Q hQ => ?_
  have hQ : ∀ M, Q (tv true) M := fun M => hQ _ _ rfl
  apply T_fettlelaw10_PrntApart
  unfold S_fettlelaw10_PrntApart
  have go : ∀ (y : Value) (xs : List (List UInt8)), BL M y xs → xs.length ≤ 8 → P_fettlelaw10_PrntApart_1 x0 x1 y (iv at') (tv same) M Q := by
    intro y xs hy h8
    apply T_fettlelaw10_PrntApart_1
    unfold S_fettlelaw10_PrntApart_1
    rw [hy.lenV, OP_some]
    exact apart_check h0 h1 hy h8 hQ xs.length 0 rfl fun j hj => by omega
  rw [h2.lenV, OP_some]
  show OP (binI .gtr (iv (ins.length : Int)) (.int .i64 8)) _
  rw [gtr_l 8 8 rfl, BR_dec]
  split
  · obtain ⟨v', e, hL⟩ := Ls.cut h2 (lo := none) (hi := some (iv ((8 : Nat) : Int))) (a := 0) (r := 8) (ab_some (by omega) .i64) rfl (by omega) (by omega)
    have e : slV 1 Ty.sl_uint8 x2 none (some (.int .i64 8)) M = some v' := e
    rw [e, OP_some]
    exact go v' _ hL (by simp; omega)
  · exact go x2 ins h2 (by omega)
end Go.G
