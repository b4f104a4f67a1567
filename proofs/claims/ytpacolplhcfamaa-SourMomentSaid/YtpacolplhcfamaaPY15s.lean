/- SourMoment: the walk of one step, and of what is told at last. -/
import Derived.Test.YtpacolplhcfamaaPY15k
import Derived.Test.YtpacolplhcfamaaPGFt
namespace Go.G
open Go.Ab Go.Proofs Go.RowKit
set_option linter.unusedVariables false
set_option linter.unusedSimpArgs false
set_option maxRecDepth 100000

theorem Sl.frn {s e M M' v n cs} (h : Sl s e M v n cs) {S : List Nat} (k : Ch S M M') (hS : 0 < n → ∀ b, bx v = some b → b ∉ S) : Sl s e M' v n cs := by
  obtain ⟨h1, a, c, rfl, h3, h4⟩ := h
  refine ⟨h1, a, c, rfl, h3, fun hn => ?_⟩
  obtain ⟨b, o, cells, e', own, rfl, h6, h7⟩ := h4 hn
  exact ⟨b, o, cells, e', own, rfl, k.at h6 (hS hn _ rfl), h7⟩
theorem Sl.bx_lt {s e M v n cs} (h : Sl s e M v n cs) (hn : 0 < n) : ∀ b, bx v = some b → b < M.n := by
  obtain ⟨h1, a, c, rfl, h3, h4⟩ := h
  obtain ⟨b, o, cells, e', own, rfl, h6, h7⟩ := h4 hn
  intro b' hb'
  simp only [bx, Option.some.injEq] at hb'
  subst hb'
  exact M.lt_of_get h6
/-- Rows that a reader does not touch. -/
def BBx (O : List Nat) (M : Store) (v : Value) (ll : List (List UInt8)) : Prop := BB M v ll ∧ (0 < ll.length → ∀ b, bx v = some b → b ∉ O)
theorem BBx.up (O : List Nat) (M M' : Store) (v : Value) (x : List (List UInt8)) (h : BBx O M v x) (k : Up M M') : BBx O M' v x := ⟨Ls.up By.up' h.1 k, h.2⟩
theorem BBx.keep (O : List Nat) {e : TypeId} (h1 : Ty.sl_uint8 ≠ e) (h2 : Ty.uint8 ≠ e) (M M' : Store) (v : Value) (x : List (List UInt8)) (h : BBx O M v x) (k : Keep e M M') : BBx O M' v x := ⟨Ls.keep (By.keep' h2) h.1 h1 k, h.2⟩
theorem RdrR.away {M0 M : Store} {br : Nat} {mv : Value} {st : RSt} {O : List Nat} (h : RdrR M0 M br mv st O) {e : TypeId} (e1 : e ≠ Ty.sour_Read) (e2 : e ≠ Ty.sl_uint8) (e3 : e ≠ Ty.int) : Away e M O := by
  obtain ⟨h1, h2, nm, vv, tt, h3, h4, h5⟩ := h
  intro b hb
  rw [h5] at hb
  rcases List.mem_cons.1 hb with rfl | hb
  · exact .inl ⟨_, _, h3, e1⟩
  · rcases List.mem_append.1 hb with hb | hb
    · obtain ⟨vs, g, _⟩ := h4.vv
      obtain ⟨cells, hc⟩ := g.kl_inl hb
      exact .inl ⟨_, _, hc, e2⟩
    · obtain ⟨cells, hc⟩ := Nw.kl_inl h4.tt hb
      exact .inl ⟨_, _, hc, e3⟩
theorem RdrR.chA {M0 M M' : Store} {br : Nat} {mv : Value} {st : RSt} {O S : List Nat} (h : RdrR M0 M br mv st O) (k : Ch S M M') (ha : ∀ e, e ≠ Ty.simf_FS → Away e M S) : RdrR M0 M' br mv st O := by
  obtain ⟨h1, h2, nm, vv, tt, h3, h4, h5⟩ := h
  refine ⟨h1, h2, nm, vv, tt, Ob.away h3 (ha _ (by decide)) k, ⟨Sl.chS h4.nm k (ha _ (by decide)), ?_, Nw.away h4.tt (ha _ (by decide)) k⟩, h5⟩
  obtain ⟨vs, g1, g2⟩ := h4.vv
  exact ⟨vs, Nw.away g1 (ha _ (by decide)) k, g2.mono fun v x hx => Sl.chS hx k (ha _ (by decide))⟩
theorem RdrR.keepT {M0 M M' : Store} {br : Nat} {mv : Value} {st : RSt} {O : List Nat} (h : RdrR M0 M br mv st O) (k : Keep Ty.sl_sl_uint8 M M') : RdrR M0 M' br mv st O := by
  obtain ⟨h1, h2, nm, vv, tt, h3, h4, h5⟩ := h
  exact ⟨h1, h2, nm, vv, tt, h3.keep (by decide) k, ⟨Sl.keep h4.nm (by decide) k, NLs.keep (By.keep' (by decide)) h4.vv (by decide) k, Nw.keep h4.tt (by decide) k⟩, h5⟩
/-- What the statement has beside the files and the reader. -/
structure MoR (M0 M : Store) (x6 x9 x12 : Value) (O : List Nat) (L : List (List UInt8)) (T : List (List (List UInt8))) : Prop where
  a : LV sv Ty.string M x6 A4
  l : LV sv Ty.string M x9 L
  t : NLs (BBx O) Ty.sl_sl_uint8 M0 M x12 T
section
variable {M0 M M' : Store} {x6 x9 x12 : Value} {O : List Nat} {L : List (List UInt8)} {T : List (List (List UInt8))}
theorem MoR.up (h : MoR M0 M x6 x9 x12 O L T) (k : Up M M') : MoR M0 M' x6 x9 x12 O L T := ⟨h.a.up k, h.l.up k, NLs.up (BBx.up O) h.t k⟩
theorem MoR.chA {S : List Nat} (h : MoR M0 M x6 x9 x12 O L T) (k : Ch S M M') (ha : ∀ e, e ≠ Ty.simf_FS → Away e M S) : MoR M0 M' x6 x9 x12 O L T := by
  refine ⟨Sl.chS h.a k (ha _ (by decide)), Sl.chS h.l k (ha _ (by decide)), ?_⟩
  obtain ⟨vs, g1, g2⟩ := h.t
  refine ⟨vs, Nw.away g1 (ha _ (by decide)) k, g2.mono fun v x ⟨⟨ws, hx1, hx2⟩, hx3⟩ => ⟨⟨ws, Sl.chS hx1 k (ha _ (by decide)), hx2.mono fun w y hy => Sl.chS hy k (ha _ (by decide))⟩, hx3⟩⟩
theorem MoR.step {br : Nat} {mv : Value} {st : RSt} {O' : List Nat} (h : MoR M0 M x6 x9 x12 O L T) (hr : RdrR M0 M br mv st O) (k : Ch O M M') (hO : ∀ b ∈ O', b ∈ O ∨ M.n ≤ b) : MoR M0 M' x6 x9 x12 O' L T := by
  refine ⟨Sl.chS h.a k (hr.away (by decide) (by decide) (by decide)), Sl.chS h.l k (hr.away (by decide) (by decide) (by decide)), ?_⟩
  obtain ⟨vs, g1, g2⟩ := h.t
  refine ⟨vs, Nw.away g1 (hr.away (by decide) (by decide) (by decide)) k, g2.mono fun v x ⟨⟨ws, hx1, hx2⟩, hx3⟩ => ⟨⟨ws, Sl.frn hx1 k hx3, hx2.mono fun w y hy => Sl.chS hy k (hr.away (by decide) (by decide) (by decide))⟩, fun hn b hb hm => ?_⟩⟩
  rcases hO b hm with hm | hm
  · exact hx3 hn b hb hm
  · have := Sl.bx_lt hx1 hn b hb; omega
end
section
variable {M0 M : Store} {bf r room U last : Nat} {fl : Fl}
theorem value_law (h : FSR M0 M bf r room U last fl) {s : List UInt8} (hs : nameOk s) : R F.fettlelaw15_value #[pB bf, sv s] M fun v M' => Up M M' ∧ B M' v (valF fl s) := by
  refine R.cps fun Q hQ => ?_
  apply T_fettlelaw15_value
  unfold S_fettlelaw15_value
  have fin : ∀ (M1 : Store) (w a b : Value) (l : List UInt8), Up M M1 → B M1 w l → l.length ≤ 2 ^ 20 → valF fl s = (if madeP s = true then ((openF l).map (·.2)).getD [] else l) →
      (OP (tup (.tuple #[w, a, b]) 0) fun t15 => OP (tup (.tuple #[w, a, b]) 1) fun t16 => OP (tup (.tuple #[w, a, b]) 2) fun t17 => R F.fettlelaw15_made #[sv s] M1 fun t19 M2 => BR t19 (R F.fettleref10_Open #[t15] M2 fun t22 M3 => OP (tup t22 0) fun t23 => OP (tup t22 1) fun t24 => OP (tup t22 2) fun t25 => NTs [t24] ∧ Q t24 M3) (NTs [t15] ∧ Q t15 M2)) := by
    intro M1 w a b l u1 hw hl hv
    rw [(tp3 _ _ _).1, (tp3 _ _ _).2.1, (tp3 _ _ _).2.2]
    refine made_run s M1 ?_
    rw [BR_bool]
    split
    · rename_i hm
      rw [if_pos hm] at hv
      refine (ROpen_ok hw (by omega)).mono fun rv M3 ⟨u3, x, y, e, h1, h2⟩ => ?_
      subst e
      rw [(tp3 _ _ _).1, (tp3 _ _ _).2.1, (tp3 _ _ _).2.2]
      refine ⟨nts_of h2, hQ _ _ ⟨u1.trans u3, ?_⟩⟩
      rw [hv]
      cases ho : openF l with
      | none => rw [ho] at h2; exact h2
      | some q => rw [ho] at h2; exact h2
    · rename_i hm
      rw [if_neg hm] at hv
      refine ⟨nts_of hw, hQ _ _ ⟨u1, ?_⟩⟩
      rw [hv]; exact hw
  refine (Read_f h hs).mono fun v M1 ⟨u1, hr⟩ => ?_
  cases hf : fl s with
  | none =>
    rw [hf] at hr
    have hr : v = .tuple #[.slice none 0 0, iv 0, iv 4] := hr
    subst hr
    exact fin M1 _ _ _ [] u1 (Sl.nil _ _ _) (by simp) (by unfold valF; rw [hf])
  | some q =>
    rw [hf] at hr
    obtain ⟨w, e, hN⟩ := hr
    subst e
    exact fin M1 _ _ _ q.1 u1 hN.by (h.sz s q hf) (by unfold valF; rw [hf])
end
section
variable {M0 : Store} {x1 x6 x9 x12 : Value} {bf r U last : Nat} {fl : Fl} {br n i : Nat} {Q : Value → Store → Prop} {L : List (List UInt8)} {T : List (List (List UInt8))} {st : RSt} {O : List Nat}
theorem mo_now {Mb : Store} {v12 : Value} (hf : FSR M0 Mb bf r 1048576 U last fl) (hl : LV sv Ty.string Mb x9 L) (hn : ∀ s ∈ L, nameOk s) (hL : L.length ≤ 6)
    (hK : ∀ M acc, Up Mb M → NLs B Ty.sl_uint8 Mb M acc (L.map (valF fl)) → P_fettlelaw15_SourMoment_10 x1 (pB bf) x6 x9 (pB br) v12 (nv n) (nv i) acc M Q) :
    ∀ (k j : Nat) (M : Store) (acc : Value), k + j = L.length → Up Mb M → NLs B Ty.sl_uint8 Mb M acc ((L.take j).map (valF fl)) → P_fettlelaw15_SourMoment_9 x1 (pB bf) x6 x9 (pB br) v12 (nv n) (nv i) acc x9 (nv L.length) (nv j) M Q := by
  intro k
  induction k with
  | zero =>
    intro j M acc hj hu hN
    apply T_fettlelaw15_SourMoment_9
    unfold S_fettlelaw15_SourMoment_9
    rw [lss_n, BR_dec, if_neg (by omega)]
    rw [List.take_of_length_le (by omega)] at hN
    exact hK M acc hu hN
  | succ k ih =>
    intro j M acc hj hu hN
    have hjl : j < L.length := by omega
    apply T_fettlelaw15_SourMoment_9
    unfold S_fettlelaw15_SourMoment_9
    rw [lss_n, BR_dec, if_pos hjl]
    obtain ⟨p, e1, e2⟩ := (hl.up hu).at hjl .i64
    rw [e1, OP_some, e2, OP_some]
    refine (value_law (hf.up hu) (hn _ (List.getElem_mem hjl))).mono fun w M1 ⟨u1, hw⟩ => ?_
    obtain ⟨xa, xc, rfl⟩ := hw.slice
    rw [bl_sl1, LT_eq]
    obtain ⟨v', M3, e3, hu3, hN3, _⟩ := NLs.app1 (By.keep' (by decide)) (hu.trans u1) (NLs.up By.up' hN u1) hw (by simp; omega)
    rw [e3, OP2_some, add1_n _ (by omega)]
    refine ih (j + 1) M3 v' (by omega) hu3 ?_
    rw [List.take_succ_eq_append_getElem hjl, List.map_append]
    exact hN3
/-- What is told at last. -/
theorem mo_last (hQ : ∀ M, Q (tv true) M) {M : Store} (hu : Up M0 M) (hf : FSR M0 M bf r 1048576 U last fl) (hr : RdrR M0 M br mvF st O) (hL : st.L = L) (hLz : L.length ≤ 6) (hn : ∀ s ∈ L, nameOk s) (ho : st.over = true) (ht : st.told = 1) :
    P_fettlelaw15_SourMoment_19 (pB bf) (pB br) M Q := by
  apply T_fettlelaw15_SourMoment_19
  unfold S_fettlelaw15_SourMoment_19
  refine (Step_ok hu hf hr (by rw [hL]; omega) (made_ok _) (by rw [hL]; exact hn)).mono fun v M' ⟨e, _⟩ => ?_
  have es : stepS fl madeP st = (st, 1) := by unfold stepS; rw [if_pos ho, ht]
  rw [es] at e
  rw [e, eql_l 1 1 rfl, BR_dec, if_pos rfl]
  exact awake15_ok ⟨rfl, hQ _⟩
theorem mo_stamps (hQ : ∀ M, Q (tv true) M) {Mb : Store} (hu : Up M0 Mb) (hf : FSR M0 Mb bf r 1048576 U last fl) (hr : RdrR M0 Mb br mvF st O) (hl : LV sv Ty.string Mb x9 L) (hL : st.L = L) (hLz : L.length ≤ 6) (hn : ∀ s ∈ L, nameOk s) (ho : st.over = true) (ht : st.told = 1) {x108 : Value} (hs : LV nv Ty.int Mb x108 st.ts)
    (hts : n = 0 → st.ts = L.map (stmF fl)) : ∀ (k j : Nat), k + j = st.ts.length → P_fettlelaw15_SourMoment_16 (pB bf) x9 (pB br) (nv n) x108 (nv st.ts.length) (nv j) Mb Q := by
  have hle := hr.2.1.le
  rw [hL] at hle
  intro k
  induction k with
  | zero =>
    intro j hj
    apply T_fettlelaw15_SourMoment_16
    unfold S_fettlelaw15_SourMoment_16
    rw [lss_n, BR_dec, if_neg (by omega)]
    exact mo_last hQ hu hf hr hL hLz hn ho ht
  | succ k ih =>
    intro j hj
    have h1 : j < st.ts.length := by omega
    have h2 : j < L.length := by omega
    apply T_fettlelaw15_SourMoment_16
    unfold S_fettlelaw15_SourMoment_16
    rw [lss_n, BR_dec, if_pos h1]
    apply T_fettlelaw15_SourMoment_18
    unfold S_fettlelaw15_SourMoment_18
    obtain ⟨p, e1, e2⟩ := hs.at h1 .i64
    obtain ⟨q, e3, e4⟩ := hl.at h2 .i64
    rw [e1, OP_some, e2, OP_some, e3, OP_some, e4, OP_some]
    refine (Stamp_ok hf L[j]).mono fun v M1 ⟨g1, g2⟩ => ?_
    subst g1; subst g2
    rw [neq_n, BR_dec]
    split
    · rename_i hne
      rw [eql_l 0 0 rfl, BR_dec]
      split
      · rename_i h0
        exfalso
        have := hts h0
        apply hne
        have e : st.ts[j] = stmF fl L[j] := by simp only [this, List.getElem_map]
        rw [e]; rfl
      · rw [add1_n _ (by omega)]
        exact ih (j + 1) (by omega)
    · rw [add1_n _ (by omega)]
      exact ih (j + 1) (by omega)
theorem mo_find (hQ : ∀ M, Q (tv true) M) {Mb : Store} (hu : Up M0 Mb) (hf : FSR M0 Mb bf r 1048576 U last fl) (hr : RdrR M0 Mb br mvF st O) (hm : MoR M0 Mb x6 x9 x12 O L T) (hT : T.length ≤ 2 ^ 20) (hTl : ∀ R ∈ T, R.length ≤ 2 ^ 20) (hL : st.L = L) (hLz : L.length ≤ 6) (hn : ∀ s ∈ L, nameOk s) (ho : st.over = true) (ht : st.told = 1)
    (hts : n = 0 → st.ts = L.map (stmF fl)) {x19 : Value} (hv : BB Mb x19 st.vs) (hvz : st.vs.length ≤ 2 ^ 20) : ∀ (k j : Nat), k + j = T.length → st.vs ∈ T.drop j → P_fettlelaw15_SourMoment_11 (pB bf) x9 (pB br) (nv n) x19 (tv true) x12 (nv T.length) (nv j) Mb Q := by
  intro k
  induction k with
  | zero => intro j hj hmem; rw [List.drop_of_length_le (by omega)] at hmem; cases hmem
  | succ k ih =>
    intro j hj hmem
    have hjl : j < T.length := by omega
    apply T_fettlelaw15_SourMoment_11
    unfold S_fettlelaw15_SourMoment_11
    rw [lss_n, BR_dec, if_pos hjl]
    apply T_fettlelaw15_SourMoment_13
    unfold S_fettlelaw15_SourMoment_13
    obtain ⟨p, w, e1, e2, hw, _⟩ := hm.t.ls.at hjl .i64
    rw [e1, OP_some, e2, OP_some, BR_bool, if_pos rfl]
    have := hTl _ (List.getElem_mem hjl)
    refine (Same_ok hw hv (by omega) (by omega)).mono fun v M1 ⟨g1, g2⟩ => ?_
    subst g1; subst g2
    rw [BR_dec]
    split
    · rename_i heq
      refine (Stamps_ok hr (by rw [hL]; omega) ⟨ho, ht⟩).mono fun v M2 ⟨u2, hN⟩ => ?_
      rw [(NV.lv hN).len, OP_some]
      exact mo_stamps hQ (hu.trans u2) (hf.up u2) (hr.up u2) (hm.l.up u2) hL hLz hn ho ht hN.lv hts st.ts.length 0 rfl
    · rename_i hne
      apply T_fettlelaw15_SourMoment_17
      unfold S_fettlelaw15_SourMoment_17
      rw [add1_n _ (by omega)]
      refine ih (j + 1) (by omega) ?_
      rw [List.drop_eq_getElem_cons hjl] at hmem
      rcases List.mem_cons.1 hmem with hmem | hmem
      · exact absurd hmem.symm hne
      · exact hmem
/-- One round. -/
theorem mo_iter (hQ : ∀ M, Q (tv true) M) {M : Store} (hu : Up M0 M) (hf : FSR M0 M bf r 1048576 U last fl) (hr : RdrR M0 M br mvF st O) (hm : MoR M0 M x6 x9 x12 O L T) (hT : T.length ≤ 1000) (hTl : ∀ R ∈ T, R.length ≤ 2 ^ 20) (hL : st.L = L) (hLz : L.length ≤ 6) (hn : ∀ s ∈ L, nameOk s)
    (h01 : (stepS fl madeP st).2 = 0 ∨ (stepS fl madeP st).2 = 1)
    (hend : (stepS fl madeP st).2 = 1 → (stepS fl madeP st).1.over = true ∧ (stepS fl madeP st).1.told = 1 ∧ (stepS fl madeP st).1.vs ∈ T ++ [L.map (valF fl)] ∧ (∀ v ∈ (stepS fl madeP st).1.vs, v.length ≤ 2 ^ 20) ∧ (n = 0 → (stepS fl madeP st).1.ts = L.map (stmF fl)))
    (hK : (stepS fl madeP st).2 = 0 → ∀ M' O' x12', Up M0 M' → FSR M0 M' bf r 1048576 U last fl → RdrR M0 M' br mvF (stepS fl madeP st).1 O' → MoR M0 M' x6 x9 x12' O' L (T ++ [L.map (valF fl)]) → P_fettlelaw15_SourMoment_12 x1 (pB bf) x6 x9 (pB br) x12' (nv n) (nv i) (nv 0) M' Q) :
    P_fettlelaw15_SourMoment_7 x1 (pB bf) x6 x9 (pB br) x12 (nv n) (nv i) M Q := by
  apply T_fettlelaw15_SourMoment_7
  unfold S_fettlelaw15_SourMoment_7
  rw [hm.l.len, OP_some]
  refine mo_now hf hm.l hn hLz (fun M1 acc u1 hN => ?_) L.length 0 M _ rfl (Ch.refl _ _) NLs.nil
  apply T_fettlelaw15_SourMoment_10
  unfold S_fettlelaw15_SourMoment_10
  have hx : BBx O M1 acc (L.map (valF fl)) := by
    refine ⟨hN.ls, fun hpos b hb hbO => ?_⟩
    obtain ⟨vs, ⟨g1, ⟨g2, _⟩ | ⟨b', cells, c, rfl, g3, _⟩⟩, _⟩ := hN
    · omega
    · simp only [bx, Option.some.injEq] at hb
      subst hb
      have := (hr.own _ hbO).2
      omega
  obtain ⟨xa, xc, rfl⟩ : ∃ a c, acc = .slice a (L.map (valF fl)).length c := by obtain ⟨vs, g, _⟩ := hN; exact g.sl.slice
  rw [bl_sl1, LT_eq]
  have hm1 := hm.up u1
  have hu1 := hu.trans u1
  obtain ⟨v', M2, e2, hu2, hN2, hk2, _⟩ := NLs.appC (M0 := M0) (BBx.keep O (by decide) (by decide)) hu1 (Nat.le_refl _) hu1.n hm1.t hx (by omega)
  rw [e2, OP2_some]
  have hf2 := (hf.up u1).keep (by decide) (by decide) hk2
  have hr2 := (hr.up u1).keepT hk2
  have hm2 : MoR M0 M2 x6 x9 v' O L (T ++ [L.map (valF fl)]) := ⟨Sl.keep hm1.a (by decide) hk2, Sl.keep hm1.l (by decide) hk2, hN2⟩
  refine (Step_ok hu2 hf2 hr2 (by rw [hL]; omega) (made_ok _) (by rw [hL]; exact hn)).mono fun v M3 ⟨e3, hu3, hf3, c3, O', hr3, hO⟩ => ?_
  subst e3
  have hm3 := hm2.step hr2 c3 hO
  rw [eql_l 1 1 rfl, BR_dec]
  split
  · rename_i hk
    obtain ⟨g1, g2, g3, g4, g5⟩ := hend hk
    have hLs : (stepS fl madeP st).1.L = L := by rw [stepS_L, hL]
    have hwf := hr3.2.1
    have hvz : (stepS fl madeP st).1.vs.length ≤ 6 := by have := hwf.v; have := hwf.le; rw [hLs] at this; omega
    refine (Values_ok hr3 (by rw [hLs]; omega) g4 ⟨g1, g2⟩).mono fun v M4 ⟨w, e, u4, hN4⟩ => ?_
    subst e
    rw [(tp2 _ _).1, (tp2 _ _).2]
    have hm4 := hm3.up u4
    rw [hm4.t.ls.lenV, OP_some]
    have hB4 : BB M4 w (stepS fl madeP st).1.vs := by
      obtain ⟨vs, q1, q2⟩ := hN4
      exact ⟨vs, q1.sl, q2.mono fun v x h => Nw.sl h⟩
    refine mo_find hQ (hu3.trans u4) (hf3.up u4) (hr3.up u4) hm4 (by simp; omega) (fun R hR => ?_) hLs hLz hn g1 g2 g5 hB4 (by omega) (T ++ [L.map (valF fl)]).length 0 rfl (by simpa using g3)
    rcases List.mem_append.1 hR with hR | hR
    · exact hTl R hR
    · rw [List.mem_singleton.1 hR]; simp; omega
  · rename_i hk
    have h0 : (stepS fl madeP st).2 = 0 := by rcases h01 with h | h; exact h; exact absurd h hk
    rw [h0]
    exact hK h0 M3 O' v' hu3 hf3 hr3 hm3
end
end Go.G
