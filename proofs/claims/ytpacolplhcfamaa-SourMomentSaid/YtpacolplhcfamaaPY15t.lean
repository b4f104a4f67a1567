/- SourMoment: however files are written between its steps, what a reader tells were the values of all at one moment. -/
import Derived.Test.YtpacolplhcfamaaPY15s
namespace Go.G
open Go.Ab Go.Proofs Go.RowKit
set_option linter.unusedVariables false
set_option linter.unusedSimpArgs false
set_option maxRecDepth 100000

theorem FSR.inn {M0 M : Store} {bf r room U last : Nat} {fl : Fl} (h : FSR M0 M bf r room U last fl) : ∀ b ∈ [bf, r], (M.get b).isSome = true ∧ b < M.n := by
  intro b hb
  obtain ⟨used, h1, _⟩ := h.ob
  obtain ⟨g, hm, _⟩ := h.mp
  rcases List.mem_cons.1 hb with rfl | hb
  · have : M.get b = some _ := h1
    exact ⟨by rw [this]; rfl, h1.lt⟩
  · have : b = r := by simpa using hb
    subst this
    have hlt := hm.lt
    obtain ⟨kvs, h2, _⟩ := hm
    exact ⟨by rw [h2]; rfl, hlt⟩
theorem a4_at {q : Nat} (hq : q ≤ 3) : ∃ h : q < A4.length, A4[q] ∈ A4 := ⟨by show q < 4; omega, List.getElem_mem _⟩
theorem nameA : ∀ s ∈ A4, nameOk s := fun s hs => by
  simp at hs
  rcases hs with rfl | rfl | rfl | rfl
  · exact name_s
  · exact name_t
  · exact name_a
  · exact name_b
theorem e_a4 (K : List Value → Prop) : OP (bldL (.string ⟨#[]⟩) 1 4 [(0, (.string ⟨#[115]⟩)), (1, (.string ⟨#[116]⟩)), (2, (.string ⟨#[97]⟩)), (3, (.string ⟨#[98]⟩))]) K = K (A4.map sv) := by kernel_rfl
theorem bl_sv1 (l : List UInt8) (K : List Value → Prop) : OP (bldL (.string ⟨#[]⟩) 1 1 [(0, sv l)]) K = K [sv l] := by kernel_rfl
/-- There are steps enough left. -/
def Left (fl : Fl) (L : List (List UInt8)) (st : RSt) (i : Nat) : Prop := ∃ f, Fuel fl L st f ∧ i + f ≤ 400
section
variable {M0 : Store} {x1 x6 x9 : Value} {bf r br : Nat} {Q : Value → Store → Prop} {L : List (List UInt8)} {acts : List Int}
theorem mo_loop (hQ : ∀ M, Q (tv true) M) (hacts : LV iv Ty.int M0 x1 acts) (hA : ∀ s ∈ L, s ∈ A4) (hLz : L.length ≤ 6) (hne : L ≠ []) : ∀ (d i n : Nat) (M : Store) (x12 : Value) (st : RSt) (O : List Nat) (T : List (List (List UInt8))) (Us last : Nat) (fl : Fl), d + i = 400 → n ≤ min acts.length 60 → (n < min acts.length 60 → n = i) → (n = min acts.length 60 → Left fl L st i) →
      Us ≤ 24 * (4 + n) → last ≤ 4 + n → T.length = i → (∀ R ∈ T, R.length ≤ 2 ^ 20) → Good fl last → MoS fl L last T st → (n = 0 → Clean fl L st) → Up M0 M → FSR M0 M bf r 1048576 Us last fl → RdrR M0 M br mvF st O → MoR M0 M x6 x9 x12 O L T →
      P_fettlelaw15_SourMoment_6 x1 (pB bf) x6 x9 (pB br) x12 (nv n) (nv i) M Q := by
  intro d
  induction d with
  | zero =>
    intro i n M x12 st O T Us last fl hi h1 h2 h3
    exfalso
    by_cases hn : n < min acts.length 60
    · have := h2 hn; omega
    · obtain ⟨f, hf, hff⟩ := h3 (by omega)
      have := hf.pos; omega
  | succ d ih =>
    intro i n M x12 st O T Us last fl hi h1 h2 h3 hU hlast hT hTl hg hS hC hu hf hr hm
    have hn : ∀ s ∈ L, nameOk s := fun s hs => nameA s (hA s hs)
    apply T_fettlelaw15_SourMoment_6
    unfold S_fettlelaw15_SourMoment_6
    rw [lss_l 400 400 rfl, BR_dec, if_pos (by omega)]
    have hstep := hS.step hg hA
    refine mo_iter hQ hu hf hr hm (by omega) hTl hS.hL hLz hn (by rcases hstep with h | h; exact .inl h.1; exact .inr h.1) (fun hk => ?_) (fun hk M1 O1 y12 hu1 hf1 hr1 hm1 => ?_)
    · rcases hstep with h | ⟨g1, g2, g3, g4, g5, g6, g7⟩
      · rw [h.1] at hk; cases hk
      · refine ⟨g3, g4, g5, fun v hv => by rw [g6 v hv]; decide, fun h0 => ?_⟩
        rcases (hC h0).step hg hA with h | h
        · rw [h.1] at hk; cases hk
        · rw [g7, h.2]
    · have hS' : MoS fl L last (T ++ [L.map (valF fl)]) (stepS fl madeP st).1 := by
        rcases hstep with h | h
        · exact h.2
        · rw [h.1] at hk; cases hk
      have hC' : n = 0 → Clean fl L (stepS fl madeP st).1 := fun h0 => by
        rcases (hC h0).step hg hA with h | h
        · exact h.2
        · rw [h.1] at hk; cases hk
      have hTl' : ∀ R ∈ T ++ [L.map (valF fl)], R.length ≤ 2 ^ 20 := fun R hR => by
        rcases List.mem_append.1 hR with hR | hR
        · exact hTl R hR
        · rw [List.mem_singleton.1 hR]; simp; omega
      have hT' : (T ++ [L.map (valF fl)]).length = i + 1 := by simp [hT]
      have hacts1 := hacts.up hu1
      have stay : n = min acts.length 60 → P_fettlelaw15_SourMoment_15 x1 (pB bf) x6 x9 (pB br) y12 (nv n) (nv i) M1 Q := fun hN => by
        obtain ⟨f, hf0, hff⟩ := h3 hN
        have hpos := hf0.pos
        apply T_fettlelaw15_SourMoment_15
        unfold S_fettlelaw15_SourMoment_15
        rw [add1_n _ (by omega)]
        refine ih (i + 1) n M1 y12 _ O1 _ Us last fl (by omega) h1 (fun h => by omega) (fun _ => ⟨f - 1, ?_, by omega⟩) hU hlast hT' hTl' hg hS' hC' hu1 hf1 hr1 hm1
        rcases Fuel.step hg hA hS hf0 with h | h
        · rw [h] at hk; cases hk
        · exact h
      have go : ∀ (M2 : Store) (Us' last' : Nat) (fl' : Fl), n < min acts.length 60 → Us' ≤ 24 * (4 + (n + 1)) → last' ≤ 4 + (n + 1) → Good fl' last' → MoS fl' L last' (T ++ [L.map (valF fl)]) (stepS fl madeP st).1 → Up M0 M2 → FSR M0 M2 bf r 1048576 Us' last' fl' → RdrR M0 M2 br mvF (stepS fl madeP st).1 O1 → MoR M0 M2 x6 x9 y12 O1 L (T ++ [L.map (valF fl)]) →
          (OP (binI .add (nv n) (.int .i64 1)) fun t170 => P_fettlelaw15_SourMoment_15 x1 (pB bf) x6 x9 (pB br) y12 t170 (nv i) M2 Q) := by
        intro M2 Us' last' fl' hN g1 g2 g3 g4 g5 g6 g7 g8
        have hni := h2 hN
        rw [add1_n _ (by omega)]
        apply T_fettlelaw15_SourMoment_15
        unfold S_fettlelaw15_SourMoment_15
        rw [add1_n _ (by omega)]
        exact ih (i + 1) (n + 1) M2 y12 _ O1 _ Us' last' fl' (by omega) (by omega) (fun h => by omega) (fun _ => ⟨24, Fuel.any g4 (by omega), by omega⟩) g1 g2 hT' hTl' g3 g4 (fun h => by omega) g5 g6 g7 g8
      apply T_fettlelaw15_SourMoment_12
      unfold S_fettlelaw15_SourMoment_12
      rw [neq_l 0 0 rfl, BR_dec, if_neg (by decide), hacts1.len, OP_some, lss_n, BR_dec]
      split
      · rename_i hnl
        rw [lss_l 60 60 rfl, BR_dec]
        split
        · rename_i hn60
          have hN : n < min acts.length 60 := by omega
          have hni := h2 hN
          obtain ⟨p, e1, e2⟩ := hacts1.at hnl .i64
          have e1 : ixA 1 x1 (nv n) = some p := e1
          simp only [e1, e2, OP_some]
          show OP (binI .and (.int .i64 acts[n]) (.int .i64 ((3 : Nat) : Int))) _
          rw [e_andN _ 3 (by decide), OP_some, gtr_l 0 0 rfl, BR_dec]
          split
          · show OP (binI .shr (.int .i64 acts[n]) (.int .u64 ((2 : Nat) : Int))) _
            rw [e_shrN _ 2 (by decide)]
            show OP (binI .and (.int .i64 (shrN acts[n] 2)) (.int .i64 ((3 : Nat) : Int))) _
            rw [e_andN _ 3 (by decide), OP_some]
            have hq := andN_le (shrN acts[n] 2) 3 (by decide)
            generalize andN (shrN acts[n] 2) 3 = q at *
            obtain ⟨hq4, hqm⟩ := a4_at hq
            obtain ⟨p2, e3, e4⟩ := hm1.a.at hq4 .i64
            rw [e3, OP_some, e4, OP_some]
            show OP (binI .shr (.int .i64 acts[n]) (.int .u64 ((4 : Nat) : Int))) _
            rw [e_shrN _ 4 (by decide)]
            show OP (binI .and (.int .i64 (shrN acts[n] 4)) (.int .i64 ((1 : Nat) : Int))) _
            rw [e_andN _ 1 (by decide), OP_some]
            have hk1 := andN_le (shrN acts[n] 4) 1 (by decide)
            generalize andN (shrN acts[n] 4) 1 = kk at *
            refine (write_law hu1 hf1 (nameA _ hqm) (n := kk) (by omega) (by omega) (by decide) (by omega)).mono fun v M3 ⟨u3, ⟨M2, u2, c⟩, hf3⟩ => ?_
            have cc : Ch [bf, r] M1 M3 := Ch.trans' (Up.any u2) c fun b hb => .inl hb
            have hf2 := hf1.up u2
            refine ⟨cc.tdxO fun b hb => ?_, ?_⟩
            · exact ⟨(hf1.inn b hb).1, (hf1.inn b hb).2⟩
            · exact go M3 _ _ _ hN (by omega) (by omega) (hg.put hk1) (hS'.put _ _) u3 hf3 ((hr1.up u2).chA c fun e he => hf2.away he) ((hm1.up u2).chA c fun e he => hf2.away he)
          · exact go M1 Us last fl hN (by omega) (by omega) hg hS' hu1 hf1 hr1 hm1
        · exact stay (by omega)
      · exact stay (by omega)
theorem mo_new (hQ : ∀ M, Q (tv true) M) (hacts : LV iv Ty.int M0 x1 acts) (hA : ∀ s ∈ L, s ∈ A4) (hLz : L.length ≤ 6) {M : Store} {fl : Fl} (hu : Up M0 M) (hf : FSR M0 M bf r 1048576 96 4 fl) (hg : Good fl 4) (ha : LV sv Ty.string M x6 A4) (hl : LV sv Ty.string M x9 L) : P_fettlelaw15_SourMoment_5 x1 (pB bf) x6 x9 M Q := by
  apply T_fettlelaw15_SourMoment_5
  unfold S_fettlelaw15_SourMoment_5
  refine (NewR_ok hl (by omega) F.fettlelaw15_made).mono fun v M1 ⟨u1, br, e, hR⟩ => ?_
  subst e
  rw [abin_ptr _root_.Go.G.U.p_sour_Read, BR_bool, if_neg (by decide)]
  have hr := (hR [] M1 (fun b hb => by cases hb) (Ch.refl _ _)).base (M0 := M0) hu.n
  have hm : MoR M0 M1 x6 x9 (.slice none 0 0) [br] L [] := ⟨ha.up u1, hl.up u1, NLs.nil⟩
  have hf1 := hf.up u1
  have hu1 := hu.trans u1
  by_cases hne : L = []
  · subst hne
    apply T_fettlelaw15_SourMoment_6
    unfold S_fettlelaw15_SourMoment_6
    rw [show (.int .i64 0 : Value) = nv 0 from rfl, lss_l 400 400 rfl, BR_dec, if_pos (by decide)]
    have es : stepS fl madeP (RSt.new []) = ((RSt.new []).end 1, 1) := by simp [stepS, RSt.new]
    refine mo_iter (n := 0) (i := 0) hQ hu1 hf1 hr hm (by simp) (fun R hR => by cases hR) rfl (by simp) (fun s hs => by cases hs) (.inr (by rw [es])) (fun _ => ?_) (fun hk => by rw [es] at hk; cases hk)
    rw [es]
    exact ⟨rfl, rfl, (by simp [RSt.end, RSt.new]), (fun v hv => by cases hv), fun _ => rfl⟩
  · have hpos := List.length_pos_iff.2 hne
    have hat : AtR fl madeP L (RSt.new L) 0 := ⟨rfl, rfl, rfl, rfl, rfl, fun v hv => (by cases hv), fun s hs => (by cases hs)⟩
    have hS : MoS fl L 4 [] (RSt.new L) := ⟨RSt.Wf.new L, rfl, hne, rfl, fun v hv => (by cases hv), fun m hm => (by simp [RSt.new] at hm), fun h => (by cases h)⟩
    exact mo_loop hQ hacts hA hLz hne 400 0 0 M1 _ _ [br] [] 96 4 fl rfl (by omega) (fun _ => rfl) (fun _ => ⟨24, Fuel.any hS (by omega), by omega⟩) (by omega) (by omega) rfl (fun R hR => by cases hR) hg hS (fun _ => .inl ⟨0, hpos, hat⟩) hu1 hf1 hr hm
theorem mo_names {x0 : Value} {ns : List Int} {Mb : Store} (hQ : ∀ M, Q (tv true) M) (hns : LV iv Ty.int M0 x0 ns) (hacts : LV iv Ty.int M0 x1 acts) {fl : Fl} (hub : Up M0 Mb) (hf : FSR M0 Mb bf r 1048576 96 4 fl) (hg : Good fl 4) (ha : LV sv Ty.string Mb x6 A4) : ∀ (k i : Nat) (M : Store) (x9 : Value) (L : List (List UInt8)), k + i = 6 → L.length = i → (∀ s ∈ L, s ∈ A4) → Up Mb M → NV sv Ty.string Mb M x9 L → P_fettlelaw15_SourMoment_3 x0 x1 (pB bf) x6 x9 (nv i) M Q := by
  intro k
  have fin : ∀ (M : Store) (x9 : Value) (L : List (List UInt8)), L.length ≤ 6 → (∀ s ∈ L, s ∈ A4) → Up Mb M → NV sv Ty.string Mb M x9 L → P_fettlelaw15_SourMoment_5 x1 (pB bf) x6 x9 M Q := fun M x9 L hl hA u hN => mo_new hQ hacts hA hl (hub.trans u) (hf.up u) hg (ha.up u) hN.lv
  induction k with
  | zero =>
    intro i M x9 L hi hl hA hu hN
    apply T_fettlelaw15_SourMoment_3
    unfold S_fettlelaw15_SourMoment_3
    rw [((hns.up hub).up hu).len, OP_some, lss_n, BR_dec]
    split
    · rw [lss_l 6 6 rfl, BR_dec, if_neg (by omega)]
      exact fin M x9 L (by omega) hA hu hN
    · exact fin M x9 L (by omega) hA hu hN
  | succ k ih =>
    intro i M x9 L hi hl hA hu hN
    have hns1 := (hns.up hub).up hu
    apply T_fettlelaw15_SourMoment_3
    unfold S_fettlelaw15_SourMoment_3
    rw [hns1.len, OP_some, lss_n, BR_dec]
    split
    · rename_i hil
      rw [lss_l 6 6 rfl, BR_dec, if_pos (by omega)]
      apply T_fettlelaw15_SourMoment_4
      unfold S_fettlelaw15_SourMoment_4
      obtain ⟨p, e1, e2⟩ := hns1.at hil .i64
      rw [e1, OP_some, e2, OP_some]
      show OP (binI .and (.int .i64 ns[i]) (.int .i64 ((3 : Nat) : Int))) _
      rw [e_andN _ 3 (by decide), OP_some]
      have hq := andN_le ns[i] 3 (by decide)
      generalize andN ns[i] 3 = q at *
      obtain ⟨hq4, hqm⟩ := a4_at hq
      obtain ⟨p2, e3, e4⟩ := (ha.up hu).at hq4 .i64
      rw [e3, OP_some, e4, OP_some, bl_sv1, LT_eq]
      refine NV.app1 (M0 := Mb) hu (Nat.le_refl _) hu.n hN A4[q] rfl (by omega) fun v' M' u' hN' _ _ => ?_
      rw [add1_n _ (by omega)]
      refine ih (i + 1) M' v' _ (by omega) (by simp [hl]) (fun s hs => ?_) u' hN'
      rcases List.mem_append.1 hs with hs | hs
      · exact hA s hs
      · rw [List.mem_singleton.1 hs]; exact hqm
    · exact fin M x9 L (by omega) hA hu hN
theorem mo_files {x0 : Value} {ns : List Int} (hQ : ∀ M, Q (tv true) M) (hns : LV iv Ty.int M0 x0 ns) (hacts : LV iv Ty.int M0 x1 acts) : ∀ (k i : Nat) (M : Store) (fl : Fl), k + i = 4 → Up M0 M → FSR M0 M bf r 1048576 (24 * i) i fl → (∀ s ∈ A4.take i, ∃ k z, k ≤ 1 ∧ z ≤ i ∧ fl s = some (wrC s k, z)) → LV sv Ty.string M x6 A4 → P_fettlelaw15_SourMoment_1 x0 x1 (pB bf) x6 x6 (nv 4) (nv i) M Q := by
  intro k
  induction k with
  | zero =>
    intro i M fl hi hu hf hg ha
    have : i = 4 := by omega
    subst this
    apply T_fettlelaw15_SourMoment_1
    unfold S_fettlelaw15_SourMoment_1
    rw [lss_n, BR_dec, if_neg (by decide)]
    apply T_fettlelaw15_SourMoment_2
    unfold S_fettlelaw15_SourMoment_2
    exact mo_names hQ hns hacts hu hf hg ha 6 0 M _ [] rfl rfl (fun s hs => by cases hs) (Ch.refl _ _) NV.nil
  | succ k ih =>
    intro i M fl hi hu hf hg ha
    have hi4 : i < A4.length := by show i < 4; omega
    apply T_fettlelaw15_SourMoment_1
    unfold S_fettlelaw15_SourMoment_1
    rw [lss_n, BR_dec, if_pos (by omega)]
    obtain ⟨p, e1, e2⟩ := ha.at hi4 .i64
    rw [e1, OP_some, e2, OP_some]
    refine (write_law hu hf (nameA _ (List.getElem_mem hi4)) (n := 0) (by decide) (by omega) (by decide) (by omega)).mono fun v M3 ⟨u3, ⟨M2, u2, c⟩, hf3⟩ => ?_
    rw [add1_n _ (by omega)]
    refine ih (i + 1) M3 _ (by omega) u3 (hf3.leU (by omega)) (fun s hs => ?_) (Sl.chS (ha.up u2) c ((hf.up u2).away (by decide)))
    by_cases e : s = A4[i]
    · subst e; exact ⟨0, i + 1, by decide, Nat.le_refl _, by unfold putF; rw [if_pos rfl]⟩
    · rw [List.take_succ_eq_append_getElem hi4] at hs
      rcases List.mem_append.1 hs with hs | hs
      · obtain ⟨k', z, g1, g2, g3⟩ := hg s hs
        exact ⟨k', z, g1, by omega, by unfold putF; rw [if_neg e]; exact g3⟩
      · exact absurd (List.mem_singleton.1 hs) e
end
theorem SourMoment_ok {M : Store} {x0 x1 : Value} {ns acts : List Int} (h0 : LV iv Ty.int M x0 ns) (h1 : LV iv Ty.int M x1 acts) : R F.fettlelaw15_SourMoment #[x0, x1] M fun v M' => v = tv true := by
  refine R.cps fun Q hQ => ?_
  have hQ : ∀ M, Q (tv true) M := fun M => hQ _ _ rfl
  apply T_fettlelaw15_SourMoment
  unfold S_fettlelaw15_SourMoment
  refine (New_ok (room := 1048576) (by decide)).mono fun v M1 ⟨u1, bf, r, e, hf1⟩ => ?_
  subst e
  rw [abin_ptr U.p_simf_FS, BR_bool, if_neg (by decide), e_a4]
  refine s_lit (s := 1) (n := 4) rfl fun M2 u2 hN2 o2 n2 => ?_
  have h4 : LV sv Ty.string M2 (.slice (some ⟨M1.n, 0, none⟩) 4 4) A4 := hN2.sl
  rw [h4.len, OP_some]
  exact mo_files hQ h0 h1 4 0 M2 _ rfl (u1.trans u2) (hf1.up u2) (fun s hs => by cases hs) h4
end Go.G
