/- Layer 15: inputs at one moment, by the program: any step; a new reader; what it tells. -/
import Derived.Test.YtpacolplhcfamaaPY15c
import Derived.Test.YtpacolplhcfamaaPAbVec2
namespace Go.G
open Go.Ab Go.Proofs Go.RowKit
set_option linter.unusedVariables false
set_option linter.unusedSimpArgs false
set_option maxRecDepth 100000

theorem rdNum_le {top : Nat} {l r : List UInt8} {b : Bool} {n : Nat} (h : rdNum top l b = some (n, r)) : r.length ≤ l.length := by
  unfold rdNum at h
  split at h
  · cases h
  · split at h
    · cases h
    · injection h with h
      injection h with h1 h2
      subst h2
      rw [List.length_drop]; omega
theorem rdBytes_le {top : Nat} {l x r : List UInt8} {b : Bool} (h : rdBytes top l b = some (x, r)) : x.length + r.length ≤ l.length := by
  unfold rdBytes at h
  obtain ⟨⟨n, q⟩, h1, h2⟩ := Option.bind_eq_some_iff.1 h
  have := rdNum_le h1
  simp only at h2
  split at h2
  · cases h2
  · injection h2 with h2
    injection h2 with h2 h3
    subst h2; subst h3
    rw [List.length_take, List.length_drop]; omega
theorem openF_le {l : List UInt8} {q : List UInt8 × List UInt8} (h : openF l = some q) : q.2.length ≤ l.length := by
  unfold openF at h
  obtain ⟨x, h0, h⟩ := Option.bind_eq_some_iff.1 h
  obtain ⟨⟨a, b⟩, h1, h⟩ := Option.bind_eq_some_iff.1 h
  obtain ⟨⟨c, d⟩, h2, h⟩ := Option.bind_eq_some_iff.1 h
  have e0 := wholeF_len h0
  have e1 := rdBytes_le h1
  have e2 := rdBytes_le h2
  simp only at h2 h
  split at h
  · injection h with h; subst h
    show c.length ≤ l.length
    simp only at e2
    omega
  · cases h
section
variable {Mf M0 M : Store} {bf r room U last : Nat} {fl : Fl} {br : Nat} {mv : Value} {st : RSt} {O : List Nat} {p : List UInt8 → Bool}
theorem read_ok (hu : Up M0 M) (hf : FSR Mf M bf r room U last fl) (h : RdrR M0 M br mv st O) (ho : st.over = false) (hL : st.L ≠ []) (hlk : st.looks = false) (hl : st.L.length < 2 ^ 27) (hm : MadeOk mv p st.L) (hn : ∀ s ∈ st.L, nameOk s) :
    R F.sour_Read_read #[pB br, pB bf] M fun v M' => RdStepR Mf M0 M bf r room U last fl br mv O (readS fl p st).1 (readS fl p st).2 v M' := by
  refine R.cps fun Q hQ => ?_
  have h0 := h
  obtain ⟨h1, h2, nm, vv, tt, h3, h4, h5⟩ := h
  have hi := h2.i ho hL
  apply T_sour_Read_read
  unfold S_sour_Read_read
  simp only [nilc_p, fad0, (rd8 h3).1, (rd8 h3).2.2.2.1]
  obtain ⟨p1, e1, e2⟩ := h4.nm.at hi .i64
  rw [e1, OP_some, e2, OP_some]
  have g1 : st.L.getD st.i [] = st.L[st.i] := by simp [hi]
  have gm : st.L[st.i] ∈ st.L := List.getElem_mem hi
  unfold readS at hQ
  rw [g1] at hQ
  generalize st.L[st.i] = s at *
  refine (Read_f hf (hn s gm)).mono fun v1 M1 ⟨u1, hr⟩ => ⟨u1.tdx _ _ _, ?_⟩
  have hu1 := hu.trans u1
  have hf1 := hf.up u1
  have h01 := h0.up u1
  have h31 := h3.up u1
  have h41 := h4.up u1
  have fin : ∀ {M2 : Store} (u2 : Up M M2) (k : Nat) {Q' : Value → Store → Prop}, (∀ v M', RdStepR Mf M0 M bf r room U last fl br mv O (st.end k) k v M' → NTs [v] ∧ Q' v M') → R F.sour_Read_end #[pB br, nv k] M2 fun v M' => NTs [v] ∧ Q' v M' := fun u2 k Q' hq =>
    (end_st (hu.trans u2) (hf.up u2) (h0.up u2) k).mono fun v M' h' => hq v M' (h'.behind (Up.any u2) fun b hb => .inl hb)
  cases hfs : fl s with
  | none =>
    rw [hfs] at hr hQ
    have hr : v1 = .tuple #[.slice none 0 0, iv 0, iv 4] := hr
    subst hr
    simp only [(tp3 _ _ _).1, (tp3 _ _ _).2.1, (tp3 _ _ _).2.2]
    rw [e_neq, BR_dec, if_pos (by decide)]
    exact fin u1 2 fun v M' h' => by have e := h'.1; subst e; exact ⟨rfl, hQ _ _ h'⟩
  | some q =>
    rw [hfs] at hr hQ
    obtain ⟨w, hw, hN⟩ := hr
    subst hw
    have hql := hf.sz s q hfs
    simp only [(tp3 _ _ _).1, (tp3 _ _ _).2.1, (tp3 _ _ _).2.2]
    rw [e_neq, BR_dec, if_neg (by decide)]
    simp only [nilc_p, fad0, (rd8 h31).1, (rd8 h31).2.2.2.1, (rd8 h31).2.1]
    have e1' : ∃ p1, ixA 1 nm (iv (st.i : Int)) = some p1 ∧ ld 1 false p1 M1 = some (sv s) := by
      refine ⟨p1, e1, ?_⟩
      obtain ⟨p1', e1', e2'⟩ := h41.nm.at hi .i64
      have : p1' = p1 := by rw [e1] at e1'; injection e1' with e1'; exact e1'.symm
      subst this
      obtain ⟨p0, e10, e20⟩ := h4.nm.at hi .i64
      rw [e1] at e10; injection e10 with e10; subst e10
      rw [e2] at e20; injection e20 with e20
      rw [e2', ← e20]
    obtain ⟨p1', e11, e21⟩ := e1'
    rw [e11, OP_some, e21, OP_some]
    refine hm s gm M1 _ ⟨Up.tdx (show Up M1 M1 from Ch.refl [] M1) _ _ _, ?_⟩
    rw [BR_bool]
    unfold valS at hQ
    cases hp : p s with
    | false =>
      simp only [hp, Bool.false_eq_true, if_false] at hQ
      rw [if_neg (by decide)]
      refine read1_ok hu1 hf1 h01 ho hL hlk hl hN.by hql q.2 fun v M' h' => ?_
      have h'' := h'.behind (M := M) (O := O) (Up.any u1) fun b hb => .inl hb
      refine hQ v M' ?_
      by_cases h256 : 256 < q.1.length
      · rw [if_pos h256, if_pos h256] at h''; rw [if_pos h256]; exact h''
      · rw [if_neg h256, if_neg h256] at h''; rw [if_neg h256]; exact h''
    | true =>
      simp only [hp, if_true] at hQ
      rw [if_pos rfl]
      refine (Open_ok hN.by (by omega)).mono fun rv M4 ⟨u4, ho4⟩ => ?_
      have u04 := u1.trans u4
      obtain ⟨x, y, M5, e5, hNa, hNb, hNc, hle1, hle2⟩ := ho4
      subst e5
      simp only [(tp3 _ _ _).1, (tp3 _ _ _).2.1, (tp3 _ _ _).2.2]
      rw [e_not, BR_bool]
      cases hof : openF q.1 with
      | none =>
        rw [hof] at hQ
        rw [if_pos (show (!(none : Option (List UInt8 × List UInt8)).isSome) = true from rfl)]
        exact fin u04 3 fun v M' h' => by have e := h'.1; subst e; exact ⟨rfl, hQ _ _ h'⟩
      | some qq =>
        rw [hof] at hQ hNc
        rw [if_neg (show ¬ (!(some qq).isSome) = true by simp)]
        have hqq := openF_le hof
        have hNc : N M5 M4 y qq.2 := hNc
        refine read1_ok (hu.trans u04) (hf.up u04) (h0.up u04) ho hL hlk hl hNc.by (by omega) q.2 fun v M' h' => ?_
        have h'' := h'.behind (M := M) (O := O) (Up.any u04) fun b hb => .inl hb
        refine hQ v M' ?_
        simp only [Option.map_some]
        by_cases h256 : 256 < qq.2.length
        · rw [if_pos h256, if_pos h256] at h''; rw [if_pos h256]; exact h''
        · rw [if_neg h256, if_neg h256] at h''; rw [if_neg h256]; exact h''
/-- A step. -/
theorem Step_ok (hu : Up M0 M) (hf : FSR Mf M bf r room U last fl) (h : RdrR M0 M br mv st O) (hl : st.L.length < 2 ^ 27) (hm : MadeOk mv p st.L) (hn : ∀ s ∈ st.L, nameOk s) :
    R F.sour_Read_Step #[pB br, pB bf] M fun v M' => RdStepR Mf M0 M bf r room U last fl br mv O (stepS fl p st).1 (stepS fl p st).2 v M' := by
  refine R.cps fun Q hQ => ?_
  have h0 := h
  obtain ⟨h1, h2, nm, vv, tt, h3, h4, h5⟩ := h
  apply T_sour_Read_Step
  unfold S_sour_Read_Step
  simp only [nilc_p, fad0, (rd8 h3).2.2.2.2.2.2.1, (rd8 h3).2.2.2.2.2.2.2, (rd8 h3).1, (rd8 h3).2.2.1]
  unfold stepS at hQ
  rw [BR_bool]
  split
  · rename_i ho
    rw [if_pos ho] at hQ
    exact ⟨rfl, hQ _ _ ⟨rfl, hu, hf, Ch.refl _ _, O, h0, fun b hb => .inl hb⟩⟩
  rename_i ho
  rw [if_neg ho] at hQ
  have ho : st.over = false := by simpa using ho
  rw [h4.nm.len, OP_some, eql_l 0 0 rfl, BR_dec]
  split
  · rename_i hL
    rw [if_pos (List.length_eq_zero_iff.1 hL)] at hQ
    refine (end_st hu hf h0 1).mono fun v M' h' => ?_
    have e := h'.1; subst e
    exact ⟨rfl, hQ _ _ h'⟩
  rename_i hL
  have hL : st.L ≠ [] := fun e => hL (by rw [e]; rfl)
  rw [if_neg hL] at hQ
  rw [BR_bool]
  split
  · rename_i hlk
    rw [if_pos hlk] at hQ
    refine (look_ok hu hf h0 ho hL hlk (by omega)).mono fun v M' h' => ?_
    have e := h'.1; subst e
    exact ⟨rfl, hQ _ _ h'⟩
  · rename_i hlk
    rw [if_neg hlk] at hQ
    refine (read_ok hu hf h0 ho hL (by simpa using hlk) hl hm hn).mono fun v M' h' => ?_
    have e := h'.1; subst e
    exact ⟨rfl, hQ _ _ h'⟩
end
theorem abin_nilS {t e : TypeId} (h : Try.prog.underlying t = some (.slice e)) (a : Option Addr) (n c : Nat) (K : Value → Prop) : OP (abin Try.prog true .eql t (.slice a n c) (.slice none 0 0)) K = K (.bool a.isNone) := abin_nil h a n c K
/-- A copy of a list. -/
theorem cloneV {α : Type} {En : α → Value} {e t : TypeId} {z : Value} (hU : Try.prog.underlying t = some (.slice e)) {M : Store} {v : Value} {l : List α} (h : LV En e M v l) (hl : l.length ≤ 2 ^ 24) {Q : Value → Store → Prop}
    (hQ : ∀ v' M', Up M M' → NV En e M M' v' l → Q v' M') :
    OP (abin Try.prog true .eql t v (.slice none 0 0)) fun t4 => BR t4 (NTs [(.slice none 0 0)] ∧ Q (.slice none 0 0) M) (OP (bldL z 1 0 []) fun c => Go.Ab.LT (.slice (some ⟨M.n, 0, none⟩) 0 0) (M.push (some (.inl (c, e, true)))) fun t5 M1 => OP2 (appV 1 e t5 v M1) fun t7 M2 => NTs [t7] ∧ Q t7 M2) := by
  obtain ⟨a, c, rfl⟩ := h.slice
  rw [abin_nil hU]
  cases a with
  | none =>
    obtain ⟨h1, a, c', h2, h3, h4⟩ := h
    injection h2 with h2 h5 h6
    subst h2; subst h6
    have : l.length = 0 := by
      rcases Nat.eq_zero_or_pos l.length with h | h
      · exact h
      · obtain ⟨b, o, cells, e', own, h7, _⟩ := h4 h; cases h7
    have hl : l = [] := List.length_eq_zero_iff.1 this
    subst hl
    exact ⟨rfl, hQ _ _ (Ch.refl _ _) (Nw.nil _ _ _ _)⟩
  | some a =>
    rw [Option.isNone_some, BR_bool, if_neg (by decide), e_lit0, LT_eq]
    have hup := Up.push M (some (.inl (([] : List Value), e, true)))
    have hn : NV En e M (M.push (some (.inl (([] : List Value), e, true)))) (.slice (some ⟨M.n, 0, none⟩) 0 0) ([] : List α) := Nw.lit (n := 0) (cs := []) (Nat.le_refl _) (by simp)
    refine NV.apps hup (Nat.le_refl _) hup.n hn (h.up hup) (by simp; omega) fun v' M' hu' hN' _ _ => ?_
    rw [List.nil_append] at hN'
    exact ⟨nts_of hN'.sl, hQ _ _ hu' hN'⟩
theorem CloneS_ok {M : Store} {v : Value} {l : List (List UInt8)} (h : LV sv Ty.string M v l) (hl : l.length ≤ 2 ^ 24) : R F.slices_Clone_sl_string_string #[v] M fun v' M' => Up M M' ∧ NV sv Ty.string M M' v' l := by
  refine R.cps fun Q hQ => ?_
  apply T_slices_Clone_sl_string_string
  exact cloneV U.sl_string h hl fun v' M' u n => hQ _ _ ⟨u, n⟩
theorem CloneN_ok {M : Store} {v : Value} {l : List Nat} (h : LV nv Ty.int M v l) (hl : l.length ≤ 2 ^ 24) : R F.slices_Clone_sl_int_int #[v] M fun v' M' => Up M M' ∧ NV nv Ty.int M M' v' l := by
  refine R.cps fun Q hQ => ?_
  apply T_slices_Clone_sl_int_int
  exact cloneV U.sl_int h hl fun v' M' u n => hQ _ _ ⟨u, n⟩
theorem bs_rd (a : Option Addr) (n c : Nat) (f : FuncId) : bldS #[(.slice none 0 0), .nilFunc, (.bool false), (.int .i64 0), (.slice none 0 0), (.slice none 0 0), (.bool false), (.int .i64 0)] [(0, 1), (1, 1), (2, 1), (3, 1), (4, 1), (5, 1), (6, 1), (7, 1)] [(0, .slice a n c), (1, .func (.func f) #[] #[])] = some (.agg #[.slice a n c, .func (.func f) #[] #[], tv false, nv 0, .slice none 0 0, .slice none 0 0, tv false, nv 0]) := by kernel_rfl
theorem bx_rd (a : Option Addr) (n c : Nat) (f : FuncId) : boxv (.agg #[.slice a n c, .func (.func f) #[] #[], tv false, nv 0, .slice none 0 0, .slice none 0 0, tv false, nv 0]) = some [.slice a n c, .func (.func f) #[] #[], tv false, nv 0, .slice none 0 0, .slice none 0 0, tv false, nv 0] := by kernel_rfl
theorem Nw.chO {s e M0 M M' v n cs} (h : Nw s e M0 M v n cs) {S : List Nat} (k : Ch S M M') (hS : ∀ b ∈ S, b < M0.n) : Nw s e M0 M' v n cs := by
  obtain ⟨h1, h | ⟨b, cells, c, rfl, h2, h3, h4⟩⟩ := h
  · exact ⟨h1, .inl h⟩
  · exact ⟨h1, .inr ⟨b, cells, c, rfl, h2, k.at h3 (fun hm => by have := hS b hm; omega), h4⟩⟩
theorem RdrR.base {M0 M1 M : Store} {br : Nat} {mv : Value} {st : RSt} {O : List Nat} (h : RdrR M1 M br mv st O) (k : M0.n ≤ M1.n) : RdrR M0 M br mv st O := by
  obtain ⟨h1, h2, nm, vv, tt, h3, h4, h5⟩ := h
  exact ⟨Nat.le_trans k h1, h2, nm, vv, tt, h3, ⟨h4.nm, h4.vv.base k, Nw.base h4.tt k⟩, h5⟩
theorem NewR_ok {M : Store} {v : Value} {L : List (List UInt8)} (h : LV sv Ty.string M v L) (hl : L.length ≤ 2 ^ 24) (f : FuncId) :
    R F.sour_New #[v, .func (.func f) #[] #[]] M fun v' M' => Up M M' ∧ ∃ br, v' = pB br ∧ ∀ (S : List Nat) (M2 : Store), (∀ b ∈ S, b < M.n) → Ch S M' M2 → RdrR M M2 br (.func (.func f) #[] #[]) (RSt.new L) [br] := by
  refine R.cps fun Q hQ => ?_
  apply T_sour_New
  unfold S_sour_New
  refine (CloneS_ok h hl).mono fun w M1 ⟨u1, hN⟩ => ?_
  obtain ⟨a, c, rfl⟩ := hN.sl.slice
  rw [bs_rd, OP_some, bx_rd, OP_some]
  refine s_new fun M2 u2 o2 _ => ?_
  have hN2 := Nw.up hN u2
  refine ⟨rfl, hQ _ _ ⟨u1.trans u2, M1.n, rfl, fun S M3 hS c => ⟨u1.n, RSt.Wf.new L, _, _, _, o2.fr c (fun hm => by have := hS _ hm; have := u1.n; omega), ⟨(Nw.chO hN2 c hS).sl, NLs.nil, Nw.nil _ _ _ _⟩, rfl⟩⟩⟩
section
variable {M0 M : Store} {br : Nat} {mv : Value} {st : RSt} {O : List Nat}
theorem rall_ok (h : RdrR M0 M br mv st O) : R F.sour_Read_all #[pB br] M fun v M' => M' = M ∧ v = tv (decide (st.over = true ∧ st.told = 1)) := by
  refine R.cps fun Q hQ => ?_
  obtain ⟨h1, h2, nm, vv, tt, h3, h4, h5⟩ := h
  apply T_sour_Read_all
  unfold S_sour_Read_all
  simp only [nilc_p, fad0, (rd8 h3).2.2.2.2.2.2.1, (rd8 h3).2.2.2.2.2.2.2]
  rw [BR_bool]
  split
  · rename_i ho
    rw [eql_l 1 1 rfl]
    refine ⟨rfl, hQ _ _ ⟨rfl, ?_⟩⟩
    simp [ho]
  · rename_i ho
    refine ⟨rfl, hQ _ _ ⟨rfl, ?_⟩⟩
    simp [ho]
/-- Bytes of one's own. -/
def NN (Mb : Store) (M : Store) (v : Value) (l : List UInt8) : Prop := N Mb M v l
theorem NN.up (Mb M M' : Store) (v : Value) (x : List UInt8) (h : NN Mb M v x) (k : Up M M') : NN Mb M' v x := Nw.up h k
theorem NN.keep (Mb : Store) {e : TypeId} (he : Ty.uint8 ≠ e) (M M' : Store) (v : Value) (x : List UInt8) (h : NN Mb M v x) (k : Keep e M M') : NN Mb M' v x := Nw.keep h he k
theorem Vals_loop {x13 : Value} {vs : List (List UInt8)} {Mb : Store} (hv : NLs B Ty.sl_uint8 M0 Mb x13 vs) (hz : vs.length ≤ 2 ^ 20) (hb : ∀ x ∈ vs, x.length ≤ 2 ^ 20) {Q : Value → Store → Prop}
    (hQ : ∀ v M', Up Mb M' → NLs (NN Mb) Ty.sl_uint8 Mb M' v vs → Q (.tuple #[v, tv true]) M') : ∀ (k i : Nat) (M : Store) (acc : Value), k + i = vs.length → Up Mb M → NLs (NN Mb) Ty.sl_uint8 Mb M acc (vs.take i) → P_sour_Read_Values_1 acc x13 (nv vs.length) (nv i) M Q := by
  intro k
  induction k with
  | zero =>
    intro i M acc hi hu hN
    apply T_sour_Read_Values_1
    unfold S_sour_Read_Values_1
    rw [lss_n, BR_dec, if_neg (by omega)]
    rw [List.take_of_length_le (by omega)] at hN
    apply T_sour_Read_Values_2
    unfold S_sour_Read_Values_2
    obtain ⟨ws, g1, g2⟩ := hN
    apply T_slices_Clip_sl_sl_byte_sl_byte
    obtain ⟨v', e, h'⟩ := slM_full g1
    unfold S_slices_Clip_sl_sl_byte_sl_byte
    rw [g1.sl.lenV]
    simp only [ev, e]
    have hnt : NTs [v'] := nts_of h'.sl
    obtain ⟨a, c, rfl⟩ := h'.sl.slice
    exact ⟨rfl, rfl, hQ _ _ hu ⟨ws, h', g2⟩⟩
  | succ k ih =>
    intro i M acc hi hu hN
    apply T_sour_Read_Values_1
    unfold S_sour_Read_Values_1
    rw [lss_n, BR_dec, if_pos (by omega)]
    obtain ⟨p, w, e1, e2, hw⟩ := (NLs.ls (NLs.up By.up' hv hu)).at (show i < vs.length by omega) .i64
    rw [e1, OP_some, e2, OP_some]
    refine (Clone_ok hw (by have := hb _ (List.getElem_mem (show i < vs.length by omega)); omega)).mono fun w' M1 ⟨u1, hw'⟩ => ?_
    obtain ⟨xa, xc, rfl⟩ := hw'.sl.slice
    rw [bl_sl1, LT_eq]
    have hx : NN Mb M1 (.slice xa vs[i].length xc) vs[i] := Nw.base hw' hu.n
    obtain ⟨v', M3, e3, hu3, hN3, _⟩ := NLs.app1 (NN.keep Mb (by decide)) (hu.trans u1) (NLs.up (NN.up Mb) hN u1) hx (by simp; omega)
    rw [e3, OP2_some, add1_n _ (by omega)]
    refine ih (i + 1) M3 v' (by omega) hu3 ?_
    rw [List.take_succ_eq_append_getElem (show i < vs.length by omega)]
    exact hN3
theorem Values_ok (h : RdrR M0 M br mv st O) (hz : st.L.length ≤ 2 ^ 20) (hb : ∀ x ∈ st.vs, x.length ≤ 2 ^ 20) (ha : st.over = true ∧ st.told = 1) : R F.sour_Read_Values #[pB br] M fun v M' => ∃ w, v = .tuple #[w, tv true] ∧ Up M M' ∧ NLs (NN M) Ty.sl_uint8 M M' w st.vs := by
  refine R.cps fun Q hQ => ?_
  have h0 := h
  obtain ⟨h1, h2, nm, vv, tt, h3, h4, h5⟩ := h
  apply T_sour_Read_Values
  unfold S_sour_Read_Values
  refine (rall_ok h0).mono fun v M1 ⟨e1, e2⟩ => ?_
  subst e1; subst e2
  rw [e_not, BR_bool, if_neg (by simp [ha])]
  simp only [nilc_p, fad0, (rd8 h3).2.2.2.2.1]
  rw [h4.vv.ls.lenV, OP_some]
  have := h2.v; have := h2.le
  exact Vals_loop h4.vv (by omega) hb (fun v M' u n => hQ _ _ ⟨v, rfl, u, n⟩) st.vs.length 0 M1 _ rfl (Ch.refl _ _) NLs.nil
theorem ValuesN_ok (h : RdrR M0 M br mv st O) (ha : ¬ (st.over = true ∧ st.told = 1)) : R F.sour_Read_Values #[pB br] M fun v M' => v = .tuple #[.slice none 0 0, tv false] ∧ M' = M := by
  refine R.cps fun Q hQ => ?_
  apply T_sour_Read_Values
  unfold S_sour_Read_Values
  refine (rall_ok h).mono fun v M1 ⟨e1, e2⟩ => ?_
  subst e1; subst e2
  rw [e_not, BR_bool, decide_eq_false ha, if_pos (by decide)]
  exact ⟨rfl, hQ _ _ ⟨rfl, rfl⟩⟩
theorem Stamps_ok (h : RdrR M0 M br mv st O) (hz : st.L.length ≤ 2 ^ 20) (ha : st.over = true ∧ st.told = 1) : R F.sour_Read_Stamps #[pB br] M fun v M' => Up M M' ∧ NV nv Ty.int M M' v st.ts := by
  refine R.cps fun Q hQ => ?_
  have h0 := h
  obtain ⟨h1, h2, nm, vv, tt, h3, h4, h5⟩ := h
  apply T_sour_Read_Stamps
  unfold S_sour_Read_Stamps
  refine (rall_ok h0).mono fun v M1 ⟨e1, e2⟩ => ?_
  subst e1; subst e2
  rw [e_not, BR_bool, if_neg (by simp [ha])]
  simp only [nilc_p, fad0, (rd8 h3).2.2.2.2.2.1]
  have := h2.le
  refine (CloneN_ok (NV.lv h4.tt) (by omega)).mono fun v M' ⟨u, n⟩ => ?_
  exact ⟨nts_of n.sl, hQ _ _ ⟨u, n⟩⟩
end
end Go.G
