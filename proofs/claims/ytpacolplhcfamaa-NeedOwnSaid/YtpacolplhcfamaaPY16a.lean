/- Layer 16: what is to be done, by the program: an asker's box; its end; which are old. -/
import Derived.Test.YtpacolplhcfamaaPY15e
import Derived.Test.YtpacolplhcfamaaPGG
import Derived.Test.YtpacolplhcfamaaPY10p
namespace Go.G
open Go.Ab Go.Proofs Go.RowKit
set_option linter.unusedVariables false
set_option linter.unusedSimpArgs false
set_option maxRecDepth 100000

/-- Types that no step of an asker touches. -/
def okT (e : TypeId) : Prop := e ≠ Ty.need_Ask ∧ e ≠ Ty.sour_Read ∧ e ≠ Ty.sl_uint8 ∧ e ≠ Ty.int ∧ e ≠ Ty.bool ∧ e ≠ Ty.simf_FS
/-- Lists of such types are as they were. -/
def KeepsL (M M' : Store) : Prop := ∀ s e v n cs, okT e → Sl s e M v n cs → Sl s e M' v n cs
theorem KeepsL.trans {M M1 M2 : Store} (h : KeepsL M M1) (k : KeepsL M1 M2) : KeepsL M M2 := fun s e v n cs he hs => k s e v n cs he (h s e v n cs he hs)
theorem _root_.Go.Ab.Up.keepsL {M M' : Store} (h : Up M M') : KeepsL M M' := fun s e v n cs he hs => Sl.up hs h
theorem _root_.Go.Ab.Keep.keepsL {t : TypeId} {M M' : Store} (h : Keep t M M') (ht : ∀ e, okT e → e ≠ t) : KeepsL M M' := fun s e v n cs he hs => Sl.keep hs (ht e he) h
theorem RdrR.awayT {M0 M : Store} {br : Nat} {mv : Value} {st : RSt} {O : List Nat} (h : RdrR M0 M br mv st O) {e : TypeId} (e1 : e ≠ Ty.sour_Read) (e2 : e ≠ Ty.sl_uint8) (e3 : e ≠ Ty.int) : Away e M O := by
  obtain ⟨h1, h2, nm, vv, tt, h3, h4, h5⟩ := h
  intro b hb
  rw [h5] at hb
  rcases List.mem_cons.1 hb with rfl | hb
  · exact .inl ⟨_, _, h3, e1⟩
  · rcases List.mem_append.1 hb with hb | hb
    · obtain ⟨vs, g, _⟩ := h4.vv
      obtain ⟨cells, hc⟩ := g.kl_inl hb
      exact .inl ⟨_, _, hc, e2⟩
    · obtain ⟨cells, hc⟩ := Nw.kl_inl h4.tt hb
      exact .inl ⟨_, _, hc, e3⟩
theorem RdrR.keepsL {M0 M M' : Store} {br : Nat} {mv : Value} {st : RSt} {O : List Nat} (h : RdrR M0 M br mv st O) (c : Ch O M M') : KeepsL M M' := fun s e v n cs he hs =>
  Sl.chS hs c (h.awayT he.2.1 he.2.2.1 he.2.2.2.1)
theorem FSR.keepsL {M0 M M' : Store} {bf r room U last : Nat} {fl : Fl} (h : FSR M0 M bf r room U last fl) (c : Ch [bf, r] M M') : KeepsL M M' := fun s e v n cs he hs =>
  Sl.chS hs c (h.away he.2.2.2.2.2)
/-- An asker that does not know its inputs yet. -/
structure AskA (M0 M : Store) (ba : Nat) (outs : List (List UInt8)) (acts : List (List Dw)) (over : Bool) (told : Nat) (br : Nat) (mv : Value) (st : RSt) (O : List Nat) : Prop where
  b0 : M0.n ≤ ba
  is : ∃ ou i_ o_ ac ph, Ob M ba [ou, i_, o_, ac, ph, pB br, tv false, .slice none 0 0, .slice none 0 0, .slice none 0 0, tv over, nv told] Ty.need_Ask ∧ LV sv Ty.string M ou outs ∧ Ls DS Ty.sl_api_Do M ac acts
  rd : RdrR M0 M br mv st O
/-- One that does. -/
structure AskB (M0 M : Store) (ba : Nat) (outs : List (List UInt8)) (prints values : List (List UInt8)) (old : List Bool) (over : Bool) (told : Nat) : Prop where
  b0 : M0.n ≤ ba
  is : ∃ ou i_ o_ ac ph sp pr va ol, Ob M ba [ou, i_, o_, ac, ph, sp, tv true, pr, va, ol, tv over, nv told] Ty.need_Ask ∧ LV sv Ty.string M ou outs ∧ BB M pr prints ∧ BB M va values ∧ NV tv Ty.bool M0 M ol old ∧ ∃ an : Nat, an ≠ 0 ∧ Go.Ab.lenV ac = some (nv an)
theorem rd12 {M : Store} {b : Nat} {c0 c1 c2 c3 c4 c5 c6 c7 c8 c9 c10 c11 : Value} {T : TypeId} (o : Ob M b [c0, c1, c2, c3, c4, c5, c6, c7, c8, c9, c10, c11] T) :
    (∀ K : Value → Prop, OP (ld 1 false (.pointer (some ⟨b, 0, none⟩)) M) K = K c0) ∧ (∀ K : Value → Prop, OP (ld 1 false (.pointer (some ⟨b, 3, none⟩)) M) K = K c3) ∧ (∀ K : Value → Prop, OP (ld 1 false (.pointer (some ⟨b, 5, none⟩)) M) K = K c5) ∧ (∀ K : Value → Prop, OP (ld 1 false (.pointer (some ⟨b, 6, none⟩)) M) K = K c6) ∧
    (∀ K : Value → Prop, OP (ld 1 false (.pointer (some ⟨b, 7, none⟩)) M) K = K c7) ∧ (∀ K : Value → Prop, OP (ld 1 false (.pointer (some ⟨b, 8, none⟩)) M) K = K c8) ∧ (∀ K : Value → Prop, OP (ld 1 false (.pointer (some ⟨b, 9, none⟩)) M) K = K c9) ∧ (∀ K : Value → Prop, OP (ld 1 false (.pointer (some ⟨b, 10, none⟩)) M) K = K c10) ∧ (∀ K : Value → Prop, OP (ld 1 false (.pointer (some ⟨b, 11, none⟩)) M) K = K c11) :=
  ⟨fun K => by rw [o.ld (v := c0) rfl, OP_some], fun K => by rw [o.ld (v := c3) rfl, OP_some], fun K => by rw [o.ld (v := c5) rfl, OP_some], fun K => by rw [o.ld (v := c6) rfl, OP_some],
   fun K => by rw [o.ld (v := c7) rfl, OP_some], fun K => by rw [o.ld (v := c8) rfl, OP_some], fun K => by rw [o.ld (v := c9) rfl, OP_some], fun K => by rw [o.ld (v := c10) rfl, OP_some], fun K => by rw [o.ld (v := c11) rfl, OP_some]⟩
theorem fad3 (f b o : Nat) (K : Value → Prop) : OP (fad f (.pointer (some ⟨b, o, none⟩))) K = K (.pointer (some ⟨b, o + f, none⟩)) := e_fad f b o K
theorem needT {t : TypeId} (h : t = Ty.need_Ask) : ∀ e, okT e → e ≠ t := fun e he => by rw [h]; exact he.1
/-- The end of an asker. -/
theorem aend_ok {M : Store} {ba : Nat} {c0 c1 c2 c3 c4 c5 c6 c7 c8 c9 c10 c11 : Value} (o : Ob M ba [c0, c1, c2, c3, c4, c5, c6, c7, c8, c9, c10, c11] Ty.need_Ask) (k : Nat) :
    R F.need_Ask_end #[pB ba, nv k] M fun v M' => v = nv k ∧ Ch [ba] M M' ∧ Keep Ty.need_Ask M M' ∧ Ob M' ba [c0, c1, c2, c3, c4, c5, c6, c7, c8, c9, tv true, nv k] Ty.need_Ask := by
  refine R.cps fun Q hQ => ?_
  apply T_need_Ask_end
  unfold S_need_Ask_end
  simp only [nilc_p, fad0]
  refine s_st1 (i := 10) (w := tv true) o (by simp) (cells_tv _) (oc_tv _) fun M1 c1 o1 _ => ?_
  refine s_st1 (i := 11) (w := nv k) o1 (by simp) (cells_iv _) (oc_iv _) fun M2 c2 o2 _ => ?_
  exact ⟨rfl, hQ _ _ ⟨rfl, c1.trans c2, (c1.keepT o).trans (c2.keepT o1), o2⟩⟩
theorem bool_eqN (a b : Bool) (K : Value → Prop) : OP (abin Try.prog false .eql Ty.bool (tv a) (tv b)) K = K (tv (a == b)) := by
  have : abin Try.prog false .eql Ty.bool (.bool a) (.bool b) = some (.bool (a == b)) := by kernel_rfl
  rw [this, OP_some]
/-- Is one of them true? -/
theorem Index_loop {M : Store} {x : Value} {l : List Bool} (h : LV tv Ty.bool M x l) (hl : l.length ≤ 2 ^ 26) {Q : Value → Store → Prop} (hQ : ∀ z : Int, (0 ≤ z ↔ true ∈ l) → Q (iv z) M) :
    ∀ (k i : Nat), k + i = l.length → (∀ b ∈ l.take i, b = false) → P_slices_Index_sl_bool_bool_1 x (tv true) (nv l.length) (nv i) M Q := by
  intro k
  induction k with
  | zero =>
    intro i hi hf
    apply T_slices_Index_sl_bool_bool_1
    unfold S_slices_Index_sl_bool_bool_1
    rw [lss_n, BR_dec, if_neg (by omega)]
    apply T_slices_Index_sl_bool_bool_2
    unfold S_slices_Index_sl_bool_bool_2
    rw [List.take_of_length_le (by omega)] at hf
    refine ⟨rfl, hQ (-1) ⟨fun h => absurd h (by decide), fun h => by have := hf _ h; cases this⟩⟩
  | succ k ih =>
    intro i hi hf
    have hil : i < l.length := by omega
    apply T_slices_Index_sl_bool_bool_1
    unfold S_slices_Index_sl_bool_bool_1
    rw [lss_n, BR_dec, if_pos hil]
    obtain ⟨p, e1, e2⟩ := h.at hil .i64
    rw [e1, OP_some, e2, OP_some, bool_eqN, BR_bool]
    split
    · rename_i hb
      have hb : l[i] = true := by cases hh : l[i] <;> rw [hh] at hb <;> first | rfl | cases hb
      exact ⟨rfl, hQ (i : Int) ⟨fun _ => by rw [← hb]; exact List.getElem_mem hil, fun _ => by omega⟩⟩
    · rename_i hb
      have hb : l[i] = false := by cases hh : l[i] <;> rw [hh] at hb <;> first | rfl | exact absurd rfl hb
      rw [add1_n _ (by omega)]
      refine ih (i + 1) (by omega) fun b hbm => ?_
      rw [List.take_succ_eq_append_getElem hil] at hbm
      rcases List.mem_append.1 hbm with hbm | hbm
      · exact hf b hbm
      · rw [List.mem_singleton.1 hbm]; exact hb
theorem Contains_ok {M : Store} {x : Value} {l : List Bool} (h : LV tv Ty.bool M x l) (hl : l.length ≤ 2 ^ 26) : R F.slices_Contains_sl_bool_bool #[x, .bool true] M fun v M' => M' = M ∧ v = tv (decide (true ∈ l)) := by
  refine R.cps fun Q hQ => ?_
  apply T_slices_Contains_sl_bool_bool
  unfold S_slices_Contains_sl_bool_bool
  apply T_slices_Index_sl_bool_bool
  unfold S_slices_Index_sl_bool_bool
  rw [h.len, OP_some]
  refine Index_loop h hl (fun z hz => ?_) l.length 0 rfl (fun b hb => by cases hb)
  show OP (binI .geq (.int .i64 z) (.int .i64 0)) _
  rw [e_geq]
  have : decide (z ≥ 0) = decide (true ∈ l) := by
    by_cases hm : true ∈ l
    · rw [decide_eq_true (hz.2 hm), decide_eq_true hm]
    · rw [decide_eq_false (fun h => hm (hz.1 h)), decide_eq_false hm]
  rw [this]
  exact ⟨rfl, hQ _ _ ⟨rfl, rfl⟩⟩
/-- What is told when one more is looked at. -/
def settleN (outs : List (List UInt8)) (old : List Bool) : Nat := if old.length < outs.length then 0 else if true ∈ old then 2 else 1
theorem settled_ok {M0 M : Store} {ba : Nat} {outs prints values : List (List UInt8)} {old : List Bool} (h : AskB M0 M ba outs prints values old false 0) (ho : old.length ≤ 2 ^ 26) :
    R F.need_Ask_settled #[pB ba] M fun v M' => v = nv (settleN outs old) ∧ Ch [ba] M M' ∧ Keep Ty.need_Ask M M' ∧ AskB M0 M' ba outs prints values old (decide (settleN outs old ≠ 0)) (settleN outs old) := by
  refine R.cps fun Q hQ => ?_
  have h0 := h
  obtain ⟨hb, ou, i_, o_, ac, ph, sp, pr, va, ol, o, h1, h2, h3, h4, h5⟩ := h
  apply T_need_Ask_settled
  unfold S_need_Ask_settled
  simp only [nilc_p, fad0, (rd12 o).2.2.2.2.2.2.1, (rd12 o).1]
  have hol : LV tv Ty.bool M ol old := NV.lv h4
  rw [hol.len, OP_some, h1.len, OP_some, lss_n, BR_dec]
  have fin : ∀ (k : Nat), settleN outs old = k → k ≠ 0 → R F.need_Ask_end #[pB ba, nv k] M fun v M' => NTs [v] ∧ Q v M' := by
    intro k e hk
    refine (aend_ok o k).mono fun v M' ⟨e1, c, kk, o'⟩ => ?_
    subst e1
    refine ⟨rfl, hQ _ _ ⟨by rw [e], c, kk, hb, ou, i_, o_, ac, ph, sp, pr, va, ol, ?_, Sl.keep h1 (by decide) kk, Ls.keep (By.keep' (by decide)) h2 (by decide) kk, Ls.keep (By.keep' (by decide)) h3 (by decide) kk, Nw.keep h4 (by decide) kk, h5⟩⟩
    rw [e, decide_eq_true hk]; exact o'
  split
  · rename_i hlt
    have e : settleN outs old = 0 := by unfold settleN; rw [if_pos hlt]
    refine ⟨rfl, hQ _ _ ⟨by rw [e]; rfl, Ch.refl _ _, ⟨Nat.le_refl _, fun i x hx _ => hx⟩, ?_⟩⟩
    rw [e]; exact h0
  · rename_i hlt
    refine (Contains_ok hol ho).mono fun v M1 ⟨e1, e2⟩ => ?_
    subst e1; subst e2
    rw [BR_dec]
    split
    · rename_i hm
      exact fin 2 (by unfold settleN; rw [if_neg hlt, if_pos hm]) (by decide)
    · rename_i hm
      exact fin 1 (by unfold settleN; rw [if_neg hlt, if_neg hm]) (by decide)
theorem CloneB_ok {M : Store} {v : Value} {l : List Bool} (h : LV tv Ty.bool M v l) (hl : l.length ≤ 2 ^ 24) : R F.slices_Clone_sl_bool_bool #[v] M fun v' M' => Up M M' ∧ NV tv Ty.bool M M' v' l := by
  refine R.cps fun Q hQ => ?_
  apply T_slices_Clone_sl_bool_bool
  exact cloneV U.sl_bool h hl fun v' M' u n => hQ _ _ ⟨u, n⟩
/-- Copies of rows. -/
theorem still_loop {x6 : Value} {vs : List (List UInt8)} {Mb : Store} (hv : BB Mb x6 vs) (hz : vs.length ≤ 2 ^ 20) (hb : ∀ x ∈ vs, x.length ≤ 2 ^ 20) {Q : Value → Store → Prop}
    (hQ : ∀ v M', Up Mb M' → NLs (NN Mb) Ty.sl_uint8 Mb M' v vs → Q v M') : ∀ (k i : Nat) (M : Store) (acc : Value), k + i = vs.length → Up Mb M → NLs (NN Mb) Ty.sl_uint8 Mb M acc (vs.take i) → P_need_still_1 acc x6 (nv vs.length) (nv i) M Q := by
  intro k
  induction k with
  | zero =>
    intro i M acc hi hu hN
    apply T_need_still_1
    unfold S_need_still_1
    rw [lss_n, BR_dec, if_neg (by omega)]
    rw [List.take_of_length_le (by omega)] at hN
    apply T_need_still_2
    unfold S_need_still_2
    obtain ⟨ws, g1, g2⟩ := hN
    apply T_slices_Clip_sl_sl_byte_sl_byte
    obtain ⟨v', e, h'⟩ := slM_full g1
    unfold S_slices_Clip_sl_sl_byte_sl_byte
    rw [g1.sl.lenV]
    simp only [ev, e]
    have hnt : NTs [v'] := nts_of h'.sl
    obtain ⟨a, c, rfl⟩ := h'.sl.slice
    exact ⟨rfl, rfl, hQ _ _ hu ⟨ws, h', g2⟩⟩
  | succ k ih =>
    intro i M acc hi hu hN
    apply T_need_still_1
    unfold S_need_still_1
    rw [lss_n, BR_dec, if_pos (by omega)]
    obtain ⟨p, w, e1, e2, hw⟩ := (Ls.up By.up' hv hu).at (show i < vs.length by omega) .i64
    rw [e1, OP_some, e2, OP_some]
    refine (Clone_ok hw (by have := hb _ (List.getElem_mem (show i < vs.length by omega)); omega)).mono fun w' M1 ⟨u1, hw'⟩ => ?_
    obtain ⟨xa, xc, rfl⟩ := hw'.sl.slice
    rw [bl_sl1, LT_eq]
    have hx : NN Mb M1 (.slice xa vs[i].length xc) vs[i] := Nw.base hw' hu.n
    obtain ⟨v', M3, e3, hu3, hN3, _⟩ := NLs.app1 (NN.keep Mb (by decide)) (hu.trans u1) (NLs.up (NN.up Mb) hN u1) hx (by simp; omega)
    rw [e3, OP2_some, add1_n _ (by omega)]
    refine ih (i + 1) M3 v' (by omega) hu3 ?_
    rw [List.take_succ_eq_append_getElem (show i < vs.length by omega)]
    exact hN3
theorem still_ok {M : Store} {x : Value} {vs : List (List UInt8)} (hv : BB M x vs) (hz : vs.length ≤ 2 ^ 20) (hb : ∀ x ∈ vs, x.length ≤ 2 ^ 20) : R F.need_still #[x] M fun v M' => Up M M' ∧ NLs (NN M) Ty.sl_uint8 M M' v vs := by
  refine R.cps fun Q hQ => ?_
  apply T_need_still
  unfold S_need_still
  rw [hv.lenV, OP_some]
  exact still_loop hv hz hb (fun v M' u n => hQ _ _ ⟨u, n⟩) vs.length 0 M _ rfl (Ch.refl _ _) NLs.nil
section
variable {M0 M : Store} {ba : Nat} {outs prints values : List (List UInt8)} {old : List Bool} {told : Nat}
theorem tells_ok (h : AskB M0 M ba outs prints values old true told) (ht : told = 1 ∨ told = 2) : R F.need_Ask_tells #[pB ba] M fun v M' => M' = M ∧ v = tv true := by
  refine R.cps fun Q hQ => ?_
  obtain ⟨hb, ou, i_, o_, ac, ph, sp, pr, va, ol, o, h1, h2, h3, h4, h5⟩ := h
  apply T_need_Ask_tells
  unfold S_need_Ask_tells
  simp only [nilc_p, fad0, (rd12 o).2.2.2.2.2.2.2.1, (rd12 o).2.2.2.2.2.2.2.2]
  rw [BR_bool, if_pos rfl, eql_l 1 1 rfl, BR3_dec]
  rcases ht with rfl | rfl
  · rw [if_pos rfl]; exact ⟨rfl, hQ _ _ ⟨rfl, rfl⟩⟩
  · rw [if_neg (by decide), eql_l 2 2 rfl]; exact ⟨rfl, hQ _ _ ⟨rfl, rfl⟩⟩
theorem Prints_ok (h : AskB M0 M ba outs prints values old true told) (ht : told = 1 ∨ told = 2) (hz : prints.length ≤ 2 ^ 20) (hb : ∀ x ∈ prints, x.length ≤ 2 ^ 20) : R F.need_Ask_Prints #[pB ba] M fun v M' => Up M M' ∧ NLs (NN M) Ty.sl_uint8 M M' v prints := by
  refine R.cps fun Q hQ => ?_
  have h0 := h
  obtain ⟨hb0, ou, i_, o_, ac, ph, sp, pr, va, ol, o, h1, h2, h3, h4, h5⟩ := h
  apply T_need_Ask_Prints
  unfold S_need_Ask_Prints
  refine (tells_ok h0 ht).mono fun v M1 ⟨e1, e2⟩ => ?_
  subst e1; subst e2
  rw [e_not, BR_bool, if_neg (by decide)]
  simp only [nilc_p, fad0, (rd12 o).2.2.2.2.1]
  refine (still_ok h2 hz hb).mono fun v M' ⟨u, n⟩ => ?_
  exact ⟨by obtain ⟨vs, g, _⟩ := n; exact nts_of g.sl, hQ _ _ ⟨u, n⟩⟩
theorem AValues_ok (h : AskB M0 M ba outs prints values old true told) (ht : told = 1 ∨ told = 2) (hz : values.length ≤ 2 ^ 20) (hb : ∀ x ∈ values, x.length ≤ 2 ^ 20) : R F.need_Ask_Values #[pB ba] M fun v M' => Up M M' ∧ NLs (NN M) Ty.sl_uint8 M M' v values := by
  refine R.cps fun Q hQ => ?_
  have h0 := h
  obtain ⟨hb0, ou, i_, o_, ac, ph, sp, pr, va, ol, o, h1, h2, h3, h4, h5⟩ := h
  apply T_need_Ask_Values
  unfold S_need_Ask_Values
  refine (tells_ok h0 ht).mono fun v M1 ⟨e1, e2⟩ => ?_
  subst e1; subst e2
  rw [e_not, BR_bool, if_neg (by decide)]
  simp only [nilc_p, fad0, (rd12 o).2.2.2.2.2.1]
  refine (still_ok h3 hz hb).mono fun v M' ⟨u, n⟩ => ?_
  exact ⟨by obtain ⟨vs, g, _⟩ := n; exact nts_of g.sl, hQ _ _ ⟨u, n⟩⟩
theorem Old_ok (h : AskB M0 M ba outs prints values old true told) (ht : told = 1 ∨ told = 2) (hz : old.length ≤ 2 ^ 20) : R F.need_Ask_Old #[pB ba] M fun v M' => Up M M' ∧ NV tv Ty.bool M M' v old := by
  refine R.cps fun Q hQ => ?_
  have h0 := h
  obtain ⟨hb0, ou, i_, o_, ac, ph, sp, pr, va, ol, o, h1, h2, h3, h4, h5⟩ := h
  apply T_need_Ask_Old
  unfold S_need_Ask_Old
  refine (tells_ok h0 ht).mono fun v M1 ⟨e1, e2⟩ => ?_
  subst e1; subst e2
  rw [e_not, BR_bool, if_neg (by decide)]
  simp only [nilc_p, fad0, (rd12 o).2.2.2.2.2.2.1]
  refine (CloneB_ok (NV.lv h4) (by omega)).mono fun v M' ⟨u, n⟩ => ?_
  exact ⟨nts_of n.sl, hQ _ _ ⟨u, n⟩⟩
end
end Go.G
