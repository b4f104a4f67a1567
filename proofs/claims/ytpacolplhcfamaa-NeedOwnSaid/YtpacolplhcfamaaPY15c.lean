/- Layer 15: inputs at one moment, by the program: a step. -/
import Derived.Test.YtpacolplhcfamaaPY15b
namespace Go.G
open Go.Ab Go.Proofs Go.RowKit
set_option linter.unusedVariables false
set_option linter.unusedSimpArgs false
set_option maxRecDepth 100000

theorem _root_.Go.Ab.Ch.tdxO {S : List Nat} {M M' : Store} (h : Ch S M M') {bs Ns : List Nat} {i : Nat} (hS : ∀ b ∈ S, (M.get b).isSome = true ∧ b < Ns.getD 0 0) : TDx bs Ns i M M' := by
  refine ⟨h.n, fun c hc => ?_⟩
  rcases h.tdiff c hc with hc | hc
  · exact .inl hc
  · refine .inr ⟨(hS c hc).1, ?_⟩
    unfold accB
    rw [Bool.or_eq_true]
    exact .inl (decide_eq_true (hS c hc).2)
/-- One element more behind a list of what lies elsewhere. -/
theorem NLs.appC {α : Type} {E : Store → Value → α → Prop} {e M0 Mb M v w} {xs : List α} {x : α} (hE : ∀ M M' v x, E M v x → Keep e M M' → E M' v x) (hu : Up M0 M) (h0b : M0.n ≤ Mb.n) (hbm : Mb.n ≤ M.n) (h : NLs E e Mb M v xs) (hx : E M w x) (hz : xs.length + 1 ≤ 2 ^ 28) :
    ∃ v' M', Go.Ab.appV 1 e v (.slice (some ⟨M.n, 0, none⟩) 1 1) (M.push (some (.inl ([w], e, true)))) = some (v', M') ∧ Up M0 M' ∧ NLs E e Mb M' v' (xs ++ [x]) ∧ Keep e M M' ∧ Ch (kl v) (M.push (some (.inl ([w], e, true)))) M' ∧ (∃ b, bx v' = some b ∧ M.n ≤ b ∧ b < M'.n) ∧
      ∀ b ∈ kl v, b < M.n ∧ Mb.n ≤ b ∧ ∃ cells, (M.push (some (.inl ([w], e, true)))).get b = some (.inl (cells, e, true)) := by
  obtain ⟨vs, h1, h2⟩ := h
  have hw : Nw 1 e M0 (M.push (some (.inl ([w], e, true)))) (.slice (some ⟨M.n, 0, none⟩) 1 1) 1 [w] := Nw.lit (n := 1) hu.le (by simp)
  have h1' := h1.up (Up.push M (some (.inl ([w], e, true))))
  obtain ⟨v', M', e1, hu', hN, hn, hf, hc⟩ := Nw.appV2 (hu.push' _) h0b (by simp; omega) h1' hw.sl hz
  have hk : Keep e M M' := (Up.push M (some (.inl ([w], e, true)))).keep.trans (h1'.keeps hn hf)
  obtain ⟨a, c, rfl⟩ := h1.sl.slice
  obtain ⟨hb1, hb2⟩ := appV_box hw.sl (by omega) e1
  refine ⟨v', M', e1, hu', ⟨vs ++ [w], by simpa using hN, (h2.mono fun v x h => hE _ _ _ _ h hk).append ⟨hE _ _ _ _ hx hk, trivial⟩⟩, hk, hc, ⟨_, hb1, by simp, hb2⟩, fun b hb => ?_⟩
  exact ⟨(h1.bx_in (mem_kl.1 hb)).2, (h1.bx_in (mem_kl.1 hb)).1, h1'.kl_inl hb⟩
theorem kl_sub {v : Value} {n : Nat} (h : ∃ b, bx v = some b ∧ n ≤ b) : ∀ c ∈ kl v, n ≤ c := fun c hc => by
  obtain ⟨b, h1, h2⟩ := h
  have := bx_of_kil (mem_kl.1 hc)
  rw [h1] at this; injection this with this; omega

/-- How names of made things are told. -/
def MadeOk (mv : Value) (p : List UInt8 → Bool) (L : List (List UInt8)) : Prop := ∀ s ∈ L, ∀ (M : Store) (Q : Value → Store → Prop), Q (tv (p s)) M → KC mv [sv s] M Q
section
variable {Mf M0 M : Store} {bf r room U last : Nat} {fl : Fl} {br : Nat} {mv : Value} {st : RSt} {O : List Nat}
/-- What a step leaves. -/
def RdStepR (Mf M0 M : Store) (bf r room U last : Nat) (fl : Fl) (br : Nat) (mv : Value) (O : List Nat) (st : RSt) (k : Nat) (v : Value) (M' : Store) : Prop :=
  v = nv k ∧ Up M0 M' ∧ FSR Mf M' bf r room U last fl ∧ Ch O M M' ∧ ∃ O', RdrR M0 M' br mv st O' ∧ ∀ b ∈ O', b ∈ O ∨ M.n ≤ b
theorem end_st (hu : Up M0 M) (hf : FSR Mf M bf r room U last fl) (h : RdrR M0 M br mv st O) (k : Nat) : R F.sour_Read_end #[pB br, nv k] M fun v M' => RdStepR Mf M0 M bf r room U last fl br mv O (st.end k) k v M' :=
  (end_ok h k).mono fun v M' ⟨c, kk, e, h'⟩ => ⟨e, hu.ch c fun b hb => (h.own b hb).1, hf.keep (by decide) (by decide) kk, c, O, h', fun b hb => .inl hb⟩
theorem RdStepR.behind {M1 : Store} {O1 : List Nat} {k : Nat} {v : Value} {M' : Store} (h : RdStepR Mf M0 M1 bf r room U last fl br mv O1 st k v M') (c : Ch O M M1) (hO : ∀ b ∈ O1, b ∈ O ∨ M.n ≤ b) : RdStepR Mf M0 M bf r room U last fl br mv O st k v M' := by
  obtain ⟨h1, h2, h3, h4, O', h5, h6⟩ := h
  exact ⟨h1, h2, h3, c.trans' h4 hO, O', h5, fun b hb => by
    rcases h6 b hb with hb | hb
    · exact hO b hb
    · exact .inr (Nat.le_trans c.n hb)⟩
theorem look_ok (hu : Up M0 M) (hf : FSR Mf M bf r room U last fl) (h : RdrR M0 M br mv st O) (ho : st.over = false) (hL : st.L ≠ []) (hlk : st.looks = true) (hl : st.L.length < 2 ^ 28) :
    R F.sour_Read_look #[pB br, pB bf] M fun v M' => RdStepR Mf M0 M bf r room U last fl br mv O (lookS fl st).1 (lookS fl st).2 v M' := by
  refine R.cps fun Q hQ => ?_
  have h0 := h
  obtain ⟨h1, h2, nm, vv, tt, h3, h4, h5⟩ := h
  have hi := h2.i ho hL
  have ht := h2.lk ho hlk
  apply T_sour_Read_look
  unfold S_sour_Read_look
  simp only [nilc_p, fad0, (rd8 h3).1, (rd8 h3).2.2.2.1]
  obtain ⟨p1, e1, e2⟩ := h4.nm.at hi .i64
  rw [e1, OP_some, e2, OP_some]
  refine (Stamp_ok hf st.L[st.i]).mono fun v1 M1 ⟨e3, e4⟩ => ?_
  subst e3; subst e4
  refine ⟨Up.tdj (show Up M1 M1 from Ch.refl [] M1) _ _, ?_⟩
  simp only [nilc_p, fad0, (rd8 h3).2.2.2.2.2.1, (rd8 h3).2.2.2.1]
  obtain ⟨p2, e5, e6⟩ := LV.at h4.tt.lv (show st.i < st.ts.length by omega) .i64
  rw [e5, OP_some, e6, OP_some, neq_n, BR_dec]
  have g1 : st.L.getD st.i [] = st.L[st.i] := by simp [hi]
  have g2 : st.ts.getD st.i 0 = st.ts[st.i] := by simp [show st.i < st.ts.length by omega]
  unfold lookS at hQ
  rw [g1, g2] at hQ
  split
  · rename_i hne
    rw [if_pos hne] at hQ
    refine (begin_ok h0 ho).mono fun v M' ⟨c, kk, e, O', h', hs⟩ => ?_
    subst e
    exact ⟨rfl, hQ _ _ ⟨rfl, hu.ch c fun b hb => (h0.own b hb).1, hf.keep (by decide) (by decide) kk, c, O', h', fun b hb => .inl (hs b hb)⟩⟩
  rename_i hne
  rw [if_neg hne] at hQ
  rw [add1_n _ (by omega)]
  refine s_st1 (i := 3) (w := nv (st.i + 1)) h3 (by simp) (cells_iv _) (oc_iv _) fun M2 c2 o2 _ => ?_
  have o2 : Ob M2 br (rdC nm mv vv tt { st with i := st.i + 1 }) Ty.sour_Read := o2
  have kk := c2.keepT h3
  have cO : Ch O M1 M2 := c2.mono fun b hb => by rw [h5]; simp at hb; simp [hb]
  have hu2 : Up M0 M2 := hu.ch cO fun b hb => (h0.own b hb).1
  have hf2 : FSR Mf M2 bf r room U last fl := hf.keep (by decide) (by decide) kk
  have h42 := h4.keep kk
  simp only [(rd8 o2).2.2.2.1, (rd8 o2).1]
  rw [h42.nm.len, OP_some, eql_n, BR_dec]
  split
  · rename_i heq
    rw [if_pos heq] at hQ
    have hw : ({ st with i := st.i + 1, over := true } : RSt).Wf := ⟨fun h => (by cases h), fun h => (by cases h), fun h => (by cases h), h2.v, h2.le, fun h => (by cases h)⟩
    apply T_sour_Read_end
    unfold S_sour_Read_end
    simp only [nilc_p, fad0]
    refine s_st1 (i := 6) (w := tv true) o2 (by simp) (cells_tv _) (oc_tv _) fun M3 c3 o3 _ => ?_
    refine s_st1 (i := 7) (w := nv 1) o3 (by simp) (cells_iv _) (oc_iv _) fun M4 c4 o4 _ => ?_
    have kk4 := (c3.keepT o2).trans (c4.keepT o3)
    have cO4 : Ch O M2 M4 := (c3.trans c4).mono fun b hb => by rw [h5]; simp at hb; simp [hb]
    exact ⟨rfl, rfl, hQ _ _ ⟨rfl, hu2.ch cO4 fun b hb => (h0.own b hb).1, hf2.keep (by decide) (by decide) kk4, cO.trans cO4, O, ⟨h1, ⟨fun h => (by cases h), fun h => (by cases h), fun h => (by cases h), h2.v, h2.le, fun h => (by cases h)⟩, nm, vv, tt, o4, h42.keep kk4, h5⟩, fun b hb => .inl hb⟩⟩
  · rename_i hneq
    rw [if_neg hneq] at hQ
    exact ⟨rfl, hQ _ _ ⟨rfl, hu2, hf2, cO, O, ⟨h1, ⟨fun _ _ => by simp only; omega, fun _ _ => ht, (fun _ h => by rw [show st.looks = false from h] at hlk; cases hlk), h2.v, h2.le, fun _ _ => hL⟩, nm, vv, tt, o2, h42, h5⟩, fun b hb => .inl hb⟩⟩
theorem e_gtrL (n : Nat) (K : Value → Prop) : OP (binI .gtr (nv n) (.int .i64 256)) K = K (.bool (decide (256 < n))) := gtr_l 256 256 rfl K
theorem read1_ok (hu : Up M0 M) (hf : FSR Mf M bf r room U last fl) (h : RdrR M0 M br mv st O) (ho : st.over = false) (hL : st.L ≠ []) (hlk : st.looks = false) (hl : st.L.length < 2 ^ 27) {x : Value} {b : List UInt8} (hb : B M x b) (hbl : b.length ≤ 2 ^ 20) (z : Nat) {Q : Value → Store → Prop}
    (hQ : ∀ v M', RdStepR Mf M0 M bf r room U last fl br mv O (if 256 < b.length then st.end 3 else st.more b z) (if 256 < b.length then 3 else 0) v M' → Q v M') : P_sour_Read_read_1 (pB br) x (nv z) M Q := by
  apply T_sour_Read_read_1
  unfold S_sour_Read_read_1
  rw [by_len hb, e_gtrL, BR_dec]
  split
  · rename_i h256
    rw [if_pos h256, if_pos h256] at hQ
    refine (end_st hu hf h 3).mono fun v M' h' => ?_
    have e := h'.1
    subst e
    exact ⟨rfl, hQ _ _ h'⟩
  rename_i h256
  rw [if_neg h256, if_neg h256] at hQ
  have h0 := h
  obtain ⟨h1, h2, nm, vv, tt, h3, h4, h5⟩ := h
  have hi := h2.i ho hL
  have ht := h2.rd ho hlk
  have hv := h2.v
  simp only [nilc_p, fad0, (rd8 h3).2.2.2.2.1]
  obtain ⟨xa, xc, rfl⟩ := hb.slice
  rw [bl_sl1, LT_eq]
  have hbrM := h3.lt
  obtain ⟨v', M3, e3, hu3, hN3, hk3, hc3, hb3, hkl3⟩ := NLs.appC (M0 := M0) (By.keep' (by decide)) hu (Nat.le_refl _) hu.le h4.vv hb (by omega)
  rw [e3, OP2_some]
  have hc03 : Ch (kl vv) M M3 := Ch.trans' (Up.any (Up.push _ _)) hc3 fun b hb => .inl hb
  refine ⟨hc3.tdxO fun c hc => ?_, ?_⟩
  · obtain ⟨g1, _, cells, g2⟩ := hkl3 c hc
    exact ⟨by rw [g2]; rfl, g1⟩
  have o3 : Ob M3 br (rdC nm mv vv tt st) Ty.sour_Read := h3.keep (by decide) hk3
  have hf3 : FSR Mf M3 bf r room U last fl := hf.keep (by decide) (by decide) hk3
  have hnm3 : LV sv Ty.string M3 nm st.L := Sl.keep h4.nm (by decide) hk3
  have htt3 : NV nv Ty.int M0 M3 tt st.ts := Nw.keep h4.tt (by decide) hk3
  simp only [(rd8 o3).2.2.2.2.2.1]
  refine ⟨fun c hc hm => ?_, ?_⟩
  · have hcb : c = br := by simpa [idsV] using hm
    subst hcb
    rcases hc3.tdiff _ hc with hc | hc
    · simp at hc; omega
    · obtain ⟨_, _, cells, g2⟩ := hkl3 _ hc
      have := (Up.push M (some (.inl ([Value.slice xa b.length xc], Ty.sl_uint8, true)))).get h3
      rw [g2] at this
      injection this with this
      injection this with this
      simp only [Prod.mk.injEq] at this
      exact absurd this.2.1 (by decide)
  rw [e_lit1, LT_eq]
  have hxx : Sl 1 Ty.int (M3.push (some (.inl ([nv z], Ty.int, true)))) (.slice (some ⟨M3.n, 0, none⟩) 1 1) 1 [nv z] := (Nw.lit (M0 := M3) (n := 1) (Nat.le_refl _) rfl).sl
  have htt4 := Nw.up htt3 (Up.push M3 (some (.inl ([nv z], Ty.int, true))))
  have hkl5 : ∀ c ∈ kl tt, c < M.n ∧ ∃ cells, (M3.push (some (.inl ([nv z], Ty.int, true)))).get c = some (.inl (cells, Ty.int, true)) := fun c hc => ⟨(Nw.bx_in h4.tt (mem_kl.1 hc)).2, htt4.kl_inl hc⟩
  obtain ⟨w', M5, e5, hu5, hN5, hn5, hf5', hc5⟩ := Nw.appV2 (hu3.trans (Up.push _ _)) (Nat.le_refl _) (by have := hu3.le; simp; omega) htt4 hxx (by omega)
  rw [e5, OP2_some]
  have hk5 : Keep Ty.int M3 M5 := (Up.push M3 (some (.inl ([nv z], Ty.int, true)))).keep.trans (htt4.keeps hn5 hf5')
  obtain ⟨ta, tc, rfl⟩ := htt3.sl.slice
  obtain ⟨hb51, hb52⟩ := appV_box hxx (by omega) e5
  have hc35 : Ch (kl (.slice ta st.ts.length tc)) M3 M5 := Ch.trans' (Up.any (Up.push _ _)) hc5 fun b hb => .inl hb
  refine ⟨hc5.tdxO fun c hc => ?_, ?_⟩
  · obtain ⟨g1, cells, g2⟩ := hkl5 c hc
    exact ⟨by rw [g2]; rfl, g1⟩
  have hN5' : NV nv Ty.int M0 M5 w' (st.ts ++ [z]) := by simpa [NV] using hN5
  have o5 : Ob M5 br (rdC nm mv vv (.slice ta st.ts.length tc) st) Ty.sour_Read := o3.keep (by decide) hk5
  have hf5 : FSR Mf M5 bf r room U last fl := hf3.keep (by decide) (by decide) hk5
  have hnm5 : LV sv Ty.string M5 nm st.L := Sl.keep hnm3 (by decide) hk5
  have hvv5 : NLs B Ty.sl_uint8 M0 M5 v' (st.vs ++ [b]) := NLs.keep (By.keep' (by decide)) hN3 (by decide) hk5
  obtain ⟨va, vc, rfl⟩ : ∃ a c, v' = .slice a (st.vs ++ [b]).length c := by obtain ⟨vs, g, _⟩ := hN3; exact g.sl.slice
  obtain ⟨wa, wc, rfl⟩ : ∃ a c, w' = .slice a (st.ts ++ [z]).length c := hN5'.sl.slice
  refine s_st1 (i := 4) (w := .slice va (st.vs ++ [b]).length vc) o5 (by simp) (cells_sl _ _ _) (oc_sl _ _ _) fun M6 c6 o6 _ => ⟨c6.tdx o5 (by simpa using hbrM), ?_⟩
  refine s_st1 (i := 5) (w := .slice wa (st.ts ++ [z]).length wc) o6 (by simp) (cells_sl _ _ _) (oc_sl _ _ _) fun M7 c7 o7 _ => ⟨c7.tdx o6 (by simpa using hbrM), ?_⟩
  have o7 : Ob M7 br (rdC nm mv (.slice va (st.vs ++ [b]).length vc) (.slice wa (st.ts ++ [z]).length wc) { st with vs := st.vs ++ [b], ts := st.ts ++ [z] }) Ty.sour_Read := o7
  simp only [(rd8 o7).2.2.2.1]
  rw [add1_n _ (by omega)]
  refine s_st1 (i := 3) (w := nv (st.i + 1)) o7 (by simp) (cells_iv _) (oc_iv _) fun M8 c8 o8 _ => ?_
  have o8 : Ob M8 br (rdC nm mv (.slice va (st.vs ++ [b]).length vc) (.slice wa (st.ts ++ [z]).length wc) { st with i := st.i + 1, vs := st.vs ++ [b], ts := st.ts ++ [z] }) Ty.sour_Read := o8
  have kk8 := ((c6.keepT o5).trans (c7.keepT o6)).trans (c8.keepT o7)
  have hI8 : RdI M0 M8 nm (.slice va (st.vs ++ [b]).length vc) (.slice wa (st.ts ++ [z]).length wc) st.L (st.vs ++ [b]) (st.ts ++ [z]) := RdI.keep ⟨hnm5, hvv5, hN5'⟩ kk8
  have c58 : Ch [br] M5 M8 := (c6.trans c7).trans c8
  have hO : ∀ {M9 : Store}, Ch [br] M8 M9 → Ch O M M9 := fun c9 => by
    refine Ch.trans' (S := O) (S' := [br]) (Ch.trans' (S := O) (S' := kl (.slice ta st.ts.length tc)) (hc03.mono fun c hc => ?_) hc35 fun c hc => .inl ?_) (c58.trans c9) fun c hc => .inl ?_
    · rw [h5]; simp [hc]
    · rw [h5]; exact List.mem_cons_of_mem _ (List.mem_append_right _ hc)
    · rw [h5]; simp at hc; simp [hc]
  have hO' : ∀ c ∈ br :: (kl (.slice va (st.vs ++ [b]).length vc) ++ kl (.slice wa (st.ts ++ [z]).length wc)), c ∈ O ∨ M.n ≤ c := fun c hc => by
    rcases List.mem_cons.1 hc with rfl | hc
    · exact .inl (by rw [h5]; simp)
    · rcases List.mem_append.1 hc with hc | hc
      · obtain ⟨q, g1, g2, _⟩ := hb3
        exact .inr (kl_sub ⟨q, g1, g2⟩ c hc)
      · exact .inr (Nat.le_trans hc03.n (kl_sub ⟨_, hb51, by simp⟩ c hc))
  simp only [(rd8 o8).2.2.2.1, (rd8 o8).1]
  rw [hI8.nm.len, OP_some, eql_n, BR_dec]
  have hw := h2.step (fun _ => some (b, z)) (fun _ => false)
  unfold stepS at hw
  rw [if_neg (by rw [ho]; decide), if_neg hL, if_neg (by rw [hlk]; decide)] at hw
  have hw' : (st.more b z).Wf := by
    have e : (readS (fun _ => some (b, z)) (fun _ => false) st).1 = st.more b z := by
      unfold readS valS
      simp only [Bool.false_eq_true, if_false, if_neg h256]
    rw [e] at hw; exact hw
  split
  · rename_i heq
    refine s_st1 (i := 2) (w := tv true) o8 (by simp) (cells_tv _) (oc_tv _) fun M9 c9 o9 _ => ?_
    refine s_st1 (i := 3) (w := nv 0) o9 (by simp) (cells_iv _) (oc_iv _) fun M10 c10 o10 _ => ?_
    have kk10 := (c9.keepT o8).trans (c10.keepT o9)
    have em : st.more b z = { st with looks := true, i := 0, vs := st.vs ++ [b], ts := st.ts ++ [z] } := by unfold RSt.more; rw [if_pos heq]
    have cc := hO (c9.trans c10)
    refine ⟨rfl, hQ _ _ ⟨rfl, hu.ch cc fun c hc => (h0.own c hc).1, hf5.keep (by decide) (by decide) (kk8.trans kk10), cc, _, ⟨h1, hw', nm, _, _, ?_, ?_, rfl⟩, hO'⟩⟩
    · rw [em]; exact o10
    · rw [em]; exact hI8.keep kk10
  · rename_i hneq
    have em : st.more b z = { st with i := st.i + 1, vs := st.vs ++ [b], ts := st.ts ++ [z] } := by unfold RSt.more; rw [if_neg hneq]
    have cc := hO (Ch.refl _ M8)
    refine ⟨rfl, hQ _ _ ⟨rfl, hu.ch cc fun c hc => (h0.own c hc).1, hf5.keep (by decide) (by decide) kk8, cc, _, ⟨h1, hw', nm, _, _, ?_, ?_, rfl⟩, hO'⟩⟩
    · rw [em]; exact o8
    · rw [em]; exact hI8
end
end Go.G
