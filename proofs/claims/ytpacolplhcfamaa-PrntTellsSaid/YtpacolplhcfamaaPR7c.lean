/- Layer 6: a run: the very bytes. -/
import Derived.Test.YtpacolplhcfamaaPR7b
namespace Go.G
open Go.Ab Go.Proofs Go.RowKit
set_option linter.unusedVariables false
set_option linter.unusedSimpArgs false
set_option maxRecDepth 100000

/-- What a run comes to: bytes that are one's own. -/
def RunR (M0 M : Store) (r : Value) : Option (List UInt8) → Prop
  | none => r = .tuple #[.slice none 0 0, .bool false]
  | some t => ∃ w, r = .tuple #[w, .bool true] ∧ N M0 M w t ∧ t.length ≤ 256
theorem RunE_loop {M0 : Store} {v x1 : Value} {l : List Dw} {ins : List (List UInt8)} (h : DS M0 v l) (hl : l.length ≤ 2 ^ 20) (hld : ∀ d ∈ l, 0 ≤ d.2.1 ∧ d.2.2.length ≤ 2 ^ 10) (hi : BL M0 x1 ins) (hil : ins.length ≤ 100) (his : ∀ l ∈ ins, l.length ≤ 2 ^ 12)
    {o : Option (List UInt8)} {Q : Value → Store → Prop} (hQ : ∀ r M, Up M0 M → RunR M0 M r o → Q r M) :
    ∀ (k i : Nat) (x6 : Value) (b : List UInt8) (M : Store), k + i = l.length → Up M0 M → B M x6 b → b.length ≤ 256 → runL ins (l.drop i) b = o → P_acts_Run_1 x1 x6 v (iv (l.length : Int)) (iv (i : Int)) M Q := by
  have fail : ∀ M, o = none → Up M0 M → NTs [(.slice none 0 0), (.bool false)] ∧ Q (.tuple #[(.slice none 0 0), (.bool false)]) M := fun M ho hu => ⟨rfl, hQ _ _ hu (by rw [ho]; rfl)⟩
  intro k
  induction k with
  | zero =>
    intro i x6 b M hk hu hB hb ho
    apply T_acts_Run_1
    unfold S_acts_Run_1
    rw [lss_n, BR_dec, if_neg (by omega)]
    apply T_acts_Run_3
    unfold S_acts_Run_3
    rw [List.drop_of_length_le (by omega)] at ho
    refine (Clone_ok hB (by omega)).mono fun w M1 ⟨u1, h1⟩ => (Clip_ok h1).mono fun w2 M2 ⟨e2, h2⟩ => ?_
    subst e2
    have h3 := Nw.base h2 hu.n
    refine ⟨?_, hQ _ _ (hu.trans u1) (by rw [← ho]; exact ⟨w2, rfl, h3, hb⟩)⟩
    obtain ⟨a, c, rfl⟩ := h2.by.slice
    rfl
  | succ k ih =>
    intro i x6 b M hk hu hB hb ho
    apply T_acts_Run_1
    unfold S_acts_Run_1
    have hil2 : i < l.length := by omega
    rw [lss_n, BR_dec, if_pos hil2]
    apply T_acts_Run_2
    unfold S_acts_Run_2
    rw [ds_ld (Sl.up h hu) hil2]
    have hd := hld _ (List.getElem_mem hil2)
    rw [List.drop_eq_getElem_cons hil2] at ho
    generalize l[i] = d at *
    refine s_new fun M1 u1 o1 n1 => ?_
    refine s_st (vs := dcs d) o1 rfl rfl (dcs_one _) fun M2 c2 o2 n2 => ?_
    have u02 : Up M M2 := u1.ch c2 (by simp)
    have hu2 : Up M0 M2 := hu.trans u02
    rw [o2.ldA (s := 3) rfl, OP_some]
    refine (stepE (d := d) (hi.up B_up hu2) hil his (Sl.up hB u02) hb hd.1 hd.2).mono fun r M3 ⟨u3, hr⟩ => ?_
    rw [runL] at ho
    cases hst : stepA d ins b with
    | none =>
      rw [hst] at hr ho
      have hr : r = .tuple #[.slice none 0 0, .bool false] := hr
      subst hr
      rw [(tp2b _ false).1, (tp2b _ false).2, e_not, BR_bool, if_pos (show (!false) = true from rfl)]
      exact fail M3 ho.symm (hu2.trans u3)
    | some t =>
      rw [hst] at hr ho
      obtain ⟨w, hr, hw, ht⟩ := hr
      subst hr
      rw [(tp2b w true).1, (tp2b w true).2, e_not, BR_bool, if_neg (by simp)]
      rw [by_len hw, gtr_l 256 256 rfl, BR_dec]
      simp only at ho
      split
      · rename_i h256
        rw [if_pos h256] at ho
        exact fail M3 ho.symm (hu2.trans u3)
      · rename_i h256
        rw [if_neg h256] at ho
        rw [add1_n _ (by omega)]
        exact ih (i + 1) w t M3 (by omega) (hu2.trans u3) hw (by omega) ho
theorem RunE {M : Store} {v x1 : Value} {l : List Dw} {ins : List (List UInt8)} (h : DS M v l) (hl : l.length ≤ 2 ^ 20) (hld : okA l = true → ∀ d ∈ l, 0 ≤ d.2.1) (hls : ∀ d ∈ l, d.2.2.length ≤ 2 ^ 10) (hi : BL M x1 ins) (hil : ins.length ≤ 100) (his : ∀ l ∈ ins, l.length ≤ 2 ^ 12) :
    R F.acts_Run #[v, x1] M fun r M' => Up M M' ∧ RunR M M' r (runA l ins) := by
  refine R.cps fun Q hQ => ?_
  apply T_acts_Run
  unfold S_acts_Run
  refine (Aok_ok h (by omega) (fun d hd => by have := hls d hd; omega)).mono fun r M1 ⟨u1, hr⟩ => ?_
  subst hr
  unfold runA at hQ
  rw [e_not, BR_bool]
  split
  · rename_i ho
    rw [if_neg (by simpa using ho)] at hQ
    exact ⟨rfl, hQ _ _ ⟨u1, rfl⟩⟩
  · rename_i ho
    have ho : okA l = true := by simpa using ho
    rw [if_pos ho] at hQ
    rw [h.lenV, OP_some]
    refine RunE_loop (M0 := M1) (Sl.up h u1) hl (fun d hd => ⟨hld ho d hd, hls d hd⟩) (hi.up B_up u1) hil his (fun r M' hu hr => hQ _ _ ⟨u1.trans hu, ?_⟩) l.length 0 _ [] M1 rfl (Ch.refl _ _) (Sl.nil _ _ _) (by simp) rfl
    cases hrl : runL ins (l.drop 0) [] with
    | none =>
      rw [hrl] at hr
      rw [List.drop_zero] at hrl
      rw [hrl]; exact hr
    | some t =>
      rw [hrl] at hr
      rw [List.drop_zero] at hrl
      rw [hrl]
      obtain ⟨w, e, hN, ht⟩ := hr
      exact ⟨w, e, Nw.base hN u1.n, ht⟩
/-- Actions that are right have numbers that are not below nought. -/
theorem rightA_pos {d : Dw} (h : rightA d = true) : 0 ≤ d.2.1 := by
  unfold rightA at h
  split at h
  · cases h
  · split at h
    · cases h
    · split at h
      · split at h
        · omega
        · cases h
      · split at h
        · split at h
          · assumption
          · cases h
        · cases h
theorem okFrom_right : ∀ (l : List Dw) (i : Nat), okFrom i l = true → ∀ d ∈ l, rightA d = true
  | d :: l, i, h, e, he => by
    rw [okFrom, Bool.and_eq_true] at h
    rcases List.mem_cons.1 he with rfl | he
    · have := h.1
      unfold goodA at this
      rw [Bool.and_eq_true] at this
      exact this.1
    · exact okFrom_right l (i + 1) h.2 e he
theorem okA_pos {l : List Dw} (h : okA l = true) : ∀ d ∈ l, 0 ≤ d.2.1 := fun d hd => by
  unfold okA at h
  rw [Bool.and_eq_true] at h
  exact rightA_pos (okFrom_right l 0 h.1 d hd)
end Go.G
