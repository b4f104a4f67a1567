/- Layer 10: prints, by the program: made, and their actions read. -/
import Derived.Test.YtpacolplhcfamaaPGX
import Derived.Test.YtpacolplhcfamaaPU2
import Derived.Test.YtpacolplhcfamaaPA6a
import Derived.Test.YtpacolplhcfamaaPU3
import Derived.Test.YtpacolplhcfamaaPY10
namespace Go.G
open Go.Ab Go.Proofs Go.RowKit
set_option linter.unusedVariables false
set_option linter.unusedSimpArgs false
set_option maxRecDepth 100000

theorem ne_rd_do : Ty.code_Reader ≠ Ty.api_Do := by decide
theorem ne_rrd_do : Ty.fettleref1_Reader ≠ Ty.api_Do := by decide
theorem ne_u8_do : Ty.uint8 ≠ Ty.api_Do := by decide
theorem ne_do_rd : Ty.api_Do ≠ Ty.code_Reader := by decide
theorem ne_do_rrd : Ty.api_Do ≠ Ty.fettleref1_Reader := by decide
theorem ne_rd_sl : Ty.code_Reader ≠ Ty.sl_uint8 := by decide
theorem ne_rrd_sl : Ty.fettleref1_Reader ≠ Ty.sl_uint8 := by decide
theorem ne_u8_sl : Ty.uint8 ≠ Ty.sl_uint8 := by decide
theorem ne_sl_rd : Ty.sl_uint8 ≠ Ty.code_Reader := by decide
theorem ne_sl_rrd : Ty.sl_uint8 ≠ Ty.fettleref1_Reader := by decide
theorem ne_do_sl : Ty.api_Do ≠ Ty.sl_uint8 := by decide

/-! ## readers -/
theorem Rd.keep {T : TypeId} {M M' : Store} {b : Nat} {l : List UInt8} {bad : Bool} (h : Rd T M b l bad) {e : TypeId} (h1 : T ≠ e) (h2 : Ty.uint8 ≠ e) (k : Keep e M M') : Rd T M' b l bad := by
  obtain ⟨w, ho, hB⟩ := h
  exact ⟨w, ho.keep h1 k, Sl.keep hB h2 k⟩
theorem Rd.chk {T : TypeId} {M M' : Store} {b : Nat} {l : List UInt8} {bad : Bool} (h : Rd T M b l bad) (k : Ch [b] M M') : Keep T M M' := by
  obtain ⟨w, ho, _⟩ := h; exact k.keepT ho
theorem Rd.lt {T : TypeId} {M : Store} {b : Nat} {l : List UInt8} {bad : Bool} (h : Rd T M b l bad) : b < M.n := by
  obtain ⟨w, ho, _⟩ := h; exact ho.lt
theorem pNum {M : Store} {b : Nat} {l : List UInt8} {bad : Bool} {top : Nat} (h : Rd Ty.code_Reader M b l bad) (ht : top ≤ 2 ^ 40) (hl : l.length ≤ 2 ^ 24) :
    R F.code_Reader_Num #[.pointer (some ⟨b, 0, none⟩), .int .i64 top] M fun v M' => Ch [b] M M' ∧ ∃ (n : Nat) (l' : List UInt8) (bad' : Bool), v = iv (n : Int) ∧ n ≤ top ∧ l'.length ≤ l.length ∧ Rd Ty.code_Reader M' b l' bad' ∧ rdNum top l bad = if bad' = true then none else some (n, l') := by
  refine (rNum_ok h ht hl).mono fun v M' ⟨hc, h1⟩ => ⟨hc, ?_⟩
  cases hn : rdNum top l bad with
  | some p =>
    rw [hn] at h1
    obtain ⟨n, r⟩ := p
    have hb : bad = false := by
      cases bad with
      | false => rfl
      | true => simp [rdNum] at hn
    subst hb
    have hs := rdNum_some hn
    have he := congrArg List.length hs.1
    rw [List.length_append, be_length] at he
    exact ⟨n, r, false, h1.1, hs.2, by omega, h1.2, by simp⟩
  | none =>
    rw [hn] at h1
    exact ⟨0, [], true, h1.1, by omega, by simp, h1.2, by simp⟩
theorem pBytes {M : Store} {b : Nat} {l : List UInt8} {bad : Bool} {top : Nat} (h : Rd Ty.code_Reader M b l bad) (ht : top ≤ 2 ^ 40) (hl : l.length ≤ 2 ^ 24) :
    R F.code_Reader_Bytes #[.pointer (some ⟨b, 0, none⟩), .int .i64 top] M fun v M' => Ch [b] M M' ∧ ∃ (x l' : List UInt8) (bad' : Bool), x.length ≤ l.length ∧ l'.length ≤ l.length ∧ N M M' v x ∧ Rd Ty.code_Reader M' b l' bad' ∧ rdBytes top l bad = if bad' = true then none else some (x, l') := by
  refine (rBytesN_ok h ht hl).mono fun v M' ⟨hc, h1⟩ => ⟨hc, ?_⟩
  cases hn : rdBytes top l bad with
  | some p =>
    rw [hn] at h1
    obtain ⟨x, r⟩ := p
    have hb : bad = false := by
      cases bad with
      | false => rfl
      | true => simp [rdBytes, rdNum] at hn
    subst hb
    have he := congrArg List.length (rdBytes_some hn).1
    rw [List.length_append, List.length_append, be_length] at he
    exact ⟨x, r, false, by omega, by omega, h1.1, h1.2, by simp⟩
  | none =>
    rw [hn] at h1
    exact ⟨[], [], true, by simp, by simp, h1.1, h1.2, by simp⟩
theorem qNum {M : Store} {b : Nat} {l : List UInt8} {bad : Bool} {top : Nat} (h : Rd Ty.fettleref1_Reader M b l bad) (ht : top ≤ 2 ^ 40) (hl : l.length ≤ 2 ^ 24) :
    R F.fettleref1_Reader_Num #[.pointer (some ⟨b, 0, none⟩), .int .i64 top] M fun v M' => Ch [b] M M' ∧ ∃ (n : Nat) (l' : List UInt8) (bad' : Bool), v = iv (n : Int) ∧ n ≤ top ∧ l'.length ≤ l.length ∧ Rd Ty.fettleref1_Reader M' b l' bad' ∧ rdNum top l bad = if bad' = true then none else some (n, l') := by
  refine (rrNum_ok h ht hl).mono fun v M' ⟨hc, h1⟩ => ⟨hc, ?_⟩
  cases hn : rdNum top l bad with
  | some p =>
    rw [hn] at h1
    obtain ⟨n, r⟩ := p
    have hb : bad = false := by
      cases bad with
      | false => rfl
      | true => simp [rdNum] at hn
    subst hb
    have hs := rdNum_some hn
    have he := congrArg List.length hs.1
    rw [List.length_append, be_length] at he
    exact ⟨n, r, false, h1.1, hs.2, by omega, h1.2, by simp⟩
  | none =>
    rw [hn] at h1
    exact ⟨0, l, true, h1.1, by omega, by omega, h1.2, by simp⟩
theorem qBytes {M : Store} {b : Nat} {l : List UInt8} {bad : Bool} {top : Nat} (h : Rd Ty.fettleref1_Reader M b l bad) (ht : top ≤ 2 ^ 40) (hl : l.length ≤ 2 ^ 24) :
    R F.fettleref1_Reader_Bytes #[.pointer (some ⟨b, 0, none⟩), .int .i64 top] M fun v M' => Ch [b] M M' ∧ ∃ (x l' : List UInt8) (bad' : Bool), x.length ≤ l.length ∧ l'.length ≤ l.length ∧ B M' v x ∧ Rd Ty.fettleref1_Reader M' b l' bad' ∧ rdBytes top l bad = if bad' = true then none else some (x, l') := by
  refine (rrBytes_ok h ht hl).mono fun v M' ⟨hc, h1⟩ => ⟨hc, ?_⟩
  cases hn : rdBytes top l bad with
  | some p =>
    rw [hn] at h1
    obtain ⟨x, r⟩ := p
    have hb : bad = false := by
      cases bad with
      | false => rfl
      | true => simp [rdBytes, rdNum] at hn
    subst hb
    have he := congrArg List.length (rdBytes_some hn).1
    rw [List.length_append, List.length_append, be_length] at he
    exact ⟨x, r, false, by omega, by omega, h1.1, h1.2, by simp⟩
  | none =>
    rw [hn] at h1
    obtain ⟨h2, r, hr, h3⟩ := h1
    exact ⟨[], r, true, by simp, hr, h2, h3, by simp⟩
/-- A slice stays where another, newer box is written. -/
theorem Nw.frN {s : Nat} {e : TypeId} {M0 M2 M5 M6 : Store} {v : Value} {n : Nat} {cs : List Value} (h2 : Nw s e M0 M2 v n cs) (h5 : Nw s e M0 M5 v n cs) (hc : Ch [M2.n] M5 M6) : Nw s e M0 M6 v n cs := by
  obtain ⟨h1, h | ⟨b', cells', c', e2, e3, e4, e5⟩⟩ := h2
  · exact ⟨h1, .inl h⟩
  · obtain ⟨_, h | ⟨b, cells, c, g2, g3, g4, g5⟩⟩ := h5
    · exact ⟨h1, .inl h⟩
    · refine ⟨h1, .inr ⟨b, cells, c, g2, g3, hc.at g4 ?_, g5⟩⟩
      rw [g2] at e2
      injection e2 with e2
      injection e2 with e2
      injection e2 with e2
      subst e2
      have := M2.lt_of_get e4
      simp; omega

/-! ## an action read -/
theorem do_of {top j : Nat} {l l1 l2 l3 t : List UInt8} {bad b1 b2 b3 : Bool} {n1 n2 : Nat} {acc : List Dw} (h1 : rdNum 11 l bad = if b1 = true then none else some (n1, l1)) (h2 : rdNum 999 l1 b1 = if b2 = true then none else some (n2, l2)) (h3 : rdBytes top l2 b2 = if b3 = true then none else some (t, l3)) :
    (if bad = true then none else dosO top (j + 1) l acc) = if b3 = true then none else dosO top j l3 (acc ++ [((n1 : Int), (n2 : Int), t)]) := by
  cases bad with
  | true =>
    have e1 : b1 = true := by cases b1 with
      | true => rfl
      | false => simp [rdNum] at h1
    subst e1
    have e2 : b2 = true := by cases b2 with
      | true => rfl
      | false => simp [rdNum] at h2
    subst e2
    have e3 : b3 = true := by cases b3 with
      | true => rfl
      | false => simp [rdBytes, rdNum] at h3
    subst e3
    rfl
  | false =>
    have hd : dosO top (j + 1) l acc = (doO top l).bind fun p => dosO top j p.2 (acc ++ [p.1]) := rfl
    rw [if_neg (by simp), hd]
    unfold doO
    cases b1 with
    | true =>
      have e2 : b2 = true := by cases b2 with
        | true => rfl
        | false => simp [rdNum] at h2
      subst e2
      have e3 : b3 = true := by cases b3 with
        | true => rfl
        | false => simp [rdBytes, rdNum] at h3
      subst e3
      rw [h1]; rfl
    | false =>
      rw [if_neg (by simp)] at h1
      rw [h1, Option.bind_some]
      simp only
      cases b2 with
      | true =>
        have e3 : b3 = true := by cases b3 with
          | true => rfl
          | false => simp [rdBytes, rdNum] at h3
        subst e3
        rw [h2]; rfl
      | false =>
        rw [if_neg (by simp)] at h2
        rw [h2, Option.bind_some]
        simp only
        cases b3 with
        | true => rw [h3]; rfl
        | false =>
          rw [if_neg (by simp)] at h3
          rw [h3]; rfl
theorem bs_do2 (a c : Int) : bldS #[(.int .i64 0), (.int .i64 0), (.string ⟨#[]⟩)] [(0, 1), (1, 1), (2, 1)] [(0, iv a), (1, iv c)] = some (.agg [iv a, iv c, sv []].toArray) := by kernel_rfl
section
variable {M0 : Store} {b : Nat} {o : Option (List Dw)} {Q : Value → Store → Prop}
theorem pact_loop (hb : M0.n ≤ b) (hQ : ∀ w M acc, Up M0 M → NDS M0 M w acc → (∀ k, o = some k → acc = k) → Q (.tuple #[w, tv o.isSome]) M) {m : Nat} (hm : m ≤ 8) :
    ∀ (j i : Nat) (l : List UInt8) (bad : Bool) (acc : List Dw) (x5 : Value) (M : Store), j + i = m → Up M0 M → Rd Ty.code_Reader M b l bad → l.length ≤ 2 ^ 24 → NDS M0 M x5 acc → acc.length = i → (∀ d ∈ acc, d.2.2.length ≤ 2 ^ 24) →
      (if bad = true then none else dosO 256 j l acc) = o → P_prnt_action_1 (pt b) x5 (iv (m : Int)) (iv (i : Int)) M Q := by
  intro j
  induction j with
  | zero =>
    intro i l bad acc x5 M hi hu hR hl hN hal has ho
    apply T_prnt_action_1
    unfold S_prnt_action_1
    rw [lss_n, BR_dec, if_neg (by omega)]
    apply T_prnt_action_3
    unfold S_prnt_action_3
    refine (End_ok hR).mono fun v1 M1 ⟨e1, e2⟩ => ?_
    subst e1; subst e2
    rw [BR_bool]
    split
    · rename_i hend
      obtain ⟨hb0, hl0⟩ : bad = false ∧ l = [] := by simpa using hend
      subst hb0; subst hl0
      refine (Aok_ok hN.sl (by omega) (fun d hd => by have := has d hd; omega)).mono fun r M2 ⟨u2, hr⟩ => ?_
      subst hr
      have ho' : o = if okA acc = true then some acc else none := by rw [← ho]; simp [dosO]
      have : okA acc = o.isSome := by
        rw [ho']
        cases okA acc <;> simp
      rw [this]
      refine ⟨?_, hQ _ _ acc (hu.trans u2) (Nw.up hN u2) fun k hk => ?_⟩
      · obtain ⟨a, c, rfl⟩ := hN.sl.slice; rfl
      · rw [ho'] at hk
        split at hk
        · injection hk
        · cases hk
    · rename_i hend
      have ho' : o = none := by
        rw [← ho]
        cases bad with
        | true => rfl
        | false =>
          have : l.isEmpty = false := by simpa using hend
          simp [dosO, this]
      have hq := hQ x5 M1 acc hu hN (fun k hk => by rw [ho'] at hk; cases hk)
      rw [ho'] at hq
      refine ⟨?_, hq⟩
      obtain ⟨a, c, rfl⟩ := hN.sl.slice; rfl
  | succ j ih =>
    intro i l bad acc x5 M hi hu hR hl hN hal has ho
    apply T_prnt_action_1
    unfold S_prnt_action_1
    rw [lss_n, BR_dec, if_pos (by omega)]
    apply T_prnt_action_2
    unfold S_prnt_action_2
    refine (pNum (top := 11) hR (by omega) hl).mono fun v1 M1 ⟨c1, n1, l1, b1, e1, t1, len1, R1, h1⟩ => ?_
    subst e1
    refine (pNum (top := 999) R1 (by omega) (by omega)).mono fun v2 M2 ⟨c2, n2, l2, b2, e2, t2, len2, R2, h2⟩ => ?_
    subst e2
    have u2 : Up M0 M2 := (hu.ch c1 (by simpa using hb)).ch c2 (by simpa using hb)
    have hN2 : NDS M0 M2 x5 acc := Nw.keep (Nw.keep hN ne_do_rd (hR.chk c1)) ne_do_rd (R1.chk c2)
    rw [bs_do2, OP_some]
    refine s_new fun M3 u3 o3 _ => ?_
    refine s_st (vs := [iv (n1 : Int), iv (n2 : Int), sv []]) o3 rfl rfl rfl fun M4 c4 o4 _ => ?_
    have u24 : Up M2 M4 := u3.ch c4 (by simp)
    refine (pBytes (top := 256) (R2.up u24) (by omega) (by omega)).mono fun v5 M5 ⟨c5, t, l3, b3, lt, len3, hx5, R5, h3⟩ => ?_
    have hbl := R2.lt
    have hne : M2.n ∉ [b] := by simp; omega
    have o5 := o4.fr c5 hne
    have u5 : Up M0 M5 := (u2.trans u24).ch c5 (by simpa using hb)
    rw [cvBS_ok hx5.by, OP_some, fad0]
    refine s_st1 (i := 2) (w := sv t) o5 (by simp) rfl rfl fun M6 c6 o6 _ => ?_
    have u6 : Up M0 M6 := u5.ch c6 (by have := u2.n; simpa using this)
    have o6 : Ob M6 M2.n (dcs ((n1 : Int), (n2 : Int), t)) Ty.api_Do := o6
    have R6 : Rd Ty.code_Reader M6 b l3 b3 := R5.keep ne_rd_do ne_u8_do (c6.keepT o5)
    have hN5 : NDS M0 M5 x5 acc := Nw.keep (Nw.up hN2 u24) ne_do_rd ((R2.up u24).chk c5)
    have hN6 : NDS M0 M6 x5 acc := Nw.frN hN2 hN5 c6
    rw [o6.ldA (s := 3) rfl, OP_some]
    rw [show bldL (.agg #[(.int .i64 0), (.int .i64 0), (.string ⟨#[]⟩)]) 3 1 [(0, .agg (dcs ((n1 : Int), (n2 : Int), t)).toArray)] = some (dcs ((n1 : Int), (n2 : Int), t)) from bl_do _, OP_some]
    rw [LT_eq]
    refine NK.app1 (M0 := M0) (Mb := M0) dcs_len u6 (Nat.le_refl _) u6.n hN6 ((n1 : Int), (n2 : Int), t) rfl (by omega) fun v' M' hu' hN' hk' _ => ?_
    rw [add1_n _ (by omega)]
    refine ih (i + 1) l3 b3 (acc ++ [((n1 : Int), (n2 : Int), t)]) v' M' (by omega) hu' (R6.keep ne_rd_do ne_u8_do (Nw.keepE hN6 hk')) (by omega) hN' (by simp [hal]) (fun d hd => ?_) ?_
    · rcases List.mem_append.1 hd with hd | hd
      · exact has d hd
      · have : d = ((n1 : Int), (n2 : Int), t) := by simpa using hd
        subst this
        show t.length ≤ _
        omega
    · rw [← ho]; exact (do_of h1 h2 h3).symm
end
/-- What an action's bytes come to. -/
def ActR (M0 M : Store) (r : Value) (o : Option (List Dw)) : Prop := ∃ w acc, r = .tuple #[w, tv o.isSome] ∧ NDS M0 M w acc ∧ ∀ k, o = some k → acc = k
theorem action_ok {M : Store} {v : Value} {l : List UInt8} (h : B M v l) (hl : l.length ≤ 2 ^ 24) : R F.prnt_action #[v] M fun r M' => Up M M' ∧ ActR M M' r (actO 256 l) := by
  refine R.cps fun Q hQ => ?_
  apply T_prnt_action
  unfold S_prnt_action
  refine (Read_ok h hl).mono fun r M1 ⟨u1, b, e, hb, hR⟩ => ?_
  subst e
  refine (pNum (top := 8) hR (by omega) hl).mono fun v2 M2 ⟨c2, n, l2, b2, e2, t2, len2, R2, h2⟩ => ?_
  subst e2
  refine pact_loop (M0 := M) (o := actO 256 l) hb (fun w M' acc hu hN hk => hQ _ _ ⟨hu, w, acc, rfl, hN, hk⟩) t2 n 0 l2 b2 [] _ M2 (by omega) (u1.ch c2 (by simpa using hb)) R2 (by omega) NK.nil rfl (by simp) ?_
  unfold actO
  rw [h2]
  cases b2 with
  | true => rfl
  | false => rfl

/-! ## a print made -/
theorem insB_snoc {ins : List (List UInt8)} {i : Nat} (h : i < ins.length) : insB (ins.take (i + 1)) = insB (ins.take i) ++ be 6 ins[i].length ++ ins[i] := by
  rw [List.take_succ_eq_append_getElem h]
  unfold insB
  rw [List.flatMap_append]; simp [List.append_assoc]
section
variable {M0 : Store} {w : Value} {ins : List (List UInt8)} {pre : List UInt8} {Q : Value → Store → Prop}
theorem pprint_loop (hw : BL M0 w ins) (hi : ins.length ≤ 2 ^ 8) (hx : ∀ x ∈ ins, x.length ≤ 2 ^ 12) (hp : pre.length ≤ 2 ^ 22) (hQ : ∀ t M, Up M0 M → N M0 M t (pre ++ insB ins) → Q t M) :
    ∀ (k i : Nat) (t : Value) (M : Store), k + i = ins.length → Up M0 M → N M0 M t (pre ++ insB (ins.take i)) → P_prnt_Print_1 t w (iv (ins.length : Int)) (iv (i : Int)) M Q := by
  intro k
  induction k with
  | zero =>
    intro i t M hk hu hN
    apply T_prnt_Print_1
    unfold S_prnt_Print_1
    rw [lss_n, BR_dec, if_neg (by omega)]
    apply T_prnt_Print_2
    unfold S_prnt_Print_2
    rw [List.take_of_length_le (by omega)] at hN
    exact ⟨nts_of hN.by, hQ t M hu hN⟩
  | succ k ih =>
    intro i t M hk hu hN
    have hil : i < ins.length := by omega
    apply T_prnt_Print_1
    unfold S_prnt_Print_1
    rw [lss_n, BR_dec, if_pos hil]
    refine bl_ld (hw.up B_up hu) hil fun u hB => ?_
    have hxl := hx _ (List.getElem_mem hil)
    have hpre := insB_len (2 ^ 12) (ins.take i) fun y hy => hx y (List.mem_of_mem_take hy)
    have htl : (ins.take i).length ≤ 2 ^ 8 := by rw [List.length_take]; omega
    have hmul : (ins.take i).length * (6 + 2 ^ 12) ≤ 2 ^ 8 * (6 + 2 ^ 12) := Nat.mul_le_mul_right _ htl
    refine (Bytes_ok hN.by hB (by rw [List.length_append]; omega) (by omega)).mono fun v1 M1 ⟨u1, h1⟩ => ?_
    rw [add1_n _ (by omega)]
    refine ih (i + 1) v1 M1 (by omega) (hu.trans u1) ?_
    rw [insB_snoc hil]
    have h1 := Nw.base h1 hu.n
    simp only [List.append_assoc] at h1 ⊢
    exact h1
theorem rprint_loop (hw : BL M0 w ins) (hi : ins.length ≤ 2 ^ 8) (hx : ∀ x ∈ ins, x.length ≤ 2 ^ 12) (hp : pre.length ≤ 2 ^ 22) (hQ : ∀ t M, Up M0 M → N M0 M t (pre ++ insB ins) → Q t M) :
    ∀ (k i : Nat) (t : Value) (M : Store), k + i = ins.length → Up M0 M → N M0 M t (pre ++ insB (ins.take i)) → P_fettleref10_Print_1 w t (iv (i : Int)) M Q := by
  intro k
  induction k with
  | zero =>
    intro i t M hk hu hN
    apply T_fettleref10_Print_1
    unfold S_fettleref10_Print_1
    rw [(hw.up B_up hu).lenV, OP_some]
    show OP (binI .lss (iv (i : Int)) (iv (ins.length : Int))) _
    rw [lss_n, BR_dec, if_neg (by omega)]
    apply T_fettleref10_Print_2
    unfold S_fettleref10_Print_2
    rw [List.take_of_length_le (by omega)] at hN
    exact ⟨nts_of hN.by, hQ t M hu hN⟩
  | succ k ih =>
    intro i t M hk hu hN
    have hil : i < ins.length := by omega
    apply T_fettleref10_Print_1
    unfold S_fettleref10_Print_1
    rw [(hw.up B_up hu).lenV, OP_some]
    show OP (binI .lss (iv (i : Int)) (iv (ins.length : Int))) _
    rw [lss_n, BR_dec, if_pos hil]
    refine bl_ld (hw.up B_up hu) hil fun u hB => ?_
    have hxl := hx _ (List.getElem_mem hil)
    have hpre := insB_len (2 ^ 12) (ins.take i) fun y hy => hx y (List.mem_of_mem_take hy)
    have htl : (ins.take i).length ≤ 2 ^ 8 := by rw [List.length_take]; omega
    have hmul : (ins.take i).length * (6 + 2 ^ 12) ≤ 2 ^ 8 * (6 + 2 ^ 12) := Nat.mul_le_mul_right _ htl
    refine (RBytes_ok hN.by hB (by rw [List.length_append]; omega) (by omega)).mono fun v1 M1 ⟨u1, h1⟩ => ?_
    rw [add1_n _ (by omega)]
    refine ih (i + 1) v1 M1 (by omega) (hu.trans u1) ?_
    rw [insB_snoc hil]
    have h1 := Nw.base h1 hu.n
    simp only [List.append_assoc] at h1 ⊢
    exact h1
end
theorem actB_len2 {l : List Dw} (hl : l.length ≤ 2 ^ 10) (hs : ∀ d ∈ l, d.2.2.length ≤ 2 ^ 10) : (actB l).length ≤ 2 ^ 21 := by
  have h1 := actB_len hs
  have h2 : l.length * (18 + 2 ^ 10) ≤ 2 ^ 10 * (18 + 2 ^ 10) := Nat.mul_le_mul_right _ hl
  omega
theorem PPrint_ok {M : Store} {v w : Value} {l : List Dw} {ins : List (List UInt8)} (h : DS M v l) (hl : l.length ≤ 2 ^ 10) (hs : ∀ d ∈ l, d.2.2.length ≤ 2 ^ 10) (hw : BL M w ins) (hi : ins.length ≤ 2 ^ 8) (hx : ∀ x ∈ ins, x.length ≤ 2 ^ 12) :
    R F.prnt_Print #[v, w] M fun r M' => Up M M' ∧ N M M' r (printF l ins) := by
  refine R.cps fun Q hQ => ?_
  apply T_prnt_Print
  unfold S_prnt_Print
  have hal := actB_len2 hl hs
  refine (ABytes_ok h hl hs).mono fun r1 M1 ⟨u1, h1⟩ => ?_
  refine (Bytes_ok (l := []) (Sl.nil _ _ _) h1.by (by simp) (by omega)).mono fun r2 M2 ⟨u2, h2⟩ => ?_
  rw [List.nil_append] at h2
  rw [(hw.up B_up (u1.trans u2)).lenV, OP_some]
  refine (Num_ok h2.by (by simp only [List.length_append, be_length]; omega) _).mono fun r3 M3 ⟨u3, h3⟩ => ?_
  rw [OP_some]
  rw [held_len (by omega)] at h3
  refine pprint_loop (M0 := M) (pre := be 6 (actB l).length ++ actB l ++ be 6 ins.length) hw hi hx (by simp only [List.length_append, be_length]; omega) (fun t M' hu hN => hQ _ _ ⟨hu, hN⟩) ins.length 0 r3 M3 rfl ((u1.trans u2).trans u3) ?_
  have h3 := Nw.base h3 (u1.trans u2).n
  rw [show be 6 (actB l).length ++ actB l ++ be 6 ins.length ++ insB (ins.take 0) = be 6 (actB l).length ++ actB l ++ be 6 ins.length from by simp [insB]]
  exact h3

/-! ## by the document -/
theorem RABytes_loop {M0 : Store} {v : Value} {l : List Dw} (h : DS M0 v l) (hl : l.length ≤ 2 ^ 10) (hs : ∀ d ∈ l, d.2.2.length ≤ 2 ^ 10) {Q : Value → Store → Prop} (hQ : ∀ w M, Up M0 M → N M0 M w (actB l) → Q w M) :
    ∀ (k i : Nat) (w : Value) (M : Store), k + i = l.length → Up M0 M → N M0 M w (be 6 l.length ++ (l.take i).flatMap doB) → P_fettleref4_ActBytes_1 v w (iv (i : Int)) M Q := by
  intro k
  induction k with
  | zero =>
    intro i w M hi hu hN
    apply T_fettleref4_ActBytes_1
    unfold S_fettleref4_ActBytes_1
    rw [(Sl.up h hu).lenV, OP_some]
    show OP (binI .lss (iv (i : Int)) (iv (l.length : Int))) _
    rw [lss_n, BR_dec, if_neg (by omega)]
    apply T_fettleref4_ActBytes_3
    unfold S_fettleref4_ActBytes_3
    rw [List.take_of_length_le (by omega)] at hN
    exact ⟨nts_of hN.by, hQ w M hu hN⟩
  | succ k ih =>
    intro i w M hi hu hN
    have hil : i < l.length := by omega
    have hpre : ((l.take i).flatMap doB).length ≤ (l.take i).length * (18 + 2 ^ 10) := fm_len (2 ^ 10) _ fun d hd => hs d (List.mem_of_mem_take hd)
    have htl : (l.take i).length = i := by rw [List.length_take]; omega
    have hmul : (l.take i).length * (18 + 2 ^ 10) ≤ 2 ^ 10 * (18 + 2 ^ 10) := Nat.mul_le_mul_right _ (by omega)
    have hb6 : (be 6 l.length).length = 6 := be_length _ _
    apply T_fettleref4_ActBytes_1
    unfold S_fettleref4_ActBytes_1
    rw [(Sl.up h hu).lenV, OP_some]
    show OP (binI .lss (iv (i : Int)) (iv (l.length : Int))) _
    rw [lss_n, BR_dec, if_pos hil]
    apply T_fettleref4_ActBytes_2
    unfold S_fettleref4_ActBytes_2
    have hsl := hs _ (List.getElem_mem hil)
    have hfm := fm_snoc hil
    rw [ds_fld (Sl.up h hu) hil (f := 0) (w := iv l[i].1) rfl]
    refine (RNum_ok hN.by (by rw [List.length_append]; omega) _).mono fun w3 M3 ⟨u3, h3⟩ => ⟨u3.tdj _ _, ?_⟩
    have hu3 := hu.trans u3
    rw [ds_fld (Sl.up h hu3) hil (f := 1) (w := iv l[i].2.1) rfl]
    refine (RNum_ok h3.by (by simp only [List.length_append, be_length]; omega) _).mono fun w4 M4 ⟨u4, h4⟩ => ⟨u4.tdj _ _, ?_⟩
    have hu4 := hu3.trans u4
    rw [ds_fld (Sl.up h hu4) hil (f := 2) (w := sv l[i].2.2) rfl]
    refine cvSB_ok (by omega) fun w5 M5 u5 h5 => ?_
    refine (RBytes_ok (Sl.up h4.by u5) h5.by (by simp only [List.length_append, be_length]; omega) (by omega)).mono fun w6 M6 ⟨u6, h6⟩ => ⟨u6.tdx _ _ _, ?_⟩
    rw [add1_n _ (by omega)]
    have hu5 : Up M0 M5 := hu4.trans u5
    refine ih (i + 1) w6 M6 (by omega) (hu5.trans u6) ?_
    have h6 := Nw.base h6 hu5.n
    have e : be 6 l.length ++ (l.take (i + 1)).flatMap doB = (be 6 l.length ++ (l.take i).flatMap doB ++ be 6 (held l[i].1) ++ be 6 (held l[i].2.1)) ++ be 6 l[i].2.2.length ++ l[i].2.2 := by
      rw [hfm]; simp [doB, List.append_assoc]
    rw [e]
    exact h6
theorem RABytes_ok {M : Store} {v : Value} {l : List Dw} (h : DS M v l) (hl : l.length ≤ 2 ^ 10) (hs : ∀ d ∈ l, d.2.2.length ≤ 2 ^ 10) : R F.fettleref4_ActBytes #[v] M fun r M' => Up M M' ∧ N M M' r (actB l) := by
  refine R.cps fun Q hQ => ?_
  apply T_fettleref4_ActBytes
  unfold S_fettleref4_ActBytes
  rw [h.lenV, OP_some]
  refine (RNum_ok (l := []) (Sl.nil _ _ _) (by simp) _).mono fun w M1 ⟨u1, h1⟩ => ?_
  rw [List.nil_append, held_len (by omega)] at h1
  exact RABytes_loop h hl hs (fun w M' hu hN => hQ _ _ ⟨hu, hN⟩) l.length 0 w M1 rfl u1 (by simpa using h1)
theorem RPrint_ok {M : Store} {v w : Value} {l : List Dw} {ins : List (List UInt8)} (h : DS M v l) (hl : l.length ≤ 2 ^ 10) (hs : ∀ d ∈ l, d.2.2.length ≤ 2 ^ 10) (hw : BL M w ins) (hi : ins.length ≤ 2 ^ 8) (hx : ∀ x ∈ ins, x.length ≤ 2 ^ 12) :
    R F.fettleref10_Print #[v, w] M fun r M' => Up M M' ∧ N M M' r (printF l ins) := by
  refine R.cps fun Q hQ => ?_
  apply T_fettleref10_Print
  unfold S_fettleref10_Print
  have hal := actB_len2 hl hs
  refine (RABytes_ok h hl hs).mono fun r1 M1 ⟨u1, h1⟩ => ?_
  refine (RBytes_ok (l := []) (Sl.nil _ _ _) h1.by (by simp) (by omega)).mono fun r2 M2 ⟨u2, h2⟩ => ?_
  rw [List.nil_append] at h2
  rw [(hw.up B_up (u1.trans u2)).lenV, OP_some]
  refine (RNum_ok h2.by (by simp only [List.length_append, be_length]; omega) _).mono fun r3 M3 ⟨u3, h3⟩ => ?_
  rw [held_len (by omega)] at h3
  refine rprint_loop (M0 := M) (pre := be 6 (actB l).length ++ actB l ++ be 6 ins.length) hw hi hx (by simp only [List.length_append, be_length]; omega) (fun t M' hu hN => hQ _ _ ⟨hu, hN⟩) ins.length 0 r3 M3 rfl ((u1.trans u2).trans u3) ?_
  have h3 := Nw.base h3 (u1.trans u2).n
  rw [show be 6 (actB l).length ++ actB l ++ be 6 ins.length ++ insB (ins.take 0) = be 6 (actB l).length ++ actB l ++ be 6 ins.length from by simp [insB]]
  exact h3
end Go.G
