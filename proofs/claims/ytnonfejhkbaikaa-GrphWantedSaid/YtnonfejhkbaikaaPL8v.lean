/- GrphWanted: all that is wanted, and nothing else, in order. -/
import Derived.Test.YtnonfejhkbaikaaPGW
import Derived.Test.YtnonfejhkbaikaaPM8i
import Derived.Test.YtnonfejhkbaikaaPM8h
namespace Go.G
open Go.Ab Go.Proofs Go.RowKit
set_option linter.unusedVariables false
set_option linter.unusedSimpArgs false
set_option maxRecDepth 100000
def nmW : List (List UInt8) := [[97], [98], [99], [100], [101], [102], [103], [112, 97]]
theorem bl_8w (K : List Value → Prop) : OP (bldL (.string ⟨#[]⟩) 1 8 [(0, (.string ⟨#[97]⟩)), (1, (.string ⟨#[98]⟩)), (2, (.string ⟨#[99]⟩)), (3, (.string ⟨#[100]⟩)), (4, (.string ⟨#[101]⟩)), (5, (.string ⟨#[102]⟩)), (6, (.string ⟨#[103]⟩)), (7, (.string ⟨#[112, 97]⟩))]) K = K (nmW.map sv) := by kernel_rfl
theorem wan_mem {rs : List RuT} (ho : OkRs [] rs) {ns : List (List UInt8)} {i : Nat} : i ∈ wanN rs ns ↔ (i : Int) ∈ reaL rs ns := by
  unfold wanN inL
  rw [List.mem_filter, List.mem_range, decide_eq_true_eq]
  refine ⟨fun h => h.2, fun h => ⟨?_, h⟩⟩
  have := (reaL_ok ho ns).2.2 _ h
  omega
theorem wan_lt {rs : List RuT} {ns : List (List UInt8)} {i : Nat} (h : i ∈ wanN rs ns) : i < rs.length := by
  unfold wanN at h
  rw [List.mem_filter, List.mem_range] at h; exact h.1
theorem wan_srt (rs : List RuT) (ns : List (List UInt8)) : (nint (wanN rs ns)).Pairwise (· < ·) := by
  unfold nint
  rw [List.pairwise_map]
  unfold wanN
  refine List.Pairwise.imp (fun h => by omega) (List.Pairwise.filter _ List.pairwise_lt_range)
theorem wan_nd (rs : List RuT) (ns : List (List UInt8)) : (nint (wanN rs ns)).Nodup := List.Pairwise.imp (fun h e => by omega) (wan_srt rs ns)
theorem idx_ne {z x : Int} {l : List Int} (h : z ≠ x) : (z :: l).idxOf x = l.idxOf x + 1 := by
  rw [List.idxOf_cons, show (z == x) = false from beq_eq_false_iff_ne.2 h, cond_false]
theorem srt_idx : ∀ {l : List Int}, l.Pairwise (· < ·) → ∀ {x y : Int}, x ∈ l → y ∈ l → x < y → l.idxOf x < l.idxOf y
  | [], _, _, _, h, _, _ => by cases h
  | z :: l, hp, x, y, hx, hy, hlt => by
    rw [List.pairwise_cons] at hp
    rcases List.mem_cons.1 hx with rfl | hx'
    · rw [List.idxOf_cons_self, idx_ne (by omega)]; omega
    · have hzx := hp.1 x hx'
      rcases List.mem_cons.1 hy with rfl | hy'
      · omega
      · have hzy := hp.1 y hy'
        rw [idx_ne (by omega), idx_ne (by omega)]
        have := srt_idx hp.2 hx' hy' hlt
        omega
theorem beg_mem {rs : List RuT} {ns : List (List UInt8)} {i : Nat} (hi : i < rs.length) : i ∈ begN rs ns ↔ namedB ns rs[i] = true := by
  unfold begN
  rw [List.mem_filter, List.mem_range, getD_at hi]
  exact ⟨fun h => h.2, fun h => ⟨hi, h⟩⟩
theorem wan_why {rs : List RuT} (ho : OkRs [] rs) {ns : List (List UInt8)} {i : Nat} (h : i ∈ wanN rs ns) : i ∈ begN rs ns ∨ ∃ k ∈ wanN rs ns, i ∈ ndN rs k := by
  have key := rea_least (rs := rs) ho (ns := ns) (F := fun i => decide (i ∈ begN rs ns) || (wanN rs ns).any fun k => decide (i ∈ ndN rs k)) (fun i hi => by simp [hi]) (fun i hi hF j hj => by
    have hw : i ∈ wanN rs ns := by
      rw [wan_mem ho]
      rw [Bool.or_eq_true] at hF
      rcases hF with hF | hF
      · exact rea_beg ho (of_decide_eq_true hF)
      · obtain ⟨k, hk, hm⟩ := List.any_eq_true.1 hF
        exact rea_need ho (wan_lt hk) ((wan_mem ho).1 hk) (of_decide_eq_true hm)
    rw [Bool.or_eq_true]
    exact .inr (List.any_eq_true.2 ⟨i, hw, decide_eq_true hj⟩)) ((wan_mem ho).1 h)
  rw [Bool.or_eq_true] at key
  rcases key with key | key
  · exact .inl (of_decide_eq_true key)
  · obtain ⟨k, hk, hm⟩ := List.any_eq_true.1 key
    exact .inr ⟨k, hk, of_decide_eq_true hm⟩
def oneT (l : List Int) (k : Int) : Option Value := if k ∈ l then some (tv true) else none
theorem oneT_put (l : List Int) (k : Int) : (fun q => if q = k then some (tv true) else oneT l q) = oneT (l ++ [k]) := by
  funext q
  unfold oneT
  by_cases h : q = k <;> simp [h]
section
variable {b5 : Nat} {vR vD x1 x7 x9 : Value} {rs : List RuT} {ns : List (List UInt8)} {W : List Nat} {Q : Value → Store → Prop}
structure WB (M : Store) (b5 : Nat) (vR vD x7 x9 : Value) (rs : List RuT) (ns : List (List UInt8)) (W : List Nat) : Prop where
  o : Mz M b5 vR vD
  hR : RL M vR rs
  hD : LV sv Ty.string M vD []
  h7 : LV sv Ty.string M x7 ns
  h9 : LV iv Ty.int M x9 (nint W)
theorem WB.up {M M' : Store} (h : WB M b5 vR vD x7 x9 rs ns W) (k : Up M M') : WB M' b5 vR vD x7 x9 rs ns W := ⟨Ob.up h.o k, h.hR.up k, Sl.up h.hD k, Sl.up h.h7 k, Sl.up h.h9 k⟩
theorem WB.kI {M M' : Store} (h : WB M b5 vR vD x7 x9 rs ns W) (k : KeepI M M') : WB M' b5 vR vD x7 x9 rs ns W := ⟨k.2 _ _ h.o, h.hR.keepI k, Sl.keepI h.hD k, Sl.keepI h.h7 k, Sl.keepI h.h9 k⟩
variable {m1 m2 : Nat}
theorem gw_17 {M : Store} {x22 x129 x130 x131 x140 x141 x142 : Value} {t : List UInt8} (h7 : LV sv Ty.string M x7 ns) (hnl : ns.length ≤ 2 ^ 20) {c0 : Bool} (hk : P_l8_GrphWanted_19 x7 (.map (some m1)) (.map (some m2)) x22 (tv (c0 || decide (t ∈ ns))) x129 x130 x131 x140 x141 x142 M Q) :
    ∀ (d j : Nat) (c : Bool), d + j = ns.length → (c || decide (t ∈ ns.drop j)) = (c0 || decide (t ∈ ns)) → P_l8_GrphWanted_17 x7 (.map (some m1)) (.map (some m2)) x22 (tv c) (sv t) x129 x130 x131 x140 x141 x142 x7 (iv (ns.length : Int)) (iv (j : Int)) M Q := by
  intro d
  induction d with
  | zero =>
    intro j c hj he
    apply T_l8_GrphWanted_17
    unfold S_l8_GrphWanted_17
    rw [lss_n, BR_dec, if_neg (by omega)]
    rw [List.drop_of_length_le (by omega)] at he
    rw [← he] at hk
    simpa using hk
  | succ d ih =>
    intro j c hj he
    have hjl : j < ns.length := by omega
    rw [List.drop_eq_getElem_cons hjl] at he
    apply T_l8_GrphWanted_17
    unfold S_l8_GrphWanted_17
    obtain ⟨p, e1, e2⟩ := h7.at hjl .i64
    rw [lss_n, BR_dec, if_pos hjl, e1, OP_some, e2, OP_some]
    cases c with
    | true =>
      rw [BR_true, add1_n _ (by omega)]
      exact ih (j + 1) true (by omega) (by simpa using he)
    | false =>
      rw [BR_false, sv_eq, add1_n _ (by omega)]
      refine ih (j + 1) _ (by omega) ?_
      rw [← he, Bool.false_or]
      by_cases h1 : t = ns[j]
      · rw [decide_eq_true h1, Bool.true_or, decide_eq_true]; rw [← h1]; exact List.mem_cons_self
      · rw [decide_eq_false h1, Bool.false_or]
        congr 1
        rw [List.mem_cons]
        exact propext ⟨fun h => .inr h, fun h => h.resolve_left h1⟩
theorem gw_16 {M : Store} {x22 x129 x130 x131 x140 : Value} {os : List (List UInt8)} (h7 : LV sv Ty.string M x7 ns) (hnl : ns.length ≤ 2 ^ 20) (h140 : LV sv Ty.string M x140 os) (hol : os.length ≤ 2 ^ 20) {c0 : Bool}
    (hk : P_l8_GrphWanted_18 x7 (.map (some m1)) (.map (some m2)) x22 (tv (c0 || os.any fun s => decide (s ∈ ns))) x129 x130 x131 M Q) :
    ∀ (d j : Nat) (c : Bool), d + j = os.length → (c || (os.drop j).any fun s => decide (s ∈ ns)) = (c0 || os.any fun s => decide (s ∈ ns)) → P_l8_GrphWanted_16 x7 (.map (some m1)) (.map (some m2)) x22 (tv c) x129 x130 x131 x140 (iv (os.length : Int)) (iv (j : Int)) M Q := by
  intro d
  induction d with
  | zero =>
    intro j c hj he
    apply T_l8_GrphWanted_16
    unfold S_l8_GrphWanted_16
    rw [lss_n, BR_dec, if_neg (by omega)]
    rw [List.drop_of_length_le (by omega)] at he
    rw [← he] at hk
    simpa using hk
  | succ d ih =>
    intro j c hj he
    have hjl : j < os.length := by omega
    rw [List.drop_eq_getElem_cons hjl, List.any_cons] at he
    apply T_l8_GrphWanted_16
    unfold S_l8_GrphWanted_16
    obtain ⟨p, e1, e2⟩ := h140.at hjl .i64
    rw [lss_n, BR_dec, if_pos hjl, e1, OP_some, e2, OP_some, h7.len, OP_some]
    refine gw_17 h7 hnl (c0 := c) ?_ ns.length 0 c rfl (by rw [List.drop_zero])
    apply T_l8_GrphWanted_19
    unfold S_l8_GrphWanted_19
    rw [add1_n _ (by omega)]
    exact ih (j + 1) _ (by omega) (by rw [← he, Bool.or_assoc])
theorem gw_11 (hi : ManI rs) (hnl : ns.length ≤ 2 ^ 20) (hQ : ∀ M, Q (tv true) M) {N : List Int} (hW : W = wanN rs ns) (hN : ∀ k ∈ wanN rs ns, ∀ y ∈ ndN rs k, (y : Int) ∈ N) :
    ∀ (d k : Nat) (M : Store), d + k = rs.length → WB M b5 vR vD x7 x9 rs ns W → Mp iv M m1 (atF (nint W)) → Mp iv M m2 (oneT N) → P_l8_GrphWanted_11 x7 (.map (some m1)) (.map (some m2)) vR (iv (rs.length : Int)) (iv (k : Int)) M Q := by
  have hsl := hi.sm.1
  intro d
  induction d with
  | zero =>
    intro k M hk hB h1 h2
    apply T_l8_GrphWanted_11
    unfold S_l8_GrphWanted_11
    rw [lss_n, BR_dec, if_neg (by omega)]
    apply T_l8_GrphWanted_15
    unfold S_l8_GrphWanted_15
    refine (awake8_ok M).mono fun v M' ⟨e1, e2⟩ => ?_
    subst e1; subst e2
    exact ⟨rfl, hQ _⟩
  | succ d ih =>
    intro k M hk hB h1 h2
    have hkl : k < rs.length := by omega
    apply T_l8_GrphWanted_11
    unfold S_l8_GrphWanted_11
    rw [lss_n, BR_dec, if_pos hkl]
    apply T_l8_GrphWanted_14
    unfold S_l8_GrphWanted_14
    obtain ⟨c, hc, hld⟩ := hB.hR.ldr hkl
    rw [hld]
    refine s_new fun M1 u1 o1 n1 => ?_
    refine s_st (vs := rcE c) o1 rfl rfl (rc_one hc) fun M2 c2 o2 _ => ?_
    have u12 : Up M M2 := u1.ch c2 (by simp)
    have hB2 := hB.up u12
    have h12 := h1.up u12
    have h22 := h2.up u12
    rw [hB2.h7.len, OP_some, eql_l 0 0 rfl]
    have e0 : decide (ns.length = 0) = decide (ns = []) := by rw [decide_eq_decide]; exact List.length_eq_zero_iff
    rw [e0, fad0, show Go.Ab.ld 1 false (.pointer (some ⟨M.n, 0, none⟩)) M2 = some c.1 from Ob.ld (o := 0) o2 rfl, OP_some, (hc.o.up u12).len, OP_some]
    have hsk := hi.sm.2 _ (List.getElem_mem hkl)
    refine gw_16 hB2.h7 hnl (hc.o.up u12) (by omega) (c0 := decide (ns = [])) ?_ rs[k].outs.length 0 _ rfl (by rw [List.drop_zero])
    show P_l8_GrphWanted_18 x7 (.map (some m1)) (.map (some m2)) (iv (k : Int)) (tv (namedB ns rs[k])) vR (iv (rs.length : Int)) (iv (k : Int)) M2 Q
    have nxt : P_l8_GrphWanted_20 x7 (.map (some m1)) (.map (some m2)) vR (iv (rs.length : Int)) (iv (k : Int)) M2 Q := by
      apply T_l8_GrphWanted_20
      unfold S_l8_GrphWanted_20
      rw [add1_n _ (by omega)]
      exact ih (k + 1) M2 (by omega) hB2 h12 h22
    have hin : ∀ z : Int, (atF (nint W) z).isSome = decide (z ∈ nint W) := fun z => by unfold atF; by_cases h : z ∈ nint W <;> simp [h]
    apply T_l8_GrphWanted_18
    unfold S_l8_GrphWanted_18
    rw [h12.look key_iv, OP_some, tp2_0, OP_some, tp2_1, OP_some, hin]
    have hmW : (k : Int) ∈ nint W ↔ k ∈ wanN rs ns := by
      rw [mem_nint, hW]
      exact ⟨fun ⟨i, h, e⟩ => by have : i = k := by omega
                                 subst this; exact h, fun h => ⟨k, h, rfl⟩⟩
    cases hnm : namedB ns rs[k] with
    | true =>
      have hw : (k : Int) ∈ nint W := hmW.2 ((wan_mem hi.ok).2 (rea_beg hi.ok ((beg_mem hkl).2 hnm)))
      rw [BR_true, decide_eq_true hw, e_not, Bool.not_true, BR_false, BR3_t, e_not, Bool.not_true, BR3_f]
      exact nxt
    | false =>
      rw [BR_false]
      by_cases hw : (k : Int) ∈ nint W
      · rw [decide_eq_true hw, BR3_t, e_not, Bool.not_false, BR3_t, h22.look1 key_iv, OP_some]
        have hkN : (k : Int) ∈ N := by
          rcases wan_why hi.ok (hmW.1 hw) with h | ⟨k', hk', hm⟩
          · rw [(beg_mem hkl).1 h] at hnm; cases hnm
          · exact hN k' hk' k hm
        have eT : (oneT N (k : Int)).getD (.bool false) = tv true := by unfold oneT; rw [if_pos hkN]; rfl
        rw [eT, e_not, Bool.not_true, BR_false]
        exact nxt
      · rw [decide_eq_false hw, BR3_f]
        exact nxt
theorem gw_10 (hi : ManI rs) {N0 : List Int} (hW : W = wanN rs ns) {i : Nat} (hil : i < W.length) {k : Nat} (hk : k = W[i]) {x103 : Value} (hnn : (ndN rs k).length ≤ 2 ^ 20)
    (hgo : ∀ M N, WB M b5 vR vD x7 x9 rs ns W → Mp iv M m1 (atF (nint W)) → Mp iv M m2 (oneT N) → m1 ≠ m2 → (∀ z ∈ N0, z ∈ N) → (∀ y ∈ ndN rs k, (y : Int) ∈ N) → P_l8_GrphWanted_13 (pt b5) x7 (.map (some m1)) (.map (some m2)) x9 (iv ((nint W).length : Int)) (iv (i : Int)) M Q) (hne : m1 ≠ m2) :
    ∀ (d j : Nat) (N : List Int) (M : Store), d + j = (ndN rs k).length → WB M b5 vR vD x7 x9 rs ns W → LV iv Ty.int M x103 (nint (ndN rs k)) → Mp iv M m1 (atF (nint W)) → Mp iv M m2 (oneT N) → (∀ z ∈ N0, z ∈ N) → (∀ y ∈ (ndN rs k).take j, (y : Int) ∈ N) →
      P_l8_GrphWanted_10 (pt b5) x7 (.map (some m1)) (.map (some m2)) (iv (k : Int)) x9 (iv ((nint W).length : Int)) (iv (i : Int)) x103 (iv ((nint (ndN rs k)).length : Int)) (iv (j : Int)) M Q := by
  intro d
  induction d with
  | zero =>
    intro j N M hj hB h103 h1 h2 hN0 hN
    apply T_l8_GrphWanted_10
    unfold S_l8_GrphWanted_10
    rw [lss_n, nint_len, BR_dec, if_neg (by omega)]
    rw [List.take_of_length_le (by omega)] at hN
    exact hgo M N hB h1 h2 hne hN0 hN
  | succ d ih =>
    intro j N M hj hB h103 h1 h2 hN0 hN
    have hjl : j < (ndN rs k).length := by omega
    have hjn : j < (nint (ndN rs k)).length := by rw [nint_len]; exact hjl
    apply T_l8_GrphWanted_10
    unfold S_l8_GrphWanted_10
    rw [lss_n, BR_dec, if_pos hjn]
    apply T_l8_GrphWanted_12
    unfold S_l8_GrphWanted_12
    obtain ⟨p, e1, e2⟩ := h103.at hjn .i64
    have e3 : (nint (ndN rs k))[j] = (((ndN rs k)[j] : Nat) : Int) := by simp [nint]
    rw [e3] at e2
    have hmem : (ndN rs k)[j] ∈ ndN rs k := List.getElem_mem hjl
    have htk : (ndN rs k).take (j + 1) = (ndN rs k).take j ++ [(ndN rs k)[j]] := List.take_succ_eq_append_getElem hjl
    generalize (ndN rs k)[j] = y at *
    have hkW : k ∈ wanN rs ns := by rw [hk, ← hW]; exact List.getElem_mem hil
    have hkl := wan_lt hkW
    have hyk := hi.bk k hkl y hmem
    have hyW : y ∈ wanN rs ns := (wan_mem hi.ok).2 (rea_need hi.ok hkl ((wan_mem hi.ok).1 hkW) hmem)
    have hyI : (y : Int) ∈ nint W := mem_nint.2 ⟨y, by rw [hW]; exact hyW, rfl⟩
    have hkI : (k : Int) ∈ nint W := mem_nint.2 ⟨k, by rw [hW]; exact hkW, rfl⟩
    have hlt := srt_idx (by rw [hW]; exact wan_srt rs ns) hyI hkI (by omega)
    rw [e1, OP_some, e2, OP_some, h1.look key_iv, OP_some, tp2_0, OP_some, tp2_1, OP_some, atF_in hyI]
    rw [show (some (Value.int .i64 ((pl (nint W) (y : Int) : Nat) : Int))).isSome = true from rfl, e_not, Bool.not_true, BR_false, h1.look1 key_iv, OP_some, atF_in hkI, Option.getD_some, Option.getD_some]
    show OP (binI .geq (iv ((pl (nint W) (y : Int) : Nat) : Int)) (iv ((pl (nint W) (k : Int) : Nat) : Int))) _
    rw [geq_n, BR_dec, if_neg (by unfold pl; omega)]
    obtain ⟨M1, e5, h21, c5, k5⟩ := h2.put key_iv (y : Int) (one_tv true)
    rw [show mup (.int .i64) (.map (some m2)) (iv (y : Int)) (.bool true) M = some M1 from e5, OP_some, add1_n _ (by omega)]
    rw [oneT_put] at h21
    refine ih (j + 1) (N ++ [(y : Int)]) M1 (by omega) (hB.kI k5) (Sl.keepI h103 k5) (h1.fr c5 (by simpa using hne)) h21 (fun z hz => List.mem_append_left _ (hN0 z hz)) fun z hz => ?_
    rw [htk] at hz
    rcases List.mem_append.1 hz with hz | hz
    · exact List.mem_append_left _ (hN z hz)
    · rw [List.mem_singleton.1 hz]; simp
theorem gw_7 (hi : ManI rs) (hnl : ns.length ≤ 2 ^ 20) (hQ : ∀ M, Q (tv true) M) (hW : W = wanN rs ns) (hne : m1 ≠ m2) :
    ∀ (d i : Nat) (N : List Int) (M : Store), d + i = W.length → WB M b5 vR vD x7 x9 rs ns W → Mp iv M m1 (atF (nint W)) → Mp iv M m2 (oneT N) → (∀ k ∈ W.take i, ∀ y ∈ ndN rs k, (y : Int) ∈ N) →
      P_l8_GrphWanted_7 (pt b5) x7 (.map (some m1)) (.map (some m2)) x9 (iv ((nint W).length : Int)) (iv (i : Int)) M Q := by
  have hsl := hi.sm.1
  have hWl : W.length ≤ rs.length := by
    rw [hW]
    have := List.length_filter_le (inL (reaL rs ns)) (List.range rs.length)
    rwa [List.length_range] at this
  intro d
  induction d with
  | zero =>
    intro i N M hd hB h1 h2 hN
    apply T_l8_GrphWanted_7
    unfold S_l8_GrphWanted_7
    rw [lss_n, nint_len, BR_dec, if_neg (by omega)]
    rw [List.take_of_length_le (by omega)] at hN
    apply T_l8_GrphWanted_9
    unfold S_l8_GrphWanted_9
    rw [mz_r hB.o, hB.hR.len, OP_some]
    exact gw_11 hi hnl hQ hW (by rw [← hW]; exact hN) rs.length 0 M rfl hB h1 h2
  | succ d ih =>
    intro i N M hd hB h1 h2 hN
    have hil : i < W.length := by omega
    have hin : i < (nint W).length := by rw [nint_len]; exact hil
    apply T_l8_GrphWanted_7
    unfold S_l8_GrphWanted_7
    rw [lss_n, BR_dec, if_pos hin]
    apply T_l8_GrphWanted_8
    unfold S_l8_GrphWanted_8
    obtain ⟨p, e1, e2⟩ := hB.h9.at hin .i64
    have e3 : (nint W)[i] = ((W[i] : Nat) : Int) := by simp [nint]
    rw [e3] at e2
    have hkW : W[i] ∈ wanN rs ns := by rw [← hW]; exact List.getElem_mem hil
    rw [e1, OP_some, e2, OP_some, hB.o.ldA (s := 2) rfl, OP_some]
    refine (Needs_ok (ds := []) ⟨vR, vD, rfl, hB.hR, hB.hD⟩ hi.sm.short (wan_lt hkW)).mono fun w M1 ⟨u1, hw⟩ => ?_
    have hnn : (ndN rs W[i]).length ≤ rs.length := by
      have := List.length_filter_le (fun i' => needB (rs.getD i' ru0) (rs.getD W[i] ru0)) (List.range rs.length)
      rwa [List.length_range] at this
    rw [hw.lv.len, OP_some]
    refine gw_10 hi (N0 := N) hW hil rfl (by omega) (fun M2 N2 hB2 h12 h22 _ hs2 hy2 => ?_) hne (ndN rs W[i]).length 0 N M1 rfl (hB.up u1) hw.lv (h1.up u1) (h2.up u1) (fun z hz => hz) (by simp)
    apply T_l8_GrphWanted_13
    unfold S_l8_GrphWanted_13
    rw [add1_n _ (by omega)]
    refine ih (i + 1) N2 M2 (by omega) hB2 h12 h22 fun k hk y hy => ?_
    rw [List.take_succ_eq_append_getElem hil] at hk
    rcases List.mem_append.1 hk with hk | hk
    · exact hs2 _ (hN k hk y hy)
    · rw [List.mem_singleton.1 hk] at hy
      exact hy2 y hy
theorem gw_4 (hi : ManI rs) (hnl : ns.length ≤ 2 ^ 20) (hQ : ∀ M, Q (tv true) M) (hW : W = wanN rs ns) :
    ∀ (d i : Nat) (M : Store), d + i = W.length → WB M b5 vR vD x7 x9 rs ns W → Mp iv M m1 (atF ((nint W).take i)) → P_l8_GrphWanted_4 (pt b5) x7 x9 (.map (some m1)) x9 (iv ((nint W).length : Int)) (iv (i : Int)) M Q := by
  have hsl := hi.sm.1
  have hWl : W.length ≤ rs.length := by
    rw [hW]
    have := List.length_filter_le (inL (reaL rs ns)) (List.range rs.length)
    rwa [List.length_range] at this
  intro d
  induction d with
  | zero =>
    intro i M hd hB h1
    apply T_l8_GrphWanted_4
    unfold S_l8_GrphWanted_4
    rw [lss_n, nint_len, BR_dec, if_neg (by omega)]
    rw [List.take_of_length_le (by rw [nint_len]; omega)] at h1
    apply T_l8_GrphWanted_6
    unfold S_l8_GrphWanted_6
    rw [LT_eq]
    have u1 := Up.push M (some (.inr (.inl [])))
    have h2 : Mp iv (M.push (some (.inr (.inl [])))) M.n (oneT []) := by
      have e : oneT [] = fun _ => none := by funext k; simp [oneT]
      rw [e]; exact Mp.new M
    have hlt := h1.lt
    rw [(hB.up u1).h9.len, OP_some]
    exact gw_7 hi hnl hQ hW (by omega) W.length 0 [] _ rfl (hB.up u1) (h1.up u1) h2 (by simp)
  | succ d ih =>
    intro i M hd hB h1
    have hil : i < W.length := by omega
    have hin : i < (nint W).length := by rw [nint_len]; exact hil
    apply T_l8_GrphWanted_4
    unfold S_l8_GrphWanted_4
    rw [lss_n, BR_dec, if_pos hin]
    apply T_l8_GrphWanted_5
    unfold S_l8_GrphWanted_5
    obtain ⟨p, e1, e2⟩ := hB.h9.at hin .i64
    have e3 : (nint W)[i] = ((W[i] : Nat) : Int) := by simp [nint]
    have hkW : W[i] ∈ wanN rs ns := by rw [← hW]; exact List.getElem_mem hil
    have hkl := wan_lt hkW
    have hnd : (nint W).Nodup := by rw [hW]; exact wan_nd rs ns
    have hnot : (nint W)[i] ∉ (nint W).take i := by
      intro hm
      rw [List.mem_take_iff_getElem] at hm
      obtain ⟨q, hq, e⟩ := hm
      have := (List.getElem_inj (xs := nint W) (h₀ := by omega) (h₁ := hin) hnd).1 e
      omega
    have hsn := atF_snoc hnot
    rw [← List.take_succ_eq_append_getElem hin] at hsn
    have hlen : ((nint W).take i).length = i := by rw [List.length_take]; omega
    rw [hlen] at hsn
    rw [e3] at e2 hnot hsn
    generalize W[i] = k at *
    rw [e1, OP_some, e2, OP_some, h1.look key_iv, OP_some, tp2_0, OP_some, tp2_1, OP_some, atF_out hnot]
    rw [show (none : Option Value).isSome = false from rfl, BR_false, lss_l 0 0 rfl, BR_dec, if_neg (by omega), mz_r hB.o, hB.hR.len, OP_some, geq_n, BR_dec, if_neg (by omega)]
    obtain ⟨M1, e5, h11, c5, k5⟩ := h1.put key_iv (k : Int) (v := iv (i : Int)) (one_iv _)
    rw [show mup (.int .i64) (.map (some m1)) (iv (k : Int)) (iv (i : Int)) M = some M1 from e5, OP_some, add1_n _ (by omega)]
    rw [← hsn] at h11
    exact ih (i + 1) M1 (by omega) (hB.kI k5) h11
theorem GrphWanted_ok {M : Store} {x0 : Value} {ts zs : List Int} (h0 : LV iv Ty.int M x0 ts) (hx : LV iv Ty.int M x1 zs) : R F.l8_GrphWanted #[x0, x1] M fun v _ => v = tv true := by
  refine R.cps fun Q hQ => ?_
  have hQ : ∀ M, Q (tv true) M := fun M => hQ _ _ rfl
  apply T_l8_GrphWanted
  unfold S_l8_GrphWanted
  refine ManParse h0 fun v M2 u2 hv => ?_
  rw [(tp2 _ _).1, (tp2 _ _).2]
  refine man_box hv fun vR vD M6 u6 o hR hD => ?_
  show OP (binI .neq (iv ((0 : Nat) : Int)) (.int .i64 0)) _
  rw [neq_l 0 0 rfl, BR_dec, if_neg (by simp)]
  have hx6 := (hx.up u2).up u6
  have hi := manF_i ts
  have fin : ∀ (x7 : Value) (ns : List (List UInt8)) (M' : Store), Up M6 M' → ns.length ≤ 4 → LV sv Ty.string M' x7 ns → P_l8_GrphWanted_3 (pt M2.n) x7 M' Q := by
    intro x7 ns M' hu hl h7
    apply T_l8_GrphWanted_3
    unfold S_l8_GrphWanted_3
    have oM := Ob.up o hu
    rw [oM.ldA (s := 2) rfl, OP_some]
    refine (WantedP_ok (ds := []) ⟨vR, vD, rfl, hR.up hu, Sl.up hD hu⟩ hi.ok hi.sm hi.bk h7 (by omega) (by simp)).mono fun w M7 ⟨u7, hw⟩ => ?_
    have en : nmsD ns [] = ns := by unfold nmsD; split <;> simp_all
    rw [en] at hw
    rw [LT_eq]
    have u8 := Up.push M7 (some (.inr (.inl [])))
    have u78 := u7.trans u8
    rw [(hw.lv.up u8).len, OP_some]
    refine gw_4 (m1 := M7.n) hi (by omega) hQ rfl (wanN (manF ts) ns).length 0 _ rfl ⟨Ob.up oM u78, (hR.up hu).up u78, (Sl.up hD hu).up u78, Sl.up h7 u78, hw.lv.up u8⟩ ?_
    rw [List.take_zero, atF_nil]; exact Mp.new M7
  have loop : ∀ (d i : Nat) (x7 : Value) (ns : List (List UInt8)) (M' : Store), d + i = 3 → ns.length ≤ i → Up M6 M' → NV sv Ty.string M6 M' x7 ns → P_l8_GrphWanted_1 x1 (pt M2.n) x7 (iv (i : Int)) M' Q := by
    intro d
    induction d with
    | zero =>
      intro i x7 ns M' hd hl hu hN
      apply T_l8_GrphWanted_1
      unfold S_l8_GrphWanted_1
      rw [(hx6.up hu).len, OP_some, lss_n, BR_dec]
      have fi := fin x7 ns M' hu (by omega) hN.lv
      split
      · rw [lss_l 3 3 rfl, BR_dec, if_neg (by omega)]; exact fi
      · exact fi
    | succ d ih =>
      intro i x7 ns M' hd hl hu hN
      apply T_l8_GrphWanted_1
      unfold S_l8_GrphWanted_1
      rw [(hx6.up hu).len, OP_some, lss_n, BR_dec]
      have fi := fin x7 ns M' hu (by omega) hN.lv
      split
      · rename_i hil
        rw [lss_l 3 3 rfl, BR_dec, if_pos (by omega)]
        apply T_l8_GrphWanted_2
        unfold S_l8_GrphWanted_2
        rw [bl_8w]
        refine lit_s (cs := nmW) rfl fun M7 u7 h7 => ?_
        obtain ⟨p, e1, e2⟩ := (hx6.up (hu.trans u7)).at hil .i64
        rw [e1, OP_some, e2, OP_some]
        show OP (binI .and (.int .i64 zs[i]) (.int .i64 ((7 : Nat) : Int))) _
        rw [e_andN _ 7 (by decide), OP_some]
        have hq := andN_le zs[i] 7 (by decide)
        show OP (ixA 1 (.slice (some ⟨M'.n, 0, none⟩) 8 8) (iv (andN zs[i] 7 : Int))) _
        rw [nm_ld h7 (show _ < 8 by omega), bl_s1', LT_eq]
        refine NV.app1 (M0 := M6) (Mb := M6) (hu.trans u7) (Nat.le_refl _) (hu.trans u7).n (Nw.up hN u7) (nmW.getD (andN zs[i] 7) []) rfl (by omega) fun w M8 hu8 hN8 _ _ => ?_
        rw [add1_n _ (by omega)]
        exact ih (i + 1) w _ M8 (by omega) (by simp; omega) hu8 hN8
      · exact fi
  exact loop 3 0 _ [] M6 rfl (by simp) (Ch.refl _ _) NV.nil
end
end Go.G
