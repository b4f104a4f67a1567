/- Layer 8: things in order, of kind string. -/
import Derived.Test.YtnonfejhkbaikaaPE8n
import Derived.Test.YtnonfejhkbaikaaPE8s
namespace Go.G
open Go.Ab Go.Proofs Go.RowKit
set_option linter.unusedVariables false
set_option linter.unusedSimpArgs false
set_option maxRecDepth 100000

theorem Order_string_at {M0 : Store} {x0 g : Value} {l : List (List UInt8)} (hx : LV sv Ty.string M0 x0 l) (hn : l.Nodup) (hl : l.length ≤ 2 ^ 20) {b : Nat} (hb0 : M0.n ≤ b) {Q : Value → Store → Prop}
    (hQ : ∀ M, Up M0 M → Mp sv M b (atF l) → P_grph_Order_string_2 x0 g (.map (some b)) M Q) : ∀ (d i : Nat) (M : Store), d + i = l.length → Up M0 M → Mp sv M b (atF (l.take i)) →
      P_grph_Order_string_1 x0 g (.map (some b)) x0 (iv l.length) (iv i) M Q := by
  intro d
  induction d with
  | zero =>
    intro i M hi hu hm
    apply T_grph_Order_string_1
    unfold S_grph_Order_string_1
    rw [e_lss, BR_dec, if_neg (by omega)]
    rw [List.take_of_length_le (by omega)] at hm
    exact hQ M hu hm
  | succ d ih =>
    intro i M hi hu hm
    apply T_grph_Order_string_1
    unfold S_grph_Order_string_1
    obtain ⟨p, h1, h2⟩ := (hx.up hu).at (i := i) (by omega) .i64
    rw [e_lss, BR_dec, if_pos (by omega), h1, OP_some, h2, OP_some]
    obtain ⟨M1, e1, hm1, hc1, hk1⟩ := hm.put key_sv (l[i]'(by omega)) (one_iv i)
    rw [e1, OP_some, e_add, w64 (by omega) (by omega)]
    refine ih (i + 1) M1 (by omega) (hu.ch hc1 (by simpa using hb0)) (cast ?_ hm1)
    have hni : l[i]'(by omega) ∉ l.take i := fun hm => by
      obtain ⟨j, hj, he⟩ := List.getElem_of_mem hm
      rw [List.getElem_take] at he
      have := (List.getElem_inj hn).1 he
      simp at hj; omega
    have hll : (l.take i).length = i := by simp; omega
    rw [List.take_succ_eq_append_getElem (by omega), atF_snoc hni, hll]

theorem ne_string_sli : Ty.string ≠ Ty.sl_int := by decide
theorem ne_string_b : Ty.string ≠ Ty.bool := by decide

/-- One row of needs. -/
theorem Order_string_row {M0 Mn Mi : Store} (h0n : M0.n ≤ Mn.n) {x0 g x9 t45 : Value} {l ys : List (List UInt8)} (hl : l.length ≤ 2 ^ 20) (hx : LV sv Ty.string Mi x0 l) (hys : LV sv Ty.string Mi t45 ys) (hyl : ys.length ≤ 2 ^ 20)
    {b : Nat} (hm : Mp sv Mi b (atF l)) {n i : Nat} (hi : i < n) (hin : n ≤ 2 ^ 20) {vs : List Value} {bN : Nat} (hbx : bx x9 = some bN) {cells : List Value} (hob : Ob Mi bN cells Ty.sl_int) (hbN : Mn.n ≤ bN) {Q : Value → Store → Prop}
    (hQ : ∀ M w, Up M0 M → Ch [bN] Mi M → Nw 1 Ty.sl_int Mn M x9 n (vs.set i w) → NV iv Ty.int Mi M w (needR l ys) →
      P_grph_Order_string_7 x0 g (.map (some b)) x9 x0 (iv l.length) (iv i) M Q) :
    ∀ (d k : Nat) (M : Store) (w : Value), d + k = ys.length → Up M0 M → Ch [bN] Mi M → Nw 1 Ty.sl_int Mn M x9 n (vs.set i w) → NV iv Ty.int Mi M w (needR l (ys.take k)) → vs.length = n →
      P_grph_Order_string_4 x0 g (.map (some b)) x9 (iv i) x0 (iv l.length) (iv i) t45 (iv ys.length) (iv k) M Q := by
  intro d
  induction d with
  | zero =>
    intro k M w hk hu hc hN hw _
    apply T_grph_Order_string_4
    unfold S_grph_Order_string_4
    rw [e_lss, BR_dec, if_neg (by omega)]
    rw [List.take_of_length_le (by omega)] at hw
    exact hQ M w hu hc hN hw
  | succ d ih =>
    intro k M w hk hu hc hN hw hvs
    apply T_grph_Order_string_4
    unfold S_grph_Order_string_4
    rw [e_lss, BR_dec, if_pos (by omega)]
    apply T_grph_Order_string_6
    unfold S_grph_Order_string_6
    have hK := hc.keepT hob
    obtain ⟨p, h1, h2⟩ := LV.at (hys.keep ne_string_sli hK) (i := k) (by omega) .i64
    rw [h1, OP_some, h2, OP_some, (hm.keep hK).look key_sv, OP_some, tp2_0, OP_some, tp2_1, OP_some, BR_bool]
    by_cases hin' : ys[k]'(by omega) ∈ l
    · rw [atF_in hin', if_pos (by rfl)]
      have htk := needR_in l ys (by omega) hin'
      obtain ⟨p3, _, b3, h3, h4, _, _, h5, _⟩ := hN.put1 hi .i64 (w := w) (by obtain ⟨a, c, rfl⟩ := hw.sl.slice; exact cells_sl _ _ _) (by obtain ⟨a, c, rfl⟩ := hw.sl.slice; exact oc_sl _ _ _)
      have hw4 : (vs.set i w).getD i undef = w := by rw [List.getD_eq_getElem?_getD, List.getElem?_set_self (by omega)]; rfl
      rw [hw4] at h4
      rw [h3, OP_some, h4, OP_some, Option.getD_some, bl_int, OP_some, LT_eq]
      have hlw : (needR l (ys.take k)).length ≤ 2 ^ 20 := Nat.le_trans (needR_length _ _) (by simp; omega)
      have h0i : M0.n ≤ Mi.n := Nat.le_trans h0n (by have := hob.lt; omega)
      refine NV.app1 hu h0i hc.n hw _ rfl (by omega) fun w2 M2 hu2 hw2 hc2 hn2 => ?_
      have hk2 : Keep Ty.int M M2 := Nw.keepE hw hc2
      have hN2 := hN.keep (by decide) hk2
      obtain ⟨p4, M3, b4, h6, _, h7, hN3, h8, _, _, hc3⟩ := hN2.put1 hi .i64 (w := w2) (by obtain ⟨a, c, rfl⟩ := hw2.sl.slice; exact cells_sl _ _ _) (by obtain ⟨a, c, rfl⟩ := hw2.sl.slice; exact oc_sl _ _ _)
      rw [hbx] at h8; injection h8 with h8; subst h8
      rw [h3] at h6; injection h6 with h6; subst h6
      rw [OP_some, h7, OP_some, e_add, w64 (by omega) (by omega)]
      have hob2 : ∃ cells2, Ob M2 bN cells2 Ty.sl_int := by
        obtain ⟨_, ⟨h9, a, rfl, _⟩ | ⟨b5, cs, c, rfl, _, h10, _⟩⟩ := hN2
        · omega
        · simp only [bx, Option.some.injEq] at hbx; subst hbx; exact ⟨_, h10⟩
      obtain ⟨cells2, hob2⟩ := hob2
      have hk3 := hc3.keepT hob2
      refine ih (k + 1) M3 w2 (by omega) (hu2.ch hc3 (by simp; omega)) ?_ ?_ ?_ hvs
      · refine (hc.trans' hc2 fun q hq => .inr (Nw.bx_in hw (mem_kl.1 hq)).1).trans hc3
      · rw [List.set_set] at hN3; exact hN3
      · rw [htk]; exact hw2.keep (by decide) hk3
    · rw [atF_out hin', if_neg (by simp)]
      have htk := needR_out l ys (by omega) hin'
      rw [e_add, w64 (by omega) (by omega)]
      exact ih (k + 1) M w (by omega) hu hc hN (htk ▸ hw) hvs

/-- All rows of needs. -/
theorem Order_string_rows {M0 Mn : Store} (h0n : M0.n ≤ Mn.n) {x0 g x9 : Value} {l : List (List UInt8)} (hl : l.length ≤ 2 ^ 20) (A : (List UInt8) → List (List UInt8))
    (hA : ∀ M', Up M0 M' → ∀ x ∈ l, KC g [sv x] M' fun v M'' => Up M' M'' ∧ LV sv Ty.string M'' v (A x)) (hAl : ∀ x ∈ l, (A x).length ≤ 2 ^ 20)
    {b bN : Nat} (hbx : bx x9 = some bN) (hbN : Mn.n ≤ bN) {Q : Value → Store → Prop}
    (hQ : ∀ M, Up M0 M → LV sv Ty.string M x0 l → LI M x9 (needsF l A) → P_grph_Order_string_5 x0 x9 M Q) :
    ∀ (d i : Nat) (M : Store) (vs : List Value), d + i = l.length → Up M0 M → LV sv Ty.string M x0 l → Mp sv M b (atF l) → Nw 1 Ty.sl_int Mn M x9 l.length vs → vs.length = l.length →
      (∀ j (h : j < l.length), j < i → LV iv Ty.int M (vs.getD j undef) (needR l (A l[j]))) → (∀ j, i ≤ j → j < l.length → vs.getD j undef = .slice none 0 0) →
      P_grph_Order_string_3 x0 g (.map (some b)) x9 x0 (iv l.length) (iv i) M Q := by
  intro d
  induction d with
  | zero =>
    intro i M vs hi hu hx hm hN hvs he _
    apply T_grph_Order_string_3
    unfold S_grph_Order_string_3
    rw [e_lss, BR_dec, if_neg (by omega)]
    refine hQ M hu hx ⟨vs, ?_, ?_⟩
    · have : (needsF l A).length = l.length := by simp [needsF]
      rw [this]; exact hN.sl
    · refine Each.of (by simp [needsF]; omega) fun j h1 h2 => ?_
      have := he j (by omega) (by omega)
      rw [List.getD_eq_getElem?_getD, List.getElem?_eq_getElem h1] at this
      simpa [needsF] using this
  | succ d ih =>
    intro i M vs hi hu hx hm hN hvs he hnil
    apply T_grph_Order_string_3
    unfold S_grph_Order_string_3
    obtain ⟨p, h1, h2⟩ := hx.at (i := i) (by omega) .i64
    have hmem : l[i]'(by omega) ∈ l := List.getElem_mem (by omega)
    rw [e_lss, BR_dec, if_pos (by omega), h1, OP_some, h2, OP_some]
    refine kcall_mono (hA M hu _ hmem) fun t45 Mi ⟨hui, hys⟩ => ?_
    rw [hys.len, OP_some]
    have hNi := Nw.up hN hui
    have hob : ∃ cells, Ob Mi bN cells Ty.sl_int := by
      obtain ⟨_, ⟨h9, a, rfl, _⟩ | ⟨b5, cs, c, rfl, _, h10, _⟩⟩ := hNi
      · omega
      · simp only [bx, Option.some.injEq] at hbx; subst hbx; exact ⟨_, h10⟩
    obtain ⟨cells, hob⟩ := hob
    have hself : vs.set i (.slice none 0 0) = vs := by
      have := hnil i (Nat.le_refl _) (by omega)
      rw [List.getD_eq_getElem?_getD, List.getElem?_eq_getElem (by omega)] at this
      simp only [Option.getD_some] at this
      rw [← this, List.set_getElem_self]
    refine Order_string_row h0n hl (hx.up hui) hys (hAl _ hmem) (hm.up hui) (n := l.length) (i := i) (by omega) hl (vs := vs) hbx hob hbN ?_ (A (l[i]'(by omega))).length 0 Mi (.slice none 0 0) rfl (hu.trans hui) (Ch.refl _ _) (by rw [hself]; exact hNi) NV.nil hvs
    intro M3 w hu3 hc3 hN3 hw3
    apply T_grph_Order_string_7
    unfold S_grph_Order_string_7
    rw [e_add, w64 (by omega) (by omega)]
    have hK := hc3.keepT hob
    refine ih (i + 1) M3 (vs.set i w) (by omega) hu3 ((hx.up hui).keep ne_string_sli hK) ((hm.up hui).keep hK) hN3 (by simpa using hvs) ?_ ?_
    · intro j h hj
      by_cases e : j = i
      · subst e
        rw [List.getD_eq_getElem?_getD, List.getElem?_set_self (by omega)]
        exact hw3.lv
      · rw [List.getD_eq_getElem?_getD, List.getElem?_set_ne (by omega), ← List.getD_eq_getElem?_getD]
        exact ((he j h (by omega)).up hui).keep (by decide) hK
    · intro j h1 h2
      rw [List.getD_eq_getElem?_getD, List.getElem?_set_ne (by omega), ← List.getD_eq_getElem?_getD]
      exact hnil j (by omega) h2

/-- One behind the other. -/
theorem Order_string_outs {M0 Mo : Store} (h0o : M0.n ≤ Mo.n) {x0 x9 x16 : Value} {l : List (List UInt8)} (hn : l.Nodup) (hl : l.length ≤ 2 ^ 20) (A : (List UInt8) → List (List UInt8)) (hAl : ∀ x ∈ l, (A x).length ≤ 2 ^ 20) (hx : LV sv Ty.string Mo x0 l) (hN : LI Mo x9 (needsF l A))
    {Md : Store} {bD : Nat} (hbx : bx x16 = some bD) {cells : List Value} (hob : Ob Mo bD cells Ty.bool) (h0D : M0.n ≤ bD) {Q : Value → Store → Prop}
    (hQ : ∀ v M, Up M0 M → NV sv Ty.string Mo M v ((ordF l A l.length []).getD []) → Q (.tuple #[v, tv (ordF l A l.length []).isSome]) M) :
    ∀ (k i : Nat) (M : Store) (x17 : Value) (d : List (List UInt8)), k + i = l.length → d.length = i → Up M0 M → Ch [bD] Mo M → NV tv Ty.bool Md M x16 (dnF l d) → NV sv Ty.string Mo M x17 d → ordF l A k d = ordF l A l.length [] →
      P_grph_Order_string_8 x0 x9 x16 x17 (iv l.length) (iv i) M Q := by
  intro k
  induction k with
  | zero =>
    intro i M x17 d hi hd hu hc hD hO ho
    apply T_grph_Order_string_8
    unfold S_grph_Order_string_8
    rw [e_lss, BR_dec, if_neg (by omega)]
    apply T_grph_Order_string_10
    have := hQ x17 M hu
    rw [← ho] at this
    obtain ⟨a, c, rfl⟩ := hO.sl.slice
    exact ⟨rfl, this hO⟩
  | succ k ih =>
    intro i M x17 d hi hd hu hc hD hO ho
    apply T_grph_Order_string_8
    unfold S_grph_Order_string_8
    rw [e_lss, BR_dec, if_pos (by omega)]
    apply T_grph_Order_string_9
    unfold S_grph_Order_string_9
    have hK := hc.keepT hob
    have hEk : ∀ (M M' : Store) (v : Value) (x : List Int), LV iv Ty.int M v x → Keep Ty.bool M M' → LV iv Ty.int M' v x := fun _ _ _ _ h k => Sl.keep h (by decide) k
    have hdl : (dnF l d).length = l.length := by simp [dnF]
    refine (next_ok (hN.keep hEk (by decide) hK) hD.lv (by simp [needsF, dnF]) (by simp [needsF]; omega) fun ns hns => ?_).mono fun v M1 ⟨hu1, hv⟩ => ?_
    · have := needsF_in hns hAl
      rw [hdl]; exact this
    subst hv
    rw [e_lss, BR_dec]
    have hx1 := nxtI_eq l A d
    simp only [ordF] at ho
    cases hnx : nxtI (needsF l A) (dnF l d) with
    | none =>
      rw [hnx] at hx1
      simp only at hx1
      rw [hx1] at ho
      have h4 : plc none < 0 := by decide
      rw [if_pos h4]
      have := hQ (.slice none 0 0) M1 (hu.trans hu1)
      rw [← ho] at this
      exact ⟨rfl, this NV.nil⟩
    | some j =>
      rw [hnx] at hx1
      obtain ⟨hj, hx1⟩ := hx1
      rw [hx1] at ho
      have hp : plc (some j) = (j : Int) := rfl
      rw [hp, if_neg (by omega)]
      have hD1 := Nw.up hD hu1
      rw [hdl] at hD1
      obtain ⟨p2, M2, b2, e1, _, e2, hD2, hb2, _, _, hc2⟩ := hD1.put1 hj .i64 (cells_tv true) (oc_tv true)
      rw [hbx] at hb2; injection hb2 with hb2; subst hb2
      have hcM1 : Ch [bD] Mo M1 := hc.up hu1
      have hcM2 : Ch [bD] Mo M2 := hcM1.trans hc2
      have hob1 : ∃ cells1, Ob M1 bD cells1 Ty.bool := by
        obtain ⟨_, ⟨h9, a, rfl, _⟩ | ⟨b5, cs, c, rfl, _, h10, _⟩⟩ := hD1
        · omega
        · simp only [bx, Option.some.injEq] at hbx; subst hbx; exact ⟨_, h10⟩
      obtain ⟨cells1, hob1⟩ := hob1
      obtain ⟨p3, e3, e4⟩ := LV.at (hx.keep ne_string_b (hcM2.keepT hob)) hj .i64
      rw [e1, OP_some, e2, OP_some, e3, OP_some, e4, OP_some, bl_string, OP_some, LT_eq]
      have hu2 : Up M0 M2 := Up.ch (hu.trans hu1) hc2 (by simpa using h0D)
      have hO2 : NV sv Ty.string Mo M2 x17 d := (Nw.up hO hu1).keep ne_string_b (hc2.keepT hob1)
      refine NV.app1 hu2 h0o hcM2.n hO2 (l[j]) rfl (by omega) fun v3 M3 hu3 hO3 hc3 hn3 => ?_
      rw [e_add, w64 (by omega) (by omega)]
      refine ih (i + 1) M3 v3 (d ++ [l[j]]) (by omega) (by simp; omega) hu3 ?_ ?_ hO3 ho
      · exact hcM2.trans' hc3 fun q hq => .inr (Nw.bx_in hO2 (mem_kl.1 hq)).1
      · have e5 : (dnF l d).set j true = dnF l (d ++ [l[j]]) := dnF_put hn hj
        have h6 : NV tv Ty.bool Md M2 x16 (dnF l (d ++ [l[j]])) := by
          rw [← e5]
          have : ((dnF l d).map tv).set j (tv true) = ((dnF l d).set j true).map tv := by rw [List.map_set]
          unfold NV
          rw [← this, List.length_set, hdl]; exact hD2
        exact h6.keep (by decide) (Nw.keepE hO2 hc3)

theorem Order_string_ok {M : Store} {x0 g : Value} {xs : List (List UInt8)} (hx : LV sv Ty.string M x0 xs) (hl : xs.length ≤ 2 ^ 20) (A : (List UInt8) → List (List UInt8))
    (hA : ∀ M', Up M M' → ∀ x ∈ xs, KC g [sv x] M' fun v M'' => Up M' M'' ∧ LV sv Ty.string M'' v (A x)) (hAl : ∀ x ∈ xs, (A x).length ≤ 2 ^ 20) :
    R F.grph_Order_string #[x0, g] M fun r M' => Up M M' ∧ ∃ v, r = .tuple #[v, tv (ordF (unl xs) A (unl xs).length []).isSome] ∧ NV sv Ty.string M M' v ((ordF (unl xs) A (unl xs).length []).getD []) := by
  refine R.cps fun Q hQ => ?_
  apply T_grph_Order_string
  unfold S_grph_Order_string
  refine (unlike_string_ok hx (by omega)).mono fun t20 M1 ⟨hu1, h1⟩ => ?_
  have hlen := unl_length xs
  have hnd := unl_nodup xs
  have hmem := unl_mem xs
  generalize unl xs = l at *
  rw [LT_eq, h1.lv.len, OP_some]
  refine Order_string_at (M0 := M1) h1.lv hnd (by omega) (Nat.le_refl _) (fun M2 hu2 hm2 => ?_) l.length 0 _ rfl (Up.push _ _) (by rw [List.take_zero, atF_nil]; exact Mp.new M1)
  apply T_grph_Order_string_2
  unfold S_grph_Order_string_2
  have h2 := h1.lv.up hu2
  rw [h2.len, OP_some]
  refine mkS_ok (En := id) (x0 := .slice none 0 0) (cells_sl none 0 0) rfl (by omega) (by omega) fun x9 M3 hu3 hN3 hb3 => ?_
  rw [OP_some]
  have hu02 : Up M M2 := hu1.trans hu2
  have hN3' : Nw 1 Ty.sl_int M2 M3 x9 l.length (List.replicate l.length (.slice none 0 0)) := by simpa [NV] using hN3
  refine Order_string_rows (M0 := M) (Mn := M2) hu02.n (by omega) A (fun M' hu' x hx' => hA M' hu' x ((hmem x).1 hx')) (fun x hx' => hAl x ((hmem x).1 hx')) hb3 (Nat.le_refl _) (fun M5 hu5 h5 hN5 => ?_) l.length 0 M3 _ rfl (hu02.trans hu3) (h2.up hu3) (hm2.up hu3) hN3' (by simp) (fun j h hj => by omega) fun j _ h => ?_
  · apply T_grph_Order_string_5
    unfold S_grph_Order_string_5
    rw [h5.len, OP_some]
    refine mkS_ok (En := tv) (x0 := false) (cells_tv false) rfl (by omega) (by omega) fun x16 M6 hu6 hD6 hb6 => ?_
    rw [OP_some]
    have hD6' : NV tv Ty.bool M5 M6 x16 (dnF l []) := by
      have : dnF l [] = List.replicate l.length false := by
        rw [List.eq_replicate_iff]; simp [dnF]
      rw [this]; exact hD6
    by_cases h0 : l.length = 0
    · have hl0 : l = [] := List.length_eq_zero_iff.1 h0
      subst hl0
      apply T_grph_Order_string_8
      unfold S_grph_Order_string_8
      rw [e_lss, BR_dec, if_neg (by simp)]
      apply T_grph_Order_string_10
      exact ⟨rfl, hQ _ _ ⟨hu5.trans hu6, _, rfl, NV.nil⟩⟩
    · have hob : ∃ cells, Ob M6 M5.n cells Ty.bool := by
        obtain ⟨_, ⟨h9, a, rfl, _⟩ | ⟨b5, cs, c, rfl, _, h10, _⟩⟩ := hD6
        · have := List.length_replicate (n := l.length) (a := false); omega
        · simp only [bx, Option.some.injEq] at hb6; subst hb6; exact ⟨_, h10⟩
      obtain ⟨cells, hob⟩ := hob
      refine Order_string_outs (M0 := M) (Mo := M6) (hu5.trans hu6).n hnd (by omega) A (fun x hx' => hAl x ((hmem x).1 hx')) (h5.up hu6) (hN5.up LV.up' hu6) hb6 hob hu5.n (fun v M7 hu7 h7 => ?_) l.length 0 M6 (.slice none 0 0) [] rfl rfl (hu5.trans hu6) (Ch.refl _ _) hD6' NV.nil rfl
      exact hQ _ _ ⟨hu7, v, rfl, Nw.base h7 (hu5.trans hu6).n⟩
  · rw [List.getD_eq_getElem?_getD, List.getElem?_replicate, if_pos h]; rfl

end Go.G
