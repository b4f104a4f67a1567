/- ... -/
import Derived.Test.YtnonfejhkbaikaaPUK
import Derived.Test.YtnonfejhkbaikaaPUO
import Derived.Test.YtnonfejhkbaikaaPUE
namespace Go.G
open Go.Ab Go.Proofs Go.RowKit
set_option linter.unusedVariables false
set_option linter.unusedSimpArgs false
set_option maxRecDepth 100000
theorem GrowS_ok {M : Store} {n : Nat} (hn : n ≤ 2 ^ 20) : R F.sGrowS #[.slice none 0 0, iv (n : Int)] M fun v M' => Up M M' ∧ NV sv Ty.string M M' v [] := by
  refine R.cps fun Q hQ => ?_
  apply T_sGrowS
  unfold S_sGrowS
  show OP (binI .lss (.int .i64 (n : Int)) (.int .i64 0)) _
  rw [e_lss, BR_dec, if_neg (by omega)]
  apply T_sGrowS_1
  unfold S_sGrowS_1
  simp only [show capV (.slice none 0 0) = some (.int .i64 0) from rfl, show lenV (.slice none 0 0) = some (.int .i64 0) from rfl, OP_some]
  rw [e_sub]
  show OP (binI .sub (.int .i64 (n : Int)) (.int .i64 0)) _
  rw [e_sub, w64 (by omega) (by omega), Int.sub_zero]
  show OP (binI .gtr (.int .i64 (n : Int)) (.int .i64 0)) _
  rw [e_gtr, BR_dec]
  split
  · rename_i hpos
    have hp : 0 < n := by omega
    have hz : appZ (.string ⟨#[]⟩) 1 Ty.string (.slice none 0 0) (.int .i64 (n : Int)) M = some (.slice (some ⟨M.n, 0, none⟩) n (n + 1), M.push (some (.inl (zerosL (.string ⟨#[]⟩) n, Ty.string, true)))) := by
      unfold appZ newZ
      simp only
      rw [if_pos ⟨by omega, by omega⟩, Option.bind_some, Int.toNat_natCast, Nat.mul_one]
      unfold appG
      simp only
      rw [if_neg (by omega), if_pos (by omega)]
      simp [agrow]
    rw [show slV 1 Ty.string (.slice none 0 0) none (some (.int .i64 0)) M = some (.slice none 0 0) by simp [slV, abound], OP_some]
    show OP2 (appZ (.string ⟨#[]⟩) 1 Ty.string (.slice none 0 0) (.int .i64 (n : Int)) M) _
    rw [hz, OP2_some]
    have hs : slV 1 Ty.string (.slice (some ⟨M.n, 0, none⟩) n (n + 1)) none (some (.int .i64 0)) (M.push (some (.inl (zerosL (.string ⟨#[]⟩) n, Ty.string, true)))) = some (.slice (some ⟨M.n, 0, none⟩) 0 1) := by
      have he : elemOk (M.push (some (.inl (zerosL (.string ⟨#[]⟩) n, Ty.string, true)))) (some ⟨M.n, 0, none⟩) Ty.string = true := by
        have hg : (M.push (some (.inl (zerosL (.string ⟨#[]⟩) n, Ty.string, true)))).get M.n = some (.inl (zerosL (.string ⟨#[]⟩) n, Ty.string, true)) := Ob.new _ _ _
        simp [elemOk, hg]
      simp [slV, abound, he, hp, Addr.add]
    show OP (slV 1 Ty.string (.slice (some ⟨M.n, 0, none⟩) n (n + 1)) none (some (.int .i64 0)) (M.push (some (.inl (zerosL (.string ⟨#[]⟩) n, Ty.string, true))))) _
    rw [hs, OP_some]
    have hu := Up.push M (some (.inl (zerosL (.string ⟨#[]⟩) n, Ty.string, true)))
    exact ⟨rfl, hQ _ _ ⟨hu, rfl, .inr ⟨M.n, zerosL (.string ⟨#[]⟩) n, 1, rfl, Nat.le_refl _, Ob.new _ _ _, by simp, by simp, .inr rfl⟩⟩⟩
  · exact ⟨rfl, hQ _ _ ⟨Ch.refl _ _, Nw.nil _ _ _ _⟩⟩
theorem sl2_at {M : Store} {x v1 v2 : Value} (h : Sl 1 Ty.sl_string M x 2 [v1, v2]) (K : Value → Prop) :
    (OP (ixA 1 x (iv ((0 : Nat) : Int))) fun p => OP (ld 1 false p M) K) = K v1 ∧ (OP (ixA 1 x (iv ((1 : Nat) : Int))) fun p => OP (ld 1 false p M) K) = K v2 := by
  obtain ⟨p, e1, e2⟩ := h.at (i := 0) (by omega) .i64
  obtain ⟨q, g1, g2⟩ := h.at (i := 1) (by omega) .i64
  constructor
  · show (OP (ixA 1 x (.int .i64 ((0 : Nat) : Int))) fun p => OP (ld 1 false p M) K) = K v1
    rw [e1, OP_some, e2 false]; rfl
  · show (OP (ixA 1 x (.int .i64 ((1 : Nat) : Int))) fun p => OP (ld 1 false p M) K) = K v2
    rw [g1, OP_some, g2 false]; rfl
theorem Concat2_ok {M : Store} {x v1 v2 : Value} {l1 l2 : List (List UInt8)} (h : Sl 1 Ty.sl_string M x 2 [v1, v2]) (h1 : LV sv Ty.string M v1 l1) (h2 : LV sv Ty.string M v2 l2) (hl1 : l1.length ≤ 2 ^ 16) (hl2 : l2.length ≤ 2 ^ 16) :
    R F.sConcatS #[x] M fun v M' => Up M M' ∧ NV sv Ty.string M M' v (l1 ++ l2) := by
  refine R.cps fun Q hQ => ?_
  apply T_sConcatS
  unfold S_sConcatS
  rw [h.lenV, OP_some]
  show P_sConcatS_1 x (iv ((0 : Nat) : Int)) x (iv ((2 : Nat) : Int)) (iv ((0 : Nat) : Int)) M Q
  apply T_sConcatS_1
  unfold S_sConcatS_1
  rw [lss_n, BR_dec, if_pos (by decide)]
  apply T_sConcatS_2
  unfold S_sConcatS_2
  rw [(sl2_at h _).1, h1.len, OP_some, add_n _ _ (by omega), lss_l 0 0 rfl, BR_dec, if_neg (by omega), add1_n _ (by omega)]
  apply T_sConcatS_1
  unfold S_sConcatS_1
  rw [lss_n, BR_dec, if_pos (by decide)]
  apply T_sConcatS_2
  unfold S_sConcatS_2
  rw [(sl2_at h _).2, h2.len, OP_some, add_n _ _ (by omega), lss_l 0 0 rfl, BR_dec, if_neg (by omega), add1_n _ (by omega)]
  apply T_sConcatS_1
  unfold S_sConcatS_1
  rw [lss_n, BR_dec, if_neg (by decide)]
  apply T_sConcatS_3
  unfold S_sConcatS_3
  refine (GrowS_ok (by omega)).mono fun v M1 ⟨u1, hN⟩ => ?_
  rw [h.lenV, OP_some]
  show P_sConcatS_4 v x (iv ((2 : Nat) : Int)) (iv ((0 : Nat) : Int)) M1 Q
  apply T_sConcatS_4
  unfold S_sConcatS_4
  rw [lss_n, BR_dec, if_pos (by decide), (sl2_at (Sl.up h u1) _).1]
  refine NV.apps (M0 := M) (Mb := M) u1 (Nat.le_refl _) u1.n hN (h1.up u1) (by simp; omega) fun v2' M2 hu2 hN2 _ _ => ?_
  rw [add1_n _ (by omega)]
  apply T_sConcatS_4
  unfold S_sConcatS_4
  rw [lss_n, BR_dec, if_pos (by decide), (sl2_at (Sl.up h hu2) _).2]
  refine NV.apps (M0 := M) (Mb := M) hu2 (Nat.le_refl _) hu2.n hN2 (h2.up hu2) (by simp; omega) fun v3' M3 hu3 hN3 _ _ => ?_
  rw [add1_n _ (by omega)]
  apply T_sConcatS_4
  unfold S_sConcatS_4
  rw [lss_n, BR_dec, if_neg (by decide)]
  apply T_sConcatS_5
  unfold S_sConcatS_5
  rw [List.nil_append] at hN3
  exact ⟨nts_of hN3.lv, hQ _ _ ⟨hu3, hN3⟩⟩
def lkP : List (List UInt8 × Nat) → List UInt8 → Option Nat
  | [], _ => none
  | p :: r, s => if p.1 = s then some p.2 else lkP r s
theorem lkP_some : ∀ {P : List (List UInt8 × Nat)} {s : List UInt8} {j : Nat}, lkP P s = some j → (s, j) ∈ P
  | p :: r, s, j, h => by
    unfold lkP at h
    split at h
    · rename_i e
      injection h with h
      obtain ⟨a, b⟩ := p
      simp only at e h
      subst e; subst h; simp
    · exact List.mem_cons_of_mem _ (lkP_some h)
theorem lkP_none : ∀ {P : List (List UInt8 × Nat)} {s : List UInt8}, lkP P s = none → ∀ j, (s, j) ∉ P
  | [], _, _, _, h => by cases h
  | p :: r, s, h, j, hm => by
    unfold lkP at h
    split at h
    · cases h
    · rename_i e
      rcases List.mem_cons.1 hm with hm | hm
      · exact e (by rw [← hm])
      · exact lkP_none h j hm
theorem lkP_no {P : List (List UInt8 × Nat)} {s : List UInt8} (h : ∀ j, (s, j) ∉ P) : lkP P s = none := by
  cases e : lkP P s with
  | none => rfl
  | some j => exact absurd (lkP_some e) (h j)
theorem lkP_snoc : ∀ (P : List (List UInt8 × Nat)) (k : List UInt8) (i : Nat) (s : List UInt8), lkP P k = none → lkP (P ++ [(k, i)]) s = if s = k then some i else lkP P s
  | [], k, i, s, _ => by
    simp only [List.nil_append, lkP]
    by_cases h : k = s
    · rw [if_pos h, if_pos h.symm]
    · rw [if_neg h, if_neg (Ne.symm h)]
  | p :: r, k, i, s, hk => by
    unfold lkP at hk
    split at hk
    · cases hk
    · rename_i e
      rw [List.cons_append, lkP, lkP, lkP_snoc r k i s hk]
      by_cases h : p.1 = s
      · rw [if_pos h, if_pos h, if_neg (fun h2 => e (by rw [h, h2]))]
      · rw [if_neg h, if_neg h]
def AtR (M : Store) (mb : Nat) (P : List (List UInt8 × Nat)) : Prop := ∃ f, Mp sv M mb f ∧ ∀ s, match lkP P s with
  | none => f s = none
  | some j => ∃ v, f s = some v ∧ LV iv Ty.int M v [(j : Int)]
theorem AtR.up {M M' : Store} {mb : Nat} {P : List (List UInt8 × Nat)} (h : AtR M mb P) (k : Up M M') : AtR M' mb P := by
  obtain ⟨f, h1, h2⟩ := h
  refine ⟨f, h1.up k, fun s => ?_⟩
  have := h2 s
  cases e : lkP P s with
  | none => rw [e] at this; exact this
  | some j =>
    rw [e] at this
    obtain ⟨v, g1, g2⟩ := this
    exact ⟨v, g1, g2.up k⟩
def outsP (rs : List RuT) : List (List UInt8 × Nat) := (List.range rs.length).flatMap fun i => (rs.getD i ru0).outs.map fun s => (s, i)
def preP (rs : List RuT) (i k : Nat) : List (List UInt8 × Nat) := ((List.range i).flatMap fun i => (rs.getD i ru0).outs.map fun s => (s, i)) ++ ((rs.getD i ru0).outs.take k).map fun s => (s, i)
theorem preP_new {rs : List RuT} (ho : OkRs [] rs) {i k : Nat} (hi : i < rs.length) (hk : k < rs[i].outs.length) : lkP (preP rs i k) rs[i].outs[k] = none := by
  refine lkP_no fun j hm => ?_
  have hoi := ho.at hi
  rw [List.nil_append] at hoi
  unfold preP at hm
  rcases List.mem_append.1 hm with hm | hm
  · obtain ⟨a, ha, hm⟩ := List.mem_flatMap.1 hm
    obtain ⟨s, hs, e⟩ := List.mem_map.1 hm
    injection e with e1 e2
    subst e1
    have hai := List.mem_range.1 ha
    rw [getD_at (by omega)] at hs
    refine (hoi.ok _ (List.getElem_mem hk)).2 (List.mem_flatMap.2 ⟨rs[a]'(by omega), ?_, hs⟩)
    rw [List.mem_take_iff_getElem]
    exact ⟨a, by omega, rfl⟩
  · obtain ⟨s, hs, e⟩ := List.mem_map.1 hm
    injection e with e1 e2
    subst e1
    rw [getD_at hi] at hs
    have hnd := hoi.nd
    rw [List.mem_take_iff_getElem] at hs
    obtain ⟨q, hq, e⟩ := hs
    have := (List.getElem_inj (xs := rs[i].outs) (h₀ := by omega) (h₁ := hk) hnd).1 e
    omega
section
variable {M0 : Store} {b mb : Nat} {vR vD : Value} {rs : List RuT} {Q : Value → Store → Prop}
theorem RL.ldr {M : Store} {v : Value} (h : RL M v rs) {i : Nat} (hi : i < rs.length) : ∃ c : Rc, RuV M c rs[i] ∧ ∀ K : Value → Prop, (OP (ixA 5 v (iv (i : Int))) fun p => OP (ld 5 true p M) K) = K (.agg (rcE c).toArray) := by
  obtain ⟨cs, h1, h2⟩ := h
  have hci : i < cs.length := by rw [h2.len]; exact hi
  refine ⟨cs[i], h2.at hci hi, fun K => ?_⟩
  obtain ⟨p, e1, e2⟩ := LK.at rcE_len h1 hci .i64
  show (OP (ixA 5 v (.int .i64 (i : Int))) fun p => OP (ld 5 true p M) K) = _
  rw [e1, OP_some, e2 true]; rfl
theorem rc_one {M : Store} {c : Rc} {r : RuT} (h : RuV M c r) : (rcE c).all (·.oneCell') = true := by
  obtain ⟨a, k, e1⟩ := Sl.slice h.o
  obtain ⟨a2, k2, e2⟩ := Sl.slice h.i
  obtain ⟨a3, k3, e3⟩ := Sl.slice h.d
  obtain ⟨vs, ha, _⟩ := h.a
  obtain ⟨a4, k4, e4⟩ := ha.slice
  obtain ⟨x, y, z, w, p⟩ := c
  simp only at e1 e2 e3 e4
  subst e1 e2 e3 e4
  kernel_rfl
theorem outs_in (ho : OkRs [] rs) {i : Nat} (hi : i < rs.length) (hl : rs[i].outs.length ≤ 2 ^ 20) {x10 x11 x18 : Value} (hQ : ∀ M, Up M0 M → AtR M mb (preP rs (i + 1) 0) → P_grph_outs_6 (.map (some mb)) x10 x11 (iv (i : Int)) M Q) (hmb : M0.n ≤ mb) :
    ∀ (d k : Nat) (M : Store), d + k = rs[i].outs.length → Up M0 M → LV sv Ty.string M x18 rs[i].outs → AtR M mb (preP rs i k) → P_grph_outs_4 (.map (some mb)) (iv (i : Int)) x10 x11 (iv (i : Int)) x18 (iv (rs[i].outs.length : Int)) (iv (k : Int)) M Q := by
  intro d
  induction d with
  | zero =>
    intro k M hk hu h18 hA
    apply T_grph_outs_4
    unfold S_grph_outs_4
    rw [lss_n, BR_dec, if_neg (by omega)]
    refine hQ M hu ?_
    have e : preP rs (i + 1) 0 = preP rs i k := by
      unfold preP
      rw [List.range_succ, List.flatMap_append, List.take_zero, List.map_nil, List.append_nil, getD_at hi, List.take_of_length_le (by omega)]
      simp [List.getElem?_eq_getElem hi]
    rw [e]; exact hA
  | succ d ih =>
    intro k M hk hu h18 hA
    have hkl : k < rs[i].outs.length := by omega
    apply T_grph_outs_4
    unfold S_grph_outs_4
    rw [lss_n, BR_dec, if_pos hkl]
    apply T_grph_outs_5
    unfold S_grph_outs_5
    obtain ⟨p, e1, e2⟩ := h18.at hkl .i64
    have hnew := preP_new ho hi hkl
    obtain ⟨f, hf1, hf2⟩ := hA
    have hfs := hf2 rs[i].outs[k]
    rw [hnew] at hfs
    simp only at hfs
    rw [e1, OP_some, e2, OP_some, hf1.look1 key_sv, OP_some, hfs, Option.getD_none, bl_i1, LT_eq]
    refine NV.app1 (M0 := M0) (Mb := M) hu hu.n (Nat.le_refl _) (NV.nil (M0 := M)) (i : Int) rfl (by simp) fun w M2 hu2 hN2 c2 _ => ?_
    have u2 : Up M M2 := c2
    rw [List.nil_append] at hN2
    obtain ⟨a, c, rfl⟩ := hN2.lv.slice
    obtain ⟨M3, e3, hm3, c3, k3⟩ := (hf1.up u2).put key_sv rs[i].outs[k] (v := .slice a [(i : Int)].length c) (one_sl _ _ _)
    rw [show mup .string (.map (some mb)) (sv rs[i].outs[k]) (.slice a [(i : Int)].length c) M2 = some M3 from e3, OP_some, add1_n _ (by omega)]
    refine ih (k + 1) M3 (by omega) (hu2.ch c3 (by simpa using hmb)) (Sl.keepI (h18.up u2) k3) ⟨_, hm3, fun s => ?_⟩
    have e : preP rs i (k + 1) = preP rs i k ++ [(rs[i].outs[k], i)] := by
      unfold preP
      rw [getD_at hi, List.take_succ_eq_append_getElem hkl, List.map_append, List.map_singleton, List.append_assoc]
    rw [e, lkP_snoc _ _ _ _ hnew]
    by_cases hs : s = rs[i].outs[k]
    · rw [if_pos hs]
      exact ⟨_, if_pos hs, Sl.keepI hN2.lv k3⟩
    · rw [if_neg hs]
      have := hf2 s
      cases hl2 : lkP (preP rs i k) s with
      | none => rw [hl2] at this; simp only; rw [if_neg hs]; exact this
      | some j =>
        rw [hl2] at this
        obtain ⟨v, g1, g2⟩ := this
        exact ⟨v, by rw [if_neg hs]; exact g1, Sl.keepI (g2.up u2) k3⟩
theorem outs_all (ho : OkRs [] rs) (hs : ShortRs rs) (hR : RL M0 vR rs) (hmb : M0.n ≤ mb) (hQ : ∀ M, Up M0 M → AtR M mb (outsP rs) → Q (.map (some mb)) M) :
    ∀ (d i : Nat) (M : Store), d + i = rs.length → Up M0 M → AtR M mb (preP rs i 0) → P_grph_outs_1 (.map (some mb)) vR (iv (rs.length : Int)) (iv (i : Int)) M Q := by
  have hsl := hs.1
  intro d
  induction d with
  | zero =>
    intro i M hi hu hA
    apply T_grph_outs_1
    unfold S_grph_outs_1
    rw [lss_n, BR_dec, if_neg (by omega)]
    apply T_grph_outs_3
    unfold S_grph_outs_3
    refine ⟨rfl, hQ M hu ?_⟩
    have : i = rs.length := by omega
    subst this
    have e : preP rs rs.length 0 = outsP rs := by unfold preP outsP; simp
    rw [← e]; exact hA
  | succ d ih =>
    intro i M hi hu hA
    have hil : i < rs.length := by omega
    apply T_grph_outs_1
    unfold S_grph_outs_1
    rw [lss_n, BR_dec, if_pos hil]
    apply T_grph_outs_2
    unfold S_grph_outs_2
    obtain ⟨c, hc, hld⟩ := (hR.up hu).ldr hil
    rw [hld]
    refine s_new fun M1 u1 o1 n1 => ?_
    refine s_st (vs := rcE c) o1 rfl rfl (rc_one hc) fun M2 c2 o2 _ => ?_
    have u12 : Up M M2 := u1.ch c2 (by simp)
    rw [fad0, show Go.Ab.ld 1 false (.pointer (some ⟨M.n, 0, none⟩)) M2 = some c.1 from Ob.ld (o := 0) o2 rfl, OP_some, (hc.o.up u12).len, OP_some]
    refine outs_in (M0 := M0) ho hil (by have := (hs.2 _ (List.getElem_mem hil)).1; omega) (fun M3 hu3 hA3 => ?_) hmb rs[i].outs.length 0 M2 rfl (hu.trans u12) (hc.o.up u12) (hA.up u12)
    apply T_grph_outs_6
    unfold S_grph_outs_6
    rw [add1_n _ (by omega)]
    exact ih (i + 1) M3 (by omega) hu3 hA3
theorem outsP_ok {M : Store} {v : Value} {ds : List (List UInt8)} (h : MV M v rs ds) (ho : OkRs [] rs) (hs : ShortRs rs) : R F.grph_outs #[v] M fun r M' => Up M M' ∧ ∃ mb, r = .map (some mb) ∧ AtR M' mb (outsP rs) ∧ M.n ≤ mb := by
  refine R.cps fun Q hQ => ?_
  obtain ⟨vR, vD, rfl, h1, h2⟩ := h
  apply T_grph_outs
  unfold S_grph_outs
  rw [mcs_box h1 h2, OP_some]
  refine s_new fun M1 u1 o1 n1 => ?_
  rw [LT_eq]
  have u2 := Up.push M1 (some (.inr (.inl [])))
  have o2 : Mz _ M.n vR vD := Ob.up o1 u2
  rw [mz_r o2, ((h1.up u1).up u2).len, OP_some]
  refine outs_all (M0 := M1) (mb := M1.n) ho hs (h1.up u1) (Nat.le_refl _) (fun M' hu hA => hQ _ _ ⟨u1.trans hu, M1.n, rfl, hA, u1.n⟩) rs.length 0 _ rfl u2 ⟨fun _ => none, Mp.new M1, fun s => ?_⟩
  have e : preP rs 0 0 = [] := by simp [preP]
  rw [e]; rfl
end
end Go.G

namespace Go.G
open Go.Ab Go.Proofs Go.RowKit
set_option linter.unusedVariables false
set_option linter.unusedSimpArgs false
set_option maxRecDepth 100000
def ahN (rs : List RuT) (k : Nat) : List Nat := ((rs.getD k ru0).ins ++ (rs.getD k ru0).order).flatMap fun s => (lkP (outsP rs) s).toList
theorem outsP_mem {rs : List RuT} {s : List UInt8} {j : Nat} : (s, j) ∈ outsP rs ↔ ∃ h : j < rs.length, s ∈ rs[j].outs := by
  unfold outsP
  rw [List.mem_flatMap]
  constructor
  · rintro ⟨a, ha, hm⟩
    obtain ⟨t, ht, e⟩ := List.mem_map.1 hm
    injection e with e1 e2
    subst e1 e2
    have := List.mem_range.1 ha
    exact ⟨this, by rwa [getD_at this] at ht⟩
  · rintro ⟨h, hs⟩
    exact ⟨j, List.mem_range.2 h, List.mem_map.2 ⟨s, by rwa [getD_at h], rfl⟩⟩
theorem out_one {rs : List RuT} (ho : OkRs [] rs) {i j : Nat} (hi : i < rs.length) (hj : j < rs.length) {s : List UInt8} (h1 : s ∈ rs[i].outs) (h2 : s ∈ rs[j].outs) : i = j := by
  have key : ∀ {i j : Nat} (hi : i < rs.length) (hj : j < rs.length), s ∈ rs[i].outs → s ∈ rs[j].outs → ¬ i < j := by
    intro i j hi hj h1 h2 hlt
    have := ((ho.at hj).ok s h2).2
    rw [List.nil_append] at this
    refine this (List.mem_flatMap.2 ⟨rs[i], ?_, h1⟩)
    rw [List.mem_take_iff_getElem]
    exact ⟨i, by omega, rfl⟩
  have a := key hi hj h1 h2
  have b := key hj hi h2 h1
  omega
theorem ahN_mem {rs : List RuT} (ho : OkRs [] rs) {k : Nat} (hk : k < rs.length) (j : Nat) : j ∈ ahN rs k ↔ j ∈ ndN rs k := by
  rw [ndN_mem hk]
  unfold ahN
  rw [getD_at hk, List.mem_flatMap]
  constructor
  · rintro ⟨s, hs, hm⟩
    rw [Option.mem_toList] at hm
    obtain ⟨h, h2⟩ := outsP_mem.1 (lkP_some hm)
    exact ⟨h, s, h2, hs⟩
  · rintro ⟨h, s, h1, h2⟩
    refine ⟨s, h2, ?_⟩
    rw [Option.mem_toList]
    cases e : lkP (outsP rs) s with
    | none => exact absurd (outsP_mem.2 ⟨h, h1⟩) (lkP_none e j)
    | some j' =>
      obtain ⟨h', h1'⟩ := outsP_mem.1 (lkP_some e)
      obtain rfl := out_one ho h' h h1' h1
      exact rfl
theorem ahN_len {rs : List RuT} (k : Nat) : (ahN rs k).length ≤ (rs.getD k ru0).ins.length + (rs.getD k ru0).order.length := by
  have key : ∀ l : List (List UInt8), (l.flatMap fun s => (lkP (outsP rs) s).toList).length ≤ l.length := by
    intro l
    induction l with
    | nil => simp
    | cons s l ih =>
      rw [List.flatMap_cons, List.length_append, List.length_cons]
      have : (lkP (outsP rs) s).toList.length ≤ 1 := by cases lkP (outsP rs) s <;> simp
      omega
  unfold ahN
  have := key ((rs.getD k ru0).ins ++ (rs.getD k ru0).order)
  rwa [List.length_append] at this
def ahI (rs : List RuT) (x : Int) : List Int := if 0 ≤ x ∧ x < (rs.length : Int) then nint (ahN rs x.toNat) else []
theorem ahI_at {rs : List RuT} {k : Nat} (hk : k < rs.length) : ahI rs (k : Int) = nint (ahN rs k) := by
  unfold ahI
  exact if_pos ⟨by omega, by omega⟩
def SmallRs (rs : List RuT) : Prop := rs.length ≤ 64 ∧ ∀ r ∈ rs, r.outs.length ≤ 64 ∧ r.ins.length ≤ 64 ∧ r.order.length ≤ 64
theorem SmallRs.short {rs : List RuT} (h : SmallRs rs) : ShortRs rs := ⟨by have := h.1; omega, fun r hr => by have := h.2 r hr; omega⟩
theorem OkRs.small {rs : List RuT} {seen : List (List UInt8)} (h : OkRs seen rs) (hl : rs.length ≤ 64) : SmallRs rs :=
  ⟨hl, fun r hr => by
    obtain ⟨s, hs⟩ := h.all r hr
    have h1 := hs.most
    have h2 := hs.insl
    have h3 := hs.ordl
    refine ⟨?_, by omega, by omega⟩
    split at h1 <;> omega⟩
theorem ahI_small {rs : List RuT} (hs : SmallRs rs) (x : Int) : (ahI rs x).length ≤ 128 := by
  unfold ahI
  split
  · rename_i h
    rw [nint_len]
    have h1 := ahN_len (rs := rs) x.toNat
    have hx : x.toNat < rs.length := by omega
    rw [getD_at hx] at h1
    have h2 := hs.2 _ (List.getElem_mem hx)
    omega
  · simp
structure AhC (M : Store) (g : Value) (rs : List RuT) (lo : Nat) : Prop where
  ex : ∃ b1 b3 mb vR vD, g = .func (.func F.grph_Ahead_c1) #[] #[pt b1, pt b3] ∧ Mz M b1 vR vD ∧ RL M vR rs ∧ Ob M b3 [.map (some mb)] Ty.map_string_sl_int ∧ AtR M mb (outsP rs) ∧ lo ≤ mb
theorem AhC.up {M M' : Store} {g : Value} {rs : List RuT} {lo : Nat} (h : AhC M g rs lo) (k : Up M M') : AhC M' g rs lo := by
  obtain ⟨b1, b3, mb, vR, vD, e, h1, h2, h3, h4, h5⟩ := h.ex
  exact ⟨b1, b3, mb, vR, vD, e, h1.up k, h2.up k, h3.up k, h4.up k, h5⟩
theorem RL.keepI {M M' : Store} {v : Value} {rs : List RuT} (h : RL M v rs) (k : KeepI M M') : RL M' v rs := by
  obtain ⟨cs, h1, h2⟩ := h
  exact ⟨cs, Sl.keepI h1 k, h2.mono fun c r h => ⟨Sl.keepI h.o k, Sl.keepI h.i k, Sl.keepI h.d k, Ls.keepI (E := DS) (fun _ _ _ _ h k => Sl.keepI h k) h.a k, h.p⟩⟩
theorem AhC.map {M M' : Store} {g : Value} {rs : List RuT} {lo m : Nat} (h : AhC M g rs lo) (hm : m < lo) (c : Ch [m] M M') (k : KeepI M M') : AhC M' g rs lo := by
  obtain ⟨b1, b3, mb, vR, vD, e, h1, h2, h3, ⟨f, f1, f2⟩, h5⟩ := h.ex
  refine ⟨b1, b3, mb, vR, vD, e, k.2 _ _ h1, h2.keepI k, k.2 _ _ h3, ⟨f, f1.fr c (by simp; omega), fun s => ?_⟩, h5⟩
  have := f2 s
  cases e : lkP (outsP rs) s with
  | none => rw [e] at this; exact this
  | some j =>
    rw [e] at this
    obtain ⟨v, g1, g2⟩ := this
    exact ⟨v, g1, Sl.keepI g2 k⟩
section
variable {M0 : Store} {b3 mb : Nat} {vR vD : Value} {rs : List RuT} {Q : Value → Store → Prop}
theorem bl_sl2 (a a' : Option Addr) (n n' c c' : Nat) (K : List Value → Prop) : OP (bldL (.slice none 0 0) 1 2 [(0, .slice a n c), (1, .slice a' n' c')]) K = K [.slice a n c, .slice a' n' c'] := by kernel_rfl
theorem ah_loop (o3 : Ob M0 b3 [.map (some mb)] Ty.map_string_sl_int) (hA : AtR M0 mb (outsP rs)) {x30 : Value} {l : List (List UInt8)} (h30 : LV sv Ty.string M0 x30 l) (hl : l.length ≤ 2 ^ 20) (hQ : ∀ w M, Up M0 M → NV iv Ty.int M0 M w (nint (l.flatMap fun s => (lkP (outsP rs) s).toList)) → Q w M) :
    ∀ (d k : Nat) (x5 : Value) (M : Store), d + k = l.length → Up M0 M → NV iv Ty.int M0 M x5 (nint ((l.take k).flatMap fun s => (lkP (outsP rs) s).toList)) → ((l.take k).flatMap fun s => (lkP (outsP rs) s).toList).length ≤ k → P_grph_Ahead_c1_1 (pt b3) x5 x30 (iv (l.length : Int)) (iv (k : Int)) M Q := by
  intro d
  induction d with
  | zero =>
    intro k x5 M hk hu hN hle
    apply T_grph_Ahead_c1_1
    unfold S_grph_Ahead_c1_1
    rw [lss_n, BR_dec, if_neg (by omega)]
    apply T_grph_Ahead_c1_2
    unfold S_grph_Ahead_c1_2
    rw [List.take_of_length_le (by omega)] at hN
    exact ⟨nts_of hN.lv, hQ _ _ hu hN⟩
  | succ d ih =>
    intro k x5 M hk hu hN hle
    have hkl : k < l.length := by omega
    apply T_grph_Ahead_c1_1
    unfold S_grph_Ahead_c1_1
    rw [lss_n, BR_dec, if_pos hkl]
    obtain ⟨p, e1, e2⟩ := (h30.up hu).at hkl .i64
    obtain ⟨f, hf1, hf2⟩ := hA.up hu
    have hfs := hf2 l[k]
    rw [e1, OP_some, e2, OP_some, (o3.up hu).l1, hf1.look1 key_sv, OP_some]
    have et : l.take (k + 1) = l.take k ++ [l[k]] := List.take_succ_eq_append_getElem hkl
    cases e : lkP (outsP rs) l[k] with
    | none =>
      rw [e] at hfs
      simp only at hfs
      rw [hfs, Option.getD_none]
      refine NV.apps (M0 := M0) (Mb := M0) (ys := ([] : List Int)) hu (Nat.le_refl _) hu.n hN (e' := Ty.int) (Sl.nil _ _ _) (by rw [nint_len, List.length_nil]; omega) fun w M' hu' hN' _ _ => ?_
      rw [add1_n _ (by omega)]
      refine ih (k + 1) w M' (by omega) hu' ?_ ?_
      · rw [et, List.flatMap_append]
        simpa [e] using hN'
      · have h9 : ([l[k]].flatMap fun s => (lkP (outsP rs) s).toList).length ≤ 1 := by simp [e]
        rw [et, List.flatMap_append, List.length_append]
        omega
    | some j =>
      rw [e] at hfs
      obtain ⟨v, g1, g2⟩ := hfs
      rw [g1, Option.getD_some]
      refine NV.apps (M0 := M0) (Mb := M0) hu (Nat.le_refl _) hu.n hN g2 (by rw [nint_len, List.length_singleton]; omega) fun w M' hu' hN' _ _ => ?_
      rw [add1_n _ (by omega)]
      refine ih (k + 1) w M' (by omega) hu' ?_ ?_
      · rw [et, List.flatMap_append]
        simpa [e, nint] using hN'
      · have h9 : ([l[k]].flatMap fun s => (lkP (outsP rs) s).toList).length ≤ 1 := by simp [e]
        rw [et, List.flatMap_append, List.length_append]
        omega
theorem ah_ok {M : Store} {g : Value} {lo : Nat} (hC : AhC M g rs lo) (hs : SmallRs rs) {k : Nat} (hk : k < rs.length) : KC g [iv (k : Int)] M fun v M' => Up M M' ∧ NV iv Ty.int M M' v (ahI rs (k : Int)) := by
  obtain ⟨b1, b3, mb, vR, vD, rfl, h1, h2, h3, h4, _⟩ := hC.ex
  show R F.grph_Ahead_c1 #[iv (k : Int), pt b1, pt b3] M _
  refine R.cps fun Q hQ => ?_
  apply T_grph_Ahead_c1
  unfold S_grph_Ahead_c1
  have hsk := hs.2 _ (List.getElem_mem hk)
  rw [lss_l 0 0 rfl, BR_dec, if_neg (by omega), mz_r h1, h2.len, OP_some, geq_n, BR_dec, if_neg (by omega)]
  obtain ⟨c, hc, hf⟩ := h2.fld hk
  rw [mz_r h1, hf 1 c.2.1 rfl, mz_r h1, hf 2 c.2.2.1 rfl]
  obtain ⟨a1, k1, e1⟩ := Sl.slice hc.i
  obtain ⟨a2, k2, e2⟩ := Sl.slice hc.d
  have hi := hc.i
  have hd := hc.d
  rw [e1] at hi ⊢
  rw [e2] at hd ⊢
  rw [bl_sl2]
  refine s_lit (s := 1) (n := 2) rfl fun M1 u1 hN1 o1 n1 => ?_
  refine (Concat2_ok (Nw.sl hN1) (hi.up u1) (hd.up u1) (by omega) (by omega)).mono fun w M2 ⟨u2, hw⟩ => ⟨u2.tdx _ _ _, ?_⟩
  have u12 := u1.trans u2
  rw [hw.lv.len, OP_some]
  refine ah_loop (M0 := M2) (h3.up u12) (h4.up u12) hw.lv (by rw [List.length_append]; omega) (fun w M' hu hN => hQ _ _ ⟨u12.trans hu, ?_⟩) _ 0 _ M2 rfl (Ch.refl _ _) NV.nil (by simp)
  rw [ahI_at hk]
  unfold ahN
  rw [getD_at hk]
  exact Nw.base hN u12.n
theorem Ahead_ok {M : Store} {v : Value} {ds : List (List UInt8)} (h : MV M v rs ds) (ho : OkRs [] rs) (hs : SmallRs rs) : R F.grph_Ahead #[v] M fun g M' => Up M M' ∧ AhC M' g rs M.n := by
  refine R.cps fun Q hQ => ?_
  obtain ⟨vR, vD, rfl, h1, h2⟩ := h
  apply T_grph_Ahead
  unfold S_grph_Ahead
  rw [mcs_box h1 h2, OP_some]
  refine s_new fun M1 u1 o1 n1 => ?_
  rw [o1.ldA (s := 2) rfl, OP_some]
  refine (outsP_ok (ds := ds) ⟨vR, vD, rfl, h1.up u1, h2.up u1⟩ ho hs.short).mono fun r M2 ⟨u2, mb, e, hA, hlo⟩ => ?_
  subst e
  refine s_new fun M3 u3 o3 n3 => ?_
  refine s_st1 (i := 0) (w := .map (some mb)) o3 (by simp) (cells_mp _) (oc_mp _) fun M4 c4 o4 _ => ?_
  have u24 : Up M2 M4 := u3.ch c4 (by simp)
  have u14 := u2.trans u24
  have hmk : mkF (.func F.grph_Ahead_c1) [] [pt M.n, pt M2.n] = some (.func (.func F.grph_Ahead_c1) #[] #[pt M.n, pt M2.n]) := rfl
  rw [hmk, OP_some]
  exact ⟨rfl, hQ _ _ ⟨u1.trans u14, ⟨M.n, M2.n, mb, vR, vD, rfl, Ob.up o1 u14, h1.up (u1.trans u14), o4, hA.up u24, Nat.le_trans u1.n hlo⟩⟩⟩
theorem range_split {n j : Nat} (h : j < n) : nint (List.range n) = nint (List.range j) ++ (j : Int) :: nint ((List.range n).drop (j + 1)) := by
  have : List.range n = List.range j ++ j :: (List.range n).drop (j + 1) := by
    have h1 : (List.range n).take j = List.range j := by rw [List.take_range, Nat.min_eq_left (by omega)]
    have h2 : j < (List.range n).length := by rw [List.length_range]; exact h
    conv => lhs; rw [← List.take_append_drop j (List.range n)]
    rw [h1, List.drop_eq_getElem_cons h2, List.getElem_range]
  conv => lhs; rw [this]
  simp [nint]
theorem mem_range_int {n : Nat} {z : Int} : z ∈ nint (List.range n) ↔ 0 ≤ z ∧ z < (n : Int) := by
  rw [mem_nint]
  constructor
  · rintro ⟨i, hi, rfl⟩
    have := List.mem_range.1 hi; omega
  · rintro ⟨h1, h2⟩
    exact ⟨z.toNat, List.mem_range.2 (by omega), by omega⟩
theorem ordF_id {n : Nat} {A : Int → List Int} (hA : ∀ k, k < n → ∀ z ∈ A (k : Int), 0 ≤ z ∧ z < (k : Int)) : ∀ (d j : Nat), d + j = n → ordF (nint (List.range n)) A d (nint (List.range j)) = some (nint (List.range n))
  | 0, j, h => by
    have : j = n := by omega
    subst this; rfl
  | d + 1, j, h => by
    have hj : j < n := by omega
    have hn : nxt (nint (List.range n)) A (nint (List.range j)) = some (j : Int) := by
      unfold nxt
      rw [range_split hj, List.find?_append]
      have h1 : (nint (List.range j)).find? (free (nint (List.range j) ++ (j : Int) :: nint ((List.range n).drop (j + 1))) A (nint (List.range j))) = none := by
        rw [List.find?_eq_none]
        intro z hz hf
        unfold free at hf
        rw [Bool.and_eq_true, decide_eq_true_eq] at hf
        exact hf.1 hz
      rw [h1, Option.none_or, List.find?_cons_of_pos]
      unfold free
      rw [Bool.and_eq_true, decide_eq_true_eq, List.all_eq_true]
      refine ⟨fun hm => ?_, fun z hz => ?_⟩
      · have := mem_range_int.1 hm; omega
      · have := hA j hj z hz
        rw [Bool.or_eq_true]
        exact .inr (decide_eq_true (mem_range_int.2 this))
    rw [ordF, hn]
    simp only
    have := ordF_id hA d (j + 1) (by omega)
    rwa [List.range_succ, nint_snoc] at this
theorem nodup_range (n : Nat) : (nint (List.range n)).Nodup := by
  unfold nint
  rw [List.Nodup, List.pairwise_map]
  exact List.Pairwise.imp (fun h e => h (by omega)) List.nodup_range
theorem rulesP_1 {b n : Nat} (o : Mz M0 b vR vD) (hn : n ≤ 2 ^ 20) (hk : ∀ w M, Up M0 M → NV iv Ty.int M0 M w (nint (List.range n)) → P_grph_Rules_2 (pt b) w M Q) :
    ∀ (d i : Nat) (x4 : Value) (M : Store), d + i = n → Up M0 M → NV iv Ty.int M0 M x4 (nint (List.range i)) → P_grph_Rules_1 (pt b) x4 (iv (n : Int)) (iv (i : Int)) M Q := by
  intro d
  induction d with
  | zero =>
    intro i x4 M hi hu hN
    apply T_grph_Rules_1
    unfold S_grph_Rules_1
    rw [lss_n, BR_dec, if_neg (by omega)]
    have : i = n := by omega
    subst this
    exact hk x4 M hu hN
  | succ d ih =>
    intro i x4 M hi hu hN
    apply T_grph_Rules_1
    unfold S_grph_Rules_1
    rw [lss_n, BR_dec, if_pos (by omega), bl_i1, LT_eq]
    refine NV.app1 (M0 := M0) (Mb := M0) hu (Nat.le_refl _) hu.n hN (i : Int) rfl (by rw [nint_len, List.length_range]; omega) fun w M' hu' hN' _ _ => ?_
    rw [add1_n _ (by omega)]
    exact ih (i + 1) w M' (by omega) hu' (by rw [List.range_succ, nint_snoc]; exact hN')
theorem RulesP_ok {M : Store} {v : Value} {ds : List (List UInt8)} (h : MV M v rs ds) (ho : OkRs [] rs) (hs : SmallRs rs) (hb : ∀ k, k < rs.length → ∀ i ∈ ndN rs k, i < k) :
    R F.grph_Rules #[v] M fun r M' => Up M M' ∧ ∃ w, r = .tuple #[w, tv true] ∧ NV iv Ty.int M M' w (nint (List.range rs.length)) := by
  refine R.cps fun Q hQ => ?_
  obtain ⟨vR, vD, rfl, h1, h2⟩ := h
  have hsl := hs.1
  apply T_grph_Rules
  unfold S_grph_Rules
  rw [mcs_box h1 h2, OP_some]
  refine s_new fun M1 u1 o1 n1 => ?_
  have o1 : Mz M1 M.n vR vD := o1
  rw [mz_r o1, (h1.up u1).len, OP_some]
  refine rulesP_1 (M0 := M1) o1 (by omega) (fun w M2 u2 hN => ?_) rs.length 0 _ M1 rfl (Ch.refl _ _) NV.nil
  have u12 := u1.trans u2
  apply T_grph_Rules_2
  unfold S_grph_Rules_2
  rw [(Ob.up o1 u2).ldA (s := 2) rfl, OP_some]
  refine (Ahead_ok (ds := ds) ⟨vR, vD, rfl, h1.up u12, h2.up u12⟩ ho hs).mono fun g M3 ⟨u3, hC⟩ => ?_
  refine (Order_int_ok (hN.lv.up u3) (by rw [nint_len, List.length_range]; omega) (ahI rs) (fun M' hu x hx => ?_) (fun x hx => by have := ahI_small hs x; omega)).mono fun r M4 ⟨u4, q, e, hq⟩ => ?_
  · obtain ⟨i, hi, rfl⟩ := mem_nint.1 hx
    refine kcall_mono (ah_ok (hC.up hu) hs (List.mem_range.1 hi)) fun v' M'' ⟨ha, hb⟩ => ⟨ha, hb.lv⟩
  · subst e
    rw [unl_self (nodup_range _)] at hq ⊢
    rw [nint_len, List.length_range] at hq ⊢
    have hid := ordF_id (n := rs.length) (A := ahI rs) (fun k hk z hz => by
      rw [ahI_at hk] at hz
      obtain ⟨i, hi, rfl⟩ := mem_nint.1 hz
      have := hb k hk i ((ahN_mem ho hk i).1 hi)
      omega) rs.length 0 rfl
    have hid : ordF (nint (List.range rs.length)) (ahI rs) rs.length [] = some (nint (List.range rs.length)) := hid
    rw [hid] at hq ⊢
    rw [(tp2 _ _).1, (tp2 _ _).2]
    have hu := (u12.trans u3)
    obtain ⟨qa, qc, rfl⟩ := hq.lv.slice
    exact ⟨rfl, hQ _ _ ⟨hu.trans u4, _, rfl, Nw.base hq hu.n⟩⟩
end
end Go.G

namespace Go.G
open Go.Ab Go.Proofs Go.RowKit
set_option linter.unusedVariables false
set_option linter.unusedSimpArgs false
set_option maxRecDepth 100000
section
variable {M : Store} {v : Value} {xs : List (List UInt8)} {t : List UInt8} {Q : Value → Store → Prop}
theorem index_in (h : LV sv Ty.string M v xs) (hl : xs.length ≤ 2 ^ 40) (hQ : ∀ z : Int, decide (z ≥ 0) = decide (t ∈ xs) → Q (iv z) M) :
    ∀ (k i : Nat), k + i = xs.length → t ∉ xs.take i → P_sIndexS_1 v (sv t) (iv (xs.length : Int)) (iv (i : Int)) M Q := by
  intro k
  induction k with
  | zero =>
    intro i hi hn
    apply T_sIndexS_1
    unfold S_sIndexS_1
    rw [lss_n, BR_dec, if_neg (by omega)]
    apply T_sIndexS_2
    unfold S_sIndexS_2
    rw [List.take_of_length_le (by omega)] at hn
    exact ⟨rfl, hQ (-1) (by rw [decide_eq_false hn]; rfl)⟩
  | succ k ih =>
    intro i hi hn
    have hil : i < xs.length := by omega
    apply T_sIndexS_1
    unfold S_sIndexS_1
    obtain ⟨p, e1, e2⟩ := h.at hil .i64
    rw [lss_n, BR_dec, if_pos hil, e1, OP_some, e2, OP_some, sv_eq, BR_dec]
    split
    · rename_i e
      exact ⟨rfl, hQ (i : Int) (by rw [decide_eq_true (p := t ∈ xs) (by rw [e]; exact List.getElem_mem hil)]; simp)⟩
    · rename_i e
      rw [add1_n _ (by omega)]
      refine ih (i + 1) (by omega) ?_
      rw [List.take_succ_eq_append_getElem hil, List.mem_append]
      rintro (h1 | h1)
      · exact hn h1
      · exact e (by simpa using h1)
theorem Contains_ok (h : LV sv Ty.string M v xs) (hl : xs.length ≤ 2 ^ 40) (hQ : Q (tv (decide (t ∈ xs))) M) : R F.sContainsS #[v, sv t] M Q := by
  apply T_sContainsS
  unfold S_sContainsS
  apply T_sIndexS
  unfold S_sIndexS
  rw [h.len, OP_some]
  refine index_in h hl (fun z hz => ?_) xs.length 0 rfl (by simp)
  refine ⟨rfl, ?_⟩
  show Q (.bool (decide (z ≥ 0))) M
  rw [hz]; exact hQ
theorem cfs_loop {b3 : Nat} {w : Value} {ys : List (List UInt8)} (h : LV sv Ty.string M v xs) (hl : xs.length ≤ 2 ^ 40) (o : Ob M b3 [w] Ty.sl_string) (hw : LV sv Ty.string M w ys) (hyl : ys.length ≤ 2 ^ 40) (hQ : ∀ z : Int, decide (z ≥ 0) = (xs.any fun s => decide (s ∈ ys)) → Q (iv z) M) :
    ∀ (k i : Nat), k + i = xs.length → ((xs.take i).any fun s => decide (s ∈ ys)) = false → P_sIndexFuncS_1 v (.func (.func F.grph_begin_c1) #[] #[pt b3]) (iv (xs.length : Int)) (iv (i : Int)) M Q := by
  intro k
  induction k with
  | zero =>
    intro i hi hn
    apply T_sIndexFuncS_1
    unfold S_sIndexFuncS_1
    rw [lss_n, BR_dec, if_neg (by omega)]
    apply T_sIndexFuncS_2
    unfold S_sIndexFuncS_2
    rw [List.take_of_length_le (by omega)] at hn
    exact ⟨rfl, hQ (-1) (by rw [hn]; rfl)⟩
  | succ k ih =>
    intro i hi hn
    have hil : i < xs.length := by omega
    apply T_sIndexFuncS_1
    unfold S_sIndexFuncS_1
    obtain ⟨p, e1, e2⟩ := h.at hil .i64
    rw [lss_n, BR_dec, if_pos hil, e1, OP_some, e2, OP_some]
    show R F.grph_begin_c1 #[sv xs[i], pt b3] M _
    apply T_grph_begin_c1
    unfold S_grph_begin_c1
    rw [o.l1]
    refine Contains_ok hw hyl ⟨rfl, ?_⟩
    show BR (.bool (decide (xs[i] ∈ ys))) _ _
    rw [BR_dec]
    split
    · rename_i e
      refine ⟨rfl, hQ (i : Int) ?_⟩
      have : (xs.any fun s => decide (s ∈ ys)) = true := List.any_eq_true.2 ⟨xs[i], List.getElem_mem hil, decide_eq_true e⟩
      rw [this]; simp
    · rename_i e
      rw [add1_n _ (by omega)]
      refine ih (i + 1) (by omega) ?_
      rw [List.take_succ_eq_append_getElem hil, List.any_append, hn]
      simp [e]
theorem CFs_ok {b3 : Nat} {w : Value} {ys : List (List UInt8)} (h : LV sv Ty.string M v xs) (hl : xs.length ≤ 2 ^ 40) (o : Ob M b3 [w] Ty.sl_string) (hw : LV sv Ty.string M w ys) (hyl : ys.length ≤ 2 ^ 40) (hQ : Q (tv (xs.any fun s => decide (s ∈ ys))) M) :
    R F.sContainsFuncS #[v, .func (.func F.grph_begin_c1) #[] #[pt b3]] M Q := by
  apply T_sContainsFuncS
  unfold S_sContainsFuncS
  apply T_sIndexFuncS
  unfold S_sIndexFuncS
  rw [h.len, OP_some]
  refine cfs_loop h hl o hw hyl (fun z hz => ?_) xs.length 0 rfl (by simp)
  refine ⟨rfl, ?_⟩
  show Q (.bool (decide (z ≥ 0))) M
  rw [hz]; exact hQ
end
def namedB (ns : List (List UInt8)) (r : RuT) : Bool := decide (ns = []) || r.outs.any fun s => decide (s ∈ ns)
def begN (rs : List RuT) (ns : List (List UInt8)) : List Nat := (List.range rs.length).filter fun i => namedB ns (rs.getD i ru0)
section
variable {M0 : Store} {b2 b3 : Nat} {vR vD w x14 : Value} {rs : List RuT} {ns : List (List UInt8)} {Q : Value → Store → Prop}
theorem beg_loop (hR : RL M0 vR rs) (hs : SmallRs rs) (o3 : Ob M0 b3 [w] Ty.sl_string) (hw : LV sv Ty.string M0 w ns) (hnl : ns.length ≤ 2 ^ 20) (hQ : ∀ v M, Up M0 M → NV iv Ty.int M0 M v (nint (begN rs ns)) → Q v M) :
    ∀ (d i : Nat) (x5 : Value) (M : Store), d + i = rs.length → Up M0 M → NV iv Ty.int M0 M x5 (nint ((List.range i).filter fun i => namedB ns (rs.getD i ru0))) → P_grph_begin_1 (pt b3) x5 vR (iv (rs.length : Int)) (iv (i : Int)) M Q := by
  have hsl := hs.1
  intro d
  induction d with
  | zero =>
    intro i x5 M hi hu hN
    apply T_grph_begin_1
    unfold S_grph_begin_1
    rw [lss_n, BR_dec, if_neg (by omega)]
    apply T_grph_begin_3
    unfold S_grph_begin_3
    have : i = rs.length := by omega
    subst this
    exact ⟨nts_of hN.lv, hQ _ _ hu hN⟩
  | succ d ih =>
    intro i x5 M hi hu hN
    have hil : i < rs.length := by omega
    apply T_grph_begin_1
    unfold S_grph_begin_1
    rw [lss_n, BR_dec, if_pos hil]
    apply T_grph_begin_2
    unfold S_grph_begin_2
    obtain ⟨c, hc, hld⟩ := (hR.up hu).ldr hil
    rw [hld]
    refine s_new fun M1 u1 o1 n1 => ?_
    refine s_st (vs := rcE c) o1 rfl rfl (rc_one hc) fun M2 c2 o2 _ => ?_
    have u12 : Up M M2 := u1.ch c2 (by simp)
    have hu2 := hu.trans u12
    have hN2 := Nw.up hN u12
    have hfl : ((List.range i).filter fun i => namedB ns (rs.getD i ru0)).length ≤ i := by
      have := List.length_filter_le (fun i => namedB ns (rs.getD i ru0)) (List.range i)
      rwa [List.length_range] at this
    have put : ∀ M', Up M0 M' → NV iv Ty.int M0 M' x5 (nint ((List.range i).filter fun i => namedB ns (rs.getD i ru0))) → namedB ns rs[i] = true → OP (bldL (.int .i64 0) 1 1 [(0, iv (i : Int))]) fun c => LT (.slice (some ⟨M'.n, 0, none⟩) 1 1) (M'.push (some (.inl (c, Ty.int, true)))) fun t32 M3 => OP2 (appV 1 Ty.int x5 t32 M3) fun t33 M4 => OP (binI .add (iv (i : Int)) (.int .i64 1)) fun t34 => P_grph_begin_1 (pt b3) t33 vR (iv (rs.length : Int)) t34 M4 Q := by
      intro M' hu' hN' hb
      rw [bl_i1, LT_eq]
      refine NV.app1 (M0 := M0) (Mb := M0) hu' (Nat.le_refl _) hu'.n hN' (i : Int) rfl (by rw [nint_len]; omega) fun v4 M4 hu4 hN4 _ _ => ?_
      rw [add1_n _ (by omega)]
      refine ih (i + 1) v4 M4 (by omega) hu4 ?_
      rw [List.range_succ, List.filter_append, List.filter_cons_of_pos (by rw [getD_at hil]; exact hb), List.filter_nil, nint_snoc]
      exact hN4
    have hsi := hs.2 _ (List.getElem_mem hil)
    rw [(o3.up hu2).l1, (hw.up hu2).len, OP_some, eql_l 0 0 rfl, BR_dec]
    split
    · rename_i h0
      exact put M2 hu2 hN2 (by unfold namedB; rw [decide_eq_true (List.length_eq_zero_iff.1 h0)]; rfl)
    · rename_i h0
      have hne : ¬ ns = [] := fun e => h0 (by rw [e]; rfl)
      rw [fad0, show Go.Ab.ld 1 false (.pointer (some ⟨M.n, 0, none⟩)) M2 = some c.1 from Ob.ld (o := 0) o2 rfl, OP_some]
      have hmk : mkF (.func F.grph_begin_c1) [] [pt b3] = some (.func (.func F.grph_begin_c1) #[] #[pt b3]) := rfl
      rw [hmk, OP_some]
      have ho := hc.o.up u12
      refine CFs_ok ho (by omega) (o3.up hu2) (hw.up hu2) (by omega) ?_
      have hnb : namedB ns rs[i] = rs[i].outs.any fun s => decide (s ∈ ns) := by unfold namedB; rw [decide_eq_false hne, Bool.false_or]
      rw [BR_bool]
      split
      · rename_i hb
        exact put M2 hu2 hN2 (by rw [hnb]; exact hb)
      · rename_i hb
        rw [add1_n _ (by omega)]
        refine ih (i + 1) x5 M2 (by omega) hu2 ?_
        rw [List.range_succ, List.filter_append, List.filter_cons_of_neg (by rw [getD_at hil, hnb]; exact hb), List.filter_nil, List.append_nil]
        exact hN2
def nmsD (ns ds : List (List UInt8)) : List (List UInt8) := if ns = [] then ds else ns
theorem begin_ok {M : Store} {v x1 : Value} {ds : List (List UInt8)} (h : MV M v rs ds) (hs : SmallRs rs) (h1 : LV sv Ty.string M x1 ns) (hnl : ns.length ≤ 2 ^ 20) (hdl : ds.length ≤ 2 ^ 20) : R F.grph_begin #[v, x1] M fun r M' => Up M M' ∧ NV iv Ty.int M M' r (nint (begN rs (nmsD ns ds))) := by
  refine R.cps fun Q hQ => ?_
  obtain ⟨vR, vD, rfl, hR, hD⟩ := h
  apply T_grph_begin
  unfold S_grph_begin
  rw [mcs_box hR hD, OP_some]
  refine s_new fun M1 u1 o1 n1 => ?_
  obtain ⟨a, c, rfl⟩ := h1.slice
  rw [show boxv (.slice a ns.length c) = some [.slice a ns.length c] from by kernel_rfl, OP_some]
  refine s_new fun M2 u2 o2 n2 => ?_
  have u12 := u1.trans u2
  have o12 : Mz M2 M.n vR vD := Ob.up o1 u2
  have hlt := o12.lt
  have hR2 := hR.up u12
  have hD2 : LV sv Ty.string M2 vD ds := hD.up u12
  rw [o2.l1, e_lenV]
  show OP (binI .eql (iv (ns.length : Int)) (.int .i64 0)) _
  rw [eql_l 0 0 rfl, BR_dec]
  split
  · rename_i h0
    have hne : ns = [] := List.length_eq_zero_iff.1 h0
    rw [mz_d o12]
    obtain ⟨a', c', rfl⟩ := Sl.slice hD2
    refine s_st1 (i := 0) (w := .slice a' ds.length c') o2 (by simp) (cells_sl _ _ _) (oc_sl _ _ _) fun M3 c3 o3 _ => ?_
    have u3 : Up M1 M3 := u2.ch c3 (by simp)
    have k3 := c3.keepT o2
    rw [mz_r (Ob.up o1 u3), ((hR.up u1).up u3).len, OP_some]
    refine beg_loop (M0 := M3) ((hR.up u1).up u3) hs o3 (Sl.keep hD2 (by decide) k3) hdl (fun r M' hu hN => hQ _ _ ⟨(u1.trans u3).trans hu, ?_⟩) rs.length 0 _ M3 rfl (Ch.refl _ _) NV.nil
    unfold nmsD
    rw [if_pos hne]
    exact Nw.base hN (u1.trans u3).n
  · rename_i h0
    have hne : ¬ ns = [] := fun e => h0 (by rw [e]; rfl)
    rw [mz_r o12, hR2.len, OP_some]
    refine beg_loop (M0 := M2) hR2 hs o2 (Sl.up h1 u12) hnl (fun r M' hu hN => hQ _ _ ⟨u12.trans hu, ?_⟩) rs.length 0 _ M2 rfl (Ch.refl _ _) NV.nil
    unfold nmsD
    rw [if_neg hne]
    exact Nw.base hN u12.n
end
end Go.G
