/- Frames found, by the program. -/
import Derived.Test.YtpacolplhcfamaaPGA
import Derived.Test.YtpacolplhcfamaaPC6
namespace Go.G
open Go.Ab Go.Proofs Go.RowKit
set_option linter.unusedVariables false
set_option linter.unusedSimpArgs false

theorem Equal_loop {M : Store} {x y : Value} {l k : List UInt8} (hx : B M x l) (hy : B M y k) (hle : l.length ≤ 2 ^ 26) (hlen : l.length = k.length) {Q : Value → Store → Prop} : ∀ (d i : Nat), d + i = l.length → Q (.bool (decide (l.drop i = k.drop i))) M →
    P_slices_Equal_sl_byte_byte_1 x y (.int .i64 (l.length : Int)) (.int .i64 (i : Int)) M Q := by
  intro d
  induction d with
  | zero =>
    intro i hi h
    apply T_slices_Equal_sl_byte_byte_1
    unfold S_slices_Equal_sl_byte_byte_1
    simp (disch := omega) only [ev, if_neg]
    apply T_slices_Equal_sl_byte_byte_3
    rw [List.drop_of_length_le (by omega), List.drop_of_length_le (by omega)] at h
    exact ⟨rfl, h⟩
  | succ d ih =>
    intro i hi h
    apply T_slices_Equal_sl_byte_byte_1
    unfold S_slices_Equal_sl_byte_byte_1
    simp (disch := omega) only [ev, if_pos]
    apply T_slices_Equal_sl_byte_byte_2
    unfold S_slices_Equal_sl_byte_byte_2
    obtain ⟨p, h1, h2⟩ := By.at hx (i := i) (by omega) .i64
    obtain ⟨q, h3, h4⟩ := By.at hy (i := i) (by omega) .i64
    simp only [h1, h2, h3, h4, ev, bv_neq]
    have e1 : l.drop i = l[i] :: l.drop (i + 1) := List.drop_eq_getElem_cons (by omega)
    have e2 : k.drop i = k[i] :: k.drop (i + 1) := List.drop_eq_getElem_cons (by omega)
    split
    · rename_i hne
      refine ⟨rfl, ?_⟩
      have : ¬ (l.drop i = k.drop i) := by rw [e1, e2]; intro e; injection e with e _; exact hne e
      rw [decide_eq_false this] at h; exact h
    · rename_i hne
      have heq : l[i] = k[i] := Classical.not_not.1 hne
      rw [w64 (by omega) (by omega)]
      refine ih (i + 1) (by omega) ?_
      have : (l.drop i = k.drop i) = (l.drop (i + 1) = k.drop (i + 1)) := by rw [e1, e2, heq, List.cons.injEq]; simp only [true_and]
      simp only [this] at h; exact h

theorem Equal_ok {M : Store} {x y : Value} {l k : List UInt8} (hx : B M x l) (hy : B M y k) (h1 : l.length ≤ 2 ^ 26) (h2 : k.length ≤ 2 ^ 26) : R F.slices_Equal_sl_byte_byte #[x, y] M fun v M' => M' = M ∧ v = .bool (decide (l = k)) := by
  refine R.cps fun Q hQ => ?_
  apply T_slices_Equal_sl_byte_byte
  unfold S_slices_Equal_sl_byte_byte
  rw [hx.lenV, hy.lenV]
  simp only [ev]
  split
  · rename_i h
    have : l ≠ k := fun e => h (by rw [e])
    exact ⟨rfl, hQ _ _ ⟨rfl, by rw [decide_eq_false this]⟩⟩
  · rename_i h
    exact Equal_loop hx hy h1 (by omega) l.length 0 rfl (hQ _ _ ⟨rfl, rfl⟩)

theorem rdBytes_take {b : List UInt8} : (rdBytes 10000 (b.take 10006) false).map (·.1) = (rdBytes 10000 b false).map (·.1) := by
  cases hb : rdBytes 10000 b false with
  | none =>
    cases ht : rdBytes 10000 (b.take 10006) false with
    | none => rfl
    | some p =>
      obtain ⟨x, r⟩ := p
      obtain ⟨h1, h2, h3, h4, h5⟩ := rdBytes_iff.1 ht
      have e1 : (b.take 10006).take 6 = b.take 6 := by rw [List.take_take]; congr 1
      rw [e1] at h2 h3
      simp only [List.length_take] at h1 h3
      have : rdBytes 10000 b false = some ((b.drop 6).take (numOf (b.take 6)), b.drop (6 + numOf (b.take 6))) := rdBytes_iff.2 ⟨by omega, h2, by omega, rfl, rfl⟩
      rw [hb] at this; cases this
  | some p =>
    obtain ⟨x, r⟩ := p
    obtain ⟨h1, h2, h3, h4, h5⟩ := rdBytes_iff.1 hb
    have e1 : (b.take 10006).take 6 = b.take 6 := by rw [List.take_take]; congr 1
    have : rdBytes 10000 (b.take 10006) false = some (((b.take 10006).drop 6).take (numOf ((b.take 10006).take 6)), (b.take 10006).drop (6 + numOf ((b.take 10006).take 6))) :=
      rdBytes_iff.2 ⟨by simp; omega, by rw [e1]; exact h2, by rw [e1]; simp; omega, rfl, rfl⟩
    rw [this]
    simp only [Option.map_some, e1, h4, List.drop_take, List.take_take]
    congr 2
    omega

theorem one_ok {M : Store} {v : Value} {l : List UInt8} (h : B M v l) (hl : l.length ≤ 2 ^ 24) :
    R F.fram_one #[v] M fun r M' => Up M M' ∧ match oneF l with
      | some x => ∃ w, r = .tuple #[w, .int .i64 ((x.length + 10 : Nat) : Int), .bool true] ∧ B M' w x ∧ NTs [w]
      | none => r = .tuple #[.slice none 0 0, .int .i64 0, .bool false] := by
  refine R.cps fun Q hQ => ?_
  apply T_fram_one
  unfold S_fram_one
  have emin : (if (10006 : Int) < (l.length : Int) then (10006 : Int) else (l.length : Int)) = ((min l.length 10006 : Nat) : Int) := by split <;> omega
  rw [h.lenV]
  simp only [ev, emin]
  obtain ⟨u, e1, hu⟩ := By.cut h (lo := none) (hi := some (.int .i64 ((min l.length 10006 : Nat) : Int))) (a := 0) (r := min l.length 10006) (abound_nat (by omega)) rfl (by omega) (by omega)
  rw [List.drop_zero] at hu
  have hmin : l.take (min l.length 10006) = l.take 10006 := by
    rcases Nat.le_total l.length 10006 with h | h
    · rw [Nat.min_eq_left h, List.take_length, List.take_of_length_le h]
    · rw [Nat.min_eq_right h]
  rw [hmin] at hu
  rw [e1, OP_some]
  refine (Read_ok hu (by simp; omega)).mono fun r1 M1 ⟨hu1, b, hr1, hb, hR⟩ => ?_
  subst hr1
  refine (rBytes_ok (top := 10000) hR (by omega) (by simp; omega)).mono fun v2 M2 ⟨hc2, h2⟩ => ?_
  have hu2 : Up M M2 := hu1.ch hc2 fun c hc => by simp at hc; omega
  have none_ : ∀ M', Up M M' → oneF l = none → NTs [.slice none 0 0, .int .i64 0, .bool false] ∧ Q (.tuple #[.slice none 0 0, .int .i64 0, .bool false]) M' := by
    intro M' hM hn
    exact ⟨rfl, hQ _ _ ⟨hM, by rw [hn]⟩⟩
  have htk := rdBytes_take (b := l)
  cases hb2 : rdBytes 10000 (l.take 10006) false with
  | none =>
    rw [hb2] at h2 htk
    obtain ⟨hv2, hR2⟩ := h2
    have hn : rdBytes 10000 l false = none := by
      cases hh : rdBytes 10000 l false with
      | none => rfl
      | some p => rw [hh] at htk; cases htk
    rw [hv2.lenV, OP_some, e_add]
    refine (Ok_ok hR2).mono fun v3 M3 ⟨hM3, hv3⟩ => ?_
    subst hM3; subst hv3
    refine ⟨Up.tdx (Ch.refl _ _) _ _ _, ?_⟩
    simp only [Bool.not_true, ev, Bool.not_false]
    exact none_ _ hu2 (by simp [oneF, hn])
  | some p =>
    obtain ⟨x, r⟩ := p
    rw [hb2] at h2 htk
    obtain ⟨hv2, hR2⟩ := h2
    obtain ⟨r', hrb⟩ : ∃ r', rdBytes 10000 l false = some (x, r') := by
      cases hh : rdBytes 10000 l false with
      | none => rw [hh] at htk; cases htk
      | some q => obtain ⟨y, r'⟩ := q; rw [hh] at htk; simp only [Option.map_some, Option.some.injEq] at htk; subst htk; exact ⟨r', rfl⟩
    obtain ⟨hx1, hx2, hx3⟩ := rdBytes_len hrb
    have hone : oneF l = if r'.length < 4 then none else if sum4 (crc (l.take (6 + x.length))) = r'.take 4 then some x else none := by
      simp only [oneF, hrb, Option.bind_some]
    have i0 : IntKind.wrap .i64 ((6 : Int) + (x.length : Int)) = ((6 + x.length : Nat) : Int) := by rw [w64 (by omega) (by omega)]; omega
    have i4 : IntKind.wrap .i64 (((6 + x.length : Nat) : Int) + 4) = ((6 + x.length + 4 : Nat) : Int) := by rw [w64 (by omega) (by omega)]; omega
    rw [hv2.lenV, OP_some, e_add, i0]
    refine (Ok_ok hR2).mono fun v3 M3 ⟨hM3, hv3⟩ => ?_
    subst hM3; subst hv3
    refine ⟨Up.tdx (Ch.refl _ _) _ _ _, ?_⟩
    simp only [Bool.not_true, ev, Bool.not_false, i4]
    by_cases h4 : r'.length < 4
    · rw [if_pos (by omega)]
      exact none_ _ hu2 (by rw [hone, if_pos h4])
    · rw [if_neg (by omega)]
      obtain ⟨u2, e2, hu3⟩ := By.cut (Sl.up h hu2) (lo := none) (hi := some (.int .i64 ((6 + x.length : Nat) : Int))) (a := 0) (r := 6 + x.length) (abound_nat (by omega)) rfl (by omega) (by omega)
      rw [List.drop_zero] at hu3
      rw [e2, OP_some]
      refine (sum_ok hu3 (by simp; omega)).mono fun v4 M4 ⟨hu4, h4v⟩ => ?_
      refine ⟨hu4.tdj _ _, ?_⟩
      obtain ⟨u5, e5, hu5⟩ := By.cut (Sl.up h (hu2.trans hu4)) (lo := some (.int .i64 ((6 + x.length : Nat) : Int))) (hi := some (.int .i64 ((6 + x.length + 4 : Nat) : Int))) (a := 6 + x.length) (r := 6 + x.length + 4) (abound_nat (by omega)) (abound_nat (by omega)) (by omega) (by omega)
      have e6 : (l.take (6 + x.length + 4)).drop (6 + x.length) = r'.take 4 := by
        rw [List.drop_take, hx3]; congr 1; omega
      rw [e6] at hu5
      rw [e5, OP_some]
      refine (Equal_ok h4v.by hu5 (by simp [sum4]) (by simp; omega)).mono fun v6 M6 ⟨hM6, hv6⟩ => ?_
      subst hM6; subst hv6
      refine ⟨Up.tdx (Ch.refl _ _) _ _ _, ?_⟩
      rw [e_not]
      by_cases hs : sum4 (crc (l.take (6 + x.length))) = r'.take 4
      · rw [decide_eq_true hs]
        simp only [Bool.not_true, ev]
        obtain ⟨aw, cw, rfl⟩ := hv2.slice
        refine ⟨rfl, hQ _ _ ⟨hu2.trans hu4, ?_⟩⟩
        rw [hone, if_neg h4, if_pos hs]
        exact ⟨_, by rw [show 6 + x.length + 4 = x.length + 10 by omega], Sl.up hv2 hu4, rfl⟩
      · rw [decide_eq_false hs]
        simp only [Bool.not_false, ev]
        exact none_ _ (hu2.trans hu4) (by rw [hone, if_neg h4, if_neg hs])

end Go.G
