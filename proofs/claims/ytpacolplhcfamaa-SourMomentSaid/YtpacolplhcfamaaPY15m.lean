/- SourMisses: one that is not there is told, one that is made and is no artifact, and one that is too long, whichever comes first. -/
import Derived.Test.YtpacolplhcfamaaPY15w
import Derived.Test.YtpacolplhcfamaaPGFm
namespace Go.G
open Go.Ab Go.Proofs Go.RowKit
set_option linter.unusedVariables false
set_option linter.unusedSimpArgs false
set_option maxRecDepth 100000

/-! ## plainly: a reader of files that nobody writes -/
/-- What comes of a name. -/
def outR (fl : Fl) (p : List UInt8 → Bool) (s : List UInt8) : Nat := match fl s with
  | none => 2
  | some q => match valS p s q.1 with
    | none => 3
    | some v => if 256 < v.length then 3 else 1
/-- The first that is not well. -/
def fb : List Nat → Nat
  | [] => 1
  | a :: l => if a = 1 then fb l else a
theorem fb_snoc (l : List Nat) (c : Nat) : fb (l ++ [c]) = if fb l = 1 then c else fb l := by
  induction l with
  | nil => simp only [List.nil_append, fb]; split <;> simp_all
  | cons a l ih =>
    simp only [List.cons_append, fb]
    split
    · exact ih
    · rfl
theorem fb_all (l : List Nat) (h : ∀ a ∈ l, a = 1) : fb l = 1 := by
  induction l with
  | nil => rfl
  | cons a l ih => simp only [fb]; rw [if_pos (h a (by simp))]; exact ih fun b hb => h b (by simp [hb])
theorem fb_first (l r : List Nat) (c : Nat) (h : ∀ a ∈ l, a = 1) (hc : c ≠ 1) : fb (l ++ c :: r) = c := by
  induction l with
  | nil => simp only [List.nil_append, fb]; rw [if_neg hc]
  | cons a l ih => simp only [List.cons_append, fb]; rw [if_pos (h a (by simp))]; exact ih fun b hb => h b (by simp [hb])
def stmF (fl : Fl) (s : List UInt8) : Nat := ((fl s).map (·.2)).getD 0
/-- So many were read. -/
structure AtR (fl : Fl) (p : List UInt8 → Bool) (L : List (List UInt8)) (st : RSt) (j : Nat) : Prop where
  hL : st.L = L
  lk : st.looks = false
  i : st.i = j
  ts : st.ts = (L.take j).map (stmF fl)
  ov : st.over = false
  vs : ∀ v ∈ st.vs, v.length ≤ 256
  ok : ∀ s ∈ L.take j, outR fl p s = 1
structure AtL (fl : Fl) (p : List UInt8 → Bool) (L : List (List UInt8)) (st : RSt) (j : Nat) : Prop where
  hL : st.L = L
  lk : st.looks = true
  i : st.i = j
  ts : st.ts = L.map (stmF fl)
  ov : st.over = false
  vs : ∀ v ∈ st.vs, v.length ≤ 256
  ok : ∀ s ∈ L, outR fl p s = 1
structure Ends (L : List (List UInt8)) (st : RSt) (w : Nat) : Prop where
  hL : st.L = L
  ov : st.over = true
  told : st.told = w
  vs : ∀ v ∈ st.vs, v.length ≤ 256
section
variable {fl : Fl} {p : List UInt8 → Bool} {L : List (List UInt8)} {st : RSt} {j : Nat}
theorem AtR.step (h : AtR fl p L st j) (hj : j < L.length) :
    ((stepS fl p st).2 = 0 ∧ outR fl p L[j] = 1 ∧ ((j + 1 < L.length ∧ AtR fl p L (stepS fl p st).1 (j + 1)) ∨ (j + 1 = L.length ∧ AtL fl p L (stepS fl p st).1 0))) ∨
    (outR fl p L[j] ≠ 1 ∧ (stepS fl p st).2 = outR fl p L[j] ∧ outR fl p L[j] ≠ 0 ∧ Ends L (stepS fl p st).1 (outR fl p L[j])) := by
  obtain ⟨h1, h2, h3, h4, h5, h6, h7⟩ := h
  have hL : st.L ≠ [] := by rw [h1]; intro e; rw [e] at hj; simp at hj
  have e1 : st.L.getD st.i [] = L[j] := by rw [h1, h3]; simp [hj]
  unfold stepS
  rw [if_neg (by rw [h5]; decide), if_neg hL, if_neg (by rw [h2]; decide)]
  unfold readS
  rw [e1]
  have hout : outR fl p L[j] = match fl L[j] with
    | none => 2
    | some q => match valS p L[j] q.1 with
      | none => 3
      | some v => if 256 < v.length then 3 else 1 := rfl
  cases hf : fl L[j] with
  | none =>
    rw [hf] at hout
    have hout : outR fl p L[j] = 2 := hout
    rw [hout]
    exact .inr ⟨by decide, rfl, by decide, ⟨h1, rfl, rfl, h6⟩⟩
  | some q =>
    rw [hf] at hout
    simp only at hout ⊢
    cases hv : valS p L[j] q.1 with
    | none =>
      rw [hv] at hout
      have hout : outR fl p L[j] = 3 := hout
      rw [hout]
      exact .inr ⟨by decide, rfl, by decide, ⟨h1, rfl, rfl, h6⟩⟩
    | some v =>
      rw [hv] at hout
      simp only at hout ⊢
      by_cases hl : 256 < v.length
      · rw [if_pos hl] at hout ⊢
        rw [hout]
        exact .inr ⟨by decide, rfl, by decide, ⟨h1, rfl, rfl, h6⟩⟩
      · rw [if_neg hl] at hout ⊢
        have htake : L.take (j + 1) = L.take j ++ [L[j]] := List.take_succ_eq_append_getElem hj
        have hst : stmF fl L[j] = q.2 := by unfold stmF; rw [hf]; rfl
        have hts : st.ts ++ [q.2] = (L.take (j + 1)).map (stmF fl) := by rw [htake, List.map_append, h4]; simp [hst]
        have hvs : ∀ u ∈ st.vs ++ [v], u.length ≤ 256 := fun u hu => by
          rcases List.mem_append.1 hu with hu | hu
          · exact h6 u hu
          · rw [List.mem_singleton.1 hu]; omega
        have hok : ∀ s ∈ L.take (j + 1), outR fl p s = 1 := fun s hs => by
          rw [htake] at hs
          rcases List.mem_append.1 hs with hs | hs
          · exact h7 s hs
          · rw [List.mem_singleton.1 hs]; exact hout
        refine .inl ⟨rfl, hout, ?_⟩
        unfold RSt.more
        by_cases hlen : j + 1 = L.length
        · rw [if_pos (by rw [h1, h3]; exact hlen)]
          have hall : L.take (j + 1) = L := List.take_of_length_le (by omega)
          rw [hall] at hts hok
          exact .inr ⟨hlen, ⟨h1, rfl, rfl, hts, h5, hvs, hok⟩⟩
        · rw [if_neg (by rw [h1, h3]; exact hlen)]
          exact .inl ⟨by omega, ⟨h1, h2, by show st.i + 1 = j + 1; rw [h3], hts, h5, hvs, hok⟩⟩
theorem AtL.step (h : AtL fl p L st j) (hj : j < L.length) :
    (j + 1 < L.length ∧ (stepS fl p st).2 = 0 ∧ AtL fl p L (stepS fl p st).1 (j + 1)) ∨ (j + 1 = L.length ∧ (stepS fl p st).2 = 1 ∧ Ends L (stepS fl p st).1 1) := by
  obtain ⟨h1, h2, h3, h4, h5, h6, h7⟩ := h
  have hL : st.L ≠ [] := by rw [h1]; intro e; rw [e] at hj; simp at hj
  have e1 : st.L.getD st.i [] = L[j] := by rw [h1, h3]; simp [hj]
  have e2 : st.ts.getD st.i 0 = stmF fl L[j] := by rw [h4, h3]; simp [hj]
  unfold stepS
  rw [if_neg (by rw [h5]; decide), if_neg hL, if_pos h2]
  unfold lookS
  rw [e1, e2, if_neg (show ¬ (((fl L[j]).map (·.2)).getD 0 ≠ stmF fl L[j]) from fun h => h rfl)]
  by_cases hlen : j + 1 = L.length
  · rw [if_pos (by rw [h1, h3]; exact hlen)]
    exact .inr ⟨hlen, rfl, ⟨h1, rfl, rfl, h6⟩⟩
  · rw [if_neg (by rw [h1, h3]; exact hlen)]
    exact .inl ⟨by omega, rfl, ⟨h1, h2, by show st.i + 1 = j + 1; rw [h3], h4, h5, h6, h7⟩⟩
theorem Ends.step {w : Nat} (h : Ends L st w) : stepS fl p st = (st, w) := by
  unfold stepS
  rw [if_pos h.ov, h.told]
end

/-! ## the walk -/
abbrev L4 : List (List UInt8) := [[115], [97], [116], [98]]
theorem name4 : ∀ s ∈ L4, nameOk s := fun s hs => by
  simp at hs
  rcases hs with rfl | rfl | rfl | rfl
  · exact name_s
  · exact name_a
  · exact name_t
  · exact name_b
theorem tv_eq (a b : Bool) (K : Value → Prop) : OP (abin Try.prog false .eql Ty.bool (tv a) (tv b)) K = K (tv (a == b)) := by
  have : abin Try.prog false .eql Ty.bool (.bool a) (.bool b) = some (.bool (a == b)) := by kernel_rfl
  rw [this, OP_some]
section
variable {M0 : Store} {x0 : Value} {bf r room U last : Nat} {fl : Fl} {br : Nat} {Q : Value → Store → Prop} {L : List (List UInt8)}
theorem mi_end (hQ : ∀ M, Q (tv true) M) (hL : L.length ≤ 2 ^ 20) (hn : ∀ s ∈ L, nameOk s) {M : Store} {st : RSt} {O : List Nat} {w : Nat} (hu : Up M0 M) (hf : FSR M0 M bf r room U last fl) (h : RdrR M0 M br mvF st O) (he : Ends L st w) : P_fettlelaw15_SourMisses_5 (pB bf) (nv w) (pB br) (nv w) M Q := by
  apply T_fettlelaw15_SourMisses_5
  unfold S_fettlelaw15_SourMisses_5
  have fin : ∀ {M1 : Store} (x : Value), Up M M1 → (OP (tup (.tuple #[x, tv (decide (w = 1))]) 0) fun t75 => OP (tup (.tuple #[x, tv (decide (w = 1))]) 1) fun t76 => OP (binI .eql (nv w) (nv w)) fun t79 =>
      BR t79 (OP (binI .eql (nv w) (.int .i64 1)) fun t83 => OP (abin Try.prog false .eql Ty.bool t76 t83) fun t84 => BR t84 (R F.sour_Read_Step #[pB br, pB bf] M1 fun t89 M2 => OP (binI .eql t89 (nv w)) fun t91 => BR t91 (R F.fettlelaw15_awake #[] M2 fun t94 M3 => NTs [t94] ∧ Q t94 M3) (NTs [(.bool false)] ∧ Q (.bool false) M2)) (NTs [(.bool false)] ∧ Q (.bool false) M1)) (NTs [(.bool false)] ∧ Q (.bool false) M1)) := by
    intro M1 x u1
    rw [(tp2 _ _).1, (tp2 _ _).2, eql_n, BR_dec, if_pos rfl, eql_l 1 1 rfl, tv_eq, BR_bool, if_pos (by simp)]
    refine (Step_ok (hu.trans u1) (hf.up u1) (h.up u1) (by rw [he.hL]; omega) (made_ok _) (by rw [he.hL]; exact hn)).mono fun v M2 ⟨e, _⟩ => ?_
    rw [he.step] at e
    rw [e, eql_n, BR_dec, if_pos rfl]
    exact awake15_ok ⟨rfl, hQ _⟩
  by_cases hw : w = 1
  · refine (Values_ok h (by rw [he.hL]; exact hL) (fun x hx => by have := he.vs x hx; omega) ⟨he.ov, by rw [he.told, hw]⟩).mono fun v M1 ⟨x, e, u1, _⟩ => ?_
    subst e
    have := fin x u1
    rw [decide_eq_true hw] at this
    exact this
  · refine (ValuesN_ok h (fun hh => hw (by rw [← he.told, hh.2]))).mono fun v M1 ⟨e, e1⟩ => ?_
    subst e; subst e1
    have := fin (.slice none 0 0) (Ch.refl [] _)
    rw [decide_eq_false hw] at this
    exact this
theorem mi_step (hL : L.length ≤ 2 ^ 20) (hn : ∀ s ∈ L, nameOk s) {w i : Nat} (hi : i < 20) {M : Store} {st : RSt} {O : List Nat} (hu : Up M0 M) (hf : FSR M0 M bf r room U last fl) (h : RdrR M0 M br mvF st O) (hst : st.L = L)
    (hK : ∀ M' O', Up M0 M' → FSR M0 M' bf r room U last fl → RdrR M0 M' br mvF (stepS fl madeP st).1 O' → P_fettlelaw15_SourMisses_4 (pB bf) (nv w) (pB br) (nv (stepS fl madeP st).2) (nv (i + 1)) M' Q) : P_fettlelaw15_SourMisses_4 (pB bf) (nv w) (pB br) (nv 0) (nv i) M Q := by
  apply T_fettlelaw15_SourMisses_4
  unfold S_fettlelaw15_SourMisses_4
  rw [lss_l 20 20 rfl, BR_dec, if_pos (by omega), eql_l 0 0 rfl, BR_dec, if_pos rfl]
  refine (Step_ok hu hf h (by rw [hst]; omega) (made_ok _) (by rw [hst]; exact hn)).mono fun v M' ⟨e, hu', hf', c, O', h', hO⟩ => ?_
  subst e
  rw [add1_n _ (by omega)]
  exact hK M' O' hu' hf' h'
theorem mi_stop (hQ : ∀ M, Q (tv true) M) (hL : L.length ≤ 2 ^ 20) (hn : ∀ s ∈ L, nameOk s) {w i : Nat} (hw : w ≠ 0) {M : Store} {st : RSt} {O : List Nat} (hu : Up M0 M) (hf : FSR M0 M bf r room U last fl) (h : RdrR M0 M br mvF st O) (he : Ends L st w) : P_fettlelaw15_SourMisses_4 (pB bf) (nv w) (pB br) (nv w) (nv i) M Q := by
  apply T_fettlelaw15_SourMisses_4
  unfold S_fettlelaw15_SourMisses_4
  rw [lss_l 20 20 rfl, BR_dec]
  split
  · rw [eql_l 0 0 rfl, BR_dec, if_neg hw]
    exact mi_end hQ hL hn hu hf h he
  · exact mi_end hQ hL hn hu hf h he
theorem mi_looks (hQ : ∀ M, Q (tv true) M) (hL : L.length ≤ 8) (hn : ∀ s ∈ L, nameOk s) : ∀ (k j i : Nat) (M : Store) (st : RSt) (O : List Nat), k + j = L.length → 0 < k → i ≤ L.length + j → Up M0 M → FSR M0 M bf r room U last fl → RdrR M0 M br mvF st O → AtL fl madeP L st j → P_fettlelaw15_SourMisses_4 (pB bf) (nv 1) (pB br) (nv 0) (nv i) M Q := by
  intro k
  induction k with
  | zero => intro j i M st O hk hp; omega
  | succ k ih =>
    intro j i M st O hk hp hi hu hf h hst
    refine mi_step (L := L) (by omega) hn (by omega) hu hf h hst.hL fun M' O' hu' hf' h' => ?_
    rcases hst.step (show j < L.length by omega) with ⟨g1, g2, g3⟩ | ⟨g1, g2, g3⟩
    · rw [g2]
      exact ih (j + 1) (i + 1) M' _ O' (by omega) (by omega) (by omega) hu' hf' h' g3
    · rw [g2]
      exact mi_stop hQ (by omega) hn (by decide) hu' hf' h' g3
theorem mi_reads (hQ : ∀ M, Q (tv true) M) (hL : L.length ≤ 8) (hn : ∀ s ∈ L, nameOk s) : ∀ (k j : Nat) (M : Store) (st : RSt) (O : List Nat), k + j = L.length → 0 < k → Up M0 M → FSR M0 M bf r room U last fl → RdrR M0 M br mvF st O → AtR fl madeP L st j → P_fettlelaw15_SourMisses_4 (pB bf) (nv (fb (L.map (outR fl madeP)))) (pB br) (nv 0) (nv j) M Q := by
  intro k
  induction k with
  | zero => intro j M st O hk hp; omega
  | succ k ih =>
    intro j M st O hk hp hu hf h hst
    have hj : j < L.length := by omega
    refine mi_step (L := L) (by omega) hn (by omega) hu hf h hst.hL fun M' O' hu' hf' h' => ?_
    rcases hst.step hj with ⟨g1, g2, ⟨g3, g4⟩ | ⟨g3, g4⟩⟩ | ⟨g1, g2, g3, g4⟩
    · rw [g1]
      exact ih (j + 1) M' _ O' (by omega) (by omega) hu' hf' h' g4
    · rw [g1]
      have e : fb (L.map (outR fl madeP)) = 1 := fb_all _ fun a ha => by
        obtain ⟨s, hs, rfl⟩ := List.mem_map.1 ha
        exact g4.ok s hs
      rw [e]
      exact mi_looks hQ hL hn L.length 0 (j + 1) M' _ O' (by omega) (by omega) (by omega) hu' hf' h' g4
    · have e : fb (L.map (outR fl madeP)) = outR fl madeP L[j] := by
        have : L = L.take j ++ L[j] :: L.drop (j + 1) := by rw [← List.drop_eq_getElem_cons hj, List.take_append_drop]
        rw [show L.map (outR fl madeP) = (L.take j).map (outR fl madeP) ++ outR fl madeP L[j] :: (L.drop (j + 1)).map (outR fl madeP) by
          rw [← List.map_cons, ← List.map_append, ← this]]
        refine fb_first _ _ _ (fun a ha => ?_) g1
        obtain ⟨s, hs, rfl⟩ := List.mem_map.1 ha
        exact hst.ok s hs
      rw [e, g2]
      exact mi_stop hQ (by omega) hn g3 hu' hf' h' g4
end
/-- What a file of a kind comes to. -/
theorem out_put {fl : Fl} {s b : List UInt8} {z : Nat} : outR (putF fl s b z) madeP s = match valS madeP s b with
    | none => 3
    | some v => if 256 < v.length then 3 else 1 := by
  unfold outR putF; rw [if_pos rfl]
theorem out_other {fl : Fl} {s t b : List UInt8} {z : Nat} (h : t ≠ s) : outR (putF fl s b z) madeP t = outR fl madeP t := by
  unfold outR putF; rw [if_neg h]
theorem wb1 : wb 1 = 49 := by decide
theorem op_w1 : openF (makeF [112] [49]) = some ([112], [49]) := by kernel_rfl
theorem op_no : openF [110, 111, 32, 97, 114, 116, 105, 102, 97, 99, 116] = none := by kernel_rfl
theorem op_z : openF (List.replicate 300 0) = none := by kernel_rfl
theorem out_w {fl : Fl} {s : List UInt8} {z : Nat} : outR (putF fl s (wrC s 1) z) madeP s = 1 := by
  rw [out_put]
  unfold valS wrC
  rw [wb1]
  cases hm : madeP s with
  | true => rw [if_pos rfl, if_pos rfl, op_w1]; rfl
  | false => rw [if_neg (by decide), if_neg (by decide)]; rfl
theorem out_no {fl : Fl} {s : List UInt8} {z : Nat} : outR (putF fl s [110, 111, 32, 97, 114, 116, 105, 102, 97, 99, 116] z) madeP s = if madeP s = true then 3 else 1 := by
  rw [out_put]
  unfold valS
  cases hm : madeP s with
  | true => rw [if_pos rfl, op_no]; rfl
  | false => rw [if_neg (by decide)]; rfl
theorem out_z {fl : Fl} {s : List UInt8} {z : Nat} : outR (putF fl s (List.replicate 300 0) z) madeP s = 3 := by
  rw [out_put]
  unfold valS
  cases hm : madeP s with
  | true => rw [if_pos rfl, op_z]; rfl
  | false => rw [if_neg (by decide)]; simp
end Go.G
