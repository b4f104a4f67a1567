/- Layer 5: LineLong. -/
import Derived.Test.YtdhdbdngjbbgiaaDoorPL5
namespace Go.G
open Go.Ab Go.Proofs Go.RowKit
set_option linter.unusedVariables false
set_option linter.unusedSimpArgs false
set_option maxRecDepth 100000

/-! ## plainly -/
def rep (n : Nat) (c : UInt8) : List UInt8 := List.replicate n c
def longS (n : Nat) (q : Bool) : List UInt8 := if q then 34 :: (rep n 97 ++ [34]) else rep n 97
theorem words_blanks : ∀ (m k line col : Nat) (row : List Wd) (r : List UInt8), wordsN (k + m) line col row (rep m 32 ++ r) = wordsN k line (col + m) row r
  | 0, k, line, col, row, r => rfl
  | m + 1, k, line, col, row, r => by
    show wordsN (k + m + 1) line col row (32 :: (rep m 32 ++ r)) = _
    rw [wordsN, if_pos (by rfl), words_blanks m, show col + 1 + m = col + (m + 1) by omega]
theorem rep_all (n : Nat) (c : UInt8) : ∀ d ∈ rep n c, d = c := fun d hd => by
  have := List.eq_of_mem_replicate hd; exact this
theorem rep_tw {p : UInt8 → Bool} (n : Nat) {c x : UInt8} (hc : p c = true) (hx : p x = false) (r : List UInt8) : (rep n c ++ x :: r).takeWhile p = rep n c := by
  rw [takeWhile_stop hx]
  exact takeWhile_all _ fun d hd => by rw [rep_all n c d hd]; exact hc
theorem long_tok (n : Nat) (q : Bool) (col : Nat) (r : List UInt8) : ∃ c t, longS (n + 1) q ++ 32 :: r = c :: t ∧ blankB c = false ∧ c ≠ 35 ∧ (∀ d ∈ longS (n + 1) q, d ≠ 10) ∧
    tokC 2 col c t = (if 64 < n + 1 then .inl (3, 2, col) else .inr ((rep (n + 1) 97, 2, col, q), (longS (n + 1) q).length)) := by
  cases q with
  | true =>
    refine ⟨34, rep (n + 1) 97 ++ 34 :: (32 :: r), by simp [longS], by rfl, by decide, ?_, ?_⟩
    · intro d hd
      simp only [longS, if_true, List.mem_cons, List.mem_append, List.not_mem_nil, or_false] at hd
      rcases hd with rfl | hd | rfl
      · decide
      · rw [rep_all _ _ d hd]; decide
      · decide
    · have h1 : (rep (n + 1) 97 ++ 34 :: (32 :: r)).takeWhile inQ = rep (n + 1) 97 := rep_tw _ (by rfl) (by rfl) _
      have h2 : (rep (n + 1) 97 ++ 34 :: (32 :: r)).dropWhile inQ = 34 :: (32 :: r) := by
        rw [dropWhile_stop (by rfl), dropWhile_all _ fun d hd => by rw [rep_all _ _ d hd]; rfl]; rfl
      have h3 : firstBad (rep (n + 1) 97) = none := by
        unfold firstBad
        rw [List.findIdx?_eq_none_iff]
        intro d hd
        rw [rep_all _ _ d hd]; rfl
      have h4 : (rep (n + 1) 97).length = n + 1 := by simp [rep]
      have h5 : (longS (n + 1) true).length = (rep (n + 1) 97).length + 2 := by simp [longS]
      unfold tokC
      rw [if_pos rfl, h2, if_pos (show (34 :: (32 :: r)).head? = some 34 from rfl), h1, h3, h5, h4]
  | false =>
    refine ⟨97, rep n 97 ++ 32 :: r, by simp [longS, rep, List.replicate_succ], by rfl, by decide, ?_, ?_⟩
    · intro d hd
      rw [rep_all _ _ d (by simpa [longS] using hd)]; decide
    · have h1 : (97 :: (rep n 97 ++ 32 :: r)).takeWhile looseB = rep (n + 1) 97 := by
        have := rep_tw (p := looseB) (n + 1) (c := 97) (x := 32) (by rfl) (by rfl) r
        rw [← this]; simp [rep, List.replicate_succ]
      have h4 : (rep (n + 1) 97).length = n + 1 := by simp [rep]
      unfold tokC
      rw [if_neg (by decide), if_neg (by decide), if_neg (by decide), h1, h4]
      have h5 : (longS (n + 1) false).length = n + 1 := by simp [longS, rep]
      rw [h5]
/-- A long word behind some blanks. -/
theorem long_split (n ahead : Nat) (q : Bool) : splitF ((([120, 10] ++ rep ahead 32) ++ longS (n + 1) q) ++ [32, 98]) =
    if 64 < n + 1 then .inl (3, 2, ahead + 1) else .inr [[([120], 1, 1, false)], [(rep (n + 1) 97, 2, ahead + 1, q), ([98], 2, ahead + 1 + (longS (n + 1) q).length + 1, false)]] := by
  obtain ⟨c, t, e1, e2, e3, e4, e5⟩ := long_tok n q (1 + ahead) [98]
  have hb : (([120, 10] ++ rep ahead 32) ++ longS (n + 1) q) ++ [32, 98] = [120] ++ 10 :: (rep ahead 32 ++ (c :: t)) := by
    rw [← e1]; simp
  have hnl : ∀ d ∈ rep ahead 32 ++ (c :: t), d ≠ 10 := by
    intro d hd
    rw [← e1] at hd
    simp only [List.mem_append, List.mem_cons, List.not_mem_nil, or_false] at hd
    rcases hd with hd | hd | rfl | rfl
    · rw [rep_all _ _ d hd]; decide
    · exact e4 d hd
    · decide
    · decide
  rw [hb, splitF_rows, linesF_stop _ _ (by decide), linesF_last _ hnl]
  have hlen : (rep ahead 32 ++ (c :: t)).length + 1 = (t.length + 2) + ahead := by simp [rep]; omega
  have h1 : wordsN (([120] : List UInt8).length + 1) 1 1 [] [120] = .inr [([120], 1, 1, false)] := by decide
  rw [rowsF, h1]
  simp only
  rw [rowsF, hlen, words_blanks, wordsN, e2, if_neg (by decide), if_neg e3, e5]
  by_cases hl : 64 < n + 1
  · rw [if_pos hl, if_pos hl]
    simp only [smap_inl]
    rw [show 1 + ahead = ahead + 1 by omega]
  · rw [if_neg hl, if_neg hl]
    simp only
    have hdrop : (c :: t).drop (longS (n + 1) q).length = [32, 98] := by rw [← e1, List.drop_left]
    have hl1 : 1 ≤ (longS (n + 1) q).length := by cases q <;> simp [longS, rep]
    have htl : 2 ≤ t.length := by
      have := congrArg List.length e1
      simp at this; omega
    rw [hdrop, List.nil_append]
    rw [wordsN_more (t.length + 1) (2 + 1) _ _ _ [32, 98] (by simp; omega) (by simp)]
    have h2 : ∀ (col : Nat) (row : List Wd), wordsN (2 + 1) 2 col row [32, 98] = .inr (row ++ [([98], 2, col + 1, false)]) := by
      intro col row
      rw [wordsN, if_pos (by rfl), wordsN, if_neg (by decide), if_neg (by decide)]
      have : tokC 2 (col + 1) 98 [] = .inr (([98], 2, col + 1, false), 1) := by rfl
      rw [this]; rfl
    rw [h2]
    simp only [rowsF, smap_inr, pushR]
    rw [show 1 + ahead = ahead + 1 by omega]
    rfl

/-! ## the walk -/
theorem rep_snoc (n : Nat) (c : UInt8) : rep n c ++ [c] = rep (n + 1) c := by simp [rep, List.replicate_succ']
section
variable {Q : Value → Store → Prop}
theorem long_end (n ahead : Nat) (q : Bool) (hn : n + 1 ≤ 128) (ha : ahead ≤ 7) (hQ : ∀ M, Q (tv true) M) (M : Store) :
    P_fettlelaw5_LineLong_5 (iv ((n + 1 : Nat) : Int)) (tv q) (iv (ahead : Int)) (sv (longS (n + 1) q)) (sv ([120, 10] ++ rep ahead 32)) M Q := by
  apply T_fettlelaw5_LineLong_5
  unfold S_fettlelaw5_LineLong_5
  have hll : (longS (n + 1) q).length ≤ n + 3 := by cases q <;> simp [longS, rep]
  have hrl : (rep ahead 32).length = ahead := by simp [rep]
  rw [sv_add _ _ (by simp; omega)]
  show OP (binS .add (sv _) (sv [32, 98])) _
  rw [sv_add _ _ (by simp; omega)]
  refine cvSB_ok (by simp; omega) fun v M1 u1 hN => ?_
  refine (Split_ok hN.by (by simp; omega)).mono fun r M2 ⟨u2, hr⟩ => ?_
  obtain ⟨w, rfl, hw⟩ := hr.of
  rw [tp2_0, OP_some, tp2_1, OP_some]
  refine s_new fun M3 u3 o3 n3 => ?_
  rw [long_split] at hw ⊢
  by_cases hl : 64 < n + 1
  · rw [if_pos hl] at hw ⊢
    refine s_st (vs := fcs (3, 2, ahead + 1)) o3 rfl rfl (fcs_one _) fun M4 c4 o4 n4 => ?_
    rw [gtr_l 64 64 rfl, BR_dec, if_pos hl]
    rw [ldF o4, OP_some, add1_n _ (by omega)]
    show OP (bldS _ _ [(0, iv ((3 : Nat) : Int)), (1, iv ((2 : Nat) : Int)), (2, iv ((ahead + 1 : Nat) : Int))]) _
    rw [bS_f]
    show OP (abin Tryd.prog false .eql Ty.api_Fault (fv (3, 2, ahead + 1)) (fv (3, 2, ahead + 1))) _
    rw [ft_eq, decide_eq_true rfl, BR_true, hw.lenV, OP_some]
    show OP (binI .eql (iv ((0 : Nat) : Int)) (.int .i64 0)) _
    rw [eql_l 0 0 rfl, decide_eq_true rfl, BR_true]
    exact awake5_ok ⟨rfl, hQ _⟩
  · rw [if_neg hl] at hw ⊢
    refine s_st (vs := fcs fv0) o3 rfl rfl (fcs_one _) fun M4 c4 o4 n4 => ?_
    rw [gtr_l 64 64 rfl, BR_dec, if_neg hl]
    rw [ldF o4, OP_some, bS_f0]
    show OP (abin Tryd.prog false .eql Ty.api_Fault (fv fv0) (fv fv0)) _
    rw [ft_eq, decide_eq_true rfl, BR_true]
    have hw4 : RW M4 w [[([120], 1, 1, false)], [(rep (n + 1) 97, 2, ahead + 1, q), ([98], 2, ahead + 1 + (longS (n + 1) q).length + 1, false)]] := hw.up WS.up' (u3.ch c4 (by simp))
    rw [hw4.lenV, OP_some]
    show OP (binI .eql (iv ((2 : Nat) : Int)) (.int .i64 2)) _
    rw [eql_l 2 2 rfl, decide_eq_true rfl, BR_true]
    refine ls_ld (i := 1) hw4 (by simp) fun u hu => ?_
    have hu : WS M4 u [(rep (n + 1) 97, 2, ahead + 1, q), ([98], 2, ahead + 1 + (longS (n + 1) q).length + 1, false)] := hu
    rw [hu.len, OP_some]
    show OP (binI .eql (iv ((2 : Nat) : Int)) (.int .i64 2)) _
    rw [eql_l 2 2 rfl, decide_eq_true rfl, BR_true]
    have hrep : (rep (n + 1) 97).length = n + 1 := by simp [rep]
    refine ls_ld (i := 1) hw4 (by simp) fun u1 hu1 => ?_
    have hu1 : WS M4 u1 [(rep (n + 1) 97, 2, ahead + 1, q), ([98], 2, ahead + 1 + (longS (n + 1) q).length + 1, false)] := hu1
    rw [show (Value.int .i64 0) = iv ((0 : Nat) : Int) from rfl, ws_fld hu1 (i := 0) (by simp) (f := 0) (w := sv (rep (n + 1) 97)) rfl, sv_len, hrep, eql_n, decide_eq_true rfl, BR_true]
    refine ls_ld (i := 1) hw4 (by simp) fun u2 hu2 => ?_
    have hu2 : WS M4 u2 [(rep (n + 1) 97, 2, ahead + 1, q), ([98], 2, ahead + 1 + (longS (n + 1) q).length + 1, false)] := hu2
    rw [ws_fld hu2 (i := 0) (by simp) (f := 3) (w := tv q) rfl, bool_eq]
    have hqq : (q == q) = true := by simp
    rw [hqq, BR_true]
    refine ls_ld (i := 1) hw4 (by simp) fun u3 hu3 => ?_
    have hu3 : WS M4 u3 [(rep (n + 1) 97, 2, ahead + 1, q), ([98], 2, ahead + 1 + (longS (n + 1) q).length + 1, false)] := hu3
    rw [ws_fld hu3 (i := 0) (by simp) (f := 2) (w := iv ((ahead + 1 : Nat) : Int)) rfl, add1_n _ (by omega), eql_n, decide_eq_true rfl, BR_true]
    exact awake5_ok ⟨rfl, hQ _⟩
theorem long_spaces (n ahead : Nat) (q : Bool) (hn : n + 1 ≤ 128) (ha : ahead ≤ 7) (hQ : ∀ M, Q (tv true) M) (M : Store) : ∀ (d i : Nat), d + i = ahead →
    P_fettlelaw5_LineLong_4 (iv ((n + 1 : Nat) : Int)) (tv q) (iv (ahead : Int)) (sv (longS (n + 1) q)) (sv ([120, 10] ++ rep i 32)) (iv (i : Int)) M Q
  | 0, i, hi => by
    apply T_fettlelaw5_LineLong_4
    unfold S_fettlelaw5_LineLong_4
    rw [lss_n, BR_dec, if_neg (by omega)]
    obtain rfl : i = ahead := by omega
    exact long_end n i q hn ha hQ M
  | d + 1, i, hi => by
    apply T_fettlelaw5_LineLong_4
    unfold S_fettlelaw5_LineLong_4
    rw [lss_n, BR_dec, if_pos (by omega)]
    show OP (binS .add (sv _) (sv [32])) _
    rw [sv_add _ _ (by simp [rep]; omega), List.append_assoc, rep_snoc, add1_n _ (by omega)]
    exact long_spaces n ahead q hn ha hQ M d (i + 1) (by omega)
theorem long_as (n ahead : Nat) (q : Bool) (hn : n + 1 ≤ 128) (ha : ahead ≤ 7) (hQ : ∀ M, Q (tv true) M) (M : Store) : ∀ (d i : Nat), d + i = n + 1 →
    P_fettlelaw5_LineLong_1 (iv ((n + 1 : Nat) : Int)) (tv q) (iv (ahead : Int)) (sv (rep i 97)) (iv (i : Int)) M Q
  | 0, i, hi => by
    apply T_fettlelaw5_LineLong_1
    unfold S_fettlelaw5_LineLong_1
    rw [lss_n, BR_dec, if_neg (by omega)]
    obtain rfl : i = n + 1 := by omega
    apply T_fettlelaw5_LineLong_2
    unfold S_fettlelaw5_LineLong_2
    have hr : (rep (n + 1) 97).length = n + 1 := by simp [rep]
    have fin : P_fettlelaw5_LineLong_3 (iv ((n + 1 : Nat) : Int)) (tv q) (iv (ahead : Int)) (sv (longS (n + 1) q)) M Q := by
      apply T_fettlelaw5_LineLong_3
      unfold S_fettlelaw5_LineLong_3
      exact long_spaces n ahead q hn ha hQ M ahead 0 rfl
    cases q with
    | true =>
      rw [BR_true]
      show OP (binS .add (sv [34]) (sv _)) _
      rw [sv_add _ _ (by simp; omega)]
      show OP (binS .add (sv _) (sv [34])) _
      rw [sv_add _ _ (by simp; omega)]
      exact fin
    | false =>
      rw [BR_false]
      exact fin
  | d + 1, i, hi => by
    apply T_fettlelaw5_LineLong_1
    unfold S_fettlelaw5_LineLong_1
    rw [lss_n, BR_dec, if_pos (by omega)]
    show OP (binS .add (sv _) (sv [97])) _
    rw [sv_add _ _ (by simp [rep]; omega), rep_snoc, add1_n _ (by omega)]
    exact long_as n ahead q hn ha hQ M d (i + 1) (by omega)
end
theorem LineLong_ok {M : Store} {n ahead : Int} {q : Bool} : R F.fettlelaw5_LineLong #[iv n, tv q, iv ahead] M fun v M' => v = tv true := by
  refine R.cps fun Q hQ => ?_
  apply T_fettlelaw5_LineLong
  unfold S_fettlelaw5_LineLong
  have e1 := e_andN n 127 (by decide)
  have e2 := e_andN ahead 7 (by decide)
  have l1 := andN_le n 127 (by decide)
  have l2 := andN_le ahead 7 (by decide)
  show OP (binI .and (.int .i64 n) (.int .i64 ((127 : Nat) : Int))) _
  rw [e1, OP_some, add1_n _ (by omega)]
  show OP (binI .and (.int .i64 ahead) (.int .i64 ((7 : Nat) : Int))) _
  rw [e2, OP_some]
  exact long_as _ _ q (by omega) l2 (fun M => hQ _ M rfl) M (andN n 127 + 1) 0 (by omega)
end Go.G
