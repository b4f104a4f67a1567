/- Layer 5, the document's own answer: the words of bytes. -/
import Derived.Test.YtdhdbdngjbbgiaaDoorPGC
import Derived.Test.YtdhdbdngjbbgiaaDoorPW5b
namespace Go.G
open Go.Ab Go.Proofs Go.RowKit
set_option linter.unusedVariables false
set_option linter.unusedSimpArgs false
set_option maxRecDepth 100000

theorem rsign_ok {M : Store} {c : UInt8} {Q : Value → Store → Prop} (hQ : Q (tv (signB c)) M) : R F.fettleref4_sign #[bv c] M Q := by
  apply T_fettleref4_sign
  unfold S_fettleref4_sign
  rw [bv_eqI (d := 58) (n := 58) rfl, BR_dec]
  split
  · rename_i h; subst h; exact ⟨rfl, hQ⟩
  · rename_i h1
    rw [bv_eqI (d := 124) (n := 124) rfl, BR_dec]
    split
    · rename_i h; subst h; exact ⟨rfl, hQ⟩
    · rename_i h2
      rw [bv_eqI (d := 61) (n := 61) rfl, BR_dec]
      split
      · rename_i h; subst h; exact ⟨rfl, hQ⟩
      · rename_i h3
        rw [bv_eqI (d := 59) (n := 59) rfl, BR_dec]
        split
        · rename_i h; subst h; exact ⟨rfl, hQ⟩
        · rename_i h4
          rw [bv_eqI (d := 44) (n := 44) rfl]
          have e : signB c = decide (c = 44) := by
            unfold signB
            have e1 : (c == 58) = false := by simpa using h1
            have e2 : (c == 124) = false := by simpa using h2
            have e3 : (c == 61) = false := by simpa using h3
            have e4 : (c == 59) = false := by simpa using h4
            rw [e1, e2, e3, e4]; rfl
          rw [e] at hQ
          exact ⟨rfl, hQ⟩
theorem rfault_ok {M : Store} {k l c : Nat} {Q : Value → Store → Prop} (hQ : ∀ M', Up M M' → Q (fv (k, l, c)) M') : R F.fettleref4_fault #[iv (k : Int), iv (l : Int), iv (c : Int)] M Q := by
  apply T_fettleref4_fault
  unfold S_fettleref4_fault
  refine s_new fun M1 u1 o1 n1 => ?_
  rw [bS_f]
  exact one_res (v2 := fcs (k, l, c)) u1 o1 (Nat.le_refl _) rfl rfl (fcs_one _) fun M' hu' _ _ => hQ M' hu'

/-! ## what is quoted -/
/-- What a quoted word comes to: the word, its end, what is wrong, where. -/
def quoF (line col i : Nat) (t : List UInt8) : Value → Prop := fun r => match tokC line col 34 t with
  | .inl f => ∃ (w : Wd) (p : Nat), r = .tuple #[wv w, iv 0, iv (f.1 : Int), iv (p : Int)] ∧ p + col = f.2.2 + i ∧ f.2.1 = line ∧ i ≤ p
  | .inr (w, n) => r = .tuple #[wv w, iv ((i + n : Nat) : Int), iv 0, iv 0]

section
variable {M0 M : Store} {v : Value} {b t : List UInt8} {i line col b5 b6 : Nat}
def badI (i : Nat) : Option Nat → Int
  | none => -1
  | some q => ((i + 1 + q : Nat) : Int)
theorem firstBad_snoc (x : List UInt8) (c : UInt8) : firstBad (x ++ [c]) = match firstBad x with
    | some q => some q
    | none => if plainB c then none else some x.length := by
  unfold firstBad
  rw [List.findIdx?_append]
  cases List.findIdx? (fun d => !plainB d) x with
  | some q => rfl
  | none =>
    cases h : plainB c <;> simp [h]
theorem res_six (hu : Up M0 M) {w w6 : Wd} (o5 : Ob M b5 (wcs w) Ty.api_Word) (o6 : Ob M b6 (wcs w6) Ty.api_Word) (hb6 : M0.n ≤ b6) {x y z : Int} {Q : Value → Store → Prop} (hQ : ∀ M', Up M0 M' → Q (.tuple #[wv w, iv x, iv y, iv z]) M') :
    OP (ld 4 true (.pointer (some ⟨b5, 0, none⟩)) M) fun t62 => OP (st 4 (.pointer (some ⟨b6, 0, none⟩)) t62 M) fun M1 => OP (ld 4 true (.pointer (some ⟨b6, 0, none⟩)) M1) fun r6 => NTs [r6, iv x, iv y, iv z] ∧ Q (.tuple #[r6, iv x, iv y, iv z]) M1 := by
  rw [ldW o5, OP_some]
  refine s_st (vs := wcs w) o6 rfl rfl (wcs_one _) fun M1 c1 o61 n1 => ?_
  rw [ldW o61, OP_some]
  exact ⟨rfl, hQ M1 (hu.ch c1 (by simpa using hb6))⟩
theorem quoted_end (h : B M v b) (hl : b.length ≤ 2 ^ 27) (hi : i < b.length) (ht : b.drop (i + 1) = t) {j : Nat} (hj : i + 1 + j ≤ b.length) (htw : t.takeWhile inQ = t.take j) (hu : Up M0 M) (hb5 : M0.n ≤ b5) (hb6 : M0.n ≤ b6) (hne : b5 ≠ b6)
    (o5 : Ob M b5 (wcs ([], line, col, false)) Ty.api_Word) (o6 : Ob M b6 (wcs wv0) Ty.api_Word) {Q : Value → Store → Prop} (hQ : ∀ r M', Up M0 M' → quoF line col i t r → Q r M') :
    P_fettleref4_quoted_3 v (iv (i : Int)) (.pointer (some ⟨b5, 0, none⟩)) (.pointer (some ⟨b6, 0, none⟩)) (iv ((i + 1 + j : Nat) : Int)) (iv (badI i (firstBad (t.take j)))) M Q := by
  apply T_fettleref4_quoted_3
  unfold S_fettleref4_quoted_3
  have htl : t.length = b.length - (i + 1) := by rw [← ht, List.length_drop]
  have hdw : t.dropWhile inQ = t.drop j := by
    have h1 := List.takeWhile_append_dropWhile (p := inQ) (l := t)
    have h2 := List.take_append_drop j t
    rw [htw] at h1
    exact List.append_cancel_left (h1.trans h2.symm)
  have hxl : (t.take j).length = j := by rw [List.length_take]; omega
  have quote : ∀ M' : Store, (t.drop j).head? ≠ some 34 → quoF line col i t (.tuple #[wv ([], line, col, false), iv 0, iv 2, iv (i : Int)]) := by
    intro M' hq
    unfold quoF
    have : tokC line col 34 t = .inl (2, line, col) := by
      unfold tokC
      rw [if_pos rfl, hdw, if_neg hq]
    rw [this]
    exact ⟨_, i, rfl, by simp only; omega, rfl, Nat.le_refl _⟩
  rw [by_len h, eql_n, BR_dec]
  split
  · rename_i he
    refine res_six hu o5 o6 hb6 fun M' hu' => hQ _ _ hu' (quote M' ?_)
    rw [List.drop_of_length_le (by omega)]; simp
  · rename_i he
    have hlt : i + 1 + j < b.length := by omega
    have hjt : j < t.length := by omega
    have hel : b[i + 1 + j] = t[j] := by
      have h1 : (b.drop (i + 1))[j]? = t[j]? := by rw [ht]
      rw [List.getElem?_drop, List.getElem?_eq_getElem hlt, List.getElem?_eq_getElem hjt] at h1
      exact Option.some.inj h1
    rw [by_ld h hlt, hel, bv_eqI (d := 10) (n := 10) rfl, BR_dec]
    have hd := List.drop_eq_getElem_cons hjt
    split
    · rename_i h10
      refine res_six hu o5 o6 hb6 fun M' hu' => hQ _ _ hu' (quote M' ?_)
      rw [hd, h10]; simp
    · rename_i h10
      have h34 : t[j] = 34 := by
        have h1 := List.takeWhile_append_dropWhile (p := inQ) (l := t)
        have h2 : inQ t[j] = false := by
          cases hq : inQ t[j] with
          | false => rfl
          | true =>
            have : (t.dropWhile inQ) = t[j] :: t.drop (j + 1) := by rw [hdw, hd]
            have h3 := List.dropWhile_cons (p := inQ) (x := t[j]) (xs := t.drop (j + 1))
            rw [← this] at h3
            exfalso
            have h4 : ∀ (l : List UInt8) (c : UInt8) (r : List UInt8), l.dropWhile inQ = c :: r → inQ c = false := by
              intro l
              induction l with
              | nil => intro c r h; cases h
              | cons a l ih =>
                intro c r h
                rw [List.dropWhile_cons] at h
                cases ha : inQ a with
                | true => rw [ha] at h; exact ih c r h
                | false => rw [ha] at h; injection h with h _; rw [← h]; exact ha
            rw [h4 t _ _ this] at hq; cases hq
        unfold inQ at h2
        simp only [Bool.and_eq_false_iff, bne_eq_false_iff_eq] at h2
        rcases h2 with h2 | h2
        · exact h2
        · exact absurd h2 h10
      have hhd : (t.dropWhile inQ).head? = some 34 := by rw [hdw, hd, h34]; rfl
      rw [add1_n _ (by omega), by_str h (by omega) (by omega)]
      have hmid : (b.take (i + 1 + j)).drop (i + 1) = t.take j := by rw [List.drop_take, ht, Nat.add_sub_cancel_left]
      rw [hmid, fad0]
      refine s_st1 (i := 0) o5 (by simp [wcs]) (cells_sv _) (oc_sv _) fun M3 c3 o53 n3 => ?_
      have o53 : Ob M3 b5 (wcs (t.take j, line, col, false)) Ty.api_Word := o53
      rw [fad0]
      refine s_st1 (i := 3) o53 (by simp [wcs]) (cells_tv _) (oc_tv _) fun M4 c4 o54 n4 => ?_
      have o54 : Ob M4 b5 (wcs (t.take j, line, col, true)) Ty.api_Word := o54
      have o64 := (o6.fr c3 (by simpa using Ne.symm hne)).fr c4 (by simpa using Ne.symm hne)
      have hu4 : Up M0 M4 := (hu.ch c3 (by simpa using hb5)).ch c4 (by simpa using hb5)
      rw [fad0, Ob.ld (o := 0) (v := sv (t.take j)) o54 rfl, OP_some, sv_len, hxl, gtr_l 64 64 rfl, BR_dec]
      split
      · rename_i hlong
        refine res_six hu4 o54 o64 hb6 fun M' hu' => hQ _ _ hu' ?_
        unfold quoF
        have : tokC line col 34 t = .inl (3, line, col) := by
          unfold tokC
          rw [if_pos rfl, if_pos hhd, htw, hxl, if_pos hlong]
        rw [this]
        exact ⟨_, i, rfl, by simp only; omega, rfl, Nat.le_refl _⟩
      · rename_i hlong
        cases hfb : firstBad (t.take j) with
        | some q =>
          rw [show (iv (badI i (some q))) = iv ((i + 1 + q : Nat) : Int) from rfl, geq_l 0 0 rfl, BR_dec, if_pos (by omega)]
          refine res_six hu4 o54 o64 hb6 fun M' hu' => hQ _ _ hu' ?_
          unfold quoF
          have : tokC line col 34 t = .inl (1, line, col + 1 + q) := by
            unfold tokC
            rw [if_pos rfl, if_pos hhd, htw, hxl, if_neg hlong, hfb]
          rw [this]
          exact ⟨_, i + 1 + q, rfl, by simp only; omega, rfl, by omega⟩
        | none =>
          show OP (binI .geq (.int .i64 (-1)) (.int .i64 0)) _
          rw [e_geq, BR_dec, if_neg (by decide)]
          rw [ldW o54, OP_some, add1_n _ (by omega)]
          refine s_st (vs := wcs (t.take j, line, col, true)) o64 rfl rfl (wcs_one _) fun M7 c7 o67 n7 => ?_
          rw [ldW o67, OP_some]
          refine ⟨rfl, hQ _ _ (hu4.ch c7 (by simpa using hb6)) ?_⟩
          unfold quoF
          have : tokC line col 34 t = .inr ((t.take j, line, col, true), j + 2) := by
            unfold tokC
            rw [if_pos rfl, if_pos hhd, htw, hxl, if_neg hlong, hfb]
          rw [this]
          show Value.tuple #[_, iv ((i + 1 + j + 1 : Nat) : Int), _, _] = .tuple #[_, iv ((i + (j + 2) : Nat) : Int), _, _]
          rw [show i + 1 + j + 1 = i + (j + 2) by omega]
theorem quoted_loop (h : B M v b) (hl : b.length ≤ 2 ^ 27) (hi : i < b.length) (ht : b.drop (i + 1) = t) (hu : Up M0 M) (hb5 : M0.n ≤ b5) (hb6 : M0.n ≤ b6) (hne : b5 ≠ b6)
    (o5 : Ob M b5 (wcs ([], line, col, false)) Ty.api_Word) (o6 : Ob M b6 (wcs wv0) Ty.api_Word) {Q : Value → Store → Prop} (hQ : ∀ r M', Up M0 M' → quoF line col i t r → Q r M') :
    ∀ (d j : Nat), i + 1 + j + d = b.length → (∀ k (hk : k < j) (h : k < t.length), inQ t[k] = true) →
    P_fettleref4_quoted_1 v (iv (i : Int)) (.pointer (some ⟨b5, 0, none⟩)) (.pointer (some ⟨b6, 0, none⟩)) (iv ((i + 1 + j : Nat) : Int)) (iv (badI i (firstBad (t.take j)))) M Q := by
  have htl : t.length = b.length - (i + 1) := by rw [← ht, List.length_drop]
  intro d
  induction d with
  | zero =>
    intro j hj hp
    apply T_fettleref4_quoted_1
    unfold S_fettleref4_quoted_1
    rw [by_len h, lss_n, BR_dec, if_neg (by omega)]
    exact quoted_end h hl hi ht (by omega) (tw_split t j hp (by omega) (.inl (by omega))) hu hb5 hb6 hne o5 o6 hQ
  | succ d ih =>
    intro j hj hp
    have hlt : i + 1 + j < b.length := by omega
    have hjt : j < t.length := by omega
    have hel : b[i + 1 + j] = t[j] := by
      have h1 : (b.drop (i + 1))[j]? = t[j]? := by rw [ht]
      rw [List.getElem?_drop, List.getElem?_eq_getElem hlt, List.getElem?_eq_getElem hjt] at h1
      exact Option.some.inj h1
    apply T_fettleref4_quoted_1
    unfold S_fettleref4_quoted_1
    rw [by_len h, lss_n, BR_dec, if_pos hlt, by_ld h hlt, hel, bv_neI (d := 34) (n := 34) rfl, BR_dec]
    split
    · rename_i h34
      rw [by_ld h hlt, hel, bv_neI (d := 10) (n := 10) rfl, BR_dec]
      split
      · rename_i h10
        have hin : inQ t[j] = true := by simp only [inQ, Bool.and_eq_true, bne_iff_ne]; exact ⟨h34, h10⟩
        have hnext := ih (j + 1) (by omega) fun k hk hk2 => by
          by_cases e : k = j
          · subst e; exact hin
          · exact hp k (by omega) hk2
        rw [List.take_succ_eq_append_getElem hjt, firstBad_snoc, show i + 1 + (j + 1) = i + 1 + j + 1 by omega, show (t.take j).length = j by rw [List.length_take]; omega] at hnext
        apply T_fettleref4_quoted_2
        unfold S_fettleref4_quoted_2
        cases hfb : firstBad (t.take j) with
        | some q =>
          rw [hfb] at hnext
          rw [show (iv (badI i (some q))) = iv ((i + 1 + q : Nat) : Int) from rfl, lss_l 0 0 rfl, BR_dec, if_neg (by omega), add1_n _ (by omega)]
          exact hnext
        | none =>
          rw [hfb] at hnext
          simp only at hnext
          show OP (binI .lss (.int .i64 (-1)) (.int .i64 0)) _
          rw [e_lss, BR_dec, if_pos (by decide), by_ld h hlt, hel, bv_ltI (d := 32) (n := 32) rfl, BR3_dec]
          split
          · rename_i hlo
            have : plainB t[j] = false := by
              unfold plainB
              rw [decide_eq_false (by rw [UInt8.le_iff_toNat_le]; rw [UInt8.lt_iff_toNat_lt] at hlo; omega), Bool.false_and]
            rw [this, if_neg (by decide)] at hnext
            rw [add1_n _ (by omega)]
            exact hnext
          · rename_i hlo
            rw [by_ld h hlt, hel, bv_gtI (d := 126) (n := 126) rfl, BR_dec]
            split
            · rename_i hhi
              have : plainB t[j] = false := by
                unfold plainB
                rw [decide_eq_false (p := t[j] ≤ 126) (by rw [UInt8.le_iff_toNat_le]; rw [UInt8.lt_iff_toNat_lt] at hhi; omega), Bool.and_false]
              rw [this, if_neg (by decide)] at hnext
              rw [add1_n _ (by omega)]
              exact hnext
            · rename_i hhi
              have : plainB t[j] = true := by
                unfold plainB
                rw [decide_eq_true (by rw [UInt8.le_iff_toNat_le]; rw [UInt8.lt_iff_toNat_lt] at hlo; omega), decide_eq_true (by rw [UInt8.le_iff_toNat_le]; rw [UInt8.lt_iff_toNat_lt] at hhi; omega)]; rfl
              rw [this, if_pos rfl] at hnext
              rw [add1_n _ (by omega)]
              exact hnext
      · rename_i h10
        have h10 : t[j] = 10 := by simpa using h10
        exact quoted_end h hl hi ht (by omega) (tw_split t j hp (by omega) (.inr ⟨hjt, by rw [h10]; rfl⟩)) hu hb5 hb6 hne o5 o6 hQ
    · rename_i h34
      have h34 : t[j] = 34 := by simpa using h34
      exact quoted_end h hl hi ht (by omega) (tw_split t j hp (by omega) (.inr ⟨hjt, by rw [h34]; rfl⟩)) hu hb5 hb6 hne o5 o6 hQ
theorem quoted_ok (h : B M v b) (hl : b.length ≤ 2 ^ 27) (hi : i < b.length) (ht : b.drop (i + 1) = t) : R F.fettleref4_quoted #[v, iv (i : Int), wv ([], line, col, false)] M fun r M' => Up M M' ∧ quoF line col i t r := by
  refine R.cps fun Q hQ => ?_
  apply T_fettleref4_quoted
  unfold S_fettleref4_quoted
  have eb : boxv (wv ([], line, col, false)) = some (wcs ([], line, col, false)) := by kernel_rfl
  rw [eb, OP_some]
  refine s_new fun M1 u1 o1 n1 => ?_
  refine s_new fun M2 u2 o2 n2 => ?_
  rw [add1_n _ (by omega)]
  exact quoted_loop (M0 := M) (Sl.up h (u1.trans u2)) hl hi ht (u1.trans u2) (Nat.le_refl _) (by omega) (by omega) (o1.up u2) o2 (fun r M' hu hr => hQ _ _ ⟨hu, hr⟩) (b.length - (i + 1)) 0 (by omega) fun k hk => by omega
end
end Go.G
