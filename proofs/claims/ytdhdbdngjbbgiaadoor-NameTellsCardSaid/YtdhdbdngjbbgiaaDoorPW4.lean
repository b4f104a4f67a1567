/- Layer 4, the program and the document's own answer: names, decimals, temps. -/
import Derived.Test.YtdhdbdngjbbgiaaDoorPGE
import Derived.Test.YtdhdbdngjbbgiaaDoorPGF
import Derived.Test.YtdhdbdngjbbgiaaDoorPS5
import Derived.Test.YtdhdbdngjbbgiaaDoorPQ4
import Derived.Test.YtdhdbdngjbbgiaaDoorPXS
namespace Go.G
open Go.Ab Go.Proofs Go.RowKit
set_option linter.unusedVariables false
set_option linter.unusedSimpArgs false
set_option maxRecDepth 100000

/-- The tables lie where they lay. -/
structure Tb (M : Store) : Prop where
  pow : isPow (M.get 2) = true
  e0 : isErr (M.get 0) = true
  e1 : isErr (M.get 1) = true
theorem isPow_lt {M : Store} {i : Nat} (h : isPow (M.get i) = true) : i < M.n := by
  cases hg : M.get i with
  | none => rw [hg] at h; cases h
  | some x => exact M.lt_of_get hg
theorem isErr_lt {M : Store} {i : Nat} (h : isErr (M.get i) = true) : i < M.n := by
  cases hg : M.get i with
  | none => rw [hg] at h; cases h
  | some x => exact M.lt_of_get hg
theorem Tb.up {M M' : Store} (h : Tb M) (k : Up M M') : Tb M' :=
  ⟨by rw [Ch.get k 2 (isPow_lt h.pow) (by simp)]; exact h.pow, by rw [Ch.get k 0 (isErr_lt h.e0) (by simp)]; exact h.e0, by rw [Ch.get k 1 (isErr_lt h.e1) (by simp)]; exact h.e1⟩

/-! ## letters -/
theorem let3 (c : UInt8) (T F : Prop) : (OP (binI .eql (bv c) (.int .u8 46)) fun t17 => BR t17 (BR t17 T F) (OP (binI .eql (bv c) (.int .u8 45)) fun t19 => BR t19 (BR t19 T F) (OP (binI .eql (bv c) (.int .u8 95)) fun t21 => BR t21 T F))) =
    if (c == 46 || (c == 45 || c == 95)) = true then T else F := by
  rw [bv_eqI (d := 46) (n := 46) rfl, BR_dec, BR_dec]
  by_cases h1 : c = 46
  · rw [if_pos h1, if_pos h1, if_pos (by simp [h1])]
  · rw [if_neg h1, bv_eqI (d := 45) (n := 45) rfl, BR_dec, BR_dec]
    by_cases h2 : c = 45
    · rw [if_pos h2, if_pos h2, if_pos (by simp [h2])]
    · rw [if_neg h2, bv_eqI (d := 95) (n := 95) rfl, BR_dec]
      by_cases h3 : c = 95 <;> simp [h1, h2, h3]
theorem let2 (c d e : UInt8) (n m : Int) (hd : (d.toNat : Int) = n) (he : (e.toNat : Int) = m) (T F X : Prop) : (OP (binI .geq (bv c) (.int .u8 n)) fun t11 => BR t11 (OP (binI .leq (bv c) (.int .u8 m)) fun t14 => BR t14 (BR t14 T F) X) X) =
    if (decide (d ≤ c) && decide (c ≤ e)) = true then T else X := by
  rw [bv_geI hd, BR_dec]
  by_cases h1 : d ≤ c
  · rw [if_pos h1, bv_leI he, BR_dec, BR_dec]
    by_cases h2 : c ≤ e <;> simp [h1, h2]
  · rw [if_neg h1]; simp [h1]
theorem let_if (c : UInt8) (T F : Prop) : (if (decide (97 ≤ c) && decide (c ≤ 122)) = true then T else if (decide (48 ≤ c) && decide (c ≤ 57)) = true then T else if (c == 46 || (c == 45 || c == 95)) = true then T else F) = if letB c = true then T else F := by
  unfold letB
  cases (decide (97 ≤ c) && decide (c ≤ 122)) <;> cases (decide (48 ≤ c) && decide (c ≤ 57)) <;> cases (c == 46 || (c == 45 || c == 95)) <;> rfl
theorem letter_ok {M : Store} {c : UInt8} {Q : Value → Store → Prop} (hQ : Q (tv (letB c)) M) : R F.name_letter #[bv c] M Q := by
  apply T_name_letter
  unfold S_name_letter
  rw [let3, let2 c 48 57 48 57 rfl rfl, let2 c 97 122 97 122 rfl rfl, let_if]
  split
  · rename_i h; rw [h] at hQ; exact ⟨rfl, hQ⟩
  · rename_i h
    have h : letB c = false := by simpa using h
    rw [h] at hQ; exact ⟨rfl, hQ⟩
theorem rlet3 (c : UInt8) (G F : Prop) : (OP (binI .eql (bv c) (.int .u8 46)) fun t30 => BR t30 (OP (aun .not (.bool true)) fun t40 => BR t40 F G) (OP (binI .eql (bv c) (.int .u8 45)) fun t34 => BR t34 (OP (aun .not (.bool true)) fun t40 => BR t40 F G)
      (OP (binI .eql (bv c) (.int .u8 95)) fun t38 => OP (aun .not t38) fun t40 => BR t40 F G))) = if (c == 46 || (c == 45 || c == 95)) = true then G else F := by
  have hT : (OP (aun .not (.bool true)) fun t40 => BR t40 F G) = G := rfl
  rw [hT, bv_eqI (d := 46) (n := 46) rfl, BR_dec]
  by_cases h1 : c = 46
  · rw [if_pos h1, if_pos (by simp [h1])]
  · rw [if_neg h1, bv_eqI (d := 45) (n := 45) rfl, BR_dec]
    by_cases h2 : c = 45
    · rw [if_pos h2, if_pos (by simp [h2])]
    · rw [if_neg h2, bv_eqI (d := 95) (n := 95) rfl, e_not, BR_bool]
      by_cases h3 : c = 95 <;> simp [h1, h2, h3]
theorem rlet2 (c : UInt8) (G F X : Prop) (J : Value → Prop) : (OP (binI .geq (bv c) (.int .u8 48)) fun t22 => BR3 t22 (OP (binI .leq (bv c) (.int .u8 57)) fun t25 => BR t25 (OP (aun .not (.bool true)) fun t40 => BR t40 F G) X) X (J t22)) =
    if (decide (48 ≤ c) && decide (c ≤ 57)) = true then G else X := by
  have hT : (OP (aun .not (.bool true)) fun t40 => BR t40 F G) = G := rfl
  rw [hT, bv_geI (d := 48) (n := 48) rfl, BR3_dec]
  by_cases h1 : 48 ≤ c
  · rw [if_pos h1, bv_leI (d := 57) (n := 57) rfl, BR_dec]
    by_cases h2 : c ≤ 57 <;> simp [h1, h2]
  · rw [if_neg h1]; simp [h1]
theorem rlet1 (c : UInt8) (G F X : Prop) : (OP (binI .geq (bv c) (.int .u8 97)) fun t15 => BR t15 (OP (binI .leq (bv c) (.int .u8 122)) fun t18 => BR t18 (OP (aun .not (.bool true)) fun t40 => BR t40 F G) X) X) =
    if (decide (97 ≤ c) && decide (c ≤ 122)) = true then G else X := by
  have hT : (OP (aun .not (.bool true)) fun t40 => BR t40 F G) = G := rfl
  rw [hT, bv_geI (d := 97) (n := 97) rfl, BR_dec]
  by_cases h1 : 97 ≤ c
  · rw [if_pos h1, bv_leI (d := 122) (n := 122) rfl, BR_dec]
    by_cases h2 : c ≤ 122 <;> simp [h1, h2]
  · rw [if_neg h1]; simp [h1]

/-! ## names -/
theorem okF_bad {s : List UInt8} {i : Nat} (h : i < s.length) (hb : letB s[i] = false) : okF s = false := by
  unfold okF
  have : s.all letB = false := by rw [List.all_eq_false]; exact ⟨s[i], List.getElem_mem h, by rw [hb]; decide⟩
  rw [this, Bool.false_and]
theorem okF_len {s : List UInt8} (h : ∀ j (hj : j < s.length), letB s[j] = true) : okF s = (decide (1 ≤ s.length) && decide (s.length ≤ 16)) := by
  unfold okF
  have : s.all letB = true := List.all_eq_true.2 fun c hc => by
    obtain ⟨j, hj, rfl⟩ := List.getElem_of_mem hc
    exact h j hj
  rw [this, Bool.true_and]
theorem ok_end {s : List UInt8} {M : Store} {Q : Value → Store → Prop} (h : ∀ j (hj : j < s.length), letB s[j] = true) (hQ : Q (tv (okF s)) M) :
    OP (lenS (sv s)) fun t16 => OP (binI .geq t16 (.int .i64 1)) fun t17 => BR t17 (OP (lenS (sv s)) fun t20 => OP (binI .leq t20 (.int .i64 16)) fun t21 => NTs [t21] ∧ Q t21 M) (NTs [(.bool false)] ∧ Q (.bool false) M) := by
  rw [okF_len h] at hQ
  rw [sv_len, geq_l 1 1 rfl, BR_dec]
  split
  · rename_i h1
    rw [sv_len, leq_l 16 16 rfl]
    rw [decide_eq_true h1, Bool.true_and] at hQ
    exact ⟨rfl, hQ⟩
  · rename_i h1
    rw [decide_eq_false h1, Bool.false_and] at hQ
    exact ⟨rfl, hQ⟩
theorem Ok_loop {s : List UInt8} {M : Store} {Q : Value → Store → Prop} (hs : s.length ≤ 2 ^ 40) (hQ : Q (tv (okF s)) M) : ∀ (d i : Nat), d + i = s.length → (∀ j (hj : j < i) (hl : j < s.length), letB s[j] = true) → P_name_Ok_1 (sv s) (iv (s.length : Int)) (iv (i : Int)) M Q := by
  intro d
  induction d with
  | zero =>
    intro i hi h
    apply T_name_Ok_1
    unfold S_name_Ok_1
    rw [lss_n, BR_dec, if_neg (by omega)]
    apply T_name_Ok_2
    unfold S_name_Ok_2
    exact ok_end (fun j hj => h j (by omega) hj) hQ
  | succ d ih =>
    intro i hi h
    apply T_name_Ok_1
    unfold S_name_Ok_1
    rw [lss_n, BR_dec, if_pos (by omega), bv_at s i (by omega)]
    refine letter_ok ?_
    rw [e_not, BR_bool]
    split
    · rename_i hb
      rw [okF_bad (i := i) (by omega) (by simpa using hb)] at hQ
      exact ⟨rfl, hQ⟩
    · rename_i hb
      rw [add1_n _ (by omega)]
      refine ih (i + 1) (by omega) fun j hj hl => ?_
      by_cases e : j = i
      · subst e; simpa using hb
      · exact h j (by omega) hl
theorem Ok_ok {s : List UInt8} {M : Store} {Q : Value → Store → Prop} (hs : s.length ≤ 2 ^ 40) (hQ : Q (tv (okF s)) M) : R F.name_Ok #[sv s] M Q := by
  apply T_name_Ok
  unfold S_name_Ok
  rw [sv_len]
  exact Ok_loop hs hQ s.length 0 rfl fun j hj => by omega
theorem rOk_loop {s : List UInt8} {M : Store} {Q : Value → Store → Prop} (hs : s.length ≤ 2 ^ 40) (hQ : Q (tv (okF s)) M) : ∀ (d i : Nat), d + i = s.length → (∀ j (hj : j < i) (hl : j < s.length), letB s[j] = true) → P_fettleref4_Ok_1 (sv s) (iv (i : Int)) M Q := by
  intro d
  induction d with
  | zero =>
    intro i hi h
    apply T_fettleref4_Ok_1
    unfold S_fettleref4_Ok_1
    rw [sv_len, lss_n, BR_dec, if_neg (by omega)]
    apply T_fettleref4_Ok_3
    unfold S_fettleref4_Ok_3
    exact ok_end (fun j hj => h j (by omega) hj) hQ
  | succ d ih =>
    intro i hi h
    apply T_fettleref4_Ok_1
    unfold S_fettleref4_Ok_1
    rw [sv_len, lss_n, BR_dec, if_pos (by omega)]
    apply T_fettleref4_Ok_2
    unfold S_fettleref4_Ok_2
    rw [bv_at s i (by omega)]
    rw [rlet3, rlet2, rlet1, let_if]
    split
    · rename_i hb
      rw [add1_n _ (by omega)]
      refine ih (i + 1) (by omega) fun j hj hl => ?_
      by_cases e : j = i
      · subst e; exact hb
      · exact h j (by omega) hl
    · rename_i hb
      rw [okF_bad (i := i) (by omega) (by simpa using hb)] at hQ
      exact ⟨rfl, hQ⟩
theorem rOk_ok {s : List UInt8} {M : Store} {Q : Value → Store → Prop} (hs : s.length ≤ 2 ^ 40) (hQ : Q (tv (okF s)) M) : R F.fettleref4_Ok #[sv s] M Q := by
  apply T_fettleref4_Ok
  unfold S_fettleref4_Ok
  exact rOk_loop hs hQ s.length 0 rfl fun j hj => by omega

/-! ## files -/
theorem SlIndex1_ok {M : Store} {l : List UInt8} {c : UInt8} {Q : Value → Store → Prop} (hQ : Q (iv (Lib.indexByte l c)) M) : R F.internal_stringslite_Index #[sv l, sv [c]] M Q := by
  apply T_internal_stringslite_Index
  unfold S_internal_stringslite_Index
  rw [sv_len, show (([c].length : Nat) : Int) = 1 from rfl, e_eql, BR_dec, if_neg (by decide), sv_eq, BR_dec]
  split
  · rename_i h
    subst h
    have : Lib.indexByte [c] c = 0 := by simp [Lib.indexByte]
    rw [this] at hQ
    exact ⟨rfl, hQ⟩
  · rw [e_eql, BR_dec, if_pos rfl, bv_at0]
    exact IxB_ok ⟨rfl, hQ⟩
theorem fileF_no {s : List UInt8} (h : ∀ c ∈ s, c ≠ 47) : fileF s = okF s := by
  have : s.dropWhile notSl = [] := by
    have aux : ∀ t : List UInt8, (∀ c ∈ t, c ≠ 47) → t.dropWhile notSl = [] := by
      intro t
      induction t with
      | nil => intro _; rfl
      | cons a t ih => intro ht; rw [List.dropWhile_cons, if_pos (by simpa [notSl] using ht a (by simp)), ih fun c hc => ht c (by simp [hc])]
    exact aux s h
  unfold fileF; rw [this]
theorem fileF_two {x r : List UInt8} (h : ∀ c ∈ x, c ≠ 47) : fileF (x ++ 47 :: r) = (okF x && okF r) := by
  have aux : ∀ t : List UInt8, (∀ c ∈ t, c ≠ 47) → (t ++ 47 :: r).dropWhile notSl = 47 :: r ∧ (t ++ 47 :: r).takeWhile notSl = t := by
    intro t
    induction t with
    | nil => intro _; exact ⟨rfl, rfl⟩
    | cons a t ih =>
      intro ht
      obtain ⟨h1, h2⟩ := ih fun c hc => ht c (by simp [hc])
      have ha : notSl a = true := by simpa [notSl] using ht a (by simp)
      constructor
      · rw [List.cons_append, List.dropWhile_cons, if_pos ha, h1]
      · rw [List.cons_append, List.takeWhile_cons, if_pos ha, h2]
  obtain ⟨h1, h2⟩ := aux x h
  unfold fileF; rw [h1, h2]
theorem File_ok {s : List UInt8} {M : Store} {Q : Value → Store → Prop} (hs : s.length ≤ 2 ^ 40) (hQ : Q (tv (fileF s)) M) : R F.name_File #[sv s] M Q := by
  apply T_name_File
  unfold S_name_File
  apply T_strings_Cut
  unfold S_strings_Cut
  apply T_internal_stringslite_Cut
  unfold S_internal_stringslite_Cut
  refine SlIndex1_ok (c := 47) ?_
  rcases piece_or 47 s with hno | ⟨x, r, rfl, hx⟩
  · rw [ixb_none hno, e_geq, BR_dec, if_neg (by decide)]
    refine ⟨rfl, ?_⟩
    simp only [tp3]
    refine ⟨rfl, ?_⟩
    rw [fileF_no hno] at hQ
    refine Ok_ok hs ?_
    rw [BR_bool]
    split
    · rename_i h; rw [h] at hQ; exact ⟨rfl, hQ⟩
    · rename_i h
      have h : okF s = false := by simpa using h
      rw [h] at hQ; exact ⟨rfl, hQ⟩
  · rw [ixb_at x r 47 hx, e_geq, BR_dec, if_pos (by omega)]
    rw [List.length_append, List.length_cons] at hs
    rw [sv_to (by simp), List.take_left, sv_len, show (([47] : List UInt8).length : Int) = ((1 : Nat) : Int) from rfl, add_n _ _ (by omega), sv_from (by simp)]
    have hd : (x ++ 47 :: r).drop (x.length + 1) = r := by rw [← List.drop_drop, List.drop_left]; rfl
    rw [hd]
    refine ⟨rfl, ?_⟩
    simp only [tp3]
    refine ⟨rfl, ?_⟩
    rw [fileF_two hx] at hQ
    refine Ok_ok (by omega) ?_
    rw [BR_bool]
    split
    · rename_i h
      rw [h, Bool.true_and] at hQ
      rw [e_not]
      show BR3 (.bool false) _ _ _
      rw [BR3_f]
      exact Ok_ok (by omega) ⟨rfl, hQ⟩
    · rename_i h
      have h : okF x = false := by simpa using h
      rw [h, Bool.false_and] at hQ; exact ⟨rfl, hQ⟩
theorem rFile_loop {s : List UInt8} {M : Store} {Q : Value → Store → Prop} (hs : s.length ≤ 2 ^ 40) (hQ : Q (tv (fileF s)) M) : ∀ (d i : Nat), d + i = s.length → (∀ j (hj : j < i) (hl : j < s.length), s[j] ≠ 47) → P_fettleref4_File_1 (sv s) (iv (i : Int)) M Q := by
  intro d
  induction d with
  | zero =>
    intro i hi h
    apply T_fettleref4_File_1
    unfold S_fettleref4_File_1
    rw [sv_len, lss_n, BR_dec, if_neg (by omega)]
    apply T_fettleref4_File_3
    unfold S_fettleref4_File_3
    rw [fileF_no fun c hc => by
      obtain ⟨j, hj, rfl⟩ := List.getElem_of_mem hc
      exact h j (by omega) hj] at hQ
    exact rOk_ok hs ⟨rfl, hQ⟩
  | succ d ih =>
    intro i hi h
    apply T_fettleref4_File_1
    unfold S_fettleref4_File_1
    have hil : i < s.length := by omega
    rw [sv_len, lss_n, BR_dec, if_pos hil]
    apply T_fettleref4_File_2
    unfold S_fettleref4_File_2
    rw [bv_at s i hil, bv_eqI (d := 47) (n := 47) rfl, BR_dec]
    split
    · rename_i h47
      have hsp : s = s.take i ++ 47 :: s.drop (i + 1) := by
        rw [← h47, ← List.drop_eq_getElem_cons hil, List.take_append_drop]
      have hx : ∀ c ∈ s.take i, c ≠ 47 := fun c hc => by
        obtain ⟨j, hj, rfl⟩ := List.getElem_of_mem hc
        rw [List.length_take] at hj
        rw [List.getElem_take]
        exact h j (by omega) (by omega)
      rw [hsp, fileF_two hx] at hQ
      rw [sv_to (by omega)]
      refine rOk_ok (by rw [List.length_take]; omega) ?_
      rw [BR_bool]
      split
      · rename_i h1
        rw [h1, Bool.true_and] at hQ
        rw [add1_n _ (by omega), sv_from (by omega)]
        exact rOk_ok (by rw [List.length_drop]; omega) ⟨rfl, hQ⟩
      · rename_i h1
        have h1 : okF (s.take i) = false := by simpa using h1
        rw [h1, Bool.false_and] at hQ; exact ⟨rfl, hQ⟩
    · rename_i h47
      rw [add1_n _ (by omega)]
      refine ih (i + 1) (by omega) fun j hj hl => ?_
      by_cases e : j = i
      · subst e; exact h47
      · exact h j (by omega) hl
theorem rFile_ok {s : List UInt8} {M : Store} {Q : Value → Store → Prop} (hs : s.length ≤ 2 ^ 40) (hQ : Q (tv (fileF s)) M) : R F.fettleref4_File #[sv s] M Q := by
  apply T_fettleref4_File
  unfold S_fettleref4_File
  exact rFile_loop hs hQ s.length 0 rfl fun j hj => by omega

/-! ## decimals -/
theorem Itoa_ok {M : Store} (hT : Tb M) {n : Nat} (hn : n < 2 ^ 62) {Q : Value → Store → Prop} (hQ : Q (sv (Lib.decDigits n)) M) : R F.strconv_Itoa #[iv (n : Int)] M Q := by
  refine R_told (g := itoaB) (v := sv (Lib.decDigits n)) (M' := M) (by kernel_rfl) ?_ hQ
  have hd : dec (n : Int) = Lib.decDigits n := by
    rw [dec_eq (by omega) (by omega)]
    unfold Lib.itoa
    rw [if_neg (by omega)]; rfl
  show (bif decide (0 ≤ (n : Int)) && decide ((n : Int) < 100) then some (Value.string ⟨(dec (n : Int)).toArray⟩, M)
    else bif decide (-9223372036854775808 ≤ (n : Int)) && decide ((n : Int) ≤ 9223372036854775807) && isPow (M.get 2) then some (.string ⟨(dec (n : Int)).toArray⟩, M) else none) = _
  rw [hd, hT.pow, decide_eq_true (show -9223372036854775808 ≤ (n : Int) by omega), decide_eq_true (show (n : Int) ≤ 9223372036854775807 by omega)]
  cases decide (0 ≤ (n : Int)) && decide ((n : Int) < 100) <;> rfl
theorem clamp_n (n : Int) (top : Nat) : (if (top : Int) < (if (0 : Int) > n then (0 : Int) else n) then (top : Int) else (if (0 : Int) > n then (0 : Int) else n)) = ((clampN n top : Nat) : Int) := by
  unfold clampN; omega
theorem held_ok {M : Store} (hT : Tb M) (n : Int) (top : Nat) (ht : top ≤ 2 ^ 30) {Q : Value → Store → Prop} (hQ : Q (sv (Lib.decDigits (clampN n top))) M) : R F.name_Temp_c1 #[iv n, iv (top : Int)] M Q := by
  apply T_name_Temp_c1
  unfold S_name_Temp_c1
  rw [e_max, e_min, clamp_n]
  have := clampN_le n top
  exact Itoa_ok hT (by omega) ⟨rfl, hQ⟩
theorem dd_len10 {n : Nat} (h : n ≤ 99999) : (Lib.decDigits n).length ≤ 5 := dd_len 4 n (by omega)
theorem Temp_ok {M : Store} (hT : Tb M) (a b c : Int) {Q : Value → Store → Prop} (hQ : Q (sv (tempF a b c)) M) : R F.name_Temp #[iv a, iv b, iv c] M Q := by
  apply T_name_Temp
  unfold S_name_Temp
  have h1 := clampN_le a 999
  have h2 := clampN_le b 99999
  have h3 := clampN_le c 99999
  have l1 := dd_len10 (show clampN a 999 ≤ 99999 by omega)
  have l2 := dd_len10 h2
  have l3 := dd_len10 h3
  refine held_ok hT a 999 (by decide) ?_
  show OP (binS .add (sv [116, 109, 112, 47]) (sv _)) _
  rw [sv_add _ _ (by simp; omega)]
  show OP (binS .add (sv _) (sv [46])) _
  rw [sv_add _ _ (by simp; omega)]
  refine held_ok hT b 99999 (by decide) ?_
  rw [sv_add _ _ (by simp; omega)]
  show OP (binS .add (sv _) (sv [46])) _
  rw [sv_add _ _ (by simp; omega)]
  refine held_ok hT c 99999 (by decide) ?_
  rw [sv_add _ _ (by simp; omega)]
  have e : ([116, 109, 112, 47] ++ Lib.decDigits (clampN a 999) ++ [46] ++ Lib.decDigits (clampN b 99999) ++ [46] ++ Lib.decDigits (clampN c 99999)) = tempF a b c := by
    unfold tempF dec3 tmpS; simp
  rw [e]
  exact ⟨rfl, hQ⟩

/-- Dec of the document. -/
theorem Dec_loop {M0 : Store} {Q : Value → Store → Prop} (full : List UInt8) (hfl : full.length ≤ 100) (hQ : ∀ M, Up M0 M → Q (sv full) M) : ∀ (n : Nat) (x : List UInt8) (M : Store), n < 2 ^ 62 → Up M0 M → (if n = 0 ∧ x ≠ [] then x else Lib.decDigits n ++ x) = full → P_fettleref4_Dec_1 (iv (n : Int)) (sv x) M Q := by
  intro n
  induction n using Nat.strongRecOn with
  | _ n ih =>
    intro x M hn hu hx
    have two : (n = 0 → x = []) → P_fettleref4_Dec_2 (iv (n : Int)) (sv x) M Q := by
      intro h0
      have hx : Lib.decDigits n ++ x = full := by
        rw [← hx, if_neg]
        rintro ⟨h1, h2⟩; exact h2 (h0 h1)
      apply T_fettleref4_Dec_2
      unfold S_fettleref4_Dec_2
      have er : binI .rem (iv (n : Int)) (.int .i64 10) = some (iv ((n % 10 : Nat) : Int)) := e_rem n 10 (by decide)
      rw [er, OP_some]
      show OP (binI .add (iv ((48 : Nat) : Int)) (iv ((n % 10 : Nat) : Int))) _
      rw [add_n _ _ (by omega)]
      have ec : ∀ K : Value → Prop, OP (cvI .u8 (iv ((48 + n % 10 : Nat) : Int))) K = K (bv (UInt8.ofNat (48 + n % 10))) := fun K => by
        show OP (cvI .u8 (.int .i64 _)) K = _
        rw [e_cvI, wrap_u8]; rfl
      rw [ec, bl_bv]
      refine s_lit (s := 1) rfl fun M1 u1 hl o1 n1 => ?_
      have hby : B M1 (.slice (some ⟨M.n, 0, none⟩) 1 1) [UInt8.ofNat (48 + n % 10)] := hl.sl
      rw [cvBS_ok hby, OP_some]
      have hxl : x.length ≤ 100 := by rw [← hx, List.length_append] at hfl; omega
      show OP (binS .add (sv [UInt8.ofNat (48 + n % 10)]) (sv x)) _
      rw [sv_add _ _ (by simp; omega)]
      have eq : binI .quo (iv (n : Int)) (.int .i64 10) = some (iv ((n / 10 : Nat) : Int)) := by
        have h : binI .quo (.int .i64 (n : Int)) (.int .i64 10) = if (10 : Int) = 0 then none else some (.int .i64 (IntKind.wrap .i64 ((n : Int).tdiv 10))) := rfl
        show binI .quo (.int .i64 (n : Int)) (.int .i64 10) = _
        rw [h, if_neg (by decide), Int.tdiv_eq_ediv_of_nonneg (by omega), w64 (by omega) (by omega)]; rfl
      rw [eq, OP_some]
      by_cases hs : n < 10
      · rw [dd_small hs] at hx
        have e1 : n / 10 = 0 := by omega
        have e2 : n % 10 = n := by omega
        rw [e1, e2]
        have hne : [UInt8.ofNat (48 + n)] ++ x ≠ [] := by simp
        apply T_fettleref4_Dec_1
        unfold S_fettleref4_Dec_1
        show OP (binI .gtr (iv ((0 : Nat) : Int)) (.int .i64 0)) _
        rw [gtr_l 0 0 rfl, BR_dec, if_neg (by omega)]
        show OP (binS .eql (sv _) (sv [])) _
        rw [sv_eq, BR_dec, if_neg hne]
        apply T_fettleref4_Dec_3
        unfold S_fettleref4_Dec_3
        rw [hx]
        exact ⟨rfl, hQ _ (hu.trans u1)⟩
      · refine ih (n / 10) (by omega) _ M1 (by omega) (hu.trans u1) ?_
        rw [if_neg (by omega), ← hx, dd_big hs, List.append_assoc]
    apply T_fettleref4_Dec_1
    unfold S_fettleref4_Dec_1
    rw [gtr_l 0 0 rfl, BR_dec]
    split
    · rename_i h; exact two fun h0 => by omega
    · rename_i h
      show OP (binS .eql (sv _) (sv [])) _
      rw [sv_eq, BR_dec]
      split
      · rename_i h2; exact two fun _ => h2
      · rename_i h2
        apply T_fettleref4_Dec_3
        unfold S_fettleref4_Dec_3
        rw [if_pos ⟨by omega, h2⟩] at hx
        rw [hx]
        exact ⟨rfl, hQ _ hu⟩
theorem Dec_ok {M : Store} {n : Nat} (hn : n < 2 ^ 62) (hl : (Lib.decDigits n).length ≤ 100) : R F.fettleref4_Dec #[iv (n : Int)] M fun v M' => Up M M' ∧ v = sv (Lib.decDigits n) := by
  refine R.cps fun Q hQ => ?_
  apply T_fettleref4_Dec
  unfold S_fettleref4_Dec
  exact Dec_loop (M0 := M) (Lib.decDigits n) hl (fun M' hu => hQ _ _ ⟨hu, rfl⟩) n [] M hn (Ch.refl _ _) (by simp)
theorem rTemp_ok {M : Store} (a b c : Int) : R F.fettleref4_Temp #[iv a, iv b, iv c] M fun v M' => Up M M' ∧ v = sv (tempF a b c) := by
  refine R.cps fun Q hQ => ?_
  apply T_fettleref4_Temp
  unfold S_fettleref4_Temp
  have h1 := clampN_le a 999
  have h2 := clampN_le b 99999
  have h3 := clampN_le c 99999
  have l1 := dd_len10 (show clampN a 999 ≤ 99999 by omega)
  have l2 := dd_len10 h2
  have l3 := dd_len10 h3
  rw [e_max, e_min]
  show R F.fettleref4_Dec #[iv (if ((999 : Nat) : Int) < _ then ((999 : Nat) : Int) else _)] M _
  rw [clamp_n]
  refine (Dec_ok (by omega) (by omega)).mono fun t M1 ⟨u1, ht⟩ => ?_
  subst ht
  show OP (binS .add (sv [116, 109, 112, 47]) (sv _)) _
  rw [sv_add _ _ (by simp; omega)]
  show OP (binS .add (sv _) (sv [46])) _
  rw [sv_add _ _ (by simp; omega), e_max, e_min]
  show R F.fettleref4_Dec #[iv (if ((99999 : Nat) : Int) < _ then ((99999 : Nat) : Int) else _)] M1 _
  rw [clamp_n]
  refine (Dec_ok (by omega) (by omega)).mono fun t M2 ⟨u2, ht⟩ => ?_
  subst ht
  rw [sv_add _ _ (by simp; omega)]
  show OP (binS .add (sv _) (sv [46])) _
  rw [sv_add _ _ (by simp; omega), e_max, e_min]
  show R F.fettleref4_Dec #[iv (if ((99999 : Nat) : Int) < _ then ((99999 : Nat) : Int) else _)] M2 _
  rw [clamp_n]
  refine (Dec_ok (by omega) (by omega)).mono fun t M3 ⟨u3, ht⟩ => ?_
  subst ht
  rw [sv_add _ _ (by simp; omega)]
  have e : ([116, 109, 112, 47] ++ Lib.decDigits (clampN a 999) ++ [46] ++ Lib.decDigits (clampN b 99999) ++ [46] ++ Lib.decDigits (clampN c 99999)) = tempF a b c := by
    unfold tempF dec3 tmpS; simp
  rw [e]
  exact ⟨rfl, hQ _ _ ⟨(u1.trans u2).trans u3, rfl⟩⟩
end Go.G
