/- Names told: by the program and by the document. -/
import Derived.Test.YtnonfejhkbaikaaDoorPGE
import Derived.Test.YtnonfejhkbaikaaDoorPN1
import Derived.Test.YtnonfejhkbaikaaDoorPQ4
namespace Go.G
open Go.Ab Go.Proofs Go.RowKit
set_option linter.unusedVariables false
set_option linter.unusedSimpArgs false
set_option maxRecDepth 100000

theorem let3 (c : UInt8) (T F : Prop) : (OP (binI .eql (bv c) (.int .u8 46)) fun t17 => BR t17 (BR t17 T F) (OP (binI .eql (bv c) (.int .u8 45)) fun t19 => BR t19 (BR t19 T F) (OP (binI .eql (bv c) (.int .u8 95)) fun t21 => BR t21 T F))) =
    if (c == 46 || (c == 45 || c == 95)) = true then T else F := by
  rw [bv_eqI (d := 46) (n := 46) rfl, BR_dec, BR_dec]
  by_cases h1 : c = 46
  · rw [if_pos h1, if_pos h1, if_pos (by simp [h1])]
  · rw [if_neg h1, bv_eqI (d := 45) (n := 45) rfl, BR_dec, BR_dec]
    by_cases h2 : c = 45
    · rw [if_pos h2, if_pos h2, if_pos (by simp [h2])]
    · rw [if_neg h2, bv_eqI (d := 95) (n := 95) rfl, BR_dec]
      by_cases h3 : c = 95 <;> simp [h1, h2, h3]
theorem let2 (c d e : UInt8) (n m : Int) (hd : (d.toNat : Int) = n) (he : (e.toNat : Int) = m) (T F X : Prop) : (OP (binI .geq (bv c) (.int .u8 n)) fun t11 => BR t11 (OP (binI .leq (bv c) (.int .u8 m)) fun t14 => BR t14 (BR t14 T F) X) X) =
    if (decide (d ≤ c) && decide (c ≤ e)) = true then T else X := by
  rw [bv_geI hd, BR_dec]
  by_cases h1 : d ≤ c
  · rw [if_pos h1, bv_leI he, BR_dec, BR_dec]
    by_cases h2 : c ≤ e <;> simp [h1, h2]
  · rw [if_neg h1]; simp [h1]
theorem let_if (c : UInt8) (T F : Prop) : (if (decide (97 ≤ c) && decide (c ≤ 122)) = true then T else if (decide (48 ≤ c) && decide (c ≤ 57)) = true then T else if (c == 46 || (c == 45 || c == 95)) = true then T else F) = if letB c = true then T else F := by
  unfold letB
  cases (decide (97 ≤ c) && decide (c ≤ 122)) <;> cases (decide (48 ≤ c) && decide (c ≤ 57)) <;> cases (c == 46 || (c == 45 || c == 95)) <;> rfl
theorem letter_ok {M : Store} {c : UInt8} {Q : Value → Store → Prop} (hQ : Q (tv (letB c)) M) : R F.name_letter #[bv c] M Q := by
  apply T_name_letter
  unfold S_name_letter
  rw [let3, let2 c 48 57 48 57 rfl rfl, let2 c 97 122 97 122 rfl rfl, let_if]
  split
  · rename_i h; rw [h] at hQ; exact ⟨rfl, hQ⟩
  · rename_i h
    have h : letB c = false := by simpa using h
    rw [h] at hQ; exact ⟨rfl, hQ⟩
theorem rlet3 (c : UInt8) (G F : Prop) : (OP (binI .eql (bv c) (.int .u8 46)) fun t30 => BR t30 (OP (aun .not (.bool true)) fun t40 => BR t40 F G) (OP (binI .eql (bv c) (.int .u8 45)) fun t34 => BR t34 (OP (aun .not (.bool true)) fun t40 => BR t40 F G)
      (OP (binI .eql (bv c) (.int .u8 95)) fun t38 => OP (aun .not t38) fun t40 => BR t40 F G))) = if (c == 46 || (c == 45 || c == 95)) = true then G else F := by
  have hT : (OP (aun .not (.bool true)) fun t40 => BR t40 F G) = G := rfl
  rw [hT, bv_eqI (d := 46) (n := 46) rfl, BR_dec]
  by_cases h1 : c = 46
  · rw [if_pos h1, if_pos (by simp [h1])]
  · rw [if_neg h1, bv_eqI (d := 45) (n := 45) rfl, BR_dec]
    by_cases h2 : c = 45
    · rw [if_pos h2, if_pos (by simp [h2])]
    · rw [if_neg h2, bv_eqI (d := 95) (n := 95) rfl, e_not, BR_bool]
      by_cases h3 : c = 95 <;> simp [h1, h2, h3]
theorem rlet2 (c : UInt8) (G F X : Prop) (J : Value → Prop) : (OP (binI .geq (bv c) (.int .u8 48)) fun t22 => BR3 t22 (OP (binI .leq (bv c) (.int .u8 57)) fun t25 => BR t25 (OP (aun .not (.bool true)) fun t40 => BR t40 F G) X) X (J t22)) =
    if (decide (48 ≤ c) && decide (c ≤ 57)) = true then G else X := by
  have hT : (OP (aun .not (.bool true)) fun t40 => BR t40 F G) = G := rfl
  rw [hT, bv_geI (d := 48) (n := 48) rfl, BR3_dec]
  by_cases h1 : 48 ≤ c
  · rw [if_pos h1, bv_leI (d := 57) (n := 57) rfl, BR_dec]
    by_cases h2 : c ≤ 57 <;> simp [h1, h2]
  · rw [if_neg h1]; simp [h1]
theorem rlet1 (c : UInt8) (G F X : Prop) : (OP (binI .geq (bv c) (.int .u8 97)) fun t15 => BR t15 (OP (binI .leq (bv c) (.int .u8 122)) fun t18 => BR t18 (OP (aun .not (.bool true)) fun t40 => BR t40 F G) X) X) =
    if (decide (97 ≤ c) && decide (c ≤ 122)) = true then G else X := by
  have hT : (OP (aun .not (.bool true)) fun t40 => BR t40 F G) = G := rfl
  rw [hT, bv_geI (d := 97) (n := 97) rfl, BR_dec]
  by_cases h1 : 97 ≤ c
  · rw [if_pos h1, bv_leI (d := 122) (n := 122) rfl, BR_dec]
    by_cases h2 : c ≤ 122 <;> simp [h1, h2]
  · rw [if_neg h1]; simp [h1]

/-! ## names -/
theorem okF_bad {s : List UInt8} {i : Nat} (h : i < s.length) (hb : letB s[i] = false) : okF s = false := by
  unfold okF
  have : s.all letB = false := by rw [List.all_eq_false]; exact ⟨s[i], List.getElem_mem h, by rw [hb]; decide⟩
  rw [this, Bool.false_and]
theorem okF_len {s : List UInt8} (h : ∀ j (hj : j < s.length), letB s[j] = true) : okF s = (decide (1 ≤ s.length) && decide (s.length ≤ 16)) := by
  unfold okF
  have : s.all letB = true := List.all_eq_true.2 fun c hc => by
    obtain ⟨j, hj, rfl⟩ := List.getElem_of_mem hc
    exact h j hj
  rw [this, Bool.true_and]
theorem ok_end {s : List UInt8} {M : Store} {Q : Value → Store → Prop} (h : ∀ j (hj : j < s.length), letB s[j] = true) (hQ : Q (tv (okF s)) M) :
    OP (lenS (sv s)) fun t16 => OP (binI .geq t16 (.int .i64 1)) fun t17 => BR t17 (OP (lenS (sv s)) fun t20 => OP (binI .leq t20 (.int .i64 16)) fun t21 => NTs [t21] ∧ Q t21 M) (NTs [(.bool false)] ∧ Q (.bool false) M) := by
  rw [okF_len h] at hQ
  rw [sv_len, geq_l 1 1 rfl, BR_dec]
  split
  · rename_i h1
    rw [sv_len, leq_l 16 16 rfl]
    rw [decide_eq_true h1, Bool.true_and] at hQ
    exact ⟨rfl, hQ⟩
  · rename_i h1
    rw [decide_eq_false h1, Bool.false_and] at hQ
    exact ⟨rfl, hQ⟩
theorem Ok_loop {s : List UInt8} {M : Store} {Q : Value → Store → Prop} (hs : s.length ≤ 2 ^ 40) (hQ : Q (tv (okF s)) M) : ∀ (d i : Nat), d + i = s.length → (∀ j (hj : j < i) (hl : j < s.length), letB s[j] = true) → P_name_Ok_1 (sv s) (iv (s.length : Int)) (iv (i : Int)) M Q := by
  intro d
  induction d with
  | zero =>
    intro i hi h
    apply T_name_Ok_1
    unfold S_name_Ok_1
    rw [lss_n, BR_dec, if_neg (by omega)]
    apply T_name_Ok_2
    unfold S_name_Ok_2
    exact ok_end (fun j hj => h j (by omega) hj) hQ
  | succ d ih =>
    intro i hi h
    apply T_name_Ok_1
    unfold S_name_Ok_1
    rw [lss_n, BR_dec, if_pos (by omega), bv_at s i (by omega)]
    refine letter_ok ?_
    rw [e_not, BR_bool]
    split
    · rename_i hb
      rw [okF_bad (i := i) (by omega) (by simpa using hb)] at hQ
      exact ⟨rfl, hQ⟩
    · rename_i hb
      rw [add1_n _ (by omega)]
      refine ih (i + 1) (by omega) fun j hj hl => ?_
      by_cases e : j = i
      · subst e; simpa using hb
      · exact h j (by omega) hl
theorem Ok_ok {s : List UInt8} {M : Store} {Q : Value → Store → Prop} (hs : s.length ≤ 2 ^ 40) (hQ : Q (tv (okF s)) M) : R F.name_Ok #[sv s] M Q := by
  apply T_name_Ok
  unfold S_name_Ok
  rw [sv_len]
  exact Ok_loop hs hQ s.length 0 rfl fun j hj => by omega
theorem rOk_loop {s : List UInt8} {M : Store} {Q : Value → Store → Prop} (hs : s.length ≤ 2 ^ 40) (hQ : Q (tv (okF s)) M) : ∀ (d i : Nat), d + i = s.length → (∀ j (hj : j < i) (hl : j < s.length), letB s[j] = true) → P_fettleref4_Ok_1 (sv s) (iv (i : Int)) M Q := by
  intro d
  induction d with
  | zero =>
    intro i hi h
    apply T_fettleref4_Ok_1
    unfold S_fettleref4_Ok_1
    rw [sv_len, lss_n, BR_dec, if_neg (by omega)]
    apply T_fettleref4_Ok_3
    unfold S_fettleref4_Ok_3
    exact ok_end (fun j hj => h j (by omega) hj) hQ
  | succ d ih =>
    intro i hi h
    apply T_fettleref4_Ok_1
    unfold S_fettleref4_Ok_1
    rw [sv_len, lss_n, BR_dec, if_pos (by omega)]
    apply T_fettleref4_Ok_2
    unfold S_fettleref4_Ok_2
    rw [bv_at s i (by omega)]
    rw [rlet3, rlet2, rlet1, let_if]
    split
    · rename_i hb
      rw [add1_n _ (by omega)]
      refine ih (i + 1) (by omega) fun j hj hl => ?_
      by_cases e : j = i
      · subst e; exact hb
      · exact h j (by omega) hl
    · rename_i hb
      rw [okF_bad (i := i) (by omega) (by simpa using hb)] at hQ
      exact ⟨rfl, hQ⟩
theorem rOk_ok {s : List UInt8} {M : Store} {Q : Value → Store → Prop} (hs : s.length ≤ 2 ^ 40) (hQ : Q (tv (okF s)) M) : R F.fettleref4_Ok #[sv s] M Q := by
  apply T_fettleref4_Ok
  unfold S_fettleref4_Ok
  exact rOk_loop hs hQ s.length 0 rfl fun j hj => by omega

/-! ## files -/
end Go.G
