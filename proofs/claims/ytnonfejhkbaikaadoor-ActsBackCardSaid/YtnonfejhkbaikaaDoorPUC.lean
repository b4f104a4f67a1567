/- Layer 6, plainly: where the two readings of an action differ, it is none. Layer 6, plainly: a word's kind, by both readings. Layer 6, plainly: a number, by both readings. Layer 6, plainly: one thing, by both readings: what the document reads, the program reads. Layer 6, plainly: what the document does not read is not right. Layer 6, plainly: an action's words are read as it. -/
import Derived.Test.YtnonfejhkbaikaaDoorPUB
namespace Go.G
open Go.Ab
set_option linter.unusedVariables false
set_option linter.unusedSimpArgs false

theorem finA_bad {out : List Dw} {e : Dw} (he : e ∈ out) (hb : rightA e = false) : finA out = none := by
  unfold finA
  rw [if_neg]
  intro h
  unfold okA at h
  rw [Bool.and_eq_true] at h
  rw [okFrom_rightX out 0 h.1 e he] at hb
  cases hb
where
  okFrom_rightX : ∀ (l : List Dw) (i : Nat), okFrom i l = true → ∀ d ∈ l, rightA d = true
    | d :: l, i, h, e, he => by
      rw [okFrom, Bool.and_eq_true] at h
      rcases List.mem_cons.1 he with rfl | he
      · have := h.1
        unfold goodA at this
        rw [Bool.and_eq_true] at this
        exact this.1
      · exact okFrom_rightX l (i + 1) h.2 e he
theorem parseA_bad : ∀ (k : Nat) (ws : List Ww) (acc : List Dw) (e : Dw), e ∈ acc → rightA e = false → parseA k ws acc = none
  | 0, _, _, _, _, _ => rfl
  | k + 1, ws, acc, e, he, hb => by
    rw [parseA]
    cases oneA (ws.takeWhile fun w => !semiA w) with
    | none => rfl
    | some d =>
      have h1 : e ∈ acc ++ [d] := List.mem_append.2 (.inl he)
      cases ws.dropWhile fun w => !semiA w with
      | nil => exact finA_bad h1 hb
      | cons x r => exact parseA_bad k r _ e h1 hb
/-- If the two read one thing alike, or what the program reads is not right, they read an action alike. -/
theorem parse_same (h1 : ∀ ws d, oneB ws = some d → oneA ws = some d) (h2 : ∀ ws d, oneB ws = none → oneA ws = some d → rightA d = false) : ∀ (k : Nat) (ws : List Ww) (acc : List Dw), parseA k ws acc = parseB k ws acc
  | 0, _, _ => rfl
  | k + 1, ws, acc => by
    rw [parseA, parseB]
    cases hB : oneB (ws.takeWhile fun w => !semiA w) with
    | some d =>
      rw [h1 _ d hB]
      cases ws.dropWhile fun w => !semiA w with
      | nil => rfl
      | cons x r => exact parse_same h1 h2 k r _
    | none =>
      cases hA : oneA (ws.takeWhile fun w => !semiA w) with
      | none => rfl
      | some d =>
        have hb := h2 _ d hB hA
        have hm : d ∈ acc ++ [d] := by simp
        cases ws.dropWhile fun w => !semiA w with
        | nil => exact finA_bad hm hb
        | cons x r => exact parseA_bad k r _ d hm hb
end Go.G

namespace Go.G
open Go.Ab
set_option linter.unusedVariables false
set_option linter.unusedSimpArgs false

theorem idx_kind (t : List UInt8) : ∀ (l : List (List UInt8)) (i : Nat), idxA t i l = match kindB t i l with
    | some k => (k : Int)
    | none => -1
  | [], i => rfl
  | x :: r, i => by
    rw [idxA, kindB]
    by_cases h : t = x
    · rw [if_pos h, if_pos h.symm]
    · rw [if_neg h, if_neg (fun e => h e.symm)]
      exact idx_kind t r (i + 1)
theorem kind_rel (t : List UInt8) : kindA t = match kindB t 1 (wordsA.drop 1) with
    | some k => (k : Int)
    | none => 0 := by
  have hw : wordsA = [] :: wordsA.drop 1 := rfl
  have hi : idxA t 0 wordsA = if t = [] then 0 else idxA t 1 (wordsA.drop 1) := by
    rw [hw, idxA]; rfl
  unfold kindA
  rw [hi]
  by_cases ht : t = []
  · subst ht
    have : kindB [] 1 (wordsA.drop 1) = none := by decide
    rw [this]; rfl
  · rw [if_neg ht, idx_kind]
    cases kindB t 1 (wordsA.drop 1) with
    | none => rfl
    | some k =>
      show (if 0 > (k : Int) then 0 else (k : Int)) = (k : Int)
      rw [if_neg (by omega)]
end Go.G

namespace Go.G
open Go.Ab
set_option linter.unusedVariables false
set_option linter.unusedSimpArgs false

theorem num_rel {x : List UInt8} {n : Nat} (h : numF 9 x = some n) : numA x = (n : Int) := by
  obtain ⟨h1, h2, h3, h4, h5⟩ := numF_some h
  have ha := atoi_val h2 h5 (by omega)
  rw [← h4] at ha
  unfold numA
  rw [ha]
  simp only
  have : Lib.itoa ((n : Nat) : Int) = Lib.decDigits n := by
    unfold Lib.itoa
    rw [if_neg (by omega)]; rfl
  rw [this, if_pos h1.symm]
theorem num_bad {x : List UInt8} (h : numF 9 x = none) : numA x < 0 ∨ 999 < numA x := by
  unfold numA
  cases ha : Lib.atoiAll x with
  | ok v =>
    simp only
    by_cases hi : Lib.itoa v = x
    · rw [if_pos hi]
      by_cases hv : v < 0
      · exact .inl hv
      · refine .inr (Int.not_le.1 fun hle => ?_)
        obtain ⟨n, rfl⟩ := Int.eq_ofNat_of_zero_le (Int.not_lt.1 hv)
        have hd : Lib.itoa ((n : Nat) : Int) = Lib.decDigits n := by
          unfold Lib.itoa
          rw [if_neg (by omega)]; rfl
        rw [hd] at hi
        have := numF_dd (d := 8) (u := n) (by omega)
        rw [hi, h] at this
        cases this
    · rw [if_neg hi]; exact .inl (by decide)
  | «syntax» => exact .inl (show (-1 : Int) < 0 by decide)
  | range => exact .inl (show (-1 : Int) < 0 by decide)
end Go.G

namespace Go.G
open Go.Ab
set_option linter.unusedVariables false
set_option linter.unusedSimpArgs false

theorem takes_top (k : Nat) (ht : textA (k : Int) = false) : (0 ≤ topA (k : Int)) ↔ takesA k = true := by
  unfold topA takesA
  by_cases h2 : k = 2
  · subst h2; decide
  · by_cases h7 : k = 7
    · subst h7; decide
    · by_cases h8 : k = 8
      · subst h8; decide
      · rw [if_neg (by omega), if_neg (by omega), if_neg (by omega)]
        simp [h2, h7, h8]
theorem one_h1 (ws : List Ww) (d : Dw) (h : oneB ws = some d) : oneA ws = some d := by
  cases ws with
  | nil => cases h
  | cons w r =>
    by_cases hq : w.2.2.2 = true
    · rw [oneB, if_pos hq] at h; cases h
    · rw [oneB_cons w r hq] at h
      rw [oneA_cons w r hq]
      have hk := kind_rel w.1
      cases hB : kindB w.1 1 (wordsA.drop 1) with
      | none => rw [hB] at h; cases h
      | some k =>
        rw [hB] at h hk
        have hk : kindA w.1 = (k : Int) := hk
        rw [hk]
        have h : restB k r = some d := h
        unfold restB at h
        by_cases ht : textA (k : Int) = true
        · rw [if_pos ht] at h; rw [if_pos ht]
          match r, h with
          | [], h => cases h
          | [x], h => exact h
          | _ :: _ :: _, h => cases h
        · rw [if_neg ht] at h; rw [if_neg ht]
          have ht' : textA (k : Int) = false := by simpa using ht
          by_cases hc : takesA k = true
          · rw [if_pos hc] at h; rw [if_pos ((takes_top k ht').2 hc)]
            match r, h with
            | [], h => cases h
            | [x], h =>
              simp only [numB] at h
              simp only
              split at h
              · cases h
              · rename_i hx
                rw [if_neg hx]
                split at h
                · rename_i n hn
                  rw [num_rel hn]; exact h
                · cases h
            | _ :: _ :: _, h => cases h
          · rw [if_neg hc] at h; rw [if_neg (fun e => hc ((takes_top k ht').1 e))]
            exact h
end Go.G

namespace Go.G
open Go.Ab
set_option linter.unusedVariables false
set_option linter.unusedSimpArgs false

theorem right_zero (n : Int) (s : List UInt8) : rightA (0, n, s) = false := by unfold rightA; rw [if_pos (show (0 : Int) < 1 by decide)]
theorem topA_le (k : Int) : topA k ≤ 999 := by
  unfold topA
  split
  · decide
  · split
    · decide
    · split <;> decide
theorem right_num {k n : Int} (ht : textA k = false) (hn : n < 0 ∨ 999 < n) : rightA (k, n, []) = false := by
  unfold rightA
  simp only
  split
  · rfl
  · split
    · rfl
    · rw [if_neg (by rw [ht]; decide)]
      simp only [if_true]
      split
      · rename_i h0
        have := topA_le k
        refine decide_eq_false fun h => ?_
        split at h <;> omega
      · rfl
theorem one_h2 (ws : List Ww) (d : Dw) (hB : oneB ws = none) (h : oneA ws = some d) : rightA d = false := by
  cases ws with
  | nil => cases h
  | cons w r =>
    by_cases hq : w.2.2.2 = true
    · simp only [oneA] at h; rw [if_pos hq] at h; cases h
    · rw [oneB_cons w r hq] at hB
      rw [oneA_cons w r hq] at h
      have hk := kind_rel w.1
      cases hkB : kindB w.1 1 (wordsA.drop 1) with
      | none =>
        rw [hkB] at hk
        have hk : kindA w.1 = 0 := hk
        rw [hk] at h
        rw [if_neg (by decide), if_neg (by decide)] at h
        split at h
        · injection h with h; subst h; exact right_zero _ _
        · cases h
      | some k =>
        rw [hkB] at hB hk
        have hk : kindA w.1 = (k : Int) := hk
        rw [hk] at h
        have hB : restB k r = none := hB
        unfold restB at hB
        by_cases ht : textA (k : Int) = true
        · rw [if_pos ht] at hB h
          match r, h, hB with
          | [], h, _ => cases h
          | [x], h, hB => have hB : (if x.2.2.2 then some ((k : Int), 0, x.1) else none : Option Dw) = none := hB; have h : (if x.2.2.2 then some ((k : Int), 0, x.1) else none : Option Dw) = some d := h; rw [hB] at h; cases h
          | _ :: _ :: _, h, _ => cases h
        · rw [if_neg ht] at hB h
          have ht' : textA (k : Int) = false := by simpa using ht
          by_cases hc : takesA k = true
          · rw [if_pos hc] at hB; rw [if_pos ((takes_top k ht').2 hc)] at h
            match r, h, hB with
            | [], h, _ => cases h
            | [x], h, hB =>
              simp only [numB] at hB
              simp only at h
              by_cases hx : x.2.2.2 = true
              · rw [if_pos hx] at h; cases h
              · rw [if_neg hx] at h hB
                injection h with h
                subst h
                cases hn : numF 9 x.1 with
                | some n => rw [hn] at hB; cases hB
                | none => exact right_num ht' (num_bad hn)
            | _ :: _ :: _, h, _ => cases h
          · rw [if_neg hc] at hB; rw [if_neg (fun e => hc ((takes_top k ht').1 e))] at h
            rw [hB] at h; cases h
theorem parse_AB (k : Nat) (ws : List Ww) (acc : List Dw) : parseA k ws acc = parseB k ws acc := parse_same one_h1 one_h2 k ws acc
end Go.G

namespace Go.G
open Go.Ab
set_option linter.unusedVariables false
set_option linter.unusedSimpArgs false

def nameA (k : Int) : List UInt8 := wordsA.getD k.toNat []
/-- A thing's words. -/
def oneW (d : Dw) : List Ww := (nameA d.1, 0, 0, false) :: (if textA d.1 then [(d.2.2, 0, 0, true)] else if 0 ≤ topA d.1 then [(Lib.decDigits d.2.1.toNat, 0, 0, false)] else [])
def semiW : Ww := ([59], 0, 0, false)
def tailW (l : List Dw) : List Ww := l.flatMap fun d => semiW :: oneW d
def actW : List Dw → List Ww
  | [] => []
  | d :: r => oneW d ++ tailW r
theorem actW_snoc (l : List Dw) (d : Dw) : actW (l ++ [d]) = actW l ++ ((if 0 < l.length then [semiW] else []) ++ oneW d) := by
  cases l with
  | nil => simp [actW, tailW]
  | cons e r => simp [actW, tailW]
theorem oneW_len (d : Dw) : (oneW d).length ≤ 2 := by
  unfold oneW
  split
  · simp
  · split <;> simp
theorem tailW_len : ∀ l : List Dw, (tailW l).length ≤ 3 * l.length
  | [] => by simp [tailW]
  | d :: l => by
    have := tailW_len l
    have h2 := oneW_len d
    unfold tailW at *
    rw [List.flatMap_cons, List.length_append, List.length_cons, List.length_cons]
    omega
theorem actW_len (l : List Dw) : (actW l).length ≤ 3 * l.length := by
  cases l with
  | nil => simp [actW]
  | cons d r =>
    have := tailW_len r
    have h2 := oneW_len d
    rw [actW, List.length_append, List.length_cons]; omega
theorem kind_name : ∀ k : Nat, 1 ≤ k → k ≤ 11 → kindA (nameA (k : Int)) = (k : Int) ∧ semiA (nameA (k : Int), 0, 0, false) = false
  | 0, h, _ => by omega
  | 1, _, _ => ⟨by kernel_rfl, by kernel_rfl⟩
  | 2, _, _ => ⟨by kernel_rfl, by kernel_rfl⟩
  | 3, _, _ => ⟨by kernel_rfl, by kernel_rfl⟩
  | 4, _, _ => ⟨by kernel_rfl, by kernel_rfl⟩
  | 5, _, _ => ⟨by kernel_rfl, by kernel_rfl⟩
  | 6, _, _ => ⟨by kernel_rfl, by kernel_rfl⟩
  | 7, _, _ => ⟨by kernel_rfl, by kernel_rfl⟩
  | 8, _, _ => ⟨by kernel_rfl, by kernel_rfl⟩
  | 9, _, _ => ⟨by kernel_rfl, by kernel_rfl⟩
  | 10, _, _ => ⟨by kernel_rfl, by kernel_rfl⟩
  | 11, _, _ => ⟨by kernel_rfl, by kernel_rfl⟩
  | k + 12, _, h => by omega
theorem right_parts {d : Dw} (h : rightA d = true) : 1 ≤ d.1 ∧ d.1 ≤ 11 ∧ ((textA d.1 = true ∧ d.2.1 = 0 ∧ fitsA d.2.2 = true) ∨ (textA d.1 = false ∧ d.2.2 = [] ∧ 0 ≤ d.2.1 ∧ d.2.1 ≤ (if 0 > topA d.1 then 0 else topA d.1))) := by
  unfold rightA at h
  split at h
  · cases h
  · split at h
    · cases h
    · refine ⟨by omega, by omega, ?_⟩
      split at h
      · rename_i ht
        split at h
        · rename_i h0; exact .inl ⟨ht, h0, h⟩
        · cases h
      · rename_i ht
        split at h
        · rename_i hs
          split at h
          · rename_i h0; exact .inr ⟨by simpa using ht, hs, h0, of_decide_eq_true h⟩
          · cases h
        · cases h
theorem one_back {d : Dw} (h : rightA d = true) : oneA (oneW d) = some d := by
  obtain ⟨h1, h11, h⟩ := right_parts h
  obtain ⟨k, n, s⟩ := d
  obtain ⟨k, rfl⟩ := Int.eq_ofNat_of_zero_le (show 0 ≤ k by simp only at h1; omega)
  have hk := (kind_name k (by simp only at h1; omega) (by simp only at h11; omega)).1
  unfold oneW
  rw [oneA_cons _ _ (by simp)]
  simp only at h ⊢
  rw [hk]
  rcases h with ⟨ht, h0, _⟩ | ⟨ht, hs, h0, hn⟩
  · rw [if_pos ht, if_pos ht]
    simp only [if_true]; rw [h0]
  · have ht' : ¬ textA (k : Int) = true := by rw [ht]; decide
    rw [if_neg ht']
    subst hs
    by_cases htop : 0 ≤ topA (k : Int)
    · rw [if_neg (by omega)] at hn
      simp only [if_neg ht', if_pos htop]
      have := topA_le (k : Int)
      obtain ⟨n, rfl⟩ := Int.eq_ofNat_of_zero_le h0
      have hn2 := num_rel (numF_dd (d := 8) (u := n) (by omega))
      simp only [Int.toNat_natCast]
      rw [if_neg (by simp), hn2]
    · rw [if_pos (by omega)] at hn
      simp only [if_neg ht', if_neg htop, if_true]
      rw [show n = 0 by omega]
theorem dig_semi (u : Nat) : Lib.decDigits u ≠ [59] := by
  intro e
  have := dd_all u
  rw [e] at this
  exact absurd this (by decide)
theorem one_nosemi {d : Dw} (h : rightA d = true) : ∀ w ∈ oneW d, (!semiA w) = true := by
  obtain ⟨h1, h11, _⟩ := right_parts h
  obtain ⟨k, n, s⟩ := d
  obtain ⟨k, rfl⟩ := Int.eq_ofNat_of_zero_le (show 0 ≤ k by simp only at h1; omega)
  have hk := (kind_name k (by simp only at h1; omega) (by simp only at h11; omega)).2
  intro w hw
  unfold oneW at hw
  rcases List.mem_cons.1 hw with rfl | hw
  · simp only; rw [hk]; rfl
  · split at hw
    · have : w = (s, 0, 0, true) := by simpa using hw
      subst this; simp [semiA]
    · split at hw
      · have : w = (Lib.decDigits n.toNat, 0, 0, false) := by simpa using hw
        subst this
        simp only [semiA]
        rw [decide_eq_false (dig_semi _)]; rfl
      · simp at hw
theorem tw_end {α : Type} {p : α → Bool} : ∀ (x : List α), (∀ w ∈ x, p w = true) → x.takeWhile p = x ∧ x.dropWhile p = []
  | [], _ => ⟨rfl, rfl⟩
  | a :: x, h => by
    have ha := h a (by simp)
    have := tw_end x fun w hw => h w (by simp [hw])
    rw [List.takeWhile_cons, List.dropWhile_cons, if_pos ha, if_pos ha, this.1, this.2]; exact ⟨rfl, rfl⟩
theorem tw_sep {α : Type} {p : α → Bool} {a : α} {r : List α} (ha : p a = false) : ∀ (x : List α), (∀ w ∈ x, p w = true) → (x ++ a :: r).takeWhile p = x ∧ (x ++ a :: r).dropWhile p = a :: r
  | [], _ => by rw [List.nil_append, List.takeWhile_cons, List.dropWhile_cons, if_neg (by rw [ha]; decide), if_neg (by rw [ha]; decide)]; exact ⟨rfl, rfl⟩
  | b :: x, h => by
    have hb := h b (by simp)
    have := tw_sep (r := r) ha x fun w hw => h w (by simp [hw])
    rw [List.cons_append, List.takeWhile_cons, List.dropWhile_cons, if_pos hb, if_pos hb, this.1, this.2]; exact ⟨rfl, rfl⟩
theorem words_back : ∀ (r : List Dw) (d : Dw) (k : Nat) (acc : List Dw), r.length < k → rightA d = true → (∀ e ∈ r, rightA e = true) → parseA k (oneW d ++ tailW r) acc = finA (acc ++ d :: r)
  | [], d, k, acc, hk, hd, _ => by
    obtain ⟨k, rfl⟩ : ∃ k', k = k' + 1 := ⟨k - 1, by simp at hk; omega⟩
    obtain ⟨e1, e2⟩ := tw_end (oneW d) (one_nosemi hd)
    rw [parseA]
    simp only [tailW, List.flatMap_nil, List.append_nil]
    rw [e1, e2, one_back hd]
  | e :: r, d, k, acc, hk, hd, hr => by
    obtain ⟨k, rfl⟩ : ∃ k', k = k' + 1 := ⟨k - 1, by simp at hk; omega⟩
    have he : tailW (e :: r) = semiW :: (oneW e ++ tailW r) := by unfold tailW; rw [List.flatMap_cons, List.cons_append]
    obtain ⟨e1, e2⟩ := tw_sep (p := fun w => !semiA w) (a := semiW) (r := oneW e ++ tailW r) (by kernel_rfl) (oneW d) (one_nosemi hd)
    rw [parseA, he, e1, e2, one_back hd]
    show parseA k (oneW e ++ tailW r) (acc ++ [d]) = _
    rw [words_back r e k (acc ++ [d]) (by simp at hk; omega) (hr e (by simp)) fun x hx => hr x (by simp [hx])]
    rw [List.append_assoc]; rfl
theorem okA_right {l : List Dw} (h : okA l = true) : (∀ d ∈ l, rightA d = true) ∧ 1 ≤ l.length ∧ l.length ≤ 8 := by
  unfold okA at h
  simp only [Bool.and_eq_true, decide_eq_true_eq] at h
  exact ⟨finA_bad.okFrom_rightX l 0 h.1, h.2.1, h.2.2⟩
/-- An action's words are read as it. -/
theorem act_back {l : List Dw} (h : okA l = true) : parseA ((actW l).length + 1) (actW l) [] = some l := by
  obtain ⟨hr, h1, h8⟩ := okA_right h
  cases l with
  | nil => simp at h1
  | cons d r =>
    rw [actW]
    have hlen : r.length < (oneW d ++ tailW r).length + 1 := by
      have : ∀ r : List Dw, r.length ≤ (tailW r).length := by
        intro r
        induction r with
        | nil => simp
        | cons e r ih =>
          unfold tailW at *
          rw [List.flatMap_cons, List.length_append, List.length_cons, List.length_cons]; omega
      have := this r
      rw [List.length_append]; omega
    rw [words_back r d _ [] hlen (hr d (by simp)) fun e he => hr e (by simp [he])]
    unfold finA
    rw [List.nil_append, if_pos h]
end Go.G
