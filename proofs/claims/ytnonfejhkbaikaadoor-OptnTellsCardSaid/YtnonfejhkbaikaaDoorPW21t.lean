/- Options told by the document. -/
import Derived.Test.YtnonfejhkbaikaaDoorPW21q
namespace Go.G
open Go.Ab Go.Proofs Go.RowKit
set_option linter.unusedVariables false
set_option linter.unusedSimpArgs false
set_option maxRecDepth 100000

/-- Words, each with a blank ahead. -/
def spJ (ws : List (List UInt8)) : List UInt8 := ws.flatMap fun w => 32 :: w
theorem spJ_app (a b : List (List UInt8)) : spJ (a ++ b) = spJ a ++ spJ b := by simp [spJ]
theorem spJ_join : ∀ ws : List (List UInt8), ws ≠ [] → spJ ws = 32 :: joinL [32] ws
  | [], h => absurd rfl h
  | [w], _ => by simp [spJ, joinL]
  | w :: y :: r, _ => by
    have e : spJ (w :: y :: r) = (32 :: w) ++ spJ (y :: r) := by simp [spJ]
    rw [e, spJ_join (y :: r) (by simp), joinL_cons]; rfl
theorem spJ_drop (ws : List (List UInt8)) : (spJ ws).drop 1 = joinL [32] ws := by
  cases ws with
  | nil => simp [spJ, joinL]
  | cons w r => rw [spJ_join (w :: r) (by simp)]; rfl
theorem spJ_len (m : Nat) : ∀ ws : List (List UInt8), (∀ w ∈ ws, w.length ≤ m) → (spJ ws).length ≤ ws.length * (m + 1)
  | [], _ => by simp [spJ]
  | w :: r, h => by
    have h1 := h w (by simp)
    have h2 := spJ_len m r fun x hx => h x (by simp [hx])
    have e : spJ (w :: r) = (32 :: w) ++ spJ r := by simp [spJ]
    rw [e, List.length_append, List.length_cons, List.length_cons, Nat.succ_mul]; omega
section
variable {M0 : Store} {b : Nat} {x y z : Bool} {a : Option Addr} {c : Nat} {l : List (List UInt8)} {Q : Value → Store → Prop}
theorem ro_loop (hl : l.length ≤ 2 ^ 10) (hx : ∀ w ∈ l, w.length ≤ 2 ^ 20) (o : Ob M0 b [tv x, tv y, tv z, .slice a l.length c] Ty.api_Options) (h : LV sv Ty.string M0 (.slice a l.length c) l) {pre : List UInt8} (hp : pre.length ≤ 100)
    (hbad : oOk (x, y, z, l) = false → Q (sv []) M0) (hfin : l.length ≤ 8 → l.all okF = true → Q (sv ((pre ++ spJ l).drop 1)) M0) :
    ∀ (k i : Nat), k + i = l.length → (l.take i).all okF = true → P_fettleref10_Options_5 (pO b) (sv (pre ++ spJ (l.take i))) (iv (i : Int)) M0 Q := by
  intro k
  induction k with
  | zero =>
    intro i hi ha
    apply T_fettleref10_Options_5
    unfold S_fettleref10_Options_5
    simp only [fad0, o.l4]
    rw [h.len, OP_some, lss_n, BR_dec, if_neg (by omega)]
    rw [List.take_of_length_le (by omega)] at ha ⊢
    apply T_fettleref10_Options_7
    unfold S_fettleref10_Options_7
    simp only [fad0, o.l4]
    rw [h.len, OP_some, gtr_l 8 8 rfl, BR_dec]
    split
    · rename_i h8
      refine ⟨rfl, hbad ?_⟩
      unfold oOk; simp only; rw [decide_eq_false (by omega), Bool.false_and]
    · rename_i h8
      have fin := hfin (by omega) ha
      show OP (binS .eql (sv _) (sv [])) _
      rw [sv_eq, BR_dec]
      split
      · rename_i he
        rw [he] at fin
        exact ⟨rfl, fin⟩
      · rename_i he
        have : 1 ≤ (pre ++ spJ l).length := by
          rcases Nat.eq_zero_or_pos (pre ++ spJ l).length with h0 | h0
          · exact absurd (List.length_eq_zero_iff.1 h0) he
          · exact h0
        have e := sv_from this (K := fun t54 => NTs [t54] ∧ Q t54 M0)
        show OP (slS (sv (pre ++ spJ l)) (some (iv ((1 : Nat) : Int))) none) fun t54 => NTs [t54] ∧ Q t54 M0
        rw [e]
        exact ⟨rfl, fin⟩
  | succ k ih =>
    intro i hi ha
    have hil : i < l.length := by omega
    apply T_fettleref10_Options_5
    unfold S_fettleref10_Options_5
    simp only [fad0, o.l4]
    rw [h.len, OP_some, lss_n, BR_dec, if_pos hil]
    apply T_fettleref10_Options_6
    unfold S_fettleref10_Options_6
    simp only [fad0, o.l4]
    obtain ⟨p, e1, e2⟩ := h.at hil .i64
    have hxl := hx _ (List.getElem_mem hil)
    rw [e1, OP_some, e2, OP_some]
    refine rOk_ok (by omega) ?_
    rw [e_not, BR_bool]
    split
    · rename_i hb
      refine ⟨rfl, hbad ?_⟩
      unfold oOk
      simp only
      have : l.all okF = false := by
        rw [List.all_eq_false]
        exact ⟨l[i], List.getElem_mem hil, by simpa using hb⟩
      rw [this, Bool.and_false]
    · rename_i hb
      have hb : okF l[i] = true := by simpa using hb
      have hlen := spJ_len (2 ^ 20) (l.take i) fun w hw => hx w (List.mem_of_mem_take hw)
      have hlen2 : (l.take i).length * (2 ^ 20 + 1) ≤ 2 ^ 10 * (2 ^ 20 + 1) := Nat.mul_le_mul_right _ (by rw [List.length_take]; omega)
      show OP (binS .add (sv _) (sv [32])) _
      rw [sv_add _ _ (by rw [List.length_append, List.length_singleton]; omega)]
      simp only [fad0, o.l4]
      rw [e1, OP_some, e2, OP_some, sv_add _ _ (by rw [List.length_append, List.length_append, List.length_singleton]; omega), add1_n _ (by omega)]
      have e : pre ++ spJ (l.take i) ++ [32] ++ l[i] = pre ++ spJ (l.take (i + 1)) := by
        rw [List.take_succ_eq_append_getElem hil, spJ_app]; simp [spJ]
      rw [e]
      refine ih (i + 1) (by omega) ?_
      rw [List.take_succ_eq_append_getElem hil, List.all_append, ha]; simp [hb]
theorem ROptions_ok {M : Store} {v : Value} {o : OpT} (h : OV M v o) (hl : o.2.2.2.length ≤ 2 ^ 10) (hx : ∀ x ∈ o.2.2.2, x.length ≤ 2 ^ 20) : R F.fettleref10_Options #[v] M fun r M' => Up M M' ∧ r = sv (printO o) := by
  refine R.cps fun Q hQ => ?_
  apply T_fettleref10_Options
  unfold S_fettleref10_Options
  refine ov_box h fun a c M1 _ u1 o1 l1 n1 => ?_
  simp only [fad0, o1.l4]
  have hQ1 : Q (sv (printO o)) M1 := hQ _ _ ⟨u1, rfl⟩
  have hbad : oOk o = false → Q (sv []) M1 := fun hb => by rw [print_bad hb] at hQ1; exact hQ1
  have hgood : oOk o = true → Q (sv ((spJ (wordsO o)).drop 1)) M1 := fun hb => by
    rw [spJ_drop]
    have : printO o = joinL [32] (wordsO o) := by unfold printO; rw [if_pos hb]
    rw [← this]; exact hQ1
  rw [wordsO_eq] at hgood
  obtain ⟨x, y, z, l⟩ := o
  simp only at hgood hl hx o1 l1
  have s4 : ∀ pre : List UInt8, pre.length ≤ 100 → pre = spJ (w1O x wDry ++ (w1O y wFast ++ (w1O z wClean ++ (if l = [] then [] else [wTo])))) → P_fettleref10_Options_4 (pO M.n) (sv pre) M1 Q := by
    intro pre hpl hpre
    apply T_fettleref10_Options_4
    unfold S_fettleref10_Options_4
    have := ro_loop hl hx o1 l1 hpl hbad (fun h8 ha => ?_) l.length 0 rfl rfl
    · simpa [spJ] using this
    · have hok : oOk (x, y, z, l) = true := by unfold oOk; simp only; rw [decide_eq_true h8, ha]; rfl
      have := hgood hok
      have e : pre ++ spJ l = spJ (w1O x wDry ++ (w1O y wFast ++ (w1O z wClean ++ (if l = [] then [] else wTo :: l)))) := by
        rw [hpre]
        cases l with
        | nil => simp [spJ]
        | cons w r => simp [spJ]
      rw [e]; exact this
  have s3 : ∀ pre : List UInt8, pre.length ≤ 90 → pre = spJ (w1O x wDry ++ (w1O y wFast ++ w1O z wClean)) → P_fettleref10_Options_3 (pO M.n) (sv pre) M1 Q := by
    intro pre hpl hpre
    apply T_fettleref10_Options_3
    unfold S_fettleref10_Options_3
    simp only [fad0, o1.l4]
    rw [l1.len, OP_some, gtr_l 0 0 rfl, BR_dec]
    split
    · rename_i h0
      have hne : l ≠ [] := fun e => by rw [e] at h0; simp at h0
      show OP (binS .add (sv pre) (sv [32, 116, 111])) _
      rw [sv_add _ _ (by simp; omega)]
      refine s4 _ (by simp; omega) ?_
      rw [if_neg hne, hpre]; simp [spJ, wTo]
    · rename_i h0
      have he : l = [] := List.length_eq_zero_iff.1 (by omega)
      refine s4 _ (by omega) ?_
      rw [if_pos he, hpre]; simp
  have s2 : ∀ pre : List UInt8, pre.length ≤ 80 → pre = spJ (w1O x wDry ++ w1O y wFast) → P_fettleref10_Options_2 (pO M.n) (sv pre) M1 Q := by
    intro pre hpl hpre
    apply T_fettleref10_Options_2
    unfold S_fettleref10_Options_2
    simp only [fad0, o1.l4]
    rw [BR_bool]
    split
    · rename_i hz
      show OP (binS .add (sv pre) (sv [32, 99, 108, 101, 97, 110])) _
      rw [sv_add _ _ (by simp; omega)]
      refine s3 _ (by simp; omega) ?_
      rw [hpre]
      have : w1O z wClean = [wClean] := by unfold w1O; rw [if_pos hz]
      rw [this]; simp [spJ, wClean]
    · rename_i hz
      refine s3 _ (by omega) ?_
      rw [hpre]
      have : w1O z wClean = [] := by unfold w1O; rw [if_neg hz]
      rw [this]; simp
  have s1 : ∀ pre : List UInt8, pre.length ≤ 70 → pre = spJ (w1O x wDry) → P_fettleref10_Options_1 (pO M.n) (sv pre) M1 Q := by
    intro pre hpl hpre
    apply T_fettleref10_Options_1
    unfold S_fettleref10_Options_1
    simp only [fad0, o1.l4]
    rw [BR_bool]
    split
    · rename_i hz
      show OP (binS .add (sv pre) (sv [32, 102, 97, 115, 116])) _
      rw [sv_add _ _ (by simp; omega)]
      refine s2 _ (by simp; omega) ?_
      rw [hpre]
      have : w1O y wFast = [wFast] := by unfold w1O; rw [if_pos hz]
      rw [this]; simp [spJ, wFast]
    · rename_i hz
      refine s2 _ (by omega) ?_
      rw [hpre]
      have : w1O y wFast = [] := by unfold w1O; rw [if_neg hz]
      rw [this]; simp
  simp only [fad0, o1.l4]
  rw [BR_bool]
  split
  · rename_i hz
    show OP (binS .add (sv []) (sv [32, 100, 114, 121])) _
    rw [sv_add _ _ (by simp)]
    refine s1 _ (by simp) ?_
    have : w1O x wDry = [wDry] := by unfold w1O; rw [if_pos hz]
    rw [this]; simp [spJ, wDry]
  · rename_i hz
    refine s1 [] (by simp) ?_
    have : w1O x wDry = [] := by unfold w1O; rw [if_neg hz]
    rw [this]; rfl
end
end Go.G
