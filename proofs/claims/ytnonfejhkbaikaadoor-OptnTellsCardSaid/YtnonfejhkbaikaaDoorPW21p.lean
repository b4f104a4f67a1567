/- Options told, by the program. -/
import Derived.Test.YtnonfejhkbaikaaDoorPW21
namespace Go.G
open Go.Ab Go.Proofs Go.RowKit
set_option linter.unusedVariables false
set_option linter.unusedSimpArgs false
set_option maxRecDepth 100000

theorem tdxO21 {S : List Nat} {M M' : Store} (h : Ch S M M') {bs Ns : List Nat} {i : Nat} (hS : ∀ b ∈ S, (M.get b).isSome = true ∧ (b < Ns.getD 0 0 ∨ ∃ j, j < i ∧ (bs.getD i 0).testBit j = true ∧ Ns.getD j 0 ≤ b ∧ b < Ns.getD (j + 1) 0)) : TDx bs Ns i M M' :=
  ⟨h.n, fun c hc => by
    rcases h.tdiff c hc with hc | hc
    · exact .inl hc
    · obtain ⟨h1, h2⟩ := hS c hc
      refine .inr ⟨h1, ?_⟩
      unfold accB
      rw [Bool.or_eq_true]
      rcases h2 with h2 | ⟨j, hj, ht, h2, h3⟩
      · exact .inl (by simpa using h2)
      · refine .inr (List.any_eq_true.2 ⟨j, List.mem_range.2 hj, ?_⟩)
        rw [ht, decide_eq_true h2, decide_eq_true h3]; rfl⟩
def w1O (b : Bool) (w : List UInt8) : List (List UInt8) := if b = true then [w] else []
theorem wordsO_eq (o : OpT) : wordsO o = w1O o.1 wDry ++ (w1O o.2.1 wFast ++ (w1O o.2.2.1 wClean ++ (if o.2.2.2 = [] then [] else wTo :: o.2.2.2))) := by
  obtain ⟨x, y, z, l⟩ := o
  unfold wordsO w1O
  cases x <;> cases y <;> cases z <;> cases l <;> simp
theorem w1O_len (b : Bool) (w : List UInt8) : (w1O b w).length ≤ 1 := by unfold w1O; split <;> simp
theorem OPrint_ok {M : Store} {v : Value} {o : OpT} (h : OV M v o) (hl : o.2.2.2.length ≤ 2 ^ 24) (hx : ∀ x ∈ o.2.2.2, x.length ≤ 2 ^ 40) : R F.optn_Print #[v] M fun r M' => Up M M' ∧ r = sv (printO o) := by
  refine R.cps fun Q hQ => ?_
  apply T_optn_Print
  unfold S_optn_Print
  refine ov_box h fun a c M1 _ u1 o1 l1 n1 => ?_
  simp only [fad0, o1.l4]
  rw [l1.len, OP_some, gtr_l 8 8 rfl, BR_dec]
  have hbad : oOk o = false → Q (sv []) M1 := fun hb => hQ _ _ ⟨u1, by rw [print_bad hb]⟩
  split
  · rename_i h8
    exact ⟨rfl, hbad (by unfold oOk; rw [decide_eq_false (by omega), Bool.false_and])⟩
  rename_i h8
  refine CF_ok l1 (by omega) hx ?_
  rw [BR_bool]
  split
  · rename_i hb
    have hb : o.2.2.2.all okF = false := by simpa using hb
    exact ⟨rfl, hbad (by unfold oOk; rw [hb, Bool.and_false])⟩
  rename_i hb
  have hb : o.2.2.2.all okF = true := by simpa using hb
  have hok : oOk o = true := by unfold oOk; rw [decide_eq_true (by omega), hb]; rfl
  obtain ⟨hw1, hw2⟩ := wordsO_len hok
  have hjl := joinL_len 16 (wordsO o) hw2
  have hfin : ∀ M', Up M M' → Q (sv (joinL [32] (wordsO o))) M' := fun M' hu => hQ _ _ ⟨hu, by unfold printO; rw [if_pos hok]⟩
  rw [wordsO_eq] at hw1 hjl hfin
  obtain ⟨x, y, z, l⟩ := o
  simp only at hw1 hjl hfin l1 h8 hl o1
  have hj40 : ∀ ws : List (List UInt8), ws.length ≤ 12 → (joinL [32] ws).length ≤ ws.length * (16 + 1) → (joinL [32] ws).length ≤ 2 ^ 40 := fun ws h1 h2 => by
    have := Nat.mul_le_mul_right (16 + 1) h1
    omega
  have a1 := w1O_len x wDry
  have a2 := w1O_len y wFast
  have a3 := w1O_len z wClean
  generalize hW1 : w1O x wDry = w1 at *
  generalize hW2 : w1O y wFast = w2 at *
  generalize hW3 : w1O z wClean = w3 at *
  -- the names
  have p3 : ∀ (M3 : Store) (v3 : Value), Up M1 M3 → NV sv Ty.string M1 M3 v3 (w1 ++ (w2 ++ w3)) → P_optn_Print_3 (.pointer (some ⟨M.n, 0, none⟩)) v3 M3 Q := by
    intro M3 v3 hu3 hN3
    apply T_optn_Print_3
    unfold S_optn_Print_3
    have o3 := o1.up hu3
    have l3 := l1.up hu3
    have hlen3 : (w1 ++ (w2 ++ w3)).length ≤ 3 := by rw [List.length_append, List.length_append]; omega
    simp only [fad0, o3.l4]
    rw [l3.len, OP_some, gtr_l 0 0 rfl, BR_dec]
    split
    · rename_i hpos
      have hne : l ≠ [] := fun h => by rw [h] at hpos; simp at hpos
      rw [if_neg hne] at hw1 hjl hfin
      rw [bl_sv1]
      refine s_lit (s := 1) (n := 1) rfl fun M4 u4 hl4 o4 n4 => ?_
      have hw4 : LV sv Ty.string M4 (.slice (some ⟨M3.n, 0, none⟩) 1 1) [wTo] := Nw.sl hl4
      have hN4 := Nw.up hN3 u4
      refine NV.apps (M0 := M1) (hu3.trans u4) (Nat.le_refl _) (hu3.trans u4).n hN4 hw4 (by rw [List.length_singleton]; omega) fun v5 M5 hu5 hN5 c5 n5 => ?_
      refine ⟨tdxO21 c5 fun b hb => ?_, ?_⟩
      · obtain ⟨g1, g2⟩ := Nw.bx_in hN3 (mem_kl.1 hb)
        obtain ⟨cells, g3⟩ := hN4.kl_inl hb
        exact ⟨by rw [g3]; rfl, .inl g2⟩
      have o5 := o1.up hu5
      have l5 := l1.up hu5
      simp only [fad0, o5.l4]
      refine ⟨fun b hb hm => ?_, ?_⟩
      · have : b = M.n := by simpa [idsV] using hm
        have hMn := hu3.n
        have hM4 := u4.n
        rcases c5.tdiff b hb with h1 | h1
        · omega
        · have := (Nw.bx_in hN3 (mem_kl.1 h1)).1
          omega
      refine NV.apps (M0 := M1) hu5 (Nat.le_refl _) hu5.n hN5 l5 (by rw [List.length_append, List.length_singleton]; omega) fun v6 M6 hu6 hN6 c6 n6 => ?_
      refine ⟨tdxO21 c6 fun b hb => ?_, ?_⟩
      · obtain ⟨g1, g2⟩ := Nw.bx_in hN5 (mem_kl.1 hb)
        obtain ⟨cells, g3⟩ := hN5.kl_inl hb
        refine ⟨by rw [g3]; rfl, ?_⟩
        by_cases h1 : b < M3.n
        · exact .inl h1
        · refine .inr ?_
          by_cases h2 : b < M4.n
          · exact ⟨1, by decide, by decide, (by show M3.n ≤ b; omega), h2⟩
          · exact ⟨2, by decide, by decide, (by show M4.n ≤ b; omega), g2⟩
      have e : w1 ++ (w2 ++ (w3 ++ wTo :: l)) = ((w1 ++ (w2 ++ w3)) ++ [wTo]) ++ l := by simp
      rw [e] at hw1 hjl hfin
      exact Join_ok hN6.lv (by omega) (hj40 _ hw1 hjl) ⟨rfl, hfin M6 (u1.trans hu6)⟩
    · rename_i hpos
      have hl0 : l = [] := List.length_eq_zero_iff.1 (by omega)
      rw [if_pos hl0] at hw1 hjl hfin
      have e : w1 ++ (w2 ++ (w3 ++ [])) = w1 ++ (w2 ++ w3) := by simp
      rw [e] at hw1 hjl hfin
      exact Join_ok hN3.lv (by omega) (hj40 _ hw1 hjl) ⟨rfl, hfin M3 (u1.trans hu3)⟩
  have p2 : ∀ (M3 : Store) (v3 : Value), Up M1 M3 → NV sv Ty.string M1 M3 v3 (w1 ++ w2) → P_optn_Print_2 (.pointer (some ⟨M.n, 0, none⟩)) v3 M3 Q := by
    intro M3 v3 hu3 hN3
    apply T_optn_Print_2
    unfold S_optn_Print_2
    simp only [fad0, (o1.up hu3).l4]
    rw [BR_bool]
    split
    · rename_i hz
      have e3 : w3 = [wClean] := by rw [← hW3]; unfold w1O; rw [if_pos hz]
      rw [bl_sv1, LT_eq]
      refine NV.app1 hu3 (Nat.le_refl _) hu3.n hN3 wClean rfl (by rw [List.length_append]; omega) fun v4 M4 hu4 hN4 _ _ => p3 M4 v4 hu4 ?_
      rw [e3, ← List.append_assoc]; exact hN4
    · rename_i hz
      have e3 : w3 = [] := by rw [← hW3]; unfold w1O; rw [if_neg hz]
      refine p3 M3 v3 hu3 ?_
      rw [e3, List.append_nil]; exact hN3
  have p1 : ∀ (M3 : Store) (v3 : Value), Up M1 M3 → NV sv Ty.string M1 M3 v3 w1 → P_optn_Print_1 (.pointer (some ⟨M.n, 0, none⟩)) v3 M3 Q := by
    intro M3 v3 hu3 hN3
    apply T_optn_Print_1
    unfold S_optn_Print_1
    simp only [fad0, (o1.up hu3).l4]
    rw [BR_bool]
    split
    · rename_i hz
      have e3 : w2 = [wFast] := by rw [← hW2]; unfold w1O; rw [if_pos hz]
      rw [bl_sv1, LT_eq]
      refine NV.app1 hu3 (Nat.le_refl _) hu3.n hN3 wFast rfl (by omega) fun v4 M4 hu4 hN4 _ _ => p2 M4 v4 hu4 ?_
      rw [e3]; exact hN4
    · rename_i hz
      have e3 : w2 = [] := by rw [← hW2]; unfold w1O; rw [if_neg hz]
      refine p2 M3 v3 hu3 ?_
      rw [e3, List.append_nil]; exact hN3
  simp only [fad0, o1.l4]
  rw [BR_bool]
  split
  · rename_i hz
    have e3 : w1 = [wDry] := by rw [← hW1]; unfold w1O; rw [if_pos hz]
    rw [bl_sv1, LT_eq]
    refine NV.app1 (Ch.refl _ _ : Up M1 M1) (Nat.le_refl _) (Nat.le_refl _) (NV.nil (En := sv)) wDry rfl (by simp) fun v4 M4 hu4 hN4 _ _ => p1 M4 v4 hu4 ?_
    rw [e3]; exact hN4
  · rename_i hz
    have e3 : w1 = [] := by rw [← hW1]; unfold w1O; rw [if_neg hz]
    refine p1 M1 _ (Ch.refl _ _) ?_
    rw [e3]; exact NV.nil
end Go.G
