/- Layer 6: an action is run: what comes of it is one's own. -/
import Derived.Test.YtpacolplhcfamaaPR6
namespace Go.G
open Go.Ab Go.Proofs Go.RowKit
set_option linter.unusedVariables false
set_option linter.unusedSimpArgs false
set_option maxRecDepth 100000

abbrev BL (M : Store) (v : Value) (ls : List (List UInt8)) : Prop := Ls B Ty.sl_uint8 M v ls
theorem B_up (M M' : Store) (v : Value) (x : List UInt8) (h : B M v x) (k : Up M M') : B M' v x := Sl.up h k
theorem bl_ld {M : Store} {v : Value} {ls : List (List UInt8)} (h : BL M v ls) {i : Nat} (hi : i < ls.length) {K : Value → Prop} (hK : ∀ w, B M w ls[i] → K w) : OP (ixA 1 v (iv (i : Int))) fun p => OP (ld 1 false p M) K := by
  obtain ⟨p, w, e1, e2, e3⟩ := h.at hi .i64
  show OP (ixA 1 v (.int .i64 (i : Int))) _
  rw [e1, OP_some, e2, OP_some]
  exact hK w e3

/-! ## room, and together -/
theorem Grow6_ok {M : Store} {n : Nat} (hn : n ≤ 2 ^ 20) : R F.slices_Grow_sl_byte_byte #[.slice none 0 0, iv (n : Int)] M fun v M' => Up M M' ∧ N M M' v [] := by
  refine R.cps fun Q hQ => ?_
  apply T_slices_Grow_sl_byte_byte
  unfold S_slices_Grow_sl_byte_byte
  show OP (binI .lss (.int .i64 (n : Int)) (.int .i64 0)) _
  rw [e_lss, BR_dec, if_neg (by omega)]
  apply T_slices_Grow_sl_byte_byte_1
  unfold S_slices_Grow_sl_byte_byte_1
  simp only [show capV (.slice none 0 0) = some (.int .i64 0) from rfl, show lenV (.slice none 0 0) = some (.int .i64 0) from rfl, OP_some]
  rw [e_sub]
  show OP (binI .sub (.int .i64 (n : Int)) (.int .i64 0)) _
  rw [e_sub, w64 (by omega) (by omega), Int.sub_zero]
  show OP (binI .gtr (.int .i64 (n : Int)) (.int .i64 0)) _
  rw [e_gtr, BR_dec]
  split
  · rename_i hpos
    have hp : 0 < n := by omega
    have hz : appZ (.int .u8 0) 1 Ty.uint8 (.slice none 0 0) (.int .i64 (n : Int)) M = some (.slice (some ⟨M.n, 0, none⟩) n (n + 1), M.push (some (.inl (zerosL (.int .u8 0) n, Ty.uint8, true)))) := by
      unfold appZ newZ
      simp only
      rw [if_pos ⟨by omega, by omega⟩, Option.bind_some, Int.toNat_natCast, Nat.mul_one]
      unfold appG
      simp only
      rw [if_neg (by omega), if_pos (by omega)]
      simp [agrow]
    rw [show slV 1 Ty.uint8 (.slice none 0 0) none (some (.int .i64 0)) M = some (.slice none 0 0) by simp [slV, abound], OP_some]
    show OP2 (appZ (.int .u8 0) 1 Ty.uint8 (.slice none 0 0) (.int .i64 (n : Int)) M) _
    rw [hz, OP2_some]
    have hs : slV 1 Ty.uint8 (.slice (some ⟨M.n, 0, none⟩) n (n + 1)) none (some (.int .i64 0)) (M.push (some (.inl (zerosL (.int .u8 0) n, Ty.uint8, true)))) = some (.slice (some ⟨M.n, 0, none⟩) 0 1) := by
      have he : elemOk (M.push (some (.inl (zerosL (.int .u8 0) n, Ty.uint8, true)))) (some ⟨M.n, 0, none⟩) Ty.uint8 = true := by
        have hg : (M.push (some (.inl (zerosL (.int .u8 0) n, Ty.uint8, true)))).get M.n = some (.inl (zerosL (.int .u8 0) n, Ty.uint8, true)) := Ob.new _ _ _
        simp [elemOk, hg]
      simp [slV, abound, he, hp, Addr.add]
    show OP (slV 1 Ty.uint8 (.slice (some ⟨M.n, 0, none⟩) n (n + 1)) none (some (.int .i64 0)) (M.push (some (.inl (zerosL (.int .u8 0) n, Ty.uint8, true))))) _
    rw [hs, OP_some]
    have hu := Up.push M (some (.inl (zerosL (.int .u8 0) n, Ty.uint8, true)))
    exact ⟨rfl, hQ _ _ ⟨hu, rfl, .inr ⟨M.n, zerosL (.int .u8 0) n, 1, rfl, Nat.le_refl _, Ob.new _ _ _, by simp, by simp, .inr rfl⟩⟩⟩
  · exact ⟨rfl, hQ _ _ ⟨Ch.refl _ _, Nw.nil _ _ _ _⟩⟩
def sumL (ls : List (List UInt8)) : Nat := (ls.map List.length).sum
theorem sumL_snoc {ls : List (List UInt8)} {i : Nat} (h : i < ls.length) : sumL (ls.take (i + 1)) = sumL (ls.take i) + ls[i].length := by
  unfold sumL
  rw [List.take_succ_eq_append_getElem h, List.map_append, List.sum_append]
  have : (List.map List.length [ls[i]]).sum = ls[i].length := by simp
  rw [this]
theorem sumL_le (m : Nat) : ∀ ls : List (List UInt8), (∀ l ∈ ls, l.length ≤ m) → sumL ls ≤ ls.length * m
  | [], _ => by simp [sumL]
  | l :: ls, h => by
    have h1 := h l (by simp)
    have h2 := sumL_le m ls fun x hx => h x (by simp [hx])
    have e : sumL (l :: ls) = l.length + sumL ls := by simp [sumL]
    rw [e, List.length_cons, Nat.succ_mul]
    omega
theorem concat_loop {M : Store} {x : Value} {ls : List (List UInt8)} (h : BL M x ls) (hl : ls.length ≤ 100) (hs : ∀ l ∈ ls, l.length ≤ 2 ^ 12) {Q : Value → Store → Prop} (hK : P_slices_Concat_sl_byte_byte_3 x (iv (sumL ls : Int)) M Q) :
    ∀ (k i : Nat), k + i = ls.length → P_slices_Concat_sl_byte_byte_1 x (iv (sumL (ls.take i) : Int)) x (iv (ls.length : Int)) (iv (i : Int)) M Q := by
  intro k
  induction k with
  | zero =>
    intro i hi
    apply T_slices_Concat_sl_byte_byte_1
    unfold S_slices_Concat_sl_byte_byte_1
    rw [lss_n, BR_dec, if_neg (by omega), List.take_of_length_le (by omega)]
    exact hK
  | succ k ih =>
    intro i hi
    apply T_slices_Concat_sl_byte_byte_1
    unfold S_slices_Concat_sl_byte_byte_1
    have hil : i < ls.length := by omega
    rw [lss_n, BR_dec, if_pos hil]
    apply T_slices_Concat_sl_byte_byte_2
    unfold S_slices_Concat_sl_byte_byte_2
    refine bl_ld h hil fun w hw => ?_
    have h1 := hs _ (List.getElem_mem hil)
    have h2 := sumL_le (2 ^ 12) (ls.take i) fun l hl => hs l (List.mem_of_mem_take hl)
    have h3 : (ls.take i).length * 2 ^ 12 ≤ 100 * 2 ^ 12 := Nat.mul_le_mul_right _ (by rw [List.length_take]; omega)
    rw [by_len hw, add_n _ _ (by omega)]
    show OP (binI .lss (.int .i64 ((sumL (ls.take i) + ls[i].length : Nat) : Int)) (.int .i64 0)) _
    rw [e_lss, BR_dec, if_neg (by omega), add1_n _ (by omega), ← sumL_snoc hil]
    exact ih (i + 1) (by omega)
theorem concat_loop2 {M0 : Store} {x : Value} {ls : List (List UInt8)} (h : BL M0 x ls) (hl : ls.length ≤ 100) (hs : ∀ l ∈ ls, l.length ≤ 2 ^ 12) {Q : Value → Store → Prop} (hQ : ∀ w M t, Up M0 M → N M0 M w t → t.length = sumL ls → Q w M) :
    ∀ (k i : Nat) (w : Value) (t : List UInt8) (M : Store), k + i = ls.length → Up M0 M → N M0 M w t → t.length = sumL (ls.take i) → P_slices_Concat_sl_byte_byte_4 w x (iv (ls.length : Int)) (iv (i : Int)) M Q := by
  intro k
  induction k with
  | zero =>
    intro i w t M hi hu hN ht
    apply T_slices_Concat_sl_byte_byte_4
    unfold S_slices_Concat_sl_byte_byte_4
    rw [lss_n, BR_dec, if_neg (by omega)]
    apply T_slices_Concat_sl_byte_byte_5
    unfold S_slices_Concat_sl_byte_byte_5
    rw [List.take_of_length_le (by omega)] at ht
    exact ⟨nts_of hN.by, hQ w M t hu hN ht⟩
  | succ k ih =>
    intro i w t M hi hu hN ht
    apply T_slices_Concat_sl_byte_byte_4
    unfold S_slices_Concat_sl_byte_byte_4
    have hil : i < ls.length := by omega
    rw [lss_n, BR_dec, if_pos hil]
    refine bl_ld (h.up B_up hu) hil fun u hw => ?_
    have h1 := hs _ (List.getElem_mem hil)
    have h2 := sumL_le (2 ^ 12) (ls.take i) fun l hl => hs l (List.mem_of_mem_take hl)
    have h3 : (ls.take i).length * 2 ^ 12 ≤ 100 * 2 ^ 12 := Nat.mul_le_mul_right _ (by rw [List.length_take]; omega)
    refine app_by hu hN hw (by omega) fun w1 M1 hu1 hN1 _ => ?_
    rw [add1_n _ (by omega)]
    exact ih (i + 1) w1 _ M1 (by omega) hu1 hN1 (by rw [List.length_append, ht, sumL_snoc hil])
theorem Concat6_ok {M : Store} {x : Value} {ls : List (List UInt8)} (h : BL M x ls) (hl : ls.length ≤ 100) (hs : ∀ l ∈ ls, l.length ≤ 2 ^ 12) : R F.slices_Concat_sl_byte_byte #[x] M fun v M' => Up M M' ∧ ∃ t, N M M' v t ∧ t.length = sumL ls := by
  refine R.cps fun Q hQ => ?_
  apply T_slices_Concat_sl_byte_byte
  unfold S_slices_Concat_sl_byte_byte
  rw [h.lenV, OP_some]
  refine concat_loop h hl hs ?_ ls.length 0 rfl
  apply T_slices_Concat_sl_byte_byte_3
  unfold S_slices_Concat_sl_byte_byte_3
  have h2 := sumL_le (2 ^ 12) ls hs
  have h3 : ls.length * 2 ^ 12 ≤ 100 * 2 ^ 12 := Nat.mul_le_mul_right _ hl
  refine (Grow6_ok (n := sumL ls) (by omega)).mono fun w M1 ⟨u1, h1⟩ => ?_
  rw [(h.up B_up u1).lenV, OP_some]
  exact concat_loop2 (M0 := M) h hl hs (fun w M' t hu hN ht => hQ _ _ ⟨hu, t, hN, ht⟩) ls.length 0 w [] M1 rfl u1 h1 rfl
end Go.G
