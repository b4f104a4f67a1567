/- Layer 6: an action is run: what comes of it is one's own. -/
import Derived.Test.YtpacolplhcfamaaPR6b
namespace Go.G
open Go.Ab Go.Proofs Go.RowKit
set_option linter.unusedVariables false
set_option linter.unusedSimpArgs false
set_option maxRecDepth 100000

/-! ## all of them together -/
theorem byteOf_bv : ∀ l : List UInt8, Go.Ab.byteOf (l.map bv) = some l
  | [] => rfl
  | c :: l => by
    have h : Nat.blt c.toNat 256 = true := by have := c.toNat_lt; simpa using this
    show (bif Nat.blt c.toNat 256 then (Go.Ab.byteOf (l.map bv)).map (UInt8.ofNat c.toNat :: ·) else none) = _
    rw [h, cond_true, byteOf_bv l]
    simp
theorem partOf_B {M : Store} {v : Value} {l : List UInt8} (h : B M v l) : partOf M v = some l := by
  obtain ⟨h1, a, c, rfl, h3, h4⟩ := h
  cases l with
  | nil => rfl
  | cons x l =>
    obtain ⟨b, o, cells, e', own, rfl, h6, h7, h8, h9⟩ := h4 (by simp)
    have e : Nat.beq (x :: l).length 0 = false := rfl
    have hr := row_of (o := o) (k := (x :: l).length) h6 (by rw [Nat.mul_one] at h8; exact h8)
    simp only [partOf, e, cond_false, hr, Option.bind_some]
    rw [Nat.mul_one] at h9
    rw [h9]
    exact byteOf_bv _
theorem partsOf_B {M : Store} : ∀ {vs : List Value} {ls : List (List UInt8)}, Each (B M) vs ls → partsOf M vs = some ls
  | [], [], _ => rfl
  | v :: vs, l :: ls, h => by
    simp only [partsOf]
    rw [partOf_B h.1, partsOf_B h.2]; rfl
theorem Join_ok {M : Store} {x : Value} {ls : List (List UInt8)} (h : BL M x ls) (hl : ls.length ≤ 100) (hs : ∀ l ∈ ls, l.length ≤ 2 ^ 12) {Q : Value → Store → Prop} (hQ : ∀ v M', Up M M' → B M' v (joinL [] ls) → Q v M') : R F.bytes_Join #[x, .slice none 0 0] M Q := by
  have hle : (joinL [] ls).length ≤ 100 * 2 ^ 12 := by
    rw [joinL_nil, List.length_flatten]
    have h2 := sumL_le (2 ^ 12) ls hs
    have h3 : ls.length * 2 ^ 12 ≤ 100 * 2 ^ 12 := Nat.mul_le_mul_right _ hl
    unfold sumL at h2; omega
  obtain ⟨vs, ⟨h1, a, c, rfl, h3, h4⟩, hE⟩ := h
  have hx : ∃ v M', bjoinX #[.slice a ls.length c, .slice none 0 0] M = some (v, M') ∧ Up M M' ∧ B M' v (joinL [] ls) := by
    cases ls with
    | nil => exact ⟨.slice (some ⟨0, 0, none⟩) 0 2, M, rfl, Ch.refl _ _, ⟨rfl, _, 2, rfl, fun x hx => by injection hx with hx; subst hx; rfl, fun h => absurd h (Nat.lt_irrefl 0)⟩⟩
    | cons l ls =>
      obtain ⟨b, o, cells, e', own, rfl, h6, h7, h8, h9⟩ := h4 (by simp)
      have e : Nat.beq (l :: ls).length 0 = false := rfl
      have hr := row_of (o := o) (k := (l :: ls).length) h6 (by rw [Nat.mul_one] at h8; exact h8)
      rw [Nat.mul_one] at h9
      have hp : (rowOf M b o (l :: ls).length).bind (partsOf M) = some (l :: ls) := by rw [hr, Option.bind_some, h9]; exact partsOf_B hE
      have hn : Nat.ble (l :: ls).length 140737488355328 = true := Nat.ble_eq_true_of_le (by omega)
      show ∃ v M', (bif Nat.beq (l :: ls).length 0 then some (Value.slice (some ⟨0, 0, none⟩) 0 2, M) else match (rowOf M b o (l :: ls).length).bind (partsOf M) with
        | some ls' => bif Nat.beq (joinL [] ls').length 0 then (bif Nat.beq (l :: ls).length 1 then some (Value.slice none 0 0, M) else bif Nat.ble (l :: ls).length 140737488355328 then some (Value.slice (some ⟨0, 0, none⟩) 0 2, M) else none)
          else bif Nat.ble (joinL [] ls').length 140737488355328 && Nat.ble (l :: ls).length 140737488355328 then some (Value.slice (some ⟨M.n, 0, none⟩) (joinL [] ls').length ((joinL [] ls').length + 2), M.push (some (Sum.inl ((joinL [] ls').map bv, 0, false)))) else none
        | none => none) = some (v, M') ∧ _
      rw [e, cond_false, hp]
      simp only
      generalize joinL [] (l :: ls) = j at *
      have hj : Nat.ble j.length 140737488355328 = true := Nat.ble_eq_true_of_le (by omega)
      cases j with
      | nil =>
        have e0 : Nat.beq ([] : List UInt8).length 0 = true := rfl
        rw [e0, cond_true]
        cases Nat.beq (l :: ls).length 1 with
        | true => exact ⟨_, M, rfl, Ch.refl _ _, Sl.nil _ _ _⟩
        | false => rw [cond_false, hn, cond_true]; exact ⟨_, M, rfl, Ch.refl _ _, ⟨rfl, _, 2, rfl, fun x hx => by injection hx with hx; subst hx; rfl, fun h => absurd h (Nat.lt_irrefl 0)⟩⟩
      | cons q j =>
        have e0 : Nat.beq (q :: j).length 0 = false := rfl
        rw [e0, cond_false, hj, hn, Bool.true_and, cond_true]
        refine ⟨_, _, rfl, Up.push _ _, ⟨by simp, _, _, rfl, fun x hx => by injection hx with hx; subst hx; rfl, fun _ => ⟨M.n, 0, (q :: j).map bv, 0, false, rfl, Store.get_push_eq _ _, (fun h => by cases h), (by simp), (by rw [List.drop_zero, List.take_of_length_le (by simp)])⟩⟩⟩
  obtain ⟨v, M', e, hu, hB⟩ := hx
  exact R_told (g := bjoinB) (by kernel_rfl) e (hQ v M' hu hB)
end Go.G
