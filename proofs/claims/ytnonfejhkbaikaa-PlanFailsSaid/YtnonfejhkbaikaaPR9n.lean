/- Numbers of digits, by the document (as in W4c, for a seat that has acts). -/
import Derived.Test.YtnonfejhkbaikaaPUG
import Derived.Test.YtnonfejhkbaikaaPN1
import Derived.Test.YtnonfejhkbaikaaPQ4
import Derived.Test.YtnonfejhkbaikaaPKE
namespace Go.G
open Go.Ab Go.Proofs Go.RowKit
set_option linter.unusedVariables false
set_option linter.unusedSimpArgs false
set_option maxRecDepth 100000
def DL : Option Nat → Value
 | none => .tuple #[iv 0, tv false]
 | some n => .tuple #[iv (n : Int), tv true]
theorem uN {d : Nat} {x : List UInt8} {i : Nat} (h : i < x.length) (hb : kG x[i] = false ∨ d ≤ i) : sL d x = none := by
 unfold sL
 rw [if_neg]
 rintro ⟨h1, h2, _⟩
 rcases hb with hb | hb
 ·have := List.all_eq_true.1 h1 _ (List.getElem_mem h)
  rw [hb] at this; cases this
 ·omega
theorem Bb {M : Store} {x : List UInt8} {d : Nat} (hx : x.length ≤ 2 ^ 40) (hd : d ≤ 9) {Q : Value → Store → Prop} (hQ : Q (DL (sL d x)) M) :
    ∀ (k i : Nat), k + i = x.length → i ≤ d → (x.take i).all kG = true → dp (sv x) (iv (d : Int)) (iv ((pY 0 (x.take i) : Nat) : Int)) (iv (i : Int)) M Q := by
 intro k
 induction k with
 | zero =>
  intro i hi hid ha
  apply qr
  unfold j9
  rw [eK, ag, ae, if_neg (by omega)]
  rw [List.take_of_length_le (by omega)] at ha ⊢
  apply yS
  unfold qg
  unfold sL at hQ
  show OP (ao .eql (sv x) (sv [])) _
  rw [jz, ae]
  split
  ·rename_i he
   rw [if_neg (by rintro ⟨_, _, h, _⟩; exact h he)] at hQ
   exact ⟨rfl, hQ⟩
  ·rename_i he
   show OP (ao .neq (sv x) (sv [48])) _
   rw [D3, nY]
   split
   ·rename_i h48
    cases x with
    | nil => exact absurd rfl he
    | cons c r =>
     rw [EV, cU (d := 48) (n := 48) rfl, ae]
     split
     ·rename_i hc
      rw [if_neg (by
       rintro ⟨_, _, _, h⟩
       rcases h with h | h
       ·exact h48 h
       ·simp at h; exact h hc)] at hQ
      exact ⟨rfl, hQ⟩
     ·rename_i hc
      rw [if_pos ⟨ha, by omega, he, .inr (by simpa using hc)⟩] at hQ
      exact ⟨rfl, hQ⟩
   ·rename_i h48
    have h48 : x = [48] := by simpa using h48
    rw [if_pos ⟨ha, by omega, he, .inl h48⟩] at hQ
    exact ⟨rfl, hQ⟩
 | succ k ih =>
  intro i hi hid ha
  have hil : i < x.length := by omega
  apply qr
  unfold j9
  rw [eK, ag, ae, if_pos hil]
  apply yR
  unfold qf
  rw [kF x i hil, sy (d := 48) (n := 48) rfl, ae]
  split
  ·rename_i hlo
   rw [uN hil (.inl (by unfold kG; rw [decide_eq_false (by rw [UInt8.le_iff_toNat_le]; rw [UInt8.lt_iff_toNat_lt] at hlo; omega), Bool.false_and]))] at hQ
   exact ⟨rfl, hQ⟩
  ·rename_i hlo
   rw [kF x i hil, sw (d := 57) (n := 57) rfl, ae]
   split
   ·rename_i hhi
    rw [uN hil (.inl (by unfold kG; rw [decide_eq_false (p := x[i] ≤ 57) (by rw [UInt8.le_iff_toNat_le]; rw [UInt8.lt_iff_toNat_lt] at hhi; omega), Bool.and_false]))] at hQ
    exact ⟨rfl, hQ⟩
   ·rename_i hhi
    have hdg : kG x[i] = true := by
     rw [sG]
     rw [UInt8.lt_iff_toNat_lt] at hlo hhi
     have e1 : (48 : UInt8).toNat = 48 := rfl
     have e2 : (57 : UInt8).toNat = 57 := rfl
     omega
    rw [gD, ae]
    split
    ·rename_i hdi
     rw [uN hil (.inr hdi)] at hQ
     exact ⟨rfl, hQ⟩
    ·rename_i hdi
     have hv := CD (x.take i) 0 ha
     have htl : (x.take i).length = i := by rw [List.length_take]; omega
     rw [htl] at hv
     have hp : 10 ^ i ≤ 10 ^ 8 := Nat.pow_le_pow_right (by decide) (by omega)
     have hcd := sG.1 hdg
     have em : ∀ (a : Nat) (K : Value → Prop), a ≤ 10 ^ 9 → OP (ad .mul (.int .i64 10) (iv (a : Int))) K = K (iv ((10 * a : Nat) : Int)) := by
      intro a K ha
      show OP (ad .mul (.int .i64 10) (.int .i64 (a : Int))) K = _
      rw [GX, w64 (by omega) (by omega)]
      rfl
     rw [em _ _ (by omega), kF x i hil]
     have es : ∀ (c : UInt8) (K : Value → Prop), 48 ≤ c.toNat → OP (ad .sub (bv c) (.int .u8 48)) K = K (.int .u8 ((c.toNat - 48 : Nat) : Int)) := by
      intro c K hc
      show OP (ad .sub (.int .u8 (c.toNat : Int)) (.int .u8 48)) K = _
      rw [pA]
      have h1 : IntKind.wrap .u8 ((c.toNat : Int) - 48) = ((c.toNat - 48 : Nat) : Int) := by
       have h : IntKind.wrap .u8 ((c.toNat : Int) - 48) = ((c.toNat : Int) - 48) % 256 := by simp [IntKind.wrap, IntKind.bits, IntKind.signed]
       have := c.toNat_lt
       rw [h]; omega
      rw [h1]
     rw [es _ _ hcd.1, Dv, w64 (by omega) (by omega)]
     show OP (ad .add (iv _) (iv ((x[i].toNat - 48 : Nat) : Int))) _
     rw [wq _ _ (by omega), ah _ (by omega)]
     have hsn := yz (x.take i) 0 x[i]
     rw [← List.take_succ_eq_append_getElem hil] at hsn
     rw [← hsn]
     refine ih (i + 1) (by omega) (by omega) ?_
     rw [List.take_succ_eq_append_getElem hil, List.all_append, ha]
     simpa using hdg
theorem Ed {M : Store} {x : List UInt8} {d : Nat} (hx : x.length ≤ 2 ^ 40) (hd : d ≤ 9) {Q : Value → Store → Prop} (hQ : Q (DL (sL d x)) M) : R F.v #[sv x, iv (d : Int)] M Q := by
 apply Bg
 unfold tB
 exact Bb hx hd hQ x.length 0 rfl (Nat.zero_le _) rfl
end Go.G
