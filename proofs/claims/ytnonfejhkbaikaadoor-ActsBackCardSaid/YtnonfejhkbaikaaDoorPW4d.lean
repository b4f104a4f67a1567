/- Dec of the document. -/
import Derived.Test.YtnonfejhkbaikaaDoorPN1
import Derived.Test.YtnonfejhkbaikaaDoorPGDd
import Derived.Lib.ItoaNum
namespace Go.G
open Go.Ab Go.Proofs Go.RowKit
set_option linter.unusedVariables false
set_option linter.unusedSimpArgs false
set_option maxRecDepth 100000

theorem ddz_small {u : Nat} (h : u < 10) : Lib.decDigits u = [UInt8.ofNat (48 + u)] := by rw [Lib.decDigits, dif_pos h]
theorem ddz_big {u : Nat} (h : ¬ u < 10) : Lib.decDigits u = Lib.decDigits (u / 10) ++ [UInt8.ofNat (48 + u % 10)] := by rw [Lib.decDigits, dif_neg h]
/-- Dec of the document. -/
theorem Dec_loop {M0 : Store} {Q : Value → Store → Prop} (full : List UInt8) (hfl : full.length ≤ 100) (hQ : ∀ M, Up M0 M → Q (sv full) M) : ∀ (n : Nat) (x : List UInt8) (M : Store), n < 2 ^ 62 → Up M0 M → (if n = 0 ∧ x ≠ [] then x else Lib.decDigits n ++ x) = full → P_fettleref4_Dec_1 (iv (n : Int)) (sv x) M Q := by
  intro n
  induction n using Nat.strongRecOn with
  | _ n ih =>
    intro x M hn hu hx
    have two : (n = 0 → x = []) → P_fettleref4_Dec_2 (iv (n : Int)) (sv x) M Q := by
      intro h0
      have hx : Lib.decDigits n ++ x = full := by
        rw [← hx, if_neg]
        rintro ⟨h1, h2⟩; exact h2 (h0 h1)
      apply T_fettleref4_Dec_2
      unfold S_fettleref4_Dec_2
      have er : binI .rem (iv (n : Int)) (.int .i64 10) = some (iv ((n % 10 : Nat) : Int)) := e_rem n 10 (by decide)
      rw [er, OP_some]
      show OP (binI .add (iv ((48 : Nat) : Int)) (iv ((n % 10 : Nat) : Int))) _
      rw [add_n _ _ (by omega)]
      have ec : ∀ K : Value → Prop, OP (cvI .u8 (iv ((48 + n % 10 : Nat) : Int))) K = K (bv (UInt8.ofNat (48 + n % 10))) := fun K => by
        show OP (cvI .u8 (.int .i64 _)) K = _
        rw [e_cvI, wrap_u8]; rfl
      rw [ec, bl_bv]
      refine s_lit (s := 1) rfl fun M1 u1 hl o1 n1 => ?_
      have hby : B M1 (.slice (some ⟨M.n, 0, none⟩) 1 1) [UInt8.ofNat (48 + n % 10)] := hl.sl
      rw [cvBS_ok hby, OP_some]
      have hxl : x.length ≤ 100 := by rw [← hx, List.length_append] at hfl; omega
      show OP (binS .add (sv [UInt8.ofNat (48 + n % 10)]) (sv x)) _
      rw [sv_add _ _ (by simp; omega)]
      have eq : binI .quo (iv (n : Int)) (.int .i64 10) = some (iv ((n / 10 : Nat) : Int)) := by
        have h : binI .quo (.int .i64 (n : Int)) (.int .i64 10) = if (10 : Int) = 0 then none else some (.int .i64 (IntKind.wrap .i64 ((n : Int).tdiv 10))) := rfl
        show binI .quo (.int .i64 (n : Int)) (.int .i64 10) = _
        rw [h, if_neg (by decide), Int.tdiv_eq_ediv_of_nonneg (by omega), w64 (by omega) (by omega)]; rfl
      rw [eq, OP_some]
      by_cases hs : n < 10
      · rw [ddz_small hs] at hx
        have e1 : n / 10 = 0 := by omega
        have e2 : n % 10 = n := by omega
        rw [e1, e2]
        have hne : [UInt8.ofNat (48 + n)] ++ x ≠ [] := by simp
        apply T_fettleref4_Dec_1
        unfold S_fettleref4_Dec_1
        show OP (binI .gtr (iv ((0 : Nat) : Int)) (.int .i64 0)) _
        rw [gtr_l 0 0 rfl, BR_dec, if_neg (by omega)]
        show OP (binS .eql (sv _) (sv [])) _
        rw [sv_eq, BR_dec, if_neg hne]
        apply T_fettleref4_Dec_3
        unfold S_fettleref4_Dec_3
        rw [hx]
        exact ⟨rfl, hQ _ (hu.trans u1)⟩
      · refine ih (n / 10) (by omega) _ M1 (by omega) (hu.trans u1) ?_
        rw [if_neg (by omega), ← hx, ddz_big hs, List.append_assoc]
    apply T_fettleref4_Dec_1
    unfold S_fettleref4_Dec_1
    rw [gtr_l 0 0 rfl, BR_dec]
    split
    · rename_i h; exact two fun h0 => by omega
    · rename_i h
      show OP (binS .eql (sv _) (sv [])) _
      rw [sv_eq, BR_dec]
      split
      · rename_i h2; exact two fun _ => h2
      · rename_i h2
        apply T_fettleref4_Dec_3
        unfold S_fettleref4_Dec_3
        rw [if_pos ⟨by omega, h2⟩] at hx
        rw [hx]
        exact ⟨rfl, hQ _ hu⟩
theorem Dec_ok {M : Store} {n : Nat} (hn : n < 2 ^ 62) (hl : (Lib.decDigits n).length ≤ 100) : R F.fettleref4_Dec #[iv (n : Int)] M fun v M' => Up M M' ∧ v = sv (Lib.decDigits n) := by
  refine R.cps fun Q hQ => ?_
  apply T_fettleref4_Dec
  unfold S_fettleref4_Dec
  exact Dec_loop (M0 := M) (Lib.decDigits n) hl (fun M' hu => hQ _ _ ⟨hu, rfl⟩) n [] M hn (Ch.refl _ _) (by simp)
end Go.G
