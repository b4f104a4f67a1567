/- What is told at once is right: closed calls answer true, each by its run; functions that run in place by the model. -/
import Derived.Test.YtjchjhkhopcalaaGreatDoorPRZ
import Derived.Test.YtjchjhkhopcalaaGreatDoorPKE
import Derived.Test.YtjchjhkhopcalaaGreatDoorPSH
namespace Go.G
open Go.Ab Go.Proofs Go.RowKit
set_option linter.unusedVariables false
set_option maxRecDepth 100000
def XT : Ext := fun f => bif Nat.beq f F.a then some gm else bif Nat.beq f F.c then some ga else bif Nat.beq f F.g then some gh else bif Nat.beq f F.f then some f7 else bif Nat.beq f F.h then some gp else bif Nat.beq f F.b then some gd else bif Nat.beq f F.d then some ij else bif Nat.beq f F.e then some ed else none
theorem iY : ∀ f g, XT f = some g → aj Tryz.prog f g ∨ aX Tryz.prog f g := by
 intro f g h
 unfold XT at h
 cases h0 : Nat.beq f F.a with
 | true => rw [h0, cond_true] at h; injection h with h; subst h; obtain rfl := Nat.eq_of_beq_eq_true h0; exact .inr (fM Tryz.func188 (by kernel_rfl) (by kernel_rfl) (by kernel_rfl) (by kernel_rfl))
 | false =>
  rw [h0, cond_false] at h
  cases h1 : Nat.beq f F.c with
  | true => rw [h1, cond_true] at h; injection h with h; subst h; obtain rfl := Nat.eq_of_beq_eq_true h1; exact .inr (fH Tryz.func177 (by kernel_rfl) (by kernel_rfl) (by kernel_rfl) (by kernel_rfl))
  | false =>
   rw [h1, cond_false] at h
   cases h2 : Nat.beq f F.g with
   | true => rw [h2, cond_true] at h; injection h with h; subst h; obtain rfl := Nat.eq_of_beq_eq_true h2; exact .inl e7
   | false =>
    rw [h2, cond_false] at h
    cases h3 : Nat.beq f F.f with
    | true => rw [h3, cond_true] at h; injection h with h; subst h; obtain rfl := Nat.eq_of_beq_eq_true h3; exact .inl eV
    | false =>
     rw [h3, cond_false] at h
     cases h4 : Nat.beq f F.h with
     | true => rw [h4, cond_true] at h; injection h with h; subst h; obtain rfl := Nat.eq_of_beq_eq_true h4; exact .inl e8
     | false =>
      rw [h4, cond_false] at h
      cases h5 : Nat.beq f F.b with
      | true => rw [h5, cond_true] at h; injection h with h; subst h; obtain rfl := Nat.eq_of_beq_eq_true h5; exact .inl eX
      | false =>
       rw [h5, cond_false] at h
       cases h6 : Nat.beq f F.d with
       | true => rw [h6, cond_true] at h; injection h with h; subst h; obtain rfl := Nat.eq_of_beq_eq_true h6; exact .inl fO
       | false =>
        rw [h6, cond_false] at h
        cases h7 : Nat.beq f F.e with
        | true => rw [h7, cond_true] at h; injection h with h; subst h; obtain rfl := Nat.eq_of_beq_eq_true h7; exact .inl dS
        | false =>
         rw [h7, cond_false] at h
         cases h
def EC : Ext := XT
theorem io : ∀ f g, EC f = some g → aj Tryz.prog f g ∨ aX Tryz.prog f g := iY
theorem fG {k : Nat} {f : FuncId} (hf : EC f = none) (h : okB (af Tryz.prog EC k true f #[] M00) = true) : aj Tryz.prog f fm := by
 obtain ⟨M', h⟩ := ff h
 exact gM (dA EC io k hf) h
theorem fk : okB (af Tryz.prog EC 9000 true F.l #[] M00) = true := by kernel_rfl
theorem eC : okB (af Tryz.prog EC 9000 true F.j #[] M00) = true := by kernel_rfl
theorem ip : ∀ f g, Ex f = some g → aj Tryz.prog f g ∨ aX Tryz.prog f g := by
 intro f g h
 unfold Ex at h
 cases h0 : Nat.beq f F.l with
 | true => rw [h0, cond_true] at h; injection h with h; subst h; obtain rfl := Nat.eq_of_beq_eq_true h0; exact .inl (fG rfl fk)
 | false =>
  rw [h0, cond_false] at h
  cases h1 : Nat.beq f F.j with
  | true => rw [h1, cond_true] at h; injection h with h; subst h; obtain rfl := Nat.eq_of_beq_eq_true h1; exact .inl (fG rfl eC)
  | false =>
   rw [h1, cond_false] at h
   cases h2 : Nat.beq f F.a with
   | true => rw [h2, cond_true] at h; injection h with h; subst h; obtain rfl := Nat.eq_of_beq_eq_true h2; exact .inr (fM Tryz.func188 (by kernel_rfl) (by kernel_rfl) (by kernel_rfl) (by kernel_rfl))
   | false =>
    rw [h2, cond_false] at h
    cases h3 : Nat.beq f F.c with
    | true => rw [h3, cond_true] at h; injection h with h; subst h; obtain rfl := Nat.eq_of_beq_eq_true h3; exact .inr (fH Tryz.func177 (by kernel_rfl) (by kernel_rfl) (by kernel_rfl) (by kernel_rfl))
    | false =>
     rw [h3, cond_false] at h
     cases h4 : Nat.beq f F.g with
     | true => rw [h4, cond_true] at h; injection h with h; subst h; obtain rfl := Nat.eq_of_beq_eq_true h4; exact .inl e7
     | false =>
      rw [h4, cond_false] at h
      cases h5 : Nat.beq f F.f with
      | true => rw [h5, cond_true] at h; injection h with h; subst h; obtain rfl := Nat.eq_of_beq_eq_true h5; exact .inl eV
      | false =>
       rw [h5, cond_false] at h
       cases h6 : Nat.beq f F.h with
       | true => rw [h6, cond_true] at h; injection h with h; subst h; obtain rfl := Nat.eq_of_beq_eq_true h6; exact .inl e8
       | false =>
        rw [h6, cond_false] at h
        cases h7 : Nat.beq f F.b with
        | true => rw [h7, cond_true] at h; injection h with h; subst h; obtain rfl := Nat.eq_of_beq_eq_true h7; exact .inl eX
        | false =>
         rw [h7, cond_false] at h
         cases h8 : Nat.beq f F.d with
         | true => rw [h8, cond_true] at h; injection h with h; subst h; obtain rfl := Nat.eq_of_beq_eq_true h8; exact .inl fO
         | false =>
          rw [h8, cond_false] at h
          cases h9 : Nat.beq f F.e with
          | true => rw [h9, cond_true] at h; injection h with h; subst h; obtain rfl := Nat.eq_of_beq_eq_true h9; exact .inl dS
          | false =>
           rw [h9, cond_false] at h
           cases h
end Go.G
