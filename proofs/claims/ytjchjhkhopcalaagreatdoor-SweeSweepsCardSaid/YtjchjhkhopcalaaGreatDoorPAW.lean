/- What is told at once is right: closed calls answer true, each by its run; functions that run in place by the model. -/
import Derived.Test.YtjchjhkhopcalaaGreatDoorPRZ
import Derived.Test.YtjchjhkhopcalaaGreatDoorPKE
import Derived.Test.YtjchjhkhopcalaaGreatDoorPSH
namespace Go.G
open Go.Ab Go.Proofs Go.RowKit
set_option linter.unusedVariables false
set_option maxRecDepth 100000
def XT : Ext := fun f => bif Nat.beq f F.b then some l4 else bif Nat.beq f F.d then some lQ else bif Nat.beq f F.p then some nb else bif Nat.beq f F.o then some k7 else bif Nat.beq f F.x then some p3 else bif Nat.beq f F.e then some pO else bif Nat.beq f F.h then some r6 else bif Nat.beq f F.f then some fM else none
theorem uA : ∀ f g, XT f = some g → ay Tryz.prog f g ∨ dz Tryz.prog f g := by
 intro f g h
 unfold XT at h
 cases h0 : Nat.beq f F.b with
 | true => rw [h0, cond_true] at h; injection h with h; subst h; obtain rfl := Nat.eq_of_beq_eq_true h0; exact .inr (pc Tryz.func188 (by kernel_rfl) (by kernel_rfl) (by kernel_rfl) (by kernel_rfl))
 | false =>
  rw [h0, cond_false] at h
  cases h1 : Nat.beq f F.d with
  | true => rw [h1, cond_true] at h; injection h with h; subst h; obtain rfl := Nat.eq_of_beq_eq_true h1; exact .inr (o6 Tryz.func177 (by kernel_rfl) (by kernel_rfl) (by kernel_rfl) (by kernel_rfl))
  | false =>
   rw [h1, cond_false] at h
   cases h2 : Nat.beq f F.p with
   | true => rw [h2, cond_true] at h; injection h with h; subst h; obtain rfl := Nat.eq_of_beq_eq_true h2; exact .inl n3
   | false =>
    rw [h2, cond_false] at h
    cases h3 : Nat.beq f F.o with
    | true => rw [h3, cond_true] at h; injection h with h; subst h; obtain rfl := Nat.eq_of_beq_eq_true h3; exact .inl nH
    | false =>
     rw [h3, cond_false] at h
     cases h4 : Nat.beq f F.x with
     | true => rw [h4, cond_true] at h; injection h with h; subst h; obtain rfl := Nat.eq_of_beq_eq_true h4; exact .inl n5
     | false =>
      rw [h4, cond_false] at h
      cases h5 : Nat.beq f F.e with
      | true => rw [h5, cond_true] at h; injection h with h; subst h; obtain rfl := Nat.eq_of_beq_eq_true h5; exact .inl nL
      | false =>
       rw [h5, cond_false] at h
       cases h6 : Nat.beq f F.h with
       | true => rw [h6, cond_true] at h; injection h with h; subst h; obtain rfl := Nat.eq_of_beq_eq_true h6; exact .inl pf
       | false =>
        rw [h6, cond_false] at h
        cases h7 : Nat.beq f F.f with
        | true => rw [h7, cond_true] at h; injection h with h; subst h; obtain rfl := Nat.eq_of_beq_eq_true h7; exact .inl lA
        | false =>
         rw [h7, cond_false] at h
         cases h
def EC : Ext := XT
theorem ux : ∀ f g, EC f = some g → ay Tryz.prog f g ∨ dz Tryz.prog f g := uA
theorem o0 {k : Nat} {f : FuncId} (hf : EC f = none) (h : okB (aq Tryz.prog EC k true f #[] M00) = true) : ay Tryz.prog f mg := by
 obtain ⟨M', h⟩ := ui h
 exact qK (nJ EC ux k hf) h
theorem ol : okB (aq Tryz.prog EC 9000 true F.X #[] M00) = true := by kernel_rfl
theorem m4 : okB (aq Tryz.prog EC 9000 true F.E #[] M00) = true := by kernel_rfl
theorem uy : ∀ f g, Ex f = some g → ay Tryz.prog f g ∨ dz Tryz.prog f g := by
 intro f g h
 unfold Ex at h
 cases h0 : Nat.beq f F.X with
 | true => rw [h0, cond_true] at h; injection h with h; subst h; obtain rfl := Nat.eq_of_beq_eq_true h0; exact .inl (o0 rfl ol)
 | false =>
  rw [h0, cond_false] at h
  cases h1 : Nat.beq f F.E with
  | true => rw [h1, cond_true] at h; injection h with h; subst h; obtain rfl := Nat.eq_of_beq_eq_true h1; exact .inl (o0 rfl m4)
  | false =>
   rw [h1, cond_false] at h
   cases h2 : Nat.beq f F.b with
   | true => rw [h2, cond_true] at h; injection h with h; subst h; obtain rfl := Nat.eq_of_beq_eq_true h2; exact .inr (pc Tryz.func188 (by kernel_rfl) (by kernel_rfl) (by kernel_rfl) (by kernel_rfl))
   | false =>
    rw [h2, cond_false] at h
    cases h3 : Nat.beq f F.d with
    | true => rw [h3, cond_true] at h; injection h with h; subst h; obtain rfl := Nat.eq_of_beq_eq_true h3; exact .inr (o6 Tryz.func177 (by kernel_rfl) (by kernel_rfl) (by kernel_rfl) (by kernel_rfl))
    | false =>
     rw [h3, cond_false] at h
     cases h4 : Nat.beq f F.p with
     | true => rw [h4, cond_true] at h; injection h with h; subst h; obtain rfl := Nat.eq_of_beq_eq_true h4; exact .inl n3
     | false =>
      rw [h4, cond_false] at h
      cases h5 : Nat.beq f F.o with
      | true => rw [h5, cond_true] at h; injection h with h; subst h; obtain rfl := Nat.eq_of_beq_eq_true h5; exact .inl nH
      | false =>
       rw [h5, cond_false] at h
       cases h6 : Nat.beq f F.x with
       | true => rw [h6, cond_true] at h; injection h with h; subst h; obtain rfl := Nat.eq_of_beq_eq_true h6; exact .inl n5
       | false =>
        rw [h6, cond_false] at h
        cases h7 : Nat.beq f F.e with
        | true => rw [h7, cond_true] at h; injection h with h; subst h; obtain rfl := Nat.eq_of_beq_eq_true h7; exact .inl nL
        | false =>
         rw [h7, cond_false] at h
         cases h8 : Nat.beq f F.h with
         | true => rw [h8, cond_true] at h; injection h with h; subst h; obtain rfl := Nat.eq_of_beq_eq_true h8; exact .inl pf
         | false =>
          rw [h8, cond_false] at h
          cases h9 : Nat.beq f F.f with
          | true => rw [h9, cond_true] at h; injection h with h; subst h; obtain rfl := Nat.eq_of_beq_eq_true h9; exact .inl lA
          | false =>
           rw [h9, cond_false] at h
           cases h
end Go.G
