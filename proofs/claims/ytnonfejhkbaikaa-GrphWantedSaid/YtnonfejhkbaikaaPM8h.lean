/- Layer 8, the document: all that is wanted. -/
import Derived.Test.YtnonfejhkbaikaaPUO
import Derived.Test.YtnonfejhkbaikaaPM8g
namespace Go.G
open Go.Ab Go.Proofs Go.RowKit
set_option linter.unusedVariables false
set_option linter.unusedSimpArgs false
set_option maxRecDepth 100000
theorem bfsN_closed {A : Int → List Int} : ∀ {n i : Nat} {all L : List Int}, bfsN A n i all = some L → ∀ k (hk : k < L.length), i ≤ k → ∀ y ∈ A L[k], y ∈ L
  | 0, i, all, L, h, k, hk, hik, y, hy => by
    unfold bfsN at h
    split at h
    · cases h
    · rename_i hi
      injection h with h; subst h
      omega
  | n + 1, i, all, L, h, k, hk, hik, y, hy => by
    have h0 := h
    unfold bfsN at h
    split at h
    · rename_i hi
      by_cases e : k = i
      · subst e
        obtain ⟨r, hr⟩ := bfsN_pre h0
        obtain ⟨r2, hr2⟩ := bfsN_pre h
        have e1 : L[k] = all[k] := by simp only [hr]; rw [List.getElem_append_left hi]
        rw [e1] at hy
        rw [hr2]
        exact List.mem_append_left _ ((unlA_mem _ _ _).2 (.inr hy))
      · exact bfsN_closed h k hk (by omega) y hy
    · rename_i hi
      injection h with h; subst h
      omega
theorem bfsN_least {A : Int → List Int} {P : Int → Prop} (hA : ∀ x, P x → ∀ y ∈ A x, P y) : ∀ {n i : Nat} {all L : List Int}, bfsN A n i all = some L → (∀ z ∈ all, P z) → ∀ z ∈ L, P z
  | 0, i, all, L, h, ha, z, hz => by
    unfold bfsN at h
    split at h
    · cases h
    · injection h with h; subst h; exact ha z hz
  | n + 1, i, all, L, h, ha, z, hz => by
    unfold bfsN at h
    split at h
    · rename_i hi
      refine bfsN_least hA h (fun q hq => ?_) z hz
      rcases (unlA_mem _ _ _).1 hq with hq | hq
      · exact ha q hq
      · exact hA _ (ha _ (List.getElem_mem hi)) q hq
    · injection h with h; subst h; exact ha z hz
theorem rea_beg {rs : List RuT} (ho : OkRs [] rs) {ns : List (List UInt8)} {i : Nat} (hi : i ∈ begN rs ns) : (i : Int) ∈ reaL rs ns := by
  obtain ⟨r, hr⟩ := bfsN_pre (reaL_ok ho ns).1
  rw [hr]
  exact List.mem_append_left _ ((unl_mem _ _).2 (mem_nint.2 ⟨i, hi, rfl⟩))
theorem rea_need {rs : List RuT} (ho : OkRs [] rs) {ns : List (List UInt8)} {i j : Nat} (hi : i < rs.length) (h : (i : Int) ∈ reaL rs ns) (hj : j ∈ ndN rs i) : (j : Int) ∈ reaL rs ns := by
  obtain ⟨k, hk, e⟩ := List.mem_iff_getElem.1 h
  refine bfsN_closed (reaL_ok ho ns).1 k hk (Nat.zero_le _) _ ?_
  rw [e, ahI_at hi]
  exact mem_nint.2 ⟨j, (ahN_mem ho hi j).2 hj, rfl⟩
theorem rea_least {rs : List RuT} (ho : OkRs [] rs) {ns : List (List UInt8)} {F : Nat → Bool} (h1 : ∀ i ∈ begN rs ns, F i = true) (h2 : ∀ i, i < rs.length → F i = true → ∀ j ∈ ndN rs i, F j = true) {i : Nat} (h : (i : Int) ∈ reaL rs ns) : F i = true := by
  have hr := reaL_ok ho ns
  have := bfsN_least (P := fun z => 0 ≤ z ∧ z < (rs.length : Int) ∧ F z.toNat = true) (A := ahI rs) (fun x hx y hy => by
    have hin := ahI_in ho x hx.1 hx.2.1 y hy
    refine ⟨hin.1, hin.2, ?_⟩
    have hx' : x = ((x.toNat : Nat) : Int) := by omega
    rw [hx', ahI_at (by omega)] at hy
    obtain ⟨j, hj, rfl⟩ := mem_nint.1 hy
    exact h2 x.toNat (by omega) hx.2.2 j ((ahN_mem ho (by omega) j).1 hj)) hr.1 (fun z hz => by
    have hz := (unl_mem _ _).1 hz
    have hb := begN_in z hz
    obtain ⟨j, hj, rfl⟩ := mem_nint.1 hz
    exact ⟨hb.1, hb.2, h1 j hj⟩) (i : Int) h
  exact this.2.2
def upd (F : Nat → Bool) (j : Nat) (b : Bool) : Nat → Bool := fun i => if i = j then b else F i
section
variable {M0 : Store} {b : Nat} {vR vD x1 x5 : Value} {rs : List RuT} {ns ds : List (List UInt8)} {Q : Value → Store → Prop}
end
end Go.G
