/- Manifests of numbers, made and parsed. -/
import Derived.Test.YtnonfejhkbaikaaPM7c
import Derived.Test.YtnonfejhkbaikaaPM7p
import Derived.Test.YtnonfejhkbaikaaPUS
namespace Go.G
open Go.Ab Go.Proofs Go.RowKit
set_option linter.unusedVariables false
set_option linter.unusedSimpArgs false
set_option maxRecDepth 100000
structure ManI (rs : List RuT) : Prop where
 ok : OkRs [] rs
 sm : SmallRs rs
 bk : ∀ k, k < rs.length → ∀ i ∈ ndN rs k, i < k
theorem E9 (l : List Int) : ManI (pH l) := by
 obtain ⟨h1, h2, h3⟩ := HD l
 exact ⟨h1, h1.small (by omega), fun k hk => HF h1 h2 hk⟩
theorem ManI.nil : ManI [] := ⟨trivial, ⟨by decide, fun r hr => by cases hr⟩, fun k hk => absurd hk (Nat.not_lt_zero _)⟩
theorem FL {M : Store} {x0 : Value} {l : List Int} (h : LV iv Ty.b M x0 l) {K : Value → Store → Prop} (hK : ∀ v M2, Up M M2 → MV M2 v (pH l) [] → K (.tuple #[v, fv fv0]) M2) :
    R F.lM #[x0] M fun t M1 => R F.H #[t] M1 K := by
 refine (Ba h).mono fun t M1 ⟨u1, hN, hl⟩ => ?_
 have hi := E9 l
 refine (Ee (Nw.sl hN) (by omega) hi.ok hi.sm.1 hi.bk).mono fun r M2 ⟨u2, w, e, hw⟩ => ?_
 subst e
 exact hK w M2 (u1.trans u2) hw
theorem HE {M : Store} {v : Value} {rs : List RuT} (h : MV M v rs []) {K : Value → Value → Store → Prop} (hK : ∀ vR vD M6, Up M M6 → Mz M6 M.n vR vD → RL M6 vR rs → LV sv Ty.a M6 vD [] → K (pt M.n) (.int .i64 0) M6) :
    LT (.pointer (some ⟨M.n, 0, none⟩)) (M.push (some (.inl ([(.slice none 0 0), (.slice none 0 0)], Ty.d, true)))) fun t5 M3 =>
     LT (.pointer (some ⟨M3.n, 0, none⟩)) (M3.push (some (.inl ([(.int .i64 0), (.int .i64 0), (.int .i64 0)], Ty.h, true)))) fun t6 M4 =>
     OP (st 2 t5 v M4) fun M5 => OP (st 3 t6 (fv fv0) M5) fun M6 => OP (fad 0 t6) fun t20 => OP (ld 1 false t20 M6) fun t21 => K t5 t21 M6 := by
 obtain ⟨vR, vD, rfl, hR, hD⟩ := h
 refine aq fun M3 u3 o3 n3 => ?_
 refine aq fun M4 u4 o4 n4 => ?_
 obtain ⟨a, n, c, rfl⟩ := hR.slice
 obtain ⟨a', c', rfl⟩ := Sl.slice hD
 have o34 := o3.up u4
 refine bp (vs := mcs (.slice a n c) (.slice a' ([] : List (List UInt8)).length c')) o34 rfl rfl (by kernel_rfl) fun M5 c5 o5 _ => ?_
 have hlt := o34.lt
 have o45 := o4.fr c5 (by simp; omega)
 refine bp (vs := fcs fv0) o45 rfl rfl (kU _) fun M6 c6 o6 _ => ?_
 rw [aS, show Go.Ab.ld 1 false (.pointer (some ⟨M3.n, 0, none⟩)) M6 = some (iv 0) from Ob.ld (o := 0) o6 rfl, ab]
 have k5 := c5.keepT o34
 have k6 := c6.keepT o45
 have u6 : Up M M6 := ((u3.trans u4).ch c5 (by simp)).ch c6 (by simp; omega)
 exact hK _ _ M6 u6 (o5.fr c6 (by simp; omega)) (hR.up u6) (hD.up u6)
end Go.G
