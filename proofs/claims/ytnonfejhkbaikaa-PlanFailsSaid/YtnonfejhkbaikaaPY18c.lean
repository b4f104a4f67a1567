/- Layer 18: plans are made; two plans; what is ready by the document. -/
import Derived.Test.YtnonfejhkbaikaaPY18b
namespace Go.G
open Go.Ab Go.Proofs Go.RowKit
set_option linter.unusedVariables false
set_option linter.unusedSimpArgs false
set_option maxRecDepth 100000
theorem Ic {rs : List RuT} (ho : OkRs [] rs) : sX rs [] = List.range rs.length := by
 unfold sX
 rw [List.filter_eq_self]
 intro i hi
 have hi := List.mem_range.1 hi
 unfold inL
 refine decide_eq_true (HX ho ?_)
 unfold i9
 rw [List.mem_filter, List.mem_range]
 exact ⟨hi, by unfold eH; rw [decide_eq_true rfl, Bool.true_or]⟩
theorem Jl (a : Option Addr) (n c : Nat) (K : Value → Prop) : OP (bB #[(.slice none 0 0), (.slice none 0 0)] [(0, 1), (1, 1)] [(0, .slice a n c)]) K = K (.agg (mcs (.slice a n c) (.slice none 0 0)).toArray) := by kernel_rfl
theorem oL (a a' : Option Addr) (n c n' c' : Nat) : (mcs (.slice a n c) (.slice a' n' c')).all (·.oneCell') = true := by kernel_rfl
def aF (n : Nat) : List Int := List.replicate n 1
theorem Fk (n : Nat) : aF (n + 1) = aF n ++ [1] := by unfold aF; rw [List.replicate_succ']
section
variable {rs : List RuT} {S : List Int} {Q : Value → Store → Prop}
theorem Jy {M0 M : Store} {b4 b5 : Nat} {vA vS : Value} {n : Nat} (hu : Up M0 M) (h4 : M0.n ≤ b4) (hA : LV iv Ty.b M vA (aj (List.range n))) (hS : LV iv Ty.b M vS S) (hSl : S.length = n) (o4 : Pb M b4 (.slice none 0 0) (.slice none 0 0)) (o5 : Pb M b5 vA vS) (hQ : ∀ v M', Up M0 M' → PV M' v n S → Q v M') :
    OP (Go.Ab.ld 2 true (pt b5) M) fun t21 => OP (Go.Ab.st 2 (pt b4) t21 M) fun M1 => OP (Go.Ab.ld 2 true (pt b4) M1) fun r4 => NTs [r4] ∧ Q r4 M1 := by
 obtain ⟨a, c, rfl⟩ := Sl.slice hA
 obtain ⟨a', c', rfl⟩ := Sl.slice hS
 rw [o5.ldA (s := 2) rfl, ab]
 refine bp (vs := mcs (.slice a (aj (List.range n)).length c) (.slice a' S.length c')) o4 rfl rfl (oL _ _ _ _ _ _) fun M1 c1 o41 _ => ?_
 rw [o41.ldA (s := 2) rfl, ab]
 have k1 := c1.keepT o4
 exact ⟨rfl, hQ _ _ (hu.ch c1 (by simpa using h4)) ⟨_, _, rfl, Sl.keep hA (by decide) k1, Sl.keep hS (by decide) k1, hSl⟩⟩
theorem HI {M0 Mb M : Store} {b4 b5 : Nat} {vA vS : Value} {i : Nat} (hi : i ≤ 2 ^ 20) (h0b : M0.n ≤ Mb.n) (hub : Mb.n ≤ M.n) (hu : Up M0 M) (h5 : M0.n ≤ b5) (hne : b4 ≠ b5) {xs : List Int} (hA : LV iv Ty.b M vA xs) (hAb : ∀ q, kil vS = some q → bx vA ≠ some q) (hS : NV iv Ty.b Mb M vS (aF i)) (o4 : Pb M b4 (.slice none 0 0) (.slice none 0 0)) (o5 : Pb M b5 vA vS) {K : Store → Prop}
    (hK : ∀ M' vS', Mb.n ≤ M'.n → Up M0 M' → LV iv Ty.b M' vA xs → NV iv Ty.b Mb M' vS' (aF (i + 1)) → Pb M' b4 (.slice none 0 0) (.slice none 0 0) → Pb M' b5 vA vS' → (∃ q, bx vS' = some q ∧ M.n ≤ q) → M.n ≤ M'.n → K M') :
    OP (fad 1 (pt b5)) fun t15 => OP (Go.Ab.ld 1 false t15 M) fun t16 => OP (al (.int .i64 0) 1 1 [(0, (.int .i64 1))]) fun c => LT (.slice (some ⟨M.n, 0, none⟩) 1 1) (M.push (some (.inl (c, Ty.b, true)))) fun t17 M1 => OP2 (appV 1 Ty.b t16 t17 M1) fun t18 M2 => OP (fad 1 (pt b5)) fun t19 => OP (Go.Ab.st 1 t19 t18 M2) K := by
 rw [pN o5, kD, aY]
 refine NV.app1 (M0 := M0) (Mb := Mb) hu h0b hub hS (1 : Int) rfl (by unfold aF; rw [List.length_replicate]; omega) fun vS' M2 hu2 hN2 c2 ⟨q, g1, g2, g3⟩ => ?_
 have k2 := Nw.keepE hS c2
 have o52 : Pb M2 b5 vA vS := Ob.keep o5 (by decide) k2
 have o42 : Pb M2 b4 (.slice none 0 0) (.slice none 0 0) := Ob.keep o4 (by decide) k2
 have hA2 : LV iv Ty.b M2 vA xs := Sl.fr hA c2 fun q' hq' hm => hAb q' (mo.1 hm) hq'
 obtain ⟨a', c', rfl⟩ := hN2.lv.slice
 rw [aS]
 refine cY (i := 1) (w := .slice a' (aF i ++ [(1 : Int)]).length c') o52 (by simp [mcs]) (bQ _ _ _) (gG _ _ _) fun M3 c3 o53 _ => ?_
 have k3 := c3.keepT o52
 have n2 := c2.n
 have n3 := c3.n
 refine hK M3 _ (by omega) (hu2.ch c3 (by simpa using h5)) (Sl.keep hA2 (by decide) k3) ?_ (o42.fr c3 (by simpa using hne)) o53 ⟨q, g1, g2⟩ (by omega)
 rw [Fk]
 exact Nw.keep hN2 (by decide) k3
theorem Ij {M : Store} {v : Value} (h : MV M v rs []) (hi : OkRs [] rs) (hs : SmallRs rs) (hb : ∀ k, k < rs.length → ∀ i ∈ ndN rs k, i < k) : R F.R #[v, .slice none 0 0] M fun p M' => Up M M' ∧ PV M' p rs.length (aF rs.length) := by
 refine R.cps fun Q hQ => ?_
 have hsl := hs.1
 obtain ⟨vR, vD, rfl, hR, hD⟩ := h
 apply CK
 unfold vf
 rw [da hR hD, ab]
 refine aq fun M1 u1 o1 n1 => ?_
 refine aq fun M2 u2 o2 n2 => ?_
 have u12 := u1.trans u2
 rw [(Ob.up o1 u2).ldA (s := 2) rfl, ab]
 refine (Dc (ns := []) (ds := []) ⟨vR, vD, rfl, hR.up u12, Sl.up hD u12⟩ hi hs hb (Sl.nil _ _ _) (by simp) (by simp)).mono fun w M3 ⟨u3, hw⟩ => ?_
 have ew : sJ [] [] = ([] : List (List UInt8)) := rfl
 rw [ew, Ic hi] at hw
 have hwl := hw.lv
 obtain ⟨a, c, rfl⟩ := hwl.slice
 rw [Jl]
 refine aq fun M4 u4 o4 n4 => ?_
 refine bp (vs := mcs (.slice a (aj (List.range rs.length)).length c) (.slice none 0 0)) o4 rfl rfl (oL _ _ _ _ _ _) fun M5 c5 o5 n5 => ?_
 have u35 : Up M3 M5 := u4.ch c5 (by simp)
 have u05 := (u12.trans u3).trans u35
 have o5 : Pb M5 M3.n (.slice a (aj (List.range rs.length)).length c) (.slice none 0 0) := o5
 rw [pM o5, sD, bI]
 have o25 : Pb M5 M1.n (.slice none 0 0) (.slice none 0 0) := (o2.up u3).up u35
 have hlt2 := o2.lt
 have hu3 := u3.n
 have hu12 := u12.n
 have n35 := u35.n
 have hA5 := hwl.up u35
 rw [bI] at hA5 o5
 have loop : ∀ (d i : Nat) (vS : Value) (M6 : Store), d + i = rs.length → Up M M6 → M5.n ≤ M6.n → LV iv Ty.b M6 (.slice a rs.length c) (aj (List.range rs.length)) → NV iv Ty.b M5 M6 vS (aF i) → Pb M6 M1.n (.slice none 0 0) (.slice none 0 0) → Pb M6 M3.n (.slice a rs.length c) vS → dS (pt M1.n) (pt M3.n) (iv (rs.length : Int)) (iv (i : Int)) M6 Q := by
  intro d
  induction d with
  | zero =>
   intro i vS M6 hi' hu hm hA hS o2' o5'
   have : i = rs.length := by omega
   subst this
   apply rM
   unfold lH
   rw [ag, ae, if_neg (by omega)]
   apply zz
   unfold qM
   exact Jy hu u1.n hA hS.lv (by unfold aF; rw [List.length_replicate]) o2' o5' fun v M' hu' hv => hQ _ _ ⟨hu', hv⟩
  | succ d ih =>
   intro i vS M6 hi' hu hm hA hS o2' o5'
   apply rM
   unfold lH
   rw [ag, ae, if_pos (by omega)]
   apply zy
   unfold qL
   refine HI (M0 := M) (Mb := M5) (by omega) u05.n hm hu (by omega) (by omega) hA (fun q hq hbx => ?_) hS o2' o5' fun M7 vS' hm7 hu7 hA7 hS7 o27 o57 _ _ => ?_
   ·have h1 := (Nw.bx_in hS hq).1
    have h2 := LV.box hA5 (fun e => by have := congrArg List.length e; rw [bI, List.length_nil] at this; omega) hbx
    omega
   ·rw [ah _ (by omega)]
    exact ih (i + 1) vS' M7 (by omega) hu7 hm7 hA7 hS7 o27 o57
 exact loop rs.length 0 _ M5 rfl u05 (Nat.le_refl _) hA5 NV.nil o25 o5
end
end Go.G
