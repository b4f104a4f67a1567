/- Layer 18: a state is set. -/
import Derived.Test.YtnonfejhkbaikaaPY18e
namespace Go.G
open Go.Ab Go.Proofs Go.RowKit
set_option linter.unusedVariables false
set_option linter.unusedSimpArgs false
set_option maxRecDepth 100000
def wts : List Int → Nat
 | [] => 0
 | z :: l => (if z = 1 then 1 else 0) + wts l
theorem CE : ∀ (l : List Int) (i : Nat), stF l i = 1 → wts (l.set i 4) + 1 = wts l
 | [], i, h => by simp [stF] at h
 | z :: l, 0, h => by
  have h : z = 1 := h
  subst h
  simp [wts]; omega
 | z :: l, i + 1, h => by
  have h : stF l i = 1 := h
  have := CE l i h
  simp [wts]; omega
theorem xI : ∀ l : List Int, wts l ≤ l.length
 | [] => Nat.le_refl _
 | z :: l => by have := xI l; simp only [wts, List.length_cons]; split <;> omega
theorem xF (rs : List RuT) (S : List Int) : ∀ i, wts (skS rs S i).1 ≤ wts S ∧ ((skS rs S i).2 = true → wts (skS rs S i).1 < wts S)
 | 0 => ⟨Nat.le_refl _, fun h => by cases h⟩
 | i + 1 => by
  obtain ⟨h1, h2⟩ := xF rs S i
  unfold skS
  split
  ·rename_i hb
   unfold skB at hb
   rw [Bool.and_eq_true, decide_eq_true_eq] at hb
   have := CE _ _ hb.1
   exact ⟨by simp only; omega, fun _ => by simp only; omega⟩
  ·exact ⟨h1, h2⟩
def gg (rs : List RuT) : Nat → List Int → List Int
 | 0, S => S
 | f + 1, S => if (skS rs S rs.length).2 = true then gg rs f (skS rs S rs.length).1 else (skS rs S rs.length).1
def bR (rs : List RuT) (S : List Int) (k : Nat) (to_ : Int) : List Int := if to_ = 3 then gg rs (rs.length + 1) (S.set k to_) else S.set k to_
section
variable {rs : List RuT} {ds : List (List UInt8)} {Q : Value → Store → Prop}
def PN (M0 M : Store) (v : Value) (n : Nat) (S : List Int) : Prop := ∃ vA vS, v = .agg (mcs vA vS).toArray ∧ NV iv Ty.b M0 M vA (aj (List.range n)) ∧ NV iv Ty.b M0 M vS S ∧ S.length = n ∧ (0 < n → ∀ q, bx vS = some q → bx vA ≠ some q)
def SF (b4 b5 b8 : Nat) (vR vD vA vS : Value) (M : Store) : Prop := Mz M b4 vR vD ∧ Pb M b5 vA vS ∧ Pb M b8 (.slice none 0 0) (.slice none 0 0)
theorem SF.keep {b4 b5 b8 : Nat} {vR vD vA vS : Value} (M M' : Store) (h : SF b4 b5 b8 vR vD vA vS M) (k : Keep Ty.b M M') : SF b4 b5 b8 vR vD vA vS M' := ⟨Ob.keep h.1 (by decide) k, Ob.keep h.2.1 (by decide) k, Ob.keep h.2.2 (by decide) k⟩
theorem DX {M0 Mb M : Store} {b4 b5 b8 : Nat} {vR vD vA vS : Value} {S : List Int} (h0 : M0.n ≤ Mb.n) (hu : Up M0 M) (h8 : M0.n ≤ b8) (hf : SF b4 b5 b8 vR vD vA vS M) (hA : NV iv Ty.b M0 M vA (aj (List.range rs.length))) (hS : NV iv Ty.b Mb M vS S) (hl : S.length = rs.length) (hne : 0 < rs.length → ∀ q, bx vS = some q → bx vA ≠ some q)
    (hQ : ∀ v M', Up M0 M' → PN M0 M' v rs.length S → Q v M') : OP (Go.Ab.ld 2 true (pt b5) M) fun t43 => OP (Go.Ab.st 2 (pt b8) t43 M) fun M1 => OP (Go.Ab.ld 2 true (pt b8) M1) fun r8 => NTs [r8] ∧ Q r8 M1 := by
 obtain ⟨o4, o5, o8⟩ := hf
 obtain ⟨a, c, rfl⟩ := hA.lv.slice
 obtain ⟨a', c', rfl⟩ := hS.lv.slice
 rw [o5.ldA (s := 2) rfl, ab]
 refine bp (vs := mcs (.slice a (aj (List.range rs.length)).length c) (.slice a' S.length c')) o8 rfl rfl (oL _ _ _ _ _ _) fun M1 c1 o81 _ => ?_
 rw [o81.ldA (s := 2) rfl, ab]
 have k1 := c1.keepT o8
 exact ⟨rfl, hQ _ _ (hu.ch c1 (by simpa using h8)) ⟨_, _, rfl, Nw.keep hA (by decide) k1, Nw.base (Nw.keep hS (by decide) k1) h0, hl, hne⟩⟩
theorem JD {M0 Mb : Store} {b4 b5 b8 : Nat} {vR vD vA vS : Value} (hs : SmallRs rs) (h0 : M0.n ≤ Mb.n) (h8 : M0.n ≤ b8) (hne : ∀ q, bx vS = some q → bx vA ≠ some q) :
    ∀ (f : Nat) (S : List Int) (M : Store), wts S < f → Up M0 M → Mb.n ≤ M.n → SF b4 b5 b8 vR vD vA vS M → RL M vR rs → LV sv Ty.a M vD ds → NV iv Ty.b M0 M vA (aj (List.range rs.length)) → NV iv Ty.b Mb M vS S → S.length = rs.length →
     (∀ v M', Up M0 M' → PN M0 M' v rs.length (gg rs f S) → Q v M') → dT (iv 3) (pt b4) (pt b5) (pt b8) M Q := by
 intro f
 induction f with
 | zero => intro S M hw; omega
 | succ f ih =>
  intro S M hw hu hn hf hR hD hA hS hl hQ
  have hf0 := hf
  obtain ⟨o4, o5, o8⟩ := hf
  apply rN
  unfold lI
  show OP (ad .eql (.int .i64 3) (.int .i64 3)) _
  rw [dN, ae, if_pos rfl, o4.ldA (s := 2) rfl, ab, o5.ldA (s := 2) rfl, ab]
  refine GK (F := SF b4 b5 b8 vR vD vA vS) hs h0 hne hu hn hR hD hA hS hl hf0 SF.keep fun M' hu' hn' hR' hD' hA' hS' hf' => ?_
  obtain ⟨w1, w2⟩ := xF rs S rs.length
  have hl' : (skS rs S rs.length).1.length = rs.length := by rw [jf]; exact hl
  rw [au]
  split
  ·rename_i hb
   refine ih (skS rs S rs.length).1 M' (by have := w2 hb; omega) hu' hn' hf' hR' hD' hA' hS' hl' fun v M'' hu2 hv => hQ v M'' hu2 ?_
   unfold gg
   rw [if_pos hb]; exact hv
  ·rename_i hb
   apply rO
   unfold lJ
   refine DX h0 hu' h8 hf' hA' hS' hl' (fun _ => hne) fun v M'' hu2 hv => hQ v M'' hu2 ?_
   unfold gg
   rw [if_neg hb]; exact hv
theorem Jm (a a' : Option Addr) (n c n' c' : Nat) (K : Value → Prop) : OP (bB #[(.slice none 0 0), (.slice none 0 0)] [(0, 1), (1, 1)] [(0, .slice a n c), (1, .slice a' n' c')]) K = K (.agg (mcs (.slice a n c) (.slice a' n' c')).toArray) := by kernel_rfl
theorem In {M : Store} {v p : Value} {S : List Int} {z to_ : Int} (h : MV M v rs ds) (hp : PV M p rs.length S) (hs : SmallRs rs) : R F.S #[v, p, iv z, iv to_] M fun r M' => Up M M' ∧ ∃ S', PN M M' r rs.length S' ∧ ∀ k : Nat, z = (k : Int) → k < rs.length → S' = bR rs S k to_ := by
 refine R.cps fun Q hQ => ?_
 have hsl := hs.1
 obtain ⟨vR, vD, rfl, hR, hD⟩ := h
 obtain ⟨vA, vS, rfl, hA, hS, hSl⟩ := hp
 apply CL
 unfold vg
 rw [da hR hD, ab]
 refine aq fun M1 u1 o1 n1 => ?_
 rw [oO hA hS, ab]
 refine aq fun M2 u2 o2 n2 => ?_
 refine aq fun M3 u3 o3 n3 => ?_
 have u13 := (u1.trans u2).trans u3
 have o2 : Pb M3 M1.n vA vS := Ob.up o2 u3
 rw [pM o2]
 refine (kX (LV.up hA u13) (by rw [bI]; omega)).mono fun wA M4 ⟨u4, hwA⟩ => ⟨u4.tdj _ _, ?_⟩
 rw [pN (Ob.up o2 u4)]
 refine (kX (LV.up hS (u13.trans u4)) (by omega)).mono fun wS M5 ⟨u5, hwS⟩ => ⟨u5.tdx _ _ _, ?_⟩
 have u15 := (u13.trans u4).trans u5
 have u35 := u4.trans u5
 obtain ⟨a, c, e1⟩ := hwA.lv.slice
 obtain ⟨a', c', e2⟩ := hwS.lv.slice
 subst e1 e2
 rw [Jm]
 have o25 : Pb M5 M1.n vA vS := Ob.up o2 u35
 have m1 := u1.n
 have m2 := u2.n
 have m3 := u3.n
 have m4 := u4.n
 have m5 := u5.n
 refine bp (vs := mcs (.slice a (aj (List.range rs.length)).length c) (.slice a' S.length c')) o25 rfl rfl (oL _ _ _ _ _ _) fun M6 c6 o6 _ => ⟨c6.tdx o25 (by show M1.n < M3.n; omega), ?_⟩
 have k6 := c6.keepT o25
 have u06 : Up M M6 := u15.ch c6 (by simp; omega)
 have o6 : Pb M6 M1.n (.slice a (aj (List.range rs.length)).length c) (.slice a' S.length c') := o6
 have hA6 : NV iv Ty.b M M6 (.slice a (aj (List.range rs.length)).length c) (aj (List.range rs.length)) := Nw.base (Nw.keep (Nw.up hwA u5) (by decide) k6) u13.n
 have hS6 : NV iv Ty.b M4 M6 (.slice a' S.length c') S := Nw.keep hwS (by decide) k6
 have o46 : Mz M6 M.n vR vD := Ob.keep ((o1.up (u2.trans u3)).up u35) (by decide) k6
 have o86 : Pb M6 M2.n (.slice none 0 0) (.slice none 0 0) := (o3.up u35).fr c6 (by simp; omega)
 have hf6 : SF M.n M1.n M2.n vR vD (.slice a (aj (List.range rs.length)).length c) (.slice a' S.length c') M6 := ⟨o46, o6, o86⟩
 have hne : 0 < rs.length → ∀ q, bx (.slice a' S.length c') = some q → bx (.slice a (aj (List.range rs.length)).length c) ≠ some q := by
  intro hpos q hq hq2
  have g1 := LV.box hwA.lv (fun e => by have := congrArg List.length e; rw [bI, List.length_nil] at this; omega) hq2
  obtain ⟨_, ⟨h9, _⟩ | ⟨b5, cells, cc, e, h10, _⟩⟩ := hwS
  ·omega
  ·rw [e] at hq
   simp only [bx, Option.some.injEq] at hq
   omega
 have m6 := c6.n
 rw [pM o6]
 have same : fq (pt M1.n) (pt M2.n) M6 Q ∨ True := .inr trivial
 refine xL hA6.lv (by rw [bI]; omega) (fun hno => ?_) (fun i hi' ei _ => ?_)
 ·show OP (ad .lss (.int .i64 (-1)) (.int .i64 0)) _
  rw [aQ, ae, if_pos (by decide)]
  refine DX (M0 := M) (Mb := M4) (by omega) u06 (by omega) hf6 hA6 hS6 hSl hne fun v' M' hu' hv => hQ _ _ ⟨hu', S, hv, fun k ek hk => absurd (gF.2 ⟨by omega, by omega⟩) hno⟩
 ·rw [oQ] at ei
  have hin : i < rs.length := by rw [bI] at hi'; exact hi'
  rw [eD 0 0 rfl, ae, if_neg (by omega), pN o6, sD]
  show OP (ad .geq (iv (i : Int)) (iv (S.length : Int))) _
  rw [gD, ae, if_neg (by omega), pN o6]
  have h' : Nw 1 Ty.b M4 M6 (.slice a' S.length c') S.length (S.map iv) := hS6
  obtain ⟨pp, M7, q, g1, _, g3, g4, g5, g6, g7, c7⟩ := h'.put1 (show i < S.length by omega) .i64 (pr to_) (y7 to_)
  obtain ⟨p2, M8, k1, k2, _, kk, _⟩ := Nw.put1K h' (show i < S.length by omega) .i64 (pr to_) (y7 to_)
  rw [g1] at k1; injection k1 with k1; subst k1
  rw [g3] at k2; injection k2 with k2; subst k2
  show OP (ixA 1 (.slice a' S.length c') (.int .i64 (i : Int))) _
  rw [g1, ab, g3, ab]
  have hne' := hne (by omega)
  have u07 : Up M M7 := u06.ch c7 (by simp; omega)
  have hS7 : NV iv Ty.b M4 M7 (.slice a' S.length c') (S.set i to_) := by
   show Nw 1 Ty.b M4 M7 (.slice a' S.length c') (S.set i to_).length ((S.set i to_).map iv)
   rw [List.length_set, List.map_set]
   exact g4
  have hA7 : NV iv Ty.b M M7 (.slice a (aj (List.range rs.length)).length c) (aj (List.range rs.length)) := Nw.fr hA6 c7 fun q' hq' hm => by
   have : q' = q := by simpa using hm
   subst this
   exact hne' _ g5 hq'
  have hf7 := SF.keep _ _ hf6 kk
  have m7 := c7.n
  have hl7 : (S.set i to_).length = rs.length := by rw [List.length_set]; exact hSl
  have hR7 : RL M7 vR rs := (hR.up u06).keep (by decide) (by decide) (by decide) (by decide) kk
  have hD7 : LV sv Ty.a M7 vD ds := Sl.keep (Sl.up hD u06) (by decide) kk
  by_cases h3 : to_ = 3
  ·subst h3
   refine JD (M0 := M) (Mb := M4) hs (by omega) (by omega) hne' (rs.length + 1) (S.set i 3) M7 (by have := xI (S.set i 3); omega) u07 (by omega) hf7 hR7 hD7 hA7 hS7 hl7 fun v' M' hu' hv => hQ _ _ ⟨hu', _, hv, fun k ek hk => ?_⟩
   have : k = i := by omega
   subst this
   unfold bR; rw [if_pos rfl]
  ·apply rN
   unfold lI
   show OP (ad .eql (.int .i64 to_) (.int .i64 3)) _
   rw [dN, ae, if_neg h3]
   apply rO
   unfold lJ
   refine DX (M0 := M) (Mb := M4) (by omega) u07 (by omega) hf7 hA7 hS7 hl7 (fun _ => hne') fun v' M' hu' hv => hQ _ _ ⟨hu', _, hv, fun k ek hk => ?_⟩
   have : k = i := by omega
   subst this
   unfold bR; rw [if_neg h3]
end
end Go.G
