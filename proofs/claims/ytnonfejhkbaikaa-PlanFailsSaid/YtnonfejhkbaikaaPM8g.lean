/- Layer 8, the program: all that is wanted. -/
import Derived.Test.YtnonfejhkbaikaaPUS
import Derived.Test.YtnonfejhkbaikaaPUR
import Derived.Test.YtnonfejhkbaikaaPL8b
namespace Go.G
open Go.Ab Go.Proofs Go.RowKit
set_option linter.unusedVariables false
set_option linter.unusedSimpArgs false
set_option maxRecDepth 100000
def sR (rs : List RuT) (ns : List (List UInt8)) : List Int := (ja (ahI rs) rs.length 0 (unl (aj (i9 rs ns)))).getD []
def inL (L : List Int) (i : Nat) : Bool := decide ((i : Int) ∈ L)
def sX (rs : List RuT) (ns : List (List UInt8)) : List Nat := (List.range rs.length).filter (inL (sR rs ns))
theorem Iv {rs : List RuT} (ho : OkRs [] rs) : ∀ x : Int, 0 ≤ x → x < (rs.length : Int) → ∀ z ∈ ahI rs x, 0 ≤ z ∧ z < (rs.length : Int) := by
 intro x h0 h1 z hz
 have hx : x = ((x.toNat : Nat) : Int) := by omega
 rw [hx, Ak (by omega)] at hz
 obtain ⟨i, hi, rfl⟩ := jc.1 hz
 have := Fb ((Cd ho (by omega) i).1 hi)
 omega
theorem Ho {rs : List RuT} {ns : List (List UInt8)} : ∀ z ∈ aj (i9 rs ns), 0 ≤ z ∧ z < (rs.length : Int) := by
 intro z hz
 obtain ⟨i, hi, rfl⟩ := jc.1 hz
 unfold i9 at hi
 rw [List.mem_filter, List.mem_range] at hi
 omega
theorem Cw {rs : List RuT} (ho : OkRs [] rs) (ns : List (List UInt8)) : ja (ahI rs) rs.length 0 (unl (aj (i9 rs ns))) = some (sR rs ns) ∧ (sR rs ns).Nodup ∧ ∀ z ∈ sR rs ns, 0 ≤ z ∧ z < (rs.length : Int) := by
 obtain ⟨L, h1, h2, h3⟩ := Cg (A := ahI rs) (m := rs.length) (Iv ho) rs.length 0 (unl (aj (i9 rs ns))) (yy _) (fun z hz => Ho z ((xH _ _).1 hz)) (by omega)
 have e : sR rs ns = L := by unfold sR; rw [h1]; rfl
 rw [e]; exact ⟨h1, h2, h3⟩
section
variable {Mb : Store} {rs : List RuT} {ns : List (List UInt8)} {Q : Value → Store → Prop}
structure WI (Mb : Store) (l r mb : Nat) (RC : dF → Prop) (xs : List Int) (S : List Nat) (M : Store) : Prop where
 rc : ∃ rc, Go.Ab.Rc M l rc ∧ RC rc
 mp : Mp iv M mb (jd xs)
 mark : M.get r = some (.inr (.inr none))
 S : S = [l, mb, r]
 lo : Mb.n ≤ l ∧ Mb.n ≤ r ∧ l ≠ r ∧ mb < Mb.n
theorem Gq (l : List Int) (k : Int) : (jd l k).getD (.int .i64 0) = iv (if k ∈ l then 1 else 0) := by
 unfold jd; split <;> rfl
theorem JJ {M0 : Store} {x27 : Value} {mb b7 r n : Nat} {L : List Int} (h27 : LV iv Ty.b M0 x27 (aj (List.range n))) (hn : n ≤ 2 ^ 20) (o7 : Ob M0 b7 [.map (some mb)] Ty.q) (hm : Mp iv M0 mb (jd L)) (hk : M0.get r = some (.inr (.inr none)))
    (hQ : ∀ w M, Up M0 M → NV iv Ty.b M0 M w (aj ((List.range n).filter (inL L))) → fa [{ target := .collected r, args := #[] }] w M Q) :
    ∀ (d i : Nat) (x9 : Value) (M : Store), d + i = n → Up M0 M → NV iv Ty.b M0 M x9 (aj ((List.range i).filter (inL L))) → bM [{ target := .collected r, args := #[] }] (pt b7) x9 x27 (iv (n : Int)) (iv (i : Int)) M Q := by
 intro d
 induction d with
 | zero =>
  intro i x9 M hi hu hN
  apply mU
  unfold il
  rw [ag, ae, if_neg (by omega)]
  have : i = n := by omega
  subst this
  exact hQ x9 M hu hN
 | succ d ih =>
  intro i x9 M hi hu hN
  have hil : i < (List.range n).length := by rw [List.length_range]; omega
  apply mU
  unfold il
  rw [ag, ae, if_pos (by omega)]
  apply vO
  unfold mH
  obtain ⟨p, e1, e2⟩ := (h27.up hu).at (i := i) (by rw [av]; exact hil) .i64
  have e3 : (aj (List.range n))[i]'(by rw [av]; exact hil) = (i : Int) := by simp [aj]
  rw [e3] at e2
  rw [e1, ab, e2, ab, (o7.up hu).l1, (hm.up hu).look1 dD, ab, Gq]
  have hfl : ((List.range i).filter (inL L)).length ≤ i := by
   have := List.length_filter_le (inL L) (List.range i)
   rwa [List.length_range] at this
  show OP (ad .eql (.int .i64 (if (i : Int) ∈ L then 1 else 0)) (.int .i64 1)) _
  rw [dN, ae]
  by_cases hiL : (i : Int) ∈ L
  ·rw [if_pos hiL, if_pos rfl, kD, aY]
   refine NV.app1 (M0 := M0) (Mb := M0) hu (Nat.le_refl _) hu.n hN (i : Int) rfl (by rw [av]; omega) fun w M' hu' hN' _ _ => ?_
   rw [ah _ (by omega)]
   refine ih (i + 1) w M' (by omega) hu' ?_
   rw [List.range_succ, List.filter_append, List.filter_cons_of_pos (by simpa [inL] using hiL), List.filter_nil, fG]
   exact hN'
  ·rw [if_neg hiL, if_neg (by decide), ah _ (by omega)]
   refine ih (i + 1) x9 M (by omega) hu ?_
   rw [List.range_succ, List.filter_append, List.filter_cons_of_neg (by simpa [inL] using hiL), List.filter_nil, List.append_nil]
   exact hN
theorem JI {M : Store} {x5 g w : Value} {b2 b3 b7 mb lo : Nat} (ho : OkRs [] rs) (hs : SmallRs rs) (h5 : LV iv Ty.b Mb x5 (aj (List.range rs.length))) (o2 : Ob Mb b2 [w] Ty.i) (hw : LV iv Ty.b Mb w (aj (i9 rs ns))) (o3 : Ob Mb b3 [g] Ty.l) (hC : AhC Mb g rs lo) (hlo : mb < lo)
    (o7 : Ob Mb b7 [.map (some mb)] Ty.q) (hm : Mp iv Mb mb (fun _ => none))
    (hQ : ∀ v M', Ch [mb] Mb M' → LV iv Ty.b M' v (aj (sX rs ns)) → Nw 1 Ty.b Mb M' v (aj (sX rs ns)).length ((aj (sX rs ns)).map iv) → Q v M') :
    e9 [] x5 (pt b7) (.func (.func F.b) #[] #[pp b2, pp b3]) Mb Q := by
 apply vL
 unfold mE
 intro rc hrc
 show R F.b #[.func (.yield (Mb.n + 1)) #[] #[], pp b2, pp b3] _ _
 obtain ⟨hbf, hnd, hLin⟩ := Cw ho ns
 generalize hLe : sR rs ns = L at *
 have hwn : sX rs ns = (List.range rs.length).filter (inL L) := by unfold sX; rw [hLe]
 have u1 := Up.push Mb (some (.inr (.inr none)))
 have u2 := Up.push (Mb.push (some (.inr (.inr none)))) (some (.inr (.inr (some rc))))
 have hu : Up Mb _ := u1.trans u2
 have hrg : Go.Ab.Rc ((Mb.push (some (.inr (.inr none)))).push (some (.inr (.inr (some rc))))) (Mb.n + 1) rc := Store.get_push_eq (Mb.push (some (.inr (.inr none)))) (some (.inr (.inr (some rc))))
 have hk2 : ((Mb.push (some (.inr (.inr none)))).push (some (.inr (.inr (some rc))))).get Mb.n = some (.inr (.inr none)) := u2.get (Store.get_push_eq Mb (some (.inr (.inr none))))
 generalize hN : (Mb.push (some (.inr (.inr none)))).push (some (.inr (.inr (some rc)))) = N at *
 have hNn : N.n = Mb.n + 2 := by rw [← hN]; simp
 have hmb := hm.lt
 have hsl := hs.1
 have hLl : L.length ≤ 64 := by have := nq rs.length L hnd hLin; omega
 let RCp : dF → Prop := gI (pt b7) .ready 0
 have hR0 : ∀ rc, RCp rc → rc.st = .ready ∧ rc.pe = 0 := fun rc ⟨f, _, e⟩ => by rw [e]; exact ⟨rfl, rfl⟩
 have hKI : ∀ M', Ch [mb] Mb M' → KeepI Mb M' := fun M' c => ⟨c.n, fun i x hi => by
  obtain ⟨kvs, g1, _⟩ := hm
  rw [c.get i (Mb.lt_of_get hi) (fun e => by
   have : i = mb := by simpa using e
   subst this
   rw [hi] at g1; injection g1 with g1; cases g1), hi]⟩
 refine zj (B0 := [mb]) (base := Mb.n) (W := Ch [mb] Mb) (I := fun i S M' => WI Mb (Mb.n + 1) Mb.n mb RCp (L.take i) S M') (Z := fun _ _ => False) (y := .func (.yield (Mb.n + 1)) #[] #[]) (g := g) (w := w) (fr := aj (i9 rs ns)) (A := ahI rs) (L := L) (n := rs.length) (S := [Mb.n + 1, mb, Mb.n])
  ⟨fun M' c => (hKI M' c).2 _ _ o2, fun M' c => Sl.keepI hw (hKI M' c), fun M' c => (hKI M' c).2 _ _ o3, fun M' c x hx => ?_, fun x _ => by have := yc hs x; omega, fun M1 M2 T h cc hT => h.trans' cc fun q hq => (hT q hq).symm, fun i S M' h => ?_, fun i S M1 M2 T h cc hT => ?_, fun i S M' hi hI hW => ?_, by omega⟩
  (by rw [av]; unfold i9; have := List.length_filter_le (fun i => eH ns (rs.getD i ru0)) (List.range rs.length); rw [List.length_range] at this; omega) hbf (hu.mono (by simp)) ⟨⟨rc, hrg, hrc⟩, by rw [List.take_zero, AR]; exact hm.up hu, hk2, rfl, by omega, by omega, by omega, hmb⟩ (by omega) (fun S M' hI hW => ?_) (fun _ _ h => h.elim)
 ·have hz := hLin x hx
  have hx' : x = ((x.toNat : Nat) : Int) := by omega
  rw [hx']
  refine fU (GT (hC.map hlo c (hKI M' c)) hs (k := x.toNat) (by omega)) fun v M'' ⟨ua, hv⟩ => ⟨ua, hv.lv, fun hne q hq => .inr ?_⟩
  obtain ⟨h1, ⟨h2, _⟩ | ⟨b', cells, cc, rfl, h3, _⟩⟩ := hv
  ·exact absurd (List.length_eq_zero_iff.1 h2) hne
  ·simp only [bx, Option.some.injEq] at hq
   omega
 ·obtain ⟨⟨rc', hr', _⟩, hmp, hmk, rfl, hlo'⟩ := h
  intro q hq
  simp only [List.mem_cons, List.not_mem_nil, or_false] at hq
  rcases hq with rfl | rfl | rfl
  ·exact ⟨.inl hlo'.1, M'.lt_of_get hr'⟩
  ·exact ⟨.inr (by simp), hmp.lt⟩
  ·exact ⟨.inl hlo'.2.1, M'.lt_of_get hmk⟩
 ·obtain ⟨⟨rc', hr', hrc'⟩, hmp, hmk, rfl, hlo'⟩ := h
  have hm' : ∀ q, q ∈ [Mb.n + 1, mb, Mb.n] → q ∉ T := fun q hq ht => hT q ht hq
  exact ⟨⟨rc', cc.at hr' (hm' _ (by simp)), hrc'⟩, hmp.fr cc (hm' _ (by simp)), cc.at hmk (hm' _ (by simp)), rfl, hlo'⟩
 ·show RunsY Try.prog Ex (Mb.n + 1) #[iv L[i]] M' _
  obtain ⟨⟨rc', hr', hrc'⟩, hmp, hmk, rfl, hlo'⟩ := hI
  refine wh hr'.of hrc' ?_
  unfold lE
  rw [hr'.of, ab]
  refine ⟨(hR0 _ hrc').1, ?_⟩
  apply vM
  unfold mF
  have c0 : Ch [Mb.n + 1] M' (bf M' (Mb.n + 1) { rc' with st := .busy }) := hr'.ch _
  have r0 : Go.Ab.Rc (bf M' (Mb.n + 1) { rc' with st := .busy }) (Mb.n + 1) { rc' with st := .busy } := hr'.put _
  have hmne : mb ≠ Mb.n + 1 := by omega
  have mp0 := hmp.fr c0 (by simpa using hmne)
  have mk0 := c0.at hmk (by simp)
  have o70 := (hr'.keepI { rc' with st := .busy }).2 _ _ ((hKI M' hW).2 _ _ o7)
  have o70 : Ob (bf M' (Mb.n + 1) { rc' with st := .busy }) b7 [.map (some mb)] Ty.q := o70
  rw [o70.l1]
  obtain ⟨M1, e1, mp1, c1, k1⟩ := mp0.put dD L[i] (sN 1)
  rw [show mup (.int .i64) (.map (some mb)) (iv L[i]) (.int .i64 1) (bf M' (Mb.n + 1) { rc' with st := .busy }) = some M1 from e1, ab]
  have r1 : Go.Ab.Rc M1 (Mb.n + 1) { rc' with st := .busy } := c1.at r0 (by simp; omega)
  unfold YE
  rw [r1.of, ab]
  have he : ({ ({ rc' with st := .busy } : dF) with st := bif Nat.beq 0 0 then .ready else .done, pe := 0 } : dF) = rc' := by
   obtain ⟨e1, e2⟩ := hR0 _ hrc'
   cases rc'
   simp only at e1 e2
   subst e1; subst e2; rfl
  rw [he]
  have c5 : Ch [Mb.n + 1] M1 (bf M1 (Mb.n + 1) rc') := r1.ch _
  refine ⟨[Mb.n + 1, mb, Mb.n], ((c0.mono (by simp)).trans (c1.mono (by simp))).trans (c5.mono (by simp)), fun b hb => .inl hb, .inl ⟨rfl, ⟨rc', r1.put rc', hrc'⟩, ?_, c5.at (c1.at mk0 (by simp; omega)) (by simp), rfl, hlo'⟩⟩
  rw [List.take_succ_eq_append_getElem hi, ← uO]
  exact mp1.fr c5 (by simpa using hmne)
 ·obtain ⟨⟨rc', hr', hrc'⟩, hmp, hmk, _, hlo'⟩ := hI
  rw [hr'.of, ab]
  refine ⟨by rw [(hR0 _ hrc').1]; decide, ?_⟩
  have e : Nat.beq 0 rc'.pe = true := by rw [(hR0 _ hrc').2]; rfl
  rw [e, cond_true]
  rw [List.take_length] at hmp
  have cc : Ch [Mb.n + 1] M' (bf M' (Mb.n + 1) { rc' with st := .exhausted }) := hr'.ch _
  have kk := hr'.keepI { rc' with st := .exhausted }
  generalize bf M' (Mb.n + 1) { rc' with st := .exhausted } = M2 at *
  have hmp2 := hmp.fr cc (by simp; omega)
  have hmk2 := cc.at hmk (by simp)
  have hW2 : Ch [mb] Mb M2 := hW.trans' cc fun q hq => .inr (by have : q = Mb.n + 1 := by simpa using hq
                                                                omega)
  have k2 := hKI M2 hW2
  have h52 := Sl.keepI h5 k2
  apply vN
  unfold mG
  rw [show lenV x5 = some (iv ((aj (List.range rs.length)).length : Int)) from Sl.lenV h5, ab, av, List.length_range]
  refine JJ (M0 := M2) (L := L) h52 (by omega) (k2.2 _ _ o7) hmp2 hmk2 (fun v M3 u3 hN3 => ?_) rs.length 0 _ M2 rfl (Ch.refl _ _) NV.nil
  apply vP
  unfold mI
  have hmk3 := u3.get hmk2
  unfold gA
  simp only
  rw [hmk3]
  simp only
  unfold gA
  rw [ab]
  have kI := KeepI.setR hmk3 none
  have c6 : Ch [Mb.n] M3 (M3.set Mb.n none) := Ch.set hmk3 _
  rw [← hwn] at hN3
  have hN4 := Nw.keepI hN3 kI
  refine ⟨eI hN4.sl, hQ _ _ ((hW2.trans' u3 (by simp)).trans' c6 fun q hq => .inr ?_) hN4.sl (Nw.base hN4 hW2.n)⟩
  have : q = Mb.n := by simpa using hq
  omega
theorem Dc {M : Store} {v x1 : Value} {ds : List (List UInt8)} (h : MV M v rs ds) (ho : OkRs [] rs) (hs : SmallRs rs) (hb : ∀ k, k < rs.length → ∀ i ∈ ndN rs k, i < k) (h1 : LV sv Ty.a M x1 ns) (hnl : ns.length ≤ 2 ^ 20) (hdl : ds.length ≤ 2 ^ 20) :
    R F.w #[v, x1] M fun w M' => Up M M' ∧ NV iv Ty.b M M' w (aj (sX rs (sJ ns ds))) := by
 refine R.cps fun Q hQ => ?_
 obtain ⟨vR, vD, rfl, hR, hD⟩ := h
 have hsl := hs.1
 apply yH
 unfold pZ
 rw [da hR hD, ab]
 refine aq fun M1 u1 o1 n1 => ?_
 rw [o1.ldA (s := 2) rfl, ab]
 have hMV : ∀ M', Up M1 M' → MV M' (.agg (mcs vR vD).toArray) rs ds := fun M' u => ⟨vR, vD, rfl, (hR.up u1).up u, (hD.up u1).up u⟩
 refine (Ei (hMV M1 (Ch.refl _ _)) ho hs hb).mono fun r M2 ⟨u2, w5, e, hw5⟩ => ?_
 subst e
 rw [(tp2 _ _).1, (tp2 _ _).2, aY]
 have u3 := Up.push M2 (some (.inr (.inl [])))
 have hm3 : Mp iv (M2.push (some (.inr (.inl [])))) M2.n fun _ => none := Mp.new M2
 have n3 : (M2.push (some (.inr (.inl [])))).n = M2.n + 1 := by simp
 generalize M2.push (some (.inr (.inl []))) = M3 at *
 refine aq fun M4 u4 o4 n4 => ?_
 refine cY (i := 0) (w := .map (some M2.n)) o4 (by simp) (Az _) (G1 _) fun M5 c5 o5 n5 => ?_
 have u35 : Up M3 M5 := u4.ch c5 (by simp)
 have u25 := u3.trans u35
 have u15 := u2.trans u25
 have hm5 : Mp iv M5 M2.n fun _ => none := hm3.up u35
 rw [(Ob.up o1 u15).ldA (s := 2) rfl, ab]
 refine (F5 (hMV M5 u15) hs (h1.up (u1.trans u15)) hnl hdl).mono fun wb M6 ⟨u6, hwb⟩ => ⟨u6.tdj _ _, ?_⟩
 have u16 := u15.trans u6
 rw [(Ob.up o1 u16).ldA (s := 2) rfl, ab]
 refine (y9 (hMV M6 u16) ho hs).mono fun g M7 ⟨u7, hC⟩ => ⟨u7.tdx _ _ _, ?_⟩
 have hg : ∃ f c, g = .func (.func f) #[] c := by
  obtain ⟨b1, b3, mb, _, _, e, _⟩ := hC.ex
  exact ⟨_, _, e⟩
 have hbl : (i9 rs (sJ ns ds)).length ≤ rs.length := by
  have := List.length_filter_le (fun i => eH (sJ ns ds) (rs.getD i ru0)) (List.range rs.length)
  rwa [List.length_range] at this
 refine (zk (hwb.lv.up u7) (by rw [av]; omega) hg).mono fun q M8 ⟨u8, b2, b3, w, e, hb2, hb3, o2, hN8, o3⟩ => ⟨u8.tdx _ _ _, ?_⟩
 subst e
 have u58 := (u6.trans u7).trans u8
 have n6 := u6.n
 have hm8 := hm5.up u58
 have hlt5 := hm5.lt
 refine JI (Mb := M8) (M := M8) (ns := sJ ns ds) ho hs (hw5.lv.up (u25.trans u58)) o2 hN8.lv o3 (hC.up u8) (by omega) (o5.up u58) hm8 fun v M' c' hv hvN => hQ _ _ ⟨?_, ?_⟩
 ·have u18 := u1.trans (u15.trans u58)
  exact u18.ch c' (by simp; have := u1.n; have := u2.n; omega)
 ·exact Nw.base hvN ((u1.trans (u15.trans u58)).n)
end
end Go.G
