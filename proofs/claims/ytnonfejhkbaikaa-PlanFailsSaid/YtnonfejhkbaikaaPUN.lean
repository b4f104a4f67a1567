/- ... -/
import Derived.Test.YtnonfejhkbaikaaPUP
import Derived.Test.YtnonfejhkbaikaaPUM
import Derived.Test.YtnonfejhkbaikaaPUW
import Derived.Test.YtnonfejhkbaikaaPUB
namespace Go.G
open Go.Ab Go.Proofs Go.RowKit
set_option linter.unusedVariables false
set_option linter.unusedSimpArgs false
set_option maxRecDepth 100000
def twv (w : Ww) : Tw := (w.1, w.2.2.2)
theorem eh {ws : List Ww} {i : Nat} {x : Tw} {rest : List Tw} (h : (ws.drop i).map twv = x :: rest) : ∃ hi : i < ws.length, ws[i].1 = x.1 ∧ ws[i].2.2.2 = x.2 ∧ (ws.drop (i + 1)).map twv = rest := by
 have hi : i < ws.length := by
  rcases Nat.lt_or_ge i ws.length with h1 | h1
  ·exact h1
  ·rw [List.drop_of_length_le h1] at h; cases h
 rw [List.drop_eq_getElem_cons hi, List.map_cons] at h
 injection h with h1 h2
 refine ⟨hi, ?_, ?_, h2⟩
 ·rw [← h1]; rfl
 ·rw [← h1]; rfl
theorem As {ws : List Ww} {i : Nat} (h : (ws.drop i).map twv = []) : ws.length ≤ i := by
 have := congrArg List.length h
 simp at this; omega
theorem Gk {c : UInt8} (h : gL c = true) : eF c = false := by
 have : ∀ n : Nat, n < 256 → (gL (UInt8.ofNat n) = true → eF (UInt8.ofNat n) = false) := by decide +kernel
 have := this c.toNat c.toNat_lt
 rw [UInt8.ofNat_toNat] at this
 exact this h
theorem sM {s : List UInt8} (h : okF s = true) : (∀ c ∈ s, gL c = true) ∧ 1 ≤ s.length ∧ s.length ≤ 16 := by
 unfold okF at h
 simp only [Bool.and_eq_true, decide_eq_true_eq, List.all_eq_true] at h
 exact h
theorem FS {M : Store} {w : Ww} (hq : w.2.2.2 = false) (hF : okF w.1 = true) {Q : Value → Store → Prop} (hQ : ∀ M', Up M M' → Q (tv false) M') : R F.W #[.agg (wws w).toArray] M Q := by
 apply CR
 unfold vn
 rw [FJ, ab]
 refine aq fun M1 u1 o1 n1 => ?_
 have o1 : Ob M1 M.n [sv w.1, iv w.2.1, iv w.2.2.1, tv w.2.2.2] Ty.c := o1
 simp only [aS, o1.l4]
 rw [hq, aM, Bool.not_false, bC, eK, bZ 1 1 rfl, ae]
 obtain ⟨h1, h2, h3⟩ := sM hF
 split
 ·show OP (ixS (sv w.1) (iv ((0 : Nat) : Int))) _
  rw [kF w.1 0 (by omega)]
  refine uR ?_
  rw [Gk (h1 _ (List.getElem_mem _))]
  exact ⟨rfl, hQ M1 u1⟩
 ·exact ⟨rfl, hQ M1 u1⟩
abbrev Pz (M : Store) (b : Nat) (vR : Value) : Prop := Ob M b [vR, .slice none 0 0, .slice none 0 0, .slice none 0 0, iv 0, iv 0, iv 0] Ty.s
theorem nX {M : Store} {b : Nat} {vR : Value} (o : Pz M b vR) (K : Value → Prop) : (OP (cg (pt b)) fun t => OP (fad 4 t) fun t => OP (fad 0 t) fun t => OP (ld 1 false t M) K) = K (iv 0) := by
 rw [mi, aS, py]
 rw [show ld 1 false (.pointer (some ⟨b, 4 + 0, none⟩)) M = some (iv 0) from o.ld (o := 4) rfl, ab]
theorem uQ {M : Store} {b : Nat} {vR : Value} (o : Pz M b vR) (K : Value → Prop) : (OP (cg (pt b)) fun t => OP (fad 0 t) fun t => OP (fad 0 t) fun t => OP (ld 1 false t M) K) = K vR := by
 rw [mi, aS, py]
 rw [show ld 1 false (.pointer (some ⟨b, 0 + 0, none⟩)) M = some vR from o.ld (o := 0) rfl, ab]
section
variable {M0 : Store} {b i0 : Nat} {vR v : Value} {ws : List Ww} {sa sb : List UInt8} {names : List (List UInt8)} {rest : List Tw} {most j : Nat} {Q : Value → Store → Prop}
theorem ES (x : List UInt8) (K : List Value → Prop) : OP (al (.string ⟨#[]⟩) 1 1 [(0, sv x)]) K = K [sv x] := by kernel_rfl
theorem sI {M : Store} {x16 : Value} {i : Nat} (hu : Up M0 M) (hN : NV sv Ty.a M0 M x16 names) (hi : i = j) (hQ : ∀ w M', Up M0 M' → NV sv Ty.a M0 M' w names → Q (.tuple #[w, iv (j : Int)]) M') : dd (iv (i : Int)) x16 M Q := by
 apply z7
 unfold rz
 subst hi
 refine ⟨?_, hQ _ _ hu hN⟩
 obtain ⟨a, c, rfl⟩ := hN.sl.slice
 rfl
theorem DH (o : Pz M0 b vR) (h : WW M0 v ws) (hwl : ws.length ≤ 2 ^ 20) (ha : okF sa = false) (hb : okF sb = false) (hr : rest = [] ∨ ∃ s r, rest = wT s :: r ∧ (s = sa ∨ s = sb)) (hn : names.length ≤ 2 ^ 20)
    (hQ : ∀ w M', Up M0 M' → NV sv Ty.a M0 M' w names → Q (.tuple #[w, iv (j : Int)]) M') :
    ∀ (ns acc : List (List UInt8)) (i : Nat) (x16 : Value) (M : Store), Up M0 M → NV sv Ty.a M0 M x16 acc → (ws.drop i).map twv = ns.map wT ++ rest → (∀ x ∈ ns, okN x = true) → acc ++ ns = names → i + ns.length = j → names.length ≤ most →
     ak (pt b) v (iv (i : Int)) (iv (most : Int)) (tv true) (sv sa) (sv sb) x16 M Q := by
 intro ns
 induction ns with
 | nil =>
  intro acc i x16 M hu hN hd hok hac hij hm
  rw [List.append_nil] at hac
  subst hac
  apply r7
  unfold lY
  rw [(Sl.up h hu).lenV, ab]
  show OP (ad .lss (iv (i : Int)) (iv (ws.length : Int))) _
  rw [ag, ae]
  rcases hr with rfl | ⟨s, r, rfl, hs⟩
  ·have := As hd
   rw [if_neg (by omega)]
   exact sI hu hN (by simpa using hij) hQ
  ·obtain ⟨hi, e1, e2, e3⟩ := eh (x := wT s) (rest := r) hd
   rw [if_pos hi, nX (o.up hu), show OP (ad .eql (iv 0) (.int .i64 0)) = OP (ad .eql (iv ((0 : Nat) : Int)) (.int .i64 0)) from rfl, bZ 0 0 rfl, ae, if_pos rfl, dP (Sl.up h hu) hi]
   refine fi fun M1 u1 => ?_
   rw [aM, au]
   split
   ·rename_i hne
    rw [dP (Sl.up h (hu.trans u1)) hi]
    refine fi fun M2 u2 => ?_
    have e : (decide (ws[i].1 = sb) && !ws[i].2.2.2) = true := by
     rw [e1, e2]
     rcases hs with hs | hs
     ·rw [e1, e2, hs] at hne; simp at hne
     ·rw [hs]; simp
    rw [e, aM, au, if_neg (by simp)]
    exact sI (hu.trans (u1.trans u2)) (Nw.up hN (u1.trans u2)) (by simpa using hij) hQ
   ·exact sI (hu.trans u1) (Nw.up hN u1) (by simpa using hij) hQ
 | cons x ns ih =>
  intro acc i x16 M hu hN hd hok hac hij hm
  obtain ⟨hi, e1, e2, e3⟩ := eh (x := wT x) (rest := ns.map wT ++ rest) hd
  have hx := hok x (by simp)
  have hF := y8 hx
  unfold okN at hx
  simp only [Bool.and_eq_true, decide_eq_true_eq] at hx
  have e1 : ws[i].1 = x := e1
  have e2 : ws[i].2.2.2 = false := e2
  have hxa : x ≠ sa := fun e => by rw [e, ha] at hF; cases hF
  have hxb : x ≠ sb := fun e => by rw [e, hb] at hF; cases hF
  have hxl := (sM hF).2.2
  apply r7
  unfold lY
  rw [(Sl.up h hu).lenV, ab]
  show OP (ad .lss (iv (i : Int)) (iv (ws.length : Int))) _
  rw [ag, ae, if_pos hi, nX (o.up hu), show OP (ad .eql (iv 0) (.int .i64 0)) = OP (ad .eql (iv ((0 : Nat) : Int)) (.int .i64 0)) from rfl, bZ 0 0 rfl, ae, if_pos rfl, dP (Sl.up h hu) hi]
  refine fi fun M1 u1 => ?_
  rw [e1, decide_eq_false hxa, Bool.false_and, aM, Bool.not_false, bC, dP (Sl.up h (hu.trans u1)) hi]
  refine fi fun M2 u2 => ?_
  rw [e1, decide_eq_false hxb, Bool.false_and, aM, Bool.not_false, bC]
  have u02 := hu.trans (u1.trans u2)
  apply z6
  unfold ry
  rw [dP (Sl.up h u02) hi]
  refine FS e2 (by rw [e1]; exact hF) fun M3 u3 => ?_
  have u03 := u02.trans u3
  rw [aI, iP (Sl.up h u03) hi (f := 3) (w := tv false) (by rw [← e2]; rfl), aI]
  have ht : ∀ (M' : Store), Up M0 M' → ∀ K : Value → Prop, (OP (ixA 4 v (iv (i : Int))) fun p => OP (fad 0 p) fun p => OP (ld 1 false p M') K) = K (sv x) := fun M' hu' K => iP (Sl.up h hu') hi (f := 0) (w := sv x) (by rw [← e1]; rfl) K
  rw [ht M3 u03]
  refine I4 (by omega) ?_
  rw [hF, aM, au, if_neg (by simp), Jb, ht M3 u03]
  show OP (ao .eql (sv x) (sv yB)) _
  rw [jz, decide_eq_false hx.2.1, Ja, ht M3 u03]
  show OP (ao .eql (sv x) (sv FH)) _
  rw [jz, decide_eq_false hx.2.2, aI]
  have hlen : acc.length + (ns.length + 1) = names.length := by rw [← hac]; simp
  rw [(Nw.sl hN).lenV, ab]
  show OP (ad .geq (iv (acc.length : Int)) (iv (most : Int))) _
  rw [gD, ae, if_neg (by omega), ht M3 u03, ES, aY]
  have hN3 := Nw.up hN ((u1.trans u2).trans u3)
  refine NV.app1 (M0 := M0) (Mb := M0) u03 (Nat.le_refl _) u03.n hN3 x rfl (by omega) fun v4 M4 hu4 hN4 _ _ => ?_
  rw [ah _ (by omega)]
  exact ih (acc ++ [x]) (i + 1) v4 M4 hu4 hN4 e3 (fun y hy => hok y (by simp [hy])) (by rw [← hac]; simp) (by rw [← hij]; simp; omega) hm
theorem pI {M : Store} {i : Nat} (o : Pz M b vR) (h : WW M v ws) (hwl : ws.length ≤ 2 ^ 20) (ha : okF sa = false) (hb : okF sb = false) (hr : rest = [] ∨ ∃ s r, rest = wT s :: r ∧ (s = sa ∨ s = sb)) (hd : (ws.drop i).map twv = names.map wT ++ rest) (hok : ∀ x ∈ names, okN x = true) (hm : names.length ≤ most) (hm2 : most ≤ 2 ^ 20) :
    R F.g #[pt b, v, iv (i : Int), iv (most : Int), tv true, sv sa, sv sb] M fun r M' => Up M M' ∧ ∃ w, r = .tuple #[w, iv ((i + names.length : Nat) : Int)] ∧ NV sv Ty.a M M' w names := by
 refine R.cps fun Q hQ => ?_
 apply C3
 unfold vy
 exact DH (M0 := M) (j := i + names.length) o h hwl ha hb hr (by omega) (fun w M' hu hN => hQ _ _ ⟨hu, w, rfl, hN⟩) names [] i _ M (Ch.refl _ _) NV.nil hd hok (by simp) rfl hm
theorem Cx {M : Store} {i : Nat} {s : List UInt8} (h : WW M v ws) (hwl : ws.length ≤ 2 ^ 20) (hd : (ws.drop i).map twv = wT s :: rest) (hQ : ∀ M', Up M M' → Q (iv ((i + 1 : Nat) : Int)) M') : R F.q #[pt b, v, iv (i : Int), sv s] M Q := by
 obtain ⟨hi, e1, e2, e3⟩ := eh hd
 apply ED
 unfold xT
 rw [h.lenV, ab]
 show OP (ad .geq (iv (i : Int)) (iv (ws.length : Int))) _
 rw [gD, ae, if_neg (by omega), dP h hi]
 refine fi fun M1 u1 => ?_
 rw [e1, e2, decide_eq_true rfl, aM, au, if_neg (by simp), ah _ (by omega)]
 exact ⟨rfl, hQ M1 u1⟩
end
abbrev Rc := Value × Value × Value × Value × Bool
def rcE (c : Rc) : List Value := [c.1, c.2.1, c.2.2.1, c.2.2.2.1, tv c.2.2.2.2]
theorem Cu (c : Rc) : (rcE c).length = 5 := rfl
def AcV (M : Store) (v : Value) (l : List (List Dw)) : Prop := Ls DS Ty.k M v l
structure RuV (M : Store) (c : Rc) (r : RuT) : Prop where
 o : LV sv Ty.a M c.1 r.outs
 i : LV sv Ty.a M c.2.1 r.ins
 d : LV sv Ty.a M c.2.2.1 r.order
 a : AcV M c.2.2.2.1 (r.acts.map aDw)
 p : c.2.2.2.2 = r.ph
theorem AcV.up {M M' : Store} {v : Value} {l : List (List Dw)} (h : AcV M v l) (k : Up M M') : AcV M' v l := Ls.up (E := DS) (fun _ _ _ _ h k => Sl.up h k) h k
theorem RuV.up {M M' : Store} {c : Rc} {r : RuT} (h : RuV M c r) (k : Up M M') : RuV M' c r := ⟨h.o.up k, h.i.up k, h.d.up k, h.a.up k, h.p⟩
theorem RuV.keep {M M' : Store} {c : Rc} {r : RuT} (h : RuV M c r) {T : TypeId} (h1 : Ty.a ≠ T) (h2 : Ty.f ≠ T) (h3 : Ty.k ≠ T) (k : Keep T M M') : RuV M' c r :=
 ⟨Sl.keep h.o h1 k, Sl.keep h.i h1 k, Sl.keep h.d h1 k, Ls.keep (E := DS) (fun _ _ _ _ h k => Sl.keep h h2 k) h.a h3 k, h.p⟩
def EachR (M : Store) : List Rc → List RuT → Prop
 | [], [] => True
 | c :: cs, r :: rs => RuV M c r ∧ EachR M cs rs
 | _, _ => False
theorem EachR.mono {M M' : Store} (hE : ∀ c r, RuV M c r → RuV M' c r) : ∀ {cs : List Rc} {rs : List RuT}, EachR M cs rs → EachR M' cs rs
 | [], [], _ => trivial
 | c :: cs, r :: rs, h => ⟨hE _ _ h.1, EachR.mono hE h.2⟩
 | [], _ :: _, h => h.elim
 | _ :: _, [], h => h.elim
theorem EachR.len {M : Store} : ∀ {cs : List Rc} {rs : List RuT}, EachR M cs rs → cs.length = rs.length
 | [], [], _ => rfl
 | c :: cs, r :: rs, h => by simp [EachR.len h.2]
 | [], _ :: _, h => h.elim
 | _ :: _, [], h => h.elim
theorem EachR.app {M : Store} {c : Rc} {r : RuT} (hc : RuV M c r) : ∀ {cs : List Rc} {rs : List RuT}, EachR M cs rs → EachR M (cs ++ [c]) (rs ++ [r])
 | [], [], _ => ⟨hc, trivial⟩
 | c' :: cs, r' :: rs, h => ⟨h.1, EachR.app hc h.2⟩
 | [], _ :: _, h => h.elim
 | _ :: _, [], h => h.elim
theorem EachR.at {M : Store} : ∀ {cs : List Rc} {rs : List RuT}, EachR M cs rs → ∀ {i : Nat} (h1 : i < cs.length) (h2 : i < rs.length), RuV M cs[i] rs[i]
 | c :: cs, r :: rs, h, 0, _, _ => h.1
 | c :: cs, r :: rs, h, i + 1, h1, h2 => EachR.at h.2 (by simpa using h1) (by simpa using h2)
 | [], [], _, i, h1, _ => absurd h1 (Nat.not_lt_zero _)
 | [], _ :: _, h, _, _, _ => h.elim
 | _ :: _, [], h, _, _, _ => h.elim
def RL (M : Store) (v : Value) (rs : List RuT) : Prop := ∃ cs : List Rc, LK 5 rcE Ty.g M v cs ∧ EachR M cs rs
theorem RL.up {M M' : Store} {v : Value} {rs : List RuT} (h : RL M v rs) (k : Up M M') : RL M' v rs := by
 obtain ⟨cs, h1, h2⟩ := h
 exact ⟨cs, h1.up k, h2.mono fun _ _ h => h.up k⟩
theorem RL.len {M : Store} {v : Value} {rs : List RuT} (h : RL M v rs) : lenV v = some (iv (rs.length : Int)) := by
 obtain ⟨cs, h1, h2⟩ := h
 rw [← h2.len]; exact h1.len
theorem RL.keep {M M' : Store} {v : Value} {rs : List RuT} (h : RL M v rs) {T : TypeId} (h1 : Ty.a ≠ T) (h2 : Ty.f ≠ T) (h3 : Ty.k ≠ T) (h4 : Ty.g ≠ T) (k : Keep T M M') : RL M' v rs := by
 obtain ⟨cs, g1, g2⟩ := h
 exact ⟨cs, Sl.keep g1 h4 k, g2.mono fun _ _ h => h.keep h1 h2 h3 k⟩
theorem RL.fld {M : Store} {v : Value} {rs : List RuT} (h : RL M v rs) {i : Nat} (hi : i < rs.length) : ∃ c : Rc, RuV M c rs[i] ∧ ∀ (f : Nat) (w : Value), (rcE c)[f]? = some w → ∀ K : Value → Prop, (OP (ixA 5 v (iv (i : Int))) fun p => OP (fad f p) fun p => OP (ld 1 false p M) K) = K w := by
 obtain ⟨cs, h1, h2⟩ := h
 have hci : i < cs.length := by rw [h2.len]; exact hi
 refine ⟨cs[i], h2.at hci hi, fun f w hf K => ?_⟩
 obtain ⟨b, o, e1, e2⟩ := LK.fld Cu h1 hci hf .i64
 show (OP (ixA 5 v (.int .i64 (i : Int))) fun p => OP (fad f p) fun p => OP (ld 1 false p M) K) = _
 rw [e1, ab, py, e2, ab]
section
variable {M : Store} {b : Nat} {vR : Value} {rs : List RuT} {s : List UInt8} {Q : Value → Store → Prop}
theorem I0 (o : Pz M b vR) (h : RL M vR rs) {i : Nat} (hi : i < rs.length) (hl : rs[i].outs.length ≤ 2 ^ 40) (hs : s ∉ rs[i].outs) (hk : kB (pt b) (sv s) (iv (i : Int)) M Q) : ∀ (d k : Nat), d + k = rs[i].outs.length → fO (pt b) (sv s) (iv (i : Int)) (iv (k : Int)) M Q := by
 obtain ⟨c, hc, hf⟩ := h.fld hi
 intro d
 induction d with
 | zero =>
  intro k hk'
  apply v9
  unfold pf
  rw [uQ o, hf 0 c.1 rfl, hc.o.len, ab, ag, ae, if_neg (by omega)]
  exact hk
 | succ d ih =>
  intro k hk'
  have hkl : k < rs[i].outs.length := by omega
  apply v9
  unfold pf
  rw [uQ o, hf 0 c.1 rfl, hc.o.len, ab, ag, ae, if_pos hkl]
  apply C5
  unfold vB
  obtain ⟨p, e1, e2⟩ := hc.o.at hkl .i64
  rw [uQ o, hf 0 c.1 rfl, e1, ab, e2, ab, jz, decide_eq_false (fun e => hs (by rw [← e]; exact List.getElem_mem hkl)), aI, ah _ (by omega)]
  exact ih (k + 1) (by omega)
theorem I1 (o : Pz M b vR) (h : RL M vR rs) (hl : rs.length ≤ 2 ^ 40) (hol : ∀ r ∈ rs, r.outs.length ≤ 2 ^ 40) (hs : ∀ r ∈ rs, s ∉ r.outs) (hQ : Q (tv false) M) : R F.d1 #[pt b, sv s] M Q := by
 apply FP
 unfold zr
 have key : ∀ (d i : Nat), d + i = rs.length → fN (pt b) (sv s) (iv (i : Int)) M Q := by
  intro d
  induction d with
  | zero =>
   intro i hi
   apply v8
   unfold pd
   rw [uQ o, h.len, ab, ag, ae, if_neg (by omega)]
   apply C4
   unfold vz
   exact ⟨rfl, hQ⟩
  | succ d ih =>
   intro i hi
   have hil : i < rs.length := by omega
   apply v8
   unfold pd
   rw [uQ o, h.len, ab, ag, ae, if_pos hil]
   refine I0 o h hil (hol _ (List.getElem_mem hil)) (hs _ (List.getElem_mem hil)) ?_ _ 0 rfl
   apply C6
   unfold vC
   rw [ah _ (by omega)]
   exact ih (i + 1) (by omega)
 exact key rs.length 0 rfl
end
end Go.G

namespace Go.G
open Go.Ab Go.Proofs Go.RowKit
set_option linter.unusedVariables false
set_option linter.unusedSimpArgs false
set_option maxRecDepth 100000
theorem aC {ws : List Ww} {x : Tw} {r : List Tw} (h : ws.map twv = x :: r) : ∃ l c ws', ws = (x.1, l, c, x.2) :: ws' ∧ ws'.map twv = r := by
 cases ws with
 | nil => cases h
 | cons w ws' =>
  rw [List.map_cons] at h
  injection h with h1 h2
  obtain ⟨t, l, c, q⟩ := w
  subst h1
  exact ⟨l, c, ws', rfl, h2⟩
theorem jU {ws : List Ww} (h : ws.map twv = []) : ws = [] := List.map_eq_nil_iff.1 h
theorem EL : ∀ a, a < 8 → ∀ ws : List Ww, ws.map twv = aWt a → jR (ws.length + 1) ws [] = some (aDw a)
 | 0, _, ws, h => by
  obtain ⟨l1, c1, w1, rfl, h1⟩ := aC (show ws.map twv = _ :: _ from h)
  obtain rfl := jU h1
  kernel_rfl
 | 1, _, ws, h => by
  obtain ⟨l1, c1, w1, rfl, h1⟩ := aC (show ws.map twv = _ :: _ from h)
  obtain ⟨l2, c2, w2, rfl, h2⟩ := aC h1
  obtain ⟨l3, c3, w3, rfl, h3⟩ := aC h2
  obtain rfl := jU h3
  kernel_rfl
 | 2, _, ws, h => by
  obtain ⟨l1, c1, w1, rfl, h1⟩ := aC (show ws.map twv = _ :: _ from h)
  obtain ⟨l2, c2, w2, rfl, h2⟩ := aC h1
  obtain rfl := jU h2
  kernel_rfl
 | 3, _, ws, h => by
  obtain ⟨l1, c1, w1, rfl, h1⟩ := aC (show ws.map twv = _ :: _ from h)
  obtain ⟨l2, c2, w2, rfl, h2⟩ := aC h1
  obtain ⟨l3, c3, w3, rfl, h3⟩ := aC h2
  obtain rfl := jU h3
  kernel_rfl
 | 4, _, ws, h => by
  obtain ⟨l1, c1, w1, rfl, h1⟩ := aC (show ws.map twv = _ :: _ from h)
  obtain ⟨l2, c2, w2, rfl, h2⟩ := aC h1
  obtain rfl := jU h2
  kernel_rfl
 | 5, _, ws, h => by
  obtain ⟨l1, c1, w1, rfl, h1⟩ := aC (show ws.map twv = _ :: _ from h)
  obtain ⟨l2, c2, w2, rfl, h2⟩ := aC h1
  obtain ⟨l3, c3, w3, rfl, h3⟩ := aC h2
  obtain ⟨l4, c4, w4, rfl, h4⟩ := aC h3
  obtain ⟨l5, c5, w5, rfl, h5⟩ := aC h4
  obtain ⟨l6, c6, w6, rfl, h6⟩ := aC h5
  obtain rfl := jU h6
  kernel_rfl
 | 6, _, ws, h => by
  obtain ⟨l1, c1, w1, rfl, h1⟩ := aC (show ws.map twv = _ :: _ from h)
  obtain ⟨l2, c2, w2, rfl, h2⟩ := aC h1
  obtain ⟨l3, c3, w3, rfl, h3⟩ := aC h2
  obtain ⟨l4, c4, w4, rfl, h4⟩ := aC h3
  obtain ⟨l5, c5, w5, rfl, h5⟩ := aC h4
  obtain ⟨l6, c6, w6, rfl, h6⟩ := aC h5
  obtain ⟨l7, c7, w7, rfl, h7⟩ := aC h6
  obtain rfl := jU h7
  kernel_rfl
 | 7, _, ws, h => by
  obtain ⟨l1, c1, w1, rfl, h1⟩ := aC (show ws.map twv = _ :: _ from h)
  obtain ⟨l2, c2, w2, rfl, h2⟩ := aC h1
  obtain ⟨l3, c3, w3, rfl, h3⟩ := aC h2
  obtain rfl := jU h3
  kernel_rfl
 | n + 8, h, _, _ => absurd h (by omega)
theorem sc {a : Nat} (h : a < 8) : 1 ≤ (aWt a).length ∧ (aWt a).length ≤ 7 ∧ ∀ w ∈ aWt a, w ≠ wT [44] := by
 have h1 : gz.all (fun ws => decide (1 ≤ ws.length) && (decide (ws.length ≤ 7) && ws.all fun w => decide (w ≠ wT [44]))) = true := by kernel_rfl
 have := List.all_eq_true.1 h1 _ (oF h)
 simp only [Bool.and_eq_true, decide_eq_true_eq, List.all_eq_true] at this
 exact this
section
variable {M0 : Store} {b : Nat} {vR v : Value} {rs : List RuT} {ws : List Ww} {outs : List (List UInt8)} {rest : List Tw} {most : Nat} {Q : Value → Store → Prop}
theorem DO {x8 : Value} {acc : List (List UInt8)} {x : List UInt8} {M : Store} {i : Nat} (hN : LV sv Ty.a M x8 acc) (hal : acc.length ≤ 2 ^ 30) (hx : x ∉ acc) (ht : ∀ K : Value → Prop, (OP (ixA 4 v (iv (i : Int))) fun p => OP (fad 0 p) fun p => OP (ld 1 false p M) K) = K (sv x))
    (hk : jo (pt b) v (iv (most : Int)) x8 (iv (i : Int)) (tv false) M Q) : ∀ (d k : Nat), d + k = acc.length → dG (pt b) v (iv (most : Int)) x8 (iv (i : Int)) (tv false) (iv (k : Int)) M Q := by
 intro d
 induction d with
 | zero =>
  intro k hk'
  apply tV
  unfold nL
  rw [hN.len, ab, ag, ae, if_neg (by omega)]
  exact hk
 | succ d ih =>
  intro k hk'
  have hkl : k < acc.length := by omega
  apply tV
  unfold nL
  rw [hN.len, ab, ag, ae, if_pos hkl]
  apply Bp
  unfold tK
  obtain ⟨p, e1, e2⟩ := hN.at hkl .i64
  rw [aI, e1, ab, e2, ab, ht, jz, decide_eq_false (fun e => hx (by rw [← e]; exact List.getElem_mem hkl)), ah _ (by omega)]
  exact ih (k + 1) (by omega)
theorem Fl (o : Pz M0 b vR) (hR : RL M0 vR rs) (hrl : rs.length ≤ 2 ^ 30) (hol : ∀ r ∈ rs, r.outs.length ≤ 2 ^ 30) (h : WW M0 v ws) (hwl : ws.length ≤ 2 ^ 20) (hne : outs ≠ []) (hm : outs.length ≤ most) (hm2 : most ≤ 2 ^ 20) {j : Nat}
    (hQ : ∀ w M', Up M0 M' → NV sv Ty.a M0 M' w outs → Q (.tuple #[w, iv ((j + 1 : Nat) : Int)]) M') :
    ∀ (ns acc : List (List UInt8)) (i : Nat) (x8 : Value) (M : Store), Up M0 M → NV sv Ty.a M0 M x8 acc → (ws.drop i).map twv = ns.map wT ++ wT [58] :: rest → (∀ x ∈ ns, okN x = true ∧ ∀ r ∈ rs, x ∉ r.outs) → acc ++ ns = outs → outs.Nodup → i + ns.length = j →
     eN (pt b) v (iv (most : Int)) x8 (iv (i : Int)) M Q := by
 intro ns
 induction ns with
 | nil =>
  intro acc i x8 M hu hN hd hok hac hnd hij
  rw [List.append_nil] at hac
  subst hac
  obtain ⟨hi, e1, e2, e3⟩ := eh (x := wT [58]) (rest := rest) hd
  apply tU
  unfold nK
  rw [(Sl.up h hu).lenV, ab]
  show OP (ad .lss (iv (i : Int)) (iv (ws.length : Int))) _
  rw [ag, ae, if_pos hi, nX (o.up hu), show OP (ad .eql (iv 0) (.int .i64 0)) = OP (ad .eql (iv ((0 : Nat) : Int)) (.int .i64 0)) from rfl, bZ 0 0 rfl, ae, if_pos rfl, dP (Sl.up h hu) hi]
  refine fi (t := [58]) fun M1 u1 => ?_
  have e1 : ws[i].1 = [58] := e1
  have e2 : ws[i].2.2.2 = false := e2
  rw [e1, e2, decide_eq_true rfl, aM, Bool.not_false, Bool.and_true, Bool.not_true, aI]
  have u01 := hu.trans u1
  have hN1 := Nw.up hN u1
  apply Bn
  unfold tI
  rw [nX (o.up u01), show OP (ad .eql (iv 0) (.int .i64 0)) = OP (ad .eql (iv ((0 : Nat) : Int)) (.int .i64 0)) from rfl, bZ 0 0 rfl, ae, if_pos rfl, (Nw.sl hN1).lenV, ab]
  show OP (ad .eql (iv (acc.length : Int)) (.int .i64 0)) _
  rw [bZ 0 0 rfl, ae, if_neg (fun e => hne (List.length_eq_zero_iff.1 e))]
  refine Cx (s := [58]) (rest := rest) (Sl.up h u01) hwl (by simpa using hd) fun M2 u2 => ?_
  have hN2 := Nw.up hN1 u2
  have hij : i = j := by simpa using hij
  subst hij
  refine ⟨?_, hQ x8 M2 (u01.trans u2) hN2⟩
  obtain ⟨a, c, rfl⟩ := hN2.sl.slice
  rfl
 | cons x ns ih =>
  intro acc i x8 M hu hN hd hok hac hnd hij
  obtain ⟨hi, e1, e2, e3⟩ := eh (x := wT x) (rest := ns.map wT ++ wT [58] :: rest) hd
  have e1 : ws[i].1 = x := e1
  have e2 : ws[i].2.2.2 = false := e2
  obtain ⟨hx, hxo⟩ := hok x (by simp)
  have hF := y8 hx
  have hx58 : x ≠ [58] := fun e => by rw [e] at hF; revert hF; decide
  have hlen : acc.length + (ns.length + 1) = outs.length := by rw [← hac]; simp
  have hxa : x ∉ acc := by
   rw [← hac, List.nodup_append] at hnd
   intro hm
   exact hnd.2.2 x hm x (by simp) rfl
  apply tU
  unfold nK
  rw [(Sl.up h hu).lenV, ab]
  show OP (ad .lss (iv (i : Int)) (iv (ws.length : Int))) _
  rw [ag, ae, if_pos hi, nX (o.up hu), show OP (ad .eql (iv 0) (.int .i64 0)) = OP (ad .eql (iv ((0 : Nat) : Int)) (.int .i64 0)) from rfl, bZ 0 0 rfl, ae, if_pos rfl, dP (Sl.up h hu) hi]
  refine fi (t := [58]) fun M1 u1 => ?_
  rw [e1, decide_eq_false hx58, Bool.false_and, aM, Bool.not_false, bC]
  have u01 := hu.trans u1
  apply Bm
  unfold tH
  rw [ah _ (by omega)]
  obtain ⟨v2, g1, g2⟩ := LK.cut ji (Sl.up h u01) (lo := some (iv (i : Int))) (hi := some (iv ((i + 1 : Nat) : Int))) (a := i) (r := i + 1) (i6 (by omega) .i64) (i6 (by omega) .i64) (by omega) (by omega)
  rw [g1, ab]
  have hseg : (ws.take (i + 1)).drop i = [ws[i]] := by
   rw [List.drop_take, Nat.add_sub_cancel_left, List.drop_eq_getElem_cons hi]; rfl
  rw [hseg] at g2
  show R F.g #[pt b, v2, iv ((0 : Nat) : Int), iv ((1 : Nat) : Int), tv true, sv [], sv []] M1 _
  refine (pI (names := [x]) (rest := []) (o.up u01) g2 (by simp) (by decide) (by decide) (.inl rfl) (by simp [twv, e1, e2]) (by simpa using hx) (by simp) (by decide)).mono fun r M2 ⟨u2, _⟩ => ?_
  have u02 := u01.trans u2
  have hN2 := Nw.up hN (u1.trans u2)
  rw [(Nw.sl hN2).lenV, ab]
  show OP (ad .geq (iv (acc.length : Int)) (iv (most : Int))) _
  rw [gD, ae, if_neg (by omega)]
  have ht : ∀ (M' : Store), Up M0 M' → ∀ K : Value → Prop, (OP (ixA 4 v (iv (i : Int))) fun p => OP (fad 0 p) fun p => OP (ld 1 false p M') K) = K (sv x) := fun M' hu' K => iP (Sl.up h hu') hi (f := 0) (w := sv x) (by rw [← e1]; rfl) K
  apply Bo
  unfold tJ
  rw [ht M2 u02]
  refine I1 (o.up u02) (hR.up u02) (by omega) (fun r hr => by have := hol r hr; omega) hxo ?_
  refine DO (Nw.sl hN2) (by omega) hxa (ht M2 u02) ?_ acc.length 0 rfl
  apply Bq
  unfold tL
  rw [aI, ht M2 u02, ES, aY]
  refine NV.app1 (M0 := M0) (Mb := M0) u02 (Nat.le_refl _) u02.n hN2 x rfl (by omega) fun v4 M4 hu4 hN4 _ _ => ?_
  apply Br
  unfold tM
  rw [ah _ (by omega)]
  exact ih (acc ++ [x]) (i + 1) v4 M4 hu4 hN4 e3 (fun y hy => hok y (by simp [hy])) (by rw [← hac]; simp) hnd (by rw [← hij]; simp; omega)
theorem Cs {M : Store} (o : Pz M b vR) (hR : RL M vR rs) (hrl : rs.length ≤ 2 ^ 30) (hol : ∀ r ∈ rs, r.outs.length ≤ 2 ^ 30) (h : WW M v ws) (hwl : ws.length ≤ 2 ^ 20) (hne : outs ≠ []) (hm : outs.length ≤ most) (hm2 : most ≤ 2 ^ 20) (hnd : outs.Nodup)
    (hd : (ws.drop 1).map twv = outs.map wT ++ wT [58] :: rest) (hok : ∀ x ∈ outs, okN x = true ∧ ∀ r ∈ rs, x ∉ r.outs) :
    R F.b1 #[pt b, v, iv (most : Int)] M fun r M' => Up M M' ∧ ∃ w, r = .tuple #[w, iv ((1 + outs.length + 1 : Nat) : Int)] ∧ NV sv Ty.a M M' w outs := by
 refine R.cps fun Q hQ => ?_
 apply EA
 unfold xR
 exact Fl (M0 := M) (j := 1 + outs.length) o hR hrl hol h hwl hne hm hm2 (fun w M' hu hN => hQ _ _ ⟨hu, w, rfl, hN⟩) outs [] 1 _ M (Ch.refl _ _) NV.nil hd hok (by simp) hnd rfl
end
abbrev NAc (M0 M : Store) (v : Value) (l : List (List Dw)) : Prop := NLs DS Ty.k M0 M v l
theorem IQ : Ty.f ≠ Ty.k := by decide
section
variable {M0 : Store} {b : Nat} {vR v : Value} {ws : List Ww} {all : List (List Dw)} {n : Nat} {Q : Value → Store → Prop}
theorem FY (o : Pz M0 b vR) (h : WW M0 v ws) (hwl : ws.length ≤ 2 ^ 20) {from_ : Nat} {a : Nat} (ha : a < 8) {x9 : Value} {acc : List (List Dw)} {M : Store} (hu : Up M0 M) (hN : NAc M0 M x9 acc) (hn : acc.length < n) (hn2 : n ≤ 2 ^ 20) {e : Nat} (hfe : from_ + (aWt a).length = e) (hel : e ≤ ws.length) (hseg : ((ws.take e).drop from_).map twv = aWt a)
    (hk : ∀ w M', Up M0 M' → NAc M0 M' w (acc ++ [aDw a]) → cq (pt b) v (iv (n : Int)) w (iv ((e + 1 : Nat) : Int)) (iv ((e + 1 : Nat) : Int)) M' Q) :
    eL (pt b) v (iv (n : Int)) x9 (iv (from_ : Int)) (iv (e : Int)) M Q := by
 obtain ⟨f1, f2, _⟩ := sc ha
 have h0 : 0 < ws.length := by omega
 have hfl : from_ < ws.length := by omega
 apply Bj
 unfold tE
 show OP (ixA 4 v (iv ((0 : Nat) : Int))) _
 rw [dP (Sl.up h hu) h0]
 refine aq fun M1 u1 o1 n1 => ?_
 refine bp (vs := wws ws[0]) o1 rfl rfl (by kernel_rfl) fun M2 c2 o2 _ => ?_
 have u2 : Up M0 M2 := (hu.trans u1).ch c2 (by simpa using hu.n)
 rw [ag, ae, if_pos (by omega), dP (Sl.up h u2) hfl]
 refine bp (vs := wws ws[from_]) o2 rfl rfl (by kernel_rfl) fun M3 c3 o3 _ => ?_
 have u3 : Up M0 M3 := u2.ch c3 (by simpa using hu.n)
 have hN3 : NAc M0 M3 x9 acc := NLs.up (E := DS) (fun _ _ _ _ h k => Sl.up h k) hN (((Ch.refl _ _ : Up M M).trans u1).ch c2 (by simp) |>.ch c3 (by simp))
 apply Bk
 unfold tF
 rw [hN3.ls.lenV, ab]
 show OP (ad .geq (iv (acc.length : Int)) (iv (n : Int))) _
 rw [gD, ae, if_neg (by omega)]
 apply Bl
 unfold tG
 obtain ⟨v2, g1, g2⟩ := LK.cut ji (Sl.up h u3) (lo := some (iv (from_ : Int))) (hi := some (iv (e : Int))) (a := from_) (r := e) (i6 hel .i64) (i6 (by omega) .i64) hel (by omega)
 rw [g1, ab]
 generalize hsg : (ws.take e).drop from_ = sg at *
 have hsl : sg.length = (aWt a).length := by rw [← hseg, List.length_map]
 have hgood := (pj _ (oF ha)).2
 refine (Bc g2 (by omega) (fun w hw => ?_)).mono fun r M4 ⟨u4, hr⟩ => ?_
 ·have hm : twv w ∈ aWt a := by rw [← hseg]; exact List.mem_map_of_mem hw
  have := hgood _ hm
  unfold dC at this
  rw [Bool.and_eq_true, decide_eq_true_eq] at this
  have := this.1
  show w.1.length ≤ _
  have h2 : (twv w).1 = w.1 := rfl
  rw [h2] at this
  omega
 rw [EL a ha sg hseg] at hr
 obtain ⟨w, rfl, hw⟩ := hr
 rw [(tp2 _ _).1, (tp2 _ _).2, aM, Bool.not_true, aI]
 obtain ⟨wa, wc, rfl⟩ := hw.sl.slice
 rw [ET, aY]
 have u04 := u3.trans u4
 have hN4 : NAc M0 M4 x9 acc := NLs.up (E := DS) (fun _ _ _ _ h k => Sl.up h k) hN3 u4
 obtain ⟨v', M', e1, hu', hN', hkp, _⟩ := NLs.app2 (E := DS) (M0 := M0) (Mb := M0) (x := aDw a) (fun M M' v x (h : DS M v x) k => Sl.keep h IQ k) u04 (Nat.le_refl _) u04.n hN4 (Nw.sl hw) (by omega)
 rw [e1, ey, ah _ (by omega)]
 apply tT
 unfold nJ
 rw [ah _ (by omega)]
 exact hk v' M' hu' hN'
theorem Fa {M M' : Store} {w : Value} {l : List (List Dw)} (h : NAc M0 M w l) (k : Up M M') : NAc M0 M' w l := NLs.up (E := DS) (fun _ _ _ _ h k => Sl.up h k) h k
theorem Gd (K : Value → Prop) : OP (ad .eql (iv 0) (.int .i64 0)) K = K (tv true) := by
 show OP (ad .eql (iv ((0 : Nat) : Int)) (.int .i64 0)) K = _
 rw [bZ 0 0 rfl, decide_eq_true rfl]
theorem EM (o : Pz M0 b vR) (h : WW M0 v ws) (hwl : ws.length ≤ 2 ^ 20) {from_ e : Nat} {x9 : Value} {acc : List (List Dw)} (hel : e ≤ ws.length) (hno : ∀ q (hq : q < ws.length), from_ ≤ q → q < e → twv ws[q] ≠ wT [44])
    (hk : ∀ M, Up M0 M → NAc M0 M x9 acc → cq (pt b) v (iv (n : Int)) x9 (iv (from_ : Int)) (iv (e : Int)) M Q) :
    ∀ (d k : Nat) (M : Store), d + k = e → from_ ≤ k → Up M0 M → NAc M0 M x9 acc → cq (pt b) v (iv (n : Int)) x9 (iv (from_ : Int)) (iv (k : Int)) M Q := by
 intro d
 induction d with
 | zero =>
  intro k M hd hf hu hN
  have : k = e := by omega
  subst this
  exact hk M hu hN
 | succ d ih =>
  intro k M hd hf hu hN
  have hkl : k < ws.length := by omega
  apply nO
  unfold jq
  rw [(Sl.up h hu).lenV, ab]
  show OP (ad .leq (iv (k : Int)) (iv (ws.length : Int))) _
  rw [kL, ae, if_pos (by omega), nX (o.up hu), Gd, bC]
  apply tS
  unfold nI
  rw [(Sl.up h hu).lenV, ab]
  show OP (ad .lss (iv (k : Int)) (iv (ws.length : Int))) _
  rw [ag, ae, if_pos hkl, dP (Sl.up h hu) hkl]
  refine fi (t := [44]) fun M1 u1 => ?_
  have hne := hno k hkl hf (by omega)
  have e0 : (decide (ws[k].1 = [44]) && !ws[k].2.2.2) = false := by
   cases h1 : (decide (ws[k].1 = [44]) && !ws[k].2.2.2) with
   | false => rfl
   | true =>
    simp only [Bool.and_eq_true, decide_eq_true_eq, Bool.not_eq_true'] at h1
    exact absurd (show twv ws[k] = wT [44] by unfold twv; rw [h1.1, h1.2]) hne
  rw [e0, aM, Bool.not_false, bC]
  apply tT
  unfold nJ
  rw [ah _ (by omega)]
  exact ih (k + 1) M1 (by omega) (by omega) (hu.trans u1) (Fa hN u1)
theorem EK (o : Pz M0 b vR) (h : WW M0 v ws) (hwl : ws.length ≤ 2 ^ 20) (hn2 : n ≤ 2 ^ 20) (hQ : ∀ w M', Up M0 M' → NAc M0 M' w all → Q w M') :
    ∀ (aa : List Nat) (acc : List (List Dw)) (from_ : Nat) (x9 : Value) (M : Store), aa ≠ [] → (∀ a ∈ aa, a < 8) → (ws.drop from_).map twv = bz aa → acc.length + aa.length = n → acc ++ aa.map aDw = all → Up M0 M → NAc M0 M x9 acc →
     cq (pt b) v (iv (n : Int)) x9 (iv (from_ : Int)) (iv (from_ : Int)) M Q := by
 intro aa
 induction aa with
 | nil => intro _ _ _ _ hne; exact absurd rfl hne
 | cons a r ih =>
  intro acc from_ x9 M _ ha hd hn hac hu hN
  have ha8 := ha a (by simp)
  obtain ⟨f1, f2, f3⟩ := sc ha8
  rw [bz] at hd
  have hlen : ws.length - from_ = (aWt a).length + (if r = [] then [] else wT [44] :: bz r).length := by
   have := congrArg List.length hd
   simpa using this
  have hel : from_ + (aWt a).length ≤ ws.length := by omega
  have hseg : ((ws.take (from_ + (aWt a).length)).drop from_).map twv = aWt a := by
   rw [List.drop_take, Nat.add_sub_cancel_left, List.map_take, hd, List.take_left]
  have htail : (ws.drop (from_ + (aWt a).length)).map twv = (if r = [] then [] else wT [44] :: bz r) := by
   rw [← List.drop_drop, List.map_drop, hd, List.drop_left]
  have hno : ∀ q (hq : q < ws.length), from_ ≤ q → q < from_ + (aWt a).length → twv ws[q] ≠ wT [44] := by
   intro q hq h1 h2
   refine f3 _ ?_
   rw [← hseg]
   refine List.mem_map_of_mem ?_
   rw [List.mem_iff_getElem]
   refine ⟨q - from_, by rw [List.length_drop, List.length_take]; omega, ?_⟩
   rw [List.getElem_drop, List.getElem_take]
   congr 1; omega
  have hlm : acc.length + (r.length + 1) = n := by simpa using hn
  refine EM (acc := acc) o h hwl hel hno (fun M1 hu1 hN1 => ?_) (aWt a).length from_ M (by omega) (Nat.le_refl _) hu hN
  -- at the end of it
  have four : ∀ M2, Up M0 M2 → NAc M0 M2 x9 acc → eL (pt b) v (iv (n : Int)) x9 (iv (from_ : Int)) (iv ((from_ + (aWt a).length : Nat) : Int)) M2 Q := by
   intro M2 hu2 hN2
   refine FY o h hwl ha8 hu2 hN2 (by omega) hn2 rfl hel hseg fun w M' hu' hN' => ?_
   by_cases hr : r = []
   ·rw [if_pos hr] at htail
    have := As htail
    apply nO
    unfold jq
    rw [(Sl.up h hu').lenV, ab]
    show OP (ad .leq (iv ((from_ + (aWt a).length + 1 : Nat) : Int)) (iv (ws.length : Int))) _
    rw [kL, ae, if_neg (by omega)]
    apply Bi
    unfold tD
    rw [hN'.ls.lenV, ab]
    show OP (ad .lss (iv ((acc ++ [aDw a]).length : Int)) (iv (n : Int))) _
    rw [ag, ae, if_neg (by rw [List.length_append, List.length_singleton]; rw [hr] at hlm; simp at hlm; omega)]
    have hall : acc ++ [aDw a] = all := by rw [← hac, hr]; rfl
    rw [hall] at hN'
    refine ⟨?_, hQ _ _ hu' hN'⟩
    obtain ⟨vs, hv, _⟩ := hN'
    exact eI hv.sl
   ·rw [if_neg hr] at htail
    obtain ⟨hi, e1, e2, e3⟩ := eh htail
    exact ih (acc ++ [aDw a]) _ w M' hr (fun x hx => ha x (by simp [hx])) e3 (by simp; omega) (by rw [← hac]; simp) hu' hN'
  apply nO
  unfold jq
  rw [(Sl.up h hu1).lenV, ab]
  show OP (ad .leq (iv ((from_ + (aWt a).length : Nat) : Int)) (iv (ws.length : Int))) _
  rw [kL, ae, if_pos hel, nX (o.up hu1), Gd, bC]
  apply tS
  unfold nI
  rw [(Sl.up h hu1).lenV, ab]
  show OP (ad .lss (iv ((from_ + (aWt a).length : Nat) : Int)) (iv (ws.length : Int))) _
  rw [ag, ae]
  by_cases hr : r = []
  ·rw [if_pos hr] at htail
   have := As htail
   rw [if_neg (by omega)]
   exact four M1 hu1 hN1
  ·rw [if_neg hr] at htail
   obtain ⟨hi, e1, e2, e3⟩ := eh htail
   rw [if_pos hi, dP (Sl.up h hu1) hi]
   refine fi (t := [44]) fun M2 u2 => ?_
   rw [e1, e2, decide_eq_true rfl, aM, Bool.not_false, Bool.and_true, Bool.not_true, aI]
   exact four M2 (hu1.trans u2) (Fa hN1 u2)
theorem Hh {M : Store} {i : Nat} {aa : List Nat} (o : Pz M b vR) (h : WW M v ws) (hwl : ws.length ≤ 2 ^ 20) (hne : aa ≠ []) (has : ∀ a ∈ aa, a < 8) (hl : aa.length ≤ 2 ^ 20) (hd : (ws.drop i).map twv = bz aa) :
    R F.O #[pt b, v, iv (i : Int), iv (aa.length : Int)] M fun r M' => Up M M' ∧ NAc M M' r (aa.map aDw) := by
 refine R.cps fun Q hQ => ?_
 apply Ey
 unfold xP
 exact EK (M0 := M) (all := aa.map aDw) o h hwl hl (fun w M' hu hN => hQ _ _ ⟨hu, hN⟩) aa [] i _ M hne has hd (by simp) (by simp) (Ch.refl _ _) NLs.nil
end
end Go.G

namespace Go.G
open Go.Ab Go.Proofs Go.RowKit
set_option linter.unusedVariables false
set_option linter.unusedSimpArgs false
set_option maxRecDepth 100000
theorem Nw.frT {s : Nat} {e : TypeId} {M0 M2 M5 M6 : Store} {v : Value} {n : Nat} {cs : List Value} (h2 : Nw s e M0 M2 v n cs) (h5 : Nw s e M0 M5 v n cs) (hc : Ch [M2.n] M5 M6) : Nw s e M0 M6 v n cs := by
 obtain ⟨h1, h | ⟨b', cells', c', e2, e3, e4, e5⟩⟩ := h2
 ·exact ⟨h1, .inl h⟩
 ·obtain ⟨_, h | ⟨b, cells, c, g2, g3, g4, g5⟩⟩ := h5
  ·exact ⟨h1, .inl h⟩
  ·refine ⟨h1, .inr ⟨b, cells, c, g2, g3, hc.at g4 ?_, g5⟩⟩
   have : b = b' := by
    rw [e2] at g2
    simp only [Value.slice.injEq, Option.some.injEq, Addr.mk.injEq] at g2
    exact g2.1.1.symm
   subst this
   have := M2.lt_of_get e4
   simp; omega
theorem CA {S : List Nat} {M M' : Store} (h : Ch S M M') {bs Ns : List Nat} {i : Nat} (hS : ∀ b ∈ S, (M.get b).isSome = true ∧ b < Ns.getD 0 0) : TDx bs Ns i M M' :=
 ⟨h.n, fun c hc => by
  rcases h.tdiff c hc with hc | hc
  ·exact .inl hc
  ·obtain ⟨h1, h2⟩ := hS c hc
   refine .inr ⟨h1, ?_⟩
   unfold gb
   rw [Bool.or_eq_true]
   exact .inl (by simpa using h2)⟩
def PS (M0 M : Store) (b : Nat) (rs : List RuT) : Prop := ∃ vR cs, Pz M b vR ∧ NK 5 rcE Ty.g M0 M vR cs ∧ EachR M cs rs
theorem PS.up {M0 M M' : Store} {b : Nat} {rs : List RuT} (h : PS M0 M b rs) (k : Up M M') : PS M0 M' b rs := by
 obtain ⟨vR, cs, h1, h2, h3⟩ := h
 exact ⟨vR, cs, h1.up k, Nw.up h2 k, h3.mono fun _ _ h => h.up k⟩
theorem PS.len {M0 M : Store} {b : Nat} {rs : List RuT} (h : PS M0 M b rs) : b < M.n := by
 obtain ⟨vR, cs, h1, h2, h3⟩ := h
 exact h1.lt
theorem Jo (p : Bool) (K : Value → Prop) : OP (bB #[(.slice none 0 0), (.slice none 0 0), (.slice none 0 0), (.slice none 0 0), (.bool false)] [(0, 1), (1, 1), (2, 1), (3, 1), (4, 1)] [(4, tv p)]) K = K (.agg [.slice none 0 0, .slice none 0 0, .slice none 0 0, .slice none 0 0, tv p].toArray) := by cases p <;> kernel_rfl
theorem Jh (c : Rc) (h1 : ∃ a n k, c.1 = .slice a n k) (h2 : ∃ a n k, c.2.1 = .slice a n k) (h3 : ∃ a n k, c.2.2.1 = .slice a n k) (h4 : ∃ a n k, c.2.2.2.1 = .slice a n k) (K : List Value → Prop) : OP (al (.agg #[(.slice none 0 0), (.slice none 0 0), (.slice none 0 0), (.slice none 0 0), (.bool false)]) 5 1 [(0, .agg (rcE c).toArray)]) K = K (rcE c) := by
 obtain ⟨a, b, d, e, p⟩ := c
 obtain ⟨_, _, _, rfl⟩ := h1
 obtain ⟨_, _, _, rfl⟩ := h2
 obtain ⟨_, _, _, rfl⟩ := h3
 obtain ⟨_, _, _, rfl⟩ := h4
 kernel_rfl
theorem DG (a b : Nat) (K : Value → Prop) : OP (fQ (iv (a : Int)) (iv (b : Int))) K = K (iv ((min a b : Nat) : Int)) := by
 show OP (fQ (.int .i64 (a : Int)) (.int .i64 (b : Int))) K = _
 rw [GW]
 congr 2
 split <;> omega
section
variable {M0 Mb : Store} {b : Nat} {vR v : Value} {cs : List Rc} {rs : List RuT} {ws : List Ww} {Q : Value → Store → Prop}
structure RI (M0 Mb M : Store) (b : Nat) (vR v : Value) (cs : List Rc) (rs : List RuT) (ws : List Ww) (cells : List Value) : Prop where
 o : Pz M b vR
 h : WW M v ws
 t : Ob M Mb.n cells Ty.g
 N : NK 5 rcE Ty.g M0 M vR cs
 N0 : NK 5 rcE Ty.g M0 Mb vR cs
 E : EachR M cs rs
 u : Up M0 M
 ub : Mb.n ≤ M.n
theorem RI.up {M M' : Store} {cells : List Value} (h : RI M0 Mb M b vR v cs rs ws cells) (k : Up M M') : RI M0 Mb M' b vR v cs rs ws cells :=
 ⟨h.o.up k, Sl.up h.h k, h.t.up k, Nw.up h.N k, h.N0, h.E.mono fun _ _ h => h.up k, h.u.trans k, Nat.le_trans h.ub k.n⟩
theorem RI.st {M M' : Store} {cells cells' : List Value} (h : RI M0 Mb M b vR v cs rs ws cells) (h0 : M0.n ≤ Mb.n) (c : Ch [Mb.n] M M') (o : Ob M' Mb.n cells' Ty.g) : RI M0 Mb M' b vR v cs rs ws cells' ∧ Keep Ty.g M M' :=
 have kt := c.keepT h.t
 ⟨⟨h.o.keep (by decide) kt, Sl.keep h.h (by decide) kt, o, Nw.frT h.N0 h.N c, h.N0, h.E.mono fun _ _ h => h.keep (by decide) (by decide) (by decide) kt, h.u.ch c (by simpa using h0), Nat.le_trans h.ub c.n⟩, kt⟩
theorem Fx {M : Store} {c : Rc} {r : RuT} (h0 : M0.n ≤ Mb.n) (hb : M0.n ≤ b) (hcl : cs.length ≤ 2 ^ 20) (h : RI M0 Mb M b vR v cs rs ws (rcE c)) (hc : RuV M c r) (hQ : ∀ M', Up M0 M' → PS M0 M' b (rs ++ [r]) → Q (.tuple #[]) M') :
    eO (pt b) (pt Mb.n) M Q := by
 apply Bt
 unfold tO
 rw [uQ h.o, h.t.ldA (s := 5) rfl, ab]
 rw [Jh c (by obtain ⟨a, k, e⟩ := Sl.slice hc.o; exact ⟨_, _, _, e⟩) (by obtain ⟨a, k, e⟩ := Sl.slice hc.i; exact ⟨_, _, _, e⟩) (by obtain ⟨a, k, e⟩ := Sl.slice hc.d; exact ⟨_, _, _, e⟩) (by
  obtain ⟨vs, ha, _⟩ := hc.a
  obtain ⟨a, k, e⟩ := ha.slice; exact ⟨_, _, _, e⟩)]
 have hbM := h.o.lt
 refine pS (s := 5) (n := 1) rfl fun M1 u1 hl1 o1 n1 => ?_
 have hw1 : LK 5 rcE Ty.g M1 (.slice (some ⟨M.n, 0, none⟩) 1 1) [c] := by
  have := Nw.sl hl1
  show Sl 5 Ty.g M1 _ 1 ([c].flatMap rcE)
  simpa using this
 have h1 := h.up u1
 refine NK.apps (M0 := M0) (Mb := M0) h1.u (Nat.le_refl _) h1.u.n h1.N hw1 (by rw [List.length_singleton]; omega) fun v' M2 hu2 hN2 c2 n2 => ?_
 have kk : Keep Ty.g M1 M2 := Nw.keepE h1.N c2
 refine ⟨CA c2 fun q hq => ?_, ?_⟩
 ·obtain ⟨cells, g⟩ := h1.N.kl_inl hq
  exact ⟨by rw [g]; rfl, (Nw.bx_in h.N (mo.1 hq)).2⟩
 have o2 : Pz M2 b vR := h1.o.keep (by decide) kk
 obtain ⟨va, vc, rfl⟩ := hN2.lv.slice
 rw [mi, aS, py]
 refine cY (b := b) (i := 0) (w := .slice va (cs ++ [c]).length vc) o2 (by simp) (bQ _ _ _) (gG _ _ _) fun M3 c3 o3 _ => ⟨CA c3 fun q hq => ?_, ?_⟩
 ·have : q = b := by simpa using hq
  subst this
  exact ⟨by rw [show M2.get q = _ from o2]; rfl, hbM⟩
 ·have k3 := c3.keepT o2
  refine ⟨rfl, hQ M3 (hu2.ch c3 (by simpa using hb)) ⟨_, cs ++ [c], o3, Nw.keep hN2 (by decide) k3, ?_⟩⟩
  refine (EachR.app ((hc.up u1).keep (by decide) (by decide) (by decide) kk) (h1.E.mono fun _ _ h => h.keep (by decide) (by decide) (by decide) kk)).mono fun _ _ h => h.keep (by decide) (by decide) (by decide) k3
theorem gE {M M' : Store} {w : Value} {l : List (List UInt8)} (h : LV sv Ty.a M w l) (k : Keep Ty.g M M') : LV sv Ty.a M' w l := Sl.keep h (by decide) k
theorem Fy {M : Store} {i : Nat} {w1 w2 w3 : Value} {r : RuT} (h0 : M0.n ≤ Mb.n) (hb : M0.n ≤ b) (hcl : cs.length ≤ 2 ^ 20) (h : RI M0 Mb M b vR v cs rs ws (rcE (w1, w2, w3, .slice none 0 0, false))) (hwl : ws.length ≤ 2 ^ 20)
    (h1 : LV sv Ty.a M w1 r.outs) (h2 : LV sv Ty.a M w2 r.ins) (h3 : LV sv Ty.a M w3 r.order) (hp : r.ph = false) (hal : r.acts.length = r.outs.length) (ha8 : ∀ a ∈ r.acts, a < 8) (hne : r.acts ≠ []) (hl4 : r.acts.length ≤ 2 ^ 20)
    (hd : (ws.drop i).map twv = wT [61] :: bz r.acts) (hQ : ∀ M', Up M0 M' → PS M0 M' b (rs ++ [r]) → Q (.tuple #[]) M') :
    eP (pt b) v (pt Mb.n) (iv (i : Int)) M Q := by
 obtain ⟨hi, e1, e2, e3⟩ := eh hd
 apply Bu
 unfold tP
 refine Cx (s := [61]) (rest := bz r.acts) h.h hwl hd fun M1 u1 => ?_
 have hI1 := h.up u1
 rw [(hI1.h).lenV, ab]
 show OP (fQ (iv ((i + 1 : Nat) : Int)) (iv (ws.length : Int))) _
 rw [DG, Nat.min_eq_left (by omega), aS]
 rw [show ld 1 false (.pointer (some ⟨Mb.n, 0, none⟩)) M1 = some w1 from hI1.t.ld (o := 0) rfl, ab, (h1.up u1).len, ab]
 show R F.O #[pt b, v, iv ((i + 1 : Nat) : Int), iv (r.outs.length : Int)] M1 _
 rw [← hal]
 refine (Hh hI1.o hI1.h hwl hne ha8 hl4 e3).mono fun w M2 ⟨u2, hw⟩ => ?_
 have hI2 := hI1.up u2
 have hac : AcV M2 w (r.acts.map aDw) := hw.ls
 have hsl : ∃ a n k, w = .slice a n k := by
  obtain ⟨vs, g, _⟩ := hac
  obtain ⟨a, k, e⟩ := g.slice; exact ⟨_, _, _, e⟩
 obtain ⟨wa, wn, wk, rfl⟩ := hsl
 rw [aS]
 refine cY (b := Mb.n) (i := 3) (w := .slice wa wn wk) hI2.t (by simp [rcE]) (bQ _ _ _) (gG _ _ _) fun M3 c3 o3 _ => ?_
 obtain ⟨hI3, kt⟩ := hI2.st h0 c3 o3
 have hI3 : RI M0 Mb M3 b vR v cs rs ws (rcE (w1, w2, w3, .slice wa wn wk, false)) := hI3
 have u12 := u1.trans u2
 exact Fx h0 hb hcl hI3 ⟨gE (h1.up u12) kt, gE (h2.up u12) kt, gE (h3.up u12) kt, Ls.keep (E := DS) (fun _ _ _ _ h k => Sl.keep h (by decide) k) hac (by decide) kt, hp.symm⟩ hQ
theorem Fw {M : Store} {r : RuT} {seen : List (List UInt8)} {most : Nat} (hP : PS M0 M b rs) (hu : Up M0 M) (hb : M0.n ≤ b) (hw : WW M v ws) (hwl : ws.length ≤ 2 ^ 20) (hrl : rs.length ≤ 2 ^ 19) (hok : kZ seen r) (hseen : ∀ r' ∈ rs, ∀ o ∈ r'.outs, o ∈ seen) (hol : ∀ r' ∈ rs, r'.outs.length ≤ 2 ^ 30)
    (hd : ws.map twv = a7 r) (hm : r.outs.length ≤ most) (hm2 : most ≤ 2 ^ 20) (hQ : ∀ M', Up M0 M' → PS M0 M' b (rs ++ [r]) → Q (.tuple #[]) M') :
    gm (pt b) v (tv r.ph) (iv (most : Int)) M Q := by
 obtain ⟨vR, cs, o, hN, hE⟩ := hP
 apply Bs
 unfold tN
 rw [Jo]
 refine aq fun M1 u1 o1 n1 => ?_
 refine bp (vs := rcE (.slice none 0 0, .slice none 0 0, .slice none 0 0, .slice none 0 0, r.ph)) o1 rfl rfl (by cases r.ph <;> kernel_rfl) fun M2 c2 o2 _ => ?_
 have hI1 : RI M0 M M1 b vR v cs rs ws [.slice none 0 0, .slice none 0 0, .slice none 0 0, .slice none 0 0, .bool false] := ⟨o.up u1, Sl.up hw u1, o1, Nw.up hN u1, hN, hE.mono fun _ _ h => h.up u1, hu.trans u1, u1.n⟩
 have h0 := hu.n
 obtain ⟨hI2, _⟩ := hI1.st h0 c2 o2
 have hcl : cs.length ≤ 2 ^ 20 := by rw [hE.len]; omega
 have hne : r.outs ≠ [] := hok.ne
 have hpos : 1 ≤ r.outs.length := by
  rcases Nat.eq_zero_or_pos r.outs.length with h | h
  ·exact absurd (List.length_eq_zero_iff.1 h) hne
  ·exact h
 have hok1 : ∀ x ∈ r.outs, okN x = true ∧ ∀ r' ∈ rs, x ∉ r'.outs := fun x hx => ⟨(hok.ok x hx).1, fun r' hr' hm => (hok.ok x hx).2 (hseen r' hr' x hm)⟩
 have hRL : ∀ M', RI M0 M M' b vR v cs rs ws (rcE (.slice none 0 0, .slice none 0 0, .slice none 0 0, .slice none 0 0, r.ph)) → RL M' vR rs := fun M' h => ⟨cs, h.N.lv, h.E⟩
 -- the words behind the first one
 have hlen : ws.length = (a7 r).length := by rw [← hd, List.length_map]
 cases hp : r.ph with
 | true =>
  rw [hp] at hI2
  have hrow : ws.map twv = wT mv :: (r.outs.map wT ++ wT [58] :: r.ins.map wT) := by rw [hd]; unfold a7; rw [if_pos hp]
  have hd1 : (ws.drop 1).map twv = r.outs.map wT ++ wT [58] :: r.ins.map wT := by rw [List.map_drop, hrow]; rfl
  have hd2 : (ws.drop (1 + r.outs.length + 1)).map twv = r.ins.map wT ++ [] := by
   rw [show 1 + r.outs.length + 1 = 1 + (r.outs.length + 1) by omega, ← List.drop_drop, List.map_drop, hd1, List.drop_append, List.drop_of_length_le (by simp)]
   simp
  have hl2 : 1 + r.outs.length + 1 ≤ ws.length := by rw [hlen]; unfold a7; rw [if_pos hp]; simp; omega
  refine (Cs hI2.o ⟨cs, hI2.N.lv, hI2.E⟩ (by omega) hol hI2.h hwl hne hm hm2 hok.nd hd1 hok1).mono fun q M3 ⟨u3, w1, e, hw1⟩ => ?_
  subst e
  have hI3 := hI2.up u3
  rw [(tp2 _ _).1, (tp2 _ _).2]
  obtain ⟨a1, k1, rfl⟩ := hw1.lv.slice
  rw [aS]
  refine cY (b := M.n) (i := 0) (w := .slice a1 r.outs.length k1) hI3.t (by simp [rcE]) (bQ _ _ _) (gG _ _ _) fun M4 c4 o4 _ => ?_
  obtain ⟨hI4, kt4⟩ := hI3.st h0 c4 o4
  have hl1 := gE hw1.lv kt4
  rw [bC, hI4.h.lenV, ab]
  show OP (fQ (iv ((1 + r.outs.length + 1 : Nat) : Int)) (iv (ws.length : Int))) _
  rw [DG, Nat.min_eq_left hl2]
  show R F.g #[pt b, v, iv ((1 + r.outs.length + 1 : Nat) : Int), iv ((8 : Nat) : Int), tv true, sv [], sv []] M4 _
  refine (pI (names := r.ins) (rest := []) hI4.o hI4.h hwl (by decide) (by decide) (.inl rfl) hd2 hok.ins hok.insl (by decide)).mono fun q M5 ⟨u5, w2, e, hw2⟩ => ?_
  subst e
  have hI5 := hI4.up u5
  rw [(tp2 _ _).1, (tp2 _ _).2]
  obtain ⟨a2, k2, rfl⟩ := hw2.lv.slice
  rw [aS]
  refine cY (b := M.n) (i := 1) (w := .slice a2 r.ins.length k2) hI5.t (by simp [rcE]) (bQ _ _ _) (gG _ _ _) fun M6 c6 o6 _ => ?_
  obtain ⟨hI6, kt6⟩ := hI5.st h0 c6 o6
  have hI6 : RI M0 M M6 b vR v cs rs ws (rcE (.slice a1 r.outs.length k1, .slice a2 r.ins.length k2, .slice none 0 0, .slice none 0 0, true)) := hI6
  obtain ⟨ho, ha⟩ := hok.phs hp
  exact Fx h0 hb hcl hI6 ⟨gE (hl1.up u5) kt6, gE hw2.lv kt6, by rw [ho]; exact Sl.nil _ _ _, by rw [ha]; exact ⟨[], Sl.nil _ _ _, trivial⟩, hp.symm⟩ hQ
 | false =>
  rw [hp] at hI2
  have hrow : ws.map twv = wT iK :: (r.outs.map wT ++ wT [58] :: (r.ins.map wT ++ ((if r.order = [] then [] else wT [124] :: r.order.map wT) ++ wT [61] :: bz r.acts))) := by rw [hd]; unfold a7; rw [if_neg (by rw [hp]; decide)]
  have hd1 : (ws.drop 1).map twv = r.outs.map wT ++ wT [58] :: (r.ins.map wT ++ ((if r.order = [] then [] else wT [124] :: r.order.map wT) ++ wT [61] :: bz r.acts)) := by rw [List.map_drop, hrow]; rfl
  have hd2 : (ws.drop (1 + r.outs.length + 1)).map twv = r.ins.map wT ++ ((if r.order = [] then [] else wT [124] :: r.order.map wT) ++ wT [61] :: bz r.acts) := by
   rw [show 1 + r.outs.length + 1 = 1 + (r.outs.length + 1) by omega, ← List.drop_drop, List.map_drop, hd1, List.drop_append, List.drop_of_length_le (by simp)]
   simp
  have hd3 : (ws.drop (1 + r.outs.length + 1 + r.ins.length)).map twv = (if r.order = [] then [] else wT [124] :: r.order.map wT) ++ wT [61] :: bz r.acts := by
   rw [← List.drop_drop, List.map_drop, hd2, List.drop_append, List.drop_of_length_le (by simp)]
   simp
  have hal := hok.acts hp
  have hane : r.acts ≠ [] := fun e => by rw [e] at hal; simp at hal; omega
  have hl3 : 1 + r.outs.length + 1 + r.ins.length < ws.length := by
   rcases Nat.lt_or_ge (1 + r.outs.length + 1 + r.ins.length) ws.length with h | h
   ·exact h
   ·rw [List.drop_of_length_le h] at hd3
    have := congrArg List.length hd3
    simp at this
  refine (Cs hI2.o ⟨cs, hI2.N.lv, hI2.E⟩ (by omega) hol hI2.h hwl hne hm hm2 hok.nd hd1 hok1).mono fun q M3 ⟨u3, w1, e, hw1⟩ => ?_
  subst e
  have hI3 := hI2.up u3
  rw [(tp2 _ _).1, (tp2 _ _).2]
  obtain ⟨a1, k1, rfl⟩ := hw1.lv.slice
  rw [aS]
  refine cY (b := M.n) (i := 0) (w := .slice a1 r.outs.length k1) hI3.t (by simp [rcE]) (bQ _ _ _) (gG _ _ _) fun M4 c4 o4 _ => ?_
  obtain ⟨hI4, kt4⟩ := hI3.st h0 c4 o4
  have hl1 := gE hw1.lv kt4
  rw [aI, hI4.h.lenV, ab]
  show OP (fQ (iv ((1 + r.outs.length + 1 : Nat) : Int)) (iv (ws.length : Int))) _
  rw [DG, Nat.min_eq_left (by omega)]
  show R F.g #[pt b, v, iv ((1 + r.outs.length + 1 : Nat) : Int), iv ((8 : Nat) : Int), tv true, sv [124], sv [61]] M4 _
  refine (pI (names := r.ins) hI4.o hI4.h hwl (by decide) (by decide) (.inr ?_) hd2 hok.ins hok.insl (by decide)).mono fun q M5 ⟨u5, w2, e, hw2⟩ => ?_
  ·by_cases ho : r.order = []
   ·rw [if_pos ho]; exact ⟨_, _, rfl, .inr rfl⟩
   ·rw [if_neg ho]; exact ⟨_, _, rfl, .inl rfl⟩
  subst e
  have hI5 := hI4.up u5
  rw [(tp2 _ _).1, (tp2 _ _).2]
  obtain ⟨a2, k2, rfl⟩ := hw2.lv.slice
  rw [aS]
  refine cY (b := M.n) (i := 1) (w := .slice a2 r.ins.length k2) hI5.t (by simp [rcE]) (bQ _ _ _) (gG _ _ _) fun M6 c6 o6 _ => ?_
  obtain ⟨hI6, kt6⟩ := hI5.st h0 c6 o6
  have hI6 : RI M0 M M6 b vR v cs rs ws (rcE (.slice a1 r.outs.length k1, .slice a2 r.ins.length k2, .slice none 0 0, .slice none 0 0, false)) := hI6
  have hl1 := gE (hl1.up u5) kt6
  have hl2 := gE hw2.lv kt6
  rw [ab]
  show OP (ad .lss (iv ((1 + r.outs.length + 1 + r.ins.length : Nat) : Int)) (iv (ws.length : Int))) _
  rw [ag, ae, if_pos hl3, dP hI6.h hl3]
  refine fi (t := [124]) fun M7 u7 => ?_
  have hI7 := hI6.up u7
  by_cases ho : r.order = []
  ·rw [if_pos ho, List.nil_append] at hd3
   obtain ⟨_, e1, e2, _⟩ := eh hd3
   have e1 : ws[1 + r.outs.length + 1 + r.ins.length].1 = [61] := e1
   rw [e1, decide_eq_false (show ¬ ([61] : List UInt8) = [124] by decide), Bool.false_and, aI]
   exact Fy h0 hb hcl hI7 hwl (hl1.up u7) (hl2.up u7) (by rw [ho]; exact Sl.nil _ _ _) hp hal hok.actl hane (by omega) hd3 hQ
  ·rw [if_neg ho] at hd3
   obtain ⟨_, e1, e2, e3⟩ := eh (x := wT [124]) (rest := r.order.map wT ++ wT [61] :: bz r.acts) hd3
   have e1 : ws[1 + r.outs.length + 1 + r.ins.length].1 = [124] := e1
   have e2 : ws[1 + r.outs.length + 1 + r.ins.length].2.2.2 = false := e2
   rw [e1, e2, decide_eq_true rfl, Bool.not_false, Bool.and_true, bC, ah _ (by omega)]
   show R F.g #[pt b, v, iv ((1 + r.outs.length + 1 + r.ins.length + 1 : Nat) : Int), iv ((8 : Nat) : Int), tv true, sv [61], sv [61]] M7 _
   refine (pI (names := r.order) hI7.o hI7.h hwl (by decide) (by decide) (.inr ⟨_, _, rfl, .inr rfl⟩) e3 hok.ord hok.ordl (by decide)).mono fun q M8 ⟨u8, w3, e, hw3⟩ => ?_
   subst e
   have hI8 := hI7.up u8
   rw [(tp2 _ _).1, (tp2 _ _).2]
   obtain ⟨a3, k3, rfl⟩ := hw3.lv.slice
   rw [aS]
   refine cY (b := M.n) (i := 2) (w := .slice a3 r.order.length k3) hI8.t (by simp [rcE]) (bQ _ _ _) (gG _ _ _) fun M9 c9 o9 _ => ?_
   obtain ⟨hI9, kt9⟩ := hI8.st h0 c9 o9
   have hI9 : RI M0 M M9 b vR v cs rs ws (rcE (.slice a1 r.outs.length k1, .slice a2 r.ins.length k2, .slice a3 r.order.length k3, .slice none 0 0, false)) := hI9
   have u78 := u7.trans u8
   refine Fy h0 hb hcl hI9 hwl (gE (hl1.up u78) kt9) (gE (hl2.up u78) kt9) (gE hw3.lv kt9) hp hal hok.actl hane (by omega) ?_ hQ
   rw [← List.drop_drop, List.map_drop, e3, List.drop_append, List.drop_of_length_le (by simp)]
   simp
theorem H1 {M : Store} {r : RuT} {seen : List (List UInt8)} (hP : PS M0 M b rs) (hu : Up M0 M) (hb : M0.n ≤ b) (hw : WW M v ws) (hwl : ws.length ≤ 2 ^ 20) (hrl : rs.length < 64) (hok : kZ seen r) (hseen : ∀ r' ∈ rs, ∀ o ∈ r'.outs, o ∈ seen) (hol : ∀ r' ∈ rs, r'.outs.length ≤ 2 ^ 30)
    (hd : ws.map twv = a7 r) (hQ : ∀ M', Up M0 M' → PS M0 M' b (rs ++ [r]) → Q (.tuple #[]) M') :
    R F.A #[pt b, v, tv r.ph] M Q := by
 have hP2 := hP
 obtain ⟨vR, cs, o, hN, hE⟩ := hP
 apply EB
 unfold xS
 rw [uQ o, hN.lv.len, ab, hE.len]
 show OP (ad .geq (iv (rs.length : Int)) (.int .i64 64)) _
 rw [wD 64 64 rfl, ae, if_neg (by omega), au]
 have hmost := hok.most
 split
 ·rename_i h
  rw [if_pos h] at hmost
  exact Fw (most := 1) hP2 hu hb hw hwl (by omega) hok hseen hol hd hmost (by decide) hQ
 ·rename_i h
  rw [if_neg h] at hmost
  exact Fw (most := 4) hP2 hu hb hw hwl (by omega) hok hseen hol hd hmost (by decide) hQ
end
end Go.G

namespace Go.G
open Go.Ab Go.Proofs Go.RowKit
set_option linter.unusedVariables false
set_option linter.unusedSimpArgs false
set_option maxRecDepth 100000
def mh (w : Tw) : Bool := w.2 || (match w.1 with
 | [] => false
 | c :: _ => c != 36)
theorem IL {c : UInt8} (h : gL c = true) : c ≠ 36 := by
 intro e; subst e; revert h; decide
theorem HN {s : List UInt8} (h : okN s = true) : mh (wT s) = true := by
 obtain ⟨h1, h2, h3⟩ := sM (y8 h)
 cases s with
 | nil => simp at h2
 | cons c t =>
  have := IL (h1 c (by simp))
  simp [mh, this]
theorem Hd {a : Nat} (h : a < 8) : ∀ w ∈ aWt a, mh w = true := by
 have h1 : gz.all (fun ws => ws.all mh) = true := by kernel_rfl
 exact List.all_eq_true.1 (List.all_eq_true.1 h1 _ (oF h))
theorem ya : ∀ l : List Nat, (∀ j ∈ l, j < 8) → ∀ w ∈ bz l, mh w = true
 | [], _, w, h => by cases h
 | a :: r, hl, w, h => by
  unfold bz at h
  rcases List.mem_append.1 h with h | h
  ·exact Hd (hl a (by simp)) w h
  ·split at h
   ·cases h
   ·rcases List.mem_cons.1 h with rfl | h
    ·decide
    ·exact ya r (fun j hj => hl j (by simp [hj])) w h
theorem GE {seen : List (List UInt8)} {r : RuT} (h : kZ seen r) : ∀ w ∈ a7 r, mh w = true := by
 have hn : ∀ l : List (List UInt8), (∀ x ∈ l, okN x = true) → ∀ w ∈ l.map wT, mh w = true := by
  intro l hl w hw
  obtain ⟨x, hx, rfl⟩ := List.mem_map.1 hw
  exact HN (hl x hx)
 have ho := hn r.outs fun o ho => (h.ok o ho).1
 have hi := hn r.ins h.ins
 have hr := hn r.order h.ord
 have ha := ya r.acts h.actl
 intro w hw
 unfold a7 at hw
 split at hw
 ·rcases List.mem_cons.1 hw with rfl | hw
  ·decide
  rcases List.mem_append.1 hw with hw | hw
  ·exact ho w hw
  rcases List.mem_cons.1 hw with rfl | hw
  ·decide
  ·exact hi w hw
 ·rcases List.mem_cons.1 hw with rfl | hw
  ·decide
  rcases List.mem_append.1 hw with hw | hw
  ·exact ho w hw
  rcases List.mem_cons.1 hw with rfl | hw
  ·decide
  rcases List.mem_append.1 hw with hw | hw
  ·exact hi w hw
  rcases List.mem_append.1 hw with hw | hw
  ·split at hw
   ·cases hw
   ·rcases List.mem_cons.1 hw with rfl | hw
    ·decide
    ·exact hr w hw
  rcases List.mem_cons.1 hw with rfl | hw
  ·decide
  ·exact ha w hw
theorem Jj (w : Ww) (K : List Value → Prop) : OP (al (.agg #[(.string ⟨#[]⟩), (.int .i64 0), (.int .i64 0), (.bool false)]) 4 1 [(0, .agg (wws w).toArray)]) K = K (wws w) := by
 obtain ⟨a, b, c, d⟩ := w; kernel_rfl
theorem Ji (K : List Value → Prop) : OP (al (.agg #[(.string ⟨#[]⟩), (.int .i64 0), (.int .i64 0), (.bool false)]) 4 0 []) K = K [] := by kernel_rfl
theorem Ie (w : Ww) : (wws w).all (·.oneCell') = true := by obtain ⟨a, b, c, d⟩ := w; kernel_rfl
section
variable {M0 : Store} {b : Nat} {v : Value} {rs : List RuT} {ws : List Ww} {Q : Value → Store → Prop}
theorem Gy (h : WW M0 v ws) (hwl : ws.length ≤ 2 ^ 20) (hdol : ∀ w ∈ ws, mh (twv w) = true) (hQ : ∀ w M', Up M0 M' → WW M' w ws → Q w M') :
    ∀ (d i : Nat) (x5 : Value) (M : Store), d + i = ws.length → Up M0 M → NK 4 wws Ty.c M0 M x5 (ws.take i) → fP (pt b) v x5 (iv (i : Int)) M Q := by
 intro d
 induction d with
 | zero =>
  intro i x5 M hi hu hN
  apply wd
  unfold pg
  rw [(Sl.up h hu).lenV, ab]
  show OP (ad .lss (iv (i : Int)) (iv (ws.length : Int))) _
  rw [ag, ae, if_neg (by omega)]
  apply C8
  unfold vF
  rw [List.take_of_length_le (by omega)] at hN
  exact ⟨eI hN.lv, hQ _ _ hu hN.lv⟩
 | succ d ih =>
  intro i x5 M hi hu hN
  have hil : i < ws.length := by omega
  apply wd
  unfold pg
  rw [(Sl.up h hu).lenV, ab]
  show OP (ad .lss (iv (i : Int)) (iv (ws.length : Int))) _
  rw [ag, ae, if_pos hil]
  apply C7
  unfold vE
  rw [dP (Sl.up h hu) hil]
  refine aq fun M1 u1 o1 n1 => ?_
  refine bp (vs := wws ws[i]) o1 rfl rfl (Ie _) fun M2 c2 o2 _ => ?_
  have u12 : Up M M2 := u1.ch c2 (by simp)
  have hu2 := hu.trans u12
  have hN2 := Nw.up hN u12
  have ho2 : Ob M2 M.n [sv ws[i].1, iv ws[i].2.1, iv ws[i].2.2.1, tv ws[i].2.2.2] Ty.c := o2
  have hdl := hdol _ (List.getElem_mem hil)
  have nxt : OP (Go.Ab.ld 4 true (.pointer (some ⟨M.n, 0, none⟩)) M2) fun t34 => OP (al (.agg #[(.string ⟨#[]⟩), (.int .i64 0), (.int .i64 0), (.bool false)]) 4 1 [(0, t34)]) fun c => LT (.slice (some ⟨M2.n, 0, none⟩) 1 1) (M2.push (some (.inl (c, Ty.c, true)))) fun t35 M3 =>
      OP2 (appV 4 Ty.c x5 t35 M3) fun t36 M4 => ii (pt b) v t36 (iv (i : Int)) M4 Q := by
   rw [o2.ldA (s := 4) rfl, ab, Jj, aY]
   refine NK.app1 (M0 := M0) (Mb := M0) ji hu2 (Nat.le_refl _) hu2.n hN2 ws[i] rfl (by rw [List.length_take]; omega) fun v4 M4 hu4 hN4 _ _ => ?_
   apply C9
   unfold vG
   rw [ah _ (by omega)]
   refine ih (i + 1) v4 M4 (by omega) hu4 ?_
   rw [List.take_succ_eq_append_getElem hil]; exact hN4
  rw [aS, show Go.Ab.ld 1 false (.pointer (some ⟨M.n, 3, none⟩)) M2 = some (tv ws[i].2.2.2) from ho2.ld (o := 3) rfl, ab, au]
  split
  ·exact nxt
  ·rename_i hq
   unfold mh twv at hdl
   simp only at hdl
   rw [show ws[i].2.2.2 = false by simpa using hq, Bool.false_or] at hdl
   rw [aS, show Go.Ab.ld 1 false (.pointer (some ⟨M.n, 0, none⟩)) M2 = some (sv ws[i].1) from ho2.ld (o := 0) rfl, ab]
   cases hx : ws[i].1 with
   | nil => rw [hx] at hdl; cases hdl
   | cons c t =>
    rw [hx] at hdl
    simp only [bne_iff_ne] at hdl
    rw [EV, sz (d := 36) (n := 36) rfl, ae, if_pos hdl]
    exact nxt
theorem I3 {M : Store} (h : WW M v ws) (hwl : ws.length ≤ 2 ^ 20) (hpos : 1 ≤ ws.length) (hdol : ∀ w ∈ ws, mh (twv w) = true) : R F.e1 #[pt b, v] M fun w M' => Up M M' ∧ WW M' w ws := by
 refine R.cps fun Q hQ => ?_
 apply FQ
 unfold zt
 rw [Ji]
 refine pS (s := 4) (n := 0) rfl fun M1 u1 hN1 o1 n1 => ?_
 have hN1 : NK 4 wws Ty.c M M1 (.slice (some ⟨M.n, 0, none⟩) 0 0) ([] : List Ww) := hN1
 obtain ⟨v2, g1, g2⟩ := LK.cut ji (Sl.up h u1) (lo := none) (hi := some (iv ((1 : Nat) : Int))) (a := 0) (r := 1) (i6 hpos .i64) He hpos (by omega)
 rw [show slV 4 Ty.c v none (some (.int .i64 1)) M1 = some v2 from g1, ab]
 rw [List.drop_zero] at g2
 refine NK.apps (M0 := M) (Mb := M) u1 (Nat.le_refl _) u1.n hN1 g2 (by simp; omega) fun v3 M3 hu3 hN3 _ _ => ?_
 exact Gy (M0 := M) h hwl hdol (fun w M' hu hw => hQ _ _ ⟨hu, hw⟩) (ws.length - 1) 1 v3 M3 (by omega) hu3 (by simpa using hN3)
theorem HA {M : Store} {r : RuT} {seen : List (List UInt8)} (hP : PS M0 M b rs) (hu : Up M0 M) (hb : M0.n ≤ b) (hw : WW M v ws) (hwl : ws.length ≤ 2 ^ 19) (hrl : rs.length < 64) (hok : kZ seen r) (hseen : ∀ r' ∈ rs, ∀ o ∈ r'.outs, o ∈ seen) (hol : ∀ r' ∈ rs, r'.outs.length ≤ 2 ^ 30)
    (hd : ws.map twv = a7 r) (hQ : ∀ M', Up M0 M' → PS M0 M' b (rs ++ [r]) → Q (.tuple #[]) M') :
    R F.a1 #[pt b, v] M Q := by
 apply Ez
 unfold xQ
 have hrow := (yp hok).1
 have hlen : ws.length = (a7 r).length := by rw [← hd, List.length_map]
 have hpos : 0 < ws.length := by
  rw [hlen]
  rcases Nat.eq_zero_or_pos (a7 r).length with h | h
  ·exact absurd (List.length_eq_zero_iff.1 h) hrow
  ·exact h
 have hdol : ∀ w ∈ ws, mh (twv w) = true := fun w hw => GE hok _ (by rw [← hd]; exact List.mem_map_of_mem hw)
 refine (I3 (b := b) hw (by omega) hpos hdol).mono fun t M1 ⟨u1, hw1⟩ => ?_
 have hP1 := hP.up u1
 obtain ⟨vR, cs, o, hN, hE⟩ := hP1
 rw [nX o]
 show OP (ad .neq (iv ((0 : Nat) : Int)) (.int .i64 0)) _
 rw [pJ 0 0 rfl, ae, if_neg (by simp)]
 have w0 : ∀ M', Up M1 M' → ∀ K : Value → Prop, (OP (ixA 4 t (.int .i64 0)) fun p => OP (Go.Ab.ld 4 true p M') K) = K (.agg (wws ws[0]).toArray) := fun M' u K => dP (Sl.up hw1 u) hpos K
 have e0 : ws[0].1 = (if r.ph = true then mv else iK) ∧ ws[0].2.2.2 = false := by
  have h2 : ws.map twv = wT (if r.ph = true then mv else iK) :: (a7 r).drop 1 := by
   rw [hd]; unfold a7; split <;> rfl
  have h3 : (ws.drop 0).map twv = wT (if r.ph = true then mv else iK) :: (a7 r).drop 1 := by rw [List.drop_zero]; exact h2
  obtain ⟨_, g1, g2, _⟩ := eh h3
  exact ⟨g1, g2⟩
 obtain ⟨e1, e2⟩ := e0
 rw [w0 M1 (Ch.refl _ _)]
 refine fi (t := [108, 101, 116]) fun M2 u2 => ?_
 rw [decide_eq_false (show ¬ ws[0].1 = [108, 101, 116] by rw [e1]; split <;> decide), Bool.false_and, aI, w0 M2 u2]
 refine fi (t := iK) fun M3 u3 => ?_
 have u13 := u2.trans u3
 rw [e1, e2]
 have main : ∀ M', Up M1 M' → R F.A #[pt b, t, tv r.ph] M' fun t34 M5 => NTs [] ∧ Q (.tuple #[]) M5 := fun M' u =>
  H1 (hP.up (u1.trans u)) (hu.trans (u1.trans u)) hb (Sl.up hw1 u) (by omega) hrl hok hseen hol hd fun M5 hu5 hP5 => ⟨rfl, hQ M5 hu5 hP5⟩
 cases hp : r.ph with
 | false =>
  rw [hp] at main
  rw [if_neg (by decide), decide_eq_true rfl, Bool.not_false, Bool.and_true, bC]
  exact main M3 u13
 | true =>
  rw [hp] at main
  rw [if_pos rfl, decide_eq_false (show ¬ mv = iK by decide), Bool.false_and, aI, w0 M3 u13]
  refine fi (t := mv) fun M4 u4 => ?_
  rw [e1, hp, if_pos rfl, e2, decide_eq_true rfl, Bool.not_false, Bool.and_true, bC]
  exact main M4 (u13.trans u4)
end
end Go.G
