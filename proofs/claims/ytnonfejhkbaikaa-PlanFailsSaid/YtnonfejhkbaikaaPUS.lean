/- ... -/
import Derived.Test.YtnonfejhkbaikaaPUK
import Derived.Test.YtnonfejhkbaikaaPUO
import Derived.Test.YtnonfejhkbaikaaPUE
namespace Go.G
open Go.Ab Go.Proofs Go.RowKit
set_option linter.unusedVariables false
set_option linter.unusedSimpArgs false
set_option maxRecDepth 100000
theorem FK {M : Store} {n : Nat} (hn : n ≤ 2 ^ 20) : R F.f1 #[.slice none 0 0, iv (n : Int)] M fun v M' => Up M M' ∧ NV sv Ty.a M M' v [] := by
 refine R.cps fun Q hQ => ?_
 apply FR
 unfold zu
 show OP (ad .lss (.int .i64 (n : Int)) (.int .i64 0)) _
 rw [aQ, ae, if_neg (by omega)]
 apply Db
 unfold vI
 simp only [show Ay (.slice none 0 0) = some (.int .i64 0) from rfl, show lenV (.slice none 0 0) = some (.int .i64 0) from rfl, ab]
 rw [pA]
 show OP (ad .sub (.int .i64 (n : Int)) (.int .i64 0)) _
 rw [pA, w64 (by omega) (by omega), Int.sub_zero]
 show OP (ad .gtr (.int .i64 (n : Int)) (.int .i64 0)) _
 rw [tc, ae]
 split
 ·rename_i hpos
  have hp : 0 < n := by omega
  have hz : xp (.string ⟨#[]⟩) 1 Ty.a (.slice none 0 0) (.int .i64 (n : Int)) M = some (.slice (some ⟨M.n, 0, none⟩) n (n + 1), M.push (some (.inl (cX (.string ⟨#[]⟩) n, Ty.a, true)))) := by
   unfold xp DJ
   simp only
   rw [if_pos ⟨by omega, by omega⟩, Option.bind_some, Int.toNat_natCast, Nat.mul_one]
   unfold appG
   simp only
   rw [if_neg (by omega), if_pos (by omega)]
   simp [cN]
  rw [show slV 1 Ty.a (.slice none 0 0) none (some (.int .i64 0)) M = some (.slice none 0 0) by simp [slV, ar], ab]
  show OP2 (xp (.string ⟨#[]⟩) 1 Ty.a (.slice none 0 0) (.int .i64 (n : Int)) M) _
  rw [hz, ey]
  have hs : slV 1 Ty.a (.slice (some ⟨M.n, 0, none⟩) n (n + 1)) none (some (.int .i64 0)) (M.push (some (.inl (cX (.string ⟨#[]⟩) n, Ty.a, true)))) = some (.slice (some ⟨M.n, 0, none⟩) 0 1) := by
   have he : b9 (M.push (some (.inl (cX (.string ⟨#[]⟩) n, Ty.a, true)))) (some ⟨M.n, 0, none⟩) Ty.a = true := by
    have hg : (M.push (some (.inl (cX (.string ⟨#[]⟩) n, Ty.a, true)))).get M.n = some (.inl (cX (.string ⟨#[]⟩) n, Ty.a, true)) := Ob.new _ _ _
    simp [b9, hg]
   simp [slV, ar, he, hp, Addr.add]
  show OP (slV 1 Ty.a (.slice (some ⟨M.n, 0, none⟩) n (n + 1)) none (some (.int .i64 0)) (M.push (some (.inl (cX (.string ⟨#[]⟩) n, Ty.a, true))))) _
  rw [hs, ab]
  have hu := Up.push M (some (.inl (cX (.string ⟨#[]⟩) n, Ty.a, true)))
  exact ⟨rfl, hQ _ _ ⟨hu, rfl, .inr ⟨M.n, cX (.string ⟨#[]⟩) n, 1, rfl, Nat.le_refl _, Ob.new _ _ _, by simp, by simp, .inr rfl⟩⟩⟩
 ·exact ⟨rfl, hQ _ _ ⟨Ch.refl _ _, Nw.nil _ _ _ _⟩⟩
theorem wM {M : Store} {x v1 v2 : Value} (h : Sl 1 Ty.m M x 2 [v1, v2]) (K : Value → Prop) :
    (OP (ixA 1 x (iv ((0 : Nat) : Int))) fun p => OP (ld 1 false p M) K) = K v1 ∧ (OP (ixA 1 x (iv ((1 : Nat) : Int))) fun p => OP (ld 1 false p M) K) = K v2 := by
 obtain ⟨p, e1, e2⟩ := h.at (i := 0) (by omega) .i64
 obtain ⟨q, g1, g2⟩ := h.at (i := 1) (by omega) .i64
 constructor
 ·show (OP (ixA 1 x (.int .i64 ((0 : Nat) : Int))) fun p => OP (ld 1 false p M) K) = K v1
  rw [e1, ab, e2 false]; rfl
 ·show (OP (ixA 1 x (.int .i64 ((1 : Nat) : Int))) fun p => OP (ld 1 false p M) K) = K v2
  rw [g1, ab, g2 false]; rfl
theorem uZ {M : Store} {x v1 v2 : Value} {l1 l2 : List (List UInt8)} (h : Sl 1 Ty.m M x 2 [v1, v2]) (h1 : LV sv Ty.a M v1 l1) (h2 : LV sv Ty.a M v2 l2) (hl1 : l1.length ≤ 2 ^ 16) (hl2 : l2.length ≤ 2 ^ 16) :
    R F.I #[x] M fun v M' => Up M M' ∧ NV sv Ty.a M M' v (l1 ++ l2) := by
 refine R.cps fun Q hQ => ?_
 apply Da
 unfold vH
 rw [h.lenV, ab]
 show d8 x (iv ((0 : Nat) : Int)) x (iv ((2 : Nat) : Int)) (iv ((0 : Nat) : Int)) M Q
 apply ma
 unfold ir
 rw [ag, ae, if_pos (by decide)]
 apply r9
 unfold lZ
 rw [(wM h _).1, h1.len, ab, wq _ _ (by omega), eD 0 0 rfl, ae, if_neg (by omega), ah _ (by omega)]
 apply ma
 unfold ir
 rw [ag, ae, if_pos (by decide)]
 apply r9
 unfold lZ
 rw [(wM h _).2, h2.len, ab, wq _ _ (by omega), eD 0 0 rfl, ae, if_neg (by omega), ah _ (by omega)]
 apply ma
 unfold ir
 rw [ag, ae, if_neg (by decide)]
 apply z8
 unfold rA
 refine (FK (by omega)).mono fun v M1 ⟨u1, hN⟩ => ?_
 rw [h.lenV, ab]
 show d9 v x (iv ((2 : Nat) : Int)) (iv ((0 : Nat) : Int)) M1 Q
 apply mc
 unfold iw
 rw [ag, ae, if_pos (by decide), (wM (Sl.up h u1) _).1]
 refine NV.apps (M0 := M) (Mb := M) u1 (Nat.le_refl _) u1.n hN (h1.up u1) (by simp; omega) fun v2' M2 hu2 hN2 _ _ => ?_
 rw [ah _ (by omega)]
 apply mc
 unfold iw
 rw [ag, ae, if_pos (by decide), (wM (Sl.up h hu2) _).2]
 refine NV.apps (M0 := M) (Mb := M) hu2 (Nat.le_refl _) hu2.n hN2 (h2.up hu2) (by simp; omega) fun v3' M3 hu3 hN3 _ _ => ?_
 rw [ah _ (by omega)]
 apply mc
 unfold iw
 rw [ag, ae, if_neg (by decide)]
 apply z9
 unfold rB
 rw [List.nil_append] at hN3
 exact ⟨eI hN3.lv, hQ _ _ ⟨hu3, hN3⟩⟩
def lkP : List (List UInt8 × Nat) → List UInt8 → Option Nat
 | [], _ => none
 | p :: r, s => if p.1 = s then some p.2 else lkP r s
theorem pG : ∀ {P : List (List UInt8 × Nat)} {s : List UInt8} {j : Nat}, lkP P s = some j → (s, j) ∈ P
 | p :: r, s, j, h => by
  unfold lkP at h
  split at h
  ·rename_i e
   injection h with h
   obtain ⟨a, b⟩ := p
   simp only at e h
   subst e; subst h; simp
  ·exact List.mem_cons_of_mem _ (pG h)
theorem AJ : ∀ {P : List (List UInt8 × Nat)} {s : List UInt8}, lkP P s = none → ∀ j, (s, j) ∉ P
 | [], _, _, _, h => by cases h
 | p :: r, s, h, j, hm => by
  unfold lkP at h
  split at h
  ·cases h
  ·rename_i e
   rcases List.mem_cons.1 hm with hm | hm
   ·exact e (by rw [← hm])
   ·exact AJ h j hm
theorem IP {P : List (List UInt8 × Nat)} {s : List UInt8} (h : ∀ j, (s, j) ∉ P) : lkP P s = none := by
 cases e : lkP P s with
 | none => rfl
 | some j => exact absurd (pG e) (h j)
theorem AK : ∀ (P : List (List UInt8 × Nat)) (k : List UInt8) (i : Nat) (s : List UInt8), lkP P k = none → lkP (P ++ [(k, i)]) s = if s = k then some i else lkP P s
 | [], k, i, s, _ => by
  simp only [List.nil_append, lkP]
  by_cases h : k = s
  ·rw [if_pos h, if_pos h.symm]
  ·rw [if_neg h, if_neg (Ne.symm h)]
 | p :: r, k, i, s, hk => by
  unfold lkP at hk
  split at hk
  ·cases hk
  ·rename_i e
   rw [List.cons_append, lkP, lkP, AK r k i s hk]
   by_cases h : p.1 = s
   ·rw [if_pos h, if_pos h, if_neg (fun h2 => e (by rw [h, h2]))]
   ·rw [if_neg h, if_neg h]
def AtR (M : Store) (mb : Nat) (P : List (List UInt8 × Nat)) : Prop := ∃ f, Mp sv M mb f ∧ ∀ s, match lkP P s with
 | none => f s = none
 | some j => ∃ v, f s = some v ∧ LV iv Ty.b M v [(j : Int)]
theorem AtR.up {M M' : Store} {mb : Nat} {P : List (List UInt8 × Nat)} (h : AtR M mb P) (k : Up M M') : AtR M' mb P := by
 obtain ⟨f, h1, h2⟩ := h
 refine ⟨f, h1.up k, fun s => ?_⟩
 have := h2 s
 cases e : lkP P s with
 | none => rw [e] at this; exact this
 | some j =>
  rw [e] at this
  obtain ⟨v, g1, g2⟩ := this
  exact ⟨v, g1, g2.up k⟩
def cQ (rs : List RuT) : List (List UInt8 × Nat) := (List.range rs.length).flatMap fun i => (rs.getD i ru0).outs.map fun s => (s, i)
def gf (rs : List RuT) (i k : Nat) : List (List UInt8 × Nat) := ((List.range i).flatMap fun i => (rs.getD i ru0).outs.map fun s => (s, i)) ++ ((rs.getD i ru0).outs.take k).map fun s => (s, i)
theorem Gx {rs : List RuT} (ho : OkRs [] rs) {i k : Nat} (hi : i < rs.length) (hk : k < rs[i].outs.length) : lkP (gf rs i k) rs[i].outs[k] = none := by
 refine IP fun j hm => ?_
 have hoi := ho.at hi
 rw [List.nil_append] at hoi
 unfold gf at hm
 rcases List.mem_append.1 hm with hm | hm
 ·obtain ⟨a, ha, hm⟩ := List.mem_flatMap.1 hm
  obtain ⟨s, hs, e⟩ := List.mem_map.1 hm
  injection e with e1 e2
  subst e1
  have hai := List.mem_range.1 ha
  rw [aK (by omega)] at hs
  refine (hoi.ok _ (List.getElem_mem hk)).2 (List.mem_flatMap.2 ⟨rs[a]'(by omega), ?_, hs⟩)
  rw [List.mem_take_iff_getElem]
  exact ⟨a, by omega, rfl⟩
 ·obtain ⟨s, hs, e⟩ := List.mem_map.1 hm
  injection e with e1 e2
  subst e1
  rw [aK hi] at hs
  have hnd := hoi.nd
  rw [List.mem_take_iff_getElem] at hs
  obtain ⟨q, hq, e⟩ := hs
  have := (List.getElem_inj (xs := rs[i].outs) (h₀ := by omega) (h₁ := hk) hnd).1 e
  omega
section
variable {M0 : Store} {b mb : Nat} {vR vD : Value} {rs : List RuT} {Q : Value → Store → Prop}
theorem RL.ldr {M : Store} {v : Value} (h : RL M v rs) {i : Nat} (hi : i < rs.length) : ∃ c : Rc, RuV M c rs[i] ∧ ∀ K : Value → Prop, (OP (ixA 5 v (iv (i : Int))) fun p => OP (ld 5 true p M) K) = K (.agg (rcE c).toArray) := by
 obtain ⟨cs, h1, h2⟩ := h
 have hci : i < cs.length := by rw [h2.len]; exact hi
 refine ⟨cs[i], h2.at hci hi, fun K => ?_⟩
 obtain ⟨p, e1, e2⟩ := LK.at Cu h1 hci .i64
 show (OP (ixA 5 v (.int .i64 (i : Int))) fun p => OP (ld 5 true p M) K) = _
 rw [e1, ab, e2 true]; rfl
theorem Fq {M : Store} {c : Rc} {r : RuT} (h : RuV M c r) : (rcE c).all (·.oneCell') = true := by
 obtain ⟨a, k, e1⟩ := Sl.slice h.o
 obtain ⟨a2, k2, e2⟩ := Sl.slice h.i
 obtain ⟨a3, k3, e3⟩ := Sl.slice h.d
 obtain ⟨vs, ha, _⟩ := h.a
 obtain ⟨a4, k4, e4⟩ := ha.slice
 obtain ⟨x, y, z, w, p⟩ := c
 simp only at e1 e2 e3 e4
 subst e1 e2 e3 e4
 kernel_rfl
theorem HR (ho : OkRs [] rs) {i : Nat} (hi : i < rs.length) (hl : rs[i].outs.length ≤ 2 ^ 20) {x10 x11 x18 : Value} (hQ : ∀ M, Up M0 M → AtR M mb (gf rs (i + 1) 0) → gu (.map (some mb)) x10 x11 (iv (i : Int)) M Q) (hmb : M0.n ≤ mb) :
    ∀ (d k : Nat) (M : Store), d + k = rs[i].outs.length → Up M0 M → LV sv Ty.a M x18 rs[i].outs → AtR M mb (gf rs i k) → dn (.map (some mb)) (iv (i : Int)) x10 x11 (iv (i : Int)) x18 (iv (rs[i].outs.length : Int)) (iv (k : Int)) M Q := by
 intro d
 induction d with
 | zero =>
  intro k M hk hu h18 hA
  apply qp
  unfold j7
  rw [ag, ae, if_neg (by omega)]
  refine hQ M hu ?_
  have e : gf rs (i + 1) 0 = gf rs i k := by
   unfold gf
   rw [List.range_succ, List.flatMap_append, List.take_zero, List.map_nil, List.append_nil, aK hi, List.take_of_length_le (by omega)]
   simp [List.getElem?_eq_getElem hi]
  rw [e]; exact hA
 | succ d ih =>
  intro k M hk hu h18 hA
  have hkl : k < rs[i].outs.length := by omega
  apply qp
  unfold j7
  rw [ag, ae, if_pos hkl]
  apply yM
  unfold p8
  obtain ⟨p, e1, e2⟩ := h18.at hkl .i64
  have hnew := Gx ho hi hkl
  obtain ⟨f, hf1, hf2⟩ := hA
  have hfs := hf2 rs[i].outs[k]
  rw [hnew] at hfs
  simp only at hfs
  rw [e1, ab, e2, ab, hf1.look1 AG, ab, hfs, Option.getD_none, kD, aY]
  refine NV.app1 (M0 := M0) (Mb := M) hu hu.n (Nat.le_refl _) (NV.nil (M0 := M)) (i : Int) rfl (by simp) fun w M2 hu2 hN2 c2 _ => ?_
  have u2 : Up M M2 := c2
  rw [List.nil_append] at hN2
  obtain ⟨a, c, rfl⟩ := hN2.lv.slice
  obtain ⟨M3, e3, hm3, c3, k3⟩ := (hf1.up u2).put AG rs[i].outs[k] (v := .slice a [(i : Int)].length c) (IZ _ _ _)
  rw [show mup .string (.map (some mb)) (sv rs[i].outs[k]) (.slice a [(i : Int)].length c) M2 = some M3 from e3, ab, ah _ (by omega)]
  refine ih (k + 1) M3 (by omega) (hu2.ch c3 (by simpa using hmb)) (Sl.keepI (h18.up u2) k3) ⟨_, hm3, fun s => ?_⟩
  have e : gf rs i (k + 1) = gf rs i k ++ [(rs[i].outs[k], i)] := by
   unfold gf
   rw [aK hi, List.take_succ_eq_append_getElem hkl, List.map_append, List.map_singleton, List.append_assoc]
  rw [e, AK _ _ _ _ hnew]
  by_cases hs : s = rs[i].outs[k]
  ·rw [if_pos hs]
   exact ⟨_, if_pos hs, Sl.keepI hN2.lv k3⟩
  ·rw [if_neg hs]
   have := hf2 s
   cases hl2 : lkP (gf rs i k) s with
   | none => rw [hl2] at this; simp only; rw [if_neg hs]; exact this
   | some j =>
    rw [hl2] at this
    obtain ⟨v, g1, g2⟩ := this
    exact ⟨v, by rw [if_neg hs]; exact g1, Sl.keepI (g2.up u2) k3⟩
theorem Gt (ho : OkRs [] rs) (hs : ef rs) (hR : RL M0 vR rs) (hmb : M0.n ≤ mb) (hQ : ∀ M, Up M0 M → AtR M mb (cQ rs) → Q (.map (some mb)) M) :
    ∀ (d i : Nat) (M : Store), d + i = rs.length → Up M0 M → AtR M mb (gf rs i 0) → dm (.map (some mb)) vR (iv (rs.length : Int)) (iv (i : Int)) M Q := by
 have hsl := hs.1
 intro d
 induction d with
 | zero =>
  intro i M hi hu hA
  apply qo
  unfold j6
  rw [ag, ae, if_neg (by omega)]
  apply yL
  unfold p7
  refine ⟨rfl, hQ M hu ?_⟩
  have : i = rs.length := by omega
  subst this
  have e : gf rs rs.length 0 = cQ rs := by unfold gf cQ; simp
  rw [← e]; exact hA
 | succ d ih =>
  intro i M hi hu hA
  have hil : i < rs.length := by omega
  apply qo
  unfold j6
  rw [ag, ae, if_pos hil]
  apply yK
  unfold p6
  obtain ⟨c, hc, hld⟩ := (hR.up hu).ldr hil
  rw [hld]
  refine aq fun M1 u1 o1 n1 => ?_
  refine bp (vs := rcE c) o1 rfl rfl (Fq hc) fun M2 c2 o2 _ => ?_
  have u12 : Up M M2 := u1.ch c2 (by simp)
  rw [aS, show Go.Ab.ld 1 false (.pointer (some ⟨M.n, 0, none⟩)) M2 = some c.1 from Ob.ld (o := 0) o2 rfl, ab, (hc.o.up u12).len, ab]
  refine HR (M0 := M0) ho hil (by have := (hs.2 _ (List.getElem_mem hil)).1; omega) (fun M3 hu3 hA3 => ?_) hmb rs[i].outs.length 0 M2 rfl (hu.trans u12) (hc.o.up u12) (hA.up u12)
  apply yN
  unfold p9
  rw [ah _ (by omega)]
  exact ih (i + 1) M3 (by omega) hu3 hA3
theorem Gs {M : Store} {v : Value} {ds : List (List UInt8)} (h : MV M v rs ds) (ho : OkRs [] rs) (hs : ef rs) : R F.L #[v] M fun r M' => Up M M' ∧ ∃ mb, r = .map (some mb) ∧ AtR M' mb (cQ rs) ∧ M.n ≤ mb := by
 refine R.cps fun Q hQ => ?_
 obtain ⟨vR, vD, rfl, h1, h2⟩ := h
 apply Be
 unfold tz
 rw [da h1 h2, ab]
 refine aq fun M1 u1 o1 n1 => ?_
 rw [aY]
 have u2 := Up.push M1 (some (.inr (.inl [])))
 have o2 : Mz _ M.n vR vD := Ob.up o1 u2
 rw [bw o2, ((h1.up u1).up u2).len, ab]
 refine Gt (M0 := M1) (mb := M1.n) ho hs (h1.up u1) (Nat.le_refl _) (fun M' hu hA => hQ _ _ ⟨u1.trans hu, M1.n, rfl, hA, u1.n⟩) rs.length 0 _ rfl u2 ⟨fun _ => none, Mp.new M1, fun s => ?_⟩
 have e : gf rs 0 0 = [] := by simp [gf]
 rw [e]; rfl
end
end Go.G

namespace Go.G
open Go.Ab Go.Proofs Go.RowKit
set_option linter.unusedVariables false
set_option linter.unusedSimpArgs false
set_option maxRecDepth 100000
def ahN (rs : List RuT) (k : Nat) : List Nat := ((rs.getD k ru0).ins ++ (rs.getD k ru0).order).flatMap fun s => (lkP (cQ rs) s).toList
theorem sP {rs : List RuT} {s : List UInt8} {j : Nat} : (s, j) ∈ cQ rs ↔ ∃ h : j < rs.length, s ∈ rs[j].outs := by
 unfold cQ
 rw [List.mem_flatMap]
 constructor
 ·rintro ⟨a, ha, hm⟩
  obtain ⟨t, ht, e⟩ := List.mem_map.1 hm
  injection e with e1 e2
  subst e1 e2
  have := List.mem_range.1 ha
  exact ⟨this, by rwa [aK this] at ht⟩
 ·rintro ⟨h, hs⟩
  exact ⟨j, List.mem_range.2 h, List.mem_map.2 ⟨s, by rwa [aK h], rfl⟩⟩
theorem HQ {rs : List RuT} (ho : OkRs [] rs) {i j : Nat} (hi : i < rs.length) (hj : j < rs.length) {s : List UInt8} (h1 : s ∈ rs[i].outs) (h2 : s ∈ rs[j].outs) : i = j := by
 have key : ∀ {i j : Nat} (hi : i < rs.length) (hj : j < rs.length), s ∈ rs[i].outs → s ∈ rs[j].outs → ¬ i < j := by
  intro i j hi hj h1 h2 hlt
  have := ((ho.at hj).ok s h2).2
  rw [List.nil_append] at this
  refine this (List.mem_flatMap.2 ⟨rs[i], ?_, h1⟩)
  rw [List.mem_take_iff_getElem]
  exact ⟨i, by omega, rfl⟩
 have a := key hi hj h1 h2
 have b := key hj hi h2 h1
 omega
theorem Cd {rs : List RuT} (ho : OkRs [] rs) {k : Nat} (hk : k < rs.length) (j : Nat) : j ∈ ahN rs k ↔ j ∈ ndN rs k := by
 rw [tf hk]
 unfold ahN
 rw [aK hk, List.mem_flatMap]
 constructor
 ·rintro ⟨s, hs, hm⟩
  rw [Option.mem_toList] at hm
  obtain ⟨h, h2⟩ := sP.1 (pG hm)
  exact ⟨h, s, h2, hs⟩
 ·rintro ⟨h, s, h1, h2⟩
  refine ⟨s, h2, ?_⟩
  rw [Option.mem_toList]
  cases e : lkP (cQ rs) s with
  | none => exact absurd (sP.2 ⟨h, h1⟩) (AJ e j)
  | some j' =>
   obtain ⟨h', h1'⟩ := sP.1 (pG e)
   obtain rfl := HQ ho h' h h1' h1
   exact rfl
theorem Hj {rs : List RuT} (k : Nat) : (ahN rs k).length ≤ (rs.getD k ru0).ins.length + (rs.getD k ru0).order.length := by
 have key : ∀ l : List (List UInt8), (l.flatMap fun s => (lkP (cQ rs) s).toList).length ≤ l.length := by
  intro l
  induction l with
  | nil => simp
  | cons s l ih =>
   rw [List.flatMap_cons, List.length_append, List.length_cons]
   have : (lkP (cQ rs) s).toList.length ≤ 1 := by cases lkP (cQ rs) s <;> simp
   omega
 unfold ahN
 have := key ((rs.getD k ru0).ins ++ (rs.getD k ru0).order)
 rwa [List.length_append] at this
def ahI (rs : List RuT) (x : Int) : List Int := if 0 ≤ x ∧ x < (rs.length : Int) then aj (ahN rs x.toNat) else []
theorem Ak {rs : List RuT} {k : Nat} (hk : k < rs.length) : ahI rs (k : Int) = aj (ahN rs k) := by
 unfold ahI
 exact if_pos ⟨by omega, by omega⟩
def SmallRs (rs : List RuT) : Prop := rs.length ≤ 64 ∧ ∀ r ∈ rs, r.outs.length ≤ 64 ∧ r.ins.length ≤ 64 ∧ r.order.length ≤ 64
theorem SmallRs.short {rs : List RuT} (h : SmallRs rs) : ef rs := ⟨by have := h.1; omega, fun r hr => by have := h.2 r hr; omega⟩
theorem OkRs.small {rs : List RuT} {seen : List (List UInt8)} (h : OkRs seen rs) (hl : rs.length ≤ 64) : SmallRs rs :=
 ⟨hl, fun r hr => by
  obtain ⟨s, hs⟩ := h.all r hr
  have h1 := hs.most
  have h2 := hs.insl
  have h3 := hs.ordl
  refine ⟨?_, by omega, by omega⟩
  split at h1 <;> omega⟩
theorem yc {rs : List RuT} (hs : SmallRs rs) (x : Int) : (ahI rs x).length ≤ 128 := by
 unfold ahI
 split
 ·rename_i h
  rw [av]
  have h1 := Hj (rs := rs) x.toNat
  have hx : x.toNat < rs.length := by omega
  rw [aK hx] at h1
  have h2 := hs.2 _ (List.getElem_mem hx)
  omega
 ·simp
structure AhC (M : Store) (g : Value) (rs : List RuT) (lo : Nat) : Prop where
 ex : ∃ b1 b3 mb vR vD, g = .func (.func F.e) #[] #[pt b1, pt b3] ∧ Mz M b1 vR vD ∧ RL M vR rs ∧ Ob M b3 [.map (some mb)] Ty.p ∧ AtR M mb (cQ rs) ∧ lo ≤ mb
theorem AhC.up {M M' : Store} {g : Value} {rs : List RuT} {lo : Nat} (h : AhC M g rs lo) (k : Up M M') : AhC M' g rs lo := by
 obtain ⟨b1, b3, mb, vR, vD, e, h1, h2, h3, h4, h5⟩ := h.ex
 exact ⟨b1, b3, mb, vR, vD, e, h1.up k, h2.up k, h3.up k, h4.up k, h5⟩
theorem RL.keepI {M M' : Store} {v : Value} {rs : List RuT} (h : RL M v rs) (k : KeepI M M') : RL M' v rs := by
 obtain ⟨cs, h1, h2⟩ := h
 exact ⟨cs, Sl.keepI h1 k, h2.mono fun c r h => ⟨Sl.keepI h.o k, Sl.keepI h.i k, Sl.keepI h.d k, Ls.keepI (E := DS) (fun _ _ _ _ h k => Sl.keepI h k) h.a k, h.p⟩⟩
theorem AhC.map {M M' : Store} {g : Value} {rs : List RuT} {lo m : Nat} (h : AhC M g rs lo) (hm : m < lo) (c : Ch [m] M M') (k : KeepI M M') : AhC M' g rs lo := by
 obtain ⟨b1, b3, mb, vR, vD, e, h1, h2, h3, ⟨f, f1, f2⟩, h5⟩ := h.ex
 refine ⟨b1, b3, mb, vR, vD, e, k.2 _ _ h1, h2.keepI k, k.2 _ _ h3, ⟨f, f1.fr c (by simp; omega), fun s => ?_⟩, h5⟩
 have := f2 s
 cases e : lkP (cQ rs) s with
 | none => rw [e] at this; exact this
 | some j =>
  rw [e] at this
  obtain ⟨v, g1, g2⟩ := this
  exact ⟨v, g1, Sl.keepI g2 k⟩
section
variable {M0 : Store} {b3 mb : Nat} {vR vD : Value} {rs : List RuT} {Q : Value → Store → Prop}
theorem EU (a a' : Option Addr) (n n' c c' : Nat) (K : List Value → Prop) : OP (al (.slice none 0 0) 1 2 [(0, .slice a n c), (1, .slice a' n' c')]) K = K [.slice a n c, .slice a' n' c'] := by kernel_rfl
theorem Hk (o3 : Ob M0 b3 [.map (some mb)] Ty.p) (hA : AtR M0 mb (cQ rs)) {x30 : Value} {l : List (List UInt8)} (h30 : LV sv Ty.a M0 x30 l) (hl : l.length ≤ 2 ^ 20) (hQ : ∀ w M, Up M0 M → NV iv Ty.b M0 M w (aj (l.flatMap fun s => (lkP (cQ rs) s).toList)) → Q w M) :
    ∀ (d k : Nat) (x5 : Value) (M : Store), d + k = l.length → Up M0 M → NV iv Ty.b M0 M x5 (aj ((l.take k).flatMap fun s => (lkP (cQ rs) s).toList)) → ((l.take k).flatMap fun s => (lkP (cQ rs) s).toList).length ≤ k → bS (pt b3) x5 x30 (iv (l.length : Int)) (iv (k : Int)) M Q := by
 intro d
 induction d with
 | zero =>
  intro k x5 M hk hu hN hle
  apply kr
  unfold f5
  rw [ag, ae, if_neg (by omega)]
  apply ti
  unfold ki
  rw [List.take_of_length_le (by omega)] at hN
  exact ⟨eI hN.lv, hQ _ _ hu hN⟩
 | succ d ih =>
  intro k x5 M hk hu hN hle
  have hkl : k < l.length := by omega
  apply kr
  unfold f5
  rw [ag, ae, if_pos hkl]
  obtain ⟨p, e1, e2⟩ := (h30.up hu).at hkl .i64
  obtain ⟨f, hf1, hf2⟩ := hA.up hu
  have hfs := hf2 l[k]
  rw [e1, ab, e2, ab, (o3.up hu).l1, hf1.look1 AG, ab]
  have et : l.take (k + 1) = l.take k ++ [l[k]] := List.take_succ_eq_append_getElem hkl
  cases e : lkP (cQ rs) l[k] with
  | none =>
   rw [e] at hfs
   simp only at hfs
   rw [hfs, Option.getD_none]
   refine NV.apps (M0 := M0) (Mb := M0) (ys := ([] : List Int)) hu (Nat.le_refl _) hu.n hN (e' := Ty.b) (Sl.nil _ _ _) (by rw [av, List.length_nil]; omega) fun w M' hu' hN' _ _ => ?_
   rw [ah _ (by omega)]
   refine ih (k + 1) w M' (by omega) hu' ?_ ?_
   ·rw [et, List.flatMap_append]
    simpa [e] using hN'
   ·have h9 : ([l[k]].flatMap fun s => (lkP (cQ rs) s).toList).length ≤ 1 := by simp [e]
    rw [et, List.flatMap_append, List.length_append]
    omega
  | some j =>
   rw [e] at hfs
   obtain ⟨v, g1, g2⟩ := hfs
   rw [g1, Option.getD_some]
   refine NV.apps (M0 := M0) (Mb := M0) hu (Nat.le_refl _) hu.n hN g2 (by rw [av, List.length_singleton]; omega) fun w M' hu' hN' _ _ => ?_
   rw [ah _ (by omega)]
   refine ih (k + 1) w M' (by omega) hu' ?_ ?_
   ·rw [et, List.flatMap_append]
    simpa [e, aj] using hN'
   ·have h9 : ([l[k]].flatMap fun s => (lkP (cQ rs) s).toList).length ≤ 1 := by simp [e]
    rw [et, List.flatMap_append, List.length_append]
    omega
theorem GT {M : Store} {g : Value} {lo : Nat} (hC : AhC M g rs lo) (hs : SmallRs rs) {k : Nat} (hk : k < rs.length) : KC g [iv (k : Int)] M fun v M' => Up M M' ∧ NV iv Ty.b M M' v (ahI rs (k : Int)) := by
 obtain ⟨b1, b3, mb, vR, vD, rfl, h1, h2, h3, h4, _⟩ := hC.ex
 show R F.e #[iv (k : Int), pt b1, pt b3] M _
 refine R.cps fun Q hQ => ?_
 apply vK
 unfold mD
 have hsk := hs.2 _ (List.getElem_mem hk)
 rw [eD 0 0 rfl, ae, if_neg (by omega), bw h1, h2.len, ab, gD, ae, if_neg (by omega)]
 obtain ⟨c, hc, hf⟩ := h2.fld hk
 rw [bw h1, hf 1 c.2.1 rfl, bw h1, hf 2 c.2.2.1 rfl]
 obtain ⟨a1, k1, e1⟩ := Sl.slice hc.i
 obtain ⟨a2, k2, e2⟩ := Sl.slice hc.d
 have hi := hc.i
 have hd := hc.d
 rw [e1] at hi ⊢
 rw [e2] at hd ⊢
 rw [EU]
 refine pS (s := 1) (n := 2) rfl fun M1 u1 hN1 o1 n1 => ?_
 refine (uZ (Nw.sl hN1) (hi.up u1) (hd.up u1) (by omega) (by omega)).mono fun w M2 ⟨u2, hw⟩ => ⟨u2.tdx _ _ _, ?_⟩
 have u12 := u1.trans u2
 rw [hw.lv.len, ab]
 refine Hk (M0 := M2) (h3.up u12) (h4.up u12) hw.lv (by rw [List.length_append]; omega) (fun w M' hu hN => hQ _ _ ⟨u12.trans hu, ?_⟩) _ 0 _ M2 rfl (Ch.refl _ _) NV.nil (by simp)
 rw [Ak hk]
 unfold ahN
 rw [aK hk]
 exact Nw.base hN u12.n
theorem y9 {M : Store} {v : Value} {ds : List (List UInt8)} (h : MV M v rs ds) (ho : OkRs [] rs) (hs : SmallRs rs) : R F.t #[v] M fun g M' => Up M M' ∧ AhC M' g rs M.n := by
 refine R.cps fun Q hQ => ?_
 obtain ⟨vR, vD, rfl, h1, h2⟩ := h
 apply zv
 unfold qI
 rw [da h1 h2, ab]
 refine aq fun M1 u1 o1 n1 => ?_
 rw [o1.ldA (s := 2) rfl, ab]
 refine (Gs (ds := ds) ⟨vR, vD, rfl, h1.up u1, h2.up u1⟩ ho hs.short).mono fun r M2 ⟨u2, mb, e, hA, hlo⟩ => ?_
 subst e
 refine aq fun M3 u3 o3 n3 => ?_
 refine cY (i := 0) (w := .map (some mb)) o3 (by simp) (Az _) (G1 _) fun M4 c4 o4 _ => ?_
 have u24 : Up M2 M4 := u3.ch c4 (by simp)
 have u14 := u2.trans u24
 have hmk : mkF (.func F.e) [] [pt M.n, pt M2.n] = some (.func (.func F.e) #[] #[pt M.n, pt M2.n]) := rfl
 rw [hmk, ab]
 exact ⟨rfl, hQ _ _ ⟨u1.trans u14, ⟨M.n, M2.n, mb, vR, vD, rfl, Ob.up o1 u14, h1.up (u1.trans u14), o4, hA.up u24, Nat.le_trans u1.n hlo⟩⟩⟩
theorem BO {n j : Nat} (h : j < n) : aj (List.range n) = aj (List.range j) ++ (j : Int) :: aj ((List.range n).drop (j + 1)) := by
 have : List.range n = List.range j ++ j :: (List.range n).drop (j + 1) := by
  have h1 : (List.range n).take j = List.range j := by rw [List.take_range, Nat.min_eq_left (by omega)]
  have h2 : j < (List.range n).length := by rw [List.length_range]; exact h
  conv => lhs; rw [← List.take_append_drop j (List.range n)]
  rw [h1, List.drop_eq_getElem_cons h2, List.getElem_range]
 conv => lhs; rw [this]
 simp [aj]
theorem gF {n : Nat} {z : Int} : z ∈ aj (List.range n) ↔ 0 ≤ z ∧ z < (n : Int) := by
 rw [jc]
 constructor
 ·rintro ⟨i, hi, rfl⟩
  have := List.mem_range.1 hi; omega
 ·rintro ⟨h1, h2⟩
  exact ⟨z.toNat, List.mem_range.2 (by omega), by omega⟩
theorem Cr {n : Nat} {A : Int → List Int} (hA : ∀ k, k < n → ∀ z ∈ A (k : Int), 0 ≤ z ∧ z < (k : Int)) : ∀ (d j : Nat), d + j = n → mt (aj (List.range n)) A d (aj (List.range j)) = some (aj (List.range n))
 | 0, j, h => by
  have : j = n := by omega
  subst this; rfl
 | d + 1, j, h => by
  have hj : j < n := by omega
  have hn : nxt (aj (List.range n)) A (aj (List.range j)) = some (j : Int) := by
   unfold nxt
   rw [BO hj, List.find?_append]
   have h1 : (aj (List.range j)).find? (uH (aj (List.range j) ++ (j : Int) :: aj ((List.range n).drop (j + 1))) A (aj (List.range j))) = none := by
    rw [List.find?_eq_none]
    intro z hz hf
    unfold uH at hf
    rw [Bool.and_eq_true, decide_eq_true_eq] at hf
    exact hf.1 hz
   rw [h1, Option.none_or, List.find?_cons_of_pos]
   unfold uH
   rw [Bool.and_eq_true, decide_eq_true_eq, List.all_eq_true]
   refine ⟨fun hm => ?_, fun z hz => ?_⟩
   ·have := gF.1 hm; omega
   ·have := hA j hj z hz
    rw [Bool.or_eq_true]
    exact .inr (decide_eq_true (gF.2 this))
  rw [mt, hn]
  simp only
  have := Cr hA d (j + 1) (by omega)
  rwa [List.range_succ, fG] at this
theorem nodup_range (n : Nat) : (aj (List.range n)).Nodup := by
 unfold aj
 rw [List.Nodup, List.pairwise_map]
 exact List.Pairwise.imp (fun h e => h (by omega)) List.nodup_range
theorem GH {b n : Nat} (o : Mz M0 b vR vD) (hn : n ≤ 2 ^ 20) (hk : ∀ w M, Up M0 M → NV iv Ty.b M0 M w (aj (List.range n)) → fK (pt b) w M Q) :
    ∀ (d i : Nat) (x4 : Value) (M : Store), d + i = n → Up M0 M → NV iv Ty.b M0 M x4 (aj (List.range i)) → c8 (pt b) x4 (iv (n : Int)) (iv (i : Int)) M Q := by
 intro d
 induction d with
 | zero =>
  intro i x4 M hi hu hN
  apply oz
  unfold i2
  rw [ag, ae, if_neg (by omega)]
  have : i = n := by omega
  subst this
  exact hk x4 M hu hN
 | succ d ih =>
  intro i x4 M hi hu hN
  apply oz
  unfold i2
  rw [ag, ae, if_pos (by omega), kD, aY]
  refine NV.app1 (M0 := M0) (Mb := M0) hu (Nat.le_refl _) hu.n hN (i : Int) rfl (by rw [av, List.length_range]; omega) fun w M' hu' hN' _ _ => ?_
  rw [ah _ (by omega)]
  exact ih (i + 1) w M' (by omega) hu' (by rw [List.range_succ, fG]; exact hN')
theorem Ei {M : Store} {v : Value} {ds : List (List UInt8)} (h : MV M v rs ds) (ho : OkRs [] rs) (hs : SmallRs rs) (hb : ∀ k, k < rs.length → ∀ i ∈ ndN rs k, i < k) :
    R F.D #[v] M fun r M' => Up M M' ∧ ∃ w, r = .tuple #[w, tv true] ∧ NV iv Ty.b M M' w (aj (List.range rs.length)) := by
 refine R.cps fun Q hQ => ?_
 obtain ⟨vR, vD, rfl, h1, h2⟩ := h
 have hsl := hs.1
 apply zw
 unfold qJ
 rw [da h1 h2, ab]
 refine aq fun M1 u1 o1 n1 => ?_
 have o1 : Mz M1 M.n vR vD := o1
 rw [bw o1, (h1.up u1).len, ab]
 refine GH (M0 := M1) o1 (by omega) (fun w M2 u2 hN => ?_) rs.length 0 _ M1 rfl (Ch.refl _ _) NV.nil
 have u12 := u1.trans u2
 apply xc
 unfold og
 rw [(Ob.up o1 u2).ldA (s := 2) rfl, ab]
 refine (y9 (ds := ds) ⟨vR, vD, rfl, h1.up u12, h2.up u12⟩ ho hs).mono fun g M3 ⟨u3, hC⟩ => ?_
 refine (zf (hN.lv.up u3) (by rw [av, List.length_range]; omega) (ahI rs) (fun M' hu x hx => ?_) (fun x hx => by have := yc hs x; omega)).mono fun r M4 ⟨u4, q, e, hq⟩ => ?_
 ·obtain ⟨i, hi, rfl⟩ := jc.1 hx
  refine fU (GT (hC.up hu) hs (List.mem_range.1 hi)) fun v' M'' ⟨ha, hb⟩ => ⟨ha, hb.lv⟩
 ·subst e
  rw [GQ (nodup_range _)] at hq ⊢
  rw [av, List.length_range] at hq ⊢
  have hid := Cr (n := rs.length) (A := ahI rs) (fun k hk z hz => by
   rw [Ak hk] at hz
   obtain ⟨i, hi, rfl⟩ := jc.1 hz
   have := hb k hk i ((Cd ho hk i).1 hi)
   omega) rs.length 0 rfl
  have hid : mt (aj (List.range rs.length)) (ahI rs) rs.length [] = some (aj (List.range rs.length)) := hid
  rw [hid] at hq ⊢
  rw [(tp2 _ _).1, (tp2 _ _).2]
  have hu := (u12.trans u3)
  obtain ⟨qa, qc, rfl⟩ := hq.lv.slice
  exact ⟨rfl, hQ _ _ ⟨hu.trans u4, _, rfl, Nw.base hq hu.n⟩⟩
end
end Go.G

namespace Go.G
open Go.Ab Go.Proofs Go.RowKit
set_option linter.unusedVariables false
set_option linter.unusedSimpArgs false
set_option maxRecDepth 100000
section
variable {M : Store} {v : Value} {xs : List (List UInt8)} {t : List UInt8} {Q : Value → Store → Prop}
theorem Gg (h : LV sv Ty.a M v xs) (hl : xs.length ≤ 2 ^ 40) (hQ : ∀ z : Int, decide (z ≥ 0) = decide (t ∈ xs) → Q (iv z) M) :
    ∀ (k i : Nat), k + i = xs.length → t ∉ xs.take i → eR v (sv t) (iv (xs.length : Int)) (iv (i : Int)) M Q := by
 intro k
 induction k with
 | zero =>
  intro i hi hn
  apply tX
  unfold nN
  rw [ag, ae, if_neg (by omega)]
  apply Bw
  unfold tR
  rw [List.take_of_length_le (by omega)] at hn
  exact ⟨rfl, hQ (-1) (by rw [decide_eq_false hn]; rfl)⟩
 | succ k ih =>
  intro i hi hn
  have hil : i < xs.length := by omega
  apply tX
  unfold nN
  obtain ⟨p, e1, e2⟩ := h.at hil .i64
  rw [ag, ae, if_pos hil, e1, ab, e2, ab, jz, ae]
  split
  ·rename_i e
   exact ⟨rfl, hQ (i : Int) (by rw [decide_eq_true (p := t ∈ xs) (by rw [e]; exact List.getElem_mem hil)]; simp)⟩
  ·rename_i e
   rw [ah _ (by omega)]
   refine ih (i + 1) (by omega) ?_
   rw [List.take_succ_eq_append_getElem hil, List.mem_append]
   rintro (h1 | h1)
   ·exact hn h1
   ·exact e (by simpa using h1)
theorem tw (h : LV sv Ty.a M v xs) (hl : xs.length ≤ 2 ^ 40) (hQ : Q (tv (decide (t ∈ xs))) M) : R F.u #[v, sv t] M Q := by
 apply Ac
 unfold rC
 apply EG
 unfold xW
 rw [h.len, ab]
 refine Gg h hl (fun z hz => ?_) xs.length 0 rfl (by simp)
 refine ⟨rfl, ?_⟩
 show Q (.bool (decide (z ≥ 0))) M
 rw [hz]; exact hQ
theorem F9 {b3 : Nat} {w : Value} {ys : List (List UInt8)} (h : LV sv Ty.a M v xs) (hl : xs.length ≤ 2 ^ 40) (o : Ob M b3 [w] Ty.m) (hw : LV sv Ty.a M w ys) (hyl : ys.length ≤ 2 ^ 40) (hQ : ∀ z : Int, decide (z ≥ 0) = (xs.any fun s => decide (s ∈ ys)) → Q (iv z) M) :
    ∀ (k i : Nat), k + i = xs.length → ((xs.take i).any fun s => decide (s ∈ ys)) = false → cL v (.func (.func F.c) #[] #[pt b3]) (iv (xs.length : Int)) (iv (i : Int)) M Q := by
 intro k
 induction k with
 | zero =>
  intro i hi hn
  apply mZ
  unfold iz
  rw [ag, ae, if_neg (by omega)]
  apply wg
  unfold mT
  rw [List.take_of_length_le (by omega)] at hn
  exact ⟨rfl, hQ (-1) (by rw [hn]; rfl)⟩
 | succ k ih =>
  intro i hi hn
  have hil : i < xs.length := by omega
  apply mZ
  unfold iz
  obtain ⟨p, e1, e2⟩ := h.at hil .i64
  rw [ag, ae, if_pos hil, e1, ab, e2, ab]
  show R F.c #[sv xs[i], pt b3] M _
  apply vQ
  unfold mJ
  rw [o.l1]
  refine tw hw hyl ⟨rfl, ?_⟩
  show BR (.bool (decide (xs[i] ∈ ys))) _ _
  rw [ae]
  split
  ·rename_i e
   refine ⟨rfl, hQ (i : Int) ?_⟩
   have : (xs.any fun s => decide (s ∈ ys)) = true := List.any_eq_true.2 ⟨xs[i], List.getElem_mem hil, decide_eq_true e⟩
   rw [this]; simp
  ·rename_i e
   rw [ah _ (by omega)]
   refine ih (i + 1) (by omega) ?_
   rw [List.take_succ_eq_append_getElem hil, List.any_append, hn]
   simp [e]
theorem Ig {b3 : Nat} {w : Value} {ys : List (List UInt8)} (h : LV sv Ty.a M v xs) (hl : xs.length ≤ 2 ^ 40) (o : Ob M b3 [w] Ty.m) (hw : LV sv Ty.a M w ys) (hyl : ys.length ≤ 2 ^ 40) (hQ : Q (tv (xs.any fun s => decide (s ∈ ys))) M) :
    R F.r #[v, .func (.func F.c) #[] #[pt b3]] M Q := by
 apply uA
 unfold l9
 apply yX
 unfold qm
 rw [h.len, ab]
 refine F9 h hl o hw hyl (fun z hz => ?_) xs.length 0 rfl (by simp)
 refine ⟨rfl, ?_⟩
 show Q (.bool (decide (z ≥ 0))) M
 rw [hz]; exact hQ
end
def eH (ns : List (List UInt8)) (r : RuT) : Bool := decide (ns = []) || r.outs.any fun s => decide (s ∈ ns)
def i9 (rs : List RuT) (ns : List (List UInt8)) : List Nat := (List.range rs.length).filter fun i => eH ns (rs.getD i ru0)
section
variable {M0 : Store} {b2 b3 : Nat} {vR vD w x14 : Value} {rs : List RuT} {ns : List (List UInt8)} {Q : Value → Store → Prop}
theorem Au (hR : RL M0 vR rs) (hs : SmallRs rs) (o3 : Ob M0 b3 [w] Ty.m) (hw : LV sv Ty.a M0 w ns) (hnl : ns.length ≤ 2 ^ 20) (hQ : ∀ v M, Up M0 M → NV iv Ty.b M0 M v (aj (i9 rs ns)) → Q v M) :
    ∀ (d i : Nat) (x5 : Value) (M : Store), d + i = rs.length → Up M0 M → NV iv Ty.b M0 M x5 (aj ((List.range i).filter fun i => eH ns (rs.getD i ru0))) → aT (pt b3) x5 vR (iv (rs.length : Int)) (iv (i : Int)) M Q := by
 have hsl := hs.1
 intro d
 induction d with
 | zero =>
  intro i x5 M hi hu hN
  apply oC
  unfold i3
  rw [ag, ae, if_neg (by omega)]
  apply xe
  unfold oi
  have : i = rs.length := by omega
  subst this
  exact ⟨eI hN.lv, hQ _ _ hu hN⟩
 | succ d ih =>
  intro i x5 M hi hu hN
  have hil : i < rs.length := by omega
  apply oC
  unfold i3
  rw [ag, ae, if_pos hil]
  apply xd
  unfold oh
  obtain ⟨c, hc, hld⟩ := (hR.up hu).ldr hil
  rw [hld]
  refine aq fun M1 u1 o1 n1 => ?_
  refine bp (vs := rcE c) o1 rfl rfl (Fq hc) fun M2 c2 o2 _ => ?_
  have u12 : Up M M2 := u1.ch c2 (by simp)
  have hu2 := hu.trans u12
  have hN2 := Nw.up hN u12
  have hfl : ((List.range i).filter fun i => eH ns (rs.getD i ru0)).length ≤ i := by
   have := List.length_filter_le (fun i => eH ns (rs.getD i ru0)) (List.range i)
   rwa [List.length_range] at this
  have put : ∀ M', Up M0 M' → NV iv Ty.b M0 M' x5 (aj ((List.range i).filter fun i => eH ns (rs.getD i ru0))) → eH ns rs[i] = true → OP (al (.int .i64 0) 1 1 [(0, iv (i : Int))]) fun c => LT (.slice (some ⟨M'.n, 0, none⟩) 1 1) (M'.push (some (.inl (c, Ty.b, true)))) fun t32 M3 => OP2 (appV 1 Ty.b x5 t32 M3) fun t33 M4 => OP (ad .add (iv (i : Int)) (.int .i64 1)) fun t34 => aT (pt b3) t33 vR (iv (rs.length : Int)) t34 M4 Q := by
   intro M' hu' hN' hb
   rw [kD, aY]
   refine NV.app1 (M0 := M0) (Mb := M0) hu' (Nat.le_refl _) hu'.n hN' (i : Int) rfl (by rw [av]; omega) fun v4 M4 hu4 hN4 _ _ => ?_
   rw [ah _ (by omega)]
   refine ih (i + 1) v4 M4 (by omega) hu4 ?_
   rw [List.range_succ, List.filter_append, List.filter_cons_of_pos (by rw [aK hil]; exact hb), List.filter_nil, fG]
   exact hN4
  have hsi := hs.2 _ (List.getElem_mem hil)
  rw [(o3.up hu2).l1, (hw.up hu2).len, ab, bZ 0 0 rfl, ae]
  split
  ·rename_i h0
   exact put M2 hu2 hN2 (by unfold eH; rw [decide_eq_true (List.length_eq_zero_iff.1 h0)]; rfl)
  ·rename_i h0
   have hne : ¬ ns = [] := fun e => h0 (by rw [e]; rfl)
   rw [aS, show Go.Ab.ld 1 false (.pointer (some ⟨M.n, 0, none⟩)) M2 = some c.1 from Ob.ld (o := 0) o2 rfl, ab]
   have hmk : mkF (.func F.c) [] [pt b3] = some (.func (.func F.c) #[] #[pt b3]) := rfl
   rw [hmk, ab]
   have ho := hc.o.up u12
   refine Ig ho (by omega) (o3.up hu2) (hw.up hu2) (by omega) ?_
   have hnb : eH ns rs[i] = rs[i].outs.any fun s => decide (s ∈ ns) := by unfold eH; rw [decide_eq_false hne, Bool.false_or]
   rw [au]
   split
   ·rename_i hb
    exact put M2 hu2 hN2 (by rw [hnb]; exact hb)
   ·rename_i hb
    rw [ah _ (by omega)]
    refine ih (i + 1) x5 M2 (by omega) hu2 ?_
    rw [List.range_succ, List.filter_append, List.filter_cons_of_neg (by rw [aK hil, hnb]; exact hb), List.filter_nil, List.append_nil]
    exact hN2
def sJ (ns ds : List (List UInt8)) : List (List UInt8) := if ns = [] then ds else ns
theorem F5 {M : Store} {v x1 : Value} {ds : List (List UInt8)} (h : MV M v rs ds) (hs : SmallRs rs) (h1 : LV sv Ty.a M x1 ns) (hnl : ns.length ≤ 2 ^ 20) (hdl : ds.length ≤ 2 ^ 20) : R F.E #[v, x1] M fun r M' => Up M M' ∧ NV iv Ty.b M M' r (aj (i9 rs (sJ ns ds))) := by
 refine R.cps fun Q hQ => ?_
 obtain ⟨vR, vD, rfl, hR, hD⟩ := h
 apply zx
 unfold qK
 rw [da hR hD, ab]
 refine aq fun M1 u1 o1 n1 => ?_
 obtain ⟨a, c, rfl⟩ := h1.slice
 rw [show aX (.slice a ns.length c) = some [.slice a ns.length c] from by kernel_rfl, ab]
 refine aq fun M2 u2 o2 n2 => ?_
 have u12 := u1.trans u2
 have o12 : Mz M2 M.n vR vD := Ob.up o1 u2
 have hlt := o12.lt
 have hR2 := hR.up u12
 have hD2 : LV sv Ty.a M2 vD ds := hD.up u12
 rw [o2.l1, sD]
 show OP (ad .eql (iv (ns.length : Int)) (.int .i64 0)) _
 rw [bZ 0 0 rfl, ae]
 split
 ·rename_i h0
  have hne : ns = [] := List.length_eq_zero_iff.1 h0
  rw [JR o12]
  obtain ⟨a', c', rfl⟩ := Sl.slice hD2
  refine cY (i := 0) (w := .slice a' ds.length c') o2 (by simp) (bQ _ _ _) (gG _ _ _) fun M3 c3 o3 _ => ?_
  have u3 : Up M1 M3 := u2.ch c3 (by simp)
  have k3 := c3.keepT o2
  rw [bw (Ob.up o1 u3), ((hR.up u1).up u3).len, ab]
  refine Au (M0 := M3) ((hR.up u1).up u3) hs o3 (Sl.keep hD2 (by decide) k3) hdl (fun r M' hu hN => hQ _ _ ⟨(u1.trans u3).trans hu, ?_⟩) rs.length 0 _ M3 rfl (Ch.refl _ _) NV.nil
  unfold sJ
  rw [if_pos hne]
  exact Nw.base hN (u1.trans u3).n
 ·rename_i h0
  have hne : ¬ ns = [] := fun e => h0 (by rw [e]; rfl)
  rw [bw o12, hR2.len, ab]
  refine Au (M0 := M2) hR2 hs o2 (Sl.up h1 u12) hnl (fun r M' hu hN => hQ _ _ ⟨u12.trans hu, ?_⟩) rs.length 0 _ M2 rfl (Ch.refl _ _) NV.nil
  unfold sJ
  rw [if_neg hne]
  exact Nw.base hN u12.n
end
end Go.G
