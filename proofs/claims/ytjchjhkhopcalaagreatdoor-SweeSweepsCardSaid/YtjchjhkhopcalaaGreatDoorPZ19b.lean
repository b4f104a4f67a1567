/- Layer 9 for layer 19: a file is put, listed, dropped. -/
import Derived.Test.YtjchjhkhopcalaaGreatDoorPZ19a
import Derived.Test.YtjchjhkhopcalaaGreatDoorPGL
namespace Go.G
open Go.Ab Go.Proofs Go.RowKit
set_option linter.unusedVariables false
set_option linter.unusedSimpArgs false
set_option maxRecDepth 100000
section
variable {M : Store} {bf r last : Nat} {es : FEs}
def iq (K : List (List UInt8)) (s : List UInt8) : List (List UInt8) := if s ∈ K then K else K ++ [s]
theorem sW {K : List (List UInt8)} {s : List UInt8} (h : K.Nodup) : (iq K s).Nodup := by
 unfold iq
 split
 ·exact h
 ·rename_i hs
  rw [List.nodup_append]
  exact ⟨h, by simp, fun x hx y hy => by rw [List.mem_singleton.1 hy]; exact fun e => hs (e ▸ hx)⟩
theorem se (h : SW M bf r last es) (s : List UInt8) (xa : Option Addr) (xc : Nat) (hl : es.length ≤ 1000) (hlast : last ≤ 100000) :
    R F.I #[pB bf, sv s, .slice xa 1 xc] M fun v M' => Ks M M' ∧ (∃ es', SW M' bf r (last + 1) es' ∧ af es' = iq (af es) s) ∧ v = iv ((last + 1 : Nat) : Int) := by
 refine R.cps fun Q hQ => ?_
 have o := h.ob
 have hbr := h.ne
 apply kQ
 unfold ge
 simp only [bR, dR, (fs6 o).2.2.1]
 rw [aP _ (by omega)]
 refine gF (i := 2) (w := iv ((last + 1 : Nat) : Int)) o (by simp) rfl rfl fun M1 c1 o1 _ => ?_
 have o1 : Ob M1 bf [iv ((1048576 : Nat) : Int), iv (es.length : Int), iv ((last + 1 : Nat) : Int), tv false, iv 0, .map (some r)] Ty.e := o1
 have k1 := c1.keepT o
 have s1 := Ks.keep c1 o h.b3
 have m1 : M1.get r = some (.inr (.inl (be es))) := k1.2 _ _ h.mp (fun _ e => by cases e)
 have hm1 : Mp sv M1 r fun k => fnd k es := ⟨es, m1, fun _ => rfl⟩
 simp only [bR, dR, (fs6 o1).2.1, (fs6 o1).2.2.2]
 obtain ⟨a, c, z, e⟩ := kC (k := s) h.vs
 rw [hF, hm1.look1 di, ae, e, qa, hF]
 obtain ⟨u, hu, hul⟩ : ∃ u : Nat, u = (iq (af es) s).length ∧ es.length + (1 - (if s ∈ af es then 1 else 0)) = u := by
  refine ⟨_, rfl, ?_⟩
  unfold iq
  by_cases hm : s ∈ af es
  ·rw [if_pos hm, if_pos hm]; simp [af]
  ·rw [if_neg hm, if_neg hm]; simp [af]
 have hin : (if s ∈ af es then 1 else 0) ≤ 1 := by split <;> omega
 generalize (if s ∈ af es then 1 else 0) = q at *
 show OP (ab .sub (iv ((1 : Nat) : Int)) (iv (q : Int))) _
 rw [jO 1 q hin (by omega), gl _ _ (by omega), hul]
 refine gF (i := 1) (w := iv (u : Int)) o1 (by simp) rfl rfl fun M2 c2 o2 _ => ⟨c2.tdx o1 (by simpa using o1.lt), ?_⟩
 have o2 : Ob M2 bf [iv ((1048576 : Nat) : Int), iv (u : Int), iv ((last + 1 : Nat) : Int), tv false, iv 0, .map (some r)] Ty.e := o2
 have k2 := c2.keepT o1
 have s2 := Ks.keep c2 o1 h.b3
 have m2 : M2.get r = some (.inr (.inl (be es))) := k2.2 _ _ m1 (fun _ e => by cases e)
 simp only [bR, dR, (fs6 o2).2.2.1, (fs6 o2).2.2.2]
 rw [s4, ae]
 obtain ⟨es', e3, hk, hv'⟩ := rU m2 h.vs s (rR xa 1 xc ((last + 1 : Nat) : Int)) ⟨xa, xc, _, rfl⟩
 rw [show mup .string (.map (some r)) (sv s) (.agg #[.slice xa 1 xc, iv ((last + 1 : Nat) : Int)]) M2 = some _ from e3, ae]
 have c3 := Ch.set m2 (some (.inr (.inl (be es'))))
 have k3 := KeepI.setR m2 (some (.inr (.inl (be es'))))
 have m3 := Store.get_set_eq M2 (some (.inr (.inl (be es')))) m2
 generalize M2.set r (some (.inr (.inl (be es')))) = M3 at *
 have hrl := M2.lt_of_get m2
 refine ⟨⟨c3.n, fun cc hc => ?_⟩, ?_⟩
 ·rcases c3.tdiff cc hc with hc | hc
  ·exact .inl hc
  ·have : cc = r := by simpa using hc
   subst this
   refine .inr ⟨by rw [m2]; rfl, ?_⟩
   unfold dw
   rw [Bool.or_eq_true]
   exact .inl (by simpa using hrl)
 ·have o3 := o2.fr c3 (by simpa using hbr)
  simp only [bR, dR, (fs6 o3).2.2.1]
  have hk' : af es' = iq (af es) s := hk
  have hel : es'.length = u := by
   have : (af es').length = es'.length := by simp [af]
   rw [← this, hk', hu]
  refine ⟨rfl, hQ _ _ ⟨(s1.trans s2).trans (Ks.keepI c3 k3 h.r3), ⟨es', ⟨h.b3, h.r3, ?_, m3, hv', by rw [hk']; exact sW h.nd⟩, hk'⟩, rfl⟩⟩
  rw [hel]; exact o3
theorem qr {M : Store} {v : Value} {l : List UInt8} (h : B M v l) (hl : l.length ≤ 2 ^ 24) : R F.n #[v] M fun v' M' => Up M M' ∧ N M M' v' l := by
 apply e9
 obtain ⟨a, c, rfl⟩ := h.slice
 unfold cI
 rw [rj U.d]
 cases a with
 | none =>
  obtain ⟨h1, a, c', h2, h3, h4⟩ := h
  injection h2 with h2 h5 h6
  subst h2; subst h6
  have : l.length = 0 := by
   rcases Nat.eq_zero_or_pos l.length with h | h
   ·exact h
   ·obtain ⟨b, o, cells, e', own, h7, _⟩ := h4 h; cases h7
  have hl : l = [] := List.length_eq_zero_iff.1 this
  subst hl
  simp only [Option.isNone_none, ev]
  exact ⟨rfl, Ch.refl _ _, Nw.nil _ _ _ _⟩
 | some a =>
  simp only [Option.isNone_some, ev]
  have hn : N M (M.push (some (.inl (([] : List Value), Ty.d, true)))) (.slice (some ⟨M.n, 0, none⟩) 0 0) [] := Nw.lit (n := 0) (cs := []) (Nat.le_refl _) (by simp)
  obtain ⟨v', M', e, hu, hN, _⟩ := NB.app (Up.push M _) hn (Sl.up h (Up.push M _)) (by simp; omega)
  rw [e, ie]
  refine ⟨?_, hu, by simpa using hN⟩
  obtain ⟨a, c, rfl⟩ := hN.sl.slice
  rfl
theorem tG (h : SW M bf r last es) {s : List UInt8} (hs : eG s = true) (hsl : s.length ≤ 2 ^ 40) {x : Value} {b : UInt8} (hx : B M x [b]) (hl : es.length ≤ 1000) (hlast : last ≤ 100000) :
    R F.s #[pB bf, sv s, x] M fun v M' => Ks M M' ∧ ∃ es', SW M' bf r (last + 1) es' ∧ af es' = iq (af es) s := by
 refine R.cps fun Q hQ => ?_
 apply mX
 unfold iP
 refine oV hsl ?_
 rw [hs, bE, bl, if_neg (by decide), tQ hx]
 refine (qe h s hl).mono fun v M1 ⟨e1, e2⟩ => ?_
 subst e1; subst e2
 rw [bE, bl, if_neg (by decide)]
 refine (qr hx (by simp)).mono fun w M2 ⟨u2, h2⟩ => ?_
 obtain ⟨a, c, rfl⟩ := h2.sl.slice
 refine (se (h.up u2) s a c hl hlast).mono fun v3 M3 ⟨k3, ⟨es', h3, hk⟩, e3⟩ => ?_
 subst e3
 exact ⟨rfl, hQ _ _ ⟨(Ks.up u2).trans k3, es', h3, hk⟩⟩
theorem lq : ∀ {es : FEs}, (∀ k ∈ af es, k.length ≤ 1000000) → iH (be es) = some (af es)
 | [], _ => rfl
 | (k, v) :: es, h => by
  have h1 := h k (by simp [af])
  have ih := lq (es := es) fun q hq => h q (by simp only [af, List.map_cons, List.mem_cons] at hq ⊢; exact .inr hq)
  have e : be ((k, v) :: es) = (sv k, v) :: be es := rfl
  have hd : (⟨k.toArray⟩ : ByteArray).data.toList = k := rfl
  rw [e]
  show (bif Nat.ble (⟨k.toArray⟩ : ByteArray).data.toList.length 1000000 then (iH (be es)).map ((⟨k.toArray⟩ : ByteArray).data.toList :: ·) else none) = _
  rw [hd, Nat.ble_eq_true_of_le h1, cond_true, ih]
  rfl
theorem qg {c : Nat} {T : TypeId} (hc : M.get c = some (.inl ([.map (some r)], T, true))) (hr : M.get r = some (.inr (.inl (be es)))) (hlen : ∀ k ∈ af es, k.length ≤ 1000000) (hn : es.length ≤ 1000000) :
    ∃ v M', fM #[.func (.func F.a) #[] #[.pointer (some ⟨c, 0, none⟩)]] M = some (v, M') ∧ Up M M' ∧ LV sv Ty.a M' v (bS (af es)) := by
 have hk := lq hlen
 have hkn : (af es).length ≤ 1000000 := by simp [af]; exact hn
 have key : fM #[.func (.func F.a) #[] #[.pointer (some ⟨c, 0, none⟩)]] M = (match bS (af es) with
     | [] => some (.slice none 0 0, M)
     | x :: l => some (.slice (some ⟨M.n, 0, none⟩) (l.length + 1) (l.length + 1 + 2), M.push (some (.inl ((x :: l).map (fun s => Value.string ⟨s.toArray⟩), Ty.a, false)))) : Option (Value × Store)) := by
  show (match M.get c with
   | some (.inl (.map (some b) :: _, _, true)) => match M.get b with
    | some (.inr (.inl es)) => match iH es with
     | some ks => bif Nat.ble ks.length 1000000 then match bS ks with
      | [] => some (.slice none 0 0, M)
      | x :: r => some (.slice (some ⟨M.n, 0, none⟩) (r.length + 1) (r.length + 1 + 2), M.push (some (.inl ((x :: r).map (fun s => .string ⟨s.toArray⟩), Ty.a, false))))
      else none
     | none => none
    | _ => none
   | _ => none : Option (Value × Store)) = _
  simp only [hc, hr, hk, Nat.ble_eq_true_of_le hkn, cond_true]
 rw [key]
 cases hs : bS (af es) with
 | nil => exact ⟨_, _, rfl, Ch.refl _ _, Sl.nil _ _ _⟩
 | cons x l =>
  exact ⟨_, _, rfl, Up.push _ _, by simp, some ⟨M.n, 0, none⟩, _, rfl, (fun _ h => by cases h; rfl), fun _ => ⟨M.n, 0, _, Ty.a, false, rfl, Store.get_push_eq _ _, (fun h => by cases h), by simp, by rw [List.drop_zero, List.take_of_length_le (by simp)]⟩⟩
def inD (d s : List UInt8) : Bool := if d = [] then !decide (0 ≤ Lib.indexByte s 47) else decide (s.take (d ++ [47]).length = d ++ [47])
def lsK (K : List (List UInt8)) (d : List UInt8) : List (List UInt8) := (bS K).filter (inD d)
theorem nI (x : List UInt8) (K : List Value → Prop) : OP (bd (.string ⟨#[]⟩) 1 1 [(0, sv x)]) K = K [sv x] := by kernel_rfl
theorem qu {M : Store} {s p : List UInt8} {Q : Value → Store → Prop} (hQ : Q (tv (decide (s.take p.length = p))) M) : R F.t #[sv s, sv p] M Q := by
 apply iW
 unfold ex
 apply bP
 unfold bb
 rw [aY, aY, m9, ag]
 split
 ·rename_i h
  rw [aY, lC h, fE]
  exact ⟨rfl, rfl, hQ⟩
 ·rename_i h
  rw [decide_eq_false (fun e => h (by have := congrArg List.length e; rw [List.length_take] at this; omega))] at hQ
  exact ⟨rfl, rfl, hQ⟩
theorem th {M : Store} {r : Nat} {Q : Value → Store → Prop} (hQ : ∀ M1, Up M M1 → M1.get M.n = some (.inl ([.map (some r)], Ty.c, true)) → Q (.func (.func F.a) #[] #[.pointer (some ⟨M.n, 0, none⟩)]) M1) : R F.c #[.map (some r)] M Q := by
 apply bM
 unfold aN
 have e1 : gQ (.map (some r)) = some [.map (some r)] := by kernel_rfl
 rw [e1, ae]
 refine jN fun M1 u1 o1 n1 => ?_
 have e2 : mkF (.func F.a) [] [.pointer (some ⟨M.n, 0, none⟩)] = some (.func (.func F.a) #[] #[.pointer (some ⟨M.n, 0, none⟩)]) := by kernel_rfl
 rw [e2, ae]
 exact ⟨rfl, hQ M1 u1 o1⟩
theorem dm (h : SW M bf r last es) (hlen : ∀ k ∈ af es, k.length ≤ 1000) (hn : es.length ≤ 1000) {d : List UInt8} (hd : d.length ≤ 100) : R F.g #[pB bf, sv d] M fun v M' => Up M M' ∧ NV sv Ty.a M M' v (lsK (af es) d) := by
 refine R.cps fun Q hQ => ?_
 apply lH
 unfold gZ
 simp only [bR, dR, (fs6 h.ob).2.2.2]
 refine th fun M1 u1 hc => ?_
 obtain ⟨v, M2, e, u2, hv⟩ := qg hc (u1.get h.mp) (fun k hk => by have := hlen k hk; omega) (by omega)
 refine gV (g := fM) (by kernel_rfl) e ?_
 have hKl : (bS (af es)).length ≤ 1000 := by
  have := (aG (af es)).length_eq
  simp [af] at this ⊢
  omega
 have hsl : ∀ s ∈ bS (af es), s.length ≤ 1000 := fun s hs => hlen s ((aG _).mem_iff.1 hs)
 unfold lsK at hQ
 generalize bS (af es) = L at *
 rw [LV.len hv, ae]
 have u02 := u1.trans u2
 have loop : ∀ (q i : Nat) (x5 : Value) (M' : Store), q + i = L.length → Up M2 M' → NV sv Ty.a M2 M' x5 ((L.take i).filter (inD d)) → ai (sv d) x5 v (iv (L.length : Int)) (iv (i : Int)) M' Q := by
  intro q
  induction q with
  | zero =>
   intro i x5 M' hi hu2 hN
   apply fY
   unfold dN
   rw [bm, ag, if_neg (by omega)]
   apply km
   unfold fU
   rw [List.take_of_length_le (by omega)] at hN
   obtain ⟨a, c, rfl⟩ := hN.lv.slice
   exact ⟨rfl, hQ _ _ ⟨u02.trans hu2, Nw.base hN u02.n⟩⟩
  | succ q ih =>
   intro i x5 M' hi hu2 hN
   have hil : i < L.length := by omega
   have hfl : ((L.take i).filter (inD d)).length ≤ i := by
    have := List.length_filter_le (inD d) (L.take i)
    rw [List.length_take] at this
    omega
   have htk := List.take_succ_eq_append_getElem hil
   apply fY
   unfold dN
   rw [bm, ag, if_pos hil]
   apply kk
   unfold fT
   obtain ⟨p, e1, e2⟩ := (LV.up hv hu2).at hil .i64
   have hL := hsl L[i] (List.getElem_mem hil)
   rw [e1, ae, e2, ae]
   have skip : inD d L[i] = false → OP (ab .add (iv (i : Int)) (.int .i64 1)) fun t40 => ai (sv d) x5 v (iv (L.length : Int)) t40 M' Q := by
    intro hb
    rw [aP _ (by omega)]
    refine ih (i + 1) x5 M' (by omega) hu2 ?_
    rw [htk, List.filter_append, List.filter_cons_of_neg (by rw [hb]; decide), List.filter_nil, List.append_nil]
    exact hN
   have put : inD d L[i] = true → OP (bd (.string ⟨#[]⟩) 1 1 [(0, sv L[i])]) fun c => LT (.slice (some ⟨M'.n, 0, none⟩) 1 1) (M'.push (some (.inl (c, Ty.a, true)))) fun t38 M2 => OP2 (appV 1 Ty.a x5 t38 M2) fun t39 M3 => OP (ab .add (iv (i : Int)) (.int .i64 1)) fun t40 => ai (sv d) t39 v (iv (L.length : Int)) t40 M3 Q := by
    intro hb
    rw [nI, jG]
    refine NV.app1 (M0 := M2) (Mb := M2) hu2 (Nat.le_refl _) hu2.n hN L[i] rfl (by omega) fun w M3 hu3 hN3 _ _ => ?_
    rw [aP _ (by omega)]
    refine ih (i + 1) w M3 (by omega) hu3 ?_
    rw [htk, List.filter_append, List.filter_cons_of_pos hb, List.filter_nil]
    exact hN3
   show OP (al .eql (sv d) (sv [])) _
   rw [fE, ag]
   split
   ·rename_i hd0
    apply jb
    unfold eU
    refine mi (c := 47) ?_
    show OP (ab .geq (.int .i64 _) (.int .i64 0)) _
    rw [iA]
    refine ⟨rfl, ?_⟩
    have hin : inD d L[i] = !decide (0 ≤ Lib.indexByte L[i] 47) := by unfold inD; rw [if_pos hd0]
    show OP (aun .not (.bool (decide (0 ≤ Lib.indexByte L[i] 47)))) _
    rw [bE, bl]
    split
    ·rename_i hb
     exact put (by rw [hin]; exact hb)
    ·rename_i hb
     show OP (al .neq (sv d) (sv [])) _
     rw [jP, decide_eq_false (by simpa using hd0), sf]
     exact skip (by rw [hin]; simpa using hb)
   ·rename_i hd0
    have hin : inD d L[i] = decide (L[i].take (d ++ [47]).length = d ++ [47]) := by unfold inD; rw [if_neg hd0]
    show OP (al .neq (sv d) (sv [])) _
    rw [jP, decide_eq_true hd0, uw]
    show OP (al .add (sv d) (sv [47])) _
    rw [bT _ _ (by simp; omega)]
    refine qu ?_
    show BR (tv (decide (L[i].take (d ++ [47]).length = d ++ [47]))) _ _
    rw [← hin, bl]
    split
    ·rename_i hb
     exact put hb
    ·rename_i hb
     exact skip (by simpa using hb)
 exact loop L.length 0 _ M2 rfl (Ch.refl _ _) NV.nil
end
end Go.G
