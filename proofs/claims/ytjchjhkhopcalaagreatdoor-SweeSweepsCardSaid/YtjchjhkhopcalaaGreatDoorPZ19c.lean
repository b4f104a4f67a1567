/- Layer 9 for layer 19: a file is dropped. -/
import Derived.Test.YtjchjhkhopcalaaGreatDoorPZ19b
namespace Go.G
open Go.Ab Go.Proofs Go.RowKit
set_option linter.unusedVariables false
set_option linter.unusedSimpArgs false
set_option maxRecDepth 100000
section
variable {M : Store} {bf r last : Nat} {es : FEs}
theorem uP : Tryz.prog.underlying Ty.c = some (.map Ty.a Ty.m) := by kernel_rfl
theorem og {α β : Type} (f : α → β) : ∀ (l : List α) (j : Nat), (l.map f).eraseIdx j = (l.eraseIdx j).map f
 | [], _ => rfl
 | x :: l, 0 => rfl
 | x :: l, j + 1 => by
  show f x :: (l.map f).eraseIdx j = f x :: (l.eraseIdx j).map f
  rw [og f l j]
theorem sz : ∀ (K : List (List UInt8)) (j : Nat) (s : List UInt8), K.Nodup → K[j]? = some s → K.erase s = K.eraseIdx j
 | [], j, s, _, h => by simp at h
 | x :: K, 0, s, _, h => by
  have h : x = s := by simpa using h
  subst h
  simp
 | x :: K, j + 1, s, hn, h => by
  have h : K[j]? = some s := by simpa using h
  obtain ⟨h1, h2⟩ := List.nodup_cons.1 hn
  have hne : x ≠ s := fun e => h1 (e ▸ List.mem_of_getElem? h)
  rw [List.erase_cons_tail (by simpa using hne), sz K j s h2 h]
  rfl
theorem s9 (hmp : M.get r = some (.inr (.inl (be es)))) (hvs : ∀ p ∈ es, fV p.2) (hnd : (af es).Nodup) {s : List UInt8} (hs : s ∈ af es) :
    ∃ es', aD Tryz.prog .delete #[Ty.c, Ty.a] #[.map (some r), sv s] M = some (.tuple #[], M.set r (some (.inr (.inl (be es'))))) ∧ af es' = (af es).erase s ∧ es'.length + 1 = es.length ∧ ∀ p ∈ es', fV p.2 := by
 obtain ⟨j, w, ha, p, hp, hpk⟩ := mv hs hvs
 have hj := (List.getElem?_eq_some_iff.1 hp).1
 refine ⟨es.eraseIdx j, ?_, ?_, ?_, fun q hq => hvs q (List.mem_of_mem_eraseIdx hq)⟩
 ·have hka : ((be es).all fun e => aV TypeDesc.string e.1) = true := f5 di es
  have e1 : eB Tryz.prog Ty.c (.map (some r)) (sv s) M = some (M.set r (some (.inr (.inl (be (es.eraseIdx j)))))) := by
   unfold eB
   rw [uP]
   simp only [U.f, Option.bind_some, di.key, Bool.not_true, Bool.false_eq_true, if_false, hmp, hka, ha]
   simp only [be, og]
  show (eB Tryz.prog Ty.c (.map (some r)) (sv s) M).bind _ = _
  rw [e1]; rfl
 ·have h1 : af (es.eraseIdx j) = (af es).eraseIdx j := by unfold af; rw [og]
  have h2 : (af es)[j]? = some s := by unfold af; rw [List.getElem?_map, hp]; simp [hpk]
  rw [h1, sz _ j s hnd h2]
 ·rw [List.length_eraseIdx, if_pos hj]; omega
theorem qS {Q : Value → Store → Prop} (hQ : ∀ M', Up M M' → Q (tv true) M') : R F.D #[pB bf, .slice none 0 0] M Q := by
 apply kn
 unfold fW
 have e1 : gQ (pB bf) = some [pB bf] := by kernel_rfl
 rw [e1, ae]
 refine jN fun M1 u1 o1 n1 => ?_
 have e2 : mkF (.func F.y) [] [.pointer (some ⟨M.n, 0, none⟩)] = some (.func (.func F.y) #[] #[.pointer (some ⟨M.n, 0, none⟩)]) := by kernel_rfl
 rw [e2, ae]
 apply cj
 unfold aZ
 apply cH
 unfold bg
 rw [hF]
 apply cz
 unfold a8
 show OP (ab .lss (iv ((0 : Nat) : Int)) (iv ((0 : Nat) : Int))) _
 rw [bm, ag, if_neg (by omega)]
 apply cA
 unfold ba
 refine ⟨rfl, ?_⟩
 show OP (ab .geq (.int .i64 (-1)) (.int .i64 0)) _
 rw [iA, decide_eq_false (by decide)]
 refine ⟨rfl, ?_⟩
 show OP (aun .not (.bool false)) _
 rw [bE]
 exact ⟨rfl, hQ M1 u1⟩
theorem sc (h : SW M bf r last es) {s : List UInt8} (hs : s ∈ af es) {Q : Value → Store → Prop} (hQ : ∀ M', Up M M' → Q (tv true) M') : R F.H #[pB bf, sv s] M Q := by
 apply kP
 unfold gd
 simp only [bR, dR, (fs6 h.ob).2.2.2]
 obtain ⟨v, e, a, c, z, rfl⟩ := iE hs h.vs
 rw [h.map.look di, ae, (tp2 _ _).1, (tp2 _ _).2, e]
 refine jN fun M1 u1 o1 n1 => ?_
 refine uV (vs := [.slice a 1 c, iv z]) o1 rfl rfl rfl fun M2 c2 o2 _ => ?_
 exact ⟨rfl, hQ M2 (u1.ch c2 (by simp))⟩
theorem td (h : SW M bf r last es) {s : List UInt8} (hs : s ∈ af es) (hn : es.length ≤ 1000) : R F.N #[pB bf, sv s] M fun v M' => Ks M M' ∧ ∃ es', SW M' bf r last es' ∧ af es' = (af es).erase s := by
 refine R.cps fun Q hQ => ?_
 have o := h.ob
 apply lK
 unfold g6
 simp only [bR, dR, (fs6 o).2.1, (fs6 o).2.2.2]
 obtain ⟨a, c, z, e⟩ := kC (k := s) h.vs
 rw [if_pos hs] at e
 have hpos : 1 ≤ es.length := by
  have := List.length_pos_of_mem hs
  simp [af] at this
  omega
 rw [h.map.look1 di, ae, e, qa, hF]
 show OP (ab .sub (iv (es.length : Int)) (iv ((1 : Nat) : Int))) _
 rw [jO _ 1 hpos (by omega)]
 refine gF (i := 1) (w := iv ((es.length - 1 : Nat) : Int)) o (by simp) rfl rfl fun M1 c1 o1 _ => ⟨c1.tdx o (by simpa using o.lt), ?_⟩
 have o1 : Ob M1 bf [iv ((1048576 : Nat) : Int), iv ((es.length - 1 : Nat) : Int), iv (last : Int), tv false, iv 0, .map (some r)] Ty.e := o1
 have k1 := c1.keepT o
 have s1 := Ks.keep c1 o h.b3
 have m1 : M1.get r = some (.inr (.inl (be es))) := k1.2 _ _ h.mp (fun _ e => by cases e)
 simp only [bR, dR, (fs6 o1).2.2.2]
 obtain ⟨es', e2, hk, hl', hv'⟩ := s9 m1 h.vs h.nd hs
 rw [e2, ie]
 have c3 := Ch.set m1 (some (.inr (.inl (be es'))))
 have k3 := KeepI.setR m1 (some (.inr (.inl (be es'))))
 have m3 := Store.get_set_eq M1 (some (.inr (.inl (be es')))) m1
 generalize M1.set r (some (.inr (.inl (be es')))) = M3 at *
 have o3 := o1.fr c3 (by simpa using h.ne)
 refine ⟨rfl, hQ _ _ ⟨s1.trans (Ks.keepI c3 k3 h.r3), es', ⟨h.b3, h.r3, ?_, m3, hv', by rw [hk]; exact h.nd.erase _⟩, hk⟩⟩
 rw [show es'.length = es.length - 1 by omega]; exact o3
theorem sP (h : SW M bf r last es) {s : List UInt8} (hs : s ∈ af es) (hf : eG s = true) (hsl : s.length ≤ 2 ^ 40) (hn : es.length ≤ 1000) : R F.L #[pB bf, sv s, .slice none 0 0] M fun v M' => Ks M M' ∧ ∃ es', SW M' bf r last es' ∧ af es' = (af es).erase s := by
 refine R.cps fun Q hQ => ?_
 apply lG
 unfold gY
 refine oV hsl ?_
 rw [hf, bE, bl, if_neg (by decide)]
 refine qS fun M1 u1 => ?_
 rw [bE, bl, if_neg (by decide)]
 refine sc (h.up u1) hs fun M2 u2 => ?_
 rw [bE, bl, if_neg (by decide)]
 refine (td ((h.up u1).up u2) hs hn).mono fun v M3 ⟨k3, es', h3, hk⟩ => ?_
 exact ⟨rfl, hQ _ _ ⟨((Ks.up u1).trans (Ks.up u2)).trans k3, es', h3, hk⟩⟩
end
end Go.G
