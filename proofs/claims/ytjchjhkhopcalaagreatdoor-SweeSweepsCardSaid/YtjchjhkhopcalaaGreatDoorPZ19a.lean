/- Layer 9 for layer 19: files of one byte each, as the list of their names. -/
import Derived.Test.YtjchjhkhopcalaaGreatDoorPGI
import Derived.Test.YtjchjhkhopcalaaGreatDoorPW4
import Derived.Test.YtjchjhkhopcalaaGreatDoorPAbStep
namespace Go.G
open Go.Ab Go.Proofs Go.RowKit
set_option linter.unusedVariables false
set_option linter.unusedSimpArgs false
set_option maxRecDepth 100000
abbrev pB (b : Nat) : Value := .pointer (some ⟨b, 0, none⟩)
theorem bR (b : Nat) (K : Value → Prop) : OP (aW (pB b)) K = K (pB b) := rfl
abbrev FEs := List (List UInt8 × Value)
def af (es : FEs) : List (List UInt8) := es.map (·.1)
def be (es : FEs) : List (Value × Value) := es.map fun p => (sv p.1, p.2)
def fV (v : Value) : Prop := ∃ (a : Option Addr) (c : Nat) (z : Int), v = .agg #[.slice a 1 c, iv z]
structure SW (M : Store) (bf r last : Nat) (es : FEs) : Prop where
 b3 : 3 ≤ bf
 r3 : 3 ≤ r
 ob : Ob M bf [iv ((1048576 : Nat) : Int), iv (es.length : Int), iv (last : Int), tv false, iv 0, .map (some r)] Ty.e
 mp : M.get r = some (.inr (.inl (be es)))
 vs : ∀ p ∈ es, fV p.2
 nd : (af es).Nodup
theorem SW.up {M M' : Store} {bf r last : Nat} {es : FEs} (h : SW M bf r last es) (k : Up M M') : SW M' bf r last es := ⟨h.b3, h.r3, Ob.up h.ob k, k.get h.mp, h.vs, h.nd⟩
theorem SW.ne {M : Store} {bf r last : Nat} {es : FEs} (h : SW M bf r last es) : bf ≠ r := by
 intro e
 subst e
 have h1 : M.get bf = some (.inl (_, Ty.e, true)) := h.ob
 rw [h.mp] at h1
 injection h1 with h1
 cases h1
theorem SW.map {M : Store} {bf r last : Nat} {es : FEs} (h : SW M bf r last es) : Mp sv M r fun k => fnd k es := ⟨es, h.mp, fun _ => rfl⟩
theorem SW.kp {M M' : Store} {bf r last : Nat} {es : FEs} (h : SW M bf r last es) {e : TypeId} (he : Ty.e ≠ e) (k : Keep e M M') : SW M' bf r last es := ⟨h.b3, h.r3, Ob.keep h.ob he k, k.2 _ _ h.mp (fun _ e => by cases e), h.vs, h.nd⟩
theorem kD {k : List UInt8} : ∀ {es : FEs}, k ∉ af es → fnd k es = none
 | [], _ => rfl
 | (q, v) :: r, h => by
  unfold fnd
  rw [if_neg (fun e => h (by simp [af, e])), kD (es := r) (fun hm => h (by simp only [af, List.map_cons, List.mem_cons] at hm ⊢; exact .inr hm))]
theorem iE {k : List UInt8} : ∀ {es : FEs}, k ∈ af es → (∀ p ∈ es, fV p.2) → ∃ v, fnd k es = some v ∧ fV v
 | [], h, _ => by cases h
 | (q, v) :: r, h, hv => by
  unfold fnd
  by_cases e : k = q
  ·rw [if_pos e]; exact ⟨v, rfl, hv (q, v) (by simp)⟩
  ·rw [if_neg e]
   refine iE (es := r) ?_ fun p hp => hv p (by simp [hp])
   simp only [af, List.map_cons, List.mem_cons] at h
   rcases h with h | h
   ·exact absurd h e
   ·exact h
abbrev zF : Value := .agg #[(.slice none 0 0), (.int .i64 0)]
theorem qa (a : Option Addr) (n c : Nat) (y : Value) (K : Value → Prop) : OP (prt 0 1 false (.agg #[.slice a n c, y])) K = K (.slice a n c) := by kernel_rfl
theorem kC {k : List UInt8} {es : FEs} (hv : ∀ p ∈ es, fV p.2) : ∃ a c z, (fnd k es).getD zF = .agg #[.slice a (if k ∈ af es then 1 else 0) c, iv z] := by
 by_cases h : k ∈ af es
 ·obtain ⟨v, e, a, c, z, rfl⟩ := iE h hv
  rw [e, if_pos h]
  exact ⟨a, c, z, rfl⟩
 ·rw [kD h, if_neg h]
  exact ⟨none, 0, 0, rfl⟩
theorem nA {k : List UInt8} : ∀ (es : FEs) (i j : Nat) (w : Value), aH (sv k) (be es) i = some (j, w) → i ≤ j ∧ ∃ p, es[j - i]? = some p ∧ p.1 = k
 | [], i, j, w, h => by cases h
 | (q, v) :: r, i, j, w, h => by
  simp only [be, List.map_cons, aH, di.eq] at h
  by_cases hk : k = q
  ·simp only [hk, decide_true, if_true, Option.some.injEq, Prod.mk.injEq] at h
   obtain ⟨rfl, rfl⟩ := h
   exact ⟨Nat.le_refl _, (q, v), by simp, hk.symm⟩
  ·simp only [hk, decide_false] at h
   obtain ⟨h1, p, h2, h3⟩ := nA r (i + 1) j w h
   refine ⟨by omega, p, ?_, h3⟩
   rw [show j - i = (j - (i + 1)) + 1 by omega]
   simpa using h2
theorem rq {k : List UInt8} {es : FEs} (h : k ∉ af es) : aH (sv k) (be es) 0 = none := by
 have h1 := dT di k es 0
 rw [kD h] at h1
 cases ha : aH (sv k) (es.map fun p => (sv p.1, p.2)) 0 with
 | none => exact ha
 | some x => rw [ha] at h1; cases h1
theorem mv {k : List UInt8} {es : FEs} (h : k ∈ af es) (hv : ∀ p ∈ es, fV p.2) : ∃ j w, aH (sv k) (be es) 0 = some (j, w) ∧ ∃ p, es[j]? = some p ∧ p.1 = k := by
 obtain ⟨v, e, _⟩ := iE h hv
 have h1 := dT di k es 0
 rw [e] at h1
 cases ha : aH (sv k) (es.map fun p => (sv p.1, p.2)) 0 with
 | none => rw [ha] at h1; cases h1
 | some x =>
  obtain ⟨j, w⟩ := x
  obtain ⟨_, p, h2, h3⟩ := nA es 0 j w ha
  exact ⟨j, w, ha, p, by simpa using h2, h3⟩
theorem rU {M : Store} {r : Nat} {es : FEs} (hmp : M.get r = some (.inr (.inl (be es)))) (hvs : ∀ p ∈ es, fV p.2) (k : List UInt8) {v : Value} (hv : v.cells.all (·.oneCell') = true) (hf : fV v) :
    ∃ es', mup .string (.map (some r)) (sv k) v M = some (M.set r (some (.inr (.inl (be es'))))) ∧ af es' = (if k ∈ af es then af es else af es ++ [k]) ∧ ∀ p ∈ es', fV p.2 := by
 simp only [mup, di.key, hv, Bool.not_true, Bool.false_eq_true, if_false, hmp]
 have hka : ((be es).all fun e => aV TypeDesc.string e.1) = true := f5 di es
 rw [hka]
 by_cases hm : k ∈ af es
 ·obtain ⟨j, w, ha, p, hp, hpk⟩ := mv hm hvs
  have hj := (List.getElem?_eq_some_iff.1 hp).1
  simp only [ha, Bool.not_true, Bool.false_eq_true, if_false]
  refine ⟨es.set j (k, v), ?_, ?_, fun q hq => ?_⟩
  ·simp [be, List.map_set]
  ·rw [if_pos hm]
   unfold af
   rw [List.map_set]
   apply List.ext_getElem?
   intro i
   rw [List.getElem?_set]
   split
   ·rename_i e
    subst e
    rw [if_pos (by simpa using hj), List.getElem?_map, hp]
    simp [hpk]
   ·rfl
  ·rcases List.mem_or_eq_of_mem_set hq with hq | hq
   ·exact hvs q hq
   ·rw [hq]; exact hf
 ·simp only [rq hm, Bool.not_true, Bool.false_eq_true, if_false]
  refine ⟨es ++ [(k, v)], ?_, ?_, fun q hq => ?_⟩
  ·simp [be]
  ·rw [if_neg hm]; simp [af]
  ·rcases List.mem_append.1 hq with hq | hq
   ·exact hvs q hq
   ·rw [List.mem_singleton.1 hq]; exact hf
section
variable {M : Store} {bf r last : Nat} {es : FEs}
theorem fs6 {b : Nat} {c0 c1 c2 c3 c4 c5 : Value} (o : Ob M b [c0, c1, c2, c3, c4, c5] Ty.e) : (∀ K : Value → Prop, OP (ld 1 false (.pointer (some ⟨b, 0, none⟩)) M) K = K c0) ∧ (∀ K : Value → Prop, OP (ld 1 false (.pointer (some ⟨b, 1, none⟩)) M) K = K c1) ∧ (∀ K : Value → Prop, OP (ld 1 false (.pointer (some ⟨b, 2, none⟩)) M) K = K c2) ∧ (∀ K : Value → Prop, OP (ld 1 false (.pointer (some ⟨b, 5, none⟩)) M) K = K c5) :=
 ⟨fun K => by rw [o.ld (v := c0) rfl, ae], fun K => by rw [o.ld (v := c1) rfl, ae], fun K => by rw [o.ld (v := c2) rfl, ae], fun K => by rw [o.ld (v := c5) rfl, ae]⟩
theorem uC (r : Nat) : jo #[(.int .i64 0), (.int .i64 0), (.int .i64 0), (.bool false), (.int .i64 0), (.map none)] [(0, 1), (1, 1), (2, 1), (3, 1), (4, 1), (5, 1)] [(5, .map (some r))] = some (.agg #[iv 0, iv 0, iv 0, tv false, iv 0, .map (some r)]) := by kernel_rfl
theorem uD (r : Nat) : gQ (.agg #[iv 0, iv 0, iv 0, tv false, iv 0, .map (some r)]) = some [iv 0, iv 0, iv 0, tv false, iv 0, .map (some r)] := by kernel_rfl
theorem tF (hn : 3 ≤ M.n) : R F.Y #[iv ((1048576 : Nat) : Int)] M fun v M' => Up M M' ∧ ∃ bf r, v = pB bf ∧ SW M' bf r 0 [] := by
 refine R.cps fun Q hQ => ?_
 apply pq
 unfold kL
 rw [jG]
 have u1 := Up.push M (some (.inr (.inl [])))
 have m1 : (M.push (some (.inr (.inl [])))).get M.n = some (.inr (.inl [])) := Store.get_push_eq _ _
 generalize M.push (some (.inr (.inl []))) = M1 at *
 rw [uC, ae, uD, ae]
 refine jN fun M2 u2 o2 _ => ?_
 apply lI
 unfold g4
 show OP (dD (.int .i64 ((1048576 : Nat) : Int)) (.int .i64 0)) _
 have e1 : dD (.int .i64 ((1048576 : Nat) : Int)) (.int .i64 0) = some (.int .i64 (if (0 : Int) > ((1048576 : Nat) : Int) then 0 else ((1048576 : Nat) : Int))) := rfl
 rw [e1, ae, if_neg (by omega)]
 show OP (dE (.int .i64 ((1048576 : Nat) : Int)) (.int .i64 1073741824)) _
 rw [iB, if_neg (by omega), bR, dR]
 refine gF (i := 0) (w := iv ((1048576 : Nat) : Int)) o2 (by simp) rfl rfl fun M3 c3 o3 _ => ?_
 have hu1 := u1.n
 have hlt := M1.lt_of_get m1
 have u23 : Up M M3 := (u1.trans u2).ch c3 (by simpa using hu1)
 have m3 : M3.get M.n = some (.inr (.inl [])) := c3.at (u2.get m1) (by simp; omega)
 exact ⟨rfl, rfl, hQ _ _ ⟨u23, M1.n, M.n, rfl, by omega, hn, o3, m3, (fun p hp => by cases hp), List.nodup_nil⟩⟩
theorem qe (h : SW M bf r last es) (s : List UInt8) (hn : es.length ≤ 1000) : R F.M #[pB bf, sv s, iv ((1 : Nat) : Int)] M fun v M' => M' = M ∧ v = tv true := by
 apply lJ
 unfold g5
 have o := h.ob
 simp only [bR, dR, (fs6 o).2.2.2, (fs6 o).1, (fs6 o).2.1]
 obtain ⟨a, c, z, e⟩ := kC (k := s) h.vs
 rw [h.map.look1 di, ae, e, qa, hF]
 by_cases hm : s ∈ af es
 ·rw [if_pos hm]
  show OP (ab .sub (iv ((1 : Nat) : Int)) (iv ((1 : Nat) : Int))) _
  rw [jO 1 1 (by omega) (by omega)]
  show OP (ab .leq (iv ((0 : Nat) : Int)) (iv ((0 : Nat) : Int))) _
  rw [lr, ag, if_pos (by omega)]
  exact ⟨rfl, trivial, trivial⟩
 ·rw [if_neg hm]
  show OP (ab .sub (iv ((1 : Nat) : Int)) (iv ((0 : Nat) : Int))) _
  rw [jO 1 0 (by omega) (by omega)]
  show OP (ab .leq (iv ((1 : Nat) : Int)) (iv ((0 : Nat) : Int))) _
  rw [lr, ag, if_neg (by omega)]
  show OP (ab .add (iv (es.length : Int)) (iv ((1 : Nat) : Int))) _
  rw [gl _ _ (by omega), lr, decide_eq_true (by omega)]
  exact ⟨rfl, trivial, rfl⟩
theorem s4 (a : Option Addr) (n c : Nat) (z : Int) : jo #[(.slice none 0 0), (.int .i64 0)] [(0, 1), (1, 1)] [(0, .slice a n c), (1, iv z)] = some (.agg #[.slice a n c, iv z]) := by kernel_rfl
theorem rR (a : Option Addr) (n c : Nat) (z : Int) : (Value.agg #[.slice a n c, iv z]).cells.all (·.oneCell') = true := by kernel_rfl
theorem Tb.chS {M M' : Store} (h : Tb M) {S : List Nat} (c : Ch S M M') (hs : ∀ b ∈ S, 3 ≤ b) : Tb M' := by
 have key : ∀ i, i < 3 → i < M.n → M'.get i = M.get i := fun i hi hm => c.get i hm fun hS => by have := hs i hS; omega
 exact ⟨by rw [key 2 (by omega) (n0 h.pow)]; exact h.pow, by rw [key 0 (by omega) (iF h.e0)]; exact h.e0, by rw [key 1 (by omega) (iF h.e1)]; exact h.e1⟩
structure Ks (M M' : Store) : Prop where
 n : M.n ≤ M'.n
 s : ∀ v (xs : List (List UInt8)), LV sv Ty.a M v xs → LV sv Ty.a M' v xs
 i : ∀ v (xs : List Int), LV iv Ty.f M v xs → LV iv Ty.f M' v xs
 o : ∀ b c, Ob M b c Ty.b → Ob M' b c Ty.b
 t : Tb M → Tb M'
theorem Ks.trans {M M1 M2 : Store} (h : Ks M M1) (k : Ks M1 M2) : Ks M M2 := ⟨Nat.le_trans h.n k.n, fun v xs a => k.s v xs (h.s v xs a), fun v xs a => k.i v xs (h.i v xs a), fun b c a => k.o b c (h.o b c a), fun a => k.t (h.t a)⟩
theorem Ks.up {M M' : Store} (k : Up M M') : Ks M M' := ⟨k.n, fun v xs a => Sl.up a k, fun v xs a => Sl.up a k, fun b c a => Ob.up a k, fun a => a.up k⟩
theorem Ks.keep {M M' : Store} {b : Nat} {cells : List Value} (c : Ch [b] M M') (o : Ob M b cells Ty.e) (hb : 3 ≤ b) : Ks M M' := by
 have k := c.keepT o
 exact ⟨c.n, fun v xs a => Sl.keep a (by decide) k, fun v xs a => Sl.keep a (by decide) k, fun b' c' a => Ob.keep a (by decide) k, fun a => a.chS c (by simp; omega)⟩
theorem Ks.keepI {M M' : Store} {b : Nat} (c : Ch [b] M M') (k : KeepI M M') (hb : 3 ≤ b) : Ks M M' :=
 ⟨c.n, fun v xs a => Sl.keepI a k, fun v xs a => Sl.keepI a k, fun b' c' a => k.2 _ _ a, fun a => a.chS c (by simp; omega)⟩
end
end Go.G
