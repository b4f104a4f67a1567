/- GrphReach as a whole. -/
import Derived.Test.YtnonfejhkbaikaaPL8r
namespace Go.G
open Go.Ab Go.Proofs Go.RowKit
set_option linter.unusedVariables false
set_option linter.unusedSimpArgs false
set_option maxRecDepth 100000

theorem Reach_c1_r {M : Store} {b : Nat} {es : Nat → List Int} (h : AR M b es) {z : Int} (h0 : 0 ≤ z) (h1 : z < 16) : R F.fettlelaw8_GrphReach_c1 #[iv z, pp b] M fun v M' => M' = M ∧ ∃ w, v = w ∧ ld 1 false (.pointer (some ⟨b, z.toNat, none⟩)) M = some w ∧ LV iv Ty.int M' v (es z.toNat) := by
  apply T_fettlelaw8_GrphReach_c1
  unfold S_fettlelaw8_GrphReach_c1
  obtain ⟨w, g1, g2⟩ := h.at (k := z.toNat) (by omega)
  have hz : iv z = .int .i64 ((z.toNat : Nat) : Int) := by congr 1; omega
  rw [hz, ixP_at (by omega) .i64, OP_some]
  refine OP_iff.2 ⟨w, g1, nts_of g2, rfl, w, rfl, g1, g2⟩
/-- The mark of the loop's deferred calls. -/
abbrev Mk (M : Store) (r : Nat) : Prop := M.get r = some (.inr (.inr none))
section
variable {M0 : Store} {b7 b5 : Nat} {es : Nat → List Int} {L : List Int} {lv : Nat} {Q : Value → Store → Prop}
/-- What stands in the boxes that were there before. -/
structure RB (Mb : Store) (b7 b5 lv : Nat) (es : Nat → List Int) (b2 b3 : Nat) (w : Value) (fr : List Int) (x8 : Value) (L : List Int) : Prop where
  ar : AR Mb b7 es
  o5 : Ob Mb b5 [nv lv] Ty.int
  o2 : Ob Mb b2 [w] Ty.sl_int
  wf : LV iv Ty.int Mb w fr
  o3 : Ob Mb b3 [.func (.func F.fettlelaw8_GrphReach_c1) #[] #[pp b7]] Ty.func_int_sl_int
  h8 : LV iv Ty.int Mb x8 L
  el : ∀ k, (es k).length ≤ 40
  L16 : ∀ z ∈ L, 0 ≤ z ∧ z < 16
  Ll : L.length ≤ 16
  lv : lv ≤ 15
  fr20 : fr.length ≤ 2 ^ 20
  bf : ∃ n, bfsN (fun z => es z.toNat) n 0 (unl fr) = some L
theorem RB.A {Mb : Store} {b2 b3 : Nat} {w x8 : Value} {fr : List Int} (h : RB Mb b7 b5 lv es b2 b3 w fr x8 L) {M : Store} (u : Up Mb M) : ∀ x ∈ L, KC (.func (.func F.fettlelaw8_GrphReach_c1) #[] #[pp b7]) [iv x] M fun v M' => Up M M' ∧ LV iv Ty.int M' v (es x.toNat) ∧ (es x.toNat ≠ [] → ∀ q, bx v = some q → q < Mb.n ∨ M.n ≤ q) := by
  intro x hx
  have hz := h.L16 x hx
  show R F.fettlelaw8_GrphReach_c1 #[iv x, pp b7] M _
  refine (Reach_c1_r (h.ar.up u) hz.1 hz.2).mono fun v M' ⟨e, w, ew, g1, g2⟩ => ?_
  subst e
  refine ⟨Ch.refl _ _, g2, fun hne q hq => .inl ?_⟩
  obtain ⟨w0, k1, k2⟩ := h.ar.at (k := x.toNat) (by omega)
  have : v = w0 := by
    obtain ⟨vs, a1, a2, a3⟩ := h.ar
    have l0 := a1.ld (o := x.toNat) (v := vs[x.toNat]'(by omega)) (by rw [List.getElem?_eq_getElem (by omega)])
    have l1 := (a1.up u).ld (o := x.toNat) (v := vs[x.toNat]'(by omega)) (by rw [List.getElem?_eq_getElem (by omega)])
    rw [l0] at k1; rw [l1] at g1
    injection k1 with k1; injection g1 with g1
    rw [ew, ← g1, k1]
  subst this
  exact LV.box k2 hne hq
/-- The end: what was gathered is what was found. -/
theorem gr_15 (hQ : ∀ M, Q (tv true) M) {M : Store} {x8 : Value} {b17 b18 r1 r2 : Nat} {x17 x18 : Value} (o5 : Ob M b5 [nv lv] Ty.int) (h8 : LV iv Ty.int M x8 L) (o17 : Ob M b17 [x17] Ty.sl_int) (h17 : LV iv Ty.int M x17 (L.take lv)) (o18 : Ob M b18 [x18] Ty.sl_int) (h18 : LV iv Ty.int M x18 L)
    (hL : L.length ≤ 16) (k1 : Mk M r1) (k2 : Mk M r2) (hr : r1 ≠ r2) : P_fettlelaw8_GrphReach_15 [{ target := .collected r2, args := #[] }, { target := .collected r1, args := #[] }] (pp b5) x8 (pp b17) (pp b18) M Q := by
  apply T_fettlelaw8_GrphReach_15
  unfold S_fettlelaw8_GrphReach_15
  rw [o18.ld (v := x18) rfl, OP_some]
  refine (SameInts_ok h18 h8 (by omega)).mono fun v M1 ⟨e1, e2⟩ => ?_
  subst e1; subst e2
  refine ⟨(show Up M1 M1 from Ch.refl _ _).tdx _ _ _, ?_⟩
  rw [BR_bool, if_pos (by simp), o17.ld (v := x17) rfl, OP_some, o5.ld (v := nv lv) rfl, OP_some, h8.len, OP_some]
  have hmin : ∀ K : Value → Prop, OP (amin2 (nv lv) (.int .i64 (L.length : Int))) K = K (nv (min lv L.length)) := fun K => by
    show OP (amin2 (.int .i64 (lv : Int)) (.int .i64 (L.length : Int))) K = _
    rw [e_min]
    congr 1
    show Value.int .i64 _ = Value.int .i64 _
    congr 1
    split <;> omega
  rw [hmin]
  obtain ⟨w, e3, e4⟩ := h8.cut (lo := none) (hi := some (nv (min lv L.length))) (a := 0) (r := min lv L.length) (ab_some (by omega) .i64) ab_none (by omega) (Nat.zero_le _)
  rw [e3, OP_some]
  have e4 : LV iv Ty.int M1 w (L.take lv) := by
    have : ((L.take (min lv L.length)).drop 0) = L.take lv := by
      rw [List.drop_zero]
      by_cases h : lv ≤ L.length
      · rw [Nat.min_eq_left h]
      · rw [Nat.min_eq_right (by omega), List.take_of_length_le (Nat.le_refl _), List.take_of_length_le (by omega)]
    rw [this] at e4; exact e4
  refine (SameInts_ok h17 e4 (by rw [List.length_take]; omega)).mono fun v M2 ⟨e1, e2⟩ => ?_
  subst e1; subst e2
  refine ⟨(show Up M2 M2 from Ch.refl _ _).tdx _ _ _, ?_⟩
  rw [BR_bool, if_pos (by simp)]
  refine (awake8_ok M2).mono fun v M3 ⟨e1, e2⟩ => ?_
  subst e1; subst e2
  refine ⟨(show Up M3 M3 from Ch.refl _ _).tdx _ _ _, ?_⟩
  unfold atake
  simp only
  rw [k2]
  simp only
  unfold atake
  simp only
  have k1' : (M3.set r2 none).get r1 = some (.inr (.inr none)) := by rw [Store.get_set_ne _ _ (fun e => hr e.symm)]; exact k1
  rw [k1']
  simp only
  unfold atake
  rw [OP_some]
  exact ⟨rfl, hQ _⟩
theorem gr_13 (hQ : ∀ M, Q (tv true) M) {Mb M : Store} {b2 b3 b17 b18 r1 : Nat} {w x8 x17 : Value} {fr : List Int} (c : RB Mb b7 b5 lv es b2 b3 w fr x8 L) (u : Up Mb M) (o17 : Ob M b17 [x17] Ty.sl_int) (h17 : LV iv Ty.int M x17 (L.take lv)) (hx : ∀ q, bx x17 = some q → q < M.n) (o18 : Ob M b18 [.slice none 0 0] Ty.sl_int) (k1 : Mk M r1)
    (h17b : Mb.n ≤ b17) (h18b : Mb.n ≤ b18) (hr1 : Mb.n ≤ r1) (hne : b18 ≠ b17 ∧ (∀ q, bx x17 = some q → q ≠ b18 ∧ Mb.n ≤ q)) :
    P_fettlelaw8_GrphReach_13 [{ target := .collected r1, args := #[] }] (pp b5) x8 (pp b17) (pp b18) (.func (.func F.grph_Reach_int_c1) #[] #[pp b2, pp b3]) M Q := by
  apply T_fettlelaw8_GrphReach_13
  unfold S_fettlelaw8_GrphReach_13
  intro rc hrc
  have hr1n : r1 < M.n := M.lt_of_get k1
  show R F.grph_Reach_int_c1 #[.func (.yield (M.n + 1)) #[] #[], pp b2, pp b3] _ _
  obtain ⟨n, hbf⟩ := c.bf
  have u1 := Up.push M (some (.inr (.inr none)))
  have u2 := Up.push (M.push (some (.inr (.inr none)))) (some (.inr (.inr (some rc))))
  have hu : Up M _ := u1.trans u2
  have hrg : Rc ((M.push (some (.inr (.inr none)))).push (some (.inr (.inr (some rc))))) (M.n + 1) rc := by
    have := Store.get_push_eq (M.push (some (.inr (.inr none)))) (some (.inr (.inr (some rc))))
    exact this
  have hk2 : Mk ((M.push (some (.inr (.inr none)))).push (some (.inr (.inr (some rc))))) M.n := u2.get (Store.get_push_eq M (some (.inr (.inr none))))
  generalize hN : (M.push (some (.inr (.inr none)))).push (some (.inr (.inr (some rc)))) = N at *
  have hNn : N.n = M.n + 2 := by rw [← hN]; simp
  -- what has to stay
  let T : List Nat := r1 :: M.n :: b17 :: (bx x17).toList
  let F0 : Store → Prop := fun M' => Mk M' r1 ∧ Mk M' M.n ∧ Ob M' b17 [x17] Ty.sl_int ∧ LV iv Ty.int M' x17 (L.take lv)
  have hF : Stays T F0 := by
    rintro M1 M2 U ⟨f1, f2, f3, f4⟩ cc hU
    have hn : ∀ q, q ∈ T → q ∉ U := fun q hq hu => hU q hu hq
    exact ⟨cc.at f1 (hn _ (by simp [T])), cc.at f2 (hn _ (by simp [T])), f3.fr cc (hn _ (by simp [T])), f4.fr cc (fun q hq => hn _ (by simp [T, hq]))⟩
  let RCp : LRec → Prop := RC_fettlelaw8_GrphReach_13 (pp b18) .ready 0
  have hR0 : ∀ rc, RCp rc → rc.st = .ready ∧ rc.pe = 0 := fun rc ⟨f, _, e⟩ => by rw [e]; exact ⟨rfl, rfl⟩
  have hLl := c.Ll
  have hub := u.n
  refine Reach_c1_ok (base := Mb.n) (W := Up Mb) (I := fun i S M' => Ga Mb T F0 RCp (M.n + 1) b18 (L.take i) S M') (Z := fun _ _ => False) (y := .func (.yield (M.n + 1)) #[] #[]) (g := .func (.func F.fettlelaw8_GrphReach_c1) #[] #[pp b7]) (w := w) (fr := fr) (A := fun z => es z.toNat) (L := L) (n := n) (S := (M.n + 1) :: b18 :: ([] ++ T))
    ⟨fun M' h => c.o2.up h, fun M' h => c.wf.up h, fun M' h => c.o3.up h, fun M' h => c.A h, fun x _ => by have := c.el x.toNat; omega, fun M1 M2 U h cc hU => h.ch cc hU, fun i S M' h => h.ib, fun i S M1 M2 U h cc hU => h.is hF cc hU, fun i S M' hi hI hW => ?_, by omega⟩
    c.fr20 hbf (u.trans hu) ⟨⟨rc, hrg, hrc⟩, ⟨.slice none 0 0, o18.up hu, Nw.nil _ _ _ _, rfl, fun q hq => by cases hq⟩, ⟨hu.get k1, hk2, o17.up hu, h17.up hu⟩, ⟨?_, ?_, ?_⟩, by omega, h18b, ?_⟩ (by omega) ?_ (fun i M' hz _ => hz.elim)
  · show RunsY Try.prog Ex (M.n + 1) #[iv L[i]] M' _
    obtain ⟨rc', hr', hrc'⟩ := hI.rc
    refine Y_fettlelaw8_GrphReach_13 hr'.of hrc' ?_
    unfold SY_fettlelaw8_GrphReach_13
    rw [hr'.of, OP_some]
    refine ⟨(hR0 _ hrc').1, ?_⟩
    apply T_fettlelaw8_GrphReach_14
    unfold S_fettlelaw8_GrphReach_14
    refine hI.add hF hr' hrc' (hR0 _ hrc') L[i] (by rw [List.length_take]; omega) hW.n (fun M2 S' h2 cc hs => ⟨S', cc, hs, .inl ⟨rfl, ?_⟩⟩) rfl
    rw [List.take_succ_eq_append_getElem hi]; exact h2
  · have := o18.lt; omega
  · simp only [T, List.mem_cons, Option.mem_toList, not_or]
    exact ⟨by omega, by omega, by have := o17.lt; omega, fun hq => by have := hx _ hq; omega⟩
  · simp only [T, List.mem_cons, Option.mem_toList, not_or]
    refine ⟨fun e => ?_, by have := o18.lt; omega, hne.1, fun hq => (hne.2 _ hq).1 rfl⟩
    subst e
    have h1 : M.get b18 = some (.inr (.inr none)) := k1
    have h2 : M.get b18 = _ := o18
    rw [h1] at h2; injection h2 with h2; cases h2
  · intro q hq
    simp only [T, List.mem_cons, Option.mem_toList] at hq
    have := o17.lt
    rcases hq with rfl | rfl | rfl | hq
    · exact ⟨hr1, by omega⟩
    · exact ⟨hub, by omega⟩
    · exact ⟨h17b, by omega⟩
    · exact ⟨(hne.2 _ hq).2, by have := hx _ hq; omega⟩
  · intro S M' hI hW
    obtain ⟨⟨rc', hr', hrc'⟩, ⟨x, ho, hNx, _, hxx⟩, ⟨f1, f2, f3, f4⟩, hn, hb⟩ := hI
    rw [List.take_length] at hNx
    rw [hr'.of, OP_some]
    refine ⟨by rw [(hR0 _ hrc').1]; decide, ?_⟩
    have hpe : Nat.beq 0 rc'.pe = true := by rw [(hR0 _ hrc').2]; rfl
    rw [hpe, cond_true]
    have cc : Ch [M.n + 1] M' (putRec M' (M.n + 1) { rc' with st := .exhausted }) := hr'.ch _
    have uW := hW.ch cc (fun q hq => by simp at hq; omega)
    refine gr_15 (M := putRec M' (M.n + 1) { rc' with st := .exhausted }) hQ (c.o5.up uW) (c.h8.up uW) (f3.fr cc (by simp; have := o17.lt; omega)) (f4.fr cc (fun q hq => by simp; have := hx _ hq; omega)) (ho.fr cc (by simpa using Ne.symm hn.1)) (hNx.lv.fr cc (fun q hq => by simpa using (hxx q hq).2.2.2.1)) hLl (cc.at f1 (by simp; omega)) (cc.at f2 (by simp)) (by omega)
theorem gr_8 (hQ : ∀ M, Q (tv true) M) {Mb M : Store} {b2 b3 b17 b18 : Nat} {w x8 : Value} {fr : List Int} (c : RB Mb b7 b5 lv es b2 b3 w fr x8 L) (u : Up Mb M) (o17 : Ob M b17 [.slice none 0 0] Ty.sl_int) (o18 : Ob M b18 [.slice none 0 0] Ty.sl_int) (h17b : Mb.n ≤ b17) (h18b : Mb.n ≤ b18) (hne : b18 ≠ b17) :
    P_fettlelaw8_GrphReach_8 [] (pp b5) x8 (.func (.func F.grph_Reach_int_c1) #[] #[pp b2, pp b3]) (pp b17) (pp b18) (.func (.func F.grph_Reach_int_c1) #[] #[pp b2, pp b3]) M Q := by
  apply T_fettlelaw8_GrphReach_8
  unfold S_fettlelaw8_GrphReach_8
  intro rc hrc
  show R F.grph_Reach_int_c1 #[.func (.yield (M.n + 1)) #[] #[], pp b2, pp b3] _ _
  obtain ⟨n, hbf⟩ := c.bf
  have u1 := Up.push M (some (.inr (.inr none)))
  have u2 := Up.push (M.push (some (.inr (.inr none)))) (some (.inr (.inr (some rc))))
  have hu : Up M _ := u1.trans u2
  have hrg : Rc ((M.push (some (.inr (.inr none)))).push (some (.inr (.inr (some rc))))) (M.n + 1) rc := by
    have := Store.get_push_eq (M.push (some (.inr (.inr none)))) (some (.inr (.inr (some rc))))
    exact this
  have hk2 : Mk ((M.push (some (.inr (.inr none)))).push (some (.inr (.inr (some rc))))) M.n := u2.get (Store.get_push_eq M (some (.inr (.inr none))))
  generalize hN : (M.push (some (.inr (.inr none)))).push (some (.inr (.inr (some rc)))) = N at *
  have hNn : N.n = M.n + 2 := by rw [← hN]; simp
  let T : List Nat := [M.n, b18]
  let F0 : Store → Prop := fun M' => Mk M' M.n ∧ Ob M' b18 [.slice none 0 0] Ty.sl_int
  have hF : Stays T F0 := by
    rintro M1 M2 U ⟨f2, f3⟩ cc hU
    have hn : ∀ q, q ∈ T → q ∉ U := fun q hq hu => hU q hu hq
    exact ⟨cc.at f2 (hn _ (by simp [T])), f3.fr cc (hn _ (by simp [T]))⟩
  let RCp : LRec → Prop := RC_fettlelaw8_GrphReach_8 (pp b5) (pp b17) .ready 0
  have hR0 : ∀ rc, RCp rc → rc.st = .ready ∧ rc.pe = 0 := fun rc ⟨f, _, _, e⟩ => by rw [e]; exact ⟨rfl, rfl⟩
  have hLl := c.Ll
  have hub := u.n
  have hlv := c.lv
  -- behind the range
  have after : ∀ (M' : Store) (rc' : LRec) (x : Value), Up Mb M' → Rc M' (M.n + 1) rc' → rc'.st ≠ .busy → (rc'.pe = 0 ∨ rc'.pe = 8) → Ob M' b17 [x] Ty.sl_int → LV iv Ty.int M' x (L.take lv) → (∀ q, bx x = some q → q < M'.n ∧ q ≠ M.n + 1 ∧ q ≠ b18 ∧ Mb.n ≤ q) → F0 M' → M.n + 1 ≠ b17 →
      OP (recOf M' (M.n + 1)) fun r => r.st ≠ .busy ∧
        bif Nat.beq 0 r.pe then (P_fettlelaw8_GrphReach_12 ({ target := .collected M.n, args := #[] } :: []) (pp b5) x8 (.func (.func F.grph_Reach_int_c1) #[] #[pp b2, pp b3]) (pp b17) (pp b18) (putRec M' (M.n + 1) { r with st := .exhausted }) Q) else
        bif Nat.beq 8 r.pe then (P_fettlelaw8_GrphReach_12 ({ target := .collected M.n, args := #[] } :: []) (pp b5) x8 (.func (.func F.grph_Reach_int_c1) #[] #[pp b2, pp b3]) (pp b17) (pp b18) (putRec M' (M.n + 1) { r with st := .exhausted }) Q) else False := by
    intro M' rc' x hW hr' hst hpe ho hx hxq hf hl17
    obtain ⟨f1, f2⟩ := hf
    rw [hr'.of, OP_some]
    refine ⟨hst, ?_⟩
    have cc : Ch [M.n + 1] M' (putRec M' (M.n + 1) { rc' with st := .exhausted }) := hr'.ch _
    have uW := hW.ch cc (fun q hq => by simp at hq; omega)
    have n1 := M'.lt_of_get hr'
    have n2 := cc.n
    have main : P_fettlelaw8_GrphReach_12 ({ target := .collected M.n, args := #[] } :: []) (pp b5) x8 (.func (.func F.grph_Reach_int_c1) #[] #[pp b2, pp b3]) (pp b17) (pp b18) (putRec M' (M.n + 1) { rc' with st := .exhausted }) Q := by
      apply T_fettlelaw8_GrphReach_12
      unfold S_fettlelaw8_GrphReach_12
      have hb18 := f2.lt
      refine gr_13 hQ c uW (ho.fr cc (by simpa using Ne.symm hl17)) (hx.fr cc (fun q hq => by simpa using (hxq q hq).2.1)) (fun q hq => by have := (hxq q hq).1; omega) (f2.fr cc ?_) (cc.at f1 (by simp)) h17b h18b (by omega) ⟨hne, fun q hq => ⟨(hxq q hq).2.2.1, (hxq q hq).2.2.2⟩⟩
      have := o18.lt
      simp; omega
    rcases hpe with hpe | hpe
    · have e : Nat.beq 0 rc'.pe = true := by rw [hpe]; rfl
      rw [e, cond_true]; exact main
    · have e : Nat.beq 0 rc'.pe = false := by rw [hpe]; rfl
      have e8 : Nat.beq 8 rc'.pe = true := by rw [hpe]; rfl
      rw [e, cond_false, e8, cond_true]; exact main
  refine Reach_c1_ok (base := Mb.n) (W := Up Mb) (I := fun i S M' => Ga Mb T F0 RCp (M.n + 1) b17 (L.take i) S M' ∧ i ≤ lv) (Z := fun _ M' => Zz F0 (M.n + 1) b17 (L.take lv) M' ∧ ∀ x, Ob M' b17 [x] Ty.sl_int → ∀ q, bx x = some q → q < M'.n ∧ q ≠ M.n + 1 ∧ q ≠ b18 ∧ Mb.n ≤ q) (y := .func (.yield (M.n + 1)) #[] #[]) (g := .func (.func F.fettlelaw8_GrphReach_c1) #[] #[pp b7]) (w := w) (fr := fr) (A := fun z => es z.toNat) (L := L) (n := n) (S := (M.n + 1) :: b17 :: ([] ++ T))
    ⟨fun M' h => c.o2.up h, fun M' h => c.wf.up h, fun M' h => c.o3.up h, fun M' h => c.A h, fun x _ => by have := c.el x.toNat; omega, fun M1 M2 U h cc hU => h.ch cc hU, fun i S M' h => h.1.ib, fun i S M1 M2 U h cc hU => ⟨h.1.is hF cc hU, h.2⟩, fun i S M' hi hI hW => ?_, by omega⟩
    c.fr20 hbf (u.trans hu) ⟨⟨⟨rc, hrg, hrc⟩, ⟨.slice none 0 0, o17.up hu, Nw.nil _ _ _ _, rfl, fun q hq => by cases hq⟩, ⟨hk2, o18.up hu⟩, ⟨?_, ?_, ?_⟩, by omega, h17b, ?_⟩, Nat.zero_le _⟩ (by omega) ?_ ?_
  · show RunsY Try.prog Ex (M.n + 1) #[iv L[i]] M' _
    obtain ⟨hI, hilv⟩ := hI
    have hI0 := hI
    obtain ⟨⟨rc', hr', hrc'⟩, ⟨x, ho, hNx, hS, hxx⟩, hf, hn, hb⟩ := hI
    refine Y_fettlelaw8_GrphReach_8 hr'.of hrc' ?_
    unfold SY_fettlelaw8_GrphReach_8
    rw [hr'.of, OP_some]
    refine ⟨(hR0 _ hrc').1, ?_⟩
    apply T_fettlelaw8_GrphReach_11
    unfold S_fettlelaw8_GrphReach_11
    have c0 : Ch [M.n + 1] M' (putRec M' (M.n + 1) { rc' with st := .busy }) := hr'.ch _
    have o0 := ho.fr c0 (by simpa using Ne.symm hn.1)
    have u0 := hW.ch c0 (fun q hq => by simp at hq; omega)
    have hN0 := hNx.fr c0 (fun q hq => by simpa using (hxx q hq).2.2.2.1)
    refine OP_iff.2 ⟨x, o0.ld (v := x) rfl, ?_⟩
    rw [(NV.lv hN0).len, OP_some, (c.o5.up u0).ld (v := nv lv) rfl, OP_some]
    have hlt : (L.take i).length = i := by rw [List.length_take]; omega
    rw [hlt, eql_n, BR_dec]
    split
    · rename_i hil
      subst hil
      unfold YE
      have r0 : Rc (putRec M' (M.n + 1) { rc' with st := .busy }) (M.n + 1) { rc' with st := .busy } := hr'.put _
      rw [r0.of, OP_some]
      have c1 : Ch [M.n + 1] (putRec M' (M.n + 1) { rc' with st := .busy }) (putRec (putRec M' (M.n + 1) { rc' with st := .busy }) (M.n + 1) { ({ rc' with st := .busy } : LRec) with st := bif Nat.beq 8 0 then .ready else .done, pe := 8 }) := r0.ch _
      have c2 := (c0.trans c1)
      have hn2 := c2.n
      have f' := hF _ _ _ hf c2 (fun q hq => by simp at hq; subst hq; exact hn.2.1)
      refine ⟨S, c2.mono (by rw [hS]; simp), fun b hb => .inl hb, .inr ⟨rfl, ⟨⟨_, r0.put _, (show LoopState.done ≠ .busy by decide), rfl⟩, ⟨x, o0.fr c1 (by simpa using Ne.symm hn.1), (Nw.sl hN0).fr c1 (fun q hq => by simpa using (hxx q hq).2.2.2.1)⟩, f'⟩, fun x' ho' q hq => ?_⟩⟩
      have : Ob _ b17 [x] Ty.sl_int := o0.fr c1 (by simpa using Ne.symm hn.1)
      have h1 := ho'.symm.trans this
      injection h1 with h1; injection h1 with h1
      simp only [Prod.mk.injEq, List.cons.injEq] at h1
      obtain ⟨⟨rfl, _⟩, _⟩ := h1
      have := hxx q hq
      have h21 := this.2.1
      exact ⟨Nat.lt_of_lt_of_le h21 hn2, this.2.2.2.1, fun e => this.2.2.1 (by simp [T, e]), this.1⟩
    · rename_i hil
      refine hI0.add hF hr' hrc' (hR0 _ hrc') L[i] (by rw [hlt]; omega) hW.n (fun M2 S' h2 cc hs => ⟨S', cc, hs, .inl ⟨rfl, ?_, by omega⟩⟩) rfl
      rw [List.take_succ_eq_append_getElem hi]; exact h2
  · have := o17.lt; omega
  · simp only [T, List.mem_cons, List.not_mem_nil, or_false, not_or]
    exact ⟨by omega, by have := o18.lt; omega⟩
  · simp only [T, List.mem_cons, List.not_mem_nil, or_false, not_or]
    exact ⟨by have := o17.lt; omega, Ne.symm hne⟩
  · intro q hq
    simp only [T, List.mem_cons, List.not_mem_nil, or_false] at hq
    have := o18.lt
    rcases hq with rfl | rfl
    · exact ⟨hub, by omega⟩
    · exact ⟨h18b, by omega⟩
  · rintro S M' ⟨⟨⟨rc', hr', hrc'⟩, ⟨x, ho, hNx, _, hxx⟩, hf, hn, hb⟩, hil⟩ hW
    rw [List.take_length] at hNx
    refine after M' rc' x hW hr' (by rw [(hR0 _ hrc').1]; decide) (.inl (hR0 _ hrc').2) ho ?_ (fun q hq => ⟨(hxx q hq).2.1, (hxx q hq).2.2.2.1, fun e => (hxx q hq).2.2.1 (by simp [T, e]), (hxx q hq).1⟩) hf hn.1
    rw [List.take_of_length_le hil]; exact hNx.lv
  · rintro i M' ⟨⟨⟨rc', hr', hst, hpe⟩, ⟨x, ho, hx⟩, hf⟩, hq⟩ hW
    exact after M' rc' x hW hr' hst (.inr hpe) ho hx (hq x ho) hf (by have := o17.lt; omega)
end
theorem a15_and (z : Int) : a15 z = (andN z 15 : Nat) := rfl
theorem GrphReach_ok {M : Store} {x0 x1 : Value} {ts zs : List Int} (h0 : LV iv Ty.int M x0 ts) (hx : LV iv Ty.int M x1 zs) (lv : Int) : R F.fettlelaw8_GrphReach #[x0, x1, iv lv] M fun v _ => v = tv true := by
  refine R.cps fun Q hQ => ?_
  have hQ : ∀ M, Q (tv true) M := fun M => hQ _ _ rfl
  apply T_fettlelaw8_GrphReach
  unfold S_fettlelaw8_GrphReach
  have hbv : boxv (iv lv) = some [iv lv] := by kernel_rfl
  rw [hbv, OP_some]
  refine s_new fun M1 u1 o1 n1 => ?_
  refine (edges_ok (hx.up u1) true).mono fun w M2 ⟨u2, hE⟩ => ?_
  obtain ⟨M4, e4, u4, har, n4⟩ := hE.put
  rw [LT_eq, e4, OP_some, LT_eq]
  have hm5 := Mp.new (En := iv) M4
  have u5 := Up.push M4 (some (.inr (.inl [])))
  have u04 := (u1.trans u2).trans u4
  have u05 := u04.trans u5
  have hsf : (fun _ => none : Int → Option Value) = setF [] := by funext k; simp [setF]
  rw [hsf] at hm5
  let es := edF (zs.take 40) true
  have hel : ∀ k, (es k).length ≤ 40 := fun k => Nat.le_trans (edF_length _ _ _) (by rw [List.length_take]; omega)
  have hein : ∀ k, ∀ z ∈ es k, 0 ≤ z ∧ z < 16 := fun k z hz => by
    obtain ⟨j, hj, rfl, _⟩ := edF_in hz
    omega
  obtain ⟨L, hbf, hLn, hL16⟩ := bfs_end (A := fun z => es z.toNat) (m := 16) (fun x _ _ z hz => hein _ z hz) 16 0 (unl (fromR ts)) (unl_nodup _) (fun z hz => fromR_in z ((unl_mem _ _).1 hz)) (by omega)
  have hLl := nodup_len 16 L hLn hL16
  have hul : (unl (fromR ts)).length ≤ 10 := by have := unl_length (fromR ts); rw [fromR_length] at this; omega
  refine gr_ins (M0 := M4) (zs := ts) (h0.up u04) (b9 := M4.n) (Nat.le_refl _) (fun M6 x8 u6 h8 hm6 => ?_) (fromR ts).length 0 _ _ [] rfl u5 (Nw.nil _ _ _ _) hm5 (by rw [List.drop_zero]; rfl) (Nat.zero_le _)
  apply T_fettlelaw8_GrphReach_3
  unfold S_fettlelaw8_GrphReach_3
  have e0 : ∀ K : List Value → Prop, OP (bldL (.int .i64 0) 1 0 []) K = K [] := fun K => by kernel_rfl
  rw [e0]
  refine s_lit (s := 1) (n := 0) rfl fun M7 u7 hN7 o7 n7 => ?_
  have hN7 : NV iv Ty.int M6 M7 (.slice (some ⟨M6.n, 0, none⟩) 0 0) ([] : List Int) := hN7
  refine NV.apps (M0 := M6) u7 (Nat.le_refl _) u7.n hN7 (h8.lv.up u7) (by simp; omega) fun x12 M8 u8 h12 _ _ => ?_
  rw [List.nil_append] at h12
  have hm8 := hm6.up u8
  have h88 := Nw.up h8 u8
  have u48 := u6.trans u8
  have hkx : Kx M4.n x12 x8 (unl (fromR ts)) M8 := by
    refine ⟨h12.lv, fun hn q hq => ?_⟩
    have hne : unl (fromR ts) ≠ [] := fun e => by rw [e] at hn; simp at hn
    have hq8 := LV.box h12.lv hne hq
    obtain ⟨_, ⟨h5, _⟩ | ⟨b', cells, cc, rfl, h6, _⟩⟩ := h12
    · omega
    simp only [bx, Option.some.injEq] at hq
    subst hq
    have hm6l := hm6.lt
    refine ⟨hq8, by omega, fun e => ?_⟩
    have := LV.box h8.lv hne e
    omega
  refine gr_bfs (M0 := M4) (L := L) (es := es) (fr := unl (fromR ts)) (Nat.le_refl _) har.ar hel hL16 hLl (fun M9 x8' u9 h8' h12' => ?_) 16 0 M8 x8 (unl (fromR ts)) hbf (Nat.zero_le _) u48 h88 hm8 hkx
  apply T_fettlelaw8_GrphReach_6
  unfold S_fettlelaw8_GrphReach_6
  have hmk : mkF (.func F.fettlelaw8_GrphReach_c1) [] [pp M2.n] = some (.func (.func F.fettlelaw8_GrphReach_c1) #[] #[pp M2.n]) := rfl
  rw [hmk, OP_some]
  refine (Reach_int_ok h12' (by omega) ⟨_, _, rfl⟩).mono fun v M10 ⟨u10, b2, b3, w2, e, hb2, hb3, o2, hw2, o3⟩ => ?_
  subst e
  have hfn : ∀ K : Value → Prop, OP (abin Try.prog true .eql Ty.iter_Seq_int (.func (.func F.grph_Reach_int_c1) #[] #[pp b2, pp b3]) .nilFunc) K = K (tv false) := fun K => by
    have : abin Try.prog true .eql Ty.iter_Seq_int (.func (.func F.grph_Reach_int_c1) #[] #[pp b2, pp b3]) .nilFunc = some (.bool false) := by kernel_rfl
    rw [this, OP_some]
  rw [hfn, BR_bool, if_neg (by decide)]
  have uA := (u4.trans u9).trans u10
  have uB : Up M1 M10 := u2.trans uA
  have o110 := o1.up uB
  rw [o110.ld (v := iv lv) rfl, OP_some, e_a15]
  refine s_st1 (i := 0) (w := iv (a15 lv)) o110 (by simp) (cells_iv _) (oc_iv _) fun M11 c11 o11 n11 => ?_
  have k11 := c11.keepT o110
  refine s_new fun M12 u12 o12 n12 => ?_
  refine s_new fun M13 u13 o13 n13 => ?_
  have hne1 : ∀ b, M1.n ≤ b → b ∉ [M.n] := fun b hb => by simp; omega
  have hne2 : ∀ b, M10.n ≤ b → b ∉ [M.n] := fun b hb => hne1 b (by have := uB.n; omega)
  have har10 : ARn M1 M10 M2.n es := (har.up u9).up u10
  have hlt := o1.lt
  have hlt2 := u2.n
  have har11 : ARn M1 M11 M2.n es := har10.old c11 (fun q hq => by simp at hq; omega) (by simp; omega)
  have u11 : Up M M11 := (u1.trans uB).ch c11 (by simp)
  have hcn := c11.n
  have h8n : NV iv Ty.int M4 M10 x8' L := Nw.up h8' u10
  have old4 : ∀ {v : Value} {l : List Int} {Mx : Store}, M1.n ≤ Mx.n → NV iv Ty.int Mx M10 v l → LV iv Ty.int M11 v l := by
    intro v l Mx hMx h
    obtain ⟨g1, g | ⟨b', cells', cp', e, gb, g6, g7, g8, g9⟩⟩ := h
    · exact Nw.sl (M0 := Mx) ⟨g1, .inl g⟩
    · exact Nw.sl (M0 := Mx) ⟨g1, .inr ⟨b', cells', cp', e, gb, c11.at g6 (by simp; omega), g7, g8, g9⟩⟩
  have n14 : M1.n ≤ M4.n := by have := u4.n; omega
  have n110 : M1.n ≤ M9.n := by have := u9.n; omega
  have uu := u12.trans u13
  have hb2' : b2 ≠ M.n ∧ b3 ≠ M.n := by omega
  have hal := a15_lt lv
  obtain ⟨q, hq⟩ := Int.eq_ofNat_of_zero_le hal.1
  have o11' : Ob M11 M.n [nv q] Ty.int := by
    have : [iv lv].set 0 (iv (a15 lv)) = [nv q] := by rw [hq]; rfl
    rw [← this]; exact o11
  refine gr_8 (Mb := M11) (fr := unl (fromR ts)) (w := w2) (L := L) (lv := q) hQ ⟨har11.ar, o11', o2.fr c11 (by simpa using hb2'.1), old4 n110 hw2, o3.fr c11 (by simpa using hb2'.2), old4 n14 h8n, hel, hL16, hLl, by omega, by omega, 16, ?_⟩ uu (o12.up u13) o13 (Nat.le_refl _) (by omega) (by omega)
  rw [unl_self (unl_nodup _)]; exact hbf
end Go.G
