/- GrphReach: all that is reached is told. -/
import Derived.Test.YtnonfejhkbaikaaPL8m
import Derived.Test.YtnonfejhkbaikaaPGDr
namespace Go.G
open Go.Ab Go.Proofs Go.RowKit
set_option linter.unusedVariables false
set_option linter.unusedSimpArgs false
set_option maxRecDepth 100000

def a15 (z : Int) : Int := (andN z 15 : Nat)
theorem a15_lt (z : Int) : 0 ≤ a15 z ∧ a15 z < 16 := by have := andN_le z 15 (by decide); unfold a15; omega
theorem e_a15 (z : Int) (K : Value → Prop) : OP (binI .and (iv z) (.int .i64 15)) K = K (iv (a15 z)) := by
  show OP (binI .and (.int .i64 z) (.int .i64 ((15 : Nat) : Int))) _ = _
  rw [e_andN z 15 (by decide), OP_some]; rfl
/-- What is gathered, box by box: the list so far, the loop's record, what else has to stay. -/
structure Ga (Mb : Store) (T : List Nat) (F : Store → Prop) (RC : LRec → Prop) (l b : Nat) (xs : List Int) (S : List Nat) (M : Store) : Prop where
  rc : ∃ rc, Rc M l rc ∧ RC rc
  li : ∃ x, Ob M b [x] Ty.sl_int ∧ NV iv Ty.int Mb M x xs ∧ S = l :: b :: ((bx x).toList ++ T) ∧ (∀ q, bx x = some q → Mb.n ≤ q ∧ q < M.n ∧ q ∉ T ∧ q ≠ l ∧ q ≠ b)
  f : F M
  ne : l ≠ b ∧ l ∉ T ∧ b ∉ T
  bd : Mb.n ≤ l ∧ Mb.n ≤ b ∧ ∀ q ∈ T, Mb.n ≤ q ∧ q < M.n
/-- Where one left. -/
structure Zz (F : Store → Prop) (l b : Nat) (xs : List Int) (M : Store) : Prop where
  rc : ∃ rc, Rc M l rc ∧ rc.st ≠ .busy ∧ rc.pe = 8
  li : ∃ x, Ob M b [x] Ty.sl_int ∧ LV iv Ty.int M x xs
  f : F M
abbrev Stays (T : List Nat) (F : Store → Prop) : Prop := ∀ M M' U, F M → Ch U M M' → (∀ q ∈ U, q ∉ T) → F M'
section
variable {Mb : Store} {T : List Nat} {F : Store → Prop} {RC : LRec → Prop} {l b : Nat} {xs : List Int} {S : List Nat}
theorem Ga.ib {M : Store} (h : Ga Mb T F RC l b xs S M) : ∀ q ∈ S, Mb.n ≤ q ∧ q < M.n := by
  obtain ⟨⟨rc, hr, _⟩, ⟨x, ho, hN, rfl, hx⟩, _, _, hb⟩ := h
  intro q hq
  simp only [List.mem_cons, List.mem_append, Option.mem_toList] at hq
  rcases hq with rfl | rfl | hq | hq
  · exact ⟨hb.1, M.lt_of_get hr⟩
  · exact ⟨hb.2.1, ho.lt⟩
  · exact ⟨(hx q hq).1, (hx q hq).2.1⟩
  · exact hb.2.2 q hq
theorem Ga.is {M M' : Store} {U : List Nat} (hF : Stays T F) (h : Ga Mb T F RC l b xs S M) (c : Ch U M M') (hU : ∀ q ∈ U, q ∉ S) : Ga Mb T F RC l b xs S M' := by
  obtain ⟨⟨rc, hr, hrc⟩, ⟨x, ho, hN, rfl, hx⟩, hf, hn, hb⟩ := h
  have hm : ∀ q, q ∈ l :: b :: ((bx x).toList ++ T) → q ∉ U := fun q hq hu => hU q hu hq
  refine ⟨⟨rc, c.at hr (hm _ (by simp)), hrc⟩, ⟨x, ho.fr c (hm _ (by simp)), hN.fr c (fun q hq => hm _ (by simp [hq])), rfl, fun q hq => ⟨(hx q hq).1, Nat.lt_of_lt_of_le (hx q hq).2.1 c.n, (hx q hq).2.2⟩⟩, hF _ _ _ hf c (fun q hq ht => hU q hq (by simp [ht])), hn, hb.1, hb.2.1, fun q hq => ⟨(hb.2.2 q hq).1, Nat.lt_of_lt_of_le (hb.2.2 q hq).2 c.n⟩⟩
/-- One more is gathered. -/
theorem Ga.add {M : Store} {rc : LRec} (hF : Stays T F) (h : Ga Mb T F RC l b xs S M) (hr : Rc M l rc) (hrc : RC rc) (h0 : rc.st = .ready ∧ rc.pe = 0) (y : Int) (hz : xs.length + 1 ≤ 2 ^ 28) (hMb : Mb.n ≤ M.n) {K : Value → Store → Prop}
    (hK : ∀ M' S', Ga Mb T F RC l b (xs ++ [y]) S' M' → Ch S M M' → (∀ q ∈ S', q ∈ S ∨ M.n ≤ q) → K (tv true) M') {N : Store} (hN0 : N = putRec M l { rc with st := .busy }) :
    OP (ld 1 false (pp b) N) fun t93 => OP (bldL (.int .i64 0) 1 1 [(0, iv y)]) fun c => LT (.slice (some ⟨N.n, 0, none⟩) 1 1) (N.push (some (.inl (c, Ty.int, true)))) fun t95 M1 => OP2 (appV 1 Ty.int t93 t95 M1) fun t96 M2 => OP (st 1 (pp b) t96 M2) fun M3 => YE l 0 M3 K := by
  obtain ⟨_, ⟨x, ho, hN, rfl, hx⟩, hf, hn, hb⟩ := h
  have c0 : Ch [l] M N := by rw [hN0]; exact hr.ch _
  have r0 : Rc N l { rc with st := .busy } := by rw [hN0]; exact hr.put _
  have o0 := ho.fr c0 (by simpa using fun e => hn.1 e.symm)
  have hN' := hN.fr c0 (fun q hq => by simpa using (hx q hq).2.2.2.1)
  rw [o0.ld (v := x) rfl, OP_some, bl_int, OP_some, LT_eq]
  refine NV.app1 (M0 := Mzz) (Up.zero N) (Nat.zero_le _) (Nat.le_trans hMb c0.n) hN' y rfl hz fun v' M2 _ hN2 c2 ⟨b', g1, g2, g3⟩ => ?_
  have hkl : ∀ q ∈ kl x, bx x = some q := fun q hq => bx_of_kil (mem_kl.1 hq)
  have o2 := o0.fr c2 (fun hm => (hx _ (hkl _ hm)).2.2.2.2 rfl)
  obtain ⟨va, vc, rfl⟩ := hN2.sl.slice
  refine s_st1 (i := 0) (w := .slice va (xs ++ [y]).length vc) o2 (by simp) (cells_sl _ _ _) (oc_sl _ _ _) fun M3 c3 o3 _ => ?_
  have r2 : Rc M2 l { rc with st := .busy } := c2.at r0 (fun hm => (hx _ (hkl _ hm)).2.2.2.1 rfl)
  have r3 : Rc M3 l { rc with st := .busy } := c3.at r2 (by simpa using hn.1)
  unfold YE
  rw [r3.of, OP_some]
  have he : ({ ({ rc with st := .busy } : LRec) with st := bif Nat.beq 0 0 then .ready else .done, pe := 0 } : LRec) = rc := by
    obtain ⟨e1, e2⟩ := h0
    cases rc
    simp only at e1 e2
    subst e1; subst e2; rfl
  rw [he]
  have c5 : Ch [l] M3 (putRec M3 l rc) := r3.ch _
  have n1 := c0.n
  have n2 := c2.n
  have n3 := c3.n
  have n5 := c5.n
  have hb' : b' ≠ l ∧ b' ≠ b ∧ b' ∉ T := by
    have h1 := M.lt_of_get hr
    have h2 := ho.lt
    refine ⟨by omega, by omega, fun ht => ?_⟩
    have := (hb.2.2 _ ht).2
    omega
  have cc : Ch (l :: b :: ((bx x).toList ++ T)) M (putRec M3 l rc) := (((c0.mono (by simp)).trans (c2.mono fun q hq => by simp [hkl q hq])).trans (c3.mono (by simp))).trans (c5.mono (by simp))
  refine hK _ (l :: b :: ([b'] ++ T)) ⟨⟨rc, r3.put rc, hrc⟩, ⟨_, o3.fr c5 (by simpa using fun e => hn.1 e.symm), ?_, by rw [g1]; rfl, ?_⟩, ?_, hn, hb.1, hb.2.1, fun q hq => ⟨(hb.2.2 q hq).1, by have := (hb.2.2 q hq).2; omega⟩⟩ cc ?_
  · refine (hN2.fr c3 fun q hq => ?_).fr c5 fun q hq => ?_
    · rw [g1] at hq; injection hq with hq; subst hq; simpa using hb'.2.1
    · rw [g1] at hq; injection hq with hq; subst hq; simpa using hb'.1
  · intro q hq
    rw [g1] at hq; injection hq with hq; subst hq
    exact ⟨by omega, by omega, hb'.2.2, hb'.1, hb'.2.1⟩
  · refine hF M _ (l :: b :: (bx x).toList) hf ((((c0.mono (by simp)).trans (c2.mono fun q hq => by simp [hkl q hq])).trans (c3.mono (by simp))).trans (c5.mono (by simp))) fun q hq => ?_
    simp only [List.mem_cons, Option.mem_toList] at hq
    rcases hq with rfl | rfl | hq
    · exact hn.2.1
    · exact hn.2.2
    · exact (hx q hq).2.2.1
  · intro q hq
    have hq : q = l ∨ q = b ∨ q = b' ∨ q ∈ T := by simpa using hq
    rcases hq with rfl | rfl | rfl | hq
    · exact .inl (by simp)
    · exact .inl (by simp)
    · exact .inr (by omega)
    · exact .inl (by simp [hq])
end
/-! ## the law's own search -/
def fromR (zs : List Int) : List Int := (zs.take 10).map a15
theorem fromR_in {zs : List Int} : ∀ z ∈ fromR zs, 0 ≤ z ∧ z < 16 := fun z hz => by
  unfold fromR at hz
  obtain ⟨y, _, rfl⟩ := List.mem_map.1 hz
  exact a15_lt y
theorem fromR_length (zs : List Int) : (fromR zs).length = min 10 zs.length := by simp [fromR]
theorem gr_ins {M0 : Store} {x0 : Value} {zs : List Int} (hx : LV iv Ty.int M0 x0 zs) {x5 x7 : Value} {b9 : Nat} (hb9 : M0.n ≤ b9) {Q : Value → Store → Prop}
    (hQ : ∀ M x8, Up M0 M → NV iv Ty.int M0 M x8 (unl (fromR zs)) → Mp iv M b9 (setF (unl (fromR zs))) → P_fettlelaw8_GrphReach_3 [] x5 x7 x8 (.map (some b9)) M Q) :
    ∀ (d i : Nat) (M : Store) (x8 : Value) (acc : List Int), d + i = (fromR zs).length → Up M0 M → NV iv Ty.int M0 M x8 acc → Mp iv M b9 (setF acc) → unlA acc ((fromR zs).drop i) = unl (fromR zs) → acc.length ≤ i →
      P_fettlelaw8_GrphReach_1 [] x0 x5 x7 x8 (.map (some b9)) (iv i) M Q := by
  intro d
  have hil := fromR_length zs
  induction d with
  | zero =>
    intro i M x8 acc hi hu h8 hm ha _
    apply T_fettlelaw8_GrphReach_1
    unfold S_fettlelaw8_GrphReach_1
    rw [List.drop_of_length_le (by omega)] at ha
    simp only [unlA] at ha
    subst ha
    have fin := hQ M x8 hu h8 hm
    rw [(hx.up hu).len, OP_some, e_lss, BR_dec]
    split
    · rw [e_lss, BR_dec, if_neg (by omega)]; exact fin
    · exact fin
  | succ d ih =>
    intro i M x8 acc hi hu h8 hm ha hal
    apply T_fettlelaw8_GrphReach_1
    unfold S_fettlelaw8_GrphReach_1
    rw [(hx.up hu).len, OP_some, e_lss, BR_dec, if_pos (by omega), e_lss, BR_dec, if_pos (by omega)]
    apply T_fettlelaw8_GrphReach_2
    unfold S_fettlelaw8_GrphReach_2
    obtain ⟨p, h1, h2⟩ := (hx.up hu).at (i := i) (by omega) .i64
    have hel : (fromR zs)[i]'(by omega) = a15 (zs[i]'(by omega)) := by simp [fromR]
    rw [List.drop_eq_getElem_cons (by omega), unlA] at ha
    rw [hel] at ha
    generalize zs[i]'(by omega) = z at *
    rw [h1, OP_some, h2, OP_some, e_a15, hm.look1 key_iv, OP_some, setF_get, e_not, BR_bool]
    split
    · rename_i hin
      have hin : a15 z ∉ acc := by simpa using hin
      rw [if_neg hin] at ha
      obtain ⟨M3, e3, hm3, hc3, hk3⟩ := hm.put key_iv (a15 z) (one_tv true)
      show OP (mup (.int .i64) (.map (some b9)) (iv (a15 z)) (tv true) M) _
      rw [e3, OP_some]
      show OP (bldL (iv 0) 1 1 [(0, iv (a15 z))]) _
      rw [bl_int, OP_some, LT_eq]
      have hu3 : Up M0 M3 := hu.ch hc3 (by simpa using hb9)
      have h83 := Nw.keepI h8 hk3
      refine NV.app1 hu3 (Nat.le_refl _) hu3.n h83 (a15 z) rfl (by omega) fun v9 M5 hu5 hN9 hc9 _ => ?_
      rw [e_add, w64 (by omega) (by omega)]
      refine ih (i + 1) M5 v9 (acc ++ [a15 z]) (by omega) hu5 hN9 ?_ ha (by simp; omega)
      rw [← setF_put]; exact hm3.app h83 hc9
    · rename_i hin
      have hin : a15 z ∈ acc := by simpa using hin
      rw [if_pos hin] at ha
      rw [e_add, w64 (by omega) (by omega)]
      exact ih (i + 1) M x8 acc (by omega) hu h8 hm ha (by omega)
theorem Sl.frP {s e M M' v n cs} (h : Sl s e M v n cs) {S : List Nat} (k : Ch S M M') (hS : 0 < n → ∀ b, bx v = some b → b ∉ S) : Sl s e M' v n cs := by
  obtain ⟨h1, a, c, rfl, h3, h4⟩ := h
  refine ⟨h1, a, c, rfl, h3, fun hn => ?_⟩
  obtain ⟨b, o, cells, e', own, rfl, h6, h7⟩ := h4 hn
  exact ⟨b, o, cells, e', own, rfl, k.at h6 (hS hn _ rfl), h7⟩
/-- Another list that stays, whatever is done to the map and to the list that grows. -/
def Kx (b9 : Nat) (x12 x8 : Value) (fr : List Int) (M : Store) : Prop := LV iv Ty.int M x12 fr ∧ (0 < fr.length → ∀ q, bx x12 = some q → q < M.n ∧ q ≠ b9 ∧ bx x8 ≠ some q)
theorem Kx.map {b9 : Nat} {x12 x8 : Value} {fr : List Int} {M M' : Store} (h : Kx b9 x12 x8 fr M) (c : Ch [b9] M M') : Kx b9 x12 x8 fr M' :=
  ⟨Sl.frP h.1 c fun hn q hq => by simpa using (h.2 hn q hq).2.1, fun hn q hq => ⟨Nat.lt_of_lt_of_le (h.2 hn q hq).1 c.n, (h.2 hn q hq).2⟩⟩
theorem Kx.app {b9 : Nat} {x12 x8 v : Value} {fr : List Int} {M M' : Store} (h : Kx b9 x12 x8 fr M) (c : Ch (kl x8) M M') (hb : ∃ b, bx v = some b ∧ M.n ≤ b ∧ b < M'.n) : Kx b9 x12 v fr M' := by
  refine ⟨Sl.frP h.1 c fun hn q hq hm => (h.2 hn q hq).2.2 (bx_of_kil (mem_kl.1 hm)), fun hn q hq => ⟨Nat.lt_of_lt_of_le (h.2 hn q hq).1 c.n, (h.2 hn q hq).2.1, fun e => ?_⟩⟩
  obtain ⟨b, h1, h2, _⟩ := hb
  rw [h1] at e; injection e with e
  have := (h.2 hn q hq).1
  omega
section
variable {M0 : Store} {b7 b9 : Nat} {es : Nat → List Int} {x5 x12 : Value} {Q : Value → Store → Prop} {L fr : List Int}
theorem gr_row (hb9 : M0.n ≤ b9) {x13 w : Value} {ys res : List Int} (hw : LV iv Ty.int M0 w ys) (hyl : ys.length ≤ 2 ^ 20) (hrl : res.length ≤ 2 ^ 20)
    (hQ : ∀ M x8, Up M0 M → NV iv Ty.int M0 M x8 res → Mp iv M b9 (setF res) → Kx b9 x12 x8 fr M → P_fettlelaw8_GrphReach_10 [] x5 (pp b7) x8 (.map (some b9)) x12 x13 M Q) :
    ∀ (d k : Nat) (M : Store) (x8 : Value) (acc : List Int), d + k = ys.length → Up M0 M → NV iv Ty.int M0 M x8 acc → Mp iv M b9 (setF acc) → unlA acc (ys.drop k) = res → Kx b9 x12 x8 fr M →
      P_fettlelaw8_GrphReach_7 [] x5 (pp b7) x8 (.map (some b9)) x12 x13 w (nv ys.length) (nv k) M Q := by
  intro d
  induction d with
  | zero =>
    intro k M x8 acc hk hu h8 hm ha hkx
    apply T_fettlelaw8_GrphReach_7
    unfold S_fettlelaw8_GrphReach_7
    rw [List.drop_of_length_le (by omega)] at ha
    simp only [unlA] at ha
    subst ha
    rw [lss_n, BR_dec, if_neg (by omega)]
    exact hQ M x8 hu h8 hm hkx
  | succ d ih =>
    intro k M x8 acc hk hu h8 hm ha hkx
    have hkl : k < ys.length := by omega
    apply T_fettlelaw8_GrphReach_7
    unfold S_fettlelaw8_GrphReach_7
    rw [lss_n, BR_dec, if_pos hkl]
    apply T_fettlelaw8_GrphReach_9
    unfold S_fettlelaw8_GrphReach_9
    obtain ⟨p, h1, h2⟩ := (hw.up hu).at hkl .i64
    have hal : acc.length ≤ res.length := by
      obtain ⟨r, hr⟩ := unlA_pre (ys.drop k) acc
      rw [ha] at hr
      have := congrArg List.length hr
      rw [List.length_append] at this; omega
    rw [List.drop_eq_getElem_cons hkl, unlA] at ha
    generalize ys[k] = z at *
    rw [h1, OP_some, h2, OP_some, hm.look1 key_iv, OP_some, setF_get, e_not, BR_bool]
    split
    · rename_i hin
      have hin : z ∉ acc := by simpa using hin
      rw [if_neg hin] at ha
      obtain ⟨M3, e3, hm3, hc3, hk3⟩ := hm.put key_iv z (one_tv true)
      show OP (mup (.int .i64) (.map (some b9)) (iv z) (tv true) M) _
      rw [e3, OP_some]
      show OP (bldL (iv 0) 1 1 [(0, iv z)]) _
      rw [bl_int, OP_some, LT_eq]
      have hu3 : Up M0 M3 := hu.ch hc3 (by simpa using hb9)
      have h83 := Nw.keepI h8 hk3
      refine NV.app1 hu3 (Nat.le_refl _) hu3.n h83 z rfl (by omega) fun v9 M5 hu5 hN9 hc9 hb9' => ?_
      rw [add1_n _ (by omega)]
      refine ih (k + 1) M5 v9 (acc ++ [z]) (by omega) hu5 hN9 ?_ ha ((hkx.map hc3).app hc9 hb9')
      rw [← setF_put]; exact hm3.app h83 hc9
    · rename_i hin
      have hin : z ∈ acc := by simpa using hin
      rw [if_pos hin] at ha
      rw [add1_n _ (by omega)]
      exact ih (k + 1) M x8 acc (by omega) hu h8 hm ha hkx
theorem gr_bfs (hb9 : M0.n ≤ b9) (har : AR M0 b7 es) (hes : ∀ k, (es k).length ≤ 40) (hL : ∀ z ∈ L, 0 ≤ z ∧ z < 16) (hLl : L.length ≤ 16)
    (hQ : ∀ M x8, Up M0 M → NV iv Ty.int M0 M x8 L → LV iv Ty.int M x12 fr → P_fettlelaw8_GrphReach_6 [] x5 (pp b7) x8 x12 M Q) :
    ∀ (n i : Nat) (M : Store) (x8 : Value) (all : List Int), bfsN (fun z => es z.toNat) n i all = some L → i ≤ all.length → Up M0 M → NV iv Ty.int M0 M x8 all → Mp iv M b9 (setF all) → Kx b9 x12 x8 fr M → P_fettlelaw8_GrphReach_4 [] x5 (pp b7) x8 (.map (some b9)) x12 (nv i) M Q := by
  intro n
  induction n with
  | zero =>
    intro i M x8 all hb hi hu h8 hm hkx
    unfold bfsN at hb
    split at hb
    · cases hb
    · rename_i hi2
      injection hb with hb; subst hb
      apply T_fettlelaw8_GrphReach_4
      unfold S_fettlelaw8_GrphReach_4
      rw [h8.lv.len, OP_some, lss_n, BR_dec, if_neg hi2]
      exact hQ M x8 hu h8 hkx.1
  | succ n ih =>
    intro i M x8 all hb hi hu h8 hm hkx
    apply T_fettlelaw8_GrphReach_4
    unfold S_fettlelaw8_GrphReach_4
    rw [h8.lv.len, OP_some, lss_n, BR_dec]
    unfold bfsN at hb
    split
    · rename_i hi2
      rw [dif_pos hi2] at hb
      apply T_fettlelaw8_GrphReach_5
      unfold S_fettlelaw8_GrphReach_5
      obtain ⟨r, hr⟩ := bfsN_pre hb
      obtain ⟨r2, hr2⟩ := unlA_pre (es (all[i]).toNat) all
      have hmem : all[i] ∈ L := by rw [hr, hr2]; simp
      have hz := hL _ hmem
      obtain ⟨p, e1, e2⟩ := h8.lv.at hi2 .i64
      obtain ⟨w, e3, hw⟩ := (har.up hu).at (k := (all[i]).toNat) (by omega)
      have hzn : iv all[i] = .int .i64 (((all[i]).toNat : Nat) : Int) := by congr 1; omega
      rw [e1, OP_some, e2, OP_some, hzn, ixP_at (by omega) .i64, OP_some, e3, OP_some, hw.len, OP_some]
      have hlen : (unlA all (es (all[i]).toNat)).length ≤ L.length := by
        have := congrArg List.length hr
        rw [List.length_append] at this; omega
      have hai : all.length ≤ L.length := by
        have := congrArg List.length hr
        rw [hr2, List.length_append, List.length_append] at this; omega
      obtain ⟨w0, e30, hw0⟩ := har.at (k := (all[i]).toNat) (by omega)
      refine gr_row (M0 := M0) hb9 (w := w) (ys := es (all[i]).toNat) (res := unlA all (es (all[i]).toNat)) ?_ (by have := hes (all[i]).toNat; omega) (by omega) (fun M' x8' hu' h8' hm' hkx' => ?_) _ 0 M x8 all rfl hu h8 hm (by rw [List.drop_zero]) hkx
      · obtain ⟨vs, g1, g2, g3⟩ := har
        have gM : Ob M b7 vs Ty.a16_sl_int := g1.up hu
        have := gM.ld (o := (all[i]).toNat) (v := vs[(all[i]).toNat]'(by omega)) (by rw [List.getElem?_eq_getElem (by omega)])
        rw [this] at e3; injection e3 with e3; subst e3
        have := g3 (all[i]).toNat (by omega)
        rwa [List.getD_eq_getElem?_getD, List.getElem?_eq_getElem (by omega)] at this
      · apply T_fettlelaw8_GrphReach_10
        unfold S_fettlelaw8_GrphReach_10
        rw [add1_n _ (by omega)]
        refine ih (i + 1) M' x8' _ hb ?_ hu' h8' hm' hkx'
        rw [hr2, List.length_append]; omega
    · rename_i hi2
      rw [dif_neg hi2] at hb
      injection hb with hb; subst hb
      exact hQ M x8 hu h8 hkx.1
end
end Go.G
