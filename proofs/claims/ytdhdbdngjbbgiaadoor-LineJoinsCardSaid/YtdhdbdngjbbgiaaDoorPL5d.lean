/- LineJoins: what is written line behind line is split line behind line. -/
import Derived.Test.YtdhdbdngjbbgiaaDoorPL5c
import Derived.Test.YtdhdbdngjbbgiaaDoorPQ5c
namespace Go.G
open Go.Ab Go.Proofs Go.RowKit
set_option linter.unusedVariables false
set_option linter.unusedSimpArgs false
set_option maxRecDepth 100000

theorem SplitR.of2 {M0 M' : Store} {r : Value} {s : Sum Ft (List (List Wd))} (h : SplitR M0 r M' s) : ∃ w, r = .tuple #[w, fv (ftOf s)] ∧ RW2 M0 M' w (rwOf s) := by
  cases s with
  | inl f => exact ⟨_, h, RW2.nil _ _⟩
  | inr rows => exact h

/-! ## one word's line is turned -/
theorem wm_set (n : Nat) : ∀ (l : List Wd) (i : Nat) (h : i < l.length), (l.set i (shW n l[i])).flatMap wcs = (l.flatMap wcs).set (i * 4 + 1) (iv ((l[i].2.1 + n : Nat) : Int))
  | d :: l, 0, _ => by obtain ⟨a, b, c, e⟩ := d; simp [wcs, shW]
  | d :: l, i + 1, h => by
    obtain ⟨a, b, c, e⟩ := d
    have := wm_set n l i (by simpa using h)
    simp only [List.set_cons_succ, List.getElem_cons_succ, List.flatMap_cons, this]
    have e : (i + 1) * 4 + 1 = (i * 4 + 1) + 4 := by omega
    rw [e]
    simp [wcs]
theorem wd_turn {M0 M : Store} {v : Value} {l : List Wd} (h : NWS M0 M v l) {i : Nat} (hi : i < l.length) {n : Nat} (hn : l[i].2.1 + n < 2 ^ 62) {K : Store → Prop}
    (hK : ∀ M' b, bx v = some b → Ch [b] M M' → Keep Ty.api_Word M M' → M'.n = M.n → NWS M0 M' v (l.set i (shW n l[i])) → K M') :
    (OP (ixA 4 v (iv (i : Int))) fun p => OP (fad 1 p) fun p => OP (ld 1 false p M) fun t => OP (binI .add t (iv (n : Int))) fun t2 => OP (ixA 4 v (iv (i : Int))) fun p => OP (fad 1 p) fun p => OP (st 1 p t2 M) K) := by
  obtain ⟨q, o, g1, g2⟩ := LK.fld wcs_len h.lv hi (f := 1) (w := iv (l[i].2.1 : Int)) rfl .i64
  obtain ⟨h1, ⟨h2, _⟩ | ⟨b, cells, c, rfl, hb, h6, h7, h8, h9⟩⟩ := h
  · omega
  · have e : ixA 4 (.slice (some ⟨b, 0, none⟩) l.length c) (iv (i : Int)) = some (.pointer (some ⟨b, i * 4, none⟩)) := by
      simp only [ixA, iv]; rw [if_pos ⟨by omega, by omega, trivial⟩]; simp
    have g1 : ixA 4 (.slice (some ⟨b, 0, none⟩) l.length c) (iv (i : Int)) = some (.pointer (some ⟨q, o, none⟩)) := g1
    rw [e] at g1
    injection g1 with g1; injection g1 with g1; injection g1 with g1; injection g1 with g3 g4
    subst g3; subst g4
    rw [e, OP_some, e_fad, g2, OP_some, add_n _ _ (by omega), OP_some, e_fad]
    have o6 : Ob M b cells Ty.api_Word := h6
    refine s_st1 (i := i * 4 + 1) (b := b) (cells := cells) (T := Ty.api_Word) o6 (by omega) rfl rfl fun M1 c1 o1 n1 => ?_
    refine hK M1 b rfl c1 (c1.keepT o6) n1 ⟨?_, .inr ⟨b, cells.set (i * 4 + 1) (iv ((l[i].2.1 + n : Nat) : Int)), c, ?_, hb, o1, ?_, ?_, ?_⟩⟩
    · rw [wm_set n l i hi, List.length_set, List.length_set, h1]
    · rw [List.length_set]
    · rw [List.length_set, List.length_set]; exact h7
    · rw [wm_set n l i hi, List.length_set, List.take_set, h8]
    · rw [List.length_set]; exact h9

/-! ## all of them -/
/-- Rows in their places, as they are turned. -/
structure JI (S : List Nat) (M3 M12 M : Store) (yv : Value) (vs : List Value) (cur : List (List Wd)) : Prop where
  ch : Ch S M12 M
  nw : Nw 1 Ty.sl_api_Word M3 M yv cur.length vs
  ea : Each (RowE M3 M) vs cur
theorem JI.step {S : List Nat} {M3 M12 M M' : Store} {yv : Value} {vs : List Value} {cur : List (List Wd)} (h : JI S M3 M12 M yv vs cur) (pw : vs.Pairwise fun a b => bx a ≠ bx b) {j : Nat} {v : Value} (hv : vs[j]? = some v) {b : Nat} (hb : bx v = some b) (hS : b ∈ S)
    (c : Ch [b] M M') (k : Keep Ty.api_Word M M') (hn : M'.n = M.n) {ws : List Wd} (hw : NWS M3 M' v ws) : JI S M3 M12 M' yv vs (cur.set j ws) := by
  have hl := h.ea.length
  refine ⟨h.ch.trans (c.mono fun x hx => by rw [List.mem_singleton.1 hx]; exact hS), ?_, Each.of (by rw [List.length_set]; exact hl) fun p h1 h2 => ?_⟩
  · rw [List.length_set]; exact h.nw.keep (by decide) k
  · rw [List.getElem_set]
    obtain ⟨w, hw1, hw2⟩ := h.ea.get p (by rw [← hl]; exact h1)
    rw [List.getElem?_eq_getElem h1] at hw1
    injection hw1 with hw1
    subst hw1
    split
    · rename_i e
      subst e
      rw [List.getElem?_eq_getElem h1] at hv
      injection hv with hv
      subst hv
      obtain ⟨_, b', e1, e2, e3⟩ := hw2
      exact ⟨hw, b', e1, e2, by omega⟩
    · rename_i e
      have hj : j < vs.length := (List.getElem?_eq_some_iff.1 hv).1
      have hvj : vs[j] = v := (List.getElem?_eq_some_iff.1 hv).2
      obtain ⟨g1, b', e1, e2, e3⟩ := hw2
      have hne : b' ≠ b := by
        intro hbb
        subst hbb
        rcases Nat.lt_or_gt_of_ne e with hlt | hlt
        · have := List.pairwise_iff_getElem.1 pw j p hj h1 hlt
          exact this (by rw [hvj, hb, e1])
        · have := List.pairwise_iff_getElem.1 pw p j h1 hj hlt
          exact this (by rw [hvj, hb, e1])
      exact ⟨Nw.fr g1 c (fun b2 h2 => by rw [e1] at h2; injection h2 with h2; subst h2; simpa using hne), b', e1, e2, by omega⟩

section
variable {S : List Nat} {M3 M12 : Store} {yv xv zv pz : Value} {vs : List Value} {n : Nat} {Q : Value → Store → Prop}
theorem row_loop (pw : vs.Pairwise fun a b => bx a ≠ bx b) (hS : ∀ v ∈ vs, ∀ b, bx v = some b → b ∈ S) {j : Nat} {v : Value} (hv : vs[j]? = some v) {cur : List (List Wd)} {ws0 : List Wd} (hj : j < cur.length) (hb0 : ws0.length ≤ 2 ^ 40) (hln : ∀ w ∈ ws0, w.2.1 + n < 2 ^ 62)
    (hK : ∀ M', JI S M3 M12 M' yv vs (cur.set j (ws0.map (shW n))) → P_fettlelaw5_LineJoins_7 (iv (n : Int)) xv yv zv pz yv (iv (cur.length : Int)) (iv (j : Int)) M' Q) :
    ∀ (k i : Nat) (M : Store) (ws : List Wd), k + i = ws0.length → JI S M3 M12 M yv vs (cur.set j ws) → (hl : ws.length = ws0.length) → (∀ p (h1 : p < ws.length) (h2 : p < ws0.length), ws[p] = if p < i then shW n ws0[p] else ws0[p]) →
      P_fettlelaw5_LineJoins_4 (iv (n : Int)) xv yv zv pz v yv (iv (cur.length : Int)) (iv (j : Int)) (iv (ws0.length : Int)) (iv (i : Int)) M Q := by
  intro k
  induction k with
  | zero =>
    intro i M ws hi hJ hl hp
    apply T_fettlelaw5_LineJoins_4
    unfold S_fettlelaw5_LineJoins_4
    rw [lss_n, BR_dec, if_neg (by omega)]
    refine hK M ?_
    have : ws = ws0.map (shW n) := List.ext_getElem (by simpa using hl) fun p h1 h2 => by
      rw [hp p h1 (by omega), if_pos (by omega), List.getElem_map]
    rw [← this]
    exact hJ
  | succ k ih =>
    intro i M ws hi hJ hl hp
    apply T_fettlelaw5_LineJoins_4
    unfold S_fettlelaw5_LineJoins_4
    have hi0 : i < ws0.length := by omega
    have hi1 : i < ws.length := by omega
    rw [lss_n, BR_dec, if_pos hi0]
    apply T_fettlelaw5_LineJoins_6
    unfold S_fettlelaw5_LineJoins_6
    obtain ⟨w, hw1, hw2⟩ := hJ.ea.get j (by rw [List.length_set]; exact hj)
    rw [hv] at hw1
    injection hw1 with hw1
    subst hw1
    rw [List.getElem_set_self] at hw2
    obtain ⟨hw3, b0, hb1, hb2, hb3⟩ := hw2
    have hwi : ws[i] = ws0[i] := by rw [hp i hi1 hi0, if_neg (by omega)]
    have hlt := hln _ (List.getElem_mem hi0)
    refine wd_turn hw3 hi1 (by rw [hwi]; exact hlt) fun M' b hb c kp hn hN => ?_
    rw [add1_n _ (by omega)]
    have hvm : v ∈ vs := List.mem_of_getElem? hv
    have hJ2 := hJ.step pw hv hb (hS v hvm b hb) c kp hn hN
    rw [List.set_set] at hJ2
    refine ih (i + 1) M' _ (by omega) hJ2 (by rw [List.length_set]; exact hl) fun p h1 h2 => ?_
    rw [List.getElem_set]
    split
    · rename_i e
      subst e
      rw [if_pos (by omega), hwi]
    · rename_i e
      have h1' : p < ws.length := by simpa using h1
      rw [hp p h1' h2]
      by_cases hpi : p < i
      · rw [if_pos hpi, if_pos (by omega)]
      · rw [if_neg hpi, if_neg (by omega)]
theorem rows_loop (pw : vs.Pairwise fun a b => bx a ≠ bx b) (hS : ∀ v ∈ vs, ∀ b, bx v = some b → b ∈ S) {rows : List (List Wd)} (hrl : rows.length ≤ 2 ^ 40) (hb0 : ∀ r ∈ rows, r.length ≤ 2 ^ 40) (hln : ∀ r ∈ rows, ∀ w ∈ r, w.2.1 + n < 2 ^ 62)
    (hK : ∀ M', JI S M3 M12 M' yv vs (rows.map (List.map (shW n))) → P_fettlelaw5_LineJoins_5 xv yv zv pz M' Q) :
    ∀ (k j : Nat) (M : Store) (cur : List (List Wd)), k + j = rows.length → JI S M3 M12 M yv vs cur → (hl : cur.length = rows.length) → (∀ p (h1 : p < cur.length) (h2 : p < rows.length), cur[p] = if p < j then rows[p].map (shW n) else rows[p]) →
      P_fettlelaw5_LineJoins_3 (iv (n : Int)) xv yv zv pz yv (iv (rows.length : Int)) (iv (j : Int)) M Q := by
  intro k
  induction k with
  | zero =>
    intro j M cur hj hJ hl hp
    apply T_fettlelaw5_LineJoins_3
    unfold S_fettlelaw5_LineJoins_3
    rw [lss_n, BR_dec, if_neg (by omega)]
    refine hK M ?_
    have : cur = rows.map (List.map (shW n)) := List.ext_getElem (by simpa using hl) fun p h1 h2 => by
      rw [hp p h1 (by omega), if_pos (by omega), List.getElem_map]
    rw [← this]
    exact hJ
  | succ k ih =>
    intro j M cur hj hJ hl hp
    apply T_fettlelaw5_LineJoins_3
    unfold S_fettlelaw5_LineJoins_3
    have hj0 : j < rows.length := by omega
    have hj1 : j < cur.length := by omega
    rw [lss_n, BR_dec, if_pos hj0]
    obtain ⟨v, hv, hE⟩ := hJ.ea.get j hj1
    have hLs : Ls (RowE M3) Ty.sl_api_Word M yv cur := ⟨vs, hJ.nw.sl, hJ.ea⟩
    have hvl := hJ.ea.length
    obtain ⟨p, e1, e2⟩ := hJ.nw.sl.at hj1 .i64
    have hvj : vs[j]? = some v := hv
    have e2 := e2 false
    have : valB false ((vs.drop (j * 1)).take 1) = some v := by
      have hjv : j < vs.length := by omega
      rw [Nat.mul_one, List.drop_eq_getElem_cons hjv]
      have : vs[j] = v := (List.getElem?_eq_some_iff.1 hv).2
      rw [this]
      rfl
    rw [this] at e2
    show OP (ixA 1 yv (.int .i64 (j : Int))) _
    rw [e1, OP_some, e2, OP_some]
    have hcj : cur[j] = rows[j] := by rw [hp j hj1 hj0, if_neg (by omega)]
    rw [hcj] at hE
    have hlenv : lenV v = some (.int .i64 (rows[j].length : Int)) := hE.1.lv.len
    rw [hlenv, OP_some]
    have hset : cur.set j rows[j] = cur := by rw [← hcj]; exact List.set_getElem_self hj1
    rw [← hl]
    refine row_loop pw hS hv hj1 (hb0 _ (List.getElem_mem hj0)) (hln _ (List.getElem_mem hj0)) (fun M' hJ' => ?_) rows[j].length 0 M rows[j] rfl (by rw [hset]; exact hJ) rfl (fun p h1 h2 => by rw [if_neg (by omega)])
    apply T_fettlelaw5_LineJoins_7
    unfold S_fettlelaw5_LineJoins_7
    rw [add1_n _ (by omega), hl]
    refine ih (j + 1) M' _ (by omega) hJ' (by rw [List.length_set]; exact hl) fun p h1 h2 => ?_
    rw [List.getElem_set]
    split
    · rename_i e
      subst e
      rw [if_pos (by omega)]
    · rename_i e
      have h1' : p < cur.length := by simpa using h1
      rw [hp p h1' h2]
      by_cases hpi : p < j
      · rw [if_pos hpi, if_pos (by omega)]
      · rw [if_neg hpi, if_neg (by omega)]
end
end Go.G
