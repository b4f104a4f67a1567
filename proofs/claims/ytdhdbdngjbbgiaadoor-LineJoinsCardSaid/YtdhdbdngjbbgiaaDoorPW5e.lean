/- Layer 5: what is compared; texts of pieces. -/
import Derived.Test.YtdhdbdngjbbgiaaDoorPGD
import Derived.Test.YtdhdbdngjbbgiaaDoorPW5d
namespace Go.G
open Go.Ab Go.Proofs Go.RowKit
set_option linter.unusedVariables false
set_option linter.unusedSimpArgs false
set_option maxRecDepth 100000

/-! ## faults and words compared -/
theorem ft_abin0 (a b c a' b' c' : Int) : abin Tryd.prog false .eql Ty.api_Fault (.agg #[iv a, iv b, iv c]) (.agg #[iv a', iv b', iv c']) = (if a = a' then if b = b' then if c = c' then some true else some false else some false else some false).bind fun b => some (.bool b) := by kernel_rfl
theorem ft_abin1 (a b c a' b' c' : Int) : abin Tryd.prog false .neq Ty.api_Fault (.agg #[iv a, iv b, iv c]) (.agg #[iv a', iv b', iv c']) = (if a = a' then if b = b' then if c = c' then some true else some false else some false else some false).bind fun b => some (.bool (!b)) := by kernel_rfl
theorem castI (a b : Nat) : ((a : Int) = (b : Int)) ↔ a = b := by omega
theorem ft_dec (f g : Ft) : (if (f.1 : Int) = g.1 then if (f.2.1 : Int) = g.2.1 then if (f.2.2 : Int) = g.2.2 then some true else some false else some false else some false) = some (decide (f = g)) := by
  obtain ⟨a, b, c⟩ := f
  obtain ⟨a', b', c'⟩ := g
  simp only [Prod.mk.injEq, castI]
  by_cases h1 : a = a' <;> by_cases h2 : b = b' <;> by_cases h3 : c = c' <;> simp [h1, h2, h3]
theorem ft_eq (f g : Ft) (K : Value → Prop) : OP (abin Tryd.prog false .eql Ty.api_Fault (fv f) (fv g)) K = K (.bool (decide (f = g))) := by
  show OP (abin Tryd.prog false .eql Ty.api_Fault (.agg #[iv f.1, iv f.2.1, iv f.2.2]) (.agg #[iv g.1, iv g.2.1, iv g.2.2])) K = _
  rw [ft_abin0, ft_dec]; rfl
theorem ft_ne (f g : Ft) (K : Value → Prop) : OP (abin Tryd.prog false .neq Ty.api_Fault (fv f) (fv g)) K = K (.bool (!decide (f = g))) := by
  show OP (abin Tryd.prog false .neq Ty.api_Fault (.agg #[iv f.1, iv f.2.1, iv f.2.2]) (.agg #[iv g.1, iv g.2.1, iv g.2.2])) K = _
  rw [ft_abin1, ft_dec]; rfl
theorem wd_abin1 (a a' : ByteArray) (b c b' c' : Int) (d d' : Bool) : abin Tryd.prog false .neq Ty.api_Word (.agg #[.string a, iv b, iv c, tv d]) (.agg #[.string a', iv b', iv c', tv d']) =
    (if a = a' then if b = b' then if c = c' then if d = d' then some true else some false else some false else some false else some false).bind fun b => some (.bool (!b)) := by kernel_rfl
theorem wd_ne (w u : Wd) (K : Value → Prop) : OP (abin Tryd.prog false .neq Ty.api_Word (wv w) (wv u)) K = K (.bool (!decide (w = u))) := by
  obtain ⟨a, b, c, d⟩ := w
  obtain ⟨a', b', c', d'⟩ := u
  show OP (abin Tryd.prog false .neq Ty.api_Word (.agg #[.string ⟨a.toArray⟩, iv b, iv c, tv d]) (.agg #[.string ⟨a'.toArray⟩, iv b', iv c', tv d'])) K = _
  rw [wd_abin1]
  have hs : ((⟨a.toArray⟩ : ByteArray) = ⟨a'.toArray⟩) ↔ a = a' := by
    constructor
    · intro h; injection h with h; simpa using h
    · intro h; rw [h]
  simp only [hs, Prod.mk.injEq, castI]
  by_cases h1 : a = a' <;> by_cases h2 : b = b' <;> by_cases h3 : c = c' <;> by_cases h4 : d = d' <;> simp [h1, h2, h3, h4, OP]

/-- A row of a list is taken. -/
theorem ls_ld {α : Type} {E : Store → Value → α → Prop} {e : TypeId} {M : Store} {v : Value} {xs : List α} (h : Ls E e M v xs) {i : Nat} (hi : i < xs.length) {K : Value → Prop} (hK : ∀ w, E M w xs[i] → K w) : OP (ixA 1 v (iv (i : Int))) fun p => OP (ld 1 false p M) K := by
  obtain ⟨p, w, e1, e2, e3⟩ := h.at hi .i64
  show OP (ixA 1 v (.int .i64 (i : Int))) _
  rw [e1, OP_some, e2, OP_some]
  exact hK w e3
/-- A word of a row is taken. -/
theorem ws_ld {M : Store} {v : Value} {ws : List Wd} (h : WS M v ws) {i : Nat} (hi : i < ws.length) (K : Value → Prop) : (OP (ixA 4 v (iv (i : Int))) fun p => OP (ld 4 true p M) K) = K (wv ws[i]) := by
  obtain ⟨p, e1, e2⟩ := LK.at wcs_len h hi .i64
  show (OP (ixA 4 v (.int .i64 (i : Int))) fun p => OP (ld 4 true p M) K) = _
  rw [e1, OP_some, e2 true]; rfl

/-- A part of a word of a row is taken. -/
theorem ws_fld {M : Store} {v : Value} {ws : List Wd} (h : WS M v ws) {i : Nat} (hi : i < ws.length) {f : Nat} {w : Value} (hf : (wcs ws[i])[f]? = some w) (K : Value → Prop) : (OP (ixA 4 v (iv (i : Int))) fun p => OP (fad f p) fun p => OP (ld 1 false p M) K) = K w := by
  obtain ⟨b, o, e1, e2⟩ := LK.fld wcs_len h hi hf .i64
  show (OP (ixA 4 v (.int .i64 (i : Int))) fun p => OP (fad f p) fun p => OP (ld 1 false p M) K) = _
  rw [e1, OP_some, e_fad, e2, OP_some]
theorem bool_eq (a b : Bool) (K : Value → Prop) : OP (abin Tryd.prog false .eql Ty.bool (tv a) (tv b)) K = K (tv (a == b)) := by
  have : abin Tryd.prog false .eql Ty.bool (.bool a) (.bool b) = some (.bool (a == b)) := by kernel_rfl
  rw [this]; rfl
theorem bool_ne (a b : Bool) (K : Value → Prop) : OP (abin Tryd.prog false .neq Ty.bool (tv a) (tv b)) K = K (tv (a != b)) := by
  have : abin Tryd.prog false .neq Ty.bool (.bool a) (.bool b) = some (.bool (a != b)) := by kernel_rfl
  rw [this]; rfl
section
variable {M : Store} {v w : Value} {xs ys : List (List Wd)}
theorem same_row (hx : RW M v xs) (hy : RW M w ys) (hlen : xs.length = ys.length) (hb : xs.length ≤ 2 ^ 28) (hbr : ∀ r ∈ xs, r.length ≤ 2 ^ 28) {i : Nat} (hi : i < xs.length) {Q : Value → Store → Prop} (hQ : xs[i] = ys[i]'(by omega) → P_fettleref4_SameLines_6 v w (iv (i : Int)) M Q)
    (hno : xs[i] ≠ ys[i]'(by omega) → Q (tv false) M) :
    ∀ (d j : Nat), d + j = xs[i].length → (xs[i]).length = (ys[i]'(by omega)).length → xs[i].take j = (ys[i]'(by omega)).take j → P_fettleref4_SameLines_4 v w (iv (i : Int)) (iv (j : Int)) M Q := by
  intro d
  induction d with
  | zero =>
    intro j hj hl ht
    apply T_fettleref4_SameLines_4
    unfold S_fettleref4_SameLines_4
    refine ls_ld hx hi fun u hu => ?_
    rw [hu.len, OP_some, lss_n, BR_dec, if_neg (by omega)]
    refine hQ ?_
    rw [List.take_of_length_le (by omega), List.take_of_length_le (by omega)] at ht
    exact ht
  | succ d ih =>
    intro j hj hl ht
    have := hbr _ (List.getElem_mem hi)
    apply T_fettleref4_SameLines_4
    unfold S_fettleref4_SameLines_4
    refine ls_ld hx hi fun u hu => ?_
    rw [hu.len, OP_some, lss_n, BR_dec, if_pos (by omega)]
    apply T_fettleref4_SameLines_5
    unfold S_fettleref4_SameLines_5
    refine ls_ld hx hi fun u hu => ?_
    rw [ws_ld hu (by omega)]
    refine ls_ld hy (by omega) fun u2 hu2 => ?_
    rw [ws_ld hu2 (by omega), wd_ne, BR_bool]
    split
    · rename_i h
      refine ⟨rfl, hno fun he => ?_⟩
      rw [Bool.not_eq_true', decide_eq_false_iff_not] at h
      apply h
      have : xs[i][j]? = (ys[i]'(by omega))[j]? := by rw [he]
      rw [List.getElem?_eq_getElem (by omega), List.getElem?_eq_getElem (by omega)] at this
      exact Option.some.inj this
    · rename_i h
      have h : xs[i][j]'(by omega) = (ys[i]'(by omega))[j]'(by omega) := by simpa using h
      rw [add1_n _ (by omega)]
      refine ih (j + 1) (by omega) hl ?_
      rw [List.take_succ_eq_append_getElem (by omega), List.take_succ_eq_append_getElem (by omega), ht, h]
theorem same_loop (hx : RW M v xs) (hy : RW M w ys) (hlen : xs.length = ys.length) (hb : xs.length ≤ 2 ^ 28) (hbr : ∀ r ∈ xs, r.length ≤ 2 ^ 28) {Q : Value → Store → Prop} (hQ : Q (tv (decide (xs = ys))) M) :
    ∀ (d i : Nat), d + i = xs.length → xs.take i = ys.take i → P_fettleref4_SameLines_1 v w (iv (i : Int)) M Q := by
  intro d
  induction d with
  | zero =>
    intro i hi ht
    apply T_fettleref4_SameLines_1
    unfold S_fettleref4_SameLines_1
    rw [hx.lenV, OP_some, lss_n, BR_dec, if_neg (by omega)]
    apply T_fettleref4_SameLines_3
    unfold S_fettleref4_SameLines_3
    rw [List.take_of_length_le (by omega), List.take_of_length_le (by omega)] at ht
    rw [decide_eq_true ht] at hQ
    exact ⟨rfl, hQ⟩
  | succ d ih =>
    intro i hi ht
    apply T_fettleref4_SameLines_1
    unfold S_fettleref4_SameLines_1
    have hil : i < xs.length := by omega
    rw [hx.lenV, OP_some, lss_n, BR_dec, if_pos hil]
    apply T_fettleref4_SameLines_2
    unfold S_fettleref4_SameLines_2
    have hne : xs[i] ≠ ys[i]'(by omega) → Q (tv false) M := fun h => by
      have : ¬ xs = ys := fun e => h (by
        have : xs[i]? = ys[i]? := by rw [e]
        rw [List.getElem?_eq_getElem hil, List.getElem?_eq_getElem (by omega)] at this
        exact Option.some.inj this)
      rw [decide_eq_false this] at hQ; exact hQ
    refine ls_ld hx hil fun u hu => ?_
    rw [hu.len, OP_some]
    refine ls_ld hy (by omega) fun u2 hu2 => ?_
    rw [hu2.len, OP_some, neq_n, BR_dec]
    split
    · rename_i h
      exact ⟨rfl, hne fun e => h (by rw [e])⟩
    · rename_i h
      refine same_row hx hy hlen hb hbr hil (fun he => ?_) hne xs[i].length 0 rfl (by simpa using h) (by simp)
      apply T_fettleref4_SameLines_6
      unfold S_fettleref4_SameLines_6
      rw [add1_n _ (by omega)]
      refine ih (i + 1) (by omega) ?_
      rw [List.take_succ_eq_append_getElem hil, List.take_succ_eq_append_getElem (by omega), ht, he]
theorem SameLines_ok (hx : RW M v xs) (hy : RW M w ys) (hb : xs.length ≤ 2 ^ 28) (hbr : ∀ r ∈ xs, r.length ≤ 2 ^ 28) {Q : Value → Store → Prop} (hQ : Q (tv (decide (xs = ys))) M) : R F.fettleref4_SameLines #[v, w] M Q := by
  apply T_fettleref4_SameLines
  unfold S_fettleref4_SameLines
  rw [hx.lenV, OP_some, hy.lenV, OP_some, neq_n, BR_dec]
  split
  · rename_i h
    have : ¬ xs = ys := fun e => h (by rw [e])
    rw [decide_eq_false this] at hQ
    exact ⟨rfl, hQ⟩
  · rename_i h
    exact same_loop hx hy (by simpa using h) hb hbr hQ xs.length 0 (by omega) (by simp)
end

/-! ## sizes -/
theorem rowsF_size : ∀ (ls : List (List UInt8)) (line : Nat) (rows : List (List Wd)), rowsF line ls = .inr rows → rows.length ≤ ls.length
  | [], _, rows, h => by injection h with h; subst h; simp
  | l :: ls, line, rows, h => by
    rw [rowsF] at h
    split at h
    · cases h
    · rename_i ws hw
      cases hr : rowsF (line + 1) ls with
      | inl f => rw [hr] at h; cases h
      | inr rs =>
        rw [hr] at h
        injection h with h; subst h
        have := rowsF_size ls _ _ hr
        unfold pushR
        split <;> simp <;> omega
theorem wordsN_size : ∀ (k line col : Nat) (row : List Wd) (r : List UInt8) (ws : List Wd), r.length < k → wordsN k line col row r = .inr ws → ws.length ≤ row.length + r.length := by
  intro k
  induction k with
  | zero => intro _ _ _ r _ h; omega
  | succ k ih =>
    intro line col row r ws h hw
    cases r with
    | nil => injection hw with hw; subst hw; simp
    | cons c t =>
      rw [List.length_cons] at h ⊢
      simp only [wordsN] at hw
      split at hw
      · have := ih _ _ _ _ _ (by omega) hw; omega
      · split at hw
        · injection hw with hw; subst hw; omega
        · cases ht : tokC line col c t with
          | inl f => rw [ht] at hw; cases hw
          | inr p =>
            obtain ⟨w, n⟩ := p
            rw [ht] at hw
            have h1 := tokF_pos ht
            have h3 := drop_pos_lt (t := t) (c := c) h1
            have := ih _ _ _ _ _ (by omega) hw
            rw [List.length_append] at this
            simp at this
            omega
theorem rowsF_rows (m : Nat) : ∀ (ls : List (List UInt8)) (line : Nat) (rows : List (List Wd)), (∀ l ∈ ls, l.length ≤ m) → rowsF line ls = .inr rows → ∀ r ∈ rows, r.length ≤ m
  | [], _, rows, _, h => by injection h with h; subst h; intro r hr; cases hr
  | l :: ls, line, rows, hm, h => by
    rw [rowsF] at h
    split at h
    · cases h
    · rename_i ws hw
      cases hr : rowsF (line + 1) ls with
      | inl f => rw [hr] at h; cases h
      | inr rs =>
        rw [hr] at h
        injection h with h; subst h
        have := rowsF_rows m ls _ _ (fun l hl => hm l (by simp [hl])) hr
        unfold pushR
        intro r hrr
        split at hrr
        · exact this r hrr
        · rcases List.mem_cons.1 hrr with rfl | hrr
          · have h1 := wordsN_size _ _ _ _ _ _ (Nat.lt_succ_self _) hw
            have h2 := hm l (by simp)
            simp at h1; omega
          · exact this r hrr
theorem splitF_size {b : List UInt8} {rows : List (List Wd)} (h : splitF b = .inr rows) : rows.length ≤ b.length + 1 ∧ ∀ r ∈ rows, r.length ≤ b.length := by
  rw [splitF_rows, linesF_cut] at h
  have h1 := rowsF_size _ _ _ h
  have h2 := cutF_length 10 b
  have h3 := List.countP_le_length (p := fun c => c == (10 : UInt8)) (l := b)
  exact ⟨by omega, rowsF_rows b.length _ _ _ (fun l hl => cutF_le 10 b l hl) h⟩

/-! ## pieces -/
def piecesT : List (List UInt8) := [[114, 117, 108, 101], [112, 104, 111, 110, 121], [100, 101, 102, 97, 117, 108, 116], [108, 101, 116], [58], [61], [124], [44], [59], [97], [98], [99], [100], [120, 46, 111], [115, 114, 99], [36, 118], [36, 119], [116, 101, 120, 116], [105, 110], [97, 108, 108], [117, 112, 112, 101, 114], [114, 101, 118], [116, 97, 107, 101], [48], [51], [48, 48, 55], [106, 111, 105, 110], [102, 97, 105, 108], [34, 104, 105, 34], [34, 34], [34], [35], [10], [10], [10], [65], [195, 169], [9], [108, 101, 116, 32, 118, 32, 61, 32, 97, 108, 108, 32, 59, 32, 117, 112, 112, 101, 114, 10], [114, 117, 108, 101, 32, 97, 32, 58, 32, 98, 32, 61, 32, 97, 108, 108, 10], [114, 117, 108, 101, 32, 99, 32, 100, 32, 58, 32, 115, 114, 99, 32, 124, 32, 97, 32, 61, 32, 105, 110, 32, 48, 32, 44, 32, 116, 101, 120, 116, 32, 34, 113, 34, 10], [112, 104, 111, 110, 121, 32, 97, 108, 108, 32, 58, 32, 97, 10], [100, 101, 102, 97, 117, 108, 116, 32, 97, 10]]
theorem pieces_lit (K : List Value → Prop) : OP (bldL (.string ⟨#[]⟩) 1 43 [(0, (.string ⟨#[114, 117, 108, 101]⟩)), (1, (.string ⟨#[112, 104, 111, 110, 121]⟩)), (2, (.string ⟨#[100, 101, 102, 97, 117, 108, 116]⟩)), (3, (.string ⟨#[108, 101, 116]⟩)), (4, (.string ⟨#[58]⟩)), (5, (.string ⟨#[61]⟩)), (6, (.string ⟨#[124]⟩)), (7, (.string ⟨#[44]⟩)), (8, (.string ⟨#[59]⟩)), (9, (.string ⟨#[97]⟩)), (10, (.string ⟨#[98]⟩)), (11, (.string ⟨#[99]⟩)), (12, (.string ⟨#[100]⟩)), (13, (.string ⟨#[120, 46, 111]⟩)), (14, (.string ⟨#[115, 114, 99]⟩)), (15, (.string ⟨#[36, 118]⟩)), (16, (.string ⟨#[36, 119]⟩)), (17, (.string ⟨#[116, 101, 120, 116]⟩)), (18, (.string ⟨#[105, 110]⟩)), (19, (.string ⟨#[97, 108, 108]⟩)), (20, (.string ⟨#[117, 112, 112, 101, 114]⟩)), (21, (.string ⟨#[114, 101, 118]⟩)), (22, (.string ⟨#[116, 97, 107, 101]⟩)), (23, (.string ⟨#[48]⟩)), (24, (.string ⟨#[51]⟩)), (25, (.string ⟨#[48, 48, 55]⟩)), (26, (.string ⟨#[106, 111, 105, 110]⟩)), (27, (.string ⟨#[102, 97, 105, 108]⟩)), (28, (.string ⟨#[34, 104, 105, 34]⟩)), (29, (.string ⟨#[34, 34]⟩)), (30, (.string ⟨#[34]⟩)), (31, (.string ⟨#[35]⟩)), (32, (.string ⟨#[10]⟩)), (33, (.string ⟨#[10]⟩)), (34, (.string ⟨#[10]⟩)), (35, (.string ⟨#[65]⟩)), (36, (.string ⟨#[195, 169]⟩)), (37, (.string ⟨#[9]⟩)), (38, (.string ⟨#[108, 101, 116, 32, 118, 32, 61, 32, 97, 108, 108, 32, 59, 32, 117, 112, 112, 101, 114, 10]⟩)), (39, (.string ⟨#[114, 117, 108, 101, 32, 97, 32, 58, 32, 98, 32, 61, 32, 97, 108, 108, 10]⟩)), (40, (.string ⟨#[114, 117, 108, 101, 32, 99, 32, 100, 32, 58, 32, 115, 114, 99, 32, 124, 32, 97, 32, 61, 32, 105, 110, 32, 48, 32, 44, 32, 116, 101, 120, 116, 32, 34, 113, 34, 10]⟩)), (41, (.string ⟨#[112, 104, 111, 110, 121, 32, 97, 108, 108, 32, 58, 32, 97, 10]⟩)), (42, (.string ⟨#[100, 101, 102, 97, 117, 108, 116, 32, 97, 10]⟩))]) K = K (piecesT.map sv) := by kernel_rfl
theorem pieces_len : ∀ x ∈ piecesT, x.length ≤ 64 := by decide
theorem Text_loop {M0 : Store} {x0 x3 : Value} {zs : List Int} {Q : Value → Store → Prop} (hQ : ∀ v M t, Up M0 M → N M0 M v t → t.length ≤ 4000 → Q v M) :
    ∀ (d i : Nat) (x4 : Value) (t : List UInt8) (M : Store), d + i = min zs.length 50 → t.length ≤ 65 * i → Up M0 M → LV iv Ty.int M x0 zs → LV sv Ty.string M x3 piecesT → N M0 M x4 t → P_fettlelaw5_Text_1 x0 x3 x4 (iv (i : Int)) M Q := by
  intro d
  induction d with
  | zero =>
    intro i x4 t M hi ht hu hz h3 hN
    apply T_fettlelaw5_Text_1
    unfold S_fettlelaw5_Text_1
    have fin : P_fettlelaw5_Text_3 x4 M Q := by
      apply T_fettlelaw5_Text_3
      unfold S_fettlelaw5_Text_3
      exact ⟨nts_of hN.by, hQ x4 M t hu hN (by omega)⟩
    rw [hz.len, OP_some, lss_n, BR_dec]
    split
    · rw [lss_l 50 50 rfl, BR_dec, if_neg (by omega)]
      exact fin
    · exact fin
  | succ d ih =>
    intro i x4 t M hi ht hu hz h3 hN
    apply T_fettlelaw5_Text_1
    unfold S_fettlelaw5_Text_1
    rw [hz.len, OP_some, lss_n, BR_dec, if_pos (by omega), lss_l 50 50 rfl, BR_dec, if_pos (by omega)]
    apply T_fettlelaw5_Text_2
    unfold S_fettlelaw5_Text_2
    have hzi : i < zs.length := by omega
    obtain ⟨p, e1, e2⟩ := hz.at hzi .i64
    rw [e1, OP_some, e2, OP_some]
    have ea := e_andN zs[i] 65535 (by decide)
    show OP (binI .and (.int .i64 zs[i]) (.int .i64 ((65535 : Nat) : Int))) _
    rw [ea, OP_some, h3.len, OP_some]
    have hpl : piecesT.length = 43 := rfl
    rw [e_rem _ _ (by rw [hpl]; decide), OP_some]
    have hk : andN zs[i] 65535 % piecesT.length < piecesT.length := Nat.mod_lt _ (by rw [hpl]; decide)
    obtain ⟨p3, g1, g2⟩ := h3.at hk .i64
    rw [g1, OP_some, g2, OP_some]
    have hpc := pieces_len _ (List.getElem_mem hk)
    generalize piecesT[andN zs[i] 65535 % piecesT.length] = pc at *
    refine appT_ok hu hN pc (by omega) fun v1 M1 hu1 hN1 hk1 => ?_
    have hz1 : LV iv Ty.int M1 x0 zs := Sl.keep hz (by decide) hk1
    have h31 : LV sv Ty.string M1 x3 piecesT := Sl.keep h3 (by decide) hk1
    obtain ⟨p', e1', e2'⟩ := hz1.at hzi .i64
    rw [e1] at e1'
    injection e1' with e1'
    subst e1'
    rw [OP_some, e2', OP_some]
    show OP (binI .shr (.int .i64 zs[i]) (.int .u64 ((16 : Nat) : Int))) _
    rw [e_shrN _ 16 (by decide)]
    have ea3 := e_andN (shrN zs[i] 16) 3 (by decide)
    show OP (binI .and (.int .i64 (shrN zs[i] 16)) (.int .i64 ((3 : Nat) : Int))) _
    rw [ea3, OP_some, gtr_l 0 0 rfl, BR_dec]
    split
    · show OP (bldL (.int .u8 0) 1 1 [(0, bv 32)]) _
      rw [bl_bv]
      refine s_lit (s := 1) rfl fun M2 u2 hl2 o2 n2 => ?_
      have hx2 : By Ty.uint8 M2 (.slice (some ⟨M1.n, 0, none⟩) 1 1) [32] := hl2.sl
      have hN2 : NB Ty.uint8 M0 M2 v1 (t ++ pc) := Nw.up hN1 u2
      refine app_by (hu1.trans u2) hN2 hx2 (by simp; omega) fun v' M' hu' hN' hk' => ?_
      rw [add1_n _ (by omega)]
      exact ih (i + 1) v' _ M' (by omega) (by simp; omega) hu' (Sl.keep (hz1.up u2) (by decide) hk') (Sl.keep (h31.up u2) (by decide) hk') hN'
    · rw [add1_n _ (by omega)]
      exact ih (i + 1) v1 _ M1 (by omega) (by simp; omega) hu1 hz1 h31 hN1
theorem Text_ok {M : Store} {x0 : Value} {zs : List Int} (hz : LV iv Ty.int M x0 zs) : R F.fettlelaw5_Text #[x0] M fun v M' => Up M M' ∧ ∃ t, N M M' v t ∧ t.length ≤ 4000 := by
  refine R.cps fun Q hQ => ?_
  apply T_fettlelaw5_Text
  unfold S_fettlelaw5_Text
  rw [pieces_lit]
  refine s_lit (s := 1) rfl fun M1 u1 h1 o1 n1 => ?_
  exact Text_loop (M0 := M) (fun v M' t hu hN hl => hQ _ _ ⟨hu, t, hN, hl⟩) (min zs.length 50) 0 _ [] M1 (by omega) (by simp) u1 (hz.up u1) h1.sl (Nw.nil 1 _ _ _)
end Go.G
