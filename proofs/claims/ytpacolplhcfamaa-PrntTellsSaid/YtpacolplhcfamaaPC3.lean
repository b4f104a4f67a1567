/- Slices put together; frames made; rows compared. -/
import Derived.Test.YtpacolplhcfamaaPGA
import Derived.Test.YtpacolplhcfamaaPU1
namespace Go.G
open Go.Ab Go.Proofs Go.RowKit
set_option linter.unusedVariables false
set_option linter.unusedSimpArgs false

theorem By.up' (M M' : Store) (v : Value) (x : List UInt8) (h : B M v x) (k : Up M M') : B M' v x := Sl.up h k
theorem By.keep' {e : TypeId} (he : Ty.uint8 ≠ e) (M M' : Store) (v : Value) (x : List UInt8) (h : B M v x) (k : Keep e M M') : B M' v x := Sl.keep h he k
/-- A slice of slices of bytes. -/
abbrev BB (M : Store) (v : Value) (ll : List (List UInt8)) : Prop := Ls B Ty.sl_uint8 M v ll

theorem Grow_ok {M : Store} {n : Nat} (hn : n ≤ 2 ^ 26) : R F.slices_Grow_sl_byte_byte #[.slice none 0 0, .int .i64 n] M fun v M' => Up M M' ∧ N M M' v [] := by
  apply T_slices_Grow_sl_byte_byte
  unfold S_slices_Grow_sl_byte_byte
  simp (disch := omega) only [ev, if_neg]
  apply T_slices_Grow_sl_byte_byte_1
  unfold S_slices_Grow_sl_byte_byte_1
  have e1 : capV (.slice none 0 0) = some (.int .i64 0) := rfl
  rw [e1]
  simp (disch := omega) only [ev, w64, Int.sub_self, Int.sub_zero, Int.cast_ofNat_Int]
  split
  · rename_i h0
    have e2 : slV 1 Ty.uint8 (.slice none 0 0) none (some (.int .i64 0)) M = some (.slice none 0 0) := rfl
    have e3 : appZ (.int .u8 0) 1 Ty.uint8 (.slice none 0 0) (.int .i64 n) M = some (.slice (some ⟨M.n, 0, none⟩) n (n + 1), M.push (some (.inl ((zerosOf (.int .u8 0) n).toList, Ty.uint8, true)))) := by
      simp only [appZ, newZ]
      rw [if_pos ⟨by omega, by omega⟩]
      simp only [Option.bind_some, appG, Int.toNat_natCast, Nat.mul_one, zerosL_eq]
      rw [if_neg (by omega), if_pos (by omega)]
      simp [agrow]
    rw [e2, OP_some, e3, OP2_some]
    have e4 : slV 1 Ty.uint8 (.slice (some ⟨M.n, 0, none⟩) n (n + 1)) none (some (.int .i64 0)) (M.push (some (.inl ((zerosOf (.int .u8 0) n).toList, Ty.uint8, true)))) = some (.slice (some ⟨M.n, 0, none⟩) 0 1) := by
      have : elemOk (M.push (some (.inl ((zerosOf (.int .u8 0) n).toList, Ty.uint8, true)))) (some ⟨M.n, 0, none⟩) Ty.uint8 = true := by
        simp [elemOk, Store.get_push_eq]
      simp only [slV, abound, this]
      have h1 : ¬ (n + 1 = n ∧ 0 = n) := by omega
      have h2 : 0 < n := by omega
      simp [h1, h2, addr_plus]
    simp only [e4, ev]
    refine ⟨rfl, Up.push _ _, ?_⟩
    exact ⟨by simp, .inr ⟨M.n, _, 1, rfl, Nat.le_refl _, Store.get_push_eq _ _, by simp, by simp, .inr rfl⟩⟩
  · exact ⟨rfl, Ch.refl _ _, Nw.nil _ _ _ _⟩

def total (ll : List (List UInt8)) : Nat := (ll.map List.length).sum

theorem Concat_sizes {M : Store} {x : Value} {ll : List (List UInt8)} (hx : BB M x ll) {Q : Value → Store → Prop} (hb : total ll ≤ 2 ^ 26) (hlen : ll.length ≤ 2 ^ 26) : ∀ (d i : Nat), d + i = ll.length → P_slices_Concat_sl_byte_byte_3 x (.int .i64 (total ll : Int)) M Q →
    P_slices_Concat_sl_byte_byte_1 x (.int .i64 (total (ll.take i) : Int)) x (.int .i64 (ll.length : Int)) (.int .i64 (i : Int)) M Q := by
  intro d
  induction d with
  | zero =>
    intro i hi h
    apply T_slices_Concat_sl_byte_byte_1
    unfold S_slices_Concat_sl_byte_byte_1
    simp (disch := omega) only [ev, if_neg]
    rw [List.take_of_length_le (by omega)]; exact h
  | succ d ih =>
    intro i hi h
    apply T_slices_Concat_sl_byte_byte_1
    unfold S_slices_Concat_sl_byte_byte_1
    simp (disch := omega) only [ev, if_pos]
    apply T_slices_Concat_sl_byte_byte_2
    unfold S_slices_Concat_sl_byte_byte_2
    obtain ⟨p, w, h1, h2, h3⟩ := hx.at (i := i) (by omega) .i64
    have hs : total (ll.take (i + 1)) = total (ll.take i) + ll[i].length := by
      have ht : ll.take (i + 1) = ll.take i ++ [ll[i]] := List.take_succ_eq_append_getElem (by omega)
      simp only [total, ht, List.map_append, List.sum_append, List.map_cons, List.map_nil, List.sum_cons, List.sum_nil, Nat.add_zero]
    have hle : total (ll.take (i + 1)) ≤ total ll := by
      have : total ll = total (ll.take (i + 1)) + total (ll.drop (i + 1)) := by
        rw [total, total, total, ← List.sum_append, ← List.map_append, List.take_append_drop]
      omega
    simp only [h1, h2, ev, h3.lenV]
    have e1 : IntKind.wrap .i64 ((total (ll.take i) : Int) + (ll[i].length : Int)) = (total (ll.take (i + 1)) : Int) := by
      rw [w64 (by omega) (by omega), hs]; omega
    rw [e1, if_neg (by omega), w64 (by omega) (by omega)]
    exact ih (i + 1) (by omega) h

theorem Concat_all {M0 : Store} {x : Value} {ll : List (List UInt8)} (hx : BB M0 x ll) {Q : Value → Store → Prop} (hb : total ll ≤ 2 ^ 26) (hlen : ll.length ≤ 2 ^ 26) : ∀ (d i : Nat) (M : Store) (v : Value), d + i = ll.length → Up M0 M → N M0 M v (ll.take i).flatten →
    (∀ v' M', Up M0 M' → N M0 M' v' ll.flatten → Q v' M') →
    P_slices_Concat_sl_byte_byte_4 v x (.int .i64 (ll.length : Int)) (.int .i64 (i : Int)) M Q := by
  intro d
  induction d with
  | zero =>
    intro i M v hi hu h hQ
    apply T_slices_Concat_sl_byte_byte_4
    unfold S_slices_Concat_sl_byte_byte_4
    simp (disch := omega) only [ev, if_neg]
    apply T_slices_Concat_sl_byte_byte_5
    refine ⟨nts_of h.sl, hQ _ _ hu ?_⟩
    rw [List.take_of_length_le (by omega)] at h; exact h
  | succ d ih =>
    intro i M v hi hu h hQ
    apply T_slices_Concat_sl_byte_byte_4
    unfold S_slices_Concat_sl_byte_byte_4
    obtain ⟨p, w, h1, h2, h3⟩ := (hx.up By.up' hu).at (i := i) (by omega) .i64
    have hs : (ll.take (i + 1)).flatten = (ll.take i).flatten ++ ll[i] := by
      have ht : ll.take (i + 1) = ll.take i ++ [ll[i]] := List.take_succ_eq_append_getElem (by omega)
      simp only [ht, List.flatten_append, List.flatten_cons, List.flatten_nil, List.append_nil]
    have hle : (ll.take i).flatten.length + ll[i].length ≤ total ll := by
      have e1 : (ll.take (i + 1)).flatten.length = total (ll.take (i + 1)) := by simp [total, List.length_flatten]
      have : total ll = total (ll.take (i + 1)) + total (ll.drop (i + 1)) := by
        rw [total, total, total, ← List.sum_append, ← List.map_append, List.take_append_drop]
      rw [hs, List.length_append] at e1
      omega
    simp (disch := omega) only [ev, if_pos, h1, h2]
    obtain ⟨v', M', e, hu', hN, _⟩ := NB.app hu h h3 (by omega)
    rw [e, OP2_some]
    simp (disch := omega) only [ev, w64]
    refine ih (i + 1) M' v' (by omega) hu' ?_ hQ
    rw [hs]; exact hN

theorem Concat_ok {M : Store} {x : Value} {ll : List (List UInt8)} (hx : BB M x ll) (hb : total ll ≤ 2 ^ 26) (hlen : ll.length ≤ 2 ^ 26) : R F.slices_Concat_sl_byte_byte #[x] M fun v' M' => Up M M' ∧ N M M' v' ll.flatten := by
  apply T_slices_Concat_sl_byte_byte
  unfold S_slices_Concat_sl_byte_byte
  rw [hx.lenV]
  simp only [ev]
  refine Concat_sizes hx hb hlen ll.length 0 (by omega) ?_
  apply T_slices_Concat_sl_byte_byte_3
  unfold S_slices_Concat_sl_byte_byte_3
  refine (Grow_ok hb).mono fun v1 M1 ⟨hu1, h1⟩ => ?_
  rw [hx.lenV]
  simp only [ev]
  exact Concat_all hx hb hlen ll.length 0 M1 v1 (by omega) hu1 (by simpa using h1) fun v' M' hu' h' => ⟨hu', h'⟩

theorem e_lit3s (z : Value) (a b c : Option Addr) (n1 c1 n2 c2 n3 c3 : Nat) (K : List Value → Prop) : OP (bldL z 1 3 [(0, .slice a n1 c1), (1, .slice b n2 c2), (2, .slice c n3 c3)]) K = K [.slice a n1 c1, .slice b n2 c2, .slice c n3 c3] := by kernel_rfl

/-- A frame. -/
def frm (x : List UInt8) : List UInt8 := be 6 x.length ++ x ++ sum4 (crc (be 6 x.length ++ x))
theorem frm_length (x : List UInt8) : (frm x).length = x.length + 10 := by simp [frm, be_length, sum4]; omega

theorem RPut_ok {M : Store} {v x : Value} {l k : List UInt8} (h : B M v l) (hx : B M x k) (hl : l.length ≤ 2 ^ 24) (hk : k.length ≤ 2 ^ 24) :
    R F.fettleref1_Put #[v, x] M fun v' M' => Up M M' ∧ N M M' v' (l ++ frm k) := by
  apply T_fettleref1_Put
  unfold S_fettleref1_Put
  refine (RBytes_ok (l := []) (Sl.nil _ _ _) hx (by simp) hk).mono fun v1 M1 ⟨hu1, h1⟩ => ?_
  simp only [List.nil_append] at h1
  refine (RSum_ok h1.by (by simp [be_length]; omega)).mono fun v2 M2 ⟨e2, e3⟩ => ?_
  subst e2; subst e3
  simp only [ev]
  refine copy0 (Sl.up h hu1) hl fun v3 M3 hu3 h3 => ?_
  obtain ⟨v4, M4, e4, hu4, h4, _⟩ := NB.app hu3 h3 (Sl.up h1.by hu3) (by simp [be_length]; omega)
  rw [e4, OP2_some]
  have h24 := u32_shr (crc (be 6 k.length ++ k)) 24 (by omega)
  have h16 := u32_shr (crc (be 6 k.length ++ k)) 16 (by omega)
  have h8 := u32_shr (crc (be 6 k.length ++ k)) 8 (by omega)
  simp only [Int.cast_ofNat_Int] at h24 h16 h8
  simp only [h24, h16, h8, cv_u8, e_lit4b, ev]
  have h5 : N M2 (M4.push (some (.inl ([bv (UInt8.ofNat (crc (be 6 k.length ++ k) >>> 24).toNat), bv (UInt8.ofNat (crc (be 6 k.length ++ k) >>> 16).toNat), bv (UInt8.ofNat (crc (be 6 k.length ++ k) >>> 8).toNat), bv (UInt8.ofNat (crc (be 6 k.length ++ k)).toNat)], Ty.uint8, true)))) (.slice (some ⟨M4.n, 0, none⟩) 4 4) (sum4 (crc (be 6 k.length ++ k))) :=
    Nw.lit (n := 4) hu4.le rfl
  obtain ⟨v6, M6, e6, hu6, h6, _⟩ := NB.app (hu4.push' _) (Nw.up h4 (Up.push M4 _)) h5.by (by simp [be_length, sum4]; omega)
  rw [e6, OP2_some]
  refine ⟨nts_of h6.sl, hu1.trans hu6, ?_⟩
  have := h6.base hu1.n
  simpa [N, NB, frm] using this

theorem Same_loop {M : Store} {x y : Value} {ll kk : List (List UInt8)} (hx : BB M x ll) (hy : BB M y kk) (hle : ll.length ≤ 2 ^ 26) (hlen : ll.length = kk.length) {Q : Value → Store → Prop} : ∀ (d i : Nat), d + i = ll.length → Q (.bool (decide (ll.drop i = kk.drop i))) M →
    P_fettleref1_SameRows_1 x y (.int .i64 (i : Int)) M Q := by
  intro d
  induction d with
  | zero =>
    intro i hi h
    apply T_fettleref1_SameRows_1
    unfold S_fettleref1_SameRows_1
    rw [hx.lenV]
    simp (disch := omega) only [ev, if_neg]
    apply T_fettleref1_SameRows_3
    rw [List.drop_of_length_le (by omega), List.drop_of_length_le (by omega)] at h
    exact ⟨rfl, h⟩
  | succ d ih =>
    intro i hi h
    apply T_fettleref1_SameRows_1
    unfold S_fettleref1_SameRows_1
    rw [hx.lenV]
    simp (disch := omega) only [ev, if_pos]
    apply T_fettleref1_SameRows_2
    unfold S_fettleref1_SameRows_2
    obtain ⟨p, w, h1, h2, h3⟩ := hx.at (i := i) (by omega) .i64
    obtain ⟨q, u, h4, h5, h6⟩ := hy.at (i := i) (by omega) .i64
    simp only [h1, h2, h4, h5, cvBS_ok h3, cvBS_ok h6, ev, str_neq]
    have e1 : ll.drop i = ll[i] :: ll.drop (i + 1) := List.drop_eq_getElem_cons (by omega)
    have e2 : kk.drop i = kk[i] :: kk.drop (i + 1) := List.drop_eq_getElem_cons (by omega)
    split
    · rename_i hne
      refine ⟨rfl, ?_⟩
      have : ¬ (ll.drop i = kk.drop i) := by rw [e1, e2]; intro e; injection e with e _; exact hne e
      rw [decide_eq_false this] at h; exact h
    · rename_i hne
      have heq : ll[i] = kk[i] := Classical.not_not.1 hne
      rw [w64 (by omega) (by omega)]
      refine ih (i + 1) (by omega) ?_
      have : (ll.drop i = kk.drop i) = (ll.drop (i + 1) = kk.drop (i + 1)) := by rw [e1, e2, heq, List.cons.injEq]; simp only [true_and]
      simp only [this] at h; exact h

theorem Same_ok {M : Store} {x y : Value} {ll kk : List (List UInt8)} (hx : BB M x ll) (hy : BB M y kk) (h1 : ll.length ≤ 2 ^ 26) (h2 : kk.length ≤ 2 ^ 26) : R F.fettleref1_SameRows #[x, y] M fun v M' => M' = M ∧ v = .bool (decide (ll = kk)) := by
  apply T_fettleref1_SameRows
  unfold S_fettleref1_SameRows
  rw [hx.lenV, hy.lenV]
  simp only [ev]
  split
  · rename_i h
    refine ⟨rfl, trivial, ?_⟩
    have : ll ≠ kk := fun e => h (by rw [e])
    simp [this]
  · rename_i h
    exact Same_loop hx hy h1 (by omega) ll.length 0 rfl ⟨rfl, rfl⟩

def frames : List (List UInt8) → List UInt8
  | [] => []
  | x :: r => frm x ++ frames r
theorem frames_append (a b : List (List UInt8)) : frames (a ++ b) = frames a ++ frames b := by
  induction a with
  | nil => rfl
  | cons x a ih => simp [frames, ih]
theorem frames_length (a : List (List UInt8)) : (frames a).length = total a + 10 * a.length := by
  induction a with
  | nil => rfl
  | cons x a ih => simp only [frames, List.length_append, frm_length, ih, total, List.map_cons, List.sum_cons, List.length_cons]; omega

end Go.G
