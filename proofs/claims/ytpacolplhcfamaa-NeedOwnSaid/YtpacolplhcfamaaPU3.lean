/- Slices put together; frames made; rows compared. Readers: numbers and bytes read one behind the other. The document's own readers. Frames found: the document's own scan. Frames found, by the program. Frames gone through, and all of them. A range over frames whose rounds write boxes alone. Ends of readers. -/
import Derived.Test.YtpacolplhcfamaaPGA
import Derived.Test.YtpacolplhcfamaaPU1
import Derived.Test.YtpacolplhcfamaaPGB
namespace Go.G
open Go.Ab Go.Proofs Go.RowKit
set_option linter.unusedVariables false
set_option linter.unusedSimpArgs false

theorem By.up' (M M' : Store) (v : Value) (x : List UInt8) (h : B M v x) (k : Up M M') : B M' v x := Sl.up h k
theorem By.keep' {e : TypeId} (he : Ty.uint8 ≠ e) (M M' : Store) (v : Value) (x : List UInt8) (h : B M v x) (k : Keep e M M') : B M' v x := Sl.keep h he k
/-- A slice of slices of bytes. -/
abbrev BB (M : Store) (v : Value) (ll : List (List UInt8)) : Prop := Ls B Ty.sl_uint8 M v ll

theorem Grow_ok {M : Store} {n : Nat} (hn : n ≤ 2 ^ 26) : R F.slices_Grow_sl_byte_byte #[.slice none 0 0, .int .i64 n] M fun v M' => Up M M' ∧ N M M' v [] := by
  apply T_slices_Grow_sl_byte_byte
  unfold S_slices_Grow_sl_byte_byte
  simp (disch := omega) only [ev, if_neg]
  apply T_slices_Grow_sl_byte_byte_1
  unfold S_slices_Grow_sl_byte_byte_1
  have e1 : capV (.slice none 0 0) = some (.int .i64 0) := rfl
  rw [e1]
  simp (disch := omega) only [ev, w64, Int.sub_self, Int.sub_zero, Int.cast_ofNat_Int]
  split
  · rename_i h0
    have e2 : slV 1 Ty.uint8 (.slice none 0 0) none (some (.int .i64 0)) M = some (.slice none 0 0) := rfl
    have e3 : appZ (.int .u8 0) 1 Ty.uint8 (.slice none 0 0) (.int .i64 n) M = some (.slice (some ⟨M.n, 0, none⟩) n (n + 1), M.push (some (.inl ((zerosOf (.int .u8 0) n).toList, Ty.uint8, true)))) := by
      simp only [appZ, newZ]
      rw [if_pos ⟨by omega, by omega⟩]
      simp only [Option.bind_some, appG, Int.toNat_natCast, Nat.mul_one, zerosL_eq]
      rw [if_neg (by omega), if_pos (by omega)]
      simp [agrow]
    rw [e2, OP_some, e3, OP2_some]
    have e4 : slV 1 Ty.uint8 (.slice (some ⟨M.n, 0, none⟩) n (n + 1)) none (some (.int .i64 0)) (M.push (some (.inl ((zerosOf (.int .u8 0) n).toList, Ty.uint8, true)))) = some (.slice (some ⟨M.n, 0, none⟩) 0 1) := by
      have : elemOk (M.push (some (.inl ((zerosOf (.int .u8 0) n).toList, Ty.uint8, true)))) (some ⟨M.n, 0, none⟩) Ty.uint8 = true := by
        simp [elemOk, Store.get_push_eq]
      simp only [slV, abound, this]
      have h1 : ¬ (n + 1 = n ∧ 0 = n) := by omega
      have h2 : 0 < n := by omega
      simp [h1, h2, addr_plus]
    simp only [e4, ev]
    refine ⟨rfl, Up.push _ _, ?_⟩
    exact ⟨by simp, .inr ⟨M.n, _, 1, rfl, Nat.le_refl _, Store.get_push_eq _ _, by simp, by simp, .inr rfl⟩⟩
  · exact ⟨rfl, Ch.refl _ _, Nw.nil _ _ _ _⟩

def total (ll : List (List UInt8)) : Nat := (ll.map List.length).sum

theorem Concat_sizes {M : Store} {x : Value} {ll : List (List UInt8)} (hx : BB M x ll) {Q : Value → Store → Prop} (hb : total ll ≤ 2 ^ 26) (hlen : ll.length ≤ 2 ^ 26) : ∀ (d i : Nat), d + i = ll.length → P_slices_Concat_sl_byte_byte_3 x (.int .i64 (total ll : Int)) M Q →
    P_slices_Concat_sl_byte_byte_1 x (.int .i64 (total (ll.take i) : Int)) x (.int .i64 (ll.length : Int)) (.int .i64 (i : Int)) M Q := by
  intro d
  induction d with
  | zero =>
    intro i hi h
    apply T_slices_Concat_sl_byte_byte_1
    unfold S_slices_Concat_sl_byte_byte_1
    simp (disch := omega) only [ev, if_neg]
    rw [List.take_of_length_le (by omega)]; exact h
  | succ d ih =>
    intro i hi h
    apply T_slices_Concat_sl_byte_byte_1
    unfold S_slices_Concat_sl_byte_byte_1
    simp (disch := omega) only [ev, if_pos]
    apply T_slices_Concat_sl_byte_byte_2
    unfold S_slices_Concat_sl_byte_byte_2
    obtain ⟨p, w, h1, h2, h3⟩ := hx.at (i := i) (by omega) .i64
    have hs : total (ll.take (i + 1)) = total (ll.take i) + ll[i].length := by
      have ht : ll.take (i + 1) = ll.take i ++ [ll[i]] := List.take_succ_eq_append_getElem (by omega)
      simp only [total, ht, List.map_append, List.sum_append, List.map_cons, List.map_nil, List.sum_cons, List.sum_nil, Nat.add_zero]
    have hle : total (ll.take (i + 1)) ≤ total ll := by
      have : total ll = total (ll.take (i + 1)) + total (ll.drop (i + 1)) := by
        rw [total, total, total, ← List.sum_append, ← List.map_append, List.take_append_drop]
      omega
    simp only [h1, h2, ev, h3.lenV]
    have e1 : IntKind.wrap .i64 ((total (ll.take i) : Int) + (ll[i].length : Int)) = (total (ll.take (i + 1)) : Int) := by
      rw [w64 (by omega) (by omega), hs]; omega
    rw [e1, if_neg (by omega), w64 (by omega) (by omega)]
    exact ih (i + 1) (by omega) h

theorem Concat_all {M0 : Store} {x : Value} {ll : List (List UInt8)} (hx : BB M0 x ll) {Q : Value → Store → Prop} (hb : total ll ≤ 2 ^ 26) (hlen : ll.length ≤ 2 ^ 26) : ∀ (d i : Nat) (M : Store) (v : Value), d + i = ll.length → Up M0 M → N M0 M v (ll.take i).flatten →
    (∀ v' M', Up M0 M' → N M0 M' v' ll.flatten → Q v' M') →
    P_slices_Concat_sl_byte_byte_4 v x (.int .i64 (ll.length : Int)) (.int .i64 (i : Int)) M Q := by
  intro d
  induction d with
  | zero =>
    intro i M v hi hu h hQ
    apply T_slices_Concat_sl_byte_byte_4
    unfold S_slices_Concat_sl_byte_byte_4
    simp (disch := omega) only [ev, if_neg]
    apply T_slices_Concat_sl_byte_byte_5
    refine ⟨nts_of h.sl, hQ _ _ hu ?_⟩
    rw [List.take_of_length_le (by omega)] at h; exact h
  | succ d ih =>
    intro i M v hi hu h hQ
    apply T_slices_Concat_sl_byte_byte_4
    unfold S_slices_Concat_sl_byte_byte_4
    obtain ⟨p, w, h1, h2, h3⟩ := (hx.up By.up' hu).at (i := i) (by omega) .i64
    have hs : (ll.take (i + 1)).flatten = (ll.take i).flatten ++ ll[i] := by
      have ht : ll.take (i + 1) = ll.take i ++ [ll[i]] := List.take_succ_eq_append_getElem (by omega)
      simp only [ht, List.flatten_append, List.flatten_cons, List.flatten_nil, List.append_nil]
    have hle : (ll.take i).flatten.length + ll[i].length ≤ total ll := by
      have e1 : (ll.take (i + 1)).flatten.length = total (ll.take (i + 1)) := by simp [total, List.length_flatten]
      have : total ll = total (ll.take (i + 1)) + total (ll.drop (i + 1)) := by
        rw [total, total, total, ← List.sum_append, ← List.map_append, List.take_append_drop]
      rw [hs, List.length_append] at e1
      omega
    simp (disch := omega) only [ev, if_pos, h1, h2]
    obtain ⟨v', M', e, hu', hN, _⟩ := NB.app hu h h3 (by omega)
    rw [e, OP2_some]
    simp (disch := omega) only [ev, w64]
    refine ih (i + 1) M' v' (by omega) hu' ?_ hQ
    rw [hs]; exact hN

theorem Concat_ok {M : Store} {x : Value} {ll : List (List UInt8)} (hx : BB M x ll) (hb : total ll ≤ 2 ^ 26) (hlen : ll.length ≤ 2 ^ 26) : R F.slices_Concat_sl_byte_byte #[x] M fun v' M' => Up M M' ∧ N M M' v' ll.flatten := by
  apply T_slices_Concat_sl_byte_byte
  unfold S_slices_Concat_sl_byte_byte
  rw [hx.lenV]
  simp only [ev]
  refine Concat_sizes hx hb hlen ll.length 0 (by omega) ?_
  apply T_slices_Concat_sl_byte_byte_3
  unfold S_slices_Concat_sl_byte_byte_3
  refine (Grow_ok hb).mono fun v1 M1 ⟨hu1, h1⟩ => ?_
  rw [hx.lenV]
  simp only [ev]
  exact Concat_all hx hb hlen ll.length 0 M1 v1 (by omega) hu1 (by simpa using h1) fun v' M' hu' h' => ⟨hu', h'⟩

theorem e_lit3s (z : Value) (a b c : Option Addr) (n1 c1 n2 c2 n3 c3 : Nat) (K : List Value → Prop) : OP (bldL z 1 3 [(0, .slice a n1 c1), (1, .slice b n2 c2), (2, .slice c n3 c3)]) K = K [.slice a n1 c1, .slice b n2 c2, .slice c n3 c3] := by kernel_rfl

/-- A frame. -/
def frm (x : List UInt8) : List UInt8 := be 6 x.length ++ x ++ sum4 (crc (be 6 x.length ++ x))
theorem frm_length (x : List UInt8) : (frm x).length = x.length + 10 := by simp [frm, be_length, sum4]; omega

theorem RPut_ok {M : Store} {v x : Value} {l k : List UInt8} (h : B M v l) (hx : B M x k) (hl : l.length ≤ 2 ^ 24) (hk : k.length ≤ 2 ^ 24) :
    R F.fettleref1_Put #[v, x] M fun v' M' => Up M M' ∧ N M M' v' (l ++ frm k) := by
  apply T_fettleref1_Put
  unfold S_fettleref1_Put
  refine (RBytes_ok (l := []) (Sl.nil _ _ _) hx (by simp) hk).mono fun v1 M1 ⟨hu1, h1⟩ => ?_
  simp only [List.nil_append] at h1
  refine (RSum_ok h1.by (by simp [be_length]; omega)).mono fun v2 M2 ⟨e2, e3⟩ => ?_
  subst e2; subst e3
  simp only [ev]
  refine copy0 (Sl.up h hu1) hl fun v3 M3 hu3 h3 => ?_
  obtain ⟨v4, M4, e4, hu4, h4, _⟩ := NB.app hu3 h3 (Sl.up h1.by hu3) (by simp [be_length]; omega)
  rw [e4, OP2_some]
  have h24 := u32_shr (crc (be 6 k.length ++ k)) 24 (by omega)
  have h16 := u32_shr (crc (be 6 k.length ++ k)) 16 (by omega)
  have h8 := u32_shr (crc (be 6 k.length ++ k)) 8 (by omega)
  simp only [Int.cast_ofNat_Int] at h24 h16 h8
  simp only [h24, h16, h8, cv_u8, e_lit4b, ev]
  have h5 : N M2 (M4.push (some (.inl ([bv (UInt8.ofNat (crc (be 6 k.length ++ k) >>> 24).toNat), bv (UInt8.ofNat (crc (be 6 k.length ++ k) >>> 16).toNat), bv (UInt8.ofNat (crc (be 6 k.length ++ k) >>> 8).toNat), bv (UInt8.ofNat (crc (be 6 k.length ++ k)).toNat)], Ty.uint8, true)))) (.slice (some ⟨M4.n, 0, none⟩) 4 4) (sum4 (crc (be 6 k.length ++ k))) :=
    Nw.lit (n := 4) hu4.le rfl
  obtain ⟨v6, M6, e6, hu6, h6, _⟩ := NB.app (hu4.push' _) (Nw.up h4 (Up.push M4 _)) h5.by (by simp [be_length, sum4]; omega)
  rw [e6, OP2_some]
  refine ⟨nts_of h6.sl, hu1.trans hu6, ?_⟩
  have := h6.base hu1.n
  simpa [N, NB, frm] using this

theorem Same_loop {M : Store} {x y : Value} {ll kk : List (List UInt8)} (hx : BB M x ll) (hy : BB M y kk) (hle : ll.length ≤ 2 ^ 26) (hlen : ll.length = kk.length) {Q : Value → Store → Prop} : ∀ (d i : Nat), d + i = ll.length → Q (.bool (decide (ll.drop i = kk.drop i))) M →
    P_fettleref1_SameRows_1 x y (.int .i64 (i : Int)) M Q := by
  intro d
  induction d with
  | zero =>
    intro i hi h
    apply T_fettleref1_SameRows_1
    unfold S_fettleref1_SameRows_1
    rw [hx.lenV]
    simp (disch := omega) only [ev, if_neg]
    apply T_fettleref1_SameRows_3
    rw [List.drop_of_length_le (by omega), List.drop_of_length_le (by omega)] at h
    exact ⟨rfl, h⟩
  | succ d ih =>
    intro i hi h
    apply T_fettleref1_SameRows_1
    unfold S_fettleref1_SameRows_1
    rw [hx.lenV]
    simp (disch := omega) only [ev, if_pos]
    apply T_fettleref1_SameRows_2
    unfold S_fettleref1_SameRows_2
    obtain ⟨p, w, h1, h2, h3⟩ := hx.at (i := i) (by omega) .i64
    obtain ⟨q, u, h4, h5, h6⟩ := hy.at (i := i) (by omega) .i64
    simp only [h1, h2, h4, h5, cvBS_ok h3, cvBS_ok h6, ev, str_neq]
    have e1 : ll.drop i = ll[i] :: ll.drop (i + 1) := List.drop_eq_getElem_cons (by omega)
    have e2 : kk.drop i = kk[i] :: kk.drop (i + 1) := List.drop_eq_getElem_cons (by omega)
    split
    · rename_i hne
      refine ⟨rfl, ?_⟩
      have : ¬ (ll.drop i = kk.drop i) := by rw [e1, e2]; intro e; injection e with e _; exact hne e
      rw [decide_eq_false this] at h; exact h
    · rename_i hne
      have heq : ll[i] = kk[i] := Classical.not_not.1 hne
      rw [w64 (by omega) (by omega)]
      refine ih (i + 1) (by omega) ?_
      have : (ll.drop i = kk.drop i) = (ll.drop (i + 1) = kk.drop (i + 1)) := by rw [e1, e2, heq, List.cons.injEq]; simp only [true_and]
      simp only [this] at h; exact h

theorem Same_ok {M : Store} {x y : Value} {ll kk : List (List UInt8)} (hx : BB M x ll) (hy : BB M y kk) (h1 : ll.length ≤ 2 ^ 26) (h2 : kk.length ≤ 2 ^ 26) : R F.fettleref1_SameRows #[x, y] M fun v M' => M' = M ∧ v = .bool (decide (ll = kk)) := by
  apply T_fettleref1_SameRows
  unfold S_fettleref1_SameRows
  rw [hx.lenV, hy.lenV]
  simp only [ev]
  split
  · rename_i h
    refine ⟨rfl, trivial, ?_⟩
    have : ll ≠ kk := fun e => h (by rw [e])
    simp [this]
  · rename_i h
    exact Same_loop hx hy h1 (by omega) ll.length 0 rfl ⟨rfl, rfl⟩

def frames : List (List UInt8) → List UInt8
  | [] => []
  | x :: r => frm x ++ frames r
theorem frames_append (a b : List (List UInt8)) : frames (a ++ b) = frames a ++ frames b := by
  induction a with
  | nil => rfl
  | cons x a ih => simp [frames, ih]
theorem frames_length (a : List (List UInt8)) : (frames a).length = total a + 10 * a.length := by
  induction a with
  | nil => rfl
  | cons x a ih => simp only [frames, List.length_append, frm_length, ih, total, List.map_cons, List.sum_cons, List.length_cons]; omega

end Go.G

namespace Go.G
open Go.Ab Go.Proofs Go.RowKit
set_option linter.unusedVariables false
set_option linter.unusedSimpArgs false

def numOf (l : List UInt8) : Nat := l.foldl (fun n c => n * 256 + c.toNat) 0
/-- The next number, and what is left. -/
def rdNum (top : Nat) (l : List UInt8) (bad : Bool) : Option (Nat × List UInt8) :=
  if bad = true ∨ l.length < 6 then none else if numOf (l.take 6) > top then none else some (numOf (l.take 6), l.drop 6)
/-- The next bytes, and what is left. -/
def rdBytes (top : Nat) (l : List UInt8) (bad : Bool) : Option (List UInt8 × List UInt8) :=
  (rdNum top l bad).bind fun p => if p.1 > p.2.length then none else some (p.2.take p.1, p.2.drop p.1)

/-- A reader. -/
def Rd (T : TypeId) (M : Store) (b : Nat) (l : List UInt8) (bad : Bool) : Prop := ∃ w, Ob M b [w, .bool bad] T ∧ B M w l
theorem Rd.up {T M M' b l bad} (h : Rd T M b l bad) (k : Up M M') : Rd T M' b l bad := by
  obtain ⟨w, h1, h2⟩ := h; exact ⟨w, h1.up k, Sl.up h2 k⟩
theorem numOf_step (l : List UInt8) (c : UInt8) : numOf (l ++ [c]) = numOf l * 256 + c.toNat := by simp [numOf]
theorem numOf_lt (l : List UInt8) : numOf l < 256 ^ l.length := by
  have : ∀ (l : List UInt8) (n k : Nat), n < 256 ^ k → l.foldl (fun n c => n * 256 + c.toNat) n < 256 ^ (k + l.length) := by
    intro l
    induction l with
    | nil => intro n k h; exact h
    | cons c l ih =>
      intro n k h
      rw [List.foldl_cons, List.length_cons, show k + (l.length + 1) = (k + 1) + l.length by omega]
      refine ih _ _ ?_
      have := c.toNat_lt
      rw [Nat.pow_succ]; omega
  have := this l 0 0 (by simp)
  simpa [numOf] using this

theorem ne_rd : Ty.uint8 ≠ Ty.code_Reader := by decide
theorem ne_rrd : Ty.uint8 ≠ Ty.fettleref1_Reader := by decide

theorem B.set {M : Store} {b : Nat} {cells : List Value} {T : TypeId} (hb : Ob M b cells T) (hT : Ty.uint8 ≠ T) (c' : List Value) {w : Value} {l : List UInt8} (h : B M w l) : B (M.set b (some (.inl (c', T, true)))) w l :=
  Sl.keep h hT ((Ch.setO hb _).keepT hb)

/-- One step of a number that is read. -/
theorem shl_or {n : Nat} (hn : n < 256 ^ 5) (c : UInt8) (K : Value → Prop) : (OP (binI .shl (.int .i64 (n : Int)) (.int .u64 8)) fun t33 => OP (cvI .i64 (bv c)) fun t35 => OP (binI .or t33 t35) K) = K (.int .i64 ((n * 256 + c.toNat : Nat) : Int)) := by
  have hc := c.toNat_lt
  rw [e_shl (by omega)]
  unfold bv
  rw [e_cvI]
  have e1 : min (Int.toNat 8) (IntKind.bits .i64) = 8 := rfl
  have e2 : IntKind.wrap .i64 ((n : Int) * 2 ^ (min (Int.toNat 8) (IntKind.bits .i64))) = ((n * 2 ^ 8 : Nat) : Int) := by
    rw [e1, w64] <;> omega
  have e3 : IntKind.wrap .i64 (c.toNat : Int) = (c.toNat : Int) := w64 (by omega) (by omega)
  rw [e2, e3, or_add hc (by omega) (by omega), OP_some]

theorem fail_ok {M : Store} {b : Nat} {w : Value} {bad : Bool} (h : Ob M b [w, .bool bad] Ty.code_Reader) : R F.code_Reader_fail #[.pointer (some ⟨b, 0, none⟩)] M fun v M' => v = .tuple #[] ∧ Ch [b] M M' ∧ Rd Ty.code_Reader M' b [] true := by
  refine R.cps fun Q hQ => ?_
  apply T_code_Reader_fail
  unfold S_code_Reader_fail
  have h1 := h.setSt ([w, .bool bad].set 0 (.slice none 0 0))
  simp only [ev, Nat.zero_add]
  rw [h.st (o := 0) (by simp) rfl rfl, OP_some, h1.st (o := 1) (by simp) rfl rfl, OP_some]
  exact ⟨rfl, hQ _ _ ⟨rfl, (Ch.setO h _).trans (Ch.setO h1 _), .slice none 0 0, h1.setSt _, Sl.nil _ _ _⟩⟩

theorem num_loop {M : Store} {x0 w : Value} {l : List UInt8} (hw : B M w l) (hl : l.length = 6) {top : Int} {Q : Value → Store → Prop} : ∀ (d i : Nat), d + i = 6 → P_code_Reader_Num_2 x0 (.int .i64 top) (.int .i64 (numOf l : Int)) M Q →
    P_code_Reader_Num_1 x0 (.int .i64 top) (.int .i64 (numOf (l.take i) : Int)) w (.int .i64 6) (.int .i64 (i : Int)) M Q := by
  intro d
  induction d with
  | zero =>
    intro i hi h
    apply T_code_Reader_Num_1
    unfold S_code_Reader_Num_1
    simp (disch := omega) only [ev, if_neg]
    rw [List.take_of_length_le (by omega)]; exact h
  | succ d ih =>
    intro i hi h
    apply T_code_Reader_Num_1
    unfold S_code_Reader_Num_1
    obtain ⟨p, h1, h2⟩ := By.at hw (i := i) (by omega) .i64
    have hlt := numOf_lt (l.take i)
    have hle : (l.take i).length ≤ 5 := by simp; omega
    have hp : 256 ^ (l.take i).length ≤ 256 ^ 5 := Nat.pow_le_pow_right (by omega) hle
    have ht : l.take (i + 1) = l.take i ++ [l[i]] := List.take_succ_eq_append_getElem (by omega)
    have hs := numOf_step (l.take i) l[i]
    rw [← ht] at hs
    simp (disch := omega) only [ev, if_pos, h1, h2]
    rw [shl_or (by omega), ← hs, w64 (by omega) (by omega)]
    exact ih (i + 1) (by omega) h

theorem rNum_ok {M : Store} {b : Nat} {l : List UInt8} {bad : Bool} {top : Nat} (h : Rd Ty.code_Reader M b l bad) (ht : top ≤ 2 ^ 40) (hl : l.length ≤ 2 ^ 24) :
    R F.code_Reader_Num #[.pointer (some ⟨b, 0, none⟩), .int .i64 top] M fun v M' => Ch [b] M M' ∧ match rdNum top l bad with
      | some (n, r) => v = .int .i64 n ∧ Rd Ty.code_Reader M' b r false
      | none => v = .int .i64 0 ∧ Rd Ty.code_Reader M' b [] true := by
  obtain ⟨w, hb, hw⟩ := h
  refine R.cps fun Q hQ => ?_
  have hfail : rdNum top l bad = none → R F.code_Reader_fail #[.pointer (some ⟨b, 0, none⟩)] M fun t21 M1 => NTs [.int .i64 0] ∧ Q (.int .i64 0) M1 :=
    fun hr => (fail_ok hb).mono fun v M' ⟨_, h1, h2⟩ => ⟨rfl, hQ _ _ ⟨h1, by rw [hr]; exact ⟨rfl, h2⟩⟩⟩
  apply T_code_Reader_Num
  unfold S_code_Reader_Num
  have e0 := hb.ld (o := 0) rfl
  have e1 := hb.ld (o := 1) rfl
  simp only [ev, Nat.zero_add, e0, e1]
  cases bad with
  | true =>
    simp only [ev]
    exact hfail (by simp [rdNum])
  | false =>
    simp only [ev, hw.lenV]
    by_cases h6 : l.length < 6
    · rw [if_pos (by omega)]
      exact hfail (by simp [rdNum, h6])
    · rw [if_neg (by omega)]
      obtain ⟨u, e2, hu⟩ := By.cut hw (lo := none) (hi := some (.int .i64 6)) (a := 0) (r := 6) (abound_some (by omega) (by omega)) rfl (by omega) (by omega)
      rw [List.drop_zero] at hu
      have hl6 : (l.take 6).length = 6 := by simp; omega
      simp only [e2, ev, hu.lenV]
      rw [hl6]
      refine num_loop (x0 := .pointer (some ⟨b, 0, none⟩)) (top := (top : Int)) hu hl6 6 0 rfl ?_
      apply T_code_Reader_Num_2
      unfold S_code_Reader_Num_2
      by_cases hgt : numOf (l.take 6) > top
      · simp (disch := omega) only [ev, if_pos]
        exact hfail (by simp [rdNum, h6, hgt])
      · obtain ⟨u2, e4, hu2⟩ := By.cut hw (lo := some (.int .i64 6)) (hi := none) (a := 6) (r := l.length) rfl (abound_some (by omega) (by omega)) (by omega) (by omega)
        obtain ⟨a, c, rfl⟩ := hu2.slice
        simp (disch := omega) only [ev, if_neg, Nat.zero_add, e0, e4]
        rw [hb.st (o := 0) (by simp) rfl rfl, OP_some]
        have hr : rdNum top l false = some (numOf (l.take 6), l.drop 6) := by simp [rdNum, h6, hgt]
        refine ⟨rfl, hQ _ _ ⟨Ch.setO hb _, ?_⟩⟩
        rw [hr]
        refine ⟨rfl, _, hb.setSt _, B.set hb ne_rd _ ?_⟩
        simpa using hu2

theorem rBytesN_ok {M : Store} {b : Nat} {l : List UInt8} {bad : Bool} {top : Nat} (h : Rd Ty.code_Reader M b l bad) (ht : top ≤ 2 ^ 40) (hl : l.length ≤ 2 ^ 24) :
    R F.code_Reader_Bytes #[.pointer (some ⟨b, 0, none⟩), .int .i64 top] M fun v M' => Ch [b] M M' ∧ match rdBytes top l bad with
      | some (x, r) => N M M' v x ∧ Rd Ty.code_Reader M' b r false
      | none => N M M' v [] ∧ Rd Ty.code_Reader M' b [] true := by
  refine R.cps fun Q hQ => ?_
  apply T_code_Reader_Bytes
  unfold S_code_Reader_Bytes
  refine (rNum_ok h ht hl).mono fun v1 M1 ⟨hc1, h1⟩ => ?_
  have main : ∀ (n : Nat) (r : List UInt8) (bd : Bool), v1 = .int .i64 n → Rd Ty.code_Reader M1 b r bd → r.length ≤ 2 ^ 24 → n ≤ r.length →
      (∀ v' M', Ch [b] M M' → N M M' v' (r.take n) → Rd Ty.code_Reader M' b (r.drop n) bd → Q v' M') →
      OP (nilc (.pointer (some ⟨b, 0, none⟩))) fun t12 => OP (fad 0 t12) fun t13 => OP (ld 1 false t13 M1) fun t14 => OP (lenV t14) fun t15 => OP (binI .gtr v1 t15) fun t16 => BR t16
        (R F.code_Reader_fail #[.pointer (some ⟨b, 0, none⟩)] M1 fun t18 M2 => NTs [.slice none 0 0] ∧ Q (.slice none 0 0) M2)
        (OP (nilc (.pointer (some ⟨b, 0, none⟩))) fun t20 => OP (fad 0 t20) fun t21 => OP (ld 1 false t21 M1) fun t22 => OP (slV 1 Ty.uint8 t22 none (some v1) M1) fun t24 =>
          R F.slices_Clone_sl_byte_byte #[t24] M1 fun t25 M3 => OP (nilc (.pointer (some ⟨b, 0, none⟩))) fun t28 => OP (fad 0 t28) fun t29 => OP (ld 1 false t29 M3) fun t30 => OP (slV 1 Ty.uint8 t30 (some v1) none M3) fun t32 =>
          OP (nilc (.pointer (some ⟨b, 0, none⟩))) fun t33 => OP (fad 0 t33) fun t34 => OP (st 1 t34 t32 M3) fun M4 => NTs [t25] ∧ Q t25 M4) := by
    rintro n r bd rfl ⟨w, hb, hw⟩ hr hn hQ
    have e0 := hb.ld (o := 0) rfl
    simp (disch := omega) only [ev, Nat.zero_add, e0, hw.lenV, if_neg]
    obtain ⟨u, e2, hu⟩ := By.cut hw (lo := none) (hi := some (.int .i64 n)) (a := 0) (r := n) (by simpa using abound_some (k := .i64) (d := r.length) (i := (n : Int)) (y := r.length) (by omega) (by omega)) rfl (by omega) (by omega)
    rw [List.drop_zero] at hu
    simp only [e2, ev]
    refine (Clone_ok hu (by simp; omega)).mono fun v3 M3 ⟨hu3, h3⟩ => ?_
    have hb3 := hb.up hu3
    have e3 := hb3.ld (o := 0) rfl
    obtain ⟨u2, e4, hu2⟩ := By.cut (Sl.up hw hu3) (lo := some (.int .i64 n)) (hi := none) (a := n) (r := r.length) rfl (by simpa using abound_some (i := (n : Int)) (y := r.length) (d := 0) (k := .i64) (by omega) (by omega)) (by omega) (by omega)
    rw [List.take_length] at hu2
    obtain ⟨a, c, rfl⟩ := hu2.slice
    simp only [ev, Nat.zero_add, e3, e4]
    rw [hb3.st (o := 0) (by simp) rfl rfl, OP_some]
    refine ⟨nts_of h3.sl, hQ _ _ ?_ ?_ ?_⟩
    · exact (hc1.up hu3).trans (Ch.setO hb3 _)
    · exact Nw.keep (h3.base hc1.n) ne_rd ((Ch.setO hb3 _).keepT hb3)
    · exact ⟨_, hb3.setSt _, B.set hb3 ne_rd _ hu2⟩
  cases hnum : rdNum top l bad with
  | none =>
    rw [hnum] at h1
    refine main 0 [] true h1.1 h1.2 (by simp) (by simp) fun v' M' hc hv hr => hQ _ _ ⟨hc, ?_⟩
    simp only [rdBytes, hnum, Option.bind_none]
    exact ⟨by simpa using hv, by simpa using hr⟩
  | some p =>
    obtain ⟨n, r⟩ := p
    rw [hnum] at h1
    obtain ⟨rfl, hR⟩ := h1
    have hrl : r.length ≤ 2 ^ 24 := by
      simp only [rdNum] at hnum
      split at hnum
      · cases hnum
      · split at hnum
        · cases hnum
        · simp only [Option.some.injEq, Prod.mk.injEq] at hnum
          obtain ⟨_, rfl⟩ := hnum; simp; omega
    by_cases hn : n ≤ r.length
    · refine main n r false rfl hR hrl hn fun v' M' hc hv hr => hQ _ _ ⟨hc, ?_⟩
      simp only [rdBytes, hnum, Option.bind_some]
      rw [if_neg (by omega)]
      exact ⟨hv, hr⟩
    · obtain ⟨w, hb, hw⟩ := hR
      have e0 := hb.ld (o := 0) rfl
      simp (disch := omega) only [ev, Nat.zero_add, e0, hw.lenV, if_pos]
      refine (fail_ok hb).mono fun v' M' ⟨_, h2, h3⟩ => ⟨rfl, hQ _ _ ⟨hc1.trans h2, ?_⟩⟩
      simp only [rdBytes, hnum, Option.bind_some]
      rw [if_pos (by omega)]
      exact ⟨Nw.nil _ _ _ _, h3⟩

theorem rBytes_ok {M : Store} {b : Nat} {l : List UInt8} {bad : Bool} {top : Nat} (h : Rd Ty.code_Reader M b l bad) (ht : top ≤ 2 ^ 40) (hl : l.length ≤ 2 ^ 24) :
    R F.code_Reader_Bytes #[.pointer (some ⟨b, 0, none⟩), .int .i64 top] M fun v M' => Ch [b] M M' ∧ match rdBytes top l bad with
      | some (x, r) => B M' v x ∧ Rd Ty.code_Reader M' b r false
      | none => B M' v [] ∧ Rd Ty.code_Reader M' b [] true := by
  refine (rBytesN_ok h ht hl).mono fun v M' ⟨hc, h1⟩ => ⟨hc, ?_⟩
  split at h1
  · exact ⟨h1.1.by, h1.2⟩
  · exact ⟨h1.1.by, h1.2⟩

theorem Ok_ok {M : Store} {b : Nat} {l : List UInt8} {bad : Bool} (h : Rd Ty.code_Reader M b l bad) : R F.code_Reader_Ok #[.pointer (some ⟨b, 0, none⟩)] M fun v M' => M' = M ∧ v = .bool (!bad) := by
  obtain ⟨w, hb, hw⟩ := h
  refine R.cps fun Q hQ => ?_
  apply T_code_Reader_Ok
  unfold S_code_Reader_Ok
  have e1 := hb.ld (o := 1) rfl
  simp only [ev, Nat.zero_add, e1]
  exact ⟨rfl, hQ _ _ ⟨rfl, rfl⟩⟩

theorem Read_ok {M : Store} {v : Value} {l : List UInt8} (h : B M v l) (hl : l.length ≤ 2 ^ 24) : R F.code_Read #[v] M fun r M' => Up M M' ∧ ∃ b, r = .pointer (some ⟨b, 0, none⟩) ∧ M.n ≤ b ∧ Rd Ty.code_Reader M' b l false := by
  refine R.cps fun Q hQ => ?_
  apply T_code_Read
  unfold S_code_Read
  refine (Clone_ok h hl).mono fun v1 M1 ⟨hu1, h1⟩ => ?_
  obtain ⟨a, c, rfl⟩ := h1.sl.slice
  have e1 : bldS #[.slice none 0 0, .bool false] [(0, 1), (1, 1)] [(0, .slice a l.length c)] = some (.agg #[.slice a l.length c, .bool false]) := by kernel_rfl
  have e2 : boxv (.agg #[.slice a l.length c, .bool false]) = some [.slice a l.length c, .bool false] := by kernel_rfl
  simp only [e1, e2, ev]
  exact ⟨rfl, hQ _ _ ⟨hu1.push' _, M1.n, rfl, hu1.n, _, Ob.new _ _ _, Sl.up h1.by (Up.push _ _)⟩⟩

end Go.G

namespace Go.G
open Go.Ab Go.Proofs Go.RowKit
set_option linter.unusedVariables false
set_option linter.unusedSimpArgs false

theorem rnum_loop {M : Store} {b : Nat} {w : Value} {l : List UInt8} (hb : Ob M b [w, .bool false] Ty.fettleref1_Reader) (hw : B M w l) (hl : 6 ≤ l.length) {top : Int} {Q : Value → Store → Prop} : ∀ (d i : Nat), d + i = 6 →
    P_fettleref1_Reader_Num_3 (.pointer (some ⟨b, 0, none⟩)) (.int .i64 top) (.int .i64 (numOf (l.take 6) : Int)) M Q →
    P_fettleref1_Reader_Num_1 (.pointer (some ⟨b, 0, none⟩)) (.int .i64 top) (.int .i64 (numOf (l.take i) : Int)) (.int .i64 (i : Int)) M Q := by
  intro d
  induction d with
  | zero =>
    intro i hi h
    apply T_fettleref1_Reader_Num_1
    unfold S_fettleref1_Reader_Num_1
    simp (disch := omega) only [ev, if_neg]
    obtain rfl : i = 6 := by omega
    exact h
  | succ d ih =>
    intro i hi h
    apply T_fettleref1_Reader_Num_1
    unfold S_fettleref1_Reader_Num_1
    simp (disch := omega) only [ev, if_pos]
    apply T_fettleref1_Reader_Num_2
    unfold S_fettleref1_Reader_Num_2
    obtain ⟨p, h1, h2⟩ := By.at hw (i := i) (by omega) .i64
    have hlt := numOf_lt (l.take i)
    have hle : (l.take i).length ≤ 5 := by simp; omega
    have hp : 256 ^ (l.take i).length ≤ 256 ^ 5 := Nat.pow_le_pow_right (by omega) hle
    have ht : l.take (i + 1) = l.take i ++ [l[i]] := List.take_succ_eq_append_getElem (by omega)
    have hs := numOf_step (l.take i) l[i]
    rw [← ht] at hs
    have e0 := hb.ld (o := 0) rfl
    have hc := (l[i]).toNat_lt
    rw [e_shl (by omega)]
    have e1 : min (Int.toNat 8) (IntKind.bits .i64) = 8 := rfl
    have e2 : IntKind.wrap .i64 ((numOf (l.take i) : Int) * 2 ^ (min (Int.toNat 8) (IntKind.bits .i64))) = ((numOf (l.take i) * 2 ^ 8 : Nat) : Int) := by
      rw [e1, w64] <;> omega
    have e3 : IntKind.wrap .i64 ((l[i]).toNat : Int) = ((l[i]).toNat : Int) := w64 (by omega) (by omega)
    simp only [ev, Nat.zero_add, e0, h1, h2, e2]
    unfold bv
    rw [e_cvI, e3, or_add hc (by omega) (by omega), OP_some]
    have e4 : numOf (l.take i) * 2 ^ 8 + (l[i]).toNat = numOf (l.take (i + 1)) := by rw [hs]
    rw [e4, w64 (by omega) (by omega)]
    exact ih (i + 1) (by omega) h

theorem rrNum_ok {M : Store} {b : Nat} {l : List UInt8} {bad : Bool} {top : Nat} (h : Rd Ty.fettleref1_Reader M b l bad) (ht : top ≤ 2 ^ 40) (hl : l.length ≤ 2 ^ 24) :
    R F.fettleref1_Reader_Num #[.pointer (some ⟨b, 0, none⟩), .int .i64 top] M fun v M' => Ch [b] M M' ∧ match rdNum top l bad with
      | some (n, r) => v = .int .i64 n ∧ Rd Ty.fettleref1_Reader M' b r false
      | none => v = .int .i64 0 ∧ Rd Ty.fettleref1_Reader M' b l true := by
  obtain ⟨w, hb, hw⟩ := h
  refine R.cps fun Q hQ => ?_
  have hfail : ∀ bd, Ob M b [w, .bool bd] Ty.fettleref1_Reader → rdNum top l bad = none → OP (st 1 (.pointer (some ⟨b, 1, none⟩)) (.bool true) M) fun M1 => NTs [.int .i64 0] ∧ Q (.int .i64 0) M1 := by
    intro bd hb hr
    rw [hb.st (o := 1) (by simp) rfl rfl, OP_some]
    refine ⟨rfl, hQ _ _ ⟨Ch.setO hb _, ?_⟩⟩
    rw [hr]
    exact ⟨rfl, w, hb.setSt _, B.set hb ne_rrd _ hw⟩
  apply T_fettleref1_Reader_Num
  unfold S_fettleref1_Reader_Num
  have e0 := hb.ld (o := 0) rfl
  have e1 := hb.ld (o := 1) rfl
  simp only [ev, Nat.zero_add, e0, e1]
  cases bad with
  | true =>
    simp only [ev]
    exact hfail _ hb (by simp [rdNum])
  | false =>
    simp only [ev, hw.lenV]
    by_cases h6 : l.length < 6
    · rw [if_pos (by omega)]
      exact hfail _ hb (by simp [rdNum, h6])
    · rw [if_neg (by omega)]
      refine rnum_loop (top := (top : Int)) hb hw (by omega) 6 0 rfl ?_
      apply T_fettleref1_Reader_Num_3
      unfold S_fettleref1_Reader_Num_3
      by_cases hgt : numOf (l.take 6) > top
      · simp (disch := omega) only [ev, if_pos]
        exact hfail _ hb (by simp [rdNum, h6, hgt])
      · obtain ⟨u2, e4, hu2⟩ := By.cut hw (lo := some (.int .i64 6)) (hi := none) (a := 6) (r := l.length) rfl (abound_some (by omega) (by omega)) (by omega) (by omega)
        obtain ⟨a, c, rfl⟩ := hu2.slice
        simp (disch := omega) only [ev, if_neg, Nat.zero_add, e0, e4]
        rw [hb.st (o := 0) (by simp) rfl rfl, OP_some]
        have hr : rdNum top l false = some (numOf (l.take 6), l.drop 6) := by simp [rdNum, h6, hgt]
        refine ⟨rfl, hQ _ _ ⟨Ch.setO hb _, ?_⟩⟩
        rw [hr]
        refine ⟨rfl, _, hb.setSt _, B.set hb ne_rrd _ ?_⟩
        simpa using hu2

theorem rdNum_len {top : Nat} {l : List UInt8} {bad : Bool} {n : Nat} {r : List UInt8} (h : rdNum top l bad = some (n, r)) : r.length + 6 = l.length ∧ n ≤ top := by
  simp only [rdNum] at h
  split at h
  · cases h
  · split at h
    · cases h
    · simp only [Option.some.injEq, Prod.mk.injEq] at h
      obtain ⟨rfl, rfl⟩ := h; simp; omega

/-- What is left of a document's reader. -/
theorem rrBytes_ok {M : Store} {b : Nat} {l : List UInt8} {bad : Bool} {top : Nat} (h : Rd Ty.fettleref1_Reader M b l bad) (ht : top ≤ 2 ^ 40) (hl : l.length ≤ 2 ^ 24) :
    R F.fettleref1_Reader_Bytes #[.pointer (some ⟨b, 0, none⟩), .int .i64 top] M fun v M' => Ch [b] M M' ∧ match rdBytes top l bad with
      | some (x, r) => B M' v x ∧ Rd Ty.fettleref1_Reader M' b r false
      | none => B M' v [] ∧ ∃ r, r.length ≤ l.length ∧ Rd Ty.fettleref1_Reader M' b r true := by
  refine R.cps fun Q hQ => ?_
  apply T_fettleref1_Reader_Bytes
  unfold S_fettleref1_Reader_Bytes
  refine (rrNum_ok h ht hl).mono fun v1 M1 ⟨hc1, h1⟩ => ?_
  have hfail : ∀ w bd r, Ob M1 b [w, .bool bd] Ty.fettleref1_Reader → B M1 w r → r.length ≤ l.length → rdBytes top l bad = none → OP (st 1 (.pointer (some ⟨b, 1, none⟩)) (.bool true) M1) fun M2 => NTs [.slice none 0 0] ∧ Q (.slice none 0 0) M2 := by
    intro w bd r hb hw hrl hr
    rw [hb.st (o := 1) (by simp) rfl rfl, OP_some]
    refine ⟨rfl, hQ _ _ ⟨hc1.trans (Ch.setO hb _), ?_⟩⟩
    rw [hr]
    exact ⟨Sl.nil _ _ _, r, hrl, w, hb.setSt _, B.set hb ne_rrd _ hw⟩
  cases hnum : rdNum top l bad with
  | none =>
    rw [hnum] at h1
    obtain ⟨rfl, w, hb, hw⟩ := h1
    have e1 := hb.ld (o := 1) rfl
    simp only [ev, Nat.zero_add, e1]
    exact hfail w true l hb hw (Nat.le_refl _) (by simp [rdBytes, hnum])
  | some p =>
    obtain ⟨n, r⟩ := p
    rw [hnum] at h1
    obtain ⟨rfl, w, hb, hw⟩ := h1
    obtain ⟨hrl, hnt⟩ := rdNum_len hnum
    have e0 := hb.ld (o := 0) rfl
    have e1 := hb.ld (o := 1) rfl
    simp only [ev, Nat.zero_add, e1, e0, hw.lenV]
    by_cases hn : n ≤ r.length
    · rw [if_neg (by omega)]
      have hup := Up.push M1 (some (.inl (([] : List Value), Ty.uint8, true)))
      have hb2 := hb.up hup
      have e2 := hb2.ld (o := 0) rfl
      obtain ⟨u, e3, hu⟩ := By.cut (Sl.up hw hup) (lo := none) (hi := some (.int .i64 n)) (a := 0) (r := n) (by simpa using abound_some (k := .i64) (d := r.length) (i := (n : Int)) (y := r.length) (by omega) (by omega)) rfl (by omega) (by omega)
      rw [List.drop_zero] at hu
      simp only [e2, e3, ev]
      have hn0 : N M1 (M1.push (some (.inl (([] : List Value), Ty.uint8, true)))) (.slice (some ⟨M1.n, 0, none⟩) 0 0) [] := Nw.lit (n := 0) (cs := []) (Nat.le_refl _) (by simp)
      obtain ⟨v3, M3, e4, hu3, h3, _⟩ := NB.app hup hn0 hu (by simp; omega)
      rw [List.nil_append] at h3
      rw [e4, OP2_some]
      have hb3 := hb.up hu3
      have e5 := hb3.ld (o := 0) rfl
      obtain ⟨u2, e6, hu2⟩ := By.cut (Sl.up hw hu3) (lo := some (.int .i64 n)) (hi := none) (a := n) (r := r.length) rfl (by simpa using abound_some (i := (n : Int)) (y := r.length) (d := 0) (k := .i64) (by omega) (by omega)) (by omega) (by omega)
      rw [List.take_length] at hu2
      obtain ⟨a, c, rfl⟩ := hu2.slice
      simp only [e5, e6, ev]
      rw [hb3.st (o := 0) (by simp) rfl rfl, OP_some]
      refine ⟨nts_of h3.sl, hQ _ _ ⟨(hc1.up hu3).trans (Ch.setO hb3 _), ?_⟩⟩
      simp only [rdBytes, hnum, Option.bind_some]
      rw [if_neg (by omega)]
      exact ⟨B.set hb3 ne_rrd _ h3.by, _, hb3.setSt _, B.set hb3 ne_rrd _ hu2⟩
    · rw [if_pos (by omega)]
      exact hfail w false r hb hw (by omega) (by simp only [rdBytes, hnum, Option.bind_some]; rw [if_pos (by omega)])

end Go.G

namespace Go.G
open Go.Ab Go.Proofs Go.RowKit
set_option linter.unusedVariables false
set_option linter.unusedSimpArgs false

theorem rdBytes_iff {top : Nat} {l x r : List UInt8} : rdBytes top l false = some (x, r) ↔
    6 ≤ l.length ∧ numOf (l.take 6) ≤ top ∧ 6 + numOf (l.take 6) ≤ l.length ∧ x = (l.drop 6).take (numOf (l.take 6)) ∧ r = l.drop (6 + numOf (l.take 6)) := by
  by_cases h6 : l.length < 6
  · simp [rdBytes, rdNum, h6]; omega
  · by_cases ht : numOf (l.take 6) > top
    · simp [rdBytes, rdNum, h6, ht]; omega
    · by_cases hn : numOf (l.take 6) > (l.drop 6).length
      · have hd : (l.drop 6).length = l.length - 6 := List.length_drop
        simp only [rdBytes, rdNum, h6, ht, hn, or_false, if_false, if_true, Option.bind_some, Bool.false_eq_true]
        constructor
        · intro h; cases h
        · rintro ⟨_, _, h, _⟩; omega
      · have hd : (l.drop 6).length = l.length - 6 := List.length_drop
        simp only [rdBytes, rdNum, h6, ht, hn, or_false, if_false, Option.bind_some, Bool.false_eq_true, Option.some.injEq, Prod.mk.injEq, List.drop_drop]
        constructor
        · rintro ⟨rfl, rfl⟩; exact ⟨by omega, by omega, by omega, rfl, rfl⟩
        · rintro ⟨_, _, _, rfl, rfl⟩; exact ⟨rfl, rfl⟩
theorem rdBytes_len {top : Nat} {l x r : List UInt8} (h : rdBytes top l false = some (x, r)) : x.length ≤ top ∧ x.length + 6 + r.length = l.length ∧ r = l.drop (6 + x.length) := by
  obtain ⟨h1, h2, h3, rfl, rfl⟩ := rdBytes_iff.1 h
  have : ((l.drop 6).take (numOf (l.take 6))).length = numOf (l.take 6) := by simp; omega
  rw [this]
  exact ⟨h2, by simp; omega, rfl⟩

/-- What the frame holds that bytes begin with. -/
def oneF (b : List UInt8) : Option (List UInt8) :=
  (rdBytes 10000 b false).bind fun p => if p.2.length < 4 then none else if sum4 (crc (b.take (6 + p.1.length))) = p.2.take 4 then some p.1 else none
theorem oneF_len {b x : List UInt8} (h : oneF b = some x) : x.length + 10 ≤ b.length ∧ x.length ≤ 10000 := by
  simp only [oneF] at h
  obtain ⟨p, h1, h2⟩ := Option.bind_eq_some_iff.1 h
  obtain ⟨y, r⟩ := p
  have := rdBytes_len h1
  split at h2
  · cases h2
  · split at h2
    · injection h2 with h2; subst h2; simp only at *; omega
    · cases h2
/-- What the frames hold that bytes begin with, at most so many. -/
def scanN : Nat → List UInt8 → List (List UInt8)
  | 0, _ => []
  | k + 1, b => match oneF b with
    | none => []
    | some x => x :: scanN k (b.drop (x.length + 10))
def scanF (b : List UInt8) : List (List UInt8) := scanN b.length b
def flen (l : List (List UInt8)) : Nat := (l.map fun x => x.length + 10).sum
theorem scanN_more : ∀ (k k' : Nat) (b : List UInt8), b.length ≤ k → b.length ≤ k' → scanN k b = scanN k' b
  | 0, 0, _, _, _ => rfl
  | 0, k' + 1, b, h, _ => by
    have : b = [] := List.length_eq_zero_iff.1 (by omega)
    subst this; rfl
  | k + 1, 0, b, _, h => by
    have : b = [] := List.length_eq_zero_iff.1 (by omega)
    subst this; rfl
  | k + 1, k' + 1, b, h, h' => by
    simp only [scanN]
    cases ho : oneF b with
    | none => rfl
    | some x =>
      have := oneF_len ho
      simp only
      rw [scanN_more k k' _ (by simp; omega) (by simp; omega)]
theorem scanF_eq (b : List UInt8) : scanF b = match oneF b with
    | none => []
    | some x => x :: scanF (b.drop (x.length + 10)) := by
  cases hb : b.length with
  | zero =>
    have : b = [] := List.length_eq_zero_iff.1 hb
    subst this; rfl
  | succ k =>
    rw [scanF, hb, scanN]
    cases ho : oneF b with
    | none => rfl
    | some x =>
      have := oneF_len ho
      simp only
      rw [scanF, scanN_more k _ _ (by simp; omega) (Nat.le_refl _)]
theorem scanF_flen (b : List UInt8) : flen (scanF b) ≤ b.length := by
  have : ∀ k (b : List UInt8), flen (scanN k b) ≤ b.length := by
    intro k
    induction k with
    | zero => intro b; simp [scanN, flen]
    | succ k ih =>
      intro b
      simp only [scanN]
      cases ho : oneF b with
      | none => simp [flen]
      | some x =>
        have h1 := oneF_len ho
        have h2 := ih (b.drop (x.length + 10))
        simp only [flen, List.map_cons, List.sum_cons] at h2 ⊢
        simp only [List.length_drop] at h2
        omega
  exact this _ _
theorem scanF_count (b : List UInt8) : (scanF b).length * 10 ≤ b.length := by
  have h := scanF_flen b
  have : ∀ l : List (List UInt8), l.length * 10 ≤ flen l := by
    intro l
    induction l with
    | nil => simp
    | cons x l ih => simp only [flen, List.map_cons, List.sum_cons, List.length_cons] at *; omega
  have := this (scanF b)
  omega

theorem bv_neq (a b : UInt8) (K : Value → Prop) : OP (binI .neq (bv a) (bv b)) K = K (.bool (decide (a ≠ b))) := by
  unfold bv
  rw [e_neq]
  congr 2
  rw [decide_eq_decide]
  constructor
  · intro h e; subst e; exact h rfl
  · intro h e; apply h; apply UInt8.toNat_inj.1; omega

theorem frame_ok {M : Store} {v : Value} {l : List UInt8} (h : B M v l) (hl : l.length ≤ 2 ^ 24) {at_ : Nat} (hat : at_ ≤ l.length) :
    R F.fettleref1_frame #[v, .int .i64 at_] M fun r M' => Up M M' ∧ match oneF (l.drop at_) with
      | some x => ∃ w, r = .tuple #[w, .int .i64 ((at_ + (x.length + 10) : Nat) : Int), .bool true] ∧ B M' w x ∧ NTs [w]
      | none => r = .tuple #[.slice none 0 0, .int .i64 at_, .bool false] := by
  refine R.cps fun Q hQ => ?_
  apply T_fettleref1_frame
  unfold S_fettleref1_frame
  obtain ⟨u, e1, hu⟩ := By.cut h (lo := some (.int .i64 at_)) (hi := none) (a := at_) (r := l.length) rfl (abound_nat hat) (by omega) (by omega)
  rw [List.take_length] at hu
  have hdl : (l.drop at_).length = l.length - at_ := List.length_drop
  obtain ⟨a, c, rfl⟩ := hu.slice
  have e2 : bldS #[.slice none 0 0, .bool false] [(0, 1), (1, 1)] [(0, .slice a (l.drop at_).length c)] = some (.agg #[.slice a (l.drop at_).length c, .bool false]) := by kernel_rfl
  have e3 : boxv (.agg #[.slice a (l.drop at_).length c, .bool false]) = some [.slice a (l.drop at_).length c, .bool false] := by kernel_rfl
  simp only [e1, e2, e3, ev]
  have hup := Up.push M (some (.inl ([.slice a (l.drop at_).length c, .bool false], Ty.fettleref1_Reader, true)))
  have hR : Rd Ty.fettleref1_Reader (M.push (some (.inl ([.slice a (l.drop at_).length c, .bool false], Ty.fettleref1_Reader, true)))) M.n (l.drop at_) false :=
    ⟨_, Ob.new _ _ _, Sl.up hu hup⟩
  refine (rrBytes_ok (top := 10000) hR (by omega) (by omega)).mono fun v2 M2 ⟨hc2, h2⟩ => ?_
  have hu2 : Up M M2 := hup.ch hc2 fun b hb => by simp at hb; omega
  have none_ : ∀ M', Up M M' → oneF (l.drop at_) = none → NTs [.slice none 0 0, .int .i64 (at_ : Int), .bool false] ∧ Q (.tuple #[.slice none 0 0, .int .i64 (at_ : Int), .bool false]) M' := by
    intro M' hM hn
    exact ⟨rfl, hQ _ _ ⟨hM, by rw [hn]⟩⟩
  cases hb : rdBytes 10000 (l.drop at_) false with
  | none =>
    rw [hb] at h2
    obtain ⟨hv2, r, hrl, w, hob, hw⟩ := h2
    have e5 := hob.ld (o := 1) rfl
    simp only [ev, Nat.zero_add, e5]
    exact none_ _ hu2 (by simp [oneF, hb])
  | some p =>
    obtain ⟨x, r⟩ := p
    rw [hb] at h2
    obtain ⟨hv2, w, hob, hw⟩ := h2
    obtain ⟨hx1, hx2, hx3⟩ := rdBytes_len hb
    have e5 := hob.ld (o := 1) rfl
    have e6 := hob.ld (o := 0) rfl
    simp only [ev, Nat.zero_add, e5, e6, hw.lenV]
    by_cases h4 : r.length < 4
    · rw [if_pos (by omega)]
      exact none_ _ hu2 (by simp [oneF, hb, h4])
    · have e7 : IntKind.wrap .i64 (IntKind.wrap .i64 ((at_ : Int) + 6) + (x.length : Int)) = ((at_ + 6 + x.length : Nat) : Int) := by
        rw [w64 (x := (at_ : Int) + 6) (by omega) (by omega), w64 (by omega) (by omega)]; omega
      rw [if_neg (by omega), hv2.lenV]
      simp only [ev, e7]
      obtain ⟨u2, e8, hu8⟩ := By.cut (Sl.up h hu2) (lo := some (.int .i64 at_)) (hi := some (.int .i64 ((at_ + 6 + x.length : Nat) : Int))) (a := at_) (r := at_ + 6 + x.length) (abound_nat (by omega)) (abound_nat (by omega)) (by omega) (by omega)
      have e9 : (l.take (at_ + 6 + x.length)).drop at_ = (l.drop at_).take (6 + x.length) := by
        rw [List.drop_take]; congr 1; omega
      rw [e9] at hu8
      rw [e8, OP_some]
      refine (RSum_ok hu8 (by simp; omega)).mono fun v3 M3 ⟨hM3, hv3⟩ => ?_
      subst hM3; subst hv3
      -- the four bytes
      have hend : at_ + 6 + x.length + 4 ≤ l.length := by omega
      have hr : r = l.drop (at_ + 6 + x.length) := by rw [hx3, List.drop_drop]; congr 1; omega
      have hr4 : r.take 4 = [l[at_ + 6 + x.length], l[at_ + 6 + x.length + 1], l[at_ + 6 + x.length + 2], l[at_ + 6 + x.length + 3]] := by
        rw [hr, List.drop_eq_getElem_cons (by omega), List.drop_eq_getElem_cons (i := at_ + 6 + x.length + 1) (by omega), List.drop_eq_getElem_cons (i := at_ + 6 + x.length + 1 + 1) (by omega), List.drop_eq_getElem_cons (i := at_ + 6 + x.length + 1 + 1 + 1) (by omega)]
        rfl
      have hone : oneF (l.drop at_) = if sum4 (crc ((l.drop at_).take (6 + x.length))) = r.take 4 then some x else none := by
        simp only [oneF, hb, Option.bind_some]; rw [if_neg h4]
      rw [hr4] at hone
      generalize hc : crc ((l.drop at_).take (6 + x.length)) = cc at *
      have B2 : B M3 v l := Sl.up h hu2
      obtain ⟨p0, a0, b0⟩ := By.at B2 (i := at_ + 6 + x.length) (by omega) .i64
      obtain ⟨p1, a1, b1⟩ := By.at B2 (i := at_ + 6 + x.length + 1) (by omega) .i64
      obtain ⟨p2, a2, b2⟩ := By.at B2 (i := at_ + 6 + x.length + 2) (by omega) .i64
      obtain ⟨p3, a3, b3⟩ := By.at B2 (i := at_ + 6 + x.length + 3) (by omega) .i64
      have h24 := u32_shr cc 24 (by omega)
      have h16 := u32_shr cc 16 (by omega)
      have h8 := u32_shr cc 8 (by omega)
      simp only [Int.cast_ofNat_Int] at h24 h16 h8
      have i1 : IntKind.wrap .i64 (((at_ + 6 + x.length : Nat) : Int) + 1) = ((at_ + 6 + x.length + 1 : Nat) : Int) := by rw [w64 (by omega) (by omega)]; omega
      have i2 : IntKind.wrap .i64 (((at_ + 6 + x.length : Nat) : Int) + 2) = ((at_ + 6 + x.length + 2 : Nat) : Int) := by rw [w64 (by omega) (by omega)]; omega
      have i3 : IntKind.wrap .i64 (((at_ + 6 + x.length : Nat) : Int) + 3) = ((at_ + 6 + x.length + 3 : Nat) : Int) := by rw [w64 (by omega) (by omega)]; omega
      have i4 : IntKind.wrap .i64 (((at_ + 6 + x.length : Nat) : Int) + 4) = ((at_ + (x.length + 10) : Nat) : Int) := by rw [w64 (by omega) (by omega)]; omega
      simp only [a0, b0, ev, h24, cv_u8, bv_neq]
      split
      · rename_i hne
        exact none_ _ hu2 (by rw [hone, if_neg]; simp only [sum4, List.cons.injEq]; intro hh; exact hne hh.1.symm)
      rename_i k0
      simp only [i1, a1, b1, ev, h16, cv_u8, bv_neq]
      split
      · rename_i hne
        exact none_ _ hu2 (by rw [hone, if_neg]; simp only [sum4, List.cons.injEq]; intro hh; exact hne hh.2.1.symm)
      rename_i k1
      simp only [i2, a2, b2, ev, h8, cv_u8, bv_neq]
      split
      · rename_i hne
        exact none_ _ hu2 (by rw [hone, if_neg]; simp only [sum4, List.cons.injEq]; intro hh; exact hne hh.2.2.1.symm)
      rename_i k2
      simp only [i3, a3, b3, ev, cv_u8, bv_neq]
      split
      · rename_i hne
        exact none_ _ hu2 (by rw [hone, if_neg]; simp only [sum4, List.cons.injEq]; intro hh; exact hne hh.2.2.2.1.symm)
      rename_i k3
      simp only [i4, ev]
      obtain ⟨aw, cw, rfl⟩ := hv2.slice
      refine ⟨rfl, hQ _ _ ⟨hu2, ?_⟩⟩
      rw [hone, if_pos]
      · exact ⟨_, rfl, hv2, rfl⟩
      · simp only [sum4, List.cons.injEq, and_true]
        exact ⟨(Classical.not_not.1 k0).symm, (Classical.not_not.1 k1).symm, (Classical.not_not.1 k2).symm, (Classical.not_not.1 k3).symm⟩

theorem oneF_more {b x : List UInt8} (h : oneF b = some x) : x.length + 10 ≤ b.length := (oneF_len h).1

theorem ne_bb : Ty.uint8 ≠ Ty.sl_uint8 := by decide
theorem e_lit1s (z : Value) (a : Option Addr) (n c : Nat) (K : List Value → Prop) : OP (bldL z 1 1 [(0, .slice a n c)]) K = K [.slice a n c] := by kernel_rfl
theorem flen_append (a b : List (List UInt8)) : flen (a ++ b) = flen a + flen b := by simp [flen]
theorem ls_nts {α : Type} {E : Store → Value → α → Prop} {e M v} {xs : List α} (h : Ls E e M v xs) : ∃ a c, v = .slice a xs.length c := by
  obtain ⟨vs, h1, _⟩ := h; exact h1.slice

theorem RScan_loop {M0 : Store} {v : Value} {l : List UInt8} (h : B M0 v l) (hl : l.length ≤ 2 ^ 24) {Q : Value → Store → Prop}
    (hQ : ∀ w M', Up M0 M' → NLs B Ty.sl_uint8 M0 M' w (scanF l) → Q (.tuple #[w, .int .i64 (flen (scanF l) : Nat)]) M') : ∀ (k at_ : Nat) (M : Store) (w : Value) (acc : List (List UInt8)), l.length - at_ < k → at_ ≤ l.length → Up M0 M →
    NLs B Ty.sl_uint8 M0 M w acc → acc ++ scanF (l.drop at_) = scanF l → at_ = flen acc → P_fettleref1_Scan_1 v w (.int .i64 (at_ : Int)) M Q := by
  intro k
  induction k with
  | zero => intro at_ M w acc hk; omega
  | succ k ih =>
    intro at_ M w acc hk hat hu hw hacc hfl
    apply T_fettleref1_Scan_1
    unfold S_fettleref1_Scan_1
    refine (frame_ok (Sl.up h hu) hl hat).mono fun r M1 ⟨hu1, h1⟩ => ?_
    cases ho : oneF (l.drop at_) with
    | none =>
      rw [ho] at h1
      rw [scanF_eq, ho, List.append_nil] at hacc
      obtain ⟨a, c, rfl⟩ := ls_nts hw.ls
      have hq := hQ _ _ (hu.trans hu1) (by rw [← hacc]; exact NLs.up By.up' hw hu1)
      rw [← hacc, ← hfl] at hq
      rw [h1]
      simp only [e_tup]
      exact ⟨rfl, hq⟩
    | some x =>
      rw [ho] at h1
      obtain ⟨u, h1, hx, hnt⟩ := h1
      have hlen := oneF_len ho
      have hdl : (l.drop at_).length = l.length - at_ := List.length_drop
      obtain ⟨a, c, rfl⟩ := hx.slice
      rw [h1]
      simp only [e_tup]
      have t0 : (#[Value.slice a x.length c, Value.int .i64 ((at_ + (x.length + 10) : Nat) : Int), Value.bool true])[0]? = some (.slice a x.length c) := rfl
      have t1 : (#[Value.slice a x.length c, Value.int .i64 ((at_ + (x.length + 10) : Nat) : Int), Value.bool true])[1]? = some (.int .i64 ((at_ + (x.length + 10) : Nat) : Int)) := rfl
      have t2 : (#[Value.slice a x.length c, Value.int .i64 ((at_ + (x.length + 10) : Nat) : Int), Value.bool true])[2]? = some (.bool true) := rfl
      simp only [t0, t1, t2, ev, Bool.not_true, e_lit1s]
      have hcnt := scanF_count l
      have hac : acc.length ≤ (scanF l).length := by rw [← hacc]; simp
      obtain ⟨w', M2, e2, hu2, hw2, _⟩ := NLs.app1 (By.keep' ne_bb) (hu.trans hu1) (NLs.up By.up' hw hu1) hx (by omega)
      rw [e2, OP2_some]
      refine ih (at_ + (x.length + 10)) M2 w' (acc ++ [x]) (by omega) (by omega) hu2 hw2 ?_ ?_
      · rw [← hacc, scanF_eq (l.drop at_), ho]; simp only [List.drop_drop]; rw [List.append_assoc]; rfl
      · rw [flen_append, ← hfl]; simp [flen]

theorem RScan_ok {M : Store} {v : Value} {l : List UInt8} (h : B M v l) (hl : l.length ≤ 2 ^ 24) : R F.fettleref1_Scan #[v] M fun r M' => Up M M' ∧ ∃ w, r = .tuple #[w, .int .i64 (flen (scanF l) : Nat)] ∧ NLs B Ty.sl_uint8 M M' w (scanF l) := by
  refine R.cps fun Q hQ => ?_
  apply T_fettleref1_Scan
  unfold S_fettleref1_Scan
  exact RScan_loop h hl (fun w M' hu hw => hQ _ _ ⟨hu, w, rfl, hw⟩) (l.length + 1) 0 M _ [] (by omega) (by omega) (Ch.refl _ _) NLs.nil rfl rfl

end Go.G

namespace Go.G
open Go.Ab Go.Proofs Go.RowKit
set_option linter.unusedVariables false
set_option linter.unusedSimpArgs false

theorem Equal_loop {M : Store} {x y : Value} {l k : List UInt8} (hx : B M x l) (hy : B M y k) (hle : l.length ≤ 2 ^ 26) (hlen : l.length = k.length) {Q : Value → Store → Prop} : ∀ (d i : Nat), d + i = l.length → Q (.bool (decide (l.drop i = k.drop i))) M →
    P_slices_Equal_sl_byte_byte_1 x y (.int .i64 (l.length : Int)) (.int .i64 (i : Int)) M Q := by
  intro d
  induction d with
  | zero =>
    intro i hi h
    apply T_slices_Equal_sl_byte_byte_1
    unfold S_slices_Equal_sl_byte_byte_1
    simp (disch := omega) only [ev, if_neg]
    apply T_slices_Equal_sl_byte_byte_3
    rw [List.drop_of_length_le (by omega), List.drop_of_length_le (by omega)] at h
    exact ⟨rfl, h⟩
  | succ d ih =>
    intro i hi h
    apply T_slices_Equal_sl_byte_byte_1
    unfold S_slices_Equal_sl_byte_byte_1
    simp (disch := omega) only [ev, if_pos]
    apply T_slices_Equal_sl_byte_byte_2
    unfold S_slices_Equal_sl_byte_byte_2
    obtain ⟨p, h1, h2⟩ := By.at hx (i := i) (by omega) .i64
    obtain ⟨q, h3, h4⟩ := By.at hy (i := i) (by omega) .i64
    simp only [h1, h2, h3, h4, ev, bv_neq]
    have e1 : l.drop i = l[i] :: l.drop (i + 1) := List.drop_eq_getElem_cons (by omega)
    have e2 : k.drop i = k[i] :: k.drop (i + 1) := List.drop_eq_getElem_cons (by omega)
    split
    · rename_i hne
      refine ⟨rfl, ?_⟩
      have : ¬ (l.drop i = k.drop i) := by rw [e1, e2]; intro e; injection e with e _; exact hne e
      rw [decide_eq_false this] at h; exact h
    · rename_i hne
      have heq : l[i] = k[i] := Classical.not_not.1 hne
      rw [w64 (by omega) (by omega)]
      refine ih (i + 1) (by omega) ?_
      have : (l.drop i = k.drop i) = (l.drop (i + 1) = k.drop (i + 1)) := by rw [e1, e2, heq, List.cons.injEq]; simp only [true_and]
      simp only [this] at h; exact h

theorem Equal_ok {M : Store} {x y : Value} {l k : List UInt8} (hx : B M x l) (hy : B M y k) (h1 : l.length ≤ 2 ^ 26) (h2 : k.length ≤ 2 ^ 26) : R F.slices_Equal_sl_byte_byte #[x, y] M fun v M' => M' = M ∧ v = .bool (decide (l = k)) := by
  refine R.cps fun Q hQ => ?_
  apply T_slices_Equal_sl_byte_byte
  unfold S_slices_Equal_sl_byte_byte
  rw [hx.lenV, hy.lenV]
  simp only [ev]
  split
  · rename_i h
    have : l ≠ k := fun e => h (by rw [e])
    exact ⟨rfl, hQ _ _ ⟨rfl, by rw [decide_eq_false this]⟩⟩
  · rename_i h
    exact Equal_loop hx hy h1 (by omega) l.length 0 rfl (hQ _ _ ⟨rfl, rfl⟩)

theorem rdBytes_take {b : List UInt8} : (rdBytes 10000 (b.take 10006) false).map (·.1) = (rdBytes 10000 b false).map (·.1) := by
  cases hb : rdBytes 10000 b false with
  | none =>
    cases ht : rdBytes 10000 (b.take 10006) false with
    | none => rfl
    | some p =>
      obtain ⟨x, r⟩ := p
      obtain ⟨h1, h2, h3, h4, h5⟩ := rdBytes_iff.1 ht
      have e1 : (b.take 10006).take 6 = b.take 6 := by rw [List.take_take]; congr 1
      rw [e1] at h2 h3
      simp only [List.length_take] at h1 h3
      have : rdBytes 10000 b false = some ((b.drop 6).take (numOf (b.take 6)), b.drop (6 + numOf (b.take 6))) := rdBytes_iff.2 ⟨by omega, h2, by omega, rfl, rfl⟩
      rw [hb] at this; cases this
  | some p =>
    obtain ⟨x, r⟩ := p
    obtain ⟨h1, h2, h3, h4, h5⟩ := rdBytes_iff.1 hb
    have e1 : (b.take 10006).take 6 = b.take 6 := by rw [List.take_take]; congr 1
    have : rdBytes 10000 (b.take 10006) false = some (((b.take 10006).drop 6).take (numOf ((b.take 10006).take 6)), (b.take 10006).drop (6 + numOf ((b.take 10006).take 6))) :=
      rdBytes_iff.2 ⟨by simp; omega, by rw [e1]; exact h2, by rw [e1]; simp; omega, rfl, rfl⟩
    rw [this]
    simp only [Option.map_some, e1, h4, List.drop_take, List.take_take]
    congr 2
    omega

theorem one_ok {M : Store} {v : Value} {l : List UInt8} (h : B M v l) (hl : l.length ≤ 2 ^ 24) :
    R F.fram_one #[v] M fun r M' => Up M M' ∧ match oneF l with
      | some x => ∃ w, r = .tuple #[w, .int .i64 ((x.length + 10 : Nat) : Int), .bool true] ∧ B M' w x ∧ NTs [w]
      | none => r = .tuple #[.slice none 0 0, .int .i64 0, .bool false] := by
  refine R.cps fun Q hQ => ?_
  apply T_fram_one
  unfold S_fram_one
  have emin : (if (10006 : Int) < (l.length : Int) then (10006 : Int) else (l.length : Int)) = ((min l.length 10006 : Nat) : Int) := by split <;> omega
  rw [h.lenV]
  simp only [ev, emin]
  obtain ⟨u, e1, hu⟩ := By.cut h (lo := none) (hi := some (.int .i64 ((min l.length 10006 : Nat) : Int))) (a := 0) (r := min l.length 10006) (abound_nat (by omega)) rfl (by omega) (by omega)
  rw [List.drop_zero] at hu
  have hmin : l.take (min l.length 10006) = l.take 10006 := by
    rcases Nat.le_total l.length 10006 with h | h
    · rw [Nat.min_eq_left h, List.take_length, List.take_of_length_le h]
    · rw [Nat.min_eq_right h]
  rw [hmin] at hu
  rw [e1, OP_some]
  refine (Read_ok hu (by simp; omega)).mono fun r1 M1 ⟨hu1, b, hr1, hb, hR⟩ => ?_
  subst hr1
  refine (rBytes_ok (top := 10000) hR (by omega) (by simp; omega)).mono fun v2 M2 ⟨hc2, h2⟩ => ?_
  have hu2 : Up M M2 := hu1.ch hc2 fun c hc => by simp at hc; omega
  have none_ : ∀ M', Up M M' → oneF l = none → NTs [.slice none 0 0, .int .i64 0, .bool false] ∧ Q (.tuple #[.slice none 0 0, .int .i64 0, .bool false]) M' := by
    intro M' hM hn
    exact ⟨rfl, hQ _ _ ⟨hM, by rw [hn]⟩⟩
  have htk := rdBytes_take (b := l)
  cases hb2 : rdBytes 10000 (l.take 10006) false with
  | none =>
    rw [hb2] at h2 htk
    obtain ⟨hv2, hR2⟩ := h2
    have hn : rdBytes 10000 l false = none := by
      cases hh : rdBytes 10000 l false with
      | none => rfl
      | some p => rw [hh] at htk; cases htk
    rw [hv2.lenV, OP_some, e_add]
    refine (Ok_ok hR2).mono fun v3 M3 ⟨hM3, hv3⟩ => ?_
    subst hM3; subst hv3
    refine ⟨Up.tdx (Ch.refl _ _) _ _ _, ?_⟩
    simp only [Bool.not_true, ev, Bool.not_false]
    exact none_ _ hu2 (by simp [oneF, hn])
  | some p =>
    obtain ⟨x, r⟩ := p
    rw [hb2] at h2 htk
    obtain ⟨hv2, hR2⟩ := h2
    obtain ⟨r', hrb⟩ : ∃ r', rdBytes 10000 l false = some (x, r') := by
      cases hh : rdBytes 10000 l false with
      | none => rw [hh] at htk; cases htk
      | some q => obtain ⟨y, r'⟩ := q; rw [hh] at htk; simp only [Option.map_some, Option.some.injEq] at htk; subst htk; exact ⟨r', rfl⟩
    obtain ⟨hx1, hx2, hx3⟩ := rdBytes_len hrb
    have hone : oneF l = if r'.length < 4 then none else if sum4 (crc (l.take (6 + x.length))) = r'.take 4 then some x else none := by
      simp only [oneF, hrb, Option.bind_some]
    have i0 : IntKind.wrap .i64 ((6 : Int) + (x.length : Int)) = ((6 + x.length : Nat) : Int) := by rw [w64 (by omega) (by omega)]; omega
    have i4 : IntKind.wrap .i64 (((6 + x.length : Nat) : Int) + 4) = ((6 + x.length + 4 : Nat) : Int) := by rw [w64 (by omega) (by omega)]; omega
    rw [hv2.lenV, OP_some, e_add, i0]
    refine (Ok_ok hR2).mono fun v3 M3 ⟨hM3, hv3⟩ => ?_
    subst hM3; subst hv3
    refine ⟨Up.tdx (Ch.refl _ _) _ _ _, ?_⟩
    simp only [Bool.not_true, ev, Bool.not_false, i4]
    by_cases h4 : r'.length < 4
    · rw [if_pos (by omega)]
      exact none_ _ hu2 (by rw [hone, if_pos h4])
    · rw [if_neg (by omega)]
      obtain ⟨u2, e2, hu3⟩ := By.cut (Sl.up h hu2) (lo := none) (hi := some (.int .i64 ((6 + x.length : Nat) : Int))) (a := 0) (r := 6 + x.length) (abound_nat (by omega)) rfl (by omega) (by omega)
      rw [List.drop_zero] at hu3
      rw [e2, OP_some]
      refine (sum_ok hu3 (by simp; omega)).mono fun v4 M4 ⟨hu4, h4v⟩ => ?_
      refine ⟨hu4.tdj _ _, ?_⟩
      obtain ⟨u5, e5, hu5⟩ := By.cut (Sl.up h (hu2.trans hu4)) (lo := some (.int .i64 ((6 + x.length : Nat) : Int))) (hi := some (.int .i64 ((6 + x.length + 4 : Nat) : Int))) (a := 6 + x.length) (r := 6 + x.length + 4) (abound_nat (by omega)) (abound_nat (by omega)) (by omega) (by omega)
      have e6 : (l.take (6 + x.length + 4)).drop (6 + x.length) = r'.take 4 := by
        rw [List.drop_take, hx3]; congr 1; omega
      rw [e6] at hu5
      rw [e5, OP_some]
      refine (Equal_ok h4v.by hu5 (by simp [sum4]) (by simp; omega)).mono fun v6 M6 ⟨hM6, hv6⟩ => ?_
      subst hM6; subst hv6
      refine ⟨Up.tdx (Ch.refl _ _) _ _ _, ?_⟩
      rw [e_not]
      by_cases hs : sum4 (crc (l.take (6 + x.length))) = r'.take 4
      · rw [decide_eq_true hs]
        simp only [Bool.not_true, ev]
        obtain ⟨aw, cw, rfl⟩ := hv2.slice
        refine ⟨rfl, hQ _ _ ⟨hu2.trans hu4, ?_⟩⟩
        rw [hone, if_neg h4, if_pos hs]
        exact ⟨_, by rw [show 6 + x.length + 4 = x.length + 10 by omega], Sl.up hv2 hu4, rfl⟩
      · rw [decide_eq_false hs]
        simp only [Bool.not_false, ev]
        exact none_ _ (hu2.trans hu4) (by rw [hone, if_neg h4, if_neg hs])

end Go.G

namespace Go.G
open Go.Ab Go.Proofs Go.RowKit
set_option linter.unusedVariables false
set_option linter.unusedSimpArgs false

theorem KC_func (g : FuncId) (first cap : Array Value) (args : List Value) (M : Store) (K : Value → Store → Prop) : KC (.func (.func g) first cap) args M K = R g (first.toList ++ (args ++ cap.toList)).toArray M K := rfl
theorem KC_yield (l : Nat) (cap : Array Value) (args : List Value) (M : Store) (K : Value → Store → Prop) : KC (.func (.yield l) #[] cap) args M K = RunsY Try.prog Ex l args.toArray M K := rfl

theorem All_ok {M : Store} {v : Value} {l : List UInt8} (h : B M v l) (hl : l.length ≤ 2 ^ 24) :
    R F.fram_All #[v] M fun r M' => Up M M' ∧ ∃ b w, r = .func (.func F.fram_All_c1) #[] #[.pointer (some ⟨b, 0, none⟩)] ∧ M.n ≤ b ∧ Ob M' b [w] Ty.sl_uint8 ∧ B M' w l := by
  refine R.cps fun Q hQ => ?_
  apply T_fram_All
  unfold S_fram_All
  obtain ⟨a, c, rfl⟩ := h.slice
  have e1 : boxv (.slice a l.length c) = some [.slice a l.length c] := by kernel_rfl
  simp only [e1, ev]
  have hup := Up.push M (some (.inl ([.slice a l.length c], Ty.sl_uint8, true)))
  have hob := Ob.new M [.slice a l.length c] Ty.sl_uint8
  rw [hob.ld (o := 0) rfl, OP_some]
  refine (Clone_ok (Sl.up h hup) hl).mono fun v2 M2 ⟨hu2, h2⟩ => ?_
  have hob2 := hob.up hu2
  obtain ⟨a2, c2, rfl⟩ := h2.sl.slice
  rw [hob2.st (o := 0) (by simp) rfl rfl, OP_some]
  have e2 : mkF (.func F.fram_All_c1) [] [.pointer (some ⟨M.n, 0, none⟩)] = some (.func (.func F.fram_All_c1) #[] #[.pointer (some ⟨M.n, 0, none⟩)]) := rfl
  rw [e2, OP_some]
  refine ⟨rfl, hQ _ _ ⟨Up.ch (hup.trans hu2) (Ch.setO hob2 _) (fun b hb => by simp at hb; omega), M.n, _, rfl, Nat.le_refl _, hob2.setSt _, ?_⟩⟩
  exact B.set hob2 ne_bb _ h2.by

/-- Frames are handed over one by one: what holds before each, and what holds when one leaves. -/
theorem Allc1_loop {L b : Nat} {w : Value} {l : List UInt8} (hl : l.length ≤ 2 ^ 24) (J : Nat → List (List UInt8) → Store → Prop) (Stop : Store → Prop) {Q : Value → Store → Prop}
    (hup : ∀ a d M M', J a d M → Up M M' → J a d M') (hmem : ∀ a d M, J a d M → Ob M b [w] Ty.sl_uint8 ∧ B M w l)
    (hround : ∀ a d M x u, J a d M → oneF (l.drop a) = some x → a + (x.length + 10) ≤ l.length → B M u x → RunsY Try.prog Ex L #[.int .i64 (a : Int), u] M fun v M' => (v = .bool true ∧ J (a + (x.length + 10)) (d ++ [x]) M') ∨ (v = .bool false ∧ Stop M'))
    (hend : ∀ a d M, J a d M → oneF (l.drop a) = none → Q (.tuple #[]) M) (hstop : ∀ M, Stop M → Q (.tuple #[]) M) :
    ∀ (k a : Nat) (d : List (List UInt8)) (M : Store), l.length - a < k → a ≤ l.length → J a d M → P_fram_All_c1_1 (.func (.yield L) #[] #[]) (.pointer (some ⟨b, 0, none⟩)) (.int .i64 (a : Int)) M Q := by
  intro k
  induction k with
  | zero => intro a d M hk; omega
  | succ k ih =>
    intro a d M hk ha hJ
    apply T_fram_All_c1_1
    unfold S_fram_All_c1_1
    obtain ⟨hob, hw⟩ := hmem a d M hJ
    rw [hob.ld (o := 0) rfl, OP_some]
    obtain ⟨u, e1, hu⟩ := By.cut hw (lo := some (.int .i64 (a : Int))) (hi := none) (a := a) (r := l.length) rfl (abound_nat ha) (Nat.le_refl _) ha
    rw [List.take_length] at hu
    rw [e1, OP_some]
    have hdl : (l.drop a).length = l.length - a := List.length_drop
    refine (one_ok hu (by omega)).mono fun r M1 ⟨hu1, h1⟩ => ?_
    have hJ1 := hup _ _ _ _ hJ hu1
    cases ho : oneF (l.drop a) with
    | none =>
      rw [ho] at h1
      rw [h1]
      simp only [e_tup]
      exact ⟨rfl, hend _ _ _ hJ1 ho⟩
    | some x =>
      rw [ho] at h1
      obtain ⟨ux, h1, hx, _⟩ := h1
      have hlen := oneF_len ho
      rw [h1]
      simp only [e_tup]
      have t0 : (#[ux, Value.int .i64 ((x.length + 10 : Nat) : Int), Value.bool true])[0]? = some ux := rfl
      have t1 : (#[ux, Value.int .i64 ((x.length + 10 : Nat) : Int), Value.bool true])[1]? = some (.int .i64 ((x.length + 10 : Nat) : Int)) := rfl
      have t2 : (#[ux, Value.int .i64 ((x.length + 10 : Nat) : Int), Value.bool true])[2]? = some (.bool true) := rfl
      simp only [t0, t1, t2, ev, Bool.not_true]
      rw [KC_yield]
      refine (hround a d M1 x ux hJ1 ho (by omega) hx).mono fun v2 M2 h2 => ?_
      rcases h2 with ⟨rfl, h2⟩ | ⟨rfl, h2⟩
      · simp only [ev, Bool.not_true]
        rw [w64 (by omega) (by omega)]
        exact ih (a + (x.length + 10)) (d ++ [x]) M2 (by omega) (by omega) h2
      · simp only [ev, Bool.not_false]
        exact ⟨rfl, hstop _ h2⟩

theorem Allc1_ok {L b : Nat} {w : Value} {l : List UInt8} (hl : l.length ≤ 2 ^ 24) (J : Nat → List (List UInt8) → Store → Prop) (Stop : Store → Prop) {Q : Value → Store → Prop} {M : Store} (h0 : J 0 [] M)
    (hup : ∀ a d M M', J a d M → Up M M' → J a d M') (hmem : ∀ a d M, J a d M → Ob M b [w] Ty.sl_uint8 ∧ B M w l)
    (hround : ∀ a d M x u, J a d M → oneF (l.drop a) = some x → a + (x.length + 10) ≤ l.length → B M u x → RunsY Try.prog Ex L #[.int .i64 (a : Int), u] M fun v M' => (v = .bool true ∧ J (a + (x.length + 10)) (d ++ [x]) M') ∨ (v = .bool false ∧ Stop M'))
    (hend : ∀ a d M, J a d M → oneF (l.drop a) = none → Q (.tuple #[]) M) (hstop : ∀ M, Stop M → Q (.tuple #[]) M) :
    R F.fram_All_c1 #[.func (.yield L) #[] #[], .pointer (some ⟨b, 0, none⟩)] M Q := by
  apply T_fram_All_c1
  unfold S_fram_All_c1
  exact Allc1_loop hl J Stop hup hmem hround hend hstop (l.length + 1) 0 [] M (by omega) (by omega) h0

theorem ClipBB_ok {M0 M : Store} {v : Value} {ll : List (List UInt8)} (h : NLs B Ty.sl_uint8 M0 M v ll) : R F.slices_Clip_sl_sl_byte_sl_byte #[v] M fun v' M' => M' = M ∧ NLs B Ty.sl_uint8 M0 M v' ll := by
  refine R.cps fun Q hQ => ?_
  obtain ⟨vs, h1, h2⟩ := h
  apply T_slices_Clip_sl_sl_byte_sl_byte
  obtain ⟨v', e, h'⟩ := slM_full h1
  unfold S_slices_Clip_sl_sl_byte_sl_byte
  rw [h1.sl.lenV]
  simp only [ev, e]
  exact ⟨nts_of h'.sl, hQ _ _ ⟨rfl, vs, h', h2⟩⟩

theorem By.keepI' (M M' : Store) (v : Value) (x : List UInt8) (h : B M v x) (k : KeepI M M') : B M' v x := Sl.keepI h k

theorem ne1 : Ty.sl_uint8 ≠ Ty.sl_sl_uint8 := by decide
theorem ne2 : Ty.uint8 ≠ Ty.sl_sl_uint8 := by decide
theorem ne3 : Ty.uint8 ≠ Ty.int := by decide
theorem ne4 : Ty.sl_uint8 ≠ Ty.int := by decide
theorem ne5 : Ty.sl_sl_uint8 ≠ Ty.int := by decide
theorem ne6 : Ty.int ≠ Ty.sl_sl_uint8 := by decide


/-- What holds before a round of Scan. -/
structure SJ (M0 Mb : Store) (m b4 b5 b : Nat) (w : Value) (l : List UInt8) (a : Nat) (d : List (List UInt8)) (M : Store) : Prop where
  up : Up M0 M
  nb : Mb.n ≤ M.n
  out : ∃ lw, Ob M b4 [lw] Ty.sl_sl_uint8 ∧ NLs B Ty.sl_uint8 Mb M lw d
  end_ : Ob M b5 [.int .i64 (flen d : Nat)] Ty.int
  rc : ∃ rc, Rc M (m + 1) rc ∧ RC_fram_Scan_1 (.pointer (some ⟨b4, 0, none⟩)) (.pointer (some ⟨b5, 0, none⟩)) .ready 0 rc
  box : Ob M b [w] Ty.sl_uint8
  by_ : B M w l
  at_ : a = flen d
  all : d ++ scanF (l.drop a) = scanF l
  df : M.get m = some (.inr (.inr none))

theorem SJ.round {M0 Mb : Store} {m b4 b5 b : Nat} {w : Value} {l : List UInt8} (hl : l.length ≤ 2 ^ 24) (hm : Mb.n = m + 2) (h0 : M0.n ≤ b4 ∧ M0.n ≤ b5 ∧ M0.n ≤ m) (hlt : b4 < m ∧ b5 < m ∧ b < m) (hne : b4 ≠ b5 ∧ b4 ≠ b ∧ b5 ≠ b)
    {a : Nat} {d : List (List UInt8)} {M : Store} {x : List UInt8} {u : Value} (hJ : SJ M0 Mb m b4 b5 b w l a d M) (ho : oneF (l.drop a) = some x) (ha : a + (x.length + 10) ≤ l.length) (hu : B M u x) :
    RunsY Try.prog Ex (m + 1) #[.int .i64 (a : Int), u] M fun v M' => v = .bool true ∧ SJ M0 Mb m b4 b5 b w l (a + (x.length + 10)) (d ++ [x]) M' := by
  obtain ⟨hup, hnb, ⟨lw, hlw, hls⟩, hend, ⟨rc, hrc, hRC⟩, hbox, hby, hat, hall, hdf⟩ := hJ
  refine Y_fram_Scan_1 hrc.of hRC ?_
  unfold SY_fram_Scan_1
  rw [hrc.of, OP_some]
  have hst : rc.st = .ready := by obtain ⟨f, _, _, rfl⟩ := hRC; rfl
  refine ⟨hst, ?_⟩
  -- the record is busy
  have hk1 := hrc.keepI { rc with st := .busy }
  have hc1 := hrc.ch { rc with st := .busy }
  have hrc1 := hrc.put { rc with st := .busy }
  have hg1 : ∀ i, i ≠ m + 1 → (putRec M (m + 1) { rc with st := .busy }).get i = M.get i := fun i hi => Store.get_set_ne _ _ (Ne.symm hi)
  have hn1 : (putRec M (m + 1) { rc with st := .busy }).n = M.n := by simp [putRec]
  have hup1 : Up M0 (putRec M (m + 1) { rc with st := .busy }) := hup.ch hc1 fun c hc => by simp at hc; omega
  generalize putRec M (m + 1) { rc with st := .busy } = M1 at *
  apply T_fram_Scan_2
  unfold S_fram_Scan_2
  have hlw1 := hlw.keepI hk1
  have hu1 := hu.keepI hk1
  rw [hlw1.ld (o := 0) rfl, OP_some]
  obtain ⟨ua, uc, rfl⟩ := hu.slice
  simp only [ev, e_lit1s]
  have hcnt := scanF_count l
  have hd : d.length ≤ (scanF l).length := by rw [← hall]; simp
  have hfl : flen d ≤ flen (scanF l) := by rw [← hall, flen_append]; omega
  have hfl2 := scanF_flen l
  obtain ⟨lw2, M2, e2, hup2, hls2, hk2, hf2⟩ := NLs.app2 (By.keep' ne_bb) hup1 (by omega) (by omega) (hls.keepI By.keepI' hk1) hu1 (by omega)
  rw [e2, OP2_some]
  have hlw2 := hlw1.same (hf2 b4 (by omega))
  obtain ⟨a2, c2, rfl⟩ := ls_nts hls2.ls
  rw [hlw2.st (o := 0) (by simp) rfl rfl, OP_some]
  have hk3 := (Ch.setO hlw2 (some (.inl ([lw].set 0 (.slice a2 (d ++ [x]).length c2), Ty.sl_sl_uint8, true)))).keepT hlw2
  have hc3 := Ch.setO hlw2 (some (.inl ([lw].set 0 (.slice a2 (d ++ [x]).length c2), Ty.sl_sl_uint8, true)))
  have hlw3 := hlw2.setSt ([lw].set 0 (.slice a2 (d ++ [x]).length c2))
  have hg3 : ∀ i, i ≠ b4 → (M2.set b4 (some (.inl ([lw].set 0 (.slice a2 (d ++ [x]).length c2), Ty.sl_sl_uint8, true)))).get i = M2.get i := fun i hi => Store.get_set_ne _ _ (Ne.symm hi)
  have hn3 : (M2.set b4 (some (.inl ([lw].set 0 (.slice a2 (d ++ [x]).length c2), Ty.sl_sl_uint8, true)))).n = M2.n := by simp
  generalize M2.set b4 (some (.inl ([lw].set 0 (.slice a2 (d ++ [x]).length c2), Ty.sl_sl_uint8, true))) = M3 at *
  have hend3 : Ob M3 b5 [.int .i64 (flen d : Nat)] Ty.int := ((hend.keepI hk1).same (hf2 b5 (by omega))).same (hg3 b5 (Ne.symm hne.1))
  have i1 : IntKind.wrap .i64 (IntKind.wrap .i64 (IntKind.wrap .i64 ((a : Int) + 6) + (x.length : Int)) + 4) = ((flen (d ++ [x]) : Nat) : Int) := by
    rw [w64 (x := (a : Int) + 6) (by omega) (by omega), w64 (x := (a : Int) + 6 + x.length) (by omega) (by omega), w64 (by omega) (by omega), flen_append]
    simp [flen]
    simp only [flen] at hat
    omega
  rw [i1, hend3.st (o := 0) (by simp) rfl rfl, OP_some]
  have hk4 := (Ch.setO hend3 (some (.inl ([Value.int .i64 (flen d : Nat)].set 0 (.int .i64 (flen (d ++ [x]) : Nat)), Ty.int, true)))).keepT hend3
  have hc4 := Ch.setO hend3 (some (.inl ([Value.int .i64 (flen d : Nat)].set 0 (.int .i64 (flen (d ++ [x]) : Nat)), Ty.int, true)))
  have hend4 := hend3.setSt ([Value.int .i64 (flen d : Nat)].set 0 (.int .i64 (flen (d ++ [x]) : Nat)))
  have hg4 : ∀ i, i ≠ b5 → (M3.set b5 (some (.inl ([Value.int .i64 (flen d : Nat)].set 0 (.int .i64 (flen (d ++ [x]) : Nat)), Ty.int, true)))).get i = M3.get i := fun i hi => Store.get_set_ne _ _ (Ne.symm hi)
  have hn4 : (M3.set b5 (some (.inl ([Value.int .i64 (flen d : Nat)].set 0 (.int .i64 (flen (d ++ [x]) : Nat)), Ty.int, true)))).n = M3.n := by simp
  generalize M3.set b5 (some (.inl ([Value.int .i64 (flen d : Nat)].set 0 (.int .i64 (flen (d ++ [x]) : Nat)), Ty.int, true))) = M4 at *
  have hn2 : M1.n ≤ M2.n := hk2.1
  have hget : ∀ i, i < m + 2 → i ≠ b4 → i ≠ b5 → M4.get i = M1.get i := fun i hi h4 h5 => by rw [hg4 i h5, hg3 i h4, hf2 i (by omega)]
  have hrc4 : Rc M4 (m + 1) { rc with st := .busy } := by
    unfold Rc; rw [hget (m + 1) (by omega) (by omega) (by omega)]; exact hrc1
  unfold YE
  rw [hrc4.of, OP_some]
  have hk5 := hrc4.keepI { rc with st := bif Nat.beq 0 0 then .ready else .done, pe := 0 }
  have hc5 := hrc4.ch { rc with st := bif Nat.beq 0 0 then .ready else .done, pe := 0 }
  have hrc5 := hrc4.put { rc with st := bif Nat.beq 0 0 then .ready else .done, pe := 0 }
  refine ⟨rfl, ?_, ?_, ⟨.slice a2 (d ++ [x]).length c2, ?_, ?_⟩, ?_, ⟨_, hrc5, ?_⟩, ?_, ?_, ?_, ?_, ?_⟩
  · exact ((hup2.ch hc3 (fun c hc => by simp at hc; omega)).ch hc4 (fun c hc => by simp at hc; omega)).ch hc5 (fun c hc => by simp at hc; omega)
  · simp [putRec]; omega
  · exact (hlw3.same (hg4 b4 hne.1)).keepI hk5
  · refine NLs.keepI By.keepI' ?_ hk5
    exact NLs.keep (By.keep' ne3) (NLs.keep (By.keep' ne2) hls2 ne1 hk3) ne4 hk4
  · exact hend4.keepI hk5
  · obtain ⟨f, f4, f5, rfl⟩ := hRC
    exact ⟨f, f4, f5, rfl⟩
  · exact (hbox.keepI hk1).same (hget b (by omega) (Ne.symm hne.2.1) (Ne.symm hne.2.2)) |>.keepI hk5
  · exact ((((hby.keepI hk1).keep ne_bb hk2).keep ne2 hk3).keep ne3 hk4).keepI hk5
  · rw [flen_append, ← hat]; simp [flen]
  · rw [← hall, scanF_eq (l.drop a), ho]; simp only [List.drop_drop]; rw [List.append_assoc]; rfl
  · have : (putRec M4 (m + 1) { rc with st := bif Nat.beq 0 0 then .ready else .done, pe := 0 }).get m = M4.get m := Store.get_set_ne _ _ (by omega)
    rw [this, hget m (by omega) (by omega) (by omega), hg1 m (by omega)]; exact hdf

theorem Scan_ok {M : Store} {v : Value} {l : List UInt8} (h : B M v l) (hl : l.length ≤ 2 ^ 24) : R F.fram_Scan #[v] M fun r M' => Up M M' ∧ ∃ w, r = .tuple #[w, .int .i64 (flen (scanF l) : Nat)] ∧ NLs B Ty.sl_uint8 M M' w (scanF l) := by
  refine R.cps fun Q hQ => ?_
  apply T_fram_Scan
  unfold S_fram_Scan
  simp only [ev]
  have u1 := Up.push M (some (.inl ([.slice none 0 0], Ty.sl_sl_uint8, true)))
  have o4 := Ob.new M [.slice none 0 0] Ty.sl_sl_uint8
  have n1 : (M.push (some (.inl ([.slice none 0 0], Ty.sl_sl_uint8, true)))).n = M.n + 1 := rfl
  generalize hM1 : M.push (some (.inl ([.slice none 0 0], Ty.sl_sl_uint8, true))) = M1 at *
  have u2 := Up.push M1 (some (.inl ([.int .i64 0], Ty.int, true)))
  have o5 := Ob.new M1 [.int .i64 0] Ty.int
  have n2 : (M1.push (some (.inl ([.int .i64 0], Ty.int, true)))).n = M1.n + 1 := rfl
  generalize hM2 : M1.push (some (.inl ([.int .i64 0], Ty.int, true))) = M2 at *
  rw [o5.st (o := 0) (by simp) rfl rfl, OP_some]
  have c3 := Ch.setO o5 (some (.inl ([Value.int .i64 0].set 0 (.int .i64 0), Ty.int, true)))
  have o53 := o5.setSt ([Value.int .i64 0].set 0 (.int .i64 0))
  have k3 := c3.keepT o5
  have n3 : (M2.set M1.n (some (.inl ([Value.int .i64 0].set 0 (.int .i64 0), Ty.int, true)))).n = M2.n := by simp
  generalize hM3 : M2.set M1.n (some (.inl ([Value.int .i64 0].set 0 (.int .i64 0), Ty.int, true))) = M3 at *
  have u3 : Up M M3 := Up.ch (u1.trans u2) c3 (fun c hc => by simp at hc; omega)
  have o43 := (o4.up u2).keep ne5 k3
  refine (All_ok (Sl.up h u3) hl).mono fun r M4 ⟨hu4, b, w, hr, hb, hob, hby⟩ => ?_
  subst hr
  have u4 : Up M M4 := u3.trans hu4
  have hn34 := hu4.le
  apply T_fram_Scan_1
  unfold S_fram_Scan_1
  intro rc hRC
  have u5 := Up.push M4 (some (.inr (.inr none)))
  have d5 : (M4.push (some (.inr (.inr none)))).get M4.n = some (.inr (.inr none)) := Store.get_push_eq _ _
  have n5 : (M4.push (some (.inr (.inr none)))).n = M4.n + 1 := rfl
  generalize hM5 : M4.push (some (.inr (.inr none))) = M5 at *
  have u6 := Up.push M5 (some (.inr (.inr (some rc))))
  have r6 : Rc (M5.push (some (.inr (.inr (some rc))))) (M4.n + 1) rc := by rw [← n5]; exact Store.get_push_eq _ _
  have n6 : (M5.push (some (.inr (.inr (some rc))))).n = M5.n + 1 := rfl
  generalize hM6 : M5.push (some (.inr (.inr (some rc)))) = M6 at *
  have u46 : Up M4 M6 := u5.trans u6
  have hbl := hob.lt
  have hJ0 : SJ M M6 M4.n M.n M1.n b w l 0 [] M6 :=
    { up := u4.trans u46, nb := Nat.le_refl _, out := ⟨.slice none 0 0, (o43.up hu4).up u46, NLs.nil⟩, end_ := (o53.up hu4).up u46, rc := ⟨rc, r6, hRC⟩, box := hob.up u46, by_ := Sl.up hby u46, at_ := rfl, all := rfl, df := u6.get d5 }
  show R F.fram_All_c1 #[.func (.yield (M4.n + 1)) #[] #[], .pointer (some ⟨b, 0, none⟩)] M6 _
  refine Allc1_ok (w := w) hl (SJ M M6 M4.n M.n M1.n b w l) (fun _ => False) hJ0 ?_ ?_ ?_ ?_ ?_
  · intro a d N N' hJ hN
    obtain ⟨q1, q2, ⟨lw, q3, q4⟩, q5, ⟨rc', q6, q7⟩, q8, q9, q10, q11, q12⟩ := hJ
    exact ⟨q1.trans hN, Nat.le_trans q2 hN.le, ⟨lw, q3.up hN, NLs.up By.up' q4 hN⟩, q5.up hN, ⟨rc', q6.up hN, q7⟩, q8.up hN, Sl.up q9 hN, q10, q11, hN.get q12⟩
  · intro a d N hJ; exact ⟨hJ.box, hJ.by_⟩
  · intro a d N x u hJ ho ha hu
    exact (SJ.round hl (by omega) ⟨by omega, by omega, by omega⟩ ⟨by omega, by omega, by omega⟩ ⟨by omega, by omega, by omega⟩ hJ ho ha hu).mono fun v M' hh => .inl hh
  · intro a d N hJ ho
    obtain ⟨q1, q2, ⟨lw, q3, q4⟩, q5, ⟨rc', q6, q7⟩, q8, q9, q10, q11, q12⟩ := hJ
    rw [scanF_eq, ho, List.append_nil] at q11
    subst q11
    have hst : rc'.st = .ready ∧ rc'.pe = 0 := by obtain ⟨f, _, _, rfl⟩ := q7; exact ⟨rfl, rfl⟩
    rw [q6.of, OP_some]
    refine ⟨by rw [hst.1]; decide, ?_⟩
    rw [hst.2]
    show P_fram_Scan_3 _ _ _ _ _
    have k7 := q6.keepI { rc' with st := .exhausted }
    have c7 := q6.ch { rc' with st := .exhausted }
    have d7 : (putRec N (M4.n + 1) { rc' with st := .exhausted }).get M4.n = some (.inr (.inr none)) := by
      have : (putRec N (M4.n + 1) { rc' with st := .exhausted }).get M4.n = N.get M4.n := Store.get_set_ne _ _ (by omega)
      rw [this, q12]
    rw [hst.2] at c7 d7 k7
    generalize putRec N (M4.n + 1) { st := .exhausted, pe := 0, tmps := rc'.tmps, params := rc'.params, assign := rc'.assign, body := rc'.body } = N1 at *
    apply T_fram_Scan_3
    unfold S_fram_Scan_3
    rw [(q3.keepI k7).ld (o := 0) rfl, OP_some]
    refine (ClipBB_ok (NLs.keepI By.keepI' q4 k7)).mono fun v2 N2 ⟨hN2, h2⟩ => ?_
    subst hN2
    refine ⟨Up.tdj (Ch.refl _ _) _ _, ?_⟩
    rw [(q5.keepI k7).ld (o := 0) rfl, OP_some]
    have ht : atake [{ target := .collected M4.n, args := #[] }] N2 = some (N2.set M4.n none) := by simp [atake, d7]
    rw [ht, OP_some]
    obtain ⟨a2, c2, rfl⟩ := ls_nts h2.ls
    refine ⟨rfl, hQ _ _ ⟨?_, _, rfl, ?_⟩⟩
    · exact Up.ch (Up.ch q1 c7 (fun c hc => by simp at hc; omega)) (Ch.set d7 _) (fun c hc => by simp at hc; omega)
    · exact (NLs.keepI By.keepI' h2 (KeepI.setR d7 _)).base (by omega)
  · intro N h; exact h.elim

end Go.G

namespace Go.G
open Go.Ab Go.Proofs Go.RowKit
set_option linter.unusedVariables false
set_option linter.unusedSimpArgs false

/-- A range over frames: the rounds change some boxes (S), and keep what is said of them (I). -/
theorem range_all {M0 M : Store} {b : Nat} {w : Value} {l : List UInt8} {rc : LRec} (hl : l.length ≤ 2 ^ 24) (hu : Up M0 M) (hob : Ob M b [w] Ty.sl_uint8) (hby : B M w l) (S : List Nat) (hS : ∀ s ∈ S, M0.n ≤ s ∧ s < M.n ∧ s ≠ b)
    (I : List (List UInt8) → Store → Prop) (hI : I [] M) (hIup : ∀ d N N', I d N → Up N N' → I d N') (hIS : ∀ d N, I d N → ∀ s ∈ S, ∃ cells T, N.get s = some (.inl (cells, T, true)) ∧ Ty.uint8 ≠ T)
    {K : Value → Store → Prop}
    (hround : ∀ d a N x u, I d N → Up M0 N → a = flen d → a + (x.length + 10) ≤ l.length → d ++ x :: scanF (l.drop (a + (x.length + 10))) = scanF l → B N u x → Rc N (M.n + 1) rc →
      RunsY Try.prog Ex (M.n + 1) #[.int .i64 (a : Int), u] N fun v N' => v = .bool true ∧ I (d ++ [x]) N' ∧ Rc N' (M.n + 1) rc ∧ Ch ((M.n + 1) :: S) N N')
    (hend : ∀ N, Up M0 N → I (scanF l) N → Rc N (M.n + 1) rc → N.get M.n = some (.inr (.inr none)) → K (.tuple #[]) N) :
    rfc Try.prog Ex (.func (.func F.fram_All_c1) #[] #[.pointer (some ⟨b, 0, none⟩)]) (M.n + 1) ((M.push (some (.inr (.inr none)))).push (some (.inr (.inr (some rc))))) K := by
  have u5 := Up.push M (some (.inr (.inr none)))
  have d5 : (M.push (some (.inr (.inr none)))).get M.n = some (.inr (.inr none)) := Store.get_push_eq _ _
  have n5 : (M.push (some (.inr (.inr none)))).n = M.n + 1 := rfl
  generalize M.push (some (.inr (.inr none))) = M5 at *
  have u6 := Up.push M5 (some (.inr (.inr (some rc))))
  have r6 : Rc (M5.push (some (.inr (.inr (some rc))))) (M.n + 1) rc := by rw [← n5]; exact Store.get_push_eq _ _
  have n6 : (M5.push (some (.inr (.inr (some rc))))).n = M5.n + 1 := rfl
  generalize M5.push (some (.inr (.inr (some rc)))) = M6 at *
  have u46 : Up M M6 := u5.trans u6
  have hbl := hob.lt
  show R F.fram_All_c1 #[.func (.yield (M.n + 1)) #[] #[], .pointer (some ⟨b, 0, none⟩)] M6 K
  refine Allc1_ok (w := w) hl (fun a d N => Up M0 N ∧ I d N ∧ Rc N (M.n + 1) rc ∧ Ob N b [w] Ty.sl_uint8 ∧ B N w l ∧ a = flen d ∧ d ++ scanF (l.drop a) = scanF l ∧ N.get M.n = some (.inr (.inr none))) (fun _ => False)
    ⟨hu.trans u46, hIup _ _ _ hI u46, r6, hob.up u46, Sl.up hby u46, rfl, rfl, u6.get d5⟩ ?_ ?_ ?_ ?_ ?_
  · rintro a d N N' ⟨h1, h2, h3, h4, h5, h6, h7, h8⟩ hN
    exact ⟨h1.trans hN, hIup _ _ _ h2 hN, h3.up hN, h4.up hN, Sl.up h5 hN, h6, h7, hN.get h8⟩
  · rintro a d N ⟨h1, h2, h3, h4, h5, h6, h7, h8⟩; exact ⟨h4, h5⟩
  · rintro a d N x u ⟨h1, h2, h3, h4, h5, h6, h7, h8⟩ ho ha hx
    have hall : d ++ x :: scanF (l.drop (a + (x.length + 10))) = scanF l := by
      rw [← h7, scanF_eq (l.drop a), ho]; simp only [List.drop_drop]
    refine (hround d a N x u h2 h1 h6 ha hall hx h3).mono fun v N' ⟨g1, g2, g3, g4⟩ => .inl ⟨g1, ?_⟩
    have hns : ∀ i, i < M.n → i ∉ S → i ∉ (M.n + 1) :: S := fun i hi hn hm => by
      rcases List.mem_cons.1 hm with h | h
      · omega
      · exact hn h
    have hmS : M.n ∉ (M.n + 1) :: S := fun hm => by
      rcases List.mem_cons.1 hm with h | h
      · omega
      · have := hS _ h; omega
    refine ⟨Up.ch h1 g4 fun c hc => ?_, g2, g3, g4.at h4 (hns b hbl fun hm => (hS b hm).2.2 rfl), ?_, ?_, ?_, g4.at h8 hmS⟩
    · have hle := hu.n
      rcases List.mem_cons.1 hc with h | h
      · omega
      · exact (hS c h).1
    · refine Sl.chS h5 g4 fun c hc => ?_
      rcases List.mem_cons.1 hc with h | h
      · subst h; exact .inr ⟨_, h3⟩
      · exact .inl (hIS d N h2 c h)
    · rw [flen_append, ← h6]; simp [flen]
    · rw [List.append_assoc]; exact hall
  · rintro a d N ⟨h1, h2, h3, h4, h5, h6, h7, h8⟩ ho
    rw [scanF_eq, ho, List.append_nil] at h7
    subst h7
    exact hend N h1 h2 h3 h8
  · intro N h; exact h.elim

/-! ## frames that are found -/
theorem numOf_be (k n : Nat) (h : n < 256 ^ k) : numOf (be k n) = n := by
  have : ∀ (k n m : Nat), n < 256 ^ k → (be k n).foldl (fun n c => n * 256 + c.toNat) m = m * 256 ^ k + n := by
    intro k
    induction k with
    | zero => intro n m h; simp [be]; simpa using h
    | succ k ih =>
      intro n m h
      have hpos : 0 < 256 ^ k := Nat.pow_pos (by omega)
      have hq : n / 256 ^ k < 256 := by rw [Nat.div_lt_iff_lt_mul hpos, Nat.mul_comm]; rw [Nat.pow_succ] at h; exact h
      have hbe : be k n = be k (n % 256 ^ k) := by
        have gen : ∀ (j : Nat), j ≤ k → be j n = be j (n % 256 ^ k) := by
          intro j
          induction j with
          | zero => intro _; rfl
          | succ j ihj =>
            intro hj
            simp only [be]
            rw [ihj (by omega)]
            congr 1
            have : 256 ^ k = 256 ^ j * 256 ^ (k - j) := by rw [← Nat.pow_add]; congr 1; omega
            rw [this, Nat.mod_mul_right_div_self]
            apply UInt8.toNat_inj.1
            simp only [UInt8.toNat_ofNat']
            have hd : 256 ∣ 256 ^ (k - j) := by
              obtain ⟨c, hc⟩ : ∃ c, k - j = c + 1 := ⟨k - j - 1, by omega⟩
              rw [hc, Nat.pow_succ]; exact Nat.dvd_mul_left _ _
            rw [Nat.mod_mod_of_dvd _ hd]
        exact gen k (Nat.le_refl _)
      simp only [be, List.foldl_cons]
      rw [hbe, ih _ _ (Nat.mod_lt _ hpos)]
      rw [UInt8.toNat_ofNat']
      have : n / 256 ^ k % 2 ^ 8 = n / 256 ^ k := Nat.mod_eq_of_lt hq
      rw [this, Nat.pow_succ]
      have := Nat.div_add_mod n (256 ^ k)
      have e : (m * 256 + n / 256 ^ k) * 256 ^ k = m * (256 ^ k * 256) + 256 ^ k * (n / 256 ^ k) := by
        rw [Nat.add_mul, Nat.mul_assoc, Nat.mul_comm 256 (256 ^ k), Nat.mul_comm (n / 256 ^ k)]
      omega
  have := this k n 0 h
  simpa [numOf] using this

theorem oneF_frm (x r : List UInt8) (h : x.length ≤ 10000) : oneF (frm x ++ r) = some x := by
  have e0 : frm x ++ r = be 6 x.length ++ (x ++ (sum4 (crc (be 6 x.length ++ x)) ++ r)) := by simp [frm]
  have e1 : (frm x ++ r).take 6 = be 6 x.length := by rw [e0, List.take_left' (be_length _ _)]
  have e2 : numOf ((frm x ++ r).take 6) = x.length := by rw [e1, numOf_be _ _ (by omega)]
  have e3 : (frm x ++ r).drop 6 = x ++ (sum4 (crc (be 6 x.length ++ x)) ++ r) := by rw [e0, List.drop_left' (be_length _ _)]
  have hl : (frm x ++ r).length = x.length + 10 + r.length := by rw [List.length_append, frm_length]
  have hb : rdBytes 10000 (frm x ++ r) false = some (x, sum4 (crc (be 6 x.length ++ x)) ++ r) := by
    refine rdBytes_iff.2 ⟨by omega, by omega, by omega, ?_, ?_⟩
    · rw [e2, e3, List.take_left' rfl]
    · rw [e2, ← List.drop_drop, e3, List.drop_left' rfl]
  simp only [oneF, hb, Option.bind_some]
  rw [if_neg (by simp [sum4]), if_pos]
  have e4 : (frm x ++ r).take (6 + x.length) = be 6 x.length ++ x := by
    rw [e0, ← List.append_assoc, List.take_left' (by simp [be_length])]
  rw [e4]; exact (List.take_left' rfl).symm

theorem scanF_frm (x r : List UInt8) (h : x.length ≤ 10000) : scanF (frm x ++ r) = x :: scanF r := by
  rw [scanF_eq, oneF_frm x r h]
  simp only
  rw [List.drop_left' (frm_length x)]
theorem scanF_short (r : List UInt8) (h : r.length < 10) : scanF r = [] := by
  rw [scanF_eq]
  cases ho : oneF r with
  | none => rfl
  | some x => have := oneF_len ho; omega

end Go.G

namespace Go.G
open Go.Ab Go.Proofs Go.RowKit
set_option linter.unusedVariables false
set_option linter.unusedSimpArgs false

theorem End_ok {M : Store} {b : Nat} {l : List UInt8} {bad : Bool} (h : Rd Ty.code_Reader M b l bad) : R F.code_Reader_End #[.pointer (some ⟨b, 0, none⟩)] M fun v M' => M' = M ∧ v = .bool (!bad && l.isEmpty) := by
  obtain ⟨w, hb, hw⟩ := h
  refine R.cps fun Q hQ => ?_
  apply T_code_Reader_End
  unfold S_code_Reader_End
  have e0 := hb.ld (o := 0) rfl
  have e1 := hb.ld (o := 1) rfl
  simp only [ev, Nat.zero_add, e1, e0]
  cases bad with
  | true => exact ⟨rfl, hQ _ _ ⟨rfl, rfl⟩⟩
  | false =>
    simp only [Bool.not_false, ev, hw.lenV]
    refine ⟨rfl, hQ _ _ ⟨rfl, ?_⟩⟩
    cases l with
    | nil => rfl
    | cons x l => simp; omega

theorem rEnd_ok {M : Store} {b : Nat} {l : List UInt8} {bad : Bool} (h : Rd Ty.fettleref1_Reader M b l bad) : R F.fettleref1_Reader_End #[.pointer (some ⟨b, 0, none⟩)] M fun v M' => M' = M ∧ v = .bool (!bad && l.isEmpty) := by
  obtain ⟨w, hb, hw⟩ := h
  refine R.cps fun Q hQ => ?_
  apply T_fettleref1_Reader_End
  unfold S_fettleref1_Reader_End
  have e0 := hb.ld (o := 0) rfl
  have e1 := hb.ld (o := 1) rfl
  simp only [ev, Nat.zero_add, e1, e0]
  cases bad with
  | true => exact ⟨rfl, hQ _ _ ⟨rfl, rfl⟩⟩
  | false =>
    simp only [Bool.not_false, ev, hw.lenV]
    refine ⟨rfl, hQ _ _ ⟨rfl, ?_⟩⟩
    cases l with
    | nil => rfl
    | cons x l => simp; omega

theorem tup2_0 (a b : Value) : tup (.tuple #[a, b]) 0 = some a := rfl
theorem tup2_1 (a b : Value) : tup (.tuple #[a, b]) 1 = some b := rfl
theorem tup3_0 (a b c : Value) : tup (.tuple #[a, b, c]) 0 = some a := rfl
theorem tup3_1 (a b c : Value) : tup (.tuple #[a, b, c]) 1 = some b := rfl
theorem tup3_2 (a b c : Value) : tup (.tuple #[a, b, c]) 2 = some c := rfl

theorem nts3 {s e s' e' M v n cs M' v' n' cs'} (h : Sl s e M v n cs) (h' : Sl s' e' M' v' n' cs') {b : Bool} : NTs [v, v', .bool b] := by
  obtain ⟨a, c, rfl⟩ := h.slice; obtain ⟨a', c', rfl⟩ := h'.slice; rfl

/-- The one frame that bytes are. -/
def wholeF (l : List UInt8) : Option (List UInt8) := match scanF l with
  | [x] => if x.length + 10 = l.length then some x else none
  | _ => none
/-- What an artifact holds. -/
def openF (l : List UInt8) : Option (List UInt8 × List UInt8) :=
  (wholeF l).bind fun x => (rdBytes 4000 x false).bind fun p => (rdBytes 256 p.2 false).bind fun q => if q.2.isEmpty then some (p.1, q.1) else none
def makeF (x y : List UInt8) : List UInt8 := frm (be 6 x.length ++ x ++ be 6 y.length ++ y)
theorem makeF_length (x y : List UInt8) : (makeF x y).length = x.length + y.length + 22 := by simp [makeF, frm_length, be_length]; omega

theorem RMake_ok {M : Store} {v w : Value} {x y : List UInt8} (h : B M v x) (hy : B M w y) (hl : x.length ≤ 2 ^ 22) (hk : y.length ≤ 2 ^ 22) :
    R F.fettleref10_Make #[v, w] M fun v' M' => Up M M' ∧ N M M' v' (makeF x y) := by
  refine R.cps fun Q hQ => ?_
  apply T_fettleref10_Make
  unfold S_fettleref10_Make
  refine (RBytes_ok (l := []) (Sl.nil _ _ _) h (by simp) (by omega)).mono fun v1 M1 ⟨hu1, h1⟩ => ?_
  rw [List.nil_append] at h1
  refine (RBytes_ok h1.by (Sl.up hy hu1) (by simp [be_length]; omega) (by omega)).mono fun v2 M2 ⟨hu2, h2⟩ => ?_
  refine (RPut_ok (l := []) (Sl.nil _ _ _) h2.by (by simp) (by simp [be_length]; omega)).mono fun v3 M3 ⟨hu3, h3⟩ => ?_
  rw [List.nil_append] at h3
  exact ⟨nts_of h3.sl, hQ _ _ ⟨(hu1.trans hu2).trans hu3, Nw.base h3 (hu1.trans hu2).n⟩⟩

theorem wholeF_len {l x : List UInt8} (h : wholeF l = some x) : x.length + 10 = l.length := by
  unfold wholeF at h
  split at h
  · split at h
    · injection h with h; subst h; assumption
    · cases h
  · cases h

/-- What an opening answers. -/
def Opn (M0 M : Store) (r : Value) (o : Option (List UInt8 × List UInt8)) : Prop :=
  ∃ u v M1, r = .tuple #[u, v, .bool o.isSome] ∧ N M0 M1 u (o.getD ([], [])).1 ∧ N M0 M u (o.getD ([], [])).1 ∧ N M1 M v (o.getD ([], [])).2 ∧ M0.n ≤ M1.n ∧ M1.n ≤ M.n
theorem Opn.none (M0 M : Store) (h : M0.n ≤ M.n) : Opn M0 M (.tuple #[.slice .none 0 0, .slice .none 0 0, .bool false]) .none := ⟨_, _, M0, rfl, Nw.nil _ _ _ _, Nw.nil _ _ _ _, Nw.nil _ _ _ _, Nat.le_refl _, h⟩

theorem Open_ok {M : Store} {v : Value} {l : List UInt8} (h : B M v l) (hl : l.length ≤ 2 ^ 24) : R F.arti_Open #[v] M fun r M' => Up M M' ∧ Opn M M' r (openF l) := by
  refine R.cps fun Q hQ => ?_
  apply T_arti_Open
  unfold S_arti_Open
  have no : ∀ M', Up M M' → openF l = none → NTs [.slice none 0 0, .slice none 0 0, .bool false] ∧ Q (.tuple #[.slice none 0 0, .slice none 0 0, .bool false]) M' := by
    intro M' hM hn
    refine ⟨rfl, hQ _ _ ⟨hM, ?_⟩⟩
    rw [hn]; exact Opn.none _ _ hM.n
  refine (Scan_ok h hl).mono fun r M1 ⟨hu1, w, hr, hw⟩ => ?_
  subst hr
  rw [tup2_0, OP_some, tup2_1, OP_some, hw.ls.lenV, OP_some, e_neq, BR_dec]
  split
  · rename_i hne
    refine no _ hu1 ?_
    have : wholeF l = none := by
      unfold wholeF
      split
      · rename_i h1; rw [h1] at hne; exact absurd rfl hne
      · rfl
    rw [openF, this]; rfl
  rename_i hone
  have hone : (scanF l).length = 1 := by omega
  obtain ⟨x, hx⟩ := List.length_eq_one_iff.1 hone
  have hxl := scanF_flen l
  rw [hx] at hw hxl ⊢
  have hf : flen [x] = x.length + 10 := by simp [flen]
  rw [hf] at hxl ⊢
  rw [h.lenV, OP_some, e_neq, BR_dec]
  split
  · rename_i hne
    refine no _ hu1 ?_
    have : wholeF l = none := by
      unfold wholeF
      rw [hx]; simp only
      rw [if_neg (by omega)]
    rw [openF, this]; rfl
  rename_i hle
  have hwh : wholeF l = some x := by
    unfold wholeF
    rw [hx]; simp only
    rw [if_pos (by omega)]
  have ho : openF l = (rdBytes 4000 x false).bind fun p => (rdBytes 256 p.2 false).bind fun q => if q.2.isEmpty then some (p.1, q.1) else none := by
    rw [openF, hwh]; rfl
  obtain ⟨p, q, e1, e2, hq⟩ := hw.ls.at (i := 0) (by simp) .i64
  have e1 : ixA 1 w (.int .i64 0) = some p := e1
  have hq : B M1 q x := hq
  rw [e1, OP_some, e2, OP_some]
  refine (Read_ok hq (by omega)).mono fun r2 M2 ⟨hu2, b, hr2, hbn, hR⟩ => ?_
  subst hr2
  have hMb : M.n ≤ b := Nat.le_trans hu1.n hbn
  refine (rBytesN_ok (top := 4000) hR (by omega) (by omega)).mono fun v3 M3 ⟨hc3, h3⟩ => ?_
  have u2 : Up M M2 := hu1.trans hu2
  have u3 : Up M M3 := u2.ch hc3 fun c hc => by simp at hc; omega
  have bad : ∀ (l' : List UInt8), l'.length ≤ 2 ^ 24 → Rd Ty.code_Reader M3 b l' true → openF l = none →
      R F.code_Reader_Bytes #[.pointer (some ⟨b, 0, none⟩), .int .i64 256] M3 fun t29 M4 => R F.code_Reader_End #[.pointer (some ⟨b, 0, none⟩)] M4 fun t31 M5 => OP (aun .not t31) fun t32 => BR t32
        (NTs [.slice none 0 0, .slice none 0 0, .bool false] ∧ Q (.tuple #[.slice none 0 0, .slice none 0 0, .bool false]) M5) (NTs [v3, t29, .bool true] ∧ Q (.tuple #[v3, t29, .bool true]) M5) := by
    intro l' hl' hR3 hn
    refine (rBytesN_ok (top := 256) hR3 (by omega) hl').mono fun v4 M4 ⟨hc4, h4⟩ => ?_
    have hrd : rdBytes 256 l' true = none := by simp [rdBytes, rdNum]
    rw [hrd] at h4
    refine (End_ok h4.2).mono fun v5 M5 ⟨h5, h6⟩ => ?_
    subst h5; subst h6
    rw [e_not, BR_bool, if_pos (by simp)]
    exact no _ (u3.ch hc4 fun c hc => by simp at hc; omega) hn
  cases h4 : rdBytes 4000 x false with
  | none =>
    rw [h4] at h3 ho
    exact bad [] (by simp) h3.2 ho
  | some pr =>
    obtain ⟨k, rest⟩ := pr
    rw [h4] at h3 ho
    simp only [Option.bind_some] at ho
    obtain ⟨hk, hR3⟩ := h3
    have hlen := rdBytes_len h4
    refine (rBytesN_ok (top := 256) hR3 (by omega) (by omega)).mono fun v4 M4 ⟨hc4, h5⟩ => ?_
    have u4 : Up M M4 := u3.ch hc4 fun c hc => by simp at hc; omega
    have hk4 : N M2 M4 v3 k := by
      obtain ⟨w', hob, _⟩ := hR3
      exact Nw.keep hk ne_rd (hc4.keepT hob)
    cases h6 : rdBytes 256 rest false with
    | none =>
      rw [h6] at h5 ho
      refine (End_ok h5.2).mono fun v5 M5 ⟨h7, h8⟩ => ?_
      subst h7; subst h8
      rw [e_not, BR_bool, if_pos (by simp)]
      exact no _ u4 ho
    | some pr =>
      obtain ⟨y, rest'⟩ := pr
      rw [h6] at h5 ho
      simp only [Option.bind_some] at ho
      refine (End_ok h5.2).mono fun v5 M5 ⟨h7, h8⟩ => ?_
      subst h7; subst h8
      rw [e_not, BR_bool]
      split
      · rename_i hb
        refine no _ u4 ?_
        rw [ho, if_neg (by simpa using hb)]
      · rename_i hb
        have ho' : openF l = some (k, y) := by rw [ho, if_pos (by simpa using hb)]
        refine ⟨nts3 hk.sl h5.1.sl, hQ _ _ ⟨u4, ?_⟩⟩
        rw [ho']
        exact ⟨v3, v4, M3, rfl, Nw.base hk u2.n, Nw.base hk4 u2.n, h5.1, u3.n, hc4.n⟩

theorem whole_ok {M : Store} {v : Value} {l : List UInt8} (h : B M v l) (hl : l.length ≤ 2 ^ 24) : R F.fettleref10_whole #[v] M fun r M' => Up M M' ∧ ∃ a n c, r = .tuple #[.slice a n c, .bool (wholeF l).isSome] ∧ B M' (.slice a n c) ((wholeF l).getD []) := by
  refine R.cps fun Q hQ => ?_
  apply T_fettleref10_whole
  unfold S_fettleref10_whole
  have no : ∀ M', Up M M' → wholeF l = none → NTs [.slice none 0 0, .bool false] ∧ Q (.tuple #[.slice none 0 0, .bool false]) M' := by
    intro M' hM hn
    refine ⟨rfl, hQ _ _ ⟨hM, none, 0, 0, ?_⟩⟩
    rw [hn]; exact ⟨rfl, Sl.nil _ _ _⟩
  refine (RScan_ok h hl).mono fun r M1 ⟨hu1, w, hr, hw⟩ => ?_
  subst hr
  rw [tup2_0, OP_some, tup2_1, OP_some, hw.ls.lenV, OP_some, e_neq, BR_dec]
  split
  · rename_i hne
    refine no _ hu1 ?_
    unfold wholeF
    split
    · rename_i h1; rw [h1] at hne; exact absurd rfl hne
    · rfl
  rename_i hone
  have hone : (scanF l).length = 1 := by omega
  obtain ⟨x, hx⟩ := List.length_eq_one_iff.1 hone
  have hxl := scanF_flen l
  rw [hx] at hw hxl ⊢
  have hf : flen [x] = x.length + 10 := by simp [flen]
  rw [hf] at hxl ⊢
  rw [h.lenV, OP_some, e_neq, BR_dec]
  split
  · rename_i hne
    refine no _ hu1 ?_
    unfold wholeF
    rw [hx]; simp only
    rw [if_neg (by omega)]
  rename_i hle
  have hwh : wholeF l = some x := by
    unfold wholeF
    rw [hx]; simp only
    rw [if_pos (by omega)]
  obtain ⟨p, q, e1, e2, hq⟩ := hw.ls.at (i := 0) (by simp) .i64
  have e1 : ixA 1 w (.int .i64 0) = some p := e1
  have hq : B M1 q x := hq
  rw [e1, OP_some, e2, OP_some]
  obtain ⟨a, c, rfl⟩ := hq.slice
  refine ⟨rfl, hQ _ _ ⟨hu1, a, x.length, c, ?_⟩⟩
  rw [hwh]
  exact ⟨rfl, hq⟩

/-- What an opening answers, of the document's own. -/
def Opr (M : Store) (r : Value) (o : Option (List UInt8 × List UInt8)) : Prop := ∃ u v, r = .tuple #[u, v, .bool o.isSome] ∧ B M u (o.getD ([], [])).1 ∧ B M v (o.getD ([], [])).2

theorem ROpen_ok {M : Store} {v : Value} {l : List UInt8} (h : B M v l) (hl : l.length ≤ 2 ^ 24) : R F.fettleref10_Open #[v] M fun r M' => Up M M' ∧ Opr M' r (openF l) := by
  refine R.cps fun Q hQ => ?_
  apply T_fettleref10_Open
  unfold S_fettleref10_Open
  have no : ∀ M', Up M M' → openF l = none → NTs [.slice none 0 0, .slice none 0 0, .bool false] ∧ Q (.tuple #[.slice none 0 0, .slice none 0 0, .bool false]) M' := by
    intro M' hM hn
    refine ⟨rfl, hQ _ _ ⟨hM, ?_⟩⟩
    rw [hn]; exact ⟨_, _, rfl, Sl.nil _ _ _, Sl.nil _ _ _⟩
  refine (whole_ok h hl).mono fun r M1 ⟨hu1, a, n, c, hr, hw⟩ => ?_
  subst hr
  have e1 : bldS #[.slice none 0 0, .bool false] [(0, 1), (1, 1)] [(0, .slice a n c)] = some (.agg #[.slice a n c, .bool false]) := by kernel_rfl
  have e2 : boxv (.agg #[.slice a n c, .bool false]) = some [.slice a n c, .bool false] := by kernel_rfl
  rw [tup2_0, OP_some, tup2_1, OP_some, e1, OP_some, e2, OP_some, LT_eq]
  have u1 := Up.push M1 (some (.inl ([.slice a n c, .bool false], Ty.fettleref1_Reader, true)))
  have o1 := Ob.new M1 [.slice a n c, .bool false] Ty.fettleref1_Reader
  generalize M1.push (some (.inl ([.slice a n c, .bool false], Ty.fettleref1_Reader, true))) = M2 at *
  have hx : ((wholeF l).getD []).length ≤ 2 ^ 24 := by
    cases hwl : wholeF l with
    | none => simp
    | some x => have := wholeF_len hwl; simp; omega
  have hR : Rd Ty.fettleref1_Reader M2 M1.n ((wholeF l).getD []) false := ⟨_, o1, Sl.up hw u1⟩
  have hbn := hu1.n
  have u2 : Up M M2 := hu1.trans u1
  have ho : openF l = (wholeF l).bind fun x => (rdBytes 4000 x false).bind fun p => (rdBytes 256 p.2 false).bind fun q => if q.2.isEmpty then some (p.1, q.1) else none := rfl
  refine (rrBytes_ok (top := 4000) hR (by omega) hx).mono fun v3 M3 ⟨hc3, h3⟩ => ?_
  have u3 : Up M M3 := u2.ch hc3 fun c hc => by simp at hc; omega
  have bad : ∀ (l' : List UInt8), l'.length ≤ 2 ^ 24 → Rd Ty.fettleref1_Reader M3 M1.n l' true → openF l = none →
      R F.fettleref1_Reader_Bytes #[.pointer (some ⟨M1.n, 0, none⟩), .int .i64 256] M3 fun t21 M4 => OP (aun .not (.bool (wholeF l).isSome)) fun t23 => BR t23
        (NTs [.slice none 0 0, .slice none 0 0, .bool false] ∧ Q (.tuple #[.slice none 0 0, .slice none 0 0, .bool false]) M4)
        (R F.fettleref1_Reader_End #[.pointer (some ⟨M1.n, 0, none⟩)] M4 fun t31 M5 => OP (aun .not t31) fun t32 => BR t32
        (NTs [.slice none 0 0, .slice none 0 0, .bool false] ∧ Q (.tuple #[.slice none 0 0, .slice none 0 0, .bool false]) M5) (NTs [v3, t21, .bool true] ∧ Q (.tuple #[v3, t21, .bool true]) M5)) := by
    intro l' hl' hR3 hn
    refine (rrBytes_ok (top := 256) hR3 (by omega) hl').mono fun v4 M4 ⟨hc4, h4⟩ => ?_
    have hrd : rdBytes 256 l' true = none := by simp [rdBytes, rdNum]
    rw [hrd] at h4
    obtain ⟨_, r4, _, h4⟩ := h4
    have u4 : Up M M4 := u3.ch hc4 fun c hc => by simp at hc; omega
    rw [e_not, BR_bool]
    split
    · exact no _ u4 hn
    · refine (rEnd_ok h4).mono fun v5 M5 ⟨h5, h6⟩ => ?_
      subst h5; subst h6
      rw [e_not, BR_bool, if_pos (by simp)]
      exact no _ u4 hn
  cases hwl : wholeF l with
  | none =>
    rw [hwl] at h3 ho bad
    have : openF l = none := ho
    have hrd : rdBytes 4000 ((none : Option (List UInt8)).getD []) false = none := by simp [rdBytes, rdNum]
    rw [hrd] at h3
    obtain ⟨_, r4, hr4, h3⟩ := h3
    exact bad r4 (by simp at hr4; simp [hr4]) h3 this
  | some x =>
    rw [hwl] at h3 ho bad hx
    simp only [Option.bind_some] at ho
    simp only [Option.getD_some] at h3 hx
    cases h4 : rdBytes 4000 x false with
    | none =>
      rw [h4] at h3 ho
      obtain ⟨_, r4, hr4, h3⟩ := h3
      exact bad r4 (by omega) h3 ho
    | some pr =>
      obtain ⟨k, rest⟩ := pr
      rw [h4] at h3 ho
      simp only [Option.bind_some] at ho
      obtain ⟨hk, hR3⟩ := h3
      have hlen := rdBytes_len h4
      refine (rrBytes_ok (top := 256) hR3 (by omega) (by omega)).mono fun v4 M4 ⟨hc4, h5⟩ => ?_
      have u4 : Up M M4 := u3.ch hc4 fun c hc => by simp at hc; omega
      have hk4 : B M4 v3 k := by
        obtain ⟨w', hob, _⟩ := hR3
        exact Sl.keep hk ne_rrd (hc4.keepT hob)
      rw [e_not, BR_bool, if_neg (by simp)]
      cases h6 : rdBytes 256 rest false with
      | none =>
        rw [h6] at h5 ho
        obtain ⟨_, r4, _, h5⟩ := h5
        refine (rEnd_ok h5).mono fun v5 M5 ⟨h7, h8⟩ => ?_
        subst h7; subst h8
        rw [e_not, BR_bool, if_pos (by simp)]
        exact no _ u4 ho
      | some pr =>
        obtain ⟨y, rest'⟩ := pr
        rw [h6] at h5 ho
        simp only [Option.bind_some] at ho
        refine (rEnd_ok h5.2).mono fun v5 M5 ⟨h7, h8⟩ => ?_
        subst h7; subst h8
        rw [e_not, BR_bool]
        split
        · rename_i hb
          refine no _ u4 ?_
          rw [ho, if_neg (by simpa using hb)]
        · rename_i hb
          have ho' : openF l = some (k, y) := by rw [ho, if_pos (by simpa using hb)]
          refine ⟨nts3 hk h5.1, hQ _ _ ⟨u4, ?_⟩⟩
          rw [ho']
          exact ⟨v3, v4, rfl, hk4, h5.1⟩

end Go.G
